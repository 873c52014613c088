/- Layer 4 (tensor): contracts. -/
import Derived.Test.YtjgagbhbgehmpaaShape
import Derived.Recover
import Derived.Defers
namespace Go.Proofs.Ytjgagbhbgehmpaa
open Go.RowKit

/-- A tensor as plain numbers. -/
structure Ten where
  s : List Int
  c : List Int
namespace Tn
def right (t : Ten) : Bool := Sh.right t.s && decide ((t.c.length : Int) = Safe.prod t.s)
theorem right_false {t : Ten} (h : Sh.right t.s = false) : right t = false := by simp [right, h]
theorem right_true {t : Ten} (h : Sh.right t.s = true) : right t = decide ((t.c.length : Int) = Safe.prod t.s) := by simp [right, h]
end Tn

/-- A tensor's two rows read as its numbers. -/
def TenR (w : World) (S C : Option Addr) (t : Ten) : Prop := Ints .i64 w S t.s ∧ Ints .i64 w C t.c
/-- A tensor made by the call: two blocks of its own, known whole. -/
def TenN (B : Nat) (w : World) (v : Value) (t : Ten) : Prop :=
  ∃ g h, v = .agg #[.slice (some ⟨g, 0, none⟩) t.s.length t.s.length, .slice (some ⟨h, 0, none⟩) t.c.length t.c.length] ∧ B ≤ g ∧ B ≤ h ∧
    Blk w g 3 (t.s.map (Value.int .i64)).toArray ∧ Blk w h 52 (t.c.map (Value.int .i64)).toArray

theorem Blk.ints {w : World} {g : Nat} {t : TypeId} {k : IntKind} {zs : List Int} (h : Blk w g t (zs.map (Value.int k)).toArray) : Ints k w (some ⟨g, 0, none⟩) zs := Ints.of_row fun j hj => by
  rw [Nat.zero_add, h.cell j]
  simp [hj]

set_option maxHeartbeats 1000000 in
theorem tensor_right (S C : Option Addr) (c d : Nat) (t : Ten) (w : World) (hl : t.s.length ≤ 9223372036854775807) (hl' : t.c.length ≤ 9223372036854775807) (hI : Ints .i64 w S t.s) :
    Calls Try.prog 35 #[.agg #[.slice S t.s.length c, .slice C t.c.length d]] w fun e w' => e = .returned (.bool (Tn.right t)) ∧ Below w.heap.size w w' := by
  have HI := Lib.hid (hI.alloc (.cells #[.slice S t.s.length c, .slice C t.c.length d] 48))
  clear hI
  have hb0 : Below w.heap.size w (w.alloc (.cells #[.slice S t.s.length c, .slice C t.c.length d] 48)) := (Below.refl _ _).alloc (Nat.le_refl _) _
  go_enter Try.func35, Try.ntmps35
  go_wp2_with fail
  refine (shape_size S c t.s _ (by omega) HI.out).mono ?_
  rintro e w1 ⟨rfl, h1⟩
  have hz := h1.size
  rw [World.size_alloc] at h1 hz
  have hc : w1.cell? ⟨w.heap.size, 1, none⟩ = some (.slice C t.c.length d) := by rw [h1.cell (p := ⟨w.heap.size, 1, none⟩) (Nat.lt_succ_self _)]; simp
  have hb1 := hb0.trans (h1.mono (Nat.le_succ _))
  clear h1 hb0 HI
  cases hr : Sh.right t.s
  · have HS := Lib.hid (show Sh.size t.s = (0, 20) by simp [Sh.size, hr])
    have HR := Lib.hid (Tn.right_false hr)
    clear hr
    rw [HS.out]
    go_wp2_with fail
    go_ret
    exact ⟨by rw [HR.out]; rfl, hb1⟩
  · have HS := Lib.hid (show Sh.size t.s = (Safe.prod t.s, 0) by simp [Sh.size, hr])
    have HR := Lib.hid (Tn.right_true hr)
    clear hr
    rw [HS.out]
    go_wp2_with fail
    go_ret
    refine ⟨?_, hb1⟩
    rw [HR.out]
    by_cases he : (t.c.length : Int) = Safe.prod t.s
    · simp [he]
    · simp [he]

def TenPost (t : Ten) (w : World) (e : Ending) (w' : World) : Prop := ∃ v, e = .returned v ∧ TenN w.heap.size w' v t ∧ Below w.heap.size w w'
set_option maxHeartbeats 1000000 in
theorem tensor_copy (S C : Option Addr) (c d : Nat) (t : Ten) (w : World) (hl : t.s.length ≤ 1000000) (hl' : t.c.length ≤ 1000000) (hT : TenR w S C t) :
    Calls Try.prog 36 #[.agg #[.slice S t.s.length c, .slice C t.c.length d]] w (TenPost t w) := by
  obtain ⟨i0, hi, hz0, hz1, hz2⟩ := info_parts fix_info
  obtain ⟨hI, hC⟩ := hT
  have HI := Lib.hid hI
  have HC := Lib.hid hC
  clear hI hC
  go_enter Try.func36, Try.ntmps36
  go_wp2_with (at_make; refine wpList_make_full _ rfl _ _ 46 rfl w.heap.size 52 i0 (.int .i64 0) 1 Try.underlying46 hi hz0 hz1 _ _ _ _ t.c.length rfl rfl (by first | rfl | simp) (by first | rfl | simp) ?b2 ?b3 ?b4 ?_)
  case b2 => rw [hz2]; omega
  case b3 => unfold maxLen; omega
  case b4 => simp; omega
  intro w1 hown hgrow
  have hblk := own_cur hown
  have hlen := hown.1
  generalize hw0 : (w.alloc (.cells #[.slice S t.s.length c, .slice C t.c.length d] 48)).alloc (.cells #[.slice none 0 0, .slice none 0 0] 48) = w0 at hgrow
  have hsz0 : w0.heap.size = w.heap.size + 2 := by subst hw0; simp
  have hb0 : Below w.heap.size w w0 := by subst hw0; exact ((Below.refl _ _).alloc (Nat.le_refl _) _).alloc (by simp) _
  have hk0 : Blk w0 w.heap.size 48 #[.slice S t.s.length c, .slice C t.c.length d] := by subst hw0; exact (Blk.new w _ _).alloc _
  have hk1 : Blk w0 (w.heap.size + 1) 48 #[.slice none 0 0, .slice none 0 0] := by subst hw0; have := Blk.new (w.alloc (.cells #[.slice S t.s.length c, .slice C t.c.length d] 48)) 48 #[.slice none 0 0, .slice none 0 0]; rwa [World.size_alloc] at this
  clear hw0
  have hk01 := hk0.grown hgrow (by simp)
  have hk11 := hk1.grown hgrow (by simp)
  have hb1 : Below w.heap.size w w1 := hb0.grown hgrow (by omega) (by simp)
  have hsz1 := hgrow.size
  have HC1 := Lib.hid (HC.out.below hb1 (Nat.le_refl _))
  have c0 := hk01.cell 0
  have c1 := hk01.cell 1
  simp at c0 c1
  generalize (madeCells #[Value.int .i64 0] t.c.length).toList = cur at *
  clear hown hgrow HC hk0 hk1 hb0
  go_wp2_with (with_reducible refine wpList_copy_splice rfl (.tmp 8) (.tmp 10) 46 46 rfl 52 Try.underlying46 ?d1 (some ⟨w.heap.size + 1 + 1, 0, none⟩) C t.c.length t.c.length t.c.length d rfl rfl (w.heap.size + 1 + 1) 0 cur 52 hblk (t.c.map (Value.int .i64)) ?d2 ?d3 ?d4 ?d5 (w.heap.size + 2) w1 (Below.refl _ _) (Nat.le_refl _) ?_)
  case d1 => kernel_rfl
  case d2 => simp
  case d3 => intro hp; exact HC1.out.src' (by simpa using hp)
  case d4 => simp at hlen ⊢; omega
  case d5 => intro v hv; obtain ⟨x, _, rfl⟩ := List.mem_map.1 hv; rfl
  intro w2 hw2 hb2
  have hs := splice_all (cur := cur) (cs := t.c.map (Value.int .i64)) (by simp at hlen ⊢; omega)
  have HF := Lib.hid (show Blk w2 (w.heap.size + 1 + 1) 52 (t.c.map (Value.int .i64)).toArray by rw [← hs]; exact hw2.out)
  have hk02 := hk01.below hb2 (by omega)
  have hk12 := hk11.below hb2 (by omega)
  have hb3 := hb1.trans (hb2.mono (by omega))
  have hsz2 := hb2.size
  have HI2 := Lib.hid (HI.out.below hb3 (Nat.le_refl _))
  clear hw2 hb1 hlen hs hblk c0 c1 hk01 hk11 HC1 HI hb2
  have c0 := hk02.cell 0
  simp at c0
  go_wp2_with fail
  refine (shape_copy S c t.s _ hl HI2.out).mono ?_
  rintro e w3 ⟨g, rfl, hg, hgb, h3⟩
  have hk13 := hk12.below h3 hk12.lt
  have HF3 := HF.out.below h3 HF.out.lt
  have HG3 : Blk w3 g 3 (t.s.map (Value.int .i64)).toArray := hgb
  have c1 := hk13.cell 0
  have c2 := hk13.cell 1
  have f1 := hk13.frozen 0
  have f2 := hk13.frozen 1
  simp at c1 c2
  have hb4 := hb3.trans (h3.mono hb3.size)
  have HK := Lib.hid hk13
  have HF := Lib.hid HF3
  have HG := Lib.hid HG3
  have hgne : w.heap.size + 1 ≠ g := by have := hb3.size; omega
  clear hk02 hk12 hb3 c0 h3 hgb HI2 hk13 HF3 HG3
  go_wp2_with fail
  refine bodyPost_ret (v := .agg #[.slice (some ⟨g, 0, none⟩) t.s.length t.s.length, .slice (some ⟨w.heap.size + 1 + 1, 0, none⟩) t.c.length t.c.length]) (by simp [results, Try.results36, go_sem, c1, c2]) rfl ?_
  exact ⟨_, rfl, ⟨g, w.heap.size + 1 + 1, rfl, by omega, by omega, (HG.out.far (p := ⟨w.heap.size + 1, 0, none⟩) (Ne.symm hgne) _).far (p := ⟨w.heap.size + 1, 1, none⟩) (Ne.symm hgne) _, (HF.out.far (p := ⟨w.heap.size + 1, 0, none⟩) (by simp) _).far (p := ⟨w.heap.size + 1, 1, none⟩) (by simp) _⟩, (hb4.setCell (p := ⟨w.heap.size + 1, 0, none⟩) (Nat.le_succ _) _).setCell (p := ⟨w.heap.size + 1, 1, none⟩) (Nat.le_succ _) _⟩

def MakeP (s : List Int) (f : Int) (w : World) (e : Ending) (w' : World) : Prop :=
  (Sh.right s = false ∧ e = .returned (.tuple #[.agg #[.slice none 0 0, .slice none 0 0], .int .i64 20]) ∨ Sh.right s = true ∧ ∃ v, e = .returned (.tuple #[v, .int .i64 0]) ∧ TenN w.heap.size w' v ⟨s, List.replicate (Safe.prod s).toNat f⟩) ∧ Below w.heap.size w w'
theorem fill_all {cs : List Value} {n : Nat} {f : Int} (hl : cs.length = n) (h : ∀ j, j < n → cs[j]? = some (.int .i64 f)) : cs = (List.replicate n f).map (Value.int .i64) := by
  apply List.ext_getElem?
  intro j
  by_cases hj : j < n
  · rw [h j hj]; simp [hj]
  · rw [List.getElem?_eq_none (by omega), List.getElem?_eq_none (by simp; omega)]
set_option maxHeartbeats 2000000 in
theorem tensor_make (S : Option Addr) (c : Nat) (s : List Int) (f : Int) (w : World) (hl : s.length ≤ 1000000) (hI : Ints .i64 w S s) :
    Calls Try.prog 53 #[.slice S s.length c, .int .i64 f] w (MakeP s f w) := by
  obtain ⟨i0, hi, hz0, hz1, hz2⟩ := info_parts fix_info
  have hI0 := hI.alloc (.cells #[.slice none 0 0, .slice none 0 0] 48)
  have hk0 := Blk.new w 48 #[.slice none 0 0, .slice none 0 0]
  have hb0 : Below w.heap.size w (w.alloc (.cells #[.slice none 0 0, .slice none 0 0] 48)) := (Below.refl _ _).alloc (Nat.le_refl _) _
  have HI := Lib.hid hI
  have HI0 := Lib.hid hI0
  have Hk0 := Lib.hid hk0
  clear hI hI0 hk0
  go_enter Try.func53, Try.ntmps53
  go_wp2_with fail
  refine (shape_size S c s _ (by omega) HI0.out).mono ?_
  rintro e w1 ⟨rfl, h1⟩
  have hk1 := Hk0.out.below h1 (by simp)
  have hb1 := hb0.trans (h1.mono (by simp))
  have hsz1 := h1.size
  rw [World.size_alloc] at hsz1
  clear h1 hb0 HI0 Hk0
  cases hr : Sh.right s
  · have HS := Lib.hid (show Sh.size s = (0, 20) by simp [Sh.size, hr])
    rw [HS.out]
    have c0 := hk1.cell 0
    have c1 := hk1.cell 1
    have f0 := hk1.frozen 0
    have f1 := hk1.frozen 1
    simp at c0 c1
    have Hk1 := Lib.hid hk1
    have Hr := Lib.hid hr
    clear hk1 hr
    go_wp2_with fail
    refine bodyPost_ret (v := .tuple #[.agg #[.slice none 0 0, .slice none 0 0], .int .i64 20]) (by simp [results, Try.results53, go_sem, c0, c1]) rfl ?_
    exact ⟨.inl ⟨Hr.out, rfl⟩, (hb1.setCell (p := ⟨w.heap.size, 0, none⟩) (Nat.le_refl _) _).setCell (p := ⟨w.heap.size, 1, none⟩) (Nat.le_refl _) _⟩
  · have HS := Lib.hid (show Sh.size s = (Safe.prod s, 0) by simp [Sh.size, hr])
    obtain ⟨_, _, _, _, hp1, hp2⟩ := Sh.right_mul hr
    rw [HS.out]
    have HP := Lib.hid (rfl : (Safe.prod s).toNat = (Safe.prod s).toNat)
    obtain ⟨n, hn⟩ := Int.eq_ofNat_of_zero_le (show 0 ≤ Safe.prod s by omega)
    have HN := Lib.hid (show (Safe.prod s).toNat = n by omega)
    rw [hn] at hp1 hp2 ⊢
    have Hk1 := Lib.hid hk1
    have Hr := Lib.hid hr
    clear hk1 hr
    clear HP HS hn
    go_wp2_with (at_make; refine wpList_make_full _ rfl _ _ 46 rfl w.heap.size 52 i0 (.int .i64 0) 1 Try.underlying46 hi hz0 hz1 _ _ _ _ n rfl rfl (by first | rfl | simp) (by first | rfl | simp) ?b2 ?b3 ?b4 ?_)
    case b2 => rw [hz2]; omega
    case b3 => unfold maxLen; omega
    case b4 => omega
    intro w2 hown hgrow
    have hblk := own_cur hown
    have hlen := hown.1
    have hlt := lt_of_block hblk
    have hk2 := Hk1.out.grown hgrow (by simp)
    have hb2 : Below w.heap.size w w2 := hb1.grown hgrow (by omega) (by simp)
    generalize hg : w1.heap.size = g at *
    generalize (madeCells #[Value.int .i64 0] n).toList = cur at *
    have Hblk := Lib.hid (show Blk w2 g 52 cur.toArray from hblk)
    have Hlen := Lib.hid (show cur.length = n by omega)
    have Hk2 := Lib.hid hk2
    clear hk2
    clear hown hgrow hblk hlen hg hb1
    go_wp2_with fail
    go_loopw [9, 23] (fun _ i wr => ∃ (k : Nat) (cs : List Value), k ≤ n ∧ i = .int .i64 k ∧ cs.length = n ∧ Blk wr g 52 cs.toArray ∧ (∀ j, j < k → cs[j]? = some (.int .i64 f)) ∧ Blk wr w.heap.size 48 #[.slice none 0 0, .slice none 0 0] ∧ Below w.heap.size w wr) (fun _ i _ => n - (intOf i).toNat)
    case atStart => exact ⟨0, cur, Nat.zero_le _, rfl, Hlen.out, Hblk.out, fun j hj => by omega, Hk2.out, hb2⟩
    case round =>
      clear Hblk Hlen Hk2 hb2
      obtain ⟨k, cs, hk, rfl, hcl, hbk, hall, hkr, hbel⟩ := hrel
      by_cases hlt : k < n
      · obtain ⟨v0, c0⟩ : ∃ v, wr.cell? ⟨g, k, none⟩ = some v := ⟨cs[k], by rw [hbk.cell k]; simp [hcl, hlt]⟩
        have f0 := hbk.frozen k
        have Hcl := Lib.hid hcl
        have Hbk := Lib.hid hbk
        have Hall := Lib.hid hall
        have Hkr := Lib.hid hkr
        clear hcl hbk hall hkr
        go_wp2_with fail
        go_roundw
        case rel =>
          refine ⟨k + 1, cs.set k (.int .i64 f), by omega, by go_num, by rw [List.length_set]; exact Hcl.out, ?_, ?_, Hkr.out.far (p := ⟨g, k, none⟩) (by simp; omega) _, hbel.setCell (p := ⟨g, k, none⟩) (by simp; omega) _⟩
          · have := Hbk.out.set_ k (.int .i64 f); simpa using this
          · intro j hj
            rw [List.getElem?_set]
            by_cases e : k = j
            · subst e; simp [Hcl.out, hlt]
            · rw [if_neg e]; exact Hall.out j (by omega)
        case measure => simp [intOf]; omega
      · obtain rfl : k = n := by omega
        have HE := Lib.hid (fill_all hcl hall)
        rw [HE.out] at hbk
        have hsz := hbel.size
        have hglt := hbk.lt
        have Hbk := Lib.hid hbk
        have Hkr := Lib.hid hkr
        clear hbk hkr
        clear hall hcl
        go_wp2_with fail
        refine (shape_copy S c s _ hl (HI.out.below hbel (Nat.le_refl _))).mono ?_
        rintro e w3 ⟨q, rfl, hq, hqb, h3⟩
        have hk3 := Hkr.out.below h3 Hkr.out.lt
        have c0 := hk3.cell 0
        have c1 := hk3.cell 1
        have f0 := hk3.frozen 0
        have f1 := hk3.frozen 1
        simp at c0 c1
        have HG := Lib.hid (show Blk w3 q 3 (s.map (Value.int .i64)).toArray from hqb)
        have HH := Lib.hid (Hbk.out.below h3 Hbk.out.lt)
        have hb4 := hbel.trans (h3.mono hbel.size)
        clear hk3 hqb h3 hbel
        go_wp2_with fail
        refine bodyPost_ret (v := .tuple #[.agg #[.slice (some ⟨q, 0, none⟩) s.length s.length, .slice (some ⟨g, 0, none⟩) k k], .int .i64 0]) (by simp [results, Try.results53, go_sem, c0, c1]) rfl ?_
        refine ⟨.inr ⟨Hr.out, _, rfl, q, g, by rw [HN.out]; simp, by omega, by omega, ?_, ?_⟩, (hb4.setCell (p := ⟨w.heap.size, 0, none⟩) (Nat.le_refl _) _).setCell (p := ⟨w.heap.size, 1, none⟩) (Nat.le_refl _) _⟩
        · exact (HG.out.far (p := ⟨w.heap.size, 0, none⟩) (by simp; omega) _).far (p := ⟨w.heap.size, 1, none⟩) (by simp; omega) _
        · rw [HN.out]; exact (HH.out.far (p := ⟨w.heap.size, 0, none⟩) (by simp; omega) _).far (p := ⟨w.heap.size, 1, none⟩) (by simp; omega) _
end Go.Proofs.Ytjgagbhbgehmpaa
