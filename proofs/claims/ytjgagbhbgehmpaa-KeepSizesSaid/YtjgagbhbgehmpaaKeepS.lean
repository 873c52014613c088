/- Layer 27 (keep): state: contract. -/
import Derived.Test.YtjgagbhbgehmpaaKeepR
import Derived.Test.YtjgagbhbgehmpaaOwn
import Derived.Test.YtjgagbhbgehmpaaInfo
namespace Go.Proofs.Ytjgagbhbgehmpaa
open Go.RowKit

/-- A tensor and the blocks of its shape and its cells. -/
abbrev TenA := Ten × Nat × Nat
def TenA.cells (x : TenA) : List Value := [.slice (some ⟨x.2.1, 0, none⟩) x.1.s.length x.1.s.length, .slice (some ⟨x.2.2, 0, none⟩) x.1.c.length x.1.c.length]
def TenA.ok (x : TenA) (w : World) : Prop := Blk w x.2.1 3 (x.1.s.map (Value.int .i64)).toArray ∧ Blk w x.2.2 52 (x.1.c.map (Value.int .i64)).toArray
abbrev TensN (B C : Nat) (w : World) (v : Value) (L : List TenA) : Prop := OwnRow B C w 48 2 v TenA.cells TenA.ok L
theorem TenA.len (x : TenA) : x.cells.length = 2 := rfl
theorem TensN.tens {B C : Nat} {w : World} {v : Value} {L : List TenA} (h : TensN B C w v L) (hs : ∀ x ∈ L, x.1.s.length ≤ 1000000 ∧ x.1.c.length ≤ 1000000) : ∃ A c, v = .slice A (L.map (·.1)).length c ∧ Tens w A (L.map (·.1)) := by
  obtain ⟨A, c, hv, _⟩ := h.form
  refine ⟨A, c, by rw [List.length_map]; exact hv, fun j hj => ?_⟩
  rw [List.length_map] at hj
  obtain ⟨b, cap, hv', _, _, _, hc⟩ := OwnRow.at_ h TenA.len hj
  rw [hv] at hv'
  injection hv' with hA
  have h0 := hc 0 (by omega)
  have h1 := hc 1 (by omega)
  have hk := h.now L[j] (List.getElem_mem hj)
  have hl := hs L[j] (List.getElem_mem hj)
  rw [List.getElem_map]
  refine ⟨b, 0, _, _, _, _, hA, World.block_lt_of_cell? _ _ h0, by rw [Nat.zero_add]; exact h0, by rw [Nat.zero_add]; exact h1, ⟨hk.1.ints, hk.2.ints⟩, by omega, by omega⟩

namespace Kr
def readP : Nat → List Ten → Option (List Int) → Int × List Ten × Option (List Int)
  | 0, acc, st => (0, acc, st)
  | k + 1, acc, st =>
    if (Fp.shapeR st).2.isNone then (16, [], none)
    else if (cells (Fp.shapeR st).1 (Fp.shapeR st).2).1 ≠ 0 then ((cells (Fp.shapeR st).1 (Fp.shapeR st).2).1, [], (cells (Fp.shapeR st).1 (Fp.shapeR st).2).2.2)
    else readP k (acc ++ [⟨(Fp.shapeR st).1, (cells (Fp.shapeR st).1 (Fp.shapeR st).2).2.1⟩]) (cells (Fp.shapeR st).1 (Fp.shapeR st).2).2.2
def readV : List (List Int) → List Ten → Option (List Int) → Int × List Ten × Option (List Int)
  | [], acc, st => (0, acc, st)
  | f :: r, acc, st =>
    if (cells f st).1 ≠ 0 then ((cells f st).1, [], (cells f st).2.2)
    else readV r (acc ++ [⟨f, (cells f st).2.1⟩]) (cells f st).2.2
def state3 (p : Int × List Ten × Option (List Int)) (v : Int × List Ten × Option (List Int)) : Int × List Ten × List Ten × Option (List Int) :=
  if v.1 ≠ 0 then (v.1, [], [], v.2.2) else (0, p.2.1, v.2.1, v.2.2)
def state2 (p : Int × List Ten × Option (List Int)) : Int × List Ten × List Ten × Option (List Int) :=
  if p.1 ≠ 0 then (p.1, [], [], p.2.2) else state3 p (readV (p.2.1.map (·.s)) [] p.2.2)
def state1 (c : Int × Int × Option (List Int)) : Int × List Ten × List Ten × Option (List Int) :=
  if c.2.1 ≠ 0 then (c.2.1, [], [], c.2.2) else state2 (readP c.1.toNat [] c.2.2)
def state (st : Option (List Int)) : Int × List Ten × List Ten × Option (List Int) := state1 (count 512 st)
theorem readP_short {k : Nat} {acc : List Ten} {st : Option (List Int)} (h : (Fp.shapeR st).2 = none) : readP (k + 1) acc st = (16, [], none) := by simp [readP, h]
theorem readP_bad {k : Nat} {acc : List Ten} {st s2 : Option (List Int)} {f : List Int} (hs : Fp.shapeR st = (f, s2)) (h : s2 ≠ none) (hc : (cells f s2).1 ≠ 0) : readP (k + 1) acc st = ((cells f s2).1, [], (cells f s2).2.2) := by
  cases s2 with
  | none => exact absurd rfl h
  | some bs => simp [readP, hs, hc]
theorem readP_ok {k : Nat} {acc : List Ten} {st s2 : Option (List Int)} {f : List Int} (hs : Fp.shapeR st = (f, s2)) (h : s2 ≠ none) (hc : (cells f s2).1 = 0) : readP (k + 1) acc st = readP k (acc ++ [⟨f, (cells f s2).2.1⟩]) (cells f s2).2.2 := by
  cases s2 with
  | none => exact absurd rfl h
  | some bs => simp [readP, hs, hc]
theorem readV_bad {f : List Int} {r : List (List Int)} {acc : List Ten} {st : Option (List Int)} (hc : (cells f st).1 ≠ 0) : readV (f :: r) acc st = ((cells f st).1, [], (cells f st).2.2) := by simp [readV, hc]
theorem readV_ok {f : List Int} {r : List (List Int)} {acc : List Ten} {st : Option (List Int)} (hc : (cells f st).1 = 0) : readV (f :: r) acc st = readV r (acc ++ [⟨f, (cells f st).2.1⟩]) (cells f st).2.2 := by simp [readV, hc]
theorem cells_right {s : List Int} {st : Option (List Int)} (h : (cells s st).1 = 0) : Sh.right s = true ∧ (cells s st).2.1.length = (Safe.prod s).toNat := by
  unfold cells at h ⊢
  cases hr : Sh.right s
  · rw [hr] at h; simp at h
  · rw [hr] at h
    simp only [Bool.true_eq_false, if_false] at h ⊢
    cases hn : (nums (Safe.prod s).toNat st).2
    · rw [hn] at h; simp at h
    · simp [nums_len]
theorem cells_small {s : List Int} {st : Option (List Int)} (h : (cells s st).1 = 0) : s.length ≤ 4 ∧ (cells s st).2.1.length ≤ 65536 := by
  obtain ⟨hr, hl⟩ := cells_right h
  obtain ⟨_, h1, _, _, _, h2⟩ := Sh.right_mul hr
  omega
end Kr

namespace Fp
theorem sides_len {c : Nat} {bs : List Int} {p : List Int × List Int} (h : sides c bs = some p) : p.1.length = c := by
  induction c generalizing bs p with
  | zero => simp [sides] at h; subst h; rfl
  | succ c ih =>
    by_cases hl : bs.length < 2
    · rw [sides_short hl] at h; cases h
    · rw [sides_ok hl] at h
      obtain ⟨q, hq, rfl⟩ := Option.map_eq_some_iff.1 h
      simp [ih hq]
theorem shapeR_len {st : Option (List Int)} (h : okB st) : (shapeR st).1.length ≤ 255 := by
  cases st with
  | none => simp [shapeR]
  | some bs =>
    by_cases hl : bs.length < 1
    · simp [shapeR, hl]
    · simp only [shapeR, hl, if_false]
      cases hs : sides (num (bs.take 1)).toNat (bs.drop 1) with
      | none => simp
      | some p =>
        have := num_byte (bs.take 1) (fun x hx => h x (List.mem_of_mem_take hx))
        rw [List.length_take, Nat.min_eq_left (by omega)] at this
        have h2 := sides_len hs
        simp; omega
end Fp

def StateP (r : Nat) (st : Option (List Int)) (w : World) (e : Ending) (w' : World) : Prop :=
  ((Kr.state st).1 ≠ 0 ∧ e = .returned (.tuple #[.agg #[.slice none 0 0, .slice none 0 0], .int .i64 (Kr.state st).1]) ∨ (Kr.state st).1 = 0 ∧ ∃ A c A' c' LP LV, e = .returned (.tuple #[.agg #[.slice A (Kr.state st).2.1.length c, .slice A' (Kr.state st).2.2.1.length c'], .int .i64 0]) ∧ LP.map (·.1) = (Kr.state st).2.1 ∧ LV.map (·.1) = (Kr.state st).2.2.1 ∧ TensN w.heap.size w'.heap.size w' (.slice A (Kr.state st).2.1.length c) LP ∧ TensN w.heap.size w'.heap.size w' (.slice A' (Kr.state st).2.2.1.length c') LV) ∧ RdO r (Kr.state st).2.2.2 w' ∧ Fr (fun b => b = r) w w'
theorem zero_box {S : Nat → Prop} {r B : Nat} {st : Option (List Int)} {w w' : World} (hR : RdO r st w') (hF : Fr S w w') (hr : r < B) (hB : w.heap.size ≤ B) (a b : Value) : RdO r st ((w'.setCell ⟨B, 0, none⟩ a).setCell ⟨B, 1, none⟩ b) ∧ Fr S w ((w'.setCell ⟨B, 0, none⟩ a).setCell ⟨B, 1, none⟩ b) :=
  ⟨hR.fr (S := fun b => b = B) (((Fr.refl (fun b => b = B) _).setCell (p := ⟨B, 0, none⟩) (fun _ => rfl) _).setCell (p := ⟨B, 1, none⟩) (fun _ => rfl) _) (fun b e => by omega),
   (hF.setCell (p := ⟨B, 0, none⟩) (fun h => absurd h (by simp; omega)) _).setCell (p := ⟨B, 1, none⟩) (fun h => absurd h (by simp; omega)) _⟩
set_option maxHeartbeats 4000000 in
set_option maxRecDepth 100000 in
theorem keep_state (r : Nat) (st : Option (List Int)) (w : World) (hR : RdO r st w) :
    Calls Try.prog 28 #[.pointer (some ⟨r, 0, none⟩)] w (StateP r st w) := by
  obtain ⟨i0, hi, hz0, hz1, hz2⟩ := info_parts ten_info
  have hrl := hR.lt
  have hk0 := (Blk.new w 24 #[.slice none 0 0, .slice none 0 0]).alloc (.cells #[.slice none 0 0, .slice none 0 0] 24)
  have hq0 := Blk.new (w.alloc (.cells #[.slice none 0 0, .slice none 0 0] 24)) 24 #[.slice none 0 0, .slice none 0 0]
  rw [World.size_alloc] at hq0
  have hR0 := (hR.alloc (.cells #[.slice none 0 0, .slice none 0 0] 24)).alloc (.cells #[.slice none 0 0, .slice none 0 0] 24)
  have hF0 := ((Fr.refl (fun b => b = r) w).alloc (.cells #[.slice none 0 0, .slice none 0 0] 24)).alloc (.cells #[.slice none 0 0, .slice none 0 0] 24)
  have hsz0 : w.heap.size + 2 ≤ ((w.alloc (.cells #[.slice none 0 0, .slice none 0 0] 24)).alloc (.cells #[.slice none 0 0, .slice none 0 0] 24)).heap.size := by simp
  have Hk0 := Lib.hid hk0
  have Hq0 := Lib.hid hq0
  have HR0 := Lib.hid hR0
  have HF0 := Lib.hid hF0
  clear hk0 hq0 hR0 hF0
  clear hR
  go_enter Try.func28, Try.ntmps28
  go_wp2_with fail
  generalize (w.alloc (.cells #[.slice none 0 0, .slice none 0 0] 24)).alloc (.cells #[.slice none 0 0, .slice none 0 0] 24) = w0 at *
  refine (keep_count r 512 st _ HR0.out).mono ?_
  rintro e w1 ⟨rfl, hR1, hF1⟩
  have hk1 := hF1.blk Hk0.out (by omega)
  have hq1 := hF1.blk Hq0.out (by omega)
  have hF1 := HF0.out.trans hF1
  have HST := Lib.hid (show Kr.state st = Kr.state1 ((Kr.count 512 st).1, (Kr.count 512 st).2.1, (Kr.count 512 st).2.2) from rfl)
  have hsz1 := hF1.size
  have hc0 : 0 ≤ (Kr.count 512 st).1 ∧ (Kr.count 512 st).1 ≤ 512 := by
    unfold Kr.count
    have h2 := Kr.get_two HR0.out.ok
    split
    · simp
    · split <;> simp <;> omega
  generalize (Kr.count 512 st).1 = n at *
  generalize (Kr.count 512 st).2.1 = er at *
  generalize (Kr.count 512 st).2.2 = st1 at *
  clear Hk0 Hq0 HR0 HF0
  have c0 := hk1.cell 0
  have c1 := hk1.cell 1
  have f0 := hk1.frozen 0
  have f1 := hk1.frozen 1
  simp at c0 c1
  by_cases he : er = 0
  · subst he
    obtain ⟨m, rfl⟩ := Int.eq_ofNat_of_zero_le hc0.1
    obtain ⟨_, hm⟩ := hc0
    have HS2 := Lib.hid (show Kr.state st = Kr.state2 (Kr.readP m [] st1) by rw [HST.out]; simp [Kr.state1])
    clear HST
    have Hk1 := Lib.hid hk1
    have Hq1 := Lib.hid hq1
    have HR1 := Lib.hid hR1
    have HF1 := Lib.hid hF1
    clear hk1 hq1 hR1 hF1
    clear c0 c1 f0 f1
    go_wp2_with fail
    go_loopw [7, 8, 9, 23] (fun _ _ _ i wr => ∃ (k : Nat) (L : List TenA) (st' : Option (List Int)) (A : Option Addr) (cap : Nat), k ≤ m ∧ i = .int .i64 k ∧ L.length = k ∧ Kr.readP m [] st1 = Kr.readP (m - k) (L.map (·.1)) st' ∧ RdO r st' wr ∧ TensN (w.heap.size + 2) wr.heap.size wr (.slice A L.length cap) L ∧ Blk wr (w.heap.size + 1) 24 #[.slice A L.length cap, .slice none 0 0] ∧ Blk wr w.heap.size 24 #[.slice none 0 0, .slice none 0 0] ∧ Fr (fun b => b = r) w wr ∧ (∀ x ∈ L, x.1.s.length ≤ 4 ∧ x.1.c.length ≤ 65536)) (fun _ _ _ i _ => m - (intOf i).toNat)
    case atStart => exact ⟨0, [], st1, none, 0, Nat.zero_le _, rfl, rfl, rfl, HR1.out, OwnRow.nil _ _ _ _ _ _, Hq1.out, Hk1.out, HF1.out, by simp⟩
    case round =>
      clear HR1 HF1 Hk1 Hq1
      obtain ⟨k, L, st', A, cap, hk, rfl, hL, hP, hR, hN, hq, hk0, hF, hsm⟩ := hrel
      have hsz := hF.size
      have hql := hq.lt
      by_cases hlt : k < m
      · have hok := hR.ok
        have hfl := Fp.shapeR_len hok
        obtain ⟨mk, hmk⟩ : ∃ j, m - k = j + 1 := ⟨m - k - 1, by omega⟩
        rw [hmk] at hP
        have hmk2 : mk = m - (k + 1) := by omega
        have HL := Lib.hid hL
        have HP := Lib.hid hP
        have HR := Lib.hid hR
        have HN := Lib.hid hN
        have Hq := Lib.hid hq
        have Hk0 := Lib.hid hk0
        have HF := Lib.hid hF
        have Hsm := Lib.hid hsm
        have Hmk := Lib.hid hmk
        have Hmk2 := Lib.hid hmk2
        clear hL hP hR hN hq hk0 hF hsm hmk hmk2
        clear hok
        go_wp2_with fail
        refine (reader_shape r st' _ HR.out).mono ?_
        rintro e w2 ⟨v2, rfl, hown2, hR2, hg2⟩
        obtain ⟨A2, c2, hv2, _, hI2⟩ := Ints.of_own hown2
        subst hv2
        have hF2 := Fr.of_grown (S := fun b => b = r) hg2 (fun k e _ => by injection e with e; exact e.symm)
        have hN2 := OwnRow.fr HN.out hF2 (fun b hb _ e => by omega)
        have hq2 := hF2.blk Hq.out (by omega)
        have hk2 := hF2.blk Hk0.out (by omega)
        have hF2 := HF.out.trans hF2
        have hsz2 := hg2.size
        have HSR := Lib.hid (show Fp.shapeR st' = ((Fp.shapeR st').1, (Fp.shapeR st').2) from rfl)
        clear HR HN Hq Hk0 HF hown2 hg2
        generalize (Fp.shapeR st').1 = f at *
        generalize (Fp.shapeR st').2 = s2 at *
        have HR2 := Lib.hid hR2
        have HN2 := Lib.hid hN2
        have Hq2 := Lib.hid hq2
        have Hk2 := Lib.hid hk2
        have HF2 := Lib.hid hF2
        have HI2 := Lib.hid hI2
        clear hR2 hN2 hq2 hk2 hF2 hI2
        go_wp2_with fail
        refine (keep_short r s2 _ HR2.out).mono ?_
        rintro e w3 ⟨rfl, rfl⟩
        cases s2 with
        | none =>
          have HE := Lib.hid (show Kr.state st = (16, [], [], none) by rw [HS2.out, HP.out, Kr.readP_short (by rw [HSR.out])]; rfl)
          obtain ⟨hR4, hF4⟩ := zero_box HR2.out HF2.out hrl (Nat.le_refl _) (.slice none 0 0) (.slice none 0 0)
          have c0 := Hk2.out.cell 0
          have c1 := Hk2.out.cell 1
          have f0 := Hk2.out.frozen 0
          have f1 := Hk2.out.frozen 1
          simp at c0 c1
          have HR4 := Lib.hid hR4
          have HF4 := Lib.hid hF4
          clear hR4 hF4
          go_wp2_with fail
          refine bodyPost_ret (v := .tuple #[.agg #[.slice none 0 0, .slice none 0 0], .int .i64 16]) (by simp [results, Try.results28, go_sem, c0, c1]) rfl ?_
          exact ⟨.inl ⟨by rw [HE.out]; simp, by rw [HE.out]⟩, by rw [HE.out]; exact HR4.out, HF4.out⟩
        | some bs =>
          go_wp2_with fail
          refine (keep_cells r A2 c2 f (some bs) _ HR2.out (by omega) HI2.out).mono ?_
          rintro e w4 ⟨hcase, hR4, hF4⟩
          have hN4 := OwnRow.fr HN2.out hF4 (fun b hb _ e => by omega)
          have hq4 := hF4.blk Hq2.out (by omega)
          have hk4 := hF4.blk Hk2.out (by omega)
          have hsz4 := hF4.size
          have hF4 := HF2.out.trans hF4
          clear HR2 HN2 Hq2 Hk2 HF2 HI2
          rcases hcase with ⟨he, rfl⟩ | ⟨he, v, rfl, g, h, rfl, hgb, hhb, hG, hH⟩
          · have HE := Lib.hid (show Kr.state st = ((Kr.cells f (some bs)).1, [], [], (Kr.cells f (some bs)).2.2) by rw [HS2.out, HP.out, Kr.readP_bad HSR.out (by simp) he]; simp [Kr.state2, he])
            have hne : ((Kr.cells f (some bs)).1 != 0) = true := by simp [he]
            obtain ⟨hR5, hF5⟩ := zero_box (hR4.alloc (.cells #[.slice none 0 0, .slice none 0 0] 48)) (hF4.alloc (.cells #[.slice none 0 0, .slice none 0 0] 48)) hrl (Nat.le_refl _) (.slice none 0 0) (.slice none 0 0)
            have hk5 := hk4.alloc (.cells #[.slice none 0 0, .slice none 0 0] 48)
            have c0 := hk5.cell 0
            have c1 := hk5.cell 1
            have f0 := hk5.frozen 0
            have f1 := hk5.frozen 1
            simp at c0 c1
            have HR5 := Lib.hid hR5
            have HF5 := Lib.hid hF5
            have He := Lib.hid he
            clear hR5 hF5 he
            clear hR4 hF4 hN4 hq4 hk4 hk5
            generalize (Kr.cells f (some bs)).1 = er at *
            go_wp2_with fail
            refine bodyPost_ret (v := .tuple #[.agg #[.slice none 0 0, .slice none 0 0], .int .i64 er]) (by simp [results, Try.results28, go_sem, c0, c1]) rfl ?_
            exact ⟨.inl ⟨by rw [HE.out]; exact He.out, by rw [HE.out]⟩, by rw [HE.out]; exact HR5.out, HF5.out⟩
          · have HP5 := Lib.hid (show Kr.readP m [] st1 = Kr.readP mk (L.map (·.1) ++ [⟨f, (Kr.cells f (some bs)).2.1⟩]) (Kr.cells f (some bs)).2.2 by rw [HP.out, Kr.readP_ok HSR.out (by simp) he])
            have hcs := Kr.cells_small he
            generalize (Kr.cells f (some bs)).2.2 = st5 at *
            generalize (Kr.cells f (some bs)).2.1 = cl at *
            clear he HP HSR
            simp only at hG hH
            have hR6 := (hR4.alloc (.cells #[.slice (some ⟨g, 0, none⟩) f.length f.length, .slice (some ⟨h, 0, none⟩) cl.length cl.length] 48)).alloc (.cells #[.slice (some ⟨g, 0, none⟩) f.length f.length, .slice (some ⟨h, 0, none⟩) cl.length cl.length] 48)
            have hF6 := (hF4.alloc (.cells #[.slice (some ⟨g, 0, none⟩) f.length f.length, .slice (some ⟨h, 0, none⟩) cl.length cl.length] 48)).alloc (.cells #[.slice (some ⟨g, 0, none⟩) f.length f.length, .slice (some ⟨h, 0, none⟩) cl.length cl.length] 48)
            have hq6 := (hq4.alloc (.cells #[.slice (some ⟨g, 0, none⟩) f.length f.length, .slice (some ⟨h, 0, none⟩) cl.length cl.length] 48)).alloc (.cells #[.slice (some ⟨g, 0, none⟩) f.length f.length, .slice (some ⟨h, 0, none⟩) cl.length cl.length] 48)
            have hk6 := (hk4.alloc (.cells #[.slice (some ⟨g, 0, none⟩) f.length f.length, .slice (some ⟨h, 0, none⟩) cl.length cl.length] 48)).alloc (.cells #[.slice (some ⟨g, 0, none⟩) f.length f.length, .slice (some ⟨h, 0, none⟩) cl.length cl.length] 48)
            have hN6 := OwnRow.fr (S := fun _ => False) hN4 (((Fr.refl (fun _ => False) w4).alloc (.cells #[.slice (some ⟨g, 0, none⟩) f.length f.length, .slice (some ⟨h, 0, none⟩) cl.length cl.length] 48)).alloc (.cells #[.slice (some ⟨g, 0, none⟩) f.length f.length, .slice (some ⟨h, 0, none⟩) cl.length cl.length] 48)) (fun _ _ _ h => h)
            have hG6 := (hG.alloc (.cells #[.slice (some ⟨g, 0, none⟩) f.length f.length, .slice (some ⟨h, 0, none⟩) cl.length cl.length] 48)).alloc (.cells #[.slice (some ⟨g, 0, none⟩) f.length f.length, .slice (some ⟨h, 0, none⟩) cl.length cl.length] 48)
            have hH6 := (hH.alloc (.cells #[.slice (some ⟨g, 0, none⟩) f.length f.length, .slice (some ⟨h, 0, none⟩) cl.length cl.length] 48)).alloc (.cells #[.slice (some ⟨g, 0, none⟩) f.length f.length, .slice (some ⟨h, 0, none⟩) cl.length cl.length] 48)
            have hd6 := Blk.new (w4.alloc (.cells #[.slice (some ⟨g, 0, none⟩) f.length f.length, .slice (some ⟨h, 0, none⟩) cl.length cl.length] 48)) 48 #[.slice (some ⟨g, 0, none⟩) f.length f.length, .slice (some ⟨h, 0, none⟩) cl.length cl.length]
            rw [World.size_alloc] at hd6
            have hgl := hG.lt
            have hhl := hH.lt
            have d0 := (hq4.alloc (.cells #[.slice (some ⟨g, 0, none⟩) f.length f.length, .slice (some ⟨h, 0, none⟩) cl.length cl.length] 48)).cell 0
            simp at d0
            have HR6 := Lib.hid hR6
            have HF6 := Lib.hid hF6
            have Hq6 := Lib.hid hq6
            have Hk6 := Lib.hid hk6
            have HN6 := Lib.hid hN6
            have HG6 := Lib.hid hG6
            have HH6 := Lib.hid hH6
            have Hd6 := Lib.hid hd6
            have Hcs := Lib.hid hcs
            clear hR6 hF6 hq6 hk6 hN6 hG6 hH6 hd6 hcs
            clear hR4 hF4 hq4 hk4 hN4 hG hH
            have hLb : L.length ≤ 512 := by have := HL.out; omega
            go_wp2_with (at_builtin; refine wpList_append_own_at _ rfl _ _ 22 rfl (w.heap.size + 2) 48 i0 (.agg #[.slice none 0 0, .slice none 0 0]) 2 48 Try.underlying22 hi hz0 hz1 hz2 rfl (by decide) _ L.length (L.flatMap TenA.cells) rfl HN6.out.1 ⟨w4.heap.size + 1, 0, none⟩ 1 1 [.slice (some ⟨g, 0, none⟩) f.length f.length, .slice (some ⟨h, 0, none⟩) cl.length cl.length] rfl rfl ?c1 ?c2 ?c3 ?c4 ?c5 ?_)
            case c1 => exact World.news_of_block (cs := #[.slice (some ⟨g, 0, none⟩) f.length f.length, .slice (some ⟨h, 0, none⟩) cl.length cl.length]) Hd6.out
            case c2 => intro u hu; simp at hu; rcases hu with rfl | rfl <;> rfl
            case c3 => unfold maxLen; omega
            case c4 => omega
            case c5 => simp; omega
            intro v7 w7 hown7 hg7 _ hat7
            have hs6 : w4.heap.size + 1 + 1 = ((w4.alloc (.cells #[.slice (some ⟨g, 0, none⟩) f.length f.length, .slice (some ⟨h, 0, none⟩) cl.length cl.length] 48)).alloc (.cells #[.slice (some ⟨g, 0, none⟩) f.length f.length, .slice (some ⟨h, 0, none⟩) cl.length cl.length] 48)).heap.size := by simp
            rw [hs6] at hat7
            clear hs6
            generalize (w4.alloc (.cells #[.slice (some ⟨g, 0, none⟩) f.length f.length, .slice (some ⟨h, 0, none⟩) cl.length cl.length] 48)).alloc (.cells #[.slice (some ⟨g, 0, none⟩) f.length f.length, .slice (some ⟨h, 0, none⟩) cl.length cl.length] 48) = w6 at HR6 HF6 Hq6 Hk6 HN6 HG6 HH6 Hd6 hg7 hat7
            have hb6 : ∀ b, (Value.slice A L.length cap).ownBlock = some b → w.heap.size + 2 ≤ b ∧ b < w2.heap.size := fun b hb => ⟨(HN6.out.1.lt b hb).1, Nat.lt_of_lt_of_le (HN6.out.2.1 b hb) hsz2⟩
            have hN7 := OwnRow.push (x := ((⟨f, cl⟩, g, h) : TenA)) HN6.out hown7 hg7 hat7 (F := fun b => b = g ∨ b = h) (HG6.out.on.and HH6.out.on) (fun b hb => by
              have h1 := HG6.out.lt
              have h2 := HH6.out.lt
              refine ⟨by omega, by omega, fun e => ?_⟩
              have := hb6 b e.symm
              omega)
            obtain ⟨A7, cap7, rfl, _⟩ := OwnRow.form hN7
            have hS7 := Fr.of_grown (S := fun b => w.heap.size + 2 ≤ b) hg7 (fun k e _ => (hb6 k e).1)
            have hR7 := HR6.out.fr hS7 (fun b hb => by omega)
            have hq7 := hS7.blk Hq6.out (by omega)
            have hk7 := hS7.blk Hk6.out (by omega)
            have hF7 := HF6.out.trans' hS7 (fun b hb e => by omega)
            have e0 := hq7.cell 0
            have e1 := hq7.frozen 0
            simp at e0
            have hT8 : Fr (fun b => b = w.heap.size + 1) w7 (w7.setCell ⟨w.heap.size + 1, 0, none⟩ (.slice A7 (L ++ [((⟨f, cl⟩, g, h) : TenA)]).length cap7)) := (Fr.refl (fun b => b = w.heap.size + 1) _).setCell (p := ⟨w.heap.size + 1, 0, none⟩) (fun _ => rfl) _
            have hR8 := hR7.fr hT8 (fun b e => by omega)
            have hN8 := OwnRow.fr hN7 hT8 (fun b hb _ e => by omega)
            have hq8 := hq7.set_ 0 (.slice A7 (L ++ [((⟨f, cl⟩, g, h) : TenA)]).length cap7)
            have hk8 := hT8.blk hk7 (by omega)
            have hF8 := hF7.trans' hT8 (fun b hb e => by omega)
            have hs8 : (w7.setCell ⟨w.heap.size + 1, 0, none⟩ (.slice A7 (L ++ [((⟨f, cl⟩, g, h) : TenA)]).length cap7)).heap.size = w7.heap.size := by simp
            have HL8 := Lib.hid (show (L ++ [((⟨f, cl⟩, g, h) : TenA)]).length = k + 1 by simp [HL.out])
            have hlen8 : L.length + 1 = (L ++ [((⟨f, cl⟩, g, h) : TenA)]).length := by simp
            have HP8 := Lib.hid (show Kr.readP m [] st1 = Kr.readP (m - (k + 1)) ((L ++ [((⟨f, cl⟩, g, h) : TenA)]).map (·.1)) st5 by rw [HP5.out, Hmk2.out]; simp)
            have HS8 := Lib.hid (show ∀ x ∈ L ++ [((⟨f, cl⟩, g, h) : TenA)], x.1.s.length ≤ 4 ∧ x.1.c.length ≤ 65536 by intro x hx; rcases List.mem_append.1 hx with hx | hx; exact Hsm.out x hx; rw [List.mem_singleton] at hx; subst hx; exact Hcs.out)
            generalize L ++ [((⟨f, cl⟩, g, h) : TenA)] = L8 at *
            have HR8 := Lib.hid hR8
            have HN8 := Lib.hid hN8
            have Hq8 := Lib.hid hq8
            have Hk8 := Lib.hid hk8
            have HF8 := Lib.hid hF8
            have Hs8 := Lib.hid hs8
            clear hR8 hN8 hq8 hk8 hF8 hs8
            clear hN7 hR7 hq7 hk7 hF7 hT8 hS7 HR6 HF6 Hq6 Hk6 HN6 HG6 HH6 Hd6 hown7 hg7 hat7 hb6 hlen8 d0
            go_wp2_with fail
            go_roundw
            case rel => exact ⟨k + 1, L8, st5, A7, cap7, by omega, by go_num, HL8.out, HP8.out, HR8.out, by rw [Hs8.out]; exact HN8.out, Hq8.out, Hk8.out, HF8.out, HS8.out⟩
            case measure => simp [intOf]; omega
      · obtain rfl : k = m := by omega
        rw [Nat.sub_self, Kr.readP] at hP
        have HS3 := Lib.hid (show Kr.state st = Kr.state3 (0, L.map (·.1), st') (Kr.readV ((L.map (·.1)).map (·.s)) [] st') by rw [HS2.out, hP]; simp [Kr.state2])
        subst hL
        have HE0 := Lib.hid (show Kr.readV ((L.map (·.1)).map (·.s)) [] st' = Kr.readV (((L.drop 0).map (·.1)).map (·.s)) ((([] : List TenA)).map (·.1)) st' from rfl)
        have hV := OwnRow.nil wr.heap.size wr 48 2 TenA.cells TenA.ok
        have HR := Lib.hid hR
        have HN := Lib.hid hN
        have Hq := Lib.hid hq
        have Hk0 := Lib.hid hk0
        have HF := Lib.hid hF
        have Hsm := Lib.hid hsm
        have HV := Lib.hid hV
        clear hR hN hq hk0 hF hsm hV
        clear hP HS2 hF1
        have HC := Lib.hid (rfl : wr.heap.size = wr.heap.size)
        obtain ⟨C, hC⟩ : ∃ C, C = wr.heap.size := ⟨_, rfl⟩
        rw [← hC] at hsz hql HN HV
        have HCC := Lib.hid hC
        clear hC HC
        go_wp2_with fail
        go_loopw [10, 11, 12, 48] (fun _ _ _ i wv => ∃ (k : Nat) (LV : List TenA) (st2 : Option (List Int)) (A2 : Option Addr) (cap2 : Nat), k ≤ L.length ∧ i = .int .i64 k ∧ LV.length = k ∧ Kr.readV ((L.map (·.1)).map (·.s)) [] st' = Kr.readV (((L.drop k).map (·.1)).map (·.s)) (LV.map (·.1)) st2 ∧ RdO r st2 wv ∧ TensN (w.heap.size + 2) C wv (.slice A L.length cap) L ∧ TensN C wv.heap.size wv (.slice A2 LV.length cap2) LV ∧ Blk wv (w.heap.size + 1) 24 #[.slice A L.length cap, .slice A2 LV.length cap2] ∧ Blk wv w.heap.size 24 #[.slice none 0 0, .slice none 0 0] ∧ Fr (fun b => b = r) w wv ∧ (∀ x ∈ LV, x.1.s.length ≤ 4 ∧ x.1.c.length ≤ 65536)) (fun _ _ _ i _ => L.length - (intOf i).toNat)
        case atStart => exact ⟨0, [], st', none, 0, Nat.zero_le _, rfl, rfl, HE0.out, HR.out, HN.out, by rw [← HCC.out]; exact HV.out, Hq.out, Hk0.out, HF.out, by simp⟩
        case round =>
          clear HE0 HR HN HV Hq Hk0 HF HCC
          obtain ⟨wo, rfl⟩ : ∃ wo : World, wo = wr := ⟨_, rfl⟩
          obtain ⟨k, LV, st2, A2, cap2, hk, rfl, hLV, hP, hR, hN, hV, hq, hk0, hF, hsmV⟩ := hrel
          have hszw := hF.size
          have hCw := hN.2.2.1
          by_cases hlt : k < L.length
          · obtain ⟨b, capb, hvb, hb1, hb2, hb3, hcb⟩ := OwnRow.at_ hN TenA.len hlt
            have hx := hN.now L[k] (List.getElem_mem hlt)
            have hxs := Hsm.out L[k] (List.getElem_mem hlt)
            have hx0 := hcb 0 (by omega)
            rw [Nat.add_zero] at hx0
            rw [List.drop_eq_getElem_cons hlt] at hP
            obtain ⟨x, hxx⟩ : ∃ x, x = L[k] := ⟨_, rfl⟩
            rw [← hxx] at hx hx0 hP hxs
            have hIx := hx.1.ints
            simp only [TenA.cells, List.getElem?_cons_zero] at hx0
            injection hvb with hA hcap
            subst hA
            simp only [List.map_cons] at hP
            have q0 := hq.cell 0
            simp at q0
            have HLV := Lib.hid hLV
            have HP := Lib.hid hP
            have HR := Lib.hid hR
            have HN := Lib.hid hN
            have HV := Lib.hid hV
            have Hq := Lib.hid hq
            have Hk0 := Lib.hid hk0
            have HF := Lib.hid hF
            have HsmV := Lib.hid hsmV
            have HIx := Lib.hid hIx
            clear hLV hP hR hN hV hq hk0 hF hsmV hIx
            clear hxx hx hcb
            obtain ⟨hxs1, hxs2⟩ := hxs
            go_wp2_with fail
            refine (keep_cells r (some ⟨x.2.1, 0, none⟩) x.1.s.length x.1.s st2 _ HR.out (by omega) HIx.out).mono ?_
            rintro e w4 ⟨hcase, hR4, hF4⟩
            have hN4 := OwnRow.fr HN.out hF4 (fun b hb _ e => by omega)
            have hV4 := OwnRow.fr HV.out hF4 (fun b hb _ e => by omega)
            have hq4 := hF4.blk Hq.out (by omega)
            have hk4 := hF4.blk Hk0.out (by omega)
            have hsz4 := hF4.size
            have hF4 := HF.out.trans hF4
            clear HR HN HV Hq Hk0 HF HIx q0 hx0
            rcases hcase with ⟨he, rfl⟩ | ⟨he, v, rfl, g, h, rfl, hgb, hhb, hG, hH⟩
            · have HE := Lib.hid (show Kr.state st = ((Kr.cells x.1.s st2).1, [], [], (Kr.cells x.1.s st2).2.2) by rw [HS3.out, HP.out, Kr.readV_bad he]; simp [Kr.state3, he])
              have hne : ((Kr.cells x.1.s st2).1 != 0) = true := by simp [he]
              obtain ⟨hR5, hF5⟩ := zero_box (hR4.alloc (.cells #[.slice none 0 0, .slice none 0 0] 48)) (hF4.alloc (.cells #[.slice none 0 0, .slice none 0 0] 48)) hrl (Nat.le_refl _) (.slice none 0 0) (.slice none 0 0)
              have hk5 := hk4.alloc (.cells #[.slice none 0 0, .slice none 0 0] 48)
              have c0 := hk5.cell 0
              have c1 := hk5.cell 1
              have f0 := hk5.frozen 0
              have f1 := hk5.frozen 1
              simp at c0 c1
              have HR5 := Lib.hid hR5
              have HF5 := Lib.hid hF5
              have He := Lib.hid he
              clear hR5 hF5 he
              clear hR4 hF4 hN4 hV4 hq4 hk4 hk5
              generalize (Kr.cells x.1.s st2).1 = er at *
              go_wp2_with fail
              refine bodyPost_ret (v := .tuple #[.agg #[.slice none 0 0, .slice none 0 0], .int .i64 er]) (by simp [results, Try.results28, go_sem, c0, c1]) rfl ?_
              exact ⟨.inl ⟨by rw [HE.out]; exact He.out, by rw [HE.out]⟩, by rw [HE.out]; exact HR5.out, HF5.out⟩
            · have HP5 := Lib.hid (show Kr.readV ((L.map (·.1)).map (·.s)) [] st' = Kr.readV (((L.drop (k + 1)).map (·.1)).map (·.s)) (LV.map (·.1) ++ [⟨x.1.s, (Kr.cells x.1.s st2).2.1⟩]) (Kr.cells x.1.s st2).2.2 by rw [HP.out, Kr.readV_ok he])
              have hcs := Kr.cells_small he
              generalize (Kr.cells x.1.s st2).2.2 = st5 at *
              generalize (Kr.cells x.1.s st2).2.1 = cl at *
              clear he HP
              simp only at hG hH
              have hR6 := (hR4.alloc (.cells #[.slice (some ⟨g, 0, none⟩) x.1.s.length x.1.s.length, .slice (some ⟨h, 0, none⟩) cl.length cl.length] 48)).alloc (.cells #[.slice (some ⟨g, 0, none⟩) x.1.s.length x.1.s.length, .slice (some ⟨h, 0, none⟩) cl.length cl.length] 48)
              have hF6 := (hF4.alloc (.cells #[.slice (some ⟨g, 0, none⟩) x.1.s.length x.1.s.length, .slice (some ⟨h, 0, none⟩) cl.length cl.length] 48)).alloc (.cells #[.slice (some ⟨g, 0, none⟩) x.1.s.length x.1.s.length, .slice (some ⟨h, 0, none⟩) cl.length cl.length] 48)
              have hq6 := (hq4.alloc (.cells #[.slice (some ⟨g, 0, none⟩) x.1.s.length x.1.s.length, .slice (some ⟨h, 0, none⟩) cl.length cl.length] 48)).alloc (.cells #[.slice (some ⟨g, 0, none⟩) x.1.s.length x.1.s.length, .slice (some ⟨h, 0, none⟩) cl.length cl.length] 48)
              have hk6 := (hk4.alloc (.cells #[.slice (some ⟨g, 0, none⟩) x.1.s.length x.1.s.length, .slice (some ⟨h, 0, none⟩) cl.length cl.length] 48)).alloc (.cells #[.slice (some ⟨g, 0, none⟩) x.1.s.length x.1.s.length, .slice (some ⟨h, 0, none⟩) cl.length cl.length] 48)
              have hV6 := OwnRow.fr (S := fun _ => False) hV4 (((Fr.refl (fun _ => False) w4).alloc (.cells #[.slice (some ⟨g, 0, none⟩) x.1.s.length x.1.s.length, .slice (some ⟨h, 0, none⟩) cl.length cl.length] 48)).alloc (.cells #[.slice (some ⟨g, 0, none⟩) x.1.s.length x.1.s.length, .slice (some ⟨h, 0, none⟩) cl.length cl.length] 48)) (fun _ _ _ h => h)
              have hN6 := OwnRow.fr (S := fun _ => False) hN4 (((Fr.refl (fun _ => False) w4).alloc (.cells #[.slice (some ⟨g, 0, none⟩) x.1.s.length x.1.s.length, .slice (some ⟨h, 0, none⟩) cl.length cl.length] 48)).alloc (.cells #[.slice (some ⟨g, 0, none⟩) x.1.s.length x.1.s.length, .slice (some ⟨h, 0, none⟩) cl.length cl.length] 48)) (fun _ _ _ h => h)
              have hG6 := (hG.alloc (.cells #[.slice (some ⟨g, 0, none⟩) x.1.s.length x.1.s.length, .slice (some ⟨h, 0, none⟩) cl.length cl.length] 48)).alloc (.cells #[.slice (some ⟨g, 0, none⟩) x.1.s.length x.1.s.length, .slice (some ⟨h, 0, none⟩) cl.length cl.length] 48)
              have hH6 := (hH.alloc (.cells #[.slice (some ⟨g, 0, none⟩) x.1.s.length x.1.s.length, .slice (some ⟨h, 0, none⟩) cl.length cl.length] 48)).alloc (.cells #[.slice (some ⟨g, 0, none⟩) x.1.s.length x.1.s.length, .slice (some ⟨h, 0, none⟩) cl.length cl.length] 48)
              have hd6 := Blk.new (w4.alloc (.cells #[.slice (some ⟨g, 0, none⟩) x.1.s.length x.1.s.length, .slice (some ⟨h, 0, none⟩) cl.length cl.length] 48)) 48 #[.slice (some ⟨g, 0, none⟩) x.1.s.length x.1.s.length, .slice (some ⟨h, 0, none⟩) cl.length cl.length]
              rw [World.size_alloc] at hd6
              have hgl := hG.lt
              have hhl := hH.lt
              have d0 := (hq4.alloc (.cells #[.slice (some ⟨g, 0, none⟩) x.1.s.length x.1.s.length, .slice (some ⟨h, 0, none⟩) cl.length cl.length] 48)).cell 1
              simp at d0
              have HR6 := Lib.hid hR6
              have HF6 := Lib.hid hF6
              have Hq6 := Lib.hid hq6
              have Hk6 := Lib.hid hk6
              have HV6 := Lib.hid hV6
              have HN6 := Lib.hid hN6
              have HG6 := Lib.hid hG6
              have HH6 := Lib.hid hH6
              have Hd6 := Lib.hid hd6
              have Hcs := Lib.hid hcs
              clear hR6 hF6 hq6 hk6 hV6 hN6 hG6 hH6 hd6 hcs
              clear hR4 hF4 hq4 hk4 hV4 hN4 hG hH
              have hLb : LV.length ≤ 512 := by have := HLV.out; omega
              go_wp2_with (at_builtin; refine wpList_append_own_at _ rfl _ _ 22 rfl C 48 i0 (.agg #[.slice none 0 0, .slice none 0 0]) 2 48 Try.underlying22 hi hz0 hz1 hz2 rfl (by decide) _ LV.length (LV.flatMap TenA.cells) rfl HV6.out.1 ⟨w4.heap.size + 1, 0, none⟩ 1 1 [.slice (some ⟨g, 0, none⟩) x.1.s.length x.1.s.length, .slice (some ⟨h, 0, none⟩) cl.length cl.length] rfl rfl ?c1 ?c2 ?c3 ?c4 ?c5 ?_)
              case c1 => exact World.news_of_block (cs := #[.slice (some ⟨g, 0, none⟩) x.1.s.length x.1.s.length, .slice (some ⟨h, 0, none⟩) cl.length cl.length]) Hd6.out
              case c2 => intro u hu; simp at hu; rcases hu with rfl | rfl <;> rfl
              case c3 => unfold maxLen; omega
              case c4 => omega
              case c5 => simp; omega
              intro v7 w7 hown7 hg7 _ hat7
              have hs6 : w4.heap.size + 1 + 1 = ((w4.alloc (.cells #[.slice (some ⟨g, 0, none⟩) x.1.s.length x.1.s.length, .slice (some ⟨h, 0, none⟩) cl.length cl.length] 48)).alloc (.cells #[.slice (some ⟨g, 0, none⟩) x.1.s.length x.1.s.length, .slice (some ⟨h, 0, none⟩) cl.length cl.length] 48)).heap.size := by simp
              rw [hs6] at hat7
              clear hs6
              generalize (w4.alloc (.cells #[.slice (some ⟨g, 0, none⟩) x.1.s.length x.1.s.length, .slice (some ⟨h, 0, none⟩) cl.length cl.length] 48)).alloc (.cells #[.slice (some ⟨g, 0, none⟩) x.1.s.length x.1.s.length, .slice (some ⟨h, 0, none⟩) cl.length cl.length] 48) = w6 at HR6 HF6 Hq6 Hk6 HV6 HN6 HG6 HH6 Hd6 hg7 hat7
              have hb6 : ∀ b, (Value.slice A2 LV.length cap2).ownBlock = some b → C ≤ b ∧ b < wo.heap.size := fun b hb => ⟨(HV6.out.1.lt b hb).1, HV6.out.2.1 b hb⟩
              have hV7 := OwnRow.push (x := ((⟨x.1.s, cl⟩, g, h) : TenA)) HV6.out hown7 hg7 hat7 (F := fun b => b = g ∨ b = h) (HG6.out.on.and HH6.out.on) (fun b hb => by
                have h1 := HG6.out.lt
                have h2 := HH6.out.lt
                refine ⟨by omega, by omega, fun e => ?_⟩
                have := hb6 b e.symm
                omega)
              obtain ⟨A7, cap7, rfl, _⟩ := OwnRow.form hV7
              have hS7 := Fr.of_grown (S := fun b => C ≤ b) hg7 (fun k e _ => (hb6 k e).1)
              have hR7 := HR6.out.fr hS7 (fun b hb => by omega)
              have hq7 := hS7.blk Hq6.out (by omega)
              have hk7 := hS7.blk Hk6.out (by omega)
              have hF7 := HF6.out.trans' hS7 (fun b hb e => by omega)
              have hN7 := OwnRow.fr HN6.out hS7 (fun b _ hb e => by omega)
              have e0 := hq7.cell 1
              have e1 := hq7.frozen 1
              simp at e0
              have hT8 : Fr (fun b => b = w.heap.size + 1) w7 (w7.setCell ⟨w.heap.size + 1, 1, none⟩ (.slice A7 (LV ++ [((⟨x.1.s, cl⟩, g, h) : TenA)]).length cap7)) := (Fr.refl (fun b => b = w.heap.size + 1) _).setCell (p := ⟨w.heap.size + 1, 1, none⟩) (fun _ => rfl) _
              have hR8 := hR7.fr hT8 (fun b e => by omega)
              have hV8 := OwnRow.fr hV7 hT8 (fun b hb _ e => by omega)
              have hN8 := OwnRow.fr hN7 hT8 (fun b hb _ e => by omega)
              have hq8 := hq7.set_ 1 (.slice A7 (LV ++ [((⟨x.1.s, cl⟩, g, h) : TenA)]).length cap7)
              have hk8 := hT8.blk hk7 (by omega)
              have hF8 := hF7.trans' hT8 (fun b hb e => by omega)
              have hs8 : (w7.setCell ⟨w.heap.size + 1, 1, none⟩ (.slice A7 (LV ++ [((⟨x.1.s, cl⟩, g, h) : TenA)]).length cap7)).heap.size = w7.heap.size := by simp
              have HLn8 := Lib.hid (show (LV ++ [((⟨x.1.s, cl⟩, g, h) : TenA)]).length = k + 1 by simp [HLV.out])
              have hlen8 : LV.length + 1 = (LV ++ [((⟨x.1.s, cl⟩, g, h) : TenA)]).length := by simp
              have HP8 := Lib.hid (show Kr.readV ((L.map (·.1)).map (·.s)) [] st' = Kr.readV (((L.drop (k + 1)).map (·.1)).map (·.s)) ((LV ++ [((⟨x.1.s, cl⟩, g, h) : TenA)]).map (·.1)) st5 by rw [HP5.out]; simp)
              have HS8 := Lib.hid (show ∀ y ∈ LV ++ [((⟨x.1.s, cl⟩, g, h) : TenA)], y.1.s.length ≤ 4 ∧ y.1.c.length ≤ 65536 by intro y hy; rcases List.mem_append.1 hy with hy | hy; exact HsmV.out y hy; rw [List.mem_singleton] at hy; subst hy; exact Hcs.out)
              generalize LV ++ [((⟨x.1.s, cl⟩, g, h) : TenA)] = LV8 at *
              have HR8 := Lib.hid hR8
              have HV8 := Lib.hid hV8
              have HN8 := Lib.hid hN8
              have Hq8 := Lib.hid hq8
              have Hk8 := Lib.hid hk8
              have HF8 := Lib.hid hF8
              have Hs8 := Lib.hid hs8
              clear hR8 hV8 hN8 hq8 hk8 hF8 hs8
              clear hV7 hN7 hR7 hq7 hk7 hF7 hT8 hS7 HR6 HF6 Hq6 Hk6 HV6 HN6 HG6 HH6 Hd6 hown7 hg7 hat7 hb6 hlen8 d0
              go_wp2_with fail
              go_roundw
              case rel => exact ⟨k + 1, LV8, st5, A7, cap7, by omega, by go_num, HLn8.out, HP8.out, HR8.out, HN8.out, by rw [Hs8.out]; exact HV8.out, Hq8.out, Hk8.out, HF8.out, HS8.out⟩
              case measure => simp [intOf]; omega
          · obtain rfl : k = L.length := by omega
            rw [List.drop_length, List.map_nil, List.map_nil, Kr.readV] at hP
            have HE := Lib.hid (show Kr.state st = (0, L.map (·.1), LV.map (·.1), st2) by rw [HS3.out, hP]; simp [Kr.state3])
            obtain ⟨hR5, hF5⟩ := zero_box hR hF hrl (Nat.le_refl _) (.slice A L.length cap) (.slice A2 LV.length cap2)
            have hT5 : Fr (fun b => b = w.heap.size) wo ((wo.setCell ⟨w.heap.size, 0, none⟩ (.slice A L.length cap)).setCell ⟨w.heap.size, 1, none⟩ (.slice A2 LV.length cap2)) := ((Fr.refl (fun b => b = w.heap.size) _).setCell (p := ⟨w.heap.size, 0, none⟩) (fun _ => rfl) _).setCell (p := ⟨w.heap.size, 1, none⟩) (fun _ => rfl) _
            have hN5 := OwnRow.fr hN hT5 (fun b hb _ e => by omega)
            have hV5 := OwnRow.fr hV hT5 (fun b hb _ e => by omega)
            have hN6 := (OwnRow.base hN5 (show w.heap.size ≤ w.heap.size + 2 by omega)).widen (C' := ((wo.setCell ⟨w.heap.size, 0, none⟩ (.slice A L.length cap)).setCell ⟨w.heap.size, 1, none⟩ (.slice A2 LV.length cap2)).heap.size) (by simp; omega) (Nat.le_refl _)
            have hV6 := (OwnRow.base hV5 (show w.heap.size ≤ C by omega)).widen (C' := ((wo.setCell ⟨w.heap.size, 0, none⟩ (.slice A L.length cap)).setCell ⟨w.heap.size, 1, none⟩ (.slice A2 LV.length cap2)).heap.size) (by simp) (Nat.le_refl _)
            have c0 := hk0.cell 0
            have c1 := hk0.cell 1
            have f0 := hk0.frozen 0
            have f1 := hk0.frozen 1
            have d0 := hq.cell 0
            have d1 := hq.cell 1
            simp at c0 c1 d0 d1
            have HR5 := Lib.hid hR5
            have HF5 := Lib.hid hF5
            have HN6 := Lib.hid hN6
            have HV6 := Lib.hid hV6
            have HLV := Lib.hid hLV
            clear hR5 hF5 hN6 hV6 hLV
            clear hR hF hN hV hq hk0 hT5 hN5 hV5 hP
            go_wp2_with fail
            refine bodyPost_ret (v := .tuple #[.agg #[.slice A L.length cap, .slice A2 LV.length cap2], .int .i64 0]) (by simp [results, Try.results28, go_sem, c0, c1, d0, d1]) rfl ?_
            refine ⟨.inr ⟨by rw [HE.out], A, cap, A2, cap2, L, LV, ?_, by rw [HE.out], by rw [HE.out], ?_, ?_⟩, by rw [HE.out]; exact HR5.out, HF5.out⟩
            · rw [HE.out]; simp
            · rw [HE.out]; simpa using HN6.out
            · rw [HE.out]; simpa using HV6.out
  · have hne : (er != 0) = true := by simp [he]
    have HST := Lib.hid (show Kr.state st = (er, [], [], st1) by rw [HST.out]; simp [Kr.state1, he])
    obtain ⟨hR2, hF2⟩ := zero_box hR1 hF1 hrl (Nat.le_refl _) (.slice none 0 0) (.slice none 0 0)
    have He := Lib.hid he
    have HR2 := Lib.hid hR2
    have HF2 := Lib.hid hF2
    clear he hR2 hF2
    clear hk1 hq1 hR1 hF1
    go_wp2_with fail
    refine bodyPost_ret (v := .tuple #[.agg #[.slice none 0 0, .slice none 0 0], .int .i64 er]) (by simp [results, Try.results28, go_sem, c0, c1]) rfl ?_
    exact ⟨.inl ⟨by rw [HST.out]; exact He.out, by rw [HST.out]⟩, by rw [HST.out]; exact HR2.out, HF2.out⟩
end Go.Proofs.Ytjgagbhbgehmpaa
