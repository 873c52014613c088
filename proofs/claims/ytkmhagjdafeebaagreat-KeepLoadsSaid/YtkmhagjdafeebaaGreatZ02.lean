/- Lemmas for the statements of this seat: contracts of functions and the plain laws. -/
import Derived.Deep.RegionHeld3
import Derived.Maps.AppendAt
import Derived.Test.YtkmhagjdafeebaaGreatZ01
set_option linter.unusedVariables false
/- Layer 4 (tensor): Of, same (a deferred closure that recovers), Equal. -/
namespace Go.Proofs.YtkmhagjdafeebaaGreat
open Go.RowKit

theorem same_idle (p : Addr) (w : World) :
    CallsD Tryz.prog 87 #[.pointer (some p)] .returning w fun e u' w' => e = .returned (.tuple #[]) ∧ u' = .returning ∧ w' = w := by
  refine callsD_of_wpS Tryz.func87 rfl fun c₀ cs hu => ?_
  apply wpS_seq
  apply wpS_region
  simp [wpOpsS, go_sem, recoverD, hu, Tryz.ntmps87, Exit.thenS]
  refine wpS_cond (t := false) (by simp [Act.eval, Array.replicate]) ?_
  simp only [Bool.false_eq_true, if_false]
  refine wpS_of_wp (wp_skip ?_)
  cases c₀
  simp_all [bodyPostS, results, Tryz.results87]

set_option maxHeartbeats 1000000 in
theorem tensor_same (A A' : Option Addr) (c c' : Nat) (xs ys : List Int) (w : World) (hl : xs.length ≤ 1000000000) (hn : xs.length = ys.length) (hI : Ints .i64 w A xs) (hI' : Ints .i64 w A' ys) :
    Calls Tryz.prog 80 #[.slice A xs.length c, .slice A' ys.length c'] w fun e w' => e = .returned (.bool (xs == ys)) ∧ Below w.heap.size w w' := by
  have hmf : ∀ (fn : Fn) (first cap : Array Value) (w : World), (Instr.makeFunc fn first cap).run Tryz.prog w = .ok (.func fn first cap) w := fun _ _ _ _ => rfl
  have hb0 : Below w.heap.size w (w.alloc (.cells #[.bool false] 4)) := (Below.refl _ _).alloc (Nat.le_refl _) _
  have HI := Lib.hid (hI.alloc (.cells #[.bool false] 4))
  have HI' := Lib.hid (hI'.alloc (.cells #[.bool false] 4))
  have HN := Lib.hid hn
  clear hI hI' hn
  go_enter_defers Tryz.func80, Tryz.ntmps80
  go_wp2_with fail
  go_loopw [10] (fun i wr => wr = w.alloc (.cells #[.bool false] 4) ∧ ∃ k : Nat, k ≤ xs.length ∧ i = .int .i64 k ∧ xs.take k = ys.take k) (fun i _ => xs.length - (intOf i).toNat)
  case atStart => exact ⟨rfl, 0, Nat.zero_le _, rfl, rfl⟩
  case round =>
    obtain ⟨rfl, k, hk, rfl, htk⟩ := hrel
    have HT := Lib.hid htk
    clear htk
    by_cases hlt : k < xs.length
    · have hlt' : k < ys.length := by have := HN.out; omega
      obtain ⟨b, off, rfl, hb, hc⟩ := HI.out k hlt
      obtain ⟨b', off', rfl, hb', hc'⟩ := HI'.out k hlt'
      by_cases hxy : xs[k] = ys[k]
      · have hb : (xs[k] != ys[k]) = false := by simp [hxy]
        have HT2 := Lib.hid (show xs.take (k + 1) = ys.take (k + 1) by rw [List.take_succ_eq_append_getElem hlt, List.take_succ_eq_append_getElem hlt', HT.out, hxy])
        clear hxy
        go_wp2_with fail
        go_roundw
        case rel => exact ⟨trivial, k + 1, by omega, by go_num, HT2.out⟩
        case measure => simp [intOf]; omega
      · have hb : (xs[k] != ys[k]) = true := by simp [hxy]
        have hf := Lib.hid (show (xs == ys) = false by simp; rintro rfl; exact hxy rfl)
        clear hxy
        go_wp2_with fail
        refine leaves_cons (f := 87) (args := #[.pointer (some ⟨w.heap.size, 0, none⟩)]) (by simp) (by simp [go_sem]) ?_
        refine (same_idle ⟨w.heap.size, 0, none⟩ _).mono ?_
        rintro e u' w'' ⟨rfl, rfl, rfl⟩
        simp only [Leaves, settle]
        exact ⟨_, by simp [results, Tryz.results80, go_sem]; rfl, by rw [hf.out], hb0⟩
    · obtain rfl : k = xs.length := by omega
      have hf := Lib.hid (show (xs == ys) = true by have := HT.out; rw [List.take_length, HN.out, List.take_length] at this; simp [this])
      have hb1 : Below w.heap.size w (w.alloc (.cells #[.bool true] 4)) := (Below.refl _ _).alloc (Nat.le_refl _) _
      go_wp2_with fail
      refine leaves_cons (f := 87) (args := #[.pointer (some ⟨w.heap.size, 0, none⟩)]) (by simp) (by simp [go_sem]) ?_
      refine (same_idle ⟨w.heap.size, 0, none⟩ _).mono ?_
      rintro e u' w'' ⟨rfl, rfl, rfl⟩
      simp only [Leaves, settle]
      exact ⟨_, by simp [results, Tryz.results80, go_sem]; rfl, by rw [hf.out], hb1⟩

namespace Tn
def eq (a b : Ten) : Bool := (a.s == b.s) && (a.c == b.c)
theorem eq_iff (a b : Ten) : eq a b = true ↔ a = b := by
  cases a; cases b; simp [eq]
end Tn

set_option maxHeartbeats 1000000 in
theorem tensor_equal (S C S' C' : Option Addr) (c d c' d' : Nat) (a b : Ten) (w : World) (hl : a.s.length ≤ 1000000000) (hl' : a.c.length ≤ 1000000000) (hm : b.s.length ≤ 1000000000) (hm' : b.c.length ≤ 1000000000) (hT : TenR w S C a) (hT' : TenR w S' C' b) :
    Calls Tryz.prog 75 #[.agg #[.slice S a.s.length c, .slice C a.c.length d], .agg #[.slice S' b.s.length c', .slice C' b.c.length d']] w fun e w' => e = .returned (.bool (Tn.eq a b)) ∧ Below w.heap.size w w' := by
  have hb0 : Below w.heap.size w ((w.alloc (.cells #[.slice S a.s.length c, .slice C a.c.length d] 26)).alloc (.cells #[.slice S' b.s.length c', .slice C' b.c.length d'] 26)) := ((Below.refl _ _).alloc (Nat.le_refl _) _).alloc (by simp) _
  have HA := Lib.hid (hT.1.below hb0 (Nat.le_refl _))
  have HB := Lib.hid (hT.2.below hb0 (Nat.le_refl _))
  have HC := Lib.hid (hT'.1.below hb0 (Nat.le_refl _))
  have HD := Lib.hid (hT'.2.below hb0 (Nat.le_refl _))
  clear hT hT'
  go_enter Tryz.func75, Tryz.ntmps75
  go_wp2_with fail
  refine (shape_equal S S' c c' a.s b.s _ (by omega) (by omega) HA.out HC.out).mono ?_
  rintro e w1 ⟨rfl, n, rfl⟩
  have hbn := fun n => Bdrawn hb0 n
  have HBn := Lib.hid hbn
  clear hb0 hbn
  cases hs : (a.s == b.s)
  · have HE := Lib.hid (show Tn.eq a b = false by simp [Tn.eq, hs])
    clear hs
    go_wp2_with fail
    go_ret
    exact ⟨by rw [HE.out]; rfl, HBn.out n⟩
  · by_cases hn : a.c.length = b.c.length
    · have hq : ((a.c.length : Int) == b.c.length) = true := by simp [hn]
      have HN := Lib.hid hn
      have HE := Lib.hid (show Tn.eq a b = (a.c == b.c) by simp [Tn.eq, hs])
      clear hn hs
      go_wp2_with fail
      refine (tensor_same C C' d d' a.c b.c _ hl' HN.out (HB.out.drewN n) (HD.out.drewN n)).mono ?_
      rintro e w2 ⟨rfl, h2⟩
      have hb2 := (HBn.out n).trans (h2.mono (HBn.out n).size)
      go_wp2_with fail
      go_ret
      exact ⟨by rw [HE.out]; rfl, hb2⟩
    · have hq : ((a.c.length : Int) == b.c.length) = false := by simp; omega
      have HE := Lib.hid (show Tn.eq a b = false by simp [Tn.eq, hs]; intro e; rw [e] at hn; exact hn rfl)
      clear hn hs
      go_wp2_with fail
      go_ret
      exact ⟨by rw [HE.out]; rfl, HBn.out n⟩

def OfP (t : Ten) (w : World) (e : Ending) (w' : World) : Prop :=
  (Tn.right t = false ∧ e = .returned (.tuple #[.agg #[.slice none 0 0, .slice none 0 0], .int .i64 20]) ∨ Tn.right t = true ∧ ∃ v, e = .returned (.tuple #[v, .int .i64 0]) ∧ TenN w.heap.size w' v t) ∧ Below w.heap.size w w'
set_option maxHeartbeats 1000000 in
theorem tensor_of (S C : Option Addr) (c d : Nat) (t : Ten) (w : World) (hl : t.s.length ≤ 1048576) (hl' : t.c.length ≤ 1048576) (hT : TenR w S C t) :
    Calls Tryz.prog 19 #[.slice S t.s.length c, .slice C t.c.length d] w (OfP t w) := by
  have HT := Lib.hid hT
  clear hT
  have hk0 := (Blk.new w 26 #[.slice none 0 0, .slice none 0 0]).alloc (.cells #[.slice S t.s.length c, .slice C t.c.length d] 26)
  have hk1 := Blk.new (w.alloc (.cells #[.slice none 0 0, .slice none 0 0] 26)) 26 #[.slice S t.s.length c, .slice C t.c.length d]
  rw [World.size_alloc] at hk1
  have hb0 : Below w.heap.size w ((w.alloc (.cells #[.slice none 0 0, .slice none 0 0] 26)).alloc (.cells #[.slice S t.s.length c, .slice C t.c.length d] 26)) := ((Below.refl _ _).alloc (Nat.le_refl _) _).alloc (by simp) _
  have Hk0 := Lib.hid hk0
  have Hk1 := Lib.hid hk1
  clear hk0 hk1
  go_enter Tryz.func19, Tryz.ntmps19
  go_wp2_with fail
  refine (tensor_right S C c d t _ (by omega) (by omega) (HT.out.1.below hb0 (Nat.le_refl _))).mono ?_
  rintro e w1 ⟨rfl, h1⟩
  have hk01 := Hk0.out.below h1 Hk0.out.lt
  have hk11 := Hk1.out.below h1 Hk1.out.lt
  have hb1 := hb0.trans (h1.mono hb0.size)
  clear h1 hb0 Hk0 Hk1
  cases hr : Tn.right t
  · have c0 := hk01.cell 0
    have c1 := hk01.cell 1
    have f0 := hk01.frozen 0
    have f1 := hk01.frozen 1
    simp at c0 c1
    have Hr := Lib.hid hr
    clear hr
    go_wp2_with fail
    refine bodyPost_ret (v := .tuple #[.agg #[.slice none 0 0, .slice none 0 0], .int .i64 20]) (by simp [results, Tryz.results19, go_sem, c0, c1]) rfl ?_
    exact ⟨.inl ⟨Hr.out, rfl⟩, (hb1.setCell (p := ⟨w.heap.size, 0, none⟩) (Nat.le_refl _) _).setCell (p := ⟨w.heap.size, 1, none⟩) (Nat.le_refl _) _⟩
  · have hsmall : t.s.length ≤ 1000000 ∧ t.c.length ≤ 1000000 := by
      have hr2 := hr
      simp only [Tn.right, Bool.and_eq_true, decide_eq_true_eq] at hr2
      obtain ⟨_, q1, _, _, _, q2⟩ := Sh.right_mul hr2.1
      omega
    have d0 := hk11.cell 0
    have d1 := hk11.cell 1
    simp at d0 d1
    have Hr := Lib.hid hr
    clear hr
    go_wp2_with fail
    refine (tensor_copy S C c d t _ hsmall.1 hsmall.2 ⟨HT.out.1.below hb1 (Nat.le_refl _), HT.out.2.below hb1 (Nat.le_refl _)⟩).mono ?_
    rintro e w2 ⟨v, rfl, ⟨g, h, rfl, hg, hh, hG, hH⟩, h2⟩
    have hk02 := hk01.below h2 hk01.lt
    have hb2 := hb1.trans (h2.mono hb1.size)
    have hlt1 := hk01.lt
    have c0 := hk02.cell 0
    have c1 := hk02.cell 1
    have f0 := hk02.frozen 0
    have f1 := hk02.frozen 1
    simp at c0 c1
    have HG := Lib.hid hG
    have HH := Lib.hid hH
    clear hG hH
    clear hk01 hk11 d0 d1 hb1 h2
    go_wp2_with fail
    refine bodyPost_ret (v := .tuple #[.agg #[.slice (some ⟨g, 0, none⟩) t.s.length t.s.length, .slice (some ⟨h, 0, none⟩) t.c.length t.c.length], .int .i64 0]) (by simp [results, Tryz.results19, go_sem, c0, c1]) rfl ?_
    exact ⟨.inr ⟨Hr.out, _, rfl, g, h, rfl, by omega, by omega, (HG.out.far (p := ⟨w.heap.size, 0, none⟩) (by simp; omega) _).far (p := ⟨w.heap.size, 1, none⟩) (by simp; omega) _, (HH.out.far (p := ⟨w.heap.size, 0, none⟩) (by simp; omega) _).far (p := ⟨w.heap.size, 1, none⟩) (by simp; omega) _⟩, (hb2.setCell (p := ⟨w.heap.size, 0, none⟩) (Nat.le_refl _) _).setCell (p := ⟨w.heap.size, 1, none⟩) (Nat.le_refl _) _⟩
end Go.Proofs.YtkmhagjdafeebaaGreat
/- Layer 24 (optim): what a state is, which states are alike or equal: contracts. -/
namespace Go.Proofs.YtkmhagjdafeebaaGreat
open Go.RowKit

/-- A slice of tensors reads as the list ts. -/
def Tens (w : World) (A : Option Addr) (ts : List Ten) : Prop :=
  ∀ j (hj : j < ts.length), ∃ b off S c C d, A = some ⟨b, off, none⟩ ∧ b < w.heap.size ∧ w.cell? ⟨b, off + j * 2, none⟩ = some (.slice S ts[j].s.length c) ∧ w.cell? ⟨b, off + j * 2 + 1, none⟩ = some (.slice C ts[j].c.length d) ∧ TenR w S C ts[j] ∧ ts[j].s.length ≤ 9223372036854775807 ∧ ts[j].c.length ≤ 9223372036854775807
theorem TenR.below {B : Nat} {w w' : World} {S C : Option Addr} {t : Ten} (h : TenR w S C t) (hb : Below B w w') (hB : w.heap.size ≤ B) : TenR w' S C t := ⟨h.1.below hb hB, h.2.below hb hB⟩
theorem TenR.drew {w : World} {S C : Option Addr} {t : Ten} (h : TenR w S C t) : TenR w.drew S C t := h
theorem Tens.below {B : Nat} {w w' : World} {A : Option Addr} {ts : List Ten} (h : Tens w A ts) (hb : Below B w w') (hB : w.heap.size ≤ B) : Tens w' A ts := fun j hj => by
  obtain ⟨b, off, S, c, C, d, e, hl, c0, c1, hT, h2⟩ := h j hj
  exact ⟨b, off, S, c, C, d, e, Nat.lt_of_lt_of_le hl hb.size, (hb.cell (p := ⟨b, off + j * 2, none⟩) (Nat.lt_of_lt_of_le hl hB)).trans c0, (hb.cell (p := ⟨b, off + j * 2 + 1, none⟩) (Nat.lt_of_lt_of_le hl hB)).trans c1, hT.below hb hB, h2⟩

theorem take_all_succ {α : Type} {p : α → Bool} {l : List α} {k : Nat} (hk : k < l.length) (h : (l.take k).all p = true) (hp : p l[k] = true) : (l.take (k + 1)).all p = true := by
  rw [List.take_succ_eq_append_getElem hk, List.all_append, h]; simp [hp]
theorem all_false_at {α : Type} {p : α → Bool} {l : List α} {k : Nat} (hk : k < l.length) (hp : p l[k] = false) : l.all p = false := by
  rw [List.all_eq_false]; exact ⟨l[k], List.getElem_mem hk, by simp [hp]⟩

set_option maxHeartbeats 1000000 in
theorem optim_valid (A : Option Addr) (c : Nat) (ts : List Ten) (w : World) (hl : ts.length ≤ 9223372036854775807) (hT : Tens w A ts) :
    Calls Tryz.prog 51 #[.slice A ts.length c] w fun e w' => e = .returned (.bool (ts.all Tn.right)) ∧ Below w.heap.size w w' := by
  have HT := Lib.hid hT
  clear hT
  go_enter Tryz.func51, Tryz.ntmps51
  go_wp2_with fail
  go_loopw [7] (fun i wr => ∃ k : Nat, k ≤ ts.length ∧ i = .int .i64 k ∧ (ts.take k).all Tn.right = true ∧ Below w.heap.size w wr) (fun i _ => ts.length - (intOf i).toNat)
  case atStart => exact ⟨0, Nat.zero_le _, rfl, rfl, Below.refl _ _⟩
  case round =>
    obtain ⟨k, hk, rfl, hall, hbel⟩ := hrel
    by_cases hlt : k < ts.length
    · obtain ⟨b, off, S, cS, C, dC, rfl, hb, c0, c1, hTR, hs1, hs2⟩ := HT.out.below hbel (Nat.le_refl _) k hlt
      have hI := hTR.1.alloc (.cells #[.slice S ts[k].s.length cS, .slice C ts[k].c.length dC] 26)
      have hb1 := hbel.alloc hbel.size (.cells #[.slice S ts[k].s.length cS, .slice C ts[k].c.length dC] 26)
      have hall2 := take_all_succ (p := Tn.right) hlt hall
      have hbad := all_false_at (p := Tn.right) hlt
      have HI := Lib.hid hI
      have HTR := Lib.hid hTR
      have Hall := Lib.hid hall
      have Hall2 := Lib.hid hall2
      have Hbad := Lib.hid hbad
      clear hI hTR hall hall2 hbad
      generalize ts[k] = t at *
      go_wp2_with fail
      refine (tensor_right S C cS dC t _ hs1 hs2 HI.out).mono ?_
      rintro e w1 ⟨rfl, h1⟩
      have hb2 := hb1.trans (h1.mono hb1.size)
      clear h1 hb1 hbel c0 c1
      cases hr : Tn.right t
      · have HF := Lib.hid (Hbad.out hr)
        clear hr
        go_wp2_with fail
        go_ret
        exact ⟨by rw [HF.out]; rfl, hb2⟩
      · have HF := Lib.hid (Hall2.out hr)
        clear hr
        go_wp2_with fail
        go_roundw
        case rel => exact ⟨k + 1, by omega, by go_num, HF.out, hb2⟩
        case measure => simp [intOf]; omega
    · obtain rfl : k = ts.length := by omega
      rw [List.take_length] at hall
      have Hall := Lib.hid hall
      clear hall
      go_wp2_with fail
      go_ret
      exact ⟨by rw [Hall.out]; rfl, hbel⟩

namespace Tn
/-- Of one length, all right, of the same shapes. -/
def alike (a b : List Ten) : Bool := decide (a.length = b.length) && a.all right && b.all right && (a.map (·.s) == b.map (·.s))
theorem alike_len {a b : List Ten} (h : a.length ≠ b.length) : alike a b = false := by simp [alike, h]
theorem alike_a {a b : List Ten} (h : a.all right = false) : alike a b = false := by simp [alike, h]
theorem alike_b {a b : List Ten} (h : b.all right = false) : alike a b = false := by simp [alike, h]
theorem alike_ok {a b : List Ten} (h : a.length = b.length) (ha : a.all right = true) (hb : b.all right = true) : alike a b = (a.map (·.s) == b.map (·.s)) := by simp [alike, h, ha, hb]
theorem right_len {t : Ten} (h : right t = true) : t.s.length ≤ 4 ∧ 1 ≤ t.s.length ∧ t.c.length ≤ 65536 := by
  simp [right] at h
  obtain ⟨_, h1, h2, _, _, h3⟩ := Sh.right_mul h.1
  omega
end Tn

set_option maxHeartbeats 2000000 in
theorem optim_alike (A A' : Option Addr) (c c' : Nat) (ts us : List Ten) (w : World) (hl : ts.length ≤ 9223372036854775807) (hl' : us.length ≤ 9223372036854775807) (hT : Tens w A ts) (hU : Tens w A' us) :
    Calls Tryz.prog 69 #[.slice A ts.length c, .slice A' us.length c'] w fun e w' => e = .returned (.bool (Tn.alike ts us)) ∧ Below w.heap.size w w' := by
  have HT := Lib.hid hT
  have HU := Lib.hid hU
  clear hT hU
  by_cases hn : ts.length = us.length
  · have hq : ((ts.length : Int) != us.length) = false := by simp [hn]
    have HN := Lib.hid hn
    clear hn
    go_enter Tryz.func69, Tryz.ntmps69
    go_wp2_with fail
    refine (optim_valid A c ts _ hl HT.out).mono ?_
    rintro e w1 ⟨rfl, h1⟩
    cases ha : ts.all Tn.right
    · have HF := Lib.hid (Tn.alike_a (b := us) ha)
      clear ha
      go_wp2_with fail
      go_ret
      exact ⟨by rw [HF.out]; rfl, h1⟩
    · have Ha := Lib.hid ha
      clear ha
      go_wp2_with fail
      refine (optim_valid A' c' us _ hl' (HU.out.below h1 (Nat.le_refl _))).mono ?_
      rintro e w2 ⟨rfl, h2⟩
      have hb2 := h1.trans (h2.mono h1.size)
      clear h1 h2
      cases hb : us.all Tn.right
      · have HF := Lib.hid (Tn.alike_b (a := ts) hb)
        clear hb
        go_wp2_with fail
        go_ret
        exact ⟨by rw [HF.out]; rfl, hb2⟩
      · have HF := Lib.hid (Tn.alike_ok HN.out Ha.out hb)
        have Hb := Lib.hid hb
        clear hb
        go_wp2_with fail
        go_loopw [23] (fun i wr => ∃ k : Nat, k ≤ ts.length ∧ i = .int .i64 k ∧ (ts.take k).map (·.s) = (us.take k).map (·.s) ∧ Below w.heap.size w wr) (fun i _ => ts.length - (intOf i).toNat)
        case atStart => exact ⟨0, Nat.zero_le _, rfl, rfl, hb2⟩
        case round =>
          clear hb2
          obtain ⟨k, hk, rfl, hall, hbel⟩ := hrel
          by_cases hlt : k < ts.length
          · have hlt' : k < us.length := by have := HN.out; omega
            have hr1 := Tn.right_len (List.all_eq_true.1 Ha.out ts[k] (List.getElem_mem hlt))
            have hr2 := Tn.right_len (List.all_eq_true.1 Hb.out us[k] (List.getElem_mem hlt'))
            have hnext : ts[k].s = us[k].s → (ts.take (k + 1)).map (·.s) = (us.take (k + 1)).map (·.s) := fun h => by rw [List.take_succ_eq_append_getElem hlt, List.take_succ_eq_append_getElem hlt', List.map_append, List.map_append, hall]; simp [h]
            have hbad : ts[k].s ≠ us[k].s → (ts.map (·.s) == us.map (·.s)) = false := fun h => by simp; intro e; apply h; have := congrArg (fun l => l[k]?) e; simpa [hlt, hlt'] using this
            obtain ⟨b, off, S, cS, C, dC, rfl, hb, c0, c1, hTR, hs1, hs2⟩ := HT.out.below hbel (Nat.le_refl _) k hlt
            obtain ⟨b', off', S', cS', C', dC', rfl, hb', c0', c1', hTR', hs1', hs2'⟩ := HU.out.below hbel (Nat.le_refl _) k hlt'
            have k0 : (0 : Int) ≤ k := by omega
            have k1 : (k : Int) < ts.length := by omega
            have k2 : (k : Int) < us.length := by omega
            have hI := hTR.1
            have hI' := hTR'.1
            have Hall := Lib.hid hall
            have Hnext := Lib.hid hnext
            have Hbad := Lib.hid hbad
            have HI := Lib.hid hI
            have HI' := Lib.hid hI'
            clear hall hnext hbad hI hI'
            clear hTR hTR' c1 c1'
            generalize ts[k] = t at *
            generalize us[k] = u at *
            obtain ⟨hr1, _⟩ := hr1
            obtain ⟨hr2, _⟩ := hr2
            go_wp2_with fail
            go_quiet ((go_at_call 17; exact quiet_drawn (shape_equal S S' cS cS' t.s u.s _ (by omega) (by omega) (HI.out.drewN _) (HI'.out.drewN _))))
            have hbn := Bdrawn hbel nq
            cases hs : (t.s == u.s)
            · have HG := Lib.hid (Hbad.out (by simpa using hs))
              clear hs
              go_wp2_with fail
              go_ret
              exact ⟨by rw [HF.out, HG.out]; rfl, hbn⟩
            · have HG := Lib.hid (Hnext.out (by simpa using hs))
              clear hs
              go_wp2_with fail
              go_roundw
              case rel => exact ⟨k + 1, by omega, by go_num, HG.out, hbn⟩
              case measure => simp [intOf]; omega
          · obtain rfl : k = ts.length := by omega
            have HE := Lib.hid (show (ts.map (·.s) == us.map (·.s)) = true by rw [List.take_length, HN.out, List.take_length] at hall; simp [hall])
            clear hall
            go_wp2_with fail
            go_ret
            exact ⟨by rw [HF.out, HE.out]; rfl, hbel⟩
  · have hq : ((ts.length : Int) != us.length) = true := by simp; omega
    have HF := Lib.hid (Tn.alike_len hn)
    clear hn
    go_enter Tryz.func69, Tryz.ntmps69
    go_wp2_with fail
    go_ret
    exact ⟨by rw [HF.out]; rfl, Below.refl _ _⟩

theorem state_right (A A' : Option Addr) (c c' : Nat) (ts us : List Ten) (w : World) (hl : ts.length ≤ 9223372036854775807) (hl' : us.length ≤ 9223372036854775807) (hT : Tens w A ts) (hU : Tens w A' us) :
    Calls Tryz.prog 38 #[.agg #[.slice A ts.length c, .slice A' us.length c']] w fun e w' => e = .returned (.bool (Tn.alike ts us)) ∧ Below w.heap.size w w' := by
  have hb0 : Below w.heap.size w (w.alloc (.cells #[.slice A ts.length c, .slice A' us.length c'] 29)) := (Below.refl _ _).alloc (Nat.le_refl _) _
  have HT := Lib.hid hT
  have HU := Lib.hid hU
  clear hT hU
  go_enter Tryz.func38, Tryz.ntmps38
  go_wp2_with fail
  refine (optim_alike A A' c c' ts us _ hl hl' (HT.out.below hb0 (Nat.le_refl _)) (HU.out.below hb0 (Nat.le_refl _))).mono ?_
  rintro e w1 ⟨rfl, h1⟩
  have hb1 := hb0.trans (h1.mono hb0.size)
  go_wp2_with fail
  go_ret
  exact ⟨rfl, hb1⟩

namespace Tn
def eqs (a b : List Ten) : Bool := decide (a.length = b.length) && (a.zip b).all fun p => eq p.1 p.2
theorem eqs_iff (a b : List Ten) : eqs a b = true ↔ a = b := by
  induction a generalizing b with
  | nil => cases b <;> simp [eqs]
  | cons x a ih =>
    cases b with
    | nil => simp [eqs]
    | cons y b =>
      have := ih b
      simp [eqs] at this ⊢
      rw [eq_iff]
      constructor
      · rintro ⟨h1, h2, h3⟩; exact ⟨h2, this.1 ⟨h1, h3⟩⟩
      · rintro ⟨h1, h2⟩; have := this.2 h2; exact ⟨this.1, h1, this.2⟩
theorem eqs_false {a b : List Ten} {k : Nat} (h : k < a.length) (h' : k < b.length) (he : eq a[k] b[k] = false) : eqs a b = false := by
  cases hh : eqs a b
  · rfl
  · have := (eqs_iff a b).1 hh
    subst this
    rw [(eq_iff _ _).2 rfl] at he
    cases he
theorem eqs_len {a b : List Ten} (h : a.length ≠ b.length) : eqs a b = false := by simp [eqs, h]
/-- All lengths are small. -/
def small (a : List Ten) : Prop := ∀ t ∈ a, t.s.length ≤ 1000000 ∧ t.c.length ≤ 1000000
end Tn

set_option maxHeartbeats 2000000 in
theorem optim_same (A A' : Option Addr) (c c' : Nat) (ts us : List Ten) (w : World) (hl : ts.length ≤ 9223372036854775807) (hl' : us.length ≤ 9223372036854775807) (hs : Tn.small ts) (hs' : Tn.small us) (hT : Tens w A ts) (hU : Tens w A' us) :
    Calls Tryz.prog 68 #[.slice A ts.length c, .slice A' us.length c'] w fun e w' => e = .returned (.bool (Tn.eqs ts us)) ∧ Below w.heap.size w w' := by
  have HT := Lib.hid hT
  have HU := Lib.hid hU
  have Hs := Lib.hid hs
  have Hs' := Lib.hid hs'
  clear hT hU hs hs'
  by_cases hn : ts.length = us.length
  · have hq : ((ts.length : Int) != us.length) = false := by simp [hn]
    have HN := Lib.hid hn
    clear hn
    go_enter Tryz.func68, Tryz.ntmps68
    go_wp2_with fail
    go_loopw [13] (fun i wr => ∃ k : Nat, k ≤ ts.length ∧ i = .int .i64 k ∧ ts.take k = us.take k ∧ Below w.heap.size w wr) (fun i _ => ts.length - (intOf i).toNat)
    case atStart => exact ⟨0, Nat.zero_le _, rfl, rfl, Below.refl _ _⟩
    case round =>
      obtain ⟨k, hk, rfl, hall, hbel⟩ := hrel
      by_cases hlt : k < ts.length
      · have hlt' : k < us.length := by have := HN.out; omega
        have hnext : Tn.eq ts[k] us[k] = true → ts.take (k + 1) = us.take (k + 1) := fun h => by rw [List.take_succ_eq_append_getElem hlt, List.take_succ_eq_append_getElem hlt', hall, (Tn.eq_iff _ _).1 h]
        have hbad := Tn.eqs_false hlt hlt'
        obtain ⟨hr1, hr2⟩ := Hs.out ts[k] (List.getElem_mem hlt)
        obtain ⟨hr3, hr4⟩ := Hs'.out us[k] (List.getElem_mem hlt')
        obtain ⟨b, off, S, cS, C, dC, rfl, hb, c0, c1, hTR, hs1, hs2⟩ := HT.out.below hbel (Nat.le_refl _) k hlt
        obtain ⟨b', off', S', cS', C', dC', rfl, hb', c0', c1', hTR', hs1', hs2'⟩ := HU.out.below hbel (Nat.le_refl _) k hlt'
        have k0 : (0 : Int) ≤ k := by omega
        have k1 : (k : Int) < ts.length := by omega
        have k2 : (k : Int) < us.length := by omega
        have Hall := Lib.hid hall
        have Hnext := Lib.hid hnext
        have Hbad := Lib.hid hbad
        have HTR := Lib.hid hTR
        have HTR' := Lib.hid hTR'
        clear hall hnext hbad hTR hTR'
        generalize ts[k] = t at *
        generalize us[k] = u at *
        go_wp2_with fail
        go_region_held3 (fun w' => w'.cell? ⟨b, off + k * 2, none⟩ = some (.slice S t.s.length cS) ∧ w'.cell? ⟨b, off + k * 2 + 1, none⟩ = some (.slice C t.c.length dC) ∧ w'.cell? ⟨b', off' + k * 2, none⟩ = some (.slice S' u.s.length cS') ∧ w'.cell? ⟨b', off' + k * 2 + 1, none⟩ = some (.slice C' u.c.length dC')) (go_keep)
          (first | (go_at_call 75; refine (tensor_equal S C S' C' cS dC cS' dC' t u _ (by omega) (by omega) (by omega) (by omega) HTR.out.drew HTR'.out.drew).mono ?_; rintro e w1 ⟨rfl, h1⟩; have z0 := (h1.cell (p := ⟨b, off + k * 2, none⟩) hb).trans c0; have z1 := (h1.cell (p := ⟨b, off + k * 2 + 1, none⟩) hb).trans c1; have z2 := (h1.cell (p := ⟨b', off' + k * 2, none⟩) hb').trans c0'; have z3 := (h1.cell (p := ⟨b', off' + k * 2 + 1, none⟩) hb').trans c1'))
        have hbn : Below w.heap.size w w1 := hbel.drew.trans (h1.mono hbel.size)
        clear c0 c1 c0' c1' z0 z1 z2 z3 h1
        cases hs : Tn.eq t u
        · have HG := Lib.hid (Hbad.out hs)
          clear hs
          go_wp2_with fail
          go_ret
          exact ⟨by rw [HG.out]; rfl, hbn⟩
        · have HG := Lib.hid (Hnext.out hs)
          clear hs
          go_wp2_with fail
          go_roundw
          case rel => exact ⟨k + 1, by omega, by go_num, HG.out, hbn⟩
          case measure => simp [intOf]; omega
      · obtain rfl : k = ts.length := by omega
        have HE := Lib.hid (show Tn.eqs ts us = true by rw [List.take_length, HN.out, List.take_length] at hall; exact (Tn.eqs_iff _ _).2 hall)
        clear hall
        go_wp2_with fail
        go_ret
        exact ⟨by rw [HE.out]; rfl, hbel⟩
  · have hq : ((ts.length : Int) != us.length) = true := by simp; omega
    have HF := Lib.hid (Tn.eqs_len hn)
    clear hn
    go_enter Tryz.func68, Tryz.ntmps68
    go_wp2_with fail
    go_ret
    exact ⟨by rw [HF.out]; rfl, Below.refl _ _⟩

set_option maxHeartbeats 1000000 in
theorem state_equal (A1 A2 B1 B2 : Option Addr) (c1 c2 d1 d2 : Nat) (p v p' v' : List Ten) (w : World) (h1 : p.length ≤ 9223372036854775807) (h2 : v.length ≤ 9223372036854775807) (h3 : p'.length ≤ 9223372036854775807) (h4 : v'.length ≤ 9223372036854775807)
    (s1 : Tn.small p) (s2 : Tn.small v) (s3 : Tn.small p') (s4 : Tn.small v') (t1 : Tens w A1 p) (t2 : Tens w A2 v) (t3 : Tens w B1 p') (t4 : Tens w B2 v') :
    Calls Tryz.prog 35 #[.agg #[.slice A1 p.length c1, .slice A2 v.length c2], .agg #[.slice B1 p'.length d1, .slice B2 v'.length d2]] w fun e w' => e = .returned (.bool (Tn.eqs p p' && Tn.eqs v v')) ∧ Below w.heap.size w w' := by
  have hb0 : Below w.heap.size w ((w.alloc (.cells #[.slice A1 p.length c1, .slice A2 v.length c2] 29)).alloc (.cells #[.slice B1 p'.length d1, .slice B2 v'.length d2] 29)) := ((Below.refl _ _).alloc (Nat.le_refl _) _).alloc (by simp) _
  have hk0 := (Blk.new w 29 #[.slice A1 p.length c1, .slice A2 v.length c2]).alloc (.cells #[.slice B1 p'.length d1, .slice B2 v'.length d2] 29)
  have hk1 := Blk.new (w.alloc (.cells #[.slice A1 p.length c1, .slice A2 v.length c2] 29)) 29 #[.slice B1 p'.length d1, .slice B2 v'.length d2]
  rw [World.size_alloc] at hk1
  have Ht1 := Lib.hid t1
  have Ht2 := Lib.hid t2
  have Ht3 := Lib.hid t3
  have Ht4 := Lib.hid t4
  have Hs1 := Lib.hid s1
  have Hs2 := Lib.hid s2
  have Hs3 := Lib.hid s3
  have Hs4 := Lib.hid s4
  have Hk0 := Lib.hid hk0
  have Hk1 := Lib.hid hk1
  clear t1 t2 t3 t4 s1 s2 s3 s4 hk0 hk1
  go_enter Tryz.func35, Tryz.ntmps35
  go_wp2_with fail
  refine (optim_same A1 B1 c1 d1 p p' _ h1 h3 Hs1.out Hs3.out (Ht1.out.below hb0 (Nat.le_refl _)) (Ht3.out.below hb0 (Nat.le_refl _))).mono ?_
  rintro e w1 ⟨rfl, g1⟩
  have e1 := (Hk0.out.below g1 Hk0.out.lt).cell 1
  have e2 := (Hk1.out.below g1 Hk1.out.lt).cell 1
  simp at e1 e2
  have hb1 := hb0.trans (g1.mono hb0.size)
  clear g1 hb0
  cases hs : Tn.eqs p p'
  · go_wp2_with fail
    go_ret
    exact ⟨by rw [hs]; rfl, hb1⟩
  · go_wp2_with fail
    refine (optim_same A2 B2 c2 d2 v v' _ h2 h4 Hs2.out Hs4.out (Ht2.out.below hb1 (Nat.le_refl _)) (Ht4.out.below hb1 (Nat.le_refl _))).mono ?_
    rintro e w2 ⟨rfl, g2⟩
    have hb2 := hb1.trans (g2.mono hb1.size)
    go_wp2_with fail
    go_ret
    exact ⟨by simp [hs], hb2⟩
end Go.Proofs.YtkmhagjdafeebaaGreat
/- Layer 26 (train): what is saved: metrics, Saved.Equal: contracts. -/
namespace Go.Proofs.YtkmhagjdafeebaaGreat
open Go.RowKit

/-- What is told of a step. -/
structure Met where
  a : Int
  b : Int
  c : Int
  d : Int
  e : Int
  f : Int
def Met.l (m : Met) : List Int := [m.a, m.b, m.c, m.d, m.e, m.f]
def Met.v (m : Met) : Value := .agg #[.int .i64 m.a, .int .i64 m.b, .int .i64 m.c, .int .i64 m.d, .int .i64 m.e, .int .i64 m.f]
def Met.eq (m n : Met) : Bool := m.l == n.l
theorem Met.eq_iff (m n : Met) : m.eq n = true ↔ m = n := by cases m; cases n; simp [Met.eq, Met.l]

theorem Met.l_inj {m n : Met} (h : m.l = n.l) : m = n := (Met.eq_iff m n).1 (by simp [Met.eq, h])
def Met.eqs (ms ns : List Met) : Bool := ms.map Met.l == ns.map Met.l
theorem Met.eqs_iff (ms ns : List Met) : Met.eqs ms ns = true ↔ ms = ns := by
  unfold Met.eqs
  rw [beq_iff_eq]
  exact ⟨fun h => List.map_inj_right (fun _ _ => Met.l_inj) |>.1 h, fun h => by rw [h]⟩
theorem Met.eqs_false {ms ns : List Met} (h : ms ≠ ns) : Met.eqs ms ns = false := by
  cases e : Met.eqs ms ns
  · rfl
  · exact absurd ((Met.eqs_iff _ _).1 e) h

/-- A slice of metrics reads as the list ms. -/
def Mets (w : World) (A : Option Addr) (ms : List Met) : Prop :=
  ∀ j (hj : j < ms.length), ∃ b off, A = some ⟨b, off, none⟩ ∧ b < w.heap.size ∧ w.cell? ⟨b, off + j * 6, none⟩ = some (.int .i64 ms[j].a) ∧ w.cell? ⟨b, off + j * 6 + 1, none⟩ = some (.int .i64 ms[j].b) ∧ w.cell? ⟨b, off + j * 6 + 2, none⟩ = some (.int .i64 ms[j].c) ∧ w.cell? ⟨b, off + j * 6 + 3, none⟩ = some (.int .i64 ms[j].d) ∧ w.cell? ⟨b, off + j * 6 + 4, none⟩ = some (.int .i64 ms[j].e) ∧ w.cell? ⟨b, off + j * 6 + 5, none⟩ = some (.int .i64 ms[j].f)
theorem Mets.below {B : Nat} {w w' : World} {A : Option Addr} {ms : List Met} (h : Mets w A ms) (hb : Below B w w') (hB : w.heap.size ≤ B) : Mets w' A ms := fun j hj => by
  obtain ⟨b, off, e, hl, c0, c1, c2, c3, c4, c5⟩ := h j hj
  have hlt := Nat.lt_of_lt_of_le hl hB
  have hc : ∀ o, w'.cell? ⟨b, o, none⟩ = w.cell? ⟨b, o, none⟩ := fun o => hb.cell (p := ⟨b, o, none⟩) hlt
  exact ⟨b, off, e, Nat.lt_of_lt_of_le hl hb.size, (hc _).trans c0, (hc _).trans c1, (hc _).trans c2, (hc _).trans c3, (hc _).trans c4, (hc _).trans c5⟩

theorem met_stood : Tryz.prog.stoodInHeld 70 = false := by kernel_rfl
theorem met_guard : Tryz.prog.eqGuardType Tryz.prog.depth 70 = false := by kernel_rfl
theorem run_neq_met (m n : Met) (w : World) : (binOp .neq 70 (.agg #[.int .i64 m.a, .int .i64 m.b, .int .i64 m.c, .int .i64 m.d, .int .i64 m.e, .int .i64 m.f]) (.agg #[.int .i64 n.a, .int .i64 n.b, .int .i64 n.c, .int .i64 n.d, .int .i64 n.e, .int .i64 n.f])).run Tryz.prog w = .ok (.bool (!(m.eq n))) w := by
  have g1 := met_stood
  have g2 := met_guard
  cases h1 : (m.a == n.a)
  · simp [go_sem, g1, h1, Met.eq, Met.l]
  cases h2 : (m.b == n.b)
  · simp [go_sem, g1, h1, h2, Met.eq, Met.l]
  cases h3 : (m.c == n.c)
  · simp [go_sem, g1, h1, h2, h3, Met.eq, Met.l]
  cases h4 : (m.d == n.d)
  · simp [go_sem, g1, h1, h2, h3, h4, Met.eq, Met.l]
  cases h5 : (m.e == n.e)
  · simp [go_sem, g1, h1, h2, h3, h4, h5, Met.eq, Met.l]
  cases h6 : (m.f == n.f)
  all_goals simp [go_sem, g1, h1, h2, h3, h4, h5, h6, Met.eq, Met.l]

set_option maxHeartbeats 2000000 in
theorem mets_equal (A A' : Option Addr) (c c' : Nat) (ms ns : List Met) (w : World) (hl : ms.length ≤ 1000000000) (hl' : ns.length ≤ 1000000000) (hM : Mets w A ms) (hM' : Mets w A' ns) :
    Calls Tryz.prog 36 #[.slice A ms.length c, .slice A' ns.length c'] w fun e w' => e = .returned (.bool (Met.eqs ms ns)) ∧ ∃ n, w' = w.drewN n := by
  have HM := Lib.hid hM
  have HM' := Lib.hid hM'
  clear hM hM'
  have heq := fun m n => run_neq_met m n
  by_cases hn : ms.length = ns.length
  · have hq : ((ms.length : Int) != ns.length) = false := by simp [hn]
    have HN := Lib.hid hn
    clear hn
    go_enter Tryz.func36, Tryz.ntmps36
    go_wp2_with fail
    go_loopw [13] (fun i wr => ∃ k n : Nat, wr = w.drewN n ∧ k ≤ ms.length ∧ i = .int .i64 k ∧ ms.take k = ns.take k) (fun i _ => ms.length - (intOf i).toNat)
    case atStart => exact ⟨0, 0, rfl, Nat.zero_le _, rfl, rfl⟩
    case round =>
      obtain ⟨k, n, rfl, hk, rfl, htk⟩ := hrel
      have HT := Lib.hid htk
      clear htk
      by_cases hlt : k < ms.length
      · have hlt' : k < ns.length := by have := HN.out; omega
        obtain ⟨b, off, rfl, hb, c0, c1, c2, c3, c4, c5⟩ := HM.out k hlt
        obtain ⟨b', off', rfl, hb', c0', c1', c2', c3', c4', c5'⟩ := HM'.out k hlt'
        have k0 : (0 : Int) ≤ k := by omega
        have k1 : (k : Int) < ms.length := by omega
        have k2 : (k : Int) < ns.length := by omega
        have hnext : ms[k].eq ns[k] = true → ms.take (k + 1) = ns.take (k + 1) := fun h => by rw [List.take_succ_eq_append_getElem hlt, List.take_succ_eq_append_getElem hlt', HT.out, (Met.eq_iff _ _).1 h]
        have hbad : ms[k].eq ns[k] = false → Met.eqs ms ns = false := fun h => Met.eqs_false (by rintro rfl; rw [(Met.eq_iff _ _).2 rfl] at h; cases h)
        have Hnext := Lib.hid hnext
        have Hbad := Lib.hid hbad
        clear hnext hbad
        generalize ms[k] = x at *
        generalize ns[k] = y at *
        cases hxy : x.eq y
        · have HF := Lib.hid (Hbad.out hxy)
          go_wp2_with fail
          go_quiet (fail)
          go_wp2_with fail
          go_ret
          exact ⟨by rw [HF.out]; rfl, n + nq, World.drewN_drewN _ _ _⟩
        · have HT2 := Lib.hid (Hnext.out hxy)
          go_wp2_with fail
          go_quiet (fail)
          go_wp2_with fail
          go_roundw
          case rel => exact ⟨k + 1, n + nq, by first | rfl | exact World.drewN_drewN _ _ _, by omega, by go_num, HT2.out⟩
          case measure => simp [intOf]; omega
      · obtain rfl : k = ms.length := by omega
        have hf := Lib.hid (show Met.eqs ms ns = true by have := HT.out; rw [List.take_length, HN.out, List.take_length] at this; exact (Met.eqs_iff _ _).2 this)
        go_wp2_with fail
        go_ret
        exact ⟨by rw [hf.out]; rfl, n, rfl⟩
  · have hq : ((ms.length : Int) != ns.length) = true := by simp; omega
    have hf := Lib.hid (Met.eqs_false (ms := ms) (ns := ns) (by rintro rfl; exact hn rfl))
    clear hn
    go_enter Tryz.func36, Tryz.ntmps36
    go_wp2_with fail
    go_ret
    exact ⟨by rw [hf.out]; rfl, 0, rfl⟩

/-- What is saved. -/
structure Sav where
  p : List Ten
  v : List Ten
  m : List Met
namespace Sav
def ok (s : Sav) : Prop := s.p.length ≤ 1000000 ∧ s.v.length ≤ 1000000 ∧ s.m.length ≤ 1000000 ∧ Tn.small s.p ∧ Tn.small s.v
def eq (s t : Sav) : Bool := Tn.eqs s.p t.p && Tn.eqs s.v t.v && Met.eqs s.m t.m
theorem eq_iff (s t : Sav) : eq s t = true ↔ s = t := by
  cases s; cases t
  simp [eq, Tn.eqs_iff, Met.eqs_iff, and_assoc]
end Sav
def SavR (w : World) (P V M : Option Addr) (s : Sav) : Prop := Tens w P s.p ∧ Tens w V s.v ∧ Mets w M s.m
theorem SavR.below {B : Nat} {w w' : World} {P V M : Option Addr} {s : Sav} (h : SavR w P V M s) (hb : Below B w w') (hB : w.heap.size ≤ B) : SavR w' P V M s := ⟨h.1.below hb hB, h.2.1.below hb hB, h.2.2.below hb hB⟩

set_option maxHeartbeats 1000000 in
theorem saved_equal (P V M P' V' M' : Option Addr) (c1 c2 c3 d1 d2 d3 : Nat) (s t : Sav) (w : World) (hs : s.ok) (ht : t.ok) (hS : SavR w P V M s) (hT : SavR w P' V' M' t) :
    Calls Tryz.prog 14 #[.agg #[.slice P s.p.length c1, .slice V s.v.length c2, .slice M s.m.length c3], .agg #[.slice P' t.p.length d1, .slice V' t.v.length d2, .slice M' t.m.length d3]] w fun e w' => e = .returned (.bool (s.eq t)) ∧ Below w.heap.size w w' := by
  have hb0 : Below w.heap.size w ((w.alloc (.cells #[.slice P s.p.length c1, .slice V s.v.length c2, .slice M s.m.length c3] 32)).alloc (.cells #[.slice P' t.p.length d1, .slice V' t.v.length d2, .slice M' t.m.length d3] 32)) := ((Below.refl _ _).alloc (Nat.le_refl _) _).alloc (by simp) _
  have hk0 := (Blk.new w 32 #[.slice P s.p.length c1, .slice V s.v.length c2, .slice M s.m.length c3]).alloc (.cells #[.slice P' t.p.length d1, .slice V' t.v.length d2, .slice M' t.m.length d3] 32)
  have hk1 := Blk.new (w.alloc (.cells #[.slice P s.p.length c1, .slice V s.v.length c2, .slice M s.m.length c3] 32)) 32 #[.slice P' t.p.length d1, .slice V' t.v.length d2, .slice M' t.m.length d3]
  rw [World.size_alloc] at hk1
  obtain ⟨s1, s2, s3, s4, s5⟩ := hs
  obtain ⟨t1, t2, t3, t4, t5⟩ := ht
  have HE := Lib.hid (show s.eq t = (Tn.eqs s.p t.p && Tn.eqs s.v t.v && Met.eqs s.m t.m) from rfl)
  have HS := Lib.hid hS
  have HT := Lib.hid hT
  have Hk0 := Lib.hid hk0
  have Hk1 := Lib.hid hk1
  have Hs4 := Lib.hid s4
  have Hs5 := Lib.hid s5
  have Ht4 := Lib.hid t4
  have Ht5 := Lib.hid t5
  clear hS hT hk0 hk1 s4 s5 t4 t5
  go_enter Tryz.func14, Tryz.ntmps14
  go_wp2_with fail
  refine (state_equal P V P' V' c1 c2 d1 d2 s.p s.v t.p t.v _ (by omega) (by omega) (by omega) (by omega) Hs4.out Hs5.out Ht4.out Ht5.out (HS.out.1.below hb0 (Nat.le_refl _)) (HS.out.2.1.below hb0 (Nat.le_refl _)) (HT.out.1.below hb0 (Nat.le_refl _)) (HT.out.2.1.below hb0 (Nat.le_refl _))).mono ?_
  rintro e w1 ⟨rfl, g1⟩
  have e1 := (Hk0.out.below g1 Hk0.out.lt).cell 2
  have e2 := (Hk1.out.below g1 Hk1.out.lt).cell 2
  simp at e1 e2
  have hb1 := hb0.trans (g1.mono hb0.size)
  clear g1 hb0
  cases hs : Tn.eqs s.p t.p && Tn.eqs s.v t.v
  · have HF := Lib.hid (show s.eq t = false by rw [HE.out, hs]; rfl)
    clear hs
    go_wp2_with fail
    go_ret
    exact ⟨by rw [HF.out]; rfl, hb1⟩
  · have HF := Lib.hid (show s.eq t = Met.eqs s.m t.m by rw [HE.out, hs, Bool.true_and])
    clear hs
    go_wp2_with fail
    refine (mets_equal M M' c3 d3 s.m t.m _ (by omega) (by omega) (HS.out.2.2.below hb1 (Nat.le_refl _)) (HT.out.2.2.below hb1 (Nat.le_refl _))).mono ?_
    rintro e w2 ⟨rfl, n, rfl⟩
    go_wp2_with fail
    go_ret
    exact ⟨by rw [HF.out]; rfl, Bdrawn hb1 n⟩
end Go.Proofs.YtkmhagjdafeebaaGreat
/- Layer 27 (keep): the bytes of what is saved: plain laws. -/
namespace Go.Proofs.YtkmhagjdafeebaaGreat
namespace Kp
def tens (ts : List Ten) : List Int := ts.flatMap fun t => Fp.shape t.s ++ Fp.words t.c
def cells (ts : List Ten) : List Int := ts.flatMap fun t => Fp.words t.c
def mets (ms : List Met) : List Int := ms.flatMap fun m => Fp.words m.l
def head (s : Sav) : List Int := Fp.big 1096042579 4 ++ Fp.big s.p.length 2
def body (s : Sav) : List Int := head s ++ tens s.p ++ cells s.v ++ Fp.big s.m.length 2 ++ mets s.m
def enc (s : Sav) : List Int := body s ++ Fp.big (Fp.sum (body s)) 4
def err (s : Sav) : Int := if Tn.alike s.p s.v = false then 20 else if 512 < s.p.length ∨ 1024 < s.m.length then 12 else 0
theorem err_shape {s : Sav} (h : Tn.alike s.p s.v = false) : err s = 20 := by simp [err, h]
theorem err_many {s : Sav} (h : Tn.alike s.p s.v = true) (hm : 512 < s.p.length ∨ 1024 < s.m.length) : err s = 12 := by simp [err, h, hm]
theorem err_ok {s : Sav} (h : Tn.alike s.p s.v = true) (hp : s.p.length ≤ 512) (hm : s.m.length ≤ 1024) : err s = 0 := by simp [err, h]; omega
theorem take_flat {α : Type} (f : α → List Int) (l : List α) (k : Nat) (h : k < l.length) : (l.take (k + 1)).flatMap f = (l.take k).flatMap f ++ f l[k] := by
  rw [List.take_succ_eq_append_getElem h, List.flatMap_append]; simp
theorem tens_take (l : List Ten) (k : Nat) (h : k < l.length) : tens (l.take (k + 1)) = tens (l.take k) ++ Fp.shape l[k].s ++ Fp.words l[k].c := by
  unfold tens; rw [take_flat _ _ _ h, List.append_assoc]
theorem cells_take (l : List Ten) (k : Nat) (h : k < l.length) : cells (l.take (k + 1)) = cells (l.take k) ++ Fp.words l[k].c := take_flat _ _ _ h
theorem words_append (a b : List Int) : Fp.words (a ++ b) = Fp.words a ++ Fp.words b := by simp [Fp.words]
theorem mets_take (l : List Met) (k : Nat) (h : k < l.length) : mets (l.take (k + 1)) = mets (l.take k) ++ Fp.words [l[k].a, l[k].b, l[k].c, l[k].d] ++ Fp.words [l[k].e, l[k].f] := by
  unfold mets; rw [take_flat _ _ _ h, List.append_assoc, ← words_append]; rfl
theorem flat_le {α : Type} (f : α → List Int) (l : List α) (n : Nat) (h : ∀ x ∈ l, (f x).length ≤ n) : (l.flatMap f).length ≤ l.length * n := by
  induction l with
  | nil => simp
  | cons x r ih =>
    have h1 := h x (by simp)
    have h2 := ih fun y hy => h y (by simp [hy])
    simp only [List.flatMap_cons, List.length_append, List.length_cons, Nat.succ_mul]
    omega
theorem tens_len {l : List Ten} (h : l.all Tn.right = true) : (tens l).length ≤ l.length * 524297 := flat_le _ _ _ fun t ht => by
  have := Tn.right_len (List.all_eq_true.1 h t ht)
  rw [List.length_append, Fp.shape_length, Fp.words_length]
  omega
theorem cells_len {l : List Ten} (h : l.all Tn.right = true) : (cells l).length ≤ l.length * 524288 := flat_le _ _ _ fun t ht => by
  have := Tn.right_len (List.all_eq_true.1 h t ht)
  rw [Fp.words_length]
  omega
theorem mets_len (l : List Met) : (mets l).length = 48 * l.length := by
  induction l with
  | nil => rfl
  | cons m r ih => simp only [mets, List.flatMap_cons, List.length_append, List.length_cons] at ih ⊢; rw [ih, Fp.words_length]; simp [Met.l]; omega
theorem all_take {α : Type} {p : α → Bool} {l : List α} (h : l.all p = true) (k : Nat) : (l.take k).all p = true := by
  rw [List.all_eq_true] at h ⊢
  exact fun x hx => h x (List.mem_of_mem_take hx)
theorem alike_all {a b : List Ten} (h : Tn.alike a b = true) : a.length = b.length ∧ a.all Tn.right = true ∧ b.all Tn.right = true ∧ a.map (·.s) = b.map (·.s) := by
  simp only [Tn.alike, Bool.and_eq_true, decide_eq_true_eq, beq_iff_eq] at h
  exact ⟨h.1.1.1, h.1.1.2, h.1.2, h.2⟩
theorem head_len (s : Sav) : (head s).length = 6 := by simp [head, Fp.big_length]
theorem bytes_flat {α : Type} (f : α → List Int) (l : List α) (h : ∀ x ∈ l, ∀ y ∈ f x, 0 ≤ y ∧ y ≤ 255) : ∀ y ∈ l.flatMap f, 0 ≤ y ∧ y ≤ 255 := fun y hy => by
  obtain ⟨x, hx, hy⟩ := List.mem_flatMap.1 hy
  exact h x hx y hy
theorem words_byte (zs : List Int) : ∀ y ∈ Fp.words zs, 0 ≤ y ∧ y ≤ 255 := bytes_flat _ _ fun x _ => Fp.big_byte x 8
theorem shape_byte (zs : List Int) : ∀ y ∈ Fp.shape zs, 0 ≤ y ∧ y ≤ 255 := fun y hy => by
  rcases List.mem_append.1 hy with h | h
  · exact Fp.big_byte _ _ y h
  · exact bytes_flat _ _ (fun x _ => Fp.big_byte x 2) y h
theorem body_byte (s : Sav) : ∀ y ∈ body s, 0 ≤ y ∧ y ≤ 255 := fun y hy => by
  simp only [body, head, List.mem_append] at hy
  rcases hy with (((h | h) | h) | h) | h
  · rcases h with h | h <;> exact Fp.big_byte _ _ y h
  · refine bytes_flat _ _ (fun t _ y hy => ?_) y h
    rcases List.mem_append.1 hy with h | h
    · exact shape_byte _ y h
    · exact words_byte _ y h
  · exact bytes_flat _ _ (fun t _ => words_byte _) y h
  · exact Fp.big_byte _ _ y h
  · exact bytes_flat _ _ (fun t _ => words_byte _) y h
end Kp
end Go.Proofs.YtkmhagjdafeebaaGreat
/- Layer 27 (keep): get, short, count, cells: contracts. -/
namespace Go.Proofs.YtkmhagjdafeebaaGreat
open Go.RowKit

namespace Kr
/-- A word as a signed number. -/
def sx (n : Int) : Int := IntKind.i64.wrap n
/-- n words, read one by one. -/
def nums : Nat → Option (List Int) → List Int × Option (List Int)
  | 0, st => ([], st)
  | n + 1, st => ((nums n st).1 ++ [sx (Fp.get 8 (nums n st).2).1], (Fp.get 8 (nums n st).2).2)
theorem nums_len (n : Nat) (st : Option (List Int)) : (nums n st).1.length = n := by
  induction n with
  | zero => rfl
  | succ n ih => simp [nums, ih]
end Kr

theorem RdO.fr {S : Nat → Prop} {r : Nat} {st : Option (List Int)} {w w' : World} (h : RdO r st w) (hf : Fr S w w') (hS : ∀ b, S b → r < b) : RdO r st w' := by
  have key : ∀ bs sh, Rd r bs sh w → Rd r bs sh w' := fun bs sh ⟨A, c, hb, hI, hc, hne⟩ =>
    ⟨A, c, hf.blk hb (fun h => by have := hS _ h; omega), hf.ints hI (fun a e h => by have := hS _ h; have := hne a e; omega), hc, hne⟩
  cases st with
  | none => obtain ⟨bs, h, h2⟩ := h; exact ⟨bs, key _ _ h, h2⟩
  | some bs => exact ⟨key _ _ h.1, h.2⟩

/-- A slice of pointers to places in a row of block g. -/
def Ptrs (w : World) (A : Option Addr) (g o n : Nat) : Prop :=
  ∀ i, i < n → ∃ b off, A = some ⟨b, off, none⟩ ∧ b < w.heap.size ∧ w.cell? ⟨b, off + i, none⟩ = some (.pointer (some ⟨g, o + i, none⟩))

def GetsP (r g o n : Nat) (t : TypeId) (cs : List Value) (st : Option (List Int)) (w : World) (e : Ending) (w' : World) : Prop :=
  e = .returned (.tuple #[]) ∧ RdO r (Kr.nums n st).2 w' ∧ Blk w' g t (splice cs o ((Kr.nums n st).1.map (Value.int .i64))).toArray ∧ Fr (fun b => b = r ∨ b = g) w w'

set_option maxHeartbeats 1000000 in
theorem keep_get_fix (r g o n : Nat) (t : TypeId) (cs : List Value) (A : Option Addr) (c : Nat) (st : Option (List Int)) (w : World) (hR : RdO r st w) (hG : Blk w g t cs.toArray) (hP : Ptrs w A g o n) (hrg : r < g) (hon : o + n ≤ cs.length) (hn : n ≤ 100) (hA : ∀ a, A = some a → a.block ≠ r ∧ a.block ≠ g) :
    Calls Tryz.prog 67 #[.func (.func 31) #[.pointer (some ⟨r, 0, none⟩)] #[], .slice A n c] w (GetsP r g o n t cs st w) := by
  have HR := Lib.hid hR
  have HG := Lib.hid hG
  have HP := Lib.hid hP
  have HA := Lib.hid hA
  clear hR hG hP hA
  go_enter Tryz.func67, Tryz.ntmps67
  go_wp2_with fail
  go_loopw [5, 8] (fun _ i wr => ∃ k : Nat, k ≤ n ∧ i = .int .i64 k ∧ RdO r (Kr.nums k st).2 wr ∧ Blk wr g t (splice cs o ((Kr.nums k st).1.map (Value.int .i64))).toArray ∧ Fr (fun b => b = r ∨ b = g) w wr) (fun _ i _ => n - (intOf i).toNat)
  case atStart => exact ⟨0, Nat.zero_le _, rfl, HR.out, by rw [Kr.nums, List.map_nil, splice_zero]; exact HG.out, Fr.refl _ _⟩
  case round =>
    clear HR HG
    obtain ⟨k, hk, rfl, hR, hG, hF⟩ := hrel
    by_cases hlt : k < n
    · obtain ⟨b, off, rfl, hb, hc⟩ := HP.out k hlt
      have hA1 := HA.out _ rfl
      have hc' := hF.cell hc (by simp; exact hA1)
      have hnl := Kr.nums_len k st
      have hsl := length_splice cs o ((Kr.nums k st).1.map (Value.int .i64)) (by simp; omega)
      have HR := Lib.hid hR
      have HG := Lib.hid hG
      have Hnl := Lib.hid hnl
      have Hsl := Lib.hid hsl
      clear hR hG hnl hsl
      go_wp2_with fail
      refine (reader_getO r 8 (Kr.nums k st).2 _ HR.out (by omega) (by omega)).mono ?_
      rintro e w1 ⟨rfl, hR1, hg1⟩
      have hF1 := hF.grown hg1 (fun j e _ => by injection e with e; exact .inl e.symm)
      have hG1 := HG.out.grown hg1 (by intro e; injection e with e; omega)
      have hcell := hG1.cell (o + k)
      have hfro := hG1.frozen (o + k)
      obtain ⟨v0, hv0⟩ : ∃ v, w1.cell? ⟨g, o + k, none⟩ = some v := ⟨(splice cs o ((Kr.nums k st).1.map (Value.int .i64)))[o + k]'(by have := Hsl.out; omega), by rw [hcell]; simp⟩
      have HB := Lib.hid (show Blk (w1.setCell ⟨g, o + k, none⟩ (.int .i64 (Kr.sx (Fp.get 8 (Kr.nums k st).2).1))) g t (splice cs o ((Kr.nums (k + 1) st).1.map (Value.int .i64))).toArray by
        have h := hG1.set_ (o + k) (.int .i64 (Kr.sx (Fp.get 8 (Kr.nums k st).2).1))
        have e := splice_set cs o ((Kr.nums k st).1.map (Value.int .i64)) (.int .i64 (Kr.sx (Fp.get 8 (Kr.nums k st).2).1)) (by simp [Hnl.out]; omega)
        rw [List.length_map, Hnl.out] at e
        rw [Kr.nums, List.map_append, List.map_cons, List.map_nil, ← e]
        simpa using h)
      have HF2 := Lib.hid (hF1.setCell (p := ⟨g, o + k, none⟩) (fun _ => .inr rfl) (.int .i64 (Kr.sx (Fp.get 8 (Kr.nums k st).2).1)))
      have HR2 := Lib.hid (show RdO r (Kr.nums (k + 1) st).2 (w1.setCell ⟨g, o + k, none⟩ (.int .i64 (Kr.sx (Fp.get 8 (Kr.nums k st).2).1))) from hR1.fr (S := fun b => b = g) ((Fr.refl (fun b => b = g) _).setCell (p := ⟨g, o + k, none⟩) (fun _ => rfl) _) (fun b e => by omega))
      have hsx : IntKind.i64.wrap (Fp.get 8 (Kr.nums k st).2).1 = Kr.sx (Fp.get 8 (Kr.nums k st).2).1 := rfl
      generalize (Fp.get 8 (Kr.nums k st).2).1 = val at *
      clear hR1 hg1 hG1 hF1 hcell
      go_wp2_with fail
      go_roundw
      case rel => exact ⟨k + 1, by omega, by go_num, HR2.out, HB.out, HF2.out⟩
      case measure => simp [intOf]; omega
    · obtain rfl : k = n := by omega
      have HR := Lib.hid hR
      have HG := Lib.hid hG
      clear hR hG
      go_wp2_with fail
      go_end0
      exact ⟨rfl, HR.out, HG.out, hF⟩
set_option maxHeartbeats 1000000 in
theorem keep_get_int (r g o n : Nat) (t : TypeId) (cs : List Value) (A : Option Addr) (c : Nat) (st : Option (List Int)) (w : World) (hR : RdO r st w) (hG : Blk w g t cs.toArray) (hP : Ptrs w A g o n) (hrg : r < g) (hon : o + n ≤ cs.length) (hn : n ≤ 100) (hA : ∀ a, A = some a → a.block ≠ r ∧ a.block ≠ g) :
    Calls Tryz.prog 66 #[.func (.func 31) #[.pointer (some ⟨r, 0, none⟩)] #[], .slice A n c] w (GetsP r g o n t cs st w) := by
  have HR := Lib.hid hR
  have HG := Lib.hid hG
  have HP := Lib.hid hP
  have HA := Lib.hid hA
  clear hR hG hP hA
  go_enter Tryz.func66, Tryz.ntmps66
  go_wp2_with fail
  go_loopw [5, 8] (fun _ i wr => ∃ k : Nat, k ≤ n ∧ i = .int .i64 k ∧ RdO r (Kr.nums k st).2 wr ∧ Blk wr g t (splice cs o ((Kr.nums k st).1.map (Value.int .i64))).toArray ∧ Fr (fun b => b = r ∨ b = g) w wr) (fun _ i _ => n - (intOf i).toNat)
  case atStart => exact ⟨0, Nat.zero_le _, rfl, HR.out, by rw [Kr.nums, List.map_nil, splice_zero]; exact HG.out, Fr.refl _ _⟩
  case round =>
    clear HR HG
    obtain ⟨k, hk, rfl, hR, hG, hF⟩ := hrel
    by_cases hlt : k < n
    · obtain ⟨b, off, rfl, hb, hc⟩ := HP.out k hlt
      have hA1 := HA.out _ rfl
      have hc' := hF.cell hc (by simp; exact hA1)
      have hnl := Kr.nums_len k st
      have hsl := length_splice cs o ((Kr.nums k st).1.map (Value.int .i64)) (by simp; omega)
      have HR := Lib.hid hR
      have HG := Lib.hid hG
      have Hnl := Lib.hid hnl
      have Hsl := Lib.hid hsl
      clear hR hG hnl hsl
      go_wp2_with fail
      refine (reader_getO r 8 (Kr.nums k st).2 _ HR.out (by omega) (by omega)).mono ?_
      rintro e w1 ⟨rfl, hR1, hg1⟩
      have hF1 := hF.grown hg1 (fun j e _ => by injection e with e; exact .inl e.symm)
      have hG1 := HG.out.grown hg1 (by intro e; injection e with e; omega)
      have hcell := hG1.cell (o + k)
      have hfro := hG1.frozen (o + k)
      obtain ⟨v0, hv0⟩ : ∃ v, w1.cell? ⟨g, o + k, none⟩ = some v := ⟨(splice cs o ((Kr.nums k st).1.map (Value.int .i64)))[o + k]'(by have := Hsl.out; omega), by rw [hcell]; simp⟩
      have HB := Lib.hid (show Blk (w1.setCell ⟨g, o + k, none⟩ (.int .i64 (Kr.sx (Fp.get 8 (Kr.nums k st).2).1))) g t (splice cs o ((Kr.nums (k + 1) st).1.map (Value.int .i64))).toArray by
        have h := hG1.set_ (o + k) (.int .i64 (Kr.sx (Fp.get 8 (Kr.nums k st).2).1))
        have e := splice_set cs o ((Kr.nums k st).1.map (Value.int .i64)) (.int .i64 (Kr.sx (Fp.get 8 (Kr.nums k st).2).1)) (by simp [Hnl.out]; omega)
        rw [List.length_map, Hnl.out] at e
        rw [Kr.nums, List.map_append, List.map_cons, List.map_nil, ← e]
        simpa using h)
      have HF2 := Lib.hid (hF1.setCell (p := ⟨g, o + k, none⟩) (fun _ => .inr rfl) (.int .i64 (Kr.sx (Fp.get 8 (Kr.nums k st).2).1)))
      have HR2 := Lib.hid (show RdO r (Kr.nums (k + 1) st).2 (w1.setCell ⟨g, o + k, none⟩ (.int .i64 (Kr.sx (Fp.get 8 (Kr.nums k st).2).1))) from hR1.fr (S := fun b => b = g) ((Fr.refl (fun b => b = g) _).setCell (p := ⟨g, o + k, none⟩) (fun _ => rfl) _) (fun b e => by omega))
      have hsx : IntKind.i64.wrap (Fp.get 8 (Kr.nums k st).2).1 = Kr.sx (Fp.get 8 (Kr.nums k st).2).1 := rfl
      generalize (Fp.get 8 (Kr.nums k st).2).1 = val at *
      clear hR1 hg1 hG1 hF1 hcell
      go_wp2_with fail
      go_roundw
      case rel => exact ⟨k + 1, by omega, by go_num, HR2.out, HB.out, HF2.out⟩
      case measure => simp [intOf]; omega
    · obtain rfl : k = n := by omega
      have HR := Lib.hid hR
      have HG := Lib.hid hG
      clear hR hG
      go_wp2_with fail
      go_end0
      exact ⟨rfl, HR.out, HG.out, hF⟩

theorem keep_short (r : Nat) (st : Option (List Int)) (w : World) (h : RdO r st w) :
    Calls Tryz.prog 64 #[.pointer (some ⟨r, 0, none⟩)] w fun e w' => e = .returned (.bool st.isNone) ∧ w = w' := by
  have HE := Lib.hid (show (Fp.endO st == 16) = st.isNone by cases st with | none => rfl | some bs => simp [Fp.endO]; split <;> simp)
  have H := Lib.hid h
  clear h
  go_enter Tryz.func64, Tryz.ntmps64
  go_wp2_with fail
  refine (reader_endO r st _ H.out).mono ?_
  rintro e w1 ⟨rfl, rfl⟩
  go_wp2_with fail
  go_ret
  exact ⟨by rw [← HE.out]; rfl, rfl⟩

namespace Kr
/-- A count of things, at most most. -/
def count (most : Int) (st : Option (List Int)) : Int × Int × Option (List Int) :=
  if (Fp.get 2 st).2.isNone then (0, 16, none) else if most < (Fp.get 2 st).1 then (0, 12, (Fp.get 2 st).2) else ((Fp.get 2 st).1, 0, (Fp.get 2 st).2)
theorem get_two {st : Option (List Int)} (h : Fp.okB st) : 0 ≤ (Fp.get 2 st).1 ∧ (Fp.get 2 st).1 ≤ 65535 := by
  cases st with
  | none => simp [Fp.get]
  | some bs =>
    by_cases hl : bs.length < 2
    · rw [Fp.get_short hl]; simp
    · rw [Fp.get_ok hl]; exact Fp.two_bytes h hl
end Kr

def CountP (r : Nat) (most : Int) (st : Option (List Int)) (w : World) (e : Ending) (w' : World) : Prop :=
  e = .returned (.tuple #[.int .i64 (Kr.count most st).1, .int .i64 (Kr.count most st).2.1]) ∧ RdO r (Kr.count most st).2.2 w' ∧ Fr (fun b => b = r) w w'
set_option maxHeartbeats 1000000 in
theorem keep_count (r : Nat) (most : Int) (st : Option (List Int)) (w : World) (h : RdO r st w) :
    Calls Tryz.prog 62 #[.pointer (some ⟨r, 0, none⟩), .int .i64 most] w (CountP r most st w) := by
  have ⟨hx0, hx1⟩ := Kr.get_two h.ok
  have H := Lib.hid h
  clear h
  have HC := Lib.hid (show Kr.count most st = if (Fp.get 2 st).2.isNone then (0, 16, none) else if most < (Fp.get 2 st).1 then (0, 12, (Fp.get 2 st).2) else ((Fp.get 2 st).1, 0, (Fp.get 2 st).2) from rfl)
  go_enter Tryz.func62, Tryz.ntmps62
  go_wp2_with fail
  refine (reader_getO r 2 st _ H.out (by omega) (by omega)).mono ?_
  rintro e w1 ⟨rfl, hR1, hg1⟩
  have hF := Fr.of_grown (S := fun b => b = r) hg1 (fun k e _ => by injection e with e; exact e.symm)
  clear hg1
  have HR1 := Lib.hid hR1
  clear hR1
  generalize (Fp.get 2 st).1 = x at *
  generalize (Fp.get 2 st).2 = s2 at *
  go_wp2_with fail
  refine (keep_short r s2 _ HR1.out).mono ?_
  rintro e w2 ⟨rfl, rfl⟩
  cases s2 with
  | none =>
    go_wp2_with fail
    go_ret2
    exact ⟨by rw [HC.out]; rfl, by rw [HC.out]; exact HR1.out, hF⟩
  | some bs =>
    by_cases hm : most < x
    · have HD := Lib.hid (show Kr.count most st = (0, 12, some bs) by rw [HC.out]; simp [hm])
      go_wp2_with fail
      go_ret2
      exact ⟨by rw [HD.out]; rfl, by rw [HD.out]; exact HR1.out, hF⟩
    · have HD := Lib.hid (show Kr.count most st = (x, 0, some bs) by rw [HC.out]; simp [hm])
      go_wp2_with fail
      go_ret2
      exact ⟨by rw [HD.out]; rfl, by rw [HD.out]; exact HR1.out, hF⟩

namespace Kr
/-- The cells of a tensor of a shape: the error, the cells, what is left. -/
def cells (s : List Int) (st : Option (List Int)) : Int × List Int × Option (List Int) :=
  if Sh.right s = false then (20, [], st) else if (nums (Safe.prod s).toNat st).2.isNone then (16, [], none) else (0, (nums (Safe.prod s).toNat st).1, (nums (Safe.prod s).toNat st).2)
theorem cells_bad {s : List Int} {st : Option (List Int)} (h : Sh.right s = false) : cells s st = (20, [], st) := by simp [cells, h]
theorem cells_short {s : List Int} {st : Option (List Int)} (h : Sh.right s = true) (hn : (nums (Safe.prod s).toNat st).2 = none) : cells s st = (16, [], none) := by simp [cells, h, hn]
theorem cells_ok {s : List Int} {st : Option (List Int)} {bs : List Int} (h : Sh.right s = true) (hn : (nums (Safe.prod s).toNat st).2 = some bs) : cells s st = (0, (nums (Safe.prod s).toNat st).1, some bs) := by simp [cells, h, hn]
end Kr

def CellsP (r : Nat) (s : List Int) (st : Option (List Int)) (w : World) (e : Ending) (w' : World) : Prop :=
  ((Kr.cells s st).1 ≠ 0 ∧ e = .returned (.tuple #[.agg #[.slice none 0 0, .slice none 0 0], .int .i64 (Kr.cells s st).1]) ∨ (Kr.cells s st).1 = 0 ∧ ∃ v, e = .returned (.tuple #[v, .int .i64 0]) ∧ TenN w.heap.size w' v ⟨s, (Kr.cells s st).2.1⟩) ∧ RdO r (Kr.cells s st).2.2 w' ∧ Fr (fun b => b = r) w w'
set_option maxHeartbeats 2000000 in
set_option maxRecDepth 100000 in
theorem keep_cells (r : Nat) (S : Option Addr) (c : Nat) (s : List Int) (st : Option (List Int)) (w : World) (hR : RdO r st w) (hl : s.length ≤ 1000000) (hI : Ints .i64 w S s) :
    Calls Tryz.prog 65 #[.pointer (some ⟨r, 0, none⟩), .slice S s.length c] w (CellsP r s st w) := by
  have hmk : ∀ (w : World), (Instr.makeFunc (.func 31) #[.pointer (some ⟨r, 0, none⟩)] #[]).run Tryz.prog w = .ok (.func (.func 31) #[.pointer (some ⟨r, 0, none⟩)] #[]) w := fun _ => rfl
  have hk0 := Blk.new w 26 #[.slice none 0 0, .slice none 0 0]
  have hI0 := hI.alloc (.cells #[.slice none 0 0, .slice none 0 0] 26)
  have hR0 := hR.alloc (.cells #[.slice none 0 0, .slice none 0 0] 26)
  have hF0 := (Fr.refl (fun b => b = r) w).alloc (.cells #[.slice none 0 0, .slice none 0 0] 26)
  have hrl := hR.lt
  have Hk0 := Lib.hid hk0
  have HI0 := Lib.hid hI0
  have HR0 := Lib.hid hR0
  clear hk0 hI0 hR0
  clear hI hR
  go_enter Tryz.func65, Tryz.ntmps65
  go_wp2_with fail
  refine (tensor_make S c s 0 _ hl HI0.out).mono ?_
  rintro e w1 ⟨hcase, h1⟩
  have hk1 := Hk0.out.below h1 Hk0.out.lt
  have hF1 := hF0.then_below h1 (by simp)
  have hR1 := HR0.out.fr (S := fun _ => False) (Fr.of_below h1 (fun b hb _ => hb)) (fun b h => h.elim)
  have hsz1 := h1.size
  rw [World.size_alloc] at hsz1
  clear h1 hF0 Hk0 HR0 HI0
  rcases hcase with ⟨hr, rfl⟩ | ⟨hr, v, rfl, g, h, rfl, hgb, hhb, hG, hH⟩
  · have HC := Lib.hid (Kr.cells_bad (st := st) hr)
    have hk2 := hk1.alloc (.cells #[.slice none 0 0, .slice none 0 0] 26)
    have c0 := hk2.cell 0
    have c1 := hk2.cell 1
    have f0 := hk2.frozen 0
    have f1 := hk2.frozen 1
    simp at c0 c1
    have hF2 := ((hF1.alloc (.cells #[.slice none 0 0, .slice none 0 0] 26)).setCell (p := ⟨w.heap.size, 0, none⟩) (fun h => absurd h (Nat.lt_irrefl _)) (.slice none 0 0)).setCell (p := ⟨w.heap.size, 1, none⟩) (fun h => absurd h (Nat.lt_irrefl _)) (.slice none 0 0)
    have hR2 := (hR1.alloc (.cells #[.slice none 0 0, .slice none 0 0] 26)).fr (S := fun b => b = w.heap.size) (((Fr.refl (fun b => b = w.heap.size) _).setCell (p := ⟨w.heap.size, 0, none⟩) (fun _ => rfl) (.slice none 0 0)).setCell (p := ⟨w.heap.size, 1, none⟩) (fun _ => rfl) (.slice none 0 0)) (fun b e => by omega)
    have Hr := Lib.hid hr
    have HF2 := Lib.hid hF2
    have HR2 := Lib.hid hR2
    clear hr hF2 hR2
    clear hk1 hk2 hF1 hR1
    go_wp2_with fail
    refine bodyPost_ret (v := .tuple #[.agg #[.slice none 0 0, .slice none 0 0], .int .i64 20]) (by simp [results, Tryz.results65, go_sem, c0, c1]) rfl ?_
    refine ⟨.inl ⟨by rw [HC.out]; simp, by rw [HC.out]⟩, by rw [HC.out]; exact HR2.out, HF2.out⟩
  · obtain ⟨_, _, _, _, hp1, hp2⟩ := Sh.right_mul hr
    have hbad := Kr.cells_short (s := s) (st := st) hr
    have hgood := fun bs => Kr.cells_ok (s := s) (st := st) (bs := bs) hr
    have hn1 : (Safe.prod s).toNat ≤ 65536 := by omega
    simp only [World.size_alloc, List.length_replicate] at hgb hhb hG hH ⊢
    have Hbad := Lib.hid hbad
    have Hgood := Lib.hid hgood
    clear hbad hgood
    generalize (Safe.prod s).toNat = n at *
    clear hp1 hp2 hr
    have hk2 := hk1.alloc (.cells #[.slice (some ⟨g, 0, none⟩) s.length s.length, .slice (some ⟨h, 0, none⟩) n n] 26)
    have hq2 := Blk.new w1 26 #[.slice (some ⟨g, 0, none⟩) s.length s.length, .slice (some ⟨h, 0, none⟩) n n]
    have hG2 := hG.alloc (.cells #[.slice (some ⟨g, 0, none⟩) s.length s.length, .slice (some ⟨h, 0, none⟩) n n] 26)
    have hH2 := hH.alloc (.cells #[.slice (some ⟨g, 0, none⟩) s.length s.length, .slice (some ⟨h, 0, none⟩) n n] 26)
    have hR2 := hR1.alloc (.cells #[.slice (some ⟨g, 0, none⟩) s.length s.length, .slice (some ⟨h, 0, none⟩) n n] 26)
    have hF2 := hF1.alloc (.cells #[.slice (some ⟨g, 0, none⟩) s.length s.length, .slice (some ⟨h, 0, none⟩) n n] 26)
    have hgl := hG.lt
    have hhl := hH.lt
    have hgh : g ≠ h := fun e => by subst e; unfold Blk at hG hH; rw [hG] at hH; injection hH with hH; injection hH with _ hH; cases hH
    have HE := Lib.hid (show splice ((List.replicate n (0 : Int)).map (Value.int .i64)) 0 ((Kr.nums 0 st).1.map (Value.int .i64)) = (List.replicate n (0 : Int)).map (Value.int .i64) from splice_zero _ _)
    have Hk2 := Lib.hid hk2
    have Hq2 := Lib.hid hq2
    have HG2 := Lib.hid hG2
    have HH2 := Lib.hid hH2
    have HR2 := Lib.hid hR2
    have HF2 := Lib.hid hF2
    clear hk2 hq2 hG2 hH2 hR2 hF2
    clear hk1 hF1 hR1 hG hH
    generalize hzz : ((List.replicate n (0 : Int)).map (Value.int .i64)) = zz at *
    have hzl : zz.length = n := by rw [← hzz]; simp
    have Hzl := Lib.hid hzl
    clear hzl
    clear hzz
    go_wp2_with fail
    generalize w1.alloc (.cells #[.slice (some ⟨g, 0, none⟩) s.length s.length, .slice (some ⟨h, 0, none⟩) n n] 26) = w2 at *
    generalize w1.heap.size = q at *
    go_loopw [8, 21] (fun _ i wr => ∃ k : Nat, k ≤ n ∧ i = .int .i64 k ∧ RdO r (Kr.nums k st).2 wr ∧ Blk wr h 37 (splice zz 0 ((Kr.nums k st).1.map (Value.int .i64))).toArray ∧ Blk wr q 26 #[.slice (some ⟨g, 0, none⟩) s.length s.length, .slice (some ⟨h, 0, none⟩) n n] ∧ Blk wr g 3 (s.map (Value.int .i64)).toArray ∧ Blk wr w.heap.size 26 #[.slice none 0 0, .slice none 0 0] ∧ Fr (fun b => b = r) w wr) (fun _ i _ => n - (intOf i).toNat)
    case atStart => exact ⟨0, Nat.zero_le _, rfl, HR2.out, by rw [HE.out]; exact HH2.out, Hq2.out, HG2.out, Hk2.out, HF2.out⟩
    case round =>
      clear HR2 HE HH2 Hq2 HG2 Hk2 HF2
      obtain ⟨k, hk, rfl, hR, hH, hq, hG, hk0, hF⟩ := hrel
      by_cases hlt : k < n
      · have d1 := hq.cell 1
        simp at d1
        have hql := hq.lt
        have hRa := hR.alloc (.cells #[.pointer (some ⟨h, k, none⟩)] 141)
        have hHa := hH.alloc (.cells #[.pointer (some ⟨h, k, none⟩)] 141)
        have hqa := hq.alloc (.cells #[.pointer (some ⟨h, k, none⟩)] 141)
        have hGa := hG.alloc (.cells #[.pointer (some ⟨h, k, none⟩)] 141)
        have hka := hk0.alloc (.cells #[.pointer (some ⟨h, k, none⟩)] 141)
        have hFa := hF.alloc (.cells #[.pointer (some ⟨h, k, none⟩)] 141)
        have hpa : Ptrs (wr.alloc (.cells #[.pointer (some ⟨h, k, none⟩)] 141)) (some ⟨wr.heap.size, 0, none⟩) h k 1 := fun i hi => ⟨_, _, rfl, by simp, by obtain rfl : i = 0 := (by omega); simp⟩
        have hhl2 := hH.lt
        have hnl := Kr.nums_len k st
        have hsl := length_splice zz 0 ((Kr.nums k st).1.map (Value.int .i64)) (by have := Hzl.out; simp; omega)
        have hrl2 := hR.lt
        have HRa := Lib.hid hRa
        have HHa := Lib.hid hHa
        have Hqa := Lib.hid hqa
        have HGa := Lib.hid hGa
        have Hka := Lib.hid hka
        have HFa := Lib.hid hFa
        have Hpa := Lib.hid hpa
        have Hnl := Lib.hid hnl
        have Hsl := Lib.hid hsl
        clear hRa hHa hqa hGa hka hFa hpa hnl hsl
        clear hR hH hq hG hk0 hF
        go_wp2_with fail
        refine (keep_get_fix r h k 1 37 _ (some ⟨wr.heap.size, 0, none⟩) 1 (Kr.nums k st).2 _ HRa.out HHa.out Hpa.out (by omega) (by have h1 := Hsl.out; have h2 := Hzl.out; omega) (by omega) (by intro a e; injection e with e; subst e; simp; omega)).mono ?_
        rintro e w3 ⟨rfl, hR3, hH3, hF3⟩
        have hq3 := hF3.blk Hqa.out (by simp; omega)
        have hG3 := hF3.blk HGa.out (by simp; omega)
        have hk3 := hF3.blk Hka.out (by simp; omega)
        have hF4 := HFa.out.trans' hF3 (fun b hb e => by rcases e with e | e; exact e; omega)
        have HH4 := Lib.hid (show Blk w3 h 37 (splice zz 0 ((Kr.nums (k + 1) st).1.map (Value.int .i64))).toArray by
          have e1 := splice_set zz 0 ((Kr.nums k st).1.map (Value.int .i64)) (.int .i64 (Kr.sx (Fp.get 8 (Kr.nums k st).2).1)) (by simp [Hnl.out, Hzl.out]; omega)
          rw [List.length_map, Hnl.out, Nat.zero_add] at e1
          rw [Kr.nums, List.map_append, List.map_cons, List.map_nil, ← e1]
          have e2 : splice (splice zz 0 ((Kr.nums k st).1.map (Value.int .i64))) k ((Kr.nums 1 (Kr.nums k st).2).1.map (Value.int .i64)) = (splice zz 0 ((Kr.nums k st).1.map (Value.int .i64))).set k (.int .i64 (Kr.sx (Fp.get 8 (Kr.nums k st).2).1)) := by
            have := splice_set (splice zz 0 ((Kr.nums k st).1.map (Value.int .i64))) k [] (.int .i64 (Kr.sx (Fp.get 8 (Kr.nums k st).2).1)) (by have h1 := Hsl.out; have h2 := Hzl.out; simp; omega)
            rw [splice_zero, List.length_nil, Nat.add_zero, List.nil_append] at this
            rw [this]; rfl
          rw [← e2]
          exact hH3)
        have HR4 := Lib.hid (show RdO r (Kr.nums (k + 1) st).2 w3 from hR3)
        clear hR3 hH3 hF3 HRa HHa Hqa HGa Hka HFa Hpa d1
        have Hq3 := Lib.hid hq3
        have HG3 := Lib.hid hG3
        have Hk3 := Lib.hid hk3
        have HF4 := Lib.hid hF4
        clear hq3 hG3 hk3 hF4
        go_wp2_with fail
        go_roundw
        case rel => exact ⟨k + 1, by omega, by go_num, HR4.out, HH4.out, Hq3.out, HG3.out, Hk3.out, HF4.out⟩
        case measure => simp [intOf]; omega
      · obtain rfl : k = n := by omega
        have c0 := hk0.cell 0
        have c1 := hk0.cell 1
        have f0 := hk0.frozen 0
        have f1 := hk0.frozen 1
        have d0 := hq.cell 0
        have d1 := hq.cell 1
        simp at c0 c1 d0 d1
        have hgl := hG.lt
        have hhl := hH.lt
        have hql := hq.lt
        have hnl := Kr.nums_len k st
        rw [splice_full _ _ (by rw [List.length_map, hnl, Hzl.out])] at hH
        have HR := Lib.hid hR
        have HH := Lib.hid hH
        have HG := Lib.hid hG
        have HF := Lib.hid hF
        have Hnl := Lib.hid hnl
        clear hR hH hG hF hnl
        clear hq hk0
        go_wp2_with fail
        refine (keep_short r (Kr.nums k st).2 _ HR.out).mono ?_
        rintro e w3 ⟨rfl, rfl⟩
        have hset : ∀ a b, RdO r (Kr.nums k st).2 ((wr.setCell ⟨w.heap.size, 0, none⟩ a).setCell ⟨w.heap.size, 1, none⟩ b) := fun a b => HR.out.fr (S := fun b => b = w.heap.size) (((Fr.refl (fun b => b = w.heap.size) _).setCell (p := ⟨w.heap.size, 0, none⟩) (fun _ => rfl) _).setCell (p := ⟨w.heap.size, 1, none⟩) (fun _ => rfl) _) (fun b e => by omega)
        have hsetF : ∀ a b, Fr (fun b => b = r) w ((wr.setCell ⟨w.heap.size, 0, none⟩ a).setCell ⟨w.heap.size, 1, none⟩ b) := fun a b => (HF.out.setCell (p := ⟨w.heap.size, 0, none⟩) (fun h => absurd h (Nat.lt_irrefl _)) _).setCell (p := ⟨w.heap.size, 1, none⟩) (fun h => absurd h (Nat.lt_irrefl _)) _
        have Hset := Lib.hid hset
        have HsetF := Lib.hid hsetF
        clear hset hsetF
        cases hs : (Kr.nums k st).2 with
        | none =>
          have HC := Lib.hid (Hbad.out hs)
          have h5 := Hset.out
          rw [hs] at h5
          have H5 := Lib.hid h5
          clear h5
          clear hs Hset
          go_wp2_with fail
          refine bodyPost_ret (v := .tuple #[.agg #[.slice none 0 0, .slice none 0 0], .int .i64 16]) (by simp [results, Tryz.results65, go_sem, c0, c1]) rfl ?_
          exact ⟨.inl ⟨by rw [HC.out]; simp, by rw [HC.out]⟩, by rw [HC.out]; exact H5.out _ _, HsetF.out _ _⟩
        | some bs =>
          have HC := Lib.hid (Hgood.out bs hs)
          have h5 := Hset.out
          rw [hs] at h5
          have H5 := Lib.hid h5
          clear h5
          clear hs Hset
          go_wp2_with fail
          refine bodyPost_ret (v := .tuple #[.agg #[.slice (some ⟨g, 0, none⟩) s.length s.length, .slice (some ⟨h, 0, none⟩) k k], .int .i64 0]) (by simp [results, Tryz.results65, go_sem, c0, c1]) rfl ?_
          refine ⟨.inr ⟨by rw [HC.out], _, rfl, g, h, ?_, by omega, by omega, ?_, ?_⟩, by rw [HC.out]; exact H5.out _ _, HsetF.out _ _⟩
          · rw [HC.out]; simp only [Hnl.out]
          · exact (HG.out.far (p := ⟨w.heap.size, 0, none⟩) (by simp; omega) _).far (p := ⟨w.heap.size, 1, none⟩) (by simp; omega) _
          · rw [HC.out]; exact (HH.out.far (p := ⟨w.heap.size, 0, none⟩) (by simp; omega) _).far (p := ⟨w.heap.size, 1, none⟩) (by simp; omega) _
end Go.Proofs.YtkmhagjdafeebaaGreat
/- Rows of the call's own whose elements have memory of their own. No program is named here. -/
namespace Go.Proofs.YtkmhagjdafeebaaGreat
open Go.RowKit

/-- Φ holds at every world that agrees with w on the blocks of F. -/
def On (F : Nat → Prop) (w : World) (Φ : World → Prop) : Prop := ∀ w', (∀ b, F b → w'.heap[b]? = w.heap[b]?) → Φ w'
section
variable {F : Nat → Prop} {S : Nat → Prop} {w w' : World} {Φ Ψ : World → Prop}
theorem On.now (h : On F w Φ) : Φ w := h w fun _ _ => rfl
theorem On.agree (h : On F w Φ) (ha : ∀ b, F b → w'.heap[b]? = w.heap[b]?) : On F w' Φ := fun w2 h2 => h w2 fun b hb => (h2 b hb).trans (ha b hb)
theorem On.fr (h : On F w Φ) (hf : Fr S w w') (hF : ∀ b, F b → b < w.heap.size ∧ ¬ S b) : On F w' Φ := h.agree fun b hb => hf.2 b (hF b hb).1 (hF b hb).2
theorem On.imp_ (h : On F w Φ) (hi : ∀ w, Φ w → Ψ w) : On F w Ψ := fun w2 h2 => hi _ (h w2 h2)
theorem On.mono {G : Nat → Prop} (h : On F w Φ) (hG : ∀ b, F b → G b) : On G w Φ := fun w2 h2 => h w2 fun b hb => h2 b (hG b hb)
theorem On.and {G : Nat → Prop} (h : On F w Φ) (k : On G w Ψ) : On (fun b => F b ∨ G b) w (fun w => Φ w ∧ Ψ w) := fun w2 h2 => ⟨h w2 fun b hb => h2 b (.inl hb), k w2 fun b hb => h2 b (.inr hb)⟩
theorem Blk.on {g : Nat} {t : TypeId} {cs : Array Value} (h : Blk w g t cs) : On (fun b => b = g) w (fun w => Blk w g t cs) := fun w2 h2 => (h2 g rfl).trans h
end

/-- The row v holds the elements L; what is said of an element stands in blocks from B on, below C, other than the row's. -/
def OwnRow {α : Type} (B C : Nat) (w : World) (e : TypeId) (size : Nat) (v : Value) (cells : α → List Value) (Φ : α → World → Prop) (L : List α) : Prop :=
  w.ownsRow B e size v L.length (L.flatMap cells) ∧ (∀ b, v.ownBlock = some b → b < C) ∧ C ≤ w.heap.size ∧ ∀ x ∈ L, ∃ F : Nat → Prop, On F w (Φ x) ∧ ∀ b, F b → B ≤ b ∧ b < C ∧ some b ≠ v.ownBlock
section
variable {α : Type} {B C : Nat} {w w' : World} {e : TypeId} {size : Nat} {v : Value} {cells : α → List Value} {Φ : α → World → Prop} {L : List α} {S : Nat → Prop}
theorem ownsRow_heap {n : Nat} {xs : List Value} (h : w.ownsRow B e size v n xs) (hk : ∀ g, v.ownBlock = some g → w'.heap[g]? = w.heap[g]?) : w'.ownsRow B e size v n xs := by
  refine ⟨h.1, ?_⟩
  rcases h.2 with h | ⟨g, cap, cur, rfl, h1, h2, h3⟩
  · exact .inl h
  · exact .inr ⟨g, cap, cur, rfl, h1, (hk g rfl).trans h2, h3⟩
theorem OwnRow.nil (B : Nat) (w : World) (e : TypeId) (size : Nat) (cells : α → List Value) (Φ : α → World → Prop) : OwnRow B w.heap.size w e size (.slice none 0 0) cells Φ [] :=
  ⟨World.ownsRow_nil _ _ _ _, by simp [Value.ownBlock], Nat.le_refl _, by simp⟩
theorem OwnRow.fr (h : OwnRow B C w e size v cells Φ L) (hf : Fr S w w') (hS : ∀ b, B ≤ b → b < C → ¬ S b) : OwnRow B C w' e size v cells Φ L :=
  ⟨ownsRow_heap h.1 fun g hg => hf.2 g (h.1.lt g hg).2 (hS g (h.1.lt g hg).1 (h.2.1 g hg)), h.2.1, Nat.le_trans h.2.2.1 hf.size, fun x hx => by
    obtain ⟨F, hF, hb⟩ := h.2.2.2 x hx
    exact ⟨F, hF.fr hf fun b k => ⟨Nat.lt_of_lt_of_le (hb b k).2.1 h.2.2.1, hS b (hb b k).1 (hb b k).2.1⟩, hb⟩⟩
theorem OwnRow.widen {C' : Nat} (h : OwnRow B C w e size v cells Φ L) (hC : C ≤ C') (hw : C' ≤ w.heap.size) : OwnRow B C' w e size v cells Φ L :=
  ⟨h.1, fun b hb => Nat.lt_of_lt_of_le (h.2.1 b hb) hC, hw, fun x hx => by
    obtain ⟨F, hF, hb⟩ := h.2.2.2 x hx
    exact ⟨F, hF, fun b k => ⟨(hb b k).1, Nat.lt_of_lt_of_le (hb b k).2.1 hC, (hb b k).2.2⟩⟩⟩
theorem OwnRow.base {B' : Nat} (h : OwnRow B C w e size v cells Φ L) (hB : B' ≤ B) : OwnRow B' C w e size v cells Φ L := by
  refine ⟨⟨h.1.1, ?_⟩, h.2.1, h.2.2.1, fun x hx => ?_⟩
  · rcases h.1.2 with h1 | ⟨g, cap, cur, h1, h2, h3⟩
    · exact .inl h1
    · exact .inr ⟨g, cap, cur, h1, Nat.le_trans hB h2, h3⟩
  · obtain ⟨F, hF, hb⟩ := h.2.2.2 x hx
    exact ⟨F, hF, fun b k => ⟨Nat.le_trans hB (hb b k).1, (hb b k).2⟩⟩
theorem OwnRow.now (h : OwnRow B C w e size v cells Φ L) : ∀ x ∈ L, Φ x w := fun x hx => by obtain ⟨F, hF, _⟩ := h.2.2.2 x hx; exact hF.now
/-- Behind an append. -/
theorem OwnRow.push {x : α} {v' : Value} (h : OwnRow B C w e size v cells Φ L) (hown : w'.ownsRow B e size v' (L.length + 1) (L.flatMap cells ++ cells x)) (hg : w.grownBy w' v.ownBlock) (hat : v'.ownBlock = v.ownBlock ∨ v'.ownBlock = some w.heap.size)
    {F : Nat → Prop} (hx : On F w (Φ x)) (hF : ∀ b, F b → B ≤ b ∧ b < w.heap.size ∧ some b ≠ v.ownBlock) : OwnRow B w'.heap.size w' e size v' cells Φ (L ++ [x]) := by
  have hne : ∀ b, b < w.heap.size → some b ≠ v.ownBlock → some b ≠ v'.ownBlock := fun b hb hb' => by
    rcases hat with e | e
    · rw [e]; exact hb'
    · rw [e]; intro h; injection h with h; omega
  refine ⟨by simpa using hown, fun b hb => (hown.lt b hb).2, Nat.le_refl _, fun y hy => ?_⟩
  rcases List.mem_append.1 hy with hy | hy
  · obtain ⟨G, hG, hb⟩ := h.2.2.2 y hy
    have hlt : ∀ b, G b → b < w.heap.size := fun b k => Nat.lt_of_lt_of_le (hb b k).2.1 h.2.2.1
    exact ⟨G, hG.agree fun b k => hg.block b (hlt b k) (hb b k).2.2, fun b k => ⟨(hb b k).1, Nat.lt_of_lt_of_le (hlt b k) hg.size, hne b (hlt b k) (hb b k).2.2⟩⟩
  · rw [List.mem_singleton] at hy
    subst hy
    exact ⟨F, hx.agree fun b k => hg.block b (hF b k).2.1 (hF b k).2.2, fun b k => ⟨(hF b k).1, Nat.lt_of_lt_of_le (hF b k).2.1 hg.size, hne b (hF b k).2.1 (hF b k).2.2⟩⟩
/-- A place of the row. -/
theorem OwnRow.at_ (h : OwnRow B C w e size v cells Φ L) (hc : ∀ x, (cells x).length = size) {i : Nat} (hi : i < L.length) :
    ∃ b cap, v = .slice (some ⟨b, 0, none⟩) L.length cap ∧ B ≤ b ∧ b < C ∧ L.length ≤ cap ∧ ∀ j, j < size → w.cell? ⟨b, i * size + j, none⟩ = (cells L[i])[j]? := by
  rcases h.1.2 with ⟨_, h0⟩ | ⟨g, cap, cur, rfl, hb, hg, hcap, _⟩
  · omega
  · refine ⟨g, cap, rfl, hb, h.2.1 g rfl, hcap, fun j hj => ?_⟩
    have hlen : ∀ l : List α, (l.flatMap cells).length = l.length * size := by
      intro l
      induction l with
      | nil => simp
      | cons x r ih => simp [ih, hc, Nat.succ_mul]; omega
    have hij : i * size + j < L.length * size := by
      have : (i + 1) * size ≤ L.length * size := Nat.mul_le_mul_right _ hi
      rw [Nat.succ_mul] at this; omega
    rw [h.1.cellAt _ hij]
    have e : L = L.take i ++ (L[i] :: L.drop (i + 1)) := by rw [← List.drop_eq_getElem_cons hi, List.take_append_drop]
    have e2 : (L.flatMap cells)[i * size + j]? = ((L.take i ++ (L[i] :: L.drop (i + 1))).flatMap cells)[i * size + j]? := congrArg (fun l => (l.flatMap cells)[i * size + j]?) e
    rw [e2, List.flatMap_append, List.flatMap_cons, List.getElem?_append_right (by rw [hlen, List.length_take]; rw [Nat.min_eq_left (by omega)]; omega)]
    rw [hlen, List.length_take, Nat.min_eq_left (by omega), Nat.add_sub_cancel_left, List.getElem?_append_left (by rw [hc]; exact hj)]
theorem OwnRow.form (h : OwnRow B C w e size v cells Φ L) : ∃ A cap, v = .slice A L.length cap ∧ L.length ≤ cap := by
  rcases h.1.2 with ⟨rfl, h0⟩ | ⟨g, cap, cur, rfl, hb, hg, hcap, _⟩
  · exact ⟨none, 0, by rw [h0], by omega⟩
  · exact ⟨_, cap, rfl, hcap⟩
end
end Go.Proofs.YtkmhagjdafeebaaGreat
/- Layer 27 (keep): state: contract. -/
namespace Go.Proofs.YtkmhagjdafeebaaGreat
open Go.RowKit

/-- A tensor and the blocks of its shape and its cells. -/
abbrev TenA := Ten × Nat × Nat
def TenA.cells (x : TenA) : List Value := [.slice (some ⟨x.2.1, 0, none⟩) x.1.s.length x.1.s.length, .slice (some ⟨x.2.2, 0, none⟩) x.1.c.length x.1.c.length]
def TenA.ok (x : TenA) (w : World) : Prop := Blk w x.2.1 3 (x.1.s.map (Value.int .i64)).toArray ∧ Blk w x.2.2 37 (x.1.c.map (Value.int .i64)).toArray
abbrev TensN (B C : Nat) (w : World) (v : Value) (L : List TenA) : Prop := OwnRow B C w 26 2 v TenA.cells TenA.ok L
theorem TenA.len (x : TenA) : x.cells.length = 2 := rfl
theorem TensN.tens {B C : Nat} {w : World} {v : Value} {L : List TenA} (h : TensN B C w v L) (hs : ∀ x ∈ L, x.1.s.length ≤ 1000000 ∧ x.1.c.length ≤ 1000000) : ∃ A c, v = .slice A (L.map (·.1)).length c ∧ Tens w A (L.map (·.1)) := by
  obtain ⟨A, c, hv, _⟩ := h.form
  refine ⟨A, c, by rw [List.length_map]; exact hv, fun j hj => ?_⟩
  rw [List.length_map] at hj
  obtain ⟨b, cap, hv', _, _, _, hc⟩ := OwnRow.at_ h TenA.len hj
  rw [hv] at hv'
  injection hv' with hA
  have h0 := hc 0 (by omega)
  have h1 := hc 1 (by omega)
  have hk := h.now L[j] (List.getElem_mem hj)
  have hl := hs L[j] (List.getElem_mem hj)
  rw [List.getElem_map]
  refine ⟨b, 0, _, _, _, _, hA, World.block_lt_of_cell? _ _ h0, by rw [Nat.zero_add]; exact h0, by rw [Nat.zero_add]; exact h1, ⟨hk.1.ints, hk.2.ints⟩, by omega, by omega⟩

namespace Kr
def readP : Nat → List Ten → Option (List Int) → Int × List Ten × Option (List Int)
  | 0, acc, st => (0, acc, st)
  | k + 1, acc, st =>
    if (Fp.shapeR st).2.isNone then (16, [], none)
    else if (cells (Fp.shapeR st).1 (Fp.shapeR st).2).1 ≠ 0 then ((cells (Fp.shapeR st).1 (Fp.shapeR st).2).1, [], (cells (Fp.shapeR st).1 (Fp.shapeR st).2).2.2)
    else readP k (acc ++ [⟨(Fp.shapeR st).1, (cells (Fp.shapeR st).1 (Fp.shapeR st).2).2.1⟩]) (cells (Fp.shapeR st).1 (Fp.shapeR st).2).2.2
def readV : List (List Int) → List Ten → Option (List Int) → Int × List Ten × Option (List Int)
  | [], acc, st => (0, acc, st)
  | f :: r, acc, st =>
    if (cells f st).1 ≠ 0 then ((cells f st).1, [], (cells f st).2.2)
    else readV r (acc ++ [⟨f, (cells f st).2.1⟩]) (cells f st).2.2
def state3 (p : Int × List Ten × Option (List Int)) (v : Int × List Ten × Option (List Int)) : Int × List Ten × List Ten × Option (List Int) :=
  if v.1 ≠ 0 then (v.1, [], [], v.2.2) else (0, p.2.1, v.2.1, v.2.2)
def state2 (p : Int × List Ten × Option (List Int)) : Int × List Ten × List Ten × Option (List Int) :=
  if p.1 ≠ 0 then (p.1, [], [], p.2.2) else state3 p (readV (p.2.1.map (·.s)) [] p.2.2)
def state1 (c : Int × Int × Option (List Int)) : Int × List Ten × List Ten × Option (List Int) :=
  if c.2.1 ≠ 0 then (c.2.1, [], [], c.2.2) else state2 (readP c.1.toNat [] c.2.2)
def state (st : Option (List Int)) : Int × List Ten × List Ten × Option (List Int) := state1 (count 512 st)
theorem readP_short {k : Nat} {acc : List Ten} {st : Option (List Int)} (h : (Fp.shapeR st).2 = none) : readP (k + 1) acc st = (16, [], none) := by simp [readP, h]
theorem readP_bad {k : Nat} {acc : List Ten} {st s2 : Option (List Int)} {f : List Int} (hs : Fp.shapeR st = (f, s2)) (h : s2 ≠ none) (hc : (cells f s2).1 ≠ 0) : readP (k + 1) acc st = ((cells f s2).1, [], (cells f s2).2.2) := by
  cases s2 with
  | none => exact absurd rfl h
  | some bs => simp [readP, hs, hc]
theorem readP_ok {k : Nat} {acc : List Ten} {st s2 : Option (List Int)} {f : List Int} (hs : Fp.shapeR st = (f, s2)) (h : s2 ≠ none) (hc : (cells f s2).1 = 0) : readP (k + 1) acc st = readP k (acc ++ [⟨f, (cells f s2).2.1⟩]) (cells f s2).2.2 := by
  cases s2 with
  | none => exact absurd rfl h
  | some bs => simp [readP, hs, hc]
theorem readV_bad {f : List Int} {r : List (List Int)} {acc : List Ten} {st : Option (List Int)} (hc : (cells f st).1 ≠ 0) : readV (f :: r) acc st = ((cells f st).1, [], (cells f st).2.2) := by simp [readV, hc]
theorem readV_ok {f : List Int} {r : List (List Int)} {acc : List Ten} {st : Option (List Int)} (hc : (cells f st).1 = 0) : readV (f :: r) acc st = readV r (acc ++ [⟨f, (cells f st).2.1⟩]) (cells f st).2.2 := by simp [readV, hc]
theorem cells_right {s : List Int} {st : Option (List Int)} (h : (cells s st).1 = 0) : Sh.right s = true ∧ (cells s st).2.1.length = (Safe.prod s).toNat := by
  unfold cells at h ⊢
  cases hr : Sh.right s
  · rw [hr] at h; simp at h
  · rw [hr] at h
    simp only [Bool.true_eq_false, if_false] at h ⊢
    cases hn : (nums (Safe.prod s).toNat st).2
    · rw [hn] at h; simp at h
    · simp [nums_len]
theorem cells_small {s : List Int} {st : Option (List Int)} (h : (cells s st).1 = 0) : s.length ≤ 4 ∧ (cells s st).2.1.length ≤ 65536 := by
  obtain ⟨hr, hl⟩ := cells_right h
  obtain ⟨_, h1, _, _, _, h2⟩ := Sh.right_mul hr
  omega
end Kr

namespace Fp
theorem sides_len {c : Nat} {bs : List Int} {p : List Int × List Int} (h : sides c bs = some p) : p.1.length = c := by
  induction c generalizing bs p with
  | zero => simp [sides] at h; subst h; rfl
  | succ c ih =>
    by_cases hl : bs.length < 2
    · rw [sides_short hl] at h; cases h
    · rw [sides_ok hl] at h
      obtain ⟨q, hq, rfl⟩ := Option.map_eq_some_iff.1 h
      simp [ih hq]
theorem shapeR_len {st : Option (List Int)} (h : okB st) : (shapeR st).1.length ≤ 255 := by
  cases st with
  | none => simp [shapeR]
  | some bs =>
    by_cases hl : bs.length < 1
    · simp [shapeR, hl]
    · simp only [shapeR, hl, if_false]
      cases hs : sides (num (bs.take 1)).toNat (bs.drop 1) with
      | none => simp
      | some p =>
        have := num_byte (bs.take 1) (fun x hx => h x (List.mem_of_mem_take hx))
        rw [List.length_take, Nat.min_eq_left (by omega)] at this
        have h2 := sides_len hs
        simp; omega
end Fp

def StateP (r : Nat) (st : Option (List Int)) (w : World) (e : Ending) (w' : World) : Prop :=
  ((Kr.state st).1 ≠ 0 ∧ e = .returned (.tuple #[.agg #[.slice none 0 0, .slice none 0 0], .int .i64 (Kr.state st).1]) ∨ (Kr.state st).1 = 0 ∧ ∃ A c A' c' LP LV, e = .returned (.tuple #[.agg #[.slice A (Kr.state st).2.1.length c, .slice A' (Kr.state st).2.2.1.length c'], .int .i64 0]) ∧ LP.map (·.1) = (Kr.state st).2.1 ∧ LV.map (·.1) = (Kr.state st).2.2.1 ∧ TensN w.heap.size w'.heap.size w' (.slice A (Kr.state st).2.1.length c) LP ∧ TensN w.heap.size w'.heap.size w' (.slice A' (Kr.state st).2.2.1.length c') LV) ∧ RdO r (Kr.state st).2.2.2 w' ∧ Fr (fun b => b = r) w w'
theorem zero_box {S : Nat → Prop} {r B : Nat} {st : Option (List Int)} {w w' : World} (hR : RdO r st w') (hF : Fr S w w') (hr : r < B) (hB : w.heap.size ≤ B) (a b : Value) : RdO r st ((w'.setCell ⟨B, 0, none⟩ a).setCell ⟨B, 1, none⟩ b) ∧ Fr S w ((w'.setCell ⟨B, 0, none⟩ a).setCell ⟨B, 1, none⟩ b) :=
  ⟨hR.fr (S := fun b => b = B) (((Fr.refl (fun b => b = B) _).setCell (p := ⟨B, 0, none⟩) (fun _ => rfl) _).setCell (p := ⟨B, 1, none⟩) (fun _ => rfl) _) (fun b e => by omega),
   (hF.setCell (p := ⟨B, 0, none⟩) (fun h => absurd h (by simp; omega)) _).setCell (p := ⟨B, 1, none⟩) (fun h => absurd h (by simp; omega)) _⟩
set_option maxHeartbeats 4000000 in
set_option maxRecDepth 100000 in
theorem keep_state (r : Nat) (st : Option (List Int)) (w : World) (hR : RdO r st w) :
    Calls Tryz.prog 32 #[.pointer (some ⟨r, 0, none⟩)] w (StateP r st w) := by
  obtain ⟨i0, hi, hz0, hz1, hz2⟩ := info_parts ten_info
  have hrl := hR.lt
  have hk0 := (Blk.new w 29 #[.slice none 0 0, .slice none 0 0]).alloc (.cells #[.slice none 0 0, .slice none 0 0] 29)
  have hq0 := Blk.new (w.alloc (.cells #[.slice none 0 0, .slice none 0 0] 29)) 29 #[.slice none 0 0, .slice none 0 0]
  rw [World.size_alloc] at hq0
  have hR0 := (hR.alloc (.cells #[.slice none 0 0, .slice none 0 0] 29)).alloc (.cells #[.slice none 0 0, .slice none 0 0] 29)
  have hF0 := ((Fr.refl (fun b => b = r) w).alloc (.cells #[.slice none 0 0, .slice none 0 0] 29)).alloc (.cells #[.slice none 0 0, .slice none 0 0] 29)
  have hsz0 : w.heap.size + 2 ≤ ((w.alloc (.cells #[.slice none 0 0, .slice none 0 0] 29)).alloc (.cells #[.slice none 0 0, .slice none 0 0] 29)).heap.size := by simp
  have Hk0 := Lib.hid hk0
  have Hq0 := Lib.hid hq0
  have HR0 := Lib.hid hR0
  have HF0 := Lib.hid hF0
  clear hk0 hq0 hR0 hF0
  clear hR
  go_enter Tryz.func32, Tryz.ntmps32
  go_wp2_with fail
  generalize (w.alloc (.cells #[.slice none 0 0, .slice none 0 0] 29)).alloc (.cells #[.slice none 0 0, .slice none 0 0] 29) = w0 at *
  refine (keep_count r 512 st _ HR0.out).mono ?_
  rintro e w1 ⟨rfl, hR1, hF1⟩
  have hk1 := hF1.blk Hk0.out (by omega)
  have hq1 := hF1.blk Hq0.out (by omega)
  have hF1 := HF0.out.trans hF1
  have HST := Lib.hid (show Kr.state st = Kr.state1 ((Kr.count 512 st).1, (Kr.count 512 st).2.1, (Kr.count 512 st).2.2) from rfl)
  have hsz1 := hF1.size
  have hc0 : 0 ≤ (Kr.count 512 st).1 ∧ (Kr.count 512 st).1 ≤ 512 := by
    unfold Kr.count
    have h2 := Kr.get_two HR0.out.ok
    split
    · simp
    · split <;> simp <;> omega
  generalize (Kr.count 512 st).1 = n at *
  generalize (Kr.count 512 st).2.1 = er at *
  generalize (Kr.count 512 st).2.2 = st1 at *
  clear Hk0 Hq0 HR0 HF0
  have c0 := hk1.cell 0
  have c1 := hk1.cell 1
  have f0 := hk1.frozen 0
  have f1 := hk1.frozen 1
  simp at c0 c1
  by_cases he : er = 0
  · subst he
    obtain ⟨m, rfl⟩ := Int.eq_ofNat_of_zero_le hc0.1
    obtain ⟨_, hm⟩ := hc0
    have HS2 := Lib.hid (show Kr.state st = Kr.state2 (Kr.readP m [] st1) by rw [HST.out]; simp [Kr.state1])
    clear HST
    have Hk1 := Lib.hid hk1
    have Hq1 := Lib.hid hq1
    have HR1 := Lib.hid hR1
    have HF1 := Lib.hid hF1
    clear hk1 hq1 hR1 hF1
    clear c0 c1 f0 f1
    go_wp2_with fail
    go_loopw [7, 8, 9, 23] (fun _ _ _ i wr => ∃ (k : Nat) (L : List TenA) (st' : Option (List Int)) (A : Option Addr) (cap : Nat), k ≤ m ∧ i = .int .i64 k ∧ L.length = k ∧ Kr.readP m [] st1 = Kr.readP (m - k) (L.map (·.1)) st' ∧ RdO r st' wr ∧ TensN (w.heap.size + 2) wr.heap.size wr (.slice A L.length cap) L ∧ Blk wr (w.heap.size + 1) 29 #[.slice A L.length cap, .slice none 0 0] ∧ Blk wr w.heap.size 29 #[.slice none 0 0, .slice none 0 0] ∧ Fr (fun b => b = r) w wr ∧ (∀ x ∈ L, x.1.s.length ≤ 4 ∧ x.1.c.length ≤ 65536)) (fun _ _ _ i _ => m - (intOf i).toNat)
    case atStart => exact ⟨0, [], st1, none, 0, Nat.zero_le _, rfl, rfl, rfl, HR1.out, OwnRow.nil _ _ _ _ _ _, Hq1.out, Hk1.out, HF1.out, by simp⟩
    case round =>
      clear HR1 HF1 Hk1 Hq1
      obtain ⟨k, L, st', A, cap, hk, rfl, hL, hP, hR, hN, hq, hk0, hF, hsm⟩ := hrel
      have hsz := hF.size
      have hql := hq.lt
      by_cases hlt : k < m
      · have hok := hR.ok
        have hfl := Fp.shapeR_len hok
        obtain ⟨mk, hmk⟩ : ∃ j, m - k = j + 1 := ⟨m - k - 1, by omega⟩
        rw [hmk] at hP
        have hmk2 : mk = m - (k + 1) := by omega
        have HL := Lib.hid hL
        have HP := Lib.hid hP
        have HR := Lib.hid hR
        have HN := Lib.hid hN
        have Hq := Lib.hid hq
        have Hk0 := Lib.hid hk0
        have HF := Lib.hid hF
        have Hsm := Lib.hid hsm
        have Hmk := Lib.hid hmk
        have Hmk2 := Lib.hid hmk2
        clear hL hP hR hN hq hk0 hF hsm hmk hmk2
        clear hok
        go_wp2_with fail
        refine (reader_shape r st' _ HR.out).mono ?_
        rintro e w2 ⟨v2, rfl, hown2, hR2, hg2⟩
        obtain ⟨A2, c2, hv2, _, hI2⟩ := Ints.of_own hown2
        subst hv2
        have hF2 := Fr.of_grown (S := fun b => b = r) hg2 (fun k e _ => by injection e with e; exact e.symm)
        have hN2 := OwnRow.fr HN.out hF2 (fun b hb _ e => by omega)
        have hq2 := hF2.blk Hq.out (by omega)
        have hk2 := hF2.blk Hk0.out (by omega)
        have hF2 := HF.out.trans hF2
        have hsz2 := hg2.size
        have HSR := Lib.hid (show Fp.shapeR st' = ((Fp.shapeR st').1, (Fp.shapeR st').2) from rfl)
        clear HR HN Hq Hk0 HF hown2 hg2
        generalize (Fp.shapeR st').1 = f at *
        generalize (Fp.shapeR st').2 = s2 at *
        have HR2 := Lib.hid hR2
        have HN2 := Lib.hid hN2
        have Hq2 := Lib.hid hq2
        have Hk2 := Lib.hid hk2
        have HF2 := Lib.hid hF2
        have HI2 := Lib.hid hI2
        clear hR2 hN2 hq2 hk2 hF2 hI2
        go_wp2_with fail
        refine (keep_short r s2 _ HR2.out).mono ?_
        rintro e w3 ⟨rfl, rfl⟩
        cases s2 with
        | none =>
          have HE := Lib.hid (show Kr.state st = (16, [], [], none) by rw [HS2.out, HP.out, Kr.readP_short (by rw [HSR.out])]; rfl)
          obtain ⟨hR4, hF4⟩ := zero_box HR2.out HF2.out hrl (Nat.le_refl _) (.slice none 0 0) (.slice none 0 0)
          have c0 := Hk2.out.cell 0
          have c1 := Hk2.out.cell 1
          have f0 := Hk2.out.frozen 0
          have f1 := Hk2.out.frozen 1
          simp at c0 c1
          have HR4 := Lib.hid hR4
          have HF4 := Lib.hid hF4
          clear hR4 hF4
          go_wp2_with fail
          refine bodyPost_ret (v := .tuple #[.agg #[.slice none 0 0, .slice none 0 0], .int .i64 16]) (by simp [results, Tryz.results32, go_sem, c0, c1]) rfl ?_
          exact ⟨.inl ⟨by rw [HE.out]; simp, by rw [HE.out]⟩, by rw [HE.out]; exact HR4.out, HF4.out⟩
        | some bs =>
          go_wp2_with fail
          refine (keep_cells r A2 c2 f (some bs) _ HR2.out (by omega) HI2.out).mono ?_
          rintro e w4 ⟨hcase, hR4, hF4⟩
          have hN4 := OwnRow.fr HN2.out hF4 (fun b hb _ e => by omega)
          have hq4 := hF4.blk Hq2.out (by omega)
          have hk4 := hF4.blk Hk2.out (by omega)
          have hsz4 := hF4.size
          have hF4 := HF2.out.trans hF4
          clear HR2 HN2 Hq2 Hk2 HF2 HI2
          rcases hcase with ⟨he, rfl⟩ | ⟨he, v, rfl, g, h, rfl, hgb, hhb, hG, hH⟩
          · have HE := Lib.hid (show Kr.state st = ((Kr.cells f (some bs)).1, [], [], (Kr.cells f (some bs)).2.2) by rw [HS2.out, HP.out, Kr.readP_bad HSR.out (by simp) he]; simp [Kr.state2, he])
            have hne : ((Kr.cells f (some bs)).1 != 0) = true := by simp [he]
            obtain ⟨hR5, hF5⟩ := zero_box (hR4.alloc (.cells #[.slice none 0 0, .slice none 0 0] 26)) (hF4.alloc (.cells #[.slice none 0 0, .slice none 0 0] 26)) hrl (Nat.le_refl _) (.slice none 0 0) (.slice none 0 0)
            have hk5 := hk4.alloc (.cells #[.slice none 0 0, .slice none 0 0] 26)
            have c0 := hk5.cell 0
            have c1 := hk5.cell 1
            have f0 := hk5.frozen 0
            have f1 := hk5.frozen 1
            simp at c0 c1
            have HR5 := Lib.hid hR5
            have HF5 := Lib.hid hF5
            have He := Lib.hid he
            clear hR5 hF5 he
            clear hR4 hF4 hN4 hq4 hk4 hk5
            generalize (Kr.cells f (some bs)).1 = er at *
            go_wp2_with fail
            refine bodyPost_ret (v := .tuple #[.agg #[.slice none 0 0, .slice none 0 0], .int .i64 er]) (by simp [results, Tryz.results32, go_sem, c0, c1]) rfl ?_
            exact ⟨.inl ⟨by rw [HE.out]; exact He.out, by rw [HE.out]⟩, by rw [HE.out]; exact HR5.out, HF5.out⟩
          · have HP5 := Lib.hid (show Kr.readP m [] st1 = Kr.readP mk (L.map (·.1) ++ [⟨f, (Kr.cells f (some bs)).2.1⟩]) (Kr.cells f (some bs)).2.2 by rw [HP.out, Kr.readP_ok HSR.out (by simp) he])
            have hcs := Kr.cells_small he
            generalize (Kr.cells f (some bs)).2.2 = st5 at *
            generalize (Kr.cells f (some bs)).2.1 = cl at *
            clear he HP HSR
            simp only at hG hH
            have hR6 := (hR4.alloc (.cells #[.slice (some ⟨g, 0, none⟩) f.length f.length, .slice (some ⟨h, 0, none⟩) cl.length cl.length] 26)).alloc (.cells #[.slice (some ⟨g, 0, none⟩) f.length f.length, .slice (some ⟨h, 0, none⟩) cl.length cl.length] 26)
            have hF6 := (hF4.alloc (.cells #[.slice (some ⟨g, 0, none⟩) f.length f.length, .slice (some ⟨h, 0, none⟩) cl.length cl.length] 26)).alloc (.cells #[.slice (some ⟨g, 0, none⟩) f.length f.length, .slice (some ⟨h, 0, none⟩) cl.length cl.length] 26)
            have hq6 := (hq4.alloc (.cells #[.slice (some ⟨g, 0, none⟩) f.length f.length, .slice (some ⟨h, 0, none⟩) cl.length cl.length] 26)).alloc (.cells #[.slice (some ⟨g, 0, none⟩) f.length f.length, .slice (some ⟨h, 0, none⟩) cl.length cl.length] 26)
            have hk6 := (hk4.alloc (.cells #[.slice (some ⟨g, 0, none⟩) f.length f.length, .slice (some ⟨h, 0, none⟩) cl.length cl.length] 26)).alloc (.cells #[.slice (some ⟨g, 0, none⟩) f.length f.length, .slice (some ⟨h, 0, none⟩) cl.length cl.length] 26)
            have hN6 := OwnRow.fr (S := fun _ => False) hN4 (((Fr.refl (fun _ => False) w4).alloc (.cells #[.slice (some ⟨g, 0, none⟩) f.length f.length, .slice (some ⟨h, 0, none⟩) cl.length cl.length] 26)).alloc (.cells #[.slice (some ⟨g, 0, none⟩) f.length f.length, .slice (some ⟨h, 0, none⟩) cl.length cl.length] 26)) (fun _ _ _ h => h)
            have hG6 := (hG.alloc (.cells #[.slice (some ⟨g, 0, none⟩) f.length f.length, .slice (some ⟨h, 0, none⟩) cl.length cl.length] 26)).alloc (.cells #[.slice (some ⟨g, 0, none⟩) f.length f.length, .slice (some ⟨h, 0, none⟩) cl.length cl.length] 26)
            have hH6 := (hH.alloc (.cells #[.slice (some ⟨g, 0, none⟩) f.length f.length, .slice (some ⟨h, 0, none⟩) cl.length cl.length] 26)).alloc (.cells #[.slice (some ⟨g, 0, none⟩) f.length f.length, .slice (some ⟨h, 0, none⟩) cl.length cl.length] 26)
            have hd6 := Blk.new (w4.alloc (.cells #[.slice (some ⟨g, 0, none⟩) f.length f.length, .slice (some ⟨h, 0, none⟩) cl.length cl.length] 26)) 26 #[.slice (some ⟨g, 0, none⟩) f.length f.length, .slice (some ⟨h, 0, none⟩) cl.length cl.length]
            rw [World.size_alloc] at hd6
            have hgl := hG.lt
            have hhl := hH.lt
            have d0 := (hq4.alloc (.cells #[.slice (some ⟨g, 0, none⟩) f.length f.length, .slice (some ⟨h, 0, none⟩) cl.length cl.length] 26)).cell 0
            simp at d0
            have HR6 := Lib.hid hR6
            have HF6 := Lib.hid hF6
            have Hq6 := Lib.hid hq6
            have Hk6 := Lib.hid hk6
            have HN6 := Lib.hid hN6
            have HG6 := Lib.hid hG6
            have HH6 := Lib.hid hH6
            have Hd6 := Lib.hid hd6
            have Hcs := Lib.hid hcs
            clear hR6 hF6 hq6 hk6 hN6 hG6 hH6 hd6 hcs
            clear hR4 hF4 hq4 hk4 hN4 hG hH
            have hLb : L.length ≤ 512 := by have := HL.out; omega
            go_wp2_with (at_builtin; refine wpList_append_own_at _ rfl _ _ 27 rfl (w.heap.size + 2) 26 i0 (.agg #[.slice none 0 0, .slice none 0 0]) 2 48 Tryz.underlying27 hi hz0 hz1 hz2 rfl (by decide) _ L.length (L.flatMap TenA.cells) rfl HN6.out.1 ⟨w4.heap.size + 1, 0, none⟩ 1 1 [.slice (some ⟨g, 0, none⟩) f.length f.length, .slice (some ⟨h, 0, none⟩) cl.length cl.length] rfl rfl ?c1 ?c2 ?c3 ?c4 ?c5 ?_)
            case c1 => exact World.news_of_block (cs := #[.slice (some ⟨g, 0, none⟩) f.length f.length, .slice (some ⟨h, 0, none⟩) cl.length cl.length]) Hd6.out
            case c2 => intro u hu; simp at hu; rcases hu with rfl | rfl <;> rfl
            case c3 => unfold maxLen; omega
            case c4 => omega
            case c5 => simp; omega
            intro v7 w7 hown7 hg7 _ hat7
            have hs6 : w4.heap.size + 1 + 1 = ((w4.alloc (.cells #[.slice (some ⟨g, 0, none⟩) f.length f.length, .slice (some ⟨h, 0, none⟩) cl.length cl.length] 26)).alloc (.cells #[.slice (some ⟨g, 0, none⟩) f.length f.length, .slice (some ⟨h, 0, none⟩) cl.length cl.length] 26)).heap.size := by simp
            rw [hs6] at hat7
            clear hs6
            generalize (w4.alloc (.cells #[.slice (some ⟨g, 0, none⟩) f.length f.length, .slice (some ⟨h, 0, none⟩) cl.length cl.length] 26)).alloc (.cells #[.slice (some ⟨g, 0, none⟩) f.length f.length, .slice (some ⟨h, 0, none⟩) cl.length cl.length] 26) = w6 at HR6 HF6 Hq6 Hk6 HN6 HG6 HH6 Hd6 hg7 hat7
            have hb6 : ∀ b, (Value.slice A L.length cap).ownBlock = some b → w.heap.size + 2 ≤ b ∧ b < w2.heap.size := fun b hb => ⟨(HN6.out.1.lt b hb).1, Nat.lt_of_lt_of_le (HN6.out.2.1 b hb) hsz2⟩
            have hN7 := OwnRow.push (x := ((⟨f, cl⟩, g, h) : TenA)) HN6.out hown7 hg7 hat7 (F := fun b => b = g ∨ b = h) (HG6.out.on.and HH6.out.on) (fun b hb => by
              have h1 := HG6.out.lt
              have h2 := HH6.out.lt
              refine ⟨by omega, by omega, fun e => ?_⟩
              have := hb6 b e.symm
              omega)
            obtain ⟨A7, cap7, rfl, _⟩ := OwnRow.form hN7
            have hS7 := Fr.of_grown (S := fun b => w.heap.size + 2 ≤ b) hg7 (fun k e _ => (hb6 k e).1)
            have hR7 := HR6.out.fr hS7 (fun b hb => by omega)
            have hq7 := hS7.blk Hq6.out (by omega)
            have hk7 := hS7.blk Hk6.out (by omega)
            have hF7 := HF6.out.trans' hS7 (fun b hb e => by omega)
            have e0 := hq7.cell 0
            have e1 := hq7.frozen 0
            simp at e0
            have hT8 : Fr (fun b => b = w.heap.size + 1) w7 (w7.setCell ⟨w.heap.size + 1, 0, none⟩ (.slice A7 (L ++ [((⟨f, cl⟩, g, h) : TenA)]).length cap7)) := (Fr.refl (fun b => b = w.heap.size + 1) _).setCell (p := ⟨w.heap.size + 1, 0, none⟩) (fun _ => rfl) _
            have hR8 := hR7.fr hT8 (fun b e => by omega)
            have hN8 := OwnRow.fr hN7 hT8 (fun b hb _ e => by omega)
            have hq8 := hq7.set_ 0 (.slice A7 (L ++ [((⟨f, cl⟩, g, h) : TenA)]).length cap7)
            have hk8 := hT8.blk hk7 (by omega)
            have hF8 := hF7.trans' hT8 (fun b hb e => by omega)
            have hs8 : (w7.setCell ⟨w.heap.size + 1, 0, none⟩ (.slice A7 (L ++ [((⟨f, cl⟩, g, h) : TenA)]).length cap7)).heap.size = w7.heap.size := by simp
            have HL8 := Lib.hid (show (L ++ [((⟨f, cl⟩, g, h) : TenA)]).length = k + 1 by simp [HL.out])
            have hlen8 : L.length + 1 = (L ++ [((⟨f, cl⟩, g, h) : TenA)]).length := by simp
            have HP8 := Lib.hid (show Kr.readP m [] st1 = Kr.readP (m - (k + 1)) ((L ++ [((⟨f, cl⟩, g, h) : TenA)]).map (·.1)) st5 by rw [HP5.out, Hmk2.out]; simp)
            have HS8 := Lib.hid (show ∀ x ∈ L ++ [((⟨f, cl⟩, g, h) : TenA)], x.1.s.length ≤ 4 ∧ x.1.c.length ≤ 65536 by intro x hx; rcases List.mem_append.1 hx with hx | hx; exact Hsm.out x hx; rw [List.mem_singleton] at hx; subst hx; exact Hcs.out)
            generalize L ++ [((⟨f, cl⟩, g, h) : TenA)] = L8 at *
            have HR8 := Lib.hid hR8
            have HN8 := Lib.hid hN8
            have Hq8 := Lib.hid hq8
            have Hk8 := Lib.hid hk8
            have HF8 := Lib.hid hF8
            have Hs8 := Lib.hid hs8
            clear hR8 hN8 hq8 hk8 hF8 hs8
            clear hN7 hR7 hq7 hk7 hF7 hT8 hS7 HR6 HF6 Hq6 Hk6 HN6 HG6 HH6 Hd6 hown7 hg7 hat7 hb6 hlen8 d0
            go_wp2_with fail
            go_roundw
            case rel => exact ⟨k + 1, L8, st5, A7, cap7, by omega, by go_num, HL8.out, HP8.out, HR8.out, by rw [Hs8.out]; exact HN8.out, Hq8.out, Hk8.out, HF8.out, HS8.out⟩
            case measure => simp [intOf]; omega
      · obtain rfl : k = m := by omega
        rw [Nat.sub_self, Kr.readP] at hP
        have HS3 := Lib.hid (show Kr.state st = Kr.state3 (0, L.map (·.1), st') (Kr.readV ((L.map (·.1)).map (·.s)) [] st') by rw [HS2.out, hP]; simp [Kr.state2])
        subst hL
        have HE0 := Lib.hid (show Kr.readV ((L.map (·.1)).map (·.s)) [] st' = Kr.readV (((L.drop 0).map (·.1)).map (·.s)) ((([] : List TenA)).map (·.1)) st' from rfl)
        have hV := OwnRow.nil wr.heap.size wr 26 2 TenA.cells TenA.ok
        have HR := Lib.hid hR
        have HN := Lib.hid hN
        have Hq := Lib.hid hq
        have Hk0 := Lib.hid hk0
        have HF := Lib.hid hF
        have Hsm := Lib.hid hsm
        have HV := Lib.hid hV
        clear hR hN hq hk0 hF hsm hV
        clear hP HS2 hF1
        have HC := Lib.hid (rfl : wr.heap.size = wr.heap.size)
        obtain ⟨C, hC⟩ : ∃ C, C = wr.heap.size := ⟨_, rfl⟩
        rw [← hC] at hsz hql HN HV
        have HCC := Lib.hid hC
        clear hC HC
        go_wp2_with fail
        go_loopw [10, 11, 12, 48] (fun _ _ _ i wv => ∃ (k : Nat) (LV : List TenA) (st2 : Option (List Int)) (A2 : Option Addr) (cap2 : Nat), k ≤ L.length ∧ i = .int .i64 k ∧ LV.length = k ∧ Kr.readV ((L.map (·.1)).map (·.s)) [] st' = Kr.readV (((L.drop k).map (·.1)).map (·.s)) (LV.map (·.1)) st2 ∧ RdO r st2 wv ∧ TensN (w.heap.size + 2) C wv (.slice A L.length cap) L ∧ TensN C wv.heap.size wv (.slice A2 LV.length cap2) LV ∧ Blk wv (w.heap.size + 1) 29 #[.slice A L.length cap, .slice A2 LV.length cap2] ∧ Blk wv w.heap.size 29 #[.slice none 0 0, .slice none 0 0] ∧ Fr (fun b => b = r) w wv ∧ (∀ x ∈ LV, x.1.s.length ≤ 4 ∧ x.1.c.length ≤ 65536)) (fun _ _ _ i _ => L.length - (intOf i).toNat)
        case atStart => exact ⟨0, [], st', none, 0, Nat.zero_le _, rfl, rfl, HE0.out, HR.out, HN.out, by rw [← HCC.out]; exact HV.out, Hq.out, Hk0.out, HF.out, by simp⟩
        case round =>
          clear HE0 HR HN HV Hq Hk0 HF HCC
          obtain ⟨wo, rfl⟩ : ∃ wo : World, wo = wr := ⟨_, rfl⟩
          obtain ⟨k, LV, st2, A2, cap2, hk, rfl, hLV, hP, hR, hN, hV, hq, hk0, hF, hsmV⟩ := hrel
          have hszw := hF.size
          have hCw := hN.2.2.1
          by_cases hlt : k < L.length
          · obtain ⟨b, capb, hvb, hb1, hb2, hb3, hcb⟩ := OwnRow.at_ hN TenA.len hlt
            have hx := hN.now L[k] (List.getElem_mem hlt)
            have hxs := Hsm.out L[k] (List.getElem_mem hlt)
            have hx0 := hcb 0 (by omega)
            rw [Nat.add_zero] at hx0
            rw [List.drop_eq_getElem_cons hlt] at hP
            obtain ⟨x, hxx⟩ : ∃ x, x = L[k] := ⟨_, rfl⟩
            rw [← hxx] at hx hx0 hP hxs
            have hIx := hx.1.ints
            simp only [TenA.cells, List.getElem?_cons_zero] at hx0
            injection hvb with hA hcap
            subst hA
            simp only [List.map_cons] at hP
            have q0 := hq.cell 0
            simp at q0
            have HLV := Lib.hid hLV
            have HP := Lib.hid hP
            have HR := Lib.hid hR
            have HN := Lib.hid hN
            have HV := Lib.hid hV
            have Hq := Lib.hid hq
            have Hk0 := Lib.hid hk0
            have HF := Lib.hid hF
            have HsmV := Lib.hid hsmV
            have HIx := Lib.hid hIx
            clear hLV hP hR hN hV hq hk0 hF hsmV hIx
            clear hxx hx hcb
            obtain ⟨hxs1, hxs2⟩ := hxs
            go_wp2_with fail
            refine (keep_cells r (some ⟨x.2.1, 0, none⟩) x.1.s.length x.1.s st2 _ HR.out (by omega) HIx.out).mono ?_
            rintro e w4 ⟨hcase, hR4, hF4⟩
            have hN4 := OwnRow.fr HN.out hF4 (fun b hb _ e => by omega)
            have hV4 := OwnRow.fr HV.out hF4 (fun b hb _ e => by omega)
            have hq4 := hF4.blk Hq.out (by omega)
            have hk4 := hF4.blk Hk0.out (by omega)
            have hsz4 := hF4.size
            have hF4 := HF.out.trans hF4
            clear HR HN HV Hq Hk0 HF HIx q0 hx0
            rcases hcase with ⟨he, rfl⟩ | ⟨he, v, rfl, g, h, rfl, hgb, hhb, hG, hH⟩
            · have HE := Lib.hid (show Kr.state st = ((Kr.cells x.1.s st2).1, [], [], (Kr.cells x.1.s st2).2.2) by rw [HS3.out, HP.out, Kr.readV_bad he]; simp [Kr.state3, he])
              have hne : ((Kr.cells x.1.s st2).1 != 0) = true := by simp [he]
              obtain ⟨hR5, hF5⟩ := zero_box (hR4.alloc (.cells #[.slice none 0 0, .slice none 0 0] 26)) (hF4.alloc (.cells #[.slice none 0 0, .slice none 0 0] 26)) hrl (Nat.le_refl _) (.slice none 0 0) (.slice none 0 0)
              have hk5 := hk4.alloc (.cells #[.slice none 0 0, .slice none 0 0] 26)
              have c0 := hk5.cell 0
              have c1 := hk5.cell 1
              have f0 := hk5.frozen 0
              have f1 := hk5.frozen 1
              simp at c0 c1
              have HR5 := Lib.hid hR5
              have HF5 := Lib.hid hF5
              have He := Lib.hid he
              clear hR5 hF5 he
              clear hR4 hF4 hN4 hV4 hq4 hk4 hk5
              generalize (Kr.cells x.1.s st2).1 = er at *
              go_wp2_with fail
              refine bodyPost_ret (v := .tuple #[.agg #[.slice none 0 0, .slice none 0 0], .int .i64 er]) (by simp [results, Tryz.results32, go_sem, c0, c1]) rfl ?_
              exact ⟨.inl ⟨by rw [HE.out]; exact He.out, by rw [HE.out]⟩, by rw [HE.out]; exact HR5.out, HF5.out⟩
            · have HP5 := Lib.hid (show Kr.readV ((L.map (·.1)).map (·.s)) [] st' = Kr.readV (((L.drop (k + 1)).map (·.1)).map (·.s)) (LV.map (·.1) ++ [⟨x.1.s, (Kr.cells x.1.s st2).2.1⟩]) (Kr.cells x.1.s st2).2.2 by rw [HP.out, Kr.readV_ok he])
              have hcs := Kr.cells_small he
              generalize (Kr.cells x.1.s st2).2.2 = st5 at *
              generalize (Kr.cells x.1.s st2).2.1 = cl at *
              clear he HP
              simp only at hG hH
              have hR6 := (hR4.alloc (.cells #[.slice (some ⟨g, 0, none⟩) x.1.s.length x.1.s.length, .slice (some ⟨h, 0, none⟩) cl.length cl.length] 26)).alloc (.cells #[.slice (some ⟨g, 0, none⟩) x.1.s.length x.1.s.length, .slice (some ⟨h, 0, none⟩) cl.length cl.length] 26)
              have hF6 := (hF4.alloc (.cells #[.slice (some ⟨g, 0, none⟩) x.1.s.length x.1.s.length, .slice (some ⟨h, 0, none⟩) cl.length cl.length] 26)).alloc (.cells #[.slice (some ⟨g, 0, none⟩) x.1.s.length x.1.s.length, .slice (some ⟨h, 0, none⟩) cl.length cl.length] 26)
              have hq6 := (hq4.alloc (.cells #[.slice (some ⟨g, 0, none⟩) x.1.s.length x.1.s.length, .slice (some ⟨h, 0, none⟩) cl.length cl.length] 26)).alloc (.cells #[.slice (some ⟨g, 0, none⟩) x.1.s.length x.1.s.length, .slice (some ⟨h, 0, none⟩) cl.length cl.length] 26)
              have hk6 := (hk4.alloc (.cells #[.slice (some ⟨g, 0, none⟩) x.1.s.length x.1.s.length, .slice (some ⟨h, 0, none⟩) cl.length cl.length] 26)).alloc (.cells #[.slice (some ⟨g, 0, none⟩) x.1.s.length x.1.s.length, .slice (some ⟨h, 0, none⟩) cl.length cl.length] 26)
              have hV6 := OwnRow.fr (S := fun _ => False) hV4 (((Fr.refl (fun _ => False) w4).alloc (.cells #[.slice (some ⟨g, 0, none⟩) x.1.s.length x.1.s.length, .slice (some ⟨h, 0, none⟩) cl.length cl.length] 26)).alloc (.cells #[.slice (some ⟨g, 0, none⟩) x.1.s.length x.1.s.length, .slice (some ⟨h, 0, none⟩) cl.length cl.length] 26)) (fun _ _ _ h => h)
              have hN6 := OwnRow.fr (S := fun _ => False) hN4 (((Fr.refl (fun _ => False) w4).alloc (.cells #[.slice (some ⟨g, 0, none⟩) x.1.s.length x.1.s.length, .slice (some ⟨h, 0, none⟩) cl.length cl.length] 26)).alloc (.cells #[.slice (some ⟨g, 0, none⟩) x.1.s.length x.1.s.length, .slice (some ⟨h, 0, none⟩) cl.length cl.length] 26)) (fun _ _ _ h => h)
              have hG6 := (hG.alloc (.cells #[.slice (some ⟨g, 0, none⟩) x.1.s.length x.1.s.length, .slice (some ⟨h, 0, none⟩) cl.length cl.length] 26)).alloc (.cells #[.slice (some ⟨g, 0, none⟩) x.1.s.length x.1.s.length, .slice (some ⟨h, 0, none⟩) cl.length cl.length] 26)
              have hH6 := (hH.alloc (.cells #[.slice (some ⟨g, 0, none⟩) x.1.s.length x.1.s.length, .slice (some ⟨h, 0, none⟩) cl.length cl.length] 26)).alloc (.cells #[.slice (some ⟨g, 0, none⟩) x.1.s.length x.1.s.length, .slice (some ⟨h, 0, none⟩) cl.length cl.length] 26)
              have hd6 := Blk.new (w4.alloc (.cells #[.slice (some ⟨g, 0, none⟩) x.1.s.length x.1.s.length, .slice (some ⟨h, 0, none⟩) cl.length cl.length] 26)) 26 #[.slice (some ⟨g, 0, none⟩) x.1.s.length x.1.s.length, .slice (some ⟨h, 0, none⟩) cl.length cl.length]
              rw [World.size_alloc] at hd6
              have hgl := hG.lt
              have hhl := hH.lt
              have d0 := (hq4.alloc (.cells #[.slice (some ⟨g, 0, none⟩) x.1.s.length x.1.s.length, .slice (some ⟨h, 0, none⟩) cl.length cl.length] 26)).cell 1
              simp at d0
              have HR6 := Lib.hid hR6
              have HF6 := Lib.hid hF6
              have Hq6 := Lib.hid hq6
              have Hk6 := Lib.hid hk6
              have HV6 := Lib.hid hV6
              have HN6 := Lib.hid hN6
              have HG6 := Lib.hid hG6
              have HH6 := Lib.hid hH6
              have Hd6 := Lib.hid hd6
              have Hcs := Lib.hid hcs
              clear hR6 hF6 hq6 hk6 hV6 hN6 hG6 hH6 hd6 hcs
              clear hR4 hF4 hq4 hk4 hV4 hN4 hG hH
              have hLb : LV.length ≤ 512 := by have := HLV.out; omega
              go_wp2_with (at_builtin; refine wpList_append_own_at _ rfl _ _ 27 rfl C 26 i0 (.agg #[.slice none 0 0, .slice none 0 0]) 2 48 Tryz.underlying27 hi hz0 hz1 hz2 rfl (by decide) _ LV.length (LV.flatMap TenA.cells) rfl HV6.out.1 ⟨w4.heap.size + 1, 0, none⟩ 1 1 [.slice (some ⟨g, 0, none⟩) x.1.s.length x.1.s.length, .slice (some ⟨h, 0, none⟩) cl.length cl.length] rfl rfl ?c1 ?c2 ?c3 ?c4 ?c5 ?_)
              case c1 => exact World.news_of_block (cs := #[.slice (some ⟨g, 0, none⟩) x.1.s.length x.1.s.length, .slice (some ⟨h, 0, none⟩) cl.length cl.length]) Hd6.out
              case c2 => intro u hu; simp at hu; rcases hu with rfl | rfl <;> rfl
              case c3 => unfold maxLen; omega
              case c4 => omega
              case c5 => simp; omega
              intro v7 w7 hown7 hg7 _ hat7
              have hs6 : w4.heap.size + 1 + 1 = ((w4.alloc (.cells #[.slice (some ⟨g, 0, none⟩) x.1.s.length x.1.s.length, .slice (some ⟨h, 0, none⟩) cl.length cl.length] 26)).alloc (.cells #[.slice (some ⟨g, 0, none⟩) x.1.s.length x.1.s.length, .slice (some ⟨h, 0, none⟩) cl.length cl.length] 26)).heap.size := by simp
              rw [hs6] at hat7
              clear hs6
              generalize (w4.alloc (.cells #[.slice (some ⟨g, 0, none⟩) x.1.s.length x.1.s.length, .slice (some ⟨h, 0, none⟩) cl.length cl.length] 26)).alloc (.cells #[.slice (some ⟨g, 0, none⟩) x.1.s.length x.1.s.length, .slice (some ⟨h, 0, none⟩) cl.length cl.length] 26) = w6 at HR6 HF6 Hq6 Hk6 HV6 HN6 HG6 HH6 Hd6 hg7 hat7
              have hb6 : ∀ b, (Value.slice A2 LV.length cap2).ownBlock = some b → C ≤ b ∧ b < wo.heap.size := fun b hb => ⟨(HV6.out.1.lt b hb).1, HV6.out.2.1 b hb⟩
              have hV7 := OwnRow.push (x := ((⟨x.1.s, cl⟩, g, h) : TenA)) HV6.out hown7 hg7 hat7 (F := fun b => b = g ∨ b = h) (HG6.out.on.and HH6.out.on) (fun b hb => by
                have h1 := HG6.out.lt
                have h2 := HH6.out.lt
                refine ⟨by omega, by omega, fun e => ?_⟩
                have := hb6 b e.symm
                omega)
              obtain ⟨A7, cap7, rfl, _⟩ := OwnRow.form hV7
              have hS7 := Fr.of_grown (S := fun b => C ≤ b) hg7 (fun k e _ => (hb6 k e).1)
              have hR7 := HR6.out.fr hS7 (fun b hb => by omega)
              have hq7 := hS7.blk Hq6.out (by omega)
              have hk7 := hS7.blk Hk6.out (by omega)
              have hF7 := HF6.out.trans' hS7 (fun b hb e => by omega)
              have hN7 := OwnRow.fr HN6.out hS7 (fun b _ hb e => by omega)
              have e0 := hq7.cell 1
              have e1 := hq7.frozen 1
              simp at e0
              have hT8 : Fr (fun b => b = w.heap.size + 1) w7 (w7.setCell ⟨w.heap.size + 1, 1, none⟩ (.slice A7 (LV ++ [((⟨x.1.s, cl⟩, g, h) : TenA)]).length cap7)) := (Fr.refl (fun b => b = w.heap.size + 1) _).setCell (p := ⟨w.heap.size + 1, 1, none⟩) (fun _ => rfl) _
              have hR8 := hR7.fr hT8 (fun b e => by omega)
              have hV8 := OwnRow.fr hV7 hT8 (fun b hb _ e => by omega)
              have hN8 := OwnRow.fr hN7 hT8 (fun b hb _ e => by omega)
              have hq8 := hq7.set_ 1 (.slice A7 (LV ++ [((⟨x.1.s, cl⟩, g, h) : TenA)]).length cap7)
              have hk8 := hT8.blk hk7 (by omega)
              have hF8 := hF7.trans' hT8 (fun b hb e => by omega)
              have hs8 : (w7.setCell ⟨w.heap.size + 1, 1, none⟩ (.slice A7 (LV ++ [((⟨x.1.s, cl⟩, g, h) : TenA)]).length cap7)).heap.size = w7.heap.size := by simp
              have HLn8 := Lib.hid (show (LV ++ [((⟨x.1.s, cl⟩, g, h) : TenA)]).length = k + 1 by simp [HLV.out])
              have hlen8 : LV.length + 1 = (LV ++ [((⟨x.1.s, cl⟩, g, h) : TenA)]).length := by simp
              have HP8 := Lib.hid (show Kr.readV ((L.map (·.1)).map (·.s)) [] st' = Kr.readV (((L.drop (k + 1)).map (·.1)).map (·.s)) ((LV ++ [((⟨x.1.s, cl⟩, g, h) : TenA)]).map (·.1)) st5 by rw [HP5.out]; simp)
              have HS8 := Lib.hid (show ∀ y ∈ LV ++ [((⟨x.1.s, cl⟩, g, h) : TenA)], y.1.s.length ≤ 4 ∧ y.1.c.length ≤ 65536 by intro y hy; rcases List.mem_append.1 hy with hy | hy; exact HsmV.out y hy; rw [List.mem_singleton] at hy; subst hy; exact Hcs.out)
              generalize LV ++ [((⟨x.1.s, cl⟩, g, h) : TenA)] = LV8 at *
              have HR8 := Lib.hid hR8
              have HV8 := Lib.hid hV8
              have HN8 := Lib.hid hN8
              have Hq8 := Lib.hid hq8
              have Hk8 := Lib.hid hk8
              have HF8 := Lib.hid hF8
              have Hs8 := Lib.hid hs8
              clear hR8 hV8 hN8 hq8 hk8 hF8 hs8
              clear hV7 hN7 hR7 hq7 hk7 hF7 hT8 hS7 HR6 HF6 Hq6 Hk6 HV6 HN6 HG6 HH6 Hd6 hown7 hg7 hat7 hb6 hlen8 d0
              go_wp2_with fail
              go_roundw
              case rel => exact ⟨k + 1, LV8, st5, A7, cap7, by omega, by go_num, HLn8.out, HP8.out, HR8.out, HN8.out, by rw [Hs8.out]; exact HV8.out, Hq8.out, Hk8.out, HF8.out, HS8.out⟩
              case measure => simp [intOf]; omega
          · obtain rfl : k = L.length := by omega
            rw [List.drop_length, List.map_nil, List.map_nil, Kr.readV] at hP
            have HE := Lib.hid (show Kr.state st = (0, L.map (·.1), LV.map (·.1), st2) by rw [HS3.out, hP]; simp [Kr.state3])
            obtain ⟨hR5, hF5⟩ := zero_box hR hF hrl (Nat.le_refl _) (.slice A L.length cap) (.slice A2 LV.length cap2)
            have hT5 : Fr (fun b => b = w.heap.size) wo ((wo.setCell ⟨w.heap.size, 0, none⟩ (.slice A L.length cap)).setCell ⟨w.heap.size, 1, none⟩ (.slice A2 LV.length cap2)) := ((Fr.refl (fun b => b = w.heap.size) _).setCell (p := ⟨w.heap.size, 0, none⟩) (fun _ => rfl) _).setCell (p := ⟨w.heap.size, 1, none⟩) (fun _ => rfl) _
            have hN5 := OwnRow.fr hN hT5 (fun b hb _ e => by omega)
            have hV5 := OwnRow.fr hV hT5 (fun b hb _ e => by omega)
            have hN6 := (OwnRow.base hN5 (show w.heap.size ≤ w.heap.size + 2 by omega)).widen (C' := ((wo.setCell ⟨w.heap.size, 0, none⟩ (.slice A L.length cap)).setCell ⟨w.heap.size, 1, none⟩ (.slice A2 LV.length cap2)).heap.size) (by simp; omega) (Nat.le_refl _)
            have hV6 := (OwnRow.base hV5 (show w.heap.size ≤ C by omega)).widen (C' := ((wo.setCell ⟨w.heap.size, 0, none⟩ (.slice A L.length cap)).setCell ⟨w.heap.size, 1, none⟩ (.slice A2 LV.length cap2)).heap.size) (by simp) (Nat.le_refl _)
            have c0 := hk0.cell 0
            have c1 := hk0.cell 1
            have f0 := hk0.frozen 0
            have f1 := hk0.frozen 1
            have d0 := hq.cell 0
            have d1 := hq.cell 1
            simp at c0 c1 d0 d1
            have HR5 := Lib.hid hR5
            have HF5 := Lib.hid hF5
            have HN6 := Lib.hid hN6
            have HV6 := Lib.hid hV6
            have HLV := Lib.hid hLV
            clear hR5 hF5 hN6 hV6 hLV
            clear hR hF hN hV hq hk0 hT5 hN5 hV5 hP
            go_wp2_with fail
            refine bodyPost_ret (v := .tuple #[.agg #[.slice A L.length cap, .slice A2 LV.length cap2], .int .i64 0]) (by simp [results, Tryz.results32, go_sem, c0, c1]) rfl ?_
            refine ⟨.inr ⟨by rw [HE.out], A, cap, A2, cap2, L, LV, ?_, by rw [HE.out], by rw [HE.out], ?_, ?_⟩, by rw [HE.out]; exact HR5.out, HF5.out⟩
            · rw [HE.out]; simp
            · rw [HE.out]; simpa using HN6.out
            · rw [HE.out]; simpa using HV6.out
  · have hne : (er != 0) = true := by simp [he]
    have HST := Lib.hid (show Kr.state st = (er, [], [], st1) by rw [HST.out]; simp [Kr.state1, he])
    obtain ⟨hR2, hF2⟩ := zero_box hR1 hF1 hrl (Nat.le_refl _) (.slice none 0 0) (.slice none 0 0)
    have He := Lib.hid he
    have HR2 := Lib.hid hR2
    have HF2 := Lib.hid hF2
    clear he hR2 hF2
    clear hk1 hq1 hR1 hF1
    go_wp2_with fail
    refine bodyPost_ret (v := .tuple #[.agg #[.slice none 0 0, .slice none 0 0], .int .i64 er]) (by simp [results, Tryz.results32, go_sem, c0, c1]) rfl ?_
    exact ⟨.inl ⟨by rw [HST.out]; exact He.out, by rw [HST.out]⟩, by rw [HST.out]; exact HR2.out, HF2.out⟩
end Go.Proofs.YtkmhagjdafeebaaGreat
/- A world later than another: all that was there reads as it did. No program is named here. -/
namespace Go.Proofs.YtkmhagjdafeebaaGreat
open Go.RowKit
/-- All that was there is there. -/
def Later (w w' : World) : Prop := Below w.heap.size w w'
section
variable {w w1 w2 : World}
theorem Later.refl (w : World) : Later w w := Below.refl _ _
theorem Later.alloc (h : Later w w1) (o : Obj) : Later w (w1.alloc o) := Below.alloc h h.size o
theorem Later.drew (h : Later w w1) : Later w w1.drew := Below.drew h
theorem Later.drewN (h : Later w w1) (n : Nat) : Later w (w1.drewN n) := Bdrawn h n
theorem Later.call (h : Later w w1) (k : Below w1.heap.size w1 w2) : Later w w2 := Below.trans h (k.mono h.size)
theorem Later.trans (h : Later w w1) (k : Later w1 w2) : Later w w2 := h.call k
theorem Later.set (h : Later w w1) {p : Addr} (hp : w.heap.size ≤ p.block) (u : Value) : Later w (w1.setCell p u) := Below.setCell h hp u
theorem Later.cell {p : Addr} {v : Value} (h : Later w w1) (hc : w.cell? p = some v) : w1.cell? p = some v := (Below.cell h (World.block_lt_of_cell? _ _ hc)).trans hc
theorem Later.blk {g : Nat} {t : TypeId} {cs : Array Value} (h : Later w w1) (hb : Blk w g t cs) : Blk w1 g t cs := hb.below h hb.lt
theorem Later.below {B : Nat} {w0 : World} (h : Later w w1) (hb : Below B w0 w) (hB : B ≤ w.heap.size) : Below B w0 w1 := hb.trans (Below.mono h hB)
end
end Go.Proofs.YtkmhagjdafeebaaGreat
