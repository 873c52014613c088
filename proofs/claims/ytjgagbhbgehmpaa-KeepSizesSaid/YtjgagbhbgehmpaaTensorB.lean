/- Layer 4 (tensor): Of, same (a deferred closure that recovers), Equal. -/
import Derived.Test.YtjgagbhbgehmpaaTensor
namespace Go.Proofs.Ytjgagbhbgehmpaa
open Go.RowKit

theorem same_idle (p : Addr) (w : World) :
    CallsD Try.prog 62 #[.pointer (some p)] .returning w fun e u' w' => e = .returned (.tuple #[]) ∧ u' = .returning ∧ w' = w := by
  refine callsD_of_wpS Try.func62 rfl fun c₀ cs hu => ?_
  apply wpS_seq
  apply wpS_region
  simp [wpOpsS, go_sem, recoverD, hu, Try.ntmps62, Exit.thenS]
  refine wpS_cond (t := false) (by simp [Act.eval, Array.replicate]) ?_
  simp only [Bool.false_eq_true, if_false]
  refine wpS_of_wp (wp_skip ?_)
  cases c₀
  simp_all [bodyPostS, results, Try.results62]

set_option maxHeartbeats 1000000 in
theorem tensor_same (A A' : Option Addr) (c c' : Nat) (xs ys : List Int) (w : World) (hl : xs.length ≤ 1000000000) (hn : xs.length = ys.length) (hI : Ints .i64 w A xs) (hI' : Ints .i64 w A' ys) :
    Calls Try.prog 57 #[.slice A xs.length c, .slice A' ys.length c'] w fun e w' => e = .returned (.bool (xs == ys)) ∧ Below w.heap.size w w' := by
  have hmf : ∀ (fn : Fn) (first cap : Array Value) (w : World), (Instr.makeFunc fn first cap).run Try.prog w = .ok (.func fn first cap) w := fun _ _ _ _ => rfl
  have hb0 : Below w.heap.size w (w.alloc (.cells #[.bool false] 4)) := (Below.refl _ _).alloc (Nat.le_refl _) _
  have HI := Lib.hid (hI.alloc (.cells #[.bool false] 4))
  have HI' := Lib.hid (hI'.alloc (.cells #[.bool false] 4))
  have HN := Lib.hid hn
  clear hI hI' hn
  go_enter_defers Try.func57, Try.ntmps57
  go_wp2_with fail
  go_loopw [10] (fun i wr => wr = w.alloc (.cells #[.bool false] 4) ∧ ∃ k : Nat, k ≤ xs.length ∧ i = .int .i64 k ∧ xs.take k = ys.take k) (fun i _ => xs.length - (intOf i).toNat)
  case atStart => exact ⟨rfl, 0, Nat.zero_le _, rfl, rfl⟩
  case round =>
    obtain ⟨rfl, k, hk, rfl, htk⟩ := hrel
    have HT := Lib.hid htk
    clear htk
    by_cases hlt : k < xs.length
    · have hlt' : k < ys.length := by have := HN.out; omega
      obtain ⟨b, off, rfl, hb, hc⟩ := HI.out k hlt
      obtain ⟨b', off', rfl, hb', hc'⟩ := HI'.out k hlt'
      by_cases hxy : xs[k] = ys[k]
      · have hb : (xs[k] != ys[k]) = false := by simp [hxy]
        have HT2 := Lib.hid (show xs.take (k + 1) = ys.take (k + 1) by rw [List.take_succ_eq_append_getElem hlt, List.take_succ_eq_append_getElem hlt', HT.out, hxy])
        clear hxy
        go_wp2_with fail
        go_roundw
        case rel => exact ⟨trivial, k + 1, by omega, by go_num, HT2.out⟩
        case measure => simp [intOf]; omega
      · have hb : (xs[k] != ys[k]) = true := by simp [hxy]
        have hf := Lib.hid (show (xs == ys) = false by simp; rintro rfl; exact hxy rfl)
        clear hxy
        go_wp2_with fail
        refine leaves_cons (f := 62) (args := #[.pointer (some ⟨w.heap.size, 0, none⟩)]) (by simp) (by simp [go_sem]) ?_
        refine (same_idle ⟨w.heap.size, 0, none⟩ _).mono ?_
        rintro e u' w'' ⟨rfl, rfl, rfl⟩
        simp only [Leaves, settle]
        exact ⟨_, by simp [results, Try.results57, go_sem]; rfl, by rw [hf.out], hb0⟩
    · obtain rfl : k = xs.length := by omega
      have hf := Lib.hid (show (xs == ys) = true by have := HT.out; rw [List.take_length, HN.out, List.take_length] at this; simp [this])
      have hb1 : Below w.heap.size w (w.alloc (.cells #[.bool true] 4)) := (Below.refl _ _).alloc (Nat.le_refl _) _
      go_wp2_with fail
      refine leaves_cons (f := 62) (args := #[.pointer (some ⟨w.heap.size, 0, none⟩)]) (by simp) (by simp [go_sem]) ?_
      refine (same_idle ⟨w.heap.size, 0, none⟩ _).mono ?_
      rintro e u' w'' ⟨rfl, rfl, rfl⟩
      simp only [Leaves, settle]
      exact ⟨_, by simp [results, Try.results57, go_sem]; rfl, by rw [hf.out], hb1⟩

namespace Tn
def eq (a b : Ten) : Bool := (a.s == b.s) && (a.c == b.c)
theorem eq_iff (a b : Ten) : eq a b = true ↔ a = b := by
  cases a; cases b; simp [eq]
end Tn

set_option maxHeartbeats 1000000 in
theorem tensor_equal (S C S' C' : Option Addr) (c d c' d' : Nat) (a b : Ten) (w : World) (hl : a.s.length ≤ 1000000000) (hl' : a.c.length ≤ 1000000000) (hm : b.s.length ≤ 1000000000) (hm' : b.c.length ≤ 1000000000) (hT : TenR w S C a) (hT' : TenR w S' C' b) :
    Calls Try.prog 54 #[.agg #[.slice S a.s.length c, .slice C a.c.length d], .agg #[.slice S' b.s.length c', .slice C' b.c.length d']] w fun e w' => e = .returned (.bool (Tn.eq a b)) ∧ Below w.heap.size w w' := by
  have hb0 : Below w.heap.size w ((w.alloc (.cells #[.slice S a.s.length c, .slice C a.c.length d] 48)).alloc (.cells #[.slice S' b.s.length c', .slice C' b.c.length d'] 48)) := ((Below.refl _ _).alloc (Nat.le_refl _) _).alloc (by simp) _
  have HA := Lib.hid (hT.1.below hb0 (Nat.le_refl _))
  have HB := Lib.hid (hT.2.below hb0 (Nat.le_refl _))
  have HC := Lib.hid (hT'.1.below hb0 (Nat.le_refl _))
  have HD := Lib.hid (hT'.2.below hb0 (Nat.le_refl _))
  clear hT hT'
  go_enter Try.func54, Try.ntmps54
  go_wp2_with fail
  refine (shape_equal S S' c c' a.s b.s _ hl hm HA.out HC.out).mono ?_
  rintro e w1 ⟨rfl, n, rfl⟩
  have hbn := fun n => Bdrawn hb0 n
  have HBn := Lib.hid hbn
  clear hb0 hbn
  cases hs : (a.s == b.s)
  · have HE := Lib.hid (show Tn.eq a b = false by simp [Tn.eq, hs])
    clear hs
    go_wp2_with fail
    go_ret
    exact ⟨by rw [HE.out]; rfl, HBn.out n⟩
  · by_cases hn : a.c.length = b.c.length
    · have hq : ((a.c.length : Int) == b.c.length) = true := by simp [hn]
      have HN := Lib.hid hn
      have HE := Lib.hid (show Tn.eq a b = (a.c == b.c) by simp [Tn.eq, hs])
      clear hn hs
      go_wp2_with fail
      refine (tensor_same C C' d d' a.c b.c _ hl' HN.out (HB.out.drewN n) (HD.out.drewN n)).mono ?_
      rintro e w2 ⟨rfl, h2⟩
      have hb2 := (HBn.out n).trans (h2.mono (HBn.out n).size)
      go_wp2_with fail
      go_ret
      exact ⟨by rw [HE.out]; rfl, hb2⟩
    · have hq : ((a.c.length : Int) == b.c.length) = false := by simp; omega
      have HE := Lib.hid (show Tn.eq a b = false by simp [Tn.eq, hs]; intro e; rw [e] at hn; exact hn rfl)
      clear hn hs
      go_wp2_with fail
      go_ret
      exact ⟨by rw [HE.out]; rfl, HBn.out n⟩

def OfP (t : Ten) (w : World) (e : Ending) (w' : World) : Prop :=
  (Tn.right t = false ∧ e = .returned (.tuple #[.agg #[.slice none 0 0, .slice none 0 0], .int .i64 20]) ∨ Tn.right t = true ∧ ∃ v, e = .returned (.tuple #[v, .int .i64 0]) ∧ TenN w.heap.size w' v t) ∧ Below w.heap.size w w'
set_option maxHeartbeats 1000000 in
theorem tensor_of (S C : Option Addr) (c d : Nat) (t : Ten) (w : World) (hl : t.s.length ≤ 1000000) (hl' : t.c.length ≤ 1000000) (hT : TenR w S C t) :
    Calls Try.prog 19 #[.slice S t.s.length c, .slice C t.c.length d] w (OfP t w) := by
  have HT := Lib.hid hT
  clear hT
  have hk0 := (Blk.new w 48 #[.slice none 0 0, .slice none 0 0]).alloc (.cells #[.slice S t.s.length c, .slice C t.c.length d] 48)
  have hk1 := Blk.new (w.alloc (.cells #[.slice none 0 0, .slice none 0 0] 48)) 48 #[.slice S t.s.length c, .slice C t.c.length d]
  rw [World.size_alloc] at hk1
  have hb0 : Below w.heap.size w ((w.alloc (.cells #[.slice none 0 0, .slice none 0 0] 48)).alloc (.cells #[.slice S t.s.length c, .slice C t.c.length d] 48)) := ((Below.refl _ _).alloc (Nat.le_refl _) _).alloc (by simp) _
  have Hk0 := Lib.hid hk0
  have Hk1 := Lib.hid hk1
  clear hk0 hk1
  go_enter Try.func19, Try.ntmps19
  go_wp2_with fail
  refine (tensor_right S C c d t _ (by omega) (by omega) (HT.out.1.below hb0 (Nat.le_refl _))).mono ?_
  rintro e w1 ⟨rfl, h1⟩
  have hk01 := Hk0.out.below h1 Hk0.out.lt
  have hk11 := Hk1.out.below h1 Hk1.out.lt
  have hb1 := hb0.trans (h1.mono hb0.size)
  clear h1 hb0 Hk0 Hk1
  cases hr : Tn.right t
  · have c0 := hk01.cell 0
    have c1 := hk01.cell 1
    have f0 := hk01.frozen 0
    have f1 := hk01.frozen 1
    simp at c0 c1
    have Hr := Lib.hid hr
    clear hr
    go_wp2_with fail
    refine bodyPost_ret (v := .tuple #[.agg #[.slice none 0 0, .slice none 0 0], .int .i64 20]) (by simp [results, Try.results19, go_sem, c0, c1]) rfl ?_
    exact ⟨.inl ⟨Hr.out, rfl⟩, (hb1.setCell (p := ⟨w.heap.size, 0, none⟩) (Nat.le_refl _) _).setCell (p := ⟨w.heap.size, 1, none⟩) (Nat.le_refl _) _⟩
  · have d0 := hk11.cell 0
    have d1 := hk11.cell 1
    simp at d0 d1
    have Hr := Lib.hid hr
    clear hr
    go_wp2_with fail
    refine (tensor_copy S C c d t _ hl hl' ⟨HT.out.1.below hb1 (Nat.le_refl _), HT.out.2.below hb1 (Nat.le_refl _)⟩).mono ?_
    rintro e w2 ⟨v, rfl, ⟨g, h, rfl, hg, hh, hG, hH⟩, h2⟩
    have hk02 := hk01.below h2 hk01.lt
    have hb2 := hb1.trans (h2.mono hb1.size)
    have hlt1 := hk01.lt
    have c0 := hk02.cell 0
    have c1 := hk02.cell 1
    have f0 := hk02.frozen 0
    have f1 := hk02.frozen 1
    simp at c0 c1
    have HG := Lib.hid hG
    have HH := Lib.hid hH
    clear hG hH
    clear hk01 hk11 d0 d1 hb1 h2
    go_wp2_with fail
    refine bodyPost_ret (v := .tuple #[.agg #[.slice (some ⟨g, 0, none⟩) t.s.length t.s.length, .slice (some ⟨h, 0, none⟩) t.c.length t.c.length], .int .i64 0]) (by simp [results, Try.results19, go_sem, c0, c1]) rfl ?_
    exact ⟨.inr ⟨Hr.out, _, rfl, g, h, rfl, by omega, by omega, (HG.out.far (p := ⟨w.heap.size, 0, none⟩) (by simp; omega) _).far (p := ⟨w.heap.size, 1, none⟩) (by simp; omega) _, (HH.out.far (p := ⟨w.heap.size, 0, none⟩) (by simp; omega) _).far (p := ⟨w.heap.size, 1, none⟩) (by simp; omega) _⟩, (hb2.setCell (p := ⟨w.heap.size, 0, none⟩) (Nat.le_refl _) _).setCell (p := ⟨w.heap.size, 1, none⟩) (Nat.le_refl _) _⟩
end Go.Proofs.Ytjgagbhbgehmpaa
