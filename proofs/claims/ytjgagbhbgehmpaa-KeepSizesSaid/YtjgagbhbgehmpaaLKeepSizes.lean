/- The walk of the law KeepSizes. -/
import Derived.Test.YtjgagbhbgehmpaaLKeepC
namespace Go.Proofs.Ytjgagbhbgehmpaa
open Go.RowKit

namespace Lw
/-- The number of bytes, as the law counts it. -/
def cnt (s : Sav) (k : Nat) : Int := 12 + 48 * (s.m.length : Int) + ((s.p.take k).map fun t => 1 + 2 * (t.s.length : Int) + 16 * (t.c.length : Int)).sum
theorem cnt_succ (s : Sav) (k : Nat) (h : k < s.p.length) : cnt s (k + 1) = cnt s k + (1 + 2 * (s.p[k].s.length : Int) + 16 * (s.p[k].c.length : Int)) := by
  unfold cnt
  rw [List.take_succ_eq_append_getElem h, List.map_append, List.sum_append]; simp; omega
theorem sum_le {l : List Ten} (h : ∀ t ∈ l, t.s.length ≤ 800 ∧ t.c.length ≤ 800) : 0 ≤ (l.map fun t => 1 + 2 * (t.s.length : Int) + 16 * (t.c.length : Int)).sum ∧ (l.map fun t => 1 + 2 * (t.s.length : Int) + 16 * (t.c.length : Int)).sum ≤ (l.length : Int) * 14401 := by
  induction l with
  | nil => simp
  | cons t r ih =>
    have h1 := h t (by simp)
    have h2 := ih fun u hu => h u (by simp [hu])
    simp only [List.map_cons, List.sum_cons, List.length_cons]
    omega
theorem flat_words (l : List Ten) : ((Kp.tens l).length : Int) + (Kp.cells l).length = (l.map fun t => 1 + 2 * (t.s.length : Int) + 16 * (t.c.length : Int)).sum := by
  induction l with
  | nil => simp [Kp.tens, Kp.cells]
  | cons t r ih =>
    simp only [Kp.tens, Kp.cells, List.flatMap_cons, List.length_append, List.map_cons, List.sum_cons, Fp.shape_length, Fp.words_length] at ih ⊢
    omega
theorem cells_same : ∀ (a b : List Ten), a.map (·.s) = b.map (·.s) → a.all Tn.right = true → b.all Tn.right = true → (Kp.cells a).length = (Kp.cells b).length
  | [], [], _, _, _ => rfl
  | [], _ :: _, h, _, _ => by simp at h
  | _ :: _, [], h, _, _ => by simp at h
  | t :: a, u :: b, h, ha, hb => by
    simp only [List.map_cons, List.cons.injEq] at h
    simp only [List.all_cons, Bool.and_eq_true] at ha hb
    have := cells_same a b h.2 ha.2 hb.2
    have h1 := (Kq.right_prod ha.1).2
    have h2 := (Kq.right_prod hb.1).2
    rw [h.1] at h1
    simp only [Kp.cells, List.flatMap_cons, List.length_append, Fp.words_length] at this ⊢
    omega
theorem cnt_all {s : Sav} (h : Kq.okS s) : cnt s s.p.length = (Kp.enc s).length := by
  obtain ⟨_, _, h3, h4, h5, _⟩ := h
  have e1 := cells_same s.p s.v h5 (List.all_eq_true.2 fun t ht => (h3 t ht).1) (List.all_eq_true.2 fun t ht => (h4 t ht).1)
  have e2 := flat_words s.p
  have e3 := Kp.mets_len s.m
  unfold cnt
  rw [List.take_length, ← e2]
  simp only [Kp.enc, Kp.body, List.length_append, Kp.head_len, Fp.big_length]
  omega
end Lw

set_option maxHeartbeats 2000000 in
set_option maxRecDepth 100000 in
theorem walkKeepSizes (w : World) (P V M : Option Addr) (c1 c2 c3 : Nat) (s : Sav) (hp : s.p.length ≤ 3000000000000) (hv : s.v.length ≤ 3000000000000) (hm : s.m.length ≤ 3000000000000) (hS : SavR w P V M s) (hw : s.wide) :
    Calls Try.prog 6 #[.agg #[.slice P s.p.length c1, .slice V s.v.length c2, .slice M s.m.length c3]] w fun e w' => e = .returned (.bool true) ∧ Below w.heap.size w w' := by
  have hk0 := Blk.new w 27 #[.slice P s.p.length c1, .slice V s.v.length c2, .slice M s.m.length c3]
  have hb0 : Below w.heap.size w (w.alloc (.cells #[.slice P s.p.length c1, .slice V s.v.length c2, .slice M s.m.length c3] 27)) := (Below.refl _ _).alloc (Nat.le_refl _) _
  have Hk0 := Lib.hid hk0
  have HS := Lib.hid hS
  have Hw := Lib.hid hw
  clear hk0 hS hw
  go_enter Try.func6, Try.ntmps6
  go_wp2_with fail
  refine (law_small P V M c1 c2 c3 s _ (by omega) (by omega) (HS.out.below hb0 (Nat.le_refl _))).mono ?_
  rintro e w1 ⟨rfl, h1⟩
  have hk1 := Hk0.out.below h1 Hk0.out.lt
  have hb1 := hb0.trans (h1.mono hb0.size)
  clear h1 hb0 Hk0
  cases hsm : Lw.small s
  · clear hk1
    go_wp2_with fail
    refine (awake27 _).mono ?_
    rintro e w2 ⟨rfl, h2⟩
    have hb2 := hb1.trans (h2.mono hb1.size)
    go_wp2_with fail
    go_ret
    exact ⟨rfl, hb2⟩
  have e0 := hk1.cell 0
  have e1 := hk1.cell 1
  simp at e0 e1
  have Hk1 := Lib.hid hk1
  clear hk1
  go_wp2_with fail
  refine (state_right P V c1 c2 s.p s.v _ (by omega) (by omega) (HS.out.1.below hb1 (Nat.le_refl _)) (HS.out.2.1.below hb1 (Nat.le_refl _))).mono ?_
  rintro e w2 ⟨rfl, h2⟩
  have hk2 := Hk1.out.below h2 Hk1.out.lt
  have hb2 := hb1.trans (h2.mono hb1.size)
  clear h2 hb1 Hk1 e0 e1
  cases ha : Tn.alike s.p s.v
  · clear hk2
    go_wp2_with fail
    refine (awake27 _).mono ?_
    rintro e w3 ⟨rfl, h3⟩
    have hb3 := hb2.trans (h3.mono hb2.size)
    go_wp2_with fail
    go_ret
    exact ⟨rfl, hb3⟩
  have htn := Lw.small_tiny hsm ha (by omega)
  have herr : Kp.err s = 0 := small_err hsm ha (by omega)
  have HO := Lib.hid (Kq.err_okS herr Hw.out)
  have HZ := Lib.hid (show Kp.size s = (Kp.enc s).length by simp [Kp.size, herr])
  have HC := Lib.hid (Lw.cnt_all HO.out)
  obtain ⟨t1, t2, t3, t4, t5⟩ := htn
  have e0 := hk2.cell 0
  have e2 := hk2.cell 2
  simp at e0 e2
  have Hk2 := Lib.hid hk2
  have Ht4 := Lib.hid t4
  clear hk2 t4
  have HC0 := Lib.hid (show (12 : Int) + 48 * (s.m.length : Int) = Lw.cnt s 0 by simp [Lw.cnt])
  clear ha hsm herr t5
  go_wp2_with fail
  go_loopw [3, 5, 25] (fun n _ i wr => ∃ k : Nat, k ≤ s.p.length ∧ i = .int .i64 k ∧ n = .int .i64 (Lw.cnt s k) ∧ Below w.heap.size w wr ∧ Blk wr w.heap.size 27 #[.slice P s.p.length c1, .slice V s.v.length c2, .slice M s.m.length c3]) (fun _ _ i _ => s.p.length - (intOf i).toNat)
  case atStart => exact ⟨0, Nat.zero_le _, rfl, by rw [← HC0.out], hb2, Hk2.out⟩
  case round =>
    clear hb2 Hk2 e0 e2 HC0
    obtain ⟨k, hk, rfl, rfl, hbel, hkb⟩ := hrel
    by_cases hlt : k < s.p.length
    · obtain ⟨b, off, S, cS, C, dC, rfl, hb, c0, c1', hTR, _, _⟩ := HS.out.1.below hbel (Nat.le_refl _) k hlt
      have hsmt := Ht4.out s.p[k] (List.getElem_mem hlt)
      have hnx := Lw.cnt_succ s k hlt
      have hsl := Lw.sum_le (Kp.small_take Ht4.out k)
      rw [List.length_take, Nat.min_eq_left hk] at hsl
      have hcb : 0 ≤ Lw.cnt s k ∧ Lw.cnt s k ≤ 12000000 := by unfold Lw.cnt; omega
      have Hnx := Lib.hid hnx
      have HTR := Lib.hid hTR
      clear hnx hTR
      clear hsl
      generalize s.p[k] = t at *
      generalize Lw.cnt s k = z at *
      obtain ⟨ht1, ht2⟩ := hsmt
      obtain ⟨hz1, hz2⟩ := hcb
      have hb1 := hbel.alloc hbel.size (.cells #[.slice S t.s.length cS, .slice C t.c.length dC] 48)
      have hk1 := hkb.alloc (.cells #[.slice S t.s.length cS, .slice C t.c.length dC] 48)
      have Hk1 := Lib.hid hk1
      clear hk1
      clear hkb hbel
      go_wp2_with fail
      go_roundw
      case rel => exact ⟨k + 1, by omega, by go_num, by rw [Hnx.out], hb1, Hk1.out⟩
      case measure => simp [intOf]; omega
    · obtain rfl : k = s.p.length := by omega
      rw [HC.out]
      have e0 := hkb.cell 0
      have e1 := hkb.cell 1
      have e2 := hkb.cell 2
      simp at e0 e1 e2
      clear hkb
      go_wp2_with fail
      refine (keep_size P V M c1 c2 c3 s _ (by omega) (by omega) (by omega) (HS.out.below hbel (Nat.le_refl _))).mono ?_
      rintro e w4 ⟨rfl, h4⟩
      rw [HZ.out]
      have hb4 := hbel.trans (h4.mono hbel.size)
      clear h4 hbel e0 e1 e2
      go_wp2_with fail
      refine (awake27 _).mono ?_
      rintro e w5 ⟨rfl, h5⟩
      have hb5 := hb4.trans (h5.mono hb4.size)
      go_wp2_with fail
      go_ret
      exact ⟨rfl, hb5⟩
end Go.Proofs.Ytjgagbhbgehmpaa
