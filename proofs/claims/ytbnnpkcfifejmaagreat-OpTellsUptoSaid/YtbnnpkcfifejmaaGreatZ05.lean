/- Lemmas for the statements of this seat: contracts of functions and the plain laws. -/
import Derived.StillTailTactics
import Derived.Test.YtbnnpkcfifejmaaGreatZ04
set_option linter.unusedVariables false
namespace Go.Proofs.YtbnnpkcfifejmaaGreat
open Go.RowKit
theorem Shps.cell_at {w : World} {b off j : Nat} {ss : List (List Int)} (h : Shps w (some ⟨b, off, none⟩) ss) (hj : j < ss.length) :
  ∃ S c, w.cell? ⟨b, off + j, none⟩ = some (.slice S ss[j].length c) ∧ Ints .i64 w S ss[j] ∧ ss[j].length ≤ c ∧ c ≤ 9223372036854775807 := by
 obtain ⟨b', off', S, c, e, _, hc, h2⟩ := h j hj
 injection e with e
 injection e with e1 e2
 subst e1 e2
 exact ⟨S, c, hc, h2⟩
theorem gets_at {l : List (List Int)} {k : Nat} (h : k < l.length) : l.getD k [] = l[k] := by rw [List.getD_eq_getElem?_getD, List.getElem?_eq_getElem h]; rfl
set_option maxHeartbeats 4000000 in
theorem op_dense (A B C : Option Addr) (c d f : Nat) (ws bs xs : List Int) (w : World) (hx : xs.length ≤ 17592186043904) (hI : Ints .i64 w A ws) (hJ : Ints .i64 w B bs) (hK : Ints .i64 w C xs) :
  Calls Tryz.prog 87 #[.slice A ws.length c, .slice B bs.length d, .slice C xs.length f] w (ShPost (Od.dense ws bs xs) w) := by
 have bad : ¬ (ws.length = 2 ∧ bs.length = 1 ∧ bs.getD 0 0 = ws.getD 0 0 ∧ Sh.right xs = true ∧ Safe.prod xs = ws.getD 1 0) → Od.dense ws bs xs = ([], 20) := fun h => by unfold Od.dense; rw [if_neg h]
 have HI := Lib.hid hI
 have HJ := Lib.hid hJ
 have HK := Lib.hid hK
 clear hI hJ hK
 by_cases c1 : ws.length = 2
 case neg =>
  have HE := Lib.hid (bad (by omega))
  have d1 : ((ws.length : Int) != 2) = true := by simp; omega
  clear bad c1
  go_enter Tryz.func87, Tryz.ntmps87
  go_wp2_with fail
  go_quiet (fail)
  go_wp2_with fail
  go_ret2
  exact ShPost.fail HE.out (Bdrawn (Below.refl _ _) _)
 by_cases c2 : bs.length = 1
 case neg =>
  have HE := Lib.hid (bad (by omega))
  have d1 : ((ws.length : Int) != 2) = false := by simp; omega
  have d2 : ((bs.length : Int) != 1) = true := by simp; omega
  clear bad c1 c2
  go_enter Tryz.func87, Tryz.ntmps87
  go_wp2_with fail
  go_quiet (fail)
  go_wp2_with fail
  go_ret2
  exact ShPost.fail HE.out (Bdrawn (Below.refl _ _) _)
 obtain ⟨b, off, rfl, hb, -⟩ := HI.out 0 (by omega)
 obtain ⟨b', off', rfl, hb', -⟩ := HJ.out 0 (by omega)
 have n0 : 0 < ws.length := by omega
 have n1 : 1 < ws.length := by omega
 have m0 : 0 < bs.length := by omega
 have e0 : (0 : Int) < ws.length := by omega
 have e1 : (1 : Int) < ws.length := by omega
 have f0 : (0 : Int) < bs.length := by omega
 have d1 : ((ws.length : Int) != 2) = false := by simp; omega
 have d2 : ((bs.length : Int) != 1) = false := by simp; omega
 have x0 := HI.out.cell_at n0
 have y0 := HJ.out.cell_at m0
 rw [Nat.add_zero] at x0 y0
 rw [getD_at n0, getD_at m0, getD_at n1] at bad
 have good : bs[0] = ws[0] → Sh.right xs = true → Safe.prod xs = ws[1] → Od.dense ws bs xs = ([ws[0]], 0) := fun h1 h2 h3 => by
  unfold Od.dense
  rw [if_pos ⟨c1, c2, by rw [getD_at n0, getD_at m0]; exact h1, h2, by rw [getD_at n1]; exact h3⟩, getD_at n0]
 have HC1 := Lib.hid c1
 have HC2 := Lib.hid c2
 by_cases c3 : bs[0] = ws[0]
 case neg =>
  have HE := Lib.hid (bad (by simp [c3]))
  have d3 : (bs[0] != ws[0]) = true := by simp [c3]
  clear bad good c1 c2 c3
  go_enter Tryz.func87, Tryz.ntmps87
  go_wp2_with fail
  go_quiet (fail)
  go_wp2_with fail
  go_ret2
  exact ShPost.fail HE.out (Bdrawn (Below.refl _ _) _)
 have d3 : (bs[0] != ws[0]) = false := by simp [c3]
 have bad := fun h : ¬ (Sh.right xs = true ∧ Safe.prod xs = ws[1]) => bad (by intro q; exact h ⟨q.2.2.2.1, q.2.2.2.2⟩)
 have good := good c3
 clear c1 c2 c3
 cases hr : Sh.right xs
 ·have HE := Lib.hid (bad (by simp [hr]))
  have HS := Lib.hid (show Sh.size xs = (0, 20) by simp [Sh.size, hr])
  clear bad good
  have Hr := Lib.hid hr
  clear hr
  go_enter Tryz.func87, Tryz.ntmps87
  go_wp2_with fail
  go_quiet (fail)
  go_wp2_with fail
  refine (shape_size C f xs _ (by omega) (HK.out.drewN _)).mono ?_
  rintro e w1 ⟨rfl, h1⟩
  rw [HS.out]
  go_wp2_with fail
  go_ret2
  exact ShPost.fail HE.out ((Bdrawn (Below.refl _ _) _).trans h1)
 have HS := Lib.hid (show Sh.size xs = (Safe.prod xs, 0) by simp [Sh.size, hr])
 by_cases hp : Safe.prod xs = ws[1]
 ·have HE := Lib.hid (good hr hp)
  have d5 : (Safe.prod xs != ws[1]) = false := by simp [hp]
  clear bad good hp
  have Hr := Lib.hid hr
  clear hr
  go_enter Tryz.func87, Tryz.ntmps87
  go_wp2_with fail
  go_quiet (fail)
  go_wp2_with fail
  refine (shape_size C f xs _ (by omega) (HK.out.drewN _)).mono ?_
  rintro e w1 ⟨rfl, h1⟩
  rw [HS.out]
  have hb1 : Below w.heap.size w w1 := (Bdrawn (Below.refl _ _) _).trans h1
  have x1 := (HI.out.below hb1 (Nat.le_refl _)).cell_at n1
  have x0 := (HI.out.below hb1 (Nat.le_refl _)).cell_at n0
  rw [Nat.add_zero] at x0
  go_wp2_with fail
  go_ret2
  refine ShPost.fresh (g := w1.heap.size) (t := 3) HE.out (by simp) hb1.size ?_ (by simp) (by omega) (hb1.alloc hb1.size _)
  exact Blk.new _ _ _
 ·have HE := Lib.hid (bad (by simp [hp]))
  have d5 : (Safe.prod xs != ws[1]) = true := by simp [hp]
  clear bad good hp
  have Hr := Lib.hid hr
  clear hr
  go_enter Tryz.func87, Tryz.ntmps87
  go_wp2_with fail
  go_quiet (fail)
  go_wp2_with fail
  refine (shape_size C f xs _ (by omega) (HK.out.drewN _)).mono ?_
  rintro e w1 ⟨rfl, h1⟩
  rw [HS.out]
  have hb1 : Below w.heap.size w w1 := (Bdrawn (Below.refl _ _) _).trans h1
  have x1 := (HI.out.below hb1 (Nat.le_refl _)).cell_at n1
  go_wp2_with fail
  go_ret2
  exact ShPost.fail HE.out hb1
theorem Od.same_bad {l : List (List Int)} {k : Nat} (hk : k < l.length) (h0 : 0 < l.length) (h : l[k] ≠ l[0]) : Od.same l = ([], 20) := by
 unfold Od.same
 rw [if_neg]
 rw [List.all_eq_true]
 intro q
 have := q l[k] (List.getElem_mem hk)
 rw [gets_at h0] at this
 simp [h] at this
theorem Od.same_good {l : List (List Int)} (h0 : 0 < l.length) (h : ∀ k (hk : k < l.length), l[k] = l[0]) : Od.same l = (l[0], 0) := by
 unfold Od.same
 rw [if_pos, gets_at h0]
 rw [List.all_eq_true]
 intro x hx
 obtain ⟨k, hk, rfl⟩ := List.getElem_of_mem hx
 rw [gets_at h0]
 simp [h k hk]
set_option maxHeartbeats 4000000 in
theorem op_same (A : Option Addr) (c : Nat) (ss : List (List Int)) (w : World) (h0 : 0 < ss.length) (hc : ss.length ≤ c) (hm : c ≤ 9223372036854775807) (hI : Shps w A ss) (hz : ∀ s ∈ ss, s.length ≤ 17592186043904) :
  Calls Tryz.prog 88 #[.slice A ss.length c] w (ShPost (Od.same ss) w) := by
 obtain ⟨b, off, _, _, rfl, hb, -⟩ := hI 0 h0
 have e0 : (0 : Int) < ss.length := by omega
 have e1 : (1 : Int) ≤ ss.length := by omega
 have HI := Lib.hid hI
 have Hz := Lib.hid hz
 clear hI hz
 by_cases hc1 : c = 1
 ·subst hc1
  have h1 : ss.length - 1 = 0 := by omega
  have HE := Lib.hid (Od.same_good h0 fun j hj => by obtain rfl : j = 0 := by omega
                                                     rfl)
  have z0 := Hz.out _ (List.getElem_mem h0)
  obtain ⟨S0, c0, y0, hI0, hc0, hm0⟩ := HI.out.cell_at h0
  rw [Nat.add_zero] at y0
  have HI0 := Lib.hid hI0
  clear hI0
  go_enter Tryz.func88, Tryz.ntmps88
  go_wp2_with fail
  go_loopw [9] (fun i wr => wr = w ∧ i = .int .i64 0) (fun _ _ => 0)
  case atStart => exact ⟨rfl, rfl⟩
  case round =>
   obtain ⟨rfl, rfl⟩ := hrel
   go_wp2_with fail
   refine (shape_copy S0 c0 ss[0] _ z0 HI0.out).mono ?_
   rintro e w1 ⟨g, rfl, hg, hB, h1⟩
   go_wp2_with fail
   go_ret2
   exact ShPost.fresh HE.out rfl hg hB (Nat.le_refl _) (by omega) h1
 go_enter Tryz.func88, Tryz.ntmps88
 go_wp2_with fail
 go_loopw [9] (fun i wr => ∃ k n : Nat, wr = w.drewN n ∧ k ≤ ss.length - 1 ∧ i = .int .i64 k ∧ ∀ j (hj : j < ss.length), j ≤ k → ss[j] = ss[0]) (fun i _ => ss.length - (intOf i).toNat)
 case atStart => exact ⟨0, 0, rfl, Nat.zero_le _, rfl, fun j hj h => by obtain rfl : j = 0 := by omega
                                                                        rfl⟩
 case round =>
  obtain ⟨k, n, rfl, hk, rfl, hall⟩ := hrel
  have HA := Lib.hid hall
  clear hall
  obtain ⟨S0, c0, y0, hI0, hc0, hm0⟩ := (HI.out.drewN n).cell_at h0
  rw [Nat.add_zero] at y0
  have HI0 := Lib.hid hI0
  clear hI0
  by_cases hlt : k < ss.length - 1
  ·have p1 : k + 1 < ss.length := by omega
   have k1 : (k : Int) < ((ss.length - 1 : Nat) : Int) := by omega
   obtain ⟨S1, c1, y1, hI1, hc1, hm1⟩ := (HI.out.drewN n).cell_at p1
   rw [show off + (k + 1) = off + 1 + k by omega] at y1
   have HI1 := Lib.hid hI1
   clear hI1
   have z1 := Hz.out _ (List.getElem_mem p1)
   have z0 := Hz.out _ (List.getElem_mem h0)
   by_cases hq : ss[k + 1] = ss[0]
   ·have hb : (ss[k + 1] == ss[0]) = true := by simp [hq]
    have HB := Lib.hid hb
    have HQ := Lib.hid hq
    clear hq hb
    go_wp2_with fail
    refine (shape_equal S1 S0 c1 c0 ss[k + 1] ss[0] _ z1 z0 HI1.out HI0.out).mono ?_
    rintro e w1 ⟨rfl, n1, rfl⟩
    rw [HB.out]
    go_wp2_with fail
    go_roundw
    case rel => exact ⟨k + 1, n + n1, by first | rfl | exact World.drewN_drewN _ _ _, by omega, by go_num, fun j hj h => by
     by_cases e : j = k + 1
     ·subst e; exact HQ.out
     ·exact HA.out j hj (by omega)⟩
    case measure => simp [intOf]; omega
   ·have hb : (ss[k + 1] == ss[0]) = false := by simp [hq]
    have HE := Lib.hid (Od.same_bad p1 h0 hq)
    have HB := Lib.hid hb
    clear hq hb
    go_wp2_with fail
    refine (shape_equal S1 S0 c1 c0 ss[k + 1] ss[0] _ z1 z0 HI1.out HI0.out).mono ?_
    rintro e w1 ⟨rfl, n1, rfl⟩
    rw [HB.out]
    go_wp2_with fail
    go_ret2
    exact ShPost.fail HE.out (Bdrawn (Below.refl _ _) _)
  ·obtain rfl : k = ss.length - 1 := by omega
   have k1 : ¬ (((ss.length - 1 : Nat) : Int) < ((ss.length - 1 : Nat) : Int)) := by omega
   have HE := Lib.hid (Od.same_good h0 fun j hj => HA.out j hj (by omega))
   have z0 := Hz.out _ (List.getElem_mem h0)
   go_wp2_with fail
   refine (shape_copy S0 c0 ss[0] _ z0 HI0.out).mono ?_
   rintro e w1 ⟨g, rfl, hg, hB, h1⟩
   go_wp2_with fail
   go_ret2
   exact ShPost.fresh HE.out rfl hg hB (Nat.le_refl _) (by omega) ((Bdrawn (Below.refl _ _) n).trans h1)
set_option maxHeartbeats 4000000 in
theorem op_turned (A B : Option Addr) (c d : Nat) (xs ss : List Int) (w : World) (hx : xs.length ≤ 17592186043904) (hs : ss.length ≤ 17592186043904) (hI : Ints .i64 w A xs) (hJ : Ints .i64 w B ss) :
  Calls Tryz.prog 91 #[.slice A xs.length c, .slice B ss.length d] w (ShPost (Od.turned xs ss) w) := by
 have HI := Lib.hid hI
 have HJ := Lib.hid hJ
 clear hI hJ
 cases hr : Sh.right xs
 ·have HE := Lib.hid (show Od.turned xs ss = ([], 20) by simp [Od.turned, hr])
  have HS := Lib.hid (show Sh.size xs = (0, 20) by simp [Sh.size, hr])
  clear hr
  go_enter Tryz.func91, Tryz.ntmps91
  go_wp2_with fail
  refine (shape_size A c xs _ (by omega) HI.out).mono ?_
  rintro e w1 ⟨rfl, h1⟩
  rw [HS.out]
  go_wp2_with fail
  go_ret2
  exact ShPost.fail HE.out h1
 have HS := Lib.hid (show Sh.size xs = (Safe.prod xs, 0) by simp [Sh.size, hr])
 cases hq : Sh.right ss
 ·have HE := Lib.hid (show Od.turned xs ss = ([], 20) by simp [Od.turned, hq])
  have HT := Lib.hid (show Sh.size ss = (0, 20) by simp [Sh.size, hq])
  clear hr hq
  go_enter Tryz.func91, Tryz.ntmps91
  go_wp2_with fail
  refine (shape_size A c xs _ (by omega) HI.out).mono ?_
  rintro e w1 ⟨rfl, h1⟩
  rw [HS.out]
  go_wp2_with fail
  refine (shape_size B d ss _ (by omega) (HJ.out.below h1 (Nat.le_refl _))).mono ?_
  rintro e w2 ⟨rfl, h2⟩
  rw [HT.out]
  go_wp2_with fail
  go_ret2
  exact ShPost.fail HE.out (h1.trans (h2.mono h1.size))
 have HT := Lib.hid (show Sh.size ss = (Safe.prod ss, 0) by simp [Sh.size, hq])
 by_cases hp : Safe.prod ss = Safe.prod xs
 ·have HE := Lib.hid (show Od.turned xs ss = (ss, 0) by simp [Od.turned, hr, hq, hp])
  have d5 : (Safe.prod ss != Safe.prod xs) = false := by simp [hp]
  clear hr hq hp
  go_enter Tryz.func91, Tryz.ntmps91
  go_wp2_with fail
  refine (shape_size A c xs _ (by omega) HI.out).mono ?_
  rintro e w1 ⟨rfl, h1⟩
  rw [HS.out]
  go_wp2_with fail
  refine (shape_size B d ss _ (by omega) (HJ.out.below h1 (Nat.le_refl _))).mono ?_
  rintro e w2 ⟨rfl, h2⟩
  have hb2 := h1.trans (h2.mono h1.size)
  rw [HT.out]
  go_wp2_with fail
  refine (shape_copy B d ss _ hs (HJ.out.below hb2 (Nat.le_refl _))).mono ?_
  rintro e w3 ⟨g, rfl, hg, hB, h3⟩
  go_wp2_with fail
  go_ret2
  exact ShPost.fresh HE.out rfl (Nat.le_trans hb2.size hg) hB (Nat.le_refl _) (by omega) (hb2.trans (h3.mono hb2.size))
 ·have HE := Lib.hid (show Od.turned xs ss = ([], 20) by simp [Od.turned, hp])
  have d5 : (Safe.prod ss != Safe.prod xs) = true := by simp [hp]
  clear hr hq hp
  go_enter Tryz.func91, Tryz.ntmps91
  go_wp2_with fail
  refine (shape_size A c xs _ (by omega) HI.out).mono ?_
  rintro e w1 ⟨rfl, h1⟩
  rw [HS.out]
  go_wp2_with fail
  refine (shape_size B d ss _ (by omega) (HJ.out.below h1 (Nat.le_refl _))).mono ?_
  rintro e w2 ⟨rfl, h2⟩
  rw [HT.out]
  go_wp2_with fail
  go_ret2
  exact ShPost.fail HE.out (h1.trans (h2.mono h1.size))
theorem Od.join_right {s t : List Int} {side : Int} (h : (Od.join s t side).2 = 0) : Sh.right (Od.join s t side).1 = true := by
 unfold Od.join at h ⊢
 split at h
 ·rename_i h1
  rw [if_pos h1]
  split at h
  ·rename_i h2
   rw [if_pos h2]
   split at h
   ·rename_i h3
    rw [if_pos h3]
    simp at h3
    exact h3.2
   ·simp at h
  ·simp at h
 ·simp at h
theorem Od.join_err {s t : List Int} {side : Int} (h : (Od.join s t side).2 ≠ 0) : (Od.join s t side).1 = [] := by
 unfold Od.join at h ⊢
 split
 ·split
  ·split
   ·rename_i h1 h2 h3; simp [h1, h2, h3] at h
   ·rfl
  ·rfl
 ·rfl
set_option maxHeartbeats 4000000 in
theorem op_joined (A : Option Addr) (c : Nat) (side : Int) (ss : List (List Int)) (w : World) (h0 : 0 < ss.length) (hc : ss.length ≤ c) (hm : c ≤ 9223372036854775807) (hI : Shps w A ss) (hz : ∀ s ∈ ss, s.length ≤ 17592186043904) :
  Calls Tryz.prog 90 #[.int .i64 side, .slice A ss.length c] w (ShPost (Od.joined side ss) w) := by
 obtain ⟨b, off, _, _, rfl, hb, -⟩ := hI 0 h0
 have e0 : (0 : Int) < ss.length := by omega
 have e1 : (1 : Int) ≤ ss.length := by omega
 have z0 := hz _ (List.getElem_mem h0)
 obtain ⟨S0, c0, y0, hI0, hc0, hm0⟩ := hI.cell_at h0
 rw [Nat.add_zero] at y0
 have HI := Lib.hid hI
 have Hz := Lib.hid hz
 have HI0 := Lib.hid hI0
 clear hI hz hI0
 have bad : ss.length = 1 → ¬ (0 ≤ side ∧ side < ss[0].length) → Od.joined side ss = ([], 11) := fun h1 h2 => by
  unfold Od.joined
  rw [if_pos ⟨h1, by rw [gets_at h0]; simp [Od.inR]; omega⟩]
 have good : (ss.length = 1 → 0 ≤ side ∧ side < ss[0].length) → Od.joined side ss = Od.joinAll side ss[0] (ss.drop 1) := fun h => by
  unfold Od.joined
  rw [if_neg, gets_at h0]
  rw [gets_at h0]
  rintro ⟨h1, h2⟩
  simp [Od.inR] at h2
  have := h h1
  omega
 by_cases c1 : ss.length = 1
 ·have d1 : ((ss.length : Int) == 1) = true := by simp; omega
  have l0 : ss.length - 1 = 0 := by omega
  have bad := bad c1
  by_cases s1 : side < 0
  ·have HE := Lib.hid (bad (by omega))
   clear bad good c1
   go_enter Tryz.func90, Tryz.ntmps90
   go_wp2_with fail
   go_ret2
   exact ShPost.fail HE.out (Below.refl _ _)
  ·by_cases s2 : (ss[0].length : Int) ≤ side
   ·have HE := Lib.hid (bad (by omega))
    clear bad good c1
    go_enter Tryz.func90, Tryz.ntmps90
    go_wp2_with fail
    go_ret2
    exact ShPost.fail HE.out (Below.refl _ _)
   ·have HE := Lib.hid (show Od.joined side ss = (ss[0], 0) by rw [good (by omega), List.drop_eq_nil_of_le (by omega)]; rfl)
    clear bad good c1
    by_cases hc1 : c = 1
    ·subst hc1
     go_enter Tryz.func90, Tryz.ntmps90
     go_wp2_with fail
     refine (shape_copy S0 c0 ss[0] _ z0 HI0.out).mono ?_
     rintro e w1 ⟨g, rfl, hg, hB, h1⟩
     have HB := Lib.hid hB
     clear hB y0
     go_wp2_with fail
     go_loopw [6, 33] (fun v i wr => v = .slice (some ⟨g, 0, none⟩) ss[0].length ss[0].length ∧ wr = w1 ∧ i = .int .i64 0) (fun _ _ _ => 0)
     case atStart => exact ⟨rfl, rfl, rfl⟩
     case round =>
      obtain ⟨rfl, rfl, rfl⟩ := hrel
      go_wp2_with fail
      go_ret2
      exact ShPost.fresh HE.out rfl hg HB.out (Nat.le_refl _) (by omega) h1
    ·go_enter Tryz.func90, Tryz.ntmps90
     go_wp2_with fail
     refine (shape_copy S0 c0 ss[0] _ z0 HI0.out).mono ?_
     rintro e w1 ⟨g, rfl, hg, hB, h1⟩
     have HB := Lib.hid hB
     clear hB y0
     go_wp2_with fail
     go_loopw [6, 33] (fun v i wr => v = .slice (some ⟨g, 0, none⟩) ss[0].length ss[0].length ∧ wr = w1 ∧ i = .int .i64 0) (fun _ _ _ => 0)
     case atStart => exact ⟨rfl, rfl, rfl⟩
     case round =>
      obtain ⟨rfl, rfl, rfl⟩ := hrel
      go_wp2_with fail
      go_ret2
      exact ShPost.fresh HE.out rfl hg HB.out (Nat.le_refl _) (by omega) h1
 ·have d1 : ((ss.length : Int) == 1) = false := by simp; omega
  have hc1 : ¬ c = 1 := by omega
  have HG := Lib.hid (good (by omega))
  clear bad good c1
  go_enter Tryz.func90, Tryz.ntmps90
  go_wp2_with fail
  refine (shape_copy S0 c0 ss[0] _ z0 HI0.out).mono ?_
  rintro e w1 ⟨g, rfl, hg, hB, h1⟩
  have HB := Lib.hid (show Blk w1 g 3 (ss[0].map (Value.int .i64)).toArray from hB)
  clear hB y0
  go_wp2_with fail
  go_loopw [6, 33] (fun v i wr => ∃ (k : Nat) (cur : List Int) (S : Option Addr) (d : Nat), k ≤ ss.length - 1 ∧ i = .int .i64 k ∧ v = .slice S cur.length d ∧ Ints .i64 wr S cur ∧ cur.length ≤ d ∧ d ≤ 9223372036854775807 ∧ cur.length ≤ 17592186043904 ∧ (∀ a, S = some a → w.heap.size ≤ a.block) ∧ Below w.heap.size w wr ∧ Od.joined side ss = Od.joinAll side cur (ss.drop (k + 1))) (fun _ i _ => ss.length - (intOf i).toNat)
  case atStart => exact ⟨0, ss[0], _, _, Nat.zero_le _, rfl, rfl, Ints.of_row fun j hj => by rw [HB.out.cell]; simp [hj], Nat.le_refl _, by omega, by omega, (fun a h => by injection h with h; subst h; exact hg), h1, HG.out⟩
  case round =>
   obtain ⟨k, cur, S, d, hk, rfl, rfl, hcur, q1, q2, q3, hfr, hbw, hgo⟩ := hrel
   have Hcur := Lib.hid hcur
   have Hgo := Lib.hid hgo
   have Hfr := Lib.hid hfr
   clear hcur hgo hfr
   clear HB
   by_cases hlt : k < ss.length - 1
   ·have p1 : k + 1 < ss.length := by omega
    have k1 : (k : Int) < ((ss.length - 1 : Nat) : Int) := by omega
    obtain ⟨S1, c1, y1, hI1, hc1, hm1⟩ := (HI.out.below hbw (Nat.le_refl _)).cell_at p1
    rw [show off + (k + 1) = off + 1 + k by omega] at y1
    have z1 := Hz.out _ (List.getElem_mem p1)
    have hj := shape_join S S1 d c1 cur ss[k + 1] side wr q3 z1 Hcur.out hI1
    have hgo2 : Od.joinAll side cur (ss.drop (k + 1)) = if (Od.join cur ss[k + 1] side).2 = 0 then Od.joinAll side (Od.join cur ss[k + 1] side).1 (ss.drop (k + 1 + 1)) else ([], (Od.join cur ss[k + 1] side).2) := by
     rw [List.drop_eq_getElem_cons p1, Od.joinAll]
    have hright := fun h : (Od.join cur ss[k + 1] side).2 = 0 => Sh.right_mul (Od.join_right (s := cur) (t := ss[k + 1]) (side := side) h)
    have herr := fun h : (Od.join cur ss[k + 1] side).2 ≠ 0 => Od.join_err (s := cur) (t := ss[k + 1]) (side := side) h
    generalize Od.join cur ss[k + 1] side = r at *
    have Hj := Lib.hid hj
    have Hgo2 := Lib.hid hgo2
    have HI1 := Lib.hid hI1
    have Hright := Lib.hid hright
    have Herr := Lib.hid herr
    clear hj hgo2 hI1 hright herr
    go_wp2_with fail
    refine (Hj.out).mono ?_
    rintro e w2 ⟨S2, d2, rfl, hI2, l1, l2, hf2, hb2⟩
    have hbw2 := hbw.trans (hb2.mono hbw.size)
    have HI2 := Lib.hid hI2
    have Hf2 := Lib.hid hf2
    clear hI2 hf2
    by_cases hr : r.2 = 0
    ·have d3 : (r.2 != 0) = false := by simp [hr]
     have HR := Lib.hid hr
     clear hr
     go_wp2_with fail
     go_roundw
     case rel => exact ⟨k + 1, r.1, S2, d2, by omega, by go_num, rfl, HI2.out, l1, l2, by have := (Hright.out HR.out).2.1; omega, (fun a h => Nat.le_trans hbw.size (Hf2.out a h)), hbw2, by rw [Hgo.out, Hgo2.out, if_pos HR.out]⟩
     case measure => simp [intOf]; omega
    ·have d3 : (r.2 != 0) = true := by simp [hr]
     have HE := Lib.hid (show Od.joined side ss = ([], r.2) by rw [Hgo.out, Hgo2.out, if_neg hr])
     clear hr
     go_wp2_with fail
     go_ret2
     exact ShPost.fail HE.out hbw2
   ·obtain rfl : k = ss.length - 1 := by omega
    have k1 : ¬ (((ss.length - 1 : Nat) : Int) < ((ss.length - 1 : Nat) : Int)) := by omega
    have HE := Lib.hid (show Od.joined side ss = (cur, 0) by rw [Hgo.out, List.drop_eq_nil_of_le (by omega)]; rfl)
    go_wp2_with fail
    go_ret2
    exact ShPost.mk' HE.out rfl Hcur.out q1 q2 Hfr.out hbw
end Go.Proofs.YtbnnpkcfifejmaaGreat
namespace Go.Proofs.YtbnnpkcfifejmaaGreat
open Go.RowKit
theorem Od.shape_bad_p {o : OpD} {p x : List (List Int)} (h : Od.counts o p.length x.length = 0) (hp : ¬ (p.all Sh.right = true ∧ x.all Sh.right = true)) : Od.shape o p x = ([], 20) := by
 unfold Od.shape
 rw [if_neg (by simp [h]), if_neg (by simpa using hp)]
theorem Od.shape_go {o : OpD} {p x : List (List Int)} (h : Od.counts o p.length x.length = 0) (hp : p.all Sh.right = true) (hx : x.all Sh.right = true) : Od.shape o p x = Od.byKind o p x := by
 unfold Od.shape
 rw [if_neg (by simp [h]), if_pos (by simp only [Bool.and_eq_true]; exact ⟨hp, hx⟩)]
theorem Od.counts_ok {o : OpD} {p x : Int} (h : Od.counts o p x = 0) : Od.right o = true ∧ Od.least o ≤ x ∧ x ≤ Od.most o ∧ p = Od.params o := by
 unfold Od.counts at h
 split at h
 ·rename_i hr
  split at h
  ·simp at h
  ·rename_i hc; exact ⟨hr, by omega, by omega, by omega⟩
 ·simp at h
theorem all_bad {ss : List (List Int)} {k : Nat} (hk : k < ss.length) (h : Sh.right ss[k] = false) : ¬ ss.all Sh.right = true := by
 rw [List.all_eq_true]
 intro q
 have := q _ (List.getElem_mem hk)
 rw [h] at this
 cases this
def ShpIn (w : World) (A : Option Addr) (c : Nat) (ss : List (List Int)) : Prop := Shps w A ss ∧ ss.length ≤ c ∧ c ≤ 9223372036854775807 ∧ ∀ s ∈ ss, s.length ≤ 17592186043904
theorem ShpIn.below {w w' : World} {A : Option Addr} {c B : Nat} {ss : List (List Int)} (h : ShpIn w A c ss) (hb : Below B w w') (hB : w.heap.size ≤ B) : ShpIn w' A c ss := ⟨h.1.below hb hB, h.2⟩
theorem ShpIn.at_ {w : World} {A : Option Addr} {c : Nat} {ss : List (List Int)} (h : ShpIn w A c ss) {k : Nat} (hk : k < ss.length) :
  ∃ b off S d, A = some ⟨b, off, none⟩ ∧ w.cell? ⟨b, off + k, none⟩ = some (.slice S ss[k].length d) ∧ Ints .i64 w S ss[k] ∧ ss[k].length ≤ d ∧ d ≤ 9223372036854775807 ∧ ss[k].length ≤ 17592186043904 := by
 obtain ⟨b, off, S, d, e, _, hc, h1, h2, h3⟩ := h.1 k hk
 exact ⟨b, off, S, d, e, hc, h1, h2, h3, h.2.2.2 _ (List.getElem_mem hk)⟩
theorem ShpIn.two {w : World} {A : Option Addr} {c : Nat} {ss : List (List Int)} (h : ShpIn w A c ss) (h1 : 1 < ss.length) :
  ∃ b off S d S' d', A = some ⟨b, off, none⟩ ∧ w.cell? ⟨b, off, none⟩ = some (.slice S ss[0].length d) ∧ w.cell? ⟨b, off + 1, none⟩ = some (.slice S' ss[1].length d') ∧ Ints .i64 w S ss[0] ∧ Ints .i64 w S' ss[1] ∧ ss[0].length ≤ 17592186043904 ∧ ss[1].length ≤ 17592186043904 := by
 obtain ⟨b, off, S, d, rfl, y, hI, _, _, l⟩ := h.at_ (by omega : 0 < ss.length)
 obtain ⟨b', off', S', d', e, y', hI', _, _, l'⟩ := h.at_ h1
 injection e with e
 injection e with e1 e2
 subst e1 e2
 exact ⟨b, off, S, d, S', d', rfl, y, y', hI, hI', l, l'⟩
theorem cell_below {w w' : World} {p : Addr} {v : Value} (hb : Below w.heap.size w w') (hc : w.cell? p = some v) : w'.cell? p = some v := (hb.cell (p := p) (World.block_lt_of_cell? _ _ hc)).trans hc
theorem pair_shps {w : World} {t : TypeId} {S S' : Option Addr} {d d' : Nat} {s s' : List Int} (h : Ints .i64 w S s) (h' : Ints .i64 w S' s') (l1 : s.length ≤ d) (l2 : d ≤ 9223372036854775807) (l1' : s'.length ≤ d') (l2' : d' ≤ 9223372036854775807) :
  Shps (w.alloc (.cells #[.slice S s.length d, .slice S' s'.length d'] t)) (some ⟨w.heap.size, 0, none⟩) [s, s'] := fun j hj => by
 have hk := Blk.new w t #[.slice S s.length d, .slice S' s'.length d']
 match j, hj with
 | 0, _ => exact ⟨_, _, S, d, rfl, hk.lt, by rw [hk.cell]; rfl, h.alloc _, l1, l2⟩
 | 1, _ => exact ⟨_, _, S', d', rfl, hk.lt, by rw [hk.cell]; rfl, h'.alloc _, l1', l2'⟩
theorem ShPost.pass {r r' : List Int × Int} {w wx w' : World} {S : Option Addr} {d : Nat} (he : r' = r) (hbx : Below w.heap.size w wx) (hI : Ints .i64 w' S r.1) (h1 : r.1.length ≤ d) (h2 : d ≤ 9223372036854775807) (hf : ∀ a, S = some a → wx.heap.size ≤ a.block) (hb : Below wx.heap.size wx w') :
  ShPost r' w (.returned (.tuple #[.slice S r.1.length d, .int .i64 r.2])) w' := by
 subst he
 exact ⟨S, d, rfl, hI, h1, h2, (fun a h => Nat.le_trans hbx.size (hf a h)), hbx.trans (hb.mono hbx.size)⟩
set_option maxHeartbeats 8000000 in
theorem op_shape (o : OpD) (S P X : Option Addr) (c d f : Nat) (p x : List (List Int)) (w : World) (ho : o.s.length ≤ 17592186043904) (hI : Ints .i64 w S o.s) (hP : ShpIn w P d p) (hX : ShpIn w X f x) :
  Calls Tryz.prog 39 #[.agg #[.int .i64 o.kind, .int .i64 o.k, .int .i64 o.width, .int .i64 o.step, .int .i64 o.side, .int .i64 o.frm, .int .i64 o.to, .slice S o.s.length c], .slice P p.length d, .slice X x.length f] w (ShPost (Od.shape o p x) w) := by
 have hk0 := Blk.new w 26 #[.int .i64 o.kind, .int .i64 o.k, .int .i64 o.width, .int .i64 o.step, .int .i64 o.side, .int .i64 o.frm, .int .i64 o.to, .slice S o.s.length c]
 have hb0 : Below w.heap.size w (w.alloc (.cells #[.int .i64 o.kind, .int .i64 o.k, .int .i64 o.width, .int .i64 o.step, .int .i64 o.side, .int .i64 o.frm, .int .i64 o.to, .slice S o.s.length c] 26)) := (Below.refl _ _).alloc (Nat.le_refl _) _
 have hlt0 := hk0.lt
 have hr := op_counts o S c p.length x.length (w.alloc (.cells #[.int .i64 o.kind, .int .i64 o.k, .int .i64 o.width, .int .i64 o.step, .int .i64 o.side, .int .i64 o.frm, .int .i64 o.to, .slice S o.s.length c] 26)) ho (hI.alloc _)
 have hpl : p.length ≤ 9223372036854775807 := by have := hP.2.1; have := hP.2.2.1; omega
 have hxl : x.length ≤ 9223372036854775807 := by have := hX.2.1; have := hX.2.2.1; omega
 by_cases hq : Od.counts o p.length x.length = 0
 case neg =>
  have d1 : (Od.counts o p.length x.length != 0) = true := by simp [hq]
  have HE := Lib.hid (show Od.shape o p x = ([], Od.counts o p.length x.length) by unfold Od.shape; rw [if_pos hq])
  generalize Od.counts o p.length x.length = n at *
  have Hr := Lib.hid hr
  have Hk0 := Lib.hid hk0
  have HI := Lib.hid hI
  have HP := Lib.hid hP
  have HX := Lib.hid hX
  clear hr hk0 hI hP hX
  clear hq
  go_enter Tryz.func39, Tryz.ntmps39
  go_wp2_with fail
  refine (Hr.out).mono ?_
  rintro e w1 ⟨rfl, h1⟩
  go_wp2_with fail
  go_ret2
  exact ShPost.fail HE.out (hb0.trans (h1.mono hb0.size))
 have HQ := Lib.hid hq
 rw [hq] at hr
 have Hr := Lib.hid hr
 have Hk0 := Lib.hid hk0
 have HI := Lib.hid hI
 have HP := Lib.hid hP
 have HX := Lib.hid hX
 clear hr hk0 hI hP hX
 clear hq
 go_enter Tryz.func39, Tryz.ntmps39
 go_wp2_with fail
 refine (Hr.out).mono ?_
 rintro e w1 ⟨rfl, h1⟩
 have hb1 := hb0.trans (h1.mono hb0.size)
 have HK := Lib.hid (Hk0.out.below h1 hlt0)
 clear Hk0 Hr
 go_wp2_with fail
 go_loopw [24] (fun i wr => ∃ k : Nat, k ≤ p.length ∧ i = .int .i64 k ∧ Blk wr w.heap.size 26 #[.int .i64 o.kind, .int .i64 o.k, .int .i64 o.width, .int .i64 o.step, .int .i64 o.side, .int .i64 o.frm, .int .i64 o.to, .slice S o.s.length c] ∧ Below w.heap.size w wr ∧ ∀ j (h : j < p.length), j < k → Sh.right p[j] = true) (fun i _ => p.length - (intOf i).toNat)
 case atStart => exact ⟨0, Nat.zero_le _, rfl, HK.out, hb1, fun j _ h => by omega⟩
 case round =>
  obtain ⟨k, hk, rfl, hblk, hbw, hall⟩ := hrel
  have Hblk := Lib.hid hblk
  have Hall := Lib.hid hall
  clear hblk hall
  clear HK hb1
  by_cases hlt : k < p.length
  ·obtain ⟨b, off, S1, d1, rfl, y1, hI1, l1, l2, l3⟩ := (HP.out.below hbw (Nat.le_refl _)).at_ hlt
   have hcall := shape_right S1 d1 p[k] wr (by omega) hI1
   cases hrr : Sh.right p[k]
   ·have HE := Lib.hid (Od.shape_bad_p (x := x) HQ.out fun q => all_bad hlt hrr q.1)
    rw [hrr] at hcall
    have Hcall := Lib.hid hcall
    have HI1 := Lib.hid hI1
    clear hcall hI1
    clear hrr
    go_wp2_with fail
    refine (Hcall.out).mono ?_
    rintro e w2 ⟨rfl, h2⟩
    go_wp2_with fail
    go_ret2
    exact ShPost.fail HE.out (hbw.trans (h2.mono hbw.size))
   ·rw [hrr] at hcall
    have Hcall := Lib.hid hcall
    have HI1 := Lib.hid hI1
    have Hrr := Lib.hid hrr
    clear hcall hI1 hrr
    go_wp2_with fail
    refine (Hcall.out).mono ?_
    rintro e w2 ⟨rfl, h2⟩
    go_wp2_with fail
    go_roundw
    case rel => exact ⟨k + 1, by omega, by go_num, Hblk.out.below h2 Hblk.out.lt, hbw.trans (h2.mono hbw.size), fun j hj h => by
     by_cases e : j = k
     ·subst e; exact Hrr.out
     ·exact Hall.out j hj (by omega)⟩
    case measure => simp [intOf]; omega
  ·obtain rfl : k = p.length := by omega
   have HPA := Lib.hid (show p.all Sh.right = true by
    rw [List.all_eq_true]
    intro s hs
    obtain ⟨j, hj, rfl⟩ := List.getElem_of_mem hs
    exact Hall.out j hj hj)
   clear Hall
   go_wp2_with fail
   go_loopw [34] (fun i wx => ∃ k : Nat, k ≤ x.length ∧ i = .int .i64 k ∧ Blk wx w.heap.size 26 #[.int .i64 o.kind, .int .i64 o.k, .int .i64 o.width, .int .i64 o.step, .int .i64 o.side, .int .i64 o.frm, .int .i64 o.to, .slice S o.s.length c] ∧ Below w.heap.size w wx ∧ ∀ j (h : j < x.length), j < k → Sh.right x[j] = true) (fun i _ => x.length - (intOf i).toNat)
   case atStart => exact ⟨0, Nat.zero_le _, rfl, Hblk.out, hbw, fun j _ h => by omega⟩
   case round =>
    obtain ⟨k, hk, rfl, hblx, hbx, hall⟩ := hrel
    have Hblx := Lib.hid hblx
    have Hall := Lib.hid hall
    clear hblx hall
    clear Hblk hbw
    by_cases hlt : k < x.length
    ·obtain ⟨b, off, S1, d1, rfl, y1, hI1, l1, l2, l3⟩ := (HX.out.below hbx (Nat.le_refl _)).at_ hlt
     have hcall := shape_right S1 d1 x[k] wr (by omega) hI1
     cases hrr : Sh.right x[k]
     ·have HE := Lib.hid (Od.shape_bad_p (p := p) HQ.out fun q => all_bad hlt hrr q.2)
      rw [hrr] at hcall
      have Hcall := Lib.hid hcall
      have HI1 := Lib.hid hI1
      clear hcall hI1
      clear hrr
      go_wp2_with fail
      refine (Hcall.out).mono ?_
      rintro e w2 ⟨rfl, h2⟩
      go_wp2_with fail
      go_ret2
      exact ShPost.fail HE.out (hbx.trans (h2.mono hbx.size))
     ·rw [hrr] at hcall
      have Hcall := Lib.hid hcall
      have HI1 := Lib.hid hI1
      have Hrr := Lib.hid hrr
      clear hcall hI1 hrr
      go_wp2_with fail
      refine (Hcall.out).mono ?_
      rintro e w2 ⟨rfl, h2⟩
      go_wp2_with fail
      go_roundw
      case rel => exact ⟨k + 1, by omega, by go_num, Hblx.out.below h2 Hblx.out.lt, hbx.trans (h2.mono hbx.size), fun j hj h => by
       by_cases e : j = k
       ·subst e; exact Hrr.out
       ·exact Hall.out j hj (by omega)⟩
      case measure => simp [intOf]; omega
    ·obtain rfl : k = x.length := by omega
     have hgo := Od.shape_go HQ.out HPA.out (show x.all Sh.right = true by
      rw [List.all_eq_true]
      intro s hs
      obtain ⟨j, hj, rfl⟩ := List.getElem_of_mem hs
      exact Hall.out j hj hj)
     clear Hall HPA
     obtain ⟨q1, q2, q3, q4⟩ := Od.counts_ok HQ.out
     have hkind := Od.right_kind q1
     have hleast := Od.least_pos q1
     have hpar : Od.params o = if o.kind = 8 then 2 else if o.kind = 9 ∨ o.kind = 10 then 1 else 0 := by unfold Od.params; rw [if_pos q1]
     have hx0 : 0 < x.length := by omega
     obtain ⟨b, off, S1, d1, rfl, y1, hI1, l1, l2, l3⟩ := (HX.out.below hbx (Nat.le_refl _)).at_ hx0
     obtain ⟨x0, x1, x2, x3, x4, x5, x6, x7⟩ := op_cells Hblx.out
     rw [Nat.add_zero] at y1
     have f0 : (0 : Int) < x.length := by omega
     by_cases k8 : o.kind = 8
     ·have hidk := Lib.hid k8
      have hp2 : p.length = 2 := by simp only [hpar] at q4; split at q4 <;> omega
      have hp0 : 0 < p.length := by omega
      have g0 : (0 : Int) < p.length := by omega
      have hp1 : 1 < p.length := by omega
      have g1 : (1 : Int) < p.length := by omega
      obtain ⟨b', off', S2, d2, S3, d3, rfl, y2, y3, hI2, hI3, m3, n3⟩ := (HP.out.below hbx (Nat.le_refl _)).two hp1
      have HE := Lib.hid (show Od.shape o p x = Od.dense p[0] p[1] x[0] by rw [hgo]; unfold Od.byKind; rw [if_pos k8, gets_at hp0, gets_at hp1, gets_at hx0])
      have hself : Below wr.heap.size wr wr.drew := (Below.refl _ _).drew
      have hkeep : ∀ W, Below wr.heap.size wr W → W.cell? ⟨b', off', none⟩ = some (.slice S2 p[0].length d2) ∧ W.cell? ⟨b', off' + 1, none⟩ = some (.slice S3 p[1].length d3) ∧ W.cell? ⟨b, off, none⟩ = some (.slice S1 x[0].length d1) := fun W hW => ⟨cell_below hW y2, cell_below hW y3, cell_below hW y1⟩
      have Hkeep := Lib.hid hkeep
      clear hkeep
      have HI1 := Lib.hid hI1
      have HI2 := Lib.hid hI2
      have HI3 := Lib.hid hI3
      clear hI1 hI2 hI3
      clear hgo hkind hleast q1 q2 q3 q4 hpar hp2
      skip
      all_goals
       rw [k8] at x0
       clear k8 hidk
       go_wp2_with fail
       go_region_held3 (fun W => W.cell? ⟨b', off', none⟩ = some (.slice S2 p[0].length d2) ∧ W.cell? ⟨b', off' + 1, none⟩ = some (.slice S3 p[1].length d3) ∧ W.cell? ⟨b, off, none⟩ = some (.slice S1 x[0].length d1)) (first | exact Hkeep.out _ hb5 | exact Hkeep.out _ hself)
        ((go_at_call 87; refine (op_dense S2 S3 S1 d2 d3 d1 p[0] p[1] x[0] _ l3 (HI2.out.below hself (Nat.le_refl _)) (HI3.out.below hself (Nat.le_refl _)) (HI1.out.below hself (Nat.le_refl _))).mono ?_; rintro e w3 ⟨S5, d5, rfl, hI5, r1, r2, hf5, hb5⟩; have hb5 := hself.trans hb5; have HI5 := Lib.hid hI5; clear hI5))
       all_goals
        go_wp2_with fail
        go_ret2
        exact ShPost.pass HE.out hbx HI5.out r1 r2 hf5 hb5
     by_cases k10 : o.kind = 10
     ·have hidk := Lib.hid k10
      have hpx : p.length = 1 := by simp only [hpar] at q4; split at q4 <;> omega
      have hp0 : 0 < p.length := by omega
      have g0 : (0 : Int) < p.length := by omega
      obtain ⟨b', off', S2, d2, rfl, y2, hI2, m1, m2, m3⟩ := (HP.out.below hbx (Nat.le_refl _)).at_ hp0
      rw [Nat.add_zero] at y2
      have HE := Lib.hid (show Od.shape o p x = Od.conv p[0] x[0] o.step by rw [hgo]; unfold Od.byKind; rw [if_neg (by omega), if_neg (by omega), if_pos k10, gets_at hp0, gets_at hx0])
      have hself : Below wr.heap.size wr wr.drew := (Below.refl _ _).drew
      have hkeep : ∀ W, Below wr.heap.size wr W → W.cell? ⟨b', off', none⟩ = some (.slice S2 p[0].length d2) ∧ W.cell? ⟨b, off, none⟩ = some (.slice S1 x[0].length d1) ∧ W.cell? ⟨w.heap.size, 3, none⟩ = some (.int .i64 o.step) := fun W hW => ⟨cell_below hW y2, cell_below hW y1, cell_below hW x3⟩
      have Hkeep := Lib.hid hkeep
      clear hkeep
      have HI1 := Lib.hid hI1
      have HI2 := Lib.hid hI2
      clear hI1 hI2
      clear hgo hkind hleast q1 q2 q3 q4 hpar hpx
      skip
      all_goals
       rw [k10] at x0
       clear k10 hidk
       go_wp2_with fail
       go_region_held3 (fun W => W.cell? ⟨b', off', none⟩ = some (.slice S2 p[0].length d2) ∧ W.cell? ⟨b, off, none⟩ = some (.slice S1 x[0].length d1) ∧ W.cell? ⟨w.heap.size, 3, none⟩ = some (.int .i64 o.step)) (first | exact Hkeep.out _ hb5 | exact Hkeep.out _ hself)
        ((go_at_call 56; refine (conv_shape S2 S1 d2 d1 p[0] x[0] o.step _ m3 l3 l1 l2 (HI2.out.below hself (Nat.le_refl _)) (HI1.out.below hself (Nat.le_refl _))).mono ?_; rintro e w3 ⟨S5, d5, rfl, hI5, r1, r2, hf5, hb5⟩; have hb5 := hself.trans hb5; have HI5 := Lib.hid hI5; clear hI5))
       all_goals
        go_wp2_with fail
        go_ret2
        exact ShPost.pass HE.out hbx HI5.out r1 r2 hf5 hb5
     by_cases k11 : o.kind = 11 ∨ o.kind = 12
     ·have hidk := Lib.hid k11
      have HE := Lib.hid (show Od.shape o p x = Od.pool x[0] o.width o.step by rw [hgo]; unfold Od.byKind; rw [if_neg (by omega), if_neg (by omega), if_neg (by omega), if_pos (by omega), gets_at hx0])
      have hself : Below wr.heap.size wr wr.drew := (Below.refl _ _).drew
      have hkeep : ∀ W, Below wr.heap.size wr W → W.cell? ⟨b, off, none⟩ = some (.slice S1 x[0].length d1) ∧ W.cell? ⟨w.heap.size, 2, none⟩ = some (.int .i64 o.width) ∧ W.cell? ⟨w.heap.size, 3, none⟩ = some (.int .i64 o.step) := fun W hW => ⟨cell_below hW y1, cell_below hW x2, cell_below hW x3⟩
      have Hkeep := Lib.hid hkeep
      clear hkeep
      have HI1 := Lib.hid hI1
      clear hI1
      clear hgo hkind hleast q1 q2 q3 q4 hpar
      rcases k11 with k11 | k11
      all_goals
       rw [k11] at x0
       clear k11 hidk
       go_wp2_with fail
       go_region_held3 (fun W => W.cell? ⟨b, off, none⟩ = some (.slice S1 x[0].length d1) ∧ W.cell? ⟨w.heap.size, 2, none⟩ = some (.int .i64 o.width) ∧ W.cell? ⟨w.heap.size, 3, none⟩ = some (.int .i64 o.step)) (first | exact Hkeep.out _ hb5 | exact Hkeep.out _ hself)
        ((go_at_call 89; refine (pool_shape S1 d1 x[0] o.width o.step _ l3 (HI1.out.below hself (Nat.le_refl _))).mono ?_; rintro e w3 ⟨S5, d5, rfl, hI5, r1, r2, hf5, hb5⟩; have hb5 := hself.trans hb5; have HI5 := Lib.hid hI5; clear hI5))
       all_goals
        go_wp2_with fail
        go_ret2
        exact ShPost.pass HE.out hbx HI5.out r1 r2 hf5 hb5
     by_cases k13 : o.kind = 13
     ·have hidk := Lib.hid k13
      have HE := Lib.hid (show Od.shape o p x = Od.joined o.side x by rw [hgo]; unfold Od.byKind; rw [if_neg (by omega), if_neg (by omega), if_neg (by omega), if_neg (by omega), if_pos (by omega)])
      have hself : Below wr.heap.size wr wr.drew := (Below.refl _ _).drew
      have HI1 := Lib.hid hI1
      clear hI1
      clear hgo hkind hleast q1 q2 q3 q4 hpar
      skip
      all_goals
       rw [k13] at x0
       clear k13 hidk
       go_wp2_with fail
       refine (op_joined _ f o.side x _ hx0 (HX.out.2.1) (HX.out.2.2.1) (HX.out.below hbx (Nat.le_refl _)).1 HX.out.2.2.2).mono ?_
       rintro e w3 ⟨S5, d5, rfl, hI5, r1, r2, hf5, hb5⟩
       have HI5 := Lib.hid hI5
       clear hI5
       go_wp2_with fail
       go_ret2
       exact ShPost.pass HE.out hbx HI5.out r1 r2 hf5 hb5
     by_cases k14 : o.kind = 14
     ·have hidk := Lib.hid k14
      have HE := Lib.hid (show Od.shape o p x = Od.cut x[0] o.side o.frm o.to by rw [hgo]; unfold Od.byKind; rw [if_neg (by omega), if_neg (by omega), if_neg (by omega), if_neg (by omega), if_neg (by omega), if_pos (by omega), gets_at hx0])
      have hself : Below wr.heap.size wr wr.drew := (Below.refl _ _).drew
      have hkeep : ∀ W, Below wr.heap.size wr W → W.cell? ⟨b, off, none⟩ = some (.slice S1 x[0].length d1) ∧ W.cell? ⟨w.heap.size, 4, none⟩ = some (.int .i64 o.side) ∧ W.cell? ⟨w.heap.size, 5, none⟩ = some (.int .i64 o.frm) ∧ W.cell? ⟨w.heap.size, 6, none⟩ = some (.int .i64 o.to) := fun W hW => ⟨cell_below hW y1, cell_below hW x4, cell_below hW x5, cell_below hW x6⟩
      have Hkeep := Lib.hid hkeep
      clear hkeep
      have HI1 := Lib.hid hI1
      clear hI1
      clear hgo hkind hleast q1 q2 q3 q4 hpar
      skip
      all_goals
       rw [k14] at x0
       clear k14 hidk
       go_wp2_with fail
       go_region_held3 (fun W => W.cell? ⟨b, off, none⟩ = some (.slice S1 x[0].length d1) ∧ W.cell? ⟨w.heap.size, 4, none⟩ = some (.int .i64 o.side) ∧ W.cell? ⟨w.heap.size, 5, none⟩ = some (.int .i64 o.frm) ∧ W.cell? ⟨w.heap.size, 6, none⟩ = some (.int .i64 o.to)) (first | exact Hkeep.out _ hb5 | exact Hkeep.out _ hself)
        ((go_at_call 65; refine (shape_cut S1 d1 x[0] o.side o.frm o.to _ l3 (HI1.out.below hself (Nat.le_refl _))).mono ?_; rintro e w3 ⟨S5, d5, rfl, hI5, r1, r2, hf5, hb5⟩; have hb5 := hself.trans hb5; have HI5 := Lib.hid hI5; clear hI5))
       all_goals
        go_wp2_with fail
        go_ret2
        exact ShPost.pass HE.out hbx HI5.out r1 r2 hf5 hb5
     by_cases k15 : o.kind = 15
     ·have hidk := Lib.hid k15
      have HE := Lib.hid (show Od.shape o p x = Od.turned x[0] o.s by rw [hgo]; unfold Od.byKind; rw [if_neg (by omega), if_neg (by omega), if_neg (by omega), if_neg (by omega), if_neg (by omega), if_neg (by omega), if_pos (by omega), gets_at hx0])
      have hself : Below wr.heap.size wr wr.drew := (Below.refl _ _).drew
      have hkeep : ∀ W, Below wr.heap.size wr W → W.cell? ⟨b, off, none⟩ = some (.slice S1 x[0].length d1) ∧ W.cell? ⟨w.heap.size, 7, none⟩ = some (.slice S o.s.length c) := fun W hW => ⟨cell_below hW y1, cell_below hW x7⟩
      have Hkeep := Lib.hid hkeep
      clear hkeep
      have HI1 := Lib.hid hI1
      clear hI1
      clear hgo hkind hleast q1 q2 q3 q4 hpar
      skip
      all_goals
       rw [k15] at x0
       clear k15 hidk
       go_wp2_with fail
       go_region_held3 (fun W => W.cell? ⟨b, off, none⟩ = some (.slice S1 x[0].length d1) ∧ W.cell? ⟨w.heap.size, 7, none⟩ = some (.slice S o.s.length c)) (first | exact Hkeep.out _ hb5 | exact Hkeep.out _ hself)
        ((go_at_call 91; refine (op_turned S1 S d1 c x[0] o.s _ l3 ho (HI1.out.below hself (Nat.le_refl _)) (HI.out.below (hbx.trans (hself.mono hbx.size)) (Nat.le_refl _))).mono ?_; rintro e w3 ⟨S5, d5, rfl, hI5, r1, r2, hf5, hb5⟩; have hb5 := hself.trans hb5; have HI5 := Lib.hid hI5; clear hI5))
       all_goals
        go_wp2_with fail
        go_ret2
        exact ShPost.pass HE.out hbx HI5.out r1 r2 hf5 hb5
     by_cases k9 : o.kind = 9
     ·have hpx : p.length = 1 := by simp only [hpar] at q4; split at q4 <;> omega
      have hp0 : 0 < p.length := by omega
      have g0 : (0 : Int) < p.length := by omega
      obtain ⟨b', off', S2, d2, rfl, y2, hI2, m1, m2, m3⟩ := (HP.out.below hbx (Nat.le_refl _)).at_ hp0
      rw [Nat.add_zero] at y2
      have HE := Lib.hid (show Od.shape o p x = Od.same [p[0], x[0]] by rw [hgo]; unfold Od.byKind; rw [if_neg (by omega), if_pos k9, gets_at hp0, gets_at hx0])
      have hself : Below wr.heap.size wr wr.drew := (Below.refl _ _).drew
      have hkeep : ∀ W, Below wr.heap.size wr W → W.cell? ⟨b', off', none⟩ = some (.slice S2 p[0].length d2) ∧ W.cell? ⟨b, off, none⟩ = some (.slice S1 x[0].length d1) := fun W hW => ⟨cell_below hW y2, cell_below hW y1⟩
      rw [k9] at x0
      have Hkeep := Lib.hid hkeep
      have HI1 := Lib.hid hI1
      have HI2 := Lib.hid hI2
      have Hk9 := Lib.hid k9
      clear hkeep hI1 hI2 k9
      clear hgo hkind hleast q1 q2 q3 q4 hpar hpx
      have hal : Below wr.heap.size wr (wr.drew.alloc (.cells #[.slice S2 p[0].length d2, .slice S1 x[0].length d1] 24)) := hself.alloc (Nat.le_refl _) _
      have hpair := pair_shps (t := 24) (HI2.out.below hself (Nat.le_refl _)) (HI1.out.below hself (Nat.le_refl _)) m1 m2 l1 l2
      have hsame := op_same (some ⟨wr.drew.heap.size, 0, none⟩) 2 [p[0], x[0]] _ (by simp) (by simp) (by omega) hpair (by simp [m3, l3])
      have Hpair := Lib.hid hpair
      have Hsame := Lib.hid hsame
      clear hpair hsame
      go_wp2_with fail
      go_region_held3 (fun W => W.cell? ⟨b', off', none⟩ = some (.slice S2 p[0].length d2) ∧ W.cell? ⟨b, off, none⟩ = some (.slice S1 x[0].length d1)) (first | exact Hkeep.out _ hb5 | exact Hkeep.out _ hal | exact Hkeep.out _ hself)
       ((go_at_call 88; refine (Hsame.out).mono ?_; rintro e w3 ⟨S5, d5, rfl, hI5, r1, r2, hf5, hb5⟩; have hb6 := hb5; have hb5 := hal.trans (hb5.mono hal.size); have HI5 := Lib.hid hI5; clear hI5))
      all_goals
       go_wp2_with fail
       go_ret2
       exact ShPost.pass HE.out (hbx.trans (hal.mono hbx.size)) HI5.out r1 r2 hf5 hb6
     have HE := Lib.hid (show Od.shape o p x = Od.same x by rw [hgo]; unfold Od.byKind; rw [if_neg (by omega), if_neg (by omega), if_neg (by omega), if_neg (by omega), if_neg (by omega), if_neg (by omega), if_neg (by omega)])
     have n8 : (o.kind == 8) = false := by simp; omega
     have n9 : (o.kind == 9) = false := by simp; omega
     have n10 : (o.kind == 10) = false := by simp; omega
     have n11 : (o.kind == 11) = false := by simp; omega
     have n12 : (o.kind == 12) = false := by simp; omega
     have n13 : (o.kind == 13) = false := by simp; omega
     have n14 : (o.kind == 14) = false := by simp; omega
     have n15 : (o.kind == 15) = false := by simp; omega
     clear hgo hkind hleast q1 q2 q3 q4 hpar hI1 k8 k9 k10 k11 k13 k14 k15
     go_wp2_with fail
     refine (op_same _ f x _ hx0 (HX.out.2.1) (HX.out.2.2.1) (HX.out.below hbx (Nat.le_refl _)).1 HX.out.2.2.2).mono ?_
     rintro e w3 ⟨S5, d5, rfl, hI5, r1, r2, hf5, hb5⟩
     have HI5 := Lib.hid hI5
     clear hI5
     go_wp2_with fail
     go_ret2
     exact ShPost.pass HE.out hbx HI5.out r1 r2 hf5 hb5
end Go.Proofs.YtbnnpkcfifejmaaGreat
namespace Go.Proofs.YtbnnpkcfifejmaaGreat
open Go.RowKit
namespace Ly
theorem prod_append (a b : List Int) : Safe.prod (a ++ b) = Safe.prod a * Safe.prod b := by
 induction a with
 | nil => simp [Safe.prod]
 | cons x r ih => simp only [List.cons_append, Safe.prod, ih, Int.mul_assoc]
def poolR (x : Ten) (width step : Int) : List Int × Int := if Tn.right x then Od.pool x.s width step else ([], 20)
theorem poolR_err (x : Ten) (width step : Int) : (poolR x width step).2 = poolErr x width step := by unfold poolR poolErr; split <;> rfl
theorem list_last {l : List Int} (h : 1 ≤ l.length) : ∃ r a, l = r ++ [a] := ⟨l.dropLast, l.getLast (by intro e; subst e; simp at h), (List.dropLast_concat_getLast _).symm⟩
theorem pool_facts {x : Ten} {width step : Int} (h : poolErr x width step = 0) :
  ∃ sd n wd st pre : Nat, lastOf x.s = sd ∧ x.s.getD (x.s.length - 1) 0 = (sd : Int) ∧ lastOf (poolS x width step) = n ∧ (poolS x width step).getD (x.s.length - 1) 0 = (n : Int) ∧ width = (wd : Int) ∧ step = (st : Int) ∧ 1 ≤ wd ∧ wd ≤ sd ∧ 1 ≤ st ∧ 1 ≤ n ∧ (n - 1) * st + wd ≤ sd ∧ x.c.length = pre * sd ∧ span (poolS x width step) = pre * n ∧ (poolS x width step).length = x.s.length ∧ 1 ≤ x.s.length ∧ x.s.length ≤ 4 ∧ Sh.right (poolS x width step) = true ∧ x.c.length ≤ 65536 ∧ pre * n ≤ 65536 ∧ sd ≤ 1024 ∧ n ≤ 1024 ∧ st ≤ 1024 ∧ poolR x width step = (poolS x width step, 0) ∧ (Safe.prod (poolS x width step)) = ((pre * n : Nat) : Int) := by
 unfold poolErr at h
 by_cases hr : Tn.right x = true
 case neg => rw [if_neg hr] at h; omega
 rw [if_pos hr] at h
 have hrr := hr
 simp only [Tn.right, Bool.and_eq_true, decide_eq_true_eq] at hr
 obtain ⟨_, l4, l1, hall, hp1, hp2⟩ := Sh.right_mul hr.1
 obtain ⟨r, a, hra⟩ := list_last l1
 have hR : poolR x width step = Od.pool x.s width step := by unfold poolR; rw [if_pos hrr]
 have hlen : x.s.length = r.length + 1 := by rw [hra]; simp
 have hlast : x.s.getD (x.s.length - 1) 0 = a := by rw [hlen, hra]; simp [List.getD_eq_getElem?_getD]
 have ha := hall a (by rw [hra]; simp)
 unfold Od.pool at h hR
 rw [if_pos hr.1] at h hR
 by_cases hw : (Od.window (x.s.getD (x.s.length - 1) 0) width step).2 = 0
 case neg => rw [if_neg hw] at h; simp at h
 rw [if_pos hw] at hR
 have hS : poolS x width step = x.s.set (x.s.length - 1) (Od.window (x.s.getD (x.s.length - 1) 0) width step).1 := by
  unfold poolS Od.pool
  rw [if_pos hr.1, if_pos hw]
 have hok := Od.window_ok hw
 have hset : poolS x width step = r ++ [(Od.window a width step).1] := by
  rw [hS, hlast, hlen, hra, Nat.add_sub_cancel]
  simp
 have hright : Sh.right (poolS x width step) = true := by
  rw [hS]
  have hi : x.s.length - 1 < x.s.length := by omega
  refine Od.right_set hr.1 hi hok.1 ?_
  have : x.s[x.s.length - 1] = x.s.getD (x.s.length - 1) 0 := by rw [List.getD_eq_getElem?_getD, List.getElem?_eq_getElem hi]; rfl
  rw [this]; exact hok.2
 rw [hlast] at hw hok
 generalize hv : (Od.window a width step).1 = v at *
 have hcond : Sh.side a ∧ Sh.side width ∧ Sh.side step ∧ width ≤ a ∧ v = 1 + (a - width).tdiv step := by
  unfold Od.window at hw hv
  split at hw
  ·rename_i hc
   rw [if_pos hc] at hv
   exact ⟨hc.1, hc.2.1, hc.2.2.1, hc.2.2.2, hv.symm⟩
  ·simp at hw
 obtain ⟨q1, q2, q3, q4, q5⟩ := hcond
 have q1 := (Sh.side_iff _).1 q1
 have q2 := (Sh.side_iff _).1 q2
 have q3 := (Sh.side_iff _).1 q3
 have hv1 : 1 ≤ v ∧ v ≤ a := hok
 have hpre : 1 ≤ Safe.prod r := Safe.prod_pos r (fun z hz => (hall z (by rw [hra]; simp [hz])).1)
 have ha2 : Safe.prod [a] = a := by simp [Safe.prod]
 have hv2 : Safe.prod [v] = v := by simp [Safe.prod]
 have hprod : Safe.prod x.s = Safe.prod r * a := by rw [hra, prod_append, ha2]
 have hprod2 : Safe.prod (poolS x width step) = Safe.prod r * v := by rw [hset, prod_append, hv2]
 obtain ⟨sd, rfl⟩ := Int.eq_ofNat_of_zero_le (show 0 ≤ a by omega)
 obtain ⟨n, rfl⟩ := Int.eq_ofNat_of_zero_le (show 0 ≤ v by omega)
 obtain ⟨wd, rfl⟩ := Int.eq_ofNat_of_zero_le (show 0 ≤ width by omega)
 obtain ⟨st, rfl⟩ := Int.eq_ofNat_of_zero_le (show 0 ≤ step by omega)
 obtain ⟨pre, hpe⟩ := Int.eq_ofNat_of_zero_le (show 0 ≤ Safe.prod r by omega)
 rw [hpe] at hprod hprod2 hpre
 rw [← Int.natCast_mul] at hprod hprod2
 have hns : (n - 1) * st + wd ≤ sd := by
  have h3 : (n : Int) - 1 = ((sd : Int) - (wd : Int)) / (st : Int) := by rw [q5, Int.tdiv_eq_ediv_of_nonneg (by omega)]; omega
  have h4 := Int.ediv_mul_le ((sd : Int) - (wd : Int)) (show (st : Int) ≠ 0 by omega)
  rw [← h3] at h4
  have h5 : (((n - 1) * st : Nat) : Int) = ((n : Int) - 1) * (st : Int) := by rw [Int.natCast_mul]; congr 1; omega
  omega
 have hpn : pre * n ≤ pre * sd := Nat.mul_le_mul_left _ (by omega)
 have hlast2 : (poolS x wd st).getD (x.s.length - 1) 0 = (n : Int) := by rw [hset, hlen, Nat.add_sub_cancel]; simp [List.getD_eq_getElem?_getD]
 have hlen2 : (poolS x wd st).length = x.s.length := by rw [hset, hlen]; simp
 refine ⟨sd, n, wd, st, pre, ?_, hlast, ?_, hlast2, rfl, rfl, by omega, by omega, by omega, by omega, hns, by omega, ?_, hlen2, l1, l4, hright, by omega, by omega, by omega, by omega, by omega, ?_, hprod2⟩
 ·show (x.s.getD (x.s.length - 1) 0).toNat = sd
  rw [hlast]; simp
 ·show ((poolS x wd st).getD ((poolS x wd st).length - 1) 0).toNat = n
  rw [hlen2, hlast2]; simp
 ·unfold span; rw [hprod2]; exact Int.toNat_natCast _
 ·rw [hS]; exact hR
theorem from_bd {sd n wd st pre i : Nat} (hn : 1 ≤ n) (hns : (n - 1) * st + wd ≤ sd) (hi : i < pre * n) : from_ sd n st i + wd ≤ pre * sd := by
 unfold from_
 have h1 : i / n < pre := by rw [Nat.div_lt_iff_lt_mul (by omega)]; exact hi
 have h2 : i % n ≤ n - 1 := by have := Nat.mod_lt i (show 0 < n by omega); omega
 have h3 : i % n * st ≤ (n - 1) * st := Nat.mul_le_mul_right _ h2
 have h4 : (i / n + 1) * sd ≤ pre * sd := Nat.mul_le_mul_right _ h1
 rw [Nat.succ_mul] at h4
 omega
end Ly
set_option maxHeartbeats 1000000 in
theorem pool_agree (kind : Int) (S C : Option Addr) (c d : Nat) (x : Ten) (width step : Int) (w : World) (hk : kind = 1 ∨ kind = 2) (hx : TenIn w S C c d x) :
  Calls Tryz.prog 58 #[.int .i64 kind, .agg #[.slice S x.s.length c, .slice C x.c.length d], .int .i64 width, .int .i64 step] w (ShPost (Ly.poolR x width step) w) := by
 have h01 : Later w (w.alloc (.cells #[.slice S x.s.length c, .slice C x.c.length d] 30)) := (Later.refl w).alloc _
 have hkb := Blk.new w 30 #[.slice S x.s.length c, .slice C x.c.length d]
 have l1 := hx.l1
 have l2 := hx.l2
 have H01 := Lib.hid h01
 have Hkb := Lib.hid hkb
 have Hx := Lib.hid hx
 clear h01 hkb hx
 rcases hk with rfl | rfl
 all_goals
  go_enter Tryz.func58, Tryz.ntmps58
  go_wp2_with fail
  generalize w.alloc (.cells #[.slice S x.s.length c, .slice C x.c.length d] 30) = w1 at *
  refine (tensor_right S C c d x w1 (by omega) (by omega) (Hx.out.later H01.out).r.1).mono ?_
  rintro e w2 ⟨rfl, hb2⟩
  have h12 : Later w1 w2 := hb2
  have hk2 := h12.blk Hkb.out
  have c0 := hk2.cell 0
  simp at c0
  have h02 := H01.out.trans h12
  clear hb2 h12
  cases hr : Tn.right x
  ·have HE := Lib.hid (show Ly.poolR x width step = ([], 20) by unfold Ly.poolR; rw [hr]; rfl)
   clear hr
   have H02 := Lib.hid h02
   have Hk2 := Lib.hid hk2
   clear h02 hk2
   go_wp2_with fail
   go_ret2
   exact ShPost.fail HE.out H02.out
  ·have HE := Lib.hid (show Ly.poolR x width step = Od.pool x.s width step by unfold Ly.poolR; rw [hr]; rfl)
   clear hr
   have H02 := Lib.hid h02
   have Hk2 := Lib.hid hk2
   clear h02 hk2
   go_wp2_with fail
   refine (pool_shape S c x.s width step w2 (by omega) (Hx.out.later H02.out).r.1).mono ?_
   rintro e w3 ⟨A, ac, rfl, hI, hc1, hc2, hf, hb⟩
   have HI := Lib.hid hI
   have HF := Lib.hid hf
   have HB := Lib.hid hb
   clear hI hf hb
   go_wp2_with fail
   go_ret2
   exact ShPost.pass HE.out H02.out HI.out hc1 hc2 HF.out HB.out
set_option maxHeartbeats 1000000 in
theorem pool_window (b off d len : Nat) (sd n wd st pre i : Nat) (w : World) (hd : len ≤ d) (hd2 : d ≤ 9223372036854775807) (hlen : len = pre * sd) (hl : len ≤ 65536) (hn : 1 ≤ n) (hw : 1 ≤ wd) (hns : (n - 1) * st + wd ≤ sd) (hi : i < pre * n) (hpn : pre * n ≤ 65536) (hst : st ≤ 1024) (hn2 : n ≤ 1024) :
  Calls Tryz.prog 59 #[.slice (some ⟨b, off, none⟩) len d, .int .i64 i, .int .i64 sd, .int .i64 n, .int .i64 wd, .int .i64 st] w fun e w' => e = .returned (.slice (some ⟨b, off + Ly.from_ sd n st i, none⟩) wd (d - Ly.from_ sd n st i)) ∧ ∃ q, w' = w.drewN q := by
 have hbd := Ly.from_bd hn hns hi
 rw [← hlen] at hbd
 have hf : Ly.from_ sd n st i = i / n * sd + i % n * st := rfl
 have q1 : i / n ≤ i := Nat.div_le_self _ _
 have q2 := Nat.mod_lt i (show 0 < n by omega)
 have e0 : (i : Int) / (n : Int) = ((i / n : Nat) : Int) := by simp
 have e1 : (i : Int) % (n : Int) = ((i % n : Nat) : Int) := by simp
 rw [hf] at hbd ⊢
 clear hf
 generalize i / n = q at *
 generalize i % n = r at *
 obtain ⟨a, ha⟩ : ∃ a, a = q * sd := ⟨_, rfl⟩
 obtain ⟨z, hz⟩ : ∃ z, z = r * st := ⟨_, rfl⟩
 rw [← ha, ← hz] at hbd ⊢
 have e2 : (q : Int) * (sd : Int) = (a : Int) := by rw [ha]; simp
 have e3 : (r : Int) * (st : Int) = (z : Int) := by rw [hz]; simp
 have k0 : (q : Int) ≤ 65536 := by omega
 have kr : (r : Int) ≤ 1024 := by omega
 have k1 : (0 : Int) ≤ (i : Int) := by omega
 have k2 : (1 : Int) ≤ (n : Int) := by omega
 have k3 : (0 : Int) ≤ (a : Int) + (z : Int) := by omega
 have k4 : (a : Int) + (z : Int) ≤ 131072 := by omega
 have ka : (a : Int) ≤ 65536 := by omega
 have kz : (z : Int) ≤ 65536 := by omega
 have k5 : (a : Int) + (z : Int) + (wd : Int) ≤ (d : Int) := by omega
 have k6 : (wd : Int) ≤ 65536 := by omega
 have k7 : a + z + wd ≤ d := by omega
 have k8 : a + z < d := by omega
 clear ha hz hlen hns hi hpn
 go_enter Tryz.func59, Tryz.ntmps59
 go_wp2_with fail
 go_quiet (fail)
 go_wp2_with fail
 rw [Nat.add_sub_cancel_left]
 go_ret
 exact ⟨rfl, nq, rfl⟩
theorem best_lt {l : List Int} : ∀ {k : Nat}, 1 ≤ k → 0 ≤ Ly.best l k ∧ Ly.best l k < k
 | 0, h => by omega
 | k + 1, _ => by
  unfold Ly.best
  split
  ·omega
  ·rename_i h
   by_cases hk : 1 ≤ k
   ·have := best_lt (l := l) hk
    omega
   ·have : k = 0 := by omega
    subst this
    exact absurd (.inl (show (-1 : Int) < 0 by decide)) h
set_option maxHeartbeats 1000000 in
theorem pool_best (A : Option Addr) (c : Nat) (l : List Int) (w : World) (hl : l.length ≤ 1048576) (hI : Ints .i64 w A l) :
  Calls Tryz.prog 60 #[.slice A l.length c] w fun e w' => e = .returned (.int .i64 (Ly.best l l.length)) ∧ w = w' := by
 have HI := Lib.hid hI
 clear hI
 go_enter Tryz.func60, Tryz.ntmps60
 go_wp2_with fail
 go_loop [3, 8] (fun s i => ∃ k : Nat, k ≤ l.length ∧ i = .int .i64 k ∧ s = .int .i64 (Ly.best l k)) (fun _ i => l.length - (intOf i).toNat)
 case atStart => exact ⟨0, Nat.zero_le _, rfl, rfl⟩
 case round =>
  obtain ⟨k, hk, rfl, rfl⟩ := hrel
  by_cases hlt : k < l.length
  ·obtain ⟨b, off, rfl, -, hc⟩ := HI.out k hlt
   rw [show l.getD k 0 = Ly.at_ l k from rfl] at hc
   by_cases hk0 : k = 0
   ·subst hk0
    have E := Lib.hid (show Ly.best l (0 + 1) = 0 by simp [Ly.best])
    rw [show Ly.best l 0 = -1 from rfl]
    simp only [Nat.add_zero] at hc
    go_wp2_with fail
    go_round
    case rel => exact ⟨0 + 1, by omega, by go_num, by rw [E.out]; rfl⟩
    case measure => simp [intOf]; omega
   ·have hb := best_lt (l := l) (show 1 ≤ k by omega)
    obtain ⟨m, hm⟩ : ∃ m : Nat, Ly.best l k = (m : Int) := ⟨_, (Int.toNat_of_nonneg hb.1).symm⟩
    have hstep : Ly.best l (k + 1) = if Ly.at_ l m < Ly.at_ l k then (k : Int) else (m : Int) := by
     unfold Ly.best
     rw [hm]
     by_cases h2 : Ly.at_ l m < Ly.at_ l k
     ·rw [if_pos (.inr (by simpa using h2)), if_pos h2]
     ·rw [if_neg (by simp only [Int.toNat_natCast]; omega), if_neg h2]
    have hml : m < l.length := by omega
    obtain ⟨b', off', e', -, hc'⟩ := HI.out m hml
    injection e' with e'; injection e' with e1 e2; subst e1 e2
    rw [show l.getD m 0 = Ly.at_ l m from rfl] at hc'
    have km : (m : Int) < (l.length : Int) := by omega
    have km0 : (0 : Int) ≤ (m : Int) := by omega
    rw [hm]
    generalize Ly.at_ l k = x at *
    generalize Ly.at_ l m = y at *
    have HS := Lib.hid hstep
    clear hstep hm hb
    by_cases hxy : y < x
    ·have E := Lib.hid (HS.out.trans (if_pos hxy))
     go_wp2_with fail
     go_round
     case rel => exact ⟨k + 1, by omega, by go_num, by rw [E.out]⟩
     case measure => simp [intOf]; omega
    ·have E := Lib.hid (HS.out.trans (if_neg hxy))
     go_wp2_with fail
     go_round
     case rel => exact ⟨k + 1, by omega, by go_num, by rw [E.out]⟩
     case measure => simp [intOf]; omega
  ·obtain rfl : k = l.length := by omega
   go_wp2_with fail
   go_ret
   exact ⟨rfl, rfl⟩
end Go.Proofs.YtbnnpkcfifejmaaGreat
namespace Go.Proofs.YtbnnpkcfifejmaaGreat
open Go.RowKit
namespace Ly
theorem pool_err {top : Bool} {x : Ten} {width step : Int} (h : poolErr x width step ≠ 0) : pool top x width step = (none_, poolErr x width step) := by unfold pool; rw [if_neg h]
theorem pool_ok {top : Bool} {x : Ten} {width step : Int} (h : poolErr x width step = 0) : pool top x width step = (⟨poolS x width step, tab (span (poolS x width step)) fun i => poolCell top (win x.c (lastOf x.s) (lastOf (poolS x width step)) width.toNat step.toNat i) width⟩, 0) := by unfold pool; rw [if_pos h]
theorem win_len {c : List Int} {sd n wd st i : Nat} (h : from_ sd n st i + wd ≤ c.length) : (win c sd n wd st i).length = wd := by unfold win; rw [List.length_take, List.length_drop]; omega
theorem win_in {c : List Int} {sd n wd st i : Nat} (h : ∀ z ∈ c, Fx.In z) : ∀ z ∈ win c sd n wd st i, Fx.In z := fun z hz => h z (List.mem_of_mem_drop (List.mem_of_mem_take hz))
theorem win_at {c : List Int} {sd n wd st i j : Nat} (hj : j < wd) : (win c sd n wd st i).getD j 0 = c.getD (from_ sd n st i + j) 0 := by
 unfold win
 simp only [List.getD_eq_getElem?_getD]
 rw [List.getElem?_take, if_pos hj, List.getElem?_drop]
theorem poolCell_in {top : Bool} {l : List Int} {width : Int} (h : ∀ z ∈ l, Fx.In z) : Fx.In (poolCell top l width) := by
 unfold poolCell
 split
 ·exact at_in h _
 ·exact Fx.div_in _ _
theorem poolCell_top (l : List Int) (width : Int) : poolCell true l width = at_ l (best l l.length).toNat := rfl
theorem poolCell_mean (l : List Int) (width : Int) : poolCell false l width = Fx.div (Fx.sum l) (width * 4294967296) := rfl
theorem zeros_len (n : Nat) : (zeros n).length = n := by simp [zeros]
end Ly
theorem TenIn.win {w : World} {S : Option Addr} {b off c d : Nat} {t : Ten} (h : TenIn w S (some ⟨b, off, none⟩) c d t) {sd n wd st i : Nat} (hb : Ly.from_ sd n st i + wd ≤ t.c.length) : Ints .i64 w (some ⟨b, off + Ly.from_ sd n st i, none⟩) (Ly.win t.c sd n wd st i) := Ints.of_row fun j hj => by
 rw [Ly.win_len hb] at hj
 obtain ⟨b', off', e, -, hcell⟩ := h.r.2 (Ly.from_ sd n st i + j) (by omega)
 injection e with e; injection e with e1 e2; subst e1 e2
 rw [Nat.add_assoc, hcell, Ly.win_at hj]
set_option maxHeartbeats 8000000 in
theorem pool_go (top : Bool) (kind : Int) (S C : Option Addr) (c d : Nat) (x : Ten) (width step : Int) (w : World) (hkt : (kind = 1 ∧ top = true) ∨ (kind = 2 ∧ top = false)) (hx : TenIn w S C c d x) :
  Calls Tryz.prog 97 #[.int .i64 kind, .agg #[.slice S x.s.length c, .slice C x.c.length d], .int .i64 width, .int .i64 step] w (GoP (Ly.pool top x width step) w) := by
 obtain ⟨hkx, hz, h01⟩ := two_boxes w 30 30 #[.slice S x.s.length c, .slice C x.c.length d] #[.slice none 0 0, .slice none 0 0]
 have Hkx := Lib.hid hkx
 have Hz := Lib.hid hz
 have H01 := Lib.hid h01
 have Hx := Lib.hid hx
 have Hkt := Lib.hid hkt
 clear hkx hz h01 hx hkt
 go_enter Tryz.func97, Tryz.ntmps97
 go_wp2_with fail
 generalize (w.alloc (.cells #[.slice S x.s.length c, .slice C x.c.length d] 30)).alloc (.cells #[.slice none 0 0, .slice none 0 0] 30) = w1 at *
 refine (pool_agree kind S C c d x width step w1 (by rcases Hkt.out with h | h <;> omega) (Hx.out.later H01.out)).mono ?_
 rintro e w2 ⟨A, ac, rfl, hI, hc1, hc2, hf, hb2⟩
 have h12 : Later w1 w2 := hb2
 have h02 := H01.out.trans h12
 have hz2 := h12.blk Hz.out
 have hkx2 := h12.blk Hkx.out
 clear hb2 Hz H01 Hkx h12 hf
 rw [Ly.poolR_err]
 by_cases hg : Ly.poolErr x width step = 0
 case neg =>
  have HE := Lib.hid (Ly.pool_err (top := top) hg)
  have d1 : (Ly.poolErr x width step == 0) = false := by simpa using hg
  have d2 : (Ly.poolErr x width step != 0) = true := by simpa using hg
  have Hg := Lib.hid hg
  clear hg
  generalize Ly.poolErr x width step = g at *
  generalize (Ly.poolR x width step).1.length = sl at *
  have c0 := hz2.cell 0
  have c1 := hz2.cell 1
  have f0 := hz2.frozen 0
  have f1 := hz2.frozen 1
  simp at c0 c1
  have H02 := Lib.hid h02
  have Hz2 := Lib.hid hz2
  have Hkx2 := Lib.hid hkx2
  have HI := Lib.hid hI
  clear h02 hz2 hkx2 hI
  go_wp2_with fail
  refine bodyPost_ret (v := .tuple #[.agg #[.slice none 0 0, .slice none 0 0], .int .i64 g]) (by simp [results, Tryz.results97, go_sem, c0, c1]) rfl ?_
  exact GoP.fail HE.out Hg.out ((H02.out.set (p := ⟨w.heap.size + 1, 0, none⟩) (by simp) _).set (p := ⟨w.heap.size + 1, 1, none⟩) (by simp) _)
 have HE := Lib.hid (Ly.pool_ok (top := top) hg)
 obtain ⟨sd, n, wd, st, pre, h1, h2, h3, h4, rfl, rfl, h5, h6, h7, h8, h9, h10, h11, h12, h13, h14, h15, h16, h17, h18, h19, h20, h21, h22⟩ := Ly.pool_facts hg
 rw [hg]
 rw [h21] at hI hc1 ⊢
 rw [h1, h3, h11, Int.toNat_natCast, Int.toNat_natCast] at HE
 generalize Ly.poolS x wd st = os at *
 generalize hR : (Ly.tab (pre * n) fun i => Ly.poolCell top (Ly.win x.c sd n wd st i) wd) = R at *
 have hRl : R.length = pre * n := by rw [← hR, Ly.tab_len]
 have hRg : ∀ i (hi : i < R.length), R[i] = Ly.poolCell top (Ly.win x.c sd n wd st i) wd := fun i hi => by subst hR; exact Ly.tab_get hi
 have hxin := Hx.out.num
 have hRin : ∀ z ∈ R, Fx.In z := by rw [← hR]; exact Ly.tab_in fun i _ => Ly.poolCell_in (Ly.win_in hxin)
 have hsp : (Safe.prod os).toNat = pre * n := by rw [h22]; exact Int.toNat_natCast _
 have hol : os.length ≤ 4 := by omega
 obtain ⟨bs, os', rfl, -, y0⟩ := (Hx.out.later h02).r.1 (x.s.length - 1) (by omega)
 obtain ⟨ba, oa, rfl, -, y1⟩ := hI (x.s.length - 1) (by show _ < os.length; omega)
 have HRl := Lib.hid hRl
 have Hsp := Lib.hid hsp
 have H10 := Lib.hid h10
 have H15 := Lib.hid h15
 have H2 := Lib.hid h2
 have H4 := Lib.hid h4
 have H12 := Lib.hid h12
 have y0 : w2.cell? ⟨bs, os' + (x.s.length - 1), none⟩ = some (.int .i64 sd) := by rw [y0, h2]
 have y1 : w2.cell? ⟨ba, oa + (x.s.length - 1), none⟩ = some (.int .i64 n) := by rw [y1]; exact congrArg (fun z => some (Value.int .i64 z)) h4
 have Y0 := Lib.hid y0
 have Y1 := Lib.hid y1
 clear hR hg h1 h2 h3 h4 h10 h11 h12 h15 h21 h22 hRl hsp y0 y1
 have H02 := Lib.hid h02
 have Hz2 := Lib.hid hz2
 have Hkx2 := Lib.hid hkx2
 have HRg := Lib.hid hRg
 have HRin := Lib.hid hRin
 have HI := Lib.hid hI
 have Hxin := Lib.hid hxin
 clear h02 hz2 hkx2 hRg hRin hI hxin
 go_wp2_with fail
 refine (tensor_make (some ⟨ba, oa, none⟩) ac os 0 w2 (by omega) HI.out).mono ?_
 rintro e w3 ⟨hmk, hb3⟩
 rcases hmk with ⟨hbad, -⟩ | ⟨-, v, rfl, g, h, rfl, hg, hh, hG, hH⟩
 ·exact absurd H15.out (by rw [hbad]; decide)
 have h23 : Later w2 w3 := hb3
 have hHb : Blk w3 h 22 ((Ly.zeros (pre * n)).map (Value.int .i64)).toArray := by have := hH; rw [Hsp.out] at this; exact this
 have hln : (List.replicate (Safe.prod os).toNat (0 : Int)).length = pre * n := by rw [Hsp.out, List.length_replicate]
 rw [show ((⟨os, List.replicate (Safe.prod os).toNat 0⟩ : Ten).c.length) = pre * n from hln]
 have h3a : Later w3 (w3.alloc (.cells #[.slice (some ⟨g, 0, none⟩) os.length os.length, .slice (some ⟨h, 0, none⟩) (pre * n) (pre * n)] 30)) := (Later.refl w3).alloc _
 have ho := Blk.new w3 30 #[.slice (some ⟨g, 0, none⟩) os.length os.length, .slice (some ⟨h, 0, none⟩) (pre * n) (pre * n)]
 have h24 := h23.trans h3a
 have h04 := H02.out.trans h24
 have hz4 := h24.blk Hz2.out
 have hkx4 := h24.blk Hkx2.out
 have hG4 := h3a.blk hG
 have hH4 := h3a.blk hHb
 have hs2 := H02.out.size
 have hs3 := h23.size
 have hhl := hHb.lt
 have hgl := hG.lt
 have hzl := Hz2.out.lt
 have hgne := rows_apart hG hHb
 have y0 := h24.cell Y0.out
 have y1 := h24.cell Y1.out
 clear hb3 Hz2 Hkx2 hG hH hHb hln Y0 Y1
 have Y0 := Lib.hid y0
 have Y1 := Lib.hid y1
 clear y0 y1
 have H23 := Lib.hid h23
 have H3a := Lib.hid h3a
 have Ho := Lib.hid ho
 have H24 := Lib.hid h24
 have H04 := Lib.hid h04
 have Hz4 := Lib.hid hz4
 have Hkx4 := Lib.hid hkx4
 have HG4 := Lib.hid hG4
 have HH4 := Lib.hid hH4
 clear h23 h3a ho h24 h04 hz4 hkx4 hG4 hH4
 go_upto_region 5 with fail
 generalize w3.alloc (.cells #[.slice (some ⟨g, 0, none⟩) os.length os.length, .slice (some ⟨h, 0, none⟩) (pre * n) (pre * n)] 30) = w4 at *
 generalize hpe : w3.heap.size = p at *
 have hph : h < p := by omega
 have hpz : w.heap.size + 1 < p := by omega
 have hhz : w.heap.size + 1 < h := by omega
 clear H3a H23 hpe
 rw [show (⟨os, List.replicate (Safe.prod os).toNat 0⟩ : Ten).s.length = os.length from rfl]
 rw [H12.out]
 go_upto_region 7 with fail
 have b0 : w4.cell? ⟨w.heap.size, 0, none⟩ = some (.slice (some ⟨bs, os', none⟩) x.s.length c) := by rw [Hkx4.out.cell]; rfl
 have y0 := Y0.out
 have y1 := Y1.out
 have e1 : IntKind.i64.wrap ((x.s.length : Int) - 1) = (x.s.length : Int) - 1 := IntWalk.i64_in _ (by omega)
 have e2 : (0 : Int) ≤ (x.s.length : Int) - 1 := by omega
 have e3 : (x.s.length : Int) - 1 < (x.s.length : Int) := by omega
 have e4 : ((x.s.length : Int) - 1).toNat = x.s.length - 1 := by omega
 clear Y0 Y1
 go_quiet (fail)
 clear e1 e2 e3 e4 b0 y0 y1
 have o1 : (w4.drewN nq).cell? ⟨p, 1, none⟩ = some (.slice (some ⟨h, 0, none⟩) (pre * n) (pre * n)) := by rw [(Ho.out.drewN nq).cell]; rfl
 have hI0 : Blk w4 h 22 ((R.take 0 ++ (Ly.zeros (pre * n)).drop 0).map (Value.int .i64)).toArray := by simpa using HH4.out
 have hxl4 : x.c.length ≤ d := Hx.out.c1
 have hd2 : d ≤ 9223372036854775807 := Hx.out.c2
 obtain ⟨N, hN⟩ : ∃ N, N = pre * n := ⟨_, rfl⟩
 have HNe := Lib.hid hN
 rw [← hN] at o1 h17 hI0 ⊢
 have hRlN : R.length = N := by rw [hN]; exact HRl.out
 have HRlN := Lib.hid hRlN
 have Hzl := Lib.hid (Ly.zeros_len N)
 have hoN : Blk w4 p 30 #[.slice (some ⟨g, 0, none⟩) os.length os.length, .slice (some ⟨h, 0, none⟩) N N] := by rw [hN]; exact Ho.out
 clear hN hRlN
 have HI0 := Lib.hid hI0
 have HoN := Lib.hid hoN
 clear hI0 hoN
 go_wp2_with fail
 clear o1
 go_loopw [54] (fun i wx => ∃ k : Nat, k ≤ N ∧ i = .int .i64 (k : Int) ∧ Blk wx h 22 ((R.take k ++ (Ly.zeros N).drop k).map (Value.int .i64)).toArray ∧ Blk wx p 30 #[.slice (some ⟨g, 0, none⟩) os.length os.length, .slice (some ⟨h, 0, none⟩) N N] ∧ Blk wx (w.heap.size + 1) 30 #[.slice none 0 0, .slice none 0 0] ∧ Blk wx w.heap.size 30 #[.slice (some ⟨bs, os', none⟩) x.s.length c, .slice C x.c.length d] ∧ Blk wx g 3 (os.map (Value.int .i64)).toArray ∧ Later w wx) (fun i _ => N - (intOf i).toNat)
 case atStart => exact ⟨0, Nat.zero_le _, rfl, HI0.out.drewN _, HoN.out.drewN _, Hz4.out.drewN _, Hkx4.out.drewN _, HG4.out.drewN _, H04.out.drewN _⟩
 case round =>
  obtain ⟨k, hk, rfl, hm, hox, hzx, hkx, hgx, hlw⟩ := hrel
  clear HI0 HoN
  by_cases hlt : k < N
  ·have hltR : k < R.length := by have := HRlN.out; omega
   have hkn : k < pre * n := by have := HNe.out; omega
   have hst := Ly.mid_step R (Ly.zeros N) hltR (HRlN.out.trans Hzl.out.symm)
   have hlen := Ly.mid_len R (Ly.zeros N) k (by omega) (HRlN.out.trans Hzl.out.symm)
   have hRk := HRg.out k hltR
   have hbd := Ly.from_bd (pre := pre) (sd := sd) h8 h9 hkn
   rw [← H10.out] at hbd
   have hwl := Ly.win_len (c := x.c) (sd := sd) (n := n) (wd := wd) (st := st) (i := k) hbd
   have hwi := Ly.win_in (sd := sd) (n := n) (wd := wd) (st := st) (i := k) Hxin.out
   obtain ⟨bc, oc, rfl, hbc, -⟩ := Hx.out.cell (k := 0) (by omega)
   have hWI := fun (V : World) (hV : Later wr V) => (Hx.out.later (hlw.trans hV)).win (sd := sd) (n := n) (st := st) (i := k) (wd := wd) hbd
   have hcw := fun (V : World) => pool_window bc oc d x.c.length sd n wd st pre k V hxl4 hd2 H10.out h16 h8 h5 h9 hkn (by have := HNe.out; omega) h20 h19
   rw [hRk] at hst
   have hyin : Fx.In (Ly.poolCell top (Ly.win x.c sd n wd st k) wd) := Ly.poolCell_in hwi
   have c0 : wr.cell? ⟨w.heap.size, 1, none⟩ = some (.slice (some ⟨bc, oc, none⟩) x.c.length d) := by rw [hkx.cell]; rfl
   have o1 : wr.cell? ⟨p, 1, none⟩ = some (.slice (some ⟨h, 0, none⟩) N N) := by rw [hox.cell]; rfl
   obtain ⟨u, hu⟩ : ∃ u, wr.cell? ⟨h, k, none⟩ = some u := ⟨_, hm.row_get (by rw [hlen]; exact hltR)⟩
   have hfd : Ly.from_ sd n st k + wd ≤ d := by omega
   generalize Ly.from_ sd n st k = fr at *
   generalize Ly.win x.c sd n wd st k = wn at *
   have kk1 : (k : Int) < (N : Int) := by omega
   have kk2 : (0 : Int) ≤ (k : Int) := by omega
   have HU := Lib.hid hu
   have HO1 := Lib.hid o1
   have HWL := Lib.hid hwl
   clear hlen hRk hltR hbd hu o1 hwl
   have Hm := Lib.hid hm
   have Hox := Lib.hid hox
   have Hzx := Lib.hid hzx
   have Hkx := Lib.hid hkx
   have Hgx := Lib.hid hgx
   have Hst := Lib.hid hst
   have Hcw := Lib.hid hcw
   have Hlw := Lib.hid hlw
   have HWI := Lib.hid hWI
   have Hwi := Lib.hid hwi
   have Hyin := Lib.hid hyin
   clear hm hox hzx hkx hgx hst hcw hlw hWI hwi hyin
   go_wp2_with fail
   refine (Hcw.out _).mono ?_
   rintro e wa ⟨rfl, q, rfl⟩
   have hlx : Later wr (wr.drewN q) := (Later.refl wr).drewN q
   have o1 := hlx.cell HO1.out
   have hu := hlx.cell HU.out
   have hWa := HWI.out _ hlx
   have fu := (hlx.blk Hm.out).frozen k
   have hmA := hlx.blk Hm.out
   have hoxA := hlx.blk Hox.out
   have hzxA := hlx.blk Hzx.out
   have hkxA := hlx.blk Hkx.out
   have hgxA := hlx.blk Hgx.out
   have hlwA := Hlw.out.trans hlx
   clear c0 hlx HO1 HU HWI Hm Hox Hzx Hkx Hgx Hlw
   generalize wr.drewN q = wq at *
   have HmA := Lib.hid hmA
   have HoxA := Lib.hid hoxA
   have HzxA := Lib.hid hzxA
   have HkxA := Lib.hid hkxA
   have HgxA := Lib.hid hgxA
   have HlwA := Lib.hid hlwA
   have HWa := Lib.hid hWa
   clear hmA hoxA hzxA hkxA hgxA hlwA hWa
   rcases Hkt.out with ⟨rfl, rfl⟩ | ⟨rfl, rfl⟩
   ·have hbl := best_lt (l := wn) (k := wn.length) (by have := HWL.out; omega)
    obtain ⟨m, hm⟩ : ∃ m : Nat, Ly.best wn wn.length = (m : Int) := ⟨_, (Int.toNat_of_nonneg hbl.1).symm⟩
    have hmw : m < wd := by have := HWL.out; omega
    have hcb := fun (V : World) (hV : Later wq V) => (show Calls Tryz.prog 60 #[.slice (some ⟨bc, oc + fr, none⟩) wd (d - fr)] V fun e w' => e = .returned (.int .i64 (m : Int)) ∧ V = w' from by
     have hd := pool_best (some ⟨bc, oc + fr, none⟩) (d - fr) wn V (by have := HWL.out; omega) (HWa.out.below hV (Nat.le_refl _))
     rw [hm, HWL.out] at hd
     exact hd)
    obtain ⟨bb, ob, e', -, yv⟩ := HWa.out m (by have := HWL.out; omega)
    injection e' with e'; injection e' with e1 e2; subst e1 e2
    have hst2 := Hst.out
    rw [Ly.poolCell_top, hm, Int.toNat_natCast] at hst2
    rw [show wn.getD m 0 = Ly.at_ wn m from rfl] at yv
    generalize Ly.at_ wn m = y at *
    have k3 : (m : Int) < (wd : Int) := by omega
    have k4 : (0 : Int) ≤ (m : Int) := by omega
    have Hst2 := Lib.hid hst2
    clear hst2 hm hbl
    have Hcb := Lib.hid hcb
    clear hcb
    go_wp2_with fail
    have KF := Lib.hid (show ∀ Xw, Later wq Xw → Xw.cell? ⟨p, 1, none⟩ = some (.slice (some ⟨h, 0, none⟩) N N) ∧ Xw.cell? ⟨bc, oc + fr + m, none⟩ = some (.int .i64 y) from fun Xw h => ⟨h.cell o1, h.cell yv⟩)
    refine wp_region_noPanic ?_
    refine wp_region_held_drew (S := fun Xw => Xw.cell? ⟨p, 1, none⟩ = some (.slice (some ⟨h, 0, none⟩) N N) ∧ Xw.cell? ⟨bc, oc + fr + m, none⟩ = some (.int .i64 y)) (by kernel_rfl) (KF.out _ Later.au) (fun hHeld => ?_)
    refine tk 0 ?_
    refine tk 1 ?_
    refine tk 2 ?_
    refine tk 3 ?_
    refine tk 4 ?_
    refine rd 5 fun K hK => ?_
    simp only [ga, gs, gz]
    go_simp
    go_at_call 60; (with_reducible refine (Hcb.out _ (Later.au : Later wq _)).mono ?_); rintro e wb ⟨rfl, rfl⟩
    try go_wp2_with fail
    refine hK.out _ _ (KF.out _ Later.au) (fun hHeld => ?_)
    clear hK K
    try simp only [ga, gs, gz, Act.put, sa, sz, ss]
    refine tk 6 ?_
    refine tk 7 ?_
    refine tk 8 ?_
    refine rd 9 fun K hK => ?_
    simp only [ga, gs, gz]
    go_simp
    refine hK.out _ _ ?_ (fun hHeld => ?_)
    ·(try dsimp only); (refine ⟨?_, ?_⟩ <;> (repeat (refine cell_setfar ?_ (by first | omega | (simp; done) | (simp; omega)))) <;> (refine Later.cell (Later.au : Later wq _) ?_) <;> assumption)
    clear hK K
    try simp only [ga, gs, gz, Act.put, sa, sz, ss]
    clear KF
    refine wpAnyH_done (by kernel_rfl) ?_ _
    refine NoPanic.normal ?_
    have hm2 : Blk (wq.drew.setCell ⟨h, k, none⟩ (.int .i64 y)) h 22 ((R.take (k + 1) ++ (Ly.zeros N).drop (k + 1)).map (Value.int .i64)).toArray := by
     have := (((Later.refl wq).drew).blk HmA.out).set_ k (.int .i64 y)
     rw [← Hst2.out, List.map_set]
     simpa using this
    have hox2 := (((Later.refl wq).drew).blk HoxA.out).far (p := ⟨h, k, none⟩) (by simp; omega) (.int .i64 y)
    have hzx2 := (((Later.refl wq).drew).blk HzxA.out).far (p := ⟨h, k, none⟩) (by simp; omega) (.int .i64 y)
    have hkx2 := (((Later.refl wq).drew).blk HkxA.out).far (p := ⟨h, k, none⟩) (by simp; omega) (.int .i64 y)
    have hgx2 : Blk (wq.drew.setCell ⟨h, k, none⟩ (.int .i64 y)) g 3 (os.map (Value.int .i64)).toArray := (((Later.refl wq).drew).blk HgxA.out).far (p := ⟨h, k, none⟩) hgne (.int .i64 y)
    have hlw2 := (HlwA.out.trans ((Later.refl wq).drew)).set (p := ⟨h, k, none⟩) (by simp; omega) (.int .i64 y)
    have Hm2 := Lib.hid hm2
    have Hox2 := Lib.hid hox2
    have Hzx2 := Lib.hid hzx2
    have Hkx2 := Lib.hid hkx2
    have Hgx2 := Lib.hid hgx2
    have Hlw2 := Lib.hid hlw2
    clear hm2 hox2 hzx2 hkx2 hgx2 hlw2
    go_wp2_with fail
    go_roundw
    case rel => exact ⟨k + 1, by omega, by go_num, Hm2.out, Hox2.out, Hzx2.out, Hkx2.out, Hgx2.out, Hlw2.out⟩
    case measure => simp [intOf]; omega
   ·have hsum := fun (V : World) (hV : Later wq V) => (show Calls Tryz.prog 143 #[.slice (some ⟨bc, oc + fr, none⟩) wd (d - fr)] V fun e w' => e = .returned (.int .i64 (Fx.sum wn)) ∧ V = w' from by
     have hd := fix_sum (some ⟨bc, oc + fr, none⟩) (d - fr) wn V (by have := HWL.out; omega) (HWa.out.below hV (Nat.le_refl _)) Hwi.out
     rw [HWL.out] at hd
     exact hd)
    have hint := fun (V : World) => fix_int (wd : Int) V (by omega) (by omega)
    have hwin : Fx.In ((wd : Int) * 4294967296) := by unfold Fx.In; omega
    have hdiv := fun (V : World) => fix_div (Fx.sum wn) ((wd : Int) * 4294967296) V (Fx.sum_in _) hwin
    have hst2 := Hst.out
    rw [Ly.poolCell_mean] at hst2
    generalize Fx.sum wn = sm at *
    generalize Fx.div sm ((wd : Int) * 4294967296) = y at *
    have Hst2 := Lib.hid hst2
    clear hst2 hwin
    have Hsum := Lib.hid hsum
    have Hint := Lib.hid hint
    have Hdiv := Lib.hid hdiv
    clear hsum hint hdiv
    go_wp2_with fail
    have KF := Lib.hid (show ∀ Xw, Later wq Xw → Xw.cell? ⟨p, 1, none⟩ = some (.slice (some ⟨h, 0, none⟩) N N) from fun Xw h => h.cell o1)
    refine wp_region_noPanic ?_
    refine wp_region_held_drew (S := fun Xw => Xw.cell? ⟨p, 1, none⟩ = some (.slice (some ⟨h, 0, none⟩) N N)) (by kernel_rfl) (KF.out _ Later.au) (fun hHeld => ?_)
    refine tk 0 ?_
    refine tk 1 ?_
    refine tk 2 ?_
    refine tk 3 ?_
    refine tk 5 ?_
    refine rd 4 fun K hK => ?_
    simp only [ga, gs, gz]
    go_simp
    go_at_call 143; (with_reducible refine (Hsum.out _ (Later.au : Later wq _)).mono ?_); rintro e wb ⟨rfl, rfl⟩
    try go_wp2_with fail
    refine hK.out _ _ (KF.out _ Later.au) (fun hHeld => ?_)
    clear hK K
    try simp only [ga, gs, gz, Act.put, sa, sz, ss]
    refine rd 6 fun K hK => ?_
    simp only [ga, gs, gz]
    go_simp
    go_at_call 62; (with_reducible refine (Hint.out _).mono ?_); rintro e wb2 ⟨rfl, rfl⟩
    try go_wp2_with fail
    refine hK.out _ _ (KF.out _ Later.au) (fun hHeld => ?_)
    clear hK K
    try simp only [ga, gs, gz, Act.put, sa, sz, ss]
    refine rd 7 fun K hK => ?_
    simp only [ga, gs, gz]
    go_simp
    go_at_call 61; (with_reducible refine (Hdiv.out _).mono ?_); rintro e wc ⟨rfl, qd, rfl⟩; have hu := Later.cell (Later.au : Later wq (wq.drew.drewN qd)) hu; have fu := (Later.blk (Later.au : Later wq (wq.drew.drewN qd)) HmA.out).frozen k
    try go_wp2_with fail
    refine hK.out _ _ (KF.out _ Later.au) (fun hHeld => ?_)
    clear hK K
    try simp only [ga, gs, gz, Act.put, sa, sz, ss]
    refine tk 8 ?_
    refine rd 9 fun K hK => ?_
    simp only [ga, gs, gz]
    go_simp
    refine hK.out _ _ ?_ (fun hHeld => ?_)
    ·(try dsimp only); ((repeat (refine cell_setfar ?_ (by first | omega | (simp; done) | (simp; omega)))) <;> (refine Later.cell (Later.au : Later wq _) ?_) <;> assumption)
    clear hK K
    try simp only [ga, gs, gz, Act.put, sa, sz, ss]
    clear KF
    refine wpAnyH_done (by kernel_rfl) ?_ _
    refine NoPanic.normal ?_
    have hm2 : Blk ((wq.drewN (1 + qd)).setCell ⟨h, k, none⟩ (.int .i64 y)) h 22 ((R.take (k + 1) ++ (Ly.zeros N).drop (k + 1)).map (Value.int .i64)).toArray := by
     have := (((Later.refl wq).drewN (1 + qd)).blk HmA.out).set_ k (.int .i64 y)
     rw [← Hst2.out, List.map_set]
     simpa using this
    have hox2 := (((Later.refl wq).drewN (1 + qd)).blk HoxA.out).far (p := ⟨h, k, none⟩) (by simp; omega) (.int .i64 y)
    have hzx2 := (((Later.refl wq).drewN (1 + qd)).blk HzxA.out).far (p := ⟨h, k, none⟩) (by simp; omega) (.int .i64 y)
    have hkx2 := (((Later.refl wq).drewN (1 + qd)).blk HkxA.out).far (p := ⟨h, k, none⟩) (by simp; omega) (.int .i64 y)
    have hgx2 : Blk ((wq.drewN (1 + qd)).setCell ⟨h, k, none⟩ (.int .i64 y)) g 3 (os.map (Value.int .i64)).toArray := (((Later.refl wq).drewN (1 + qd)).blk HgxA.out).far (p := ⟨h, k, none⟩) hgne (.int .i64 y)
    have hlw2 := (HlwA.out.trans ((Later.refl wq).drewN (1 + qd))).set (p := ⟨h, k, none⟩) (by simp; omega) (.int .i64 y)
    have Hm2 := Lib.hid hm2
    have Hox2 := Lib.hid hox2
    have Hzx2 := Lib.hid hzx2
    have Hkx2 := Lib.hid hkx2
    have Hgx2 := Lib.hid hgx2
    have Hlw2 := Lib.hid hlw2
    clear hm2 hox2 hzx2 hkx2 hgx2 hlw2
    go_wp2_with fail
    go_roundw
    case rel => exact ⟨k + 1, by omega, by go_num, Hm2.out, Hox2.out, Hzx2.out, Hkx2.out, Hgx2.out, Hlw2.out⟩
    case measure => simp [intOf]; omega
  ·obtain rfl : k = N := by omega
   rw [Ly.mid_end R (Ly.zeros k) k HRlN.out.symm (HRlN.out.trans Hzl.out.symm)] at hm
   have o0 : wr.cell? ⟨p, 0, none⟩ = some (.slice (some ⟨g, 0, none⟩) os.length os.length) := by rw [hox.cell]; rfl
   have o1 : wr.cell? ⟨p, 1, none⟩ = some (.slice (some ⟨h, 0, none⟩) k k) := by rw [hox.cell]; rfl
   have c0 := hzx.cell 0
   have c1 := hzx.cell 1
   have f0 := hzx.frozen 0
   have f1 := hzx.frozen 1
   simp at c0 c1
   have hz3 := (hzx.set_ 0 (.slice (some ⟨g, 0, none⟩) os.length os.length)).set_ 1 (.slice (some ⟨h, 0, none⟩) k k)
   have d0 := hz3.cell 0
   have d1 := hz3.cell 1
   simp at d0 d1
   have hgz : g ≠ w.heap.size + 1 := by omega
   have hhz : h ≠ w.heap.size + 1 := by omega
   have Hm := Lib.hid hm
   have Hox := Lib.hid hox
   have Hzx := Lib.hid hzx
   have Hkx := Lib.hid hkx
   have Hgx := Lib.hid hgx
   have Hlw := Lib.hid hlw
   have Hz3 := Lib.hid hz3
   clear hm hox hzx hkx hgx hlw hz3
   go_wp2_with fail
   refine bodyPost_ret (v := .tuple #[.agg #[.slice (some ⟨g, 0, none⟩) os.length os.length, .slice (some ⟨h, 0, none⟩) k k], .int .i64 0]) (by simp [results, Tryz.results97, go_sem, d0, d1]) rfl ?_
   refine GoP.ok HE.out (TenN.o ⟨g, h, by simp [HRlN.out], by omega, by omega, (Hgx.out.far (p := ⟨w.heap.size + 1, 0, none⟩) hgz _).far (p := ⟨w.heap.size + 1, 1, none⟩) hgz _, (Hm.out.far (p := ⟨w.heap.size + 1, 0, none⟩) hhz _).far (p := ⟨w.heap.size + 1, 1, none⟩) hhz _⟩ (by show os.length ≤ _; omega) (by have := HRlN.out; show R.length ≤ _; omega) HRin.out) ((Hlw.out.set (p := ⟨w.heap.size + 1, 0, none⟩) (by simp) _).set (p := ⟨w.heap.size + 1, 1, none⟩) (by simp) _)
end Go.Proofs.YtbnnpkcfifejmaaGreat
namespace Go.Proofs.YtbnnpkcfifejmaaGreat
open Go.RowKit
theorem TenIn.val {w : World} {S C : Option Addr} {c d : Nat} {t : Ten} (h : TenIn w S C c d t) (hr : Tn.right t = true) : t.s.length ≤ 4 ∧ t.c.length ≤ 65536 := Ly.right_ok hr
theorem of_gop {t : Ten} {w w' : World} {e : Ending} (h : OfP t w e w') (hn : Ly.In t) : GoP (Ly.of_ t.s t.c) w e w' := by
 obtain ⟨h1, h2⟩ := h
 refine ⟨?_, h2⟩
 rcases h1 with ⟨h3, rfl⟩ | ⟨h3, v, rfl, h4⟩
 ·left
  have : Ly.of_ t.s t.c = (Ly.none_, 20) := by unfold Ly.of_; rw [show (⟨t.s, t.c⟩ : Ten) = t from rfl, if_neg (by rw [h3]; simp)]
  rw [this]
  exact ⟨by decide, rfl⟩
 ·right
  have : Ly.of_ t.s t.c = (t, 0) := by unfold Ly.of_; rw [show (⟨t.s, t.c⟩ : Ten) = t from rfl, if_pos h3]
  rw [this]
  obtain ⟨q1, q2⟩ := Ly.right_ok h3
  exact ⟨rfl, v, rfl, h4.o (by omega) (by omega) hn⟩
set_option maxHeartbeats 2000000 in
theorem move_turn (S C A : Option Addr) (c d ac : Nat) (x : Ten) (s : List Int) (w : World) (hx : TenIn w S C c d x) (hA : Ints .i64 w A s) (hs : s.length ≤ 1048576) :
  Calls Tryz.prog 100 #[.agg #[.slice S x.s.length c, .slice C x.c.length d], .slice A s.length ac] w (GoP (Ly.turn x s) w) := by
 obtain ⟨hkx, hz, h01⟩ := two_boxes w 30 30 #[.slice S x.s.length c, .slice C x.c.length d] #[.slice none 0 0, .slice none 0 0]
 have l1 := hx.l1
 have l2 := hx.l2
 have Hkx := Lib.hid hkx
 have Hz := Lib.hid hz
 have H01 := Lib.hid h01
 have Hx := Lib.hid hx
 have HA := Lib.hid hA
 clear hkx hz h01 hx hA
 go_enter Tryz.func100, Tryz.ntmps100
 go_wp2_with fail
 generalize (w.alloc (.cells #[.slice S x.s.length c, .slice C x.c.length d] 30)).alloc (.cells #[.slice none 0 0, .slice none 0 0] 30) = w1 at *
 refine (tensor_right S C c d x w1 (by omega) (by omega) (Hx.out.later H01.out).r.1).mono ?_
 rintro e w2 ⟨rfl, hb2⟩
 have h12 : Later w1 w2 := hb2
 have h02 := H01.out.trans h12
 have hz2 := h12.blk Hz.out
 have hkx2 := h12.blk Hkx.out
 clear hb2 Hz H01 Hkx h12
 cases hr : Tn.right x
 ·have HE := Lib.hid (show Ly.turn x s = (Ly.none_, 20) by unfold Ly.turn; rw [hr]; rfl)
  clear hr
  have c0 := hz2.cell 0
  have c1 := hz2.cell 1
  have f0 := hz2.frozen 0
  have f1 := hz2.frozen 1
  simp at c0 c1
  have H02 := Lib.hid h02
  have Hz2 := Lib.hid hz2
  have Hkx2 := Lib.hid hkx2
  clear h02 hz2 hkx2
  go_wp2_with fail
  refine bodyPost_ret (v := .tuple #[.agg #[.slice none 0 0, .slice none 0 0], .int .i64 20]) (by simp [results, Tryz.results100, go_sem, c0, c1]) rfl ?_
  exact GoP.fail HE.out (by decide) ((H02.out.set (p := ⟨w.heap.size + 1, 0, none⟩) (by simp) _).set (p := ⟨w.heap.size + 1, 1, none⟩) (by simp) _)
 ·have HE := Lib.hid (show Ly.turn x s = Ly.of_ s x.c by unfold Ly.turn; rw [hr]; rfl)
  clear hr
  have x1 := hkx2.cell 1
  simp at x1
  have hn := Hx.out.num
  have hTA : TenR w2 A C ⟨s, x.c⟩ := ⟨HA.out.below h02 (Nat.le_refl _), (Hx.out.later h02).r.2⟩
  have hcall := (tensor_of A C ac d ⟨s, x.c⟩ w2 hs l2 hTA).mono (fun e w' h => of_gop h hn)
  rw [← show Ly.turn x s = Ly.of_ s x.c from HE.out] at hcall
  have Hz2 := Lib.hid hz2
  have Hkx2 := Lib.hid hkx2
  have H02 := Lib.hid h02
  have Hcall := Lib.hid hcall
  clear hz2 hkx2 h02 hcall hTA hn
  go_wp2_with fail
  clear x1
  refine (Hcall.out).mono ?_
  rintro e wf hgo
  have hlf : Later w2 wf := hgo.2
  have hzf := hlf.blk Hz2.out
  have h0f := H02.out.trans hlf
  have f0 := hzf.frozen 0
  have f1 := hzf.frozen 1
  have hpz : w.heap.size ≤ w.heap.size + 1 := by first | exact Nat.le_refl _ | simp | omega
  rcases hgo.1 with ⟨hne, rfl⟩ | ⟨hn0, v, rfl, hten⟩
  ·have c0 := hzf.cell 0
   have c1 := hzf.cell 1
   simp at c0 c1
   have Hne0 := hne
   generalize hge : (Ly.turn x s).2 = ge at *
   have Hge := Lib.hid hge
   have Hne := Lib.hid Hne0
   clear Hne0
   clear hgo hne hlf hge
   have HZf := Lib.hid hzf
   have HLf := Lib.hid h0f
   clear hzf h0f
   go_wp2_with fail
   refine bodyPost_ret (v := .tuple #[.agg #[.slice none 0 0, .slice none 0 0], .int .i64 ge]) (by simp [results, Tryz.results100, go_sem, c0, c1]) rfl ?_
   exact GoP.fail2 Hge.out Hne.out ((HLf.out.set (p := ⟨w.heap.size + 1, 0, none⟩) hpz _).set (p := ⟨w.heap.size + 1, 1, none⟩) hpz _)
  ·have hto := hten.base (H02.out.size)
   clear hgo hten
   obtain ⟨S2, c2, C2, d2, rfl, hti, hs2, hc2⟩ := hto
   have hz3 := (hzf.set_ 0 (.slice S2 (Ly.turn x s).1.s.length c2)).set_ 1 (.slice C2 (Ly.turn x s).1.c.length d2)
   have d0 := hz3.cell 0
   have d1 := hz3.cell 1
   simp at d0 d1
   have c0 := hzf.cell 0
   have c1 := hzf.cell 1
   simp at c0 c1
   have Hn0 := Lib.hid hn0
   have HZ3 := Lib.hid hz3
   have HZf := Lib.hid hzf
   have HLf := Lib.hid h0f
   have HLF := Lib.hid hlf
   have HTI := Lib.hid hti
   have HS2 := Lib.hid hs2
   have HC2 := Lib.hid hc2
   clear hz3 hzf h0f hlf hti hs2 hc2 hn0
   go_wp2_with fail
   refine bodyPost_ret (v := .tuple #[.agg #[.slice S2 (Ly.turn x s).1.s.length c2, .slice C2 (Ly.turn x s).1.c.length d2], .int .i64 0]) (by simp [results, Tryz.results100, go_sem, d0, d1]) rfl ?_
   exact ⟨.inr ⟨Hn0.out, _, rfl, TenO.box ⟨S2, c2, C2, d2, rfl, HTI.out, HS2.out, HC2.out⟩ HZf.out⟩, (HLf.out.set (p := ⟨w.heap.size + 1, 0, none⟩) hpz _).set (p := ⟨w.heap.size + 1, 1, none⟩) hpz _⟩
end Go.Proofs.YtbnnpkcfifejmaaGreat
namespace Go.Proofs.YtbnnpkcfifejmaaGreat
open Go.RowKit
namespace Ly
theorem cut_facts {x : Ten} {sd frm til : Int} (hr : Tn.right x = true) (h : (Od.cut x.s sd frm til).2 = 0) :
  ∃ k S f t inner pre : Nat, sd = (k : Int) ∧ frm = (f : Int) ∧ til = (t : Int) ∧ k < x.s.length ∧ x.s.getD k 0 = (S : Int) ∧ f < t ∧ t ≤ S ∧ S ≤ 1024 ∧ 1 ≤ inner ∧ 1 ≤ pre ∧ (Od.cut x.s sd frm til).1 = x.s.set k ((t - f : Nat) : Int) ∧ Safe.prod ((x.s.set k ((t - f : Nat) : Int)).drop (k + 1)) = (inner : Int) ∧ Safe.prod (x.s.set k ((t - f : Nat) : Int)) = ((pre * ((t - f) * inner) : Nat) : Int) ∧ x.c.length = pre * (S * inner) ∧ x.c.length ≤ 65536 ∧ x.s.length ≤ 4 ∧ (∀ z ∈ x.s.set k ((t - f : Nat) : Int), 1 ≤ z ∧ z ≤ 1024) := by
 simp only [Tn.right, Bool.and_eq_true, decide_eq_true_eq] at hr
 obtain ⟨_, l4, l1, hall, hp1, hp2⟩ := Sh.right_mul hr.1
 unfold Od.cut at h ⊢
 rw [if_pos hr.1] at h ⊢
 by_cases hc : (Od.inR sd x.s && decide (0 ≤ frm ∧ til ≤ Od.at_ x.s sd ∧ frm < til)) = true
 case neg => rw [if_neg hc] at h; simp at h
 rw [if_pos hc]
 simp only [Od.inR, Bool.and_eq_true, decide_eq_true_eq] at hc
 obtain ⟨⟨h1, h2⟩, h3, h4, h5⟩ := hc
 obtain ⟨k, rfl⟩ := Int.eq_ofNat_of_zero_le h1
 obtain ⟨f, rfl⟩ := Int.eq_ofNat_of_zero_le h3
 obtain ⟨t, rfl⟩ := Int.eq_ofNat_of_zero_le (show 0 ≤ til by omega)
 have hk : k < x.s.length := by omega
 have hat : Od.at_ x.s (k : Int) = x.s[k] := by unfold Od.at_; rw [Int.toNat_natCast, List.getD_eq_getElem?_getD, List.getElem?_eq_getElem hk]; rfl
 have hkb := hall _ (List.getElem_mem hk)
 rw [hat] at h4
 obtain ⟨S, hS⟩ := Int.eq_ofNat_of_zero_le (show 0 ≤ x.s[k] by omega)
 have hsplit : x.s = x.s.take k ++ (x.s[k] :: x.s.drop (k + 1)) := by rw [← List.drop_eq_getElem_cons hk, List.take_append_drop]
 have hset : ∀ v : Int, x.s.set k v = x.s.take k ++ (v :: x.s.drop (k + 1)) := fun v => by rw [List.set_eq_take_append_cons_drop, if_pos hk]
 have hpre : 1 ≤ Safe.prod (x.s.take k) := Safe.prod_pos _ (fun z hz => (hall z (List.mem_of_mem_take hz)).1)
 have hin : 1 ≤ Safe.prod (x.s.drop (k + 1)) := Safe.prod_pos _ (fun z hz => (hall z (List.mem_of_mem_drop hz)).1)
 obtain ⟨pre, hpe⟩ := Int.eq_ofNat_of_zero_le (show 0 ≤ Safe.prod (x.s.take k) by omega)
 obtain ⟨inner, hie⟩ := Int.eq_ofNat_of_zero_le (show 0 ≤ Safe.prod (x.s.drop (k + 1)) by omega)
 have hpr : ∀ v : Int, Safe.prod (x.s.set k v) = (pre : Int) * (v * (inner : Int)) := fun v => by rw [hset, prod_append, hpe]; simp only [Safe.prod, hie]
 have hsub : (t : Int) - (f : Int) = ((t - f : Nat) : Int) := by omega
 have hx : Safe.prod x.s = (pre : Int) * ((S : Int) * (inner : Int)) := by
  have h7 := hpr x.s[k]
  rw [List.set_getElem_self, hS] at h7
  exact h7
 refine ⟨k, S, f, t, inner, pre, rfl, rfl, rfl, hk, ?_, by omega, by omega, by omega, by omega, by omega, ?_, ?_, ?_, ?_, by omega, l4, ?_⟩
 ·rw [List.getD_eq_getElem?_getD, List.getElem?_eq_getElem hk]; exact hS
 ·rw [Int.toNat_natCast, hsub]
 ·rw [List.drop_set_of_lt (by omega)]; exact hie
 ·rw [hpr, Int.natCast_mul, Int.natCast_mul]
 ·have : ((pre * (S * inner) : Nat) : Int) = Safe.prod x.s := by rw [hx, Int.natCast_mul, Int.natCast_mul]
  omega
 ·intro z hz
  rcases List.mem_or_eq_of_mem_set hz with h | h
  ·exact hall z h
  ·omega
theorem cut_right {x : Ten} {sd frm til : Int} (h : Tn.right x = false) : cut x sd frm til = (none_, 20) := by unfold cut; rw [h]; rfl
theorem cut_err {x : Ten} {sd frm til : Int} (h : Tn.right x = true) (h2 : (Od.cut x.s sd frm til).2 ≠ 0) : cut x sd frm til = (none_, (Od.cut x.s sd frm til).2) := by unfold cut; rw [if_pos h, if_neg h2]
theorem cut_ok {x : Ten} {sd frm til : Int} (h : Tn.right x = true) (h2 : (Od.cut x.s sd frm til).2 = 0) : cut x sd frm til = (⟨(Od.cut x.s sd frm til).1, cutRows x.c (side x.s sd.toNat * span ((Od.cut x.s sd frm til).1.drop (sd.toNat + 1))) (frm.toNat * span ((Od.cut x.s sd frm til).1.drop (sd.toNat + 1))) ((til.toNat - frm.toNat) * span ((Od.cut x.s sd frm til).1.drop (sd.toNat + 1))) (x.c.length / (side x.s sd.toNat * span ((Od.cut x.s sd frm til).1.drop (sd.toNat + 1))))⟩, 0) := by unfold cut; rw [if_pos h, if_pos h2]
theorem rows_succ (c : List Int) (row a n k : Nat) : cutRows c row a n (k + 1) = cutRows c row a n k ++ (c.drop (k * row + a)).take n := by
 unfold cutRows
 rw [List.range_succ, List.flatMap_append]
 simp
theorem rows_len {c : List Int} {row a n k : Nat} (h : ∀ i, i < k → i * row + a + n ≤ c.length) : (cutRows c row a n k).length = k * n := by
 induction k with
 | zero => simp [cutRows]
 | succ k ih =>
  rw [rows_succ, List.length_append, ih (fun i hi => h i (by omega)), List.length_take, List.length_drop, Nat.succ_mul]
  have := h k (by omega)
  omega
theorem rows_in {c : List Int} {row a n k : Nat} (h : ∀ z ∈ c, Fx.In z) : ∀ z ∈ cutRows c row a n k, Fx.In z := fun z hz => by
 unfold cutRows at hz
 obtain ⟨i, _, hz⟩ := List.mem_flatMap.1 hz
 exact h z (List.mem_of_mem_drop (List.mem_of_mem_take hz))
end Ly
theorem tensor_span (A : Option Addr) (c : Nat) (l : List Int) (w : World) (hl : l.length ≤ 1048576) (hI : Ints .i64 w A l) (h1 : ∀ z ∈ l, 1 ≤ z ∧ z ≤ 1024) (hp : Safe.prod l ≤ 65536) :
  Calls Tryz.prog 118 #[.slice A l.length c] w fun e w' => e = .returned (.int .i64 (Safe.prod l)) ∧ w = w' := by
 have hpos := fun k => Safe.prod_pos (l.take k) (fun z hz => (h1 z (List.mem_of_mem_take hz)).1)
 have hle := fun k => Safe.prod_take_le l k (fun z hz => (h1 z hz).1)
 have hsu := fun k hk => Safe.prod_take_succ l k hk
 have HI := Lib.hid hI
 have Hpos := Lib.hid hpos
 have Hle := Lib.hid hle
 have Hsu := Lib.hid hsu
 clear hI hpos hle hsu
 clear h1
 go_enter Tryz.func118, Tryz.ntmps118
 go_wp2_with fail
 go_loop [3, 8] (fun s i => ∃ k : Nat, k ≤ l.length ∧ i = .int .i64 k ∧ s = .int .i64 (Safe.prod (l.take k))) (fun _ i => l.length - (intOf i).toNat)
 case atStart => exact ⟨0, Nat.zero_le _, rfl, rfl⟩
 case round =>
  obtain ⟨k, hk, rfl, rfl⟩ := hrel
  by_cases hlt : k < l.length
  ·obtain ⟨b, off, rfl, -, hc⟩ := HI.out k hlt
   rw [get_at hlt] at hc
   have q1 := Hpos.out k
   have q2 := Hle.out k
   have q3 := Hpos.out (k + 1)
   have q4 := Hle.out (k + 1)
   have q5 := Hsu.out k hlt
   obtain ⟨P', hP⟩ : ∃ P', P' = Safe.prod (l.take (k + 1)) := ⟨_, rfl⟩
   rw [← hP] at q3 q4 q5
   have HP := Lib.hid hP
   clear hP
   generalize Safe.prod (l.take k) = P at *
   have e1 : P * l[k] = P' := q5.symm
   generalize l[k] = z at *
   clear q5
   go_wp2_with fail
   go_round
   case rel => exact ⟨k + 1, by omega, by go_num, by rw [← HP.out]⟩
   case measure => simp [intOf]; omega
  ·obtain rfl : k = l.length := by omega
   rw [List.take_length]
   go_wp2_with fail
   go_ret
   exact ⟨rfl, rfl⟩
end Go.Proofs.YtbnnpkcfifejmaaGreat
namespace Go.Proofs.YtbnnpkcfifejmaaGreat
open Go.RowKit
theorem Later.grown {w w1 w2 : World} {row : Option Nat} (h : Later w w1) (hg : w1.grownBy w2 row) (hs : w.heap.size ≤ w1.heap.size) (hr : ∀ b, row = some b → w.heap.size ≤ b) : Later w w2 := Below.grown h hg hs hr
theorem TenO.of_row {B : Nat} {w : World} {S : Option Addr} {c : Nat} {v : Value} {s l : List Int} {e : TypeId} (hown : w.ownsRow B e 1 v l.length (l.map (Value.int .i64))) (hS : Ints .i64 w S s) (h1 : s.length ≤ c) (h2 : c ≤ 9223372036854775807) (hb : ∀ a, S = some a → B ≤ a.block) (l1 : s.length ≤ 1048576) (l2 : l.length ≤ 1048576) (hpos : 0 < l.length) (hin : ∀ z ∈ l, Fx.In z) :
  ∃ C d, v = .slice C l.length d ∧ TenO B w (.agg #[.slice S s.length c, v]) ⟨s, l⟩ := by
 rcases hown.2 with ⟨_, h0⟩ | ⟨g, cap, cur, rfl, hg, hh, hc, hm, hr⟩
 ·omega
 ·obtain ⟨A, c', hv, -, hI⟩ := Ints.of_own hown
  injection hv with e1 e2 e3
  subst e1 e3
  refine ⟨_, _, rfl, S, c, _, _, rfl, ⟨⟨hS, hI⟩, h1, h2, hc, by unfold maxLen at hm; omega, l1, l2, hin⟩, hb, fun a e => ?_⟩
  injection e with e
  subst e
  exact ⟨hg, lt_of_block hh, fun j => by simp [World.frozen?, hh]⟩
theorem Ints.drop_ {w : World} {b off : Nat} {l : List Int} (h : Ints .i64 w (some ⟨b, off, none⟩) l) (k : Nat) : Ints .i64 w (some ⟨b, off + k, none⟩) (l.drop k) := Ints.of_row fun j hj => by
 rw [List.length_drop] at hj
 obtain ⟨b', o', e', -, hc⟩ := h (k + j) (by omega)
 injection e' with e'; injection e' with e1 e2; subst e1 e2
 rw [Nat.add_assoc, hc]
 simp [List.getD_eq_getElem?_getD]
set_option maxRecDepth 4000 in
set_option maxHeartbeats 8000000 in
theorem tensor_cut (S C : Option Addr) (c d : Nat) (x : Ten) (sd frm til : Int) (w : World) (hx : TenIn w S C c d x) :
  Calls Tryz.prog 64 #[.agg #[.slice S x.s.length c, .slice C x.c.length d], .int .i64 sd, .int .i64 frm, .int .i64 til] w (GoP (Ly.cut x sd frm til) w) := by
 obtain ⟨i0, hi, hz0, hz1, hz2⟩ := info_parts fix_info
 obtain ⟨hkx, hz, h01⟩ := two_boxes w 30 30 #[.slice S x.s.length c, .slice C x.c.length d] #[.slice none 0 0, .slice none 0 0]
 have l1 := hx.l1
 have l2 := hx.l2
 have Hkx := Lib.hid hkx
 have Hz := Lib.hid hz
 have H01 := Lib.hid h01
 have Hx := Lib.hid hx
 clear hkx hz h01 hx
 go_enter Tryz.func64, Tryz.ntmps64
 go_wp2_with fail
 generalize (w.alloc (.cells #[.slice S x.s.length c, .slice C x.c.length d] 30)).alloc (.cells #[.slice none 0 0, .slice none 0 0] 30) = w1 at *
 refine (tensor_right S C c d x w1 (by omega) (by omega) (Hx.out.later H01.out).r.1).mono ?_
 rintro e w2 ⟨rfl, hb2⟩
 have h12 : Later w1 w2 := hb2
 have h02 := H01.out.trans h12
 have hz2 := h12.blk Hz.out
 have hkx2 := h12.blk Hkx.out
 clear hb2 Hz H01 Hkx h12
 cases hr : Tn.right x
 ·have HE := Lib.hid (Ly.cut_right (sd := sd) (frm := frm) (til := til) hr)
  clear hr
  have c0 := hz2.cell 0
  have c1 := hz2.cell 1
  have f0 := hz2.frozen 0
  have f1 := hz2.frozen 1
  simp at c0 c1
  have H02 := Lib.hid h02
  have Hz2 := Lib.hid hz2
  have Hkx2 := Lib.hid hkx2
  clear h02 hz2 hkx2
  go_wp2_with fail
  refine bodyPost_ret (v := .tuple #[.agg #[.slice none 0 0, .slice none 0 0], .int .i64 20]) (by simp [results, Tryz.results64, go_sem, c0, c1]) rfl ?_
  exact GoP.fail HE.out (by decide) ((H02.out.set (p := ⟨w.heap.size + 1, 0, none⟩) (by simp) _).set (p := ⟨w.heap.size + 1, 1, none⟩) (by simp) _)
 have x0 := hkx2.cell 0
 simp at x0
 have H02 := Lib.hid h02
 have Hz2 := Lib.hid hz2
 have Hkx2 := Lib.hid hkx2
 clear h02 hz2 hkx2
 go_wp2_with fail
 clear x0
 refine (shape_cut S c x.s sd frm til w2 (by omega) (Hx.out.later H02.out).r.1).mono ?_
 rintro e w3 ⟨A, ac, rfl, hI, hc1, hc2, hf, hb3⟩
 have h23 : Later w2 w3 := hb3
 have h03 := H02.out.trans h23
 have hz3 := h23.blk Hz2.out
 have hkx3 := h23.blk Hkx2.out
 clear hb3 Hz2 Hkx2
 by_cases hg : (Od.cut x.s sd frm til).2 = 0
 case neg =>
  have HE := Lib.hid (Ly.cut_err hr hg)
  have Hg := Lib.hid hg
  have d1 : ((Od.cut x.s sd frm til).2 == 0) = false := by simpa using hg
  have d2 : ((Od.cut x.s sd frm til).2 != 0) = true := by simpa using hg
  clear hg hr hf
  generalize (Od.cut x.s sd frm til).2 = ge at *
  generalize (Od.cut x.s sd frm til).1 = os at *
  have c0 := hz3.cell 0
  have c1 := hz3.cell 1
  have f0 := hz3.frozen 0
  have f1 := hz3.frozen 1
  simp at c0 c1
  have H03 := Lib.hid h03
  have Hz3 := Lib.hid hz3
  have Hkx3 := Lib.hid hkx3
  have HI := Lib.hid hI
  have H23 := Lib.hid h23
  clear h03 hz3 hkx3 hI h23
  go_wp2_with fail
  refine bodyPost_ret (v := .tuple #[.agg #[.slice none 0 0, .slice none 0 0], .int .i64 ge]) (by simp [results, Tryz.results64, go_sem, c0, c1]) rfl ?_
  exact GoP.fail HE.out Hg.out ((H03.out.set (p := ⟨w.heap.size + 1, 0, none⟩) (by simp) _).set (p := ⟨w.heap.size + 1, 1, none⟩) (by simp) _)
 have HE := Lib.hid (Ly.cut_ok hr hg)
 obtain ⟨k, S', f, t, inner, pre, rfl, rfl, rfl, hk, hS, hft, htS, hS2, hin, hpre, hcs, hci, hcp, hxl, hxl2, hsl, hsb⟩ := Ly.cut_facts hr hg
 rw [hg]
 rw [hcs] at hI hc1 HE ⊢
 have hol : (x.s.set k ((t - f : Nat) : Int)).length = x.s.length := List.length_set
 rw [Int.toNat_natCast, Int.toNat_natCast, Int.toNat_natCast] at HE
 have hsd : Ly.side x.s k = S' := by show (x.s.getD k 0).toNat = S'; rw [hS]; exact Int.toNat_natCast _
 have hspn : Ly.span ((x.s.set k ((t - f : Nat) : Int)).drop (k + 1)) = inner := by unfold Ly.span; rw [hci]; exact Int.toNat_natCast _
 rw [hsd, hspn] at HE
 obtain ⟨bs, os', rfl, -, y00⟩ := (Hx.out.later h03).r.1 k hk
 have y0 : w3.cell? ⟨bs, os' + k, none⟩ = some (.int .i64 S') := by rw [y00, hS]
 clear y00
 generalize x.s.set k ((t - f : Nat) : Int) = os at *
 obtain ⟨row, hrow⟩ : ∃ row, row = S' * inner := ⟨_, rfl⟩
 obtain ⟨a, ha⟩ : ∃ a, a = f * inner := ⟨_, rfl⟩
 obtain ⟨b, hb⟩ : ∃ b, b = t * inner := ⟨_, rfl⟩
 have hpart : (t - f) * inner = b - a := by rw [ha, hb, Nat.sub_mul]
 have hab : a < b := by rw [ha, hb]; exact Nat.mul_lt_mul_of_pos_right hft hin
 have hbr : b ≤ row := by rw [hb, hrow]; exact Nat.mul_le_mul_right _ htS
 have hrow1 : 1 ≤ row := by omega
 rw [hpart, ← hrow, ← ha] at HE
 rw [← hrow] at hxl
 rw [hpart] at hcp
 have hdiv : x.c.length / row = pre := by rw [hxl]; exact Nat.mul_div_cancel _ hrow1
 rw [hdiv] at HE
 have hM : pre * (b - a) ≤ 65536 := by
  have : pre * (b - a) ≤ pre * row := Nat.mul_le_mul_left _ (by omega)
  omega
 have hrowle : row ≤ 65536 := by
  have : 1 * row ≤ pre * row := Nat.mul_le_mul_right _ hpre
  omega
 have e1 : (S' : Int) * (inner : Int) = (row : Int) := by rw [hrow]; simp
 have e2 : (f : Int) * (inner : Int) = (a : Int) := by rw [ha]; simp
 have e3 : (t : Int) * (inner : Int) = (b : Int) := by rw [hb]; simp
 have hinl : inner ≤ 65536 := by
  have : 1 * inner ≤ S' * inner := Nat.mul_le_mul_right _ (by omega)
  omega
 have hprel : pre ≤ 65536 := by
  have : pre * 1 ≤ pre * row := Nat.mul_le_mul_left _ hrow1
  omega
 have hIb := hI
 obtain ⟨ba, oa, rfl, hba, -⟩ := hIb 0 (by omega)
 have hob : os.length ≤ 4 := by omega
 have hdrop := hI.drop_ (k + 1)
 have hdl : (os.drop (k + 1)).length = os.length - (k + 1) := List.length_drop
 have hnil : ac = k + 1 → os.drop (k + 1) = [] := fun h => List.drop_eq_nil_of_le (h ▸ hc1)
 have hdb : ∀ z ∈ os.drop (k + 1), 1 ≤ z ∧ z ≤ 1024 := fun z hz => hsb z (List.mem_of_mem_drop hz)
 have hf0 := hf
 have E1 := Lib.hid e1
 have E2 := Lib.hid e2
 have E3 := Lib.hid e3
 have Hci := Lib.hid hci
 have Hcp := Lib.hid hcp
 have Hxl := Lib.hid hxl
 have Hol := Lib.hid hol
 have Hdl := Lib.hid hdl
 have Hy0 := Lib.hid y0
 have Hnil := Lib.hid hnil
 have Hdb := Lib.hid hdb
 have Hsb := Lib.hid hsb
 have Hf := Lib.hid hf
 have Hpart := Lib.hid hpart
 clear hf0 hf hcs hsd hspn hrow ha hb hpart hdiv e1 e2 e3 hci hcp hxl hol hdl y0 hnil hdb hsb hS hr hg
 have H03 := Lib.hid h03
 have Hz3 := Lib.hid hz3
 have Hkx3 := Lib.hid hkx3
 have HI := Lib.hid hI
 have H23 := Lib.hid h23
 have Hdrop := Lib.hid hdrop
 clear h03 hz3 hkx3 hI h23 hdrop
 go_upto_region 6 with fail
 go_cut [12] (fun v wx => w3 = wx ∧ v = .int .i64 (inner : Int))
 case first =>
  have q1 : (k : Int) + 1 ≤ (os.length : Int) := by have := Hol.out; omega
  have q2 : (os.length : Int) ≤ (ac : Int) := by omega
  have hpp : Safe.prod (os.drop (k + 1)) ≤ 65536 := by rw [Hci.out]; omega
  by_cases hca : ac = k + 1
  ·subst hca
   have hn := Hnil.out rfl
   have hi1 : Safe.prod [] = (inner : Int) := by rw [← hn]; exact Hci.out
   have hcall := fun (B : Option Addr) (cc : Nat) => tensor_span B cc [] w3 (by simp) Ints.nil (by simp) (by decide)
   rw [hi1] at hcall
   have hcall2 : ∀ (B : Option Addr) (cc : Nat), Calls Tryz.prog 118 #[.slice B 0 cc] w3 fun e w' => e = .returned (.int .i64 inner) ∧ w3 = w' := hcall
   have Hcall2 := Lib.hid hcall2
   clear hn hpp hi1 hcall hcall2
   go_wp2_with fail
   with_reducible refine (Hcall2.out _ _).mono ?_
   rintro e wz ⟨rfl, rfl⟩
   go_wp2_with fail
   go_meet
   exact ⟨rfl, rfl⟩
  ·have q3 : k + 1 < ac := by have := Hol.out; omega
   have hcall := tensor_span (some ⟨ba, oa + (k + 1), none⟩) (ac - (k + 1)) (os.drop (k + 1)) w3 (by rw [Hdl.out]; omega) Hdrop.out Hdb.out hpp
   rw [Hdl.out, Hci.out] at hcall
   clear hpp hca
   have Hcall := Lib.hid hcall
   clear hcall
   go_wp2_with fail
   with_reducible refine (Hcall.out).mono ?_
   rintro e wz ⟨rfl, rfl⟩
   go_wp2_with fail
   go_meet
   exact ⟨rfl, rfl⟩
 case rest =>
  obtain ⟨rfl, rfl⟩ := hcut
  clear Hdrop Hnil Hdb Hdl
  have b0 : w3.cell? ⟨w.heap.size, 0, none⟩ = some (.slice (some ⟨bs, os', none⟩) x.s.length c) := by rw [Hkx3.out.cell]; rfl
  have y0 := Hy0.out
  have e1 := E1.out
  have k1 : (k : Int) < (x.s.length : Int) := by omega
  have k2 : (row : Int) ≤ 65536 := by omega
  go_upto_region 8 with fail
  clear b0 y0 e1 k1 k2
  have hsp := tensor_span (some ⟨ba, oa, none⟩) ac os w3 (by omega) HI.out Hsb.out (by rw [Hcp.out]; omega)
  rw [Hcp.out] at hsp
  have Hsp := Lib.hid hsp
  clear hsp
  obtain ⟨M, hMe⟩ : ∃ M, M = pre * (b - a) := ⟨_, rfl⟩
  rw [← hMe] at hM
  rw [← hMe] at Hsp
  have HM := Lib.hid hMe
  clear hMe
  have hwz : w.heap.size + 1 < w3.heap.size := Hz3.out.lt
  have hwle : w.heap.size ≤ w3.heap.size := by omega
  go_wp2_with fail
  with_reducible refine (Hsp.out).mono ?_
  rintro e wz ⟨rfl, rfl⟩
  go_wp2_with (at_make; refine wpList_make_own _ rfl _ _ 28 rfl w3.heap.size 22 i0 (.int .i64 0) 1 Tryz.underlying28 hi hz0 hz1 _ _ _ M rfl rfl rfl ?b2 ?b3 ?b4 ?_)
  case b2 => rw [hz2]; omega
  case b3 => unfold maxLen; omega
  case b4 => exact Nat.le_refl _
  intro w4 hown hgrow
  have h34 : Later w3 w4 := (Later.refl w3).grown hgrow (Nat.le_refl _) (by simp)
  have hrows : ∀ i, i < pre → i * row + a + (b - a) ≤ x.c.length := fun i hi => by
   have h9 : (i + 1) * row ≤ pre * row := Nat.mul_le_mul_right _ hi
   rw [Nat.succ_mul] at h9
   have := Hxl.out
   omega
  have Hrows := Lib.hid hrows
  have hown0 : w4.ownsRow w3.heap.size 22 1 (.slice (some ⟨w3.heap.size, 0, none⟩) 0 M) 0 ((Ly.cutRows x.c row a (b - a) 0).map (Value.int .i64)) := by simpa [Ly.cutRows] using hown
  have hxd := Hx.out.c1
  have hxd2 := Hx.out.c2
  clear hown hgrow hrows
  have H34 := Lib.hid h34
  have Hown0 := Lib.hid hown0
  clear h34 hown0
  go_wp2_with fail
  go_loopw [14, 15] (fun v st wr => ∃ i : Nat, i ≤ pre ∧ st = .int .i64 ((i * row : Nat) : Int) ∧ wr.ownsRow w3.heap.size 22 1 v (i * (b - a)) ((Ly.cutRows x.c row a (b - a) i).map (Value.int .i64)) ∧ Later w3 wr) (fun _ st _ => x.c.length - (intOf st).toNat)
  case atStart => exact ⟨0, Nat.zero_le _, by rw [Nat.zero_mul]; rfl, by rw [Nat.zero_mul]; exact Hown0.out, H34.out⟩
  case round =>
   obtain ⟨i, hi', rfl, hown, hlw⟩ := hrel
   obtain ⟨Ao, co, rfl⟩ := own_form hown
   have x0 : wr.cell? ⟨w.heap.size, 1, none⟩ = some (.slice C x.c.length d) := hlw.cell (by rw [Hkx3.out.cell]; rfl)
   have h9 : i * row ≤ pre * row := Nat.mul_le_mul_right _ hi'
   rw [← Hxl.out] at h9
   by_cases hlt : i < pre
   ·have hb' := Hrows.out i hlt
    have hsucc := Ly.rows_succ x.c row a (b - a) i
    have hil : i * (b - a) + (b - a) ≤ M := by
     have h7 : (i + 1) * (b - a) ≤ pre * (b - a) := Nat.mul_le_mul_right _ hlt
     rw [Nat.succ_mul] at h7
     rw [HM.out]; exact h7
    obtain ⟨p, hp⟩ : ∃ p, p = i * row := ⟨_, rfl⟩
    obtain ⟨nn, hnn⟩ : ∃ nn, nn = i * (b - a) := ⟨_, rfl⟩
    rw [← hp] at hb' hsucc h9 ⊢
    rw [← hnn] at hown hil ⊢
    have hnl : ((x.c.drop (p + a)).take (b - a)).length = b - a := by rw [List.length_take, List.length_drop]; omega
    obtain ⟨bc, oc, rfl, hbc, -⟩ := Hx.out.cell (k := 0) (by omega)
    have hWI : Ints .i64 wr (some ⟨bc, oc + (p + a), none⟩) ((x.c.drop (p + a)).take (b - a)) := Ints.of_row fun j hj => by
     rw [hnl] at hj
     obtain ⟨b', o', e', -, hc⟩ := (Hx.out.later (H03.out.trans hlw)).r.2 (p + a + j) (by omega)
     injection e' with e'; injection e' with e1 e2; subst e1 e2
     rw [Nat.add_assoc, hc]
     simp only [List.getD_eq_getElem?_getD]
     rw [List.getElem?_take, if_pos hj, List.getElem?_drop]
    have hs1 : (i + 1) * row = p + row := by rw [hp, Nat.succ_mul]
    have hs2 : (i + 1) * (b - a) = nn + (b - a) := by rw [hnn, Nat.succ_mul]
    generalize (x.c.drop (p + a)).take (b - a) = nw at *
    have HS1 := Lib.hid hs1
    have HS2 := Lib.hid hs2
    have Hsucc := Lib.hid hsucc
    have Hnl := Lib.hid hnl
    have Hnn := Lib.hid hnn
    have Hown := Lib.hid hown
    have HLw := Lib.hid hlw
    have HWI := Lib.hid hWI
    have hlo := fun b (hb : (Value.slice Ao nn co).ownBlock = some b) => (hown.lt b hb).1
    have HLO := Lib.hid hlo
    have hwr : w3.heap.size ≤ wr.heap.size := hlw.size
    have e2 := E2.out
    have e3 := E3.out
    have k1 : (p : Int) + (b : Int) ≤ (d : Int) := by omega
    have k2 : (p : Int) + (b : Int) ≤ 65536 := by omega
    have k3 : (a : Int) < (b : Int) := by omega
    have k4 : (p : Int) < (x.c.length : Int) := by omega
    have k5 : (p : Int) + (row : Int) ≤ 131072 := by omega
    clear hs1 hs2 hsucc hnl hown hlw hWI hp hnn hlo h9
    go_wp2_with (at_builtin; refine wpList_append_own_at _ rfl _ _ 28 rfl w3.heap.size 22 i0 (.int .i64 0) 1 8 Tryz.underlying28 hi hz0 hz1 hz2 rfl (by decide) _ _ _ rfl Hown.out ⟨bc, oc + (p + a), none⟩ _ _ (nw.map (Value.int .i64)) rfl ?c0 ?c1 ?c2 ?c3 ?c4 ?c5 ?_)
    case c0 => rw [List.length_map, Hnl.out]; omega
    case c1 =>
     intro j u hj
     rw [List.getElem?_map] at hj
     cases hq : nw[j]? with
     | none => rw [hq] at hj; simp at hj
     | some z =>
      rw [hq] at hj
      simp at hj
      subst hj
      obtain ⟨hjl, hz⟩ := List.getElem?_eq_some_iff.1 hq
      obtain ⟨b', o', e', -, hc⟩ := HWI.out j hjl
      injection e' with e'; injection e' with e1 e2; subst e1 e2
      rw [get_at hjl, hz] at hc
      by_cases hj0 : j = 0
      ·subst hj0; simpa [Addr.add] using hc
      ·simpa [Addr.add, hj0] using hc
    case c2 => intro u hu; obtain ⟨z, _, rfl⟩ := List.mem_map.1 hu; rfl
    case c3 => unfold maxLen; omega
    case c4 => omega
    case c5 => exact hwr
    intro v' w5 hown' hgrow _ hat
    have hl5 : Later w3 w5 := HLw.out.grown hgrow hwr (fun b hb => HLO.out b hb)
    have hm' : nn + (p + b - (p + a)) = nn + (b - a) := by omega
    rw [hm', ← List.map_append, ← Hsucc.out] at hown'
    have HO5 := Lib.hid hown'
    have HL5 := Lib.hid hl5
    clear hown' hgrow hat hl5 hm'
    go_wp2_with fail
    go_roundw
    case rel => exact ⟨i + 1, hlt, by rw [HS1.out]; go_num, by rw [HS2.out]; exact HO5.out, HL5.out⟩
    case measure => simp [intOf]; omega
   ·obtain rfl : i = pre := by omega
    have hge : i * row = x.c.length := Hxl.out.symm
    have hrl := Ly.rows_len Hrows.out
    have hri := Ly.rows_in (row := row) (a := a) (n := b - a) (k := i) Hx.out.num
    rw [← hrl] at hown ⊢
    have hpos : 0 < (Ly.cutRows x.c row a (b - a) i).length := by
     rw [hrl]
     exact Nat.mul_pos hpre (by omega)
    have hll : (Ly.cutRows x.c row a (b - a) i).length ≤ 65536 := by rw [hrl, ← HM.out]; exact hM
    obtain ⟨C2, d2, hv, hto⟩ := TenO.of_row (own_base hown hwle) (HI.out.below hlw (Nat.le_refl _)) hc1 hc2 (fun a e => Nat.le_trans H02.out.size (Hf.out a e)) (by omega) (by omega) hpos hri
    injection hv with e1 e2 e3
    subst e1 e3
    have hzx := hlw.blk Hz3.out
    have h05 := H03.out.trans hlw
    generalize Ly.cutRows x.c row a (b - a) i = L at *
    generalize hLl : L.length = ll at *
    have c0 := hzx.cell 0
    have c1 := hzx.cell 1
    have f0 := hzx.frozen 0
    have f1 := hzx.frozen 1
    simp at c0 c1
    have hz4 := (hzx.set_ 0 (.slice (some ⟨ba, oa, none⟩) os.length ac)).set_ 1 (.slice Ao ll co)
    have d0 := hz4.cell 0
    have d1 := hz4.cell 1
    simp at d0 d1
    have Hge := Lib.hid hge
    have HLl := Lib.hid hLl
    rw [hge]
    clear hge hrl hri hpos hLl hIb
    have Hown := Lib.hid hown
    have Hlw := Lib.hid hlw
    have Hto := Lib.hid hto
    have Hzx := Lib.hid hzx
    have H05 := Lib.hid h05
    have Hz4 := Lib.hid hz4
    clear hown hlw hto hzx h05 hz4
    go_wp2_with fail
    refine bodyPost_ret (v := .tuple #[.agg #[.slice (some ⟨ba, oa, none⟩) os.length ac, .slice Ao ll co], .int .i64 0]) (by simp [results, Tryz.results64, go_sem, d0, d1]) rfl ?_
    exact GoP.ok HE.out (TenO.box Hto.out Hzx.out) ((H05.out.set (p := ⟨w.heap.size + 1, 0, none⟩) (by simp) _).set (p := ⟨w.heap.size + 1, 1, none⟩) (by simp) _)
theorem move_cut (S C : Option Addr) (c d : Nat) (x : Ten) (sd frm til : Int) (w : World) (hx : TenIn w S C c d x) :
  Calls Tryz.prog 99 #[.agg #[.slice S x.s.length c, .slice C x.c.length d], .int .i64 sd, .int .i64 frm, .int .i64 til] w (GoP (Ly.cut x sd frm til) w) := by
 obtain ⟨hkx, hz, h01⟩ := two_boxes w 30 30 #[.slice S x.s.length c, .slice C x.c.length d] #[.slice none 0 0, .slice none 0 0]
 have Hkx := Lib.hid hkx
 have Hz := Lib.hid hz
 have H01 := Lib.hid h01
 have Hx := Lib.hid hx
 clear hkx hz h01 hx
 go_enter Tryz.func99, Tryz.ntmps99
 go_wp2_with fail
 generalize (w.alloc (.cells #[.slice S x.s.length c, .slice C x.c.length d] 30)).alloc (.cells #[.slice none 0 0, .slice none 0 0] 30) = w1 at *
 refine (tensor_cut S C c d x sd frm til w1 (Hx.out.later H01.out)).mono ?_
 rintro e wf hgo
 have hlf : Later w1 wf := hgo.2
 have hzf := hlf.blk Hz.out
 have h0f := H01.out.trans hlf
 have f0 := hzf.frozen 0
 have f1 := hzf.frozen 1
 have hpz : w.heap.size ≤ w.heap.size + 1 := by first | exact Nat.le_refl _ | simp | omega
 rcases hgo.1 with ⟨hne, rfl⟩ | ⟨hn0, v, rfl, hten⟩
 ·have c0 := hzf.cell 0
  have c1 := hzf.cell 1
  simp at c0 c1
  have Hne0 := hne
  generalize hge : (Ly.cut x sd frm til).2 = ge at *
  have Hge := Lib.hid hge
  have Hne := Lib.hid Hne0
  clear Hne0
  clear hgo hne hlf hge
  have HZf := Lib.hid hzf
  have HLf := Lib.hid h0f
  clear hzf h0f
  go_wp2_with fail
  refine bodyPost_ret (v := .tuple #[.agg #[.slice none 0 0, .slice none 0 0], .int .i64 ge]) (by simp [results, Tryz.results99, go_sem, c0, c1]) rfl ?_
  exact GoP.fail2 Hge.out Hne.out ((HLf.out.set (p := ⟨w.heap.size + 1, 0, none⟩) hpz _).set (p := ⟨w.heap.size + 1, 1, none⟩) hpz _)
 ·have hto := hten.base (H01.out.size)
  clear hgo hten
  obtain ⟨S2, c2, C2, d2, rfl, hti, hs2, hc2⟩ := hto
  have hz3 := (hzf.set_ 0 (.slice S2 (Ly.cut x sd frm til).1.s.length c2)).set_ 1 (.slice C2 (Ly.cut x sd frm til).1.c.length d2)
  have d0 := hz3.cell 0
  have d1 := hz3.cell 1
  simp at d0 d1
  have c0 := hzf.cell 0
  have c1 := hzf.cell 1
  simp at c0 c1
  have Hn0 := Lib.hid hn0
  have HZ3 := Lib.hid hz3
  have HZf := Lib.hid hzf
  have HLf := Lib.hid h0f
  have HLF := Lib.hid hlf
  have HTI := Lib.hid hti
  have HS2 := Lib.hid hs2
  have HC2 := Lib.hid hc2
  clear hz3 hzf h0f hlf hti hs2 hc2 hn0
  go_wp2_with fail
  refine bodyPost_ret (v := .tuple #[.agg #[.slice S2 (Ly.cut x sd frm til).1.s.length c2, .slice C2 (Ly.cut x sd frm til).1.c.length d2], .int .i64 0]) (by simp [results, Tryz.results99, go_sem, d0, d1]) rfl ?_
  exact ⟨.inr ⟨Hn0.out, _, rfl, TenO.box ⟨S2, c2, C2, d2, rfl, HTI.out, HS2.out, HC2.out⟩ HZf.out⟩, (HLf.out.set (p := ⟨w.heap.size + 1, 0, none⟩) hpz _).set (p := ⟨w.heap.size + 1, 1, none⟩) hpz _⟩
end Go.Proofs.YtbnnpkcfifejmaaGreat
