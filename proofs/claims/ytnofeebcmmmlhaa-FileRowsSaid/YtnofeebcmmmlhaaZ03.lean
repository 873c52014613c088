/- Lemmas for the statements of this seat: contracts of functions and the plain laws. -/
import Derived.StillTailTactics
import Derived.WalkKit
import Derived.Test.YtnofeebcmmmlhaaZ02
set_option linter.unusedVariables false
/- Layer 10 (op): the shapes that some kinds answer with: contracts. -/
namespace Go.Proofs.Ytnofeebcmmmlhaa
open Go.RowKit

theorem Shps.cell_at {w : World} {b off j : Nat} {ss : List (List Int)} (h : Shps w (some ⟨b, off, none⟩) ss) (hj : j < ss.length) :
    ∃ S c, w.cell? ⟨b, off + j, none⟩ = some (.slice S ss[j].length c) ∧ Ints .i64 w S ss[j] ∧ ss[j].length ≤ c ∧ c ≤ 9223372036854775807 := by
  obtain ⟨b', off', S, c, e, _, hc, h2⟩ := h j hj
  injection e with e
  injection e with e1 e2
  subst e1 e2
  exact ⟨S, c, hc, h2⟩
theorem gets_at {l : List (List Int)} {k : Nat} (h : k < l.length) : l.getD k [] = l[k] := by rw [List.getD_eq_getElem?_getD, List.getElem?_eq_getElem h]; rfl

set_option maxHeartbeats 4000000 in
theorem op_dense (A B C : Option Addr) (c d f : Nat) (ws bs xs : List Int) (w : World) (hx : xs.length ≤ 17592186043904) (hI : Ints .i64 w A ws) (hJ : Ints .i64 w B bs) (hK : Ints .i64 w C xs) :
    Calls Try.prog 62 #[.slice A ws.length c, .slice B bs.length d, .slice C xs.length f] w (ShPost (Od.dense ws bs xs) w) := by
  have bad : ¬ (ws.length = 2 ∧ bs.length = 1 ∧ bs.getD 0 0 = ws.getD 0 0 ∧ Sh.right xs = true ∧ Safe.prod xs = ws.getD 1 0) → Od.dense ws bs xs = ([], 20) := fun h => by unfold Od.dense; rw [if_neg h]
  have HI := Lib.hid hI
  have HJ := Lib.hid hJ
  have HK := Lib.hid hK
  clear hI hJ hK
  by_cases c1 : ws.length = 2
  case neg =>
    have HE := Lib.hid (bad (by omega))
    have d1 : ((ws.length : Int) != 2) = true := by simp; omega
    clear bad c1
    go_enter Try.func62, Try.ntmps62
    go_wp2_with fail
    go_quiet (fail)
    go_wp2_with fail
    go_ret2
    exact ShPost.fail HE.out (Bdrawn (Below.refl _ _) _)
  by_cases c2 : bs.length = 1
  case neg =>
    have HE := Lib.hid (bad (by omega))
    have d1 : ((ws.length : Int) != 2) = false := by simp; omega
    have d2 : ((bs.length : Int) != 1) = true := by simp; omega
    clear bad c1 c2
    go_enter Try.func62, Try.ntmps62
    go_wp2_with fail
    go_quiet (fail)
    go_wp2_with fail
    go_ret2
    exact ShPost.fail HE.out (Bdrawn (Below.refl _ _) _)
  obtain ⟨b, off, rfl, hb, -⟩ := HI.out 0 (by omega)
  obtain ⟨b', off', rfl, hb', -⟩ := HJ.out 0 (by omega)
  have n0 : 0 < ws.length := by omega
  have n1 : 1 < ws.length := by omega
  have m0 : 0 < bs.length := by omega
  have e0 : (0 : Int) < ws.length := by omega
  have e1 : (1 : Int) < ws.length := by omega
  have f0 : (0 : Int) < bs.length := by omega
  have d1 : ((ws.length : Int) != 2) = false := by simp; omega
  have d2 : ((bs.length : Int) != 1) = false := by simp; omega
  have x0 := HI.out.cell_at n0
  have y0 := HJ.out.cell_at m0
  rw [Nat.add_zero] at x0 y0
  rw [getD_at n0, getD_at m0, getD_at n1] at bad
  have good : bs[0] = ws[0] → Sh.right xs = true → Safe.prod xs = ws[1] → Od.dense ws bs xs = ([ws[0]], 0) := fun h1 h2 h3 => by
    unfold Od.dense
    rw [if_pos ⟨c1, c2, by rw [getD_at n0, getD_at m0]; exact h1, h2, by rw [getD_at n1]; exact h3⟩, getD_at n0]
  have HC1 := Lib.hid c1
  have HC2 := Lib.hid c2
  by_cases c3 : bs[0] = ws[0]
  case neg =>
    have HE := Lib.hid (bad (by simp [c3]))
    have d3 : (bs[0] != ws[0]) = true := by simp [c3]
    clear bad good c1 c2 c3
    go_enter Try.func62, Try.ntmps62
    go_wp2_with fail
    go_quiet (fail)
    go_wp2_with fail
    go_ret2
    exact ShPost.fail HE.out (Bdrawn (Below.refl _ _) _)
  have d3 : (bs[0] != ws[0]) = false := by simp [c3]
  have bad := fun h : ¬ (Sh.right xs = true ∧ Safe.prod xs = ws[1]) => bad (by intro q; exact h ⟨q.2.2.2.1, q.2.2.2.2⟩)
  have good := good c3
  clear c1 c2 c3
  cases hr : Sh.right xs
  · have HE := Lib.hid (bad (by simp [hr]))
    have HS := Lib.hid (show Sh.size xs = (0, 20) by simp [Sh.size, hr])
    clear bad good
    have Hr := Lib.hid hr
    clear hr
    go_enter Try.func62, Try.ntmps62
    go_wp2_with fail
    go_quiet (fail)
    go_wp2_with fail
    refine (shape_size C f xs _ (by omega) (HK.out.drewN _)).mono ?_
    rintro e w1 ⟨rfl, h1⟩
    rw [HS.out]
    go_wp2_with fail
    go_ret2
    exact ShPost.fail HE.out ((Bdrawn (Below.refl _ _) _).trans h1)
  have HS := Lib.hid (show Sh.size xs = (Safe.prod xs, 0) by simp [Sh.size, hr])
  by_cases hp : Safe.prod xs = ws[1]
  · have HE := Lib.hid (good hr hp)
    have d5 : (Safe.prod xs != ws[1]) = false := by simp [hp]
    clear bad good hp
    have Hr := Lib.hid hr
    clear hr
    go_enter Try.func62, Try.ntmps62
    go_wp2_with fail
    go_quiet (fail)
    go_wp2_with fail
    refine (shape_size C f xs _ (by omega) (HK.out.drewN _)).mono ?_
    rintro e w1 ⟨rfl, h1⟩
    rw [HS.out]
    have hb1 : Below w.heap.size w w1 := (Bdrawn (Below.refl _ _) _).trans h1
    have x1 := (HI.out.below hb1 (Nat.le_refl _)).cell_at n1
    have x0 := (HI.out.below hb1 (Nat.le_refl _)).cell_at n0
    rw [Nat.add_zero] at x0
    go_wp2_with fail
    go_ret2
    refine ShPost.fresh (g := w1.heap.size) (t := 3) HE.out (by simp) hb1.size ?_ (by simp) (by omega) (hb1.alloc hb1.size _)
    exact Blk.new _ _ _
  · have HE := Lib.hid (bad (by simp [hp]))
    have d5 : (Safe.prod xs != ws[1]) = true := by simp [hp]
    clear bad good hp
    have Hr := Lib.hid hr
    clear hr
    go_enter Try.func62, Try.ntmps62
    go_wp2_with fail
    go_quiet (fail)
    go_wp2_with fail
    refine (shape_size C f xs _ (by omega) (HK.out.drewN _)).mono ?_
    rintro e w1 ⟨rfl, h1⟩
    rw [HS.out]
    have hb1 : Below w.heap.size w w1 := (Bdrawn (Below.refl _ _) _).trans h1
    have x1 := (HI.out.below hb1 (Nat.le_refl _)).cell_at n1
    go_wp2_with fail
    go_ret2
    exact ShPost.fail HE.out hb1

theorem Od.same_bad {l : List (List Int)} {k : Nat} (hk : k < l.length) (h0 : 0 < l.length) (h : l[k] ≠ l[0]) : Od.same l = ([], 20) := by
  unfold Od.same
  rw [if_neg]
  rw [List.all_eq_true]
  intro q
  have := q l[k] (List.getElem_mem hk)
  rw [gets_at h0] at this
  simp [h] at this
theorem Od.same_good {l : List (List Int)} (h0 : 0 < l.length) (h : ∀ k (hk : k < l.length), l[k] = l[0]) : Od.same l = (l[0], 0) := by
  unfold Od.same
  rw [if_pos, gets_at h0]
  rw [List.all_eq_true]
  intro x hx
  obtain ⟨k, hk, rfl⟩ := List.getElem_of_mem hx
  rw [gets_at h0]
  simp [h k hk]
set_option maxHeartbeats 4000000 in
theorem op_same (A : Option Addr) (c : Nat) (ss : List (List Int)) (w : World) (h0 : 0 < ss.length) (hc : ss.length ≤ c) (hm : c ≤ 9223372036854775807) (hI : Shps w A ss) (hz : ∀ s ∈ ss, s.length ≤ 17592186043904) :
    Calls Try.prog 63 #[.slice A ss.length c] w (ShPost (Od.same ss) w) := by
  obtain ⟨b, off, _, _, rfl, hb, -⟩ := hI 0 h0
  have e0 : (0 : Int) < ss.length := by omega
  have e1 : (1 : Int) ≤ ss.length := by omega
  have HI := Lib.hid hI
  have Hz := Lib.hid hz
  clear hI hz
  by_cases hc1 : c = 1
  · subst hc1
    have h1 : ss.length - 1 = 0 := by omega
    have HE := Lib.hid (Od.same_good h0 fun j hj => by obtain rfl : j = 0 := by omega
                                                       rfl)
    have z0 := Hz.out _ (List.getElem_mem h0)
    obtain ⟨S0, c0, y0, hI0, hc0, hm0⟩ := HI.out.cell_at h0
    rw [Nat.add_zero] at y0
    have HI0 := Lib.hid hI0
    clear hI0
    go_enter Try.func63, Try.ntmps63
    go_wp2_with fail
    go_loopw [9] (fun i wr => wr = w ∧ i = .int .i64 0) (fun _ _ => 0)
    case atStart => exact ⟨rfl, rfl⟩
    case round =>
      obtain ⟨rfl, rfl⟩ := hrel
      go_wp2_with fail
      refine (shape_copy S0 c0 ss[0] _ z0 HI0.out).mono ?_
      rintro e w1 ⟨g, rfl, hg, hB, h1⟩
      go_wp2_with fail
      go_ret2
      exact ShPost.fresh HE.out rfl hg hB (Nat.le_refl _) (by omega) h1
  go_enter Try.func63, Try.ntmps63
  go_wp2_with fail
  go_loopw [9] (fun i wr => ∃ k n : Nat, wr = w.drewN n ∧ k ≤ ss.length - 1 ∧ i = .int .i64 k ∧ ∀ j (hj : j < ss.length), j ≤ k → ss[j] = ss[0]) (fun i _ => ss.length - (intOf i).toNat)
  case atStart => exact ⟨0, 0, rfl, Nat.zero_le _, rfl, fun j hj h => by obtain rfl : j = 0 := by omega
                                                                         rfl⟩
  case round =>
    obtain ⟨k, n, rfl, hk, rfl, hall⟩ := hrel
    have HA := Lib.hid hall
    clear hall
    obtain ⟨S0, c0, y0, hI0, hc0, hm0⟩ := (HI.out.drewN n).cell_at h0
    rw [Nat.add_zero] at y0
    have HI0 := Lib.hid hI0
    clear hI0
    by_cases hlt : k < ss.length - 1
    · have p1 : k + 1 < ss.length := by omega
      have k1 : (k : Int) < ((ss.length - 1 : Nat) : Int) := by omega
      obtain ⟨S1, c1, y1, hI1, hc1, hm1⟩ := (HI.out.drewN n).cell_at p1
      rw [show off + (k + 1) = off + 1 + k by omega] at y1
      have HI1 := Lib.hid hI1
      clear hI1
      have z1 := Hz.out _ (List.getElem_mem p1)
      have z0 := Hz.out _ (List.getElem_mem h0)
      by_cases hq : ss[k + 1] = ss[0]
      · have hb : (ss[k + 1] == ss[0]) = true := by simp [hq]
        have HB := Lib.hid hb
        have HQ := Lib.hid hq
        clear hq hb
        go_wp2_with fail
        refine (shape_equal S1 S0 c1 c0 ss[k + 1] ss[0] _ z1 z0 HI1.out HI0.out).mono ?_
        rintro e w1 ⟨rfl, n1, rfl⟩
        rw [HB.out]
        go_wp2_with fail
        go_roundw
        case rel => exact ⟨k + 1, n + n1, by first | rfl | exact World.drewN_drewN _ _ _, by omega, by go_num, fun j hj h => by
          by_cases e : j = k + 1
          · subst e; exact HQ.out
          · exact HA.out j hj (by omega)⟩
        case measure => simp [intOf]; omega
      · have hb : (ss[k + 1] == ss[0]) = false := by simp [hq]
        have HE := Lib.hid (Od.same_bad p1 h0 hq)
        have HB := Lib.hid hb
        clear hq hb
        go_wp2_with fail
        refine (shape_equal S1 S0 c1 c0 ss[k + 1] ss[0] _ z1 z0 HI1.out HI0.out).mono ?_
        rintro e w1 ⟨rfl, n1, rfl⟩
        rw [HB.out]
        go_wp2_with fail
        go_ret2
        exact ShPost.fail HE.out (Bdrawn (Below.refl _ _) _)
    · obtain rfl : k = ss.length - 1 := by omega
      have k1 : ¬ (((ss.length - 1 : Nat) : Int) < ((ss.length - 1 : Nat) : Int)) := by omega
      have HE := Lib.hid (Od.same_good h0 fun j hj => HA.out j hj (by omega))
      have z0 := Hz.out _ (List.getElem_mem h0)
      go_wp2_with fail
      refine (shape_copy S0 c0 ss[0] _ z0 HI0.out).mono ?_
      rintro e w1 ⟨g, rfl, hg, hB, h1⟩
      go_wp2_with fail
      go_ret2
      exact ShPost.fresh HE.out rfl hg hB (Nat.le_refl _) (by omega) ((Bdrawn (Below.refl _ _) n).trans h1)

set_option maxHeartbeats 4000000 in
theorem op_turned (A B : Option Addr) (c d : Nat) (xs ss : List Int) (w : World) (hx : xs.length ≤ 17592186043904) (hs : ss.length ≤ 17592186043904) (hI : Ints .i64 w A xs) (hJ : Ints .i64 w B ss) :
    Calls Try.prog 68 #[.slice A xs.length c, .slice B ss.length d] w (ShPost (Od.turned xs ss) w) := by
  have HI := Lib.hid hI
  have HJ := Lib.hid hJ
  clear hI hJ
  cases hr : Sh.right xs
  · have HE := Lib.hid (show Od.turned xs ss = ([], 20) by simp [Od.turned, hr])
    have HS := Lib.hid (show Sh.size xs = (0, 20) by simp [Sh.size, hr])
    clear hr
    go_enter Try.func68, Try.ntmps68
    go_wp2_with fail
    refine (shape_size A c xs _ (by omega) HI.out).mono ?_
    rintro e w1 ⟨rfl, h1⟩
    rw [HS.out]
    go_wp2_with fail
    go_ret2
    exact ShPost.fail HE.out h1
  have HS := Lib.hid (show Sh.size xs = (Safe.prod xs, 0) by simp [Sh.size, hr])
  cases hq : Sh.right ss
  · have HE := Lib.hid (show Od.turned xs ss = ([], 20) by simp [Od.turned, hq])
    have HT := Lib.hid (show Sh.size ss = (0, 20) by simp [Sh.size, hq])
    clear hr hq
    go_enter Try.func68, Try.ntmps68
    go_wp2_with fail
    refine (shape_size A c xs _ (by omega) HI.out).mono ?_
    rintro e w1 ⟨rfl, h1⟩
    rw [HS.out]
    go_wp2_with fail
    refine (shape_size B d ss _ (by omega) (HJ.out.below h1 (Nat.le_refl _))).mono ?_
    rintro e w2 ⟨rfl, h2⟩
    rw [HT.out]
    go_wp2_with fail
    go_ret2
    exact ShPost.fail HE.out (h1.trans (h2.mono h1.size))
  have HT := Lib.hid (show Sh.size ss = (Safe.prod ss, 0) by simp [Sh.size, hq])
  by_cases hp : Safe.prod ss = Safe.prod xs
  · have HE := Lib.hid (show Od.turned xs ss = (ss, 0) by simp [Od.turned, hr, hq, hp])
    have d5 : (Safe.prod ss != Safe.prod xs) = false := by simp [hp]
    clear hr hq hp
    go_enter Try.func68, Try.ntmps68
    go_wp2_with fail
    refine (shape_size A c xs _ (by omega) HI.out).mono ?_
    rintro e w1 ⟨rfl, h1⟩
    rw [HS.out]
    go_wp2_with fail
    refine (shape_size B d ss _ (by omega) (HJ.out.below h1 (Nat.le_refl _))).mono ?_
    rintro e w2 ⟨rfl, h2⟩
    have hb2 := h1.trans (h2.mono h1.size)
    rw [HT.out]
    go_wp2_with fail
    refine (shape_copy B d ss _ hs (HJ.out.below hb2 (Nat.le_refl _))).mono ?_
    rintro e w3 ⟨g, rfl, hg, hB, h3⟩
    go_wp2_with fail
    go_ret2
    exact ShPost.fresh HE.out rfl (Nat.le_trans hb2.size hg) hB (Nat.le_refl _) (by omega) (hb2.trans (h3.mono hb2.size))
  · have HE := Lib.hid (show Od.turned xs ss = ([], 20) by simp [Od.turned, hp])
    have d5 : (Safe.prod ss != Safe.prod xs) = true := by simp [hp]
    clear hr hq hp
    go_enter Try.func68, Try.ntmps68
    go_wp2_with fail
    refine (shape_size A c xs _ (by omega) HI.out).mono ?_
    rintro e w1 ⟨rfl, h1⟩
    rw [HS.out]
    go_wp2_with fail
    refine (shape_size B d ss _ (by omega) (HJ.out.below h1 (Nat.le_refl _))).mono ?_
    rintro e w2 ⟨rfl, h2⟩
    rw [HT.out]
    go_wp2_with fail
    go_ret2
    exact ShPost.fail HE.out (h1.trans (h2.mono h1.size))

theorem Od.join_right {s t : List Int} {side : Int} (h : (Od.join s t side).2 = 0) : Sh.right (Od.join s t side).1 = true := by
  unfold Od.join at h ⊢
  split at h
  · rename_i h1
    rw [if_pos h1]
    split at h
    · rename_i h2
      rw [if_pos h2]
      split at h
      · rename_i h3
        rw [if_pos h3]
        simp at h3
        exact h3.2
      · simp at h
    · simp at h
  · simp at h
theorem Od.join_err {s t : List Int} {side : Int} (h : (Od.join s t side).2 ≠ 0) : (Od.join s t side).1 = [] := by
  unfold Od.join at h ⊢
  split
  · split
    · split
      · rename_i h1 h2 h3; simp [h1, h2, h3] at h
      · rfl
    · rfl
  · rfl
set_option maxHeartbeats 4000000 in
theorem op_joined (A : Option Addr) (c : Nat) (side : Int) (ss : List (List Int)) (w : World) (h0 : 0 < ss.length) (hc : ss.length ≤ c) (hm : c ≤ 9223372036854775807) (hI : Shps w A ss) (hz : ∀ s ∈ ss, s.length ≤ 17592186043904) :
    Calls Try.prog 66 #[.int .i64 side, .slice A ss.length c] w (ShPost (Od.joined side ss) w) := by
  obtain ⟨b, off, _, _, rfl, hb, -⟩ := hI 0 h0
  have e0 : (0 : Int) < ss.length := by omega
  have e1 : (1 : Int) ≤ ss.length := by omega
  have z0 := hz _ (List.getElem_mem h0)
  obtain ⟨S0, c0, y0, hI0, hc0, hm0⟩ := hI.cell_at h0
  rw [Nat.add_zero] at y0
  have HI := Lib.hid hI
  have Hz := Lib.hid hz
  have HI0 := Lib.hid hI0
  clear hI hz hI0
  have bad : ss.length = 1 → ¬ (0 ≤ side ∧ side < ss[0].length) → Od.joined side ss = ([], 11) := fun h1 h2 => by
    unfold Od.joined
    rw [if_pos ⟨h1, by rw [gets_at h0]; simp [Od.inR]; omega⟩]
  have good : (ss.length = 1 → 0 ≤ side ∧ side < ss[0].length) → Od.joined side ss = Od.joinAll side ss[0] (ss.drop 1) := fun h => by
    unfold Od.joined
    rw [if_neg, gets_at h0]
    rw [gets_at h0]
    rintro ⟨h1, h2⟩
    simp [Od.inR] at h2
    have := h h1
    omega
  by_cases c1 : ss.length = 1
  · have d1 : ((ss.length : Int) == 1) = true := by simp; omega
    have l0 : ss.length - 1 = 0 := by omega
    have bad := bad c1
    by_cases s1 : side < 0
    · have HE := Lib.hid (bad (by omega))
      clear bad good c1
      go_enter Try.func66, Try.ntmps66
      go_wp2_with fail
      go_ret2
      exact ShPost.fail HE.out (Below.refl _ _)
    · by_cases s2 : (ss[0].length : Int) ≤ side
      · have HE := Lib.hid (bad (by omega))
        clear bad good c1
        go_enter Try.func66, Try.ntmps66
        go_wp2_with fail
        go_ret2
        exact ShPost.fail HE.out (Below.refl _ _)
      · have HE := Lib.hid (show Od.joined side ss = (ss[0], 0) by rw [good (by omega), List.drop_eq_nil_of_le (by omega)]; rfl)
        clear bad good c1
        by_cases hc1 : c = 1
        · subst hc1
          go_enter Try.func66, Try.ntmps66
          go_wp2_with fail
          refine (shape_copy S0 c0 ss[0] _ z0 HI0.out).mono ?_
          rintro e w1 ⟨g, rfl, hg, hB, h1⟩
          have HB := Lib.hid hB
          clear hB y0
          go_wp2_with fail
          go_loopw [6, 33] (fun v i wr => v = .slice (some ⟨g, 0, none⟩) ss[0].length ss[0].length ∧ wr = w1 ∧ i = .int .i64 0) (fun _ _ _ => 0)
          case atStart => exact ⟨rfl, rfl, rfl⟩
          case round =>
            obtain ⟨rfl, rfl, rfl⟩ := hrel
            go_wp2_with fail
            go_ret2
            exact ShPost.fresh HE.out rfl hg HB.out (Nat.le_refl _) (by omega) h1
        · go_enter Try.func66, Try.ntmps66
          go_wp2_with fail
          refine (shape_copy S0 c0 ss[0] _ z0 HI0.out).mono ?_
          rintro e w1 ⟨g, rfl, hg, hB, h1⟩
          have HB := Lib.hid hB
          clear hB y0
          go_wp2_with fail
          go_loopw [6, 33] (fun v i wr => v = .slice (some ⟨g, 0, none⟩) ss[0].length ss[0].length ∧ wr = w1 ∧ i = .int .i64 0) (fun _ _ _ => 0)
          case atStart => exact ⟨rfl, rfl, rfl⟩
          case round =>
            obtain ⟨rfl, rfl, rfl⟩ := hrel
            go_wp2_with fail
            go_ret2
            exact ShPost.fresh HE.out rfl hg HB.out (Nat.le_refl _) (by omega) h1
  · have d1 : ((ss.length : Int) == 1) = false := by simp; omega
    have hc1 : ¬ c = 1 := by omega
    have HG := Lib.hid (good (by omega))
    clear bad good c1
    go_enter Try.func66, Try.ntmps66
    go_wp2_with fail
    refine (shape_copy S0 c0 ss[0] _ z0 HI0.out).mono ?_
    rintro e w1 ⟨g, rfl, hg, hB, h1⟩
    have HB := Lib.hid (show Blk w1 g 3 (ss[0].map (Value.int .i64)).toArray from hB)
    clear hB y0
    go_wp2_with fail
    go_loopw [6, 33] (fun v i wr => ∃ (k : Nat) (cur : List Int) (S : Option Addr) (d : Nat), k ≤ ss.length - 1 ∧ i = .int .i64 k ∧ v = .slice S cur.length d ∧ Ints .i64 wr S cur ∧ cur.length ≤ d ∧ d ≤ 9223372036854775807 ∧ cur.length ≤ 17592186043904 ∧ (∀ a, S = some a → w.heap.size ≤ a.block) ∧ Below w.heap.size w wr ∧ Od.joined side ss = Od.joinAll side cur (ss.drop (k + 1))) (fun _ i _ => ss.length - (intOf i).toNat)
    case atStart => exact ⟨0, ss[0], _, _, Nat.zero_le _, rfl, rfl, Ints.of_row fun j hj => by rw [HB.out.cell]; simp [hj], Nat.le_refl _, by omega, by omega, (fun a h => by injection h with h; subst h; exact hg), h1, HG.out⟩
    case round =>
      obtain ⟨k, cur, S, d, hk, rfl, rfl, hcur, q1, q2, q3, hfr, hbw, hgo⟩ := hrel
      have Hcur := Lib.hid hcur
      have Hgo := Lib.hid hgo
      have Hfr := Lib.hid hfr
      clear hcur hgo hfr
      clear HB
      by_cases hlt : k < ss.length - 1
      · have p1 : k + 1 < ss.length := by omega
        have k1 : (k : Int) < ((ss.length - 1 : Nat) : Int) := by omega
        obtain ⟨S1, c1, y1, hI1, hc1, hm1⟩ := (HI.out.below hbw (Nat.le_refl _)).cell_at p1
        rw [show off + (k + 1) = off + 1 + k by omega] at y1
        have z1 := Hz.out _ (List.getElem_mem p1)
        have hj := shape_join S S1 d c1 cur ss[k + 1] side wr q3 z1 Hcur.out hI1
        have hgo2 : Od.joinAll side cur (ss.drop (k + 1)) = if (Od.join cur ss[k + 1] side).2 = 0 then Od.joinAll side (Od.join cur ss[k + 1] side).1 (ss.drop (k + 1 + 1)) else ([], (Od.join cur ss[k + 1] side).2) := by
          rw [List.drop_eq_getElem_cons p1, Od.joinAll]
        have hright := fun h : (Od.join cur ss[k + 1] side).2 = 0 => Sh.right_mul (Od.join_right (s := cur) (t := ss[k + 1]) (side := side) h)
        have herr := fun h : (Od.join cur ss[k + 1] side).2 ≠ 0 => Od.join_err (s := cur) (t := ss[k + 1]) (side := side) h
        generalize Od.join cur ss[k + 1] side = r at *
        have Hj := Lib.hid hj
        have Hgo2 := Lib.hid hgo2
        have HI1 := Lib.hid hI1
        have Hright := Lib.hid hright
        have Herr := Lib.hid herr
        clear hj hgo2 hI1 hright herr
        go_wp2_with fail
        refine (Hj.out).mono ?_
        rintro e w2 ⟨S2, d2, rfl, hI2, l1, l2, hf2, hb2⟩
        have hbw2 := hbw.trans (hb2.mono hbw.size)
        have HI2 := Lib.hid hI2
        have Hf2 := Lib.hid hf2
        clear hI2 hf2
        by_cases hr : r.2 = 0
        · have d3 : (r.2 != 0) = false := by simp [hr]
          have HR := Lib.hid hr
          clear hr
          go_wp2_with fail
          go_roundw
          case rel => exact ⟨k + 1, r.1, S2, d2, by omega, by go_num, rfl, HI2.out, l1, l2, by have := (Hright.out HR.out).2.1; omega, (fun a h => Nat.le_trans hbw.size (Hf2.out a h)), hbw2, by rw [Hgo.out, Hgo2.out, if_pos HR.out]⟩
          case measure => simp [intOf]; omega
        · have d3 : (r.2 != 0) = true := by simp [hr]
          have HE := Lib.hid (show Od.joined side ss = ([], r.2) by rw [Hgo.out, Hgo2.out, if_neg hr])
          clear hr
          go_wp2_with fail
          go_ret2
          exact ShPost.fail HE.out hbw2
      · obtain rfl : k = ss.length - 1 := by omega
        have k1 : ¬ (((ss.length - 1 : Nat) : Int) < ((ss.length - 1 : Nat) : Int)) := by omega
        have HE := Lib.hid (show Od.joined side ss = (cur, 0) by rw [Hgo.out, List.drop_eq_nil_of_le (by omega)]; rfl)
        go_wp2_with fail
        go_ret2
        exact ShPost.mk' HE.out rfl Hcur.out q1 q2 Hfr.out hbw
end Go.Proofs.Ytnofeebcmmmlhaa
/- Layer 10 (op): the answer's shape: contract. -/
namespace Go.Proofs.Ytnofeebcmmmlhaa
open Go.RowKit

theorem Od.shape_bad_p {o : OpD} {p x : List (List Int)} (h : Od.counts o p.length x.length = 0) (hp : ¬ (p.all Sh.right = true ∧ x.all Sh.right = true)) : Od.shape o p x = ([], 20) := by
  unfold Od.shape
  rw [if_neg (by simp [h]), if_neg (by simpa using hp)]
theorem Od.shape_go {o : OpD} {p x : List (List Int)} (h : Od.counts o p.length x.length = 0) (hp : p.all Sh.right = true) (hx : x.all Sh.right = true) : Od.shape o p x = Od.byKind o p x := by
  unfold Od.shape
  rw [if_neg (by simp [h]), if_pos (by simp only [Bool.and_eq_true]; exact ⟨hp, hx⟩)]
theorem Od.counts_ok {o : OpD} {p x : Int} (h : Od.counts o p x = 0) : Od.right o = true ∧ Od.least o ≤ x ∧ x ≤ Od.most o ∧ p = Od.params o := by
  unfold Od.counts at h
  split at h
  · rename_i hr
    split at h
    · simp at h
    · rename_i hc; exact ⟨hr, by omega, by omega, by omega⟩
  · simp at h
theorem all_bad {ss : List (List Int)} {k : Nat} (hk : k < ss.length) (h : Sh.right ss[k] = false) : ¬ ss.all Sh.right = true := by
  rw [List.all_eq_true]
  intro q
  have := q _ (List.getElem_mem hk)
  rw [h] at this
  cases this
/-- Behind the counts: all shapes are looked at. -/
def ShpIn (w : World) (A : Option Addr) (c : Nat) (ss : List (List Int)) : Prop := Shps w A ss ∧ ss.length ≤ c ∧ c ≤ 9223372036854775807 ∧ ∀ s ∈ ss, s.length ≤ 17592186043904
theorem ShpIn.below {w w' : World} {A : Option Addr} {c B : Nat} {ss : List (List Int)} (h : ShpIn w A c ss) (hb : Below B w w') (hB : w.heap.size ≤ B) : ShpIn w' A c ss := ⟨h.1.below hb hB, h.2⟩
theorem ShpIn.at_ {w : World} {A : Option Addr} {c : Nat} {ss : List (List Int)} (h : ShpIn w A c ss) {k : Nat} (hk : k < ss.length) :
    ∃ b off S d, A = some ⟨b, off, none⟩ ∧ w.cell? ⟨b, off + k, none⟩ = some (.slice S ss[k].length d) ∧ Ints .i64 w S ss[k] ∧ ss[k].length ≤ d ∧ d ≤ 9223372036854775807 ∧ ss[k].length ≤ 17592186043904 := by
  obtain ⟨b, off, S, d, e, _, hc, h1, h2, h3⟩ := h.1 k hk
  exact ⟨b, off, S, d, e, hc, h1, h2, h3, h.2.2.2 _ (List.getElem_mem hk)⟩
theorem ShpIn.two {w : World} {A : Option Addr} {c : Nat} {ss : List (List Int)} (h : ShpIn w A c ss) (h1 : 1 < ss.length) :
    ∃ b off S d S' d', A = some ⟨b, off, none⟩ ∧ w.cell? ⟨b, off, none⟩ = some (.slice S ss[0].length d) ∧ w.cell? ⟨b, off + 1, none⟩ = some (.slice S' ss[1].length d') ∧ Ints .i64 w S ss[0] ∧ Ints .i64 w S' ss[1] ∧ ss[0].length ≤ 17592186043904 ∧ ss[1].length ≤ 17592186043904 := by
  obtain ⟨b, off, S, d, rfl, y, hI, _, _, l⟩ := h.at_ (by omega : 0 < ss.length)
  obtain ⟨b', off', S', d', e, y', hI', _, _, l'⟩ := h.at_ h1
  injection e with e
  injection e with e1 e2
  subst e1 e2
  exact ⟨b, off, S, d, S', d', rfl, y, y', hI, hI', l, l'⟩
theorem cell_below {w w' : World} {p : Addr} {v : Value} (hb : Below w.heap.size w w') (hc : w.cell? p = some v) : w'.cell? p = some v := (hb.cell (p := p) (World.block_lt_of_cell? _ _ hc)).trans hc
theorem pair_shps {w : World} {t : TypeId} {S S' : Option Addr} {d d' : Nat} {s s' : List Int} (h : Ints .i64 w S s) (h' : Ints .i64 w S' s') (l1 : s.length ≤ d) (l2 : d ≤ 9223372036854775807) (l1' : s'.length ≤ d') (l2' : d' ≤ 9223372036854775807) :
    Shps (w.alloc (.cells #[.slice S s.length d, .slice S' s'.length d'] t)) (some ⟨w.heap.size, 0, none⟩) [s, s'] := fun j hj => by
  have hk := Blk.new w t #[.slice S s.length d, .slice S' s'.length d']
  match j, hj with
  | 0, _ => exact ⟨_, _, S, d, rfl, hk.lt, by rw [hk.cell]; rfl, h.alloc _, l1, l2⟩
  | 1, _ => exact ⟨_, _, S', d', rfl, hk.lt, by rw [hk.cell]; rfl, h'.alloc _, l1', l2'⟩
theorem ShPost.pass {r r' : List Int × Int} {w wx w' : World} {S : Option Addr} {d : Nat} (he : r' = r) (hbx : Below w.heap.size w wx) (hI : Ints .i64 w' S r.1) (h1 : r.1.length ≤ d) (h2 : d ≤ 9223372036854775807) (hf : ∀ a, S = some a → wx.heap.size ≤ a.block) (hb : Below wx.heap.size wx w') :
    ShPost r' w (.returned (.tuple #[.slice S r.1.length d, .int .i64 r.2])) w' := by
  subst he
  exact ⟨S, d, rfl, hI, h1, h2, (fun a h => Nat.le_trans hbx.size (hf a h)), hbx.trans (hb.mono hbx.size)⟩
set_option maxHeartbeats 8000000 in
theorem op_shape (o : OpD) (S P X : Option Addr) (c d f : Nat) (p x : List (List Int)) (w : World) (ho : o.s.length ≤ 17592186043904) (hI : Ints .i64 w S o.s) (hP : ShpIn w P d p) (hX : ShpIn w X f x) :
    Calls Try.prog 51 #[.agg #[.int .i64 o.kind, .int .i64 o.k, .int .i64 o.width, .int .i64 o.step, .int .i64 o.side, .int .i64 o.frm, .int .i64 o.to, .slice S o.s.length c], .slice P p.length d, .slice X x.length f] w (ShPost (Od.shape o p x) w) := by
  have hk0 := Blk.new w 65 #[.int .i64 o.kind, .int .i64 o.k, .int .i64 o.width, .int .i64 o.step, .int .i64 o.side, .int .i64 o.frm, .int .i64 o.to, .slice S o.s.length c]
  have hb0 : Below w.heap.size w (w.alloc (.cells #[.int .i64 o.kind, .int .i64 o.k, .int .i64 o.width, .int .i64 o.step, .int .i64 o.side, .int .i64 o.frm, .int .i64 o.to, .slice S o.s.length c] 65)) := (Below.refl _ _).alloc (Nat.le_refl _) _
  have hlt0 := hk0.lt
  have hr := op_counts o S c p.length x.length (w.alloc (.cells #[.int .i64 o.kind, .int .i64 o.k, .int .i64 o.width, .int .i64 o.step, .int .i64 o.side, .int .i64 o.frm, .int .i64 o.to, .slice S o.s.length c] 65)) ho (hI.alloc _)
  have hpl : p.length ≤ 9223372036854775807 := by have := hP.2.1; have := hP.2.2.1; omega
  have hxl : x.length ≤ 9223372036854775807 := by have := hX.2.1; have := hX.2.2.1; omega
  by_cases hq : Od.counts o p.length x.length = 0
  case neg =>
    have d1 : (Od.counts o p.length x.length != 0) = true := by simp [hq]
    have HE := Lib.hid (show Od.shape o p x = ([], Od.counts o p.length x.length) by unfold Od.shape; rw [if_pos hq])
    generalize Od.counts o p.length x.length = n at *
    have Hr := Lib.hid hr
    have Hk0 := Lib.hid hk0
    have HI := Lib.hid hI
    have HP := Lib.hid hP
    have HX := Lib.hid hX
    clear hr hk0 hI hP hX
    clear hq
    go_enter Try.func51, Try.ntmps51
    go_wp2_with fail
    refine (Hr.out).mono ?_
    rintro e w1 ⟨rfl, h1⟩
    go_wp2_with fail
    go_ret2
    exact ShPost.fail HE.out (hb0.trans (h1.mono hb0.size))
  have HQ := Lib.hid hq
  rw [hq] at hr
  have Hr := Lib.hid hr
  have Hk0 := Lib.hid hk0
  have HI := Lib.hid hI
  have HP := Lib.hid hP
  have HX := Lib.hid hX
  clear hr hk0 hI hP hX
  clear hq
  go_enter Try.func51, Try.ntmps51
  go_wp2_with fail
  refine (Hr.out).mono ?_
  rintro e w1 ⟨rfl, h1⟩
  have hb1 := hb0.trans (h1.mono hb0.size)
  have HK := Lib.hid (Hk0.out.below h1 hlt0)
  clear Hk0 Hr
  go_wp2_with fail
  go_loopw [24] (fun i wr => ∃ k : Nat, k ≤ p.length ∧ i = .int .i64 k ∧ Blk wr w.heap.size 65 #[.int .i64 o.kind, .int .i64 o.k, .int .i64 o.width, .int .i64 o.step, .int .i64 o.side, .int .i64 o.frm, .int .i64 o.to, .slice S o.s.length c] ∧ Below w.heap.size w wr ∧ ∀ j (h : j < p.length), j < k → Sh.right p[j] = true) (fun i _ => p.length - (intOf i).toNat)
  case atStart => exact ⟨0, Nat.zero_le _, rfl, HK.out, hb1, fun j _ h => by omega⟩
  case round =>
    obtain ⟨k, hk, rfl, hblk, hbw, hall⟩ := hrel
    have Hblk := Lib.hid hblk
    have Hall := Lib.hid hall
    clear hblk hall
    clear HK hb1
    by_cases hlt : k < p.length
    · obtain ⟨b, off, S1, d1, rfl, y1, hI1, l1, l2, l3⟩ := (HP.out.below hbw (Nat.le_refl _)).at_ hlt
      have hcall := shape_right S1 d1 p[k] wr (by omega) hI1
      cases hrr : Sh.right p[k]
      · have HE := Lib.hid (Od.shape_bad_p (x := x) HQ.out fun q => all_bad hlt hrr q.1)
        rw [hrr] at hcall
        have Hcall := Lib.hid hcall
        have HI1 := Lib.hid hI1
        clear hcall hI1
        clear hrr
        go_wp2_with fail
        refine (Hcall.out).mono ?_
        rintro e w2 ⟨rfl, h2⟩
        go_wp2_with fail
        go_ret2
        exact ShPost.fail HE.out (hbw.trans (h2.mono hbw.size))
      · rw [hrr] at hcall
        have Hcall := Lib.hid hcall
        have HI1 := Lib.hid hI1
        have Hrr := Lib.hid hrr
        clear hcall hI1 hrr
        go_wp2_with fail
        refine (Hcall.out).mono ?_
        rintro e w2 ⟨rfl, h2⟩
        go_wp2_with fail
        go_roundw
        case rel => exact ⟨k + 1, by omega, by go_num, Hblk.out.below h2 Hblk.out.lt, hbw.trans (h2.mono hbw.size), fun j hj h => by
          by_cases e : j = k
          · subst e; exact Hrr.out
          · exact Hall.out j hj (by omega)⟩
        case measure => simp [intOf]; omega
    · obtain rfl : k = p.length := by omega
      have HPA := Lib.hid (show p.all Sh.right = true by
        rw [List.all_eq_true]
        intro s hs
        obtain ⟨j, hj, rfl⟩ := List.getElem_of_mem hs
        exact Hall.out j hj hj)
      clear Hall
      go_wp2_with fail
      go_loopw [34] (fun i wx => ∃ k : Nat, k ≤ x.length ∧ i = .int .i64 k ∧ Blk wx w.heap.size 65 #[.int .i64 o.kind, .int .i64 o.k, .int .i64 o.width, .int .i64 o.step, .int .i64 o.side, .int .i64 o.frm, .int .i64 o.to, .slice S o.s.length c] ∧ Below w.heap.size w wx ∧ ∀ j (h : j < x.length), j < k → Sh.right x[j] = true) (fun i _ => x.length - (intOf i).toNat)
      case atStart => exact ⟨0, Nat.zero_le _, rfl, Hblk.out, hbw, fun j _ h => by omega⟩
      case round =>
        obtain ⟨k, hk, rfl, hblx, hbx, hall⟩ := hrel
        have Hblx := Lib.hid hblx
        have Hall := Lib.hid hall
        clear hblx hall
        clear Hblk hbw
        by_cases hlt : k < x.length
        · obtain ⟨b, off, S1, d1, rfl, y1, hI1, l1, l2, l3⟩ := (HX.out.below hbx (Nat.le_refl _)).at_ hlt
          have hcall := shape_right S1 d1 x[k] wr (by omega) hI1
          cases hrr : Sh.right x[k]
          · have HE := Lib.hid (Od.shape_bad_p (p := p) HQ.out fun q => all_bad hlt hrr q.2)
            rw [hrr] at hcall
            have Hcall := Lib.hid hcall
            have HI1 := Lib.hid hI1
            clear hcall hI1
            clear hrr
            go_wp2_with fail
            refine (Hcall.out).mono ?_
            rintro e w2 ⟨rfl, h2⟩
            go_wp2_with fail
            go_ret2
            exact ShPost.fail HE.out (hbx.trans (h2.mono hbx.size))
          · rw [hrr] at hcall
            have Hcall := Lib.hid hcall
            have HI1 := Lib.hid hI1
            have Hrr := Lib.hid hrr
            clear hcall hI1 hrr
            go_wp2_with fail
            refine (Hcall.out).mono ?_
            rintro e w2 ⟨rfl, h2⟩
            go_wp2_with fail
            go_roundw
            case rel => exact ⟨k + 1, by omega, by go_num, Hblx.out.below h2 Hblx.out.lt, hbx.trans (h2.mono hbx.size), fun j hj h => by
              by_cases e : j = k
              · subst e; exact Hrr.out
              · exact Hall.out j hj (by omega)⟩
            case measure => simp [intOf]; omega
        · obtain rfl : k = x.length := by omega
          have hgo := Od.shape_go HQ.out HPA.out (show x.all Sh.right = true by
            rw [List.all_eq_true]
            intro s hs
            obtain ⟨j, hj, rfl⟩ := List.getElem_of_mem hs
            exact Hall.out j hj hj)
          clear Hall HPA
          obtain ⟨q1, q2, q3, q4⟩ := Od.counts_ok HQ.out
          have hkind := Od.right_kind q1
          have hleast := Od.least_pos q1
          have hpar : Od.params o = if o.kind = 8 then 2 else if o.kind = 9 ∨ o.kind = 10 then 1 else 0 := by unfold Od.params; rw [if_pos q1]
          have hx0 : 0 < x.length := by omega
          obtain ⟨b, off, S1, d1, rfl, y1, hI1, l1, l2, l3⟩ := (HX.out.below hbx (Nat.le_refl _)).at_ hx0
          obtain ⟨x0, x1, x2, x3, x4, x5, x6, x7⟩ := op_cells Hblx.out
          rw [Nat.add_zero] at y1
          have f0 : (0 : Int) < x.length := by omega
          by_cases k8 : o.kind = 8
          · have hidk := Lib.hid k8
            have hp2 : p.length = 2 := by simp only [hpar] at q4; split at q4 <;> omega
            have hp0 : 0 < p.length := by omega
            have g0 : (0 : Int) < p.length := by omega
            have hp1 : 1 < p.length := by omega
            have g1 : (1 : Int) < p.length := by omega
            obtain ⟨b', off', S2, d2, S3, d3, rfl, y2, y3, hI2, hI3, m3, n3⟩ := (HP.out.below hbx (Nat.le_refl _)).two hp1
            have HE := Lib.hid (show Od.shape o p x = Od.dense p[0] p[1] x[0] by rw [hgo]; unfold Od.byKind; rw [if_pos k8, gets_at hp0, gets_at hp1, gets_at hx0])
            have hself : Below wr.heap.size wr wr.drew := (Below.refl _ _).drew
            have hkeep : ∀ W, Below wr.heap.size wr W → W.cell? ⟨b', off', none⟩ = some (.slice S2 p[0].length d2) ∧ W.cell? ⟨b', off' + 1, none⟩ = some (.slice S3 p[1].length d3) ∧ W.cell? ⟨b, off, none⟩ = some (.slice S1 x[0].length d1) := fun W hW => ⟨cell_below hW y2, cell_below hW y3, cell_below hW y1⟩
            have Hkeep := Lib.hid hkeep
            clear hkeep
            have HI1 := Lib.hid hI1
            have HI2 := Lib.hid hI2
            have HI3 := Lib.hid hI3
            clear hI1 hI2 hI3
            clear hgo hkind hleast q1 q2 q3 q4 hpar hp2
            skip
            all_goals
              rw [k8] at x0
              clear k8 hidk
              go_wp2_with fail
              go_region_held3 (fun W => W.cell? ⟨b', off', none⟩ = some (.slice S2 p[0].length d2) ∧ W.cell? ⟨b', off' + 1, none⟩ = some (.slice S3 p[1].length d3) ∧ W.cell? ⟨b, off, none⟩ = some (.slice S1 x[0].length d1)) (first | exact Hkeep.out _ hb5 | exact Hkeep.out _ hself)
                ((go_at_call 62; refine (op_dense S2 S3 S1 d2 d3 d1 p[0] p[1] x[0] _ l3 (HI2.out.below hself (Nat.le_refl _)) (HI3.out.below hself (Nat.le_refl _)) (HI1.out.below hself (Nat.le_refl _))).mono ?_; rintro e w3 ⟨S5, d5, rfl, hI5, r1, r2, hf5, hb5⟩; have hb5 := hself.trans hb5; have HI5 := Lib.hid hI5; clear hI5))
              all_goals
                go_wp2_with fail
                go_ret2
                exact ShPost.pass HE.out hbx HI5.out r1 r2 hf5 hb5
          by_cases k10 : o.kind = 10
          · have hidk := Lib.hid k10
            have hpx : p.length = 1 := by simp only [hpar] at q4; split at q4 <;> omega
            have hp0 : 0 < p.length := by omega
            have g0 : (0 : Int) < p.length := by omega
            obtain ⟨b', off', S2, d2, rfl, y2, hI2, m1, m2, m3⟩ := (HP.out.below hbx (Nat.le_refl _)).at_ hp0
            rw [Nat.add_zero] at y2
            have HE := Lib.hid (show Od.shape o p x = Od.conv p[0] x[0] o.step by rw [hgo]; unfold Od.byKind; rw [if_neg (by omega), if_neg (by omega), if_pos k10, gets_at hp0, gets_at hx0])
            have hself : Below wr.heap.size wr wr.drew := (Below.refl _ _).drew
            have hkeep : ∀ W, Below wr.heap.size wr W → W.cell? ⟨b', off', none⟩ = some (.slice S2 p[0].length d2) ∧ W.cell? ⟨b, off, none⟩ = some (.slice S1 x[0].length d1) ∧ W.cell? ⟨w.heap.size, 3, none⟩ = some (.int .i64 o.step) := fun W hW => ⟨cell_below hW y2, cell_below hW y1, cell_below hW x3⟩
            have Hkeep := Lib.hid hkeep
            clear hkeep
            have HI1 := Lib.hid hI1
            have HI2 := Lib.hid hI2
            clear hI1 hI2
            clear hgo hkind hleast q1 q2 q3 q4 hpar hpx
            skip
            all_goals
              rw [k10] at x0
              clear k10 hidk
              go_wp2_with fail
              go_region_held3 (fun W => W.cell? ⟨b', off', none⟩ = some (.slice S2 p[0].length d2) ∧ W.cell? ⟨b, off, none⟩ = some (.slice S1 x[0].length d1) ∧ W.cell? ⟨w.heap.size, 3, none⟩ = some (.int .i64 o.step)) (first | exact Hkeep.out _ hb5 | exact Hkeep.out _ hself)
                ((go_at_call 64; refine (conv_shape S2 S1 d2 d1 p[0] x[0] o.step _ m3 l3 l1 l2 (HI2.out.below hself (Nat.le_refl _)) (HI1.out.below hself (Nat.le_refl _))).mono ?_; rintro e w3 ⟨S5, d5, rfl, hI5, r1, r2, hf5, hb5⟩; have hb5 := hself.trans hb5; have HI5 := Lib.hid hI5; clear hI5))
              all_goals
                go_wp2_with fail
                go_ret2
                exact ShPost.pass HE.out hbx HI5.out r1 r2 hf5 hb5
          by_cases k11 : o.kind = 11 ∨ o.kind = 12
          · have hidk := Lib.hid k11
            have HE := Lib.hid (show Od.shape o p x = Od.pool x[0] o.width o.step by rw [hgo]; unfold Od.byKind; rw [if_neg (by omega), if_neg (by omega), if_neg (by omega), if_pos (by omega), gets_at hx0])
            have hself : Below wr.heap.size wr wr.drew := (Below.refl _ _).drew
            have hkeep : ∀ W, Below wr.heap.size wr W → W.cell? ⟨b, off, none⟩ = some (.slice S1 x[0].length d1) ∧ W.cell? ⟨w.heap.size, 2, none⟩ = some (.int .i64 o.width) ∧ W.cell? ⟨w.heap.size, 3, none⟩ = some (.int .i64 o.step) := fun W hW => ⟨cell_below hW y1, cell_below hW x2, cell_below hW x3⟩
            have Hkeep := Lib.hid hkeep
            clear hkeep
            have HI1 := Lib.hid hI1
            clear hI1
            clear hgo hkind hleast q1 q2 q3 q4 hpar
            rcases k11 with k11 | k11
            all_goals
              rw [k11] at x0
              clear k11 hidk
              go_wp2_with fail
              go_region_held3 (fun W => W.cell? ⟨b, off, none⟩ = some (.slice S1 x[0].length d1) ∧ W.cell? ⟨w.heap.size, 2, none⟩ = some (.int .i64 o.width) ∧ W.cell? ⟨w.heap.size, 3, none⟩ = some (.int .i64 o.step)) (first | exact Hkeep.out _ hb5 | exact Hkeep.out _ hself)
                ((go_at_call 65; refine (pool_shape S1 d1 x[0] o.width o.step _ l3 (HI1.out.below hself (Nat.le_refl _))).mono ?_; rintro e w3 ⟨S5, d5, rfl, hI5, r1, r2, hf5, hb5⟩; have hb5 := hself.trans hb5; have HI5 := Lib.hid hI5; clear hI5))
              all_goals
                go_wp2_with fail
                go_ret2
                exact ShPost.pass HE.out hbx HI5.out r1 r2 hf5 hb5
          by_cases k13 : o.kind = 13
          · have hidk := Lib.hid k13
            have HE := Lib.hid (show Od.shape o p x = Od.joined o.side x by rw [hgo]; unfold Od.byKind; rw [if_neg (by omega), if_neg (by omega), if_neg (by omega), if_neg (by omega), if_pos (by omega)])
            have hself : Below wr.heap.size wr wr.drew := (Below.refl _ _).drew
            have HI1 := Lib.hid hI1
            clear hI1
            clear hgo hkind hleast q1 q2 q3 q4 hpar
            skip
            all_goals
              rw [k13] at x0
              clear k13 hidk
              go_wp2_with fail
              refine (op_joined _ f o.side x _ hx0 (HX.out.2.1) (HX.out.2.2.1) (HX.out.below hbx (Nat.le_refl _)).1 HX.out.2.2.2).mono ?_
              rintro e w3 ⟨S5, d5, rfl, hI5, r1, r2, hf5, hb5⟩
              have HI5 := Lib.hid hI5
              clear hI5
              go_wp2_with fail
              go_ret2
              exact ShPost.pass HE.out hbx HI5.out r1 r2 hf5 hb5
          by_cases k14 : o.kind = 14
          · have hidk := Lib.hid k14
            have HE := Lib.hid (show Od.shape o p x = Od.cut x[0] o.side o.frm o.to by rw [hgo]; unfold Od.byKind; rw [if_neg (by omega), if_neg (by omega), if_neg (by omega), if_neg (by omega), if_neg (by omega), if_pos (by omega), gets_at hx0])
            have hself : Below wr.heap.size wr wr.drew := (Below.refl _ _).drew
            have hkeep : ∀ W, Below wr.heap.size wr W → W.cell? ⟨b, off, none⟩ = some (.slice S1 x[0].length d1) ∧ W.cell? ⟨w.heap.size, 4, none⟩ = some (.int .i64 o.side) ∧ W.cell? ⟨w.heap.size, 5, none⟩ = some (.int .i64 o.frm) ∧ W.cell? ⟨w.heap.size, 6, none⟩ = some (.int .i64 o.to) := fun W hW => ⟨cell_below hW y1, cell_below hW x4, cell_below hW x5, cell_below hW x6⟩
            have Hkeep := Lib.hid hkeep
            clear hkeep
            have HI1 := Lib.hid hI1
            clear hI1
            clear hgo hkind hleast q1 q2 q3 q4 hpar
            skip
            all_goals
              rw [k14] at x0
              clear k14 hidk
              go_wp2_with fail
              go_region_held3 (fun W => W.cell? ⟨b, off, none⟩ = some (.slice S1 x[0].length d1) ∧ W.cell? ⟨w.heap.size, 4, none⟩ = some (.int .i64 o.side) ∧ W.cell? ⟨w.heap.size, 5, none⟩ = some (.int .i64 o.frm) ∧ W.cell? ⟨w.heap.size, 6, none⟩ = some (.int .i64 o.to)) (first | exact Hkeep.out _ hb5 | exact Hkeep.out _ hself)
                ((go_at_call 67; refine (shape_cut S1 d1 x[0] o.side o.frm o.to _ l3 (HI1.out.below hself (Nat.le_refl _))).mono ?_; rintro e w3 ⟨S5, d5, rfl, hI5, r1, r2, hf5, hb5⟩; have hb5 := hself.trans hb5; have HI5 := Lib.hid hI5; clear hI5))
              all_goals
                go_wp2_with fail
                go_ret2
                exact ShPost.pass HE.out hbx HI5.out r1 r2 hf5 hb5
          by_cases k15 : o.kind = 15
          · have hidk := Lib.hid k15
            have HE := Lib.hid (show Od.shape o p x = Od.turned x[0] o.s by rw [hgo]; unfold Od.byKind; rw [if_neg (by omega), if_neg (by omega), if_neg (by omega), if_neg (by omega), if_neg (by omega), if_neg (by omega), if_pos (by omega), gets_at hx0])
            have hself : Below wr.heap.size wr wr.drew := (Below.refl _ _).drew
            have hkeep : ∀ W, Below wr.heap.size wr W → W.cell? ⟨b, off, none⟩ = some (.slice S1 x[0].length d1) ∧ W.cell? ⟨w.heap.size, 7, none⟩ = some (.slice S o.s.length c) := fun W hW => ⟨cell_below hW y1, cell_below hW x7⟩
            have Hkeep := Lib.hid hkeep
            clear hkeep
            have HI1 := Lib.hid hI1
            clear hI1
            clear hgo hkind hleast q1 q2 q3 q4 hpar
            skip
            all_goals
              rw [k15] at x0
              clear k15 hidk
              go_wp2_with fail
              go_region_held3 (fun W => W.cell? ⟨b, off, none⟩ = some (.slice S1 x[0].length d1) ∧ W.cell? ⟨w.heap.size, 7, none⟩ = some (.slice S o.s.length c)) (first | exact Hkeep.out _ hb5 | exact Hkeep.out _ hself)
                ((go_at_call 68; refine (op_turned S1 S d1 c x[0] o.s _ l3 ho (HI1.out.below hself (Nat.le_refl _)) (HI.out.below (hbx.trans (hself.mono hbx.size)) (Nat.le_refl _))).mono ?_; rintro e w3 ⟨S5, d5, rfl, hI5, r1, r2, hf5, hb5⟩; have hb5 := hself.trans hb5; have HI5 := Lib.hid hI5; clear hI5))
              all_goals
                go_wp2_with fail
                go_ret2
                exact ShPost.pass HE.out hbx HI5.out r1 r2 hf5 hb5
          by_cases k9 : o.kind = 9
          · have hpx : p.length = 1 := by simp only [hpar] at q4; split at q4 <;> omega
            have hp0 : 0 < p.length := by omega
            have g0 : (0 : Int) < p.length := by omega
            obtain ⟨b', off', S2, d2, rfl, y2, hI2, m1, m2, m3⟩ := (HP.out.below hbx (Nat.le_refl _)).at_ hp0
            rw [Nat.add_zero] at y2
            have HE := Lib.hid (show Od.shape o p x = Od.same [p[0], x[0]] by rw [hgo]; unfold Od.byKind; rw [if_neg (by omega), if_pos k9, gets_at hp0, gets_at hx0])
            have hself : Below wr.heap.size wr wr.drew := (Below.refl _ _).drew
            have hkeep : ∀ W, Below wr.heap.size wr W → W.cell? ⟨b', off', none⟩ = some (.slice S2 p[0].length d2) ∧ W.cell? ⟨b, off, none⟩ = some (.slice S1 x[0].length d1) := fun W hW => ⟨cell_below hW y2, cell_below hW y1⟩
            rw [k9] at x0
            have Hkeep := Lib.hid hkeep
            have HI1 := Lib.hid hI1
            have HI2 := Lib.hid hI2
            have Hk9 := Lib.hid k9
            clear hkeep hI1 hI2 k9
            clear hgo hkind hleast q1 q2 q3 q4 hpar hpx
            have hal : Below wr.heap.size wr (wr.drew.alloc (.cells #[.slice S2 p[0].length d2, .slice S1 x[0].length d1] 25)) := hself.alloc (Nat.le_refl _) _
            have hpair := pair_shps (t := 25) (HI2.out.below hself (Nat.le_refl _)) (HI1.out.below hself (Nat.le_refl _)) m1 m2 l1 l2
            have hsame := op_same (some ⟨wr.drew.heap.size, 0, none⟩) 2 [p[0], x[0]] _ (by simp) (by simp) (by omega) hpair (by simp [m3, l3])
            have Hpair := Lib.hid hpair
            have Hsame := Lib.hid hsame
            clear hpair hsame
            go_wp2_with fail
            go_region_held3 (fun W => W.cell? ⟨b', off', none⟩ = some (.slice S2 p[0].length d2) ∧ W.cell? ⟨b, off, none⟩ = some (.slice S1 x[0].length d1)) (first | exact Hkeep.out _ hb5 | exact Hkeep.out _ hal | exact Hkeep.out _ hself)
              ((go_at_call 63; refine (Hsame.out).mono ?_; rintro e w3 ⟨S5, d5, rfl, hI5, r1, r2, hf5, hb5⟩; have hb6 := hb5; have hb5 := hal.trans (hb5.mono hal.size); have HI5 := Lib.hid hI5; clear hI5))
            all_goals
              go_wp2_with fail
              go_ret2
              exact ShPost.pass HE.out (hbx.trans (hal.mono hbx.size)) HI5.out r1 r2 hf5 hb6
          have HE := Lib.hid (show Od.shape o p x = Od.same x by rw [hgo]; unfold Od.byKind; rw [if_neg (by omega), if_neg (by omega), if_neg (by omega), if_neg (by omega), if_neg (by omega), if_neg (by omega), if_neg (by omega)])
          have n8 : (o.kind == 8) = false := by simp; omega
          have n9 : (o.kind == 9) = false := by simp; omega
          have n10 : (o.kind == 10) = false := by simp; omega
          have n11 : (o.kind == 11) = false := by simp; omega
          have n12 : (o.kind == 12) = false := by simp; omega
          have n13 : (o.kind == 13) = false := by simp; omega
          have n14 : (o.kind == 14) = false := by simp; omega
          have n15 : (o.kind == 15) = false := by simp; omega
          clear hgo hkind hleast q1 q2 q3 q4 hpar hI1 k8 k9 k10 k11 k13 k14 k15
          go_wp2_with fail
          refine (op_same _ f x _ hx0 (HX.out.2.1) (HX.out.2.2.1) (HX.out.below hbx (Nat.le_refl _)).1 HX.out.2.2.2).mono ?_
          rintro e w3 ⟨S5, d5, rfl, hI5, r1, r2, hf5, hb5⟩
          have HI5 := Lib.hid hI5
          clear hI5
          go_wp2_with fail
          go_ret2
          exact ShPost.pass HE.out hbx HI5.out r1 r2 hf5 hb5
end Go.Proofs.Ytnofeebcmmmlhaa
/- Layer 11 (net): which number nobody uses: contract. -/
namespace Go.Proofs.Ytnofeebcmmmlhaa
open Go.RowKit

/-- The net's rows are of a length that can be gone through. -/
def NodeD.ok (v : NodeD) : Prop := v.op.wide ∧ v.op.s.length ≤ 1048576 ∧ v.ins.length ≤ 1048576 ∧ v.p.length ≤ 1048576 ∧ (∀ s ∈ v.p, s.length ≤ 1048576) ∧ ∀ z ∈ v.ins, -9223372036854775808 ≤ z ∧ z ≤ 9223372036854775807
def NetD.ok (n : NetD) : Prop := n.inn.length ≤ 1048576 ∧ n.nodes.length ≤ 1048576 ∧ ∀ v ∈ n.nodes, v.ok

/-- One node's cells, from the place o of block b on. -/
def NodeAt (w : World) (b o : Nat) (v : NodeD) (S : Option Addr) (c : Nat) (I : Option Addr) (d : Nat) (Q : Option Addr) (q : Nat) : Prop :=
    (w.cell? ⟨b, o, none⟩ = some (.int .i64 v.op.kind) ∧ w.cell? ⟨b, o + 1, none⟩ = some (.int .i64 v.op.k) ∧ w.cell? ⟨b, o + 2, none⟩ = some (.int .i64 v.op.width) ∧
    w.cell? ⟨b, o + 3, none⟩ = some (.int .i64 v.op.step) ∧ w.cell? ⟨b, o + 4, none⟩ = some (.int .i64 v.op.side) ∧ w.cell? ⟨b, o + 5, none⟩ = some (.int .i64 v.op.frm) ∧
    w.cell? ⟨b, o + 6, none⟩ = some (.int .i64 v.op.to) ∧ w.cell? ⟨b, o + 7, none⟩ = some (.slice S v.op.s.length c) ∧
    w.cell? ⟨b, o + 8, none⟩ = some (.slice I v.ins.length d) ∧ w.cell? ⟨b, o + 9, none⟩ = some (.slice Q v.p.length q)) ∧
    Ints .i64 w S v.op.s ∧ Ints .i64 w I v.ins ∧ Shps w Q v.p
theorem NodeAt.below {w w' : World} {b o : Nat} {v : NodeD} {S : Option Addr} {c : Nat} {I : Option Addr} {d : Nat} {Q : Option Addr} {q : Nat} (h : NodeAt w b o v S c I d Q q) (hb : Below w.heap.size w w') : NodeAt w' b o v S c I d Q q := by
  obtain ⟨⟨y0, y1, y2, y3, y4, y5, y6, y7, y8, y9⟩, h1, h2, h3⟩ := h
  exact ⟨⟨cell_below hb y0, cell_below hb y1, cell_below hb y2, cell_below hb y3, cell_below hb y4, cell_below hb y5, cell_below hb y6, cell_below hb y7, cell_below hb y8, cell_below hb y9⟩, h1.below hb (Nat.le_refl _), h2.below hb (Nat.le_refl _), h3.below hb (Nat.le_refl _)⟩
theorem Nodes.at_ {w : World} {A : Option Addr} {ns : List NodeD} (h : Nodes w A ns) {j : Nat} (hj : j < ns.length) :
    ∃ b off S c I d Q q, A = some ⟨b, off, none⟩ ∧ NodeAt w b (off + j * 10) ns[j] S c I d Q q ∧ (ns[j].op.s.length ≤ c ∧ c ≤ 9223372036854775807) ∧ (ns[j].ins.length ≤ d ∧ d ≤ 9223372036854775807) ∧ (ns[j].p.length ≤ q ∧ q ≤ 9223372036854775807) := by
  obtain ⟨b, off, S, c, I, d, Q, q, e, _, y0, y1, y2, y3, y4, y5, y6, y7, y8, y9, ⟨h1, h1'⟩, ⟨h2, h2'⟩, h3, h3'⟩ := h j hj
  exact ⟨b, off, S, c, I, d, Q, q, e, ⟨⟨y0, y1, y2, y3, y4, y5, y6, y7, y8, y9⟩, h1, h2, h3⟩, h1', h2', h3'⟩

namespace Nt
/-- What is used by the first k nodes, and by the ins l of the next one. -/
def usedMid (ns : List NodeD) (n k : Nat) (l : List Int) : List Bool := (nums n).map fun id => isUsed (ns.take k) id || l.contains id
theorem usedMid_len (ns : List NodeD) (n k : Nat) (l : List Int) : (usedMid ns n k l).length = n + 1 := by simp [usedMid, nums]
theorem usedMid_zero (ns : List NodeD) (n : Nat) : usedMid ns n 0 [] = List.replicate (n + 1) false := by
  unfold usedMid
  rw [List.eq_replicate_iff]
  refine ⟨by simp [nums], fun b hb => ?_⟩
  obtain ⟨x, _, rfl⟩ := List.mem_map.1 hb
  simp [isUsed]
theorem usedMid_next (ns : List NodeD) (n : Nat) {k : Nat} (hk : k < ns.length) : usedMid ns n k ns[k].ins = usedMid ns n (k + 1) [] := by
  unfold usedMid
  apply List.map_congr_left
  intro id _
  rw [List.take_succ_eq_append_getElem hk]
  simp only [isUsed, List.any_append, List.any_cons, List.any_nil, List.contains_nil, Bool.or_false]
theorem usedMid_in (ns : List NodeD) (n k : Nat) (l : List Int) {id : Int} (h0 : 0 ≤ id) (h1 : id ≤ n) : usedMid ns n k (l ++ [id]) = (usedMid ns n k l).set id.toNat true := by
  apply List.ext_getElem?
  intro j
  rw [List.getElem?_set]
  unfold usedMid nums
  simp only [List.map_map, List.getElem?_map, List.length_map, List.length_range]
  by_cases hj : j < n + 1
  · rw [List.getElem?_range hj]
    by_cases e : id.toNat = j
    · subst e
      have : ((id.toNat : Nat) : Int) = id := by omega
      simp [hj, this]
    · have e2 : (j : Int) ≠ id := by omega
      simp [e, e2]
  · rw [List.getElem?_eq_none (by simp; omega)]
    simp
    intro q; omega
theorem usedMid_all (ns : List NodeD) : usedMid ns ns.length ns.length [] = (nums ns.length).map (isUsed ns) := by
  unfold usedMid
  apply List.map_congr_left
  intro id _
  simp
/-- The unused ones of the first numbers. -/
def unusedTo (ns : List NodeD) (k : Nat) : List Int := ((List.range k).map fun i : Nat => (i : Int)).filter fun id => !isUsed ns id
theorem unusedTo_succ (ns : List NodeD) (k : Nat) : unusedTo ns (k + 1) = if isUsed ns k then unusedTo ns k else unusedTo ns k ++ [(k : Int)] := by
  unfold unusedTo
  rw [List.range_succ, List.map_append, List.filter_append]
  cases h : isUsed ns k <;> simp [h]
theorem unusedTo_all (ns : List NodeD) : unusedTo ns (ns.length + 1) = unused ns := rfl
theorem unusedTo_len (ns : List NodeD) (k : Nat) : (unusedTo ns k).length ≤ k := by
  unfold unusedTo
  exact Nat.le_trans (List.length_filter_le _ _) (by simp)
end Nt
theorem bool_info : (Try.prog.info? 4).map (fun i => (i.zero, i.size, i.bytes)) = some (some (.bool false), 1, 1) := by kernel_rfl
theorem made_one (v : Value) (n : Nat) : (madeCells #[v] n).toList = List.replicate n v := by
  rw [List.eq_replicate_iff]
  refine ⟨by simp [madeCells], fun b hb => ?_⟩
  simp [madeCells] at hb
  obtain ⟨x, _, rfl⟩ := hb
  simp [Nat.mod_one]

set_option maxRecDepth 20000 in
set_option maxHeartbeats 8000000 in
theorem net_unused (A N : Option Addr) (c d : Nat) (n : NetD) (w : World) (hok : n.ok) (hR : NetR w A N n) (hd : n.nodes.length ≤ d) (hins : ∀ v ∈ n.nodes, ∀ i ∈ v.ins, 0 ≤ i ∧ i ≤ n.nodes.length) :
    Calls Try.prog 39 #[.agg #[.slice A n.inn.length c, .slice N n.nodes.length d]] w fun e w' => e = .returned (.tuple #[.int .i64 (Nt.loss n.nodes), .bool (Nt.lossOk n.nodes)]) ∧ Below w.heap.size w w' := by
  obtain ⟨i0, hi, hz0, hz1, hz2⟩ := info_parts bool_info
  have hnl := hok.2.1
  have hokn := hok.2.2
  have HR := Lib.hid hR
  have Hins := Lib.hid hins
  have Hokn := Lib.hid hokn
  clear hR hins hokn
  clear hok
  have e1 : IntKind.i64.wrap ((n.nodes.length : Int) + 1) = ((n.nodes.length + 1 : Nat) : Int) := by rw [IntWalk.i64_in _ (by omega)]; omega
  go_enter Try.func39, Try.ntmps39
  go_wp2_with (at_make; refine wpList_make_full _ rfl _ _ 105 rfl w.heap.size 4 i0 (.bool false) 1 Try.underlying105 hi hz0 hz1 _ _ _ _ (n.nodes.length + 1) rfl rfl (by first | rfl | simp | (go_simp; rfl)) (by first | rfl | simp | (go_simp; rfl)) ?b2 ?b3 ?b4 ?_)
  case b2 => rw [hz2]; omega
  case b3 => unfold maxLen; omega
  case b4 => simp
  intro w1 hown hgrow
  have hblk := own_cur hown
  rw [made_one] at hblk
  have hk1 : Blk w1 (w.heap.size + 1) 4 ((Nt.usedMid n.nodes n.nodes.length 0 []).map Value.bool).toArray := by
    rw [Nt.usedMid_zero, List.map_replicate]
    simpa [Blk] using hblk
  have hb1 : Below w.heap.size w w1 := ((Below.refl _ w).alloc (Nat.le_refl _) _).grown hgrow (by simp) (by simp)
  have hx1 : w1.cell? ⟨w.heap.size, 1, none⟩ = some (.slice N n.nodes.length d) := hgrow.cell (by simp) (by simp)
  have HK := Lib.hid hk1
  clear hblk hk1 hown hgrow
  go_wp2_with fail
  go_loopw [21] (fun i wr => ∃ k : Nat, k ≤ n.nodes.length ∧ i = .int .i64 k ∧ Blk wr (w.heap.size + 1) 4 ((Nt.usedMid n.nodes n.nodes.length k []).map Value.bool).toArray ∧ Below w.heap.size w wr) (fun i _ => n.nodes.length - (intOf i).toNat)
  case atStart => exact ⟨0, Nat.zero_le _, rfl, HK.out, hb1⟩
  case round =>
    obtain ⟨k, hk, rfl, hblk, hbw⟩ := hrel
    have Hblk := Lib.hid hblk
    clear hblk
    clear HK hb1 hx1
    by_cases hlt : k < n.nodes.length
    · obtain ⟨b, off, S, sc, I, ic, Q, qc, rfl, hNA, -, hI, -⟩ := HR.out.2.at_ hlt
      have hnok := Hokn.out _ (List.getElem_mem hlt)
      have hin := Hins.out _ (List.getElem_mem hlt)
      have HN := Lib.hid (Nt.usedMid_next n.nodes n.nodes.length hlt)
      have hil := hnok.2.2.1
      generalize n.nodes[k] = v at *
      obtain ⟨⟨y0, y1, y2, y3, y4, y5, y6, y7, y8, y9⟩, -⟩ := hNA.below hbw
      have HNA := Lib.hid hNA
      have Hnok := Lib.hid hnok
      have Hin := Lib.hid hin
      clear hNA hnok hin
      have hb2 := hbw.alloc hbw.size (.cells #[.int .i64 v.op.kind, .int .i64 v.op.k, .int .i64 v.op.width, .int .i64 v.op.step, .int .i64 v.op.side, .int .i64 v.op.frm, .int .i64 v.op.to, .slice S v.op.s.length sc, .slice I v.ins.length ic, .slice Q v.p.length qc] 68)
      have HB2 := Lib.hid (Hblk.out.alloc (.cells #[.int .i64 v.op.kind, .int .i64 v.op.k, .int .i64 v.op.width, .int .i64 v.op.step, .int .i64 v.op.side, .int .i64 v.op.frm, .int .i64 v.op.to, .slice S v.op.s.length sc, .slice I v.ins.length ic, .slice Q v.p.length qc] 68))
      go_wp2_with fail
      clear y0 y1 y2 y3 y4 y5 y6 y7 y8 y9
      go_loopw [28] (fun i wx => ∃ m : Nat, m ≤ v.ins.length ∧ i = .int .i64 m ∧ Blk wx (w.heap.size + 1) 4 ((Nt.usedMid n.nodes n.nodes.length k (v.ins.take m)).map Value.bool).toArray ∧ Below w.heap.size w wx) (fun i _ => v.ins.length - (intOf i).toNat)
      case atStart => exact ⟨0, Nat.zero_le _, rfl, by rw [List.take_zero]; exact HB2.out, hb2⟩
      case round =>
        obtain ⟨m, hm, rfl, hblx, hbx⟩ := hrel
        clear HB2 hb2 Hblk hbw
        by_cases hlm : m < v.ins.length
        · have hI2 := (HNA.out.below hbx).2.2.1
          obtain ⟨b1, off1, rfl, -, hc⟩ := hI2 m hlm
          rw [getD_at hlm] at hc
          have hr := Hin.out _ (List.getElem_mem hlm)
          obtain ⟨u, hu⟩ : ∃ u : Nat, v.ins[m] = u := ⟨v.ins[m].toNat, by omega⟩
          have HM := Lib.hid (show Nt.usedMid n.nodes n.nodes.length k (v.ins.take (m + 1)) = (Nt.usedMid n.nodes n.nodes.length k (v.ins.take m)).set u true by rw [List.take_succ_eq_append_getElem hlm, Nt.usedMid_in _ _ _ _ hr.1 hr.2, hu]; rfl)
          rw [hu] at hc hr
          have hul : u < n.nodes.length + 1 := by omega
          have hcg := hblx.cell u
          have hfg := hblx.frozen u
          have hcg2 : wr.cell? ⟨w.heap.size + 1, u, none⟩ = some (.bool ((Nt.usedMid n.nodes n.nodes.length k (v.ins.take m)).getD u false)) := by
            rw [hcg]
            have := Nt.usedMid_len n.nodes n.nodes.length k (v.ins.take m)
            rw [List.getD_eq_getElem?_getD, List.getElem?_eq_getElem (by omega)]
            simp [this, hul]
          have hbs := hblx.set_ u (.bool true)
          have HBS := Lib.hid (show Blk (wr.setCell ⟨w.heap.size + 1, u, none⟩ (.bool true)) (w.heap.size + 1) 4 (((Nt.usedMid n.nodes n.nodes.length k (v.ins.take m)).set u true).map Value.bool).toArray by simpa [List.map_set] using hbs)
          have hbx2 := hbx.setCell (p := ⟨w.heap.size + 1, u, none⟩) (by simp) (.bool true)
          clear hcg hbs hI2 hblx hu
          have u0 : (0 : Int) ≤ u := by omega
          have u1 : (u : Int) < ((n.nodes.length + 1 : Nat) : Int) := by omega
          go_wp2_with fail
          go_roundw
          case rel => exact ⟨m + 1, by omega, by go_num, by rw [HM.out]; exact HBS.out, hbx2⟩
          case measure => simp [intOf]; omega
        · obtain rfl : m = v.ins.length := by omega
          rw [List.take_length] at hblx
          have Hblx := Lib.hid hblx
          clear hblx
          go_wp2_with fail
          go_roundw
          case rel => exact ⟨k + 1, by omega, by go_num, by rw [← HN.out]; exact Hblx.out, hbx⟩
          case measure => simp [intOf]; omega
    · obtain rfl : k = n.nodes.length := by omega
      have hU := Nt.usedMid_all n.nodes
      have hBU := Hblk.out
      rw [hU] at hBU
      have HBU := Lib.hid hBU
      have HU := Lib.hid hU
      clear hBU hU
      clear Hblk
      go_wp2_with fail
      go_loopw [9, 10, 39] (fun l c i wx => wx = wr ∧ ∃ k : Nat, k ≤ n.nodes.length + 1 ∧ i = .int .i64 k ∧ l = .int .i64 ((Nt.unusedTo n.nodes k).getLastD 0) ∧ c = .int .i64 ((Nt.unusedTo n.nodes k).length : Nat)) (fun _ _ i _ => n.nodes.length + 1 - (intOf i).toNat)
      case atStart => exact ⟨rfl, 0, Nat.zero_le _, rfl, rfl, rfl⟩
      case round =>
        obtain ⟨rfl, k, hk, rfl, rfl, rfl⟩ := hrel
        have hul := Nt.unusedTo_len n.nodes k
        by_cases hlt : k < n.nodes.length + 1
        · have hcf : ∀ b, Nt.isUsed n.nodes k = b → wr.cell? ⟨w.heap.size + 1, k, none⟩ = some (.bool b) := fun b hb => by
            rw [← hb, HBU.out.cell]
            simp [Nt.nums, hlt]
          have hs := Nt.unusedTo_succ n.nodes k
          have k1 : (k : Int) < ((n.nodes.length + 1 : Nat) : Int) := by omega
          have HS := Lib.hid hs
          clear hs
          obtain ⟨L0, hL0⟩ : ∃ L0, (Nt.unusedTo n.nodes k).getLastD 0 = L0 := ⟨_, rfl⟩
          obtain ⟨c0, hc0⟩ : ∃ c0, (Nt.unusedTo n.nodes k).length = c0 := ⟨_, rfl⟩
          rw [hc0] at hul
          rw [hL0, hc0]
          have HL0 := Lib.hid hL0
          have Hc0 := Lib.hid hc0
          clear hL0 hc0
          cases hu : Nt.isUsed n.nodes k
          · have hc := hcf _ hu
            have HU := Lib.hid hu
            clear hu hcf
            go_wp2_with fail
            go_roundw
            case rel => exact ⟨trivial, k + 1, by omega, by go_num, by rw [HS.out, HU.out]; simp, by rw [HS.out, HU.out, if_neg (by simp), List.length_append, Hc0.out]; go_num⟩
            case measure => simp [intOf]; omega
          · have hc := hcf _ hu
            have HU := Lib.hid hu
            clear hu hcf
            go_wp2_with fail
            go_roundw
            case rel => exact ⟨trivial, k + 1, by omega, by go_num, by rw [HS.out, HU.out, if_pos rfl, HL0.out], by rw [HS.out, HU.out, if_pos rfl, Hc0.out]⟩
            case measure => simp [intOf]; omega
        · obtain rfl : k = n.nodes.length + 1 := by omega
          rw [Nt.unusedTo_all] at *
          have hl : (Nt.unused n.nodes).getLastD 0 = Nt.loss n.nodes := rfl
          rw [hl]
          have hlo : Nt.lossOk n.nodes = decide ((Nt.unused n.nodes).length = 1 ∧ Nt.loss n.nodes ≠ 0) := rfl
          obtain ⟨L, hL⟩ : ∃ L, Nt.loss n.nodes = L := ⟨_, rfl⟩
          obtain ⟨c', hc'⟩ : ∃ c', (Nt.unused n.nodes).length = c' := ⟨_, rfl⟩
          rw [hL, hc'] at hlo
          rw [hc'] at hul
          rw [hL, hc']
          have HLs := Lib.hid hL
          clear hL hl hc'
          by_cases h1 : c' = 1
          · subst h1
            have k1 : ¬ (((n.nodes.length + 1 : Nat) : Int) < ((n.nodes.length + 1 : Nat) : Int)) := by omega
            have HL := Lib.hid hlo
            clear hlo
            go_wp2_with fail
            go_ret2
            exact ⟨by rw [HL.out, HLs.out]; by_cases h : L = 0 <;> simp [h], hbw⟩
          · have c1 : ((c' : Int) == 1) = false := by simp; omega
            have HL := Lib.hid (show Nt.lossOk n.nodes = false by rw [hlo]; simp [h1])
            clear hlo h1
            go_wp2_with fail
            go_ret2
            exact ⟨by rw [HL.out, HLs.out]; rfl, hbw⟩
end Go.Proofs.Ytnofeebcmmmlhaa
/- Rows of the call's own: what they read as. No program is named here. -/
namespace Go.Proofs.Ytnofeebcmmmlhaa
open Go.RowKit
theorem own_form {w : World} {B e s n : Nat} {v : Value} {xs : List Value} (h : w.ownsRow B e s v n xs) : ∃ A c, v = .slice A n c := by
  rcases h.2 with ⟨rfl, h0⟩ | ⟨g, cap, cur, rfl, _⟩
  · exact ⟨none, 0, by rw [h0]⟩
  · exact ⟨_, cap, rfl⟩
theorem own_ints {w : World} {B e n c : Nat} {A : Option Addr} {zs : List Int} (h : w.ownsRow B e 1 (.slice A zs.length c) n (zs.map (Value.int .i64))) : Ints .i64 w A zs ∧ zs.length ≤ c ∧ c ≤ 9223372036854775807 := by
  obtain ⟨A1, c1, e1, rfl, hI⟩ := Ints.of_own h
  injection e1 with e1 _ e2
  subst e1 e2
  refine ⟨hI, ?_⟩
  rcases h.2 with ⟨h1, h0⟩ | ⟨g, cap, cur, h1, _, _, h3, h4, _⟩
  · injection h1 with _ _ h1; omega
  · injection h1 with _ _ h1; unfold maxLen at h4; omega
theorem ownsRow_new {w : World} {B e s n : Nat} {v : Value} {xs : List Value} (h : w.ownsRow B e s v n xs) (o : Obj) : (w.alloc o).ownsRow B e s v n xs := ownsRow_heap h fun g hg => Below.heap_alloc w o g (h.lt g hg).2
theorem ownsRow_grown {w w' : World} {B e s n : Nat} {v : Value} {xs : List Value} {row : Option Nat} (h : w.ownsRow B e s v n xs) (hg : w.grownBy w' row) (hr : ∀ b, v.ownBlock = some b → row ≠ some b) : w'.ownsRow B e s v n xs := ownsRow_heap h fun g k => hg.block g (h.lt g k).2 fun e => hr g k e.symm
theorem ownsRow_fr {w w' : World} {B e s n : Nat} {v : Value} {xs : List Value} {S : Nat → Prop} (h : w.ownsRow B e s v n xs) (hg : Fr S w w') (hr : ∀ b, v.ownBlock = some b → ¬ S b) : w'.ownsRow B e s v n xs := ownsRow_heap h fun g k => hg.2 g (h.lt g k).2 (hr g k)
theorem right_short {s : List Int} (h : Sh.right s = true) : 0 < s.length ∧ s.length ≤ 4 := by
  obtain ⟨_, a, b, _⟩ := Sh.right_mul h
  exact ⟨by omega, a⟩
end Go.Proofs.Ytnofeebcmmmlhaa
/- Layer 11 (net): the shapes by numbers: contract. -/
namespace Go.Proofs.Ytnofeebcmmmlhaa
open Go.RowKit

theorem shpT_info : (Try.prog.info? 25).map (fun i => (i.zero, i.size, i.bytes)) = some (some (.slice none 0 0), 1, 24) := by kernel_rfl
def LayPost (r : List (List Int) × Int) (n : Nat) (w : World) (e : Ending) (w' : World) : Prop :=
  Below w.heap.size w w' ∧ ((r.2 = 0 ∧ ∃ g, e = .returned (.tuple #[.slice (some ⟨g, 0, none⟩) (n + 1) (n + 1), .int .i64 0]) ∧ w.heap.size ≤ g ∧ ShpRow w' g 25 r.1 ∧ r.1.length = n + 1) ∨ (r.2 ≠ 0 ∧ e = .returned (.tuple #[.slice none 0 0, .int .i64 r.2])))
namespace Nt
def insMid (sh : List (List Int)) (l : List Int) (m : Nat) : List (List Int) := pick sh (l.take m) ++ List.replicate (l.length - m) []
theorem insMid_len (sh : List (List Int)) (l : List Int) {m : Nat} (h : m ≤ l.length) : (insMid sh l m).length = l.length := by simp [insMid, pick]; omega
theorem insMid_zero (sh : List (List Int)) (l : List Int) : insMid sh l 0 = List.replicate l.length [] := by simp [insMid, pick]
theorem insMid_all (sh : List (List Int)) (l : List Int) : insMid sh l l.length = pick sh l := by simp [insMid]
theorem insMid_succ (sh : List (List Int)) (l : List Int) {m : Nat} (h : m < l.length) : insMid sh l (m + 1) = (insMid sh l m).set m (sh.getD l[m].toNat []) := by
  unfold insMid
  rw [show l.length - m = (l.length - (m + 1)) + 1 by omega, List.replicate_succ, List.take_succ_eq_append_getElem h]
  unfold pick
  rw [List.map_append, List.set_append_right _ _ (by simp; omega)]
  rw [show m - ((l.take m).map fun i => sh.getD i.toNat []).length = 0 by simp; omega, List.set_cons_zero, List.append_assoc]
  rfl
end Nt
theorem lay_short {n : NetD} (hin : Sh.right n.inn = true) {k : Nat} (hk : k ≤ (Nt.sorted n.nodes).length) {sh : List (List Int)} (h : Nt.lay n.nodes (Nt.start n) ((Nt.sorted n.nodes).take k) = (sh, 0)) : Nt.Good ((Nt.sorted n.nodes).take k) sh ∧ sh.length = n.nodes.length + 1 := by
  have h2 := Nt.lay_good hin k hk (by rw [h])
  have h3 := Nt.lay_len (ns := n.nodes) (a := (Nt.sorted n.nodes).take k) (sh := Nt.start n) (by rw [h])
  rw [h] at h2 h3
  exact ⟨h2, by simpa [Nt.start] using h3⟩
set_option maxRecDepth 20000 in
set_option maxHeartbeats 8000000 in
theorem net_lay (A N O : Option Addr) (c d oc : Nat) (n : NetD) (w : World) (hok : n.ok) (hR : NetR w A N n) (hd : n.nodes.length ≤ d) (hO : Ints .i64 w O (Nt.sorted n.nodes)) (hin : Sh.right n.inn = true) (hins : ∀ v ∈ n.nodes, ∀ i ∈ v.ins, 0 ≤ i ∧ i ≤ n.nodes.length) :
    Calls Try.prog 38 #[.agg #[.slice A n.inn.length c, .slice N n.nodes.length d], .slice O (Nt.sorted n.nodes).length oc] w (LayPost (Nt.lay n.nodes (Nt.start n) (Nt.sorted n.nodes)) n.nodes.length w) := by
  obtain ⟨i0, hi, hz0, hz1, hz2⟩ := info_parts shpT_info
  have hnl := hok.2.1
  have hil := hok.1
  have hokn := hok.2.2
  have hol : (Nt.sorted n.nodes).length ≤ n.nodes.length := Kn.order_len_le _ _
  have hrng : ∀ u ∈ Nt.sorted n.nodes, 1 ≤ u ∧ u ≤ n.nodes.length := Kn.order_rng _ _
  have hbeh : ∀ a b u, Nt.sorted n.nodes = a ++ u :: b → ∀ i ∈ Nt.insF n.nodes u, i = 0 ∨ i ∈ a := fun a b u h => Kn.order_behind _ _ h
  obtain ⟨os, hos⟩ : ∃ os, Nt.sorted n.nodes = os := ⟨_, rfl⟩
  have hshort : ∀ k, k ≤ os.length → ∀ sh, Nt.lay n.nodes (Nt.start n) (os.take k) = (sh, 0) → Nt.Good (os.take k) sh ∧ sh.length = n.nodes.length + 1 := fun k hk sh h => by
    have := lay_short (n := n) hin (k := k) (by rw [hos]; exact hk) (sh := sh) (by rw [hos]; exact h)
    rw [hos] at this
    exact this
  rw [hos] at hO hol hrng hbeh ⊢
  have hk0 := Blk.new w 28 #[.slice A n.inn.length c, .slice N n.nodes.length d]
  have hb0 : Below w.heap.size w (w.alloc (.cells #[.slice A n.inn.length c, .slice N n.nodes.length d] 28)) := (Below.refl _ _).alloc (Nat.le_refl _) _
  have HR := Lib.hid hR
  have Hins := Lib.hid hins
  have Hokn := Lib.hid hokn
  have HO := Lib.hid hO
  have Hin := Lib.hid hin
  have Hrng := Lib.hid hrng
  have Hbeh := Lib.hid hbeh
  have Hshort := Lib.hid hshort
  have Hos := Lib.hid hos
  clear hR hins hokn hO hin hrng hbeh hshort hos
  clear hok
  have e1 : IntKind.i64.wrap ((n.nodes.length : Int) + 1) = ((n.nodes.length + 1 : Nat) : Int) := by rw [IntWalk.i64_in _ (by omega)]; omega
  go_enter Try.func38, Try.ntmps38
  go_wp2_with (at_make; refine wpList_make_full _ rfl _ _ 66 rfl w.heap.size 25 i0 (.slice none 0 0) 1 Try.underlying66 hi hz0 hz1 _ _ _ _ (n.nodes.length + 1) rfl rfl (by first | rfl | simp | (go_simp; rfl)) (by first | rfl | simp | (go_simp; rfl)) ?b2 ?b3 ?b4 ?_)
  case b2 => rw [hz2]; omega
  case b3 => unfold maxLen; omega
  case b4 => simp
  intro w1 hown hgrow
  have hblk := own_cur hown
  rw [made_one] at hblk
  have hrow : ShpRow w1 (w.heap.size + 1) 25 (List.replicate (n.nodes.length + 1) []) := ShpRow.new (by simpa [Blk] using hblk)
  have hb1 : Below w.heap.size w w1 := hb0.grown hgrow (by simp) (by simp)
  have hbox : Blk w1 w.heap.size 28 #[.slice A n.inn.length c, .slice N n.nodes.length d] := hk0.grown hgrow (by simp)
  have x0 : w1.cell? ⟨w.heap.size, 0, none⟩ = some (.slice A n.inn.length c) := by rw [hbox.cell]; rfl
  have Hbox := Lib.hid hbox
  have Hrow := Lib.hid hrow
  clear hbox hrow
  clear hblk hown hgrow hk0
  go_wp2_with fail
  refine (shape_copy A c n.inn _ (by omega) (HR.out.1.below hb1 (Nat.le_refl _))).mono ?_
  rintro e w2 ⟨g, rfl, hg, hB, h2⟩
  have hgl : w.heap.size + 1 < w1.heap.size := Hrow.out.lt
  have hb2 := hb1.trans (h2.mono hb1.size)
  have hrow2 := Hrow.out.below h2 (Nat.le_refl _)
  have hbox2 := Hbox.out.below h2 Hbox.out.lt
  obtain ⟨S0, c0, y0, -⟩ := hrow2.at_ (j := 0) (by simp)
  have f0 : w2.frozen? ⟨w.heap.size + 1, 0, none⟩ = false := by obtain ⟨vs, _, hk, _⟩ := hrow2; exact hk.frozen 0
  have hIn : Ints .i64 w2 (some ⟨g, 0, none⟩) n.inn := Ints.of_row fun j hj => by rw [Nat.zero_add, show w2.cell? ⟨g, j, none⟩ = _ from (show Blk w2 g 3 _ from hB).cell j]; simp [hj]
  have hrow3 := hrow2.set_ (i := 0) hIn (Nat.le_refl _) (by omega) (fun a h => by injection h with h; subst h; simp; omega)
  have hbox3 := hbox2.far (p := ⟨w.heap.size + 1, 0, none⟩) (by simp) (.slice (some ⟨g, 0, none⟩) n.inn.length n.inn.length)
  have hb3 := hb2.setCell (p := ⟨w.heap.size + 1, 0, none⟩) (by simp) (.slice (some ⟨g, 0, none⟩) n.inn.length n.inn.length)
  rw [show (List.replicate (n.nodes.length + 1) ([] : List Int)).set 0 n.inn = Nt.start n from rfl] at hrow3
  have Hrow2 := Lib.hid hrow2
  have Hrow3 := Lib.hid hrow3
  have Hbox2 := Lib.hid hbox2
  have Hbox3 := Lib.hid hbox3
  have HB := Lib.hid hB
  have HIn := Lib.hid hIn
  clear hrow2 hrow3 hbox2 hbox3 hB hIn
  clear x0 Hrow Hbox
  go_wp2_with fail
  clear y0 f0
  go_loopw [27] (fun i wr => ∃ k : Nat, k ≤ os.length ∧ i = .int .i64 k ∧ Blk wr w.heap.size 28 #[.slice A n.inn.length c, .slice N n.nodes.length d] ∧ Below w.heap.size w wr ∧ ∃ sh, Nt.lay n.nodes (Nt.start n) (os.take k) = (sh, 0) ∧ ShpRow wr (w.heap.size + 1) 25 sh) (fun i _ => os.length - (intOf i).toNat)
  case atStart => exact ⟨0, Nat.zero_le _, rfl, Hbox3.out, hb3, Nt.start n, rfl, Hrow3.out⟩
  case round =>
    obtain ⟨k, hk, rfl, hbox, hbw, sh, hlay, hrow⟩ := hrel
    clear Hrow2 Hrow3 Hbox2 Hbox3 HB HIn hb3 hb2 hb1 h2 hg hgl
    obtain ⟨hgood, hshl⟩ := Hshort.out k hk sh hlay
    have hgl : w.heap.size + 1 < wr.heap.size := hrow.lt
    by_cases hlt : k < os.length
    · obtain ⟨b, off, rfl, -, hc⟩ := HO.out.below hbw (Nat.le_refl _) k hlt
      rw [getD_at hlt] at hc
      have hr := Hrng.out _ (List.getElem_mem hlt)
      have hsplit : os = os.take k ++ os[k] :: os.drop (k + 1) := by rw [← List.drop_eq_getElem_cons hlt, List.take_append_drop]
      have hbe := Hbeh.out _ _ _ hsplit
      obtain ⟨j, hj⟩ : ∃ j : Nat, os[k] = (j : Int) + 1 := ⟨(os[k] - 1).toNat, by omega⟩
      have hjl : j < n.nodes.length := by omega
      have hlay' := fun h : (Nt.layStep n.nodes sh os[k]).2 = 0 => Nt.lay_snoc (id := os[k]) hlay h
      have hfail := fun h : (Nt.layStep n.nodes sh os[k]).2 ≠ 0 => Nt.lay_fail (b := os.drop (k + 1)) (id := os[k]) hlay h
      rw [← List.take_succ_eq_append_getElem hlt] at hlay'
      rw [← hsplit] at hfail
      have hst : Nt.layStep n.nodes sh os[k] = Od.shape n.nodes[j].op n.nodes[j].p (Nt.pick sh n.nodes[j].ins) := by unfold Nt.layStep; rw [hj, Nt.node_at hjl]
      have hiF : Nt.insF n.nodes os[k] = n.nodes[j].ins := by unfold Nt.insF; rw [hj, Nt.node_at hjl]
      rw [hst] at hlay' hfail
      rw [hiF] at hbe
      have hpr := hgood.pick hbe
      rw [hj] at hc hlay'
      rw [show ((j : Int) + 1).toNat = j + 1 by omega] at hlay'
      have hnok := Hokn.out _ (List.getElem_mem hjl)
      have hinr := Hins.out _ (List.getElem_mem hjl)
      obtain ⟨b1, off1, S, sc, I, ic, Q, qc, rfl, hNA, hs1, hI1, hq1⟩ := HR.out.2.at_ hjl
      have hgr : ∀ i ∈ n.nodes[j].ins, Sh.right (sh.getD i.toNat []) = true := fun i hi => hgood i (hbe i hi)
      generalize n.nodes[j] = v at *
      obtain ⟨⟨y0, y1, y2, y3, y4, y5, y6, y7, y8, y9⟩, -⟩ := hNA.below hbw
      have x1 : wr.cell? ⟨w.heap.size, 1, none⟩ = some (.slice (some ⟨b1, off1, none⟩) n.nodes.length d) := by rw [hbox.cell]; rfl
      have j1 : IntKind.i64.wrap ((j : Int) + 1 - 1) = (j : Int) := by rw [IntWalk.i64_in _ (by omega)]; omega
      have j2 : (j : Int) < n.nodes.length := by omega
      have hvi := hnok.2.2.1
      have hkn := Blk.new wr 68 #[.int .i64 v.op.kind, .int .i64 v.op.k, .int .i64 v.op.width, .int .i64 v.op.step, .int .i64 v.op.side, .int .i64 v.op.frm, .int .i64 v.op.to, .slice S v.op.s.length sc, .slice I v.ins.length ic, .slice Q v.p.length qc]
      have hbn : Below wr.heap.size wr (wr.alloc (.cells #[.int .i64 v.op.kind, .int .i64 v.op.k, .int .i64 v.op.width, .int .i64 v.op.step, .int .i64 v.op.side, .int .i64 v.op.frm, .int .i64 v.op.to, .slice S v.op.s.length sc, .slice I v.ins.length ic, .slice Q v.p.length qc] 68)) := (Below.refl _ _).alloc (Nat.le_refl _) _
      have Hbox := Lib.hid hbox
      have Hrow := Lib.hid hrow
      have Hsplit := Lib.hid hsplit
      have Hbe := Lib.hid hbe
      have Hlay' := Lib.hid hlay'
      have Hfail := Lib.hid hfail
      have Hst := Lib.hid hst
      have HiF := Lib.hid hiF
      have Hpr := Lib.hid hpr
      have Hnok := Lib.hid hnok
      have Hinr := Lib.hid hinr
      have HNA := Lib.hid hNA
      have Hgr := Lib.hid hgr
      have Hlay := Lib.hid hlay
      have Hgood := Lib.hid hgood
      have Hkn := Lib.hid hkn
      have Hj := Lib.hid hj
      clear hbox hrow hsplit hbe hlay' hfail hst hiF hpr hnok hinr hNA hgr hlay hgood hkn hj
      go_wp2_with (at_make; refine wpList_make_full _ rfl _ _ 66 rfl wr.heap.size 25 i0 (.slice none 0 0) 1 Try.underlying66 hi hz0 hz1 _ _ _ _ v.ins.length rfl rfl (by first | rfl | simp | (go_simp; rfl)) (by first | rfl | simp | (go_simp; rfl)) ?b2 ?b3 ?b4 ?_)
      case b2 => rw [hz2]; omega
      case b3 => unfold maxLen; omega
      case b4 => simp
      intro w3 hown hgrow
      have hblk := own_cur hown
      rw [made_one] at hblk
      have hrow3 : ShpRow w3 (wr.heap.size + 1) 25 (Nt.insMid sh v.ins 0) := by rw [Nt.insMid_zero]; exact ShpRow.new (by simpa [Blk] using hblk)
      have hb3 : Below wr.heap.size wr w3 := hbn.grown hgrow (by simp) (by simp)
      have hkn3 : Blk w3 wr.heap.size 68 #[.int .i64 v.op.kind, .int .i64 v.op.k, .int .i64 v.op.width, .int .i64 v.op.step, .int .i64 v.op.side, .int .i64 v.op.frm, .int .i64 v.op.to, .slice S v.op.s.length sc, .slice I v.ins.length ic, .slice Q v.p.length qc] := Hkn.out.grown hgrow (by simp)
      have z8 : w3.cell? ⟨wr.heap.size, 8, none⟩ = some (.slice I v.ins.length ic) := by rw [hkn3.cell]; rfl
      have Hrow3 := Lib.hid hrow3
      have Hkn3 := Lib.hid hkn3
      clear hrow3 hkn3
      clear hblk hown hgrow y0 y1 y2 y3 y4 y5 y6 y7 y8 y9 x1 hbn Hkn
      go_wp2_with fail
      clear z8
      obtain ⟨wo, rfl⟩ : ∃ wo, wo = wr := ⟨wr, rfl⟩
      go_loopw [44] (fun i wx => ∃ m : Nat, m ≤ v.ins.length ∧ i = .int .i64 m ∧ Blk wx wo.heap.size 68 #[.int .i64 v.op.kind, .int .i64 v.op.k, .int .i64 v.op.width, .int .i64 v.op.step, .int .i64 v.op.side, .int .i64 v.op.frm, .int .i64 v.op.to, .slice S v.op.s.length sc, .slice I v.ins.length ic, .slice Q v.p.length qc] ∧ Below wo.heap.size wo wx ∧ ShpRow wx (wo.heap.size + 1) 25 (Nt.insMid sh v.ins m)) (fun i _ => v.ins.length - (intOf i).toNat)
      case atStart => exact ⟨0, Nat.zero_le _, rfl, Hkn3.out, hb3, Hrow3.out⟩
      case round =>
        obtain ⟨m, hm, rfl, hknx, hbx, hrx⟩ := hrel
        clear Hkn3 Hrow3 hb3
        have hbwx := hbw.trans (hbx.mono hbw.size)
        have hNx := HNA.out.below hbwx
        have hml := Nt.insMid_len sh v.ins hm
        by_cases hlm : m < v.ins.length
        · obtain ⟨b2, off2, rfl, -, hc2⟩ := hNx.2.2.1 m hlm
          rw [getD_at hlm] at hc2
          have hr2 := Hinr.out _ (List.getElem_mem hlm)
          have hg2 := Hgr.out _ (List.getElem_mem hlm)
          have HM := Lib.hid (Nt.insMid_succ sh v.ins hlm)
          obtain ⟨u, hu⟩ : ∃ u : Nat, v.ins[m] = u := ⟨v.ins[m].toNat, by omega⟩
          rw [hu] at hc2 hr2 hg2
          have hul : u < sh.length := by omega
          rw [show ((u : Int)).toNat = u by omega, gets_at hul] at hg2
          obtain ⟨Su, cu, yu, hIu, lu1, lu2, -⟩ := Hrow.out.at_ hul
          obtain ⟨b3, off3, rfl, hb3, -⟩ := hIu 0 (right_short hg2).1
          have yu' := cell_below hbx yu
          have hIu' := hIu.below hbx (Nat.le_refl _)
          have hset := hrx.set_ (i := m) hIu' lu1 lu2 (fun a h => by injection h with h; subst h; simp; omega)
          obtain ⟨Sm, cm, ym, -⟩ := hrx.at_ (j := m) (by omega)
          have fm : wr.frozen? ⟨wo.heap.size + 1, m, none⟩ = false := by obtain ⟨vs, _, hk, _⟩ := hrx; exact hk.frozen m
          have HS := Lib.hid (show ShpRow (wr.setCell ⟨wo.heap.size + 1, m, none⟩ (.slice (some ⟨b3, off3, none⟩) sh[u].length cu)) (wo.heap.size + 1) 25 (Nt.insMid sh v.ins (m + 1)) by
            rw [HM.out, hu, show ((u : Int)).toNat = u by omega, gets_at hul]; exact hset)
          have HKN := Lib.hid (hknx.far (p := ⟨wo.heap.size + 1, m, none⟩) (by simp) (.slice (some ⟨b3, off3, none⟩) sh[u].length cu))
          have hbx2 := hbx.setCell (p := ⟨wo.heap.size + 1, m, none⟩) (by simp) (.slice (some ⟨b3, off3, none⟩) sh[u].length cu)
          have u0 : (0 : Int) ≤ u := by omega
          have u1 : (u : Int) < ((n.nodes.length + 1 : Nat) : Int) := by omega
          have m1 : (m : Int) < v.ins.length := by omega
          clear hset hIu hIu' hknx hrx hNx hg2 hu yu
          go_wp2_with fail
          go_roundw
          case rel => exact ⟨m + 1, by omega, by go_num, HKN.out, hbx2, HS.out⟩
          case measure => simp [intOf]; omega
        · obtain rfl : m = v.ins.length := by omega
          have hpl : (Nt.pick sh v.ins).length = v.ins.length := by simp [Nt.pick]
          rw [Nt.insMid_all] at hrx
          obtain ⟨y0, y1, y2, y3, y4, y5, y6, y7, y9⟩ : wr.cell? ⟨wo.heap.size, 0, none⟩ = some (.int .i64 v.op.kind) ∧ wr.cell? ⟨wo.heap.size, 1, none⟩ = some (.int .i64 v.op.k) ∧ wr.cell? ⟨wo.heap.size, 2, none⟩ = some (.int .i64 v.op.width) ∧ wr.cell? ⟨wo.heap.size, 3, none⟩ = some (.int .i64 v.op.step) ∧ wr.cell? ⟨wo.heap.size, 4, none⟩ = some (.int .i64 v.op.side) ∧ wr.cell? ⟨wo.heap.size, 5, none⟩ = some (.int .i64 v.op.frm) ∧ wr.cell? ⟨wo.heap.size, 6, none⟩ = some (.int .i64 v.op.to) ∧ wr.cell? ⟨wo.heap.size, 7, none⟩ = some (.slice S v.op.s.length sc) ∧ wr.cell? ⟨wo.heap.size, 9, none⟩ = some (.slice Q v.p.length qc) := by
            refine ⟨?_, ?_, ?_, ?_, ?_, ?_, ?_, ?_, ?_⟩
            all_goals (rw [hknx.cell]; rfl)
          have hno := Hnok.out
          have hcall := op_shape v.op S Q (some ⟨wo.heap.size + 1, 0, none⟩) sc qc v.ins.length v.p (Nt.pick sh v.ins) wr (by have := hno.2.1; omega) hNx.2.1 ⟨hNx.2.2.2, hq1.1, hq1.2, fun s hs => by have := hno.2.2.2.2.1 s hs; omega⟩ ⟨hrx.shps, by omega, by omega, fun s hs => by have := (right_short (List.all_eq_true.1 Hpr.out s hs)).2; omega⟩
          rw [hpl] at hcall
          have hrgt := fun h : (Od.shape v.op v.p (Nt.pick sh v.ins)).2 = 0 => right_short (Od.shape_right h)
          have hl2 := Hlay'.out
          have hf2 := Hfail.out
          generalize Od.shape v.op v.p (Nt.pick sh v.ins) = r at *
          have Hcall := Lib.hid hcall
          have Hrgt := Lib.hid hrgt
          have Hl2 := Lib.hid hl2
          have Hf2 := Lib.hid hf2
          clear hcall hrgt hl2 hf2
          clear hNx hrx hknx hpl hno Hlay' Hfail Hst
          go_wp2_with fail
          clear y0 y1 y2 y3 y4 y5 y6 y7 y9
          refine (Hcall.out).mono ?_
          rintro e w4 ⟨S5, d5, rfl, hI5, r1, r2, hf5, hb5⟩
          have hb4 := hbx.trans (hb5.mono hbx.size)
          have hbw4 := hbw.trans (hb4.mono hbw.size)
          by_cases hr2 : r.2 = 0
          · have q1 : (r.2 != 0) = false := by simp [hr2]
            have hrow4 := Hrow.out.below hb4 (Nat.le_refl _)
            have hbox4 := Hbox.out.below hb4 Hbox.out.lt
            have hj1 : j + 1 < sh.length := by omega
            obtain ⟨Sm, cm, ym, -⟩ := hrow4.at_ hj1
            have fm : w4.frozen? ⟨w.heap.size + 1, j + 1, none⟩ = false := by obtain ⟨vs, _, hk, _⟩ := hrow4; exact hk.frozen (j + 1)
            have hset := hrow4.set_ (i := j + 1) hI5 r1 r2 (fun a h => by have := hf5 a h; have := hbx.size; omega)
            have HS := Lib.hid hset
            have HBX := Lib.hid (hbox4.far (p := ⟨w.heap.size + 1, j + 1, none⟩) (by simp) (.slice S5 r.1.length d5))
            have hbw5 := hbw4.setCell (p := ⟨w.heap.size + 1, j + 1, none⟩) (by simp) (.slice S5 r.1.length d5)
            have HL := Lib.hid (Hl2.out hr2)
            have j3 : ((j : Int) + 1) < ((n.nodes.length + 1 : Nat) : Int) := by omega
            have j4 : ((j : Int) + 1).toNat = j + 1 := by omega
            clear hset hrow4 hbox4 hr2
            have HI5 := Lib.hid hI5
            have Hf5 := Lib.hid hf5
            clear hI5 hf5
            go_wp2_with fail
            go_roundw
            case rel => exact ⟨k + 1, by omega, by go_num, HBX.out, hbw5, _, HL.out, HS.out⟩
            case measure => simp [intOf]; omega
          · have q1 : (r.2 != 0) = true := by simp [hr2]
            have HF := Lib.hid (Hf2.out hr2)
            have HR2 := Lib.hid hr2
            have HI5 := Lib.hid hI5
            have Hf5 := Lib.hid hf5
            clear hI5 hf5
            clear hr2
            go_wp2_with fail
            go_ret2
            exact ⟨hbw4, .inr (by rw [HF.out]; exact ⟨HR2.out, rfl⟩)⟩
    · obtain rfl : k = os.length := by omega
      rw [List.take_length] at hlay
      have Hlay := Lib.hid hlay
      have Hrow := Lib.hid hrow
      have Hbox := Lib.hid hbox
      have Hgood := Lib.hid hgood
      clear hlay hrow hbox hgood
      go_wp2_with fail
      go_ret2
      exact ⟨hbw, .inl (by rw [Hlay.out]; exact ⟨rfl, _, rfl, by omega, Hrow.out, hshl⟩)⟩
end Go.Proofs.Ytnofeebcmmmlhaa
/- The plain law of layer 13: a valid net's shapes do not change by its own nodes; words and costs. -/
namespace Go.Proofs.Ytnofeebcmmmlhaa
namespace Nt
/-- What isn't laid stays as it is. -/
theorem lay_keep {ns : List NodeD} : ∀ {a : List Int} {sh : List (List Int)}, (lay ns sh a).2 = 0 → ∀ j : Nat, (∀ u ∈ a, u.toNat ≠ j) → (lay ns sh a).1.getD j [] = sh.getD j []
  | [], sh, _, j, _ => rfl
  | id :: r, sh, h, j, hj => by
    unfold lay at h ⊢
    split at h
    · rename_i h1
      rw [if_pos h1, lay_keep h j (fun u hu => hj u (by simp [hu]))]
      have := hj id (by simp)
      simp only [List.getD_eq_getElem?_getD, List.getElem?_set_ne this]
    · rename_i h1; exact absurd h h1
theorem pick_congr {sh sh' : List (List Int)} {l : List Int} (h : ∀ i ∈ l, sh.getD i.toNat [] = sh'.getD i.toNat []) : pick sh l = pick sh' l := List.map_congr_left h
/-- A valid net's shapes are those that its nodes make of them. -/
theorem shapes_fix {n : NetD} (h : check n = 0) {id : Int} (h1 : 1 ≤ id) (h2 : id ≤ n.nodes.length) : layStep n.nodes (shapes n) id = ((shapes n).getD id.toNat [], 0) := by
  obtain ⟨_, _, hin, hb, hl, hlay, _⟩ := check_ok h
  have hu : id ∈ sorted n.nodes := (Kn.order_full hl id).2 ⟨h1, h2⟩
  obtain ⟨A, B, e⟩ := List.append_of_mem hu
  have hnd : (sorted n.nodes).Nodup := (Kn.go_ok _ _ _).nodup
  have hrg : ∀ u ∈ sorted n.nodes, 1 ≤ u ∧ u ≤ n.nodes.length := Kn.order_rng _ _
  have hbe := Kn.order_behind _ _ e
  have hs : shapes n = (lay n.nodes (start n) (sorted n.nodes)).1 := rfl
  rw [e] at hlay hnd hrg
  have hA : (lay n.nodes (start n) A).2 = 0 := by
    rw [lay_append] at hlay
    split at hlay
    · assumption
    · rename_i q; exact absurd hlay q
  rw [lay_append, if_pos hA, lay] at hlay
  have hS : (layStep n.nodes (lay n.nodes (start n) A).1 id).2 = 0 := by
    split at hlay
    · assumption
    · rename_i q; exact absurd hlay q
  rw [if_pos hS] at hlay
  have hs2 : shapes n = (lay n.nodes ((lay n.nodes (start n) A).1.set id.toNat (layStep n.nodes (lay n.nodes (start n) A).1 id).1) B).1 := by
    rw [hs, e, lay_append, if_pos hA, lay, if_pos hS]
  have hlenA : (lay n.nodes (start n) A).1.length = n.nodes.length + 1 := by rw [lay_len hA]; simp [start]
  have hnA : ∀ j, j ∈ A → j ≠ id ∧ j ∉ B := fun j hj => by
    rw [List.nodup_append] at hnd
    have := hnd.2.2 j hj
    exact ⟨fun e => by subst e; exact this j (by simp) rfl, fun hb => this j (by simp [hb]) rfl⟩
  have hnB : id ∉ B := by
    rw [List.nodup_append] at hnd
    exact (List.nodup_cons.1 hnd.2.1).1
  have hat : (shapes n).getD id.toNat [] = (layStep n.nodes (lay n.nodes (start n) A).1 id).1 := by
    rw [hs2, lay_keep hlay _ (fun u hu => by
      have := hrg u (by simp [hu])
      intro q
      have q : u = id := by omega
      exact hnB (q ▸ hu))]
    rw [List.getD_eq_getElem?_getD, List.getElem?_set_self (by omega)]; rfl
  have hins : ∀ i ∈ insF n.nodes id, (shapes n).getD i.toNat [] = (lay n.nodes (start n) A).1.getD i.toNat [] := fun i hi => by
    have hiA := hbe i hi
    have hi0 : 0 ≤ i ∧ i.toNat ≠ id.toNat := by
      rcases hiA with rfl | hiA
      · omega
      · have := hrg i (by simp [hiA]); have := (hnA i hiA).1; omega
    rw [hs2, lay_keep hlay _ (fun u hu => by
      have := hrg u (by simp [hu])
      intro q
      have q : u = i := by omega
      subst q
      rcases hiA with q | q
      · omega
      · exact (hnA u q).2 hu)]
    rw [List.getD_eq_getElem?_getD, List.getElem?_set_ne (by omega), ← List.getD_eq_getElem?_getD]
  have hstep : layStep n.nodes (shapes n) id = layStep n.nodes (lay n.nodes (start n) A).1 id := by
    have hp := pick_congr hins
    unfold insF at hp
    unfold layStep
    rw [hp]
  rw [hstep, hat]
  exact Prod.ext rfl hS
theorem shapes_zero {n : NetD} (h : check n = 0) : (shapes n).getD 0 [] = n.inn := by
  obtain ⟨_, _, hin, hb, hl, hlay, _⟩ := check_ok h
  have hrg : ∀ u ∈ sorted n.nodes, 1 ≤ u ∧ u ≤ n.nodes.length := Kn.order_rng _ _
  show (lay n.nodes (start n) (sorted n.nodes)).1.getD 0 [] = _
  rw [lay_keep hlay 0 (fun u hu => by have := hrg u hu; omega)]
  rfl
/-- The k-th node's output. -/
theorem shapes_node {n : NetD} (h : check n = 0) {k : Nat} (hk : k < n.nodes.length) : Od.shape n.nodes[k].op n.nodes[k].p (pick (shapes n) n.nodes[k].ins) = ((shapes n).getD (k + 1) [], 0) := by
  have := shapes_fix h (id := (k : Int) + 1) (by omega) (by omega)
  unfold layStep at this
  rw [node_at hk, show ((k : Int) + 1).toNat = k + 1 by omega] at this
  exact this
theorem shapes_all {n : NetD} (h : check n = 0) : ∀ s ∈ shapes n, Sh.right s = true := fun s hs => by
  obtain ⟨j, hj, rfl⟩ := List.getElem_of_mem hs
  have hl := shapes_len h
  have := shapes_good h (j : Int) (by omega) (by omega)
  rw [show ((j : Int)).toNat = j by omega, List.getD_eq_getElem?_getD, List.getElem?_eq_getElem hj] at this
  exact this
theorem params_right {n : NetD} (h : check n = 0) : ∀ s ∈ params n, Sh.right s = true := fun s hs => by
  obtain ⟨v, hv, hs⟩ := List.mem_flatMap.1 hs
  obtain ⟨k, hk, rfl⟩ := List.getElem_of_mem hv
  have := shapes_node h hk
  exact (Od.shape_good (by rw [this])).2.2.2.1 s hs
def words (n : NetD) : List Int := (shapes n).map Safe.prod
/-- The costs of the first k nodes. -/
def costsTo (n : NetD) (k : Nat) : List Int := (List.range k).map fun j => Od.costV (n.nodes.getD j none_).op (n.nodes.getD j none_).p ((shapes n).getD (j + 1) [])
def costs (n : NetD) : List Int := 0 :: costsTo n n.nodes.length
def total (n : NetD) : Int := Safe.sum (costs n)
theorem costsTo_succ {n : NetD} {k : Nat} (hk : k < n.nodes.length) : costsTo n (k + 1) = costsTo n k ++ [Od.costV n.nodes[k].op n.nodes[k].p ((shapes n).getD (k + 1) [])] := by
  unfold costsTo
  rw [List.range_succ, List.map_append]
  have : n.nodes.getD k none_ = n.nodes[k] := by rw [List.getD_eq_getElem?_getD, List.getElem?_eq_getElem hk]; rfl
  simp [hk]
theorem costsTo_len (n : NetD) (k : Nat) : (costsTo n k).length = k := by simp [costsTo]
theorem cost_at {n : NetD} (h : check n = 0) {k : Nat} (hk : k < n.nodes.length) : Od.cost n.nodes[k].op n.nodes[k].p (pick (shapes n) n.nodes[k].ins) = (Od.costV n.nodes[k].op n.nodes[k].p ((shapes n).getD (k + 1) []), 0) := by
  unfold Od.cost
  rw [shapes_node h hk]
  simp
theorem costs_bd {n : NetD} (h : check n = 0) (k : Nat) (hk : k ≤ n.nodes.length) : ∀ x ∈ costsTo n k, 0 ≤ x ∧ x ≤ 4294967296 := fun x hx => by
  unfold costsTo at hx
  obtain ⟨j, hj, rfl⟩ := List.mem_map.1 hx
  rw [List.mem_range] at hj
  have hjl : j < n.nodes.length := by omega
  have e : n.nodes.getD j none_ = n.nodes[j] := by rw [List.getD_eq_getElem?_getD, List.getElem?_eq_getElem hjl]; rfl
  rw [e]
  have hs := shapes_node h hjl
  have := Od.costV_bd (o := n.nodes[j].op) (p := n.nodes[j].p) (x := pick (shapes n) n.nodes[j].ins) (by rw [hs])
  rw [hs] at this
  exact this
theorem sum_bd {B : Int} : ∀ {l : List Int}, (∀ x ∈ l, 0 ≤ x ∧ x ≤ B) → 0 ≤ Safe.sum l ∧ Safe.sum l ≤ l.length * B
  | [], _ => by simp [Safe.sum]
  | a :: r, h => by
    have h1 := h a (by simp)
    have h2 := sum_bd (l := r) (B := B) fun x hx => h x (by simp [hx])
    simp only [Safe.sum, List.length_cons]
    rw [show ((r.length + 1 : Nat) : Int) * B = r.length * B + B by rw [Int.natCast_add, Int.add_mul]; simp]
    omega
theorem total_bd {n : NetD} (h : check n = 0) (hn : n.nodes.length ≤ 200) : 0 ≤ total n ∧ total n ≤ 858993459200 ∧ Safe.add (costs n) = (total n, 0) := by
  have hb := costs_bd h n.nodes.length (Nat.le_refl _)
  have hs := sum_bd hb
  rw [costsTo_len] at hs
  have e : total n = Safe.sum (costsTo n n.nodes.length) := by unfold total costs; rw [Safe.sum]; omega
  have hk : (n.nodes.length : Int) * 4294967296 ≤ 200 * 4294967296 := Int.mul_le_mul_of_nonneg_right (by omega) (by omega)
  refine ⟨by omega, by omega, ?_⟩
  unfold Safe.add
  have hall : (costs n).all Safe.ok = true := by
    rw [List.all_eq_true]
    intro x hx
    rw [Safe.ok_iff]
    rcases List.mem_cons.1 hx with rfl | hx
    · omega
    · have := hb x hx; omega
  rw [if_pos hall, if_pos (by rw [Safe.top_eq]; show total n ≤ _; omega)]
  rfl
theorem words_bd {n : NetD} (h : check n = 0) : ∀ x ∈ words n, 1 ≤ x ∧ x ≤ 65536 := fun x hx => by
  obtain ⟨s, hs, rfl⟩ := List.mem_map.1 hx
  exact Od.prod_right_ (shapes_all h s hs)
theorem words_len {n : NetD} (h : check n = 0) : (words n).length = n.nodes.length + 1 := by rw [words, List.length_map, shapes_len h]
end Nt
end Go.Proofs.Ytnofeebcmmmlhaa
/- Layer 12 (file): nets read from bytes: plain definitions. -/
namespace Go.Proofs.Ytnofeebcmmmlhaa
namespace Fn
open Fp
abbrev St := Option (List Int)
/-- A word as a signed number. -/
def sx (n : Int) : Int := IntKind.i64.wrap n
/-- n numbers of two bytes each. -/
def twos : Nat → St → List Int × St
  | 0, st => ([], st)
  | n + 1, st => ((twos n st).1 ++ [(get 2 (twos n st).2).1], (get 2 (twos n st).2).2)
/-- At most c numbers of two bytes; none behind the first that is short. -/
def insR : Nat → List Int → St → List Int × St
  | 0, acc, st => (acc, st)
  | _ + 1, acc, none => (acc, none)
  | c + 1, acc, some bs => insR c (acc ++ [(get 2 (some bs)).1]) (get 2 (some bs)).2
def psR : Nat → List (List Int) → St → List (List Int) × St
  | 0, acc, st => (acc, st)
  | _ + 1, acc, none => (acc, none)
  | c + 1, acc, some bs => psR c (acc ++ [(shapeR (some bs)).1]) (shapeR (some bs)).2
def opOf (kind k : Int) (l s : List Int) : OpD := ⟨kind, k, l.getD 0 0, l.getD 1 0, l.getD 2 0, l.getD 3 0, l.getD 4 0, s⟩
def nodeP (o : OpD) (i : List Int) (q : List (List Int) × St) : NodeD × St := (⟨o, i, q.1⟩, q.2)
def nodeI (o : OpD) (i : List Int × St) : NodeD × St := nodeP o i.1 (psR (get 1 i.2).1.toNat [] (get 1 i.2).2)
def nodeS (kind k : Int) (l : List Int) (s : List Int × St) : NodeD × St := nodeI (opOf kind k l s.1) (insR (get 1 s.2).1.toNat [] (get 1 s.2).2)
def nodeT (kind k : Int) (l : List Int × St) : NodeD × St := nodeS kind k l.1 (shapeR l.2)
def nodeK (kind : Int) (k : Int × St) : NodeD × St := nodeT kind (sx k.1) (twos 5 k.2)
def nodeR (st : St) : NodeD × St := nodeK (get 1 st).1 (get 8 (get 1 st).2)
def nodesR : Nat → List NodeD → St → List NodeD × St
  | 0, acc, st => (acc, st)
  | _ + 1, acc, none => (acc, none)
  | c + 1, acc, some bs => nodesR c (acc ++ [(nodeR (some bs)).1]) (nodeR (some bs)).2
def endO : St → Int
  | none => 16
  | some bs => if bs.length = 0 then 0 else 10
def none_ : NetD := ⟨[], []⟩
/-- What comes of a net that was read. -/
def judge (found : Int) (inn : List Int) (q : List NodeD × St) : Int × NetD :=
  if endO q.2 = 16 then (16, none_) else if found ≠ 1096042545 then (10, none_) else if endO q.2 ≠ 0 then (endO q.2, none_)
  else if Nt.check ⟨inn, q.1⟩ ≠ 0 then (Nt.check ⟨inn, q.1⟩, none_) else (0, ⟨inn, q.1⟩)
def dec2 (found : Int) (s : List Int × St) : Int × NetD := judge found s.1 (nodesR (get 2 s.2).1.toNat [] (get 2 s.2).2)
def dec1 (m : Int × St) : Int × NetD := dec2 m.1 (shapeR m.2)
theorem twos_len (n : Nat) (st : St) : (twos n st).1.length = n := by
  induction n with
  | zero => rfl
  | succ n ih => simp [twos, ih]
theorem num_le (s : Nat) (h : s ≤ 8) {st : St} (hb : okB st) : 0 ≤ (get s st).1 ∧ (get s st).1 < 256 ^ s := by
  have hp : (0 : Int) < 256 ^ s := Int.pow_pos (by decide)
  cases st with
  | none => simp [Fp.get]; exact hp
  | some bs =>
    by_cases hl : bs.length < s
    · rw [get_short hl]; simp; exact hp
    · rw [get_ok hl]
      have := num_byte (bs.take s) (fun x hx => hb x (List.mem_of_mem_take hx))
      rw [List.length_take, Nat.min_eq_left (by omega)] at this
      exact this
theorem sides_len {c : Nat} {bs : List Int} {p : List Int × List Int} (h : sides c bs = some p) : p.1.length = c := by
  induction c generalizing bs p with
  | zero => simp [sides] at h; subst h; rfl
  | succ c ih =>
    by_cases hl : bs.length < 2
    · rw [sides_short hl] at h; cases h
    · rw [sides_ok hl] at h
      obtain ⟨q, hq, rfl⟩ := Option.map_eq_some_iff.1 h
      simp [ih hq]
theorem shapeR_len {st : St} (h : okB st) : (shapeR st).1.length ≤ 255 := by
  cases st with
  | none => simp [shapeR]
  | some bs =>
    by_cases hl : bs.length < 1
    · simp [shapeR, hl]
    · simp only [shapeR, hl, if_false]
      cases hs : sides (num (bs.take 1)).toNat (bs.drop 1) with
      | none => simp
      | some p =>
        have := num_byte (bs.take 1) (fun x hx => h x (List.mem_of_mem_take hx))
        rw [List.length_take, Nat.min_eq_left (by omega)] at this
        have h2 := sides_len hs
        simp; omega
def decode (bs : List Int) (e : Int) (body : List Int) : Int × NetD := if e ≠ 0 then (e, none_) else dec1 (get 4 (some body))
theorem okB_get {s : Nat} {st : St} (h : okB st) : okB (get s st).2 := by
  cases st with
  | none => trivial
  | some bs =>
    by_cases hl : bs.length < s
    · rw [get_short hl]; trivial
    · rw [get_ok hl]; exact fun x hx => h x (List.mem_of_mem_drop hx)
theorem okB_sides {c : Nat} {bs : List Int} {p : List Int × List Int} (hb : ∀ x ∈ bs, 0 ≤ x ∧ x ≤ 255) (h : sides c bs = some p) : ∀ x ∈ p.2, 0 ≤ x ∧ x ≤ 255 := by
  induction c generalizing bs p with
  | zero => simp [sides] at h; subst h; exact hb
  | succ c ih =>
    by_cases hl : bs.length < 2
    · rw [sides_short hl] at h; cases h
    · rw [sides_ok hl] at h
      obtain ⟨q, hq, rfl⟩ := Option.map_eq_some_iff.1 h
      exact ih (p := q) (fun x hx => hb x (List.mem_of_mem_drop hx)) hq
theorem okB_shapeR {st : St} (h : okB st) : okB (shapeR st).2 := by
  cases st with
  | none => trivial
  | some bs =>
    by_cases hl : bs.length < 1
    · simp [shapeR, hl, okB]
    · simp only [shapeR, hl, if_false]
      cases hs : sides (num (bs.take 1)).toNat (bs.drop 1) with
      | none => trivial
      | some p => exact okB_sides (fun x hx => h x (List.mem_of_mem_drop hx)) hs
theorem okB_twos (n : Nat) {st : St} (h : okB st) : okB (twos n st).2 ∧ ∀ x ∈ (twos n st).1, 0 ≤ x ∧ x ≤ 65535 := by
  induction n with
  | zero => exact ⟨h, by simp [twos]⟩
  | succ n ih =>
    refine ⟨okB_get ih.1, fun x hx => ?_⟩
    rcases List.mem_append.1 hx with hx | hx
    · exact ih.2 x hx
    · rw [List.mem_singleton] at hx
      have := num_le 2 (by omega) ih.1
      simp at this; omega
theorem okB_insR : ∀ (c : Nat) (acc : List Int) {st : St}, okB st → (∀ x ∈ acc, 0 ≤ x ∧ x ≤ 65535) → okB (insR c acc st).2 ∧ (∀ x ∈ (insR c acc st).1, 0 ≤ x ∧ x ≤ 65535) ∧ (insR c acc st).1.length ≤ acc.length + c
  | 0, acc, st, h, ha => ⟨h, ha, Nat.le_refl _⟩
  | c + 1, acc, none, h, ha => ⟨trivial, ha, Nat.le_add_right _ _⟩
  | c + 1, acc, some bs, h, ha => by
    have h2 := num_le 2 (by omega) h
    obtain ⟨q1, q2, q3⟩ := okB_insR c (acc ++ [(get 2 (some bs)).1]) (okB_get h) (fun x hx => by
      rcases List.mem_append.1 hx with hx | hx
      · exact ha x hx
      · rw [List.mem_singleton] at hx; simp at h2; omega)
    refine ⟨q1, q2, ?_⟩
    have : (insR (c + 1) acc (some bs)).1 = (insR c (acc ++ [(get 2 (some bs)).1]) (get 2 (some bs)).2).1 := rfl
    rw [this]
    simp at q3; omega
theorem okB_psR : ∀ (c : Nat) (acc : List (List Int)) {st : St}, okB st → (∀ x ∈ acc, x.length ≤ 255) → okB (psR c acc st).2 ∧ (∀ x ∈ (psR c acc st).1, x.length ≤ 255) ∧ (psR c acc st).1.length ≤ acc.length + c
  | 0, acc, st, h, ha => ⟨h, ha, Nat.le_refl _⟩
  | c + 1, acc, none, h, ha => ⟨trivial, ha, Nat.le_add_right _ _⟩
  | c + 1, acc, some bs, h, ha => by
    obtain ⟨q1, q2, q3⟩ := okB_psR c (acc ++ [(shapeR (some bs)).1]) (okB_shapeR h) (fun x hx => by
      rcases List.mem_append.1 hx with hx | hx
      · exact ha x hx
      · rw [List.mem_singleton] at hx; subst hx; exact shapeR_len h)
    refine ⟨q1, q2, ?_⟩
    have : (psR (c + 1) acc (some bs)).1 = (psR c (acc ++ [(shapeR (some bs)).1]) (shapeR (some bs)).2).1 := rfl
    rw [this]
    simp at q3; omega
theorem sx_in (n : Int) : -9223372036854775808 ≤ sx n ∧ sx n ≤ 9223372036854775807 := by unfold sx; rw [IntKind.wrap_i64]; omega
/-- What is read as a node fits an int's rows. -/
def mild (v : NodeD) : Prop := (∀ z ∈ [v.op.kind, v.op.k, v.op.width, v.op.step, v.op.side, v.op.frm, v.op.to], -9223372036854775808 ≤ z ∧ z ≤ 9223372036854775807) ∧ v.op.s.length ≤ 255 ∧ v.ins.length ≤ 255 ∧ v.p.length ≤ 255 ∧ (∀ s ∈ v.p, s.length ≤ 255) ∧ ∀ z ∈ v.ins, 0 ≤ z ∧ z ≤ 65535
theorem getD_in {l : List Int} (h : ∀ x ∈ l, 0 ≤ x ∧ x ≤ 65535) (i : Nat) : 0 ≤ l.getD i 0 ∧ l.getD i 0 ≤ 65535 := by
  by_cases hi : i < l.length
  · rw [List.getD_eq_getElem?_getD, List.getElem?_eq_getElem hi]; exact h _ (List.getElem_mem hi)
  · rw [List.getD_eq_getElem?_getD, List.getElem?_eq_none (by omega)]; simp
theorem nodeR_mild {st : St} (h : okB st) : mild (nodeR st).1 ∧ okB (nodeR st).2 := by
  have b1 := okB_get (s := 1) h
  have b2 := okB_get (s := 8) b1
  have b3 := okB_twos 5 b2
  have b4 := okB_shapeR b3.1
  have b5 := okB_get (s := 1) b4
  have k1 := num_le 1 (by omega) h
  have k5 := num_le 1 (by omega) b4
  have b6 := okB_insR (get 1 (shapeR (twos 5 (get 8 (get 1 st).2).2).2).2).1.toNat [] b5 (by simp)
  have b7 := okB_get (s := 1) b6.1
  have k7 := num_le 1 (by omega) b6.1
  have b8 := okB_psR (get 1 (insR (get 1 (shapeR (twos 5 (get 8 (get 1 st).2).2).2).2).1.toNat [] (get 1 (shapeR (twos 5 (get 8 (get 1 st).2).2).2).2).2).2).1.toNat [] b7 (by simp)
  have hl := shapeR_len b3.1
  have hk := sx_in (get 8 (get 1 st).2).1
  have g0 := getD_in b3.2 0
  have g1 := getD_in b3.2 1
  have g2 := getD_in b3.2 2
  have g3 := getD_in b3.2 3
  have g4 := getD_in b3.2 4
  simp only [List.length_nil, Nat.zero_add] at b6 b8
  simp at k1 k5 k7
  refine ⟨⟨?_, hl, Nat.le_trans b6.2.2 (by omega), Nat.le_trans b8.2.2 (by omega), b8.2.1, b6.2.1⟩, b8.1⟩
  intro z hz
  simp only [nodeR, nodeK, nodeT, nodeS, nodeI, nodeP, opOf, List.mem_cons, List.not_mem_nil, or_false] at hz
  rcases hz with rfl | rfl | rfl | rfl | rfl | rfl | rfl
  · omega
  · exact hk
  all_goals omega
theorem insR_short (c : Nat) (acc : List Int) : insR c acc none = (acc, none) := by cases c <;> rfl
theorem psR_short (c : Nat) (acc : List (List Int)) : psR c acc none = (acc, none) := by cases c <;> rfl
theorem nodesR_short (c : Nat) (acc : List NodeD) : nodesR c acc none = (acc, none) := by cases c <;> rfl
end Fn
end Go.Proofs.Ytnofeebcmmmlhaa
/- Reading numbers and shapes from bytes: plain inverse laws. -/
namespace Go.Proofs.Ytnofeebcmmmlhaa
namespace Fq
open Fp Go.Proofs.Ytnofeebcmmmlhaa.Fn
def inR (z : Int) : Prop := -9223372036854775808 ≤ z ∧ z ≤ 9223372036854775807
theorem sx_mod {z : Int} (h : inR z) : sx (z % 18446744073709551616) = z := by
  unfold Fn.sx inR at *; rw [IntKind.wrap_i64]; omega
theorem sx_big (n : Int) : big (sx n) 8 = big n 8 := by
  rw [← big_wrap (sx n) 8 (by omega), ← big_wrap n 8 (by omega)]
  congr 1
  unfold Fn.sx; rw [IntKind.wrap_i64]; omega
theorem split {p y a b : List Int} (h : p ++ y = a ++ b) : (∃ c, c ≠ [] ∧ p ++ c = a) ∨ ∃ c, p = a ++ c ∧ c ++ y = b := by
  rcases List.append_eq_append_iff.1 h with ⟨c, h1, h2⟩ | ⟨c, h1, h2⟩
  · cases c with
    | nil => exact .inr ⟨[], by simpa using h1.symm, by simpa using h2⟩
    | cons x r => exact .inl ⟨x :: r, by simp, h1.symm⟩
  · exact .inr ⟨c, h1, h2.symm⟩
theorem get_big (n : Int) (s : Nat) (r : List Int) : get s (some (big n s ++ r)) = (n % 256 ^ s, some r) := by
  have hl := big_length n s
  rw [get_ok (by rw [List.length_append]; omega), List.take_append_of_le_length (by omega), List.take_of_length_le (by omega), num_big]
  rw [List.drop_append_of_le_length (by omega), List.drop_eq_nil_of_le (by omega)]; rfl
theorem get_pre {p y : List Int} {n : Int} {s : Nat} (h : p ++ y = big n s) (hy : y ≠ []) : get s (some p) = (0, none) := by
  refine get_short ?_
  have := congrArg List.length h
  rw [List.length_append, big_length] at this
  have : 0 < y.length := List.length_pos_iff.2 hy
  omega
theorem get_inv {s : Nat} {bs r : List Int} (hb : ∀ x ∈ bs, 0 ≤ x ∧ x ≤ 255) (h : (get s (some bs)).2 = some r) : bs = big (get s (some bs)).1 s ++ r ∧ 0 ≤ (get s (some bs)).1 ∧ (get s (some bs)).1 < 256 ^ s := by
  by_cases hl : bs.length < s
  · rw [get_short hl] at h; cases h
  · rw [get_ok hl] at h ⊢
    injection h with h
    have hl2 : (bs.take s).length = s := by rw [List.length_take]; omega
    have h1 := big_num (bs.take s) (fun x hx => hb x (List.mem_of_mem_take hx))
    have h2 := num_byte (bs.take s) (fun x hx => hb x (List.mem_of_mem_take hx))
    rw [hl2] at h1 h2
    refine ⟨?_, h2⟩
    show bs = big (num (bs.take s)) s ++ r
    rw [h1, ← h, List.take_append_drop]
theorem get_none_of {s : Nat} {st : Option (List Int)} (h : st = none) : (get s st).2 = none := by subst h; rfl
theorem sides_flat : ∀ (zs r : List Int), (∀ z ∈ zs, 0 ≤ z ∧ z ≤ 65535) → sides zs.length (zs.flatMap (big · 2) ++ r) = some (zs, r)
  | [], r, _ => rfl
  | z :: zs, r, h => by
    have hl := big_length z 2
    have hz := h z (by simp)
    rw [List.flatMap_cons, List.length_cons, sides_ok (by simp [hl]), List.append_assoc]
    have e1 : (big z 2 ++ (zs.flatMap (big · 2) ++ r)).drop 2 = zs.flatMap (big · 2) ++ r := by
      rw [List.drop_append_of_le_length (by omega), List.drop_eq_nil_of_le (by omega)]; rfl
    have e2 : (big z 2 ++ (zs.flatMap (big · 2) ++ r)).take 2 = big z 2 := by
      rw [List.take_append_of_le_length (by omega), List.take_of_length_le (by omega)]
    rw [e1, e2, sides_flat zs r (fun x hx => h x (by simp [hx])), num_big]
    simp; omega
theorem sides_pre : ∀ (zs p y : List Int), p ++ y = zs.flatMap (big · 2) → y ≠ [] → sides zs.length p = none
  | [], p, y, h, hy => by simp at h; exact absurd h.2 hy
  | z :: zs, p, y, h, hy => by
    have hl := big_length z 2
    rw [List.flatMap_cons] at h
    rcases split h with ⟨c, hc, h1⟩ | ⟨c, rfl, h2⟩
    · refine sides_short ?_
      have := congrArg List.length h1
      have : 0 < c.length := List.length_pos_iff.2 hc
      simp [hl] at *; omega
    · rw [List.length_cons, sides_ok (by simp [hl])]
      have e1 : (big z 2 ++ c).drop 2 = c := by rw [List.drop_append_of_le_length (by omega), List.drop_eq_nil_of_le (by omega)]; rfl
      rw [e1, sides_pre zs c y h2 hy]; rfl
theorem sides_inv : ∀ (n : Nat) (bs : List Int) (q : List Int × List Int), (∀ x ∈ bs, 0 ≤ x ∧ x ≤ 255) → sides n bs = some q → bs = q.1.flatMap (big · 2) ++ q.2 ∧ (∀ z ∈ q.1, 0 ≤ z ∧ z ≤ 65535) ∧ q.1.length = n
  | 0, bs, q, _, h => by simp [sides] at h; subst h; simp
  | n + 1, bs, q, hb, h => by
    by_cases hl : bs.length < 2
    · rw [sides_short hl] at h; cases h
    · rw [sides_ok hl] at h
      obtain ⟨q2, h2, rfl⟩ := Option.map_eq_some_iff.1 h
      obtain ⟨i1, i2, i3⟩ := sides_inv n _ q2 (fun x hx => hb x (List.mem_of_mem_drop hx)) h2
      have hl2 : (bs.take 2).length = 2 := by rw [List.length_take]; omega
      have h3 := big_num (bs.take 2) (fun x hx => hb x (List.mem_of_mem_take hx))
      rw [hl2] at h3
      have h4 := two_bytes hb hl
      refine ⟨?_, ?_, by simp [i3]⟩
      · simp only [List.flatMap_cons, h3, List.append_assoc]; rw [← i1, List.take_append_drop]
      · intro z hz
        rcases List.mem_cons.1 hz with rfl | hz
        · exact h4
        · exact i2 z hz
theorem shapeR_shape (zs r : List Int) (hl : zs.length ≤ 255) (h : ∀ z ∈ zs, 0 ≤ z ∧ z ≤ 65535) : shapeR (some (Fp.shape zs ++ r)) = (zs, some r) := by
  rw [shapeR_F, Fp.shape, List.append_assoc, get_big]
  have e : ((zs.length : Int) % 256 ^ 1).toNat = zs.length := by simp; omega
  simp only [shapeF]
  rw [e, sides_flat zs r h]
  rfl
theorem shapeR_pre {zs p y : List Int} (hl : zs.length ≤ 255) (h : p ++ y = Fp.shape zs) (hy : y ≠ []) : (shapeR (some p)).2 = none := by
  rw [shapeR_F]
  rcases split h with ⟨c, hc, h1⟩ | ⟨c, rfl, h2⟩
  · rw [get_pre h1 hc]; rfl
  · rw [get_big]
    have e : ((zs.length : Int) % 256 ^ 1).toNat = zs.length := by simp; omega
    simp only [shapeF]
    rw [e, sides_pre zs c y h2 hy]
theorem shapeR_inv {bs r : List Int} (hb : ∀ x ∈ bs, 0 ≤ x ∧ x ≤ 255) (h : (shapeR (some bs)).2 = some r) : bs = Fp.shape (shapeR (some bs)).1 ++ r := by
  rw [shapeR_F] at h ⊢
  cases hg : (get 1 (some bs)).2 with
  | none => rw [hg] at h; cases h
  | some q =>
    obtain ⟨h1, h2, h3⟩ := get_inv hb hg
    have hq : ∀ x ∈ q, 0 ≤ x ∧ x ≤ 255 := fun x hx => hb x (by rw [h1]; exact List.mem_append_right _ hx)
    rw [hg] at h
    simp only [shapeF] at h ⊢
    cases hs : sides (get 1 (some bs)).1.toNat q with
    | none => rw [hs] at h; cases h
    | some w =>
      rw [hs] at h
      injection h with h
      obtain ⟨i1, _, i3⟩ := sides_inv _ q w hq hs
      show bs = Fp.shape ([] ++ w.1) ++ r
      rw [List.nil_append, Fp.shape, i3, ← h, List.append_assoc, ← i1, Int.toNat_of_nonneg h2, ← h1]
end Fq
end Go.Proofs.Ytnofeebcmmmlhaa
/- Bytes put together by shift and or. No program is named here. -/
namespace Go.Proofs.Ytnofeebcmmmlhaa
open Go.RowKit
theorem or_i64_nat (a b : Nat) (ha : a < 2 ^ 62) (hb : b < 2 ^ 62) : bits .or .i64 (a : Int) (b : Int) = ((a ||| b : Nat) : Int) := by
  have hx : a ||| b < 2 ^ 62 := Nat.or_lt_two_pow ha hb
  have h1 : (BitVec.ofInt 64 (a : Int)).toNat = a := by
    rw [BitVec.ofInt_natCast, BitVec.toNat_ofNat]; exact Nat.mod_eq_of_lt (by omega)
  have h2 : (BitVec.ofInt 64 (b : Int)).toNat = b := by
    rw [BitVec.ofInt_natCast, BitVec.toNat_ofNat]; exact Nat.mod_eq_of_lt (by omega)
  show IntKind.i64.wrap ((BitVec.ofInt 64 (a : Int) ||| BitVec.ofInt 64 (b : Int)).toNat : Int) = _
  rw [BitVec.toNat_or, h1, h2, IntWalk.i64_in _ (by omega)]
theorem or_mul (a b i m : Nat) (hm : m = 2 ^ i) (h : a < m) : (b * m) ||| a = b * m + a := by
  subst hm
  rw [← Nat.shiftLeft_eq, Nat.shiftLeft_add_eq_or_of_lt h]
theorem or_byte (x y : Int) (x0 : 0 ≤ x) (x1 : x ≤ 255) (y0 : 0 ≤ y) (y1 : y ≤ 255) : bits .or .i64 (x * 256) y = x * 256 + y := by
  obtain ⟨n, rfl⟩ := Int.eq_ofNat_of_zero_le x0
  obtain ⟨m, rfl⟩ := Int.eq_ofNat_of_zero_le y0
  have e : ((n : Int) * 256) = ((n * 256 : Nat) : Int) := by omega
  rw [e, or_i64_nat _ _ (by omega) (by omega), or_mul m n 8 256 (by decide) (by omega)]
  omega
theorem or_u64_mul (a b : Nat) (ha : a * 256 + b < 18446744073709551616) (hb : b < 256) : bits .or .u64 ((a * 256 : Nat) : Int) (b : Int) = ((a * 256 + b : Nat) : Int) := by
  have h1 := bits_or_u64_nat (a * 256) b (Nat.lt_of_le_of_lt (Nat.le_add_right _ _) ha) (Nat.lt_of_le_of_lt (Nat.le_add_left _ _) ha)
  rw [h1, or_mul b a 8 256 (by decide) hb]
theorem or_u64_int (n c : Int) (n0 : 0 ≤ n) (n1 : n < 72057594037927936) (c0 : 0 ≤ c) (c1 : c ≤ 255) : bits .or .u64 (n * 256) c = n * 256 + c := by
  obtain ⟨a, rfl⟩ := Int.eq_ofNat_of_zero_le n0
  obtain ⟨b, rfl⟩ := Int.eq_ofNat_of_zero_le c0
  have e : ((a : Int) * 256) = ((a * 256 : Nat) : Int) := by omega
  rw [e, or_u64_mul a b (by omega) (by omega)]
  omega
end Go.Proofs.Ytnofeebcmmmlhaa
