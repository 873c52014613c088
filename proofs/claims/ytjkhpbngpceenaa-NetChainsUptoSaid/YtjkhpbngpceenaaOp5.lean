/- Layer 10 (op): the shapes that some kinds answer with: contracts. -/
import Derived.Test.YtjkhpbngpceenaaShapeD
import Derived.Test.YtjkhpbngpceenaaConvS
namespace Go.Proofs.Ytjkhpbngpceenaa
open Go.RowKit

theorem Shps.cell_at {w : World} {b off j : Nat} {ss : List (List Int)} (h : Shps w (some ⟨b, off, none⟩) ss) (hj : j < ss.length) :
    ∃ S c, w.cell? ⟨b, off + j, none⟩ = some (.slice S ss[j].length c) ∧ Ints .i64 w S ss[j] ∧ ss[j].length ≤ c ∧ c ≤ 9223372036854775807 := by
  obtain ⟨b', off', S, c, e, _, hc, h2⟩ := h j hj
  injection e with e
  injection e with e1 e2
  subst e1 e2
  exact ⟨S, c, hc, h2⟩
theorem gets_at {l : List (List Int)} {k : Nat} (h : k < l.length) : l.getD k [] = l[k] := by rw [List.getD_eq_getElem?_getD, List.getElem?_eq_getElem h]; rfl

set_option maxHeartbeats 4000000 in
theorem op_dense (A B C : Option Addr) (c d f : Nat) (ws bs xs : List Int) (w : World) (hx : xs.length ≤ 17592186043904) (hI : Ints .i64 w A ws) (hJ : Ints .i64 w B bs) (hK : Ints .i64 w C xs) :
    Calls Try.prog 83 #[.slice A ws.length c, .slice B bs.length d, .slice C xs.length f] w (ShPost (Od.dense ws bs xs) w) := by
  have bad : ¬ (ws.length = 2 ∧ bs.length = 1 ∧ bs.getD 0 0 = ws.getD 0 0 ∧ Sh.right xs = true ∧ Safe.prod xs = ws.getD 1 0) → Od.dense ws bs xs = ([], 20) := fun h => by unfold Od.dense; rw [if_neg h]
  have HI := Lib.hid hI
  have HJ := Lib.hid hJ
  have HK := Lib.hid hK
  clear hI hJ hK
  by_cases c1 : ws.length = 2
  case neg =>
    have HE := Lib.hid (bad (by omega))
    have d1 : ((ws.length : Int) != 2) = true := by simp; omega
    clear bad c1
    go_enter Try.func83, Try.ntmps83
    go_wp2_with fail
    go_quiet (fail)
    go_wp2_with fail
    go_ret2
    exact ShPost.fail HE.out (Bdrawn (Below.refl _ _) _)
  by_cases c2 : bs.length = 1
  case neg =>
    have HE := Lib.hid (bad (by omega))
    have d1 : ((ws.length : Int) != 2) = false := by simp; omega
    have d2 : ((bs.length : Int) != 1) = true := by simp; omega
    clear bad c1 c2
    go_enter Try.func83, Try.ntmps83
    go_wp2_with fail
    go_quiet (fail)
    go_wp2_with fail
    go_ret2
    exact ShPost.fail HE.out (Bdrawn (Below.refl _ _) _)
  obtain ⟨b, off, rfl, hb, -⟩ := HI.out 0 (by omega)
  obtain ⟨b', off', rfl, hb', -⟩ := HJ.out 0 (by omega)
  have n0 : 0 < ws.length := by omega
  have n1 : 1 < ws.length := by omega
  have m0 : 0 < bs.length := by omega
  have e0 : (0 : Int) < ws.length := by omega
  have e1 : (1 : Int) < ws.length := by omega
  have f0 : (0 : Int) < bs.length := by omega
  have d1 : ((ws.length : Int) != 2) = false := by simp; omega
  have d2 : ((bs.length : Int) != 1) = false := by simp; omega
  have x0 := HI.out.cell_at n0
  have y0 := HJ.out.cell_at m0
  rw [Nat.add_zero] at x0 y0
  rw [getD_at n0, getD_at m0, getD_at n1] at bad
  have good : bs[0] = ws[0] → Sh.right xs = true → Safe.prod xs = ws[1] → Od.dense ws bs xs = ([ws[0]], 0) := fun h1 h2 h3 => by
    unfold Od.dense
    rw [if_pos ⟨c1, c2, by rw [getD_at n0, getD_at m0]; exact h1, h2, by rw [getD_at n1]; exact h3⟩, getD_at n0]
  have HC1 := Lib.hid c1
  have HC2 := Lib.hid c2
  by_cases c3 : bs[0] = ws[0]
  case neg =>
    have HE := Lib.hid (bad (by simp [c3]))
    have d3 : (bs[0] != ws[0]) = true := by simp [c3]
    clear bad good c1 c2 c3
    go_enter Try.func83, Try.ntmps83
    go_wp2_with fail
    go_quiet (fail)
    go_wp2_with fail
    go_ret2
    exact ShPost.fail HE.out (Bdrawn (Below.refl _ _) _)
  have d3 : (bs[0] != ws[0]) = false := by simp [c3]
  have bad := fun h : ¬ (Sh.right xs = true ∧ Safe.prod xs = ws[1]) => bad (by intro q; exact h ⟨q.2.2.2.1, q.2.2.2.2⟩)
  have good := good c3
  clear c1 c2 c3
  cases hr : Sh.right xs
  · have HE := Lib.hid (bad (by simp [hr]))
    have HS := Lib.hid (show Sh.size xs = (0, 20) by simp [Sh.size, hr])
    clear bad good
    have Hr := Lib.hid hr
    clear hr
    go_enter Try.func83, Try.ntmps83
    go_wp2_with fail
    go_quiet (fail)
    go_wp2_with fail
    refine (shape_size C f xs _ (by omega) (HK.out.drewN _)).mono ?_
    rintro e w1 ⟨rfl, h1⟩
    rw [HS.out]
    go_wp2_with fail
    go_ret2
    exact ShPost.fail HE.out ((Bdrawn (Below.refl _ _) _).trans h1)
  have HS := Lib.hid (show Sh.size xs = (Safe.prod xs, 0) by simp [Sh.size, hr])
  by_cases hp : Safe.prod xs = ws[1]
  · have HE := Lib.hid (good hr hp)
    have d5 : (Safe.prod xs != ws[1]) = false := by simp [hp]
    clear bad good hp
    have Hr := Lib.hid hr
    clear hr
    go_enter Try.func83, Try.ntmps83
    go_wp2_with fail
    go_quiet (fail)
    go_wp2_with fail
    refine (shape_size C f xs _ (by omega) (HK.out.drewN _)).mono ?_
    rintro e w1 ⟨rfl, h1⟩
    rw [HS.out]
    have hb1 : Below w.heap.size w w1 := (Bdrawn (Below.refl _ _) _).trans h1
    have x1 := (HI.out.below hb1 (Nat.le_refl _)).cell_at n1
    have x0 := (HI.out.below hb1 (Nat.le_refl _)).cell_at n0
    rw [Nat.add_zero] at x0
    go_wp2_with fail
    go_ret2
    refine ShPost.fresh (g := w1.heap.size) (t := 3) HE.out (by simp) hb1.size ?_ (by simp) (by omega) (hb1.alloc hb1.size _)
    exact Blk.new _ _ _
  · have HE := Lib.hid (bad (by simp [hp]))
    have d5 : (Safe.prod xs != ws[1]) = true := by simp [hp]
    clear bad good hp
    have Hr := Lib.hid hr
    clear hr
    go_enter Try.func83, Try.ntmps83
    go_wp2_with fail
    go_quiet (fail)
    go_wp2_with fail
    refine (shape_size C f xs _ (by omega) (HK.out.drewN _)).mono ?_
    rintro e w1 ⟨rfl, h1⟩
    rw [HS.out]
    have hb1 : Below w.heap.size w w1 := (Bdrawn (Below.refl _ _) _).trans h1
    have x1 := (HI.out.below hb1 (Nat.le_refl _)).cell_at n1
    go_wp2_with fail
    go_ret2
    exact ShPost.fail HE.out hb1

theorem Od.same_bad {l : List (List Int)} {k : Nat} (hk : k < l.length) (h0 : 0 < l.length) (h : l[k] ≠ l[0]) : Od.same l = ([], 20) := by
  unfold Od.same
  rw [if_neg]
  rw [List.all_eq_true]
  intro q
  have := q l[k] (List.getElem_mem hk)
  rw [gets_at h0] at this
  simp [h] at this
theorem Od.same_good {l : List (List Int)} (h0 : 0 < l.length) (h : ∀ k (hk : k < l.length), l[k] = l[0]) : Od.same l = (l[0], 0) := by
  unfold Od.same
  rw [if_pos, gets_at h0]
  rw [List.all_eq_true]
  intro x hx
  obtain ⟨k, hk, rfl⟩ := List.getElem_of_mem hx
  rw [gets_at h0]
  simp [h k hk]
set_option maxHeartbeats 4000000 in
theorem op_same (A : Option Addr) (c : Nat) (ss : List (List Int)) (w : World) (h0 : 0 < ss.length) (hc : ss.length ≤ c) (hm : c ≤ 9223372036854775807) (hI : Shps w A ss) (hz : ∀ s ∈ ss, s.length ≤ 17592186043904) :
    Calls Try.prog 84 #[.slice A ss.length c] w (ShPost (Od.same ss) w) := by
  obtain ⟨b, off, _, _, rfl, hb, -⟩ := hI 0 h0
  have e0 : (0 : Int) < ss.length := by omega
  have e1 : (1 : Int) ≤ ss.length := by omega
  have HI := Lib.hid hI
  have Hz := Lib.hid hz
  clear hI hz
  by_cases hc1 : c = 1
  · subst hc1
    have h1 : ss.length - 1 = 0 := by omega
    have HE := Lib.hid (Od.same_good h0 fun j hj => by obtain rfl : j = 0 := by omega
                                                       rfl)
    have z0 := Hz.out _ (List.getElem_mem h0)
    obtain ⟨S0, c0, y0, hI0, hc0, hm0⟩ := HI.out.cell_at h0
    rw [Nat.add_zero] at y0
    have HI0 := Lib.hid hI0
    clear hI0
    go_enter Try.func84, Try.ntmps84
    go_wp2_with fail
    go_loopw [9] (fun i wr => wr = w ∧ i = .int .i64 0) (fun _ _ => 0)
    case atStart => exact ⟨rfl, rfl⟩
    case round =>
      obtain ⟨rfl, rfl⟩ := hrel
      go_wp2_with fail
      refine (shape_copy S0 c0 ss[0] _ z0 HI0.out).mono ?_
      rintro e w1 ⟨g, rfl, hg, hB, h1⟩
      go_wp2_with fail
      go_ret2
      exact ShPost.fresh HE.out rfl hg hB (Nat.le_refl _) (by omega) h1
  go_enter Try.func84, Try.ntmps84
  go_wp2_with fail
  go_loopw [9] (fun i wr => ∃ k n : Nat, wr = w.drewN n ∧ k ≤ ss.length - 1 ∧ i = .int .i64 k ∧ ∀ j (hj : j < ss.length), j ≤ k → ss[j] = ss[0]) (fun i _ => ss.length - (intOf i).toNat)
  case atStart => exact ⟨0, 0, rfl, Nat.zero_le _, rfl, fun j hj h => by obtain rfl : j = 0 := by omega
                                                                         rfl⟩
  case round =>
    obtain ⟨k, n, rfl, hk, rfl, hall⟩ := hrel
    have HA := Lib.hid hall
    clear hall
    obtain ⟨S0, c0, y0, hI0, hc0, hm0⟩ := (HI.out.drewN n).cell_at h0
    rw [Nat.add_zero] at y0
    have HI0 := Lib.hid hI0
    clear hI0
    by_cases hlt : k < ss.length - 1
    · have p1 : k + 1 < ss.length := by omega
      have k1 : (k : Int) < ((ss.length - 1 : Nat) : Int) := by omega
      obtain ⟨S1, c1, y1, hI1, hc1, hm1⟩ := (HI.out.drewN n).cell_at p1
      rw [show off + (k + 1) = off + 1 + k by omega] at y1
      have HI1 := Lib.hid hI1
      clear hI1
      have z1 := Hz.out _ (List.getElem_mem p1)
      have z0 := Hz.out _ (List.getElem_mem h0)
      by_cases hq : ss[k + 1] = ss[0]
      · have hb : (ss[k + 1] == ss[0]) = true := by simp [hq]
        have HB := Lib.hid hb
        have HQ := Lib.hid hq
        clear hq hb
        go_wp2_with fail
        refine (shape_equal S1 S0 c1 c0 ss[k + 1] ss[0] _ z1 z0 HI1.out HI0.out).mono ?_
        rintro e w1 ⟨rfl, n1, rfl⟩
        rw [HB.out]
        go_wp2_with fail
        go_roundw
        case rel => exact ⟨k + 1, n + n1, by first | rfl | exact World.drewN_drewN _ _ _, by omega, by go_num, fun j hj h => by
          by_cases e : j = k + 1
          · subst e; exact HQ.out
          · exact HA.out j hj (by omega)⟩
        case measure => simp [intOf]; omega
      · have hb : (ss[k + 1] == ss[0]) = false := by simp [hq]
        have HE := Lib.hid (Od.same_bad p1 h0 hq)
        have HB := Lib.hid hb
        clear hq hb
        go_wp2_with fail
        refine (shape_equal S1 S0 c1 c0 ss[k + 1] ss[0] _ z1 z0 HI1.out HI0.out).mono ?_
        rintro e w1 ⟨rfl, n1, rfl⟩
        rw [HB.out]
        go_wp2_with fail
        go_ret2
        exact ShPost.fail HE.out (Bdrawn (Below.refl _ _) _)
    · obtain rfl : k = ss.length - 1 := by omega
      have k1 : ¬ (((ss.length - 1 : Nat) : Int) < ((ss.length - 1 : Nat) : Int)) := by omega
      have HE := Lib.hid (Od.same_good h0 fun j hj => HA.out j hj (by omega))
      have z0 := Hz.out _ (List.getElem_mem h0)
      go_wp2_with fail
      refine (shape_copy S0 c0 ss[0] _ z0 HI0.out).mono ?_
      rintro e w1 ⟨g, rfl, hg, hB, h1⟩
      go_wp2_with fail
      go_ret2
      exact ShPost.fresh HE.out rfl hg hB (Nat.le_refl _) (by omega) ((Bdrawn (Below.refl _ _) n).trans h1)

set_option maxHeartbeats 4000000 in
theorem op_turned (A B : Option Addr) (c d : Nat) (xs ss : List Int) (w : World) (hx : xs.length ≤ 17592186043904) (hs : ss.length ≤ 17592186043904) (hI : Ints .i64 w A xs) (hJ : Ints .i64 w B ss) :
    Calls Try.prog 89 #[.slice A xs.length c, .slice B ss.length d] w (ShPost (Od.turned xs ss) w) := by
  have HI := Lib.hid hI
  have HJ := Lib.hid hJ
  clear hI hJ
  cases hr : Sh.right xs
  · have HE := Lib.hid (show Od.turned xs ss = ([], 20) by simp [Od.turned, hr])
    have HS := Lib.hid (show Sh.size xs = (0, 20) by simp [Sh.size, hr])
    clear hr
    go_enter Try.func89, Try.ntmps89
    go_wp2_with fail
    refine (shape_size A c xs _ (by omega) HI.out).mono ?_
    rintro e w1 ⟨rfl, h1⟩
    rw [HS.out]
    go_wp2_with fail
    go_ret2
    exact ShPost.fail HE.out h1
  have HS := Lib.hid (show Sh.size xs = (Safe.prod xs, 0) by simp [Sh.size, hr])
  cases hq : Sh.right ss
  · have HE := Lib.hid (show Od.turned xs ss = ([], 20) by simp [Od.turned, hq])
    have HT := Lib.hid (show Sh.size ss = (0, 20) by simp [Sh.size, hq])
    clear hr hq
    go_enter Try.func89, Try.ntmps89
    go_wp2_with fail
    refine (shape_size A c xs _ (by omega) HI.out).mono ?_
    rintro e w1 ⟨rfl, h1⟩
    rw [HS.out]
    go_wp2_with fail
    refine (shape_size B d ss _ (by omega) (HJ.out.below h1 (Nat.le_refl _))).mono ?_
    rintro e w2 ⟨rfl, h2⟩
    rw [HT.out]
    go_wp2_with fail
    go_ret2
    exact ShPost.fail HE.out (h1.trans (h2.mono h1.size))
  have HT := Lib.hid (show Sh.size ss = (Safe.prod ss, 0) by simp [Sh.size, hq])
  by_cases hp : Safe.prod ss = Safe.prod xs
  · have HE := Lib.hid (show Od.turned xs ss = (ss, 0) by simp [Od.turned, hr, hq, hp])
    have d5 : (Safe.prod ss != Safe.prod xs) = false := by simp [hp]
    clear hr hq hp
    go_enter Try.func89, Try.ntmps89
    go_wp2_with fail
    refine (shape_size A c xs _ (by omega) HI.out).mono ?_
    rintro e w1 ⟨rfl, h1⟩
    rw [HS.out]
    go_wp2_with fail
    refine (shape_size B d ss _ (by omega) (HJ.out.below h1 (Nat.le_refl _))).mono ?_
    rintro e w2 ⟨rfl, h2⟩
    have hb2 := h1.trans (h2.mono h1.size)
    rw [HT.out]
    go_wp2_with fail
    refine (shape_copy B d ss _ hs (HJ.out.below hb2 (Nat.le_refl _))).mono ?_
    rintro e w3 ⟨g, rfl, hg, hB, h3⟩
    go_wp2_with fail
    go_ret2
    exact ShPost.fresh HE.out rfl (Nat.le_trans hb2.size hg) hB (Nat.le_refl _) (by omega) (hb2.trans (h3.mono hb2.size))
  · have HE := Lib.hid (show Od.turned xs ss = ([], 20) by simp [Od.turned, hp])
    have d5 : (Safe.prod ss != Safe.prod xs) = true := by simp [hp]
    clear hr hq hp
    go_enter Try.func89, Try.ntmps89
    go_wp2_with fail
    refine (shape_size A c xs _ (by omega) HI.out).mono ?_
    rintro e w1 ⟨rfl, h1⟩
    rw [HS.out]
    go_wp2_with fail
    refine (shape_size B d ss _ (by omega) (HJ.out.below h1 (Nat.le_refl _))).mono ?_
    rintro e w2 ⟨rfl, h2⟩
    rw [HT.out]
    go_wp2_with fail
    go_ret2
    exact ShPost.fail HE.out (h1.trans (h2.mono h1.size))

theorem Od.join_right {s t : List Int} {side : Int} (h : (Od.join s t side).2 = 0) : Sh.right (Od.join s t side).1 = true := by
  unfold Od.join at h ⊢
  split at h
  · rename_i h1
    rw [if_pos h1]
    split at h
    · rename_i h2
      rw [if_pos h2]
      split at h
      · rename_i h3
        rw [if_pos h3]
        simp at h3
        exact h3.2
      · simp at h
    · simp at h
  · simp at h
theorem Od.join_err {s t : List Int} {side : Int} (h : (Od.join s t side).2 ≠ 0) : (Od.join s t side).1 = [] := by
  unfold Od.join at h ⊢
  split
  · split
    · split
      · rename_i h1 h2 h3; simp [h1, h2, h3] at h
      · rfl
    · rfl
  · rfl
set_option maxHeartbeats 4000000 in
theorem op_joined (A : Option Addr) (c : Nat) (side : Int) (ss : List (List Int)) (w : World) (h0 : 0 < ss.length) (hc : ss.length ≤ c) (hm : c ≤ 9223372036854775807) (hI : Shps w A ss) (hz : ∀ s ∈ ss, s.length ≤ 17592186043904) :
    Calls Try.prog 87 #[.int .i64 side, .slice A ss.length c] w (ShPost (Od.joined side ss) w) := by
  obtain ⟨b, off, _, _, rfl, hb, -⟩ := hI 0 h0
  have e0 : (0 : Int) < ss.length := by omega
  have e1 : (1 : Int) ≤ ss.length := by omega
  have z0 := hz _ (List.getElem_mem h0)
  obtain ⟨S0, c0, y0, hI0, hc0, hm0⟩ := hI.cell_at h0
  rw [Nat.add_zero] at y0
  have HI := Lib.hid hI
  have Hz := Lib.hid hz
  have HI0 := Lib.hid hI0
  clear hI hz hI0
  have bad : ss.length = 1 → ¬ (0 ≤ side ∧ side < ss[0].length) → Od.joined side ss = ([], 11) := fun h1 h2 => by
    unfold Od.joined
    rw [if_pos ⟨h1, by rw [gets_at h0]; simp [Od.inR]; omega⟩]
  have good : (ss.length = 1 → 0 ≤ side ∧ side < ss[0].length) → Od.joined side ss = Od.joinAll side ss[0] (ss.drop 1) := fun h => by
    unfold Od.joined
    rw [if_neg, gets_at h0]
    rw [gets_at h0]
    rintro ⟨h1, h2⟩
    simp [Od.inR] at h2
    have := h h1
    omega
  by_cases c1 : ss.length = 1
  · have d1 : ((ss.length : Int) == 1) = true := by simp; omega
    have l0 : ss.length - 1 = 0 := by omega
    have bad := bad c1
    by_cases s1 : side < 0
    · have HE := Lib.hid (bad (by omega))
      clear bad good c1
      go_enter Try.func87, Try.ntmps87
      go_wp2_with fail
      go_ret2
      exact ShPost.fail HE.out (Below.refl _ _)
    · by_cases s2 : (ss[0].length : Int) ≤ side
      · have HE := Lib.hid (bad (by omega))
        clear bad good c1
        go_enter Try.func87, Try.ntmps87
        go_wp2_with fail
        go_ret2
        exact ShPost.fail HE.out (Below.refl _ _)
      · have HE := Lib.hid (show Od.joined side ss = (ss[0], 0) by rw [good (by omega), List.drop_eq_nil_of_le (by omega)]; rfl)
        clear bad good c1
        by_cases hc1 : c = 1
        · subst hc1
          go_enter Try.func87, Try.ntmps87
          go_wp2_with fail
          refine (shape_copy S0 c0 ss[0] _ z0 HI0.out).mono ?_
          rintro e w1 ⟨g, rfl, hg, hB, h1⟩
          have HB := Lib.hid hB
          clear hB y0
          go_wp2_with fail
          go_loopw [6, 33] (fun v i wr => v = .slice (some ⟨g, 0, none⟩) ss[0].length ss[0].length ∧ wr = w1 ∧ i = .int .i64 0) (fun _ _ _ => 0)
          case atStart => exact ⟨rfl, rfl, rfl⟩
          case round =>
            obtain ⟨rfl, rfl, rfl⟩ := hrel
            go_wp2_with fail
            go_ret2
            exact ShPost.fresh HE.out rfl hg HB.out (Nat.le_refl _) (by omega) h1
        · go_enter Try.func87, Try.ntmps87
          go_wp2_with fail
          refine (shape_copy S0 c0 ss[0] _ z0 HI0.out).mono ?_
          rintro e w1 ⟨g, rfl, hg, hB, h1⟩
          have HB := Lib.hid hB
          clear hB y0
          go_wp2_with fail
          go_loopw [6, 33] (fun v i wr => v = .slice (some ⟨g, 0, none⟩) ss[0].length ss[0].length ∧ wr = w1 ∧ i = .int .i64 0) (fun _ _ _ => 0)
          case atStart => exact ⟨rfl, rfl, rfl⟩
          case round =>
            obtain ⟨rfl, rfl, rfl⟩ := hrel
            go_wp2_with fail
            go_ret2
            exact ShPost.fresh HE.out rfl hg HB.out (Nat.le_refl _) (by omega) h1
  · have d1 : ((ss.length : Int) == 1) = false := by simp; omega
    have hc1 : ¬ c = 1 := by omega
    have HG := Lib.hid (good (by omega))
    clear bad good c1
    go_enter Try.func87, Try.ntmps87
    go_wp2_with fail
    refine (shape_copy S0 c0 ss[0] _ z0 HI0.out).mono ?_
    rintro e w1 ⟨g, rfl, hg, hB, h1⟩
    have HB := Lib.hid (show Blk w1 g 3 (ss[0].map (Value.int .i64)).toArray from hB)
    clear hB y0
    go_wp2_with fail
    go_loopw [6, 33] (fun v i wr => ∃ (k : Nat) (cur : List Int) (S : Option Addr) (d : Nat), k ≤ ss.length - 1 ∧ i = .int .i64 k ∧ v = .slice S cur.length d ∧ Ints .i64 wr S cur ∧ cur.length ≤ d ∧ d ≤ 9223372036854775807 ∧ cur.length ≤ 17592186043904 ∧ (∀ a, S = some a → w.heap.size ≤ a.block) ∧ Below w.heap.size w wr ∧ Od.joined side ss = Od.joinAll side cur (ss.drop (k + 1))) (fun _ i _ => ss.length - (intOf i).toNat)
    case atStart => exact ⟨0, ss[0], _, _, Nat.zero_le _, rfl, rfl, Ints.of_row fun j hj => by rw [HB.out.cell]; simp [hj], Nat.le_refl _, by omega, by omega, (fun a h => by injection h with h; subst h; exact hg), h1, HG.out⟩
    case round =>
      obtain ⟨k, cur, S, d, hk, rfl, rfl, hcur, q1, q2, q3, hfr, hbw, hgo⟩ := hrel
      have Hcur := Lib.hid hcur
      have Hgo := Lib.hid hgo
      have Hfr := Lib.hid hfr
      clear hcur hgo hfr
      clear HB
      by_cases hlt : k < ss.length - 1
      · have p1 : k + 1 < ss.length := by omega
        have k1 : (k : Int) < ((ss.length - 1 : Nat) : Int) := by omega
        obtain ⟨S1, c1, y1, hI1, hc1, hm1⟩ := (HI.out.below hbw (Nat.le_refl _)).cell_at p1
        rw [show off + (k + 1) = off + 1 + k by omega] at y1
        have z1 := Hz.out _ (List.getElem_mem p1)
        have hj := shape_join S S1 d c1 cur ss[k + 1] side wr q3 z1 Hcur.out hI1
        have hgo2 : Od.joinAll side cur (ss.drop (k + 1)) = if (Od.join cur ss[k + 1] side).2 = 0 then Od.joinAll side (Od.join cur ss[k + 1] side).1 (ss.drop (k + 1 + 1)) else ([], (Od.join cur ss[k + 1] side).2) := by
          rw [List.drop_eq_getElem_cons p1, Od.joinAll]
        have hright := fun h : (Od.join cur ss[k + 1] side).2 = 0 => Sh.right_mul (Od.join_right (s := cur) (t := ss[k + 1]) (side := side) h)
        have herr := fun h : (Od.join cur ss[k + 1] side).2 ≠ 0 => Od.join_err (s := cur) (t := ss[k + 1]) (side := side) h
        generalize Od.join cur ss[k + 1] side = r at *
        have Hj := Lib.hid hj
        have Hgo2 := Lib.hid hgo2
        have HI1 := Lib.hid hI1
        have Hright := Lib.hid hright
        have Herr := Lib.hid herr
        clear hj hgo2 hI1 hright herr
        go_wp2_with fail
        refine (Hj.out).mono ?_
        rintro e w2 ⟨S2, d2, rfl, hI2, l1, l2, hf2, hb2⟩
        have hbw2 := hbw.trans (hb2.mono hbw.size)
        have HI2 := Lib.hid hI2
        have Hf2 := Lib.hid hf2
        clear hI2 hf2
        by_cases hr : r.2 = 0
        · have d3 : (r.2 != 0) = false := by simp [hr]
          have HR := Lib.hid hr
          clear hr
          go_wp2_with fail
          go_roundw
          case rel => exact ⟨k + 1, r.1, S2, d2, by omega, by go_num, rfl, HI2.out, l1, l2, by have := (Hright.out HR.out).2.1; omega, (fun a h => Nat.le_trans hbw.size (Hf2.out a h)), hbw2, by rw [Hgo.out, Hgo2.out, if_pos HR.out]⟩
          case measure => simp [intOf]; omega
        · have d3 : (r.2 != 0) = true := by simp [hr]
          have HE := Lib.hid (show Od.joined side ss = ([], r.2) by rw [Hgo.out, Hgo2.out, if_neg hr])
          clear hr
          go_wp2_with fail
          go_ret2
          exact ShPost.fail HE.out hbw2
      · obtain rfl : k = ss.length - 1 := by omega
        have k1 : ¬ (((ss.length - 1 : Nat) : Int) < ((ss.length - 1 : Nat) : Int)) := by omega
        have HE := Lib.hid (show Od.joined side ss = (cur, 0) by rw [Hgo.out, List.drop_eq_nil_of_le (by omega)]; rfl)
        go_wp2_with fail
        go_ret2
        exact ShPost.mk' HE.out rfl Hcur.out q1 q2 Hfr.out hbw
end Go.Proofs.Ytjkhpbngpceenaa
