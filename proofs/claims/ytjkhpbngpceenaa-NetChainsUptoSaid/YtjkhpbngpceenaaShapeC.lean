/- Layer 3 (shape): parts and joins; layer 8: the answer's shape: contracts. -/
import Derived.Test.YtjkhpbngpceenaaShapeB
namespace Go.Proofs.Ytjkhpbngpceenaa
open Go.RowKit

theorem getD_at {l : List Int} {k : Nat} (h : k < l.length) : l.getD k 0 = l[k] := by rw [List.getD_eq_getElem?_getD, List.getElem?_eq_getElem h]; rfl
theorem Ints.cell_at {w : World} {k : IntKind} {b off j : Nat} {zs : List Int} (h : Ints k w (some ⟨b, off, none⟩) zs) (hj : j < zs.length) : w.cell? ⟨b, off + j, none⟩ = some (.int k zs[j]) := by
  obtain ⟨b1, o1, e, _, hc⟩ := h j hj
  injection e with e
  injection e with e1 e2
  subst e1 e2
  rw [getD_at hj] at hc
  exact hc
set_option maxHeartbeats 2000000 in
theorem shape_cut (A : Option Addr) (c : Nat) (zs : List Int) (side frm to : Int) (w : World) (hl : zs.length ≤ 17592186043904) (hI : Ints .i64 w A zs) :
    Calls Try.prog 88 #[.slice A zs.length c, .int .i64 side, .int .i64 frm, .int .i64 to] w (ShPost (Od.cut zs side frm to) w) := by
  have hcall := shape_right A c zs w (by omega) hI
  cases hr : Sh.right zs
  · have HE := Lib.hid (show Od.cut zs side frm to = ([], 20) by simp [Od.cut, hr])
    rw [hr] at hcall
    have Hr := Lib.hid hr
    have HI := Lib.hid hI
    have Hcall := Lib.hid hcall
    clear hr hI hcall
    go_enter Try.func88, Try.ntmps88
    go_wp2_with fail
    refine (Hcall.out).mono ?_
    rintro e w1 ⟨rfl, h1⟩
    go_wp2_with fail
    go_ret2
    exact ShPost.fail HE.out h1
  · have fail : ¬ (0 ≤ side ∧ side < zs.length ∧ 0 ≤ frm ∧ to ≤ Od.at_ zs side ∧ frm < to) → Od.cut zs side frm to = ([], 11) := fun h => by
      unfold Od.cut
      rw [if_pos hr, if_neg]
      simp [Od.inR]
      omega
    have good : (0 ≤ side ∧ side < zs.length ∧ 0 ≤ frm ∧ to ≤ Od.at_ zs side ∧ frm < to) → Od.cut zs side frm to = (zs.set side.toNat (to - frm), 0) := fun h => by
      unfold Od.cut
      rw [if_pos hr, if_pos]
      simp [Od.inR]
      omega
    obtain ⟨_, a1, a2, a3, -⟩ := Sh.right_mul hr
    rw [hr] at hcall
    have Hr := Lib.hid hr
    have HI := Lib.hid hI
    have Hcall := Lib.hid hcall
    have Ha3 := Lib.hid a3
    clear hr hI hcall a3
    by_cases c1 : side < 0
    · have HE := Lib.hid (fail (by omega))
      clear fail good
      go_enter Try.func88, Try.ntmps88
      go_wp2_with fail
      refine (Hcall.out).mono ?_
      rintro e w1 ⟨rfl, h1⟩
      go_wp2_with fail
      go_ret2
      exact ShPost.fail HE.out h1
    obtain ⟨k, rfl⟩ : ∃ k : Nat, side = k := ⟨side.toNat, by omega⟩
    by_cases c2 : zs.length ≤ k
    · have HE := Lib.hid (fail (by omega))
      clear fail good
      go_enter Try.func88, Try.ntmps88
      go_wp2_with fail
      refine (Hcall.out).mono ?_
      rintro e w1 ⟨rfl, h1⟩
      go_wp2_with fail
      go_ret2
      exact ShPost.fail HE.out h1
    have hk : k < zs.length := by omega
    have hat : Od.at_ zs k = zs[k] := by unfold Od.at_; rw [show ((k : Int)).toNat = k by omega, getD_at hk]
    rw [hat] at fail good
    have hz := Ha3.out _ (List.getElem_mem hk)
    clear hat
    by_cases c3 : frm < 0
    · have HE := Lib.hid (fail (by omega))
      clear fail good
      go_enter Try.func88, Try.ntmps88
      go_wp2_with fail
      refine (Hcall.out).mono ?_
      rintro e w1 ⟨rfl, h1⟩
      go_wp2_with fail
      go_ret2
      exact ShPost.fail HE.out h1
    obtain ⟨b, off, rfl, hb, -⟩ := HI.out k hk
    by_cases c4 : zs[k] < to
    · have HE := Lib.hid (fail (by omega))
      clear fail good
      go_enter Try.func88, Try.ntmps88
      go_wp2_with fail
      refine (Hcall.out).mono ?_
      rintro e w1 ⟨rfl, h1⟩
      obtain ⟨b', off', e, _, hc⟩ := HI.out.below h1 (Nat.le_refl _) k hk
      injection e with e; injection e with e1 e2; subst e1 e2
      rw [getD_at hk] at hc
      go_wp2_with fail
      go_ret2
      exact ShPost.fail HE.out h1
    by_cases c5 : to ≤ frm
    · have HE := Lib.hid (fail (by omega))
      clear fail good
      go_enter Try.func88, Try.ntmps88
      go_wp2_with fail
      refine (Hcall.out).mono ?_
      rintro e w1 ⟨rfl, h1⟩
      obtain ⟨b', off', e, _, hc⟩ := HI.out.below h1 (Nat.le_refl _) k hk
      injection e with e; injection e with e1 e2; subst e1 e2
      rw [getD_at hk] at hc
      go_wp2_with fail
      go_ret2
      exact ShPost.fail HE.out h1
    have HE := Lib.hid (good (by omega))
    clear fail good
    go_enter Try.func88, Try.ntmps88
    go_wp2_with fail
    refine (Hcall.out).mono ?_
    rintro e w1 ⟨rfl, h1⟩
    obtain ⟨b', off', e, _, hc⟩ := HI.out.below h1 (Nat.le_refl _) k hk
    injection e with e; injection e with e1 e2; subst e1 e2
    rw [getD_at hk] at hc
    go_wp2_with fail
    refine (shape_copy _ c zs _ hl (HI.out.below h1 (Nat.le_refl _))).mono ?_
    rintro e w2 ⟨g, rfl, hg, hB, h2⟩
    have hbb := h1.trans (h2.mono h1.size)
    have hB' : Blk w2 g 3 (zs.map (Value.int .i64)).toArray := hB
    have hcg := hB'.cell k
    have hfg := hB'.frozen k
    simp [hk] at hcg
    have HB := Lib.hid hB'
    have hgs := h1.size
    clear hB hB' hc
    go_wp2_with fail
    go_ret2
    refine ShPost.fresh HE.out (by simp) (by omega) HB.out.ints_set (by simp) (by omega) ?_
    exact hbb.setCell (by simp; omega) _

set_option maxHeartbeats 2000000 in
theorem pool_shape (A : Option Addr) (c : Nat) (zs : List Int) (width step : Int) (w : World) (hl : zs.length ≤ 17592186043904) (hI : Ints .i64 w A zs) :
    Calls Try.prog 86 #[.slice A zs.length c, .int .i64 width, .int .i64 step] w (ShPost (Od.pool zs width step) w) := by
  have hcall := shape_right A c zs w (by omega) hI
  cases hr : Sh.right zs
  · have HE := Lib.hid (show Od.pool zs width step = ([], 20) by simp [Od.pool, hr])
    rw [hr] at hcall
    have Hr := Lib.hid hr
    have HI := Lib.hid hI
    have Hcall := Lib.hid hcall
    clear hr hI hcall
    go_enter Try.func86, Try.ntmps86
    go_wp2_with fail
    refine (Hcall.out).mono ?_
    rintro e w1 ⟨rfl, h1⟩
    go_wp2_with fail
    go_ret2
    exact ShPost.fail HE.out h1
  · obtain ⟨_, a1, a2, a3, -⟩ := Sh.right_mul hr
    obtain ⟨k, hk⟩ : ∃ k : Nat, zs.length = k + 1 := ⟨zs.length - 1, by omega⟩
    have hk1 : k < zs.length := by omega
    have hgd : zs.getD (zs.length - 1) 0 = zs[k] := by rw [show zs.length - 1 = k by omega, getD_at hk1]
    have hp : Od.pool zs width step = if (Od.window zs[k] width step).2 = 0 then (zs.set k (Od.window zs[k] width step).1, 0) else ([], 11) := by
      unfold Od.pool
      rw [if_pos hr, hgd, show zs.length - 1 = k by omega]
    rw [hr] at hcall
    obtain ⟨b, off, rfl, hb, -⟩ := hI k hk1
    have e1 : IntKind.i64.wrap ((zs.length : Int) - 1) = k := by have := IntWalk.i64_in ((zs.length : Int) - 1) (by omega); omega
    have Hr := Lib.hid hr
    have HI := Lib.hid hI
    have Hcall := Lib.hid hcall
    have Ha3 := Lib.hid a3
    have Hgd := Lib.hid hgd
    clear hr hI hcall a3 hgd
    clear hk
    by_cases hw : (Od.window zs[k] width step).2 = 0
    · have HE := Lib.hid (show Od.pool zs width step = (zs.set k (Od.window zs[k] width step).1, 0) by rw [hp, if_pos hw])
      have HW := Lib.hid hw
      clear hp hw
      go_enter Try.func86, Try.ntmps86
      go_wp2_with fail
      refine (Hcall.out).mono ?_
      rintro e w1 ⟨rfl, h1⟩
      obtain ⟨b', off', e, _, hc⟩ := HI.out.below h1 (Nat.le_refl _) k hk1
      injection e with e; injection e with e2 e3; subst e2 e3
      rw [getD_at hk1] at hc
      go_wp2_with fail
      refine (shape_window zs[k] width step _).mono ?_
      rintro e w2 ⟨rfl, rfl⟩
      rw [HW.out]
      go_wp2_with fail
      refine (shape_copy _ c zs _ hl (HI.out.below h1 (Nat.le_refl _))).mono ?_
      rintro e w2 ⟨g, rfl, hg, hB, h2⟩
      have hbb := h1.trans (h2.mono h1.size)
      have hB' : Blk w2 g 3 (zs.map (Value.int .i64)).toArray := hB
      have hcg := hB'.cell k
      have hfg := hB'.frozen k
      simp [hk1] at hcg
      have HB := Lib.hid hB'
      have hgs := h1.size
      clear hB hB' hc
      go_wp2_with fail
      go_ret2
      refine ShPost.fresh HE.out (by simp) (by omega) HB.out.ints_set (by simp) (by omega) ?_
      exact hbb.setCell (by simp; omega) _
    · have HE := Lib.hid (show Od.pool zs width step = ([], 11) by rw [hp, if_neg hw])
      have HW := Lib.hid (Od.window_err hw)
      clear hp hw
      go_enter Try.func86, Try.ntmps86
      go_wp2_with fail
      refine (Hcall.out).mono ?_
      rintro e w1 ⟨rfl, h1⟩
      obtain ⟨b', off', e, _, hc⟩ := HI.out.below h1 (Nat.le_refl _) k hk1
      injection e with e; injection e with e2 e3; subst e2 e3
      rw [getD_at hk1] at hc
      go_wp2_with fail
      refine (shape_window zs[k] width step _).mono ?_
      rintro e w2 ⟨rfl, rfl⟩
      rw [HW.out]
      go_wp2_with fail
      go_ret2
      exact ShPost.fail HE.out h1
end Go.Proofs.Ytjkhpbngpceenaa
