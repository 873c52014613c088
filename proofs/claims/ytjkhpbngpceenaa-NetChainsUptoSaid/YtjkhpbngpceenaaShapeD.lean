/- Layer 3 (shape): joins: contract. -/
import Derived.Test.YtjkhpbngpceenaaShapeC
namespace Go.Proofs.Ytjkhpbngpceenaa
open Go.RowKit

namespace Od
/-- The shape behind the first k sides. -/
def jMid (s t : List Int) (side : Nat) (k : Nat) : List Int := if side < k then joinL s t side else s
theorem jMid_len (s t : List Int) (side k : Nat) : (jMid s t side k).length = s.length := by unfold jMid joinL; split <;> simp
theorem join_bad {s t : List Int} {side : Int} {k : Nat} (h1 : Sh.right s = true) (h2 : Sh.right t = true) (h3 : s.length = t.length) (h4 : 0 ≤ side ∧ side < s.length) (hk : k < s.length) (hk2 : k < t.length) (hs : (k : Int) ≠ side) (hne : s[k] ≠ t[k]) : join s t side = ([], 20) := by
  unfold join
  rw [if_pos (by simp [h1, h2, h3]), if_pos (by simp [inR, h4]), if_neg]
  rw [Bool.and_eq_true, not_and]
  intro h
  exfalso
  unfold joinOk at h
  rw [List.all_eq_true] at h
  have := h k (List.mem_range.2 hk)
  rw [getD_at hk, getD_at hk2] at this
  simp [hs, hne] at this
theorem joinOk_of {s t : List Int} {side : Nat} (h : ∀ j (h1 : j < s.length) (h2 : j < t.length), j ≠ side → s[j] = t[j]) (hl : s.length = t.length) : joinOk s t side = true := by
  unfold joinOk
  rw [List.all_eq_true]
  intro j hj
  have hj := List.mem_range.1 hj
  by_cases e : j = side
  · simp [e]
  · rw [getD_at hj, getD_at (by omega : j < t.length)]
    simp [h j hj (by omega) e]
end Od
set_option maxHeartbeats 4000000 in
theorem shape_join (A B : Option Addr) (c d : Nat) (s t : List Int) (side : Int) (w : World) (hl : s.length ≤ 17592186043904) (hl' : t.length ≤ 17592186043904) (hI : Ints .i64 w A s) (hJ : Ints .i64 w B t) :
    Calls Try.prog 99 #[.slice A s.length c, .slice B t.length d, .int .i64 side] w (ShPost (Od.join s t side) w) := by
  have hcall := shape_right A c s w (by omega) hI
  have hcall2 := fun w1 (h1 : Below w.heap.size w w1) => shape_right B d t w1 (by omega) (hJ.below h1 (Nat.le_refl _))
  cases hr : Sh.right s
  · have HE := Lib.hid (show Od.join s t side = ([], 20) by simp [Od.join, hr])
    rw [hr] at hcall
    have Hr := Lib.hid hr
    have HI := Lib.hid hI
    have HJ := Lib.hid hJ
    have Hcall := Lib.hid hcall
    have Hcall2 := Lib.hid hcall2
    clear hr hI hJ hcall hcall2
    go_enter Try.func99, Try.ntmps99
    go_wp2_with fail
    refine (Hcall.out).mono ?_
    rintro e w1 ⟨rfl, h1⟩
    go_wp2_with fail
    go_ret2
    exact ShPost.fail HE.out h1
  rw [hr] at hcall
  cases hq : Sh.right t
  · have HE := Lib.hid (show Od.join s t side = ([], 20) by simp [Od.join, hq])
    rw [hq] at hcall2
    have Hr := Lib.hid hr
    have Hq := Lib.hid hq
    have HI := Lib.hid hI
    have HJ := Lib.hid hJ
    have Hcall := Lib.hid hcall
    have Hcall2 := Lib.hid hcall2
    clear hr hq hI hJ hcall hcall2
    go_enter Try.func99, Try.ntmps99
    go_wp2_with fail
    refine (Hcall.out).mono ?_
    rintro e w1 ⟨rfl, h1⟩
    go_wp2_with fail
    refine (Hcall2.out _ h1).mono ?_
    rintro e w2 ⟨rfl, h2⟩
    go_wp2_with fail
    go_ret2
    exact ShPost.fail HE.out (h1.trans (h2.mono h1.size))
  rw [hq] at hcall2
  obtain ⟨_, a1, a2, a3, -⟩ := Sh.right_mul hr
  obtain ⟨_, b1, b2, b3, -⟩ := Sh.right_mul hq
  by_cases hlen : s.length = t.length
  case neg =>
    have HE := Lib.hid (show Od.join s t side = ([], 20) by simp [Od.join, hlen])
    have hn : ((s.length : Int) != t.length) = true := by simp; omega
    have Hr := Lib.hid hr
    have Hq := Lib.hid hq
    have HI := Lib.hid hI
    have HJ := Lib.hid hJ
    have Hcall := Lib.hid hcall
    have Hcall2 := Lib.hid hcall2
    have Ha3 := Lib.hid a3
    have Hb3 := Lib.hid b3
    clear hr hq hI hJ hcall hcall2 a3 b3
    clear hlen
    go_enter Try.func99, Try.ntmps99
    go_wp2_with fail
    refine (Hcall.out).mono ?_
    rintro e w1 ⟨rfl, h1⟩
    go_wp2_with fail
    refine (Hcall2.out _ h1).mono ?_
    rintro e w2 ⟨rfl, h2⟩
    go_wp2_with fail
    go_ret2
    exact ShPost.fail HE.out (h1.trans (h2.mono h1.size))
  have hn : ((s.length : Int) != t.length) = false := by simp [hlen]
  by_cases c1 : side < 0
  · have HE := Lib.hid (show Od.join s t side = ([], 11) by unfold Od.join; rw [if_pos (by simp [hr, hq, hlen]), if_neg]; simp [Od.inR]; omega)
    have Hr := Lib.hid hr
    have Hq := Lib.hid hq
    have HI := Lib.hid hI
    have HJ := Lib.hid hJ
    have Hcall := Lib.hid hcall
    have Hcall2 := Lib.hid hcall2
    have Ha3 := Lib.hid a3
    have Hb3 := Lib.hid b3
    have Hlen := Lib.hid hlen
    clear hr hq hI hJ hcall hcall2 a3 b3 hlen
    go_enter Try.func99, Try.ntmps99
    go_wp2_with fail
    refine (Hcall.out).mono ?_
    rintro e w1 ⟨rfl, h1⟩
    go_wp2_with fail
    refine (Hcall2.out _ h1).mono ?_
    rintro e w2 ⟨rfl, h2⟩
    go_wp2_with fail
    go_ret2
    exact ShPost.fail HE.out (h1.trans (h2.mono h1.size))
  obtain ⟨sd, rfl⟩ : ∃ k : Nat, side = k := ⟨side.toNat, by omega⟩
  by_cases c2 : s.length ≤ sd
  · have HE := Lib.hid (show Od.join s t sd = ([], 11) by unfold Od.join; rw [if_pos (by simp [hr, hq, hlen]), if_neg]; simp [Od.inR]; omega)
    have Hr := Lib.hid hr
    have Hq := Lib.hid hq
    have HI := Lib.hid hI
    have HJ := Lib.hid hJ
    have Hcall := Lib.hid hcall
    have Hcall2 := Lib.hid hcall2
    have Ha3 := Lib.hid a3
    have Hb3 := Lib.hid b3
    have Hlen := Lib.hid hlen
    clear hr hq hI hJ hcall hcall2 a3 b3 hlen
    go_enter Try.func99, Try.ntmps99
    go_wp2_with fail
    refine (Hcall.out).mono ?_
    rintro e w1 ⟨rfl, h1⟩
    go_wp2_with fail
    refine (Hcall2.out _ h1).mono ?_
    rintro e w2 ⟨rfl, h2⟩
    go_wp2_with fail
    go_ret2
    exact ShPost.fail HE.out (h1.trans (h2.mono h1.size))
  have hbad := fun (k : Nat) (hk : k < s.length) (hk2 : k < t.length) (hs : (k : Int) ≠ sd) (hne : s[k] ≠ t[k]) => Od.join_bad hr hq hlen (by omega) hk hk2 hs hne
  have hgood : Od.joinOk s t sd = true → Od.join s t sd = if Sh.right (Od.joinL s t sd) = true then (Od.joinL s t sd, 0) else ([], 20) := fun h => by
    unfold Od.join
    rw [if_pos (by simp [hr, hq, hlen]), if_pos (by simp [Od.inR]; omega), h, Bool.true_and]
  have hLen := Lib.hid hlen
  have Hr := Lib.hid hr
  have Hq := Lib.hid hq
  have HI := Lib.hid hI
  have HJ := Lib.hid hJ
  have Hcall := Lib.hid hcall
  have Hcall2 := Lib.hid hcall2
  have Ha3 := Lib.hid a3
  have Hb3 := Lib.hid b3
  have Hbad := Lib.hid hbad
  have Hgood := Lib.hid hgood
  clear hr hq hI hJ hcall hcall2 a3 b3 hbad hgood
  clear hlen
  go_enter Try.func99, Try.ntmps99
  go_wp2_with fail
  refine (Hcall.out).mono ?_
  rintro e w1 ⟨rfl, h1⟩
  go_wp2_with fail
  refine (Hcall2.out _ h1).mono ?_
  rintro e w2 ⟨rfl, h2⟩
  have hb2 := h1.trans (h2.mono h1.size)
  go_wp2_with fail
  refine (shape_copy _ c s _ hl (HI.out.below hb2 (Nat.le_refl _))).mono ?_
  rintro e w3 ⟨g, rfl, hg, hB, h3⟩
  have hb3 := hb2.trans (h3.mono hb2.size)
  have hgw : w.heap.size ≤ g := Nat.le_trans hb2.size hg
  have HB := Lib.hid hB
  clear hB h1 h2 h3 hg
  go_wp2_with fail
  go_loopw [37] (fun i wr => ∃ k : Nat, k ≤ s.length ∧ i = .int .i64 k ∧ Blk wr g 3 ((Od.jMid s t sd k).map (Value.int .i64)).toArray ∧ Below w.heap.size w wr ∧ ∀ j (h1 : j < s.length) (h2 : j < t.length), j < k → j ≠ sd → s[j] = t[j]) (fun i _ => s.length - (intOf i).toNat)
  case atStart => exact ⟨0, Nat.zero_le _, rfl, by rw [show Od.jMid s t sd 0 = s by simp [Od.jMid]]; exact HB.out, hb3, fun j _ _ h => by omega⟩
  case round =>
    obtain ⟨k, hk, rfl, hblk, hbw, hall⟩ := hrel
    have HA := Lib.hid hall
    clear hall HB hb3 hb2
    by_cases hlt : k < s.length
    · have hlt' : k < t.length := by have := hLen.out; omega
      obtain ⟨b, off, rfl, hbl, hc⟩ := HI.out.below hbw (Nat.le_refl _) k hlt
      obtain ⟨b', off', rfl, hbl', hc'⟩ := HJ.out.below hbw (Nat.le_refl _) k hlt'
      rw [getD_at hlt] at hc
      rw [getD_at hlt'] at hc'
      have hx := Ha3.out _ (List.getElem_mem hlt)
      have hy := Hb3.out _ (List.getElem_mem hlt')
      have k0 : (0 : Int) ≤ k := by omega
      have k1 : (k : Int) < s.length := by omega
      have k2 : (k : Int) < t.length := by omega
      by_cases hs : k = sd
      · subst hs
        have hm : Od.jMid s t k k = s := by simp [Od.jMid]
        rw [hm] at hblk
        have hcg := hblk.cell k
        have hfg := hblk.frozen k
        simp [hlt] at hcg
        have hm2 : Od.jMid s t k (k + 1) = s.set k (s[k] + t[k]) := by
          simp [Od.jMid, Od.joinL, Od.at_, hlt, hlt']
        have HM := Lib.hid hm2
        have HB := Lib.hid hblk
        have hwr : IntKind.i64.wrap (s[k] + t[k]) = s[k] + t[k] := IntWalk.i64_in _ (by omega)
        clear hblk hm hm2
        go_wp2_with fail
        go_region_with (fail)
        all_goals
          go_wp2_with fail
          go_roundw
          case rel => exact ⟨k + 1, by omega, by go_num, by rw [HM.out]; exact HB.out.ints_set, (hbw.setCell (by simpa using hgw) _).drew, fun j h1 h2 h3 h4 => HA.out j h1 h2 (by omega) h4⟩
          case measure => simp [intOf]; omega
      · have hne : ((k : Int) == (sd : Int)) = false := by simp; omega
        by_cases hxy : s[k] = t[k]
        · have hb : (s[k] != t[k]) = false := by simp [hxy]
          have HX := Lib.hid hxy
          have HM := Lib.hid (show Od.jMid s t sd (k + 1) = Od.jMid s t sd k by unfold Od.jMid; simp only [show (sd < k + 1) = (sd < k) by simp; omega])
          have HB := Lib.hid hblk
          clear hxy hblk
          go_wp2_with fail
          go_quiet (fail)
          go_wp2_with fail
          go_roundw
          case rel => exact ⟨k + 1, by omega, by go_num, by rw [HM.out]; exact HB.out, Bdrawn hbw _, fun j h1 h2 h3 h4 => by
            by_cases e : j = k
            · subst e; exact HX.out
            · exact HA.out j h1 h2 (by omega) h4⟩
          case measure => simp [intOf]; omega
        · have hb : (s[k] != t[k]) = true := by simp [hxy]
          have HE := Lib.hid (Hbad.out k hlt hlt' (by omega) hxy)
          clear hxy hblk
          go_wp2_with fail
          go_quiet (fail)
          go_wp2_with fail
          go_ret2
          exact ShPost.fail HE.out (Bdrawn hbw _)
    · obtain rfl : k = s.length := by omega
      have hj : Od.joinOk s t sd = true := Od.joinOk_of (fun j h1 h2 h3 => HA.out j h1 h2 h1 h3) hLen.out
      have hm : Od.jMid s t sd s.length = Od.joinL s t sd := by unfold Od.jMid; rw [if_pos (by omega)]
      have hlj : (Od.joinL s t sd).length = s.length := by simp [Od.joinL]
      rw [hm] at hblk
      have hI2 : Ints .i64 wr (some ⟨g, 0, none⟩) (Od.joinL s t sd) := Ints.of_row fun j hj => by rw [hblk.cell]; simp [hj]
      have hcall3 := shape_right (some ⟨g, 0, none⟩) s.length (Od.joinL s t sd) wr (by omega) hI2
      rw [hlj] at hcall3
      have hg2 := Hgood.out hj
      cases h5 : Sh.right (Od.joinL s t sd)
      · have HE := Lib.hid (show Od.join s t sd = ([], 20) by rw [hg2, if_neg (by simp [h5])])
        rw [h5] at hcall3
        have Hcall3 := Lib.hid hcall3
        have HI2 := Lib.hid hI2
        have Hblk := Lib.hid hblk
        have Hlj := Lib.hid hlj
        have Hm := Lib.hid hm
        have Hg2 := Lib.hid hg2
        have Hj := Lib.hid hj
        have H5 := Lib.hid h5
        clear hcall3 hI2 hblk hlj hm hg2 hj h5
        go_wp2_with fail
        refine (Hcall3.out).mono ?_
        rintro e w4 ⟨rfl, h4⟩
        go_wp2_with fail
        go_ret2
        exact ShPost.fail HE.out (hbw.trans (h4.mono hbw.size))
      · have HE := Lib.hid (show Od.join s t sd = (Od.joinL s t sd, 0) by rw [hg2, if_pos h5])
        rw [h5] at hcall3
        have Hcall3 := Lib.hid hcall3
        have HI2 := Lib.hid hI2
        have Hblk := Lib.hid hblk
        have Hlj := Lib.hid hlj
        have Hm := Lib.hid hm
        have Hg2 := Lib.hid hg2
        have Hj := Lib.hid hj
        have H5 := Lib.hid h5
        clear hcall3 hI2 hblk hlj hm hg2 hj h5
        go_wp2_with fail
        refine (Hcall3.out).mono ?_
        rintro e w4 ⟨rfl, h4⟩
        go_wp2_with fail
        go_ret2
        exact ShPost.fresh HE.out Hlj.out.symm hgw (Hblk.out.below h4 Hblk.out.lt) (by rw [Hlj.out]; exact Nat.le_refl _) (by omega) (hbw.trans (h4.mono hbw.size))
end Go.Proofs.Ytjkhpbngpceenaa
