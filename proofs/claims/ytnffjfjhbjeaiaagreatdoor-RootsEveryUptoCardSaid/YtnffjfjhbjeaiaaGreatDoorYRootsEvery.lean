/- The statement Rows.RootsEveryUptoCardSaid is proved: for every input the law 'athanorlaw21.RootsEvery' returns true, and each argument reads afterwards as it read before. Conditions: those of the row, no others. -/
import Derived.Below
import Derived.ChangeOld
import Derived.Deep.DeepCutAuto
import Derived.Deep.DeepHandedRow
import Derived.JoinedCond
import Derived.LaidMore
import Derived.Lib.LaidTab
import Derived.OpenShut
import Derived.ProofKit
import Derived.SevenTiedAt
import Derived.ShutString
import Derived.Stop.Joined
import Derived.WalkKit
import Derived.Test.YtnffjfjhbjeaiaaGreatDoorCards
import Derived.Test.YtnffjfjhbjeaiaaGreatDoorRows
import Derived.Test.YtnffjfjhbjeaiaaGreatDoorTie
import Derived.Test.YtnffjfjhbjeaiaaGreatDoorZ13
set_option linter.unusedVariables false
/- Layer 21's statement RootsEvery: the walk. -/
namespace Go.Proofs.YtnffjfjhbjeaiaaGreatDoor
open Go.RowKit
theorem every_sq {n : NetD} (hch : Nt.check n = 0) (h12 : n.nodes.length ≤ 12) : everyE n (Safe.isqrt n.nodes.length) = 0 := by
  have h0 : 0 < n.nodes.length := by
    have := Nt.loss_mem (Nt.check_ok hch).2.2.2.2.2.2.1
    omega
  obtain ⟨h1, h2, -⟩ := Safe.isqrt_spec (n := (n.nodes.length : Int)) (by omega)
  have h3 : Safe.isqrt n.nodes.length ≤ 512 := by
    rcases Int.lt_or_le 512 (Safe.isqrt n.nodes.length) with h3 | h3
    · have := Int.mul_le_mul (Int.le_of_lt h3) (Int.le_of_lt h3) (by omega) (by omega)
      omega
    · exact h3
  unfold everyE
  rw [if_neg (by simp [hch]), if_pos ⟨h1, h3⟩]
theorem everyL_len {n : NetD} (h12 : n.nodes.length ≤ 12) (step : Int) : (everyL n step).length ≤ 12 := by
  unfold everyL
  split
  · rename_i h
    rw [Rt.every_len, Rt.order_len h.1]
    exact Nat.le_trans (Nat.div_le_self _ _) h12
  · simp
set_option maxHeartbeats 32000000 in
set_option maxRecDepth 100000 in
theorem walkRootsEvery (w : World) (A N : Option Addr) (c d : Nat) (n : NetD) (la : n.inn.length ≤ c) (lb : c ≤ 9223372036854775807) (lc : n.nodes.length ≤ d) (ld : d ≤ 9223372036854775807) (hR : NetR w A N n) (hf : n.fits)
    (step : Int) (hstw : (Lit.int .i64 step).wf = true) :
    Calls Tryz.prog 5 #[.agg #[.slice A n.inn.length c, .slice N n.nodes.length d], .int .i64 step] w fun e w' => e = .returned (.bool true) ∧ Below w.heap.size w w' := by
  have hst := wf_bd hstw
  have hok := hf.ok
  have hk := Blk.new w 26 #[.slice A n.inn.length c, .slice N n.nodes.length d]
  have hl0 : Later w (w.alloc (.cells #[.slice A n.inn.length c, .slice N n.nodes.length d] 26)) := (Later.refl w).alloc _
  clear hstw
  have Hok := Lib.hid hok
  have HR := Lib.hid hR
  have Hk := Lib.hid hk
  have Hl0 := Lib.hid hl0
  have Hf := Lib.hid hf
  clear hok hR hk hl0 hf
  go_enter Tryz.func5, Tryz.ntmps5
  go_wp2_with fail
  generalize w.alloc (.cells #[.slice A n.inn.length c, .slice N n.nodes.length d] 26) = w1 at *
  refine (small_21 A N none c d 0 0 n w1 Hok.out (HR.out.below Hl0.out (Nat.le_refl _)) (by omega)).mono ?_
  rintro e w2 ⟨b, rfl, hsm, hb2⟩
  have hl2 := Hl0.out.call hb2
  have hk2 := (show Later w1 w2 from hb2).blk Hk.out
  clear hb2 Hk Hl0
  have aw : ∀ W, Later w W → Calls Tryz.prog 7 #[] W fun e w' => e = .returned (.bool true) ∧ Later w w' := fun W h => (awake21 W).mono fun e w' hq => ⟨hq.1, h.call hq.2⟩
  cases b
  · have Hk2 := Lib.hid hk2
    have Hl2 := Lib.hid hl2
    have Haw := Lib.hid aw
    clear hk2 hl2 aw
    clear hsm
    go_wp2_with fail
    refine (Haw.out _ Hl2.out).mono ?_
    rintro e w3 ⟨rfl, hb3⟩
    go_wp2_with fail
    go_ret
    exact ⟨rfl, hb3⟩
  obtain ⟨h12, -⟩ := hsm rfl
  clear hsm
  have hsq : 0 ≤ Safe.isqrt n.nodes.length ∧ Safe.isqrt n.nodes.length ≤ 100 := by
    rcases Nat.eq_zero_or_pos n.nodes.length with h0 | h0
    · rw [h0, Safe.isqrt_nonpos (by simp)]; omega
    · obtain ⟨h1, h2, -⟩ := Safe.isqrt_spec (n := (n.nodes.length : Int)) (by omega)
      refine ⟨by omega, ?_⟩
      rcases Int.lt_or_le 100 (Safe.isqrt n.nodes.length) with h3 | h3
      · have := Int.mul_le_mul (Int.le_of_lt h3) (Int.le_of_lt h3) (by omega) (by omega)
        omega
      · exact h3
  have x0 := hk2.cell 0
  have x1 := hk2.cell 1
  simp at x0 x1
  have HEs := Lib.hid (fun (W : World) (h : Later w W) => roots_every A N c d n step W Hok.out (HR.out.below h (Nat.le_refl _)) lc h12 hst)
  have HEq := Lib.hid (fun (W : World) (h : Later w W) => roots_every A N c d n (Safe.isqrt n.nodes.length) W Hok.out (HR.out.below h (Nat.le_refl _)) lc h12 (by omega))
  have HRo := Lib.hid (fun (W : World) (h : Later w W) => roots_root A N c d n W Hok.out (HR.out.below h (Nat.le_refl _)) lc h12)
  have HSq := Lib.hid (fun (W : World) => safe_isqrt (n.nodes.length : Int) W (by omega) (by omega))
  have Hqe := Lib.hid (fun h => every_sq (n := n) h h12)
  have hll := everyL_len h12 step
  have hlq := everyL_len h12 (Safe.isqrt n.nodes.length)
  have HE1 := Lib.hid (show everyE n step = if Nt.check n ≠ 0 then Nt.check n else if 1 ≤ step ∧ step ≤ 512 then 0 else 11 from rfl)
  have HE2 := Lib.hid (show everyE n (Safe.isqrt n.nodes.length) = if Nt.check n ≠ 0 then Nt.check n else if 1 ≤ Safe.isqrt n.nodes.length ∧ Safe.isqrt n.nodes.length ≤ 512 then 0 else 11 from rfl)
  have HL1 := Lib.hid (show everyL n step = if Nt.check n = 0 ∧ 1 ≤ step ∧ step ≤ 512 then Rt.every (Nt.sorted n.nodes) step.toNat else [] from rfl)
  have HL2 := Lib.hid (show everyL n (Safe.isqrt n.nodes.length) = if Nt.check n = 0 ∧ 1 ≤ Safe.isqrt n.nodes.length ∧ Safe.isqrt n.nodes.length ≤ 512 then Rt.every (Nt.sorted n.nodes) (Safe.isqrt n.nodes.length).toNat else [] from rfl)
  generalize Safe.isqrt n.nodes.length = sq at *
  generalize everyE n step = e1 at *
  generalize everyE n sq = e2 at *
  generalize everyL n step = l1 at *
  generalize everyL n sq = l2 at *
  clear hsq
  have Hk2 := Lib.hid hk2
  have Hl2 := Lib.hid hl2
  have Haw := Lib.hid aw
  clear hk2 hl2 aw
  go_wp2_with fail
  refine (HEs.out _ Hl2.out).mono ?_
  rintro e w3 ⟨L, Lc, rfl, hL, hl23⟩
  have hk3 := hl23.blk Hk2.out
  have hl3 := Hl2.out.trans hl23
  clear x0 x1
  have x0 := hk3.cell 0
  have x1 := hk3.cell 1
  simp at x0 x1
  have HL := Lib.hid hL
  have Hk3 := Lib.hid hk3
  have Hl3 := Lib.hid hl3
  clear hL hk3 hl3
  clear hl23 Hk2 Hl2
  go_wp2_with fail
  refine (HRo.out _ Hl3.out).mono ?_
  rintro e w4 ⟨R, Rc, rfl, hRr, hl34⟩
  have hk4 := hl34.blk Hk3.out
  have hl4 := Hl3.out.trans hl34
  have hL4 := HL.out.below hl34 (Nat.le_refl _)
  clear x0 x1
  have x0 := hk4.cell 0
  have x1 := hk4.cell 1
  simp at x0 x1
  have HL4 := Lib.hid hL4
  have Hk4 := Lib.hid hk4
  have Hl4 := Lib.hid hl4
  have HRr := Lib.hid hRr
  clear hL4 hk4 hl4 hRr
  clear hl34 Hk3 Hl3 HL
  go_wp2_with fail
  refine (ref_21 A N c d n w4 Hok.out (HR.out.below Hl4.out (Nat.le_refl _))).mono ?_
  rintro e w5 ⟨N1, d1, rfl, hR1, hd1, hd2, hb5⟩
  have hl45 : Later w4 w5 := hb5
  have hk5 := hl45.blk Hk4.out
  have hl5 := Hl4.out.trans hl45
  have hL5 := HL4.out.below hl45 (Nat.le_refl _)
  have hRr5 := HRr.out.below hl45 (Nat.le_refl _)
  have HR1 := Lib.hid hR1
  have Hk5 := Lib.hid hk5
  have Hl5 := Lib.hid hl5
  have HL5 := Lib.hid hL5
  have HRr5 := Lib.hid hRr5
  clear hR1 hk5 hl5 hL5 hRr5
  clear hb5 hl45 HL4 HRr Hk4 Hl4
  go_wp2_with fail
  refine (ref11_check A N1 c d1 n w5 Hok.out HR1.out hd1 la lb).mono ?_
  rintro e w6 ⟨hb6, ⟨hch, gx, rfl, -, -⟩ | ⟨hch, rfl⟩⟩
  rotate_left
  · have hl6 := Hl5.out.call hb6
    have hne : (Nt.check n != 0) = true := by simp [hch]
    have h1 := HE1.out.trans (if_pos hch)
    have h2 := HE2.out.trans (if_pos hch)
    have h3 := HL1.out.trans (if_neg (fun h => hch h.1))
    have h4 := HL2.out.trans (if_neg (fun h => hch h.1))
    subst h1 h2 h3 h4
    have Hl6 := Lib.hid hl6
    clear hl6
    clear hb6 hch HE1 HE2 HL1 HL2 Hqe HL5 HRr5 hll hlq HEs HEq HRo
    generalize Nt.check n = er at *
    go_wp2_with fail
    refine (Haw.out _ Hl6.out).mono ?_
    rintro e wz ⟨rfl, hbz⟩
    go_wp2_with fail
    go_ret
    exact ⟨rfl, hbz⟩
  have hl56 : Later w5 w6 := hb6
  have hk6 := hl56.blk Hk5.out
  have hl6 := Hl5.out.trans hl56
  have hL6 := HL5.out.below hl56 (Nat.le_refl _)
  have hRr6 := HRr5.out.below hl56 (Nat.le_refl _)
  have hqe := Hqe.out hch
  have HE1' := Lib.hid (HE1.out.trans (if_neg (by simp [hch])))
  clear x0 x1
  have x0 := hk6.cell 0
  have x1 := hk6.cell 1
  simp at x0 x1
  subst hqe
  have Hch := Lib.hid hch
  have Hk6 := Lib.hid hk6
  have Hl6 := Lib.hid hl6
  have HL6 := Lib.hid hL6
  have HRr6 := Lib.hid hRr6
  clear hch hk6 hl6 hL6 hRr6
  clear hb6 hl56 HL5 HRr5 Hk5 Hl5 HR1 Hqe HE1 HE2 HL2 HEs HRo
  go_upto_region 8 with fail
  -- the root's own row once more
  go_cut [12, 13] (fun q g wx => ∃ Q qc, q = .slice Q l2.length qc ∧ g = .int .i64 0 ∧ Ints .i64 wx Q l2 ∧ Later w6 wx)
  case first =>
    have HKp := Lib.hid (fun (W : World) (h : Later w6 W) => (⟨h.cell x0, h.cell x1⟩ : W.cell? ⟨w.heap.size, 0, none⟩ = some (.slice A n.inn.length c) ∧ W.cell? ⟨w.heap.size, 1, none⟩ = some (.slice N n.nodes.length d)))
    go_region_held3 (fun W => W.cell? ⟨w.heap.size, 0, none⟩ = some (.slice A n.inn.length c) ∧ W.cell? ⟨w.heap.size, 1, none⟩ = some (.slice N n.nodes.length d)) (first | exact HKp.out _ (show Later w6 _ by repeat (first | (with_reducible exact Later.refl _) | (with_reducible apply Later.drew) | (with_reducible refine Later.trans ?_ (by assumption)))) | fail)
      (first
      | (go_at_call 20; refine (HSq.out _).mono ?_; rintro e w' ⟨rfl, rfl⟩)
      | (go_at_call 18; refine (HEq.out _ (show Later w _ by repeat (first | (with_reducible exact Hl6.out) | (with_reducible apply Later.drew)))).mono ?_; rintro e w7 ⟨Q, qc, rfl, hI, hl7⟩)
      | fail)
    have hlz := (Later.refl w6).drew.trans hl7
    have Hlz := Lib.hid hlz
    have HI := Lib.hid hI
    clear hlz hI
    clear hl7 x0 x1 HKp
    go_wp2_with fail
    go_meet
    exact ⟨Q, qc, rfl, rfl, HI.out, Hlz.out⟩
  case rest =>
    obtain ⟨Q, qc, rfl, rfl, hQ, hlc⟩ := hcut
    have hkc := hlc.blk Hk6.out
    have hlc2 := Hl6.out.trans hlc
    have hLc := HL6.out.below hlc (Nat.le_refl _)
    have hRc := HRr6.out.below hlc (Nat.le_refl _)
    clear x0 x1
    have x0 := hkc.cell 0
    have x1 := hkc.cell 1
    simp at x0 x1
    have HKp := Lib.hid (fun (W : World) (h : Later wc W) => (⟨h.cell x0, h.cell x1⟩ : W.cell? ⟨w.heap.size, 0, none⟩ = some (.slice A n.inn.length c) ∧ W.cell? ⟨w.heap.size, 1, none⟩ = some (.slice N n.nodes.length d)))
    have HSm := Lib.hid (fun (W : World) (h : Later wc W) => (show Calls Tryz.prog 21 #[.slice R l2.length Rc, .slice Q l2.length qc] W fun e w' => e = .returned (.bool true) ∧ ∃ q, w' = W.drewN q from by
      have h1 := ref03_same R Q Rc qc l2 l2 W (by omega) (by omega) (hRc.below h (Nat.le_refl _)) (hQ.below h (Nat.le_refl _))
      rw [show decide (l2 = l2) = true by simp] at h1
      exact h1))
    have HAl := Lib.hid (fun (W : World) => roots_all A N c d n W (by omega))
    have HFi := Lib.hid (fun (W : World) => first_21 n.nodes.length W (by omega))
    have HSo := Lib.hid (fun (W : World) (P P' : Option Addr) (pc pc' : Nat) (h1 : Ints .i64 W P (ones n.nodes.length)) (h2 : Ints .i64 W P' (ones n.nodes.length)) => (show Calls Tryz.prog 21 #[.slice P (ones n.nodes.length).length pc, .slice P' (ones n.nodes.length).length pc'] W fun e w' => e = .returned (.bool true) ∧ ∃ q, w' = W.drewN q from by
      have h1 := ref03_same P P' pc pc' (ones n.nodes.length) (ones n.nodes.length) W (by rw [ones_len]; omega) (by rw [ones_len]; omega) h1 h2
      rw [show decide (ones n.nodes.length = ones n.nodes.length) = true by simp] at h1
      exact h1))
    have Hkc := Lib.hid hkc
    have Hlc2 := Lib.hid hlc2
    have HLc := Lib.hid hLc
    have HRc := Lib.hid hRc
    have HQ := Lib.hid hQ
    clear hkc hlc2 hLc hRc hQ
    clear hlc HSq HEq Hk6 Hl6 HL6 HRr6
    generalize hon : ones n.nodes.length = on at *
    have Hon := Lib.hid hon
    clear hon
    go_upto_region 9 with fail
    obtain ⟨wa, rfl⟩ : ∃ wa, wa = wc := ⟨wc, rfl⟩
    go_cut [94] (fun v wx => v = .bool false ∧ Later wa wx)
    case first =>
      go_region_held3 (fun W => W.cell? ⟨w.heap.size, 0, none⟩ = some (.slice A n.inn.length c) ∧ W.cell? ⟨w.heap.size, 1, none⟩ = some (.slice N n.nodes.length d)) (first | exact HKp.out _ (show Later wa _ by repeat (first | (with_reducible exact Later.refl _) | (with_reducible apply Later.drew) | (with_reducible apply Later.drewN) | (with_reducible refine Later.trans ?_ (by assumption)))) | fail)
        (first
        | (go_at_call 15; refine (HAl.out _).mono ?_; rintro e w7 ⟨P, pc, rfl, hIP, hl7⟩)
        | (go_at_call 22; refine (HFi.out _).mono ?_; rintro e w8 ⟨P', pc', rfl, hIP', hl8⟩)
        | (go_at_call 21; (first | (with_reducible refine (HSm.out _ (show Later wa _ by repeat (first | (with_reducible exact Later.refl _) | (with_reducible apply Later.drew) | (with_reducible apply Later.drewN) | (with_reducible refine Later.trans ?_ (by assumption))))).mono ?_) | (refine (HSo.out _ P P' pc pc' (hIP.below (show Later w7 _ by repeat (first | (with_reducible exact Later.refl _) | (with_reducible apply Later.drew) | (with_reducible apply Later.drewN) | (with_reducible refine Later.trans ?_ (by assumption)))) (Nat.le_refl _)) (hIP'.below (show Later w8 _ by repeat (first | (with_reducible exact Later.refl _) | (with_reducible apply Later.drew) | (with_reducible apply Later.drewN) | (with_reducible refine Later.trans ?_ (by assumption)))) (Nat.le_refl _))).mono ?_)); rintro e w' ⟨rfl, q, rfl⟩)
        | fail)
      have hlz : Later wa _ := (show Later wa w8 by repeat (first | (with_reducible exact Later.refl _) | (with_reducible apply Later.drew) | (with_reducible apply Later.drewN) | (with_reducible refine Later.trans ?_ (by assumption)))).trans ((Later.refl w8).drewN q)
      have Hlz := Lib.hid hlz
      clear hlz
      clear hl7 hl8 hIP hIP' x0 x1 HKp
      go_wp2_with fail
      go_meet
      exact ⟨rfl, Hlz.out⟩
    case rest =>
      obtain ⟨rfl, hld⟩ := hcut
      have hke := hld.blk Hkc.out
      have hle := Hlc2.out.trans hld
      have hLe := HLc.out.below hld (Nat.le_refl _)
      clear x0 x1 HKp HSm HAl HFi HSo Hkc Hlc2 HLc HRc HQ hld Hon
      have x0 := hke.cell 0
      have x1 := hke.cell 1
      simp at x0 x1
      by_cases hs : 1 ≤ step ∧ step ≤ 512
      rotate_left
      · have h1 := HE1'.out.trans (if_neg hs)
        have h2 := HL1.out.trans (if_neg (fun h => hs h.2))
        subst h1 h2
        have Hle := Lib.hid hle
        clear hle
        clear HL1 HE1' hke hLe Hch
        by_cases hs1 : step < 1
        · clear hs
          go_wp2_with fail
          refine (Haw.out _ Hle.out).mono ?_
          rintro e wz ⟨rfl, hbz⟩
          go_wp2_with fail
          go_ret
          exact ⟨rfl, hbz⟩
        · have hs2 : 512 < step := by omega
          clear hs
          go_wp2_with fail
          refine (Haw.out _ Hle.out).mono ?_
          rintro e wz ⟨rfl, hbz⟩
          go_wp2_with fail
          go_ret
          exact ⟨rfl, hbz⟩
      have h1 := HE1'.out.trans (if_pos hs)
      have h2 := HL1.out.trans (if_pos ⟨Hch.out, hs⟩)
      have hso := Rt.order_len Hch.out
      have hnd : (Nt.sorted n.nodes).Nodup := (Kn.go_ok (Nt.insF n.nodes) n.nodes.length n.nodes.length).nodup
      obtain ⟨s, rfl⟩ := Int.eq_ofNat_of_zero_le (show 0 ≤ step by omega)
      rw [Int.toNat_natCast] at h2
      have hs1 : ¬ (s : Int) < 1 := by omega
      have hs2 : ¬ (512 : Int) < (s : Int) := by omega
      have hsn : 1 ≤ s := by omega
      have hsm : s ≤ 512 := by omega
      subst h1
      have HHs := Lib.hid (show ∀ k (hk : k < (Nt.sorted n.nodes).length), l1.contains (Nt.sorted n.nodes)[k] = decide ((k + 1) % s = 0) by subst h2; exact fun k hk => Rt.every_has hnd hsn hk)
      have HRi := Lib.hid (show ∀ i (hi : i + 1 < l1.length), l1[i] < l1[i + 1] by subst h2; exact fun i hi => Rt.every_rise hnd hsn hi)
      have HLn := Lib.hid (show l1.length = (Nt.sorted n.nodes).length / s by subst h2; exact Rt.every_len (Nt.sorted n.nodes) s)
      have Hke := Lib.hid hke
      have Hle := Lib.hid hle
      have HLe := Lib.hid hLe
      have Hso := Lib.hid hso
      clear hke hle hLe hso
      clear HL1 HE1' Hch hs hnd h2 hst
      go_wp2_with fail
      clear hs1 hs2
      refine (ref_21 A N c d n wc Hok.out (HR.out.below Hle.out (Nat.le_refl _))).mono ?_
      rintro e w9 ⟨N2, d2, rfl, hR2, hd3, hd4, hb9⟩
      have hle9 := Hle.out.call hb9
      have hL9 := HLe.out.below hb9 (Nat.le_refl _)
      have HR2 := Lib.hid hR2
      have Hle9 := Lib.hid hle9
      have HL9 := Lib.hid hL9
      clear hR2 hle9 hL9
      clear hb9 x0 x1 Hke HLe Hle
      go_wp2_with fail
      refine (ref11_order A N2 c d2 n w9 Hok.out HR2.out).mono ?_
      rintro e w10 ⟨O, oc, rfl, hO, ho1, ho2, hb10⟩
      have hl10 := Hle9.out.call hb10
      have hL10 := HL9.out.below hb10 (Nat.le_refl _)
      have hso := Hso.out
      generalize Nt.sorted n.nodes = os at *
      have hol : os.length ≤ 12 := by omega
      have HO := Lib.hid hO
      have Hl10 := Lib.hid hl10
      have HL10 := Lib.hid hL10
      clear hO hl10 hL10
      clear hb10 HL9 Hle9 HR2 Hso hso ho1 ho2
      go_wp2_with fail
      go_loopw [14, 15, 16, 17, 115] (fun m _ _ _ i wx => ∃ k : Nat, k ≤ os.length ∧ i = .int .i64 (k : Int) ∧ m = .int .i64 ((k / s : Nat) : Int) ∧ Later w10 wx) (fun _ _ _ _ i _ => os.length - (intOf i).toNat)
      case atStart => exact ⟨0, Nat.zero_le _, rfl, by simp, Later.refl _⟩
      case round =>
        obtain ⟨k, hk, rfl, rfl, hlk⟩ := hrel
        by_cases hlt : k < os.length
        · obtain ⟨b, off, rfl, -, hc⟩ := HO.out.below hlk (Nat.le_refl _) k hlt
          rw [getD_at hlt] at hc
          have hh := HHs.out k hlt
          have hdn := Rt.div_next (s := s) (k := k) hsn
          have hkd : k / s ≤ 12 := Nat.le_trans (Nat.div_le_self _ _) (by omega)
          generalize os[k] = z at *
          have hrem : ((k : Int) + 1) % (s : Int) = (((k + 1) % s : Nat) : Int) := by simp
          have k1 : (k : Int) < (os.length : Int) := by omega
          have HHc := Lib.hid (ref18_has L Lc l1 z wr (by omega) (HL10.out.below hlk (Nat.le_refl _)))
          rw [show hasB l1 z = decide ((k + 1) % s = 0) from hh] at HHc
          have r0 : (0 : Int) ≤ (k : Int) + 1 := by omega
          have r1 : (1 : Int) ≤ (s : Int) := by omega
          generalize k / s = q at *
          by_cases hm : (k + 1) % s = 0
          · rw [hm] at hrem
            rw [if_pos hm] at hdn
            have HD := Lib.hid hdn
            have b1 : (((k : Int) + 1) % (s : Int) == 0) = true := by rw [hrem]; rfl
            rw [show decide ((k + 1) % s = 0) = true by simp [hm]] at HHc
            have Hlk := Lib.hid hlk
            have Hrem := Lib.hid hrem
            clear hlk hrem
            clear hh hm hdn
            go_wp2_with fail
            refine HHc.out.mono ?_
            rintro e wz ⟨rfl, rfl⟩
            go_wp2_with fail
            go_roundw
            case rel => exact ⟨k + 1, by omega, by go_num, by rw [HD.out]; go_num, Hlk.out⟩
            case measure => simp [intOf]; omega
          · rw [if_neg hm, Nat.add_zero] at hdn
            have HD := Lib.hid hdn
            have b1 : (((k : Int) + 1) % (s : Int) == 0) = false := by rw [hrem, beq_eq_false_iff_ne]; omega
            rw [show decide ((k + 1) % s = 0) = false by simp [hm]] at HHc
            have Hlk := Lib.hid hlk
            have Hrem := Lib.hid hrem
            clear hlk hrem
            clear hh hm hdn
            go_wp2_with fail
            refine HHc.out.mono ?_
            rintro e wz ⟨rfl, rfl⟩
            go_wp2_with fail
            go_roundw
            case rel => exact ⟨k + 1, by omega, by go_num, by rw [HD.out]; rfl, Hlk.out⟩
            case measure => simp [intOf]; omega
        · obtain rfl : k = os.length := by omega
          rw [← HLn.out]
          have hLk := HL10.out.below hlk (Nat.le_refl _)
          have hlz := Hl10.out.trans hlk
          have HLk := Lib.hid hLk
          have Hlz := Lib.hid hlz
          clear hLk hlz
          clear hlk HHs HO HL10 Hl10
          go_wp2_with fail
          obtain ⟨wy, rfl⟩ : ∃ wy, wy = wr := ⟨wr, rfl⟩
          go_loopw [18] (fun t wx => ∃ i : Nat, i ≤ l1.length ∧ t = .int .i64 ((i : Int) + 1) ∧ Later wy wx) (fun t _ => l1.length + 1 - (intOf t).toNat)
          case atStart => exact ⟨0, Nat.zero_le _, rfl, Later.refl _⟩
          case round =>
            obtain ⟨i, hi, rfl, hli⟩ := hrel
            by_cases hil : i + 1 < l1.length
            · obtain ⟨b, off, rfl, -, hc1⟩ := HLk.out.below hli (Nat.le_refl _) (i + 1) hil
              obtain ⟨b', off', e', -, hc0⟩ := HLk.out.below hli (Nat.le_refl _) i (by omega)
              injection e' with e'
              injection e' with e1 e2 _
              subst e1 e2
              rw [getD_at hil] at hc1
              rw [getD_at (show i < l1.length by omega)] at hc0
              have hr := HRi.out i hil
              generalize l1[i + 1] = z1 at *
              generalize l1[i] = z0 at *
              have i1 : IntKind.i64.wrap ((i : Int) + 1 - 1) = (i : Int) := by rw [IntWalk.i64_in _ (by omega)]; omega
              have i2 : (0 : Int) ≤ (i : Int) := by omega
              have i3 : (i : Int) < (l1.length : Int) := by omega
              have i4 : (0 : Int) ≤ (i : Int) + 1 := by omega
              have i5 : (i : Int) + 1 < (l1.length : Int) := by omega
              have i6 : ((i : Int) + 1).toNat = i + 1 := by omega
              have hno : ¬ z1 ≤ z0 := by omega
              have hno2 : decide (z1 ≤ z0) = false := by simp; omega
              have hl2 := Lib.hid (fun q => hli.trans (Later.drewN (Later.refl wr) q))
              clear hli hr
              go_wp2_with fail
              go_quiet (fail)
              go_wp2_with fail
              clear i1 i6
              go_roundw
              case rel => exact ⟨i + 1, by omega, by go_num, hl2.out _⟩
              case measure => simp [intOf]; omega
            · have i5 : ¬ (i : Int) + 1 < (l1.length : Int) := by omega
              have hlz2 := Hlz.out.trans hli
              have Hlz2 := Lib.hid hlz2
              clear hlz2
              clear hli
              go_wp2_with fail
              refine (Haw.out _ Hlz2.out).mono ?_
              rintro e wz ⟨rfl, hbz⟩
              go_wp2_with fail
              go_ret
              exact ⟨rfl, hbz⟩
end Go.Proofs.YtnffjfjhbjeaiaaGreatDoor
namespace Go.Proofs.YtnffjfjhbjeaiaaGreatDoor.rootsEvery
open Go.ChangeShapes Go.WideShapes Go.ChangeAt Go.RowKit
open Go.ChangeMaps (open_string shut_string)

theorem own : ownKnob Tryz.prog.godebug = none := by kernel_rfl
theorem laidOut : laidOutB Tryz.prog = true := by kernel_rfl

/-- The witness's world: the door's own, the listed variables laid. -/
noncomputable def doorW (os : Os) : World := World.doorLaid Tryz.prog 24 os
theorem laid_met (os : Os) (args : Array Value) : laidMet Tryz.prog Rows.rootsEveryRow.laid ((doorW os).forCall (fun _ _ => 0) ⟨#[], args, []⟩).memory :=
  laidMet_of_run' 8 (by kernel_rfl) (by kernel_rfl)
theorem reads (os : Os) {H : Type} (enc : TypeId × Value → H) : ∃ places, DataW.whole enc Tryz.prog ((doorW os).forCall (fun _ _ => 0) ⟨#[], #[.agg #[.slice none 0 0, .slice none 0 0], .int .i64 0], []⟩).memory Tryz.f5.params.toList Rows.rootsEverySpec.vars false #[.agg #[.slice none 0 0, .slice none 0 0], .int .i64 0].toList 8 = some ([.agg [.nil, .nil], .lit (.int .i64 0)], [], places) :=
  ⟨[], by kernel_rfl⟩

set_option maxRecDepth 100000 in
theorem lifted (os : Os) (started : os.Started) (H : Type) (enc : TypeId × Value → H) (Fi : Stop.Interp) :
    ReturnsInHanded {} Tryz.checked os 5 .any ((Rows.OpenSpec.upto Rows.rootsEverySpec).preRow enc Tryz.prog Tryz.f5 Rows.rootsEveryUptoRow.domain false Rows.rootsEveryUptoRow.laid) (((Rows.OpenSpec.upto Rows.rootsEverySpec).at Fi).post enc Tryz.prog Tryz.f5 false true false false) := by
  obtain ⟨places, hx⟩ := reads os enc
  refine returnsInHanded_of_row (C := Tryz.checked) (s := Rows.OpenSpec.upto Rows.rootsEverySpec) own started (by kernel_rfl) Tryz.func5
    (witness_row_at (enc := enc) (C := Tryz.checked) false (doorW os) #[.agg #[.slice none 0 0, .slice none 0 0], .int .i64 0] rfl (by kernel_rfl) (by kernel_rfl) (by kernel_rfl)
      (OpenSpec.preRow_of_cond 8 hx (by kernel_rfl) (fun k hk => by cases hk; kernel_rfl) (by kernel_rfl) (laid_met os _))) ?_
  intro W base args ds gs before hval0 hW hcnd hcond _ hL _ _
  have hbulk := hcond _ rfl
  have hval : ∀ (j : Nat) t v, Tryz.f5.params[j]? = some t → args[j]? = some v → Value.okWide Tryz.prog W .any base t v := hval0
  have hW' := hW
  obtain ⟨p, q, hA0, hV, rfl, hfz, hnd⟩ := hW
  have hA : DataW.TrodAll enc Tryz.prog W 0 (fun _ => true) true Tryz.f5.params.toList args.toList ds p := hA0
  rw [Tryz.params5] at hA hval
  obtain ⟨v0, vs0, d0, ds0, p0, q0, hargs, rfl, rfl, h0, r0⟩ := trodAll_cons hA
  obtain ⟨v1, vs1, d1, ds1, p1, q1, rfl, rfl, rfl, h1, r1⟩ := trodAll_cons r0
  obtain ⟨rfl, rfl, rfl⟩ := trodAll_nil r1
  obtain rfl : args = #[v0, v1] := by cases args; simp_all
  obtain ⟨rfl, rfl⟩ := trodVars_none hV
  have hbk : Rows.uptoBulkAll ([d0, d1] ++ []) ≤ 1048576 := of_decide_eq_true hbulk
  have hz0 : Rows.uptoBulk d0 ≤ 1048576 := Nat.le_trans (bulk_part (by simp)) hbk
  have k0 := h0
  have lt0 : ∀ x ∈ p0, x.block < W.heap.size := by obtain ⟨m, hm⟩ := k0; exact DataW.trod_lt m _ _ _ hm
  have k1 := h1
  have lt1 : ∀ x ∈ p1, x.block < W.heap.size := by obtain ⟨m, hm⟩ := k1; exact DataW.trod_lt m _ _ _ hm
  obtain ⟨A0, N0, c10, c20, n0, rfl, la0, lb0, lc0, ld0, hS0, hw0⟩ := net_open (hval 0 26 v0 rfl rfl) h0 hz0
  obtain ⟨a1, rfl, rfl, rfl, w1⟩ := open_int Tryz.underlying3 (hval 1 3 v1 rfl rfl) h1
  clear hA0 hval0
  refine (walkRootsEvery W A0 N0 c10 c20 n0 la0 lb0 lc0 ld0 hS0 hw0 a1 w1).mono fun e W' ⟨he, bel⟩ => ?_
  subst he
  exact ⟨_, rfl, _, _, _, [], _, [], hW', trodAll_mk1 (shut_bool Tryz.underlying4 _), (trodAll_cons_mk (Below.trod laidOut (by kernel_rfl) (of_decide_eq_true (by kernel_rfl)) k0 bel lt0) (trodAll_cons_mk (Below.trod laidOut (by kernel_rfl) (of_decide_eq_true (by kernel_rfl)) k1 bel lt1) trodAll_mk0)), rfl, bel.frame _, fun h => by cases h⟩

theorem over : Rows.rootsEveryUptoRow.holds Tryz.pinned (Rows.OpenSpec.upto Rows.rootsEverySpec) :=
  OpenClaim.holds_of_cond 5 Tryz.f5 rfl rfl rfl rfl rfl rfl rfl ⟨rfl, rfl, rfl, rfl, rfl⟩ rfl rfl rfl rfl rfl (by kernel_rfl) Tryz.func5 (by kernel_rfl)
    (of_decide_eq_true (by kernel_rfl)) (by unfold Func.isWrapper; first | (rw [if_pos (by decide +kernel)]; kernel_rfl) | (rw [if_neg (by decide +kernel)]; exact ⟨rfl, rfl⟩))
    (fun os started H enc _ Fi => by rw [OpenClaim.pre_eq_preRow]; exact lifted os started H enc Fi)
end Go.Proofs.YtnffjfjhbjeaiaaGreatDoor.rootsEvery
namespace Go.Proofs.YtnffjfjhbjeaiaaGreatDoor
open Go
theorem rootsEvery_holds : Rows.RootsEveryUptoCardSaid :=
  Claim7.holds_tied_plain_at .later [] [.data, .data, .data] true Rows.rootsEveryUptoCard.stood.harness false
    rootsEvery.over (fun _ h => by cases h) (by kernel_rfl) (fun _ h => by cases h) rootsEveryUpto_row_tie rfl ⟨rfl, rfl⟩ (by kernel_rfl) rfl
    (fun f fn hf hfn => by
      obtain rfl : f = 5 := Option.some.inj ((show Tryz.prog.funcNamed Rows.rootsEveryUptoRow.func = some 5 by kernel_rfl).symm.trans hf) |>.symm
      obtain rfl : fn = Tryz.f5 := (Option.some.inj (Tryz.func5.symm.trans hfn)).symm
      exact ⟨by kernel_rfl, fun j t ht => by
        rw [Tryz.params5] at ht
        have h3 : Tryz.prog.wantsStandIn t = false := by
          rcases j with _ | _ | j
          · simp at ht; subst ht; exact (show Tryz.prog.wantsStandIn 26 = false by kernel_rfl)
          · simp at ht; subst ht; exact (show Tryz.prog.wantsStandIn 3 = false by kernel_rfl)
          · simp at ht
        exact h3⟩)
    (by kernel_rfl)
#print axioms rootsEvery_holds
end Go.Proofs.YtnffjfjhbjeaiaaGreatDoor
