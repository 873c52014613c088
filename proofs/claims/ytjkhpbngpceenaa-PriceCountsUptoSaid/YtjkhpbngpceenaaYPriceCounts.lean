/- The statement Rows.PriceCountsUptoSaid is proved: for every input the law 'athanorlaw13.PriceCounts' returns true, and each argument reads afterwards as it read before. Conditions: those of the row, no others. -/
import Derived.Below
import Derived.ChangeOld
import Derived.JoinedCond
import Derived.OpenShut
import Derived.ProofKit
import Derived.ShutString
import Derived.WalkKit
import Derived.Test.YtjkhpbngpceenaaRows
import Derived.Test.YtjkhpbngpceenaaZ10
set_option linter.unusedVariables false
/- Layer 13's statement PriceCounts: the walk. -/
namespace Go.Proofs.Ytjkhpbngpceenaa
open Go.RowKit
theorem sum_snoc (a : List Int) (x : Int) : Safe.sum (a ++ [x]) = Safe.sum a + x := by
  induction a with
  | nil => simp [Safe.sum]
  | cons y r ih => simp only [List.cons_append, Safe.sum, ih]; omega
set_option maxHeartbeats 16000000 in
set_option maxRecDepth 100000 in
theorem walkPriceCounts (w : World) (A N : Option Addr) (c d : Nat) (n : NetD) (la : n.inn.length ≤ c) (lb : c ≤ 9223372036854775807) (lc : n.nodes.length ≤ d) (ld : d ≤ 9223372036854775807) (hR : NetR w A N n) (hf : n.fits) :
    Calls Try.prog 8 #[.agg #[.slice A n.inn.length c, .slice N n.nodes.length d]] w fun e w' => e = .returned (.bool true) ∧ Below w.heap.size w w' := by
  have hok := hf.ok
  have hk := Blk.new w 26 #[.slice A n.inn.length c, .slice N n.nodes.length d]
  have hl0 : Later w (w.alloc (.cells #[.slice A n.inn.length c, .slice N n.nodes.length d] 26)) := (Later.refl w).alloc _
  have Hok := Lib.hid hok
  have HR := Lib.hid hR
  have Hk := Lib.hid hk
  have Hl0 := Lib.hid hl0
  have Hf := Lib.hid hf
  clear hok hR hk hl0 hf
  go_enter Try.func8, Try.ntmps8
  go_wp2_with fail
  generalize w.alloc (.cells #[.slice A n.inn.length c, .slice N n.nodes.length d] 26) = w1 at *
  refine (smallP_13 A N c d n w1 Hok.out (HR.out.below Hl0.out (Nat.le_refl _))).mono ?_
  rintro e w2 ⟨b, rfl, hsm, hb2⟩
  have hl2 := Hl0.out.call hb2
  have hk2 := (show Later w1 w2 from hb2).blk Hk.out
  clear hb2 Hk Hl0
  cases b
  · have Hk2 := Lib.hid hk2
    have Hl2 := Lib.hid hl2
    clear hk2 hl2
    clear hsm
    go_wp2_with fail
    refine (awake13 _).mono ?_
    rintro e w3 ⟨rfl, hb3⟩
    go_wp2_with fail
    go_ret
    exact ⟨rfl, Hl2.out.call hb3⟩
  have hsm := hsm rfl
  have hsm2 : n.nodes.length ≤ 200 := by omega
  have x0 : w2.cell? ⟨w.heap.size, 0, none⟩ = some (.slice A n.inn.length c) := by rw [hk2.cell]; rfl
  have x1 : w2.cell? ⟨w.heap.size, 1, none⟩ = some (.slice N n.nodes.length d) := by rw [hk2.cell]; rfl
  have Hk2 := Lib.hid hk2
  have Hl2 := Lib.hid hl2
  clear hk2 hl2
  go_wp2_with fail
  refine (price_of A N c d n _ Hok.out (HR.out.below Hl2.out (Nat.le_refl _)) lc hsm2).mono ?_
  rintro e w3 ⟨hb3, hcase⟩
  have hl3 := Hl2.out.call hb3
  have hk3 := (show Later w2 w3 from hb3).blk Hk2.out
  clear x0 x1 hb3 Hk2 Hl2
  rcases hcase with ⟨hc, g1, g2, rfl, hg1, hg2⟩ | ⟨hc, rfl⟩
  · have h3a : Later w3 (w3.alloc (.cells #[.slice (some ⟨g1, 0, none⟩) (n.nodes.length + 1) (n.nodes.length + 1), .slice (some ⟨g2, 0, none⟩) (n.nodes.length + 1) (n.nodes.length + 1), .int .i64 (Nt.total n)] 60)) := (Later.refl w3).alloc _
    have hpx := Blk.new w3 60 #[.slice (some ⟨g1, 0, none⟩) (n.nodes.length + 1) (n.nodes.length + 1), .slice (some ⟨g2, 0, none⟩) (n.nodes.length + 1) (n.nodes.length + 1), .int .i64 (Nt.total n)]
    have hk4 := h3a.blk hk3
    have hg14 := h3a.blk hg1
    have hg24 := h3a.blk hg2
    have hl4 := hl3.trans h3a
    have x0 := hk4.cell 0
    have x1 := hk4.cell 1
    simp at x0 x1
    have Hk3 := Lib.hid hk3
    have Hl3 := Lib.hid hl3
    have Hc := Lib.hid hc
    have Hg1 := Lib.hid hg1
    have Hg2 := Lib.hid hg2
    have H3a := Lib.hid h3a
    have Hpx := Lib.hid hpx
    have Hk4 := Lib.hid hk4
    have Hg14 := Lib.hid hg14
    have Hg24 := Lib.hid hg24
    have Hl4 := Lib.hid hl4
    have Hx0 := Lib.hid x0
    have Hx1 := Lib.hid x1
    clear hk3 hl3 hc hg1 hg2 h3a hpx hk4 hg14 hg24 hl4 x0 x1
    go_upto_region 4 with fail
    generalize w3.alloc (.cells #[.slice (some ⟨g1, 0, none⟩) (n.nodes.length + 1) (n.nodes.length + 1), .slice (some ⟨g2, 0, none⟩) (n.nodes.length + 1) (n.nodes.length + 1), .int .i64 (Nt.total n)] 60) = w4 at *
    generalize w3.heap.size = pb at *
    have x0 := Hx0.out
    have x1 := Hx1.out
    clear Hx0 Hx1 Hk3 Hg1 Hg2 H3a
    go_wp2_with fail
    refine (price_peak A N c d n _ Hok.out (HR.out.below Hl4.out (Nat.le_refl _)) lc hsm2).mono ?_
    rintro e w5 ⟨rfl, hb5⟩
    have h45 : Later w4 w5 := hb5
    have y0 := h45.cell x0
    have y1 := h45.cell x1
    clear hb5 x0 x1
    have H45 := Lib.hid h45
    clear h45
    go_wp2_with fail
    refine (price_params A N c d n _ Hok.out (netR_at HR.out (Hl4.out.trans H45.out)) lc hsm2).mono ?_
    rintro e w6 ⟨rfl, hb6⟩
    have h46 := H45.out.call hb6
    have x0 := (show Later w5 w6 from hb6).cell y0
    have x1 := (show Later w5 w6 from hb6).cell y1
    clear hb6 y0 y1
    have H46 := Lib.hid h46
    clear h46
    go_wp2_with fail
    refine (ref_13 A N c d n _ Hok.out (netR_at HR.out (Hl4.out.trans H46.out))).mono ?_
    rintro e w7 ⟨N', d', rfl, hR7, hd7, hm7, hb7⟩
    have h47 := H46.out.call hb7
    clear x0 x1 hb7
    have H47 := Lib.hid h47
    have HR7 := Lib.hid hR7
    clear h47 hR7
    go_wp2_with fail
    refine (ref11_check A N' c d' n _ Hok.out HR7.out hd7 la lb).mono ?_
    rintro e w8 ⟨hb8, ⟨-, g9, rfl, -, -⟩ | ⟨hc', -⟩⟩
    rotate_left
    · exact absurd Hc.out hc'
    have h48 := H47.out.call hb8
    have hl6 := Hl4.out.trans h48
    obtain ⟨x0, x1⟩ : w8.cell? ⟨w.heap.size, 0, none⟩ = some (.slice A n.inn.length c) ∧ w8.cell? ⟨w.heap.size, 1, none⟩ = some (.slice N n.nodes.length d) := by
      have hk8 := h48.blk Hk4.out
      exact ⟨by rw [hk8.cell]; rfl, by rw [hk8.cell]; rfl⟩
    rw [Hc.out]
    clear hb8
    have H48 := Lib.hid h48
    have Hl6 := Lib.hid hl6
    clear h48 hl6
    go_upto_region 9 with fail
    have hz0 := Lib.hid x0
    have hz1 := Lib.hid x1
    obtain ⟨w6', hw6⟩ : ∃ w6', w6' = w8 := ⟨w8, rfl⟩
    go_cut [12, 13] (WCut n w8)
    case first =>
      go_region_held3 (fun W => W.cell? ⟨w.heap.size, 0, none⟩ = some (.slice A n.inn.length c) ∧ W.cell? ⟨w.heap.size, 1, none⟩ = some (.slice N n.nodes.length d)) (first | (with_reducible exact ⟨x0, x1⟩) | exact ⟨Later.cell (show Later w8 _ by repeat (first | (with_reducible exact Later.refl _) | (with_reducible apply Later.drew) | (with_reducible apply Later.alloc) | (with_reducible refine Later.call ?_ (by assumption)))) x0, Later.cell (show Later w8 _ by repeat (first | (with_reducible exact Later.refl _) | (with_reducible apply Later.drew) | (with_reducible apply Later.alloc) | (with_reducible refine Later.call ?_ (by assumption)))) x1⟩)
        (first
        | (go_at_call 32; refine (ref_13 A N c d n _ Hok.out (netR_at (netR_at HR.out Hl6.out) (show Later w8 _ by repeat (first | (with_reducible exact Later.refl _) | (with_reducible apply Later.drew) | (with_reducible apply Later.alloc) | (with_reducible refine Later.call ?_ (by assumption)))))).mono ?_; rintro e wr ⟨Nr, dr, rfl, hRr, hdr, hmr, hbr⟩)
        | (go_at_call 33; refine (ref13_words A _ c _ n _ Hok.out (netR_at (by assumption) (by repeat (first | (with_reducible exact Later.refl _) | (with_reducible apply Later.drew) | (with_reducible apply Later.alloc) | (with_reducible refine Later.call ?_ (by assumption))))) (by assumption) la lb Hc.out).mono ?_; rintro e ww ⟨Aw, cw, rfl, hIw, hw1, hw2, hbw⟩)
        | (go_at_call 34; refine (ref13_cost A _ c _ n _ Hok.out (netR_at (by assumption) (by repeat (first | (with_reducible exact Later.refl _) | (with_reducible apply Later.drew) | (with_reducible apply Later.alloc) | (with_reducible refine Later.call ?_ (by assumption))))) (by assumption) la lb Hc.out).mono ?_; rintro e wk ⟨Ak, ck, rfl, hIk, hk1, hk2, hbk⟩))
      all_goals
        go_wp2_with fail
        go_meet
        refine ⟨_, _, _, _, rfl, rfl, ?_, ?_, ?_⟩
        · exact hIw.below (show Later ww _ by repeat (first | (with_reducible exact Later.refl _) | (with_reducible apply Later.drew) | (with_reducible apply Later.alloc) | (with_reducible refine Later.call ?_ (by assumption)))) (Nat.le_refl _)
        · exact hIk.below (show Later wk _ by repeat (first | (with_reducible exact Later.refl _) | (with_reducible apply Later.drew) | (with_reducible apply Later.alloc) | (with_reducible refine Later.call ?_ (by assumption)))) (Nat.le_refl _)
        · exact (show Later w8 _ by repeat (first | (with_reducible exact Later.refl _) | (with_reducible apply Later.drew) | (with_reducible apply Later.alloc) | (with_reducible refine Later.call ?_ (by assumption))))

    case rest =>
      obtain ⟨Aw, cw, Ak, ck, rfl, rfl, hIw, hIk, hlc⟩ := hcut
      have hlc' := Hl6.out.trans hlc
      have x0' := hlc.cell hz0.out
      have x1' := hlc.cell hz1.out
      have h4c := H48.out.trans hlc
      clear x0 x1 hz0 hz1 hw6
      have HIw := Lib.hid hIw
      have HIk := Lib.hid hIk
      have Hlc := Lib.hid hlc
      have Hlc' := Lib.hid hlc'
      have H4c := Lib.hid h4c
      clear hIw hIk hlc hlc' h4c
      go_wp2_with fail
      refine (net_params A N c d n _ Hok.out (netR_at HR.out Hlc'.out)).mono ?_
      rintro e w9 ⟨P, pc, rfl, hP, hp1, hp2, hb9⟩
      have hc9 : Later wc w9 := hb9
      have hpr := Nt.params_right Hc.out
      have hpb := (Nt.par_sum Hc.out hsm2).2
      have hpl := Nt.par_len Hc.out n.nodes.length (Nat.le_refl _)
      rw [List.take_length] at hpl
      replace hpl : (Nt.params n).length ≤ 400 := by show (n.nodes.flatMap (·.p)).length ≤ _; omega
      have hpw : Nt.parW n = Safe.sum ((Nt.params n).map Safe.prod) := by unfold Nt.parW; rw [if_pos Hc.out]
      have hbd : ∀ k, 0 ≤ Safe.sum (((Nt.params n).take k).map Safe.prod) ∧ Safe.sum (((Nt.params n).take k).map Safe.prod) ≤ 65536000000 := fun k => (add_small (l := ((Nt.params n).take k).map Safe.prod) (fun x hx => by
        obtain ⟨s, hs, rfl⟩ := List.mem_map.1 hx
        have := Od.prod_right_ (hpr s (List.mem_of_mem_take hs)); omega) (by simp; omega)).2
      clear hb9 x0' x1' hpb
      generalize Nt.params n = ps at *
      have Hc9 := Lib.hid hc9
      have HP := Lib.hid hP
      have Hpr := Lib.hid hpr
      have Hpw := Lib.hid hpw
      have Hbd := Lib.hid hbd
      clear hc9 hP hpr hpw hbd
      go_wp2_with fail
      go_loop [14, 85] (fun t i => ∃ k : Nat, k ≤ ps.length ∧ i = .int .i64 (k : Int) ∧ t = .int .i64 (Safe.sum ((ps.take k).map Safe.prod))) (fun _ i => ps.length - (intOf i).toNat)
      case atStart => exact ⟨0, Nat.zero_le _, rfl, rfl⟩
      case round =>
        obtain ⟨k, hk, rfl, rfl⟩ := hrel
        by_cases hlt : k < ps.length
        · obtain ⟨b5, o5, Ss, cs, rfl, -, hcs, hIs, -, -⟩ := HP.out k hlt
          have hrs := Hpr.out _ (List.getElem_mem hlt)
          have hpd := Sh.prod_bd hrs
          have hb := Hbd.out k
          have hsn : Safe.sum ((ps.take (k + 1)).map Safe.prod) = Safe.sum ((ps.take k).map Safe.prod) + Safe.prod ps[k] := by rw [List.take_succ_eq_append_getElem hlt, List.map_append, List.map_singleton, sum_snoc]
          generalize ps[k] = s at *
          generalize Safe.sum ((ps.take k).map Safe.prod) = t at *
          have HIs := Lib.hid hIs
          have Hrs := Lib.hid hrs
          have Hsn := Lib.hid hsn
          clear hIs hrs hsn
          go_wp2_with fail
          refine (ref03_size Ss cs s _ Hrs.out HIs.out).mono ?_
          rintro e w10 ⟨rfl, rfl⟩
          go_wp2_with fail
          go_round
          case rel => exact ⟨k + 1, by omega, by go_num, by rw [Hsn.out]⟩
          case measure => simp [intOf]; omega
        · obtain rfl : k = ps.length := by omega
          rw [List.take_length, ← Hpw.out]
          obtain ⟨a1, a2, a3, a4, a5, a6⟩ := Nt.words_sum Hc.out hsm2
          have hwl := Nt.words_len Hc.out
          have hkl : (Nt.costs n).length = n.nodes.length + 1 := by simp [Nt.costs, Nt.costsTo_len]
          have hwb : ∀ x ∈ Nt.words n, 0 ≤ x ∧ x ≤ 4294967296 := fun x hx => by have := Nt.words_bd Hc.out x hx; omega
          have hkb : ∀ x ∈ Nt.costs n, 0 ≤ x ∧ x ≤ 4294967296 := fun x hx => by
            rcases List.mem_cons.1 hx with rfl | hx
            · omega
            · exact Nt.costs_bd Hc.out _ (Nat.le_refl _) x hx
          have hpk : Nt.peak n = 2 * Safe.sum (Nt.words n) - (Nt.words n).getD 0 0 := by unfold Nt.peak; rw [if_pos Hc.out]; omega
          rw [hpk]
          have hIw9 := HIw.out.below Hc9.out (Nat.le_refl _)
          have hIk9 := HIk.out.below Hc9.out (Nat.le_refl _)
          have h49 := H4c.out.trans Hc9.out
          have hp9 := h49.blk Hpx.out
          have hJ1 := (h49.blk Hg14.out).intV_ints
          have hJ2 := (h49.blk Hg24.out).intV_ints
          have y0 : w9.cell? ⟨pb, 0, none⟩ = some (.slice (some ⟨g1, 0, none⟩) (n.nodes.length + 1) (n.nodes.length + 1)) := by rw [hp9.cell]; rfl
          have y1 : w9.cell? ⟨pb, 1, none⟩ = some (.slice (some ⟨g2, 0, none⟩) (n.nodes.length + 1) (n.nodes.length + 1)) := by rw [hp9.cell]; rfl
          have y2 : w9.cell? ⟨pb, 2, none⟩ = some (.int .i64 (Nt.total n)) := by rw [hp9.cell]; rfl
          obtain ⟨bW, oW, rfl, cW⟩ := hIw9.row a6
          have cW := cW 0 a6
          rw [Nat.add_zero] at cW
          have ew : (Nt.words n)[0] = (Nt.words n).getD 0 0 := by rw [List.getD_eq_getElem?_getD, List.getElem?_eq_getElem a6]; rfl
          rw [ew] at cW
          have hs1 := fun (W : World) (h : Later w9 W) => ref03_same (some ⟨g1, 0, none⟩) (some ⟨bW, oW, none⟩) (n.nodes.length + 1) cw (Nt.words n) (Nt.words n) W (by omega) (by omega) (hJ1.below h (Nat.le_refl _)) (hIw9.below h (Nat.le_refl _))
          have hs2 := fun (W : World) (h : Later w9 W) => ref03_same (some ⟨g2, 0, none⟩) Ak (n.nodes.length + 1) ck (Nt.costs n) (Nt.costs n) W (by omega) (by omega) (hJ2.below h (Nat.le_refl _)) (hIk9.below h (Nat.le_refl _))
          have hq1 := fun (W : World) (h : Later w9 W) => ref13_sum (some ⟨bW, oW, none⟩) cw (Nt.words n) W (by omega) hwb (hIw9.below h (Nat.le_refl _))
          have hq2 := fun (W : World) (h : Later w9 W) => ref13_sum Ak ck (Nt.costs n) W (by omega) hkb (hIk9.below h (Nat.le_refl _))
          have htt : Safe.sum (Nt.costs n) = Nt.total n := rfl
          rw [htt] at hq2
          rw [decide_eq_true rfl, hwl] at hs1
          rw [decide_eq_true rfl, hkl] at hs2
          rw [hwl] at hq1
          rw [hkl] at hq2
          rw [hwl, hkl]
          have hnn := hwl
          generalize (Nt.words n).getD 0 0 = w00 at *
          generalize Safe.sum (Nt.words n) = SW at *
          generalize Nt.total n = TT at *
          generalize Nt.parW n = PW at *
          have hl9 := Hlc'.out.trans Hc9.out
          have r1 : IntKind.i64.wrap (2 * SW) = 2 * SW := IntWalk.i64_in _ (by omega)
          have r2 : IntKind.i64.wrap (2 * SW - w00) = 2 * SW - w00 := IntWalk.i64_in _ (by omega)
          have r3 : (0 : Int) < (n.nodes.length : Int) + 1 := by omega
          have r4 : (0 : Int) < ((n.nodes.length + 1 : Nat) : Int) := by omega
          clear a1 a6 hwl hkl hwb hkb hpk ew htt hnn
          have HIw9 := Lib.hid hIw9
          have HIk9 := Lib.hid hIk9
          have H49 := Lib.hid h49
          have Hp9 := Lib.hid hp9
          have HJ1 := Lib.hid hJ1
          have HJ2 := Lib.hid hJ2
          have Hs1 := Lib.hid hs1
          have Hs2 := Lib.hid hs2
          have Hq1 := Lib.hid hq1
          have Hq2 := Lib.hid hq2
          have Hl9 := Lib.hid hl9
          clear hIw9 hIk9 h49 hp9 hJ1 hJ2 hs1 hs2 hq1 hq2 hl9
          go_upto_region 17 with (go_at_call 36; refine (Hq1.out _ (Later.refl _)).mono ?_; rintro e w11 ⟨rfl, rfl⟩)
          go_region_held3 (fun W => W.cell? ⟨pb, 0, none⟩ = some (.slice (some ⟨g1, 0, none⟩) (n.nodes.length + 1) (n.nodes.length + 1)) ∧ W.cell? ⟨pb, 1, none⟩ = some (.slice (some ⟨g2, 0, none⟩) (n.nodes.length + 1) (n.nodes.length + 1)) ∧ W.cell? ⟨pb, 2, none⟩ = some (.int .i64 TT) ∧ W.cell? ⟨bW, oW, none⟩ = some (.int .i64 w00)) (first | (with_reducible exact ⟨y0, y1, y2, cW⟩) | exact ⟨Later.cell (show Later w9 _ by repeat (first | (with_reducible exact Later.refl _) | (with_reducible apply Later.drew) | (with_reducible apply Later.drewN) | (with_reducible apply Later.alloc) | (with_reducible refine Later.call ?_ (by assumption)))) y0, Later.cell (show Later w9 _ by repeat (first | (with_reducible exact Later.refl _) | (with_reducible apply Later.drew) | (with_reducible apply Later.drewN) | (with_reducible apply Later.alloc) | (with_reducible refine Later.call ?_ (by assumption)))) y1, Later.cell (show Later w9 _ by repeat (first | (with_reducible exact Later.refl _) | (with_reducible apply Later.drew) | (with_reducible apply Later.drewN) | (with_reducible apply Later.alloc) | (with_reducible refine Later.call ?_ (by assumption)))) y2, Later.cell (show Later w9 _ by repeat (first | (with_reducible exact Later.refl _) | (with_reducible apply Later.drew) | (with_reducible apply Later.drewN) | (with_reducible apply Later.alloc) | (with_reducible refine Later.call ?_ (by assumption)))) cW⟩)
            (first
            | (go_at_call 14; (with_reducible refine (Hs1.out _ (show Later w9 _ by repeat (first | (with_reducible exact Later.refl _) | (with_reducible apply Later.drew) | (with_reducible apply Later.drewN) | (with_reducible apply Later.alloc) | (with_reducible refine Later.call ?_ (by assumption))))).mono ?_); rintro e wa ⟨rfl, qa, rfl⟩)
            | (go_at_call 14; (with_reducible refine (Hs2.out _ (show Later w9 _ by repeat (first | (with_reducible exact Later.refl _) | (with_reducible apply Later.drew) | (with_reducible apply Later.drewN) | (with_reducible apply Later.alloc) | (with_reducible refine Later.call ?_ (by assumption))))).mono ?_); rintro e wb ⟨rfl, qb, rfl⟩)
            | (go_at_call 36; (with_reducible refine (Hq2.out _ (show Later w9 _ by repeat (first | (with_reducible exact Later.refl _) | (with_reducible apply Later.drew) | (with_reducible apply Later.drewN) | (with_reducible apply Later.alloc) | (with_reducible refine Later.call ?_ (by assumption))))).mono ?_); rintro e wd ⟨rfl, rfl⟩)
            | (go_at_call 28; (with_reducible refine (awake13 _).mono ?_); rintro e we ⟨rfl, hbe⟩))
          all_goals
            have hle := Hl9.out.trans (show Later w9 we by repeat (first | (with_reducible exact Later.refl _) | (with_reducible apply Later.drew) | (with_reducible apply Later.drewN) | (with_reducible apply Later.alloc) | (with_reducible refine Later.call ?_ (by assumption))))
            clear r1 r2 r3 r4
            have Hle := Lib.hid hle
            clear hle
            go_wp2_with fail
            go_ret
            exact ⟨rfl, Hle.out⟩
  · have h3a : Later w3 (w3.alloc (.cells #[.slice none 0 0, .slice none 0 0, .int .i64 0] 60)) := (Later.refl w3).alloc _
    have hpx := Blk.new w3 60 #[.slice none 0 0, .slice none 0 0, .int .i64 0]
    have hk4 := h3a.blk hk3
    have hl4 := hl3.trans h3a
    have x0 := hk4.cell 0
    have x1 := hk4.cell 1
    simp at x0 x1
    have hpk : Nt.peak n = 0 := by unfold Nt.peak; rw [if_neg hc]
    have hpw : Nt.parW n = 0 := by unfold Nt.parW; rw [if_neg hc]
    have Hk3 := Lib.hid hk3
    have Hl3 := Lib.hid hl3
    have Hc := Lib.hid hc
    have H3a := Lib.hid h3a
    have Hpx := Lib.hid hpx
    have Hk4 := Lib.hid hk4
    have Hl4 := Lib.hid hl4
    have Hx0 := Lib.hid x0
    have Hx1 := Lib.hid x1
    have Hpk := Lib.hid hpk
    have Hpw := Lib.hid hpw
    clear hk3 hl3 hc h3a hpx hk4 hl4 x0 x1 hpk hpw
    go_upto_region 4 with fail
    generalize w3.alloc (.cells #[.slice none 0 0, .slice none 0 0, .int .i64 0] 60) = w4 at *
    generalize w3.heap.size = pb at *
    have x0 := Hx0.out
    have x1 := Hx1.out
    clear Hx0 Hx1 Hk3 H3a
    go_wp2_with fail
    refine (price_peak A N c d n _ Hok.out (HR.out.below Hl4.out (Nat.le_refl _)) lc hsm2).mono ?_
    rintro e w5 ⟨rfl, hb5⟩
    rw [Hpk.out]
    have h45 : Later w4 w5 := hb5
    have y0 := h45.cell x0
    have y1 := h45.cell x1
    clear hb5 x0 x1
    have H45 := Lib.hid h45
    clear h45
    go_wp2_with fail
    refine (price_params A N c d n _ Hok.out (netR_at HR.out (Hl4.out.trans H45.out)) lc hsm2).mono ?_
    rintro e w6 ⟨rfl, hb6⟩
    rw [Hpw.out]
    have h46 := H45.out.call hb6
    have x0 := (show Later w5 w6 from hb6).cell y0
    have x1 := (show Later w5 w6 from hb6).cell y1
    clear hb6 y0 y1
    have H46 := Lib.hid h46
    clear h46
    go_wp2_with fail
    refine (ref_13 A N c d n _ Hok.out (netR_at HR.out (Hl4.out.trans H46.out))).mono ?_
    rintro e w7 ⟨N', d', rfl, hR7, hd7, hm7, hb7⟩
    have h47 := H46.out.call hb7
    clear x0 x1 hb7
    have H47 := Lib.hid h47
    have HR7 := Lib.hid hR7
    clear h47 hR7
    go_wp2_with fail
    refine (ref11_check A N' c d' n _ Hok.out HR7.out hd7 la lb).mono ?_
    rintro e w8 ⟨hb8, ⟨hc', -⟩ | ⟨-, rfl⟩⟩
    · exact absurd hc' Hc.out
    have h48 := H47.out.call hb8
    have hl8 := Hl4.out.trans h48
    have y0 : w8.cell? ⟨pb, 0, none⟩ = some (.slice none 0 0) := by rw [(h48.blk Hpx.out).cell]; rfl
    have hc := Hc.out
    clear Hpk Hpw
    generalize Nt.check n = ck at *
    have q0 : (ck != 0) = true := by simpa using hc
    clear hb8 hc
    have Hl8 := Lib.hid hl8
    have H48 := Lib.hid h48
    clear hl8 h48
    go_wp2_with fail
    refine (awake13 _).mono ?_
    rintro e w9 ⟨rfl, hb9⟩
    go_wp2_with fail
    go_ret
    exact ⟨rfl, Hl8.out.call hb9⟩
end Go.Proofs.Ytjkhpbngpceenaa
namespace Go.Proofs.Ytjkhpbngpceenaa.priceCounts
open Go.ChangeShapes Go.WideShapes Go.ChangeAt Go.RowKit
open Go.ChangeMaps (open_string shut_string)

theorem own : ownKnob Try.prog.godebug = none := by kernel_rfl
theorem laidOut : laidOutB Try.prog = true := by kernel_rfl

set_option maxRecDepth 100000 in
theorem lifted (os : Os) (started : os.Started) (H : Type) (enc : TypeId × Value → H) (Fi : Stop.Interp) :
    ReturnsInHanded {} Try.checked os 8 .any ((Rows.OpenSpec.upto Rows.priceCountsSpec).pre6 enc Try.prog Try.f8 Rows.priceCountsUptoRow.domain false) (((Rows.OpenSpec.upto Rows.priceCountsSpec).at Fi).post enc Try.prog Try.f8 false true false false) := by
  refine returnsInHanded_of_cond (C := Try.checked) (s := Rows.OpenSpec.upto Rows.priceCountsSpec) (k := Rows.uptoSmall) rfl own started (by kernel_rfl) Try.func8
    (OpenSpec.witness (enc := enc) (C := Try.checked) (s := Rows.OpenSpec.upto Rows.priceCountsSpec) (k := Rows.uptoSmall) rfl false ⟨#[], #[.agg #[.slice none 0 0, .slice none 0 0]], []⟩ 8 (by kernel_rfl) (by kernel_rfl) (by kernel_rfl)
      (x := ([.agg [.nil, .nil]], [], [])) (by kernel_rfl) rfl (by kernel_rfl)) ?_
  intro W base args ds gs before hval0 hW hcnd hbulk _
  have hval : ∀ (j : Nat) t v, Try.f8.params[j]? = some t → args[j]? = some v → Value.okWide Try.prog W .any base t v := hval0
  have hW' := hW
  obtain ⟨p, q, hA0, hV, rfl, hfz, hnd⟩ := hW
  have hA : DataW.TrodAll enc Try.prog W 0 (fun _ => true) true Try.f8.params.toList args.toList ds p := hA0
  rw [Try.params8] at hA hval
  obtain ⟨v0, vs0, d0, ds0, p0, q0, hargs, rfl, rfl, h0, r0⟩ := trodAll_cons hA
  obtain ⟨rfl, rfl, rfl⟩ := trodAll_nil r0
  obtain rfl : args = #[v0] := by cases args; simp_all
  obtain ⟨rfl, rfl⟩ := trodVars_none hV
  have hbk : Rows.uptoBulkAll ([d0] ++ []) ≤ 1048576 := of_decide_eq_true hbulk
  have hz0 : Rows.uptoBulk d0 ≤ 1048576 := Nat.le_trans (bulk_part (by simp)) hbk
  have k0 := h0
  have lt0 : ∀ x ∈ p0, x.block < W.heap.size := by obtain ⟨m, hm⟩ := k0; exact DataW.trod_lt m _ _ _ hm
  obtain ⟨A0, N0, c10, c20, n0, rfl, la0, lb0, lc0, ld0, hS0, hw0⟩ := net_open (hval 0 26 v0 rfl rfl) h0 hz0
  clear hA0 hval0
  refine (walkPriceCounts W A0 N0 c10 c20 n0 la0 lb0 lc0 ld0 hS0 hw0).mono fun e W' ⟨he, bel⟩ => ?_
  subst he
  exact ⟨_, rfl, _, _, _, [], _, [], hW', trodAll_mk1 (shut_bool Try.underlying4 _), (trodAll_cons_mk (Below.trod laidOut (by kernel_rfl) (of_decide_eq_true (by kernel_rfl)) k0 bel lt0) trodAll_mk0), rfl, bel.frame _, fun h => by cases h⟩

theorem over : Rows.priceCountsUptoRow.holds Try.pinned (Rows.OpenSpec.upto Rows.priceCountsSpec) :=
  OpenClaim.holds_of_cond 8 Try.f8 rfl rfl rfl rfl rfl rfl rfl ⟨rfl, rfl, rfl, rfl, rfl⟩ rfl rfl rfl rfl rfl (by kernel_rfl) Try.func8 (by kernel_rfl)
    (of_decide_eq_true (by kernel_rfl)) (by unfold Func.isWrapper; first | (rw [if_pos (by decide +kernel)]; kernel_rfl) | (rw [if_neg (by decide +kernel)]; exact ⟨rfl, rfl⟩))
    (fun os started H enc _ Fi => lifted os started H enc Fi)
end Go.Proofs.Ytjkhpbngpceenaa.priceCounts
namespace Go.Proofs.Ytjkhpbngpceenaa
theorem priceCounts_holds : Rows.PriceCountsUptoSaid := priceCounts.over
#print axioms priceCounts_holds
end Go.Proofs.Ytjkhpbngpceenaa
