/- The statement Rows.CheckRunsUptoSaid is proved: for every input the law 'athanorlaw18.CheckRuns' returns true, and each argument reads afterwards as it read before. Conditions: those of the row, no others. -/
import Derived.Below
import Derived.ChangeOld
import Derived.JoinedCond
import Derived.OpenShut
import Derived.ProofKit
import Derived.ShutString
import Derived.WalkKit
import Derived.Test.YtmmgdgfpemkdnaaGreatRows
import Derived.Test.YtmmgdgfpemkdnaaGreatZ10
set_option linter.unusedVariables false
/- Layer 18's statement CheckRuns: the walk. Printed by gen/lruns.py. -/
namespace Go.Proofs.YtmmgdgfpemkdnaaGreat
open Go.RowKit
set_option maxHeartbeats 64000000 in
set_option maxRecDepth 100000 in
theorem walkCheckRuns (w : World) (A N Q : Option Addr) (c d q : Nat) (n : NetD) (ps : List (Int × Int)) (cap : Int) (la : n.inn.length ≤ c) (lb : c ≤ 9223372036854775807) (lc : n.nodes.length ≤ d) (ld : d ≤ 9223372036854775807) (hR : NetR w A N n) (hf : n.fits)
    (le : ps.length ≤ q) (lf : q ≤ 9223372036854775807) (lg : ps.length ≤ 1048576) (hQ : Pairs w Q ps) (hpw : ∀ z ∈ ps, (-9223372036854775808 ≤ z.1 ∧ z.1 ≤ 9223372036854775807) ∧ -9223372036854775808 ≤ z.2 ∧ z.2 ≤ 9223372036854775807) (hcap : -9223372036854775808 ≤ cap ∧ cap ≤ 9223372036854775807) :
    Calls Tryz.prog 3 #[.agg #[.slice A n.inn.length c, .slice N n.nodes.length d, .slice Q ps.length q, .int .i64 cap]] w fun e w' => e = .returned (.bool true) ∧ Below w.heap.size w w' := by
  have hok := hf.ok
  have hk := Blk.new w 30 #[.slice A n.inn.length c, .slice N n.nodes.length d, .slice Q ps.length q, .int .i64 cap]
  have hl0 : Later w (w.alloc (.cells #[.slice A n.inn.length c, .slice N n.nodes.length d, .slice Q ps.length q, .int .i64 cap] 30)) := (Later.refl w).alloc _
  have Hok := Lib.hid hok
  have HR := Lib.hid hR
  have Hk := Lib.hid hk
  have Hl0 := Lib.hid hl0
  have Hf := Lib.hid hf
  have HQ := Lib.hid hQ
  have Hpw := Lib.hid hpw
  clear hok hR hk hl0 hf hQ hpw
  go_enter Tryz.func3, Tryz.ntmps3
  go_wp2_with fail
  generalize w.alloc (.cells #[.slice A n.inn.length c, .slice N n.nodes.length d, .slice Q ps.length q, .int .i64 cap] 30) = w1 at *
  generalize hg1 : w.heap.size = g1 at *
  have HG1 := Lib.hid hg1
  clear hg1
  refine (small_18 A N Q c d q ps.length cap n w1 Hok.out (HR.out.below Hl0.out (Nat.le_refl _)) lg).mono ?_
  rintro e w2 ⟨b, rfl, hsm, hb2⟩
  have hl2 := Hl0.out.call hb2
  have hk2 := (show Later w1 w2 from hb2).blk Hk.out
  clear hb2 Hk Hl0
  have aw : ∀ W, Later w W → Calls Tryz.prog 6 #[] W fun e w' => e = .returned (.bool true) ∧ Later w w' := fun W h => (awake18 W).mono fun e w' hq => ⟨hq.1, h.call hq.2⟩
  cases b
  · have Hk2 := Lib.hid hk2
    have Hl2 := Lib.hid hl2
    have Haw := Lib.hid aw
    clear hk2 hl2 aw
    clear hsm
    go_wp2_with fail
    refine (Haw.out _ Hl2.out).mono ?_
    rintro e w3 ⟨rfl, hb3⟩
    go_wp2_with fail
    go_ret
    exact ⟨rfl, hb3⟩
  have hsm := hsm rfl
  have x0 := hk2.cell 0
  have x1 := hk2.cell 1
  have x2 := hk2.cell 2
  have x3 := hk2.cell 3
  simp at x0 x1 x2 x3
  have Hk2 := Lib.hid hk2
  have Hl2 := Lib.hid hl2
  have Haw := Lib.hid aw
  clear hk2 hl2 aw
  go_wp2_with fail
  refine (check_run A N Q c d q n ps cap w2 Hok.out (HR.out.below Hl2.out (Nat.le_refl _)) lc (by omega) hcap lg (HQ.out.below Hl2.out (Nat.le_refl _))).mono ?_
  rintro e w3 ⟨rfl, h3⟩
  obtain ⟨⟨⟨p1, p2, p3, p4⟩, er⟩, hr⟩ : ∃ r, Ck.run n ps cap = r := ⟨_, rfl⟩
  rw [hr, show statsV ((p1, p2, p3, p4), er) = .tuple #[.agg #[.int .i64 p1, .int .i64 p2, .int .i64 p3, .int .i64 p4], .int .i64 er] from rfl]
  have hk3 := h3.blk Hk2.out
  have hl3 := Hl2.out.trans h3
  have hb4 := Blk.new w3 34 #[.int .i64 p1, .int .i64 p2, .int .i64 p3, .int .i64 p4]
  have h34 : Later w3 (w3.alloc (.cells #[.int .i64 p1, .int .i64 p2, .int .i64 p3, .int .i64 p4] 34)) := (Later.refl w3).alloc _
  have hk4 := h34.blk hk3
  have hl4 := hl3.trans h34
  clear hk3 h34 h3 hl3 x0 x1 x2 x3 Hk2 Hl2
  have Hb4 := Lib.hid hb4
  have Hk4 := Lib.hid hk4
  have Hl4 := Lib.hid hl4
  have Hr := Lib.hid hr
  clear hb4 hk4 hl4 hr
  go_upto_region 4 with fail
  generalize w3.alloc (.cells #[.int .i64 p1, .int .i64 p2, .int .i64 p3, .int .i64 p4] 34) = w4 at *
  generalize w3.heap.size = g5 at *
  obtain ⟨⟨x0, x1, x2, x3⟩, -⟩ := four_cells Hk4.out
  go_wp2_with fail
  refine (ref_18 A N c d n w4 Hok.out (HR.out.below Hl4.out (Nat.le_refl _))).mono ?_
  rintro e w5 ⟨N1, d1, rfl, hR1, hd1, hd2, hb5⟩
  clear x0 x1 x2 x3
  have HL45 := Lib.hid (show Later w4 w5 from hb5)
  have HR1 := Lib.hid hR1
  clear hb5 hR1
  go_wp2_with fail
  refine (ref11_check A N1 c d1 n w5 Hok.out HR1.out hd1 la lb).mono ?_
  rintro e w6 ⟨hb6, ⟨hch, gx, rfl, -, -⟩ | ⟨hch, rfl⟩⟩
  rotate_left
  · have HB6 := Lib.hid ((HL45.out.trans (show Later w5 w6 from hb6)).blk Hb4.out)
    have HL6 := Lib.hid (Hl4.out.trans (HL45.out.trans (show Later w5 w6 from hb6)))
    have hre := Hr.out.symm.trans (show Ck.run n ps cap = ((0, 0, 0, 0), Nt.check n) by unfold Ck.run; rw [if_pos hch])
    simp only [Prod.mk.injEq] at hre
    obtain ⟨⟨rfl, rfl, rfl, rfl⟩, rfl⟩ := hre
    have heqs := run_eql_stats 0 0 0 0
    have hne : (Nt.check n != 0) = true := by simp [hch]
    clear hch hb6
    clear Hr
    generalize Nt.check n = ck at *
    obtain ⟨⟨u0, u1, u2, u3⟩, -⟩ := four_cells HB6.out
    go_wp2_with fail
    refine (Haw.out _ HL6.out).mono ?_
    rintro e wz ⟨rfl, hbz⟩
    go_wp2_with fail
    go_ret
    exact ⟨rfl, hbz⟩
  have HK6 := Lib.hid ((HL45.out.trans (show Later w5 w6 from hb6)).blk Hk4.out)
  have HB6 := Lib.hid ((HL45.out.trans (show Later w5 w6 from hb6)).blk Hb4.out)
  have HL6 := Lib.hid (Hl4.out.trans (HL45.out.trans (show Later w5 w6 from hb6)))
  clear hb6 Hk4 Hb4 Hl4 HL45 HR1
  have Hch := Lib.hid hch
  clear hch
  obtain ⟨⟨x0, x1, x2, x3⟩, -⟩ := four_cells HK6.out
  have hsm4 : ps.length ≤ 400 := by omega
  have hsm3 : 3 * n.nodes.length + ps.length ≤ 400 := by omega
  go_upto_region 8 with fail
  clear x0 x1 x2 x3
  go_loopw [9, 58] (fun _ i wx => ∃ k : Nat, k ≤ ps.length ∧ i = .int .i64 (k : Int) ∧ (ps.take k).all Cd.right = true ∧ Later w6 wx) (fun _ i _ => ps.length - (intOf i).toNat)
  case atStart => exact ⟨0, Nat.zero_le _, rfl, rfl, Later.refl _⟩
  case round =>
    obtain ⟨k, hk, rfl, hal, hlw⟩ := hrel
    by_cases hlt : k < ps.length
    · obtain ⟨b3, o3, rfl, -, c0, c1⟩ := (HQ.out.below (HL6.out.trans hlw) (Nat.le_refl _)) k hlt
      have HT := Lib.hid (List.take_succ_eq_append_getElem hlt)
      have HNA := Lib.hid (fun h => @Cd.not_all Cd.right ps k hlt h)
      generalize ps[k] = pk at *
      obtain ⟨kd, id⟩ := pk
      simp only at c0 c1
      have HLa := Lib.hid ((hlw.alloc (.cells #[.int .i64 kd, .int .i64 id] 46)))
      have k0 : (k : Int) < (ps.length : Int) := by omega
      have Hlw := Lib.hid hlw
      have Hal := Lib.hid hal
      clear hlw hal
      go_wp2_with fail
      generalize wr.alloc (.cells #[.int .i64 kd, .int .i64 id] 46) = wa at *
      refine (ref17_right kd id wa).mono ?_
      rintro e wb ⟨rfl, rfl⟩
      cases hrt : Cd.right (kd, id)
      · have HB7 := Lib.hid (HLa.out.blk HB6.out)
        have HL7 := Lib.hid (HL6.out.trans HLa.out)
        have hre := Hr.out.symm.trans (Rf.run_form (cap := cap) Hch.out hsm4 (HNA.out hrt))
        simp only [Prod.mk.injEq] at hre
        obtain ⟨⟨rfl, rfl, rfl, rfl⟩, rfl⟩ := hre
        have heqs := run_eql_stats 0 0 0 0
        clear hrt Hr c0 c1
        obtain ⟨⟨u0, u1, u2, u3⟩, -⟩ := four_cells HB7.out
        go_wp2_with fail
        refine (Haw.out _ HL7.out).mono ?_
        rintro e wz ⟨rfl, hbz⟩
        go_wp2_with fail
        go_ret
        exact ⟨rfl, hbz⟩
      · have HA := Lib.hid (show (ps.take (k + 1)).all Cd.right = true by rw [HT.out, List.all_append, Hal.out]; simp [hrt])
        clear hrt c0 c1
        go_wp2_with fail
        go_roundw
        case rel => exact ⟨k + 1, by omega, by go_num, HA.out, HLa.out⟩
        case measure => simp [intOf]; omega
    · obtain rfl : k = ps.length := by omega
      rw [List.take_length] at hal
      have HAll := Lib.hid hal
      have HB7 := Lib.hid (hlw.blk HB6.out)
      have HK7 := Lib.hid (hlw.blk HK6.out)
      have HL7 := Lib.hid (HL6.out.trans hlw)
      have HRW := Lib.hid (HR.out.below HL7.out (Nat.le_refl _))
      clear hal hlw HB6 HK6 HL6
      go_upto_region 13 with fail
      obtain ⟨⟨x0, x1, x2, x3⟩, -⟩ := four_cells HK7.out
      go_cut [10] (fun p wx => ∃ (g : Nat) (Wd Or : Option Addr) (cw co d' : Nat) (N' : Option Addr) (V : RfV), p = .pointer (some ⟨g, 0, none⟩) ∧ XB n (Ck.base n cap) g ⟨A, N', Wd, Or, c, d', cw, co⟩ V Rf.start wr wx ∧ (Nt.words n).length ≤ cw ∧ cw ≤ 9223372036854775807)
      case first =>
        go_region_held3 (fun X => X.cell? ⟨g1, 0, none⟩ = some (.slice A n.inn.length c) ∧ X.cell? ⟨g1, 1, none⟩ = some (.slice N n.nodes.length d) ∧ X.cell? ⟨g1, 3, none⟩ = some (.int .i64 cap)) (first | (with_reducible exact ⟨x0, x1, x3⟩) | exact ⟨Later.cell (show Later wr _ by repeat (first | (with_reducible exact Later.refl _) | (with_reducible apply Later.drew) | (with_reducible apply Later.alloc) | (with_reducible refine Later.call ?_ (by assumption)) | (with_reducible refine Later.set ?_ (by first | exact Nat.le_refl _ | (simp; done) | (simp; omega) | omega) _))) x0, Later.cell (show Later wr _ by repeat (first | (with_reducible exact Later.refl _) | (with_reducible apply Later.drew) | (with_reducible apply Later.alloc) | (with_reducible refine Later.call ?_ (by assumption)) | (with_reducible refine Later.set ?_ (by first | exact Nat.le_refl _ | (simp; done) | (simp; omega) | omega) _))) x1, Later.cell (show Later wr _ by repeat (first | (with_reducible exact Later.refl _) | (with_reducible apply Later.drew) | (with_reducible apply Later.alloc) | (with_reducible refine Later.call ?_ (by assumption)) | (with_reducible refine Later.set ?_ (by first | exact Nat.le_refl _ | (simp; done) | (simp; omega) | omega) _))) x3⟩)
          (first
          | (go_at_call 9; refine (ref_18s A N c d n wr _ Hok.out (show Later wr _ by repeat (first | (with_reducible exact Later.refl _) | (with_reducible apply Later.drew) | (with_reducible apply Later.alloc))) HRW.out).mono ?_; rintro e w7 ⟨N', d', C, rfl, hd1, hd2, hb7, hrow⟩; have hl7 : Later wr w7 := (by repeat (first | (with_reducible exact Later.refl _) | (with_reducible apply Later.drew) | (with_reducible apply Later.alloc) | (with_reducible refine Later.call ?_ (by assumption)))); have HN7 := Lib.hid (hrow.net hl7 HRW.out); have hsz7 := hl7.size)
          | (go_at_call 11; refine (ref18_new A N' c d' n cap _ Hok.out (HN7.out.below (show Later w7 _ by repeat (first | (with_reducible exact Later.refl _) | (with_reducible apply Later.drew) | (with_reducible apply Later.alloc))) (Nat.le_refl _)) hd1 la lb Hch.out).mono ?_; rintro e w8 ⟨Wd, Or, cw, co, V, rfl, hfx, hat, hl8, hoff, hcw1, hcw2⟩; rw [show RfF.cells ⟨A, N', Wd, Or, c, d', cw, co⟩ V n (Ck.base n cap) Rf.start = #[.slice A n.inn.length c, .slice N' n.nodes.length d', .slice Wd (Ck.base n cap).words.length cw, .slice Or (Ck.base n cap).order.length co, .int .i64 (Ck.base n cap).loss, .int .i64 (Ck.base n cap).cap, .slice V.Th Rf.start.there.length V.ct, .slice V.Sa Rf.start.saved.length V.cs, .slice V.Gr Rf.start.grads.length V.cg, .int .i64 Rf.start.em, .int .i64 Rf.start.sd, .int .i64 Rf.start.done, .int .i64 Rf.start.peak] from rfl]; have hb8 : Below w7.heap.size w7 w8 := (show Later w7 w8 by repeat (first | (with_reducible exact Later.refl _) | (with_reducible apply Later.drew) | (with_reducible apply Later.alloc) | (with_reducible refine Later.trans ?_ hl8)));
              first
              | (have hk8 := Later.blk (show Later (w7.alloc (.cells #[.slice none 0 0, .slice none 0 0, .slice none 0 0, .slice none 0 0, .int .i64 0, .int .i64 0, .slice none 0 0, .slice none 0 0, .slice none 0 0, .int .i64 0, .int .i64 0, .int .i64 0, .int .i64 0] 49)) w8 from hl8) (Blk.new w7 49 zeros13); obtain ⟨z0, z1, z2, z3, z4, z5, z6, z7, z8, z9, z10, z11, z12⟩ := cells_zero13 hk8; obtain ⟨f0, f1, f2, f3, f4, f5, f6, f7, f8, f9, f10, f11, f12⟩ := frozen13 hk8)
              | (have hk8 := Later.blk (Later.trans (show Later (wr.alloc (.cells #[.slice none 0 0, .slice none 0 0, .slice none 0 0, .slice none 0 0, .int .i64 0, .int .i64 0, .slice none 0 0, .slice none 0 0, .slice none 0 0, .int .i64 0, .int .i64 0, .int .i64 0, .int .i64 0] 49)).drew w7 from hb7) (show Later w7 w8 from hb8)) (Blk.new wr 49 zeros13).drew; obtain ⟨z0, z1, z2, z3, z4, z5, z6, z7, z8, z9, z10, z11, z12⟩ := cells_zero13 hk8; obtain ⟨f0, f1, f2, f3, f4, f5, f6, f7, f8, f9, f10, f11, f12⟩ := frozen13 hk8)
              | skip))
        · go_wp2_with fail
          go_meet
          have hl78 := hl7.trans hl8
          exact ⟨_, Wd, Or, cw, co, d', N', V, rfl, XB.start (hl78.alloc _) hl78.size (hrow.later (hl8.alloc _)) (.inr (Nat.le_trans hrow.cle hl8.size)) HRW.out ((RfRow.old hfx.words (Nat.le_refl _)).later ((Later.refl w8).alloc _)) ((RfRow.old hfx.ord (Nat.le_refl _)).later ((Later.refl w8).alloc _)) (hat.later ((Later.refl w8).alloc _)) (RfV.Off.old hat (Nat.le_refl _)) (Fr.refl _ _) (Blk.new w8 49 _), hcw1, hcw2⟩
        · go_wp2_with fail
          go_meet
          have hl78 := hl7.trans (show Later w7 w8 from hb8)
          exact ⟨_, Wd, Or, cw, co, d', N', V, rfl, XB.start hl78 hl7.size (hrow.later hb8) (.inr hrow.cle) HRW.out (not_zero13 hk8 hfx.words (fun z hz => (Nt.words_bd Hch.out z hz).1)) (not_zero13 hk8 hfx.ord (fun z hz => (Kn.order_rng _ _ z hz).1)) hat (hoff _ (by simp)) (fr13 (Fr.refl _ _) _ _ _ _ _ _ _ _ _ _ _ _ _) (start_box hk8), hcw1, hcw2⟩
        · go_wp2_with fail
          go_meet
          have hl78 := hl7.trans (show Later w7 w8 from hb8)
          have hs3 := hb7.size
          have hs3 : wr.heap.size + 1 ≤ w7.heap.size := by simpa using hs3
          exact ⟨_, Wd, Or, cw, co, d', N', V, rfl, XB.start hl78 (Nat.le_refl _) (hrow.later hb8) (.inl (by simp; omega)) HRW.out (not_zero13 hk8 hfx.words (fun z hz => (Nt.words_bd Hch.out z hz).1)) (not_zero13 hk8 hfx.ord (fun z hz => (Kn.order_rng _ _ z hz).1)) hat (hoff _ (by omega)) (fr13 (Fr.refl _ _) _ _ _ _ _ _ _ _ _ _ _ _ _) (start_box hk8), hcw1, hcw2⟩
      case rest =>
        obtain ⟨g, Wd, Or, cw, co, d', N', V, rfl, hX, hcw1, hcw2⟩ := hcut
        clear x0 x1 x2 x3
        obtain ⟨F, hX, hcw1, hcw2⟩ : ∃ F : RfF, XB n (Ck.base n cap) g F V Rf.start wr wc ∧ (Nt.words n).length ≤ F.cw ∧ F.cw ≤ 9223372036854775807 := ⟨_, hX, hcw1, hcw2⟩
        have HX := Lib.hid hX
        have HLc := Lib.hid (HL7.out.trans hX.later)
        have HKc := Lib.hid (hX.later.blk HK7.out)
        clear hX HRW
        have HRC := Lib.hid (Rf.base_ok Hch.out Hok.out cap)
        have HAk := Lib.hid (fun k => (show (ps.take k).all Cd.right = true by
          have h := HAll.out
          rw [List.all_eq_true] at h ⊢
          exact fun z hz => h z (List.mem_of_mem_take hz)))
        have HWl := Lib.hid (Nt.words_len Hch.out)
        have HCl := Lib.hid (show (Nt.costs n).length = n.nodes.length + 1 by rw [Nt.costs, List.length_cons, Nt.costsTo_len])
        have hnl := HRC.out.nl
        obtain ⟨⟨x0, x1, x2, x3⟩, -⟩ := four_cells HKc.out
        go_wp2_with fail
        refine (ref_18 A N c d n wc Hok.out (HR.out.below HLc.out (Nat.le_refl _))).mono ?_
        rintro e w9 ⟨N2, d2, rfl, hR2, hd21, hd22, hb9⟩
        have HL9 := Lib.hid (show Later wc w9 from hb9)
        have HR2 := Lib.hid hR2
        clear x0 x1 x2 x3 hb9 hR2
        go_wp2_with fail
        refine (ref13_costO A N2 c d2 n w9 Hok.out HR2.out hd21 la lb Hch.out).mono ?_
        rintro e w10 ⟨Cs, cc, rfl, hCI, hC1, hC2, hCB, hb10⟩
        have HX10 := Lib.hid (HX.out.to_later (HL9.out.trans (show Later w9 w10 from hb10)))
        have HCI := Lib.hid hCI
        have HCo := Lib.hid (fun a (e : Cs = some a) => (show ¬ (a.block = g) from fun q => by
          have h1 := hCB a e
          have h2 := (HX.out.to_later HL9.out).box.lt
          omega))
        have HKd := Lib.hid ((HL9.out.trans (show Later w9 w10 from hb10)).blk HKc.out)
        clear hCI hCB hb10 HL9 HKc HR2 HLc HX
        obtain ⟨⟨x0, x1, x2, x3⟩, -⟩ := four_cells HKd.out
        go_upto_region 17 with fail
        clear x0 x1 x2 x3
        obtain ⟨w13, rfl⟩ : ∃ v, v = wr := ⟨wr, rfl⟩
        go_loopw [12, 13, 15, 16, 92] (fun co ag _ _ i wx => ∃ (k : Nat) (x : RfS) (V : RfV), k ≤ ps.length ∧ i = .int .i64 (k : Int) ∧ co = .int .i64 (Safe.sum (Cd.costList (Nt.costs n) (ps.take k))) ∧ ag = .int .i64 (Cd.count 2 (ps.take k)) ∧ Rf.go (Ck.base n cap) Rf.start (ps.take k) = (x, 0) ∧ XB n (Ck.base n cap) g F V x w13 wx ∧ Fr (fun b => b = g) w10 wx) (fun _ _ _ _ i _ => ps.length - (intOf i).toNat)
        case atStart => exact ⟨0, _, V, Nat.zero_le _, rfl, rfl, rfl, rfl, HX10.out, Fr.refl _ _⟩
        case round =>
          clear HX10
          obtain ⟨k, x, V, hk, rfl, rfl, rfl, hgo, hXk, hfr⟩ := hrel
          have hrl : PRel (Ck.base n cap) (Ck.go (Ck.base n cap) (Ck.start (n.nodes.length + 1)) (ps.take k)).1 x := by have := Rf.rel_at Hch.out Hok.out (cap := cap) (HAk.out k); rw [hgo] at this; exact this
          have hdn : 0 ≤ x.done ∧ x.done ≤ 1000 := by have h1 := hrl.done; have h2 := hrl.dl; have h3 := HRC.out.ol; omega
          have HGd := Lib.hid hrl.good
          clear hrl
          have hcp := Rf.cost_part Hch.out (ps.take k)
          have hcq := Cd.count_bd 2 (ps.take k)
          have hkl : ((ps.take k).length : Int) * 4294967296 ≤ 400 * 4294967296 := Int.mul_le_mul_of_nonneg_right (by simp; omega) (by omega)
          have hkl2 : (ps.take k).length ≤ 400 := by simp; omega
          by_cases hlt : k < ps.length
          · obtain ⟨b3, o3, rfl, -, c0, c1⟩ := (HQ.out.below (HL7.out.trans hXk.later) (Nat.le_refl _)) k hlt
            have hgs := Rf.go_step hlt hgo
            have hrt := Cd.all_of HAll.out k hlt
            have hct := Cd.count_take_succ 2 ps k hlt
            have hadd := fun h => (congrArg Safe.sum (Cd.costList_take_add (Nt.costs n) ps k hlt h)).trans (show _ = Safe.sum (Cd.costList (Nt.costs n) (ps.take k)) + (Nt.costs n).getD ps[k].2.toNat 0 by rw [Safe.sum_append]; simp [Safe.sum])
            have hskip := fun h => congrArg Safe.sum (Cd.costList_take_skip (Nt.costs n) ps k hlt h)
            generalize ps[k] = pk at *
            obtain ⟨kd, id⟩ := pk
            simp only at c0 c1 hgs hct hadd
            generalize Safe.sum (Cd.costList (Nt.costs n) (ps.take k)) = sm at *
            generalize Cd.count 2 (ps.take k) = ct at *
            have HXa := Lib.hid (hXk.to_later ((Later.refl wr).alloc (.cells #[.int .i64 kd, .int .i64 id] 46)))
            have HFa := Lib.hid (hfr.then_below ((Later.refl wr).alloc (.cells #[.int .i64 kd, .int .i64 id] 46)) hfr.size)
            have HBi := Lib.hid (Blk.new wr 46 #[.int .i64 kd, .int .i64 id])
            have hggi := hXk.box.lt
            have hid0 := (Rf.right_k hrt).1
            have hkd := (Rf.right_k hrt).2
            have HRT := Lib.hid hrt
            have HDOK := Lib.hid (fun h : (Rf.do_ (Ck.base n cap) x kd id).2 = 0 => (Rf.do_ok h).1)
            have HGS := Lib.hid hgs
            have HStop := Lib.hid (@Rf.go_stop (Ck.base n cap) Rf.start ps (k + 1))
            have k0 : (k : Int) < (ps.length : Int) := by omega
            have Hct := Lib.hid hct
            have Hadd := Lib.hid hadd
            have Hskip := Lib.hid hskip
            clear hct hadd hskip
            clear hXk hfr hgs hgo hrt
            go_upto_region 20 with fail
            clear c0 c1
            generalize wr.alloc (.cells #[.int .i64 kd, .int .i64 id] 46) = wa at *
            generalize wr.heap.size = gi at *
            obtain ⟨y0, y1, y2, y3, y4, y5, y6, y7, y8, y9, y10, y11, y12⟩ := RfF.cells13 HXa.out.box
            have i0 := HBi.out.cell 0
            have i1 := HBi.out.cell 1
            simp at i0 i1
            go_wp2_with fail
            refine (ref18_do F V n (Ck.base n cap) x wa HRC.out HGd.out HXa.out.fix HXa.out.at_ hdn kd id HRT.out).mono ?_
            rintro e wb ⟨V', rfl, hA, hlb, hoff⟩
            clear y0 y1 y2 y3 y4 y5 y6 y7 y8 y9 y10 y11 y12 i0 i1
            generalize Rf.do_ (Ck.base n cap) x kd id = rr at *
            obtain ⟨x', e'⟩ := rr
            simp only at hA hoff ⊢
            rw [show F.cells V' n (Ck.base n cap) x' = #[.slice F.A n.inn.length F.c, .slice F.N n.nodes.length F.d, .slice F.Wd (Ck.base n cap).words.length F.cw, .slice F.Or (Ck.base n cap).order.length F.co, .int .i64 (Ck.base n cap).loss, .int .i64 (Ck.base n cap).cap, .slice V'.Th x'.there.length V'.ct, .slice V'.Sa x'.saved.length V'.cs, .slice V'.Gr x'.grads.length V'.cg, .int .i64 x'.em, .int .i64 x'.sd, .int .i64 x'.done, .int .i64 x'.peak] from rfl]
            have HXb := Lib.hid (HXa.out.to_later hlb)
            have hX2 := HXb.out.put hA (hoff g HXa.out.box.lt HXa.out.off)
            have HFb := Lib.hid (fr13 (g := g) (HFa.out.then_below hlb HFa.out.size) (.slice F.A n.inn.length F.c) (.slice F.N n.nodes.length F.d) (.slice F.Wd (Ck.base n cap).words.length F.cw) (.slice F.Or (Ck.base n cap).order.length F.co) (.int .i64 (Ck.base n cap).loss) (.int .i64 (Ck.base n cap).cap) (.slice V'.Th x'.there.length V'.ct) (.slice V'.Sa x'.saved.length V'.cs) (.slice V'.Gr x'.grads.length V'.cg) (.int .i64 x'.em) (.int .i64 x'.sd) (.int .i64 x'.done) (.int .i64 x'.peak))
            have HBd := Lib.hid ((fr13 (g := g) ((Fr.refl _ wa).then_below hlb (Nat.le_refl _)) (.slice F.A n.inn.length F.c) (.slice F.N n.nodes.length F.d) (.slice F.Wd (Ck.base n cap).words.length F.cw) (.slice F.Or (Ck.base n cap).order.length F.co) (.int .i64 (Ck.base n cap).loss) (.int .i64 (Ck.base n cap).cap) (.slice V'.Th x'.there.length V'.ct) (.slice V'.Sa x'.saved.length V'.cs) (.slice V'.Gr x'.grads.length V'.cg) (.int .i64 x'.em) (.int .i64 x'.sd) (.int .i64 x'.done) (.int .i64 x'.peak)).blk HBi.out (by omega))
            obtain ⟨y0, y1, y2, y3, y4, y5, y6, y7, y8, y9, y10, y11, y12⟩ := RfF.cells13 HXb.out.box
            obtain ⟨f0, f1, f2, f3, f4, f5, f6, f7, f8, f9, f10, f11, f12⟩ := frozen13 HXb.out.box
            have HX2 := Lib.hid hX2
            clear hX2 hA hoff hlb HXa HBi HFa HGd
            go_upto_region 21 with fail
            clear y0 f0 y1 f1 y2 f2 y3 f3 y4 f4 y5 f5 y6 f6 y7 f7 y8 f8 y9 f9 y10 f10 y11 f11 y12 f12 HXb
            have HF2 := HFb
            clear HFb
            generalize (((((((((((((wb.setCell ⟨g, 0, none⟩ (.slice F.A n.inn.length F.c)).setCell ⟨g, 1, none⟩ (.slice F.N n.nodes.length F.d)).setCell ⟨g, 2, none⟩ (.slice F.Wd (Ck.base n cap).words.length F.cw)).setCell ⟨g, 3, none⟩ (.slice F.Or (Ck.base n cap).order.length F.co)).setCell ⟨g, 4, none⟩ (.int .i64 (Ck.base n cap).loss)).setCell ⟨g, 5, none⟩ (.int .i64 (Ck.base n cap).cap)).setCell ⟨g, 6, none⟩ (.slice V'.Th x'.there.length V'.ct)).setCell ⟨g, 7, none⟩ (.slice V'.Sa x'.saved.length V'.cs)).setCell ⟨g, 8, none⟩ (.slice V'.Gr x'.grads.length V'.cg)).setCell ⟨g, 9, none⟩ (.int .i64 x'.em)).setCell ⟨g, 10, none⟩ (.int .i64 x'.sd)).setCell ⟨g, 11, none⟩ (.int .i64 x'.done)).setCell ⟨g, 12, none⟩ (.int .i64 x'.peak)) = wd at *
            by_cases hez : e' = 0
            rotate_left
            · have HGall := Lib.hid ((HStop.out (by rw [HGS.out]; exact hez)).trans HGS.out)
              have hne : (e' != 0) = true := by simp [hez]
              have hre := Hr.out.symm.trans (Rf.run_bad Hch.out Hok.out hsm4 HAll.out (by rw [HGall.out]; exact hez) |>.trans (by rw [HGall.out]))
              simp only [Prod.mk.injEq] at hre
              obtain ⟨⟨rfl, rfl, rfl, rfl⟩, rfl⟩ := hre
              have heqs := run_eql_stats 0 0 0 0
              have HB8 := Lib.hid (HX2.out.later.blk HB7.out)
              have HL8 := Lib.hid (HL7.out.trans HX2.out.later)
              clear hez Hr HGall HStop HGS
              obtain ⟨⟨u0, u1, u2, u3⟩, -⟩ := four_cells HB8.out
              go_wp2_with fail
              refine (Haw.out _ HL8.out).mono ?_
              rintro e wz ⟨rfl, hbz⟩
              go_wp2_with fail
              go_ret
              exact ⟨rfl, hbz⟩
            subst hez
            have HG1 := HGS
            have hidl : id < ((Nt.words n).length : Int) := HDOK.out rfl
            have hwl := HWl.out
            have hcl := HCl.out
            clear HDOK HStop HGS
            have i0 := HBd.out.cell 0
            have i1 := HBd.out.cell 1
            simp at i0 i1
            rcases hkd with rfl | rfl | rfl | rfl | rfl | rfl
            · obtain ⟨idn, rfl⟩ := Int.eq_ofNat_of_zero_le hid0
              have hidn : idn < (Nt.costs n).length := by omega
              obtain ⟨b4, o4, hCe, -, hc4⟩ := (HF2.out.ints HCI.out HCo.out) idn hidn
              subst hCe
              change wd.cell? ⟨b4, o4 + idn, none⟩ = some (.int .i64 ((Nt.costs n).getD idn 0)) at hc4
              have hcz := Rf.costs_le Hch.out idn
              have HC1 := Lib.hid (show Safe.sum (Cd.costList (Nt.costs n) (ps.take (k + 1))) = sm + (Nt.costs n).getD idn 0 from Hadd.out rfl)
              generalize (Nt.costs n).getD idn 0 = cz at *
              have hwr : IntKind.i64.wrap (sm + cz) = sm + cz := IntWalk.i64_in _ (by omega)
              have k4 : (0 : Int) ≤ (idn : Int) := by omega
              have k5 : (idn : Int) < ((Nt.costs n).length : Int) := by omega
              have HC2 := Lib.hid (show Cd.count 2 (ps.take (k + 1)) = ct by rw [Hct.out]; simp)
              go_wp2_with fail
              go_roundw
              case rel => exact ⟨k + 1, x', V', by omega, by go_num, by rw [HC1.out], by rw [HC2.out], HG1.out, HX2.out, HF2.out⟩
              case measure => simp [intOf]; omega
            · obtain ⟨idn, rfl⟩ := Int.eq_ofNat_of_zero_le hid0
              have hidn : idn < (Nt.costs n).length := by omega
              obtain ⟨b4, o4, hCe, -, hc4⟩ := (HF2.out.ints HCI.out HCo.out) idn hidn
              subst hCe
              change wd.cell? ⟨b4, o4 + idn, none⟩ = some (.int .i64 ((Nt.costs n).getD idn 0)) at hc4
              have hcz := Rf.costs_le Hch.out idn
              have HC1 := Lib.hid (show Safe.sum (Cd.costList (Nt.costs n) (ps.take (k + 1))) = sm + (Nt.costs n).getD idn 0 from Hadd.out rfl)
              generalize (Nt.costs n).getD idn 0 = cz at *
              have hwr : IntKind.i64.wrap (sm + cz) = sm + cz := IntWalk.i64_in _ (by omega)
              have k4 : (0 : Int) ≤ (idn : Int) := by omega
              have k5 : (idn : Int) < ((Nt.costs n).length : Int) := by omega
              have HC2 := Lib.hid (show Cd.count 2 (ps.take (k + 1)) = ct + 1 from Hct.out)
              have hwc : IntKind.i64.wrap (ct + 1) = ct + 1 := IntWalk.i64_in _ (by omega)
              go_wp2_with fail
              go_roundw
              case rel => exact ⟨k + 1, x', V', by omega, by go_num, by rw [HC1.out], by rw [HC2.out], HG1.out, HX2.out, HF2.out⟩
              case measure => simp [intOf]; omega
            · have HC1 := Lib.hid (show Safe.sum (Cd.costList (Nt.costs n) (ps.take (k + 1))) = sm from Hskip.out rfl)
              have HC2 := Lib.hid (show Cd.count 2 (ps.take (k + 1)) = ct by rw [Hct.out]; simp)
              go_wp2_with fail
              go_roundw
              case rel => exact ⟨k + 1, x', V', by omega, by go_num, by rw [HC1.out], by rw [HC2.out], HG1.out, HX2.out, HF2.out⟩
              case measure => simp [intOf]; omega
            · have HC1 := Lib.hid (show Safe.sum (Cd.costList (Nt.costs n) (ps.take (k + 1))) = sm from Hskip.out rfl)
              have HC2 := Lib.hid (show Cd.count 2 (ps.take (k + 1)) = ct by rw [Hct.out]; simp)
              go_wp2_with fail
              go_roundw
              case rel => exact ⟨k + 1, x', V', by omega, by go_num, by rw [HC1.out], by rw [HC2.out], HG1.out, HX2.out, HF2.out⟩
              case measure => simp [intOf]; omega
            · have HC1 := Lib.hid (show Safe.sum (Cd.costList (Nt.costs n) (ps.take (k + 1))) = sm from Hskip.out rfl)
              have HC2 := Lib.hid (show Cd.count 2 (ps.take (k + 1)) = ct by rw [Hct.out]; simp)
              go_wp2_with fail
              go_roundw
              case rel => exact ⟨k + 1, x', V', by omega, by go_num, by rw [HC1.out], by rw [HC2.out], HG1.out, HX2.out, HF2.out⟩
              case measure => simp [intOf]; omega
            · have HC1 := Lib.hid (show Safe.sum (Cd.costList (Nt.costs n) (ps.take (k + 1))) = sm from Hskip.out rfl)
              have HC2 := Lib.hid (show Cd.count 2 (ps.take (k + 1)) = ct by rw [Hct.out]; simp)
              go_wp2_with fail
              go_roundw
              case rel => exact ⟨k + 1, x', V', by omega, by go_num, by rw [HC1.out], by rw [HC2.out], HG1.out, HX2.out, HF2.out⟩
              case measure => simp [intOf]; omega
          · obtain rfl : k = ps.length := by omega
            clear hcp hcq hkl hkl2 hdn HGd hfr
            rw [List.take_length] at hgo ⊢
            have HRG := Lib.hid (Rf.run_good Hch.out Hok.out hsm3 HAll.out hgo)
            generalize Safe.sum (Cd.costList (Nt.costs n) ps) = sm at *
            generalize Cd.count 2 ps = ct at *
            have HLk := Lib.hid (HL7.out.trans hXk.later)
            have HBk := Lib.hid (hXk.later.blk HB7.out)
            obtain ⟨-, -, y2, y3, -, -, -, -, -, y9, -, y11, y12⟩ := RfF.cells13 hXk.box
            change _ = some (Value.slice F.Or (Nt.sorted n.nodes).length F.co) at y3
            change _ = some (Value.slice F.Wd (Nt.words n).length F.cw) at y2
            have hIw := hXk.fix.words
            change Ints .i64 wr F.Wd (Nt.words n) at hIw
            have hwl := HWl.out
            generalize (Nt.sorted n.nodes).length = ol at *
            clear hXk hgo
            by_cases hem : x.em = 0
            · have e1 : (x.em == 0) = true := by simp [hem]
              have hre := Hr.out.symm.trans (HRG.out.trans (if_pos (.inl hem)))
              simp only [Prod.mk.injEq] at hre
              obtain ⟨⟨rfl, rfl, rfl, rfl⟩, rfl⟩ := hre
              have heqs := run_eql_stats 0 0 0 0
              clear hem Hr HRG hIw y2
              obtain ⟨⟨u0, u1, u2, u3⟩, -⟩ := four_cells HBk.out
              go_wp2_with fail
              refine (Haw.out _ HLk.out).mono ?_
              rintro e wz ⟨rfl, hbz⟩
              go_wp2_with fail
              go_ret
              exact ⟨rfl, hbz⟩
            by_cases hdl : x.done < (ol : Int)
            · have e1 : (x.em == 0) = false := by simp [hem]
              have e2 : decide (x.done < (ol : Int)) = true := by simpa using hdl
              have hre := Hr.out.symm.trans (HRG.out.trans (if_pos (.inr hdl)))
              simp only [Prod.mk.injEq] at hre
              obtain ⟨⟨rfl, rfl, rfl, rfl⟩, rfl⟩ := hre
              have heqs := run_eql_stats 0 0 0 0
              clear hem hdl Hr HRG hIw y2
              obtain ⟨⟨u0, u1, u2, u3⟩, -⟩ := four_cells HBk.out
              go_wp2_with fail
              refine (Haw.out _ HLk.out).mono ?_
              rintro e wz ⟨rfl, hbz⟩
              go_wp2_with fail
              go_ret
              exact ⟨rfl, hbz⟩
            have e1 : (x.em == 0) = false := by simp [hem]
            have e2 : decide (x.done < (ol : Int)) = false := by simpa using hdl
            have hre := Hr.out.symm.trans (HRG.out.trans (if_neg (by omega)))
            simp only [Prod.mk.injEq] at hre
            obtain ⟨⟨rfl, rfl, rfl, rfl⟩, rfl⟩ := hre
            clear hem hdl Hr HRG
            have hn1 := (Nt.check_ok Hch.out).1
            obtain ⟨bw, ow, hWd, -, -⟩ := hIw 0 (by omega)
            rw [hWd] at y2 hIw
            rw [hwl] at y2 hcw1
            have hId := Ints.tail_ hIw 1
            have hdl2 : ((Nt.words n).drop 1).length = n.nodes.length := by rw [List.length_drop, hwl]; omega
            have heqs := run_eql_stats x.peak p2 p3 (Safe.maxTo x.peak ((Nt.words n).drop 1))
            generalize (Nt.words n).drop 1 = wl at *
            have k1 : F.cw ≠ 1 := by omega
            have k2 : (1 : Int) ≤ ((n.nodes.length + 1 : Nat) : Int) := by omega
            have k3 : ((n.nodes.length + 1 : Nat) : Int) ≤ F.cw := by omega
            have k4 : 1 ≤ F.cw := by omega
            have k5 : n.nodes.length + 1 ≤ F.cw := by omega
            have HE := Lib.hid heqs
            clear heqs hWd hIw hwl
            have HId := Lib.hid hId
            clear hId
            go_upto_region 32 with fail
            clear y2 y3 y9 y11 e1 e2
            go_loop [17, 19, 161] (fun h _ i => ∃ j : Nat, j ≤ n.nodes.length ∧ i = .int .i64 (j : Int) ∧ h = .int .i64 (Safe.maxTo x.peak (wl.take j))) (fun _ _ i => n.nodes.length - (intOf i).toNat)
            case atStart => exact ⟨0, Nat.zero_le _, rfl, rfl⟩
            case round =>
              obtain ⟨j, hj, rfl, rfl⟩ := hrel
              by_cases hlj : j < n.nodes.length
              · have hjw : j < wl.length := by omega
                obtain ⟨b4, o4, e4, -, hc4⟩ := HId.out j hjw
                cases e4
                rw [getD_at hjw] at hc4
                have hms : Safe.maxTo x.peak (wl.take (j + 1)) = if Safe.maxTo x.peak (wl.take j) < wl[j] then wl[j] else Safe.maxTo x.peak (wl.take j) := by
                  rw [List.take_succ_eq_append_getElem hjw, Safe.maxTo_append]; rfl
                generalize Safe.maxTo x.peak (wl.take j) = t at *
                generalize wl[j] = z at *
                have HS := Lib.hid hms
                have j0 : (j : Int) < (n.nodes.length : Int) := by omega
                clear hms k1 k2 k3 k4 k5
                by_cases hmx : t < z
                · go_wp2_with fail
                  go_round
                  case rel => exact ⟨j + 1, by omega, by go_num, by first | (rw [HS.out, if_pos hmx]; done) | (rw [HS.out, if_pos hmx]; congr 1; omega)⟩
                  case measure => simp [intOf]; omega
                · go_wp2_with fail
                  go_round
                  case rel => exact ⟨j + 1, by omega, by go_num, by first | (rw [HS.out, if_neg hmx]; done) | (rw [HS.out, if_neg hmx]; congr 1; omega)⟩
                  case measure => simp [intOf]; omega
              · obtain rfl : j = n.nodes.length := by omega
                rw [List.take_of_length_le (by omega)]
                generalize Safe.maxTo x.peak wl = mt at *
                have heqs := HE.out
                obtain ⟨⟨u0, u1, u2, u3⟩, -⟩ := four_cells HBk.out
                go_wp2_with fail
                refine (Haw.out _ HLk.out).mono ?_
                rintro e wz ⟨rfl, hbz⟩
                go_wp2_with fail
                go_ret
                exact ⟨rfl, hbz⟩
end Go.Proofs.YtmmgdgfpemkdnaaGreat
namespace Go.Proofs.YtmmgdgfpemkdnaaGreat.checkRuns
open Go.ChangeShapes Go.WideShapes Go.ChangeAt Go.RowKit
open Go.ChangeMaps (open_string shut_string)

theorem own : ownKnob Tryz.prog.godebug = none := by kernel_rfl
theorem laidOut : laidOutB Tryz.prog = true := by kernel_rfl

set_option maxRecDepth 100000 in
theorem lifted (os : Os) (started : os.Started) (H : Type) (enc : TypeId × Value → H) (Fi : Stop.Interp) :
    ReturnsInHanded {} Tryz.checked os 3 .any ((Rows.OpenSpec.upto Rows.checkRunsSpec).pre6 enc Tryz.prog Tryz.f3 Rows.checkRunsUptoRow.domain false) (((Rows.OpenSpec.upto Rows.checkRunsSpec).at Fi).post enc Tryz.prog Tryz.f3 false true false false) := by
  refine returnsInHanded_of_cond (C := Tryz.checked) (s := Rows.OpenSpec.upto Rows.checkRunsSpec) (k := Rows.uptoSmall) rfl own started (by kernel_rfl) Tryz.func3
    (OpenSpec.witness (enc := enc) (C := Tryz.checked) (s := Rows.OpenSpec.upto Rows.checkRunsSpec) (k := Rows.uptoSmall) rfl false ⟨#[], #[.agg #[.slice none 0 0, .slice none 0 0, .slice none 0 0, .int .i64 0]], []⟩ 8 (by kernel_rfl) (by kernel_rfl) (by kernel_rfl)
      (x := ([.agg [.agg [.nil, .nil], .nil, .lit (.int .i64 0)]], [], [])) (by kernel_rfl) rfl (by kernel_rfl)) ?_
  intro W base args ds gs before hval0 hW hcnd hbulk _
  have hval : ∀ (j : Nat) t v, Tryz.f3.params[j]? = some t → args[j]? = some v → Value.okWide Tryz.prog W .any base t v := hval0
  have hW' := hW
  obtain ⟨p, q, hA0, hV, rfl, hfz, hnd⟩ := hW
  have hA : DataW.TrodAll enc Tryz.prog W 0 (fun _ => true) true Tryz.f3.params.toList args.toList ds p := hA0
  rw [Tryz.params3] at hA hval
  obtain ⟨v0, vs0, d0, ds0, p0, q0, hargs, rfl, rfl, h0, r0⟩ := trodAll_cons hA
  obtain ⟨rfl, rfl, rfl⟩ := trodAll_nil r0
  obtain rfl : args = #[v0] := by cases args; simp_all
  obtain ⟨rfl, rfl⟩ := trodVars_none hV
  have hbk : Rows.uptoBulkAll ([d0] ++ []) ≤ 1048576 := of_decide_eq_true hbulk
  have hz0 : Rows.uptoBulk d0 ≤ 1048576 := Nat.le_trans (bulk_part (by simp)) hbk
  have k0 := h0
  have lt0 : ∀ x ∈ p0, x.block < W.heap.size := by obtain ⟨m, hm⟩ := k0; exact DataW.trod_lt m _ _ _ hm
  obtain ⟨A0, N0, Q0, c10, c20, q0, n0, ps0, cap0, rfl, la0, lb0, lc0, ld0, hS0, hw0, le0, lf0, lg0, hQ0, hp0, hc0⟩ := case_open (hval 0 30 v0 rfl rfl) h0 hz0
  clear hA0 hval0
  refine (walkCheckRuns W A0 N0 Q0 c10 c20 q0 n0 ps0 cap0 la0 lb0 lc0 ld0 hS0 hw0 le0 lf0 lg0 hQ0 hp0 hc0).mono fun e W' ⟨he, bel⟩ => ?_
  subst he
  exact ⟨_, rfl, _, _, _, [], _, [], hW', trodAll_mk1 (shut_bool Tryz.underlying4 _), (trodAll_cons_mk (Below.trod laidOut (by kernel_rfl) (of_decide_eq_true (by kernel_rfl)) k0 bel lt0) trodAll_mk0), rfl, bel.frame _, fun h => by cases h⟩

theorem over : Rows.checkRunsUptoRow.holds Tryz.pinned (Rows.OpenSpec.upto Rows.checkRunsSpec) :=
  OpenClaim.holds_of_cond 3 Tryz.f3 rfl rfl rfl rfl rfl rfl rfl ⟨rfl, rfl, rfl, rfl, rfl⟩ rfl rfl rfl rfl rfl (by kernel_rfl) Tryz.func3 (by kernel_rfl)
    (of_decide_eq_true (by kernel_rfl)) (by unfold Func.isWrapper; first | (rw [if_pos (by decide +kernel)]; kernel_rfl) | (rw [if_neg (by decide +kernel)]; exact ⟨rfl, rfl⟩))
    (fun os started H enc _ Fi => lifted os started H enc Fi)
end Go.Proofs.YtmmgdgfpemkdnaaGreat.checkRuns
namespace Go.Proofs.YtmmgdgfpemkdnaaGreat
theorem checkRuns_holds : Rows.CheckRunsUptoSaid := checkRuns.over
#print axioms checkRuns_holds
end Go.Proofs.YtmmgdgfpemkdnaaGreat
