/- The statement Rows.CheckPlaysUptoSaid is proved: for every input the law 'athanorlaw18.CheckPlays' returns true, and each argument reads afterwards as it read before. Conditions: those of the row, no others. -/
import Derived.Below
import Derived.ChangeOld
import Derived.JoinedCond
import Derived.OpenShut
import Derived.ProofKit
import Derived.ShutString
import Derived.WalkKit
import Derived.Test.YtmmgdgfpemkdnaaGreatRows
import Derived.Test.YtmmgdgfpemkdnaaGreatZ11
set_option linter.unusedVariables false
/- Layer 18's statement CheckPlays: the walk. Printed by gen/lplays.py. -/
namespace Go.Proofs.YtmmgdgfpemkdnaaGreat
open Go.RowKit
set_option maxHeartbeats 64000000 in
set_option maxRecDepth 100000 in
theorem walkCheckPlays (w : World) (A N Q : Option Addr) (c d q : Nat) (n : NetD) (ps : List (Int × Int)) (cap : Int) (la : n.inn.length ≤ c) (lb : c ≤ 9223372036854775807) (lc : n.nodes.length ≤ d) (ld : d ≤ 9223372036854775807) (hR : NetR w A N n) (hf : n.fits)
    (le : ps.length ≤ q) (lf : q ≤ 9223372036854775807) (lg : ps.length ≤ 1048576) (hQ : Pairs w Q ps) (hpw : ∀ z ∈ ps, (-9223372036854775808 ≤ z.1 ∧ z.1 ≤ 9223372036854775807) ∧ -9223372036854775808 ≤ z.2 ∧ z.2 ≤ 9223372036854775807) (hcap : -9223372036854775808 ≤ cap ∧ cap ≤ 9223372036854775807) :
    Calls Tryz.prog 4 #[.agg #[.slice A n.inn.length c, .slice N n.nodes.length d, .slice Q ps.length q, .int .i64 cap]] w fun e w' => e = .returned (.bool true) ∧ Below w.heap.size w w' := by
  have hok := hf.ok
  have hk := Blk.new w 30 #[.slice A n.inn.length c, .slice N n.nodes.length d, .slice Q ps.length q, .int .i64 cap]
  have hl0 : Later w (w.alloc (.cells #[.slice A n.inn.length c, .slice N n.nodes.length d, .slice Q ps.length q, .int .i64 cap] 30)) := (Later.refl w).alloc _
  have Hok := Lib.hid hok
  have HR := Lib.hid hR
  have Hk := Lib.hid hk
  have Hl0 := Lib.hid hl0
  have Hf := Lib.hid hf
  have HQ := Lib.hid hQ
  have Hpw := Lib.hid hpw
  clear hok hR hk hl0 hf hQ hpw
  go_enter Tryz.func4, Tryz.ntmps4
  go_wp2_with fail
  generalize w.alloc (.cells #[.slice A n.inn.length c, .slice N n.nodes.length d, .slice Q ps.length q, .int .i64 cap] 30) = w1 at *
  generalize hg1 : w.heap.size = g1 at *
  have HG1 := Lib.hid hg1
  clear hg1
  refine (small_18 A N Q c d q ps.length cap n w1 Hok.out (HR.out.below Hl0.out (Nat.le_refl _)) lg).mono ?_
  rintro e w2 ⟨b, rfl, hsm, hb2⟩
  have hl2 := Hl0.out.call hb2
  have hk2 := (show Later w1 w2 from hb2).blk Hk.out
  clear hb2 Hk Hl0
  have aw : ∀ W, Later w W → Calls Tryz.prog 6 #[] W fun e w' => e = .returned (.bool true) ∧ Later w w' := fun W h => (awake18 W).mono fun e w' hq => ⟨hq.1, h.call hq.2⟩
  cases b
  · have Hk2 := Lib.hid hk2
    have Hl2 := Lib.hid hl2
    have Haw := Lib.hid aw
    clear hk2 hl2 aw
    clear hsm
    go_wp2_with fail
    refine (Haw.out _ Hl2.out).mono ?_
    rintro e wz ⟨rfl, hbz⟩
    go_wp2_with fail
    go_ret
    exact ⟨rfl, hbz⟩
  have hsm := hsm rfl
  have hsm3 : 3 * n.nodes.length + ps.length ≤ 400 := by omega
  have x0 := hk2.cell 0
  have x1 := hk2.cell 1
  have x2 := hk2.cell 2
  have x3 := hk2.cell 3
  simp at x0 x1 x2 x3
  have Hk2 := Lib.hid hk2
  have Hl2 := Lib.hid hl2
  have Haw := Lib.hid aw
  clear hk2 hl2 aw
  go_wp2_with fail
  refine (check_new A N c d n cap w2 Hok.out (HR.out.below Hl2.out (Nat.le_refl _)) lc (by omega) hcap).mono ?_
  rintro e w3 ⟨hcase, h3⟩
  clear x0 x1 x2 x3 hsm
  rcases hcase with ⟨hch, rfl⟩ | ⟨hch, a, W0, hS, h10, rfl, hM⟩
  · have HK3 := Lib.hid (h3.blk Hk2.out)
    have HL3 := Lib.hid (Hl2.out.trans h3)
    obtain ⟨⟨x0, x1, x2, x3⟩, -⟩ := four_cells HK3.out
    clear h3
    have HCH := Lib.hid hch
    clear hch
    go_wp2_with fail
    refine (ref_18 A N c d n w3 Hok.out (HR.out.below HL3.out (Nat.le_refl _))).mono ?_
    rintro e w5 ⟨N1, d1, rfl, hR1, hd1, hd2, hb5⟩
    clear x0 x1 x2 x3
    have HL5 := Lib.hid (HL3.out.trans (show Later w3 w5 from hb5))
    have HR1 := Lib.hid hR1
    clear hb5 hR1
    go_wp2_with fail
    refine (ref11_check A N1 c d1 n w5 Hok.out HR1.out hd1 la lb).mono ?_
    rintro e w6 ⟨hb6, ⟨hc0, gx, rfl, -, -⟩ | ⟨-, rfl⟩⟩
    · exact absurd hc0 HCH.out
    have HL6 := Lib.hid (HL5.out.trans (show Later w5 w6 from hb6))
    have hne : (Nt.check n != 0) = true := by simp [HCH.out]
    clear hb6 HCH
    generalize Nt.check n = ck at *
    go_wp2_with fail
    refine (Haw.out _ HL6.out).mono ?_
    rintro e wz ⟨rfl, hbz⟩
    go_wp2_with fail
    go_ret
    exact ⟨rfl, hbz⟩
  have HK2 := Lib.hid (Hk2.out)
  have HL20 := Lib.hid (Hl2.out.trans h10)
  have HRW := Lib.hid (HR.out.below HL20.out (Nat.le_refl _))
  have HS := Lib.hid hS
  have HM3 := Lib.hid hM
  have HK3 := Lib.hid ((h10.trans hM.later).blk Hk2.out)
  have Hch := Lib.hid hch
  clear hS hM h3 Hk2 hch
  obtain ⟨⟨x0, x1, x2, x3⟩, -⟩ := four_cells HK3.out
  have h10' := Lib.hid h10
  clear h10
  go_wp2_with fail
  refine (ref_18 A N c d n w3 Hok.out (HR.out.below (HL20.out.trans HM3.out.later) (Nat.le_refl _))).mono ?_
  rintro e w5 ⟨N1, d1, rfl, hR1, hd1, hd2, hb5⟩
  clear x0 x1 x2 x3
  have HL5 := Lib.hid (show Later w3 w5 from hb5)
  have HR1 := Lib.hid hR1
  clear hb5 hR1
  go_wp2_with fail
  refine (ref11_check A N1 c d1 n w5 Hok.out HR1.out hd1 la lb).mono ?_
  rintro e w6 ⟨hb6, ⟨-, gx, rfl, -, -⟩ | ⟨hc0, -⟩⟩
  rotate_left
  · exact absurd Hch.out hc0
  have HL6 := Lib.hid (HL5.out.trans (show Later w5 w6 from hb6))
  have HMq := Lib.hid (HM3.out.to_later HL6.out)
  have HW0q := Lib.hid HMq.out.later
  have HKq := Lib.hid (HL6.out.blk HK3.out)
  clear hb6 HL5 HR1 HM3 HK3
  go_upto_region 9 with fail
  generalize Nt.loss n.nodes = lo at *
  obtain ⟨⟨x0, x1, x2, x3⟩, -⟩ := four_cells HKq.out
  obtain ⟨wq, rfl⟩ : ∃ v, v = w6 := ⟨w6, rfl⟩
  clear HL6 HKq
  go_cut [8] (fun p wx => ∃ (g : Nat) (F : RfF) (V : RfV), p = .pointer (some ⟨g, 0, none⟩) ∧ XP n (Ck.base n cap) g a.p a.g3 F V Rf.start W0 wx ∧ CkM a (Ck.base n cap) W0 (Ck.start (n.nodes.length + 1)) wx)
  case first =>
    go_region_held3 (fun X => X.cell? ⟨g1, 0, none⟩ = some (.slice A n.inn.length c) ∧ X.cell? ⟨g1, 1, none⟩ = some (.slice N n.nodes.length d) ∧ X.cell? ⟨g1, 3, none⟩ = some (.int .i64 cap)) (first | (with_reducible exact ⟨x0, x1, x3⟩) | exact ⟨Later.cell (show Later wq _ by repeat (first | (with_reducible exact Later.refl _) | (with_reducible apply Later.drew) | (with_reducible apply Later.alloc) | (with_reducible refine Later.call ?_ (by assumption)) | (with_reducible refine Later.set ?_ (by first | exact Nat.le_refl _ | (simp; done) | (simp; omega) | omega) _))) x0, Later.cell (show Later wq _ by repeat (first | (with_reducible exact Later.refl _) | (with_reducible apply Later.drew) | (with_reducible apply Later.alloc) | (with_reducible refine Later.call ?_ (by assumption)) | (with_reducible refine Later.set ?_ (by first | exact Nat.le_refl _ | (simp; done) | (simp; omega) | omega) _))) x1, Later.cell (show Later wq _ by repeat (first | (with_reducible exact Later.refl _) | (with_reducible apply Later.drew) | (with_reducible apply Later.alloc) | (with_reducible refine Later.call ?_ (by assumption)) | (with_reducible refine Later.set ?_ (by first | exact Nat.le_refl _ | (simp; done) | (simp; omega) | omega) _))) x3⟩)
      (first
      | (go_at_call 9; refine (ref_18s A N c d n W0 _ Hok.out (show Later W0 _ by repeat (first | (with_reducible exact HW0q.out) | (with_reducible apply Later.drew) | (with_reducible apply Later.alloc) | (with_reducible refine Later.call ?_ (by assumption)))) HRW.out).mono ?_; rintro e w7 ⟨N', d', C, rfl, hd1, hd2, hb7, hrow⟩; have hl7 : Later wq w7 := (show Later wq w7 by repeat (first | (with_reducible exact Later.refl _) | (with_reducible apply Later.drew) | (with_reducible apply Later.alloc) | (with_reducible refine Later.call ?_ (by assumption)))); have HN7 := Lib.hid (hrow.net (HW0q.out.trans hl7) HRW.out); have hsz7 := hl7.size)
      | (go_at_call 11; refine (ref18_newO A N' c d' n cap _ Hok.out (HN7.out.below (show Later w7 _ by repeat (first | (with_reducible exact Later.refl _) | (with_reducible apply Later.drew) | (with_reducible apply Later.alloc) | (with_reducible refine Later.call ?_ (by assumption)))) (Nat.le_refl _)) hd1 la lb Hch.out).mono ?_; rintro e w8 ⟨Wd, Or, cw, co, V, rfl, hfx, hat, hl8, hoff, hcw1, hcw2, hoW, hoO⟩; rw [show RfF.cells ⟨A, N', Wd, Or, c, d', cw, co⟩ V n (Ck.base n cap) Rf.start = #[.slice A n.inn.length c, .slice N' n.nodes.length d', .slice Wd (Ck.base n cap).words.length cw, .slice Or (Ck.base n cap).order.length co, .int .i64 (Ck.base n cap).loss, .int .i64 (Ck.base n cap).cap, .slice V.Th Rf.start.there.length V.ct, .slice V.Sa Rf.start.saved.length V.cs, .slice V.Gr Rf.start.grads.length V.cg, .int .i64 Rf.start.em, .int .i64 Rf.start.sd, .int .i64 Rf.start.done, .int .i64 Rf.start.peak] from rfl]; have hb8 : Below w7.heap.size w7 w8 := (show Later w7 w8 by repeat (first | (with_reducible exact Later.refl _) | (with_reducible apply Later.drew) | (with_reducible apply Later.alloc) | (with_reducible refine Later.trans ?_ hl8)));
          first
          | (have hk8 := Later.blk (show Later (w7.alloc (.cells #[.slice none 0 0, .slice none 0 0, .slice none 0 0, .slice none 0 0, .int .i64 0, .int .i64 0, .slice none 0 0, .slice none 0 0, .slice none 0 0, .int .i64 0, .int .i64 0, .int .i64 0, .int .i64 0] 49)) w8 from hl8) (Blk.new w7 49 zeros13); obtain ⟨z0, z1, z2, z3, z4, z5, z6, z7, z8, z9, z10, z11, z12⟩ := cells_zero13 hk8; obtain ⟨f0, f1, f2, f3, f4, f5, f6, f7, f8, f9, f10, f11, f12⟩ := frozen13 hk8)
          | (have hk8 := Later.blk (Later.trans (show Later (wq.alloc (.cells #[.slice none 0 0, .slice none 0 0, .slice none 0 0, .slice none 0 0, .int .i64 0, .int .i64 0, .slice none 0 0, .slice none 0 0, .slice none 0 0, .int .i64 0, .int .i64 0, .int .i64 0, .int .i64 0] 49)).drew w7 from hb7) (show Later w7 w8 from hb8)) (Blk.new wq 49 zeros13).drew; obtain ⟨z0, z1, z2, z3, z4, z5, z6, z7, z8, z9, z10, z11, z12⟩ := cells_zero13 hk8; obtain ⟨f0, f1, f2, f3, f4, f5, f6, f7, f8, f9, f10, f11, f12⟩ := frozen13 hk8)
          | skip))
    · go_wp2_with fail
      go_meet
      have h3 := HMq.out.g3_lt
      have h0 := HS.out.hp
      have h01 := HS.out.h1
      have h02 := HS.out.h2
      have h03 := HS.out.h3
      have hl78 := hl7.trans hl8
      have hs8 := hl8.size
      have hs7 := hb7.size
      have hsq := hl7.size
      have hcle := hrow.cle
      simp at hs7
      have hoz : ∀ b, SB w8.heap.size a.p a.g3 b → V.Off Rf.start b := fun b q => by
        rcases q with q | q
        · rw [q]; exact RfV.Off.old hat (Nat.le_refl _)
        · exact hoff b (by omega)
      refine ⟨_, _, V, rfl, XP.start ((HW0q.out.trans hl78).alloc _) h0 (by omega) (by have := HW0q.out.size; omega) (hrow.later (hl8.alloc _)) (by simp; omega) (.inr (by omega)) HRW.out (hfx.words.below ((Later.refl w8).alloc _) (Nat.le_refl _)) ?_ (hfx.ord.below ((Later.refl w8).alloc _) (Nat.le_refl _)) ?_ (hat.later ((Later.refl w8).alloc _)) hoz (Fr.refl _ _) (Blk.new w8 49 _), (HMq.out.to_later (hl78.alloc _))⟩
      · intro hl a' e q
        have h1 := hoW a' e
        rcases q with q | q
        · exact (RfRow.old (h := w8.heap.size) (m := w8.heap.size) hfx.words (Nat.le_refl _)).2 hl a' e (by omega)
        · omega
      · intro hl a' e q
        have h1 := hoO a' e
        rcases q with q | q
        · exact (RfRow.old (h := w8.heap.size) (m := w8.heap.size) hfx.ord (Nat.le_refl _)).2 hl a' e (by omega)
        · omega
    · go_wp2_with fail
      go_meet
      have h3 := HMq.out.g3_lt
      have h0 := HS.out.hp
      have h01 := HS.out.h1
      have h02 := HS.out.h2
      have h03 := HS.out.h3
      have hl78 := hl7.trans (show Later w7 w8 from hb8)
      have hs7 := hb7.size
      have hsq := hl7.size
      have hcle := hrow.cle
      simp at hs7
      have hoW2 := hoW
      have hoO2 := hoO
      try simp at hoW2 hoO2
      have hoz : ∀ b, SB w7.heap.size a.p a.g3 b → V.Off Rf.start b := fun b q => hoff b (by rcases q with q | q <;> first | omega | (simp; omega))
      refine ⟨_, _, V, rfl, XP.start (HW0q.out.trans hl78) h0 (by omega) (by have := HW0q.out.size; omega) (hrow.later hb8) (by simp; omega) (.inr hcle) HRW.out hfx.words ?_ hfx.ord ?_ hat hoz (fr13 (Fr.refl _ _) _ _ _ _ _ _ _ _ _ _ _ _ _) (start_box hk8), (HMq.out.to_later hl78).frg HS.out (fr13 (Fr.refl _ _) _ _ _ _ _ _ _ _ _ _ _ _ _) (by omega)⟩
      · intro hl a' e q
        have h1 := hoW2 a' e
        rcases q with q | q <;> omega
      · intro hl a' e q
        have h1 := hoO2 a' e
        rcases q with q | q <;> omega
    · go_wp2_with fail
      go_meet
      have h3 := HMq.out.g3_lt
      have h0 := HS.out.hp
      have h01 := HS.out.h1
      have h02 := HS.out.h2
      have h03 := HS.out.h3
      have hl78 := hl7.trans (show Later w7 w8 from hb8)
      have hs7 := hb7.size
      have hsq := hl7.size
      have hcle := hrow.cle
      simp at hs7
      have hoW2 := hoW
      have hoO2 := hoO
      try simp at hoW2 hoO2
      have hoz : ∀ b, SB wq.heap.size a.p a.g3 b → V.Off Rf.start b := fun b q => hoff b (by rcases q with q | q <;> first | omega | (simp; omega))
      refine ⟨_, _, V, rfl, XP.start (HW0q.out.trans hl78) h0 (by omega) (by have := HW0q.out.size; omega) (hrow.later hb8) (by simp; omega) (.inl (by simp; omega)) HRW.out hfx.words ?_ hfx.ord ?_ hat hoz (fr13 (Fr.refl _ _) _ _ _ _ _ _ _ _ _ _ _ _ _) (start_box hk8), (HMq.out.to_later hl78).frg HS.out (fr13 (Fr.refl _ _) _ _ _ _ _ _ _ _ _ _ _ _ _) (by omega)⟩
      · intro hl a' e q
        have h1 := hoW2 a' e
        rcases q with q | q <;> omega
      · intro hl a' e q
        have h1 := hoO2 a' e
        rcases q with q | q <;> omega
  case rest =>
    obtain ⟨g, F, V, rfl, hX, hM⟩ := hcut
    have HX := Lib.hid hX
    have HM := Lib.hid hM
    have HKc := Lib.hid ((h10'.out.trans hX.later).blk HK2.out)
    clear hX hM HRW x0 x1 x2 x3 HMq
    have HRC := Lib.hid (Rf.base_ok Hch.out Hok.out cap)
    have HPO := Lib.hid (Rf.base_pok Hch.out Hok.out cap)
    have HWl := Lib.hid (Nt.words_len Hch.out)
    have HP0 := Lib.hid (Rf.base_start Hch.out Hok.out cap)
    have HBd0 := Lib.hid (show Ck.Bd (Ck.start (n.nodes.length + 1)) 0 from ⟨Nat.le_refl _, by simp [Ck.start], by simp [Ck.start], by simp [Ck.start], by simp [Ck.start]⟩)
    have hnl := HRC.out.nl
    have hL5 : (Ck.base n cap).words.length ≤ 513 := by have := HRC.out.wl; omega
    obtain ⟨⟨x0, x1, x2, x3⟩, -⟩ := four_cells HKc.out
    go_upto_region 11 with fail
    clear x0 x1 x2 x3 HKc
    go_loopw [10, 11, 12, 13, 61, 129] (fun _ _ _ _ i _ wx => ∃ (k : Nat) (s : CkS) (x : RfS) (V : RfV), k ≤ ps.length ∧ i = .int .i64 (k : Int) ∧ PRel (Ck.base n cap) s x ∧ (0 : Int) ∈ x.there ∧ CkM a (Ck.base n cap) W0 s wx ∧ XP n (Ck.base n cap) g a.p a.g3 F V x W0 wx ∧ Ck.Bd s k) (fun _ _ _ _ i _ _ => ps.length - (intOf i).toNat)
    case atStart => exact ⟨0, _, _, V, Nat.zero_le _, rfl, HP0.out, by simp [Rf.start], HM.out, HX.out, HBd0.out⟩
    case round =>
      clear HM HX HBd0
      obtain ⟨k, s, x, V, hk, rfl, hP, h0t, hMk, hXk, hBd⟩ := hrel
      by_cases hlt : k < ps.length
      · obtain ⟨b3, o3, rfl, -, c0, c1⟩ := (HQ.out.below (HL20.out.trans hXk.later) (Nat.le_refl _)) k hlt
        generalize ps[k] = pk at *
        obtain ⟨kd, id⟩ := pk
        simp only at c0 c1
        have hla : Later wr (wr.alloc (.cells #[.int .i64 kd, .int .i64 id] 46)) := (Later.refl wr).alloc _
        have HXa := Lib.hid (hXk.to_later hla)
        have HMa := Lib.hid (hMk.to_later hla)
        have HBi := Lib.hid (Blk.new wr 46 #[.int .i64 kd, .int .i64 id])
        have hg3 := hMk.g3_lt
        have hggi := hXk.box.lt
        have hB := hBd
        obtain ⟨hB1, hB2, hB3, hB4, hB5⟩ := hBd
        have hkb : (k : Int) * 68719542272 ≤ 1048576 * 68719542272 := by omega
        have HB8 := Lib.hid (Ck.bd_do HS.out hB kd id)
        have k0 : (k : Int) < (ps.length : Int) := by omega
        have hdn : 0 ≤ x.done ∧ x.done ≤ 1000 := by have h1 := hP.done; have h2 := hP.dl; have h3 := HRC.out.ol; omega
        have HDO := Lib.hid (check_do a _ W0 s _ HS.out HMa.out kd id (by omega) (by omega) (by omega))
        have HP := Lib.hid hP
        clear hla hMk hXk hB hP
        go_upto_region 13 with fail
        clear c0 c1
        generalize wr.alloc (.cells #[.int .i64 kd, .int .i64 id] 46) = wa at *
        generalize wr.heap.size = gi at *
        have i0 := HBi.out.cell 0
        have i1 := HBi.out.cell 1
        simp at i0 i1
        go_wp2_with fail
        refine HDO.out.mono ?_
        rintro e wc ⟨rfl, hF⟩
        have HMc := Lib.hid hF.mem
        have HXc := Lib.hid (HXa.out.mv hF.fr)
        have HBc := Lib.hid (hF.fr.blk HBi.out (by omega))
        clear hF i0 i1 HMa HXa HBi HDO
        have i0 := HBc.out.cell 0
        have i1 := HBc.out.cell 1
        simp at i0 i1
        have HB9 := HB8
        clear HB8
        cases hrt : Cd.right (kd, id)
        · have hds : Ck.do_ (Ck.base n cap) s kd id = (s, 10) := by unfold Ck.do_; rw [if_pos (.inl hrt)]
          rw [hds] at HMc HB9 ⊢
          clear hds
          go_wp2_with fail
          refine (ref17_right kd id wc).mono ?_
          rintro e wd ⟨rfl, rfl⟩
          rw [hrt]
          clear hrt
          go_wp2_with fail
          go_roundw
          case rel => exact ⟨k + 1, s, x, V, by omega, by go_num, HP.out, h0t, HMc.out, HXc.out, HB9.out⟩
          case measure => simp [intOf]; omega
        have hds := Rf.do_same HPO.out HP.out hrt
        have HZ := Lib.hid (Rf.zero_do (c := Ck.base n cap) h0t hrt)
        have HGd := Lib.hid HP.out.good
        have HRT := Lib.hid hrt
        generalize Ck.do_ (Ck.base n cap) s kd id = rs at *
        obtain ⟨s', es⟩ := rs
        simp only at hds HMc HB9 ⊢
        go_wp2_with fail
        refine (ref17_right kd id wc).mono ?_
        rintro e wd ⟨rfl, rfl⟩
        rw [hrt]
        clear hrt h0t HP
        obtain ⟨y0, y1, y2, y3, y4, y5, y6, y7, y8, y9, y10, y11, y12⟩ := RfF.cells13 HXc.out.box
        have i0 := HBc.out.cell 0
        have i1 := HBc.out.cell 1
        simp at i0 i1
        go_upto_region 18 with fail
        go_wp2_with fail
        refine (ref18_do F V n (Ck.base n cap) x wc HRC.out HGd.out HXc.out.fix HXc.out.at_ hdn kd id HRT.out).mono ?_
        rintro e wb ⟨V', rfl, hA, hlb, hoff⟩
        clear y0 y1 y2 y3 y4 y5 y6 y7 y8 y9 y10 y11 y12 i0 i1
        generalize Rf.do_ (Ck.base n cap) x kd id = rr at *
        obtain ⟨x', e'⟩ := rr
        simp only at hA hoff hds HZ ⊢
        obtain ⟨rfl, hP'⟩ := hds
        rw [show F.cells V' n (Ck.base n cap) x' = #[.slice F.A n.inn.length F.c, .slice F.N n.nodes.length F.d, .slice F.Wd (Ck.base n cap).words.length F.cw, .slice F.Or (Ck.base n cap).order.length F.co, .int .i64 (Ck.base n cap).loss, .int .i64 (Ck.base n cap).cap, .slice V'.Th x'.there.length V'.ct, .slice V'.Sa x'.saved.length V'.cs, .slice V'.Gr x'.grads.length V'.cg, .int .i64 x'.em, .int .i64 x'.sd, .int .i64 x'.done, .int .i64 x'.peak] from rfl]
        have HXb := Lib.hid (HXc.out.to_later hlb)
        have HX2 := Lib.hid (HXb.out.put hA (fun b q => hoff b (by have h1 := HMc.out.g3_lt; have h2 := HXc.out.box.lt; rcases q with q | q <;> omega) (HXc.out.off b q)))
        have HM2 := Lib.hid ((HMc.out.to_later hlb).frg HS.out (fr13 (g := g) (Fr.refl _ wb) (.slice F.A n.inn.length F.c) (.slice F.N n.nodes.length F.d) (.slice F.Wd (Ck.base n cap).words.length F.cw) (.slice F.Or (Ck.base n cap).order.length F.co) (.int .i64 (Ck.base n cap).loss) (.int .i64 (Ck.base n cap).cap) (.slice V'.Th x'.there.length V'.ct) (.slice V'.Sa x'.saved.length V'.cs) (.slice V'.Gr x'.grads.length V'.cg) (.int .i64 x'.em) (.int .i64 x'.sd) (.int .i64 x'.done) (.int .i64 x'.peak)) HXc.out.hh)
        obtain ⟨y0, y1, y2, y3, y4, y5, y6, y7, y8, y9, y10, y11, y12⟩ := RfF.cells13 HXb.out.box
        obtain ⟨f0, f1, f2, f3, f4, f5, f6, f7, f8, f9, f10, f11, f12⟩ := frozen13 HXb.out.box
        have HP' := Lib.hid hP'
        clear hA hoff hlb HXc HMc HBc HGd hP'
        go_upto_region 19 with fail
        clear y0 f0 y1 f1 y2 f2 y3 f3 y4 f4 y5 f5 y6 f6 y7 f7 y8 f8 y9 f9 y10 f10 y11 f11 y12 f12 HXb
        generalize (((((((((((((wb.setCell ⟨g, 0, none⟩ (.slice F.A n.inn.length F.c)).setCell ⟨g, 1, none⟩ (.slice F.N n.nodes.length F.d)).setCell ⟨g, 2, none⟩ (.slice F.Wd (Ck.base n cap).words.length F.cw)).setCell ⟨g, 3, none⟩ (.slice F.Or (Ck.base n cap).order.length F.co)).setCell ⟨g, 4, none⟩ (.int .i64 (Ck.base n cap).loss)).setCell ⟨g, 5, none⟩ (.int .i64 (Ck.base n cap).cap)).setCell ⟨g, 6, none⟩ (.slice V'.Th x'.there.length V'.ct)).setCell ⟨g, 7, none⟩ (.slice V'.Sa x'.saved.length V'.cs)).setCell ⟨g, 8, none⟩ (.slice V'.Gr x'.grads.length V'.cg)).setCell ⟨g, 9, none⟩ (.int .i64 x'.em)).setCell ⟨g, 10, none⟩ (.int .i64 x'.sd)).setCell ⟨g, 11, none⟩ (.int .i64 x'.done)).setCell ⟨g, 12, none⟩ (.int .i64 x'.peak)) = wd at *
        have HWds := Lib.hid (fun (W : World) (h : Later wd W) => (show Calls Tryz.prog 16 #[.pointer (some ⟨a.p, 0, none⟩)] W fun e w' => e = .returned (.int .i64 (Rf.sum (Ck.base n cap) x')) ∧ W = w' from by rw [← HP'.out.now]; exact check_now a _ W0 s' W (HM2.out.to_later h)))
        have HSum := Lib.hid (fun (W : World) (h : Later wd W) => (show Calls Tryz.prog 17 #[.agg #[.slice F.A n.inn.length F.c, .slice F.N n.nodes.length F.d, .slice F.Wd (Ck.base n cap).words.length F.cw, .slice F.Or (Ck.base n cap).order.length F.co, .int .i64 (Ck.base n cap).loss, .int .i64 (Ck.base n cap).cap, .slice V'.Th x'.there.length V'.ct, .slice V'.Sa x'.saved.length V'.cs, .slice V'.Gr x'.grads.length V'.cg, .int .i64 x'.em, .int .i64 x'.sd, .int .i64 x'.done, .int .i64 x'.peak]] W fun e w' => e = .returned (.int .i64 (Rf.sum (Ck.base n cap) x')) ∧ Later W w' from ref18_sum F V' n (Ck.base n cap) x' W HRC.out HP'.out.good (HX2.out.to_later h).fix (HX2.out.to_later h).at_))
        have HPk := Lib.hid (fun (W : World) (h : Later wd W) => (show Calls Tryz.prog 18 #[.pointer (some ⟨a.p, 0, none⟩)] W fun e w' => e = .returned (.int .i64 x'.peak) ∧ W = w' from by rw [← HP'.out.peak]; exact check_peak a _ W0 s' W (HM2.out.to_later h)))
        have HDn := Lib.hid (fun (W : World) (h : Later wd W) => (show Calls Tryz.prog 19 #[.pointer (some ⟨a.p, 0, none⟩)] W fun e w' => e = .returned (.int .i64 x'.done) ∧ W = w' from by rw [HP'.out.done]; exact check_done a _ W0 s' W (HM2.out.to_later h)))
        have hwh := fun (W : World) (h : Later wd W) => check_whole a _ W0 s' W (HM2.out.to_later h) (by have := HP'.out.dl; have := HRC.out.ol; omega)
        obtain ⟨y0, y1, y2, y3, y4, y5, y6, y7, y8, y9, y10, y11, y12⟩ := RfF.cells13 HX2.out.box
        have HWe := Lib.hid (show Ck.whole (Ck.base n cap) s' = (s'.em && decide (s'.done = (Ck.base n cap).order.length)) from rfl)
        generalize Rf.sum (Ck.base n cap) x' = sm at *
        go_cut [124] (fun v wx => v = .bool false ∧ Later wd wx)
        case first =>
          have hxe := HP'.out.em
          have hxd := HP'.out.done
          have HWh := Lib.hid hwh
          clear hwh
          cases hse : s'.em
          · have hem : x'.em = 0 := by rw [hxe, hse]; rfl
            have hw0 : Ck.whole (Ck.base n cap) s' = false := by rw [HWe.out, hse]; rfl
            rw [hw0] at HWh
            generalize x'.em = em' at *
            subst hem
            clear hxe hxd hse hw0
            refine wp_region_noPanic ?_
            refine wp_region_held_drew (S := fun X => X.cell? ⟨g, 0, none⟩ = some (.slice F.A n.inn.length F.c) ∧ X.cell? ⟨g, 1, none⟩ = some (.slice F.N n.nodes.length F.d) ∧ X.cell? ⟨g, 2, none⟩ = some (.slice F.Wd (Ck.base n cap).words.length F.cw) ∧ X.cell? ⟨g, 3, none⟩ = some (.slice F.Or (Ck.base n cap).order.length F.co) ∧ X.cell? ⟨g, 4, none⟩ = some (.int .i64 (Ck.base n cap).loss) ∧ X.cell? ⟨g, 5, none⟩ = some (.int .i64 (Ck.base n cap).cap) ∧ X.cell? ⟨g, 6, none⟩ = some (.slice V'.Th x'.there.length V'.ct) ∧ X.cell? ⟨g, 7, none⟩ = some (.slice V'.Sa x'.saved.length V'.cs) ∧ X.cell? ⟨g, 8, none⟩ = some (.slice V'.Gr x'.grads.length V'.cg) ∧ X.cell? ⟨g, 9, none⟩ = some (.int .i64 0) ∧ X.cell? ⟨g, 10, none⟩ = some (.int .i64 x'.sd) ∧ X.cell? ⟨g, 11, none⟩ = some (.int .i64 x'.done) ∧ X.cell? ⟨g, 12, none⟩ = some (.int .i64 x'.peak)) (by kernel_rfl) ?_ (fun hHeld => ?_)
            · (try dsimp only); (first | (with_reducible exact ⟨y0, y1, y2, y3, y4, y5, y6, y7, y8, y9, y10, y11, y12⟩) | exact ⟨Later.cell (show Later wd _ by repeat (first | (with_reducible exact Later.refl _) | (with_reducible apply Later.drew) | (with_reducible apply Later.alloc) | (with_reducible refine Later.call ?_ (by assumption)))) y0, Later.cell (show Later wd _ by repeat (first | (with_reducible exact Later.refl _) | (with_reducible apply Later.drew) | (with_reducible apply Later.alloc) | (with_reducible refine Later.call ?_ (by assumption)))) y1, Later.cell (show Later wd _ by repeat (first | (with_reducible exact Later.refl _) | (with_reducible apply Later.drew) | (with_reducible apply Later.alloc) | (with_reducible refine Later.call ?_ (by assumption)))) y2, Later.cell (show Later wd _ by repeat (first | (with_reducible exact Later.refl _) | (with_reducible apply Later.drew) | (with_reducible apply Later.alloc) | (with_reducible refine Later.call ?_ (by assumption)))) y3, Later.cell (show Later wd _ by repeat (first | (with_reducible exact Later.refl _) | (with_reducible apply Later.drew) | (with_reducible apply Later.alloc) | (with_reducible refine Later.call ?_ (by assumption)))) y4, Later.cell (show Later wd _ by repeat (first | (with_reducible exact Later.refl _) | (with_reducible apply Later.drew) | (with_reducible apply Later.alloc) | (with_reducible refine Later.call ?_ (by assumption)))) y5, Later.cell (show Later wd _ by repeat (first | (with_reducible exact Later.refl _) | (with_reducible apply Later.drew) | (with_reducible apply Later.alloc) | (with_reducible refine Later.call ?_ (by assumption)))) y6, Later.cell (show Later wd _ by repeat (first | (with_reducible exact Later.refl _) | (with_reducible apply Later.drew) | (with_reducible apply Later.alloc) | (with_reducible refine Later.call ?_ (by assumption)))) y7, Later.cell (show Later wd _ by repeat (first | (with_reducible exact Later.refl _) | (with_reducible apply Later.drew) | (with_reducible apply Later.alloc) | (with_reducible refine Later.call ?_ (by assumption)))) y8, Later.cell (show Later wd _ by repeat (first | (with_reducible exact Later.refl _) | (with_reducible apply Later.drew) | (with_reducible apply Later.alloc) | (with_reducible refine Later.call ?_ (by assumption)))) y9, Later.cell (show Later wd _ by repeat (first | (with_reducible exact Later.refl _) | (with_reducible apply Later.drew) | (with_reducible apply Later.alloc) | (with_reducible refine Later.call ?_ (by assumption)))) y10, Later.cell (show Later wd _ by repeat (first | (with_reducible exact Later.refl _) | (with_reducible apply Later.drew) | (with_reducible apply Later.alloc) | (with_reducible refine Later.call ?_ (by assumption)))) y11, Later.cell (show Later wd _ by repeat (first | (with_reducible exact Later.refl _) | (with_reducible apply Later.drew) | (with_reducible apply Later.alloc) | (with_reducible refine Later.call ?_ (by assumption)))) y12⟩)
            refine wpAnyH_take (i := 0) (oi := _) (v := ?v0) rfl (by kernel_rfl) (by kernel_rfl) (by kernel_rfl) (fun _ _ _ h => h) (Or.inl ⟨by rfl, ?y0⟩) (by assumption) ?r0
            case y0 => (simp only [List.getElem_toArray, List.getElem_cons_zero]; intro w hSw; (try dsimp only at hSw); go_simp; first | done | with_reducible rfl)
            try simp only [List.getElem_toArray, List.getElem_cons_zero, Act.put, List.setIfInBounds_toArray, List.set_cons_zero, List.set_cons_succ]
            refine wpAnyH_take (i := 1) (oi := _) (v := ?v1) rfl (by kernel_rfl) (by kernel_rfl) (by kernel_rfl) (fun _ _ _ h => h) (Or.inl ⟨by rfl, ?y1⟩) (by assumption) ?r1
            case y1 => (simp only [List.getElem_toArray, List.getElem_cons_succ, List.getElem_cons_zero]; intro w hSw; (try dsimp only at hSw); go_simp; first | done | with_reducible rfl)
            try simp only [List.getElem_toArray, List.getElem_cons_succ, List.getElem_cons_zero, Act.put, List.setIfInBounds_toArray, List.set_cons_zero, List.set_cons_succ]
            refine wpAnyH_take (i := 2) (oi := _) (v := ?v2) rfl (by kernel_rfl) (by kernel_rfl) (by kernel_rfl) (fun _ _ _ h => h) (Or.inl ⟨by rfl, ?y2⟩) (by assumption) ?r2
            case y2 => (simp only [List.getElem_toArray, List.getElem_cons_succ, List.getElem_cons_zero]; intro w hSw; (try dsimp only at hSw); go_simp; first | done | with_reducible rfl)
            try simp only [List.getElem_toArray, List.getElem_cons_succ, List.getElem_cons_zero, Act.put, List.setIfInBounds_toArray, List.set_cons_zero, List.set_cons_succ]
            refine wpAnyH_take (i := 3) (oi := _) (v := ?v3) rfl (by kernel_rfl) (by kernel_rfl) (by kernel_rfl) (fun _ _ _ h => h) (Or.inl ⟨by rfl, ?y3⟩) (by assumption) ?r3
            case y3 => (simp only [List.getElem_toArray, List.getElem_cons_succ, List.getElem_cons_zero]; intro w hSw; (try dsimp only at hSw); go_simp; first | done | with_reducible rfl)
            try simp only [List.getElem_toArray, List.getElem_cons_succ, List.getElem_cons_zero, Act.put, List.setIfInBounds_toArray, List.set_cons_zero, List.set_cons_succ]
            refine wpAnyH_take (i := 4) (oi := _) (v := ?v4) rfl (by kernel_rfl) (by kernel_rfl) (by kernel_rfl) (fun _ _ _ h => h) (Or.inl ⟨by rfl, ?y4⟩) (by assumption) ?r4
            case y4 => (simp only [List.getElem_toArray, List.getElem_cons_succ, List.getElem_cons_zero]; intro w hSw; (try dsimp only at hSw); go_simp; first | done | with_reducible rfl)
            try simp only [List.getElem_toArray, List.getElem_cons_succ, List.getElem_cons_zero, Act.put, List.setIfInBounds_toArray, List.set_cons_zero, List.set_cons_succ]
            refine wpAnyH_take (i := 6) (oi := _) (v := ?v6) rfl (by kernel_rfl) (by kernel_rfl) (by kernel_rfl) (fun _ _ _ h => h) (Or.inl ⟨by rfl, ?y6⟩) (by assumption) ?r6
            case y6 => (simp only [List.getElem_toArray, List.getElem_cons_succ, List.getElem_cons_zero]; intro w hSw; (try dsimp only at hSw); go_simp; first | done | with_reducible rfl)
            try simp only [List.getElem_toArray, List.getElem_cons_succ, List.getElem_cons_zero, Act.put, List.setIfInBounds_toArray, List.set_cons_zero, List.set_cons_succ]
            refine wpAnyH_ready (rs := [5]) (by kernel_rfl) (by simp) ?_
            refine AllReadyH.cons (o := _) rfl (fun K hK => ?_) AllReadyH.nil
            simp only [List.getElem_toArray, List.getElem_cons_succ, List.getElem_cons_zero]
            go_simp
            go_at_call 16; refine (HWds.out _ (show Later wd _ by repeat (first | (with_reducible exact Later.refl _) | (with_reducible apply Later.drew) | (with_reducible apply Later.alloc) | (with_reducible refine Later.call ?_ (by assumption))))).mono ?_; rintro e v1 ⟨rfl, rfl⟩
            try go_wp2_with fail
            refine hK.out _ _ ?_ (fun hHeld => ?_)
            · (try dsimp only); (first | (with_reducible exact ⟨y0, y1, y2, y3, y4, y5, y6, y7, y8, y9, y10, y11, y12⟩) | exact ⟨Later.cell (show Later wd _ by repeat (first | (with_reducible exact Later.refl _) | (with_reducible apply Later.drew) | (with_reducible apply Later.alloc) | (with_reducible refine Later.call ?_ (by assumption)))) y0, Later.cell (show Later wd _ by repeat (first | (with_reducible exact Later.refl _) | (with_reducible apply Later.drew) | (with_reducible apply Later.alloc) | (with_reducible refine Later.call ?_ (by assumption)))) y1, Later.cell (show Later wd _ by repeat (first | (with_reducible exact Later.refl _) | (with_reducible apply Later.drew) | (with_reducible apply Later.alloc) | (with_reducible refine Later.call ?_ (by assumption)))) y2, Later.cell (show Later wd _ by repeat (first | (with_reducible exact Later.refl _) | (with_reducible apply Later.drew) | (with_reducible apply Later.alloc) | (with_reducible refine Later.call ?_ (by assumption)))) y3, Later.cell (show Later wd _ by repeat (first | (with_reducible exact Later.refl _) | (with_reducible apply Later.drew) | (with_reducible apply Later.alloc) | (with_reducible refine Later.call ?_ (by assumption)))) y4, Later.cell (show Later wd _ by repeat (first | (with_reducible exact Later.refl _) | (with_reducible apply Later.drew) | (with_reducible apply Later.alloc) | (with_reducible refine Later.call ?_ (by assumption)))) y5, Later.cell (show Later wd _ by repeat (first | (with_reducible exact Later.refl _) | (with_reducible apply Later.drew) | (with_reducible apply Later.alloc) | (with_reducible refine Later.call ?_ (by assumption)))) y6, Later.cell (show Later wd _ by repeat (first | (with_reducible exact Later.refl _) | (with_reducible apply Later.drew) | (with_reducible apply Later.alloc) | (with_reducible refine Later.call ?_ (by assumption)))) y7, Later.cell (show Later wd _ by repeat (first | (with_reducible exact Later.refl _) | (with_reducible apply Later.drew) | (with_reducible apply Later.alloc) | (with_reducible refine Later.call ?_ (by assumption)))) y8, Later.cell (show Later wd _ by repeat (first | (with_reducible exact Later.refl _) | (with_reducible apply Later.drew) | (with_reducible apply Later.alloc) | (with_reducible refine Later.call ?_ (by assumption)))) y9, Later.cell (show Later wd _ by repeat (first | (with_reducible exact Later.refl _) | (with_reducible apply Later.drew) | (with_reducible apply Later.alloc) | (with_reducible refine Later.call ?_ (by assumption)))) y10, Later.cell (show Later wd _ by repeat (first | (with_reducible exact Later.refl _) | (with_reducible apply Later.drew) | (with_reducible apply Later.alloc) | (with_reducible refine Later.call ?_ (by assumption)))) y11, Later.cell (show Later wd _ by repeat (first | (with_reducible exact Later.refl _) | (with_reducible apply Later.drew) | (with_reducible apply Later.alloc) | (with_reducible refine Later.call ?_ (by assumption)))) y12⟩)
            clear hK K
            try simp only [List.getElem_toArray, List.getElem_cons_succ, List.getElem_cons_zero, Act.put, List.setIfInBounds_toArray, List.set_cons_zero, List.set_cons_succ]
            refine wpAnyH_ready (rs := [7]) (by kernel_rfl) (by simp) ?_
            refine AllReadyH.cons (o := _) rfl (fun K hK => ?_) AllReadyH.nil
            simp only [List.getElem_toArray, List.getElem_cons_succ, List.getElem_cons_zero]
            go_simp
            go_at_call 17; refine (HSum.out _ (show Later wd _ by repeat (first | (with_reducible exact Later.refl _) | (with_reducible apply Later.drew) | (with_reducible apply Later.alloc) | (with_reducible refine Later.call ?_ (by assumption))))).mono ?_; rintro e v2 ⟨rfl, hbs⟩; have hbs2 : Below _ _ v2 := hbs
            try go_wp2_with fail
            refine hK.out _ _ ?_ (fun hHeld => ?_)
            · (try dsimp only); (first | (with_reducible exact ⟨y0, y1, y2, y3, y4, y5, y6, y7, y8, y9, y10, y11, y12⟩) | exact ⟨Later.cell (show Later wd _ by repeat (first | (with_reducible exact Later.refl _) | (with_reducible apply Later.drew) | (with_reducible apply Later.alloc) | (with_reducible refine Later.call ?_ (by assumption)))) y0, Later.cell (show Later wd _ by repeat (first | (with_reducible exact Later.refl _) | (with_reducible apply Later.drew) | (with_reducible apply Later.alloc) | (with_reducible refine Later.call ?_ (by assumption)))) y1, Later.cell (show Later wd _ by repeat (first | (with_reducible exact Later.refl _) | (with_reducible apply Later.drew) | (with_reducible apply Later.alloc) | (with_reducible refine Later.call ?_ (by assumption)))) y2, Later.cell (show Later wd _ by repeat (first | (with_reducible exact Later.refl _) | (with_reducible apply Later.drew) | (with_reducible apply Later.alloc) | (with_reducible refine Later.call ?_ (by assumption)))) y3, Later.cell (show Later wd _ by repeat (first | (with_reducible exact Later.refl _) | (with_reducible apply Later.drew) | (with_reducible apply Later.alloc) | (with_reducible refine Later.call ?_ (by assumption)))) y4, Later.cell (show Later wd _ by repeat (first | (with_reducible exact Later.refl _) | (with_reducible apply Later.drew) | (with_reducible apply Later.alloc) | (with_reducible refine Later.call ?_ (by assumption)))) y5, Later.cell (show Later wd _ by repeat (first | (with_reducible exact Later.refl _) | (with_reducible apply Later.drew) | (with_reducible apply Later.alloc) | (with_reducible refine Later.call ?_ (by assumption)))) y6, Later.cell (show Later wd _ by repeat (first | (with_reducible exact Later.refl _) | (with_reducible apply Later.drew) | (with_reducible apply Later.alloc) | (with_reducible refine Later.call ?_ (by assumption)))) y7, Later.cell (show Later wd _ by repeat (first | (with_reducible exact Later.refl _) | (with_reducible apply Later.drew) | (with_reducible apply Later.alloc) | (with_reducible refine Later.call ?_ (by assumption)))) y8, Later.cell (show Later wd _ by repeat (first | (with_reducible exact Later.refl _) | (with_reducible apply Later.drew) | (with_reducible apply Later.alloc) | (with_reducible refine Later.call ?_ (by assumption)))) y9, Later.cell (show Later wd _ by repeat (first | (with_reducible exact Later.refl _) | (with_reducible apply Later.drew) | (with_reducible apply Later.alloc) | (with_reducible refine Later.call ?_ (by assumption)))) y10, Later.cell (show Later wd _ by repeat (first | (with_reducible exact Later.refl _) | (with_reducible apply Later.drew) | (with_reducible apply Later.alloc) | (with_reducible refine Later.call ?_ (by assumption)))) y11, Later.cell (show Later wd _ by repeat (first | (with_reducible exact Later.refl _) | (with_reducible apply Later.drew) | (with_reducible apply Later.alloc) | (with_reducible refine Later.call ?_ (by assumption)))) y12⟩)
            clear hK K
            try simp only [List.getElem_toArray, List.getElem_cons_succ, List.getElem_cons_zero, Act.put, List.setIfInBounds_toArray, List.set_cons_zero, List.set_cons_succ]
            refine wpAnyH_take (i := 8) (oi := _) (v := ?v8) rfl (by kernel_rfl) (by kernel_rfl) (by kernel_rfl) (fun _ _ _ h => h) (Or.inl ⟨by rfl, ?y8⟩) (by assumption) ?r8
            case y8 => (simp only [List.getElem_toArray, List.getElem_cons_succ, List.getElem_cons_zero]; intro w hSw; (try dsimp only at hSw); go_simp; first | done | with_reducible rfl)
            try simp only [List.getElem_toArray, List.getElem_cons_succ, List.getElem_cons_zero, Act.put, List.setIfInBounds_toArray, List.set_cons_zero, List.set_cons_succ]
            refine wpAnyH_take (i := 9) (oi := _) (v := ?v9) rfl (by kernel_rfl) (by kernel_rfl) (by kernel_rfl) (fun _ _ _ h => h) (Or.inl ⟨by rfl, ?y9⟩) (by assumption) ?r9
            case y9 => (simp only [List.getElem_toArray, List.getElem_cons_succ, List.getElem_cons_zero]; intro w hSw; (try dsimp only at hSw); go_simp; first | done | with_reducible rfl)
            try simp only [List.getElem_toArray, List.getElem_cons_succ, List.getElem_cons_zero, Act.put, List.setIfInBounds_toArray, List.set_cons_zero, List.set_cons_succ]
            refine wpAnyH_take (i := 10) (oi := _) (v := ?v10) rfl (by kernel_rfl) (by kernel_rfl) (by kernel_rfl) (fun _ _ _ h => h) (Or.inl ⟨by rfl, ?y10⟩) (by assumption) ?r10
            case y10 => (simp only [List.getElem_toArray, List.getElem_cons_succ, List.getElem_cons_zero]; intro w hSw; (try dsimp only at hSw); go_simp; first | done | with_reducible rfl)
            try simp only [List.getElem_toArray, List.getElem_cons_succ, List.getElem_cons_zero, Act.put, List.setIfInBounds_toArray, List.set_cons_zero, List.set_cons_succ]
            refine wpAnyH_take (i := 11) (oi := _) (v := ?v11) rfl (by kernel_rfl) (by kernel_rfl) (by kernel_rfl) (fun _ _ _ h => h) (Or.inl ⟨by rfl, ?y11⟩) (by assumption) ?r11
            case y11 => (simp only [List.getElem_toArray, List.getElem_cons_succ, List.getElem_cons_zero]; intro w hSw; (try dsimp only at hSw); go_simp; first | done | with_reducible rfl)
            try simp only [List.getElem_toArray, List.getElem_cons_succ, List.getElem_cons_zero, Act.put, List.setIfInBounds_toArray, List.set_cons_zero, List.set_cons_succ]
            refine wpAnyH_take (i := 13) (oi := _) (v := ?v13) rfl (by kernel_rfl) (by kernel_rfl) (by kernel_rfl) (fun _ _ _ h => h) (Or.inl ⟨by rfl, ?y13⟩) (by assumption) ?r13
            case y13 => (simp only [List.getElem_toArray, List.getElem_cons_succ, List.getElem_cons_zero]; intro w hSw; (try dsimp only at hSw); go_simp; first | done | with_reducible rfl)
            try simp only [List.getElem_toArray, List.getElem_cons_succ, List.getElem_cons_zero, Act.put, List.setIfInBounds_toArray, List.set_cons_zero, List.set_cons_succ]
            refine wpAnyH_take (i := 14) (oi := _) (v := ?v14) rfl (by kernel_rfl) (by kernel_rfl) (by kernel_rfl) (fun _ _ _ h => h) (Or.inl ⟨by rfl, ?y14⟩) (by assumption) ?r14
            case y14 => (simp only [List.getElem_toArray, List.getElem_cons_succ, List.getElem_cons_zero]; intro w hSw; (try dsimp only at hSw); go_simp; first | done | with_reducible rfl)
            try simp only [List.getElem_toArray, List.getElem_cons_succ, List.getElem_cons_zero, Act.put, List.setIfInBounds_toArray, List.set_cons_zero, List.set_cons_succ]
            refine wpAnyH_ready (rs := [12]) (by kernel_rfl) (by simp) ?_
            refine AllReadyH.cons (o := _) rfl (fun K hK => ?_) AllReadyH.nil
            simp only [List.getElem_toArray, List.getElem_cons_succ, List.getElem_cons_zero]
            go_simp
            go_at_call 18; refine (HPk.out _ (show Later wd _ by repeat (first | (with_reducible exact Later.refl _) | (with_reducible apply Later.drew) | (with_reducible apply Later.alloc) | (with_reducible refine Later.call ?_ (by assumption))))).mono ?_; rintro e v1 ⟨rfl, rfl⟩
            try go_wp2_with fail
            refine hK.out _ _ ?_ (fun hHeld => ?_)
            · (try dsimp only); (first | (with_reducible exact ⟨y0, y1, y2, y3, y4, y5, y6, y7, y8, y9, y10, y11, y12⟩) | exact ⟨Later.cell (show Later wd _ by repeat (first | (with_reducible exact Later.refl _) | (with_reducible apply Later.drew) | (with_reducible apply Later.alloc) | (with_reducible refine Later.call ?_ (by assumption)))) y0, Later.cell (show Later wd _ by repeat (first | (with_reducible exact Later.refl _) | (with_reducible apply Later.drew) | (with_reducible apply Later.alloc) | (with_reducible refine Later.call ?_ (by assumption)))) y1, Later.cell (show Later wd _ by repeat (first | (with_reducible exact Later.refl _) | (with_reducible apply Later.drew) | (with_reducible apply Later.alloc) | (with_reducible refine Later.call ?_ (by assumption)))) y2, Later.cell (show Later wd _ by repeat (first | (with_reducible exact Later.refl _) | (with_reducible apply Later.drew) | (with_reducible apply Later.alloc) | (with_reducible refine Later.call ?_ (by assumption)))) y3, Later.cell (show Later wd _ by repeat (first | (with_reducible exact Later.refl _) | (with_reducible apply Later.drew) | (with_reducible apply Later.alloc) | (with_reducible refine Later.call ?_ (by assumption)))) y4, Later.cell (show Later wd _ by repeat (first | (with_reducible exact Later.refl _) | (with_reducible apply Later.drew) | (with_reducible apply Later.alloc) | (with_reducible refine Later.call ?_ (by assumption)))) y5, Later.cell (show Later wd _ by repeat (first | (with_reducible exact Later.refl _) | (with_reducible apply Later.drew) | (with_reducible apply Later.alloc) | (with_reducible refine Later.call ?_ (by assumption)))) y6, Later.cell (show Later wd _ by repeat (first | (with_reducible exact Later.refl _) | (with_reducible apply Later.drew) | (with_reducible apply Later.alloc) | (with_reducible refine Later.call ?_ (by assumption)))) y7, Later.cell (show Later wd _ by repeat (first | (with_reducible exact Later.refl _) | (with_reducible apply Later.drew) | (with_reducible apply Later.alloc) | (with_reducible refine Later.call ?_ (by assumption)))) y8, Later.cell (show Later wd _ by repeat (first | (with_reducible exact Later.refl _) | (with_reducible apply Later.drew) | (with_reducible apply Later.alloc) | (with_reducible refine Later.call ?_ (by assumption)))) y9, Later.cell (show Later wd _ by repeat (first | (with_reducible exact Later.refl _) | (with_reducible apply Later.drew) | (with_reducible apply Later.alloc) | (with_reducible refine Later.call ?_ (by assumption)))) y10, Later.cell (show Later wd _ by repeat (first | (with_reducible exact Later.refl _) | (with_reducible apply Later.drew) | (with_reducible apply Later.alloc) | (with_reducible refine Later.call ?_ (by assumption)))) y11, Later.cell (show Later wd _ by repeat (first | (with_reducible exact Later.refl _) | (with_reducible apply Later.drew) | (with_reducible apply Later.alloc) | (with_reducible refine Later.call ?_ (by assumption)))) y12⟩)
            clear hK K
            try simp only [List.getElem_toArray, List.getElem_cons_succ, List.getElem_cons_zero, Act.put, List.setIfInBounds_toArray, List.set_cons_zero, List.set_cons_succ]
            refine wpAnyH_take (i := 15) (oi := _) (v := ?v15) rfl (by kernel_rfl) (by kernel_rfl) (by kernel_rfl) (fun _ _ _ h => h) (Or.inl ⟨by rfl, ?y15⟩) (by assumption) ?r15
            case y15 => (simp only [List.getElem_toArray, List.getElem_cons_succ, List.getElem_cons_zero]; intro w hSw; (try dsimp only at hSw); go_simp; first | done | with_reducible rfl)
            try simp only [List.getElem_toArray, List.getElem_cons_succ, List.getElem_cons_zero, Act.put, List.setIfInBounds_toArray, List.set_cons_zero, List.set_cons_succ]
            refine wpAnyH_take (i := 16) (oi := _) (v := ?v16) rfl (by kernel_rfl) (by kernel_rfl) (by kernel_rfl) (fun _ _ _ h => h) (Or.inl ⟨by rfl, ?y16⟩) (by assumption) ?r16
            case y16 => (simp only [List.getElem_toArray, List.getElem_cons_succ, List.getElem_cons_zero]; intro w hSw; (try dsimp only at hSw); go_simp; first | done | with_reducible rfl)
            try simp only [List.getElem_toArray, List.getElem_cons_succ, List.getElem_cons_zero, Act.put, List.setIfInBounds_toArray, List.set_cons_zero, List.set_cons_succ]
            refine wpAnyH_take (i := 17) (oi := _) (v := ?v17) rfl (by kernel_rfl) (by kernel_rfl) (by kernel_rfl) (fun _ _ _ h => h) (Or.inl ⟨by rfl, ?y17⟩) (by assumption) ?r17
            case y17 => (simp only [List.getElem_toArray, List.getElem_cons_succ, List.getElem_cons_zero]; intro w hSw; (try dsimp only at hSw); go_simp; first | done | with_reducible rfl)
            try simp only [List.getElem_toArray, List.getElem_cons_succ, List.getElem_cons_zero, Act.put, List.setIfInBounds_toArray, List.set_cons_zero, List.set_cons_succ]
            refine wpAnyH_take (i := 18) (oi := _) (v := ?v18) rfl (by kernel_rfl) (by kernel_rfl) (by kernel_rfl) (fun _ _ _ h => h) (Or.inl ⟨by rfl, ?y18⟩) (by assumption) ?r18
            case y18 => (simp only [List.getElem_toArray, List.getElem_cons_succ, List.getElem_cons_zero]; intro w hSw; (try dsimp only at hSw); go_simp; first | done | with_reducible rfl)
            try simp only [List.getElem_toArray, List.getElem_cons_succ, List.getElem_cons_zero, Act.put, List.setIfInBounds_toArray, List.set_cons_zero, List.set_cons_succ]
            refine wpAnyH_take (i := 20) (oi := _) (v := ?v20) rfl (by kernel_rfl) (by kernel_rfl) (by kernel_rfl) (fun _ _ _ h => h) (Or.inl ⟨by rfl, ?y20⟩) (by assumption) ?r20
            case y20 => (simp only [List.getElem_toArray, List.getElem_cons_succ, List.getElem_cons_zero]; intro w hSw; (try dsimp only at hSw); go_simp; first | done | with_reducible rfl)
            try simp only [List.getElem_toArray, List.getElem_cons_succ, List.getElem_cons_zero, Act.put, List.setIfInBounds_toArray, List.set_cons_zero, List.set_cons_succ]
            refine wpAnyH_take (i := 21) (oi := _) (v := ?v21) rfl (by kernel_rfl) (by kernel_rfl) (by kernel_rfl) (fun _ _ _ h => h) (Or.inl ⟨by rfl, ?y21⟩) (by assumption) ?r21
            case y21 => (simp only [List.getElem_toArray, List.getElem_cons_succ, List.getElem_cons_zero]; intro w hSw; (try dsimp only at hSw); go_simp; first | done | with_reducible rfl)
            try simp only [List.getElem_toArray, List.getElem_cons_succ, List.getElem_cons_zero, Act.put, List.setIfInBounds_toArray, List.set_cons_zero, List.set_cons_succ]
            refine wpAnyH_ready (rs := [19]) (by kernel_rfl) (by simp) ?_
            refine AllReadyH.cons (o := _) rfl (fun K hK => ?_) AllReadyH.nil
            simp only [List.getElem_toArray, List.getElem_cons_succ, List.getElem_cons_zero]
            go_simp
            go_at_call 19; refine (HDn.out _ (show Later wd _ by repeat (first | (with_reducible exact Later.refl _) | (with_reducible apply Later.drew) | (with_reducible apply Later.alloc) | (with_reducible refine Later.call ?_ (by assumption))))).mono ?_; rintro e v1 ⟨rfl, rfl⟩
            try go_wp2_with fail
            refine hK.out _ _ ?_ (fun hHeld => ?_)
            · (try dsimp only); (first | (with_reducible exact ⟨y0, y1, y2, y3, y4, y5, y6, y7, y8, y9, y10, y11, y12⟩) | exact ⟨Later.cell (show Later wd _ by repeat (first | (with_reducible exact Later.refl _) | (with_reducible apply Later.drew) | (with_reducible apply Later.alloc) | (with_reducible refine Later.call ?_ (by assumption)))) y0, Later.cell (show Later wd _ by repeat (first | (with_reducible exact Later.refl _) | (with_reducible apply Later.drew) | (with_reducible apply Later.alloc) | (with_reducible refine Later.call ?_ (by assumption)))) y1, Later.cell (show Later wd _ by repeat (first | (with_reducible exact Later.refl _) | (with_reducible apply Later.drew) | (with_reducible apply Later.alloc) | (with_reducible refine Later.call ?_ (by assumption)))) y2, Later.cell (show Later wd _ by repeat (first | (with_reducible exact Later.refl _) | (with_reducible apply Later.drew) | (with_reducible apply Later.alloc) | (with_reducible refine Later.call ?_ (by assumption)))) y3, Later.cell (show Later wd _ by repeat (first | (with_reducible exact Later.refl _) | (with_reducible apply Later.drew) | (with_reducible apply Later.alloc) | (with_reducible refine Later.call ?_ (by assumption)))) y4, Later.cell (show Later wd _ by repeat (first | (with_reducible exact Later.refl _) | (with_reducible apply Later.drew) | (with_reducible apply Later.alloc) | (with_reducible refine Later.call ?_ (by assumption)))) y5, Later.cell (show Later wd _ by repeat (first | (with_reducible exact Later.refl _) | (with_reducible apply Later.drew) | (with_reducible apply Later.alloc) | (with_reducible refine Later.call ?_ (by assumption)))) y6, Later.cell (show Later wd _ by repeat (first | (with_reducible exact Later.refl _) | (with_reducible apply Later.drew) | (with_reducible apply Later.alloc) | (with_reducible refine Later.call ?_ (by assumption)))) y7, Later.cell (show Later wd _ by repeat (first | (with_reducible exact Later.refl _) | (with_reducible apply Later.drew) | (with_reducible apply Later.alloc) | (with_reducible refine Later.call ?_ (by assumption)))) y8, Later.cell (show Later wd _ by repeat (first | (with_reducible exact Later.refl _) | (with_reducible apply Later.drew) | (with_reducible apply Later.alloc) | (with_reducible refine Later.call ?_ (by assumption)))) y9, Later.cell (show Later wd _ by repeat (first | (with_reducible exact Later.refl _) | (with_reducible apply Later.drew) | (with_reducible apply Later.alloc) | (with_reducible refine Later.call ?_ (by assumption)))) y10, Later.cell (show Later wd _ by repeat (first | (with_reducible exact Later.refl _) | (with_reducible apply Later.drew) | (with_reducible apply Later.alloc) | (with_reducible refine Later.call ?_ (by assumption)))) y11, Later.cell (show Later wd _ by repeat (first | (with_reducible exact Later.refl _) | (with_reducible apply Later.drew) | (with_reducible apply Later.alloc) | (with_reducible refine Later.call ?_ (by assumption)))) y12⟩)
            clear hK K
            try simp only [List.getElem_toArray, List.getElem_cons_succ, List.getElem_cons_zero, Act.put, List.setIfInBounds_toArray, List.set_cons_zero, List.set_cons_succ]
            refine wpAnyH_take (i := 22) (oi := _) (v := ?v22) rfl (by kernel_rfl) (by kernel_rfl) (by kernel_rfl) (fun _ _ _ h => h) (Or.inl ⟨by rfl, ?y22⟩) (by assumption) ?r22
            case y22 => (simp only [List.getElem_toArray, List.getElem_cons_succ, List.getElem_cons_zero]; intro w hSw; (try dsimp only at hSw); go_simp; first | done | with_reducible rfl)
            try simp only [List.getElem_toArray, List.getElem_cons_succ, List.getElem_cons_zero, Act.put, List.setIfInBounds_toArray, List.set_cons_zero, List.set_cons_succ]
            refine wpAnyH_take (i := 23) (oi := _) (v := ?v23) rfl (by kernel_rfl) (by kernel_rfl) (by kernel_rfl) (fun _ _ _ h => h) (Or.inl ⟨by rfl, ?y23⟩) (by assumption) ?r23
            case y23 => (simp only [List.getElem_toArray, List.getElem_cons_succ, List.getElem_cons_zero]; intro w hSw; (try dsimp only at hSw); go_simp; first | done | with_reducible rfl)
            try simp only [List.getElem_toArray, List.getElem_cons_succ, List.getElem_cons_zero, Act.put, List.setIfInBounds_toArray, List.set_cons_zero, List.set_cons_succ]
            refine wpAnyH_take (i := 24) (oi := _) (v := ?v24) rfl (by kernel_rfl) (by kernel_rfl) (by kernel_rfl) (fun _ _ _ h => h) (Or.inl ⟨by rfl, ?y24⟩) (by assumption) ?r24
            case y24 => (simp only [List.getElem_toArray, List.getElem_cons_succ, List.getElem_cons_zero]; intro w hSw; (try dsimp only at hSw); go_simp; first | done | with_reducible rfl)
            try simp only [List.getElem_toArray, List.getElem_cons_succ, List.getElem_cons_zero, Act.put, List.setIfInBounds_toArray, List.set_cons_zero, List.set_cons_succ]
            refine wpAnyH_take (i := 25) (oi := _) (v := ?v25) rfl (by kernel_rfl) (by kernel_rfl) (by kernel_rfl) (fun _ _ _ h => h) (Or.inl ⟨by rfl, ?y25⟩) (by assumption) ?r25
            case y25 => (simp only [List.getElem_toArray, List.getElem_cons_succ, List.getElem_cons_zero]; intro w hSw; (try dsimp only at hSw); go_simp; first | done | with_reducible rfl)
            try simp only [List.getElem_toArray, List.getElem_cons_succ, List.getElem_cons_zero, Act.put, List.setIfInBounds_toArray, List.set_cons_zero, List.set_cons_succ]
            refine wpAnyH_take (i := 27) (oi := _) (v := ?v27) rfl (by kernel_rfl) (by kernel_rfl) (by kernel_rfl) (fun _ _ _ h => h) (Or.inl ⟨by rfl, ?y27⟩) (by assumption) ?r27
            case y27 => (simp only [List.getElem_toArray, List.getElem_cons_succ, List.getElem_cons_zero]; intro w hSw; (try dsimp only at hSw); go_simp; first | done | with_reducible rfl)
            try simp only [List.getElem_toArray, List.getElem_cons_succ, List.getElem_cons_zero, Act.put, List.setIfInBounds_toArray, List.set_cons_zero, List.set_cons_succ]
            refine wpAnyH_take (i := 28) (oi := _) (v := ?v28) rfl (by kernel_rfl) (by kernel_rfl) (by kernel_rfl) (fun _ _ _ h => h) (Or.inl ⟨by rfl, ?y28⟩) (by assumption) ?r28
            case y28 => (simp only [List.getElem_toArray, List.getElem_cons_succ, List.getElem_cons_zero]; intro w hSw; (try dsimp only at hSw); go_simp; first | done | with_reducible rfl)
            try simp only [List.getElem_toArray, List.getElem_cons_succ, List.getElem_cons_zero, Act.put, List.setIfInBounds_toArray, List.set_cons_zero, List.set_cons_succ]
            refine wpAnyH_take (i := 29) (oi := _) (v := ?v29) rfl (by kernel_rfl) (by kernel_rfl) (by kernel_rfl) (fun _ _ _ h => h) (Or.inl ⟨by rfl, ?y29⟩) (by assumption) ?r29
            case y29 => (simp only [List.getElem_toArray, List.getElem_cons_succ, List.getElem_cons_zero]; intro w hSw; (try dsimp only at hSw); go_simp; first | done | with_reducible rfl)
            try simp only [List.getElem_toArray, List.getElem_cons_succ, List.getElem_cons_zero, Act.put, List.setIfInBounds_toArray, List.set_cons_zero, List.set_cons_succ]
            refine wpAnyH_ready (rs := [26]) (by kernel_rfl) (by simp) ?_
            refine AllReadyH.cons (o := _) rfl (fun K hK => ?_) AllReadyH.nil
            simp only [List.getElem_toArray, List.getElem_cons_succ, List.getElem_cons_zero]
            go_simp
            go_at_call 20; refine (HWh.out _ (show Later wd _ by repeat (first | (with_reducible exact Later.refl _) | (with_reducible apply Later.drew) | (with_reducible apply Later.alloc) | (with_reducible refine Later.call ?_ (by assumption))))).mono ?_; rintro e v3 ⟨rfl, hbw⟩; have hbw2 : Below _ _ v3 := hbw
            try go_wp2_with fail
            refine hK.out _ _ ?_ (fun hHeld => ?_)
            · (try dsimp only); (first | (with_reducible exact ⟨y0, y1, y2, y3, y4, y5, y6, y7, y8, y9, y10, y11, y12⟩) | exact ⟨Later.cell (show Later wd _ by repeat (first | (with_reducible exact Later.refl _) | (with_reducible apply Later.drew) | (with_reducible apply Later.alloc) | (with_reducible refine Later.call ?_ (by assumption)))) y0, Later.cell (show Later wd _ by repeat (first | (with_reducible exact Later.refl _) | (with_reducible apply Later.drew) | (with_reducible apply Later.alloc) | (with_reducible refine Later.call ?_ (by assumption)))) y1, Later.cell (show Later wd _ by repeat (first | (with_reducible exact Later.refl _) | (with_reducible apply Later.drew) | (with_reducible apply Later.alloc) | (with_reducible refine Later.call ?_ (by assumption)))) y2, Later.cell (show Later wd _ by repeat (first | (with_reducible exact Later.refl _) | (with_reducible apply Later.drew) | (with_reducible apply Later.alloc) | (with_reducible refine Later.call ?_ (by assumption)))) y3, Later.cell (show Later wd _ by repeat (first | (with_reducible exact Later.refl _) | (with_reducible apply Later.drew) | (with_reducible apply Later.alloc) | (with_reducible refine Later.call ?_ (by assumption)))) y4, Later.cell (show Later wd _ by repeat (first | (with_reducible exact Later.refl _) | (with_reducible apply Later.drew) | (with_reducible apply Later.alloc) | (with_reducible refine Later.call ?_ (by assumption)))) y5, Later.cell (show Later wd _ by repeat (first | (with_reducible exact Later.refl _) | (with_reducible apply Later.drew) | (with_reducible apply Later.alloc) | (with_reducible refine Later.call ?_ (by assumption)))) y6, Later.cell (show Later wd _ by repeat (first | (with_reducible exact Later.refl _) | (with_reducible apply Later.drew) | (with_reducible apply Later.alloc) | (with_reducible refine Later.call ?_ (by assumption)))) y7, Later.cell (show Later wd _ by repeat (first | (with_reducible exact Later.refl _) | (with_reducible apply Later.drew) | (with_reducible apply Later.alloc) | (with_reducible refine Later.call ?_ (by assumption)))) y8, Later.cell (show Later wd _ by repeat (first | (with_reducible exact Later.refl _) | (with_reducible apply Later.drew) | (with_reducible apply Later.alloc) | (with_reducible refine Later.call ?_ (by assumption)))) y9, Later.cell (show Later wd _ by repeat (first | (with_reducible exact Later.refl _) | (with_reducible apply Later.drew) | (with_reducible apply Later.alloc) | (with_reducible refine Later.call ?_ (by assumption)))) y10, Later.cell (show Later wd _ by repeat (first | (with_reducible exact Later.refl _) | (with_reducible apply Later.drew) | (with_reducible apply Later.alloc) | (with_reducible refine Later.call ?_ (by assumption)))) y11, Later.cell (show Later wd _ by repeat (first | (with_reducible exact Later.refl _) | (with_reducible apply Later.drew) | (with_reducible apply Later.alloc) | (with_reducible refine Later.call ?_ (by assumption)))) y12⟩)
            clear hK K
            try simp only [List.getElem_toArray, List.getElem_cons_succ, List.getElem_cons_zero, Act.put, List.setIfInBounds_toArray, List.set_cons_zero, List.set_cons_succ]
            refine wpAnyH_take (i := 30) (oi := _) (v := ?v30) rfl (by kernel_rfl) (by kernel_rfl) (by kernel_rfl) (fun _ _ _ h => h) (Or.inl ⟨by rfl, ?y30⟩) (by assumption) ?r30
            case y30 => (simp only [List.getElem_toArray, List.getElem_cons_succ, List.getElem_cons_zero]; intro w hSw; (try dsimp only at hSw); go_simp; first | done | with_reducible rfl)
            try simp only [List.getElem_toArray, List.getElem_cons_succ, List.getElem_cons_zero, Act.put, List.setIfInBounds_toArray, List.set_cons_zero, List.set_cons_succ]
            refine wpAnyH_take (i := 31) (oi := _) (v := undef) rfl (by kernel_rfl) (by kernel_rfl) (by kernel_rfl) (fun _ _ _ h => h) (Or.inr ⟨by rfl, rfl⟩) (by assumption) ?_
            try simp only [List.getElem_toArray, List.getElem_cons_succ, List.getElem_cons_zero, Act.put, List.setIfInBounds_toArray, List.set_cons_zero, List.set_cons_succ]
            refine wpAnyH_take (i := 32) (oi := _) (v := undef) rfl (by kernel_rfl) (by kernel_rfl) (by kernel_rfl) (fun _ _ _ h => h) (Or.inr ⟨by rfl, rfl⟩) (by assumption) ?_
            try simp only [List.getElem_toArray, List.getElem_cons_succ, List.getElem_cons_zero, Act.put, List.setIfInBounds_toArray, List.set_cons_zero, List.set_cons_succ]
            refine wpAnyH_take (i := 33) (oi := _) (v := undef) rfl (by kernel_rfl) (by kernel_rfl) (by kernel_rfl) (fun _ _ _ h => h) (Or.inr ⟨by rfl, rfl⟩) (by assumption) ?_
            try simp only [List.getElem_toArray, List.getElem_cons_succ, List.getElem_cons_zero, Act.put, List.setIfInBounds_toArray, List.set_cons_zero, List.set_cons_succ]
            refine wpAnyH_take (i := 34) (oi := _) (v := undef) rfl (by kernel_rfl) (by kernel_rfl) (by kernel_rfl) (fun _ _ _ h => h) (Or.inr ⟨by rfl, rfl⟩) (by assumption) ?_
            try simp only [List.getElem_toArray, List.getElem_cons_succ, List.getElem_cons_zero, Act.put, List.setIfInBounds_toArray, List.set_cons_zero, List.set_cons_succ]
            refine wpAnyH_take (i := 35) (oi := _) (v := undef) rfl (by kernel_rfl) (by kernel_rfl) (by kernel_rfl) (fun _ _ _ h => h) (Or.inr ⟨by rfl, rfl⟩) (by assumption) ?_
            try simp only [List.getElem_toArray, List.getElem_cons_succ, List.getElem_cons_zero, Act.put, List.setIfInBounds_toArray, List.set_cons_zero, List.set_cons_succ]
            refine wpAnyH_take (i := 36) (oi := _) (v := undef) rfl (by kernel_rfl) (by kernel_rfl) (by kernel_rfl) (fun _ _ _ h => h) (Or.inr ⟨by rfl, rfl⟩) (by assumption) ?_
            try simp only [List.getElem_toArray, List.getElem_cons_succ, List.getElem_cons_zero, Act.put, List.setIfInBounds_toArray, List.set_cons_zero, List.set_cons_succ]
            refine wpAnyH_take (i := 37) (oi := _) (v := ?v37) rfl (by kernel_rfl) (by kernel_rfl) (by kernel_rfl) (fun _ _ _ h => h) (Or.inl ⟨by rfl, ?y37⟩) (by assumption) ?r37
            case y37 => (simp only [List.getElem_toArray, List.getElem_cons_succ, List.getElem_cons_zero]; intro w hSw; (try dsimp only at hSw); go_simp; first | done | with_reducible rfl)
            try simp only [List.getElem_toArray, List.getElem_cons_succ, List.getElem_cons_zero, Act.put, List.setIfInBounds_toArray, List.set_cons_zero, List.set_cons_succ]
            refine wpAnyH_take (i := 38) (oi := _) (v := ?v38) rfl (by kernel_rfl) (by kernel_rfl) (by kernel_rfl) (fun _ _ _ h => h) (Or.inl ⟨by rfl, ?y38⟩) (by assumption) ?r38
            case y38 => (simp only [List.getElem_toArray, List.getElem_cons_succ, List.getElem_cons_zero]; intro w hSw; (try dsimp only at hSw); go_simp; first | done | with_reducible rfl)
            try simp only [List.getElem_toArray, List.getElem_cons_succ, List.getElem_cons_zero, Act.put, List.setIfInBounds_toArray, List.set_cons_zero, List.set_cons_succ]
            refine wpAnyH_take (i := 39) (oi := _) (v := ?v39) rfl (by kernel_rfl) (by kernel_rfl) (by kernel_rfl) (fun _ _ _ h => h) (Or.inl ⟨by rfl, ?y39⟩) (by assumption) ?r39
            case y39 => (simp only [List.getElem_toArray, List.getElem_cons_succ, List.getElem_cons_zero]; intro w hSw; (try dsimp only at hSw); go_simp; first | done | with_reducible rfl)
            try simp only [List.getElem_toArray, List.getElem_cons_succ, List.getElem_cons_zero, Act.put, List.setIfInBounds_toArray, List.set_cons_zero, List.set_cons_succ]
            refine wpAnyH_done (by kernel_rfl) ?_ _
            refine NoPanic.normal ?_
            go_wp2_with fail
            go_meet
            exact ⟨rfl, (show Later wd _ by repeat (first | (with_reducible exact Later.refl _) | (with_reducible apply Later.drew) | (with_reducible apply Later.alloc) | (with_reducible refine Later.call ?_ (by assumption))))⟩
          · have hem : x'.em = 1 := by rw [hxe, hse]; rfl
            by_cases hdd : s'.done = (Ck.base n cap).order.length
            · have e2 : (x'.done == ((Ck.base n cap).order.length : Int)) = true := by rw [hxd, hdd]; simp
              have hw0 : Ck.whole (Ck.base n cap) s' = true := by rw [HWe.out, hse, decide_eq_true hdd]; rfl
              rw [hw0] at HWh
              generalize x'.em = em' at *
              subst hem
              clear hxe hxd hse hw0 hdd
              first
                | (go_region_held3 (fun X => X.cell? ⟨g, 0, none⟩ = some (.slice F.A n.inn.length F.c) ∧ X.cell? ⟨g, 1, none⟩ = some (.slice F.N n.nodes.length F.d) ∧ X.cell? ⟨g, 2, none⟩ = some (.slice F.Wd (Ck.base n cap).words.length F.cw) ∧ X.cell? ⟨g, 3, none⟩ = some (.slice F.Or (Ck.base n cap).order.length F.co) ∧ X.cell? ⟨g, 4, none⟩ = some (.int .i64 (Ck.base n cap).loss) ∧ X.cell? ⟨g, 5, none⟩ = some (.int .i64 (Ck.base n cap).cap) ∧ X.cell? ⟨g, 6, none⟩ = some (.slice V'.Th x'.there.length V'.ct) ∧ X.cell? ⟨g, 7, none⟩ = some (.slice V'.Sa x'.saved.length V'.cs) ∧ X.cell? ⟨g, 8, none⟩ = some (.slice V'.Gr x'.grads.length V'.cg) ∧ X.cell? ⟨g, 9, none⟩ = some (.int .i64 1) ∧ X.cell? ⟨g, 10, none⟩ = some (.int .i64 x'.sd) ∧ X.cell? ⟨g, 11, none⟩ = some (.int .i64 x'.done) ∧ X.cell? ⟨g, 12, none⟩ = some (.int .i64 x'.peak)) (first | (with_reducible exact ⟨y0, y1, y2, y3, y4, y5, y6, y7, y8, y9, y10, y11, y12⟩) | exact ⟨Later.cell (show Later wd _ by repeat (first | (with_reducible exact Later.refl _) | (with_reducible apply Later.drew) | (with_reducible apply Later.alloc) | (with_reducible refine Later.call ?_ (by assumption)))) y0, Later.cell (show Later wd _ by repeat (first | (with_reducible exact Later.refl _) | (with_reducible apply Later.drew) | (with_reducible apply Later.alloc) | (with_reducible refine Later.call ?_ (by assumption)))) y1, Later.cell (show Later wd _ by repeat (first | (with_reducible exact Later.refl _) | (with_reducible apply Later.drew) | (with_reducible apply Later.alloc) | (with_reducible refine Later.call ?_ (by assumption)))) y2, Later.cell (show Later wd _ by repeat (first | (with_reducible exact Later.refl _) | (with_reducible apply Later.drew) | (with_reducible apply Later.alloc) | (with_reducible refine Later.call ?_ (by assumption)))) y3, Later.cell (show Later wd _ by repeat (first | (with_reducible exact Later.refl _) | (with_reducible apply Later.drew) | (with_reducible apply Later.alloc) | (with_reducible refine Later.call ?_ (by assumption)))) y4, Later.cell (show Later wd _ by repeat (first | (with_reducible exact Later.refl _) | (with_reducible apply Later.drew) | (with_reducible apply Later.alloc) | (with_reducible refine Later.call ?_ (by assumption)))) y5, Later.cell (show Later wd _ by repeat (first | (with_reducible exact Later.refl _) | (with_reducible apply Later.drew) | (with_reducible apply Later.alloc) | (with_reducible refine Later.call ?_ (by assumption)))) y6, Later.cell (show Later wd _ by repeat (first | (with_reducible exact Later.refl _) | (with_reducible apply Later.drew) | (with_reducible apply Later.alloc) | (with_reducible refine Later.call ?_ (by assumption)))) y7, Later.cell (show Later wd _ by repeat (first | (with_reducible exact Later.refl _) | (with_reducible apply Later.drew) | (with_reducible apply Later.alloc) | (with_reducible refine Later.call ?_ (by assumption)))) y8, Later.cell (show Later wd _ by repeat (first | (with_reducible exact Later.refl _) | (with_reducible apply Later.drew) | (with_reducible apply Later.alloc) | (with_reducible refine Later.call ?_ (by assumption)))) y9, Later.cell (show Later wd _ by repeat (first | (with_reducible exact Later.refl _) | (with_reducible apply Later.drew) | (with_reducible apply Later.alloc) | (with_reducible refine Later.call ?_ (by assumption)))) y10, Later.cell (show Later wd _ by repeat (first | (with_reducible exact Later.refl _) | (with_reducible apply Later.drew) | (with_reducible apply Later.alloc) | (with_reducible refine Later.call ?_ (by assumption)))) y11, Later.cell (show Later wd _ by repeat (first | (with_reducible exact Later.refl _) | (with_reducible apply Later.drew) | (with_reducible apply Later.alloc) | (with_reducible refine Later.call ?_ (by assumption)))) y12⟩)
                    (first
                    | (go_at_call 16; refine (HWds.out _ (show Later wd _ by repeat (first | (with_reducible exact Later.refl _) | (with_reducible apply Later.drew) | (with_reducible apply Later.alloc) | (with_reducible refine Later.call ?_ (by assumption))))).mono ?_; rintro e v1 ⟨rfl, rfl⟩)
                    | (go_at_call 17; refine (HSum.out _ (show Later wd _ by repeat (first | (with_reducible exact Later.refl _) | (with_reducible apply Later.drew) | (with_reducible apply Later.alloc) | (with_reducible refine Later.call ?_ (by assumption))))).mono ?_; rintro e v2 ⟨rfl, hbs⟩; have hbs2 : Below _ _ v2 := hbs)
                    | (go_at_call 18; refine (HPk.out _ (show Later wd _ by repeat (first | (with_reducible exact Later.refl _) | (with_reducible apply Later.drew) | (with_reducible apply Later.alloc) | (with_reducible refine Later.call ?_ (by assumption))))).mono ?_; rintro e v1 ⟨rfl, rfl⟩)
                    | (go_at_call 19; refine (HDn.out _ (show Later wd _ by repeat (first | (with_reducible exact Later.refl _) | (with_reducible apply Later.drew) | (with_reducible apply Later.alloc) | (with_reducible refine Later.call ?_ (by assumption))))).mono ?_; rintro e v1 ⟨rfl, rfl⟩)
                    | (go_at_call 20; refine (HWh.out _ (show Later wd _ by repeat (first | (with_reducible exact Later.refl _) | (with_reducible apply Later.drew) | (with_reducible apply Later.alloc) | (with_reducible refine Later.call ?_ (by assumption))))).mono ?_; rintro e v3 ⟨rfl, hbw⟩; have hbw2 : Below _ _ v3 := hbw)))
                | fail
              all_goals
                go_wp2_with fail
                go_meet
                exact ⟨rfl, (show Later wd _ by repeat (first | (with_reducible exact Later.refl _) | (with_reducible apply Later.drew) | (with_reducible apply Later.alloc) | (with_reducible refine Later.call ?_ (by assumption))))⟩
            · have e2 : (x'.done == ((Ck.base n cap).order.length : Int)) = false := by rw [hxd, beq_eq_false_iff_ne]; omega
              have hw0 : Ck.whole (Ck.base n cap) s' = false := by rw [HWe.out, hse, decide_eq_false hdd]; rfl
              rw [hw0] at HWh
              generalize x'.em = em' at *
              subst hem
              clear hxe hxd hse hw0 hdd
              first
                | (go_region_held3 (fun X => X.cell? ⟨g, 0, none⟩ = some (.slice F.A n.inn.length F.c) ∧ X.cell? ⟨g, 1, none⟩ = some (.slice F.N n.nodes.length F.d) ∧ X.cell? ⟨g, 2, none⟩ = some (.slice F.Wd (Ck.base n cap).words.length F.cw) ∧ X.cell? ⟨g, 3, none⟩ = some (.slice F.Or (Ck.base n cap).order.length F.co) ∧ X.cell? ⟨g, 4, none⟩ = some (.int .i64 (Ck.base n cap).loss) ∧ X.cell? ⟨g, 5, none⟩ = some (.int .i64 (Ck.base n cap).cap) ∧ X.cell? ⟨g, 6, none⟩ = some (.slice V'.Th x'.there.length V'.ct) ∧ X.cell? ⟨g, 7, none⟩ = some (.slice V'.Sa x'.saved.length V'.cs) ∧ X.cell? ⟨g, 8, none⟩ = some (.slice V'.Gr x'.grads.length V'.cg) ∧ X.cell? ⟨g, 9, none⟩ = some (.int .i64 1) ∧ X.cell? ⟨g, 10, none⟩ = some (.int .i64 x'.sd) ∧ X.cell? ⟨g, 11, none⟩ = some (.int .i64 x'.done) ∧ X.cell? ⟨g, 12, none⟩ = some (.int .i64 x'.peak)) (first | (with_reducible exact ⟨y0, y1, y2, y3, y4, y5, y6, y7, y8, y9, y10, y11, y12⟩) | exact ⟨Later.cell (show Later wd _ by repeat (first | (with_reducible exact Later.refl _) | (with_reducible apply Later.drew) | (with_reducible apply Later.alloc) | (with_reducible refine Later.call ?_ (by assumption)))) y0, Later.cell (show Later wd _ by repeat (first | (with_reducible exact Later.refl _) | (with_reducible apply Later.drew) | (with_reducible apply Later.alloc) | (with_reducible refine Later.call ?_ (by assumption)))) y1, Later.cell (show Later wd _ by repeat (first | (with_reducible exact Later.refl _) | (with_reducible apply Later.drew) | (with_reducible apply Later.alloc) | (with_reducible refine Later.call ?_ (by assumption)))) y2, Later.cell (show Later wd _ by repeat (first | (with_reducible exact Later.refl _) | (with_reducible apply Later.drew) | (with_reducible apply Later.alloc) | (with_reducible refine Later.call ?_ (by assumption)))) y3, Later.cell (show Later wd _ by repeat (first | (with_reducible exact Later.refl _) | (with_reducible apply Later.drew) | (with_reducible apply Later.alloc) | (with_reducible refine Later.call ?_ (by assumption)))) y4, Later.cell (show Later wd _ by repeat (first | (with_reducible exact Later.refl _) | (with_reducible apply Later.drew) | (with_reducible apply Later.alloc) | (with_reducible refine Later.call ?_ (by assumption)))) y5, Later.cell (show Later wd _ by repeat (first | (with_reducible exact Later.refl _) | (with_reducible apply Later.drew) | (with_reducible apply Later.alloc) | (with_reducible refine Later.call ?_ (by assumption)))) y6, Later.cell (show Later wd _ by repeat (first | (with_reducible exact Later.refl _) | (with_reducible apply Later.drew) | (with_reducible apply Later.alloc) | (with_reducible refine Later.call ?_ (by assumption)))) y7, Later.cell (show Later wd _ by repeat (first | (with_reducible exact Later.refl _) | (with_reducible apply Later.drew) | (with_reducible apply Later.alloc) | (with_reducible refine Later.call ?_ (by assumption)))) y8, Later.cell (show Later wd _ by repeat (first | (with_reducible exact Later.refl _) | (with_reducible apply Later.drew) | (with_reducible apply Later.alloc) | (with_reducible refine Later.call ?_ (by assumption)))) y9, Later.cell (show Later wd _ by repeat (first | (with_reducible exact Later.refl _) | (with_reducible apply Later.drew) | (with_reducible apply Later.alloc) | (with_reducible refine Later.call ?_ (by assumption)))) y10, Later.cell (show Later wd _ by repeat (first | (with_reducible exact Later.refl _) | (with_reducible apply Later.drew) | (with_reducible apply Later.alloc) | (with_reducible refine Later.call ?_ (by assumption)))) y11, Later.cell (show Later wd _ by repeat (first | (with_reducible exact Later.refl _) | (with_reducible apply Later.drew) | (with_reducible apply Later.alloc) | (with_reducible refine Later.call ?_ (by assumption)))) y12⟩)
                    (first
                    | (go_at_call 16; refine (HWds.out _ (show Later wd _ by repeat (first | (with_reducible exact Later.refl _) | (with_reducible apply Later.drew) | (with_reducible apply Later.alloc) | (with_reducible refine Later.call ?_ (by assumption))))).mono ?_; rintro e v1 ⟨rfl, rfl⟩)
                    | (go_at_call 17; refine (HSum.out _ (show Later wd _ by repeat (first | (with_reducible exact Later.refl _) | (with_reducible apply Later.drew) | (with_reducible apply Later.alloc) | (with_reducible refine Later.call ?_ (by assumption))))).mono ?_; rintro e v2 ⟨rfl, hbs⟩; have hbs2 : Below _ _ v2 := hbs)
                    | (go_at_call 18; refine (HPk.out _ (show Later wd _ by repeat (first | (with_reducible exact Later.refl _) | (with_reducible apply Later.drew) | (with_reducible apply Later.alloc) | (with_reducible refine Later.call ?_ (by assumption))))).mono ?_; rintro e v1 ⟨rfl, rfl⟩)
                    | (go_at_call 19; refine (HDn.out _ (show Later wd _ by repeat (first | (with_reducible exact Later.refl _) | (with_reducible apply Later.drew) | (with_reducible apply Later.alloc) | (with_reducible refine Later.call ?_ (by assumption))))).mono ?_; rintro e v1 ⟨rfl, rfl⟩)
                    | (go_at_call 20; refine (HWh.out _ (show Later wd _ by repeat (first | (with_reducible exact Later.refl _) | (with_reducible apply Later.drew) | (with_reducible apply Later.alloc) | (with_reducible refine Later.call ?_ (by assumption))))).mono ?_; rintro e v3 ⟨rfl, hbw⟩; have hbw2 : Below _ _ v3 := hbw)))
                | fail
              all_goals
                go_wp2_with fail
                go_meet
                exact ⟨rfl, (show Later wd _ by repeat (first | (with_reducible exact Later.refl _) | (with_reducible apply Later.drew) | (with_reducible apply Later.alloc) | (with_reducible refine Later.call ?_ (by assumption))))⟩
        case rest =>
          obtain ⟨rfl, hlw⟩ := hcut
          have HX3 := Lib.hid (HX2.out.to_later hlw)
          have HM3 := Lib.hid (HM2.out.to_later hlw)
          have HK3 := Lib.hid ((h10'.out.trans HX3.out.later).blk HK2.out)
          clear HX2 HM2 hlw HWds HSum HPk HDn hwh y0 y1 y2 y3 y4 y5 y6 y7 y8 y9 y10 y11 y12 HWe
          obtain ⟨⟨x0, x1, x2, x3⟩, -⟩ := four_cells HK3.out
          go_upto_region 22 with fail
          clear x0 x1 x2 x3
          obtain ⟨we, rfl⟩ : ∃ v, v = wc := ⟨wc, rfl⟩
          go_loopw [13, 129] (fun _ j wx => ∃ m : Nat, m ≤ n.nodes.length ∧ j = .int .i64 (m : Int) ∧ Later we wx) (fun _ j _ => n.nodes.length - (intOf j).toNat)
          case atStart => exact ⟨0, Nat.zero_le _, rfl, Later.refl _⟩
          case round =>
            obtain ⟨m, hm, rfl, hlw⟩ := hrel
            by_cases hlm : m < n.nodes.length
            · have HX4 := Lib.hid (HX3.out.to_later hlw)
              have HM4 := Lib.hid (HM3.out.to_later hlw)
              obtain ⟨-, -, -, -, -, -, y6, -, y8, -⟩ := RfF.cells13 HX4.out.box
              have hw1 : IntKind.i64.wrap ((m : Int) + 1) = (m : Int) + 1 := IntWalk.i64_in _ (by omega)
              have hL : (Ck.base n cap).words.length = n.nodes.length + 1 := HRC.out.wl
              have g0 : (0 : Int) ≤ (m : Int) + 1 := by omega
              have g1' : (m : Int) + 1 < ((Ck.base n cap).words.length : Int) := by omega
              have eT : (decide (0 ≤ (m : Int) + 1) && (decide ((m : Int) + 1 < ((Ck.base n cap).words.length : Int)) && Ck.at_ s'.pres ((m : Int) + 1))) = hasB x'.there ((m : Int) + 1) := by
                rw [decide_eq_true g0, decide_eq_true g1', HP'.out.there.at_ g0 g1']; rfl
              have eG : (decide (0 ≤ (m : Int) + 1) && (decide ((m : Int) + 1 < ((Ck.base n cap).words.length : Int)) && Ck.at_ s'.grad ((m : Int) + 1))) = hasB x'.grads ((m : Int) + 1) := by
                rw [decide_eq_true g0, decide_eq_true g1', HP'.out.grads.at_ g0 g1']; rfl
              have hT1 := fun (W : World) (h : Later wr W) => check_there a _ W0 s' W (HM4.out.to_later h) hL5 ((m : Int) + 1)
              have hG1 := fun (W : World) (h : Later wr W) => check_has a _ W0 s' W (HM4.out.to_later h) hL5 ((m : Int) + 1)
              have hT2 := fun (W : World) (h : Later wr W) => ref18_has V'.Th V'.ct x'.there ((m : Int) + 1) W (by have := HP'.out.good.there.len; omega) (HX4.out.to_later h).at_.there
              have hG2 := fun (W : World) (h : Later wr W) => ref18_has V'.Gr V'.cg x'.grads ((m : Int) + 1) W (by have := HP'.out.good.grads.len; omega) (HX4.out.to_later h).at_.grads
              rw [eT] at hT1
              rw [eG] at hG1
              generalize hasB x'.there ((m : Int) + 1) = bT at *
              generalize hasB x'.grads ((m : Int) + 1) = bG at *
              have hl2 := Lib.hid hlw
              have k9 : (m : Int) < (n.nodes.length : Int) := by omega
              have HT1 := Lib.hid hT1
              have HG1 := Lib.hid hG1
              have HT2 := Lib.hid hT2
              have HG2 := Lib.hid hG2
              clear hT1 hG1 hT2 hG2
              clear eT eG hlw HX4 HM4 g0 g1' hL
              go_upto_region 24 with fail
              go_cut [153] (fun v wx => v = .bool false ∧ Later we wx)
              case first =>
                cases bT <;> cases bG
                all_goals
                  first
                    | (go_region_held3 (fun X => X.cell? ⟨g, 6, none⟩ = some (.slice V'.Th x'.there.length V'.ct) ∧ X.cell? ⟨g, 8, none⟩ = some (.slice V'.Gr x'.grads.length V'.cg)) (first | (with_reducible exact ⟨y6, y8⟩) | exact ⟨Later.cell (show Later wr _ by repeat (first | (with_reducible exact Later.refl _) | (with_reducible apply Later.drew) | (with_reducible apply Later.alloc) | (with_reducible refine Later.call ?_ (by assumption)))) y6, Later.cell (show Later wr _ by repeat (first | (with_reducible exact Later.refl _) | (with_reducible apply Later.drew) | (with_reducible apply Later.alloc) | (with_reducible refine Later.call ?_ (by assumption)))) y8⟩)
                      (first
                      | (go_at_call 21; refine (HT1.out _ (show Later wr _ by repeat (first | (with_reducible exact Later.refl _) | (with_reducible apply Later.drew) | (with_reducible apply Later.alloc) | (with_reducible refine Later.call ?_ (by assumption))))).mono ?_; rintro e v1 ⟨rfl, rfl⟩)
                      | (go_at_call 23; refine (HG1.out _ (show Later wr _ by repeat (first | (with_reducible exact Later.refl _) | (with_reducible apply Later.drew) | (with_reducible apply Later.alloc) | (with_reducible refine Later.call ?_ (by assumption))))).mono ?_; rintro e v1 ⟨rfl, rfl⟩)
                      | (go_at_call 22; (first | (with_reducible refine (HT2.out _ (show Later wr _ by repeat (first | (with_reducible exact Later.refl _) | (with_reducible apply Later.drew) | (with_reducible apply Later.alloc) | (with_reducible refine Later.call ?_ (by assumption))))).mono ?_) | (with_reducible refine (HG2.out _ (show Later wr _ by repeat (first | (with_reducible exact Later.refl _) | (with_reducible apply Later.drew) | (with_reducible apply Later.alloc) | (with_reducible refine Later.call ?_ (by assumption))))).mono ?_)); rintro e v1 ⟨rfl, rfl⟩)))
                    | fail
                  all_goals
                    go_wp2_with fail
                    go_meet
                    exact ⟨rfl, hl2.out.trans (show Later wr _ by repeat (first | (with_reducible exact Later.refl _) | (with_reducible apply Later.drew) | (with_reducible apply Later.alloc) | (with_reducible refine Later.call ?_ (by assumption))))⟩
              case rest =>
                obtain ⟨rfl, hl3⟩ := hcut
                have Hl3 := Lib.hid hl3
                clear hl3
                clear HT1 HG1 HT2 HG2 y6 y8
                go_wp2_with fail
                go_roundw
                case rel => exact ⟨m + 1, by omega, by go_num, Hl3.out⟩
                case measure => simp [intOf]; omega
            · obtain rfl : m = n.nodes.length := by omega
              have HX4 := Lib.hid (HX3.out.to_later hlw)
              have HM4 := Lib.hid (HM3.out.to_later hlw)
              clear hlw
              go_wp2_with fail
              go_roundw
              case rel => exact ⟨k + 1, s', x', V', by omega, by go_num, HP'.out, HZ.out, HM4.out, HX4.out, HB9.out⟩
              case measure => simp [intOf]; omega
      · obtain rfl : k = ps.length := by omega
        have HLk := Lib.hid ((Hl2.out.trans h10'.out).trans hXk.later)
        have HKk := Lib.hid ((h10'.out.trans hXk.later).blk HK2.out)
        have hL : (Ck.base n cap).words.length = n.nodes.length + 1 := HRC.out.wl
        have e1 : (decide (0 ≤ (0 : Int)) && (decide ((0 : Int) < ((Ck.base n cap).words.length : Int)) && Ck.at_ s.pres 0)) = true := by
          rw [hP.there.at_ (Int.le_refl _) (by omega), decide_eq_true (show (0 : Int) < ((Ck.base n cap).words.length : Int) by omega)]; simp [h0t]
        have e2 : (decide (0 ≤ (0 : Int)) && (decide ((0 : Int) < ((Ck.base n cap).words.length : Int)) && Ck.at_ s.grad 0)) = false := by
          rw [hP.grads.at_ (Int.le_refl _) (by omega)]; simp [hP.gz]
        have e3 : (decide (0 ≤ (-1 : Int)) && (decide ((-1 : Int) < ((Ck.base n cap).words.length : Int)) && Ck.at_ s.pres (-1))) = false := by simp
        have e4 : (decide (0 ≤ (n.nodes.length : Int) + 1) && (decide ((n.nodes.length : Int) + 1 < ((Ck.base n cap).words.length : Int)) && Ck.at_ s.grad ((n.nodes.length : Int) + 1))) = false := by
          rw [decide_eq_false (show ¬ (n.nodes.length : Int) + 1 < ((Ck.base n cap).words.length : Int) by omega)]; simp
        have h1 := check_there a _ W0 s wr hMk hL5 0
        have h2 := check_has a _ W0 s wr hMk hL5 0
        have h3 := check_there a _ W0 s wr hMk hL5 (-1)
        have h4 := check_has a _ W0 s wr hMk hL5 ((n.nodes.length : Int) + 1)
        rw [e1] at h1
        rw [e2] at h2
        rw [e3] at h3
        rw [e4] at h4
        have hw1 : IntKind.i64.wrap ((n.nodes.length : Int) + 1) = (n.nodes.length : Int) + 1 := IntWalk.i64_in _ (by omega)
        obtain ⟨⟨x0, x1, x2, x3⟩, -⟩ := four_cells HKk.out
        have H1 := Lib.hid h1
        have H2 := Lib.hid h2
        have H3 := Lib.hid h3
        have H4 := Lib.hid h4
        clear h1 h2 h3 h4
        clear e1 e2 e3 e4 hL hP h0t hMk hXk hBd x0 x2 x3
        go_wp2_with fail
        refine (H1.out).mono ?_
        rintro e v1 ⟨rfl, rfl⟩
        go_wp2_with fail
        refine (H2.out).mono ?_
        rintro e v1 ⟨rfl, rfl⟩
        go_wp2_with fail
        refine (H3.out).mono ?_
        rintro e v1 ⟨rfl, rfl⟩
        go_wp2_with fail
        refine (H4.out).mono ?_
        rintro e v1 ⟨rfl, rfl⟩
        go_wp2_with fail
        refine (Haw.out _ HLk.out).mono ?_
        rintro e wz ⟨rfl, hbz⟩
        go_wp2_with fail
        go_ret
        exact ⟨rfl, hbz⟩
end Go.Proofs.YtmmgdgfpemkdnaaGreat
namespace Go.Proofs.YtmmgdgfpemkdnaaGreat.checkPlays
open Go.ChangeShapes Go.WideShapes Go.ChangeAt Go.RowKit
open Go.ChangeMaps (open_string shut_string)

theorem own : ownKnob Tryz.prog.godebug = none := by kernel_rfl
theorem laidOut : laidOutB Tryz.prog = true := by kernel_rfl

set_option maxRecDepth 100000 in
theorem lifted (os : Os) (started : os.Started) (H : Type) (enc : TypeId × Value → H) (Fi : Stop.Interp) :
    ReturnsInHanded {} Tryz.checked os 4 .any ((Rows.OpenSpec.upto Rows.checkPlaysSpec).pre6 enc Tryz.prog Tryz.f4 Rows.checkPlaysUptoRow.domain false) (((Rows.OpenSpec.upto Rows.checkPlaysSpec).at Fi).post enc Tryz.prog Tryz.f4 false true false false) := by
  refine returnsInHanded_of_cond (C := Tryz.checked) (s := Rows.OpenSpec.upto Rows.checkPlaysSpec) (k := Rows.uptoSmall) rfl own started (by kernel_rfl) Tryz.func4
    (OpenSpec.witness (enc := enc) (C := Tryz.checked) (s := Rows.OpenSpec.upto Rows.checkPlaysSpec) (k := Rows.uptoSmall) rfl false ⟨#[], #[.agg #[.slice none 0 0, .slice none 0 0, .slice none 0 0, .int .i64 0]], []⟩ 8 (by kernel_rfl) (by kernel_rfl) (by kernel_rfl)
      (x := ([.agg [.agg [.nil, .nil], .nil, .lit (.int .i64 0)]], [], [])) (by kernel_rfl) rfl (by kernel_rfl)) ?_
  intro W base args ds gs before hval0 hW hcnd hbulk _
  have hval : ∀ (j : Nat) t v, Tryz.f4.params[j]? = some t → args[j]? = some v → Value.okWide Tryz.prog W .any base t v := hval0
  have hW' := hW
  obtain ⟨p, q, hA0, hV, rfl, hfz, hnd⟩ := hW
  have hA : DataW.TrodAll enc Tryz.prog W 0 (fun _ => true) true Tryz.f4.params.toList args.toList ds p := hA0
  rw [Tryz.params4] at hA hval
  obtain ⟨v0, vs0, d0, ds0, p0, q0, hargs, rfl, rfl, h0, r0⟩ := trodAll_cons hA
  obtain ⟨rfl, rfl, rfl⟩ := trodAll_nil r0
  obtain rfl : args = #[v0] := by cases args; simp_all
  obtain ⟨rfl, rfl⟩ := trodVars_none hV
  have hbk : Rows.uptoBulkAll ([d0] ++ []) ≤ 1048576 := of_decide_eq_true hbulk
  have hz0 : Rows.uptoBulk d0 ≤ 1048576 := Nat.le_trans (bulk_part (by simp)) hbk
  have k0 := h0
  have lt0 : ∀ x ∈ p0, x.block < W.heap.size := by obtain ⟨m, hm⟩ := k0; exact DataW.trod_lt m _ _ _ hm
  obtain ⟨A0, N0, Q0, c10, c20, q0, n0, ps0, cap0, rfl, la0, lb0, lc0, ld0, hS0, hw0, le0, lf0, lg0, hQ0, hp0, hc0⟩ := case_open (hval 0 30 v0 rfl rfl) h0 hz0
  clear hA0 hval0
  refine (walkCheckPlays W A0 N0 Q0 c10 c20 q0 n0 ps0 cap0 la0 lb0 lc0 ld0 hS0 hw0 le0 lf0 lg0 hQ0 hp0 hc0).mono fun e W' ⟨he, bel⟩ => ?_
  subst he
  exact ⟨_, rfl, _, _, _, [], _, [], hW', trodAll_mk1 (shut_bool Tryz.underlying4 _), (trodAll_cons_mk (Below.trod laidOut (by kernel_rfl) (of_decide_eq_true (by kernel_rfl)) k0 bel lt0) trodAll_mk0), rfl, bel.frame _, fun h => by cases h⟩

theorem over : Rows.checkPlaysUptoRow.holds Tryz.pinned (Rows.OpenSpec.upto Rows.checkPlaysSpec) :=
  OpenClaim.holds_of_cond 4 Tryz.f4 rfl rfl rfl rfl rfl rfl rfl ⟨rfl, rfl, rfl, rfl, rfl⟩ rfl rfl rfl rfl rfl (by kernel_rfl) Tryz.func4 (by kernel_rfl)
    (of_decide_eq_true (by kernel_rfl)) (by unfold Func.isWrapper; first | (rw [if_pos (by decide +kernel)]; kernel_rfl) | (rw [if_neg (by decide +kernel)]; exact ⟨rfl, rfl⟩))
    (fun os started H enc _ Fi => lifted os started H enc Fi)
end Go.Proofs.YtmmgdgfpemkdnaaGreat.checkPlays
namespace Go.Proofs.YtmmgdgfpemkdnaaGreat
theorem checkPlays_holds : Rows.CheckPlaysUptoSaid := checkPlays.over
#print axioms checkPlays_holds
end Go.Proofs.YtmmgdgfpemkdnaaGreat
