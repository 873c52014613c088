/- The statement Rows.KeepLoadsSaid is proved: for every input the law 'athanorlaw27.KeepLoads' returns true, and each argument reads afterwards as it read before. Conditions: those of the row, no others. -/
import Derived.Below
import Derived.BigQuiet
import Derived.ChangeOld
import Derived.Deep.DeepCutAuto
import Derived.Deep.RegionHeld3
import Derived.Lib.ConvBytes
import Derived.OpenShut
import Derived.ProofKit
import Derived.ShutString
import Derived.SizedLaws
import Derived.WalkKit
import Derived.Test.YtkmhagjdafeebaaGreatRows
import Derived.Test.YtkmhagjdafeebaaGreatZ10
set_option linter.unusedVariables false
/- The walk of the law KeepLoads. Printed by gen/lkeeploads.py. -/
namespace Go.Proofs.YtkmhagjdafeebaaGreat
open Go.RowKit
namespace Ld
def tn (x : Int) (tc : List Int) : Ten := ⟨[x], tc⟩
end Ld
theorem tw_tens {w W : World} {S C : Option Addr} {c d g : Nat} {t : Ten} {T : TypeId} (h : TenW w S C c d t) (hl : Later w W) (hg : Blk W g T #[.slice S t.s.length c, .slice C t.c.length d]) : Tens W (some ⟨g, 0, none⟩) [t] := fun j hj => by
  obtain rfl : j = 0 := by simpa using hj
  exact ⟨g, 0, S, c, C, d, rfl, hg.lt, hg.cell 0, hg.cell 1, h.r.below hl (Nat.le_refl _), Nat.le_trans h.s1 h.s2, Nat.le_trans h.c1 h.c2⟩
set_option maxHeartbeats 16000000 in
set_option maxRecDepth 100000 in
theorem walkKeepLoads (w : World) (S C : Option Addr) (c d : Nat) (t : Ten) (hT : TenW w S C c d t) (P V M : Option Addr) (c1 c2 c3 : Nat) (s : Sav) (lp : s.p.length ≤ 3000000000000) (lv : s.v.length ≤ 3000000000000) (lm : s.m.length ≤ 3000000000000) (hS : SavR w P V M s) (hw : s.wide)
    (B : Option Addr) (bc : Nat) (bs : List Int) (hl : bs.length ≤ 9223372036854775807) (hc : bs.length ≤ bc) (hI : Ints .u8 w B bs) (hby : ∀ n ∈ bs, (Lit.int .u8 n).wf = true) :
    Calls Tryz.prog 3 #[.agg #[.slice S t.s.length c, .slice C t.c.length d], .agg #[.slice P s.p.length c1, .slice V s.v.length c2, .slice M s.m.length c3], .slice B bs.length bc] w fun e w' => e = .returned (.bool true) ∧ Below w.heap.size w w' := by
  have hp0 := (Blk.new w 26 #[.slice S t.s.length c, .slice C t.c.length d]).alloc (.cells #[.slice P s.p.length c1, .slice V s.v.length c2, .slice M s.m.length c3] 32)
  have hq0 := Blk.new (w.alloc (.cells #[.slice S t.s.length c, .slice C t.c.length d] 26)) 32 #[.slice P s.p.length c1, .slice V s.v.length c2, .slice M s.m.length c3]
  rw [World.size_alloc] at hq0
  have h00 := ((Later.refl w).alloc (.cells #[.slice S t.s.length c, .slice C t.c.length d] 26)).alloc (.cells #[.slice P s.p.length c1, .slice V s.v.length c2, .slice M s.m.length c3] 32)
  have hsz0 : ((w.alloc (.cells #[.slice S t.s.length c, .slice C t.c.length d] 26)).alloc (.cells #[.slice P s.p.length c1, .slice V s.v.length c2, .slice M s.m.length c3] 32)).heap.size ≥ w.heap.size + 2 := by simp
  have HT := Lib.hid hT
  have HS := Lib.hid hS
  have Hw := Lib.hid hw
  have HI := Lib.hid hI
  have Hby := Lib.hid hby
  have Hp0 := Lib.hid hp0
  have Hq0 := Lib.hid hq0
  have H00 := Lib.hid h00
  clear hT hS hw hI hby hp0 hq0 h00
  go_enter Tryz.func3, Tryz.ntmps3
  go_upto_region 1 with fail
  generalize (w.alloc (.cells #[.slice S t.s.length c, .slice C t.c.length d] 26)).alloc (.cells #[.slice P s.p.length c1, .slice V s.v.length c2, .slice M s.m.length c3] 32) = w0 at *
  obtain ⟨q, hqe⟩ : ∃ q, q = w.heap.size + 1 := ⟨_, rfl⟩
  obtain ⟨p, hpe⟩ : ∃ p, p = w.heap.size := ⟨_, rfl⟩
  have e0 := Hq0.out.cell 0
  have e1 := Hq0.out.cell 1
  have e2 := Hq0.out.cell 2
  simp at e0 e1 e2
  go_wp2_with fail
  refine (law_small P V M c1 c2 c3 s w0 (by omega) (by omega) (HS.out.below H00.out (Nat.le_refl _))).mono ?_
  rintro e w1 ⟨rfl, h1⟩
  have h01 : Later w0 w1 := h1
  clear h1 e0 e1 e2
  cases hsm : Lw.small s
  case false =>
    go_wp2_with fail
    refine (awake27 _).mono ?_
    rintro e wz ⟨rfl, hz⟩
    have hbz := (H00.out.trans h01).call hz
    clear hz
    go_wp2_with fail
    go_ret
    exact ⟨rfl, hbz⟩
  by_cases hb1 : 1000 < bs.length
  · have d1 : decide (1000 < (bs.length : Int)) = true := by simp; omega
    clear hb1
    go_wp2_with fail
    refine (awake27 _).mono ?_
    rintro e wz ⟨rfl, hz⟩
    have hbz := (H00.out.trans h01).call hz
    clear hz
    go_wp2_with fail
    go_ret
    exact ⟨rfl, hbz⟩
  have d1 : decide (1000 < (bs.length : Int)) = false := by simp; omega
  have a0 := (h01.blk Hp0.out).cell 0
  have a1 := (h01.blk Hp0.out).cell 1
  simp at a0 a1
  have hg2 := Blk.new w1 26 #[.slice S t.s.length c, .slice C t.c.length d]
  have h12 := (Later.refl w1).alloc (.cells #[.slice S t.s.length c, .slice C t.c.length d] 26)
  have h02 := h01.trans h12
  have hsm2 : Lw.small s = true := hsm
  have Hsm2 := Lib.hid hsm2
  have Hg2 := Lib.hid hg2
  have H02 := Lib.hid h02
  clear hsm2 hg2 h02
  clear hsm h01 h12
  go_wp2_with fail
  refine (law_size (some ⟨w1.heap.size, 0, none⟩) 1 [t] (w1.alloc (.cells #[.slice S t.s.length c, .slice C t.c.length d] 26)) (by simp) (tw_tens HT.out (H00.out.trans H02.out) Hg2.out)).mono ?_
  rintro e w3 ⟨rfl, h3⟩
  have h03 := H02.out.call h3
  clear h3 a0 a1
  by_cases hb2 : 200 < Lw.sz [t]
  · have d2 : decide (200 < Lw.sz [t]) = true := by simpa using hb2
    clear hb2
    go_wp2_with fail
    refine (awake27 _).mono ?_
    rintro e wz ⟨rfl, hz⟩
    have hbz := (H00.out.trans h03).call hz
    clear hz
    go_wp2_with fail
    go_ret
    exact ⟨rfl, hbz⟩
  have d2 : decide (200 < Lw.sz [t]) = false := by simpa using hb2
  have Hb2 := Lib.hid hb2
  clear hb2
  have a0 := (h03.blk Hp0.out).cell 0
  have a1 := (h03.blk Hp0.out).cell 1
  simp at a0 a1
  have H03 := Lib.hid h03
  clear h03
  go_wp2_with fail
  refine (tensor_right S C c d t w3 (by have := HT.out.s1; have := HT.out.s2; omega) (by have := HT.out.c1; have := HT.out.c2; omega) (HT.out.r.1.below (H00.out.trans H03.out) (Nat.le_refl _))).mono ?_
  rintro e w4 ⟨rfl, h4⟩
  have h04 := H03.out.call h4
  clear h4 a0 a1
  cases hr : Tn.right t
  case false =>
    go_wp2_with fail
    refine (awake27 _).mono ?_
    rintro e wz ⟨rfl, hz⟩
    have hbz := (H00.out.trans h04).call hz
    clear hz
    go_wp2_with fail
    go_ret
    exact ⟨rfl, hbz⟩
  have a0 := (h04.blk Hp0.out).cell 0
  simp at a0
  by_cases hb3 : t.s.length = 1
  case neg =>
    have d3 : ((t.s.length : Int) != 1) = true := by simp; omega
    clear hb3 hr
    go_wp2_with fail
    refine (awake27 _).mono ?_
    rintro e wz ⟨rfl, hz⟩
    have hbz := (H00.out.trans h04).call hz
    clear hz
    go_wp2_with fail
    go_ret
    exact ⟨rfl, hbz⟩
  obtain ⟨ts, tc⟩ := t
  obtain ⟨x, hx⟩ := List.length_eq_one_iff.1 hb3
  simp only at hx
  subst hx
  obtain ⟨hrs, -⟩ := Kq.right_prod hr
  have hx1 : 1 ≤ x ∧ x ≤ 1024 := (Sh.right_mul hrs).2.2.2.1 x (by simp)
  have hr4 := Tn.right_len hr
  simp only at hr4
  have hTI := HT.out.small (by simp) (by simp only; omega)
  have hS4 := (HT.out.r.1.below (H00.out.trans h04) (Nat.le_refl _))
  have hcS : 1 ≤ c := by have := HT.out.s1; simpa using this
  have hcM := HT.out.s2
  have hdS := HT.out.c1
  have hdM := HT.out.c2
  obtain ⟨b, off, rfl, hbl, a2⟩ := hS4 0 (by simp)
  simp at a2
  have HS1 := Lib.hid (show Ints .i64 w4 (some ⟨b, off, none⟩) [x] from HT.out.r.1.below (H00.out.trans h04) (Nat.le_refl _))
  have Hr := Lib.hid hr
  have HTI := Lib.hid hTI
  have H04 := Lib.hid h04
  have Hrs := Lib.hid hrs
  clear hr hTI h04 hrs
  clear hS4 d1 d2 hb3
  go_upto_region 3 with fail
  clear a0
  have a0 : w4.cell? ⟨w.heap.size, 0, none⟩ = some (.slice (some ⟨b, off, none⟩) 1 c) := (H04.out.blk Hp0.out).cell 0
  have a1 := a2
  go_cut [7] from 45 to 61 (NetCut w4 (some ⟨b, off, none⟩) c x)
  case first =>
    have KF := Lib.hid (show ∀ Xw, Later w4 Xw → Xw.cell? ⟨w.heap.size, 0, none⟩ = some (.slice (some ⟨b, off, none⟩) 1 c) ∧ Xw.cell? ⟨b, off, none⟩ = some (.int .i64 x) from fun Xw h => ⟨h.cell a0, h.cell a1⟩)
    refine wp_region_noPanic ?_
    refine wp_region_held_drew (S := fun Xw => Xw.cell? ⟨w.heap.size, 0, none⟩ = some (.slice (some ⟨b, off, none⟩) 1 c) ∧ Xw.cell? ⟨b, off, none⟩ = some (.int .i64 x)) (by kernel_rfl) (KF.out _ Later.au) (fun hHeld => ?_)
    refine tk 0 ?_
    refine tk 1 ?_
    refine tk 2 ?_
    refine tk 4 ?_
    refine tk 5 ?_
    refine tk 8 ?_
    refine tk 9 ?_
    refine tk 10 ?_
    refine tk 11 ?_
    refine tk 12 ?_
    refine wpAnyH_ready (rs := [3, 6, 13, 17]) (by kernel_rfl) (by simp) ?_
    refine AllReadyH.cons (o := _) rfl (fun K hK => ?_) (AllReadyH.cons (o := _) rfl (fun K hK => ?_) (AllReadyH.cons (o := _) rfl (fun K hK => ?_) (AllReadyH.cons (o := _) rfl (fun K hK => ?_) (AllReadyH.nil))))
    · simp only [ga, gs, gz]
      go_simp
      refine hK.out _ _ (KF.out _ Later.au) (fun hHeld => ?_)
      clear hK K
      try simp only [ga, gs, gz, Act.put, sa, sz, ss]
      refine wpAnyH_ready (rs := [6, 13, 17]) (by kernel_rfl) (by simp) ?_
      refine AllReadyH.cons (o := _) rfl (fun K hK => ?_) (AllReadyH.cons (o := _) rfl (fun K hK => ?_) (AllReadyH.cons (o := _) rfl (fun K hK => ?_) (AllReadyH.nil)))
      · simp only [ga, gs, gz]
        go_simp
        refine hK.out _ _ (KF.out _ Later.au) (fun hHeld => ?_)
        clear hK K
        try simp only [ga, gs, gz, Act.put, sa, sz, ss]
        refine tk 7 ?_
        refine wpAnyH_ready (rs := [13, 17]) (by kernel_rfl) (by simp) ?_
        refine AllReadyH.cons (o := _) rfl (fun K hK => ?_) (AllReadyH.cons (o := _) rfl (fun K hK => ?_) (AllReadyH.nil))
        · simp only [ga, gs, gz]
          go_simp
          refine hK.out _ _ (KF.out _ Later.au) (fun hHeld => ?_)
          clear hK K
          try simp only [ga, gs, gz, Act.put, sa, sz, ss]
          refine tk 14 ?_
          refine wpAnyH_ready (rs := [15, 17]) (by kernel_rfl) (by simp) ?_
          refine AllReadyH.cons (o := _) rfl (fun K hK => ?_) (AllReadyH.cons (o := _) rfl (fun K hK => ?_) (AllReadyH.nil))
          · simp only [ga, gs, gz]
            go_simp
            refine hK.out _ _ (KF.out _ Later.au) (fun hHeld => ?_)
            clear hK K
            try simp only [ga, gs, gz, Act.put, sa, sz, ss]
            refine tk 16 ?_
            refine rd 17 fun K hK => ?_
            simp only [ga, gs, gz]
            go_simp
            refine hK.out _ _ (KF.out _ Later.au) (fun hHeld => ?_)
            clear hK K
            try simp only [ga, gs, gz, Act.put, sa, sz, ss]
            refine rd 18 fun K hK => ?_
            simp only [ga, gs, gz]
            go_simp
            refine hK.out _ _ ?_ (fun hHeld => ?_)
            · (try dsimp only); (refine ⟨?_, ?_⟩ <;> (repeat (refine cell_setfar ?_ (by first | omega | (simp; done) | (simp; omega)))) <;> (refine Later.cell (Later.au : Later w4 _) ?_) <;> assumption)
            clear hK K
            try simp only [ga, gs, gz, Act.put, sa, sz, ss]
            clear KF
            refine wpAnyH_done (by kernel_rfl) ?_ _
            refine NoPanic.normal ?_
            clear hHeld
            go_wp2_with fail
            go_meet
            exact ld_cut (q0 := w4.heap.size) (qP := w4.heap.size + 1) (q1 := w4.heap.size + 1 + 1) (qN := w4.heap.size + 1 + 1 + 1) (tb := w4.heap.size + 1 + 1 + 1 + 1) (al5 w4 _ _ _ _ _).1 (al5 w4 _ _ _ _ _).2.1 (al5 w4 _ _ _ _ _).2.2.1 (al5 w4 _ _ _ _ _).2.2.2.1 (al5 w4 _ _ _ _ _).2.2.2.2 HS1.out hcS hcM (by omega) (later5 w4 _ _ _ _ _)
          · simp only [ga, gs, gz]
            go_simp
            refine hK.out _ _ (KF.out _ Later.au) (fun hHeld => ?_)
            clear hK K
            try simp only [ga, gs, gz, Act.put, sa, sz, ss]
            refine rd 15 fun K hK => ?_
            simp only [ga, gs, gz]
            go_simp
            refine hK.out _ _ (KF.out _ Later.au) (fun hHeld => ?_)
            clear hK K
            try simp only [ga, gs, gz, Act.put, sa, sz, ss]
            refine tk 16 ?_
            refine rd 18 fun K hK => ?_
            simp only [ga, gs, gz]
            go_simp
            refine hK.out _ _ ?_ (fun hHeld => ?_)
            · (try dsimp only); (refine ⟨?_, ?_⟩ <;> (repeat (refine cell_setfar ?_ (by first | omega | (simp; done) | (simp; omega)))) <;> (refine Later.cell (Later.au : Later w4 _) ?_) <;> assumption)
            clear hK K
            try simp only [ga, gs, gz, Act.put, sa, sz, ss]
            clear KF
            refine wpAnyH_done (by kernel_rfl) ?_ _
            refine NoPanic.normal ?_
            clear hHeld
            go_wp2_with fail
            go_meet
            exact ld_cut (q0 := w4.heap.size) (qP := w4.heap.size + 1) (q1 := w4.heap.size + 1 + 1) (qN := w4.heap.size + 1 + 1 + 1 + 1) (tb := w4.heap.size + 1 + 1 + 1) (al5 w4 _ _ _ _ _).1 (al5 w4 _ _ _ _ _).2.1 (al5 w4 _ _ _ _ _).2.2.1 (al5 w4 _ _ _ _ _).2.2.2.2 (al5 w4 _ _ _ _ _).2.2.2.1 HS1.out hcS hcM (by omega) (later5 w4 _ _ _ _ _)
        · simp only [ga, gs, gz]
          go_simp
          refine hK.out _ _ (KF.out _ Later.au) (fun hHeld => ?_)
          clear hK K
          try simp only [ga, gs, gz, Act.put, sa, sz, ss]
          refine rd 13 fun K hK => ?_
          simp only [ga, gs, gz]
          go_simp
          refine hK.out _ _ (KF.out _ Later.au) (fun hHeld => ?_)
          clear hK K
          try simp only [ga, gs, gz, Act.put, sa, sz, ss]
          refine tk 14 ?_
          refine rd 15 fun K hK => ?_
          simp only [ga, gs, gz]
          go_simp
          refine hK.out _ _ (KF.out _ Later.au) (fun hHeld => ?_)
          clear hK K
          try simp only [ga, gs, gz, Act.put, sa, sz, ss]
          refine tk 16 ?_
          refine rd 18 fun K hK => ?_
          simp only [ga, gs, gz]
          go_simp
          refine hK.out _ _ ?_ (fun hHeld => ?_)
          · (try dsimp only); (refine ⟨?_, ?_⟩ <;> (repeat (refine cell_setfar ?_ (by first | omega | (simp; done) | (simp; omega)))) <;> (refine Later.cell (Later.au : Later w4 _) ?_) <;> assumption)
          clear hK K
          try simp only [ga, gs, gz, Act.put, sa, sz, ss]
          clear KF
          refine wpAnyH_done (by kernel_rfl) ?_ _
          refine NoPanic.normal ?_
          clear hHeld
          go_wp2_with fail
          go_meet
          exact ld_cut (q0 := w4.heap.size) (qP := w4.heap.size + 1) (q1 := w4.heap.size + 1 + 1 + 1) (qN := w4.heap.size + 1 + 1 + 1 + 1) (tb := w4.heap.size + 1 + 1) (al5 w4 _ _ _ _ _).1 (al5 w4 _ _ _ _ _).2.1 (al5 w4 _ _ _ _ _).2.2.2.1 (al5 w4 _ _ _ _ _).2.2.2.2 (al5 w4 _ _ _ _ _).2.2.1 HS1.out hcS hcM (by omega) (later5 w4 _ _ _ _ _)
      · simp only [ga, gs, gz]
        go_simp
        refine hK.out _ _ (KF.out _ Later.au) (fun hHeld => ?_)
        clear hK K
        try simp only [ga, gs, gz, Act.put, sa, sz, ss]
        refine tk 14 ?_
        refine wpAnyH_ready (rs := [6, 17]) (by kernel_rfl) (by simp) ?_
        refine AllReadyH.cons (o := _) rfl (fun K hK => ?_) (AllReadyH.cons (o := _) rfl (fun K hK => ?_) (AllReadyH.nil))
        · simp only [ga, gs, gz]
          go_simp
          refine hK.out _ _ (KF.out _ Later.au) (fun hHeld => ?_)
          clear hK K
          try simp only [ga, gs, gz, Act.put, sa, sz, ss]
          refine tk 7 ?_
          refine wpAnyH_ready (rs := [15, 17]) (by kernel_rfl) (by simp) ?_
          refine AllReadyH.cons (o := _) rfl (fun K hK => ?_) (AllReadyH.cons (o := _) rfl (fun K hK => ?_) (AllReadyH.nil))
          · simp only [ga, gs, gz]
            go_simp
            refine hK.out _ _ (KF.out _ Later.au) (fun hHeld => ?_)
            clear hK K
            try simp only [ga, gs, gz, Act.put, sa, sz, ss]
            refine tk 16 ?_
            refine rd 17 fun K hK => ?_
            simp only [ga, gs, gz]
            go_simp
            refine hK.out _ _ (KF.out _ Later.au) (fun hHeld => ?_)
            clear hK K
            try simp only [ga, gs, gz, Act.put, sa, sz, ss]
            refine rd 18 fun K hK => ?_
            simp only [ga, gs, gz]
            go_simp
            refine hK.out _ _ ?_ (fun hHeld => ?_)
            · (try dsimp only); (refine ⟨?_, ?_⟩ <;> (repeat (refine cell_setfar ?_ (by first | omega | (simp; done) | (simp; omega)))) <;> (refine Later.cell (Later.au : Later w4 _) ?_) <;> assumption)
            clear hK K
            try simp only [ga, gs, gz, Act.put, sa, sz, ss]
            clear KF
            refine wpAnyH_done (by kernel_rfl) ?_ _
            refine NoPanic.normal ?_
            clear hHeld
            go_wp2_with fail
            go_meet
            exact ld_cut (q0 := w4.heap.size) (qP := w4.heap.size + 1 + 1) (q1 := w4.heap.size + 1) (qN := w4.heap.size + 1 + 1 + 1) (tb := w4.heap.size + 1 + 1 + 1 + 1) (al5 w4 _ _ _ _ _).1 (al5 w4 _ _ _ _ _).2.2.1 (al5 w4 _ _ _ _ _).2.1 (al5 w4 _ _ _ _ _).2.2.2.1 (al5 w4 _ _ _ _ _).2.2.2.2 HS1.out hcS hcM (by omega) (later5 w4 _ _ _ _ _)
          · simp only [ga, gs, gz]
            go_simp
            refine hK.out _ _ (KF.out _ Later.au) (fun hHeld => ?_)
            clear hK K
            try simp only [ga, gs, gz, Act.put, sa, sz, ss]
            refine rd 15 fun K hK => ?_
            simp only [ga, gs, gz]
            go_simp
            refine hK.out _ _ (KF.out _ Later.au) (fun hHeld => ?_)
            clear hK K
            try simp only [ga, gs, gz, Act.put, sa, sz, ss]
            refine tk 16 ?_
            refine rd 18 fun K hK => ?_
            simp only [ga, gs, gz]
            go_simp
            refine hK.out _ _ ?_ (fun hHeld => ?_)
            · (try dsimp only); (refine ⟨?_, ?_⟩ <;> (repeat (refine cell_setfar ?_ (by first | omega | (simp; done) | (simp; omega)))) <;> (refine Later.cell (Later.au : Later w4 _) ?_) <;> assumption)
            clear hK K
            try simp only [ga, gs, gz, Act.put, sa, sz, ss]
            clear KF
            refine wpAnyH_done (by kernel_rfl) ?_ _
            refine NoPanic.normal ?_
            clear hHeld
            go_wp2_with fail
            go_meet
            exact ld_cut (q0 := w4.heap.size) (qP := w4.heap.size + 1 + 1) (q1 := w4.heap.size + 1) (qN := w4.heap.size + 1 + 1 + 1 + 1) (tb := w4.heap.size + 1 + 1 + 1) (al5 w4 _ _ _ _ _).1 (al5 w4 _ _ _ _ _).2.2.1 (al5 w4 _ _ _ _ _).2.1 (al5 w4 _ _ _ _ _).2.2.2.2 (al5 w4 _ _ _ _ _).2.2.2.1 HS1.out hcS hcM (by omega) (later5 w4 _ _ _ _ _)
        · simp only [ga, gs, gz]
          go_simp
          refine hK.out _ _ (KF.out _ Later.au) (fun hHeld => ?_)
          clear hK K
          try simp only [ga, gs, gz, Act.put, sa, sz, ss]
          refine rd 6 fun K hK => ?_
          simp only [ga, gs, gz]
          go_simp
          refine hK.out _ _ (KF.out _ Later.au) (fun hHeld => ?_)
          clear hK K
          try simp only [ga, gs, gz, Act.put, sa, sz, ss]
          refine tk 7 ?_
          refine rd 15 fun K hK => ?_
          simp only [ga, gs, gz]
          go_simp
          refine hK.out _ _ (KF.out _ Later.au) (fun hHeld => ?_)
          clear hK K
          try simp only [ga, gs, gz, Act.put, sa, sz, ss]
          refine tk 16 ?_
          refine rd 18 fun K hK => ?_
          simp only [ga, gs, gz]
          go_simp
          refine hK.out _ _ ?_ (fun hHeld => ?_)
          · (try dsimp only); (refine ⟨?_, ?_⟩ <;> (repeat (refine cell_setfar ?_ (by first | omega | (simp; done) | (simp; omega)))) <;> (refine Later.cell (Later.au : Later w4 _) ?_) <;> assumption)
          clear hK K
          try simp only [ga, gs, gz, Act.put, sa, sz, ss]
          clear KF
          refine wpAnyH_done (by kernel_rfl) ?_ _
          refine NoPanic.normal ?_
          clear hHeld
          go_wp2_with fail
          go_meet
          exact ld_cut (q0 := w4.heap.size) (qP := w4.heap.size + 1 + 1 + 1) (q1 := w4.heap.size + 1) (qN := w4.heap.size + 1 + 1 + 1 + 1) (tb := w4.heap.size + 1 + 1) (al5 w4 _ _ _ _ _).1 (al5 w4 _ _ _ _ _).2.2.2.1 (al5 w4 _ _ _ _ _).2.1 (al5 w4 _ _ _ _ _).2.2.2.2 (al5 w4 _ _ _ _ _).2.2.1 HS1.out hcS hcM (by omega) (later5 w4 _ _ _ _ _)
      · simp only [ga, gs, gz]
        go_simp
        refine hK.out _ _ (KF.out _ Later.au) (fun hHeld => ?_)
        clear hK K
        try simp only [ga, gs, gz, Act.put, sa, sz, ss]
        refine wpAnyH_ready (rs := [6, 13]) (by kernel_rfl) (by simp) ?_
        refine AllReadyH.cons (o := _) rfl (fun K hK => ?_) (AllReadyH.cons (o := _) rfl (fun K hK => ?_) (AllReadyH.nil))
        · simp only [ga, gs, gz]
          go_simp
          refine hK.out _ _ (KF.out _ Later.au) (fun hHeld => ?_)
          clear hK K
          try simp only [ga, gs, gz, Act.put, sa, sz, ss]
          refine tk 7 ?_
          refine rd 13 fun K hK => ?_
          simp only [ga, gs, gz]
          go_simp
          refine hK.out _ _ (KF.out _ Later.au) (fun hHeld => ?_)
          clear hK K
          try simp only [ga, gs, gz, Act.put, sa, sz, ss]
          refine tk 14 ?_
          refine rd 15 fun K hK => ?_
          simp only [ga, gs, gz]
          go_simp
          refine hK.out _ _ (KF.out _ Later.au) (fun hHeld => ?_)
          clear hK K
          try simp only [ga, gs, gz, Act.put, sa, sz, ss]
          refine tk 16 ?_
          refine rd 18 fun K hK => ?_
          simp only [ga, gs, gz]
          go_simp
          refine hK.out _ _ ?_ (fun hHeld => ?_)
          · (try dsimp only); (refine ⟨?_, ?_⟩ <;> (repeat (refine cell_setfar ?_ (by first | omega | (simp; done) | (simp; omega)))) <;> (refine Later.cell (Later.au : Later w4 _) ?_) <;> assumption)
          clear hK K
          try simp only [ga, gs, gz, Act.put, sa, sz, ss]
          clear KF
          refine wpAnyH_done (by kernel_rfl) ?_ _
          refine NoPanic.normal ?_
          clear hHeld
          go_wp2_with fail
          go_meet
          exact ld_cut (q0 := w4.heap.size) (qP := w4.heap.size + 1 + 1) (q1 := w4.heap.size + 1 + 1 + 1) (qN := w4.heap.size + 1 + 1 + 1 + 1) (tb := w4.heap.size + 1) (al5 w4 _ _ _ _ _).1 (al5 w4 _ _ _ _ _).2.2.1 (al5 w4 _ _ _ _ _).2.2.2.1 (al5 w4 _ _ _ _ _).2.2.2.2 (al5 w4 _ _ _ _ _).2.1 HS1.out hcS hcM (by omega) (later5 w4 _ _ _ _ _)
        · simp only [ga, gs, gz]
          go_simp
          refine hK.out _ _ (KF.out _ Later.au) (fun hHeld => ?_)
          clear hK K
          try simp only [ga, gs, gz, Act.put, sa, sz, ss]
          refine tk 14 ?_
          refine rd 6 fun K hK => ?_
          simp only [ga, gs, gz]
          go_simp
          refine hK.out _ _ (KF.out _ Later.au) (fun hHeld => ?_)
          clear hK K
          try simp only [ga, gs, gz, Act.put, sa, sz, ss]
          refine tk 7 ?_
          refine rd 15 fun K hK => ?_
          simp only [ga, gs, gz]
          go_simp
          refine hK.out _ _ (KF.out _ Later.au) (fun hHeld => ?_)
          clear hK K
          try simp only [ga, gs, gz, Act.put, sa, sz, ss]
          refine tk 16 ?_
          refine rd 18 fun K hK => ?_
          simp only [ga, gs, gz]
          go_simp
          refine hK.out _ _ ?_ (fun hHeld => ?_)
          · (try dsimp only); (refine ⟨?_, ?_⟩ <;> (repeat (refine cell_setfar ?_ (by first | omega | (simp; done) | (simp; omega)))) <;> (refine Later.cell (Later.au : Later w4 _) ?_) <;> assumption)
          clear hK K
          try simp only [ga, gs, gz, Act.put, sa, sz, ss]
          clear KF
          refine wpAnyH_done (by kernel_rfl) ?_ _
          refine NoPanic.normal ?_
          clear hHeld
          go_wp2_with fail
          go_meet
          exact ld_cut (q0 := w4.heap.size) (qP := w4.heap.size + 1 + 1 + 1) (q1 := w4.heap.size + 1 + 1) (qN := w4.heap.size + 1 + 1 + 1 + 1) (tb := w4.heap.size + 1) (al5 w4 _ _ _ _ _).1 (al5 w4 _ _ _ _ _).2.2.2.1 (al5 w4 _ _ _ _ _).2.2.1 (al5 w4 _ _ _ _ _).2.2.2.2 (al5 w4 _ _ _ _ _).2.1 HS1.out hcS hcM (by omega) (later5 w4 _ _ _ _ _)
    · simp only [ga, gs, gz]
      go_simp
      refine hK.out _ _ (KF.out _ Later.au) (fun hHeld => ?_)
      clear hK K
      try simp only [ga, gs, gz, Act.put, sa, sz, ss]
      refine wpAnyH_ready (rs := [3, 13, 17]) (by kernel_rfl) (by simp) ?_
      refine AllReadyH.cons (o := _) rfl (fun K hK => ?_) (AllReadyH.cons (o := _) rfl (fun K hK => ?_) (AllReadyH.cons (o := _) rfl (fun K hK => ?_) (AllReadyH.nil)))
      · simp only [ga, gs, gz]
        go_simp
        refine hK.out _ _ (KF.out _ Later.au) (fun hHeld => ?_)
        clear hK K
        try simp only [ga, gs, gz, Act.put, sa, sz, ss]
        refine tk 7 ?_
        refine wpAnyH_ready (rs := [13, 17]) (by kernel_rfl) (by simp) ?_
        refine AllReadyH.cons (o := _) rfl (fun K hK => ?_) (AllReadyH.cons (o := _) rfl (fun K hK => ?_) (AllReadyH.nil))
        · simp only [ga, gs, gz]
          go_simp
          refine hK.out _ _ (KF.out _ Later.au) (fun hHeld => ?_)
          clear hK K
          try simp only [ga, gs, gz, Act.put, sa, sz, ss]
          refine tk 14 ?_
          refine wpAnyH_ready (rs := [15, 17]) (by kernel_rfl) (by simp) ?_
          refine AllReadyH.cons (o := _) rfl (fun K hK => ?_) (AllReadyH.cons (o := _) rfl (fun K hK => ?_) (AllReadyH.nil))
          · simp only [ga, gs, gz]
            go_simp
            refine hK.out _ _ (KF.out _ Later.au) (fun hHeld => ?_)
            clear hK K
            try simp only [ga, gs, gz, Act.put, sa, sz, ss]
            refine tk 16 ?_
            refine rd 17 fun K hK => ?_
            simp only [ga, gs, gz]
            go_simp
            refine hK.out _ _ (KF.out _ Later.au) (fun hHeld => ?_)
            clear hK K
            try simp only [ga, gs, gz, Act.put, sa, sz, ss]
            refine rd 18 fun K hK => ?_
            simp only [ga, gs, gz]
            go_simp
            refine hK.out _ _ ?_ (fun hHeld => ?_)
            · (try dsimp only); (refine ⟨?_, ?_⟩ <;> (repeat (refine cell_setfar ?_ (by first | omega | (simp; done) | (simp; omega)))) <;> (refine Later.cell (Later.au : Later w4 _) ?_) <;> assumption)
            clear hK K
            try simp only [ga, gs, gz, Act.put, sa, sz, ss]
            clear KF
            refine wpAnyH_done (by kernel_rfl) ?_ _
            refine NoPanic.normal ?_
            clear hHeld
            go_wp2_with fail
            go_meet
            exact ld_cut (q0 := w4.heap.size + 1) (qP := w4.heap.size) (q1 := w4.heap.size + 1 + 1) (qN := w4.heap.size + 1 + 1 + 1) (tb := w4.heap.size + 1 + 1 + 1 + 1) (al5 w4 _ _ _ _ _).2.1 (al5 w4 _ _ _ _ _).1 (al5 w4 _ _ _ _ _).2.2.1 (al5 w4 _ _ _ _ _).2.2.2.1 (al5 w4 _ _ _ _ _).2.2.2.2 HS1.out hcS hcM (by omega) (later5 w4 _ _ _ _ _)
          · simp only [ga, gs, gz]
            go_simp
            refine hK.out _ _ (KF.out _ Later.au) (fun hHeld => ?_)
            clear hK K
            try simp only [ga, gs, gz, Act.put, sa, sz, ss]
            refine rd 15 fun K hK => ?_
            simp only [ga, gs, gz]
            go_simp
            refine hK.out _ _ (KF.out _ Later.au) (fun hHeld => ?_)
            clear hK K
            try simp only [ga, gs, gz, Act.put, sa, sz, ss]
            refine tk 16 ?_
            refine rd 18 fun K hK => ?_
            simp only [ga, gs, gz]
            go_simp
            refine hK.out _ _ ?_ (fun hHeld => ?_)
            · (try dsimp only); (refine ⟨?_, ?_⟩ <;> (repeat (refine cell_setfar ?_ (by first | omega | (simp; done) | (simp; omega)))) <;> (refine Later.cell (Later.au : Later w4 _) ?_) <;> assumption)
            clear hK K
            try simp only [ga, gs, gz, Act.put, sa, sz, ss]
            clear KF
            refine wpAnyH_done (by kernel_rfl) ?_ _
            refine NoPanic.normal ?_
            clear hHeld
            go_wp2_with fail
            go_meet
            exact ld_cut (q0 := w4.heap.size + 1) (qP := w4.heap.size) (q1 := w4.heap.size + 1 + 1) (qN := w4.heap.size + 1 + 1 + 1 + 1) (tb := w4.heap.size + 1 + 1 + 1) (al5 w4 _ _ _ _ _).2.1 (al5 w4 _ _ _ _ _).1 (al5 w4 _ _ _ _ _).2.2.1 (al5 w4 _ _ _ _ _).2.2.2.2 (al5 w4 _ _ _ _ _).2.2.2.1 HS1.out hcS hcM (by omega) (later5 w4 _ _ _ _ _)
        · simp only [ga, gs, gz]
          go_simp
          refine hK.out _ _ (KF.out _ Later.au) (fun hHeld => ?_)
          clear hK K
          try simp only [ga, gs, gz, Act.put, sa, sz, ss]
          refine rd 13 fun K hK => ?_
          simp only [ga, gs, gz]
          go_simp
          refine hK.out _ _ (KF.out _ Later.au) (fun hHeld => ?_)
          clear hK K
          try simp only [ga, gs, gz, Act.put, sa, sz, ss]
          refine tk 14 ?_
          refine rd 15 fun K hK => ?_
          simp only [ga, gs, gz]
          go_simp
          refine hK.out _ _ (KF.out _ Later.au) (fun hHeld => ?_)
          clear hK K
          try simp only [ga, gs, gz, Act.put, sa, sz, ss]
          refine tk 16 ?_
          refine rd 18 fun K hK => ?_
          simp only [ga, gs, gz]
          go_simp
          refine hK.out _ _ ?_ (fun hHeld => ?_)
          · (try dsimp only); (refine ⟨?_, ?_⟩ <;> (repeat (refine cell_setfar ?_ (by first | omega | (simp; done) | (simp; omega)))) <;> (refine Later.cell (Later.au : Later w4 _) ?_) <;> assumption)
          clear hK K
          try simp only [ga, gs, gz, Act.put, sa, sz, ss]
          clear KF
          refine wpAnyH_done (by kernel_rfl) ?_ _
          refine NoPanic.normal ?_
          clear hHeld
          go_wp2_with fail
          go_meet
          exact ld_cut (q0 := w4.heap.size + 1) (qP := w4.heap.size) (q1 := w4.heap.size + 1 + 1 + 1) (qN := w4.heap.size + 1 + 1 + 1 + 1) (tb := w4.heap.size + 1 + 1) (al5 w4 _ _ _ _ _).2.1 (al5 w4 _ _ _ _ _).1 (al5 w4 _ _ _ _ _).2.2.2.1 (al5 w4 _ _ _ _ _).2.2.2.2 (al5 w4 _ _ _ _ _).2.2.1 HS1.out hcS hcM (by omega) (later5 w4 _ _ _ _ _)
      · simp only [ga, gs, gz]
        go_simp
        refine hK.out _ _ (KF.out _ Later.au) (fun hHeld => ?_)
        clear hK K
        try simp only [ga, gs, gz, Act.put, sa, sz, ss]
        refine tk 14 ?_
        refine wpAnyH_ready (rs := [3, 17]) (by kernel_rfl) (by simp) ?_
        refine AllReadyH.cons (o := _) rfl (fun K hK => ?_) (AllReadyH.cons (o := _) rfl (fun K hK => ?_) (AllReadyH.nil))
        · simp only [ga, gs, gz]
          go_simp
          refine hK.out _ _ (KF.out _ Later.au) (fun hHeld => ?_)
          clear hK K
          try simp only [ga, gs, gz, Act.put, sa, sz, ss]
          refine tk 7 ?_
          refine wpAnyH_ready (rs := [15, 17]) (by kernel_rfl) (by simp) ?_
          refine AllReadyH.cons (o := _) rfl (fun K hK => ?_) (AllReadyH.cons (o := _) rfl (fun K hK => ?_) (AllReadyH.nil))
          · simp only [ga, gs, gz]
            go_simp
            refine hK.out _ _ (KF.out _ Later.au) (fun hHeld => ?_)
            clear hK K
            try simp only [ga, gs, gz, Act.put, sa, sz, ss]
            refine tk 16 ?_
            refine rd 17 fun K hK => ?_
            simp only [ga, gs, gz]
            go_simp
            refine hK.out _ _ (KF.out _ Later.au) (fun hHeld => ?_)
            clear hK K
            try simp only [ga, gs, gz, Act.put, sa, sz, ss]
            refine rd 18 fun K hK => ?_
            simp only [ga, gs, gz]
            go_simp
            refine hK.out _ _ ?_ (fun hHeld => ?_)
            · (try dsimp only); (refine ⟨?_, ?_⟩ <;> (repeat (refine cell_setfar ?_ (by first | omega | (simp; done) | (simp; omega)))) <;> (refine Later.cell (Later.au : Later w4 _) ?_) <;> assumption)
            clear hK K
            try simp only [ga, gs, gz, Act.put, sa, sz, ss]
            clear KF
            refine wpAnyH_done (by kernel_rfl) ?_ _
            refine NoPanic.normal ?_
            clear hHeld
            go_wp2_with fail
            go_meet
            exact ld_cut (q0 := w4.heap.size + 1 + 1) (qP := w4.heap.size) (q1 := w4.heap.size + 1) (qN := w4.heap.size + 1 + 1 + 1) (tb := w4.heap.size + 1 + 1 + 1 + 1) (al5 w4 _ _ _ _ _).2.2.1 (al5 w4 _ _ _ _ _).1 (al5 w4 _ _ _ _ _).2.1 (al5 w4 _ _ _ _ _).2.2.2.1 (al5 w4 _ _ _ _ _).2.2.2.2 HS1.out hcS hcM (by omega) (later5 w4 _ _ _ _ _)
          · simp only [ga, gs, gz]
            go_simp
            refine hK.out _ _ (KF.out _ Later.au) (fun hHeld => ?_)
            clear hK K
            try simp only [ga, gs, gz, Act.put, sa, sz, ss]
            refine rd 15 fun K hK => ?_
            simp only [ga, gs, gz]
            go_simp
            refine hK.out _ _ (KF.out _ Later.au) (fun hHeld => ?_)
            clear hK K
            try simp only [ga, gs, gz, Act.put, sa, sz, ss]
            refine tk 16 ?_
            refine rd 18 fun K hK => ?_
            simp only [ga, gs, gz]
            go_simp
            refine hK.out _ _ ?_ (fun hHeld => ?_)
            · (try dsimp only); (refine ⟨?_, ?_⟩ <;> (repeat (refine cell_setfar ?_ (by first | omega | (simp; done) | (simp; omega)))) <;> (refine Later.cell (Later.au : Later w4 _) ?_) <;> assumption)
            clear hK K
            try simp only [ga, gs, gz, Act.put, sa, sz, ss]
            clear KF
            refine wpAnyH_done (by kernel_rfl) ?_ _
            refine NoPanic.normal ?_
            clear hHeld
            go_wp2_with fail
            go_meet
            exact ld_cut (q0 := w4.heap.size + 1 + 1) (qP := w4.heap.size) (q1 := w4.heap.size + 1) (qN := w4.heap.size + 1 + 1 + 1 + 1) (tb := w4.heap.size + 1 + 1 + 1) (al5 w4 _ _ _ _ _).2.2.1 (al5 w4 _ _ _ _ _).1 (al5 w4 _ _ _ _ _).2.1 (al5 w4 _ _ _ _ _).2.2.2.2 (al5 w4 _ _ _ _ _).2.2.2.1 HS1.out hcS hcM (by omega) (later5 w4 _ _ _ _ _)
        · simp only [ga, gs, gz]
          go_simp
          refine hK.out _ _ (KF.out _ Later.au) (fun hHeld => ?_)
          clear hK K
          try simp only [ga, gs, gz, Act.put, sa, sz, ss]
          refine rd 3 fun K hK => ?_
          simp only [ga, gs, gz]
          go_simp
          refine hK.out _ _ (KF.out _ Later.au) (fun hHeld => ?_)
          clear hK K
          try simp only [ga, gs, gz, Act.put, sa, sz, ss]
          refine tk 7 ?_
          refine rd 15 fun K hK => ?_
          simp only [ga, gs, gz]
          go_simp
          refine hK.out _ _ (KF.out _ Later.au) (fun hHeld => ?_)
          clear hK K
          try simp only [ga, gs, gz, Act.put, sa, sz, ss]
          refine tk 16 ?_
          refine rd 18 fun K hK => ?_
          simp only [ga, gs, gz]
          go_simp
          refine hK.out _ _ ?_ (fun hHeld => ?_)
          · (try dsimp only); (refine ⟨?_, ?_⟩ <;> (repeat (refine cell_setfar ?_ (by first | omega | (simp; done) | (simp; omega)))) <;> (refine Later.cell (Later.au : Later w4 _) ?_) <;> assumption)
          clear hK K
          try simp only [ga, gs, gz, Act.put, sa, sz, ss]
          clear KF
          refine wpAnyH_done (by kernel_rfl) ?_ _
          refine NoPanic.normal ?_
          clear hHeld
          go_wp2_with fail
          go_meet
          exact ld_cut (q0 := w4.heap.size + 1 + 1 + 1) (qP := w4.heap.size) (q1 := w4.heap.size + 1) (qN := w4.heap.size + 1 + 1 + 1 + 1) (tb := w4.heap.size + 1 + 1) (al5 w4 _ _ _ _ _).2.2.2.1 (al5 w4 _ _ _ _ _).1 (al5 w4 _ _ _ _ _).2.1 (al5 w4 _ _ _ _ _).2.2.2.2 (al5 w4 _ _ _ _ _).2.2.1 HS1.out hcS hcM (by omega) (later5 w4 _ _ _ _ _)
      · simp only [ga, gs, gz]
        go_simp
        refine hK.out _ _ (KF.out _ Later.au) (fun hHeld => ?_)
        clear hK K
        try simp only [ga, gs, gz, Act.put, sa, sz, ss]
        refine wpAnyH_ready (rs := [3, 13]) (by kernel_rfl) (by simp) ?_
        refine AllReadyH.cons (o := _) rfl (fun K hK => ?_) (AllReadyH.cons (o := _) rfl (fun K hK => ?_) (AllReadyH.nil))
        · simp only [ga, gs, gz]
          go_simp
          refine hK.out _ _ (KF.out _ Later.au) (fun hHeld => ?_)
          clear hK K
          try simp only [ga, gs, gz, Act.put, sa, sz, ss]
          refine tk 7 ?_
          refine rd 13 fun K hK => ?_
          simp only [ga, gs, gz]
          go_simp
          refine hK.out _ _ (KF.out _ Later.au) (fun hHeld => ?_)
          clear hK K
          try simp only [ga, gs, gz, Act.put, sa, sz, ss]
          refine tk 14 ?_
          refine rd 15 fun K hK => ?_
          simp only [ga, gs, gz]
          go_simp
          refine hK.out _ _ (KF.out _ Later.au) (fun hHeld => ?_)
          clear hK K
          try simp only [ga, gs, gz, Act.put, sa, sz, ss]
          refine tk 16 ?_
          refine rd 18 fun K hK => ?_
          simp only [ga, gs, gz]
          go_simp
          refine hK.out _ _ ?_ (fun hHeld => ?_)
          · (try dsimp only); (refine ⟨?_, ?_⟩ <;> (repeat (refine cell_setfar ?_ (by first | omega | (simp; done) | (simp; omega)))) <;> (refine Later.cell (Later.au : Later w4 _) ?_) <;> assumption)
          clear hK K
          try simp only [ga, gs, gz, Act.put, sa, sz, ss]
          clear KF
          refine wpAnyH_done (by kernel_rfl) ?_ _
          refine NoPanic.normal ?_
          clear hHeld
          go_wp2_with fail
          go_meet
          exact ld_cut (q0 := w4.heap.size + 1 + 1) (qP := w4.heap.size) (q1 := w4.heap.size + 1 + 1 + 1) (qN := w4.heap.size + 1 + 1 + 1 + 1) (tb := w4.heap.size + 1) (al5 w4 _ _ _ _ _).2.2.1 (al5 w4 _ _ _ _ _).1 (al5 w4 _ _ _ _ _).2.2.2.1 (al5 w4 _ _ _ _ _).2.2.2.2 (al5 w4 _ _ _ _ _).2.1 HS1.out hcS hcM (by omega) (later5 w4 _ _ _ _ _)
        · simp only [ga, gs, gz]
          go_simp
          refine hK.out _ _ (KF.out _ Later.au) (fun hHeld => ?_)
          clear hK K
          try simp only [ga, gs, gz, Act.put, sa, sz, ss]
          refine tk 14 ?_
          refine rd 3 fun K hK => ?_
          simp only [ga, gs, gz]
          go_simp
          refine hK.out _ _ (KF.out _ Later.au) (fun hHeld => ?_)
          clear hK K
          try simp only [ga, gs, gz, Act.put, sa, sz, ss]
          refine tk 7 ?_
          refine rd 15 fun K hK => ?_
          simp only [ga, gs, gz]
          go_simp
          refine hK.out _ _ (KF.out _ Later.au) (fun hHeld => ?_)
          clear hK K
          try simp only [ga, gs, gz, Act.put, sa, sz, ss]
          refine tk 16 ?_
          refine rd 18 fun K hK => ?_
          simp only [ga, gs, gz]
          go_simp
          refine hK.out _ _ ?_ (fun hHeld => ?_)
          · (try dsimp only); (refine ⟨?_, ?_⟩ <;> (repeat (refine cell_setfar ?_ (by first | omega | (simp; done) | (simp; omega)))) <;> (refine Later.cell (Later.au : Later w4 _) ?_) <;> assumption)
          clear hK K
          try simp only [ga, gs, gz, Act.put, sa, sz, ss]
          clear KF
          refine wpAnyH_done (by kernel_rfl) ?_ _
          refine NoPanic.normal ?_
          clear hHeld
          go_wp2_with fail
          go_meet
          exact ld_cut (q0 := w4.heap.size + 1 + 1 + 1) (qP := w4.heap.size) (q1 := w4.heap.size + 1 + 1) (qN := w4.heap.size + 1 + 1 + 1 + 1) (tb := w4.heap.size + 1) (al5 w4 _ _ _ _ _).2.2.2.1 (al5 w4 _ _ _ _ _).1 (al5 w4 _ _ _ _ _).2.2.1 (al5 w4 _ _ _ _ _).2.2.2.2 (al5 w4 _ _ _ _ _).2.1 HS1.out hcS hcM (by omega) (later5 w4 _ _ _ _ _)
    · simp only [ga, gs, gz]
      go_simp
      refine hK.out _ _ (KF.out _ Later.au) (fun hHeld => ?_)
      clear hK K
      try simp only [ga, gs, gz, Act.put, sa, sz, ss]
      refine tk 14 ?_
      refine wpAnyH_ready (rs := [3, 6, 17]) (by kernel_rfl) (by simp) ?_
      refine AllReadyH.cons (o := _) rfl (fun K hK => ?_) (AllReadyH.cons (o := _) rfl (fun K hK => ?_) (AllReadyH.cons (o := _) rfl (fun K hK => ?_) (AllReadyH.nil)))
      · simp only [ga, gs, gz]
        go_simp
        refine hK.out _ _ (KF.out _ Later.au) (fun hHeld => ?_)
        clear hK K
        try simp only [ga, gs, gz, Act.put, sa, sz, ss]
        refine wpAnyH_ready (rs := [6, 17]) (by kernel_rfl) (by simp) ?_
        refine AllReadyH.cons (o := _) rfl (fun K hK => ?_) (AllReadyH.cons (o := _) rfl (fun K hK => ?_) (AllReadyH.nil))
        · simp only [ga, gs, gz]
          go_simp
          refine hK.out _ _ (KF.out _ Later.au) (fun hHeld => ?_)
          clear hK K
          try simp only [ga, gs, gz, Act.put, sa, sz, ss]
          refine tk 7 ?_
          refine wpAnyH_ready (rs := [15, 17]) (by kernel_rfl) (by simp) ?_
          refine AllReadyH.cons (o := _) rfl (fun K hK => ?_) (AllReadyH.cons (o := _) rfl (fun K hK => ?_) (AllReadyH.nil))
          · simp only [ga, gs, gz]
            go_simp
            refine hK.out _ _ (KF.out _ Later.au) (fun hHeld => ?_)
            clear hK K
            try simp only [ga, gs, gz, Act.put, sa, sz, ss]
            refine tk 16 ?_
            refine rd 17 fun K hK => ?_
            simp only [ga, gs, gz]
            go_simp
            refine hK.out _ _ (KF.out _ Later.au) (fun hHeld => ?_)
            clear hK K
            try simp only [ga, gs, gz, Act.put, sa, sz, ss]
            refine rd 18 fun K hK => ?_
            simp only [ga, gs, gz]
            go_simp
            refine hK.out _ _ ?_ (fun hHeld => ?_)
            · (try dsimp only); (refine ⟨?_, ?_⟩ <;> (repeat (refine cell_setfar ?_ (by first | omega | (simp; done) | (simp; omega)))) <;> (refine Later.cell (Later.au : Later w4 _) ?_) <;> assumption)
            clear hK K
            try simp only [ga, gs, gz, Act.put, sa, sz, ss]
            clear KF
            refine wpAnyH_done (by kernel_rfl) ?_ _
            refine NoPanic.normal ?_
            clear hHeld
            go_wp2_with fail
            go_meet
            exact ld_cut (q0 := w4.heap.size + 1) (qP := w4.heap.size + 1 + 1) (q1 := w4.heap.size) (qN := w4.heap.size + 1 + 1 + 1) (tb := w4.heap.size + 1 + 1 + 1 + 1) (al5 w4 _ _ _ _ _).2.1 (al5 w4 _ _ _ _ _).2.2.1 (al5 w4 _ _ _ _ _).1 (al5 w4 _ _ _ _ _).2.2.2.1 (al5 w4 _ _ _ _ _).2.2.2.2 HS1.out hcS hcM (by omega) (later5 w4 _ _ _ _ _)
          · simp only [ga, gs, gz]
            go_simp
            refine hK.out _ _ (KF.out _ Later.au) (fun hHeld => ?_)
            clear hK K
            try simp only [ga, gs, gz, Act.put, sa, sz, ss]
            refine rd 15 fun K hK => ?_
            simp only [ga, gs, gz]
            go_simp
            refine hK.out _ _ (KF.out _ Later.au) (fun hHeld => ?_)
            clear hK K
            try simp only [ga, gs, gz, Act.put, sa, sz, ss]
            refine tk 16 ?_
            refine rd 18 fun K hK => ?_
            simp only [ga, gs, gz]
            go_simp
            refine hK.out _ _ ?_ (fun hHeld => ?_)
            · (try dsimp only); (refine ⟨?_, ?_⟩ <;> (repeat (refine cell_setfar ?_ (by first | omega | (simp; done) | (simp; omega)))) <;> (refine Later.cell (Later.au : Later w4 _) ?_) <;> assumption)
            clear hK K
            try simp only [ga, gs, gz, Act.put, sa, sz, ss]
            clear KF
            refine wpAnyH_done (by kernel_rfl) ?_ _
            refine NoPanic.normal ?_
            clear hHeld
            go_wp2_with fail
            go_meet
            exact ld_cut (q0 := w4.heap.size + 1) (qP := w4.heap.size + 1 + 1) (q1 := w4.heap.size) (qN := w4.heap.size + 1 + 1 + 1 + 1) (tb := w4.heap.size + 1 + 1 + 1) (al5 w4 _ _ _ _ _).2.1 (al5 w4 _ _ _ _ _).2.2.1 (al5 w4 _ _ _ _ _).1 (al5 w4 _ _ _ _ _).2.2.2.2 (al5 w4 _ _ _ _ _).2.2.2.1 HS1.out hcS hcM (by omega) (later5 w4 _ _ _ _ _)
        · simp only [ga, gs, gz]
          go_simp
          refine hK.out _ _ (KF.out _ Later.au) (fun hHeld => ?_)
          clear hK K
          try simp only [ga, gs, gz, Act.put, sa, sz, ss]
          refine rd 6 fun K hK => ?_
          simp only [ga, gs, gz]
          go_simp
          refine hK.out _ _ (KF.out _ Later.au) (fun hHeld => ?_)
          clear hK K
          try simp only [ga, gs, gz, Act.put, sa, sz, ss]
          refine tk 7 ?_
          refine rd 15 fun K hK => ?_
          simp only [ga, gs, gz]
          go_simp
          refine hK.out _ _ (KF.out _ Later.au) (fun hHeld => ?_)
          clear hK K
          try simp only [ga, gs, gz, Act.put, sa, sz, ss]
          refine tk 16 ?_
          refine rd 18 fun K hK => ?_
          simp only [ga, gs, gz]
          go_simp
          refine hK.out _ _ ?_ (fun hHeld => ?_)
          · (try dsimp only); (refine ⟨?_, ?_⟩ <;> (repeat (refine cell_setfar ?_ (by first | omega | (simp; done) | (simp; omega)))) <;> (refine Later.cell (Later.au : Later w4 _) ?_) <;> assumption)
          clear hK K
          try simp only [ga, gs, gz, Act.put, sa, sz, ss]
          clear KF
          refine wpAnyH_done (by kernel_rfl) ?_ _
          refine NoPanic.normal ?_
          clear hHeld
          go_wp2_with fail
          go_meet
          exact ld_cut (q0 := w4.heap.size + 1) (qP := w4.heap.size + 1 + 1 + 1) (q1 := w4.heap.size) (qN := w4.heap.size + 1 + 1 + 1 + 1) (tb := w4.heap.size + 1 + 1) (al5 w4 _ _ _ _ _).2.1 (al5 w4 _ _ _ _ _).2.2.2.1 (al5 w4 _ _ _ _ _).1 (al5 w4 _ _ _ _ _).2.2.2.2 (al5 w4 _ _ _ _ _).2.2.1 HS1.out hcS hcM (by omega) (later5 w4 _ _ _ _ _)
      · simp only [ga, gs, gz]
        go_simp
        refine hK.out _ _ (KF.out _ Later.au) (fun hHeld => ?_)
        clear hK K
        try simp only [ga, gs, gz, Act.put, sa, sz, ss]
        refine wpAnyH_ready (rs := [3, 17]) (by kernel_rfl) (by simp) ?_
        refine AllReadyH.cons (o := _) rfl (fun K hK => ?_) (AllReadyH.cons (o := _) rfl (fun K hK => ?_) (AllReadyH.nil))
        · simp only [ga, gs, gz]
          go_simp
          refine hK.out _ _ (KF.out _ Later.au) (fun hHeld => ?_)
          clear hK K
          try simp only [ga, gs, gz, Act.put, sa, sz, ss]
          refine tk 7 ?_
          refine wpAnyH_ready (rs := [15, 17]) (by kernel_rfl) (by simp) ?_
          refine AllReadyH.cons (o := _) rfl (fun K hK => ?_) (AllReadyH.cons (o := _) rfl (fun K hK => ?_) (AllReadyH.nil))
          · simp only [ga, gs, gz]
            go_simp
            refine hK.out _ _ (KF.out _ Later.au) (fun hHeld => ?_)
            clear hK K
            try simp only [ga, gs, gz, Act.put, sa, sz, ss]
            refine tk 16 ?_
            refine rd 17 fun K hK => ?_
            simp only [ga, gs, gz]
            go_simp
            refine hK.out _ _ (KF.out _ Later.au) (fun hHeld => ?_)
            clear hK K
            try simp only [ga, gs, gz, Act.put, sa, sz, ss]
            refine rd 18 fun K hK => ?_
            simp only [ga, gs, gz]
            go_simp
            refine hK.out _ _ ?_ (fun hHeld => ?_)
            · (try dsimp only); (refine ⟨?_, ?_⟩ <;> (repeat (refine cell_setfar ?_ (by first | omega | (simp; done) | (simp; omega)))) <;> (refine Later.cell (Later.au : Later w4 _) ?_) <;> assumption)
            clear hK K
            try simp only [ga, gs, gz, Act.put, sa, sz, ss]
            clear KF
            refine wpAnyH_done (by kernel_rfl) ?_ _
            refine NoPanic.normal ?_
            clear hHeld
            go_wp2_with fail
            go_meet
            exact ld_cut (q0 := w4.heap.size + 1 + 1) (qP := w4.heap.size + 1) (q1 := w4.heap.size) (qN := w4.heap.size + 1 + 1 + 1) (tb := w4.heap.size + 1 + 1 + 1 + 1) (al5 w4 _ _ _ _ _).2.2.1 (al5 w4 _ _ _ _ _).2.1 (al5 w4 _ _ _ _ _).1 (al5 w4 _ _ _ _ _).2.2.2.1 (al5 w4 _ _ _ _ _).2.2.2.2 HS1.out hcS hcM (by omega) (later5 w4 _ _ _ _ _)
          · simp only [ga, gs, gz]
            go_simp
            refine hK.out _ _ (KF.out _ Later.au) (fun hHeld => ?_)
            clear hK K
            try simp only [ga, gs, gz, Act.put, sa, sz, ss]
            refine rd 15 fun K hK => ?_
            simp only [ga, gs, gz]
            go_simp
            refine hK.out _ _ (KF.out _ Later.au) (fun hHeld => ?_)
            clear hK K
            try simp only [ga, gs, gz, Act.put, sa, sz, ss]
            refine tk 16 ?_
            refine rd 18 fun K hK => ?_
            simp only [ga, gs, gz]
            go_simp
            refine hK.out _ _ ?_ (fun hHeld => ?_)
            · (try dsimp only); (refine ⟨?_, ?_⟩ <;> (repeat (refine cell_setfar ?_ (by first | omega | (simp; done) | (simp; omega)))) <;> (refine Later.cell (Later.au : Later w4 _) ?_) <;> assumption)
            clear hK K
            try simp only [ga, gs, gz, Act.put, sa, sz, ss]
            clear KF
            refine wpAnyH_done (by kernel_rfl) ?_ _
            refine NoPanic.normal ?_
            clear hHeld
            go_wp2_with fail
            go_meet
            exact ld_cut (q0 := w4.heap.size + 1 + 1) (qP := w4.heap.size + 1) (q1 := w4.heap.size) (qN := w4.heap.size + 1 + 1 + 1 + 1) (tb := w4.heap.size + 1 + 1 + 1) (al5 w4 _ _ _ _ _).2.2.1 (al5 w4 _ _ _ _ _).2.1 (al5 w4 _ _ _ _ _).1 (al5 w4 _ _ _ _ _).2.2.2.2 (al5 w4 _ _ _ _ _).2.2.2.1 HS1.out hcS hcM (by omega) (later5 w4 _ _ _ _ _)
        · simp only [ga, gs, gz]
          go_simp
          refine hK.out _ _ (KF.out _ Later.au) (fun hHeld => ?_)
          clear hK K
          try simp only [ga, gs, gz, Act.put, sa, sz, ss]
          refine rd 3 fun K hK => ?_
          simp only [ga, gs, gz]
          go_simp
          refine hK.out _ _ (KF.out _ Later.au) (fun hHeld => ?_)
          clear hK K
          try simp only [ga, gs, gz, Act.put, sa, sz, ss]
          refine tk 7 ?_
          refine rd 15 fun K hK => ?_
          simp only [ga, gs, gz]
          go_simp
          refine hK.out _ _ (KF.out _ Later.au) (fun hHeld => ?_)
          clear hK K
          try simp only [ga, gs, gz, Act.put, sa, sz, ss]
          refine tk 16 ?_
          refine rd 18 fun K hK => ?_
          simp only [ga, gs, gz]
          go_simp
          refine hK.out _ _ ?_ (fun hHeld => ?_)
          · (try dsimp only); (refine ⟨?_, ?_⟩ <;> (repeat (refine cell_setfar ?_ (by first | omega | (simp; done) | (simp; omega)))) <;> (refine Later.cell (Later.au : Later w4 _) ?_) <;> assumption)
          clear hK K
          try simp only [ga, gs, gz, Act.put, sa, sz, ss]
          clear KF
          refine wpAnyH_done (by kernel_rfl) ?_ _
          refine NoPanic.normal ?_
          clear hHeld
          go_wp2_with fail
          go_meet
          exact ld_cut (q0 := w4.heap.size + 1 + 1 + 1) (qP := w4.heap.size + 1) (q1 := w4.heap.size) (qN := w4.heap.size + 1 + 1 + 1 + 1) (tb := w4.heap.size + 1 + 1) (al5 w4 _ _ _ _ _).2.2.2.1 (al5 w4 _ _ _ _ _).2.1 (al5 w4 _ _ _ _ _).1 (al5 w4 _ _ _ _ _).2.2.2.2 (al5 w4 _ _ _ _ _).2.2.1 HS1.out hcS hcM (by omega) (later5 w4 _ _ _ _ _)
      · simp only [ga, gs, gz]
        go_simp
        refine hK.out _ _ (KF.out _ Later.au) (fun hHeld => ?_)
        clear hK K
        try simp only [ga, gs, gz, Act.put, sa, sz, ss]
        refine wpAnyH_ready (rs := [3, 6]) (by kernel_rfl) (by simp) ?_
        refine AllReadyH.cons (o := _) rfl (fun K hK => ?_) (AllReadyH.cons (o := _) rfl (fun K hK => ?_) (AllReadyH.nil))
        · simp only [ga, gs, gz]
          go_simp
          refine hK.out _ _ (KF.out _ Later.au) (fun hHeld => ?_)
          clear hK K
          try simp only [ga, gs, gz, Act.put, sa, sz, ss]
          refine rd 6 fun K hK => ?_
          simp only [ga, gs, gz]
          go_simp
          refine hK.out _ _ (KF.out _ Later.au) (fun hHeld => ?_)
          clear hK K
          try simp only [ga, gs, gz, Act.put, sa, sz, ss]
          refine tk 7 ?_
          refine rd 15 fun K hK => ?_
          simp only [ga, gs, gz]
          go_simp
          refine hK.out _ _ (KF.out _ Later.au) (fun hHeld => ?_)
          clear hK K
          try simp only [ga, gs, gz, Act.put, sa, sz, ss]
          refine tk 16 ?_
          refine rd 18 fun K hK => ?_
          simp only [ga, gs, gz]
          go_simp
          refine hK.out _ _ ?_ (fun hHeld => ?_)
          · (try dsimp only); (refine ⟨?_, ?_⟩ <;> (repeat (refine cell_setfar ?_ (by first | omega | (simp; done) | (simp; omega)))) <;> (refine Later.cell (Later.au : Later w4 _) ?_) <;> assumption)
          clear hK K
          try simp only [ga, gs, gz, Act.put, sa, sz, ss]
          clear KF
          refine wpAnyH_done (by kernel_rfl) ?_ _
          refine NoPanic.normal ?_
          clear hHeld
          go_wp2_with fail
          go_meet
          exact ld_cut (q0 := w4.heap.size + 1 + 1) (qP := w4.heap.size + 1 + 1 + 1) (q1 := w4.heap.size) (qN := w4.heap.size + 1 + 1 + 1 + 1) (tb := w4.heap.size + 1) (al5 w4 _ _ _ _ _).2.2.1 (al5 w4 _ _ _ _ _).2.2.2.1 (al5 w4 _ _ _ _ _).1 (al5 w4 _ _ _ _ _).2.2.2.2 (al5 w4 _ _ _ _ _).2.1 HS1.out hcS hcM (by omega) (later5 w4 _ _ _ _ _)
        · simp only [ga, gs, gz]
          go_simp
          refine hK.out _ _ (KF.out _ Later.au) (fun hHeld => ?_)
          clear hK K
          try simp only [ga, gs, gz, Act.put, sa, sz, ss]
          refine rd 3 fun K hK => ?_
          simp only [ga, gs, gz]
          go_simp
          refine hK.out _ _ (KF.out _ Later.au) (fun hHeld => ?_)
          clear hK K
          try simp only [ga, gs, gz, Act.put, sa, sz, ss]
          refine tk 7 ?_
          refine rd 15 fun K hK => ?_
          simp only [ga, gs, gz]
          go_simp
          refine hK.out _ _ (KF.out _ Later.au) (fun hHeld => ?_)
          clear hK K
          try simp only [ga, gs, gz, Act.put, sa, sz, ss]
          refine tk 16 ?_
          refine rd 18 fun K hK => ?_
          simp only [ga, gs, gz]
          go_simp
          refine hK.out _ _ ?_ (fun hHeld => ?_)
          · (try dsimp only); (refine ⟨?_, ?_⟩ <;> (repeat (refine cell_setfar ?_ (by first | omega | (simp; done) | (simp; omega)))) <;> (refine Later.cell (Later.au : Later w4 _) ?_) <;> assumption)
          clear hK K
          try simp only [ga, gs, gz, Act.put, sa, sz, ss]
          clear KF
          refine wpAnyH_done (by kernel_rfl) ?_ _
          refine NoPanic.normal ?_
          clear hHeld
          go_wp2_with fail
          go_meet
          exact ld_cut (q0 := w4.heap.size + 1 + 1 + 1) (qP := w4.heap.size + 1 + 1) (q1 := w4.heap.size) (qN := w4.heap.size + 1 + 1 + 1 + 1) (tb := w4.heap.size + 1) (al5 w4 _ _ _ _ _).2.2.2.1 (al5 w4 _ _ _ _ _).2.2.1 (al5 w4 _ _ _ _ _).1 (al5 w4 _ _ _ _ _).2.2.2.2 (al5 w4 _ _ _ _ _).2.1 HS1.out hcS hcM (by omega) (later5 w4 _ _ _ _ _)
    · simp only [ga, gs, gz]
      go_simp
      refine hK.out _ _ (KF.out _ Later.au) (fun hHeld => ?_)
      clear hK K
      try simp only [ga, gs, gz, Act.put, sa, sz, ss]
      refine wpAnyH_ready (rs := [3, 6, 13]) (by kernel_rfl) (by simp) ?_
      refine AllReadyH.cons (o := _) rfl (fun K hK => ?_) (AllReadyH.cons (o := _) rfl (fun K hK => ?_) (AllReadyH.cons (o := _) rfl (fun K hK => ?_) (AllReadyH.nil)))
      · simp only [ga, gs, gz]
        go_simp
        refine hK.out _ _ (KF.out _ Later.au) (fun hHeld => ?_)
        clear hK K
        try simp only [ga, gs, gz, Act.put, sa, sz, ss]
        refine wpAnyH_ready (rs := [6, 13]) (by kernel_rfl) (by simp) ?_
        refine AllReadyH.cons (o := _) rfl (fun K hK => ?_) (AllReadyH.cons (o := _) rfl (fun K hK => ?_) (AllReadyH.nil))
        · simp only [ga, gs, gz]
          go_simp
          refine hK.out _ _ (KF.out _ Later.au) (fun hHeld => ?_)
          clear hK K
          try simp only [ga, gs, gz, Act.put, sa, sz, ss]
          refine tk 7 ?_
          refine rd 13 fun K hK => ?_
          simp only [ga, gs, gz]
          go_simp
          refine hK.out _ _ (KF.out _ Later.au) (fun hHeld => ?_)
          clear hK K
          try simp only [ga, gs, gz, Act.put, sa, sz, ss]
          refine tk 14 ?_
          refine rd 15 fun K hK => ?_
          simp only [ga, gs, gz]
          go_simp
          refine hK.out _ _ (KF.out _ Later.au) (fun hHeld => ?_)
          clear hK K
          try simp only [ga, gs, gz, Act.put, sa, sz, ss]
          refine tk 16 ?_
          refine rd 18 fun K hK => ?_
          simp only [ga, gs, gz]
          go_simp
          refine hK.out _ _ ?_ (fun hHeld => ?_)
          · (try dsimp only); (refine ⟨?_, ?_⟩ <;> (repeat (refine cell_setfar ?_ (by first | omega | (simp; done) | (simp; omega)))) <;> (refine Later.cell (Later.au : Later w4 _) ?_) <;> assumption)
          clear hK K
          try simp only [ga, gs, gz, Act.put, sa, sz, ss]
          clear KF
          refine wpAnyH_done (by kernel_rfl) ?_ _
          refine NoPanic.normal ?_
          clear hHeld
          go_wp2_with fail
          go_meet
          exact ld_cut (q0 := w4.heap.size + 1) (qP := w4.heap.size + 1 + 1) (q1 := w4.heap.size + 1 + 1 + 1) (qN := w4.heap.size + 1 + 1 + 1 + 1) (tb := w4.heap.size) (al5 w4 _ _ _ _ _).2.1 (al5 w4 _ _ _ _ _).2.2.1 (al5 w4 _ _ _ _ _).2.2.2.1 (al5 w4 _ _ _ _ _).2.2.2.2 (al5 w4 _ _ _ _ _).1 HS1.out hcS hcM (by omega) (later5 w4 _ _ _ _ _)
        · simp only [ga, gs, gz]
          go_simp
          refine hK.out _ _ (KF.out _ Later.au) (fun hHeld => ?_)
          clear hK K
          try simp only [ga, gs, gz, Act.put, sa, sz, ss]
          refine tk 14 ?_
          refine rd 6 fun K hK => ?_
          simp only [ga, gs, gz]
          go_simp
          refine hK.out _ _ (KF.out _ Later.au) (fun hHeld => ?_)
          clear hK K
          try simp only [ga, gs, gz, Act.put, sa, sz, ss]
          refine tk 7 ?_
          refine rd 15 fun K hK => ?_
          simp only [ga, gs, gz]
          go_simp
          refine hK.out _ _ (KF.out _ Later.au) (fun hHeld => ?_)
          clear hK K
          try simp only [ga, gs, gz, Act.put, sa, sz, ss]
          refine tk 16 ?_
          refine rd 18 fun K hK => ?_
          simp only [ga, gs, gz]
          go_simp
          refine hK.out _ _ ?_ (fun hHeld => ?_)
          · (try dsimp only); (refine ⟨?_, ?_⟩ <;> (repeat (refine cell_setfar ?_ (by first | omega | (simp; done) | (simp; omega)))) <;> (refine Later.cell (Later.au : Later w4 _) ?_) <;> assumption)
          clear hK K
          try simp only [ga, gs, gz, Act.put, sa, sz, ss]
          clear KF
          refine wpAnyH_done (by kernel_rfl) ?_ _
          refine NoPanic.normal ?_
          clear hHeld
          go_wp2_with fail
          go_meet
          exact ld_cut (q0 := w4.heap.size + 1) (qP := w4.heap.size + 1 + 1 + 1) (q1 := w4.heap.size + 1 + 1) (qN := w4.heap.size + 1 + 1 + 1 + 1) (tb := w4.heap.size) (al5 w4 _ _ _ _ _).2.1 (al5 w4 _ _ _ _ _).2.2.2.1 (al5 w4 _ _ _ _ _).2.2.1 (al5 w4 _ _ _ _ _).2.2.2.2 (al5 w4 _ _ _ _ _).1 HS1.out hcS hcM (by omega) (later5 w4 _ _ _ _ _)
      · simp only [ga, gs, gz]
        go_simp
        refine hK.out _ _ (KF.out _ Later.au) (fun hHeld => ?_)
        clear hK K
        try simp only [ga, gs, gz, Act.put, sa, sz, ss]
        refine wpAnyH_ready (rs := [3, 13]) (by kernel_rfl) (by simp) ?_
        refine AllReadyH.cons (o := _) rfl (fun K hK => ?_) (AllReadyH.cons (o := _) rfl (fun K hK => ?_) (AllReadyH.nil))
        · simp only [ga, gs, gz]
          go_simp
          refine hK.out _ _ (KF.out _ Later.au) (fun hHeld => ?_)
          clear hK K
          try simp only [ga, gs, gz, Act.put, sa, sz, ss]
          refine tk 7 ?_
          refine rd 13 fun K hK => ?_
          simp only [ga, gs, gz]
          go_simp
          refine hK.out _ _ (KF.out _ Later.au) (fun hHeld => ?_)
          clear hK K
          try simp only [ga, gs, gz, Act.put, sa, sz, ss]
          refine tk 14 ?_
          refine rd 15 fun K hK => ?_
          simp only [ga, gs, gz]
          go_simp
          refine hK.out _ _ (KF.out _ Later.au) (fun hHeld => ?_)
          clear hK K
          try simp only [ga, gs, gz, Act.put, sa, sz, ss]
          refine tk 16 ?_
          refine rd 18 fun K hK => ?_
          simp only [ga, gs, gz]
          go_simp
          refine hK.out _ _ ?_ (fun hHeld => ?_)
          · (try dsimp only); (refine ⟨?_, ?_⟩ <;> (repeat (refine cell_setfar ?_ (by first | omega | (simp; done) | (simp; omega)))) <;> (refine Later.cell (Later.au : Later w4 _) ?_) <;> assumption)
          clear hK K
          try simp only [ga, gs, gz, Act.put, sa, sz, ss]
          clear KF
          refine wpAnyH_done (by kernel_rfl) ?_ _
          refine NoPanic.normal ?_
          clear hHeld
          go_wp2_with fail
          go_meet
          exact ld_cut (q0 := w4.heap.size + 1 + 1) (qP := w4.heap.size + 1) (q1 := w4.heap.size + 1 + 1 + 1) (qN := w4.heap.size + 1 + 1 + 1 + 1) (tb := w4.heap.size) (al5 w4 _ _ _ _ _).2.2.1 (al5 w4 _ _ _ _ _).2.1 (al5 w4 _ _ _ _ _).2.2.2.1 (al5 w4 _ _ _ _ _).2.2.2.2 (al5 w4 _ _ _ _ _).1 HS1.out hcS hcM (by omega) (later5 w4 _ _ _ _ _)
        · simp only [ga, gs, gz]
          go_simp
          refine hK.out _ _ (KF.out _ Later.au) (fun hHeld => ?_)
          clear hK K
          try simp only [ga, gs, gz, Act.put, sa, sz, ss]
          refine tk 14 ?_
          refine rd 3 fun K hK => ?_
          simp only [ga, gs, gz]
          go_simp
          refine hK.out _ _ (KF.out _ Later.au) (fun hHeld => ?_)
          clear hK K
          try simp only [ga, gs, gz, Act.put, sa, sz, ss]
          refine tk 7 ?_
          refine rd 15 fun K hK => ?_
          simp only [ga, gs, gz]
          go_simp
          refine hK.out _ _ (KF.out _ Later.au) (fun hHeld => ?_)
          clear hK K
          try simp only [ga, gs, gz, Act.put, sa, sz, ss]
          refine tk 16 ?_
          refine rd 18 fun K hK => ?_
          simp only [ga, gs, gz]
          go_simp
          refine hK.out _ _ ?_ (fun hHeld => ?_)
          · (try dsimp only); (refine ⟨?_, ?_⟩ <;> (repeat (refine cell_setfar ?_ (by first | omega | (simp; done) | (simp; omega)))) <;> (refine Later.cell (Later.au : Later w4 _) ?_) <;> assumption)
          clear hK K
          try simp only [ga, gs, gz, Act.put, sa, sz, ss]
          clear KF
          refine wpAnyH_done (by kernel_rfl) ?_ _
          refine NoPanic.normal ?_
          clear hHeld
          go_wp2_with fail
          go_meet
          exact ld_cut (q0 := w4.heap.size + 1 + 1 + 1) (qP := w4.heap.size + 1) (q1 := w4.heap.size + 1 + 1) (qN := w4.heap.size + 1 + 1 + 1 + 1) (tb := w4.heap.size) (al5 w4 _ _ _ _ _).2.2.2.1 (al5 w4 _ _ _ _ _).2.1 (al5 w4 _ _ _ _ _).2.2.1 (al5 w4 _ _ _ _ _).2.2.2.2 (al5 w4 _ _ _ _ _).1 HS1.out hcS hcM (by omega) (later5 w4 _ _ _ _ _)
      · simp only [ga, gs, gz]
        go_simp
        refine hK.out _ _ (KF.out _ Later.au) (fun hHeld => ?_)
        clear hK K
        try simp only [ga, gs, gz, Act.put, sa, sz, ss]
        refine tk 14 ?_
        refine wpAnyH_ready (rs := [3, 6]) (by kernel_rfl) (by simp) ?_
        refine AllReadyH.cons (o := _) rfl (fun K hK => ?_) (AllReadyH.cons (o := _) rfl (fun K hK => ?_) (AllReadyH.nil))
        · simp only [ga, gs, gz]
          go_simp
          refine hK.out _ _ (KF.out _ Later.au) (fun hHeld => ?_)
          clear hK K
          try simp only [ga, gs, gz, Act.put, sa, sz, ss]
          refine rd 6 fun K hK => ?_
          simp only [ga, gs, gz]
          go_simp
          refine hK.out _ _ (KF.out _ Later.au) (fun hHeld => ?_)
          clear hK K
          try simp only [ga, gs, gz, Act.put, sa, sz, ss]
          refine tk 7 ?_
          refine rd 15 fun K hK => ?_
          simp only [ga, gs, gz]
          go_simp
          refine hK.out _ _ (KF.out _ Later.au) (fun hHeld => ?_)
          clear hK K
          try simp only [ga, gs, gz, Act.put, sa, sz, ss]
          refine tk 16 ?_
          refine rd 18 fun K hK => ?_
          simp only [ga, gs, gz]
          go_simp
          refine hK.out _ _ ?_ (fun hHeld => ?_)
          · (try dsimp only); (refine ⟨?_, ?_⟩ <;> (repeat (refine cell_setfar ?_ (by first | omega | (simp; done) | (simp; omega)))) <;> (refine Later.cell (Later.au : Later w4 _) ?_) <;> assumption)
          clear hK K
          try simp only [ga, gs, gz, Act.put, sa, sz, ss]
          clear KF
          refine wpAnyH_done (by kernel_rfl) ?_ _
          refine NoPanic.normal ?_
          clear hHeld
          go_wp2_with fail
          go_meet
          exact ld_cut (q0 := w4.heap.size + 1 + 1) (qP := w4.heap.size + 1 + 1 + 1) (q1 := w4.heap.size + 1) (qN := w4.heap.size + 1 + 1 + 1 + 1) (tb := w4.heap.size) (al5 w4 _ _ _ _ _).2.2.1 (al5 w4 _ _ _ _ _).2.2.2.1 (al5 w4 _ _ _ _ _).2.1 (al5 w4 _ _ _ _ _).2.2.2.2 (al5 w4 _ _ _ _ _).1 HS1.out hcS hcM (by omega) (later5 w4 _ _ _ _ _)
        · simp only [ga, gs, gz]
          go_simp
          refine hK.out _ _ (KF.out _ Later.au) (fun hHeld => ?_)
          clear hK K
          try simp only [ga, gs, gz, Act.put, sa, sz, ss]
          refine rd 3 fun K hK => ?_
          simp only [ga, gs, gz]
          go_simp
          refine hK.out _ _ (KF.out _ Later.au) (fun hHeld => ?_)
          clear hK K
          try simp only [ga, gs, gz, Act.put, sa, sz, ss]
          refine tk 7 ?_
          refine rd 15 fun K hK => ?_
          simp only [ga, gs, gz]
          go_simp
          refine hK.out _ _ (KF.out _ Later.au) (fun hHeld => ?_)
          clear hK K
          try simp only [ga, gs, gz, Act.put, sa, sz, ss]
          refine tk 16 ?_
          refine rd 18 fun K hK => ?_
          simp only [ga, gs, gz]
          go_simp
          refine hK.out _ _ ?_ (fun hHeld => ?_)
          · (try dsimp only); (refine ⟨?_, ?_⟩ <;> (repeat (refine cell_setfar ?_ (by first | omega | (simp; done) | (simp; omega)))) <;> (refine Later.cell (Later.au : Later w4 _) ?_) <;> assumption)
          clear hK K
          try simp only [ga, gs, gz, Act.put, sa, sz, ss]
          clear KF
          refine wpAnyH_done (by kernel_rfl) ?_ _
          refine NoPanic.normal ?_
          clear hHeld
          go_wp2_with fail
          go_meet
          exact ld_cut (q0 := w4.heap.size + 1 + 1 + 1) (qP := w4.heap.size + 1 + 1) (q1 := w4.heap.size + 1) (qN := w4.heap.size + 1 + 1 + 1 + 1) (tb := w4.heap.size) (al5 w4 _ _ _ _ _).2.2.2.1 (al5 w4 _ _ _ _ _).2.2.1 (al5 w4 _ _ _ _ _).2.1 (al5 w4 _ _ _ _ _).2.2.2.2 (al5 w4 _ _ _ _ _).1 HS1.out hcS hcM (by omega) (later5 w4 _ _ _ _ _)
  case rest =>
    obtain ⟨tb, Nd, rfl, htb, hnb, hNR, h4c⟩ := hcut
    have h0c := H04.out.trans h4c
    have hlx := hr4.2.2
    have hpc := h0c.blk Hp0.out
    have hqc := h0c.blk Hq0.out
    have n0 : wc.cell? ⟨tb, 0, none⟩ = some (.slice (some ⟨b, off, none⟩) 1 c) := hnb.cell 0
    have n1 : wc.cell? ⟨tb, 1, none⟩ = some (.slice (some ⟨Nd, 0, none⟩) 2 2) := hnb.cell 1
    have b0 : wc.cell? ⟨w.heap.size, 0, none⟩ = some (.slice (some ⟨b, off, none⟩) 1 c) := hpc.cell 0
    have b1 : wc.cell? ⟨w.heap.size, 1, none⟩ = some (.slice C tc.length d) := hpc.cell 1
    have hk5 := Blk.new wc 26 #[.slice (some ⟨b, off, none⟩) 1 c, .slice C tc.length d]
    have hc5 := (Later.refl wc).alloc (.cells #[.slice (some ⟨b, off, none⟩) 1 c, .slice C tc.length d] 26)
    have h05 := h0c.trans hc5
    have hs0c := h0c.size
    have hNR5 := hNR.below hc5 (Nat.le_refl _)
    have hTn5 : Tns (wc.alloc (.cells #[.slice (some ⟨b, off, none⟩) 1 c, .slice C tc.length d] 26)) (some ⟨wc.heap.size, 0, none⟩) [⟨[x], tc⟩] := fun j hj => by
      obtain rfl : j = 0 := by simpa using hj
      exact ⟨wc.heap.size, 0, some ⟨b, off, none⟩, c, C, d, rfl, hk5.lt, hk5.cell 0, hk5.cell 1, HTI.out.later (H00.out.trans h05)⟩
    have hTs5 : Tens (wc.alloc (.cells #[.slice (some ⟨b, off, none⟩) 1 c, .slice C tc.length d] 26)) (some ⟨wc.heap.size, 0, none⟩) [⟨[x], tc⟩] := tw_tens (t := ⟨[x], tc⟩) HT.out (H00.out.trans h05) hk5
    have hw0 := h0c.size
    clear a0 a1 a2 hbl hk5 hc5 hpc Hg2 H02 H03 h0c hNR h4c hnb
    have H05 := Lib.hid h05
    have HNR5 := Lib.hid hNR5
    have HTn5 := Lib.hid hTn5
    have HTs5 := Lib.hid hTs5
    have Hqc := Lib.hid hqc
    clear h05 hNR5 hTn5 hTs5 hqc
    go_wp2_with fail
    refine (train_new (some ⟨b, off, none⟩) (some ⟨Nd, 0, none⟩) (some ⟨wc.heap.size, 0, none⟩) c 2 1 (Ld.net x) [⟨[x], tc⟩] (wc.alloc (.cells #[.slice (some ⟨b, off, none⟩) 1 c, .slice C tc.length d] 26)) (Ld.net_ok hx1) HNR5.out (Nat.le_refl _) HTn5.out (by simp) (Ld.check hx1) Hrs.out (Ld.fits hx1 Hr.out) (by simpa using Hr.out) (fun u hu => by simp at hu; subst hu; simp only [List.length_cons, List.length_nil]; omega) HTs5.out).mono ?_
    rintro e w6 ⟨g, wp, A6, N6, P6, V6, c6, d6, D6, rfl, hg6, hT6, h6⟩
    have h06 := H05.out.call h6
    have Hwe := Lib.hid (Ld.was_err Hr.out)
    have Hwo := Lib.hid (Ld.was_ok Hr.out)
    have Hwt := Lib.hid (Ld.was_tiny Hr.out (by first | exact Hb2.out | exact Int.not_lt.1 Hb2.out))
    have Hwr := Lib.hid (Ld.was_rest (x := x) Hr.out)
    have hT6' : ∃ k1 k2, TrR g wp A6 N6 P6 V6 none c6 d6 k1 k2 0 D6 (Ld.net x) (sav0 [⟨[x], tc⟩]) w6 := ⟨_, _, hT6⟩
    obtain ⟨k1, k2, hT6'⟩ := hT6'
    have hg0 : w0.heap.size ≤ g := by have := H05.out.size; omega
    clear h6 hT6
    have H06 := Lib.hid h06
    have HT6' := Lib.hid hT6'
    clear h06 hT6'
    generalize sav0 [⟨[x], tc⟩] = was at *
    go_wp2_with fail
    have e0 : w6.cell? ⟨g, 12, none⟩ = some (.slice P6 was.p.length k1) := HT6'.out.box.cell 12
    have e1 : w6.cell? ⟨g, 13, none⟩ = some (.slice V6 was.v.length k2) := HT6'.out.box.cell 13
    have e2 : w6.cell? ⟨g, 14, none⟩ = some (.slice none was.m.length 0) := HT6'.out.box.cell 14
    refine (trainer_saved g P6 V6 none k1 k2 0 was w6 Hwo.out HT6'.out.sav e0 e1 e2).mono ?_
    rintro e w7 ⟨P7, V7, M7, m7, rfl, hR7, h7⟩
    clear e0 e1 e2
    have h67 : Later w6 w7 := h7
    have hr7 := Blk.new w7 32 #[.slice P7 was.p.length was.p.length, .slice V7 was.v.length was.v.length, .slice M7 was.m.length m7]
    have h78 := (Later.refl w7).alloc (.cells #[.slice P7 was.p.length was.p.length, .slice V7 was.v.length was.v.length, .slice M7 was.m.length m7] 32)
    have h08 := (H06.out.trans h67).trans h78
    have hT8 := HT6'.out.later (h67.trans h78)
    have hR8 := hR7.later h78
    have hgl6 := HT6'.out.box.lt
    have hrg : g < w7.heap.size := by have := h67.size; omega
    clear hR7 h7 h67 h78 b0 b1 n0 n1
    have Hr7 := Lib.hid hr7
    have H08 := Lib.hid h08
    have HT8 := Lib.hid hT8
    have HR8 := Lib.hid hR8
    clear hr7 h08 hT8 hR8
    go_upto_region 8 with fail
    show Code.wp _ _ _ _ (w7.alloc (.cells #[.slice P7 was.p.length was.p.length, .slice V7 was.v.length was.v.length, .slice M7 was.m.length m7] 32))
    generalize w7.alloc (.cells #[.slice P7 was.p.length was.p.length, .slice V7 was.v.length was.v.length, .slice M7 was.m.length m7] 32) = w8 at *
    generalize w7.heap.size = r at *
    go_wp2_with fail
    refine (keep_store g wp A6 N6 P6 V6 none c6 d6 k1 k2 0 D6 (Ld.net x) was w8 HT8.out Hwo.out).mono ?_
    rintro e w9 ⟨hcase, h9⟩
    rcases hcase with ⟨he, -⟩ | ⟨-, A9, c9, rfl, hI9, hc9⟩
    · exact absurd Hwe.out he
    have h89 : Later w8 w9 := h9
    have h09 := H08.out.trans h89
    have hT9 := HT8.out.later h89
    have hR9 := HR8.out.later h89
    have hr9 := h89.blk Hr7.out
    clear h9 h89
    have H09 := Lib.hid h09
    have HT9 := Lib.hid hT9
    have HR9 := Lib.hid hR9
    have Hr9 := Lib.hid hr9
    have HI9 := Lib.hid hI9
    clear h09 hT9 hR9 hr9 hI9
    have hkeep : ∀ X, Later w9 X → X.cell? ⟨r, 0, none⟩ = some (.slice P7 was.p.length was.p.length) ∧ X.cell? ⟨r, 1, none⟩ = some (.slice V7 was.v.length was.v.length) ∧ X.cell? ⟨r, 2, none⟩ = some (.slice M7 was.m.length m7) ∧ (convert 33 9 (.slice A9 (Kp.enc was).length c9)).run Tryz.prog X = .ok (.string (strOfNums (Kp.enc was))) X := fun X hX =>
      have a := hX.blk Hr9.out
      ⟨a.cell 0, a.cell 1, a.cell 2, run_string_of c9 33 5 9 Tryz.underlying33 Tryz.underlying5 Tryz.underlying9 (HI9.out.below hX (Nat.le_refl _))⟩
    have hsB : ∀ X, Later w9 X → Calls Tryz.prog 11 #[.agg #[.slice P7 was.p.length was.p.length, .slice V7 was.v.length was.v.length, .slice M7 was.m.length m7]] X fun e w' => e = .returned (.string (strOfNums (Kp.enc was))) ∧ Below X.heap.size X w' := fun X hX => law_bytes P7 V7 M7 was.p.length was.v.length m7 was X Hwt.out (HR9.out.later hX).now
    obtain ⟨a0, a1, a2, a3⟩ := hkeep _ ((Later.refl w9).drew)
    have hbd : Later w9 w9.drew := (Later.refl w9).drew
    have Hkeep := Lib.hid hkeep
    have HsB := Lib.hid hsB
    clear hkeep hsB
    generalize strOfNums (Kp.enc was) = se at *
    go_upto_region 9 with fail
    go_region_held3 (fun W => W.cell? ⟨r, 0, none⟩ = some (.slice P7 was.p.length was.p.length) ∧ W.cell? ⟨r, 1, none⟩ = some (.slice V7 was.v.length was.v.length) ∧ W.cell? ⟨r, 2, none⟩ = some (.slice M7 was.m.length m7) ∧ (convert 33 9 (.slice A9 (Kp.enc was).length c9)).run Tryz.prog W = .ok (.string se) W) (first | exact Hkeep.out _ hba | exact Hkeep.out _ hbd)
      (first
        | (go_at_call 11; refine (HsB.out _ hbd).mono ?_; rintro e wa ⟨rfl, ha⟩; have hba := hbd.call ha)
        | fail)
    have h0a := H09.out.trans hba
    have hTa := HT9.out.later hba
    have hRa := HR9.out.later hba
    have hra := hba.blk Hr9.out
    have hbb : ∀ z ∈ bs, 0 ≤ z ∧ z ≤ 255 := fun z hz => wf_bd8 (Hby.out z hz)
    clear a0 a1 a2 a3 hbd hba ha HsB Hkeep HT9 HR9 Hr9 HI9 HT8 HR8 Hr7 H09 H08
    have H0a := Lib.hid h0a
    have HTa := Lib.hid hTa
    have HRa := Lib.hid hRa
    have Hra := Lib.hid hra
    have Hbb := Lib.hid hbb
    clear h0a hTa hRa hra hbb
    go_wp2_with fail
    refine (keep_decode B bc bs wa (HI.out.below (H00.out.trans H0a.out) (Nat.le_refl _)) hc (by omega) Hbb.out).mono ?_
    rintro e wb hdec
    obtain ⟨⟨A1, n1, i1, A2, n2, i2, A3, n3, i3, rfl⟩, hb⟩ := dec_any hdec
    have h0b := (H0a.out.call hb).alloc (.cells #[.slice A1 n1 i1, .slice A2 n2 i2, .slice A3 n3 i3] 32)
    have hab := (show Later wa wb from hb).alloc (.cells #[.slice A1 n1 i1, .slice A2 n2 i2, .slice A3 n3 i3] 32)
    have hTb := HTa.out.later hab
    have hRb := HRa.out.later hab
    have hrb := hab.blk Hra.out
    have HL := Lib.hid (fun h => Ld.loadE_zero (ss := Nt.params (Ld.net x)) (bs := bs) h)
    clear hdec hb hab
    have H0b := Lib.hid h0b
    have HTb := Lib.hid hTb
    have HRb := Lib.hid hRb
    have Hrb := Lib.hid hrb
    clear h0b hTb hRb hrb
    generalize (Kr.decode bs).1 = de at *
    go_upto_region 12 with fail
    show Code.wp _ _ _ _ (wb.alloc (.cells #[.slice A1 n1 i1, .slice A2 n2 i2, .slice A3 n3 i3] 32))
    generalize wb.alloc (.cells #[.slice A1 n1 i1, .slice A2 n2 i2, .slice A3 n3 i3] 32) = wd at *
    go_wp2_with fail
    refine (keep_load g wp A6 N6 P6 V6 none B c6 d6 k1 k2 0 D6 bc (Ld.net x) bs was wd (Ld.net_ok hx1) HTb.out (HI.out.below (H00.out.trans H0b.out) (Nat.le_refl _)) hc (by omega) Hbb.out).mono ?_
    rintro e we ⟨rfl, ⟨P', V', M', j1, j2, j3, hTe⟩, hFe⟩
    have hre : Blk we r _ _ := hFe.blk Hrb.out (by omega)
    have hRe := HRb.out.fr hFe (fun z hz => by omega)
    have hFe0 := (show Fr (fun z => z = g) w0 wd from Fr.of_below H0b.out fun z hz _ => hz).trans hFe
    generalize Tt.loadE (Nt.params (Ld.net x)) bs = le at *
    have Hre := Lib.hid hre
    have HRe := Lib.hid hRe
    have HFe0 := Lib.hid hFe0
    clear hre hRe hFe0
    clear hFe
    by_cases hle : le = 0
    focus
      rw [if_pos hle] at hTe
      have d1 : (le != 0) = false := by simp [hle]
      have d2 : (de != 0) = false := by simp [HL.out hle]
      have HTx := Lib.hid (show ∃ P V M j1 j2 j3 s', TrR g wp A6 N6 P V M c6 d6 j1 j2 j3 D6 (Ld.net x) s' we from ⟨_, _, _, _, _, _, _, hTe⟩)
      have HFx := Lib.hid HFe0.out
      have HRx := Lib.hid HRe.out
      have Hrx := Lib.hid Hre.out
      have a0 : we.cell? ⟨r, 0, none⟩ = some (.slice P7 was.p.length was.p.length) := Hre.out.cell 0
      have a1 : we.cell? ⟨r, 1, none⟩ = some (.slice V7 was.v.length was.v.length) := Hre.out.cell 1
      have a2 : we.cell? ⟨r, 2, none⟩ = some (.slice M7 was.m.length m7) := Hre.out.cell 2
      clear hTe HL HFe0 HRe Hre hle
      go_wp2_with fail
      clear a0 a1 a2 d1 d2
    rotate_left
    focus
      rw [if_neg hle] at hTe
      have d1 : (le != 0) = true := by simpa using hle
      have HTe := Lib.hid hTe
      clear hTe
      clear hle
      have hsS : ∀ X, Later we X → Calls Tryz.prog 9 #[.pointer (some ⟨g, 0, none⟩)] X (CopdP was X) := fun X hX => by
        have h := HTe.out.later hX
        exact trainer_saved g P' V' M' j1 j2 j3 was X Hwo.out h.sav (h.box.cell 12) (h.box.cell 13) (h.box.cell 14)
      have hsQ : ∀ X P2 V2 M2 mc, Later we X → SavR X P2 V2 M2 was → Calls Tryz.prog 14 #[.agg #[.slice P2 was.p.length was.p.length, .slice V2 was.v.length was.v.length, .slice M2 was.m.length mc], .agg #[.slice P7 was.p.length was.p.length, .slice V7 was.v.length was.v.length, .slice M7 was.m.length m7]] X fun e w' => e = .returned (.bool true) ∧ Below X.heap.size X w' := fun X P2 V2 M2 mc hX h2 => by
        have := saved_equal P2 V2 M2 P7 V7 M7 was.p.length was.v.length mc was.p.length was.v.length m7 was was X Hwo.out Hwo.out h2 (HRe.out.later hX).now
        rwa [(Sav.eq_iff was was).2 rfl] at this
      have hkeep : ∀ X, Later we X → X.cell? ⟨r, 0, none⟩ = some (.slice P7 was.p.length was.p.length) ∧ X.cell? ⟨r, 1, none⟩ = some (.slice V7 was.v.length was.v.length) ∧ X.cell? ⟨r, 2, none⟩ = some (.slice M7 was.m.length m7) := fun X hX =>
        have a := hX.blk Hre.out
        ⟨a.cell 0, a.cell 1, a.cell 2⟩
      obtain ⟨a0, a1, a2⟩ := hkeep _ ((Later.refl we).drew)
      have hbd : Later we we.drew := (Later.refl we).drew
      have Hkeep := Lib.hid hkeep
      have HsS := Lib.hid hsS
      have HsQ := Lib.hid hsQ
      clear hkeep hsS hsQ
      go_upto_region 13 with fail
      go_region_held3 (fun W => W.cell? ⟨r, 0, none⟩ = some (.slice P7 was.p.length was.p.length) ∧ W.cell? ⟨r, 1, none⟩ = some (.slice V7 was.v.length was.v.length) ∧ W.cell? ⟨r, 2, none⟩ = some (.slice M7 was.m.length m7)) (first | exact Hkeep.out _ hbz | exact Hkeep.out _ hby | exact Hkeep.out _ hbd)
        (first
          | (go_at_call 9; refine (HsS.out _ hbd).mono ?_; rintro e wy ⟨P2, V2, M2, mc, rfl, hy2, hy⟩; have hby := hbd.call hy; have HS2 := Lib.hid hy2.now; clear hy2)
          | (go_at_call 14; refine (HsQ.out _ _ _ _ _ hby HS2.out).mono ?_; rintro e wz ⟨rfl, hz⟩; have hbz := hby.call hz)
          | fail)
      have l1 : Later we wz := hbz
      have HTx := Lib.hid (show ∃ P V M j1 j2 j3 s', TrR g wp A6 N6 P V M c6 d6 j1 j2 j3 D6 (Ld.net x) s' wz from ⟨_, _, _, _, _, _, _, HTe.out.later l1⟩)
      have HFx := Lib.hid (HFe0.out.trans (Fr.of_below l1 fun z hz _ => hz))
      have HRx := Lib.hid (HRe.out.later l1)
      have hrz := l1.blk Hre.out
      have Hrx := Lib.hid hrz
      clear a0 a1 a2
      have a0 : wz.cell? ⟨r, 0, none⟩ = some (.slice P7 was.p.length was.p.length) := hrz.cell 0
      have a1 : wz.cell? ⟨r, 1, none⟩ = some (.slice V7 was.v.length was.v.length) := hrz.cell 1
      have a2 : wz.cell? ⟨r, 2, none⟩ = some (.slice M7 was.m.length m7) := hrz.cell 2
      clear HTe HL HFe0 HRe Hre hbd hby hbz hy hz HS2 HsS HsQ Hkeep l1 hrz
      go_wp2_with fail
      clear a0 a1 a2 d1
      obtain ⟨we, rfl⟩ : ∃ we : World, we = wz := ⟨_, rfl⟩
    all_goals
      obtain ⟨P', V', M', j1, j2, j3, s', hTe⟩ := HTx.out
      refine (trainer_restore g wp A6 N6 P' V' M' P7 V7 M7 c6 d6 j1 j2 j3 was.p.length was.v.length m7 D6 (Ld.net x) was s' we (Ld.net_ok hx1) hTe Hwo.out HRx.out.now).mono ?_
      rintro e wf ⟨rfl, ⟨P9, V9, M9, i7, i8, i9, hTf⟩, hFf⟩
      rw [if_pos Hwr.out] at hTf
      have hF := HFx.out.trans hFf
      have hRf := HRx.out.fr hFf (fun z hz => by omega)
      have hrf : Blk wf r _ _ := hFf.blk Hrx.out (by omega)
      have hqf : Blk wf (w.heap.size + 1) _ _ := hF.blk Hq0.out (by omega)
      have hpf : Blk wf w.heap.size _ _ := hF.blk Hp0.out (by omega)
      have hbw : Below w.heap.size w wf := Below.trans (show Below w.heap.size w w0 from H00.out) (show Below w.heap.size w0 wf from hF.below (fun z hz => by omega) (by omega))
      have e0 : wf.cell? ⟨w.heap.size + 1, 0, none⟩ = some (.slice P s.p.length c1) := hqf.cell 0
      have e1 : wf.cell? ⟨w.heap.size + 1, 1, none⟩ = some (.slice V s.v.length c2) := hqf.cell 1
      have e2 : wf.cell? ⟨w.heap.size + 1, 2, none⟩ = some (.slice M s.m.length c3) := hqf.cell 2
      clear hTe hFf HTx HFx HRx Hrx
      have HTf := Lib.hid hTf
      have HF := Lib.hid hF
      have HRf := Lib.hid hRf
      have Hrf := Lib.hid hrf
      have Hqf := Lib.hid hqf
      have Hpf := Lib.hid hpf
      have Hbw := Lib.hid hbw
      clear hTf hF hRf hrf hqf hpf hbw
      go_wp2_with fail
      refine (keep_encode P V M c1 c2 c3 s wf (by omega) (by omega) (by omega) (HS.out.below Hbw.out (Nat.le_refl _))).mono ?_
      rintro e wg ⟨hcase, hbg⟩
      have hfg : Later wf wg := hbg
      have hbwg := Hbw.out.trans (hbg.mono Hbw.out.size)
      clear e0 e1 e2 hbg
      rcases hcase with ⟨he, rfl⟩ | ⟨he, A9', c9', rfl, hIg, hcg⟩
      · have d1 : (Kp.err s != 0) = true := by simpa using he
        clear he
        generalize Kp.err s = er at *
        go_wp2_with fail
        refine (awake27 _).mono ?_
        rintro e wz ⟨rfl, hz⟩
        have hbz := hbwg.trans (hz.mono hbwg.size)
        clear hz
        go_wp2_with fail
        go_ret
        exact ⟨rfl, hbz⟩
      have HsT := Lib.hid (Ld.small_of Hsm2.out he lp)
      obtain ⟨hde, hle⟩ := Ld.load_enc (x := x) he Hw.out
      have HDE := Lib.hid hde
      have HLE := Lib.hid hle
      have hqg := hfg.blk Hqf.out
      have hpg := hfg.blk Hpf.out
      have e0 : wg.cell? ⟨w.heap.size + 1, 0, none⟩ = some (.slice P s.p.length c1) := hqg.cell 0
      clear hde hle he
      have HIg := Lib.hid hIg
      have Hfg := Lib.hid hfg
      have Hbwg := Lib.hid hbwg
      clear hIg hfg hbwg
      by_cases h1 : s.p.length = 1
      case neg =>
        have hmp := Ld.map_not (x := x) (l := s.p) h1
        have g1 : ((s.p.length : Int) == 1) = false := by simp; omega
        clear h1
        go_wp2_with fail
        go_quiet (fail)
        have Hlh := Lib.hid (Hfg.out.drewN nq)
        have Hgh := Lib.hid ((Later.refl wg).drewN nq)
        have Hbwh := Lib.hid (show Below w.heap.size w (wg.drewN nq) from Bdrawn Hbwg.out nq)
        clear e0 g1 hqg hpg
        generalize wg.drewN nq = wh at *
        go_wp2_with fail
        refine (keep_load g wp A6 N6 P9 V9 M9 A9' c6 d6 i7 i8 i9 D6 c9' (Ld.net x) (Kp.enc s) was wh (Ld.net_ok hx1) (HTf.out.later Hlh.out) (HIg.out.below Hgh.out (Nat.le_refl _)) hcg (by have := enc_len_tiny HsT.out; omega) (enc_byte s)).mono ?_
        rintro e wj ⟨rfl, ⟨P8, V8, M8, o1, o2, o3, hTj⟩, hFj⟩
        rw [HLE.out] at hTj ⊢

        rw [if_neg hmp] at hTj ⊢
        rw [if_neg (show ¬ (20 : Int) = 0 by decide)] at hTj
        have HTj := Lib.hid hTj
        have hRj0 := (HRf.out.later Hlh.out).fr hFj (fun z hz => by omega)
        have HRj := Lib.hid fun (X : World) (hX : Later wj X) => (hRj0.later hX).now
        have Hbx := Lib.hid (show Blk wj r 32 #[.slice P7 was.p.length was.p.length, .slice V7 was.v.length was.v.length, .slice M7 was.m.length m7] from hFj.blk (Hlh.out.blk Hrf.out) (by omega))
        have Hbwj := Lib.hid (Hbwh.out.trans (hFj.below (B := w.heap.size) (fun z hz => by omega) Hbwh.out.size))
        clear hTj hFj hRj0 hmp

        have hsS : ∀ X, Later wj X → Calls Tryz.prog 9 #[.pointer (some ⟨g, 0, none⟩)] X (CopdP was X) := fun X hX => by
          have h := HTj.out.later hX
          exact trainer_saved g P8 V8 M8 o1 o2 o3 was X Hwo.out h.sav (h.box.cell 12) (h.box.cell 13) (h.box.cell 14)
        have hsQ : ∀ X P2 V2 M2 mc, Later wj X → SavR X P2 V2 M2 was → Calls Tryz.prog 14 #[.agg #[.slice P2 was.p.length was.p.length, .slice V2 was.v.length was.v.length, .slice M2 was.m.length mc], .agg #[.slice P7 was.p.length was.p.length, .slice V7 was.v.length was.v.length, .slice M7 was.m.length m7]] X fun e w' => e = .returned (.bool true) ∧ Below X.heap.size X w' := fun X P2 V2 M2 mc hX h2 => by
          have := saved_equal P2 V2 M2 P7 V7 M7 was.p.length was.v.length mc was.p.length was.v.length m7 was was X Hwo.out Hwo.out h2 (HRj.out X hX)
          rwa [(Sav.eq_iff was was).2 rfl] at this
        have hkeep : ∀ X, Later wj X → X.cell? ⟨r, 0, none⟩ = some (.slice P7 was.p.length was.p.length) ∧ X.cell? ⟨r, 1, none⟩ = some (.slice V7 was.v.length was.v.length) ∧ X.cell? ⟨r, 2, none⟩ = some (.slice M7 was.m.length m7) := fun X hX =>
          have a := hX.blk Hbx.out
          ⟨a.cell 0, a.cell 1, a.cell 2⟩
        obtain ⟨a0, a1, a2⟩ := hkeep _ ((Later.refl wj).drew)
        have hbd : Later wj wj.drew := (Later.refl wj).drew
        have Hkeep := Lib.hid hkeep
        have HsS := Lib.hid hsS
        have HsQ := Lib.hid hsQ
        clear hkeep hsS hsQ
        go_upto_region 24 with fail
        go_region_held3 (fun W => W.cell? ⟨r, 0, none⟩ = some (.slice P7 was.p.length was.p.length) ∧ W.cell? ⟨r, 1, none⟩ = some (.slice V7 was.v.length was.v.length) ∧ W.cell? ⟨r, 2, none⟩ = some (.slice M7 was.m.length m7)) (first | exact Hkeep.out _ hbv | exact Hkeep.out _ hbz | exact Hkeep.out _ hby | exact Hkeep.out _ hbd)
          (first
            | (go_at_call 9; refine (HsS.out _ hbd).mono ?_; rintro e wy ⟨P2, V2, M2, mc, rfl, hy2, hy⟩; have hby := hbd.call hy; have HS2 := Lib.hid hy2.now; clear hy2)
            | (go_at_call 14; refine (HsQ.out _ _ _ _ _ hby HS2.out).mono ?_; rintro e wz ⟨rfl, hz⟩; have hbz := hby.call hz)
            | (go_at_call 7; refine (awake27 _).mono ?_; rintro e wv ⟨rfl, hv⟩; have hbv := hbz.call hv)
            | fail)
        have hend := Hbwj.out.trans (hbv.mono Hbwj.out.size)
        clear a0 a1 a2
        go_wp2_with fail
        go_ret
        exact ⟨rfl, hend⟩
      have h0 : 0 < s.p.length := by omega
      obtain ⟨b2, off2, Su, cu, Cu, du, rfl, -, p0, -, hTu, hl1, hl2⟩ := (HS.out.1.below Hbwg.out (Nat.le_refl _)) 0 h0
      have q0 : wg.cell? ⟨w.heap.size, 0, none⟩ = some (.slice (some ⟨b, off, none⟩) 1 c) := hpg.cell 0
      have hmap := Ld.map_head (x := x) h1 h0
      have hsu := (HsT.out.2.2.2.1 s.p[0] (List.getElem_mem h0)).1
      simp only [Nat.zero_mul, Nat.add_zero] at p0
      have g1 : ((s.p.length : Int) == 1) = true := by simp; omega
      have g2 : (0 : Int) < (s.p.length : Int) := by omega
      have heq := fun (X : World) (h : Later wg X) => shape_equal Su (some ⟨b, off, none⟩) cu c s.p[0].s [x] X (by omega) (by simp) (hTu.1.below h (Nat.le_refl _)) (HTI.out.r.1.below ((Hbwg.out.trans (h.mono Hbwg.out.size))) (Nat.le_refl _))
      clear hTu h1 hqg hpg
      generalize s.p[0].s = us at *
      have Heq := Lib.hid heq
      clear heq
      go_wp2_with fail
      go_quiet ((go_at_call 17; exact quiet_drawn (Heq.out _ ((Later.refl wg).drewN _))))
      have Hlh := Lib.hid (Hfg.out.drewN nq)
      have Hgh := Lib.hid ((Later.refl wg).drewN nq)
      have Hbwh := Lib.hid (show Below w.heap.size w (wg.drewN nq) from Bdrawn Hbwg.out nq)
      clear e0 g1 g2 p0 q0 Heq
      generalize wg.drewN nq = wh at *
      cases hq : (us == [x])
      · have hmp : ¬ s.p.map (·.s) = [[x]] := fun h => by rw [hmap.1 h] at hq; cases hq
        clear hq hmap
        go_wp2_with fail
        refine (keep_load g wp A6 N6 P9 V9 M9 A9' c6 d6 i7 i8 i9 D6 c9' (Ld.net x) (Kp.enc s) was wh (Ld.net_ok hx1) (HTf.out.later Hlh.out) (HIg.out.below Hgh.out (Nat.le_refl _)) hcg (by have := enc_len_tiny HsT.out; omega) (enc_byte s)).mono ?_
        rintro e wj ⟨rfl, ⟨P8, V8, M8, o1, o2, o3, hTj⟩, hFj⟩
        rw [HLE.out] at hTj ⊢

        rw [if_neg hmp] at hTj ⊢
        rw [if_neg (show ¬ (20 : Int) = 0 by decide)] at hTj
        have HTj := Lib.hid hTj
        have hRj0 := (HRf.out.later Hlh.out).fr hFj (fun z hz => by omega)
        have HRj := Lib.hid fun (X : World) (hX : Later wj X) => (hRj0.later hX).now
        have Hbx := Lib.hid (show Blk wj r 32 #[.slice P7 was.p.length was.p.length, .slice V7 was.v.length was.v.length, .slice M7 was.m.length m7] from hFj.blk (Hlh.out.blk Hrf.out) (by omega))
        have Hbwj := Lib.hid (Hbwh.out.trans (hFj.below (B := w.heap.size) (fun z hz => by omega) Hbwh.out.size))
        clear hTj hFj hRj0 hmp

        have hsS : ∀ X, Later wj X → Calls Tryz.prog 9 #[.pointer (some ⟨g, 0, none⟩)] X (CopdP was X) := fun X hX => by
          have h := HTj.out.later hX
          exact trainer_saved g P8 V8 M8 o1 o2 o3 was X Hwo.out h.sav (h.box.cell 12) (h.box.cell 13) (h.box.cell 14)
        have hsQ : ∀ X P2 V2 M2 mc, Later wj X → SavR X P2 V2 M2 was → Calls Tryz.prog 14 #[.agg #[.slice P2 was.p.length was.p.length, .slice V2 was.v.length was.v.length, .slice M2 was.m.length mc], .agg #[.slice P7 was.p.length was.p.length, .slice V7 was.v.length was.v.length, .slice M7 was.m.length m7]] X fun e w' => e = .returned (.bool true) ∧ Below X.heap.size X w' := fun X P2 V2 M2 mc hX h2 => by
          have := saved_equal P2 V2 M2 P7 V7 M7 was.p.length was.v.length mc was.p.length was.v.length m7 was was X Hwo.out Hwo.out h2 (HRj.out X hX)
          rwa [(Sav.eq_iff was was).2 rfl] at this
        have hkeep : ∀ X, Later wj X → X.cell? ⟨r, 0, none⟩ = some (.slice P7 was.p.length was.p.length) ∧ X.cell? ⟨r, 1, none⟩ = some (.slice V7 was.v.length was.v.length) ∧ X.cell? ⟨r, 2, none⟩ = some (.slice M7 was.m.length m7) := fun X hX =>
          have a := hX.blk Hbx.out
          ⟨a.cell 0, a.cell 1, a.cell 2⟩
        obtain ⟨a0, a1, a2⟩ := hkeep _ ((Later.refl wj).drew)
        have hbd : Later wj wj.drew := (Later.refl wj).drew
        have Hkeep := Lib.hid hkeep
        have HsS := Lib.hid hsS
        have HsQ := Lib.hid hsQ
        clear hkeep hsS hsQ
        go_upto_region 24 with fail
        go_region_held3 (fun W => W.cell? ⟨r, 0, none⟩ = some (.slice P7 was.p.length was.p.length) ∧ W.cell? ⟨r, 1, none⟩ = some (.slice V7 was.v.length was.v.length) ∧ W.cell? ⟨r, 2, none⟩ = some (.slice M7 was.m.length m7)) (first | exact Hkeep.out _ hbv | exact Hkeep.out _ hbz | exact Hkeep.out _ hby | exact Hkeep.out _ hbd)
          (first
            | (go_at_call 9; refine (HsS.out _ hbd).mono ?_; rintro e wy ⟨P2, V2, M2, mc, rfl, hy2, hy⟩; have hby := hbd.call hy; have HS2 := Lib.hid hy2.now; clear hy2)
            | (go_at_call 14; refine (HsQ.out _ _ _ _ _ hby HS2.out).mono ?_; rintro e wz ⟨rfl, hz⟩; have hbz := hby.call hz)
            | (go_at_call 7; refine (awake27 _).mono ?_; rintro e wv ⟨rfl, hv⟩; have hbv := hbz.call hv)
            | fail)
        have hend := Hbwj.out.trans (hbv.mono Hbwj.out.size)
        clear a0 a1 a2
        go_wp2_with fail
        go_ret
        exact ⟨rfl, hend⟩
      · have hmp : s.p.map (·.s) = [[x]] := hmap.2 hq
        clear hq hmap
        go_wp2_with fail
        refine (keep_load g wp A6 N6 P9 V9 M9 A9' c6 d6 i7 i8 i9 D6 c9' (Ld.net x) (Kp.enc s) was wh (Ld.net_ok hx1) (HTf.out.later Hlh.out) (HIg.out.below Hgh.out (Nat.le_refl _)) hcg (by have := enc_len_tiny HsT.out; omega) (enc_byte s)).mono ?_
        rintro e wj ⟨rfl, ⟨P8, V8, M8, o1, o2, o3, hTj⟩, hFj⟩
        rw [HLE.out] at hTj ⊢

        rw [if_pos hmp] at hTj ⊢
        rw [if_pos rfl, HDE.out] at hTj
        have HTj := Lib.hid hTj
        have Hso := Lib.hid (tiny_ok HsT.out)
        have Hbwj := Lib.hid (Hbwh.out.trans (hFj.below (B := w.heap.size) (fun z hz => by omega) Hbwh.out.size))
        have HRj := Lib.hid fun (X : World) (hX : Later wj X) => (HS.out.below Hbwj.out (Nat.le_refl _)).below hX (Nat.le_refl _)
        have Hbx := Lib.hid (show Blk wj (w.heap.size + 1) 32 #[.slice (some ⟨b2, off2, none⟩) s.p.length c1, .slice V s.v.length c2, .slice M s.m.length c3] from hFj.blk (Hlh.out.blk Hqf.out) (by omega))
        clear hTj hFj hmp

        have hsS : ∀ X, Later wj X → Calls Tryz.prog 9 #[.pointer (some ⟨g, 0, none⟩)] X (CopdP s X) := fun X hX => by
          have h := HTj.out.later hX
          exact trainer_saved g P8 V8 M8 o1 o2 o3 s X Hso.out h.sav (h.box.cell 12) (h.box.cell 13) (h.box.cell 14)
        have hsQ : ∀ X P2 V2 M2 mc, Later wj X → SavR X P2 V2 M2 s → Calls Tryz.prog 14 #[.agg #[.slice P2 s.p.length s.p.length, .slice V2 s.v.length s.v.length, .slice M2 s.m.length mc], .agg #[.slice (some ⟨b2, off2, none⟩) s.p.length c1, .slice V s.v.length c2, .slice M s.m.length c3]] X fun e w' => e = .returned (.bool true) ∧ Below X.heap.size X w' := fun X P2 V2 M2 mc hX h2 => by
          have := saved_equal P2 V2 M2 (some ⟨b2, off2, none⟩) V M s.p.length s.v.length mc c1 c2 c3 s s X Hso.out Hso.out h2 (HRj.out X hX)
          rwa [(Sav.eq_iff s s).2 rfl] at this
        have hkeep : ∀ X, Later wj X → X.cell? ⟨w.heap.size + 1, 0, none⟩ = some (.slice (some ⟨b2, off2, none⟩) s.p.length c1) ∧ X.cell? ⟨w.heap.size + 1, 1, none⟩ = some (.slice V s.v.length c2) ∧ X.cell? ⟨w.heap.size + 1, 2, none⟩ = some (.slice M s.m.length c3) := fun X hX =>
          have a := hX.blk Hbx.out
          ⟨a.cell 0, a.cell 1, a.cell 2⟩
        obtain ⟨a0, a1, a2⟩ := hkeep _ ((Later.refl wj).drew)
        have hbd : Later wj wj.drew := (Later.refl wj).drew
        have Hkeep := Lib.hid hkeep
        have HsS := Lib.hid hsS
        have HsQ := Lib.hid hsQ
        clear hkeep hsS hsQ
        go_upto_region 25 with fail
        go_region_held3 (fun W => W.cell? ⟨w.heap.size + 1, 0, none⟩ = some (.slice (some ⟨b2, off2, none⟩) s.p.length c1) ∧ W.cell? ⟨w.heap.size + 1, 1, none⟩ = some (.slice V s.v.length c2) ∧ W.cell? ⟨w.heap.size + 1, 2, none⟩ = some (.slice M s.m.length c3)) (first | exact Hkeep.out _ hbv | exact Hkeep.out _ hbz | exact Hkeep.out _ hby | exact Hkeep.out _ hbd)
          (first
            | (go_at_call 9; refine (HsS.out _ hbd).mono ?_; rintro e wy ⟨P2, V2, M2, mc, rfl, hy2, hy⟩; have hby := hbd.call hy; have HS2 := Lib.hid hy2.now; clear hy2)
            | (go_at_call 14; refine (HsQ.out _ _ _ _ _ hby HS2.out).mono ?_; rintro e wz ⟨rfl, hz⟩; have hbz := hby.call hz)
            | (go_at_call 7; refine (awake27 _).mono ?_; rintro e wv ⟨rfl, hv⟩; have hbv := hbz.call hv)
            | fail)
        have hend := Hbwj.out.trans (hbv.mono Hbwj.out.size)
        clear a0 a1 a2
        go_wp2_with fail
        go_ret
        exact ⟨rfl, hend⟩
end Go.Proofs.YtkmhagjdafeebaaGreat
namespace Go.Proofs.YtkmhagjdafeebaaGreat.keepLoads
open Go.ChangeShapes Go.WideShapes Go.ChangeAt Go.RowKit
open Go.ChangeMaps (open_string shut_string)

theorem own : ownKnob Tryz.prog.godebug = none := by kernel_rfl
theorem laidOut : laidOutB Tryz.prog = true := by kernel_rfl

set_option maxRecDepth 100000 in
theorem lifted (os : Os) (started : os.Started) (H : Type) (enc : TypeId × Value → H) :
    ReturnsInHanded {} Tryz.checked os 3 .any (Rows.keepLoadsSpec.pre6 enc Tryz.prog Tryz.f3 Rows.keepLoadsRow.domain false) (Rows.keepLoadsSpec.post enc Tryz.prog Tryz.f3 false true false false) := by
  refine returnsInHanded_of_change_sized (C := Tryz.checked) own started (by kernel_rfl) Tryz.func3
    (ChangeSpec.witness6 (enc := enc) (C := Tryz.checked) false ⟨#[], #[.agg #[.slice none 0 0, .slice none 0 0], .agg #[.slice none 0 0, .slice none 0 0, .slice none 0 0], .slice none 0 0], []⟩ 8 (by kernel_rfl) (by kernel_rfl) (by kernel_rfl) (by kernel_rfl)) ?_
  intro W base args ds gs before hval0 hW hcnd hsz0 _
  have hsz : (DataW.weightsEach Tryz.prog (Tryz.f3.params.toList ++ Rows.keepLoadsSpec.plain.varTypes Tryz.prog) (ds ++ gs)).all (· ≤ reachBytes) = true := hsz0
  rw [Tryz.params3] at hsz
  have hval : ∀ (j : Nat) t v, Tryz.f3.params[j]? = some t → args[j]? = some v → Value.okWide Tryz.prog W .any base t v := hval0
  have hW' := hW
  obtain ⟨p, q, hA0, hV, rfl, hfz, hnd⟩ := hW
  have hA : DataW.TrodAll enc Tryz.prog W 0 (fun _ => true) true Tryz.f3.params.toList args.toList ds p := hA0
  rw [Tryz.params3] at hA hval
  obtain ⟨v0, vs0, d0, ds0, p0, q0, hargs, rfl, rfl, h0, r0⟩ := trodAll_cons hA
  obtain ⟨v1, vs1, d1, ds1, p1, q1, rfl, rfl, rfl, h1, r1⟩ := trodAll_cons r0
  obtain ⟨v2, vs2, d2, ds2, p2, q2, rfl, rfl, rfl, h2, r2⟩ := trodAll_cons r1
  obtain ⟨rfl, rfl, rfl⟩ := trodAll_nil r2
  obtain rfl : args = #[v0, v1, v2] := by cases args; simp_all
  obtain ⟨rfl, rfl⟩ := trodVars_none hV
  have hz1 : ∀ n ∈ d1.weights Tryz.prog 32, n ≤ reachBytes := fun n hn => by simpa using List.all_eq_true.1 hsz n (DataW.weights_mem_each (j := 1) (t := 32) (d := d1) rfl rfl n hn)
  have k0 := h0
  have lt0 : ∀ x ∈ p0, x.block < W.heap.size := by obtain ⟨m, hm⟩ := k0; exact DataW.trod_lt m _ _ _ hm
  have k1 := h1
  have lt1 : ∀ x ∈ p1, x.block < W.heap.size := by obtain ⟨m, hm⟩ := k1; exact DataW.trod_lt m _ _ _ hm
  have k2 := h2
  have lt2 : ∀ x ∈ p2, x.block < W.heap.size := by obtain ⟨m, hm⟩ := k2; exact DataW.trod_lt m _ _ _ hm
  obtain ⟨S0, C0, c0, d0, t0, rfl, hT0⟩ := ten_open0 (hval 0 26 v0 rfl rfl) h0
  obtain ⟨P1, V1, M1, c11, c21, c31, s1, rfl, lp1, lv1, lm1, hS1, hw1⟩ := saved_open (hval 1 32 v1 rfl rfl) h1 hz1
  obtain ⟨a2, len2, cap2, rfl⟩ := okWide_slice Tryz.underlying33 (hval 2 33 v2 rfl rfl)
  obtain ⟨fuel2, hf2⟩ := h2
  obtain ⟨ax2, cx2, zs2, hv2, hl2, hc2, hI2, hw2⟩ := ints_open Tryz.underlying33 Tryz.underlying5 (by kernel_rfl) hf2
  injection hv2 with ea2 el2 ec2
  subst ea2 el2 ec2
  clear hA0 hval0
  refine (walkKeepLoads W S0 C0 c0 d0 t0 hT0 P1 V1 M1 c11 c21 c31 s1 lp1 lv1 lm1 hS1 hw1 a2 cap2 zs2 hl2 hc2 hI2 hw2).mono fun e W' ⟨he, bel⟩ => ?_
  subst he
  exact ⟨_, rfl, _, _, _, [], _, [], hW', trodAll_mk1 (shut_bool Tryz.underlying4 _), (trodAll_cons_mk (Below.trod laidOut (by kernel_rfl) (of_decide_eq_true (by kernel_rfl)) k0 bel lt0) (trodAll_cons_mk (Below.trod laidOut (by kernel_rfl) (of_decide_eq_true (by kernel_rfl)) k1 bel lt1) (trodAll_cons_mk (Below.trod laidOut (by kernel_rfl) (of_decide_eq_true (by kernel_rfl)) k2 bel lt2) trodAll_mk0))), rfl, bel.frame _, fun h => by cases h⟩

theorem over : Rows.keepLoadsRow.holds Tryz.pinned (OpenSpec.ofChange Rows.keepLoadsSpec) :=
  OpenClaim.holds_of_wide 3 Tryz.f3 rfl rfl rfl rfl rfl rfl rfl ⟨rfl, rfl, rfl, rfl, rfl⟩ rfl rfl rfl rfl rfl (by kernel_rfl) Tryz.func3 (by kernel_rfl)
    (of_decide_eq_true (by kernel_rfl)) (by unfold Func.isWrapper; first | (rw [if_pos (by decide +kernel)]; kernel_rfl) | (rw [if_neg (by decide +kernel)]; exact ⟨rfl, rfl⟩))
    (fun os started H enc _ => lifted os started H enc)
end Go.Proofs.YtkmhagjdafeebaaGreat.keepLoads
namespace Go.Proofs.YtkmhagjdafeebaaGreat
theorem keepLoads_holds : Rows.KeepLoadsSaid := keepLoads.over
#print axioms keepLoads_holds
end Go.Proofs.YtkmhagjdafeebaaGreat
