/- Lemmas for the statements of this seat: contracts of functions and the plain laws. -/
import Derived.Test.YtbnnpkcfifejmaaRows
import Derived.Test.YtbnnpkcfifejmaaZ11
set_option linter.unusedVariables false
/- Layer 10's statements: what its layer tells: contract of given. Printed by gen/opgo.py. -/
namespace Go.Proofs.Ytbnnpkcfifejmaa
open Go.RowKit
set_option maxHeartbeats 8000000 in
set_option maxRecDepth 20000 in
theorem law10_given (o : OpD) (S P X GS GC : Option Addr) (c cp cx gc gd : Nat) (p x : List Ten) (g : Ten) (w : World) (ho : o.s.length ≤ 1048576) (hI : Ints .i64 w S o.s) (hk0 : Fx.In o.k) (hP : Tns w P p) (hX : Tns w X x) (lX : x.length ≤ 1048576) (kX : x.length ≤ cx) (mX : cx ≤ 9223372036854775807) (hc : Od.counts o p.length x.length = 0) :
    Calls Try.prog 8 #[.agg #[.int .i64 o.kind, .int .i64 o.k, .int .i64 o.width, .int .i64 o.step, .int .i64 o.side, .int .i64 o.frm, .int .i64 o.to, .slice S o.s.length c, .slice P p.length cp, .slice X x.length cx, .slice GS g.s.length gc, .slice GC g.c.length gd]] w (GoP (Ly.lay o p x) w) := by
  have hkr := Od.right_kind (Ly.counts_ok hc).1
  have hkz := ((Blk.new w 32 (case_arr o S P X GS GC c cp cx gc gd p x g)).alloc (.cells #[.slice none 0 0, .slice none 0 0] 30)).alloc (.cells #[.int .i64 o.kind, .int .i64 o.k, .int .i64 o.width, .int .i64 o.step, .int .i64 o.side, .int .i64 o.frm, .int .i64 o.to, .slice S o.s.length c] 26)
  have hz := (Blk.new (w.alloc (.cells (case_arr o S P X GS GC c cp cx gc gd p x g) 32)) 30 #[.slice none 0 0, .slice none 0 0]).alloc (.cells #[.int .i64 o.kind, .int .i64 o.k, .int .i64 o.width, .int .i64 o.step, .int .i64 o.side, .int .i64 o.frm, .int .i64 o.to, .slice S o.s.length c] 26)
  have hko := Blk.new ((w.alloc (.cells (case_arr o S P X GS GC c cp cx gc gd p x g) 32)).alloc (.cells #[.slice none 0 0, .slice none 0 0] 30)) 26 #[.int .i64 o.kind, .int .i64 o.k, .int .i64 o.width, .int .i64 o.step, .int .i64 o.side, .int .i64 o.frm, .int .i64 o.to, .slice S o.s.length c]
  simp only [World.size_alloc] at hz hko
  have hH : Later w (((w.alloc (.cells (case_arr o S P X GS GC c cp cx gc gd p x g) 32)).alloc (.cells #[.slice none 0 0, .slice none 0 0] 30)).alloc (.cells #[.int .i64 o.kind, .int .i64 o.k, .int .i64 o.width, .int .i64 o.step, .int .i64 o.side, .int .i64 o.frm, .int .i64 o.to, .slice S o.s.length c] 26)) := (((Later.refl w).alloc _).alloc _).alloc _
  unfold case_arr at hkz hz hko hH
  have Hkz := Lib.hid hkz
  have Hz := Lib.hid hz
  have Hko := Lib.hid hko
  have HH := Lib.hid hH
  have HI := Lib.hid hI
  have HP := Lib.hid hP
  have HX := Lib.hid hX
  clear hkz hz hko hH hI hP hX
  go_enter Try.func8, Try.ntmps8
  go_upto_region 2 with fail
  generalize (((w.alloc (.cells #[.int .i64 o.kind, .int .i64 o.k, .int .i64 o.width, .int .i64 o.step, .int .i64 o.side, .int .i64 o.frm, .int .i64 o.to, .slice S o.s.length c, .slice P p.length cp, .slice X x.length cx, .slice GS g.s.length gc, .slice GC g.c.length gd] 32)).alloc (.cells #[.slice none 0 0, .slice none 0 0] 30)).alloc (.cells #[.int .i64 o.kind, .int .i64 o.k, .int .i64 o.width, .int .i64 o.step, .int .i64 o.side, .int .i64 o.frm, .int .i64 o.to, .slice S o.s.length c] 26)) = w1 at *
  have hg0 : Ly.lay o p x = Ly.lay o p x := rfl
  have hcases : o.kind ≤ 7 ∨ o.kind = 8 ∨ o.kind = 9 ∨ o.kind = 10 ∨ o.kind = 11 ∨ o.kind = 12 ∨ o.kind = 13 ∨ o.kind = 14 ∨ o.kind = 15 := by omega
  rcases hcases with hk | hk | hk | hk | hk | hk | hk | hk | hk
  · have hR0 : Ly.lay o p x = Ly.point o.kind o.k x := Ly.lay7 hk
    have hno : (Ly.point o.kind o.k x).2 ≠ 0 → (Ly.point o.kind o.k x).1 = Ly.none_ := Ly.point_none
    have hun := (Ly.counts_ok hc)
    unfold Od.least Od.most Od.params at hun
    clear hun hc
    have hcall := fun (W : World) (h : Later w1 W) => calls_goU (point_go o.kind o.k X cx x W lX (HX.out.later (HH.out.trans h)) hk0) hno
    obtain ⟨R, hR⟩ : ∃ R, Ly.point o.kind o.k x = R := ⟨_, rfl⟩
    rw [hR] at hcall
    rw [hR] at hR0
    have HE := Lib.hid (hg0.trans hR0)
    clear hno
    have q1 : w1.cell? ⟨w.heap.size, 9, none⟩ = some (.slice X x.length cx) := by rw [Hkz.out.cell]; rfl
    have q2 : w1.cell? ⟨w.heap.size + 2, 0, none⟩ = some (.int .i64 o.kind) := by rw [Hko.out.cell]; rfl
    have q3 : w1.cell? ⟨w.heap.size + 2, 1, none⟩ = some (.int .i64 o.k) := by rw [Hko.out.cell]; rfl
    have x0 : w1.cell? ⟨w.heap.size + 2, 0, none⟩ = some (.int .i64 o.kind) := by rw [Hko.out.cell]; rfl
    have k8 : (o.kind == 8) = false := by rw [beq_eq_false_iff_ne]; omega
    have k9 : (o.kind == 9) = false := by rw [beq_eq_false_iff_ne]; omega
    have k10 : (o.kind == 10) = false := by rw [beq_eq_false_iff_ne]; omega
    have k11 : (o.kind == 11) = false := by rw [beq_eq_false_iff_ne]; omega
    have k12 : (o.kind == 12) = false := by rw [beq_eq_false_iff_ne]; omega
    have k13 : (o.kind == 13) = false := by rw [beq_eq_false_iff_ne]; omega
    have k14 : (o.kind == 14) = false := by rw [beq_eq_false_iff_ne]; omega
    have k15 : (o.kind == 15) = false := by rw [beq_eq_false_iff_ne]; omega
    have Hcall := Lib.hid hcall
    have HR := Lib.hid hR
    clear hcall hR hR0
    go_wp2_with fail
    refine (Hcall.out _ (Later.refl _)).mono ?_
    rintro e wf ⟨S3, c3, C3, d3, rfl, hne, hof, hbf⟩
    have hlf : Later w1 wf := hbf
    have hzf := hlf.blk Hz.out
    have c0' := hzf.cell 0
    have c1' := hzf.cell 1
    have f0' := hzf.frozen 0
    have f1' := hzf.frozen 1
    simp at c0' c1'
    have Hne := Lib.hid hne
    have Hof := Lib.hid hof
    have Hzf := Lib.hid hzf
    have Hlf := Lib.hid hlf
    clear hne hof hzf hlf
    have hz4 := (Hzf.out.set_ 0 (.slice S3 R.1.s.length c3)).set_ 1 (.slice C3 R.1.c.length d3)
    have e0 := hz4.cell 0
    have e1 := hz4.cell 1
    simp at e0 e1
    have Hz4 := Lib.hid hz4
    clear hz4
    go_wp2_with fail
    refine bodyPost_ret (v := .tuple #[.agg #[.slice S3 R.1.s.length c3, .slice C3 R.1.c.length d3], .int .i64 R.2]) (by simp [results, Try.results8, go_sem, e0, e1]) rfl ?_
    rw [HE.out]
    exact gop_fin Hne.out Hof.out (HH.out.trans Hlf.out) Hzf.out (by simp) (by have := HH.out.size; simp; omega)
  · have hR0 : Ly.lay o p x = Ly.dense (Ly.got p 0) (Ly.got p 1) (Ly.got x 0) := Ly.lay8 hk
    have hno : (Ly.dense (Ly.got p 0) (Ly.got p 1) (Ly.got x 0)).2 ≠ 0 → (Ly.dense (Ly.got p 0) (Ly.got p 1) (Ly.got x 0)).1 = Ly.none_ := Ly.dense_none
    have hun := (Ly.counts_ok hc)
    unfold Od.least Od.most Od.params at hun
    have hpl : p.length = 2 := by have := hun.1; have h3 := hun.2.2.2; rw [if_pos this] at h3; simp [hk] at h3; omega
    have hxl : x.length = 1 := by have := hun.1; have h1 := hun.2.1; have h2 := hun.2.2.1; rw [if_pos this] at h1 h2; simp [hk] at h1 h2; omega
    clear hun hc
    obtain ⟨bp, po, S0, c0, C0, d0, rfl, lbp, p00, p01, hT0⟩ := HP.out.at_ (j := 0) (by omega)
    obtain ⟨bp2, po2, S1, c1, C1, d1, ep, -, p10, p11, hT1⟩ := HP.out.at_ (j := 1) (by omega)
    injection ep with ep; injection ep with ep1 ep2; subst ep1 ep2
    obtain ⟨bx, xo, S2, c2, C2, d2, rfl, lbx, x00, x01, hT2⟩ := HX.out.at_ (j := 0) (by omega)
    have hcall := fun (W : World) (h : Later w1 W) => calls_goU (dense_go S0 C0 S1 C1 S2 C2 c0 d0 c1 d1 c2 d2 (Ly.got p 0) (Ly.got p 1) (Ly.got x 0) W (hT0.later (HH.out.trans h)) (hT1.later (HH.out.trans h)) (hT2.later (HH.out.trans h))) hno
    obtain ⟨R, hR⟩ : ∃ R, Ly.dense (Ly.got p 0) (Ly.got p 1) (Ly.got x 0) = R := ⟨_, rfl⟩
    rw [hR] at hcall
    rw [hR] at hR0
    have HE := Lib.hid (hg0.trans hR0)
    clear hno
    have q1 : w1.cell? ⟨bp, po, none⟩ = some (.slice S0 (Ly.got p 0).s.length c0) := HH.out.cell (by simpa using p00)
    have q2 : w1.cell? ⟨bp, po + 1, none⟩ = some (.slice C0 (Ly.got p 0).c.length d0) := HH.out.cell (by simpa using p01)
    have q3 : w1.cell? ⟨bp, po + 2, none⟩ = some (.slice S1 (Ly.got p 1).s.length c1) := HH.out.cell (by simpa using p10)
    have q4 : w1.cell? ⟨bp, po + 2 + 1, none⟩ = some (.slice C1 (Ly.got p 1).c.length d1) := HH.out.cell (by simpa using p11)
    have q5 : w1.cell? ⟨bx, xo, none⟩ = some (.slice S2 (Ly.got x 0).s.length c2) := HH.out.cell (by simpa using x00)
    have q6 : w1.cell? ⟨bx, xo + 1, none⟩ = some (.slice C2 (Ly.got x 0).c.length d2) := HH.out.cell (by simpa using x01)
    have q7 : w1.cell? ⟨w.heap.size, 8, none⟩ = some (.slice (some ⟨bp, po, none⟩) 2 cp) := by rw [Hkz.out.cell, ← hpl]; rfl
    have q8 : w1.cell? ⟨w.heap.size, 9, none⟩ = some (.slice (some ⟨bx, xo, none⟩) 1 cx) := by rw [Hkz.out.cell, ← hxl]; rfl
    have x0 : w1.cell? ⟨w.heap.size + 2, 0, none⟩ = some (.int .i64 8) := by rw [Hko.out.cell, ← hk]; rfl
    have Hcall := Lib.hid hcall
    have HR := Lib.hid hR
    clear hcall hR hR0 hT0 hT1 hT2
    have lp1 : bp < w1.heap.size := Nat.lt_of_lt_of_le lbp HH.out.size
    have lx1 : bx < w1.heap.size := Nat.lt_of_lt_of_le lbx HH.out.size
    go_upto_region 4 with fail
    clear x0 hk
    refine wp_region_noPanic ?_
    refine wp_region_held_drew (S := fun X => X.cell? ⟨bp, po, none⟩ = some (.slice S0 (Ly.got p 0).s.length c0) ∧ X.cell? ⟨bp, po + 1, none⟩ = some (.slice C0 (Ly.got p 0).c.length d0) ∧ X.cell? ⟨bp, po + 2, none⟩ = some (.slice S1 (Ly.got p 1).s.length c1) ∧ X.cell? ⟨bp, po + 2 + 1, none⟩ = some (.slice C1 (Ly.got p 1).c.length d1) ∧ X.cell? ⟨bx, xo, none⟩ = some (.slice S2 (Ly.got x 0).s.length c2) ∧ X.cell? ⟨bx, xo + 1, none⟩ = some (.slice C2 (Ly.got x 0).c.length d2) ∧ X.cell? ⟨w.heap.size, 8, none⟩ = some (.slice (some ⟨bp, po, none⟩) 2 cp) ∧ X.cell? ⟨w.heap.size, 9, none⟩ = some (.slice (some ⟨bx, xo, none⟩) 1 cx)) (by kernel_rfl) ?_ (fun hHeld => ?_)
    · (try dsimp only); (first | (with_reducible exact ⟨q1, q2, q3, q4, q5, q6, q7, q8⟩) | exact ⟨Later.cell (show Later w1 _ by repeat (first | (with_reducible exact Later.refl _) | (with_reducible apply Later.drew) | (with_reducible apply Later.drewN) | (with_reducible apply Later.alloc) | (with_reducible refine Later.call ?_ (by assumption)))) q1, Later.cell (show Later w1 _ by repeat (first | (with_reducible exact Later.refl _) | (with_reducible apply Later.drew) | (with_reducible apply Later.drewN) | (with_reducible apply Later.alloc) | (with_reducible refine Later.call ?_ (by assumption)))) q2, Later.cell (show Later w1 _ by repeat (first | (with_reducible exact Later.refl _) | (with_reducible apply Later.drew) | (with_reducible apply Later.drewN) | (with_reducible apply Later.alloc) | (with_reducible refine Later.call ?_ (by assumption)))) q3, Later.cell (show Later w1 _ by repeat (first | (with_reducible exact Later.refl _) | (with_reducible apply Later.drew) | (with_reducible apply Later.drewN) | (with_reducible apply Later.alloc) | (with_reducible refine Later.call ?_ (by assumption)))) q4, Later.cell (show Later w1 _ by repeat (first | (with_reducible exact Later.refl _) | (with_reducible apply Later.drew) | (with_reducible apply Later.drewN) | (with_reducible apply Later.alloc) | (with_reducible refine Later.call ?_ (by assumption)))) q5, Later.cell (show Later w1 _ by repeat (first | (with_reducible exact Later.refl _) | (with_reducible apply Later.drew) | (with_reducible apply Later.drewN) | (with_reducible apply Later.alloc) | (with_reducible refine Later.call ?_ (by assumption)))) q6, Later.cell (show Later w1 _ by repeat (first | (with_reducible exact Later.refl _) | (with_reducible apply Later.drew) | (with_reducible apply Later.drewN) | (with_reducible apply Later.alloc) | (with_reducible refine Later.call ?_ (by assumption)))) q7, Later.cell (show Later w1 _ by repeat (first | (with_reducible exact Later.refl _) | (with_reducible apply Later.drew) | (with_reducible apply Later.drewN) | (with_reducible apply Later.alloc) | (with_reducible refine Later.call ?_ (by assumption)))) q8⟩)
    refine wpAnyH_take (i := 0) (oi := _) (v := ?mv1) rfl (by kernel_rfl) (by kernel_rfl) (by kernel_rfl) (fun _ _ _ h => h) (Or.inl ⟨by rfl, ?my1⟩) (by assumption) ?mr1
    case my1 => (simp only [List.getElem_toArray, List.getElem_cons_zero]; intro w hSw; (try dsimp only at hSw); go_simp; first | done | with_reducible rfl)
    try simp only [List.getElem_toArray, List.getElem_cons_zero, Act.put, List.setIfInBounds_toArray, List.set_cons_zero, List.set_cons_succ]
    refine wpAnyH_take (i := 1) (oi := _) (v := ?mv2) rfl (by kernel_rfl) (by kernel_rfl) (by kernel_rfl) (fun _ _ _ h => h) (Or.inl ⟨by rfl, ?my2⟩) (by assumption) ?mr2
    case my2 => (simp only [List.getElem_toArray, List.getElem_cons_succ, List.getElem_cons_zero]; intro w hSw; (try dsimp only at hSw); go_simp; first | done | with_reducible rfl)
    try simp only [List.getElem_toArray, List.getElem_cons_succ, List.getElem_cons_zero, Act.put, List.setIfInBounds_toArray, List.set_cons_zero, List.set_cons_succ]
    refine wpAnyH_take (i := 2) (oi := _) (v := ?mv3) rfl (by kernel_rfl) (by kernel_rfl) (by kernel_rfl) (fun _ _ _ h => h) (Or.inl ⟨by rfl, ?my3⟩) (by assumption) ?mr3
    case my3 => (simp only [List.getElem_toArray, List.getElem_cons_succ, List.getElem_cons_zero]; intro w hSw; (try dsimp only at hSw); go_simp; first | done | with_reducible rfl)
    try simp only [List.getElem_toArray, List.getElem_cons_succ, List.getElem_cons_zero, Act.put, List.setIfInBounds_toArray, List.set_cons_zero, List.set_cons_succ]
    refine wpAnyH_take (i := 3) (oi := _) (v := ?mv4) rfl (by kernel_rfl) (by kernel_rfl) (by kernel_rfl) (fun _ _ _ h => h) (Or.inl ⟨by rfl, ?my4⟩) (by assumption) ?mr4
    case my4 => (simp only [List.getElem_toArray, List.getElem_cons_succ, List.getElem_cons_zero]; intro w hSw; (try dsimp only at hSw); go_simp; first | done | with_reducible rfl)
    try simp only [List.getElem_toArray, List.getElem_cons_succ, List.getElem_cons_zero, Act.put, List.setIfInBounds_toArray, List.set_cons_zero, List.set_cons_succ]
    refine wpAnyH_take (i := 4) (oi := _) (v := ?mv5) rfl (by kernel_rfl) (by kernel_rfl) (by kernel_rfl) (fun _ _ _ h => h) (Or.inl ⟨by rfl, ?my5⟩) (by assumption) ?mr5
    case my5 => (simp only [List.getElem_toArray, List.getElem_cons_succ, List.getElem_cons_zero]; intro w hSw; (try dsimp only at hSw); go_simp; first | done | with_reducible rfl)
    try simp only [List.getElem_toArray, List.getElem_cons_succ, List.getElem_cons_zero, Act.put, List.setIfInBounds_toArray, List.set_cons_zero, List.set_cons_succ]
    refine wpAnyH_take (i := 5) (oi := _) (v := ?mv6) rfl (by kernel_rfl) (by kernel_rfl) (by kernel_rfl) (fun _ _ _ h => h) (Or.inl ⟨by rfl, ?my6⟩) (by assumption) ?mr6
    case my6 => (simp only [List.getElem_toArray, List.getElem_cons_succ, List.getElem_cons_zero]; intro w hSw; (try dsimp only at hSw); go_simp; first | done | with_reducible rfl)
    try simp only [List.getElem_toArray, List.getElem_cons_succ, List.getElem_cons_zero, Act.put, List.setIfInBounds_toArray, List.set_cons_zero, List.set_cons_succ]
    refine wpAnyH_take (i := 6) (oi := _) (v := ?mv7) rfl (by kernel_rfl) (by kernel_rfl) (by kernel_rfl) (fun _ _ _ h => h) (Or.inl ⟨by rfl, ?my7⟩) (by assumption) ?mr7
    case my7 => (simp only [List.getElem_toArray, List.getElem_cons_succ, List.getElem_cons_zero]; intro w hSw; (try dsimp only at hSw); go_simp; first | done | with_reducible rfl)
    try simp only [List.getElem_toArray, List.getElem_cons_succ, List.getElem_cons_zero, Act.put, List.setIfInBounds_toArray, List.set_cons_zero, List.set_cons_succ]
    refine wpAnyH_take (i := 7) (oi := _) (v := ?mv8) rfl (by kernel_rfl) (by kernel_rfl) (by kernel_rfl) (fun _ _ _ h => h) (Or.inl ⟨by rfl, ?my8⟩) (by assumption) ?mr8
    case my8 => (simp only [List.getElem_toArray, List.getElem_cons_succ, List.getElem_cons_zero]; intro w hSw; (try dsimp only at hSw); go_simp; first | done | with_reducible rfl)
    try simp only [List.getElem_toArray, List.getElem_cons_succ, List.getElem_cons_zero, Act.put, List.setIfInBounds_toArray, List.set_cons_zero, List.set_cons_succ]
    refine wpAnyH_take (i := 8) (oi := _) (v := ?mv9) rfl (by kernel_rfl) (by kernel_rfl) (by kernel_rfl) (fun _ _ _ h => h) (Or.inl ⟨by rfl, ?my9⟩) (by assumption) ?mr9
    case my9 => (simp only [List.getElem_toArray, List.getElem_cons_succ, List.getElem_cons_zero]; intro w hSw; (try dsimp only at hSw); go_simp; first | done | with_reducible rfl)
    try simp only [List.getElem_toArray, List.getElem_cons_succ, List.getElem_cons_zero, Act.put, List.setIfInBounds_toArray, List.set_cons_zero, List.set_cons_succ]
    refine wpAnyH_take (i := 9) (oi := _) (v := ?mv10) rfl (by kernel_rfl) (by kernel_rfl) (by kernel_rfl) (fun _ _ _ h => h) (Or.inl ⟨by rfl, ?my10⟩) (by assumption) ?mr10
    case my10 => (simp only [List.getElem_toArray, List.getElem_cons_succ, List.getElem_cons_zero]; intro w hSw; (try dsimp only at hSw); go_simp; first | done | with_reducible rfl)
    try simp only [List.getElem_toArray, List.getElem_cons_succ, List.getElem_cons_zero, Act.put, List.setIfInBounds_toArray, List.set_cons_zero, List.set_cons_succ]
    refine wpAnyH_take (i := 10) (oi := _) (v := ?mv11) rfl (by kernel_rfl) (by kernel_rfl) (by kernel_rfl) (fun _ _ _ h => h) (Or.inl ⟨by rfl, ?my11⟩) (by assumption) ?mr11
    case my11 => (simp only [List.getElem_toArray, List.getElem_cons_succ, List.getElem_cons_zero]; intro w hSw; (try dsimp only at hSw); go_simp; first | done | with_reducible rfl)
    try simp only [List.getElem_toArray, List.getElem_cons_succ, List.getElem_cons_zero, Act.put, List.setIfInBounds_toArray, List.set_cons_zero, List.set_cons_succ]
    refine wpAnyH_take (i := 11) (oi := _) (v := ?mv12) rfl (by kernel_rfl) (by kernel_rfl) (by kernel_rfl) (fun _ _ _ h => h) (Or.inl ⟨by rfl, ?my12⟩) (by assumption) ?mr12
    case my12 => (simp only [List.getElem_toArray, List.getElem_cons_succ, List.getElem_cons_zero]; intro w hSw; (try dsimp only at hSw); go_simp; first | done | with_reducible rfl)
    try simp only [List.getElem_toArray, List.getElem_cons_succ, List.getElem_cons_zero, Act.put, List.setIfInBounds_toArray, List.set_cons_zero, List.set_cons_succ]
    refine wpAnyH_ready (rs := [12]) (by kernel_rfl) (by simp) ?_
    refine AllReadyH.cons (o := _) rfl (fun K hK => ?_) AllReadyH.nil
    simp only [List.getElem_toArray, List.getElem_cons_succ, List.getElem_cons_zero]
    go_simp
    go_at_call 17
    (with_reducible refine (Hcall.out _ (show Later w1 _ by repeat (first | (with_reducible exact Later.refl _) | (with_reducible apply Later.drew) | (with_reducible apply Later.drewN) | (with_reducible apply Later.alloc) | (with_reducible refine Later.call ?_ (by assumption))))).mono ?_)
    rintro e wf ⟨S3, c3, C3, d3, rfl, hne, hof, hbf⟩
    have hlf : Later w1 wf := Later.trans (show Later w1 (World.drew w1) by repeat (first | (with_reducible exact Later.refl _) | (with_reducible apply Later.drew) | (with_reducible apply Later.drewN) | (with_reducible apply Later.alloc) | (with_reducible refine Later.call ?_ (by assumption)))) hbf
    have hzf := hlf.blk Hz.out
    have c0' := hzf.cell 0
    have c1' := hzf.cell 1
    have f0' := hzf.frozen 0
    have f1' := hzf.frozen 1
    simp at c0' c1'
    have Hne := Lib.hid hne
    have Hof := Lib.hid hof
    have Hzf := Lib.hid hzf
    have Hlf := Lib.hid hlf
    clear hne hof hzf hlf
    try go_wp2_with fail
    refine hK.out _ _ ?_ (fun hHeld => ?_)
    · (try dsimp only); (first | (with_reducible exact ⟨q1, q2, q3, q4, q5, q6, q7, q8⟩) | exact ⟨Later.cell (show Later w1 _ by repeat (first | (with_reducible exact Later.refl _) | (with_reducible apply Later.drew) | (with_reducible apply Later.drewN) | (with_reducible apply Later.alloc) | (with_reducible refine Later.call ?_ (by assumption)))) q1, Later.cell (show Later w1 _ by repeat (first | (with_reducible exact Later.refl _) | (with_reducible apply Later.drew) | (with_reducible apply Later.drewN) | (with_reducible apply Later.alloc) | (with_reducible refine Later.call ?_ (by assumption)))) q2, Later.cell (show Later w1 _ by repeat (first | (with_reducible exact Later.refl _) | (with_reducible apply Later.drew) | (with_reducible apply Later.drewN) | (with_reducible apply Later.alloc) | (with_reducible refine Later.call ?_ (by assumption)))) q3, Later.cell (show Later w1 _ by repeat (first | (with_reducible exact Later.refl _) | (with_reducible apply Later.drew) | (with_reducible apply Later.drewN) | (with_reducible apply Later.alloc) | (with_reducible refine Later.call ?_ (by assumption)))) q4, Later.cell (show Later w1 _ by repeat (first | (with_reducible exact Later.refl _) | (with_reducible apply Later.drew) | (with_reducible apply Later.drewN) | (with_reducible apply Later.alloc) | (with_reducible refine Later.call ?_ (by assumption)))) q5, Later.cell (show Later w1 _ by repeat (first | (with_reducible exact Later.refl _) | (with_reducible apply Later.drew) | (with_reducible apply Later.drewN) | (with_reducible apply Later.alloc) | (with_reducible refine Later.call ?_ (by assumption)))) q6, Later.cell (show Later w1 _ by repeat (first | (with_reducible exact Later.refl _) | (with_reducible apply Later.drew) | (with_reducible apply Later.drewN) | (with_reducible apply Later.alloc) | (with_reducible refine Later.call ?_ (by assumption)))) q7, Later.cell (show Later w1 _ by repeat (first | (with_reducible exact Later.refl _) | (with_reducible apply Later.drew) | (with_reducible apply Later.drewN) | (with_reducible apply Later.alloc) | (with_reducible refine Later.call ?_ (by assumption)))) q8⟩)
    clear hK K
    try simp only [List.getElem_toArray, List.getElem_cons_succ, List.getElem_cons_zero, Act.put, List.setIfInBounds_toArray, List.set_cons_zero, List.set_cons_succ]
    refine wpAnyH_take (i := 13) (oi := _) (v := ?mv14) rfl (by kernel_rfl) (by kernel_rfl) (by kernel_rfl) (fun _ _ _ h => h) (Or.inl ⟨by rfl, ?my14⟩) (by assumption) ?mr14
    case my14 => (simp only [List.getElem_toArray, List.getElem_cons_succ, List.getElem_cons_zero]; intro w hSw; (try dsimp only at hSw); go_simp; first | done | with_reducible rfl)
    try simp only [List.getElem_toArray, List.getElem_cons_succ, List.getElem_cons_zero, Act.put, List.setIfInBounds_toArray, List.set_cons_zero, List.set_cons_succ]
    refine wpAnyH_take (i := 14) (oi := _) (v := ?mv15) rfl (by kernel_rfl) (by kernel_rfl) (by kernel_rfl) (fun _ _ _ h => h) (Or.inl ⟨by rfl, ?my15⟩) (by assumption) ?mr15
    case my15 => (simp only [List.getElem_toArray, List.getElem_cons_succ, List.getElem_cons_zero]; intro w hSw; (try dsimp only at hSw); go_simp; first | done | with_reducible rfl)
    try simp only [List.getElem_toArray, List.getElem_cons_succ, List.getElem_cons_zero, Act.put, List.setIfInBounds_toArray, List.set_cons_zero, List.set_cons_succ]
    refine wpAnyH_ready (rs := [15]) (by kernel_rfl) (by simp) ?_
    refine AllReadyH.cons (o := _) rfl (fun K hK => ?_) AllReadyH.nil
    simp only [List.getElem_toArray, List.getElem_cons_succ, List.getElem_cons_zero]
    go_simp
    refine hK.out _ _ ?_ (fun hHeld => ?_)
    · (try dsimp only); (refine ⟨?_, ?_, ?_, ?_, ?_, ?_, ?_, ?_⟩ <;> (repeat (refine cell_setfar ?_ (by first | omega | (simp; done) | (simp; omega)))) <;> (refine Later.cell (show Later w1 _ by repeat (first | (with_reducible exact Later.refl _) | (with_reducible apply Later.drew) | (with_reducible apply Later.drewN) | (with_reducible apply Later.alloc) | (with_reducible refine Later.call ?_ (by assumption)))) ?_) <;> assumption)
    clear hK K
    try simp only [List.getElem_toArray, List.getElem_cons_succ, List.getElem_cons_zero, Act.put, List.setIfInBounds_toArray, List.set_cons_zero, List.set_cons_succ]
    refine wpAnyH_take (i := 16) (oi := _) (v := ?mv17) rfl (by kernel_rfl) (by kernel_rfl) (by kernel_rfl) (fun _ _ _ h => h) (Or.inl ⟨by rfl, ?my17⟩) (by assumption) ?mr17
    case my17 => (simp only [List.getElem_toArray, List.getElem_cons_succ, List.getElem_cons_zero]; intro w hSw; (try dsimp only at hSw); go_simp; first | done | with_reducible rfl)
    try simp only [List.getElem_toArray, List.getElem_cons_succ, List.getElem_cons_zero, Act.put, List.setIfInBounds_toArray, List.set_cons_zero, List.set_cons_succ]
    refine wpAnyH_done (by kernel_rfl) ?_ _
    refine NoPanic.normal ?_
    have hz4 := (Hzf.out.set_ 0 (.slice S3 R.1.s.length c3)).set_ 1 (.slice C3 R.1.c.length d3)
    have e0 := hz4.cell 0
    have e1 := hz4.cell 1
    simp at e0 e1
    have Hz4 := Lib.hid hz4
    clear hz4
    go_wp2_with fail
    refine bodyPost_ret (v := .tuple #[.agg #[.slice S3 R.1.s.length c3, .slice C3 R.1.c.length d3], .int .i64 R.2]) (by simp [results, Try.results8, go_sem, e0, e1]) rfl ?_
    rw [HE.out]
    exact gop_fin Hne.out Hof.out (HH.out.trans Hlf.out) Hzf.out (by simp) (by have := HH.out.size; simp; omega)
  · have hR0 : Ly.lay o p x = Ly.add (Ly.got x 0) (Ly.got p 0) := Ly.lay9 hk
    have hno : (Ly.add (Ly.got x 0) (Ly.got p 0)).2 ≠ 0 → (Ly.add (Ly.got x 0) (Ly.got p 0)).1 = Ly.none_ := Ly.add_none
    have hun := (Ly.counts_ok hc)
    unfold Od.least Od.most Od.params at hun
    have hpl : p.length = 1 := by have := hun.1; have h3 := hun.2.2.2; rw [if_pos this] at h3; simp [hk] at h3; omega
    have hxl : x.length = 1 := by have := hun.1; have h1 := hun.2.1; have h2 := hun.2.2.1; rw [if_pos this] at h1 h2; simp [hk] at h1 h2; omega
    clear hun hc
    obtain ⟨bp, po, S0, c0, C0, d0, rfl, lbp, p00, p01, hT0⟩ := HP.out.at_ (j := 0) (by omega)
    obtain ⟨bx, xo, S2, c2, C2, d2, rfl, lbx, x00, x01, hT2⟩ := HX.out.at_ (j := 0) (by omega)
    have hcall := fun (W : World) (h : Later w1 W) => calls_goU (dense_bias S0 C0 S2 C2 c0 d0 c2 d2 (Ly.got p 0) (Ly.got x 0) W (hT0.later (HH.out.trans h)) (hT2.later (HH.out.trans h))) hno
    obtain ⟨R, hR⟩ : ∃ R, Ly.add (Ly.got x 0) (Ly.got p 0) = R := ⟨_, rfl⟩
    rw [hR] at hcall
    rw [hR] at hR0
    have HE := Lib.hid (hg0.trans hR0)
    clear hno
    have q1 : w1.cell? ⟨bp, po, none⟩ = some (.slice S0 (Ly.got p 0).s.length c0) := HH.out.cell (by simpa using p00)
    have q2 : w1.cell? ⟨bp, po + 1, none⟩ = some (.slice C0 (Ly.got p 0).c.length d0) := HH.out.cell (by simpa using p01)
    have q3 : w1.cell? ⟨bx, xo, none⟩ = some (.slice S2 (Ly.got x 0).s.length c2) := HH.out.cell (by simpa using x00)
    have q4 : w1.cell? ⟨bx, xo + 1, none⟩ = some (.slice C2 (Ly.got x 0).c.length d2) := HH.out.cell (by simpa using x01)
    have q5 : w1.cell? ⟨w.heap.size, 8, none⟩ = some (.slice (some ⟨bp, po, none⟩) 1 cp) := by rw [Hkz.out.cell, ← hpl]; rfl
    have q6 : w1.cell? ⟨w.heap.size, 9, none⟩ = some (.slice (some ⟨bx, xo, none⟩) 1 cx) := by rw [Hkz.out.cell, ← hxl]; rfl
    have x0 : w1.cell? ⟨w.heap.size + 2, 0, none⟩ = some (.int .i64 9) := by rw [Hko.out.cell, ← hk]; rfl
    have Hcall := Lib.hid hcall
    have HR := Lib.hid hR
    clear hcall hR hR0 hT0 hT2
    have lp1 : bp < w1.heap.size := Nat.lt_of_lt_of_le lbp HH.out.size
    have lx1 : bx < w1.heap.size := Nat.lt_of_lt_of_le lbx HH.out.size
    go_upto_region 6 with fail
    clear x0 hk
    refine wp_region_noPanic ?_
    refine wp_region_held_drew (S := fun X => X.cell? ⟨bp, po, none⟩ = some (.slice S0 (Ly.got p 0).s.length c0) ∧ X.cell? ⟨bp, po + 1, none⟩ = some (.slice C0 (Ly.got p 0).c.length d0) ∧ X.cell? ⟨bx, xo, none⟩ = some (.slice S2 (Ly.got x 0).s.length c2) ∧ X.cell? ⟨bx, xo + 1, none⟩ = some (.slice C2 (Ly.got x 0).c.length d2) ∧ X.cell? ⟨w.heap.size, 8, none⟩ = some (.slice (some ⟨bp, po, none⟩) 1 cp) ∧ X.cell? ⟨w.heap.size, 9, none⟩ = some (.slice (some ⟨bx, xo, none⟩) 1 cx)) (by kernel_rfl) ?_ (fun hHeld => ?_)
    · (try dsimp only); (first | (with_reducible exact ⟨q1, q2, q3, q4, q5, q6⟩) | exact ⟨Later.cell (show Later w1 _ by repeat (first | (with_reducible exact Later.refl _) | (with_reducible apply Later.drew) | (with_reducible apply Later.drewN) | (with_reducible apply Later.alloc) | (with_reducible refine Later.call ?_ (by assumption)))) q1, Later.cell (show Later w1 _ by repeat (first | (with_reducible exact Later.refl _) | (with_reducible apply Later.drew) | (with_reducible apply Later.drewN) | (with_reducible apply Later.alloc) | (with_reducible refine Later.call ?_ (by assumption)))) q2, Later.cell (show Later w1 _ by repeat (first | (with_reducible exact Later.refl _) | (with_reducible apply Later.drew) | (with_reducible apply Later.drewN) | (with_reducible apply Later.alloc) | (with_reducible refine Later.call ?_ (by assumption)))) q3, Later.cell (show Later w1 _ by repeat (first | (with_reducible exact Later.refl _) | (with_reducible apply Later.drew) | (with_reducible apply Later.drewN) | (with_reducible apply Later.alloc) | (with_reducible refine Later.call ?_ (by assumption)))) q4, Later.cell (show Later w1 _ by repeat (first | (with_reducible exact Later.refl _) | (with_reducible apply Later.drew) | (with_reducible apply Later.drewN) | (with_reducible apply Later.alloc) | (with_reducible refine Later.call ?_ (by assumption)))) q5, Later.cell (show Later w1 _ by repeat (first | (with_reducible exact Later.refl _) | (with_reducible apply Later.drew) | (with_reducible apply Later.drewN) | (with_reducible apply Later.alloc) | (with_reducible refine Later.call ?_ (by assumption)))) q6⟩)
    refine wpAnyH_take (i := 0) (oi := _) (v := ?mv18) rfl (by kernel_rfl) (by kernel_rfl) (by kernel_rfl) (fun _ _ _ h => h) (Or.inl ⟨by rfl, ?my18⟩) (by assumption) ?mr18
    case my18 => (simp only [List.getElem_toArray, List.getElem_cons_zero]; intro w hSw; (try dsimp only at hSw); go_simp; first | done | with_reducible rfl)
    try simp only [List.getElem_toArray, List.getElem_cons_zero, Act.put, List.setIfInBounds_toArray, List.set_cons_zero, List.set_cons_succ]
    refine wpAnyH_take (i := 1) (oi := _) (v := ?mv19) rfl (by kernel_rfl) (by kernel_rfl) (by kernel_rfl) (fun _ _ _ h => h) (Or.inl ⟨by rfl, ?my19⟩) (by assumption) ?mr19
    case my19 => (simp only [List.getElem_toArray, List.getElem_cons_succ, List.getElem_cons_zero]; intro w hSw; (try dsimp only at hSw); go_simp; first | done | with_reducible rfl)
    try simp only [List.getElem_toArray, List.getElem_cons_succ, List.getElem_cons_zero, Act.put, List.setIfInBounds_toArray, List.set_cons_zero, List.set_cons_succ]
    refine wpAnyH_take (i := 2) (oi := _) (v := ?mv20) rfl (by kernel_rfl) (by kernel_rfl) (by kernel_rfl) (fun _ _ _ h => h) (Or.inl ⟨by rfl, ?my20⟩) (by assumption) ?mr20
    case my20 => (simp only [List.getElem_toArray, List.getElem_cons_succ, List.getElem_cons_zero]; intro w hSw; (try dsimp only at hSw); go_simp; first | done | with_reducible rfl)
    try simp only [List.getElem_toArray, List.getElem_cons_succ, List.getElem_cons_zero, Act.put, List.setIfInBounds_toArray, List.set_cons_zero, List.set_cons_succ]
    refine wpAnyH_take (i := 3) (oi := _) (v := ?mv21) rfl (by kernel_rfl) (by kernel_rfl) (by kernel_rfl) (fun _ _ _ h => h) (Or.inl ⟨by rfl, ?my21⟩) (by assumption) ?mr21
    case my21 => (simp only [List.getElem_toArray, List.getElem_cons_succ, List.getElem_cons_zero]; intro w hSw; (try dsimp only at hSw); go_simp; first | done | with_reducible rfl)
    try simp only [List.getElem_toArray, List.getElem_cons_succ, List.getElem_cons_zero, Act.put, List.setIfInBounds_toArray, List.set_cons_zero, List.set_cons_succ]
    refine wpAnyH_take (i := 4) (oi := _) (v := ?mv22) rfl (by kernel_rfl) (by kernel_rfl) (by kernel_rfl) (fun _ _ _ h => h) (Or.inl ⟨by rfl, ?my22⟩) (by assumption) ?mr22
    case my22 => (simp only [List.getElem_toArray, List.getElem_cons_succ, List.getElem_cons_zero]; intro w hSw; (try dsimp only at hSw); go_simp; first | done | with_reducible rfl)
    try simp only [List.getElem_toArray, List.getElem_cons_succ, List.getElem_cons_zero, Act.put, List.setIfInBounds_toArray, List.set_cons_zero, List.set_cons_succ]
    refine wpAnyH_take (i := 5) (oi := _) (v := ?mv23) rfl (by kernel_rfl) (by kernel_rfl) (by kernel_rfl) (fun _ _ _ h => h) (Or.inl ⟨by rfl, ?my23⟩) (by assumption) ?mr23
    case my23 => (simp only [List.getElem_toArray, List.getElem_cons_succ, List.getElem_cons_zero]; intro w hSw; (try dsimp only at hSw); go_simp; first | done | with_reducible rfl)
    try simp only [List.getElem_toArray, List.getElem_cons_succ, List.getElem_cons_zero, Act.put, List.setIfInBounds_toArray, List.set_cons_zero, List.set_cons_succ]
    refine wpAnyH_take (i := 6) (oi := _) (v := ?mv24) rfl (by kernel_rfl) (by kernel_rfl) (by kernel_rfl) (fun _ _ _ h => h) (Or.inl ⟨by rfl, ?my24⟩) (by assumption) ?mr24
    case my24 => (simp only [List.getElem_toArray, List.getElem_cons_succ, List.getElem_cons_zero]; intro w hSw; (try dsimp only at hSw); go_simp; first | done | with_reducible rfl)
    try simp only [List.getElem_toArray, List.getElem_cons_succ, List.getElem_cons_zero, Act.put, List.setIfInBounds_toArray, List.set_cons_zero, List.set_cons_succ]
    refine wpAnyH_take (i := 7) (oi := _) (v := ?mv25) rfl (by kernel_rfl) (by kernel_rfl) (by kernel_rfl) (fun _ _ _ h => h) (Or.inl ⟨by rfl, ?my25⟩) (by assumption) ?mr25
    case my25 => (simp only [List.getElem_toArray, List.getElem_cons_succ, List.getElem_cons_zero]; intro w hSw; (try dsimp only at hSw); go_simp; first | done | with_reducible rfl)
    try simp only [List.getElem_toArray, List.getElem_cons_succ, List.getElem_cons_zero, Act.put, List.setIfInBounds_toArray, List.set_cons_zero, List.set_cons_succ]
    refine wpAnyH_ready (rs := [8]) (by kernel_rfl) (by simp) ?_
    refine AllReadyH.cons (o := _) rfl (fun K hK => ?_) AllReadyH.nil
    simp only [List.getElem_toArray, List.getElem_cons_succ, List.getElem_cons_zero]
    go_simp
    go_at_call 18
    (with_reducible refine (Hcall.out _ (show Later w1 _ by repeat (first | (with_reducible exact Later.refl _) | (with_reducible apply Later.drew) | (with_reducible apply Later.drewN) | (with_reducible apply Later.alloc) | (with_reducible refine Later.call ?_ (by assumption))))).mono ?_)
    rintro e wf ⟨S3, c3, C3, d3, rfl, hne, hof, hbf⟩
    have hlf : Later w1 wf := Later.trans (show Later w1 (World.drew w1) by repeat (first | (with_reducible exact Later.refl _) | (with_reducible apply Later.drew) | (with_reducible apply Later.drewN) | (with_reducible apply Later.alloc) | (with_reducible refine Later.call ?_ (by assumption)))) hbf
    have hzf := hlf.blk Hz.out
    have c0' := hzf.cell 0
    have c1' := hzf.cell 1
    have f0' := hzf.frozen 0
    have f1' := hzf.frozen 1
    simp at c0' c1'
    have Hne := Lib.hid hne
    have Hof := Lib.hid hof
    have Hzf := Lib.hid hzf
    have Hlf := Lib.hid hlf
    clear hne hof hzf hlf
    try go_wp2_with fail
    refine hK.out _ _ ?_ (fun hHeld => ?_)
    · (try dsimp only); (first | (with_reducible exact ⟨q1, q2, q3, q4, q5, q6⟩) | exact ⟨Later.cell (show Later w1 _ by repeat (first | (with_reducible exact Later.refl _) | (with_reducible apply Later.drew) | (with_reducible apply Later.drewN) | (with_reducible apply Later.alloc) | (with_reducible refine Later.call ?_ (by assumption)))) q1, Later.cell (show Later w1 _ by repeat (first | (with_reducible exact Later.refl _) | (with_reducible apply Later.drew) | (with_reducible apply Later.drewN) | (with_reducible apply Later.alloc) | (with_reducible refine Later.call ?_ (by assumption)))) q2, Later.cell (show Later w1 _ by repeat (first | (with_reducible exact Later.refl _) | (with_reducible apply Later.drew) | (with_reducible apply Later.drewN) | (with_reducible apply Later.alloc) | (with_reducible refine Later.call ?_ (by assumption)))) q3, Later.cell (show Later w1 _ by repeat (first | (with_reducible exact Later.refl _) | (with_reducible apply Later.drew) | (with_reducible apply Later.drewN) | (with_reducible apply Later.alloc) | (with_reducible refine Later.call ?_ (by assumption)))) q4, Later.cell (show Later w1 _ by repeat (first | (with_reducible exact Later.refl _) | (with_reducible apply Later.drew) | (with_reducible apply Later.drewN) | (with_reducible apply Later.alloc) | (with_reducible refine Later.call ?_ (by assumption)))) q5, Later.cell (show Later w1 _ by repeat (first | (with_reducible exact Later.refl _) | (with_reducible apply Later.drew) | (with_reducible apply Later.drewN) | (with_reducible apply Later.alloc) | (with_reducible refine Later.call ?_ (by assumption)))) q6⟩)
    clear hK K
    try simp only [List.getElem_toArray, List.getElem_cons_succ, List.getElem_cons_zero, Act.put, List.setIfInBounds_toArray, List.set_cons_zero, List.set_cons_succ]
    refine wpAnyH_take (i := 9) (oi := _) (v := ?mv27) rfl (by kernel_rfl) (by kernel_rfl) (by kernel_rfl) (fun _ _ _ h => h) (Or.inl ⟨by rfl, ?my27⟩) (by assumption) ?mr27
    case my27 => (simp only [List.getElem_toArray, List.getElem_cons_succ, List.getElem_cons_zero]; intro w hSw; (try dsimp only at hSw); go_simp; first | done | with_reducible rfl)
    try simp only [List.getElem_toArray, List.getElem_cons_succ, List.getElem_cons_zero, Act.put, List.setIfInBounds_toArray, List.set_cons_zero, List.set_cons_succ]
    refine wpAnyH_take (i := 10) (oi := _) (v := ?mv28) rfl (by kernel_rfl) (by kernel_rfl) (by kernel_rfl) (fun _ _ _ h => h) (Or.inl ⟨by rfl, ?my28⟩) (by assumption) ?mr28
    case my28 => (simp only [List.getElem_toArray, List.getElem_cons_succ, List.getElem_cons_zero]; intro w hSw; (try dsimp only at hSw); go_simp; first | done | with_reducible rfl)
    try simp only [List.getElem_toArray, List.getElem_cons_succ, List.getElem_cons_zero, Act.put, List.setIfInBounds_toArray, List.set_cons_zero, List.set_cons_succ]
    refine wpAnyH_ready (rs := [11]) (by kernel_rfl) (by simp) ?_
    refine AllReadyH.cons (o := _) rfl (fun K hK => ?_) AllReadyH.nil
    simp only [List.getElem_toArray, List.getElem_cons_succ, List.getElem_cons_zero]
    go_simp
    refine hK.out _ _ ?_ (fun hHeld => ?_)
    · (try dsimp only); (refine ⟨?_, ?_, ?_, ?_, ?_, ?_⟩ <;> (repeat (refine cell_setfar ?_ (by first | omega | (simp; done) | (simp; omega)))) <;> (refine Later.cell (show Later w1 _ by repeat (first | (with_reducible exact Later.refl _) | (with_reducible apply Later.drew) | (with_reducible apply Later.drewN) | (with_reducible apply Later.alloc) | (with_reducible refine Later.call ?_ (by assumption)))) ?_) <;> assumption)
    clear hK K
    try simp only [List.getElem_toArray, List.getElem_cons_succ, List.getElem_cons_zero, Act.put, List.setIfInBounds_toArray, List.set_cons_zero, List.set_cons_succ]
    refine wpAnyH_take (i := 12) (oi := _) (v := ?mv30) rfl (by kernel_rfl) (by kernel_rfl) (by kernel_rfl) (fun _ _ _ h => h) (Or.inl ⟨by rfl, ?my30⟩) (by assumption) ?mr30
    case my30 => (simp only [List.getElem_toArray, List.getElem_cons_succ, List.getElem_cons_zero]; intro w hSw; (try dsimp only at hSw); go_simp; first | done | with_reducible rfl)
    try simp only [List.getElem_toArray, List.getElem_cons_succ, List.getElem_cons_zero, Act.put, List.setIfInBounds_toArray, List.set_cons_zero, List.set_cons_succ]
    refine wpAnyH_done (by kernel_rfl) ?_ _
    refine NoPanic.normal ?_
    have hz4 := (Hzf.out.set_ 0 (.slice S3 R.1.s.length c3)).set_ 1 (.slice C3 R.1.c.length d3)
    have e0 := hz4.cell 0
    have e1 := hz4.cell 1
    simp at e0 e1
    have Hz4 := Lib.hid hz4
    clear hz4
    go_wp2_with fail
    refine bodyPost_ret (v := .tuple #[.agg #[.slice S3 R.1.s.length c3, .slice C3 R.1.c.length d3], .int .i64 R.2]) (by simp [results, Try.results8, go_sem, e0, e1]) rfl ?_
    rw [HE.out]
    exact gop_fin Hne.out Hof.out (HH.out.trans Hlf.out) Hzf.out (by simp) (by have := HH.out.size; simp; omega)
  · have hR0 : Ly.lay o p x = Ly.conv (Ly.got p 0) (Ly.got x 0) o.step := Ly.lay10 hk
    have hno : (Ly.conv (Ly.got p 0) (Ly.got x 0) o.step).2 ≠ 0 → (Ly.conv (Ly.got p 0) (Ly.got x 0) o.step).1 = Ly.none_ := Ly.conv_none
    have hun := (Ly.counts_ok hc)
    unfold Od.least Od.most Od.params at hun
    have hpl : p.length = 1 := by have := hun.1; have h3 := hun.2.2.2; rw [if_pos this] at h3; simp [hk] at h3; omega
    have hxl : x.length = 1 := by have := hun.1; have h1 := hun.2.1; have h2 := hun.2.2.1; rw [if_pos this] at h1 h2; simp [hk] at h1 h2; omega
    clear hun hc
    obtain ⟨bp, po, S0, c0, C0, d0, rfl, lbp, p00, p01, hT0⟩ := HP.out.at_ (j := 0) (by omega)
    obtain ⟨bx, xo, S2, c2, C2, d2, rfl, lbx, x00, x01, hT2⟩ := HX.out.at_ (j := 0) (by omega)
    have hcall := fun (W : World) (h : Later w1 W) => calls_goU (conv_go S0 C0 S2 C2 c0 d0 c2 d2 (Ly.got p 0) (Ly.got x 0) o.step W (hT0.later (HH.out.trans h)) (hT2.later (HH.out.trans h))) hno
    obtain ⟨R, hR⟩ : ∃ R, Ly.conv (Ly.got p 0) (Ly.got x 0) o.step = R := ⟨_, rfl⟩
    rw [hR] at hcall
    rw [hR] at hR0
    have HE := Lib.hid (hg0.trans hR0)
    clear hno
    have q1 : w1.cell? ⟨bp, po, none⟩ = some (.slice S0 (Ly.got p 0).s.length c0) := HH.out.cell (by simpa using p00)
    have q2 : w1.cell? ⟨bp, po + 1, none⟩ = some (.slice C0 (Ly.got p 0).c.length d0) := HH.out.cell (by simpa using p01)
    have q3 : w1.cell? ⟨bx, xo, none⟩ = some (.slice S2 (Ly.got x 0).s.length c2) := HH.out.cell (by simpa using x00)
    have q4 : w1.cell? ⟨bx, xo + 1, none⟩ = some (.slice C2 (Ly.got x 0).c.length d2) := HH.out.cell (by simpa using x01)
    have q5 : w1.cell? ⟨w.heap.size, 8, none⟩ = some (.slice (some ⟨bp, po, none⟩) 1 cp) := by rw [Hkz.out.cell, ← hpl]; rfl
    have q6 : w1.cell? ⟨w.heap.size, 9, none⟩ = some (.slice (some ⟨bx, xo, none⟩) 1 cx) := by rw [Hkz.out.cell, ← hxl]; rfl
    have q7 : w1.cell? ⟨w.heap.size + 2, 3, none⟩ = some (.int .i64 o.step) := by rw [Hko.out.cell]; rfl
    have x0 : w1.cell? ⟨w.heap.size + 2, 0, none⟩ = some (.int .i64 10) := by rw [Hko.out.cell, ← hk]; rfl
    have Hcall := Lib.hid hcall
    have HR := Lib.hid hR
    clear hcall hR hR0 hT0 hT2
    have lp1 : bp < w1.heap.size := Nat.lt_of_lt_of_le lbp HH.out.size
    have lx1 : bx < w1.heap.size := Nat.lt_of_lt_of_le lbx HH.out.size
    go_upto_region 8 with fail
    clear x0 hk
    refine wp_region_noPanic ?_
    refine wp_region_held_drew (S := fun X => X.cell? ⟨bp, po, none⟩ = some (.slice S0 (Ly.got p 0).s.length c0) ∧ X.cell? ⟨bp, po + 1, none⟩ = some (.slice C0 (Ly.got p 0).c.length d0) ∧ X.cell? ⟨bx, xo, none⟩ = some (.slice S2 (Ly.got x 0).s.length c2) ∧ X.cell? ⟨bx, xo + 1, none⟩ = some (.slice C2 (Ly.got x 0).c.length d2) ∧ X.cell? ⟨w.heap.size, 8, none⟩ = some (.slice (some ⟨bp, po, none⟩) 1 cp) ∧ X.cell? ⟨w.heap.size, 9, none⟩ = some (.slice (some ⟨bx, xo, none⟩) 1 cx) ∧ X.cell? ⟨w.heap.size + 2, 3, none⟩ = some (.int .i64 o.step)) (by kernel_rfl) ?_ (fun hHeld => ?_)
    · (try dsimp only); (first | (with_reducible exact ⟨q1, q2, q3, q4, q5, q6, q7⟩) | exact ⟨Later.cell (show Later w1 _ by repeat (first | (with_reducible exact Later.refl _) | (with_reducible apply Later.drew) | (with_reducible apply Later.drewN) | (with_reducible apply Later.alloc) | (with_reducible refine Later.call ?_ (by assumption)))) q1, Later.cell (show Later w1 _ by repeat (first | (with_reducible exact Later.refl _) | (with_reducible apply Later.drew) | (with_reducible apply Later.drewN) | (with_reducible apply Later.alloc) | (with_reducible refine Later.call ?_ (by assumption)))) q2, Later.cell (show Later w1 _ by repeat (first | (with_reducible exact Later.refl _) | (with_reducible apply Later.drew) | (with_reducible apply Later.drewN) | (with_reducible apply Later.alloc) | (with_reducible refine Later.call ?_ (by assumption)))) q3, Later.cell (show Later w1 _ by repeat (first | (with_reducible exact Later.refl _) | (with_reducible apply Later.drew) | (with_reducible apply Later.drewN) | (with_reducible apply Later.alloc) | (with_reducible refine Later.call ?_ (by assumption)))) q4, Later.cell (show Later w1 _ by repeat (first | (with_reducible exact Later.refl _) | (with_reducible apply Later.drew) | (with_reducible apply Later.drewN) | (with_reducible apply Later.alloc) | (with_reducible refine Later.call ?_ (by assumption)))) q5, Later.cell (show Later w1 _ by repeat (first | (with_reducible exact Later.refl _) | (with_reducible apply Later.drew) | (with_reducible apply Later.drewN) | (with_reducible apply Later.alloc) | (with_reducible refine Later.call ?_ (by assumption)))) q6, Later.cell (show Later w1 _ by repeat (first | (with_reducible exact Later.refl _) | (with_reducible apply Later.drew) | (with_reducible apply Later.drewN) | (with_reducible apply Later.alloc) | (with_reducible refine Later.call ?_ (by assumption)))) q7⟩)
    refine wpAnyH_take (i := 0) (oi := _) (v := ?mv31) rfl (by kernel_rfl) (by kernel_rfl) (by kernel_rfl) (fun _ _ _ h => h) (Or.inl ⟨by rfl, ?my31⟩) (by assumption) ?mr31
    case my31 => (simp only [List.getElem_toArray, List.getElem_cons_zero]; intro w hSw; (try dsimp only at hSw); go_simp; first | done | with_reducible rfl)
    try simp only [List.getElem_toArray, List.getElem_cons_zero, Act.put, List.setIfInBounds_toArray, List.set_cons_zero, List.set_cons_succ]
    refine wpAnyH_take (i := 1) (oi := _) (v := ?mv32) rfl (by kernel_rfl) (by kernel_rfl) (by kernel_rfl) (fun _ _ _ h => h) (Or.inl ⟨by rfl, ?my32⟩) (by assumption) ?mr32
    case my32 => (simp only [List.getElem_toArray, List.getElem_cons_succ, List.getElem_cons_zero]; intro w hSw; (try dsimp only at hSw); go_simp; first | done | with_reducible rfl)
    try simp only [List.getElem_toArray, List.getElem_cons_succ, List.getElem_cons_zero, Act.put, List.setIfInBounds_toArray, List.set_cons_zero, List.set_cons_succ]
    refine wpAnyH_take (i := 2) (oi := _) (v := ?mv33) rfl (by kernel_rfl) (by kernel_rfl) (by kernel_rfl) (fun _ _ _ h => h) (Or.inl ⟨by rfl, ?my33⟩) (by assumption) ?mr33
    case my33 => (simp only [List.getElem_toArray, List.getElem_cons_succ, List.getElem_cons_zero]; intro w hSw; (try dsimp only at hSw); go_simp; first | done | with_reducible rfl)
    try simp only [List.getElem_toArray, List.getElem_cons_succ, List.getElem_cons_zero, Act.put, List.setIfInBounds_toArray, List.set_cons_zero, List.set_cons_succ]
    refine wpAnyH_take (i := 3) (oi := _) (v := ?mv34) rfl (by kernel_rfl) (by kernel_rfl) (by kernel_rfl) (fun _ _ _ h => h) (Or.inl ⟨by rfl, ?my34⟩) (by assumption) ?mr34
    case my34 => (simp only [List.getElem_toArray, List.getElem_cons_succ, List.getElem_cons_zero]; intro w hSw; (try dsimp only at hSw); go_simp; first | done | with_reducible rfl)
    try simp only [List.getElem_toArray, List.getElem_cons_succ, List.getElem_cons_zero, Act.put, List.setIfInBounds_toArray, List.set_cons_zero, List.set_cons_succ]
    refine wpAnyH_take (i := 4) (oi := _) (v := ?mv35) rfl (by kernel_rfl) (by kernel_rfl) (by kernel_rfl) (fun _ _ _ h => h) (Or.inl ⟨by rfl, ?my35⟩) (by assumption) ?mr35
    case my35 => (simp only [List.getElem_toArray, List.getElem_cons_succ, List.getElem_cons_zero]; intro w hSw; (try dsimp only at hSw); go_simp; first | done | with_reducible rfl)
    try simp only [List.getElem_toArray, List.getElem_cons_succ, List.getElem_cons_zero, Act.put, List.setIfInBounds_toArray, List.set_cons_zero, List.set_cons_succ]
    refine wpAnyH_take (i := 5) (oi := _) (v := ?mv36) rfl (by kernel_rfl) (by kernel_rfl) (by kernel_rfl) (fun _ _ _ h => h) (Or.inl ⟨by rfl, ?my36⟩) (by assumption) ?mr36
    case my36 => (simp only [List.getElem_toArray, List.getElem_cons_succ, List.getElem_cons_zero]; intro w hSw; (try dsimp only at hSw); go_simp; first | done | with_reducible rfl)
    try simp only [List.getElem_toArray, List.getElem_cons_succ, List.getElem_cons_zero, Act.put, List.setIfInBounds_toArray, List.set_cons_zero, List.set_cons_succ]
    refine wpAnyH_take (i := 6) (oi := _) (v := ?mv37) rfl (by kernel_rfl) (by kernel_rfl) (by kernel_rfl) (fun _ _ _ h => h) (Or.inl ⟨by rfl, ?my37⟩) (by assumption) ?mr37
    case my37 => (simp only [List.getElem_toArray, List.getElem_cons_succ, List.getElem_cons_zero]; intro w hSw; (try dsimp only at hSw); go_simp; first | done | with_reducible rfl)
    try simp only [List.getElem_toArray, List.getElem_cons_succ, List.getElem_cons_zero, Act.put, List.setIfInBounds_toArray, List.set_cons_zero, List.set_cons_succ]
    refine wpAnyH_take (i := 7) (oi := _) (v := ?mv38) rfl (by kernel_rfl) (by kernel_rfl) (by kernel_rfl) (fun _ _ _ h => h) (Or.inl ⟨by rfl, ?my38⟩) (by assumption) ?mr38
    case my38 => (simp only [List.getElem_toArray, List.getElem_cons_succ, List.getElem_cons_zero]; intro w hSw; (try dsimp only at hSw); go_simp; first | done | with_reducible rfl)
    try simp only [List.getElem_toArray, List.getElem_cons_succ, List.getElem_cons_zero, Act.put, List.setIfInBounds_toArray, List.set_cons_zero, List.set_cons_succ]
    refine wpAnyH_take (i := 8) (oi := _) (v := ?mv39) rfl (by kernel_rfl) (by kernel_rfl) (by kernel_rfl) (fun _ _ _ h => h) (Or.inl ⟨by rfl, ?my39⟩) (by assumption) ?mr39
    case my39 => (simp only [List.getElem_toArray, List.getElem_cons_succ, List.getElem_cons_zero]; intro w hSw; (try dsimp only at hSw); go_simp; first | done | with_reducible rfl)
    try simp only [List.getElem_toArray, List.getElem_cons_succ, List.getElem_cons_zero, Act.put, List.setIfInBounds_toArray, List.set_cons_zero, List.set_cons_succ]
    refine wpAnyH_take (i := 9) (oi := _) (v := ?mv40) rfl (by kernel_rfl) (by kernel_rfl) (by kernel_rfl) (fun _ _ _ h => h) (Or.inl ⟨by rfl, ?my40⟩) (by assumption) ?mr40
    case my40 => (simp only [List.getElem_toArray, List.getElem_cons_succ, List.getElem_cons_zero]; intro w hSw; (try dsimp only at hSw); go_simp; first | done | with_reducible rfl)
    try simp only [List.getElem_toArray, List.getElem_cons_succ, List.getElem_cons_zero, Act.put, List.setIfInBounds_toArray, List.set_cons_zero, List.set_cons_succ]
    refine wpAnyH_ready (rs := [10]) (by kernel_rfl) (by simp) ?_
    refine AllReadyH.cons (o := _) rfl (fun K hK => ?_) AllReadyH.nil
    simp only [List.getElem_toArray, List.getElem_cons_succ, List.getElem_cons_zero]
    go_simp
    go_at_call 19
    (with_reducible refine (Hcall.out _ (show Later w1 _ by repeat (first | (with_reducible exact Later.refl _) | (with_reducible apply Later.drew) | (with_reducible apply Later.drewN) | (with_reducible apply Later.alloc) | (with_reducible refine Later.call ?_ (by assumption))))).mono ?_)
    rintro e wf ⟨S3, c3, C3, d3, rfl, hne, hof, hbf⟩
    have hlf : Later w1 wf := Later.trans (show Later w1 (World.drew w1) by repeat (first | (with_reducible exact Later.refl _) | (with_reducible apply Later.drew) | (with_reducible apply Later.drewN) | (with_reducible apply Later.alloc) | (with_reducible refine Later.call ?_ (by assumption)))) hbf
    have hzf := hlf.blk Hz.out
    have c0' := hzf.cell 0
    have c1' := hzf.cell 1
    have f0' := hzf.frozen 0
    have f1' := hzf.frozen 1
    simp at c0' c1'
    have Hne := Lib.hid hne
    have Hof := Lib.hid hof
    have Hzf := Lib.hid hzf
    have Hlf := Lib.hid hlf
    clear hne hof hzf hlf
    try go_wp2_with fail
    refine hK.out _ _ ?_ (fun hHeld => ?_)
    · (try dsimp only); (first | (with_reducible exact ⟨q1, q2, q3, q4, q5, q6, q7⟩) | exact ⟨Later.cell (show Later w1 _ by repeat (first | (with_reducible exact Later.refl _) | (with_reducible apply Later.drew) | (with_reducible apply Later.drewN) | (with_reducible apply Later.alloc) | (with_reducible refine Later.call ?_ (by assumption)))) q1, Later.cell (show Later w1 _ by repeat (first | (with_reducible exact Later.refl _) | (with_reducible apply Later.drew) | (with_reducible apply Later.drewN) | (with_reducible apply Later.alloc) | (with_reducible refine Later.call ?_ (by assumption)))) q2, Later.cell (show Later w1 _ by repeat (first | (with_reducible exact Later.refl _) | (with_reducible apply Later.drew) | (with_reducible apply Later.drewN) | (with_reducible apply Later.alloc) | (with_reducible refine Later.call ?_ (by assumption)))) q3, Later.cell (show Later w1 _ by repeat (first | (with_reducible exact Later.refl _) | (with_reducible apply Later.drew) | (with_reducible apply Later.drewN) | (with_reducible apply Later.alloc) | (with_reducible refine Later.call ?_ (by assumption)))) q4, Later.cell (show Later w1 _ by repeat (first | (with_reducible exact Later.refl _) | (with_reducible apply Later.drew) | (with_reducible apply Later.drewN) | (with_reducible apply Later.alloc) | (with_reducible refine Later.call ?_ (by assumption)))) q5, Later.cell (show Later w1 _ by repeat (first | (with_reducible exact Later.refl _) | (with_reducible apply Later.drew) | (with_reducible apply Later.drewN) | (with_reducible apply Later.alloc) | (with_reducible refine Later.call ?_ (by assumption)))) q6, Later.cell (show Later w1 _ by repeat (first | (with_reducible exact Later.refl _) | (with_reducible apply Later.drew) | (with_reducible apply Later.drewN) | (with_reducible apply Later.alloc) | (with_reducible refine Later.call ?_ (by assumption)))) q7⟩)
    clear hK K
    try simp only [List.getElem_toArray, List.getElem_cons_succ, List.getElem_cons_zero, Act.put, List.setIfInBounds_toArray, List.set_cons_zero, List.set_cons_succ]
    refine wpAnyH_take (i := 11) (oi := _) (v := ?mv42) rfl (by kernel_rfl) (by kernel_rfl) (by kernel_rfl) (fun _ _ _ h => h) (Or.inl ⟨by rfl, ?my42⟩) (by assumption) ?mr42
    case my42 => (simp only [List.getElem_toArray, List.getElem_cons_succ, List.getElem_cons_zero]; intro w hSw; (try dsimp only at hSw); go_simp; first | done | with_reducible rfl)
    try simp only [List.getElem_toArray, List.getElem_cons_succ, List.getElem_cons_zero, Act.put, List.setIfInBounds_toArray, List.set_cons_zero, List.set_cons_succ]
    refine wpAnyH_take (i := 12) (oi := _) (v := ?mv43) rfl (by kernel_rfl) (by kernel_rfl) (by kernel_rfl) (fun _ _ _ h => h) (Or.inl ⟨by rfl, ?my43⟩) (by assumption) ?mr43
    case my43 => (simp only [List.getElem_toArray, List.getElem_cons_succ, List.getElem_cons_zero]; intro w hSw; (try dsimp only at hSw); go_simp; first | done | with_reducible rfl)
    try simp only [List.getElem_toArray, List.getElem_cons_succ, List.getElem_cons_zero, Act.put, List.setIfInBounds_toArray, List.set_cons_zero, List.set_cons_succ]
    refine wpAnyH_ready (rs := [13]) (by kernel_rfl) (by simp) ?_
    refine AllReadyH.cons (o := _) rfl (fun K hK => ?_) AllReadyH.nil
    simp only [List.getElem_toArray, List.getElem_cons_succ, List.getElem_cons_zero]
    go_simp
    refine hK.out _ _ ?_ (fun hHeld => ?_)
    · (try dsimp only); (refine ⟨?_, ?_, ?_, ?_, ?_, ?_, ?_⟩ <;> (repeat (refine cell_setfar ?_ (by first | omega | (simp; done) | (simp; omega)))) <;> (refine Later.cell (show Later w1 _ by repeat (first | (with_reducible exact Later.refl _) | (with_reducible apply Later.drew) | (with_reducible apply Later.drewN) | (with_reducible apply Later.alloc) | (with_reducible refine Later.call ?_ (by assumption)))) ?_) <;> assumption)
    clear hK K
    try simp only [List.getElem_toArray, List.getElem_cons_succ, List.getElem_cons_zero, Act.put, List.setIfInBounds_toArray, List.set_cons_zero, List.set_cons_succ]
    refine wpAnyH_take (i := 14) (oi := _) (v := ?mv45) rfl (by kernel_rfl) (by kernel_rfl) (by kernel_rfl) (fun _ _ _ h => h) (Or.inl ⟨by rfl, ?my45⟩) (by assumption) ?mr45
    case my45 => (simp only [List.getElem_toArray, List.getElem_cons_succ, List.getElem_cons_zero]; intro w hSw; (try dsimp only at hSw); go_simp; first | done | with_reducible rfl)
    try simp only [List.getElem_toArray, List.getElem_cons_succ, List.getElem_cons_zero, Act.put, List.setIfInBounds_toArray, List.set_cons_zero, List.set_cons_succ]
    refine wpAnyH_done (by kernel_rfl) ?_ _
    refine NoPanic.normal ?_
    have hz4 := (Hzf.out.set_ 0 (.slice S3 R.1.s.length c3)).set_ 1 (.slice C3 R.1.c.length d3)
    have e0 := hz4.cell 0
    have e1 := hz4.cell 1
    simp at e0 e1
    have Hz4 := Lib.hid hz4
    clear hz4
    go_wp2_with fail
    refine bodyPost_ret (v := .tuple #[.agg #[.slice S3 R.1.s.length c3, .slice C3 R.1.c.length d3], .int .i64 R.2]) (by simp [results, Try.results8, go_sem, e0, e1]) rfl ?_
    rw [HE.out]
    exact gop_fin Hne.out Hof.out (HH.out.trans Hlf.out) Hzf.out (by simp) (by have := HH.out.size; simp; omega)
  · have hR0 : Ly.lay o p x = Ly.pool true (Ly.got x 0) o.width o.step := Ly.lay11 hk
    have hno : (Ly.pool true (Ly.got x 0) o.width o.step).2 ≠ 0 → (Ly.pool true (Ly.got x 0) o.width o.step).1 = Ly.none_ := Ly.pool_none
    have hun := (Ly.counts_ok hc)
    unfold Od.least Od.most Od.params at hun
    have hpl : p.length = 0 := by have := hun.1; have h3 := hun.2.2.2; rw [if_pos this] at h3; simp [hk] at h3; omega
    have hxl : x.length = 1 := by have := hun.1; have h1 := hun.2.1; have h2 := hun.2.2.1; rw [if_pos this] at h1 h2; simp [hk] at h1 h2; omega
    clear hun hc
    obtain ⟨bx, xo, S2, c2, C2, d2, rfl, lbx, x00, x01, hT2⟩ := HX.out.at_ (j := 0) (by omega)
    have hcall := fun (W : World) (h : Later w1 W) => calls_goU (pool_go true 1 S2 C2 c2 d2 (Ly.got x 0) o.width o.step W (.inl ⟨rfl, rfl⟩) (hT2.later (HH.out.trans h))) hno
    obtain ⟨R, hR⟩ : ∃ R, Ly.pool true (Ly.got x 0) o.width o.step = R := ⟨_, rfl⟩
    rw [hR] at hcall
    rw [hR] at hR0
    have HE := Lib.hid (hg0.trans hR0)
    clear hno
    have q1 : w1.cell? ⟨bx, xo, none⟩ = some (.slice S2 (Ly.got x 0).s.length c2) := HH.out.cell (by simpa using x00)
    have q2 : w1.cell? ⟨bx, xo + 1, none⟩ = some (.slice C2 (Ly.got x 0).c.length d2) := HH.out.cell (by simpa using x01)
    have q3 : w1.cell? ⟨w.heap.size, 9, none⟩ = some (.slice (some ⟨bx, xo, none⟩) 1 cx) := by rw [Hkz.out.cell, ← hxl]; rfl
    have q4 : w1.cell? ⟨w.heap.size + 2, 2, none⟩ = some (.int .i64 o.width) := by rw [Hko.out.cell]; rfl
    have q5 : w1.cell? ⟨w.heap.size + 2, 3, none⟩ = some (.int .i64 o.step) := by rw [Hko.out.cell]; rfl
    have x0 : w1.cell? ⟨w.heap.size + 2, 0, none⟩ = some (.int .i64 11) := by rw [Hko.out.cell, ← hk]; rfl
    have Hcall := Lib.hid hcall
    have HR := Lib.hid hR
    clear hcall hR hR0 hT2
    have lx1 : bx < w1.heap.size := Nat.lt_of_lt_of_le lbx HH.out.size
    go_upto_region 10 with fail
    clear x0 hk
    refine wp_region_noPanic ?_
    refine wp_region_held_drew (S := fun X => X.cell? ⟨bx, xo, none⟩ = some (.slice S2 (Ly.got x 0).s.length c2) ∧ X.cell? ⟨bx, xo + 1, none⟩ = some (.slice C2 (Ly.got x 0).c.length d2) ∧ X.cell? ⟨w.heap.size, 9, none⟩ = some (.slice (some ⟨bx, xo, none⟩) 1 cx) ∧ X.cell? ⟨w.heap.size + 2, 2, none⟩ = some (.int .i64 o.width) ∧ X.cell? ⟨w.heap.size + 2, 3, none⟩ = some (.int .i64 o.step)) (by kernel_rfl) ?_ (fun hHeld => ?_)
    · (try dsimp only); (first | (with_reducible exact ⟨q1, q2, q3, q4, q5⟩) | exact ⟨Later.cell (show Later w1 _ by repeat (first | (with_reducible exact Later.refl _) | (with_reducible apply Later.drew) | (with_reducible apply Later.drewN) | (with_reducible apply Later.alloc) | (with_reducible refine Later.call ?_ (by assumption)))) q1, Later.cell (show Later w1 _ by repeat (first | (with_reducible exact Later.refl _) | (with_reducible apply Later.drew) | (with_reducible apply Later.drewN) | (with_reducible apply Later.alloc) | (with_reducible refine Later.call ?_ (by assumption)))) q2, Later.cell (show Later w1 _ by repeat (first | (with_reducible exact Later.refl _) | (with_reducible apply Later.drew) | (with_reducible apply Later.drewN) | (with_reducible apply Later.alloc) | (with_reducible refine Later.call ?_ (by assumption)))) q3, Later.cell (show Later w1 _ by repeat (first | (with_reducible exact Later.refl _) | (with_reducible apply Later.drew) | (with_reducible apply Later.drewN) | (with_reducible apply Later.alloc) | (with_reducible refine Later.call ?_ (by assumption)))) q4, Later.cell (show Later w1 _ by repeat (first | (with_reducible exact Later.refl _) | (with_reducible apply Later.drew) | (with_reducible apply Later.drewN) | (with_reducible apply Later.alloc) | (with_reducible refine Later.call ?_ (by assumption)))) q5⟩)
    refine wpAnyH_take (i := 0) (oi := _) (v := ?mv46) rfl (by kernel_rfl) (by kernel_rfl) (by kernel_rfl) (fun _ _ _ h => h) (Or.inl ⟨by rfl, ?my46⟩) (by assumption) ?mr46
    case my46 => (simp only [List.getElem_toArray, List.getElem_cons_zero]; intro w hSw; (try dsimp only at hSw); go_simp; first | done | with_reducible rfl)
    try simp only [List.getElem_toArray, List.getElem_cons_zero, Act.put, List.setIfInBounds_toArray, List.set_cons_zero, List.set_cons_succ]
    refine wpAnyH_take (i := 1) (oi := _) (v := ?mv47) rfl (by kernel_rfl) (by kernel_rfl) (by kernel_rfl) (fun _ _ _ h => h) (Or.inl ⟨by rfl, ?my47⟩) (by assumption) ?mr47
    case my47 => (simp only [List.getElem_toArray, List.getElem_cons_succ, List.getElem_cons_zero]; intro w hSw; (try dsimp only at hSw); go_simp; first | done | with_reducible rfl)
    try simp only [List.getElem_toArray, List.getElem_cons_succ, List.getElem_cons_zero, Act.put, List.setIfInBounds_toArray, List.set_cons_zero, List.set_cons_succ]
    refine wpAnyH_take (i := 2) (oi := _) (v := ?mv48) rfl (by kernel_rfl) (by kernel_rfl) (by kernel_rfl) (fun _ _ _ h => h) (Or.inl ⟨by rfl, ?my48⟩) (by assumption) ?mr48
    case my48 => (simp only [List.getElem_toArray, List.getElem_cons_succ, List.getElem_cons_zero]; intro w hSw; (try dsimp only at hSw); go_simp; first | done | with_reducible rfl)
    try simp only [List.getElem_toArray, List.getElem_cons_succ, List.getElem_cons_zero, Act.put, List.setIfInBounds_toArray, List.set_cons_zero, List.set_cons_succ]
    refine wpAnyH_take (i := 3) (oi := _) (v := ?mv49) rfl (by kernel_rfl) (by kernel_rfl) (by kernel_rfl) (fun _ _ _ h => h) (Or.inl ⟨by rfl, ?my49⟩) (by assumption) ?mr49
    case my49 => (simp only [List.getElem_toArray, List.getElem_cons_succ, List.getElem_cons_zero]; intro w hSw; (try dsimp only at hSw); go_simp; first | done | with_reducible rfl)
    try simp only [List.getElem_toArray, List.getElem_cons_succ, List.getElem_cons_zero, Act.put, List.setIfInBounds_toArray, List.set_cons_zero, List.set_cons_succ]
    refine wpAnyH_take (i := 4) (oi := _) (v := ?mv50) rfl (by kernel_rfl) (by kernel_rfl) (by kernel_rfl) (fun _ _ _ h => h) (Or.inl ⟨by rfl, ?my50⟩) (by assumption) ?mr50
    case my50 => (simp only [List.getElem_toArray, List.getElem_cons_succ, List.getElem_cons_zero]; intro w hSw; (try dsimp only at hSw); go_simp; first | done | with_reducible rfl)
    try simp only [List.getElem_toArray, List.getElem_cons_succ, List.getElem_cons_zero, Act.put, List.setIfInBounds_toArray, List.set_cons_zero, List.set_cons_succ]
    refine wpAnyH_take (i := 5) (oi := _) (v := ?mv51) rfl (by kernel_rfl) (by kernel_rfl) (by kernel_rfl) (fun _ _ _ h => h) (Or.inl ⟨by rfl, ?my51⟩) (by assumption) ?mr51
    case my51 => (simp only [List.getElem_toArray, List.getElem_cons_succ, List.getElem_cons_zero]; intro w hSw; (try dsimp only at hSw); go_simp; first | done | with_reducible rfl)
    try simp only [List.getElem_toArray, List.getElem_cons_succ, List.getElem_cons_zero, Act.put, List.setIfInBounds_toArray, List.set_cons_zero, List.set_cons_succ]
    refine wpAnyH_take (i := 6) (oi := _) (v := ?mv52) rfl (by kernel_rfl) (by kernel_rfl) (by kernel_rfl) (fun _ _ _ h => h) (Or.inl ⟨by rfl, ?my52⟩) (by assumption) ?mr52
    case my52 => (simp only [List.getElem_toArray, List.getElem_cons_succ, List.getElem_cons_zero]; intro w hSw; (try dsimp only at hSw); go_simp; first | done | with_reducible rfl)
    try simp only [List.getElem_toArray, List.getElem_cons_succ, List.getElem_cons_zero, Act.put, List.setIfInBounds_toArray, List.set_cons_zero, List.set_cons_succ]
    refine wpAnyH_take (i := 7) (oi := _) (v := ?mv53) rfl (by kernel_rfl) (by kernel_rfl) (by kernel_rfl) (fun _ _ _ h => h) (Or.inl ⟨by rfl, ?my53⟩) (by assumption) ?mr53
    case my53 => (simp only [List.getElem_toArray, List.getElem_cons_succ, List.getElem_cons_zero]; intro w hSw; (try dsimp only at hSw); go_simp; first | done | with_reducible rfl)
    try simp only [List.getElem_toArray, List.getElem_cons_succ, List.getElem_cons_zero, Act.put, List.setIfInBounds_toArray, List.set_cons_zero, List.set_cons_succ]
    refine wpAnyH_ready (rs := [8]) (by kernel_rfl) (by simp) ?_
    refine AllReadyH.cons (o := _) rfl (fun K hK => ?_) AllReadyH.nil
    simp only [List.getElem_toArray, List.getElem_cons_succ, List.getElem_cons_zero]
    go_simp
    go_at_call 20
    (with_reducible refine (Hcall.out _ (show Later w1 _ by repeat (first | (with_reducible exact Later.refl _) | (with_reducible apply Later.drew) | (with_reducible apply Later.drewN) | (with_reducible apply Later.alloc) | (with_reducible refine Later.call ?_ (by assumption))))).mono ?_)
    rintro e wf ⟨S3, c3, C3, d3, rfl, hne, hof, hbf⟩
    have hlf : Later w1 wf := Later.trans (show Later w1 (World.drew w1) by repeat (first | (with_reducible exact Later.refl _) | (with_reducible apply Later.drew) | (with_reducible apply Later.drewN) | (with_reducible apply Later.alloc) | (with_reducible refine Later.call ?_ (by assumption)))) hbf
    have hzf := hlf.blk Hz.out
    have c0' := hzf.cell 0
    have c1' := hzf.cell 1
    have f0' := hzf.frozen 0
    have f1' := hzf.frozen 1
    simp at c0' c1'
    have Hne := Lib.hid hne
    have Hof := Lib.hid hof
    have Hzf := Lib.hid hzf
    have Hlf := Lib.hid hlf
    clear hne hof hzf hlf
    try go_wp2_with fail
    refine hK.out _ _ ?_ (fun hHeld => ?_)
    · (try dsimp only); (first | (with_reducible exact ⟨q1, q2, q3, q4, q5⟩) | exact ⟨Later.cell (show Later w1 _ by repeat (first | (with_reducible exact Later.refl _) | (with_reducible apply Later.drew) | (with_reducible apply Later.drewN) | (with_reducible apply Later.alloc) | (with_reducible refine Later.call ?_ (by assumption)))) q1, Later.cell (show Later w1 _ by repeat (first | (with_reducible exact Later.refl _) | (with_reducible apply Later.drew) | (with_reducible apply Later.drewN) | (with_reducible apply Later.alloc) | (with_reducible refine Later.call ?_ (by assumption)))) q2, Later.cell (show Later w1 _ by repeat (first | (with_reducible exact Later.refl _) | (with_reducible apply Later.drew) | (with_reducible apply Later.drewN) | (with_reducible apply Later.alloc) | (with_reducible refine Later.call ?_ (by assumption)))) q3, Later.cell (show Later w1 _ by repeat (first | (with_reducible exact Later.refl _) | (with_reducible apply Later.drew) | (with_reducible apply Later.drewN) | (with_reducible apply Later.alloc) | (with_reducible refine Later.call ?_ (by assumption)))) q4, Later.cell (show Later w1 _ by repeat (first | (with_reducible exact Later.refl _) | (with_reducible apply Later.drew) | (with_reducible apply Later.drewN) | (with_reducible apply Later.alloc) | (with_reducible refine Later.call ?_ (by assumption)))) q5⟩)
    clear hK K
    try simp only [List.getElem_toArray, List.getElem_cons_succ, List.getElem_cons_zero, Act.put, List.setIfInBounds_toArray, List.set_cons_zero, List.set_cons_succ]
    refine wpAnyH_take (i := 9) (oi := _) (v := ?mv55) rfl (by kernel_rfl) (by kernel_rfl) (by kernel_rfl) (fun _ _ _ h => h) (Or.inl ⟨by rfl, ?my55⟩) (by assumption) ?mr55
    case my55 => (simp only [List.getElem_toArray, List.getElem_cons_succ, List.getElem_cons_zero]; intro w hSw; (try dsimp only at hSw); go_simp; first | done | with_reducible rfl)
    try simp only [List.getElem_toArray, List.getElem_cons_succ, List.getElem_cons_zero, Act.put, List.setIfInBounds_toArray, List.set_cons_zero, List.set_cons_succ]
    refine wpAnyH_take (i := 10) (oi := _) (v := ?mv56) rfl (by kernel_rfl) (by kernel_rfl) (by kernel_rfl) (fun _ _ _ h => h) (Or.inl ⟨by rfl, ?my56⟩) (by assumption) ?mr56
    case my56 => (simp only [List.getElem_toArray, List.getElem_cons_succ, List.getElem_cons_zero]; intro w hSw; (try dsimp only at hSw); go_simp; first | done | with_reducible rfl)
    try simp only [List.getElem_toArray, List.getElem_cons_succ, List.getElem_cons_zero, Act.put, List.setIfInBounds_toArray, List.set_cons_zero, List.set_cons_succ]
    refine wpAnyH_ready (rs := [11]) (by kernel_rfl) (by simp) ?_
    refine AllReadyH.cons (o := _) rfl (fun K hK => ?_) AllReadyH.nil
    simp only [List.getElem_toArray, List.getElem_cons_succ, List.getElem_cons_zero]
    go_simp
    refine hK.out _ _ ?_ (fun hHeld => ?_)
    · (try dsimp only); (refine ⟨?_, ?_, ?_, ?_, ?_⟩ <;> (repeat (refine cell_setfar ?_ (by first | omega | (simp; done) | (simp; omega)))) <;> (refine Later.cell (show Later w1 _ by repeat (first | (with_reducible exact Later.refl _) | (with_reducible apply Later.drew) | (with_reducible apply Later.drewN) | (with_reducible apply Later.alloc) | (with_reducible refine Later.call ?_ (by assumption)))) ?_) <;> assumption)
    clear hK K
    try simp only [List.getElem_toArray, List.getElem_cons_succ, List.getElem_cons_zero, Act.put, List.setIfInBounds_toArray, List.set_cons_zero, List.set_cons_succ]
    refine wpAnyH_take (i := 12) (oi := _) (v := ?mv58) rfl (by kernel_rfl) (by kernel_rfl) (by kernel_rfl) (fun _ _ _ h => h) (Or.inl ⟨by rfl, ?my58⟩) (by assumption) ?mr58
    case my58 => (simp only [List.getElem_toArray, List.getElem_cons_succ, List.getElem_cons_zero]; intro w hSw; (try dsimp only at hSw); go_simp; first | done | with_reducible rfl)
    try simp only [List.getElem_toArray, List.getElem_cons_succ, List.getElem_cons_zero, Act.put, List.setIfInBounds_toArray, List.set_cons_zero, List.set_cons_succ]
    refine wpAnyH_done (by kernel_rfl) ?_ _
    refine NoPanic.normal ?_
    have hz4 := (Hzf.out.set_ 0 (.slice S3 R.1.s.length c3)).set_ 1 (.slice C3 R.1.c.length d3)
    have e0 := hz4.cell 0
    have e1 := hz4.cell 1
    simp at e0 e1
    have Hz4 := Lib.hid hz4
    clear hz4
    go_wp2_with fail
    refine bodyPost_ret (v := .tuple #[.agg #[.slice S3 R.1.s.length c3, .slice C3 R.1.c.length d3], .int .i64 R.2]) (by simp [results, Try.results8, go_sem, e0, e1]) rfl ?_
    rw [HE.out]
    exact gop_fin Hne.out Hof.out (HH.out.trans Hlf.out) Hzf.out (by simp) (by have := HH.out.size; simp; omega)
  · have hR0 : Ly.lay o p x = Ly.pool false (Ly.got x 0) o.width o.step := Ly.lay12 hk
    have hno : (Ly.pool false (Ly.got x 0) o.width o.step).2 ≠ 0 → (Ly.pool false (Ly.got x 0) o.width o.step).1 = Ly.none_ := Ly.pool_none
    have hun := (Ly.counts_ok hc)
    unfold Od.least Od.most Od.params at hun
    have hpl : p.length = 0 := by have := hun.1; have h3 := hun.2.2.2; rw [if_pos this] at h3; simp [hk] at h3; omega
    have hxl : x.length = 1 := by have := hun.1; have h1 := hun.2.1; have h2 := hun.2.2.1; rw [if_pos this] at h1 h2; simp [hk] at h1 h2; omega
    clear hun hc
    obtain ⟨bx, xo, S2, c2, C2, d2, rfl, lbx, x00, x01, hT2⟩ := HX.out.at_ (j := 0) (by omega)
    have hcall := fun (W : World) (h : Later w1 W) => calls_goU (pool_go false 2 S2 C2 c2 d2 (Ly.got x 0) o.width o.step W (.inr ⟨rfl, rfl⟩) (hT2.later (HH.out.trans h))) hno
    obtain ⟨R, hR⟩ : ∃ R, Ly.pool false (Ly.got x 0) o.width o.step = R := ⟨_, rfl⟩
    rw [hR] at hcall
    rw [hR] at hR0
    have HE := Lib.hid (hg0.trans hR0)
    clear hno
    have q1 : w1.cell? ⟨bx, xo, none⟩ = some (.slice S2 (Ly.got x 0).s.length c2) := HH.out.cell (by simpa using x00)
    have q2 : w1.cell? ⟨bx, xo + 1, none⟩ = some (.slice C2 (Ly.got x 0).c.length d2) := HH.out.cell (by simpa using x01)
    have q3 : w1.cell? ⟨w.heap.size, 9, none⟩ = some (.slice (some ⟨bx, xo, none⟩) 1 cx) := by rw [Hkz.out.cell, ← hxl]; rfl
    have q4 : w1.cell? ⟨w.heap.size + 2, 2, none⟩ = some (.int .i64 o.width) := by rw [Hko.out.cell]; rfl
    have q5 : w1.cell? ⟨w.heap.size + 2, 3, none⟩ = some (.int .i64 o.step) := by rw [Hko.out.cell]; rfl
    have x0 : w1.cell? ⟨w.heap.size + 2, 0, none⟩ = some (.int .i64 12) := by rw [Hko.out.cell, ← hk]; rfl
    have Hcall := Lib.hid hcall
    have HR := Lib.hid hR
    clear hcall hR hR0 hT2
    have lx1 : bx < w1.heap.size := Nat.lt_of_lt_of_le lbx HH.out.size
    go_upto_region 12 with fail
    clear x0 hk
    refine wp_region_noPanic ?_
    refine wp_region_held_drew (S := fun X => X.cell? ⟨bx, xo, none⟩ = some (.slice S2 (Ly.got x 0).s.length c2) ∧ X.cell? ⟨bx, xo + 1, none⟩ = some (.slice C2 (Ly.got x 0).c.length d2) ∧ X.cell? ⟨w.heap.size, 9, none⟩ = some (.slice (some ⟨bx, xo, none⟩) 1 cx) ∧ X.cell? ⟨w.heap.size + 2, 2, none⟩ = some (.int .i64 o.width) ∧ X.cell? ⟨w.heap.size + 2, 3, none⟩ = some (.int .i64 o.step)) (by kernel_rfl) ?_ (fun hHeld => ?_)
    · (try dsimp only); (first | (with_reducible exact ⟨q1, q2, q3, q4, q5⟩) | exact ⟨Later.cell (show Later w1 _ by repeat (first | (with_reducible exact Later.refl _) | (with_reducible apply Later.drew) | (with_reducible apply Later.drewN) | (with_reducible apply Later.alloc) | (with_reducible refine Later.call ?_ (by assumption)))) q1, Later.cell (show Later w1 _ by repeat (first | (with_reducible exact Later.refl _) | (with_reducible apply Later.drew) | (with_reducible apply Later.drewN) | (with_reducible apply Later.alloc) | (with_reducible refine Later.call ?_ (by assumption)))) q2, Later.cell (show Later w1 _ by repeat (first | (with_reducible exact Later.refl _) | (with_reducible apply Later.drew) | (with_reducible apply Later.drewN) | (with_reducible apply Later.alloc) | (with_reducible refine Later.call ?_ (by assumption)))) q3, Later.cell (show Later w1 _ by repeat (first | (with_reducible exact Later.refl _) | (with_reducible apply Later.drew) | (with_reducible apply Later.drewN) | (with_reducible apply Later.alloc) | (with_reducible refine Later.call ?_ (by assumption)))) q4, Later.cell (show Later w1 _ by repeat (first | (with_reducible exact Later.refl _) | (with_reducible apply Later.drew) | (with_reducible apply Later.drewN) | (with_reducible apply Later.alloc) | (with_reducible refine Later.call ?_ (by assumption)))) q5⟩)
    refine wpAnyH_take (i := 0) (oi := _) (v := ?mv59) rfl (by kernel_rfl) (by kernel_rfl) (by kernel_rfl) (fun _ _ _ h => h) (Or.inl ⟨by rfl, ?my59⟩) (by assumption) ?mr59
    case my59 => (simp only [List.getElem_toArray, List.getElem_cons_zero]; intro w hSw; (try dsimp only at hSw); go_simp; first | done | with_reducible rfl)
    try simp only [List.getElem_toArray, List.getElem_cons_zero, Act.put, List.setIfInBounds_toArray, List.set_cons_zero, List.set_cons_succ]
    refine wpAnyH_take (i := 1) (oi := _) (v := ?mv60) rfl (by kernel_rfl) (by kernel_rfl) (by kernel_rfl) (fun _ _ _ h => h) (Or.inl ⟨by rfl, ?my60⟩) (by assumption) ?mr60
    case my60 => (simp only [List.getElem_toArray, List.getElem_cons_succ, List.getElem_cons_zero]; intro w hSw; (try dsimp only at hSw); go_simp; first | done | with_reducible rfl)
    try simp only [List.getElem_toArray, List.getElem_cons_succ, List.getElem_cons_zero, Act.put, List.setIfInBounds_toArray, List.set_cons_zero, List.set_cons_succ]
    refine wpAnyH_take (i := 2) (oi := _) (v := ?mv61) rfl (by kernel_rfl) (by kernel_rfl) (by kernel_rfl) (fun _ _ _ h => h) (Or.inl ⟨by rfl, ?my61⟩) (by assumption) ?mr61
    case my61 => (simp only [List.getElem_toArray, List.getElem_cons_succ, List.getElem_cons_zero]; intro w hSw; (try dsimp only at hSw); go_simp; first | done | with_reducible rfl)
    try simp only [List.getElem_toArray, List.getElem_cons_succ, List.getElem_cons_zero, Act.put, List.setIfInBounds_toArray, List.set_cons_zero, List.set_cons_succ]
    refine wpAnyH_take (i := 3) (oi := _) (v := ?mv62) rfl (by kernel_rfl) (by kernel_rfl) (by kernel_rfl) (fun _ _ _ h => h) (Or.inl ⟨by rfl, ?my62⟩) (by assumption) ?mr62
    case my62 => (simp only [List.getElem_toArray, List.getElem_cons_succ, List.getElem_cons_zero]; intro w hSw; (try dsimp only at hSw); go_simp; first | done | with_reducible rfl)
    try simp only [List.getElem_toArray, List.getElem_cons_succ, List.getElem_cons_zero, Act.put, List.setIfInBounds_toArray, List.set_cons_zero, List.set_cons_succ]
    refine wpAnyH_take (i := 4) (oi := _) (v := ?mv63) rfl (by kernel_rfl) (by kernel_rfl) (by kernel_rfl) (fun _ _ _ h => h) (Or.inl ⟨by rfl, ?my63⟩) (by assumption) ?mr63
    case my63 => (simp only [List.getElem_toArray, List.getElem_cons_succ, List.getElem_cons_zero]; intro w hSw; (try dsimp only at hSw); go_simp; first | done | with_reducible rfl)
    try simp only [List.getElem_toArray, List.getElem_cons_succ, List.getElem_cons_zero, Act.put, List.setIfInBounds_toArray, List.set_cons_zero, List.set_cons_succ]
    refine wpAnyH_take (i := 5) (oi := _) (v := ?mv64) rfl (by kernel_rfl) (by kernel_rfl) (by kernel_rfl) (fun _ _ _ h => h) (Or.inl ⟨by rfl, ?my64⟩) (by assumption) ?mr64
    case my64 => (simp only [List.getElem_toArray, List.getElem_cons_succ, List.getElem_cons_zero]; intro w hSw; (try dsimp only at hSw); go_simp; first | done | with_reducible rfl)
    try simp only [List.getElem_toArray, List.getElem_cons_succ, List.getElem_cons_zero, Act.put, List.setIfInBounds_toArray, List.set_cons_zero, List.set_cons_succ]
    refine wpAnyH_take (i := 6) (oi := _) (v := ?mv65) rfl (by kernel_rfl) (by kernel_rfl) (by kernel_rfl) (fun _ _ _ h => h) (Or.inl ⟨by rfl, ?my65⟩) (by assumption) ?mr65
    case my65 => (simp only [List.getElem_toArray, List.getElem_cons_succ, List.getElem_cons_zero]; intro w hSw; (try dsimp only at hSw); go_simp; first | done | with_reducible rfl)
    try simp only [List.getElem_toArray, List.getElem_cons_succ, List.getElem_cons_zero, Act.put, List.setIfInBounds_toArray, List.set_cons_zero, List.set_cons_succ]
    refine wpAnyH_take (i := 7) (oi := _) (v := ?mv66) rfl (by kernel_rfl) (by kernel_rfl) (by kernel_rfl) (fun _ _ _ h => h) (Or.inl ⟨by rfl, ?my66⟩) (by assumption) ?mr66
    case my66 => (simp only [List.getElem_toArray, List.getElem_cons_succ, List.getElem_cons_zero]; intro w hSw; (try dsimp only at hSw); go_simp; first | done | with_reducible rfl)
    try simp only [List.getElem_toArray, List.getElem_cons_succ, List.getElem_cons_zero, Act.put, List.setIfInBounds_toArray, List.set_cons_zero, List.set_cons_succ]
    refine wpAnyH_ready (rs := [8]) (by kernel_rfl) (by simp) ?_
    refine AllReadyH.cons (o := _) rfl (fun K hK => ?_) AllReadyH.nil
    simp only [List.getElem_toArray, List.getElem_cons_succ, List.getElem_cons_zero]
    go_simp
    go_at_call 20
    (with_reducible refine (Hcall.out _ (show Later w1 _ by repeat (first | (with_reducible exact Later.refl _) | (with_reducible apply Later.drew) | (with_reducible apply Later.drewN) | (with_reducible apply Later.alloc) | (with_reducible refine Later.call ?_ (by assumption))))).mono ?_)
    rintro e wf ⟨S3, c3, C3, d3, rfl, hne, hof, hbf⟩
    have hlf : Later w1 wf := Later.trans (show Later w1 (World.drew w1) by repeat (first | (with_reducible exact Later.refl _) | (with_reducible apply Later.drew) | (with_reducible apply Later.drewN) | (with_reducible apply Later.alloc) | (with_reducible refine Later.call ?_ (by assumption)))) hbf
    have hzf := hlf.blk Hz.out
    have c0' := hzf.cell 0
    have c1' := hzf.cell 1
    have f0' := hzf.frozen 0
    have f1' := hzf.frozen 1
    simp at c0' c1'
    have Hne := Lib.hid hne
    have Hof := Lib.hid hof
    have Hzf := Lib.hid hzf
    have Hlf := Lib.hid hlf
    clear hne hof hzf hlf
    try go_wp2_with fail
    refine hK.out _ _ ?_ (fun hHeld => ?_)
    · (try dsimp only); (first | (with_reducible exact ⟨q1, q2, q3, q4, q5⟩) | exact ⟨Later.cell (show Later w1 _ by repeat (first | (with_reducible exact Later.refl _) | (with_reducible apply Later.drew) | (with_reducible apply Later.drewN) | (with_reducible apply Later.alloc) | (with_reducible refine Later.call ?_ (by assumption)))) q1, Later.cell (show Later w1 _ by repeat (first | (with_reducible exact Later.refl _) | (with_reducible apply Later.drew) | (with_reducible apply Later.drewN) | (with_reducible apply Later.alloc) | (with_reducible refine Later.call ?_ (by assumption)))) q2, Later.cell (show Later w1 _ by repeat (first | (with_reducible exact Later.refl _) | (with_reducible apply Later.drew) | (with_reducible apply Later.drewN) | (with_reducible apply Later.alloc) | (with_reducible refine Later.call ?_ (by assumption)))) q3, Later.cell (show Later w1 _ by repeat (first | (with_reducible exact Later.refl _) | (with_reducible apply Later.drew) | (with_reducible apply Later.drewN) | (with_reducible apply Later.alloc) | (with_reducible refine Later.call ?_ (by assumption)))) q4, Later.cell (show Later w1 _ by repeat (first | (with_reducible exact Later.refl _) | (with_reducible apply Later.drew) | (with_reducible apply Later.drewN) | (with_reducible apply Later.alloc) | (with_reducible refine Later.call ?_ (by assumption)))) q5⟩)
    clear hK K
    try simp only [List.getElem_toArray, List.getElem_cons_succ, List.getElem_cons_zero, Act.put, List.setIfInBounds_toArray, List.set_cons_zero, List.set_cons_succ]
    refine wpAnyH_take (i := 9) (oi := _) (v := ?mv68) rfl (by kernel_rfl) (by kernel_rfl) (by kernel_rfl) (fun _ _ _ h => h) (Or.inl ⟨by rfl, ?my68⟩) (by assumption) ?mr68
    case my68 => (simp only [List.getElem_toArray, List.getElem_cons_succ, List.getElem_cons_zero]; intro w hSw; (try dsimp only at hSw); go_simp; first | done | with_reducible rfl)
    try simp only [List.getElem_toArray, List.getElem_cons_succ, List.getElem_cons_zero, Act.put, List.setIfInBounds_toArray, List.set_cons_zero, List.set_cons_succ]
    refine wpAnyH_take (i := 10) (oi := _) (v := ?mv69) rfl (by kernel_rfl) (by kernel_rfl) (by kernel_rfl) (fun _ _ _ h => h) (Or.inl ⟨by rfl, ?my69⟩) (by assumption) ?mr69
    case my69 => (simp only [List.getElem_toArray, List.getElem_cons_succ, List.getElem_cons_zero]; intro w hSw; (try dsimp only at hSw); go_simp; first | done | with_reducible rfl)
    try simp only [List.getElem_toArray, List.getElem_cons_succ, List.getElem_cons_zero, Act.put, List.setIfInBounds_toArray, List.set_cons_zero, List.set_cons_succ]
    refine wpAnyH_ready (rs := [11]) (by kernel_rfl) (by simp) ?_
    refine AllReadyH.cons (o := _) rfl (fun K hK => ?_) AllReadyH.nil
    simp only [List.getElem_toArray, List.getElem_cons_succ, List.getElem_cons_zero]
    go_simp
    refine hK.out _ _ ?_ (fun hHeld => ?_)
    · (try dsimp only); (refine ⟨?_, ?_, ?_, ?_, ?_⟩ <;> (repeat (refine cell_setfar ?_ (by first | omega | (simp; done) | (simp; omega)))) <;> (refine Later.cell (show Later w1 _ by repeat (first | (with_reducible exact Later.refl _) | (with_reducible apply Later.drew) | (with_reducible apply Later.drewN) | (with_reducible apply Later.alloc) | (with_reducible refine Later.call ?_ (by assumption)))) ?_) <;> assumption)
    clear hK K
    try simp only [List.getElem_toArray, List.getElem_cons_succ, List.getElem_cons_zero, Act.put, List.setIfInBounds_toArray, List.set_cons_zero, List.set_cons_succ]
    refine wpAnyH_take (i := 12) (oi := _) (v := ?mv71) rfl (by kernel_rfl) (by kernel_rfl) (by kernel_rfl) (fun _ _ _ h => h) (Or.inl ⟨by rfl, ?my71⟩) (by assumption) ?mr71
    case my71 => (simp only [List.getElem_toArray, List.getElem_cons_succ, List.getElem_cons_zero]; intro w hSw; (try dsimp only at hSw); go_simp; first | done | with_reducible rfl)
    try simp only [List.getElem_toArray, List.getElem_cons_succ, List.getElem_cons_zero, Act.put, List.setIfInBounds_toArray, List.set_cons_zero, List.set_cons_succ]
    refine wpAnyH_done (by kernel_rfl) ?_ _
    refine NoPanic.normal ?_
    have hz4 := (Hzf.out.set_ 0 (.slice S3 R.1.s.length c3)).set_ 1 (.slice C3 R.1.c.length d3)
    have e0 := hz4.cell 0
    have e1 := hz4.cell 1
    simp at e0 e1
    have Hz4 := Lib.hid hz4
    clear hz4
    go_wp2_with fail
    refine bodyPost_ret (v := .tuple #[.agg #[.slice S3 R.1.s.length c3, .slice C3 R.1.c.length d3], .int .i64 R.2]) (by simp [results, Try.results8, go_sem, e0, e1]) rfl ?_
    rw [HE.out]
    exact gop_fin Hne.out Hof.out (HH.out.trans Hlf.out) Hzf.out (by simp) (by have := HH.out.size; simp; omega)
  · have hR0 : Ly.lay o p x = Ly.join o.side x := Ly.lay13 hk
    have hno : (Ly.join o.side x).2 ≠ 0 → (Ly.join o.side x).1 = Ly.none_ := Ly.join_none
    have hun := (Ly.counts_ok hc)
    unfold Od.least Od.most Od.params at hun
    have hpl : p.length = 0 := by have := hun.1; have h3 := hun.2.2.2; rw [if_pos this] at h3; simp [hk] at h3; omega
    clear hun hc
    have hcall := fun (W : World) (h : Later w1 W) => calls_goU (move_join o.side X cx x W lX kX mX (HX.out.later (HH.out.trans h))) hno
    obtain ⟨R, hR⟩ : ∃ R, Ly.join o.side x = R := ⟨_, rfl⟩
    rw [hR] at hcall
    rw [hR] at hR0
    have HE := Lib.hid (hg0.trans hR0)
    clear hno
    have q1 : w1.cell? ⟨w.heap.size, 9, none⟩ = some (.slice X x.length cx) := by rw [Hkz.out.cell]; rfl
    have q2 : w1.cell? ⟨w.heap.size + 2, 4, none⟩ = some (.int .i64 o.side) := by rw [Hko.out.cell]; rfl
    have x0 : w1.cell? ⟨w.heap.size + 2, 0, none⟩ = some (.int .i64 13) := by rw [Hko.out.cell, ← hk]; rfl
    have Hcall := Lib.hid hcall
    have HR := Lib.hid hR
    clear hcall hR hR0
    go_wp2_with fail
    refine (Hcall.out _ (Later.refl _)).mono ?_
    rintro e wf ⟨S3, c3, C3, d3, rfl, hne, hof, hbf⟩
    have hlf : Later w1 wf := hbf
    have hzf := hlf.blk Hz.out
    have c0' := hzf.cell 0
    have c1' := hzf.cell 1
    have f0' := hzf.frozen 0
    have f1' := hzf.frozen 1
    simp at c0' c1'
    have Hne := Lib.hid hne
    have Hof := Lib.hid hof
    have Hzf := Lib.hid hzf
    have Hlf := Lib.hid hlf
    clear hne hof hzf hlf
    have hz4 := (Hzf.out.set_ 0 (.slice S3 R.1.s.length c3)).set_ 1 (.slice C3 R.1.c.length d3)
    have e0 := hz4.cell 0
    have e1 := hz4.cell 1
    simp at e0 e1
    have Hz4 := Lib.hid hz4
    clear hz4
    go_wp2_with fail
    refine bodyPost_ret (v := .tuple #[.agg #[.slice S3 R.1.s.length c3, .slice C3 R.1.c.length d3], .int .i64 R.2]) (by simp [results, Try.results8, go_sem, e0, e1]) rfl ?_
    rw [HE.out]
    exact gop_fin Hne.out Hof.out (HH.out.trans Hlf.out) Hzf.out (by simp) (by have := HH.out.size; simp; omega)
  · have hR0 : Ly.lay o p x = Ly.cut (Ly.got x 0) o.side o.frm o.to := Ly.lay14 hk
    have hno : (Ly.cut (Ly.got x 0) o.side o.frm o.to).2 ≠ 0 → (Ly.cut (Ly.got x 0) o.side o.frm o.to).1 = Ly.none_ := Ly.cut_none
    have hun := (Ly.counts_ok hc)
    unfold Od.least Od.most Od.params at hun
    have hpl : p.length = 0 := by have := hun.1; have h3 := hun.2.2.2; rw [if_pos this] at h3; simp [hk] at h3; omega
    have hxl : x.length = 1 := by have := hun.1; have h1 := hun.2.1; have h2 := hun.2.2.1; rw [if_pos this] at h1 h2; simp [hk] at h1 h2; omega
    clear hun hc
    obtain ⟨bx, xo, S2, c2, C2, d2, rfl, lbx, x00, x01, hT2⟩ := HX.out.at_ (j := 0) (by omega)
    have hcall := fun (W : World) (h : Later w1 W) => calls_goU (move_cut S2 C2 c2 d2 (Ly.got x 0) o.side o.frm o.to W (hT2.later (HH.out.trans h))) hno
    obtain ⟨R, hR⟩ : ∃ R, Ly.cut (Ly.got x 0) o.side o.frm o.to = R := ⟨_, rfl⟩
    rw [hR] at hcall
    rw [hR] at hR0
    have HE := Lib.hid (hg0.trans hR0)
    clear hno
    have q1 : w1.cell? ⟨bx, xo, none⟩ = some (.slice S2 (Ly.got x 0).s.length c2) := HH.out.cell (by simpa using x00)
    have q2 : w1.cell? ⟨bx, xo + 1, none⟩ = some (.slice C2 (Ly.got x 0).c.length d2) := HH.out.cell (by simpa using x01)
    have q3 : w1.cell? ⟨w.heap.size, 9, none⟩ = some (.slice (some ⟨bx, xo, none⟩) 1 cx) := by rw [Hkz.out.cell, ← hxl]; rfl
    have q4 : w1.cell? ⟨w.heap.size + 2, 4, none⟩ = some (.int .i64 o.side) := by rw [Hko.out.cell]; rfl
    have q5 : w1.cell? ⟨w.heap.size + 2, 5, none⟩ = some (.int .i64 o.frm) := by rw [Hko.out.cell]; rfl
    have q6 : w1.cell? ⟨w.heap.size + 2, 6, none⟩ = some (.int .i64 o.to) := by rw [Hko.out.cell]; rfl
    have x0 : w1.cell? ⟨w.heap.size + 2, 0, none⟩ = some (.int .i64 14) := by rw [Hko.out.cell, ← hk]; rfl
    have Hcall := Lib.hid hcall
    have HR := Lib.hid hR
    clear hcall hR hR0 hT2
    have lx1 : bx < w1.heap.size := Nat.lt_of_lt_of_le lbx HH.out.size
    go_upto_region 16 with fail
    clear x0 hk
    refine wp_region_noPanic ?_
    refine wp_region_held_drew (S := fun X => X.cell? ⟨bx, xo, none⟩ = some (.slice S2 (Ly.got x 0).s.length c2) ∧ X.cell? ⟨bx, xo + 1, none⟩ = some (.slice C2 (Ly.got x 0).c.length d2) ∧ X.cell? ⟨w.heap.size, 9, none⟩ = some (.slice (some ⟨bx, xo, none⟩) 1 cx) ∧ X.cell? ⟨w.heap.size + 2, 4, none⟩ = some (.int .i64 o.side) ∧ X.cell? ⟨w.heap.size + 2, 5, none⟩ = some (.int .i64 o.frm) ∧ X.cell? ⟨w.heap.size + 2, 6, none⟩ = some (.int .i64 o.to)) (by kernel_rfl) ?_ (fun hHeld => ?_)
    · (try dsimp only); (first | (with_reducible exact ⟨q1, q2, q3, q4, q5, q6⟩) | exact ⟨Later.cell (show Later w1 _ by repeat (first | (with_reducible exact Later.refl _) | (with_reducible apply Later.drew) | (with_reducible apply Later.drewN) | (with_reducible apply Later.alloc) | (with_reducible refine Later.call ?_ (by assumption)))) q1, Later.cell (show Later w1 _ by repeat (first | (with_reducible exact Later.refl _) | (with_reducible apply Later.drew) | (with_reducible apply Later.drewN) | (with_reducible apply Later.alloc) | (with_reducible refine Later.call ?_ (by assumption)))) q2, Later.cell (show Later w1 _ by repeat (first | (with_reducible exact Later.refl _) | (with_reducible apply Later.drew) | (with_reducible apply Later.drewN) | (with_reducible apply Later.alloc) | (with_reducible refine Later.call ?_ (by assumption)))) q3, Later.cell (show Later w1 _ by repeat (first | (with_reducible exact Later.refl _) | (with_reducible apply Later.drew) | (with_reducible apply Later.drewN) | (with_reducible apply Later.alloc) | (with_reducible refine Later.call ?_ (by assumption)))) q4, Later.cell (show Later w1 _ by repeat (first | (with_reducible exact Later.refl _) | (with_reducible apply Later.drew) | (with_reducible apply Later.drewN) | (with_reducible apply Later.alloc) | (with_reducible refine Later.call ?_ (by assumption)))) q5, Later.cell (show Later w1 _ by repeat (first | (with_reducible exact Later.refl _) | (with_reducible apply Later.drew) | (with_reducible apply Later.drewN) | (with_reducible apply Later.alloc) | (with_reducible refine Later.call ?_ (by assumption)))) q6⟩)
    refine wpAnyH_take (i := 0) (oi := _) (v := ?mv72) rfl (by kernel_rfl) (by kernel_rfl) (by kernel_rfl) (fun _ _ _ h => h) (Or.inl ⟨by rfl, ?my72⟩) (by assumption) ?mr72
    case my72 => (simp only [List.getElem_toArray, List.getElem_cons_zero]; intro w hSw; (try dsimp only at hSw); go_simp; first | done | with_reducible rfl)
    try simp only [List.getElem_toArray, List.getElem_cons_zero, Act.put, List.setIfInBounds_toArray, List.set_cons_zero, List.set_cons_succ]
    refine wpAnyH_take (i := 1) (oi := _) (v := ?mv73) rfl (by kernel_rfl) (by kernel_rfl) (by kernel_rfl) (fun _ _ _ h => h) (Or.inl ⟨by rfl, ?my73⟩) (by assumption) ?mr73
    case my73 => (simp only [List.getElem_toArray, List.getElem_cons_succ, List.getElem_cons_zero]; intro w hSw; (try dsimp only at hSw); go_simp; first | done | with_reducible rfl)
    try simp only [List.getElem_toArray, List.getElem_cons_succ, List.getElem_cons_zero, Act.put, List.setIfInBounds_toArray, List.set_cons_zero, List.set_cons_succ]
    refine wpAnyH_take (i := 2) (oi := _) (v := ?mv74) rfl (by kernel_rfl) (by kernel_rfl) (by kernel_rfl) (fun _ _ _ h => h) (Or.inl ⟨by rfl, ?my74⟩) (by assumption) ?mr74
    case my74 => (simp only [List.getElem_toArray, List.getElem_cons_succ, List.getElem_cons_zero]; intro w hSw; (try dsimp only at hSw); go_simp; first | done | with_reducible rfl)
    try simp only [List.getElem_toArray, List.getElem_cons_succ, List.getElem_cons_zero, Act.put, List.setIfInBounds_toArray, List.set_cons_zero, List.set_cons_succ]
    refine wpAnyH_take (i := 3) (oi := _) (v := ?mv75) rfl (by kernel_rfl) (by kernel_rfl) (by kernel_rfl) (fun _ _ _ h => h) (Or.inl ⟨by rfl, ?my75⟩) (by assumption) ?mr75
    case my75 => (simp only [List.getElem_toArray, List.getElem_cons_succ, List.getElem_cons_zero]; intro w hSw; (try dsimp only at hSw); go_simp; first | done | with_reducible rfl)
    try simp only [List.getElem_toArray, List.getElem_cons_succ, List.getElem_cons_zero, Act.put, List.setIfInBounds_toArray, List.set_cons_zero, List.set_cons_succ]
    refine wpAnyH_take (i := 4) (oi := _) (v := ?mv76) rfl (by kernel_rfl) (by kernel_rfl) (by kernel_rfl) (fun _ _ _ h => h) (Or.inl ⟨by rfl, ?my76⟩) (by assumption) ?mr76
    case my76 => (simp only [List.getElem_toArray, List.getElem_cons_succ, List.getElem_cons_zero]; intro w hSw; (try dsimp only at hSw); go_simp; first | done | with_reducible rfl)
    try simp only [List.getElem_toArray, List.getElem_cons_succ, List.getElem_cons_zero, Act.put, List.setIfInBounds_toArray, List.set_cons_zero, List.set_cons_succ]
    refine wpAnyH_take (i := 5) (oi := _) (v := ?mv77) rfl (by kernel_rfl) (by kernel_rfl) (by kernel_rfl) (fun _ _ _ h => h) (Or.inl ⟨by rfl, ?my77⟩) (by assumption) ?mr77
    case my77 => (simp only [List.getElem_toArray, List.getElem_cons_succ, List.getElem_cons_zero]; intro w hSw; (try dsimp only at hSw); go_simp; first | done | with_reducible rfl)
    try simp only [List.getElem_toArray, List.getElem_cons_succ, List.getElem_cons_zero, Act.put, List.setIfInBounds_toArray, List.set_cons_zero, List.set_cons_succ]
    refine wpAnyH_take (i := 6) (oi := _) (v := ?mv78) rfl (by kernel_rfl) (by kernel_rfl) (by kernel_rfl) (fun _ _ _ h => h) (Or.inl ⟨by rfl, ?my78⟩) (by assumption) ?mr78
    case my78 => (simp only [List.getElem_toArray, List.getElem_cons_succ, List.getElem_cons_zero]; intro w hSw; (try dsimp only at hSw); go_simp; first | done | with_reducible rfl)
    try simp only [List.getElem_toArray, List.getElem_cons_succ, List.getElem_cons_zero, Act.put, List.setIfInBounds_toArray, List.set_cons_zero, List.set_cons_succ]
    refine wpAnyH_take (i := 7) (oi := _) (v := ?mv79) rfl (by kernel_rfl) (by kernel_rfl) (by kernel_rfl) (fun _ _ _ h => h) (Or.inl ⟨by rfl, ?my79⟩) (by assumption) ?mr79
    case my79 => (simp only [List.getElem_toArray, List.getElem_cons_succ, List.getElem_cons_zero]; intro w hSw; (try dsimp only at hSw); go_simp; first | done | with_reducible rfl)
    try simp only [List.getElem_toArray, List.getElem_cons_succ, List.getElem_cons_zero, Act.put, List.setIfInBounds_toArray, List.set_cons_zero, List.set_cons_succ]
    refine wpAnyH_take (i := 8) (oi := _) (v := ?mv80) rfl (by kernel_rfl) (by kernel_rfl) (by kernel_rfl) (fun _ _ _ h => h) (Or.inl ⟨by rfl, ?my80⟩) (by assumption) ?mr80
    case my80 => (simp only [List.getElem_toArray, List.getElem_cons_succ, List.getElem_cons_zero]; intro w hSw; (try dsimp only at hSw); go_simp; first | done | with_reducible rfl)
    try simp only [List.getElem_toArray, List.getElem_cons_succ, List.getElem_cons_zero, Act.put, List.setIfInBounds_toArray, List.set_cons_zero, List.set_cons_succ]
    refine wpAnyH_take (i := 9) (oi := _) (v := ?mv81) rfl (by kernel_rfl) (by kernel_rfl) (by kernel_rfl) (fun _ _ _ h => h) (Or.inl ⟨by rfl, ?my81⟩) (by assumption) ?mr81
    case my81 => (simp only [List.getElem_toArray, List.getElem_cons_succ, List.getElem_cons_zero]; intro w hSw; (try dsimp only at hSw); go_simp; first | done | with_reducible rfl)
    try simp only [List.getElem_toArray, List.getElem_cons_succ, List.getElem_cons_zero, Act.put, List.setIfInBounds_toArray, List.set_cons_zero, List.set_cons_succ]
    refine wpAnyH_ready (rs := [10]) (by kernel_rfl) (by simp) ?_
    refine AllReadyH.cons (o := _) rfl (fun K hK => ?_) AllReadyH.nil
    simp only [List.getElem_toArray, List.getElem_cons_succ, List.getElem_cons_zero]
    go_simp
    go_at_call 22
    (with_reducible refine (Hcall.out _ (show Later w1 _ by repeat (first | (with_reducible exact Later.refl _) | (with_reducible apply Later.drew) | (with_reducible apply Later.drewN) | (with_reducible apply Later.alloc) | (with_reducible refine Later.call ?_ (by assumption))))).mono ?_)
    rintro e wf ⟨S3, c3, C3, d3, rfl, hne, hof, hbf⟩
    have hlf : Later w1 wf := Later.trans (show Later w1 (World.drew w1) by repeat (first | (with_reducible exact Later.refl _) | (with_reducible apply Later.drew) | (with_reducible apply Later.drewN) | (with_reducible apply Later.alloc) | (with_reducible refine Later.call ?_ (by assumption)))) hbf
    have hzf := hlf.blk Hz.out
    have c0' := hzf.cell 0
    have c1' := hzf.cell 1
    have f0' := hzf.frozen 0
    have f1' := hzf.frozen 1
    simp at c0' c1'
    have Hne := Lib.hid hne
    have Hof := Lib.hid hof
    have Hzf := Lib.hid hzf
    have Hlf := Lib.hid hlf
    clear hne hof hzf hlf
    try go_wp2_with fail
    refine hK.out _ _ ?_ (fun hHeld => ?_)
    · (try dsimp only); (first | (with_reducible exact ⟨q1, q2, q3, q4, q5, q6⟩) | exact ⟨Later.cell (show Later w1 _ by repeat (first | (with_reducible exact Later.refl _) | (with_reducible apply Later.drew) | (with_reducible apply Later.drewN) | (with_reducible apply Later.alloc) | (with_reducible refine Later.call ?_ (by assumption)))) q1, Later.cell (show Later w1 _ by repeat (first | (with_reducible exact Later.refl _) | (with_reducible apply Later.drew) | (with_reducible apply Later.drewN) | (with_reducible apply Later.alloc) | (with_reducible refine Later.call ?_ (by assumption)))) q2, Later.cell (show Later w1 _ by repeat (first | (with_reducible exact Later.refl _) | (with_reducible apply Later.drew) | (with_reducible apply Later.drewN) | (with_reducible apply Later.alloc) | (with_reducible refine Later.call ?_ (by assumption)))) q3, Later.cell (show Later w1 _ by repeat (first | (with_reducible exact Later.refl _) | (with_reducible apply Later.drew) | (with_reducible apply Later.drewN) | (with_reducible apply Later.alloc) | (with_reducible refine Later.call ?_ (by assumption)))) q4, Later.cell (show Later w1 _ by repeat (first | (with_reducible exact Later.refl _) | (with_reducible apply Later.drew) | (with_reducible apply Later.drewN) | (with_reducible apply Later.alloc) | (with_reducible refine Later.call ?_ (by assumption)))) q5, Later.cell (show Later w1 _ by repeat (first | (with_reducible exact Later.refl _) | (with_reducible apply Later.drew) | (with_reducible apply Later.drewN) | (with_reducible apply Later.alloc) | (with_reducible refine Later.call ?_ (by assumption)))) q6⟩)
    clear hK K
    try simp only [List.getElem_toArray, List.getElem_cons_succ, List.getElem_cons_zero, Act.put, List.setIfInBounds_toArray, List.set_cons_zero, List.set_cons_succ]
    refine wpAnyH_take (i := 11) (oi := _) (v := ?mv83) rfl (by kernel_rfl) (by kernel_rfl) (by kernel_rfl) (fun _ _ _ h => h) (Or.inl ⟨by rfl, ?my83⟩) (by assumption) ?mr83
    case my83 => (simp only [List.getElem_toArray, List.getElem_cons_succ, List.getElem_cons_zero]; intro w hSw; (try dsimp only at hSw); go_simp; first | done | with_reducible rfl)
    try simp only [List.getElem_toArray, List.getElem_cons_succ, List.getElem_cons_zero, Act.put, List.setIfInBounds_toArray, List.set_cons_zero, List.set_cons_succ]
    refine wpAnyH_take (i := 12) (oi := _) (v := ?mv84) rfl (by kernel_rfl) (by kernel_rfl) (by kernel_rfl) (fun _ _ _ h => h) (Or.inl ⟨by rfl, ?my84⟩) (by assumption) ?mr84
    case my84 => (simp only [List.getElem_toArray, List.getElem_cons_succ, List.getElem_cons_zero]; intro w hSw; (try dsimp only at hSw); go_simp; first | done | with_reducible rfl)
    try simp only [List.getElem_toArray, List.getElem_cons_succ, List.getElem_cons_zero, Act.put, List.setIfInBounds_toArray, List.set_cons_zero, List.set_cons_succ]
    refine wpAnyH_ready (rs := [13]) (by kernel_rfl) (by simp) ?_
    refine AllReadyH.cons (o := _) rfl (fun K hK => ?_) AllReadyH.nil
    simp only [List.getElem_toArray, List.getElem_cons_succ, List.getElem_cons_zero]
    go_simp
    refine hK.out _ _ ?_ (fun hHeld => ?_)
    · (try dsimp only); (refine ⟨?_, ?_, ?_, ?_, ?_, ?_⟩ <;> (repeat (refine cell_setfar ?_ (by first | omega | (simp; done) | (simp; omega)))) <;> (refine Later.cell (show Later w1 _ by repeat (first | (with_reducible exact Later.refl _) | (with_reducible apply Later.drew) | (with_reducible apply Later.drewN) | (with_reducible apply Later.alloc) | (with_reducible refine Later.call ?_ (by assumption)))) ?_) <;> assumption)
    clear hK K
    try simp only [List.getElem_toArray, List.getElem_cons_succ, List.getElem_cons_zero, Act.put, List.setIfInBounds_toArray, List.set_cons_zero, List.set_cons_succ]
    refine wpAnyH_take (i := 14) (oi := _) (v := ?mv86) rfl (by kernel_rfl) (by kernel_rfl) (by kernel_rfl) (fun _ _ _ h => h) (Or.inl ⟨by rfl, ?my86⟩) (by assumption) ?mr86
    case my86 => (simp only [List.getElem_toArray, List.getElem_cons_succ, List.getElem_cons_zero]; intro w hSw; (try dsimp only at hSw); go_simp; first | done | with_reducible rfl)
    try simp only [List.getElem_toArray, List.getElem_cons_succ, List.getElem_cons_zero, Act.put, List.setIfInBounds_toArray, List.set_cons_zero, List.set_cons_succ]
    refine wpAnyH_done (by kernel_rfl) ?_ _
    refine NoPanic.normal ?_
    have hz4 := (Hzf.out.set_ 0 (.slice S3 R.1.s.length c3)).set_ 1 (.slice C3 R.1.c.length d3)
    have e0 := hz4.cell 0
    have e1 := hz4.cell 1
    simp at e0 e1
    have Hz4 := Lib.hid hz4
    clear hz4
    go_wp2_with fail
    refine bodyPost_ret (v := .tuple #[.agg #[.slice S3 R.1.s.length c3, .slice C3 R.1.c.length d3], .int .i64 R.2]) (by simp [results, Try.results8, go_sem, e0, e1]) rfl ?_
    rw [HE.out]
    exact gop_fin Hne.out Hof.out (HH.out.trans Hlf.out) Hzf.out (by simp) (by have := HH.out.size; simp; omega)
  · have hR0 : Ly.lay o p x = Ly.turn (Ly.got x 0) o.s := Ly.lay15 hk
    have hno : (Ly.turn (Ly.got x 0) o.s).2 ≠ 0 → (Ly.turn (Ly.got x 0) o.s).1 = Ly.none_ := Ly.turn_none
    have hun := (Ly.counts_ok hc)
    unfold Od.least Od.most Od.params at hun
    have hpl : p.length = 0 := by have := hun.1; have h3 := hun.2.2.2; rw [if_pos this] at h3; simp [hk] at h3; omega
    have hxl : x.length = 1 := by have := hun.1; have h1 := hun.2.1; have h2 := hun.2.2.1; rw [if_pos this] at h1 h2; simp [hk] at h1 h2; omega
    clear hun hc
    obtain ⟨bx, xo, S2, c2, C2, d2, rfl, lbx, x00, x01, hT2⟩ := HX.out.at_ (j := 0) (by omega)
    have hcall := fun (W : World) (h : Later w1 W) => calls_goU (move_turn S2 C2 S c2 d2 c (Ly.got x 0) o.s W (hT2.later (HH.out.trans h)) (HI.out.below (HH.out.trans h) (Nat.le_refl _)) ho) hno
    obtain ⟨R, hR⟩ : ∃ R, Ly.turn (Ly.got x 0) o.s = R := ⟨_, rfl⟩
    rw [hR] at hcall
    rw [hR] at hR0
    have HE := Lib.hid (hg0.trans hR0)
    clear hno
    have q1 : w1.cell? ⟨bx, xo, none⟩ = some (.slice S2 (Ly.got x 0).s.length c2) := HH.out.cell (by simpa using x00)
    have q2 : w1.cell? ⟨bx, xo + 1, none⟩ = some (.slice C2 (Ly.got x 0).c.length d2) := HH.out.cell (by simpa using x01)
    have q3 : w1.cell? ⟨w.heap.size, 9, none⟩ = some (.slice (some ⟨bx, xo, none⟩) 1 cx) := by rw [Hkz.out.cell, ← hxl]; rfl
    have q4 : w1.cell? ⟨w.heap.size + 2, 7, none⟩ = some (.slice S o.s.length c) := by rw [Hko.out.cell]; rfl
    have x0 : w1.cell? ⟨w.heap.size + 2, 0, none⟩ = some (.int .i64 15) := by rw [Hko.out.cell, ← hk]; rfl
    have Hcall := Lib.hid hcall
    have HR := Lib.hid hR
    clear hcall hR hR0 hT2
    have lx1 : bx < w1.heap.size := Nat.lt_of_lt_of_le lbx HH.out.size
    go_upto_region 18 with fail
    clear x0 hk
    refine wp_region_noPanic ?_
    refine wp_region_held_drew (S := fun X => X.cell? ⟨bx, xo, none⟩ = some (.slice S2 (Ly.got x 0).s.length c2) ∧ X.cell? ⟨bx, xo + 1, none⟩ = some (.slice C2 (Ly.got x 0).c.length d2) ∧ X.cell? ⟨w.heap.size, 9, none⟩ = some (.slice (some ⟨bx, xo, none⟩) 1 cx) ∧ X.cell? ⟨w.heap.size + 2, 7, none⟩ = some (.slice S o.s.length c)) (by kernel_rfl) ?_ (fun hHeld => ?_)
    · (try dsimp only); (first | (with_reducible exact ⟨q1, q2, q3, q4⟩) | exact ⟨Later.cell (show Later w1 _ by repeat (first | (with_reducible exact Later.refl _) | (with_reducible apply Later.drew) | (with_reducible apply Later.drewN) | (with_reducible apply Later.alloc) | (with_reducible refine Later.call ?_ (by assumption)))) q1, Later.cell (show Later w1 _ by repeat (first | (with_reducible exact Later.refl _) | (with_reducible apply Later.drew) | (with_reducible apply Later.drewN) | (with_reducible apply Later.alloc) | (with_reducible refine Later.call ?_ (by assumption)))) q2, Later.cell (show Later w1 _ by repeat (first | (with_reducible exact Later.refl _) | (with_reducible apply Later.drew) | (with_reducible apply Later.drewN) | (with_reducible apply Later.alloc) | (with_reducible refine Later.call ?_ (by assumption)))) q3, Later.cell (show Later w1 _ by repeat (first | (with_reducible exact Later.refl _) | (with_reducible apply Later.drew) | (with_reducible apply Later.drewN) | (with_reducible apply Later.alloc) | (with_reducible refine Later.call ?_ (by assumption)))) q4⟩)
    refine wpAnyH_take (i := 0) (oi := _) (v := ?mv87) rfl (by kernel_rfl) (by kernel_rfl) (by kernel_rfl) (fun _ _ _ h => h) (Or.inl ⟨by rfl, ?my87⟩) (by assumption) ?mr87
    case my87 => (simp only [List.getElem_toArray, List.getElem_cons_zero]; intro w hSw; (try dsimp only at hSw); go_simp; first | done | with_reducible rfl)
    try simp only [List.getElem_toArray, List.getElem_cons_zero, Act.put, List.setIfInBounds_toArray, List.set_cons_zero, List.set_cons_succ]
    refine wpAnyH_take (i := 1) (oi := _) (v := ?mv88) rfl (by kernel_rfl) (by kernel_rfl) (by kernel_rfl) (fun _ _ _ h => h) (Or.inl ⟨by rfl, ?my88⟩) (by assumption) ?mr88
    case my88 => (simp only [List.getElem_toArray, List.getElem_cons_succ, List.getElem_cons_zero]; intro w hSw; (try dsimp only at hSw); go_simp; first | done | with_reducible rfl)
    try simp only [List.getElem_toArray, List.getElem_cons_succ, List.getElem_cons_zero, Act.put, List.setIfInBounds_toArray, List.set_cons_zero, List.set_cons_succ]
    refine wpAnyH_take (i := 2) (oi := _) (v := ?mv89) rfl (by kernel_rfl) (by kernel_rfl) (by kernel_rfl) (fun _ _ _ h => h) (Or.inl ⟨by rfl, ?my89⟩) (by assumption) ?mr89
    case my89 => (simp only [List.getElem_toArray, List.getElem_cons_succ, List.getElem_cons_zero]; intro w hSw; (try dsimp only at hSw); go_simp; first | done | with_reducible rfl)
    try simp only [List.getElem_toArray, List.getElem_cons_succ, List.getElem_cons_zero, Act.put, List.setIfInBounds_toArray, List.set_cons_zero, List.set_cons_succ]
    refine wpAnyH_take (i := 3) (oi := _) (v := ?mv90) rfl (by kernel_rfl) (by kernel_rfl) (by kernel_rfl) (fun _ _ _ h => h) (Or.inl ⟨by rfl, ?my90⟩) (by assumption) ?mr90
    case my90 => (simp only [List.getElem_toArray, List.getElem_cons_succ, List.getElem_cons_zero]; intro w hSw; (try dsimp only at hSw); go_simp; first | done | with_reducible rfl)
    try simp only [List.getElem_toArray, List.getElem_cons_succ, List.getElem_cons_zero, Act.put, List.setIfInBounds_toArray, List.set_cons_zero, List.set_cons_succ]
    refine wpAnyH_take (i := 4) (oi := _) (v := ?mv91) rfl (by kernel_rfl) (by kernel_rfl) (by kernel_rfl) (fun _ _ _ h => h) (Or.inl ⟨by rfl, ?my91⟩) (by assumption) ?mr91
    case my91 => (simp only [List.getElem_toArray, List.getElem_cons_succ, List.getElem_cons_zero]; intro w hSw; (try dsimp only at hSw); go_simp; first | done | with_reducible rfl)
    try simp only [List.getElem_toArray, List.getElem_cons_succ, List.getElem_cons_zero, Act.put, List.setIfInBounds_toArray, List.set_cons_zero, List.set_cons_succ]
    refine wpAnyH_take (i := 5) (oi := _) (v := ?mv92) rfl (by kernel_rfl) (by kernel_rfl) (by kernel_rfl) (fun _ _ _ h => h) (Or.inl ⟨by rfl, ?my92⟩) (by assumption) ?mr92
    case my92 => (simp only [List.getElem_toArray, List.getElem_cons_succ, List.getElem_cons_zero]; intro w hSw; (try dsimp only at hSw); go_simp; first | done | with_reducible rfl)
    try simp only [List.getElem_toArray, List.getElem_cons_succ, List.getElem_cons_zero, Act.put, List.setIfInBounds_toArray, List.set_cons_zero, List.set_cons_succ]
    refine wpAnyH_ready (rs := [6]) (by kernel_rfl) (by simp) ?_
    refine AllReadyH.cons (o := _) rfl (fun K hK => ?_) AllReadyH.nil
    simp only [List.getElem_toArray, List.getElem_cons_succ, List.getElem_cons_zero]
    go_simp
    go_at_call 23
    (with_reducible refine (Hcall.out _ (show Later w1 _ by repeat (first | (with_reducible exact Later.refl _) | (with_reducible apply Later.drew) | (with_reducible apply Later.drewN) | (with_reducible apply Later.alloc) | (with_reducible refine Later.call ?_ (by assumption))))).mono ?_)
    rintro e wf ⟨S3, c3, C3, d3, rfl, hne, hof, hbf⟩
    have hlf : Later w1 wf := Later.trans (show Later w1 (World.drew w1) by repeat (first | (with_reducible exact Later.refl _) | (with_reducible apply Later.drew) | (with_reducible apply Later.drewN) | (with_reducible apply Later.alloc) | (with_reducible refine Later.call ?_ (by assumption)))) hbf
    have hzf := hlf.blk Hz.out
    have c0' := hzf.cell 0
    have c1' := hzf.cell 1
    have f0' := hzf.frozen 0
    have f1' := hzf.frozen 1
    simp at c0' c1'
    have Hne := Lib.hid hne
    have Hof := Lib.hid hof
    have Hzf := Lib.hid hzf
    have Hlf := Lib.hid hlf
    clear hne hof hzf hlf
    try go_wp2_with fail
    refine hK.out _ _ ?_ (fun hHeld => ?_)
    · (try dsimp only); (first | (with_reducible exact ⟨q1, q2, q3, q4⟩) | exact ⟨Later.cell (show Later w1 _ by repeat (first | (with_reducible exact Later.refl _) | (with_reducible apply Later.drew) | (with_reducible apply Later.drewN) | (with_reducible apply Later.alloc) | (with_reducible refine Later.call ?_ (by assumption)))) q1, Later.cell (show Later w1 _ by repeat (first | (with_reducible exact Later.refl _) | (with_reducible apply Later.drew) | (with_reducible apply Later.drewN) | (with_reducible apply Later.alloc) | (with_reducible refine Later.call ?_ (by assumption)))) q2, Later.cell (show Later w1 _ by repeat (first | (with_reducible exact Later.refl _) | (with_reducible apply Later.drew) | (with_reducible apply Later.drewN) | (with_reducible apply Later.alloc) | (with_reducible refine Later.call ?_ (by assumption)))) q3, Later.cell (show Later w1 _ by repeat (first | (with_reducible exact Later.refl _) | (with_reducible apply Later.drew) | (with_reducible apply Later.drewN) | (with_reducible apply Later.alloc) | (with_reducible refine Later.call ?_ (by assumption)))) q4⟩)
    clear hK K
    try simp only [List.getElem_toArray, List.getElem_cons_succ, List.getElem_cons_zero, Act.put, List.setIfInBounds_toArray, List.set_cons_zero, List.set_cons_succ]
    refine wpAnyH_take (i := 7) (oi := _) (v := ?mv94) rfl (by kernel_rfl) (by kernel_rfl) (by kernel_rfl) (fun _ _ _ h => h) (Or.inl ⟨by rfl, ?my94⟩) (by assumption) ?mr94
    case my94 => (simp only [List.getElem_toArray, List.getElem_cons_succ, List.getElem_cons_zero]; intro w hSw; (try dsimp only at hSw); go_simp; first | done | with_reducible rfl)
    try simp only [List.getElem_toArray, List.getElem_cons_succ, List.getElem_cons_zero, Act.put, List.setIfInBounds_toArray, List.set_cons_zero, List.set_cons_succ]
    refine wpAnyH_take (i := 8) (oi := _) (v := ?mv95) rfl (by kernel_rfl) (by kernel_rfl) (by kernel_rfl) (fun _ _ _ h => h) (Or.inl ⟨by rfl, ?my95⟩) (by assumption) ?mr95
    case my95 => (simp only [List.getElem_toArray, List.getElem_cons_succ, List.getElem_cons_zero]; intro w hSw; (try dsimp only at hSw); go_simp; first | done | with_reducible rfl)
    try simp only [List.getElem_toArray, List.getElem_cons_succ, List.getElem_cons_zero, Act.put, List.setIfInBounds_toArray, List.set_cons_zero, List.set_cons_succ]
    refine wpAnyH_ready (rs := [9]) (by kernel_rfl) (by simp) ?_
    refine AllReadyH.cons (o := _) rfl (fun K hK => ?_) AllReadyH.nil
    simp only [List.getElem_toArray, List.getElem_cons_succ, List.getElem_cons_zero]
    go_simp
    refine hK.out _ _ ?_ (fun hHeld => ?_)
    · (try dsimp only); (refine ⟨?_, ?_, ?_, ?_⟩ <;> (repeat (refine cell_setfar ?_ (by first | omega | (simp; done) | (simp; omega)))) <;> (refine Later.cell (show Later w1 _ by repeat (first | (with_reducible exact Later.refl _) | (with_reducible apply Later.drew) | (with_reducible apply Later.drewN) | (with_reducible apply Later.alloc) | (with_reducible refine Later.call ?_ (by assumption)))) ?_) <;> assumption)
    clear hK K
    try simp only [List.getElem_toArray, List.getElem_cons_succ, List.getElem_cons_zero, Act.put, List.setIfInBounds_toArray, List.set_cons_zero, List.set_cons_succ]
    refine wpAnyH_take (i := 10) (oi := _) (v := ?mv97) rfl (by kernel_rfl) (by kernel_rfl) (by kernel_rfl) (fun _ _ _ h => h) (Or.inl ⟨by rfl, ?my97⟩) (by assumption) ?mr97
    case my97 => (simp only [List.getElem_toArray, List.getElem_cons_succ, List.getElem_cons_zero]; intro w hSw; (try dsimp only at hSw); go_simp; first | done | with_reducible rfl)
    try simp only [List.getElem_toArray, List.getElem_cons_succ, List.getElem_cons_zero, Act.put, List.setIfInBounds_toArray, List.set_cons_zero, List.set_cons_succ]
    refine wpAnyH_done (by kernel_rfl) ?_ _
    refine NoPanic.normal ?_
    have hz4 := (Hzf.out.set_ 0 (.slice S3 R.1.s.length c3)).set_ 1 (.slice C3 R.1.c.length d3)
    have e0 := hz4.cell 0
    have e1 := hz4.cell 1
    simp at e0 e1
    have Hz4 := Lib.hid hz4
    clear hz4
    go_wp2_with fail
    refine bodyPost_ret (v := .tuple #[.agg #[.slice S3 R.1.s.length c3, .slice C3 R.1.c.length d3], .int .i64 R.2]) (by simp [results, Try.results8, go_sem, e0, e1]) rfl ?_
    rw [HE.out]
    exact gop_fin Hne.out Hof.out (HH.out.trans Hlf.out) Hzf.out (by simp) (by have := HH.out.size; simp; omega)
end Go.Proofs.Ytbnnpkcfifejmaa
/- A net of bounded bulk, come in as an argument, opened. -/
namespace Go.Proofs.Ytbnnpkcfifejmaa
open Go.ChangeShapes Go.WideShapes Go.Deep Go.RowKit

section
variable {H : Type} {enc : TypeId × Value → H} {P : Program} {W : World} {base : Nat} {spare : Nat → Bool} {held : Bool}
theorem bulk_one (d : DataW H) : 1 ≤ Rows.uptoBulk d := by
  cases d with
  | lit l => cases l <;> simp [Rows.uptoBulk]
  | nil => simp [Rows.uptoBulk]
  | ptr d => simp [Rows.uptoBulk]
  | slice elems spare => simp [Rows.uptoBulk]
  | agg parts => simp [Rows.uptoBulk]
  | iface t d => simp [Rows.uptoBulk]
  | map entries => simp [Rows.uptoBulk]
  | held h => simp [Rows.uptoBulk]
theorem bulk_part {d : DataW H} {l : List (DataW H)} (h : d ∈ l) : Rows.uptoBulk d ≤ Rows.uptoBulkAll l := by
  induction l with
  | nil => cases h
  | cons x r ih =>
    simp only [Rows.uptoBulkAll]
    cases List.mem_cons.1 h with
    | inl e => subst e; omega
    | inr e => have := ih e; omega
theorem bulk_len (l : List (DataW H)) : l.length ≤ Rows.uptoBulkAll l := by
  induction l with
  | nil => simp [Rows.uptoBulkAll]
  | cons x r ih => have := bulk_one x; simp only [Rows.uptoBulkAll, List.length_cons]; omega
/-- The elements of a slice, and their bulk. -/
theorem slice_bulk {t e : TypeId} {fuel : Nat} {v : Value} {x : DataW H × List MemPlace} (ht : P.underlying t = some (.slice e)) (h : DataW.trod enc P W base spare held fuel t [v] = some x) (hz : Rows.uptoBulk x.1 ≤ 1048576) :
    v = .slice none 0 0 ∨ ∃ a len cap, v = .slice (some a) len cap ∧ len ≤ cap ∧ cap ≤ maxLen ∧ len ≤ 1048576 ∧
      ∀ i, i < len → ∃ cs' m y, W.cells? base (a.add (i * P.cellsOf e)) (P.cellsOf e) = some cs' ∧ DataW.trod enc P W base spare held m e cs' = some y ∧ Rows.uptoBulk y.1 ≤ 1048576 := by
  rcases open_slice ht h with ⟨hcs, _⟩ | ⟨a, len, cap, m, n, D, Pl, hcs, _, hl, hm, hmm, hx, hi⟩
  · simp at hcs; exact .inl hcs
  · simp at hcs; subst hcs
    right
    have hlm : len ≤ m := by rw [hmm]; split <;> omega
    rw [hx] at hz
    simp only [Rows.uptoBulk] at hz
    refine ⟨a, len, cap, rfl, hl, hm, ?_, fun i hil => ?_⟩
    · have := bulk_len ((List.range len).map D)
      simp at this
      omega
    · obtain ⟨cs', h1, h2⟩ := hi i (by omega)
      refine ⟨cs', n, _, h1, h2, ?_⟩
      have := bulk_part (d := D i) (l := (List.range len).map D) (List.mem_map.2 ⟨i, by simpa using hil, rfl⟩)
      show Rows.uptoBulk (D i) ≤ _
      omega
end

theorem int_one' : Try.prog.cellsOf 3 = 1 := by kernel_rfl
theorem shp_one : Try.prog.cellsOf 24 = 1 := by kernel_rfl

/-- A slice of numbers, of whatever name, with its size. -/
theorem nums_open {H : Type} {enc : TypeId × Value → H} {W : World} {base : Nat} {spare : Nat → Bool} {held : Bool} {t : TypeId} {fuel : Nat} {v : Value} {x : DataW H × List MemPlace} (ht : Try.prog.underlying t = some (.slice 3))
    (h : DataW.trod enc Try.prog W base spare held fuel t [v] = some x) (hz : Rows.uptoBulk x.1 ≤ 1048576) :
    ∃ A c zs, v = .slice A zs.length c ∧ Ints .i64 W A zs ∧ zs.length ≤ c ∧ c ≤ 9223372036854775807 ∧ zs.length ≤ 1048576 ∧ ∀ z ∈ zs, -9223372036854775808 ≤ z ∧ z ≤ 9223372036854775807 := by
  obtain ⟨A, c, zs, rfl, hl, hc, hI, hw⟩ := ints_open ht Try.underlying3 int_one' h
  refine ⟨A, c, zs, rfl, hI, hc, ?_, ?_, fun z hz => wf_bd (hw z hz)⟩
  · rcases slice_bulk ht h hz with e | ⟨a, len, cap, e, _, hm, _⟩
    · injection e with _ _ e; omega
    · injection e with _ _ e; unfold maxLen at hm; omega
  · rcases slice_bulk ht h hz with e | ⟨a, len, cap, e, _, _, hb, _⟩
    · injection e with _ e _; rw [e]; exact Nat.zero_le _
    · have e2 : zs.length = len := by simp at e; exact e.2.1
      rw [e2]
      exact hb
theorem one_list {l : List Value} (h : l.length = 1) : ∃ v, l = [v] := by
  match l, h with
  | [v], _ => exact ⟨v, rfl⟩
theorem choose_list {α : Type} [Inhabited α] {n : Nat} {Q : Nat → α → Prop} (h : ∀ i, i < n → ∃ a, Q i a) : ∃ l : List α, l.length = n ∧ ∀ i (hi : i < l.length), Q i l[i] := by
  obtain ⟨f, hf⟩ := @choose_lt α _ _ _ h
  exact ⟨(List.range n).map f, by simp, fun i hi => by simp at hi; simpa using hf i hi⟩
theorem addr_lit {W : World} {a : Addr} {v : Value} (h : W.cell? a = some v) : ∃ b off, a = ⟨b, off, none⟩ := by
  obtain ⟨b, off, spot⟩ := a
  have hs : spot = none := by simpa using World.cell?_spot h
  subst hs
  exact ⟨b, off, rfl⟩
/-- A slice of shapes. -/
theorem shps_open {H : Type} {enc : TypeId × Value → H} {W : World} {base : Nat} {spare : Nat → Bool} {held : Bool} {fuel : Nat} {v : Value} {x : DataW H × List MemPlace}
    (h : DataW.trod enc Try.prog W base spare held fuel 43 [v] = some x) (hz : Rows.uptoBulk x.1 ≤ 1048576) :
    ∃ A c ss, v = .slice A ss.length c ∧ Shps W A ss ∧ ss.length ≤ c ∧ c ≤ 9223372036854775807 ∧ ss.length ≤ 1048576 ∧ ∀ s ∈ ss, s.length ≤ 1048576 ∧ ∀ z ∈ s, -9223372036854775808 ≤ z ∧ z ≤ 9223372036854775807 := by
  rcases slice_bulk Try.underlying43 h hz with rfl | ⟨a, len, cap, rfl, hl, hm, hb, hi⟩
  · exact ⟨none, 0, [], rfl, Shps.nil, by simp, by omega, by simp, by simp⟩
  · rw [shp_one] at hi
    have key : ∀ i, i < len → ∃ q : (List Int) × (Option Addr) × Nat, W.cell? (a.add i) = some (.slice q.2.1 q.1.length q.2.2) ∧ Ints .i64 W q.2.1 q.1 ∧ q.1.length ≤ q.2.2 ∧ q.2.2 ≤ 9223372036854775807 ∧ q.1.length ≤ 1048576 ∧ ∀ z ∈ q.1, -9223372036854775808 ≤ z ∧ z ≤ 9223372036854775807 := fun i hil => by
      obtain ⟨cs', m, y, hc, ht, hw⟩ := hi i hil
      obtain ⟨_, hlen, hat⟩ := World.cells?_some hc
      obtain ⟨v, rfl⟩ := one_list hlen
      obtain ⟨A, c, zs, rfl, h1, h2⟩ := nums_open Try.underlying24 ht hw
      refine ⟨(zs, A, c), ?_, h1, h2⟩
      have := hat 0 (by omega)
      rw [Nat.mul_one] at this
      simpa [Addr.add] using this
    obtain ⟨L, hL, hq⟩ := choose_list key
    refine ⟨some a, cap, L.map (·.1), by simp [hL], fun j hj => ?_, by simpa [hL] using hl, by unfold maxLen at hm; omega, by simp [hL]; exact hb, fun s hs => ?_⟩
    · rw [List.length_map] at hj
      obtain ⟨h1, h2, h3, h4, _⟩ := hq j hj
      obtain ⟨h0, _⟩ := hq 0 (by omega)
      obtain ⟨b, off, rfl⟩ := addr_lit (show W.cell? a = _ by simpa [Addr.add] using h0)
      rw [add_plain'] at h1
      rw [List.getElem_map]
      exact ⟨b, off, _, _, rfl, World.block_lt_of_cell? _ _ h1, h1, h2, h3, h4⟩
    · obtain ⟨q, hqm, rfl⟩ := List.mem_map.1 hs
      obtain ⟨i, hi, rfl⟩ := List.getElem_of_mem hqm
      exact (hq i hi).2.2.2.2

def OpD.inR (o : OpD) : Prop := o.wide ∧ ∀ z ∈ o.s, -9223372036854775808 ≤ z ∧ z ≤ 9223372036854775807
/-- All numbers are an int's, and all rows could be in memory. -/
def NodeD.fits (v : NodeD) : Prop := v.op.wide ∧ v.op.s.length ≤ 1048576 ∧ v.ins.length ≤ 1048576 ∧ v.p.length ≤ 1048576 ∧ (∀ s ∈ v.p, s.length ≤ 1048576) ∧
  (∀ z ∈ v.op.s, -9223372036854775808 ≤ z ∧ z ≤ 9223372036854775807) ∧ (∀ z ∈ v.ins, -9223372036854775808 ≤ z ∧ z ≤ 9223372036854775807) ∧ ∀ s ∈ v.p, ∀ z ∈ s, -9223372036854775808 ≤ z ∧ z ≤ 9223372036854775807
def NetD.fits (n : NetD) : Prop := n.inn.length ≤ 1048576 ∧ n.nodes.length ≤ 1048576 ∧ (∀ z ∈ n.inn, -9223372036854775808 ≤ z ∧ z ≤ 9223372036854775807) ∧ ∀ v ∈ n.nodes, v.fits

theorem op_under : Try.prog.underlying 26 = some (.struct (Try.prog.fieldsOf 26)) := by kernel_rfl
theorem op_eight : (Try.prog.fieldsOf 26).size = 8 := by kernel_rfl
theorem op_types : (Try.prog.fieldsOf 26).toList.map (·.type) = [3, 22, 3, 3, 3, 3, 3, 24] := by kernel_rfl
theorem op_f0 : ((Try.prog.fieldsOf 26)[0]?).map (fun f => (f.type, f.offset, Try.prog.cellsOf f.type)) = some (3, 0, 1) := by kernel_rfl
theorem op_f1 : ((Try.prog.fieldsOf 26)[1]?).map (fun f => (f.type, f.offset, Try.prog.cellsOf f.type)) = some (22, 1, 1) := by kernel_rfl
theorem op_f2 : ((Try.prog.fieldsOf 26)[2]?).map (fun f => (f.type, f.offset, Try.prog.cellsOf f.type)) = some (3, 2, 1) := by kernel_rfl
theorem op_f3 : ((Try.prog.fieldsOf 26)[3]?).map (fun f => (f.type, f.offset, Try.prog.cellsOf f.type)) = some (3, 3, 1) := by kernel_rfl
theorem op_f4 : ((Try.prog.fieldsOf 26)[4]?).map (fun f => (f.type, f.offset, Try.prog.cellsOf f.type)) = some (3, 4, 1) := by kernel_rfl
theorem op_f5 : ((Try.prog.fieldsOf 26)[5]?).map (fun f => (f.type, f.offset, Try.prog.cellsOf f.type)) = some (3, 5, 1) := by kernel_rfl
theorem op_f6 : ((Try.prog.fieldsOf 26)[6]?).map (fun f => (f.type, f.offset, Try.prog.cellsOf f.type)) = some (3, 6, 1) := by kernel_rfl
theorem op_f7 : ((Try.prog.fieldsOf 26)[7]?).map (fun f => (f.type, f.offset, Try.prog.cellsOf f.type)) = some (24, 7, 1) := by kernel_rfl
theorem list3 {α : Type} {l : List α} (h : l.length = 3) : ∃ a b c, l = [a, b, c] := by
  match l, h with
  | [a, b, c], _ => exact ⟨a, b, c, rfl⟩
theorem list8 {α : Type} {l : List α} (h : l.length = 8) : ∃ a b c d e f g i, l = [a, b, c, d, e, f, g, i] := by
  match l, h with
  | [a, b, c, d, e, f, g, i], _ => exact ⟨a, b, c, d, e, f, g, i, rfl⟩
theorem list10 {α : Type} {l : List α} (h : l.length = 10) : ∃ a b c d e f g i j k, l = [a, b, c, d, e, f, g, i, j, k] := by
  match l, h with
  | [a, b, c, d, e, f, g, i, j, k], _ => exact ⟨a, b, c, d, e, f, g, i, j, k, rfl⟩
set_option maxRecDepth 100000 in
/-- An op's cells. -/
theorem op_open {H : Type} {enc : TypeId × Value → H} {W : World} {base : Nat} {spare : Nat → Bool} {held : Bool} {fuel : Nat} {v0 v1 v2 v3 v4 v5 v6 v7 : Value} {x : DataW H × List MemPlace}
    (h : DataW.trod enc Try.prog W base spare held fuel 26 [v0, v1, v2, v3, v4, v5, v6, v7] = some x) (hz : Rows.uptoBulk x.1 ≤ 1048576) :
    ∃ (o : OpD) (S : Option Addr) (c : Nat), v0 = .int .i64 o.kind ∧ v1 = .int .i64 o.k ∧ v2 = .int .i64 o.width ∧ v3 = .int .i64 o.step ∧ v4 = .int .i64 o.side ∧ v5 = .int .i64 o.frm ∧ v6 = .int .i64 o.to ∧ v7 = .slice S o.s.length c ∧
      Ints .i64 W S o.s ∧ o.s.length ≤ c ∧ c ≤ 9223372036854775807 ∧ o.s.length ≤ 1048576 ∧ o.wide ∧ ∀ z ∈ o.s, -9223372036854775808 ≤ z ∧ z ≤ 9223372036854775807 := by
  obtain ⟨ys, n, _, hx, _, hlen, hg⟩ := DataW.trod_struct op_under h
  rw [op_eight] at hlen
  obtain ⟨y0, y1, y2, y3, y4, y5, y6, y7, rfl⟩ := list8 hlen
  rw [hx] at hz
  obtain ⟨f0, e0, t0⟩ := Option.map_eq_some_iff.1 op_f0
  simp only [Prod.mk.injEq] at t0
  have h0 := hg 0 f0 e0
  rw [t0.2.2, t0.2.1, t0.1] at h0
  simp at h0
  obtain ⟨f1, e1, t1⟩ := Option.map_eq_some_iff.1 op_f1
  simp only [Prod.mk.injEq] at t1
  have h1 := hg 1 f1 e1
  rw [t1.2.2, t1.2.1, t1.1] at h1
  simp at h1
  obtain ⟨f2, e2, t2⟩ := Option.map_eq_some_iff.1 op_f2
  simp only [Prod.mk.injEq] at t2
  have h2 := hg 2 f2 e2
  rw [t2.2.2, t2.2.1, t2.1] at h2
  simp at h2
  obtain ⟨f3, e3, t3⟩ := Option.map_eq_some_iff.1 op_f3
  simp only [Prod.mk.injEq] at t3
  have h3 := hg 3 f3 e3
  rw [t3.2.2, t3.2.1, t3.1] at h3
  simp at h3
  obtain ⟨f4, e4, t4⟩ := Option.map_eq_some_iff.1 op_f4
  simp only [Prod.mk.injEq] at t4
  have h4 := hg 4 f4 e4
  rw [t4.2.2, t4.2.1, t4.1] at h4
  simp at h4
  obtain ⟨f5, e5, t5⟩ := Option.map_eq_some_iff.1 op_f5
  simp only [Prod.mk.injEq] at t5
  have h5 := hg 5 f5 e5
  rw [t5.2.2, t5.2.1, t5.1] at h5
  simp at h5
  obtain ⟨f6, e6, t6⟩ := Option.map_eq_some_iff.1 op_f6
  simp only [Prod.mk.injEq] at t6
  have h6 := hg 6 f6 e6
  rw [t6.2.2, t6.2.1, t6.1] at h6
  simp at h6
  obtain ⟨f7, e7, t7⟩ := Option.map_eq_some_iff.1 op_f7
  simp only [Prod.mk.injEq] at t7
  have h7 := hg 7 f7 e7
  rw [t7.2.2, t7.2.1, t7.1] at h7
  simp at h7
  have hz7 : Rows.uptoBulk y7.1 ≤ 1048576 := by simp [Rows.uptoBulk, Rows.uptoBulkAll] at hz; omega
  obtain ⟨x0, q0, _, w0⟩ := DataW.trod_int Try.underlying3 h0
  simp at q0
  subst q0
  obtain ⟨x1, q1, _, w1⟩ := DataW.trod_int Try.underlying22 h1
  simp at q1
  subst q1
  obtain ⟨x2, q2, _, w2⟩ := DataW.trod_int Try.underlying3 h2
  simp at q2
  subst q2
  obtain ⟨x3, q3, _, w3⟩ := DataW.trod_int Try.underlying3 h3
  simp at q3
  subst q3
  obtain ⟨x4, q4, _, w4⟩ := DataW.trod_int Try.underlying3 h4
  simp at q4
  subst q4
  obtain ⟨x5, q5, _, w5⟩ := DataW.trod_int Try.underlying3 h5
  simp at q5
  subst q5
  obtain ⟨x6, q6, _, w6⟩ := DataW.trod_int Try.underlying3 h6
  simp at q6
  subst q6
  obtain ⟨S, c, zs, rfl, hI, h1, h2, h3, h4⟩ := nums_open Try.underlying24 h7 hz7
  refine ⟨⟨x0, x1, x2, x3, x4, x5, x6, zs⟩, S, c, rfl, rfl, rfl, rfl, rfl, rfl, rfl, rfl, hI, h1, h2, h3, fun z hz => ?_, h4⟩
  simp at hz
  rcases hz with rfl | rfl | rfl | rfl | rfl | rfl | rfl
  · exact wf_bd w0
  · exact wf_bd w1
  · exact wf_bd w2
  · exact wf_bd w3
  · exact wf_bd w4
  · exact wf_bd w5
  · exact wf_bd w6

theorem list2 {α : Type} {l : List α} (h : l.length = 2) : ∃ a b, l = [a, b] := by
  match l, h with
  | [a, b], _ => exact ⟨a, b, rfl⟩
theorem NetD.fits.ok {n : NetD} (h : n.fits) : n.ok :=
  ⟨h.1, h.2.1, fun v hv => by
    obtain ⟨h1, h2, h3, h4, h5, h6, h7, h8⟩ := h.2.2.2 v hv
    exact ⟨h1, h2, h3, h4, h5, h7⟩⟩
end Go.Proofs.Ytbnnpkcfifejmaa
