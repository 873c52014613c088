/- Lemmas for the statements of this seat: contracts of functions and the plain laws. -/
import Derived.Test.YtbnnpkcfifejmaaZ09
set_option linter.unusedVariables false
/- Layer 10 (op): Go, for any kind: contract. Printed by gen/opgo.py. -/
namespace Go.Proofs.Ytbnnpkcfifejmaa
open Go.RowKit
theorem gop_fin {r : Ten × Int} {w w1 wf : World} {v u u2 : Value} {p : Nat} {T : TypeId} (hne : r.2 ≠ 0 → v = Value.agg #[.slice none 0 0, .slice none 0 0]) (hok : r.2 = 0 → TenO w1.heap.size wf v r.1) (hL : Later w wf) (hz : Blk wf p T #[.slice none 0 0, .slice none 0 0]) (hp : w.heap.size ≤ p) (hs : w.heap.size ≤ w1.heap.size) :
    GoP r w (.returned (.tuple #[v, .int .i64 r.2])) ((wf.setCell ⟨p, 0, none⟩ u).setCell ⟨p, 1, none⟩ u2) := by
  refine ⟨?_, (hL.set (p := ⟨p, 0, none⟩) hp _).set (p := ⟨p, 1, none⟩) hp _⟩
  by_cases h : r.2 = 0
  · exact .inr ⟨h, v, by rw [h], ((hok h).base hs).box hz⟩
  · exact .inl ⟨h, by rw [hne h]⟩
def case_arr (o : OpD) (S P X GS GC : Option Addr) (c cp cx gc gd : Nat) (p x : List Ten) (g : Ten) : Array Value := #[.int .i64 o.kind, .int .i64 o.k, .int .i64 o.width, .int .i64 o.step, .int .i64 o.side, .int .i64 o.frm, .int .i64 o.to, .slice S o.s.length c, .slice P p.length cp, .slice X x.length cx, .slice GS g.s.length gc, .slice GC g.c.length gd]
set_option maxHeartbeats 8000000 in
set_option maxRecDepth 20000 in
theorem op_go (o : OpD) (S P X : Option Addr) (c cp cx : Nat) (p x : List Ten) (w : World) (ho : o.s.length ≤ 1048576) (hI : Ints .i64 w S o.s) (hk0 : Fx.In o.k) (hP : Tns w P p) (hX : Tns w X x) (lX : x.length ≤ 1048576) (kX : x.length ≤ cx) (mX : cx ≤ 9223372036854775807) :
    Calls Try.prog 6 #[.agg #[.int .i64 o.kind, .int .i64 o.k, .int .i64 o.width, .int .i64 o.step, .int .i64 o.side, .int .i64 o.frm, .int .i64 o.to, .slice S o.s.length c], .slice P p.length cp, .slice X x.length cx] w (GoP (Ly.go o p x) w) := by
  have h01 : Later w ((w.alloc (.cells #[.int .i64 o.kind, .int .i64 o.k, .int .i64 o.width, .int .i64 o.step, .int .i64 o.side, .int .i64 o.frm, .int .i64 o.to, .slice S o.s.length c] 26)).alloc (.cells #[.slice none 0 0, .slice none 0 0] 30)) := ((Later.refl w).alloc _).alloc _
  have hko1 := (Blk.new w 26 #[.int .i64 o.kind, .int .i64 o.k, .int .i64 o.width, .int .i64 o.step, .int .i64 o.side, .int .i64 o.frm, .int .i64 o.to, .slice S o.s.length c]).alloc (.cells #[.slice none 0 0, .slice none 0 0] 30)
  have hz1 := Blk.new (w.alloc (.cells #[.int .i64 o.kind, .int .i64 o.k, .int .i64 o.width, .int .i64 o.step, .int .i64 o.side, .int .i64 o.frm, .int .i64 o.to, .slice S o.s.length c] 26)) 30 #[.slice none 0 0, .slice none 0 0]
  rw [World.size_alloc] at hz1
  have HI := Lib.hid hI
  have HP := Lib.hid hP
  have HX := Lib.hid hX
  have H01 := Lib.hid h01
  have Hko1 := Lib.hid hko1
  have Hz1 := Lib.hid hz1
  clear hI hP hX h01 hko1 hz1
  go_enter Try.func6, Try.ntmps6
  go_wp2_with fail
  generalize (w.alloc (.cells #[.int .i64 o.kind, .int .i64 o.k, .int .i64 o.width, .int .i64 o.step, .int .i64 o.side, .int .i64 o.frm, .int .i64 o.to, .slice S o.s.length c] 26)).alloc (.cells #[.slice none 0 0, .slice none 0 0] 30) = w1 at *
  refine (op_counts o S c p.length x.length w1 (by omega) (HI.out.below H01.out (Nat.le_refl _))).mono ?_
  rintro e w2 ⟨rfl, hb2⟩
  have h12 : Later w1 w2 := hb2
  have hH := H01.out.trans h12
  have hz := h12.blk Hz1.out
  have hko := h12.blk Hko1.out
  clear hb2 h12 H01 Hz1 Hko1
  by_cases hc : Od.counts o p.length x.length = 0
  case neg =>
    have HE := Lib.hid (Ly.go_err hc)
    have Hc := Lib.hid hc
    have d2 : (Od.counts o p.length x.length != 0) = true := by simpa using hc
    clear hc
    generalize Od.counts o p.length x.length = ge at *
    have c0' := hz.cell 0
    have c1' := hz.cell 1
    have f0 := hz.frozen 0
    have f1 := hz.frozen 1
    simp at c0' c1'
    have HH := Lib.hid hH
    have Hz := Lib.hid hz
    have Hko := Lib.hid hko
    clear hH hz hko
    go_wp2_with fail
    refine bodyPost_ret (v := .tuple #[.agg #[.slice none 0 0, .slice none 0 0], .int .i64 ge]) (by simp [results, Try.results6, go_sem, c0', c1']) rfl ?_
    exact GoP.fail HE.out Hc.out ((HH.out.set (p := ⟨w.heap.size + 1, 0, none⟩) (by simp) _).set (p := ⟨w.heap.size + 1, 1, none⟩) (by simp) _)
  have hkr := Od.right_kind (Ly.counts_ok hc).1
  have hg0 : Ly.go o p x = Ly.lay o p x := Ly.go_lay hc
  rw [hc]
  have HH := Lib.hid hH
  have Hz := Lib.hid hz
  have Hko := Lib.hid hko
  clear hH hz hko
  have hcases : o.kind ≤ 7 ∨ o.kind = 8 ∨ o.kind = 9 ∨ o.kind = 10 ∨ o.kind = 11 ∨ o.kind = 12 ∨ o.kind = 13 ∨ o.kind = 14 ∨ o.kind = 15 := by omega
  rcases hcases with hk | hk | hk | hk | hk | hk | hk | hk | hk
  · have hR0 : Ly.lay o p x = Ly.point o.kind o.k x := Ly.lay7 hk
    have hno : (Ly.point o.kind o.k x).2 ≠ 0 → (Ly.point o.kind o.k x).1 = Ly.none_ := Ly.point_none
    have hun := (Ly.counts_ok hc)
    unfold Od.least Od.most Od.params at hun
    clear hun hc
    have hcall := fun (W : World) (h : Later w2 W) => calls_goU (point_go o.kind o.k X cx x W lX (HX.out.later (HH.out.trans h)) hk0) hno
    obtain ⟨R, hR⟩ : ∃ R, Ly.point o.kind o.k x = R := ⟨_, rfl⟩
    rw [hR] at hcall
    rw [hR] at hR0
    have HE := Lib.hid (hg0.trans hR0)
    clear hno
    have q1 : w2.cell? ⟨w.heap.size, 0, none⟩ = some (.int .i64 o.kind) := by rw [Hko.out.cell]; rfl
    have q2 : w2.cell? ⟨w.heap.size, 1, none⟩ = some (.int .i64 o.k) := by rw [Hko.out.cell]; rfl
    have x0 : w2.cell? ⟨w.heap.size, 0, none⟩ = some (.int .i64 o.kind) := by rw [Hko.out.cell]; rfl
    have k8 : (o.kind == 8) = false := by rw [beq_eq_false_iff_ne]; omega
    have k9 : (o.kind == 9) = false := by rw [beq_eq_false_iff_ne]; omega
    have k10 : (o.kind == 10) = false := by rw [beq_eq_false_iff_ne]; omega
    have k11 : (o.kind == 11) = false := by rw [beq_eq_false_iff_ne]; omega
    have k12 : (o.kind == 12) = false := by rw [beq_eq_false_iff_ne]; omega
    have k13 : (o.kind == 13) = false := by rw [beq_eq_false_iff_ne]; omega
    have k14 : (o.kind == 14) = false := by rw [beq_eq_false_iff_ne]; omega
    have k15 : (o.kind == 15) = false := by rw [beq_eq_false_iff_ne]; omega
    have Hcall := Lib.hid hcall
    have HR := Lib.hid hR
    clear hcall hR hR0
    go_wp2_with fail
    refine (Hcall.out _ (Later.refl _)).mono ?_
    rintro e wf ⟨S3, c3, C3, d3, rfl, hne, hof, hbf⟩
    have hlf : Later w2 wf := hbf
    have hzf := hlf.blk Hz.out
    have c0' := hzf.cell 0
    have c1' := hzf.cell 1
    have f0' := hzf.frozen 0
    have f1' := hzf.frozen 1
    simp at c0' c1'
    have Hne := Lib.hid hne
    have Hof := Lib.hid hof
    have Hzf := Lib.hid hzf
    have Hlf := Lib.hid hlf
    clear hne hof hzf hlf
    have hz4 := (Hzf.out.set_ 0 (.slice S3 R.1.s.length c3)).set_ 1 (.slice C3 R.1.c.length d3)
    have e0 := hz4.cell 0
    have e1 := hz4.cell 1
    simp at e0 e1
    have Hz4 := Lib.hid hz4
    clear hz4
    go_wp2_with fail
    refine bodyPost_ret (v := .tuple #[.agg #[.slice S3 R.1.s.length c3, .slice C3 R.1.c.length d3], .int .i64 R.2]) (by simp [results, Try.results6, go_sem, e0, e1]) rfl ?_
    rw [HE.out]
    exact gop_fin Hne.out Hof.out (HH.out.trans Hlf.out) Hzf.out (by simp) (by have := HH.out.size; simp; omega)
  · have hR0 : Ly.lay o p x = Ly.dense (Ly.got p 0) (Ly.got p 1) (Ly.got x 0) := Ly.lay8 hk
    have hno : (Ly.dense (Ly.got p 0) (Ly.got p 1) (Ly.got x 0)).2 ≠ 0 → (Ly.dense (Ly.got p 0) (Ly.got p 1) (Ly.got x 0)).1 = Ly.none_ := Ly.dense_none
    have hun := (Ly.counts_ok hc)
    unfold Od.least Od.most Od.params at hun
    have hpl : p.length = 2 := by have := hun.1; have h3 := hun.2.2.2; rw [if_pos this] at h3; simp [hk] at h3; omega
    have hxl : x.length = 1 := by have := hun.1; have h1 := hun.2.1; have h2 := hun.2.2.1; rw [if_pos this] at h1 h2; simp [hk] at h1 h2; omega
    clear hun hc
    obtain ⟨bp, po, S0, c0, C0, d0, rfl, lbp, p00, p01, hT0⟩ := HP.out.at_ (j := 0) (by omega)
    obtain ⟨bp2, po2, S1, c1, C1, d1, ep, -, p10, p11, hT1⟩ := HP.out.at_ (j := 1) (by omega)
    injection ep with ep; injection ep with ep1 ep2; subst ep1 ep2
    obtain ⟨bx, xo, S2, c2, C2, d2, rfl, lbx, x00, x01, hT2⟩ := HX.out.at_ (j := 0) (by omega)
    have hcall := fun (W : World) (h : Later w2 W) => calls_goU (dense_go S0 C0 S1 C1 S2 C2 c0 d0 c1 d1 c2 d2 (Ly.got p 0) (Ly.got p 1) (Ly.got x 0) W (hT0.later (HH.out.trans h)) (hT1.later (HH.out.trans h)) (hT2.later (HH.out.trans h))) hno
    obtain ⟨R, hR⟩ : ∃ R, Ly.dense (Ly.got p 0) (Ly.got p 1) (Ly.got x 0) = R := ⟨_, rfl⟩
    rw [hR] at hcall
    rw [hR] at hR0
    have HE := Lib.hid (hg0.trans hR0)
    clear hno
    have q1 : w2.cell? ⟨bp, po, none⟩ = some (.slice S0 (Ly.got p 0).s.length c0) := HH.out.cell (by simpa using p00)
    have q2 : w2.cell? ⟨bp, po + 1, none⟩ = some (.slice C0 (Ly.got p 0).c.length d0) := HH.out.cell (by simpa using p01)
    have q3 : w2.cell? ⟨bp, po + 2, none⟩ = some (.slice S1 (Ly.got p 1).s.length c1) := HH.out.cell (by simpa using p10)
    have q4 : w2.cell? ⟨bp, po + 2 + 1, none⟩ = some (.slice C1 (Ly.got p 1).c.length d1) := HH.out.cell (by simpa using p11)
    have q5 : w2.cell? ⟨bx, xo, none⟩ = some (.slice S2 (Ly.got x 0).s.length c2) := HH.out.cell (by simpa using x00)
    have q6 : w2.cell? ⟨bx, xo + 1, none⟩ = some (.slice C2 (Ly.got x 0).c.length d2) := HH.out.cell (by simpa using x01)
    have x0 : w2.cell? ⟨w.heap.size, 0, none⟩ = some (.int .i64 8) := by rw [Hko.out.cell, ← hk]; rfl
    rw [hpl]
    rw [hxl]
    have Hcall := Lib.hid hcall
    have HR := Lib.hid hR
    clear hcall hR hR0 hT0 hT1 hT2
    have lp1 : bp < w2.heap.size := Nat.lt_of_lt_of_le lbp HH.out.size
    have lx1 : bx < w2.heap.size := Nat.lt_of_lt_of_le lbx HH.out.size
    go_upto_region 6 with fail
    clear x0 hk
    refine wp_region_noPanic ?_
    refine wp_region_held_drew (S := fun X => X.cell? ⟨bp, po, none⟩ = some (.slice S0 (Ly.got p 0).s.length c0) ∧ X.cell? ⟨bp, po + 1, none⟩ = some (.slice C0 (Ly.got p 0).c.length d0) ∧ X.cell? ⟨bp, po + 2, none⟩ = some (.slice S1 (Ly.got p 1).s.length c1) ∧ X.cell? ⟨bp, po + 2 + 1, none⟩ = some (.slice C1 (Ly.got p 1).c.length d1) ∧ X.cell? ⟨bx, xo, none⟩ = some (.slice S2 (Ly.got x 0).s.length c2) ∧ X.cell? ⟨bx, xo + 1, none⟩ = some (.slice C2 (Ly.got x 0).c.length d2)) (by kernel_rfl) ?_ (fun hHeld => ?_)
    · (try dsimp only); (first | (with_reducible exact ⟨q1, q2, q3, q4, q5, q6⟩) | exact ⟨Later.cell (show Later w2 _ by repeat (first | (with_reducible exact Later.refl _) | (with_reducible apply Later.drew) | (with_reducible apply Later.drewN) | (with_reducible apply Later.alloc) | (with_reducible refine Later.call ?_ (by assumption)))) q1, Later.cell (show Later w2 _ by repeat (first | (with_reducible exact Later.refl _) | (with_reducible apply Later.drew) | (with_reducible apply Later.drewN) | (with_reducible apply Later.alloc) | (with_reducible refine Later.call ?_ (by assumption)))) q2, Later.cell (show Later w2 _ by repeat (first | (with_reducible exact Later.refl _) | (with_reducible apply Later.drew) | (with_reducible apply Later.drewN) | (with_reducible apply Later.alloc) | (with_reducible refine Later.call ?_ (by assumption)))) q3, Later.cell (show Later w2 _ by repeat (first | (with_reducible exact Later.refl _) | (with_reducible apply Later.drew) | (with_reducible apply Later.drewN) | (with_reducible apply Later.alloc) | (with_reducible refine Later.call ?_ (by assumption)))) q4, Later.cell (show Later w2 _ by repeat (first | (with_reducible exact Later.refl _) | (with_reducible apply Later.drew) | (with_reducible apply Later.drewN) | (with_reducible apply Later.alloc) | (with_reducible refine Later.call ?_ (by assumption)))) q5, Later.cell (show Later w2 _ by repeat (first | (with_reducible exact Later.refl _) | (with_reducible apply Later.drew) | (with_reducible apply Later.drewN) | (with_reducible apply Later.alloc) | (with_reducible refine Later.call ?_ (by assumption)))) q6⟩)
    refine wpAnyH_take (i := 0) (oi := _) (v := ?mv1) rfl (by kernel_rfl) (by kernel_rfl) (by kernel_rfl) (fun _ _ _ h => h) (Or.inl ⟨by rfl, ?my1⟩) (by assumption) ?mr1
    case my1 => (simp only [List.getElem_toArray, List.getElem_cons_zero]; intro w hSw; (try dsimp only at hSw); go_simp; first | done | with_reducible rfl)
    try simp only [List.getElem_toArray, List.getElem_cons_zero, Act.put, List.setIfInBounds_toArray, List.set_cons_zero, List.set_cons_succ]
    refine wpAnyH_take (i := 1) (oi := _) (v := ?mv2) rfl (by kernel_rfl) (by kernel_rfl) (by kernel_rfl) (fun _ _ _ h => h) (Or.inl ⟨by rfl, ?my2⟩) (by assumption) ?mr2
    case my2 => (simp only [List.getElem_toArray, List.getElem_cons_succ, List.getElem_cons_zero]; intro w hSw; (try dsimp only at hSw); go_simp; first | done | with_reducible rfl)
    try simp only [List.getElem_toArray, List.getElem_cons_succ, List.getElem_cons_zero, Act.put, List.setIfInBounds_toArray, List.set_cons_zero, List.set_cons_succ]
    refine wpAnyH_take (i := 2) (oi := _) (v := ?mv3) rfl (by kernel_rfl) (by kernel_rfl) (by kernel_rfl) (fun _ _ _ h => h) (Or.inl ⟨by rfl, ?my3⟩) (by assumption) ?mr3
    case my3 => (simp only [List.getElem_toArray, List.getElem_cons_succ, List.getElem_cons_zero]; intro w hSw; (try dsimp only at hSw); go_simp; first | done | with_reducible rfl)
    try simp only [List.getElem_toArray, List.getElem_cons_succ, List.getElem_cons_zero, Act.put, List.setIfInBounds_toArray, List.set_cons_zero, List.set_cons_succ]
    refine wpAnyH_take (i := 3) (oi := _) (v := ?mv4) rfl (by kernel_rfl) (by kernel_rfl) (by kernel_rfl) (fun _ _ _ h => h) (Or.inl ⟨by rfl, ?my4⟩) (by assumption) ?mr4
    case my4 => (simp only [List.getElem_toArray, List.getElem_cons_succ, List.getElem_cons_zero]; intro w hSw; (try dsimp only at hSw); go_simp; first | done | with_reducible rfl)
    try simp only [List.getElem_toArray, List.getElem_cons_succ, List.getElem_cons_zero, Act.put, List.setIfInBounds_toArray, List.set_cons_zero, List.set_cons_succ]
    refine wpAnyH_take (i := 4) (oi := _) (v := ?mv5) rfl (by kernel_rfl) (by kernel_rfl) (by kernel_rfl) (fun _ _ _ h => h) (Or.inl ⟨by rfl, ?my5⟩) (by assumption) ?mr5
    case my5 => (simp only [List.getElem_toArray, List.getElem_cons_succ, List.getElem_cons_zero]; intro w hSw; (try dsimp only at hSw); go_simp; first | done | with_reducible rfl)
    try simp only [List.getElem_toArray, List.getElem_cons_succ, List.getElem_cons_zero, Act.put, List.setIfInBounds_toArray, List.set_cons_zero, List.set_cons_succ]
    refine wpAnyH_take (i := 5) (oi := _) (v := ?mv6) rfl (by kernel_rfl) (by kernel_rfl) (by kernel_rfl) (fun _ _ _ h => h) (Or.inl ⟨by rfl, ?my6⟩) (by assumption) ?mr6
    case my6 => (simp only [List.getElem_toArray, List.getElem_cons_succ, List.getElem_cons_zero]; intro w hSw; (try dsimp only at hSw); go_simp; first | done | with_reducible rfl)
    try simp only [List.getElem_toArray, List.getElem_cons_succ, List.getElem_cons_zero, Act.put, List.setIfInBounds_toArray, List.set_cons_zero, List.set_cons_succ]
    refine wpAnyH_take (i := 6) (oi := _) (v := ?mv7) rfl (by kernel_rfl) (by kernel_rfl) (by kernel_rfl) (fun _ _ _ h => h) (Or.inl ⟨by rfl, ?my7⟩) (by assumption) ?mr7
    case my7 => (simp only [List.getElem_toArray, List.getElem_cons_succ, List.getElem_cons_zero]; intro w hSw; (try dsimp only at hSw); go_simp; first | done | with_reducible rfl)
    try simp only [List.getElem_toArray, List.getElem_cons_succ, List.getElem_cons_zero, Act.put, List.setIfInBounds_toArray, List.set_cons_zero, List.set_cons_succ]
    refine wpAnyH_take (i := 7) (oi := _) (v := ?mv8) rfl (by kernel_rfl) (by kernel_rfl) (by kernel_rfl) (fun _ _ _ h => h) (Or.inl ⟨by rfl, ?my8⟩) (by assumption) ?mr8
    case my8 => (simp only [List.getElem_toArray, List.getElem_cons_succ, List.getElem_cons_zero]; intro w hSw; (try dsimp only at hSw); go_simp; first | done | with_reducible rfl)
    try simp only [List.getElem_toArray, List.getElem_cons_succ, List.getElem_cons_zero, Act.put, List.setIfInBounds_toArray, List.set_cons_zero, List.set_cons_succ]
    refine wpAnyH_take (i := 8) (oi := _) (v := ?mv9) rfl (by kernel_rfl) (by kernel_rfl) (by kernel_rfl) (fun _ _ _ h => h) (Or.inl ⟨by rfl, ?my9⟩) (by assumption) ?mr9
    case my9 => (simp only [List.getElem_toArray, List.getElem_cons_succ, List.getElem_cons_zero]; intro w hSw; (try dsimp only at hSw); go_simp; first | done | with_reducible rfl)
    try simp only [List.getElem_toArray, List.getElem_cons_succ, List.getElem_cons_zero, Act.put, List.setIfInBounds_toArray, List.set_cons_zero, List.set_cons_succ]
    refine wpAnyH_ready (rs := [9]) (by kernel_rfl) (by simp) ?_
    refine AllReadyH.cons (o := _) rfl (fun K hK => ?_) AllReadyH.nil
    simp only [List.getElem_toArray, List.getElem_cons_succ, List.getElem_cons_zero]
    go_simp
    go_at_call 17
    (with_reducible refine (Hcall.out _ (show Later w2 _ by repeat (first | (with_reducible exact Later.refl _) | (with_reducible apply Later.drew) | (with_reducible apply Later.drewN) | (with_reducible apply Later.alloc) | (with_reducible refine Later.call ?_ (by assumption))))).mono ?_)
    rintro e wf ⟨S3, c3, C3, d3, rfl, hne, hof, hbf⟩
    have hlf : Later w2 wf := Later.trans (show Later w2 (World.drew w2) by repeat (first | (with_reducible exact Later.refl _) | (with_reducible apply Later.drew) | (with_reducible apply Later.drewN) | (with_reducible apply Later.alloc) | (with_reducible refine Later.call ?_ (by assumption)))) hbf
    have hzf := hlf.blk Hz.out
    have c0' := hzf.cell 0
    have c1' := hzf.cell 1
    have f0' := hzf.frozen 0
    have f1' := hzf.frozen 1
    simp at c0' c1'
    have Hne := Lib.hid hne
    have Hof := Lib.hid hof
    have Hzf := Lib.hid hzf
    have Hlf := Lib.hid hlf
    clear hne hof hzf hlf
    try go_wp2_with fail
    refine hK.out _ _ ?_ (fun hHeld => ?_)
    · (try dsimp only); (first | (with_reducible exact ⟨q1, q2, q3, q4, q5, q6⟩) | exact ⟨Later.cell (show Later w2 _ by repeat (first | (with_reducible exact Later.refl _) | (with_reducible apply Later.drew) | (with_reducible apply Later.drewN) | (with_reducible apply Later.alloc) | (with_reducible refine Later.call ?_ (by assumption)))) q1, Later.cell (show Later w2 _ by repeat (first | (with_reducible exact Later.refl _) | (with_reducible apply Later.drew) | (with_reducible apply Later.drewN) | (with_reducible apply Later.alloc) | (with_reducible refine Later.call ?_ (by assumption)))) q2, Later.cell (show Later w2 _ by repeat (first | (with_reducible exact Later.refl _) | (with_reducible apply Later.drew) | (with_reducible apply Later.drewN) | (with_reducible apply Later.alloc) | (with_reducible refine Later.call ?_ (by assumption)))) q3, Later.cell (show Later w2 _ by repeat (first | (with_reducible exact Later.refl _) | (with_reducible apply Later.drew) | (with_reducible apply Later.drewN) | (with_reducible apply Later.alloc) | (with_reducible refine Later.call ?_ (by assumption)))) q4, Later.cell (show Later w2 _ by repeat (first | (with_reducible exact Later.refl _) | (with_reducible apply Later.drew) | (with_reducible apply Later.drewN) | (with_reducible apply Later.alloc) | (with_reducible refine Later.call ?_ (by assumption)))) q5, Later.cell (show Later w2 _ by repeat (first | (with_reducible exact Later.refl _) | (with_reducible apply Later.drew) | (with_reducible apply Later.drewN) | (with_reducible apply Later.alloc) | (with_reducible refine Later.call ?_ (by assumption)))) q6⟩)
    clear hK K
    try simp only [List.getElem_toArray, List.getElem_cons_succ, List.getElem_cons_zero, Act.put, List.setIfInBounds_toArray, List.set_cons_zero, List.set_cons_succ]
    refine wpAnyH_take (i := 10) (oi := _) (v := ?mv11) rfl (by kernel_rfl) (by kernel_rfl) (by kernel_rfl) (fun _ _ _ h => h) (Or.inl ⟨by rfl, ?my11⟩) (by assumption) ?mr11
    case my11 => (simp only [List.getElem_toArray, List.getElem_cons_succ, List.getElem_cons_zero]; intro w hSw; (try dsimp only at hSw); go_simp; first | done | with_reducible rfl)
    try simp only [List.getElem_toArray, List.getElem_cons_succ, List.getElem_cons_zero, Act.put, List.setIfInBounds_toArray, List.set_cons_zero, List.set_cons_succ]
    refine wpAnyH_take (i := 11) (oi := _) (v := ?mv12) rfl (by kernel_rfl) (by kernel_rfl) (by kernel_rfl) (fun _ _ _ h => h) (Or.inl ⟨by rfl, ?my12⟩) (by assumption) ?mr12
    case my12 => (simp only [List.getElem_toArray, List.getElem_cons_succ, List.getElem_cons_zero]; intro w hSw; (try dsimp only at hSw); go_simp; first | done | with_reducible rfl)
    try simp only [List.getElem_toArray, List.getElem_cons_succ, List.getElem_cons_zero, Act.put, List.setIfInBounds_toArray, List.set_cons_zero, List.set_cons_succ]
    refine wpAnyH_ready (rs := [12]) (by kernel_rfl) (by simp) ?_
    refine AllReadyH.cons (o := _) rfl (fun K hK => ?_) AllReadyH.nil
    simp only [List.getElem_toArray, List.getElem_cons_succ, List.getElem_cons_zero]
    go_simp
    refine hK.out _ _ ?_ (fun hHeld => ?_)
    · (try dsimp only); (refine ⟨?_, ?_, ?_, ?_, ?_, ?_⟩ <;> (repeat (refine cell_setfar ?_ (by first | omega | (simp; done) | (simp; omega)))) <;> (refine Later.cell (show Later w2 _ by repeat (first | (with_reducible exact Later.refl _) | (with_reducible apply Later.drew) | (with_reducible apply Later.drewN) | (with_reducible apply Later.alloc) | (with_reducible refine Later.call ?_ (by assumption)))) ?_) <;> assumption)
    clear hK K
    try simp only [List.getElem_toArray, List.getElem_cons_succ, List.getElem_cons_zero, Act.put, List.setIfInBounds_toArray, List.set_cons_zero, List.set_cons_succ]
    refine wpAnyH_take (i := 13) (oi := _) (v := ?mv14) rfl (by kernel_rfl) (by kernel_rfl) (by kernel_rfl) (fun _ _ _ h => h) (Or.inl ⟨by rfl, ?my14⟩) (by assumption) ?mr14
    case my14 => (simp only [List.getElem_toArray, List.getElem_cons_succ, List.getElem_cons_zero]; intro w hSw; (try dsimp only at hSw); go_simp; first | done | with_reducible rfl)
    try simp only [List.getElem_toArray, List.getElem_cons_succ, List.getElem_cons_zero, Act.put, List.setIfInBounds_toArray, List.set_cons_zero, List.set_cons_succ]
    refine wpAnyH_done (by kernel_rfl) ?_ _
    refine NoPanic.normal ?_
    have hz4 := (Hzf.out.set_ 0 (.slice S3 R.1.s.length c3)).set_ 1 (.slice C3 R.1.c.length d3)
    have e0 := hz4.cell 0
    have e1 := hz4.cell 1
    simp at e0 e1
    have Hz4 := Lib.hid hz4
    clear hz4
    go_wp2_with fail
    refine bodyPost_ret (v := .tuple #[.agg #[.slice S3 R.1.s.length c3, .slice C3 R.1.c.length d3], .int .i64 R.2]) (by simp [results, Try.results6, go_sem, e0, e1]) rfl ?_
    rw [HE.out]
    exact gop_fin Hne.out Hof.out (HH.out.trans Hlf.out) Hzf.out (by simp) (by have := HH.out.size; simp; omega)
  · have hR0 : Ly.lay o p x = Ly.add (Ly.got x 0) (Ly.got p 0) := Ly.lay9 hk
    have hno : (Ly.add (Ly.got x 0) (Ly.got p 0)).2 ≠ 0 → (Ly.add (Ly.got x 0) (Ly.got p 0)).1 = Ly.none_ := Ly.add_none
    have hun := (Ly.counts_ok hc)
    unfold Od.least Od.most Od.params at hun
    have hpl : p.length = 1 := by have := hun.1; have h3 := hun.2.2.2; rw [if_pos this] at h3; simp [hk] at h3; omega
    have hxl : x.length = 1 := by have := hun.1; have h1 := hun.2.1; have h2 := hun.2.2.1; rw [if_pos this] at h1 h2; simp [hk] at h1 h2; omega
    clear hun hc
    obtain ⟨bp, po, S0, c0, C0, d0, rfl, lbp, p00, p01, hT0⟩ := HP.out.at_ (j := 0) (by omega)
    obtain ⟨bx, xo, S2, c2, C2, d2, rfl, lbx, x00, x01, hT2⟩ := HX.out.at_ (j := 0) (by omega)
    have hcall := fun (W : World) (h : Later w2 W) => calls_goU (dense_bias S0 C0 S2 C2 c0 d0 c2 d2 (Ly.got p 0) (Ly.got x 0) W (hT0.later (HH.out.trans h)) (hT2.later (HH.out.trans h))) hno
    obtain ⟨R, hR⟩ : ∃ R, Ly.add (Ly.got x 0) (Ly.got p 0) = R := ⟨_, rfl⟩
    rw [hR] at hcall
    rw [hR] at hR0
    have HE := Lib.hid (hg0.trans hR0)
    clear hno
    have q1 : w2.cell? ⟨bp, po, none⟩ = some (.slice S0 (Ly.got p 0).s.length c0) := HH.out.cell (by simpa using p00)
    have q2 : w2.cell? ⟨bp, po + 1, none⟩ = some (.slice C0 (Ly.got p 0).c.length d0) := HH.out.cell (by simpa using p01)
    have q3 : w2.cell? ⟨bx, xo, none⟩ = some (.slice S2 (Ly.got x 0).s.length c2) := HH.out.cell (by simpa using x00)
    have q4 : w2.cell? ⟨bx, xo + 1, none⟩ = some (.slice C2 (Ly.got x 0).c.length d2) := HH.out.cell (by simpa using x01)
    have x0 : w2.cell? ⟨w.heap.size, 0, none⟩ = some (.int .i64 9) := by rw [Hko.out.cell, ← hk]; rfl
    rw [hpl]
    rw [hxl]
    have Hcall := Lib.hid hcall
    have HR := Lib.hid hR
    clear hcall hR hR0 hT0 hT2
    have lp1 : bp < w2.heap.size := Nat.lt_of_lt_of_le lbp HH.out.size
    have lx1 : bx < w2.heap.size := Nat.lt_of_lt_of_le lbx HH.out.size
    go_upto_region 8 with fail
    clear x0 hk
    refine wp_region_noPanic ?_
    refine wp_region_held_drew (S := fun X => X.cell? ⟨bp, po, none⟩ = some (.slice S0 (Ly.got p 0).s.length c0) ∧ X.cell? ⟨bp, po + 1, none⟩ = some (.slice C0 (Ly.got p 0).c.length d0) ∧ X.cell? ⟨bx, xo, none⟩ = some (.slice S2 (Ly.got x 0).s.length c2) ∧ X.cell? ⟨bx, xo + 1, none⟩ = some (.slice C2 (Ly.got x 0).c.length d2)) (by kernel_rfl) ?_ (fun hHeld => ?_)
    · (try dsimp only); (first | (with_reducible exact ⟨q1, q2, q3, q4⟩) | exact ⟨Later.cell (show Later w2 _ by repeat (first | (with_reducible exact Later.refl _) | (with_reducible apply Later.drew) | (with_reducible apply Later.drewN) | (with_reducible apply Later.alloc) | (with_reducible refine Later.call ?_ (by assumption)))) q1, Later.cell (show Later w2 _ by repeat (first | (with_reducible exact Later.refl _) | (with_reducible apply Later.drew) | (with_reducible apply Later.drewN) | (with_reducible apply Later.alloc) | (with_reducible refine Later.call ?_ (by assumption)))) q2, Later.cell (show Later w2 _ by repeat (first | (with_reducible exact Later.refl _) | (with_reducible apply Later.drew) | (with_reducible apply Later.drewN) | (with_reducible apply Later.alloc) | (with_reducible refine Later.call ?_ (by assumption)))) q3, Later.cell (show Later w2 _ by repeat (first | (with_reducible exact Later.refl _) | (with_reducible apply Later.drew) | (with_reducible apply Later.drewN) | (with_reducible apply Later.alloc) | (with_reducible refine Later.call ?_ (by assumption)))) q4⟩)
    refine wpAnyH_take (i := 0) (oi := _) (v := ?mv15) rfl (by kernel_rfl) (by kernel_rfl) (by kernel_rfl) (fun _ _ _ h => h) (Or.inl ⟨by rfl, ?my15⟩) (by assumption) ?mr15
    case my15 => (simp only [List.getElem_toArray, List.getElem_cons_zero]; intro w hSw; (try dsimp only at hSw); go_simp; first | done | with_reducible rfl)
    try simp only [List.getElem_toArray, List.getElem_cons_zero, Act.put, List.setIfInBounds_toArray, List.set_cons_zero, List.set_cons_succ]
    refine wpAnyH_take (i := 1) (oi := _) (v := ?mv16) rfl (by kernel_rfl) (by kernel_rfl) (by kernel_rfl) (fun _ _ _ h => h) (Or.inl ⟨by rfl, ?my16⟩) (by assumption) ?mr16
    case my16 => (simp only [List.getElem_toArray, List.getElem_cons_succ, List.getElem_cons_zero]; intro w hSw; (try dsimp only at hSw); go_simp; first | done | with_reducible rfl)
    try simp only [List.getElem_toArray, List.getElem_cons_succ, List.getElem_cons_zero, Act.put, List.setIfInBounds_toArray, List.set_cons_zero, List.set_cons_succ]
    refine wpAnyH_take (i := 2) (oi := _) (v := ?mv17) rfl (by kernel_rfl) (by kernel_rfl) (by kernel_rfl) (fun _ _ _ h => h) (Or.inl ⟨by rfl, ?my17⟩) (by assumption) ?mr17
    case my17 => (simp only [List.getElem_toArray, List.getElem_cons_succ, List.getElem_cons_zero]; intro w hSw; (try dsimp only at hSw); go_simp; first | done | with_reducible rfl)
    try simp only [List.getElem_toArray, List.getElem_cons_succ, List.getElem_cons_zero, Act.put, List.setIfInBounds_toArray, List.set_cons_zero, List.set_cons_succ]
    refine wpAnyH_take (i := 3) (oi := _) (v := ?mv18) rfl (by kernel_rfl) (by kernel_rfl) (by kernel_rfl) (fun _ _ _ h => h) (Or.inl ⟨by rfl, ?my18⟩) (by assumption) ?mr18
    case my18 => (simp only [List.getElem_toArray, List.getElem_cons_succ, List.getElem_cons_zero]; intro w hSw; (try dsimp only at hSw); go_simp; first | done | with_reducible rfl)
    try simp only [List.getElem_toArray, List.getElem_cons_succ, List.getElem_cons_zero, Act.put, List.setIfInBounds_toArray, List.set_cons_zero, List.set_cons_succ]
    refine wpAnyH_take (i := 4) (oi := _) (v := ?mv19) rfl (by kernel_rfl) (by kernel_rfl) (by kernel_rfl) (fun _ _ _ h => h) (Or.inl ⟨by rfl, ?my19⟩) (by assumption) ?mr19
    case my19 => (simp only [List.getElem_toArray, List.getElem_cons_succ, List.getElem_cons_zero]; intro w hSw; (try dsimp only at hSw); go_simp; first | done | with_reducible rfl)
    try simp only [List.getElem_toArray, List.getElem_cons_succ, List.getElem_cons_zero, Act.put, List.setIfInBounds_toArray, List.set_cons_zero, List.set_cons_succ]
    refine wpAnyH_take (i := 5) (oi := _) (v := ?mv20) rfl (by kernel_rfl) (by kernel_rfl) (by kernel_rfl) (fun _ _ _ h => h) (Or.inl ⟨by rfl, ?my20⟩) (by assumption) ?mr20
    case my20 => (simp only [List.getElem_toArray, List.getElem_cons_succ, List.getElem_cons_zero]; intro w hSw; (try dsimp only at hSw); go_simp; first | done | with_reducible rfl)
    try simp only [List.getElem_toArray, List.getElem_cons_succ, List.getElem_cons_zero, Act.put, List.setIfInBounds_toArray, List.set_cons_zero, List.set_cons_succ]
    refine wpAnyH_ready (rs := [6]) (by kernel_rfl) (by simp) ?_
    refine AllReadyH.cons (o := _) rfl (fun K hK => ?_) AllReadyH.nil
    simp only [List.getElem_toArray, List.getElem_cons_succ, List.getElem_cons_zero]
    go_simp
    go_at_call 18
    (with_reducible refine (Hcall.out _ (show Later w2 _ by repeat (first | (with_reducible exact Later.refl _) | (with_reducible apply Later.drew) | (with_reducible apply Later.drewN) | (with_reducible apply Later.alloc) | (with_reducible refine Later.call ?_ (by assumption))))).mono ?_)
    rintro e wf ⟨S3, c3, C3, d3, rfl, hne, hof, hbf⟩
    have hlf : Later w2 wf := Later.trans (show Later w2 (World.drew w2) by repeat (first | (with_reducible exact Later.refl _) | (with_reducible apply Later.drew) | (with_reducible apply Later.drewN) | (with_reducible apply Later.alloc) | (with_reducible refine Later.call ?_ (by assumption)))) hbf
    have hzf := hlf.blk Hz.out
    have c0' := hzf.cell 0
    have c1' := hzf.cell 1
    have f0' := hzf.frozen 0
    have f1' := hzf.frozen 1
    simp at c0' c1'
    have Hne := Lib.hid hne
    have Hof := Lib.hid hof
    have Hzf := Lib.hid hzf
    have Hlf := Lib.hid hlf
    clear hne hof hzf hlf
    try go_wp2_with fail
    refine hK.out _ _ ?_ (fun hHeld => ?_)
    · (try dsimp only); (first | (with_reducible exact ⟨q1, q2, q3, q4⟩) | exact ⟨Later.cell (show Later w2 _ by repeat (first | (with_reducible exact Later.refl _) | (with_reducible apply Later.drew) | (with_reducible apply Later.drewN) | (with_reducible apply Later.alloc) | (with_reducible refine Later.call ?_ (by assumption)))) q1, Later.cell (show Later w2 _ by repeat (first | (with_reducible exact Later.refl _) | (with_reducible apply Later.drew) | (with_reducible apply Later.drewN) | (with_reducible apply Later.alloc) | (with_reducible refine Later.call ?_ (by assumption)))) q2, Later.cell (show Later w2 _ by repeat (first | (with_reducible exact Later.refl _) | (with_reducible apply Later.drew) | (with_reducible apply Later.drewN) | (with_reducible apply Later.alloc) | (with_reducible refine Later.call ?_ (by assumption)))) q3, Later.cell (show Later w2 _ by repeat (first | (with_reducible exact Later.refl _) | (with_reducible apply Later.drew) | (with_reducible apply Later.drewN) | (with_reducible apply Later.alloc) | (with_reducible refine Later.call ?_ (by assumption)))) q4⟩)
    clear hK K
    try simp only [List.getElem_toArray, List.getElem_cons_succ, List.getElem_cons_zero, Act.put, List.setIfInBounds_toArray, List.set_cons_zero, List.set_cons_succ]
    refine wpAnyH_take (i := 7) (oi := _) (v := ?mv22) rfl (by kernel_rfl) (by kernel_rfl) (by kernel_rfl) (fun _ _ _ h => h) (Or.inl ⟨by rfl, ?my22⟩) (by assumption) ?mr22
    case my22 => (simp only [List.getElem_toArray, List.getElem_cons_succ, List.getElem_cons_zero]; intro w hSw; (try dsimp only at hSw); go_simp; first | done | with_reducible rfl)
    try simp only [List.getElem_toArray, List.getElem_cons_succ, List.getElem_cons_zero, Act.put, List.setIfInBounds_toArray, List.set_cons_zero, List.set_cons_succ]
    refine wpAnyH_take (i := 8) (oi := _) (v := ?mv23) rfl (by kernel_rfl) (by kernel_rfl) (by kernel_rfl) (fun _ _ _ h => h) (Or.inl ⟨by rfl, ?my23⟩) (by assumption) ?mr23
    case my23 => (simp only [List.getElem_toArray, List.getElem_cons_succ, List.getElem_cons_zero]; intro w hSw; (try dsimp only at hSw); go_simp; first | done | with_reducible rfl)
    try simp only [List.getElem_toArray, List.getElem_cons_succ, List.getElem_cons_zero, Act.put, List.setIfInBounds_toArray, List.set_cons_zero, List.set_cons_succ]
    refine wpAnyH_ready (rs := [9]) (by kernel_rfl) (by simp) ?_
    refine AllReadyH.cons (o := _) rfl (fun K hK => ?_) AllReadyH.nil
    simp only [List.getElem_toArray, List.getElem_cons_succ, List.getElem_cons_zero]
    go_simp
    refine hK.out _ _ ?_ (fun hHeld => ?_)
    · (try dsimp only); (refine ⟨?_, ?_, ?_, ?_⟩ <;> (repeat (refine cell_setfar ?_ (by first | omega | (simp; done) | (simp; omega)))) <;> (refine Later.cell (show Later w2 _ by repeat (first | (with_reducible exact Later.refl _) | (with_reducible apply Later.drew) | (with_reducible apply Later.drewN) | (with_reducible apply Later.alloc) | (with_reducible refine Later.call ?_ (by assumption)))) ?_) <;> assumption)
    clear hK K
    try simp only [List.getElem_toArray, List.getElem_cons_succ, List.getElem_cons_zero, Act.put, List.setIfInBounds_toArray, List.set_cons_zero, List.set_cons_succ]
    refine wpAnyH_take (i := 10) (oi := _) (v := ?mv25) rfl (by kernel_rfl) (by kernel_rfl) (by kernel_rfl) (fun _ _ _ h => h) (Or.inl ⟨by rfl, ?my25⟩) (by assumption) ?mr25
    case my25 => (simp only [List.getElem_toArray, List.getElem_cons_succ, List.getElem_cons_zero]; intro w hSw; (try dsimp only at hSw); go_simp; first | done | with_reducible rfl)
    try simp only [List.getElem_toArray, List.getElem_cons_succ, List.getElem_cons_zero, Act.put, List.setIfInBounds_toArray, List.set_cons_zero, List.set_cons_succ]
    refine wpAnyH_done (by kernel_rfl) ?_ _
    refine NoPanic.normal ?_
    have hz4 := (Hzf.out.set_ 0 (.slice S3 R.1.s.length c3)).set_ 1 (.slice C3 R.1.c.length d3)
    have e0 := hz4.cell 0
    have e1 := hz4.cell 1
    simp at e0 e1
    have Hz4 := Lib.hid hz4
    clear hz4
    go_wp2_with fail
    refine bodyPost_ret (v := .tuple #[.agg #[.slice S3 R.1.s.length c3, .slice C3 R.1.c.length d3], .int .i64 R.2]) (by simp [results, Try.results6, go_sem, e0, e1]) rfl ?_
    rw [HE.out]
    exact gop_fin Hne.out Hof.out (HH.out.trans Hlf.out) Hzf.out (by simp) (by have := HH.out.size; simp; omega)
  · have hR0 : Ly.lay o p x = Ly.conv (Ly.got p 0) (Ly.got x 0) o.step := Ly.lay10 hk
    have hno : (Ly.conv (Ly.got p 0) (Ly.got x 0) o.step).2 ≠ 0 → (Ly.conv (Ly.got p 0) (Ly.got x 0) o.step).1 = Ly.none_ := Ly.conv_none
    have hun := (Ly.counts_ok hc)
    unfold Od.least Od.most Od.params at hun
    have hpl : p.length = 1 := by have := hun.1; have h3 := hun.2.2.2; rw [if_pos this] at h3; simp [hk] at h3; omega
    have hxl : x.length = 1 := by have := hun.1; have h1 := hun.2.1; have h2 := hun.2.2.1; rw [if_pos this] at h1 h2; simp [hk] at h1 h2; omega
    clear hun hc
    obtain ⟨bp, po, S0, c0, C0, d0, rfl, lbp, p00, p01, hT0⟩ := HP.out.at_ (j := 0) (by omega)
    obtain ⟨bx, xo, S2, c2, C2, d2, rfl, lbx, x00, x01, hT2⟩ := HX.out.at_ (j := 0) (by omega)
    have hcall := fun (W : World) (h : Later w2 W) => calls_goU (conv_go S0 C0 S2 C2 c0 d0 c2 d2 (Ly.got p 0) (Ly.got x 0) o.step W (hT0.later (HH.out.trans h)) (hT2.later (HH.out.trans h))) hno
    obtain ⟨R, hR⟩ : ∃ R, Ly.conv (Ly.got p 0) (Ly.got x 0) o.step = R := ⟨_, rfl⟩
    rw [hR] at hcall
    rw [hR] at hR0
    have HE := Lib.hid (hg0.trans hR0)
    clear hno
    have q1 : w2.cell? ⟨bp, po, none⟩ = some (.slice S0 (Ly.got p 0).s.length c0) := HH.out.cell (by simpa using p00)
    have q2 : w2.cell? ⟨bp, po + 1, none⟩ = some (.slice C0 (Ly.got p 0).c.length d0) := HH.out.cell (by simpa using p01)
    have q3 : w2.cell? ⟨bx, xo, none⟩ = some (.slice S2 (Ly.got x 0).s.length c2) := HH.out.cell (by simpa using x00)
    have q4 : w2.cell? ⟨bx, xo + 1, none⟩ = some (.slice C2 (Ly.got x 0).c.length d2) := HH.out.cell (by simpa using x01)
    have q5 : w2.cell? ⟨w.heap.size, 3, none⟩ = some (.int .i64 o.step) := by rw [Hko.out.cell]; rfl
    have x0 : w2.cell? ⟨w.heap.size, 0, none⟩ = some (.int .i64 10) := by rw [Hko.out.cell, ← hk]; rfl
    rw [hpl]
    rw [hxl]
    have Hcall := Lib.hid hcall
    have HR := Lib.hid hR
    clear hcall hR hR0 hT0 hT2
    have lp1 : bp < w2.heap.size := Nat.lt_of_lt_of_le lbp HH.out.size
    have lx1 : bx < w2.heap.size := Nat.lt_of_lt_of_le lbx HH.out.size
    go_upto_region 10 with fail
    clear x0 hk
    refine wp_region_noPanic ?_
    refine wp_region_held_drew (S := fun X => X.cell? ⟨bp, po, none⟩ = some (.slice S0 (Ly.got p 0).s.length c0) ∧ X.cell? ⟨bp, po + 1, none⟩ = some (.slice C0 (Ly.got p 0).c.length d0) ∧ X.cell? ⟨bx, xo, none⟩ = some (.slice S2 (Ly.got x 0).s.length c2) ∧ X.cell? ⟨bx, xo + 1, none⟩ = some (.slice C2 (Ly.got x 0).c.length d2) ∧ X.cell? ⟨w.heap.size, 3, none⟩ = some (.int .i64 o.step)) (by kernel_rfl) ?_ (fun hHeld => ?_)
    · (try dsimp only); (first | (with_reducible exact ⟨q1, q2, q3, q4, q5⟩) | exact ⟨Later.cell (show Later w2 _ by repeat (first | (with_reducible exact Later.refl _) | (with_reducible apply Later.drew) | (with_reducible apply Later.drewN) | (with_reducible apply Later.alloc) | (with_reducible refine Later.call ?_ (by assumption)))) q1, Later.cell (show Later w2 _ by repeat (first | (with_reducible exact Later.refl _) | (with_reducible apply Later.drew) | (with_reducible apply Later.drewN) | (with_reducible apply Later.alloc) | (with_reducible refine Later.call ?_ (by assumption)))) q2, Later.cell (show Later w2 _ by repeat (first | (with_reducible exact Later.refl _) | (with_reducible apply Later.drew) | (with_reducible apply Later.drewN) | (with_reducible apply Later.alloc) | (with_reducible refine Later.call ?_ (by assumption)))) q3, Later.cell (show Later w2 _ by repeat (first | (with_reducible exact Later.refl _) | (with_reducible apply Later.drew) | (with_reducible apply Later.drewN) | (with_reducible apply Later.alloc) | (with_reducible refine Later.call ?_ (by assumption)))) q4, Later.cell (show Later w2 _ by repeat (first | (with_reducible exact Later.refl _) | (with_reducible apply Later.drew) | (with_reducible apply Later.drewN) | (with_reducible apply Later.alloc) | (with_reducible refine Later.call ?_ (by assumption)))) q5⟩)
    refine wpAnyH_take (i := 0) (oi := _) (v := ?mv26) rfl (by kernel_rfl) (by kernel_rfl) (by kernel_rfl) (fun _ _ _ h => h) (Or.inl ⟨by rfl, ?my26⟩) (by assumption) ?mr26
    case my26 => (simp only [List.getElem_toArray, List.getElem_cons_zero]; intro w hSw; (try dsimp only at hSw); go_simp; first | done | with_reducible rfl)
    try simp only [List.getElem_toArray, List.getElem_cons_zero, Act.put, List.setIfInBounds_toArray, List.set_cons_zero, List.set_cons_succ]
    refine wpAnyH_take (i := 1) (oi := _) (v := ?mv27) rfl (by kernel_rfl) (by kernel_rfl) (by kernel_rfl) (fun _ _ _ h => h) (Or.inl ⟨by rfl, ?my27⟩) (by assumption) ?mr27
    case my27 => (simp only [List.getElem_toArray, List.getElem_cons_succ, List.getElem_cons_zero]; intro w hSw; (try dsimp only at hSw); go_simp; first | done | with_reducible rfl)
    try simp only [List.getElem_toArray, List.getElem_cons_succ, List.getElem_cons_zero, Act.put, List.setIfInBounds_toArray, List.set_cons_zero, List.set_cons_succ]
    refine wpAnyH_take (i := 2) (oi := _) (v := ?mv28) rfl (by kernel_rfl) (by kernel_rfl) (by kernel_rfl) (fun _ _ _ h => h) (Or.inl ⟨by rfl, ?my28⟩) (by assumption) ?mr28
    case my28 => (simp only [List.getElem_toArray, List.getElem_cons_succ, List.getElem_cons_zero]; intro w hSw; (try dsimp only at hSw); go_simp; first | done | with_reducible rfl)
    try simp only [List.getElem_toArray, List.getElem_cons_succ, List.getElem_cons_zero, Act.put, List.setIfInBounds_toArray, List.set_cons_zero, List.set_cons_succ]
    refine wpAnyH_take (i := 3) (oi := _) (v := ?mv29) rfl (by kernel_rfl) (by kernel_rfl) (by kernel_rfl) (fun _ _ _ h => h) (Or.inl ⟨by rfl, ?my29⟩) (by assumption) ?mr29
    case my29 => (simp only [List.getElem_toArray, List.getElem_cons_succ, List.getElem_cons_zero]; intro w hSw; (try dsimp only at hSw); go_simp; first | done | with_reducible rfl)
    try simp only [List.getElem_toArray, List.getElem_cons_succ, List.getElem_cons_zero, Act.put, List.setIfInBounds_toArray, List.set_cons_zero, List.set_cons_succ]
    refine wpAnyH_take (i := 4) (oi := _) (v := ?mv30) rfl (by kernel_rfl) (by kernel_rfl) (by kernel_rfl) (fun _ _ _ h => h) (Or.inl ⟨by rfl, ?my30⟩) (by assumption) ?mr30
    case my30 => (simp only [List.getElem_toArray, List.getElem_cons_succ, List.getElem_cons_zero]; intro w hSw; (try dsimp only at hSw); go_simp; first | done | with_reducible rfl)
    try simp only [List.getElem_toArray, List.getElem_cons_succ, List.getElem_cons_zero, Act.put, List.setIfInBounds_toArray, List.set_cons_zero, List.set_cons_succ]
    refine wpAnyH_take (i := 5) (oi := _) (v := ?mv31) rfl (by kernel_rfl) (by kernel_rfl) (by kernel_rfl) (fun _ _ _ h => h) (Or.inl ⟨by rfl, ?my31⟩) (by assumption) ?mr31
    case my31 => (simp only [List.getElem_toArray, List.getElem_cons_succ, List.getElem_cons_zero]; intro w hSw; (try dsimp only at hSw); go_simp; first | done | with_reducible rfl)
    try simp only [List.getElem_toArray, List.getElem_cons_succ, List.getElem_cons_zero, Act.put, List.setIfInBounds_toArray, List.set_cons_zero, List.set_cons_succ]
    refine wpAnyH_take (i := 6) (oi := _) (v := ?mv32) rfl (by kernel_rfl) (by kernel_rfl) (by kernel_rfl) (fun _ _ _ h => h) (Or.inl ⟨by rfl, ?my32⟩) (by assumption) ?mr32
    case my32 => (simp only [List.getElem_toArray, List.getElem_cons_succ, List.getElem_cons_zero]; intro w hSw; (try dsimp only at hSw); go_simp; first | done | with_reducible rfl)
    try simp only [List.getElem_toArray, List.getElem_cons_succ, List.getElem_cons_zero, Act.put, List.setIfInBounds_toArray, List.set_cons_zero, List.set_cons_succ]
    refine wpAnyH_take (i := 7) (oi := _) (v := ?mv33) rfl (by kernel_rfl) (by kernel_rfl) (by kernel_rfl) (fun _ _ _ h => h) (Or.inl ⟨by rfl, ?my33⟩) (by assumption) ?mr33
    case my33 => (simp only [List.getElem_toArray, List.getElem_cons_succ, List.getElem_cons_zero]; intro w hSw; (try dsimp only at hSw); go_simp; first | done | with_reducible rfl)
    try simp only [List.getElem_toArray, List.getElem_cons_succ, List.getElem_cons_zero, Act.put, List.setIfInBounds_toArray, List.set_cons_zero, List.set_cons_succ]
    refine wpAnyH_ready (rs := [8]) (by kernel_rfl) (by simp) ?_
    refine AllReadyH.cons (o := _) rfl (fun K hK => ?_) AllReadyH.nil
    simp only [List.getElem_toArray, List.getElem_cons_succ, List.getElem_cons_zero]
    go_simp
    go_at_call 19
    (with_reducible refine (Hcall.out _ (show Later w2 _ by repeat (first | (with_reducible exact Later.refl _) | (with_reducible apply Later.drew) | (with_reducible apply Later.drewN) | (with_reducible apply Later.alloc) | (with_reducible refine Later.call ?_ (by assumption))))).mono ?_)
    rintro e wf ⟨S3, c3, C3, d3, rfl, hne, hof, hbf⟩
    have hlf : Later w2 wf := Later.trans (show Later w2 (World.drew w2) by repeat (first | (with_reducible exact Later.refl _) | (with_reducible apply Later.drew) | (with_reducible apply Later.drewN) | (with_reducible apply Later.alloc) | (with_reducible refine Later.call ?_ (by assumption)))) hbf
    have hzf := hlf.blk Hz.out
    have c0' := hzf.cell 0
    have c1' := hzf.cell 1
    have f0' := hzf.frozen 0
    have f1' := hzf.frozen 1
    simp at c0' c1'
    have Hne := Lib.hid hne
    have Hof := Lib.hid hof
    have Hzf := Lib.hid hzf
    have Hlf := Lib.hid hlf
    clear hne hof hzf hlf
    try go_wp2_with fail
    refine hK.out _ _ ?_ (fun hHeld => ?_)
    · (try dsimp only); (first | (with_reducible exact ⟨q1, q2, q3, q4, q5⟩) | exact ⟨Later.cell (show Later w2 _ by repeat (first | (with_reducible exact Later.refl _) | (with_reducible apply Later.drew) | (with_reducible apply Later.drewN) | (with_reducible apply Later.alloc) | (with_reducible refine Later.call ?_ (by assumption)))) q1, Later.cell (show Later w2 _ by repeat (first | (with_reducible exact Later.refl _) | (with_reducible apply Later.drew) | (with_reducible apply Later.drewN) | (with_reducible apply Later.alloc) | (with_reducible refine Later.call ?_ (by assumption)))) q2, Later.cell (show Later w2 _ by repeat (first | (with_reducible exact Later.refl _) | (with_reducible apply Later.drew) | (with_reducible apply Later.drewN) | (with_reducible apply Later.alloc) | (with_reducible refine Later.call ?_ (by assumption)))) q3, Later.cell (show Later w2 _ by repeat (first | (with_reducible exact Later.refl _) | (with_reducible apply Later.drew) | (with_reducible apply Later.drewN) | (with_reducible apply Later.alloc) | (with_reducible refine Later.call ?_ (by assumption)))) q4, Later.cell (show Later w2 _ by repeat (first | (with_reducible exact Later.refl _) | (with_reducible apply Later.drew) | (with_reducible apply Later.drewN) | (with_reducible apply Later.alloc) | (with_reducible refine Later.call ?_ (by assumption)))) q5⟩)
    clear hK K
    try simp only [List.getElem_toArray, List.getElem_cons_succ, List.getElem_cons_zero, Act.put, List.setIfInBounds_toArray, List.set_cons_zero, List.set_cons_succ]
    refine wpAnyH_take (i := 9) (oi := _) (v := ?mv35) rfl (by kernel_rfl) (by kernel_rfl) (by kernel_rfl) (fun _ _ _ h => h) (Or.inl ⟨by rfl, ?my35⟩) (by assumption) ?mr35
    case my35 => (simp only [List.getElem_toArray, List.getElem_cons_succ, List.getElem_cons_zero]; intro w hSw; (try dsimp only at hSw); go_simp; first | done | with_reducible rfl)
    try simp only [List.getElem_toArray, List.getElem_cons_succ, List.getElem_cons_zero, Act.put, List.setIfInBounds_toArray, List.set_cons_zero, List.set_cons_succ]
    refine wpAnyH_take (i := 10) (oi := _) (v := ?mv36) rfl (by kernel_rfl) (by kernel_rfl) (by kernel_rfl) (fun _ _ _ h => h) (Or.inl ⟨by rfl, ?my36⟩) (by assumption) ?mr36
    case my36 => (simp only [List.getElem_toArray, List.getElem_cons_succ, List.getElem_cons_zero]; intro w hSw; (try dsimp only at hSw); go_simp; first | done | with_reducible rfl)
    try simp only [List.getElem_toArray, List.getElem_cons_succ, List.getElem_cons_zero, Act.put, List.setIfInBounds_toArray, List.set_cons_zero, List.set_cons_succ]
    refine wpAnyH_ready (rs := [11]) (by kernel_rfl) (by simp) ?_
    refine AllReadyH.cons (o := _) rfl (fun K hK => ?_) AllReadyH.nil
    simp only [List.getElem_toArray, List.getElem_cons_succ, List.getElem_cons_zero]
    go_simp
    refine hK.out _ _ ?_ (fun hHeld => ?_)
    · (try dsimp only); (refine ⟨?_, ?_, ?_, ?_, ?_⟩ <;> (repeat (refine cell_setfar ?_ (by first | omega | (simp; done) | (simp; omega)))) <;> (refine Later.cell (show Later w2 _ by repeat (first | (with_reducible exact Later.refl _) | (with_reducible apply Later.drew) | (with_reducible apply Later.drewN) | (with_reducible apply Later.alloc) | (with_reducible refine Later.call ?_ (by assumption)))) ?_) <;> assumption)
    clear hK K
    try simp only [List.getElem_toArray, List.getElem_cons_succ, List.getElem_cons_zero, Act.put, List.setIfInBounds_toArray, List.set_cons_zero, List.set_cons_succ]
    refine wpAnyH_take (i := 12) (oi := _) (v := ?mv38) rfl (by kernel_rfl) (by kernel_rfl) (by kernel_rfl) (fun _ _ _ h => h) (Or.inl ⟨by rfl, ?my38⟩) (by assumption) ?mr38
    case my38 => (simp only [List.getElem_toArray, List.getElem_cons_succ, List.getElem_cons_zero]; intro w hSw; (try dsimp only at hSw); go_simp; first | done | with_reducible rfl)
    try simp only [List.getElem_toArray, List.getElem_cons_succ, List.getElem_cons_zero, Act.put, List.setIfInBounds_toArray, List.set_cons_zero, List.set_cons_succ]
    refine wpAnyH_done (by kernel_rfl) ?_ _
    refine NoPanic.normal ?_
    have hz4 := (Hzf.out.set_ 0 (.slice S3 R.1.s.length c3)).set_ 1 (.slice C3 R.1.c.length d3)
    have e0 := hz4.cell 0
    have e1 := hz4.cell 1
    simp at e0 e1
    have Hz4 := Lib.hid hz4
    clear hz4
    go_wp2_with fail
    refine bodyPost_ret (v := .tuple #[.agg #[.slice S3 R.1.s.length c3, .slice C3 R.1.c.length d3], .int .i64 R.2]) (by simp [results, Try.results6, go_sem, e0, e1]) rfl ?_
    rw [HE.out]
    exact gop_fin Hne.out Hof.out (HH.out.trans Hlf.out) Hzf.out (by simp) (by have := HH.out.size; simp; omega)
  · have hR0 : Ly.lay o p x = Ly.pool true (Ly.got x 0) o.width o.step := Ly.lay11 hk
    have hno : (Ly.pool true (Ly.got x 0) o.width o.step).2 ≠ 0 → (Ly.pool true (Ly.got x 0) o.width o.step).1 = Ly.none_ := Ly.pool_none
    have hun := (Ly.counts_ok hc)
    unfold Od.least Od.most Od.params at hun
    have hpl : p.length = 0 := by have := hun.1; have h3 := hun.2.2.2; rw [if_pos this] at h3; simp [hk] at h3; omega
    have hxl : x.length = 1 := by have := hun.1; have h1 := hun.2.1; have h2 := hun.2.2.1; rw [if_pos this] at h1 h2; simp [hk] at h1 h2; omega
    clear hun hc
    obtain ⟨bx, xo, S2, c2, C2, d2, rfl, lbx, x00, x01, hT2⟩ := HX.out.at_ (j := 0) (by omega)
    have hcall := fun (W : World) (h : Later w2 W) => calls_goU (pool_go true 1 S2 C2 c2 d2 (Ly.got x 0) o.width o.step W (.inl ⟨rfl, rfl⟩) (hT2.later (HH.out.trans h))) hno
    obtain ⟨R, hR⟩ : ∃ R, Ly.pool true (Ly.got x 0) o.width o.step = R := ⟨_, rfl⟩
    rw [hR] at hcall
    rw [hR] at hR0
    have HE := Lib.hid (hg0.trans hR0)
    clear hno
    have q1 : w2.cell? ⟨bx, xo, none⟩ = some (.slice S2 (Ly.got x 0).s.length c2) := HH.out.cell (by simpa using x00)
    have q2 : w2.cell? ⟨bx, xo + 1, none⟩ = some (.slice C2 (Ly.got x 0).c.length d2) := HH.out.cell (by simpa using x01)
    have q3 : w2.cell? ⟨w.heap.size, 2, none⟩ = some (.int .i64 o.width) := by rw [Hko.out.cell]; rfl
    have q4 : w2.cell? ⟨w.heap.size, 3, none⟩ = some (.int .i64 o.step) := by rw [Hko.out.cell]; rfl
    have x0 : w2.cell? ⟨w.heap.size, 0, none⟩ = some (.int .i64 11) := by rw [Hko.out.cell, ← hk]; rfl
    rw [hxl]
    have Hcall := Lib.hid hcall
    have HR := Lib.hid hR
    clear hcall hR hR0 hT2
    have lx1 : bx < w2.heap.size := Nat.lt_of_lt_of_le lbx HH.out.size
    go_upto_region 12 with fail
    clear x0 hk
    refine wp_region_noPanic ?_
    refine wp_region_held_drew (S := fun X => X.cell? ⟨bx, xo, none⟩ = some (.slice S2 (Ly.got x 0).s.length c2) ∧ X.cell? ⟨bx, xo + 1, none⟩ = some (.slice C2 (Ly.got x 0).c.length d2) ∧ X.cell? ⟨w.heap.size, 2, none⟩ = some (.int .i64 o.width) ∧ X.cell? ⟨w.heap.size, 3, none⟩ = some (.int .i64 o.step)) (by kernel_rfl) ?_ (fun hHeld => ?_)
    · (try dsimp only); (first | (with_reducible exact ⟨q1, q2, q3, q4⟩) | exact ⟨Later.cell (show Later w2 _ by repeat (first | (with_reducible exact Later.refl _) | (with_reducible apply Later.drew) | (with_reducible apply Later.drewN) | (with_reducible apply Later.alloc) | (with_reducible refine Later.call ?_ (by assumption)))) q1, Later.cell (show Later w2 _ by repeat (first | (with_reducible exact Later.refl _) | (with_reducible apply Later.drew) | (with_reducible apply Later.drewN) | (with_reducible apply Later.alloc) | (with_reducible refine Later.call ?_ (by assumption)))) q2, Later.cell (show Later w2 _ by repeat (first | (with_reducible exact Later.refl _) | (with_reducible apply Later.drew) | (with_reducible apply Later.drewN) | (with_reducible apply Later.alloc) | (with_reducible refine Later.call ?_ (by assumption)))) q3, Later.cell (show Later w2 _ by repeat (first | (with_reducible exact Later.refl _) | (with_reducible apply Later.drew) | (with_reducible apply Later.drewN) | (with_reducible apply Later.alloc) | (with_reducible refine Later.call ?_ (by assumption)))) q4⟩)
    refine wpAnyH_take (i := 0) (oi := _) (v := ?mv39) rfl (by kernel_rfl) (by kernel_rfl) (by kernel_rfl) (fun _ _ _ h => h) (Or.inl ⟨by rfl, ?my39⟩) (by assumption) ?mr39
    case my39 => (simp only [List.getElem_toArray, List.getElem_cons_zero]; intro w hSw; (try dsimp only at hSw); go_simp; first | done | with_reducible rfl)
    try simp only [List.getElem_toArray, List.getElem_cons_zero, Act.put, List.setIfInBounds_toArray, List.set_cons_zero, List.set_cons_succ]
    refine wpAnyH_take (i := 1) (oi := _) (v := ?mv40) rfl (by kernel_rfl) (by kernel_rfl) (by kernel_rfl) (fun _ _ _ h => h) (Or.inl ⟨by rfl, ?my40⟩) (by assumption) ?mr40
    case my40 => (simp only [List.getElem_toArray, List.getElem_cons_succ, List.getElem_cons_zero]; intro w hSw; (try dsimp only at hSw); go_simp; first | done | with_reducible rfl)
    try simp only [List.getElem_toArray, List.getElem_cons_succ, List.getElem_cons_zero, Act.put, List.setIfInBounds_toArray, List.set_cons_zero, List.set_cons_succ]
    refine wpAnyH_take (i := 2) (oi := _) (v := ?mv41) rfl (by kernel_rfl) (by kernel_rfl) (by kernel_rfl) (fun _ _ _ h => h) (Or.inl ⟨by rfl, ?my41⟩) (by assumption) ?mr41
    case my41 => (simp only [List.getElem_toArray, List.getElem_cons_succ, List.getElem_cons_zero]; intro w hSw; (try dsimp only at hSw); go_simp; first | done | with_reducible rfl)
    try simp only [List.getElem_toArray, List.getElem_cons_succ, List.getElem_cons_zero, Act.put, List.setIfInBounds_toArray, List.set_cons_zero, List.set_cons_succ]
    refine wpAnyH_take (i := 3) (oi := _) (v := ?mv42) rfl (by kernel_rfl) (by kernel_rfl) (by kernel_rfl) (fun _ _ _ h => h) (Or.inl ⟨by rfl, ?my42⟩) (by assumption) ?mr42
    case my42 => (simp only [List.getElem_toArray, List.getElem_cons_succ, List.getElem_cons_zero]; intro w hSw; (try dsimp only at hSw); go_simp; first | done | with_reducible rfl)
    try simp only [List.getElem_toArray, List.getElem_cons_succ, List.getElem_cons_zero, Act.put, List.setIfInBounds_toArray, List.set_cons_zero, List.set_cons_succ]
    refine wpAnyH_take (i := 4) (oi := _) (v := ?mv43) rfl (by kernel_rfl) (by kernel_rfl) (by kernel_rfl) (fun _ _ _ h => h) (Or.inl ⟨by rfl, ?my43⟩) (by assumption) ?mr43
    case my43 => (simp only [List.getElem_toArray, List.getElem_cons_succ, List.getElem_cons_zero]; intro w hSw; (try dsimp only at hSw); go_simp; first | done | with_reducible rfl)
    try simp only [List.getElem_toArray, List.getElem_cons_succ, List.getElem_cons_zero, Act.put, List.setIfInBounds_toArray, List.set_cons_zero, List.set_cons_succ]
    refine wpAnyH_take (i := 5) (oi := _) (v := ?mv44) rfl (by kernel_rfl) (by kernel_rfl) (by kernel_rfl) (fun _ _ _ h => h) (Or.inl ⟨by rfl, ?my44⟩) (by assumption) ?mr44
    case my44 => (simp only [List.getElem_toArray, List.getElem_cons_succ, List.getElem_cons_zero]; intro w hSw; (try dsimp only at hSw); go_simp; first | done | with_reducible rfl)
    try simp only [List.getElem_toArray, List.getElem_cons_succ, List.getElem_cons_zero, Act.put, List.setIfInBounds_toArray, List.set_cons_zero, List.set_cons_succ]
    refine wpAnyH_take (i := 6) (oi := _) (v := ?mv45) rfl (by kernel_rfl) (by kernel_rfl) (by kernel_rfl) (fun _ _ _ h => h) (Or.inl ⟨by rfl, ?my45⟩) (by assumption) ?mr45
    case my45 => (simp only [List.getElem_toArray, List.getElem_cons_succ, List.getElem_cons_zero]; intro w hSw; (try dsimp only at hSw); go_simp; first | done | with_reducible rfl)
    try simp only [List.getElem_toArray, List.getElem_cons_succ, List.getElem_cons_zero, Act.put, List.setIfInBounds_toArray, List.set_cons_zero, List.set_cons_succ]
    refine wpAnyH_ready (rs := [7]) (by kernel_rfl) (by simp) ?_
    refine AllReadyH.cons (o := _) rfl (fun K hK => ?_) AllReadyH.nil
    simp only [List.getElem_toArray, List.getElem_cons_succ, List.getElem_cons_zero]
    go_simp
    go_at_call 20
    (with_reducible refine (Hcall.out _ (show Later w2 _ by repeat (first | (with_reducible exact Later.refl _) | (with_reducible apply Later.drew) | (with_reducible apply Later.drewN) | (with_reducible apply Later.alloc) | (with_reducible refine Later.call ?_ (by assumption))))).mono ?_)
    rintro e wf ⟨S3, c3, C3, d3, rfl, hne, hof, hbf⟩
    have hlf : Later w2 wf := Later.trans (show Later w2 (World.drew w2) by repeat (first | (with_reducible exact Later.refl _) | (with_reducible apply Later.drew) | (with_reducible apply Later.drewN) | (with_reducible apply Later.alloc) | (with_reducible refine Later.call ?_ (by assumption)))) hbf
    have hzf := hlf.blk Hz.out
    have c0' := hzf.cell 0
    have c1' := hzf.cell 1
    have f0' := hzf.frozen 0
    have f1' := hzf.frozen 1
    simp at c0' c1'
    have Hne := Lib.hid hne
    have Hof := Lib.hid hof
    have Hzf := Lib.hid hzf
    have Hlf := Lib.hid hlf
    clear hne hof hzf hlf
    try go_wp2_with fail
    refine hK.out _ _ ?_ (fun hHeld => ?_)
    · (try dsimp only); (first | (with_reducible exact ⟨q1, q2, q3, q4⟩) | exact ⟨Later.cell (show Later w2 _ by repeat (first | (with_reducible exact Later.refl _) | (with_reducible apply Later.drew) | (with_reducible apply Later.drewN) | (with_reducible apply Later.alloc) | (with_reducible refine Later.call ?_ (by assumption)))) q1, Later.cell (show Later w2 _ by repeat (first | (with_reducible exact Later.refl _) | (with_reducible apply Later.drew) | (with_reducible apply Later.drewN) | (with_reducible apply Later.alloc) | (with_reducible refine Later.call ?_ (by assumption)))) q2, Later.cell (show Later w2 _ by repeat (first | (with_reducible exact Later.refl _) | (with_reducible apply Later.drew) | (with_reducible apply Later.drewN) | (with_reducible apply Later.alloc) | (with_reducible refine Later.call ?_ (by assumption)))) q3, Later.cell (show Later w2 _ by repeat (first | (with_reducible exact Later.refl _) | (with_reducible apply Later.drew) | (with_reducible apply Later.drewN) | (with_reducible apply Later.alloc) | (with_reducible refine Later.call ?_ (by assumption)))) q4⟩)
    clear hK K
    try simp only [List.getElem_toArray, List.getElem_cons_succ, List.getElem_cons_zero, Act.put, List.setIfInBounds_toArray, List.set_cons_zero, List.set_cons_succ]
    refine wpAnyH_take (i := 8) (oi := _) (v := ?mv47) rfl (by kernel_rfl) (by kernel_rfl) (by kernel_rfl) (fun _ _ _ h => h) (Or.inl ⟨by rfl, ?my47⟩) (by assumption) ?mr47
    case my47 => (simp only [List.getElem_toArray, List.getElem_cons_succ, List.getElem_cons_zero]; intro w hSw; (try dsimp only at hSw); go_simp; first | done | with_reducible rfl)
    try simp only [List.getElem_toArray, List.getElem_cons_succ, List.getElem_cons_zero, Act.put, List.setIfInBounds_toArray, List.set_cons_zero, List.set_cons_succ]
    refine wpAnyH_take (i := 9) (oi := _) (v := ?mv48) rfl (by kernel_rfl) (by kernel_rfl) (by kernel_rfl) (fun _ _ _ h => h) (Or.inl ⟨by rfl, ?my48⟩) (by assumption) ?mr48
    case my48 => (simp only [List.getElem_toArray, List.getElem_cons_succ, List.getElem_cons_zero]; intro w hSw; (try dsimp only at hSw); go_simp; first | done | with_reducible rfl)
    try simp only [List.getElem_toArray, List.getElem_cons_succ, List.getElem_cons_zero, Act.put, List.setIfInBounds_toArray, List.set_cons_zero, List.set_cons_succ]
    refine wpAnyH_ready (rs := [10]) (by kernel_rfl) (by simp) ?_
    refine AllReadyH.cons (o := _) rfl (fun K hK => ?_) AllReadyH.nil
    simp only [List.getElem_toArray, List.getElem_cons_succ, List.getElem_cons_zero]
    go_simp
    refine hK.out _ _ ?_ (fun hHeld => ?_)
    · (try dsimp only); (refine ⟨?_, ?_, ?_, ?_⟩ <;> (repeat (refine cell_setfar ?_ (by first | omega | (simp; done) | (simp; omega)))) <;> (refine Later.cell (show Later w2 _ by repeat (first | (with_reducible exact Later.refl _) | (with_reducible apply Later.drew) | (with_reducible apply Later.drewN) | (with_reducible apply Later.alloc) | (with_reducible refine Later.call ?_ (by assumption)))) ?_) <;> assumption)
    clear hK K
    try simp only [List.getElem_toArray, List.getElem_cons_succ, List.getElem_cons_zero, Act.put, List.setIfInBounds_toArray, List.set_cons_zero, List.set_cons_succ]
    refine wpAnyH_take (i := 11) (oi := _) (v := ?mv50) rfl (by kernel_rfl) (by kernel_rfl) (by kernel_rfl) (fun _ _ _ h => h) (Or.inl ⟨by rfl, ?my50⟩) (by assumption) ?mr50
    case my50 => (simp only [List.getElem_toArray, List.getElem_cons_succ, List.getElem_cons_zero]; intro w hSw; (try dsimp only at hSw); go_simp; first | done | with_reducible rfl)
    try simp only [List.getElem_toArray, List.getElem_cons_succ, List.getElem_cons_zero, Act.put, List.setIfInBounds_toArray, List.set_cons_zero, List.set_cons_succ]
    refine wpAnyH_done (by kernel_rfl) ?_ _
    refine NoPanic.normal ?_
    have hz4 := (Hzf.out.set_ 0 (.slice S3 R.1.s.length c3)).set_ 1 (.slice C3 R.1.c.length d3)
    have e0 := hz4.cell 0
    have e1 := hz4.cell 1
    simp at e0 e1
    have Hz4 := Lib.hid hz4
    clear hz4
    go_wp2_with fail
    refine bodyPost_ret (v := .tuple #[.agg #[.slice S3 R.1.s.length c3, .slice C3 R.1.c.length d3], .int .i64 R.2]) (by simp [results, Try.results6, go_sem, e0, e1]) rfl ?_
    rw [HE.out]
    exact gop_fin Hne.out Hof.out (HH.out.trans Hlf.out) Hzf.out (by simp) (by have := HH.out.size; simp; omega)
  · have hR0 : Ly.lay o p x = Ly.pool false (Ly.got x 0) o.width o.step := Ly.lay12 hk
    have hno : (Ly.pool false (Ly.got x 0) o.width o.step).2 ≠ 0 → (Ly.pool false (Ly.got x 0) o.width o.step).1 = Ly.none_ := Ly.pool_none
    have hun := (Ly.counts_ok hc)
    unfold Od.least Od.most Od.params at hun
    have hpl : p.length = 0 := by have := hun.1; have h3 := hun.2.2.2; rw [if_pos this] at h3; simp [hk] at h3; omega
    have hxl : x.length = 1 := by have := hun.1; have h1 := hun.2.1; have h2 := hun.2.2.1; rw [if_pos this] at h1 h2; simp [hk] at h1 h2; omega
    clear hun hc
    obtain ⟨bx, xo, S2, c2, C2, d2, rfl, lbx, x00, x01, hT2⟩ := HX.out.at_ (j := 0) (by omega)
    have hcall := fun (W : World) (h : Later w2 W) => calls_goU (pool_go false 2 S2 C2 c2 d2 (Ly.got x 0) o.width o.step W (.inr ⟨rfl, rfl⟩) (hT2.later (HH.out.trans h))) hno
    obtain ⟨R, hR⟩ : ∃ R, Ly.pool false (Ly.got x 0) o.width o.step = R := ⟨_, rfl⟩
    rw [hR] at hcall
    rw [hR] at hR0
    have HE := Lib.hid (hg0.trans hR0)
    clear hno
    have q1 : w2.cell? ⟨bx, xo, none⟩ = some (.slice S2 (Ly.got x 0).s.length c2) := HH.out.cell (by simpa using x00)
    have q2 : w2.cell? ⟨bx, xo + 1, none⟩ = some (.slice C2 (Ly.got x 0).c.length d2) := HH.out.cell (by simpa using x01)
    have q3 : w2.cell? ⟨w.heap.size, 2, none⟩ = some (.int .i64 o.width) := by rw [Hko.out.cell]; rfl
    have q4 : w2.cell? ⟨w.heap.size, 3, none⟩ = some (.int .i64 o.step) := by rw [Hko.out.cell]; rfl
    have x0 : w2.cell? ⟨w.heap.size, 0, none⟩ = some (.int .i64 12) := by rw [Hko.out.cell, ← hk]; rfl
    rw [hxl]
    have Hcall := Lib.hid hcall
    have HR := Lib.hid hR
    clear hcall hR hR0 hT2
    have lx1 : bx < w2.heap.size := Nat.lt_of_lt_of_le lbx HH.out.size
    go_upto_region 14 with fail
    clear x0 hk
    refine wp_region_noPanic ?_
    refine wp_region_held_drew (S := fun X => X.cell? ⟨bx, xo, none⟩ = some (.slice S2 (Ly.got x 0).s.length c2) ∧ X.cell? ⟨bx, xo + 1, none⟩ = some (.slice C2 (Ly.got x 0).c.length d2) ∧ X.cell? ⟨w.heap.size, 2, none⟩ = some (.int .i64 o.width) ∧ X.cell? ⟨w.heap.size, 3, none⟩ = some (.int .i64 o.step)) (by kernel_rfl) ?_ (fun hHeld => ?_)
    · (try dsimp only); (first | (with_reducible exact ⟨q1, q2, q3, q4⟩) | exact ⟨Later.cell (show Later w2 _ by repeat (first | (with_reducible exact Later.refl _) | (with_reducible apply Later.drew) | (with_reducible apply Later.drewN) | (with_reducible apply Later.alloc) | (with_reducible refine Later.call ?_ (by assumption)))) q1, Later.cell (show Later w2 _ by repeat (first | (with_reducible exact Later.refl _) | (with_reducible apply Later.drew) | (with_reducible apply Later.drewN) | (with_reducible apply Later.alloc) | (with_reducible refine Later.call ?_ (by assumption)))) q2, Later.cell (show Later w2 _ by repeat (first | (with_reducible exact Later.refl _) | (with_reducible apply Later.drew) | (with_reducible apply Later.drewN) | (with_reducible apply Later.alloc) | (with_reducible refine Later.call ?_ (by assumption)))) q3, Later.cell (show Later w2 _ by repeat (first | (with_reducible exact Later.refl _) | (with_reducible apply Later.drew) | (with_reducible apply Later.drewN) | (with_reducible apply Later.alloc) | (with_reducible refine Later.call ?_ (by assumption)))) q4⟩)
    refine wpAnyH_take (i := 0) (oi := _) (v := ?mv51) rfl (by kernel_rfl) (by kernel_rfl) (by kernel_rfl) (fun _ _ _ h => h) (Or.inl ⟨by rfl, ?my51⟩) (by assumption) ?mr51
    case my51 => (simp only [List.getElem_toArray, List.getElem_cons_zero]; intro w hSw; (try dsimp only at hSw); go_simp; first | done | with_reducible rfl)
    try simp only [List.getElem_toArray, List.getElem_cons_zero, Act.put, List.setIfInBounds_toArray, List.set_cons_zero, List.set_cons_succ]
    refine wpAnyH_take (i := 1) (oi := _) (v := ?mv52) rfl (by kernel_rfl) (by kernel_rfl) (by kernel_rfl) (fun _ _ _ h => h) (Or.inl ⟨by rfl, ?my52⟩) (by assumption) ?mr52
    case my52 => (simp only [List.getElem_toArray, List.getElem_cons_succ, List.getElem_cons_zero]; intro w hSw; (try dsimp only at hSw); go_simp; first | done | with_reducible rfl)
    try simp only [List.getElem_toArray, List.getElem_cons_succ, List.getElem_cons_zero, Act.put, List.setIfInBounds_toArray, List.set_cons_zero, List.set_cons_succ]
    refine wpAnyH_take (i := 2) (oi := _) (v := ?mv53) rfl (by kernel_rfl) (by kernel_rfl) (by kernel_rfl) (fun _ _ _ h => h) (Or.inl ⟨by rfl, ?my53⟩) (by assumption) ?mr53
    case my53 => (simp only [List.getElem_toArray, List.getElem_cons_succ, List.getElem_cons_zero]; intro w hSw; (try dsimp only at hSw); go_simp; first | done | with_reducible rfl)
    try simp only [List.getElem_toArray, List.getElem_cons_succ, List.getElem_cons_zero, Act.put, List.setIfInBounds_toArray, List.set_cons_zero, List.set_cons_succ]
    refine wpAnyH_take (i := 3) (oi := _) (v := ?mv54) rfl (by kernel_rfl) (by kernel_rfl) (by kernel_rfl) (fun _ _ _ h => h) (Or.inl ⟨by rfl, ?my54⟩) (by assumption) ?mr54
    case my54 => (simp only [List.getElem_toArray, List.getElem_cons_succ, List.getElem_cons_zero]; intro w hSw; (try dsimp only at hSw); go_simp; first | done | with_reducible rfl)
    try simp only [List.getElem_toArray, List.getElem_cons_succ, List.getElem_cons_zero, Act.put, List.setIfInBounds_toArray, List.set_cons_zero, List.set_cons_succ]
    refine wpAnyH_take (i := 4) (oi := _) (v := ?mv55) rfl (by kernel_rfl) (by kernel_rfl) (by kernel_rfl) (fun _ _ _ h => h) (Or.inl ⟨by rfl, ?my55⟩) (by assumption) ?mr55
    case my55 => (simp only [List.getElem_toArray, List.getElem_cons_succ, List.getElem_cons_zero]; intro w hSw; (try dsimp only at hSw); go_simp; first | done | with_reducible rfl)
    try simp only [List.getElem_toArray, List.getElem_cons_succ, List.getElem_cons_zero, Act.put, List.setIfInBounds_toArray, List.set_cons_zero, List.set_cons_succ]
    refine wpAnyH_take (i := 5) (oi := _) (v := ?mv56) rfl (by kernel_rfl) (by kernel_rfl) (by kernel_rfl) (fun _ _ _ h => h) (Or.inl ⟨by rfl, ?my56⟩) (by assumption) ?mr56
    case my56 => (simp only [List.getElem_toArray, List.getElem_cons_succ, List.getElem_cons_zero]; intro w hSw; (try dsimp only at hSw); go_simp; first | done | with_reducible rfl)
    try simp only [List.getElem_toArray, List.getElem_cons_succ, List.getElem_cons_zero, Act.put, List.setIfInBounds_toArray, List.set_cons_zero, List.set_cons_succ]
    refine wpAnyH_take (i := 6) (oi := _) (v := ?mv57) rfl (by kernel_rfl) (by kernel_rfl) (by kernel_rfl) (fun _ _ _ h => h) (Or.inl ⟨by rfl, ?my57⟩) (by assumption) ?mr57
    case my57 => (simp only [List.getElem_toArray, List.getElem_cons_succ, List.getElem_cons_zero]; intro w hSw; (try dsimp only at hSw); go_simp; first | done | with_reducible rfl)
    try simp only [List.getElem_toArray, List.getElem_cons_succ, List.getElem_cons_zero, Act.put, List.setIfInBounds_toArray, List.set_cons_zero, List.set_cons_succ]
    refine wpAnyH_ready (rs := [7]) (by kernel_rfl) (by simp) ?_
    refine AllReadyH.cons (o := _) rfl (fun K hK => ?_) AllReadyH.nil
    simp only [List.getElem_toArray, List.getElem_cons_succ, List.getElem_cons_zero]
    go_simp
    go_at_call 20
    (with_reducible refine (Hcall.out _ (show Later w2 _ by repeat (first | (with_reducible exact Later.refl _) | (with_reducible apply Later.drew) | (with_reducible apply Later.drewN) | (with_reducible apply Later.alloc) | (with_reducible refine Later.call ?_ (by assumption))))).mono ?_)
    rintro e wf ⟨S3, c3, C3, d3, rfl, hne, hof, hbf⟩
    have hlf : Later w2 wf := Later.trans (show Later w2 (World.drew w2) by repeat (first | (with_reducible exact Later.refl _) | (with_reducible apply Later.drew) | (with_reducible apply Later.drewN) | (with_reducible apply Later.alloc) | (with_reducible refine Later.call ?_ (by assumption)))) hbf
    have hzf := hlf.blk Hz.out
    have c0' := hzf.cell 0
    have c1' := hzf.cell 1
    have f0' := hzf.frozen 0
    have f1' := hzf.frozen 1
    simp at c0' c1'
    have Hne := Lib.hid hne
    have Hof := Lib.hid hof
    have Hzf := Lib.hid hzf
    have Hlf := Lib.hid hlf
    clear hne hof hzf hlf
    try go_wp2_with fail
    refine hK.out _ _ ?_ (fun hHeld => ?_)
    · (try dsimp only); (first | (with_reducible exact ⟨q1, q2, q3, q4⟩) | exact ⟨Later.cell (show Later w2 _ by repeat (first | (with_reducible exact Later.refl _) | (with_reducible apply Later.drew) | (with_reducible apply Later.drewN) | (with_reducible apply Later.alloc) | (with_reducible refine Later.call ?_ (by assumption)))) q1, Later.cell (show Later w2 _ by repeat (first | (with_reducible exact Later.refl _) | (with_reducible apply Later.drew) | (with_reducible apply Later.drewN) | (with_reducible apply Later.alloc) | (with_reducible refine Later.call ?_ (by assumption)))) q2, Later.cell (show Later w2 _ by repeat (first | (with_reducible exact Later.refl _) | (with_reducible apply Later.drew) | (with_reducible apply Later.drewN) | (with_reducible apply Later.alloc) | (with_reducible refine Later.call ?_ (by assumption)))) q3, Later.cell (show Later w2 _ by repeat (first | (with_reducible exact Later.refl _) | (with_reducible apply Later.drew) | (with_reducible apply Later.drewN) | (with_reducible apply Later.alloc) | (with_reducible refine Later.call ?_ (by assumption)))) q4⟩)
    clear hK K
    try simp only [List.getElem_toArray, List.getElem_cons_succ, List.getElem_cons_zero, Act.put, List.setIfInBounds_toArray, List.set_cons_zero, List.set_cons_succ]
    refine wpAnyH_take (i := 8) (oi := _) (v := ?mv59) rfl (by kernel_rfl) (by kernel_rfl) (by kernel_rfl) (fun _ _ _ h => h) (Or.inl ⟨by rfl, ?my59⟩) (by assumption) ?mr59
    case my59 => (simp only [List.getElem_toArray, List.getElem_cons_succ, List.getElem_cons_zero]; intro w hSw; (try dsimp only at hSw); go_simp; first | done | with_reducible rfl)
    try simp only [List.getElem_toArray, List.getElem_cons_succ, List.getElem_cons_zero, Act.put, List.setIfInBounds_toArray, List.set_cons_zero, List.set_cons_succ]
    refine wpAnyH_take (i := 9) (oi := _) (v := ?mv60) rfl (by kernel_rfl) (by kernel_rfl) (by kernel_rfl) (fun _ _ _ h => h) (Or.inl ⟨by rfl, ?my60⟩) (by assumption) ?mr60
    case my60 => (simp only [List.getElem_toArray, List.getElem_cons_succ, List.getElem_cons_zero]; intro w hSw; (try dsimp only at hSw); go_simp; first | done | with_reducible rfl)
    try simp only [List.getElem_toArray, List.getElem_cons_succ, List.getElem_cons_zero, Act.put, List.setIfInBounds_toArray, List.set_cons_zero, List.set_cons_succ]
    refine wpAnyH_ready (rs := [10]) (by kernel_rfl) (by simp) ?_
    refine AllReadyH.cons (o := _) rfl (fun K hK => ?_) AllReadyH.nil
    simp only [List.getElem_toArray, List.getElem_cons_succ, List.getElem_cons_zero]
    go_simp
    refine hK.out _ _ ?_ (fun hHeld => ?_)
    · (try dsimp only); (refine ⟨?_, ?_, ?_, ?_⟩ <;> (repeat (refine cell_setfar ?_ (by first | omega | (simp; done) | (simp; omega)))) <;> (refine Later.cell (show Later w2 _ by repeat (first | (with_reducible exact Later.refl _) | (with_reducible apply Later.drew) | (with_reducible apply Later.drewN) | (with_reducible apply Later.alloc) | (with_reducible refine Later.call ?_ (by assumption)))) ?_) <;> assumption)
    clear hK K
    try simp only [List.getElem_toArray, List.getElem_cons_succ, List.getElem_cons_zero, Act.put, List.setIfInBounds_toArray, List.set_cons_zero, List.set_cons_succ]
    refine wpAnyH_take (i := 11) (oi := _) (v := ?mv62) rfl (by kernel_rfl) (by kernel_rfl) (by kernel_rfl) (fun _ _ _ h => h) (Or.inl ⟨by rfl, ?my62⟩) (by assumption) ?mr62
    case my62 => (simp only [List.getElem_toArray, List.getElem_cons_succ, List.getElem_cons_zero]; intro w hSw; (try dsimp only at hSw); go_simp; first | done | with_reducible rfl)
    try simp only [List.getElem_toArray, List.getElem_cons_succ, List.getElem_cons_zero, Act.put, List.setIfInBounds_toArray, List.set_cons_zero, List.set_cons_succ]
    refine wpAnyH_done (by kernel_rfl) ?_ _
    refine NoPanic.normal ?_
    have hz4 := (Hzf.out.set_ 0 (.slice S3 R.1.s.length c3)).set_ 1 (.slice C3 R.1.c.length d3)
    have e0 := hz4.cell 0
    have e1 := hz4.cell 1
    simp at e0 e1
    have Hz4 := Lib.hid hz4
    clear hz4
    go_wp2_with fail
    refine bodyPost_ret (v := .tuple #[.agg #[.slice S3 R.1.s.length c3, .slice C3 R.1.c.length d3], .int .i64 R.2]) (by simp [results, Try.results6, go_sem, e0, e1]) rfl ?_
    rw [HE.out]
    exact gop_fin Hne.out Hof.out (HH.out.trans Hlf.out) Hzf.out (by simp) (by have := HH.out.size; simp; omega)
  · have hR0 : Ly.lay o p x = Ly.join o.side x := Ly.lay13 hk
    have hno : (Ly.join o.side x).2 ≠ 0 → (Ly.join o.side x).1 = Ly.none_ := Ly.join_none
    have hun := (Ly.counts_ok hc)
    unfold Od.least Od.most Od.params at hun
    have hpl : p.length = 0 := by have := hun.1; have h3 := hun.2.2.2; rw [if_pos this] at h3; simp [hk] at h3; omega
    clear hun hc
    have hcall := fun (W : World) (h : Later w2 W) => calls_goU (move_join o.side X cx x W lX kX mX (HX.out.later (HH.out.trans h))) hno
    obtain ⟨R, hR⟩ : ∃ R, Ly.join o.side x = R := ⟨_, rfl⟩
    rw [hR] at hcall
    rw [hR] at hR0
    have HE := Lib.hid (hg0.trans hR0)
    clear hno
    have q1 : w2.cell? ⟨w.heap.size, 4, none⟩ = some (.int .i64 o.side) := by rw [Hko.out.cell]; rfl
    have x0 : w2.cell? ⟨w.heap.size, 0, none⟩ = some (.int .i64 13) := by rw [Hko.out.cell, ← hk]; rfl
    have Hcall := Lib.hid hcall
    have HR := Lib.hid hR
    clear hcall hR hR0
    go_wp2_with fail
    refine (Hcall.out _ (Later.refl _)).mono ?_
    rintro e wf ⟨S3, c3, C3, d3, rfl, hne, hof, hbf⟩
    have hlf : Later w2 wf := hbf
    have hzf := hlf.blk Hz.out
    have c0' := hzf.cell 0
    have c1' := hzf.cell 1
    have f0' := hzf.frozen 0
    have f1' := hzf.frozen 1
    simp at c0' c1'
    have Hne := Lib.hid hne
    have Hof := Lib.hid hof
    have Hzf := Lib.hid hzf
    have Hlf := Lib.hid hlf
    clear hne hof hzf hlf
    have hz4 := (Hzf.out.set_ 0 (.slice S3 R.1.s.length c3)).set_ 1 (.slice C3 R.1.c.length d3)
    have e0 := hz4.cell 0
    have e1 := hz4.cell 1
    simp at e0 e1
    have Hz4 := Lib.hid hz4
    clear hz4
    go_wp2_with fail
    refine bodyPost_ret (v := .tuple #[.agg #[.slice S3 R.1.s.length c3, .slice C3 R.1.c.length d3], .int .i64 R.2]) (by simp [results, Try.results6, go_sem, e0, e1]) rfl ?_
    rw [HE.out]
    exact gop_fin Hne.out Hof.out (HH.out.trans Hlf.out) Hzf.out (by simp) (by have := HH.out.size; simp; omega)
  · have hR0 : Ly.lay o p x = Ly.cut (Ly.got x 0) o.side o.frm o.to := Ly.lay14 hk
    have hno : (Ly.cut (Ly.got x 0) o.side o.frm o.to).2 ≠ 0 → (Ly.cut (Ly.got x 0) o.side o.frm o.to).1 = Ly.none_ := Ly.cut_none
    have hun := (Ly.counts_ok hc)
    unfold Od.least Od.most Od.params at hun
    have hpl : p.length = 0 := by have := hun.1; have h3 := hun.2.2.2; rw [if_pos this] at h3; simp [hk] at h3; omega
    have hxl : x.length = 1 := by have := hun.1; have h1 := hun.2.1; have h2 := hun.2.2.1; rw [if_pos this] at h1 h2; simp [hk] at h1 h2; omega
    clear hun hc
    obtain ⟨bx, xo, S2, c2, C2, d2, rfl, lbx, x00, x01, hT2⟩ := HX.out.at_ (j := 0) (by omega)
    have hcall := fun (W : World) (h : Later w2 W) => calls_goU (move_cut S2 C2 c2 d2 (Ly.got x 0) o.side o.frm o.to W (hT2.later (HH.out.trans h))) hno
    obtain ⟨R, hR⟩ : ∃ R, Ly.cut (Ly.got x 0) o.side o.frm o.to = R := ⟨_, rfl⟩
    rw [hR] at hcall
    rw [hR] at hR0
    have HE := Lib.hid (hg0.trans hR0)
    clear hno
    have q1 : w2.cell? ⟨bx, xo, none⟩ = some (.slice S2 (Ly.got x 0).s.length c2) := HH.out.cell (by simpa using x00)
    have q2 : w2.cell? ⟨bx, xo + 1, none⟩ = some (.slice C2 (Ly.got x 0).c.length d2) := HH.out.cell (by simpa using x01)
    have q3 : w2.cell? ⟨w.heap.size, 4, none⟩ = some (.int .i64 o.side) := by rw [Hko.out.cell]; rfl
    have q4 : w2.cell? ⟨w.heap.size, 5, none⟩ = some (.int .i64 o.frm) := by rw [Hko.out.cell]; rfl
    have q5 : w2.cell? ⟨w.heap.size, 6, none⟩ = some (.int .i64 o.to) := by rw [Hko.out.cell]; rfl
    have x0 : w2.cell? ⟨w.heap.size, 0, none⟩ = some (.int .i64 14) := by rw [Hko.out.cell, ← hk]; rfl
    rw [hxl]
    have Hcall := Lib.hid hcall
    have HR := Lib.hid hR
    clear hcall hR hR0 hT2
    have lx1 : bx < w2.heap.size := Nat.lt_of_lt_of_le lbx HH.out.size
    go_upto_region 18 with fail
    clear x0 hk
    refine wp_region_noPanic ?_
    refine wp_region_held_drew (S := fun X => X.cell? ⟨bx, xo, none⟩ = some (.slice S2 (Ly.got x 0).s.length c2) ∧ X.cell? ⟨bx, xo + 1, none⟩ = some (.slice C2 (Ly.got x 0).c.length d2) ∧ X.cell? ⟨w.heap.size, 4, none⟩ = some (.int .i64 o.side) ∧ X.cell? ⟨w.heap.size, 5, none⟩ = some (.int .i64 o.frm) ∧ X.cell? ⟨w.heap.size, 6, none⟩ = some (.int .i64 o.to)) (by kernel_rfl) ?_ (fun hHeld => ?_)
    · (try dsimp only); (first | (with_reducible exact ⟨q1, q2, q3, q4, q5⟩) | exact ⟨Later.cell (show Later w2 _ by repeat (first | (with_reducible exact Later.refl _) | (with_reducible apply Later.drew) | (with_reducible apply Later.drewN) | (with_reducible apply Later.alloc) | (with_reducible refine Later.call ?_ (by assumption)))) q1, Later.cell (show Later w2 _ by repeat (first | (with_reducible exact Later.refl _) | (with_reducible apply Later.drew) | (with_reducible apply Later.drewN) | (with_reducible apply Later.alloc) | (with_reducible refine Later.call ?_ (by assumption)))) q2, Later.cell (show Later w2 _ by repeat (first | (with_reducible exact Later.refl _) | (with_reducible apply Later.drew) | (with_reducible apply Later.drewN) | (with_reducible apply Later.alloc) | (with_reducible refine Later.call ?_ (by assumption)))) q3, Later.cell (show Later w2 _ by repeat (first | (with_reducible exact Later.refl _) | (with_reducible apply Later.drew) | (with_reducible apply Later.drewN) | (with_reducible apply Later.alloc) | (with_reducible refine Later.call ?_ (by assumption)))) q4, Later.cell (show Later w2 _ by repeat (first | (with_reducible exact Later.refl _) | (with_reducible apply Later.drew) | (with_reducible apply Later.drewN) | (with_reducible apply Later.alloc) | (with_reducible refine Later.call ?_ (by assumption)))) q5⟩)
    refine wpAnyH_take (i := 0) (oi := _) (v := ?mv63) rfl (by kernel_rfl) (by kernel_rfl) (by kernel_rfl) (fun _ _ _ h => h) (Or.inl ⟨by rfl, ?my63⟩) (by assumption) ?mr63
    case my63 => (simp only [List.getElem_toArray, List.getElem_cons_zero]; intro w hSw; (try dsimp only at hSw); go_simp; first | done | with_reducible rfl)
    try simp only [List.getElem_toArray, List.getElem_cons_zero, Act.put, List.setIfInBounds_toArray, List.set_cons_zero, List.set_cons_succ]
    refine wpAnyH_take (i := 1) (oi := _) (v := ?mv64) rfl (by kernel_rfl) (by kernel_rfl) (by kernel_rfl) (fun _ _ _ h => h) (Or.inl ⟨by rfl, ?my64⟩) (by assumption) ?mr64
    case my64 => (simp only [List.getElem_toArray, List.getElem_cons_succ, List.getElem_cons_zero]; intro w hSw; (try dsimp only at hSw); go_simp; first | done | with_reducible rfl)
    try simp only [List.getElem_toArray, List.getElem_cons_succ, List.getElem_cons_zero, Act.put, List.setIfInBounds_toArray, List.set_cons_zero, List.set_cons_succ]
    refine wpAnyH_take (i := 2) (oi := _) (v := ?mv65) rfl (by kernel_rfl) (by kernel_rfl) (by kernel_rfl) (fun _ _ _ h => h) (Or.inl ⟨by rfl, ?my65⟩) (by assumption) ?mr65
    case my65 => (simp only [List.getElem_toArray, List.getElem_cons_succ, List.getElem_cons_zero]; intro w hSw; (try dsimp only at hSw); go_simp; first | done | with_reducible rfl)
    try simp only [List.getElem_toArray, List.getElem_cons_succ, List.getElem_cons_zero, Act.put, List.setIfInBounds_toArray, List.set_cons_zero, List.set_cons_succ]
    refine wpAnyH_take (i := 3) (oi := _) (v := ?mv66) rfl (by kernel_rfl) (by kernel_rfl) (by kernel_rfl) (fun _ _ _ h => h) (Or.inl ⟨by rfl, ?my66⟩) (by assumption) ?mr66
    case my66 => (simp only [List.getElem_toArray, List.getElem_cons_succ, List.getElem_cons_zero]; intro w hSw; (try dsimp only at hSw); go_simp; first | done | with_reducible rfl)
    try simp only [List.getElem_toArray, List.getElem_cons_succ, List.getElem_cons_zero, Act.put, List.setIfInBounds_toArray, List.set_cons_zero, List.set_cons_succ]
    refine wpAnyH_take (i := 4) (oi := _) (v := ?mv67) rfl (by kernel_rfl) (by kernel_rfl) (by kernel_rfl) (fun _ _ _ h => h) (Or.inl ⟨by rfl, ?my67⟩) (by assumption) ?mr67
    case my67 => (simp only [List.getElem_toArray, List.getElem_cons_succ, List.getElem_cons_zero]; intro w hSw; (try dsimp only at hSw); go_simp; first | done | with_reducible rfl)
    try simp only [List.getElem_toArray, List.getElem_cons_succ, List.getElem_cons_zero, Act.put, List.setIfInBounds_toArray, List.set_cons_zero, List.set_cons_succ]
    refine wpAnyH_take (i := 5) (oi := _) (v := ?mv68) rfl (by kernel_rfl) (by kernel_rfl) (by kernel_rfl) (fun _ _ _ h => h) (Or.inl ⟨by rfl, ?my68⟩) (by assumption) ?mr68
    case my68 => (simp only [List.getElem_toArray, List.getElem_cons_succ, List.getElem_cons_zero]; intro w hSw; (try dsimp only at hSw); go_simp; first | done | with_reducible rfl)
    try simp only [List.getElem_toArray, List.getElem_cons_succ, List.getElem_cons_zero, Act.put, List.setIfInBounds_toArray, List.set_cons_zero, List.set_cons_succ]
    refine wpAnyH_take (i := 6) (oi := _) (v := ?mv69) rfl (by kernel_rfl) (by kernel_rfl) (by kernel_rfl) (fun _ _ _ h => h) (Or.inl ⟨by rfl, ?my69⟩) (by assumption) ?mr69
    case my69 => (simp only [List.getElem_toArray, List.getElem_cons_succ, List.getElem_cons_zero]; intro w hSw; (try dsimp only at hSw); go_simp; first | done | with_reducible rfl)
    try simp only [List.getElem_toArray, List.getElem_cons_succ, List.getElem_cons_zero, Act.put, List.setIfInBounds_toArray, List.set_cons_zero, List.set_cons_succ]
    refine wpAnyH_take (i := 7) (oi := _) (v := ?mv70) rfl (by kernel_rfl) (by kernel_rfl) (by kernel_rfl) (fun _ _ _ h => h) (Or.inl ⟨by rfl, ?my70⟩) (by assumption) ?mr70
    case my70 => (simp only [List.getElem_toArray, List.getElem_cons_succ, List.getElem_cons_zero]; intro w hSw; (try dsimp only at hSw); go_simp; first | done | with_reducible rfl)
    try simp only [List.getElem_toArray, List.getElem_cons_succ, List.getElem_cons_zero, Act.put, List.setIfInBounds_toArray, List.set_cons_zero, List.set_cons_succ]
    refine wpAnyH_take (i := 8) (oi := _) (v := ?mv71) rfl (by kernel_rfl) (by kernel_rfl) (by kernel_rfl) (fun _ _ _ h => h) (Or.inl ⟨by rfl, ?my71⟩) (by assumption) ?mr71
    case my71 => (simp only [List.getElem_toArray, List.getElem_cons_succ, List.getElem_cons_zero]; intro w hSw; (try dsimp only at hSw); go_simp; first | done | with_reducible rfl)
    try simp only [List.getElem_toArray, List.getElem_cons_succ, List.getElem_cons_zero, Act.put, List.setIfInBounds_toArray, List.set_cons_zero, List.set_cons_succ]
    refine wpAnyH_ready (rs := [9]) (by kernel_rfl) (by simp) ?_
    refine AllReadyH.cons (o := _) rfl (fun K hK => ?_) AllReadyH.nil
    simp only [List.getElem_toArray, List.getElem_cons_succ, List.getElem_cons_zero]
    go_simp
    go_at_call 22
    (with_reducible refine (Hcall.out _ (show Later w2 _ by repeat (first | (with_reducible exact Later.refl _) | (with_reducible apply Later.drew) | (with_reducible apply Later.drewN) | (with_reducible apply Later.alloc) | (with_reducible refine Later.call ?_ (by assumption))))).mono ?_)
    rintro e wf ⟨S3, c3, C3, d3, rfl, hne, hof, hbf⟩
    have hlf : Later w2 wf := Later.trans (show Later w2 (World.drew w2) by repeat (first | (with_reducible exact Later.refl _) | (with_reducible apply Later.drew) | (with_reducible apply Later.drewN) | (with_reducible apply Later.alloc) | (with_reducible refine Later.call ?_ (by assumption)))) hbf
    have hzf := hlf.blk Hz.out
    have c0' := hzf.cell 0
    have c1' := hzf.cell 1
    have f0' := hzf.frozen 0
    have f1' := hzf.frozen 1
    simp at c0' c1'
    have Hne := Lib.hid hne
    have Hof := Lib.hid hof
    have Hzf := Lib.hid hzf
    have Hlf := Lib.hid hlf
    clear hne hof hzf hlf
    try go_wp2_with fail
    refine hK.out _ _ ?_ (fun hHeld => ?_)
    · (try dsimp only); (first | (with_reducible exact ⟨q1, q2, q3, q4, q5⟩) | exact ⟨Later.cell (show Later w2 _ by repeat (first | (with_reducible exact Later.refl _) | (with_reducible apply Later.drew) | (with_reducible apply Later.drewN) | (with_reducible apply Later.alloc) | (with_reducible refine Later.call ?_ (by assumption)))) q1, Later.cell (show Later w2 _ by repeat (first | (with_reducible exact Later.refl _) | (with_reducible apply Later.drew) | (with_reducible apply Later.drewN) | (with_reducible apply Later.alloc) | (with_reducible refine Later.call ?_ (by assumption)))) q2, Later.cell (show Later w2 _ by repeat (first | (with_reducible exact Later.refl _) | (with_reducible apply Later.drew) | (with_reducible apply Later.drewN) | (with_reducible apply Later.alloc) | (with_reducible refine Later.call ?_ (by assumption)))) q3, Later.cell (show Later w2 _ by repeat (first | (with_reducible exact Later.refl _) | (with_reducible apply Later.drew) | (with_reducible apply Later.drewN) | (with_reducible apply Later.alloc) | (with_reducible refine Later.call ?_ (by assumption)))) q4, Later.cell (show Later w2 _ by repeat (first | (with_reducible exact Later.refl _) | (with_reducible apply Later.drew) | (with_reducible apply Later.drewN) | (with_reducible apply Later.alloc) | (with_reducible refine Later.call ?_ (by assumption)))) q5⟩)
    clear hK K
    try simp only [List.getElem_toArray, List.getElem_cons_succ, List.getElem_cons_zero, Act.put, List.setIfInBounds_toArray, List.set_cons_zero, List.set_cons_succ]
    refine wpAnyH_take (i := 10) (oi := _) (v := ?mv73) rfl (by kernel_rfl) (by kernel_rfl) (by kernel_rfl) (fun _ _ _ h => h) (Or.inl ⟨by rfl, ?my73⟩) (by assumption) ?mr73
    case my73 => (simp only [List.getElem_toArray, List.getElem_cons_succ, List.getElem_cons_zero]; intro w hSw; (try dsimp only at hSw); go_simp; first | done | with_reducible rfl)
    try simp only [List.getElem_toArray, List.getElem_cons_succ, List.getElem_cons_zero, Act.put, List.setIfInBounds_toArray, List.set_cons_zero, List.set_cons_succ]
    refine wpAnyH_take (i := 11) (oi := _) (v := ?mv74) rfl (by kernel_rfl) (by kernel_rfl) (by kernel_rfl) (fun _ _ _ h => h) (Or.inl ⟨by rfl, ?my74⟩) (by assumption) ?mr74
    case my74 => (simp only [List.getElem_toArray, List.getElem_cons_succ, List.getElem_cons_zero]; intro w hSw; (try dsimp only at hSw); go_simp; first | done | with_reducible rfl)
    try simp only [List.getElem_toArray, List.getElem_cons_succ, List.getElem_cons_zero, Act.put, List.setIfInBounds_toArray, List.set_cons_zero, List.set_cons_succ]
    refine wpAnyH_ready (rs := [12]) (by kernel_rfl) (by simp) ?_
    refine AllReadyH.cons (o := _) rfl (fun K hK => ?_) AllReadyH.nil
    simp only [List.getElem_toArray, List.getElem_cons_succ, List.getElem_cons_zero]
    go_simp
    refine hK.out _ _ ?_ (fun hHeld => ?_)
    · (try dsimp only); (refine ⟨?_, ?_, ?_, ?_, ?_⟩ <;> (repeat (refine cell_setfar ?_ (by first | omega | (simp; done) | (simp; omega)))) <;> (refine Later.cell (show Later w2 _ by repeat (first | (with_reducible exact Later.refl _) | (with_reducible apply Later.drew) | (with_reducible apply Later.drewN) | (with_reducible apply Later.alloc) | (with_reducible refine Later.call ?_ (by assumption)))) ?_) <;> assumption)
    clear hK K
    try simp only [List.getElem_toArray, List.getElem_cons_succ, List.getElem_cons_zero, Act.put, List.setIfInBounds_toArray, List.set_cons_zero, List.set_cons_succ]
    refine wpAnyH_take (i := 13) (oi := _) (v := ?mv76) rfl (by kernel_rfl) (by kernel_rfl) (by kernel_rfl) (fun _ _ _ h => h) (Or.inl ⟨by rfl, ?my76⟩) (by assumption) ?mr76
    case my76 => (simp only [List.getElem_toArray, List.getElem_cons_succ, List.getElem_cons_zero]; intro w hSw; (try dsimp only at hSw); go_simp; first | done | with_reducible rfl)
    try simp only [List.getElem_toArray, List.getElem_cons_succ, List.getElem_cons_zero, Act.put, List.setIfInBounds_toArray, List.set_cons_zero, List.set_cons_succ]
    refine wpAnyH_done (by kernel_rfl) ?_ _
    refine NoPanic.normal ?_
    have hz4 := (Hzf.out.set_ 0 (.slice S3 R.1.s.length c3)).set_ 1 (.slice C3 R.1.c.length d3)
    have e0 := hz4.cell 0
    have e1 := hz4.cell 1
    simp at e0 e1
    have Hz4 := Lib.hid hz4
    clear hz4
    go_wp2_with fail
    refine bodyPost_ret (v := .tuple #[.agg #[.slice S3 R.1.s.length c3, .slice C3 R.1.c.length d3], .int .i64 R.2]) (by simp [results, Try.results6, go_sem, e0, e1]) rfl ?_
    rw [HE.out]
    exact gop_fin Hne.out Hof.out (HH.out.trans Hlf.out) Hzf.out (by simp) (by have := HH.out.size; simp; omega)
  · have hR0 : Ly.lay o p x = Ly.turn (Ly.got x 0) o.s := Ly.lay15 hk
    have hno : (Ly.turn (Ly.got x 0) o.s).2 ≠ 0 → (Ly.turn (Ly.got x 0) o.s).1 = Ly.none_ := Ly.turn_none
    have hun := (Ly.counts_ok hc)
    unfold Od.least Od.most Od.params at hun
    have hpl : p.length = 0 := by have := hun.1; have h3 := hun.2.2.2; rw [if_pos this] at h3; simp [hk] at h3; omega
    have hxl : x.length = 1 := by have := hun.1; have h1 := hun.2.1; have h2 := hun.2.2.1; rw [if_pos this] at h1 h2; simp [hk] at h1 h2; omega
    clear hun hc
    obtain ⟨bx, xo, S2, c2, C2, d2, rfl, lbx, x00, x01, hT2⟩ := HX.out.at_ (j := 0) (by omega)
    have hcall := fun (W : World) (h : Later w2 W) => calls_goU (move_turn S2 C2 S c2 d2 c (Ly.got x 0) o.s W (hT2.later (HH.out.trans h)) (HI.out.below (HH.out.trans h) (Nat.le_refl _)) ho) hno
    obtain ⟨R, hR⟩ : ∃ R, Ly.turn (Ly.got x 0) o.s = R := ⟨_, rfl⟩
    rw [hR] at hcall
    rw [hR] at hR0
    have HE := Lib.hid (hg0.trans hR0)
    clear hno
    have q1 : w2.cell? ⟨bx, xo, none⟩ = some (.slice S2 (Ly.got x 0).s.length c2) := HH.out.cell (by simpa using x00)
    have q2 : w2.cell? ⟨bx, xo + 1, none⟩ = some (.slice C2 (Ly.got x 0).c.length d2) := HH.out.cell (by simpa using x01)
    have q3 : w2.cell? ⟨w.heap.size, 7, none⟩ = some (.slice S o.s.length c) := by rw [Hko.out.cell]; rfl
    have x0 : w2.cell? ⟨w.heap.size, 0, none⟩ = some (.int .i64 15) := by rw [Hko.out.cell, ← hk]; rfl
    rw [hxl]
    have Hcall := Lib.hid hcall
    have HR := Lib.hid hR
    clear hcall hR hR0 hT2
    have lx1 : bx < w2.heap.size := Nat.lt_of_lt_of_le lbx HH.out.size
    go_upto_region 20 with fail
    clear x0 hk
    refine wp_region_noPanic ?_
    refine wp_region_held_drew (S := fun X => X.cell? ⟨bx, xo, none⟩ = some (.slice S2 (Ly.got x 0).s.length c2) ∧ X.cell? ⟨bx, xo + 1, none⟩ = some (.slice C2 (Ly.got x 0).c.length d2) ∧ X.cell? ⟨w.heap.size, 7, none⟩ = some (.slice S o.s.length c)) (by kernel_rfl) ?_ (fun hHeld => ?_)
    · (try dsimp only); (first | (with_reducible exact ⟨q1, q2, q3⟩) | exact ⟨Later.cell (show Later w2 _ by repeat (first | (with_reducible exact Later.refl _) | (with_reducible apply Later.drew) | (with_reducible apply Later.drewN) | (with_reducible apply Later.alloc) | (with_reducible refine Later.call ?_ (by assumption)))) q1, Later.cell (show Later w2 _ by repeat (first | (with_reducible exact Later.refl _) | (with_reducible apply Later.drew) | (with_reducible apply Later.drewN) | (with_reducible apply Later.alloc) | (with_reducible refine Later.call ?_ (by assumption)))) q2, Later.cell (show Later w2 _ by repeat (first | (with_reducible exact Later.refl _) | (with_reducible apply Later.drew) | (with_reducible apply Later.drewN) | (with_reducible apply Later.alloc) | (with_reducible refine Later.call ?_ (by assumption)))) q3⟩)
    refine wpAnyH_take (i := 0) (oi := _) (v := ?mv77) rfl (by kernel_rfl) (by kernel_rfl) (by kernel_rfl) (fun _ _ _ h => h) (Or.inl ⟨by rfl, ?my77⟩) (by assumption) ?mr77
    case my77 => (simp only [List.getElem_toArray, List.getElem_cons_zero]; intro w hSw; (try dsimp only at hSw); go_simp; first | done | with_reducible rfl)
    try simp only [List.getElem_toArray, List.getElem_cons_zero, Act.put, List.setIfInBounds_toArray, List.set_cons_zero, List.set_cons_succ]
    refine wpAnyH_take (i := 1) (oi := _) (v := ?mv78) rfl (by kernel_rfl) (by kernel_rfl) (by kernel_rfl) (fun _ _ _ h => h) (Or.inl ⟨by rfl, ?my78⟩) (by assumption) ?mr78
    case my78 => (simp only [List.getElem_toArray, List.getElem_cons_succ, List.getElem_cons_zero]; intro w hSw; (try dsimp only at hSw); go_simp; first | done | with_reducible rfl)
    try simp only [List.getElem_toArray, List.getElem_cons_succ, List.getElem_cons_zero, Act.put, List.setIfInBounds_toArray, List.set_cons_zero, List.set_cons_succ]
    refine wpAnyH_take (i := 2) (oi := _) (v := ?mv79) rfl (by kernel_rfl) (by kernel_rfl) (by kernel_rfl) (fun _ _ _ h => h) (Or.inl ⟨by rfl, ?my79⟩) (by assumption) ?mr79
    case my79 => (simp only [List.getElem_toArray, List.getElem_cons_succ, List.getElem_cons_zero]; intro w hSw; (try dsimp only at hSw); go_simp; first | done | with_reducible rfl)
    try simp only [List.getElem_toArray, List.getElem_cons_succ, List.getElem_cons_zero, Act.put, List.setIfInBounds_toArray, List.set_cons_zero, List.set_cons_succ]
    refine wpAnyH_take (i := 3) (oi := _) (v := ?mv80) rfl (by kernel_rfl) (by kernel_rfl) (by kernel_rfl) (fun _ _ _ h => h) (Or.inl ⟨by rfl, ?my80⟩) (by assumption) ?mr80
    case my80 => (simp only [List.getElem_toArray, List.getElem_cons_succ, List.getElem_cons_zero]; intro w hSw; (try dsimp only at hSw); go_simp; first | done | with_reducible rfl)
    try simp only [List.getElem_toArray, List.getElem_cons_succ, List.getElem_cons_zero, Act.put, List.setIfInBounds_toArray, List.set_cons_zero, List.set_cons_succ]
    refine wpAnyH_take (i := 4) (oi := _) (v := ?mv81) rfl (by kernel_rfl) (by kernel_rfl) (by kernel_rfl) (fun _ _ _ h => h) (Or.inl ⟨by rfl, ?my81⟩) (by assumption) ?mr81
    case my81 => (simp only [List.getElem_toArray, List.getElem_cons_succ, List.getElem_cons_zero]; intro w hSw; (try dsimp only at hSw); go_simp; first | done | with_reducible rfl)
    try simp only [List.getElem_toArray, List.getElem_cons_succ, List.getElem_cons_zero, Act.put, List.setIfInBounds_toArray, List.set_cons_zero, List.set_cons_succ]
    refine wpAnyH_ready (rs := [5]) (by kernel_rfl) (by simp) ?_
    refine AllReadyH.cons (o := _) rfl (fun K hK => ?_) AllReadyH.nil
    simp only [List.getElem_toArray, List.getElem_cons_succ, List.getElem_cons_zero]
    go_simp
    go_at_call 23
    (with_reducible refine (Hcall.out _ (show Later w2 _ by repeat (first | (with_reducible exact Later.refl _) | (with_reducible apply Later.drew) | (with_reducible apply Later.drewN) | (with_reducible apply Later.alloc) | (with_reducible refine Later.call ?_ (by assumption))))).mono ?_)
    rintro e wf ⟨S3, c3, C3, d3, rfl, hne, hof, hbf⟩
    have hlf : Later w2 wf := Later.trans (show Later w2 (World.drew w2) by repeat (first | (with_reducible exact Later.refl _) | (with_reducible apply Later.drew) | (with_reducible apply Later.drewN) | (with_reducible apply Later.alloc) | (with_reducible refine Later.call ?_ (by assumption)))) hbf
    have hzf := hlf.blk Hz.out
    have c0' := hzf.cell 0
    have c1' := hzf.cell 1
    have f0' := hzf.frozen 0
    have f1' := hzf.frozen 1
    simp at c0' c1'
    have Hne := Lib.hid hne
    have Hof := Lib.hid hof
    have Hzf := Lib.hid hzf
    have Hlf := Lib.hid hlf
    clear hne hof hzf hlf
    try go_wp2_with fail
    refine hK.out _ _ ?_ (fun hHeld => ?_)
    · (try dsimp only); (first | (with_reducible exact ⟨q1, q2, q3⟩) | exact ⟨Later.cell (show Later w2 _ by repeat (first | (with_reducible exact Later.refl _) | (with_reducible apply Later.drew) | (with_reducible apply Later.drewN) | (with_reducible apply Later.alloc) | (with_reducible refine Later.call ?_ (by assumption)))) q1, Later.cell (show Later w2 _ by repeat (first | (with_reducible exact Later.refl _) | (with_reducible apply Later.drew) | (with_reducible apply Later.drewN) | (with_reducible apply Later.alloc) | (with_reducible refine Later.call ?_ (by assumption)))) q2, Later.cell (show Later w2 _ by repeat (first | (with_reducible exact Later.refl _) | (with_reducible apply Later.drew) | (with_reducible apply Later.drewN) | (with_reducible apply Later.alloc) | (with_reducible refine Later.call ?_ (by assumption)))) q3⟩)
    clear hK K
    try simp only [List.getElem_toArray, List.getElem_cons_succ, List.getElem_cons_zero, Act.put, List.setIfInBounds_toArray, List.set_cons_zero, List.set_cons_succ]
    refine wpAnyH_take (i := 6) (oi := _) (v := ?mv83) rfl (by kernel_rfl) (by kernel_rfl) (by kernel_rfl) (fun _ _ _ h => h) (Or.inl ⟨by rfl, ?my83⟩) (by assumption) ?mr83
    case my83 => (simp only [List.getElem_toArray, List.getElem_cons_succ, List.getElem_cons_zero]; intro w hSw; (try dsimp only at hSw); go_simp; first | done | with_reducible rfl)
    try simp only [List.getElem_toArray, List.getElem_cons_succ, List.getElem_cons_zero, Act.put, List.setIfInBounds_toArray, List.set_cons_zero, List.set_cons_succ]
    refine wpAnyH_take (i := 7) (oi := _) (v := ?mv84) rfl (by kernel_rfl) (by kernel_rfl) (by kernel_rfl) (fun _ _ _ h => h) (Or.inl ⟨by rfl, ?my84⟩) (by assumption) ?mr84
    case my84 => (simp only [List.getElem_toArray, List.getElem_cons_succ, List.getElem_cons_zero]; intro w hSw; (try dsimp only at hSw); go_simp; first | done | with_reducible rfl)
    try simp only [List.getElem_toArray, List.getElem_cons_succ, List.getElem_cons_zero, Act.put, List.setIfInBounds_toArray, List.set_cons_zero, List.set_cons_succ]
    refine wpAnyH_ready (rs := [8]) (by kernel_rfl) (by simp) ?_
    refine AllReadyH.cons (o := _) rfl (fun K hK => ?_) AllReadyH.nil
    simp only [List.getElem_toArray, List.getElem_cons_succ, List.getElem_cons_zero]
    go_simp
    refine hK.out _ _ ?_ (fun hHeld => ?_)
    · (try dsimp only); (refine ⟨?_, ?_, ?_⟩ <;> (repeat (refine cell_setfar ?_ (by first | omega | (simp; done) | (simp; omega)))) <;> (refine Later.cell (show Later w2 _ by repeat (first | (with_reducible exact Later.refl _) | (with_reducible apply Later.drew) | (with_reducible apply Later.drewN) | (with_reducible apply Later.alloc) | (with_reducible refine Later.call ?_ (by assumption)))) ?_) <;> assumption)
    clear hK K
    try simp only [List.getElem_toArray, List.getElem_cons_succ, List.getElem_cons_zero, Act.put, List.setIfInBounds_toArray, List.set_cons_zero, List.set_cons_succ]
    refine wpAnyH_take (i := 9) (oi := _) (v := ?mv86) rfl (by kernel_rfl) (by kernel_rfl) (by kernel_rfl) (fun _ _ _ h => h) (Or.inl ⟨by rfl, ?my86⟩) (by assumption) ?mr86
    case my86 => (simp only [List.getElem_toArray, List.getElem_cons_succ, List.getElem_cons_zero]; intro w hSw; (try dsimp only at hSw); go_simp; first | done | with_reducible rfl)
    try simp only [List.getElem_toArray, List.getElem_cons_succ, List.getElem_cons_zero, Act.put, List.setIfInBounds_toArray, List.set_cons_zero, List.set_cons_succ]
    refine wpAnyH_done (by kernel_rfl) ?_ _
    refine NoPanic.normal ?_
    have hz4 := (Hzf.out.set_ 0 (.slice S3 R.1.s.length c3)).set_ 1 (.slice C3 R.1.c.length d3)
    have e0 := hz4.cell 0
    have e1 := hz4.cell 1
    simp at e0 e1
    have Hz4 := Lib.hid hz4
    clear hz4
    go_wp2_with fail
    refine bodyPost_ret (v := .tuple #[.agg #[.slice S3 R.1.s.length c3, .slice C3 R.1.c.length d3], .int .i64 R.2]) (by simp [results, Try.results6, go_sem, e0, e1]) rfl ?_
    rw [HE.out]
    exact gop_fin Hne.out Hof.out (HH.out.trans Hlf.out) Hzf.out (by simp) (by have := HH.out.size; simp; omega)
end Go.Proofs.Ytbnnpkcfifejmaa
