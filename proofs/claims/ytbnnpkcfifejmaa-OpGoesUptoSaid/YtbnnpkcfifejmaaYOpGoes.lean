/- The statement Rows.OpGoesUptoSaid is proved: for every input the law 'athanorlaw10.OpGoes' returns true, and each argument reads afterwards as it read before. Conditions: those of the row, no others. -/
import Derived.Below
import Derived.ChangeOld
import Derived.JoinedCond
import Derived.OpenShut
import Derived.ProofKit
import Derived.ShutString
import Derived.WalkKit
import Derived.Test.YtbnnpkcfifejmaaRows
import Derived.Test.YtbnnpkcfifejmaaZ13
set_option linter.unusedVariables false
/- Layer 10's statement OpGoes: the walk. -/
namespace Go.Proofs.Ytbnnpkcfifejmaa
open Go.RowKit
namespace Ly
theorem go_none {o : OpD} {p x : List Ten} (h : (go o p x).2 ≠ 0) : (go o p x).1 = none_ := by
  unfold go at h ⊢
  split at h
  · rename_i hc
    rw [if_pos hc]
    exact lay_none (Od.right_kind (counts_ok hc).1).2 h
  · rename_i hc; rw [if_neg hc]
end Ly
theorem shpIn_of {w : World} {A : Option Addr} {c : Nat} {ts : List Ten} (h : Shps w A (ts.map Ten.s)) (h1 : (ts.map Ten.s).length ≤ c) (h2 : c ≤ 9223372036854775807) (hl : ∀ t ∈ ts, t.s.length ≤ 1048576) : ShpIn w A c (ts.map Ten.s) :=
  ⟨h, h1, h2, fun s hs => by obtain ⟨t, ht, rfl⟩ := List.mem_map.1 hs; have := hl t ht; omega⟩
theorem Tns.lens {w : World} {A : Option Addr} {ts : List Ten} (h : Tns w A ts) : ∀ t ∈ ts, t.s.length ≤ 1048576 := fun t ht => by
  obtain ⟨j, hj, rfl⟩ := List.getElem_of_mem ht
  obtain ⟨b, off, S, c, C, d, h1, h2, h3, h4, h5⟩ := h j hj
  exact h5.l1
set_option maxHeartbeats 16000000 in
set_option maxRecDepth 100000 in
theorem walkOpGoes (w : World) (S : Option Addr) (c : Nat) (o : OpD) (P : Option Addr) (cp : Nat) (p : List Ten) (X : Option Addr) (cx : Nat) (x : List Ten) (GS GC : Option Addr) (gc gd : Nat) (g : Ten) (hI : Ints .i64 w S o.s) (lo : o.s.length ≤ 1048576) (hw : o.wide)
    (hP : Tns w P p) (lp : p.length ≤ cp) (np : p.length ≤ 1048576) (hX : Tns w X x) (lx : x.length ≤ cx) (mx : cx ≤ 9223372036854775807) (nx : x.length ≤ 1048576) (hG : TenIn w GS GC gc gd g) :
    Calls Try.prog 3 #[.agg (case_arr o S P X GS GC c cp cx gc gd p x g)] w fun e w' => e = .returned (.bool true) ∧ Below w.heap.size w w' := by
  have hk := Blk.new w 32 (case_arr o S P X GS GC c cp cx gc gd p x g)
  have h0 : Later w (w.alloc (.cells (case_arr o S P X GS GC c cp cx gc gd p x g) 32)) := (Later.refl w).alloc _
  have hk0 : Fx.In o.k := hw o.k (by simp)
  have hlsP := hP.lens
  have hlsX := hX.lens
  have Hk := Lib.hid hk
  have H0 := Lib.hid h0
  have HI := Lib.hid hI
  have HP := Lib.hid hP
  have HX := Lib.hid hX
  have HG := Lib.hid hG
  have Hw := Lib.hid hw
  have HlsP := Lib.hid hlsP
  have HlsX := Lib.hid hlsX
  clear hk h0 hI hP hX hG hw hlsP hlsX
  go_enter Try.func3, Try.ntmps3
  go_upto_region 1 with fail
  generalize w.alloc (.cells (case_arr o S P X GS GC c cp cx gc gd p x g) 32) = w1 at *
  obtain ⟨y0, y1, y2, y3, y4, y5, y6, y7, y8, y9, y10, y11⟩ := case_cells12 Hk.out
  go_wp2_with fail
  refine (law10_small o S P X GS GC c cp cx gc gd p x g w1 (HP.out.later H0.out) (HX.out.later H0.out) np nx (HG.out.later H0.out)).mono ?_
  rintro e w2 ⟨⟨b, rfl⟩, hb2⟩
  have h02 := H0.out.call hb2
  have hk2 := (show Later w1 w2 from hb2).blk Hk.out
  clear hb2 y0 y1 y2 y3 y4 y5 y6 y7 y8 y9 y10 y11
  cases b
  · have H02 := Lib.hid h02
    have Hk2 := Lib.hid hk2
    clear h02 hk2
    go_wp2_with fail
    refine (awake10 _).mono ?_
    rintro e w3 ⟨rfl, hb3⟩
    go_wp2_with fail
    go_ret
    exact ⟨rfl, H02.out.call hb3⟩
  obtain ⟨y0, y1, y2, y3, y4, y5, y6, y7, y8, y9, y10, y11⟩ := case_cells12 hk2
  obtain ⟨R, hR⟩ : ∃ R, Ly.go o p x = R := ⟨_, rfl⟩
  have hgo := calls_goU (op_go o S P X c cp cx p x w2 lo (HI.out.below h02 (Nat.le_refl _)) hk0 (HP.out.later h02) (HX.out.later h02) nx lx mx) Ly.go_none
  rw [hR] at hgo
  have H02 := Lib.hid h02
  have Hk2 := Lib.hid hk2
  have Hgo := Lib.hid hgo
  have HR := Lib.hid hR
  clear h02 hk2 hgo hR
  go_wp2_with fail
  refine (Hgo.out).mono ?_
  rintro e w3 ⟨S1, c1, C1, d1, rfl, hne, hok, hb3⟩
  have h23 : Later w2 w3 := hb3
  have h3a : Later w3 (w3.alloc (.cells #[.slice S1 R.1.s.length c1, .slice C1 R.1.c.length d1] 30)) := (Later.refl w3).alloc _
  have h2a := h23.trans h3a
  have h0a := H02.out.trans h2a
  have hka := h2a.blk Hk2.out
  have hya := Blk.new w3 30 #[.slice S1 R.1.s.length c1, .slice C1 R.1.c.length d1]
  have hoka := fun h => (hok h).later h3a
  clear y0 y1 y2 y3 y4 y5 y6 y7 y8 y9 y10 y11 hb3 hok
  have H23 := Lib.hid h23
  have H3a := Lib.hid h3a
  have H2a := Lib.hid h2a
  have H0a := Lib.hid h0a
  have Hka := Lib.hid hka
  have Hya := Lib.hid hya
  have Hoka := Lib.hid hoka
  have Hne := Lib.hid hne
  clear h23 h3a h2a h0a hka hya hoka hne
  go_upto_region 4 with fail
  generalize w3.alloc (.cells #[.slice S1 R.1.s.length c1, .slice C1 R.1.c.length d1] 30) = w4 at *
  generalize w3.heap.size = yb at *
  obtain ⟨y0, y1, y2, y3, y4, y5, y6, y7, y8, y9, y10, y11⟩ := case_cells12 Hka.out
  go_wp2_with fail
  refine (law10_counted o S P X GS GC c cp cx gc gd p x g w4 lo).mono ?_
  rintro e w5 ⟨rfl, hb5⟩
  have h45 : Later w4 w5 := hb5
  have h05 := H0a.out.trans h45
  have hk5 := h45.blk Hka.out
  have hy5 := h45.blk Hya.out
  clear hb5 y0 y1 y2 y3 y4 y5 y6 y7 y8 y9 y10 y11
  by_cases hc : Od.counts o p.length x.length = 0
  case neg =>
    have e1 := Ly.go_err hc
    rw [HR.out] at e1
    subst e1
    have q0 : (Od.counts o p.length x.length != 0) = true := by simpa using hc
    have q1 : (Od.counts o p.length x.length == Od.counts o p.length x.length) = true := by simp
    clear hc
    generalize Od.counts o p.length x.length = mv at *
    have z1 := hy5.cell 1
    simp [Ly.none_] at z1
    have H45 := Lib.hid h45
    have H05 := Lib.hid h05
    have Hk5 := Lib.hid hk5
    have Hy5 := Lib.hid hy5
    clear h45 h05 hk5 hy5
    go_wp2_with fail
    refine (awake10 _).mono ?_
    rintro e w6 ⟨rfl, hb6⟩
    go_wp2_with fail
    go_ret
    exact ⟨rfl, H05.out.call hb6⟩
  rw [hc]
  have hlay : Ly.lay o p x = R := (Ly.go_lay hc).symm.trans HR.out
  have hshape : R.2 = 0 → Od.shape o (p.map Ten.s) (x.map Ten.s) = (R.1.s, 0) := fun h => by rw [← hlay]; exact Ly.lay_shape hc (by rw [hlay]; exact h)
  have hgv := calls_goU (law10_given o S P X GS GC c cp cx gc gd p x g w5 lo (HI.out.below h05 (Nat.le_refl _)) hk0 (HP.out.later h05) (HX.out.later h05) nx lx mx hc) (Ly.lay_none (Od.right_kind (Ly.counts_ok hc).1).2)
  rw [hlay] at hgv
  have hhc := hc
  clear hc hlay
  obtain ⟨y0, y1, y2, y3, y4, y5, y6, y7, y8, y9, y10, y11⟩ := case_cells12 hk5
  have H45 := Lib.hid h45
  have H05 := Lib.hid h05
  have Hk5 := Lib.hid hk5
  have Hy5 := Lib.hid hy5
  have Hgv := Lib.hid hgv
  have Hhc := Lib.hid hhc
  have Hshape := Lib.hid hshape
  clear h45 h05 hk5 hy5 hgv hhc hshape
  go_wp2_with fail
  refine (Hgv.out).mono ?_
  rintro e w6 ⟨S2, c2, C2, d2, rfl, hne2, hok2, hb6⟩
  have h56 : Later w5 w6 := hb6
  have h6a : Later w6 (w6.alloc (.cells #[.slice S2 R.1.s.length c2, .slice C2 R.1.c.length d2] 30)) := (Later.refl w6).alloc _
  have h5b := h56.trans h6a
  have h0b := H05.out.trans h5b
  have hkb := h5b.blk Hk5.out
  have hyb := h5b.blk Hy5.out
  have hzb := Blk.new w6 30 #[.slice S2 R.1.s.length c2, .slice C2 R.1.c.length d2]
  have hok2b := fun h => (hok2 h).later h6a
  have hokb := fun h => (Hoka.out h).later (H45.out.trans h5b)
  clear y0 y1 y2 y3 y4 y5 y6 y7 y8 y9 y10 y11 hb6 hok2
  have H56 := Lib.hid h56
  have H6a := Lib.hid h6a
  have H5b := Lib.hid h5b
  have H0b := Lib.hid h0b
  have Hkb := Lib.hid hkb
  have Hyb := Lib.hid hyb
  have Hzb := Lib.hid hzb
  have Hok2b := Lib.hid hok2b
  have Hokb := Lib.hid hokb
  have Hne2 := Lib.hid hne2
  clear h56 h6a h5b h0b hkb hyb hzb hok2b hokb hne2
  go_upto_region 8 with fail
  generalize w6.alloc (.cells #[.slice S2 R.1.s.length c2, .slice C2 R.1.c.length d2] 30) = w7 at *
  generalize w6.heap.size = zb at *
  have u0 := Hyb.out.cell 0
  have u1 := Hyb.out.cell 1
  have v0 := Hzb.out.cell 0
  have v1 := Hzb.out.cell 1
  simp at u0 u1 v0 v1
  by_cases hz : R.2 = 0
  case neg =>
    have q0 : (R.2 == 0) = false := by simpa using hz
    have q1 : (R.2 != 0) = true := by simpa using hz
    have q2 : (R.2 != R.2) = false := by simp
    have hR1 : R.1.c.length = 0 := by
      have := Ly.go_none (o := o) (p := p) (x := x) (by rw [HR.out]; exact hz)
      rw [HR.out] at this
      rw [this]; rfl
    rw [hR1] at u1
    clear hR1
    go_wp2_with fail
    refine (awake10 _).mono ?_
    rintro e w8 ⟨rfl, hb8⟩
    go_wp2_with fail
    go_ret
    exact ⟨rfl, H0b.out.call hb8⟩
  obtain ⟨Sa, ca, Ca, da, ea, hTa, -, -⟩ := Hokb.out hz
  obtain ⟨Sb, cb, Cb, db, eb, hTb, -, -⟩ := Hok2b.out hz
  simp at ea eb
  obtain ⟨⟨rfl, rfl⟩, rfl, rfl⟩ := ea
  obtain ⟨⟨rfl, rfl⟩, rfl, rfl⟩ := eb
  have heq := tensor_equal S1 C1 S2 C2 c1 d1 c2 d2 R.1 R.1 w7 (by have := hTa.l1; omega) (by have := hTa.l2; omega) (by have := hTa.l1; omega) (by have := hTa.l2; omega) hTa.r hTb.r
  rw [show Tn.eq R.1 R.1 = true by simp [Tn.eq]] at heq
  have hsh := Hshape.out hz
  have hl1 := hTa.l1
  rw [hz] at *
  have Heq := Lib.hid heq
  have HTa := Lib.hid hTa
  have HTb := Lib.hid hTb
  have Hsh := Lib.hid hsh
  clear heq hTa hTb hsh
  go_wp2_with fail
  refine (Heq.out).mono ?_
  rintro e w8 ⟨rfl, hb8⟩
  have h78 : Later w7 w8 := hb8
  have h08 := H0b.out.trans h78
  have hk8 := h78.blk Hkb.out
  have hy8 := h78.blk Hyb.out
  have hT8 := HTa.out.later h78
  clear hb8 u0 u1 v0 v1
  obtain ⟨y0, y1, y2, y3, y4, y5, y6, y7, y8, y9, y10, y11⟩ := case_cells12 hk8
  have hcP := fun (V : World) (h : Later w8 V) => law10_shapes P cp p V np (HP.out.later (h08.trans h))
  have hcX := fun (V : World) (h : Later w8 V) => law10_shapes X cx x V nx (HX.out.later (h08.trans h))
  have hcS := fun (V : World) (h : Later w8 V) (A B : Option Addr) (a b : Nat) (hA : ShpIn V A a (p.map Ten.s)) (hB : ShpIn V B b (x.map Ten.s)) => op_shape o S A B c a b (p.map Ten.s) (x.map Ten.s) V (by omega) (HI.out.below (h08.trans h) (Nat.le_refl _)) hA hB
  rw [Hsh.out] at hcS
  simp only [List.length_map] at hcS
  clear y10 y11
  have H78 := Lib.hid h78
  have H08 := Lib.hid h08
  have Hk8 := Lib.hid hk8
  have Hy8 := Lib.hid hy8
  have HT8 := Lib.hid hT8
  have HcP := Lib.hid hcP
  have HcX := Lib.hid hcX
  have HcS := Lib.hid hcS
  clear h78 h08 hk8 hy8 hT8 hcP hcX hcS
  go_wp2_with fail
  refine wp_region_noPanic ?_
  refine wp_region_held_drew (S := fun Xw => Xw.cell? ⟨w.heap.size, 0, none⟩ = some (.int .i64 o.kind) ∧ Xw.cell? ⟨w.heap.size, 1, none⟩ = some (.int .i64 o.k) ∧ Xw.cell? ⟨w.heap.size, 2, none⟩ = some (.int .i64 o.width) ∧ Xw.cell? ⟨w.heap.size, 3, none⟩ = some (.int .i64 o.step) ∧ Xw.cell? ⟨w.heap.size, 4, none⟩ = some (.int .i64 o.side) ∧ Xw.cell? ⟨w.heap.size, 5, none⟩ = some (.int .i64 o.frm) ∧ Xw.cell? ⟨w.heap.size, 6, none⟩ = some (.int .i64 o.to) ∧ Xw.cell? ⟨w.heap.size, 7, none⟩ = some (.slice S o.s.length c) ∧ Xw.cell? ⟨w.heap.size, 8, none⟩ = some (.slice P p.length cp) ∧ Xw.cell? ⟨w.heap.size, 9, none⟩ = some (.slice X x.length cx)) (by kernel_rfl) ?_ (fun hHeld => ?_)
  · (try dsimp only); (first | (with_reducible exact ⟨y0, y1, y2, y3, y4, y5, y6, y7, y8, y9⟩) | exact ⟨Later.cell (show Later w8 _ by repeat (first | (with_reducible exact Later.refl _) | (with_reducible apply Later.drew) | (with_reducible apply Later.drewN) | (with_reducible apply Later.alloc) | (with_reducible refine Later.call ?_ (by assumption)))) y0, Later.cell (show Later w8 _ by repeat (first | (with_reducible exact Later.refl _) | (with_reducible apply Later.drew) | (with_reducible apply Later.drewN) | (with_reducible apply Later.alloc) | (with_reducible refine Later.call ?_ (by assumption)))) y1, Later.cell (show Later w8 _ by repeat (first | (with_reducible exact Later.refl _) | (with_reducible apply Later.drew) | (with_reducible apply Later.drewN) | (with_reducible apply Later.alloc) | (with_reducible refine Later.call ?_ (by assumption)))) y2, Later.cell (show Later w8 _ by repeat (first | (with_reducible exact Later.refl _) | (with_reducible apply Later.drew) | (with_reducible apply Later.drewN) | (with_reducible apply Later.alloc) | (with_reducible refine Later.call ?_ (by assumption)))) y3, Later.cell (show Later w8 _ by repeat (first | (with_reducible exact Later.refl _) | (with_reducible apply Later.drew) | (with_reducible apply Later.drewN) | (with_reducible apply Later.alloc) | (with_reducible refine Later.call ?_ (by assumption)))) y4, Later.cell (show Later w8 _ by repeat (first | (with_reducible exact Later.refl _) | (with_reducible apply Later.drew) | (with_reducible apply Later.drewN) | (with_reducible apply Later.alloc) | (with_reducible refine Later.call ?_ (by assumption)))) y5, Later.cell (show Later w8 _ by repeat (first | (with_reducible exact Later.refl _) | (with_reducible apply Later.drew) | (with_reducible apply Later.drewN) | (with_reducible apply Later.alloc) | (with_reducible refine Later.call ?_ (by assumption)))) y6, Later.cell (show Later w8 _ by repeat (first | (with_reducible exact Later.refl _) | (with_reducible apply Later.drew) | (with_reducible apply Later.drewN) | (with_reducible apply Later.alloc) | (with_reducible refine Later.call ?_ (by assumption)))) y7, Later.cell (show Later w8 _ by repeat (first | (with_reducible exact Later.refl _) | (with_reducible apply Later.drew) | (with_reducible apply Later.drewN) | (with_reducible apply Later.alloc) | (with_reducible refine Later.call ?_ (by assumption)))) y8, Later.cell (show Later w8 _ by repeat (first | (with_reducible exact Later.refl _) | (with_reducible apply Later.drew) | (with_reducible apply Later.drewN) | (with_reducible apply Later.alloc) | (with_reducible refine Later.call ?_ (by assumption)))) y9⟩)
  refine wpAnyH_take (i := 0) (oi := _) (v := ?mv1) rfl (by kernel_rfl) (by kernel_rfl) (by kernel_rfl) (fun _ _ _ h => h) (Or.inl ⟨by rfl, ?my1⟩) (by assumption) ?mr1
  case my1 => (simp only [List.getElem_toArray, List.getElem_cons_zero]; intro w hSw; (try dsimp only at hSw); go_simp; first | done | with_reducible rfl)
  try simp only [List.getElem_toArray, List.getElem_cons_zero, Act.put, List.setIfInBounds_toArray, List.set_cons_zero, List.set_cons_succ]
  refine wpAnyH_take (i := 1) (oi := _) (v := ?mv2) rfl (by kernel_rfl) (by kernel_rfl) (by kernel_rfl) (fun _ _ _ h => h) (Or.inl ⟨by rfl, ?my2⟩) (by assumption) ?mr2
  case my2 => (simp only [List.getElem_toArray, List.getElem_cons_succ, List.getElem_cons_zero]; intro w hSw; (try dsimp only at hSw); go_simp; first | done | with_reducible rfl)
  try simp only [List.getElem_toArray, List.getElem_cons_succ, List.getElem_cons_zero, Act.put, List.setIfInBounds_toArray, List.set_cons_zero, List.set_cons_succ]
  refine wpAnyH_take (i := 2) (oi := _) (v := ?mv3) rfl (by kernel_rfl) (by kernel_rfl) (by kernel_rfl) (fun _ _ _ h => h) (Or.inl ⟨by rfl, ?my3⟩) (by assumption) ?mr3
  case my3 => (simp only [List.getElem_toArray, List.getElem_cons_succ, List.getElem_cons_zero]; intro w hSw; (try dsimp only at hSw); go_simp; first | done | with_reducible rfl)
  try simp only [List.getElem_toArray, List.getElem_cons_succ, List.getElem_cons_zero, Act.put, List.setIfInBounds_toArray, List.set_cons_zero, List.set_cons_succ]
  refine wpAnyH_take (i := 3) (oi := _) (v := ?mv4) rfl (by kernel_rfl) (by kernel_rfl) (by kernel_rfl) (fun _ _ _ h => h) (Or.inl ⟨by rfl, ?my4⟩) (by assumption) ?mr4
  case my4 => (simp only [List.getElem_toArray, List.getElem_cons_succ, List.getElem_cons_zero]; intro w hSw; (try dsimp only at hSw); go_simp; first | done | with_reducible rfl)
  try simp only [List.getElem_toArray, List.getElem_cons_succ, List.getElem_cons_zero, Act.put, List.setIfInBounds_toArray, List.set_cons_zero, List.set_cons_succ]
  refine wpAnyH_take (i := 5) (oi := _) (v := ?mv5) rfl (by kernel_rfl) (by kernel_rfl) (by kernel_rfl) (fun _ _ _ h => h) (Or.inl ⟨by rfl, ?my5⟩) (by assumption) ?mr5
  case my5 => (simp only [List.getElem_toArray, List.getElem_cons_succ, List.getElem_cons_zero]; intro w hSw; (try dsimp only at hSw); go_simp; first | done | with_reducible rfl)
  try simp only [List.getElem_toArray, List.getElem_cons_succ, List.getElem_cons_zero, Act.put, List.setIfInBounds_toArray, List.set_cons_zero, List.set_cons_succ]
  refine wpAnyH_take (i := 6) (oi := _) (v := ?mv6) rfl (by kernel_rfl) (by kernel_rfl) (by kernel_rfl) (fun _ _ _ h => h) (Or.inl ⟨by rfl, ?my6⟩) (by assumption) ?mr6
  case my6 => (simp only [List.getElem_toArray, List.getElem_cons_succ, List.getElem_cons_zero]; intro w hSw; (try dsimp only at hSw); go_simp; first | done | with_reducible rfl)
  try simp only [List.getElem_toArray, List.getElem_cons_succ, List.getElem_cons_zero, Act.put, List.setIfInBounds_toArray, List.set_cons_zero, List.set_cons_succ]
  refine wpAnyH_ready (rs := [4]) (by kernel_rfl) (by simp) ?_
  refine AllReadyH.cons (o := _) rfl (fun K hK => ?_) AllReadyH.nil
  simp only [List.getElem_toArray, List.getElem_cons_succ, List.getElem_cons_zero]
  go_simp
  go_at_call 11; (with_reducible refine (HcP.out _ (show Later w8 _ by repeat (first | (with_reducible exact Later.refl _) | (with_reducible apply Later.drew) | (with_reducible apply Later.drewN) | (with_reducible apply Later.alloc) | (with_reducible refine Later.call ?_ (by assumption))))).mono ?_); rintro e wp ⟨⟨A1, a1, rfl, hA1, hA2, hA3⟩, hbp⟩
  have HA1 := Lib.hid hA1
  have HlP : Later wp wp := Later.refl _
  clear hA1
  try go_wp2_with fail
  refine hK.out _ _ ?_ (fun hHeld => ?_)
  · (try dsimp only); (first | (with_reducible exact ⟨y0, y1, y2, y3, y4, y5, y6, y7, y8, y9⟩) | exact ⟨Later.cell (show Later w8 _ by repeat (first | (with_reducible exact Later.refl _) | (with_reducible apply Later.drew) | (with_reducible apply Later.drewN) | (with_reducible apply Later.alloc) | (with_reducible refine Later.call ?_ (by assumption)))) y0, Later.cell (show Later w8 _ by repeat (first | (with_reducible exact Later.refl _) | (with_reducible apply Later.drew) | (with_reducible apply Later.drewN) | (with_reducible apply Later.alloc) | (with_reducible refine Later.call ?_ (by assumption)))) y1, Later.cell (show Later w8 _ by repeat (first | (with_reducible exact Later.refl _) | (with_reducible apply Later.drew) | (with_reducible apply Later.drewN) | (with_reducible apply Later.alloc) | (with_reducible refine Later.call ?_ (by assumption)))) y2, Later.cell (show Later w8 _ by repeat (first | (with_reducible exact Later.refl _) | (with_reducible apply Later.drew) | (with_reducible apply Later.drewN) | (with_reducible apply Later.alloc) | (with_reducible refine Later.call ?_ (by assumption)))) y3, Later.cell (show Later w8 _ by repeat (first | (with_reducible exact Later.refl _) | (with_reducible apply Later.drew) | (with_reducible apply Later.drewN) | (with_reducible apply Later.alloc) | (with_reducible refine Later.call ?_ (by assumption)))) y4, Later.cell (show Later w8 _ by repeat (first | (with_reducible exact Later.refl _) | (with_reducible apply Later.drew) | (with_reducible apply Later.drewN) | (with_reducible apply Later.alloc) | (with_reducible refine Later.call ?_ (by assumption)))) y5, Later.cell (show Later w8 _ by repeat (first | (with_reducible exact Later.refl _) | (with_reducible apply Later.drew) | (with_reducible apply Later.drewN) | (with_reducible apply Later.alloc) | (with_reducible refine Later.call ?_ (by assumption)))) y6, Later.cell (show Later w8 _ by repeat (first | (with_reducible exact Later.refl _) | (with_reducible apply Later.drew) | (with_reducible apply Later.drewN) | (with_reducible apply Later.alloc) | (with_reducible refine Later.call ?_ (by assumption)))) y7, Later.cell (show Later w8 _ by repeat (first | (with_reducible exact Later.refl _) | (with_reducible apply Later.drew) | (with_reducible apply Later.drewN) | (with_reducible apply Later.alloc) | (with_reducible refine Later.call ?_ (by assumption)))) y8, Later.cell (show Later w8 _ by repeat (first | (with_reducible exact Later.refl _) | (with_reducible apply Later.drew) | (with_reducible apply Later.drewN) | (with_reducible apply Later.alloc) | (with_reducible refine Later.call ?_ (by assumption)))) y9⟩)
  clear hK K
  try simp only [List.getElem_toArray, List.getElem_cons_succ, List.getElem_cons_zero, Act.put, List.setIfInBounds_toArray, List.set_cons_zero, List.set_cons_succ]
  refine wpAnyH_ready (rs := [7]) (by kernel_rfl) (by simp) ?_
  refine AllReadyH.cons (o := _) rfl (fun K hK => ?_) AllReadyH.nil
  simp only [List.getElem_toArray, List.getElem_cons_succ, List.getElem_cons_zero]
  go_simp
  go_at_call 11; (with_reducible refine (HcX.out _ (show Later w8 _ by repeat (first | (with_reducible exact Later.refl _) | (with_reducible apply Later.drew) | (with_reducible apply Later.drewN) | (with_reducible apply Later.alloc) | (with_reducible refine Later.call ?_ (by assumption))))).mono ?_); rintro e wq ⟨⟨B1, b1, rfl, hB1, hB2, hB3⟩, hbq⟩
  have HB1 := Lib.hid hB1
  have HPq := Lib.hid (HA1.out.below hbq (Nat.le_refl _))
  clear hB1 HlP
  try go_wp2_with fail
  refine hK.out _ _ ?_ (fun hHeld => ?_)
  · (try dsimp only); (first | (with_reducible exact ⟨y0, y1, y2, y3, y4, y5, y6, y7, y8, y9⟩) | exact ⟨Later.cell (show Later w8 _ by repeat (first | (with_reducible exact Later.refl _) | (with_reducible apply Later.drew) | (with_reducible apply Later.drewN) | (with_reducible apply Later.alloc) | (with_reducible refine Later.call ?_ (by assumption)))) y0, Later.cell (show Later w8 _ by repeat (first | (with_reducible exact Later.refl _) | (with_reducible apply Later.drew) | (with_reducible apply Later.drewN) | (with_reducible apply Later.alloc) | (with_reducible refine Later.call ?_ (by assumption)))) y1, Later.cell (show Later w8 _ by repeat (first | (with_reducible exact Later.refl _) | (with_reducible apply Later.drew) | (with_reducible apply Later.drewN) | (with_reducible apply Later.alloc) | (with_reducible refine Later.call ?_ (by assumption)))) y2, Later.cell (show Later w8 _ by repeat (first | (with_reducible exact Later.refl _) | (with_reducible apply Later.drew) | (with_reducible apply Later.drewN) | (with_reducible apply Later.alloc) | (with_reducible refine Later.call ?_ (by assumption)))) y3, Later.cell (show Later w8 _ by repeat (first | (with_reducible exact Later.refl _) | (with_reducible apply Later.drew) | (with_reducible apply Later.drewN) | (with_reducible apply Later.alloc) | (with_reducible refine Later.call ?_ (by assumption)))) y4, Later.cell (show Later w8 _ by repeat (first | (with_reducible exact Later.refl _) | (with_reducible apply Later.drew) | (with_reducible apply Later.drewN) | (with_reducible apply Later.alloc) | (with_reducible refine Later.call ?_ (by assumption)))) y5, Later.cell (show Later w8 _ by repeat (first | (with_reducible exact Later.refl _) | (with_reducible apply Later.drew) | (with_reducible apply Later.drewN) | (with_reducible apply Later.alloc) | (with_reducible refine Later.call ?_ (by assumption)))) y6, Later.cell (show Later w8 _ by repeat (first | (with_reducible exact Later.refl _) | (with_reducible apply Later.drew) | (with_reducible apply Later.drewN) | (with_reducible apply Later.alloc) | (with_reducible refine Later.call ?_ (by assumption)))) y7, Later.cell (show Later w8 _ by repeat (first | (with_reducible exact Later.refl _) | (with_reducible apply Later.drew) | (with_reducible apply Later.drewN) | (with_reducible apply Later.alloc) | (with_reducible refine Later.call ?_ (by assumption)))) y8, Later.cell (show Later w8 _ by repeat (first | (with_reducible exact Later.refl _) | (with_reducible apply Later.drew) | (with_reducible apply Later.drewN) | (with_reducible apply Later.alloc) | (with_reducible refine Later.call ?_ (by assumption)))) y9⟩)
  clear hK K
  try simp only [List.getElem_toArray, List.getElem_cons_succ, List.getElem_cons_zero, Act.put, List.setIfInBounds_toArray, List.set_cons_zero, List.set_cons_succ]
  refine wpAnyH_ready (rs := [8]) (by kernel_rfl) (by simp) ?_
  refine AllReadyH.cons (o := _) rfl (fun K hK => ?_) AllReadyH.nil
  simp only [List.getElem_toArray, List.getElem_cons_succ, List.getElem_cons_zero]
  go_simp
  go_at_call 10; (with_reducible refine (HcS.out _ (show Later w8 _ by repeat (first | (with_reducible exact Later.refl _) | (with_reducible apply Later.drew) | (with_reducible apply Later.drewN) | (with_reducible apply Later.alloc) | (with_reducible refine Later.call ?_ (by assumption)))) A1 B1 a1 b1 (shpIn_of HPq.out hA2 hA3 HlsP.out) (shpIn_of HB1.out hB2 hB3 HlsX.out)).mono ?_); rintro e ws ⟨T, tc, rfl, hT1, ht1, ht2, -, hbs⟩
  have HT1 := Lib.hid hT1
  clear hT1
  try go_wp2_with fail
  refine hK.out _ _ ?_ (fun hHeld => ?_)
  · (try dsimp only); (first | (with_reducible exact ⟨y0, y1, y2, y3, y4, y5, y6, y7, y8, y9⟩) | exact ⟨Later.cell (show Later w8 _ by repeat (first | (with_reducible exact Later.refl _) | (with_reducible apply Later.drew) | (with_reducible apply Later.drewN) | (with_reducible apply Later.alloc) | (with_reducible refine Later.call ?_ (by assumption)))) y0, Later.cell (show Later w8 _ by repeat (first | (with_reducible exact Later.refl _) | (with_reducible apply Later.drew) | (with_reducible apply Later.drewN) | (with_reducible apply Later.alloc) | (with_reducible refine Later.call ?_ (by assumption)))) y1, Later.cell (show Later w8 _ by repeat (first | (with_reducible exact Later.refl _) | (with_reducible apply Later.drew) | (with_reducible apply Later.drewN) | (with_reducible apply Later.alloc) | (with_reducible refine Later.call ?_ (by assumption)))) y2, Later.cell (show Later w8 _ by repeat (first | (with_reducible exact Later.refl _) | (with_reducible apply Later.drew) | (with_reducible apply Later.drewN) | (with_reducible apply Later.alloc) | (with_reducible refine Later.call ?_ (by assumption)))) y3, Later.cell (show Later w8 _ by repeat (first | (with_reducible exact Later.refl _) | (with_reducible apply Later.drew) | (with_reducible apply Later.drewN) | (with_reducible apply Later.alloc) | (with_reducible refine Later.call ?_ (by assumption)))) y4, Later.cell (show Later w8 _ by repeat (first | (with_reducible exact Later.refl _) | (with_reducible apply Later.drew) | (with_reducible apply Later.drewN) | (with_reducible apply Later.alloc) | (with_reducible refine Later.call ?_ (by assumption)))) y5, Later.cell (show Later w8 _ by repeat (first | (with_reducible exact Later.refl _) | (with_reducible apply Later.drew) | (with_reducible apply Later.drewN) | (with_reducible apply Later.alloc) | (with_reducible refine Later.call ?_ (by assumption)))) y6, Later.cell (show Later w8 _ by repeat (first | (with_reducible exact Later.refl _) | (with_reducible apply Later.drew) | (with_reducible apply Later.drewN) | (with_reducible apply Later.alloc) | (with_reducible refine Later.call ?_ (by assumption)))) y7, Later.cell (show Later w8 _ by repeat (first | (with_reducible exact Later.refl _) | (with_reducible apply Later.drew) | (with_reducible apply Later.drewN) | (with_reducible apply Later.alloc) | (with_reducible refine Later.call ?_ (by assumption)))) y8, Later.cell (show Later w8 _ by repeat (first | (with_reducible exact Later.refl _) | (with_reducible apply Later.drew) | (with_reducible apply Later.drewN) | (with_reducible apply Later.alloc) | (with_reducible refine Later.call ?_ (by assumption)))) y9⟩)
  clear hK K
  try simp only [List.getElem_toArray, List.getElem_cons_succ, List.getElem_cons_zero, Act.put, List.setIfInBounds_toArray, List.set_cons_zero, List.set_cons_succ]
  refine wpAnyH_take (i := 9) (oi := _) (v := ?mv10) rfl (by kernel_rfl) (by kernel_rfl) (by kernel_rfl) (fun _ _ _ h => h) (Or.inl ⟨by rfl, ?my10⟩) (by assumption) ?mr10
  case my10 => (simp only [List.getElem_toArray, List.getElem_cons_succ, List.getElem_cons_zero]; intro w hSw; (try dsimp only at hSw); go_simp; first | done | with_reducible rfl)
  try simp only [List.getElem_toArray, List.getElem_cons_succ, List.getElem_cons_zero, Act.put, List.setIfInBounds_toArray, List.set_cons_zero, List.set_cons_succ]
  refine wpAnyH_take (i := 10) (oi := _) (v := ?mv11) rfl (by kernel_rfl) (by kernel_rfl) (by kernel_rfl) (fun _ _ _ h => h) (Or.inl ⟨by rfl, ?my11⟩) (by assumption) ?mr11
  case my11 => (simp only [List.getElem_toArray, List.getElem_cons_succ, List.getElem_cons_zero]; intro w hSw; (try dsimp only at hSw); go_simp; first | done | with_reducible rfl)
  try simp only [List.getElem_toArray, List.getElem_cons_succ, List.getElem_cons_zero, Act.put, List.setIfInBounds_toArray, List.set_cons_zero, List.set_cons_succ]
  refine wpAnyH_take (i := 11) (oi := _) (v := ?mv12) rfl (by kernel_rfl) (by kernel_rfl) (by kernel_rfl) (fun _ _ _ h => h) (Or.inl ⟨by rfl, ?my12⟩) (by assumption) ?mr12
  case my12 => (simp only [List.getElem_toArray, List.getElem_cons_succ, List.getElem_cons_zero]; intro w hSw; (try dsimp only at hSw); go_simp; first | done | with_reducible rfl)
  try simp only [List.getElem_toArray, List.getElem_cons_succ, List.getElem_cons_zero, Act.put, List.setIfInBounds_toArray, List.set_cons_zero, List.set_cons_succ]
  refine wpAnyH_take (i := 12) (oi := _) (v := ?mv13) rfl (by kernel_rfl) (by kernel_rfl) (by kernel_rfl) (fun _ _ _ h => h) (Or.inl ⟨by rfl, ?my13⟩) (by assumption) ?mr13
  case my13 => (simp only [List.getElem_toArray, List.getElem_cons_succ, List.getElem_cons_zero]; intro w hSw; (try dsimp only at hSw); go_simp; first | done | with_reducible rfl)
  try simp only [List.getElem_toArray, List.getElem_cons_succ, List.getElem_cons_zero, Act.put, List.setIfInBounds_toArray, List.set_cons_zero, List.set_cons_succ]
  refine wpAnyH_take (i := 13) (oi := _) (v := ?mv14) rfl (by kernel_rfl) (by kernel_rfl) (by kernel_rfl) (fun _ _ _ h => h) (Or.inl ⟨by rfl, ?my14⟩) (by assumption) ?mr14
  case my14 => (simp only [List.getElem_toArray, List.getElem_cons_succ, List.getElem_cons_zero]; intro w hSw; (try dsimp only at hSw); go_simp; first | done | with_reducible rfl)
  try simp only [List.getElem_toArray, List.getElem_cons_succ, List.getElem_cons_zero, Act.put, List.setIfInBounds_toArray, List.set_cons_zero, List.set_cons_succ]
  refine wpAnyH_done (by kernel_rfl) ?_ _
  refine NoPanic.normal ?_
  have h8s : Later w8 ws := (show Later w8 ws by repeat (first | (with_reducible exact Later.refl _) | (with_reducible apply Later.drew) | (with_reducible apply Later.drewN) | (with_reducible apply Later.alloc) | (with_reducible refine Later.call ?_ (by assumption))))
  have h0s := H08.out.trans h8s
  have hys := h8s.blk Hy8.out
  have hTs := HT8.out.later h8s
  have u0 := hys.cell 0
  simp at u0
  have hse := shape_equal T S1 tc c1 R.1.s R.1.s ws (by omega) (by omega) HT1.out hTs.r.1
  rw [show (R.1.s == R.1.s) = true by simp] at hse
  clear hbp hbq hbs hHeld y0 y1 y2 y3 y4 y5 y6 y7 y8 y9
  have H8s := Lib.hid h8s
  have H0s := Lib.hid h0s
  have Hys := Lib.hid hys
  have HTs := Lib.hid hTs
  have Hse := Lib.hid hse
  clear h8s h0s hys hTs hse
  go_wp2_with fail
  refine (Hse.out).mono ?_
  rintro e w9 ⟨rfl, n9, rfl⟩
  go_wp2_with fail
  refine (awake10 _).mono ?_
  rintro e wz ⟨rfl, hbz⟩
  go_wp2_with fail
  go_ret
  exact ⟨rfl, (H0s.out.drewN n9).call hbz⟩
end Go.Proofs.Ytbnnpkcfifejmaa
namespace Go.Proofs.Ytbnnpkcfifejmaa.opGoes
open Go.ChangeShapes Go.WideShapes Go.ChangeAt Go.RowKit
open Go.ChangeMaps (open_string shut_string)

theorem own : ownKnob Try.prog.godebug = none := by kernel_rfl
theorem laidOut : laidOutB Try.prog = true := by kernel_rfl

set_option maxRecDepth 100000 in
theorem lifted (os : Os) (started : os.Started) (H : Type) (enc : TypeId × Value → H) (Fi : Stop.Interp) :
    ReturnsInHanded {} Try.checked os 3 .any ((Rows.OpenSpec.upto Rows.opGoesSpec).pre6 enc Try.prog Try.f3 Rows.opGoesUptoRow.domain false) (((Rows.OpenSpec.upto Rows.opGoesSpec).at Fi).post enc Try.prog Try.f3 false true false false) := by
  refine returnsInHanded_of_cond (C := Try.checked) (s := Rows.OpenSpec.upto Rows.opGoesSpec) (k := Rows.uptoSmall) rfl own started (by kernel_rfl) Try.func3
    (OpenSpec.witness (enc := enc) (C := Try.checked) (s := Rows.OpenSpec.upto Rows.opGoesSpec) (k := Rows.uptoSmall) rfl false ⟨#[], #[.agg #[.int .i64 0, .int .i64 0, .int .i64 0, .int .i64 0, .int .i64 0, .int .i64 0, .int .i64 0, .slice none 0 0, .slice none 0 0, .slice none 0 0, .slice none 0 0, .slice none 0 0]], []⟩ 8 (by kernel_rfl) (by kernel_rfl) (by kernel_rfl)
      (x := ([.agg [.agg [.lit (.int .i64 0), .lit (.int .i64 0), .lit (.int .i64 0), .lit (.int .i64 0), .lit (.int .i64 0), .lit (.int .i64 0), .lit (.int .i64 0), .nil], .nil, .nil, .agg [.nil, .nil]]], [], [])) (by kernel_rfl) rfl (by kernel_rfl)) ?_
  intro W base args ds gs before hval0 hW hcnd hbulk _
  have hval : ∀ (j : Nat) t v, Try.f3.params[j]? = some t → args[j]? = some v → Value.okWide Try.prog W .any base t v := hval0
  have hW' := hW
  obtain ⟨p, q, hA0, hV, rfl, hfz, hnd⟩ := hW
  have hA : DataW.TrodAll enc Try.prog W 0 (fun _ => true) true Try.f3.params.toList args.toList ds p := hA0
  rw [Try.params3] at hA hval
  obtain ⟨v0, vs0, d0, ds0, p0, q0, hargs, rfl, rfl, h0, r0⟩ := trodAll_cons hA
  obtain ⟨rfl, rfl, rfl⟩ := trodAll_nil r0
  obtain rfl : args = #[v0] := by cases args; simp_all
  obtain ⟨rfl, rfl⟩ := trodVars_none hV
  have hbk : Rows.uptoBulkAll ([d0] ++ []) ≤ 1048576 := of_decide_eq_true hbulk
  have hz0 : Rows.uptoBulk d0 ≤ 1048576 := Nat.le_trans (bulk_part (by simp)) hbk
  have k0 := h0
  have lt0 : ∀ x ∈ p0, x.block < W.heap.size := by obtain ⟨m, hm⟩ := k0; exact DataW.trod_lt m _ _ _ hm
  obtain ⟨S0, c0, o0, P0, cp0, ps0, X0, cx0, xs0, GS0, GC0, gc0, gd0, g0, rfl, hI0, lc0, lm0, lo0, hw0, hs0, hP0, lp0, mp0, np0, hX0, lx0, mx0, nx0, hG0⟩ := gcase_open (hval 0 32 v0 rfl rfl) h0 hz0
  clear hA0 hval0
  refine (walkOpGoes W S0 c0 o0 P0 cp0 ps0 X0 cx0 xs0 GS0 GC0 gc0 gd0 g0 hI0 lo0 hw0 hP0 lp0 np0 hX0 lx0 mx0 nx0 hG0).mono fun e W' ⟨he, bel⟩ => ?_
  subst he
  exact ⟨_, rfl, _, _, _, [], _, [], hW', trodAll_mk1 (shut_bool Try.underlying4 _), (trodAll_cons_mk (Below.trod laidOut (by kernel_rfl) (of_decide_eq_true (by kernel_rfl)) k0 bel lt0) trodAll_mk0), rfl, bel.frame _, fun h => by cases h⟩

theorem over : Rows.opGoesUptoRow.holds Try.pinned (Rows.OpenSpec.upto Rows.opGoesSpec) :=
  OpenClaim.holds_of_cond 3 Try.f3 rfl rfl rfl rfl rfl rfl rfl ⟨rfl, rfl, rfl, rfl, rfl⟩ rfl rfl rfl rfl rfl (by kernel_rfl) Try.func3 (by kernel_rfl)
    (of_decide_eq_true (by kernel_rfl)) (by unfold Func.isWrapper; first | (rw [if_pos (by decide +kernel)]; kernel_rfl) | (rw [if_neg (by decide +kernel)]; exact ⟨rfl, rfl⟩))
    (fun os started H enc _ Fi => lifted os started H enc Fi)
end Go.Proofs.Ytbnnpkcfifejmaa.opGoes
namespace Go.Proofs.Ytbnnpkcfifejmaa
theorem opGoes_holds : Rows.OpGoesUptoSaid := opGoes.over
#print axioms opGoes_holds
end Go.Proofs.Ytbnnpkcfifejmaa
