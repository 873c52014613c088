/- Lemmas for the statements of this seat: contracts of functions and the plain laws. -/
import Derived.Deep.DeepCutAuto
import Derived.Test.YtbnnpkcfifejmaaZ10
set_option linter.unusedVariables false
/- Layer 10's statements on cases: small, counted, shapes: contracts. -/
namespace Go.Proofs.Ytbnnpkcfifejmaa
open Go.RowKit
theorem tenT_info : (Try.prog.info? 30).map (fun i => (i.zero, i.size, i.bytes)) = some (some (.agg #[.slice none 0 0, .slice none 0 0]), 2, 48) := by kernel_rfl
theorem shpF_info : (Try.prog.info? 24).map (fun i => (i.zero, i.size, i.bytes)) = some (some (.slice none 0 0), 1, 24) := by kernel_rfl
theorem case_cells12 {W : World} {g : Nat} {T : TypeId} {o : OpD} {S P X GS GC : Option Addr} {c cp cx gc gd : Nat} {p x : List Ten} {t : Ten} (h : Blk W g T (case_arr o S P X GS GC c cp cx gc gd p x t)) :
    W.cell? ⟨g, 0, none⟩ = some (.int .i64 o.kind) ∧ W.cell? ⟨g, 1, none⟩ = some (.int .i64 o.k) ∧ W.cell? ⟨g, 2, none⟩ = some (.int .i64 o.width) ∧ W.cell? ⟨g, 3, none⟩ = some (.int .i64 o.step) ∧ W.cell? ⟨g, 4, none⟩ = some (.int .i64 o.side) ∧ W.cell? ⟨g, 5, none⟩ = some (.int .i64 o.frm) ∧ W.cell? ⟨g, 6, none⟩ = some (.int .i64 o.to) ∧ W.cell? ⟨g, 7, none⟩ = some (.slice S o.s.length c) ∧
    W.cell? ⟨g, 8, none⟩ = some (.slice P p.length cp) ∧ W.cell? ⟨g, 9, none⟩ = some (.slice X x.length cx) ∧ W.cell? ⟨g, 10, none⟩ = some (.slice GS t.s.length gc) ∧ W.cell? ⟨g, 11, none⟩ = some (.slice GC t.c.length gd) :=
  ⟨h.cell 0, h.cell 1, h.cell 2, h.cell 3, h.cell 4, h.cell 5, h.cell 6, h.cell 7, h.cell 8, h.cell 9, h.cell 10, h.cell 11⟩
theorem own_one {w : World} {B g : Nat} {e : TypeId} {xs : List Value} {size : Nat} (h : w.heap[g]? = some (.cells xs.toArray e (0, 0))) (hB : B ≤ g) (hn : xs.length = size) : w.ownsRow B e size (.slice (some ⟨g, 0, none⟩) 1 1) 1 xs :=
  ⟨by omega, .inr ⟨g, 1, xs.toArray, rfl, hB, h, by omega, by unfold maxLen; omega, by simp; omega, by rw [List.take_of_length_le] <;> simp <;> omega⟩⟩
def AnyBoolE (e : Ending) : Prop := ∃ b, e = .returned (.bool b)
set_option maxHeartbeats 16000000 in
set_option maxRecDepth 20000 in
theorem law10_small (o : OpD) (S P X GS GC : Option Addr) (c cp cx gc gd : Nat) (p x : List Ten) (g : Ten) (w : World) (hP : Tns w P p) (hX : Tns w X x) (lP : p.length ≤ 1048576) (lX : x.length ≤ 1048576) (hG : TenIn w GS GC gc gd g) :
    Calls Try.prog 4 #[.agg (case_arr o S P X GS GC c cp cx gc gd p x g)] w fun e w' => AnyBoolE e ∧ Below w.heap.size w w' := by
  obtain ⟨i0, hi, hz0, hz1, hz2⟩ := info_parts tenT_info
  have hk := Blk.new w 32 (case_arr o S P X GS GC c cp cx gc gd p x g)
  have h0 : Later w (w.alloc (.cells (case_arr o S P X GS GC c cp cx gc gd p x g) 32)) := (Later.refl w).alloc _
  have hs1 : (w.alloc (.cells (case_arr o S P X GS GC c cp cx gc gd p x g) 32)).heap.size = w.heap.size + 1 := by simp
  have Hk := Lib.hid hk
  have H0 := Lib.hid h0
  have HP := Lib.hid hP
  have HX := Lib.hid hX
  have Hs1 := Lib.hid hs1
  have HG := Lib.hid hG
  clear hk h0 hP hX hs1 hG
  go_enter Try.func4, Try.ntmps4
  go_wp2_with fail
  go_upto_region 2 with fail
  generalize w.alloc (.cells (case_arr o S P X GS GC c cp cx gc gd p x g) 32) = w1 at *
  obtain ⟨y0, y1, y2, y3, y4, y5, y6, y7, y8, y9, y10, y11⟩ := case_cells12 Hk.out
  clear y0 y1 y2 y3 y4 y5 y6 y7
  have hown0 : ((w1.drew).alloc (.cells #[.slice GS g.s.length gc, .slice GC g.c.length gd] 30)).ownsRow w1.heap.size 30 2 (.slice (some ⟨w1.heap.size, 0, none⟩) 1 1) 1 [.slice GS g.s.length gc, .slice GC g.c.length gd] := own_one (heap_alloc_new w1.drew _) (Nat.le_refl _) rfl
  have hb4 : Below w.heap.size w ((w1.drew).alloc (.cells #[.slice GS g.s.length gc, .slice GC g.c.length gd] 30)) := (H0.out.drew).alloc _
  have Hown0 := Lib.hid hown0
  have Hb4 := Lib.hid hb4
  clear hown0 hb4
  refine wp_region_noPanic ?_
  refine wp_region_held_drew (S := fun Xw => Xw.cell? ⟨w.heap.size, 8, none⟩ = some (.slice P p.length cp) ∧ Xw.cell? ⟨w.heap.size, 9, none⟩ = some (.slice X x.length cx) ∧ Xw.cell? ⟨w.heap.size, 10, none⟩ = some (.slice GS g.s.length gc) ∧ Xw.cell? ⟨w.heap.size, 11, none⟩ = some (.slice GC g.c.length gd)) (by kernel_rfl) ?_ (fun hHeld => ?_)
  · (try dsimp only); (first | (with_reducible exact ⟨y8, y9, y10, y11⟩) | exact ⟨Later.cell (show Later w1 _ by repeat (first | (with_reducible exact Later.refl _) | (with_reducible apply Later.drew) | (with_reducible apply Later.drewN) | (with_reducible apply Later.alloc) | (with_reducible refine Later.call ?_ (by assumption)))) y8, Later.cell (show Later w1 _ by repeat (first | (with_reducible exact Later.refl _) | (with_reducible apply Later.drew) | (with_reducible apply Later.drewN) | (with_reducible apply Later.alloc) | (with_reducible refine Later.call ?_ (by assumption)))) y9, Later.cell (show Later w1 _ by repeat (first | (with_reducible exact Later.refl _) | (with_reducible apply Later.drew) | (with_reducible apply Later.drewN) | (with_reducible apply Later.alloc) | (with_reducible refine Later.call ?_ (by assumption)))) y10, Later.cell (show Later w1 _ by repeat (first | (with_reducible exact Later.refl _) | (with_reducible apply Later.drew) | (with_reducible apply Later.drewN) | (with_reducible apply Later.alloc) | (with_reducible refine Later.call ?_ (by assumption)))) y11⟩)
  refine wpAnyH_take (i := 0) (oi := _) (v := ?mv1) rfl (by kernel_rfl) (by kernel_rfl) (by kernel_rfl) (fun _ _ _ h => h) (Or.inl ⟨by rfl, ?my1⟩) (by assumption) ?mr1
  case my1 => (simp only [List.getElem_toArray, List.getElem_cons_zero]; intro w hSw; (try dsimp only at hSw); go_simp; first | done | with_reducible rfl)
  try simp only [List.getElem_toArray, List.getElem_cons_zero, Act.put, List.setIfInBounds_toArray, List.set_cons_zero, List.set_cons_succ]
  refine wpAnyH_take (i := 1) (oi := _) (v := ?mv2) rfl (by kernel_rfl) (by kernel_rfl) (by kernel_rfl) (fun _ _ _ h => h) (Or.inl ⟨by rfl, ?my2⟩) (by assumption) ?mr2
  case my2 => (simp only [List.getElem_toArray, List.getElem_cons_succ, List.getElem_cons_zero]; intro w hSw; (try dsimp only at hSw); go_simp; first | done | with_reducible rfl)
  try simp only [List.getElem_toArray, List.getElem_cons_succ, List.getElem_cons_zero, Act.put, List.setIfInBounds_toArray, List.set_cons_zero, List.set_cons_succ]
  refine wpAnyH_take (i := 3) (oi := _) (v := ?mv3) rfl (by kernel_rfl) (by kernel_rfl) (by kernel_rfl) (fun _ _ _ h => h) (Or.inl ⟨by rfl, ?my3⟩) (by assumption) ?mr3
  case my3 => (simp only [List.getElem_toArray, List.getElem_cons_succ, List.getElem_cons_zero]; intro w hSw; (try dsimp only at hSw); go_simp; first | done | with_reducible rfl)
  try simp only [List.getElem_toArray, List.getElem_cons_succ, List.getElem_cons_zero, Act.put, List.setIfInBounds_toArray, List.set_cons_zero, List.set_cons_succ]
  refine wpAnyH_take (i := 4) (oi := _) (v := ?mv4) rfl (by kernel_rfl) (by kernel_rfl) (by kernel_rfl) (fun _ _ _ h => h) (Or.inl ⟨by rfl, ?my4⟩) (by assumption) ?mr4
  case my4 => (simp only [List.getElem_toArray, List.getElem_cons_succ, List.getElem_cons_zero]; intro w hSw; (try dsimp only at hSw); go_simp; first | done | with_reducible rfl)
  try simp only [List.getElem_toArray, List.getElem_cons_succ, List.getElem_cons_zero, Act.put, List.setIfInBounds_toArray, List.set_cons_zero, List.set_cons_succ]
  refine wpAnyH_take (i := 6) (oi := _) (v := ?mv5) rfl (by kernel_rfl) (by kernel_rfl) (by kernel_rfl) (fun _ _ _ h => h) (Or.inl ⟨by rfl, ?my5⟩) (by assumption) ?mr5
  case my5 => (simp only [List.getElem_toArray, List.getElem_cons_succ, List.getElem_cons_zero]; intro w hSw; (try dsimp only at hSw); go_simp; first | done | with_reducible rfl)
  try simp only [List.getElem_toArray, List.getElem_cons_succ, List.getElem_cons_zero, Act.put, List.setIfInBounds_toArray, List.set_cons_zero, List.set_cons_succ]
  refine wpAnyH_take (i := 7) (oi := _) (v := ?mv6) rfl (by kernel_rfl) (by kernel_rfl) (by kernel_rfl) (fun _ _ _ h => h) (Or.inl ⟨by rfl, ?my6⟩) (by assumption) ?mr6
  case my6 => (simp only [List.getElem_toArray, List.getElem_cons_succ, List.getElem_cons_zero]; intro w hSw; (try dsimp only at hSw); go_simp; first | done | with_reducible rfl)
  try simp only [List.getElem_toArray, List.getElem_cons_succ, List.getElem_cons_zero, Act.put, List.setIfInBounds_toArray, List.set_cons_zero, List.set_cons_succ]
  refine wpAnyH_take (i := 10) (oi := _) (v := ?mv7) rfl (by kernel_rfl) (by kernel_rfl) (by kernel_rfl) (fun _ _ _ h => h) (Or.inl ⟨by rfl, ?my7⟩) (by assumption) ?mr7
  case my7 => (simp only [List.getElem_toArray, List.getElem_cons_succ, List.getElem_cons_zero]; intro w hSw; (try dsimp only at hSw); go_simp; first | done | with_reducible rfl)
  try simp only [List.getElem_toArray, List.getElem_cons_succ, List.getElem_cons_zero, Act.put, List.setIfInBounds_toArray, List.set_cons_zero, List.set_cons_succ]
  refine wpAnyH_ready (rs := [2]) (by kernel_rfl) (by simp) ?_
  refine AllReadyH.cons (o := _) rfl (fun K hK => ?_) AllReadyH.nil
  simp only [List.getElem_toArray, List.getElem_cons_succ, List.getElem_cons_zero]
  go_simp
  refine hK.out _ _ ?_ (fun hHeld => ?_)
  · (try dsimp only); (first | (with_reducible exact ⟨y8, y9, y10, y11⟩) | exact ⟨Later.cell (show Later w1 _ by repeat (first | (with_reducible exact Later.refl _) | (with_reducible apply Later.drew) | (with_reducible apply Later.drewN) | (with_reducible apply Later.alloc) | (with_reducible refine Later.call ?_ (by assumption)))) y8, Later.cell (show Later w1 _ by repeat (first | (with_reducible exact Later.refl _) | (with_reducible apply Later.drew) | (with_reducible apply Later.drewN) | (with_reducible apply Later.alloc) | (with_reducible refine Later.call ?_ (by assumption)))) y9, Later.cell (show Later w1 _ by repeat (first | (with_reducible exact Later.refl _) | (with_reducible apply Later.drew) | (with_reducible apply Later.drewN) | (with_reducible apply Later.alloc) | (with_reducible refine Later.call ?_ (by assumption)))) y10, Later.cell (show Later w1 _ by repeat (first | (with_reducible exact Later.refl _) | (with_reducible apply Later.drew) | (with_reducible apply Later.drewN) | (with_reducible apply Later.alloc) | (with_reducible refine Later.call ?_ (by assumption)))) y11⟩)
  clear hK K
  try simp only [List.getElem_toArray, List.getElem_cons_succ, List.getElem_cons_zero, Act.put, List.setIfInBounds_toArray, List.set_cons_zero, List.set_cons_succ]
  refine wpAnyH_ready (rs := [5]) (by kernel_rfl) (by simp) ?_
  refine AllReadyH.cons (o := _) rfl (fun K hK => ?_) AllReadyH.nil
  refine step_append_tens (by rfl) _ _ 27 (by rfl) w1.heap.size 30 i0 Try.underlying27 hi hz0 hz1 hz2 w1.heap.size 1 1 _ [g] (by rfl) Hown0.out w (RowT.one HG.out) P cp p (by rfl) HP.out Hb4.out (by have := Hs1.out; omega) (by simp) (by omega) ?_
  intro g1 c1 w6 vs1 hown1 hrow1 hb6 hbb6
  have hl6 : Later w1 w6 := Below.trans (((Later.refl w1).alloc _).drew) hbb6
  have y8 := hl6.cell y8
  have y9 := hl6.cell y9
  have y10 := hl6.cell y10
  have y11 := hl6.cell y11
  have HO1 := Lib.hid hown1
  have HR1 := Lib.hid hrow1
  have HB6 := Lib.hid hb6
  have HS6 := Lib.hid hl6.size
  have HL6 := Lib.hid hl6
  clear hown1 hrow1 hb6 hbb6 hl6
  refine hK.out _ _ ?_ (fun hHeld => ?_)
  · (try dsimp only); (first | (with_reducible exact ⟨y8, y9, y10, y11⟩) | exact ⟨Later.cell (show Later w1 _ by repeat (first | (with_reducible exact Later.refl _) | (with_reducible apply Later.drew) | (with_reducible apply Later.drewN) | (with_reducible apply Later.alloc) | (with_reducible refine Later.call ?_ (by assumption)))) y8, Later.cell (show Later w1 _ by repeat (first | (with_reducible exact Later.refl _) | (with_reducible apply Later.drew) | (with_reducible apply Later.drewN) | (with_reducible apply Later.alloc) | (with_reducible refine Later.call ?_ (by assumption)))) y9, Later.cell (show Later w1 _ by repeat (first | (with_reducible exact Later.refl _) | (with_reducible apply Later.drew) | (with_reducible apply Later.drewN) | (with_reducible apply Later.alloc) | (with_reducible refine Later.call ?_ (by assumption)))) y10, Later.cell (show Later w1 _ by repeat (first | (with_reducible exact Later.refl _) | (with_reducible apply Later.drew) | (with_reducible apply Later.drewN) | (with_reducible apply Later.alloc) | (with_reducible refine Later.call ?_ (by assumption)))) y11⟩)
  clear hK K
  try simp only [List.getElem_toArray, List.getElem_cons_succ, List.getElem_cons_zero, Act.put, List.setIfInBounds_toArray, List.set_cons_zero, List.set_cons_succ]
  refine wpAnyH_ready (rs := [8]) (by kernel_rfl) (by simp) ?_
  refine AllReadyH.cons (o := _) rfl (fun K hK => ?_) AllReadyH.nil
  refine step_append_tens (by rfl) _ _ 27 (by rfl) w1.heap.size 30 i0 Try.underlying27 hi hz0 hz1 hz2 g1 _ c1 vs1 _ (by rfl) HO1.out w HR1.out X cx x (by rfl) HX.out HB6.out (by have := Hs1.out; omega) HS6.out (by omega) ?_
  intro g2 c2 w7 vs2 hown2 hrow2 hb7 hbb7
  have hl7 : Later w1 w7 := Below.trans HL6.out hbb7
  have y8 := (hbb7.cell (p := ⟨w.heap.size, 8, none⟩) (by have := Hs1.out; simp; omega)).trans y8
  have y9 := (hbb7.cell (p := ⟨w.heap.size, 9, none⟩) (by have := Hs1.out; simp; omega)).trans y9
  have y10 := (hbb7.cell (p := ⟨w.heap.size, 10, none⟩) (by have := Hs1.out; simp; omega)).trans y10
  have y11 := (hbb7.cell (p := ⟨w.heap.size, 11, none⟩) (by have := Hs1.out; simp; omega)).trans y11
  refine hK.out _ _ ?_ (fun hHeld => ?_)
  · (try dsimp only); (first | (with_reducible exact ⟨y8, y9, y10, y11⟩) | exact ⟨Later.cell (show Later w1 _ by repeat (first | (with_reducible exact Later.refl _) | (with_reducible apply Later.drew) | (with_reducible apply Later.drewN) | (with_reducible apply Later.alloc) | (with_reducible refine Later.call ?_ (by assumption)))) y8, Later.cell (show Later w1 _ by repeat (first | (with_reducible exact Later.refl _) | (with_reducible apply Later.drew) | (with_reducible apply Later.drewN) | (with_reducible apply Later.alloc) | (with_reducible refine Later.call ?_ (by assumption)))) y9, Later.cell (show Later w1 _ by repeat (first | (with_reducible exact Later.refl _) | (with_reducible apply Later.drew) | (with_reducible apply Later.drewN) | (with_reducible apply Later.alloc) | (with_reducible refine Later.call ?_ (by assumption)))) y10, Later.cell (show Later w1 _ by repeat (first | (with_reducible exact Later.refl _) | (with_reducible apply Later.drew) | (with_reducible apply Later.drewN) | (with_reducible apply Later.alloc) | (with_reducible refine Later.call ?_ (by assumption)))) y11⟩)
  clear hK K
  try simp only [List.getElem_toArray, List.getElem_cons_succ, List.getElem_cons_zero, Act.put, List.setIfInBounds_toArray, List.set_cons_zero, List.set_cons_succ]
  refine wpAnyH_take (i := 9) (oi := _) (v := ?mv11) rfl (by kernel_rfl) (by kernel_rfl) (by kernel_rfl) (fun _ _ _ h => h) (Or.inl ⟨by rfl, ?my11⟩) (by assumption) ?mr11
  case my11 => (simp only [List.getElem_toArray, List.getElem_cons_succ, List.getElem_cons_zero]; intro w hSw; (try dsimp only at hSw); go_simp; first | done | with_reducible rfl)
  try simp only [List.getElem_toArray, List.getElem_cons_succ, List.getElem_cons_zero, Act.put, List.setIfInBounds_toArray, List.set_cons_zero, List.set_cons_succ]
  refine wpAnyH_done (by kernel_rfl) ?_ _
  refine NoPanic.normal ?_
  obtain ⟨A', c', e5, e6, hSh, -, -⟩ := hrow2.tns hown2 hb7
  injection e5 with e5 _ e5c
  subst e5 e5c
  have HS2 := Lib.hid hSh
  have HB7 := Lib.hid hb7
  have HK7 := Lib.hid (hl7.blk Hk.out)
  clear hown2 hrow2 hb7 hbb7 hl7 hSh y8 y9 y10 y11 HO1 HR1 HB6 HS6 HL6 Hown0 Hb4 hHeld
  have hln : 1 + p.length + x.length = ([g] ++ p ++ x).length := by simp; omega
  have hln2 : (1 : Int) + (p.length : Int) + (x.length : Int) = (([g] ++ p ++ x).length : Int) := by rw [← hln]; simp
  rw [hln, hln2]
  have hsm : ([g] ++ p ++ x).length ≤ 2097153 := by rw [← hln]; omega
  generalize [g] ++ p ++ x = l at *
  clear hln hln2
  go_wp2_with fail
  go_loopw [3, 16] (fun n i wx => ∃ k m : Nat, k ≤ l.length ∧ m ≤ 700 ∧ i = .int .i64 (k : Int) ∧ n = .int .i64 (m : Int) ∧ Later w7 wx) (fun _ i _ => l.length - (intOf i).toNat)
  case atStart => exact ⟨0, 0, Nat.zero_le _, Nat.zero_le _, rfl, rfl, Later.refl _⟩
  case round =>
    obtain ⟨k, m, hk, hm, rfl, rfl, hlw⟩ := hrel
    by_cases hlt : k < l.length
    · obtain ⟨b, off, S', sc, C', dc, e7, -, c0, c1, hT⟩ := HS2.out k hlt
      injection e7 with e7
      injection e7 with e7 e8 _
      subst e7 e8
      rw [Nat.zero_add] at c0 c1
      have c0' := hlw.cell c0
      have c1' := hlw.cell c1
      have t1 := hT.l1
      have t2 := hT.l2
      generalize l[k] = t at *
      clear c0 c1 hT
      by_cases h7 : 700 < m + (1 + t.s.length + t.c.length)
      · have d1 : (700 : Int) < (m : Int) + (1 + (t.s.length : Int) + (t.c.length : Int)) := by omega
        have q1 : IntKind.i64.wrap ((m : Int) + (1 + (t.s.length : Int) + (t.c.length : Int))) = (m : Int) + (1 + (t.s.length : Int) + (t.c.length : Int)) := IntWalk.i64_in _ (by omega)
        have q2 : IntKind.i64.wrap ((1 : Int) + (t.s.length : Int) + (t.c.length : Int)) = (1 : Int) + (t.s.length : Int) + (t.c.length : Int) := IntWalk.i64_in _ (by omega)
        have q3 : IntKind.i64.wrap ((1 : Int) + (t.s.length : Int)) = (1 : Int) + (t.s.length : Int) := IntWalk.i64_in _ (by omega)
        have Hlw := Lib.hid hlw
        clear hlw
        go_wp2_with fail
        go_ret
        exact ⟨⟨_, rfl⟩, HB7.out.trans ((Hlw.out.alloc _).mono HB7.out.size)⟩
      · have d1 : ¬ (700 : Int) < (m : Int) + (1 + (t.s.length : Int) + (t.c.length : Int)) := by omega
        have q1 : IntKind.i64.wrap ((m : Int) + (1 + (t.s.length : Int) + (t.c.length : Int))) = (m : Int) + (1 + (t.s.length : Int) + (t.c.length : Int)) := IntWalk.i64_in _ (by omega)
        have q2 : IntKind.i64.wrap ((1 : Int) + (t.s.length : Int) + (t.c.length : Int)) = (1 : Int) + (t.s.length : Int) + (t.c.length : Int) := IntWalk.i64_in _ (by omega)
        have q3 : IntKind.i64.wrap ((1 : Int) + (t.s.length : Int)) = (1 : Int) + (t.s.length : Int) := IntWalk.i64_in _ (by omega)
        have Hlw := Lib.hid hlw
        clear hlw
        go_wp2_with fail
        go_roundw
        case rel => exact ⟨k + 1, m + (1 + t.s.length + t.c.length), by omega, by omega, by go_num, by simp, Hlw.out.alloc _⟩
        case measure => simp [intOf]; omega
    · obtain rfl : k = l.length := by omega
      have hk7 := hlw.blk HK7.out
      obtain ⟨y0, y1, y2, y3, y4, y5, y6, y7, y8, y9, y10, y11⟩ := case_cells12 hk7
      clear y0 y1 y2 y3 y4 y5 y6 y10 y11
      by_cases z3 : o.s.length ≤ 20
      · have d5 : decide ((o.s.length : Int) ≤ 20) = true := by simp; omega
        by_cases z1 : p.length ≤ 9
        · have d6 : decide ((p.length : Int) ≤ 9) = true := by simp; omega
          have Hlw := Lib.hid hlw
          have Hk7 := Lib.hid hk7
          clear hlw hk7
          go_wp2_with fail
          go_ret
          exact ⟨⟨_, rfl⟩, HB7.out.trans (Hlw.out.mono HB7.out.size)⟩
        · have d6 : decide ((p.length : Int) ≤ 9) = false := by simp; omega
          have Hlw := Lib.hid hlw
          have Hk7 := Lib.hid hk7
          clear hlw hk7
          go_wp2_with fail
          go_ret
          exact ⟨⟨_, rfl⟩, HB7.out.trans (Hlw.out.mono HB7.out.size)⟩
      · have d5 : decide ((o.s.length : Int) ≤ 20) = false := by simp; omega
        have Hlw := Lib.hid hlw
        have Hk7 := Lib.hid hk7
        clear hlw hk7
        go_wp2_with fail
        go_ret
        exact ⟨⟨_, rfl⟩, HB7.out.trans (Hlw.out.mono HB7.out.size)⟩
set_option maxHeartbeats 8000000 in
set_option maxRecDepth 20000 in
theorem law10_counted (o : OpD) (S P X GS GC : Option Addr) (c cp cx gc gd : Nat) (p x : List Ten) (g : Ten) (w : World) (ho : o.s.length ≤ 1048576) :
    Calls Try.prog 7 #[.agg (case_arr o S P X GS GC c cp cx gc gd p x g)] w fun e w' => e = .returned (.int .i64 (Od.counts o p.length x.length)) ∧ Below w.heap.size w w' := by
  have hk := Blk.new w 32 (case_arr o S P X GS GC c cp cx gc gd p x g)
  have h0 : Later w (w.alloc (.cells (case_arr o S P X GS GC c cp cx gc gd p x g) 32)) := (Later.refl w).alloc _
  have Hk := Lib.hid hk
  have H0 := Lib.hid h0
  clear hk h0
  go_enter Try.func7, Try.ntmps7
  go_upto_region 1 with fail
  generalize w.alloc (.cells (case_arr o S P X GS GC c cp cx gc gd p x g) 32) = w1 at *
  obtain ⟨y0, y1, y2, y3, y4, y5, y6, y7, y8, y9, y10, y11⟩ := case_cells12 Hk.out
  go_wp2_with fail
  refine (law10_ref o S c _).mono ?_
  rintro e w2 ⟨rfl, hb2⟩
  have h12 : Later w1 w2 := hb2
  clear hb2
  have H12 := Lib.hid h12
  clear h12
  go_wp2_with fail
  refine (ref10_right o S c _ (by omega)).mono ?_
  rintro e w3 ⟨rfl, hb3⟩
  rw [Od.ref_right]
  have h13 := H12.out.call hb3
  have h03 := H0.out.trans h13
  clear hb3 y0 y1 y2 y3 y4 y5 y6 y7 y8 y9 y10 y11
  obtain ⟨y0, y1, y2, y3, y4, y5, y6, y7, y8, y9, y10, y11⟩ := case_cells12 (h13.blk Hk.out)
  clear y1 y2 y3 y4 y5 y6 y7 y10 y11
  cases hr : Od.right o
  · have HV := Lib.hid (show Od.counts o p.length x.length = 21 by unfold Od.counts; rw [hr]; rfl)
    have H13 := Lib.hid h13
    have H03 := Lib.hid h03
    have Hr := Lib.hid hr
    clear h13 h03 hr
    go_wp2_with fail
    go_ret
    exact ⟨by (rw [HV.out] <;> rfl), H03.out⟩
  have e1 := refIns_right hr
  have e2 := refPar_right hr
  have hv : Od.counts o p.length x.length = if ((x.length : Int) < Od.least o ∨ Od.most o < (x.length : Int) ∨ (p.length : Int) ≠ Od.params o) then 20 else 0 := by unfold Od.counts; rw [if_pos hr]
  have H13 := Lib.hid h13
  have H03 := Lib.hid h03
  have Hr := Lib.hid hr
  have He1 := Lib.hid e1
  have He2 := Lib.hid e2
  have Hv := Lib.hid hv
  clear h13 h03 hr e1 e2 hv
  go_wp2_with fail
  refine (ref10_ins_any o.kind _).mono ?_
  rintro e w4 ⟨rfl, rfl⟩
  rw [He1.out]
  have hpar := fun (W : World) => ref10_params o.kind W
  rw [He2.out] at hpar
  generalize Od.least o = ls at *
  generalize Od.most o = ms at *
  generalize Od.params o = pr at *
  have Hpar := Lib.hid hpar
  clear hpar
  by_cases a1 : (p.length : Int) = pr
  rotate_left
  · have HV := Lib.hid (Hv.out.trans (by rw [if_pos (by omega)]))
    have d1 : ((p.length : Int) != pr) = true := by rw [bne_iff_ne]; exact a1
    have d1' : ¬ (p.length : Int) = pr := a1
    go_wp2_with fail
    refine wp_region_noPanic ?_
    refine wp_region_held_drew (S := fun Xw => Xw.cell? ⟨w.heap.size, 0, none⟩ = some (.int .i64 o.kind) ∧ Xw.cell? ⟨w.heap.size, 8, none⟩ = some (.slice P p.length cp) ∧ Xw.cell? ⟨w.heap.size, 9, none⟩ = some (.slice X x.length cx)) (by kernel_rfl) ?_ (fun hHeld => ?_)
    · (try dsimp only); (first | (with_reducible exact ⟨y0, y8, y9⟩) | exact ⟨Later.cell (show Later w3 _ by repeat (first | (with_reducible exact Later.refl _) | (with_reducible apply Later.drew) | (with_reducible apply Later.drewN) | (with_reducible apply Later.alloc) | (with_reducible refine Later.call ?_ (by assumption)))) y0, Later.cell (show Later w3 _ by repeat (first | (with_reducible exact Later.refl _) | (with_reducible apply Later.drew) | (with_reducible apply Later.drewN) | (with_reducible apply Later.alloc) | (with_reducible refine Later.call ?_ (by assumption)))) y8, Later.cell (show Later w3 _ by repeat (first | (with_reducible exact Later.refl _) | (with_reducible apply Later.drew) | (with_reducible apply Later.drewN) | (with_reducible apply Later.alloc) | (with_reducible refine Later.call ?_ (by assumption)))) y9⟩)
    refine wpAnyH_take (i := 0) (oi := _) (v := ?mv12) rfl (by kernel_rfl) (by kernel_rfl) (by kernel_rfl) (fun _ _ _ h => h) (Or.inl ⟨by rfl, ?my12⟩) (by assumption) ?mr12
    case my12 => (simp only [List.getElem_toArray, List.getElem_cons_zero]; intro w hSw; (try dsimp only at hSw); go_simp; first | done | with_reducible rfl)
    try simp only [List.getElem_toArray, List.getElem_cons_zero, Act.put, List.setIfInBounds_toArray, List.set_cons_zero, List.set_cons_succ]
    refine wpAnyH_take (i := 1) (oi := _) (v := ?mv13) rfl (by kernel_rfl) (by kernel_rfl) (by kernel_rfl) (fun _ _ _ h => h) (Or.inl ⟨by rfl, ?my13⟩) (by assumption) ?mr13
    case my13 => (simp only [List.getElem_toArray, List.getElem_cons_succ, List.getElem_cons_zero]; intro w hSw; (try dsimp only at hSw); go_simp; first | done | with_reducible rfl)
    try simp only [List.getElem_toArray, List.getElem_cons_succ, List.getElem_cons_zero, Act.put, List.setIfInBounds_toArray, List.set_cons_zero, List.set_cons_succ]
    refine wpAnyH_take (i := 2) (oi := _) (v := ?mv14) rfl (by kernel_rfl) (by kernel_rfl) (by kernel_rfl) (fun _ _ _ h => h) (Or.inl ⟨by rfl, ?my14⟩) (by assumption) ?mr14
    case my14 => (simp only [List.getElem_toArray, List.getElem_cons_succ, List.getElem_cons_zero]; intro w hSw; (try dsimp only at hSw); go_simp; first | done | with_reducible rfl)
    try simp only [List.getElem_toArray, List.getElem_cons_succ, List.getElem_cons_zero, Act.put, List.setIfInBounds_toArray, List.set_cons_zero, List.set_cons_succ]
    refine wpAnyH_take (i := 3) (oi := _) (v := ?mv15) rfl (by kernel_rfl) (by kernel_rfl) (by kernel_rfl) (fun _ _ _ h => h) (Or.inl ⟨by rfl, ?my15⟩) (by assumption) ?mr15
    case my15 => (simp only [List.getElem_toArray, List.getElem_cons_succ, List.getElem_cons_zero]; intro w hSw; (try dsimp only at hSw); go_simp; first | done | with_reducible rfl)
    try simp only [List.getElem_toArray, List.getElem_cons_succ, List.getElem_cons_zero, Act.put, List.setIfInBounds_toArray, List.set_cons_zero, List.set_cons_succ]
    refine wpAnyH_take (i := 4) (oi := _) (v := ?mv16) rfl (by kernel_rfl) (by kernel_rfl) (by kernel_rfl) (fun _ _ _ h => h) (Or.inl ⟨by rfl, ?my16⟩) (by assumption) ?mr16
    case my16 => (simp only [List.getElem_toArray, List.getElem_cons_succ, List.getElem_cons_zero]; intro w hSw; (try dsimp only at hSw); go_simp; first | done | with_reducible rfl)
    try simp only [List.getElem_toArray, List.getElem_cons_succ, List.getElem_cons_zero, Act.put, List.setIfInBounds_toArray, List.set_cons_zero, List.set_cons_succ]
    refine wpAnyH_take (i := 5) (oi := _) (v := ?mv17) rfl (by kernel_rfl) (by kernel_rfl) (by kernel_rfl) (fun _ _ _ h => h) (Or.inl ⟨by rfl, ?my17⟩) (by assumption) ?mr17
    case my17 => (simp only [List.getElem_toArray, List.getElem_cons_succ, List.getElem_cons_zero]; intro w hSw; (try dsimp only at hSw); go_simp; first | done | with_reducible rfl)
    try simp only [List.getElem_toArray, List.getElem_cons_succ, List.getElem_cons_zero, Act.put, List.setIfInBounds_toArray, List.set_cons_zero, List.set_cons_succ]
    refine wpAnyH_ready (rs := [6]) (by kernel_rfl) (by simp) ?_
    refine AllReadyH.cons (o := _) rfl (fun K hK => ?_) AllReadyH.nil
    simp only [List.getElem_toArray, List.getElem_cons_succ, List.getElem_cons_zero]
    go_simp
    go_at_call 28; (with_reducible refine (Hpar.out _).mono ?_); rintro e wf ⟨rfl, rfl⟩
    try go_wp2_with fail
    refine hK.out _ _ ?_ (fun hHeld => ?_)
    · (try dsimp only); (first | (with_reducible exact ⟨y0, y8, y9⟩) | exact ⟨Later.cell (show Later w3 _ by repeat (first | (with_reducible exact Later.refl _) | (with_reducible apply Later.drew) | (with_reducible apply Later.drewN) | (with_reducible apply Later.alloc) | (with_reducible refine Later.call ?_ (by assumption)))) y0, Later.cell (show Later w3 _ by repeat (first | (with_reducible exact Later.refl _) | (with_reducible apply Later.drew) | (with_reducible apply Later.drewN) | (with_reducible apply Later.alloc) | (with_reducible refine Later.call ?_ (by assumption)))) y8, Later.cell (show Later w3 _ by repeat (first | (with_reducible exact Later.refl _) | (with_reducible apply Later.drew) | (with_reducible apply Later.drewN) | (with_reducible apply Later.alloc) | (with_reducible refine Later.call ?_ (by assumption)))) y9⟩)
    clear hK K
    try simp only [List.getElem_toArray, List.getElem_cons_succ, List.getElem_cons_zero, Act.put, List.setIfInBounds_toArray, List.set_cons_zero, List.set_cons_succ]
    refine wpAnyH_take (i := 7) (oi := _) (v := ?mv19) rfl (by kernel_rfl) (by kernel_rfl) (by kernel_rfl) (fun _ _ _ h => h) (Or.inl ⟨by rfl, ?my19⟩) (by assumption) ?mr19
    case my19 => (simp only [List.getElem_toArray, List.getElem_cons_succ, List.getElem_cons_zero]; intro w hSw; (try dsimp only at hSw); go_simp; first | done | with_reducible rfl)
    try simp only [List.getElem_toArray, List.getElem_cons_succ, List.getElem_cons_zero, Act.put, List.setIfInBounds_toArray, List.set_cons_zero, List.set_cons_succ]
    refine wpAnyH_take (i := 8) (oi := _) (v := ?mv20) rfl (by kernel_rfl) (by kernel_rfl) (by kernel_rfl) (fun _ _ _ h => h) (Or.inl ⟨by rfl, ?my20⟩) (by assumption) ?mr20
    case my20 => (simp only [List.getElem_toArray, List.getElem_cons_succ, List.getElem_cons_zero]; intro w hSw; (try dsimp only at hSw); go_simp; first | done | with_reducible rfl)
    try simp only [List.getElem_toArray, List.getElem_cons_succ, List.getElem_cons_zero, Act.put, List.setIfInBounds_toArray, List.set_cons_zero, List.set_cons_succ]
    refine wpAnyH_take (i := 9) (oi := _) (v := undef) rfl (by kernel_rfl) (by kernel_rfl) (by kernel_rfl) (fun _ _ _ h => h) (Or.inr ⟨by rfl, rfl⟩) (by assumption) ?_
    try simp only [List.getElem_toArray, List.getElem_cons_succ, List.getElem_cons_zero, Act.put, List.setIfInBounds_toArray, List.set_cons_zero, List.set_cons_succ]
    refine wpAnyH_take (i := 10) (oi := _) (v := undef) rfl (by kernel_rfl) (by kernel_rfl) (by kernel_rfl) (fun _ _ _ h => h) (Or.inr ⟨by rfl, rfl⟩) (by assumption) ?_
    try simp only [List.getElem_toArray, List.getElem_cons_succ, List.getElem_cons_zero, Act.put, List.setIfInBounds_toArray, List.set_cons_zero, List.set_cons_succ]
    refine wpAnyH_take (i := 11) (oi := _) (v := undef) rfl (by kernel_rfl) (by kernel_rfl) (by kernel_rfl) (fun _ _ _ h => h) (Or.inr ⟨by rfl, rfl⟩) (by assumption) ?_
    try simp only [List.getElem_toArray, List.getElem_cons_succ, List.getElem_cons_zero, Act.put, List.setIfInBounds_toArray, List.set_cons_zero, List.set_cons_succ]
    refine wpAnyH_take (i := 12) (oi := _) (v := undef) rfl (by kernel_rfl) (by kernel_rfl) (by kernel_rfl) (fun _ _ _ h => h) (Or.inr ⟨by rfl, rfl⟩) (by assumption) ?_
    try simp only [List.getElem_toArray, List.getElem_cons_succ, List.getElem_cons_zero, Act.put, List.setIfInBounds_toArray, List.set_cons_zero, List.set_cons_succ]
    refine wpAnyH_take (i := 13) (oi := _) (v := undef) rfl (by kernel_rfl) (by kernel_rfl) (by kernel_rfl) (fun _ _ _ h => h) (Or.inr ⟨by rfl, rfl⟩) (by assumption) ?_
    try simp only [List.getElem_toArray, List.getElem_cons_succ, List.getElem_cons_zero, Act.put, List.setIfInBounds_toArray, List.set_cons_zero, List.set_cons_succ]
    refine wpAnyH_take (i := 14) (oi := _) (v := ?mv26) rfl (by kernel_rfl) (by kernel_rfl) (by kernel_rfl) (fun _ _ _ h => h) (Or.inl ⟨by rfl, ?my26⟩) (by assumption) ?mr26
    case my26 => (simp only [List.getElem_toArray, List.getElem_cons_succ, List.getElem_cons_zero]; intro w hSw; (try dsimp only at hSw); go_simp; first | done | with_reducible rfl)
    try simp only [List.getElem_toArray, List.getElem_cons_succ, List.getElem_cons_zero, Act.put, List.setIfInBounds_toArray, List.set_cons_zero, List.set_cons_succ]
    refine wpAnyH_take (i := 15) (oi := _) (v := ?mv27) rfl (by kernel_rfl) (by kernel_rfl) (by kernel_rfl) (fun _ _ _ h => h) (Or.inl ⟨by rfl, ?my27⟩) (by assumption) ?mr27
    case my27 => (simp only [List.getElem_toArray, List.getElem_cons_succ, List.getElem_cons_zero]; intro w hSw; (try dsimp only at hSw); go_simp; first | done | with_reducible rfl)
    try simp only [List.getElem_toArray, List.getElem_cons_succ, List.getElem_cons_zero, Act.put, List.setIfInBounds_toArray, List.set_cons_zero, List.set_cons_succ]
    refine wpAnyH_take (i := 16) (oi := _) (v := undef) rfl (by kernel_rfl) (by kernel_rfl) (by kernel_rfl) (fun _ _ _ h => h) (Or.inr ⟨by rfl, rfl⟩) (by assumption) ?_
    try simp only [List.getElem_toArray, List.getElem_cons_succ, List.getElem_cons_zero, Act.put, List.setIfInBounds_toArray, List.set_cons_zero, List.set_cons_succ]
    refine wpAnyH_take (i := 17) (oi := _) (v := undef) rfl (by kernel_rfl) (by kernel_rfl) (by kernel_rfl) (fun _ _ _ h => h) (Or.inr ⟨by rfl, rfl⟩) (by assumption) ?_
    try simp only [List.getElem_toArray, List.getElem_cons_succ, List.getElem_cons_zero, Act.put, List.setIfInBounds_toArray, List.set_cons_zero, List.set_cons_succ]
    refine wpAnyH_take (i := 18) (oi := _) (v := undef) rfl (by kernel_rfl) (by kernel_rfl) (by kernel_rfl) (fun _ _ _ h => h) (Or.inr ⟨by rfl, rfl⟩) (by assumption) ?_
    try simp only [List.getElem_toArray, List.getElem_cons_succ, List.getElem_cons_zero, Act.put, List.setIfInBounds_toArray, List.set_cons_zero, List.set_cons_succ]
    refine wpAnyH_take (i := 19) (oi := _) (v := undef) rfl (by kernel_rfl) (by kernel_rfl) (by kernel_rfl) (fun _ _ _ h => h) (Or.inr ⟨by rfl, rfl⟩) (by assumption) ?_
    try simp only [List.getElem_toArray, List.getElem_cons_succ, List.getElem_cons_zero, Act.put, List.setIfInBounds_toArray, List.set_cons_zero, List.set_cons_succ]
    refine wpAnyH_take (i := 20) (oi := _) (v := undef) rfl (by kernel_rfl) (by kernel_rfl) (by kernel_rfl) (fun _ _ _ h => h) (Or.inr ⟨by rfl, rfl⟩) (by assumption) ?_
    try simp only [List.getElem_toArray, List.getElem_cons_succ, List.getElem_cons_zero, Act.put, List.setIfInBounds_toArray, List.set_cons_zero, List.set_cons_succ]
    refine wpAnyH_take (i := 21) (oi := _) (v := ?mv33) rfl (by kernel_rfl) (by kernel_rfl) (by kernel_rfl) (fun _ _ _ h => h) (Or.inl ⟨by rfl, ?my33⟩) (by assumption) ?mr33
    case my33 => (simp only [List.getElem_toArray, List.getElem_cons_succ, List.getElem_cons_zero]; intro w hSw; (try dsimp only at hSw); go_simp; first | done | with_reducible rfl)
    try simp only [List.getElem_toArray, List.getElem_cons_succ, List.getElem_cons_zero, Act.put, List.setIfInBounds_toArray, List.set_cons_zero, List.set_cons_succ]
    refine wpAnyH_done (by kernel_rfl) ?_ _
    refine NoPanic.normal ?_
    go_wp2_with fail
    go_ret
    exact ⟨by (rw [HV.out] <;> rfl), H03.out.drew⟩
  have d1 : ((p.length : Int) != pr) = false := by simp [a1]
  by_cases a2 : (x.length : Int) < ls
  · have HV := Lib.hid (Hv.out.trans (by rw [if_pos (by omega)]))
    have d2 : decide ((x.length : Int) < ls) = true := by simpa using a2
    go_wp2_with fail
    refine wp_region_noPanic ?_
    refine wp_region_held_drew (S := fun Xw => Xw.cell? ⟨w.heap.size, 0, none⟩ = some (.int .i64 o.kind) ∧ Xw.cell? ⟨w.heap.size, 8, none⟩ = some (.slice P p.length cp) ∧ Xw.cell? ⟨w.heap.size, 9, none⟩ = some (.slice X x.length cx)) (by kernel_rfl) ?_ (fun hHeld => ?_)
    · (try dsimp only); (first | (with_reducible exact ⟨y0, y8, y9⟩) | exact ⟨Later.cell (show Later w3 _ by repeat (first | (with_reducible exact Later.refl _) | (with_reducible apply Later.drew) | (with_reducible apply Later.drewN) | (with_reducible apply Later.alloc) | (with_reducible refine Later.call ?_ (by assumption)))) y0, Later.cell (show Later w3 _ by repeat (first | (with_reducible exact Later.refl _) | (with_reducible apply Later.drew) | (with_reducible apply Later.drewN) | (with_reducible apply Later.alloc) | (with_reducible refine Later.call ?_ (by assumption)))) y8, Later.cell (show Later w3 _ by repeat (first | (with_reducible exact Later.refl _) | (with_reducible apply Later.drew) | (with_reducible apply Later.drewN) | (with_reducible apply Later.alloc) | (with_reducible refine Later.call ?_ (by assumption)))) y9⟩)
    refine wpAnyH_take (i := 0) (oi := _) (v := ?mv34) rfl (by kernel_rfl) (by kernel_rfl) (by kernel_rfl) (fun _ _ _ h => h) (Or.inl ⟨by rfl, ?my34⟩) (by assumption) ?mr34
    case my34 => (simp only [List.getElem_toArray, List.getElem_cons_zero]; intro w hSw; (try dsimp only at hSw); go_simp; first | done | with_reducible rfl)
    try simp only [List.getElem_toArray, List.getElem_cons_zero, Act.put, List.setIfInBounds_toArray, List.set_cons_zero, List.set_cons_succ]
    refine wpAnyH_take (i := 1) (oi := _) (v := ?mv35) rfl (by kernel_rfl) (by kernel_rfl) (by kernel_rfl) (fun _ _ _ h => h) (Or.inl ⟨by rfl, ?my35⟩) (by assumption) ?mr35
    case my35 => (simp only [List.getElem_toArray, List.getElem_cons_succ, List.getElem_cons_zero]; intro w hSw; (try dsimp only at hSw); go_simp; first | done | with_reducible rfl)
    try simp only [List.getElem_toArray, List.getElem_cons_succ, List.getElem_cons_zero, Act.put, List.setIfInBounds_toArray, List.set_cons_zero, List.set_cons_succ]
    refine wpAnyH_take (i := 2) (oi := _) (v := ?mv36) rfl (by kernel_rfl) (by kernel_rfl) (by kernel_rfl) (fun _ _ _ h => h) (Or.inl ⟨by rfl, ?my36⟩) (by assumption) ?mr36
    case my36 => (simp only [List.getElem_toArray, List.getElem_cons_succ, List.getElem_cons_zero]; intro w hSw; (try dsimp only at hSw); go_simp; first | done | with_reducible rfl)
    try simp only [List.getElem_toArray, List.getElem_cons_succ, List.getElem_cons_zero, Act.put, List.setIfInBounds_toArray, List.set_cons_zero, List.set_cons_succ]
    refine wpAnyH_take (i := 3) (oi := _) (v := ?mv37) rfl (by kernel_rfl) (by kernel_rfl) (by kernel_rfl) (fun _ _ _ h => h) (Or.inl ⟨by rfl, ?my37⟩) (by assumption) ?mr37
    case my37 => (simp only [List.getElem_toArray, List.getElem_cons_succ, List.getElem_cons_zero]; intro w hSw; (try dsimp only at hSw); go_simp; first | done | with_reducible rfl)
    try simp only [List.getElem_toArray, List.getElem_cons_succ, List.getElem_cons_zero, Act.put, List.setIfInBounds_toArray, List.set_cons_zero, List.set_cons_succ]
    refine wpAnyH_take (i := 4) (oi := _) (v := ?mv38) rfl (by kernel_rfl) (by kernel_rfl) (by kernel_rfl) (fun _ _ _ h => h) (Or.inl ⟨by rfl, ?my38⟩) (by assumption) ?mr38
    case my38 => (simp only [List.getElem_toArray, List.getElem_cons_succ, List.getElem_cons_zero]; intro w hSw; (try dsimp only at hSw); go_simp; first | done | with_reducible rfl)
    try simp only [List.getElem_toArray, List.getElem_cons_succ, List.getElem_cons_zero, Act.put, List.setIfInBounds_toArray, List.set_cons_zero, List.set_cons_succ]
    refine wpAnyH_take (i := 5) (oi := _) (v := ?mv39) rfl (by kernel_rfl) (by kernel_rfl) (by kernel_rfl) (fun _ _ _ h => h) (Or.inl ⟨by rfl, ?my39⟩) (by assumption) ?mr39
    case my39 => (simp only [List.getElem_toArray, List.getElem_cons_succ, List.getElem_cons_zero]; intro w hSw; (try dsimp only at hSw); go_simp; first | done | with_reducible rfl)
    try simp only [List.getElem_toArray, List.getElem_cons_succ, List.getElem_cons_zero, Act.put, List.setIfInBounds_toArray, List.set_cons_zero, List.set_cons_succ]
    refine wpAnyH_ready (rs := [6]) (by kernel_rfl) (by simp) ?_
    refine AllReadyH.cons (o := _) rfl (fun K hK => ?_) AllReadyH.nil
    simp only [List.getElem_toArray, List.getElem_cons_succ, List.getElem_cons_zero]
    go_simp
    go_at_call 28; (with_reducible refine (Hpar.out _).mono ?_); rintro e wf ⟨rfl, rfl⟩
    try go_wp2_with fail
    refine hK.out _ _ ?_ (fun hHeld => ?_)
    · (try dsimp only); (first | (with_reducible exact ⟨y0, y8, y9⟩) | exact ⟨Later.cell (show Later w3 _ by repeat (first | (with_reducible exact Later.refl _) | (with_reducible apply Later.drew) | (with_reducible apply Later.drewN) | (with_reducible apply Later.alloc) | (with_reducible refine Later.call ?_ (by assumption)))) y0, Later.cell (show Later w3 _ by repeat (first | (with_reducible exact Later.refl _) | (with_reducible apply Later.drew) | (with_reducible apply Later.drewN) | (with_reducible apply Later.alloc) | (with_reducible refine Later.call ?_ (by assumption)))) y8, Later.cell (show Later w3 _ by repeat (first | (with_reducible exact Later.refl _) | (with_reducible apply Later.drew) | (with_reducible apply Later.drewN) | (with_reducible apply Later.alloc) | (with_reducible refine Later.call ?_ (by assumption)))) y9⟩)
    clear hK K
    try simp only [List.getElem_toArray, List.getElem_cons_succ, List.getElem_cons_zero, Act.put, List.setIfInBounds_toArray, List.set_cons_zero, List.set_cons_succ]
    refine wpAnyH_take (i := 7) (oi := _) (v := ?mv41) rfl (by kernel_rfl) (by kernel_rfl) (by kernel_rfl) (fun _ _ _ h => h) (Or.inl ⟨by rfl, ?my41⟩) (by assumption) ?mr41
    case my41 => (simp only [List.getElem_toArray, List.getElem_cons_succ, List.getElem_cons_zero]; intro w hSw; (try dsimp only at hSw); go_simp; first | done | with_reducible rfl)
    try simp only [List.getElem_toArray, List.getElem_cons_succ, List.getElem_cons_zero, Act.put, List.setIfInBounds_toArray, List.set_cons_zero, List.set_cons_succ]
    refine wpAnyH_take (i := 8) (oi := _) (v := ?mv42) rfl (by kernel_rfl) (by kernel_rfl) (by kernel_rfl) (fun _ _ _ h => h) (Or.inl ⟨by rfl, ?my42⟩) (by assumption) ?mr42
    case my42 => (simp only [List.getElem_toArray, List.getElem_cons_succ, List.getElem_cons_zero]; intro w hSw; (try dsimp only at hSw); go_simp; first | done | with_reducible rfl)
    try simp only [List.getElem_toArray, List.getElem_cons_succ, List.getElem_cons_zero, Act.put, List.setIfInBounds_toArray, List.set_cons_zero, List.set_cons_succ]
    refine wpAnyH_take (i := 9) (oi := _) (v := ?mv43) rfl (by kernel_rfl) (by kernel_rfl) (by kernel_rfl) (fun _ _ _ h => h) (Or.inl ⟨by rfl, ?my43⟩) (by assumption) ?mr43
    case my43 => (simp only [List.getElem_toArray, List.getElem_cons_succ, List.getElem_cons_zero]; intro w hSw; (try dsimp only at hSw); go_simp; first | done | with_reducible rfl)
    try simp only [List.getElem_toArray, List.getElem_cons_succ, List.getElem_cons_zero, Act.put, List.setIfInBounds_toArray, List.set_cons_zero, List.set_cons_succ]
    refine wpAnyH_take (i := 10) (oi := _) (v := ?mv44) rfl (by kernel_rfl) (by kernel_rfl) (by kernel_rfl) (fun _ _ _ h => h) (Or.inl ⟨by rfl, ?my44⟩) (by assumption) ?mr44
    case my44 => (simp only [List.getElem_toArray, List.getElem_cons_succ, List.getElem_cons_zero]; intro w hSw; (try dsimp only at hSw); go_simp; first | done | with_reducible rfl)
    try simp only [List.getElem_toArray, List.getElem_cons_succ, List.getElem_cons_zero, Act.put, List.setIfInBounds_toArray, List.set_cons_zero, List.set_cons_succ]
    refine wpAnyH_take (i := 11) (oi := _) (v := ?mv45) rfl (by kernel_rfl) (by kernel_rfl) (by kernel_rfl) (fun _ _ _ h => h) (Or.inl ⟨by rfl, ?my45⟩) (by assumption) ?mr45
    case my45 => (simp only [List.getElem_toArray, List.getElem_cons_succ, List.getElem_cons_zero]; intro w hSw; (try dsimp only at hSw); go_simp; first | done | with_reducible rfl)
    try simp only [List.getElem_toArray, List.getElem_cons_succ, List.getElem_cons_zero, Act.put, List.setIfInBounds_toArray, List.set_cons_zero, List.set_cons_succ]
    refine wpAnyH_take (i := 12) (oi := _) (v := ?mv46) rfl (by kernel_rfl) (by kernel_rfl) (by kernel_rfl) (fun _ _ _ h => h) (Or.inl ⟨by rfl, ?my46⟩) (by assumption) ?mr46
    case my46 => (simp only [List.getElem_toArray, List.getElem_cons_succ, List.getElem_cons_zero]; intro w hSw; (try dsimp only at hSw); go_simp; first | done | with_reducible rfl)
    try simp only [List.getElem_toArray, List.getElem_cons_succ, List.getElem_cons_zero, Act.put, List.setIfInBounds_toArray, List.set_cons_zero, List.set_cons_succ]
    refine wpAnyH_take (i := 13) (oi := _) (v := ?mv47) rfl (by kernel_rfl) (by kernel_rfl) (by kernel_rfl) (fun _ _ _ h => h) (Or.inl ⟨by rfl, ?my47⟩) (by assumption) ?mr47
    case my47 => (simp only [List.getElem_toArray, List.getElem_cons_succ, List.getElem_cons_zero]; intro w hSw; (try dsimp only at hSw); go_simp; first | done | with_reducible rfl)
    try simp only [List.getElem_toArray, List.getElem_cons_succ, List.getElem_cons_zero, Act.put, List.setIfInBounds_toArray, List.set_cons_zero, List.set_cons_succ]
    refine wpAnyH_take (i := 14) (oi := _) (v := ?mv48) rfl (by kernel_rfl) (by kernel_rfl) (by kernel_rfl) (fun _ _ _ h => h) (Or.inl ⟨by rfl, ?my48⟩) (by assumption) ?mr48
    case my48 => (simp only [List.getElem_toArray, List.getElem_cons_succ, List.getElem_cons_zero]; intro w hSw; (try dsimp only at hSw); go_simp; first | done | with_reducible rfl)
    try simp only [List.getElem_toArray, List.getElem_cons_succ, List.getElem_cons_zero, Act.put, List.setIfInBounds_toArray, List.set_cons_zero, List.set_cons_succ]
    refine wpAnyH_take (i := 15) (oi := _) (v := ?mv49) rfl (by kernel_rfl) (by kernel_rfl) (by kernel_rfl) (fun _ _ _ h => h) (Or.inl ⟨by rfl, ?my49⟩) (by assumption) ?mr49
    case my49 => (simp only [List.getElem_toArray, List.getElem_cons_succ, List.getElem_cons_zero]; intro w hSw; (try dsimp only at hSw); go_simp; first | done | with_reducible rfl)
    try simp only [List.getElem_toArray, List.getElem_cons_succ, List.getElem_cons_zero, Act.put, List.setIfInBounds_toArray, List.set_cons_zero, List.set_cons_succ]
    refine wpAnyH_take (i := 16) (oi := _) (v := undef) rfl (by kernel_rfl) (by kernel_rfl) (by kernel_rfl) (fun _ _ _ h => h) (Or.inr ⟨by rfl, rfl⟩) (by assumption) ?_
    try simp only [List.getElem_toArray, List.getElem_cons_succ, List.getElem_cons_zero, Act.put, List.setIfInBounds_toArray, List.set_cons_zero, List.set_cons_succ]
    refine wpAnyH_take (i := 17) (oi := _) (v := undef) rfl (by kernel_rfl) (by kernel_rfl) (by kernel_rfl) (fun _ _ _ h => h) (Or.inr ⟨by rfl, rfl⟩) (by assumption) ?_
    try simp only [List.getElem_toArray, List.getElem_cons_succ, List.getElem_cons_zero, Act.put, List.setIfInBounds_toArray, List.set_cons_zero, List.set_cons_succ]
    refine wpAnyH_take (i := 18) (oi := _) (v := undef) rfl (by kernel_rfl) (by kernel_rfl) (by kernel_rfl) (fun _ _ _ h => h) (Or.inr ⟨by rfl, rfl⟩) (by assumption) ?_
    try simp only [List.getElem_toArray, List.getElem_cons_succ, List.getElem_cons_zero, Act.put, List.setIfInBounds_toArray, List.set_cons_zero, List.set_cons_succ]
    refine wpAnyH_take (i := 19) (oi := _) (v := undef) rfl (by kernel_rfl) (by kernel_rfl) (by kernel_rfl) (fun _ _ _ h => h) (Or.inr ⟨by rfl, rfl⟩) (by assumption) ?_
    try simp only [List.getElem_toArray, List.getElem_cons_succ, List.getElem_cons_zero, Act.put, List.setIfInBounds_toArray, List.set_cons_zero, List.set_cons_succ]
    refine wpAnyH_take (i := 20) (oi := _) (v := undef) rfl (by kernel_rfl) (by kernel_rfl) (by kernel_rfl) (fun _ _ _ h => h) (Or.inr ⟨by rfl, rfl⟩) (by assumption) ?_
    try simp only [List.getElem_toArray, List.getElem_cons_succ, List.getElem_cons_zero, Act.put, List.setIfInBounds_toArray, List.set_cons_zero, List.set_cons_succ]
    refine wpAnyH_take (i := 21) (oi := _) (v := ?mv55) rfl (by kernel_rfl) (by kernel_rfl) (by kernel_rfl) (fun _ _ _ h => h) (Or.inl ⟨by rfl, ?my55⟩) (by assumption) ?mr55
    case my55 => (simp only [List.getElem_toArray, List.getElem_cons_succ, List.getElem_cons_zero]; intro w hSw; (try dsimp only at hSw); go_simp; first | done | with_reducible rfl)
    try simp only [List.getElem_toArray, List.getElem_cons_succ, List.getElem_cons_zero, Act.put, List.setIfInBounds_toArray, List.set_cons_zero, List.set_cons_succ]
    refine wpAnyH_done (by kernel_rfl) ?_ _
    refine NoPanic.normal ?_
    go_wp2_with fail
    go_ret
    exact ⟨by (rw [HV.out] <;> rfl), H03.out.drew⟩
  have d2 : decide ((x.length : Int) < ls) = false := by simpa using a2
  by_cases a3 : ms < (x.length : Int)
  · have HV := Lib.hid (Hv.out.trans (by rw [if_pos (by omega)]))
    have d3 : decide (ms < (x.length : Int)) = true := by simpa using a3
    go_wp2_with fail
    refine wp_region_noPanic ?_
    refine wp_region_held_drew (S := fun Xw => Xw.cell? ⟨w.heap.size, 0, none⟩ = some (.int .i64 o.kind) ∧ Xw.cell? ⟨w.heap.size, 8, none⟩ = some (.slice P p.length cp) ∧ Xw.cell? ⟨w.heap.size, 9, none⟩ = some (.slice X x.length cx)) (by kernel_rfl) ?_ (fun hHeld => ?_)
    · (try dsimp only); (first | (with_reducible exact ⟨y0, y8, y9⟩) | exact ⟨Later.cell (show Later w3 _ by repeat (first | (with_reducible exact Later.refl _) | (with_reducible apply Later.drew) | (with_reducible apply Later.drewN) | (with_reducible apply Later.alloc) | (with_reducible refine Later.call ?_ (by assumption)))) y0, Later.cell (show Later w3 _ by repeat (first | (with_reducible exact Later.refl _) | (with_reducible apply Later.drew) | (with_reducible apply Later.drewN) | (with_reducible apply Later.alloc) | (with_reducible refine Later.call ?_ (by assumption)))) y8, Later.cell (show Later w3 _ by repeat (first | (with_reducible exact Later.refl _) | (with_reducible apply Later.drew) | (with_reducible apply Later.drewN) | (with_reducible apply Later.alloc) | (with_reducible refine Later.call ?_ (by assumption)))) y9⟩)
    refine wpAnyH_take (i := 0) (oi := _) (v := ?mv56) rfl (by kernel_rfl) (by kernel_rfl) (by kernel_rfl) (fun _ _ _ h => h) (Or.inl ⟨by rfl, ?my56⟩) (by assumption) ?mr56
    case my56 => (simp only [List.getElem_toArray, List.getElem_cons_zero]; intro w hSw; (try dsimp only at hSw); go_simp; first | done | with_reducible rfl)
    try simp only [List.getElem_toArray, List.getElem_cons_zero, Act.put, List.setIfInBounds_toArray, List.set_cons_zero, List.set_cons_succ]
    refine wpAnyH_take (i := 1) (oi := _) (v := ?mv57) rfl (by kernel_rfl) (by kernel_rfl) (by kernel_rfl) (fun _ _ _ h => h) (Or.inl ⟨by rfl, ?my57⟩) (by assumption) ?mr57
    case my57 => (simp only [List.getElem_toArray, List.getElem_cons_succ, List.getElem_cons_zero]; intro w hSw; (try dsimp only at hSw); go_simp; first | done | with_reducible rfl)
    try simp only [List.getElem_toArray, List.getElem_cons_succ, List.getElem_cons_zero, Act.put, List.setIfInBounds_toArray, List.set_cons_zero, List.set_cons_succ]
    refine wpAnyH_take (i := 2) (oi := _) (v := ?mv58) rfl (by kernel_rfl) (by kernel_rfl) (by kernel_rfl) (fun _ _ _ h => h) (Or.inl ⟨by rfl, ?my58⟩) (by assumption) ?mr58
    case my58 => (simp only [List.getElem_toArray, List.getElem_cons_succ, List.getElem_cons_zero]; intro w hSw; (try dsimp only at hSw); go_simp; first | done | with_reducible rfl)
    try simp only [List.getElem_toArray, List.getElem_cons_succ, List.getElem_cons_zero, Act.put, List.setIfInBounds_toArray, List.set_cons_zero, List.set_cons_succ]
    refine wpAnyH_take (i := 3) (oi := _) (v := ?mv59) rfl (by kernel_rfl) (by kernel_rfl) (by kernel_rfl) (fun _ _ _ h => h) (Or.inl ⟨by rfl, ?my59⟩) (by assumption) ?mr59
    case my59 => (simp only [List.getElem_toArray, List.getElem_cons_succ, List.getElem_cons_zero]; intro w hSw; (try dsimp only at hSw); go_simp; first | done | with_reducible rfl)
    try simp only [List.getElem_toArray, List.getElem_cons_succ, List.getElem_cons_zero, Act.put, List.setIfInBounds_toArray, List.set_cons_zero, List.set_cons_succ]
    refine wpAnyH_take (i := 4) (oi := _) (v := ?mv60) rfl (by kernel_rfl) (by kernel_rfl) (by kernel_rfl) (fun _ _ _ h => h) (Or.inl ⟨by rfl, ?my60⟩) (by assumption) ?mr60
    case my60 => (simp only [List.getElem_toArray, List.getElem_cons_succ, List.getElem_cons_zero]; intro w hSw; (try dsimp only at hSw); go_simp; first | done | with_reducible rfl)
    try simp only [List.getElem_toArray, List.getElem_cons_succ, List.getElem_cons_zero, Act.put, List.setIfInBounds_toArray, List.set_cons_zero, List.set_cons_succ]
    refine wpAnyH_take (i := 5) (oi := _) (v := ?mv61) rfl (by kernel_rfl) (by kernel_rfl) (by kernel_rfl) (fun _ _ _ h => h) (Or.inl ⟨by rfl, ?my61⟩) (by assumption) ?mr61
    case my61 => (simp only [List.getElem_toArray, List.getElem_cons_succ, List.getElem_cons_zero]; intro w hSw; (try dsimp only at hSw); go_simp; first | done | with_reducible rfl)
    try simp only [List.getElem_toArray, List.getElem_cons_succ, List.getElem_cons_zero, Act.put, List.setIfInBounds_toArray, List.set_cons_zero, List.set_cons_succ]
    refine wpAnyH_ready (rs := [6]) (by kernel_rfl) (by simp) ?_
    refine AllReadyH.cons (o := _) rfl (fun K hK => ?_) AllReadyH.nil
    simp only [List.getElem_toArray, List.getElem_cons_succ, List.getElem_cons_zero]
    go_simp
    go_at_call 28; (with_reducible refine (Hpar.out _).mono ?_); rintro e wf ⟨rfl, rfl⟩
    try go_wp2_with fail
    refine hK.out _ _ ?_ (fun hHeld => ?_)
    · (try dsimp only); (first | (with_reducible exact ⟨y0, y8, y9⟩) | exact ⟨Later.cell (show Later w3 _ by repeat (first | (with_reducible exact Later.refl _) | (with_reducible apply Later.drew) | (with_reducible apply Later.drewN) | (with_reducible apply Later.alloc) | (with_reducible refine Later.call ?_ (by assumption)))) y0, Later.cell (show Later w3 _ by repeat (first | (with_reducible exact Later.refl _) | (with_reducible apply Later.drew) | (with_reducible apply Later.drewN) | (with_reducible apply Later.alloc) | (with_reducible refine Later.call ?_ (by assumption)))) y8, Later.cell (show Later w3 _ by repeat (first | (with_reducible exact Later.refl _) | (with_reducible apply Later.drew) | (with_reducible apply Later.drewN) | (with_reducible apply Later.alloc) | (with_reducible refine Later.call ?_ (by assumption)))) y9⟩)
    clear hK K
    try simp only [List.getElem_toArray, List.getElem_cons_succ, List.getElem_cons_zero, Act.put, List.setIfInBounds_toArray, List.set_cons_zero, List.set_cons_succ]
    refine wpAnyH_take (i := 7) (oi := _) (v := ?mv63) rfl (by kernel_rfl) (by kernel_rfl) (by kernel_rfl) (fun _ _ _ h => h) (Or.inl ⟨by rfl, ?my63⟩) (by assumption) ?mr63
    case my63 => (simp only [List.getElem_toArray, List.getElem_cons_succ, List.getElem_cons_zero]; intro w hSw; (try dsimp only at hSw); go_simp; first | done | with_reducible rfl)
    try simp only [List.getElem_toArray, List.getElem_cons_succ, List.getElem_cons_zero, Act.put, List.setIfInBounds_toArray, List.set_cons_zero, List.set_cons_succ]
    refine wpAnyH_take (i := 8) (oi := _) (v := ?mv64) rfl (by kernel_rfl) (by kernel_rfl) (by kernel_rfl) (fun _ _ _ h => h) (Or.inl ⟨by rfl, ?my64⟩) (by assumption) ?mr64
    case my64 => (simp only [List.getElem_toArray, List.getElem_cons_succ, List.getElem_cons_zero]; intro w hSw; (try dsimp only at hSw); go_simp; first | done | with_reducible rfl)
    try simp only [List.getElem_toArray, List.getElem_cons_succ, List.getElem_cons_zero, Act.put, List.setIfInBounds_toArray, List.set_cons_zero, List.set_cons_succ]
    refine wpAnyH_take (i := 9) (oi := _) (v := ?mv65) rfl (by kernel_rfl) (by kernel_rfl) (by kernel_rfl) (fun _ _ _ h => h) (Or.inl ⟨by rfl, ?my65⟩) (by assumption) ?mr65
    case my65 => (simp only [List.getElem_toArray, List.getElem_cons_succ, List.getElem_cons_zero]; intro w hSw; (try dsimp only at hSw); go_simp; first | done | with_reducible rfl)
    try simp only [List.getElem_toArray, List.getElem_cons_succ, List.getElem_cons_zero, Act.put, List.setIfInBounds_toArray, List.set_cons_zero, List.set_cons_succ]
    refine wpAnyH_take (i := 10) (oi := _) (v := ?mv66) rfl (by kernel_rfl) (by kernel_rfl) (by kernel_rfl) (fun _ _ _ h => h) (Or.inl ⟨by rfl, ?my66⟩) (by assumption) ?mr66
    case my66 => (simp only [List.getElem_toArray, List.getElem_cons_succ, List.getElem_cons_zero]; intro w hSw; (try dsimp only at hSw); go_simp; first | done | with_reducible rfl)
    try simp only [List.getElem_toArray, List.getElem_cons_succ, List.getElem_cons_zero, Act.put, List.setIfInBounds_toArray, List.set_cons_zero, List.set_cons_succ]
    refine wpAnyH_take (i := 11) (oi := _) (v := ?mv67) rfl (by kernel_rfl) (by kernel_rfl) (by kernel_rfl) (fun _ _ _ h => h) (Or.inl ⟨by rfl, ?my67⟩) (by assumption) ?mr67
    case my67 => (simp only [List.getElem_toArray, List.getElem_cons_succ, List.getElem_cons_zero]; intro w hSw; (try dsimp only at hSw); go_simp; first | done | with_reducible rfl)
    try simp only [List.getElem_toArray, List.getElem_cons_succ, List.getElem_cons_zero, Act.put, List.setIfInBounds_toArray, List.set_cons_zero, List.set_cons_succ]
    refine wpAnyH_take (i := 12) (oi := _) (v := ?mv68) rfl (by kernel_rfl) (by kernel_rfl) (by kernel_rfl) (fun _ _ _ h => h) (Or.inl ⟨by rfl, ?my68⟩) (by assumption) ?mr68
    case my68 => (simp only [List.getElem_toArray, List.getElem_cons_succ, List.getElem_cons_zero]; intro w hSw; (try dsimp only at hSw); go_simp; first | done | with_reducible rfl)
    try simp only [List.getElem_toArray, List.getElem_cons_succ, List.getElem_cons_zero, Act.put, List.setIfInBounds_toArray, List.set_cons_zero, List.set_cons_succ]
    refine wpAnyH_take (i := 13) (oi := _) (v := ?mv69) rfl (by kernel_rfl) (by kernel_rfl) (by kernel_rfl) (fun _ _ _ h => h) (Or.inl ⟨by rfl, ?my69⟩) (by assumption) ?mr69
    case my69 => (simp only [List.getElem_toArray, List.getElem_cons_succ, List.getElem_cons_zero]; intro w hSw; (try dsimp only at hSw); go_simp; first | done | with_reducible rfl)
    try simp only [List.getElem_toArray, List.getElem_cons_succ, List.getElem_cons_zero, Act.put, List.setIfInBounds_toArray, List.set_cons_zero, List.set_cons_succ]
    refine wpAnyH_take (i := 14) (oi := _) (v := ?mv70) rfl (by kernel_rfl) (by kernel_rfl) (by kernel_rfl) (fun _ _ _ h => h) (Or.inl ⟨by rfl, ?my70⟩) (by assumption) ?mr70
    case my70 => (simp only [List.getElem_toArray, List.getElem_cons_succ, List.getElem_cons_zero]; intro w hSw; (try dsimp only at hSw); go_simp; first | done | with_reducible rfl)
    try simp only [List.getElem_toArray, List.getElem_cons_succ, List.getElem_cons_zero, Act.put, List.setIfInBounds_toArray, List.set_cons_zero, List.set_cons_succ]
    refine wpAnyH_take (i := 15) (oi := _) (v := ?mv71) rfl (by kernel_rfl) (by kernel_rfl) (by kernel_rfl) (fun _ _ _ h => h) (Or.inl ⟨by rfl, ?my71⟩) (by assumption) ?mr71
    case my71 => (simp only [List.getElem_toArray, List.getElem_cons_succ, List.getElem_cons_zero]; intro w hSw; (try dsimp only at hSw); go_simp; first | done | with_reducible rfl)
    try simp only [List.getElem_toArray, List.getElem_cons_succ, List.getElem_cons_zero, Act.put, List.setIfInBounds_toArray, List.set_cons_zero, List.set_cons_succ]
    refine wpAnyH_take (i := 16) (oi := _) (v := ?mv72) rfl (by kernel_rfl) (by kernel_rfl) (by kernel_rfl) (fun _ _ _ h => h) (Or.inl ⟨by rfl, ?my72⟩) (by assumption) ?mr72
    case my72 => (simp only [List.getElem_toArray, List.getElem_cons_succ, List.getElem_cons_zero]; intro w hSw; (try dsimp only at hSw); go_simp; first | done | with_reducible rfl)
    try simp only [List.getElem_toArray, List.getElem_cons_succ, List.getElem_cons_zero, Act.put, List.setIfInBounds_toArray, List.set_cons_zero, List.set_cons_succ]
    refine wpAnyH_take (i := 17) (oi := _) (v := ?mv73) rfl (by kernel_rfl) (by kernel_rfl) (by kernel_rfl) (fun _ _ _ h => h) (Or.inl ⟨by rfl, ?my73⟩) (by assumption) ?mr73
    case my73 => (simp only [List.getElem_toArray, List.getElem_cons_succ, List.getElem_cons_zero]; intro w hSw; (try dsimp only at hSw); go_simp; first | done | with_reducible rfl)
    try simp only [List.getElem_toArray, List.getElem_cons_succ, List.getElem_cons_zero, Act.put, List.setIfInBounds_toArray, List.set_cons_zero, List.set_cons_succ]
    refine wpAnyH_take (i := 18) (oi := _) (v := ?mv74) rfl (by kernel_rfl) (by kernel_rfl) (by kernel_rfl) (fun _ _ _ h => h) (Or.inl ⟨by rfl, ?my74⟩) (by assumption) ?mr74
    case my74 => (simp only [List.getElem_toArray, List.getElem_cons_succ, List.getElem_cons_zero]; intro w hSw; (try dsimp only at hSw); go_simp; first | done | with_reducible rfl)
    try simp only [List.getElem_toArray, List.getElem_cons_succ, List.getElem_cons_zero, Act.put, List.setIfInBounds_toArray, List.set_cons_zero, List.set_cons_succ]
    refine wpAnyH_take (i := 19) (oi := _) (v := ?mv75) rfl (by kernel_rfl) (by kernel_rfl) (by kernel_rfl) (fun _ _ _ h => h) (Or.inl ⟨by rfl, ?my75⟩) (by assumption) ?mr75
    case my75 => (simp only [List.getElem_toArray, List.getElem_cons_succ, List.getElem_cons_zero]; intro w hSw; (try dsimp only at hSw); go_simp; first | done | with_reducible rfl)
    try simp only [List.getElem_toArray, List.getElem_cons_succ, List.getElem_cons_zero, Act.put, List.setIfInBounds_toArray, List.set_cons_zero, List.set_cons_succ]
    refine wpAnyH_take (i := 20) (oi := _) (v := ?mv76) rfl (by kernel_rfl) (by kernel_rfl) (by kernel_rfl) (fun _ _ _ h => h) (Or.inl ⟨by rfl, ?my76⟩) (by assumption) ?mr76
    case my76 => (simp only [List.getElem_toArray, List.getElem_cons_succ, List.getElem_cons_zero]; intro w hSw; (try dsimp only at hSw); go_simp; first | done | with_reducible rfl)
    try simp only [List.getElem_toArray, List.getElem_cons_succ, List.getElem_cons_zero, Act.put, List.setIfInBounds_toArray, List.set_cons_zero, List.set_cons_succ]
    refine wpAnyH_take (i := 21) (oi := _) (v := ?mv77) rfl (by kernel_rfl) (by kernel_rfl) (by kernel_rfl) (fun _ _ _ h => h) (Or.inl ⟨by rfl, ?my77⟩) (by assumption) ?mr77
    case my77 => (simp only [List.getElem_toArray, List.getElem_cons_succ, List.getElem_cons_zero]; intro w hSw; (try dsimp only at hSw); go_simp; first | done | with_reducible rfl)
    try simp only [List.getElem_toArray, List.getElem_cons_succ, List.getElem_cons_zero, Act.put, List.setIfInBounds_toArray, List.set_cons_zero, List.set_cons_succ]
    refine wpAnyH_done (by kernel_rfl) ?_ _
    refine NoPanic.normal ?_
    go_wp2_with fail
    go_ret
    exact ⟨by (rw [HV.out] <;> rfl), H03.out.drew⟩
  have d3 : decide (ms < (x.length : Int)) = false := by simpa using a3
  have HV := Lib.hid (Hv.out.trans (by rw [if_neg (by omega)]))
  go_wp2_with fail
  refine wp_region_noPanic ?_
  refine wp_region_held_drew (S := fun Xw => Xw.cell? ⟨w.heap.size, 0, none⟩ = some (.int .i64 o.kind) ∧ Xw.cell? ⟨w.heap.size, 8, none⟩ = some (.slice P p.length cp) ∧ Xw.cell? ⟨w.heap.size, 9, none⟩ = some (.slice X x.length cx)) (by kernel_rfl) ?_ (fun hHeld => ?_)
  · (try dsimp only); (first | (with_reducible exact ⟨y0, y8, y9⟩) | exact ⟨Later.cell (show Later w3 _ by repeat (first | (with_reducible exact Later.refl _) | (with_reducible apply Later.drew) | (with_reducible apply Later.drewN) | (with_reducible apply Later.alloc) | (with_reducible refine Later.call ?_ (by assumption)))) y0, Later.cell (show Later w3 _ by repeat (first | (with_reducible exact Later.refl _) | (with_reducible apply Later.drew) | (with_reducible apply Later.drewN) | (with_reducible apply Later.alloc) | (with_reducible refine Later.call ?_ (by assumption)))) y8, Later.cell (show Later w3 _ by repeat (first | (with_reducible exact Later.refl _) | (with_reducible apply Later.drew) | (with_reducible apply Later.drewN) | (with_reducible apply Later.alloc) | (with_reducible refine Later.call ?_ (by assumption)))) y9⟩)
  refine wpAnyH_take (i := 0) (oi := _) (v := ?mv78) rfl (by kernel_rfl) (by kernel_rfl) (by kernel_rfl) (fun _ _ _ h => h) (Or.inl ⟨by rfl, ?my78⟩) (by assumption) ?mr78
  case my78 => (simp only [List.getElem_toArray, List.getElem_cons_zero]; intro w hSw; (try dsimp only at hSw); go_simp; first | done | with_reducible rfl)
  try simp only [List.getElem_toArray, List.getElem_cons_zero, Act.put, List.setIfInBounds_toArray, List.set_cons_zero, List.set_cons_succ]
  refine wpAnyH_take (i := 1) (oi := _) (v := ?mv79) rfl (by kernel_rfl) (by kernel_rfl) (by kernel_rfl) (fun _ _ _ h => h) (Or.inl ⟨by rfl, ?my79⟩) (by assumption) ?mr79
  case my79 => (simp only [List.getElem_toArray, List.getElem_cons_succ, List.getElem_cons_zero]; intro w hSw; (try dsimp only at hSw); go_simp; first | done | with_reducible rfl)
  try simp only [List.getElem_toArray, List.getElem_cons_succ, List.getElem_cons_zero, Act.put, List.setIfInBounds_toArray, List.set_cons_zero, List.set_cons_succ]
  refine wpAnyH_take (i := 2) (oi := _) (v := ?mv80) rfl (by kernel_rfl) (by kernel_rfl) (by kernel_rfl) (fun _ _ _ h => h) (Or.inl ⟨by rfl, ?my80⟩) (by assumption) ?mr80
  case my80 => (simp only [List.getElem_toArray, List.getElem_cons_succ, List.getElem_cons_zero]; intro w hSw; (try dsimp only at hSw); go_simp; first | done | with_reducible rfl)
  try simp only [List.getElem_toArray, List.getElem_cons_succ, List.getElem_cons_zero, Act.put, List.setIfInBounds_toArray, List.set_cons_zero, List.set_cons_succ]
  refine wpAnyH_take (i := 3) (oi := _) (v := ?mv81) rfl (by kernel_rfl) (by kernel_rfl) (by kernel_rfl) (fun _ _ _ h => h) (Or.inl ⟨by rfl, ?my81⟩) (by assumption) ?mr81
  case my81 => (simp only [List.getElem_toArray, List.getElem_cons_succ, List.getElem_cons_zero]; intro w hSw; (try dsimp only at hSw); go_simp; first | done | with_reducible rfl)
  try simp only [List.getElem_toArray, List.getElem_cons_succ, List.getElem_cons_zero, Act.put, List.setIfInBounds_toArray, List.set_cons_zero, List.set_cons_succ]
  refine wpAnyH_take (i := 4) (oi := _) (v := ?mv82) rfl (by kernel_rfl) (by kernel_rfl) (by kernel_rfl) (fun _ _ _ h => h) (Or.inl ⟨by rfl, ?my82⟩) (by assumption) ?mr82
  case my82 => (simp only [List.getElem_toArray, List.getElem_cons_succ, List.getElem_cons_zero]; intro w hSw; (try dsimp only at hSw); go_simp; first | done | with_reducible rfl)
  try simp only [List.getElem_toArray, List.getElem_cons_succ, List.getElem_cons_zero, Act.put, List.setIfInBounds_toArray, List.set_cons_zero, List.set_cons_succ]
  refine wpAnyH_take (i := 5) (oi := _) (v := ?mv83) rfl (by kernel_rfl) (by kernel_rfl) (by kernel_rfl) (fun _ _ _ h => h) (Or.inl ⟨by rfl, ?my83⟩) (by assumption) ?mr83
  case my83 => (simp only [List.getElem_toArray, List.getElem_cons_succ, List.getElem_cons_zero]; intro w hSw; (try dsimp only at hSw); go_simp; first | done | with_reducible rfl)
  try simp only [List.getElem_toArray, List.getElem_cons_succ, List.getElem_cons_zero, Act.put, List.setIfInBounds_toArray, List.set_cons_zero, List.set_cons_succ]
  refine wpAnyH_ready (rs := [6]) (by kernel_rfl) (by simp) ?_
  refine AllReadyH.cons (o := _) rfl (fun K hK => ?_) AllReadyH.nil
  simp only [List.getElem_toArray, List.getElem_cons_succ, List.getElem_cons_zero]
  go_simp
  go_at_call 28; (with_reducible refine (Hpar.out _).mono ?_); rintro e wf ⟨rfl, rfl⟩
  try go_wp2_with fail
  refine hK.out _ _ ?_ (fun hHeld => ?_)
  · (try dsimp only); (first | (with_reducible exact ⟨y0, y8, y9⟩) | exact ⟨Later.cell (show Later w3 _ by repeat (first | (with_reducible exact Later.refl _) | (with_reducible apply Later.drew) | (with_reducible apply Later.drewN) | (with_reducible apply Later.alloc) | (with_reducible refine Later.call ?_ (by assumption)))) y0, Later.cell (show Later w3 _ by repeat (first | (with_reducible exact Later.refl _) | (with_reducible apply Later.drew) | (with_reducible apply Later.drewN) | (with_reducible apply Later.alloc) | (with_reducible refine Later.call ?_ (by assumption)))) y8, Later.cell (show Later w3 _ by repeat (first | (with_reducible exact Later.refl _) | (with_reducible apply Later.drew) | (with_reducible apply Later.drewN) | (with_reducible apply Later.alloc) | (with_reducible refine Later.call ?_ (by assumption)))) y9⟩)
  clear hK K
  try simp only [List.getElem_toArray, List.getElem_cons_succ, List.getElem_cons_zero, Act.put, List.setIfInBounds_toArray, List.set_cons_zero, List.set_cons_succ]
  refine wpAnyH_take (i := 7) (oi := _) (v := ?mv85) rfl (by kernel_rfl) (by kernel_rfl) (by kernel_rfl) (fun _ _ _ h => h) (Or.inl ⟨by rfl, ?my85⟩) (by assumption) ?mr85
  case my85 => (simp only [List.getElem_toArray, List.getElem_cons_succ, List.getElem_cons_zero]; intro w hSw; (try dsimp only at hSw); go_simp; first | done | with_reducible rfl)
  try simp only [List.getElem_toArray, List.getElem_cons_succ, List.getElem_cons_zero, Act.put, List.setIfInBounds_toArray, List.set_cons_zero, List.set_cons_succ]
  refine wpAnyH_take (i := 8) (oi := _) (v := ?mv86) rfl (by kernel_rfl) (by kernel_rfl) (by kernel_rfl) (fun _ _ _ h => h) (Or.inl ⟨by rfl, ?my86⟩) (by assumption) ?mr86
  case my86 => (simp only [List.getElem_toArray, List.getElem_cons_succ, List.getElem_cons_zero]; intro w hSw; (try dsimp only at hSw); go_simp; first | done | with_reducible rfl)
  try simp only [List.getElem_toArray, List.getElem_cons_succ, List.getElem_cons_zero, Act.put, List.setIfInBounds_toArray, List.set_cons_zero, List.set_cons_succ]
  refine wpAnyH_take (i := 9) (oi := _) (v := ?mv87) rfl (by kernel_rfl) (by kernel_rfl) (by kernel_rfl) (fun _ _ _ h => h) (Or.inl ⟨by rfl, ?my87⟩) (by assumption) ?mr87
  case my87 => (simp only [List.getElem_toArray, List.getElem_cons_succ, List.getElem_cons_zero]; intro w hSw; (try dsimp only at hSw); go_simp; first | done | with_reducible rfl)
  try simp only [List.getElem_toArray, List.getElem_cons_succ, List.getElem_cons_zero, Act.put, List.setIfInBounds_toArray, List.set_cons_zero, List.set_cons_succ]
  refine wpAnyH_take (i := 10) (oi := _) (v := ?mv88) rfl (by kernel_rfl) (by kernel_rfl) (by kernel_rfl) (fun _ _ _ h => h) (Or.inl ⟨by rfl, ?my88⟩) (by assumption) ?mr88
  case my88 => (simp only [List.getElem_toArray, List.getElem_cons_succ, List.getElem_cons_zero]; intro w hSw; (try dsimp only at hSw); go_simp; first | done | with_reducible rfl)
  try simp only [List.getElem_toArray, List.getElem_cons_succ, List.getElem_cons_zero, Act.put, List.setIfInBounds_toArray, List.set_cons_zero, List.set_cons_succ]
  refine wpAnyH_take (i := 11) (oi := _) (v := ?mv89) rfl (by kernel_rfl) (by kernel_rfl) (by kernel_rfl) (fun _ _ _ h => h) (Or.inl ⟨by rfl, ?my89⟩) (by assumption) ?mr89
  case my89 => (simp only [List.getElem_toArray, List.getElem_cons_succ, List.getElem_cons_zero]; intro w hSw; (try dsimp only at hSw); go_simp; first | done | with_reducible rfl)
  try simp only [List.getElem_toArray, List.getElem_cons_succ, List.getElem_cons_zero, Act.put, List.setIfInBounds_toArray, List.set_cons_zero, List.set_cons_succ]
  refine wpAnyH_take (i := 12) (oi := _) (v := ?mv90) rfl (by kernel_rfl) (by kernel_rfl) (by kernel_rfl) (fun _ _ _ h => h) (Or.inl ⟨by rfl, ?my90⟩) (by assumption) ?mr90
  case my90 => (simp only [List.getElem_toArray, List.getElem_cons_succ, List.getElem_cons_zero]; intro w hSw; (try dsimp only at hSw); go_simp; first | done | with_reducible rfl)
  try simp only [List.getElem_toArray, List.getElem_cons_succ, List.getElem_cons_zero, Act.put, List.setIfInBounds_toArray, List.set_cons_zero, List.set_cons_succ]
  refine wpAnyH_take (i := 13) (oi := _) (v := ?mv91) rfl (by kernel_rfl) (by kernel_rfl) (by kernel_rfl) (fun _ _ _ h => h) (Or.inl ⟨by rfl, ?my91⟩) (by assumption) ?mr91
  case my91 => (simp only [List.getElem_toArray, List.getElem_cons_succ, List.getElem_cons_zero]; intro w hSw; (try dsimp only at hSw); go_simp; first | done | with_reducible rfl)
  try simp only [List.getElem_toArray, List.getElem_cons_succ, List.getElem_cons_zero, Act.put, List.setIfInBounds_toArray, List.set_cons_zero, List.set_cons_succ]
  refine wpAnyH_take (i := 14) (oi := _) (v := ?mv92) rfl (by kernel_rfl) (by kernel_rfl) (by kernel_rfl) (fun _ _ _ h => h) (Or.inl ⟨by rfl, ?my92⟩) (by assumption) ?mr92
  case my92 => (simp only [List.getElem_toArray, List.getElem_cons_succ, List.getElem_cons_zero]; intro w hSw; (try dsimp only at hSw); go_simp; first | done | with_reducible rfl)
  try simp only [List.getElem_toArray, List.getElem_cons_succ, List.getElem_cons_zero, Act.put, List.setIfInBounds_toArray, List.set_cons_zero, List.set_cons_succ]
  refine wpAnyH_take (i := 15) (oi := _) (v := ?mv93) rfl (by kernel_rfl) (by kernel_rfl) (by kernel_rfl) (fun _ _ _ h => h) (Or.inl ⟨by rfl, ?my93⟩) (by assumption) ?mr93
  case my93 => (simp only [List.getElem_toArray, List.getElem_cons_succ, List.getElem_cons_zero]; intro w hSw; (try dsimp only at hSw); go_simp; first | done | with_reducible rfl)
  try simp only [List.getElem_toArray, List.getElem_cons_succ, List.getElem_cons_zero, Act.put, List.setIfInBounds_toArray, List.set_cons_zero, List.set_cons_succ]
  refine wpAnyH_take (i := 16) (oi := _) (v := ?mv94) rfl (by kernel_rfl) (by kernel_rfl) (by kernel_rfl) (fun _ _ _ h => h) (Or.inl ⟨by rfl, ?my94⟩) (by assumption) ?mr94
  case my94 => (simp only [List.getElem_toArray, List.getElem_cons_succ, List.getElem_cons_zero]; intro w hSw; (try dsimp only at hSw); go_simp; first | done | with_reducible rfl)
  try simp only [List.getElem_toArray, List.getElem_cons_succ, List.getElem_cons_zero, Act.put, List.setIfInBounds_toArray, List.set_cons_zero, List.set_cons_succ]
  refine wpAnyH_take (i := 17) (oi := _) (v := ?mv95) rfl (by kernel_rfl) (by kernel_rfl) (by kernel_rfl) (fun _ _ _ h => h) (Or.inl ⟨by rfl, ?my95⟩) (by assumption) ?mr95
  case my95 => (simp only [List.getElem_toArray, List.getElem_cons_succ, List.getElem_cons_zero]; intro w hSw; (try dsimp only at hSw); go_simp; first | done | with_reducible rfl)
  try simp only [List.getElem_toArray, List.getElem_cons_succ, List.getElem_cons_zero, Act.put, List.setIfInBounds_toArray, List.set_cons_zero, List.set_cons_succ]
  refine wpAnyH_take (i := 18) (oi := _) (v := ?mv96) rfl (by kernel_rfl) (by kernel_rfl) (by kernel_rfl) (fun _ _ _ h => h) (Or.inl ⟨by rfl, ?my96⟩) (by assumption) ?mr96
  case my96 => (simp only [List.getElem_toArray, List.getElem_cons_succ, List.getElem_cons_zero]; intro w hSw; (try dsimp only at hSw); go_simp; first | done | with_reducible rfl)
  try simp only [List.getElem_toArray, List.getElem_cons_succ, List.getElem_cons_zero, Act.put, List.setIfInBounds_toArray, List.set_cons_zero, List.set_cons_succ]
  refine wpAnyH_take (i := 19) (oi := _) (v := ?mv97) rfl (by kernel_rfl) (by kernel_rfl) (by kernel_rfl) (fun _ _ _ h => h) (Or.inl ⟨by rfl, ?my97⟩) (by assumption) ?mr97
  case my97 => (simp only [List.getElem_toArray, List.getElem_cons_succ, List.getElem_cons_zero]; intro w hSw; (try dsimp only at hSw); go_simp; first | done | with_reducible rfl)
  try simp only [List.getElem_toArray, List.getElem_cons_succ, List.getElem_cons_zero, Act.put, List.setIfInBounds_toArray, List.set_cons_zero, List.set_cons_succ]
  refine wpAnyH_take (i := 20) (oi := _) (v := ?mv98) rfl (by kernel_rfl) (by kernel_rfl) (by kernel_rfl) (fun _ _ _ h => h) (Or.inl ⟨by rfl, ?my98⟩) (by assumption) ?mr98
  case my98 => (simp only [List.getElem_toArray, List.getElem_cons_succ, List.getElem_cons_zero]; intro w hSw; (try dsimp only at hSw); go_simp; first | done | with_reducible rfl)
  try simp only [List.getElem_toArray, List.getElem_cons_succ, List.getElem_cons_zero, Act.put, List.setIfInBounds_toArray, List.set_cons_zero, List.set_cons_succ]
  refine wpAnyH_take (i := 21) (oi := _) (v := ?mv99) rfl (by kernel_rfl) (by kernel_rfl) (by kernel_rfl) (fun _ _ _ h => h) (Or.inl ⟨by rfl, ?my99⟩) (by assumption) ?mr99
  case my99 => (simp only [List.getElem_toArray, List.getElem_cons_succ, List.getElem_cons_zero]; intro w hSw; (try dsimp only at hSw); go_simp; first | done | with_reducible rfl)
  try simp only [List.getElem_toArray, List.getElem_cons_succ, List.getElem_cons_zero, Act.put, List.setIfInBounds_toArray, List.set_cons_zero, List.set_cons_succ]
  refine wpAnyH_done (by kernel_rfl) ?_ _
  refine NoPanic.normal ?_
  go_wp2_with fail
  go_ret
  exact ⟨by (rw [HV.out] <;> rfl), H03.out.drew⟩
end Go.Proofs.Ytbnnpkcfifejmaa
/- Layer 10's statements on cases: shapes of tensors: contract. -/
namespace Go.Proofs.Ytbnnpkcfifejmaa
open Go.RowKit
def ShapesQ (ss : List (List Int)) (w : World) (e : Ending) (w' : World) : Prop := (∃ A c, e = .returned (.slice A ss.length c) ∧ Shps w' A ss ∧ ss.length ≤ c ∧ c ≤ 9223372036854775807) ∧ Below w.heap.size w w'
set_option maxHeartbeats 4000000 in
set_option maxRecDepth 20000 in
theorem law10_shapes (A : Option Addr) (c : Nat) (ts : List Ten) (w : World) (hl : ts.length ≤ 1048576) (hP : Tns w A ts) :
    Calls Try.prog 11 #[.slice A ts.length c] w (ShapesQ (ts.map Ten.s) w) := by
  obtain ⟨i1, hj, hy0, hy1, hy2⟩ := info_parts shpF_info
  have hml : (ts.map Ten.s).length = ts.length := List.length_map ..
  have HP := Lib.hid hP
  clear hP
  go_enter Try.func11, Try.ntmps11
  go_wp2_with fail
  go_loopw [3, 8] (fun v i wx => ∃ (k : Nat) (vs : List Value), k ≤ ts.length ∧ i = .int .i64 (k : Int) ∧ wx.ownsRow w.heap.size 24 1 v k vs ∧ RowOf w vs ((ts.map Ten.s).take k) ∧ Below w.heap.size w wx) (fun _ i _ => ts.length - (intOf i).toNat)
  case atStart => exact ⟨0, [], Nat.zero_le _, rfl, World.ownsRow_nil _ _ _ _, RowOf.nil w, Below.refl _ _⟩
  case round =>
    obtain ⟨k, vs, hk, rfl, hown, hrow, hbw⟩ := hrel
    obtain ⟨Ao, co, rfl⟩ := own_form hown
    by_cases hlt : k < ts.length
    · obtain ⟨b, off, S, sc, C, dc, rfl, -, c0, c1, hT⟩ := HP.out k hlt
      have c0w := (hbw.cell (p := ⟨b, off + k * 2, none⟩) (World.block_lt_of_cell? _ _ c0)).trans c0
      have c1w := (hbw.cell (p := ⟨b, off + k * 2 + 1, none⟩) (World.block_lt_of_cell? _ _ c1)).trans c1
      have hrow2 : RowOf w (vs ++ [.slice S ts[k].s.length sc]) ((ts.map Ten.s).take (k + 1)) := by
        have hk' : (ts.map Ten.s)[k]'(by omega) = ts[k].s := by simp
        rw [List.take_succ_eq_append_getElem (by omega), hk']
        exact hrow.push hT.r.1 hT.s1 hT.s2
      generalize ts[k] = t at *
      have ho := ownsRow_new (ownsRow_new hown (.cells #[.slice S t.s.length sc, .slice C t.c.length dc] 30)) (.cells #[.slice S t.s.length sc] 24)
      have hbx1 := hbw.alloc hbw.size (.cells #[.slice S t.s.length sc, .slice C t.c.length dc] 30)
      have hbx2 := hbx1.alloc hbx1.size (.cells #[.slice S t.s.length sc] 24)
      have HLO := Lib.hid (fun b (hb : (Value.slice Ao k co).ownBlock = some b) => (hown.lt b hb).1)
      have Hown := Lib.hid hown
      have Hrow := Lib.hid hrow
      have Hrow2 := Lib.hid hrow2
      clear hown hrow hrow2
      clear c0 c1 hT
      go_wp2_with (at_builtin; refine wpList_append_own_at _ rfl _ _ 43 rfl w.heap.size 24 i1 (.slice none 0 0) 1 24 Try.underlying43 hj hy0 hy1 hy2 rfl (by decide) _ _ _ rfl ho ⟨wr.heap.size + 1, 0, none⟩ 1 1 [.slice S t.s.length sc] rfl rfl ?c1 (by intro u hu; simp at hu; subst hu; rfl) (by unfold maxLen; omega) (by omega) ?c2 ?_)
      case c1 => intro j u hu; have := one_new (wr.alloc (.cells #[.slice S t.s.length sc, .slice C t.c.length dc] 30)) 24 (.slice S t.s.length sc) j u hu; simpa using this
      case c2 => first | exact hbx2.size | (have := hbw.size; simp; omega)
      intro v' w4 hown' hgrow _ hat
      have hb4 : Below w.heap.size w w4 := hbx2.grown hgrow hbx2.size (fun b hb => HLO.out b hb)
      have HO4 := Lib.hid hown'
      clear hown' hgrow hat ho hbx2 hbx1 HLO
      go_wp2_with fail
      go_roundw
      case rel => exact ⟨k + 1, _, by omega, by go_num, HO4.out, Hrow2.out, hb4⟩
      case measure => simp [intOf]; omega
    · obtain rfl : k = ts.length := by omega
      rw [show (ts.map Ten.s).take ts.length = ts.map Ten.s from by rw [← hml, List.take_length]] at hrow
      clear hml
      obtain ⟨A', c', e1, e2, e3, e4, e5⟩ := hrow.shps hown hbw
      injection e1 with e1 e6 e7
      subst e1 e7
      clear e6 e2
      have Hown := Lib.hid hown
      have Hrow := Lib.hid hrow
      have He3 := Lib.hid e3
      clear hown hrow e3
      go_wp2_with fail
      go_ret
      exact ⟨⟨Ao, co, by simp, He3.out, e4, e5⟩, hbw⟩
end Go.Proofs.Ytbnnpkcfifejmaa
