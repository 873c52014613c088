/- Lemmas for the statements of this seat: contracts of functions and the plain laws. -/
import Derived.Test.YtmmgdgfpemkdnaaGreatZ08
set_option linter.unusedVariables false
/- The reference of layer 18: Do: contract. Printed by gen/refdo2.py. -/
namespace Go.Proofs.YtmmgdgfpemkdnaaGreat
open Go.RowKit
set_option maxHeartbeats 32000000 in
set_option maxRecDepth 100000 in
theorem ref18_do2 (F : RfF) (V : RfV) (n : NetD) (c : CkN) (x : RfS) (w : World) (hC : RfC n c) (hG : Rf.GoodS c x) (hF : F.Fix n c w) (hV : V.At x w) (hdn : 0 ≤ x.done ∧ x.done ≤ 1000) (id : Int) (hr : Cd.right (2, id) = true) (hbig : ¬ (c.words.length : Int) ≤ id) :
    Calls Tryz.prog 13 #[.agg (F.cells V n c x), .int .i64 2, .int .i64 id] w (DoP18 F V n c x 2 id w) := by
  have hwl := hC.wl
  have hnl := hC.nl
  obtain ⟨hid0, -⟩ := Rf.right_k hr
  have hl0 : Later w ((w.alloc (.cells (F.cells V n c x) 49)).alloc (.cells zeros13 49)) := ((Later.refl w).alloc _).alloc _
  have hk3 : Blk ((w.alloc (.cells (F.cells V n c x) 49)).alloc (.cells zeros13 49)) w.heap.size 49 (F.cells V n c x) := (Blk.new _ _ _).alloc _
  have hk6 := Blk.new (w.alloc (.cells (F.cells V n c x) 49)) 49 zeros13
  rw [World.size_alloc] at hk6
  obtain ⟨y0, y1, y2, y3, y4, y5, y6, y7, y8, y9, y10, y11, y12⟩ := RfF.cells13 hk3
  obtain ⟨f0, f1, f2, f3, f4, f5, f6, f7, f8, f9, f10, f11, f12⟩ := frozen13 hk6
  have HB := Lib.hid (show Rf.do_ c x 2 id = if (c.words.length : Int) ≤ id then (x, 10) else if Rf.legal c x 2 id = false then (x, 24) else if c.cap < Rf.sum c (Rf.step c x 2 id) then (x, 25) else (Rf.fin c (Rf.step c x 2 id) 2 id, 0) from rfl)
  have d1 : decide ((n.nodes.length : Int) < id) = false := by simp; omega
  have hidl : id < c.words.length := by omega
  have HB2 := Lib.hid (HB.out.trans (if_neg hbig))
  clear hbig HB
  have hk8 := Blk.new ((w.alloc (.cells (F.cells V n c x) 49)).alloc (.cells zeros13 49)) 49 (F.cells V n c x)
  rw [World.size_alloc, World.size_alloc] at hk8
  have hB : RfB w.heap.size (w.heap.size + 1) (w.heap.size + 1 + 1) F V n c x V x w (((w.alloc (.cells (F.cells V n c x) 49)).alloc (.cells zeros13 49)).alloc (.cells (F.cells V n c x) 49)) :=
    ⟨Nat.le_refl _, by omega, by omega, hl0.alloc _, hk3.alloc _, hk6.alloc _, hk8, hF, hV, (RfRow.old hV.there (by omega)).later (hl0.alloc _), (RfRow.old hV.saved (by omega)).later (hl0.alloc _), (RfRow.old hV.grads (by omega)).later (hl0.alloc _), fun _ _ q => q⟩
  have hB : RfB w.heap.size (w.heap.size + 1) (w.heap.size + 1 + 1) F V n c x V x w (((w.alloc (.cells (F.cells V n c x) 49)).alloc (.cells zeros13 49)).alloc (.cells #[.slice F.A n.inn.length F.c, .slice F.N n.nodes.length F.d, .slice F.Wd c.words.length F.cw, .slice F.Or c.order.length F.co, .int .i64 c.loss, .int .i64 c.cap, .slice V.Th x.there.length V.ct, .slice V.Sa x.saved.length V.cs, .slice V.Gr x.grads.length V.cg, .int .i64 x.em, .int .i64 x.sd, .int .i64 x.done, .int .i64 x.peak] 49)) := hB
  obtain ⟨g, hg⟩ : ∃ g, w.heap.size = g := ⟨_, rfl⟩
  have hgw : w.heap.size ≤ g := Nat.le_of_eq hg
  unfold zeros13 at *
  have HC := Lib.hid hC
  have HG := Lib.hid hG
  have HF := Lib.hid hF
  have HV := Lib.hid hV
  have Hk3 := Lib.hid hk3
  have Hk6 := Lib.hid hk6
  have Hk8 := Lib.hid hk8
  have Hl0 := Lib.hid hl0
  have Hwl := Lib.hid hwl
  have HB := Lib.hid hB
  have Hg := Lib.hid hg
  clear hC hG hF hV hk3 hk6 hk8 hl0 hwl hB hg
  clear f0 f1 f2 f3 f4 f5 f6 f7 f8 f9 f10 f11 f12
  go_enter Tryz.func13, Tryz.ntmps13
  go_upto_region 4 with fail
  clear y0 y1 y2 y3 y4 y5 y6 y7 y8 y9 y10 y11 y12 Hk3 Hk6 Hk8 Hl0
  generalize (((w.alloc (.cells (F.cells V n c x) 49)).alloc (.cells #[.slice none 0 0, .slice none 0 0, .slice none 0 0, .slice none 0 0, .int .i64 0, .int .i64 0, .slice none 0 0, .slice none 0 0, .slice none 0 0, .int .i64 0, .int .i64 0, .int .i64 0, .int .i64 0] 49)).alloc (.cells #[.slice F.A n.inn.length F.c, .slice F.N n.nodes.length F.d, .slice F.Wd c.words.length F.cw, .slice F.Or c.order.length F.co, .int .i64 c.loss, .int .i64 c.cap, .slice V.Th x.there.length V.ct, .slice V.Sa x.saved.length V.cs, .slice V.Gr x.grads.length V.cg, .int .i64 x.em, .int .i64 x.sd, .int .i64 x.done, .int .i64 x.peak] 49)) = w1 at *
  rw [Hg.out] at HB ⊢
  clear Hg hB
  generalize g + 1 + 1 = g8 at *
  generalize g + 1 = g6 at *
  have hxt : x.there.length ≤ 1000 := by have := HG.out.there.len; have := Hwl.out; omega
  have hxs : x.saved.length ≤ 1000 := by have := HG.out.saved.len; have := Hwl.out; omega
  have hxg : x.grads.length ≤ 1000 := by have := HG.out.grads.len; have := Hwl.out; omega
  clear d1
  have HL := Lib.hid (show Rf.legal c x 2 id = ((hasB x.saved id == true) && (!hasB x.there id && Rf.ready c x id)) from rfl)
  have HGy := Lib.hid (show Rf.GoodS c (Rf.step c x 2 id) from ⟨HG.out.there.with_ ⟨hid0, hidl⟩, HG.out.saved.with_ ⟨hid0, hidl⟩, HG.out.grads⟩)
  have hz := Rf.right_pos hr (by decide) (by decide)
  obtain ⟨m, hm⟩ : ∃ m : Nat, id = ((m + 1 : Nat) : Int) := ⟨(id - 1).toNat, by omega⟩
  have hml : m < n.nodes.length := by have := Hwl.out; omega
  have HRd := Lib.hid (fun (W : World) (h : Later w W) => (show Calls Tryz.prog 36 #[.agg (F.cells V n c x), .int .i64 id] W fun e w' => e = .returned (.bool (Rf.ready c x id)) ∧ Later W w' from by rw [hm]; exact ref18_ready F V n c x W HC.out HG.out (HF.out.later h) (HV.out.later h) m hml))
  clear hm hz
  obtain ⟨-, -, -, -, -, -, y6, y7, -⟩ := RfF.cells13 HB.out.b3
  go_wp2_with fail
  refine (ref18_has V.Sa V.cs x.saved id w1 (by omega) HB.out.atx.saved).mono ?_
  rintro e w2 ⟨rfl, rfl⟩
  generalize hasB x.saved id = b1 at *
  clear y6 y7
  cases b1
  · have HE := Lib.hid (HB2.out.trans (if_pos (by rw [HL.out]; simp)))
    obtain ⟨y0, y1, y2, y3, y4, y5, y6, y7, y8, y9, y10, y11, y12⟩ := RfF.cells13 HB.out.b3
    obtain ⟨z0, z1, z2, z3, z4, z5, z6, z7, z8, z9, z10, z11, z12⟩ := cells_zero13 HB.out.b6
    obtain ⟨f0, f1, f2, f3, f4, f5, f6, f7, f8, f9, f10, f11, f12⟩ := frozen13 HB.out.b6
    go_wp2_with fail
    refine bodyPost_ret (v := .tuple #[.agg (F.cells V n c x), .int .i64 24]) (by simp [results, Tryz.results13, go_sem, z0, z1, z2, z3, z4, z5, z6, z7, z8, z9, z10, z11, z12]; rfl) rfl ?_
    exact DoP18.of V HE.out (HV.out.later (HB.out.at13 _ _ _ _ _ _ _ _ _ _ _ _ _).2) (HB.out.at13 _ _ _ _ _ _ _ _ _ _ _ _ _).2 (fun _ _ q => q)
  obtain ⟨-, -, -, -, -, -, y6, -⟩ := RfF.cells13 HB.out.b3
  go_wp2_with fail
  refine (ref18_has V.Th V.ct x.there id w1 (by omega) HB.out.atx.there).mono ?_
  rintro e w2 ⟨rfl, rfl⟩
  generalize hasB x.there id = b2 at *
  clear y6
  cases b2
  rotate_left
  · have HE := Lib.hid (HB2.out.trans (if_pos (by rw [HL.out]; simp)))
    obtain ⟨y0, y1, y2, y3, y4, y5, y6, y7, y8, y9, y10, y11, y12⟩ := RfF.cells13 HB.out.b3
    obtain ⟨z0, z1, z2, z3, z4, z5, z6, z7, z8, z9, z10, z11, z12⟩ := cells_zero13 HB.out.b6
    obtain ⟨f0, f1, f2, f3, f4, f5, f6, f7, f8, f9, f10, f11, f12⟩ := frozen13 HB.out.b6
    go_wp2_with fail
    refine bodyPost_ret (v := .tuple #[.agg (F.cells V n c x), .int .i64 24]) (by simp [results, Tryz.results13, go_sem, z0, z1, z2, z3, z4, z5, z6, z7, z8, z9, z10, z11, z12]; rfl) rfl ?_
    exact DoP18.of V HE.out (HV.out.later (HB.out.at13 _ _ _ _ _ _ _ _ _ _ _ _ _).2) (HB.out.at13 _ _ _ _ _ _ _ _ _ _ _ _ _).2 (fun _ _ q => q)
  obtain ⟨y0, y1, y2, y3, y4, y5, y6, y7, y8, y9, y10, y11, y12⟩ := RfF.cells13 HB.out.b3
  go_wp2_with fail
  refine (HRd.out w1 HB.out.later).mono ?_
  rintro e w3 ⟨rfl, hl3⟩
  have HB3 := Lib.hid (HB.out.to_later hl3)
  clear hl3 y0 y1 y2 y3 y4 y5 y6 y7 y8 y9 y10 y11 y12
  generalize Rf.ready c x id = b3 at *
  cases b3
  · have HE := Lib.hid (HB2.out.trans (if_pos (by rw [HL.out]; simp)))
    obtain ⟨y0, y1, y2, y3, y4, y5, y6, y7, y8, y9, y10, y11, y12⟩ := RfF.cells13 HB3.out.b3
    obtain ⟨z0, z1, z2, z3, z4, z5, z6, z7, z8, z9, z10, z11, z12⟩ := cells_zero13 HB3.out.b6
    obtain ⟨f0, f1, f2, f3, f4, f5, f6, f7, f8, f9, f10, f11, f12⟩ := frozen13 HB3.out.b6
    go_wp2_with fail
    refine bodyPost_ret (v := .tuple #[.agg (F.cells V n c x), .int .i64 24]) (by simp [results, Tryz.results13, go_sem, z0, z1, z2, z3, z4, z5, z6, z7, z8, z9, z10, z11, z12]; rfl) rfl ?_
    exact DoP18.of V HE.out (HV.out.later (HB3.out.at13 _ _ _ _ _ _ _ _ _ _ _ _ _).2) (HB3.out.at13 _ _ _ _ _ _ _ _ _ _ _ _ _).2 (fun _ _ q => q)
  have HD := Lib.hid (HB2.out.trans (if_neg (by rw [HL.out]; simp)))
  clear HL HB2 HRd
  obtain ⟨-, -, -, -, -, -, y6, -⟩ := RfF.cells13 HB3.out.b3
  go_upto_region 7 with fail
  go_wp2_with fail
  refine (ref18_with V.Th V.ct x.there id w3 hxt HB3.out.atx.there).mono ?_
  rintro e w4 ⟨A, m1, rfl, hI, hAb, hb4⟩
  have hB4 := HB3.out.to_later (show Later w3 w4 from hb4)
  have hB4' := hB4.there A m1 _ (RfRow.new hI hAb HB3.out.b8.lt) (fun a e => Nat.lt_of_lt_of_le HB3.out.b8.lt (hAb a e))
  clear y6
  obtain ⟨-, -, -, -, -, -, t6, -⟩ := RfF.cells13 hB4.b8
  obtain ⟨-, -, -, -, -, -, q6, -⟩ := frozen13 hB4.b8
  have HB5 := Lib.hid hB4'
  clear hB4 hB4' hI hAb hb4
  go_upto_region 8 with fail
  clear t6 q6
  generalize w4.setCell ⟨g8, 6, none⟩ (.slice A (Rf.with_ x.there id).length m1) = w5 at *
  obtain ⟨-, -, -, -, -, -, -, y7, -⟩ := RfF.cells13 HB5.out.b3
  go_wp2_with fail
  refine (ref18_with V.Sa V.cs x.saved id w5 hxs HB5.out.atx.saved).mono ?_
  rintro e w6 ⟨A2, m2, rfl, hI, hAb, hb4⟩
  have hB4 := HB5.out.to_later (show Later w5 w6 from hb4)
  have hB4' := hB4.saved A2 m2 _ (RfRow.new hI hAb HB5.out.b8.lt) (fun a e => Nat.lt_of_lt_of_le HB5.out.b8.lt (hAb a e))
  clear y7
  obtain ⟨-, -, -, -, -, -, -, t7, -⟩ := RfF.cells13 hB4.b8
  obtain ⟨-, -, -, -, -, -, -, q7, -⟩ := frozen13 hB4.b8
  have HB6 := Lib.hid hB4'
  clear hB4 hB4' hI hAb hb4 HB5
  go_upto_region 33 with fail
  clear t7 q7
  have hB4 := HB6.out
  clear HB6
  have HB5 := Lib.hid (show RfB g g6 g8 F V n c x { V with Th := A, ct := m1, Sa := A2, cs := m2 } (Rf.step c x 2 id) w (w6.setCell ⟨g8, 7, none⟩ (.slice A2 (Rf.with_ x.saved id).length m2)) from hB4)
  clear hB4
  generalize w6.setCell ⟨g8, 7, none⟩ (.slice A2 (Rf.with_ x.saved id).length m2) = w7 at *
  generalize Rf.step c x 2 id = y at *
  obtain ⟨V2, hB5⟩ : ∃ V2, RfB g g6 g8 F V n c x V2 y w w7 := ⟨_, HB5.out⟩
  clear HB5
  have HB5 := Lib.hid hB5
  clear hB5
  obtain ⟨t0, t1, t2, t3, t4, t5, t6, t7, t8, t9, t10, t11, t12⟩ := RfF.cells13 HB5.out.b8
  obtain ⟨q0, q1, q2, q3, q4, q5, q6, q7, q8, q9, q10, q11, q12⟩ := frozen13 HB5.out.b8
  go_wp2_with fail
  refine (ref18_sum F V2 n c y w7 HC.out HGy.out HB5.out.fixw HB5.out.aty).mono ?_
  rintro e w6 ⟨rfl, hl6⟩
  have HB6 := Lib.hid (HB5.out.to_later hl6)
  clear hl6 t0 q0 t1 q1 t2 q2 t3 q3 t4 q4 t5 q5 t6 q6 t7 q7 t8 q8 t9 q9 t10 q10 t11 q11 t12 q12
  have HFn := Lib.hid (show Rf.fin c y 2 id = { y with peak := if y.peak < Rf.sum c y then Rf.sum c y else y.peak, grads := y.grads } from rfl)
  generalize Rf.sum c y = sm at *
  by_cases hcap : c.cap < sm
  · have HE := Lib.hid (HD.out.trans (if_pos hcap))
    have d2 : decide (c.cap < sm) = true := by simpa using hcap
    clear hcap HD
    obtain ⟨y0, y1, y2, y3, y4, y5, y6, y7, y8, y9, y10, y11, y12⟩ := RfF.cells13 HB6.out.b3
    obtain ⟨z0, z1, z2, z3, z4, z5, z6, z7, z8, z9, z10, z11, z12⟩ := cells_zero13 HB6.out.b6
    obtain ⟨f0, f1, f2, f3, f4, f5, f6, f7, f8, f9, f10, f11, f12⟩ := frozen13 HB6.out.b6
    go_wp2_with fail
    refine bodyPost_ret (v := .tuple #[.agg (F.cells V n c x), .int .i64 25]) (by simp [results, Tryz.results13, go_sem, z0, z1, z2, z3, z4, z5, z6, z7, z8, z9, z10, z11, z12]; rfl) rfl ?_
    exact DoP18.of V HE.out (HV.out.later (HB6.out.at13 _ _ _ _ _ _ _ _ _ _ _ _ _).2) (HB6.out.at13 _ _ _ _ _ _ _ _ _ _ _ _ _).2 (fun _ _ q => q)
  have HD2 := Lib.hid (HD.out.trans (if_neg hcap))
  have d2 : decide (c.cap < sm) = false := by simpa using hcap
  clear hcap HD
  by_cases hpk : y.peak < sm
  · have d3 : decide (y.peak < sm) = true := by simpa using hpk
    have HE := Lib.hid (show Rf.do_ c x 2 id = ({ y with peak := sm }, 0) by rw [HD2.out, HFn.out, if_pos hpk])
    clear hpk HD2
    obtain ⟨-, -, -, -, -, y5, -⟩ := RfF.cells13 HB6.out.b3
    obtain ⟨-, -, -, -, -, -, -, -, -, -, -, -, t12⟩ := RfF.cells13 HB6.out.b8
    obtain ⟨-, -, -, -, -, -, -, -, -, -, -, -, q12⟩ := frozen13 HB6.out.b8
    go_upto_region 38 with fail
    have HB7 := Lib.hid (HB6.out.peak sm)
    clear y5 t12 q12
    generalize w6.setCell ⟨g8, 12, none⟩ (.int .i64 sm) = w9 at *
    obtain ⟨z0, z1, z2, z3, z4, z5, z6, z7, z8, z9, z10, z11, z12⟩ := cells_zero13 HB7.out.b6
    obtain ⟨f0, f1, f2, f3, f4, f5, f6, f7, f8, f9, f10, f11, f12⟩ := frozen13 HB7.out.b6
    obtain ⟨t0, t1, t2, t3, t4, t5, t6, t7, t8, t9, t10, t11, t12⟩ := RfF.cells13 HB7.out.b8
    obtain ⟨q0, q1, q2, q3, q4, q5, q6, q7, q8, q9, q10, q11, q12⟩ := frozen13 HB7.out.b8
    go_wp2_with fail
    refine bodyPost_ret (v := .tuple #[.agg (F.cells V2 n c { y with peak := sm }), .int .i64 0]) (by simp [results, Tryz.results13, go_sem, z0, z1, z2, z3, z4, z5, z6, z7, z8, z9, z10, z11, z12]; rfl) rfl ?_
    exact DoP18.of V2 HE.out (HB7.out.at13 _ _ _ _ _ _ _ _ _ _ _ _ _).1 (HB7.out.at13 _ _ _ _ _ _ _ _ _ _ _ _ _).2 HB7.out.off
  · have d3 : decide (y.peak < sm) = false := by simpa using hpk
    have HE := Lib.hid (show Rf.do_ c x 2 id = (y, 0) by rw [HD2.out, HFn.out, if_neg hpk])
    clear hpk HD2
    obtain ⟨-, -, -, -, -, y5, -⟩ := RfF.cells13 HB6.out.b3
    obtain ⟨-, -, -, -, -, -, -, -, -, -, -, -, t12⟩ := RfF.cells13 HB6.out.b8
    go_upto_region 38 with fail
    have HB7 := Lib.hid HB6.out
    clear y5 t12
    obtain ⟨z0, z1, z2, z3, z4, z5, z6, z7, z8, z9, z10, z11, z12⟩ := cells_zero13 HB7.out.b6
    obtain ⟨f0, f1, f2, f3, f4, f5, f6, f7, f8, f9, f10, f11, f12⟩ := frozen13 HB7.out.b6
    obtain ⟨t0, t1, t2, t3, t4, t5, t6, t7, t8, t9, t10, t11, t12⟩ := RfF.cells13 HB7.out.b8
    obtain ⟨q0, q1, q2, q3, q4, q5, q6, q7, q8, q9, q10, q11, q12⟩ := frozen13 HB7.out.b8
    go_wp2_with fail
    refine bodyPost_ret (v := .tuple #[.agg (F.cells V2 n c y), .int .i64 0]) (by simp [results, Tryz.results13, go_sem, z0, z1, z2, z3, z4, z5, z6, z7, z8, z9, z10, z11, z12]; rfl) rfl ?_
    exact DoP18.of V2 HE.out (HB7.out.at13 _ _ _ _ _ _ _ _ _ _ _ _ _).1 (HB7.out.at13 _ _ _ _ _ _ _ _ _ _ _ _ _).2 HB7.out.off
end Go.Proofs.YtmmgdgfpemkdnaaGreat
/- The reference of layer 18: Do: contract. Printed by gen/refdo2.py. -/
namespace Go.Proofs.YtmmgdgfpemkdnaaGreat
open Go.RowKit
set_option maxHeartbeats 32000000 in
set_option maxRecDepth 100000 in
theorem ref18_do3 (F : RfF) (V : RfV) (n : NetD) (c : CkN) (x : RfS) (w : World) (hC : RfC n c) (hG : Rf.GoodS c x) (hF : F.Fix n c w) (hV : V.At x w) (hdn : 0 ≤ x.done ∧ x.done ≤ 1000) (id : Int) (hr : Cd.right (3, id) = true) (hbig : ¬ (c.words.length : Int) ≤ id) :
    Calls Tryz.prog 13 #[.agg (F.cells V n c x), .int .i64 3, .int .i64 id] w (DoP18 F V n c x 3 id w) := by
  have hwl := hC.wl
  have hnl := hC.nl
  obtain ⟨hid0, -⟩ := Rf.right_k hr
  have hl0 : Later w ((w.alloc (.cells (F.cells V n c x) 49)).alloc (.cells zeros13 49)) := ((Later.refl w).alloc _).alloc _
  have hk3 : Blk ((w.alloc (.cells (F.cells V n c x) 49)).alloc (.cells zeros13 49)) w.heap.size 49 (F.cells V n c x) := (Blk.new _ _ _).alloc _
  have hk6 := Blk.new (w.alloc (.cells (F.cells V n c x) 49)) 49 zeros13
  rw [World.size_alloc] at hk6
  obtain ⟨y0, y1, y2, y3, y4, y5, y6, y7, y8, y9, y10, y11, y12⟩ := RfF.cells13 hk3
  obtain ⟨f0, f1, f2, f3, f4, f5, f6, f7, f8, f9, f10, f11, f12⟩ := frozen13 hk6
  have HB := Lib.hid (show Rf.do_ c x 3 id = if (c.words.length : Int) ≤ id then (x, 10) else if Rf.legal c x 3 id = false then (x, 24) else if c.cap < Rf.sum c (Rf.step c x 3 id) then (x, 25) else (Rf.fin c (Rf.step c x 3 id) 3 id, 0) from rfl)
  have d1 : decide ((n.nodes.length : Int) < id) = false := by simp; omega
  have hidl : id < c.words.length := by omega
  have HB2 := Lib.hid (HB.out.trans (if_neg hbig))
  clear hbig HB
  have hk8 := Blk.new ((w.alloc (.cells (F.cells V n c x) 49)).alloc (.cells zeros13 49)) 49 (F.cells V n c x)
  rw [World.size_alloc, World.size_alloc] at hk8
  have hB : RfB w.heap.size (w.heap.size + 1) (w.heap.size + 1 + 1) F V n c x V x w (((w.alloc (.cells (F.cells V n c x) 49)).alloc (.cells zeros13 49)).alloc (.cells (F.cells V n c x) 49)) :=
    ⟨Nat.le_refl _, by omega, by omega, hl0.alloc _, hk3.alloc _, hk6.alloc _, hk8, hF, hV, (RfRow.old hV.there (by omega)).later (hl0.alloc _), (RfRow.old hV.saved (by omega)).later (hl0.alloc _), (RfRow.old hV.grads (by omega)).later (hl0.alloc _), fun _ _ q => q⟩
  have hB : RfB w.heap.size (w.heap.size + 1) (w.heap.size + 1 + 1) F V n c x V x w (((w.alloc (.cells (F.cells V n c x) 49)).alloc (.cells zeros13 49)).alloc (.cells #[.slice F.A n.inn.length F.c, .slice F.N n.nodes.length F.d, .slice F.Wd c.words.length F.cw, .slice F.Or c.order.length F.co, .int .i64 c.loss, .int .i64 c.cap, .slice V.Th x.there.length V.ct, .slice V.Sa x.saved.length V.cs, .slice V.Gr x.grads.length V.cg, .int .i64 x.em, .int .i64 x.sd, .int .i64 x.done, .int .i64 x.peak] 49)) := hB
  obtain ⟨g, hg⟩ : ∃ g, w.heap.size = g := ⟨_, rfl⟩
  have hgw : w.heap.size ≤ g := Nat.le_of_eq hg
  unfold zeros13 at *
  have HC := Lib.hid hC
  have HG := Lib.hid hG
  have HF := Lib.hid hF
  have HV := Lib.hid hV
  have Hk3 := Lib.hid hk3
  have Hk6 := Lib.hid hk6
  have Hk8 := Lib.hid hk8
  have Hl0 := Lib.hid hl0
  have Hwl := Lib.hid hwl
  have HB := Lib.hid hB
  have Hg := Lib.hid hg
  clear hC hG hF hV hk3 hk6 hk8 hl0 hwl hB hg
  clear f0 f1 f2 f3 f4 f5 f6 f7 f8 f9 f10 f11 f12
  go_enter Tryz.func13, Tryz.ntmps13
  go_upto_region 4 with fail
  clear y0 y1 y2 y3 y4 y5 y6 y7 y8 y9 y10 y11 y12 Hk3 Hk6 Hk8 Hl0
  generalize (((w.alloc (.cells (F.cells V n c x) 49)).alloc (.cells #[.slice none 0 0, .slice none 0 0, .slice none 0 0, .slice none 0 0, .int .i64 0, .int .i64 0, .slice none 0 0, .slice none 0 0, .slice none 0 0, .int .i64 0, .int .i64 0, .int .i64 0, .int .i64 0] 49)).alloc (.cells #[.slice F.A n.inn.length F.c, .slice F.N n.nodes.length F.d, .slice F.Wd c.words.length F.cw, .slice F.Or c.order.length F.co, .int .i64 c.loss, .int .i64 c.cap, .slice V.Th x.there.length V.ct, .slice V.Sa x.saved.length V.cs, .slice V.Gr x.grads.length V.cg, .int .i64 x.em, .int .i64 x.sd, .int .i64 x.done, .int .i64 x.peak] 49)) = w1 at *
  rw [Hg.out] at HB ⊢
  clear Hg hB
  generalize g + 1 + 1 = g8 at *
  generalize g + 1 = g6 at *
  have hxt : x.there.length ≤ 1000 := by have := HG.out.there.len; have := Hwl.out; omega
  have hxs : x.saved.length ≤ 1000 := by have := HG.out.saved.len; have := Hwl.out; omega
  have hxg : x.grads.length ≤ 1000 := by have := HG.out.grads.len; have := Hwl.out; omega
  clear d1
  have HL := Lib.hid (show Rf.legal c x 3 id = hasB x.there id from rfl)
  have HGy := Lib.hid (show Rf.GoodS c (Rf.step c x 3 id) from ⟨HG.out.there.without id, HG.out.saved, HG.out.grads⟩)
  obtain ⟨-, -, -, -, -, -, y6, -⟩ := RfF.cells13 HB.out.b3
  go_wp2_with fail
  refine (ref18_has V.Th V.ct x.there id w1 (by omega) HB.out.atx.there).mono ?_
  rintro e w2 ⟨rfl, rfl⟩
  generalize hasB x.there id = b1 at *
  clear y6
  cases b1
  · have HE := Lib.hid (HB2.out.trans (if_pos (by rw [HL.out])))
    obtain ⟨y0, y1, y2, y3, y4, y5, y6, y7, y8, y9, y10, y11, y12⟩ := RfF.cells13 HB.out.b3
    obtain ⟨z0, z1, z2, z3, z4, z5, z6, z7, z8, z9, z10, z11, z12⟩ := cells_zero13 HB.out.b6
    obtain ⟨f0, f1, f2, f3, f4, f5, f6, f7, f8, f9, f10, f11, f12⟩ := frozen13 HB.out.b6
    go_wp2_with fail
    refine bodyPost_ret (v := .tuple #[.agg (F.cells V n c x), .int .i64 24]) (by simp [results, Tryz.results13, go_sem, z0, z1, z2, z3, z4, z5, z6, z7, z8, z9, z10, z11, z12]; rfl) rfl ?_
    exact DoP18.of V HE.out (HV.out.later (HB.out.at13 _ _ _ _ _ _ _ _ _ _ _ _ _).2) (HB.out.at13 _ _ _ _ _ _ _ _ _ _ _ _ _).2 (fun _ _ q => q)
  have HD := Lib.hid (HB2.out.trans (if_neg (by rw [HL.out]; simp)))
  clear HL HB2
  obtain ⟨-, -, -, -, -, -, y6, -⟩ := RfF.cells13 HB.out.b3
  go_upto_region 12 with fail
  go_wp2_with fail
  refine (ref18_without V.Th V.ct x.there id w1 hxt HB.out.atx.there).mono ?_
  rintro e w2 ⟨A, m, rfl, hI, hAb, hb2⟩
  have hB2 := HB.out.to_later (show Later w1 w2 from hb2)
  have hB4 := hB2.there A m _ (RfRow.new hI hAb HB.out.b8.lt) (fun a e => Nat.lt_of_lt_of_le HB.out.b8.lt (hAb a e))
  clear y6
  obtain ⟨-, -, -, -, -, -, t6, -⟩ := RfF.cells13 hB2.b8
  obtain ⟨-, -, -, -, -, -, q6, -⟩ := frozen13 hB2.b8
  have HB4 := Lib.hid hB4
  clear hB4
  clear hB2 hI hAb hb2
  go_upto_region 33 with fail
  clear t6 q6
  have hB4 := HB4.out
  clear HB4
  have HB5 := Lib.hid (show RfB g g6 g8 F V n c x { V with Th := A, ct := m } (Rf.step c x 3 id) w (w2.setCell ⟨g8, 6, none⟩ (.slice A (Rf.without x.there id).length m)) from hB4)
  clear hB4
  generalize w2.setCell ⟨g8, 6, none⟩ (.slice A (Rf.without x.there id).length m) = w5 at *
  generalize Rf.step c x 3 id = y at *
  obtain ⟨V2, hB5⟩ : ∃ V2, RfB g g6 g8 F V n c x V2 y w w5 := ⟨_, HB5.out⟩
  clear HB5
  have HB5 := Lib.hid hB5
  clear hB5
  obtain ⟨t0, t1, t2, t3, t4, t5, t6, t7, t8, t9, t10, t11, t12⟩ := RfF.cells13 HB5.out.b8
  obtain ⟨q0, q1, q2, q3, q4, q5, q6, q7, q8, q9, q10, q11, q12⟩ := frozen13 HB5.out.b8
  go_wp2_with fail
  refine (ref18_sum F V2 n c y w5 HC.out HGy.out HB5.out.fixw HB5.out.aty).mono ?_
  rintro e w6 ⟨rfl, hl6⟩
  have HB6 := Lib.hid (HB5.out.to_later hl6)
  clear hl6 t0 q0 t1 q1 t2 q2 t3 q3 t4 q4 t5 q5 t6 q6 t7 q7 t8 q8 t9 q9 t10 q10 t11 q11 t12 q12
  have HFn := Lib.hid (show Rf.fin c y 3 id = { y with peak := if y.peak < Rf.sum c y then Rf.sum c y else y.peak, grads := y.grads } from rfl)
  generalize Rf.sum c y = sm at *
  by_cases hcap : c.cap < sm
  · have HE := Lib.hid (HD.out.trans (if_pos hcap))
    have d2 : decide (c.cap < sm) = true := by simpa using hcap
    clear hcap HD
    obtain ⟨y0, y1, y2, y3, y4, y5, y6, y7, y8, y9, y10, y11, y12⟩ := RfF.cells13 HB6.out.b3
    obtain ⟨z0, z1, z2, z3, z4, z5, z6, z7, z8, z9, z10, z11, z12⟩ := cells_zero13 HB6.out.b6
    obtain ⟨f0, f1, f2, f3, f4, f5, f6, f7, f8, f9, f10, f11, f12⟩ := frozen13 HB6.out.b6
    go_wp2_with fail
    refine bodyPost_ret (v := .tuple #[.agg (F.cells V n c x), .int .i64 25]) (by simp [results, Tryz.results13, go_sem, z0, z1, z2, z3, z4, z5, z6, z7, z8, z9, z10, z11, z12]; rfl) rfl ?_
    exact DoP18.of V HE.out (HV.out.later (HB6.out.at13 _ _ _ _ _ _ _ _ _ _ _ _ _).2) (HB6.out.at13 _ _ _ _ _ _ _ _ _ _ _ _ _).2 (fun _ _ q => q)
  have HD2 := Lib.hid (HD.out.trans (if_neg hcap))
  have d2 : decide (c.cap < sm) = false := by simpa using hcap
  clear hcap HD
  by_cases hpk : y.peak < sm
  · have d3 : decide (y.peak < sm) = true := by simpa using hpk
    have HE := Lib.hid (show Rf.do_ c x 3 id = ({ y with peak := sm }, 0) by rw [HD2.out, HFn.out, if_pos hpk])
    clear hpk HD2
    obtain ⟨-, -, -, -, -, y5, -⟩ := RfF.cells13 HB6.out.b3
    obtain ⟨-, -, -, -, -, -, -, -, -, -, -, -, t12⟩ := RfF.cells13 HB6.out.b8
    obtain ⟨-, -, -, -, -, -, -, -, -, -, -, -, q12⟩ := frozen13 HB6.out.b8
    go_upto_region 38 with fail
    have HB7 := Lib.hid (HB6.out.peak sm)
    clear y5 t12 q12
    generalize w6.setCell ⟨g8, 12, none⟩ (.int .i64 sm) = w7 at *
    obtain ⟨z0, z1, z2, z3, z4, z5, z6, z7, z8, z9, z10, z11, z12⟩ := cells_zero13 HB7.out.b6
    obtain ⟨f0, f1, f2, f3, f4, f5, f6, f7, f8, f9, f10, f11, f12⟩ := frozen13 HB7.out.b6
    obtain ⟨t0, t1, t2, t3, t4, t5, t6, t7, t8, t9, t10, t11, t12⟩ := RfF.cells13 HB7.out.b8
    obtain ⟨q0, q1, q2, q3, q4, q5, q6, q7, q8, q9, q10, q11, q12⟩ := frozen13 HB7.out.b8
    go_wp2_with fail
    refine bodyPost_ret (v := .tuple #[.agg (F.cells V2 n c { y with peak := sm }), .int .i64 0]) (by simp [results, Tryz.results13, go_sem, z0, z1, z2, z3, z4, z5, z6, z7, z8, z9, z10, z11, z12]; rfl) rfl ?_
    exact DoP18.of V2 HE.out (HB7.out.at13 _ _ _ _ _ _ _ _ _ _ _ _ _).1 (HB7.out.at13 _ _ _ _ _ _ _ _ _ _ _ _ _).2 HB7.out.off
  · have d3 : decide (y.peak < sm) = false := by simpa using hpk
    have HE := Lib.hid (show Rf.do_ c x 3 id = (y, 0) by rw [HD2.out, HFn.out, if_neg hpk])
    clear hpk HD2
    obtain ⟨-, -, -, -, -, y5, -⟩ := RfF.cells13 HB6.out.b3
    obtain ⟨-, -, -, -, -, -, -, -, -, -, -, -, t12⟩ := RfF.cells13 HB6.out.b8
    go_upto_region 38 with fail
    have HB7 := Lib.hid HB6.out
    clear y5 t12
    obtain ⟨z0, z1, z2, z3, z4, z5, z6, z7, z8, z9, z10, z11, z12⟩ := cells_zero13 HB7.out.b6
    obtain ⟨f0, f1, f2, f3, f4, f5, f6, f7, f8, f9, f10, f11, f12⟩ := frozen13 HB7.out.b6
    obtain ⟨t0, t1, t2, t3, t4, t5, t6, t7, t8, t9, t10, t11, t12⟩ := RfF.cells13 HB7.out.b8
    obtain ⟨q0, q1, q2, q3, q4, q5, q6, q7, q8, q9, q10, q11, q12⟩ := frozen13 HB7.out.b8
    go_wp2_with fail
    refine bodyPost_ret (v := .tuple #[.agg (F.cells V2 n c y), .int .i64 0]) (by simp [results, Tryz.results13, go_sem, z0, z1, z2, z3, z4, z5, z6, z7, z8, z9, z10, z11, z12]; rfl) rfl ?_
    exact DoP18.of V2 HE.out (HB7.out.at13 _ _ _ _ _ _ _ _ _ _ _ _ _).1 (HB7.out.at13 _ _ _ _ _ _ _ _ _ _ _ _ _).2 HB7.out.off
end Go.Proofs.YtmmgdgfpemkdnaaGreat
/- The reference of layer 18: Do: contract. Printed by gen/refdo2.py. -/
namespace Go.Proofs.YtmmgdgfpemkdnaaGreat
open Go.RowKit
set_option maxHeartbeats 32000000 in
set_option maxRecDepth 100000 in
theorem ref18_do4 (F : RfF) (V : RfV) (n : NetD) (c : CkN) (x : RfS) (w : World) (hC : RfC n c) (hG : Rf.GoodS c x) (hF : F.Fix n c w) (hV : V.At x w) (hdn : 0 ≤ x.done ∧ x.done ≤ 1000) (id : Int) (hr : Cd.right (4, id) = true) (hbig : ¬ (c.words.length : Int) ≤ id) :
    Calls Tryz.prog 13 #[.agg (F.cells V n c x), .int .i64 4, .int .i64 id] w (DoP18 F V n c x 4 id w) := by
  have hwl := hC.wl
  have hnl := hC.nl
  obtain ⟨hid0, -⟩ := Rf.right_k hr
  have hl0 : Later w ((w.alloc (.cells (F.cells V n c x) 49)).alloc (.cells zeros13 49)) := ((Later.refl w).alloc _).alloc _
  have hk3 : Blk ((w.alloc (.cells (F.cells V n c x) 49)).alloc (.cells zeros13 49)) w.heap.size 49 (F.cells V n c x) := (Blk.new _ _ _).alloc _
  have hk6 := Blk.new (w.alloc (.cells (F.cells V n c x) 49)) 49 zeros13
  rw [World.size_alloc] at hk6
  obtain ⟨y0, y1, y2, y3, y4, y5, y6, y7, y8, y9, y10, y11, y12⟩ := RfF.cells13 hk3
  obtain ⟨f0, f1, f2, f3, f4, f5, f6, f7, f8, f9, f10, f11, f12⟩ := frozen13 hk6
  have HB := Lib.hid (show Rf.do_ c x 4 id = if (c.words.length : Int) ≤ id then (x, 10) else if Rf.legal c x 4 id = false then (x, 24) else if c.cap < Rf.sum c (Rf.step c x 4 id) then (x, 25) else (Rf.fin c (Rf.step c x 4 id) 4 id, 0) from rfl)
  have d1 : decide ((n.nodes.length : Int) < id) = false := by simp; omega
  have hidl : id < c.words.length := by omega
  have HB2 := Lib.hid (HB.out.trans (if_neg hbig))
  clear hbig HB
  have hk8 := Blk.new ((w.alloc (.cells (F.cells V n c x) 49)).alloc (.cells zeros13 49)) 49 (F.cells V n c x)
  rw [World.size_alloc, World.size_alloc] at hk8
  have hB : RfB w.heap.size (w.heap.size + 1) (w.heap.size + 1 + 1) F V n c x V x w (((w.alloc (.cells (F.cells V n c x) 49)).alloc (.cells zeros13 49)).alloc (.cells (F.cells V n c x) 49)) :=
    ⟨Nat.le_refl _, by omega, by omega, hl0.alloc _, hk3.alloc _, hk6.alloc _, hk8, hF, hV, (RfRow.old hV.there (by omega)).later (hl0.alloc _), (RfRow.old hV.saved (by omega)).later (hl0.alloc _), (RfRow.old hV.grads (by omega)).later (hl0.alloc _), fun _ _ q => q⟩
  have hB : RfB w.heap.size (w.heap.size + 1) (w.heap.size + 1 + 1) F V n c x V x w (((w.alloc (.cells (F.cells V n c x) 49)).alloc (.cells zeros13 49)).alloc (.cells #[.slice F.A n.inn.length F.c, .slice F.N n.nodes.length F.d, .slice F.Wd c.words.length F.cw, .slice F.Or c.order.length F.co, .int .i64 c.loss, .int .i64 c.cap, .slice V.Th x.there.length V.ct, .slice V.Sa x.saved.length V.cs, .slice V.Gr x.grads.length V.cg, .int .i64 x.em, .int .i64 x.sd, .int .i64 x.done, .int .i64 x.peak] 49)) := hB
  obtain ⟨g, hg⟩ : ∃ g, w.heap.size = g := ⟨_, rfl⟩
  have hgw : w.heap.size ≤ g := Nat.le_of_eq hg
  unfold zeros13 at *
  have HC := Lib.hid hC
  have HG := Lib.hid hG
  have HF := Lib.hid hF
  have HV := Lib.hid hV
  have Hk3 := Lib.hid hk3
  have Hk6 := Lib.hid hk6
  have Hk8 := Lib.hid hk8
  have Hl0 := Lib.hid hl0
  have Hwl := Lib.hid hwl
  have HB := Lib.hid hB
  have Hg := Lib.hid hg
  clear hC hG hF hV hk3 hk6 hk8 hl0 hwl hB hg
  clear f0 f1 f2 f3 f4 f5 f6 f7 f8 f9 f10 f11 f12
  go_enter Tryz.func13, Tryz.ntmps13
  go_upto_region 4 with fail
  clear y0 y1 y2 y3 y4 y5 y6 y7 y8 y9 y10 y11 y12 Hk3 Hk6 Hk8 Hl0
  generalize (((w.alloc (.cells (F.cells V n c x) 49)).alloc (.cells #[.slice none 0 0, .slice none 0 0, .slice none 0 0, .slice none 0 0, .int .i64 0, .int .i64 0, .slice none 0 0, .slice none 0 0, .slice none 0 0, .int .i64 0, .int .i64 0, .int .i64 0, .int .i64 0] 49)).alloc (.cells #[.slice F.A n.inn.length F.c, .slice F.N n.nodes.length F.d, .slice F.Wd c.words.length F.cw, .slice F.Or c.order.length F.co, .int .i64 c.loss, .int .i64 c.cap, .slice V.Th x.there.length V.ct, .slice V.Sa x.saved.length V.cs, .slice V.Gr x.grads.length V.cg, .int .i64 x.em, .int .i64 x.sd, .int .i64 x.done, .int .i64 x.peak] 49)) = w1 at *
  rw [Hg.out] at HB ⊢
  clear Hg hB
  generalize g + 1 + 1 = g8 at *
  generalize g + 1 = g6 at *
  have hxt : x.there.length ≤ 1000 := by have := HG.out.there.len; have := Hwl.out; omega
  have hxs : x.saved.length ≤ 1000 := by have := HG.out.saved.len; have := Hwl.out; omega
  have hxg : x.grads.length ≤ 1000 := by have := HG.out.grads.len; have := Hwl.out; omega
  clear d1
  have HL := Lib.hid (show Rf.legal c x 4 id = (hasB x.there c.loss && !decide (x.em = 1)) from rfl)
  have HGy := Lib.hid (show Rf.GoodS c (Rf.step c x 4 id) from ⟨HG.out.there, HG.out.saved, HG.out.grads⟩)
  obtain ⟨-, -, -, -, y4, -, y6, -⟩ := RfF.cells13 HB.out.b3
  go_wp2_with fail
  refine (ref18_has V.Th V.ct x.there c.loss w1 (by omega) HB.out.atx.there).mono ?_
  rintro e w2 ⟨rfl, rfl⟩
  generalize hasB x.there c.loss = b1 at *
  clear y4 y6
  cases b1
  · have HE := Lib.hid (HB2.out.trans (if_pos (by rw [HL.out]; simp)))
    obtain ⟨y0, y1, y2, y3, y4, y5, y6, y7, y8, y9, y10, y11, y12⟩ := RfF.cells13 HB.out.b3
    obtain ⟨z0, z1, z2, z3, z4, z5, z6, z7, z8, z9, z10, z11, z12⟩ := cells_zero13 HB.out.b6
    obtain ⟨f0, f1, f2, f3, f4, f5, f6, f7, f8, f9, f10, f11, f12⟩ := frozen13 HB.out.b6
    go_wp2_with fail
    refine bodyPost_ret (v := .tuple #[.agg (F.cells V n c x), .int .i64 24]) (by simp [results, Tryz.results13, go_sem, z0, z1, z2, z3, z4, z5, z6, z7, z8, z9, z10, z11, z12]; rfl) rfl ?_
    exact DoP18.of V HE.out (HV.out.later (HB.out.at13 _ _ _ _ _ _ _ _ _ _ _ _ _).2) (HB.out.at13 _ _ _ _ _ _ _ _ _ _ _ _ _).2 (fun _ _ q => q)
  by_cases hem : x.em = 1
  · have HE := Lib.hid (HB2.out.trans (if_pos (by rw [HL.out]; simp [hem])))
    have e1 : (x.em == 1) = true := by simp [hem]
    clear hem
    obtain ⟨y0, y1, y2, y3, y4, y5, y6, y7, y8, y9, y10, y11, y12⟩ := RfF.cells13 HB.out.b3
    obtain ⟨z0, z1, z2, z3, z4, z5, z6, z7, z8, z9, z10, z11, z12⟩ := cells_zero13 HB.out.b6
    obtain ⟨f0, f1, f2, f3, f4, f5, f6, f7, f8, f9, f10, f11, f12⟩ := frozen13 HB.out.b6
    go_wp2_with fail
    refine bodyPost_ret (v := .tuple #[.agg (F.cells V n c x), .int .i64 24]) (by simp [results, Tryz.results13, go_sem, z0, z1, z2, z3, z4, z5, z6, z7, z8, z9, z10, z11, z12]; rfl) rfl ?_
    exact DoP18.of V HE.out (HV.out.later (HB.out.at13 _ _ _ _ _ _ _ _ _ _ _ _ _).2) (HB.out.at13 _ _ _ _ _ _ _ _ _ _ _ _ _).2 (fun _ _ q => q)
  have HD := Lib.hid (HB2.out.trans (if_neg (by rw [HL.out]; simp [hem])))
  have e1 : (x.em == 1) = false := by simp [hem]
  clear hem HL HB2
  obtain ⟨-, -, -, -, -, -, -, -, -, y9, -⟩ := RfF.cells13 HB.out.b3
  obtain ⟨-, -, -, -, -, -, -, -, -, t9, -⟩ := RfF.cells13 HB.out.b8
  obtain ⟨-, -, -, -, -, -, -, -, -, q9, -⟩ := frozen13 HB.out.b8
  go_upto_region 33 with fail
  clear y9 t9 q9 e1
  have hB4 := HB.out.em 1
  have HB5 := Lib.hid (show RfB g g6 g8 F V n c x V (Rf.step c x 4 id) w (w1.setCell ⟨g8, 9, none⟩ (.int .i64 1)) from hB4)
  clear hB4
  generalize w1.setCell ⟨g8, 9, none⟩ (.int .i64 1) = w5 at *
  generalize Rf.step c x 4 id = y at *
  obtain ⟨V2, hB5⟩ : ∃ V2, RfB g g6 g8 F V n c x V2 y w w5 := ⟨_, HB5.out⟩
  clear HB5
  have HB5 := Lib.hid hB5
  clear hB5
  obtain ⟨t0, t1, t2, t3, t4, t5, t6, t7, t8, t9, t10, t11, t12⟩ := RfF.cells13 HB5.out.b8
  obtain ⟨q0, q1, q2, q3, q4, q5, q6, q7, q8, q9, q10, q11, q12⟩ := frozen13 HB5.out.b8
  go_wp2_with fail
  refine (ref18_sum F V2 n c y w5 HC.out HGy.out HB5.out.fixw HB5.out.aty).mono ?_
  rintro e w6 ⟨rfl, hl6⟩
  have HB6 := Lib.hid (HB5.out.to_later hl6)
  clear hl6 t0 q0 t1 q1 t2 q2 t3 q3 t4 q4 t5 q5 t6 q6 t7 q7 t8 q8 t9 q9 t10 q10 t11 q11 t12 q12
  have HFn := Lib.hid (show Rf.fin c y 4 id = { y with peak := if y.peak < Rf.sum c y then Rf.sum c y else y.peak, grads := y.grads } from rfl)
  generalize Rf.sum c y = sm at *
  by_cases hcap : c.cap < sm
  · have HE := Lib.hid (HD.out.trans (if_pos hcap))
    have d2 : decide (c.cap < sm) = true := by simpa using hcap
    clear hcap HD
    obtain ⟨y0, y1, y2, y3, y4, y5, y6, y7, y8, y9, y10, y11, y12⟩ := RfF.cells13 HB6.out.b3
    obtain ⟨z0, z1, z2, z3, z4, z5, z6, z7, z8, z9, z10, z11, z12⟩ := cells_zero13 HB6.out.b6
    obtain ⟨f0, f1, f2, f3, f4, f5, f6, f7, f8, f9, f10, f11, f12⟩ := frozen13 HB6.out.b6
    go_wp2_with fail
    refine bodyPost_ret (v := .tuple #[.agg (F.cells V n c x), .int .i64 25]) (by simp [results, Tryz.results13, go_sem, z0, z1, z2, z3, z4, z5, z6, z7, z8, z9, z10, z11, z12]; rfl) rfl ?_
    exact DoP18.of V HE.out (HV.out.later (HB6.out.at13 _ _ _ _ _ _ _ _ _ _ _ _ _).2) (HB6.out.at13 _ _ _ _ _ _ _ _ _ _ _ _ _).2 (fun _ _ q => q)
  have HD2 := Lib.hid (HD.out.trans (if_neg hcap))
  have d2 : decide (c.cap < sm) = false := by simpa using hcap
  clear hcap HD
  by_cases hpk : y.peak < sm
  · have d3 : decide (y.peak < sm) = true := by simpa using hpk
    have HE := Lib.hid (show Rf.do_ c x 4 id = ({ y with peak := sm }, 0) by rw [HD2.out, HFn.out, if_pos hpk])
    clear hpk HD2
    obtain ⟨-, -, -, -, -, y5, -⟩ := RfF.cells13 HB6.out.b3
    obtain ⟨-, -, -, -, -, -, -, -, -, -, -, -, t12⟩ := RfF.cells13 HB6.out.b8
    obtain ⟨-, -, -, -, -, -, -, -, -, -, -, -, q12⟩ := frozen13 HB6.out.b8
    go_upto_region 38 with fail
    have HB7 := Lib.hid (HB6.out.peak sm)
    clear y5 t12 q12
    generalize w6.setCell ⟨g8, 12, none⟩ (.int .i64 sm) = w7 at *
    obtain ⟨z0, z1, z2, z3, z4, z5, z6, z7, z8, z9, z10, z11, z12⟩ := cells_zero13 HB7.out.b6
    obtain ⟨f0, f1, f2, f3, f4, f5, f6, f7, f8, f9, f10, f11, f12⟩ := frozen13 HB7.out.b6
    obtain ⟨t0, t1, t2, t3, t4, t5, t6, t7, t8, t9, t10, t11, t12⟩ := RfF.cells13 HB7.out.b8
    obtain ⟨q0, q1, q2, q3, q4, q5, q6, q7, q8, q9, q10, q11, q12⟩ := frozen13 HB7.out.b8
    go_wp2_with fail
    refine bodyPost_ret (v := .tuple #[.agg (F.cells V2 n c { y with peak := sm }), .int .i64 0]) (by simp [results, Tryz.results13, go_sem, z0, z1, z2, z3, z4, z5, z6, z7, z8, z9, z10, z11, z12]; rfl) rfl ?_
    exact DoP18.of V2 HE.out (HB7.out.at13 _ _ _ _ _ _ _ _ _ _ _ _ _).1 (HB7.out.at13 _ _ _ _ _ _ _ _ _ _ _ _ _).2 HB7.out.off
  · have d3 : decide (y.peak < sm) = false := by simpa using hpk
    have HE := Lib.hid (show Rf.do_ c x 4 id = (y, 0) by rw [HD2.out, HFn.out, if_neg hpk])
    clear hpk HD2
    obtain ⟨-, -, -, -, -, y5, -⟩ := RfF.cells13 HB6.out.b3
    obtain ⟨-, -, -, -, -, -, -, -, -, -, -, -, t12⟩ := RfF.cells13 HB6.out.b8
    go_upto_region 38 with fail
    have HB7 := Lib.hid HB6.out
    clear y5 t12
    obtain ⟨z0, z1, z2, z3, z4, z5, z6, z7, z8, z9, z10, z11, z12⟩ := cells_zero13 HB7.out.b6
    obtain ⟨f0, f1, f2, f3, f4, f5, f6, f7, f8, f9, f10, f11, f12⟩ := frozen13 HB7.out.b6
    obtain ⟨t0, t1, t2, t3, t4, t5, t6, t7, t8, t9, t10, t11, t12⟩ := RfF.cells13 HB7.out.b8
    obtain ⟨q0, q1, q2, q3, q4, q5, q6, q7, q8, q9, q10, q11, q12⟩ := frozen13 HB7.out.b8
    go_wp2_with fail
    refine bodyPost_ret (v := .tuple #[.agg (F.cells V2 n c y), .int .i64 0]) (by simp [results, Tryz.results13, go_sem, z0, z1, z2, z3, z4, z5, z6, z7, z8, z9, z10, z11, z12]; rfl) rfl ?_
    exact DoP18.of V2 HE.out (HB7.out.at13 _ _ _ _ _ _ _ _ _ _ _ _ _).1 (HB7.out.at13 _ _ _ _ _ _ _ _ _ _ _ _ _).2 HB7.out.off
end Go.Proofs.YtmmgdgfpemkdnaaGreat
/- The reference of layer 18: Do: contract. Printed by gen/refdo2.py. -/
namespace Go.Proofs.YtmmgdgfpemkdnaaGreat
open Go.RowKit
set_option maxHeartbeats 32000000 in
set_option maxRecDepth 100000 in
theorem ref18_do5 (F : RfF) (V : RfV) (n : NetD) (c : CkN) (x : RfS) (w : World) (hC : RfC n c) (hG : Rf.GoodS c x) (hF : F.Fix n c w) (hV : V.At x w) (hdn : 0 ≤ x.done ∧ x.done ≤ 1000) (id : Int) (hr : Cd.right (5, id) = true) (hbig : ¬ (c.words.length : Int) ≤ id) :
    Calls Tryz.prog 13 #[.agg (F.cells V n c x), .int .i64 5, .int .i64 id] w (DoP18 F V n c x 5 id w) := by
  have hwl := hC.wl
  have hnl := hC.nl
  obtain ⟨hid0, -⟩ := Rf.right_k hr
  have hl0 : Later w ((w.alloc (.cells (F.cells V n c x) 49)).alloc (.cells zeros13 49)) := ((Later.refl w).alloc _).alloc _
  have hk3 : Blk ((w.alloc (.cells (F.cells V n c x) 49)).alloc (.cells zeros13 49)) w.heap.size 49 (F.cells V n c x) := (Blk.new _ _ _).alloc _
  have hk6 := Blk.new (w.alloc (.cells (F.cells V n c x) 49)) 49 zeros13
  rw [World.size_alloc] at hk6
  obtain ⟨y0, y1, y2, y3, y4, y5, y6, y7, y8, y9, y10, y11, y12⟩ := RfF.cells13 hk3
  obtain ⟨f0, f1, f2, f3, f4, f5, f6, f7, f8, f9, f10, f11, f12⟩ := frozen13 hk6
  have HB := Lib.hid (show Rf.do_ c x 5 id = if (c.words.length : Int) ≤ id then (x, 10) else if Rf.legal c x 5 id = false then (x, 24) else if c.cap < Rf.sum c (Rf.step c x 5 id) then (x, 25) else (Rf.fin c (Rf.step c x 5 id) 5 id, 0) from rfl)
  have d1 : decide ((n.nodes.length : Int) < id) = false := by simp; omega
  have hidl : id < c.words.length := by omega
  have HB2 := Lib.hid (HB.out.trans (if_neg hbig))
  clear hbig HB
  have hk8 := Blk.new ((w.alloc (.cells (F.cells V n c x) 49)).alloc (.cells zeros13 49)) 49 (F.cells V n c x)
  rw [World.size_alloc, World.size_alloc] at hk8
  have hB : RfB w.heap.size (w.heap.size + 1) (w.heap.size + 1 + 1) F V n c x V x w (((w.alloc (.cells (F.cells V n c x) 49)).alloc (.cells zeros13 49)).alloc (.cells (F.cells V n c x) 49)) :=
    ⟨Nat.le_refl _, by omega, by omega, hl0.alloc _, hk3.alloc _, hk6.alloc _, hk8, hF, hV, (RfRow.old hV.there (by omega)).later (hl0.alloc _), (RfRow.old hV.saved (by omega)).later (hl0.alloc _), (RfRow.old hV.grads (by omega)).later (hl0.alloc _), fun _ _ q => q⟩
  have hB : RfB w.heap.size (w.heap.size + 1) (w.heap.size + 1 + 1) F V n c x V x w (((w.alloc (.cells (F.cells V n c x) 49)).alloc (.cells zeros13 49)).alloc (.cells #[.slice F.A n.inn.length F.c, .slice F.N n.nodes.length F.d, .slice F.Wd c.words.length F.cw, .slice F.Or c.order.length F.co, .int .i64 c.loss, .int .i64 c.cap, .slice V.Th x.there.length V.ct, .slice V.Sa x.saved.length V.cs, .slice V.Gr x.grads.length V.cg, .int .i64 x.em, .int .i64 x.sd, .int .i64 x.done, .int .i64 x.peak] 49)) := hB
  obtain ⟨g, hg⟩ : ∃ g, w.heap.size = g := ⟨_, rfl⟩
  have hgw : w.heap.size ≤ g := Nat.le_of_eq hg
  unfold zeros13 at *
  have HC := Lib.hid hC
  have HG := Lib.hid hG
  have HF := Lib.hid hF
  have HV := Lib.hid hV
  have Hk3 := Lib.hid hk3
  have Hk6 := Lib.hid hk6
  have Hk8 := Lib.hid hk8
  have Hl0 := Lib.hid hl0
  have Hwl := Lib.hid hwl
  have HB := Lib.hid hB
  have Hg := Lib.hid hg
  clear hC hG hF hV hk3 hk6 hk8 hl0 hwl hB hg
  clear f0 f1 f2 f3 f4 f5 f6 f7 f8 f9 f10 f11 f12
  go_enter Tryz.func13, Tryz.ntmps13
  go_upto_region 4 with fail
  clear y0 y1 y2 y3 y4 y5 y6 y7 y8 y9 y10 y11 y12 Hk3 Hk6 Hk8 Hl0
  generalize (((w.alloc (.cells (F.cells V n c x) 49)).alloc (.cells #[.slice none 0 0, .slice none 0 0, .slice none 0 0, .slice none 0 0, .int .i64 0, .int .i64 0, .slice none 0 0, .slice none 0 0, .slice none 0 0, .int .i64 0, .int .i64 0, .int .i64 0, .int .i64 0] 49)).alloc (.cells #[.slice F.A n.inn.length F.c, .slice F.N n.nodes.length F.d, .slice F.Wd c.words.length F.cw, .slice F.Or c.order.length F.co, .int .i64 c.loss, .int .i64 c.cap, .slice V.Th x.there.length V.ct, .slice V.Sa x.saved.length V.cs, .slice V.Gr x.grads.length V.cg, .int .i64 x.em, .int .i64 x.sd, .int .i64 x.done, .int .i64 x.peak] 49)) = w1 at *
  rw [Hg.out] at HB ⊢
  clear Hg hB
  generalize g + 1 + 1 = g8 at *
  generalize g + 1 = g6 at *
  have hxt : x.there.length ≤ 1000 := by have := HG.out.there.len; have := Hwl.out; omega
  have hxs : x.saved.length ≤ 1000 := by have := HG.out.saved.len; have := Hwl.out; omega
  have hxg : x.grads.length ≤ 1000 := by have := HG.out.grads.len; have := Hwl.out; omega
  clear d1
  have HL := Lib.hid (show Rf.legal c x 5 id = !decide (x.sd = 1) from rfl)
  have HGy := Lib.hid (show Rf.GoodS c (Rf.step c x 5 id) from ⟨HG.out.there, HG.out.saved, HG.out.grads.with_ (by have := HC.out.loss; omega)⟩)
  by_cases hsd : x.sd = 1
  · have HE := Lib.hid (HB2.out.trans (if_pos (by rw [HL.out]; simp [hsd])))
    have e1 : (x.sd == 1) = true := by simp [hsd]
    clear hsd
    obtain ⟨y0, y1, y2, y3, y4, y5, y6, y7, y8, y9, y10, y11, y12⟩ := RfF.cells13 HB.out.b3
    obtain ⟨z0, z1, z2, z3, z4, z5, z6, z7, z8, z9, z10, z11, z12⟩ := cells_zero13 HB.out.b6
    obtain ⟨f0, f1, f2, f3, f4, f5, f6, f7, f8, f9, f10, f11, f12⟩ := frozen13 HB.out.b6
    go_wp2_with fail
    refine bodyPost_ret (v := .tuple #[.agg (F.cells V n c x), .int .i64 24]) (by simp [results, Tryz.results13, go_sem, z0, z1, z2, z3, z4, z5, z6, z7, z8, z9, z10, z11, z12]; rfl) rfl ?_
    exact DoP18.of V HE.out (HV.out.later (HB.out.at13 _ _ _ _ _ _ _ _ _ _ _ _ _).2) (HB.out.at13 _ _ _ _ _ _ _ _ _ _ _ _ _).2 (fun _ _ q => q)
  have HD := Lib.hid (HB2.out.trans (if_neg (by rw [HL.out]; simp [hsd])))
  have e1 : (x.sd == 1) = false := by simp [hsd]
  clear hsd HL HB2
  obtain ⟨-, -, -, -, -, -, -, -, -, -, y10, -⟩ := RfF.cells13 HB.out.b3
  obtain ⟨-, -, -, -, -, -, -, -, -, -, t10, -⟩ := RfF.cells13 HB.out.b8
  obtain ⟨-, -, -, -, -, -, -, -, -, -, q10, -⟩ := frozen13 HB.out.b8
  go_upto_region 21 with fail
  clear y10 t10 q10 e1
  have HB1 := Lib.hid (HB.out.sd 1)
  generalize w1.setCell ⟨g8, 10, none⟩ (.int .i64 1) = w3 at *
  obtain ⟨-, -, -, -, y4, -, -, -, y8, -⟩ := RfF.cells13 HB1.out.b3
  go_wp2_with fail
  refine (ref18_with V.Gr V.cg x.grads c.loss w3 hxg HB1.out.atx.grads).mono ?_
  rintro e w2 ⟨A, m, rfl, hI, hAb, hb2⟩
  have hB2 := HB1.out.to_later (show Later w3 w2 from hb2)
  have hB4 := hB2.grads A m _ (RfRow.new hI hAb HB1.out.b8.lt) (fun a e => Nat.lt_of_lt_of_le HB1.out.b8.lt (hAb a e))
  clear y4 y8
  obtain ⟨-, -, -, -, -, -, -, -, t8, -⟩ := RfF.cells13 hB2.b8
  obtain ⟨-, -, -, -, -, -, -, -, q8, -⟩ := frozen13 hB2.b8
  have HB4 := Lib.hid hB4
  clear hB4
  clear hB2 hI hAb hb2
  go_upto_region 33 with fail
  clear t8 q8
  have hB4 := HB4.out
  clear HB4
  have HB5 := Lib.hid (show RfB g g6 g8 F V n c x { V with Gr := A, cg := m } (Rf.step c x 5 id) w (w2.setCell ⟨g8, 8, none⟩ (.slice A (Rf.with_ x.grads c.loss).length m)) from hB4)
  clear hB4
  generalize w2.setCell ⟨g8, 8, none⟩ (.slice A (Rf.with_ x.grads c.loss).length m) = w5 at *
  generalize Rf.step c x 5 id = y at *
  obtain ⟨V2, hB5⟩ : ∃ V2, RfB g g6 g8 F V n c x V2 y w w5 := ⟨_, HB5.out⟩
  clear HB5
  have HB5 := Lib.hid hB5
  clear hB5
  obtain ⟨t0, t1, t2, t3, t4, t5, t6, t7, t8, t9, t10, t11, t12⟩ := RfF.cells13 HB5.out.b8
  obtain ⟨q0, q1, q2, q3, q4, q5, q6, q7, q8, q9, q10, q11, q12⟩ := frozen13 HB5.out.b8
  go_wp2_with fail
  refine (ref18_sum F V2 n c y w5 HC.out HGy.out HB5.out.fixw HB5.out.aty).mono ?_
  rintro e w6 ⟨rfl, hl6⟩
  have HB6 := Lib.hid (HB5.out.to_later hl6)
  clear hl6 t0 q0 t1 q1 t2 q2 t3 q3 t4 q4 t5 q5 t6 q6 t7 q7 t8 q8 t9 q9 t10 q10 t11 q11 t12 q12
  have HFn := Lib.hid (show Rf.fin c y 5 id = { y with peak := if y.peak < Rf.sum c y then Rf.sum c y else y.peak, grads := y.grads } from rfl)
  generalize Rf.sum c y = sm at *
  by_cases hcap : c.cap < sm
  · have HE := Lib.hid (HD.out.trans (if_pos hcap))
    have d2 : decide (c.cap < sm) = true := by simpa using hcap
    clear hcap HD
    obtain ⟨y0, y1, y2, y3, y4, y5, y6, y7, y8, y9, y10, y11, y12⟩ := RfF.cells13 HB6.out.b3
    obtain ⟨z0, z1, z2, z3, z4, z5, z6, z7, z8, z9, z10, z11, z12⟩ := cells_zero13 HB6.out.b6
    obtain ⟨f0, f1, f2, f3, f4, f5, f6, f7, f8, f9, f10, f11, f12⟩ := frozen13 HB6.out.b6
    go_wp2_with fail
    refine bodyPost_ret (v := .tuple #[.agg (F.cells V n c x), .int .i64 25]) (by simp [results, Tryz.results13, go_sem, z0, z1, z2, z3, z4, z5, z6, z7, z8, z9, z10, z11, z12]; rfl) rfl ?_
    exact DoP18.of V HE.out (HV.out.later (HB6.out.at13 _ _ _ _ _ _ _ _ _ _ _ _ _).2) (HB6.out.at13 _ _ _ _ _ _ _ _ _ _ _ _ _).2 (fun _ _ q => q)
  have HD2 := Lib.hid (HD.out.trans (if_neg hcap))
  have d2 : decide (c.cap < sm) = false := by simpa using hcap
  clear hcap HD
  by_cases hpk : y.peak < sm
  · have d3 : decide (y.peak < sm) = true := by simpa using hpk
    have HE := Lib.hid (show Rf.do_ c x 5 id = ({ y with peak := sm }, 0) by rw [HD2.out, HFn.out, if_pos hpk])
    clear hpk HD2
    obtain ⟨-, -, -, -, -, y5, -⟩ := RfF.cells13 HB6.out.b3
    obtain ⟨-, -, -, -, -, -, -, -, -, -, -, -, t12⟩ := RfF.cells13 HB6.out.b8
    obtain ⟨-, -, -, -, -, -, -, -, -, -, -, -, q12⟩ := frozen13 HB6.out.b8
    go_upto_region 38 with fail
    have HB7 := Lib.hid (HB6.out.peak sm)
    clear y5 t12 q12
    generalize w6.setCell ⟨g8, 12, none⟩ (.int .i64 sm) = w7 at *
    obtain ⟨z0, z1, z2, z3, z4, z5, z6, z7, z8, z9, z10, z11, z12⟩ := cells_zero13 HB7.out.b6
    obtain ⟨f0, f1, f2, f3, f4, f5, f6, f7, f8, f9, f10, f11, f12⟩ := frozen13 HB7.out.b6
    obtain ⟨t0, t1, t2, t3, t4, t5, t6, t7, t8, t9, t10, t11, t12⟩ := RfF.cells13 HB7.out.b8
    obtain ⟨q0, q1, q2, q3, q4, q5, q6, q7, q8, q9, q10, q11, q12⟩ := frozen13 HB7.out.b8
    go_wp2_with fail
    refine bodyPost_ret (v := .tuple #[.agg (F.cells V2 n c { y with peak := sm }), .int .i64 0]) (by simp [results, Tryz.results13, go_sem, z0, z1, z2, z3, z4, z5, z6, z7, z8, z9, z10, z11, z12]; rfl) rfl ?_
    exact DoP18.of V2 HE.out (HB7.out.at13 _ _ _ _ _ _ _ _ _ _ _ _ _).1 (HB7.out.at13 _ _ _ _ _ _ _ _ _ _ _ _ _).2 HB7.out.off
  · have d3 : decide (y.peak < sm) = false := by simpa using hpk
    have HE := Lib.hid (show Rf.do_ c x 5 id = (y, 0) by rw [HD2.out, HFn.out, if_neg hpk])
    clear hpk HD2
    obtain ⟨-, -, -, -, -, y5, -⟩ := RfF.cells13 HB6.out.b3
    obtain ⟨-, -, -, -, -, -, -, -, -, -, -, -, t12⟩ := RfF.cells13 HB6.out.b8
    go_upto_region 38 with fail
    have HB7 := Lib.hid HB6.out
    clear y5 t12
    obtain ⟨z0, z1, z2, z3, z4, z5, z6, z7, z8, z9, z10, z11, z12⟩ := cells_zero13 HB7.out.b6
    obtain ⟨f0, f1, f2, f3, f4, f5, f6, f7, f8, f9, f10, f11, f12⟩ := frozen13 HB7.out.b6
    obtain ⟨t0, t1, t2, t3, t4, t5, t6, t7, t8, t9, t10, t11, t12⟩ := RfF.cells13 HB7.out.b8
    obtain ⟨q0, q1, q2, q3, q4, q5, q6, q7, q8, q9, q10, q11, q12⟩ := frozen13 HB7.out.b8
    go_wp2_with fail
    refine bodyPost_ret (v := .tuple #[.agg (F.cells V2 n c y), .int .i64 0]) (by simp [results, Tryz.results13, go_sem, z0, z1, z2, z3, z4, z5, z6, z7, z8, z9, z10, z11, z12]; rfl) rfl ?_
    exact DoP18.of V2 HE.out (HB7.out.at13 _ _ _ _ _ _ _ _ _ _ _ _ _).1 (HB7.out.at13 _ _ _ _ _ _ _ _ _ _ _ _ _).2 HB7.out.off
end Go.Proofs.YtmmgdgfpemkdnaaGreat
/- The reference of layer 18: Do: contract. Printed by gen/refdo2.py. -/
namespace Go.Proofs.YtmmgdgfpemkdnaaGreat
open Go.RowKit
set_option maxHeartbeats 32000000 in
set_option maxRecDepth 100000 in
theorem ref18_do6 (F : RfF) (V : RfV) (n : NetD) (c : CkN) (x : RfS) (w : World) (hC : RfC n c) (hG : Rf.GoodS c x) (hF : F.Fix n c w) (hV : V.At x w) (hdn : 0 ≤ x.done ∧ x.done ≤ 1000) (id : Int) (hr : Cd.right (6, id) = true) (hbig : ¬ (c.words.length : Int) ≤ id) :
    Calls Tryz.prog 13 #[.agg (F.cells V n c x), .int .i64 6, .int .i64 id] w (DoP18 F V n c x 6 id w) := by
  have hwl := hC.wl
  have hnl := hC.nl
  obtain ⟨hid0, -⟩ := Rf.right_k hr
  have hl0 : Later w ((w.alloc (.cells (F.cells V n c x) 49)).alloc (.cells zeros13 49)) := ((Later.refl w).alloc _).alloc _
  have hk3 : Blk ((w.alloc (.cells (F.cells V n c x) 49)).alloc (.cells zeros13 49)) w.heap.size 49 (F.cells V n c x) := (Blk.new _ _ _).alloc _
  have hk6 := Blk.new (w.alloc (.cells (F.cells V n c x) 49)) 49 zeros13
  rw [World.size_alloc] at hk6
  obtain ⟨y0, y1, y2, y3, y4, y5, y6, y7, y8, y9, y10, y11, y12⟩ := RfF.cells13 hk3
  obtain ⟨f0, f1, f2, f3, f4, f5, f6, f7, f8, f9, f10, f11, f12⟩ := frozen13 hk6
  have HB := Lib.hid (show Rf.do_ c x 6 id = if (c.words.length : Int) ≤ id then (x, 10) else if Rf.legal c x 6 id = false then (x, 24) else if c.cap < Rf.sum c (Rf.step c x 6 id) then (x, 25) else (Rf.fin c (Rf.step c x 6 id) 6 id, 0) from rfl)
  have d1 : decide ((n.nodes.length : Int) < id) = false := by simp; omega
  have hidl : id < c.words.length := by omega
  have HB2 := Lib.hid (HB.out.trans (if_neg hbig))
  clear hbig HB
  have hk8 := Blk.new ((w.alloc (.cells (F.cells V n c x) 49)).alloc (.cells zeros13 49)) 49 (F.cells V n c x)
  rw [World.size_alloc, World.size_alloc] at hk8
  have hB : RfB w.heap.size (w.heap.size + 1) (w.heap.size + 1 + 1) F V n c x V x w (((w.alloc (.cells (F.cells V n c x) 49)).alloc (.cells zeros13 49)).alloc (.cells (F.cells V n c x) 49)) :=
    ⟨Nat.le_refl _, by omega, by omega, hl0.alloc _, hk3.alloc _, hk6.alloc _, hk8, hF, hV, (RfRow.old hV.there (by omega)).later (hl0.alloc _), (RfRow.old hV.saved (by omega)).later (hl0.alloc _), (RfRow.old hV.grads (by omega)).later (hl0.alloc _), fun _ _ q => q⟩
  have hB : RfB w.heap.size (w.heap.size + 1) (w.heap.size + 1 + 1) F V n c x V x w (((w.alloc (.cells (F.cells V n c x) 49)).alloc (.cells zeros13 49)).alloc (.cells #[.slice F.A n.inn.length F.c, .slice F.N n.nodes.length F.d, .slice F.Wd c.words.length F.cw, .slice F.Or c.order.length F.co, .int .i64 c.loss, .int .i64 c.cap, .slice V.Th x.there.length V.ct, .slice V.Sa x.saved.length V.cs, .slice V.Gr x.grads.length V.cg, .int .i64 x.em, .int .i64 x.sd, .int .i64 x.done, .int .i64 x.peak] 49)) := hB
  obtain ⟨g, hg⟩ : ∃ g, w.heap.size = g := ⟨_, rfl⟩
  have hgw : w.heap.size ≤ g := Nat.le_of_eq hg
  unfold zeros13 at *
  have HC := Lib.hid hC
  have HG := Lib.hid hG
  have HF := Lib.hid hF
  have HV := Lib.hid hV
  have Hk3 := Lib.hid hk3
  have Hk6 := Lib.hid hk6
  have Hk8 := Lib.hid hk8
  have Hl0 := Lib.hid hl0
  have Hwl := Lib.hid hwl
  have HB := Lib.hid hB
  have Hg := Lib.hid hg
  clear hC hG hF hV hk3 hk6 hk8 hl0 hwl hB hg
  clear f0 f1 f2 f3 f4 f5 f6 f7 f8 f9 f10 f11 f12
  go_enter Tryz.func13, Tryz.ntmps13
  go_upto_region 4 with fail
  clear y0 y1 y2 y3 y4 y5 y6 y7 y8 y9 y10 y11 y12 Hk3 Hk6 Hk8 Hl0
  generalize (((w.alloc (.cells (F.cells V n c x) 49)).alloc (.cells #[.slice none 0 0, .slice none 0 0, .slice none 0 0, .slice none 0 0, .int .i64 0, .int .i64 0, .slice none 0 0, .slice none 0 0, .slice none 0 0, .int .i64 0, .int .i64 0, .int .i64 0, .int .i64 0] 49)).alloc (.cells #[.slice F.A n.inn.length F.c, .slice F.N n.nodes.length F.d, .slice F.Wd c.words.length F.cw, .slice F.Or c.order.length F.co, .int .i64 c.loss, .int .i64 c.cap, .slice V.Th x.there.length V.ct, .slice V.Sa x.saved.length V.cs, .slice V.Gr x.grads.length V.cg, .int .i64 x.em, .int .i64 x.sd, .int .i64 x.done, .int .i64 x.peak] 49)) = w1 at *
  rw [Hg.out] at HB ⊢
  clear Hg hB
  generalize g + 1 + 1 = g8 at *
  generalize g + 1 = g6 at *
  have hxt : x.there.length ≤ 1000 := by have := HG.out.there.len; have := Hwl.out; omega
  have hxs : x.saved.length ≤ 1000 := by have := HG.out.saved.len; have := Hwl.out; omega
  have hxg : x.grads.length ≤ 1000 := by have := HG.out.grads.len; have := Hwl.out; omega
  clear d1
  have HL := Lib.hid (show Rf.legal c x 6 id = (hasB x.grads id && (Rf.ready c x id && Rf.back c x id)) from rfl)
  have hz := Rf.right_pos hr (by decide) (by decide)
  obtain ⟨m, hm⟩ : ∃ m : Nat, id = ((m + 1 : Nat) : Int) := ⟨(id - 1).toNat, by omega⟩
  have hml : m < n.nodes.length := by have := Hwl.out; omega
  have HRd := Lib.hid (fun (W : World) (h : Later w W) => (show Calls Tryz.prog 36 #[.agg (F.cells V n c x), .int .i64 id] W fun e w' => e = .returned (.bool (Rf.ready c x id)) ∧ Later W w' from by rw [hm]; exact ref18_ready F V n c x W HC.out HG.out (HF.out.later h) (HV.out.later h) m hml))
  have hIr := HC.out.rng m hml
  have hIe := HC.out.ins m hml
  rw [← hm] at hIe
  have hil := (HC.out.ok.2.2 _ (List.getElem_mem hml)).2.2.1
  have HGy := Lib.hid (show Rf.GoodS c (Rf.step c x 6 id) from ⟨HG.out.there, HG.out.saved, Rf.Good.gr _ HG.out.grads (by rw [hIe]; exact hIr)⟩)
  have j1 : IntKind.i64.wrap (id - 1) = (m : Int) := by rw [IntWalk.i64_in _ (by omega)]; omega
  have hol := HC.out.ol
  have j2 : IntKind.i64.wrap ((c.order.length : Int) - 1) = (c.order.length : Int) - 1 := IntWalk.i64_in _ (by omega)
  have j3 : IntKind.i64.wrap ((c.order.length : Int) - 1 - x.done) = (c.order.length : Int) - 1 - x.done := IntWalk.i64_in _ (by omega)
  have HBk := Lib.hid (show Rf.back c x id = (decide (0 ≤ (c.order.length : Int) - 1 - x.done) && decide (c.order.getD ((c.order.length : Int) - 1 - x.done).toNat 0 = id)) from rfl)
  have HSt := Lib.hid (show Rf.step c x 6 id = { x with grads := Rf.gr x.grads n.nodes[m].ins, done := x.done + 1 } from by rw [← hIe]; rfl)
  have HIr := Lib.hid hIr
  have Hm := Lib.hid hm
  have HIe := Lib.hid hIe
  clear hIr hm hIe
  clear hz
  obtain ⟨-, -, -, y3, -, -, -, -, y8, -, -, y11, -⟩ := RfF.cells13 HB.out.b3
  go_upto_region 24 with fail
  go_wp2_with fail
  refine (ref18_has V.Gr V.cg x.grads id w1 (by omega) HB.out.atx.grads).mono ?_
  rintro e w2 ⟨rfl, rfl⟩
  generalize hasB x.grads id = b1 at *
  clear y3 y8 y11
  cases b1
  · have HE := Lib.hid (HB2.out.trans (if_pos (by rw [HL.out]; simp)))
    obtain ⟨y0, y1, y2, y3, y4, y5, y6, y7, y8, y9, y10, y11, y12⟩ := RfF.cells13 HB.out.b3
    obtain ⟨z0, z1, z2, z3, z4, z5, z6, z7, z8, z9, z10, z11, z12⟩ := cells_zero13 HB.out.b6
    obtain ⟨f0, f1, f2, f3, f4, f5, f6, f7, f8, f9, f10, f11, f12⟩ := frozen13 HB.out.b6
    go_wp2_with fail
    refine bodyPost_ret (v := .tuple #[.agg (F.cells V n c x), .int .i64 24]) (by simp [results, Tryz.results13, go_sem, z0, z1, z2, z3, z4, z5, z6, z7, z8, z9, z10, z11, z12]; rfl) rfl ?_
    exact DoP18.of V HE.out (HV.out.later (HB.out.at13 _ _ _ _ _ _ _ _ _ _ _ _ _).2) (HB.out.at13 _ _ _ _ _ _ _ _ _ _ _ _ _).2 (fun _ _ q => q)
  obtain ⟨y0, y1, y2, y3, y4, y5, y6, y7, y8, y9, y10, y11, y12⟩ := RfF.cells13 HB.out.b3
  go_wp2_with fail
  refine (HRd.out w1 HB.out.later).mono ?_
  rintro e w3 ⟨rfl, hl3⟩
  have HB3 := Lib.hid (HB.out.to_later hl3)
  clear hl3 y0 y1 y2 y3 y4 y5 y6 y7 y8 y9 y10 y11 y12
  generalize Rf.ready c x id = b3 at *
  cases b3
  · have HE := Lib.hid (HB2.out.trans (if_pos (by rw [HL.out]; simp)))
    obtain ⟨y0, y1, y2, y3, y4, y5, y6, y7, y8, y9, y10, y11, y12⟩ := RfF.cells13 HB3.out.b3
    obtain ⟨z0, z1, z2, z3, z4, z5, z6, z7, z8, z9, z10, z11, z12⟩ := cells_zero13 HB3.out.b6
    obtain ⟨f0, f1, f2, f3, f4, f5, f6, f7, f8, f9, f10, f11, f12⟩ := frozen13 HB3.out.b6
    go_wp2_with fail
    refine bodyPost_ret (v := .tuple #[.agg (F.cells V n c x), .int .i64 24]) (by simp [results, Tryz.results13, go_sem, z0, z1, z2, z3, z4, z5, z6, z7, z8, z9, z10, z11, z12]; rfl) rfl ?_
    exact DoP18.of V HE.out (HV.out.later (HB3.out.at13 _ _ _ _ _ _ _ _ _ _ _ _ _).2) (HB3.out.at13 _ _ _ _ _ _ _ _ _ _ _ _ _).2 (fun _ _ q => q)
  obtain ⟨aa, haa⟩ : ∃ aa : Int, (c.order.length : Int) - 1 - x.done = aa := ⟨_, rfl⟩
  rw [haa] at HBk j3 ⊢
  by_cases hat : aa < 0
  · have e1 : decide (aa < 0) = true := by simpa using hat
    have hb0 : Rf.back c x id = false := by rw [HBk.out, decide_eq_false (by omega)]; simp
    have HE := Lib.hid (HB2.out.trans (if_pos (by rw [HL.out, hb0]; simp)))
    clear hat hb0 haa
    obtain ⟨y0, y1, y2, y3, y4, y5, y6, y7, y8, y9, y10, y11, y12⟩ := RfF.cells13 HB3.out.b3
    obtain ⟨z0, z1, z2, z3, z4, z5, z6, z7, z8, z9, z10, z11, z12⟩ := cells_zero13 HB3.out.b6
    obtain ⟨f0, f1, f2, f3, f4, f5, f6, f7, f8, f9, f10, f11, f12⟩ := frozen13 HB3.out.b6
    go_wp2_with fail
    refine bodyPost_ret (v := .tuple #[.agg (F.cells V n c x), .int .i64 24]) (by simp [results, Tryz.results13, go_sem, z0, z1, z2, z3, z4, z5, z6, z7, z8, z9, z10, z11, z12]; rfl) rfl ?_
    exact DoP18.of V HE.out (HV.out.later (HB3.out.at13 _ _ _ _ _ _ _ _ _ _ _ _ _).2) (HB3.out.at13 _ _ _ _ _ _ _ _ _ _ _ _ _).2 (fun _ _ q => q)
  have e1 : decide (aa < 0) = false := by simpa using hat
  obtain ⟨j, rfl⟩ := Int.eq_ofNat_of_zero_le (show 0 ≤ aa by omega)
  have hjl : j < c.order.length := by omega
  obtain ⟨b5, o5, hOr, -, hc5⟩ := HB3.out.fixw.ord j hjl
  change _ = some (Value.int .i64 (c.order.getD j 0)) at hc5
  have hbk : Rf.back c x id = decide (c.order.getD j 0 = id) := by rw [HBk.out, decide_eq_true (show (0 : Int) ≤ (j : Int) by omega)]; simp
  generalize c.order.getD j 0 = oj at *
  have k1 : (0 : Int) ≤ (j : Int) := by omega
  have k2 : (j : Int) < (c.order.length : Int) := by omega
  by_cases ho : oj = id
  rotate_left
  · have e2 : (oj != id) = true := by simp [ho]
    have HE := Lib.hid (HB2.out.trans (if_pos (by rw [HL.out, hbk]; simp [ho])))
    clear ho hbk haa hat
    obtain ⟨-, -, -, y3, -⟩ := RfF.cells13 HB3.out.b3
    rw [hOr] at y3
    go_upto_region 25 with fail
    clear y3 hOr hc5
    obtain ⟨y0, y1, y2, y3, y4, y5, y6, y7, y8, y9, y10, y11, y12⟩ := RfF.cells13 HB3.out.b3
    obtain ⟨z0, z1, z2, z3, z4, z5, z6, z7, z8, z9, z10, z11, z12⟩ := cells_zero13 HB3.out.b6
    obtain ⟨f0, f1, f2, f3, f4, f5, f6, f7, f8, f9, f10, f11, f12⟩ := frozen13 HB3.out.b6
    go_wp2_with fail
    refine bodyPost_ret (v := .tuple #[.agg (F.cells V n c x), .int .i64 24]) (by simp [results, Tryz.results13, go_sem, z0, z1, z2, z3, z4, z5, z6, z7, z8, z9, z10, z11, z12]; rfl) rfl ?_
    exact DoP18.of V HE.out (HV.out.later (HB3.out.at13 _ _ _ _ _ _ _ _ _ _ _ _ _).2) (HB3.out.at13 _ _ _ _ _ _ _ _ _ _ _ _ _).2 (fun _ _ q => q)
  have e2 : (oj != id) = false := by simp [ho]
  have HD := Lib.hid (HB2.out.trans (if_neg (by rw [HL.out, hbk]; simp [ho])))
  clear ho hbk HL HB2 HRd HBk hat
  obtain ⟨-, -, -, y3, -⟩ := RfF.cells13 HB3.out.b3
  rw [hOr] at y3
  go_upto_region 26 with fail
  clear y3 e1 e2 hc5 hOr k1 k2 hjl haa
  obtain ⟨b, off, S, sc, J, ic, Q, qc, hNe, hNA, -, hI, -⟩ := HF.out.net.2.at_ hml
  generalize n.nodes[m] = v at *
  obtain ⟨⟨-, -, -, -, -, -, -, -, u8, -⟩, -, hIJ, -⟩ := hNA
  have u8 := HB3.out.later.cell u8
  obtain ⟨-, y1, -⟩ := RfF.cells13 HB3.out.b3
  rw [hNe] at y1
  have k3 : (0 : Int) ≤ (m : Int) := by omega
  have k4 : (m : Int) < (n.nodes.length : Int) := by omega
  have HGg := Lib.hid (fun j => Rf.Good.gr (v.ins.take j) HG.out.grads (fun i hi => HIr.out i (List.mem_of_mem_take hi)))
  have HIJ := Lib.hid hIJ
  clear hIJ
  clear hI hNe
  go_upto_region 28 with fail
  clear y1 u8
  go_loopw [11] (fun i wx => ∃ (j : Nat) (A : Option Addr) (mm : Nat), j ≤ v.ins.length ∧ i = .int .i64 (j : Int) ∧ RfB g g6 g8 F V n c x { V with Gr := A, cg := mm } { x with grads := Rf.gr x.grads (v.ins.take j) } w wx) (fun i _ => v.ins.length - (intOf i).toNat)
  case atStart => exact ⟨0, V.Gr, V.cg, Nat.zero_le _, rfl, HB3.out⟩
  case round =>
    obtain ⟨j, A, mm, hj, rfl, hBj⟩ := hrel
    by_cases hlt : j < v.ins.length
    · obtain ⟨b5, o5, rfl, -, hc5⟩ := HIJ.out.below hBj.later (Nat.le_refl _) j hlt
      rw [getD_at hlt] at hc5
      have hgj : Rf.gr x.grads (v.ins.take (j + 1)) = if v.ins[j] ≠ 0 then Rf.with_ (Rf.gr x.grads (v.ins.take j)) v.ins[j] else Rf.gr x.grads (v.ins.take j) := by
        unfold Rf.gr; rw [List.take_succ_eq_append_getElem hlt, List.foldl_append]; rfl
      have hgl : (Rf.gr x.grads (v.ins.take j)).length ≤ 1000 := by have := (HGg.out j).len; have := Hwl.out; omega
      have k5 : (j : Int) < (v.ins.length : Int) := by omega
      generalize v.ins[j] = u at *
      by_cases hu : u = 0
      · have e1 : (u != 0) = false := by simp [hu]
        have HJ := Lib.hid (show Rf.gr x.grads (v.ins.take (j + 1)) = Rf.gr x.grads (v.ins.take j) by rw [hgj, if_neg (by simp [hu])])
        have HBj := Lib.hid hBj
        clear hu hgj hBj
        go_wp2_with fail
        go_roundw
        case rel => exact ⟨j + 1, A, mm, by omega, by go_num, by rw [HJ.out]; exact HBj.out⟩
        case measure => simp [intOf]; omega
      · have e1 : (u != 0) = true := by simp [hu]
        have HJ := Lib.hid (show Rf.gr x.grads (v.ins.take (j + 1)) = Rf.with_ (Rf.gr x.grads (v.ins.take j)) u by rw [hgj, if_pos (by simpa using hu)])
        have HBj := Lib.hid hBj
        clear hu hgj
        generalize Rf.gr x.grads (v.ins.take j) = gj at *
        go_upto_region 31 with fail
        obtain ⟨-, -, -, -, -, -, -, -, t8, -⟩ := RfF.cells13 HBj.out.b8
        clear hBj e1
        change wr.cell? ⟨g8, 8, none⟩ = some (.slice A gj.length mm) at t8
        have hld : Later wr wr.drew := (Later.refl _).drew
        go_still_tail 6, (by kernel_rfl)
        change wpList _ _ _ _ _ wr.drew
        clear t8 hc5
        go_wp2_with fail
        refine (ref18_with A mm gj u wr.drew hgl ((HBj.out.gr.later hld).1)).mono ?_
        rintro e w2 ⟨A2, m2, rfl, hI2, hAb2, hb2⟩
        have hlr : Later wr.drew w2 := hb2
        obtain ⟨-, -, -, -, -, -, -, -, s0, -⟩ := RfF.cells13 ((HBj.out.to_later (hld.trans hlr)).b8)
        obtain ⟨-, -, -, -, -, -, -, -, q8, -⟩ := frozen13 ((HBj.out.to_later (hld.trans hlr)).b8)
        change w2.cell? ⟨g8, 8, none⟩ = some (.slice A gj.length mm) at s0
        have HB6 := Lib.hid (((HBj.out.to_later hld).to_later hlr).grads A2 m2 _ (RfRow.new hI2 hAb2 (HBj.out.to_later hld).b8.lt) (fun a e => Nat.lt_of_lt_of_le (HBj.out.to_later hld).b8.lt (hAb2 a e)))
        clear hI2 hAb2 hb2 hlr hld HBj
        go_wp2_with fail
        go_roundw
        case rel => exact ⟨j + 1, A2, m2, by omega, by go_num, by rw [HJ.out]; exact HB6.out⟩
        case measure => simp [intOf]; omega
    · obtain rfl : j = v.ins.length := by omega
      rw [List.take_length] at hBj
      have HBj := Lib.hid hBj
      clear hBj
      obtain ⟨-, -, -, -, -, -, -, -, -, -, -, t11, -⟩ := RfF.cells13 HBj.out.b8
      obtain ⟨-, -, -, -, -, -, -, -, -, -, -, q11, -⟩ := frozen13 HBj.out.b8
      change wr.cell? ⟨g8, 11, none⟩ = some (.int .i64 x.done) at t11
      have j4 : IntKind.i64.wrap (x.done + 1) = x.done + 1 := IntWalk.i64_in _ (by omega)
      go_upto_region 33 with fail
      clear t11 q11 j4
      have hB4 := HBj.out.done (x.done + 1)
      have HB5 := Lib.hid (show RfB g g6 g8 F V n c x { V with Gr := A, cg := mm } (Rf.step c x 6 id) w (wr.setCell ⟨g8, 11, none⟩ (.int .i64 (x.done + 1))) from by rw [HSt.out]; exact hB4)
      clear hB4
      generalize wr.setCell ⟨g8, 11, none⟩ (.int .i64 (x.done + 1)) = w5 at *
      generalize Rf.step c x 6 id = y at *
      obtain ⟨V2, hB5⟩ : ∃ V2, RfB g g6 g8 F V n c x V2 y w w5 := ⟨_, HB5.out⟩
      clear HB5 HBj
      have HB5 := Lib.hid hB5
      have HgL := Lib.hid (show y.grads.length ≤ 1000 by have := HGy.out.grads.len; have := Hwl.out; omega)
      clear hB5
      obtain ⟨t0, t1, t2, t3, t4, t5, t6, t7, t8, t9, t10, t11, t12⟩ := RfF.cells13 HB5.out.b8
      obtain ⟨q0, q1, q2, q3, q4, q5, q6, q7, q8, q9, q10, q11, q12⟩ := frozen13 HB5.out.b8
      go_wp2_with fail
      refine (ref18_sum F V2 n c y w5 HC.out HGy.out HB5.out.fixw HB5.out.aty).mono ?_
      rintro e w6 ⟨rfl, hl6⟩
      have HB6 := Lib.hid (HB5.out.to_later hl6)
      clear hl6 t0 q0 t1 q1 t2 q2 t3 q3 t4 q4 t5 q5 t6 q6 t7 q7 t8 q8 t9 q9 t10 q10 t11 q11 t12 q12
      have HFn := Lib.hid (show Rf.fin c y 6 id = { y with peak := if y.peak < Rf.sum c y then Rf.sum c y else y.peak, grads := Rf.without y.grads id } from rfl)
      generalize Rf.sum c y = sm at *
      by_cases hcap : c.cap < sm
      · have HE := Lib.hid (HD.out.trans (if_pos hcap))
        have d2 : decide (c.cap < sm) = true := by simpa using hcap
        clear hcap HD
        obtain ⟨y0, y1, y2, y3, y4, y5, y6, y7, y8, y9, y10, y11, y12⟩ := RfF.cells13 HB6.out.b3
        obtain ⟨z0, z1, z2, z3, z4, z5, z6, z7, z8, z9, z10, z11, z12⟩ := cells_zero13 HB6.out.b6
        obtain ⟨f0, f1, f2, f3, f4, f5, f6, f7, f8, f9, f10, f11, f12⟩ := frozen13 HB6.out.b6
        go_wp2_with fail
        refine bodyPost_ret (v := .tuple #[.agg (F.cells V n c x), .int .i64 25]) (by simp [results, Tryz.results13, go_sem, z0, z1, z2, z3, z4, z5, z6, z7, z8, z9, z10, z11, z12]; rfl) rfl ?_
        exact DoP18.of V HE.out (HV.out.later (HB6.out.at13 _ _ _ _ _ _ _ _ _ _ _ _ _).2) (HB6.out.at13 _ _ _ _ _ _ _ _ _ _ _ _ _).2 (fun _ _ q => q)
      have HD2 := Lib.hid (HD.out.trans (if_neg hcap))
      have d2 : decide (c.cap < sm) = false := by simpa using hcap
      clear hcap HD
      by_cases hpk : y.peak < sm
      · have d3 : decide (y.peak < sm) = true := by simpa using hpk
        have HE := Lib.hid (show Rf.do_ c x 6 id = ({ y with peak := sm, grads := Rf.without y.grads id }, 0) by rw [HD2.out, HFn.out, if_pos hpk])
        clear hpk HD2
        obtain ⟨-, -, -, -, -, y5, -⟩ := RfF.cells13 HB6.out.b3
        obtain ⟨-, -, -, -, -, -, -, -, -, -, -, -, t12⟩ := RfF.cells13 HB6.out.b8
        obtain ⟨-, -, -, -, -, -, -, -, -, -, -, -, q12⟩ := frozen13 HB6.out.b8
        go_upto_region 38 with fail
        have HB7 := Lib.hid (HB6.out.peak sm)
        clear y5 t12 q12
        generalize w6.setCell ⟨g8, 12, none⟩ (.int .i64 sm) = w7 at *
        obtain ⟨-, -, -, -, -, -, -, -, t8, -⟩ := RfF.cells13 HB7.out.b8
        obtain ⟨-, -, -, -, -, -, -, -, q8, -⟩ := frozen13 HB7.out.b8
        go_wp2_with fail
        refine (ref18_without V2.Gr V2.cg y.grads id w7 HgL.out HB7.out.gr.1).mono ?_
        rintro e w8 ⟨A, m, rfl, hI, hAb, hb8⟩
        have hB8 := HB7.out.to_later (show Later w7 w8 from hb8)
        have HB9 := Lib.hid (hB8.grads A m _ (RfRow.new hI hAb HB7.out.b8.lt) (fun a e => Nat.lt_of_lt_of_le HB7.out.b8.lt (hAb a e)))
        clear t8 q8
        obtain ⟨-, -, -, -, -, -, -, -, t8, -⟩ := RfF.cells13 hB8.b8
        obtain ⟨-, -, -, -, -, -, -, -, q8, -⟩ := frozen13 hB8.b8
        clear hB8 hI hAb hb8
        go_upto_region 40 with fail
        clear t8 q8
        generalize w8.setCell ⟨g8, 8, none⟩ (.slice A (Rf.without y.grads id).length m) = w9 at *
        obtain ⟨z0, z1, z2, z3, z4, z5, z6, z7, z8, z9, z10, z11, z12⟩ := cells_zero13 HB9.out.b6
        obtain ⟨f0, f1, f2, f3, f4, f5, f6, f7, f8, f9, f10, f11, f12⟩ := frozen13 HB9.out.b6
        obtain ⟨t0, t1, t2, t3, t4, t5, t6, t7, t8, t9, t10, t11, t12⟩ := RfF.cells13 HB9.out.b8
        obtain ⟨q0, q1, q2, q3, q4, q5, q6, q7, q8, q9, q10, q11, q12⟩ := frozen13 HB9.out.b8
        go_wp2_with fail
        refine bodyPost_ret (v := .tuple #[.agg (F.cells { V2 with Gr := A, cg := m } n c { y with peak := sm, grads := Rf.without y.grads id }), .int .i64 0]) (by simp [results, Tryz.results13, go_sem, z0, z1, z2, z3, z4, z5, z6, z7, z8, z9, z10, z11, z12]; rfl) rfl ?_
        exact DoP18.of { V2 with Gr := A, cg := m } HE.out (HB9.out.at13 _ _ _ _ _ _ _ _ _ _ _ _ _).1 (HB9.out.at13 _ _ _ _ _ _ _ _ _ _ _ _ _).2 HB9.out.off
      · have d3 : decide (y.peak < sm) = false := by simpa using hpk
        have HE := Lib.hid (show Rf.do_ c x 6 id = ({ y with grads := Rf.without y.grads id }, 0) by rw [HD2.out, HFn.out, if_neg hpk])
        clear hpk HD2
        obtain ⟨-, -, -, -, -, y5, -⟩ := RfF.cells13 HB6.out.b3
        obtain ⟨-, -, -, -, -, -, -, -, -, -, -, -, t12⟩ := RfF.cells13 HB6.out.b8
        go_upto_region 38 with fail
        have HB7 := Lib.hid HB6.out
        clear y5 t12
        obtain ⟨-, -, -, -, -, -, -, -, t8, -⟩ := RfF.cells13 HB7.out.b8
        obtain ⟨-, -, -, -, -, -, -, -, q8, -⟩ := frozen13 HB7.out.b8
        go_wp2_with fail
        refine (ref18_without V2.Gr V2.cg y.grads id w6 HgL.out HB7.out.gr.1).mono ?_
        rintro e w8 ⟨A, m, rfl, hI, hAb, hb8⟩
        have hB8 := HB7.out.to_later (show Later w6 w8 from hb8)
        have HB9 := Lib.hid (hB8.grads A m _ (RfRow.new hI hAb HB7.out.b8.lt) (fun a e => Nat.lt_of_lt_of_le HB7.out.b8.lt (hAb a e)))
        clear t8 q8
        obtain ⟨-, -, -, -, -, -, -, -, t8, -⟩ := RfF.cells13 hB8.b8
        obtain ⟨-, -, -, -, -, -, -, -, q8, -⟩ := frozen13 hB8.b8
        clear hB8 hI hAb hb8
        go_upto_region 40 with fail
        clear t8 q8
        generalize w8.setCell ⟨g8, 8, none⟩ (.slice A (Rf.without y.grads id).length m) = w9 at *
        obtain ⟨z0, z1, z2, z3, z4, z5, z6, z7, z8, z9, z10, z11, z12⟩ := cells_zero13 HB9.out.b6
        obtain ⟨f0, f1, f2, f3, f4, f5, f6, f7, f8, f9, f10, f11, f12⟩ := frozen13 HB9.out.b6
        obtain ⟨t0, t1, t2, t3, t4, t5, t6, t7, t8, t9, t10, t11, t12⟩ := RfF.cells13 HB9.out.b8
        obtain ⟨q0, q1, q2, q3, q4, q5, q6, q7, q8, q9, q10, q11, q12⟩ := frozen13 HB9.out.b8
        go_wp2_with fail
        refine bodyPost_ret (v := .tuple #[.agg (F.cells { V2 with Gr := A, cg := m } n c { y with grads := Rf.without y.grads id }), .int .i64 0]) (by simp [results, Tryz.results13, go_sem, z0, z1, z2, z3, z4, z5, z6, z7, z8, z9, z10, z11, z12]; rfl) rfl ?_
        exact DoP18.of { V2 with Gr := A, cg := m } HE.out (HB9.out.at13 _ _ _ _ _ _ _ _ _ _ _ _ _).1 (HB9.out.at13 _ _ _ _ _ _ _ _ _ _ _ _ _).2 HB9.out.off
end Go.Proofs.YtmmgdgfpemkdnaaGreat
/- The reference of layer 18: Do: contract. -/
namespace Go.Proofs.YtmmgdgfpemkdnaaGreat
open Go.RowKit
theorem ref18_do (F : RfF) (V : RfV) (n : NetD) (c : CkN) (x : RfS) (w : World) (hC : RfC n c) (hG : Rf.GoodS c x) (hF : F.Fix n c w) (hV : V.At x w) (hdn : 0 ≤ x.done ∧ x.done ≤ 1000) (k id : Int) (hr : Cd.right (k, id) = true) :
    Calls Tryz.prog 13 #[.agg (F.cells V n c x), .int .i64 k, .int .i64 id] w (DoP18 F V n c x k id w) := by
  by_cases hbig : (c.words.length : Int) ≤ id
  · exact ref18_do0 F V n c x w hC hG hF hV hdn k id hr hbig
  · rcases (Rf.right_k hr).2 with rfl | rfl | rfl | rfl | rfl | rfl
    · exact ref18_do1 F V n c x w hC hG hF hV hdn id hr hbig
    · exact ref18_do2 F V n c x w hC hG hF hV hdn id hr hbig
    · exact ref18_do3 F V n c x w hC hG hF hV hdn id hr hbig
    · exact ref18_do4 F V n c x w hC hG hF hV hdn id hr hbig
    · exact ref18_do5 F V n c x w hC hG hF hV hdn id hr hbig
    · exact ref18_do6 F V n c x w hC hG hF hV hdn id hr hbig
end Go.Proofs.YtmmgdgfpemkdnaaGreat
/- Layer 11 (net): Params, and what the statements ask of users: contracts. -/
namespace Go.Proofs.YtmmgdgfpemkdnaaGreat
open Go.RowKit
/-- These values are shapes, each in a block of its own. -/
def PList (w : World) (vs : List Value) (ss : List (List Int)) : Prop :=
  vs.length = ss.length ∧ ∀ j (hj : j < ss.length), ∃ h, vs[j]? = some (.slice (some ⟨h, 0, none⟩) ss[j].length ss[j].length) ∧ Blk w h 3 (ss[j].map (Value.int .i64)).toArray
theorem PList.nil (w : World) : PList w [] [] := ⟨rfl, fun j hj => absurd hj (by simp)⟩
theorem PList.append {w : World} {vs vs' : List Value} {ss ss' : List (List Int)} (h : PList w vs ss) (h' : PList w vs' ss') : PList w (vs ++ vs') (ss ++ ss') := by
  refine ⟨by simp [h.1, h'.1], fun j hj => ?_⟩
  by_cases hl : j < ss.length
  · obtain ⟨g, e, hb⟩ := h.2 j hl
    have e2 : (ss ++ ss')[j] = ss[j] := by simp [hl]
    rw [e2]
    exact ⟨g, by rw [List.getElem?_append_left (by rw [h.1]; exact hl)]; exact e, hb⟩
  · have hl2 : j - ss.length < ss'.length := by simp at hj; omega
    obtain ⟨g, e, hb⟩ := h'.2 (j - ss.length) hl2
    have e2 : (ss ++ ss')[j] = ss'[j - ss.length] := by rw [List.getElem_append_right (by omega)]
    rw [e2]
    exact ⟨g, by rw [List.getElem?_append_right (by rw [h.1]; omega), h.1]; exact e, hb⟩
theorem PList.keep {w w' : World} {vs : List Value} {ss : List (List Int)} {T : TypeId} (h : PList w vs ss) (hT : 3 ≠ T) (hk : Keep T w w') : PList w' vs ss :=
  ⟨h.1, fun j hj => by obtain ⟨g, e, hb⟩ := h.2 j hj; exact ⟨g, e, hb.keep hT hk⟩⟩
theorem PList.one {w : World} {vs : List Value} {ss : List (List Int)} (h : PList w vs ss) : ∀ u ∈ vs, u.oneCell' = true := fun u hu => by
  obtain ⟨j, hj, rfl⟩ := List.getElem_of_mem hu
  obtain ⟨g, e, _⟩ := h.2 j (by rw [← h.1]; exact hj)
  rw [List.getElem?_eq_getElem hj] at e
  injection e with e
  rw [e]; rfl
theorem FRow.plist {B : Nat} {w : World} {g : Nat} {t : TypeId} {ss : List (List Int)} (h : FRow B w g t ss) : ∃ vs : List Value, Blk w g t vs.toArray ∧ PList w vs ss := by
  obtain ⟨_, hs, hl, ⟨vs, hvl, hb, hv⟩, hr⟩ := h
  exact ⟨vs, hb, hvl, fun j hj => ⟨hs[j]'(by omega), hv j hj (by omega), (hr j hj (by omega)).2.2⟩⟩
theorem Keep.of_grown {T : TypeId} {w w' : World} {B s n : Nat} {v : Value} {xs : List Value} (h : w.ownsRow B T s v n xs) (hg : w.grownBy w' v.ownBlock) : Keep T w w' := by
  refine ⟨hg.size, fun b cs t hb ht => hg.block b (lt_of_block hb) fun e => ?_⟩
  rcases h.2 with ⟨rfl, _⟩ | ⟨g, cap, cur, rfl, _, hh, _⟩
  · simp [Value.ownBlock] at e
  · simp [Value.ownBlock] at e
    subst e
    rw [hh] at hb
    injection hb with hb
    injection hb with _ hb _
    exact ht hb.symm
theorem news_blk {w : World} {g : Nat} {t : TypeId} {vs : List Value} (h : Blk w g t vs.toArray) : ∀ (j : Nat) (u : Value), vs[j]? = some u → w.cell? (Addr.add ⟨g, 0, none⟩ j) = some u := fun j u hu => by
  have : (Addr.add ⟨g, 0, none⟩ j) = ⟨g, j, none⟩ := by by_cases e : j = 0 <;> simp [Addr.add, e]
  rw [this, h.cell]
  simpa using hu
theorem PList.shps {w : World} {vs : List Value} {ss : List (List Int)} {B n : Nat} {t : TypeId} {v : Value} (h : PList w vs ss) (hown : w.ownsRow B t 1 v n vs) (hs : ∀ s ∈ ss, s.length ≤ 1048576) :
    ∃ A c, v = .slice A ss.length c ∧ n = ss.length ∧ Shps w A ss ∧ ss.length ≤ c ∧ c ≤ 9223372036854775807 := by
  have hn : n = ss.length := by have := hown.1; have := h.1; omega
  subst hn
  rcases hown.2 with ⟨rfl, h0⟩ | ⟨g, cap, cur, rfl, hb, hh, r1, r2, r3, r4⟩
  · have : ss = [] := List.eq_nil_of_length_eq_zero h0
    subst this
    exact ⟨none, 0, rfl, rfl, Shps.nil, by simp, by omega⟩
  · refine ⟨_, cap, rfl, rfl, fun j hj => ?_, r1, by unfold maxLen at r2; omega⟩
    obtain ⟨b, e, hbk⟩ := h.2 j hj
    refine ⟨g, 0, _, _, rfl, lt_of_block hh, by rw [Nat.zero_add, hown.cellAt j (by omega)]; exact e, Ints.of_row fun i hi => ?_, Nat.le_refl _, by have := hs _ (List.getElem_mem hj); omega⟩
    rw [Nat.zero_add, hbk.cell i, getD_at hi]
    simp [hi]
def ParamsP (n : NetD) (w : World) (e : Ending) (w' : World) : Prop :=
  ∃ A c, e = .returned (.slice A (Nt.params n).length c) ∧ Shps w' A (Nt.params n) ∧ (Nt.params n).length ≤ c ∧ c ≤ 9223372036854775807 ∧ Below w.heap.size w w'
theorem params_len {n : NetD} (hok : n.ok) (k : Nat) : ((n.nodes.take k).flatMap (·.p)).length ≤ k * 1048576 := by
  induction k with
  | zero => simp
  | succ k ih =>
    by_cases hk : k < n.nodes.length
    · rw [List.take_succ_eq_append_getElem hk, List.flatMap_append, List.length_append]
      have h1 := (hok.2.2 _ (List.getElem_mem hk)).2.2.2.1
      have e : [n.nodes[k]].flatMap (·.p) = n.nodes[k].p := by simp
      rw [e]; omega
    · rw [List.take_of_length_le (by omega)]
      rw [List.take_of_length_le (by omega)] at ih
      exact Nat.le_trans ih (Nat.mul_le_mul_right _ (Nat.le_succ _))
theorem ids_at {n k : Nat} (hk : k < n) : (Kn.ids n)[k]? = some ((k : Int) + 1) := by
  induction n with
  | zero => omega
  | succ n ih =>
    rw [Kn.ids_succ]
    by_cases h : k < n
    · rw [List.getElem?_append_left (by rw [Kn.ids_length]; exact h)]; exact ih h
    · obtain rfl : k = n := by omega
      rw [List.getElem?_append_right (by rw [Kn.ids_length]; exact Nat.le_refl _), Kn.ids_length]; simp
theorem ids_mem {n : Nat} {u : Int} (h : u ∈ Kn.ids n) : 1 ≤ u ∧ u ≤ n := by
  obtain ⟨k, hk, rfl⟩ := List.getElem_of_mem h
  rw [Kn.ids_length] at hk
  have := ids_at hk
  rw [List.getElem?_eq_getElem (by rw [Kn.ids_length]; exact hk)] at this
  injection this with this
  rw [this]; omega
theorem ids_asc (n : Nat) : (Kn.ids n).Pairwise (· < ·) := by
  induction n with
  | zero => exact List.Pairwise.nil
  | succ n ih =>
    rw [Kn.ids_succ, List.pairwise_append]
    exact ⟨ih, List.pairwise_singleton _ _, fun a ha b hb => by have := (ids_mem ha).2; simp at hb; omega⟩
theorem users_mem {n : NetD} {id u : Int} (h : u ∈ Nt.users n id) : 1 ≤ u ∧ u ≤ n.nodes.length ∧ hasB (Nt.insF n.nodes u) id = true := by
  unfold Nt.users at h
  obtain ⟨h1, h2⟩ := List.mem_filter.1 h
  exact ⟨(ids_mem h1).1, (ids_mem h1).2, h2⟩
theorem users_up {n : NetD} {id : Int} {k : Nat} (hk : k < (Nt.users n id).length) : ((Nt.users n id).take k).getLastD 0 < (Nt.users n id)[k] := by
  have hp : (Nt.users n id).Pairwise (· < ·) := (ids_asc _).filter _
  by_cases h0 : k = 0
  · subst h0
    have := (users_mem (List.getElem_mem hk)).1
    simp; omega
  · rw [List.getLastD_eq_getLast?, List.getLast?_take, if_neg h0]
    rw [List.getElem?_eq_getElem (by omega)]
    simp only [Option.some_or, Option.getD_some]
    exact List.pairwise_iff_getElem.1 hp _ _ _ _ (by omega)
theorem params_at {n : NetD} {k m : Nat} (hk : k < n.nodes.length) (hm : m < n.nodes[k].p.length) : ((n.nodes.take k).flatMap (·.p)).length + m < (Nt.params n).length ∧ (Nt.params n)[((n.nodes.take k).flatMap (·.p)).length + m]? = some n.nodes[k].p[m] := by
  have e : Nt.params n = (n.nodes.take k).flatMap (·.p) ++ (n.nodes[k].p ++ (n.nodes.drop (k + 1)).flatMap (·.p)) := by
    unfold Nt.params
    conv => lhs; rw [← List.take_append_drop k n.nodes, List.drop_eq_getElem_cons hk, List.flatMap_append, List.flatMap_cons]
  rw [e]
  refine ⟨by simp only [List.length_append]; omega, ?_⟩
  rw [List.getElem?_append_right (by omega), Nat.add_sub_cancel_left, List.getElem?_append_left hm, List.getElem?_eq_getElem hm]
end Go.Proofs.YtmmgdgfpemkdnaaGreat
/- Layer 13 (price): Peak, Params: contracts. -/
namespace Go.Proofs.YtmmgdgfpemkdnaaGreat
open Go.RowKit
theorem add_small {l : List Int} (h : ∀ x ∈ l, 0 ≤ x ∧ x ≤ 65536) (hl : l.length ≤ 1000000) : Safe.add l = (Safe.sum l, 0) ∧ 0 ≤ Safe.sum l ∧ Safe.sum l ≤ 65536000000 := by
  have hs := Nt.sum_bd h
  have hb : (l.length : Int) * 65536 ≤ 1000000 * 65536 := Int.mul_le_mul_of_nonneg_right (by omega) (by omega)
  refine ⟨?_, hs.1, by omega⟩
  unfold Safe.add
  have hall : l.all Safe.ok = true := by
    rw [List.all_eq_true]
    intro x hx
    rw [Safe.ok_iff]
    have := h x hx; omega
  rw [if_pos hall, if_pos (by rw [Safe.top_eq]; omega)]
namespace Nt
def peak (n : NetD) : Int := if check n = 0 then Safe.sum (words n) + (Safe.sum (words n) - (words n).getD 0 0) else 0
def parW (n : NetD) : Int := if check n = 0 then Safe.sum ((params n).map Safe.prod) else 0
theorem words_sum {n : NetD} (h : check n = 0) (hn : n.nodes.length ≤ 200) : Safe.add (words n) = (Safe.sum (words n), 0) ∧ 0 ≤ Safe.sum (words n) ∧ Safe.sum (words n) ≤ 65536000000 ∧ 1 ≤ (words n).getD 0 0 ∧ (words n).getD 0 0 ≤ Safe.sum (words n) ∧ 0 < (words n).length := by
  have hl := words_len h
  obtain ⟨h1, h2, h3⟩ := add_small (l := words n) (fun x hx => by have := words_bd h x hx; omega) (by omega)
  have hp : ∀ x ∈ words n, 0 ≤ x ∧ x ≤ 65536 := fun x hx => by have := words_bd h x hx; omega
  have hb := words_bd h
  generalize words n = ws at *
  match ws, hl with
  | a :: r, _ =>
    have ha := hb a (by simp)
    have hr := sum_bd (l := r) (B := 65536) fun x hx => hp x (by simp [hx])
    have e : Safe.sum (a :: r) = a + Safe.sum r := rfl
    refine ⟨h1, h2, h3, ?_, ?_, by simp⟩
    · show 1 ≤ a; omega
    · show a ≤ _; omega
theorem par_len {n : NetD} (h : check n = 0) : ∀ k, k ≤ n.nodes.length → ((n.nodes.take k).flatMap (·.p)).length ≤ 2 * k := by
  intro k
  induction k with
  | zero => intro _; simp
  | succ k ih =>
    intro hk
    have hkl : k < n.nodes.length := by omega
    rw [List.take_succ_eq_append_getElem hkl, List.flatMap_append, List.length_append]
    have e : [n.nodes[k]].flatMap (·.p) = n.nodes[k].p := by simp
    have hs := shapes_node h hkl
    have hp := (Od.shape_good (o := n.nodes[k].op) (p := n.nodes[k].p) (x := pick (shapes n) n.nodes[k].ins) (by rw [hs])).2.1
    have h2 : Od.params n.nodes[k].op ≤ 2 := by
      unfold Od.params
      split
      · split
        · omega
        · split <;> omega
      · omega
    have := ih (by omega)
    rw [e]
    omega
theorem par_sum {n : NetD} (h : check n = 0) (hn : n.nodes.length ≤ 200) : Safe.add ((params n).map Safe.prod) = (Safe.sum ((params n).map Safe.prod), 0) ∧ 0 ≤ Safe.sum ((params n).map Safe.prod) ∧ Safe.sum ((params n).map Safe.prod) ≤ 65536000000 := by
  have hl := par_len h n.nodes.length (Nat.le_refl _)
  rw [List.take_length] at hl
  refine add_small (fun x hx => ?_) (by rw [List.length_map]; show (n.nodes.flatMap (·.p)).length ≤ _; omega)
  obtain ⟨s, hs, rfl⟩ := List.mem_map.1 hx
  have := Od.prod_right_ (params_right h s hs)
  omega
end Nt
theorem Blk.intV_ints {w : World} {g : Nat} {t : TypeId} {l : List Int} (h : Blk w g t (intV l).toArray) : Ints .i64 w (some ⟨g, 0, none⟩) l := Ints.of_row fun j hj => by
  rw [Nat.zero_add, h.cell]
  simp [intV, hj]
end Go.Proofs.YtmmgdgfpemkdnaaGreat
/- The reference of layer 11: Check: contract. -/
namespace Go.Proofs.YtmmgdgfpemkdnaaGreat
open Go.RowKit
def RefCheckP (n : NetD) (w : World) (e : Ending) (w' : World) : Prop :=
  Below w.heap.size w w' ∧ ((Nt.check n = 0 ∧ ∃ g, e = .returned (.tuple #[.slice (some ⟨g, 0, none⟩) (n.nodes.length + 1) (n.nodes.length + 1), .int .i64 (Nt.loss n.nodes), .int .i64 0]) ∧ w.heap.size ≤ g ∧ ShpRow w' g 22 (Nt.shapes n)) ∨
    (Nt.check n ≠ 0 ∧ e = .returned (.tuple #[.slice none 0 0, .int .i64 0, .int .i64 (Nt.check n)])))
theorem RefCheckP.err {n : NetD} {w w' : World} {k : Int} (h : Nt.check n = k) (hk : k ≠ 0) (hb : Below w.heap.size w w') : RefCheckP n w (.returned (.tuple #[.slice none 0 0, .int .i64 0, .int .i64 k])) w' :=
  ⟨hb, .inr (by rw [h]; exact ⟨hk, rfl⟩)⟩
theorem ShpRow.apart {w : World} {g : Nat} {t : TypeId} {sh : List (List Int)} {S : Option Addr} {s : List Int} (h : ShpRow w g t sh) (hI : Ints .i64 w S s) (hs : 0 < s.length) : ∀ a, S = some a → a.block ≠ g := by
  intro a ha hg
  obtain ⟨b, off, e, hl, hc⟩ := hI 0 hs
  rw [ha] at e
  injection e with e
  subst e
  simp at hg
  subst hg
  obtain ⟨vs, hl2, hk, hv⟩ := h
  rw [Nat.add_zero, hk.cell off] at hc
  by_cases ho : off < sh.length
  · obtain ⟨S', c', e1, _⟩ := hv off ho
    simp at hc
    rw [e1] at hc
    simp at hc
  · rw [Array.getElem?_eq_none (by simp; omega)] at hc
    cases hc
theorem Nt.count_used (ns : List NodeD) (id : Int) : (Nt.count ns id = 0) ↔ Nt.isUsed ns id = false := by
  unfold Nt.count Nt.isUsed
  rw [List.length_eq_zero_iff, List.filter_eq_nil_iff, List.any_eq_false]
set_option maxRecDepth 20000 in
set_option maxHeartbeats 16000000 in
theorem ref11_check (A N : Option Addr) (c d : Nat) (n : NetD) (w : World) (hok : n.ok) (hR : NetR w A N n) (hd : n.nodes.length ≤ d) (hc : n.inn.length ≤ c) (hcm : c ≤ 9223372036854775807) :
    Calls Tryz.prog 8 #[.agg #[.slice A n.inn.length c, .slice N n.nodes.length d]] w (RefCheckP n w) := by
  obtain ⟨i1, hj, hy0, hy1, hy2⟩ := info_parts shpsT_info
  have hnl := hok.2.1
  have hil := hok.1
  have hb0 : Below w.heap.size w (w.alloc (.cells #[.slice A n.inn.length c, .slice N n.nodes.length d] 43)) := (Below.refl _ _).alloc (Nat.le_refl _) _
  have hk0 := Blk.new w 43 #[.slice A n.inn.length c, .slice N n.nodes.length d]
  have hR0 := hR.below hb0 (Nat.le_refl _)
  by_cases hmany : n.nodes.length < 1 ∨ 512 < n.nodes.length
  · have HC := Lib.hid (Nt.check_many hmany)
    have HR := Lib.hid hR
    have Hok := Lib.hid hok
    have HR0 := Lib.hid hR0
    have Hk0 := Lib.hid hk0
    clear hR hok hR0 hk0
    rcases hmany with h | h
    · have d1 : decide ((n.nodes.length : Int) < 1) = true := by simp; omega
      go_enter Tryz.func8, Tryz.ntmps8
      go_wp2_with fail
      go_ret3
      exact RefCheckP.err HC.out (by omega) hb0
    · have d1 : decide ((n.nodes.length : Int) < 1) = false := by simp; omega
      have d2 : decide ((512 : Int) < (n.nodes.length : Int)) = true := by simp; omega
      go_enter Tryz.func8, Tryz.ntmps8
      go_wp2_with fail
      go_ret3
      exact RefCheckP.err HC.out (by omega) hb0
  · have d1 : decide ((n.nodes.length : Int) < 1) = false := by simp; omega
    have d2 : decide ((512 : Int) < (n.nodes.length : Int)) = false := by simp; omega
    have h512 : n.nodes.length ≤ 512 := by omega
    have hone : 1 ≤ n.nodes.length := by omega
    have HR := Lib.hid hR
    have Hok := Lib.hid hok
    have HR0 := Lib.hid hR0
    have Hk0 := Lib.hid hk0
    have Hmany := Lib.hid hmany
    clear hR hok hR0 hk0 hmany
    go_enter Tryz.func8, Tryz.ntmps8
    go_wp2_with fail
    have hx := Hk0.out
    generalize w.alloc (.cells #[.slice A n.inn.length c, .slice N n.nodes.length d] 43) = w1 at *
    have hbox := Hk0.out
    refine (ref03_right A c n.inn _ (by omega) HR0.out.1).mono ?_
    rintro e w2 ⟨rfl, rfl⟩
    have x1 : w1.cell? ⟨w.heap.size, 1, none⟩ = some (.slice N n.nodes.length d) := by rw [hbox.cell]; rfl
    clear d1 d2 hx
    by_cases hin : Sh.right n.inn = true
    rotate_left
    · have hin' : Sh.right n.inn = false := by simpa using hin
      have HC := Lib.hid (Nt.check_in Hmany.out hin')
      rw [hin']
      have Hbox := Lib.hid hbox
      clear hbox
      clear hin hin'
      go_wp2_with fail
      go_ret3
      exact RefCheckP.err HC.out (by omega) hb0
    · have Hin := Lib.hid hin
      rw [hin]
      have Hbox := Lib.hid hbox
      clear hbox
      clear hin
      go_wp2_with fail
      clear x1 HR0 Hk0
      go_loopw [5] (fun i wr => ∃ k : Nat, k ≤ n.nodes.length ∧ i = .int .i64 k ∧ Blk wr w.heap.size 43 #[.slice A n.inn.length c, .slice N n.nodes.length d] ∧ Below w.heap.size w wr ∧ lookBad n k) (fun i _ => n.nodes.length - (intOf i).toNat)
      case atStart => exact ⟨0, Nat.zero_le _, rfl, Hbox.out, hb0, fun j hj h => by omega⟩
      case round =>
        clear Hbox hb0
        obtain ⟨k, hk, rfl, hbox, hbw, hbad⟩ := hrel
        have hsl := hbox.lt
        have x1 : wr.cell? ⟨w.heap.size, 1, none⟩ = some (.slice N n.nodes.length d) := by rw [hbox.cell]; rfl
        by_cases hlt : k < n.nodes.length
        · obtain ⟨b, off, S, sc, J, ic, Q, qc, rfl, hNA, -, hI, -⟩ := HR.out.2.at_ hlt
          have hnok := Hok.out.2.2 _ (List.getElem_mem hlt)
          have hb21 := fun h => Nt.bads_op (n := n.nodes.length) hlt hbad h
          have hb11 := fun h m (hm : m < n.nodes[k].ins.length) h2 => Nt.bads_in (n := n.nodes.length) hlt hbad h (m := m) hm h2
          have hnext : Od.right n.nodes[k].op = true → n.nodes[k].ins.all (fun i => decide (0 ≤ i ∧ i ≤ n.nodes.length)) = true → lookBad n (k + 1) := fun h1 h2 j hj hjk => by
            by_cases e : j = k
            · subst e; exact ⟨h1, h2⟩
            · exact hbad j hj (by omega)
          have hil := hnok.2.2.1
          have hsl2 := hnok.2.1
          generalize n.nodes[k] = v at *
          have hNw := hNA.below hbw
          obtain ⟨⟨y0, y1, y2, y3, y4, y5, y6, y7, y8, y9⟩, -⟩ := hNA.below hbw
          have hcall := ref10_right v.op S sc wr (by omega)
          rw [Od.ref_right] at hcall
          have Hbox := Lib.hid hbox
          have HNA := Lib.hid hNA
          have Hnok := Lib.hid hnok
          have Hb21 := Lib.hid hb21
          have Hb11 := Lib.hid hb11
          have Hnext := Lib.hid hnext
          have HNw := Lib.hid hNw
          have Hbad := Lib.hid hbad
          have Hcall := Lib.hid hcall
          clear hbox hNA hnok hb21 hb11 hnext hNw hbad hcall
          go_wp2_with fail
          refine (Hcall.out).mono ?_
          rintro e w2 ⟨rfl, hb2⟩
          have hbx2 := hbw.trans (hb2.mono hbw.size)
          have hbox2 := Hbox.out.below hb2 hsl
          clear x1
          have x1 : w2.cell? ⟨w.heap.size, 1, none⟩ = some (.slice (some ⟨b, off, none⟩) n.nodes.length d) := by rw [hbox2.cell]; rfl
          have hN2 := HNw.out.below hb2
          obtain ⟨⟨-, -, -, -, -, -, -, -, z8, -⟩, -, hIJ, -⟩ := hN2
          clear y0 y1 y2 y3 y4 y5 y6 y7 y8 y9 Hbox Hcall
          by_cases hor : Od.right v.op = true
          rotate_left
          · have hor' : Od.right v.op = false := by simpa using hor
            have hc := Hb21.out hor'
            have HC := Lib.hid ((Nt.check_bads Hmany.out Hin.out (by rw [hc]; omega)).trans hc)
            rw [hor']
            have Hbox2 := Lib.hid hbox2
            have HIJ := Lib.hid hIJ
            clear hbox2 hIJ
            clear hor hc hor'
            go_wp2_with fail
            go_ret3
            exact RefCheckP.err HC.out (by omega) hbx2
          · have Hor := Lib.hid hor
            rw [hor]
            have Hbox2 := Lib.hid hbox2
            have HIJ := Lib.hid hIJ
            clear hbox2 hIJ
            clear hor
            go_wp2_with fail
            go_loopw [6] (fun i wx => ∃ m q : Nat, m ≤ v.ins.length ∧ i = .int .i64 m ∧ (∀ j (hj : j < v.ins.length), j < m → 0 ≤ v.ins[j] ∧ v.ins[j] ≤ n.nodes.length) ∧ wx = w2.drewN q) (fun i _ => v.ins.length - (intOf i).toNat)
            case atStart => exact ⟨0, 0, Nat.zero_le _, rfl, (fun j hj h => by omega), rfl⟩
            case round =>
              obtain ⟨m, q, hm, rfl, hall, rfl⟩ := hrel
              by_cases hlm : m < v.ins.length
              · obtain ⟨b1, off1, rfl, -, hc⟩ := HIJ.out m hlm
                rw [getD_at hlm] at hc
                have hbd := Hb11.out Hor.out m hlm
                have hnx : (0 ≤ v.ins[m] ∧ v.ins[m] ≤ n.nodes.length) → ∀ j (hj : j < v.ins.length), j < m + 1 → 0 ≤ v.ins[j] ∧ v.ins[j] ≤ n.nodes.length := fun h j hj hjm => by
                  by_cases e : j = m
                  · subst e; exact h
                  · exact hall j hj (by omega)
                generalize v.ins[m] = u at *
                have m0 : (0 : Int) ≤ (m : Int) := by omega
                have m1 : (m : Int) < (v.ins.length : Int) := by omega
                have k0 : (0 : Int) ≤ (k : Int) := by omega
                have k1 : (k : Int) < (n.nodes.length : Int) := by omega
                by_cases hu : 0 ≤ u ∧ u ≤ n.nodes.length
                · have HN := Lib.hid (hnx hu)
                  have e1 : decide (u < 0) = false := by simp; omega
                  have e2 : decide ((n.nodes.length : Int) < u) = false := by simp; omega
                  clear hu hbd
                  have Hnx := Lib.hid hnx
                  have Hall := Lib.hid hall
                  clear hnx hall
                  go_wp2_with fail
                  go_quiet (fail)
                  go_wp2_with fail
                  go_roundw
                  case rel => exact ⟨m + 1, _, by omega, by go_num, HN.out, by first | rfl | exact World.drewN_drewN _ _ _⟩
                  case measure => simp [intOf]; omega
                · have hc2 := hbd hu
                  have HC := Lib.hid ((Nt.check_bads Hmany.out Hin.out (by rw [hc2]; omega)).trans hc2)
                  clear hc2 hbd
                  have Hnx := Lib.hid hnx
                  have Hall := Lib.hid hall
                  clear hnx hall
                  by_cases hneg : u < 0
                  · have e1 : decide (u < 0) = true := by simpa using hneg
                    clear hu
                    go_wp2_with fail
                    go_quiet (fail)
                    go_wp2_with fail
                    go_ret3
                    exact RefCheckP.err HC.out (by omega) (by first | exact Bdrawn2 hbx2 _ _ | exact Bdrawn hbx2 _)
                  · have e1 : decide (u < 0) = false := by simpa using hneg
                    have e2 : decide ((n.nodes.length : Int) < u) = true := by simp; omega
                    clear hu
                    go_wp2_with fail
                    go_quiet (fail)
                    go_wp2_with fail
                    go_ret3
                    exact RefCheckP.err HC.out (by omega) (by first | exact Bdrawn2 hbx2 _ _ | exact Bdrawn hbx2 _)
              · obtain rfl : m = v.ins.length := by omega
                have HN := Lib.hid (Hnext.out Hor.out (List.all_eq_true.2 fun i hi => by obtain ⟨j, hj, rfl⟩ := List.getElem_of_mem hi; simpa using hall j hj hj))
                have Hall := Lib.hid hall
                clear hall
                go_wp2_with fail
                go_roundw
                case rel => exact ⟨k + 1, by omega, by go_num, Hbox2.out.drewN q, Bdrawn hbx2 q, HN.out⟩
                case measure => simp [intOf]; omega
        · obtain rfl : k = n.nodes.length := by omega
          have hb0 : Nt.bads n.nodes.length n.nodes = 0 := Nt.bads_none hbad
          have hins : ∀ v ∈ n.nodes, ∀ i ∈ v.ins, 0 ≤ i ∧ i ≤ n.nodes.length := fun v hv => (Nt.bads_all hb0 v hv).2
          have hrop : ∀ v ∈ n.nodes, Od.right v.op = true := fun v hv => (Nt.bads_all hb0 v hv).1
          have x0 : wr.cell? ⟨w.heap.size, 0, none⟩ = some (.slice A n.inn.length c) := by rw [hbox.cell]; rfl
          have Hbad := Lib.hid hbad
          have Hbox := Lib.hid hbox
          have Hb0 := Lib.hid hb0
          have Hins := Lib.hid hins
          have Hrop := Lib.hid hrop
          clear hbad hbox hb0 hins hrop
          go_wp2_with fail
          refine (ref11_order A N c d n _ Hok.out (HR.out.below hbw (Nat.le_refl _))).mono ?_
          rintro e w2 ⟨O, oc, rfl, hO, hoc, hoc2, hb2⟩
          have hbw2 := hbw.trans (hb2.mono hbw.size)
          have hbox2 := Hbox.out.below hb2 Hbox.out.lt
          have hw2l : w.heap.size < w2.heap.size := hbox2.lt
          clear x0 x1
          have x0 : w2.cell? ⟨w.heap.size, 0, none⟩ = some (.slice A n.inn.length c) := by rw [hbox2.cell]; rfl
          have x1 : w2.cell? ⟨w.heap.size, 1, none⟩ = some (.slice N n.nodes.length d) := by rw [hbox2.cell]; rfl
          clear Hbox
          have hole : (Nt.sorted n.nodes).length ≤ n.nodes.length := Kn.order_len_le _ _
          by_cases hcy : (Nt.sorted n.nodes).length = n.nodes.length
          rotate_left
          · have HC := Lib.hid (Nt.check_cyc Hmany.out Hin.out Hb0.out hcy)
            have e1 : decide (((Nt.sorted n.nodes).length : Int) < (n.nodes.length : Int)) = true := by simp; omega
            have e2 : decide ((Nt.sorted n.nodes).length < n.nodes.length) = true := by simp; omega
            generalize Nt.sorted n.nodes = os at *
            have Hbox2 := Lib.hid hbox2
            have Hcy := Lib.hid hcy
            have HO := Lib.hid hO
            clear hbox2 hcy hO
            go_wp2_with fail
            go_ret3
            exact RefCheckP.err HC.out (by omega) hbw2
          · have hcheck := fun h5 => Nt.check_lay Hmany.out Hin.out Hb0.out hcy h5
            have hcheck6 := fun h5 h6 => Nt.check_loss Hmany.out Hin.out Hb0.out hcy h5 h6
            have hcheck7 := fun h5 h6 => Nt.check_last Hmany.out Hin.out Hb0.out hcy h5 h6
            have hgoodF := fun h5 : (Nt.lay n.nodes (Nt.start n) (Nt.sorted n.nodes)).2 = 0 => Nt.lay_good Hin.out (Nt.sorted n.nodes).length (Nat.le_refl _) (by rw [List.take_length]; exact h5)
            rw [List.take_length] at hgoodF
            have hfull : ∀ u, u ∈ Nt.sorted n.nodes ↔ 1 ≤ u ∧ u ≤ n.nodes.length := Kn.order_full (I := Nt.insF n.nodes) (n := n.nodes.length) hcy
            have hshp : (Nt.lay n.nodes (Nt.start n) (Nt.sorted n.nodes)).1 = Nt.shapes n := rfl
            have hrng : ∀ u ∈ Nt.sorted n.nodes, 1 ≤ u ∧ u ≤ n.nodes.length := Kn.order_rng _ _
            have hbeh : ∀ a b u, Nt.sorted n.nodes = a ++ u :: b → ∀ i ∈ Nt.insF n.nodes u, i = 0 ∨ i ∈ a := fun a b u h => Kn.order_behind _ _ h
            rw [hcy]
            obtain ⟨os, hos⟩ : ∃ os, Nt.sorted n.nodes = os := ⟨_, rfl⟩
            have hshort : ∀ k, k ≤ os.length → ∀ sh, Nt.lay n.nodes (Nt.start n) (os.take k) = (sh, 0) → Nt.Good (os.take k) sh ∧ sh.length = n.nodes.length + 1 := fun k hk sh h => by
              have := lay_short (n := n) Hin.out (k := k) (by rw [hos]; exact hk) (sh := sh) (by rw [hos]; exact h)
              rw [hos] at this
              exact this
            rw [hos] at hcheck hcheck6 hcheck7 hgoodF hfull hshp hO hcy hoc hole hrng hbeh
            rw [hcy] at hoc
            have hAb : ∀ a, A = some a → a.block < w.heap.size := fun a ha => by
              obtain ⟨b, off, e, hl, -⟩ := HR.out.1 0 (right_short Hin.out).1
              rw [ha] at e; injection e with e; subst e; exact hl
            have hInn := HR.out.1.below hbw2 (Nat.le_refl _)
            have e1 : IntKind.i64.wrap ((n.nodes.length : Int) + 1) = ((n.nodes.length + 1 : Nat) : Int) := by rw [IntWalk.i64_in _ (by omega)]; omega
            have Hcheck := Lib.hid hcheck
            have Hcheck6 := Lib.hid hcheck6
            have Hcheck7 := Lib.hid hcheck7
            have HgoodF := Lib.hid hgoodF
            have Hfull := Lib.hid hfull
            have Hshp := Lib.hid hshp
            have Hcy := Lib.hid hcy
            have Hos := Lib.hid hos
            have HO := Lib.hid hO
            have Hbox2 := Lib.hid hbox2
            have Hrng := Lib.hid hrng
            have Hbeh := Lib.hid hbeh
            have Hshort := Lib.hid hshort
            have HAb := Lib.hid hAb
            have HInn := Lib.hid hInn
            clear hcheck hcheck6 hcheck7 hgoodF hfull hshp hcy hos hO hbox2 hrng hbeh hshort hAb hInn
            go_wp2_with (at_make; refine wpList_make_full _ rfl _ _ 38 rfl w2.heap.size 22 i1 (.slice none 0 0) 1 Tryz.underlying38 hj hy0 hy1 _ _ _ _ (n.nodes.length + 1) rfl rfl (by first | rfl | simp | (go_simp; rfl)) (by first | rfl | simp | (go_simp; rfl)) ?b2 ?b3 ?b4 ?_)
            case b2 => rw [hy2]; omega
            case b3 => unfold maxLen; omega
            case b4 => exact Nat.le_refl _
            intro w3 hown hgrow
            have hblk := own_cur hown
            rw [made_one] at hblk
            obtain ⟨g, hg⟩ : ∃ g, w2.heap.size = g := ⟨_, rfl⟩
            have hrow : ShpRow w3 g 22 (List.replicate (n.nodes.length + 1) []) := by rw [← hg]; exact ShpRow.new (by simpa [Blk] using hblk)
            have hb3 : Below w2.heap.size w2 w3 := (Below.refl _ w2).grown hgrow (Nat.le_refl _) (by simp)
            have hbw3 := hbw2.trans (hb3.mono hbw2.size)
            have hbox3 := Hbox2.out.below hb3 hw2l
            have hrow0 := hrow.set_ (i := 0) (HInn.out.below hb3 (Nat.le_refl _)) hc hcm (fun a ha => by have := HAb.out a ha; omega)
            rw [show (List.replicate (n.nodes.length + 1) ([] : List Int)).set 0 n.inn = Nt.start n from rfl] at hrow0
            have hbox4 := hbox3.far (p := ⟨g, 0, none⟩) (by simp; omega) (.slice A n.inn.length c)
            have hbw4 := hbw3.setCell (p := ⟨g, 0, none⟩) (by simp; omega) (.slice A n.inn.length c)
            have hO4 := (HO.out.below hb3 (Nat.le_refl _))
            obtain ⟨S0, c0, z0, -⟩ := hrow.at_ (j := 0) (by simp)
            have f0 : w3.frozen? ⟨g, 0, none⟩ = false := by obtain ⟨vs, _, hk, _⟩ := hrow; exact hk.frozen 0
            have hOb : ∀ a, O = some a → a.block ≠ g := fun a ha => by
              obtain ⟨b, off, e, hl, -⟩ := HO.out 0 (by have := Hcy.out; omega)
              rw [ha] at e; injection e with e; subst e; simp; omega
            have hO5 := hO4.set_far (p := ⟨g, 0, none⟩) hOb (.slice A n.inn.length c)
            clear x0 x1
            have x0 : w3.cell? ⟨w.heap.size, 0, none⟩ = some (.slice A n.inn.length c) := by rw [hbox3.cell]; rfl
            have x1 : w3.cell? ⟨w.heap.size, 1, none⟩ = some (.slice N n.nodes.length d) := by rw [hbox3.cell]; rfl
            rw [hg]
            have hgw : w.heap.size < g := by omega
            have hgne : ¬ w.heap.size = g := by omega
            clear hblk hown hgrow hrow hO4 hbw2 hb2 hbw hg
            have Hrow0 := Lib.hid hrow0
            have Hbox3 := Lib.hid hbox3
            have Hbox4 := Lib.hid hbox4
            have HO5 := Lib.hid hO5
            have HOb := Lib.hid hOb
            clear hrow0 hbox3 hbox4 hO5 hOb
            clear HO HInn
            go_wp2_with fail
            clear z0 f0 x0 x1 hb3 hbw3
            go_loopw [9] (fun i wr => ∃ k : Nat, k ≤ os.length ∧ i = .int .i64 k ∧ Blk wr w.heap.size 43 #[.slice A n.inn.length c, .slice N n.nodes.length d] ∧ Below w.heap.size w wr ∧ Ints .i64 wr O os ∧ ∃ sh, Nt.lay n.nodes (Nt.start n) (os.take k) = (sh, 0) ∧ ShpRow wr g 22 sh) (fun i _ => os.length - (intOf i).toNat)
            case atStart => exact ⟨0, Nat.zero_le _, rfl, Hbox4.out, hbw4, HO5.out, Nt.start n, rfl, Hrow0.out⟩
            case round =>
              obtain ⟨k, hk, rfl, hbox, hbw, hO, sh, hlay, hrow⟩ := hrel
              clear Hrow0 Hbox3 Hbox4 HO5 hbw4
              obtain ⟨hgood, hshl⟩ := Hshort.out k hk sh hlay
              have x1 : wr.cell? ⟨w.heap.size, 1, none⟩ = some (.slice N n.nodes.length d) := by rw [hbox.cell]; rfl
              have hol := Hcy.out
              by_cases hlt : k < os.length
              · obtain ⟨b, off, rfl, -, hc⟩ := hO k hlt
                rw [getD_at hlt] at hc
                have hr := Hrng.out _ (List.getElem_mem hlt)
                have hsplit : os = os.take k ++ os[k] :: os.drop (k + 1) := by rw [← List.drop_eq_getElem_cons hlt, List.take_append_drop]
                have hbe := Hbeh.out _ _ _ hsplit
                obtain ⟨j, hj'⟩ : ∃ j : Nat, os[k] = (j : Int) + 1 := ⟨(os[k] - 1).toNat, by omega⟩
                have hjl : j < n.nodes.length := by omega
                have hlay' := fun h : (Nt.layStep n.nodes sh os[k]).2 = 0 => Nt.lay_snoc (id := os[k]) hlay h
                have hfail := fun h : (Nt.layStep n.nodes sh os[k]).2 ≠ 0 => Nt.lay_fail (b := os.drop (k + 1)) (id := os[k]) hlay h
                rw [← List.take_succ_eq_append_getElem hlt] at hlay'
                rw [← hsplit] at hfail
                have hst : Nt.layStep n.nodes sh os[k] = Od.shape n.nodes[j].op n.nodes[j].p (Nt.pick sh n.nodes[j].ins) := by unfold Nt.layStep; rw [hj', Nt.node_at hjl]
                have hiF : Nt.insF n.nodes os[k] = n.nodes[j].ins := by unfold Nt.insF; rw [hj', Nt.node_at hjl]
                rw [hst] at hlay' hfail
                rw [hiF] at hbe
                rw [hj'] at hc hlay'
                rw [show ((j : Int) + 1).toNat = j + 1 by omega] at hlay'
                have hnok := Hok.out.2.2 _ (List.getElem_mem hjl)
                have hrv := Hrop.out _ (List.getElem_mem hjl)
                have hinr := Hins.out _ (List.getElem_mem hjl)
                obtain ⟨b1, off1, S, sc, J, ic, Q, qc, rfl, hNA, hs1, hI1, hq1⟩ := HR.out.2.at_ hjl
                have hgr : ∀ i ∈ n.nodes[j].ins, 0 ≤ i ∧ i.toNat < sh.length ∧ Sh.right (sh.getD i.toNat []) = true := fun i hi => ⟨(hinr i hi).1, by have := hinr i hi; omega, hgood i (hbe i hi)⟩
                generalize n.nodes[j] = v at *
                have hNw := hNA.below hbw
                obtain ⟨⟨y0, y1, y2, y3, y4, y5, y6, y7, y8, y9⟩, -⟩ := hNA.below hbw
                have j1 : IntKind.i64.wrap ((j : Int) + 1 - 1) = (j : Int) := by rw [IntWalk.i64_in _ (by omega)]; omega
                have j2 : (j : Int) < n.nodes.length := by omega
                have j0 : (0 : Int) ≤ (j : Int) := by omega
                have k0 : (0 : Int) ≤ (k : Int) := by omega
                have k1 : (k : Int) < (n.nodes.length : Int) := by omega
                have j4 : (0 : Int) ≤ (j : Int) + 1 := by omega
                have j5 : IntKind.i64.wrap (j : Int) = (j : Int) := IntWalk.i64_in _ (by omega)
                have hcall : ∀ W : World, Ints .i64 W S v.op.s → Ints .i64 W J v.ins → Shps W Q v.p → Shps W (some ⟨g, 0, none⟩) sh → Calls Tryz.prog 31 #[.agg #[.int .i64 v.op.kind, .int .i64 v.op.k, .int .i64 v.op.width, .int .i64 v.op.step, .int .i64 v.op.side, .int .i64 v.op.frm, .int .i64 v.op.to, .slice S v.op.s.length sc, .slice J v.ins.length ic, .slice Q v.p.length qc], .slice (some ⟨g, 0, none⟩) (n.nodes.length + 1) (n.nodes.length + 1)] W (RefP (Od.shape v.op v.p (Nt.pick sh v.ins)) W) := fun W q1 q2 q3 q4 => by
                  rw [← hshl]
                  exact ref11_shape v S J Q sc ic qc g sh.length sh W hnok hrv hs1.1 hs1.2 q1 q2 q3 q4 hgr
                have hrgt := fun h : (Od.shape v.op v.p (Nt.pick sh v.ins)).2 = 0 => right_short (Od.shape_right h)
                generalize Od.shape v.op v.p (Nt.pick sh v.ins) = r at *
                have hcall2 := hcall
                have F1 := Lib.hid hNw.2.1
                have F2 := Lib.hid hNw.2.2.1
                have F3 := Lib.hid hNw.2.2.2
                have F4 := Lib.hid hrow.shps
                have HC1 := Lib.hid hcall
                have HT := Lib.hid hrgt
                have HL := Lib.hid hlay'
                have HFa := Lib.hid hfail
                clear hcall hcall2 hrgt hlay' hfail hNw hNA hgr hinr hnok hrv hst hiF hbe hsplit hj' hgood
                have Hbox := Lib.hid hbox
                have HO := Lib.hid hO
                have Hlay := Lib.hid hlay
                have Hrow := Lib.hid hrow
                clear hbox hO hlay hrow
                have kn : k < n.nodes.length := by omega
                go_wp2_with fail
                go_region_held3 (fun w' => w'.cell? ⟨w.heap.size, 1, none⟩ = some (.slice (some ⟨b1, off1, none⟩) n.nodes.length d) ∧ w'.cell? ⟨b, off + k, none⟩ = some (.int .i64 ((j : Int) + 1)) ∧ w'.cell? ⟨b1, off1 + j * 10, none⟩ = some (.int .i64 v.op.kind) ∧ w'.cell? ⟨b1, off1 + j * 10 + 1, none⟩ = some (.int .i64 v.op.k) ∧ w'.cell? ⟨b1, off1 + j * 10 + 2, none⟩ = some (.int .i64 v.op.width) ∧ w'.cell? ⟨b1, off1 + j * 10 + 3, none⟩ = some (.int .i64 v.op.step) ∧ w'.cell? ⟨b1, off1 + j * 10 + 4, none⟩ = some (.int .i64 v.op.side) ∧ w'.cell? ⟨b1, off1 + j * 10 + 5, none⟩ = some (.int .i64 v.op.frm) ∧ w'.cell? ⟨b1, off1 + j * 10 + 6, none⟩ = some (.int .i64 v.op.to) ∧ w'.cell? ⟨b1, off1 + j * 10 + 7, none⟩ = some (.slice S v.op.s.length sc) ∧ w'.cell? ⟨b1, off1 + j * 10 + 8, none⟩ = some (.slice J v.ins.length ic) ∧ w'.cell? ⟨b1, off1 + j * 10 + 9, none⟩ = some (.slice Q v.p.length qc)) (first | go_keep | (exact ⟨cell_below hb9 x1, cell_below hb9 hc, cell_below hb9 y0, cell_below hb9 y1, cell_below hb9 y2, cell_below hb9 y3, cell_below hb9 y4, cell_below hb9 y5, cell_below hb9 y6, cell_below hb9 y7, cell_below hb9 y8, cell_below hb9 y9⟩))
                  ((go_at_call 31; refine (HC1.out _ (by exact F1.out) (by exact F2.out) (by exact F3.out) (by exact F4.out)).mono ?_; rintro e w9 ⟨S9, c9, rfl, hI9, h91, h92, hb9⟩))
                have hb8 : Below wr.heap.size wr w9 := ⟨hb9.os, hb9.tape, hb9.output, hb9.size, hb9.block⟩
                have hbw9 := hbw.trans (hb8.mono hbw.size)
                clear y0 y1 y2 y3 y4 y5 y6 y7 y8 y9 hb9 x1 HC1 F1 F2 F3 F4
                by_cases hr2 : r.2 = 0
                · have q1 : (r.2 != 0) = false := by simp [hr2]
                  have hrow9 := Hrow.out.below hb8 (Nat.le_refl _)
                  have hbox9 := Hbox.out.below hb8 Hbox.out.lt
                  have hO9 := HO.out.below hb8 (Nat.le_refl _)
                  have hc9 := cell_below hb8 hc
                  have hj1 : j + 1 < sh.length := by omega
                  obtain ⟨Sm, cm, ym, -⟩ := hrow9.at_ hj1
                  have fm : w9.frozen? ⟨g, j + 1, none⟩ = false := by obtain ⟨vs, _, hk, _⟩ := hrow9; exact hk.frozen (j + 1)
                  have hset := hrow9.set_ (i := j + 1) hI9 h91 h92 (hrow9.apart hI9 (HT.out hr2).1)
                  have HS := Lib.hid hset
                  have HBX := Lib.hid (hbox9.far (p := ⟨g, j + 1, none⟩) hgne (.slice S9 r.1.length c9))
                  have hbw5 := hbw9.setCell (p := ⟨g, j + 1, none⟩) (by simp; omega) (.slice S9 r.1.length c9)
                  have HO5 := Lib.hid (hO9.set_far (p := ⟨g, j + 1, none⟩) HOb.out (.slice S9 r.1.length c9))
                  have HL2 := Lib.hid (HL.out hr2)
                  have j3 : ((j : Int) + 1) < ((n.nodes.length + 1 : Nat) : Int) := by omega
                  have j6 : ((j : Int) + 1).toNat = j + 1 := by omega
                  clear hset hrow9 hbox9 hO9 hr2 hc
                  have HI9 := Lib.hid hI9
                  clear hI9
                  go_wp2_with fail
                  go_roundw
                  case rel => exact ⟨k + 1, by omega, by go_num, HBX.out, hbw5, HO5.out, _, HL2.out, HS.out⟩
                  case measure => simp [intOf]; omega
                · have q1 : (r.2 != 0) = true := by simp [hr2]
                  have hck := Hcheck.out
                  rw [HFa.out hr2] at hck
                  have HC := Lib.hid (hck hr2)
                  have HR2 := Lib.hid hr2
                  have HI9 := Lib.hid hI9
                  clear hI9
                  clear hr2 hck
                  go_wp2_with fail
                  go_ret3
                  exact RefCheckP.err HC.out HR2.out hbw9
              · obtain rfl : k = os.length := by omega
                rw [List.take_length] at hlay
                have hc6 := fun h6 => Hcheck6.out (by rw [hlay]) h6
                have hc7 := fun h6 => Hcheck7.out (by rw [hlay]) h6
                have hg2 := HgoodF.out (by rw [hlay])
                have hsh := Hshp.out
                rw [hlay] at hg2 hsh
                have hsh : sh = Nt.shapes n := hsh
                subst hsh
                have hg2 : Nt.Good os (Nt.shapes n) := hg2
                have i2 : ¬ ((os.length : Int) < (n.nodes.length : Int)) := by omega
                have i3 : ¬ (os.length < n.nodes.length) := by omega
                clear hgood hk hlt
                have Hc6 := Lib.hid hc6
                have Hc7 := Lib.hid hc7
                have Hg2 := Lib.hid hg2
                have Hlay := Lib.hid hlay
                have Hrow := Lib.hid hrow
                have Hbox := Lib.hid hbox
                have HO := Lib.hid hO
                clear hc6 hc7 hg2 hlay hrow hbox hO
                have Hol := Lib.hid hol
                clear hol
                go_wp2_with fail
                clear x1
                obtain ⟨w5, rfl⟩ : ∃ w5, w5 = wr := ⟨wr, rfl⟩
                go_loopw [12, 13, 14] (fun l m i wx => ∃ k : Nat, k ≤ n.nodes.length + 1 ∧ i = .int .i64 k ∧ l = .int .i64 ((Nt.unusedTo n.nodes k).getLastD 0) ∧ m = .int .i64 ((Nt.unusedTo n.nodes k).length : Nat) ∧ Below w5.heap.size w5 wx) (fun _ _ i _ => n.nodes.length + 1 - (intOf i).toNat)
                case atStart => exact ⟨0, Nat.zero_le _, rfl, rfl, rfl, Below.refl _ _⟩
                case round =>
                  obtain ⟨k, hk, rfl, rfl, rfl, hbx⟩ := hrel
                  have hbox5 := Hbox.out.below hbx Hbox.out.lt
                  have hbwx := hbw.trans (hbx.mono hbw.size)
                  have x0 : wr.cell? ⟨w.heap.size, 0, none⟩ = some (.slice A n.inn.length c) := by rw [hbox5.cell]; rfl
                  have x1 : wr.cell? ⟨w.heap.size, 1, none⟩ = some (.slice N n.nodes.length d) := by rw [hbox5.cell]; rfl
                  have hul := Nt.unusedTo_len n.nodes k
                  by_cases hlt : k ≤ n.nodes.length
                  · have HS := Lib.hid (Nt.unusedTo_succ n.nodes k)
                    obtain ⟨L0, hL0⟩ : ∃ L0, (Nt.unusedTo n.nodes k).getLastD 0 = L0 := ⟨_, rfl⟩
                    obtain ⟨c0, hc0⟩ : ∃ c0, (Nt.unusedTo n.nodes k).length = c0 := ⟨_, rfl⟩
                    rw [hc0] at hul
                    rw [hL0, hc0]
                    have hcu := Nt.count_used n.nodes (k : Int)
                    have hcall := ref11_users A N c d n (k : Int) wr Hok.out (HR.out.below hbwx (Nat.le_refl _))
                    generalize Nt.count n.nodes (k : Int) = cn at *
                    have HL0 := Lib.hid hL0
                    have Hc0 := Lib.hid hc0
                    have Hcu := Lib.hid hcu
                    have Hcall := Lib.hid hcall
                    have Hbox5 := Lib.hid hbox5
                    clear hL0 hc0 hcu hcall hbox5
                    go_wp2_with fail
                    refine (Hcall.out).mono ?_
                    rintro e w6 ⟨rfl, hb6⟩
                    have hbx6 := hbx.trans (hb6.mono hbx.size)
                    clear x0 x1
                    by_cases hz : cn = 0
                    · have HU := Lib.hid (Hcu.out.1 hz)
                      have e1 : ((cn : Int) == 0) = true := by simp [hz]
                      have e2 : (cn == 0) = true := by simp [hz]
                      subst hz
                      go_wp2_with fail
                      go_roundw
                      case rel => exact ⟨k + 1, by omega, by go_num, by rw [HS.out, HU.out]; simp, by rw [HS.out, HU.out, if_neg (by simp), List.length_append, Hc0.out]; go_num, hbx6⟩
                      case measure => simp [intOf]; omega
                    · have HU := Lib.hid (show Nt.isUsed n.nodes (k : Int) = true by
                        cases h : Nt.isUsed n.nodes (k : Int)
                        · exact absurd (Hcu.out.2 h) hz
                        · rfl)
                      have e1 : ((cn : Int) == 0) = false := by simp; omega
                      have e2 : (cn == 0) = false := by simp; omega
                      clear hz
                      go_wp2_with fail
                      go_roundw
                      case rel => exact ⟨k + 1, by omega, by go_num, by rw [HS.out, HU.out, if_pos rfl, HL0.out], by rw [HS.out, HU.out, if_pos rfl, Hc0.out], hbx6⟩
                      case measure => simp [intOf]; omega
                  · obtain rfl : k = n.nodes.length + 1 := by omega
                    rw [Nt.unusedTo_all]
                    have i4 : ¬ (((n.nodes.length + 1 : Nat) : Int) ≤ (n.nodes.length : Int)) := by omega
                    have hl1 : (Nt.unused n.nodes).getLastD 0 = Nt.loss n.nodes := rfl
                    rw [hl1]
                    have hlok : Nt.lossOk n.nodes = decide ((Nt.unused n.nodes).length = 1 ∧ Nt.loss n.nodes ≠ 0) := rfl
                    rw [Nt.unusedTo_all] at hul
                    clear hl1
                    by_cases hu1 : (Nt.unused n.nodes).length = 1
                    rotate_left
                    · have HC := Lib.hid (Hc6.out (by rw [hlok]; simp [hu1]))
                      have e1 : (((Nt.unused n.nodes).length : Int) != 1) = true := by rw [bne_iff_ne]; omega
                      have e2 : ((Nt.unused n.nodes).length != 1) = true := by rw [bne_iff_ne]; omega
                      generalize (Nt.unused n.nodes).length = ul at *
                      have Hlok := Lib.hid hlok
                      clear hlok
                      clear hu1
                      go_wp2_with fail
                      go_ret3
                      exact RefCheckP.err HC.out (by omega) hbwx
                    · by_cases hl0 : Nt.loss n.nodes = 0
                      · have HC := Lib.hid (Hc6.out (by rw [hlok]; simp [hl0]))
                        rw [hu1, hl0]
                        clear hu1 hl0 hlok
                        go_wp2_with fail
                        go_ret3
                        exact RefCheckP.err HC.out (by omega) hbwx
                      · have hlo : Nt.lossOk n.nodes = true := by rw [hlok]; simp [hu1, hl0]
                        have hlm := (Nt.loss_mem hlo).2
                        have hch := Hc7.out hlo
                        obtain ⟨l, hl⟩ : ∃ l : Nat, Nt.loss n.nodes = (l : Int) := ⟨(Nt.loss n.nodes).toNat, by omega⟩
                        have Hl := Lib.hid hl
                        rw [hu1]
                        rw [hl] at hlm hch hl0 ⊢
                        rw [Int.toNat_natCast] at hch
                        have hll : l < (Nt.shapes n).length := by omega
                        have hgl := Hg2.out (l : Int) (.inr ((Hfull.out _).2 (by omega)))
                        rw [Int.toNat_natCast, gets_at hll] at hgl
                        rw [gets_at hll] at hch
                        have hrow5 := Hrow.out.below hbx (Nat.le_refl _)
                        obtain ⟨Sl, sc, hcS, hIS, hs1, hs2, -⟩ := hrow5.at_ hll
                        have hsz := ref03_size Sl sc _ wr hgl hIS
                        have e1 : ((l : Int) == 0) = false := by simp; omega
                        have e1' : (l == 0) = false := by simp; omega
                        have l0 : (0 : Int) ≤ (l : Int) := by omega
                        have l1 : (l : Int) < ((n.nodes.length + 1 : Nat) : Int) := by omega
                        generalize (Nt.shapes n)[l] = s at *
                        have Hrow5 := Lib.hid hrow5
                        have Hch := Lib.hid hch
                        have Hl := Lib.hid hl
                        have Hsz := Lib.hid hsz
                        have HIS := Lib.hid hIS
                        have Hgl := Lib.hid hgl
                        have Hlo := Lib.hid hlo
                        have Hlok := Lib.hid hlok
                        clear hrow5 hch hl hsz hIS hgl hlo hlok
                        clear hu1 hl0
                        go_wp2_with fail
                        refine (Hsz.out).mono ?_
                        rintro e w7 ⟨rfl, rfl⟩
                        by_cases hp : Safe.prod s = 1
                        · have HC := Lib.hid (show Nt.check n = 0 by rw [Hch.out, if_neg (by simp [hp])])
                          have e2 : (Safe.prod s != 1) = false := by simp [hp]
                          clear hp
                          go_wp2_with fail
                          go_ret3
                          exact ⟨hbwx, .inl ⟨HC.out, g, by rw [Hl.out]; rfl, by omega, Hrow5.out⟩⟩
                        · have HC := Lib.hid (show Nt.check n = 23 by rw [Hch.out, if_pos hp])
                          have e2 : (Safe.prod s != 1) = true := by simp [hp]
                          clear hp
                          go_wp2_with fail
                          go_ret3
                          exact RefCheckP.err HC.out (by omega) hbwx
end Go.Proofs.YtmmgdgfpemkdnaaGreat
