/- The statement Rows.PricePartsUptoSaid is proved: for every input the law 'athanorlaw13.PriceParts' returns true, and each argument reads afterwards as it read before. Conditions: those of the row, no others. -/
import Derived.Below
import Derived.BigQuiet
import Derived.ChangeOld
import Derived.Deep.AppendLies
import Derived.Deep.DeepCutAuto
import Derived.Deep.RegionHeld3
import Derived.JoinedCond
import Derived.OpenShut
import Derived.ProofKit
import Derived.ShutString
import Derived.WalkKit
import Derived.Test.YtjkhpbngpceenabRows
import Derived.Test.YtjkhpbngpceenabZ09
set_option linter.unusedVariables false
/- Layer 13's statement PriceParts: the walk. -/
namespace Go.Proofs.Ytjkhpbngpceenab
open Go.RowKit
set_option maxHeartbeats 4000000 in
theorem to_same (u y : Int) (pb pm many : Nat) (w : World) (hu0 : 0 ≤ u) (hu1 : u ≤ many) (hm1 : 1 ≤ many) (hm2 : many ≤ 1048576) (hy0 : 0 ≤ y) (hy1 : y ≤ 20) (c1 : w.cell? ⟨pb, 0, none⟩ = some (.int .i64 y)) (c2 : w.cell? ⟨pm, 0, none⟩ = some (.int .i64 (many : Int))) :
    Calls Try.prog 15 #[.int .i64 u, .pointer (some ⟨pb, 0, none⟩), .pointer (some ⟨pm, 0, none⟩)] w fun e w' => e = .returned (.int .i64 (Nt.rot y many u)) ∧ w = w' := by
  by_cases h0 : u = 0
  · subst h0
    go_enter Try.func15, Try.ntmps15
    go_wp2_with fail
    go_ret
    exact ⟨rfl, rfl⟩
  · have e1 : (u == 0) = false := by simp [h0]
    have k1 : IntKind.i64.wrap (u - 1) = u - 1 := IntWalk.i64_in _ (by omega)
    have k2 : IntKind.i64.wrap (u - 1 + y) = u - 1 + y := IntWalk.i64_in _ (by omega)
    have k3 : (u - 1 + y).tmod (many : Int) = (u - 1 + y) % (many : Int) := Int.tmod_eq_emod_of_nonneg (by omega)
    have k4 := Int.emod_nonneg (u - 1 + y) (show (many : Int) ≠ 0 by omega)
    have k5 := Int.emod_lt_of_pos (u - 1 + y) (show (0 : Int) < many by omega)
    have hr : Nt.rot y many u = (u - 1 + y) % (many : Int) + 1 := by unfold Nt.rot; rw [if_neg h0]
    generalize (u - 1 + y) % (many : Int) = r at *
    have k6 : IntKind.i64.wrap r = r := IntWalk.i64_in _ (by omega)
    have k7 : IntKind.i64.wrap (r + 1) = r + 1 := IntWalk.i64_in _ (by omega)
    have k8 : ((many : Int) == 0) = false := by simp; omega
    have k9 : ¬ (many : Int) = 0 := by omega
    have Hr := Lib.hid hr
    clear hr
    clear h0
    go_enter Try.func15, Try.ntmps15
    go_wp2_with fail
    go_ret
    exact ⟨by (rw [Hr.out] <;> rfl), rfl⟩
theorem to_call (u y r : Int) (pb pm many : Nat) (w : World) (hu0 : 0 ≤ u) (hu1 : u ≤ many) (hm1 : 1 ≤ many) (hm2 : many ≤ 1048576) (hy0 : 0 ≤ y) (hy1 : y ≤ 20) (hr : Nt.rot y many u = r) (c1 : w.cell? ⟨pb, 0, none⟩ = some (.int .i64 y)) (c2 : w.cell? ⟨pm, 0, none⟩ = some (.int .i64 (many : Int))) :
    Calls Try.prog 15 #[.int .i64 u, .pointer (some ⟨pb, 0, none⟩), .pointer (some ⟨pm, 0, none⟩)] w fun e w' => e = .returned (.int .i64 r) ∧ w = w' :=
  (to_same u y pb pm many w hu0 hu1 hm1 hm2 hy0 hy1 c1 c2).mono fun _ _ ⟨he, hw⟩ => ⟨by rw [he, hr], hw⟩
theorem nodeT_info : (Try.prog.info? 46).map (fun i => (i.zero, i.size, i.bytes)) = some (some (.agg #[.int .i64 0, .int .i64 0, .int .i64 0, .int .i64 0, .int .i64 0, .int .i64 0, .int .i64 0, .slice none 0 0, .slice none 0 0, .slice none 0 0]), 10, 128) := by kernel_rfl
/-- The new net, before its nodes are placed. -/
def PCut (n : NetD) (A : Option Addr) (c : Nat) (w5 : World) (zc : Array Value) (v : Value) (wx : World) : Prop :=
  ∃ G g, v = .pointer (some ⟨G, 0, none⟩) ∧ w5.heap.size ≤ G ∧ w5.heap.size ≤ g ∧ Blk wx G 26 #[.slice A n.inn.length c, .slice (some ⟨g, 0, none⟩) n.nodes.length n.nodes.length] ∧ Blk wx g 46 zc ∧ Later w5 wx
set_option maxHeartbeats 32000000 in
set_option maxRecDepth 100000 in
theorem walkPriceParts (w : World) (A N : Option Addr) (c d : Nat) (n : NetD) (la : n.inn.length ≤ c) (lb : c ≤ 9223372036854775807) (lc : n.nodes.length ≤ d) (ld : d ≤ 9223372036854775807) (hR : NetR w A N n) (hf : n.fits) (y : Int) (hy : (Lit.int .i64 y).wf = true) :
    Calls Try.prog 4 #[.agg #[.slice A n.inn.length c, .slice N n.nodes.length d], .int .i64 y] w fun e w' => e = .returned (.bool true) ∧ Below w.heap.size w w' := by
  obtain ⟨i0, hi, hz0, hz1, hz2⟩ := info_parts nodeT_info
  obtain ⟨i1, hj, hy0, hy1, hy2⟩ := info_parts int_info
  have hok := hf.ok
  have hk := (Blk.new w 26 #[.slice A n.inn.length c, .slice N n.nodes.length d]).alloc (.cells #[.int .i64 y] 3)
  have hky := Blk.new (w.alloc (.cells #[.slice A n.inn.length c, .slice N n.nodes.length d] 26)) 3 #[.int .i64 y]
  rw [World.size_alloc] at hky
  have hl0 : Later w ((w.alloc (.cells #[.slice A n.inn.length c, .slice N n.nodes.length d] 26)).alloc (.cells #[.int .i64 y] 3)) := ((Later.refl w).alloc _).alloc _
  have hnl := hok.2.1
  have Hok := Lib.hid hok
  have HR := Lib.hid hR
  have Hk := Lib.hid hk
  have Hky := Lib.hid hky
  have Hl0 := Lib.hid hl0
  have Hf := Lib.hid hf
  have Hy := Lib.hid hy
  clear hok hR hk hky hl0 hf hy
  go_enter Try.func4, Try.ntmps4
  go_wp2_with fail
  generalize (w.alloc (.cells #[.slice A n.inn.length c, .slice N n.nodes.length d] 26)).alloc (.cells #[.int .i64 y] 3) = w1 at *
  refine (smallP_13 A N c d n w1 Hok.out (netR_at HR.out Hl0.out)).mono ?_
  rintro e w2 ⟨b, rfl, hsm, hb2⟩
  have hl2 := Hl0.out.call hb2
  have hk2 := (show Later w1 w2 from hb2).blk Hk.out
  have hky2 := (show Later w1 w2 from hb2).blk Hky.out
  clear hb2 Hk Hky Hl0
  cases b
  · have Hk2 := Lib.hid hk2
    have Hky2 := Lib.hid hky2
    have Hl2 := Lib.hid hl2
    clear hk2 hky2 hl2
    clear hsm
    go_wp2_with fail
    refine (awake13 _).mono ?_
    rintro e w3 ⟨rfl, hbz⟩
    go_wp2_with fail
    go_ret
    exact ⟨rfl, Hl2.out.call hbz⟩
  have hsm := hsm rfl
  have hsm2 : n.nodes.length ≤ 200 := by omega
  clear hsm
  have x1 : w2.cell? ⟨w.heap.size, 1, none⟩ = some (.slice N n.nodes.length d) := by rw [hk2.cell]; rfl
  have xy : w2.cell? ⟨w.heap.size + 1, 0, none⟩ = some (.int .i64 y) := by rw [hky2.cell]; rfl
  have Hk2 := Lib.hid hk2
  have Hky2 := Lib.hid hky2
  have Hl2 := Lib.hid hl2
  clear hk2 hky2 hl2
  by_cases t1 : n.nodes.length < 2
  · have t1' : (n.nodes.length : Int) < 2 := by omega
    have t1'' : decide ((n.nodes.length : Int) < 2) = true := by simpa using t1'
    go_wp2_with fail
    refine (awake13 _).mono ?_
    rintro e w3 ⟨rfl, hbz⟩
    go_wp2_with fail
    go_ret
    exact ⟨rfl, Hl2.out.call hbz⟩
  have t1' : ¬ ((n.nodes.length : Int) < 2) := by omega
  have t1'' : decide ((n.nodes.length : Int) < 2) = false := by simpa using t1'
  by_cases t2 : y < 0
  · have t2' : decide (y < 0) = true := by simpa using t2
    go_wp2_with fail
    refine (awake13 _).mono ?_
    rintro e w3 ⟨rfl, hbz⟩
    go_wp2_with fail
    go_ret
    exact ⟨rfl, Hl2.out.call hbz⟩
  have t2' : decide (y < 0) = false := by simpa using t2
  by_cases t3 : 20 < y
  · have t3' : decide (20 < y) = true := by simpa using t3
    go_wp2_with fail
    refine (awake13 _).mono ?_
    rintro e w3 ⟨rfl, hbz⟩
    go_wp2_with fail
    go_ret
    exact ⟨rfl, Hl2.out.call hbz⟩
  have t3' : decide (20 < y) = false := by simpa using t3
  have x0 : w2.cell? ⟨w.heap.size, 0, none⟩ = some (.slice A n.inn.length c) := by rw [Hk2.out.cell]; rfl
  have hn1 : 1 ≤ n.nodes.length := by omega
  have hy00 : 0 ≤ y := by omega
  have hy20 : y ≤ 20 := by omega
  go_wp2_with fail
  clear t1 t1' t1'' t2 t2' t3 t3'
  refine (ref_13 A N c d n _ Hok.out (netR_at HR.out Hl2.out)).mono ?_
  rintro e w3 ⟨N', d', rfl, hR3, hd3, hm3, hb3⟩
  have hl3 := Hl2.out.call hb3
  have hk3 := (show Later w2 w3 from hb3).blk Hk2.out
  have hky3 := (show Later w2 w3 from hb3).blk Hky2.out
  clear x0 x1 xy hb3 Hk2 Hky2 Hl2
  have HR3 := Lib.hid hR3
  have Hl3 := Lib.hid hl3
  have Hk3 := Lib.hid hk3
  have Hky3 := Lib.hid hky3
  clear hR3 hl3 hk3 hky3
  go_wp2_with fail
  refine (ref11_check A N' c d' n _ Hok.out HR3.out hd3 la lb).mono ?_
  rintro e w4 ⟨hb4, ⟨hc, g9, rfl, -, -⟩ | ⟨hc, rfl⟩⟩
  all_goals
    have hl4 := Hl3.out.call hb4
    have hk4 := (show Later w3 w4 from hb4).blk Hk3.out
    have hky4 := (show Later w3 w4 from hb4).blk Hky3.out
    clear hb4 Hk3 Hky3 Hl3
  rotate_left
  · generalize Nt.check n = ck at *
    have q0 : (ck != 0) = true := by simpa using hc
    have Hl4 := Lib.hid hl4
    have Hk4 := Lib.hid hk4
    have Hky4 := Lib.hid hky4
    clear hl4 hk4 hky4
    clear hc
    go_wp2_with fail
    refine (awake13 _).mono ?_
    rintro e w5 ⟨rfl, hbz⟩
    go_wp2_with fail
    go_ret
    exact ⟨rfl, Hl4.out.call hbz⟩
  have hbad := Nt.bads_all (Nt.check_ok hc).2.2.2.1
  have x1 : w4.cell? ⟨w.heap.size, 1, none⟩ = some (.slice N n.nodes.length d) := by rw [hk4.cell]; rfl
  have h4a : Later w4 (w4.alloc (.cells #[.int .i64 (n.nodes.length : Int)] 3)) := (Later.refl w4).alloc _
  have hbm := Blk.new w4 3 #[.int .i64 (n.nodes.length : Int)]
  have hk5 := h4a.blk hk4
  have hky5 := h4a.blk hky4
  have hl5 := hl4.trans h4a
  have hs4 := hl4.size
  have hzc : (madeCells (Value.agg #[.int .i64 0, .int .i64 0, .int .i64 0, .int .i64 0, .int .i64 0, .int .i64 0, .int .i64 0, .slice none 0 0, .slice none 0 0, .slice none 0 0]).cells (n.nodes.length * 10)).size = n.nodes.length * 10 := size_madeCells _ _
  have hmk : ∀ W : World, (Instr.makeSlice 24 (.int .i64 (n.nodes.length : Int)) (.int .i64 (n.nodes.length : Int))).run Try.prog W = .ok (.slice (some ⟨W.heap.size, 0, none⟩) n.nodes.length n.nodes.length) (W.alloc (.cells (madeCells (Value.agg #[.int .i64 0, .int .i64 0, .int .i64 0, .int .i64 0, .int .i64 0, .int .i64 0, .int .i64 0, .slice none 0 0, .slice none 0 0, .slice none 0 0]).cells (n.nodes.length * 10)) 46)) := fun W => by
    have := run_make (P := Try.prog) W 24 46 i0 _ Try.underlying24 hi hz0 .i64 .i64 n.nodes.length n.nodes.length (by omega) (by omega) (by rw [hz2]; omega) (by omega)
    rw [hz1, Int.toNat_natCast] at this
    exact this
  generalize madeCells (Value.agg #[.int .i64 0, .int .i64 0, .int .i64 0, .int .i64 0, .int .i64 0, .int .i64 0, .int .i64 0, .slice none 0 0, .slice none 0 0, .slice none 0 0]).cells (n.nodes.length * 10) = zc at *
  have hmf : ∀ (fn : Fn) (first cap : Array Value) (w : World), (Instr.makeFunc fn first cap).run Try.prog w = .ok (.func fn first cap) w := fun _ _ _ _ => rfl
  have Hc := Lib.hid hc
  have Hbad := Lib.hid hbad
  have H4a := Lib.hid h4a
  have Hbm := Lib.hid hbm
  have Hk5 := Lib.hid hk5
  have Hky5 := Lib.hid hky5
  have Hl5 := Lib.hid hl5
  have Hk4 := Lib.hid hk4
  have Hky4 := Lib.hid hky4
  have Hl4 := Lib.hid hl4
  have Hzc := Lib.hid hzc
  clear hc hbad h4a hbm hk5 hky5 hl5 hk4 hky4 hl4 hzc
  try rw [Hc.out]
  go_upto_region 8 with fail
  generalize w4.alloc (.cells #[.int .i64 (n.nodes.length : Int)] 3) = w5 at *
  generalize w4.heap.size = mb at *
  have z0 : w5.cell? ⟨w.heap.size, 0, none⟩ = some (.slice A n.inn.length c) := by rw [Hk5.out.cell]; rfl
  have zm : w5.cell? ⟨mb, 0, none⟩ = some (.int .i64 (n.nodes.length : Int)) := by rw [Hbm.out.cell]; rfl
  clear x1 H4a Hk4 Hky4 Hl4
  go_cut [10] (PCut n A c w5 zc)
  case first =>
    go_region_held3 (fun W => W.cell? ⟨w.heap.size, 0, none⟩ = some (.slice A n.inn.length c) ∧ W.cell? ⟨mb, 0, none⟩ = some (.int .i64 (n.nodes.length : Int))) (first | exact ⟨z0, zm⟩ | exact ⟨Later.cell (show Later w5 _ by repeat (first | exact Later.refl _ | apply Later.drew | apply Later.alloc | refine Later.call ?_ (by assumption) | refine Later.set ?_ (by first | omega | (simp; done) | (simp; omega)) _)) z0, Later.cell (show Later w5 _ by repeat (first | exact Later.refl _ | apply Later.drew | apply Later.alloc | refine Later.call ?_ (by assumption) | refine Later.set ?_ (by first | omega | (simp; done) | (simp; omega)) _)) zm⟩)
      (fail)
    all_goals
      go_wp2_with fail
      go_meet
      first
      | (refine ⟨_, w5.heap.size, rfl, ?_, ?_, ?_, ?_, (show Later w5 _ by repeat (first | exact Later.refl _ | apply Later.drew | apply Later.alloc | refine Later.call ?_ (by assumption) | refine Later.set ?_ (by first | omega | (simp; done) | (simp; omega)) _))⟩; (· first | exact Nat.le_refl _ | (simp; done) | (simp; omega)); (· first | exact Nat.le_refl _ | (simp; done) | (simp; omega)); (· (repeat (first | ((with_reducible refine Blk.newR _ _ ?_); first | rfl | (simp; done) | (simp; omega)) | (with_reducible refine Blk.set2R (a := .slice none 0 0) (b := .slice none 0 0) ?_ _ _) | ((with_reducible refine Blk.farR ?_ ?_ _); rotate_left; first | omega | (simp; done) | (simp; omega)) | (with_reducible refine Blk.alloc ?_ _) | (with_reducible refine Blk.drew ?_))); done); (· (repeat (first | ((with_reducible refine Blk.newR _ _ ?_); first | rfl | (simp; done) | (simp; omega)) | (with_reducible refine Blk.set2R (a := .slice none 0 0) (b := .slice none 0 0) ?_ _ _) | ((with_reducible refine Blk.farR ?_ ?_ _); rotate_left; first | omega | (simp; done) | (simp; omega)) | (with_reducible refine Blk.alloc ?_ _) | (with_reducible refine Blk.drew ?_))); done))
      | (refine ⟨_, w5.heap.size + 1, rfl, ?_, ?_, ?_, ?_, (show Later w5 _ by repeat (first | exact Later.refl _ | apply Later.drew | apply Later.alloc | refine Later.call ?_ (by assumption) | refine Later.set ?_ (by first | omega | (simp; done) | (simp; omega)) _))⟩; (· first | exact Nat.le_refl _ | (simp; done) | (simp; omega)); (· first | exact Nat.le_refl _ | (simp; done) | (simp; omega)); (· (repeat (first | ((with_reducible refine Blk.newR _ _ ?_); first | rfl | (simp; done) | (simp; omega)) | (with_reducible refine Blk.set2R (a := .slice none 0 0) (b := .slice none 0 0) ?_ _ _) | ((with_reducible refine Blk.farR ?_ ?_ _); rotate_left; first | omega | (simp; done) | (simp; omega)) | (with_reducible refine Blk.alloc ?_ _) | (with_reducible refine Blk.drew ?_))); done); (· (repeat (first | ((with_reducible refine Blk.newR _ _ ?_); first | rfl | (simp; done) | (simp; omega)) | (with_reducible refine Blk.set2R (a := .slice none 0 0) (b := .slice none 0 0) ?_ _ _) | ((with_reducible refine Blk.farR ?_ ?_ _); rotate_left; first | omega | (simp; done) | (simp; omega)) | (with_reducible refine Blk.alloc ?_ _) | (with_reducible refine Blk.drew ?_))); done))
  case rest =>
    obtain ⟨G, g, rfl, hG, hg, hbG, hbg, hlc⟩ := hcut
    have hp0 : Placed w wc w.heap.size g n y 0 := Placed.start hbg Hzc.out
    have hkc := hlc.blk Hk5.out
    have hkyc := hlc.blk Hky5.out
    have hkmc := hlc.blk Hbm.out
    have hl6 := Hl5.out.trans hlc
    have hs5 := Hl5.out.size
    have hwg : w.heap.size ≤ g := Nat.le_trans hs5 hg
    have x1 : wc.cell? ⟨w.heap.size, 1, none⟩ = some (.slice N n.nodes.length d) := by rw [hkc.cell]; rfl
    have hkp0 : Keep 46 wc wc := Keep.refl _ _
    clear z0 zm hmk hbg hlc Hk5 Hky5 Hbm Hl5
    have Hp0 := Lib.hid hp0
    have Hkc := Lib.hid hkc
    have Hkyc := Lib.hid hkyc
    have Hkmc := Lib.hid hkmc
    have Hl6 := Lib.hid hl6
    have HbG := Lib.hid hbG
    have Hkp0 := Lib.hid hkp0
    clear hp0 hkc hkyc hkmc hl6 hbG hkp0
    go_wp2_with fail
    clear x1
    go_loopw [61] (fun i wx => ∃ k : Nat, k ≤ n.nodes.length ∧ i = .int .i64 (k : Int) ∧ Placed w wx w.heap.size g n y k ∧ Keep 46 wc wx ∧ Later w wx) (fun i _ => n.nodes.length - (intOf i).toNat)
    case atStart => exact ⟨0, Nat.zero_le _, rfl, Hp0.out, Hkp0.out, Hl6.out⟩
    case round =>
      obtain ⟨k, hk, rfl, hpl, hkp, hlw⟩ := hrel
      clear Hp0 Hkp0 Hl6
      by_cases hlt : k < n.nodes.length
      · obtain ⟨b1, off1, S, sc, J, ic, Q, qc, rfl, hNA, hs1, hi1, hq1⟩ := HR.out.2.at_ hlt
        have hnok := Hok.out.2.2 _ (List.getElem_mem hlt)
        have hinr := (Hbad.out _ (List.getElem_mem hlt)).2
        have hstep := fun (W : World) (p : Nat) (h : Placed w W w.heap.size g n y k) (hp : Nt.rot y n.nodes.length ((k : Int) + 1) = (p : Int) + 1) (J : Option Addr) (jc : Nat) hJ => h.step2 hlt hp (S := S) (sc := sc) (J := J) (jc := jc) (Q := Q) (qc := qc) ⟨hNA.2.1, hs1⟩ hJ ⟨hNA.2.2.2, hq1⟩
        have hNAw := hNA.below hlw
        generalize n.nodes[k] = v at *
        have hil := hnok.2.2.1
        obtain ⟨⟨y0, y1, y2, y3, y4, y5, y6, y7, y8, y9⟩, -⟩ := hNAw
        have hl2 : Later wr ((wr.alloc (.cells #[.int .i64 v.op.kind, .int .i64 v.op.k, .int .i64 v.op.width, .int .i64 v.op.step, .int .i64 v.op.side, .int .i64 v.op.frm, .int .i64 v.op.to, .slice S v.op.s.length sc, .slice J v.ins.length ic, .slice Q v.p.length qc] 46)).alloc (.cells #[.int .i64 v.op.kind, .int .i64 v.op.k, .int .i64 v.op.width, .int .i64 v.op.step, .int .i64 v.op.side, .int .i64 v.op.frm, .int .i64 v.op.to, .slice S v.op.s.length sc, .slice none 0 0, .slice Q v.p.length qc] 46)) := ((Later.refl wr).alloc _).alloc _
        have hkY := Blk.new (wr.alloc (.cells #[.int .i64 v.op.kind, .int .i64 v.op.k, .int .i64 v.op.width, .int .i64 v.op.step, .int .i64 v.op.side, .int .i64 v.op.frm, .int .i64 v.op.to, .slice S v.op.s.length sc, .slice J v.ins.length ic, .slice Q v.p.length qc] 46)) 46 #[.int .i64 v.op.kind, .int .i64 v.op.k, .int .i64 v.op.width, .int .i64 v.op.step, .int .i64 v.op.side, .int .i64 v.op.frm, .int .i64 v.op.to, .slice S v.op.s.length sc, .slice none 0 0, .slice Q v.p.length qc]
        rw [World.size_alloc] at hkY
        have k0 : (k : Int) < (n.nodes.length : Int) := by omega
        have HNA := Lib.hid hNA
        have Hnok := Lib.hid hnok
        have Hinr := Lib.hid hinr
        have Hstep := Lib.hid hstep
        have Hl2 := Lib.hid hl2
        have HkY := Lib.hid hkY
        have Hpl := Lib.hid hpl
        have Hkp := Lib.hid hkp
        have Hlw := Lib.hid hlw
        clear hNA hnok hinr hstep hl2 hkY hpl hkp hlw
        go_wp2_with fail
        clear y0 y1 y2 y3 y4 y5 y6 y7 y8 y9
        generalize (wr.alloc (.cells #[.int .i64 v.op.kind, .int .i64 v.op.k, .int .i64 v.op.width, .int .i64 v.op.step, .int .i64 v.op.side, .int .i64 v.op.frm, .int .i64 v.op.to, .slice S v.op.s.length sc, .slice J v.ins.length ic, .slice Q v.p.length qc] 46)).alloc (.cells #[.int .i64 v.op.kind, .int .i64 v.op.k, .int .i64 v.op.width, .int .i64 v.op.step, .int .i64 v.op.side, .int .i64 v.op.frm, .int .i64 v.op.to, .slice S v.op.s.length sc, .slice none 0 0, .slice Q v.p.length qc] 46) = w2' at *
        obtain ⟨wo, rfl⟩ : ∃ wo, wo = wr := ⟨wr, rfl⟩
        go_loopw [74] (fun i wx => ∃ (m : Nat) (Z : Value), m ≤ v.ins.length ∧ i = .int .i64 (m : Int) ∧ Blk wx (wo.heap.size + 1) 46 #[.int .i64 v.op.kind, .int .i64 v.op.k, .int .i64 v.op.width, .int .i64 v.op.step, .int .i64 v.op.side, .int .i64 v.op.frm, .int .i64 v.op.to, .slice S v.op.s.length sc, Z, .slice Q v.p.length qc] ∧ wx.ownsRow (wo.heap.size + 2) 3 1 Z m (((v.ins.take m).map (Nt.rot y n.nodes.length)).map (Value.int .i64)) ∧ Later wo wx) (fun i _ => v.ins.length - (intOf i).toNat)
        case atStart => exact ⟨0, .slice none 0 0, Nat.zero_le _, rfl, HkY.out, by simpa using World.ownsRow_nil _ _ _ _, Hl2.out⟩
        case round =>
          obtain ⟨m, Z, hm, rfl, hbY, hown, hlx⟩ := hrel
          obtain ⟨Ao, co, rfl⟩ := own_form hown
          clear HkY
          have hkx := Hkp.out.trans (Keep.of_later hlx)
          have cy : wr.cell? ⟨w.heap.size + 1, 0, none⟩ = some (.int .i64 y) := by rw [(Hkyc.out.keep (by decide) hkx).cell]; rfl
          have cm : wr.cell? ⟨mb, 0, none⟩ = some (.int .i64 (n.nodes.length : Int)) := by rw [(Hkmc.out.keep (by decide) hkx).cell]; rfl
          have hyl := hbY.lt
          by_cases hlm : m < v.ins.length
          · obtain ⟨b2, off2, rfl, -, hc2⟩ := (HNA.out.below (Hlw.out.trans hlx)).2.2.1 m hlm
            rw [getD_at hlm] at hc2
            have hr2 := Hinr.out _ (List.getElem_mem hlm)
            have hsn : ((v.ins.take (m + 1)).map (Nt.rot y n.nodes.length)).map (Value.int .i64) = ((v.ins.take m).map (Nt.rot y n.nodes.length)).map (Value.int .i64) ++ [.int .i64 (Nt.rot y n.nodes.length v.ins[m])] := by rw [List.take_succ_eq_append_getElem hlm, List.map_append, List.map_append]; rfl
            generalize v.ins[m] = u at *
            obtain ⟨r, hr⟩ : ∃ r, Nt.rot y n.nodes.length u = r := ⟨_, rfl⟩
            rw [hr] at hsn
            generalize ((v.ins.take m).map (Nt.rot y n.nodes.length)).map (Value.int .i64) = vs at *
            have hto := fun (W : World) (h : Later wr W) => to_call u y r (w.heap.size + 1) mb n.nodes.length W hr2.1 hr2.2 hn1 hnl hy00 hy20 hr (h.cell cy) (h.cell cm)
            have u0 : wr.cell? ⟨wo.heap.size + 1, 8, none⟩ = some (.slice Ao m co) := by rw [hbY.cell]; rfl
            have m0 : (m : Int) < (v.ins.length : Int) := by omega
            have Hto := Lib.hid hto
            have Hsn := Lib.hid hsn
            have Hown := Lib.hid hown
            have Hlx := Lib.hid hlx
            have HbY := Lib.hid hbY
            have Hkx := Lib.hid hkx
            have Hr := Lib.hid hr
            clear hto hsn hown hlx hbY hkx hr
            go_wp2_with fail
            go_region_law ((first
              | (refine step_append_lies _ (by rfl) _ _ _ (by rfl) (wo.heap.size + 2) 3 i1 _ 1 8 Try.underlying22 hj hy0 hy1 hy2 rfl (by omega) (.slice Ao m co) m vs (by rfl) (ownsRow_keep (T := 46) Hown.out (by decide) (Keep.of_later (show Later wr _ by repeat (first | (with_reducible exact Later.refl _) | (with_reducible apply Later.drew) | (with_reducible apply Later.drewN) | (with_reducible apply Later.alloc) | (with_reducible refine Later.call ?_ (by assumption)))))) ⟨wr.heap.size, 0, none⟩ 1 1 [.int .i64 r] (by rfl) (by rfl) (World.news_of_block (cs := #[.int .i64 r]) (t := 3) (fr := (0, 0)) (heap_alloc_new wr _)) (by simp [Value.oneCell']) (by omega) (by unfold maxLen; omega) (by omega) (by simp; omega) (wr.heap.size + 1) (by simp) ?_; intro gg cap w4 hown4 hgrow hat hlt4; have HB4 := Lib.hid (show Below (wo.heap.size + 2) wr w4 from Below.grown (Below.mono (show Later wr _ by repeat (first | (with_reducible exact Later.refl _) | (with_reducible apply Later.drew) | (with_reducible apply Later.drewN) | (with_reducible apply Later.alloc) | (with_reducible refine Later.call ?_ (by assumption)))) (show wo.heap.size + 2 ≤ wr.heap.size by omega)) hgrow (by simp; omega) (fun b hb => (Hown.out.lt b hb).1)); have HbY4 := Lib.hid (HbY.out.below HB4.out (by omega)); have f0 := HbY4.out.frozen 8; have d0 : w4.cell? ⟨wo.heap.size + 1, 8, none⟩ = some (.slice Ao m co) := (by rw [HbY4.out.cell]; rfl))
              | (go_simp; go_at_call 15; refine (Hto.out _ (show Later wr _ by repeat (first | (with_reducible exact Later.refl _) | (with_reducible apply Later.drew) | (with_reducible apply Later.drewN) | (with_reducible apply Later.alloc) | (with_reducible refine Later.call ?_ (by assumption))))).mono ?_; rintro e w3 ⟨rfl, rfl⟩)))
            all_goals
              have hbY5 := HbY4.out.set8 (.slice (some ⟨gg, 0, none⟩) (m + 1) cap)
              have hown5 := ownsRow_keep (T := 46) hown4 (by decide) (Keep.set_ HbY4.out 8 (.slice (some ⟨gg, 0, none⟩) (m + 1) cap))
              have hl5 := (show Later wo w4 from Below.trans Hlx.out (HB4.out.mono (by omega))).set (p := ⟨wo.heap.size + 1, 8, none⟩) (Nat.le_succ _) (.slice (some ⟨gg, 0, none⟩) (m + 1) cap)
              rw [← Hsn.out] at hown5
              have HbY5 := Lib.hid hbY5
              have Hown5 := Lib.hid hown5
              have Hl5 := Lib.hid hl5
              clear hbY5 hown5 hl5
              clear hown4 hgrow hat d0 f0 u0
              go_wp2_with fail
              go_roundw
              case rel => exact ⟨m + 1, _, by omega, by go_num, HbY5.out, Hown5.out, Hl5.out⟩
              case measure => simp [intOf]; omega
          · obtain rfl : m = v.ins.length := by omega
            rw [List.take_length] at hown
            have hr := Nt.rot_rng (y := y) (k := n.nodes.length) (u := (k : Int) + 1) (by omega) (by omega)
            obtain ⟨p, hp⟩ : ∃ p : Nat, Nt.rot y n.nodes.length ((k : Int) + 1) = (p : Int) + 1 := ⟨(Nt.rot y n.nodes.length ((k : Int) + 1) - 1).toNat, by omega⟩
            rw [hp] at hr
            have hto := fun (W : World) (h : Later wr W) => to_call ((k : Int) + 1) y ((p : Int) + 1) (w.heap.size + 1) mb n.nodes.length W (by omega) (by omega) hn1 hnl hy00 hy20 hp (h.cell cy) (h.cell cm)
            have hplx := Hpl.out.later hlx
            have u0 : wr.cell? ⟨G, 1, none⟩ = some (.slice (some ⟨g, 0, none⟩) n.nodes.length n.nodes.length) := by rw [(HbG.out.keep (by decide) hkx).cell]; rfl
            have u1 : wr.cell? ⟨wo.heap.size + 1, 0, none⟩ = some (.int .i64 v.op.kind) := by rw [hbY.cell]; rfl
            have u2 : wr.cell? ⟨wo.heap.size + 1, 1, none⟩ = some (.int .i64 v.op.k) := by rw [hbY.cell]; rfl
            have u3 : wr.cell? ⟨wo.heap.size + 1, 2, none⟩ = some (.int .i64 v.op.width) := by rw [hbY.cell]; rfl
            have u4 : wr.cell? ⟨wo.heap.size + 1, 3, none⟩ = some (.int .i64 v.op.step) := by rw [hbY.cell]; rfl
            have u5 : wr.cell? ⟨wo.heap.size + 1, 4, none⟩ = some (.int .i64 v.op.side) := by rw [hbY.cell]; rfl
            have u6 : wr.cell? ⟨wo.heap.size + 1, 5, none⟩ = some (.int .i64 v.op.frm) := by rw [hbY.cell]; rfl
            have u7 : wr.cell? ⟨wo.heap.size + 1, 6, none⟩ = some (.int .i64 v.op.to) := by rw [hbY.cell]; rfl
            have u8 : wr.cell? ⟨wo.heap.size + 1, 7, none⟩ = some (.slice S v.op.s.length sc) := by rw [hbY.cell]; rfl
            have u9 : wr.cell? ⟨wo.heap.size + 1, 8, none⟩ = some (.slice Ao v.ins.length co) := by rw [hbY.cell]; rfl
            have u10 : wr.cell? ⟨wo.heap.size + 1, 9, none⟩ = some (.slice Q v.p.length qc) := by rw [hbY.cell]; rfl
            have hpn : p < n.nodes.length := by omega
            have k1 : IntKind.i64.wrap ((k : Int) + 1) = (k : Int) + 1 := IntWalk.i64_in _ (by omega)
            have k2 : IntKind.i64.wrap (p : Int) = (p : Int) := IntWalk.i64_in _ (by omega)
            have k3 : (0 : Int) ≤ (p : Int) := by omega
            have k4 : (p : Int) < (n.nodes.length : Int) := by omega
            have hwo := Hlw.out.size
            have Hto := Lib.hid hto
            have Hown := Lib.hid hown
            have Hlx := Lib.hid hlx
            have HbY := Lib.hid hbY
            have Hkx := Lib.hid hkx
            have Hp := Lib.hid hp
            have Hplx := Lib.hid hplx
            clear hto hown hlx hbY hkx hp hplx
            clear hr cy cm
            go_wp2_with fail
            obtain ⟨⟨z0, z1, z2, z3, z4, z5, z6, z7, z8, z9, d0, d1, d2, d3, d4, d5, d6, d7, d8, d9⟩, hfz⟩ := Hplx.out.has hpn
            have fz0 := hfz (p * 10)
            have fz1 := hfz (p * 10 + 1)
            have fz2 := hfz (p * 10 + 2)
            have fz3 := hfz (p * 10 + 3)
            have fz4 := hfz (p * 10 + 4)
            have fz5 := hfz (p * 10 + 5)
            have fz6 := hfz (p * 10 + 6)
            have fz7 := hfz (p * 10 + 7)
            have fz8 := hfz (p * 10 + 8)
            have fz9 := hfz (p * 10 + 9)
            go_region_law ((go_simp; go_at_call 15; refine (Hto.out _ (show Later wr _ by repeat (first | (with_reducible exact Later.refl _) | (with_reducible apply Later.drew) | (with_reducible apply Later.drewN) | (with_reducible apply Later.alloc) | (with_reducible refine Later.call ?_ (by assumption))))).mono ?_; rintro e w3 ⟨rfl, rfl⟩))
            all_goals
              clear u0 u1 u2 u3 u4 u5 u6 u7 u8 u9 u10 d0 d1 d2 d3 d4 d5 d6 d7 d8 d9 hfz fz0 fz1 fz2 fz3 fz4 fz5 fz6 fz7 fz8 fz9
              go_wp2_with fail
              go_roundw
              case rel =>
                obtain ⟨q1, q2, q3⟩ := Hstep.out wr p Hplx.out Hp.out Ao co (ownsRow_low Hown.out (by omega)) (Hlw.out.trans Hlx.out) hwg
                exact ⟨k + 1, by omega, by go_num, q1, Hkx.out.trans q2, q3⟩
              case measure => simp [intOf]; omega
      · obtain rfl : k = n.nodes.length := by omega
        have hkn := Hkc.out.keep (by decide) hkp
        have x0 : wr.cell? ⟨w.heap.size, 0, none⟩ = some (.slice A n.inn.length c) := by rw [hkn.cell]; rfl
        have x1 : wr.cell? ⟨w.heap.size, 1, none⟩ = some (.slice N n.nodes.length d) := by rw [hkn.cell]; rfl
        have hbGr := HbG.out.keep (by decide) hkp
        have hmov := Nt.rot_moved n y hn1
        have hmok := Nt.rotNet_ok (y := y) Hok.out hn1 fun v hv => (Hbad.out v hv).2
        obtain ⟨hmc, -⟩ := hmov.all Hc.out
        have hmt := hmov.total Hc.out
        have hml := Nt.rotNet_len n y
        have hmw := fun (i : Int) (h0 : 0 ≤ i) (h1 : i ≤ n.nodes.length) => hmov.words Hc.out h0 h1
        have hmk := fun (i : Int) (h0 : 0 ≤ i) (h1 : i ≤ n.nodes.length) => hmov.costs Hc.out h0 h1
        have hmin := fun (i : Int) (h0 : 0 ≤ i) (h1 : i ≤ n.nodes.length) => hmov.in_ h0 h1
        have hmR : NetR wr A (some ⟨g, 0, none⟩) (Nt.rotNet n y) := ⟨HR.out.1.below hlw (Nat.le_refl _), hpl.nodes hlw fun v hv => (Hok.out.2.2 v hv).2.2.1⟩
        have hcm := fun (W : World) (h : Later wr W) => price_of A (some ⟨g, 0, none⟩) c n.nodes.length (Nt.rotNet n y) W hmok (netR_at hmR h) (by rw [hml]; exact Nat.le_refl _) (by rw [hml]; exact hsm2)
        rw [hml] at hcm
        have hcm : ∀ W : World, Later wr W → Calls Try.prog 16 #[.agg #[.slice A n.inn.length c, .slice (some ⟨g, 0, none⟩) n.nodes.length n.nodes.length]] W (OfP (Nt.rotNet n y) W) := hcm
        have cy : wr.cell? ⟨w.heap.size + 1, 0, none⟩ = some (.int .i64 y) := by rw [(Hkyc.out.keep (by decide) hkp).cell]; rfl
        have cm : wr.cell? ⟨mb, 0, none⟩ = some (.int .i64 (n.nodes.length : Int)) := by rw [(Hkmc.out.keep (by decide) hkp).cell]; rfl
        have hwm := Nt.words_len hmc
        have hkm := Nt.costs_len (Nt.rotNet n y)
        rw [hml] at hwm hkm
        clear hmov hmR hmok hpl
        generalize Nt.rotNet n y = m at *
        have HCY := Lib.hid cy
        have HCM := Lib.hid cm
        clear cy cm
        have Hkp := Lib.hid hkp
        have Hlw := Lib.hid hlw
        have Hkn := Lib.hid hkn
        have HbGr := Lib.hid hbGr
        have Hmc := Lib.hid hmc
        have Hmt := Lib.hid hmt
        have Hml := Lib.hid hml
        have Hmw := Lib.hid hmw
        have Hmk := Lib.hid hmk
        have Hmin := Lib.hid hmin
        have Hcm := Lib.hid hcm
        have Hwm := Lib.hid hwm
        have Hkm := Lib.hid hkm
        clear hkp hlw hkn hbGr hmc hmt hml hmw hmk hmin hcm hwm hkm
        go_wp2_with fail
        refine (price_of A N c d n _ Hok.out (netR_at HR.out Hlw.out) lc hsm2).mono ?_
        rintro e w5 ⟨hb5, ⟨-, g1, g2, rfl, hg1, hg2⟩ | ⟨hc', -⟩⟩
        rotate_left
        · exact absurd Hc.out hc'
        have h5a : Later w5 (w5.alloc (.cells #[.slice (some ⟨g1, 0, none⟩) (n.nodes.length + 1) (n.nodes.length + 1), .slice (some ⟨g2, 0, none⟩) (n.nodes.length + 1) (n.nodes.length + 1), .int .i64 (Nt.total n)] 48)) := (Later.refl w5).alloc _
        have hpa := Blk.new w5 48 #[.slice (some ⟨g1, 0, none⟩) (n.nodes.length + 1) (n.nodes.length + 1), .slice (some ⟨g2, 0, none⟩) (n.nodes.length + 1) (n.nodes.length + 1), .int .i64 (Nt.total n)]
        have h6 : Later wr _ := (show Later wr w5 from hb5).trans h5a
        have hg16 := h5a.blk hg1
        have hg26 := h5a.blk hg2
        have hbG6 := h6.blk HbGr.out
        have v0 := hbG6.cell 0
        have v1 := hbG6.cell 1
        simp at v0 v1
        clear x0 x1 hb5 hg1 hg2
        have H5a := Lib.hid h5a
        have Hpa := Lib.hid hpa
        have H6 := Lib.hid h6
        have Hg16 := Lib.hid hg16
        have Hg26 := Lib.hid hg26
        have HbG6 := Lib.hid hbG6
        clear h5a hpa h6 hg16 hg26 hbG6
        have V0 := Lib.hid v0
        have V1 := Lib.hid v1
        clear v0 v1
        go_upto_region 21 with fail
        generalize w5.alloc (.cells #[.slice (some ⟨g1, 0, none⟩) (n.nodes.length + 1) (n.nodes.length + 1), .slice (some ⟨g2, 0, none⟩) (n.nodes.length + 1) (n.nodes.length + 1), .int .i64 (Nt.total n)] 48) = w6 at *
        generalize w5.heap.size = pa at *
        have v0 := V0.out
        have v1 := V1.out
        clear V0 V1 H5a
        go_wp2_with fail
        refine (Hcm.out _ H6.out).mono ?_
        rintro e w7 ⟨hb7, ⟨-, h1, h2, rfl, hh1, hh2⟩ | ⟨hc', -⟩⟩
        rotate_left
        · exact absurd Hmc.out hc'
        rw [Hml.out, Hmt.out]
        have h7a : Later w7 (w7.alloc (.cells #[.slice (some ⟨h1, 0, none⟩) (n.nodes.length + 1) (n.nodes.length + 1), .slice (some ⟨h2, 0, none⟩) (n.nodes.length + 1) (n.nodes.length + 1), .int .i64 (Nt.total n)] 48)) := (Later.refl w7).alloc _
        have hpb := Blk.new w7 48 #[.slice (some ⟨h1, 0, none⟩) (n.nodes.length + 1) (n.nodes.length + 1), .slice (some ⟨h2, 0, none⟩) (n.nodes.length + 1) (n.nodes.length + 1), .int .i64 (Nt.total n)]
        have h68 : Later w6 _ := (show Later w6 w7 from hb7).trans h7a
        have h8 : Later wr _ := H6.out.trans h68
        have hpa8 := h68.blk Hpa.out
        have hg18 := h68.blk Hg16.out
        have hg28 := h68.blk Hg26.out
        have hh18 := h7a.blk hh1
        have hh28 := h7a.blk hh2
        have CM8 := Lib.hid (h8.cell HCM.out)
        have CY8 := Lib.hid (h8.cell HCY.out)
        clear hb7 hh1 hh2 v0 v1 Hg16 Hg26 Hpa HbG6
        have H7a := Lib.hid h7a
        have Hpb := Lib.hid hpb
        have H68 := Lib.hid h68
        have H8 := Lib.hid h8
        have Hpa8 := Lib.hid hpa8
        have Hg18 := Lib.hid hg18
        have Hg28 := Lib.hid hg28
        have Hh18 := Lib.hid hh18
        have Hh28 := Lib.hid hh28
        clear h7a hpb h68 h8 hpa8 hg18 hg28 hh18 hh28
        go_upto_region 22 with fail
        generalize w7.alloc (.cells #[.slice (some ⟨h1, 0, none⟩) (n.nodes.length + 1) (n.nodes.length + 1), .slice (some ⟨h2, 0, none⟩) (n.nodes.length + 1) (n.nodes.length + 1), .int .i64 (Nt.total n)] 48) = w8 at *
        generalize w7.heap.size = pb at *
        generalize Nt.total n = TT at *
        have a0 : w8.cell? ⟨pa, 0, none⟩ = some (.slice (some ⟨g1, 0, none⟩) (n.nodes.length + 1) (n.nodes.length + 1)) := by rw [Hpa8.out.cell]; rfl
        have a1 : w8.cell? ⟨pa, 1, none⟩ = some (.slice (some ⟨g2, 0, none⟩) (n.nodes.length + 1) (n.nodes.length + 1)) := by rw [Hpa8.out.cell]; rfl
        have a2 : w8.cell? ⟨pa, 2, none⟩ = some (.int .i64 TT) := by rw [Hpa8.out.cell]; rfl
        have b0 : w8.cell? ⟨pb, 0, none⟩ = some (.slice (some ⟨h1, 0, none⟩) (n.nodes.length + 1) (n.nodes.length + 1)) := by rw [Hpb.out.cell]; rfl
        have b1 : w8.cell? ⟨pb, 1, none⟩ = some (.slice (some ⟨h2, 0, none⟩) (n.nodes.length + 1) (n.nodes.length + 1)) := by rw [Hpb.out.cell]; rfl
        have b2 : w8.cell? ⟨pb, 2, none⟩ = some (.int .i64 TT) := by rw [Hpb.out.cell]; rfl
        have cm := CM8.out
        have e1 : (TT != TT) = false := by simp
        have e2 : IntKind.i64.wrap ((n.nodes.length : Int) + 1) = (n.nodes.length : Int) + 1 := IntWalk.i64_in _ (by omega)
        have e3 : (((n.nodes.length + 1 : Nat) : Int) != (n.nodes.length : Int) + 1) = false := by simp
        have e4 : ((n.nodes.length : Int) + 1 != (n.nodes.length : Int) + 1) = false := by simp
        clear H7a
        go_wp2_with fail
        clear a2 b2 e1 e3 e4 cm
        have A0 := Lib.hid a0
        have A1 := Lib.hid a1
        have B0 := Lib.hid b0
        have B1 := Lib.hid b1
        clear a0 a1 b0 b1
        go_loopw [154] (fun i wx => ∃ k q : Nat, k ≤ n.nodes.length + 1 ∧ i = .int .i64 (k : Int) ∧ wx = w8.drewN q) (fun i _ => n.nodes.length + 1 - (intOf i).toNat)
        case atStart => exact ⟨0, 0, Nat.zero_le _, rfl, rfl⟩
        case round =>
          obtain ⟨k, q, hk, rfl, hwx⟩ := hrel
          by_cases hlt : k < n.nodes.length + 1
          · have h0 : (0 : Int) ≤ (k : Int) := by omega
            have h1' : (k : Int) ≤ (n.nodes.length : Int) := by omega
            have hir := Hmin.out (k : Int) h0 h1'
            have hw1 := Hmw.out (k : Int) h0 h1'
            have hk1 := Hmk.out (k : Int) h0 h1'
            obtain ⟨r, hr⟩ : ∃ r : Nat, Nt.rot y n.nodes.length (k : Int) = (r : Int) := ⟨(Nt.rot y n.nodes.length (k : Int)).toNat, by omega⟩
            rw [hr] at hir hw1 hk1
            rw [Int.toNat_natCast, Int.toNat_natCast] at hw1 hk1
            have hrn : r < n.nodes.length + 1 := by omega
            have hwl := Nt.words_len Hc.out
            have hkl := Nt.costs_len n
            have c1 : wr.cell? ⟨g1, k, none⟩ = some (.int .i64 ((Nt.words n).getD k 0)) := by
              rw [hwx]
              show w8.cell? ⟨g1, k, none⟩ = _
              rw [Hg18.out.cell, List.getD_eq_getElem?_getD, List.getElem?_eq_getElem (by omega)]
              simp [intV, hwl, hlt]
            have c2 : wr.cell? ⟨h1, r, none⟩ = some (.int .i64 ((Nt.words n).getD k 0)) := by
              rw [hwx, ← hw1]
              show w8.cell? ⟨h1, r, none⟩ = _
              rw [Hh18.out.cell, List.getD_eq_getElem?_getD, List.getElem?_eq_getElem (by rw [Hwm.out]; exact hrn)]
              simp [intV, Hwm.out, hrn]
            have c3 : wr.cell? ⟨g2, k, none⟩ = some (.int .i64 ((Nt.costs n).getD k 0)) := by
              rw [hwx]
              show w8.cell? ⟨g2, k, none⟩ = _
              rw [Hg28.out.cell, List.getD_eq_getElem?_getD, List.getElem?_eq_getElem (by omega)]
              simp [intV, hkl, hlt]
            have c4 : wr.cell? ⟨h2, r, none⟩ = some (.int .i64 ((Nt.costs n).getD k 0)) := by
              rw [hwx, ← hk1]
              show w8.cell? ⟨h2, r, none⟩ = _
              rw [Hh28.out.cell, List.getD_eq_getElem?_getD, List.getElem?_eq_getElem (by rw [Hkm.out]; exact hrn)]
              simp [intV, Hkm.out, hrn]
            have a0 : wr.cell? ⟨pa, 0, none⟩ = some (.slice (some ⟨g1, 0, none⟩) (n.nodes.length + 1) (n.nodes.length + 1)) := by rw [hwx]; exact A0.out
            have a1 : wr.cell? ⟨pa, 1, none⟩ = some (.slice (some ⟨g2, 0, none⟩) (n.nodes.length + 1) (n.nodes.length + 1)) := by rw [hwx]; exact A1.out
            have b0 : wr.cell? ⟨pb, 0, none⟩ = some (.slice (some ⟨h1, 0, none⟩) (n.nodes.length + 1) (n.nodes.length + 1)) := by rw [hwx]; exact B0.out
            have b1 : wr.cell? ⟨pb, 1, none⟩ = some (.slice (some ⟨h2, 0, none⟩) (n.nodes.length + 1) (n.nodes.length + 1)) := by rw [hwx]; exact B1.out
            have hcall := fun (j : Nat) => to_same (k : Int) y (w.heap.size + 1) mb n.nodes.length (wr.drewN j) h0 h1' hn1 hnl hy00 hy20 (by rw [hwx]; exact CY8.out) (by rw [hwx]; exact CM8.out)
            rw [hr] at hcall
            generalize (Nt.words n).getD k 0 = x at *
            generalize (Nt.costs n).getD k 0 = z at *
            have e1 : (x != x) = false := by simp
            have e3 : (z != z) = false := by simp
            have k1 : (k : Int) < ((n.nodes.length + 1 : Nat) : Int) := by omega
            have k2 : (k : Int) < (n.nodes.length : Int) + 1 := by omega
            have r0 : (0 : Int) ≤ (r : Int) := by omega
            have r1 : (r : Int) < ((n.nodes.length + 1 : Nat) : Int) := by omega
            have r2 : (r : Int) < (n.nodes.length : Int) + 1 := by omega
            clear hir hw1 hk1 hr hwl hkl h1'
            have Hcall := Lib.hid hcall
            have Hwx := Lib.hid hwx
            clear hcall hwx
            go_wp2_with fail
            go_quiet ((go_at_call 15; exact quiet_same (Hcall.out _)))
            go_wp2_with fail
            go_roundw
            case rel => exact ⟨k + 1, _, by omega, by go_num, by rw [Hwx.out]; first | rfl | exact World.drewN_drewN _ _ _⟩
            case measure => simp [intOf]; omega
          · obtain rfl : k = n.nodes.length + 1 := by omega
            subst hwx
            have hl9 := (Hlw.out.trans H8.out).drewN q
            have Hl9 := Lib.hid hl9
            clear hl9
            go_wp2_with fail
            refine (awake13 _).mono ?_
            rintro e w9 ⟨rfl, hb9⟩
            go_wp2_with fail
            go_ret
            exact ⟨rfl, Hl9.out.call hb9⟩
end Go.Proofs.Ytjkhpbngpceenab
namespace Go.Proofs.Ytjkhpbngpceenab.priceParts
open Go.ChangeShapes Go.WideShapes Go.ChangeAt Go.RowKit
open Go.ChangeMaps (open_string shut_string)

theorem own : ownKnob Try.prog.godebug = none := by kernel_rfl
theorem laidOut : laidOutB Try.prog = true := by kernel_rfl

set_option maxRecDepth 100000 in
theorem lifted (os : Os) (started : os.Started) (H : Type) (enc : TypeId × Value → H) (Fi : Stop.Interp) :
    ReturnsInHanded {} Try.checked os 4 .any ((Rows.OpenSpec.upto Rows.pricePartsSpec).pre6 enc Try.prog Try.f4 Rows.pricePartsUptoRow.domain false) (((Rows.OpenSpec.upto Rows.pricePartsSpec).at Fi).post enc Try.prog Try.f4 false true false false) := by
  refine returnsInHanded_of_cond (C := Try.checked) (s := Rows.OpenSpec.upto Rows.pricePartsSpec) (k := Rows.uptoSmall) rfl own started (by kernel_rfl) Try.func4
    (OpenSpec.witness (enc := enc) (C := Try.checked) (s := Rows.OpenSpec.upto Rows.pricePartsSpec) (k := Rows.uptoSmall) rfl false ⟨#[], #[.agg #[.slice none 0 0, .slice none 0 0], .int .i64 0], []⟩ 8 (by kernel_rfl) (by kernel_rfl) (by kernel_rfl)
      (x := ([.agg [.nil, .nil], .lit (.int .i64 0)], [], [])) (by kernel_rfl) rfl (by kernel_rfl)) ?_
  intro W base args ds gs before hval0 hW hcnd hbulk _
  have hval : ∀ (j : Nat) t v, Try.f4.params[j]? = some t → args[j]? = some v → Value.okWide Try.prog W .any base t v := hval0
  have hW' := hW
  obtain ⟨p, q, hA0, hV, rfl, hfz, hnd⟩ := hW
  have hA : DataW.TrodAll enc Try.prog W 0 (fun _ => true) true Try.f4.params.toList args.toList ds p := hA0
  rw [Try.params4] at hA hval
  obtain ⟨v0, vs0, d0, ds0, p0, q0, hargs, rfl, rfl, h0, r0⟩ := trodAll_cons hA
  obtain ⟨v1, vs1, d1, ds1, p1, q1, rfl, rfl, rfl, h1, r1⟩ := trodAll_cons r0
  obtain ⟨rfl, rfl, rfl⟩ := trodAll_nil r1
  obtain rfl : args = #[v0, v1] := by cases args; simp_all
  obtain ⟨rfl, rfl⟩ := trodVars_none hV
  have hbk : Rows.uptoBulkAll ([d0, d1] ++ []) ≤ 1048576 := of_decide_eq_true hbulk
  have hz0 : Rows.uptoBulk d0 ≤ 1048576 := Nat.le_trans (bulk_part (by simp)) hbk
  have k0 := h0
  have lt0 : ∀ x ∈ p0, x.block < W.heap.size := by obtain ⟨m, hm⟩ := k0; exact DataW.trod_lt m _ _ _ hm
  have k1 := h1
  have lt1 : ∀ x ∈ p1, x.block < W.heap.size := by obtain ⟨m, hm⟩ := k1; exact DataW.trod_lt m _ _ _ hm
  obtain ⟨A0, N0, c10, c20, n0, rfl, la0, lb0, lc0, ld0, hS0, hw0⟩ := net_open (hval 0 26 v0 rfl rfl) h0 hz0
  obtain ⟨a1, rfl, rfl, rfl, w1⟩ := open_int Try.underlying3 (hval 1 3 v1 rfl rfl) h1
  clear hA0 hval0
  refine (walkPriceParts W A0 N0 c10 c20 n0 la0 lb0 lc0 ld0 hS0 hw0 a1 w1).mono fun e W' ⟨he, bel⟩ => ?_
  subst he
  exact ⟨_, rfl, _, _, _, [], _, [], hW', trodAll_mk1 (shut_bool Try.underlying4 _), (trodAll_cons_mk (Below.trod laidOut (by kernel_rfl) (of_decide_eq_true (by kernel_rfl)) k0 bel lt0) (trodAll_cons_mk (Below.trod laidOut (by kernel_rfl) (of_decide_eq_true (by kernel_rfl)) k1 bel lt1) trodAll_mk0)), rfl, bel.frame _, fun h => by cases h⟩

theorem over : Rows.pricePartsUptoRow.holds Try.pinned (Rows.OpenSpec.upto Rows.pricePartsSpec) :=
  OpenClaim.holds_of_cond 4 Try.f4 rfl rfl rfl rfl rfl rfl rfl ⟨rfl, rfl, rfl, rfl, rfl⟩ rfl rfl rfl rfl rfl (by kernel_rfl) Try.func4 (by kernel_rfl)
    (of_decide_eq_true (by kernel_rfl)) (by unfold Func.isWrapper; first | (rw [if_pos (by decide +kernel)]; kernel_rfl) | (rw [if_neg (by decide +kernel)]; exact ⟨rfl, rfl⟩))
    (fun os started H enc _ Fi => lifted os started H enc Fi)
end Go.Proofs.Ytjkhpbngpceenab.priceParts
namespace Go.Proofs.Ytjkhpbngpceenab
theorem priceParts_holds : Rows.PricePartsUptoSaid := priceParts.over
#print axioms priceParts_holds
end Go.Proofs.Ytjkhpbngpceenab
