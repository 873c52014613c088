/- The statement Rows.PlainForwardUptoSaid is proved: for every input the law 'athanorlaw14.PlainForward' returns true, and each argument reads afterwards as it read before. Conditions: those of the row, no others. -/
import Derived.Below
import Derived.ChangeOld
import Derived.JoinedCond
import Derived.OpenShut
import Derived.ProofKit
import Derived.ShutString
import Derived.WalkKit
import Derived.Test.YtbnnpkcfifejmabGreatRows
import Derived.Test.YtbnnpkcfifejmabGreatZ14
set_option linter.unusedVariables false
namespace Go.Proofs.YtbnnpkcfifejmabGreat
open Go.RowKit
theorem tnso_at {B G : Nat} {w : World} {ts : List Ten} (h : TnsO B w (some ⟨G, 0, none⟩) ts) {j : Nat} (hj : j < ts.length) : ∃ S c C d, w.cell? ⟨G, j * 2, none⟩ = some (.slice S (Ly.got ts j).s.length c) ∧ w.cell? ⟨G, j * 2 + 1, none⟩ = some (.slice C (Ly.got ts j).c.length d) ∧ TenIn w S C c d (Ly.got ts j) := by
 obtain ⟨b, S, c, C, d, e, h0, h1, h2⟩ := h.2 j hj
 injection e with e
 injection e with e
 subst e
 rw [got_at hj]
 exact ⟨S, c, C, d, h0, h1, h2.ten⟩
set_option maxRecDepth 20000 in
set_option maxHeartbeats 16000000 in
theorem walkPlainForward (w : World) (A N P XS XC : Option Addr) (c d cp xc xd : Nat) (n : NetD) (ps : List Ten) (x : Ten) (hok : n.ok) (hR : NetR w A N n) (hd : n.nodes.length ≤ d) (hc : n.inn.length ≤ c) (hcm : c ≤ 9223372036854775807) (hP : Tns w P ps) (lP : ps.length ≤ 1048576) (kP : ps.length ≤ cp) (mP : cp ≤ 9223372036854775807) (nP : P = none → cp = 0) (hX : TenIn w XS XC xc xd x) :
  Calls Tryz.prog 3 #[.agg #[.slice A n.inn.length c, .slice N n.nodes.length d, .slice P ps.length cp, .slice XS x.s.length xc, .slice XC x.c.length xd]] w fun e w' => e = .returned (.bool true) ∧ Below w.heap.size w w' := by
 have hk := Blk.new w 32 #[.slice A n.inn.length c, .slice N n.nodes.length d, .slice P ps.length cp, .slice XS x.s.length xc, .slice XC x.c.length xd]
 have h01 : Later w (w.alloc (.cells #[.slice A n.inn.length c, .slice N n.nodes.length d, .slice P ps.length cp, .slice XS x.s.length xc, .slice XC x.c.length xd] 32)) := (Later.refl w).alloc _
 obtain ⟨i0, hi, ht0, ht1, ht2⟩ := info_parts tenY_info
 have Hok := Lib.hid hok
 have HR := Lib.hid hR
 have HP := Lib.hid hP
 have Hk := Lib.hid hk
 have H01 := Lib.hid h01
 have HX := Lib.hid hX
 have HnP := Lib.hid nP
 clear hok hR hP hk h01 hX nP
 go_enter Tryz.func3, Tryz.ntmps3
 go_upto_region 1 with fail
 generalize w.alloc (.cells #[.slice A n.inn.length c, .slice N n.nodes.length d, .slice P ps.length cp, .slice XS x.s.length xc, .slice XC x.c.length xd] 32) = w1 at *
 obtain ⟨y0, y1, y2, y3, y4⟩ := case_five Hk.out
 go_wp2_with fail
 refine (small_14 A N P XS XC c d cp xc xd n ps x w1 Hok.out (HR.out.below H01.out (Nat.le_refl _)) (HP.out.later H01.out) lP (HX.out.later H01.out)).mono ?_
 rintro e w2 ⟨b, rfl, -, hb2⟩
 have h02 := H01.out.call hb2
 have hk2 := (show Later w1 w2 from hb2).blk Hk.out
 clear hb2 y0 y1 y2 y3 y4
 cases b
 ·have H02 := Lib.hid h02
  have Hk2 := Lib.hid hk2
  clear h02 hk2
  go_wp2_with fail
  refine (awake14 _).mono ?_
  rintro e w3 ⟨rfl, hb3⟩
  go_wp2_with fail
  go_ret
  exact ⟨rfl, H02.out.call hb3⟩
 obtain ⟨y0, y1, y2, y3, y4⟩ := case_five hk2
 have H02 := Lib.hid h02
 have Hk2 := Lib.hid hk2
 clear h02 hk2
 go_wp2_with fail
 refine (fits_14 A N P XS XC c d cp xc xd n ps x w2 Hok.out (HR.out.below H02.out (Nat.le_refl _)) hd hc hcm (HP.out.later H02.out) lP (HX.out.later H02.out)).mono ?_
 rintro e w3 ⟨rfl, hb3⟩
 have h03 := H02.out.call hb3
 have hk3 := (show Later w2 w3 from hb3).blk Hk2.out
 clear hb3 y0 y1 y2 y3 y4 Hk Hk2
 by_cases hf : Pn.fits n ps x = 0
 case neg =>
  have d2 : (Pn.fits n ps x != 0) = true := by simpa using hf
  clear hf
  generalize Pn.fits n ps x = e0 at *
  have H03 := Lib.hid h03
  have Hk3 := Lib.hid hk3
  clear h03 hk3
  go_wp2_with fail
  refine (awake14 _).mono ?_
  rintro e w4 ⟨rfl, hb4⟩
  go_wp2_with fail
  go_ret
  exact ⟨rfl, H03.out.call hb4⟩
 rw [hf]
 obtain ⟨vals, hv1, hv2, hv3, hv4, hv5⟩ := Pn.forward_good hf
 obtain ⟨hchk, hpl, hpo, -⟩ := Pn.fits_ok hf
 obtain ⟨c1, c2, c3, c4, c5, c6, c7, c8⟩ := Nt.check_ok hchk
 have hinr : ∀ v ∈ n.nodes, ∀ i ∈ v.ins, 0 ≤ i ∧ i ≤ n.nodes.length := fun v hv => (Nt.bads_all c4 v hv).2
 obtain ⟨hpm, hpr⟩ := Pn.par_map hpl hpo
 have hsm : ∀ t ∈ ps, t.s.length ≤ 1000000 ∧ t.c.length ≤ 1000000 := fun t ht => by
  obtain ⟨r1, r2⟩ := Ly.right_s (hpr t ht)
  obtain ⟨_, q1, _, _, _, q2⟩ := Sh.right_mul r1
  exact ⟨by omega, by omega⟩
 have hshl := Nt.shapes_len hchk
 clear hf c1 c3 c4 c5 c6 c7 c8 hpo hpr
 obtain ⟨y0, y1, y2, y3, y4⟩ := case_five hk3
 have H03 := Lib.hid h03
 have Hk3 := Lib.hid hk3
 have Hv1 := Lib.hid hv1
 have Hv2 := Lib.hid hv2
 have Hv3 := Lib.hid hv3
 have Hv4 := Lib.hid hv4
 have Hv5 := Lib.hid hv5
 have Hchk := Lib.hid hchk
 have Hpl := Lib.hid hpl
 have Hinr := Lib.hid hinr
 have Hpm := Lib.hid hpm
 have Hsm := Lib.hid hsm
 have Hshl := Lib.hid hshl
 clear h03 hk3 hv1 hv2 hv3 hv4 hv5 hchk hpl hinr hpm hsm hshl
 go_wp2_with fail
 refine (plain_forward A N P XS XC c d cp xc xd n ps x w3 Hok.out (HR.out.below H03.out (Nat.le_refl _)) hd (HP.out.later H03.out) lP kP mP HnP.out (HX.out.later H03.out)).mono ?_
 rw [Hv1.out]
 rintro e w4 ⟨⟨hbad, -⟩ | ⟨-, G, rfl, hV⟩, hb4⟩
 ·exact absurd rfl hbad
 simp only [Hv2.out]
 have h34 : Later w3 w4 := hb4
 have h04 := H03.out.trans h34
 have hk4 := h34.blk Hk3.out
 clear hb4 y0 y1 y2 y3 y4 Hk3
 obtain ⟨y0, y1, y2, y3, y4⟩ := case_five hk4
 have H34 := Lib.hid h34
 have H04 := Lib.hid h04
 have Hk4 := Lib.hid hk4
 have HV := Lib.hid hV
 clear h34 h04 hk4 hV
 go_wp2_with fail
 refine (net_shapes A N c d n w4 Hok.out (HR.out.below H04.out (Nat.le_refl _)) hd).mono ?_
 rintro e w5 ⟨hb5, ⟨-, g, rfl, -, hSh⟩ | ⟨hbad, -⟩⟩
 rotate_left
 ·exact absurd Hchk.out hbad
 have h45 : Later w4 w5 := hb5
 have h05 := H04.out.trans h45
 have hk5 := h45.blk Hk4.out
 have hV5 := HV.out.later h45
 clear hb5 y0 y1 y2 y3 y4 Hk4 HV
 obtain ⟨y0, y1, y2, y3, y4⟩ := case_five hk5
 obtain ⟨S0, sc0, C0, cc0, z0, z1, hT0⟩ := tnso_at hV5 (j := 0) (by rw [Hv2.out]; omega)
 rw [Hv3.out] at z0 z1 hT0
 simp at z0 z1
 have heq := fun (W : World) (h : Later w5 W) => tensor_equal S0 C0 XS XC sc0 cc0 xc xd x x W (by have := hT0.l1; omega) (by have := hT0.l2; omega) (by have := hT0.l1; omega) (by have := hT0.l2; omega) (hT0.later h).r ((HX.out.later (h05.trans h)).r)
 rw [show Tn.eq x x = true from (Tn.eq_iff x x).2 rfl] at heq
 clear hT0
 have q1 : (((n.nodes.length + 1 : Nat) : Int) != (n.nodes.length : Int) + 1) = false := by simp
 have q0 : (((n.nodes.length + 1 : Nat) : Int) != ((n.nodes.length + 1 : Nat) : Int)) = false := by simp
 have q5 : IntKind.i64.wrap ((n.nodes.length : Int) + 1) = (n.nodes.length : Int) + 1 := IntWalk.i64_in _ (by have := Hok.out.2.1; omega)
 have H45 := Lib.hid h45
 have H05 := Lib.hid h05
 have Hk5 := Lib.hid hk5
 have HV5 := Lib.hid hV5
 have HSh := Lib.hid hSh
 have Heq := Lib.hid heq
 clear h45 h05 hk5 hV5 hSh heq
 go_upto_region 5 with fail
 have KF := Lib.hid (show ∀ Xw, Later w5 Xw → Xw.cell? ⟨w.heap.size, 1, none⟩ = some (.slice N n.nodes.length d) ∧ Xw.cell? ⟨w.heap.size, 3, none⟩ = some (.slice XS x.s.length xc) ∧ Xw.cell? ⟨w.heap.size, 4, none⟩ = some (.slice XC x.c.length xd) ∧ Xw.cell? ⟨G, 0, none⟩ = some (.slice S0 x.s.length sc0) ∧ Xw.cell? ⟨G, 1, none⟩ = some (.slice C0 x.c.length cc0) from fun Xw h => ⟨h.cell y1, h.cell y3, h.cell y4, h.cell z0, h.cell z1⟩)
 refine wp_region_noPanic ?_
 refine wp_region_held_drew (S := fun Xw => Xw.cell? ⟨w.heap.size, 1, none⟩ = some (.slice N n.nodes.length d) ∧ Xw.cell? ⟨w.heap.size, 3, none⟩ = some (.slice XS x.s.length xc) ∧ Xw.cell? ⟨w.heap.size, 4, none⟩ = some (.slice XC x.c.length xd) ∧ Xw.cell? ⟨G, 0, none⟩ = some (.slice S0 x.s.length sc0) ∧ Xw.cell? ⟨G, 1, none⟩ = some (.slice C0 x.c.length cc0)) (by kernel_rfl) (KF.out _ Later.au) (fun hHeld => ?_)
 refine tk 0 ?_
 refine tk 1 ?_
 refine tk 2 ?_
 refine tk 3 ?_
 refine tk 4 ?_
 refine tk 5 ?_
 refine tk 6 ?_
 refine tk 7 ?_
 refine tk 8 ?_
 refine tk 9 ?_
 refine tk 10 ?_
 refine tk 11 ?_
 refine tk 12 ?_
 refine tk 13 ?_
 refine tk 14 ?_
 refine tk 15 ?_
 refine tk 16 ?_
 refine tk 17 ?_
 refine tk 18 ?_
 refine tk 19 ?_
 refine tk 20 ?_
 refine rd 21 fun K hK => ?_
 simp only [ga, gs, gz]
 go_simp
 refine hK.out _ _ (KF.out _ Later.au) (fun hHeld => ?_)
 clear hK K
 try simp only [ga, gs, gz, Act.put, sa, sz, ss]
 refine tk 22 ?_
 refine tk 23 ?_
 refine tk 24 ?_
 refine tk 25 ?_
 refine tk 26 ?_
 refine tk 27 ?_
 refine tk 28 ?_
 refine rd 29 fun K hK => ?_
 simp only [ga, gs, gz]
 go_simp
 go_at_call 9; (with_reducible refine (Heq.out _ (Later.au : Later w5 _)).mono ?_); rintro e wg ⟨rfl, hbg⟩
 try go_wp2_with fail
 refine hK.out _ _ (KF.out _ Later.au) (fun hHeld => ?_)
 clear hK K
 try simp only [ga, gs, gz, Act.put, sa, sz, ss]
 refine tk 30 ?_
 refine tk 31 ?_
 clear KF
 refine wpAnyH_done (by kernel_rfl) ?_ _
 refine NoPanic.normal ?_
 have h5g : Later w5 wg := (Later.au : Later w5 wg)
 have h0g := H05.out.trans h5g
 have hkg := h5g.blk Hk5.out
 have hVg := HV5.out.later h5g
 have hShg := HSh.out.below h5g (Nat.le_refl _)
 clear hbg hHeld y0 y1 y2 y3 y4 z0 z1 q0 q1 HV5 HSh Hk5 Heq
 have H5g := Lib.hid h5g
 have H0g := Lib.hid h0g
 have Hkg := Lib.hid hkg
 have HVg := Lib.hid hVg
 have HShg := Lib.hid hShg
 clear h5g h0g hkg hVg hShg
 obtain ⟨y0, y1, y2, y3, y4⟩ := case_five Hkg.out
 go_wp2_with fail
 clear y0 y1 y2 y3 y4
 go_loopw [7, 78] (fun kv iv wx => ∃ j : Nat, j ≤ n.nodes.length ∧ iv = .int .i64 (j : Int) ∧ kv = .int .i64 ((Pn.from_ n.nodes j : Nat) : Int) ∧ Later wg wx) (fun _ iv _ => n.nodes.length - (intOf iv).toNat)
 case atStart => exact ⟨0, Nat.zero_le _, rfl, rfl, Later.refl _⟩
 case round =>
  obtain ⟨j, hj, rfl, rfl, hlw⟩ := hrel
  have h0w := H0g.out.trans hlw
  by_cases hlt : j < n.nodes.length
  ·obtain ⟨b, off, S, sc, J, ic, Q, qc, hNe, hNA, hs1, hs2, hs3'⟩ := HR.out.2.at_ hlt
   subst hNe
   have hvok := Hok.out.2.2 _ (List.getElem_mem hlt)
   have hvin := Hinr.out _ (List.getElem_mem hlt)
   have hfj := Pn.from_succ hlt
   have hfle : Pn.from_ n.nodes (j + 1) ≤ ps.length := by rw [Hpl.out]; exact Pn.from_le
   have hst : Ly.go n.nodes[j].op ((ps.drop (Pn.from_ n.nodes j)).take n.nodes[j].p.length) (Pn.pickT vals n.nodes[j].ins) = (Ly.got vals (j + 1), 0) := by
    have h5 := Hv5.out ((j : Int) + 1) (by omega) (by omega)
    unfold Pn.step Pn.parts at h5
    rw [Nt.node_at hlt, show ((j : Int) + 1).toNat - 1 = j by omega, show ((j : Int) + 1).toNat = j + 1 by omega] at h5
    exact h5
   have hpt : Pn.part n ((j : Int) + 1) = ((Pn.from_ n.nodes j : Int), (Pn.from_ n.nodes (j + 1) : Int)) := by
    unfold Pn.part
    rw [if_neg (by omega), show ((j : Int) + 1).toNat = j + 1 by omega]
    rfl
   have HFS := Lib.hid hfj
   rw [hfj] at hpt hfle
   clear hfj
   generalize n.nodes[j] = v at *
   generalize Pn.from_ n.nodes j = fr at *
   obtain ⟨⟨n0, n1, n2, n3, n4, n5, n6, n7, n8, n9⟩, hIs, hIi, hIp⟩ := hNA.below h0w
   obtain ⟨y0, y1, y2, y3, y4⟩ := case_five (hlw.blk Hkg.out)
   have hlb := hlw.alloc (.cells #[.int .i64 v.op.kind, .int .i64 v.op.k, .int .i64 v.op.width, .int .i64 v.op.step, .int .i64 v.op.side, .int .i64 v.op.frm, .int .i64 v.op.to, .slice S v.op.s.length sc, .slice J v.ins.length ic, .slice Q v.p.length qc] 47)
   have hbx := Blk.new wr 47 #[.int .i64 v.op.kind, .int .i64 v.op.k, .int .i64 v.op.width, .int .i64 v.op.step, .int .i64 v.op.side, .int .i64 v.op.frm, .int .i64 v.op.to, .slice S v.op.s.length sc, .slice J v.ins.length ic, .slice Q v.p.length qc]
   have hL1 := (Later.refl wr).alloc (.cells #[.int .i64 v.op.kind, .int .i64 v.op.k, .int .i64 v.op.width, .int .i64 v.op.step, .int .i64 v.op.side, .int .i64 v.op.frm, .int .i64 v.op.to, .slice S v.op.s.length sc, .slice J v.ins.length ic, .slice Q v.p.length qc] 47)
   have Hlw := Lib.hid hlw
   have H0w := Lib.hid h0w
   have HNA := Lib.hid hNA
   have Hvok := Lib.hid hvok
   have Hvin := Lib.hid hvin
   have Hst := Lib.hid hst
   have Hpt := Lib.hid hpt
   have Hlb := Lib.hid hlb
   have Hbx := Lib.hid hbx
   have HIs := Lib.hid hIs
   have HIi := Lib.hid hIi
   have HIp := Lib.hid hIp
   have HL1 := Lib.hid hL1
   clear hlw h0w hNA hvok hvin hst hpt hlb hbx hIs hIi hIp hL1
   go_upto_region 13 with fail
   generalize wr.alloc (.cells #[.int .i64 v.op.kind, .int .i64 v.op.k, .int .i64 v.op.width, .int .i64 v.op.step, .int .i64 v.op.side, .int .i64 v.op.frm, .int .i64 v.op.to, .slice S v.op.s.length sc, .slice J v.ins.length ic, .slice Q v.p.length qc] 47) = wb at *
   generalize wr.heap.size = pb at *
   clear n0 n1 n2 n3 n4 n5 n6 n7 n8 n9 y0 y1 y2 y3 y4
   have hVb := HVg.out.later Hlb.out
   have hIb := HIi.out.below HL1.out (Nat.le_refl _)
   obtain ⟨vo1, vo2, vo3, vo4, -, -⟩ := Hvok.out
   have HVb := Lib.hid hVb
   have HIb := Lib.hid hIb
   clear hVb hIb
   go_loopw [10, 86] (fun sv mv wx => ∃ (m : Nat) (vs : List Value), m ≤ v.ins.length ∧ mv = .int .i64 (m : Int) ∧ wx.ownsRow wb.heap.size 30 2 sv m vs ∧ RowT wb vs (Pn.pickT vals (v.ins.take m)) ∧ Later wb wx) (fun _ mv _ => v.ins.length - (intOf mv).toNat)
   case atStart => exact ⟨0, [], Nat.zero_le _, rfl, ⟨rfl, .inl ⟨rfl, rfl⟩⟩, RowT.nil _, Later.refl _⟩
   case round =>
    obtain ⟨m, vs, hm, rfl, hown, hrow, hlx⟩ := hrel
    obtain ⟨Ao, co, rfl⟩ := own_form hown
    by_cases hml : m < v.ins.length
    ·obtain ⟨bj, oj, hJe, -, hcj⟩ := (HIb.out.below hlx (Nat.le_refl _)) m hml
     subst hJe
     rw [get_at hml] at hcj
     obtain ⟨hi0, hi1⟩ := Hvin.out _ (List.getElem_mem hml)
     have htk : Pn.pickT vals (v.ins.take (m + 1)) = Pn.pickT vals (v.ins.take m) ++ [Ly.got vals v.ins[m].toNat] := by
      unfold Pn.pickT
      rw [List.take_succ_eq_append_getElem hml, List.map_append]
      rfl
     obtain ⟨id, hid⟩ : ∃ id : Nat, v.ins[m] = (id : Int) := ⟨v.ins[m].toNat, by omega⟩
     rw [hid] at hcj hi1 htk
     rw [Int.toNat_natCast] at htk
     clear hid hi0
     obtain ⟨Si, ci, Ci, di, z0, z1, hTi⟩ := tnso_at HVb.out (j := id) (by rw [Hv2.out]; omega)
     have z0' := hlx.cell z0
     have z1' := hlx.cell z1
     have hone := RowT.one hTi
     generalize Ly.got vals id = ti at *
     have q1 : ¬ ((id : Int) < 0) := by omega
     have q2 : decide ((id : Int) < 0) = false := by simp
     have q3 : decide ((n.nodes.length : Int) + 1 ≤ (id : Int)) = false := by simp; omega
     have q4 : (id : Int) < (n.nodes.length : Int) + 1 := by omega
     have hl1 := hlx.alloc (.cells #[.slice Si ti.s.length ci, .slice Ci ti.c.length di] 30)
     have hownA := ownsRow_new hown (.cells #[.slice Si ti.s.length ci, .slice Ci ti.c.length di] 30)
     have hnb := Blk.new wr 30 #[.slice Si ti.s.length ci, .slice Ci ti.c.length di]
     have k0 := hnb.cell 0
     have k1 := hnb.cell 1
     simp at k0 k1
     have hwb : wb.heap.size ≤ wr.heap.size := hlx.size
     have hlo := fun b (hb : (Value.slice Ao m co).ownBlock = some b) => (hown.lt b hb).1
     clear z0 z1 hTi hown hlx
     have Hrow := Lib.hid hrow
     have Htk := Lib.hid htk
     have Hone := Lib.hid hone
     have Hl1 := Lib.hid hl1
     have HownA := Lib.hid hownA
     have Hnb := Lib.hid hnb
     have Hlo := Lib.hid hlo
     clear hrow htk hone hl1 hownA hnb hlo
     go_wp2_with (at_builtin; refine wpList_append_own_at _ rfl _ _ 27 rfl wb.heap.size 30 i0 (.agg #[.slice none 0 0, .slice none 0 0]) 2 48 Tryz.underlying27 hi ht0 ht1 ht2 rfl (by decide) _ _ _ rfl HownA.out ⟨wr.heap.size, 0, none⟩ 1 1 [.slice Si ti.s.length ci, .slice Ci ti.c.length di] rfl rfl ?c1 (by intro u hu; simp at hu; rcases hu with rfl | rfl <;> rfl) (by unfold maxLen; omega) (by first | omega | (simp; omega)) ?c2 ?_)
     case c2 => first | omega | (simp; omega)
     intro v' w6 hown' hgrow _ hat
     have hl6 : Later wb w6 := Hl1.out.grown hgrow (by simp; omega) (fun b hb => Hlo.out b hb)
     have hrow2 : RowT wb (vs ++ [.slice Si ti.s.length ci, .slice Ci ti.c.length di]) (Pn.pickT vals (v.ins.take (m + 1))) := by rw [Htk.out]; exact Hrow.out.append Hone.out
     clear hgrow hat k0 k1 z0' z1' q1 q2 q3 q4
     have Hown' := Lib.hid hown'
     have Hl6 := Lib.hid hl6
     have Hrow2 := Lib.hid hrow2
     clear hown' hl6 hrow2
     go_wp2_with fail
     go_roundw
     case rel => exact ⟨m + 1, _, by omega, by go_num, Hown'.out, Hrow2.out, Hl6.out⟩
     case measure => simp [intOf]; omega
    ·obtain rfl : m = v.ins.length := by omega
     rw [List.take_length] at hrow
     have hpl2 : (Pn.pickT vals v.ins).length = v.ins.length := by simp [Pn.pickT]
     obtain ⟨Ax, cx, hve, -, hTx, hk1, hk2⟩ := hrow.tns hown hlx
     injection hve with e1 e2 e3
     clear e2
     subst e1 e3
     rw [hpl2] at hk1
     have h0r := (H0g.out.trans Hlb.out).trans hlx
     have hgr := Hlb.out.trans hlx
     have hTn := tns_sliced (HP.out.later h0r) kP HnP.out (Nat.le_add_right fr v.p.length) hfle
     rw [Nat.add_sub_cancel_left] at hTn
     have hsub : ((ps.drop fr).take v.p.length).length = v.p.length := by rw [List.length_take, List.length_drop]; omega
     have hbr := hlx.blk Hbx.out
     have n9 : wr.cell? ⟨pb, 9, none⟩ = some (.slice Q v.p.length qc) := hbr.cell 9
     obtain ⟨y0, y1, y2, y3, y4⟩ := case_five (hgr.blk Hkg.out)
     have u1 : (fr : Int) ≤ (fr : Int) + (v.p.length : Int) := by omega
     have u2 : (fr : Int) + (v.p.length : Int) ≤ (cp : Int) := by omega
     have u3 : IntKind.i64.wrap ((fr : Int) + (v.p.length : Int)) = (fr : Int) + (v.p.length : Int) := IntWalk.i64_in _ (by omega)
     have u6 : ((fr : Int) + (v.p.length : Int)).toNat - fr = v.p.length := by omega
     clear hown hrow
     have Hlx := Lib.hid hlx
     have H0r := Lib.hid h0r
     have Hgr := Lib.hid hgr
     have HTn := Lib.hid hTn
     have Hsub := Lib.hid hsub
     have Hbr := Lib.hid hbr
     have HTx := Lib.hid hTx
     have Hpl2 := Lib.hid hpl2
     clear hlx h0r hgr hTn hsub hbr hTx hpl2
     go_upto_region 19 with fail
     go_cut [13] (fun a wx => wr = wx ∧ ∃ Q2 cq, a = .slice Q2 v.p.length cq ∧ Tns wr Q2 ((ps.drop fr).take v.p.length))
     case first =>
      have hTn := HTn.out
      by_cases hcf : cp = fr
      ·have u9 : (cp = fr) = True := eq_true hcf
       rw [if_pos hcf] at hTn
       clear hcf HTn
       have HTn := Lib.hid hTn
       clear hTn
       go_wp2_with fail
       all_goals (go_meet; exact ⟨rfl, _, _, rfl, HTn.out⟩)
      ·have u9 : (cp = fr) = False := eq_false hcf
       rw [if_neg hcf] at hTn
       have u8 : fr < cp := by omega
       clear hcf HTn
       cases P with
       | none => exact absurd (HnP.out rfl) (by omega)
       | some aP =>
        have hTn2 : Tns wr (some (aP.add (fr * 2))) ((ps.drop fr).take v.p.length) := hTn
        clear hTn
        have HTn2 := Lib.hid hTn2
        clear hTn2
        go_wp2_with fail
        all_goals (go_meet; exact ⟨rfl, _, _, rfl, HTn2.out⟩)
     case rest =>
      obtain ⟨rfl, Q2, cq, rfl, hT4⟩ := hcut
      clear u1 u2 u3 u6 HTn
      have hof := plain_of A (some ⟨b, off, none⟩) P c d cp n ps ((j : Int) + 1) wr Hok.out (HR.out.below H0r.out (Nat.le_refl _)) hd (HP.out.later H0r.out) lP kP mP HnP.out Hpl.out (by omega) (by have := Hok.out.2.1; omega) Hsm.out
      rw [Hpt.out] at hof
      have v1 : IntKind.i64.wrap ((j : Int) + 1) = (j : Int) + 1 := IntWalk.i64_in _ (by have := Hok.out.2.1; omega)
      have HT4 := Lib.hid hT4
      have Hof := Lib.hid hof
      clear hT4 hof
      go_wp2_with fail
      refine (Hof.out).mono ?_
      rintro e w7 ⟨Aq, cqq, rfl, hb7⟩
      have h7 : Later wr w7 := hb7
      rw [show ((((fr : Int), ((fr + v.p.length : Nat) : Int)) : Int × Int).2.toNat - (((fr : Int), ((fr + v.p.length : Nat) : Int)) : Int × Int).1.toNat) = v.p.length by simp; omega]
      have b7 := h7.blk Hbr.out
      obtain ⟨y0', y1', y2', y3', y4'⟩ := case_five ((Hgr.out.trans h7).blk Hkg.out)
      clear y0 y1 y2 y3 y4 n9
      obtain ⟨m0, m1, m2, m3, m4, m5, m6, m7, m8, m9⟩ : w7.cell? ⟨pb, 0, none⟩ = some (.int .i64 v.op.kind) ∧ w7.cell? ⟨pb, 1, none⟩ = some (.int .i64 v.op.k) ∧ w7.cell? ⟨pb, 2, none⟩ = some (.int .i64 v.op.width) ∧ w7.cell? ⟨pb, 3, none⟩ = some (.int .i64 v.op.step) ∧ w7.cell? ⟨pb, 4, none⟩ = some (.int .i64 v.op.side) ∧ w7.cell? ⟨pb, 5, none⟩ = some (.int .i64 v.op.frm) ∧ w7.cell? ⟨pb, 6, none⟩ = some (.int .i64 v.op.to) ∧ w7.cell? ⟨pb, 7, none⟩ = some (.slice S v.op.s.length sc) ∧ w7.cell? ⟨pb, 8, none⟩ = some (.slice J v.ins.length ic) ∧ w7.cell? ⟨pb, 9, none⟩ = some (.slice Q v.p.length qc) :=
       ⟨b7.cell 0, b7.cell 1, b7.cell 2, b7.cell 3, b7.cell 4, b7.cell 5, b7.cell 6, b7.cell 7, b7.cell 8, b7.cell 9⟩
      have hgo := op_go v.op S Q2 Ao sc cq co ((ps.drop fr).take v.p.length) (Pn.pickT vals v.ins) w7 vo2 (HIs.out.below (HL1.out.trans (Hlx.out.trans h7)) (Nat.le_refl _)) (vo1 _ (by simp)) (HT4.out.later h7) (HTx.out.later h7) (by rw [Hpl2.out]; exact vo3) (by rw [Hpl2.out]; exact hk1) hk2
      rw [Hst.out, Hsub.out, Hpl2.out] at hgo
      clear hb7 y0' y1' y2' y3' y4' m8 m9 v1
      have H7 := Lib.hid h7
      have Hb7 := Lib.hid b7
      have Hgo := Lib.hid hgo
      clear h7 b7 hgo
      go_wp2_with fail
      refine (Hgo.out).mono ?_
      rintro e w8 ⟨⟨hbad, -⟩ | ⟨-, vv, rfl, S3, c3, C3, d3, rfl, hT3, -, -⟩, hb8⟩
      ·exact absurd rfl hbad
      have h8 : Later w7 w8 := hb8
      have h9 : Later w7 (w8.alloc (.cells #[.slice S3 (Ly.got vals (j + 1)).s.length c3, .slice C3 (Ly.got vals (j + 1)).c.length d3] 30)) := h8.alloc _
      have hk9 := Blk.new w8 30 #[.slice S3 (Ly.got vals (j + 1)).s.length c3, .slice C3 (Ly.got vals (j + 1)).c.length d3]
      have hT9 := hT3.later ((Later.refl w8).alloc (.cells #[.slice S3 (Ly.got vals (j + 1)).s.length c3, .slice C3 (Ly.got vals (j + 1)).c.length d3] 30))
      have hg9 := (Hgr.out.trans H7.out).trans h9
      have hb9 := h9.blk Hb7.out
      clear hb8 m0 m1 m2 m3 m4 m5 m6 m7
      have H8 := Lib.hid h8
      have H9 := Lib.hid h9
      have Hk9 := Lib.hid hk9
      have HT9 := Lib.hid hT9
      have Hg9 := Lib.hid hg9
      have Hb9 := Lib.hid hb9
      clear h8 h9 hk9 hT9 hg9 hb9
      go_upto_region 22 with fail
      generalize w8.alloc (.cells #[.slice S3 (Ly.got vals (j + 1)).s.length c3, .slice C3 (Ly.got vals (j + 1)).c.length d3] 30) = w9 at *
      generalize w8.heap.size = rb at *
      obtain ⟨Sl, cl, Cl, dl, z0, z1, hTl⟩ := tnso_at (HVg.out.later Hg9.out) (j := j + 1) (by rw [Hv2.out]; omega)
      obtain ⟨Ss, cs, z2, hIs2, -, -, -⟩ := (HShg.out.below Hg9.out (Nat.le_refl _)).at_ (j := j + 1) (by rw [Hshl.out]; omega)
      have hshe : (Nt.shapes n)[j + 1]'(by rw [Hshl.out]; omega) = (Ly.got vals (j + 1)).s := by
       have hjv : j + 1 < vals.length := by rw [Hv2.out]; omega
       have := Hv4.out
       rw [got_at hjv]
       simp [← this]
      rw [hshe] at z2 hIs2
      have hteq := fun (V : World) (h : Later w9 V) => tensor_equal S3 C3 Sl Cl c3 d3 cl dl (Ly.got vals (j + 1)) (Ly.got vals (j + 1)) V (by have := hTl.l1; omega) (by have := hTl.l2; omega) (by have := hTl.l1; omega) (by have := hTl.l2; omega) (HT9.out.later h).r (hTl.later h).r
      rw [show Tn.eq (Ly.got vals (j + 1)) (Ly.got vals (j + 1)) = true from (Tn.eq_iff _ _).2 rfl] at hteq
      have hseq := fun (V : World) (h : Later w9 V) => shape_equal S3 Ss c3 cs (Ly.got vals (j + 1)).s (Ly.got vals (j + 1)).s V (by have := hTl.l1; omega) (by have := hTl.l1; omega) (HT9.out.later h).r.1 (hIs2.below h (Nat.le_refl _))
      rw [show ((Ly.got vals (j + 1)).s == (Ly.got vals (j + 1)).s) = true from beq_self_eq_true _] at hseq
      have x0 := Hk9.out.cell 0
      have x1 := Hk9.out.cell 1
      simp at x0 x1
      generalize Ly.got vals (j + 1) = u at *
      have jj : (j : Int) + 1 < (n.nodes.length : Int) + 1 := by omega
      have j0 : (0 : Int) ≤ (j : Int) + 1 := by omega
      have j1 : ((j : Int) + 1).toNat = j + 1 := by omega
      have v1 : IntKind.i64.wrap ((j : Int) + 1) = (j : Int) + 1 := IntWalk.i64_in _ (by omega)
      clear hTl hIs2 hshe
      have Hteq := Lib.hid hteq
      have Hseq := Lib.hid hseq
      clear hteq hseq
      have KF := Lib.hid (show ∀ Xw, Later w9 Xw → Xw.cell? ⟨rb, 0, none⟩ = some (.slice S3 u.s.length c3) ∧ Xw.cell? ⟨rb, 1, none⟩ = some (.slice C3 u.c.length d3) ∧ Xw.cell? ⟨G, (j + 1) * 2, none⟩ = some (.slice Sl u.s.length cl) ∧ Xw.cell? ⟨G, (j + 1) * 2 + 1, none⟩ = some (.slice Cl u.c.length dl) ∧ Xw.cell? ⟨g, j + 1, none⟩ = some (.slice Ss u.s.length cs) from fun Xw h => ⟨h.cell x0, h.cell x1, h.cell z0, h.cell z1, h.cell z2⟩)
      refine wp_region_noPanic ?_
      refine wp_region_held_drew (S := fun Xw => Xw.cell? ⟨rb, 0, none⟩ = some (.slice S3 u.s.length c3) ∧ Xw.cell? ⟨rb, 1, none⟩ = some (.slice C3 u.c.length d3) ∧ Xw.cell? ⟨G, (j + 1) * 2, none⟩ = some (.slice Sl u.s.length cl) ∧ Xw.cell? ⟨G, (j + 1) * 2 + 1, none⟩ = some (.slice Cl u.c.length dl) ∧ Xw.cell? ⟨g, j + 1, none⟩ = some (.slice Ss u.s.length cs)) (by kernel_rfl) (KF.out _ Later.au) (fun hHeld => ?_)
      refine tk 0 ?_
      refine tk 1 ?_
      refine tk 2 ?_
      refine tk 3 ?_
      refine tk 4 ?_
      refine tk 5 ?_
      refine tk 6 ?_
      refine rd 7 fun K hK => ?_
      simp only [ga, gs, gz]
      go_simp
      refine hK.out _ _ (KF.out _ Later.au) (fun hHeld => ?_)
      clear hK K
      try simp only [ga, gs, gz, Act.put, sa, sz, ss]
      refine tk 8 ?_
      refine rd 9 fun K hK => ?_
      simp only [ga, gs, gz]
      go_simp
      go_at_call 9; (with_reducible refine (Hteq.out _ (Later.au : Later w9 _)).mono ?_); rintro e wu ⟨rfl, hbu⟩
      try go_wp2_with fail
      refine hK.out _ _ (KF.out _ Later.au) (fun hHeld => ?_)
      clear hK K
      try simp only [ga, gs, gz, Act.put, sa, sz, ss]
      refine tk 10 ?_
      refine tk 11 ?_
      refine tk 12 ?_
      refine tk 13 ?_
      refine tk 14 ?_
      refine tk 15 ?_
      refine tk 16 ?_
      refine tk 17 ?_
      refine rd 18 fun K hK => ?_
      simp only [ga, gs, gz]
      go_simp
      refine hK.out _ _ (KF.out _ Later.au) (fun hHeld => ?_)
      clear hK K
      try simp only [ga, gs, gz, Act.put, sa, sz, ss]
      refine tk 19 ?_
      refine rd 20 fun K hK => ?_
      simp only [ga, gs, gz]
      go_simp
      go_at_call 12; (with_reducible refine (Hseq.out _ (Later.au : Later w9 _)).mono ?_); rintro e wv ⟨rfl, nv, rfl⟩
      try go_wp2_with fail
      refine hK.out _ _ (KF.out _ Later.au) (fun hHeld => ?_)
      clear hK K
      try simp only [ga, gs, gz, Act.put, sa, sz, ss]
      refine tk 21 ?_
      refine tk 22 ?_
      refine tk 23 ?_
      refine tk 24 ?_
      refine tk 25 ?_
      refine tk 26 ?_
      refine tk 27 ?_
      refine tk 28 ?_
      refine tk 29 ?_
      clear KF
      refine wpAnyH_done (by kernel_rfl) ?_ _
      refine NoPanic.normal ?_
      have hvv : Later w9 (wu.drewN nv) := (Later.au : Later w9 (wu.drewN nv))
      have hgv := Hg9.out.trans hvv
      have m9 := (hvv.blk Hb9.out).cell 9
      simp at m9
      have v3 : IntKind.i64.wrap ((fr : Int) + (v.p.length : Int)) = (fr : Int) + (v.p.length : Int) := IntWalk.i64_in _ (by omega)
      clear hHeld x0 x1 z0 z1 z2 hbu
      have Hvv := Lib.hid hvv
      have Hgv := Lib.hid hgv
      clear hvv hgv
      go_wp2_with fail
      go_roundw
      case rel => exact ⟨j + 1, by omega, by go_num, by rw [HFS.out]; simp, Hgv.out⟩
      case measure => simp [intOf]; omega
  ·obtain rfl : j = n.nodes.length := by omega
   have hpz := plain_of A N P c d cp n ps 0 wr Hok.out (HR.out.below h0w (Nat.le_refl _)) hd (HP.out.later h0w) lP kP mP HnP.out Hpl.out (by omega) (by omega) Hsm.out
   have hpn := fun (V : World) (h : Later wr V) => plain_of A N P c d cp n ps ((n.nodes.length : Int) + 1) V Hok.out (HR.out.below (h0w.trans h) (Nat.le_refl _)) hd (HP.out.later (h0w.trans h)) lP kP mP HnP.out Hpl.out (by omega) (by have := Hok.out.2.1; omega) Hsm.out
   rw [show Pn.part n 0 = (0, 0) from by unfold Pn.part; rw [if_pos (by omega)]] at hpz
   rw [show Pn.part n ((n.nodes.length : Int) + 1) = (0, 0) from by unfold Pn.part; rw [if_pos (by omega)]] at hpn
   have hkw := hlw.blk Hkg.out
   obtain ⟨y0, y1, y2, y3, y4⟩ := case_five hkw
   have Hlw := Lib.hid hlw
   have H0w := Lib.hid h0w
   have Hpz := Lib.hid hpz
   have Hpn := Lib.hid hpn
   have Hkw := Lib.hid hkw
   clear hlw h0w hpz hpn hkw
   go_wp2_with fail
   refine (Hpz.out).mono ?_
   rintro e w6 ⟨Aq, cqq, rfl, hb6⟩
   have h6 : Later wr w6 := hb6
   clear y0 y1 y2 y3 y4 hb6
   obtain ⟨y0, y1, y2, y3, y4⟩ := case_five (h6.blk Hkw.out)
   have H6 := Lib.hid h6
   clear h6
   go_wp2_with fail
   refine (Hpn.out _ H6.out).mono ?_
   rintro e w7 ⟨Aq2, cqq2, rfl, hb7⟩
   have h07 := (H0w.out.trans H6.out).call hb7
   clear y0 y1 y2 y3 y4 hb7
   have H07 := Lib.hid h07
   clear h07
   go_wp2_with fail
   refine (awake14 _).mono ?_
   rintro e w8 ⟨rfl, hb8⟩
   go_wp2_with fail
   go_ret
   exact ⟨rfl, H07.out.call hb8⟩
end Go.Proofs.YtbnnpkcfifejmabGreat
namespace Go.Proofs.YtbnnpkcfifejmabGreat.plainForward
open Go.ChangeShapes Go.WideShapes Go.ChangeAt Go.RowKit
open Go.ChangeMaps (open_string shut_string)
theorem own : ownKnob Tryz.prog.godebug = none := by kernel_rfl
theorem laidOut : laidOutB Tryz.prog = true := by kernel_rfl
set_option maxRecDepth 100000 in
theorem lifted (os : Os) (started : os.Started) (H : Type) (enc : TypeId × Value → H) (Fi : Stop.Interp) :
  ReturnsInHanded {} Tryz.checked os 3 .any ((Rows.OpenSpec.upto Rows.plainForwardSpec).pre6 enc Tryz.prog Tryz.f3 Rows.plainForwardUptoRow.domain false) (((Rows.OpenSpec.upto Rows.plainForwardSpec).at Fi).post enc Tryz.prog Tryz.f3 false true false false) := by
 refine returnsInHanded_of_cond (C := Tryz.checked) (s := Rows.OpenSpec.upto Rows.plainForwardSpec) (k := Rows.uptoSmall) rfl own started (by kernel_rfl) Tryz.func3
  (OpenSpec.witness (enc := enc) (C := Tryz.checked) (s := Rows.OpenSpec.upto Rows.plainForwardSpec) (k := Rows.uptoSmall) rfl false ⟨#[], #[.agg #[.slice none 0 0, .slice none 0 0, .slice none 0 0, .slice none 0 0, .slice none 0 0]], []⟩ 8 (by kernel_rfl) (by kernel_rfl) (by kernel_rfl)
   (x := ([.agg [.agg [.nil, .nil], .nil, .agg [.nil, .nil]]], [], [])) (by kernel_rfl) rfl (by kernel_rfl)) ?_
 intro W base args ds gs before hval0 hW hcnd hbulk _
 have hval : ∀ (j : Nat) t v, Tryz.f3.params[j]? = some t → args[j]? = some v → Value.okWide Tryz.prog W .any base t v := hval0
 have hW' := hW
 obtain ⟨p, q, hA0, hV, rfl, hfz, hnd⟩ := hW
 have hA : DataW.TrodAll enc Tryz.prog W 0 (fun _ => true) true Tryz.f3.params.toList args.toList ds p := hA0
 rw [Tryz.params3] at hA hval
 obtain ⟨v0, vs0, d0, ds0, p0, q0, hargs, rfl, rfl, h0, r0⟩ := trodAll_cons hA
 obtain ⟨rfl, rfl, rfl⟩ := trodAll_nil r0
 obtain rfl : args = #[v0] := by cases args; simp_all
 obtain ⟨rfl, rfl⟩ := trodVars_none hV
 have hbk : Rows.uptoBulkAll ([d0] ++ []) ≤ 1048576 := of_decide_eq_true hbulk
 have hz0 : Rows.uptoBulk d0 ≤ 1048576 := Nat.le_trans (bulk_part (by simp)) hbk
 have k0 := h0
 have lt0 : ∀ x ∈ p0, x.block < W.heap.size := by obtain ⟨m, hm⟩ := k0; exact DataW.trod_lt m _ _ _ hm
 obtain ⟨A0, N0, P0, S0, C0, c10, c20, cp0, xc0, xd0, n0, ps0, x0, rfl, hok0, hR0, hd0, hc0, hcm0, hP0, lP0, kP0, mP0, nP0, hX0⟩ := pcase_open (hval 0 32 v0 rfl rfl) h0 hz0
 clear hA0 hval0
 refine (walkPlainForward W A0 N0 P0 S0 C0 c10 c20 cp0 xc0 xd0 n0 ps0 x0 hok0 hR0 hd0 hc0 hcm0 hP0 lP0 kP0 mP0 nP0 hX0).mono fun e W' ⟨he, bel⟩ => ?_
 subst he
 exact ⟨_, rfl, _, _, _, [], _, [], hW', trodAll_mk1 (shut_bool Tryz.underlying4 _), (trodAll_cons_mk (Below.trod laidOut (by kernel_rfl) (of_decide_eq_true (by kernel_rfl)) k0 bel lt0) trodAll_mk0), rfl, bel.frame _, fun h => by cases h⟩
theorem over : Rows.plainForwardUptoRow.holds Tryz.pinned (Rows.OpenSpec.upto Rows.plainForwardSpec) :=
 OpenClaim.holds_of_cond 3 Tryz.f3 rfl rfl rfl rfl rfl rfl rfl ⟨rfl, rfl, rfl, rfl, rfl⟩ rfl rfl rfl rfl rfl (by kernel_rfl) Tryz.func3 (by kernel_rfl)
  (of_decide_eq_true (by kernel_rfl)) (by unfold Func.isWrapper; first | (rw [if_pos (by decide +kernel)]; kernel_rfl) | (rw [if_neg (by decide +kernel)]; exact ⟨rfl, rfl⟩))
  (fun os started H enc _ Fi => lifted os started H enc Fi)
end Go.Proofs.YtbnnpkcfifejmabGreat.plainForward
namespace Go.Proofs.YtbnnpkcfifejmabGreat
theorem plainForward_holds : Rows.PlainForwardUptoSaid := plainForward.over
#print axioms plainForward_holds
end Go.Proofs.YtbnnpkcfifejmabGreat
