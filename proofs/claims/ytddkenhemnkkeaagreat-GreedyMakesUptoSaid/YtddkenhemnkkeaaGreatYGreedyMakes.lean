/- The statement Rows.GreedyMakesUptoSaid is proved: for every input the law 'athanorlaw22.GreedyMakes' returns true, and each argument reads afterwards as it read before. Conditions: those of the row, no others. -/
import Derived.Below
import Derived.ChangeOld
import Derived.JoinedCond
import Derived.OpenShut
import Derived.ProofKit
import Derived.ShutString
import Derived.WalkKit
import Derived.Test.YtddkenhemnkkeaaGreatRows
import Derived.Test.YtddkenhemnkkeaaGreatK09
set_option linter.unusedVariables false
open Go.IntKind renaming i64 → iQ
open Go.Value renaming int → nQ, slice → sQ
open List renaming take_succ_eq_append_getElem → Zb, replicate → Zc, drop_eq_getElem_cons → Zd, length_append → Ze, all_eq_true → Zf, take_length → Zg, mem_of_mem_take → Zh, getElem?_eq_none → Zi, flatMap_append → Zj, getElem?_toArray → Zk, getElem?_append_right → Zl, getElem?_append_left → Zm, take_append_drop → Zn, length_take → Zo, mem_of_mem_drop → Zp, length_drop → Zq, getElem?_set_self → Zr, getElem?_set_ne → Zs
open Nat renaming zero_le → Zt, succ_mul → Zu, le_trans → Zv, zero_add → Zw, add_zero → Zx, le_succ → Zy
open Bool renaming and_eq_true → Zz
open Go.Value renaming int → Za1, slice → Zb1
open Go.IntWalk renaming i64_in → Zc1
open Go.NoPanic renaming normal → Zd1
open Go.RowKit.Below renaming refl → Ze1
open Go.AllReadyH renaming cons → Zf1, nil → Zg1
open Go.World renaming size_alloc → Zh1, cell?_of_block → Zi1, block_lt_of_cell? → Zj1
open Go renaming bodyPost_ret → Zk1, wp_region_held_drew → Zl1, wp_region_noPanic → Zm1, wpAnyH_done → Zn1, wpAnyH_ready → Zo1, World → Zp1
open Go.Proofs.Tryz
namespace Go.Proofs.YtddkenhemnkkeaaGreat
set_option maxHeartbeats 16000000
set_option maxRecDepth 20000
open Go.RowKit
set_option maxRecDepth 100000 in
theorem qd6 (w:Zp1) (A N:Option Addr) (c d:Nat) (n:aA) (la:n.inn.length<=c) (lb:c<=9223372036854775807) (lc:n.o.length<=d) (ld:d<=9223372036854775807) (hR:bC w A N n) (hf:n.fits)
  (pl:Int) (_hplw:(Lit.int iQ pl).wf=true) (cap:Int) (hcapw:(Lit.int iQ cap).wf=true):
  Calls prog 7 #[.agg #[sQ A n.inn.length c,sQ N n.o.length d],nQ iQ pl,nQ iQ cap] w λe w'=>e=.returned (.bool true)/\Below w.heap.size w w':=by
 have gd:=hf.ok;have hY:=qdF hcapw;clear hcapw;have hk:=Blk.new w 26 #[sQ A n.inn.length c,sQ N n.o.length d];have gv:Later w (w.alloc (.cells #[sQ A n.inn.length c,sQ N n.o.length d] 26)):=(Later.refl w).alloc _;obtain ⟨hv,HR,Hk,HS⟩:=zd4 gd hR hk gv;clear gd hR hk gv;go_in;go_wp2_with fail;generalize w.alloc (.cells #[sQ A n.inn.length c,sQ N n.o.length d] 26)=w1 at *;refine (qgc A N c d n w1 hv.out (HR.out.below HS.out (lrZ _))).mono ?_;rintro e w2 ⟨b,rfl,hX,HH⟩;have hZ:=HS.out.call HH;have hS:=(show Later w1 w2 from HH).blk Hk.out;clear HH Hk HS;have aw:∀W,Later w W->Calls prog 9 #[] W λe w'=>e=.returned (.bool true)/\Later w w':=λW h=>(qia W).mono λe w' hq=>⟨hq.1,h.call hq.2⟩
 cases b
 ·have HM:=zI hS
  obtain ⟨HB,hI⟩:=zd2 hZ aw;clear hS hZ aw;clear hX;go_wp2_with fail;refine (hI.out _ HB.out).mono ?_;rintro e wz ⟨rfl,hg⟩;go_wp2_with fail;go_ret;exact ⟨rfl,hg⟩
 have h9:=hX rfl;have x0:w2.cell? ⟨w.heap.size,0,none⟩=some (sQ A n.inn.length c):=hS.cell 0;have x1:w2.cell? ⟨w.heap.size,1,none⟩=some (sQ N n.o.length d):=hS.cell 1;have Hm:=qb4 A N c d n pl cap w2 hv.out (HR.out.below hZ (lrZ _)) lc oZ hY;unfold fI at Hm;obtain ⟨⟨r,er⟩,hr⟩:∃z,Gr.aM n pl cap=z:=⟨_,rfl⟩
 rw [hr] at Hm;simp only at Hm;obtain ⟨HM,HB,hI,gg,Hr⟩:=zd5 hS hZ aw Hm hr;clear hS hZ aw Hm hr;clear hX;go_wp2_with fail;refine gg.out.mono ?_;rintro e w3 ⟨C,cc,rfl,hC,HD,-⟩;have HA:Later w3 (w3.alloc (.cells #[nQ iQ r.pl,sQ C r.code.length cc,nQ iQ r.pk,nQ iQ r.co,nQ iQ r.ag,nQ iQ r.hi] 50)):=(Later.refl _).alloc _;have hp:=Blk.new w3 50 #[nQ iQ r.pl,sQ C r.code.length cc,nQ iQ r.pk,nQ iQ r.co,nQ iQ r.ag,nQ iQ r.hi];have Hx:=(HD.trans HA).blk HM.out;have gp:=HB.out.trans (HD.trans HA);have gf:=hC.below HA (lrZ _);clear gg hC HD HA x0 x1 HM HB;have x0:=Hx.cell 0;have x1:=Hx.cell 1;simp only [Zk,List.getElem?_cons_succ,List.getElem?_cons_zero] at x0 x1;obtain ⟨Hp,HO,Hy,HG⟩:=zd4 hp Hx gp gf;clear hp Hx gp gf;go_upto_region 4 with fail;generalize w3.alloc (.cells #[nQ iQ r.pl,sQ C r.code.length cc,nQ iQ r.pk,nQ iQ r.co,nQ iQ r.ag,nQ iQ r.hi] 50)=w4 at *;generalize w3.heap.size=pb at *;go_wp2_with fail;refine (qd2 A N c d n w4 hv.out (HR.out.below Hy.out (lrZ _))).mono ?_;rintro e w5 ⟨N1,d1,rfl,go,gA,gE,gj⟩;have Hj:Later w4 w5:=gj;obtain ⟨H3,hJ⟩:=zd2 go Hj;clear go Hj;clear gj x0 x1;go_wp2_with fail;refine (qax A N1 c d1 n w5 hv.out H3.out gA la lb).mono ?_;rintro e w6 ⟨Hz,⟨ht,gx,rfl,-,-⟩|⟨ht,rfl⟩⟩
 rotate_left
 ·have ha:=hJ.out.trans (show Later w5 w6 from Hz)
  have hA:=ha.blk Hp.out;have hw:=Hy.out.trans ha;have HE:(Gr.fK,Nt.check n)=(r,er):=by rw [←Hr.out];unfold Gr.aM;rw [ipZ ht]
  injection HE with h1 h2
  subst h1 h2;have gD:(Nt.check n != 0)=true:=by simp [ht]
  have p0:w6.cell? ⟨pb,0,none⟩=some (nQ iQ 0):=hA.cell 0;have hE:=zI hw;clear hw;clear ha hA Hz ht Hr Hp HO HG;generalize Nt.check n=er at *;go_wp2_with fail;refine (hI.out _ hE.out).mono ?_;rintro e wz ⟨rfl,hg⟩;go_wp2_with fail;go_ret;exact ⟨rfl,hg⟩
 have ha:=hJ.out.trans (show Later w5 w6 from Hz);have hA:=ha.blk Hp.out;have hT:=ha.blk HO.out;have hw:=Hy.out.trans ha;have Hc:=HG.out.below ha (lrZ _);clear Hz ha hJ Hp HO Hy HG H3;have x0:=hT.cell 0;have x1:=hT.cell 1;simp only [Zk,List.getElem?_cons_succ,List.getElem?_cons_zero] at x0 x1
 by_cases Hl:1<=pl/\pl<=4
 rotate_left
 ·have HE:(Gr.fK,11)=(r,er):=by rw [←Hr.out];exact (Gr.make_range ht Hl cap).symm
  injection HE with h1 h2
  subst h1 h2;have p0:w6.cell? ⟨pb,0,none⟩=some (nQ iQ 0):=hA.cell 0;have hE:=zI hw;clear hw;clear hA ht Hr hT Hc
  by_cases k1:pl<1
  ·have d1:decide (pl<1)=true:=by simp [k1]
   clear Hl k1;go_wp2_with fail;refine (hI.out _ hE.out).mono ?_;rintro e wz ⟨rfl,hg⟩;go_wp2_with fail;go_ret;exact ⟨rfl,hg⟩
  ·have d1:decide (pl<1)=false:=by simp;omega
   have d2:decide (4<pl)=true:=by simp;omega
   clear Hl k1;go_wp2_with fail;refine (hI.out _ hE.out).mono ?_;rintro e wz ⟨rfl,hg⟩;go_wp2_with fail;go_ret;exact ⟨rfl,hg⟩
 have d1':decide (pl<1)=false:=by simp;omega
 have d2':decide (4<pl)=false:=by simp;omega
 by_cases h4:pl=4
 ·subst h4
  clear d1' d2';obtain ⟨⟨p0,p1,p2,p3,p4,p5⟩,-⟩:=qah hA;have HU:=qe0 A N C c d cc n cap r er w6 hv.out ht (HR.out.below hw (lrZ _)) lc oZ hY Hr.out Hc;obtain ⟨hE,gl⟩:=zd2 hw HU;clear hw HU;clear hA ht Hr hT Hc Hl;go_wp2_with fail;refine gl.out.mono ?_;rintro e w7 ⟨rfl,hH⟩;have hd:=hE.out.trans hH;have he:=zI hd;clear hd;clear gl hH x0 x1 p0 p1 p2 p3 p4 p5;go_wp2_with fail;refine (hI.out _ he.out).mono ?_;rintro e wz ⟨rfl,hg⟩;go_wp2_with fail;go_ret;exact ⟨rfl,hg⟩
 have e4:(pl==4)=false:=by simp [h4]
 have hG:=Gr.make_low ht oZ (show pl=1∨pl=2∨pl=3 by omega) cap;rw [Hr.out] at hG;have gF:=Gr.keepOf_len (n:=n) oZ pl cap;have HP:pl=1∨pl=2∨pl=3:=by omega
 have HN:∃keep,keep=Gr.dR n pl cap:=⟨_,rfl⟩
 have H9:=qeR A N c d n w6 oZ;obtain ⟨ge,HY,hE,H5,gr,Hh,H7⟩:=zd7 hA hT hw Hc hG ht H9;clear hA hT hw Hc hG ht H9;clear Hl h4 Hr;go_wp2_with fail;refine H7.out.mono ?_;rintro e w7 ⟨K,kc,rfl,hK,hH⟩;have hj:=hH.blk ge.out;have hb:=hH.blk HY.out;have hd:=hE.out.trans hH;have hh:=H5.out.below hH (lrZ _);clear H7 hH x0 x1 ge HY hE H5;have x0:=hb.cell 0;have x1:=hb.cell 1;simp only [Zk,List.getElem?_cons_succ,List.getElem?_cons_zero] at x0 x1;have hV:=λ(Y:Zp1) (h:Later w Y)=>qd2 A N c d n Y hv.out (HR.out.below h (lrZ _))
 rcases HP with rfl|rfl|rfl
 focus
  have hK:Ints iQ w7 K (Gr.dR n 1 cap):=hK;have Hb:(ones n.o.length).length=(Gr.dR n 1 cap).length:=rfl;rw [Hb];clear Hb HN d1' d2' e4;generalize Gr.dR n 1 cap=keep at *;obtain ⟨w8,rfl⟩:∃w8,w8=w7:=⟨_,rfl⟩
  obtain ⟨hx,hy,he,hu,HK,Hw⟩:=zd6 hj hb hd hh hK hV;clear hj hb hd hh hK hV;go_upto_region 16 with fail
 rotate_left
 focus
  have hW:=qdw A N c d n w7 hv.out (HR.out.below hd (lrZ _)) lc oZ;have gq:qaw n (Safe.bK n.o.length)=Gr.dR n 2 cap:=rfl;rw [gq] at hW;clear gq HN d1' d2' e4 hK;generalize Gr.dR n 2 cap=keep at *;obtain ⟨hx,hy,he,hu,Hw,Ho⟩:=zd6 hj hb hd hh hV hW;clear hj hb hd hh hV hW;go_wp2_with fail;refine Ho.out.mono ?_;rintro e w8 ⟨K,kc,rfl,hK,hm⟩;have hj:=hm.blk hx.out;have hb:=hm.blk hy.out;have hd:=he.out.trans hm;have hh:=hu.out.below hm (lrZ _);clear Ho hm x0 x1 hx hy he hu;have x0:=hb.cell 0;have x1:=hb.cell 1;simp only [Zk,List.getElem?_cons_succ,List.getElem?_cons_zero] at x0 x1;obtain ⟨hx,hy,he,hu,HK⟩:=zd5 hj hb hd hh hK;clear hj hb hd hh hK;go_upto_region 16 with fail
 rotate_left
 focus
  have hW:=kept_any A N c d n cap w7 hv.out Hh.out (HR.out.below hd (lrZ _)) lc oZ;clear HN d1' d2' e4 hK;generalize Gr.dR n 3 cap=keep at *;obtain ⟨hx,hy,he,hu,Hw,Ho⟩:=zd6 hj hb hd hh hV hW;clear hj hb hd hh hV hW;go_wp2_with fail;refine Ho.out.mono ?_;rintro e w8 ⟨K,kc,er',rfl,hK,hm⟩;have hj:=hm.blk hx.out;have hb:=hm.blk hy.out;have hd:=he.out.trans hm;have hh:=hu.out.below hm (lrZ _);clear Ho hm x0 x1 hx hy he hu;have x0:=hb.cell 0;have x1:=hb.cell 1;simp only [Zk,List.getElem?_cons_succ,List.getElem?_cons_zero] at x0 x1;obtain ⟨hx,hy,he,hu,HK⟩:=zd5 hj hb hd hh hK;clear hj hb hd hh hK;go_upto_region 16 with fail
 rotate_left
 all_goals
  go_wp2_with fail;refine (Hw.out _ he.out).mono ?_;rintro e w9 ⟨N2,d2,rfl,H6,gu,gB,H8⟩;have hU:Later w8 w9:=H8;have H4:=hU.blk hx.out;have HV:=hU.blk hy.out;have gh:=he.out.trans hU;have HT:=hu.out.below hU (lrZ _);have HC:=qd3 A N2 K c d2 kc n keep w9 hv.out Hh.out oZ H6 gu la lb (HK.out.below hU (lrZ _)) oZ;rw [←Rt.nH Hh.out keep] at HC;unfold RsL at HC;obtain ⟨HX,H2,gn,gw,gb⟩:=zd5 H4 HV gh HT HC;clear H4 HV gh HT HC;clear H8 hU x0 x1 hx hy he hu HK H6 gu gB;go_wp2_with fail;refine gb.out.mono ?_;rintro e w10 ⟨Q,qc,rfl,hQ,hl⟩;have Hs:=hl.blk HX.out;have hB:=hl.blk H2.out;have Hi:=gn.out.trans hl;have h0:=gw.out.below hl (lrZ _);clear gb hl HX H2 gn gw;have x0:=hB.cell 0;have x1:=hB.cell 1;simp only [Zk,List.getElem?_cons_succ,List.getElem?_cons_zero] at x0 x1;obtain ⟨Hf,HL,hN,Hv,HQ⟩:=zd5 Hs hB Hi h0 hQ;clear Hs hB Hi h0 hQ;go_wp2_with fail;refine (Hw.out _ hN.out).mono ?_;rintro e w11 ⟨N3,d3,rfl,gk,gc,gy,Ha⟩;have hc:Later w10 w11:=Ha;have h8:=hc.blk Hf.out;have Hq:=hN.out.trans hc;have Ht:=Hv.out.below hc (lrZ _);have hO:=HQ.out.below hc (lrZ _);have H1:=qdD A N3 Q c d3 qc n keep w11 hv.out Hh.out gk gc la lb oZ hO;obtain ⟨Hg,Hu,Hn,Hd,gt⟩:=zd5 h8 Hq Ht hO H1;clear h8 Hq Ht hO H1;clear Ha hc x0 x1 Hf HL hN Hv HQ gk gc gy;go_wp2_with fail;refine gt.out.mono ?_;rintro e w12 ⟨rfl,hn⟩;have hs:=hn.blk Hg.out;have hz:=Hu.out.trans hn;have hP:=Hn.out.below hn (lrZ _);have hL:=Hd.out.below hn (lrZ _);clear gt hn Hg Hu Hn Hd;have hG:=gr.out;have gC:=Rt.eT Hh.out oZ keep;clear gr
  by_cases HI:Gr.aB n keep<=cap
  rotate_left
  ·have h5:=hG.2 oZ
   injection h5 with h6 h7
   subst h6 h7;have k9:cap<Gr.aB n keep:=by omega
   generalize Gr.aB n keep=pk at *;generalize Gr.cost n keep=ck at *;obtain ⟨⟨p0,p1,p2,p3,p4,p5⟩,-⟩:=qah hs;have p0:w12.cell? ⟨pb,0,none⟩=some (nQ iQ 0):=p0;have p1:w12.cell? ⟨pb,1,none⟩=some (sQ C 0 cc):=p1;have hM:=zI hz;clear hz;clear hs hP hL hG HI p2 p3 p4 p5;go_wp2_with fail;refine (hI.out _ hM.out).mono ?_;rintro e wz ⟨rfl,hg⟩;go_wp2_with fail;go_ret;exact ⟨rfl,hg⟩
  ·obtain ⟨ag,hi,h5⟩:=hG.1 HI
   injection h5 with h6 h7
   subst h6 h7;have k9:¬cap<Gr.aB n keep:=by omega
   clear hG HI;have gm:=λ(Y:Zp1) (h:Later w12 Y)=>qfH C cc (Rt.lW n keep).code Y oZ (hP.below h (lrZ _))
   have HZ:=λ(Y:Zp1) (h:Later w12 Y) (D:Option Addr) (dc:Nat) (hD:aW Y D (Rt.lW n keep).code)=>qh3 D Q dc qc (Rt.lW n keep).code Y oZ hD (hL.below h (lrZ _))
   generalize (Rt.lW n keep).code=cd at *;generalize Gr.aB n keep=pk at *;generalize Gr.cost n keep=ck at *;simp only at hs;obtain ⟨⟨p0,p1,p2,p3,p4,p5⟩,-⟩:=qah hs;obtain ⟨hM,HW,gi⟩:=zd3 hz gm HZ;clear hz gm HZ;clear hs hP hL;go_wp2_with fail;refine (HW.out w12 (Later.refl _)).mono ?_;rintro e w13 ⟨D,dc,rfl,hD,ho⟩;have hX:=gi.out w13 ho D dc hD;have h3:=hM.out.trans ho;obtain ⟨H0,HF⟩:=zd2 hX h3;clear hX h3;clear HW gi hD ho p0 p1 p2 p3 p4 p5;go_wp2_with fail;refine H0.out.mono ?_;rintro e w14 ⟨rfl,hF⟩;have He:=HF.out.trans hF;have HJ:=zI He;clear He;clear H0 hF;go_wp2_with fail;refine (hI.out _ HJ.out).mono ?_;rintro e wz ⟨rfl,hg⟩;go_wp2_with fail;go_ret;exact ⟨rfl,hg⟩
end Go.Proofs.YtddkenhemnkkeaaGreat
namespace Go.Proofs.YtddkenhemnkkeaaGreat.greedyMakes
set_option maxHeartbeats 16000000
set_option maxRecDepth 20000
open Go.ChangeShapes Go.WideShapes Go.ChangeAt Go.RowKit
open Go.ChangeMaps (open_string shut_string)
theorem own:ownKnob prog.godebug=none:=by kernel_rfl
theorem laidOut:laidOutB prog=true:=by kernel_rfl
set_option maxRecDepth 100000 in
theorem lifted (os:Os) (started:os.Started) (H:Type) (enc:TypeId × Value->H) (Fi:Stop.Interp):
  ReturnsInHanded {} Tryz.checked os 7 .any ((Rows.OpenSpec.upto Rows.greedyMakesSpec).pre6 enc prog Tryz.f7 Rows.greedyMakesUptoRow.domain false) (((Rows.OpenSpec.upto Rows.greedyMakesSpec).at Fi).post enc prog Tryz.f7 false true false false):=by
 refine returnsInHanded_of_cond (C:=Tryz.checked) (s:=Rows.OpenSpec.upto Rows.greedyMakesSpec) (k:=Rows.uptoSmall) rfl own started krZ func7
  (OpenSpec.witness (enc:=enc) (C:=Tryz.checked) (s:=Rows.OpenSpec.upto Rows.greedyMakesSpec) (k:=Rows.uptoSmall) rfl false ⟨#[],#[.agg #[sQ none 0 0,sQ none 0 0],nQ iQ 0,nQ iQ 0],[]⟩ 8 krZ krZ krZ
   (x:=([.agg [.nil,.nil],.lit (Lit.int iQ 0),.lit (Lit.int iQ 0)],[],[])) krZ rfl krZ) ?_
 intro W base args ds gs before hb hW hi hc _;have ha:∀(j:Nat) t v,Tryz.f7.params[j]? = some t->args[j]? = some v->Value.okWide prog W .any base t v:=hb;have hj:=hW;obtain ⟨p,q,hd,hV,rfl,ho,hn⟩:=hW;have hA:DataW.TrodAll enc prog W 0 (λ_=>true) true Tryz.f7.params.toList args.toList ds p:=hd;rw [Tryz.params7] at hA ha;obtain ⟨v0,vs0,d0,ds0,p0,q0,hf,rfl,rfl,h0,r0⟩:=trodAll_cons hA;obtain ⟨v1,vs1,d1,ds1,p1,q1,rfl,rfl,rfl,h1,r1⟩:=trodAll_cons r0;obtain ⟨v2,vs2,d2,ds2,p2,q2,rfl,rfl,rfl,h2,r2⟩:=trodAll_cons r1;obtain ⟨rfl,rfl,rfl⟩:=trodAll_nil r2;obtain rfl:args=#[v0,v1,v2]:=by cases args;simp_all
 obtain ⟨rfl,rfl⟩:=trodVars_none hV;have hl:Rows.uptoBulkAll ([d0,d1,d2]++[])<=1048576:=of_decide_eq_true hc;have hg:Rows.uptoBulk d0<=1048576:=Zv (qd0 sZ) hl;have k0:=h0;have lt0:∀x∈p0,x.block<W.heap.size:=by obtain ⟨m,hm⟩:=k0;exact DataW.trod_lt m _ _ _ hm
 have k1:=h1;have lt1:∀x∈p1,x.block<W.heap.size:=by obtain ⟨m,hm⟩:=k1;exact DataW.trod_lt m _ _ _ hm
 have k2:=h2;have lt2:∀x∈p2,x.block<W.heap.size:=by obtain ⟨m,hm⟩:=k2;exact DataW.trod_lt m _ _ _ hm
 obtain ⟨A0,N0,c10,c20,n0,rfl,la0,lb0,lc0,ld0,hk,hh⟩:=qge (ha 0 26 v0 rfl rfl) h0 hg;obtain ⟨a1,rfl,rfl,rfl,w1⟩:=open_int underlying3 (ha 1 3 v1 rfl rfl) h1;obtain ⟨a2,rfl,rfl,rfl,w2⟩:=open_int underlying3 (ha 2 3 v2 rfl rfl) h2;clear hd hb;refine (qd6 W A0 N0 c10 c20 n0 la0 lb0 lc0 ld0 hk hh a1 w1 a2 w2).mono λe W' ⟨he,bel⟩=>?_
 subst he;exact ⟨_,rfl,_,_,_,[],_,[],hj,trodAll_mk1 (shut_bool underlying4 _),(trodAll_cons_mk (Below.trod laidOut krZ (of_decide_eq_true krZ) k0 bel lt0) (trodAll_cons_mk (Below.trod laidOut krZ (of_decide_eq_true krZ) k1 bel lt1) (trodAll_cons_mk (Below.trod laidOut krZ (of_decide_eq_true krZ) k2 bel lt2) trodAll_mk0))),rfl,bel.frame _,λh=>by cases h⟩
theorem over:Rows.greedyMakesUptoRow.holds Tryz.pinned (Rows.OpenSpec.upto Rows.greedyMakesSpec):=
 OpenClaim.holds_of_cond 7 Tryz.f7 rfl rfl rfl rfl rfl rfl rfl ⟨rfl,rfl,rfl,rfl,rfl⟩ rfl rfl rfl rfl rfl krZ func7 krZ
  (of_decide_eq_true krZ) (by unfold Func.isWrapper;first|(rw [ipZ (by decide +kernel)];kernel_rfl)|(rw [inZ (by decide +kernel)];exact ⟨rfl,rfl⟩))
  (λos started H enc _ Fi=>lifted os started H enc Fi)
end Go.Proofs.YtddkenhemnkkeaaGreat.greedyMakes
namespace Go.Proofs.YtddkenhemnkkeaaGreat
theorem greedyMakes_holds:Rows.GreedyMakesUptoSaid:=greedyMakes.over
#print axioms greedyMakes_holds
end Go.Proofs.YtddkenhemnkkeaaGreat
