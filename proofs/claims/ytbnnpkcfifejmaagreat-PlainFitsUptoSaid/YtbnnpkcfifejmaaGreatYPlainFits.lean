/- The statement Rows.PlainFitsUptoSaid is proved: for every input the law 'athanorlaw14.PlainFits' returns true, and each argument reads afterwards as it read before. Conditions: those of the row, no others. -/
import Derived.Below
import Derived.ChangeOld
import Derived.JoinedCond
import Derived.OpenShut
import Derived.ProofKit
import Derived.ShutString
import Derived.WalkKit
import Derived.Test.YtbnnpkcfifejmaaGreatRows
import Derived.Test.YtbnnpkcfifejmaaGreatZ08
set_option linter.unusedVariables false
open List renaming take_succ_eq_append_getElem → Zb, replicate → Zc, drop_eq_getElem_cons → Zd, length_append → Ze, all_eq_true → Zf, take_length → Zg, mem_of_mem_take → Zh, getElem?_eq_none → Zi, flatMap_append → Zj, getElem?_toArray → Zk, getElem?_append_right → Zl, getElem?_append_left → Zm, take_append_drop → Zn, length_take → Zo, mem_of_mem_drop → Zp, length_drop → Zq, getElem?_set_self → Zr, getElem?_set_ne → Zs
open Nat renaming zero_le → Zt, succ_mul → Zu, le_trans → Zv, zero_add → Zw, add_zero → Zx, le_succ → Zy
open Bool renaming and_eq_true → Zz
open Go.Value renaming int → Za1, slice → Zb1
open Go.IntWalk renaming i64_in → Zc1
open Go.NoPanic renaming normal → Zd1
open Go.RowKit.Below renaming refl → Ze1
open Go.AllReadyH renaming cons → Zf1, nil → Zg1
open Go.World renaming size_alloc → Zh1, cell?_of_block → Zi1, block_lt_of_cell? → Zj1
open Go renaming bodyPost_ret → Zk1, wp_region_held_drew → Zl1, wp_region_noPanic → Zm1, wpAnyH_done → Zn1, wpAnyH_ready → Zo1, World → Zp1
namespace Go.Proofs.YtbnnpkcfifejmaaGreat
set_option maxHeartbeats 16000000
open Go.RowKit
set_option maxRecDepth 20000 in
theorem qdy (w:Zp1) (A N P XS XC:Option Addr) (c d cp xc xd:Nat) (n:NetD) (ps:List Ten) (x:Ten) (hok:n.ok) (hR:NetR w A N n) (hd:n.nodes.length<=d) (hc:n.inn.length<=c) (hcm:c<=9223372036854775807) (hP:Tns w P ps) (lP:ps.length<=1048576) (kP:ps.length<=cp) (mP:cp<=9223372036854775807) (nP:P=none->cp=0) (hX:TenIn w XS XC xc xd x):
  Calls Tryz.prog 4 #[.agg #[.slice A n.inn.length c,.slice N n.nodes.length d,.slice P ps.length cp,.slice XS x.s.length xc,.slice XC x.c.length xd]] w λe w'=>e=.returned (.bool true)/\Below w.heap.size w w':=by
 have hk:=Blk.new w 61 #[.slice A n.inn.length c,.slice N n.nodes.length d,.slice P ps.length cp,.slice XS x.s.length xc,.slice XC x.c.length xd];have h3:Later w (w.alloc (.cells #[.slice A n.inn.length c,.slice N n.nodes.length d,.slice P ps.length cp,.slice XS x.s.length xc,.slice XC x.c.length xd] 61)):=(Later.refl w).alloc _;obtain ⟨i0,hi,Hc,Ha,Hb⟩:=info_parts qb2;obtain ⟨hn,HR,HP,Hk,hF,HX,hG⟩:=zd7 hok hR hP hk h3 hX nP;clear hok hR hP hk h3 hX nP;go_enter Tryz.func4,Tryz.ntmps4;go_upto_region 1 with fail;generalize w.alloc (.cells #[.slice A n.inn.length c,.slice N n.nodes.length d,.slice P ps.length cp,.slice XS x.s.length xc,.slice XC x.c.length xd] 61)=w1 at *;obtain ⟨y0,y1,y2,y3,y4⟩:=qar Hk.out;go_wp2_with fail;refine (small_14 A N P XS XC c d cp xc xd n ps x w1 hn.out (HR.out.below hF.out (lrZ _)) (HP.out.later hF.out) lP (HX.out.later hF.out)).mono ?_;rintro e w2 ⟨b,rfl,-,hO⟩;have hH:=hF.out.call hO;have hx:=(show Later w1 w2 from hO).blk Hk.out;clear hO y0 y1 y2 y3 y4;cases b
 ·have hp:=zI hH
  have hQ:=zI hx;clear hH hx;go_wp2_with fail;refine (qeA _).mono ?_;rintro e w3 ⟨rfl,hC⟩;go_wp2_with fail;go_ret;exact ⟨rfl,hp.out.call hC⟩
 obtain ⟨y0,y1,y2,y3,y4⟩:=qar hx;obtain ⟨hp,hQ⟩:=zd2 hH hx;clear hH hx;go_wp2_with fail;refine (fits_14 A N P XS XC c d cp xc xd n ps x w2 hn.out (HR.out.below hp.out (lrZ _)) hd hc hcm (HP.out.later hp.out) lP (HX.out.later hp.out)).mono ?_;rintro e w3 ⟨rfl,hC⟩;have hb:=hp.out.call hC;have hB:=(show Later w2 w3 from hC).blk hQ.out;clear hC y0 y1 y2 y3 y4 Hk hQ;have hE:=λ(W:Zp1) (h:Later w W)=>qd1 A N P XS XC c d cp xc xd n ps x W hn.out (HR.out.below h (lrZ _)) hd (HP.out.later h) lP (HX.out.later h)
 obtain ⟨y0,y1,y2,y3,y4⟩:=qar hB
 by_cases hf:Pn.fits n ps x=0
 case neg=>
  have ho:Pn.forward n ps x=([],Pn.fits n ps x):=by unfold Pn.forward;rw [if_pos hf]
  have hm:=qaP A N P XS XC c d cp xc xd n ps x w3 hn.out (HR.out.below hb (lrZ _)) hd (HP.out.later hb) lP kP mP hG.out (HX.out.later hb);have hq:=λ(W:Zp1) (h:Later w W)=>qgg A N P XS XC c d cp xc xd n ps x W hn.out (HR.out.below h (lrZ _)) hd (HP.out.later h) lP kP mP hG.out (HX.out.later h) (by rw [ho];exact hf)
  rw [ho] at hm hq;clear ho;generalize Pn.fits n ps x=e0 at *;have Hf:=zI hf;have d1:(e0 != e0)=false:=by simp
  have d2:(e0 != 0)=true:=by simpa using hf
  clear hf;obtain ⟨hS,hL,hN,hM,hT⟩:=zd5 hb hB hm hq hE;clear hb hB hm hq hE;go_wp2_with fail;refine (hN.out).mono ?_;rintro e w4 ⟨⟨-,rfl⟩|⟨h0,-⟩,hr⟩
  rotate_left
  ·exact absurd h0 Hf.out
  have hg:Later w3 w4:=hr;have hs:=hS.out.trans hg;have hj:=hg.blk hL.out;clear hr y0 y1 y2 y3 y4;obtain ⟨y0,y1,y2,y3,y4⟩:=qar hj;obtain ⟨h5,hz,hV⟩:=zd3 hg hs hj;clear hg hs hj;go_wp2_with fail;refine (hM.out _ hz.out).mono ?_;rintro e w5 ⟨rfl,hy⟩;have hl:Later w4 w5:=hy;have hh:=hl.alloc (.cells #[.int .i64 0,.slice none 0 0,.slice none 0 0,.slice none 0 0] 66);have hA:=hz.out.trans hh;have hD:=hh.blk hV.out;have ht:=Blk.new w5 66 #[.int .i64 0,.slice none 0 0,.slice none 0 0,.slice none 0 0];clear hy y0 y1 y2 y3 y4;obtain ⟨h7,h4,hu,hJ,hW⟩:=zd5 hl hh hA hD ht;clear hl hh hA hD ht;go_upto_region 6 with fail;generalize w5.alloc (.cells #[.int .i64 0,.slice none 0 0,.slice none 0 0,.slice none 0 0] 66)=w6 at *;generalize w5.heap.size=bx at *;obtain ⟨y0,y1,y2,y3,y4⟩:=qar hJ.out;go_wp2_with fail;refine (hT.out _ hu.out).mono ?_;rintro e w7 ⟨rfl,hw⟩;have he:Later w6 w7:=hw;have hv:=hu.out.trans he;have ha:=he.blk hW.out;have b0:=ha.cell 0;have b1:=ha.cell 1;have b3:=ha.cell 3;simp at b0 b1 b3;clear hw y0 y1 y2 y3 y4;obtain ⟨h8,hK⟩:=zd2 he hv;have hY:=zI ha;clear he hv ha;go_wp2_with fail;refine (qeA _).mono ?_;rintro e w8 ⟨rfl,hZ⟩;go_wp2_with fail;go_ret;exact ⟨rfl,hK.out.call hZ⟩
 obtain ⟨vals,ho,hI,-⟩:=Pn.ready_of hf;have hm:=qaP A N P XS XC c d cp xc xd n ps x w3 hn.out (HR.out.below hb (lrZ _)) hd (HP.out.later hb) lP kP mP hG.out (HX.out.later hb);have hq:=λ(W:Zp1) (h:Later w W)=>qe8 A N P XS XC c d cp xc xd n ps x W hn.out (HR.out.below h (lrZ _)) hd (HP.out.later h) lP kP mP hG.out (HX.out.later h) hf
 rw [ho] at hm
 have h2:(Pn.run n ps x).grads.length=ps.length:=by
  show (Pn.back n ps (Pn.forward n ps x).1).2.length=_
  rw [ho];exact (Pn.back_all hI).plen
 generalize Pn.run n ps x=rr at *;rw [hf] at hE ⊢;have h1:=hI.len;obtain ⟨c1,c2,-⟩:=Nt.check_ok hI.chk;have q1:IntKind.i64.wrap ((n.nodes.length:Int)+1)=(n.nodes.length:Int)+1:=Zc1 _ oZ;clear hf ho hI;obtain ⟨hS,hL,hN,hM,hT,h6,h9⟩:=zd7 hb hB hm hq hE h2 h1;clear hb hB hm hq hE h2 h1;go_wp2_with fail;refine (hN.out).mono ?_;rintro e w4 ⟨⟨h0,-⟩|⟨-,G,rfl,-⟩,hr⟩
 ·exact absurd rfl h0
 rw [show (vals,(0:Int)).1.length=n.nodes.length+1 from h9.out];have hg:Later w3 w4:=hr;have hs:=hS.out.trans hg;have hj:=hg.blk hL.out;clear hr y0 y1 y2 y3 y4;obtain ⟨y0,y1,y2,y3,y4⟩:=qar hj;obtain ⟨h5,hz,hV⟩:=zd3 hg hs hj;clear hg hs hj;go_wp2_with fail;refine (hM.out _ hz.out).mono ?_;rintro e w5 ⟨GB,S,C,sc,cd,rfl,-,-,hy⟩;rw [h6.out];generalize rr.x.s.length=xs1 at *;generalize rr.x.c.length=xs2 at *;have hl:Later w4 w5:=hy;have hh:=hl.alloc (.cells #[.int .i64 rr.loss,.slice (some ⟨GB,0,none⟩) ps.length ps.length,.slice S xs1 sc,.slice C xs2 cd] 66);have hA:=hz.out.trans hh;have hD:=hh.blk hV.out;have ht:=Blk.new w5 66 #[.int .i64 rr.loss,.slice (some ⟨GB,0,none⟩) ps.length ps.length,.slice S xs1 sc,.slice C xs2 cd];clear hy y0 y1 y2 y3 y4;obtain ⟨h7,h4,hu,hJ,hW⟩:=zd5 hl hh hA hD ht;clear hl hh hA hD ht;go_upto_region 6 with fail;generalize w5.alloc (.cells #[.int .i64 rr.loss,.slice (some ⟨GB,0,none⟩) ps.length ps.length,.slice S xs1 sc,.slice C xs2 cd] 66)=w6 at *;generalize w5.heap.size=bx at *;obtain ⟨y0,y1,y2,y3,y4⟩:=qar hJ.out;go_wp2_with fail;refine (hT.out _ hu.out).mono ?_;rintro e w7 ⟨rfl,hw⟩;have he:Later w6 w7:=hw;have hv:=hu.out.trans he;have hU:=he.blk hJ.out;have ha:=he.blk hW.out;have b1:=ha.cell 1;simp at b1;clear hw y0 y1 y2 y3 y4;obtain ⟨y0,y1,y2,y3,y4⟩:=qar hU;obtain ⟨h8,hK⟩:=zd2 he hv;have hY:=zI ha;have Hd:=zI hU;clear he hv ha hU;go_wp2_with fail;refine (qeA _).mono ?_;rintro e w8 ⟨rfl,hZ⟩;go_wp2_with fail;go_ret;exact ⟨rfl,hK.out.call hZ⟩
end Go.Proofs.YtbnnpkcfifejmaaGreat
namespace Go.Proofs.YtbnnpkcfifejmaaGreat.plainFits
set_option maxHeartbeats 16000000
open Go.ChangeShapes Go.WideShapes Go.ChangeAt Go.RowKit
open Go.ChangeMaps (open_string shut_string)
theorem own:ownKnob Tryz.prog.godebug=none:=by kernel_rfl
theorem laidOut:laidOutB Tryz.prog=true:=by kernel_rfl
set_option maxRecDepth 100000 in
theorem lifted (os:Os) (started:os.Started) (H:Type) (enc:TypeId × Value->H) (Fi:Stop.Interp):
  ReturnsInHanded {} Tryz.checked os 4 .any ((Rows.OpenSpec.upto Rows.plainFitsSpec).pre6 enc Tryz.prog Tryz.f4 Rows.plainFitsUptoRow.domain false) (((Rows.OpenSpec.upto Rows.plainFitsSpec).at Fi).post enc Tryz.prog Tryz.f4 false true false false):=by
 refine returnsInHanded_of_cond (C:=Tryz.checked) (s:=Rows.OpenSpec.upto Rows.plainFitsSpec) (k:=Rows.uptoSmall) rfl own started krZ Tryz.func4
  (OpenSpec.witness (enc:=enc) (C:=Tryz.checked) (s:=Rows.OpenSpec.upto Rows.plainFitsSpec) (k:=Rows.uptoSmall) rfl false ⟨#[],#[.agg #[.slice none 0 0,.slice none 0 0,.slice none 0 0,.slice none 0 0,.slice none 0 0]],[]⟩ 8 krZ krZ krZ
   (x:=([.agg [.agg [.nil,.nil],.nil,.agg [.nil,.nil]]],[],[])) krZ rfl krZ) ?_
 intro W base args ds gs before ha hW hi hb _;have hc:∀(j:Nat) t v,Tryz.f4.params[j]? = some t->args[j]? = some v->Value.okWide Tryz.prog W .any base t v:=ha;have hq:=hW;obtain ⟨p,q,hh,hV,rfl,ht,hs⟩:=hW;have hA:DataW.TrodAll enc Tryz.prog W 0 (λ_=>true) true Tryz.f4.params.toList args.toList ds p:=hh;rw [Tryz.params4] at hA hc;obtain ⟨v0,vs0,d0,ds0,p0,q0,hg,rfl,rfl,h0,r0⟩:=trodAll_cons hA;obtain ⟨rfl,rfl,rfl⟩:=trodAll_nil r0;obtain rfl:args=#[v0]:=by cases args;simp_all
 obtain ⟨rfl,rfl⟩:=trodVars_none hV;have ho:Rows.uptoBulkAll ([d0]++[])<=1048576:=of_decide_eq_true hb;have hn:Rows.uptoBulk d0<=1048576:=Zv (qe9 sZ) ho;have k0:=h0;have lt0:∀x∈p0,x.block<W.heap.size:=by obtain ⟨m,hm⟩:=k0;exact DataW.trod_lt m _ _ _ hm
 obtain ⟨A0,N0,P0,S0,C0,c10,c20,cp0,xc0,xd0,n0,ps0,x0,rfl,hf,hp,hr,hj,hd,hk,lP0,kP0,mP0,nP0,hl⟩:=qft (hc 0 61 v0 rfl rfl) h0 hn;clear hh ha;refine (qdy W A0 N0 P0 S0 C0 c10 c20 cp0 xc0 xd0 n0 ps0 x0 hf hp hr hj hd hk lP0 kP0 mP0 nP0 hl).mono λe W' ⟨he,bel⟩=>?_
 subst he;exact ⟨_,rfl,_,_,_,[],_,[],hq,trodAll_mk1 (shut_bool Tryz.underlying4 _),(trodAll_cons_mk (Below.trod laidOut krZ (of_decide_eq_true krZ) k0 bel lt0) trodAll_mk0),rfl,bel.frame _,λh=>by cases h⟩
theorem over:Rows.plainFitsUptoRow.holds Tryz.pinned (Rows.OpenSpec.upto Rows.plainFitsSpec):=
 OpenClaim.holds_of_cond 4 Tryz.f4 rfl rfl rfl rfl rfl rfl rfl ⟨rfl,rfl,rfl,rfl,rfl⟩ rfl rfl rfl rfl rfl krZ Tryz.func4 krZ
  (of_decide_eq_true krZ) (by unfold Func.isWrapper;first|(rw [if_pos (by decide +kernel)];kernel_rfl)|(rw [if_neg (by decide +kernel)];exact ⟨rfl,rfl⟩))
  (λos started H enc _ Fi=>lifted os started H enc Fi)
end Go.Proofs.YtbnnpkcfifejmaaGreat.plainFits
namespace Go.Proofs.YtbnnpkcfifejmaaGreat
theorem plainFits_holds:Rows.PlainFitsUptoSaid:=plainFits.over
#print axioms plainFits_holds
end Go.Proofs.YtbnnpkcfifejmaaGreat
