/- Lemmas for the statements of this seat: contracts of functions and the plain laws. -/
import Derived.Deep.AppendLies
import Derived.Deep.DeepCutAuto
import Derived.Laws.CopyRow
import Derived.Test.YtimfcikmpllbpaaGreatRows
import Derived.Test.YtimfcikmpllbpaaGreatZ05
set_option linter.unusedVariables false
open Go.IntKind renaming i64 → iQ
open Go.Value renaming int → nQ, slice → sQ
open List renaming take_succ_eq_append_getElem → Zb, replicate → Zc, drop_eq_getElem_cons → Zd, length_append → Ze, all_eq_true → Zf, take_length → Zg, mem_of_mem_take → Zh, getElem?_eq_none → Zi, flatMap_append → Zj, getElem?_toArray → Zk, getElem?_append_right → Zl, getElem?_append_left → Zm, take_append_drop → Zn, length_take → Zo, mem_of_mem_drop → Zp, length_drop → Zq, getElem?_set_self → Zr, getElem?_set_ne → Zs
open Nat renaming zero_le → Zt, succ_mul → Zu, le_trans → Zv, zero_add → Zw, add_zero → Zx, le_succ → Zy
open Bool renaming and_eq_true → Zz
open Go.Value renaming int → Za1, slice → Zb1
open Go.IntWalk renaming i64_in → Zc1
open Go.NoPanic renaming normal → Zd1
open Go.RowKit.Below renaming refl → Ze1
open Go.AllReadyH renaming cons → Zf1, nil → Zg1
open Go.World renaming size_alloc → Zh1, cell?_of_block → Zi1, block_lt_of_cell? → Zj1
open Go renaming bodyPost_ret → Zk1, wp_region_held_drew → Zl1, wp_region_noPanic → Zm1, wpAnyH_done → Zn1, wpAnyH_ready → Zo1, World → Zp1
namespace Go.Proofs.YtimfcikmpllbpaaGreat
set_option maxHeartbeats 16000000
set_option maxRecDepth 20000
open Go.RowKit
theorem qfC (S C S' C' S2 C2 GS GC:Option Addr) (c d c' d' c2 d2 gc gd:Nat) (t b x g:Ten) (w:Zp1) (ht:TenIn w S C c d t) (hb:TenIn w S' C' c' d' b) (hx:TenIn w S2 C2 c2 d2 x) (hg:TenIn w GS GC gc gd g):
  Calls Tryz.prog 44 #[.agg #[sQ S t.s.length c,sQ C t.c.length d],.agg #[sQ S' b.s.length c',sQ C' b.c.length d'],.agg #[sQ S2 x.s.length c2,sQ C2 x.c.length d2],.agg #[sQ GS g.s.length gc,sQ GC g.c.length gd]] w (GoD (Ly.denseBack t b x g) w):=by
 obtain ⟨HR,HN,HX,HU,HW⟩:=qc0 w 30 30 30 30 #[sQ S t.s.length c,sQ C t.c.length d] #[sQ S' b.s.length c',sQ C' b.c.length d'] #[sQ S2 x.s.length c2,sQ C2 x.c.length d2] #[sQ GS g.s.length gc,sQ GC g.c.length gd];have hz:=Blk.new ((((w.alloc (.cells #[sQ S t.s.length c,sQ C t.c.length d] 30)).alloc (.cells #[sQ S' b.s.length c',sQ C' b.c.length d'] 30)).alloc (.cells #[sQ S2 x.s.length c2,sQ C2 x.c.length d2] 30)).alloc (.cells #[sQ GS g.s.length gc,sQ GC g.c.length gd] 30)) 109 #[sQ none 0 0,sQ none 0 0,sQ none 0 0,sQ none 0 0,sQ none 0 0,sQ none 0 0];replace HR:=HR.alloc (.cells #[sQ none 0 0,sQ none 0 0,sQ none 0 0,sQ none 0 0,sQ none 0 0,sQ none 0 0] 109);replace HN:=HN.alloc (.cells #[sQ none 0 0,sQ none 0 0,sQ none 0 0,sQ none 0 0,sQ none 0 0,sQ none 0 0] 109);replace HX:=HX.alloc (.cells #[sQ none 0 0,sQ none 0 0,sQ none 0 0,sQ none 0 0,sQ none 0 0,sQ none 0 0] 109);replace HU:=HU.alloc (.cells #[sQ none 0 0,sQ none 0 0,sQ none 0 0,sQ none 0 0,sQ none 0 0,sQ none 0 0] 109);replace HW:=HW.alloc (.cells #[sQ none 0 0,sQ none 0 0,sQ none 0 0,sQ none 0 0,sQ none 0 0,sQ none 0 0] 109);rw [Zh1,Zh1,Zh1,Zh1] at hz;obtain ⟨gU,gR,g3,gO,Hz,Hq,Ht,Hb,Hx⟩:=zd9 HR HN HX HU hz HW ht hb hx;have Hg:=zI hg;clear HR HN HX HU hz HW ht hb hx hg;go_enter Tryz.func44,Tryz.ntmps44;go_wp2_with fail;generalize ((((w.alloc (.cells #[sQ S t.s.length c,sQ C t.c.length d] 30)).alloc (.cells #[sQ S' b.s.length c',sQ C' b.c.length d'] 30)).alloc (.cells #[sQ S2 x.s.length c2,sQ C2 x.c.length d2] 30)).alloc (.cells #[sQ GS g.s.length gc,sQ GC g.c.length gd] 30)).alloc (.cells #[sQ none 0 0,sQ none 0 0,sQ none 0 0,sQ none 0 0,sQ none 0 0,sQ none 0 0] 109)=w1 at *
 refine (qcz S C S' C' S2 C2 c d c' d' c2 d2 t b x w1 (Ht.out.later Hq.out) (Hb.out.later Hq.out) (Hx.out.later Hq.out)).mono ?_;rintro e w2 ⟨rfl,g6⟩;have hS:Later w1 w2:=g6;have hP:=Hq.out.trans hS;have Hl:=hS.blk Hz.out;have HO:=hS.blk gU.out;have Hk:=hS.blk gR.out;have HH:=hS.blk g3.out;have hY:=hS.blk gO.out;clear g6 Hz Hq gU gR g3 gO hS;cases hg0:Ly.denseOk t b x
 ·have HE:=zI (Ly.dback_bad (g:=g) (by rw [hg0];rfl:(Ly.denseOk t b x&&Tn.right g&&decide (g.s=b.s))=false))
  clear hg0;obtain ⟨c0,c1,c2,c3,c4,c5,f0,f1,f2,f3,f4,f5⟩:=qar Hl;obtain ⟨hW,Hw,H8,Gc,gl,HY⟩:=zd6 hP Hl HO Hk HH hY;clear hP Hl HO Hk HH hY;go_wp2_with fail;refine Zk1 (v:=.tuple #[.agg #[sQ none 0 0,sQ none 0 0,sQ none 0 0,sQ none 0 0,sQ none 0 0,sQ none 0 0],nQ iQ 20]) (by simp [results,Tryz.results44,go_sem,c0,c1,c2,c3,c4,c5]) rfl ?_;exact GoD.fail HE.out dZ (qbQ (p:=w.heap.size+4) hW.out oZ _ _ _ _ _ _)
 obtain ⟨Hm,Hs,gm,HL,HK,gh⟩:=Ly.dense_yes hg0;have d0:=hY.cell 0;have d1:=hY.cell 1;have b0:=Hk.cell 0;simp at d0 d1 b0;have lg1:=Hg.out.l1;have lg2:=Hg.out.l2;have lb1:=Hb.out.l1;have gH:=qa5 GS GC gc gd g w2 oZ oZ (Hg.out.later hP).r.1;have gV:=λ(V:Zp1) (h:Later w2 V)=>qac GS S' gc c' g.s b.s V oZ oZ (Hg.out.later (hP.trans h)).r.1 (Hb.out.later (hP.trans h)).r.1
 have Hc:=λh=>Ly.dback_bad (w:=t) (b:=b) (x:=x) (g:=g) h
 obtain ⟨hW,Hw,H8,Gc,gl,HY,Hh,gY,hn⟩:=zd9 hP Hl HO Hk HH hY gH gV Hc;clear hP Hl HO Hk HH hY gH gV Hc;cases hr:Tn.right g
 ·have HE:=zI (hn.out (by rw [hr,Bool.and_false,Bool.false_and]))
  rw [hr] at Hh;clear hn hr hg0 Hm Hs gm HL HK gh;go_wp2_with fail;refine (Hh.out).mono ?_;rintro e w3 ⟨rfl,HD⟩;have hi:Later w2 w3:=HD;have hT:=hi.blk Hw.out;have Hy:=hW.out.trans hi;clear d0 d1 b0 HD;obtain ⟨c0,c1,c2,c3,c4,c5,f0,f1,f2,f3,f4,f5⟩:=qar hT;obtain ⟨h3,GA,H5⟩:=zd3 hi hT Hy;clear hi hT Hy;go_wp2_with fail;refine Zk1 (v:=.tuple #[.agg #[sQ none 0 0,sQ none 0 0,sQ none 0 0,sQ none 0 0,sQ none 0 0,sQ none 0 0],nQ iQ 20]) (by simp [results,Tryz.results44,go_sem,c0,c1,c2,c3,c4,c5]) rfl ?_;exact GoD.fail HE.out dZ (qbQ (p:=w.heap.size+4) H5.out oZ _ _ _ _ _ _)
 rw [hr] at Hh;go_wp2_with fail;refine (Hh.out).mono ?_;rintro e w3 ⟨rfl,HD⟩;have hi:Later w2 w3:=HD;have d0':=hi.cell d0;have b0':=hi.cell b0;clear HD d0 d1 b0;have he:=gY.out _ hi;cases hq:(g.s==b.s)
 ·have HE:=zI (hn.out (by rw [show decide (g.s=b.s)=false by simpa using hq,Bool.and_false]))
  rw [hq] at he;clear hn hr hg0 Hm Hs gm HL HK gh hq;obtain ⟨h3,hD⟩:=zd2 hi he;clear hi he;go_wp2_with fail;refine (hD.out).mono ?_;rintro e w4 ⟨rfl,q4,rfl⟩;have hT:=(h3.out.drewN q4).blk Hw.out;have Hy:=(hW.out.trans h3.out).drewN q4;clear d0' b0';obtain ⟨c0,c1,c2,c3,c4,c5,f0,f1,f2,f3,f4,f5⟩:=qar hT;obtain ⟨GA,H5⟩:=zd2 hT Hy;clear hT Hy;go_wp2_with fail;refine Zk1 (v:=.tuple #[.agg #[sQ none 0 0,sQ none 0 0,sQ none 0 0,sQ none 0 0,sQ none 0 0,sQ none 0 0],nQ iQ 20]) (by simp [results,Tryz.results44,go_sem,c0,c1,c2,c3,c4,c5]) rfl ?_;exact GoD.fail HE.out dZ (qbQ (p:=w.heap.size+4) H5.out oZ _ _ _ _ _ _)
 rw [hq] at he;have gT:g.s=b.s:=by simpa using hq
 have HE:=zI (Ly.dback_ok (by rw [hg0,hr];simpa using hq:(Ly.denseOk t b x&&Tn.right g&&decide (g.s=b.s))=true));obtain ⟨m,n,Gu,gN,HS,H9,ge,GD,g8,gn⟩:=qe4 Hm Hs;have gQ:g.c.length=m:=by have:=qf1 hr (gT.trans HK);omega
 have gX:x.c.length=n:=by omega
 obtain ⟨r1,r2⟩:=Ly.right_ok Hm;obtain ⟨r3,r4⟩:=Ly.right_ok HL;obtain ⟨r5,r6⟩:=Ly.right_ok hr;clear hn hr hg0 Hm gm HL HK gh hq gT Gu;obtain ⟨h3,hD⟩:=zd2 hi he;clear hi he;go_wp2_with fail;refine (hD.out).mono ?_;rintro e w4 ⟨rfl,q4,rfl⟩;have h4:=h3.out.drewN q4;clear d0' b0' hD gY Hh h3;generalize w3.drewN q4=w4 at *;have h9:=hW.out.trans h4;have hA:=h4.blk H8.out;have hE:=h4.blk gl.out;have hF:=h4.blk HY.out;have g4:=h4.blk Hw.out;clear h4 hW H8 Gc gl HY Hw;have a0:w4.cell? ⟨w.heap.size,0,none⟩=some (sQ S t.s.length c):=hA.cell 0;have a1:w4.cell? ⟨w.heap.size,1,none⟩=some (sQ C t.c.length d):=hA.cell 1;have x0:w4.cell? ⟨w.heap.size+2,0,none⟩=some (sQ S2 x.s.length c2):=hE.cell 0;have x1:w4.cell? ⟨w.heap.size+2,1,none⟩=some (sQ C2 x.c.length d2):=hE.cell 1;have d0:w4.cell? ⟨w.heap.size+3,0,none⟩=some (sQ GS g.s.length gc):=hF.cell 0;have d1:w4.cell? ⟨w.heap.size+3,1,none⟩=some (sQ GC g.c.length gd):=hF.cell 1;have gr:=λ(V:Zp1) (h:Later w4 V)=>qab S C c d t V oZ oZ (Ht.out.later (h9.trans h)).r
 have Gd:=λ(V:Zp1) (h:Later w4 V)=>qab GS GC gc gd g V oZ oZ (Hg.out.later (h9.trans h)).r
 have gA:=λ(V:Zp1) (h:Later w4 V)=>qab S2 C2 c2 d2 x V oZ oZ (Hx.out.later (h9.trans h)).r
 obtain ⟨HM,ho,hv,hs,hL,gj,HP,Hu,hN⟩:=zd9 h9 hA hE hF g4 gr Gd gA g8;obtain ⟨h7,hh,gi,gp,gy⟩:=zd5 gQ gX gn gN Hs;clear h9 hA hE hF g4 gr Gd gA g8 gQ gX gn gN Hs;go_upto_region 3 with fail
 go_cut [10] (DbCut w #[sQ S t.s.length c,sQ C t.c.length d] #[sQ S2 x.s.length c2,sQ C2 x.c.length d2] #[sQ GS g.s.length gc,sQ GC g.c.length gd] t g x)
 case first=>
  go_wp2_with fail;have KF:=zI (show ∀Xw,Later w4 Xw->Xw.cell? ⟨w.heap.size,0,none⟩=some (sQ S t.s.length c)/\Xw.cell? ⟨w.heap.size,1,none⟩=some (sQ C t.c.length d)/\Xw.cell? ⟨w.heap.size+2,0,none⟩=some (sQ S2 x.s.length c2)/\Xw.cell? ⟨w.heap.size+2,1,none⟩=some (sQ C2 x.c.length d2)/\Xw.cell? ⟨w.heap.size+3,0,none⟩=some (sQ GS g.s.length gc)/\Xw.cell? ⟨w.heap.size+3,1,none⟩=some (sQ GC g.c.length gd) from λXw h=>⟨h.cell a0,h.cell a1,h.cell x0,h.cell x1,h.cell d0,h.cell d1⟩);refine Zm1 ?_;refine Zl1 (S:=λXw=>Xw.cell? ⟨w.heap.size,0,none⟩=some (sQ S t.s.length c)/\Xw.cell? ⟨w.heap.size,1,none⟩=some (sQ C t.c.length d)/\Xw.cell? ⟨w.heap.size+2,0,none⟩=some (sQ S2 x.s.length c2)/\Xw.cell? ⟨w.heap.size+2,1,none⟩=some (sQ C2 x.c.length d2)/\Xw.cell? ⟨w.heap.size+3,0,none⟩=some (sQ GS g.s.length gc)/\Xw.cell? ⟨w.heap.size+3,1,none⟩=some (sQ GC g.c.length gd)) krZ (KF.out _ Lau) (λhHeld=>?_);refine tk 0 ?_;refine tk 2 ?_;refine tk 4 ?_;refine Zo1 (rs:=[1,7]) krZ sZ ?_;refine Zf1 (o:=_) rfl (λK hK=>?_) (Zf1 (o:=_) rfl (λK hK=>?_) (Zg1))
  ·simp only [ga,gs,gz]
   go_simp
   go_at_call 37;(with_reducible refine (gj.out _ (Lau:Later w4 _)).mono ?_);rintro e wa ⟨v,rfl,⟨g0,h0,rfl,q1,q2,hG,hH⟩,Hv⟩
   have k0:w4.heap.size<=g0/\w4.heap.size<=h0:=by (constructor<;>first|assumption|(simp at q1 q2;omega))
   obtain ⟨h8,HB⟩:=zd2 hG hH;clear q1 q2 hG hH
   try go_wp2_with fail
   refine hK.out _ _ (KF.out _ Lau) (λhHeld=>?_);clear hK K
   try simp only [ga,gs,gz,Act.put,sa,sz,ss]
   refine Zo1 (rs:=[3,7]) krZ sZ ?_;refine Zf1 (o:=_) rfl (λK hK=>?_) (Zf1 (o:=_) rfl (λK hK=>?_) (Zg1))
   ·simp only [ga,gs,gz]
    go_simp
    go_at_call 37;(with_reducible refine (HP.out _ (Lau:Later w4 _)).mono ?_);rintro e wb ⟨v,rfl,⟨g1,h1,rfl,q1,q2,hG,hH⟩,hy⟩
    have k1:wa.heap.size<=g1/\wa.heap.size<=h1:=by (constructor<;>first|assumption|(simp at q1 q2;omega))
    obtain ⟨hX,h6⟩:=zd2 hG hH;clear q1 q2 hG hH
    try go_wp2_with fail
    refine hK.out _ _ (KF.out _ Lau) (λhHeld=>?_);clear hK K
    try simp only [ga,gs,gz,Act.put,sa,sz,ss]
    refine Zo1 (rs:=[5,7]) krZ sZ ?_;refine Zf1 (o:=_) rfl (λK hK=>?_) (Zf1 (o:=_) rfl (λK hK=>?_) (Zg1))
    ·simp only [ga,gs,gz]
     go_simp
     go_at_call 37;(with_reducible refine (Hu.out _ (Lau:Later w4 _)).mono ?_);rintro e wc ⟨v,rfl,⟨g2,h2,rfl,q1,q2,hG,hH⟩,hf⟩
     have k2:wb.heap.size<=g2/\wb.heap.size<=h2:=by (constructor<;>first|assumption|(simp at q1 q2;omega))
     obtain ⟨hR,hO⟩:=zd2 hG hH;clear q1 q2 hG hH
     try go_wp2_with fail
     refine hK.out _ _ (KF.out _ Lau) (λhHeld=>?_);clear hK K
     try simp only [ga,gs,gz,Act.put,sa,sz,ss]
     refine tk 6 ?_;refine rd 7 λK hK=>?_
     simp only [ga,gs,gz]
     go_simp
     refine hK.out _ _ (KF.out _ Lau) (λhHeld=>?_);clear hK K
     try simp only [ga,gs,gz,Act.put,sa,sz,ss]
     refine rd 8 λK hK=>?_
     simp only [ga,gs,gz]
     go_simp
     refine hK.out _ _ ?_ (λhHeld=>?_)
     ·(try dsimp only);(refine ⟨?_,?_,?_,?_,?_,?_⟩<;>(repeat (refine qa0 ?_ (by first|omega|(simp;done)|(simp;omega))))<;>(refine Later.cell (Lau:Later w4 _) ?_)<;>assumption)
     clear hK K
     try simp only [ga,gs,gz,Act.put,sa,sz,ss]
     clear KF;refine Zn1 krZ ?_ _;refine Zd1 ?_;go_wp2_with fail;have l1:Later w4 wa:=(Lau:Later w4 wa)
     have l2:Later wa wb:=(Lau:Later wa wb)
     have l3:Later wb wc:=(Lau:Later wb wc)
     have l4:=l1.size;have l5:=l2.size;have l6:=l3.size
     go_meet
     exact ⟨wc.heap.size,g0,h0,g1,h1,g2,h2,rfl,db_mk HM.out ho.out hv.out hs.out hL.out h8.out HB.out hX.out h6.out (((Later.refl wc).alloc _).blk hR.out) (((Later.refl wc).alloc _).blk hO.out) (Blk.new wc _ _) l1 l2 (l3.alloc _) k0 k1 k2 oZ⟩
    ·simp only [ga,gs,gz]
     go_simp
     refine hK.out _ _ (KF.out _ Lau) (λhHeld=>?_);clear hK K
     try simp only [ga,gs,gz,Act.put,sa,sz,ss]
     refine rd 5 λK hK=>?_
     simp only [ga,gs,gz]
     go_simp
     go_at_call 37;(with_reducible refine (Hu.out _ (Lau:Later w4 _)).mono ?_);rintro e wc ⟨v,rfl,⟨g2,h2,rfl,q1,q2,hG,hH⟩,hf⟩
     have k2:wb.heap.size<=g2/\wb.heap.size<=h2:=by (constructor<;>first|assumption|(simp at q1 q2;omega))
     obtain ⟨hR,hO⟩:=zd2 hG hH;clear q1 q2 hG hH;have hu:=(show Later (wb.alloc (.cells #[sQ none 0 0,sQ none 0 0,sQ none 0 0,sQ none 0 0,sQ none 0 0,sQ none 0 0] 109)) wc from hf).blk (Blk.new wb _ _);obtain ⟨z0,z1,z2,z3,z4,z5,y0,y1,y2,y3,y4,y5⟩:=qar hu;have Ho:=zI hu;have lA:Later w4 wa:=(Lau:Later w4 wa)
     have lB:Later wa wb:=(Lau:Later wa wb)
     have sA:=lA.size;have sB:=lB.size;have sz:=hL.out.lt;clear hu lA lB
     try go_wp2_with fail
     refine hK.out _ _ (KF.out _ Lau) (λhHeld=>?_);clear hK K
     try simp only [ga,gs,gz,Act.put,sa,sz,ss]
     refine tk 6 ?_;refine rd 8 λK hK=>?_
     simp only [ga,gs,gz]
     go_simp
     refine hK.out _ _ ?_ (λhHeld=>?_)
     ·(try dsimp only);(refine ⟨?_,?_,?_,?_,?_,?_⟩<;>(repeat (refine qa0 ?_ (by first|omega|(simp;done)|(simp;omega))))<;>(refine Later.cell (Lau:Later w4 _) ?_)<;>assumption)
     clear hK K
     try simp only [ga,gs,gz,Act.put,sa,sz,ss]
     clear KF;refine Zn1 krZ ?_ _;refine Zd1 ?_;go_wp2_with fail;have l1:Later w4 wa:=(Lau:Later w4 wa)
     have l2:Later wa wb:=(Lau:Later wa wb)
     have l3:Later wb wc:=(Lau:Later wb wc)
     have l4:=l1.size;have l5:=l2.size;have l6:=l3.size
     go_meet
     exact ⟨wb.heap.size,g0,h0,g1,h1,g2,h2,rfl,(db_mk HM.out ho.out hv.out hs.out hL.out h8.out HB.out hX.out h6.out hR.out hO.out Ho.out l1 l2 l3 k0 k1 k2 oZ).store⟩
   ·simp only [ga,gs,gz]
    go_simp
    refine hK.out _ _ (KF.out _ Lau) (λhHeld=>?_);clear hK K
    try simp only [ga,gs,gz,Act.put,sa,sz,ss]
    refine rd 3 λK hK=>?_
    simp only [ga,gs,gz]
    go_simp
    go_at_call 37;(with_reducible refine (HP.out _ (Lau:Later w4 _)).mono ?_);rintro e wb ⟨v,rfl,⟨g1,h1,rfl,q1,q2,hG,hH⟩,hy⟩
    have k1:wa.heap.size<=g1/\wa.heap.size<=h1:=by (constructor<;>first|assumption|(simp at q1 q2;omega))
    obtain ⟨hX,h6⟩:=zd2 hG hH;clear q1 q2 hG hH
    try go_wp2_with fail
    refine hK.out _ _ (KF.out _ Lau) (λhHeld=>?_);clear hK K
    try simp only [ga,gs,gz,Act.put,sa,sz,ss]
    refine rd 5 λK hK=>?_
    simp only [ga,gs,gz]
    go_simp
    go_at_call 37;(with_reducible refine (Hu.out _ (Lau:Later w4 _)).mono ?_);rintro e wc ⟨v,rfl,⟨g2,h2,rfl,q1,q2,hG,hH⟩,hf⟩
    have k2:wb.heap.size<=g2/\wb.heap.size<=h2:=by (constructor<;>first|assumption|(simp at q1 q2;omega))
    obtain ⟨hR,hO⟩:=zd2 hG hH;clear q1 q2 hG hH;have hu:=(show Later wb wc from hf).blk ((show Later _ wb from hy).blk (Blk.new wa 109 #[sQ none 0 0,sQ none 0 0,sQ none 0 0,sQ none 0 0,sQ none 0 0,sQ none 0 0]));obtain ⟨z0,z1,z2,z3,z4,z5,y0,y1,y2,y3,y4,y5⟩:=qar hu;have Ho:=zI hu;have lA:Later w4 wa:=(Lau:Later w4 wa)
    have lB:Later wa wb:=(Lau:Later wa wb)
    have sA:=lA.size;have sB:=lB.size;have sz:=hL.out.lt;clear hu lA lB
    try go_wp2_with fail
    refine hK.out _ _ (KF.out _ Lau) (λhHeld=>?_);clear hK K
    try simp only [ga,gs,gz,Act.put,sa,sz,ss]
    refine tk 6 ?_;refine rd 8 λK hK=>?_
    simp only [ga,gs,gz]
    go_simp
    refine hK.out _ _ ?_ (λhHeld=>?_)
    ·(try dsimp only);(refine ⟨?_,?_,?_,?_,?_,?_⟩<;>(repeat (refine qa0 ?_ (by first|omega|(simp;done)|(simp;omega))))<;>(refine Later.cell (Lau:Later w4 _) ?_)<;>assumption)
    clear hK K
    try simp only [ga,gs,gz,Act.put,sa,sz,ss]
    clear KF;refine Zn1 krZ ?_ _;refine Zd1 ?_;go_wp2_with fail;have l1:Later w4 wa:=(Lau:Later w4 wa)
    have l2:Later wa wb:=(Lau:Later wa wb)
    have l3:Later wb wc:=(Lau:Later wb wc)
    have l4:=l1.size;have l5:=l2.size;have l6:=l3.size
    go_meet
    exact ⟨wa.heap.size,g0,h0,g1,h1,g2,h2,rfl,(db_mk HM.out ho.out hv.out hs.out hL.out h8.out HB.out hX.out h6.out hR.out hO.out Ho.out l1 l2 l3 k0 k1 k2 oZ).store⟩
  ·simp only [ga,gs,gz]
   go_simp
   refine hK.out _ _ (KF.out _ Lau) (λhHeld=>?_);clear hK K
   try simp only [ga,gs,gz,Act.put,sa,sz,ss]
   refine rd 1 λK hK=>?_
   simp only [ga,gs,gz]
   go_simp
   go_at_call 37;(with_reducible refine (gj.out _ (Lau:Later w4 _)).mono ?_);rintro e wa ⟨v,rfl,⟨g0,h0,rfl,q1,q2,hG,hH⟩,Hv⟩
   have k0:w4.heap.size<=g0/\w4.heap.size<=h0:=by (constructor<;>first|assumption|(simp at q1 q2;omega))
   obtain ⟨h8,HB⟩:=zd2 hG hH;clear q1 q2 hG hH
   try go_wp2_with fail
   refine hK.out _ _ (KF.out _ Lau) (λhHeld=>?_);clear hK K
   try simp only [ga,gs,gz,Act.put,sa,sz,ss]
   refine rd 3 λK hK=>?_
   simp only [ga,gs,gz]
   go_simp
   go_at_call 37;(with_reducible refine (HP.out _ (Lau:Later w4 _)).mono ?_);rintro e wb ⟨v,rfl,⟨g1,h1,rfl,q1,q2,hG,hH⟩,hy⟩
   have k1:wa.heap.size<=g1/\wa.heap.size<=h1:=by (constructor<;>first|assumption|(simp at q1 q2;omega))
   obtain ⟨hX,h6⟩:=zd2 hG hH;clear q1 q2 hG hH
   try go_wp2_with fail
   refine hK.out _ _ (KF.out _ Lau) (λhHeld=>?_);clear hK K
   try simp only [ga,gs,gz,Act.put,sa,sz,ss]
   refine rd 5 λK hK=>?_
   simp only [ga,gs,gz]
   go_simp
   go_at_call 37;(with_reducible refine (Hu.out _ (Lau:Later w4 _)).mono ?_);rintro e wc ⟨v,rfl,⟨g2,h2,rfl,q1,q2,hG,hH⟩,hf⟩
   have k2:wb.heap.size<=g2/\wb.heap.size<=h2:=by (constructor<;>first|assumption|(simp at q1 q2;omega))
   obtain ⟨hR,hO⟩:=zd2 hG hH;clear q1 q2 hG hH;have hu:=(show Later wb wc from hf).blk ((show Later wa wb from hy).blk ((show Later _ wa from Hv).blk ((Blk.new w4 109 #[sQ none 0 0,sQ none 0 0,sQ none 0 0,sQ none 0 0,sQ none 0 0,sQ none 0 0]).drew)));obtain ⟨z0,z1,z2,z3,z4,z5,y0,y1,y2,y3,y4,y5⟩:=qar hu;have Ho:=zI hu;have lA:Later w4 wa:=(Lau:Later w4 wa)
   have lB:Later wa wb:=(Lau:Later wa wb)
   have sA:=lA.size;have sB:=lB.size;have sz:=hL.out.lt;clear hu lA lB
   try go_wp2_with fail
   refine hK.out _ _ (KF.out _ Lau) (λhHeld=>?_);clear hK K
   try simp only [ga,gs,gz,Act.put,sa,sz,ss]
   refine tk 6 ?_;refine rd 8 λK hK=>?_
   simp only [ga,gs,gz]
   go_simp
   refine hK.out _ _ ?_ (λhHeld=>?_)
   ·(try dsimp only);(refine ⟨?_,?_,?_,?_,?_,?_⟩<;>(repeat (refine qa0 ?_ (by first|omega|(simp;done)|(simp;omega))))<;>(refine Later.cell (Lau:Later w4 _) ?_)<;>assumption)
   clear hK K
   try simp only [ga,gs,gz,Act.put,sa,sz,ss]
   clear KF;refine Zn1 krZ ?_ _;refine Zd1 ?_;go_wp2_with fail;have l1:Later w4 wa:=(Lau:Later w4 wa)
   have l2:Later wa wb:=(Lau:Later wa wb)
   have l3:Later wb wc:=(Lau:Later wb wc)
   have l4:=l1.size;have l5:=l2.size;have l6:=l3.size
   go_meet
   exact ⟨w4.heap.size,g0,h0,g1,h1,g2,h2,rfl,(db_mk HM.out ho.out hv.out hs.out hL.out h8.out HB.out hX.out h6.out hR.out hO.out Ho.out l1 l2 l3 k0 k1 k2 oZ).store⟩
 case rest=>
  obtain ⟨tb,g0,h0,g1,h1,g2,h2,rfl,hI⟩:=hcut;have e5:=hI.ke.cell 5;simp at e5;have Hp:0<x.c.length:=by have:=hh.out;omega
  clear a0 a1 x0 x1 d0 d1 ho hv hs hL gj HP Hu;have HI:=zI hI;clear hI;go_wp2_with (refine qc6 rfl (.tmp 45) 28 42 rfl Tryz.underlying28 Tryz.zeroValue42 h2 42 x.c x.c.length rfl HI.out.H2 Hp ?_);intro w5 gv gq;have gg:DbI w tb g0 h0 g1 h1 g2 h2 #[sQ S t.s.length c,sQ C t.c.length d] #[sQ S2 x.s.length c2,sQ C2 x.c.length d2] #[sQ GS g.s.length gc,sQ GC g.c.length gd] #[sQ (some ⟨g0,0,none⟩) t.s.length t.s.length,sQ (some ⟨h0,0,none⟩) t.c.length t.c.length,sQ (some ⟨g1,0,none⟩) g.s.length g.s.length,sQ (some ⟨h1,0,none⟩) g.c.length g.c.length,sQ (some ⟨g2,0,none⟩) x.s.length x.s.length,sQ (some ⟨h2,0,none⟩) x.c.length x.c.length] t.s g.s x.s g.c t.c (Ly.denseX t.c g.c x.c 0) w5:=HI.out.elseX gq gv;clear HI gv gq e5;obtain ⟨DW,hDW⟩:∃DW,Ly.denseW g.c x.c=DW:=⟨_,rfl⟩
  have Gb:DW.length=t.c.length:=by rw [←hDW,Ly.denseW_len,h7.out,hh.out,hN.out]
  have gJ:∀z∈DW,Fx.In z:=by rw [←hDW];exact Ly.denseW_in _ _
  have gE:∀k j,k<m->j<n->Ly.at_ DW (k*n+j)=Fx.mul (Ly.at_ g.c k) (Ly.at_ x.c j):=λk j hk hj=>by
   have:=Ly.denseW_at g.c x.c (i:=k) (j:=j) (by have:=h7.out;omega) (by have:=hh.out;omega)
   rwa [hDW,hh.out] at this
  rw [hDW] at HE;have d1:w5.cell? ⟨w.heap.size+3,1,none⟩=some (sQ GC g.c.length gd):=by rw [gg.kg.cell];rfl
  clear hDW;obtain ⟨g9,hm,gK,Gt⟩:=zd4 gg Gb gJ gE;clear gg Gb gJ gE;go_wp2_with fail;clear d1
  go_loopw [49] (λi wx=>∃k:Nat,k<=m/\i=nQ iQ (k:Int)/\DbI w tb g0 h0 g1 h1 g2 h2 #[sQ S t.s.length c,sQ C t.c.length d] #[sQ S2 x.s.length c2,sQ C2 x.c.length d2] #[sQ GS g.s.length gc,sQ GC g.c.length gd] #[sQ (some ⟨g0,0,none⟩) t.s.length t.s.length,sQ (some ⟨h0,0,none⟩) t.c.length t.c.length,sQ (some ⟨g1,0,none⟩) g.s.length g.s.length,sQ (some ⟨h1,0,none⟩) g.c.length g.c.length,sQ (some ⟨g2,0,none⟩) x.s.length x.s.length,sQ (some ⟨h2,0,none⟩) x.c.length x.c.length] t.s g.s x.s g.c (DW.take (k*n)++t.c.drop (k*n)) (Ly.denseX t.c g.c x.c k) wx) (λi _=>m-(intOf i).toNat)
  case atStart=>exact ⟨0,Zt _,rfl,by simpa using g9.out⟩
  case round=>
   obtain ⟨k,hk,rfl,hJ⟩:=hrel;have gn:=gi.out;clear g9
   by_cases HV:k<m
   ·have Gz:k*n+n<=m*n:=by
     have:(k+1)*n<=m*n:=mlZ _ HV
     rwa [Zu] at this
    obtain ⟨bg,og,Gv,-,Gw⟩:=(Hg.out.later hJ.later).cell (k:=k) (by have:=h7.out;omega);obtain ⟨bt,ot,hC,-,-⟩:=Ht.out.cell (k:=0) (by have:=hN.out;have:1*1<=m*n:=Nat.mul_le_mul HS H9;omega);obtain ⟨bx,ox,Gx,-,-⟩:=Hx.out.cell (k:=0) (by have:=hh.out;omega);subst Gv hC Gx;have hU:(DW.take (k*n)++t.c.drop (k*n)).length=t.c.length:=by rw [Ly.mid_len DW t.c (k*n) (by rw [hm.out,hN.out];omega) hm.out,hm.out]
    have H6:∀z∈DW.take (k*n)++t.c.drop (k*n),Fx.In z:=Ly.mid_in gK.out Ht.out.num;have gt:=λ(V:Zp1) (hV:Later wr V)=>qbZ S bt ot c d t m n k V (Ht.out.later (hJ.later.trans hV)) (by have:=gy.out;omega) gp.out hN.out HV H9 gi.out
    have gu:=λ(V:Zp1) (hV:Later wr V)=>(show Calls Tryz.prog 87 #[.agg #[sQ (some ⟨g0,0,none⟩) t.s.length t.s.length,sQ (some ⟨h0,0,none⟩) t.c.length t.c.length],nQ iQ k] V λe w'=>e=.returned (sQ (some ⟨h0,k*n,none⟩) n n)/\Below V.heap.size V w' from by
     have:=qbZ (some ⟨g0,0,none⟩) h0 0 t.s.length (DW.take (k*n)++t.c.drop (k*n)).length ⟨t.s,DW.take (k*n)++t.c.drop (k*n)⟩ m n k V ((hJ.to hV).wt oZ oZ H6) (by have:=gy.out;show 2<=t.s.length;omega) gp.out (hU.trans hN.out) HV H9 gi.out;simp only [hU,Zw] at this;exact this)
    have a0:wr.cell? ⟨w.heap.size,0,none⟩=some (sQ S t.s.length c):=by rw [hJ.kw.cell];rfl
    have a1:wr.cell? ⟨w.heap.size,1,none⟩=some (sQ (some ⟨bt,ot,none⟩) t.c.length d):=by rw [hJ.kw.cell];rfl
    have e0:wr.cell? ⟨tb,0,none⟩=some (sQ (some ⟨g0,0,none⟩) t.s.length t.s.length):=by rw [hJ.ke.cell];rfl
    have e1:wr.cell? ⟨tb,1,none⟩=some (sQ (some ⟨h0,0,none⟩) t.c.length t.c.length):=by rw [hJ.ke.cell];rfl
    have kk1:(k:Int)<(g.c.length:Int):=by have:=h7.out;omega
    clear hU;obtain ⟨HJ,Ga,gD,Gs⟩:=zd4 hJ gt gu H6;clear hJ gt gu H6;go_wp2_with fail;have KF:=zI (show ∀Xw,Later wr Xw->Xw.cell? ⟨w.heap.size,0,none⟩=some (sQ S t.s.length c)/\Xw.cell? ⟨w.heap.size,1,none⟩=some (sQ (some ⟨bt,ot,none⟩) t.c.length d)/\Xw.cell? ⟨tb,0,none⟩=some (sQ (some ⟨g0,0,none⟩) t.s.length t.s.length)/\Xw.cell? ⟨tb,1,none⟩=some (sQ (some ⟨h0,0,none⟩) t.c.length t.c.length) from λXw h=>⟨h.cell a0,h.cell a1,h.cell e0,h.cell e1⟩);refine Zm1 ?_;refine Zl1 (S:=λXw=>Xw.cell? ⟨w.heap.size,0,none⟩=some (sQ S t.s.length c)/\Xw.cell? ⟨w.heap.size,1,none⟩=some (sQ (some ⟨bt,ot,none⟩) t.c.length d)/\Xw.cell? ⟨tb,0,none⟩=some (sQ (some ⟨g0,0,none⟩) t.s.length t.s.length)/\Xw.cell? ⟨tb,1,none⟩=some (sQ (some ⟨h0,0,none⟩) t.c.length t.c.length)) krZ (KF.out _ Lau) (λhHeld=>?_);refine tk 0 ?_;refine tk 1 ?_;refine tk 3 ?_;refine tk 4 ?_;refine tk 5 ?_;refine rd 2 λK hK=>?_
    simp only [ga,gs,gz]
    go_simp
    go_at_call 87;(with_reducible refine (Ga.out _ (Lau:Later wr _)).mono ?_);rintro e wa ⟨rfl,Gl⟩
    try go_wp2_with fail
    refine hK.out _ _ (KF.out _ Lau) (λhHeld=>?_);clear hK K
    try simp only [ga,gs,gz,Act.put,sa,sz,ss]
    refine rd 6 λK hK=>?_
    simp only [ga,gs,gz]
    go_simp
    go_at_call 87;(with_reducible refine (gD.out _ (Lau:Later wr _)).mono ?_);rintro e wb ⟨rfl,Gh⟩
    try go_wp2_with fail
    refine hK.out _ _ (KF.out _ Lau) (λhHeld=>?_);clear hK K
    try simp only [ga,gs,gz,Act.put,sa,sz,ss]
    refine tk 7 ?_;refine tk 8 ?_;clear KF;refine Zn1 krZ ?_ _;refine Zd1 ?_;have gL:Later wr wb:=(Lau:Later wr wb)
    have HT:=HJ.out.to gL;have x1:wb.cell? ⟨w.heap.size+2,1,none⟩=some (sQ (some ⟨bx,ox,none⟩) x.c.length d2):=by rw [HT.kx.cell];rfl
    have H7:(k+1)*n=k*n+n:=Zu k n;obtain ⟨p,hp⟩:∃p,p=k*n:=⟨_,rfl⟩
    have gw:p+n<=t.c.length:=by have:=hN.out;omega
    rw [←hp] at HT H7 ⊢;have gW:∀j,j<n->Ly.at_ DW (p+j)=Fx.mul (Ly.at_ g.c k) (Ly.at_ x.c j):=λj hj=>by rw [hp];exact Gt.out k j HV hj
    have gS:∀j,j<n->Ly.at_ (Ly.denseX t.c g.c x.c (k+1)) j=Fx.add (Ly.at_ (Ly.denseX t.c g.c x.c k) j) (Fx.mul (Ly.at_ t.c (p+j)) (Ly.at_ g.c k)):=λj hj=>by
     have:=Ly.denseX_at t.c g.c x.c (i:=k) (j:=j) (by have:=hh.out;omega);rw [this,hh.out,hp]
    have Hn:(Ly.denseX t.c g.c x.c k).length=n:=by rw [Ly.denseX_len];exact hh.out
    have HG:(Ly.denseX t.c g.c x.c (k+1)).length=n:=by rw [Ly.denseX_len];exact hh.out
    have He:=Ly.denseX_in t.c g.c x.c k;have HC:=Ly.at_in Hg.out.num k;generalize hX0:Ly.denseX t.c g.c x.c k=X0 at *;generalize hX1:Ly.denseX t.c g.c x.c (k+1)=X1 at *;generalize Ly.at_ g.c k=gk at *;have gZ:DbI w tb g0 h0 g1 h1 g2 h2 #[sQ S t.s.length c,sQ (some ⟨bt,ot,none⟩) t.c.length d] #[sQ S2 x.s.length c2,sQ (some ⟨bx,ox,none⟩) x.c.length d2] #[sQ GS g.s.length gc,sQ (some ⟨bg,og,none⟩) g.c.length gd] #[sQ (some ⟨g0,0,none⟩) t.s.length t.s.length,sQ (some ⟨h0,0,none⟩) t.c.length t.c.length,sQ (some ⟨g1,0,none⟩) g.s.length g.s.length,sQ (some ⟨h1,0,none⟩) g.c.length g.c.length,sQ (some ⟨g2,0,none⟩) x.s.length x.s.length,sQ (some ⟨h2,0,none⟩) x.c.length x.c.length] t.s g.s x.s g.c (DW.take (p+0)++t.c.drop (p+0)) (X1.take 0++X0.drop 0) wb:=by simpa using HT
    clear a0 a1 e0 e1 hp Gl Gh hHeld HJ Ga gD Gs gL HT Gw Gz hX0;obtain ⟨gC,Gp,Ge,Go,Gn,hB,hc,gf,Hr⟩:=zd9 gZ H7 gw gW gS Hn HG He HC;have Gq:=zI hX1;clear gZ H7 gw gW gS Hn HG He HC hX1;go_wp2_with fail;clear x1
    go_loopw [64] (λi wx=>∃j:Nat,j<=n/\i=nQ iQ (j:Int)/\DbI w tb g0 h0 g1 h1 g2 h2 #[sQ S t.s.length c,sQ (some ⟨bt,ot,none⟩) t.c.length d] #[sQ S2 x.s.length c2,sQ (some ⟨bx,ox,none⟩) x.c.length d2] #[sQ GS g.s.length gc,sQ (some ⟨bg,og,none⟩) g.c.length gd] #[sQ (some ⟨g0,0,none⟩) t.s.length t.s.length,sQ (some ⟨h0,0,none⟩) t.c.length t.c.length,sQ (some ⟨g1,0,none⟩) g.s.length g.s.length,sQ (some ⟨h1,0,none⟩) g.c.length g.c.length,sQ (some ⟨g2,0,none⟩) x.s.length x.s.length,sQ (some ⟨h2,0,none⟩) x.c.length x.c.length] t.s g.s x.s g.c (DW.take (p+j)++t.c.drop (p+j)) (X1.take j++X0.drop j) wx) (λi _=>n-(intOf i).toNat)
    case atStart=>exact ⟨0,Zt _,rfl,gC.out⟩
    case round=>
     obtain ⟨j,hj,rfl,hQ⟩:=hrel;clear gC
     by_cases hZ:j<n
     ·have GE:=Ge.out
      obtain ⟨b',o',e',-,xj⟩:=(Hx.out.later hQ.later).cell (k:=j) (by have:=hh.out;omega);injection e' with e';injection e' with e1 e2;subst e1 e2
      obtain ⟨b',o',e',-,tj⟩:=(Ht.out.later hQ.later).cell (k:=p+j) oZ;injection e' with e';injection e' with e1 e2;subst e1 e2
      have hU:(DW.take (p+j)++t.c.drop (p+j)).length=t.c.length:=by rw [Ly.mid_len DW t.c (p+j) (by rw [hm.out];omega) hm.out,hm.out]
      have hw:=Ly.mid_put' DW t.c (k:=p+j) (by rw [hm.out];omega) hm.out;rw [Go.out j hZ] at hw;have Hd:=Ly.mid_at2 X1 X0 (k:=j) (by rw [hc.out];exact hZ) (hc.out.trans hB.out.symm);have hM:(X1.take j++X0.drop j).length=n:=by rw [Ly.mid_len X1 X0 j (by rw [hc.out];omega) (hc.out.trans hB.out.symm),hc.out]
      have hd:=Ly.mid_put' X1 X0 (k:=j) (by rw [hc.out];exact hZ) (hc.out.trans hB.out.symm);rw [Gn.out j hZ] at hd;obtain ⟨wu,hwu⟩:∃u,wr.cell? ⟨h0,p+j,none⟩=some u:=⟨_,hQ.H0.row_get (by rw [hU];omega)⟩
      have GB:=hQ.H0.frozen (p+j)
      have gB:wr.cell? ⟨h2,j,none⟩=some (nQ iQ (Ly.at_ X0 j)):=by
       have:=hQ.H2.row_get (k:=j) (by rw [hM];exact hZ);rw [this,←Hd,Ly.at_get (by rw [hM];exact hZ)]
      have Hj:=Ly.at_in Hx.out.num j;have HA:=Ly.at_in Ht.out.num (p+j);have Hi:=Ly.at_in gf.out j;have Hf:p+(j+1)=p+j+1:=rfl;rw [←Hf] at hw;obtain ⟨W1,hW1⟩:∃W1,W1=DW.take (p+(j+1))++t.c.drop (p+(j+1)):=⟨_,rfl⟩
      obtain ⟨Y1,hY1⟩:∃Y1,Y1=X1.take (j+1)++X0.drop (j+1):=⟨_,rfl⟩
      rw [←hW1] at hw;rw [←hY1] at hd;generalize DW.take (p+j)++t.c.drop (p+j)=W0 at *;generalize X1.take j++X0.drop j=Y0 at *;generalize Ly.at_ X0 j=xo at *;generalize Ly.at_ x.c j=xv at *;generalize Ly.at_ t.c (p+j)=tv at *;have tj':wr.cell? ⟨bt,ot+p+j,none⟩=some (nQ iQ tv):=by rw [Nat.add_assoc];exact tj
      have e5:wr.cell? ⟨tb,5,none⟩=some (sQ (some ⟨h2,0,none⟩) x.c.length x.c.length):=by rw [hQ.ke.cell];rfl
      have gb:=hQ.putW (p+j) (Fx.mul gk xv);rw [hw] at gb;have H3:h2≠h0:=by have:=hQ.lo;omega
      have H1:bt≠h0:=λe=>by
       have h5:=Ht.out.cell (k:=0) oZ;obtain ⟨b',o',e',hl,-⟩:=h5;injection e' with e';injection e' with e1 e2;subst e1
       have:=hQ.lo;omega
      have H4:tb≠h0:=qas hQ.ke hQ.H0 dZ;have Gk:tb≠h2:=qas hQ.ke hQ.H2 dZ
      have Gy:bt≠h2:=λe=>by
       have h5:=Ht.out.cell (k:=0) oZ;obtain ⟨b',o',e',hl,-⟩:=h5;injection e' with e';injection e' with e1 e2;subst e1
       have:=hQ.lo;omega
      have jj1:(j:Int)<(x.c.length:Int):=by have:=hh.out;omega
      have jj2:(j:Int)<(n:Int):=by omega
      have HS:=λ(V:Zp1)=>qaN gk xv V Hr.out Hj
      have ge:=λ(V:Zp1)=>qaN tv gk V HA Hr.out
      have ha:=λ(V:Zp1)=>qb2 xo (Fx.mul tv gk) V Hi (Fx.mul_in _ _)
      clear tj hw Hd hM hU Hj HA Hi Hf;obtain ⟨HQ,g7,HF,Gf,g5,Ha,Gi,Gr⟩:=zd8 hQ gb hd HS ge ha hW1 hY1;clear hQ gb hd HS ge ha hW1 hY1;go_wp2_with fail;refine (Gf.out _).mono ?_;rintro e w' ⟨rfl,rfl⟩;go_wp2_with fail;have Gj:wr.setCell ⟨h0,p+j,none⟩ (nQ iQ (Fx.mul gk xv))=wr.setCell ⟨h0,p+j,none⟩ (nQ iQ (Fx.mul gk xv)):=rfl;have tq:(wr.setCell ⟨h0,p+j,none⟩ (nQ iQ (Fx.mul gk xv))).cell? ⟨bt,ot+p+j,none⟩=some (nQ iQ tv):=qa0 tj' H1;have xq:(wr.setCell ⟨h0,p+j,none⟩ (nQ iQ (Fx.mul gk xv))).cell? ⟨h2,j,none⟩=some (nQ iQ xo):=qa0 gB H3;have eq5:(wr.setCell ⟨h0,p+j,none⟩ (nQ iQ (Fx.mul gk xv))).cell? ⟨tb,5,none⟩=some (sQ (some ⟨h2,0,none⟩) x.c.length x.c.length):=qa0 e5 H4;clear Gj tj' gB e5 wu hwu GB xj;generalize wr.setCell ⟨h0,p+j,none⟩ (nQ iQ (Fx.mul gk xv))=wq at *;have xf:=g7.out.H2.frozen j;have HZ:=g7.out.putX j (Fx.add xo (Fx.mul tv gk));rw [HF.out,Gi.out,Gr.out] at HZ;have gF:=zI HZ;clear HZ;have KF:=zI (show ∀Xw,Later wq Xw->Xw.cell? ⟨bt,ot+p+j,none⟩=some (nQ iQ tv)/\Xw.cell? ⟨tb,5,none⟩=some (sQ (some ⟨h2,0,none⟩) x.c.length x.c.length) from λXw h=>⟨h.cell tq,h.cell eq5⟩);refine Zm1 ?_;refine Zl1 (S:=λXw=>Xw.cell? ⟨bt,ot+p+j,none⟩=some (nQ iQ tv)/\Xw.cell? ⟨tb,5,none⟩=some (sQ (some ⟨h2,0,none⟩) x.c.length x.c.length)) krZ (KF.out _ Lau) (λhHeld=>?_);refine tk 0 ?_;refine tk 1 ?_;refine tk 2 ?_;refine tk 3 ?_;refine tk 4 ?_;refine tk 5 ?_;refine tk 6 ?_;refine tk 7 ?_;refine tk 8 ?_;refine tk 10 ?_;refine tk 11 ?_;refine tk 12 ?_;refine tk 13 ?_;refine tk 14 ?_;refine Zo1 (rs:=[9,15]) krZ sZ ?_;refine Zf1 (o:=_) rfl (λK hK=>?_) (Zf1 (o:=_) rfl (λK hK=>?_) (Zg1))
      ·simp only [ga,gs,gz]
       go_simp
       refine hK.out _ _ (KF.out _ Lau) (λhHeld=>?_);clear hK K
       try simp only [ga,gs,gz,Act.put,sa,sz,ss]
       refine rd 15 λK hK=>?_
       simp only [ga,gs,gz]
       go_simp
       go_at_call 88;(with_reducible refine (g5.out _).mono ?_);rintro e wb ⟨rfl,rfl⟩
       try go_wp2_with fail
       refine hK.out _ _ (KF.out _ Lau) (λhHeld=>?_);clear hK K
       try simp only [ga,gs,gz,Act.put,sa,sz,ss]
       refine rd 16 λK hK=>?_
       simp only [ga,gs,gz]
       go_simp
       go_at_call 89;(with_reducible refine (Ha.out _).mono ?_);rintro e wc ⟨rfl,rfl⟩
       try go_wp2_with fail
       refine hK.out _ _ (KF.out _ Lau) (λhHeld=>?_);clear hK K
       try simp only [ga,gs,gz,Act.put,sa,sz,ss]
       refine tk 17 ?_;refine rd 18 λK hK=>?_
       simp only [ga,gs,gz]
       go_simp
       refine hK.out _ _ ?_ (λhHeld=>?_)
       ·(try dsimp only);(refine ⟨?_,?_⟩<;>(repeat (refine qa0 ?_ (by first|omega|(simp;done)|(simp;omega))))<;>(refine Later.cell (Lau:Later wq _) ?_)<;>assumption)
       clear hK K
       try simp only [ga,gs,gz,Act.put,sa,sz,ss]
       clear KF;refine Zn1 krZ ?_ _;refine Zd1 ?_;clear hHeld tq xq eq5 xf;go_wp2_with fail;go_roundw
       case rel=>exact ⟨j+1,by omega,by go_num,gF.out.to Lau⟩
       case measure=>simp [intOf];omega
      ·simp only [ga,gs,gz]
       go_simp
       go_at_call 88;(with_reducible refine (g5.out _).mono ?_);rintro e wb ⟨rfl,rfl⟩
       try go_wp2_with fail
       refine hK.out _ _ (KF.out _ Lau) (λhHeld=>?_);clear hK K
       try simp only [ga,gs,gz,Act.put,sa,sz,ss]
       refine rd 9 λK hK=>?_
       simp only [ga,gs,gz]
       go_simp
       refine hK.out _ _ (KF.out _ Lau) (λhHeld=>?_);clear hK K
       try simp only [ga,gs,gz,Act.put,sa,sz,ss]
       refine rd 16 λK hK=>?_
       simp only [ga,gs,gz]
       go_simp
       go_at_call 89;(with_reducible refine (Ha.out _).mono ?_);rintro e wc ⟨rfl,rfl⟩
       try go_wp2_with fail
       refine hK.out _ _ (KF.out _ Lau) (λhHeld=>?_);clear hK K
       try simp only [ga,gs,gz,Act.put,sa,sz,ss]
       refine tk 17 ?_;refine rd 18 λK hK=>?_
       simp only [ga,gs,gz]
       go_simp
       refine hK.out _ _ ?_ (λhHeld=>?_)
       ·(try dsimp only);(refine ⟨?_,?_⟩<;>(repeat (refine qa0 ?_ (by first|omega|(simp;done)|(simp;omega))))<;>(refine Later.cell (Lau:Later wq _) ?_)<;>assumption)
       clear hK K
       try simp only [ga,gs,gz,Act.put,sa,sz,ss]
       clear KF;refine Zn1 krZ ?_ _;refine Zd1 ?_;clear hHeld tq xq eq5 xf;go_wp2_with fail;go_roundw
       case rel=>exact ⟨j+1,by omega,by go_num,gF.out.to Lau⟩
       case measure=>simp [intOf];omega
     ·obtain rfl:j=n:=by omega
      have gP:=Ly.mid_end X1 X0 j hc.out.symm (hc.out.trans hB.out.symm);rw [gP,←Gp.out,←Gq.out] at hQ;have kk3:¬(j:Int)<(x.c.length:Int):=by have:=hh.out;omega
      clear gP;have HQ:=zI hQ;clear hQ;go_wp2_with fail;go_roundw
      case rel=>exact ⟨k+1,by omega,by go_num,HQ.out⟩
      case measure=>simp [intOf];omega
   ·obtain rfl:k=m:=by omega
    have gG:=Ly.mid_end DW t.c (k*n) (by rw [hm.out,hN.out]) hm.out;rw [gG] at hJ;have gM:=Ly.denseX_len t.c g.c x.c k;have gI:=Ly.denseX_in t.c g.c x.c k;have go:=HE.out;rw [h7.out] at go;generalize Ly.denseX t.c g.c x.c k=XX at *;obtain ⟨e0,e1,e2,e3,e4,e5,-⟩:=qar hJ.ke;obtain ⟨c0,c1,c2,c3,c4,c5,f0,f1,f2,f3,f4,f5⟩:=qar hJ.kz;obtain ⟨d0,d1,d2,d3,d4,d5,-⟩:=qar (qbE (u0:=sQ (some ⟨g0,0,none⟩) t.s.length t.s.length) (u1:=sQ (some ⟨h0,0,none⟩) t.c.length t.c.length) (u2:=sQ (some ⟨g1,0,none⟩) g.s.length g.s.length) (u3:=sQ (some ⟨h1,0,none⟩) g.c.length g.c.length) (u4:=sQ (some ⟨g2,0,none⟩) x.s.length x.s.length) (u5:=sQ (some ⟨h2,0,none⟩) x.c.length x.c.length) hJ.kz);unfold six at d0 d1 d2 d3 d4 d5;have kk2:¬(k:Int)<(g.c.length:Int):=by have:=h7.out;omega
    clear gG;obtain ⟨HJ,gx,Gg,Gm⟩:=zd4 hJ gM gI go;clear hJ gM gI go;go_wp2_with fail;refine Zk1 (v:=.tuple #[.agg #[sQ (some ⟨g0,0,none⟩) t.s.length t.s.length,sQ (some ⟨h0,0,none⟩) t.c.length t.c.length,sQ (some ⟨g1,0,none⟩) g.s.length g.s.length,sQ (some ⟨h1,0,none⟩) g.c.length g.c.length,sQ (some ⟨g2,0,none⟩) x.s.length x.s.length,sQ (some ⟨h2,0,none⟩) x.c.length x.c.length],nQ iQ 0]) (by simp [results,Tryz.results44,go_sem,d0,d1,d2,d3,d4,d5]) rfl ?_;exact HJ.out.done Gm.out hm.out rfl gx.out ⟨by omega,by omega,by omega,by rw [hm.out];omega,by omega,by rw [gx.out];omega⟩ gK.out Hg.out.num Gg.out _ _ _ _ _ _
namespace Ly
theorem denseBack_none {w b x g:Ten} (h:(denseBack w b x g).2≠0):(denseBack w b x g).1=(none_,none_,none_):=by
 unfold denseBack at h ⊢
 split at h
 ·exact absurd rfl h
 ·rename_i h1
  rw [inZ h1]
end Ly
def GoDU (r:(Ten × Ten × Ten) × Int) (w:Zp1) (e:Ending) (w':Zp1):Prop:=
 ∃S0 c0 C0 d0 S1 c1 C1 d1 S2 c2 C2 d2,e=.returned (.tuple #[.agg #[sQ S0 r.1.1.s.length c0,sQ C0 r.1.1.c.length d0,sQ S1 r.1.2.1.s.length c1,sQ C1 r.1.2.1.c.length d1,sQ S2 r.1.2.2.s.length c2,sQ C2 r.1.2.2.c.length d2],nQ iQ r.2])/\
  (r.2=0->TenO w.heap.size w' (.agg #[sQ S0 r.1.1.s.length c0,sQ C0 r.1.1.c.length d0]) r.1.1/\TenO w.heap.size w' (.agg #[sQ S1 r.1.2.1.s.length c1,sQ C1 r.1.2.1.c.length d1]) r.1.2.1/\TenO w.heap.size w' (.agg #[sQ S2 r.1.2.2.s.length c2,sQ C2 r.1.2.2.c.length d2]) r.1.2.2)/\Below w.heap.size w w'
theorem GoD.u {r:(Ten × Ten × Ten) × Int} {w w':Zp1} {e:Ending} (h:GoD r w e w') (hn:r.2≠0->r.1=(Ly.none_,Ly.none_,Ly.none_)):GoDU r w e w':=by
 obtain ⟨⟨h1,rfl⟩|⟨h1,S0,c0,C0,d0,S1,c1,C1,d1,S2,c2,C2,d2,rfl,t0,t1,t2⟩,h2⟩:=h
 ·refine ⟨none,0,none,0,none,0,none,0,none,0,none,0,?_,λh=>absurd h h1,h2⟩
  rw [hn h1];rfl
 ·exact ⟨S0,c0,C0,d0,S1,c1,C1,d1,S2,c2,C2,d2,by rw [h1],λ_=>⟨t0,t1,t2⟩,h2⟩
theorem TnsO.two {B p:Nat} {w:Zp1} {S0 C0 S1 C1:Option Addr} {c0 d0 c1 d1:Nat} {t u:Ten} {T:TypeId} (hb:Blk w p T #[sQ S0 t.s.length c0,sQ C0 t.c.length d0,sQ S1 u.s.length c1,sQ C1 u.c.length d1]) (hB:B<=p)
  (ht:TenO B w (.agg #[sQ S0 t.s.length c0,sQ C0 t.c.length d0]) t) (hu:TenO B w (.agg #[sQ S1 u.s.length c1,sQ C1 u.c.length d1]) u):TnsO B w (some ⟨p,0,none⟩) [t,u]:=by
 refine ⟨λa e=>?_,λj hj=>?_⟩
 ·injection e with e;subst e;exact ⟨p,rfl,hB,hb.lt,λk=>hb.frozen k⟩
 ·match j,hj with
  | 0,_=>exact ⟨p,S0,c0,C0,d0,rfl,hb.cell 0,hb.cell 1,ht⟩
  | 1,_=>exact ⟨p,S1,c1,C1,d1,rfl,hb.cell 2,hb.cell 3,hu⟩
  | n+2,h=>simp at h;omega
theorem qcC {w:Zp1} {p:Nat} {T:TypeId} (h:Blk w p T #[sQ none 0 0,sQ none 0 0,sQ none 0 0,sQ none 0 0,sQ none 0 0,sQ none 0 0]):∀k z,w.cell? ⟨p,k,none⟩≠some (nQ iQ z):=noint h (λk z=>by
 match k with
 | 0=>simp
 | 1=>simp
 | 2=>simp
 | 3=>simp
 | 4=>simp
 | 5=>simp
 | n+6=>simp)
namespace Ly
theorem layBack8 {o:OpD} {p x:List Ten} {g:Ten} (h:o.kind=8):layBack o p x g=if (Ly.denseBack (Ly.got p 0) (Ly.got p 1) (Ly.got x 0) g).2=0 then (⟨[(Ly.denseBack (Ly.got p 0) (Ly.got p 1) (Ly.got x 0) g).1.1,(Ly.denseBack (Ly.got p 0) (Ly.got p 1) (Ly.got x 0) g).1.2.1],[(Ly.denseBack (Ly.got p 0) (Ly.got p 1) (Ly.got x 0) g).1.2.2]⟩,0) else (bnone,(Ly.denseBack (Ly.got p 0) (Ly.got p 1) (Ly.got x 0) g).2):=by
 unfold layBack;rw [ipZ h]
end Ly
def OpCut8 (w w2:Zp1) (R:(Ten × Ten × Ten) × Int) (a b:Value) (wx:Zp1):Prop:=
 ∃tb U0 e0 V0 f0 U1 e1 V1 f1 U2 e2 V2 f2,a=.pointer (some ⟨tb,0,none⟩)/\b=nQ iQ R.2/\w2.heap.size<=tb/\Blk wx tb 109 #[sQ U0 R.1.1.s.length e0,sQ V0 R.1.1.c.length f0,sQ U1 R.1.2.1.s.length e1,sQ V1 R.1.2.1.c.length f1,sQ U2 R.1.2.2.s.length e2,sQ V2 R.1.2.2.c.length f2]/\(R.2=0->TenO w.heap.size wx (.agg #[sQ U0 R.1.1.s.length e0,sQ V0 R.1.1.c.length f0]) R.1.1/\TenO w.heap.size wx (.agg #[sQ U1 R.1.2.1.s.length e1,sQ V1 R.1.2.1.c.length f1]) R.1.2.1/\TenO w.heap.size wx (.agg #[sQ U2 R.1.2.2.s.length e2,sQ V2 R.1.2.2.c.length f2]) R.1.2.2)/\Later w2 wx
theorem op_back8 (o:OpD) (S P X GS GC:Option Addr) (c cp cx gc gd:Nat) (p x:List Ten) (g:Ten) (w:Zp1) (hk:o.kind=8) (ho:o.s.length<=1048576) (hI:Ints iQ w S o.s) (hP:Tns w P p) (hX:Tns w X x) (hG:TenIn w GS GC gc gd g) (hc:Od.counts o p.length x.length=0):
  Calls Tryz.prog 23 #[.agg #[nQ iQ o.kind,nQ iQ o.k,nQ iQ o.width,nQ iQ o.step,nQ iQ o.side,nQ iQ o.frm,nQ iQ o.to,sQ S o.s.length c],sQ P p.length cp,sQ X x.length cx,.agg #[sQ GS g.s.length gc,sQ GC g.c.length gd]] w (GoB (Ly.layBack o p x g) w):=by
 obtain ⟨w1,e1,hr,hq,h4,h0⟩:=qaP w o S c GS GC gc gd g;have hl:=Ly.counts_ok hc;unfold Od.least Od.most Od.params at hl;have hV:p.length=2:=by have:=hl.1;have h3:=hl.2.2.2;rw [ipZ this] at h3;simp [hk] at h3;omega
 have h8:x.length=1:=by have:=hl.1;have h1:=hl.2.1;have h2:=hl.2.2.1;rw [ipZ this] at h1 h2;simp [hk] at h1 h2;omega
 have HE:=zI (Ly.layBack8 (p:=p) (x:=x) (g:=g) hk);obtain ⟨HC,hF,hO,Hk⟩:=zd4 hc hV h8 hk;clear hl hc hV h8 hk;obtain ⟨HI,HP,HX,HG,hD,hy,ht,h7,hU⟩:=zd9 hI hP hX hG h0 hr hq h4 e1;clear hI hP hX hG h0 hr hq h4 e1;go_enter Tryz.func23,Tryz.ntmps23;go_wp2_with fail;rw [hU.out];clear hU;refine (qaL o S c p.length x.length w1 oZ (HI.out.below hD.out (lrZ _))).mono ?_;rintro e w2 ⟨rfl,hu⟩;rw [HC.out];have hA:Later w1 w2:=hu;have hH:=hD.out.trans hA;have hz:=hA.blk h7.out;have hY:=hA.blk hy.out;have hW:=hA.blk ht.out;clear hu hA hD h7 hy ht;obtain ⟨HH,Hz,Hd,hZ⟩:=zd4 hH hz hY hW;clear hH hz hY hW;obtain ⟨bp,po,S0,c0,C0,d0,rfl,lbp,p00,p01,hQ⟩:=HP.out.at_ (j:=0) (by have:=hF.out;omega);obtain ⟨bp2,po2,S1,c1,C1,d1,ep,-,p10,p11,hN⟩:=HP.out.at_ (j:=1) (by have:=hF.out;omega);injection ep with ep;injection ep with ep1 ep2;subst ep1 ep2
 obtain ⟨bx,xo,S2,c2,C2,d2,rfl,lbx,x00,x01,h6⟩:=HX.out.at_ (j:=0) (by have:=hO.out;omega);have hi:=λ(W:Zp1) (h:Later w2 W)=>(qfC S0 C0 S1 C1 S2 C2 GS GC c0 d0 c1 d1 c2 d2 gc gd (Ly.got p 0) (Ly.got p 1) (Ly.got x 0) g W (hQ.later (HH.out.trans h)) (hN.later (HH.out.trans h)) (h6.later (HH.out.trans h)) (HG.out.later (HH.out.trans h))).mono (λe w' q=>q.u Ly.denseBack_none)
 have hE:=HE.out;obtain ⟨R,hR⟩:∃R,Ly.denseBack (Ly.got p 0) (Ly.got p 1) (Ly.got x 0) g=R:=⟨_,rfl⟩
 rw [hR] at hE;have hb:∀W,Later w2 W->Calls Tryz.prog 44 _ W (GoDU R W):=hR▸hi;have q1:w2.cell? ⟨bp,po,none⟩=some (sQ S0 (Ly.got p 0).s.length c0):=HH.out.cell (by simpa using p00);have q2:w2.cell? ⟨bp,po+1,none⟩=some (sQ C0 (Ly.got p 0).c.length d0):=HH.out.cell (by simpa using p01);have q3:w2.cell? ⟨bp,po+2,none⟩=some (sQ S1 (Ly.got p 1).s.length c1):=HH.out.cell (by simpa using p10);have q4:w2.cell? ⟨bp,po+2+1,none⟩=some (sQ C1 (Ly.got p 1).c.length d1):=HH.out.cell (by simpa using p11);have q5:w2.cell? ⟨bx,xo,none⟩=some (sQ S2 (Ly.got x 0).s.length c2):=HH.out.cell (by simpa using x00);have q6:w2.cell? ⟨bx,xo+1,none⟩=some (sQ C2 (Ly.got x 0).c.length d2):=HH.out.cell (by simpa using x01);have q7:w2.cell? ⟨w.heap.size+1,0,none⟩=some (sQ GS g.s.length gc):=by rw [hZ.out.cell];rfl
 have q8:w2.cell? ⟨w.heap.size+1,1,none⟩=some (sQ GC g.c.length gd):=by rw [hZ.out.cell];rfl
 have x0:w2.cell? ⟨w.heap.size,0,none⟩=some (nQ iQ 8):=by rw [Hd.out.cell,←Hk.out];rfl
 have Hi:=HH.out.size;have Hh:=Hz.out.lt;rw [hO.out,hF.out];clear hR hi p00 p01 hQ p10 p11 hN x00 x01 h6 HE;obtain ⟨ha,HE⟩:=zd2 hb hE;clear hb hE;go_upto_region 6 with fail;clear x0
 go_cut [11,12] (OpCut8 w w2 R)
 case first=>
  go_wp2_with fail;have KF:=zI (show ∀Xw,Later w2 Xw->Xw.cell? ⟨bp,po,none⟩=some (sQ S0 (Ly.got p 0).s.length c0)/\Xw.cell? ⟨bp,po+1,none⟩=some (sQ C0 (Ly.got p 0).c.length d0)/\Xw.cell? ⟨bp,po+2,none⟩=some (sQ S1 (Ly.got p 1).s.length c1)/\Xw.cell? ⟨bp,po+2+1,none⟩=some (sQ C1 (Ly.got p 1).c.length d1)/\Xw.cell? ⟨bx,xo,none⟩=some (sQ S2 (Ly.got x 0).s.length c2)/\Xw.cell? ⟨bx,xo+1,none⟩=some (sQ C2 (Ly.got x 0).c.length d2)/\Xw.cell? ⟨w.heap.size+1,0,none⟩=some (sQ GS g.s.length gc)/\Xw.cell? ⟨w.heap.size+1,1,none⟩=some (sQ GC g.c.length gd) from λXw h=>⟨h.cell q1,h.cell q2,h.cell q3,h.cell q4,h.cell q5,h.cell q6,h.cell q7,h.cell q8⟩);refine Zm1 ?_;refine Zl1 (S:=λXw=>Xw.cell? ⟨bp,po,none⟩=some (sQ S0 (Ly.got p 0).s.length c0)/\Xw.cell? ⟨bp,po+1,none⟩=some (sQ C0 (Ly.got p 0).c.length d0)/\Xw.cell? ⟨bp,po+2,none⟩=some (sQ S1 (Ly.got p 1).s.length c1)/\Xw.cell? ⟨bp,po+2+1,none⟩=some (sQ C1 (Ly.got p 1).c.length d1)/\Xw.cell? ⟨bx,xo,none⟩=some (sQ S2 (Ly.got x 0).s.length c2)/\Xw.cell? ⟨bx,xo+1,none⟩=some (sQ C2 (Ly.got x 0).c.length d2)/\Xw.cell? ⟨w.heap.size+1,0,none⟩=some (sQ GS g.s.length gc)/\Xw.cell? ⟨w.heap.size+1,1,none⟩=some (sQ GC g.c.length gd)) krZ (KF.out _ Lau) (λhHeld=>?_);refine tk 0 ?_;refine tk 1 ?_;refine tk 2 ?_;refine tk 3 ?_;refine tk 4 ?_;refine tk 5 ?_;refine tk 6 ?_;refine tk 7 ?_;refine tk 8 ?_;refine tk 9 ?_;refine Zo1 (rs:=[10,14]) krZ sZ ?_;refine Zf1 (o:=_) rfl (λK hK=>?_) (Zf1 (o:=_) rfl (λK hK=>?_) (Zg1))
  ·simp only [ga,gs,gz]
   go_simp
   go_at_call 44
   (with_reducible refine (ha.out _ (Lau:Later w2 _)).mono ?_)
   rintro e wf ⟨U0,e0,V0,f0,U1,e1,V1,f1,U2,e2,V2,f2,rfl,hf,h5⟩;have hh:=zI hf;clear hf
   try go_wp2_with fail
   refine hK.out _ _ (KF.out _ Lau) (λhHeld=>?_);clear hK K
   try simp only [ga,gs,gz,Act.put,sa,sz,ss]
   refine tk 11 ?_;refine tk 12 ?_;refine tk 13 ?_;refine rd 14 λK hK=>?_
   simp only [ga,gs,gz]
   go_simp
   refine hK.out _ _ (KF.out _ Lau) (λhHeld=>?_);clear hK K
   try simp only [ga,gs,gz,Act.put,sa,sz,ss]
   refine rd 15 λK hK=>?_
   simp only [ga,gs,gz]
   go_simp
   refine hK.out _ _ ?_ (λhHeld=>?_)
   ·(try dsimp only);(refine ⟨?_,?_,?_,?_,?_,?_,?_,?_⟩<;>(repeat (refine qa0 ?_ (by first|omega|(simp;done)|(simp;omega))))<;>(refine Later.cell (Lau:Later w2 _) ?_)<;>assumption)
   clear hK K
   try simp only [ga,gs,gz,Act.put,sa,sz,ss]
   refine tk 16 ?_;clear KF;refine Zn1 krZ ?_ _;refine Zd1 ?_;go_wp2_with fail;have hB:Later w2 wf:=(Lau:Later w2 wf)
   have Hb:=hB.size
   go_meet
   exact ⟨wf.heap.size,U0,e0,V0,f0,U1,e1,V1,f1,U2,e2,V2,f2,rfl,rfl,Hb,Blk.new wf _ _,λh=>⟨((hh.out h).1.base (by first|omega|(simp;omega))).later ((Later.refl wf).alloc _),((hh.out h).2.1.base (by first|omega|(simp;omega))).later ((Later.refl wf).alloc _),((hh.out h).2.2.base (by first|omega|(simp;omega))).later ((Later.refl wf).alloc _)⟩,hB.alloc _⟩
  ·simp only [ga,gs,gz]
   go_simp
   refine hK.out _ _ (KF.out _ Lau) (λhHeld=>?_);clear hK K
   try simp only [ga,gs,gz,Act.put,sa,sz,ss]
   refine rd 10 λK hK=>?_
   simp only [ga,gs,gz]
   go_simp
   go_at_call 44
   (with_reducible refine (ha.out _ (Lau:Later w2 _)).mono ?_)
   rintro e wf ⟨U0,e0,V0,f0,U1,e1,V1,f1,U2,e2,V2,f2,rfl,hf,h5⟩;have hh:=zI hf;clear hf;have hJ:=(show Later _ wf from h5).blk ((Blk.new w2 109 #[sQ none 0 0,sQ none 0 0,sQ none 0 0,sQ none 0 0,sQ none 0 0,sQ none 0 0]).drew);obtain ⟨z0,z1,z2,z3,z4,z5,y0,y1,y2,y3,y4,y5⟩:=qar hJ;have hj:=zI hJ;clear hJ
   try go_wp2_with fail
   refine hK.out _ _ (KF.out _ Lau) (λhHeld=>?_);clear hK K
   try simp only [ga,gs,gz,Act.put,sa,sz,ss]
   refine tk 11 ?_;refine tk 12 ?_;refine tk 13 ?_;refine rd 15 λK hK=>?_
   simp only [ga,gs,gz]
   go_simp
   refine hK.out _ _ ?_ (λhHeld=>?_)
   ·(try dsimp only);(refine ⟨?_,?_,?_,?_,?_,?_,?_,?_⟩<;>(repeat (refine qa0 ?_ (by first|omega|(simp;done)|(simp;omega))))<;>(refine Later.cell (Lau:Later w2 _) ?_)<;>assumption)
   clear hK K
   try simp only [ga,gs,gz,Act.put,sa,sz,ss]
   refine tk 16 ?_;clear KF;refine Zn1 krZ ?_ _;refine Zd1 ?_;go_wp2_with fail;have hB:Later w2 wf:=(Lau:Later w2 wf)
   go_meet
   exact ⟨w2.heap.size,U0,e0,V0,f0,U1,e1,V1,f1,U2,e2,V2,f2,rfl,rfl,lrZ _,qbE hj.out,λh=>⟨((hh.out h).1.base (by first|omega|(simp;omega))).else_ (qbq _ _ _ _ _ _ _ _) (qcC hj.out) (λj=>(qbE hj.out).frozen j),((hh.out h).2.1.base (by first|omega|(simp;omega))).else_ (qbq _ _ _ _ _ _ _ _) (qcC hj.out) (λj=>(qbE hj.out).frozen j),((hh.out h).2.2.base (by first|omega|(simp;omega))).else_ (qbq _ _ _ _ _ _ _ _) (qcC hj.out) (λj=>(qbE hj.out).frozen j)⟩,qbQ hB (lrZ _) _ _ _ _ _ _⟩
 case rest=>
  obtain ⟨tb,U0,e0,V0,f0,U1,e1,V1,f1,U2,e2,V2,f2,rfl,rfl,Hl,hp,hf,hn⟩:=hcut;have hs:=HH.out.trans hn;have hd:=hn.blk Hz.out;clear q1 q2 q3 q4 q5 q6 q7 q8 ha
  by_cases hg:R.2=0
  case neg=>
   have hm:=HE.out;rw [inZ hg] at hm;have Ha:=zI hg;have d9:(R.2 != 0)=true:=by simpa using hg
   clear hg;generalize R.2=ge at *;have c0':=hd.cell 0;have c1':=hd.cell 1;have f0':=hd.frozen 0;have f1':=hd.frozen 1;simp at c0' c1';obtain ⟨hT,Hf,hL,h9,hh,Hc⟩:=zd6 hs hd hm hp hf hn;clear hs hd hm hp hf hn;go_wp2_with fail;refine Zk1 (v:=.tuple #[.agg #[sQ none 0 0,sQ none 0 0],nQ iQ ge]) (by simp [results,Tryz.results23,go_sem,c0',c1']) rfl ?_;exact GoB.fail hL.out Ha.out ((hT.out.set (p:=⟨w.heap.size+2,0,none⟩) sZ _).set (p:=⟨w.heap.size+2,1,none⟩) sZ _)
  have hm:=HE.out;rw [ipZ hg] at hm;obtain ⟨t0,t1,t2⟩:=hf hg;have d9:(R.2 != 0)=false:=by simpa using hg
  have d8:(R.2==0)=true:=by simpa using hg
  clear hg hf;generalize R.2=re at *;obtain ⟨g0,g1,g2,g3,g4,g5,-⟩:=qar hp;obtain ⟨m0,m1,m2,m3,m4,m5,-⟩:=qar (hp.alloc (.cells #[sQ U0 R.1.1.s.length e0,sQ V0 R.1.1.c.length f0,sQ U1 R.1.2.1.s.length e1,sQ V1 R.1.2.1.c.length f1] 30));have he:=(hd.alloc (.cells #[sQ U0 R.1.1.s.length e0,sQ V0 R.1.1.c.length f0,sQ U1 R.1.2.1.s.length e1,sQ V1 R.1.2.1.c.length f1] 30)).alloc (.cells #[sQ U2 R.1.2.2.s.length e2,sQ V2 R.1.2.2.c.length f2] 30);have c0':=he.cell 0;have c1':=he.cell 1;have f0':=he.frozen 0;have f1':=he.frozen 1;have hC:=(he.set_ 0 (sQ (some ⟨wc.heap.size,0,none⟩) 2 2)).set_ 1 (sQ (some ⟨wc.heap.size+1,0,none⟩) 1 1);have e0':=hC.cell 0;have e1':=hC.cell 1;simp at c0' c1' e0' e1';have Hn:=hd.lt;have x1:wc.heap.size≠w.heap.size+2:=by omega
  have x2:wc.heap.size+1≠w.heap.size+2:=by omega
  have hS:=(((Blk.new wc 30 #[sQ U0 R.1.1.s.length e0,sQ V0 R.1.1.c.length f0,sQ U1 R.1.2.1.s.length e1,sQ V1 R.1.2.1.c.length f1]).alloc (.cells #[sQ U2 R.1.2.2.s.length e2,sQ V2 R.1.2.2.c.length f2] 30)).far (p:=⟨w.heap.size+2,0,none⟩) x1 (sQ (some ⟨wc.heap.size,0,none⟩) 2 2)).far (p:=⟨w.heap.size+2,1,none⟩) x1 (sQ (some ⟨wc.heap.size+1,0,none⟩) 1 1)
  have hx:Blk ((wc.alloc (.cells #[sQ U0 R.1.1.s.length e0,sQ V0 R.1.1.c.length f0,sQ U1 R.1.2.1.s.length e1,sQ V1 R.1.2.1.c.length f1] 30)).alloc (.cells #[sQ U2 R.1.2.2.s.length e2,sQ V2 R.1.2.2.c.length f2] 30)) (wc.heap.size+1) 30 #[sQ U2 R.1.2.2.s.length e2,sQ V2 R.1.2.2.c.length f2]:=by
   have:=Blk.new (wc.alloc (.cells #[sQ U0 R.1.1.s.length e0,sQ V0 R.1.1.c.length f0,sQ U1 R.1.2.1.s.length e1,sQ V1 R.1.2.1.c.length f1] 30)) 30 #[sQ U2 R.1.2.2.s.length e2,sQ V2 R.1.2.2.c.length f2]
   rwa [Zh1] at this
  have hu:=(hx.far (p:=⟨w.heap.size+2,0,none⟩) x2 (sQ (some ⟨wc.heap.size,0,none⟩) 2 2)).far (p:=⟨w.heap.size+2,1,none⟩) x2 (sQ (some ⟨wc.heap.size+1,0,none⟩) 1 1);have hw:Later wc ((wc.alloc (.cells #[sQ U0 R.1.1.s.length e0,sQ V0 R.1.1.c.length f0,sQ U1 R.1.2.1.s.length e1,sQ V1 R.1.2.1.c.length f1] 30)).alloc (.cells #[sQ U2 R.1.2.2.s.length e2,sQ V2 R.1.2.2.c.length f2] 30)):=((Later.refl _).alloc _).alloc _;have T0:=zI ((t0.later hw).box (u:=sQ (some ⟨wc.heap.size,0,none⟩) 2 2) (u2:=sQ (some ⟨wc.heap.size+1,0,none⟩) 1 1) he);have T1:=zI ((t1.later hw).box (u:=sQ (some ⟨wc.heap.size,0,none⟩) 2 2) (u2:=sQ (some ⟨wc.heap.size+1,0,none⟩) 1 1) he);have T2:=zI ((t2.later hw).box (u:=sQ (some ⟨wc.heap.size,0,none⟩) 2 2) (u2:=sQ (some ⟨wc.heap.size+1,0,none⟩) 1 1) he);have hv:=((hs.trans hw).set (p:=⟨w.heap.size+2,0,none⟩) sZ (sQ (some ⟨wc.heap.size,0,none⟩) 2 2)).set (p:=⟨w.heap.size+2,1,none⟩) sZ (sQ (some ⟨wc.heap.size+1,0,none⟩) 1 1);clear t0 t1 t2 hw hx x1 x2;obtain ⟨hT,Hf,hL,h9,Hc,Hm,He,Hg,hM⟩:=zd9 hs hd hm hp hn hC hS hu hv;have Hj:=zI he;clear hs hd hm hp hn hC hS hu hv he;go_wp2_with fail;refine Zk1 (v:=.tuple #[.agg #[sQ (some ⟨wc.heap.size,0,none⟩) 2 2,sQ (some ⟨wc.heap.size+1,0,none⟩) 1 1],nQ iQ 0]) (by simp [results,Tryz.results23,go_sem,e0',e1']) rfl ?_;rw [hL.out];exact ⟨.inr ⟨rfl,_,_,rfl,TnsO.two He.out oZ T0.out T1.out,TnsO.one Hg.out oZ T2.out⟩,hM.out⟩
theorem op_back (o:OpD) (hkn:o.kind≠10/\o.kind≠13/\o.kind≠14) (S P X GS GC:Option Addr) (c cp cx gc gd:Nat) (p x:List Ten) (g:Ten) (w:Zp1) (ho:o.s.length<=1048576) (hI:Ints iQ w S o.s) (hk0:Fx.In o.k) (hP:Tns w P p) (hX:Tns w X x) (lX:x.length<=1048576) (kX:x.length<=cx) (mX:cx<=9223372036854775807) (hG:TenIn w GS GC gc gd g) (hc:Od.counts o p.length x.length=0):
  Calls Tryz.prog 23 #[.agg #[nQ iQ o.kind,nQ iQ o.k,nQ iQ o.width,nQ iQ o.step,nQ iQ o.side,nQ iQ o.frm,nQ iQ o.to,sQ S o.s.length c],sQ P p.length cp,sQ X x.length cx,.agg #[sQ GS g.s.length gc,sQ GC g.c.length gd]] w (GoB (Ly.back o p x g) w):=by
 have hb:=Od.right_kind (Ly.counts_ok hc).1;have ha:o.kind<=7∨o.kind=8∨o.kind=9∨o.kind=10∨o.kind=11∨o.kind=12∨o.kind=13∨o.kind=14∨o.kind=15:=by omega
 rcases ha with hk|hk|hk|hk|hk|hk|hk|hk|hk
 ·exact op_back7 o S P X GS GC c cp cx gc gd p x g w hk ho hI hk0 hX lX hG
 ·rw [Ly.back_lay hc];exact op_back8 o S P X GS GC c cp cx gc gd p x g w hk ho hI hP hX hG hc
 ·rw [Ly.back_lay hc];exact op_back9 o S P X GS GC c cp cx gc gd p x g w hk ho hI hP hX hG hc
 ·exact absurd hk hkn.1
 ·rw [Ly.back_lay hc];exact qgF o S P X GS GC c cp cx gc gd p x g w hk ho hI hP hX hG hc
 ·rw [Ly.back_lay hc];exact qgG o S P X GS GC c cp cx gc gd p x g w hk ho hI hP hX hG hc
 ·exact absurd hk hkn.2.1
 ·exact absurd hk hkn.2.2
 ·rw [Ly.back_lay hc];exact qgE o S P X GS GC c cp cx gc gd p x g w hk ho hI hP hX hG hc
namespace Ly
end Ly
namespace Ly
theorem qd8 (l:List Int) (a:Nat) (v:Int):∀j,(addRow l a v j).length=l.length
 | 0=>rfl
 | j+1=>by unfold addRow;rw [qaU,qd8 l a v j]
theorem qcD (top:Bool) (x g:List Int) (sd n:Nat) (width:Int) (step:Nat):∀i,(poolX top x g sd n width step i).length=x.length
 | 0=>zeros_len _
 | i+1=>by
  unfold poolX poolStep
  split
  ·rw [qaU,qcD top x g sd n width step i]
  ·rw [qd8,qcD top x g sd n width step i]
theorem right_like {t:Ten} {c:List Int} (h:Tn.right t=true) (hl:c.length=t.c.length):Tn.right ⟨t.s,c⟩=true:=by
 obtain ⟨h1,h2⟩:=right_s h;exact right_of h1 (by rw [hl];exact h2)
def Like (a b:List Ten):Prop:=a.map Ten.s=b.map Ten.s/\∀t∈a,Tn.right t=true
theorem Like.nil:Like [] []:=⟨rfl,λ_ h=>absurd h sZ⟩
theorem Like.one {a b:Ten} (h:a.s=b.s) (hr:Tn.right a=true):Like [a] [b]:=⟨by simp [h],λt ht=>by simp at ht;rw [ht];exact hr⟩
theorem Like.two {a b c d:Ten} (h:a.s=b.s) (hr:Tn.right a=true) (h2:c.s=d.s) (hr2:Tn.right c=true):Like [a,c] [b,d]:=⟨by simp [h,h2],λt ht=>by simp at ht;rcases ht with rfl|rfl<;>assumption⟩
theorem Like.len {a b:List Ten} (h:Like a b):a.length=b.length:=by have:=congrArg List.length h.1;simpa using this
theorem Like.each {a b:List Ten} (hl:a.length=b.length) (h:∀j,j<b.length->(got a j).s=(got b j).s/\Tn.right (got a j)=true):Like a b:=by
 refine ⟨List.ext_getElem (by simp [hl]) λi h1 h2=>?_,λt ht=>?_⟩
 ·have hb:i<b.length:=by simpa using h2
  have ha:i<a.length:=by simpa using h1
  have:=(h i hb).1;rw [qaj ha,qaj hb] at this;rw [List.getElem_map,List.getElem_map,this]
 ·obtain ⟨i,hi,rfl⟩:=List.getElem_of_mem ht
  have:=(h i oZ).2
  rwa [qaj hi] at this
theorem qd9 {kind:Int} {x:List Ten} (h:ptAgree kind x=0):(x.length:Int)=Od.ptIns kind/\∀t∈x,Tn.right t=true/\t.s=(got x 0).s:=by
 unfold ptAgree at h
 split at h
 ·simp at h
 ·split at h
  ·simp at h
  ·rename_i h2
   split at h
   ·rename_i h3
    simp only [Zf,Zz,decide_eq_true_eq] at h3;exact ⟨by omega,h3⟩
   ·simp at h
theorem qbt {top:Bool} {x g:Ten} {width step:Int} (hx:Tn.right x=true) (h:(pool top x width step).2=0) (hg:Tn.right g=true) (hs:g.s=(pool top x width step).1.s):
  (poolBack top x g width step).2=0/\(poolBack top x g width step).1.s=x.s/\Tn.right (poolBack top x g width step).1=true:=by
 by_cases hc:poolErr x width step=0
 case neg=>rw [pool_err hc] at h;exact absurd h hc
 rw [pool_ok hc] at hs;have hs:g.s=poolS x width step:=hs;unfold poolBack;rw [ipZ hc,ipZ (by rw [hg,hs];simp)];exact ⟨rfl,rfl,right_like hx (qcD _ _ _ _ _ _ _ _)⟩
theorem qbF {r:Ten × Int} {x:Ten} (h:r.2=0/\r.1.s=x.s/\Tn.right r.1=true):(bsingle r).2=0/\Like (bsingle r).1.p []/\Like (bsingle r).1.x [x]:=by
 unfold bsingle;rw [ipZ h.1];exact ⟨rfl,Like.nil,Like.one h.2.1 h.2.2⟩
theorem qgH {o:OpD} {p x:List Ten} {g:Ten} (hkn:o.kind≠10/\o.kind≠13/\o.kind≠14) (hc:Od.counts o p.length x.length=0) (hp:∀t∈p,Tn.right t=true) (hx:∀t∈x,Tn.right t=true) (hy:(lay o p x).2=0) (hg:Tn.right g=true) (hs:g.s=(lay o p x).1.s):
  (layBack o p x g).2=0/\Like (layBack o p x g).1.p p/\Like (layBack o p x g).1.x x:=by
 obtain ⟨hr,h1,h2,h3⟩:=counts_ok hc;have hk:=Od.right_kind hr;have hl:=Od.least_pos hr;unfold Od.least Od.most at *;unfold Od.params at h3;rw [ipZ hr] at h1 h2 h3;have hf:o.kind<=7∨o.kind=8∨o.kind=9∨o.kind=10∨o.kind=11∨o.kind=12∨o.kind=13∨o.kind=14∨o.kind=15:=by omega
 rcases hf with hb|hb|hb|hb|hb|hb|hb|hb|hb
 ·have e:lay o p x=point o.kind o.k x:=by unfold lay;rw [inZ oZ,inZ oZ,inZ oZ,inZ oZ,inZ oZ,inZ oZ,inZ oZ,inZ oZ]
  obtain rfl:=qaq (l:=p) (by rw [inZ oZ,inZ oZ] at h3;omega);rw [e] at hy hs;rw [layBack7 hb]
  by_cases ha:ptAgree o.kind x=0
  case neg=>unfold point at hy;rw [inZ ha] at hy;exact absurd hy ha
  have hs:g.s=(got x 0).s:=by rw [hs];unfold point;rw [ipZ ha]
  obtain ⟨hn,he⟩:=qd9 ha
  have hh:(pointBack o.kind o.k g x).2=0/\Like (pointBack o.kind o.k g x).1 x:=by
   unfold pointBack;rw [ipZ ha,ipZ (by rw [hg,hs];simp)];refine ⟨rfl,?_⟩
   have ho:1<=x.length:=by
    rw [ipZ hr,ipZ hb] at hl;omega
   have hi:x.length<=2:=by
    have:Od.ptIns o.kind<=2:=by unfold Od.ptIns;repeat' split<;>omega
    omega
   match x,ho,hi,he with
   | [t],_,_,he=>
    have ht:=he t sZ;exact Like.one rfl (right_like ht.1 (tab_len _ _))
   | [t,u],_,_,he=>
    have ht:=he t sZ;have hu:=he u sZ;refine Like.two rfl (right_like ht.1 (tab_len _ _)) rfl (right_like hu.1 ?_);rw [tab_len];have e1:=(right_s ht.1).2;have e2:=(right_s hu.1).2;have e3:u.s=t.s:=hu.2;rw [e3] at e2
    show t.c.length=u.c.length
    omega
   | _::_::_::_,_,hi,_=>simp at hi
  unfold bseveral;rw [ipZ hh.1];exact ⟨rfl,Like.nil,hh.2⟩
 ·obtain ⟨a,b,rfl⟩:=qe3 (l:=p) (by simp [hb] at h3;omega)
  obtain ⟨t,rfl⟩:=qai (l:=x) (by simp [hb] at h1 h2;omega);have e:lay o [a,b] [t]=dense a b t:=by unfold lay;rw [ipZ hb];rfl
  rw [e] at hy hs;rw [layBack8 hb]
  show (if (denseBack a b t g).2=0 then _ else _:Bk × Int).2=0/\_
  by_cases hd:denseOk a b t=true
  case neg=>unfold dense at hy;rw [inZ hd] at hy;simp at hy
  have hs:g.s=b.s:=by rw [hs];unfold dense;rw [ipZ hd]
  have ebk:=dback_ok (w:=a) (b:=b) (x:=t) (g:=g) (by rw [hd,hg,hs];simp);have e0:denseBack (got [a,b] 0) (got [a,b] 1) (got [t] 0) g=denseBack a b t g:=rfl;rw [e0,ebk];simp only [if_true];simp only [denseOk,Zz,decide_eq_true_eq] at hd;obtain ⟨⟨⟨⟨⟨ra,la⟩,rb⟩,rt⟩,sb⟩,st⟩:=hd;refine ⟨trivial,Like.two rfl (right_like ra ?_) hs hg,Like.one rfl (right_like rt (denseX_len _ _ _ _))⟩;rw [denseW_len];have q1:=(right_s ra).2;have q2:=(right_s hg).2;rw [hs,sb] at q2
  match hw:a.s,la with
  | [u,v],_=>
   rw [hw] at q1 q2 st;simp only [at_,List.getD_cons_zero,List.getD_cons_succ] at q2 st;have e3:Safe.prod [u,v]=u*v:=by simp [Safe.prod]
   have e4:Safe.prod [u]=u:=by simp [Safe.prod]
   rw [e3] at q1;rw [e4] at q2;have:((g.c.length*t.c.length:Nat):Int)=a.c.length:=by rw [Int.natCast_mul,q2,st,q1]
   exact Int.ofNat.inj this
 ·obtain ⟨b,rfl⟩:=qai (l:=p) (by simp [hb] at h3;omega)
  obtain ⟨t,rfl⟩:=qai (l:=x) (by simp [hb] at h1 h2;omega);have e:lay o [b] [t]=add t b:=by unfold lay;rw [inZ oZ,ipZ hb];rfl
  rw [e] at hy hs;rw [layBack9 hb]
  show (bbias b t g).2=0/\Like (bbias b t g).1.p _/\Like (bbias b t g).1.x _
  unfold bbias;rw [ipZ hy,ipZ (by rw [hg,hs];simp)]
  by_cases ha:alike t b=true
  case neg=>unfold add at hy;rw [inZ ha] at hy;simp at hy
  have hs:g.s=t.s:=by rw [hs];unfold add;rw [ipZ ha]
  simp only [alike,Zz,decide_eq_true_eq] at ha;exact ⟨rfl,Like.one (by rw [hs,ha.2]) hg,Like.one hs hg⟩
 ·exact absurd hb hkn.1
 ·obtain rfl:=qaq (l:=p) (by rw [inZ oZ,inZ oZ] at h3;omega)
  obtain ⟨t,rfl⟩:=qai (l:=x) (by simp [hb] at h1 h2;omega);have e:lay o [] [t]=pool true t o.width o.step:=by unfold lay;rw [inZ oZ,inZ oZ,inZ oZ,ipZ hb];rfl
  rw [e] at hy hs;rw [layBack11 hb];exact qbF (qbt (hx t sZ) hy hg hs)
 ·obtain rfl:=qaq (l:=p) (by rw [inZ oZ,inZ oZ] at h3;omega)
  obtain ⟨t,rfl⟩:=qai (l:=x) (by simp [hb] at h1 h2;omega);have e:lay o [] [t]=pool false t o.width o.step:=by unfold lay;rw [inZ oZ,inZ oZ,inZ oZ,inZ oZ,ipZ hb];rfl
  rw [e] at hy hs;rw [layBack12 hb];exact qbF (qbt (hx t sZ) hy hg hs)
 ·exact absurd hb hkn.2.1
 ·exact absurd hb hkn.2.2
 ·obtain rfl:=qaq (l:=p) (by rw [inZ oZ,inZ oZ] at h3;omega)
  obtain ⟨t,rfl⟩:=qai (l:=x) (by simp [hb] at h1 h2;omega);have e:lay o [] [t]=turn t o.s:=by unfold lay;rw [inZ oZ,inZ oZ,inZ oZ,inZ oZ,inZ oZ,inZ oZ,inZ oZ,ipZ hb];rfl
  rw [e] at hy hs;rw [layBack15 hb]
  show (bturn t g o.s).2=0/\Like (bturn t g o.s).1.p _/\Like (bturn t g o.s).1.x _
  have rt:=hx t sZ
  have hm:Tn.right ⟨o.s,t.c⟩=true:=by
   unfold turn of_ at hy;rw [ipZ rt] at hy
   split at hy
   ·assumption
   ·simp at hy
  have hs:g.s=o.s:=by rw [hs];unfold turn of_;rw [ipZ rt,ipZ hm]
  have hj:Tn.right ⟨t.s,g.c⟩=true:=by
   refine right_like rt ?_;have q1:=(right_s hg).2;have q2:=(right_s hm).2;rw [hs] at q1;have q2:(t.c.length:Int)=Safe.prod o.s:=q2;omega
  unfold bturn;rw [ipZ hy,ipZ (by rw [hg,hs];simp)];refine qbF ?_;unfold turnBack of_;rw [ipZ (by rw [rt,hg];rfl),ipZ hj];exact ⟨rfl,rfl,hj⟩
theorem back_like {o:OpD} {p x:List Ten} {g y:Ten} (hkn:o.kind≠10/\o.kind≠13/\o.kind≠14) (hp:∀t∈p,Tn.right t=true) (hx:∀t∈x,Tn.right t=true) (hy:go o p x=(y,0)) (hg:Tn.right g=true) (hs:g.s=y.s):
  (back o p x g).2=0/\Like (back o p x g).1.p p/\Like (back o p x g).1.x x:=by
 by_cases hc:Od.counts o p.length x.length=0
 case neg=>rw [go_err hc] at hy;exact absurd (congrArg Prod.snd hy) hc
 rw [go_lay hc] at hy;rw [back_lay hc];exact qgH hkn hc hp hx (by rw [hy]) hg (by rw [hy];exact hs)
end Ly
theorem Ly.go_counts {o:OpD} {p x:List Ten} {y:Ten} (h:Ly.go o p x=(y,0)):Od.counts o p.length x.length=0:=by
 by_cases hc:Od.counts o p.length x.length=0
 ·exact hc
 ·rw [Ly.go_err hc] at h;exact absurd (congrArg Prod.snd h) hc
namespace Pn
def addN (gr:List Ten) (ins:List Int) (bx:List Ten):Nat->List Ten
 | 0=>gr
 | k+1=>(addN gr ins bx k).set (ins.getD k 0).toNat (add (Ly.got (addN gr ins bx k) (ins.getD k 0).toNat) (Ly.got bx k))
def bk (n:NetD) (ps vals gr:List Ten) (id:Int):Ly.Bk × Int:=Ly.back (Nt.node n.nodes id).op (parts n ps id) (pickT vals (Nt.node n.nodes id).ins) (Ly.got gr id.toNat)
def fr (n:NetD) (id:Int):Nat:=from_ n.nodes (id.toNat-1)
def bwd (n:NetD) (ps vals:List Ten):List Ten->List Ten->List Int->List Ten × List Ten
 | gr,pg,[]=>(gr,pg)
 | gr,pg,id::r=>bwd n ps vals (addN gr (Nt.node n.nodes id).ins (bk n ps vals gr id).1.x (Nt.node n.nodes id).ins.length) (splice pg (fr n id) (bk n ps vals gr id).1.p) r
def ones (s:List Int):Ten:=⟨s,Zc (Safe.prod s).toNat 4294967296⟩
structure Res where
 loss:Int
 grads:List Ten
 x:Ten
def startG (n:NetD) (vals:List Ten):List Ten:=(Zc (n.nodes.length+1) Ly.none_).set (Nt.loss n.nodes).toNat (ones (Ly.got vals (Nt.loss n.nodes).toNat).s)
def back (n:NetD) (ps:List Ten) (vals:List Ten):List Ten × List Ten:=bwd n ps vals (startG n vals) (Zc ps.length Ly.none_) (Nt.sorted n.nodes).reverse
def run (n:NetD) (ps:List Ten) (x:Ten):Res:=
 let vals:=(forward n ps x).1
 ⟨Ly.at_ (Ly.got vals (Nt.loss n.nodes).toNat).c 0,(back n ps vals).2,Ly.got (back n ps vals).1 0⟩
theorem addN_len (gr:List Ten) (ins:List Int) (bx:List Ten):∀k,(addN gr ins bx k).length=gr.length
 | 0=>rfl
 | k+1=>by unfold addN;rw [List.length_set,addN_len gr ins bx k]
def Good (vals:List Ten) (t:Ten) (i:Nat):Prop:=Tn.right t=true/\t.s=(Ly.got vals i).s
def Part (vals:List Ten) (t:Ten) (i:Nat):Prop:=t=Ly.none_∨Good vals t i
theorem right_pos {t:Ten} (h:Tn.right t=true):t.c.length≠0:=by
 obtain ⟨h1,h2⟩:=Ly.right_s h;have:=(Sh.right_mul h1).2.2.2.2.1;omega
theorem add_good {vals:List Ten} {g m:Ten} {i:Nat} (hg:Part vals g i) (hm:Good vals m i):Good vals (add g m) i:=by
 unfold add
 split
 ·exact hm
 ·rename_i h0
  rcases hg with hg|hg
  ·rw [hg] at h0;exact absurd rfl h0
  ·have ha:Ly.alike g m=true:=by simp [Ly.alike,hg.1,hm.1,hg.2,hm.2]
   rw [Ly.add_ok ha];exact ⟨Ly.right_like hg.1 (Ly.tab_len _ _),hg.2⟩
theorem got_out {l:List Ten} {i:Nat} (h:l.length<=i):Ly.got l i=Ly.none_:=by
 unfold Ly.got;rw [gdZ,Zi h];rfl
theorem qea {vals gr:List Ten} {ins:List Int} {bx:List Ten} (hr:∀i∈ins,0<=i/\i.toNat<gr.length) (hb:∀j,j<ins.length->Good vals (Ly.got bx j) (ins.getD j 0).toNat) (hg:∀i,Part vals (Ly.got gr i) i):
  ∀k,k<=ins.length->(∀i,Part vals (Ly.got (addN gr ins bx k) i) i)/\(∀i,Good vals (Ly.got gr i) i->Good vals (Ly.got (addN gr ins bx k) i) i)/\∀j,j<k->Good vals (Ly.got (addN gr ins bx k) (ins.getD j 0).toNat) (ins.getD j 0).toNat
 | 0,_=>⟨hg,λ_ h=>h,λ_ h=>absurd h oZ⟩
 | k+1,hk=>by
  obtain ⟨h1,h2,h3⟩:=qea hr hb hg k oZ;have hm:ins.getD k 0∈ins:=by rw [gdZ,geZ oZ];exact gmZ _
  have hl:(ins.getD k 0).toNat<(addN gr ins bx k).length:=by rw [addN_len];exact (hr _ hm).2
  have key:Good vals (Ly.got (addN gr ins bx (k+1)) (ins.getD k 0).toNat) (ins.getD k 0).toNat:=by
   unfold addN;rw [qaZ hl];exact add_good (h1 _) (hb k oZ)
  have other:∀i,i≠(ins.getD k 0).toNat->Ly.got (addN gr ins bx (k+1)) i=Ly.got (addN gr ins bx k) i:=λi hi=>by
   rw [addN];exact qaH (Ne.symm hi)
  refine ⟨λi=>?_,λi hi=>?_,λj hj=>?_⟩
  ·by_cases e:i=(ins.getD k 0).toNat
   ·subst e;exact .inr key
   ·rw [other i e];exact h1 i
  ·by_cases e:i=(ins.getD k 0).toNat
   ·subst e;exact key
   ·rw [other i e];exact h2 i hi
  ·by_cases e:(ins.getD j 0).toNat=(ins.getD k 0).toNat
   ·rw [e];exact key
   ·rw [other _ e]
    have:j<k:=by
     rcases Nat.lt_or_ge j k with h|h
     ·exact h
     ·exact absurd (by rw [show j=k by omega]) e
    exact h3 j this
structure Back (n:NetD) (ps vals:List Ten) (b:List Int) (gr pg:List Ten):Prop where
 len:gr.length=n.nodes.length+1
 part:∀i,Part vals (Ly.got gr i) i
 used:∀i:Int,0<=i->(i=Nt.loss n.nodes∨∃v∈b,i∈Nt.insF n.nodes v)->Good vals (Ly.got gr i.toNat) i.toNat
 plen:pg.length=ps.length
 pgood:∀v∈b,∀j,j<(Nt.node n.nodes v).p.length->(Ly.got pg (fr n v+j)).s=(Ly.got ps (fr n v+j)).s/\Tn.right (Ly.got pg (fr n v+j))=true
structure Ready (n:NetD) (ps vals:List Ten):Prop where
 chk:Nt.check n=0
 pm:ps.map Ten.s=Nt.params n
 pr:∀t∈ps,Tn.right t=true
 len:vals.length=n.nodes.length+1
 all:∀i,i<vals.length->Tn.right (Ly.got vals i)=true
 step:∀id:Int,1<=id->id<=n.nodes.length->step n ps vals id=(Ly.got vals id.toNat,0)
 kn:∀id:Int,1<=id->id<=n.nodes.length->(Nt.node n.nodes id).op.kind≠10/\(Nt.node n.nodes id).op.kind≠13/\(Nt.node n.nodes id).op.kind≠14
theorem qeb {n:NetD} (h:Nt.check n=0) {z:Int} (h1:0<=z) (h2:z<=n.nodes.length) (h3:z≠Nt.loss n.nodes):∃v∈Nt.sorted n.nodes,z∈Nt.insF n.nodes v:=by
 obtain ⟨_,_,_,_,hl,_,hb,_⟩:=Nt.check_ok h;obtain ⟨e,_,_⟩:=Nt.loss_mem hb
 have ha:Nt.isUsed n.nodes z=true:=by
  rcases Bool.eq_false_or_eq_true (Nt.isUsed n.nodes z) with q|q
  ·exact q
  ·have hm:z∈Nt.unused n.nodes:=by
    unfold Nt.unused;rw [List.mem_filter];refine ⟨?_,by rw [q];rfl⟩;unfold Nt.nums;rw [List.mem_map];exact ⟨z.toNat,List.mem_range.2 oZ,by omega⟩
   rw [e] at hm;simp at hm;exact absurd hm h3
 unfold Nt.isUsed at ha;obtain ⟨v,hv,hz⟩:=List.any_eq_true.1 ha;obtain ⟨k,hk,rfl⟩:=List.getElem_of_mem hv;refine ⟨(k:Int)+1,(Kn.order_full hl _).2 ⟨by omega,by omega⟩,?_⟩;unfold Nt.insF;rw [Nt.node_at hk];simpa using hz
theorem part_at {n:NetD} {ps:List Ten} (hm:ps.map Ten.s=Nt.params n) {id:Int} (h1:1<=id) (h2:id<=n.nodes.length):fr n id+(Nt.node n.nodes id).p.length<=ps.length:=by
 obtain ⟨hk,e⟩:=Nt.node_in ⟨h1,h2⟩;have h3:=from_succ hk;have h4:from_ n.nodes ((id-1).toNat+1)<=(n.nodes.flatMap (·.p)).length:=from_le;have h5:ps.length=(n.nodes.flatMap (·.p)).length:=by have:=congrArg List.length hm;simpa [Nt.params] using this
 unfold fr;rw [e,show id.toNat-1=(id-1).toNat by omega];omega
theorem qec {ns:List NodeD} {a b:Nat} (h:a<=b):from_ ns a<=from_ ns b:=by
 induction b with
 | zero=>
           obtain rfl:a=0:=by omega
           exact lrZ _
 | succ b ih=>
  rcases Nat.lt_or_ge b a with h1|h1
  ·obtain rfl:a=b+1:=by omega
   exact lrZ _
  ·refine Zv (ih h1) ?_
   rcases Nat.lt_or_ge b ns.length with h2|h2
   ·rw [from_succ h2];omega
   ·unfold from_
    rw [List.take_of_length_le h2,List.take_of_length_le oZ];exact lrZ _
theorem qds {l d:List Ten} {o j:Nat} (hj:j<d.length) (h:o+d.length<=l.length):Ly.got (splice l o d) (o+j)=Ly.got d j:=by
 unfold Ly.got splice;rw [gdZ,gdZ,Zl soZ,Zo,Nat.min_eq_left oZ,Nat.add_sub_cancel_left,Zm hj]
theorem qcP {l d:List Ten} {o j:Nat} (hj:j<o∨o+d.length<=j) (h:o+d.length<=l.length):Ly.got (splice l o d) j=Ly.got l j:=by
 unfold Ly.got splice;rw [gdZ,gdZ];rcases hj with hj|hj
 ·rw [Zm soZ,List.getElem?_take_of_lt hj]
 ·rw [Zl soZ,Zo,Nat.min_eq_left oZ,Zl oZ,List.getElem?_drop]
  congr 2
  omega
theorem splice_len {l d:List Ten} {o:Nat} (h:o+d.length<=l.length):(splice l o d).length=l.length:=by
 unfold splice;simp;omega
theorem back_next {n:NetD} {ps vals gr pg:List Ten} (hR:Ready n ps vals) {a b:List Int} {u:Int} (hs:Nt.sorted n.nodes=a++u::b) (h:Back n ps vals b gr pg):
  (bk n ps vals gr u).2=0/\(bk n ps vals gr u).1.x.length=(Nt.node n.nodes u).ins.length/\(bk n ps vals gr u).1.p.length=(Nt.node n.nodes u).p.length/\1<=u/\u<=n.nodes.length/\
  Back n ps vals (u::b) (addN gr (Nt.node n.nodes u).ins (bk n ps vals gr u).1.x (Nt.node n.nodes u).ins.length) (splice pg (fr n u) (bk n ps vals gr u).1.p)/\
  (parts n ps u).length=(Nt.node n.nodes u).p.length/\Od.counts (Nt.node n.nodes u).op (parts n ps u).length (pickT vals (Nt.node n.nodes u).ins).length=0/\
  (∀q,q<=(Nt.node n.nodes u).ins.length->∀i,Part vals (Ly.got (addN gr (Nt.node n.nodes u).ins (bk n ps vals gr u).1.x q) i) i)/\(∀q,q<(Nt.node n.nodes u).ins.length->Tn.right (Ly.got (bk n ps vals gr u).1.x q)=true):=by
 obtain ⟨c1,c2,c3,c4,c5,c6,c7,c8⟩:=Nt.check_ok hR.chk;have hf:∀v∈Nt.sorted n.nodes,1<=v/\v<=n.nodes.length:=Kn.order_rng _ _;have hm:(Nt.sorted n.nodes).Nodup:=(Kn.go_ok _ _ _).nodup;have hu:=hf u (by rw [hs];simp);obtain ⟨hk,ha⟩:=Nt.node_in hu;have hb:∀i∈(Nt.node n.nodes u).ins,0<=i/\i<=n.nodes.length:=by rw [ha];exact (Nt.bads_all c4 _ (gmZ hk)).2
 have hw:Good vals (Ly.got gr u.toNat) u.toNat:=by
  refine h.used u oZ ?_
  by_cases hx:u=Nt.loss n.nodes
  ·exact .inl hx
  ·obtain ⟨v,hv,hz⟩:=qeb hR.chk oZ hu.2 hx
   refine .inr ⟨v,?_,hz⟩;rw [hs] at hv hm;rw [List.nodup_append] at hm;obtain ⟨-,hG,hg⟩:=hm;have hJ:u∉b:=(List.nodup_cons.1 hG).1;rcases List.mem_append.1 hv with hv|hv
   ·exfalso
    obtain ⟨a1,a2,ea⟩:=List.append_of_mem hv
    have hE:Kn.order (Nt.insF n.nodes) n.nodes.length=a1++v::(a2++u::b):=by
     show Nt.sorted n.nodes=_
     rw [hs,ea];simp
    rcases Kn.order_behind _ _ hE u hz with h4|h4
    ·omega
    ·exact hg u (by rw [ea];simp [h4]) u sZ rfl
   ·rcases List.mem_cons.1 hv with hv|hv
    ·exfalso
     subst hv;rcases Kn.order_behind _ _ (show Kn.order (Nt.insF n.nodes) n.nodes.length=a++v::b from hs) v hz with h4|h4
     ·omega
     ·exact hg v h4 v sZ rfl
    ·exact hv
 obtain ⟨p1,p2,p3⟩:=qc2 hR.pm hR.pr hu.1 hu.2
 have hd:∀t∈pickT vals (Nt.node n.nodes u).ins,Tn.right t=true:=λt ht=>by
  obtain ⟨i,hi,rfl⟩:=List.mem_map.1 ht;have:=hb i hi;exact hR.all _ (by rw [hR.len];omega)
 obtain ⟨b0,bp,bx⟩:=Ly.back_like (hR.kn u hu.1 hu.2) p2 hd (hR.step u hu.1 hu.2) hw.1 hw.2;have hC:(bk n ps vals gr u).2=0:=b0;have ho:Ly.Like (bk n ps vals gr u).1.p (parts n ps u):=bp;have hl:Ly.Like (bk n ps vals gr u).1.x (pickT vals (Nt.node n.nodes u).ins):=bx;have hI:(bk n ps vals gr u).1.x.length=(Nt.node n.nodes u).ins.length:=by rw [hl.len];simp [pickT]
 have hh:(bk n ps vals gr u).1.p.length=(Nt.node n.nodes u).p.length:=by rw [ho.len];exact p3
 clear b0 bp bx
 have hr:∀j,j<(Nt.node n.nodes u).ins.length->Good vals (Ly.got (bk n ps vals gr u).1.x j) ((Nt.node n.nodes u).ins.getD j 0).toNat:=λj hj=>by
  have he:j<(bk n ps vals gr u).1.x.length:=by omega
  refine ⟨by rw [qaj he];exact hl.2 _ (gmZ he),?_⟩;rw [←got_s,hl.1,got_s]
  congr 1
  rw [qaj (by simpa [pickT] using hj)];simp [pickT,gdZ,geZ hj]
 have hc:=part_at hR.pm hu.1 hu.2;have hq:=qea (gr:=gr) (bx:=(bk n ps vals gr u).1.x) (λi hi=>⟨(hb i hi).1,by rw [h.len];have:=hb i hi;omega⟩) hr h.part;obtain ⟨q1,q2,q3⟩:=hq _ (lrZ _);refine ⟨hC,hI,hh,hu.1,hu.2,⟨by rw [addN_len];exact h.len,q1,?_,?_,?_⟩,p3,Ly.go_counts (hR.step u hu.1 hu.2),λq hn=>(hq q hn).1,λq hn=>(hr q hn).1⟩
 ·rintro i hi (hD|⟨v,hv,hz⟩)
  ·exact q2 _ (h.used i hi (.inl hD))
  ·rcases List.mem_cons.1 hv with hv|hv
   ·subst hv
    obtain ⟨j,hj,e⟩:=List.getElem_of_mem hz;have hp:j<(Nt.node n.nodes v).ins.length:=hj;have:=q3 j hp;rw [gdZ,geZ hp] at this;have e:(Nt.node n.nodes v).ins[j]'hj=i:=e;rw [show (some ((Nt.node n.nodes v).ins[j]'hp)).getD 0=i from e] at this;exact this
   ·exact q2 _ (h.used i hi (.inr ⟨v,hv,hz⟩))
 ·rw [splice_len (by rw [hh,h.plen];exact hc)];exact h.plen
 ·intro v hv j hj
  have hF:1<=v/\v<=n.nodes.length:=hf v (by rw [hs];rcases List.mem_cons.1 hv with hv|hv<;>simp [hv])
  by_cases e:v=u
  ·subst e
   rw [qds oZ (by rw [hh,h.plen];exact hc)];have he:j<(bk n ps vals gr v).1.p.length:=by omega
   refine ⟨?_,by rw [qaj he];exact ho.2 _ (gmZ he)⟩;rw [←got_s,ho.1,got_s]
   congr 1
   unfold Ly.got parts fr;rw [gdZ,gdZ,List.getElem?_take_of_lt hj,List.getElem?_drop]
  ·have hy:v∈b:=by
    rcases List.mem_cons.1 hv with hv|hv
    ·exact absurd hv e
    ·exact hv
   rw [qcP ?_ (by rw [hh,h.plen];exact hc)]
   ·exact h.pgood v hy j hj
   ·rw [hh]
    obtain ⟨hB,hH⟩:=Nt.node_in hF;rcases Int.lt_or_gt_of_ne e with hA|hA
    ·left
     have h3:=from_succ hB;rw [←hH] at h3;have h4:from_ n.nodes ((v-1).toNat+1)<=from_ n.nodes (u.toNat-1):=qec oZ;unfold fr;rw [show v.toNat-1=(v-1).toNat by omega];omega
    ·right
     have h3:=from_succ hk;rw [←ha] at h3;have h4:from_ n.nodes ((u-1).toNat+1)<=from_ n.nodes (v.toNat-1):=qec oZ;unfold fr;rw [show u.toNat-1=(u-1).toNat by omega];omega
theorem ones_good {s:List Int} (h:Sh.right s=true):Tn.right (ones s)=true:=by
 refine Ly.right_of h ?_;have:=(Sh.right_mul h).2.2.2.2.1;rw [List.length_replicate];omega
theorem loss_rng {n:NetD} (h:Nt.check n=0):1<=Nt.loss n.nodes/\Nt.loss n.nodes<=n.nodes.length:=by
 obtain ⟨_,_,_,_,_,_,ha,_⟩:=Nt.check_ok h;exact (Nt.loss_mem ha).2
theorem back_start {n:NetD} {ps vals:List Ten} (hR:Ready n ps vals):Back n ps vals [] (startG n vals) (Zc ps.length Ly.none_):=by
 have hl:=loss_rng hR.chk;have ha:(Nt.loss n.nodes).toNat<(Zc (n.nodes.length+1) Ly.none_).length:=by rw [List.length_replicate];omega
 have hg:Good vals (Ly.got (startG n vals) (Nt.loss n.nodes).toNat) (Nt.loss n.nodes).toNat:=by
  unfold startG;rw [qaZ ha];exact ⟨ones_good (Ly.right_s (hR.all _ (by rw [hR.len];omega))).1,rfl⟩
 refine ⟨by simp [startG],λi=>?_,?_,by simp,λv hv=>absurd hv sZ⟩
 ·by_cases e:i=(Nt.loss n.nodes).toNat
  ·subst e;exact .inr hg
  ·left
   unfold startG;rw [qaH (Ne.symm e)];unfold Ly.got;rw [gdZ,List.getElem?_replicate]
   split<;>rfl
 ·rintro i-(rfl|⟨v,hv,-⟩)
  ·exact hg
  ·exact absurd hv sZ
theorem ready_of {n:NetD} {ps:List Ten} {x:Ten} (hK0:∀v∈n.nodes,v.op.kind≠10/\v.op.kind≠13/\v.op.kind≠14) (h:fits n ps x=0):∃vals,forward n ps x=(vals,0)/\Ready n ps vals/\Ly.got vals 0=x:=by
 obtain ⟨hc,hl,hp,hx⟩:=fits_ok h;obtain ⟨hm,hr⟩:=qgz hl hp;obtain ⟨hb,ha⟩:=tenIs_ok hx;obtain ⟨c1,c2,c3,c4,c5,c6,c7,c8⟩:=Nt.check_ok hc
 have h0:Done n ps x [] (x::Zc n.nodes.length Ly.none_):=⟨by simp,by simp [Nt.lay,Nt.start,ha,Ly.none_],rfl,λi hi=>by
  rcases hi with rfl|hi
  ·exact hb
  ·simp at hi,by simp⟩
 obtain ⟨out,h1,h2⟩:=qdq hc hm hr (Nt.sorted n.nodes) [] _ rfl h0;refine ⟨out,?_,⟨hc,hm,hr,h2.len,λi hi=>?_,λid a b=>h2.step id ?_,λid a b=>hK0 _ (Nt.node_mem ⟨a,b⟩)⟩,h2.zero⟩
 ·unfold forward
  rw [inZ oZ];exact h1
 ·have:=h2.right (i:Int) (by
   rcases Nat.eq_zero_or_pos i with h0|h0
   ·exact .inl oZ
   ·exact .inr ((Kn.order_full c5 _).2 ⟨by omega,by rw [h2.len] at hi;omega⟩))
  simpa using this
 ·rw [List.nil_append]
  exact (Kn.order_full c5 id).2 ⟨a,b⟩
theorem qeJ {n:NetD} {ps vals:List Ten} (hR:Ready n ps vals):∀(k:Nat) (gr pg:List Ten),Back n ps vals ((Nt.sorted n.nodes).drop k) gr pg->
  Back n ps vals (Nt.sorted n.nodes) (bwd n ps vals gr pg ((Nt.sorted n.nodes).take k).reverse).1 (bwd n ps vals gr pg ((Nt.sorted n.nodes).take k).reverse).2
 | 0,gr,pg,h=>by simpa [bwd] using h
 | k+1,gr,pg,h=>by
  by_cases hk:k<(Nt.sorted n.nodes).length
  ·have hs:Nt.sorted n.nodes=(Nt.sorted n.nodes).take k++(Nt.sorted n.nodes)[k]::(Nt.sorted n.nodes).drop (k+1):=by
    rw [←Zd hk,Zn]
   obtain ⟨-,-,-,-,-,h2,-⟩:=back_next hR hs h;rw [←Zd hk] at h2;have:=qeJ hR k _ _ h2;rw [Zb hk,List.reverse_append,List.reverse_singleton,List.singleton_append,bwd];exact this
  ·rw [List.take_of_length_le oZ]
   rw [List.drop_eq_nil_of_le oZ] at h;have:=qeJ hR k gr pg (by rw [List.drop_eq_nil_of_le oZ];exact h);rw [List.take_of_length_le oZ] at this;exact this
theorem back_all {n:NetD} {ps vals:List Ten} (hR:Ready n ps vals):Back n ps vals (Nt.sorted n.nodes) (back n ps vals).1 (back n ps vals).2:=by
 have:=qeJ hR (Nt.sorted n.nodes).length (startG n vals) (Zc ps.length Ly.none_) (by rw [List.drop_length];exact back_start hR);rw [Zg] at this;exact this
end Pn
theorem qcQ {P:Program} (w:Zp1) (dT sT ty elem:TypeId) (size g o dLen dCap:Nat) (a:Addr) (sLen sCap:Nat) (cur:Array Value) (t:TypeId) (cs:List Value)
  (hu:P.underlying dT=some (.slice elem)) (hs:(P.info? elem).map (·.size)=some size)
  (hg:w.heap[g]? = some (.cells cur t (0,0))) (hn:cs.length=Nat.min sLen dLen*size)
  (hsrc:∀j v,cs[j]? = some v->w.cell? (a.add j)=some v) (hfit:o+cs.length<=cur.size) (h1:∀v∈cs,v.oneCell'=true):
  (Builtin.copy_ #[dT,sT] ty #[sQ (some ⟨g,o,none⟩) dLen dCap,sQ (some a) sLen sCap]).run P w=
   .ok (goInt (Nat.min sLen dLen)) (w.setRow g (cur.toList.take o++cs++cur.toList.drop (o+cs.length)).toArray):=by
 have hl:=run_loadCells_list (P:=P) w a cs hsrc;have ha:=run_storeCells_at P g o t cs 0 cur w hg (by simpa using hfit) h1;cases hq:P.info? elem with
 | none=>simp [hq] at hs
 | some i=>
  have hi:i.size=size:=by simpa [hq] using hs
  simp [Builtin.copy_,run_underlying hu,Builtin.lenOf,Builtin.firstCells,sizeOf,typeInfo,hq,hi,←hn,hl,ha]
theorem RowO.spliced {B:Nat} {w:Zp1} {vs us:List Value} {ts ds:List Ten} {k:Nat} (h:RowO B w vs ts) (h2:RowO B w us ds) (hk:k+ds.length<=ts.length):RowO B w (splice vs (k*2) us) (splice ts k ds):=by
 have hl:=h.1;have ha:=h2.1;have hs:(splice ts k ds).length=ts.length:=by unfold splice;simp;omega
 refine ⟨by rw [hs];unfold splice;simp;omega,λj hj=>?_⟩;rw [hs] at hj
 have key:∀m,m<2->((splice vs (k*2) us)[j*2+m]? = if k<=j/\j<k+ds.length then us[(j-k)*2+m]? else vs[j*2+m]?):=λm hm=>by
  unfold splice
  by_cases h1:j<k
  ·rw [inZ oZ,Zm soZ,List.getElem?_take_of_lt oZ]
  ·by_cases h3:j<k+ds.length
   ·rw [ipZ oZ,Zl soZ,Zo,Nat.min_eq_left oZ,Zm oZ]
    congr 1
    omega
   ·rw [inZ oZ,Zl soZ,Zo,Nat.min_eq_left oZ,Zl oZ,List.getElem?_drop]
    congr 1
    omega
 have k0:=key 0 oZ;have k1:=key 1 oZ;rw [Zx] at k0
 by_cases h3:k<=j/\j<k+ds.length
 ·rw [ipZ h3] at k0 k1
  obtain ⟨S,c,C,d,e1,e2,e3⟩:=h2.2 (j-k) oZ
  have eg:(splice ts k ds)[j]'(by rw [hs];exact hj)=ds[j-k]:=by
   have:(splice ts k ds)[j]? = ds[j-k]?:=by
    unfold splice;rw [Zl soZ,Zo,Nat.min_eq_left oZ,Zm oZ]
   rw [geZ (by rw [hs];exact hj),geZ oZ] at this;exact Option.some.inj this
  refine ⟨S,c,C,d,?_,?_,?_⟩
  ·rw [k0,eg];exact e1
  ·rw [k1,eg];exact e2
  ·rw [eg];exact e3
 ·rw [inZ h3] at k0 k1
  obtain ⟨S,c,C,d,e1,e2,e3⟩:=h.2 j hj
  have eg:(splice ts k ds)[j]'(by rw [hs];exact hj)=ts[j]:=by
   have:(splice ts k ds)[j]? = ts[j]?:=by
    unfold splice
    by_cases h1:j<k
    ·rw [Zm soZ,List.getElem?_take_of_lt oZ]
    ·rw [Zl soZ,Zo,Nat.min_eq_left oZ,Zl oZ,List.getElem?_drop]
     congr 1
     omega
   rw [geZ (by rw [hs];exact hj),geZ oZ] at this;exact Option.some.inj this
  refine ⟨S,c,C,d,?_,?_,?_⟩
  ·rw [k0,eg];exact e1
  ·rw [k1,eg];exact e2
  ·rw [eg];exact e3
theorem TnsO.rowO {B:Nat} {w:Zp1} {ad:Addr} {ts:List Ten} (h:TnsO B w (some ad) ts):RowO B w (qaz w ad (ts.length*2)) ts/\∀j u,(qaz w ad (ts.length*2))[j]? = some u->w.cell? (ad.add j)=some u:=by
 obtain ⟨h1,h2⟩:=h.tns.rowT;refine ⟨⟨h1.1,λj hj=>?_⟩,h2⟩;obtain ⟨S,c,C,d,e1,e2,-⟩:=h1.2 j hj;refine ⟨S,c,C,d,e1,e2,?_⟩;obtain ⟨b,S',c',C',d',e,c0,c1,hO⟩:=h.2 j hj;injection e with e
 subst e;have q1:=h2 _ _ e1;have q2:=h2 _ _ e2;have a1:(⟨b,0,none⟩:Addr).add (j*2)=⟨b,j*2,none⟩:=by rw [qaV,Zw]
 have a2:(⟨b,0,none⟩:Addr).add (j*2+1)=⟨b,j*2+1,none⟩:=by rw [qaV,Zw]
 rw [a1,c0] at q1;rw [a2,c1] at q2;injection q1 with q1
 injection q2 with q2
 injection q1 with q3 _ q4
 injection q2 with q5 _ q6
 subst q3 q4 q5 q6;exact hO
theorem RowO.else_ {B:Nat} {w w':Zp1} {vs:List Value} {ts:List Ten} {p:Nat} (h:RowO B w vs ts) (hE:Else p w w') (hp:∀k z,w.cell? ⟨p,k,none⟩≠some (nQ iQ z)) (hf:∀j,w'.frozen? ⟨p,j,none⟩=false):RowO B w' vs ts:=
 ⟨h.1,λj hj=>by obtain ⟨S,c,C,d,e1,e2,e3⟩:=h.2 j hj;exact ⟨S,c,C,d,e1,e2,e3.else_ hE hp hf⟩⟩
theorem RowO.noint {B:Nat} {w:Zp1} {vs:List Value} {ts:List Ten} {p:Nat} {T:TypeId} (h:RowO B w vs ts) (hz:Blk w p T vs.toArray):∀k z,w.cell? ⟨p,k,none⟩≠some (nQ iQ z):=λk z e=>by
 rw [hz.cell,Zk] at e;obtain ⟨_,_,_,e2⟩:=h.rowT.cell _ (List.mem_of_getElem? e);cases e2
theorem qcR {P:Program} {ops:Array Oper} {o:Oper} {a:Act} {w:Zp1} {K:Act->Zp1->Prop} {Q:Exit->Act->Zp1->Prop} {E:Prop} (hgd:o.guard=none) (d s:Operand) (dT sT:TypeId)
  (ho:o.op=.call { callee:=.builtin .copy,args:=#[d,s],argTypes:=#[dT,sT] }) (elem:TypeId) (hu:P.underlying dT=some (.slice elem)) (hsz:(P.info? elem).map (·.size)=some 2)
  (B g k dCap:Nat) (ad:Addr) (sCap:Nat) (ts ds:List Ten) (hd:a.eval d=sQ (some ⟨g,k*2,none⟩) ds.length dCap) (hs:a.eval s=sQ (some ad) ds.length sCap)
  (vs:List Value) (t:TypeId) (hk:Blk w g t vs.toArray) (hv:RowO B w vs ts) (hsrc:TnsO B w (some ad) ds) (hfit:k+ds.length<=ts.length)
  (h:∀w' vs',Blk w' g t vs'.toArray->RowO B w' vs' (splice ts k ds)->Else g w w'->K (a.put o.dst (goInt ds.length)) w'):
  if Region.wanted o (yielded ops a.tmps)=true then Oper.wp P o a w K Q else E:=by
 have hw:Region.wanted o (yielded ops a.tmps)=true:=by simp [Region.wanted,hgd]
 rw [ipZ hw];obtain ⟨hr,hc⟩:=hsrc.rowO;have hj:=hv.1;have hg:=hr.1
 have hb:∀v∈qaz w ad (ds.length*2),v.oneCell'=true:=λv hh=>by
  obtain ⟨_,_,_,e⟩:=hr.rowT.cell _ hh;subst e
  rfl
 have ha:=qcQ (P:=P) w dT sT o.type elem 2 g (k*2) ds.length dCap ad ds.length sCap vs.toArray t (qaz w ad (ds.length*2)) hu hsz hk (by rw [hg];show _=Nat.min ds.length ds.length*2;rw [show Nat.min ds.length ds.length=ds.length from Nat.min_self _]) hc soZ hb;rw [show Nat.min ds.length ds.length=ds.length from Nat.min_self _] at ha;unfold Oper.wp;simp [execOp,ho,resolve,invoke,builtin,hd,hs,ha,Result.andThen]
 have he:Blk (w.setRow g (splice vs (k*2) (qaz w ad (ds.length*2))).toArray) g t (splice vs (k*2) (qaz w ad (ds.length*2))).toArray:=by
  show _=_
  exact setRow_heap w g _ _ t _ hk
 have hf:Else g w (w.setRow g (splice vs (k*2) (qaz w ad (ds.length*2))).toArray):=⟨λk hi=>setRow_other w g k _ hi,by simp [World.setRow],below_setRow (Ze1 _ _) (lrZ _) _⟩
 have:=h _ _ he ((hv.spliced hr hfit).else_ hf (hv.noint hk) (λj=>he.frozen j)) hf;exact this
def RunP (r:Pn.Res) (w:Zp1) (e:Ending) (w':Zp1):Prop:=
 ∃GB S C sc cd,e=.returned (.tuple #[.agg #[nQ iQ r.loss,sQ (some ⟨GB,0,none⟩) r.grads.length r.grads.length,sQ S r.x.s.length sc,sQ C r.x.c.length cd],nQ iQ 0])/\TnsO w.heap.size w' (some ⟨GB,0,none⟩) r.grads/\TenO w.heap.size w' (.agg #[sQ S r.x.s.length sc,sQ C r.x.c.length cd]) r.x/\Below w.heap.size w w'
theorem qaJ {P:Program} {ops:Array Oper} {o:Oper} {a:Act} {K:Act->Zp1->Prop} {Q:Exit->Act->Zp1->Prop} {E:Prop} {w:Zp1} (hg:o.guard=none) (l c:Operand) (t:TypeId) (hop:o.op=Op.makeSlice t l c)
  (base:Nat) (e:TypeId) (i:TypeInfo) (z:Value) (size:Nat) (h1:P.underlying t=some (.slice e)) (h2:P.info? e=some i) (h3:i.zero=some z) (h4:i.size=size)
  (kl kc:IntKind) (n:Nat) (hl:a.eval l=.int kl (n:Int)) (hc:a.eval c=.int kc (n:Int)) (b2:i.bytes*n<=281474976710656) (b3:n<=maxLen) (b4:base<=w.heap.size)
  (hK:∀w',w'.ownsRow base e size (sQ (some ⟨w.heap.size,0,none⟩) n n) n (madeCells z.cells (n*size)).toList->w.grownBy w' none->K (a.put o.dst (sQ (some ⟨w.heap.size,0,none⟩) n n)) w'):
  if Region.wanted o (yielded ops a.tmps)=true then Oper.wp P o a w K Q else E:=by
 have hw:Region.wanted o (yielded ops a.tmps)=true:=by simp [Region.wanted,hg]
 rw [ipZ hw];obtain ⟨w',ha,r1,r2⟩:=run_make_full (P:=P) w base t e i z size h1 h2 h3 h4 kl kc n b2 b3 b4;unfold Oper.wp;simp [execOp,hop,hl,hc,ha,Result.andThen];exact hK w' r1 r2
theorem qdt {P:Program} (w:Zp1) (t ty e:TypeId) (i:TypeInfo) (dp sp:Option Addr) (dc sc:Nat) (ht:P.underlying t=some (.slice e)) (hi:P.info? e=some i):
  (Builtin.copy_ #[t,t] ty #[.slice dp 0 dc,.slice sp 0 sc]).run P w=.ok (goInt 0) w:=by
 cases dp<;>cases sp<;>simp [Builtin.copy_,run_underlying ht,sizeOf,typeInfo,hi,Builtin.lenOf,Builtin.firstCells,loadCells,loadCellsFrom,storeCells]
theorem qcS {P:Program} {ops:Array Oper} {o:Oper} {a:Act} {w:Zp1} {K:Act->Zp1->Prop} {Q:Exit->Act->Zp1->Prop} {E:Prop} (hgd:o.guard=none) (d s:Operand) (t:TypeId)
  (ho:o.op=.call { callee:=.builtin .copy,args:=#[d,s],argTypes:=#[t,t] }) (e:TypeId) (i:TypeInfo) (hu:P.underlying t=some (.slice e)) (hi:P.info? e=some i)
  (dp sp:Option Addr) (dc sc:Nat) (hd:a.eval d=.slice dp 0 dc) (hs:a.eval s=.slice sp 0 sc) (h:K (a.put o.dst (goInt 0)) w):
  if Region.wanted o (yielded ops a.tmps)=true then Oper.wp P o a w K Q else E:=by
 have hw:Region.wanted o (yielded ops a.tmps)=true:=by simp [Region.wanted,hgd]
 rw [ipZ hw];have ha:=qdt (P:=P) w t o.type e i dp sp dc sc hu hi;unfold Oper.wp;simp [execOp,ho,resolve,invoke,builtin,hd,hs,ha,Result.andThen];exact h
theorem qf5 {w:Zp1} {A:Option Addr} {l:List Int} {p:Addr} (h:Ints iQ w A l) (hA:∀a,A=some a->a.block≠p.block) (u:Value):Ints iQ (w.setCell p u) A l:=λj hj=>by
 obtain ⟨b,off,e,hl,hc⟩:=h j hj;exact ⟨b,off,e,by simpa using hl,(qaC (Below.heap_setCell w p u b (hA _ e)) _).trans hc⟩
theorem Ints.slot {w:Zp1} {A:Option Addr} {l:List Int} {p:Addr} {v:Value} (h:Ints iQ w A l) (hp:w.cell? p=some v) (hv:∀z,v≠nQ iQ z) (u:Value):Ints iQ (w.setCell p u) A l:=λj hj=>by
 obtain ⟨b,off,e,hl,hc⟩:=h j hj;refine ⟨b,off,e,by simpa using hl,?_⟩;rw [World.cell?_setCell_other]
 ·exact hc
 ·rintro rfl
  rw [hp] at hc;injection hc with hc
  exact hv _ hc
theorem RowO.slot {B:Nat} {w:Zp1} {vs:List Value} {ts:List Ten} {p:Addr} {v:Value} (h:RowO B w vs ts) (hp:w.cell? p=some v) (hv:∀z,v≠nQ iQ z) (u:Value):RowO B (w.setCell p u) vs ts:=
 ⟨h.1,λj hj=>by
  obtain ⟨S,c,C,d,e1,e2,S',c',C',d',h1,h2,h3,h4⟩:=h.2 j hj;exact ⟨S,c,C,d,e1,e2,S',c',C',d',h1,{ h2 with r:=⟨h2.r.1.slot hp hv u,h2.r.2.slot hp hv u⟩ },h3,λa e=>by obtain ⟨k1,k2,k3⟩:=h4 a e;exact ⟨k1,by simpa using k2,λj=>by rw [World.frozen?_setCell];exact k3 j⟩⟩⟩
theorem RowO.far {B:Nat} {w:Zp1} {vs:List Value} {ts:List Ten} {p:Addr} (h:RowO B w vs ts) (hp:p.block<B) (u:Value):RowO B (w.setCell p u) vs ts:=
 ⟨h.1,λj hj=>by
  obtain ⟨S,c,C,d,e1,e2,S',c',C',d',h1,h2,h3,h4⟩:=h.2 j hj;exact ⟨S,c,C,d,e1,e2,S',c',C',d',h1,{ h2 with r:=⟨qf5 h2.r.1 (λa e=>by have:=h3 a e;omega) u,qf5 h2.r.2 (λa e=>by have:=(h4 a e).1;omega) u⟩ },h3,λa e=>by obtain ⟨k1,k2,k3⟩:=h4 a e;exact ⟨k1,by simpa using k2,λj=>by rw [World.frozen?_setCell];exact k3 j⟩⟩⟩
theorem TnsO.off {B p i k:Nat} {w:Zp1} {A:Option Addr} {ts:List Ten} {T:TypeId} {vs:List Value} (h:TnsO B w A ts) (hz:Blk w p T vs.toArray) (hv:∀u∈vs,∃A n c,u=Zb1 A n c) (hp:p<B) (u u2:Value):
  TnsO B ((w.setCell ⟨p,i,none⟩ u).setCell ⟨p,k,none⟩ u2) A ts:=by
 refine ⟨λa e=>?_,λj hj=>?_⟩
 ·obtain ⟨b,h1,h2,h3,h4⟩:=h.1 a e
  exact ⟨b,h1,h2,by simpa using h3,λk=>by rw [World.frozen?_setCell,World.frozen?_setCell];exact h4 k⟩
 ·obtain ⟨b,S,c,C,d,e,c0,c1,hO⟩:=h.2 j hj
  obtain ⟨b2,q1,q2,-,-⟩:=h.1 _ e;injection q1 with q1
  exact ⟨b,S,c,C,d,e,qa0 (qa0 c0 (by show b≠p;omega)) (by show b≠p;omega),qa0 (qa0 c1 (by show b≠p;omega)) (by show b≠p;omega),hO.off hz hv u u2⟩
theorem TnsO.else_ {B p:Nat} {w w':Zp1} {A:Option Addr} {ts:List Ten} (h:TnsO B w A ts) (hE:Else p w w') (hp:∀k z,w.cell? ⟨p,k,none⟩≠some (nQ iQ z)) (hf:∀j,w'.frozen? ⟨p,j,none⟩=false) (hB:p<B):TnsO B w' A ts:=by
 refine ⟨λa e=>?_,λj hj=>?_⟩
 ·obtain ⟨b,h1,h2,h3,h4⟩:=h.1 a e
  refine ⟨b,h1,h2,by rw [hE.2.1];exact h3,λk=>?_⟩;have:=h4 k;unfold World.frozen? at this ⊢;rw [hE.1 b oZ];exact this
 ·obtain ⟨b,S,c,C,d,e,c0,c1,hO⟩:=h.2 j hj
  obtain ⟨b2,q1,q2,-,-⟩:=h.1 _ e;injection q1 with q1
  exact ⟨b,S,c,C,d,e,(Zi1 (hE.1 b oZ)).trans c0,(Zi1 (hE.1 b oZ)).trans c1,hO.else_ hE hp hf⟩
theorem qfD (ts:List Ten) (k:Nat):splice ts k []=ts:=by unfold splice;simp
theorem qcT {P:Program} {ops:Array Oper} {o:Oper} {a:Act} {w:Zp1} {K:Act->Zp1->Prop} {Q:Exit->Act->Zp1->Prop} {E:Prop} (hgd:o.guard=none) (d s:Operand) (T:TypeId)
  (ho:o.op=.call { callee:=.builtin .copy,args:=#[d,s],argTypes:=#[T,T] }) (elem:TypeId) (i:TypeInfo) (hu:P.underlying T=some (.slice elem)) (hi:P.info? elem=some i) (hsz:i.size=2)
  (B g k m n1 dCap:Nat) (PA:Option Addr) (sCap:Nat) (ts ds:List Ten) (hd:a.eval d=.slice (if m=k then some ⟨g,0,none⟩ else (some (⟨g,0,none⟩:Addr)).map λa=>a.add (k*2)) n1 dCap) (hs:a.eval s=sQ PA ds.length sCap)
  (vs:List Value) (t:TypeId) (hk:Blk w g t vs.toArray) (hv:RowO B w vs ts) (hsrc:TnsO B w PA ds) (hm:ts.length=m) (hn:ds.length=n1) (hfit:k+ds.length<=ts.length)
  (h:∀w' vs',Blk w' g t vs'.toArray->RowO B w' vs' (splice ts k ds)->Else g w w'->K (a.put o.dst (goInt n1)) w'):
  if Region.wanted o (yielded ops a.tmps)=true then Oper.wp P o a w K Q else E:=by
 subst hn
 by_cases h0:ds.length=0
 ·obtain rfl:=List.eq_nil_of_length_eq_zero h0
  exact qcS hgd d s T ho elem i hu hi _ _ _ _ hd hs (h w vs hk (by rw [qfD];exact hv) (Else.refl _ _))
 ·obtain ⟨b,S,c,C,dd,e,-⟩:=hsrc.2 0 oZ
  subst e;rw [inZ oZ] at hd;exact qcR hgd d s T T ho elem hu (by rw [hi];simp [hsz]) B g k dCap ⟨b,0,none⟩ sCap ts ds (by rw [hd,Option.map_some,qaV,Zw]) hs vs t hk hv hsrc hfit h
theorem Else.later {w0 w w':Zp1} {g:Nat} (h:Else g w w') (hl:Later w0 w) (hg:w0.heap.size<=g):Later w0 w':=Below.trans hl (h.2.2.mono hg)
def RunCut (w0:Zp1) (z:Int) (m:Nat) (a:Value) (wx:Zp1):Prop:=
 ∃rb gp,a=.pointer (some ⟨rb,0,none⟩)/\w0.heap.size<=rb/\w0.heap.size<=gp/\Blk wx rb 44 #[nQ iQ z,sQ (some ⟨gp,0,none⟩) m m,sQ none 0 0,sQ none 0 0]/\Blk wx gp 30 (Zc (m*2) (Zb1 none 0 0)).toArray/\Later w0 wx
def BkCut (w0:Zp1) (R:Ly.Bk × Int) (a b:Value) (wx:Zp1):Prop:=
 ∃PA XA tb,a=.pointer (some ⟨tb,0,none⟩)/\b=nQ iQ 0/\Blk wx tb 81 #[sQ PA R.1.p.length R.1.p.length,sQ XA R.1.x.length R.1.x.length]/\TnsO w0.heap.size wx PA R.1.p/\TnsO w0.heap.size wx XA R.1.x/\w0.heap.size<=tb/\Later w0 wx
theorem qed (A N P XS XC:Option Addr) (c d cp xc xd:Nat) (n:NetD) (ps:List Ten) (x:Ten) (w:Zp1) (hok:n.ok) (hR:NetR w A N n) (hd:n.nodes.length<=d) (hP:Tns w P ps) (lP:ps.length<=1048576) (kP:ps.length<=cp) (mP:cp<=9223372036854775807) (nP:P=none->cp=0) (hX:TenIn w XS XC xc xd x) (hf:Pn.fits n ps x=0) (hK0:∀v∈n.nodes,v.op.kind≠10/\v.op.kind≠13/\v.op.kind≠14):
  Calls Tryz.prog 9 #[.agg #[sQ A n.inn.length c,sQ N n.nodes.length d],sQ P ps.length cp,.agg #[sQ XS x.s.length xc,sQ XC x.c.length xd]] w (RunP (Pn.run n ps x) w):=by
 have Gu:=zI hK0;clear hK0;have Kx:=((Blk.new w 26 #[sQ A n.inn.length c,sQ N n.nodes.length d]).alloc (.cells #[sQ XS x.s.length xc,sQ XC x.c.length xd] 30)).alloc (.cells #[nQ iQ 0,sQ none 0 0,sQ none 0 0,sQ none 0 0] 44);have Gz:=(Blk.new (w.alloc (.cells #[sQ A n.inn.length c,sQ N n.nodes.length d] 26)) 30 #[sQ XS x.s.length xc,sQ XC x.c.length xd]).alloc (.cells #[nQ iQ 0,sQ none 0 0,sQ none 0 0,sQ none 0 0] 44);have hz:=Blk.new ((w.alloc (.cells #[sQ A n.inn.length c,sQ N n.nodes.length d] 26)).alloc (.cells #[sQ XS x.s.length xc,sQ XC x.c.length xd] 30)) 44 #[nQ iQ 0,sQ none 0 0,sQ none 0 0,sQ none 0 0];simp only [Zh1] at Gz hz;have KE:Later w (((w.alloc (.cells #[sQ A n.inn.length c,sQ N n.nodes.length d] 26)).alloc (.cells #[sQ XS x.s.length xc,sQ XC x.c.length xd] 30)).alloc (.cells #[nQ iQ 0,sQ none 0 0,sQ none 0 0,sQ none 0 0] 44)):=(((Later.refl w).alloc _).alloc _).alloc _;obtain ⟨vals,G2,HL,mr⟩:=Pn.ready_of Gu.out hf;have hI:=HL.chk;have K4:=Pn.part_at HL.pm (id:=1);have HB:=HL.len;obtain ⟨n1,n5,-,hb,gy,-,-,-⟩:=Nt.check_ok hI;have gb:=Nt.bads_all hb;obtain ⟨mI,K2⟩:=Pn.loss_rng hI;obtain ⟨L,hL⟩:∃L:Nat,Nt.loss n.nodes=(L:Int):=⟨(Nt.loss n.nodes).toNat,by omega⟩
 rw [hL] at mI K2;have KX:L<vals.length:=by omega
 have gM:=HL.all L KX;obtain ⟨y,hy⟩:∃y,Ly.got vals L=y:=⟨_,rfl⟩
 rw [hy] at gM;obtain ⟨y4,y6⟩:=Ly.right_ok gM;have ki:=Pn.right_pos gM
 have gn:Pn.run n ps x=⟨Ly.at_ y.c 0,(Pn.back n ps vals).2,Ly.got (Pn.back n ps vals).1 0⟩:=by
  unfold Pn.run;rw [G2,hL,tnZ]
  show (⟨Ly.at_ (Ly.got vals L).c 0,_,_⟩:Pn.Res)=_
  rw [hy]
 have hp:Pn.startG n vals=(Zc (n.nodes.length+1) Ly.none_).set L (Pn.ones y.s):=by
  unfold Pn.startG;rw [hL,tnZ,hy]
 have Hc:qeq n=(L:Int):=by unfold qeq;rw [ipZ hI,hL]
 have Hd:Pn.back n ps vals=Pn.bwd n ps vals ((Zc (n.nodes.length+1) Ly.none_).set L (Pn.ones y.s)) (Zc ps.length Ly.none_) (Nt.sorted n.nodes).reverse:=by
  unfold Pn.back;rw [hp]
 rw [gn];clear hb K4 gn mr hL hf;obtain ⟨H4,HR,HP,HX,GJ,Kl,Hz,Gc,KI⟩:=zd9 hok hR hP hX Kx Gz hz KE nP;obtain ⟨mC,GW,GB,HI,G9,Hy,Kg,hB,gA⟩:=zd9 G2 HL HB gy gb hy gM hp Hc;obtain ⟨Hb,gh⟩:=zd2 Hd hI;clear hok hR hP hX Kx Gz hz KE nP G2 HL HB gy gb hy gM hp Hc Hd hI;go_enter Tryz.func9,Tryz.ntmps9;go_upto_region 1 with fail;generalize ((w.alloc (.cells #[sQ A n.inn.length c,sQ N n.nodes.length d] 26)).alloc (.cells #[sQ XS x.s.length xc,sQ XC x.c.length xd] 30)).alloc (.cells #[nQ iQ 0,sQ none 0 0,sQ none 0 0,sQ none 0 0] 44)=w1 at *;have a0:=GJ.out.cell 0;have a1:=GJ.out.cell 1;have b0:=Kl.out.cell 0;have b1:=Kl.out.cell 1;simp at a0 a1 b0 b1
 have kf:Calls Tryz.prog 18 #[.agg #[sQ A n.inn.length c,sQ N n.nodes.length d],sQ P ps.length cp,.agg #[sQ XS x.s.length xc,sQ XC x.c.length xd]] w1 (FwdP (vals,0) w1):=by
  have:=qbN A N P XS XC c d cp xc xd n ps x w1 H4.out (HR.out.below Gc.out (lrZ _)) hd (HP.out.later Gc.out) lP kP mP KI.out (HX.out.later Gc.out) Gu.out;rw [mC.out] at this;exact this
 have mj:=zI kf;clear kf;go_wp2_with fail;refine (mj.out).mono ?_;rintro e w2 ⟨⟨hb,-⟩|⟨-,G,rfl,hV⟩,KA⟩
 ·exact absurd rfl hb
 have g0:Later w1 w2:=KA;have GM:=Gc.out.trans g0;have Gr:=g0.blk GJ.out;have kB:=g0.blk Hz.out;have GC:Tns w2 (some ⟨G,0,none⟩) vals:=hV.tns;obtain ⟨bv,off,S1,s1c,C1,c1c,eG,-,v0,v1,GY⟩:=GC.at_ (j:=L) (by rw [GB.out];omega);injection eG with eG
 injection eG with eG eo _
 subst eG eo;rw [Hy.out] at v0 v1 GY;rw [Zw] at v0 v1;rw [show (vals,(0:Int)).1.length=n.nodes.length+1 from GB.out];clear KA a0 a1 b0 b1 hV;have a0:=Gr.cell 0;have a1:=Gr.cell 1;simp at a0 a1;have HH:=qdL A N c d n w2 H4.out (HR.out.below GM (lrZ _)) hd;obtain ⟨mW,kx,K5,K3,K0,KM,kX,me⟩:=zd8 g0 GM Gr kB GC GY v0 v1;clear g0 GM Gr kB GC GY v0 v1;go_wp2_with fail;refine (show Calls Tryz.prog 19 #[.agg #[sQ A n.inn.length c,sQ N n.nodes.length d]] w2 (OrderP n w2) from HH).mono ?_;rintro e w3 ⟨KC,⟨-,O,oc,rfl,hO,m4,Mc⟩|⟨hb,-⟩⟩
 rotate_left
 ·exact absurd gh.out hb
 have gu:Later w2 w3:=KC;have GN:=kx.out.trans gu;have Gp:=gu.blk K5.out;have kV:=gu.blk K3.out;clear KC a0 a1 HH;have a0:=Gp.cell 0;have a1:=Gp.cell 1;simp at a0 a1
 have gR:Calls Tryz.prog 20 #[.agg #[sQ A n.inn.length c,sQ N n.nodes.length d]] w3 λe w'=>e=.returned (.tuple #[nQ iQ (L:Int),nQ iQ 0])/\Below w3.heap.size w3 w':=by
  have:=net_loss A N c d n w3 H4.out (HR.out.below GN (lrZ _)) hd;rw [gA.out,gh.out] at this;exact this
 obtain ⟨K6,mq,KZ,ma,HO,HS⟩:=zd6 gu GN Gp kV hO gR;clear gu GN Gp kV hO gR;go_wp2_with fail;refine (HS.out).mono ?_;rintro e w4 ⟨rfl,k8⟩;have HC:Later w3 w4:=k8;have GS:=mq.out.trans HC;have k9:=HC.blk KZ.out;have G5:=HC.blk ma.out;have Ku:=K6.out.trans HC;clear k8 a0 a1;have K7:=GS.size;have q1:iQ.wrap ((n.nodes.length:Int)+1)=(n.nodes.length:Int)+1:=Zc1 _ oZ;obtain ⟨KQ,gB,Gn,Gv,Gj⟩:=zd5 HC GS k9 G5 Ku;clear HC GS k9 G5 Ku;obtain ⟨i0,hi,gw,gi,gH⟩:=info_parts qbe;go_wp2_with (at_make;refine wpList_make_full _ rfl _ _ 27 rfl w.heap.size 30 i0 (.agg #[sQ none 0 0,sQ none 0 0]) 2 Tryz.underlying27 hi gw gi _ _ _ _ (n.nodes.length+1) rfl rfl (by first|rfl|simp) (by first|rfl|simp) ?b2 ?b3 K7 ?_)
 case b2=>rw [gH];omega
 case b3=>unfold maxLen;omega
 intro w5 hown hgrow;clear hi gw gi gH
 have kH:Blk w5 w4.heap.size 30 (Zc ((n.nodes.length+1)*2) (Zb1 none 0 0)).toArray:=by
  have h:=qcy hown;rw [qbf] at h;exact h
 have GT:Later w4 w5:=(Ze1 _ w4).grown hgrow (lrZ _) sZ;clear hown hgrow;have Ga:=Gj.out.trans GT;have p0:=Ga.cell kX.out;have Kj:=(KM.out.later Ga).r.1;have g1:(L:Int)<(n.nodes.length:Int)+1:=by omega
 obtain ⟨KH,Kr,KR,KV⟩:=zd4 kH GT Ga Kj;clear kH GT Ga Kj;go_wp2_with fail;refine (qct S1 s1c y.s 4294967296 w5 oZ KV.out).mono ?_;rintro e w6 ⟨kW,Gf⟩;obtain ⟨⟨hb,-⟩|⟨-,v,rfl,hT⟩,Gf⟩:=And.intro kW Gf
 ·exact absurd (Ly.right_s Kg.out).1 (by rw [hb];simp)
 have ka:Later w5 w6:=Gf;have k6:=KR.out.trans ka;have kM:=Kr.out.trans ka;have ho:=ka.blk KH.out;have G1:=KH.out.lt
 have Kt:TenO w5.heap.size w6 v (Pn.ones y.s):=TenN.o (t:=Pn.ones y.s) hT (by show y.s.length<=_;omega) (by
  have:=Ly.right_ok (Pn.ones_good (Ly.right_s Kg.out).1);omega) (by intro z hz;have:=(List.mem_replicate.1 hz).2;subst this;unfold Fx.In;omega)
 obtain ⟨g,hh,rfl,hg,mY,-,-⟩:=hT;have n1:g≠w4.heap.size:=by omega
 have n2:hh≠w4.heap.size:=by omega
 have e0:w6.cell? ⟨w4.heap.size,L*2,none⟩=some (sQ none 0 0):=by rw [ho.cell,Zk,List.getElem?_replicate,ipZ oZ]
 have e1:w6.cell? ⟨w4.heap.size,L*2+1,none⟩=some (sQ none 0 0):=by rw [ho.cell,Zk,List.getElem?_replicate,ipZ oZ]
 have f0:=ho.frozen (L*2);have f1:=ho.frozen (L*2+1);have gX:=((RowO.zeros (w.heap.size+3) w6 (n.nodes.length+1)).set (k:=L) soZ (Kt.base (by have:=Gv.out.lt;have:=Kr.out.size;omega)))
 have Hs:RowO (w.heap.size+3) ((w6.setCell ⟨w4.heap.size,L*2,none⟩ (sQ (some ⟨g,0,none⟩) (Pn.ones y.s).s.length (Pn.ones y.s).s.length)).setCell ⟨w4.heap.size,L*2+1,none⟩ (sQ (some ⟨hh,0,none⟩) (Pn.ones y.s).c.length (Pn.ones y.s).c.length)) (((Zc ((n.nodes.length+1)*2) (Zb1 none 0 0)).set (L*2) (sQ (some ⟨g,0,none⟩) (Pn.ones y.s).s.length (Pn.ones y.s).s.length)).set (L*2+1) (sQ (some ⟨hh,0,none⟩) (Pn.ones y.s).c.length (Pn.ones y.s).c.length)) ((Zc (n.nodes.length+1) Ly.none_).set L (Pn.ones y.s)):=gX.off (i:=L*2) (k:=L*2+1) ho (RowO.zeros 0 w6 (n.nodes.length+1)).rowT.cell (sQ (some ⟨g,0,none⟩) (Pn.ones y.s).s.length (Pn.ones y.s).s.length) (sQ (some ⟨hh,0,none⟩) (Pn.ones y.s).c.length (Pn.ones y.s).c.length);have hU:=(ho.set_ (L*2) (sQ (some ⟨g,0,none⟩) (Pn.ones y.s).s.length (Pn.ones y.s).s.length)).set_ (L*2+1) (sQ (some ⟨hh,0,none⟩) (Pn.ones y.s).c.length (Pn.ones y.s).c.length);rw [List.setIfInBounds_toArray,List.setIfInBounds_toArray] at hU;have kE:=(k6.set (p:=⟨w4.heap.size,L*2,none⟩) (by have:=Gj.out.size;simp;omega) (sQ (some ⟨g,0,none⟩) (Pn.ones y.s).s.length (Pn.ones y.s).s.length)).set (p:=⟨w4.heap.size,L*2+1,none⟩) (by have:=Gj.out.size;simp;omega) (sQ (some ⟨hh,0,none⟩) (Pn.ones y.s).c.length (Pn.ones y.s).c.length);have Ki:=(kM.set (p:=⟨w4.heap.size,L*2,none⟩) (lrZ _) (sQ (some ⟨g,0,none⟩) (Pn.ones y.s).s.length (Pn.ones y.s).s.length)).set (p:=⟨w4.heap.size,L*2+1,none⟩) (lrZ _) (sQ (some ⟨hh,0,none⟩) (Pn.ones y.s).c.length (Pn.ones y.s).c.length);obtain ⟨bc,oc2,rfl,-,yc⟩:=(KM.out).cell (k:=0) oZ;rw [Zx] at yc;rw [show (⟨y.s,Zc (Safe.prod y.s).toNat 4294967296⟩:Ten)=Pn.ones y.s from rfl];generalize hsl7:((Zc ((n.nodes.length+1)*2) (Zb1 none 0 0)).set (L*2) (sQ (some ⟨g,0,none⟩) (Pn.ones y.s).s.length (Pn.ones y.s).s.length)).set (L*2+1) (sQ (some ⟨hh,0,none⟩) (Pn.ones y.s).c.length (Pn.ones y.s).c.length)=vs7 at Hs hU
 clear p0 Gf kW Kt k6 kM ho gX hsl7;obtain ⟨Hw,gv,Hh,kv,KP⟩:=zd5 hU Hs kE Ki yc;clear hU Hs kE Ki yc;generalize (Pn.ones y.s).s.length=os at *;generalize (Pn.ones y.s).c.length=oc3 at *;go_upto_region 14 with fail;clear e0 e1 f0 f1 g1;generalize (w6.setCell ⟨w4.heap.size,L*2,none⟩ (sQ (some ⟨g,0,none⟩) os os)).setCell ⟨w4.heap.size,L*2+1,none⟩ (sQ (some ⟨hh,0,none⟩) oc3 oc3)=w7 at *;have v0:=Hh.out.cell kX.out;have v1:=Hh.out.cell me.out;have y0:=Hh.out.cell KP.out;have g1:(L:Int)<(n.nodes.length:Int)+1:=by omega
 go_cut [13] (RunCut w7 (Ly.at_ y.c 0) ps.length)
 case first=>
  obtain ⟨i0,hi,gw,gi,gH⟩:=info_parts qbe;have gl1:G<w7.heap.size:=Zj1 _ _ v1;have gl2:bc<w7.heap.size:=Zj1 _ _ y0;have mH:=Hh.out.size;have mz:=kx.out.size;have hi:=zI hi;have u1:0<y.c.length:=by omega
  have KF:=zI (show ∀Xw,Later w7 Xw->Xw.cell? ⟨G,L*2+1,none⟩=some (sQ (some ⟨bc,oc2,none⟩) y.c.length c1c)/\Xw.cell? ⟨bc,oc2,none⟩=some (nQ iQ (Ly.at_ y.c 0)) from λXw h=>⟨h.cell v1,h.cell y0⟩);refine Zm1 ?_;refine Zl1 (S:=λXw=>Xw.cell? ⟨G,L*2+1,none⟩=some (sQ (some ⟨bc,oc2,none⟩) y.c.length c1c)/\Xw.cell? ⟨bc,oc2,none⟩=some (nQ iQ (Ly.at_ y.c 0))) krZ (KF.out _ Lau) (λhHeld=>?_);refine tk 0 ?_;refine tk 1 ?_;refine tk 2 ?_;refine tk 3 ?_;refine tk 4 ?_;refine tk 5 ?_;refine tk 6 ?_;refine tk 7 ?_;refine tk 8 ?_;refine Zo1 (rs:=[9,11]) krZ sZ ?_;refine Zf1 (o:=_) rfl (λK hK=>?_) (Zf1 (o:=_) rfl (λK hK=>?_) (Zg1))
  ·refine qaJ (by rfl) _ _ 27 (by rfl) w.heap.size 30 i0 (.agg #[sQ none 0 0,sQ none 0 0]) 2 Tryz.underlying27 hi.out gw gi iQ iQ ps.length (by rfl) (by rfl) (by rw [gH];omega) (by unfold maxLen;omega) (by have:=Hh.out.size;first|omega|(simp;omega)) ?_
   intro w8 hown hgrow;have KS:=(Ze1 _ _).grown hgrow (lrZ _) sZ;have gY:=qcy hown;rw [show (madeCells (Value.agg #[Zb1 none 0 0,Zb1 none 0 0]).cells (ps.length*2)).toList=Zc (ps.length*2) (Zb1 none 0 0) from qbf _] at gY;refine hK.out _ _ (KF.out _ Lau) (λhHeld=>?_);clear hK K
   try simp only [ga,gs,gz,Act.put,sa,sz,ss]
   refine tk 10 ?_;refine rd 11 λK hK=>?_
   simp only [ga,gs,gz]
   go_simp
   refine hK.out _ _ (KF.out _ Lau) (λhHeld=>?_);clear hK K
   try simp only [ga,gs,gz,Act.put,sa,sz,ss]
   refine rd 12 λK hK=>?_
   simp only [ga,gs,gz]
   go_simp
   refine hK.out _ _ ?_ (λhHeld=>?_)
   ·(try dsimp only);(refine ⟨?_,?_⟩<;>(repeat (refine qa0 ?_ (by first|omega|(simp;done)|(simp;omega))))<;>(refine Later.cell (Lau:Later w7 _) ?_)<;>assumption)
   clear hK K
   try simp only [ga,gs,gz,Act.put,sa,sz,ss]
   clear KF;refine Zn1 krZ ?_ _;refine Zd1 ?_;have Gb:Later w7 w8:=(Lau:Later w7 w8)
   go_wp2_with fail
   go_meet
   exact ⟨w8.heap.size,_,rfl,Gb.size,lrZ _,Blk.new w8 _ _,gY.alloc _,Gb.alloc _⟩
  ·simp only [ga,gs,gz]
   go_simp
   refine hK.out _ _ (KF.out _ Lau) (λhHeld=>?_);clear hK K
   try simp only [ga,gs,gz,Act.put,sa,sz,ss]
   refine rd 9 λK hK=>?_
   refine qaJ (by rfl) _ _ 27 (by rfl) w.heap.size 30 i0 (.agg #[sQ none 0 0,sQ none 0 0]) 2 Tryz.underlying27 hi.out gw gi iQ iQ ps.length (by rfl) (by rfl) (by rw [gH];omega) (by unfold maxLen;omega) (by have:=Hh.out.size;first|omega|(simp;omega)) ?_;intro w8 hown hgrow;have KS:=(Ze1 _ _).grown hgrow (lrZ _) sZ;have gY:=qcy hown;rw [show (madeCells (Value.agg #[Zb1 none 0 0,Zb1 none 0 0]).cells (ps.length*2)).toList=Zc (ps.length*2) (Zb1 none 0 0) from qbf _] at gY;have hs:=Blk.grown ((Blk.new w7 44 #[nQ iQ 0,sQ none 0 0,sQ none 0 0,sQ none 0 0]).drew) hgrow sZ;have k0:=hs.cell 0;have k1:=hs.cell 1;have k2:=hs.cell 2;have k3:=hs.cell 3;have kf0:=hs.frozen 0;have kf1:=hs.frozen 1;have kf2:=hs.frozen 2;have kf3:=hs.frozen 3;simp at k0 k1 k2 k3;have Go:=zI hs;clear hs;refine hK.out _ _ (KF.out _ Lau) (λhHeld=>?_);clear hK K
   try simp only [ga,gs,gz,Act.put,sa,sz,ss]
   refine tk 10 ?_;refine rd 12 λK hK=>?_
   simp only [ga,gs,gz]
   go_simp
   refine hK.out _ _ ?_ (λhHeld=>?_)
   ·(try dsimp only);(refine ⟨?_,?_⟩<;>(repeat (refine qa0 ?_ (by first|omega|(simp;done)|(simp;omega))))<;>(refine Later.cell (Lau:Later w7 _) ?_)<;>assumption)
   clear hK K
   try simp only [ga,gs,gz,Act.put,sa,sz,ss]
   clear KF;refine Zn1 krZ ?_ _;refine Zd1 ?_;have Gb:Later w7 w8:=(Lau:Later w7 w8)
   go_wp2_with fail
   go_meet
   have mB:Blk w8 (w7.heap.size+1) 30 (Zc (ps.length*2) (Zb1 none 0 0)).toArray:=by simpa using gY
   have ml:=(((Go.out.set_ 0 (nQ iQ (Ly.at_ y.c 0))).set_ 1 (sQ (some ⟨w7.heap.size+1,0,none⟩) ps.length ps.length)).set_ 2 (sQ none 0 0)).set_ 3 (sQ none 0 0);exact ⟨w7.heap.size,w7.heap.size+1,rfl,lrZ _,Zy _,(by simpa using ml),((((mB.far (p:=⟨w7.heap.size,0,none⟩) sZ _).far (p:=⟨w7.heap.size,1,none⟩) sZ _).far (p:=⟨w7.heap.size,2,none⟩) sZ _).far (p:=⟨w7.heap.size,3,none⟩) sZ _),(((Gb.set (p:=⟨w7.heap.size,0,none⟩) (lrZ _) _).set (p:=⟨w7.heap.size,1,none⟩) (lrZ _) _).set (p:=⟨w7.heap.size,2,none⟩) (lrZ _) _).set (p:=⟨w7.heap.size,3,none⟩) (lrZ _) _⟩
 case rest=>
  obtain ⟨rb,gp,rfl,mT,mh,Kd,Hf,hm⟩:=hcut;have K8:=Hw.out.lt;clear v0 v1 y0;have gN:=hm.blk Hw.out;have gk:=gv.out.later hm;have Ke:=kv.out.trans hm;have Kw:=Hh.out.trans hm;have q2:iQ.wrap ((n.nodes.length:Int)-1)=(n.nodes.length:Int)-1:=Zc1 _ oZ;have hn:=Pn.back_start GW.out;rw [hB.out] at hn;clear Hw gv Hh kv hB;obtain ⟨kF,gD,mn,gg,H3,ks,m6,hH⟩:=zd8 Kd Hf hm gN gk Ke Kw hn;clear Kd Hf hm gN gk Ke Kw hn;clear g1;go_wp2_with fail;clear q2;have G5:=Gv.out.lt
  go_loopw [14] (λi wx=>∃(z:Int) (k:Nat) (vs us:List Value) (gr pg:List Ten),i=nQ iQ z/\z=(k:Int)-1/\k<=n.nodes.length/\Blk wx w4.heap.size 30 vs.toArray/\RowO (w.heap.size+3) wx vs gr/\Blk wx gp 30 us.toArray/\RowO (w.heap.size+3) wx us pg/\Blk wx rb 44 #[nQ iQ (Ly.at_ y.c 0),sQ (some ⟨gp,0,none⟩) ps.length ps.length,sQ none 0 0,sQ none 0 0]/\Later w4 wx/\Pn.Back n ps vals ((Nt.sorted n.nodes).drop k) gr pg/\Pn.back n ps vals=Pn.bwd n ps vals gr pg ((Nt.sorted n.nodes).take k).reverse) (λi _=>(intOf i+1).toNat)
  case atStart=>exact ⟨_,n.nodes.length,_,_,_,_,rfl,rfl,lrZ _,gg.out,H3.out,gD.out,RowO.zeros _ _ _,kF.out,ks.out,by rw [List.drop_eq_nil_of_le (by rw [HI.out];exact lrZ _)];exact hH.out,by rw [List.take_of_length_le (by rw [HI.out];exact lrZ _)];exact Hb.out⟩
  case round=>
   obtain ⟨z,k,vs,us,gr,pg,rfl,kJ,hk,hG,gf,hS,h9,hl,hW,he,HF⟩:=hrel;clear gg H3 gD kF hH Hb ks mn;rcases Nat.eq_zero_or_pos k with mA|mo
   ·subst mA
    obtain rfl:z = -1:=by omega
    rw [List.take_zero,List.reverse_nil,Pn.bwd] at HF;rw [HF];have gT:0<gr.length:=by rw [he.len];omega
    have hE:=he.plen;obtain ⟨S3,c3,C3,d3,e1,e2,kr⟩:=gf.2 0 gT;rw [←qaj gT] at e1 e2 kr;have e0':wr.cell? ⟨w4.heap.size,0,none⟩=some (sQ S3 (Ly.got gr 0).s.length c3):=by rw [hG.cell,Zk];simpa using e1
    have e1':wr.cell? ⟨w4.heap.size,1,none⟩=some (sQ C3 (Ly.got gr 0).c.length d3):=by rw [hG.cell,Zk];simpa using e2
    have hM:=hW.blk Gv.out;have HN:=gB.out.trans hW
    have nrg:gp≠rb:=by
     rintro rfl;have:=hl.symm.trans hS;simp at this
    have n3:w.heap.size+1+1≠rb:=by omega
    have n4:gp≠w.heap.size+1+1:=by omega
    have k2:wr.cell? ⟨rb,2,none⟩=some (sQ none 0 0):=by rw [hl.cell];rfl
    have k3a:(wr.setCell ⟨rb,2,none⟩ (sQ S3 (Ly.got gr 0).s.length c3)).cell? ⟨rb,3,none⟩=some (sQ none 0 0):=by rw [(hl.set_ 2 _).cell];rfl
    have kg:=(((((h9.slot k2 sZ _).slot k3a sZ (sQ C3 (Ly.got gr 0).c.length d3)).far (p:=⟨w.heap.size+1+1,0,none⟩) sZ (nQ iQ (Ly.at_ y.c 0))).far (p:=⟨w.heap.size+1+1,1,none⟩) sZ (sQ (some ⟨gp,0,none⟩) ps.length ps.length)).far (p:=⟨w.heap.size+1+1,2,none⟩) sZ (sQ S3 (Ly.got gr 0).s.length c3)).far (p:=⟨w.heap.size+1+1,3,none⟩) sZ (sQ C3 (Ly.got gr 0).c.length d3);have kK:=(((((gf.slot k2 sZ _).slot k3a sZ (sQ C3 (Ly.got gr 0).c.length d3)).far (p:=⟨w.heap.size+1+1,0,none⟩) sZ (nQ iQ (Ly.at_ y.c 0))).far (p:=⟨w.heap.size+1+1,1,none⟩) sZ (sQ (some ⟨gp,0,none⟩) ps.length ps.length)).far (p:=⟨w.heap.size+1+1,2,none⟩) sZ (sQ S3 (Ly.got gr 0).s.length c3)).far (p:=⟨w.heap.size+1+1,3,none⟩) sZ (sQ C3 (Ly.got gr 0).c.length d3);obtain ⟨S4,c4,C4,d4,e3,e4,GX⟩:=kK.2 0 gT;rw [←qaj gT] at e3 e4 GX;have e3:=e1.symm.trans e3;have e4:=e2.symm.trans e4;injection e3 with e3
    injection e4 with e4
    injection e3 with e3 _ e5
    injection e4 with e4 _ e6
    subst e3 e4 e5 e6;have ku:=(((((hS.far (p:=⟨rb,2,none⟩) nrg (sQ S3 (Ly.got gr 0).s.length c3)).far (p:=⟨rb,3,none⟩) nrg (sQ C3 (Ly.got gr 0).c.length d3)).far (p:=⟨w.heap.size+1+1,0,none⟩) n4 (nQ iQ (Ly.at_ y.c 0))).far (p:=⟨w.heap.size+1+1,1,none⟩) n4 (sQ (some ⟨gp,0,none⟩) ps.length ps.length)).far (p:=⟨w.heap.size+1+1,2,none⟩) n4 (sQ S3 (Ly.got gr 0).s.length c3)).far (p:=⟨w.heap.size+1+1,3,none⟩) n4 (sQ C3 (Ly.got gr 0).c.length d3);have gc:=(((((hM.far (p:=⟨rb,2,none⟩) n3 (sQ S3 (Ly.got gr 0).s.length c3)).far (p:=⟨rb,3,none⟩) n3 (sQ C3 (Ly.got gr 0).c.length d3)).set_ 0 (nQ iQ (Ly.at_ y.c 0))).set_ 1 (sQ (some ⟨gp,0,none⟩) ps.length ps.length)).set_ 2 (sQ S3 (Ly.got gr 0).s.length c3)).set_ 3 (sQ C3 (Ly.got gr 0).c.length d3);have G4:w.heap.size<=rb:=by omega
    have ky:=(((((HN.set (p:=⟨rb,2,none⟩) G4 (sQ S3 (Ly.got gr 0).s.length c3)).set (p:=⟨rb,3,none⟩) G4 (sQ C3 (Ly.got gr 0).c.length d3)).set (p:=⟨w.heap.size+1+1,0,none⟩) soZ (nQ iQ (Ly.at_ y.c 0))).set (p:=⟨w.heap.size+1+1,1,none⟩) soZ (sQ (some ⟨gp,0,none⟩) ps.length ps.length)).set (p:=⟨w.heap.size+1+1,2,none⟩) soZ (sQ S3 (Ly.got gr 0).s.length c3)).set (p:=⟨w.heap.size+1+1,3,none⟩) soZ (sQ C3 (Ly.got gr 0).c.length d3);have kY:TnsO w.heap.size _ (some ⟨gp,0,none⟩) pg:=(kg.tnsO ku oZ).base (Nat.le_add_right _ 3);have kp:=GX.base (Nat.le_add_right w.heap.size 3);have k0:=hl.cell 0;have k1:=hl.cell 1;have k3:=hl.cell 3;have kf2:=hl.frozen 2;have kf3:=hl.frozen 3;have m0:=hM.cell 0;have m1:=hM.cell 1;have m2:=hM.cell 2;have m3:=hM.cell 3;have mf0:=hM.frozen 0;have mf1:=hM.frozen 1;have mf2:=hM.frozen 2;have mf3:=hM.frozen 3;simp at k0 k1 k3 m0 m1 m2 m3;have d0:=gc.cell 0;have d1:=gc.cell 1;have d2:=gc.cell 2;have d3':=gc.cell 3;simp at d0 d1 d2 d3';clear kg kK ku gc e1 e2 kr GX h9 gf hG hS hl hM hW HN he G4 k3a kJ gT hk;obtain ⟨mc,mu,mL,ht,KT⟩:=zd5 kY kp ky hE HF;clear kY kp ky hE HF;generalize hgs:(Ly.got gr 0).s.length=gzs at *;generalize hgn:(Ly.got gr 0).c.length=gzn at *;obtain ⟨km,k7⟩:=zd2 hgs hgn;clear hgs hgn;go_wp2_with fail;refine Zk1 (v:=.tuple #[.agg #[nQ iQ (Ly.at_ y.c 0),sQ (some ⟨gp,0,none⟩) ps.length ps.length,sQ S3 gzs c3,sQ C3 gzn d3],nQ iQ 0]) (by simp [results,Tryz.results9,go_sem,d0,d1,d2,d3']) rfl ?_;rw [KT.out];refine ⟨gp,S3,C3,c3,d3,?_,mc.out,?_,mL.out⟩
    ·show _=Ending.returned (.tuple #[.agg #[_,.slice _ pg.length pg.length,.slice _ (Ly.got gr 0).s.length _,.slice _ (Ly.got gr 0).c.length _],_])
     rw [ht.out,km.out,k7.out]
    ·show TenO _ _ (.agg #[.slice _ (Ly.got gr 0).s.length _,.slice _ (Ly.got gr 0).c.length _]) _
     rw [km.out,k7.out];exact mu.out
   ·obtain ⟨m,rfl⟩:∃m,k=m+1:=⟨k-1,by omega⟩
    obtain rfl:z=(m:Int):=by omega
    clear kJ mo;have HM:m<(Nt.sorted n.nodes).length:=by rw [HI.out];omega
    have GK:=KQ.out.trans hW;have HN:=gB.out.trans hW;obtain ⟨bo,oo,rfl,-,HH⟩:=(HO.out.below GK (lrZ _)) m HM;have Ha:1<=(Nt.sorted n.nodes)[m]/\(Nt.sorted n.nodes)[m]<=n.nodes.length:=Kn.order_rng (Nt.insF n.nodes) n.nodes.length _ (gmZ HM);have k5:(Nt.sorted n.nodes).getD m 0=(Nt.sorted n.nodes)[m]:=by rw [gdZ,geZ HM];rfl
    rw [k5] at HH;have kO:Nt.sorted n.nodes=(Nt.sorted n.nodes).take m++(Nt.sorted n.nodes)[m]::(Nt.sorted n.nodes).drop (m+1):=by rw [←Zd HM,Zn]
    obtain ⟨r0,rx,rpp,-,-,rb2,rpl,rcnt,rpart,rright⟩:=Pn.back_next GW.out kO he;rw [←Zd HM] at rb2
    have hA:Pn.back n ps vals=Pn.bwd n ps vals (Pn.addN gr (Nt.node n.nodes (Nt.sorted n.nodes)[m]).ins (Pn.bk n ps vals gr (Nt.sorted n.nodes)[m]).1.x (Nt.node n.nodes (Nt.sorted n.nodes)[m]).ins.length) (splice pg (Pn.fr n (Nt.sorted n.nodes)[m]) (Pn.bk n ps vals gr (Nt.sorted n.nodes)[m]).1.p) ((Nt.sorted n.nodes).take m).reverse:=by
     rw [HF,Zb HM,List.reverse_append,List.reverse_singleton,List.singleton_append,Pn.bwd]
    have hc:=Pn.part_at GW.out.pm Ha.1 Ha.2;have G1:=he.len;have hE:=he.plen;clear kO k5 HF;obtain ⟨j,hj⟩:∃j:Nat,(Nt.sorted n.nodes)[m]=(j:Int)+1:=⟨((Nt.sorted n.nodes)[m]-1).toNat,by omega⟩
    rw [hj] at Ha HH r0 rx rpp rb2 rpl rcnt rpart rright hA hc;have HT:j<n.nodes.length:=by omega
    clear hj;obtain ⟨b,off,S,sc,J,ic,Q,qc,rfl,Gy,m8,m7,mb⟩:=HR.out.2.at_ HT;have gt:=Nt.node_at HT;have gG:=H4.out.2.2 _ (gmZ HT);have KW:=zI (Gu.out _ (gmZ HT));have gS:=(G9.out _ (gmZ HT)).2;have kI:Pn.fr n ((j:Int)+1)=Pn.from_ n.nodes j:=by unfold Pn.fr;rw [show ((j:Int)+1).toNat-1=j by omega]
    have kc:Pn.part n ((j:Int)+1)=((Pn.from_ n.nodes j:Int),(Pn.from_ n.nodes (j+1):Int)):=by
     unfold Pn.part;rw [inZ oZ,show ((j:Int)+1).toNat=j+1 by omega]
     rfl
    have H7:Pn.bk n ps vals gr ((j:Int)+1)=Ly.back n.nodes[j].op ((ps.drop (Pn.from_ n.nodes j)).take n.nodes[j].p.length) (Pn.pickT vals n.nodes[j].ins) (Ly.got gr (j+1)):=by
     unfold Pn.bk Pn.parts;rw [gt,show ((j:Int)+1).toNat-1=j by omega,show ((j:Int)+1).toNat=j+1 by omega]
    have gL:Pn.parts n ps ((j:Int)+1)=(ps.drop (Pn.from_ n.nodes j)).take n.nodes[j].p.length:=by
     unfold Pn.parts;rw [gt,show ((j:Int)+1).toNat-1=j by omega]
    have kn:=Pn.from_succ HT;rw [kn] at kc;rw [gL,gt] at rpl rcnt;rw [gt] at rx rpp rb2 rpart rright hA hc;rw [kI] at rb2 hA hc;clear gL gt kI kn;generalize Pn.bk n ps vals gr ((j:Int)+1)=R at *;generalize n.nodes[j]=v at *;generalize Pn.from_ n.nodes j=fr at *;have mg:=Gy.below HN;obtain ⟨⟨y0,y1,y2,y3,y4,y5,y6,y7,y8,y9⟩,Kq,Ky,kq⟩:=mg;have a0:=(hW.blk Gn.out).cell 0;have a1:=(hW.blk Gn.out).cell 1;simp at a0 a1;have g1:(m:Int)<(n.nodes.length:Int):=by omega
    have g2:(j:Int)<(n.nodes.length:Int):=by omega
    have g3:iQ.wrap ((j:Int)+1-1)=(j:Int):=by rw [show (j:Int)+1-1=(j:Int) by omega];exact Zc1 _ oZ
    have g4:(j:Int)+1-1=(j:Int):=by omega
    have g5:iQ.wrap (j:Int)=(j:Int):=Zc1 _ oZ;have H2:=(Later.refl wr).alloc (.cells #[nQ iQ v.op.kind,nQ iQ v.op.k,nQ iQ v.op.width,nQ iQ v.op.step,nQ iQ v.op.side,nQ iQ v.op.frm,nQ iQ v.op.to,sQ S v.op.s.length sc,sQ J v.ins.length ic,sQ Q v.p.length qc] 59);have hs:=Blk.new wr 59 #[nQ iQ v.op.kind,nQ iQ v.op.k,nQ iQ v.op.width,nQ iQ v.op.step,nQ iQ v.op.side,nQ iQ v.op.frm,nQ iQ v.op.to,sQ S v.op.s.length sc,sQ J v.ins.length ic,sQ Q v.p.length qc];obtain ⟨HG,k4,HU,HQ,HK,mG,Ma,mZ,m9⟩:=zd9 hG gf hS h9 hl hW he GK HN;obtain ⟨GF,mk,Hl,G0,GZ,H5,Hq,hZ,Gt⟩:=zd9 r0 rx rpp rb2 rpl rcnt rpart rright hA;obtain ⟨hx,kU,ht,mJ,G3,gQ,md,G6,mw⟩:=zd9 hc G1 hE Gy gG gS kc H7 Kq;obtain ⟨my,mR,Go,gd⟩:=zd4 Ky kq hs H2;clear hG gf hS h9 hl hW he GK HN r0 rx rpp rb2 rpl rcnt rpart rright hA hc G1 hE Gy gG gS kc H7 Kq Ky kq hs H2;clear Ha;go_upto_region 20 with fail;generalize hwb:wr.alloc (.cells #[nQ iQ v.op.kind,nQ iQ v.op.k,nQ iQ v.op.width,nQ iQ v.op.step,nQ iQ v.op.side,nQ iQ v.op.frm,nQ iQ v.op.to,sQ S v.op.s.length sc,sQ J v.ins.length ic,sQ Q v.p.length qc] 59)=wb at *;have HZ:=mG.out.trans gd.out;have a0b:=(HZ.blk Gn.out).cell 0;have a1b:=(HZ.blk Gn.out).cell 1;simp at a0b a1b;have kl:=HR.out.below (gB.out.trans HZ) (lrZ _);clear hwb a0 a1 y0 y1 y2 y3 y4 y5 y6 y7 y8 y9 g1 g3 g4 g5 HH;obtain ⟨Ko,mD⟩:=zd2 kl HZ;clear kl HZ;go_wp2_with fail;refine (qd5 A (some ⟨b,off,none⟩) c d n ((j:Int)+1) wb H4.out Ko.out hd oZ oZ).mono ?_;rintro e wp ⟨rfl,kz⟩;rw [md.out];have gV:Later wb wp:=kz;have h5:=gd.out.trans gV;have Gl:=mD.out.trans gV;have Gi:=gB.out.trans Gl;have mf:=Gj.out.trans Gl;have ha:=gV.blk Go.out;have Hf:=h5.blk HG.out;have G8:=k4.out.later h5
    have Hx:=h5.blk HU.out;have HV:=HQ.out.later h5;have Hr:=h5.blk HK.out;have mx:=K0.out.later mf;have HB:=GB.out
    have gF:∀i∈v.ins,0<=i/\i<vals.length:=λi hi=>by
     have:=gQ.out i hi;rw [HB];omega
    obtain ⟨vo1,vo2,vo3,vo4,-,-⟩:=G3.out;have hv:=λ(W:Zp1) (h:Later wp W)=>qd6 (some ⟨G,0,none⟩) J (n.nodes.length+1) ic vals v.ins W (mx.later h) oZ (my.out.below (h5.trans h) (lrZ _)) vo3 gF
    rw [HB] at hv;have Gg:(Pn.pickT vals v.ins).length=v.ins.length:=by simp [Pn.pickT]
    have Gs:j+1<gr.length:=by rw [kU.out];omega
    obtain ⟨Sg,sgc,Cg,cgd,e1,e2,ke⟩:=G8.2 (j+1) Gs;rw [←qaj Gs] at e1 e2 ke;have z0:wp.cell? ⟨w4.heap.size,(j+1)*2,none⟩=some (sQ Sg (Ly.got gr (j+1)).s.length sgc):=by rw [Hf.cell,Zk];exact e1
    have z1:wp.cell? ⟨w4.heap.size,(j+1)*2+1,none⟩=some (sQ Cg (Ly.got gr (j+1)).c.length cgd):=by rw [Hf.cell,Zk];exact e2
    have he:=λ(W:Zp1) (h:Later wp W) (PP KK:Option Addr) (pc:Nat) (hPP:Tns W PP ((ps.drop fr).take v.p.length)) (hK:Tns W KK (Pn.pickT vals v.ins))=>op_back v.op KW.out S PP KK Sg Cg sc pc (Pn.pickT vals v.ins).length sgc cgd ((ps.drop fr).take v.p.length) (Pn.pickT vals v.ins) (Ly.got gr (j+1)) W vo2 (mw.out.below (h5.trans h) (lrZ _)) (vo1 _ sZ) hPP hK (by rw [Gg];exact vo3) (lrZ _) (by rw [Gg];omega) (ke.later h).ten H5.out
    rw [←G6.out,GZ.out] at he;clear e1 e2 ke;generalize (Ly.got gr (j+1)).s.length=gzs at *;generalize (Ly.got gr (j+1)).c.length=gzn at *;have x0:=ha.cell 0;have x1:=ha.cell 1;have x2:=ha.cell 2;have x3:=ha.cell 3;have x4:=ha.cell 4;have x5:=ha.cell 5;have x6:=ha.cell 6;have x7:=ha.cell 7;have x8:=ha.cell 8;simp at x0 x1 x2 x3 x4 x5 x6 x7 x8;have mE:=Gi.size;have mK:w4.heap.size<wp.heap.size:=Hf.lt;have mQ:wr.heap.size<wp.heap.size:=ha.lt;have mp:rb<wp.heap.size:=Hr.lt;have KU:gp<wp.heap.size:=Hx.lt;obtain ⟨PP,hPP⟩:∃PP,(if cp=fr then P else P.map λa=>a.add (fr*2))=PP:=⟨_,rfl⟩
    have hc:=hx.out;have g7:0<=(j:Int)+1:=by omega
    have g6:(j:Int)+1<(n.nodes.length:Int)+1:=by omega
    have kR:∀W,Tns W P ps->Tns W PP ((ps.drop fr).take v.p.length):=λW h=>by
     have:=qd4 (fr:=fr) (tl:=fr+v.p.length) h kP KI.out oZ hc;rw [hPP,Nat.add_sub_cancel_left] at this;exact this
    have gy:∀(ρ:Operand->Value) (W:Zp1) (o:Oper) (x lo hi:Operand),o.op=.slice 27 x (some lo) (some hi) none->ρ x=sQ P ps.length cp->ρ lo=nQ iQ (fr:Int)->ρ hi=nQ iQ ((fr:Int)+(v.p.length:Int))->(execOp ρ o).run Tryz.prog W=.ok (.value (sQ PP v.p.length (cp-fr))) W:=λρ W o x lo hi h1 h2 h3 h4=>by
     rw [←hPP];exact qaT h1 Tryz.underlying27 krZ h2 h3 h4 oZ
    have gR:=λ(W:Zp1) (h:Later wp W) (V:Zp1) (Kp:Nat) (hK:Tns V (some ⟨Kp,0,none⟩) (Pn.pickT vals v.ins)) (hV:Later V W) (pc:Nat)=>he W h PP (some ⟨Kp,0,none⟩) pc (kR W (HP.out.later (Gi.trans h))) (hK.later hV)
    clear kz gF a0b a1b he hPP kR Gs HB;obtain ⟨He,gD,Kv,gO,gK,gq,mS,mF,hD⟩:=zd9 ha Hf G8 Hx HV Hr h5 Gi hv;obtain ⟨HS,HI,mO,mU,K1,hx⟩:=zd6 gR gy Gg gV Gl hc;clear ha Hf G8 Hx HV Hr h5 Gi hv gR gy Gg gV Gl hc;clear Go HG k4 HU HQ HK;go_upto_region 21 with fail
    go_cut [19,20] (BkCut wp R)
    case first=>
     go_wp2_with fail;have KF:=zI (show ∀Xw,Later wp Xw->Xw.cell? ⟨wr.heap.size,0,none⟩=some (nQ iQ v.op.kind)/\Xw.cell? ⟨wr.heap.size,1,none⟩=some (nQ iQ v.op.k)/\Xw.cell? ⟨wr.heap.size,2,none⟩=some (nQ iQ v.op.width)/\Xw.cell? ⟨wr.heap.size,3,none⟩=some (nQ iQ v.op.step)/\Xw.cell? ⟨wr.heap.size,4,none⟩=some (nQ iQ v.op.side)/\Xw.cell? ⟨wr.heap.size,5,none⟩=some (nQ iQ v.op.frm)/\Xw.cell? ⟨wr.heap.size,6,none⟩=some (nQ iQ v.op.to)/\Xw.cell? ⟨wr.heap.size,7,none⟩=some (sQ S v.op.s.length sc)/\Xw.cell? ⟨wr.heap.size,8,none⟩=some (sQ J v.ins.length ic)/\Xw.cell? ⟨w4.heap.size,(j+1)*2,none⟩=some (sQ Sg gzs sgc)/\Xw.cell? ⟨w4.heap.size,(j+1)*2+1,none⟩=some (sQ Cg gzn cgd) from λXw h=>⟨h.cell x0,h.cell x1,h.cell x2,h.cell x3,h.cell x4,h.cell x5,h.cell x6,h.cell x7,h.cell x8,h.cell z0,h.cell z1⟩);refine Zm1 ?_;refine Zl1 (S:=λXw=>Xw.cell? ⟨wr.heap.size,0,none⟩=some (nQ iQ v.op.kind)/\Xw.cell? ⟨wr.heap.size,1,none⟩=some (nQ iQ v.op.k)/\Xw.cell? ⟨wr.heap.size,2,none⟩=some (nQ iQ v.op.width)/\Xw.cell? ⟨wr.heap.size,3,none⟩=some (nQ iQ v.op.step)/\Xw.cell? ⟨wr.heap.size,4,none⟩=some (nQ iQ v.op.side)/\Xw.cell? ⟨wr.heap.size,5,none⟩=some (nQ iQ v.op.frm)/\Xw.cell? ⟨wr.heap.size,6,none⟩=some (nQ iQ v.op.to)/\Xw.cell? ⟨wr.heap.size,7,none⟩=some (sQ S v.op.s.length sc)/\Xw.cell? ⟨wr.heap.size,8,none⟩=some (sQ J v.ins.length ic)/\Xw.cell? ⟨w4.heap.size,(j+1)*2,none⟩=some (sQ Sg gzs sgc)/\Xw.cell? ⟨w4.heap.size,(j+1)*2+1,none⟩=some (sQ Cg gzn cgd)) krZ (KF.out _ Lau) (λhHeld=>?_);refine tk 0 ?_;refine tk 1 ?_;refine tk 2 ?_;refine tk 3 ?_;refine tk 4 ?_;refine tk 5 ?_ (hy:=λW _=>HI.out _ _ _ _ _ _ rfl rfl rfl rfl)
     try simp only [ga,gs,gz,Act.put,sa,sz,ss]
     refine tk 6 ?_;refine tk 7 ?_;refine tk 8 ?_;refine tk 10 ?_;refine tk 11 ?_;refine tk 12 ?_;refine tk 13 ?_;refine Zo1 (rs:=[9,18]) krZ sZ ?_;refine Zf1 (o:=_) rfl (λK hK=>?_) (Zf1 (o:=_) rfl (λK hK=>?_) (Zg1))
     ·simp only [ga,gs,gz]
      go_simp
      go_at_call 24;(with_reducible refine (hD.out _ (Lau:Later wp _)).mono ?_);rintro e wk ⟨Kp,rfl,-,H6,he⟩
      have g9:=zI H6;clear H6;have gI:Later wp wk:=(Lau:Later wp wk)
      have Gm:=zI gI;clear gI
      try go_wp2_with fail
      refine hK.out _ _ (KF.out _ Lau) (λhHeld=>?_);clear hK K
      try simp only [ga,gs,gz,Act.put,sa,sz,ss]
      refine Zo1 (rs:=[14,18]) krZ sZ ?_;refine Zf1 (o:=_) rfl (λK hK=>?_) (Zf1 (o:=_) rfl (λK hK=>?_) (Zg1))
      ·simp only [ga,gs,gz]
       go_simp
       go_at_call 23;(with_reducible refine (HS.out _ (Lau:Later wp _) wk Kp g9.out (Lau:Later wk _) _).mono ?_);rintro e wg ⟨⟨hb,-⟩|⟨-,PA,XA,rfl,hw,hF⟩,Hp⟩
       exact absurd GF.out hb;obtain ⟨hJ,hN⟩:=zd2 hF hw;clear hF hw;have Gq:=Gm.out.size
       try go_wp2_with fail
       refine hK.out _ _ (KF.out _ Lau) (λhHeld=>?_);clear hK K
       try simp only [ga,gs,gz,Act.put,sa,sz,ss]
       refine tk 15 ?_;refine tk 16 ?_;refine tk 17 ?_;refine rd 18 λK hK=>?_
       simp only [ga,gs,gz]
       go_simp
       refine hK.out _ _ (KF.out _ Lau) (λhHeld=>?_);clear hK K
       try simp only [ga,gs,gz,Act.put,sa,sz,ss]
       refine rd 19 λK hK=>?_
       simp only [ga,gs,gz]
       go_simp
       refine hK.out _ _ ?_ (λhHeld=>?_)
       ·(try dsimp only);(refine ⟨?_,?_,?_,?_,?_,?_,?_,?_,?_,?_,?_⟩<;>(repeat (refine qa0 ?_ (by first|omega|(simp;done)|(simp;omega))))<;>(refine Later.cell (Lau:Later wp _) ?_)<;>assumption)
       clear hK K
       try simp only [ga,gs,gz,Act.put,sa,sz,ss]
       refine tk 20 ?_;clear KF;refine Zn1 krZ ?_ _;refine Zd1 ?_;have GL:=Hp.size;go_wp2_with fail;have hC:Later wp wg:=(Lau:Later wp wg)
       go_meet
       exact ⟨PA,XA,wg.heap.size,rfl,rfl,Blk.new wg _ _,(hN.out.base (by first|omega|(simp;omega))).later ((Later.refl wg).alloc _),(hJ.out.base (by first|omega|(simp;omega))).later ((Later.refl wg).alloc _),(by first|omega|(simp at GL;omega)),hC.alloc _⟩
      ·simp only [ga,gs,gz]
       go_simp
       refine hK.out _ _ (KF.out _ Lau) (λhHeld=>?_);clear hK K
       try simp only [ga,gs,gz,Act.put,sa,sz,ss]
       refine rd 14 λK hK=>?_
       simp only [ga,gs,gz]
       go_simp
       go_at_call 23;(with_reducible refine (HS.out _ (Lau:Later wp _) wk Kp g9.out (Lau:Later wk _) _).mono ?_);rintro e wg ⟨⟨hb,-⟩|⟨-,PA,XA,rfl,hw,hF⟩,Hp⟩
       exact absurd GF.out hb;obtain ⟨hJ,hN⟩:=zd2 hF hw;clear hF hw;have Gq:=Gm.out.size;have hu:=(show Later (wk.alloc (.cells #[sQ none 0 0,sQ none 0 0] 81)) wg from Hp).blk (Blk.new wk _ _);have b0':=hu.cell 0;have b1':=hu.cell 1;have bf0:=hu.frozen 0;have bf1:=hu.frozen 1;simp at b0' b1';have Hu:=zI hu;clear hu
       try go_wp2_with fail
       refine hK.out _ _ (KF.out _ Lau) (λhHeld=>?_);clear hK K
       try simp only [ga,gs,gz,Act.put,sa,sz,ss]
       refine tk 15 ?_;refine tk 16 ?_;refine tk 17 ?_;refine rd 19 λK hK=>?_
       simp only [ga,gs,gz]
       go_simp
       refine hK.out _ _ ?_ (λhHeld=>?_)
       ·(try dsimp only);(refine ⟨?_,?_,?_,?_,?_,?_,?_,?_,?_,?_,?_⟩<;>(repeat (refine qa0 ?_ (by first|omega|(simp;done)|(simp;omega))))<;>(refine Later.cell (Lau:Later wp _) ?_)<;>assumption)
       clear hK K
       try simp only [ga,gs,gz,Act.put,sa,sz,ss]
       refine tk 20 ?_;clear KF;refine Zn1 krZ ?_ _;refine Zd1 ?_;have HA:=he.size
       (try simp at HA)
       go_wp2_with fail;have hC:Later wp wg:=(Lau:Later wp wg)
       have kd:=(Hu.out.set_ 0 (sQ PA R.1.p.length R.1.p.length)).set_ 1 (sQ XA R.1.x.length R.1.x.length)
       go_meet
       exact ⟨PA,XA,wk.heap.size,rfl,rfl,(by simpa using kd),(hN.out.base (by first|omega|(simp;omega))).box Hu.out (λa e=>by obtain ⟨b',h1,h2,-,-⟩:=hN.out.1 a e;rw [h1];show b'≠_;(first|omega|((try simp at h2);omega))) _ _,(hJ.out.base (by first|omega|(simp;omega))).box Hu.out (λa e=>by obtain ⟨b',h1,h2,-,-⟩:=hJ.out.1 a e;rw [h1];show b'≠_;(first|omega|((try simp at h2);omega))) _ _,(by first|omega|exact Gq|exact lrZ _),(hC.set (p:=⟨wk.heap.size,0,none⟩) (by first|omega|(simp;done)|(simp;omega)) _).set (p:=⟨wk.heap.size,1,none⟩) (by first|omega|(simp;done)|(simp;omega)) _⟩
     ·simp only [ga,gs,gz]
      go_simp
      refine hK.out _ _ (KF.out _ Lau) (λhHeld=>?_);clear hK K
      try simp only [ga,gs,gz,Act.put,sa,sz,ss]
      refine rd 9 λK hK=>?_
      simp only [ga,gs,gz]
      go_simp
      go_at_call 24;(with_reducible refine (hD.out _ (Lau:Later wp _)).mono ?_);rintro e wk ⟨Kp,rfl,-,H6,he⟩
      have g9:=zI H6;clear H6;have gI:Later wp wk:=(Lau:Later wp wk)
      have Gm:=zI gI;clear gI
      try go_wp2_with fail
      refine hK.out _ _ (KF.out _ Lau) (λhHeld=>?_);clear hK K
      try simp only [ga,gs,gz,Act.put,sa,sz,ss]
      refine rd 14 λK hK=>?_
      simp only [ga,gs,gz]
      go_simp
      go_at_call 23;(with_reducible refine (HS.out _ (Lau:Later wp _) wk Kp g9.out (Lau:Later wk _) _).mono ?_);rintro e wg ⟨⟨hb,-⟩|⟨-,PA,XA,rfl,hw,hF⟩,Hp⟩
      exact absurd GF.out hb;obtain ⟨hJ,hN⟩:=zd2 hF hw;clear hF hw;have Gq:=Gm.out.size;have hu:=(show Later wk wg from Hp).blk ((show Later _ wk from he).blk ((Blk.new wp 81 #[sQ none 0 0,sQ none 0 0]).drew));have b0':=hu.cell 0;have b1':=hu.cell 1;have bf0:=hu.frozen 0;have bf1:=hu.frozen 1;simp at b0' b1';have Hu:=zI hu;clear hu
      try go_wp2_with fail
      refine hK.out _ _ (KF.out _ Lau) (λhHeld=>?_);clear hK K
      try simp only [ga,gs,gz,Act.put,sa,sz,ss]
      refine tk 15 ?_;refine tk 16 ?_;refine tk 17 ?_;refine rd 19 λK hK=>?_
      simp only [ga,gs,gz]
      go_simp
      refine hK.out _ _ ?_ (λhHeld=>?_)
      ·(try dsimp only);(refine ⟨?_,?_,?_,?_,?_,?_,?_,?_,?_,?_,?_⟩<;>(repeat (refine qa0 ?_ (by first|omega|(simp;done)|(simp;omega))))<;>(refine Later.cell (Lau:Later wp _) ?_)<;>assumption)
      clear hK K
      try simp only [ga,gs,gz,Act.put,sa,sz,ss]
      refine tk 20 ?_;clear KF;refine Zn1 krZ ?_ _;refine Zd1 ?_;have HA:=he.size
      (try simp at HA)
      go_wp2_with fail;have hC:Later wp wg:=(Lau:Later wp wg)
      have kd:=(Hu.out.set_ 0 (sQ PA R.1.p.length R.1.p.length)).set_ 1 (sQ XA R.1.x.length R.1.x.length)
      go_meet
      exact ⟨PA,XA,wp.heap.size,rfl,rfl,(by simpa using kd),(hN.out.base (by first|omega|(simp;omega))).box Hu.out (λa e=>by obtain ⟨b',h1,h2,-,-⟩:=hN.out.1 a e;rw [h1];show b'≠_;(first|omega|((try simp at h2);omega))) _ _,(hJ.out.base (by first|omega|(simp;omega))).box Hu.out (λa e=>by obtain ⟨b',h1,h2,-,-⟩:=hJ.out.1 a e;rw [h1];show b'≠_;(first|omega|((try simp at h2);omega))) _ _,(by first|omega|exact Gq|exact lrZ _),(hC.set (p:=⟨wp.heap.size,0,none⟩) (by first|omega|(simp;done)|(simp;omega)) _).set (p:=⟨wp.heap.size,1,none⟩) (by first|omega|(simp;done)|(simp;omega)) _⟩
    case rest=>
     obtain ⟨PA,XA,tb,rfl,rfl,Gw,hw,hF,Mb,hm⟩:=hcut;have KB:=hm.blk gD.out;have KG:=Kv.out.later hm;have h0:=hm.blk gO.out;have gx:=gK.out.later hm;have h8:=hm.blk gq.out;have kL:=K1.out.trans hm;have KD:=mF.out.trans hm;have hr:=hm.blk He.out;clear x0 x1 x2 x3 x4 x5 x6 x7 x8 z0 z1 g6 g7;have t0:=Gw.cell 0;have r1:=h8.cell 1;simp at t0 r1;obtain ⟨i0,Kb,-,Ka,-⟩:=info_parts qbe
     have nrg:rb≠gp:=by
      rintro rfl;have:=h8.symm.trans h0;simp at this
     have ntg:tb≠gp:=by omega
     have ngg:w4.heap.size≠gp:=by omega
     have nbg:wr.heap.size≠gp:=by
      rintro hh;rw [hh] at hr;have:=hr.symm.trans h0;simp at this
     obtain ⟨PQ,hPQ⟩:∃PQ,(if ps.length=fr then some ⟨gp,0,none⟩ else (some (⟨gp,0,none⟩:Addr)).map λa=>a.add (fr*2))=PQ:=⟨_,rfl⟩
     have go:∀(ρ:Operand->Value) (W:Zp1) (o:Oper) (x lo hi:Operand),o.op=.slice 27 x (some lo) (some hi) none->ρ x=sQ (some ⟨gp,0,none⟩) ps.length ps.length->ρ lo=nQ iQ (fr:Int)->ρ hi=nQ iQ ((fr:Int)+(v.p.length:Int))->(execOp ρ o).run Tryz.prog W=.ok (.value (sQ PQ v.p.length (ps.length-fr))) W:=λρ W o x lo hi h1 h2 h3 h4=>by
      rw [←hPQ];exact qaT h1 Tryz.underlying27 krZ h2 h3 h4 hx.out
     clear g2;obtain ⟨Ks,kD,Hj,Hn,Hk,kt,mM,Hg,GE⟩:=zd9 KB KG h0 gx h8 kL KD hr Gw;obtain ⟨hN,hJ,gE,KO,Kz,KY⟩:=zd6 hw hF go Kb Ka hPQ;clear KB KG h0 gx h8 kL KD hr Gw hw hF go Kb Ka hPQ;clear gD Kv gO gK gq He hD HS HI Ko;go_upto_region 24 with fail;have KF:=zI (show ∀Xw,Later wc Xw->Xw.cell? ⟨rb,1,none⟩=some (sQ (some ⟨gp,0,none⟩) ps.length ps.length)/\Xw.cell? ⟨tb,0,none⟩=some (sQ PA R.1.p.length R.1.p.length) from λXw h=>⟨h.cell r1,h.cell t0⟩);refine Zm1 ?_;refine Zl1 (S:=λXw=>Xw.cell? ⟨rb,1,none⟩=some (sQ (some ⟨gp,0,none⟩) ps.length ps.length)/\Xw.cell? ⟨tb,0,none⟩=some (sQ PA R.1.p.length R.1.p.length)) krZ (KF.out _ Lau) (λhHeld=>?_);refine tk 0 ?_;refine tk 1 ?_;refine tk 2 ?_;refine tk 3 ?_;refine tk 4 ?_ (hy:=λW _=>gE.out _ _ _ _ _ _ rfl rfl rfl rfl)
     try simp only [ga,gs,gz,Act.put,sa,sz,ss]
     refine tk 5 ?_;refine tk 6 ?_;refine rd 7 λK hK=>?_
     refine qcT (by rfl) _ _ 27 (by rfl) 30 i0 Tryz.underlying27 KO.out Kz.out (w.heap.size+3) gp fr ps.length v.p.length _ PA _ pg R.1.p (by rw [KY.out];rfl) (by rfl) us _ Hj.out (Hn.out.later (Later.refl wc).drew) ((hN.out.later (Later.refl wc).drew).base oZ) ht.out Hl.out (by rw [Hl.out,ht.out];exact hx.out) ?_;intro wd us2 Gh gZ hY;have hQ:Else gp wc wd:=⟨hY.1,hY.2.1,(Ze1 gp wc).drew.trans hY.2.2⟩
     clear hY;have r1:=(hQ.blk nrg Hk.out).cell 1;have t0:=(hQ.blk ntg GE.out).cell 0;simp at r1 t0;refine hK.out _ _ (by first|exact ⟨r1,t0⟩|exact KF.out _ Lau) (λhHeld=>?_);clear hK K
     try simp only [ga,gs,gz,Act.put,sa,sz,ss]
     clear KF;refine Zn1 krZ ?_ _;refine Zd1 ?_;have Gx:=Hn.out.noint Hj.out;have KL:=kD.out.else_ hQ Gx (λj=>Gh.frozen j);have kQ:=hJ.out.else_ hQ Gx (λj=>Gh.frozen j) oZ;have ge:=hQ.blk ngg Ks.out;have KN:=hQ.blk nrg Hk.out;have kj:=hQ.blk ntg GE.out;have kN:=hQ.later kt.out oZ;have x8:=(hQ.blk nbg Hg.out).cell 8;simp at x8;have kh:(splice pg fr R.1.p).length=ps.length:=by rw [Pn.splice_len (by rw [Hl.out,ht.out];exact hx.out)];exact ht.out
     clear hHeld r1 t0 Gx hQ;obtain ⟨Km,KJ,gC,ko,kS,Kf,kZ,HY,mV⟩:=zd9 KL kQ ge KN kj kN Gh gZ kh;clear KL kQ ge KN kj kN Gh gZ kh;clear Ks kD Hj Hn Hk kt Hg GE hN hJ gE KO Kz mM;generalize splice pg fr R.1.p=pg2 at *;go_wp2_with fail;clear x8;obtain ⟨wo,rfl⟩:∃wo:Zp1,wo=wr:=⟨wr,rfl⟩
     go_loopw [138] (λi wx=>∃(q:Nat) (vq:List Value),q<=v.ins.length/\i=nQ iQ (q:Int)/\Blk wx w4.heap.size 30 vq.toArray/\RowO (w.heap.size+3) wx vq (Pn.addN gr v.ins R.1.x q)/\Blk wx gp 30 us2.toArray/\RowO (w.heap.size+3) wx us2 pg2/\Blk wx rb 44 #[nQ iQ (Ly.at_ y.c 0),sQ (some ⟨gp,0,none⟩) ps.length ps.length,sQ none 0 0,sQ none 0 0]/\Blk wx tb 81 #[sQ PA R.1.p.length R.1.p.length,sQ XA R.1.x.length R.1.x.length]/\TnsO wp.heap.size wx XA R.1.x/\Later w4 wx) (λi _=>v.ins.length-(intOf i).toNat)
     case atStart=>exact ⟨0,vs,Zt _,rfl,gC.out,Km.out,kZ.out,HY.out,ko.out,kS.out,KJ.out,Kf.out⟩
     case round=>
      obtain ⟨q,vq,hq,rfl,hG,HJ,hS,h9,hl,H1,HE,HD⟩:=hrel;clear gC Km kZ HY ko kS KJ Kf
      by_cases Ge:q<v.ins.length
      ·obtain ⟨-,-,gW,-⟩:=mJ.out.below (gB.out.trans HD)
       obtain ⟨bj,oj,rfl,-,cj⟩:=gW q Ge;have gJ:v.ins.getD q 0∈v.ins:=by rw [gdZ,geZ Ge];exact gmZ _
       have kw:=gQ.out _ gJ;obtain ⟨ei,hei⟩:∃ei:Nat,v.ins.getD q 0=(ei:Int):=⟨(v.ins.getD q 0).toNat,by omega⟩
       rw [hei] at cj kw;have Gk:q<R.1.x.length:=by rw [mk.out];exact Ge
       have Gd:ei<(Pn.addN gr v.ins R.1.x q).length:=by rw [Pn.addN_len,kU.out];omega
       obtain ⟨xb,Sx,sxc,Cx,cxd,Kc,q0,q1,GR⟩:=HE.2 q Gk;rw [←qaj Gk] at q0 q1 GR;obtain ⟨xb2,Hv,m5,-,-⟩:=HE.1 _ Kc;injection Hv with Hv
       subst Hv;obtain ⟨Sa,sac,Ca,cad,e1,e2,GI⟩:=HJ.2 ei Gd;rw [←qaj Gd] at e1 e2 GI;have c0:wr.cell? ⟨w4.heap.size,ei*2,none⟩=some (sQ Sa (Ly.got (Pn.addN gr v.ins R.1.x q) ei).s.length sac):=by rw [hG.cell,Zk];exact e1
       have c1:wr.cell? ⟨w4.heap.size,ei*2+1,none⟩=some (sQ Ca (Ly.got (Pn.addN gr v.ins R.1.x q) ei).c.length cad):=by rw [hG.cell,Zk];exact e2
       have mm:=Ly.right_ok (hZ.out q Ge)
       have mt:(Ly.got (Pn.addN gr v.ins R.1.x q) ei).s.length<=4/\(Ly.got (Pn.addN gr v.ins R.1.x q) ei).c.length<=65536:=by
        rcases Hq.out q hq ei with hh|hh
        ·rw [hh];simp [Ly.none_]
        ·exact Ly.right_ok hh.1
       have Hi:Pn.addN gr v.ins R.1.x (q+1)=(Pn.addN gr v.ins R.1.x q).set ei (Pn.add (Ly.got (Pn.addN gr v.ins R.1.x q) ei) (Ly.got R.1.x q)):=by
        rw [Pn.addN,hei,tnZ]
       have gU:=λ(W:Zp1) (h:Later wr W)=>qgB Sa Ca Sx Cx sac cad sxc cxd (Ly.got (Pn.addN gr v.ins R.1.x q) ei) (Ly.got R.1.x q) W (GI.later h).ten (GR.later h).ten oZ oZ oZ oZ
       subst Kc;have t1:=H1.cell 1;simp at t1;have e3:(ei:Int)<(n.nodes.length:Int)+1:=by omega
       have e4:(q:Int)<(R.1.x.length:Int):=by omega
       have e5:(q:Int)<(v.ins.length:Int):=by omega
       clear gW gJ kw e1 e2 GI GR mm mt hei;have H9:∀u∈vq,∃A n c,u=Zb1 A n c:=HJ.rowT.cell;generalize Pn.add (Ly.got (Pn.addN gr v.ins R.1.x q) ei) (Ly.got R.1.x q)=at2 at *;generalize (Ly.got (Pn.addN gr v.ins R.1.x q) ei).s.length=as1 at *;generalize (Ly.got (Pn.addN gr v.ins R.1.x q) ei).c.length=as2 at *;generalize (Ly.got R.1.x q).s.length=as3 at *;generalize (Ly.got R.1.x q).c.length=as4 at *;have Kk:=HD;obtain ⟨HG,GH,HU,HQ,HK,kC,kk,GP,gj⟩:=zd9 hG HJ hS h9 hl H1 HE HD Hi;obtain ⟨G7,Ho,mi,mX⟩:=zd4 gU H9 Gd Gk;clear hG HJ hS h9 hl H1 HE HD Hi gU H9 Gd Gk;go_upto_region 28 with fail;clear cj;have KF:=zI (show ∀Xw,Later wr Xw->Xw.cell? ⟨tb,1,none⟩=some (sQ (some ⟨xb,0,none⟩) R.1.x.length R.1.x.length)/\Xw.cell? ⟨xb,q*2,none⟩=some (sQ Sx as3 sxc)/\Xw.cell? ⟨xb,q*2+1,none⟩=some (sQ Cx as4 cxd) from λXw h=>⟨h.cell t1,h.cell q0,h.cell q1⟩);refine Zm1 ?_;refine Zl1 (S:=λXw=>Xw.cell? ⟨tb,1,none⟩=some (sQ (some ⟨xb,0,none⟩) R.1.x.length R.1.x.length)/\Xw.cell? ⟨xb,q*2,none⟩=some (sQ Sx as3 sxc)/\Xw.cell? ⟨xb,q*2+1,none⟩=some (sQ Cx as4 cxd)) krZ (KF.out _ Lau) (λhHeld=>?_);refine tk 0 ?_;refine tk 1 ?_;refine tk 2 ?_;refine tk 3 ?_;refine tk 4 ?_;refine tk 6 ?_;refine tk 7 ?_;refine tk 8 ?_;refine tk 9 ?_;refine tk 10 ?_;refine rd 5 λK hK=>?_
       simp only [ga,gs,gz]
       go_simp
       refine hK.out _ _ (KF.out _ Lau) (λhHeld=>?_);clear hK K
       try simp only [ga,gs,gz,Act.put,sa,sz,ss]
       refine rd 11 λK hK=>?_
       simp only [ga,gs,gz]
       go_simp
       go_at_call 25;(with_reducible refine (G7.out _ (Lau:Later wr _)).mono ?_);rintro e wg ⟨vv,rfl,⟨S3,c3,C3,d3,rfl,kA,Kh,kG⟩,Hp⟩
       have hC:Later wr wg:=(Lau:Later wr wg)
       have c0':=hC.cell c0;have c1':=hC.cell c1;have h6:=hC.blk HG.out;have bf0:=h6.frozen (ei*2);have bf1:=h6.frozen (ei*2+1);obtain ⟨h7,Hm,K9,ms,mv⟩:=zd5 h6 hC kA Kh kG;clear h6 hC kA Kh kG
       try go_wp2_with fail
       refine hK.out _ _ (KF.out _ Lau) (λhHeld=>?_);clear hK K
       try simp only [ga,gs,gz,Act.put,sa,sz,ss]
       refine tk 12 ?_;refine rd 13 λK hK=>?_
       simp only [ga,gs,gz]
       go_simp
       refine hK.out _ _ ?_ (λhHeld=>?_)
       ·(try dsimp only);(refine ⟨?_,?_,?_⟩<;>(repeat (refine qa0 ?_ (by first|omega|(simp;done)|(simp;omega))))<;>(refine Later.cell (Lau:Later wr _) ?_)<;>assumption)
       clear hK K
       try simp only [ga,gs,gz,Act.put,sa,sz,ss]
       clear KF;refine Zn1 krZ ?_ _;refine Zd1 ?_;have kT:TenO (w.heap.size+3) wg (.agg #[sQ S3 at2.s.length c3,sQ C3 at2.c.length d3]) at2:=TenO.base (B:=wr.heap.size) ⟨S3,c3,C3,d3,rfl,K9.out,ms.out,mv.out⟩ (by have:=Kk.size;omega);have gX:=(GH.out.later Hm.out).set (k:=ei) mi.out kT;have Ht:=gX.off (i:=ei*2) (k:=ei*2+1) h7.out Ho.out (sQ S3 at2.s.length c3) (sQ C3 at2.c.length d3);rw [←gj.out] at Ht;have kb:=(h7.out.set_ (ei*2) (sQ S3 at2.s.length c3)).set_ (ei*2+1) (sQ C3 at2.c.length d3);rw [List.setIfInBounds_toArray,List.setIfInBounds_toArray] at kb;have n1:gp≠w4.heap.size:=by omega
       have n2:rb≠w4.heap.size:=by omega
       have n4:tb≠w4.heap.size:=by omega
       have H8:=((Hm.out.blk HU.out).far (p:=⟨w4.heap.size,ei*2,none⟩) n1 (sQ S3 at2.s.length c3)).far (p:=⟨w4.heap.size,ei*2+1,none⟩) n1 (sQ C3 at2.c.length d3);have gl:=((Hm.out.blk HK.out).far (p:=⟨w4.heap.size,ei*2,none⟩) n2 (sQ S3 at2.s.length c3)).far (p:=⟨w4.heap.size,ei*2+1,none⟩) n2 (sQ C3 at2.c.length d3);have HW:=((Hm.out.blk kC.out).far (p:=⟨w4.heap.size,ei*2,none⟩) n4 (sQ S3 at2.s.length c3)).far (p:=⟨w4.heap.size,ei*2+1,none⟩) n4 (sQ C3 at2.c.length d3);have gP:=(HQ.out.later Hm.out).off (i:=ei*2) (k:=ei*2+1) h7.out Ho.out (sQ S3 at2.s.length c3) (sQ C3 at2.c.length d3);have H0:=(kk.out.later Hm.out).off (i:=ei*2) (k:=ei*2+1) h7.out Ho.out mK (sQ S3 at2.s.length c3) (sQ C3 at2.c.length d3);have gm:=((GP.out.trans Hm.out).set (p:=⟨w4.heap.size,ei*2,none⟩) (lrZ _) (sQ S3 at2.s.length c3)).set (p:=⟨w4.heap.size,ei*2+1,none⟩) (lrZ _) (sQ C3 at2.c.length d3);clear hHeld t1 q0 q1 c0 c1 c0' c1' bf0 bf1 Hp kT gX Kk e3;obtain ⟨GU,mN,GG,GV,GQ,GA,GD,GO⟩:=zd8 Ht kb H8 gl HW gP H0 gm;clear Ht kb H8 gl HW gP H0 gm;generalize (wg.setCell ⟨w4.heap.size,ei*2,none⟩ (sQ S3 at2.s.length c3)).setCell ⟨w4.heap.size,ei*2+1,none⟩ (sQ C3 at2.c.length d3)=wh at *;go_wp2_with fail;go_roundw
       case rel=>exact ⟨_,_,nQ iQ ((q+1:Nat):Int),⟨q+1,by omega,rfl,_,mN.out,GU.out,GG.out,GA.out,GV.out,GQ.out,GD.out,GO.out⟩,rfl,rfl,by simp⟩
       case measure=>simp [intOf];omega
      ·obtain rfl:q=v.ins.length:=by omega
       have g8:iQ.wrap ((m:Int)-1)=(m:Int)-1:=Zc1 _ oZ;obtain ⟨HG,GH,HU,HQ,HK,kC,kk,GP⟩:=zd8 hG HJ hS h9 hl H1 HE HD;clear hG HJ hS h9 hl H1 HE HD;go_wp2_with fail;go_roundw
       case rel=>exact ⟨(m:Int)-1,m,_,_,_,_,rfl,rfl,by omega,HG.out,GH.out,HU.out,HQ.out,HK.out,GP.out,G0.out,Gt.out⟩
       case measure=>simp [intOf]
def amop:OpD:=⟨5,12884901888,0,0,0,0,0,[]⟩
def am:NetD:=⟨[1],[⟨amop,[0],[]⟩]⟩
def amx:Ten:=⟨[1],[8589934592]⟩
def amg:Ten:=⟨[1],[12884901888]⟩
theorem qgI:Pn.fits am [amx] amx=20:=by decide +kernel
theorem am_ok:am.ok:=by
 refine ⟨by decide,by decide,λv hv=>?_⟩;simp [am] at hv;subst hv;exact ⟨by intro z hz;simp [amop] at hz;omega,by decide,by decide,by decide,by simp,by intro z hz;simp at hz;omega⟩
theorem am_kn:∀v∈am.nodes,v.op.kind≠10/\v.op.kind≠13/\v.op.kind≠14:=λv hv=>by
 simp [am,amop] at hv;subst hv
 decide
def RunAm (w:Zp1) (e:Ending) (w':Zp1):Prop:=
 ∃gb S C sc cd,e=.returned (.tuple #[.agg #[nQ iQ 25769803776,.slice gb 0 0,sQ S 1 sc,sQ C 1 cd],nQ iQ 0])/\TenIn w' S C sc cd amg/\Below w.heap.size w w'
theorem am_fits0:Pn.fits am [] amx=0:=by decide +kernel
theorem am_run:Pn.run am [] amx=⟨25769803776,[],amg⟩:=by kernel_rfl
theorem run_am (A N XS XC:Option Addr) (c d xc xd:Nat) (w:Zp1) (hR:NetR w A N am) (hd:1<=d) (hX:TenIn w XS XC xc xd amx):
  Calls Tryz.prog 9 #[.agg #[sQ A 1 c,sQ N 1 d],sQ none 0 0,.agg #[sQ XS 1 xc,sQ XC 1 xd]] w (RunAm w):=by
 have h:=qed A N none XS XC c d 0 xc xd am [] amx w am_ok hR hd (Tns.nil _ _) sZ sZ oZ (λ_=>rfl) hX am_fits0 am_kn;rw [am_run] at h;exact h.mono λe w' ⟨GB,S,C,sc,cd,he,_,hT,hb⟩=>⟨some ⟨GB,0,none⟩,S,C,sc,cd,he,hT.ten,hb⟩
theorem Blk.intsQ {w:Zp1} {g:Nat} {t:TypeId} (l:List Int) (h:Blk w g t (l.map (Za1 iQ)).toArray):Ints iQ w (some ⟨g,0,none⟩) l:=Ints.of_row λj hj=>by
 rw [Zw,h.cell];simp [hj]
theorem qgJ:Tn.right amx=true:=by decide +kernel
theorem amx_in:Ly.In amx:=by intro z hz;simp [amx] at hz;subst hz;unfold Fx.In;omega
theorem am_bad:Pn.forward am [amx] amx=([],20):=by
 unfold Pn.forward;rw [ipZ (by rw [qgI];decide),qgI]
theorem am_net {W:Zp1} {p r g:Nat} (hp:Blk W p 3 #[nQ iQ 1]) (hr:Blk W r 3 #[nQ iQ 0])
  (hg:Blk W g 59 #[nQ iQ 5,nQ iQ 12884901888,nQ iQ 0,nQ iQ 0,nQ iQ 0,nQ iQ 0,nQ iQ 0,sQ none 0 0,sQ (some ⟨r,0,none⟩) 1 1,sQ none 0 0]):
  NetR W (some ⟨p,0,none⟩) (some ⟨g,0,none⟩) am:=by
 refine ⟨hp.intsQ [1],λj hj=>?_⟩;have ha:j=0:=by simp [am] at hj;omega
 subst ha;exact ⟨g,0,none,0,some ⟨r,0,none⟩,1,none,0,rfl,hg.lt,hg.cell 0,hg.cell 1,hg.cell 2,hg.cell 3,hg.cell 4,hg.cell 5,hg.cell 6,hg.cell 7,hg.cell 8,hg.cell 9,⟨Ints.nil,by simp [am,amop],by omega⟩,⟨hr.intsQ [0],by simp [am],by omega⟩,Shps.nil,by simp [am],by omega⟩
theorem amx_ten {W:Zp1} {g h:Nat} (hg:Blk W g 3 #[nQ iQ 1]) (hh:Blk W h 42 #[nQ iQ 8589934592]):TenIn W (some ⟨g,0,none⟩) (some ⟨h,0,none⟩) 1 1 amx:=
 ⟨⟨hg.intsQ [1],hh.intsQ [8589934592]⟩,by decide,by decide,by decide,by decide,by decide,by decide,amx_in⟩
theorem am_blks (w:Zp1):Blk ((((w.alloc (.cells #[nQ iQ 1] 3)).alloc (.cells #[nQ iQ 0] 3)).alloc (.cells #[nQ iQ 5,nQ iQ 12884901888,nQ iQ 0,nQ iQ 0,nQ iQ 0,nQ iQ 0,nQ iQ 0,sQ none 0 0,sQ (some ⟨w.heap.size+1,0,none⟩) 1 1,sQ none 0 0] 59)).alloc (.cells #[sQ (some ⟨w.heap.size,0,none⟩) 1 1,sQ (some ⟨w.heap.size+1+1,0,none⟩) 1 1] 26)) (w.heap.size+1+1+1) 26 #[sQ (some ⟨w.heap.size,0,none⟩) 1 1,sQ (some ⟨w.heap.size+1+1,0,none⟩) 1 1]/\NetR ((((w.alloc (.cells #[nQ iQ 1] 3)).alloc (.cells #[nQ iQ 0] 3)).alloc (.cells #[nQ iQ 5,nQ iQ 12884901888,nQ iQ 0,nQ iQ 0,nQ iQ 0,nQ iQ 0,nQ iQ 0,sQ none 0 0,sQ (some ⟨w.heap.size+1,0,none⟩) 1 1,sQ none 0 0] 59)).alloc (.cells #[sQ (some ⟨w.heap.size,0,none⟩) 1 1,sQ (some ⟨w.heap.size+1+1,0,none⟩) 1 1] 26)) (some ⟨w.heap.size,0,none⟩) (some ⟨w.heap.size+1+1,0,none⟩) am/\Later w ((((w.alloc (.cells #[nQ iQ 1] 3)).alloc (.cells #[nQ iQ 0] 3)).alloc (.cells #[nQ iQ 5,nQ iQ 12884901888,nQ iQ 0,nQ iQ 0,nQ iQ 0,nQ iQ 0,nQ iQ 0,sQ none 0 0,sQ (some ⟨w.heap.size+1,0,none⟩) 1 1,sQ none 0 0] 59)).alloc (.cells #[sQ (some ⟨w.heap.size,0,none⟩) 1 1,sQ (some ⟨w.heap.size+1+1,0,none⟩) 1 1] 26)):=by
 have k0:=(((Blk.new w 3 #[nQ iQ 1]).alloc (.cells #[nQ iQ 0] 3)).alloc (.cells #[nQ iQ 5,nQ iQ 12884901888,nQ iQ 0,nQ iQ 0,nQ iQ 0,nQ iQ 0,nQ iQ 0,sQ none 0 0,sQ (some ⟨w.heap.size+1,0,none⟩) 1 1,sQ none 0 0] 59)).alloc (.cells #[sQ (some ⟨w.heap.size,0,none⟩) 1 1,sQ (some ⟨w.heap.size+1+1,0,none⟩) 1 1] 26);have k1:=((Blk.new (w.alloc (.cells #[nQ iQ 1] 3)) 3 #[nQ iQ 0]).alloc (.cells #[nQ iQ 5,nQ iQ 12884901888,nQ iQ 0,nQ iQ 0,nQ iQ 0,nQ iQ 0,nQ iQ 0,sQ none 0 0,sQ (some ⟨w.heap.size+1,0,none⟩) 1 1,sQ none 0 0] 59)).alloc (.cells #[sQ (some ⟨w.heap.size,0,none⟩) 1 1,sQ (some ⟨w.heap.size+1+1,0,none⟩) 1 1] 26);have k2:=(Blk.new ((w.alloc (.cells #[nQ iQ 1] 3)).alloc (.cells #[nQ iQ 0] 3)) 59 #[nQ iQ 5,nQ iQ 12884901888,nQ iQ 0,nQ iQ 0,nQ iQ 0,nQ iQ 0,nQ iQ 0,sQ none 0 0,sQ (some ⟨w.heap.size+1,0,none⟩) 1 1,sQ none 0 0]).alloc (.cells #[sQ (some ⟨w.heap.size,0,none⟩) 1 1,sQ (some ⟨w.heap.size+1+1,0,none⟩) 1 1] 26);have k3:=Blk.new (((w.alloc (.cells #[nQ iQ 1] 3)).alloc (.cells #[nQ iQ 0] 3)).alloc (.cells #[nQ iQ 5,nQ iQ 12884901888,nQ iQ 0,nQ iQ 0,nQ iQ 0,nQ iQ 0,nQ iQ 0,sQ none 0 0,sQ (some ⟨w.heap.size+1,0,none⟩) 1 1,sQ none 0 0] 59)) 26 #[sQ (some ⟨w.heap.size,0,none⟩) 1 1,sQ (some ⟨w.heap.size+1+1,0,none⟩) 1 1];simp only [Zh1] at k1 k2 k3;exact ⟨k3,am_net k0 k1 k2,((((Later.refl w).alloc _).alloc _).alloc _).alloc _⟩
theorem qdu (w:Zp1):Calls Tryz.prog 8 #[] w λe w'=>e=.returned (.bool true)/\Below w.heap.size w w':=by
 obtain ⟨hm,he,hf⟩:=am_blks w;obtain ⟨hi,hn,hl⟩:=zd3 hm he hf;clear hm he hf;go_enter Tryz.func8,Tryz.ntmps8;go_wp2_with fail;refine (qbY 3 _ dZ dZ).mono ?_;rintro e w0 ⟨rfl,rfl⟩;rw [show (3:Int)*4294967296=12884901888 from rfl];go_upto_region 2 with fail;generalize ((((w.alloc (.cells #[nQ iQ 1] 3)).alloc (.cells #[nQ iQ 0] 3)).alloc (.cells #[nQ iQ 5,nQ iQ 12884901888,nQ iQ 0,nQ iQ 0,nQ iQ 0,nQ iQ 0,nQ iQ 0,sQ none 0 0,sQ (some ⟨w.heap.size+1,0,none⟩) 1 1,sQ none 0 0] 59)).alloc (.cells #[sQ (some ⟨w.heap.size,0,none⟩) 1 1,sQ (some ⟨w.heap.size+1+1,0,none⟩) 1 1] 26))=w1 at *;have hm:=hi.out;have he:=hn.out;have hf:=hl.out;clear hi hn hl;generalize w.heap.size+1+1+1=nb at *;generalize w.heap.size+1+1=ng at *;obtain ⟨hi,hn,hl⟩:=zd3 hm he hf;clear hm he hf;go_wp2_with fail;refine (qbY 2 _ dZ dZ).mono ?_;rintro e w2 ⟨rfl,rfl⟩;rw [show (2:Int)*4294967296=8589934592 from rfl];have t0:=(Blk.new w1 3 #[nQ iQ 1]).alloc (.cells #[nQ iQ 8589934592] 42);have t1:=Blk.new (w1.alloc (.cells #[nQ iQ 1] 3)) 42 #[nQ iQ 8589934592];rw [Zh1] at t1;have He:Later w1 ((w1.alloc (.cells #[nQ iQ 1] 3)).alloc (.cells #[nQ iQ 8589934592] 42)):=((Later.refl w1).alloc _).alloc _;obtain ⟨hD,hU,h8⟩:=zd3 t0 t1 He;clear t0 t1 He;go_wp2_with fail;generalize (w1.alloc (.cells #[nQ iQ 1] 3)).alloc (.cells #[nQ iQ 8589934592] 42)=w2 at *;have ho:Calls Tryz.prog 17 #[sQ (some ⟨w1.heap.size,0,none⟩) 1 1,sQ (some ⟨w1.heap.size+1,0,none⟩) 1 1] w2 (OfP amx w2):=qcu (some ⟨w1.heap.size,0,none⟩) (some ⟨w1.heap.size+1,0,none⟩) 1 1 amx w2 dZ dZ ⟨hD.out.intsQ [1],hU.out.intsQ [8589934592]⟩;refine ho.mono ?_;rintro e w3 ⟨⟨hd,-⟩|⟨-,v,rfl,⟨g,h,rfl,hg,hh,hG,hH⟩⟩,hT⟩
 ·rw [qgJ] at hd;cases hd
 rw [show amx.s.length=1 from rfl,show amx.c.length=1 from rfl];have Hd:=h8.out.call hT;have Hb:TenIn w3 (some ⟨g,0,none⟩) (some ⟨h,0,none⟩) 1 1 amx:=amx_ten hG hH;have hq:Later w3 (w3.alloc (.cells #[sQ (some ⟨g,0,none⟩) 1 1,sQ (some ⟨h,0,none⟩) 1 1] 30)):=(Later.refl w3).alloc _;have hY:=Blk.new w3 30 #[sQ (some ⟨g,0,none⟩) 1 1,sQ (some ⟨h,0,none⟩) 1 1];have hc:=Hd.trans hq;have hN:=hl.out.trans hc;have h3:=hc.blk hi.out;have hJ:=hn.out.below hc (lrZ _);have hW:=Hb.later hq;clear hT ho hG hH hD hU h8 Hb Hd hg hh;obtain ⟨Hg,hk,Hm,h4,hb,hB,hA⟩:=zd7 hq hY hc hN h3 hJ hW;clear hq hY hc hN h3 hJ hW;go_upto_region 3 with fail;generalize w3.alloc (.cells #[sQ (some ⟨g,0,none⟩) 1 1,sQ (some ⟨h,0,none⟩) 1 1] 30)=w4 at *;generalize w3.heap.size=xb at *;clear Hg;have n0:w4.cell? ⟨nb,0,none⟩=_:=hb.out.cell 0;have n1:w4.cell? ⟨nb,1,none⟩=_:=hb.out.cell 1;have x0:w4.cell? ⟨xb,0,none⟩=_:=hk.out.cell 0;have x1:w4.cell? ⟨xb,1,none⟩=_:=hk.out.cell 1;simp at n0 n1 x0 x1;go_wp2_with fail;refine (run_am (some ⟨w.heap.size,0,none⟩) (some ⟨ng,0,none⟩) (some ⟨g,0,none⟩) (some ⟨h,0,none⟩) 1 1 1 1 w4 hB.out dZ hA.out).mono ?_;rintro e w5 ⟨gb,S,C,sc,cd,rfl,hX,h6⟩;have ht:Later w4 w5:=h6;have Hh:=ht.blk hb.out;have Hk:=ht.blk hk.out;have hs:Later w5 (w5.alloc (.cells #[nQ iQ 25769803776,.slice gb 0 0,sQ S 1 sc,sQ C 1 cd] 44)):=(Later.refl w5).alloc _;have hZ:=Blk.new w5 44 #[nQ iQ 25769803776,.slice gb 0 0,sQ S 1 sc,sQ C 1 cd];have ha:=ht.trans hs;have hL:=ha.blk hb.out;have Hc:=ha.blk hk.out;have hC:=hB.out.below ha (lrZ _);have hR:=hA.out.later ha;have h9:=hX.later hs;have hI:=h4.out.trans ha;clear h6 n0 n1 x0 x1 hX Hh Hk ht;obtain ⟨Hl,h2,Hj,hz,hw,hV,hO,h7,hF⟩:=zd9 hs hZ ha hL Hc hC hR h9 hI;clear hs hZ ha hL Hc hC hR h9 hI;go_upto_region 4 with fail;generalize w5.alloc (.cells #[nQ iQ 25769803776,.slice gb 0 0,sQ S 1 sc,sQ C 1 cd] 44)=w6 at *
 generalize w5.heap.size=rb at *;clear Hl Hj hB hA hk hb Hm h4 hn hi hl;have n0:w6.cell? ⟨nb,0,none⟩=_:=hz.out.cell 0;have n1:w6.cell? ⟨nb,1,none⟩=_:=hz.out.cell 1;have x0:w6.cell? ⟨xb,0,none⟩=_:=hw.out.cell 0;have x1:w6.cell? ⟨xb,1,none⟩=_:=hw.out.cell 1;simp at n0 n1 x0 x1;have hr:Later w6 (w6.alloc (.cells #[sQ (some ⟨g,0,none⟩) 1 1,sQ (some ⟨h,0,none⟩) 1 1] 30)):=(Later.refl w6).alloc _;have hP:=Blk.new w6 30 #[sQ (some ⟨g,0,none⟩) 1 1,sQ (some ⟨h,0,none⟩) 1 1];have y0:=hr.cell x0;have y1:=hr.cell x1;obtain ⟨hv,hp⟩:=zd2 hr hP;clear hr hP;go_wp2_with fail;generalize w6.alloc (.cells #[sQ (some ⟨g,0,none⟩) 1 1,sQ (some ⟨h,0,none⟩) 1 1] 30)=w7 at *;generalize w6.heap.size=pb at *;have hx:=hO.out.later hv.out
 have h0:Tns w7 (some ⟨pb,0,none⟩) [amx]:=λj hj=>by
  obtain rfl:j=0:=by simpa using hj
  exact ⟨pb,0,_,1,_,1,rfl,hp.out.lt,hp.out.cell 0,hp.out.cell 1,hx⟩
 have h5:Calls Tryz.prog 9 #[.agg #[sQ (some ⟨w.heap.size,0,none⟩) 1 1,sQ (some ⟨ng,0,none⟩) 1 1],sQ (some ⟨pb,0,none⟩) 1 1,.agg #[sQ (some ⟨g,0,none⟩) 1 1,sQ (some ⟨h,0,none⟩) 1 1]] w7 λe w'=>e=.returned (.tuple #[.agg #[nQ iQ 0,sQ none 0 0,sQ none 0 0,sQ none 0 0],nQ iQ 20])/\Below w7.heap.size w7 w':=by
  have:=run_bad (some ⟨w.heap.size,0,none⟩) (some ⟨ng,0,none⟩) (some ⟨pb,0,none⟩) (some ⟨g,0,none⟩) (some ⟨h,0,none⟩) 1 1 1 1 1 am [amx] amx w7 am_ok (hV.out.below hv.out (lrZ _)) dZ h0 dZ dZ dZ (λh=>by cases h) hx (by rw [am_bad];decide) am_kn;rw [am_bad] at this;exact this
 refine h5.mono ?_;rintro e w8 ⟨rfl,hE⟩;have Ha:=hv.out.call hE;have hS:Later w8 (w8.alloc (.cells #[nQ iQ 0,sQ none 0 0,sQ none 0 0,sQ none 0 0] 44)):=(Later.refl w8).alloc _;have hu:=Ha.trans hS;have hM:=hu.blk h2.out;have hQ:=h7.out.later hu;have h1:=hF.out.trans hu;clear hE h5 h0 hx n0 n1 x0 x1 y0 y1 Ha hS hu hv hp h2 h7 hF hO hV hw hz;obtain ⟨hy,Hi,Hf⟩:=zd3 hM hQ h1;clear hM hQ h1;go_upto_region 5 with fail;generalize w8.alloc (.cells #[nQ iQ 0,sQ none 0 0,sQ none 0 0,sQ none 0 0] 44)=w9 at *;have r0:w9.cell? ⟨rb,0,none⟩=_:=hy.out.cell 0;have r1:w9.cell? ⟨rb,1,none⟩=_:=hy.out.cell 1;have r3:w9.cell? ⟨rb,3,none⟩=_:=hy.out.cell 3;simp at r0 r1 r3;obtain ⟨bc,oc,rfl,-,yc⟩:=Hi.out.cell (k:=0) dZ;replace yc:w9.cell? ⟨bc,oc,none⟩=some (nQ iQ 12884901888):=yc;have KF:=zI (show ∀Xw,Later w9 Xw->Xw.cell? ⟨rb,0,none⟩=some (nQ iQ 25769803776)/\Xw.cell? ⟨rb,1,none⟩=some (.slice gb 0 0)/\Xw.cell? ⟨rb,3,none⟩=some (sQ (some ⟨bc,oc,none⟩) 1 cd)/\Xw.cell? ⟨bc,oc,none⟩=some (nQ iQ 12884901888) from λXw h=>⟨h.cell r0,h.cell r1,h.cell r3,h.cell yc⟩);refine Zm1 ?_;refine Zl1 (S:=λXw=>Xw.cell? ⟨rb,0,none⟩=some (nQ iQ 25769803776)/\Xw.cell? ⟨rb,1,none⟩=some (.slice gb 0 0)/\Xw.cell? ⟨rb,3,none⟩=some (sQ (some ⟨bc,oc,none⟩) 1 cd)/\Xw.cell? ⟨bc,oc,none⟩=some (nQ iQ 12884901888)) krZ (KF.out _ Lau) (λhHeld=>?_);refine tk 0 ?_;refine tk 1 ?_;refine tk 2 ?_;refine tk 3 ?_;refine tk 4 ?_;refine tk 5 ?_;refine tk 6 ?_;refine tk 7 ?_;refine tk 8 ?_;refine rd 9 λK hK=>?_
 simp only [ga,gs,gz]
 go_simp
 go_at_call 16;(with_reducible refine (qbY 6 _ dZ dZ).mono ?_);rintro e wg ⟨rfl,rfl⟩
 rw [show (6:Int)*4294967296=25769803776 from rfl]
 try go_wp2_with fail
 refine hK.out _ _ (KF.out _ Lau) (λhHeld=>?_);clear hK K
 try simp only [ga,gs,gz,Act.put,sa,sz,ss]
 refine tk 10 ?_;refine tk 11 ?_;refine tk 12 ?_;refine tk 13 ?_;refine tk 14 ?_;refine tk 15 ?_;refine tk 16 ?_;refine tk 17 ?_;refine tk 18 ?_;refine tk 19 ?_;refine tk 20 ?_;refine tk 21 ?_;refine tk 22 ?_;refine tk 23 ?_;refine tk 24 ?_;refine rd 25 λK hK=>?_
 simp only [ga,gs,gz]
 go_simp
 go_at_call 16;(with_reducible refine (qbY 3 _ dZ dZ).mono ?_);rintro e wg ⟨rfl,rfl⟩
 rw [show (3:Int)*4294967296=12884901888 from rfl]
 try go_wp2_with fail
 refine hK.out _ _ (KF.out _ Lau) (λhHeld=>?_);clear hK K
 try simp only [ga,gs,gz,Act.put,sa,sz,ss]
 refine tk 26 ?_;refine tk 27 ?_;refine tk 28 ?_;refine tk 29 ?_;refine tk 30 ?_;refine tk 31 ?_;refine tk 32 ?_;refine tk 33 ?_;refine tk 34 ?_;clear KF;refine Zn1 krZ ?_ _;refine Zd1 ?_;go_wp2_with fail;go_ret;exact ⟨rfl,Later.drew Hf.out⟩
open Go.ChangeShapes Go.WideShapes Go.Deep Go.RowKit
section
variable {H:Type} {enc:TypeId × Value->H} {P:Program} {W:Zp1} {base:Nat} {spare:Nat->Bool} {held:Bool}
theorem bulk_one (d:DataW H):1<=Rows.uptoBulk d:=by
 cases d with
 | lit l=>cases l<;>simp [Rows.uptoBulk]
 | nil=>simp [Rows.uptoBulk]
 | ptr d=>simp [Rows.uptoBulk]
 | slice elems spare=>simp [Rows.uptoBulk]
 | agg parts=>simp [Rows.uptoBulk]
 | iface t d=>simp [Rows.uptoBulk]
 | map entries=>simp [Rows.uptoBulk]
 | held h=>simp [Rows.uptoBulk]
theorem qee {d:DataW H} {l:List (DataW H)} (h:d∈l):Rows.uptoBulk d<=Rows.uptoBulkAll l:=by
 induction l with
 | nil=>cases h
 | cons x r ih=>
  simp only [Rows.uptoBulkAll];cases List.mem_cons.1 h with
  | inl e=>subst e;omega
  | inr e=>have:=ih e;omega
theorem bulk_len (l:List (DataW H)):l.length<=Rows.uptoBulkAll l:=by
 induction l with
 | nil=>simp [Rows.uptoBulkAll]
 | cons x r ih=>have:=bulk_one x;simp only [Rows.uptoBulkAll,List.length_cons];omega
theorem qaB {t e:TypeId} {fuel:Nat} {v:Value} {x:DataW H × List MemPlace} (ht:P.underlying t=some (.slice e)) (h:DataW.trod enc P W base spare held fuel t [v]=some x) (hz:Rows.uptoBulk x.1<=1048576):
  v=sQ none 0 0∨∃a len cap,v=sQ (some a) len cap/\len<=cap/\cap<=maxLen/\len<=1048576/\
   ∀i,i<len->∃cs' m y,W.cells? base (a.add (i*P.cellsOf e)) (P.cellsOf e)=some cs'/\DataW.trod enc P W base spare held m e cs'=some y/\Rows.uptoBulk y.1<=1048576:=by
 rcases open_slice ht h with ⟨ha,_⟩|⟨a,len,cap,m,n,D,Pl,ha,_,hl,hm,hc,hx,hi⟩
 ·simp at ha;exact .inl ha
 ·simp at ha;subst ha
  right
  have hd:len<=m:=by rw [hc];split<;>omega
  rw [hx] at hz;simp only [Rows.uptoBulk] at hz;refine ⟨a,len,cap,rfl,hl,hm,?_,λi hb=>?_⟩
  ·have:=bulk_len ((List.range len).map D)
   simp at this;omega
  ·obtain ⟨cs',h1,h2⟩:=hi i oZ
   refine ⟨cs',n,_,h1,h2,?_⟩;have:=qee (d:=D i) (l:=(List.range len).map D) (List.mem_map.2 ⟨i,by simpa using hb,rfl⟩)
   show Rows.uptoBulk (D i)<=_
   omega
end
theorem int_one':Tryz.prog.cellsOf 3=1:=by kernel_rfl
theorem shp_one:Tryz.prog.cellsOf 23=1:=by kernel_rfl
theorem qfE:Tryz.prog.cellsOf 59=10:=by kernel_rfl
theorem qbh {H:Type} {enc:TypeId × Value->H} {W:Zp1} {base:Nat} {spare:Nat->Bool} {held:Bool} {t:TypeId} {fuel:Nat} {v:Value} {x:DataW H × List MemPlace} (ht:Tryz.prog.underlying t=some (.slice 3))
  (h:DataW.trod enc Tryz.prog W base spare held fuel t [v]=some x) (hz:Rows.uptoBulk x.1<=1048576):
  ∃A c zs,v=sQ A zs.length c/\Ints iQ W A zs/\zs.length<=c/\c<=9223372036854775807/\zs.length<=1048576/\∀z∈zs,-9223372036854775808<=z/\z<=9223372036854775807:=by
 obtain ⟨A,c,zs,rfl,hl,hc,hI,hw⟩:=qdW ht Tryz.underlying3 int_one' h;refine ⟨A,c,zs,rfl,hI,hc,?_,?_,λz hz=>qde (hw z hz)⟩
 ·rcases qaB ht h hz with e|⟨a,len,cap,e,_,hm,_⟩
  ·injection e with _ _ e;omega
  ·injection e with _ _ e;unfold maxLen at hm;omega
 ·rcases qaB ht h hz with e|⟨a,len,cap,e,_,_,hb,_⟩
  ·injection e with _ e _;rw [e];exact Zt _
  ·have e2:zs.length=len:=by simp at e;exact e.2.1
   rw [e2];exact hb
theorem one_list {l:List Value} (h:l.length=1):∃v,l=[v]:=by
 match l,h with
 | [v],_=>exact ⟨v,rfl⟩
theorem qbG {α:Type} [Inhabited α] {n:Nat} {Q:Nat->α->Prop} (h:∀i,i<n->∃a,Q i a):∃l:List α,l.length=n/\∀i (hi:i<l.length),Q i l[i]:=by
 obtain ⟨f,hf⟩:=@choose_lt α _ _ _ h;exact ⟨(List.range n).map f,by simp,λi hi=>by simp at hi;simpa using hf i hi⟩
theorem qdv {W:Zp1} {a:Addr} {v:Value} (h:W.cell? a=some v):∃b off,a=⟨b,off,none⟩:=by
 obtain ⟨b,off,spot⟩:=a;have hs:spot=none:=by simpa using World.cell?_spot h
 subst hs;exact ⟨b,off,rfl⟩
theorem qgK {H:Type} {enc:TypeId × Value->H} {W:Zp1} {base:Nat} {spare:Nat->Bool} {held:Bool} {fuel:Nat} {v:Value} {x:DataW H × List MemPlace}
  (h:DataW.trod enc Tryz.prog W base spare held fuel 57 [v]=some x) (hz:Rows.uptoBulk x.1<=1048576):
  ∃A c ss,v=sQ A ss.length c/\Shps W A ss/\ss.length<=c/\c<=9223372036854775807/\ss.length<=1048576/\∀s∈ss,s.length<=1048576/\∀z∈s,-9223372036854775808<=z/\z<=9223372036854775807:=by
 rcases qaB Tryz.underlying57 h hz with rfl|⟨a,len,cap,rfl,hl,hm,hb,hi⟩
 ·exact ⟨none,0,[],rfl,Shps.nil,by simp,by omega,by simp,by simp⟩
 ·rw [shp_one] at hi
  have key:∀i,i<len->∃q:(List Int) × (Option Addr) × Nat,W.cell? (a.add i)=some (.slice q.2.1 q.1.length q.2.2)/\Ints iQ W q.2.1 q.1/\q.1.length<=q.2.2/\q.2.2<=9223372036854775807/\q.1.length<=1048576/\∀z∈q.1,-9223372036854775808<=z/\z<=9223372036854775807:=λi hd=>by
   obtain ⟨cs',m,y,hc,ht,hw⟩:=hi i hd;obtain ⟨_,ha,he⟩:=World.cells?_some hc;obtain ⟨v,rfl⟩:=one_list ha;obtain ⟨A,c,zs,rfl,h1,h2⟩:=qbh Tryz.underlying23 ht hw;refine ⟨(zs,A,c),?_,h1,h2⟩;have:=he 0 oZ;rw [Nat.mul_one] at this;simpa [Addr.add] using this
  obtain ⟨L,hL,hq⟩:=qbG key;refine ⟨some a,cap,L.map (·.1),by simp [hL],λj hj=>?_,by simpa [hL] using hl,by unfold maxLen at hm;omega,by simp [hL];exact hb,λs hs=>?_⟩
  ·rw [List.length_map] at hj
   obtain ⟨h1,h2,h3,h4,_⟩:=hq j hj;obtain ⟨h0,_⟩:=hq 0 oZ;obtain ⟨b,off,rfl⟩:=qdv (show W.cell? a=_ by simpa [Addr.add] using h0);rw [qbX] at h1;rw [List.getElem_map];exact ⟨b,off,_,_,rfl,Zj1 _ _ h1,h1,h2,h3,h4⟩
  ·obtain ⟨q,hf,rfl⟩:=List.mem_map.1 hs
   obtain ⟨i,hi,rfl⟩:=List.getElem_of_mem hf;exact (hq i hi).2.2.2.2
def OpD.inR (o:OpD):Prop:=o.wide/\∀z∈o.s,-9223372036854775808<=z/\z<=9223372036854775807
def NodeD.fits (v:NodeD):Prop:=v.op.wide/\v.op.s.length<=1048576/\v.ins.length<=1048576/\v.p.length<=1048576/\(∀s∈v.p,s.length<=1048576)/\
 (∀z∈v.op.s,-9223372036854775808<=z/\z<=9223372036854775807)/\(∀z∈v.ins,-9223372036854775808<=z/\z<=9223372036854775807)/\∀s∈v.p,∀z∈s,-9223372036854775808<=z/\z<=9223372036854775807
def NetD.fits (n:NetD):Prop:=n.inn.length<=1048576/\n.nodes.length<=1048576/\(∀z∈n.inn,-9223372036854775808<=z/\z<=9223372036854775807)/\∀v∈n.nodes,v.fits
theorem qfF:Tryz.prog.underlying 59=some (.struct (Tryz.prog.fieldsOf 59)):=by kernel_rfl
theorem qfG:(Tryz.prog.fieldsOf 59).size=3:=by kernel_rfl
theorem node_f0:((Tryz.prog.fieldsOf 59)[0]?).map (λf=>(f.type,f.offset,Tryz.prog.cellsOf f.type))=some (56,0,8):=by kernel_rfl
theorem node_f1:((Tryz.prog.fieldsOf 59)[1]?).map (λf=>(f.type,f.offset,Tryz.prog.cellsOf f.type))=some (22,8,1):=by kernel_rfl
theorem node_f2:((Tryz.prog.fieldsOf 59)[2]?).map (λf=>(f.type,f.offset,Tryz.prog.cellsOf f.type))=some (57,9,1):=by kernel_rfl
theorem op_under:Tryz.prog.underlying 56=some (.struct (Tryz.prog.fieldsOf 56)):=by kernel_rfl
theorem op_eight:(Tryz.prog.fieldsOf 56).size=8:=by kernel_rfl
theorem op_f0:((Tryz.prog.fieldsOf 56)[0]?).map (λf=>(f.type,f.offset,Tryz.prog.cellsOf f.type))=some (3,0,1):=by kernel_rfl
theorem op_f1:((Tryz.prog.fieldsOf 56)[1]?).map (λf=>(f.type,f.offset,Tryz.prog.cellsOf f.type))=some (42,1,1):=by kernel_rfl
theorem op_f2:((Tryz.prog.fieldsOf 56)[2]?).map (λf=>(f.type,f.offset,Tryz.prog.cellsOf f.type))=some (3,2,1):=by kernel_rfl
theorem op_f3:((Tryz.prog.fieldsOf 56)[3]?).map (λf=>(f.type,f.offset,Tryz.prog.cellsOf f.type))=some (3,3,1):=by kernel_rfl
theorem op_f4:((Tryz.prog.fieldsOf 56)[4]?).map (λf=>(f.type,f.offset,Tryz.prog.cellsOf f.type))=some (3,4,1):=by kernel_rfl
theorem op_f5:((Tryz.prog.fieldsOf 56)[5]?).map (λf=>(f.type,f.offset,Tryz.prog.cellsOf f.type))=some (3,5,1):=by kernel_rfl
theorem op_f6:((Tryz.prog.fieldsOf 56)[6]?).map (λf=>(f.type,f.offset,Tryz.prog.cellsOf f.type))=some (3,6,1):=by kernel_rfl
theorem op_f7:((Tryz.prog.fieldsOf 56)[7]?).map (λf=>(f.type,f.offset,Tryz.prog.cellsOf f.type))=some (23,7,1):=by kernel_rfl
theorem list3 {α:Type} {l:List α} (h:l.length=3):∃a b c,l=[a,b,c]:=by
 match l,h with
 | [a,b,c],_=>exact ⟨a,b,c,rfl⟩
theorem list8 {α:Type} {l:List α} (h:l.length=8):∃a b c d e f g i,l=[a,b,c,d,e,f,g,i]:=by
 match l,h with
 | [a,b,c,d,e,f,g,i],_=>exact ⟨a,b,c,d,e,f,g,i,rfl⟩
theorem list10 {α:Type} {l:List α} (h:l.length=10):∃a b c d e f g i j k,l=[a,b,c,d,e,f,g,i,j,k]:=by
 match l,h with
 | [a,b,c,d,e,f,g,i,j,k],_=>exact ⟨a,b,c,d,e,f,g,i,j,k,rfl⟩
set_option maxRecDepth 100000 in
theorem op_open {H:Type} {enc:TypeId × Value->H} {W:Zp1} {base:Nat} {spare:Nat->Bool} {held:Bool} {fuel:Nat} {v0 v1 v2 v3 v4 v5 v6 v7:Value} {x:DataW H × List MemPlace}
  (h:DataW.trod enc Tryz.prog W base spare held fuel 56 [v0,v1,v2,v3,v4,v5,v6,v7]=some x) (hz:Rows.uptoBulk x.1<=1048576):
  ∃(o:OpD) (S:Option Addr) (c:Nat),v0=nQ iQ o.kind/\v1=nQ iQ o.k/\v2=nQ iQ o.width/\v3=nQ iQ o.step/\v4=nQ iQ o.side/\v5=nQ iQ o.frm/\v6=nQ iQ o.to/\v7=sQ S o.s.length c/\
   Ints iQ W S o.s/\o.s.length<=c/\c<=9223372036854775807/\o.s.length<=1048576/\o.wide/\∀z∈o.s,-9223372036854775808<=z/\z<=9223372036854775807:=by
 obtain ⟨ys,n,_,hx,_,ha,hg⟩:=DataW.trod_struct op_under h;rw [op_eight] at ha;obtain ⟨y0,y1,y2,y3,y4,y5,y6,y7,rfl⟩:=list8 ha;rw [hx] at hz;obtain ⟨f0,e0,t0⟩:=Option.map_eq_some_iff.1 op_f0;simp only [Prod.mk.injEq] at t0;have h0:=hg 0 f0 e0;rw [t0.2.2,t0.2.1,t0.1] at h0;simp at h0;obtain ⟨f1,e1,t1⟩:=Option.map_eq_some_iff.1 op_f1;simp only [Prod.mk.injEq] at t1;have h1:=hg 1 f1 e1;rw [t1.2.2,t1.2.1,t1.1] at h1;simp at h1;obtain ⟨f2,e2,t2⟩:=Option.map_eq_some_iff.1 op_f2;simp only [Prod.mk.injEq] at t2;have h2:=hg 2 f2 e2;rw [t2.2.2,t2.2.1,t2.1] at h2;simp at h2;obtain ⟨f3,e3,t3⟩:=Option.map_eq_some_iff.1 op_f3;simp only [Prod.mk.injEq] at t3;have h3:=hg 3 f3 e3;rw [t3.2.2,t3.2.1,t3.1] at h3;simp at h3;obtain ⟨f4,e4,t4⟩:=Option.map_eq_some_iff.1 op_f4;simp only [Prod.mk.injEq] at t4;have h4:=hg 4 f4 e4;rw [t4.2.2,t4.2.1,t4.1] at h4;simp at h4;obtain ⟨f5,e5,t5⟩:=Option.map_eq_some_iff.1 op_f5;simp only [Prod.mk.injEq] at t5;have h5:=hg 5 f5 e5;rw [t5.2.2,t5.2.1,t5.1] at h5;simp at h5;obtain ⟨f6,e6,t6⟩:=Option.map_eq_some_iff.1 op_f6;simp only [Prod.mk.injEq] at t6;have h6:=hg 6 f6 e6;rw [t6.2.2,t6.2.1,t6.1] at h6;simp at h6;obtain ⟨f7,e7,t7⟩:=Option.map_eq_some_iff.1 op_f7;simp only [Prod.mk.injEq] at t7;have h7:=hg 7 f7 e7;rw [t7.2.2,t7.2.1,t7.1] at h7;simp at h7;have hb:Rows.uptoBulk y7.1<=1048576:=by simp [Rows.uptoBulk,Rows.uptoBulkAll] at hz;omega
 obtain ⟨x0,q0,_,w0⟩:=DataW.trod_int Tryz.underlying3 h0;simp at q0;subst q0;obtain ⟨x1,q1,_,w1⟩:=DataW.trod_int Tryz.underlying42 h1;simp at q1;subst q1;obtain ⟨x2,q2,_,w2⟩:=DataW.trod_int Tryz.underlying3 h2;simp at q2;subst q2;obtain ⟨x3,q3,_,w3⟩:=DataW.trod_int Tryz.underlying3 h3;simp at q3;subst q3;obtain ⟨x4,q4,_,w4⟩:=DataW.trod_int Tryz.underlying3 h4;simp at q4;subst q4;obtain ⟨x5,q5,_,w5⟩:=DataW.trod_int Tryz.underlying3 h5;simp at q5;subst q5;obtain ⟨x6,q6,_,w6⟩:=DataW.trod_int Tryz.underlying3 h6;simp at q6;subst q6;obtain ⟨S,c,zs,rfl,hI,h1,h2,h3,h4⟩:=qbh Tryz.underlying23 h7 hb;refine ⟨⟨x0,x1,x2,x3,x4,x5,x6,zs⟩,S,c,rfl,rfl,rfl,rfl,rfl,rfl,rfl,rfl,hI,h1,h2,h3,λz hz=>?_,h4⟩;simp at hz;rcases hz with rfl|rfl|rfl|rfl|rfl|rfl|rfl
 ·exact qde w0
 ·exact qde w1
 ·exact qde w2
 ·exact qde w3
 ·exact qde w4
 ·exact qde w5
 ·exact qde w6
structure NodeQ where
 v:NodeD
 S:Option Addr
 c:Nat
 I:Option Addr
 d:Nat
 Q:Option Addr
 q:Nat
instance:Inhabited NodeQ:=⟨⟨Nt.none_,none,0,none,0,none,0⟩⟩
def NodeQ.cells (x:NodeQ):List Value:=[nQ iQ x.v.op.kind,nQ iQ x.v.op.k,nQ iQ x.v.op.width,nQ iQ x.v.op.step,nQ iQ x.v.op.side,nQ iQ x.v.op.frm,nQ iQ x.v.op.to,.slice x.S x.v.op.s.length x.c,.slice x.I x.v.ins.length x.d,.slice x.Q x.v.p.length x.q]
def NodeQ.R (x:NodeQ) (W:Zp1):Prop:=(Ints iQ W x.S x.v.op.s/\x.v.op.s.length<=x.c/\x.c<=9223372036854775807)/\(Ints iQ W x.I x.v.ins/\x.v.ins.length<=x.d/\x.d<=9223372036854775807)/\(Shps W x.Q x.v.p/\x.v.p.length<=x.q/\x.q<=9223372036854775807)
set_option maxRecDepth 100000 in
theorem qgL {H:Type} {enc:TypeId × Value->H} {W:Zp1} {base:Nat} {spare:Nat->Bool} {held:Bool} {fuel:Nat} {cs:List Value} {x:DataW H × List MemPlace} (hcs:cs.length=10)
  (h:DataW.trod enc Tryz.prog W base spare held fuel 59 cs=some x) (hz:Rows.uptoBulk x.1<=1048576):
  ∃q:NodeQ,cs=q.cells/\q.R W/\q.v.fits:=by
 obtain ⟨v0,v1,v2,v3,v4,v5,v6,v7,v8,v9,rfl⟩:=list10 hcs;obtain ⟨ys,n,_,hx,_,ha,hg⟩:=DataW.trod_struct qfF h;rw [qfG] at ha;obtain ⟨y0,y1,y2,rfl⟩:=list3 ha;rw [hx] at hz;obtain ⟨f0,e0,t0⟩:=Option.map_eq_some_iff.1 node_f0;simp only [Prod.mk.injEq] at t0;have h0:=hg 0 f0 e0;rw [t0.2.2,t0.2.1,t0.1] at h0;simp at h0;obtain ⟨f1,e1,t1⟩:=Option.map_eq_some_iff.1 node_f1;simp only [Prod.mk.injEq] at t1;have h1:=hg 1 f1 e1;rw [t1.2.2,t1.2.1,t1.1] at h1;simp at h1;obtain ⟨f2,e2,t2⟩:=Option.map_eq_some_iff.1 node_f2;simp only [Prod.mk.injEq] at t2;have h2:=hg 2 f2 e2;rw [t2.2.2,t2.2.1,t2.1] at h2;simp at h2;have hd:Rows.uptoBulk y0.1<=1048576:=by simp [Rows.uptoBulk,Rows.uptoBulkAll] at hz;omega
 have hb:Rows.uptoBulk y1.1<=1048576:=by simp [Rows.uptoBulk,Rows.uptoBulkAll] at hz;omega
 have hc:Rows.uptoBulk y2.1<=1048576:=by simp [Rows.uptoBulk,Rows.uptoBulkAll] at hz;omega
 obtain ⟨o,S,c,rfl,rfl,rfl,rfl,rfl,rfl,rfl,rfl,a1,a2,a3,a4,a5,a6⟩:=op_open h0 hd;obtain ⟨I,d,is,rfl,b1,b2,b3,b4,b5⟩:=qbh Tryz.underlying22 h1 hb;obtain ⟨Q,q,ps,rfl,c1,c2,c3,c4,c5⟩:=qgK h2 hc;exact ⟨⟨⟨o,is,ps⟩,S,c,I,d,Q,q⟩,rfl,⟨⟨a1,a2,a3⟩,⟨b1,b2,b3⟩,c1,c2,c3⟩,a5,a4,b4,c4,λs hs=>(c5 s hs).1,a6,b5,λs hs=>(c5 s hs).2⟩
theorem qfH {H:Type} {enc:TypeId × Value->H} {W:Zp1} {base:Nat} {spare:Nat->Bool} {held:Bool} {fuel:Nat} {v:Value} {x:DataW H × List MemPlace}
  (h:DataW.trod enc Tryz.prog W base spare held fuel 24 [v]=some x) (hz:Rows.uptoBulk x.1<=1048576):
  ∃A c ns,v=sQ A ns.length c/\Nodes W A ns/\ns.length<=c/\c<=9223372036854775807/\ns.length<=1048576/\∀v∈ns,v.fits:=by
 rcases qaB Tryz.underlying24 h hz with rfl|⟨a,len,cap,rfl,hl,hm,hb,hi⟩
 ·exact ⟨none,0,[],rfl,λj hj=>absurd hj sZ,by simp,by omega,by simp,by simp⟩
 ·rw [qfE] at hi
  have key:∀i,i<len->∃q:NodeQ,(∀j,j<10->W.cell? ((a.add (i*10)).add j)=q.cells[j]?)/\q.R W/\q.v.fits:=λi hd=>by
   obtain ⟨cs',m,y,hc,ht,hw⟩:=hi i hd;obtain ⟨_,ha,he⟩:=World.cells?_some hc;obtain ⟨q,rfl,h1,h2⟩:=qgL ha ht hw;exact ⟨q,he,h1,h2⟩
  obtain ⟨L,hL,hq⟩:=qbG key;refine ⟨some a,cap,L.map (·.v),by simp [hL],λj hj=>?_,by simpa [hL] using hl,by unfold maxLen at hm;omega,by simp [hL];exact hb,λs hs=>?_⟩
  ·rw [List.length_map] at hj
   obtain ⟨h1,⟨r1,r2,r3⟩,_⟩:=hq j hj;obtain ⟨h0,_⟩:=hq 0 oZ;have hf:=h0 0 oZ;obtain ⟨b,off,rfl⟩:=qdv (v:=nQ iQ L[0].v.op.kind) (show W.cell? a=_ by simpa [Addr.add,NodeQ.cells] using hf);simp only [qbX] at h1;rw [List.getElem_map];refine ⟨b,off,_,_,_,_,_,_,rfl,Zj1 _ _ (h1 0 oZ),h1 0 oZ,h1 1 oZ,h1 2 oZ,h1 3 oZ,h1 4 oZ,h1 5 oZ,h1 6 oZ,h1 7 oZ,h1 8 oZ,h1 9 oZ,r1,r2,r3⟩
  ·obtain ⟨q,hg,rfl⟩:=List.mem_map.1 hs
   obtain ⟨i,hi,rfl⟩:=List.getElem_of_mem hg;exact (hq i hi).2.2
theorem qgM:Tryz.prog.underlying 26=some (.struct (Tryz.prog.fieldsOf 26)):=by kernel_rfl
theorem net_two:(Tryz.prog.fieldsOf 26).size=2:=by kernel_rfl
theorem net_f0:((Tryz.prog.fieldsOf 26)[0]?).map (λf=>(f.type,f.offset,Tryz.prog.cellsOf f.type))=some (23,0,1):=by kernel_rfl
theorem net_f1:((Tryz.prog.fieldsOf 26)[1]?).map (λf=>(f.type,f.offset,Tryz.prog.cellsOf f.type))=some (24,1,1):=by kernel_rfl
theorem list2 {α:Type} {l:List α} (h:l.length=2):∃a b,l=[a,b]:=by
 match l,h with
 | [a,b],_=>exact ⟨a,b,rfl⟩
theorem NetD.fits.ok {n:NetD} (h:n.fits):n.ok:=
 ⟨h.1,h.2.1,λv hv=>by
  obtain ⟨h1,h2,h3,h4,h5,h6,h7,h8⟩:=h.2.2.2 v hv;exact ⟨h1,h2,h3,h4,h5,h7⟩⟩
theorem qef {w:Zp1} {B B' e s n:Nat} {v:Value} {xs:List Value} (h:w.ownsRow B e s v n xs) (hB:B'<=B):w.ownsRow B' e s v n xs:=by
 refine ⟨h.1,?_⟩;rcases h.2 with h|⟨g,cap,cur,h1,h2,h3⟩
 ·exact .inl h
 ·exact .inr ⟨g,cap,cur,h1,Zv hB h2,h3⟩
abbrev RQ:=NodeQ × List Value
def RQ.cells (x:RQ):List Value:=x.1.cells
def RQ.Phi (B:Nat) (x:RQ) (W:Zp1):Prop:=W.ownsRow B 22 1 (.slice x.1.Q x.1.v.p.length x.1.q) x.1.v.p.length x.2
def RQ.Good (w:Zp1) (x:RQ):Prop:=(Ints iQ w x.1.S x.1.v.op.s/\x.1.v.op.s.length<=x.1.c/\x.1.c<=9223372036854775807)/\(Ints iQ w x.1.I x.1.v.ins/\x.1.v.ins.length<=x.1.d/\x.1.d<=9223372036854775807)/\RowOf w x.2 x.1.v.p
def RefRow (t:TypeId) (B C:Nat) (w W:Zp1) (v:Value) (ns:List NodeD):Prop:=
 ∃L:List RQ,L.map (λx=>x.1.v)=ns/\OwnRow B C W t 10 v RQ.cells (RQ.Phi B) L/\∀x∈L,RQ.Good w x
theorem RQ.len (x:RQ):(RQ.cells x).length=10:=rfl
theorem RefRow.nil (t:TypeId) (B:Nat) (w W:Zp1):RefRow t B W.heap.size w W (sQ none 0 0) []:=⟨[],rfl,OwnRow.nil _ _ _ _ _ _,by simp⟩
theorem RefRow.form {t:TypeId} {B C:Nat} {w W:Zp1} {v:Value} {ns:List NodeD} (h:RefRow t B C w W v ns):∃A c,v=sQ A ns.length c/\ns.length<=c/\(∀b,v.ownBlock=some b->B<=b/\b<C):=by
 obtain ⟨L,hL,hO,_⟩:=h;obtain ⟨A,c,e,hc⟩:=hO.form;have hl:L.length=ns.length:=by rw [←hL];simp
 rw [hl] at e hc;exact ⟨A,c,e,hc,λb hb=>⟨(hO.1.lt b hb).1,hO.2.1 b hb⟩⟩
theorem RefRow.fr {t:TypeId} {B C:Nat} {w W W':Zp1} {v:Value} {ns:List NodeD} {S:Nat->Prop} (h:RefRow t B C w W v ns) (hf:Fr S W W') (hS:∀b,B<=b->b<C->¬S b):RefRow t B C w W' v ns:=by
 obtain ⟨L,hL,hO,hG⟩:=h;exact ⟨L,hL,hO.fr hf hS,hG⟩
theorem RefRow.nodes {t:TypeId} {B C:Nat} {w W:Zp1} {v:Value} {ns:List NodeD} (h:RefRow t B C w W v ns) (hb:Below w.heap.size w W):
  ∃A c,v=sQ A ns.length c/\ns.length<=c/\c<=9223372036854775807/\Nodes W A ns:=by
 obtain ⟨L,rfl,hO,hG⟩:=h;rw [List.length_map];rcases hO.1.2 with ⟨rfl,h0⟩|⟨g,cap,cur,rfl,_,hh,hd,hf,_⟩
 ·have:L=[]:=List.eq_nil_of_length_eq_zero h0
  subst this;exact ⟨none,0,rfl,by simp,by omega,λj hj=>absurd hj sZ⟩
 ·refine ⟨_,cap,rfl,hd,by unfold maxLen at hf;omega,λj hj=>?_⟩
  rw [List.length_map] at hj;obtain ⟨b,cap',e,_,_,_,hc⟩:=hO.at_ (λx=>RQ.len x) hj;injection e with e _ _
  injection e with e
  injection e with e
  subst e;obtain ⟨⟨s1,s2,s3⟩,⟨i1,i2,i3⟩,ha⟩:=hG L[j] (gmZ hj);have he:=hO.now L[j] (gmZ hj);obtain ⟨AQ,cQ,eQ,_,hQ,q1,q2⟩:=ha.shps he hb;injection eQ with e1 _ e2
  rw [List.getElem_map];refine ⟨g,0,L[j].1.S,L[j].1.c,L[j].1.I,L[j].1.d,L[j].1.Q,L[j].1.q,rfl,lt_of_block hh,?_,?_,?_,?_,?_,?_,?_,?_,?_,?_,⟨s1.below hb (lrZ _),s2,s3⟩,⟨i1.below hb (lrZ _),i2,i3⟩,by rw [e1];exact hQ,by rw [e2];exact q1,by rw [e2];exact q2⟩
  ·have:=hc 0 oZ;first|(simp;done)|simpa [RQ.cells,NodeQ.cells] using this
  ·have:=hc 1 oZ;first|(simp;done)|simpa [RQ.cells,NodeQ.cells] using this
  ·have:=hc 2 oZ;first|(simp;done)|simpa [RQ.cells,NodeQ.cells] using this
  ·have:=hc 3 oZ;first|(simp;done)|simpa [RQ.cells,NodeQ.cells] using this
  ·have:=hc 4 oZ;first|(simp;done)|simpa [RQ.cells,NodeQ.cells] using this
  ·have:=hc 5 oZ;first|(simp;done)|simpa [RQ.cells,NodeQ.cells] using this
  ·have:=hc 6 oZ;first|(simp;done)|simpa [RQ.cells,NodeQ.cells] using this
  ·have:=hc 7 oZ;first|(simp;done)|simpa [RQ.cells,NodeQ.cells] using this
  ·have:=hc 8 oZ;first|(simp;done)|simpa [RQ.cells,NodeQ.cells] using this
  ·have:=hc 9 oZ;first|(simp;done)|simpa [RQ.cells,NodeQ.cells] using this
theorem qeK {t:TypeId} {B C:Nat} {w W W':Zp1} {v v':Value} {L:List RQ} {x:NodeQ} {vs:List Value} {C2:Nat} (hO:OwnRow B C W t 10 v RQ.cells (RQ.Phi B) L) (hGL:∀x∈L,RQ.Good w x) (hC:C<=C2) (hB:B<=C2)
  (hown:W'.ownsRow B t 10 v' (L.length+1) (L.flatMap RQ.cells++x.cells)) (hg:W.grownBy W' v.ownBlock) (hat:v'.ownBlock=v.ownBlock∨v'.ownBlock=some W.heap.size)
  (hx:W.ownsRow C2 22 1 (.slice x.Q x.v.p.length x.q) x.v.p.length vs) (hG:RQ.Good w (x,vs)):RefRow t B W'.heap.size w W' v' (L.map (λx=>x.1.v)++[x.v]):=by
 refine ⟨L++[(x,vs)],by simp,?_,λy hy=>?_⟩
 ·refine hO.push (x:=((x,vs):RQ)) hown hg hat (F:=λb=>(Zb1 x.Q x.v.p.length x.q).ownBlock=some b) (λW2 h2=>?_) (λb hb=>?_)
  ·exact qad (qef hx hB) h2
  ·obtain ⟨h1,h2⟩:=hx.lt b hb
   exact ⟨by omega,h2,λe=>by have:=hO.2.1 b e.symm;omega⟩
 ·rcases List.mem_append.1 hy with hy|hy
  ·exact hGL y hy
  ·simp at hy;subst hy;exact hG
def qgN (n:NetD) (A:Option Addr) (c:Nat) (w:Zp1) (e:Ending) (w':Zp1):Prop:=
 ∃N' d',e=.returned (.agg #[sQ A n.inn.length c,sQ N' n.nodes.length d'])/\NetR w' A N' n/\n.nodes.length<=d'/\d'<=9223372036854775807/\Below w.heap.size w w'
def RInv (tN tR tE:TypeId) (n:NetD) (A N:Option Addr) (c d:Nat) (w0 w:Zp1) (k:Nat) (wx:Zp1):Prop:=
 Blk wx w.heap.size tN #[sQ A n.inn.length c,sQ N n.nodes.length d]/\Blk wx (w.heap.size+1) tR #[sQ none 0 0,sQ none 0 0]/\Below w.heap.size w wx/\
  ∃v,Blk wx (w.heap.size+2) tR #[sQ A n.inn.length c,v]/\RefRow tE (w.heap.size+3) wx.heap.size w0 wx v (n.nodes.take k)
def RefNetS (t:TypeId) (n:NetD) (A:Option Addr) (c:Nat) (w0 w:Zp1) (e:Ending) (w':Zp1):Prop:=
 ∃N' d' C,e=.returned (.agg #[sQ A n.inn.length c,sQ N' n.nodes.length d'])/\n.nodes.length<=d'/\d'<=9223372036854775807/\Below w.heap.size w w'/\RefRow t (w.heap.size+3) C w0 w' (sQ N' n.nodes.length d') n.nodes
theorem RefRow.net {t:TypeId} {B C:Nat} {w W:Zp1} {A N N':Option Addr} {d':Nat} {n:NetD} (h:RefRow t B C w W (sQ N' n.nodes.length d') n.nodes) (hb:Later w W) (hR:NetR w A N n):NetR W A N' n:=by
 obtain ⟨N2,d2,e2,-,-,ha⟩:=h.nodes hb;injection e2 with e3 _ _
 subst e3;exact ⟨hR.1.below hb (lrZ _),ha⟩
theorem RefNetS.netp {t:TypeId} {n:NetD} {A N:Option Addr} {c:Nat} {w w':Zp1} {e:Ending} (h:RefNetS t n A c w w e w') (hR:NetR w A N n):qgN n A c w e w':=by
 obtain ⟨N',d',C,rfl,h1,h2,hb,hr⟩:=h;exact ⟨N',d',rfl,hr.net hb hR,h1,h2,hb⟩
theorem qeg:(Tryz.prog.info? 67).map (λi=>(i.zero,i.size,i.bytes))=some (some (.agg #[nQ iQ 0,nQ iQ 0,nQ iQ 0,nQ iQ 0,nQ iQ 0,nQ iQ 0,nQ iQ 0,sQ none 0 0,sQ none 0 0,sQ none 0 0]),10,128):=by kernel_rfl
theorem ref_14s (A N:Option Addr) (c d:Nat) (n:NetD) (w0 w:Zp1) (hok:n.ok) (hl0:Later w0 w) (hR:NetR w0 A N n):
  Calls Tryz.prog 7 #[.agg #[sQ A n.inn.length c,sQ N n.nodes.length d]] w (RefNetS 67 n A c w0 w):=by
 obtain ⟨i1,hj,HM,gk,gj⟩:=info_parts qbW;obtain ⟨i2,hn,HG,HT,HU⟩:=info_parts qeg;have gv:=hok.2.1;have hi:=qfV w (.cells #[sQ A n.inn.length c,sQ N n.nodes.length d] 26) (.cells #[sQ none 0 0,sQ none 0 0] 39) (.cells #[sQ A n.inn.length c,sQ none 0 0] 39);have Hv:=((Blk.new w 26 #[sQ A n.inn.length c,sQ N n.nodes.length d]).alloc (.cells #[sQ none 0 0,sQ none 0 0] 39)).alloc (.cells #[sQ A n.inn.length c,sQ none 0 0] 39);have Hn:=(Blk.new (w.alloc (.cells #[sQ A n.inn.length c,sQ N n.nodes.length d] 26)) 39 #[sQ none 0 0,sQ none 0 0]).alloc (.cells #[sQ A n.inn.length c,sQ none 0 0] 39);have Hi:=Blk.new ((w.alloc (.cells #[sQ A n.inn.length c,sQ N n.nodes.length d] 26)).alloc (.cells #[sQ none 0 0,sQ none 0 0] 39)) 39 #[sQ A n.inn.length c,sQ none 0 0];rw [Zh1] at Hn;rw [Zh1,Zh1] at Hi;obtain ⟨H9,HR,Hs,Hx,Ho⟩:=zd5 hok hR Hv Hn Hi;clear hok hR Hv Hn Hi;go_enter Tryz.func7,Tryz.ntmps7;go_wp2_with fail;generalize ((w.alloc (.cells #[sQ A n.inn.length c,sQ N n.nodes.length d] 26)).alloc (.cells #[sQ none 0 0,sQ none 0 0] 39)).alloc (.cells #[sQ A n.inn.length c,sQ none 0 0] 39)=w1 at *;have Ht:=zI (show RInv 26 39 67 n A N c d w0 w 0 w1 from ⟨Hs.out,Hx.out,hi,_,Ho.out,by rw [List.take_zero];exact RefRow.nil _ _ _ _⟩);clear Hs Hx Ho hi
 go_loopw [15] (λi wx=>∃k:Nat,k<=n.nodes.length/\i=nQ iQ (k:Int)/\RInv 26 39 67 n A N c d w0 w k wx) (λi _=>n.nodes.length-(intOf i).toNat)
 case atStart=>exact ⟨0,Zt _,rfl,Ht.out⟩
 case round=>
  obtain ⟨k,hk,rfl,h6,hy,hB,v0,hs,hd⟩:=hrel;clear Ht;have go:=hs.lt
  by_cases Hj:k<n.nodes.length
  ·obtain ⟨b,off,S,sc,J,ic,Q,qc,rfl,hI,HO,HV,gr⟩:=HR.out.2.at_ Hj
   have hF:=H9.out.2.2 _ (gmZ Hj);have Hr:=Zb Hj;have gp:=hF.2.2.2.1;have HD:=hI.2.1;have HB:=hI.2.2.1;have Hy:=hI.2.2.2;generalize n.nodes[k]=v at *;obtain ⟨⟨y0,y1,y2,y3,y4,y5,y6,y7,y8,y9⟩,-⟩:=hI.below (hl0.call hB);have hx:=(Blk.new wr 59 #[nQ iQ v.op.kind,nQ iQ v.op.k,nQ iQ v.op.width,nQ iQ v.op.step,nQ iQ v.op.side,nQ iQ v.op.frm,nQ iQ v.op.to,sQ S v.op.s.length sc,sQ J v.ins.length ic,sQ Q v.p.length qc]).alloc (.cells #[nQ iQ v.op.kind,nQ iQ v.op.k,nQ iQ v.op.width,nQ iQ v.op.step,nQ iQ v.op.side,nQ iQ v.op.frm,nQ iQ v.op.to,sQ S v.op.s.length sc,sQ J v.ins.length ic,sQ none 0 0] 67);have hc:=Blk.new (wr.alloc (.cells #[nQ iQ v.op.kind,nQ iQ v.op.k,nQ iQ v.op.width,nQ iQ v.op.step,nQ iQ v.op.side,nQ iQ v.op.frm,nQ iQ v.op.to,sQ S v.op.s.length sc,sQ J v.ins.length ic,sQ Q v.p.length qc] 59)) 67 #[nQ iQ v.op.kind,nQ iQ v.op.k,nQ iQ v.op.width,nQ iQ v.op.step,nQ iQ v.op.side,nQ iQ v.op.frm,nQ iQ v.op.to,sQ S v.op.s.length sc,sQ J v.ins.length ic,sQ none 0 0];rw [Zh1] at hc;have gc:Below wr.heap.size wr ((wr.alloc (.cells #[nQ iQ v.op.kind,nQ iQ v.op.k,nQ iQ v.op.width,nQ iQ v.op.step,nQ iQ v.op.side,nQ iQ v.op.frm,nQ iQ v.op.to,sQ S v.op.s.length sc,sQ J v.ins.length ic,sQ Q v.p.length qc] 59)).alloc (.cells #[nQ iQ v.op.kind,nQ iQ v.op.k,nQ iQ v.op.width,nQ iQ v.op.step,nQ iQ v.op.side,nQ iQ v.op.frm,nQ iQ v.op.to,sQ S v.op.s.length sc,sQ J v.ins.length ic,sQ none 0 0] 67)):=qdC wr _ _;obtain ⟨h8,h9,Hm,hz,gq,HZ,HI,gf,HJ⟩:=zd9 h6 hy hs hd hI hF Hr HD HB;obtain ⟨HX,h7,hX⟩:=zd3 Hy hx hc;clear h6 hy hs hd hI hF Hr HD HB Hy hx hc;go_wp2_with fail;clear y0 y1 y2 y3 y4 y5 y6 y7 y8 y9;generalize ((wr.alloc (.cells #[nQ iQ v.op.kind,nQ iQ v.op.k,nQ iQ v.op.width,nQ iQ v.op.step,nQ iQ v.op.side,nQ iQ v.op.frm,nQ iQ v.op.to,sQ S v.op.s.length sc,sQ J v.ins.length ic,sQ Q v.p.length qc] 59)).alloc (.cells #[nQ iQ v.op.kind,nQ iQ v.op.k,nQ iQ v.op.width,nQ iQ v.op.step,nQ iQ v.op.side,nQ iQ v.op.frm,nQ iQ v.op.to,sQ S v.op.s.length sc,sQ J v.ins.length ic,sQ none 0 0] 67))=w2 at *
   obtain ⟨wo,rfl⟩:∃wo,wo=wr:=⟨wr,rfl⟩
   go_loopw [50] (λi wx=>∃(m:Nat) (vs:List Value) (u:Value),m<=v.p.length/\i=nQ iQ (m:Int)/\Blk wx wo.heap.size 59 #[nQ iQ v.op.kind,nQ iQ v.op.k,nQ iQ v.op.width,nQ iQ v.op.step,nQ iQ v.op.side,nQ iQ v.op.frm,nQ iQ v.op.to,sQ S v.op.s.length sc,sQ J v.ins.length ic,sQ Q v.p.length qc]/\Blk wx (wo.heap.size+1) 67 #[nQ iQ v.op.kind,nQ iQ v.op.k,nQ iQ v.op.width,nQ iQ v.op.step,nQ iQ v.op.side,nQ iQ v.op.frm,nQ iQ v.op.to,sQ S v.op.s.length sc,sQ J v.ins.length ic,u]/\wx.ownsRow (wo.heap.size+2) 22 1 u m vs/\RowOf w0 vs (v.p.take m)/\Below wo.heap.size wo wx/\wo.heap.size+2<=wx.heap.size) (λi _=>v.p.length-(intOf i).toNat)
   case atStart=>exact ⟨0,[],_,Zt _,rfl,h7.out,hX.out,World.ownsRow_nil _ _ _ _,RowOf.nil _,gc,by have:=hX.out.lt;omega⟩
   case round=>
    obtain ⟨m,vs,u,hm,rfl,hx,hc,hown,hJ,hi,gt⟩:=hrel;clear h7 hX;obtain ⟨A9,c9,rfl⟩:=qa8 hown
    by_cases Hu:m<v.p.length
    ·have hp:=hB.trans (hi.mono hB.size)
     obtain ⟨b5,o5,Ss,cs,rfl,-,Hp,Ha,ge,H0⟩:=HX.out m Hu;have HF:=qa1 (hl0.call hp) Hp;have ha:=hJ.push Ha ge H0;rw [←Zb Hu] at ha;have y9:wr.cell? ⟨wo.heap.size+1,9,none⟩=some (sQ A9 m c9):=by rw [hc.cell];rfl
     have f9:=hc.frozen 9;generalize v.p[m]=t at *;have ho:=qa6 hown (.cells #[sQ Ss t.length cs] 22);have hA:=hi.alloc hi.size (.cells #[sQ Ss t.length cs] 22);have hY:=hx.alloc (.cells #[sQ Ss t.length cs] 22);have hQ:=hc.alloc (.cells #[sQ Ss t.length cs] 22);have hH:∀b,(Zb1 A9 m c9).ownBlock=some b->wo.heap.size+2<=b:=λb hb=>(hown.lt b hb).1
     obtain ⟨h7,hX,Hz,hZ,Hl,He,hw,gn⟩:=zd8 hx hc hJ ha hY hQ hH Ha;clear hx hc hJ ha hY hQ hH Ha;clear hown Hp;go_wp2_with (at_builtin;refine wpList_append_own_at _ rfl _ _ 60 rfl (wo.heap.size+2) 22 i1 (sQ none 0 0) 1 24 Tryz.underlying60 hj HM gk gj rfl dZ _ _ _ rfl ho ⟨wr.heap.size,0,none⟩ 1 1 [sQ Ss t.length cs] rfl rfl ?c1 (by intro u hu;simp at hu;subst hu;rfl) (by unfold maxLen;omega) oZ ?c2 ?_)
     first|(case c1=>exact qap wr _ _)|skip
     case c2=>first|(simp;omega)|omega
     intro v' w3 hf hgrow _ gl;obtain ⟨A8,c8,rfl⟩:=qa8 hf;have hs:Below wo.heap.size wo w3:=hA.grown hgrow hA.size (λb hb=>by have:=hw.out b hb;omega);have gd:=hgrow.size;simp at gd;have hM:=Hl.out.grown hgrow (λe=>by have:=hw.out _ e.symm;omega);have hq:=He.out.grown hgrow (λe=>by have:=hw.out _ e.symm;omega);have y9':w3.cell? ⟨wo.heap.size+1,9,none⟩=some (sQ A9 m c9):=by rw [hq.cell];rfl
     have f9':=hq.frozen 9;have HK:=zI (hM.far (p:=⟨wo.heap.size+1,9,none⟩) sZ (sQ A8 (m+1) c8));have h0:=hq.set_ 9 (sQ A8 (m+1) c8);have HY:=zI (show Blk (w3.setCell ⟨wo.heap.size+1,9,none⟩ (sQ A8 (m+1) c8)) (wo.heap.size+1) 67 #[nQ iQ v.op.kind,nQ iQ v.op.k,nQ iQ v.op.width,nQ iQ v.op.step,nQ iQ v.op.side,nQ iQ v.op.frm,nQ iQ v.op.to,sQ S v.op.s.length sc,sQ J v.ins.length ic,sQ A8 (m+1) c8] from h0);have HW:=hs.setCell (p:=⟨wo.heap.size+1,9,none⟩) sZ (sQ A8 (m+1) c8);have HQ:=zI (qad (w':=w3.setCell ⟨wo.heap.size+1,9,none⟩ (sQ A8 (m+1) c8)) hf (λg hg=>Below.heap_setCell w3 _ _ g (by have:=(hf.lt g hg).1;simp;omega)));clear hf hgrow gl ho hA hM hq h0 y9 f9;go_wp2_with fail;go_roundw
     case rel=>exact ⟨m+1,_,_,by omega,by go_num,HK.out,HY.out,HQ.out,hZ.out,HW,by simp;omega⟩
     case measure=>simp [intOf];omega
    ·obtain rfl:m=v.p.length:=by omega
     rw [Zg] at hJ;have hp:=hB.trans (hi.mono hB.size);obtain ⟨y0,y1,y2,y3,y4,y5,y6,y7,y8,y9⟩:wr.cell? ⟨wo.heap.size+1,0,none⟩=some (nQ iQ v.op.kind)/\wr.cell? ⟨wo.heap.size+1,1,none⟩=some (nQ iQ v.op.k)/\wr.cell? ⟨wo.heap.size+1,2,none⟩=some (nQ iQ v.op.width)/\wr.cell? ⟨wo.heap.size+1,3,none⟩=some (nQ iQ v.op.step)/\wr.cell? ⟨wo.heap.size+1,4,none⟩=some (nQ iQ v.op.side)/\wr.cell? ⟨wo.heap.size+1,5,none⟩=some (nQ iQ v.op.frm)/\wr.cell? ⟨wo.heap.size+1,6,none⟩=some (nQ iQ v.op.to)/\wr.cell? ⟨wo.heap.size+1,7,none⟩=some (sQ S v.op.s.length sc)/\wr.cell? ⟨wo.heap.size+1,8,none⟩=some (sQ J v.ins.length ic)/\wr.cell? ⟨wo.heap.size+1,9,none⟩=some (sQ A9 v.p.length c9):=⟨hc.cell 0,hc.cell 1,hc.cell 2,hc.cell 3,hc.cell 4,hc.cell 5,hc.cell 6,hc.cell 7,hc.cell 8,hc.cell 9⟩
     obtain ⟨L,hL,hK,Hq⟩:=hz.out;obtain ⟨A0,c0,rfl,HN⟩:=hK.form;have hl:L.length=k:=by have:=congrArg List.length hL;simp at this;omega
     have ht:=Hm.out.below hi oZ;have hE:=h8.out.below hi (by have:=h8.out.lt;omega);have hC:=h9.out.below hi (by have:=h9.out.lt;omega);rw [hl] at HN;have hN:Fr (λb=>wo.heap.size<=b) wo wr:=Fr.of_below hi (λb hb hS=>by omega);have Hf:=(hK.fr hN (λb h1 h2 h3=>by omega)).fr ((Fr.refl (λ_=>False) wr).alloc (.cells #[nQ iQ v.op.kind,nQ iQ v.op.k,nQ iQ v.op.width,nQ iQ v.op.step,nQ iQ v.op.side,nQ iQ v.op.frm,nQ iQ v.op.to,sQ S v.op.s.length sc,sQ J v.ins.length ic,sQ A9 v.p.length c9] 67)) (λb h1 h2 h3=>h3);have hv:=qa6 hown (.cells #[nQ iQ v.op.kind,nQ iQ v.op.k,nQ iQ v.op.width,nQ iQ v.op.step,nQ iQ v.op.side,nQ iQ v.op.frm,nQ iQ v.op.to,sQ S v.op.s.length sc,sQ J v.ins.length ic,sQ A9 v.p.length c9] 67);have hT:=ht.alloc (.cells #[nQ iQ v.op.kind,nQ iQ v.op.k,nQ iQ v.op.width,nQ iQ v.op.step,nQ iQ v.op.side,nQ iQ v.op.frm,nQ iQ v.op.to,sQ S v.op.s.length sc,sQ J v.ins.length ic,sQ A9 v.p.length c9] 67);have hU:=hE.alloc (.cells #[nQ iQ v.op.kind,nQ iQ v.op.k,nQ iQ v.op.width,nQ iQ v.op.step,nQ iQ v.op.side,nQ iQ v.op.frm,nQ iQ v.op.to,sQ S v.op.s.length sc,sQ J v.ins.length ic,sQ A9 v.p.length c9] 67);have hV:=hC.alloc (.cells #[nQ iQ v.op.kind,nQ iQ v.op.k,nQ iQ v.op.width,nQ iQ v.op.step,nQ iQ v.op.side,nQ iQ v.op.frm,nQ iQ v.op.to,sQ S v.op.s.length sc,sQ J v.ins.length ic,sQ A9 v.p.length c9] 67);have hD:=hp.alloc hp.size (.cells #[nQ iQ v.op.kind,nQ iQ v.op.k,nQ iQ v.op.width,nQ iQ v.op.step,nQ iQ v.op.side,nQ iQ v.op.frm,nQ iQ v.op.to,sQ S v.op.s.length sc,sQ J v.ins.length ic,sQ A9 v.p.length c9] 67);have Hw:=Blk.new wr 67 #[nQ iQ v.op.kind,nQ iQ v.op.k,nQ iQ v.op.width,nQ iQ v.op.step,nQ iQ v.op.side,nQ iQ v.op.frm,nQ iQ v.op.to,sQ S v.op.s.length sc,sQ J v.ins.length ic,sQ A9 v.p.length c9]
     have hH:∀b,(Zb1 A0 L.length c0).ownBlock=some b->w.heap.size+3<=b:=λb hb=>(hK.1.lt b hb).1
     rw [hl] at hH;have z1:wr.cell? ⟨w.heap.size+2,1,none⟩=some (sQ A0 k c0):=by rw [ht.cell,hl];rfl
     have Hk:=Hf.1;rw [hl] at Hk;obtain ⟨h7,hX,H7,Hz,HS,HH,gi,gm,hO⟩:=zd9 hx hc hown hJ ht hE hC Hf hv;obtain ⟨Hh,Hc,Hd,H8,hw,HL,HE,gu,gb⟩:=zd9 hT hU hV Hw hH hL Hq hK hl;have gh:=zI Hk;clear hx hc hown hJ ht hE hC Hf hv hT hU hV Hw hH hL Hq hK hl Hk;clear hz h8 h9 Hm hN;go_wp2_with (at_builtin;refine wpList_append_own_at _ rfl _ _ 37 rfl (w.heap.size+3) 67 i2 (.agg #[nQ iQ 0,nQ iQ 0,nQ iQ 0,nQ iQ 0,nQ iQ 0,nQ iQ 0,nQ iQ 0,sQ none 0 0,sQ none 0 0,sQ none 0 0]) 10 128 Tryz.underlying37 hn HG HT HU rfl dZ _ k (L.flatMap RQ.cells) rfl gh.out ⟨wr.heap.size,0,none⟩ 1 1 [nQ iQ v.op.kind,nQ iQ v.op.k,nQ iQ v.op.width,nQ iQ v.op.step,nQ iQ v.op.side,nQ iQ v.op.frm,nQ iQ v.op.to,sQ S v.op.s.length sc,sQ J v.ins.length ic,sQ A9 v.p.length c9] rfl rfl ?c1 ?c2 ?c3 ?c4 ?c5 ?_)
     case c1=>exact World.news_of_block (cs:=#[nQ iQ v.op.kind,nQ iQ v.op.k,nQ iQ v.op.width,nQ iQ v.op.step,nQ iQ v.op.side,nQ iQ v.op.frm,nQ iQ v.op.to,sQ S v.op.s.length sc,sQ J v.ins.length ic,sQ A9 v.p.length c9]) H8.out
     case c2=>intro u hu;simp at hu;rcases hu with rfl|rfl|rfl|rfl|rfl|rfl|rfl|rfl|rfl|rfl<;>rfl
     case c3=>unfold maxLen;omega
     case c4=>omega
     case c5=>simp;omega
     intro v7 w7 he hG _ hr;obtain ⟨A7,c7,rfl⟩:=qa8 he;have HC:wr.heap.size+1=(wr.alloc (.cells #[nQ iQ v.op.kind,nQ iQ v.op.k,nQ iQ v.op.width,nQ iQ v.op.step,nQ iQ v.op.side,nQ iQ v.op.frm,nQ iQ v.op.to,sQ S v.op.s.length sc,sQ J v.ins.length ic,sQ A9 v.p.length c9] 67)).heap.size:=by simp
     rw [HC] at hr;clear HC;have hl:=gb.out;generalize (wr.alloc (.cells #[nQ iQ v.op.kind,nQ iQ v.op.k,nQ iQ v.op.width,nQ iQ v.op.step,nQ iQ v.op.side,nQ iQ v.op.frm,nQ iQ v.op.to,sQ S v.op.s.length sc,sQ J v.ins.length ic,sQ A9 v.p.length c9] 67))=w6 at *;have Hg:=hG;rw [←hl] at he Hg hr;have ha:=qeK (x:=(⟨v,S,sc,J,ic,A9,c9⟩:NodeQ)) (vs:=vs) gm.out HE.out (C2:=wo.heap.size+2) oZ oZ he Hg hr hO.out ⟨⟨gf.out,HO⟩,⟨HJ.out,HV⟩,Hz.out⟩;rw [HL.out] at ha;have ha:RefRow 67 (w.heap.size+3) w7.heap.size w0 w7 (sQ A7 (L.length+1) c7) (n.nodes.take (k+1)):=by rw [HI.out];exact ha
     rw [hl] at ha;have hh:=Hh.out.grown hG (λe=>by have:=hw.out _ e.symm;omega);have hW:=Hc.out.grown hG (λe=>by have:=hw.out _ e.symm;omega);have h4:=Hd.out.grown hG (λe=>by have:=hw.out _ e.symm;omega);rw [hl] at hh;have hP:Below w.heap.size w w7:=hD.grown hG hD.size (λb hb=>by have:=hw.out b hb;omega);have z1':w7.cell? ⟨w.heap.size+2,1,none⟩=some (sQ A0 k c0):=by rw [hh.cell];rfl
     have f1':=hh.frozen 1;have h5:Fr (λb=>b=w.heap.size+2) w7 (w7.setCell ⟨w.heap.size+2,1,none⟩ (sQ A7 (k+1) c7)):=(Fr.refl (λb=>b=w.heap.size+2) w7).setCell (p:=⟨w.heap.size+2,1,none⟩) (λ_=>rfl) (sQ A7 (k+1) c7);have HP:=zI (ha.fr h5 (λb h1 h2 h3=>by omega));have H1:=zI (h5.blk hW oZ);have H2:=zI (h5.blk h4 oZ);have h3:=hh.set_ 1 (sQ A7 (k+1) c7);have H3:=zI (show Blk (w7.setCell ⟨w.heap.size+2,1,none⟩ (sQ A7 (k+1) c7)) (w.heap.size+2) 39 #[sQ A n.inn.length c,sQ A7 (k+1) c7] from h3);have H4:=zI (hP.setCell (p:=⟨w.heap.size+2,1,none⟩) sZ (sQ A7 (k+1) c7));clear he hG Hg hr ha hh hW h4 hP h5 h3 hl hD hp;go_wp2_with fail;go_roundw
     case rel=>exact ⟨k+1,by omega,by go_num,H1.out,H2.out,H4.out,_,H3.out,by simpa using HP.out⟩
     case measure=>simp [intOf];omega
  ·obtain rfl:k=n.nodes.length:=by omega
   rw [Zg] at hd;obtain ⟨N',d',rfl,H6,H5,-⟩:=hd.nodes (hl0.call hB);have HA:Fr (λb=>b=w.heap.size+1) wr ((wr.setCell ⟨w.heap.size+1,0,none⟩ (sQ A n.inn.length c)).setCell ⟨w.heap.size+1,1,none⟩ (sQ N' n.nodes.length d')):=((Fr.refl (λb=>b=w.heap.size+1) wr).setCell (p:=⟨w.heap.size+1,0,none⟩) (λ_=>rfl) _).setCell (p:=⟨w.heap.size+1,1,none⟩) (λ_=>rfl) _;have Hb:Below w.heap.size w ((wr.setCell ⟨w.heap.size+1,0,none⟩ (sQ A n.inn.length c)).setCell ⟨w.heap.size+1,1,none⟩ (sQ N' n.nodes.length d')):=(hB.setCell (p:=⟨w.heap.size+1,0,none⟩) sZ _).setCell (p:=⟨w.heap.size+1,1,none⟩) sZ _;have gg:=zI (hd.fr HA (λb h1 h2 h3=>by omega));have z0:wr.cell? ⟨w.heap.size+2,0,none⟩=some (sQ A n.inn.length c):=by rw [hs.cell];rfl
   have z1:wr.cell? ⟨w.heap.size+2,1,none⟩=some (sQ N' n.nodes.length d'):=by rw [hs.cell];rfl
   have r0:wr.cell? ⟨w.heap.size+1,0,none⟩=some (sQ none 0 0):=by rw [hy.cell];rfl
   have r1:wr.cell? ⟨w.heap.size+1,1,none⟩=some (sQ none 0 0):=by rw [hy.cell];rfl
   have f0:=hy.frozen 0;have f1:=hy.frozen 1;clear HA;obtain ⟨h8,h9,Hm,hz⟩:=zd4 h6 hy hs hd;clear h6 hy hs hd;go_wp2_with fail;exact Zk1 (v:=.agg #[sQ A n.inn.length c,sQ N' n.nodes.length d']) (by simp [results,Tryz.results7,go_sem,r0,r1]) rfl ⟨N',d',_,rfl,H6,H5,Hb,gg.out⟩
theorem qgO (A N:Option Addr) (c d:Nat) (n:NetD) (w:Zp1) (hok:n.ok) (hR:NetR w A N n):
  Calls Tryz.prog 7 #[.agg #[sQ A n.inn.length c,sQ N n.nodes.length d]] w (qgN n A c w):=
 (ref_14s A N c d n w w hok (Later.refl _) hR).mono λ_ _ h=>h.netp hR
def RefCheckP (n:NetD) (w:Zp1) (e:Ending) (w':Zp1):Prop:=
 Below w.heap.size w w'/\((Nt.check n=0/\∃g,e=.returned (.tuple #[sQ (some ⟨g,0,none⟩) (n.nodes.length+1) (n.nodes.length+1),nQ iQ (Nt.loss n.nodes),nQ iQ 0])/\w.heap.size<=g/\ShpRow w' g 22 (Nt.shapes n))∨
  (Nt.check n≠0/\e=.returned (.tuple #[sQ none 0 0,nQ iQ 0,nQ iQ (Nt.check n)])))
theorem RefCheckP.err {n:NetD} {w w':Zp1} {k:Int} (h:Nt.check n=k) (hk:k≠0) (hb:Below w.heap.size w w'):RefCheckP n w (.returned (.tuple #[sQ none 0 0,nQ iQ 0,nQ iQ k])) w':=
 ⟨hb,.inr (by rw [h];exact ⟨hk,rfl⟩)⟩
theorem ShpRow.apart {w:Zp1} {g:Nat} {t:TypeId} {sh:List (List Int)} {S:Option Addr} {s:List Int} (h:ShpRow w g t sh) (hI:Ints iQ w S s) (hs:0<s.length):∀a,S=some a->a.block≠g:=by
 intro a ha hg;obtain ⟨b,off,e,hl,hc⟩:=hI 0 hs;rw [ha] at e;injection e with e
 subst e;simp at hg;subst hg;obtain ⟨vs,hb,hk,hv⟩:=h;rw [Zx,hk.cell off] at hc
 by_cases ho:off<sh.length
 ·obtain ⟨S',c',e1,_⟩:=hv off ho
  simp at hc;rw [e1] at hc;simp at hc
 ·rw [Array.getElem?_eq_none soZ] at hc
  cases hc
theorem Nt.count_used (ns:List NodeD) (id:Int):(Nt.count ns id=0)↔Nt.isUsed ns id=false:=by
 unfold Nt.count Nt.isUsed;rw [List.length_eq_zero_iff,List.filter_eq_nil_iff,List.any_eq_false]
theorem qcE (A N:Option Addr) (c d:Nat) (n:NetD) (w:Zp1) (hok:n.ok) (hR:NetR w A N n) (hd:n.nodes.length<=d) (hc:n.inn.length<=c) (hcm:c<=9223372036854775807):
  Calls Tryz.prog 14 #[.agg #[sQ A n.inn.length c,sQ N n.nodes.length d]] w (RefCheckP n w):=by
 obtain ⟨i1,hj,Gb,Gh,Gg⟩:=info_parts qbW;have GP:=hok.2.1;have Gj:=hok.1;have hV:Below w.heap.size w (w.alloc (.cells #[sQ A n.inn.length c,sQ N n.nodes.length d] 39)):=(Ze1 _ _).alloc (lrZ _) _;have gh:=Blk.new w 39 #[sQ A n.inn.length c,sQ N n.nodes.length d];have gf:=hR.below hV (lrZ _)
 by_cases hN:n.nodes.length<1∨512<n.nodes.length
 ·have HC:=zI (Nt.check_many hN)
  obtain ⟨HR,HB,gE,gi⟩:=zd4 hR hok gf gh;clear hR hok gf gh;rcases hN with h|h
  ·have d1:decide ((n.nodes.length:Int)<1)=true:=by simp;omega
   go_enter Tryz.func14,Tryz.ntmps14;go_wp2_with fail
   go_ret3
   exact RefCheckP.err HC.out oZ hV
  ·have d1:decide ((n.nodes.length:Int)<1)=false:=by simp;omega
   have d2:decide ((512:Int)<(n.nodes.length:Int))=true:=by simp;omega
   go_enter Tryz.func14,Tryz.ntmps14;go_wp2_with fail
   go_ret3
   exact RefCheckP.err HC.out oZ hV
 ·have d1:decide ((n.nodes.length:Int)<1)=false:=by simp;omega
  have d2:decide ((512:Int)<(n.nodes.length:Int))=false:=by simp;omega
  have Gp:n.nodes.length<=512:=by omega
  have Gk:1<=n.nodes.length:=by omega
  obtain ⟨HR,HB,gE,gi,ho⟩:=zd5 hR hok gf gh hN;clear hR hok gf gh hN;go_enter Tryz.func14,Tryz.ntmps14;go_wp2_with fail;have hx:=gi.out;generalize w.alloc (.cells #[sQ A n.inn.length c,sQ N n.nodes.length d] 39)=w1 at *;have he:=gi.out;refine (qaF A c n.inn _ oZ gE.out.1).mono ?_;rintro e w2 ⟨rfl,rfl⟩;have x1:w1.cell? ⟨w.heap.size,1,none⟩=some (sQ N n.nodes.length d):=by rw [he.cell];rfl
  clear d1 d2 hx
  by_cases H8:Sh.right n.inn=true
  rotate_left
  ·have Hn:Sh.right n.inn=false:=by simpa using H8
   have HC:=zI (Nt.check_in ho.out Hn);rw [Hn];have hf:=zI he;clear he;clear H8 Hn;go_wp2_with fail
   go_ret3
   exact RefCheckP.err HC.out oZ hV
  ·have h8:=zI H8
   rw [H8];have hf:=zI he;clear he;clear H8;go_wp2_with fail;clear x1 gE gi
   go_loopw [5] (λi wr=>∃k:Nat,k<=n.nodes.length/\i=nQ iQ k/\Blk wr w.heap.size 39 #[sQ A n.inn.length c,sQ N n.nodes.length d]/\Below w.heap.size w wr/\qdg n k) (λi _=>n.nodes.length-(intOf i).toNat)
   case atStart=>exact ⟨0,Zt _,rfl,hf.out,hV,λj hj h=>by omega⟩
   case round=>
    clear hf hV;obtain ⟨k,hk,rfl,he,hH,hC⟩:=hrel;have Gd:=he.lt;have x1:wr.cell? ⟨w.heap.size,1,none⟩=some (sQ N n.nodes.length d):=by rw [he.cell];rfl
    by_cases hU:k<n.nodes.length
    ·obtain ⟨b,off,S,sc,J,ic,Q,qc,rfl,Hc,-,hI,-⟩:=HR.out.2.at_ hU
     have hL:=HB.out.2.2 _ (gmZ hU);have HK:=λh=>Nt.bads_op (n:=n.nodes.length) hU hC h
     have H0:=λh m (hm:m<n.nodes[k].ins.length) h2=>Nt.bads_in (n:=n.nodes.length) hU hC h (m:=m) hm h2
     have Hf:Od.right n.nodes[k].op=true->n.nodes[k].ins.all (λi=>decide (0<=i/\i<=n.nodes.length))=true->qdg n (k+1):=λh1 h2 j hj GD=>by
      by_cases e:j=k
      ·subst e;exact ⟨h1,h2⟩
      ·exact hC j hj oZ
     have Gj:=hL.2.2.1;have Gv:=hL.2.1;generalize n.nodes[k]=v at *;have Hv:=Hc.below hH;obtain ⟨⟨y0,y1,y2,y3,y4,y5,y6,y7,y8,y9⟩,-⟩:=Hc.below hH;have hh:=qet v.op S sc wr oZ;rw [Od.ref_right] at hh;obtain ⟨hf,GK,Go,gn,gJ,HY,Gn,gt,hQ⟩:=zd9 he Hc hL HK H0 Hf Hv hC hh;clear he Hc hL HK H0 Hf Hv hC hh;go_wp2_with fail;refine (hQ.out).mono ?_;rintro e w2 ⟨rfl,Ht⟩;have hS:=hH.trans (Ht.mono hH.size);have hb:=hf.out.below Ht Gd;clear x1;have x1:w2.cell? ⟨w.heap.size,1,none⟩=some (sQ (some ⟨b,off,none⟩) n.nodes.length d):=by rw [hb.cell];rfl
     have g9:=Gn.out.below Ht;obtain ⟨⟨-,-,-,-,-,-,-,-,z8,-⟩,-,gb,-⟩:=g9;clear y0 y1 y2 y3 y4 y5 y6 y7 y8 y9 hf hQ
     by_cases HA:Od.right v.op=true
     rotate_left
     ·have Hw:Od.right v.op=false:=by simpa using HA
      have hc:=gn.out Hw;have HC:=zI ((Nt.check_bads ho.out h8.out (by rw [hc];omega)).trans hc);rw [Hw];obtain ⟨hD,gZ⟩:=zd2 hb gb;clear hb gb;clear HA hc Hw;go_wp2_with fail
      go_ret3
      exact RefCheckP.err HC.out oZ hS
     ·have g8:=zI HA
      rw [HA];obtain ⟨hD,gZ⟩:=zd2 hb gb;clear hb gb;clear HA;go_wp2_with fail
      go_loopw [6] (λi wx=>∃m q:Nat,m<=v.ins.length/\i=nQ iQ m/\(∀j (hj:j<v.ins.length),j<m->0<=v.ins[j]/\v.ins[j]<=n.nodes.length)/\wx=w2.drewN q) (λi _=>v.ins.length-(intOf i).toNat)
      case atStart=>exact ⟨0,0,Zt _,rfl,(λj hj h=>by omega),rfl⟩
      case round=>
       obtain ⟨m,q,hm,rfl,hF,rfl⟩:=hrel
       by_cases HX:m<v.ins.length
       ·obtain ⟨b1,off1,rfl,-,hc⟩:=gZ.out m HX
        rw [qa2 HX] at hc;have gy:=gJ.out g8.out m HX
        have HI:(0<=v.ins[m]/\v.ins[m]<=n.nodes.length)->∀j (hj:j<v.ins.length),j<m+1->0<=v.ins[j]/\v.ins[j]<=n.nodes.length:=λh j hj GH=>by
         by_cases e:j=m
         ·subst e;exact h
         ·exact hF j hj oZ
        generalize v.ins[m]=u at *;have m0:(0:Int)<=(m:Int):=by omega
        have m1:(m:Int)<(v.ins.length:Int):=by omega
        have k0:(0:Int)<=(k:Int):=by omega
        have k1:(k:Int)<(n.nodes.length:Int):=by omega
        by_cases hu:0<=u/\u<=n.nodes.length
        ·have HN:=zI (HI hu)
         have e1:decide (u<0)=false:=by simp;omega
         have e2:decide ((n.nodes.length:Int)<u)=false:=by simp;omega
         clear hu gy;obtain ⟨Gq,H4⟩:=zd2 HI hF;clear HI hF;go_wp2_with fail
         go_quiet (fail)
         go_wp2_with fail;go_roundw
         case rel=>exact ⟨m+1,_,by omega,by go_num,HN.out,by first|rfl|exact World.drewN_drewN _ _ _⟩
         case measure=>simp [intOf];omega
        ·have gD:=gy hu
         have HC:=zI ((Nt.check_bads ho.out h8.out (by rw [gD];omega)).trans gD);clear gD gy;obtain ⟨Gq,H4⟩:=zd2 HI hF;clear HI hF
         by_cases H3:u<0
         ·have e1:decide (u<0)=true:=by simpa using H3
          clear hu;go_wp2_with fail
          go_quiet (fail)
          go_wp2_with fail
          go_ret3
          exact RefCheckP.err HC.out oZ (by first|exact qdi hS _ _|exact qa7 hS _)
         ·have e1:decide (u<0)=false:=by simpa using H3
          have e2:decide ((n.nodes.length:Int)<u)=true:=by simp;omega
          clear hu;go_wp2_with fail
          go_quiet (fail)
          go_wp2_with fail
          go_ret3
          exact RefCheckP.err HC.out oZ (by first|exact qdi hS _ _|exact qa7 hS _)
       ·obtain rfl:m=v.ins.length:=by omega
        have HN:=zI (HY.out g8.out (List.all_eq_true.2 λi hi=>by obtain ⟨j,hj,rfl⟩:=List.getElem_of_mem hi;simpa using hF j hj hj));have H4:=zI hF;clear hF;go_wp2_with fail;go_roundw
        case rel=>exact ⟨k+1,by omega,by go_num,hD.out.drewN q,qa7 hS q,HN.out⟩
        case measure=>simp [intOf];omega
    ·obtain rfl:k=n.nodes.length:=by omega
     have hV:Nt.bads n.nodes.length n.nodes=0:=Nt.bads_none hC;have HJ:∀v∈n.nodes,∀i∈v.ins,0<=i/\i<=n.nodes.length:=λv hv=>(Nt.bads_all hV v hv).2
     have HP:∀v∈n.nodes,Od.right v.op=true:=λv hv=>(Nt.bads_all hV v hv).1
     have x0:wr.cell? ⟨w.heap.size,0,none⟩=some (sQ A n.inn.length c):=by rw [he.cell];rfl
     obtain ⟨gt,hf,gj,gq,gk⟩:=zd5 hC he hV HJ HP;clear hC he hV HJ HP;go_wp2_with fail;refine (qcp A N c d n _ HB.out (HR.out.below hH (lrZ _))).mono ?_;rintro e w2 ⟨O,oc,rfl,hO,gO,Ga,Ht⟩;have h0:=hH.trans (Ht.mono hH.size);have hb:=hf.out.below Ht hf.out.lt;have gG:w.heap.size<w2.heap.size:=hb.lt;clear x0 x1;have x0:w2.cell? ⟨w.heap.size,0,none⟩=some (sQ A n.inn.length c):=by rw [hb.cell];rfl
     have x1:w2.cell? ⟨w.heap.size,1,none⟩=some (sQ N n.nodes.length d):=by rw [hb.cell];rfl
     clear hf;have gK:(Nt.sorted n.nodes).length<=n.nodes.length:=Kn.order_len_le _ _
     by_cases hT:(Nt.sorted n.nodes).length=n.nodes.length
     rotate_left
     ·have HC:=zI (Nt.check_cyc ho.out h8.out gj.out hT)
      have e1:decide (((Nt.sorted n.nodes).length:Int)<(n.nodes.length:Int))=true:=by simp;omega
      have e2:decide ((Nt.sorted n.nodes).length<n.nodes.length)=true:=by simp;omega
      generalize Nt.sorted n.nodes=os at *;obtain ⟨hD,gr,HO⟩:=zd3 hb hT hO;clear hb hT hO;go_wp2_with fail
      go_ret3
      exact RefCheckP.err HC.out oZ h0
     ·have hJ:=λh5=>Nt.check_lay ho.out h8.out gj.out hT h5
      have ht:=λh5 h6=>Nt.check_loss ho.out h8.out gj.out hT h5 h6
      have hw:=λh5 h6=>Nt.check_last ho.out h8.out gj.out hT h5 h6
      have hy:=λh5:(Nt.lay n.nodes (Nt.start n) (Nt.sorted n.nodes)).2=0=>Nt.lay_good h8.out (Nt.sorted n.nodes).length (lrZ _) (by rw [Zg];exact h5)
      rw [Zg] at hy;have h4:∀u,u∈Nt.sorted n.nodes↔1<=u/\u<=n.nodes.length:=Kn.order_full (I:=Nt.insF n.nodes) (n:=n.nodes.length) hT;have Hm:(Nt.lay n.nodes (Nt.start n) (Nt.sorted n.nodes)).1=Nt.shapes n:=rfl;have Hq:∀u∈Nt.sorted n.nodes,1<=u/\u<=n.nodes.length:=Kn.order_rng _ _;have Hj:∀a b u,Nt.sorted n.nodes=a++u::b->∀i∈Nt.insF n.nodes u,i=0∨i∈a:=λa b u h=>Kn.order_behind _ _ h
      rw [hT];obtain ⟨os,hos⟩:∃os,Nt.sorted n.nodes=os:=⟨_,rfl⟩
      have hZ:∀k,k<=os.length->∀sh,Nt.lay n.nodes (Nt.start n) (os.take k)=(sh,0)->Nt.Good (os.take k) sh/\sh.length=n.nodes.length+1:=λk hk sh h=>by
       have:=qdH (n:=n) h8.out (k:=k) (by rw [hos];exact hk) (sh:=sh) (by rw [hos];exact h);rw [hos] at this;exact this
      rw [hos] at hJ ht hw hy h4 Hm hO hT gO gK Hq Hj;rw [hT] at gO
      have gT:∀a,A=some a->a.block<w.heap.size:=λa ha=>by
       obtain ⟨b,off,e,hl,-⟩:=HR.out.1 0 (qa4 h8.out).1;rw [ha] at e;injection e with e;subst e;exact hl
      have H6:=HR.out.1.below h0 (lrZ _);have e1:iQ.wrap ((n.nodes.length:Int)+1)=((n.nodes.length+1:Nat):Int):=by rw [Zc1 _ oZ];omega
      obtain ⟨Hr,Ha,h7,Hu,HF,gv,gr,GM,HO⟩:=zd9 hJ ht hw hy h4 Hm hT hos hO;obtain ⟨hD,gB,go,Hp,Gz,HQ⟩:=zd6 hb Hq Hj hZ gT H6;clear hJ ht hw hy h4 Hm hT hos hO hb Hq Hj hZ gT H6;go_wp2_with (at_make;refine wpList_make_full _ rfl _ _ 60 rfl w2.heap.size 22 i1 (sQ none 0 0) 1 Tryz.underlying60 hj Gb Gh _ _ _ _ (n.nodes.length+1) rfl rfl (by first|rfl|simp|(go_simp;rfl)) (by first|rfl|simp|(go_simp;rfl)) ?b2 ?b3 ?b4 ?_)
      case b2=>rw [Gg];omega
      case b3=>unfold maxLen;omega
      case b4=>exact lrZ _
      intro w3 hown hgrow;have Hk:=qau hown;rw [qax] at Hk;obtain ⟨g,hg⟩:∃g,w2.heap.size=g:=⟨_,rfl⟩
      have hq:ShpRow w3 g 22 (Zc (n.nodes.length+1) []):=by rw [←hg];exact ShpRow.new (by simpa [Blk] using Hk)
      have H7:Below w2.heap.size w2 w3:=(Ze1 _ w2).grown hgrow (lrZ _) sZ;have HE:=h0.trans (H7.mono h0.size);have hB:=hD.out.below H7 gG;have hW:=hq.set_ (i:=0) (HQ.out.below H7 (lrZ _)) hc hcm (λa ha=>by have:=Gz.out a ha;omega);rw [show (Zc (n.nodes.length+1) ([]:List Int)).set 0 n.inn=Nt.start n from rfl] at hW;have Hb:=hB.far (p:=⟨g,0,none⟩) soZ (sQ A n.inn.length c);have H5:=HE.setCell (p:=⟨g,0,none⟩) soZ (sQ A n.inn.length c);have g4:=(HO.out.below H7 (lrZ _))
      obtain ⟨S0,c0,z0,-⟩:=hq.at_ (j:=0) sZ;have f0:w3.frozen? ⟨g,0,none⟩=false:=by obtain ⟨vs,_,hk,_⟩:=hq;exact hk.frozen 0
      have gI:∀a,O=some a->a.block≠g:=λa ha=>by
       obtain ⟨b,off,e,hl,-⟩:=HO.out 0 (by have:=gr.out;omega);rw [ha] at e;injection e with e;subst e;simp;omega
      have g5:=g4.set_far (p:=⟨g,0,none⟩) gI (sQ A n.inn.length c);clear x0 x1;have x0:w3.cell? ⟨w.heap.size,0,none⟩=some (sQ A n.inn.length c):=by rw [hB.cell];rfl
      have x1:w3.cell? ⟨w.heap.size,1,none⟩=some (sQ N n.nodes.length d):=by rw [hB.cell];rfl
      rw [hg];have GG:w.heap.size<g:=by omega
      have gC:¬w.heap.size=g:=by omega
      clear Hk hown hgrow hq g4 h0 Ht hH hg;obtain ⟨Hd,HM,He,gc,Gm⟩:=zd5 hW hB Hb g5 gI;clear hW hB Hb g5 gI;clear HO HQ;go_wp2_with fail;clear z0 f0 x0 x1 H7 HE
      go_loopw [9] (λi wr=>∃k:Nat,k<=os.length/\i=nQ iQ k/\Blk wr w.heap.size 39 #[sQ A n.inn.length c,sQ N n.nodes.length d]/\Below w.heap.size w wr/\Ints iQ wr O os/\∃sh,Nt.lay n.nodes (Nt.start n) (os.take k)=(sh,0)/\ShpRow wr g 22 sh) (λi _=>os.length-(intOf i).toNat)
      case atStart=>exact ⟨0,Zt _,rfl,He.out,H5,gc.out,Nt.start n,rfl,Hd.out⟩
      case round=>
       obtain ⟨k,hk,rfl,he,hH,hO,sh,hn,hq⟩:=hrel;clear Hd HM He gc H5;obtain ⟨hY,gw⟩:=Hp.out k hk sh hn;have x1:wr.cell? ⟨w.heap.size,1,none⟩=some (sQ N n.nodes.length d):=by rw [he.cell];rfl
       have g3:=gr.out
       by_cases hU:k<os.length
       ·obtain ⟨b,off,rfl,-,hc⟩:=hO k hU
        rw [qa2 hU] at hc;have hr:=gB.out _ (gmZ hU);have hK:os=os.take k++os[k]::os.drop (k+1):=by rw [←Zd hU,Zn]
        have gu:=go.out _ _ _ hK;obtain ⟨j,hj'⟩:∃j:Nat,os[k]=(j:Int)+1:=⟨(os[k]-1).toNat,by omega⟩
        have Hz:j<n.nodes.length:=by omega
        have hs:=λh:(Nt.layStep n.nodes sh os[k]).2=0=>Nt.lay_snoc (id:=os[k]) hn h
        have hM:=λh:(Nt.layStep n.nodes sh os[k]).2≠0=>Nt.lay_fail (b:=os.drop (k+1)) (id:=os[k]) hn h
        rw [←Zb hU] at hs;rw [←hK] at hM;have gN:Nt.layStep n.nodes sh os[k]=Od.shape n.nodes[j].op n.nodes[j].p (Nt.pick sh n.nodes[j].ins):=by unfold Nt.layStep;rw [hj',Nt.node_at Hz]
        have gW:Nt.insF n.nodes os[k]=n.nodes[j].ins:=by unfold Nt.insF;rw [hj',Nt.node_at Hz]
        rw [gN] at hs hM;rw [gW] at gu;rw [hj'] at hc hs;rw [show ((j:Int)+1).toNat=j+1 by omega] at hs;have hL:=HB.out.2.2 _ (gmZ Hz);have gU:=gk.out _ (gmZ Hz);have Ho:=gq.out _ (gmZ Hz);obtain ⟨b1,off1,S,sc,J,ic,Q,qc,rfl,Hc,gA,GJ,GE⟩:=HR.out.2.at_ Hz;have g2:∀i∈n.nodes[j].ins,0<=i/\i.toNat<sh.length/\Sh.right (sh.getD i.toNat [])=true:=λi hi=>⟨(Ho i hi).1,by have:=Ho i hi;omega,hY i (gu i hi)⟩
        generalize n.nodes[j]=v at *;have Hv:=Hc.below hH;obtain ⟨⟨y0,y1,y2,y3,y4,y5,y6,y7,y8,y9⟩,-⟩:=Hc.below hH;have j1:iQ.wrap ((j:Int)+1-1)=(j:Int):=by rw [Zc1 _ oZ];omega
        have j2:(j:Int)<n.nodes.length:=by omega
        have j0:(0:Int)<=(j:Int):=by omega
        have k0:(0:Int)<=(k:Int):=by omega
        have k1:(k:Int)<(n.nodes.length:Int):=by omega
        have j4:(0:Int)<=(j:Int)+1:=by omega
        have j5:iQ.wrap (j:Int)=(j:Int):=Zc1 _ oZ
        have hh:∀W:Zp1,Ints iQ W S v.op.s->Ints iQ W J v.ins->Shps W Q v.p->Shps W (some ⟨g,0,none⟩) sh->Calls Tryz.prog 33 #[.agg #[nQ iQ v.op.kind,nQ iQ v.op.k,nQ iQ v.op.width,nQ iQ v.op.step,nQ iQ v.op.side,nQ iQ v.op.frm,nQ iQ v.op.to,sQ S v.op.s.length sc,sQ J v.ins.length ic,sQ Q v.p.length qc],sQ (some ⟨g,0,none⟩) (n.nodes.length+1) (n.nodes.length+1)] W (RefP (Od.shape v.op v.p (Nt.pick sh v.ins)) W):=λW q1 q2 q3 q4=>by
         rw [←gw];exact qev v S J Q sc ic qc g sh.length sh W hL gU gA.1 gA.2 q1 q2 q3 q4 g2
        have HG:=λh:(Od.shape v.op v.p (Nt.pick sh v.ins)).2=0=>qa4 (Od.shape_right h)
        generalize Od.shape v.op v.p (Nt.pick sh v.ins)=r at *;have Hs:=hh;have F1:=zI Hv.2.1;have F2:=zI Hv.2.2.1;have F3:=zI Hv.2.2.2;have F4:=zI hq.shps;obtain ⟨gY,HT⟩:=zd2 hh HG;have HL:=zI hs;have Gy:=zI hM;clear hh Hs HG hs hM Hv Hc g2 Ho hL gU gN gW gu hK hj' hY;obtain ⟨hf,HO,gl,Hi⟩:=zd4 he hO hn hq;clear he hO hn hq;have kn:k<n.nodes.length:=by omega
        go_wp2_with fail
        go_region_held3 (λw'=>w'.cell? ⟨w.heap.size,1,none⟩=some (sQ (some ⟨b1,off1,none⟩) n.nodes.length d)/\w'.cell? ⟨b,off+k,none⟩=some (nQ iQ ((j:Int)+1))/\w'.cell? ⟨b1,off1+j*10,none⟩=some (nQ iQ v.op.kind)/\w'.cell? ⟨b1,off1+j*10+1,none⟩=some (nQ iQ v.op.k)/\w'.cell? ⟨b1,off1+j*10+2,none⟩=some (nQ iQ v.op.width)/\w'.cell? ⟨b1,off1+j*10+3,none⟩=some (nQ iQ v.op.step)/\w'.cell? ⟨b1,off1+j*10+4,none⟩=some (nQ iQ v.op.side)/\w'.cell? ⟨b1,off1+j*10+5,none⟩=some (nQ iQ v.op.frm)/\w'.cell? ⟨b1,off1+j*10+6,none⟩=some (nQ iQ v.op.to)/\w'.cell? ⟨b1,off1+j*10+7,none⟩=some (sQ S v.op.s.length sc)/\w'.cell? ⟨b1,off1+j*10+8,none⟩=some (sQ J v.ins.length ic)/\w'.cell? ⟨b1,off1+j*10+9,none⟩=some (sQ Q v.p.length qc)) (first|go_keep|(exact ⟨qa1 hA x1,qa1 hA hc,qa1 hA y0,qa1 hA y1,qa1 hA y2,qa1 hA y3,qa1 hA y4,qa1 hA y5,qa1 hA y6,qa1 hA y7,qa1 hA y8,qa1 hA y9⟩))
         ((go_at_call 33;refine (gY.out _ (by exact F1.out) (by exact F2.out) (by exact F3.out) (by exact F4.out)).mono ?_;rintro e w9 ⟨S9,c9,rfl,Hx,Gr,Ge,hA⟩))
        have H2:Below wr.heap.size wr w9:=⟨hA.os,hA.tape,hA.output,hA.size,hA.block⟩
        have H1:=hH.trans (H2.mono hH.size);clear y0 y1 y2 y3 y4 y5 y6 y7 y8 y9 hA x1 gY F1 F2 F3 F4
        by_cases h9:r.2=0
        ·have q1:(r.2 != 0)=false:=by simp [h9]
         have hG:=Hi.out.below H2 (lrZ _);have Hg:=hf.out.below H2 hf.out.lt;have gS:=HO.out.below H2 (lrZ _);have GF:=qa1 H2 hc;have Gx:j+1<sh.length:=by omega
         obtain ⟨Sm,cm,ym,-⟩:=hG.at_ Gx;have fm:w9.frozen? ⟨g,j+1,none⟩=false:=by obtain ⟨vs,_,hk,_⟩:=hG;exact hk.frozen (j+1)
         have HV:=hG.set_ (i:=j+1) Hx Gr Ge (hG.apart Hx (HT.out h9).1);have HS:=zI HV;have Gc:=zI (Hg.far (p:=⟨g,j+1,none⟩) gC (sQ S9 r.1.length c9));have gm:=H1.setCell (p:=⟨g,j+1,none⟩) soZ (sQ S9 r.1.length c9);have gc:=zI (gS.set_far (p:=⟨g,j+1,none⟩) Gm.out (sQ S9 r.1.length c9));have Gl:=zI (HL.out h9);have j3:((j:Int)+1)<((n.nodes.length+1:Nat):Int):=by omega
         have j6:((j:Int)+1).toNat=j+1:=by omega
         clear HV hG Hg gS h9 hc;have GA:=zI Hx;clear Hx;go_wp2_with fail;go_roundw
         case rel=>exact ⟨k+1,by omega,by go_num,Gc.out,gm,gc.out,_,Gl.out,HS.out⟩
         case measure=>simp [intOf];omega
        ·have q1:(r.2 != 0)=true:=by simp [h9]
         have gx:=Hr.out;rw [Gy.out h9] at gx;have HC:=zI (gx h9);obtain ⟨Gw,GA⟩:=zd2 h9 Hx;clear Hx;clear h9 gx;go_wp2_with fail
         go_ret3
         exact RefCheckP.err HC.out Gw.out H1
       ·obtain rfl:k=os.length:=by omega
        rw [Zg] at hn;have gL:=λh6=>Ha.out (by rw [hn]) h6
        have gV:=λh6=>h7.out (by rw [hn]) h6
        have HW:=Hu.out (by rw [hn]);have gd:=gv.out;rw [hn] at HW gd;have gd:sh=Nt.shapes n:=gd;subst gd;have HW:Nt.Good os (Nt.shapes n):=HW;have i2:¬((os.length:Int)<(n.nodes.length:Int)):=by omega
        have i3:¬(os.length<n.nodes.length):=by omega
        clear hY hk hU;obtain ⟨g7,Gf,Gu,gl,Hi,hf,HO⟩:=zd7 gL gV HW hn hq he hO;clear gL gV HW hn hq he hO;have GL:=zI g3;clear g3;go_wp2_with fail;clear x1;obtain ⟨w5,rfl⟩:∃w5,w5=wr:=⟨wr,rfl⟩
        go_loopw [12,13,14] (λl m i wx=>∃k:Nat,k<=n.nodes.length+1/\i=nQ iQ k/\l=nQ iQ ((Nt.unusedTo n.nodes k).getLastD 0)/\m=nQ iQ ((Nt.unusedTo n.nodes k).length:Nat)/\Below w5.heap.size w5 wx) (λ_ _ i _=>n.nodes.length+1-(intOf i).toNat)
        case atStart=>exact ⟨0,Zt _,rfl,rfl,rfl,Ze1 _ _⟩
        case round=>
         obtain ⟨k,hk,rfl,rfl,rfl,HD⟩:=hrel;have hP:=hf.out.below HD hf.out.lt;have hX:=hH.trans (HD.mono hH.size);have x0:wr.cell? ⟨w.heap.size,0,none⟩=some (sQ A n.inn.length c):=by rw [hP.cell];rfl
         have x1:wr.cell? ⟨w.heap.size,1,none⟩=some (sQ N n.nodes.length d):=by rw [hP.cell];rfl
         have gM:=Nt.unusedTo_len n.nodes k
         by_cases hU:k<=n.nodes.length
         ·have HS:=zI (Nt.unusedTo_succ n.nodes k)
          obtain ⟨L0,hL0⟩:∃L0,(Nt.unusedTo n.nodes k).getLastD 0=L0:=⟨_,rfl⟩
          obtain ⟨c0,hc0⟩:∃c0,(Nt.unusedTo n.nodes k).length=c0:=⟨_,rfl⟩
          rw [hc0] at gM;rw [hL0,hc0];have g6:=Nt.count_used n.nodes (k:Int);have hh:=qer A N c d n (k:Int) wr HB.out (HR.out.below hX (lrZ _));generalize Nt.count n.nodes (k:Int)=cn at *;obtain ⟨Gi,g1,gX,hQ,gP⟩:=zd5 hL0 hc0 g6 hh hP;clear hL0 hc0 g6 hh hP;go_wp2_with fail;refine (hQ.out).mono ?_;rintro e w6 ⟨rfl,Gt⟩;have HZ:=HD.trans (Gt.mono HD.size);clear x0 x1
          by_cases hz:cn=0
          ·have HU:=zI (gX.out.1 hz)
           have e1:((cn:Int)==0)=true:=by simp [hz]
           have e2:(cn==0)=true:=by simp [hz]
           subst hz;go_wp2_with fail;go_roundw
           case rel=>exact ⟨k+1,by omega,by go_num,by rw [HS.out,HU.out];simp,by rw [HS.out,HU.out,inZ sZ,Ze,g1.out];go_num,HZ⟩
           case measure=>simp [intOf];omega
          ·have HU:=zI (show Nt.isUsed n.nodes (k:Int)=true by
            cases h:Nt.isUsed n.nodes (k:Int)
            ·exact absurd (gX.out.2 h) hz
            ·rfl)
           have e1:((cn:Int)==0)=false:=by simp;omega
           have e2:(cn==0)=false:=by simp;omega
           clear hz;go_wp2_with fail;go_roundw
           case rel=>exact ⟨k+1,by omega,by go_num,by rw [HS.out,HU.out,ipZ rfl,Gi.out],by rw [HS.out,HU.out,ipZ rfl,g1.out],HZ⟩
           case measure=>simp [intOf];omega
         ·obtain rfl:k=n.nodes.length+1:=by omega
          rw [Nt.unusedTo_all];have i4:¬(((n.nodes.length+1:Nat):Int)<=(n.nodes.length:Int)):=by omega
          have g0:(Nt.unused n.nodes).getLastD 0=Nt.loss n.nodes:=rfl;rw [g0];have hE:Nt.lossOk n.nodes=decide ((Nt.unused n.nodes).length=1/\Nt.loss n.nodes≠0):=rfl;rw [Nt.unusedTo_all] at gM;clear g0
          by_cases Hh:(Nt.unused n.nodes).length=1
          rotate_left
          ·have HC:=zI (g7.out (by rw [hE];simp [Hh]))
           have e1:(((Nt.unused n.nodes).length:Int) != 1)=true:=by rw [bne_iff_ne];omega
           have e2:((Nt.unused n.nodes).length != 1)=true:=by rw [bne_iff_ne];omega
           generalize (Nt.unused n.nodes).length=ul at *;have gH:=zI hE;clear hE;clear Hh;go_wp2_with fail
           go_ret3
           exact RefCheckP.err HC.out oZ hX
          ·by_cases Hy:Nt.loss n.nodes=0
           ·have HC:=zI (g7.out (by rw [hE];simp [Hy]))
            rw [Hh,Hy];clear Hh Hy hE;go_wp2_with fail
            go_ret3
            exact RefCheckP.err HC.out oZ hX
           ·have ge:Nt.lossOk n.nodes=true:=by rw [hE];simp [Hh,Hy]
            have HX:=(Nt.loss_mem ge).2;have HH:=Gf.out ge;obtain ⟨l,hl⟩:∃l:Nat,Nt.loss n.nodes=(l:Int):=⟨(Nt.loss n.nodes).toNat,by omega⟩
            have Hl:=zI hl;rw [Hh];rw [hl] at HX HH Hy ⊢;rw [tnZ] at HH;have gF:l<(Nt.shapes n).length:=by omega
            have gg:=Gu.out (l:Int) (.inr ((HF.out _).2 oZ));rw [tnZ,qa9 gF] at gg;rw [qa9 gF] at HH;have h3:=Hi.out.below HD (lrZ _);obtain ⟨Sl,sc,GN,gp,gA,GI,-⟩:=h3.at_ gF;have gQ:=qam Sl sc _ wr gg gp;have e1:((l:Int)==0)=false:=by simp;omega
            have e1':(l==0)=false:=by simp;omega
            have l0:(0:Int)<=(l:Int):=by omega
            have l1:(l:Int)<((n.nodes.length+1:Nat):Int):=by omega
            generalize (Nt.shapes n)[l]=s at *;obtain ⟨H9,gR,Hl,Gs,GC,GO,GB,gH⟩:=zd8 h3 HH hl gQ gp gg ge hE;clear h3 HH hl gQ gp gg ge hE;clear Hh Hy;go_wp2_with fail;refine (Gs.out).mono ?_;rintro e w7 ⟨rfl,rfl⟩
            by_cases hp:Safe.prod s=1
            ·have HC:=zI (show Nt.check n=0 by rw [gR.out,inZ (by simp [hp])])
             have e2:(Safe.prod s != 1)=false:=by simp [hp]
             clear hp;go_wp2_with fail
             go_ret3
             exact ⟨hX,.inl ⟨HC.out,g,by rw [Hl.out];rfl,by omega,H9.out⟩⟩
            ·have HC:=zI (show Nt.check n=23 by rw [gR.out,ipZ hp])
             have e2:(Safe.prod s != 1)=true:=by simp [hp]
             clear hp;go_wp2_with fail
             go_ret3
             exact RefCheckP.err HC.out oZ hX
namespace Pn
theorem params_at {ns:List NodeD} {k m:Nat} (h:k<ns.length) (hm:m<ns[k].p.length):(ns.flatMap (·.p)).getD (from_ ns k+m) []=ns[k].p[m]:=by
 have e:ns.flatMap (·.p)=(ns.take k).flatMap (·.p)++(ns[k].p++(ns.drop (k+1)).flatMap (·.p)):=by
  rw [←List.flatMap_cons,←Zd h,←Zj,Zn]
 rw [e];unfold from_;rw [gdZ,Zl oZ,Nat.add_sub_cancel_left,Zm hm,geZ hm]
 rfl
theorem params_lt {ns:List NodeD} {k m:Nat} (h:k<ns.length) (hm:m<ns[k].p.length):from_ ns k+m<(ns.flatMap (·.p)).length:=by
 have e:ns.flatMap (·.p)=(ns.take k).flatMap (·.p)++(ns[k].p++(ns.drop (k+1)).flatMap (·.p)):=by
  rw [←List.flatMap_cons,←Zd h,←Zj,Zn]
 rw [e,Ze,Ze];unfold from_;omega
theorem from_all (ns:List NodeD):from_ ns ns.length=(ns.flatMap (·.p)).length:=by unfold from_;rw [Zg]
theorem fits_few {n:NetD} {ps:List Ten} {x:Ten} (hc:Nt.check n=0) (h:ps.length≠(Nt.params n).length):fits n ps x=20:=by
 unfold fits;rw [inZ oZ,ipZ h]
theorem fits_bad {n:NetD} {ps:List Ten} {x:Ten} {k:Nat} (hc:Nt.check n=0) (hk:k<(Nt.params n).length) (h:tenIs (Ly.got ps k) ((Nt.params n).getD k [])=false):fits n ps x=20:=by
 unfold fits;rw [inZ oZ]
 split
 ·rfl
 ·rw [ipZ (parOk_bad hk h)]
theorem fits_end {n:NetD} {ps:List Ten} {x:Ten} (hc:Nt.check n=0) (hl:ps.length=(Nt.params n).length) (hp:parOk ps (Nt.params n) (Nt.params n).length=true):fits n ps x=if tenIs x n.inn then 0 else 20:=by
 unfold fits;rw [inZ oZ,inZ oZ,inZ (by simp [hp])]
end Pn
theorem qf6 (S C:Option Addr) (c d:Nat) (T:Option Addr) (tc:Nat) (t:Ten) (s:List Int) (w:Zp1) (hT:TenIn w S C c d t) (hI:Ints iQ w T s) (hs:s.length<=1048576):
  Calls Tryz.prog 15 #[.agg #[sQ S t.s.length c,sQ C t.c.length d],sQ T s.length tc] w λe w'=>e=.returned (.bool (Pn.tenIs t s))/\Below w.heap.size w w':=by
 have hk:=Blk.new w 30 #[sQ S t.s.length c,sQ C t.c.length d];have hb:Later w (w.alloc (.cells #[sQ S t.s.length c,sQ C t.c.length d] 30)):=(Later.refl w).alloc _;have l1:=hT.l1;have l2:=hT.l2;obtain ⟨Hk,ha,HT,HI⟩:=zd4 hk hb hT hI;clear hk hb hT hI;go_enter Tryz.func15,Tryz.ntmps15;go_upto_region 1 with fail;generalize w.alloc (.cells #[sQ S t.s.length c,sQ C t.c.length d] 30)=w1 at *;have x0:w1.cell? ⟨w.heap.size,0,none⟩=_:=Hk.out.cell 0;have x1:w1.cell? ⟨w.heap.size,1,none⟩=_:=Hk.out.cell 1;simp at x0 x1;have hr:=λ(W:Zp1) (h:Later w1 W)=>qaF S c t.s W oZ ((HT.out.later (ha.out.trans h)).r.1)
 have hz:=λ(W:Zp1) (h:Later w1 W) (hg:Sh.right t.s=true)=>qam S c t.s W hg ((HT.out.later (ha.out.trans h)).r.1)
 have hq:=λ(W:Zp1) (h:Later w1 W)=>qaY S T c tc t.s s W oZ oZ ((HT.out.later (ha.out.trans h)).r.1) (HI.out.below (ha.out.trans h) (lrZ _))
 by_cases g1:Sh.right t.s=true
 case neg=>
  have HE:=zI (show Pn.tenIs t s=false by unfold Pn.tenIs;rw [Tn.right_false (by simpa using g1)];rfl);rw [show Sh.right t.s=false by simpa using g1] at hr;have Hr:=zI hr;clear hr;clear g1 hz hq;have KF:=zI (show ∀Xw,Later w1 Xw->Xw.cell? ⟨w.heap.size,0,none⟩=some (sQ S t.s.length c)/\Xw.cell? ⟨w.heap.size,1,none⟩=some (sQ C t.c.length d) from λXw h=>⟨h.cell x0,h.cell x1⟩);refine Zm1 ?_;refine Zl1 (S:=λXw=>Xw.cell? ⟨w.heap.size,0,none⟩=some (sQ S t.s.length c)/\Xw.cell? ⟨w.heap.size,1,none⟩=some (sQ C t.c.length d)) krZ (KF.out _ Lau) (λhHeld=>?_);refine tk 0 ?_;refine tk 1 ?_;refine rd 2 λK hK=>?_
  simp only [ga,gs,gz]
  go_simp
  go_at_call 31;(with_reducible refine (Hr.out _ (Lau:Later w1 _)).mono ?_);rintro e wg ⟨rfl,rfl⟩
  try go_wp2_with fail
  refine hK.out _ _ (KF.out _ Lau) (λhHeld=>?_);clear hK K
  try simp only [ga,gs,gz,Act.put,sa,sz,ss]
  refine tk 3 ?_;refine tn 4 ?_;refine tn 5 ?_;refine tn 6 ?_;refine tn 7 ?_;refine tn 8 ?_;refine tn 9 ?_;refine tn 10 ?_;refine tk 11 ?_;refine tk 12 ?_;refine tn 13 ?_;refine tn 14 ?_;refine tn 15 ?_;refine tn 16 ?_;refine tk 17 ?_;refine tk 18 ?_;clear KF;refine Zn1 krZ ?_ _;refine Zd1 ?_;go_wp2_with fail;go_ret;exact ⟨by (rw [HE.out]<;>rfl),Later.drew ha.out⟩
 rw [g1] at hr;have hz:=λ(W:Zp1) (h:Later w1 W)=>hz W h g1
 by_cases g2:(t.c.length:Int)=Safe.prod t.s
 case neg=>
  have HE:=zI (show Pn.tenIs t s=false by unfold Pn.tenIs;rw [Tn.right_true g1,decide_eq_false g2];rfl);have q2:((t.c.length:Int)==Safe.prod t.s)=false:=by simpa using g2
  generalize Safe.prod t.s=pr at *;obtain ⟨Hr,Hz⟩:=zd2 hr hz;clear hr hz;clear g1 hq;have KF:=zI (show ∀Xw,Later w1 Xw->Xw.cell? ⟨w.heap.size,0,none⟩=some (sQ S t.s.length c)/\Xw.cell? ⟨w.heap.size,1,none⟩=some (sQ C t.c.length d) from λXw h=>⟨h.cell x0,h.cell x1⟩);refine Zm1 ?_;refine Zl1 (S:=λXw=>Xw.cell? ⟨w.heap.size,0,none⟩=some (sQ S t.s.length c)/\Xw.cell? ⟨w.heap.size,1,none⟩=some (sQ C t.c.length d)) krZ (KF.out _ Lau) (λhHeld=>?_);refine tk 0 ?_;refine tk 1 ?_;refine rd 2 λK hK=>?_
  simp only [ga,gs,gz]
  go_simp
  go_at_call 31;(with_reducible refine (Hr.out _ (Lau:Later w1 _)).mono ?_);rintro e wg ⟨rfl,rfl⟩
  try go_wp2_with fail
  refine hK.out _ _ (KF.out _ Lau) (λhHeld=>?_);clear hK K
  try simp only [ga,gs,gz,Act.put,sa,sz,ss]
  refine tk 3 ?_;refine tk 4 ?_;refine tk 5 ?_;refine tk 6 ?_;refine tk 7 ?_;refine tk 8 ?_;refine rd 9 λK hK=>?_
  simp only [ga,gs,gz]
  go_simp
  go_at_call 35;(with_reducible refine (Hz.out _ (Lau:Later w1 _)).mono ?_);rintro e wg ⟨rfl,rfl⟩
  try go_wp2_with fail
  refine hK.out _ _ (KF.out _ Lau) (λhHeld=>?_);clear hK K
  try simp only [ga,gs,gz,Act.put,sa,sz,ss]
  refine tk 10 ?_;refine tk 11 ?_;refine tk 12 ?_;refine tn 13 ?_;refine tn 14 ?_;refine tn 15 ?_;refine tn 16 ?_;refine tk 17 ?_;refine tk 18 ?_;clear KF;refine Zn1 krZ ?_ _;refine Zd1 ?_;go_wp2_with fail;go_ret;exact ⟨by (rw [HE.out]<;>rfl),Later.drew ha.out⟩
 have HE:=zI (show Pn.tenIs t s=decide (t.s=s) by unfold Pn.tenIs;rw [Tn.right_true g1,decide_eq_true g2,Bool.true_and];exact Bool.beq_eq_decide_eq ..);have q2:((t.c.length:Int)==Safe.prod t.s)=true:=by simpa using g2
 generalize Safe.prod t.s=pr at *;generalize decide (t.s=s)=bb at *;obtain ⟨Hr,Hz,Hq⟩:=zd3 hr hz hq;clear hr hz hq;clear g1;have KF:=zI (show ∀Xw,Later w1 Xw->Xw.cell? ⟨w.heap.size,0,none⟩=some (sQ S t.s.length c)/\Xw.cell? ⟨w.heap.size,1,none⟩=some (sQ C t.c.length d) from λXw h=>⟨h.cell x0,h.cell x1⟩);refine Zm1 ?_;refine Zl1 (S:=λXw=>Xw.cell? ⟨w.heap.size,0,none⟩=some (sQ S t.s.length c)/\Xw.cell? ⟨w.heap.size,1,none⟩=some (sQ C t.c.length d)) krZ (KF.out _ Lau) (λhHeld=>?_);refine tk 0 ?_;refine tk 1 ?_;refine rd 2 λK hK=>?_
 simp only [ga,gs,gz]
 go_simp
 go_at_call 31;(with_reducible refine (Hr.out _ (Lau:Later w1 _)).mono ?_);rintro e wg ⟨rfl,rfl⟩
 try go_wp2_with fail
 refine hK.out _ _ (KF.out _ Lau) (λhHeld=>?_);clear hK K
 try simp only [ga,gs,gz,Act.put,sa,sz,ss]
 refine tk 3 ?_;refine tk 4 ?_;refine tk 5 ?_;refine tk 6 ?_;refine tk 7 ?_;refine tk 8 ?_;refine rd 9 λK hK=>?_
 simp only [ga,gs,gz]
 go_simp
 go_at_call 35;(with_reducible refine (Hz.out _ (Lau:Later w1 _)).mono ?_);rintro e wg ⟨rfl,rfl⟩
 try go_wp2_with fail
 refine hK.out _ _ (KF.out _ Lau) (λhHeld=>?_);clear hK K
 try simp only [ga,gs,gz,Act.put,sa,sz,ss]
 refine tk 10 ?_;refine tk 11 ?_;refine tk 12 ?_;refine tk 13 ?_;refine tk 14 ?_;refine tk 15 ?_;refine rd 16 λK hK=>?_
 simp only [ga,gs,gz]
 go_simp
 go_at_call 13;(with_reducible refine (Hq.out _ (Lau:Later w1 _)).mono ?_);rintro e wg ⟨rfl,qn,rfl⟩
 try go_wp2_with fail
 refine hK.out _ _ (KF.out _ Lau) (λhHeld=>?_);clear hK K
 try simp only [ga,gs,gz,Act.put,sa,sz,ss]
 refine tk 17 ?_;refine tk 18 ?_;clear KF;refine Zn1 krZ ?_ _;refine Zd1 ?_;go_wp2_with fail;go_ret;exact ⟨by (rw [HE.out]<;>rfl),Later.drewN ha.out _⟩
def SmallC (n:NetD) (w:Zp1) (e:Ending) (w':Zp1):Prop:=∃b,e=.returned (.bool b)/\(b=true->n.nodes.length<=300)/\Below w.heap.size w w'
theorem small_14 (A N P XS XC:Option Addr) (c d cp xc xd:Nat) (n:NetD) (ps:List Ten) (x:Ten) (w:Zp1) (hok:n.ok) (hR:NetR w A N n) (hP:Tns w P ps) (lP:ps.length<=1048576) (hX:TenIn w XS XC xc xd x):
  Calls Tryz.prog 4 #[.agg #[sQ A n.inn.length c,sQ N n.nodes.length d,sQ P ps.length cp,sQ XS x.s.length xc,sQ XC x.c.length xd]] w (SmallC n w):=by
 have hS:=hok.2.1;have hN:=hok.1;have lx1:=hX.l1;have lx2:=hX.l2;have hk:=Blk.new w 32 #[sQ A n.inn.length c,sQ N n.nodes.length d,sQ P ps.length cp,sQ XS x.s.length xc,sQ XC x.c.length xd];have hs:Later w (w.alloc (.cells #[sQ A n.inn.length c,sQ N n.nodes.length d,sQ P ps.length cp,sQ XS x.s.length xc,sQ XC x.c.length xd] 32)):=(Later.refl w).alloc _;obtain ⟨hK,HR,HP,Hk,ht⟩:=zd5 hok hR hP hk hs;clear hok hR hP hk hs;clear hX;go_enter Tryz.func4,Tryz.ntmps4;go_wp2_with fail;generalize w.alloc (.cells #[sQ A n.inn.length c,sQ N n.nodes.length d,sQ P ps.length cp,sQ XS x.s.length xc,sQ XC x.c.length xd] 32)=w1 at *
 go_loopw [3,27] (λt i wx=>∃(k:Nat) (z:Int),k<=ps.length/\i=nQ iQ (k:Int)/\t=nQ iQ z/\0<=z/\z<=3145728+(k:Int)*2097153/\Later w1 wx) (λ_ i _=>ps.length-(intOf i).toNat)
 case atStart=>exact ⟨0,_,Zt _,rfl,rfl,by omega,by omega,Later.refl _⟩
 case round=>
  obtain ⟨k,z,hk,rfl,rfl,hE,hi,ha⟩:=hrel;have hr:(k:Int)*2097153<=1048576*2097153:=Int.mul_le_mul_of_nonneg_right oZ oZ
  by_cases hd:k<ps.length
  ·obtain ⟨b,off,S',sc,C',cc,rfl,-,p0,p1,hT⟩:=(HP.out.later (ht.out.trans ha)).at_ hd
   have t1:=hT.l1;have t2:=hT.l2;generalize Ly.got ps k=t at *;have hc:z+(1+(t.s.length:Int)+(t.c.length:Int))<=3145728+((k:Int)+1)*2097153:=by rw [Int.add_mul];omega
   have hl:z<=2199030000000:=by omega
   have hv:=ha.alloc (.cells #[sQ S' t.s.length sc,sQ C' t.c.length cc] 30);clear hT hi hr;obtain ⟨hn,hx,hF⟩:=zd3 hc ha hv;clear hc ha hv;go_wp2_with fail;go_roundw
   case rel=>exact ⟨k+1,_,by omega,by go_num,rfl,by omega,hn.out,hF.out⟩
   case measure=>simp [intOf];omega
  ·obtain rfl:k=ps.length:=by omega
   have hf:=ha.blk Hk.out;have y0:wr.cell? ⟨w.heap.size,0,none⟩=_:=hf.cell 0;have y1:wr.cell? ⟨w.heap.size,1,none⟩=_:=hf.cell 1;simp at y0 y1;have hl:z<=2199030000000:=by omega
   clear hi hr;have hy:=ht.out.trans ha;obtain ⟨hU,hx,hw⟩:=zd3 hf ha hy;clear hf ha hy;go_wp2_with fail;obtain ⟨wo,rfl⟩:∃wo,wo=wr:=⟨wr,rfl⟩
   go_loopw [3,46] (λt i wx=>∃(k:Nat) (z:Int),k<=n.nodes.length/\i=nQ iQ (k:Int)/\t=nQ iQ z/\3*(k:Int)<=z/\z<=2199030000000/\Later wo wx) (λ_ i _=>n.nodes.length-(intOf i).toNat)
   case atStart=>exact ⟨0,_,Zt _,rfl,rfl,by omega,hl,Later.refl _⟩
   case round=>
    obtain ⟨k,z,hk,rfl,rfl,hE,hi,ha⟩:=hrel
    by_cases hd:k<n.nodes.length
    ·obtain ⟨b,off,S,sc,J,ic,Q,qc,rfl,he,-,-,-⟩:=HR.out.2.at_ hd
     have hb:=hK.out.2.2 _ (gmZ hd);have hO:=hb.2.1;have hQ:=hb.2.2.1;have hV:=hb.2.2.2.1;have hz:=hb.2.2.2.2.1;have ho:=he.2.2.2;generalize n.nodes[k]=v at *;have hg:=hw.out.trans ha;obtain ⟨⟨y0,y1,y2,y3,y4,y5,y6,y7,y8,y9⟩,-⟩:=he.below hg;have hp:=hg.alloc (.cells #[nQ iQ v.op.kind,nQ iQ v.op.k,nQ iQ v.op.width,nQ iQ v.op.step,nQ iQ v.op.side,nQ iQ v.op.frm,nQ iQ v.op.to,sQ S v.op.s.length sc,sQ J v.ins.length ic,sQ Q v.p.length qc] 59);have hD:=ha.alloc (.cells #[nQ iQ v.op.kind,nQ iQ v.op.k,nQ iQ v.op.width,nQ iQ v.op.step,nQ iQ v.op.side,nQ iQ v.op.frm,nQ iQ v.op.to,sQ S v.op.s.length sc,sQ J v.ins.length ic,sQ Q v.p.length qc] 59);obtain ⟨hM,hJ,hH,hB,hL,hx⟩:=zd6 he hb ho hz hg ha;clear he hb ho hz hg ha;go_wp2_with fail;clear y0 y1 y2 y3 y4 y5 y6 y7 y8 y9;generalize wr.alloc (.cells #[nQ iQ v.op.kind,nQ iQ v.op.k,nQ iQ v.op.width,nQ iQ v.op.step,nQ iQ v.op.side,nQ iQ v.op.frm,nQ iQ v.op.to,sQ S v.op.s.length sc,sQ J v.ins.length ic,sQ Q v.p.length qc] 59)=w2 at *
     go_loop [3,64] (λt i=>∃(m:Nat) (z2:Int),m<=v.p.length/\i=nQ iQ (m:Int)/\t=nQ iQ z2/\z+3<=z2/\z2<=z+3+2097152+(m:Int)*1048577) (λ_ i=>v.p.length-(intOf i).toNat)
     case atStart=>exact ⟨0,_,Zt _,rfl,rfl,by omega,by omega⟩
     case round=>
      obtain ⟨m,z2,hm,rfl,rfl,hW,hh⟩:=hrel;have hj:(m:Int)*1048577<=1048576*1048577:=Int.mul_le_mul_of_nonneg_right oZ oZ
      by_cases hu:m<v.p.length
      ·obtain ⟨b5,o5,Ss,cs,rfl,-,hq,-⟩:=hH.out m hu
       have hA:=qa1 hp hq;have hG:=hB.out _ (gmZ hu);generalize v.p[m]=s at *;have hc:z2+(1+(s.length:Int))<=z+3+2097152+((m:Int)+1)*1048577:=by rw [Int.add_mul];omega
       have hl:z2<=3399000000000:=by omega
       clear hq hh hj;have hn:=zI hc;clear hc;go_wp2_with fail
       go_round
       case rel=>exact ⟨m+1,_,by omega,by go_num,rfl,by omega,hn.out⟩
       case measure=>simp [intOf];omega
      ·obtain rfl:m=v.p.length:=by omega
       by_cases h3:800<z2
       ·have d3:decide (800<z2)=true:=by simpa using h3
        clear h3 hj hh;go_wp2_with fail;go_ret;exact ⟨_,rfl,by simp,hp⟩
       ·have d3:decide (800<z2)=false:=by simpa using h3
        have hI:3*((k:Int)+1)<=z2:=by omega
        have hC:z2<=2199030000000:=by omega
        clear h3 hj hh;go_wp2_with fail;go_roundw
        case rel=>exact ⟨k+1,_,by omega,by go_num,rfl,hI,hC,hD⟩
        case measure=>simp [intOf];omega
    ·obtain rfl:k=n.nodes.length:=by omega
     go_wp2_with fail;go_ret;refine ⟨_,rfl,λh=>?_,hw.out.trans ha⟩;have h:z<=800:=by simpa using h
     omega
theorem qaw {W:Zp1} {g:Nat} {t:TypeId} {v0 v1 v2 v3 v4:Value} (h:Blk W g t #[v0,v1,v2,v3,v4]):W.cell? ⟨g,0,none⟩=some v0/\W.cell? ⟨g,1,none⟩=some v1/\W.cell? ⟨g,2,none⟩=some v2/\W.cell? ⟨g,3,none⟩=some v3/\W.cell? ⟨g,4,none⟩=some v4:=
 ⟨h.cell 0,h.cell 1,h.cell 2,h.cell 3,h.cell 4⟩
theorem fits_14 (A N P XS XC:Option Addr) (c d cp xc xd:Nat) (n:NetD) (ps:List Ten) (x:Ten) (w:Zp1) (hok:n.ok) (hR:NetR w A N n) (hd:n.nodes.length<=d) (hc:n.inn.length<=c) (hcm:c<=9223372036854775807) (hP:Tns w P ps) (lP:ps.length<=1048576) (hX:TenIn w XS XC xc xd x):
  Calls Tryz.prog 5 #[.agg #[sQ A n.inn.length c,sQ N n.nodes.length d,sQ P ps.length cp,sQ XS x.s.length xc,sQ XC x.c.length xd]] w λe w'=>e=.returned (nQ iQ (Pn.fits n ps x))/\Below w.heap.size w w':=by
 have Hy:=hok.1;have hk:=Blk.new w 32 #[sQ A n.inn.length c,sQ N n.nodes.length d,sQ P ps.length cp,sQ XS x.s.length xc,sQ XC x.c.length xd];have Ha:Later w (w.alloc (.cells #[sQ A n.inn.length c,sQ N n.nodes.length d,sQ P ps.length cp,sQ XS x.s.length xc,sQ XC x.c.length xd] 32)):=(Later.refl w).alloc _;obtain ⟨hE,HR,HP,Hk,hZ,HX⟩:=zd6 hok hR hP hk Ha hX;clear hok hR hP hk Ha hX;go_enter Tryz.func5,Tryz.ntmps5;go_upto_region 1 with fail;generalize w.alloc (.cells #[sQ A n.inn.length c,sQ N n.nodes.length d,sQ P ps.length cp,sQ XS x.s.length xc,sQ XC x.c.length xd] 32)=w1 at *;obtain ⟨y0,y1,y2,y3,y4⟩:=qaw Hk.out;go_wp2_with fail;refine (qgO A N c d n w1 hE.out (HR.out.below hZ.out (lrZ _))).mono ?_;rintro e w2 ⟨N',d',rfl,h6,Ho,HD,hQ⟩;have h1:=hZ.out.call hQ;have Hd:=(show Later w1 w2 from hQ).blk Hk.out;clear hQ y0 y1 y2 y3 y4;obtain ⟨Hb,h2,Hc⟩:=zd3 h1 Hd h6;clear h1 Hd h6;go_wp2_with fail;refine (qcE A N' c d' n w2 hE.out Hc.out Ho hc hcm).mono ?_;rintro e w3 ⟨h7,hL⟩;have hu:Later w2 w3:=h7;have hF:=Hb.out.trans hu;have hA:=hu.blk h2.out;clear h7 Hk h2 Hb Hc;rcases hL with ⟨hv,g,rfl,-,-⟩|⟨hv,rfl⟩
 rotate_left
 ·have HE:=zI (show Pn.fits n ps x=Nt.check n by unfold Pn.fits;rw [ipZ hv])
  have d2:(Nt.check n != 0)=true:=by simpa using hv
  clear hv;generalize Nt.check n=ge at *;obtain ⟨hH,hJ,Ht⟩:=zd3 hF hA hu;clear hF hA hu;go_wp2_with fail;go_ret;exact ⟨by (rw [HE.out]<;>rfl),hH.out⟩
 have HC:=zI hv;clear hv;have hN:∀j (hj:j<n.nodes.length),n.nodes[j].p.length<=1048576:=λj hj=>(hE.out.2.2 _ (gmZ hj)).2.2.2.1
 obtain ⟨y0,y1,y2,y3,y4⟩:=qaw hA;obtain ⟨hH,hJ,Ht,HF⟩:=zd4 hF hA hu hN;clear hF hA hu hN;go_wp2_with fail;clear y0 y1 y2 y3 y4
 go_loopw [6,26] (λt i wx=>∃k:Nat,k<=n.nodes.length/\i=nQ iQ (k:Int)/\t=nQ iQ (Pn.from_ n.nodes k:Int)/\Pn.from_ n.nodes k<=ps.length/\Pn.parOk ps (Nt.params n) (Pn.from_ n.nodes k)=true/\Later w3 wx) (λ_ i _=>n.nodes.length-(intOf i).toNat)
 case atStart=>exact ⟨0,Zt _,rfl,rfl,Zt _,rfl,Later.refl _⟩
 case round=>
  obtain ⟨k,hk,rfl,rfl,hG,ho,hh⟩:=hrel
  by_cases hB:k<n.nodes.length
  ·obtain ⟨b,off,S,sc,J,ic,Q,qc,rfl,hI,-,-,-⟩:=HR.out.2.at_ hB
   have hi:=hE.out.2.2 _ (gmZ hB);have hN:=hi.2.2.2.1;have Hf:=hi.2.2.2.2.1;have h3:=hI.2.2.2;have h9:=λm hm=>Pn.params_at (ns:=n.nodes) (m:=m) hB hm
   have Hh:=λm hm=>Pn.params_lt (ns:=n.nodes) (m:=m) hB hm
   have hV:=Pn.from_succ hB;generalize n.nodes[k]=v at *;have hD:=hH.out.trans hh;obtain ⟨⟨y0,y1,y2,y3,y4,y5,y6,y7,y8,y9⟩,-⟩:=hI.below hD;have h4:=hD.alloc (.cells #[nQ iQ v.op.kind,nQ iQ v.op.k,nQ iQ v.op.width,nQ iQ v.op.step,nQ iQ v.op.side,nQ iQ v.op.frm,nQ iQ v.op.to,sQ S v.op.s.length sc,sQ J v.ins.length ic,sQ Q v.p.length qc] 59);have hW:=hh.alloc (.cells #[nQ iQ v.op.kind,nQ iQ v.op.k,nQ iQ v.op.width,nQ iQ v.op.step,nQ iQ v.op.side,nQ iQ v.op.frm,nQ iQ v.op.to,sQ S v.op.s.length sc,sQ J v.ins.length ic,sQ Q v.p.length qc] 59);obtain ⟨HH,Hm,Hl,Hu,HG,h0,Hq,Hw,hM⟩:=zd9 hI hi h3 Hf hD hh h9 Hh hV;obtain ⟨Hj,Hv,Hg⟩:=zd3 ho h4 hW;clear hI hi h3 Hf hD hh h9 Hh hV ho h4 hW;go_wp2_with fail;clear y0 y1 y2 y3 y4 y5 y6 y7 y8 y9;generalize wr.alloc (.cells #[nQ iQ v.op.kind,nQ iQ v.op.k,nQ iQ v.op.width,nQ iQ v.op.step,nQ iQ v.op.side,nQ iQ v.op.frm,nQ iQ v.op.to,sQ S v.op.s.length sc,sQ J v.ins.length ic,sQ Q v.p.length qc] 59)=w4 at *;generalize Pn.from_ n.nodes k=fr at *;obtain ⟨wo,rfl⟩:∃wo,wo=wr:=⟨wr,rfl⟩
   go_loopw [6,33] (λt i wx=>∃m:Nat,m<=v.p.length/\i=nQ iQ (m:Int)/\t=nQ iQ ((fr+m:Nat):Int)/\fr+m<=ps.length/\Pn.parOk ps (Nt.params n) (fr+m)=true/\Later w4 wx) (λ_ i _=>v.p.length-(intOf i).toNat)
   case atStart=>exact ⟨0,Zt _,rfl,rfl,hG,Hj.out,Later.refl _⟩
   case round=>
    obtain ⟨m,hm,rfl,rfl,Hr,hq,ha⟩:=hrel;have hb:=Hv.out.trans ha;obtain ⟨y0,y1,y2,y3,y4⟩:=qaw ((Hg.out.trans ha).blk hJ.out)
    by_cases hC:m<v.p.length
    ·obtain ⟨b5,o5,Ss,cs,rfl,-,Hz,hw,HB,HA⟩:=(Hl.out.below hb (lrZ _)) m hC
     have Hx:=Hu.out _ (gmZ hC);have hS:=Hq.out m hC;have hs:=Hw.out m hC;generalize v.p[m]=s at *
     by_cases hU:ps.length<=fr+m
     ·have HE:=zI (Pn.fits_few (x:=x) HC.out (show ps.length≠(Nt.params n).length by unfold Nt.params;omega))
      have q1:((fr+m:Nat):Int)≥(ps.length:Int):=by omega
      have q2:decide (((fr+m:Nat):Int)≥(ps.length:Int))=true:=by simp;omega
      clear hU hS hs;obtain ⟨hn,hx,hK,Hi⟩:=zd4 hb ha hq hw;clear hb ha hq hw;go_wp2_with fail;go_ret;exact ⟨by (rw [HE.out]<;>rfl),hn.out⟩
     have q1:((fr+m:Nat):Int)<(ps.length:Int):=by omega
     have q0:fr+m<ps.length:=by omega
     have q2:decide ((ps.length:Int)<=((fr+m:Nat):Int))=false:=by simp;omega
     obtain ⟨b6,o6,T',tc,C',cc,rfl,-,p0,p1,hT⟩:=(HP.out.later hb).at_ q0;have hr:=λh=>Pn.fits_bad (ps:=ps) (x:=x) (k:=fr+m) HC.out hs h
     have hg:=λh=>Pn.parOk_succ hq h
     rw [show (Nt.params n).getD (fr+m) []=s from hS] at hr hg;clear hS hs hU;generalize Ly.got ps (fr+m)=t at *;have hf:=qf6 T' C' tc cc Ss cs t s wr hT hw oZ;obtain ⟨hn,hx,hK,Hi,hO,hz,HT⟩:=zd7 hb ha hq hw hr hg hT;clear hb ha hq hw hr hg hT;cases htr:Pn.tenIs t s
     ·have HE:=zI (hO.out htr)
      rw [htr] at hf;have ht:=zI hf;clear hf;clear htr;go_wp2_with fail;refine (ht.out).mono ?_;rintro e w5 ⟨rfl,hp⟩;go_wp2_with fail;go_ret;exact ⟨by (rw [HE.out]<;>rfl),hn.out.call hp⟩
     ·have h8:=hz.out htr
      rw [htr] at hf;obtain ⟨ht,Hp⟩:=zd2 hf h8;clear hf h8;clear htr;go_wp2_with fail;refine (ht.out).mono ?_;rintro e w5 ⟨rfl,hp⟩;have hY:=hx.out.call hp;clear hp;have Hs:=zI hY;clear hY;go_wp2_with fail;go_roundw
      case rel=>exact ⟨m+1,by omega,by go_num,by go_num,by omega,Hp.out,Hs.out⟩
      case measure=>simp [intOf];omega
    ·obtain rfl:m=v.p.length:=by omega
     have h5:=Hg.out.trans ha;obtain ⟨Hn,hK,hn⟩:=zd3 h5 hq hb;clear h5 hq hb;go_wp2_with fail;go_roundw
     case rel=>exact ⟨k+1,by omega,by go_num,by rw [hM.out],by rw [hM.out];exact Hr,by rw [hM.out];exact hK.out,Hn.out⟩
     case measure=>simp [intOf];omega
  ·obtain rfl:k=n.nodes.length:=by omega
   rw [Pn.from_all] at hG ho ⊢;have hb:=hH.out.trans hh;obtain ⟨y0,y1,y2,y3,y4⟩:=qaw (hh.blk hJ.out);have hy:(n.nodes.flatMap (·.p)).length=(Nt.params n).length:=rfl;have ho:Pn.parOk ps (Nt.params n) (Nt.params n).length=true:=ho;rw [hy] at hG ⊢;clear hy
   by_cases hl:ps.length=(Nt.params n).length
   case neg=>
    have HE:=zI (Pn.fits_few (x:=x) HC.out hl);generalize (Nt.params n).length=pl at *;have q2:((pl:Int) != (ps.length:Int))=true:=by simp;omega
    clear hl ho;obtain ⟨hn,h0⟩:=zd2 hb hh;clear hb hh;go_wp2_with fail;go_ret;exact ⟨by (rw [HE.out]<;>rfl),hn.out⟩
   have he:=Pn.fits_end (x:=x) HC.out hl ho;have q2:(((Nt.params n).length:Int) != (ps.length:Int))=false:=by simp;omega
   clear ho hG hl;generalize (Nt.params n).length=pl at *;have hf:=qf6 XS XC xc xd A c x n.inn wr (HX.out.later hb) (HR.out.1.below hb (lrZ _)) oZ;obtain ⟨hn,h0,He⟩:=zd3 hb hh he;clear hb hh he;cases htr:Pn.tenIs x n.inn
   ·have HE:=zI (He.out.trans (by rw [htr]<;>rfl))
    rw [htr] at hf;have ht:=zI hf;clear hf;clear htr He;go_wp2_with fail;refine (ht.out).mono ?_;rintro e w5 ⟨rfl,hp⟩;go_wp2_with fail;go_ret;exact ⟨by (rw [HE.out]<;>rfl),hn.out.call hp⟩
   ·have HE:=zI (He.out.trans (by rw [htr]<;>rfl))
    rw [htr] at hf;have ht:=zI hf;clear hf;clear htr He;go_wp2_with fail;refine (ht.out).mono ?_;rintro e w5 ⟨rfl,hp⟩;go_wp2_with fail;go_ret;exact ⟨by (rw [HE.out]<;>rfl),hn.out.call hp⟩
theorem qdw (x:Int) (w:Zp1) (hx:Fx.In x):Calls Tryz.prog 143 #[nQ iQ x] w λe w'=>e=.returned (.int .u64 (x.natAbs:Int))/\w=w':=by
 obtain ⟨h1,h2⟩:=hx
 by_cases h:x<0
 ·have e : -(x+1)+1=(x.natAbs:Int):=by omega
  have E:=zI e;clear e;go_enter Tryz.func143,Tryz.ntmps143;go_wp2_with fail;go_ret;exact ⟨qa3 E.out,rfl⟩
 ·have E:=zI (show x=(x.natAbs:Int) by omega)
  go_enter Tryz.func143,Tryz.ntmps143;go_wp2_with fail;go_ret;exact ⟨qa3 E.out,rfl⟩
theorem qaI (n:Int) (over neg:Bool) (w:Zp1) (h0:0<=n) (hn:n<18446744073709551616):Calls Tryz.prog 144 #[.int .u64 n,.bool over,.bool neg] w λe w'=>e=.returned (nQ iQ (if over=true then Fx.edge neg else Fx.clamp (Fx.sgn neg n.toNat)))/\w=w':=by
 have HB:=λb (h:9223372036854775808<=n)=>Fx.clamp_sgn_big (b:=b) (n:=n.toNat) oZ
 have HS:=λb (h:n<9223372036854775808)=>Fx.clamp_sgn_small (b:=b) (n:=n.toNat) oZ
 cases over
 ·by_cases h:9223372036854775808<=n
  ·have E:=λb=>HB b h
   clear HB HS;cases neg
   ·have E:=zI (E false)
    go_enter Tryz.func144,Tryz.ntmps144;go_wp2_with fail;go_ret;exact ⟨qa3 (by first|rfl|(rw [E.out];rfl)|exact E.out.symm),rfl⟩
   ·have E:=zI (E true)
    by_cases h2:n=9223372036854775808
    ·subst h2
     go_enter Tryz.func144,Tryz.ntmps144;go_wp2_with fail;go_ret;exact ⟨qa3 (by first|rfl|(rw [E.out];rfl)|exact E.out.symm),rfl⟩
    ·have h3:9223372036854775808<n:=by omega
     clear h2;go_enter Tryz.func144,Tryz.ntmps144;go_wp2_with fail;go_ret;exact ⟨qa3 (by first|rfl|(rw [E.out];rfl)|exact E.out.symm),rfl⟩
  ·have E:=λb=>HS b oZ
   clear HB HS;have h2:n<=9223372036854775807:=by omega
   clear h hn;cases neg
   ·have E:=zI (E false)
    have E2:=zI (show n=Fx.sgn false n.toNat by simp [Fx.sgn];omega);go_enter Tryz.func144,Tryz.ntmps144;go_wp2_with fail;go_ret;exact ⟨qa3 (by first|exact E2.out|(rw [E.out];exact E2.out)),rfl⟩
   ·have E:=zI (E true)
    have E2:=zI (show -n=Fx.sgn true n.toNat by simp [Fx.sgn];omega);go_enter Tryz.func144,Tryz.ntmps144;go_wp2_with fail;go_ret;exact ⟨qa3 (by first|exact E2.out|(rw [E.out];exact E2.out)),rfl⟩
 ·clear HB HS
  cases neg
  all_goals
   go_enter Tryz.func144,Tryz.ntmps144;go_wp2_with fail;go_ret;exact ⟨rfl,rfl⟩
theorem qbu (x y:Int) (w:Zp1) (hx:Fx.In x) (hy:Fx.In y):Calls Tryz.prog 63 #[nQ iQ x,nQ iQ y] w λe w'=>e=.returned (nQ iQ (Fx.add x y))/\w=w':=by
 obtain ⟨x1,x2⟩:=hx;obtain ⟨y1,y2⟩:=hy
 by_cases hp:0<x
 ·have e1:iQ.wrap (9223372036854775807-x)=9223372036854775807-x:=Zc1 _ oZ
  by_cases h:9223372036854775807-x<y
  ·have E:=zI (show Fx.add x y=9223372036854775807 from Fx.clamp_hi oZ)
   go_enter Tryz.func63,Tryz.ntmps63;go_wp2_with fail;go_ret;exact ⟨qa3 E.out.symm,rfl⟩
  ·have E:=zI (show Fx.add x y=x+y from Fx.clamp_id ⟨by omega,by omega⟩)
   have e2:iQ.wrap (x+y)=x+y:=Zc1 _ oZ;have h2:¬x<0:=by omega
   have h3:y<=9223372036854775807-x:=by omega
   clear h;go_enter Tryz.func63,Tryz.ntmps63;go_wp2_with fail;go_ret;exact ⟨qa3 E.out.symm,rfl⟩
 ·by_cases hn:x<0
  ·have e1:iQ.wrap (-9223372036854775808-x) = -9223372036854775808-x:=Zc1 _ oZ
   by_cases h:y < -9223372036854775808-x
   ·have E:=zI (show Fx.add x y = -9223372036854775808 from Fx.clamp_lo oZ)
    go_enter Tryz.func63,Tryz.ntmps63;go_wp2_with fail;go_ret;exact ⟨qa3 E.out.symm,rfl⟩
   ·have E:=zI (show Fx.add x y=x+y from Fx.clamp_id ⟨by omega,by omega⟩)
    have e2:iQ.wrap (x+y)=x+y:=Zc1 _ oZ;have h3 : -9223372036854775808-x<=y:=by omega
    clear h;go_enter Tryz.func63,Tryz.ntmps63;go_wp2_with fail;go_ret;exact ⟨qa3 E.out.symm,rfl⟩
  ·obtain rfl:x=0:=by omega
   have E:=zI (show Fx.add 0 y=y by unfold Fx.add;rw [Int.zero_add];exact Fx.clamp_id ⟨y1,y2⟩);go_enter Tryz.func63,Tryz.ntmps63;go_wp2_with fail;go_ret;exact ⟨qa3 (by rw [E.out]<;>omega),rfl⟩
namespace R1
def up (r d n:Nat):Bool:=decide (d<2*r) || (decide (2*r=d)&&decide (n % 2=1))
theorem round {p d:Nat} {b over:Bool} {n:Nat} (hn:n=p / d % 18446744073709551616) (ho:over=true↔18446744073709551616<=p / d):
  (up (p % d) d n=true->(over=true∨n+1=18446744073709551616->Fx.clamp (Fx.sgn b (Fx.rnd p d))=Fx.edge b)/\(over=false->n+1<18446744073709551616->Fx.clamp (Fx.sgn b (Fx.rnd p d))=Fx.clamp (Fx.sgn b (n+1))))/\
  (up (p % d) d n=false->(over=true->Fx.clamp (Fx.sgn b (Fx.rnd p d))=Fx.edge b)/\(over=false->Fx.clamp (Fx.sgn b (Fx.rnd p d))=Fx.clamp (Fx.sgn b n))):=by
 have ha:n % 2=p / d % 2:=by omega
 have hb:Fx.rnd p d=if d<2*(p % d)∨(2*(p % d)=d/\p / d % 2=1) then p / d+1 else p / d:=rfl
 generalize p / d=Q at *;generalize p % d=R at *
 have hR:up R d n=true↔(d<2*R∨(2*R=d/\Q % 2=1)):=by
  unfold up;rw [ha];simp
 refine ⟨λh=>?_,λh=>?_⟩
 ·have e:Fx.rnd p d=Q+1:=by rw [hb,ipZ (hR.1 h)]
  rw [e];refine ⟨λh2=>Fx.clamp_sgn_big ?_,λh2 h3=>?_⟩
  ·rcases h2 with h2|h2
   ·have:=ho.1 h2;omega
   ·by_cases h4:18446744073709551616<=Q
    ·omega
    ·omega
  ·have h4:¬18446744073709551616<=Q:=λh=>by rw [ho.2 h] at h2;cases h2
   rw [show Q=n by omega]
 ·have e:Fx.rnd p d=Q:=by
   rw [hb,inZ];intro h2;rw [hR.2 h2] at h;cases h
  rw [e];refine ⟨λh2=>Fx.clamp_sgn_big (by have:=ho.1 h2;omega),λh2=>?_⟩;have h4:¬18446744073709551616<=Q:=λh=>by rw [ho.2 h] at h2;cases h2
  rw [show Q=n by omega]
structure Dv (P by_ rest n:Nat) (over:Bool):Prop where
 r:rest=P % by_
 q:n=P / by_ % 18446744073709551616
 o:over=true↔18446744073709551616<=P / by_
theorem Dv.start (d:Nat):Dv 0 d 0 0 false:=⟨by simp,by simp,by simp⟩
theorem divmod {a b q r:Nat} (h:a=b*q+r) (hr:r<b):a / b=q/\a % b=r:=by
 subst h;have hb:0<b:=by omega
 exact ⟨by rw [Nat.mul_add_div hb,Nat.div_eq_of_lt hr,Zx],by rw [Nat.mul_add_mod,Nat.mod_eq_of_lt hr]⟩
theorem Dv.more {P d rest n:Nat} {over:Bool} (h:Dv P d rest n over) (hd:0<d) {c:Nat} (hc:c<=1) (hq:d<=2*rest+c):
  Dv (2*P+c) d (2*rest+c-d) (n*2 % 18446744073709551616+1) (over || decide (9223372036854775808<=n))/\2*rest+c-d<d:=by
 obtain ⟨h1,h2,h3⟩:=h;have ha:=Nat.mod_lt P hd;have hP:=Nat.div_add_mod P d;have hr:2*rest+c-d<d:=by omega
 obtain ⟨e1,e2⟩:=divmod (a:=2*P+c) (b:=d) (q:=2*(P / d)+1) (r:=2*rest+c-d) (by rw [Nat.mul_add,Nat.mul_left_comm];omega) hr;refine ⟨⟨e2.symm,?_,?_⟩,hr⟩
 ·rw [e1];omega
 ·rw [e1,Bool.or_eq_true,h3,decide_eq_true_eq];omega
theorem Dv.less {P d rest n:Nat} {over:Bool} (h:Dv P d rest n over) (hd:0<d) {c:Nat} (hc:c<=1) (hq:2*rest+c<d):
  Dv (2*P+c) d (2*rest+c) (n*2 % 18446744073709551616) (over || decide (9223372036854775808<=n)):=by
 obtain ⟨h1,h2,h3⟩:=h;have ha:=Nat.mod_lt P hd;have hP:=Nat.div_add_mod P d;obtain ⟨e1,e2⟩:=divmod (a:=2*P+c) (b:=d) (q:=2*(P / d)) (r:=2*rest+c) (by rw [Nat.mul_left_comm];omega) hq;refine ⟨e2.symm,?_,?_⟩
 ·rw [e1];omega
 ·rw [e1,Bool.or_eq_true,h3,decide_eq_true_eq];omega
theorem Dv.restlt {P d rest n:Nat} {over:Bool} (h:Dv P d rest n over) (hd:0<d):rest<d:=by rw [h.r];exact Nat.mod_lt _ hd
theorem qda (N i:Nat):N / 2 ^ i=2*(N / 2 ^ (i+1))+N / 2 ^ i % 2:=by
 rw [Nat.pow_succ,←Nat.div_div_eq_div_mul];omega
theorem bit_low {X i:Nat} (h:i<32):X*4294967296 / 2 ^ i % 2=0:=by
 obtain ⟨k,hk⟩:∃k,32=i+(1+k):=⟨31-i,by omega⟩
 rw [show (4294967296:Nat)=2 ^ 32 from rfl,hk,Nat.pow_add,Nat.mul_left_comm,Nat.mul_div_cancel_left _ (Nat.pow_pos oZ),Nat.pow_add,Nat.pow_one,Nat.mul_left_comm];omega
theorem bit_high (X i:Nat):X*4294967296 / 2 ^ (i+32) % 2=X / 2 ^ i % 2:=by
 rw [Nat.pow_add,Nat.mul_comm (2 ^ i),←Nat.div_div_eq_div_mul,show (2:Nat) ^ 32=4294967296 from rfl,Nat.mul_div_cancel _ oZ]
end R1
theorem or_two (n c:Int) (n0:0<=n) (n1:n<9223372036854775808) (c0:0<=c) (c1:c<=1):bits .or .u64 (n*2) c=n*2+c:=by
 obtain ⟨a,rfl⟩:=ezZ n0;obtain ⟨b,rfl⟩:=ezZ c0;have e:((a:Int)*2)=((a*2:Nat):Int):=by omega
 rw [e,bits_or_u64_nat _ _ oZ oZ,qeU b a 1 2 dZ oZ];omega
def wide (hi lo:Int):Value:=.agg #[.int .u64 hi,.int .u64 lo]
theorem qcF (hi lo hi2 lo2:Int) (w:Zp1) (h0:0<=hi) (h1:hi<9223372036854775808) (l0:0<=lo) (l1:lo<18446744073709551616) (e1:hi2=hi*2+lo / 9223372036854775808) (e2:lo2=lo*2 % 18446744073709551616):
  Calls Tryz.prog 158 #[.agg #[.int .u64 hi,.int .u64 lo]] w λe w'=>e=.returned (.agg #[.int .u64 hi2,.int .u64 lo2])/\Below w.heap.size w w':=by
 have hk:=(Blk.new w 210 #[.int .u64 hi,.int .u64 lo]).alloc (.cells #[.int .u64 0,.int .u64 0] 210);have hz:=Blk.new (w.alloc (.cells #[.int .u64 hi,.int .u64 lo] 210)) 210 #[.int .u64 0,.int .u64 0];rw [Zh1] at hz;have ha:=((Later.refl w).alloc (.cells #[.int .u64 hi,.int .u64 lo] 210)).alloc (.cells #[.int .u64 0,.int .u64 0] 210);obtain ⟨E1,E2⟩:=zd2 e1 e2;have o1:=or_two hi (lo / 9223372036854775808) h0 h1 oZ oZ;have s1:IntKind.u64.wrap (hi*2)=hi*2:=IntWalk.u64_in _ oZ;have s2:IntKind.u64.wrap (lo*2)=lo2:=by rw [IntKind.wrap_u64];omega
 rw [←e1] at o1;clear e1 e2;obtain ⟨Hk,Hz,hb⟩:=zd3 hk hz ha;clear hk hz ha;go_enter Tryz.func158,Tryz.ntmps158;go_upto_region 1 with fail;generalize (w.alloc (.cells #[.int .u64 hi,.int .u64 lo] 210)).alloc (.cells #[.int .u64 0,.int .u64 0] 210)=w0 at *;have a0:w0.cell? ⟨w.heap.size,0,none⟩=some (.int .u64 hi):=Hk.out.cell 0;have a1:w0.cell? ⟨w.heap.size,1,none⟩=some (.int .u64 lo):=Hk.out.cell 1;have z0:w0.cell? ⟨w.heap.size+1,0,none⟩=some (.int .u64 0):=Hz.out.cell 0;have z1:w0.cell? ⟨w.heap.size+1,1,none⟩=some (.int .u64 0):=Hz.out.cell 1;have f0:=Hz.out.frozen 0;have f1:=Hz.out.frozen 1;go_wp2_with fail;refine Zk1 (v:=.agg #[.int .u64 hi2,.int .u64 lo2]) (by simp [results,Tryz.results158,go_sem,z0,z1]) rfl ?_;exact ⟨rfl,(hb.out.set (p:=⟨w.heap.size+1,0,none⟩) sZ _).set (p:=⟨w.heap.size+1,1,none⟩) sZ _⟩
theorem r1_plus (hi lo x hi2 lo2:Int) (w:Zp1) (h0:0<=hi) (h1:hi<18446744073709551615) (l0:0<=lo) (l1:lo<18446744073709551616) (x0:0<=x) (x1:x<18446744073709551616) (e1:hi2=hi+(lo+x) / 18446744073709551616) (e2:lo2=(lo+x) % 18446744073709551616):
  Calls Tryz.prog 159 #[.agg #[.int .u64 hi,.int .u64 lo],.agg #[.int .u64 0,.int .u64 x]] w λe w'=>e=.returned (.agg #[.int .u64 hi2,.int .u64 lo2])/\Below w.heap.size w w':=by
 have hk:=((Blk.new w 210 #[.int .u64 hi,.int .u64 lo]).alloc (.cells #[.int .u64 0,.int .u64 x] 210)).alloc (.cells #[.int .u64 0,.int .u64 0] 210);have hx:=(Blk.new (w.alloc (.cells #[.int .u64 hi,.int .u64 lo] 210)) 210 #[.int .u64 0,.int .u64 x]).alloc (.cells #[.int .u64 0,.int .u64 0] 210);have hz:=Blk.new ((w.alloc (.cells #[.int .u64 hi,.int .u64 lo] 210)).alloc (.cells #[.int .u64 0,.int .u64 x] 210)) 210 #[.int .u64 0,.int .u64 0];simp only [Zh1] at hx hz;have hf:=(((Later.refl w).alloc (.cells #[.int .u64 hi,.int .u64 lo] 210)).alloc (.cells #[.int .u64 0,.int .u64 x] 210)).alloc (.cells #[.int .u64 0,.int .u64 0] 210);have hp:(((w.alloc (.cells #[.int .u64 hi,.int .u64 lo] 210)).alloc (.cells #[.int .u64 0,.int .u64 x] 210)).alloc (.cells #[.int .u64 0,.int .u64 0] 210)).heap.size≥w.heap.size+3:=by simp
 obtain ⟨E1,E2⟩:=zd2 e1 e2;have s1:IntKind.u64.wrap (lo+x)=lo2:=by rw [IntKind.wrap_u64];omega
 have hn:0<=lo2/\lo2<18446744073709551616:=by omega
 have hc:(lo2<lo/\hi2=hi+1)∨(¬lo2<lo/\hi2=hi):=by omega
 clear e1 e2;obtain ⟨Hk,Hx,Hz,hj⟩:=zd4 hk hx hz hf;clear hk hx hz hf;go_enter Tryz.func159,Tryz.ntmps159;go_upto_region 1 with fail;generalize ((w.alloc (.cells #[.int .u64 hi,.int .u64 lo] 210)).alloc (.cells #[.int .u64 0,.int .u64 x] 210)).alloc (.cells #[.int .u64 0,.int .u64 0] 210)=w0 at *;have a0:w0.cell? ⟨w.heap.size,0,none⟩=some (.int .u64 hi):=Hk.out.cell 0;have a1:w0.cell? ⟨w.heap.size,1,none⟩=some (.int .u64 lo):=Hk.out.cell 1;have b0:w0.cell? ⟨w.heap.size+1,0,none⟩=some (.int .u64 0):=Hx.out.cell 0;have b1:w0.cell? ⟨w.heap.size+1,1,none⟩=some (.int .u64 x):=Hx.out.cell 1;go_upto_region 2 with fail;have hb:=Blk.new w0 210 #[.int .u64 hi,.int .u64 lo2];have hd:=(Later.refl w0).alloc (.cells #[.int .u64 hi,.int .u64 lo2] 210);have hh:=hj.out.trans hd;have ha:=hd.blk Hz.out;have he:=hd.blk Hk.out;clear a0 a1 b0 b1 hd
 show Code.wp _ _ _ _ (w0.alloc (.cells #[.int .u64 hi,.int .u64 lo2] 210))
 generalize hr:w0.heap.size=r at *;generalize w0.alloc (.cells #[.int .u64 hi,.int .u64 lo2] 210)=w1 at *;have a1:w1.cell? ⟨w.heap.size,1,none⟩=some (.int .u64 lo):=he.cell 1;have c0:w1.cell? ⟨r,0,none⟩=some (.int .u64 hi):=hb.cell 0;have c1:w1.cell? ⟨r,1,none⟩=some (.int .u64 lo2):=hb.cell 1;have fc:=hb.frozen 0;have z0:w1.cell? ⟨w.heap.size+1+1,0,none⟩=some (.int .u64 0):=ha.cell 0;have z1:w1.cell? ⟨w.heap.size+1+1,1,none⟩=some (.int .u64 0):=ha.cell 1;have f0:=ha.frozen 0;have f1:=ha.frozen 1;obtain ⟨hg,ho,hl,hm⟩:=zd4 hh ha he hb;clear hh ha he hb;clear hr;rcases hc with ⟨q1,rfl⟩|⟨q1,rfl⟩
 ·have s2:IntKind.u64.wrap (hi+1)=hi+1:=IntWalk.u64_in _ oZ
  go_wp2_with fail;refine Zk1 (v:=.agg #[.int .u64 (hi+1),.int .u64 lo2]) (by simp [results,Tryz.results159,go_sem,z0,z1]) rfl ?_;exact ⟨rfl,((hg.out.set (p:=⟨r,0,none⟩) soZ _).set (p:=⟨w.heap.size+1+1,0,none⟩) soZ _).set (p:=⟨w.heap.size+1+1,1,none⟩) soZ _⟩
 ·have q2:lo<=lo2:=by omega
  clear q1;go_wp2_with fail;refine Zk1 (v:=.agg #[.int .u64 hi2,.int .u64 lo2]) (by simp [results,Tryz.results159,go_sem,z0,z1]) rfl ?_;exact ⟨rfl,(hg.out.set (p:=⟨w.heap.size+1+1,0,none⟩) soZ _).set (p:=⟨w.heap.size+1+1,1,none⟩) soZ _⟩
namespace R1
def W2 (V:Nat) (hi lo:Int):Prop:=hi=((V / 18446744073709551616:Nat):Int)/\lo=((V % 18446744073709551616:Nat):Int)
theorem W2.bd {V:Nat} {hi lo:Int} (h:W2 V hi lo):0<=hi/\0<=lo/\lo<18446744073709551616:=by obtain ⟨rfl,rfl⟩:=h;omega
theorem W2.hi {V:Nat} {hi lo:Int} {m:Nat} (h:W2 V hi lo) (hV:V<m*18446744073709551616):hi<m:=by
 obtain ⟨rfl,rfl⟩:=h;have:V / 18446744073709551616<m:=Nat.div_lt_of_lt_mul oZ;omega
theorem W2.dbl {V:Nat} {hi lo:Int} (h:W2 V hi lo):W2 (2*V) (hi*2+lo / 9223372036854775808) (lo*2 % 18446744073709551616):=by
 obtain ⟨rfl,rfl⟩:=h;exact ⟨by omega,by omega⟩
theorem W2.plus {V x:Nat} {hi lo:Int} (h:W2 V hi lo):W2 (V+x) (hi+(lo+(x:Int)) / 18446744073709551616) ((lo+(x:Int)) % 18446744073709551616):=by
 obtain ⟨rfl,rfl⟩:=h;exact ⟨by omega,by omega⟩
theorem prod_step (a b k:Nat):a*(b / 2 ^ k)=2*(a*(b / 2 ^ (k+1)))+(if b / 2 ^ k % 2=1 then a else 0):=by
 have h:=qda b k;have h2:=Nat.mod_two_eq_zero_or_one (b / 2 ^ k);generalize b / 2 ^ k=B at *;generalize b / 2 ^ (k+1)=C at *;rcases h2 with h2|h2
 ·rw [inZ oZ,Zx,show B=2*C by omega,Nat.mul_left_comm]
 ·rw [ipZ h2,show B=2*C+1 by omega,Nat.mul_add,Nat.mul_one,Nat.mul_left_comm]
theorem qgP {b k:Nat} (hb:b<18446744073709551616) (hk:k<=64):b / 2 ^ k<2 ^ (64-k):=by
 apply Nat.div_lt_of_lt_mul;rw [←Nat.pow_add,show k+(64-k)=64 by omega];exact hb
theorem prod_lt {a b k:Nat} (ha:a<18446744073709551616) (hb:b<18446744073709551616) (hk:1<=k) (hk2:k<=64):a*(b / 2 ^ k)<9223372036854775808*18446744073709551616:=by
 have h1:=qgP hb hk2;have h2:2 ^ (64-k)<=2 ^ 63:=Nat.pow_le_pow_right oZ oZ;have h5:(2:Nat) ^ 63=9223372036854775808:=by decide
 have h3:b / 2 ^ k<9223372036854775808:=by omega
 have h4:a*(b / 2 ^ k)<=a*9223372036854775807:=Nat.mul_le_mul_left _ oZ;omega
theorem prod_lt2 {a b k:Nat} (ha:a<18446744073709551616) (hb:b<18446744073709551616) (hk:1<=k) (hk2:k<=64):2*(a*(b / 2 ^ k))<18446744073709551615*18446744073709551616:=by
 have h1:=qgP hb hk2;have h2:2 ^ (64-k)<=2 ^ 63:=Nat.pow_le_pow_right oZ oZ;have h5:(2:Nat) ^ 63=9223372036854775808:=by decide
 have h3:b / 2 ^ k<9223372036854775808:=by omega
 have h4:a*(b / 2 ^ k)<=a*9223372036854775807:=Nat.mul_le_mul_left _ oZ;omega
end R1
theorem qfI (a b:Nat) (w:Zp1) (ha:a<18446744073709551616) (hb:b<18446744073709551616):
  Calls Tryz.prog 142 #[.int .u64 (a:Int),.int .u64 (b:Int)] w λe w'=>(∃hi lo,e=.returned (.agg #[.int .u64 hi,.int .u64 lo])/\R1.W2 (a*b) hi lo)/\Below w.heap.size w w':=by
 have hz:=(Blk.new w 210 #[.int .u64 0,.int .u64 0]).alloc (.cells #[.int .u64 0,.int .u64 0] 210);have hk:=Blk.new (w.alloc (.cells #[.int .u64 0,.int .u64 0] 210)) 210 #[.int .u64 0,.int .u64 0];rw [Zh1] at hk;have hA:=((Later.refl w).alloc (.cells #[.int .u64 0,.int .u64 0] 210)).alloc (.cells #[.int .u64 0,.int .u64 0] 210);obtain ⟨Hz,Hk,hT⟩:=zd3 hz hk hA;clear hz hk hA;go_enter Tryz.func142,Tryz.ntmps142;go_upto_region 2 with fail;generalize (w.alloc (.cells #[.int .u64 0,.int .u64 0] 210)).alloc (.cells #[.int .u64 0,.int .u64 0] 210)=w0 at *;go_wp2_with fail
 go_loopw [6] (λi wx=>∃(k:Nat) (hi lo:Int),k<=64/\i=nQ iQ ((k:Int)-1)/\R1.W2 (a*(b / 2 ^ k)) hi lo/\Blk wx (w.heap.size+1) 210 #[.int .u64 hi,.int .u64 lo]/\Blk wx w.heap.size 210 #[.int .u64 0,.int .u64 0]/\Later w wx) (λi _=>(intOf i+1).toNat)
 case atStart=>exact ⟨64,0,0,lrZ _,rfl,by rw [Nat.div_eq_of_lt (by simpa using hb),Nat.mul_zero];exact ⟨rfl,rfl⟩,Hk.out,Hz.out,hT.out⟩
 case round=>
  obtain ⟨k,hi,lo,hl,rfl,hV,hf,he,hr⟩:=hrel;obtain ⟨v1,v2,v3⟩:=hV.bd;have c0:wr.cell? ⟨w.heap.size+1,0,none⟩=some (.int .u64 hi):=hf.cell 0;have c1:wr.cell? ⟨w.heap.size+1,1,none⟩=some (.int .u64 lo):=hf.cell 1;rcases k with _|j
  ·have z0:wr.cell? ⟨w.heap.size,0,none⟩=some (.int .u64 0):=he.cell 0
   have z1:wr.cell? ⟨w.heap.size,1,none⟩=some (.int .u64 0):=he.cell 1;have f0:=he.frozen 0;have f1:=he.frozen 1;have HV:=zI (show R1.W2 (a*b) hi lo by simpa using hV);have HL:=zI hr;clear hV hf he hr;go_wp2_with fail;refine Zk1 (v:=.agg #[.int .u64 hi,.int .u64 lo]) (by simp [results,Tryz.results142,go_sem,z0,z1]) rfl ?_;exact ⟨⟨hi,lo,rfl,HV.out⟩,(HL.out.set (p:=⟨w.heap.size,0,none⟩) (lrZ _) _).set (p:=⟨w.heap.size,1,none⟩) (lrZ _) _⟩
  ·have v4:hi<9223372036854775808:=hV.hi (m:=9223372036854775808) (R1.prod_lt ha hb oZ hl)
   have hD:=R1.prod_step a b j;have hy:=hV.dbl;have hj:((j+1:Nat):Int)-1=(j:Int):=by omega
   have h5:IntKind.u64.wrap (j:Int)=(j:Int):=IntWalk.u64_in _ oZ;have h0:(j:Int)<64:=by omega
   have h4:(0:Int)<=(j:Int):=by omega
   rw [hj];have f0:=hf.frozen 0;have f1:=hf.frozen 1;obtain ⟨HV,hU,hN,hX,hI,hn⟩:=zd6 hV hf he hr hD hy;clear hV hf he hr hD hy;go_wp2_with fail;refine (qcF hi lo (hi*2+lo / 9223372036854775808) (lo*2 % 18446744073709551616) wr v1 v4 v2 v3 rfl rfl).mono ?_;rintro e w1 ⟨rfl,h1⟩;have hp:Later wr w1:=h1;have hg:=hp.blk hU.out;have hB:=hp.blk hN.out;have hJ:=hX.out.trans hp;obtain ⟨u1,u2,u3⟩:=hn.out.bd;have hG:=(hg.set_ 0 (.int .u64 (hi*2+lo / 9223372036854775808))).set_ 1 (.int .u64 (lo*2 % 18446744073709551616));have g0:=hg.cell 0;have g1:=hg.cell 1;have f0:=hg.frozen 0;have f1:=hg.frozen 1;simp at g0 g1;obtain ⟨hZ,hY,hW,hM⟩:=zd4 hg hB hJ hG;clear hg hB hJ hG;clear c0 c1 h1 hp;have hH:=(hW.out.set (p:=⟨w.heap.size+1,0,none⟩) sZ (.int .u64 (hi*2+lo / 9223372036854775808))).set (p:=⟨w.heap.size+1,1,none⟩) sZ (.int .u64 (lo*2 % 18446744073709551616));have hw:=(hY.out.far (p:=⟨w.heap.size+1,0,none⟩) sZ (.int .u64 (hi*2+lo / 9223372036854775808))).far (p:=⟨w.heap.size+1,1,none⟩) sZ (.int .u64 (lo*2 % 18446744073709551616));obtain ⟨hv,hL⟩:=zd2 hH hw;clear hH hw;go_upto_region 6 with fail;generalize (w1.setCell ⟨w.heap.size+1,0,none⟩ (.int .u64 (hi*2+lo / 9223372036854775808))).setCell ⟨w.heap.size+1,1,none⟩ (.int .u64 (lo*2 % 18446744073709551616))=w2 at *;have hm:=zI (show Blk w2 (w.heap.size+1) 210 #[.int .u64 (hi*2+lo / 9223372036854775808),.int .u64 (lo*2 % 18446744073709551616)] from hM.out);have hF:(b:Int) / 2 ^ j=((b / 2 ^ j:Nat):Int):=qey rfl;have ho:bits .and .u64 ((b:Int) / 2 ^ j) 1=((b / 2 ^ j % 2:Nat):Int):=by rw [hF];exact qdk _ (Nat.lt_of_le_of_lt (Nat.div_le_self _ _) hb)
   clear g0 g1 f0 f1 hF;have u4:hi*2+lo / 9223372036854775808<18446744073709551615:=hn.out.hi (m:=18446744073709551615) (R1.prod_lt2 ha hb oZ hl);have u5:0<=(a:Int):=by omega
   by_cases hc:b / 2 ^ j % 2=1
   ·have ht:=hI.out
    rw [ipZ hc] at ht;have hS:bits .and .u64 ((b:Int) / 2 ^ j) 1=1:=by rw [ho,hc];rfl
    have hd:=hn.out.plus (x:=a);rw [←ht] at hd;have c0:w2.cell? ⟨w.heap.size+1,0,none⟩=some (.int .u64 (hi*2+lo / 9223372036854775808)):=hm.out.cell 0;have c1:w2.cell? ⟨w.heap.size+1,1,none⟩=some (.int .u64 (lo*2 % 18446744073709551616)):=hm.out.cell 1;have hQ:(a:Int)<18446744073709551616:=by omega
    have hs:=zI hd;clear hd;clear ht ho hc;generalize hi*2+lo / 9223372036854775808=h2 at *;generalize lo*2 % 18446744073709551616=l2 at *;go_wp2_with fail;refine (r1_plus h2 l2 a (h2+(l2+(a:Int)) / 18446744073709551616) ((l2+(a:Int)) % 18446744073709551616) w2 u1 u4 u2 u3 u5 hQ rfl rfl).mono ?_;rintro e w3 ⟨rfl,h3⟩;have hq:Later w2 w3:=h3;have hh:=hq.blk hm.out;have hu:=hq.blk hL.out;have hK:=hv.out.trans hq;have hx:=(hh.set_ 0 (.int .u64 (h2+(l2+(a:Int)) / 18446744073709551616))).set_ 1 (.int .u64 ((l2+(a:Int)) % 18446744073709551616));have hE:=(hu.far (p:=⟨w.heap.size+1,0,none⟩) sZ (.int .u64 (h2+(l2+(a:Int)) / 18446744073709551616))).far (p:=⟨w.heap.size+1,1,none⟩) sZ (.int .u64 ((l2+(a:Int)) % 18446744073709551616));have hC:=(hK.set (p:=⟨w.heap.size+1,0,none⟩) sZ (.int .u64 (h2+(l2+(a:Int)) / 18446744073709551616))).set (p:=⟨w.heap.size+1,1,none⟩) sZ (.int .u64 ((l2+(a:Int)) % 18446744073709551616));have g0:w3.cell? ⟨w.heap.size+1,0,none⟩=some (.int .u64 h2):=hh.cell 0;have g1:w3.cell? ⟨w.heap.size+1,1,none⟩=some (.int .u64 l2):=hh.cell 1;have f0:=hh.frozen 0;have f1:=hh.frozen 1;obtain ⟨hP,hR,hO⟩:=zd3 hx hE hC;clear hx hE hC;clear c0 c1 h3 hq hh hu hK;go_wp2_with fail;go_roundw
    case rel=>exact ⟨j,_,_,by omega,by go_num,hs.out,hP.out,hR.out,hO.out⟩
    case measure=>first|(simp [intOf];done)|(simp [intOf];omega)
   ·have ht:=hI.out
    rw [inZ hc,Zx] at ht;have hS:bits .and .u64 ((b:Int) / 2 ^ j) 1=0:=by rw [ho,show b / 2 ^ j % 2=0 by omega];rfl
    have hd:=hn.out;rw [←ht] at hd;have hs:=zI hd;clear hd;clear ht ho hc;go_wp2_with fail;go_roundw
    case rel=>exact ⟨j,_,_,by omega,by go_num,hs.out,hm.out,hL.out,hv.out⟩
    case measure=>first|(simp [intOf];done)|(simp [intOf];omega)
theorem or_join (hi lo:Int) (p:Nat) (hW:R1.W2 p hi lo):bits .or .u64 (IntKind.u64.wrap (hi*4294967296)) (lo / 4294967296)=((p / 4294967296 % 18446744073709551616:Nat):Int):=by
 obtain ⟨rfl,rfl⟩:=hW;have e1:IntKind.u64.wrap (((p / 18446744073709551616:Nat):Int)*4294967296)=((p / 18446744073709551616 % 4294967296*4294967296:Nat):Int):=by rw [IntKind.wrap_u64];omega
 have e2:(((p % 18446744073709551616:Nat):Int) / 4294967296)=((p % 18446744073709551616 / 4294967296:Nat):Int):=by omega
 rw [e1,e2,bits_or_u64_nat _ _ oZ oZ,qeU _ _ 32 4294967296 dZ oZ];omega
theorem qf7 (x y:Int) (w:Zp1) (hx:Fx.In x) (hy:Fx.In y):Calls Tryz.prog 105 #[nQ iQ x,nQ iQ y] w λe w'=>e=.returned (nQ iQ (Fx.mul x y))/\Below w.heap.size w w':=by
 obtain ⟨HX,HY⟩:=zd2 hx hy;clear hx hy;go_enter Tryz.func105,Tryz.ntmps105;go_wp2_with fail;refine (qdw x _ HX.out).mono ?_;rintro e w1 ⟨rfl,rfl⟩;go_wp2_with fail;refine (qdw y _ HY.out).mono ?_;rintro e w1 ⟨rfl,rfl⟩;go_wp2_with fail;refine (qfI x.natAbs y.natAbs w (qbL HX.out) (qbL HY.out)).mono ?_;rintro e w1 ⟨⟨hi,lo,rfl,hW⟩,h1⟩;have HM:=zI (show Fx.mul x y=Fx.clamp (Fx.sgn (Fx.neg2 x y) (Fx.rnd (x.natAbs*y.natAbs) 4294967296)) from rfl);generalize x.natAbs*y.natAbs=p at *;obtain ⟨v1,v2,v3⟩:=hW.bd;have en:=or_join hi lo p hW;obtain ⟨A,hA⟩:∃A,IntKind.u64.wrap (hi*4294967296)=A:=⟨_,rfl⟩
 obtain ⟨B,hB⟩:∃B,IntKind.u64.wrap (lo*4294967296)=B:=⟨_,rfl⟩
 obtain ⟨n,hn⟩:∃n,n=p / 4294967296 % 18446744073709551616:=⟨_,rfl⟩
 obtain ⟨r,hr⟩:∃r,r=p % 4294967296:=⟨_,rfl⟩
 rw [hA,←hn] at en
 have er:B / 4294967296=(r:Int):=by
  have h:=hB;obtain ⟨-,ht⟩:=hW;rw [IntKind.wrap_u64] at h;omega
 have HO:=zI (show 0<hi / 4294967296↔18446744073709551616<=p / 4294967296 by obtain ⟨hp,-⟩:=hW;omega);have hs:n<18446744073709551616:=by omega
 have hq:r<4294967296:=by omega
 have HR:=zI λ(over:Bool) (ho:over=true↔18446744073709551616<=p / 4294967296)=>R1.round (p:=p) (d:=4294967296) (b:=Fx.neg2 x y) hn ho
 rw [←hr] at HR;have hk:=Blk.new w1 210 #[.int .u64 hi,.int .u64 lo];have hl:=(show Later w w1 from h1).alloc (.cells #[.int .u64 hi,.int .u64 lo] 210);have hf:(0:Int)<=(n:Int):=by omega
 have hd:(n:Int)<18446744073709551616:=by omega
 have hm:(0:Int)<=(r:Int):=by omega
 clear hn hr h1 hW;obtain ⟨Hk,Hl⟩:=zd2 hk hl;clear hk hl;go_upto_region 2 with fail
 show Code.wp _ _ _ _ (w1.alloc (.cells #[.int .u64 hi,.int .u64 lo] 210))
 generalize w1.alloc (.cells #[.int .u64 hi,.int .u64 lo] 210)=w2 at *;generalize w1.heap.size=q at *;have c0:w2.cell? ⟨q,0,none⟩=some (.int .u64 hi):=Hk.out.cell 0;have c1:w2.cell? ⟨q,1,none⟩=some (.int .u64 lo):=Hk.out.cell 1;go_upto_region 5 with fail;obtain ⟨ov,hov⟩:∃ov,ov=decide (0<hi / 4294967296):=⟨_,rfl⟩
 rw [←hov];have hb:=zI (HR.out ov (by rw [hov,decide_eq_true_eq];exact HO.out));obtain ⟨sx,hsx⟩:∃s,decide (x<0)=s:=⟨_,rfl⟩
 obtain ⟨sy,hsy⟩:∃s,decide (y<0)=s:=⟨_,rfl⟩
 have he:Fx.neg2 x y=(!(sx==sy)):=by unfold Fx.neg2;rw [hsx,hsy];rfl
 rw [he] at HM hb;clear he HR HO hov hA hB en er c0 c1 v1 v2 v3;have hh:2147483648<r∨(r=2147483648/\n % 2=1)∨(r=2147483648/\n % 2=0)∨r<2147483648:=by omega
 rcases hh with hc|⟨hc,ho⟩|⟨hc,ho⟩|hc
 ·have ha:R1.up r 4294967296 n=true:=by unfold R1.up;rw [decide_eq_true (show 4294967296<2*r by omega)];rfl
  have d1:decide (2147483648<(r:Int))=true:=by simp;omega
  clear hc
  by_cases hz:n+1=18446744073709551616
  ·have e1:IntKind.u64.wrap ((n:Int)+1)=0:=by rw [IntKind.wrap_u64];omega
   have HF:=zI ((hb.out.1 ha).1 (.inr hz));clear hz;go_wp2_with fail;refine (qaI 0 true (!(sx==sy)) w2 oZ oZ).mono ?_;rintro e w9 ⟨rfl,rfl⟩;rw [ipZ rfl,←HF.out,←HM.out];go_wp2_with fail;go_ret;exact ⟨rfl,Hl.out⟩
  ·have e1:IntKind.u64.wrap ((n:Int)+1)=(n:Int)+1:=IntWalk.u64_in _ oZ
   have hg:(n:Int)+1<18446744073709551616:=by omega
   have hj:((n:Int)+1==0)=false:=by rw [beq_eq_false_iff_ne];omega
   have HF:RowKit.Hid ((if ov=true then Fx.edge (!(sx==sy)) else Fx.clamp (Fx.sgn (!(sx==sy)) ((n:Int)+1).toNat))=Fx.mul x y):=by
    rw [HM.out];cases ov
    ·rw [inZ sZ,(hb.out.1 ha).2 rfl oZ,show ((n:Int)+1).toNat=n+1 by omega];exact zI rfl
    ·rw [ipZ rfl,(hb.out.1 ha).1 (.inl rfl)];exact zI rfl
   clear hz;go_wp2_with fail;refine (qaI ((n:Int)+1) ov (!(sx==sy)) w2 oZ hg).mono ?_;rintro e w9 ⟨rfl,rfl⟩;rw [HF.out];go_wp2_with fail;go_ret;exact ⟨rfl,Hl.out⟩
 ·have ha:R1.up r 4294967296 n=true:=by unfold R1.up;rw [decide_eq_true (show 2*r=4294967296 by omega),decide_eq_true ho,Bool.and_self,Bool.or_true]
  have d1:decide (2147483648<(r:Int))=false:=by simp;omega
  have d2:((r:Int)==2147483648)=true:=by simp;omega
  have d3:(n:Int).tmod 2=1:=by rw [Int.tmod_eq_emod_of_nonneg hf];omega
  clear hc ho
  by_cases hz:n+1=18446744073709551616
  ·have e1:IntKind.u64.wrap ((n:Int)+1)=0:=by rw [IntKind.wrap_u64];omega
   have HF:=zI ((hb.out.1 ha).1 (.inr hz));clear hz;go_wp2_with fail;refine (qaI 0 true (!(sx==sy)) w2 oZ oZ).mono ?_;rintro e w9 ⟨rfl,rfl⟩;rw [ipZ rfl,←HF.out,←HM.out];go_wp2_with fail;go_ret;exact ⟨rfl,Hl.out⟩
  ·have e1:IntKind.u64.wrap ((n:Int)+1)=(n:Int)+1:=IntWalk.u64_in _ oZ
   have hg:(n:Int)+1<18446744073709551616:=by omega
   have hj:((n:Int)+1==0)=false:=by rw [beq_eq_false_iff_ne];omega
   have HF:RowKit.Hid ((if ov=true then Fx.edge (!(sx==sy)) else Fx.clamp (Fx.sgn (!(sx==sy)) ((n:Int)+1).toNat))=Fx.mul x y):=by
    rw [HM.out];cases ov
    ·rw [inZ sZ,(hb.out.1 ha).2 rfl oZ,show ((n:Int)+1).toNat=n+1 by omega];exact zI rfl
    ·rw [ipZ rfl,(hb.out.1 ha).1 (.inl rfl)];exact zI rfl
   clear hz;go_wp2_with fail;refine (qaI ((n:Int)+1) ov (!(sx==sy)) w2 oZ hg).mono ?_;rintro e w9 ⟨rfl,rfl⟩;rw [HF.out];go_wp2_with fail;go_ret;exact ⟨rfl,Hl.out⟩
 ·have ha:R1.up r 4294967296 n=false:=by unfold R1.up;rw [decide_eq_false (show ¬4294967296<2*r by omega),decide_eq_false (show ¬n % 2=1 by omega),Bool.and_false];rfl
  have d1:decide (2147483648<(r:Int))=false:=by simp;omega
  have d2:((r:Int)==2147483648)=true:=by simp;omega
  have d3:(n:Int).tmod 2=0:=by rw [Int.tmod_eq_emod_of_nonneg hf];omega
  clear hc ho
  have HF:RowKit.Hid ((if ov=true then Fx.edge (!(sx==sy)) else Fx.clamp (Fx.sgn (!(sx==sy)) (n:Int).toNat))=Fx.mul x y):=by
   rw [HM.out];cases ov
   ·rw [inZ sZ,(hb.out.2 ha).2 rfl,show (n:Int).toNat=n by omega];exact zI rfl
   ·rw [ipZ rfl,(hb.out.2 ha).1 rfl];exact zI rfl
  go_wp2_with fail;refine (qaI (n:Int) ov (!(sx==sy)) w2 hf hd).mono ?_;rintro e w9 ⟨rfl,rfl⟩;rw [HF.out];go_wp2_with fail;go_ret;exact ⟨rfl,Hl.out⟩
 ·have ha:R1.up r 4294967296 n=false:=by unfold R1.up;rw [decide_eq_false (show ¬4294967296<2*r by omega),decide_eq_false (show ¬2*r=4294967296 by omega)];rfl
  have d1:decide (2147483648<(r:Int))=false:=by simp;omega
  have d2:((r:Int)==2147483648)=false:=by simp;omega
  clear hc
  have HF:RowKit.Hid ((if ov=true then Fx.edge (!(sx==sy)) else Fx.clamp (Fx.sgn (!(sx==sy)) (n:Int).toNat))=Fx.mul x y):=by
   rw [HM.out];cases ov
   ·rw [inZ sZ,(hb.out.2 ha).2 rfl,show (n:Int).toNat=n by omega];exact zI rfl
   ·rw [ipZ rfl,(hb.out.2 ha).1 rfl];exact zI rfl
  go_wp2_with fail;refine (qaI (n:Int) ov (!(sx==sy)) w2 hf hd).mono ?_;rintro e w9 ⟨rfl,rfl⟩;rw [HF.out];go_wp2_with fail;go_ret;exact ⟨rfl,Hl.out⟩
end Go.Proofs.YtimfcikmpllbpaaGreat
