/- Lemmas for the statements of this seat: contracts of functions and the plain laws. -/
import Derived.Laws.CopyRow
import Derived.Test.YtbnnpkcfifejmaaGreatZ05
set_option linter.unusedVariables false
open List renaming take_succ_eq_append_getElem → Zb, replicate → Zc, drop_eq_getElem_cons → Zd, length_append → Ze, all_eq_true → Zf, take_length → Zg, mem_of_mem_take → Zh, getElem?_eq_none → Zi, flatMap_append → Zj, getElem?_toArray → Zk, getElem?_append_right → Zl, getElem?_append_left → Zm, take_append_drop → Zn, length_take → Zo, mem_of_mem_drop → Zp, length_drop → Zq, getElem?_set_self → Zr, getElem?_set_ne → Zs
open Nat renaming zero_le → Zt, succ_mul → Zu, le_trans → Zv, zero_add → Zw, add_zero → Zx, le_succ → Zy
open Bool renaming and_eq_true → Zz
open Go.Value renaming int → Za1, slice → Zb1
open Go.IntWalk renaming i64_in → Zc1
open Go.NoPanic renaming normal → Zd1
open Go.RowKit.Below renaming refl → Ze1
open Go.AllReadyH renaming cons → Zf1, nil → Zg1
open Go.World renaming size_alloc → Zh1, cell?_of_block → Zi1, block_lt_of_cell? → Zj1
open Go renaming bodyPost_ret → Zk1, wp_region_held_drew → Zl1, wp_region_noPanic → Zm1, wpAnyH_done → Zn1, wpAnyH_ready → Zo1, World → Zp1
namespace Go.Proofs.YtbnnpkcfifejmaaGreat
set_option maxHeartbeats 16000000
open Go.RowKit
namespace Ly
theorem poolBack_none {top:Bool} {x g:Ten} {w s:Int} (h:(poolBack top x g w s).2≠0):(poolBack top x g w s).1=none_:=by
 unfold poolBack at h ⊢
 split at h
 ·rename_i h1
  rw [ipZ h1]
  split at h
  ·exact absurd rfl h
  ·rename_i h2
   rw [inZ h2]
 ·rename_i h1
  rw [inZ h1]
theorem cutBack_none {x g:Ten} {sd f t:Int} (h:(cutBack x g sd f t).2≠0):(cutBack x g sd f t).1=none_:=by
 unfold cutBack at h ⊢
 split at h
 ·rename_i h1
  rw [ipZ h1]
  split at h
  ·rename_i h2
   rw [ipZ h2]
   split at h
   ·exact absurd rfl h
   ·rename_i h3
    rw [inZ h3]
  ·rename_i h2
   rw [inZ h2]
 ·rename_i h1
  rw [inZ h1]
theorem layBack9 {o:OpD} {p x:List Ten} {g:Ten} (h:o.kind=9):layBack o p x g=Ly.bbias (Ly.got p 0) (Ly.got x 0) g:=by
 unfold layBack;rw [inZ oZ,ipZ h]
theorem layBack15 {o:OpD} {p x:List Ten} {g:Ten} (h:o.kind=15):layBack o p x g=Ly.bturn (Ly.got x 0) g o.s:=by
 unfold layBack;rw [inZ oZ,inZ oZ,inZ oZ,inZ oZ,inZ oZ,inZ oZ,inZ oZ,ipZ h]
theorem layBack11 {o:OpD} {p x:List Ten} {g:Ten} (h:o.kind=11):layBack o p x g=Ly.bsingle (Ly.poolBack true (Ly.got x 0) g o.width o.step):=by
 unfold layBack;rw [inZ oZ,inZ oZ,inZ oZ,ipZ h]
theorem layBack12 {o:OpD} {p x:List Ten} {g:Ten} (h:o.kind=12):layBack o p x g=Ly.bsingle (Ly.poolBack false (Ly.got x 0) g o.width o.step):=by
 unfold layBack;rw [inZ oZ,inZ oZ,inZ oZ,inZ oZ,ipZ h]
theorem layBack14 {o:OpD} {p x:List Ten} {g:Ten} (h:o.kind=14):layBack o p x g=Ly.bsingle (Ly.cutBack (Ly.got x 0) g o.side o.frm o.to):=by
 unfold layBack;rw [inZ oZ,inZ oZ,inZ oZ,inZ oZ,inZ oZ,inZ oZ,ipZ h]
end Ly
set_option maxRecDepth 20000 in
theorem op_back9 (o:OpD) (S P X GS GC:Option Addr) (c cp cx gc gd:Nat) (p x:List Ten) (g:Ten) (w:Zp1) (hk:o.kind=9) (ho:o.s.length<=1048576) (hI:Ints .i64 w S o.s) (hP:Tns w P p) (hX:Tns w X x) (hG:TenIn w GS GC gc gd g) (hc:Od.counts o p.length x.length=0):
  Calls Tryz.prog 11 #[.agg #[.int .i64 o.kind,.int .i64 o.k,.int .i64 o.width,.int .i64 o.step,.int .i64 o.side,.int .i64 o.frm,.int .i64 o.to,.slice S o.s.length c],.slice P p.length cp,.slice X x.length cx,.agg #[.slice GS g.s.length gc,.slice GC g.c.length gd]] w (GoB (Ly.layBack o p x g) w):=by
 obtain ⟨w1,e1,hi,hj,hC,hs⟩:=qax w o S c GS GC gc gd g;have hb:=Ly.counts_ok hc;unfold Od.least Od.most Od.params at hb;have hM:p.length=1:=by have:=hb.1;have h3:=hb.2.2.2;rw [ipZ this] at h3;simp [hk] at h3;omega
 have hr:x.length=1:=by have:=hb.1;have h1:=hb.2.1;have h2:=hb.2.2.1;rw [ipZ this] at h1 h2;simp [hk] at h1 h2;omega
 have HE:=zI (Ly.layBack9 (p:=p) (x:=x) (g:=g) hk);obtain ⟨HC,hB,hx,Hk⟩:=zd4 hc hM hr hk;clear hb hc hM hr hk;obtain ⟨HI,HP,HX,HG,hm,hf,hg,hy,hv⟩:=zd9 hI hP hX hG hs hi hj hC e1;clear hI hP hX hG hs hi hj hC e1;go_enter Tryz.func11,Tryz.ntmps11;go_wp2_with fail;rw [hv.out];clear hv;refine (qat o S c p.length x.length w1 oZ (HI.out.below hm.out (lrZ _))).mono ?_;rintro e w2 ⟨rfl,hq⟩;rw [HC.out];have he:Later w1 w2:=hq;have hH:=hm.out.trans he;have hz:=he.blk hy.out;have hJ:=he.blk hf.out;have hL:=he.blk hg.out;clear hq he hm hy hf hg;obtain ⟨HH,Hz,hN,hA⟩:=zd4 hH hz hJ hL;clear hH hz hJ hL;obtain ⟨bp,po,S0,c0,C0,d0,rfl,lbp,p00,p01,hF⟩:=HP.out.at_ (j:=0) (by have:=hB.out;omega);obtain ⟨bx,xo,S2,c2,C2,d2,rfl,lbx,x00,x01,hD⟩:=HX.out.at_ (j:=0) (by have:=hx.out;omega);have ha:=λ(W:Zp1) (h:Later w2 W)=>(qeD S0 C0 S2 C2 GS GC c0 d0 c2 d2 gc gd (Ly.got p 0) (Ly.got x 0) g W (hF.later (HH.out.trans h)) (hD.later (HH.out.trans h)) (HG.out.later (HH.out.trans h)))
 have hE:=HE.out;obtain ⟨R,hR⟩:∃R,Ly.bbias (Ly.got p 0) (Ly.got x 0) g=R:=⟨_,rfl⟩
 rw [hR] at ha hE;have q1:w2.cell? ⟨bp,po,none⟩=some (.slice S0 (Ly.got p 0).s.length c0):=HH.out.cell (by simpa using p00);have q2:w2.cell? ⟨bp,po+1,none⟩=some (.slice C0 (Ly.got p 0).c.length d0):=HH.out.cell (by simpa using p01);have q3:w2.cell? ⟨bx,xo,none⟩=some (.slice S2 (Ly.got x 0).s.length c2):=HH.out.cell (by simpa using x00);have q4:w2.cell? ⟨bx,xo+1,none⟩=some (.slice C2 (Ly.got x 0).c.length d2):=HH.out.cell (by simpa using x01);have q5:w2.cell? ⟨w.heap.size+1,0,none⟩=some (.slice GS g.s.length gc):=by rw [hA.out.cell];rfl
 have q6:w2.cell? ⟨w.heap.size+1,1,none⟩=some (.slice GC g.c.length gd):=by rw [hA.out.cell];rfl
 have x0:w2.cell? ⟨w.heap.size,0,none⟩=some (.int .i64 9):=by rw [hN.out.cell,←Hk.out];rfl
 have hS:=HH.out.size;have hQ:=Hz.out.lt;rw [hx.out,hB.out];clear hR p00 p01 hF x00 x01 hD HE;obtain ⟨hh,HE⟩:=zd2 ha hE;clear ha hE;go_upto_region 11 with fail;clear x0;have KF:=zI (show ∀Xw,Later w2 Xw->Xw.cell? ⟨bp,po,none⟩=some (.slice S0 (Ly.got p 0).s.length c0)/\Xw.cell? ⟨bp,po+1,none⟩=some (.slice C0 (Ly.got p 0).c.length d0)/\Xw.cell? ⟨bx,xo,none⟩=some (.slice S2 (Ly.got x 0).s.length c2)/\Xw.cell? ⟨bx,xo+1,none⟩=some (.slice C2 (Ly.got x 0).c.length d2)/\Xw.cell? ⟨w.heap.size+1,0,none⟩=some (.slice GS g.s.length gc)/\Xw.cell? ⟨w.heap.size+1,1,none⟩=some (.slice GC g.c.length gd) from λXw h=>⟨h.cell q1,h.cell q2,h.cell q3,h.cell q4,h.cell q5,h.cell q6⟩);refine Zm1 ?_;refine Zl1 (S:=λXw=>Xw.cell? ⟨bp,po,none⟩=some (.slice S0 (Ly.got p 0).s.length c0)/\Xw.cell? ⟨bp,po+1,none⟩=some (.slice C0 (Ly.got p 0).c.length d0)/\Xw.cell? ⟨bx,xo,none⟩=some (.slice S2 (Ly.got x 0).s.length c2)/\Xw.cell? ⟨bx,xo+1,none⟩=some (.slice C2 (Ly.got x 0).c.length d2)/\Xw.cell? ⟨w.heap.size+1,0,none⟩=some (.slice GS g.s.length gc)/\Xw.cell? ⟨w.heap.size+1,1,none⟩=some (.slice GC g.c.length gd)) krZ (KF.out _ Lau) (λhHeld=>?_);refine tk 0 ?_;refine tk 1 ?_;refine tk 2 ?_;refine tk 3 ?_;refine tk 4 ?_;refine tk 5 ?_;refine tk 6 ?_;refine rd 7 λK hK=>?_
 simp only [ga,gs,gz]
 go_simp
 go_at_call 46
 (with_reducible refine (hh.out _ (Lau:Later w2 _)).mono ?_)
 intro e w9 hn;have hu:=hn.u (w0:=w) (show Later w _ from HH.out.trans (Lau:Later w2 _));obtain ⟨A9,na,B9,nb,rfl,k1,k2,hw⟩:=hu;have hl:Later w2 w9:=Later.trans (Lau:Later w2 (World.drew w2)) hn.2;have hd:=hl.blk Hz.out;have c0':=hd.cell 0;have c1':=hd.cell 1;have f0':=hd.frozen 0;have f1':=hd.frozen 1;simp at c0' c1';have ht:=zI hd;clear hd;obtain ⟨K1,K2,hO⟩:=zd3 k1 k2 hw;have hT:Below w2.heap.size w2 w9:=hl;clear k1 k2 hw hn hl
 try go_wp2_with fail
 refine hK.out _ _ (KF.out _ Lau) (λhHeld=>?_);clear hK K
 try simp only [ga,gs,gz,Act.put,sa,sz,ss]
 refine tk 8 ?_;refine tk 9 ?_;refine rd 10 λK hK=>?_
 simp only [ga,gs,gz]
 go_simp
 refine hK.out _ _ ?_ (λhHeld=>?_)
 ·(try dsimp only);(refine ⟨?_,?_,?_,?_,?_,?_⟩<;>(repeat (refine qa0 ?_ (by first|omega|(simp;done)|(simp;omega))))<;>(refine Later.cell (Lau:Later w2 _) ?_)<;>assumption)
 clear hK K
 try simp only [ga,gs,gz,Act.put,sa,sz,ss]
 refine tk 11 ?_;clear KF;refine Zn1 krZ ?_ _;refine Zd1 ?_;have hp:=(ht.out.set_ 0 (.slice A9 na na)).set_ 1 (.slice B9 nb nb);have e0:=hp.cell 0;have e1:=hp.cell 1;simp at e0 e1;clear hHeld hp;go_wp2_with fail;refine Zk1 (v:=.tuple #[.agg #[.slice A9 na na,.slice B9 nb nb],.int .i64 R.2]) (by simp [results,Tryz.results11,go_sem,e0,e1]) rfl ?_;rw [HE.out];exact GoBU.fin K1.out K2.out hO.out ht.out (show w.heap.size<=w.heap.size+2 by omega) (by first|omega|(simp;omega)) _ _
set_option maxRecDepth 20000 in
theorem qgs (o:OpD) (S P X GS GC:Option Addr) (c cp cx gc gd:Nat) (p x:List Ten) (g:Ten) (w:Zp1) (hk:o.kind=15) (ho:o.s.length<=1048576) (hI:Ints .i64 w S o.s) (hP:Tns w P p) (hX:Tns w X x) (hG:TenIn w GS GC gc gd g) (hc:Od.counts o p.length x.length=0):
  Calls Tryz.prog 11 #[.agg #[.int .i64 o.kind,.int .i64 o.k,.int .i64 o.width,.int .i64 o.step,.int .i64 o.side,.int .i64 o.frm,.int .i64 o.to,.slice S o.s.length c],.slice P p.length cp,.slice X x.length cx,.agg #[.slice GS g.s.length gc,.slice GC g.c.length gd]] w (GoB (Ly.layBack o p x g) w):=by
 obtain ⟨w1,e1,hi,hj,hC,hs⟩:=qax w o S c GS GC gc gd g;have hb:=Ly.counts_ok hc;unfold Od.least Od.most Od.params at hb;have hL:p.length=0:=by have:=hb.1;have h3:=hb.2.2.2;rw [ipZ this] at h3;simp [hk] at h3;omega
 have hr:x.length=1:=by have:=hb.1;have h1:=hb.2.1;have h2:=hb.2.2.1;rw [ipZ this] at h1 h2;simp [hk] at h1 h2;omega
 have HE:=zI (Ly.layBack15 (p:=p) (x:=x) (g:=g) hk);obtain ⟨HC,hQ,hy,Hk⟩:=zd4 hc hL hr hk;clear hb hc hL hr hk;obtain ⟨HI,HP,HX,HG,hm,hf,hg,hA,hw⟩:=zd9 hI hP hX hG hs hi hj hC e1;clear hI hP hX hG hs hi hj hC e1;go_enter Tryz.func11,Tryz.ntmps11;go_wp2_with fail;rw [hw.out];clear hw;refine (qat o S c p.length x.length w1 oZ (HI.out.below hm.out (lrZ _))).mono ?_;rintro e w2 ⟨rfl,hq⟩;rw [HC.out];have he:Later w1 w2:=hq;have hH:=hm.out.trans he;have hz:=he.blk hA.out;have hF:=he.blk hf.out;have hJ:=he.blk hg.out;clear hq he hm hA hf hg;obtain ⟨HH,Hz,hv,hB⟩:=zd4 hH hz hF hJ;clear hH hz hF hJ;obtain ⟨bx,xo,S2,c2,C2,d2,rfl,lbx,x00,x01,hD⟩:=HX.out.at_ (j:=0) (by have:=hy.out;omega);have ha:=λ(W:Zp1) (h:Later w2 W)=>(qeC S2 C2 GS GC S c2 d2 gc gd c (Ly.got x 0) g o.s W (hD.later (HH.out.trans h)) (HG.out.later (HH.out.trans h)) (HI.out.below (HH.out.trans h) (lrZ _)) ho)
 have hE:=HE.out;obtain ⟨R,hR⟩:∃R,Ly.bturn (Ly.got x 0) g o.s=R:=⟨_,rfl⟩
 rw [hR] at ha hE;have q1:w2.cell? ⟨bx,xo,none⟩=some (.slice S2 (Ly.got x 0).s.length c2):=HH.out.cell (by simpa using x00);have q2:w2.cell? ⟨bx,xo+1,none⟩=some (.slice C2 (Ly.got x 0).c.length d2):=HH.out.cell (by simpa using x01);have q3:w2.cell? ⟨w.heap.size+1,0,none⟩=some (.slice GS g.s.length gc):=by rw [hB.out.cell];rfl
 have q4:w2.cell? ⟨w.heap.size+1,1,none⟩=some (.slice GC g.c.length gd):=by rw [hB.out.cell];rfl
 have q5:w2.cell? ⟨w.heap.size,7,none⟩=some (.slice S o.s.length c):=by rw [hv.out.cell];rfl
 have x0:w2.cell? ⟨w.heap.size,0,none⟩=some (.int .i64 15):=by rw [hv.out.cell,←Hk.out];rfl
 have hO:=HH.out.size;have hN:=Hz.out.lt;rw [hy.out];clear hR x00 x01 hD HE;obtain ⟨hh,HE⟩:=zd2 ha hE;clear ha hE;go_upto_region 26 with fail;clear x0;have KF:=zI (show ∀Xw,Later w2 Xw->Xw.cell? ⟨bx,xo,none⟩=some (.slice S2 (Ly.got x 0).s.length c2)/\Xw.cell? ⟨bx,xo+1,none⟩=some (.slice C2 (Ly.got x 0).c.length d2)/\Xw.cell? ⟨w.heap.size+1,0,none⟩=some (.slice GS g.s.length gc)/\Xw.cell? ⟨w.heap.size+1,1,none⟩=some (.slice GC g.c.length gd)/\Xw.cell? ⟨w.heap.size,7,none⟩=some (.slice S o.s.length c) from λXw h=>⟨h.cell q1,h.cell q2,h.cell q3,h.cell q4,h.cell q5⟩);refine Zm1 ?_;refine Zl1 (S:=λXw=>Xw.cell? ⟨bx,xo,none⟩=some (.slice S2 (Ly.got x 0).s.length c2)/\Xw.cell? ⟨bx,xo+1,none⟩=some (.slice C2 (Ly.got x 0).c.length d2)/\Xw.cell? ⟨w.heap.size+1,0,none⟩=some (.slice GS g.s.length gc)/\Xw.cell? ⟨w.heap.size+1,1,none⟩=some (.slice GC g.c.length gd)/\Xw.cell? ⟨w.heap.size,7,none⟩=some (.slice S o.s.length c)) krZ (KF.out _ Lau) (λhHeld=>?_);refine tk 0 ?_;refine tk 1 ?_;refine tk 2 ?_;refine tk 3 ?_;refine tk 4 ?_;refine tk 5 ?_;refine rd 6 λK hK=>?_
 simp only [ga,gs,gz]
 go_simp
 go_at_call 49
 (with_reducible refine (hh.out _ (Lau:Later w2 _)).mono ?_)
 intro e w9 hn;have hu:=hn.u (w0:=w) (show Later w _ from HH.out.trans (Lau:Later w2 _));obtain ⟨A9,na,B9,nb,rfl,k1,k2,hx⟩:=hu;have hl:Later w2 w9:=Later.trans (Lau:Later w2 (World.drew w2)) hn.2;have hd:=hl.blk Hz.out;have c0':=hd.cell 0;have c1':=hd.cell 1;have f0':=hd.frozen 0;have f1':=hd.frozen 1;simp at c0' c1';have ht:=zI hd;clear hd;obtain ⟨K1,K2,hM⟩:=zd3 k1 k2 hx;have hS:Below w2.heap.size w2 w9:=hl;clear k1 k2 hx hn hl
 try go_wp2_with fail
 refine hK.out _ _ (KF.out _ Lau) (λhHeld=>?_);clear hK K
 try simp only [ga,gs,gz,Act.put,sa,sz,ss]
 refine tk 7 ?_;refine tk 8 ?_;refine rd 9 λK hK=>?_
 simp only [ga,gs,gz]
 go_simp
 refine hK.out _ _ ?_ (λhHeld=>?_)
 ·(try dsimp only);(refine ⟨?_,?_,?_,?_,?_⟩<;>(repeat (refine qa0 ?_ (by first|omega|(simp;done)|(simp;omega))))<;>(refine Later.cell (Lau:Later w2 _) ?_)<;>assumption)
 clear hK K
 try simp only [ga,gs,gz,Act.put,sa,sz,ss]
 refine tk 10 ?_;clear KF;refine Zn1 krZ ?_ _;refine Zd1 ?_;have hp:=(ht.out.set_ 0 (.slice A9 na na)).set_ 1 (.slice B9 nb nb);have e0:=hp.cell 0;have e1:=hp.cell 1;simp at e0 e1;clear hHeld hp;go_wp2_with fail;refine Zk1 (v:=.tuple #[.agg #[.slice A9 na na,.slice B9 nb nb],.int .i64 R.2]) (by simp [results,Tryz.results11,go_sem,e0,e1]) rfl ?_;rw [HE.out];exact GoBU.fin K1.out K2.out hM.out ht.out (show w.heap.size<=w.heap.size+2 by omega) (by first|omega|(simp;omega)) _ _
set_option maxRecDepth 20000 in
theorem qgt (o:OpD) (S P X GS GC:Option Addr) (c cp cx gc gd:Nat) (p x:List Ten) (g:Ten) (w:Zp1) (hk:o.kind=11) (ho:o.s.length<=1048576) (hI:Ints .i64 w S o.s) (hP:Tns w P p) (hX:Tns w X x) (hG:TenIn w GS GC gc gd g) (hc:Od.counts o p.length x.length=0):
  Calls Tryz.prog 11 #[.agg #[.int .i64 o.kind,.int .i64 o.k,.int .i64 o.width,.int .i64 o.step,.int .i64 o.side,.int .i64 o.frm,.int .i64 o.to,.slice S o.s.length c],.slice P p.length cp,.slice X x.length cx,.agg #[.slice GS g.s.length gc,.slice GC g.c.length gd]] w (GoB (Ly.layBack o p x g) w):=by
 obtain ⟨w1,e1,hi,hj,hF,hv⟩:=qax w o S c GS GC gc gd g;have hb:=Ly.counts_ok hc;unfold Od.least Od.most Od.params at hb;have hQ:p.length=0:=by have:=hb.1;have h3:=hb.2.2.2;rw [ipZ this] at h3;simp [hk] at h3;omega
 have ht:x.length=1:=by have:=hb.1;have h1:=hb.2.1;have h2:=hb.2.2.1;rw [ipZ this] at h1 h2;simp [hk] at h1 h2;omega
 have HE:=zI (Ly.layBack11 (p:=p) (x:=x) (g:=g) hk);obtain ⟨HC,hY,hA,Hk⟩:=zd4 hc hQ ht hk;clear hb hc hQ ht hk;obtain ⟨HI,HP,HX,HG,hm,hf,hg,hB,hx⟩:=zd9 hI hP hX hG hv hi hj hF e1;clear hI hP hX hG hv hi hj hF e1;go_enter Tryz.func11,Tryz.ntmps11;go_wp2_with fail;rw [hx.out];clear hx;refine (qat o S c p.length x.length w1 oZ (HI.out.below hm.out (lrZ _))).mono ?_;rintro e w2 ⟨rfl,hs⟩;rw [HC.out];have he:Later w1 w2:=hs;have hH:=hm.out.trans he;have hz:=he.blk hB.out;have hM:=he.blk hf.out;have hN:=he.blk hg.out;clear hs he hm hB hf hg;obtain ⟨HH,Hz,hn,hD⟩:=zd4 hH hz hM hN;clear hH hz hM hN;obtain ⟨bx,xo,S2,c2,C2,d2,rfl,lbx,x00,x01,hJ⟩:=HX.out.at_ (j:=0) (by have:=hA.out;omega);have ha:=λ(W:Zp1) (h:Later w2 W)=>qad (qe8 true 1 S2 C2 GS GC c2 d2 gc gd (Ly.got x 0) g o.width o.step W (.inl ⟨rfl,rfl⟩) (hJ.later (HH.out.trans h)) (HG.out.later (HH.out.trans h))) Ly.poolBack_none
 have hE:=HE.out;obtain ⟨R,hR⟩:∃R,Ly.poolBack true (Ly.got x 0) g o.width o.step=R:=⟨_,rfl⟩
 rw [hR] at ha hE;have q1:w2.cell? ⟨bx,xo,none⟩=some (.slice S2 (Ly.got x 0).s.length c2):=HH.out.cell (by simpa using x00);have q2:w2.cell? ⟨bx,xo+1,none⟩=some (.slice C2 (Ly.got x 0).c.length d2):=HH.out.cell (by simpa using x01);have q3:w2.cell? ⟨w.heap.size+1,0,none⟩=some (.slice GS g.s.length gc):=by rw [hD.out.cell];rfl
 have q4:w2.cell? ⟨w.heap.size+1,1,none⟩=some (.slice GC g.c.length gd):=by rw [hD.out.cell];rfl
 have q5:w2.cell? ⟨w.heap.size,2,none⟩=some (.int .i64 o.width):=by rw [hn.out.cell];rfl
 have q6:w2.cell? ⟨w.heap.size,3,none⟩=some (.int .i64 o.step):=by rw [hn.out.cell];rfl
 have x0:w2.cell? ⟨w.heap.size,0,none⟩=some (.int .i64 11):=by rw [hn.out.cell,←Hk.out];rfl
 have hW:=HH.out.size;have hV:=Hz.out.lt;rw [hA.out];clear hR x00 x01 hJ HE;obtain ⟨hh,HE⟩:=zd2 ha hE;clear ha hE;go_upto_region 18 with fail;clear x0;have KF:=zI (show ∀Xw,Later w2 Xw->Xw.cell? ⟨bx,xo,none⟩=some (.slice S2 (Ly.got x 0).s.length c2)/\Xw.cell? ⟨bx,xo+1,none⟩=some (.slice C2 (Ly.got x 0).c.length d2)/\Xw.cell? ⟨w.heap.size+1,0,none⟩=some (.slice GS g.s.length gc)/\Xw.cell? ⟨w.heap.size+1,1,none⟩=some (.slice GC g.c.length gd)/\Xw.cell? ⟨w.heap.size,2,none⟩=some (.int .i64 o.width)/\Xw.cell? ⟨w.heap.size,3,none⟩=some (.int .i64 o.step) from λXw h=>⟨h.cell q1,h.cell q2,h.cell q3,h.cell q4,h.cell q5,h.cell q6⟩);refine Zm1 ?_;refine Zl1 (S:=λXw=>Xw.cell? ⟨bx,xo,none⟩=some (.slice S2 (Ly.got x 0).s.length c2)/\Xw.cell? ⟨bx,xo+1,none⟩=some (.slice C2 (Ly.got x 0).c.length d2)/\Xw.cell? ⟨w.heap.size+1,0,none⟩=some (.slice GS g.s.length gc)/\Xw.cell? ⟨w.heap.size+1,1,none⟩=some (.slice GC g.c.length gd)/\Xw.cell? ⟨w.heap.size,2,none⟩=some (.int .i64 o.width)/\Xw.cell? ⟨w.heap.size,3,none⟩=some (.int .i64 o.step)) krZ (KF.out _ Lau) (λhHeld=>?_);refine tk 0 ?_;refine tk 1 ?_;refine tk 2 ?_;refine tk 3 ?_;refine tk 4 ?_;refine tk 5 ?_;refine tk 6 ?_;refine tk 7 ?_;refine rd 8 λK hK=>?_
 simp only [ga,gs,gz]
 go_simp
 go_at_call 14
 (with_reducible refine (hh.out _ (Lau:Later w2 _)).mono ?_)
 rintro e wf ⟨S3,c3,C3,d3,rfl,-,hO,hT⟩;have hL:Later w2 wf:=Later.trans (Lau:Later w2 (World.drew w2)) hT;obtain ⟨hS,hr⟩:=zd2 hO hL;clear hO hL
 try go_wp2_with fail
 refine hK.out _ _ (KF.out _ Lau) (λhHeld=>?_);clear hK K
 try simp only [ga,gs,gz,Act.put,sa,sz,ss]
 refine tk 9 ?_;refine tk 10 ?_;refine rd 11 λK hK=>?_
 simp only [ga,gs,gz]
 go_simp
 go_at_call 47
 (with_reducible refine (qbX S3 C3 _ _ _ _ _ _).mono ?_)
 intro e w9 hq;have hu:=sg_u (w0:=w) hq (λh=>(hS.out h).base (by first|omega|(simp;omega))) (HH.out.trans hr.out);have hl:Later w2 w9:=Later.trans hr.out (show Later wf w9 by obtain ⟨_,_,_,_,_,h⟩:=hq;exact h);have hC:(Ly.bsingle R).2=R.2:=by unfold Ly.bsingle;split<;>simp_all
 obtain ⟨A9,na,B9,nb,rfl,k1,k2,hy⟩:=hu;have h0:=hr.out.size;have hd:=hl.blk Hz.out;have c0':=hd.cell 0;have c1':=hd.cell 1;have f0':=hd.frozen 0;have f1':=hd.frozen 1;simp at c0' c1';have hw:=zI hd;clear hd;obtain ⟨K1,K2,hU,h4⟩:=zd4 k1 k2 hy hC;have hZ:Below w2.heap.size w2 w9:=hl;clear k1 k2 hy hq hl hC
 try go_wp2_with fail
 refine hK.out _ _ (KF.out _ Lau) (λhHeld=>?_);clear hK K
 try simp only [ga,gs,gz,Act.put,sa,sz,ss]
 refine tk 12 ?_;refine tk 13 ?_;refine rd 14 λK hK=>?_
 simp only [ga,gs,gz]
 go_simp
 refine hK.out _ _ ?_ (λhHeld=>?_)
 ·(try dsimp only);(refine ⟨?_,?_,?_,?_,?_,?_⟩<;>(repeat (refine qa0 ?_ (by first|omega|(simp;done)|(simp;omega))))<;>(refine Later.cell (Lau:Later w2 _) ?_)<;>assumption)
 clear hK K
 try simp only [ga,gs,gz,Act.put,sa,sz,ss]
 refine tk 15 ?_;clear KF;refine Zn1 krZ ?_ _;refine Zd1 ?_;have hp:=(hw.out.set_ 0 (.slice A9 na na)).set_ 1 (.slice B9 nb nb);have e0:=hp.cell 0;have e1:=hp.cell 1;simp at e0 e1;clear hHeld hp;go_wp2_with fail;refine Zk1 (v:=.tuple #[.agg #[.slice A9 na na,.slice B9 nb nb],.int .i64 (Ly.bsingle R).2]) (by simp [results,Tryz.results11,go_sem,e0,e1]) rfl ?_;rw [HE.out];exact GoBU.fin K1.out K2.out hU.out hw.out (show w.heap.size<=w.heap.size+2 by omega) (by first|omega|(simp;omega)) _ _
set_option maxRecDepth 20000 in
theorem qgu (o:OpD) (S P X GS GC:Option Addr) (c cp cx gc gd:Nat) (p x:List Ten) (g:Ten) (w:Zp1) (hk:o.kind=12) (ho:o.s.length<=1048576) (hI:Ints .i64 w S o.s) (hP:Tns w P p) (hX:Tns w X x) (hG:TenIn w GS GC gc gd g) (hc:Od.counts o p.length x.length=0):
  Calls Tryz.prog 11 #[.agg #[.int .i64 o.kind,.int .i64 o.k,.int .i64 o.width,.int .i64 o.step,.int .i64 o.side,.int .i64 o.frm,.int .i64 o.to,.slice S o.s.length c],.slice P p.length cp,.slice X x.length cx,.agg #[.slice GS g.s.length gc,.slice GC g.c.length gd]] w (GoB (Ly.layBack o p x g) w):=by
 obtain ⟨w1,e1,hi,hj,hF,hv⟩:=qax w o S c GS GC gc gd g;have hb:=Ly.counts_ok hc;unfold Od.least Od.most Od.params at hb;have hQ:p.length=0:=by have:=hb.1;have h3:=hb.2.2.2;rw [ipZ this] at h3;simp [hk] at h3;omega
 have ht:x.length=1:=by have:=hb.1;have h1:=hb.2.1;have h2:=hb.2.2.1;rw [ipZ this] at h1 h2;simp [hk] at h1 h2;omega
 have HE:=zI (Ly.layBack12 (p:=p) (x:=x) (g:=g) hk);obtain ⟨HC,hY,hA,Hk⟩:=zd4 hc hQ ht hk;clear hb hc hQ ht hk;obtain ⟨HI,HP,HX,HG,hm,hf,hg,hB,hx⟩:=zd9 hI hP hX hG hv hi hj hF e1;clear hI hP hX hG hv hi hj hF e1;go_enter Tryz.func11,Tryz.ntmps11;go_wp2_with fail;rw [hx.out];clear hx;refine (qat o S c p.length x.length w1 oZ (HI.out.below hm.out (lrZ _))).mono ?_;rintro e w2 ⟨rfl,hs⟩;rw [HC.out];have he:Later w1 w2:=hs;have hH:=hm.out.trans he;have hz:=he.blk hB.out;have hM:=he.blk hf.out;have hN:=he.blk hg.out;clear hs he hm hB hf hg;obtain ⟨HH,Hz,hn,hD⟩:=zd4 hH hz hM hN;clear hH hz hM hN;obtain ⟨bx,xo,S2,c2,C2,d2,rfl,lbx,x00,x01,hJ⟩:=HX.out.at_ (j:=0) (by have:=hA.out;omega);have ha:=λ(W:Zp1) (h:Later w2 W)=>qad (qe8 false 2 S2 C2 GS GC c2 d2 gc gd (Ly.got x 0) g o.width o.step W (.inr ⟨rfl,rfl⟩) (hJ.later (HH.out.trans h)) (HG.out.later (HH.out.trans h))) Ly.poolBack_none
 have hE:=HE.out;obtain ⟨R,hR⟩:∃R,Ly.poolBack false (Ly.got x 0) g o.width o.step=R:=⟨_,rfl⟩
 rw [hR] at ha hE;have q1:w2.cell? ⟨bx,xo,none⟩=some (.slice S2 (Ly.got x 0).s.length c2):=HH.out.cell (by simpa using x00);have q2:w2.cell? ⟨bx,xo+1,none⟩=some (.slice C2 (Ly.got x 0).c.length d2):=HH.out.cell (by simpa using x01);have q3:w2.cell? ⟨w.heap.size+1,0,none⟩=some (.slice GS g.s.length gc):=by rw [hD.out.cell];rfl
 have q4:w2.cell? ⟨w.heap.size+1,1,none⟩=some (.slice GC g.c.length gd):=by rw [hD.out.cell];rfl
 have q5:w2.cell? ⟨w.heap.size,2,none⟩=some (.int .i64 o.width):=by rw [hn.out.cell];rfl
 have q6:w2.cell? ⟨w.heap.size,3,none⟩=some (.int .i64 o.step):=by rw [hn.out.cell];rfl
 have x0:w2.cell? ⟨w.heap.size,0,none⟩=some (.int .i64 12):=by rw [hn.out.cell,←Hk.out];rfl
 have hW:=HH.out.size;have hV:=Hz.out.lt;rw [hA.out];clear hR x00 x01 hJ HE;obtain ⟨hh,HE⟩:=zd2 ha hE;clear ha hE;go_upto_region 20 with fail;clear x0;have KF:=zI (show ∀Xw,Later w2 Xw->Xw.cell? ⟨bx,xo,none⟩=some (.slice S2 (Ly.got x 0).s.length c2)/\Xw.cell? ⟨bx,xo+1,none⟩=some (.slice C2 (Ly.got x 0).c.length d2)/\Xw.cell? ⟨w.heap.size+1,0,none⟩=some (.slice GS g.s.length gc)/\Xw.cell? ⟨w.heap.size+1,1,none⟩=some (.slice GC g.c.length gd)/\Xw.cell? ⟨w.heap.size,2,none⟩=some (.int .i64 o.width)/\Xw.cell? ⟨w.heap.size,3,none⟩=some (.int .i64 o.step) from λXw h=>⟨h.cell q1,h.cell q2,h.cell q3,h.cell q4,h.cell q5,h.cell q6⟩);refine Zm1 ?_;refine Zl1 (S:=λXw=>Xw.cell? ⟨bx,xo,none⟩=some (.slice S2 (Ly.got x 0).s.length c2)/\Xw.cell? ⟨bx,xo+1,none⟩=some (.slice C2 (Ly.got x 0).c.length d2)/\Xw.cell? ⟨w.heap.size+1,0,none⟩=some (.slice GS g.s.length gc)/\Xw.cell? ⟨w.heap.size+1,1,none⟩=some (.slice GC g.c.length gd)/\Xw.cell? ⟨w.heap.size,2,none⟩=some (.int .i64 o.width)/\Xw.cell? ⟨w.heap.size,3,none⟩=some (.int .i64 o.step)) krZ (KF.out _ Lau) (λhHeld=>?_);refine tk 0 ?_;refine tk 1 ?_;refine tk 2 ?_;refine tk 3 ?_;refine tk 4 ?_;refine tk 5 ?_;refine tk 6 ?_;refine tk 7 ?_;refine rd 8 λK hK=>?_
 simp only [ga,gs,gz]
 go_simp
 go_at_call 14
 (with_reducible refine (hh.out _ (Lau:Later w2 _)).mono ?_)
 rintro e wf ⟨S3,c3,C3,d3,rfl,-,hO,hT⟩;have hL:Later w2 wf:=Later.trans (Lau:Later w2 (World.drew w2)) hT;obtain ⟨hS,hr⟩:=zd2 hO hL;clear hO hL
 try go_wp2_with fail
 refine hK.out _ _ (KF.out _ Lau) (λhHeld=>?_);clear hK K
 try simp only [ga,gs,gz,Act.put,sa,sz,ss]
 refine tk 9 ?_;refine tk 10 ?_;refine rd 11 λK hK=>?_
 simp only [ga,gs,gz]
 go_simp
 go_at_call 47
 (with_reducible refine (qbX S3 C3 _ _ _ _ _ _).mono ?_)
 intro e w9 hq;have hu:=sg_u (w0:=w) hq (λh=>(hS.out h).base (by first|omega|(simp;omega))) (HH.out.trans hr.out);have hl:Later w2 w9:=Later.trans hr.out (show Later wf w9 by obtain ⟨_,_,_,_,_,h⟩:=hq;exact h);have hC:(Ly.bsingle R).2=R.2:=by unfold Ly.bsingle;split<;>simp_all
 obtain ⟨A9,na,B9,nb,rfl,k1,k2,hy⟩:=hu;have h0:=hr.out.size;have hd:=hl.blk Hz.out;have c0':=hd.cell 0;have c1':=hd.cell 1;have f0':=hd.frozen 0;have f1':=hd.frozen 1;simp at c0' c1';have hw:=zI hd;clear hd;obtain ⟨K1,K2,hU,h4⟩:=zd4 k1 k2 hy hC;have hZ:Below w2.heap.size w2 w9:=hl;clear k1 k2 hy hq hl hC
 try go_wp2_with fail
 refine hK.out _ _ (KF.out _ Lau) (λhHeld=>?_);clear hK K
 try simp only [ga,gs,gz,Act.put,sa,sz,ss]
 refine tk 12 ?_;refine tk 13 ?_;refine rd 14 λK hK=>?_
 simp only [ga,gs,gz]
 go_simp
 refine hK.out _ _ ?_ (λhHeld=>?_)
 ·(try dsimp only);(refine ⟨?_,?_,?_,?_,?_,?_⟩<;>(repeat (refine qa0 ?_ (by first|omega|(simp;done)|(simp;omega))))<;>(refine Later.cell (Lau:Later w2 _) ?_)<;>assumption)
 clear hK K
 try simp only [ga,gs,gz,Act.put,sa,sz,ss]
 refine tk 15 ?_;clear KF;refine Zn1 krZ ?_ _;refine Zd1 ?_;have hp:=(hw.out.set_ 0 (.slice A9 na na)).set_ 1 (.slice B9 nb nb);have e0:=hp.cell 0;have e1:=hp.cell 1;simp at e0 e1;clear hHeld hp;go_wp2_with fail;refine Zk1 (v:=.tuple #[.agg #[.slice A9 na na,.slice B9 nb nb],.int .i64 (Ly.bsingle R).2]) (by simp [results,Tryz.results11,go_sem,e0,e1]) rfl ?_;rw [HE.out];exact GoBU.fin K1.out K2.out hU.out hw.out (show w.heap.size<=w.heap.size+2 by omega) (by first|omega|(simp;omega)) _ _
set_option maxRecDepth 20000 in
theorem qgv (o:OpD) (S P X GS GC:Option Addr) (c cp cx gc gd:Nat) (p x:List Ten) (g:Ten) (w:Zp1) (hk:o.kind=14) (ho:o.s.length<=1048576) (hI:Ints .i64 w S o.s) (hP:Tns w P p) (hX:Tns w X x) (hG:TenIn w GS GC gc gd g) (hc:Od.counts o p.length x.length=0):
  Calls Tryz.prog 11 #[.agg #[.int .i64 o.kind,.int .i64 o.k,.int .i64 o.width,.int .i64 o.step,.int .i64 o.side,.int .i64 o.frm,.int .i64 o.to,.slice S o.s.length c],.slice P p.length cp,.slice X x.length cx,.agg #[.slice GS g.s.length gc,.slice GC g.c.length gd]] w (GoB (Ly.layBack o p x g) w):=by
 obtain ⟨w1,e1,hi,hj,hF,hv⟩:=qax w o S c GS GC gc gd g;have hb:=Ly.counts_ok hc;unfold Od.least Od.most Od.params at hb;have hQ:p.length=0:=by have:=hb.1;have h3:=hb.2.2.2;rw [ipZ this] at h3;simp [hk] at h3;omega
 have ht:x.length=1:=by have:=hb.1;have h1:=hb.2.1;have h2:=hb.2.2.1;rw [ipZ this] at h1 h2;simp [hk] at h1 h2;omega
 have HE:=zI (Ly.layBack14 (p:=p) (x:=x) (g:=g) hk);obtain ⟨HC,hY,hA,Hk⟩:=zd4 hc hQ ht hk;clear hb hc hQ ht hk;obtain ⟨HI,HP,HX,HG,hn,hf,hg,hB,hx⟩:=zd9 hI hP hX hG hv hi hj hF e1;clear hI hP hX hG hv hi hj hF e1;go_enter Tryz.func11,Tryz.ntmps11;go_wp2_with fail;rw [hx.out];clear hx;refine (qat o S c p.length x.length w1 oZ (HI.out.below hn.out (lrZ _))).mono ?_;rintro e w2 ⟨rfl,hs⟩;rw [HC.out];have he:Later w1 w2:=hs;have hH:=hn.out.trans he;have hz:=he.blk hB.out;have hM:=he.blk hf.out;have hN:=he.blk hg.out;clear hs he hn hB hf hg;obtain ⟨HH,Hz,hl,hD⟩:=zd4 hH hz hM hN;clear hH hz hM hN;obtain ⟨bx,xo,S2,c2,C2,d2,rfl,lbx,x00,x01,hJ⟩:=HX.out.at_ (j:=0) (by have:=hA.out;omega);have ha:=λ(W:Zp1) (h:Later w2 W)=>qad (cut_back S2 C2 GS GC c2 d2 gc gd (Ly.got x 0) g o.side o.frm o.to W (hJ.later (HH.out.trans h)) (HG.out.later (HH.out.trans h))) Ly.cutBack_none
 have hE:=HE.out;obtain ⟨R,hR⟩:∃R,Ly.cutBack (Ly.got x 0) g o.side o.frm o.to=R:=⟨_,rfl⟩
 rw [hR] at ha hE;have q1:w2.cell? ⟨bx,xo,none⟩=some (.slice S2 (Ly.got x 0).s.length c2):=HH.out.cell (by simpa using x00);have q2:w2.cell? ⟨bx,xo+1,none⟩=some (.slice C2 (Ly.got x 0).c.length d2):=HH.out.cell (by simpa using x01);have q3:w2.cell? ⟨w.heap.size+1,0,none⟩=some (.slice GS g.s.length gc):=by rw [hD.out.cell];rfl
 have q4:w2.cell? ⟨w.heap.size+1,1,none⟩=some (.slice GC g.c.length gd):=by rw [hD.out.cell];rfl
 have q5:w2.cell? ⟨w.heap.size,4,none⟩=some (.int .i64 o.side):=by rw [hl.out.cell];rfl
 have q6:w2.cell? ⟨w.heap.size,5,none⟩=some (.int .i64 o.frm):=by rw [hl.out.cell];rfl
 have q7:w2.cell? ⟨w.heap.size,6,none⟩=some (.int .i64 o.to):=by rw [hl.out.cell];rfl
 have x0:w2.cell? ⟨w.heap.size,0,none⟩=some (.int .i64 14):=by rw [hl.out.cell,←Hk.out];rfl
 have hW:=HH.out.size;have hV:=Hz.out.lt;rw [hA.out];clear hR x00 x01 hJ HE;obtain ⟨hh,HE⟩:=zd2 ha hE;clear ha hE;go_upto_region 24 with fail;clear x0;have KF:=zI (show ∀Xw,Later w2 Xw->Xw.cell? ⟨bx,xo,none⟩=some (.slice S2 (Ly.got x 0).s.length c2)/\Xw.cell? ⟨bx,xo+1,none⟩=some (.slice C2 (Ly.got x 0).c.length d2)/\Xw.cell? ⟨w.heap.size+1,0,none⟩=some (.slice GS g.s.length gc)/\Xw.cell? ⟨w.heap.size+1,1,none⟩=some (.slice GC g.c.length gd)/\Xw.cell? ⟨w.heap.size,4,none⟩=some (.int .i64 o.side)/\Xw.cell? ⟨w.heap.size,5,none⟩=some (.int .i64 o.frm)/\Xw.cell? ⟨w.heap.size,6,none⟩=some (.int .i64 o.to) from λXw h=>⟨h.cell q1,h.cell q2,h.cell q3,h.cell q4,h.cell q5,h.cell q6,h.cell q7⟩);refine Zm1 ?_;refine Zl1 (S:=λXw=>Xw.cell? ⟨bx,xo,none⟩=some (.slice S2 (Ly.got x 0).s.length c2)/\Xw.cell? ⟨bx,xo+1,none⟩=some (.slice C2 (Ly.got x 0).c.length d2)/\Xw.cell? ⟨w.heap.size+1,0,none⟩=some (.slice GS g.s.length gc)/\Xw.cell? ⟨w.heap.size+1,1,none⟩=some (.slice GC g.c.length gd)/\Xw.cell? ⟨w.heap.size,4,none⟩=some (.int .i64 o.side)/\Xw.cell? ⟨w.heap.size,5,none⟩=some (.int .i64 o.frm)/\Xw.cell? ⟨w.heap.size,6,none⟩=some (.int .i64 o.to)) krZ (KF.out _ Lau) (λhHeld=>?_);refine tk 0 ?_;refine tk 1 ?_;refine tk 2 ?_;refine tk 3 ?_;refine tk 4 ?_;refine tk 5 ?_;refine tk 6 ?_;refine tk 7 ?_;refine tk 8 ?_;refine tk 9 ?_;refine rd 10 λK hK=>?_
 simp only [ga,gs,gz]
 go_simp
 go_at_call 16
 (with_reducible refine (hh.out _ (Lau:Later w2 _)).mono ?_)
 rintro e wf ⟨S3,c3,C3,d3,rfl,-,hO,hT⟩;have hL:Later w2 wf:=Later.trans (Lau:Later w2 (World.drew w2)) hT;obtain ⟨hS,hr⟩:=zd2 hO hL;clear hO hL
 try go_wp2_with fail
 refine hK.out _ _ (KF.out _ Lau) (λhHeld=>?_);clear hK K
 try simp only [ga,gs,gz,Act.put,sa,sz,ss]
 refine tk 11 ?_;refine tk 12 ?_;refine rd 13 λK hK=>?_
 simp only [ga,gs,gz]
 go_simp
 go_at_call 47
 (with_reducible refine (qbX S3 C3 _ _ _ _ _ _).mono ?_)
 intro e w9 hq;have hu:=sg_u (w0:=w) hq (λh=>(hS.out h).base (by first|omega|(simp;omega))) (HH.out.trans hr.out);have hm:Later w2 w9:=Later.trans hr.out (show Later wf w9 by obtain ⟨_,_,_,_,_,h⟩:=hq;exact h);have hC:(Ly.bsingle R).2=R.2:=by unfold Ly.bsingle;split<;>simp_all
 obtain ⟨A9,na,B9,nb,rfl,k1,k2,hy⟩:=hu;have h0:=hr.out.size;have hd:=hm.blk Hz.out;have c0':=hd.cell 0;have c1':=hd.cell 1;have f0':=hd.frozen 0;have f1':=hd.frozen 1;simp at c0' c1';have hw:=zI hd;clear hd;obtain ⟨K1,K2,hU,h4⟩:=zd4 k1 k2 hy hC;have hZ:Below w2.heap.size w2 w9:=hm;clear k1 k2 hy hq hm hC
 try go_wp2_with fail
 refine hK.out _ _ (KF.out _ Lau) (λhHeld=>?_);clear hK K
 try simp only [ga,gs,gz,Act.put,sa,sz,ss]
 refine tk 14 ?_;refine tk 15 ?_;refine rd 16 λK hK=>?_
 simp only [ga,gs,gz]
 go_simp
 refine hK.out _ _ ?_ (λhHeld=>?_)
 ·(try dsimp only);(refine ⟨?_,?_,?_,?_,?_,?_,?_⟩<;>(repeat (refine qa0 ?_ (by first|omega|(simp;done)|(simp;omega))))<;>(refine Later.cell (Lau:Later w2 _) ?_)<;>assumption)
 clear hK K
 try simp only [ga,gs,gz,Act.put,sa,sz,ss]
 refine tk 17 ?_;clear KF;refine Zn1 krZ ?_ _;refine Zd1 ?_;have hp:=(hw.out.set_ 0 (.slice A9 na na)).set_ 1 (.slice B9 nb nb);have e0:=hp.cell 0;have e1:=hp.cell 1;simp at e0 e1;clear hHeld hp;go_wp2_with fail;refine Zk1 (v:=.tuple #[.agg #[.slice A9 na na,.slice B9 nb nb],.int .i64 (Ly.bsingle R).2]) (by simp [results,Tryz.results11,go_sem,e0,e1]) rfl ?_;rw [HE.out];exact GoBU.fin K1.out K2.out hU.out hw.out (show w.heap.size<=w.heap.size+2 by omega) (by first|omega|(simp;omega)) _ _
theorem qgw {α:Type} (C L:List α) {k:Nat} (hk:k<C.length) (hn:C.length=L.length):(C.take k++L.drop k).set k C[k]=C.take (k+1)++L.drop (k+1):=by
 have h1:(C.take k).length=k:=by simp;omega
 rw [List.set_append_right _ _ oZ,h1,Nat.sub_self,Zd oZ,List.set_cons_zero,Zb hk,List.append_assoc]
 rfl
theorem RowO.base {B B':Nat} {w:Zp1} {vs:List Value} {ts:List Ten} (h:RowO B w vs ts) (hB:B'<=B):RowO B' w vs ts:=
 ⟨h.1,λj hj=>by obtain ⟨S,c,C,d,e1,e2,e3⟩:=h.2 j hj;exact ⟨S,c,C,d,e1,e2,e3.base hB⟩⟩
set_option maxRecDepth 20000 in
theorem qgx (sd:Int) (A GS GC:Option Addr) (f gc gd:Nat) (x:List Ten) (g:Ten) (w:Zp1) (lx:x.length<=1048576) (hf:x.length<=f) (hf2:f<=9223372036854775807) (hT:Tns w A x) (hG:TenIn w GS GC gc gd g):
  Calls Tryz.prog 15 #[.int .i64 sd,.agg #[.slice GS g.s.length gc,.slice GC g.c.length gd],.slice A x.length f] w (GoL (Ly.joinBack sd g x) w):=by
 obtain ⟨i0,hi,Hv,Ht,Hl⟩:=info_parts qcF;have Hw:Later w (w.alloc (.cells #[.slice GS g.s.length gc,.slice GC g.c.length gd] 30)):=(Later.refl w).alloc _;have hk:=Blk.new w 30 #[.slice GS g.s.length gc,.slice GC g.c.length gd];have lg1:=hG.l1;have lg2:=hG.l2;obtain ⟨HT,hZ,Hk,HG⟩:=zd4 hT Hw hk hG;clear hT Hw hk hG;go_enter Tryz.func15,Tryz.ntmps15;go_wp2_with fail;generalize w.alloc (.cells #[.slice GS g.s.length gc,.slice GC g.c.length gd] 30)=w1 at *;refine (qcH sd A f x w1 lx hf hf2 (HT.out.later hZ.out)).mono ?_;rintro e w2 ⟨B,bc,rfl,hI,H4,H8,HN,He⟩;have h4:Later w1 w2:=He;have hz:=hZ.out.trans h4;have hA:=h4.blk Hk.out;clear He hZ Hk h4 HN
 by_cases hj:(Ly.joined sd x).2=0
 case neg=>
  have HE:=zI (Ly.joinBack_err (g:=g) hj);have Hj:=zI hj;have d1:((Ly.joined sd x).2==0)=false:=by simpa using hj
  have d2:((Ly.joined sd x).2 != 0)=true:=by simpa using hj
  clear hj hI;generalize (Ly.joined sd x).2=ge at *;generalize (Ly.joined sd x).1.length=sl at *;obtain ⟨hC,h3⟩:=zd2 hz hA;clear hz hA;go_wp2_with fail;refine Zk1 (v:=.tuple #[.slice none 0 0,.int .i64 ge]) (by simp [results,Tryz.results15,go_sem]) rfl ?_;exact GoL.fail HE.out Hj.out hC.out
 have hl:=λhh=>Ly.joinBack_bad (g:=g) hj hh
 have hp:=λhh hs=>Ly.joinBack_ok (g:=g) hj hh hs
 have ho:=λhh hs (j:Nat) (hjl:j<x.length)=>Ly.jb_each (g:=g) hj hh hs hjl
 obtain ⟨k,rfl,HC,H7,-,Hq,-⟩:=Ly.joined_facts hj;rw [hj];have H1:=(Sh.right_mul Hq).2.1;clear hj Hq;generalize (Ly.joined (k:Int) x).1=s at *;have g0:w2.cell? ⟨w.heap.size,0,none⟩=_:=hA.cell 0;have g1:w2.cell? ⟨w.heap.size,1,none⟩=_:=hA.cell 1;simp at g0 g1;have Hn:=qa2 GS GC gc gd g w2 oZ oZ (HG.out.later hz).r.1;have Hm:=λ(V:Zp1) (h:Later w2 V)=>qa7 GS B gc bc g.s s V oZ oZ (HG.out.later (hz.trans h)).r.1 (hI.below h (lrZ _))
 obtain ⟨hC,h3,HI,hd,ha,hL,Hx,hn⟩:=zd8 hz hA hI hl hp Hn Hm ho;clear hz hA hI hl hp Hn Hm ho;cases hr:Tn.right g
 ·have HE:=zI (hd.out (by rw [hr];rfl))
  rw [hr] at hL;clear hd ha hr;go_wp2_with fail;refine (hL.out).mono ?_;rintro e w3 ⟨rfl,hF⟩;have he:Later w2 w3:=hF;have hP:=hC.out.trans he;clear g0 g1 hF;obtain ⟨hK,h5⟩:=zd2 he hP;clear he hP;go_wp2_with fail;refine Zk1 (v:=.tuple #[.slice none 0 0,.int .i64 20]) (by simp [results,Tryz.results15,go_sem]) rfl ?_;exact GoL.fail HE.out dZ h5.out
 rw [hr] at hL;go_wp2_with fail;refine (hL.out).mono ?_;rintro e w3 ⟨rfl,hF⟩;have he:Later w2 w3:=hF;have g0':=he.cell g0;clear hF g0 g1;have hc:=Hx.out _ he;cases hq:(g.s==s)
 ·have HE:=zI (hd.out (by rw [hr,hq];rfl))
  rw [hq] at hc;clear hd ha hr hq;obtain ⟨hK,hg⟩:=zd2 he hc;clear he hc;go_wp2_with fail;refine (hg.out).mono ?_;rintro e w4 ⟨rfl,q4,rfl⟩;have hP:=(hC.out.trans hK.out).drewN q4;clear g0';have h5:=zI hP;clear hP;go_wp2_with fail;refine Zk1 (v:=.tuple #[.slice none 0 0,.int .i64 20]) (by simp [results,Tryz.results15,go_sem]) rfl ?_;exact GoL.fail HE.out dZ h5.out
 rw [hq] at hc;have h9:g.s=s:=by simpa using hq
 have HE:=zI (ha.out hr h9);have hw:=hn.out hr h9;rw [tnZ] at hw;clear hd ha hr hq h9 hn;obtain ⟨hK,hg,Ha⟩:=zd3 he hc hw;clear he hc hw;go_wp2_with fail;refine (hg.out).mono ?_;rintro e w4 ⟨rfl,q4,rfl⟩;have hY:=hK.out.drewN q4;clear g0' hg Hx hL hK;generalize w3.drewN q4=w4 at *;have h0:=hC.out.trans hY;have HA:=hY.blk h3.out;have HD:=HG.out.later h0;clear hY hC h3 HI;obtain ⟨Hc,Hz,HO⟩:=zd3 h0 HA HD;clear h0 HA HD;go_wp2_with (at_make;refine wpList_make_full _ rfl _ _ 27 rfl w4.heap.size 30 i0 (.agg #[.slice none 0 0,.slice none 0 0]) 2 Tryz.underlying27 hi Hv Ht _ _ _ _ x.length rfl rfl (by first|rfl|simp) (by first|rfl|simp) ?b2 ?b3 (lrZ _) ?_)
 case b2=>rw [Hl];omega
 case b3=>unfold maxLen;omega
 intro w5 hown hgrow
 have hH:Blk w5 w4.heap.size 30 (Zc (x.length*2) (Zb1 none 0 0)).toArray:=by
  have h:=qc8 hown;rw [qb3] at h;exact h
 have HF:Later w4 w5:=(Later.refl w4).grown hgrow (lrZ _) sZ;obtain ⟨JL,hJL⟩:∃JL,Ly.jlist (k:Int) g 0 x=JL:=⟨_,rfl⟩
 have Hh:JL.length=x.length:=by rw [←hJL,Ly.jlist_len]
 have Hi:∀j (hj:j<JL.length),JL[j]=Ly.jcut (k:Int) g (Ly.sumAt k (x.take j)) (Ly.got x j):=λj hj=>by
  have:=Ly.jlist_get (k:Int) g x 0 j oZ;rw [hJL,qan hj,Int.zero_add,tnZ] at this;exact this
 rw [hJL] at HE;have HS:w.heap.size<=w4.heap.size:=Hc.out.size;have hN:RowO w.heap.size w5 (Zc (x.length*2) (Zb1 none 0 0)) (JL.take 0++(Zc x.length Ly.none_).drop 0):=by simpa using RowO.zeros w.heap.size w5 x.length
 clear hown hgrow hi Hv Ht Hl hJL;obtain ⟨hJ,HJ,hv,HQ,hO⟩:=zd5 hH HF Hh Hi hN;clear hH HF Hh Hi hN;go_wp2_with fail
 go_loopw [11,39] (λfv iv wx=>∃(j:Nat) (vs:List Value),j<=x.length/\iv=.int .i64 (j:Int)/\fv=.int .i64 (Ly.sumAt k (x.take j))/\Blk wx w4.heap.size 30 vs.toArray/\RowO w.heap.size wx vs (JL.take j++(Zc x.length Ly.none_).drop j)/\Later w4 wx) (λ_ iv _=>x.length-(intOf iv).toNat)
 case atStart=>exact ⟨0,_,Zt _,rfl,rfl,hJ.out,hO.out,HJ.out⟩
 case round=>
  obtain ⟨j,vs,hj,rfl,rfl,hB,hx,hD⟩:=hrel;clear hJ hO HJ
  by_cases hu:j<x.length
  ·obtain ⟨b,off,S,c,C,d,rfl,hb,y0,y1,ht⟩:=(HT.out.later (Hc.out.trans hD)).at_ hu
   obtain ⟨hcut,HP,gb,H9,H5,HZ,-⟩:=Ha.out j hu;have Hs:=HQ.out j (by rw [hv.out];exact hu);have hR:=qgw JL (Zc x.length Ly.none_) (k:=j) (by rw [hv.out];exact hu) (by rw [hv.out,List.length_replicate]);rw [Hs] at hR
   have hQ:Ly.sumAt k (x.take (j+1))=Ly.sumAt k (x.take j)+Ly.at_ (Ly.got x j).s k:=by
    rw [Zb hu,Ly.sumAt_app,Ly.sumAt_one,qan hu]
    rfl
   obtain ⟨bs,os,H2,-,cs⟩:=ht.r.1 k HZ;subst H2;have cs':wr.cell? ⟨bs,os+k,none⟩=some (.int .i64 (Ly.at_ (Ly.got x j).s k)):=cs;have Hg:Ly.jcut (k:Int) g (Ly.sumAt k (x.take j)) (Ly.got x j)=(Ly.cut g (k:Int) (Ly.sumAt k (x.take j)) (Ly.sumAt k (x.take j)+Ly.at_ (Ly.got x j).s k)).1:=by unfold Ly.jcut;rw [tnZ]
   rw [Hg] at hR;have HL:vs.length=x.length*2:=by rw [hx.1,Ze,Zo,Zq,List.length_replicate,hv.out];omega
   have hS:(JL.take j++(Zc x.length Ly.none_).drop j).length=x.length:=by rw [Ze,Zo,Zq,List.length_replicate,hv.out];omega
   obtain ⟨M1,hM1⟩:∃M1,M1=JL.take (j+1)++(Zc x.length Ly.none_).drop (j+1):=⟨_,rfl⟩
   rw [←hM1] at hR;generalize JL.take j++(Zc x.length Ly.none_).drop j=M0 at *;generalize Ly.sumAt k (x.take j)=F at *;generalize Ly.at_ (Ly.got x j).s k=sk at *;generalize Ly.got x j=t at *;have Hp:=λ(V:Zp1) (h:Later wr V)=>qda GS GC gc gd g (k:Int) F (F+sk) V (HO.out.later (hD.trans h))
   have Hf:=(Later.refl wr).alloc (.cells #[.slice (some ⟨bs,os,none⟩) t.s.length c,.slice C t.c.length d] 30);have Ho:=Blk.new wr 30 #[.slice (some ⟨bs,os,none⟩) t.s.length c,.slice C t.c.length d];have k1:(j:Int)<(x.length:Int):=by omega
   have k2:(k:Int)<(t.s.length:Int):=by omega
   clear cs Hs Hg ht HP;obtain ⟨HB,hX,hW,h2,HV,h7,HX,hy,HU⟩:=zd9 hB hx hD hcut hR hQ Hp Hf Ho;obtain ⟨Hr,hE,H0⟩:=zd3 HL hS hM1;clear hB hx hD hcut hR hQ Hp Hf Ho HL hS hM1;go_upto_region 11 with fail;have cs:=hy.out.cell cs';generalize wr.alloc (.cells #[.slice (some ⟨bs,os,none⟩) t.s.length c,.slice C t.c.length d] 30)=wb at *;have x0:wb.cell? ⟨wr.heap.size,0,none⟩=_:=HU.out.cell 0;have gg0:wb.cell? ⟨w.heap.size,0,none⟩=_:=((hW.out.trans hy.out).blk Hz.out).cell 0;have gg1:wb.cell? ⟨w.heap.size,1,none⟩=_:=((hW.out.trans hy.out).blk Hz.out).cell 1;simp at x0 gg0 gg1;clear y0 y1 cs';go_wp2_with fail;refine (HX.out _ hy.out).mono ?_;rintro e w6 ⟨⟨hl,-⟩|⟨-,v,rfl,HM⟩,HK⟩
   ·exact absurd h2.out hl
   generalize (Ly.cut g (k:Int) F (F+sk)).1=u at *;have hU:=HM;obtain ⟨S3,c3,C3,d3,rfl,-,-,-⟩:=HM;have h6:Later wb w6:=HK;have hV:=hy.out.trans h6;have hm:=hV.blk HB.out;have h1:=(hX.out.later hV).set (k:=j) (by rw [hE.out];exact hu) (hU.base (by have:=hW.out.size;have:=hy.out.size;omega));rw [HV.out,H0.out] at h1;have Hd:=Hr.out;obtain ⟨p0,e0⟩:∃u,w6.cell? ⟨w4.heap.size,j*2,none⟩=some u:=by rw [hm.cell];exact ⟨_,by rw [Zk,geZ oZ]⟩
   obtain ⟨p1,e1⟩:∃u,w6.cell? ⟨w4.heap.size,j*2+1,none⟩=some u:=by rw [hm.cell];exact ⟨_,by rw [Zk,geZ oZ]⟩
   have f0:=hm.frozen (j*2);have f1:=hm.frozen (j*2+1);have hM:=h1.off (i:=j*2) (k:=j*2+1) hm hX.out.rowT.cell (.slice S3 u.s.length c3) (.slice C3 u.c.length d3);have Hb:=(hm.set_ (j*2) (.slice S3 u.s.length c3)).set_ (j*2+1) (.slice C3 u.c.length d3);rw [List.setIfInBounds_toArray,List.setIfInBounds_toArray] at Hb;have HH:=((hW.out.trans hV).set (p:=⟨w4.heap.size,j*2,none⟩) (lrZ _) (.slice S3 u.s.length c3)).set (p:=⟨w4.heap.size,j*2+1,none⟩) (lrZ _) (.slice C3 u.c.length d3);clear HK x0 gg0 gg1 cs hU h1 Hr hE Hd;obtain ⟨H6,H3,gf,h8,HR,HW⟩:=zd6 h6 hV hm hM Hb HH;clear h6 hV hm hM Hb HH;go_wp2_with fail;go_roundw
   case rel=>exact ⟨j+1,_,by omega,by go_num,by rw [h7.out],HR.out,h8.out,HW.out⟩
   case measure=>simp [intOf];omega
  ·obtain rfl:j=x.length:=by omega
   have Hu:JL.take x.length++(Zc x.length Ly.none_).drop x.length=JL:=by rw [←hv.out,Zg,List.drop_eq_nil_of_le (by rw [List.length_replicate];exact lrZ _),List.append_nil]
   rw [Hu] at hx;have Hy:=Hc.out.trans hD;obtain ⟨HB,hX,HY⟩:=zd3 hB hx Hy;clear hB hx Hy;clear Hu;go_wp2_with fail;refine Zk1 (v:=.tuple #[.slice (some ⟨w4.heap.size,0,none⟩) x.length x.length,.int .i64 0]) (by simp [results,Tryz.results15,go_sem]) rfl ?_;rw [HE.out];exact ⟨.inr ⟨rfl,some ⟨w4.heap.size,0,none⟩,by rw [show (JL,(0:Int)).1.length=x.length from hv.out],hX.out.tnsO HB.out HS⟩,HY.out⟩
namespace Ly
theorem layBack13 {o:OpD} {p x:List Ten} {g:Ten} (h:o.kind=13):layBack o p x g=bseveral (joinBack o.side g x):=by
 unfold layBack;rw [inZ oZ,inZ oZ,inZ oZ,inZ oZ,inZ oZ,ipZ h]
end Ly
set_option maxRecDepth 20000 in
theorem qgy (o:OpD) (S P X GS GC:Option Addr) (c cp cx gc gd:Nat) (p x:List Ten) (g:Ten) (w:Zp1) (hk:o.kind=13) (ho:o.s.length<=1048576) (hI:Ints .i64 w S o.s) (hX:Tns w X x) (lX:x.length<=1048576) (kX:x.length<=cx) (mX:cx<=9223372036854775807) (hG:TenIn w GS GC gc gd g):
  Calls Tryz.prog 11 #[.agg #[.int .i64 o.kind,.int .i64 o.k,.int .i64 o.width,.int .i64 o.step,.int .i64 o.side,.int .i64 o.frm,.int .i64 o.to,.slice S o.s.length c],.slice P p.length cp,.slice X x.length cx,.agg #[.slice GS g.s.length gc,.slice GC g.c.length gd]] w (GoB (Ly.back o p x g) w):=by
 obtain ⟨w1,e1,hs,ht,hN,hF⟩:=qax w o S c GS GC gc gd g;obtain ⟨HI,HX,HG,hA,hj,hn,hK,Hk,hJ⟩:=zd9 hI hX hG hF hs ht hN hk e1;clear hI hX hG hF hs ht hN hk e1;go_enter Tryz.func11,Tryz.ntmps11;go_wp2_with fail;rw [hJ.out];clear hJ;refine (qat o S c p.length x.length w1 oZ (HI.out.below hA.out (lrZ _))).mono ?_;rintro e w2 ⟨rfl,hE⟩;have hi:Later w1 w2:=hE;have hH:=hA.out.trans hi;have hz:=hi.blk hK.out;have hg:=hi.blk hj.out;have hh:=hi.blk hn.out;clear hE hi hA hK hj hn
 by_cases hc:Od.counts o p.length x.length=0
 case neg=>
  have HE:=zI (Ly.back_err (g:=g) hc);have Hc:=zI hc;have d2:(Od.counts o p.length x.length != 0)=true:=by simpa using hc
  clear hc;generalize Od.counts o p.length x.length=ge at *;have c0':=hz.cell 0;have c1':=hz.cell 1;have f0:=hz.frozen 0;have f1:=hz.frozen 1;have ha:=(hz.set_ 0 (.slice none 0 0)).set_ 1 (.slice none 0 0);have d0:=ha.cell 0;have d1:=ha.cell 1;simp at c0' c1' d0 d1;obtain ⟨HH,Hz,hQ,hV,hw⟩:=zd5 hH hz hg hh ha;clear hH hz hg hh ha;go_wp2_with fail;refine Zk1 (v:=.tuple #[.agg #[.slice none 0 0,.slice none 0 0],.int .i64 ge]) (by simp [results,Tryz.results11,go_sem,d0,d1]) rfl ?_;exact GoB.fail HE.out Hc.out ((HH.out.set (p:=⟨w.heap.size+2,0,none⟩) sZ _).set (p:=⟨w.heap.size+2,1,none⟩) sZ _)
 have HE:=zI ((Ly.back_lay (g:=g) hc).trans (Ly.layBack13 Hk.out));rw [hc];clear hc;have x0:w2.cell? ⟨w.heap.size,0,none⟩=some (.int .i64 13):=by rw [hg.cell,←Hk.out];rfl
 have x1:w2.cell? ⟨w.heap.size,4,none⟩=some (.int .i64 o.side):=by rw [hg.cell];rfl
 have g0:=hh.cell 0;have g1:=hh.cell 1;simp at g0 g1;have hb:=qgx o.side X GS GC cx gc gd x g w2 lX kX mX (HX.out.later hH) (HG.out.later hH);obtain ⟨R,hR⟩:∃R,Ly.joinBack o.side g x=R:=⟨_,rfl⟩
 rw [hR] at hb HE;obtain ⟨HH,Hz,hQ,hV,hr,HR⟩:=zd6 hH hz hg hh hb hR;clear hH hz hg hh hb hR;go_wp2_with fail;refine (hr.out).mono ?_;rintro e w3 ⟨⟨hB,rfl⟩|⟨h0,A,rfl,hO⟩,hv⟩
 ·have he:Later w2 w3:=hv
  have hl:Ly.bseveral R=(Ly.bnone,R.2):=by unfold Ly.bseveral;rw [inZ hB]
  rw [hl] at HE;have hp:=HH.out.trans he;have hq:=he.blk Hz.out;have hM:=zI hB;clear hv x0 x1 g0 g1 hB hl;generalize R.2=ge at *;obtain ⟨hT,hy,hx⟩:=zd3 he hp hq;clear he hp hq;go_wp2_with fail;refine (qbS none 0 0 ge w3 hM.out).mono ?_;rintro e w4 ⟨rfl,hu⟩;have hd:Later w3 w4:=hu;have hm:=hy.out.trans hd;have ha:=hd.blk hx.out;have c0':=ha.cell 0;have c1':=ha.cell 1;have f0:=ha.frozen 0;have f1:=ha.frozen 1;have hf:=(ha.set_ 0 (.slice none 0 0)).set_ 1 (.slice none 0 0);have d0:=hf.cell 0;have d1:=hf.cell 1;simp at c0' c1' d0 d1;clear hu;obtain ⟨hS,hC,hw,hW⟩:=zd4 hd hm ha hf;clear hd hm ha hf;go_wp2_with fail;refine Zk1 (v:=.tuple #[.agg #[.slice none 0 0,.slice none 0 0],.int .i64 ge]) (by simp [results,Tryz.results11,go_sem,d0,d1]) rfl ?_;exact GoB.fail HE.out hM.out ((hC.out.set (p:=⟨w.heap.size+2,0,none⟩) sZ _).set (p:=⟨w.heap.size+2,1,none⟩) sZ _)
 ·have he:Later w2 w3:=hv
  have hl:Ly.bseveral R=(⟨[],R.1⟩,0):=by unfold Ly.bseveral;rw [ipZ h0]
  rw [hl] at HE;have hp:=HH.out.trans he;have hq:=he.blk Hz.out;have hZ:=Hz.out.lt;have hU:=HH.out.size;clear hv x0 x1 g0 g1 hl h0;obtain ⟨hT,hy,hx,HO⟩:=zd4 he hp hq hO;clear he hp hq hO;go_wp2_with fail;refine (qbR A R.1.length R.1.length w3).mono ?_;rintro e w4 ⟨rfl,hu⟩;have hd:Later w3 w4:=hu;have hm:=hy.out.trans hd;have ha:=hd.blk hx.out;have hD:=HO.out.later hd
  have hL:∀a,A=some a->a.block≠w.heap.size+2:=λa e=>by
   obtain ⟨b,h1,h2,-,-⟩:=hD.1 a e;rw [h1]
   show b≠_
   omega
  have c0':=ha.cell 0;have c1':=ha.cell 1;have f0:=ha.frozen 0;have f1:=ha.frozen 1;have hf:=(ha.set_ 0 (.slice none 0 0)).set_ 1 (.slice A R.1.length R.1.length);have d0:=hf.cell 0;have d1:=hf.cell 1;simp at c0' c1' d0 d1;clear hu;obtain ⟨hS,hC,hw,hW,hY,hP⟩:=zd6 hd hm ha hf hD hL;clear hd hm ha hf hD hL;go_wp2_with fail;refine Zk1 (v:=.tuple #[.agg #[.slice none 0 0,.slice A R.1.length R.1.length],.int .i64 0]) (by simp [results,Tryz.results11,go_sem,d0,d1]) rfl ?_;rw [HE.out];exact ⟨.inr ⟨rfl,none,A,rfl,TnsO.nil _ _,(hY.out.base hU).box hw.out hP.out _ _⟩,(hC.out.set (p:=⟨w.heap.size+2,0,none⟩) sZ _).set (p:=⟨w.heap.size+2,1,none⟩) sZ _⟩
theorem qa4 {w:Zp1} {a b:Nat} {t1 t2:TypeId} {c1 c2:Array Value} (h1:Blk w a t1 c1) (h2:Blk w b t2 c2) (ht:t1≠t2):a≠b:=by
 intro e;subst e;have e:=h1.symm.trans h2;injection e with e
 injection e with _ e2 _
 exact ht e2
def six (u0 u1 u2 u3 u4 u5:Value) (tb:Nat) (w:Zp1):Zp1:=(((((w.setCell ⟨tb,0,none⟩ u0).setCell ⟨tb,1,none⟩ u1).setCell ⟨tb,2,none⟩ u2).setCell ⟨tb,3,none⟩ u3).setCell ⟨tb,4,none⟩ u4).setCell ⟨tb,5,none⟩ u5
theorem qbw (u0 u1 u2 u3 u4 u5:Value) (tb:Nat) (w:Zp1):Else tb w (six u0 u1 u2 u3 u4 u5 tb w):=((((((Else.refl tb w).setCell 0 u0).setCell 1 u1).setCell 2 u2).setCell 3 u3).setCell 4 u4).setCell 5 u5
theorem qbK {u0 u1 u2 u3 u4 u5 v0 v1 v2 v3 v4 v5:Value} {tb:Nat} {T:TypeId} {w:Zp1} (h:Blk w tb T #[v0,v1,v2,v3,v4,v5]):Blk (six u0 u1 u2 u3 u4 u5 tb w) tb T #[u0,u1,u2,u3,u4,u5]:=by
 have:=(((((h.set_ 0 u0).set_ 1 u1).set_ 2 u2).set_ 3 u3).set_ 4 u4).set_ 5 u5;simpa [six] using this
theorem qar {w:Zp1} {p:Nat} {T:TypeId} {v0 v1 v2 v3 v4 v5:Value} (h:Blk w p T #[v0,v1,v2,v3,v4,v5]):w.cell? ⟨p,0,none⟩=some v0/\w.cell? ⟨p,1,none⟩=some v1/\w.cell? ⟨p,2,none⟩=some v2/\w.cell? ⟨p,3,none⟩=some v3/\w.cell? ⟨p,4,none⟩=some v4/\w.cell? ⟨p,5,none⟩=some v5/\
  w.frozen? ⟨p,0,none⟩=false/\w.frozen? ⟨p,1,none⟩=false/\w.frozen? ⟨p,2,none⟩=false/\w.frozen? ⟨p,3,none⟩=false/\w.frozen? ⟨p,4,none⟩=false/\w.frozen? ⟨p,5,none⟩=false:=
 ⟨h.cell 0,h.cell 1,h.cell 2,h.cell 3,h.cell 4,h.cell 5,h.frozen 0,h.frozen 1,h.frozen 2,h.frozen 3,h.frozen 4,h.frozen 5⟩
theorem qbY {w W:Zp1} {p:Nat} (h:Later w W) (hp:w.heap.size<=p) (u0 u1 u2 u3 u4 u5:Value):Later w (six u0 u1 u2 u3 u4 u5 p W):=(qbw u0 u1 u2 u3 u4 u5 p W).below h hp
structure DbI (w:Zp1) (tb g0 h0 g1 h1 g2 h2:Nat) (bw bx bg be:Array Value) (sw sg sx cg W X:List Int) (wx:Zp1):Prop where
 kw:Blk wx w.heap.size 30 bw
 kx:Blk wx (w.heap.size+2) 30 bx
 kg:Blk wx (w.heap.size+3) 30 bg
 kz:Blk wx (w.heap.size+4) 42 #[.slice none 0 0,.slice none 0 0,.slice none 0 0,.slice none 0 0,.slice none 0 0,.slice none 0 0]
 ke:Blk wx tb 42 be
 G0:Blk wx g0 3 (sw.map (Za1 .i64)).toArray
 H0:Blk wx h0 22 (W.map (Za1 .i64)).toArray
 G1:Blk wx g1 3 (sg.map (Za1 .i64)).toArray
 H1:Blk wx h1 22 (cg.map (Za1 .i64)).toArray
 G2:Blk wx g2 3 (sx.map (Za1 .i64)).toArray
 H2:Blk wx h2 22 (X.map (Za1 .i64)).toArray
 lo:w.heap.size<=g0/\w.heap.size<=g1/\w.heap.size<=g2/\w.heap.size+4<tb/\w.heap.size<=h0/\h0<h1/\h1<h2
 later:Later w wx
theorem DbI.to {w wx wy:Zp1} {tb g0 h0 g1 h1 g2 h2:Nat} {bw bx bg be:Array Value} {sw sg sx cg W X:List Int} (H:DbI w tb g0 h0 g1 h1 g2 h2 bw bx bg be sw sg sx cg W X wx) (hl:Later wx wy):DbI w tb g0 h0 g1 h1 g2 h2 bw bx bg be sw sg sx cg W X wy:=
 ⟨hl.blk H.kw,hl.blk H.kx,hl.blk H.kg,hl.blk H.kz,hl.blk H.ke,hl.blk H.G0,hl.blk H.H0,hl.blk H.G1,hl.blk H.H1,hl.blk H.G2,hl.blk H.H2,H.lo,H.later.trans hl⟩
theorem DbI.elseW {w wx wy:Zp1} {tb g0 h0 g1 h1 g2 h2:Nat} {bw bx bg be:Array Value} {sw sg sx cg W X W':List Int} (H:DbI w tb g0 h0 g1 h1 g2 h2 bw bx bg be sw sg sx cg W X wx) (hE:Else h0 wx wy) (hb:Blk wy h0 22 (W'.map (Za1 .i64)).toArray):DbI w tb g0 h0 g1 h1 g2 h2 bw bx bg be sw sg sx cg W' X wy:=by
 obtain ⟨l0,l1,l2,l3,l4,l5,l6⟩:=H.lo;exact ⟨hE.blk (qa4 H.kw H.H0 dZ) H.kw,hE.blk (qa4 H.kx H.H0 dZ) H.kx,hE.blk (qa4 H.kg H.H0 dZ) H.kg,hE.blk (qa4 H.kz H.H0 dZ) H.kz,hE.blk (qa4 H.ke H.H0 dZ) H.ke,hE.blk (qa4 H.G0 H.H0 dZ) H.G0,hb,hE.blk (qa4 H.G1 H.H0 dZ) H.G1,hE.blk oZ H.H1,hE.blk (qa4 H.G2 H.H0 dZ) H.G2,hE.blk oZ H.H2,H.lo,hE.below H.later oZ⟩
theorem DbI.elseX {w wx wy:Zp1} {tb g0 h0 g1 h1 g2 h2:Nat} {bw bx bg be:Array Value} {sw sg sx cg W X X':List Int} (H:DbI w tb g0 h0 g1 h1 g2 h2 bw bx bg be sw sg sx cg W X wx) (hE:Else h2 wx wy) (hb:Blk wy h2 22 (X'.map (Za1 .i64)).toArray):DbI w tb g0 h0 g1 h1 g2 h2 bw bx bg be sw sg sx cg W X' wy:=by
 obtain ⟨l0,l1,l2,l3,l4,l5,l6⟩:=H.lo;exact ⟨hE.blk (qa4 H.kw H.H2 dZ) H.kw,hE.blk (qa4 H.kx H.H2 dZ) H.kx,hE.blk (qa4 H.kg H.H2 dZ) H.kg,hE.blk (qa4 H.kz H.H2 dZ) H.kz,hE.blk (qa4 H.ke H.H2 dZ) H.ke,hE.blk (qa4 H.G0 H.H2 dZ) H.G0,hE.blk oZ H.H0,hE.blk (qa4 H.G1 H.H2 dZ) H.G1,hE.blk oZ H.H1,hE.blk (qa4 H.G2 H.H2 dZ) H.G2,hb,H.lo,hE.below H.later oZ⟩
theorem DbI.putW {w wx:Zp1} {tb g0 h0 g1 h1 g2 h2:Nat} {bw bx bg be:Array Value} {sw sg sx cg W X:List Int} (H:DbI w tb g0 h0 g1 h1 g2 h2 bw bx bg be sw sg sx cg W X wx) (k:Nat) (z:Int):DbI w tb g0 h0 g1 h1 g2 h2 bw bx bg be sw sg sx cg (W.set k z) X (wx.setCell ⟨h0,k,none⟩ (.int .i64 z)):=
 H.elseW ((Else.refl _ _).setCell k _) (by have:=H.H0.set_ k (.int .i64 z);rw [List.map_set];simpa using this)
theorem DbI.putX {w wx:Zp1} {tb g0 h0 g1 h1 g2 h2:Nat} {bw bx bg be:Array Value} {sw sg sx cg W X:List Int} (H:DbI w tb g0 h0 g1 h1 g2 h2 bw bx bg be sw sg sx cg W X wx) (k:Nat) (z:Int):DbI w tb g0 h0 g1 h1 g2 h2 bw bx bg be sw sg sx cg W (X.set k z) (wx.setCell ⟨h2,k,none⟩ (.int .i64 z)):=
 H.elseX ((Else.refl _ _).setCell k _) (by have:=H.H2.set_ k (.int .i64 z);rw [List.map_set];simpa using this)
theorem DbI.store {w wx:Zp1} {tb g0 h0 g1 h1 g2 h2:Nat} {bw bx bg:Array Value} {v0 v1 v2 v3 v4 v5 u0 u1 u2 u3 u4 u5:Value} {sw sg sx cg W X:List Int} (H:DbI w tb g0 h0 g1 h1 g2 h2 bw bx bg #[v0,v1,v2,v3,v4,v5] sw sg sx cg W X wx):DbI w tb g0 h0 g1 h1 g2 h2 bw bx bg #[u0,u1,u2,u3,u4,u5] sw sg sx cg W X (six u0 u1 u2 u3 u4 u5 tb wx):=by
 have hE:=qbw u0 u1 u2 u3 u4 u5 tb wx;obtain ⟨l0,l1,l2,l3,l4,l5,l6⟩:=H.lo;exact ⟨hE.blk oZ H.kw,hE.blk oZ H.kx,hE.blk oZ H.kg,hE.blk oZ H.kz,qbK H.ke,hE.blk (qa4 H.G0 H.ke dZ) H.G0,hE.blk (qa4 H.H0 H.ke dZ) H.H0,hE.blk (qa4 H.G1 H.ke dZ) H.G1,hE.blk (qa4 H.H1 H.ke dZ) H.H1,hE.blk (qa4 H.G2 H.ke dZ) H.G2,hE.blk (qa4 H.H2 H.ke dZ) H.H2,H.lo,hE.below H.later oZ⟩
def DbCut (w:Zp1) (bw bx bg:Array Value) (t g x:Ten) (a:Value) (wx:Zp1):Prop:=
 ∃tb g0 h0 g1 h1 g2 h2,a=.pointer (some ⟨tb,0,none⟩)/\DbI w tb g0 h0 g1 h1 g2 h2 bw bx bg #[.slice (some ⟨g0,0,none⟩) t.s.length t.s.length,.slice (some ⟨h0,0,none⟩) t.c.length t.c.length,.slice (some ⟨g1,0,none⟩) g.s.length g.s.length,.slice (some ⟨h1,0,none⟩) g.c.length g.c.length,.slice (some ⟨g2,0,none⟩) x.s.length x.s.length,.slice (some ⟨h2,0,none⟩) x.c.length x.c.length] t.s g.s x.s g.c t.c x.c wx
theorem db_mk {w w3 wa wb wc:Zp1} {tb g0 h0 g1 h1 g2 h2:Nat} {bw bx bg be:Array Value} {sw sg sx cg W X:List Int} (hw:Later w w3) (kw:Blk w3 w.heap.size 30 bw) (kx:Blk w3 (w.heap.size+2) 30 bx) (kg:Blk w3 (w.heap.size+3) 30 bg)
  (kz:Blk w3 (w.heap.size+4) 42 #[.slice none 0 0,.slice none 0 0,.slice none 0 0,.slice none 0 0,.slice none 0 0,.slice none 0 0]) (G0:Blk wa g0 3 (sw.map (Za1 .i64)).toArray) (H0:Blk wa h0 22 (W.map (Za1 .i64)).toArray) (G1:Blk wb g1 3 (sg.map (Za1 .i64)).toArray) (H1:Blk wb h1 22 (cg.map (Za1 .i64)).toArray)
  (G2:Blk wc g2 3 (sx.map (Za1 .i64)).toArray) (H2:Blk wc h2 22 (X.map (Za1 .i64)).toArray) (ke:Blk wc tb 42 be) (l1:Later w3 wa) (l2:Later wa wb) (l3:Later wb wc)
  (q0:w3.heap.size<=g0/\w3.heap.size<=h0) (q1:wa.heap.size<=g1/\wa.heap.size<=h1) (q2:wb.heap.size<=g2/\wb.heap.size<=h2) (q3:w3.heap.size<=tb):DbI w tb g0 h0 g1 h1 g2 h2 bw bx bg be sw sg sx cg W X wc:=by
 have l13:=l1.trans (l2.trans l3);have s1:=l1.size;have s2:=l2.size;have s0:=hw.size;have e0:=H0.lt;have e1:=H1.lt;have ez:=kz.lt;exact ⟨l13.blk kw,l13.blk kx,l13.blk kg,l13.blk kz,ke,(l2.trans l3).blk G0,(l2.trans l3).blk H0,l3.blk G1,l3.blk H1,G2,H2,⟨by omega,by omega,by omega,by omega,by omega,by omega,by omega⟩,hw.trans l13⟩
theorem DbI.wt {w wx:Zp1} {tb g0 h0 g1 h1 g2 h2:Nat} {bw bx bg be:Array Value} {sw sg sx cg W X:List Int} (H:DbI w tb g0 h0 g1 h1 g2 h2 bw bx bg be sw sg sx cg W X wx) (b0:sw.length<=1048576) (b1:W.length<=1048576) (i:∀z∈W,Fx.In z):TenIn wx (some ⟨g0,0,none⟩) (some ⟨h0,0,none⟩) sw.length W.length ⟨sw,W⟩:=
 ⟨⟨H.G0.intsL,H.H0.intsL⟩,lrZ _,by omega,lrZ _,by omega,b0,b1,i⟩
theorem DbI.done {r:(Ten × Ten × Ten) × Int} {w wx:Zp1} {tb g0 h0 g1 h1 g2 h2 n0 n1 n2:Nat} {bw bx bg be:Array Value} {sw sg sx cg W X:List Int} (H:DbI w tb g0 h0 g1 h1 g2 h2 bw bx bg be sw sg sx cg W X wx) (hr:r=((⟨sw,W⟩,⟨sg,cg⟩,⟨sx,X⟩),0)) (e0:W.length=n0) (e1:cg.length=n1) (e2:X.length=n2)
  (b0:sw.length<=1048576/\sg.length<=1048576/\sx.length<=1048576/\W.length<=1048576/\cg.length<=1048576/\X.length<=1048576) (i0:∀z∈W,Fx.In z) (i1:∀z∈cg,Fx.In z) (i2:∀z∈X,Fx.In z) (u0 u1 u2 u3 u4 u5:Value):
  GoD r w (.returned (.tuple #[.agg #[.slice (some ⟨g0,0,none⟩) sw.length sw.length,.slice (some ⟨h0,0,none⟩) n0 n0,.slice (some ⟨g1,0,none⟩) sg.length sg.length,.slice (some ⟨h1,0,none⟩) n1 n1,.slice (some ⟨g2,0,none⟩) sx.length sx.length,.slice (some ⟨h2,0,none⟩) n2 n2],.int .i64 0])) (six u0 u1 u2 u3 u4 u5 (w.heap.size+4) wx):=by
 subst hr;obtain ⟨l0,l1,l2,l3,l4,l5,l6⟩:=H.lo;obtain ⟨c0,c1,c2,c3,c4,c5⟩:=b0;have hE:=qbw u0 u1 u2 u3 u4 u5 (w.heap.size+4) wx;have hz:=qbK (u0:=u0) (u1:=u1) (u2:=u2) (u3:=u3) (u4:=u4) (u5:=u5) H.kz
 have ha:=noint H.kz (λk z=>by
  match k with
  | 0=>simp
  | 1=>simp
  | 2=>simp
  | 3=>simp
  | 4=>simp
  | 5=>simp
  | n+6=>simp)
 subst e0 e1 e2;refine ⟨.inr ⟨rfl,_,_,_,_,_,_,_,_,_,_,_,_,rfl,?_,?_,?_⟩,hE.below H.later oZ⟩
 ·exact (qb6 H.G0 H.H0 l0 oZ c0 c3 i0 rfl).else_ hE ha λj=>hz.frozen j
 ·exact (qb6 H.G1 H.H1 l1 oZ c1 c4 i1 rfl).else_ hE ha λj=>hz.frozen j
 ·exact (qb6 H.G2 H.H2 l2 oZ c2 c5 i2 rfl).else_ hE ha λj=>hz.frozen j
theorem GoD.fail {n:Int} {r:(Ten × Ten × Ten) × Int} {w w':Zp1} (hr:r=((Ly.none_,Ly.none_,Ly.none_),n)) (hn:n≠0) (hb:Below w.heap.size w w'):GoD r w (.returned (.tuple #[.agg #[.slice none 0 0,.slice none 0 0,.slice none 0 0,.slice none 0 0,.slice none 0 0,.slice none 0 0],.int .i64 n])) w':=by
 subst hr;exact ⟨.inl ⟨hn,rfl⟩,hb⟩
set_option maxRecDepth 20000 in
theorem qfs (S C S' C' S2 C2 GS GC:Option Addr) (c d c' d' c2 d2 gc gd:Nat) (t b x g:Ten) (w:Zp1) (ht:TenIn w S C c d t) (hb:TenIn w S' C' c' d' b) (hx:TenIn w S2 C2 c2 d2 x) (hg:TenIn w GS GC gc gd g):
  Calls Tryz.prog 12 #[.agg #[.slice S t.s.length c,.slice C t.c.length d],.agg #[.slice S' b.s.length c',.slice C' b.c.length d'],.agg #[.slice S2 x.s.length c2,.slice C2 x.c.length d2],.agg #[.slice GS g.s.length gc,.slice GC g.c.length gd]] w (GoD (Ly.denseBack t b x g) w):=by
 obtain ⟨HR,HU,HW,HX,HT⟩:=qbu w 30 30 30 30 #[.slice S t.s.length c,.slice C t.c.length d] #[.slice S' b.s.length c',.slice C' b.c.length d'] #[.slice S2 x.s.length c2,.slice C2 x.c.length d2] #[.slice GS g.s.length gc,.slice GC g.c.length gd];have hz:=Blk.new ((((w.alloc (.cells #[.slice S t.s.length c,.slice C t.c.length d] 30)).alloc (.cells #[.slice S' b.s.length c',.slice C' b.c.length d'] 30)).alloc (.cells #[.slice S2 x.s.length c2,.slice C2 x.c.length d2] 30)).alloc (.cells #[.slice GS g.s.length gc,.slice GC g.c.length gd] 30)) 42 #[.slice none 0 0,.slice none 0 0,.slice none 0 0,.slice none 0 0,.slice none 0 0,.slice none 0 0];replace HR:=HR.alloc (.cells #[.slice none 0 0,.slice none 0 0,.slice none 0 0,.slice none 0 0,.slice none 0 0,.slice none 0 0] 42);replace HU:=HU.alloc (.cells #[.slice none 0 0,.slice none 0 0,.slice none 0 0,.slice none 0 0,.slice none 0 0,.slice none 0 0] 42);replace HW:=HW.alloc (.cells #[.slice none 0 0,.slice none 0 0,.slice none 0 0,.slice none 0 0,.slice none 0 0,.slice none 0 0] 42);replace HX:=HX.alloc (.cells #[.slice none 0 0,.slice none 0 0,.slice none 0 0,.slice none 0 0,.slice none 0 0,.slice none 0 0] 42);replace HT:=HT.alloc (.cells #[.slice none 0 0,.slice none 0 0,.slice none 0 0,.slice none 0 0,.slice none 0 0,.slice none 0 0] 42);rw [Zh1,Zh1,Zh1,Zh1] at hz;obtain ⟨gV,gB,gE,gP,Hz,h9,Ht,Hb,Hx⟩:=zd9 HR HU HW HX hz HT ht hb hx;have Hg:=zI hg;clear HR HU HW HX hz HT ht hb hx hg;go_enter Tryz.func12,Tryz.ntmps12;go_wp2_with fail;generalize ((((w.alloc (.cells #[.slice S t.s.length c,.slice C t.c.length d] 30)).alloc (.cells #[.slice S' b.s.length c',.slice C' b.c.length d'] 30)).alloc (.cells #[.slice S2 x.s.length c2,.slice C2 x.c.length d2] 30)).alloc (.cells #[.slice GS g.s.length gc,.slice GC g.c.length gd] 30)).alloc (.cells #[.slice none 0 0,.slice none 0 0,.slice none 0 0,.slice none 0 0,.slice none 0 0,.slice none 0 0] 42)=w1 at *
 refine (qcG S C S' C' S2 C2 c d c' d' c2 d2 t b x w1 (Ht.out.later h9.out) (Hb.out.later h9.out) (Hx.out.later h9.out)).mono ?_;rintro e w2 ⟨rfl,gp⟩;have hO:Later w1 w2:=gp;have hS:=h9.out.trans hO;have Hi:=hO.blk Hz.out;have HN:=hO.blk gV.out;have Hk:=hO.blk gB.out;have HO:=hO.blk gE.out;have hW:=hO.blk gP.out;clear gp Hz h9 gV gB gE gP hO;cases hg0:Ly.denseOk t b x
 ·have HE:=zI (Ly.dback_bad (g:=g) (by rw [hg0];rfl:(Ly.denseOk t b x&&Tn.right g&&decide (g.s=b.s))=false))
  clear hg0;obtain ⟨c0,c1,c2,c3,c4,c5,f0,f1,f2,f3,f4,f5⟩:=qar Hi;obtain ⟨hX,Hm,ge,gL,gh,H7⟩:=zd6 hS Hi HN Hk HO hW;clear hS Hi HN Hk HO hW;go_wp2_with fail;refine Zk1 (v:=.tuple #[.agg #[.slice none 0 0,.slice none 0 0,.slice none 0 0,.slice none 0 0,.slice none 0 0,.slice none 0 0],.int .i64 20]) (by simp [results,Tryz.results12,go_sem,c0,c1,c2,c3,c4,c5]) rfl ?_;exact GoD.fail HE.out dZ (qbY (p:=w.heap.size+4) hX.out oZ _ _ _ _ _ _)
 obtain ⟨Hp,HB,H6,HK,HL,H9⟩:=Ly.dense_yes hg0;have d0:=hW.cell 0;have d1:=hW.cell 1;have b0:=Hk.cell 0;simp at d0 d1 b0;have lg1:=Hg.out.l1;have lg2:=Hg.out.l2;have lb1:=Hb.out.l1;have gy:=qa2 GS GC gc gd g w2 oZ oZ (Hg.out.later hS).r.1;have gx:=λ(V:Zp1) (h:Later w2 V)=>qa7 GS S' gc c' g.s b.s V oZ oZ (Hg.out.later (hS.trans h)).r.1 (Hb.out.later (hS.trans h)).r.1
 have HG:=λh=>Ly.dback_bad (w:=t) (b:=b) (x:=x) (g:=g) h
 obtain ⟨hX,Hm,ge,gL,gh,H7,Hd,gG,hu⟩:=zd9 hS Hi HN Hk HO hW gy gx HG;clear hS Hi HN Hk HO hW gy gx HG;cases hr:Tn.right g
 ·have HE:=zI (hu.out (by rw [hr,Bool.and_false,Bool.false_and]))
  rw [hr] at Hd;clear hu hr hg0 Hp HB H6 HK HL H9;go_wp2_with fail;refine (Hd.out).mono ?_;rintro e w3 ⟨rfl,h8⟩;have hi:Later w2 w3:=h8;have hN:=hi.blk Hm.out;have Ho:=hX.out.trans hi;clear d0 d1 b0 h8;obtain ⟨c0,c1,c2,c3,c4,c5,f0,f1,f2,f3,f4,f5⟩:=qar hN;obtain ⟨hZ,Gf,H3⟩:=zd3 hi hN Ho;clear hi hN Ho;go_wp2_with fail;refine Zk1 (v:=.tuple #[.agg #[.slice none 0 0,.slice none 0 0,.slice none 0 0,.slice none 0 0,.slice none 0 0,.slice none 0 0],.int .i64 20]) (by simp [results,Tryz.results12,go_sem,c0,c1,c2,c3,c4,c5]) rfl ?_;exact GoD.fail HE.out dZ (qbY (p:=w.heap.size+4) H3.out oZ _ _ _ _ _ _)
 rw [hr] at Hd;go_wp2_with fail;refine (Hd.out).mono ?_;rintro e w3 ⟨rfl,h8⟩;have hi:Later w2 w3:=h8;have d0':=hi.cell d0;have b0':=hi.cell b0;clear h8 d0 d1 b0;have hf:=gG.out _ hi;cases hq:(g.s==b.s)
 ·have HE:=zI (hu.out (by rw [show decide (g.s=b.s)=false by simpa using hq,Bool.and_false]))
  rw [hq] at hf;clear hu hr hg0 Hp HB H6 HK HL H9 hq;obtain ⟨hZ,hA⟩:=zd2 hi hf;clear hi hf;go_wp2_with fail;refine (hA.out).mono ?_;rintro e w4 ⟨rfl,q4,rfl⟩;have hN:=(hZ.out.drewN q4).blk Hm.out;have Ho:=(hX.out.trans hZ.out).drewN q4;clear d0' b0';obtain ⟨c0,c1,c2,c3,c4,c5,f0,f1,f2,f3,f4,f5⟩:=qar hN;obtain ⟨Gf,H3⟩:=zd2 hN Ho;clear hN Ho;go_wp2_with fail;refine Zk1 (v:=.tuple #[.agg #[.slice none 0 0,.slice none 0 0,.slice none 0 0,.slice none 0 0,.slice none 0 0,.slice none 0 0],.int .i64 20]) (by simp [results,Tryz.results12,go_sem,c0,c1,c2,c3,c4,c5]) rfl ?_;exact GoD.fail HE.out dZ (qbY (p:=w.heap.size+4) H3.out oZ _ _ _ _ _ _)
 rw [hq] at hf;have gH:g.s=b.s:=by simpa using hq
 have HE:=zI (Ly.dback_ok (by rw [hg0,hr];simpa using hq:(Ly.denseOk t b x&&Tn.right g&&decide (g.s=b.s))=true));obtain ⟨m,n,Go,gR,HP,gn,H4,GE,gu,go⟩:=qe5 Hp HB;have Gb:g.c.length=m:=by have:=qeU hr (gH.trans HL);omega
 have g6:x.c.length=n:=by omega
 obtain ⟨r1,r2⟩:=Ly.right_ok Hp;obtain ⟨r3,r4⟩:=Ly.right_ok HK;obtain ⟨r5,r6⟩:=Ly.right_ok hr;clear hu hr hg0 Hp H6 HK HL H9 hq gH Go;obtain ⟨hZ,hA⟩:=zd2 hi hf;clear hi hf;go_wp2_with fail;refine (hA.out).mono ?_;rintro e w4 ⟨rfl,q4,rfl⟩;have hY:=hZ.out.drewN q4;clear d0' b0' hA gG Hd hZ;generalize w3.drewN q4=w4 at *;have Hc:=hX.out.trans hY;have hB:=hY.blk ge.out;have hF:=hY.blk gh.out;have hy:=hY.blk H7.out;have gD:=hY.blk Hm.out;clear hY hX ge gL gh H7 Hm;have a0:w4.cell? ⟨w.heap.size,0,none⟩=some (.slice S t.s.length c):=hB.cell 0;have a1:w4.cell? ⟨w.heap.size,1,none⟩=some (.slice C t.c.length d):=hB.cell 1;have x0:w4.cell? ⟨w.heap.size+2,0,none⟩=some (.slice S2 x.s.length c2):=hF.cell 0;have x1:w4.cell? ⟨w.heap.size+2,1,none⟩=some (.slice C2 x.c.length d2):=hF.cell 1;have d0:w4.cell? ⟨w.heap.size+3,0,none⟩=some (.slice GS g.s.length gc):=hy.cell 0;have d1:w4.cell? ⟨w.heap.size+3,1,none⟩=some (.slice GC g.c.length gd):=hy.cell 1;have g5:=λ(V:Zp1) (h:Later w4 V)=>qa9 S C c d t V oZ oZ (Ht.out.later (Hc.trans h)).r
 have gI:=λ(V:Zp1) (h:Later w4 V)=>qa9 GS GC gc gd g V oZ oZ (Hg.out.later (Hc.trans h)).r
 have Gc:=λ(V:Zp1) (h:Later w4 V)=>qa9 S2 C2 c2 d2 x V oZ oZ (Hx.out.later (Hc.trans h)).r
 obtain ⟨HV,hs,hv,hn,hL,gl,HS,HA,hP⟩:=zd9 Hc hB hF hy gD g5 gI Gc gu;obtain ⟨h4,hh,gj,gT,g7⟩:=zd5 Gb g6 go gR HB;clear Hc hB hF hy gD g5 gI Gc gu Gb g6 go gR HB;go_upto_region 3 with fail
 go_cut [10] (DbCut w #[.slice S t.s.length c,.slice C t.c.length d] #[.slice S2 x.s.length c2,.slice C2 x.c.length d2] #[.slice GS g.s.length gc,.slice GC g.c.length gd] t g x)
 case first=>
  go_wp2_with fail;have KF:=zI (show ∀Xw,Later w4 Xw->Xw.cell? ⟨w.heap.size,0,none⟩=some (.slice S t.s.length c)/\Xw.cell? ⟨w.heap.size,1,none⟩=some (.slice C t.c.length d)/\Xw.cell? ⟨w.heap.size+2,0,none⟩=some (.slice S2 x.s.length c2)/\Xw.cell? ⟨w.heap.size+2,1,none⟩=some (.slice C2 x.c.length d2)/\Xw.cell? ⟨w.heap.size+3,0,none⟩=some (.slice GS g.s.length gc)/\Xw.cell? ⟨w.heap.size+3,1,none⟩=some (.slice GC g.c.length gd) from λXw h=>⟨h.cell a0,h.cell a1,h.cell x0,h.cell x1,h.cell d0,h.cell d1⟩);refine Zm1 ?_;refine Zl1 (S:=λXw=>Xw.cell? ⟨w.heap.size,0,none⟩=some (.slice S t.s.length c)/\Xw.cell? ⟨w.heap.size,1,none⟩=some (.slice C t.c.length d)/\Xw.cell? ⟨w.heap.size+2,0,none⟩=some (.slice S2 x.s.length c2)/\Xw.cell? ⟨w.heap.size+2,1,none⟩=some (.slice C2 x.c.length d2)/\Xw.cell? ⟨w.heap.size+3,0,none⟩=some (.slice GS g.s.length gc)/\Xw.cell? ⟨w.heap.size+3,1,none⟩=some (.slice GC g.c.length gd)) krZ (KF.out _ Lau) (λhHeld=>?_);refine tk 0 ?_;refine tk 2 ?_;refine tk 4 ?_;refine Zo1 (rs:=[1,7]) krZ sZ ?_;refine Zf1 (o:=_) rfl (λK hK=>?_) (Zf1 (o:=_) rfl (λK hK=>?_) (Zg1))
  ·simp only [ga,gs,gz]
   go_simp
   go_at_call 52;(with_reducible refine (gl.out _ (Lau:Later w4 _)).mono ?_);rintro e wa ⟨v,rfl,⟨g0,h0,rfl,q1,q2,hG,hH⟩,Hu⟩
   have k0:w4.heap.size<=g0/\w4.heap.size<=h0:=by (constructor<;>first|assumption|(simp at q1 q2;omega))
   obtain ⟨Hf,Hq⟩:=zd2 hG hH;clear q1 q2 hG hH
   try go_wp2_with fail
   refine hK.out _ _ (KF.out _ Lau) (λhHeld=>?_);clear hK K
   try simp only [ga,gs,gz,Act.put,sa,sz,ss]
   refine Zo1 (rs:=[3,7]) krZ sZ ?_;refine Zf1 (o:=_) rfl (λK hK=>?_) (Zf1 (o:=_) rfl (λK hK=>?_) (Zg1))
   ·simp only [ga,gs,gz]
    go_simp
    go_at_call 52;(with_reducible refine (HS.out _ (Lau:Later w4 _)).mono ?_);rintro e wb ⟨v,rfl,⟨g1,h1,rfl,q1,q2,hG,hH⟩,hE⟩
    have k1:wa.heap.size<=g1/\wa.heap.size<=h1:=by (constructor<;>first|assumption|(simp at q1 q2;omega))
    obtain ⟨h6,hU⟩:=zd2 hG hH;clear q1 q2 hG hH
    try go_wp2_with fail
    refine hK.out _ _ (KF.out _ Lau) (λhHeld=>?_);clear hK K
    try simp only [ga,gs,gz,Act.put,sa,sz,ss]
    refine Zo1 (rs:=[5,7]) krZ sZ ?_;refine Zf1 (o:=_) rfl (λK hK=>?_) (Zf1 (o:=_) rfl (λK hK=>?_) (Zg1))
    ·simp only [ga,gs,gz]
     go_simp
     go_at_call 52;(with_reducible refine (HA.out _ (Lau:Later w4 _)).mono ?_);rintro e wc ⟨v,rfl,⟨g2,h2,rfl,q1,q2,hG,hH⟩,he⟩
     have k2:wb.heap.size<=g2/\wb.heap.size<=h2:=by (constructor<;>first|assumption|(simp at q1 q2;omega))
     obtain ⟨hM,hT⟩:=zd2 hG hH;clear q1 q2 hG hH
     try go_wp2_with fail
     refine hK.out _ _ (KF.out _ Lau) (λhHeld=>?_);clear hK K
     try simp only [ga,gs,gz,Act.put,sa,sz,ss]
     refine tk 6 ?_;refine rd 7 λK hK=>?_
     simp only [ga,gs,gz]
     go_simp
     refine hK.out _ _ (KF.out _ Lau) (λhHeld=>?_);clear hK K
     try simp only [ga,gs,gz,Act.put,sa,sz,ss]
     refine rd 8 λK hK=>?_
     simp only [ga,gs,gz]
     go_simp
     refine hK.out _ _ ?_ (λhHeld=>?_)
     ·(try dsimp only);(refine ⟨?_,?_,?_,?_,?_,?_⟩<;>(repeat (refine qa0 ?_ (by first|omega|(simp;done)|(simp;omega))))<;>(refine Later.cell (Lau:Later w4 _) ?_)<;>assumption)
     clear hK K
     try simp only [ga,gs,gz,Act.put,sa,sz,ss]
     clear KF;refine Zn1 krZ ?_ _;refine Zd1 ?_;go_wp2_with fail;have l1:Later w4 wa:=(Lau:Later w4 wa)
     have l2:Later wa wb:=(Lau:Later wa wb)
     have l3:Later wb wc:=(Lau:Later wb wc)
     have l4:=l1.size;have l5:=l2.size;have l6:=l3.size
     go_meet
     exact ⟨wc.heap.size,g0,h0,g1,h1,g2,h2,rfl,db_mk HV.out hs.out hv.out hn.out hL.out Hf.out Hq.out h6.out hU.out (((Later.refl wc).alloc _).blk hM.out) (((Later.refl wc).alloc _).blk hT.out) (Blk.new wc _ _) l1 l2 (l3.alloc _) k0 k1 k2 oZ⟩
    ·simp only [ga,gs,gz]
     go_simp
     refine hK.out _ _ (KF.out _ Lau) (λhHeld=>?_);clear hK K
     try simp only [ga,gs,gz,Act.put,sa,sz,ss]
     refine rd 5 λK hK=>?_
     simp only [ga,gs,gz]
     go_simp
     go_at_call 52;(with_reducible refine (HA.out _ (Lau:Later w4 _)).mono ?_);rintro e wc ⟨v,rfl,⟨g2,h2,rfl,q1,q2,hG,hH⟩,he⟩
     have k2:wb.heap.size<=g2/\wb.heap.size<=h2:=by (constructor<;>first|assumption|(simp at q1 q2;omega))
     obtain ⟨hM,hT⟩:=zd2 hG hH;clear q1 q2 hG hH;have hw:=(show Later (wb.alloc (.cells #[.slice none 0 0,.slice none 0 0,.slice none 0 0,.slice none 0 0,.slice none 0 0,.slice none 0 0] 42)) wc from he).blk (Blk.new wb _ _);obtain ⟨z0,z1,z2,z3,z4,z5,y0,y1,y2,y3,y4,y5⟩:=qar hw;have Hs:=zI hw;have lA:Later w4 wa:=(Lau:Later w4 wa)
     have lB:Later wa wb:=(Lau:Later wa wb)
     have sA:=lA.size;have sB:=lB.size;have sz:=hL.out.lt;clear hw lA lB
     try go_wp2_with fail
     refine hK.out _ _ (KF.out _ Lau) (λhHeld=>?_);clear hK K
     try simp only [ga,gs,gz,Act.put,sa,sz,ss]
     refine tk 6 ?_;refine rd 8 λK hK=>?_
     simp only [ga,gs,gz]
     go_simp
     refine hK.out _ _ ?_ (λhHeld=>?_)
     ·(try dsimp only);(refine ⟨?_,?_,?_,?_,?_,?_⟩<;>(repeat (refine qa0 ?_ (by first|omega|(simp;done)|(simp;omega))))<;>(refine Later.cell (Lau:Later w4 _) ?_)<;>assumption)
     clear hK K
     try simp only [ga,gs,gz,Act.put,sa,sz,ss]
     clear KF;refine Zn1 krZ ?_ _;refine Zd1 ?_;go_wp2_with fail;have l1:Later w4 wa:=(Lau:Later w4 wa)
     have l2:Later wa wb:=(Lau:Later wa wb)
     have l3:Later wb wc:=(Lau:Later wb wc)
     have l4:=l1.size;have l5:=l2.size;have l6:=l3.size
     go_meet
     exact ⟨wb.heap.size,g0,h0,g1,h1,g2,h2,rfl,(db_mk HV.out hs.out hv.out hn.out hL.out Hf.out Hq.out h6.out hU.out hM.out hT.out Hs.out l1 l2 l3 k0 k1 k2 oZ).store⟩
   ·simp only [ga,gs,gz]
    go_simp
    refine hK.out _ _ (KF.out _ Lau) (λhHeld=>?_);clear hK K
    try simp only [ga,gs,gz,Act.put,sa,sz,ss]
    refine rd 3 λK hK=>?_
    simp only [ga,gs,gz]
    go_simp
    go_at_call 52;(with_reducible refine (HS.out _ (Lau:Later w4 _)).mono ?_);rintro e wb ⟨v,rfl,⟨g1,h1,rfl,q1,q2,hG,hH⟩,hE⟩
    have k1:wa.heap.size<=g1/\wa.heap.size<=h1:=by (constructor<;>first|assumption|(simp at q1 q2;omega))
    obtain ⟨h6,hU⟩:=zd2 hG hH;clear q1 q2 hG hH
    try go_wp2_with fail
    refine hK.out _ _ (KF.out _ Lau) (λhHeld=>?_);clear hK K
    try simp only [ga,gs,gz,Act.put,sa,sz,ss]
    refine rd 5 λK hK=>?_
    simp only [ga,gs,gz]
    go_simp
    go_at_call 52;(with_reducible refine (HA.out _ (Lau:Later w4 _)).mono ?_);rintro e wc ⟨v,rfl,⟨g2,h2,rfl,q1,q2,hG,hH⟩,he⟩
    have k2:wb.heap.size<=g2/\wb.heap.size<=h2:=by (constructor<;>first|assumption|(simp at q1 q2;omega))
    obtain ⟨hM,hT⟩:=zd2 hG hH;clear q1 q2 hG hH;have hw:=(show Later wb wc from he).blk ((show Later _ wb from hE).blk (Blk.new wa 42 #[.slice none 0 0,.slice none 0 0,.slice none 0 0,.slice none 0 0,.slice none 0 0,.slice none 0 0]));obtain ⟨z0,z1,z2,z3,z4,z5,y0,y1,y2,y3,y4,y5⟩:=qar hw;have Hs:=zI hw;have lA:Later w4 wa:=(Lau:Later w4 wa)
    have lB:Later wa wb:=(Lau:Later wa wb)
    have sA:=lA.size;have sB:=lB.size;have sz:=hL.out.lt;clear hw lA lB
    try go_wp2_with fail
    refine hK.out _ _ (KF.out _ Lau) (λhHeld=>?_);clear hK K
    try simp only [ga,gs,gz,Act.put,sa,sz,ss]
    refine tk 6 ?_;refine rd 8 λK hK=>?_
    simp only [ga,gs,gz]
    go_simp
    refine hK.out _ _ ?_ (λhHeld=>?_)
    ·(try dsimp only);(refine ⟨?_,?_,?_,?_,?_,?_⟩<;>(repeat (refine qa0 ?_ (by first|omega|(simp;done)|(simp;omega))))<;>(refine Later.cell (Lau:Later w4 _) ?_)<;>assumption)
    clear hK K
    try simp only [ga,gs,gz,Act.put,sa,sz,ss]
    clear KF;refine Zn1 krZ ?_ _;refine Zd1 ?_;go_wp2_with fail;have l1:Later w4 wa:=(Lau:Later w4 wa)
    have l2:Later wa wb:=(Lau:Later wa wb)
    have l3:Later wb wc:=(Lau:Later wb wc)
    have l4:=l1.size;have l5:=l2.size;have l6:=l3.size
    go_meet
    exact ⟨wa.heap.size,g0,h0,g1,h1,g2,h2,rfl,(db_mk HV.out hs.out hv.out hn.out hL.out Hf.out Hq.out h6.out hU.out hM.out hT.out Hs.out l1 l2 l3 k0 k1 k2 oZ).store⟩
  ·simp only [ga,gs,gz]
   go_simp
   refine hK.out _ _ (KF.out _ Lau) (λhHeld=>?_);clear hK K
   try simp only [ga,gs,gz,Act.put,sa,sz,ss]
   refine rd 1 λK hK=>?_
   simp only [ga,gs,gz]
   go_simp
   go_at_call 52;(with_reducible refine (gl.out _ (Lau:Later w4 _)).mono ?_);rintro e wa ⟨v,rfl,⟨g0,h0,rfl,q1,q2,hG,hH⟩,Hu⟩
   have k0:w4.heap.size<=g0/\w4.heap.size<=h0:=by (constructor<;>first|assumption|(simp at q1 q2;omega))
   obtain ⟨Hf,Hq⟩:=zd2 hG hH;clear q1 q2 hG hH
   try go_wp2_with fail
   refine hK.out _ _ (KF.out _ Lau) (λhHeld=>?_);clear hK K
   try simp only [ga,gs,gz,Act.put,sa,sz,ss]
   refine rd 3 λK hK=>?_
   simp only [ga,gs,gz]
   go_simp
   go_at_call 52;(with_reducible refine (HS.out _ (Lau:Later w4 _)).mono ?_);rintro e wb ⟨v,rfl,⟨g1,h1,rfl,q1,q2,hG,hH⟩,hE⟩
   have k1:wa.heap.size<=g1/\wa.heap.size<=h1:=by (constructor<;>first|assumption|(simp at q1 q2;omega))
   obtain ⟨h6,hU⟩:=zd2 hG hH;clear q1 q2 hG hH
   try go_wp2_with fail
   refine hK.out _ _ (KF.out _ Lau) (λhHeld=>?_);clear hK K
   try simp only [ga,gs,gz,Act.put,sa,sz,ss]
   refine rd 5 λK hK=>?_
   simp only [ga,gs,gz]
   go_simp
   go_at_call 52;(with_reducible refine (HA.out _ (Lau:Later w4 _)).mono ?_);rintro e wc ⟨v,rfl,⟨g2,h2,rfl,q1,q2,hG,hH⟩,he⟩
   have k2:wb.heap.size<=g2/\wb.heap.size<=h2:=by (constructor<;>first|assumption|(simp at q1 q2;omega))
   obtain ⟨hM,hT⟩:=zd2 hG hH;clear q1 q2 hG hH;have hw:=(show Later wb wc from he).blk ((show Later wa wb from hE).blk ((show Later _ wa from Hu).blk ((Blk.new w4 42 #[.slice none 0 0,.slice none 0 0,.slice none 0 0,.slice none 0 0,.slice none 0 0,.slice none 0 0]).drew)));obtain ⟨z0,z1,z2,z3,z4,z5,y0,y1,y2,y3,y4,y5⟩:=qar hw;have Hs:=zI hw;have lA:Later w4 wa:=(Lau:Later w4 wa)
   have lB:Later wa wb:=(Lau:Later wa wb)
   have sA:=lA.size;have sB:=lB.size;have sz:=hL.out.lt;clear hw lA lB
   try go_wp2_with fail
   refine hK.out _ _ (KF.out _ Lau) (λhHeld=>?_);clear hK K
   try simp only [ga,gs,gz,Act.put,sa,sz,ss]
   refine tk 6 ?_;refine rd 8 λK hK=>?_
   simp only [ga,gs,gz]
   go_simp
   refine hK.out _ _ ?_ (λhHeld=>?_)
   ·(try dsimp only);(refine ⟨?_,?_,?_,?_,?_,?_⟩<;>(repeat (refine qa0 ?_ (by first|omega|(simp;done)|(simp;omega))))<;>(refine Later.cell (Lau:Later w4 _) ?_)<;>assumption)
   clear hK K
   try simp only [ga,gs,gz,Act.put,sa,sz,ss]
   clear KF;refine Zn1 krZ ?_ _;refine Zd1 ?_;go_wp2_with fail;have l1:Later w4 wa:=(Lau:Later w4 wa)
   have l2:Later wa wb:=(Lau:Later wa wb)
   have l3:Later wb wc:=(Lau:Later wb wc)
   have l4:=l1.size;have l5:=l2.size;have l6:=l3.size
   go_meet
   exact ⟨w4.heap.size,g0,h0,g1,h1,g2,h2,rfl,(db_mk HV.out hs.out hv.out hn.out hL.out Hf.out Hq.out h6.out hU.out hM.out hT.out Hs.out l1 l2 l3 k0 k1 k2 oZ).store⟩
 case rest=>
  obtain ⟨tb,g0,h0,g1,h1,g2,h2,rfl,hI⟩:=hcut;have e5:=hI.ke.cell 5;simp at e5;have Hn:0<x.c.length:=by have:=hh.out;omega
  clear a0 a1 x0 x1 d0 d1 hs hv hn hL gl HS HA;have HI:=zI hI;clear hI;go_wp2_with (refine qaL rfl (.tmp 45) 28 22 rfl Tryz.underlying28 Tryz.zeroValue22 h2 22 x.c x.c.length rfl HI.out.H2 Hn ?_);intro w5 gM gW;have H1:DbI w tb g0 h0 g1 h1 g2 h2 #[.slice S t.s.length c,.slice C t.c.length d] #[.slice S2 x.s.length c2,.slice C2 x.c.length d2] #[.slice GS g.s.length gc,.slice GC g.c.length gd] #[.slice (some ⟨g0,0,none⟩) t.s.length t.s.length,.slice (some ⟨h0,0,none⟩) t.c.length t.c.length,.slice (some ⟨g1,0,none⟩) g.s.length g.s.length,.slice (some ⟨h1,0,none⟩) g.c.length g.c.length,.slice (some ⟨g2,0,none⟩) x.s.length x.s.length,.slice (some ⟨h2,0,none⟩) x.c.length x.c.length] t.s g.s x.s g.c t.c (Ly.denseX t.c g.c x.c 0) w5:=HI.out.elseX gW gM;clear HI gM gW e5;obtain ⟨DW,hDW⟩:∃DW,Ly.denseW g.c x.c=DW:=⟨_,rfl⟩
  have gY:DW.length=t.c.length:=by rw [←hDW,Ly.denseW_len,h4.out,hh.out,hP.out]
  have gC:∀z∈DW,Fx.In z:=by rw [←hDW];exact Ly.denseW_in _ _
  have gF:∀k j,k<m->j<n->Ly.at_ DW (k*n+j)=Fx.mul (Ly.at_ g.c k) (Ly.at_ x.c j):=λk j hk hj=>by
   have:=Ly.denseW_at g.c x.c (i:=k) (j:=j) (by have:=h4.out;omega) (by have:=hh.out;omega)
   rwa [hDW,hh.out] at this
  rw [hDW] at HE;have d1:w5.cell? ⟨w.heap.size+3,1,none⟩=some (.slice GC g.c.length gd):=by rw [H1.kg.cell];rfl
  clear hDW;obtain ⟨gt,hm,gJ,Gp⟩:=zd4 H1 gY gC gF;clear H1 gY gC gF;go_wp2_with fail;clear d1
  go_loopw [49] (λi wx=>∃k:Nat,k<=m/\i=.int .i64 (k:Int)/\DbI w tb g0 h0 g1 h1 g2 h2 #[.slice S t.s.length c,.slice C t.c.length d] #[.slice S2 x.s.length c2,.slice C2 x.c.length d2] #[.slice GS g.s.length gc,.slice GC g.c.length gd] #[.slice (some ⟨g0,0,none⟩) t.s.length t.s.length,.slice (some ⟨h0,0,none⟩) t.c.length t.c.length,.slice (some ⟨g1,0,none⟩) g.s.length g.s.length,.slice (some ⟨h1,0,none⟩) g.c.length g.c.length,.slice (some ⟨g2,0,none⟩) x.s.length x.s.length,.slice (some ⟨h2,0,none⟩) x.c.length x.c.length] t.s g.s x.s g.c (DW.take (k*n)++t.c.drop (k*n)) (Ly.denseX t.c g.c x.c k) wx) (λi _=>m-(intOf i).toNat)
  case atStart=>exact ⟨0,Zt _,rfl,by simpa using gt.out⟩
  case round=>
   obtain ⟨k,hk,rfl,hJ⟩:=hrel;have go:=gj.out;clear gt
   by_cases HH:k<m
   ·have Gm:k*n+n<=m*n:=by
     have:(k+1)*n<=m*n:=mlZ _ HH
     rwa [Zu] at this
    obtain ⟨bg,og,Gx,-,Gw⟩:=(Hg.out.later hJ.later).cell (k:=k) (by have:=h4.out;omega);obtain ⟨bt,ot,hC,-,-⟩:=Ht.out.cell (k:=0) (by have:=hP.out;have:1*1<=m*n:=Nat.mul_le_mul HP gn;omega);obtain ⟨bx,ox,Gs,-,-⟩:=Hx.out.cell (k:=0) (by have:=hh.out;omega);subst Gx hC Gs;have h7:(DW.take (k*n)++t.c.drop (k*n)).length=t.c.length:=by rw [Ly.mid_len DW t.c (k*n) (by rw [hm.out,hP.out];omega) hm.out,hm.out]
    have gi:∀z∈DW.take (k*n)++t.c.drop (k*n),Fx.In z:=Ly.mid_in gJ.out Ht.out.num;have gr:=λ(V:Zp1) (hV:Later wr V)=>qc9 S bt ot c d t m n k V (Ht.out.later (hJ.later.trans hV)) (by have:=g7.out;omega) gT.out hP.out HH gn gj.out
    have g9:=λ(V:Zp1) (hV:Later wr V)=>(show Calls Tryz.prog 53 #[.agg #[.slice (some ⟨g0,0,none⟩) t.s.length t.s.length,.slice (some ⟨h0,0,none⟩) t.c.length t.c.length],.int .i64 k] V λe w'=>e=.returned (.slice (some ⟨h0,k*n,none⟩) n n)/\Below V.heap.size V w' from by
     have:=qc9 (some ⟨g0,0,none⟩) h0 0 t.s.length (DW.take (k*n)++t.c.drop (k*n)).length ⟨t.s,DW.take (k*n)++t.c.drop (k*n)⟩ m n k V ((hJ.to hV).wt oZ oZ gi) (by have:=g7.out;show 2<=t.s.length;omega) gT.out (h7.trans hP.out) HH gn gj.out;simp only [h7,Zw] at this;exact this)
    have a0:wr.cell? ⟨w.heap.size,0,none⟩=some (.slice S t.s.length c):=by rw [hJ.kw.cell];rfl
    have a1:wr.cell? ⟨w.heap.size,1,none⟩=some (.slice (some ⟨bt,ot,none⟩) t.c.length d):=by rw [hJ.kw.cell];rfl
    have e0:wr.cell? ⟨tb,0,none⟩=some (.slice (some ⟨g0,0,none⟩) t.s.length t.s.length):=by rw [hJ.ke.cell];rfl
    have e1:wr.cell? ⟨tb,1,none⟩=some (.slice (some ⟨h0,0,none⟩) t.c.length t.c.length):=by rw [hJ.ke.cell];rfl
    have kk1:(k:Int)<(g.c.length:Int):=by have:=h4.out;omega
    clear h7;obtain ⟨HJ,gX,gQ,Ge⟩:=zd4 hJ gr g9 gi;clear hJ gr g9 gi;go_wp2_with fail;have KF:=zI (show ∀Xw,Later wr Xw->Xw.cell? ⟨w.heap.size,0,none⟩=some (.slice S t.s.length c)/\Xw.cell? ⟨w.heap.size,1,none⟩=some (.slice (some ⟨bt,ot,none⟩) t.c.length d)/\Xw.cell? ⟨tb,0,none⟩=some (.slice (some ⟨g0,0,none⟩) t.s.length t.s.length)/\Xw.cell? ⟨tb,1,none⟩=some (.slice (some ⟨h0,0,none⟩) t.c.length t.c.length) from λXw h=>⟨h.cell a0,h.cell a1,h.cell e0,h.cell e1⟩);refine Zm1 ?_;refine Zl1 (S:=λXw=>Xw.cell? ⟨w.heap.size,0,none⟩=some (.slice S t.s.length c)/\Xw.cell? ⟨w.heap.size,1,none⟩=some (.slice (some ⟨bt,ot,none⟩) t.c.length d)/\Xw.cell? ⟨tb,0,none⟩=some (.slice (some ⟨g0,0,none⟩) t.s.length t.s.length)/\Xw.cell? ⟨tb,1,none⟩=some (.slice (some ⟨h0,0,none⟩) t.c.length t.c.length)) krZ (KF.out _ Lau) (λhHeld=>?_);refine tk 0 ?_;refine tk 1 ?_;refine tk 3 ?_;refine tk 4 ?_;refine tk 5 ?_;refine rd 2 λK hK=>?_
    simp only [ga,gs,gz]
    go_simp
    go_at_call 53;(with_reducible refine (gX.out _ (Lau:Later wr _)).mono ?_);rintro e wa ⟨rfl,Gq⟩
    try go_wp2_with fail
    refine hK.out _ _ (KF.out _ Lau) (λhHeld=>?_);clear hK K
    try simp only [ga,gs,gz,Act.put,sa,sz,ss]
    refine rd 6 λK hK=>?_
    simp only [ga,gs,gz]
    go_simp
    go_at_call 53;(with_reducible refine (gQ.out _ (Lau:Later wr _)).mono ?_);rintro e wb ⟨rfl,Gk⟩
    try go_wp2_with fail
    refine hK.out _ _ (KF.out _ Lau) (λhHeld=>?_);clear hK K
    try simp only [ga,gs,gz,Act.put,sa,sz,ss]
    refine tk 7 ?_;refine tk 8 ?_;clear KF;refine Zn1 krZ ?_ _;refine Zd1 ?_;have gO:Later wr wb:=(Lau:Later wr wb)
    have HM:=HJ.out.to gO;have x1:wb.cell? ⟨w.heap.size+2,1,none⟩=some (.slice (some ⟨bx,ox,none⟩) x.c.length d2):=by rw [HM.kx.cell];rfl
    have H8:(k+1)*n=k*n+n:=Zu k n;obtain ⟨p,hp⟩:∃p,p=k*n:=⟨_,rfl⟩
    have gS:p+n<=t.c.length:=by have:=hP.out;omega
    rw [←hp] at HM H8 ⊢;have gA:∀j,j<n->Ly.at_ DW (p+j)=Fx.mul (Ly.at_ g.c k) (Ly.at_ x.c j):=λj hj=>by rw [hp];exact Gp.out k j HH hj
    have gN:∀j,j<n->Ly.at_ (Ly.denseX t.c g.c x.c (k+1)) j=Fx.add (Ly.at_ (Ly.denseX t.c g.c x.c k) j) (Fx.mul (Ly.at_ t.c (p+j)) (Ly.at_ g.c k)):=λj hj=>by
     have:=Ly.denseX_at t.c g.c x.c (i:=k) (j:=j) (by have:=hh.out;omega);rw [this,hh.out,hp]
    have HF:(Ly.denseX t.c g.c x.c k).length=n:=by rw [Ly.denseX_len];exact hh.out
    have Hj:(Ly.denseX t.c g.c x.c (k+1)).length=n:=by rw [Ly.denseX_len];exact hh.out
    have Hl:=Ly.denseX_in t.c g.c x.c k;have Hh:=Ly.at_in Hg.out.num k;generalize hX0:Ly.denseX t.c g.c x.c k=X0 at *;generalize hX1:Ly.denseX t.c g.c x.c (k+1)=X1 at *;generalize Ly.at_ g.c k=gk at *;have gw:DbI w tb g0 h0 g1 h1 g2 h2 #[.slice S t.s.length c,.slice (some ⟨bt,ot,none⟩) t.c.length d] #[.slice S2 x.s.length c2,.slice (some ⟨bx,ox,none⟩) x.c.length d2] #[.slice GS g.s.length gc,.slice (some ⟨bg,og,none⟩) g.c.length gd] #[.slice (some ⟨g0,0,none⟩) t.s.length t.s.length,.slice (some ⟨h0,0,none⟩) t.c.length t.c.length,.slice (some ⟨g1,0,none⟩) g.s.length g.s.length,.slice (some ⟨h1,0,none⟩) g.c.length g.c.length,.slice (some ⟨g2,0,none⟩) x.s.length x.s.length,.slice (some ⟨h2,0,none⟩) x.c.length x.c.length] t.s g.s x.s g.c (DW.take (p+0)++t.c.drop (p+0)) (X1.take 0++X0.drop 0) wb:=by simpa using HM
    clear a0 a1 e0 e1 hp Gq Gk hHeld HJ gX gQ Ge gO HM Gw Gm hX0;obtain ⟨g8,Gh,Gt,Gl,Gg,hD,hc,HY,He⟩:=zd9 gw H8 gS gA gN HF Hj Hl Hh;have Gi:=zI hX1;clear gw H8 gS gA gN HF Hj Hl Hh hX1;go_wp2_with fail;clear x1
    go_loopw [64] (λi wx=>∃j:Nat,j<=n/\i=.int .i64 (j:Int)/\DbI w tb g0 h0 g1 h1 g2 h2 #[.slice S t.s.length c,.slice (some ⟨bt,ot,none⟩) t.c.length d] #[.slice S2 x.s.length c2,.slice (some ⟨bx,ox,none⟩) x.c.length d2] #[.slice GS g.s.length gc,.slice (some ⟨bg,og,none⟩) g.c.length gd] #[.slice (some ⟨g0,0,none⟩) t.s.length t.s.length,.slice (some ⟨h0,0,none⟩) t.c.length t.c.length,.slice (some ⟨g1,0,none⟩) g.s.length g.s.length,.slice (some ⟨h1,0,none⟩) g.c.length g.c.length,.slice (some ⟨g2,0,none⟩) x.s.length x.s.length,.slice (some ⟨h2,0,none⟩) x.c.length x.c.length] t.s g.s x.s g.c (DW.take (p+j)++t.c.drop (p+j)) (X1.take j++X0.drop j) wx) (λi _=>n-(intOf i).toNat)
    case atStart=>exact ⟨0,Zt _,rfl,g8.out⟩
    case round=>
     obtain ⟨j,hj,rfl,hQ⟩:=hrel;clear g8
     by_cases h3:j<n
     ·have GD:=Gt.out
      obtain ⟨b',o',e',-,xj⟩:=(Hx.out.later hQ.later).cell (k:=j) (by have:=hh.out;omega);injection e' with e';injection e' with e1 e2;subst e1 e2
      obtain ⟨b',o',e',-,tj⟩:=(Ht.out.later hQ.later).cell (k:=p+j) oZ;injection e' with e';injection e' with e1 e2;subst e1 e2
      have h7:(DW.take (p+j)++t.c.drop (p+j)).length=t.c.length:=by rw [Ly.mid_len DW t.c (p+j) (by rw [hm.out];omega) hm.out,hm.out]
      have ho:=Ly.mid_put' DW t.c (k:=p+j) (by rw [hm.out];omega) hm.out;rw [Gl.out j h3] at ho;have Hr:=Ly.mid_at2 X1 X0 (k:=j) (by rw [hc.out];exact h3) (hc.out.trans hD.out.symm);have hR:(X1.take j++X0.drop j).length=n:=by rw [Ly.mid_len X1 X0 j (by rw [hc.out];omega) (hc.out.trans hD.out.symm),hc.out]
      have hd:=Ly.mid_put' X1 X0 (k:=j) (by rw [hc.out];exact h3) (hc.out.trans hD.out.symm);rw [Gg.out j h3] at hd;obtain ⟨wu,hwu⟩:∃u,wr.cell? ⟨h0,p+j,none⟩=some u:=⟨_,hQ.H0.row_get (by rw [h7];omega)⟩
      have Gn:=hQ.H0.frozen (p+j)
      have gU:wr.cell? ⟨h2,j,none⟩=some (.int .i64 (Ly.at_ X0 j)):=by
       have:=hQ.H2.row_get (k:=j) (by rw [hR];exact h3);rw [this,←Hr,Ly.at_get (by rw [hR];exact h3)]
      have Hy:=Ly.at_in Hx.out.num j;have Hv:=Ly.at_in Ht.out.num (p+j);have Hw:=Ly.at_in HY.out j;have HC:p+(j+1)=p+j+1:=rfl;rw [←HC] at ho;obtain ⟨W1,hW1⟩:∃W1,W1=DW.take (p+(j+1))++t.c.drop (p+(j+1)):=⟨_,rfl⟩
      obtain ⟨Y1,hY1⟩:∃Y1,Y1=X1.take (j+1)++X0.drop (j+1):=⟨_,rfl⟩
      rw [←hW1] at ho;rw [←hY1] at hd;generalize DW.take (p+j)++t.c.drop (p+j)=W0 at *;generalize X1.take j++X0.drop j=Y0 at *;generalize Ly.at_ X0 j=xo at *;generalize Ly.at_ x.c j=xv at *;generalize Ly.at_ t.c (p+j)=tv at *;have tj':wr.cell? ⟨bt,ot+p+j,none⟩=some (.int .i64 tv):=by rw [Nat.add_assoc];exact tj
      have e5:wr.cell? ⟨tb,5,none⟩=some (.slice (some ⟨h2,0,none⟩) x.c.length x.c.length):=by rw [hQ.ke.cell];rfl
      have gb:=hQ.putW (p+j) (Fx.mul gk xv);rw [ho] at gb;have H5:h2≠h0:=by have:=hQ.lo;omega
      have gg:bt≠h0:=λe=>by
       have h5:=Ht.out.cell (k:=0) oZ;obtain ⟨b',o',e',hl,-⟩:=h5;injection e' with e';injection e' with e1 e2;subst e1
       have:=hQ.lo;omega
      have gm:tb≠h0:=qa4 hQ.ke hQ.H0 dZ;have Gy:tb≠h2:=qa4 hQ.ke hQ.H2 dZ
      have Gz:bt≠h2:=λe=>by
       have h5:=Ht.out.cell (k:=0) oZ;obtain ⟨b',o',e',hl,-⟩:=h5;injection e' with e';injection e' with e1 e2;subst e1
       have:=hQ.lo;omega
      have jj1:(j:Int)<(x.c.length:Int):=by have:=hh.out;omega
      have jj2:(j:Int)<(n:Int):=by omega
      have HP:=λ(V:Zp1)=>qaA gk xv V He.out Hy
      have H4:=λ(V:Zp1)=>qaA tv gk V Hv He.out
      have ha:=λ(V:Zp1)=>qaM xo (Fx.mul tv gk) V Hw (Fx.mul_in _ _)
      clear tj ho Hr hR h7 Hy Hv Hw HC;obtain ⟨HQ,gq,HD,Gj,Gd,Ha,Gu,Gv⟩:=zd8 hQ gb hd HP H4 ha hW1 hY1;clear hQ gb hd HP H4 ha hW1 hY1;go_wp2_with fail;refine (Gj.out _).mono ?_;rintro e w' ⟨rfl,rfl⟩;go_wp2_with fail;have GA:wr.setCell ⟨h0,p+j,none⟩ (.int .i64 (Fx.mul gk xv))=wr.setCell ⟨h0,p+j,none⟩ (.int .i64 (Fx.mul gk xv)):=rfl;have tq:(wr.setCell ⟨h0,p+j,none⟩ (.int .i64 (Fx.mul gk xv))).cell? ⟨bt,ot+p+j,none⟩=some (.int .i64 tv):=qa0 tj' gg;have xq:(wr.setCell ⟨h0,p+j,none⟩ (.int .i64 (Fx.mul gk xv))).cell? ⟨h2,j,none⟩=some (.int .i64 xo):=qa0 gU H5;have eq5:(wr.setCell ⟨h0,p+j,none⟩ (.int .i64 (Fx.mul gk xv))).cell? ⟨tb,5,none⟩=some (.slice (some ⟨h2,0,none⟩) x.c.length x.c.length):=qa0 e5 gm;clear GA tj' gU e5 wu hwu Gn xj;generalize wr.setCell ⟨h0,p+j,none⟩ (.int .i64 (Fx.mul gk xv))=wq at *;have xf:=gq.out.H2.frozen j;have gf:=gq.out.putX j (Fx.add xo (Fx.mul tv gk));rw [HD.out,Gu.out,Gv.out] at gf;have g3:=zI gf;clear gf;have KF:=zI (show ∀Xw,Later wq Xw->Xw.cell? ⟨bt,ot+p+j,none⟩=some (.int .i64 tv)/\Xw.cell? ⟨tb,5,none⟩=some (.slice (some ⟨h2,0,none⟩) x.c.length x.c.length) from λXw h=>⟨h.cell tq,h.cell eq5⟩);refine Zm1 ?_;refine Zl1 (S:=λXw=>Xw.cell? ⟨bt,ot+p+j,none⟩=some (.int .i64 tv)/\Xw.cell? ⟨tb,5,none⟩=some (.slice (some ⟨h2,0,none⟩) x.c.length x.c.length)) krZ (KF.out _ Lau) (λhHeld=>?_);refine tk 0 ?_;refine tk 1 ?_;refine tk 2 ?_;refine tk 3 ?_;refine tk 4 ?_;refine tk 5 ?_;refine tk 6 ?_;refine tk 7 ?_;refine tk 8 ?_;refine tk 10 ?_;refine tk 11 ?_;refine tk 12 ?_;refine tk 13 ?_;refine tk 14 ?_;refine Zo1 (rs:=[9,15]) krZ sZ ?_;refine Zf1 (o:=_) rfl (λK hK=>?_) (Zf1 (o:=_) rfl (λK hK=>?_) (Zg1))
      ·simp only [ga,gs,gz]
       go_simp
       refine hK.out _ _ (KF.out _ Lau) (λhHeld=>?_);clear hK K
       try simp only [ga,gs,gz,Act.put,sa,sz,ss]
       refine rd 15 λK hK=>?_
       simp only [ga,gs,gz]
       go_simp
       go_at_call 54;(with_reducible refine (Gd.out _).mono ?_);rintro e wb ⟨rfl,rfl⟩
       try go_wp2_with fail
       refine hK.out _ _ (KF.out _ Lau) (λhHeld=>?_);clear hK K
       try simp only [ga,gs,gz,Act.put,sa,sz,ss]
       refine rd 16 λK hK=>?_
       simp only [ga,gs,gz]
       go_simp
       go_at_call 55;(with_reducible refine (Ha.out _).mono ?_);rintro e wc ⟨rfl,rfl⟩
       try go_wp2_with fail
       refine hK.out _ _ (KF.out _ Lau) (λhHeld=>?_);clear hK K
       try simp only [ga,gs,gz,Act.put,sa,sz,ss]
       refine tk 17 ?_;refine rd 18 λK hK=>?_
       simp only [ga,gs,gz]
       go_simp
       refine hK.out _ _ ?_ (λhHeld=>?_)
       ·(try dsimp only);(refine ⟨?_,?_⟩<;>(repeat (refine qa0 ?_ (by first|omega|(simp;done)|(simp;omega))))<;>(refine Later.cell (Lau:Later wq _) ?_)<;>assumption)
       clear hK K
       try simp only [ga,gs,gz,Act.put,sa,sz,ss]
       clear KF;refine Zn1 krZ ?_ _;refine Zd1 ?_;clear hHeld tq xq eq5 xf;go_wp2_with fail;go_roundw
       case rel=>exact ⟨j+1,by omega,by go_num,g3.out.to Lau⟩
       case measure=>simp [intOf];omega
      ·simp only [ga,gs,gz]
       go_simp
       go_at_call 54;(with_reducible refine (Gd.out _).mono ?_);rintro e wb ⟨rfl,rfl⟩
       try go_wp2_with fail
       refine hK.out _ _ (KF.out _ Lau) (λhHeld=>?_);clear hK K
       try simp only [ga,gs,gz,Act.put,sa,sz,ss]
       refine rd 9 λK hK=>?_
       simp only [ga,gs,gz]
       go_simp
       refine hK.out _ _ (KF.out _ Lau) (λhHeld=>?_);clear hK K
       try simp only [ga,gs,gz,Act.put,sa,sz,ss]
       refine rd 16 λK hK=>?_
       simp only [ga,gs,gz]
       go_simp
       go_at_call 55;(with_reducible refine (Ha.out _).mono ?_);rintro e wc ⟨rfl,rfl⟩
       try go_wp2_with fail
       refine hK.out _ _ (KF.out _ Lau) (λhHeld=>?_);clear hK K
       try simp only [ga,gs,gz,Act.put,sa,sz,ss]
       refine tk 17 ?_;refine rd 18 λK hK=>?_
       simp only [ga,gs,gz]
       go_simp
       refine hK.out _ _ ?_ (λhHeld=>?_)
       ·(try dsimp only);(refine ⟨?_,?_⟩<;>(repeat (refine qa0 ?_ (by first|omega|(simp;done)|(simp;omega))))<;>(refine Later.cell (Lau:Later wq _) ?_)<;>assumption)
       clear hK K
       try simp only [ga,gs,gz,Act.put,sa,sz,ss]
       clear KF;refine Zn1 krZ ?_ _;refine Zd1 ?_;clear hHeld tq xq eq5 xf;go_wp2_with fail;go_roundw
       case rel=>exact ⟨j+1,by omega,by go_num,g3.out.to Lau⟩
       case measure=>simp [intOf];omega
     ·obtain rfl:j=n:=by omega
      have gK:=Ly.mid_end X1 X0 j hc.out.symm (hc.out.trans hD.out.symm);rw [gK,←Gh.out,←Gi.out] at hQ;have kk3:¬(j:Int)<(x.c.length:Int):=by have:=hh.out;omega
      clear gK;have HQ:=zI hQ;clear hQ;go_wp2_with fail;go_roundw
      case rel=>exact ⟨k+1,by omega,by go_num,HQ.out⟩
      case measure=>simp [intOf];omega
   ·obtain rfl:k=m:=by omega
    have g4:=Ly.mid_end DW t.c (k*n) (by rw [hm.out,hP.out]) hm.out;rw [g4] at hJ;have gZ:=Ly.denseX_len t.c g.c x.c k;have gv:=Ly.denseX_in t.c g.c x.c k;have HZ:=HE.out;rw [h4.out] at HZ;generalize Ly.denseX t.c g.c x.c k=XX at *;obtain ⟨e0,e1,e2,e3,e4,e5,-⟩:=qar hJ.ke;obtain ⟨c0,c1,c2,c3,c4,c5,f0,f1,f2,f3,f4,f5⟩:=qar hJ.kz;obtain ⟨d0,d1,d2,d3,d4,d5,-⟩:=qar (qbK (u0:=.slice (some ⟨g0,0,none⟩) t.s.length t.s.length) (u1:=.slice (some ⟨h0,0,none⟩) t.c.length t.c.length) (u2:=.slice (some ⟨g1,0,none⟩) g.s.length g.s.length) (u3:=.slice (some ⟨h1,0,none⟩) g.c.length g.c.length) (u4:=.slice (some ⟨g2,0,none⟩) x.s.length x.s.length) (u5:=.slice (some ⟨h2,0,none⟩) x.c.length x.c.length) hJ.kz);unfold six at d0 d1 d2 d3 d4 d5;have kk2:¬(k:Int)<(g.c.length:Int):=by have:=h4.out;omega
    clear g4;obtain ⟨HJ,Ga,GB,Gr⟩:=zd4 hJ gZ gv HZ;clear hJ gZ gv HZ;go_wp2_with fail;refine Zk1 (v:=.tuple #[.agg #[.slice (some ⟨g0,0,none⟩) t.s.length t.s.length,.slice (some ⟨h0,0,none⟩) t.c.length t.c.length,.slice (some ⟨g1,0,none⟩) g.s.length g.s.length,.slice (some ⟨h1,0,none⟩) g.c.length g.c.length,.slice (some ⟨g2,0,none⟩) x.s.length x.s.length,.slice (some ⟨h2,0,none⟩) x.c.length x.c.length],.int .i64 0]) (by simp [results,Tryz.results12,go_sem,d0,d1,d2,d3,d4,d5]) rfl ?_;exact HJ.out.done Gr.out hm.out rfl Ga.out ⟨by omega,by omega,by omega,by rw [hm.out];omega,by omega,by rw [Ga.out];omega⟩ gJ.out Hg.out.num GB.out _ _ _ _ _ _
def four (u0 u1 u2 u3:Value) (tb:Nat) (w:Zp1):Zp1:=(((w.setCell ⟨tb,0,none⟩ u0).setCell ⟨tb,1,none⟩ u1).setCell ⟨tb,2,none⟩ u2).setCell ⟨tb,3,none⟩ u3
theorem qbi (u0 u1 u2 u3:Value) (tb:Nat) (w:Zp1):Else tb w (four u0 u1 u2 u3 tb w):=((((Else.refl tb w).setCell 0 u0).setCell 1 u1).setCell 2 u2).setCell 3 u3
theorem qbZ {u0 u1 u2 u3 v0 v1 v2 v3:Value} {tb:Nat} {T:TypeId} {w:Zp1} (h:Blk w tb T #[v0,v1,v2,v3]):Blk (four u0 u1 u2 u3 tb w) tb T #[u0,u1,u2,u3]:=by
 have:=(((h.set_ 0 u0).set_ 1 u1).set_ 2 u2).set_ 3 u3;simpa [four] using this
theorem qab {w:Zp1} {p:Nat} {T:TypeId} {v0 v1 v2 v3:Value} (h:Blk w p T #[v0,v1,v2,v3]):w.cell? ⟨p,0,none⟩=some v0/\w.cell? ⟨p,1,none⟩=some v1/\w.cell? ⟨p,2,none⟩=some v2/\w.cell? ⟨p,3,none⟩=some v3/\
  w.frozen? ⟨p,0,none⟩=false/\w.frozen? ⟨p,1,none⟩=false/\w.frozen? ⟨p,2,none⟩=false/\w.frozen? ⟨p,3,none⟩=false:=
 ⟨h.cell 0,h.cell 1,h.cell 2,h.cell 3,h.frozen 0,h.frozen 1,h.frozen 2,h.frozen 3⟩
theorem qaQ {w W:Zp1} {p:Nat} (h:Later w W) (hp:w.heap.size<=p) (u0 u1 u2 u3:Value):Later w (four u0 u1 u2 u3 p W):=(qbi u0 u1 u2 u3 p W).below h hp
theorem GoC.fail {n:Int} {r:(Ten × Ten) × Int} {w w':Zp1} (hr:r=((Ly.none_,Ly.none_),n)) (hn:n≠0) (hb:Below w.heap.size w w'):GoC r w (.returned (.tuple #[.agg #[.slice none 0 0,.slice none 0 0,.slice none 0 0,.slice none 0 0],.int .i64 n])) w':=by
 subst hr;exact ⟨.inl ⟨hn,rfl⟩,hb⟩
namespace Ly
theorem convW_push (g x:List Int) (ts:List Touch) (t:Touch) (n:Nat):convW g x (ts++[t]) n=addAt (convW g x ts n) t.w (Fx.mul (at_ g t.o) (at_ x t.x)):=by unfold convW;rw [List.foldl_append];rfl
theorem convX_push (g w:List Int) (ts:List Touch) (t:Touch) (n:Nat):convX g w (ts++[t]) n=addAt (convX g w ts n) t.x (Fx.mul (at_ g t.o) (at_ w t.w)):=by unfold convX;rw [List.foldl_append];rfl
theorem qcg (g x:List Int) (n:Nat):∀ts:List Touch,(convW g x ts.reverse n).length=n/\∀z∈convW g x ts.reverse n,Fx.In z
 | []=>⟨by simp [convW,zeros],λz hz=>by simp [convW,zeros] at hz;rw [hz.2];exact Fx.in_zero⟩
 | t::r=>by
  obtain ⟨h1,h2⟩:=qcg g x n r;rw [List.reverse_cons,convW_push];exact ⟨by rw [qaK,h1],qbV h2 (Fx.mul_in _ _)⟩
theorem convW_facts (g x:List Int) (n:Nat) (ts:List Touch):(convW g x ts n).length=n/\∀z∈convW g x ts n,Fx.In z:=by have:=qcg g x n ts.reverse;rwa [List.reverse_reverse] at this
theorem qch (g w:List Int) (n:Nat):∀ts:List Touch,(convX g w ts.reverse n).length=n/\∀z∈convX g w ts.reverse n,Fx.In z
 | []=>⟨by simp [convX,zeros],λz hz=>by simp [convX,zeros] at hz;rw [hz.2];exact Fx.in_zero⟩
 | t::r=>by
  obtain ⟨h1,h2⟩:=qch g w n r;rw [List.reverse_cons,convX_push];exact ⟨by rw [qaK,h1],qbV h2 (Fx.mul_in _ _)⟩
theorem convX_facts (g w:List Int) (n:Nat) (ts:List Touch):(convX g w ts n).length=n/\∀z∈convX g w ts n,Fx.In z:=by have:=qch g w n ts.reverse;rwa [List.reverse_reverse] at this
end Ly
structure CbI (w:Zp1) (tb ga gb g0 h0 g2 h2:Nat) (bw bx bg be va vb:Array Value) (sw sx W X:List Int) (wx:Zp1):Prop where
 kw:Blk wx w.heap.size 30 bw
 kx:Blk wx (w.heap.size+1) 30 bx
 kg:Blk wx (w.heap.size+2) 30 bg
 kz:Blk wx (w.heap.size+3) 46 #[.slice none 0 0,.slice none 0 0,.slice none 0 0,.slice none 0 0]
 ke:Blk wx tb 46 be
 ka:Blk wx ga 28 va
 kb:Blk wx gb 28 vb
 G0:Blk wx g0 3 (sw.map (Za1 .i64)).toArray
 H0:Blk wx h0 22 (W.map (Za1 .i64)).toArray
 G2:Blk wx g2 3 (sx.map (Za1 .i64)).toArray
 H2:Blk wx h2 22 (X.map (Za1 .i64)).toArray
 lo:w.heap.size<=g0/\w.heap.size<=g2/\w.heap.size+3<tb/\w.heap.size<=h0/\h0<h2
 later:Later w wx
theorem CbI.of {w wx:Zp1} {tb ga gb g0 h0 g2 h2:Nat} {bw bx bg be va vb:Array Value} {sw sx W X:List Int} {wy:Zp1} {N:Nat} (H:CbI w tb ga gb g0 h0 g2 h2 bw bx bg be va vb sw sx W X wx) (hk:∀k,k<N->wy.heap[k]? = wx.heap[k]?) {W7 X7:List Int} {w7:Zp1} (H7:CbI w tb ga gb g0 h0 g2 h2 bw bx bg be va vb sw sx W7 X7 w7) (hN:w7.heap.size<=N) (hl:Later w wy):CbI w tb ga gb g0 h0 g2 h2 bw bx bg be va vb sw sx W X wy:=
 ⟨(hk _ (ltZ H7.kw.lt hN)).trans H.kw,(hk _ (ltZ H7.kx.lt hN)).trans H.kx,(hk _ (ltZ H7.kg.lt hN)).trans H.kg,(hk _ (ltZ H7.kz.lt hN)).trans H.kz,(hk _ (ltZ H7.ke.lt hN)).trans H.ke,(hk _ (ltZ H7.ka.lt hN)).trans H.ka,(hk _ (ltZ H7.kb.lt hN)).trans H.kb,(hk _ (ltZ H7.G0.lt hN)).trans H.G0,(hk _ (ltZ H7.H0.lt hN)).trans H.H0,(hk _ (ltZ H7.G2.lt hN)).trans H.G2,(hk _ (ltZ H7.H2.lt hN)).trans H.H2,H.lo,hl⟩
theorem CbI.to {w wx:Zp1} {tb ga gb g0 h0 g2 h2:Nat} {bw bx bg be va vb:Array Value} {sw sx W X:List Int} {wy:Zp1} (H:CbI w tb ga gb g0 h0 g2 h2 bw bx bg be va vb sw sx W X wx) (hl:Later wx wy):CbI w tb ga gb g0 h0 g2 h2 bw bx bg be va vb sw sx W X wy:=H.of (N:=wx.heap.size) (λk hk=>hl.block k hk) H (lrZ _) (H.later.trans hl)
theorem CbI.elseW {w wx:Zp1} {tb ga gb g0 h0 g2 h2:Nat} {bw bx bg be va vb:Array Value} {sw sx W X:List Int} {wy:Zp1} {W':List Int} (H:CbI w tb ga gb g0 h0 g2 h2 bw bx bg be va vb sw sx W X wx) (hE:Else h0 wx wy) (hb:Blk wy h0 22 (W'.map (Za1 .i64)).toArray):CbI w tb ga gb g0 h0 g2 h2 bw bx bg be va vb sw sx W' X wy:=by
 obtain ⟨l0,l2,l3,l4,l5⟩:=H.lo;exact ⟨hE.blk (qa4 H.kw H.H0 dZ) H.kw,hE.blk (qa4 H.kx H.H0 dZ) H.kx,hE.blk (qa4 H.kg H.H0 dZ) H.kg,hE.blk (qa4 H.kz H.H0 dZ) H.kz,hE.blk (qa4 H.ke H.H0 dZ) H.ke,hE.blk (qa4 H.ka H.H0 dZ) H.ka,hE.blk (qa4 H.kb H.H0 dZ) H.kb,hE.blk (qa4 H.G0 H.H0 dZ) H.G0,hb,hE.blk (qa4 H.G2 H.H0 dZ) H.G2,hE.blk oZ H.H2,H.lo,hE.below H.later oZ⟩
theorem CbI.elseX {w wx:Zp1} {tb ga gb g0 h0 g2 h2:Nat} {bw bx bg be va vb:Array Value} {sw sx W X:List Int} {wy:Zp1} {X':List Int} (H:CbI w tb ga gb g0 h0 g2 h2 bw bx bg be va vb sw sx W X wx) (hE:Else h2 wx wy) (hb:Blk wy h2 22 (X'.map (Za1 .i64)).toArray):CbI w tb ga gb g0 h0 g2 h2 bw bx bg be va vb sw sx W X' wy:=by
 obtain ⟨l0,l2,l3,l4,l5⟩:=H.lo;exact ⟨hE.blk (qa4 H.kw H.H2 dZ) H.kw,hE.blk (qa4 H.kx H.H2 dZ) H.kx,hE.blk (qa4 H.kg H.H2 dZ) H.kg,hE.blk (qa4 H.kz H.H2 dZ) H.kz,hE.blk (qa4 H.ke H.H2 dZ) H.ke,hE.blk (qa4 H.ka H.H2 dZ) H.ka,hE.blk (qa4 H.kb H.H2 dZ) H.kb,hE.blk (qa4 H.G0 H.H2 dZ) H.G0,hE.blk oZ H.H0,hE.blk (qa4 H.G2 H.H2 dZ) H.G2,hb,H.lo,hE.below H.later oZ⟩
theorem CbI.putW {w wx:Zp1} {tb ga gb g0 h0 g2 h2:Nat} {bw bx bg be va vb:Array Value} {sw sx W X:List Int} (H:CbI w tb ga gb g0 h0 g2 h2 bw bx bg be va vb sw sx W X wx) (k:Nat) (z:Int):CbI w tb ga gb g0 h0 g2 h2 bw bx bg be va vb sw sx (W.set k z) X (wx.setCell ⟨h0,k,none⟩ (.int .i64 z)):=
 H.elseW ((Else.refl _ _).setCell k _) (by have:=H.H0.set_ k (.int .i64 z);rw [List.map_set];simpa using this)
theorem CbI.putX {w wx:Zp1} {tb ga gb g0 h0 g2 h2:Nat} {bw bx bg be va vb:Array Value} {sw sx W X:List Int} (H:CbI w tb ga gb g0 h0 g2 h2 bw bx bg be va vb sw sx W X wx) (k:Nat) (z:Int):CbI w tb ga gb g0 h0 g2 h2 bw bx bg be va vb sw sx W (X.set k z) (wx.setCell ⟨h2,k,none⟩ (.int .i64 z)):=
 H.elseX ((Else.refl _ _).setCell k _) (by have:=H.H2.set_ k (.int .i64 z);rw [List.map_set];simpa using this)
def CbCut (w:Zp1) (t x:Ten) (w4:Zp1) (a:Value) (wx:Zp1):Prop:=
 ∃tb g0 h0 g2 h2,a=.pointer (some ⟨tb,0,none⟩)/\Blk wx tb 46 #[.slice (some ⟨g0,0,none⟩) t.s.length t.s.length,.slice (some ⟨h0,0,none⟩) t.c.length t.c.length,.slice (some ⟨g2,0,none⟩) x.s.length x.s.length,.slice (some ⟨h2,0,none⟩) x.c.length x.c.length]/\
  Blk wx g0 3 (t.s.map (Za1 .i64)).toArray/\Blk wx h0 22 (t.c.map (Za1 .i64)).toArray/\Blk wx g2 3 (x.s.map (Za1 .i64)).toArray/\Blk wx h2 22 (x.c.map (Za1 .i64)).toArray/\
  w4.heap.size<=g0/\w4.heap.size<=g2/\w4.heap.size<=tb/\w4.heap.size<=h0/\h0<h2/\Later w4 wx
theorem cb_mk {w w4 wa wc:Zp1} {tb g0 h0 g2 h2:Nat} {t x:Ten} (l1:Later w4 wa) (l2:Later wa wc) (G0:Blk wa g0 3 (t.s.map (Za1 .i64)).toArray) (H0:Blk wa h0 22 (t.c.map (Za1 .i64)).toArray) (G2:Blk wc g2 3 (x.s.map (Za1 .i64)).toArray) (H2:Blk wc h2 22 (x.c.map (Za1 .i64)).toArray)
  (ke:Blk wc tb 46 #[.slice (some ⟨g0,0,none⟩) t.s.length t.s.length,.slice (some ⟨h0,0,none⟩) t.c.length t.c.length,.slice (some ⟨g2,0,none⟩) x.s.length x.s.length,.slice (some ⟨h2,0,none⟩) x.c.length x.c.length])
  (q0:w4.heap.size<=g0/\w4.heap.size<=h0) (q2:wa.heap.size<=g2/\wa.heap.size<=h2) (q3:w4.heap.size<=tb):CbCut w t x w4 (.pointer (some ⟨tb,0,none⟩)) wc:=by
 have s1:=l1.size;have e0:=H0.lt;exact ⟨tb,g0,h0,g2,h2,rfl,ke,l2.blk G0,l2.blk H0,G2,H2,by omega,by omega,q3,by omega,by omega,l1.trans l2⟩
theorem cb_st {w w4 wa wc:Zp1} {tb g0 h0 g2 h2:Nat} {v0 v1 v2 v3:Value} {t x:Ten} (l1:Later w4 wa) (l2:Later wa wc) (G0:Blk wa g0 3 (t.s.map (Za1 .i64)).toArray) (H0:Blk wa h0 22 (t.c.map (Za1 .i64)).toArray) (G2:Blk wc g2 3 (x.s.map (Za1 .i64)).toArray) (H2:Blk wc h2 22 (x.c.map (Za1 .i64)).toArray)
  (ke:Blk wc tb 46 #[v0,v1,v2,v3]) (q0:w4.heap.size<=g0/\w4.heap.size<=h0) (q2:wa.heap.size<=g2/\wa.heap.size<=h2) (q3:w4.heap.size<=tb):
  CbCut w t x w4 (.pointer (some ⟨tb,0,none⟩)) (four (.slice (some ⟨g0,0,none⟩) t.s.length t.s.length) (.slice (some ⟨h0,0,none⟩) t.c.length t.c.length) (.slice (some ⟨g2,0,none⟩) x.s.length x.s.length) (.slice (some ⟨h2,0,none⟩) x.c.length x.c.length) tb wc):=by
 have hE:=qbi (.slice (some ⟨g0,0,none⟩) t.s.length t.s.length) (.slice (some ⟨h0,0,none⟩) t.c.length t.c.length) (.slice (some ⟨g2,0,none⟩) x.s.length x.s.length) (.slice (some ⟨h2,0,none⟩) x.c.length x.c.length) tb wc;have s1:=l1.size;have e0:=H0.lt;have G0':=l2.blk G0;have ha:=l2.blk H0;exact ⟨tb,g0,h0,g2,h2,rfl,qbZ ke,hE.blk (qa4 G0' ke dZ) G0',hE.blk (qa4 ha ke dZ) ha,hE.blk (qa4 G2 ke dZ) G2,hE.blk (qa4 H2 ke dZ) H2,by omega,by omega,q3,by omega,by omega,hE.below (l1.trans l2) oZ⟩
def CbCut2 (h0 n0 h2 n2:Nat) (w9:Zp1) (a b:Value) (wx:Zp1):Prop:=
 ∃ga gb,a=.pointer (some ⟨ga,0,none⟩)/\b=.pointer (some ⟨gb,0,none⟩)/\Blk wx ga 28 #[.slice (some ⟨h0,0,none⟩) n0 n0]/\Blk wx gb 28 #[.slice (some ⟨h2,0,none⟩) n2 n2]/\Later w9 wx
set_option maxRecDepth 20000 in
theorem qgz (S C S' C' GS GC:Option Addr) (c d c' d' gc gd:Nat) (t x g:Ten) (step:Int) (w:Zp1) (ht:TenIn w S C c d t) (hx:TenIn w S' C' c' d' x) (hg:TenIn w GS GC gc gd g):
  Calls Tryz.prog 13 #[.agg #[.slice S t.s.length c,.slice C t.c.length d],.agg #[.slice S' x.s.length c',.slice C' x.c.length d'],.agg #[.slice GS g.s.length gc,.slice GC g.c.length gd],.int .i64 step] w (GoC (Ly.convBack t x g step) w):=by
 obtain ⟨GH,GU,GX,hz,GQ⟩:=qbu w 30 30 30 46 #[.slice S t.s.length c,.slice C t.c.length d] #[.slice S' x.s.length c',.slice C' x.c.length d'] #[.slice GS g.s.length gc,.slice GC g.c.length gd] #[.slice none 0 0,.slice none 0 0,.slice none 0 0,.slice none 0 0];have l1:=ht.l1;have l5:=hx.s1;have l6:=hx.s2;have l2:=ht.l2;have l3:=hx.l1;have l4:=hx.l2;have l7:=hg.l1;have l8:=hg.l2;obtain ⟨gO,gI,Gw,Hz,gS,Ht,Hx,Hg⟩:=zd8 GH GU GX hz GQ ht hx hg;clear GH GU GX hz GQ ht hx hg;refine callsIn_wide.1 (callsIn_of_wp_marks (n:=9) Tryz.func13 rfl trivial (wpIn_wide.2 ?_));simp only [Tryz.ntmps13,List.size_toArray,List.length_cons,List.length_nil,Nat.reduceAdd,Nat.reduceSub,Array.replicate_succ,Array.replicate_zero,List.push_toArray,List.append_toArray,List.nil_append,List.cons_append];go_upto_region 1 with fail;generalize ((((w.alloc (.cells #[.slice S t.s.length c,.slice C t.c.length d] 30)).alloc (.cells #[.slice S' x.s.length c',.slice C' x.c.length d'] 30)).alloc (.cells #[.slice GS g.s.length gc,.slice GC g.c.length gd] 30)).alloc (.cells #[.slice none 0 0,.slice none 0 0,.slice none 0 0,.slice none 0 0] 46))=w1 at *;have a0:=gO.out.cell 0;have a1:=gO.out.cell 1;have b0:=gI.out.cell 0;have b1:=gI.out.cell 1;simp at a0 a1 b0 b1;go_wp2_with fail;refine (qa2 S C c d t w1 oZ oZ (Ht.out.later gS.out).r.1).mono ?_;rintro e w2 ⟨rfl,Gh⟩;have HD:Later w1 w2:=Gh;have Hm:=gS.out.trans HD;have H6:=HD.blk Hz.out;have h8:=HD.blk gO.out;have hQ:=HD.blk gI.out;have Hb:=HD.blk Gw.out;clear Gh Hz gS gO gI Gw HD a0 a1 b0 b1;cases hr:Tn.right t
 ·have HE:=zI (show Ly.convBack t x g step=((Ly.none_,Ly.none_),20) by simp [Ly.convBack,Ly.convErr,hr])
  clear hr;obtain ⟨c0,c1,c2,c3,f0,f1,f2,f3⟩:=qab H6;obtain ⟨gg,gX,Hj,He,Hk⟩:=zd5 Hm H6 h8 hQ Hb;clear Hm H6 h8 hQ Hb;go_wp2_with fail;refine qal (v:=.tuple #[.agg #[.slice none 0 0,.slice none 0 0,.slice none 0 0,.slice none 0 0],.int .i64 20]) (by simp [results,Tryz.results13,go_sem,c0,c1,c2,c3]) rfl ?_;exact GoC.fail HE.out dZ (qaQ (p:=w.heap.size+3) gg.out oZ _ _ _ _)
 have b0:=hQ.cell 0;have b1:=hQ.cell 1;simp at b0 b1;obtain ⟨gg,gX,Hj,He,Hk⟩:=zd5 Hm H6 h8 hQ Hb;clear Hm H6 h8 hQ Hb;go_wp2_with fail;refine (qa2 S' C' c' d' x w2 oZ oZ (Hx.out.later gg.out).r.1).mono ?_;rintro e w3 ⟨rfl,HV⟩;have HM:Later w2 w3:=HV;have gM:=gg.out.trans HM;have HY:=HM.blk gX.out;have ho:=HM.blk Hj.out;have hp:=HM.blk He.out;have hF:=HM.blk Hk.out;clear HV gX gg Hj He Hk HM b0 b1;cases hq:Tn.right x
 ·have HE:=zI (show Ly.convBack t x g step=((Ly.none_,Ly.none_),20) by simp [Ly.convBack,Ly.convErr,hr,hq])
  clear hr hq;obtain ⟨c0,c1,c2,c3,f0,f1,f2,f3⟩:=qab HY;obtain ⟨HG,gR,h1,Hn,Ho⟩:=zd5 gM HY ho hp hF;clear gM HY ho hp hF;go_wp2_with fail;refine qal (v:=.tuple #[.agg #[.slice none 0 0,.slice none 0 0,.slice none 0 0,.slice none 0 0],.int .i64 20]) (by simp [results,Tryz.results13,go_sem,c0,c1,c2,c3]) rfl ?_;exact GoC.fail HE.out dZ (qaQ (p:=w.heap.size+3) HG.out oZ _ _ _ _)
 have a0:=ho.cell 0;have b0:=hp.cell 0;simp at a0 b0;obtain ⟨HG,gR,h1,Hn,Ho⟩:=zd5 gM HY ho hp hF;clear gM HY ho hp hF;go_wp2_with fail;refine (qbn S S' c c' t.s x.s step w3 oZ oZ oZ oZ (Ht.out.later HG.out).r.1 (Hx.out.later HG.out).r.1).mono ?_;rintro e w4 ⟨A,ac,rfl,hI,G5,kG,hf,hb⟩;have HB:Later w3 w4:=hb;have Hy:=HG.out.trans HB;have hV:=HB.blk gR.out;have hN:=HB.blk h1.out;have hB:=HB.blk Hn.out;have hj:=HB.blk Ho.out;clear hb gR HG h1 Hn Ho HB a0 b0 hf;have HS:Ly.convErr t x step=(Od.conv t.s x.s step).2:=by simp [Ly.convErr,hr,hq]
 by_cases gn:(Od.conv t.s x.s step).2≠0
 ·have HE:=zI (show Ly.convBack t x g step=((Ly.none_,Ly.none_),(Od.conv t.s x.s step).2) by simp [Ly.convBack,HS,gn])
  have d2:((Od.conv t.s x.s step).2 != 0)=true:=by simpa using gn
  have ku:=zI gn;clear hr hq HS gn;generalize (Od.conv t.s x.s step).2=er at *;generalize (Od.conv t.s x.s step).1=os at *;obtain ⟨c0,c1,c2,c3,f0,f1,f2,f3⟩:=qab hV;obtain ⟨HP,gy,Hi,h3,Hp,HI⟩:=zd6 Hy hV hN hB hj hI;clear Hy hV hN hB hj hI;go_wp2_with fail;refine qal (v:=.tuple #[.agg #[.slice none 0 0,.slice none 0 0,.slice none 0 0,.slice none 0 0],.int .i64 er]) (by simp [results,Tryz.results13,go_sem,c0,c1,c2,c3]) rfl ?_;exact GoC.fail HE.out ku.out (qaQ (p:=w.heap.size+3) HP.out oZ _ _ _ _)
 have HN:(Od.conv t.s x.s step).2=0:=by omega
 have Hw:(Tn.right g&&(g.s==(Od.conv t.s x.s step).1))=false->Ly.convBack t x g step=((Ly.none_,Ly.none_),20):=λh=>by
  unfold Ly.convBack;rw [ipZ (by rw [HS,HN]),inZ];intro hh;rw [Zz,decide_eq_true_eq] at hh;rw [hh.1,hh.2] at h;simp at h
 have hu:Tn.right g=true->g.s=(Od.conv t.s x.s step).1->Ly.convBack t x g step=((⟨t.s,Ly.convW g.c x.c (Ly.convT t x step) t.c.length⟩,⟨x.s,Ly.convX g.c t.c (Ly.convT t x step) x.c.length⟩),0):=λh hs=>by
  unfold Ly.convBack;rw [ipZ (by rw [HS,HN]),ipZ (by rw [h,hs];simp)]
 clear gn HS;obtain ⟨kH,gB,hW⟩:=Ly.conv_fit HN;rw [HN]
 have kl:(Od.conv t.s x.s step).1.length<=4:=by
  rcases hW with ⟨_,_,_,_,_,_,_,e⟩|⟨_,_,_,_,_,_,_,_,_,_,e⟩<;>rw [e]<;>simp
 have hm:=qdc S S' c c' t.s x.s step;obtain ⟨HF,HK,gV,Gb⟩:=zd4 gB HN hr hq;obtain ⟨out,hout⟩:∃out,(Od.conv t.s x.s step).1=out:=⟨_,rfl⟩
 rw [hout] at hI G5 kl Hw hu ⊢;have g0:=hj.cell 0;have g1:=hj.cell 1;simp at g0 g1;have Gq:=qa2 GS GC gc gd g w4 oZ oZ (Hg.out.later Hy).r.1;have Gp:=λ(V:Zp1) (h:Later w4 V)=>qa7 GS A gc ac g.s out V oZ oZ (Hg.out.later (Hy.trans h)).r.1 (hI.below h (lrZ _))
 obtain ⟨HT,hO⟩:=zd2 hm hout;clear gB HN hW hm hr hq hout;obtain ⟨HP,gy,Hi,h3,Hp,HI,hv,he,HZ⟩:=zd9 Hy hV hN hB hj hI Hw hu Gq;have Gx:=zI Gp;clear Hy hV hN hB hj hI Hw hu Gq Gp;cases hr:Tn.right g
 ·have HE:=zI (hv.out (by rw [hr];rfl))
  rw [hr] at HZ;clear hv he hr;go_wp2_with fail;refine (HZ.out).mono ?_;rintro e w5 ⟨rfl,HW⟩;have hn:Later w4 w5:=HW;have gY:=hn.blk gy.out;have GE:=HP.out.trans hn;clear g0 g1 HW;obtain ⟨c0,c1,c2,c3,f0,f1,f2,f3⟩:=qab gY;obtain ⟨HL,kF,G6⟩:=zd3 hn gY GE;clear hn gY GE;go_wp2_with fail;refine qal (v:=.tuple #[.agg #[.slice none 0 0,.slice none 0 0,.slice none 0 0,.slice none 0 0],.int .i64 20]) (by simp [results,Tryz.results13,go_sem,c0,c1,c2,c3]) rfl ?_;exact GoC.fail HE.out dZ (qaQ (p:=w.heap.size+3) G6.out oZ _ _ _ _)
 rw [hr] at HZ;go_wp2_with fail;refine (HZ.out).mono ?_;rintro e w5 ⟨rfl,HW⟩;have hn:Later w4 w5:=HW;have g0':=hn.cell g0;clear HW g0 g1;have hi:=Gx.out _ hn;cases hq:(g.s==out)
 ·have HE:=zI (hv.out (by rw [hr,hq];rfl))
  rw [hq] at hi;clear hv he hr hq;obtain ⟨HL,hP⟩:=zd2 hn hi;clear hn hi;go_wp2_with fail;refine (hP.out).mono ?_;rintro e w6 ⟨rfl,q6,rfl⟩;have h6:=(HL.out.drewN q6).blk gy.out;have Hu:=(HP.out.trans HL.out).drewN q6;clear g0';obtain ⟨c0,c1,c2,c3,f0,f1,f2,f3⟩:=qab h6;obtain ⟨g3,gL⟩:=zd2 h6 Hu;clear h6 Hu;go_wp2_with fail;refine qal (v:=.tuple #[.agg #[.slice none 0 0,.slice none 0 0,.slice none 0 0,.slice none 0 0],.int .i64 20]) (by simp [results,Tryz.results13,go_sem,c0,c1,c2,c3]) rfl ?_;exact GoC.fail HE.out dZ (qaQ (p:=w.heap.size+3) gL.out oZ _ _ _ _)
 rw [hq] at hi;have gU:g.s=out:=by simpa using hq
 have HE:=zI (he.out hr gU);have GY:(g.c.length:Int)=Safe.prod out:=by have:=hr;simp only [Tn.right,Zz,decide_eq_true_eq] at this;rw [←gU];exact this.2
 obtain ⟨r1,r2⟩:=Ly.right_ok gV.out;obtain ⟨r3,r4⟩:=Ly.right_ok Gb.out
 have kd:0<t.c.length:=by
  have:=gV.out;simp only [Tn.right,Zz,decide_eq_true_eq] at this;have h2:=(Sh.right_mul this.1).2.2.2.2.1;omega
 have G7:0<x.c.length:=by
  have:=Gb.out;simp only [Tn.right,Zz,decide_eq_true_eq] at this;have h2:=(Sh.right_mul this.1).2.2.2.2.1;omega
 clear hv he hq hr gU;obtain ⟨HL,hP,kt⟩:=zd3 hn hi GY;clear hn hi GY;go_wp2_with fail;refine (hP.out).mono ?_;rintro e w6 ⟨rfl,q6,rfl⟩;have HO:=HL.out.drewN q6;clear g0' hP Gx HZ HL;generalize w5.drewN q6=w6 at *;have Hu:=HP.out.trans HO;have hR:=HO.blk Hi.out;have hS:=HO.blk h3.out;have gm:=HO.blk Hp.out;have h6:=HO.blk gy.out;clear HO HP Hi h3 Hp gy HI;have a0:w6.cell? ⟨w.heap.size,0,none⟩=some (.slice S t.s.length c):=hR.cell 0;have a1:w6.cell? ⟨w.heap.size,1,none⟩=some (.slice C t.c.length d):=hR.cell 1;have b0:w6.cell? ⟨w.heap.size+1,0,none⟩=some (.slice S' x.s.length c'):=hS.cell 0;have b1:w6.cell? ⟨w.heap.size+1,1,none⟩=some (.slice C' x.c.length d'):=hS.cell 1;have GO:=λ(V:Zp1) (h:Later w6 V)=>qa9 S C c d t V oZ oZ (Ht.out.later (Hu.trans h)).r
 have GZ:=λ(V:Zp1) (h:Later w6 V)=>qa9 S' C' c' d' x V oZ oZ (Hx.out.later (Hu.trans h)).r
 have kp:=h6.lt;obtain ⟨gL,H9,gi,gw,g3,Gc,gP⟩:=zd7 Hu hR hS gm h6 GO GZ;clear Hu hR hS gm h6 GO GZ;go_upto_region 8 with fail
 go_cut [12] from 50 to 117 (CbCut w t x w6)
 case first=>
  go_wp2_with fail;have KF:=zI (show ∀Xw,Later w6 Xw->Xw.cell? ⟨w.heap.size,0,none⟩=some (.slice S t.s.length c)/\Xw.cell? ⟨w.heap.size,1,none⟩=some (.slice C t.c.length d)/\Xw.cell? ⟨w.heap.size+1,0,none⟩=some (.slice S' x.s.length c')/\Xw.cell? ⟨w.heap.size+1,1,none⟩=some (.slice C' x.c.length d') from λXw h=>⟨h.cell a0,h.cell a1,h.cell b0,h.cell b1⟩);refine Zm1 ?_;refine Zl1 (S:=λXw=>Xw.cell? ⟨w.heap.size,0,none⟩=some (.slice S t.s.length c)/\Xw.cell? ⟨w.heap.size,1,none⟩=some (.slice C t.c.length d)/\Xw.cell? ⟨w.heap.size+1,0,none⟩=some (.slice S' x.s.length c')/\Xw.cell? ⟨w.heap.size+1,1,none⟩=some (.slice C' x.c.length d')) krZ (KF.out _ Lau) (λhHeld=>?_);refine tk 0 ?_;refine tk 2 ?_;refine Zo1 (rs:=[1,5]) krZ sZ ?_;refine Zf1 (o:=_) rfl (λK hK=>?_) (Zf1 (o:=_) rfl (λK hK=>?_) (Zg1))
  ·simp only [ga,gs,gz]
   go_simp
   go_at_call 52;(with_reducible refine (Gc.out _ (Lau:Later w6 _)).mono ?_);rintro e wa ⟨v,rfl,⟨g0,h0,rfl,q1,q2,hG,hH⟩,go⟩
   have k0:w6.heap.size<=g0/\w6.heap.size<=h0:=by (constructor<;>first|assumption|(simp at q1 q2;omega))
   obtain ⟨hU,hd⟩:=zd2 hG hH;clear q1 q2 hG hH
   try go_wp2_with fail
   refine hK.out _ _ (KF.out _ Lau) (λhHeld=>?_);clear hK K
   try simp only [ga,gs,gz,Act.put,sa,sz,ss]
   refine Zo1 (rs:=[3,5]) krZ sZ ?_;refine Zf1 (o:=_) rfl (λK hK=>?_) (Zf1 (o:=_) rfl (λK hK=>?_) (Zg1))
   ·simp only [ga,gs,gz]
    go_simp
    go_at_call 52;(with_reducible refine (gP.out _ (Lau:Later w6 _)).mono ?_);rintro e wc ⟨v,rfl,⟨g2,h2,rfl,q1,q2,hG,hH⟩,hM⟩
    have k2:wa.heap.size<=g2/\wa.heap.size<=h2:=by (constructor<;>first|assumption|(simp at q1 q2;omega))
    obtain ⟨hL,hZ⟩:=zd2 hG hH;clear q1 q2 hG hH
    try go_wp2_with fail
    refine hK.out _ _ (KF.out _ Lau) (λhHeld=>?_);clear hK K
    try simp only [ga,gs,gz,Act.put,sa,sz,ss]
    refine tk 4 ?_;refine rd 5 λK hK=>?_
    simp only [ga,gs,gz]
    go_simp
    refine hK.out _ _ (KF.out _ Lau) (λhHeld=>?_);clear hK K
    try simp only [ga,gs,gz,Act.put,sa,sz,ss]
    refine rd 6 λK hK=>?_
    simp only [ga,gs,gz]
    go_simp
    refine hK.out _ _ ?_ (λhHeld=>?_)
    ·(try dsimp only);(refine ⟨?_,?_,?_,?_⟩<;>(repeat (refine qa0 ?_ (by first|omega|(simp;done)|(simp;omega))))<;>(refine Later.cell (Lau:Later w6 _) ?_)<;>assumption)
    clear hK K
    try simp only [ga,gs,gz,Act.put,sa,sz,ss]
    clear KF;refine Zn1 krZ ?_ _;refine Zd1 ?_;go_wp2_with fail;have l1:Later w6 wa:=(Lau:Later w6 wa)
    have l2:Later wa wc:=(Lau:Later wa wc)
    have l3:=l1.size;have l4:=l2.size
    go_meet
    exact cb_mk l1 (l2.alloc _) hU.out hd.out (((Later.refl wc).alloc _).blk hL.out) (((Later.refl wc).alloc _).blk hZ.out) (Blk.new wc _ _) k0 k2 oZ
   ·simp only [ga,gs,gz]
    go_simp
    refine hK.out _ _ (KF.out _ Lau) (λhHeld=>?_);clear hK K
    try simp only [ga,gs,gz,Act.put,sa,sz,ss]
    refine rd 3 λK hK=>?_
    simp only [ga,gs,gz]
    go_simp
    go_at_call 52;(with_reducible refine (gP.out _ (Lau:Later w6 _)).mono ?_);rintro e wc ⟨v,rfl,⟨g2,h2,rfl,q1,q2,hG,hH⟩,hM⟩
    have k2:wa.heap.size<=g2/\wa.heap.size<=h2:=by (constructor<;>first|assumption|(simp at q1 q2;omega))
    obtain ⟨hL,hZ⟩:=zd2 hG hH;clear q1 q2 hG hH;have Hr:=(show Later (wa.alloc (.cells #[.slice none 0 0,.slice none 0 0,.slice none 0 0,.slice none 0 0] 46)) wc from hM).blk (Blk.new wa _ _);obtain ⟨z0,z1,z2,z3,y0,y1,y2,y3⟩:=qab Hr;have g6:=zI Hr;have lA:Later w6 wa:=(Lau:Later w6 wa)
    have sA:=lA.size;clear Hr lA
    try go_wp2_with fail
    refine hK.out _ _ (KF.out _ Lau) (λhHeld=>?_);clear hK K
    try simp only [ga,gs,gz,Act.put,sa,sz,ss]
    refine tk 4 ?_;refine rd 6 λK hK=>?_
    simp only [ga,gs,gz]
    go_simp
    refine hK.out _ _ ?_ (λhHeld=>?_)
    ·(try dsimp only);(refine ⟨?_,?_,?_,?_⟩<;>(repeat (refine qa0 ?_ (by first|omega|(simp;done)|(simp;omega))))<;>(refine Later.cell (Lau:Later w6 _) ?_)<;>assumption)
    clear hK K
    try simp only [ga,gs,gz,Act.put,sa,sz,ss]
    clear KF;refine Zn1 krZ ?_ _;refine Zd1 ?_;go_wp2_with fail;have l1:Later w6 wa:=(Lau:Later w6 wa)
    have l2:Later wa wc:=(Lau:Later wa wc)
    have l3:=l1.size;have l4:=l2.size
    go_meet
    exact cb_st l1 l2 hU.out hd.out hL.out hZ.out g6.out k0 k2 oZ
  ·simp only [ga,gs,gz]
   go_simp
   refine hK.out _ _ (KF.out _ Lau) (λhHeld=>?_);clear hK K
   try simp only [ga,gs,gz,Act.put,sa,sz,ss]
   refine rd 1 λK hK=>?_
   simp only [ga,gs,gz]
   go_simp
   go_at_call 52;(with_reducible refine (Gc.out _ (Lau:Later w6 _)).mono ?_);rintro e wa ⟨v,rfl,⟨g0,h0,rfl,q1,q2,hG,hH⟩,go⟩
   have k0:w6.heap.size<=g0/\w6.heap.size<=h0:=by (constructor<;>first|assumption|(simp at q1 q2;omega))
   obtain ⟨hU,hd⟩:=zd2 hG hH;clear q1 q2 hG hH
   try go_wp2_with fail
   refine hK.out _ _ (KF.out _ Lau) (λhHeld=>?_);clear hK K
   try simp only [ga,gs,gz,Act.put,sa,sz,ss]
   refine rd 3 λK hK=>?_
   simp only [ga,gs,gz]
   go_simp
   go_at_call 52;(with_reducible refine (gP.out _ (Lau:Later w6 _)).mono ?_);rintro e wc ⟨v,rfl,⟨g2,h2,rfl,q1,q2,hG,hH⟩,hM⟩
   have k2:wa.heap.size<=g2/\wa.heap.size<=h2:=by (constructor<;>first|assumption|(simp at q1 q2;omega))
   obtain ⟨hL,hZ⟩:=zd2 hG hH;clear q1 q2 hG hH;have Hr:=(show Later wa wc from hM).blk ((show Later _ wa from go).blk ((Blk.new w6 46 #[.slice none 0 0,.slice none 0 0,.slice none 0 0,.slice none 0 0]).drew));obtain ⟨z0,z1,z2,z3,y0,y1,y2,y3⟩:=qab Hr;have g6:=zI Hr;have lA:Later w6 wa:=(Lau:Later w6 wa)
   have sA:=lA.size;clear Hr lA
   try go_wp2_with fail
   refine hK.out _ _ (KF.out _ Lau) (λhHeld=>?_);clear hK K
   try simp only [ga,gs,gz,Act.put,sa,sz,ss]
   refine tk 4 ?_;refine rd 6 λK hK=>?_
   simp only [ga,gs,gz]
   go_simp
   refine hK.out _ _ ?_ (λhHeld=>?_)
   ·(try dsimp only);(refine ⟨?_,?_,?_,?_⟩<;>(repeat (refine qa0 ?_ (by first|omega|(simp;done)|(simp;omega))))<;>(refine Later.cell (Lau:Later w6 _) ?_)<;>assumption)
   clear hK K
   try simp only [ga,gs,gz,Act.put,sa,sz,ss]
   clear KF;refine Zn1 krZ ?_ _;refine Zd1 ?_;go_wp2_with fail;have l1:Later w6 wa:=(Lau:Later w6 wa)
   have l2:Later wa wc:=(Lau:Later wa wc)
   have l3:=l1.size;have l4:=l2.size
   go_meet
   exact cb_st l1 l2 hU.out hd.out hL.out hZ.out g6.out k0 k2 oZ
 case rest=>
  obtain ⟨tb,g0,h0,g2,h2,rfl,Ge,GG,Gt,GV,GI,lg0,lg2,ltb,lh0,lh2,HQ⟩:=hcut;have hl:=gL.out.trans HQ;have h8:=HQ.blk H9.out;have hQ:=HQ.blk gi.out;have Hb:=HQ.blk gw.out;have hz:=HQ.blk g3.out;obtain ⟨e0,e1,e2,e3,-⟩:=qab Ge;have Hm:h2≠h0:=by omega
  have G8:w.heap.size<=h0:=by omega
  clear a0 a1 b0 b1 H9 gi gw g3 Gc gP HQ gL;obtain ⟨Hl,Hj,He,Hk,Hz,gZ,hU,hd,hL⟩:=zd9 hl h8 hQ Hb hz Ge GG Gt GV;have hZ:=zI GI;clear hl h8 hQ Hb hz Ge GG Gt GV GI;go_wp2_with (refine qaL rfl (.tmp 57) 28 22 rfl Tryz.underlying28 Tryz.zeroValue22 h0 22 t.c t.c.length rfl hd.out kd ?_);intro w8 Gz hy;have Hf:=hy.blk (qa4 gZ.out hd.out dZ) gZ.out;have gl:=hy.blk (qa4 hU.out hd.out dZ) hU.out;have gG:=hy.blk (qa4 hL.out hd.out dZ) hL.out;have gj:=hy.blk Hm hZ.out;have HX:=hy.blk (qa4 Hj.out hd.out dZ) Hj.out;have H1:=hy.blk (qa4 He.out hd.out dZ) He.out;have HR:=hy.blk (qa4 Hk.out hd.out dZ) Hk.out;have Go:=hy.blk (qa4 Hz.out hd.out dZ) Hz.out;have GF:Later w w8:=hy.below Hl.out G8;clear e0 e1 e2 e3 hy gZ hU hd hL hZ Hj He Hk Hz Hl;obtain ⟨e0,e1,e2,e3,-⟩:=qab Hf;obtain ⟨Hs,h7,Hv,hc,h5,Ha,Hd,gW,GL⟩:=zd9 Hf gl gG gj HX H1 HR Go GF;have GD:=zI Gz;clear Hf gl gG gj HX H1 HR Go GF Gz;go_wp2_with (refine qaL rfl (.tmp 60) 28 22 rfl Tryz.underlying28 Tryz.zeroValue22 h2 22 x.c x.c.length rfl hc.out G7 ?_);intro w9 Gi hw;have h4:=hw.blk (qa4 Hs.out hc.out dZ) Hs.out;have gk:=hw.blk (qa4 h7.out hc.out dZ) h7.out;have gp:=hw.blk (qa4 Hv.out hc.out dZ) Hv.out;have G1:=hw.blk (Ne.symm Hm) GD.out;have gF:=hw.blk (qa4 h5.out hc.out dZ) h5.out;have gt:=hw.blk (qa4 Ha.out hc.out dZ) Ha.out;have gA:=hw.blk (qa4 Hd.out hc.out dZ) Hd.out;have Gs:=hw.blk (qa4 gW.out hc.out dZ) gW.out;have Gy:Later w w9:=hw.below GL.out oZ;clear e0 e1 e2 e3 hw Hs h7 Hv hc GD h5 Ha Hd gW GL;obtain ⟨e0,e1,e2,e3,-⟩:=qab h4;obtain ⟨gu,H5,H3,Gm,Hc,Hh,gh,Gn,GJ⟩:=zd9 h4 gk gp Gi gF gt gA Gs Gy
  have Gu:=zI G1;clear h4 gk gp Gi gF gt gA Gs Gy G1;go_upto_region 11 with fail
  go_cut [13,14] from 61 to 117 (CbCut2 h0 t.c.length h2 x.c.length w9)
  case first=>
   go_wp2_with fail;have KF:=zI (show ∀Xw,Later w9 Xw->Xw.cell? ⟨tb,1,none⟩=some (.slice (some ⟨h0,0,none⟩) t.c.length t.c.length)/\Xw.cell? ⟨tb,3,none⟩=some (.slice (some ⟨h2,0,none⟩) x.c.length x.c.length) from λXw h=>⟨h.cell e1,h.cell e3⟩);refine Zm1 ?_;refine Zl1 (S:=λXw=>Xw.cell? ⟨tb,1,none⟩=some (.slice (some ⟨h0,0,none⟩) t.c.length t.c.length)/\Xw.cell? ⟨tb,3,none⟩=some (.slice (some ⟨h2,0,none⟩) x.c.length x.c.length)) krZ (KF.out _ Lau) (λhHeld=>?_);refine tk 0 ?_;refine tk 1 ?_;refine tk 2 ?_;refine tk 3 ?_;refine tk 4 ?_;refine tk 5 ?_;refine Zo1 (rs:=[6,7]) krZ sZ ?_;refine Zf1 (o:=_) rfl (λK hK=>?_) (Zf1 (o:=_) rfl (λK hK=>?_) (Zg1))
   ·simp only [ga,gs,gz]
    go_simp
    refine hK.out _ _ (KF.out _ Lau) (λhHeld=>?_);clear hK K
    try simp only [ga,gs,gz,Act.put,sa,sz,ss]
    refine rd 7 λK hK=>?_
    simp only [ga,gs,gz]
    go_simp
    refine hK.out _ _ (KF.out _ Lau) (λhHeld=>?_);clear hK K
    try simp only [ga,gs,gz,Act.put,sa,sz,ss]
    refine rd 8 λK hK=>?_
    simp only [ga,gs,gz]
    go_simp
    refine hK.out _ _ ?_ (λhHeld=>?_)
    ·(try dsimp only);(refine ⟨?_,?_⟩<;>(repeat (refine qa0 ?_ (by first|omega|(simp;done)|(simp;omega))))<;>(refine Later.cell (Lau:Later w9 _) ?_)<;>assumption)
    clear hK K
    try simp only [ga,gs,gz,Act.put,sa,sz,ss]
    refine rd 9 λK hK=>?_
    simp only [ga,gs,gz]
    go_simp
    refine hK.out _ _ ?_ (λhHeld=>?_)
    ·(try dsimp only);(refine ⟨?_,?_⟩<;>(repeat (refine qa0 ?_ (by first|omega|(simp;done)|(simp;omega))))<;>(refine Later.cell (Lau:Later w9 _) ?_)<;>assumption)
    clear hK K
    try simp only [ga,gs,gz,Act.put,sa,sz,ss]
    clear KF;refine Zn1 krZ ?_ _;refine Zd1 ?_;clear hHeld;go_wp2_with fail;have p1:=Blk.new (w9.alloc (.cells #[.slice (some ⟨h0,0,none⟩) t.c.length t.c.length] 28)) 28 #[.slice (some ⟨h2,0,none⟩) x.c.length x.c.length];rw [Zh1] at p1
    go_meet
    exact ⟨_,_,rfl,rfl,((Blk.new w9 _ _).alloc _).drew,p1.drew,(((Later.refl w9).alloc _).alloc _).drew⟩
   ·simp only [ga,gs,gz]
    go_simp
    refine hK.out _ _ (KF.out _ Lau) (λhHeld=>?_);clear hK K
    try simp only [ga,gs,gz,Act.put,sa,sz,ss]
    refine rd 6 λK hK=>?_
    simp only [ga,gs,gz]
    go_simp
    refine hK.out _ _ (KF.out _ Lau) (λhHeld=>?_);clear hK K
    try simp only [ga,gs,gz,Act.put,sa,sz,ss]
    refine rd 8 λK hK=>?_
    simp only [ga,gs,gz]
    go_simp
    refine hK.out _ _ ?_ (λhHeld=>?_)
    ·(try dsimp only);(refine ⟨?_,?_⟩<;>(repeat (refine qa0 ?_ (by first|omega|(simp;done)|(simp;omega))))<;>(refine Later.cell (Lau:Later w9 _) ?_)<;>assumption)
    clear hK K
    try simp only [ga,gs,gz,Act.put,sa,sz,ss]
    refine rd 9 λK hK=>?_
    simp only [ga,gs,gz]
    go_simp
    refine hK.out _ _ ?_ (λhHeld=>?_)
    ·(try dsimp only);(refine ⟨?_,?_⟩<;>(repeat (refine qa0 ?_ (by first|omega|(simp;done)|(simp;omega))))<;>(refine Later.cell (Lau:Later w9 _) ?_)<;>assumption)
    clear hK K
    try simp only [ga,gs,gz,Act.put,sa,sz,ss]
    clear KF;refine Zn1 krZ ?_ _;refine Zd1 ?_;clear hHeld;go_wp2_with fail;have p1:=Blk.new (w9.alloc (.cells #[.slice (some ⟨h2,0,none⟩) x.c.length x.c.length] 28)) 28 #[.slice (some ⟨h0,0,none⟩) t.c.length t.c.length];rw [Zh1] at p1
    go_meet
    exact ⟨_,_,rfl,rfl,p1.drew,((Blk.new w9 _ _).alloc _).drew,(((Later.refl w9).alloc _).alloc _).drew⟩
  case rest=>
   obtain ⟨pa,pb,rfl,rfl,H7,gr,gE⟩:=hcut;have h9:=gE;have Ga:=GJ.out.trans h9;have a0:=(h9.blk Hc.out).cell 0;have b0:=(h9.blk Hh.out).cell 0;simp at a0 b0;have gq:CbI w tb pa pb g0 h0 g2 h2 #[.slice S t.s.length c,.slice C t.c.length d] #[.slice S' x.s.length c',.slice C' x.c.length d'] #[.slice GS g.s.length gc,.slice GC g.c.length gd] #[.slice (some ⟨g0,0,none⟩) t.s.length t.s.length,.slice (some ⟨h0,0,none⟩) t.c.length t.c.length,.slice (some ⟨g2,0,none⟩) x.s.length x.s.length,.slice (some ⟨h2,0,none⟩) x.c.length x.c.length] #[.slice (some ⟨h0,0,none⟩) t.c.length t.c.length] #[.slice (some ⟨h2,0,none⟩) x.c.length x.c.length] t.s x.s (Ly.convW g.c x.c [] t.c.length) (Ly.convX g.c t.c [] x.c.length) _:=CbI.mk (h9.blk Hc.out) (h9.blk Hh.out) (h9.blk gh.out) (h9.blk Gn.out) (h9.blk gu.out) H7 gr (h9.blk H5.out) (h9.blk Gu.out) (h9.blk H3.out) (h9.blk Gm.out) ⟨by omega,by omega,by omega,by omega,lh2⟩ Ga;clear gE H7 gr h9 e0 e1 e2 e3 Hc Hh gh Gn gu H5 Gu H3 Gm GJ;obtain ⟨HU,Gd⟩:=zd2 gq Ga;clear gq Ga;go_upto_region 12 with fail;go_wp2_with fail;refine (HT.out _ Ht.out.s1 l5 l6 (Ht.out.later Gd.out).r.1 (Hx.out.later Gd.out).r.1 HK.out).mono ?_;rintro e w11 ⟨rfl,ge⟩;have H8:=HU.out.to ge;clear HU a0 b0 ge Gd;have ha:=zI H8;clear H8;go_wp2_with fail;have hs:=HF.out.small;have gJ:=HF.out.pos;have gx:=HF.out.places;have hT:Ly.convT t x step=(Ly.frame t.s x.s out step).all:=by unfold Ly.convT;rw [hO.out]
   rw [hO.out] at hs gJ gx ⊢;generalize hfr:Ly.frame t.s x.s out step=fr at *
   refine wpIn_wide.1 (qba (n:=9) (9-1-1-1) rfl oZ (gf:=115) (lf:=#[fr.V]) rfl trivial (enters_of Tryz.func115 krZ rfl) Ly.Touch.V rfl fr.all
    (λpre W=>CbI w tb pa pb g0 h0 g2 h2 #[.slice S t.s.length c,.slice C t.c.length d] #[.slice S' x.s.length c',.slice C' x.c.length d'] #[.slice GS g.s.length gc,.slice GC g.c.length gd] #[.slice (some ⟨g0,0,none⟩) t.s.length t.s.length,.slice (some ⟨h0,0,none⟩) t.c.length t.c.length,.slice (some ⟨g2,0,none⟩) x.s.length x.s.length,.slice (some ⟨h2,0,none⟩) x.c.length x.c.length] #[.slice (some ⟨h0,0,none⟩) t.c.length t.c.length] #[.slice (some ⟨h2,0,none⟩) x.c.length x.c.length] t.s x.s (Ly.convW g.c x.c pre t.c.length) (Ly.convX g.c t.c pre x.c.length) W) ?hI ?h0 ?hseq ?hbody ?hdone)
   case hI=>
    rintro pre A2 B2 hb H;exact H.of (N:=w11.heap.size) (λk hk=>hb.block k hk) ha.out (lrZ _) (Below.trans H.later (hb.mono ha.out.later.size))
   case h0=>exact ha.out
   case hseq=>
    intro l J W kE kA hJ hY kr;exact qdb Fence.wide (9-1) l trivial trivial rfl oZ fr hs gJ W.heap.size J hJ hY W (lrZ _) kr
   case hbody=>
    rintro pre z rest A2 hx H hA;obtain ⟨po,pw,px⟩:=gx z (by rw [hx];simp);obtain ⟨n7,n8,n9⟩:=Ly.conv_lens gV.out Gb.out HK.out;rw [hO.out,hfr] at n7 n8;rw [hO.out,hfr] at n9;rw [←n9] at po;rw [←n7] at pw;rw [←n8] at px;have gC:g.c.length=(Safe.prod out).toNat:=by have:=kt.out;omega
    rw [←gC] at po;clear n7 n8 n9 gC hx;obtain ⟨wl,wi⟩:=Ly.convW_facts g.c x.c t.c.length pre;obtain ⟨xl,xi⟩:=Ly.convX_facts g.c t.c x.c.length pre;rw [Ly.convW_push,Ly.convX_push];generalize Ly.convW g.c x.c pre t.c.length=W0 at *;generalize Ly.convX g.c t.c pre x.c.length=X0 at *;obtain ⟨bt,ot,rfl,lbt,-⟩:=Ht.out.cell pw;obtain ⟨bx,ox,rfl,lbx,-⟩:=Hx.out.cell px;obtain ⟨bg,og,rfl,lbg,-⟩:=Hg.out.cell po;have GW:=Ly.at_in Ht.out.num z.w;have GK:=Ly.at_in Hx.out.num z.x;have g7:=Ly.at_in Hg.out.num z.o;have GA:=Ly.at_in wi z.w;have Gl:=Ly.at_in xi z.x;have Gj:W0.set z.w (Fx.add (Ly.at_ W0 z.w) (Fx.mul (Ly.at_ g.c z.o) (Ly.at_ x.c z.x)))=Ly.addAt W0 z.w (Fx.mul (Ly.at_ g.c z.o) (Ly.at_ x.c z.x)):=rfl;have GP:X0.set z.x (Fx.add (Ly.at_ X0 z.x) (Fx.mul (Ly.at_ g.c z.o) (Ly.at_ t.c z.w)))=Ly.addAt X0 z.x (Fx.mul (Ly.at_ g.c z.o) (Ly.at_ t.c z.w)):=rfl;rw [←Gj,←GP];have g5:=(Later.refl A2).alloc (.cells #[.int .i64 z.o,.int .i64 z.w,.int .i64 z.x] 114);have Gr:=Blk.new A2 114 #[.int .i64 z.o,.int .i64 z.w,.int .i64 z.x];have g4:=ha.out.later.size;have GM:=H.to g5;rw [show Ly.Touch.V z=Value.agg #[.int .i64 z.o,.int .i64 z.w,.int .i64 z.x] from rfl];clear Gj GP;obtain ⟨ko,Gv,gT,HH,G3,GN,HA,HJ⟩:=zd8 g5 Gr GM H wi xi wl xl;clear g5 Gr GM H wi xi wl xl
    gi_wp2_with (rw [Oper.semAt_eq _ _ _ (λc h=>by cases h)];go_simp;try go_bits)
    refine ⟨Above.alloc _ _ _,λA3 kf Gg HV=>?_⟩;rw [Zh1] at kf;have gN:Later w A3:=Below.trans (show Below w.heap.size w _ from gT.out.later) (HV.mono g4);have hC:=gT.out.of (N:=w11.heap.size) (λk hk=>Gg k oZ) ha.out (lrZ _) gN;have g8:Blk A3 A2.heap.size 114 #[.int .i64 z.o,.int .i64 z.w,.int .i64 z.x]:=(Gg A2.heap.size oZ).trans Gv.out;have u0:=g8.cell 0;have u1:=g8.cell 1;have u2:=g8.cell 2;have ug:A3.cell? ⟨w.heap.size+2,1,none⟩=some (.slice (some ⟨bg,og,none⟩) g.c.length gd):=hC.kg.cell 1;have ux:A3.cell? ⟨w.heap.size+1,1,none⟩=some (.slice (some ⟨bx,ox,none⟩) x.c.length d'):=hC.kx.cell 1;have ua:A3.cell? ⟨pa,0,none⟩=some (.slice (some ⟨h0,0,none⟩) t.c.length t.c.length):=hC.ka.cell 0;simp at u0 u1 u2;obtain ⟨b',o',e',-,vg⟩:=(Hg.out.later gN).cell po;injection e' with e';injection e' with e1 e2;subst e1 e2
    obtain ⟨b',o',e',-,vx⟩:=(Hx.out.later gN).cell px;injection e' with e';injection e' with e1 e2;subst e1 e2
    have vw:A3.cell? ⟨h0,z.w,none⟩=some (.int .i64 (Ly.at_ W0 z.w)):=by
     have:=hC.H0.row_get (k:=z.w) (by have:=HA.out;omega);rw [this,Ly.at_get (by have:=HA.out;omega)]
    have vf:=hC.H0.frozen z.w;have hX:=hC.putW z.w (Fx.add (Ly.at_ W0 z.w) (Fx.mul (Ly.at_ g.c z.o) (Ly.at_ x.c z.x)));obtain ⟨b',o',e',-,vt⟩:=(Ht.out.later hX.later).cell pw;injection e' with e';injection e' with e1 e2;subst e1 e2
    have vX:(A3.setCell ⟨h0,z.w,none⟩ (.int .i64 (Fx.add (Ly.at_ W0 z.w) (Fx.mul (Ly.at_ g.c z.o) (Ly.at_ x.c z.x))))).cell? ⟨h2,z.x,none⟩=some (.int .i64 (Ly.at_ X0 z.x)):=by
     have:=hX.H2.row_get (k:=z.x) (by have:=HJ.out;omega);rw [this,Ly.at_get (by have:=HJ.out;omega)]
    have vXf:=hX.H2.frozen z.x;have ut:(A3.setCell ⟨h0,z.w,none⟩ (.int .i64 (Fx.add (Ly.at_ W0 z.w) (Fx.mul (Ly.at_ g.c z.o) (Ly.at_ x.c z.x))))).cell? ⟨w.heap.size,1,none⟩=some (.slice (some ⟨bt,ot,none⟩) t.c.length d):=hX.kw.cell 1;have ub:(A3.setCell ⟨h0,z.w,none⟩ (.int .i64 (Fx.add (Ly.at_ W0 z.w) (Fx.mul (Ly.at_ g.c z.o) (Ly.at_ x.c z.x))))).cell? ⟨pb,0,none⟩=some (.slice (some ⟨h2,0,none⟩) x.c.length x.c.length):=hX.kb.cell 0;have GT:=ha.out.H0.lt;have hE:=ha.out.H2.lt;have H4:A2.heap.size≠h0:=by omega
    have u1':=qa0 (p:=⟨h0,z.w,none⟩) (q:=⟨A2.heap.size,1,none⟩) (u:=.int .i64 (Fx.add (Ly.at_ W0 z.w) (Fx.mul (Ly.at_ g.c z.o) (Ly.at_ x.c z.x)))) u1 H4;have u2':=qa0 (p:=⟨h0,z.w,none⟩) (q:=⟨A2.heap.size,2,none⟩) (u:=.int .i64 (Fx.add (Ly.at_ W0 z.w) (Fx.mul (Ly.at_ g.c z.o) (Ly.at_ x.c z.x)))) u2 H4;have GR:=hX.putX z.x (Fx.add (Ly.at_ X0 z.x) (Fx.mul (Ly.at_ g.c z.o) (Ly.at_ t.c z.w)));have m1:=λ(V:Zp1)=>qaA (Ly.at_ g.c z.o) (Ly.at_ x.c z.x) V g7 GK
    have m2:=λ(V:Zp1)=>qaA (Ly.at_ g.c z.o) (Ly.at_ t.c z.w) V g7 GW
    have a1:=λ(V:Zp1)=>qaM (Ly.at_ W0 z.w) (Fx.mul (Ly.at_ g.c z.o) (Ly.at_ x.c z.x)) V GA (Fx.mul_in _ _)
    have a2:=λ(V:Zp1)=>qaM (Ly.at_ X0 z.x) (Fx.mul (Ly.at_ g.c z.o) (Ly.at_ t.c z.w)) V Gl (Fx.mul_in _ _)
    have lo:=hC.lo;have kc:=ha.out.kg.lt;have n1:w.heap.size+2≠h0:=qa4 hC.kg hC.H0 dZ;have n2:w.heap.size+1≠h0:=qa4 hC.kx hC.H0 dZ;have n3:pa≠h0:=qa4 hC.ka hC.H0 dZ;have n4:bx≠h0:=by omega
    have n5:bt≠h2:=by omega
    have n6:w.heap.size≠h2:=qa4 hC.kw hC.H2 dZ;have n7:pb≠h2:=qa4 hC.kb hC.H2 dZ;have n8:A2.heap.size≠h2:=by omega
    generalize Ly.at_ g.c z.o=gv at *;generalize Ly.at_ x.c z.x=xv at *;generalize Ly.at_ t.c z.w=tv at *;generalize Ly.at_ W0 z.w=wv at *;generalize Ly.at_ X0 z.x=Xv at *;obtain ⟨zo,zw,zx⟩:=z;simp only at *;have k1:(zw:Int)<(t.c.length:Int):=by omega
    have k2:(zx:Int)<(x.c.length:Int):=by omega
    have k3:(zo:Int)<(g.c.length:Int):=by omega
    obtain ⟨kC,kI⟩:=zd2 gx hT;clear gx hT hs gJ Gg HV g8 g7 GK GW GA Gl gN ko Gv gT HH;obtain ⟨HC,kB,gH,GB,gK,Gk,gQ⟩:=zd7 hC hX GR m1 m2 a1 a2;clear hC hX GR m1 m2 a1 a2
    gi_wp2_with (rw [Oper.semAt_eq _ _ _ (λc h=>by cases h)];go_simp;try go_bits)
    clear vg u0 ug;have KF:=zI (show ∀Xw,Later A3 Xw->Xw.cell? ⟨A2.heap.size,1,none⟩=some (.int .i64 zw)/\Xw.cell? ⟨A2.heap.size,2,none⟩=some (.int .i64 zx)/\Xw.cell? ⟨w.heap.size+1,1,none⟩=some (.slice (some ⟨bx,ox,none⟩) x.c.length d')/\Xw.cell? ⟨pa,0,none⟩=some (.slice (some ⟨h0,0,none⟩) t.c.length t.c.length)/\Xw.cell? ⟨bx,ox+zx,none⟩=some (.int .i64 xv) from λXw h=>⟨h.cell u1,h.cell u2,h.cell ux,h.cell ua,h.cell vx⟩);refine qag (S:=λXw=>Xw.cell? ⟨A2.heap.size,1,none⟩=some (.int .i64 zw)/\Xw.cell? ⟨A2.heap.size,2,none⟩=some (.int .i64 zx)/\Xw.cell? ⟨w.heap.size+1,1,none⟩=some (.slice (some ⟨bx,ox,none⟩) x.c.length d')/\Xw.cell? ⟨pa,0,none⟩=some (.slice (some ⟨h0,0,none⟩) t.c.length t.c.length)/\Xw.cell? ⟨bx,ox+zx,none⟩=some (.int .i64 xv)) krZ krZ (KF.out _ Lau) (λhHeld=>?_);refine tk 0 ?_;refine tk 1 ?_;refine tk 2 ?_;refine tk 3 ?_;refine tk 4 ?_;refine tk 5 ?_;refine tk 6 ?_;refine tk 8 ?_;refine tk 9 ?_;refine tk 10 ?_;refine tk 11 ?_;refine tk 12 ?_;refine tk 13 ?_;refine tk 14 ?_;refine Zo1 (rs:=[7,15]) krZ sZ ?_;refine Zf1 (o:=_) rfl (λK hK=>?_) (Zf1 (o:=_) rfl (λK hK=>?_) (Zg1))
    ·simp only [ga,gs,gz]
     go_simp
     refine hK.out _ _ (KF.out _ Lau) (λhHeld=>?_);clear hK K
     try simp only [ga,gs,gz,Act.put,sa,sz,ss]
     refine rd 15 λK hK=>?_
     simp only [ga,gs,gz]
     go_simp
     go_at_call 54;(with_reducible refine (GB.out _).mono ?_);rintro e wb ⟨rfl,rfl⟩
     try go_wp2_with fail
     refine hK.out _ _ (KF.out _ Lau) (λhHeld=>?_);clear hK K
     try simp only [ga,gs,gz,Act.put,sa,sz,ss]
     refine rd 16 λK hK=>?_
     simp only [ga,gs,gz]
     go_simp
     go_at_call 55;(with_reducible refine (Gk.out _).mono ?_);rintro e wb2 ⟨rfl,rfl⟩
     try go_wp2_with fail
     refine hK.out _ _ (KF.out _ Lau) (λhHeld=>?_);clear hK K
     try simp only [ga,gs,gz,Act.put,sa,sz,ss]
     refine tk 17 ?_;refine rd 18 λK hK=>?_
     simp only [ga,gs,gz]
     go_simp
     refine hK.out _ _ ?_ (λhHeld=>?_)
     ·(try dsimp only);(refine ⟨?_,?_,?_,?_,?_⟩<;>(repeat (refine qa0 ?_ (by first|omega|(simp;done)|(simp;omega))))<;>(refine Later.cell (Lau:Later A3 _) ?_)<;>assumption)
     clear hK K
     try simp only [ga,gs,gz,Act.put,sa,sz,ss]
     clear KF;refine Zn1 krZ ?_ _;refine Zd1 ?_;refine OnlyNormal.mk ?_;clear hHeld u1 u2 ux ua vx vw vf
     gi_wp2_with fail
     have gb:Above w11.heap.size A3 (A3.setCell ⟨h0,zw,none⟩ (.int .i64 (Fx.add wv (Fx.mul gv xv)))):=Above.setCell (p:=⟨h0,zw,none⟩) GT _;have gD:=zI gb;clear gb;generalize A3.setCell ⟨h0,zw,none⟩ (.int .i64 (Fx.add wv (Fx.mul gv xv)))=B1 at *;have KF:=zI (show ∀Xw,Later B1 Xw->Xw.cell? ⟨A2.heap.size,1,none⟩=some (.int .i64 zw)/\Xw.cell? ⟨A2.heap.size,2,none⟩=some (.int .i64 zx)/\Xw.cell? ⟨w.heap.size,1,none⟩=some (.slice (some ⟨bt,ot,none⟩) t.c.length d)/\Xw.cell? ⟨pb,0,none⟩=some (.slice (some ⟨h2,0,none⟩) x.c.length x.c.length)/\Xw.cell? ⟨bt,ot+zw,none⟩=some (.int .i64 tv) from λXw h=>⟨h.cell u1',h.cell u2',h.cell ut,h.cell ub,h.cell vt⟩);refine qag (S:=λXw=>Xw.cell? ⟨A2.heap.size,1,none⟩=some (.int .i64 zw)/\Xw.cell? ⟨A2.heap.size,2,none⟩=some (.int .i64 zx)/\Xw.cell? ⟨w.heap.size,1,none⟩=some (.slice (some ⟨bt,ot,none⟩) t.c.length d)/\Xw.cell? ⟨pb,0,none⟩=some (.slice (some ⟨h2,0,none⟩) x.c.length x.c.length)/\Xw.cell? ⟨bt,ot+zw,none⟩=some (.int .i64 tv)) krZ krZ (KF.out _ Lau) (λhHeld=>?_);refine tk 0 ?_;refine tk 1 ?_;refine tk 2 ?_;refine tk 3 ?_;refine tk 4 ?_;refine tk 5 ?_;refine tk 6 ?_;refine tk 8 ?_;refine tk 9 ?_;refine tk 10 ?_;refine tk 11 ?_;refine tk 12 ?_;refine tk 13 ?_;refine tk 14 ?_;refine Zo1 (rs:=[7,15]) krZ sZ ?_;refine Zf1 (o:=_) rfl (λK hK=>?_) (Zf1 (o:=_) rfl (λK hK=>?_) (Zg1))
     ·simp only [ga,gs,gz]
      go_simp
      refine hK.out _ _ (KF.out _ Lau) (λhHeld=>?_);clear hK K
      try simp only [ga,gs,gz,Act.put,sa,sz,ss]
      refine rd 15 λK hK=>?_
      simp only [ga,gs,gz]
      go_simp
      go_at_call 54;(with_reducible refine (gK.out _).mono ?_);rintro e wb3 ⟨rfl,rfl⟩
      try go_wp2_with fail
      refine hK.out _ _ (KF.out _ Lau) (λhHeld=>?_);clear hK K
      try simp only [ga,gs,gz,Act.put,sa,sz,ss]
      refine rd 16 λK hK=>?_
      simp only [ga,gs,gz]
      go_simp
      go_at_call 55;(with_reducible refine (gQ.out _).mono ?_);rintro e wb4 ⟨rfl,rfl⟩
      try go_wp2_with fail
      refine hK.out _ _ (KF.out _ Lau) (λhHeld=>?_);clear hK K
      try simp only [ga,gs,gz,Act.put,sa,sz,ss]
      refine tk 17 ?_;refine rd 18 λK hK=>?_
      simp only [ga,gs,gz]
      go_simp
      refine hK.out _ _ ?_ (λhHeld=>?_)
      ·(try dsimp only);(refine ⟨?_,?_,?_,?_,?_⟩<;>(repeat (refine qa0 ?_ (by first|omega|(simp;done)|(simp;omega))))<;>(refine Later.cell (Lau:Later B1 _) ?_)<;>assumption)
      clear hK K
      try simp only [ga,gs,gz,Act.put,sa,sz,ss]
      clear KF;refine Zn1 krZ ?_ _;refine Zd1 ?_;refine OnlyNormal.mk ?_;clear hHeld u1' u2' ut ub vt vX vXf
      gi_wp2_with fail
      exact ⟨Above.trans gD.out (Above.setCell (p:=⟨h2,zx,none⟩) hE _),gH.out.to Lau⟩
     ·simp only [ga,gs,gz]
      go_simp
      go_at_call 54;(with_reducible refine (gK.out _).mono ?_);rintro e wb3 ⟨rfl,rfl⟩
      try go_wp2_with fail
      refine hK.out _ _ (KF.out _ Lau) (λhHeld=>?_);clear hK K
      try simp only [ga,gs,gz,Act.put,sa,sz,ss]
      refine rd 7 λK hK=>?_
      simp only [ga,gs,gz]
      go_simp
      refine hK.out _ _ (KF.out _ Lau) (λhHeld=>?_);clear hK K
      try simp only [ga,gs,gz,Act.put,sa,sz,ss]
      refine rd 16 λK hK=>?_
      simp only [ga,gs,gz]
      go_simp
      go_at_call 55;(with_reducible refine (gQ.out _).mono ?_);rintro e wb4 ⟨rfl,rfl⟩
      try go_wp2_with fail
      refine hK.out _ _ (KF.out _ Lau) (λhHeld=>?_);clear hK K
      try simp only [ga,gs,gz,Act.put,sa,sz,ss]
      refine tk 17 ?_;refine rd 18 λK hK=>?_
      simp only [ga,gs,gz]
      go_simp
      refine hK.out _ _ ?_ (λhHeld=>?_)
      ·(try dsimp only);(refine ⟨?_,?_,?_,?_,?_⟩<;>(repeat (refine qa0 ?_ (by first|omega|(simp;done)|(simp;omega))))<;>(refine Later.cell (Lau:Later B1 _) ?_)<;>assumption)
      clear hK K
      try simp only [ga,gs,gz,Act.put,sa,sz,ss]
      clear KF;refine Zn1 krZ ?_ _;refine Zd1 ?_;refine OnlyNormal.mk ?_;clear hHeld u1' u2' ut ub vt vX vXf
      gi_wp2_with fail
      exact ⟨Above.trans gD.out (Above.setCell (p:=⟨h2,zx,none⟩) hE _),gH.out.to Lau⟩
    ·simp only [ga,gs,gz]
     go_simp
     go_at_call 54;(with_reducible refine (GB.out _).mono ?_);rintro e wb ⟨rfl,rfl⟩
     try go_wp2_with fail
     refine hK.out _ _ (KF.out _ Lau) (λhHeld=>?_);clear hK K
     try simp only [ga,gs,gz,Act.put,sa,sz,ss]
     refine rd 7 λK hK=>?_
     simp only [ga,gs,gz]
     go_simp
     refine hK.out _ _ (KF.out _ Lau) (λhHeld=>?_);clear hK K
     try simp only [ga,gs,gz,Act.put,sa,sz,ss]
     refine rd 16 λK hK=>?_
     simp only [ga,gs,gz]
     go_simp
     go_at_call 55;(with_reducible refine (Gk.out _).mono ?_);rintro e wb2 ⟨rfl,rfl⟩
     try go_wp2_with fail
     refine hK.out _ _ (KF.out _ Lau) (λhHeld=>?_);clear hK K
     try simp only [ga,gs,gz,Act.put,sa,sz,ss]
     refine tk 17 ?_;refine rd 18 λK hK=>?_
     simp only [ga,gs,gz]
     go_simp
     refine hK.out _ _ ?_ (λhHeld=>?_)
     ·(try dsimp only);(refine ⟨?_,?_,?_,?_,?_⟩<;>(repeat (refine qa0 ?_ (by first|omega|(simp;done)|(simp;omega))))<;>(refine Later.cell (Lau:Later A3 _) ?_)<;>assumption)
     clear hK K
     try simp only [ga,gs,gz,Act.put,sa,sz,ss]
     clear KF;refine Zn1 krZ ?_ _;refine Zd1 ?_;refine OnlyNormal.mk ?_;clear hHeld u1 u2 ux ua vx vw vf
     gi_wp2_with fail
     have gb:Above w11.heap.size A3 (A3.setCell ⟨h0,zw,none⟩ (.int .i64 (Fx.add wv (Fx.mul gv xv)))):=Above.setCell (p:=⟨h0,zw,none⟩) GT _;have gD:=zI gb;clear gb;generalize A3.setCell ⟨h0,zw,none⟩ (.int .i64 (Fx.add wv (Fx.mul gv xv)))=B1 at *;have KF:=zI (show ∀Xw,Later B1 Xw->Xw.cell? ⟨A2.heap.size,1,none⟩=some (.int .i64 zw)/\Xw.cell? ⟨A2.heap.size,2,none⟩=some (.int .i64 zx)/\Xw.cell? ⟨w.heap.size,1,none⟩=some (.slice (some ⟨bt,ot,none⟩) t.c.length d)/\Xw.cell? ⟨pb,0,none⟩=some (.slice (some ⟨h2,0,none⟩) x.c.length x.c.length)/\Xw.cell? ⟨bt,ot+zw,none⟩=some (.int .i64 tv) from λXw h=>⟨h.cell u1',h.cell u2',h.cell ut,h.cell ub,h.cell vt⟩);refine qag (S:=λXw=>Xw.cell? ⟨A2.heap.size,1,none⟩=some (.int .i64 zw)/\Xw.cell? ⟨A2.heap.size,2,none⟩=some (.int .i64 zx)/\Xw.cell? ⟨w.heap.size,1,none⟩=some (.slice (some ⟨bt,ot,none⟩) t.c.length d)/\Xw.cell? ⟨pb,0,none⟩=some (.slice (some ⟨h2,0,none⟩) x.c.length x.c.length)/\Xw.cell? ⟨bt,ot+zw,none⟩=some (.int .i64 tv)) krZ krZ (KF.out _ Lau) (λhHeld=>?_);refine tk 0 ?_;refine tk 1 ?_;refine tk 2 ?_;refine tk 3 ?_;refine tk 4 ?_;refine tk 5 ?_;refine tk 6 ?_;refine tk 8 ?_;refine tk 9 ?_;refine tk 10 ?_;refine tk 11 ?_;refine tk 12 ?_;refine tk 13 ?_;refine tk 14 ?_;refine Zo1 (rs:=[7,15]) krZ sZ ?_;refine Zf1 (o:=_) rfl (λK hK=>?_) (Zf1 (o:=_) rfl (λK hK=>?_) (Zg1))
     ·simp only [ga,gs,gz]
      go_simp
      refine hK.out _ _ (KF.out _ Lau) (λhHeld=>?_);clear hK K
      try simp only [ga,gs,gz,Act.put,sa,sz,ss]
      refine rd 15 λK hK=>?_
      simp only [ga,gs,gz]
      go_simp
      go_at_call 54;(with_reducible refine (gK.out _).mono ?_);rintro e wb3 ⟨rfl,rfl⟩
      try go_wp2_with fail
      refine hK.out _ _ (KF.out _ Lau) (λhHeld=>?_);clear hK K
      try simp only [ga,gs,gz,Act.put,sa,sz,ss]
      refine rd 16 λK hK=>?_
      simp only [ga,gs,gz]
      go_simp
      go_at_call 55;(with_reducible refine (gQ.out _).mono ?_);rintro e wb4 ⟨rfl,rfl⟩
      try go_wp2_with fail
      refine hK.out _ _ (KF.out _ Lau) (λhHeld=>?_);clear hK K
      try simp only [ga,gs,gz,Act.put,sa,sz,ss]
      refine tk 17 ?_;refine rd 18 λK hK=>?_
      simp only [ga,gs,gz]
      go_simp
      refine hK.out _ _ ?_ (λhHeld=>?_)
      ·(try dsimp only);(refine ⟨?_,?_,?_,?_,?_⟩<;>(repeat (refine qa0 ?_ (by first|omega|(simp;done)|(simp;omega))))<;>(refine Later.cell (Lau:Later B1 _) ?_)<;>assumption)
      clear hK K
      try simp only [ga,gs,gz,Act.put,sa,sz,ss]
      clear KF;refine Zn1 krZ ?_ _;refine Zd1 ?_;refine OnlyNormal.mk ?_;clear hHeld u1' u2' ut ub vt vX vXf
      gi_wp2_with fail
      exact ⟨Above.trans gD.out (Above.setCell (p:=⟨h2,zx,none⟩) hE _),gH.out.to Lau⟩
     ·simp only [ga,gs,gz]
      go_simp
      go_at_call 54;(with_reducible refine (gK.out _).mono ?_);rintro e wb3 ⟨rfl,rfl⟩
      try go_wp2_with fail
      refine hK.out _ _ (KF.out _ Lau) (λhHeld=>?_);clear hK K
      try simp only [ga,gs,gz,Act.put,sa,sz,ss]
      refine rd 7 λK hK=>?_
      simp only [ga,gs,gz]
      go_simp
      refine hK.out _ _ (KF.out _ Lau) (λhHeld=>?_);clear hK K
      try simp only [ga,gs,gz,Act.put,sa,sz,ss]
      refine rd 16 λK hK=>?_
      simp only [ga,gs,gz]
      go_simp
      go_at_call 55;(with_reducible refine (gQ.out _).mono ?_);rintro e wb4 ⟨rfl,rfl⟩
      try go_wp2_with fail
      refine hK.out _ _ (KF.out _ Lau) (λhHeld=>?_);clear hK K
      try simp only [ga,gs,gz,Act.put,sa,sz,ss]
      refine tk 17 ?_;refine rd 18 λK hK=>?_
      simp only [ga,gs,gz]
      go_simp
      refine hK.out _ _ ?_ (λhHeld=>?_)
      ·(try dsimp only);(refine ⟨?_,?_,?_,?_,?_⟩<;>(repeat (refine qa0 ?_ (by first|omega|(simp;done)|(simp;omega))))<;>(refine Later.cell (Lau:Later B1 _) ?_)<;>assumption)
      clear hK K
      try simp only [ga,gs,gz,Act.put,sa,sz,ss]
      clear KF;refine Zn1 krZ ?_ _;refine Zd1 ?_;refine OnlyNormal.mk ?_;clear hHeld u1' u2' ut ub vt vX vXf
      gi_wp2_with fail
      exact ⟨Above.trans gD.out (Above.setCell (p:=⟨h2,zx,none⟩) hE _),gH.out.to Lau⟩
   case hdone=>
    rintro D W H hD hK;obtain ⟨wl,wi⟩:=Ly.convW_facts g.c x.c t.c.length fr.all;obtain ⟨xl,xi⟩:=Ly.convX_facts g.c t.c x.c.length fr.all;have Gf:=HE.out;rw [hT] at Gf;generalize Ly.convW g.c x.c fr.all t.c.length=W0 at *;generalize Ly.convX g.c t.c fr.all x.c.length=X0 at *;obtain ⟨o0,o1,o2,o3,-⟩:=qab H.ke;obtain ⟨c0,c1,c2,c3,f0,f1,f2,f3⟩:=qab H.kz;have hV:=qbZ (u0:=(.slice (some ⟨g0,0,none⟩) t.s.length t.s.length)) (u1:=(.slice (some ⟨h0,0,none⟩) t.c.length t.c.length)) (u2:=(.slice (some ⟨g2,0,none⟩) x.s.length x.s.length)) (u3:=(.slice (some ⟨h2,0,none⟩) x.c.length x.c.length)) H.kz;obtain ⟨d0,d1,d2,d3,-⟩:=qab hV;have Hq:=qbi (.slice (some ⟨g0,0,none⟩) t.s.length t.s.length) (.slice (some ⟨h0,0,none⟩) t.c.length t.c.length) (.slice (some ⟨g2,0,none⟩) x.s.length x.s.length) (.slice (some ⟨h2,0,none⟩) x.c.length x.c.length) (w.heap.size+3) W;have kD:=ha.out.kz.lt;have m1:w.heap.size+3≠D:=by omega
    have g9:=(Hq.1 D (Ne.symm m1)).trans hK;have lo:=H.lo;have y0:g0≠D:=by have:=ha.out.G0.lt;omega
    have y1:h0≠D:=by have:=ha.out.H0.lt;omega
    have y2:g2≠D:=by have:=ha.out.G2.lt;omega
    have y3:h2≠D:=by have:=ha.out.H2.lt;omega
    have j0:=Hq.blk (qa4 H.G0 H.kz dZ) H.G0;have j1:=Hq.blk (qa4 H.H0 H.kz dZ) H.H0;have j2:=Hq.blk (qa4 H.G2 H.kz dZ) H.G2;have j3:=Hq.blk (qa4 H.H2 H.kz dZ) H.H2;have j4:Later w (four (.slice (some ⟨g0,0,none⟩) t.s.length t.s.length) (.slice (some ⟨h0,0,none⟩) t.c.length t.c.length) (.slice (some ⟨g2,0,none⟩) x.s.length x.s.length) (.slice (some ⟨h2,0,none⟩) x.c.length x.c.length) (w.heap.size+3) W):=Hq.below H.later oZ;have kh:w.heap.size<=D:=by omega
    unfold four at d0 d1 d2 d3 g9 j0 j1 j2 j3 j4;clear Hq hV hs gJ gx hT;obtain ⟨HH,HK,kn,G3,GN,HA,HJ,kk,G4⟩:=zd9 H hK g9 wi xi wl xl j0 j1;obtain ⟨ks,km,G9,kq,ki,ky,kv,kj⟩:=zd8 j2 j3 j4 Gf d0 d1 d2 d3;clear H hK g9 wi xi wl xl j0 j1 j2 j3 j4 Gf d0 d1 d2 d3;go_wp2_with fail;refine ⟨by simp,.inl ⟨_,_,rfl,run_takeDeferred kn.out,?_⟩⟩;have e0:=(Zi1 (World.putObj_heap_other (o:=.deferred none) (w:=(((W.setCell ⟨w.heap.size+3,0,none⟩ (.slice (some ⟨g0,0,none⟩) t.s.length t.s.length)).setCell ⟨w.heap.size+3,1,none⟩ (.slice (some ⟨h0,0,none⟩) t.c.length t.c.length)).setCell ⟨w.heap.size+3,2,none⟩ (.slice (some ⟨g2,0,none⟩) x.s.length x.s.length)).setCell ⟨w.heap.size+3,3,none⟩ (.slice (some ⟨h2,0,none⟩) x.c.length x.c.length)) m1)).trans ki.out;have e1:=(Zi1 (World.putObj_heap_other (o:=.deferred none) (w:=(((W.setCell ⟨w.heap.size+3,0,none⟩ (.slice (some ⟨g0,0,none⟩) t.s.length t.s.length)).setCell ⟨w.heap.size+3,1,none⟩ (.slice (some ⟨h0,0,none⟩) t.c.length t.c.length)).setCell ⟨w.heap.size+3,2,none⟩ (.slice (some ⟨g2,0,none⟩) x.s.length x.s.length)).setCell ⟨w.heap.size+3,3,none⟩ (.slice (some ⟨h2,0,none⟩) x.c.length x.c.length)) m1)).trans ky.out;have e2:=(Zi1 (World.putObj_heap_other (o:=.deferred none) (w:=(((W.setCell ⟨w.heap.size+3,0,none⟩ (.slice (some ⟨g0,0,none⟩) t.s.length t.s.length)).setCell ⟨w.heap.size+3,1,none⟩ (.slice (some ⟨h0,0,none⟩) t.c.length t.c.length)).setCell ⟨w.heap.size+3,2,none⟩ (.slice (some ⟨g2,0,none⟩) x.s.length x.s.length)).setCell ⟨w.heap.size+3,3,none⟩ (.slice (some ⟨h2,0,none⟩) x.c.length x.c.length)) m1)).trans kv.out;have e3:=(Zi1 (World.putObj_heap_other (o:=.deferred none) (w:=(((W.setCell ⟨w.heap.size+3,0,none⟩ (.slice (some ⟨g0,0,none⟩) t.s.length t.s.length)).setCell ⟨w.heap.size+3,1,none⟩ (.slice (some ⟨h0,0,none⟩) t.c.length t.c.length)).setCell ⟨w.heap.size+3,2,none⟩ (.slice (some ⟨g2,0,none⟩) x.s.length x.s.length)).setCell ⟨w.heap.size+3,3,none⟩ (.slice (some ⟨h2,0,none⟩) x.c.length x.c.length)) m1)).trans kj.out
    have b0:Blk (((((W.setCell ⟨w.heap.size+3,0,none⟩ (.slice (some ⟨g0,0,none⟩) t.s.length t.s.length)).setCell ⟨w.heap.size+3,1,none⟩ (.slice (some ⟨h0,0,none⟩) t.c.length t.c.length)).setCell ⟨w.heap.size+3,2,none⟩ (.slice (some ⟨g2,0,none⟩) x.s.length x.s.length)).setCell ⟨w.heap.size+3,3,none⟩ (.slice (some ⟨h2,0,none⟩) x.c.length x.c.length)).putObj D (.deferred none)) g0 3 (t.s.map (Za1 .i64)).toArray:=(World.putObj_heap_other y0).trans kk.out;have b1:Blk (((((W.setCell ⟨w.heap.size+3,0,none⟩ (.slice (some ⟨g0,0,none⟩) t.s.length t.s.length)).setCell ⟨w.heap.size+3,1,none⟩ (.slice (some ⟨h0,0,none⟩) t.c.length t.c.length)).setCell ⟨w.heap.size+3,2,none⟩ (.slice (some ⟨g2,0,none⟩) x.s.length x.s.length)).setCell ⟨w.heap.size+3,3,none⟩ (.slice (some ⟨h2,0,none⟩) x.c.length x.c.length)).putObj D (.deferred none)) h0 22 (W0.map (Za1 .i64)).toArray:=(World.putObj_heap_other y1).trans G4.out;have b2:Blk (((((W.setCell ⟨w.heap.size+3,0,none⟩ (.slice (some ⟨g0,0,none⟩) t.s.length t.s.length)).setCell ⟨w.heap.size+3,1,none⟩ (.slice (some ⟨h0,0,none⟩) t.c.length t.c.length)).setCell ⟨w.heap.size+3,2,none⟩ (.slice (some ⟨g2,0,none⟩) x.s.length x.s.length)).setCell ⟨w.heap.size+3,3,none⟩ (.slice (some ⟨h2,0,none⟩) x.c.length x.c.length)).putObj D (.deferred none)) g2 3 (x.s.map (Za1 .i64)).toArray:=(World.putObj_heap_other y2).trans ks.out;have b3:Blk (((((W.setCell ⟨w.heap.size+3,0,none⟩ (.slice (some ⟨g0,0,none⟩) t.s.length t.s.length)).setCell ⟨w.heap.size+3,1,none⟩ (.slice (some ⟨h0,0,none⟩) t.c.length t.c.length)).setCell ⟨w.heap.size+3,2,none⟩ (.slice (some ⟨g2,0,none⟩) x.s.length x.s.length)).setCell ⟨w.heap.size+3,3,none⟩ (.slice (some ⟨h2,0,none⟩) x.c.length x.c.length)).putObj D (.deferred none)) h2 22 (X0.map (Za1 .i64)).toArray:=(World.putObj_heap_other y3).trans km.out;have b4:Later w (((((W.setCell ⟨w.heap.size+3,0,none⟩ (.slice (some ⟨g0,0,none⟩) t.s.length t.s.length)).setCell ⟨w.heap.size+3,1,none⟩ (.slice (some ⟨h0,0,none⟩) t.c.length t.c.length)).setCell ⟨w.heap.size+3,2,none⟩ (.slice (some ⟨g2,0,none⟩) x.s.length x.s.length)).setCell ⟨w.heap.size+3,3,none⟩ (.slice (some ⟨h2,0,none⟩) x.c.length x.c.length)).putObj D (.deferred none)):=Below.trans G9.out (qbh _ _ kh)
    simp only [Nat.add_assoc,Nat.reduceAdd];generalize ((((W.setCell ⟨w.heap.size+3,0,none⟩ (.slice (some ⟨g0,0,none⟩) t.s.length t.s.length)).setCell ⟨w.heap.size+3,1,none⟩ (.slice (some ⟨h0,0,none⟩) t.c.length t.c.length)).setCell ⟨w.heap.size+3,2,none⟩ (.slice (some ⟨g2,0,none⟩) x.s.length x.s.length)).setCell ⟨w.heap.size+3,3,none⟩ (.slice (some ⟨h2,0,none⟩) x.c.length x.c.length)).putObj D (.deferred none)=W4 at *;refine ⟨.tuple #[.agg #[.slice (some ⟨g0,0,none⟩) t.s.length t.s.length,.slice (some ⟨h0,0,none⟩) t.c.length t.c.length,.slice (some ⟨g2,0,none⟩) x.s.length x.s.length,.slice (some ⟨h2,0,none⟩) x.c.length x.c.length],.int .i64 0],by simp [results,Tryz.results13,go_sem,e0,e1,e2,e3],?_⟩;rw [kq.out];refine ⟨.inr ⟨rfl,_,_,_,_,_,_,_,_,by simp only [HA.out,HJ.out];rfl,?_,?_⟩,b4⟩
    ·exact qb6 (s:=t.s) (c:=W0) b0 b1 lo.1 lo.2.2.2.1 l1 (by have:=HA.out;omega) G3.out HA.out
    ·exact qb6 (s:=x.s) (c:=X0) b2 b3 lo.2.1 oZ l3 (by have:=HJ.out;omega) GN.out HJ.out
namespace Ly
theorem denseBack_none {w b x g:Ten} (h:(denseBack w b x g).2≠0):(denseBack w b x g).1=(none_,none_,none_):=by
 unfold denseBack at h ⊢
 split at h
 ·exact absurd rfl h
 ·rename_i h1
  rw [inZ h1]
theorem convBack_none {w x g:Ten} {st:Int} (h:(convBack w x g st).2≠0):(convBack w x g st).1=(none_,none_):=by
 unfold convBack at h ⊢
 split at h
 ·rename_i h1
  rw [ipZ h1]
  split at h
  ·exact absurd rfl h
  ·rename_i h2
   rw [inZ h2]
 ·rename_i h1
  rw [inZ h1]
end Ly
def GoDU (r:(Ten × Ten × Ten) × Int) (w:Zp1) (e:Ending) (w':Zp1):Prop:=
 ∃S0 c0 C0 d0 S1 c1 C1 d1 S2 c2 C2 d2,e=.returned (.tuple #[.agg #[.slice S0 r.1.1.s.length c0,.slice C0 r.1.1.c.length d0,.slice S1 r.1.2.1.s.length c1,.slice C1 r.1.2.1.c.length d1,.slice S2 r.1.2.2.s.length c2,.slice C2 r.1.2.2.c.length d2],.int .i64 r.2])/\
  (r.2=0->TenO w.heap.size w' (.agg #[.slice S0 r.1.1.s.length c0,.slice C0 r.1.1.c.length d0]) r.1.1/\TenO w.heap.size w' (.agg #[.slice S1 r.1.2.1.s.length c1,.slice C1 r.1.2.1.c.length d1]) r.1.2.1/\TenO w.heap.size w' (.agg #[.slice S2 r.1.2.2.s.length c2,.slice C2 r.1.2.2.c.length d2]) r.1.2.2)/\Below w.heap.size w w'
theorem GoD.u {r:(Ten × Ten × Ten) × Int} {w w':Zp1} {e:Ending} (h:GoD r w e w') (hn:r.2≠0->r.1=(Ly.none_,Ly.none_,Ly.none_)):GoDU r w e w':=by
 obtain ⟨⟨h1,rfl⟩|⟨h1,S0,c0,C0,d0,S1,c1,C1,d1,S2,c2,C2,d2,rfl,t0,t1,t2⟩,h2⟩:=h
 ·refine ⟨none,0,none,0,none,0,none,0,none,0,none,0,?_,λh=>absurd h h1,h2⟩
  rw [hn h1];rfl
 ·exact ⟨S0,c0,C0,d0,S1,c1,C1,d1,S2,c2,C2,d2,by rw [h1],λ_=>⟨t0,t1,t2⟩,h2⟩
def GoCU (r:(Ten × Ten) × Int) (w:Zp1) (e:Ending) (w':Zp1):Prop:=
 ∃S0 c0 C0 d0 S2 c2 C2 d2,e=.returned (.tuple #[.agg #[.slice S0 r.1.1.s.length c0,.slice C0 r.1.1.c.length d0,.slice S2 r.1.2.s.length c2,.slice C2 r.1.2.c.length d2],.int .i64 r.2])/\
  (r.2=0->TenO w.heap.size w' (.agg #[.slice S0 r.1.1.s.length c0,.slice C0 r.1.1.c.length d0]) r.1.1/\TenO w.heap.size w' (.agg #[.slice S2 r.1.2.s.length c2,.slice C2 r.1.2.c.length d2]) r.1.2)/\Below w.heap.size w w'
theorem GoC.u {r:(Ten × Ten) × Int} {w w':Zp1} {e:Ending} (h:GoC r w e w') (hn:r.2≠0->r.1=(Ly.none_,Ly.none_)):GoCU r w e w':=by
 obtain ⟨⟨h1,rfl⟩|⟨h1,S0,c0,C0,d0,S2,c2,C2,d2,rfl,t0,t2⟩,h2⟩:=h
 ·refine ⟨none,0,none,0,none,0,none,0,?_,λh=>absurd h h1,h2⟩
  rw [hn h1];rfl
 ·exact ⟨S0,c0,C0,d0,S2,c2,C2,d2,by rw [h1],λ_=>⟨t0,t2⟩,h2⟩
theorem TnsO.two {B p:Nat} {w:Zp1} {S0 C0 S1 C1:Option Addr} {c0 d0 c1 d1:Nat} {t u:Ten} {T:TypeId} (hb:Blk w p T #[.slice S0 t.s.length c0,.slice C0 t.c.length d0,.slice S1 u.s.length c1,.slice C1 u.c.length d1]) (hB:B<=p)
  (ht:TenO B w (.agg #[.slice S0 t.s.length c0,.slice C0 t.c.length d0]) t) (hu:TenO B w (.agg #[.slice S1 u.s.length c1,.slice C1 u.c.length d1]) u):TnsO B w (some ⟨p,0,none⟩) [t,u]:=by
 refine ⟨λa e=>?_,λj hj=>?_⟩
 ·injection e with e;subst e;exact ⟨p,rfl,hB,hb.lt,λk=>hb.frozen k⟩
 ·match j,hj with
  | 0,_=>exact ⟨p,S0,c0,C0,d0,rfl,hb.cell 0,hb.cell 1,ht⟩
  | 1,_=>exact ⟨p,S1,c1,C1,d1,rfl,hb.cell 2,hb.cell 3,hu⟩
  | n+2,h=>simp at h;omega
theorem qcK {w:Zp1} {p:Nat} {T:TypeId} (h:Blk w p T #[.slice none 0 0,.slice none 0 0,.slice none 0 0,.slice none 0 0,.slice none 0 0,.slice none 0 0]):∀k z,w.cell? ⟨p,k,none⟩≠some (.int .i64 z):=noint h (λk z=>by
 match k with
 | 0=>simp
 | 1=>simp
 | 2=>simp
 | 3=>simp
 | 4=>simp
 | 5=>simp
 | n+6=>simp)
namespace Ly
theorem layBack8 {o:OpD} {p x:List Ten} {g:Ten} (h:o.kind=8):layBack o p x g=if (Ly.denseBack (Ly.got p 0) (Ly.got p 1) (Ly.got x 0) g).2=0 then (⟨[(Ly.denseBack (Ly.got p 0) (Ly.got p 1) (Ly.got x 0) g).1.1,(Ly.denseBack (Ly.got p 0) (Ly.got p 1) (Ly.got x 0) g).1.2.1],[(Ly.denseBack (Ly.got p 0) (Ly.got p 1) (Ly.got x 0) g).1.2.2]⟩,0) else (bnone,(Ly.denseBack (Ly.got p 0) (Ly.got p 1) (Ly.got x 0) g).2):=by
 unfold layBack;rw [ipZ h]
end Ly
def OpCut8 (w w2:Zp1) (R:(Ten × Ten × Ten) × Int) (a b:Value) (wx:Zp1):Prop:=
 ∃tb U0 e0 V0 f0 U1 e1 V1 f1 U2 e2 V2 f2,a=.pointer (some ⟨tb,0,none⟩)/\b=.int .i64 R.2/\w2.heap.size<=tb/\Blk wx tb 42 #[.slice U0 R.1.1.s.length e0,.slice V0 R.1.1.c.length f0,.slice U1 R.1.2.1.s.length e1,.slice V1 R.1.2.1.c.length f1,.slice U2 R.1.2.2.s.length e2,.slice V2 R.1.2.2.c.length f2]/\(R.2=0->TenO w.heap.size wx (.agg #[.slice U0 R.1.1.s.length e0,.slice V0 R.1.1.c.length f0]) R.1.1/\TenO w.heap.size wx (.agg #[.slice U1 R.1.2.1.s.length e1,.slice V1 R.1.2.1.c.length f1]) R.1.2.1/\TenO w.heap.size wx (.agg #[.slice U2 R.1.2.2.s.length e2,.slice V2 R.1.2.2.c.length f2]) R.1.2.2)/\Later w2 wx
set_option maxRecDepth 20000 in
theorem op_back8 (o:OpD) (S P X GS GC:Option Addr) (c cp cx gc gd:Nat) (p x:List Ten) (g:Ten) (w:Zp1) (hk:o.kind=8) (ho:o.s.length<=1048576) (hI:Ints .i64 w S o.s) (hP:Tns w P p) (hX:Tns w X x) (hG:TenIn w GS GC gc gd g) (hc:Od.counts o p.length x.length=0):
  Calls Tryz.prog 11 #[.agg #[.int .i64 o.kind,.int .i64 o.k,.int .i64 o.width,.int .i64 o.step,.int .i64 o.side,.int .i64 o.frm,.int .i64 o.to,.slice S o.s.length c],.slice P p.length cp,.slice X x.length cx,.agg #[.slice GS g.s.length gc,.slice GC g.c.length gd]] w (GoB (Ly.layBack o p x g) w):=by
 obtain ⟨w1,e1,hu,hA,hO,hU⟩:=qax w o S c GS GC gc gd g;have hm:=Ly.counts_ok hc;unfold Od.least Od.most Od.params at hm;have hS:p.length=2:=by have:=hm.1;have h3:=hm.2.2.2;rw [ipZ this] at h3;simp [hk] at h3;omega
 have hT:x.length=1:=by have:=hm.1;have h1:=hm.2.1;have h2:=hm.2.2.1;rw [ipZ this] at h1 h2;simp [hk] at h1 h2;omega
 have HE:=zI (Ly.layBack8 (p:=p) (x:=x) (g:=g) hk);obtain ⟨HC,hL,hZ,Hk⟩:=zd4 hc hS hT hk;clear hm hc hS hT hk;obtain ⟨HI,HP,HX,HG,hD,hr,hx,h4,hY⟩:=zd9 hI hP hX hG hU hu hA hO e1;clear hI hP hX hG hU hu hA hO e1;go_enter Tryz.func11,Tryz.ntmps11;go_wp2_with fail;rw [hY.out];clear hY;refine (qat o S c p.length x.length w1 oZ (HI.out.below hD.out (lrZ _))).mono ?_;rintro e w2 ⟨rfl,hq⟩;rw [HC.out];have hv:Later w1 w2:=hq;have hH:=hD.out.trans hv;have hz:=hv.blk h4.out;have h7:=hv.blk hr.out;have h8:=hv.blk hx.out;clear hq hv hD h4 hr hx;obtain ⟨HH,Hz,Hc,hN⟩:=zd4 hH hz h7 h8;clear hH hz h7 h8;obtain ⟨bp,po,S0,c0,C0,d0,rfl,lbp,p00,p01,hQ⟩:=HP.out.at_ (j:=0) (by have:=hL.out;omega);obtain ⟨bp2,po2,S1,c1,C1,d1,ep,-,p10,p11,hW⟩:=HP.out.at_ (j:=1) (by have:=hL.out;omega);injection ep with ep;injection ep with ep1 ep2;subst ep1 ep2
 obtain ⟨bx,xo,S2,c2,C2,d2,rfl,lbx,x00,x01,h6⟩:=HX.out.at_ (j:=0) (by have:=hZ.out;omega);have hi:=λ(W:Zp1) (h:Later w2 W)=>(qfs S0 C0 S1 C1 S2 C2 GS GC c0 d0 c1 d1 c2 d2 gc gd (Ly.got p 0) (Ly.got p 1) (Ly.got x 0) g W (hQ.later (HH.out.trans h)) (hW.later (HH.out.trans h)) (h6.later (HH.out.trans h)) (HG.out.later (HH.out.trans h))).mono (λe w' q=>q.u Ly.denseBack_none)
 have hE:=HE.out;obtain ⟨R,hR⟩:∃R,Ly.denseBack (Ly.got p 0) (Ly.got p 1) (Ly.got x 0) g=R:=⟨_,rfl⟩
 rw [hR] at hE;have hb:∀W,Later w2 W->Calls Tryz.prog 12 _ W (GoDU R W):=hR▸hi;have q1:w2.cell? ⟨bp,po,none⟩=some (.slice S0 (Ly.got p 0).s.length c0):=HH.out.cell (by simpa using p00);have q2:w2.cell? ⟨bp,po+1,none⟩=some (.slice C0 (Ly.got p 0).c.length d0):=HH.out.cell (by simpa using p01);have q3:w2.cell? ⟨bp,po+2,none⟩=some (.slice S1 (Ly.got p 1).s.length c1):=HH.out.cell (by simpa using p10);have q4:w2.cell? ⟨bp,po+2+1,none⟩=some (.slice C1 (Ly.got p 1).c.length d1):=HH.out.cell (by simpa using p11);have q5:w2.cell? ⟨bx,xo,none⟩=some (.slice S2 (Ly.got x 0).s.length c2):=HH.out.cell (by simpa using x00);have q6:w2.cell? ⟨bx,xo+1,none⟩=some (.slice C2 (Ly.got x 0).c.length d2):=HH.out.cell (by simpa using x01);have q7:w2.cell? ⟨w.heap.size+1,0,none⟩=some (.slice GS g.s.length gc):=by rw [hN.out.cell];rfl
 have q8:w2.cell? ⟨w.heap.size+1,1,none⟩=some (.slice GC g.c.length gd):=by rw [hN.out.cell];rfl
 have x0:w2.cell? ⟨w.heap.size,0,none⟩=some (.int .i64 8):=by rw [Hc.out.cell,←Hk.out];rfl
 have Hi:=HH.out.size;have Hl:=Hz.out.lt;rw [hZ.out,hL.out];clear hR hi p00 p01 hQ p10 p11 hW x00 x01 h6 HE;obtain ⟨ha,HE⟩:=zd2 hb hE;clear hb hE;go_upto_region 6 with fail;clear x0
 go_cut [11,12] (OpCut8 w w2 R)
 case first=>
  go_wp2_with fail;have KF:=zI (show ∀Xw,Later w2 Xw->Xw.cell? ⟨bp,po,none⟩=some (.slice S0 (Ly.got p 0).s.length c0)/\Xw.cell? ⟨bp,po+1,none⟩=some (.slice C0 (Ly.got p 0).c.length d0)/\Xw.cell? ⟨bp,po+2,none⟩=some (.slice S1 (Ly.got p 1).s.length c1)/\Xw.cell? ⟨bp,po+2+1,none⟩=some (.slice C1 (Ly.got p 1).c.length d1)/\Xw.cell? ⟨bx,xo,none⟩=some (.slice S2 (Ly.got x 0).s.length c2)/\Xw.cell? ⟨bx,xo+1,none⟩=some (.slice C2 (Ly.got x 0).c.length d2)/\Xw.cell? ⟨w.heap.size+1,0,none⟩=some (.slice GS g.s.length gc)/\Xw.cell? ⟨w.heap.size+1,1,none⟩=some (.slice GC g.c.length gd) from λXw h=>⟨h.cell q1,h.cell q2,h.cell q3,h.cell q4,h.cell q5,h.cell q6,h.cell q7,h.cell q8⟩);refine Zm1 ?_;refine Zl1 (S:=λXw=>Xw.cell? ⟨bp,po,none⟩=some (.slice S0 (Ly.got p 0).s.length c0)/\Xw.cell? ⟨bp,po+1,none⟩=some (.slice C0 (Ly.got p 0).c.length d0)/\Xw.cell? ⟨bp,po+2,none⟩=some (.slice S1 (Ly.got p 1).s.length c1)/\Xw.cell? ⟨bp,po+2+1,none⟩=some (.slice C1 (Ly.got p 1).c.length d1)/\Xw.cell? ⟨bx,xo,none⟩=some (.slice S2 (Ly.got x 0).s.length c2)/\Xw.cell? ⟨bx,xo+1,none⟩=some (.slice C2 (Ly.got x 0).c.length d2)/\Xw.cell? ⟨w.heap.size+1,0,none⟩=some (.slice GS g.s.length gc)/\Xw.cell? ⟨w.heap.size+1,1,none⟩=some (.slice GC g.c.length gd)) krZ (KF.out _ Lau) (λhHeld=>?_);refine tk 0 ?_;refine tk 1 ?_;refine tk 2 ?_;refine tk 3 ?_;refine tk 4 ?_;refine tk 5 ?_;refine tk 6 ?_;refine tk 7 ?_;refine tk 8 ?_;refine tk 9 ?_;refine Zo1 (rs:=[10,14]) krZ sZ ?_;refine Zf1 (o:=_) rfl (λK hK=>?_) (Zf1 (o:=_) rfl (λK hK=>?_) (Zg1))
  ·simp only [ga,gs,gz]
   go_simp
   go_at_call 12
   (with_reducible refine (ha.out _ (Lau:Later w2 _)).mono ?_)
   rintro e wf ⟨U0,e0,V0,f0,U1,e1,V1,f1,U2,e2,V2,f2,rfl,he,h0⟩;have hh:=zI he;clear he
   try go_wp2_with fail
   refine hK.out _ _ (KF.out _ Lau) (λhHeld=>?_);clear hK K
   try simp only [ga,gs,gz,Act.put,sa,sz,ss]
   refine tk 11 ?_;refine tk 12 ?_;refine tk 13 ?_;refine rd 14 λK hK=>?_
   simp only [ga,gs,gz]
   go_simp
   refine hK.out _ _ (KF.out _ Lau) (λhHeld=>?_);clear hK K
   try simp only [ga,gs,gz,Act.put,sa,sz,ss]
   refine rd 15 λK hK=>?_
   simp only [ga,gs,gz]
   go_simp
   refine hK.out _ _ ?_ (λhHeld=>?_)
   ·(try dsimp only);(refine ⟨?_,?_,?_,?_,?_,?_,?_,?_⟩<;>(repeat (refine qa0 ?_ (by first|omega|(simp;done)|(simp;omega))))<;>(refine Later.cell (Lau:Later w2 _) ?_)<;>assumption)
   clear hK K
   try simp only [ga,gs,gz,Act.put,sa,sz,ss]
   refine tk 16 ?_;clear KF;refine Zn1 krZ ?_ _;refine Zd1 ?_;go_wp2_with fail;have hC:Later w2 wf:=(Lau:Later w2 wf)
   have Hg:=hC.size
   go_meet
   exact ⟨wf.heap.size,U0,e0,V0,f0,U1,e1,V1,f1,U2,e2,V2,f2,rfl,rfl,Hg,Blk.new wf _ _,λh=>⟨((hh.out h).1.base (by first|omega|(simp;omega))).later ((Later.refl wf).alloc _),((hh.out h).2.1.base (by first|omega|(simp;omega))).later ((Later.refl wf).alloc _),((hh.out h).2.2.base (by first|omega|(simp;omega))).later ((Later.refl wf).alloc _)⟩,hC.alloc _⟩
  ·simp only [ga,gs,gz]
   go_simp
   refine hK.out _ _ (KF.out _ Lau) (λhHeld=>?_);clear hK K
   try simp only [ga,gs,gz,Act.put,sa,sz,ss]
   refine rd 10 λK hK=>?_
   simp only [ga,gs,gz]
   go_simp
   go_at_call 12
   (with_reducible refine (ha.out _ (Lau:Later w2 _)).mono ?_)
   rintro e wf ⟨U0,e0,V0,f0,U1,e1,V1,f1,U2,e2,V2,f2,rfl,he,h0⟩;have hh:=zI he;clear he;have hM:=(show Later _ wf from h0).blk ((Blk.new w2 42 #[.slice none 0 0,.slice none 0 0,.slice none 0 0,.slice none 0 0,.slice none 0 0,.slice none 0 0]).drew);obtain ⟨z0,z1,z2,z3,z4,z5,y0,y1,y2,y3,y4,y5⟩:=qar hM;have hl:=zI hM;clear hM
   try go_wp2_with fail
   refine hK.out _ _ (KF.out _ Lau) (λhHeld=>?_);clear hK K
   try simp only [ga,gs,gz,Act.put,sa,sz,ss]
   refine tk 11 ?_;refine tk 12 ?_;refine tk 13 ?_;refine rd 15 λK hK=>?_
   simp only [ga,gs,gz]
   go_simp
   refine hK.out _ _ ?_ (λhHeld=>?_)
   ·(try dsimp only);(refine ⟨?_,?_,?_,?_,?_,?_,?_,?_⟩<;>(repeat (refine qa0 ?_ (by first|omega|(simp;done)|(simp;omega))))<;>(refine Later.cell (Lau:Later w2 _) ?_)<;>assumption)
   clear hK K
   try simp only [ga,gs,gz,Act.put,sa,sz,ss]
   refine tk 16 ?_;clear KF;refine Zn1 krZ ?_ _;refine Zd1 ?_;go_wp2_with fail;have hC:Later w2 wf:=(Lau:Later w2 wf)
   go_meet
   exact ⟨w2.heap.size,U0,e0,V0,f0,U1,e1,V1,f1,U2,e2,V2,f2,rfl,rfl,lrZ _,qbK hl.out,λh=>⟨((hh.out h).1.base (by first|omega|(simp;omega))).else_ (qbw _ _ _ _ _ _ _ _) (qcK hl.out) (λj=>(qbK hl.out).frozen j),((hh.out h).2.1.base (by first|omega|(simp;omega))).else_ (qbw _ _ _ _ _ _ _ _) (qcK hl.out) (λj=>(qbK hl.out).frozen j),((hh.out h).2.2.base (by first|omega|(simp;omega))).else_ (qbw _ _ _ _ _ _ _ _) (qcK hl.out) (λj=>(qbK hl.out).frozen j)⟩,qbY hC (lrZ _) _ _ _ _ _ _⟩
 case rest=>
  obtain ⟨tb,U0,e0,V0,f0,U1,e1,V1,f1,U2,e2,V2,f2,rfl,rfl,Hn,hn,he,hp⟩:=hcut;have ht:=HH.out.trans hp;have hd:=hp.blk Hz.out;clear q1 q2 q3 q4 q5 q6 q7 q8 ha
  by_cases hg:R.2=0
  case neg=>
   have hj:=HE.out;rw [inZ hg] at hj;have Ha:=zI hg;have d9:(R.2 != 0)=true:=by simpa using hg
   clear hg;generalize R.2=ge at *;have c0':=hd.cell 0;have c1':=hd.cell 1;have f0':=hd.frozen 0;have f1':=hd.frozen 1;simp at c0' c1';obtain ⟨h5,Hd,hF,Hf,hh,He⟩:=zd6 ht hd hj hn he hp;clear ht hd hj hn he hp;go_wp2_with fail;refine Zk1 (v:=.tuple #[.agg #[.slice none 0 0,.slice none 0 0],.int .i64 ge]) (by simp [results,Tryz.results11,go_sem,c0',c1']) rfl ?_;exact GoB.fail hF.out Ha.out ((h5.out.set (p:=⟨w.heap.size+2,0,none⟩) sZ _).set (p:=⟨w.heap.size+2,1,none⟩) sZ _)
  have hj:=HE.out;rw [ipZ hg] at hj;obtain ⟨t0,t1,t2⟩:=he hg;have d9:(R.2 != 0)=false:=by simpa using hg
  have d8:(R.2==0)=true:=by simpa using hg
  clear hg he;generalize R.2=re at *;obtain ⟨g0,g1,g2,g3,g4,g5,-⟩:=qar hn;obtain ⟨m0,m1,m2,m3,m4,m5,-⟩:=qar (hn.alloc (.cells #[.slice U0 R.1.1.s.length e0,.slice V0 R.1.1.c.length f0,.slice U1 R.1.2.1.s.length e1,.slice V1 R.1.2.1.c.length f1] 30));have hf:=(hd.alloc (.cells #[.slice U0 R.1.1.s.length e0,.slice V0 R.1.1.c.length f0,.slice U1 R.1.2.1.s.length e1,.slice V1 R.1.2.1.c.length f1] 30)).alloc (.cells #[.slice U2 R.1.2.2.s.length e2,.slice V2 R.1.2.2.c.length f2] 30);have c0':=hf.cell 0;have c1':=hf.cell 1;have f0':=hf.frozen 0;have f1':=hf.frozen 1;have hB:=(hf.set_ 0 (.slice (some ⟨wc.heap.size,0,none⟩) 2 2)).set_ 1 (.slice (some ⟨wc.heap.size+1,0,none⟩) 1 1);have e0':=hB.cell 0;have e1':=hB.cell 1;simp at c0' c1' e0' e1';have Hh:=hd.lt;have x1:wc.heap.size≠w.heap.size+2:=by omega
  have x2:wc.heap.size+1≠w.heap.size+2:=by omega
  have hV:=(((Blk.new wc 30 #[.slice U0 R.1.1.s.length e0,.slice V0 R.1.1.c.length f0,.slice U1 R.1.2.1.s.length e1,.slice V1 R.1.2.1.c.length f1]).alloc (.cells #[.slice U2 R.1.2.2.s.length e2,.slice V2 R.1.2.2.c.length f2] 30)).far (p:=⟨w.heap.size+2,0,none⟩) x1 (.slice (some ⟨wc.heap.size,0,none⟩) 2 2)).far (p:=⟨w.heap.size+2,1,none⟩) x1 (.slice (some ⟨wc.heap.size+1,0,none⟩) 1 1)
  have hs:Blk ((wc.alloc (.cells #[.slice U0 R.1.1.s.length e0,.slice V0 R.1.1.c.length f0,.slice U1 R.1.2.1.s.length e1,.slice V1 R.1.2.1.c.length f1] 30)).alloc (.cells #[.slice U2 R.1.2.2.s.length e2,.slice V2 R.1.2.2.c.length f2] 30)) (wc.heap.size+1) 30 #[.slice U2 R.1.2.2.s.length e2,.slice V2 R.1.2.2.c.length f2]:=by
   have:=Blk.new (wc.alloc (.cells #[.slice U0 R.1.1.s.length e0,.slice V0 R.1.1.c.length f0,.slice U1 R.1.2.1.s.length e1,.slice V1 R.1.2.1.c.length f1] 30)) 30 #[.slice U2 R.1.2.2.s.length e2,.slice V2 R.1.2.2.c.length f2]
   rwa [Zh1] at this
  have hq:=(hs.far (p:=⟨w.heap.size+2,0,none⟩) x2 (.slice (some ⟨wc.heap.size,0,none⟩) 2 2)).far (p:=⟨w.heap.size+2,1,none⟩) x2 (.slice (some ⟨wc.heap.size+1,0,none⟩) 1 1);have hw:Later wc ((wc.alloc (.cells #[.slice U0 R.1.1.s.length e0,.slice V0 R.1.1.c.length f0,.slice U1 R.1.2.1.s.length e1,.slice V1 R.1.2.1.c.length f1] 30)).alloc (.cells #[.slice U2 R.1.2.2.s.length e2,.slice V2 R.1.2.2.c.length f2] 30)):=((Later.refl _).alloc _).alloc _;have T0:=zI ((t0.later hw).box (u:=.slice (some ⟨wc.heap.size,0,none⟩) 2 2) (u2:=.slice (some ⟨wc.heap.size+1,0,none⟩) 1 1) hf);have T1:=zI ((t1.later hw).box (u:=.slice (some ⟨wc.heap.size,0,none⟩) 2 2) (u2:=.slice (some ⟨wc.heap.size+1,0,none⟩) 1 1) hf);have T2:=zI ((t2.later hw).box (u:=.slice (some ⟨wc.heap.size,0,none⟩) 2 2) (u2:=.slice (some ⟨wc.heap.size+1,0,none⟩) 1 1) hf);have hy:=((ht.trans hw).set (p:=⟨w.heap.size+2,0,none⟩) sZ (.slice (some ⟨wc.heap.size,0,none⟩) 2 2)).set (p:=⟨w.heap.size+2,1,none⟩) sZ (.slice (some ⟨wc.heap.size+1,0,none⟩) 1 1);clear t0 t1 t2 hw hs x1 x2;obtain ⟨h5,Hd,hF,Hf,He,Hj,Hb,h9,hJ⟩:=zd9 ht hd hj hn hp hB hV hq hy;have Hm:=zI hf;clear ht hd hj hn hp hB hV hq hy hf;go_wp2_with fail;refine Zk1 (v:=.tuple #[.agg #[.slice (some ⟨wc.heap.size,0,none⟩) 2 2,.slice (some ⟨wc.heap.size+1,0,none⟩) 1 1],.int .i64 0]) (by simp [results,Tryz.results11,go_sem,e0',e1']) rfl ?_;rw [hF.out];exact ⟨.inr ⟨rfl,_,_,rfl,TnsO.two Hb.out oZ T0.out T1.out,TnsO.one h9.out oZ T2.out⟩,hJ.out⟩
theorem qde {w:Zp1} {p:Nat} {T:TypeId} (h:Blk w p T #[.slice none 0 0,.slice none 0 0,.slice none 0 0,.slice none 0 0]):∀k z,w.cell? ⟨p,k,none⟩≠some (.int .i64 z):=noint h (λk z=>by
 match k with
 | 0=>simp
 | 1=>simp
 | 2=>simp
 | 3=>simp
 | n+4=>simp)
namespace Ly
theorem layBack10 {o:OpD} {p x:List Ten} {g:Ten} (h:o.kind=10):layBack o p x g=if (Ly.convBack (Ly.got p 0) (Ly.got x 0) g o.step).2=0 then (⟨[(Ly.convBack (Ly.got p 0) (Ly.got x 0) g o.step).1.1],[(Ly.convBack (Ly.got p 0) (Ly.got x 0) g o.step).1.2]⟩,0) else (bnone,(Ly.convBack (Ly.got p 0) (Ly.got x 0) g o.step).2):=by
 unfold layBack;rw [inZ oZ,inZ oZ,ipZ h]
end Ly
def OpCut10 (w w2:Zp1) (R:(Ten × Ten) × Int) (a b:Value) (wx:Zp1):Prop:=
 ∃tb U0 e0 V0 f0 U2 e2 V2 f2,a=.pointer (some ⟨tb,0,none⟩)/\b=.int .i64 R.2/\w2.heap.size<=tb/\Blk wx tb 46 #[.slice U0 R.1.1.s.length e0,.slice V0 R.1.1.c.length f0,.slice U2 R.1.2.s.length e2,.slice V2 R.1.2.c.length f2]/\(R.2=0->TenO w.heap.size wx (.agg #[.slice U0 R.1.1.s.length e0,.slice V0 R.1.1.c.length f0]) R.1.1/\TenO w.heap.size wx (.agg #[.slice U2 R.1.2.s.length e2,.slice V2 R.1.2.c.length f2]) R.1.2)/\Later w2 wx
set_option maxRecDepth 20000 in
theorem qgA (o:OpD) (S P X GS GC:Option Addr) (c cp cx gc gd:Nat) (p x:List Ten) (g:Ten) (w:Zp1) (hk:o.kind=10) (ho:o.s.length<=1048576) (hI:Ints .i64 w S o.s) (hP:Tns w P p) (hX:Tns w X x) (hG:TenIn w GS GC gc gd g) (hc:Od.counts o p.length x.length=0):
  Calls Tryz.prog 11 #[.agg #[.int .i64 o.kind,.int .i64 o.k,.int .i64 o.width,.int .i64 o.step,.int .i64 o.side,.int .i64 o.frm,.int .i64 o.to,.slice S o.s.length c],.slice P p.length cp,.slice X x.length cx,.agg #[.slice GS g.s.length gc,.slice GC g.c.length gd]] w (GoB (Ly.layBack o p x g) w):=by
 obtain ⟨w1,e1,hu,hy,hO,hU⟩:=qax w o S c GS GC gc gd g;have hj:=Ly.counts_ok hc;unfold Od.least Od.most Od.params at hj;have hS:p.length=1:=by have:=hj.1;have h3:=hj.2.2.2;rw [ipZ this] at h3;simp [hk] at h3;omega
 have hT:x.length=1:=by have:=hj.1;have h1:=hj.2.1;have h2:=hj.2.2.1;rw [ipZ this] at h1 h2;simp [hk] at h1 h2;omega
 have HE:=zI (Ly.layBack10 (p:=p) (x:=x) (g:=g) hk);obtain ⟨HC,h4,hY,Hk⟩:=zd4 hc hS hT hk;clear hj hc hS hT hk;obtain ⟨HI,HP,HX,HG,hD,hq,hw,h0,hW⟩:=zd9 hI hP hX hG hU hu hy hO e1;clear hI hP hX hG hU hu hy hO e1;go_enter Tryz.func11,Tryz.ntmps11;go_wp2_with fail;rw [hW.out];clear hW;refine (qat o S c p.length x.length w1 oZ (HI.out.below hD.out (lrZ _))).mono ?_;rintro e w2 ⟨rfl,hp⟩;rw [HC.out];have hv:Later w1 w2:=hp;have hH:=hD.out.trans hv;have hz:=hv.blk h0.out;have h7:=hv.blk hq.out;have h8:=hv.blk hw.out;clear hp hv hD h0 hq hw;obtain ⟨HH,Hz,hM,hN⟩:=zd4 hH hz h7 h8;clear hH hz h7 h8;obtain ⟨bp,po,S0,c0,C0,d0,rfl,lbp,p00,p01,hQ⟩:=HP.out.at_ (j:=0) (by have:=h4.out;omega);obtain ⟨bx,xo,S2,c2,C2,d2,rfl,lbx,x00,x01,h6⟩:=HX.out.at_ (j:=0) (by have:=hY.out;omega);have hh:=λ(W:Zp1) (h:Later w2 W)=>(qgz S0 C0 S2 C2 GS GC c0 d0 c2 d2 gc gd (Ly.got p 0) (Ly.got x 0) g o.step W (hQ.later (HH.out.trans h)) (h6.later (HH.out.trans h)) (HG.out.later (HH.out.trans h))).mono (λe w' q=>q.u Ly.convBack_none)
 have hE:=HE.out;obtain ⟨R,hR⟩:∃R,Ly.convBack (Ly.got p 0) (Ly.got x 0) g o.step=R:=⟨_,rfl⟩
 rw [hR] at hE;have hb:∀W,Later w2 W->Calls Tryz.prog 13 _ W (GoCU R W):=hR▸hh;have q1:w2.cell? ⟨bp,po,none⟩=some (.slice S0 (Ly.got p 0).s.length c0):=HH.out.cell (by simpa using p00);have q2:w2.cell? ⟨bp,po+1,none⟩=some (.slice C0 (Ly.got p 0).c.length d0):=HH.out.cell (by simpa using p01);have q3:w2.cell? ⟨bx,xo,none⟩=some (.slice S2 (Ly.got x 0).s.length c2):=HH.out.cell (by simpa using x00);have q4:w2.cell? ⟨bx,xo+1,none⟩=some (.slice C2 (Ly.got x 0).c.length d2):=HH.out.cell (by simpa using x01);have q5:w2.cell? ⟨w.heap.size+1,0,none⟩=some (.slice GS g.s.length gc):=by rw [hN.out.cell];rfl
 have q6:w2.cell? ⟨w.heap.size+1,1,none⟩=some (.slice GC g.c.length gd):=by rw [hN.out.cell];rfl
 have q7:w2.cell? ⟨w.heap.size,3,none⟩=some (.int .i64 o.step):=by rw [hM.out.cell];rfl
 have x0:w2.cell? ⟨w.heap.size,0,none⟩=some (.int .i64 10):=by rw [hM.out.cell,←Hk.out];rfl
 have Hh:=HH.out.size;have Hj:=Hz.out.lt;rw [hY.out,h4.out];clear hR hh p00 p01 hQ x00 x01 h6 HE;obtain ⟨ha,HE⟩:=zd2 hb hE;clear hb hE;go_upto_region 13 with fail;clear x0
 go_cut [13,14] (OpCut10 w w2 R)
 case first=>
  go_wp2_with fail;have KF:=zI (show ∀Xw,Later w2 Xw->Xw.cell? ⟨bp,po,none⟩=some (.slice S0 (Ly.got p 0).s.length c0)/\Xw.cell? ⟨bp,po+1,none⟩=some (.slice C0 (Ly.got p 0).c.length d0)/\Xw.cell? ⟨bx,xo,none⟩=some (.slice S2 (Ly.got x 0).s.length c2)/\Xw.cell? ⟨bx,xo+1,none⟩=some (.slice C2 (Ly.got x 0).c.length d2)/\Xw.cell? ⟨w.heap.size+1,0,none⟩=some (.slice GS g.s.length gc)/\Xw.cell? ⟨w.heap.size+1,1,none⟩=some (.slice GC g.c.length gd)/\Xw.cell? ⟨w.heap.size,3,none⟩=some (.int .i64 o.step) from λXw h=>⟨h.cell q1,h.cell q2,h.cell q3,h.cell q4,h.cell q5,h.cell q6,h.cell q7⟩);refine Zm1 ?_;refine Zl1 (S:=λXw=>Xw.cell? ⟨bp,po,none⟩=some (.slice S0 (Ly.got p 0).s.length c0)/\Xw.cell? ⟨bp,po+1,none⟩=some (.slice C0 (Ly.got p 0).c.length d0)/\Xw.cell? ⟨bx,xo,none⟩=some (.slice S2 (Ly.got x 0).s.length c2)/\Xw.cell? ⟨bx,xo+1,none⟩=some (.slice C2 (Ly.got x 0).c.length d2)/\Xw.cell? ⟨w.heap.size+1,0,none⟩=some (.slice GS g.s.length gc)/\Xw.cell? ⟨w.heap.size+1,1,none⟩=some (.slice GC g.c.length gd)/\Xw.cell? ⟨w.heap.size,3,none⟩=some (.int .i64 o.step)) krZ (KF.out _ Lau) (λhHeld=>?_);refine tk 0 ?_;refine tk 1 ?_;refine tk 2 ?_;refine tk 3 ?_;refine tk 4 ?_;refine tk 5 ?_;refine tk 6 ?_;refine tk 7 ?_;refine tk 8 ?_;refine Zo1 (rs:=[9,13]) krZ sZ ?_;refine Zf1 (o:=_) rfl (λK hK=>?_) (Zf1 (o:=_) rfl (λK hK=>?_) (Zg1))
  ·simp only [ga,gs,gz]
   go_simp
   go_at_call 13
   (with_reducible refine (ha.out _ (Lau:Later w2 _)).mono ?_)
   rintro e wf ⟨U0,e0,V0,f0,U2,e2,V2,f2,rfl,he,hZ⟩;have hl:=zI he;clear he
   try go_wp2_with fail
   refine hK.out _ _ (KF.out _ Lau) (λhHeld=>?_);clear hK K
   try simp only [ga,gs,gz,Act.put,sa,sz,ss]
   refine tk 10 ?_;refine tk 11 ?_;refine tk 12 ?_;refine rd 13 λK hK=>?_
   simp only [ga,gs,gz]
   go_simp
   refine hK.out _ _ (KF.out _ Lau) (λhHeld=>?_);clear hK K
   try simp only [ga,gs,gz,Act.put,sa,sz,ss]
   refine rd 14 λK hK=>?_
   simp only [ga,gs,gz]
   go_simp
   refine hK.out _ _ ?_ (λhHeld=>?_)
   ·(try dsimp only);(refine ⟨?_,?_,?_,?_,?_,?_,?_⟩<;>(repeat (refine qa0 ?_ (by first|omega|(simp;done)|(simp;omega))))<;>(refine Later.cell (Lau:Later w2 _) ?_)<;>assumption)
   clear hK K
   try simp only [ga,gs,gz,Act.put,sa,sz,ss]
   refine tk 15 ?_;clear KF;refine Zn1 krZ ?_ _;refine Zd1 ?_;go_wp2_with fail;have hC:Later w2 wf:=(Lau:Later w2 wf)
   have Hf:=hC.size
   go_meet
   exact ⟨wf.heap.size,U0,e0,V0,f0,U2,e2,V2,f2,rfl,rfl,Hf,Blk.new wf _ _,λh=>⟨((hl.out h).1.base (by first|omega|(simp;omega))).later ((Later.refl wf).alloc _),((hl.out h).2.base (by first|omega|(simp;omega))).later ((Later.refl wf).alloc _)⟩,hC.alloc _⟩
  ·simp only [ga,gs,gz]
   go_simp
   refine hK.out _ _ (KF.out _ Lau) (λhHeld=>?_);clear hK K
   try simp only [ga,gs,gz,Act.put,sa,sz,ss]
   refine rd 9 λK hK=>?_
   simp only [ga,gs,gz]
   go_simp
   go_at_call 13
   (with_reducible refine (ha.out _ (Lau:Later w2 _)).mono ?_)
   rintro e wf ⟨U0,e0,V0,f0,U2,e2,V2,f2,rfl,he,hZ⟩;have hl:=zI he;clear he;have hL:=(show Later _ wf from hZ).blk ((Blk.new w2 46 #[.slice none 0 0,.slice none 0 0,.slice none 0 0,.slice none 0 0]).drew);obtain ⟨z0,z1,z2,z3,y0,y1,y2,y3⟩:=qab hL;have hr:=zI hL;clear hL
   try go_wp2_with fail
   refine hK.out _ _ (KF.out _ Lau) (λhHeld=>?_);clear hK K
   try simp only [ga,gs,gz,Act.put,sa,sz,ss]
   refine tk 10 ?_;refine tk 11 ?_;refine tk 12 ?_;refine rd 14 λK hK=>?_
   simp only [ga,gs,gz]
   go_simp
   refine hK.out _ _ ?_ (λhHeld=>?_)
   ·(try dsimp only);(refine ⟨?_,?_,?_,?_,?_,?_,?_⟩<;>(repeat (refine qa0 ?_ (by first|omega|(simp;done)|(simp;omega))))<;>(refine Later.cell (Lau:Later w2 _) ?_)<;>assumption)
   clear hK K
   try simp only [ga,gs,gz,Act.put,sa,sz,ss]
   refine tk 15 ?_;clear KF;refine Zn1 krZ ?_ _;refine Zd1 ?_;go_wp2_with fail;have hC:Later w2 wf:=(Lau:Later w2 wf)
   go_meet
   exact ⟨w2.heap.size,U0,e0,V0,f0,U2,e2,V2,f2,rfl,rfl,lrZ _,qbZ hr.out,λh=>⟨((hl.out h).1.base (by first|omega|(simp;omega))).else_ (qbi _ _ _ _ _ _) (qde hr.out) (λj=>(qbZ hr.out).frozen j),((hl.out h).2.base (by first|omega|(simp;omega))).else_ (qbi _ _ _ _ _ _) (qde hr.out) (λj=>(qbZ hr.out).frozen j)⟩,qaQ hC (lrZ _) _ _ _ _⟩
 case rest=>
  obtain ⟨tb,U0,e0,V0,f0,U2,e2,V2,f2,rfl,rfl,Hm,hm,he,hn⟩:=hcut;have ht:=HH.out.trans hn;have hd:=hn.blk Hz.out;clear q1 q2 q3 q4 q5 q6 q7 ha
  by_cases hf:R.2=0
  case neg=>
   have hi:=HE.out;rw [inZ hf] at hi;have Ha:=zI hf;have d9:(R.2 != 0)=true:=by simpa using hf
   clear hf;generalize R.2=ge at *;have c0':=hd.cell 0;have c1':=hd.cell 1;have f0':=hd.frozen 0;have f1':=hd.frozen 1;simp at c0' c1';obtain ⟨h5,Hc,hF,He,hl,Hd⟩:=zd6 ht hd hi hm he hn;clear ht hd hi hm he hn;go_wp2_with fail;refine Zk1 (v:=.tuple #[.agg #[.slice none 0 0,.slice none 0 0],.int .i64 ge]) (by simp [results,Tryz.results11,go_sem,c0',c1']) rfl ?_;exact GoB.fail hF.out Ha.out ((h5.out.set (p:=⟨w.heap.size+2,0,none⟩) sZ _).set (p:=⟨w.heap.size+2,1,none⟩) sZ _)
  have hi:=HE.out;rw [ipZ hf] at hi;obtain ⟨t0,t2⟩:=he hf;have d9:(R.2 != 0)=false:=by simpa using hf
  have d8:(R.2==0)=true:=by simpa using hf
  clear hf he;generalize R.2=re at *;obtain ⟨g0,g1,g2,g3,-⟩:=qab hm;obtain ⟨m0,m1,m2,m3,-⟩:=qab (hm.alloc (.cells #[.slice U0 R.1.1.s.length e0,.slice V0 R.1.1.c.length f0] 30));have hg:=(hd.alloc (.cells #[.slice U0 R.1.1.s.length e0,.slice V0 R.1.1.c.length f0] 30)).alloc (.cells #[.slice U2 R.1.2.s.length e2,.slice V2 R.1.2.c.length f2] 30);have c0':=hg.cell 0;have c1':=hg.cell 1;have f0':=hg.frozen 0;have f1':=hg.frozen 1;have hA:=(hg.set_ 0 (.slice (some ⟨wc.heap.size,0,none⟩) 1 1)).set_ 1 (.slice (some ⟨wc.heap.size+1,0,none⟩) 1 1);have e0':=hA.cell 0;have e1':=hA.cell 1;simp at c0' c1' e0' e1';have Hg:=hd.lt;have x1:wc.heap.size≠w.heap.size+2:=by omega
  have x2:wc.heap.size+1≠w.heap.size+2:=by omega
  have hV:=(((Blk.new wc 30 #[.slice U0 R.1.1.s.length e0,.slice V0 R.1.1.c.length f0]).alloc (.cells #[.slice U2 R.1.2.s.length e2,.slice V2 R.1.2.c.length f2] 30)).far (p:=⟨w.heap.size+2,0,none⟩) x1 (.slice (some ⟨wc.heap.size,0,none⟩) 1 1)).far (p:=⟨w.heap.size+2,1,none⟩) x1 (.slice (some ⟨wc.heap.size+1,0,none⟩) 1 1)
  have hs:Blk ((wc.alloc (.cells #[.slice U0 R.1.1.s.length e0,.slice V0 R.1.1.c.length f0] 30)).alloc (.cells #[.slice U2 R.1.2.s.length e2,.slice V2 R.1.2.c.length f2] 30)) (wc.heap.size+1) 30 #[.slice U2 R.1.2.s.length e2,.slice V2 R.1.2.c.length f2]:=by
   have:=Blk.new (wc.alloc (.cells #[.slice U0 R.1.1.s.length e0,.slice V0 R.1.1.c.length f0] 30)) 30 #[.slice U2 R.1.2.s.length e2,.slice V2 R.1.2.c.length f2]
   rwa [Zh1] at this
  have hp:=(hs.far (p:=⟨w.heap.size+2,0,none⟩) x2 (.slice (some ⟨wc.heap.size,0,none⟩) 1 1)).far (p:=⟨w.heap.size+2,1,none⟩) x2 (.slice (some ⟨wc.heap.size+1,0,none⟩) 1 1);have hB:Later wc ((wc.alloc (.cells #[.slice U0 R.1.1.s.length e0,.slice V0 R.1.1.c.length f0] 30)).alloc (.cells #[.slice U2 R.1.2.s.length e2,.slice V2 R.1.2.c.length f2] 30)):=((Later.refl _).alloc _).alloc _;have T0:=zI ((t0.later hB).box (u:=.slice (some ⟨wc.heap.size,0,none⟩) 1 1) (u2:=.slice (some ⟨wc.heap.size+1,0,none⟩) 1 1) hg);have T2:=zI ((t2.later hB).box (u:=.slice (some ⟨wc.heap.size,0,none⟩) 1 1) (u2:=.slice (some ⟨wc.heap.size+1,0,none⟩) 1 1) hg);have hx:=((ht.trans hB).set (p:=⟨w.heap.size+2,0,none⟩) sZ (.slice (some ⟨wc.heap.size,0,none⟩) 1 1)).set (p:=⟨w.heap.size+2,1,none⟩) sZ (.slice (some ⟨wc.heap.size+1,0,none⟩) 1 1);clear t0 t2 hB hs x1 x2;obtain ⟨h5,Hc,hF,He,Hd,Hi,Hb,h9,hJ⟩:=zd9 ht hd hi hm hn hA hV hp hx;have Hl:=zI hg;clear ht hd hi hm hn hA hV hp hx hg;go_wp2_with fail;refine Zk1 (v:=.tuple #[.agg #[.slice (some ⟨wc.heap.size,0,none⟩) 1 1,.slice (some ⟨wc.heap.size+1,0,none⟩) 1 1],.int .i64 0]) (by simp [results,Tryz.results11,go_sem,e0',e1']) rfl ?_;rw [hF.out];exact ⟨.inr ⟨rfl,_,_,rfl,TnsO.one Hb.out oZ T0.out,TnsO.one h9.out oZ T2.out⟩,hJ.out⟩
theorem op_back (o:OpD) (S P X GS GC:Option Addr) (c cp cx gc gd:Nat) (p x:List Ten) (g:Ten) (w:Zp1) (ho:o.s.length<=1048576) (hI:Ints .i64 w S o.s) (hk0:Fx.In o.k) (hP:Tns w P p) (hX:Tns w X x) (lX:x.length<=1048576) (kX:x.length<=cx) (mX:cx<=9223372036854775807) (hG:TenIn w GS GC gc gd g) (hc:Od.counts o p.length x.length=0):
  Calls Tryz.prog 11 #[.agg #[.int .i64 o.kind,.int .i64 o.k,.int .i64 o.width,.int .i64 o.step,.int .i64 o.side,.int .i64 o.frm,.int .i64 o.to,.slice S o.s.length c],.slice P p.length cp,.slice X x.length cx,.agg #[.slice GS g.s.length gc,.slice GC g.c.length gd]] w (GoB (Ly.back o p x g) w):=by
 have hb:=Od.right_kind (Ly.counts_ok hc).1;have ha:o.kind<=7∨o.kind=8∨o.kind=9∨o.kind=10∨o.kind=11∨o.kind=12∨o.kind=13∨o.kind=14∨o.kind=15:=by omega
 rcases ha with hk|hk|hk|hk|hk|hk|hk|hk|hk
 ·exact op_back7 o S P X GS GC c cp cx gc gd p x g w hk ho hI hk0 hX lX hG
 ·rw [Ly.back_lay hc];exact op_back8 o S P X GS GC c cp cx gc gd p x g w hk ho hI hP hX hG hc
 ·rw [Ly.back_lay hc];exact op_back9 o S P X GS GC c cp cx gc gd p x g w hk ho hI hP hX hG hc
 ·rw [Ly.back_lay hc];exact qgA o S P X GS GC c cp cx gc gd p x g w hk ho hI hP hX hG hc
 ·rw [Ly.back_lay hc];exact qgt o S P X GS GC c cp cx gc gd p x g w hk ho hI hP hX hG hc
 ·rw [Ly.back_lay hc];exact qgu o S P X GS GC c cp cx gc gd p x g w hk ho hI hP hX hG hc
 ·exact qgy o S P X GS GC c cp cx gc gd p x g w hk ho hI hX lX kX mX hG
 ·rw [Ly.back_lay hc];exact qgv o S P X GS GC c cp cx gc gd p x g w hk ho hI hP hX hG hc
 ·rw [Ly.back_lay hc];exact qgs o S P X GS GC c cp cx gc gd p x g w hk ho hI hP hX hG hc
namespace Ly
theorem qdf (l:List Int) (a:Nat) (v:Int):∀j,(addRow l a v j).length=l.length
 | 0=>rfl
 | j+1=>by unfold addRow;rw [qaK,qdf l a v j]
theorem qcL (top:Bool) (x g:List Int) (sd n:Nat) (width:Int) (step:Nat):∀i,(poolX top x g sd n width step i).length=x.length
 | 0=>zeros_len _
 | i+1=>by
  unfold poolX poolStep
  split
  ·rw [qaK,qcL top x g sd n width step i]
  ·rw [qdf,qcL top x g sd n width step i]
theorem qeW {n row a part:Nat} {g:List Int}:∀k,(∀i,i<k->i*row+a+part<=n/\i*part+part<=g.length)->(cutX n row a part g k).length=n
 | 0,_=>zeros_len _
 | k+1,h=>by
  have h1:=qeW (n:=n) (row:=row) (a:=a) (part:=part) (g:=g) k λi hi=>h i oZ
  obtain ⟨h3,h4⟩:=h k oZ;have hl:((g.drop (k*part)).take part).length=part:=by rw [Zo,Zq];omega
  show (splice _ _ _).length=n
  rw [length_splice _ _ _ (by rw [hl,h1];omega),h1]
theorem right_like {t:Ten} {c:List Int} (h:Tn.right t=true) (hl:c.length=t.c.length):Tn.right ⟨t.s,c⟩=true:=by
 obtain ⟨h1,h2⟩:=right_s h;exact right_of h1 (by rw [hl];exact h2)
def Like (a b:List Ten):Prop:=a.map Ten.s=b.map Ten.s/\∀t∈a,Tn.right t=true
theorem Like.nil:Like [] []:=⟨rfl,λ_ h=>absurd h sZ⟩
theorem Like.one {a b:Ten} (h:a.s=b.s) (hr:Tn.right a=true):Like [a] [b]:=⟨by simp [h],λt ht=>by simp at ht;rw [ht];exact hr⟩
theorem Like.two {a b c d:Ten} (h:a.s=b.s) (hr:Tn.right a=true) (h2:c.s=d.s) (hr2:Tn.right c=true):Like [a,c] [b,d]:=⟨by simp [h,h2],λt ht=>by simp at ht;rcases ht with rfl|rfl<;>assumption⟩
theorem Like.len {a b:List Ten} (h:Like a b):a.length=b.length:=by have:=congrArg List.length h.1;simpa using this
theorem Like.each {a b:List Ten} (hl:a.length=b.length) (h:∀j,j<b.length->(got a j).s=(got b j).s/\Tn.right (got a j)=true):Like a b:=by
 refine ⟨List.ext_getElem (by simp [hl]) λi h1 h2=>?_,λt ht=>?_⟩
 ·have hb:i<b.length:=by simpa using h2
  have ha:i<a.length:=by simpa using h1
  have:=(h i hb).1;rw [qan ha,qan hb] at this;rw [List.getElem_map,List.getElem_map,this]
 ·obtain ⟨i,hi,rfl⟩:=List.getElem_of_mem ht
  have:=(h i oZ).2
  rwa [qan hi] at this
theorem qft {kind:Int} {x:List Ten} (h:ptAgree kind x=0):(x.length:Int)=Od.ptIns kind/\∀t∈x,Tn.right t=true/\t.s=(got x 0).s:=by
 unfold ptAgree at h
 split at h
 ·simp at h
 ·split at h
  ·simp at h
  ·rename_i h2
   split at h
   ·rename_i h3
    simp only [Zf,Zz,decide_eq_true_eq] at h3;exact ⟨by omega,h3⟩
   ·simp at h
theorem qdx {x g:Ten} {sd frm til:Int} (hx:Tn.right x=true) (h:(cut x sd frm til).2=0) (hg:Tn.right g=true) (hs:g.s=(cut x sd frm til).1.s):
  (cutBack x g sd frm til).2=0/\(cutBack x g sd frm til).1.s=x.s/\Tn.right (cutBack x g sd frm til).1=true:=by
 by_cases hc:(Od.cut x.s sd frm til).2=0
 case neg=>rw [cut_err hx hc] at h;exact absurd h hc
 have hf:g.s=(Od.cut x.s sd frm til).1:=by rw [hs,cut_ok hx hc]
 rw [cbk_ok hx hc hg hf];refine ⟨rfl,rfl,right_like hx ?_⟩;obtain ⟨k,S,f,t,inner,pre,e1,e2,e3,hk,hS,hm,hp,ho,hn,hj,hb,hl,ha,hd,-,-,-⟩:=cut_facts hx hc;have h1:side x.s sd.toNat=S:=by unfold side at_;rw [e1,tnZ,hS,tnZ]
 have h2:span ((Od.cut x.s sd frm til).1.drop (sd.toNat+1))=inner:=by unfold span;rw [hb,e1,tnZ,hl,tnZ]
 have hh:g.c.length=pre*((t-f)*inner):=by
  have:=(right_s hg).2;rw [hf,hb,ha] at this;exact Int.ofNat.inj this
 have he:0<S*inner:=Nat.mul_pos oZ oZ
 show (cutX _ _ _ _ _ _).length=_
 rw [h1,h2];refine qeW _ λi hi=>?_
 rw [hd,Nat.mul_div_cancel _ he] at hi;rw [e2,e3,tnZ,tnZ,hd,hh];have a1:f*inner+(t-f)*inner<=S*inner:=by rw [←Nat.add_mul];exact mlZ _ oZ
 have a2:(i+1)*(S*inner)<=pre*(S*inner):=mlZ _ oZ;have a3:(i+1)*((t-f)*inner)<=pre*((t-f)*inner):=mlZ _ oZ;rw [Zu] at a2 a3;omega
theorem qbA {top:Bool} {x g:Ten} {width step:Int} (hx:Tn.right x=true) (h:(pool top x width step).2=0) (hg:Tn.right g=true) (hs:g.s=(pool top x width step).1.s):
  (poolBack top x g width step).2=0/\(poolBack top x g width step).1.s=x.s/\Tn.right (poolBack top x g width step).1=true:=by
 by_cases hc:poolErr x width step=0
 case neg=>rw [pool_err hc] at h;exact absurd h hc
 rw [pool_ok hc] at hs;have hs:g.s=poolS x width step:=hs;unfold poolBack;rw [ipZ hc,ipZ (by rw [hg,hs];simp)];exact ⟨rfl,rfl,right_like hx (qcL _ _ _ _ _ _ _ _)⟩
theorem qb9 {r:Ten × Int} {x:Ten} (h:r.2=0/\r.1.s=x.s/\Tn.right r.1=true):(bsingle r).2=0/\Like (bsingle r).1.p []/\Like (bsingle r).1.x [x]:=by
 unfold bsingle;rw [ipZ h.1];exact ⟨rfl,Like.nil,Like.one h.2.1 h.2.2⟩
theorem qgB {o:OpD} {p x:List Ten} {g:Ten} (hc:Od.counts o p.length x.length=0) (hp:∀t∈p,Tn.right t=true) (hx:∀t∈x,Tn.right t=true) (hy:(lay o p x).2=0) (hg:Tn.right g=true) (hs:g.s=(lay o p x).1.s):
  (layBack o p x g).2=0/\Like (layBack o p x g).1.p p/\Like (layBack o p x g).1.x x:=by
 obtain ⟨hr,h1,h2,h3⟩:=counts_ok hc;have hk:=Od.right_kind hr;have hl:=Od.least_pos hr;unfold Od.least Od.most at *;unfold Od.params at h3;rw [ipZ hr] at h1 h2 h3;have hf:o.kind<=7∨o.kind=8∨o.kind=9∨o.kind=10∨o.kind=11∨o.kind=12∨o.kind=13∨o.kind=14∨o.kind=15:=by omega
 rcases hf with hb|hb|hb|hb|hb|hb|hb|hb|hb
 ·have e:lay o p x=point o.kind o.k x:=by unfold lay;rw [inZ oZ,inZ oZ,inZ oZ,inZ oZ,inZ oZ,inZ oZ,inZ oZ,inZ oZ]
  obtain rfl:=qau (l:=p) (by rw [inZ oZ,inZ oZ] at h3;omega);rw [e] at hy hs;rw [layBack7 hb]
  by_cases ha:ptAgree o.kind x=0
  case neg=>unfold point at hy;rw [inZ ha] at hy;exact absurd hy ha
  have hs:g.s=(got x 0).s:=by rw [hs];unfold point;rw [ipZ ha]
  obtain ⟨hn,he⟩:=qft ha
  have hh:(pointBack o.kind o.k g x).2=0/\Like (pointBack o.kind o.k g x).1 x:=by
   unfold pointBack;rw [ipZ ha,ipZ (by rw [hg,hs];simp)];refine ⟨rfl,?_⟩
   have hz:1<=x.length:=by
    rw [ipZ hr,ipZ hb] at hl;omega
   have ho:x.length<=2:=by
    have:Od.ptIns o.kind<=2:=by unfold Od.ptIns;repeat' split<;>omega
    omega
   match x,hz,ho,he with
   | [t],_,_,he=>
    have ht:=he t sZ;exact Like.one rfl (right_like ht.1 (tab_len _ _))
   | [t,u],_,_,he=>
    have ht:=he t sZ;have hu:=he u sZ;refine Like.two rfl (right_like ht.1 (tab_len _ _)) rfl (right_like hu.1 ?_);rw [tab_len];have e1:=(right_s ht.1).2;have e2:=(right_s hu.1).2;have e3:u.s=t.s:=hu.2;rw [e3] at e2
    show t.c.length=u.c.length
    omega
   | _::_::_::_,_,ho,_=>simp at ho
  unfold bseveral;rw [ipZ hh.1];exact ⟨rfl,Like.nil,hh.2⟩
 ·obtain ⟨a,b,rfl⟩:=qgf (l:=p) (by simp [hb] at h3;omega)
  obtain ⟨t,rfl⟩:=qap (l:=x) (by simp [hb] at h1 h2;omega);have e:lay o [a,b] [t]=dense a b t:=by unfold lay;rw [ipZ hb];rfl
  rw [e] at hy hs;rw [layBack8 hb]
  show (if (denseBack a b t g).2=0 then _ else _:Bk × Int).2=0/\_
  by_cases hd:denseOk a b t=true
  case neg=>unfold dense at hy;rw [inZ hd] at hy;simp at hy
  have hs:g.s=b.s:=by rw [hs];unfold dense;rw [ipZ hd]
  have ebk:=dback_ok (w:=a) (b:=b) (x:=t) (g:=g) (by rw [hd,hg,hs];simp);have e0:denseBack (got [a,b] 0) (got [a,b] 1) (got [t] 0) g=denseBack a b t g:=rfl;rw [e0,ebk];simp only [if_true];simp only [denseOk,Zz,decide_eq_true_eq] at hd;obtain ⟨⟨⟨⟨⟨ra,la⟩,rb⟩,rt⟩,sb⟩,st⟩:=hd;refine ⟨trivial,Like.two rfl (right_like ra ?_) hs hg,Like.one rfl (right_like rt (denseX_len _ _ _ _))⟩;rw [denseW_len];have q1:=(right_s ra).2;have q2:=(right_s hg).2;rw [hs,sb] at q2
  match hw:a.s,la with
  | [u,v],_=>
   rw [hw] at q1 q2 st;simp only [at_,List.getD_cons_zero,List.getD_cons_succ] at q2 st;have e3:Safe.prod [u,v]=u*v:=by simp [Safe.prod]
   have e4:Safe.prod [u]=u:=by simp [Safe.prod]
   rw [e3] at q1;rw [e4] at q2;have:((g.c.length*t.c.length:Nat):Int)=a.c.length:=by rw [Int.natCast_mul,q2,st,q1]
   exact Int.ofNat.inj this
 ·obtain ⟨b,rfl⟩:=qap (l:=p) (by simp [hb] at h3;omega)
  obtain ⟨t,rfl⟩:=qap (l:=x) (by simp [hb] at h1 h2;omega);have e:lay o [b] [t]=add t b:=by unfold lay;rw [inZ oZ,ipZ hb];rfl
  rw [e] at hy hs;rw [layBack9 hb]
  show (bbias b t g).2=0/\Like (bbias b t g).1.p _/\Like (bbias b t g).1.x _
  unfold bbias;rw [ipZ hy,ipZ (by rw [hg,hs];simp)]
  by_cases ha:alike t b=true
  case neg=>unfold add at hy;rw [inZ ha] at hy;simp at hy
  have hs:g.s=t.s:=by rw [hs];unfold add;rw [ipZ ha]
  simp only [alike,Zz,decide_eq_true_eq] at ha;exact ⟨rfl,Like.one (by rw [hs,ha.2]) hg,Like.one hs hg⟩
 ·obtain ⟨b,rfl⟩:=qap (l:=p) (by simp [hb] at h3;omega)
  obtain ⟨t,rfl⟩:=qap (l:=x) (by simp [hb] at h1 h2;omega);have e:lay o [b] [t]=conv b t o.step:=by unfold lay;rw [inZ oZ,inZ oZ,ipZ hb];rfl
  rw [e] at hy hs;rw [layBack10 hb];have e0:convBack (got [b] 0) (got [t] 0) g o.step=convBack b t g o.step:=rfl;rw [e0]
  by_cases hi:convErr b t o.step=0
  case neg=>unfold conv at hy;rw [inZ hi] at hy;exact absurd hy hi
  have hs:g.s=(Od.conv b.s t.s o.step).1:=by rw [hs];unfold conv;rw [ipZ hi]
  have ebk:convBack b t g o.step=((⟨b.s,convW g.c t.c (convT b t o.step) b.c.length⟩,⟨t.s,convX g.c b.c (convT b t o.step) t.c.length⟩),0):=by
   unfold convBack;rw [ipZ hi,ipZ (by rw [hg,hs];simp)]
  rw [ebk];simp only [if_true];refine ⟨trivial,Like.one rfl (right_like (hp b sZ) ?_),Like.one rfl (right_like (hx t sZ) ?_)⟩
  ·unfold convW;rw [qaF,zeros_len]
  ·unfold convX;rw [qaF,zeros_len]
 ·obtain rfl:=qau (l:=p) (by rw [inZ oZ,inZ oZ] at h3;omega)
  obtain ⟨t,rfl⟩:=qap (l:=x) (by simp [hb] at h1 h2;omega);have e:lay o [] [t]=pool true t o.width o.step:=by unfold lay;rw [inZ oZ,inZ oZ,inZ oZ,ipZ hb];rfl
  rw [e] at hy hs;rw [layBack11 hb];exact qb9 (qbA (hx t sZ) hy hg hs)
 ·obtain rfl:=qau (l:=p) (by rw [inZ oZ,inZ oZ] at h3;omega)
  obtain ⟨t,rfl⟩:=qap (l:=x) (by simp [hb] at h1 h2;omega);have e:lay o [] [t]=pool false t o.width o.step:=by unfold lay;rw [inZ oZ,inZ oZ,inZ oZ,inZ oZ,ipZ hb];rfl
  rw [e] at hy hs;rw [layBack12 hb];exact qb9 (qbA (hx t sZ) hy hg hs)
 ·obtain rfl:=qau (l:=p) (by rw [inZ oZ,inZ oZ] at h3;omega)
  have e:lay o [] x=join o.side x:=by unfold lay;rw [inZ oZ,inZ oZ,inZ oZ,inZ oZ,inZ oZ,ipZ hb]
  rw [e] at hy hs;rw [layBack13 hb]
  by_cases hj:(joined o.side x).2=0
  case neg=>rw [join_err hj] at hy;exact absurd hy hj
  rw [join_ok hj] at hs;have hs:g.s=(joined o.side x).1:=hs;rw [joinBack_ok hj hg hs];unfold bseveral;rw [ipZ rfl];refine ⟨rfl,Like.nil,Like.each (jlist_len _ _ _ _) λj hm=>?_⟩;obtain ⟨q1,q2,-⟩:=jb_each hj hg hs hm
  show (got (jlist o.side g 0 x) j).s=_/\_
  rw [jlist_get _ _ _ _ _ hm,Int.zero_add];refine ⟨q2,qgm q1 ?_⟩;rw [q2];rw [qan hm];exact (right_s (hx _ (gmZ hm))).1
 ·obtain rfl:=qau (l:=p) (by rw [inZ oZ,inZ oZ] at h3;omega)
  obtain ⟨t,rfl⟩:=qap (l:=x) (by simp [hb] at h1 h2;omega);have e:lay o [] [t]=cut t o.side o.frm o.to:=by unfold lay;rw [inZ oZ,inZ oZ,inZ oZ,inZ oZ,inZ oZ,inZ oZ,ipZ hb];rfl
  rw [e] at hy hs;rw [layBack14 hb];exact qb9 (qdx (hx t sZ) hy hg hs)
 ·obtain rfl:=qau (l:=p) (by rw [inZ oZ,inZ oZ] at h3;omega)
  obtain ⟨t,rfl⟩:=qap (l:=x) (by simp [hb] at h1 h2;omega);have e:lay o [] [t]=turn t o.s:=by unfold lay;rw [inZ oZ,inZ oZ,inZ oZ,inZ oZ,inZ oZ,inZ oZ,inZ oZ,ipZ hb];rfl
  rw [e] at hy hs;rw [layBack15 hb]
  show (bturn t g o.s).2=0/\Like (bturn t g o.s).1.p _/\Like (bturn t g o.s).1.x _
  have rt:=hx t sZ
  have hq:Tn.right ⟨o.s,t.c⟩=true:=by
   unfold turn of_ at hy;rw [ipZ rt] at hy
   split at hy
   ·assumption
   ·simp at hy
  have hs:g.s=o.s:=by rw [hs];unfold turn of_;rw [ipZ rt,ipZ hq]
  have hv:Tn.right ⟨t.s,g.c⟩=true:=by
   refine right_like rt ?_;have q1:=(right_s hg).2;have q2:=(right_s hq).2;rw [hs] at q1;have q2:(t.c.length:Int)=Safe.prod o.s:=q2;omega
  unfold bturn;rw [ipZ hy,ipZ (by rw [hg,hs];simp)];refine qb9 ?_;unfold turnBack of_;rw [ipZ (by rw [rt,hg];rfl),ipZ hv];exact ⟨rfl,rfl,hv⟩
theorem back_like {o:OpD} {p x:List Ten} {g y:Ten} (hp:∀t∈p,Tn.right t=true) (hx:∀t∈x,Tn.right t=true) (hy:go o p x=(y,0)) (hg:Tn.right g=true) (hs:g.s=y.s):
  (back o p x g).2=0/\Like (back o p x g).1.p p/\Like (back o p x g).1.x x:=by
 by_cases hc:Od.counts o p.length x.length=0
 case neg=>rw [go_err hc] at hy;exact absurd (congrArg Prod.snd hy) hc
 rw [go_lay hc] at hy;rw [back_lay hc];exact qgB hc hp hx (by rw [hy]) hg (by rw [hy];exact hs)
end Ly
theorem Ly.go_counts {o:OpD} {p x:List Ten} {y:Ten} (h:Ly.go o p x=(y,0)):Od.counts o p.length x.length=0:=by
 by_cases hc:Od.counts o p.length x.length=0
 ·exact hc
 ·rw [Ly.go_err hc] at h;exact absurd (congrArg Prod.snd h) hc
namespace Pn
def addN (gr:List Ten) (ins:List Int) (bx:List Ten):Nat->List Ten
 | 0=>gr
 | k+1=>(addN gr ins bx k).set (ins.getD k 0).toNat (add (Ly.got (addN gr ins bx k) (ins.getD k 0).toNat) (Ly.got bx k))
def bk (n:NetD) (ps vals gr:List Ten) (id:Int):Ly.Bk × Int:=Ly.back (Nt.node n.nodes id).op (parts n ps id) (pickT vals (Nt.node n.nodes id).ins) (Ly.got gr id.toNat)
def fr (n:NetD) (id:Int):Nat:=from_ n.nodes (id.toNat-1)
def bwd (n:NetD) (ps vals:List Ten):List Ten->List Ten->List Int->List Ten × List Ten
 | gr,pg,[]=>(gr,pg)
 | gr,pg,id::r=>bwd n ps vals (addN gr (Nt.node n.nodes id).ins (bk n ps vals gr id).1.x (Nt.node n.nodes id).ins.length) (splice pg (fr n id) (bk n ps vals gr id).1.p) r
def ones (s:List Int):Ten:=⟨s,Zc (Safe.prod s).toNat 4294967296⟩
structure Res where
 loss:Int
 grads:List Ten
 x:Ten
def startG (n:NetD) (vals:List Ten):List Ten:=(Zc (n.nodes.length+1) Ly.none_).set (Nt.loss n.nodes).toNat (ones (Ly.got vals (Nt.loss n.nodes).toNat).s)
def back (n:NetD) (ps:List Ten) (vals:List Ten):List Ten × List Ten:=bwd n ps vals (startG n vals) (Zc ps.length Ly.none_) (Nt.sorted n.nodes).reverse
def run (n:NetD) (ps:List Ten) (x:Ten):Res:=
 let vals:=(forward n ps x).1
 ⟨Ly.at_ (Ly.got vals (Nt.loss n.nodes).toNat).c 0,(back n ps vals).2,Ly.got (back n ps vals).1 0⟩
theorem addN_len (gr:List Ten) (ins:List Int) (bx:List Ten):∀k,(addN gr ins bx k).length=gr.length
 | 0=>rfl
 | k+1=>by unfold addN;rw [List.length_set,addN_len gr ins bx k]
def Good (vals:List Ten) (t:Ten) (i:Nat):Prop:=Tn.right t=true/\t.s=(Ly.got vals i).s
def Part (vals:List Ten) (t:Ten) (i:Nat):Prop:=t=Ly.none_∨Good vals t i
theorem right_pos {t:Ten} (h:Tn.right t=true):t.c.length≠0:=by
 obtain ⟨h1,h2⟩:=Ly.right_s h;have:=(Sh.right_mul h1).2.2.2.2.1;omega
theorem add_good {vals:List Ten} {g m:Ten} {i:Nat} (hg:Part vals g i) (hm:Good vals m i):Good vals (add g m) i:=by
 unfold add
 split
 ·exact hm
 ·rename_i h0
  rcases hg with hg|hg
  ·rw [hg] at h0;exact absurd rfl h0
  ·have ha:Ly.alike g m=true:=by simp [Ly.alike,hg.1,hm.1,hg.2,hm.2]
   rw [Ly.add_ok ha];exact ⟨Ly.right_like hg.1 (Ly.tab_len _ _),hg.2⟩
theorem qe9 {vals gr:List Ten} {ins:List Int} {bx:List Ten} (hr:∀i∈ins,0<=i/\i.toNat<gr.length) (hb:∀j,j<ins.length->Good vals (Ly.got bx j) (ins.getD j 0).toNat) (hg:∀i,Part vals (Ly.got gr i) i):
  ∀k,k<=ins.length->(∀i,Part vals (Ly.got (addN gr ins bx k) i) i)/\(∀i,Good vals (Ly.got gr i) i->Good vals (Ly.got (addN gr ins bx k) i) i)/\∀j,j<k->Good vals (Ly.got (addN gr ins bx k) (ins.getD j 0).toNat) (ins.getD j 0).toNat
 | 0,_=>⟨hg,λ_ h=>h,λ_ h=>absurd h oZ⟩
 | k+1,hk=>by
  obtain ⟨h1,h2,h3⟩:=qe9 hr hb hg k oZ;have hm:ins.getD k 0∈ins:=by rw [gdZ,geZ oZ];exact gmZ _
  have hl:(ins.getD k 0).toNat<(addN gr ins bx k).length:=by rw [addN_len];exact (hr _ hm).2
  have key:Good vals (Ly.got (addN gr ins bx (k+1)) (ins.getD k 0).toNat) (ins.getD k 0).toNat:=by
   unfold addN;rw [qbv hl];exact add_good (h1 _) (hb k oZ)
  have other:∀i,i≠(ins.getD k 0).toNat->Ly.got (addN gr ins bx (k+1)) i=Ly.got (addN gr ins bx k) i:=λi hi=>by
   rw [addN];exact qaP (Ne.symm hi)
  refine ⟨λi=>?_,λi hi=>?_,λj hj=>?_⟩
  ·by_cases e:i=(ins.getD k 0).toNat
   ·subst e;exact .inr key
   ·rw [other i e];exact h1 i
  ·by_cases e:i=(ins.getD k 0).toNat
   ·subst e;exact key
   ·rw [other i e];exact h2 i hi
  ·by_cases e:(ins.getD j 0).toNat=(ins.getD k 0).toNat
   ·rw [e];exact key
   ·rw [other _ e]
    have:j<k:=by
     rcases Nat.lt_or_ge j k with h|h
     ·exact h
     ·exact absurd (by rw [show j=k by omega]) e
    exact h3 j this
structure Back (n:NetD) (ps vals:List Ten) (b:List Int) (gr pg:List Ten):Prop where
 len:gr.length=n.nodes.length+1
 part:∀i,Part vals (Ly.got gr i) i
 used:∀i:Int,0<=i->(i=Nt.loss n.nodes∨∃v∈b,i∈Nt.insF n.nodes v)->Good vals (Ly.got gr i.toNat) i.toNat
 plen:pg.length=ps.length
 pgood:∀v∈b,∀j,j<(Nt.node n.nodes v).p.length->(Ly.got pg (fr n v+j)).s=(Ly.got ps (fr n v+j)).s/\Tn.right (Ly.got pg (fr n v+j))=true
structure Ready (n:NetD) (ps vals:List Ten):Prop where
 chk:Nt.check n=0
 pm:ps.map Ten.s=Nt.params n
 pr:∀t∈ps,Tn.right t=true
 len:vals.length=n.nodes.length+1
 all:∀i,i<vals.length->Tn.right (Ly.got vals i)=true
 step:∀id:Int,1<=id->id<=n.nodes.length->step n ps vals id=(Ly.got vals id.toNat,0)
theorem qgC {n:NetD} (h:Nt.check n=0) {z:Int} (h1:0<=z) (h2:z<=n.nodes.length) (h3:z≠Nt.loss n.nodes):∃v∈Nt.sorted n.nodes,z∈Nt.insF n.nodes v:=by
 obtain ⟨_,_,_,_,hl,_,hb,_⟩:=Nt.check_ok h;obtain ⟨e,_,_⟩:=Nt.loss_mem hb
 have ha:Nt.isUsed n.nodes z=true:=by
  rcases Bool.eq_false_or_eq_true (Nt.isUsed n.nodes z) with q|q
  ·exact q
  ·have hm:z∈Nt.unused n.nodes:=by
    unfold Nt.unused;rw [List.mem_filter];refine ⟨?_,by rw [q];rfl⟩;unfold Nt.nums;rw [List.mem_map];exact ⟨z.toNat,List.mem_range.2 oZ,by omega⟩
   rw [e] at hm;simp at hm;exact absurd hm h3
 unfold Nt.isUsed at ha;obtain ⟨v,hv,hz⟩:=List.any_eq_true.1 ha;obtain ⟨k,hk,rfl⟩:=List.getElem_of_mem hv;refine ⟨(k:Int)+1,(Kn.order_full hl _).2 ⟨by omega,by omega⟩,?_⟩;unfold Nt.insF;rw [Nt.node_at hk];simpa using hz
theorem part_at {n:NetD} {ps:List Ten} (hm:ps.map Ten.s=Nt.params n) {id:Int} (h1:1<=id) (h2:id<=n.nodes.length):fr n id+(Nt.node n.nodes id).p.length<=ps.length:=by
 obtain ⟨hk,e⟩:=Nt.node_in ⟨h1,h2⟩;have h3:=from_succ hk;have h4:from_ n.nodes ((id-1).toNat+1)<=(n.nodes.flatMap (·.p)).length:=from_le;have h5:ps.length=(n.nodes.flatMap (·.p)).length:=by have:=congrArg List.length hm;simpa [Nt.params] using this
 unfold fr;rw [e,show id.toNat-1=(id-1).toNat by omega];omega
theorem qea {ns:List NodeD} {a b:Nat} (h:a<=b):from_ ns a<=from_ ns b:=by
 induction b with
 | zero=>
           obtain rfl:a=0:=by omega
           exact lrZ _
 | succ b ih=>
  rcases Nat.lt_or_ge b a with h1|h1
  ·obtain rfl:a=b+1:=by omega
   exact lrZ _
  ·refine Zv (ih h1) ?_
   rcases Nat.lt_or_ge b ns.length with h2|h2
   ·rw [from_succ h2];omega
   ·unfold from_
    rw [List.take_of_length_le h2,List.take_of_length_le oZ];exact lrZ _
theorem qdy {l d:List Ten} {o j:Nat} (hj:j<d.length) (h:o+d.length<=l.length):Ly.got (splice l o d) (o+j)=Ly.got d j:=by
 unfold Ly.got splice;rw [gdZ,gdZ,Zl soZ,Zo,Nat.min_eq_left oZ,Nat.add_sub_cancel_left,Zm hj]
theorem qcP {l d:List Ten} {o j:Nat} (hj:j<o∨o+d.length<=j) (h:o+d.length<=l.length):Ly.got (splice l o d) j=Ly.got l j:=by
 unfold Ly.got splice;rw [gdZ,gdZ];rcases hj with hj|hj
 ·rw [Zm soZ,List.getElem?_take_of_lt hj]
 ·rw [Zl soZ,Zo,Nat.min_eq_left oZ,Zl oZ,List.getElem?_drop]
  congr 2
  omega
theorem splice_len {l d:List Ten} {o:Nat} (h:o+d.length<=l.length):(splice l o d).length=l.length:=by
 unfold splice;simp;omega
theorem back_next {n:NetD} {ps vals gr pg:List Ten} (hR:Ready n ps vals) {a b:List Int} {u:Int} (hs:Nt.sorted n.nodes=a++u::b) (h:Back n ps vals b gr pg):
  (bk n ps vals gr u).2=0/\(bk n ps vals gr u).1.x.length=(Nt.node n.nodes u).ins.length/\(bk n ps vals gr u).1.p.length=(Nt.node n.nodes u).p.length/\1<=u/\u<=n.nodes.length/\
  Back n ps vals (u::b) (addN gr (Nt.node n.nodes u).ins (bk n ps vals gr u).1.x (Nt.node n.nodes u).ins.length) (splice pg (fr n u) (bk n ps vals gr u).1.p)/\
  (parts n ps u).length=(Nt.node n.nodes u).p.length/\Od.counts (Nt.node n.nodes u).op (parts n ps u).length (pickT vals (Nt.node n.nodes u).ins).length=0/\
  (∀q,q<=(Nt.node n.nodes u).ins.length->∀i,Part vals (Ly.got (addN gr (Nt.node n.nodes u).ins (bk n ps vals gr u).1.x q) i) i)/\(∀q,q<(Nt.node n.nodes u).ins.length->Tn.right (Ly.got (bk n ps vals gr u).1.x q)=true):=by
 obtain ⟨c1,c2,c3,c4,c5,c6,c7,c8⟩:=Nt.check_ok hR.chk;have hf:∀v∈Nt.sorted n.nodes,1<=v/\v<=n.nodes.length:=Kn.order_rng _ _;have hp:(Nt.sorted n.nodes).Nodup:=(Kn.go_ok _ _ _).nodup;have hu:=hf u (by rw [hs];simp);obtain ⟨hk,ha⟩:=Nt.node_in hu;have hb:∀i∈(Nt.node n.nodes u).ins,0<=i/\i<=n.nodes.length:=by rw [ha];exact (Nt.bads_all c4 _ (gmZ hk)).2
 have hx:Good vals (Ly.got gr u.toNat) u.toNat:=by
  refine h.used u oZ ?_
  by_cases hr:u=Nt.loss n.nodes
  ·exact .inl hr
  ·obtain ⟨v,hv,hz⟩:=qgC hR.chk oZ hu.2 hr
   refine .inr ⟨v,?_,hz⟩;rw [hs] at hv hp;rw [List.nodup_append] at hp;obtain ⟨-,hF,hd⟩:=hp;have hJ:u∉b:=(List.nodup_cons.1 hF).1;rcases List.mem_append.1 hv with hv|hv
   ·exfalso
    obtain ⟨a1,a2,ea⟩:=List.append_of_mem hv
    have hG:Kn.order (Nt.insF n.nodes) n.nodes.length=a1++v::(a2++u::b):=by
     show Nt.sorted n.nodes=_
     rw [hs,ea];simp
    rcases Kn.order_behind _ _ hG u hz with h4|h4
    ·omega
    ·exact hd u (by rw [ea];simp [h4]) u sZ rfl
   ·rcases List.mem_cons.1 hv with hv|hv
    ·exfalso
     subst hv;rcases Kn.order_behind _ _ (show Kn.order (Nt.insF n.nodes) n.nodes.length=a++v::b from hs) v hz with h4|h4
     ·omega
     ·exact hd v h4 v sZ rfl
    ·exact hv
 obtain ⟨p1,p2,p3⟩:=qdd hR.pm hR.pr hu.1 hu.2
 have he:∀t∈pickT vals (Nt.node n.nodes u).ins,Tn.right t=true:=λt ht=>by
  obtain ⟨i,hi,rfl⟩:=List.mem_map.1 ht;have:=hb i hi;exact hR.all _ (by rw [hR.len];omega)
 obtain ⟨b0,bp,bx⟩:=Ly.back_like p2 he (hR.step u hu.1 hu.2) hx.1 hx.2;have hH:(bk n ps vals gr u).2=0:=b0;have ho:Ly.Like (bk n ps vals gr u).1.p (parts n ps u):=bp;have hm:Ly.Like (bk n ps vals gr u).1.x (pickT vals (Nt.node n.nodes u).ins):=bx;have hB:(bk n ps vals gr u).1.x.length=(Nt.node n.nodes u).ins.length:=by rw [hm.len];simp [pickT]
 have hh:(bk n ps vals gr u).1.p.length=(Nt.node n.nodes u).p.length:=by rw [ho.len];exact p3
 clear b0 bp bx
 have hw:∀j,j<(Nt.node n.nodes u).ins.length->Good vals (Ly.got (bk n ps vals gr u).1.x j) ((Nt.node n.nodes u).ins.getD j 0).toNat:=λj hj=>by
  have hg:j<(bk n ps vals gr u).1.x.length:=by omega
  refine ⟨by rw [qan hg];exact hm.2 _ (gmZ hg),?_⟩;rw [←qgn,hm.1,qgn]
  congr 1
  rw [qan (by simpa [pickT] using hj)];simp [pickT,gdZ,geZ hj]
 have hc:=part_at hR.pm hu.1 hu.2;have hq:=qe9 (gr:=gr) (bx:=(bk n ps vals gr u).1.x) (λi hi=>⟨(hb i hi).1,by rw [h.len];have:=hb i hi;omega⟩) hw h.part;obtain ⟨q1,q2,q3⟩:=hq _ (lrZ _);refine ⟨hH,hB,hh,hu.1,hu.2,⟨by rw [addN_len];exact h.len,q1,?_,?_,?_⟩,p3,Ly.go_counts (hR.step u hu.1 hu.2),λq hn=>(hq q hn).1,λq hn=>(hw q hn).1⟩
 ·rintro i hi (hE|⟨v,hv,hz⟩)
  ·exact q2 _ (h.used i hi (.inl hE))
  ·rcases List.mem_cons.1 hv with hv|hv
   ·subst hv
    obtain ⟨j,hj,e⟩:=List.getElem_of_mem hz;have hl:j<(Nt.node n.nodes v).ins.length:=hj;have:=q3 j hl;rw [gdZ,geZ hl] at this;have e:(Nt.node n.nodes v).ins[j]'hj=i:=e;rw [show (some ((Nt.node n.nodes v).ins[j]'hl)).getD 0=i from e] at this;exact this
   ·exact q2 _ (h.used i hi (.inr ⟨v,hv,hz⟩))
 ·rw [splice_len (by rw [hh,h.plen];exact hc)];exact h.plen
 ·intro v hv j hj
  have hC:1<=v/\v<=n.nodes.length:=hf v (by rw [hs];rcases List.mem_cons.1 hv with hv|hv<;>simp [hv])
  by_cases e:v=u
  ·subst e
   rw [qdy oZ (by rw [hh,h.plen];exact hc)];have hg:j<(bk n ps vals gr v).1.p.length:=by omega
   refine ⟨?_,by rw [qan hg];exact ho.2 _ (gmZ hg)⟩;rw [←qgn,ho.1,qgn]
   congr 1
   unfold Ly.got parts fr;rw [gdZ,gdZ,List.getElem?_take_of_lt hj,List.getElem?_drop]
  ·have hy:v∈b:=by
    rcases List.mem_cons.1 hv with hv|hv
    ·exact absurd hv e
    ·exact hv
   rw [qcP ?_ (by rw [hh,h.plen];exact hc)]
   ·exact h.pgood v hy j hj
   ·rw [hh]
    obtain ⟨hD,hI⟩:=Nt.node_in hC;rcases Int.lt_or_gt_of_ne e with hA|hA
    ·left
     have h3:=from_succ hD;rw [←hI] at h3;have h4:from_ n.nodes ((v-1).toNat+1)<=from_ n.nodes (u.toNat-1):=qea oZ;unfold fr;rw [show v.toNat-1=(v-1).toNat by omega];omega
    ·right
     have h3:=from_succ hk;rw [←ha] at h3;have h4:from_ n.nodes ((u-1).toNat+1)<=from_ n.nodes (v.toNat-1):=qea oZ;unfold fr;rw [show u.toNat-1=(u-1).toNat by omega];omega
theorem ones_good {s:List Int} (h:Sh.right s=true):Tn.right (ones s)=true:=by
 refine Ly.right_of h ?_;have:=(Sh.right_mul h).2.2.2.2.1;rw [List.length_replicate];omega
theorem loss_rng {n:NetD} (h:Nt.check n=0):1<=Nt.loss n.nodes/\Nt.loss n.nodes<=n.nodes.length:=by
 obtain ⟨_,_,_,_,_,_,ha,_⟩:=Nt.check_ok h;exact (Nt.loss_mem ha).2
theorem back_start {n:NetD} {ps vals:List Ten} (hR:Ready n ps vals):Back n ps vals [] (startG n vals) (Zc ps.length Ly.none_):=by
 have hl:=loss_rng hR.chk;have ha:(Nt.loss n.nodes).toNat<(Zc (n.nodes.length+1) Ly.none_).length:=by rw [List.length_replicate];omega
 have hg:Good vals (Ly.got (startG n vals) (Nt.loss n.nodes).toNat) (Nt.loss n.nodes).toNat:=by
  unfold startG;rw [qbv ha];exact ⟨ones_good (Ly.right_s (hR.all _ (by rw [hR.len];omega))).1,rfl⟩
 refine ⟨by simp [startG],λi=>?_,?_,by simp,λv hv=>absurd hv sZ⟩
 ·by_cases e:i=(Nt.loss n.nodes).toNat
  ·subst e;exact .inr hg
  ·left
   unfold startG;rw [qaP (Ne.symm e)];unfold Ly.got;rw [gdZ,List.getElem?_replicate]
   split<;>rfl
 ·rintro i-(rfl|⟨v,hv,-⟩)
  ·exact hg
  ·exact absurd hv sZ
theorem ready_of {n:NetD} {ps:List Ten} {x:Ten} (h:fits n ps x=0):∃vals,forward n ps x=(vals,0)/\Ready n ps vals/\Ly.got vals 0=x:=by
 obtain ⟨hc,hl,hp,hx⟩:=fits_ok h;obtain ⟨hm,hr⟩:=par_map hl hp;obtain ⟨hb,ha⟩:=tenIs_ok hx;obtain ⟨c1,c2,c3,c4,c5,c6,c7,c8⟩:=Nt.check_ok hc
 have h0:Done n ps x [] (x::Zc n.nodes.length Ly.none_):=⟨by simp,by simp [Nt.lay,Nt.start,ha,Ly.none_],rfl,λi hi=>by
  rcases hi with rfl|hi
  ·exact hb
  ·simp at hi,by simp⟩
 obtain ⟨out,h1,h2⟩:=qeV hc hm hr (Nt.sorted n.nodes) [] _ rfl h0;refine ⟨out,?_,⟨hc,hm,hr,h2.len,λi hi=>?_,λid a b=>h2.step id ?_⟩,h2.zero⟩
 ·unfold forward
  rw [inZ oZ];exact h1
 ·have:=h2.right (i:Int) (by
   rcases Nat.eq_zero_or_pos i with h0|h0
   ·exact .inl oZ
   ·exact .inr ((Kn.order_full c5 _).2 ⟨by omega,by rw [h2.len] at hi;omega⟩))
  simpa using this
 ·rw [List.nil_append]
  exact (Kn.order_full c5 id).2 ⟨a,b⟩
theorem qeE {n:NetD} {ps vals:List Ten} (hR:Ready n ps vals):∀(k:Nat) (gr pg:List Ten),Back n ps vals ((Nt.sorted n.nodes).drop k) gr pg->
  Back n ps vals (Nt.sorted n.nodes) (bwd n ps vals gr pg ((Nt.sorted n.nodes).take k).reverse).1 (bwd n ps vals gr pg ((Nt.sorted n.nodes).take k).reverse).2
 | 0,gr,pg,h=>by simpa [bwd] using h
 | k+1,gr,pg,h=>by
  by_cases hk:k<(Nt.sorted n.nodes).length
  ·have hs:Nt.sorted n.nodes=(Nt.sorted n.nodes).take k++(Nt.sorted n.nodes)[k]::(Nt.sorted n.nodes).drop (k+1):=by
    rw [←Zd hk,Zn]
   obtain ⟨-,-,-,-,-,h2,-⟩:=back_next hR hs h;rw [←Zd hk] at h2;have:=qeE hR k _ _ h2;rw [Zb hk,List.reverse_append,List.reverse_singleton,List.singleton_append,bwd];exact this
  ·rw [List.take_of_length_le oZ]
   rw [List.drop_eq_nil_of_le oZ] at h;have:=qeE hR k gr pg (by rw [List.drop_eq_nil_of_le oZ];exact h);rw [List.take_of_length_le oZ] at this;exact this
theorem back_all {n:NetD} {ps vals:List Ten} (hR:Ready n ps vals):Back n ps vals (Nt.sorted n.nodes) (back n ps vals).1 (back n ps vals).2:=by
 have:=qeE hR (Nt.sorted n.nodes).length (startG n vals) (Zc ps.length Ly.none_) (by rw [List.drop_length];exact back_start hR);rw [Zg] at this;exact this
end Pn
theorem qcQ {P:Program} (w:Zp1) (dT sT ty elem:TypeId) (size g o dLen dCap:Nat) (a:Addr) (sLen sCap:Nat) (cur:Array Value) (t:TypeId) (cs:List Value)
  (hu:P.underlying dT=some (.slice elem)) (hs:(P.info? elem).map (·.size)=some size)
  (hg:w.heap[g]? = some (.cells cur t (0,0))) (hn:cs.length=Nat.min sLen dLen*size)
  (hsrc:∀j v,cs[j]? = some v->w.cell? (a.add j)=some v) (hfit:o+cs.length<=cur.size) (h1:∀v∈cs,v.oneCell'=true):
  (Builtin.copy_ #[dT,sT] ty #[.slice (some ⟨g,o,none⟩) dLen dCap,.slice (some a) sLen sCap]).run P w=
   .ok (goInt (Nat.min sLen dLen)) (w.setRow g (cur.toList.take o++cs++cur.toList.drop (o+cs.length)).toArray):=by
 have hl:=run_loadCells_list (P:=P) w a cs hsrc;have ha:=run_storeCells_at P g o t cs 0 cur w hg (by simpa using hfit) h1;cases hq:P.info? elem with
 | none=>simp [hq] at hs
 | some i=>
  have hi:i.size=size:=by simpa [hq] using hs
  simp [Builtin.copy_,run_underlying hu,Builtin.lenOf,Builtin.firstCells,sizeOf,typeInfo,hq,hi,←hn,hl,ha]
theorem RowO.spliced {B:Nat} {w:Zp1} {vs us:List Value} {ts ds:List Ten} {k:Nat} (h:RowO B w vs ts) (h2:RowO B w us ds) (hk:k+ds.length<=ts.length):RowO B w (splice vs (k*2) us) (splice ts k ds):=by
 have hl:=h.1;have ha:=h2.1;have hs:(splice ts k ds).length=ts.length:=by unfold splice;simp;omega
 refine ⟨by rw [hs];unfold splice;simp;omega,λj hj=>?_⟩;rw [hs] at hj
 have key:∀m,m<2->((splice vs (k*2) us)[j*2+m]? = if k<=j/\j<k+ds.length then us[(j-k)*2+m]? else vs[j*2+m]?):=λm hm=>by
  unfold splice
  by_cases h1:j<k
  ·rw [inZ oZ,Zm soZ,List.getElem?_take_of_lt oZ]
  ·by_cases h3:j<k+ds.length
   ·rw [ipZ oZ,Zl soZ,Zo,Nat.min_eq_left oZ,Zm oZ]
    congr 1
    omega
   ·rw [inZ oZ,Zl soZ,Zo,Nat.min_eq_left oZ,Zl oZ,List.getElem?_drop]
    congr 1
    omega
 have k0:=key 0 oZ;have k1:=key 1 oZ;rw [Zx] at k0
 by_cases h3:k<=j/\j<k+ds.length
 ·rw [ipZ h3] at k0 k1
  obtain ⟨S,c,C,d,e1,e2,e3⟩:=h2.2 (j-k) oZ
  have eg:(splice ts k ds)[j]'(by rw [hs];exact hj)=ds[j-k]:=by
   have:(splice ts k ds)[j]? = ds[j-k]?:=by
    unfold splice;rw [Zl soZ,Zo,Nat.min_eq_left oZ,Zm oZ]
   rw [geZ (by rw [hs];exact hj),geZ oZ] at this;exact Option.some.inj this
  refine ⟨S,c,C,d,?_,?_,?_⟩
  ·rw [k0,eg];exact e1
  ·rw [k1,eg];exact e2
  ·rw [eg];exact e3
 ·rw [inZ h3] at k0 k1
  obtain ⟨S,c,C,d,e1,e2,e3⟩:=h.2 j hj
  have eg:(splice ts k ds)[j]'(by rw [hs];exact hj)=ts[j]:=by
   have:(splice ts k ds)[j]? = ts[j]?:=by
    unfold splice
    by_cases h1:j<k
    ·rw [Zm soZ,List.getElem?_take_of_lt oZ]
    ·rw [Zl soZ,Zo,Nat.min_eq_left oZ,Zl oZ,List.getElem?_drop]
     congr 1
     omega
   rw [geZ (by rw [hs];exact hj),geZ oZ] at this;exact Option.some.inj this
  refine ⟨S,c,C,d,?_,?_,?_⟩
  ·rw [k0,eg];exact e1
  ·rw [k1,eg];exact e2
  ·rw [eg];exact e3
theorem TnsO.rowO {B:Nat} {w:Zp1} {ad:Addr} {ts:List Ten} (h:TnsO B w (some ad) ts):RowO B w (qac w ad (ts.length*2)) ts/\∀j u,(qac w ad (ts.length*2))[j]? = some u->w.cell? (ad.add j)=some u:=by
 obtain ⟨h1,h2⟩:=h.tns.rowT;refine ⟨⟨h1.1,λj hj=>?_⟩,h2⟩;obtain ⟨S,c,C,d,e1,e2,-⟩:=h1.2 j hj;refine ⟨S,c,C,d,e1,e2,?_⟩;obtain ⟨b,S',c',C',d',e,c0,c1,hO⟩:=h.2 j hj;injection e with e
 subst e;have q1:=h2 _ _ e1;have q2:=h2 _ _ e2;have a1:(⟨b,0,none⟩:Addr).add (j*2)=⟨b,j*2,none⟩:=by rw [qaN,Zw]
 have a2:(⟨b,0,none⟩:Addr).add (j*2+1)=⟨b,j*2+1,none⟩:=by rw [qaN,Zw]
 rw [a1,c0] at q1;rw [a2,c1] at q2;injection q1 with q1
 injection q2 with q2
 injection q1 with q3 _ q4
 injection q2 with q5 _ q6
 subst q3 q4 q5 q6;exact hO
theorem RowO.else_ {B:Nat} {w w':Zp1} {vs:List Value} {ts:List Ten} {p:Nat} (h:RowO B w vs ts) (hE:Else p w w') (hp:∀k z,w.cell? ⟨p,k,none⟩≠some (.int .i64 z)) (hf:∀j,w'.frozen? ⟨p,j,none⟩=false):RowO B w' vs ts:=
 ⟨h.1,λj hj=>by obtain ⟨S,c,C,d,e1,e2,e3⟩:=h.2 j hj;exact ⟨S,c,C,d,e1,e2,e3.else_ hE hp hf⟩⟩
theorem RowO.noint {B:Nat} {w:Zp1} {vs:List Value} {ts:List Ten} {p:Nat} {T:TypeId} (h:RowO B w vs ts) (hz:Blk w p T vs.toArray):∀k z,w.cell? ⟨p,k,none⟩≠some (.int .i64 z):=λk z e=>by
 rw [hz.cell,Zk] at e;obtain ⟨_,_,_,e2⟩:=h.rowT.cell _ (List.mem_of_getElem? e);cases e2
theorem qcR {P:Program} {ops:Array Oper} {o:Oper} {a:Act} {w:Zp1} {K:Act->Zp1->Prop} {Q:Exit->Act->Zp1->Prop} {E:Prop} (hgd:o.guard=none) (d s:Operand) (dT sT:TypeId)
  (ho:o.op=.call { callee:=.builtin .copy,args:=#[d,s],argTypes:=#[dT,sT] }) (elem:TypeId) (hu:P.underlying dT=some (.slice elem)) (hsz:(P.info? elem).map (·.size)=some 2)
  (B g k dCap:Nat) (ad:Addr) (sCap:Nat) (ts ds:List Ten) (hd:a.eval d=.slice (some ⟨g,k*2,none⟩) ds.length dCap) (hs:a.eval s=.slice (some ad) ds.length sCap)
  (vs:List Value) (t:TypeId) (hk:Blk w g t vs.toArray) (hv:RowO B w vs ts) (hsrc:TnsO B w (some ad) ds) (hfit:k+ds.length<=ts.length)
  (h:∀w' vs',Blk w' g t vs'.toArray->RowO B w' vs' (splice ts k ds)->Else g w w'->K (a.put o.dst (goInt ds.length)) w'):
  if Region.wanted o (yielded ops a.tmps)=true then Oper.wp P o a w K Q else E:=by
 have hw:Region.wanted o (yielded ops a.tmps)=true:=by simp [Region.wanted,hgd]
 rw [ipZ hw];obtain ⟨hr,hc⟩:=hsrc.rowO;have hj:=hv.1;have hg:=hr.1
 have hb:∀v∈qac w ad (ds.length*2),v.oneCell'=true:=λv hh=>by
  obtain ⟨_,_,_,e⟩:=hr.rowT.cell _ hh;subst e
  rfl
 have ha:=qcQ (P:=P) w dT sT o.type elem 2 g (k*2) ds.length dCap ad ds.length sCap vs.toArray t (qac w ad (ds.length*2)) hu hsz hk (by rw [hg];show _=Nat.min ds.length ds.length*2;rw [show Nat.min ds.length ds.length=ds.length from Nat.min_self _]) hc soZ hb;rw [show Nat.min ds.length ds.length=ds.length from Nat.min_self _] at ha;unfold Oper.wp;simp [execOp,ho,resolve,invoke,builtin,hd,hs,ha,Result.andThen]
 have hf:Blk (w.setRow g (splice vs (k*2) (qac w ad (ds.length*2))).toArray) g t (splice vs (k*2) (qac w ad (ds.length*2))).toArray:=by
  show _=_
  exact setRow_heap w g _ _ t _ hk
 have he:Else g w (w.setRow g (splice vs (k*2) (qac w ad (ds.length*2))).toArray):=⟨λk hi=>setRow_other w g k _ hi,by simp [World.setRow],below_setRow (Ze1 _ _) (lrZ _) _⟩
 have:=h _ _ hf ((hv.spliced hr hfit).else_ he (hv.noint hk) (λj=>hf.frozen j)) he;exact this
def RunP (r:Pn.Res) (w:Zp1) (e:Ending) (w':Zp1):Prop:=
 ∃GB S C sc cd,e=.returned (.tuple #[.agg #[.int .i64 r.loss,.slice (some ⟨GB,0,none⟩) r.grads.length r.grads.length,.slice S r.x.s.length sc,.slice C r.x.c.length cd],.int .i64 0])/\TnsO w.heap.size w' (some ⟨GB,0,none⟩) r.grads/\TenO w.heap.size w' (.agg #[.slice S r.x.s.length sc,.slice C r.x.c.length cd]) r.x/\Below w.heap.size w w'
theorem qbB {P:Program} {ops:Array Oper} {o:Oper} {a:Act} {K:Act->Zp1->Prop} {Q:Exit->Act->Zp1->Prop} {E:Prop} {w:Zp1} (hg:o.guard=none) (l c:Operand) (t:TypeId) (hop:o.op=Op.makeSlice t l c)
  (base:Nat) (e:TypeId) (i:TypeInfo) (z:Value) (size:Nat) (h1:P.underlying t=some (.slice e)) (h2:P.info? e=some i) (h3:i.zero=some z) (h4:i.size=size)
  (kl kc:IntKind) (n:Nat) (hl:a.eval l=.int kl (n:Int)) (hc:a.eval c=.int kc (n:Int)) (b2:i.bytes*n<=281474976710656) (b3:n<=maxLen) (b4:base<=w.heap.size)
  (hK:∀w',w'.ownsRow base e size (.slice (some ⟨w.heap.size,0,none⟩) n n) n (madeCells z.cells (n*size)).toList->w.grownBy w' none->K (a.put o.dst (.slice (some ⟨w.heap.size,0,none⟩) n n)) w'):
  if Region.wanted o (yielded ops a.tmps)=true then Oper.wp P o a w K Q else E:=by
 have hw:Region.wanted o (yielded ops a.tmps)=true:=by simp [Region.wanted,hg]
 rw [ipZ hw];obtain ⟨w',ha,r1,r2⟩:=run_make_full (P:=P) w base t e i z size h1 h2 h3 h4 kl kc n b2 b3 b4;unfold Oper.wp;simp [execOp,hop,hl,hc,ha,Result.andThen];exact hK w' r1 r2
theorem qdz {P:Program} (w:Zp1) (t ty e:TypeId) (i:TypeInfo) (dp sp:Option Addr) (dc sc:Nat) (ht:P.underlying t=some (.slice e)) (hi:P.info? e=some i):
  (Builtin.copy_ #[t,t] ty #[.slice dp 0 dc,.slice sp 0 sc]).run P w=.ok (goInt 0) w:=by
 cases dp<;>cases sp<;>simp [Builtin.copy_,run_underlying ht,sizeOf,typeInfo,hi,Builtin.lenOf,Builtin.firstCells,loadCells,loadCellsFrom,storeCells]
theorem qcS {P:Program} {ops:Array Oper} {o:Oper} {a:Act} {w:Zp1} {K:Act->Zp1->Prop} {Q:Exit->Act->Zp1->Prop} {E:Prop} (hgd:o.guard=none) (d s:Operand) (t:TypeId)
  (ho:o.op=.call { callee:=.builtin .copy,args:=#[d,s],argTypes:=#[t,t] }) (e:TypeId) (i:TypeInfo) (hu:P.underlying t=some (.slice e)) (hi:P.info? e=some i)
  (dp sp:Option Addr) (dc sc:Nat) (hd:a.eval d=.slice dp 0 dc) (hs:a.eval s=.slice sp 0 sc) (h:K (a.put o.dst (goInt 0)) w):
  if Region.wanted o (yielded ops a.tmps)=true then Oper.wp P o a w K Q else E:=by
 have hw:Region.wanted o (yielded ops a.tmps)=true:=by simp [Region.wanted,hgd]
 rw [ipZ hw];have ha:=qdz (P:=P) w t o.type e i dp sp dc sc hu hi;unfold Oper.wp;simp [execOp,ho,resolve,invoke,builtin,hd,hs,ha,Result.andThen];exact h
theorem qeX {w:Zp1} {A:Option Addr} {l:List Int} {p:Addr} (h:Ints .i64 w A l) (hA:∀a,A=some a->a.block≠p.block) (u:Value):Ints .i64 (w.setCell p u) A l:=λj hj=>by
 obtain ⟨b,off,e,hl,hc⟩:=h j hj;exact ⟨b,off,e,by simpa using hl,(qaD (Below.heap_setCell w p u b (hA _ e)) _).trans hc⟩
theorem Ints.slot {w:Zp1} {A:Option Addr} {l:List Int} {p:Addr} {v:Value} (h:Ints .i64 w A l) (hp:w.cell? p=some v) (hv:∀z,v≠.int .i64 z) (u:Value):Ints .i64 (w.setCell p u) A l:=λj hj=>by
 obtain ⟨b,off,e,hl,hc⟩:=h j hj;refine ⟨b,off,e,by simpa using hl,?_⟩;rw [World.cell?_setCell_other]
 ·exact hc
 ·rintro rfl
  rw [hp] at hc;injection hc with hc
  exact hv _ hc
theorem RowO.slot {B:Nat} {w:Zp1} {vs:List Value} {ts:List Ten} {p:Addr} {v:Value} (h:RowO B w vs ts) (hp:w.cell? p=some v) (hv:∀z,v≠.int .i64 z) (u:Value):RowO B (w.setCell p u) vs ts:=
 ⟨h.1,λj hj=>by
  obtain ⟨S,c,C,d,e1,e2,S',c',C',d',h1,h2,h3,h4⟩:=h.2 j hj;exact ⟨S,c,C,d,e1,e2,S',c',C',d',h1,{ h2 with r:=⟨h2.r.1.slot hp hv u,h2.r.2.slot hp hv u⟩ },h3,λa e=>by obtain ⟨k1,k2,k3⟩:=h4 a e;exact ⟨k1,by simpa using k2,λj=>by rw [World.frozen?_setCell];exact k3 j⟩⟩⟩
theorem RowO.far {B:Nat} {w:Zp1} {vs:List Value} {ts:List Ten} {p:Addr} (h:RowO B w vs ts) (hp:p.block<B) (u:Value):RowO B (w.setCell p u) vs ts:=
 ⟨h.1,λj hj=>by
  obtain ⟨S,c,C,d,e1,e2,S',c',C',d',h1,h2,h3,h4⟩:=h.2 j hj;exact ⟨S,c,C,d,e1,e2,S',c',C',d',h1,{ h2 with r:=⟨qeX h2.r.1 (λa e=>by have:=h3 a e;omega) u,qeX h2.r.2 (λa e=>by have:=(h4 a e).1;omega) u⟩ },h3,λa e=>by obtain ⟨k1,k2,k3⟩:=h4 a e;exact ⟨k1,by simpa using k2,λj=>by rw [World.frozen?_setCell];exact k3 j⟩⟩⟩
theorem TnsO.off {B p i k:Nat} {w:Zp1} {A:Option Addr} {ts:List Ten} {T:TypeId} {vs:List Value} (h:TnsO B w A ts) (hz:Blk w p T vs.toArray) (hv:∀u∈vs,∃A n c,u=Zb1 A n c) (hp:p<B) (u u2:Value):
  TnsO B ((w.setCell ⟨p,i,none⟩ u).setCell ⟨p,k,none⟩ u2) A ts:=by
 refine ⟨λa e=>?_,λj hj=>?_⟩
 ·obtain ⟨b,h1,h2,h3,h4⟩:=h.1 a e
  exact ⟨b,h1,h2,by simpa using h3,λk=>by rw [World.frozen?_setCell,World.frozen?_setCell];exact h4 k⟩
 ·obtain ⟨b,S,c,C,d,e,c0,c1,hO⟩:=h.2 j hj
  obtain ⟨b2,q1,q2,-,-⟩:=h.1 _ e;injection q1 with q1
  exact ⟨b,S,c,C,d,e,qa0 (qa0 c0 (by show b≠p;omega)) (by show b≠p;omega),qa0 (qa0 c1 (by show b≠p;omega)) (by show b≠p;omega),hO.off hz hv u u2⟩
theorem TnsO.else_ {B p:Nat} {w w':Zp1} {A:Option Addr} {ts:List Ten} (h:TnsO B w A ts) (hE:Else p w w') (hp:∀k z,w.cell? ⟨p,k,none⟩≠some (.int .i64 z)) (hf:∀j,w'.frozen? ⟨p,j,none⟩=false) (hB:p<B):TnsO B w' A ts:=by
 refine ⟨λa e=>?_,λj hj=>?_⟩
 ·obtain ⟨b,h1,h2,h3,h4⟩:=h.1 a e
  refine ⟨b,h1,h2,by rw [hE.2.1];exact h3,λk=>?_⟩;have:=h4 k;unfold World.frozen? at this ⊢;rw [hE.1 b oZ];exact this
 ·obtain ⟨b,S,c,C,d,e,c0,c1,hO⟩:=h.2 j hj
  obtain ⟨b2,q1,q2,-,-⟩:=h.1 _ e;injection q1 with q1
  exact ⟨b,S,c,C,d,e,(Zi1 (hE.1 b oZ)).trans c0,(Zi1 (hE.1 b oZ)).trans c1,hO.else_ hE hp hf⟩
theorem qfu (ts:List Ten) (k:Nat):splice ts k []=ts:=by unfold splice;simp
theorem qcT {P:Program} {ops:Array Oper} {o:Oper} {a:Act} {w:Zp1} {K:Act->Zp1->Prop} {Q:Exit->Act->Zp1->Prop} {E:Prop} (hgd:o.guard=none) (d s:Operand) (T:TypeId)
  (ho:o.op=.call { callee:=.builtin .copy,args:=#[d,s],argTypes:=#[T,T] }) (elem:TypeId) (i:TypeInfo) (hu:P.underlying T=some (.slice elem)) (hi:P.info? elem=some i) (hsz:i.size=2)
  (B g k m n1 dCap:Nat) (PA:Option Addr) (sCap:Nat) (ts ds:List Ten) (hd:a.eval d=.slice (if m=k then some ⟨g,0,none⟩ else (some (⟨g,0,none⟩:Addr)).map λa=>a.add (k*2)) n1 dCap) (hs:a.eval s=.slice PA ds.length sCap)
  (vs:List Value) (t:TypeId) (hk:Blk w g t vs.toArray) (hv:RowO B w vs ts) (hsrc:TnsO B w PA ds) (hm:ts.length=m) (hn:ds.length=n1) (hfit:k+ds.length<=ts.length)
  (h:∀w' vs',Blk w' g t vs'.toArray->RowO B w' vs' (splice ts k ds)->Else g w w'->K (a.put o.dst (goInt n1)) w'):
  if Region.wanted o (yielded ops a.tmps)=true then Oper.wp P o a w K Q else E:=by
 subst hn
 by_cases h0:ds.length=0
 ·obtain rfl:=List.eq_nil_of_length_eq_zero h0
  exact qcS hgd d s T ho elem i hu hi _ _ _ _ hd hs (h w vs hk (by rw [qfu];exact hv) (Else.refl _ _))
 ·obtain ⟨b,S,c,C,dd,e,-⟩:=hsrc.2 0 oZ
  subst e;rw [inZ oZ] at hd;exact qcR hgd d s T T ho elem hu (by rw [hi];simp [hsz]) B g k dCap ⟨b,0,none⟩ sCap ts ds (by rw [hd,Option.map_some,qaN,Zw]) hs vs t hk hv hsrc hfit h
theorem Else.later {w0 w w':Zp1} {g:Nat} (h:Else g w w') (hl:Later w0 w) (hg:w0.heap.size<=g):Later w0 w':=Below.trans hl (h.2.2.mono hg)
def RunCut (w0:Zp1) (z:Int) (m:Nat) (a:Value) (wx:Zp1):Prop:=
 ∃rb gp,a=.pointer (some ⟨rb,0,none⟩)/\w0.heap.size<=rb/\w0.heap.size<=gp/\Blk wx rb 66 #[.int .i64 z,.slice (some ⟨gp,0,none⟩) m m,.slice none 0 0,.slice none 0 0]/\Blk wx gp 30 (Zc (m*2) (Zb1 none 0 0)).toArray/\Later w0 wx
def BkCut (w0:Zp1) (R:Ly.Bk × Int) (a b:Value) (wx:Zp1):Prop:=
 ∃PA XA tb,a=.pointer (some ⟨tb,0,none⟩)/\b=.int .i64 0/\Blk wx tb 38 #[.slice PA R.1.p.length R.1.p.length,.slice XA R.1.x.length R.1.x.length]/\TnsO w0.heap.size wx PA R.1.p/\TnsO w0.heap.size wx XA R.1.x/\w0.heap.size<=tb/\Later w0 wx
set_option maxRecDepth 20000 in
theorem qeb (A N P XS XC:Option Addr) (c d cp xc xd:Nat) (n:NetD) (ps:List Ten) (x:Ten) (w:Zp1) (hok:n.ok) (hR:NetR w A N n) (hd:n.nodes.length<=d) (hP:Tns w P ps) (lP:ps.length<=1048576) (kP:ps.length<=cp) (mP:cp<=9223372036854775807) (nP:P=none->cp=0) (hX:TenIn w XS XC xc xd x) (hf:Pn.fits n ps x=0):
  Calls Tryz.prog 24 #[.agg #[.slice A n.inn.length c,.slice N n.nodes.length d],.slice P ps.length cp,.agg #[.slice XS x.s.length xc,.slice XC x.c.length xd]] w (RunP (Pn.run n ps x) w):=by
 have kx:=((Blk.new w 59 #[.slice A n.inn.length c,.slice N n.nodes.length d]).alloc (.cells #[.slice XS x.s.length xc,.slice XC x.c.length xd] 30)).alloc (.cells #[.int .i64 0,.slice none 0 0,.slice none 0 0,.slice none 0 0] 66);have GK:=(Blk.new (w.alloc (.cells #[.slice A n.inn.length c,.slice N n.nodes.length d] 59)) 30 #[.slice XS x.s.length xc,.slice XC x.c.length xd]).alloc (.cells #[.int .i64 0,.slice none 0 0,.slice none 0 0,.slice none 0 0] 66);have hz:=Blk.new ((w.alloc (.cells #[.slice A n.inn.length c,.slice N n.nodes.length d] 59)).alloc (.cells #[.slice XS x.s.length xc,.slice XC x.c.length xd] 30)) 66 #[.int .i64 0,.slice none 0 0,.slice none 0 0,.slice none 0 0];simp only [Zh1] at GK hz;have kO:Later w (((w.alloc (.cells #[.slice A n.inn.length c,.slice N n.nodes.length d] 59)).alloc (.cells #[.slice XS x.s.length xc,.slice XC x.c.length xd] 30)).alloc (.cells #[.int .i64 0,.slice none 0 0,.slice none 0 0,.slice none 0 0] 66)):=(((Later.refl w).alloc _).alloc _).alloc _;obtain ⟨vals,Gt,HB,mE⟩:=Pn.ready_of hf;have hB:=HB.chk;have mI:=Pn.part_at HB.pm (id:=1);have HD:=HB.len;obtain ⟨n1,n5,-,hb,gQ,-,-,-⟩:=Nt.check_ok hB;have gA:=Nt.bads_all hb;obtain ⟨mn,mf⟩:=Pn.loss_rng hB;obtain ⟨L,hL⟩:∃L:Nat,Nt.loss n.nodes=(L:Int):=⟨(Nt.loss n.nodes).toNat,by omega⟩
 rw [hL] at mn mf;have mc:L<vals.length:=by omega
 have H2:=HB.all L mc;obtain ⟨y,hy⟩:∃y,Ly.got vals L=y:=⟨_,rfl⟩
 rw [hy] at H2;obtain ⟨y4,y6⟩:=Ly.right_ok H2;have kJ:=Pn.right_pos H2
 have gy:Pn.run n ps x=⟨Ly.at_ y.c 0,(Pn.back n ps vals).2,Ly.got (Pn.back n ps vals).1 0⟩:=by
  unfold Pn.run;rw [Gt,hL,tnZ]
  show (⟨Ly.at_ (Ly.got vals L).c 0,_,_⟩:Pn.Res)=_
  rw [hy]
 have hn:Pn.startG n vals=(Zc (n.nodes.length+1) Ly.none_).set L (Pn.ones y.s):=by
  unfold Pn.startG;rw [hL,tnZ,hy]
 have Hd:qek n=(L:Int):=by unfold qek;rw [ipZ hB,hL]
 have Hf:Pn.back n ps vals=Pn.bwd n ps vals ((Zc (n.nodes.length+1) Ly.none_).set L (Pn.ones y.s)) (Zc ps.length Ly.none_) (Nt.sorted n.nodes).reverse:=by
  unfold Pn.back;rw [hn]
 rw [gy];clear hb mI gy mE hL hf;obtain ⟨HY,HR,HP,HX,GF,k6,Hz,Gi,kE⟩:=zd9 hok hR hP hX kx GK hz kO nP;obtain ⟨mu,G5,GX,HE,GA,Hy,KE,hE,gt⟩:=zd9 Gt HB HD gQ gA hy H2 hn Hd;obtain ⟨Hg,H5⟩:=zd2 Hf hB;clear hok hR hP hX kx GK hz kO nP Gt HB HD gQ gA hy H2 hn Hd Hf hB;go_enter Tryz.func24,Tryz.ntmps24;go_upto_region 1 with fail;generalize ((w.alloc (.cells #[.slice A n.inn.length c,.slice N n.nodes.length d] 59)).alloc (.cells #[.slice XS x.s.length xc,.slice XC x.c.length xd] 30)).alloc (.cells #[.int .i64 0,.slice none 0 0,.slice none 0 0,.slice none 0 0] 66)=w1 at *;have a0:=GF.out.cell 0;have a1:=GF.out.cell 1;have b0:=k6.out.cell 0;have b1:=k6.out.cell 1;simp at a0 a1 b0 b1
 have Ks:Calls Tryz.prog 23 #[.agg #[.slice A n.inn.length c,.slice N n.nodes.length d],.slice P ps.length cp,.agg #[.slice XS x.s.length xc,.slice XC x.c.length xd]] w1 (FwdP (vals,0) w1):=by
  have:=qb8 A N P XS XC c d cp xc xd n ps x w1 HY.out (HR.out.below Gi.out (lrZ _)) hd (HP.out.later Gi.out) lP kP mP kE.out (HX.out.later Gi.out);rw [mu.out] at this;exact this
 have me:=zI Ks;clear Ks;go_wp2_with fail;refine (me.out).mono ?_;rintro e w2 ⟨⟨hb,-⟩|⟨-,G,rfl,hV⟩,kW⟩
 ·exact absurd rfl hb
 have H6:Later w1 w2:=kW;have GO:=Gi.out.trans H6;have Gr:=H6.blk GF.out;have kq:=H6.blk Hz.out;have Gw:Tns w2 (some ⟨G,0,none⟩) vals:=hV.tns;obtain ⟨bv,off,S1,s1c,C1,c1c,eG,-,v0,v1,Gu⟩:=Gw.at_ (j:=L) (by rw [GX.out];omega);injection eG with eG
 injection eG with eG eo _
 subst eG eo;rw [Hy.out] at v0 v1 Gu;rw [Zw] at v0 v1;rw [show (vals,(0:Int)).1.length=n.nodes.length+1 from GX.out];clear kW a0 a1 b0 b1 hV;have a0:=Gr.cell 0;have a1:=Gr.cell 1;simp at a0 a1;have HF:=qdO A N c d n w2 HY.out (HR.out.below GO (lrZ _)) hd;obtain ⟨mT,Kq,KU,KX,K1,kY,kp,K3⟩:=zd8 H6 GO Gr kq Gw Gu v0 v1;clear H6 GO Gr kq Gw Gu v0 v1;go_wp2_with fail;refine (show Calls Tryz.prog 71 #[.agg #[.slice A n.inn.length c,.slice N n.nodes.length d]] w2 (OrderP n w2) from HF).mono ?_;rintro e w3 ⟨kf,⟨-,O,oc,rfl,hO,m6,mX⟩|⟨hb,-⟩⟩
 rotate_left
 ·exact absurd H5.out hb
 have gI:Later w2 w3:=kf;have GB:=Kq.out.trans gI;have Gg:=gI.blk KU.out;have k9:=gI.blk KX.out;clear kf a0 a1 HF;have a0:=Gg.cell 0;have a1:=Gg.cell 1;simp at a0 a1
 have HV:Calls Tryz.prog 74 #[.agg #[.slice A n.inn.length c,.slice N n.nodes.length d]] w3 λe w'=>e=.returned (.tuple #[.int .i64 (L:Int),.int .i64 0])/\Below w3.heap.size w3 w':=by
  have:=net_loss A N c d n w3 HY.out (HR.out.below GB (lrZ _)) hd;rw [gt.out,H5.out] at this;exact this
 obtain ⟨mC,mr,mx,KO,HO,HJ⟩:=zd6 gI GB Gg k9 hO HV;clear gI GB Gg k9 hO HV;go_wp2_with fail;refine (HJ.out).mono ?_;rintro e w4 ⟨rfl,kV⟩;have HC:Later w3 w4:=kV;have GV:=mr.out.trans HC;have kR:=HC.blk mx.out;have Gv:=HC.blk KO.out;have kD:=mC.out.trans HC;clear kV a0 a1;have mH:=GV.size;have q1:IntKind.i64.wrap ((n.nodes.length:Int)+1)=(n.nodes.length:Int)+1:=Zc1 _ oZ;obtain ⟨KS,gZ,Gq,GM,Gb⟩:=zd5 HC GV kR Gv kD;clear HC GV kR Gv kD;obtain ⟨i0,hi,gV,gB,HZ⟩:=info_parts qb2;go_wp2_with (at_make;refine wpList_make_full _ rfl _ _ 27 rfl w.heap.size 30 i0 (.agg #[.slice none 0 0,.slice none 0 0]) 2 Tryz.underlying27 hi gV gB _ _ _ _ (n.nodes.length+1) rfl rfl (by first|rfl|simp) (by first|rfl|simp) ?b2 ?b3 mH ?_)
 case b2=>rw [HZ];omega
 case b3=>unfold maxLen;omega
 intro w5 hown hgrow;clear hi gV gB HZ
 have Kw:Blk w5 w4.heap.size 30 (Zc ((n.nodes.length+1)*2) (Zb1 none 0 0)).toArray:=by
  have h:=qc8 hown;rw [qb3] at h;exact h
 have GD:Later w4 w5:=(Ze1 _ w4).grown hgrow (lrZ _) sZ;clear hown hgrow;have Gk:=Gb.out.trans GD;have p0:=Gk.cell kp.out;have k8:=(kY.out.later Gk).r.1;have g1:(L:Int)<(n.nodes.length:Int)+1:=by omega
 obtain ⟨k4,Ko,mi,mL⟩:=zd4 Kw GD Gk k8;clear Kw GD Gk k8;go_wp2_with fail;refine (qbE S1 s1c y.s 4294967296 w5 oZ mL.out).mono ?_;rintro e w6 ⟨Kt,Gd⟩;obtain ⟨⟨hb,-⟩|⟨-,v,rfl,hT⟩,Gd⟩:=And.intro Kt Gd
 ·exact absurd (Ly.right_s KE.out).1 (by rw [hb];simp)
 have Gy:Later w5 w6:=Gd;have Kk:=mi.out.trans Gy;have KA:=Ko.out.trans Gy;have hp:=Gy.blk k4.out;have kc:=k4.out.lt
 have k5:TenO w5.heap.size w6 v (Pn.ones y.s):=TenN.o (t:=Pn.ones y.s) hT (by show y.s.length<=_;omega) (by
  have:=Ly.right_ok (Pn.ones_good (Ly.right_s KE.out).1);omega) (by intro z hz;have:=(List.mem_replicate.1 hz).2;subst this;unfold Fx.In;omega)
 obtain ⟨g,hh,rfl,hg,mY,-,-⟩:=hT;have n1:g≠w4.heap.size:=by omega
 have n2:hh≠w4.heap.size:=by omega
 have e0:w6.cell? ⟨w4.heap.size,L*2,none⟩=some (.slice none 0 0):=by rw [hp.cell,Zk,List.getElem?_replicate,ipZ oZ]
 have e1:w6.cell? ⟨w4.heap.size,L*2+1,none⟩=some (.slice none 0 0):=by rw [hp.cell,Zk,List.getElem?_replicate,ipZ oZ]
 have f0:=hp.frozen (L*2);have f1:=hp.frozen (L*2+1);have H0:=((RowO.zeros (w.heap.size+3) w6 (n.nodes.length+1)).set (k:=L) soZ (k5.base (by have:=GM.out.lt;have:=Ko.out.size;omega)))
 have Hw:RowO (w.heap.size+3) ((w6.setCell ⟨w4.heap.size,L*2,none⟩ (.slice (some ⟨g,0,none⟩) (Pn.ones y.s).s.length (Pn.ones y.s).s.length)).setCell ⟨w4.heap.size,L*2+1,none⟩ (.slice (some ⟨hh,0,none⟩) (Pn.ones y.s).c.length (Pn.ones y.s).c.length)) (((Zc ((n.nodes.length+1)*2) (Zb1 none 0 0)).set (L*2) (.slice (some ⟨g,0,none⟩) (Pn.ones y.s).s.length (Pn.ones y.s).s.length)).set (L*2+1) (.slice (some ⟨hh,0,none⟩) (Pn.ones y.s).c.length (Pn.ones y.s).c.length)) ((Zc (n.nodes.length+1) Ly.none_).set L (Pn.ones y.s)):=H0.off (i:=L*2) (k:=L*2+1) hp (RowO.zeros 0 w6 (n.nodes.length+1)).rowT.cell (.slice (some ⟨g,0,none⟩) (Pn.ones y.s).s.length (Pn.ones y.s).s.length) (.slice (some ⟨hh,0,none⟩) (Pn.ones y.s).c.length (Pn.ones y.s).c.length);have h5:=(hp.set_ (L*2) (.slice (some ⟨g,0,none⟩) (Pn.ones y.s).s.length (Pn.ones y.s).s.length)).set_ (L*2+1) (.slice (some ⟨hh,0,none⟩) (Pn.ones y.s).c.length (Pn.ones y.s).c.length);rw [List.setIfInBounds_toArray,List.setIfInBounds_toArray] at h5;have kU:=(Kk.set (p:=⟨w4.heap.size,L*2,none⟩) (by have:=Gb.out.size;simp;omega) (.slice (some ⟨g,0,none⟩) (Pn.ones y.s).s.length (Pn.ones y.s).s.length)).set (p:=⟨w4.heap.size,L*2+1,none⟩) (by have:=Gb.out.size;simp;omega) (.slice (some ⟨hh,0,none⟩) (Pn.ones y.s).c.length (Pn.ones y.s).c.length);have kF:=(KA.set (p:=⟨w4.heap.size,L*2,none⟩) (lrZ _) (.slice (some ⟨g,0,none⟩) (Pn.ones y.s).s.length (Pn.ones y.s).s.length)).set (p:=⟨w4.heap.size,L*2+1,none⟩) (lrZ _) (.slice (some ⟨hh,0,none⟩) (Pn.ones y.s).c.length (Pn.ones y.s).c.length);obtain ⟨bc,oc2,rfl,-,yc⟩:=(kY.out).cell (k:=0) oZ;rw [Zx] at yc;rw [show (⟨y.s,Zc (Safe.prod y.s).toNat 4294967296⟩:Ten)=Pn.ones y.s from rfl];generalize hsl7:((Zc ((n.nodes.length+1)*2) (Zb1 none 0 0)).set (L*2) (.slice (some ⟨g,0,none⟩) (Pn.ones y.s).s.length (Pn.ones y.s).s.length)).set (L*2+1) (.slice (some ⟨hh,0,none⟩) (Pn.ones y.s).c.length (Pn.ones y.s).c.length)=vs7 at Hw h5
 clear p0 Gd Kt k5 Kk KA hp H0 hsl7;obtain ⟨Hq,gM,Hb,kg,ma⟩:=zd5 h5 Hw kU kF yc;clear h5 Hw kU kF yc;generalize (Pn.ones y.s).s.length=os at *;generalize (Pn.ones y.s).c.length=oc3 at *;go_upto_region 14 with fail;clear e0 e1 f0 f1 g1;generalize (w6.setCell ⟨w4.heap.size,L*2,none⟩ (.slice (some ⟨g,0,none⟩) os os)).setCell ⟨w4.heap.size,L*2+1,none⟩ (.slice (some ⟨hh,0,none⟩) oc3 oc3)=w7 at *;have v0:=Hb.out.cell kp.out;have v1:=Hb.out.cell K3.out;have y0:=Hb.out.cell ma.out;have g1:(L:Int)<(n.nodes.length:Int)+1:=by omega
 go_cut [13] (RunCut w7 (Ly.at_ y.c 0) ps.length)
 case first=>
  obtain ⟨i0,hi,gV,gB,HZ⟩:=info_parts qb2;have gl1:G<w7.heap.size:=Zj1 _ _ v1;have gl2:bc<w7.heap.size:=Zj1 _ _ y0;have ms:=Hb.out.size;have my:=Kq.out.size;have hi:=zI hi;have u1:0<y.c.length:=by omega
  have KF:=zI (show ∀Xw,Later w7 Xw->Xw.cell? ⟨G,L*2+1,none⟩=some (.slice (some ⟨bc,oc2,none⟩) y.c.length c1c)/\Xw.cell? ⟨bc,oc2,none⟩=some (.int .i64 (Ly.at_ y.c 0)) from λXw h=>⟨h.cell v1,h.cell y0⟩);refine Zm1 ?_;refine Zl1 (S:=λXw=>Xw.cell? ⟨G,L*2+1,none⟩=some (.slice (some ⟨bc,oc2,none⟩) y.c.length c1c)/\Xw.cell? ⟨bc,oc2,none⟩=some (.int .i64 (Ly.at_ y.c 0))) krZ (KF.out _ Lau) (λhHeld=>?_);refine tk 0 ?_;refine tk 1 ?_;refine tk 2 ?_;refine tk 3 ?_;refine tk 4 ?_;refine tk 5 ?_;refine tk 6 ?_;refine tk 7 ?_;refine tk 8 ?_;refine Zo1 (rs:=[9,11]) krZ sZ ?_;refine Zf1 (o:=_) rfl (λK hK=>?_) (Zf1 (o:=_) rfl (λK hK=>?_) (Zg1))
  ·refine qbB (by rfl) _ _ 27 (by rfl) w.heap.size 30 i0 (.agg #[.slice none 0 0,.slice none 0 0]) 2 Tryz.underlying27 hi.out gV gB .i64 .i64 ps.length (by rfl) (by rfl) (by rw [HZ];omega) (by unfold maxLen;omega) (by have:=Hb.out.size;first|omega|(simp;omega)) ?_
   intro w8 hown hgrow;have mk:=(Ze1 _ _).grown hgrow (lrZ _) sZ;have H8:=qc8 hown;rw [show (madeCells (Value.agg #[Zb1 none 0 0,Zb1 none 0 0]).cells (ps.length*2)).toList=Zc (ps.length*2) (Zb1 none 0 0) from qb3 _] at H8;refine hK.out _ _ (KF.out _ Lau) (λhHeld=>?_);clear hK K
   try simp only [ga,gs,gz,Act.put,sa,sz,ss]
   refine tk 10 ?_;refine rd 11 λK hK=>?_
   simp only [ga,gs,gz]
   go_simp
   refine hK.out _ _ (KF.out _ Lau) (λhHeld=>?_);clear hK K
   try simp only [ga,gs,gz,Act.put,sa,sz,ss]
   refine rd 12 λK hK=>?_
   simp only [ga,gs,gz]
   go_simp
   refine hK.out _ _ ?_ (λhHeld=>?_)
   ·(try dsimp only);(refine ⟨?_,?_⟩<;>(repeat (refine qa0 ?_ (by first|omega|(simp;done)|(simp;omega))))<;>(refine Later.cell (Lau:Later w7 _) ?_)<;>assumption)
   clear hK K
   try simp only [ga,gs,gz,Act.put,sa,sz,ss]
   clear KF;refine Zn1 krZ ?_ _;refine Zd1 ?_;have Gf:Later w7 w8:=(Lau:Later w7 w8)
   go_wp2_with fail
   go_meet
   exact ⟨w8.heap.size,_,rfl,Gf.size,lrZ _,Blk.new w8 _ _,H8.alloc _,Gf.alloc _⟩
  ·simp only [ga,gs,gz]
   go_simp
   refine hK.out _ _ (KF.out _ Lau) (λhHeld=>?_);clear hK K
   try simp only [ga,gs,gz,Act.put,sa,sz,ss]
   refine rd 9 λK hK=>?_
   refine qbB (by rfl) _ _ 27 (by rfl) w.heap.size 30 i0 (.agg #[.slice none 0 0,.slice none 0 0]) 2 Tryz.underlying27 hi.out gV gB .i64 .i64 ps.length (by rfl) (by rfl) (by rw [HZ];omega) (by unfold maxLen;omega) (by have:=Hb.out.size;first|omega|(simp;omega)) ?_;intro w8 hown hgrow;have mk:=(Ze1 _ _).grown hgrow (lrZ _) sZ;have H8:=qc8 hown;rw [show (madeCells (Value.agg #[Zb1 none 0 0,Zb1 none 0 0]).cells (ps.length*2)).toList=Zc (ps.length*2) (Zb1 none 0 0) from qb3 _] at H8;have hu:=Blk.grown ((Blk.new w7 66 #[.int .i64 0,.slice none 0 0,.slice none 0 0,.slice none 0 0]).drew) hgrow sZ;have k0:=hu.cell 0;have k1:=hu.cell 1;have k2:=hu.cell 2;have k3:=hu.cell 3;have kf0:=hu.frozen 0;have kf1:=hu.frozen 1;have kf2:=hu.frozen 2;have kf3:=hu.frozen 3;simp at k0 k1 k2 k3;have Gn:=zI hu;clear hu;refine hK.out _ _ (KF.out _ Lau) (λhHeld=>?_);clear hK K
   try simp only [ga,gs,gz,Act.put,sa,sz,ss]
   refine tk 10 ?_;refine rd 12 λK hK=>?_
   simp only [ga,gs,gz]
   go_simp
   refine hK.out _ _ ?_ (λhHeld=>?_)
   ·(try dsimp only);(refine ⟨?_,?_⟩<;>(repeat (refine qa0 ?_ (by first|omega|(simp;done)|(simp;omega))))<;>(refine Later.cell (Lau:Later w7 _) ?_)<;>assumption)
   clear hK K
   try simp only [ga,gs,gz,Act.put,sa,sz,ss]
   clear KF;refine Zn1 krZ ?_ _;refine Zd1 ?_;have Gf:Later w7 w8:=(Lau:Later w7 w8)
   go_wp2_with fail
   go_meet
   have K9:Blk w8 (w7.heap.size+1) 30 (Zc (ps.length*2) (Zb1 none 0 0)).toArray:=by simpa using H8
   have KQ:=(((Gn.out.set_ 0 (.int .i64 (Ly.at_ y.c 0))).set_ 1 (.slice (some ⟨w7.heap.size+1,0,none⟩) ps.length ps.length)).set_ 2 (.slice none 0 0)).set_ 3 (.slice none 0 0);exact ⟨w7.heap.size,w7.heap.size+1,rfl,lrZ _,Zy _,(by simpa using KQ),((((K9.far (p:=⟨w7.heap.size,0,none⟩) sZ _).far (p:=⟨w7.heap.size,1,none⟩) sZ _).far (p:=⟨w7.heap.size,2,none⟩) sZ _).far (p:=⟨w7.heap.size,3,none⟩) sZ _),(((Gf.set (p:=⟨w7.heap.size,0,none⟩) (lrZ _) _).set (p:=⟨w7.heap.size,1,none⟩) (lrZ _) _).set (p:=⟨w7.heap.size,2,none⟩) (lrZ _) _).set (p:=⟨w7.heap.size,3,none⟩) (lrZ _) _⟩
 case rest=>
  obtain ⟨rb,gp,rfl,mS,KV,Kj,He,ho⟩:=hcut;have K2:=Hq.out.lt;clear v0 v1 y0;have H3:=ho.blk Hq.out;have g0:=gM.out.later ho;have KD:=kg.out.trans ho;have ke:=Hb.out.trans ho;have q2:IntKind.i64.wrap ((n.nodes.length:Int)-1)=(n.nodes.length:Int)-1:=Zc1 _ oZ;have hm:=Pn.back_start G5.out;rw [hE.out] at hm;clear Hq gM Hb kg hE;obtain ⟨KM,gL,mG,gG,gk,kQ,mZ,hA⟩:=zd8 Kj He ho H3 g0 KD ke hm;clear Kj He ho H3 g0 KD ke hm;clear g1;go_wp2_with fail;clear q2;have Gv:=GM.out.lt
  go_loopw [14] (λi wx=>∃(z:Int) (k:Nat) (vs us:List Value) (gr pg:List Ten),i=.int .i64 z/\z=(k:Int)-1/\k<=n.nodes.length/\Blk wx w4.heap.size 30 vs.toArray/\RowO (w.heap.size+3) wx vs gr/\Blk wx gp 30 us.toArray/\RowO (w.heap.size+3) wx us pg/\Blk wx rb 66 #[.int .i64 (Ly.at_ y.c 0),.slice (some ⟨gp,0,none⟩) ps.length ps.length,.slice none 0 0,.slice none 0 0]/\Later w4 wx/\Pn.Back n ps vals ((Nt.sorted n.nodes).drop k) gr pg/\Pn.back n ps vals=Pn.bwd n ps vals gr pg ((Nt.sorted n.nodes).take k).reverse) (λi _=>(intOf i+1).toNat)
  case atStart=>exact ⟨_,n.nodes.length,_,_,_,_,rfl,rfl,lrZ _,gG.out,gk.out,gL.out,RowO.zeros _ _ _,KM.out,kQ.out,by rw [List.drop_eq_nil_of_le (by rw [HE.out];exact lrZ _)];exact hA.out,by rw [List.take_of_length_le (by rw [HE.out];exact lrZ _)];exact Hg.out⟩
  case round=>
   obtain ⟨z,k,vs,us,gr,pg,rfl,Kr,hk,hG,ge,hN,h0,hl,Ha,he,HM⟩:=hrel;clear gG gk gL KM hA Hg kQ mG;rcases Nat.eq_zero_or_pos k with K7|mg
   ·subst K7
    obtain rfl:z = -1:=by omega
    rw [List.take_zero,List.reverse_nil,Pn.bwd] at HM;rw [HM];have H9:0<gr.length:=by rw [he.len];omega
    have hH:=he.plen;obtain ⟨S3,c3,C3,d3,e1,e2,Ky⟩:=ge.2 0 H9;rw [←qan H9] at e1 e2 Ky;have e0':wr.cell? ⟨w4.heap.size,0,none⟩=some (.slice S3 (Ly.got gr 0).s.length c3):=by rw [hG.cell,Zk];simpa using e1
    have e1':wr.cell? ⟨w4.heap.size,1,none⟩=some (.slice C3 (Ly.got gr 0).c.length d3):=by rw [hG.cell,Zk];simpa using e2
    have hM:=Ha.blk GM.out;have HT:=gZ.out.trans Ha
    have nrg:gp≠rb:=by
     rintro rfl;have:=hl.symm.trans hN;simp at this
    have n3:w.heap.size+1+1≠rb:=by omega
    have n4:gp≠w.heap.size+1+1:=by omega
    have k2:wr.cell? ⟨rb,2,none⟩=some (.slice none 0 0):=by rw [hl.cell];rfl
    have k3a:(wr.setCell ⟨rb,2,none⟩ (.slice S3 (Ly.got gr 0).s.length c3)).cell? ⟨rb,3,none⟩=some (.slice none 0 0):=by rw [(hl.set_ 2 _).cell];rfl
    have kv:=(((((h0.slot k2 sZ _).slot k3a sZ (.slice C3 (Ly.got gr 0).c.length d3)).far (p:=⟨w.heap.size+1+1,0,none⟩) sZ (.int .i64 (Ly.at_ y.c 0))).far (p:=⟨w.heap.size+1+1,1,none⟩) sZ (.slice (some ⟨gp,0,none⟩) ps.length ps.length)).far (p:=⟨w.heap.size+1+1,2,none⟩) sZ (.slice S3 (Ly.got gr 0).s.length c3)).far (p:=⟨w.heap.size+1+1,3,none⟩) sZ (.slice C3 (Ly.got gr 0).c.length d3);have ko:=(((((ge.slot k2 sZ _).slot k3a sZ (.slice C3 (Ly.got gr 0).c.length d3)).far (p:=⟨w.heap.size+1+1,0,none⟩) sZ (.int .i64 (Ly.at_ y.c 0))).far (p:=⟨w.heap.size+1+1,1,none⟩) sZ (.slice (some ⟨gp,0,none⟩) ps.length ps.length)).far (p:=⟨w.heap.size+1+1,2,none⟩) sZ (.slice S3 (Ly.got gr 0).s.length c3)).far (p:=⟨w.heap.size+1+1,3,none⟩) sZ (.slice C3 (Ly.got gr 0).c.length d3);obtain ⟨S4,c4,C4,d4,e3,e4,GW⟩:=ko.2 0 H9;rw [←qan H9] at e3 e4 GW;have e3:=e1.symm.trans e3;have e4:=e2.symm.trans e4;injection e3 with e3
    injection e4 with e4
    injection e3 with e3 _ e5
    injection e4 with e4 _ e6
    subst e3 e4 e5 e6;have KH:=(((((hN.far (p:=⟨rb,2,none⟩) nrg (.slice S3 (Ly.got gr 0).s.length c3)).far (p:=⟨rb,3,none⟩) nrg (.slice C3 (Ly.got gr 0).c.length d3)).far (p:=⟨w.heap.size+1+1,0,none⟩) n4 (.int .i64 (Ly.at_ y.c 0))).far (p:=⟨w.heap.size+1+1,1,none⟩) n4 (.slice (some ⟨gp,0,none⟩) ps.length ps.length)).far (p:=⟨w.heap.size+1+1,2,none⟩) n4 (.slice S3 (Ly.got gr 0).s.length c3)).far (p:=⟨w.heap.size+1+1,3,none⟩) n4 (.slice C3 (Ly.got gr 0).c.length d3);have HU:=(((((hM.far (p:=⟨rb,2,none⟩) n3 (.slice S3 (Ly.got gr 0).s.length c3)).far (p:=⟨rb,3,none⟩) n3 (.slice C3 (Ly.got gr 0).c.length d3)).set_ 0 (.int .i64 (Ly.at_ y.c 0))).set_ 1 (.slice (some ⟨gp,0,none⟩) ps.length ps.length)).set_ 2 (.slice S3 (Ly.got gr 0).s.length c3)).set_ 3 (.slice C3 (Ly.got gr 0).c.length d3);have GC:w.heap.size<=rb:=by omega
    have kT:=(((((HT.set (p:=⟨rb,2,none⟩) GC (.slice S3 (Ly.got gr 0).s.length c3)).set (p:=⟨rb,3,none⟩) GC (.slice C3 (Ly.got gr 0).c.length d3)).set (p:=⟨w.heap.size+1+1,0,none⟩) soZ (.int .i64 (Ly.at_ y.c 0))).set (p:=⟨w.heap.size+1+1,1,none⟩) soZ (.slice (some ⟨gp,0,none⟩) ps.length ps.length)).set (p:=⟨w.heap.size+1+1,2,none⟩) soZ (.slice S3 (Ly.got gr 0).s.length c3)).set (p:=⟨w.heap.size+1+1,3,none⟩) soZ (.slice C3 (Ly.got gr 0).c.length d3);have Kh:TnsO w.heap.size _ (some ⟨gp,0,none⟩) pg:=(kv.tnsO KH oZ).base (Nat.le_add_right _ 3);have KB:=GW.base (Nat.le_add_right w.heap.size 3);have k0:=hl.cell 0;have k1:=hl.cell 1;have k3:=hl.cell 3;have kf2:=hl.frozen 2;have kf3:=hl.frozen 3;have m0:=hM.cell 0;have m1:=hM.cell 1;have m2:=hM.cell 2;have m3:=hM.cell 3;have mf0:=hM.frozen 0;have mf1:=hM.frozen 1;have mf2:=hM.frozen 2;have mf3:=hM.frozen 3;simp at k0 k1 k3 m0 m1 m2 m3;have d0:=HU.cell 0;have d1:=HU.cell 1;have d2:=HU.cell 2;have d3':=HU.cell 3;simp at d0 d1 d2 d3';clear kv ko KH HU e1 e2 Ky GW h0 ge hG hN hl hM Ha HT he GC k3a Kr H9 hk;obtain ⟨ml,mp,mB,hs,mb⟩:=zd5 Kh KB kT hH HM;clear Kh KB kT hH HM;generalize hgs:(Ly.got gr 0).s.length=gzs at *;generalize hgn:(Ly.got gr 0).c.length=gzn at *;obtain ⟨kr,kZ⟩:=zd2 hgs hgn;clear hgs hgn;go_wp2_with fail;refine Zk1 (v:=.tuple #[.agg #[.int .i64 (Ly.at_ y.c 0),.slice (some ⟨gp,0,none⟩) ps.length ps.length,.slice S3 gzs c3,.slice C3 gzn d3],.int .i64 0]) (by simp [results,Tryz.results24,go_sem,d0,d1,d2,d3']) rfl ?_;rw [mb.out];refine ⟨gp,S3,C3,c3,d3,?_,ml.out,?_,mB.out⟩
    ·show _=Ending.returned (.tuple #[.agg #[_,.slice _ pg.length pg.length,.slice _ (Ly.got gr 0).s.length _,.slice _ (Ly.got gr 0).c.length _],_])
     rw [hs.out,kr.out,kZ.out]
    ·show TenO _ _ (.agg #[.slice _ (Ly.got gr 0).s.length _,.slice _ (Ly.got gr 0).c.length _]) _
     rw [kr.out,kZ.out];exact mp.out
   ·obtain ⟨m,rfl⟩:∃m,k=m+1:=⟨k-1,by omega⟩
    obtain rfl:z=(m:Int):=by omega
    clear Kr mg;have HK:m<(Nt.sorted n.nodes).length:=by rw [HE.out];omega
    have GN:=KS.out.trans Ha;have HT:=gZ.out.trans Ha;obtain ⟨bo,oo,rfl,-,HF⟩:=(HO.out.below GN (lrZ _)) m HK;have hU:1<=(Nt.sorted n.nodes)[m]/\(Nt.sorted n.nodes)[m]<=n.nodes.length:=Kn.order_rng (Nt.insF n.nodes) n.nodes.length _ (gmZ HK);have Ku:(Nt.sorted n.nodes).getD m 0=(Nt.sorted n.nodes)[m]:=by rw [gdZ,geZ HK];rfl
    rw [Ku] at HF;have Kd:Nt.sorted n.nodes=(Nt.sorted n.nodes).take m++(Nt.sorted n.nodes)[m]::(Nt.sorted n.nodes).drop (m+1):=by rw [←Zd HK,Zn]
    obtain ⟨r0,rx,rpp,-,-,rb2,rpl,rcnt,rpart,rright⟩:=Pn.back_next G5.out Kd he;rw [←Zd HK] at rb2
    have hv:Pn.back n ps vals=Pn.bwd n ps vals (Pn.addN gr (Nt.node n.nodes (Nt.sorted n.nodes)[m]).ins (Pn.bk n ps vals gr (Nt.sorted n.nodes)[m]).1.x (Nt.node n.nodes (Nt.sorted n.nodes)[m]).ins.length) (splice pg (Pn.fr n (Nt.sorted n.nodes)[m]) (Pn.bk n ps vals gr (Nt.sorted n.nodes)[m]).1.p) ((Nt.sorted n.nodes).take m).reverse:=by
     rw [HM,Zb HK,List.reverse_append,List.reverse_singleton,List.singleton_append,Pn.bwd]
    have hc:=Pn.part_at G5.out.pm hU.1 hU.2;have kc:=he.len;have hH:=he.plen;clear Kd Ku HM;obtain ⟨j,hj⟩:∃j:Nat,(Nt.sorted n.nodes)[m]=(j:Int)+1:=⟨((Nt.sorted n.nodes)[m]-1).toNat,by omega⟩
    rw [hj] at hU HF r0 rx rpp rb2 rpl rcnt rpart rright hv hc;have gi:j<n.nodes.length:=by omega
    clear hj;obtain ⟨b,off,S,sc,J,ic,Q,qc,rfl,GJ,mU,mN,mt⟩:=HR.out.2.at_ gi;have gw:=Nt.node_at gi;have gu:=HY.out.2.2 _ (gmZ gi);have gm:=(GA.out _ (gmZ gi)).2;have kC:Pn.fr n ((j:Int)+1)=Pn.from_ n.nodes j:=by unfold Pn.fr;rw [show ((j:Int)+1).toNat-1=j by omega]
    have GS:Pn.part n ((j:Int)+1)=((Pn.from_ n.nodes j:Int),(Pn.from_ n.nodes (j+1):Int)):=by
     unfold Pn.part;rw [inZ oZ,show ((j:Int)+1).toNat=j+1 by omega]
     rfl
    have H4:Pn.bk n ps vals gr ((j:Int)+1)=Ly.back n.nodes[j].op ((ps.drop (Pn.from_ n.nodes j)).take n.nodes[j].p.length) (Pn.pickT vals n.nodes[j].ins) (Ly.got gr (j+1)):=by
     unfold Pn.bk Pn.parts;rw [gw,show ((j:Int)+1).toNat-1=j by omega,show ((j:Int)+1).toNat=j+1 by omega]
    have gK:Pn.parts n ps ((j:Int)+1)=(ps.drop (Pn.from_ n.nodes j)).take n.nodes[j].p.length:=by
     unfold Pn.parts;rw [gw,show ((j:Int)+1).toNat-1=j by omega]
    have Kg:=Pn.from_succ gi;rw [Kg] at GS;rw [gK,gw] at rpl rcnt;rw [gw] at rx rpp rb2 rpart rright hv hc;rw [kC] at rb2 hv hc;clear gK gw kC Kg;generalize Pn.bk n ps vals gr ((j:Int)+1)=R at *;generalize n.nodes[j]=v at *;generalize Pn.from_ n.nodes j=fr at *;have K5:=GJ.below HT;obtain ⟨⟨y0,y1,y2,y3,y4,y5,y6,y7,y8,y9⟩,kt,KJ,Km⟩:=K5;have a0:=(Ha.blk Gq.out).cell 0;have a1:=(Ha.blk Gq.out).cell 1;simp at a0 a1;have g1:(m:Int)<(n.nodes.length:Int):=by omega
    have g2:(j:Int)<(n.nodes.length:Int):=by omega
    have g3:IntKind.i64.wrap ((j:Int)+1-1)=(j:Int):=by rw [show (j:Int)+1-1=(j:Int) by omega];exact Zc1 _ oZ
    have g4:(j:Int)+1-1=(j:Int):=by omega
    have g5:IntKind.i64.wrap (j:Int)=(j:Int):=Zc1 _ oZ;have gb:=(Later.refl wr).alloc (.cells #[.int .i64 v.op.kind,.int .i64 v.op.k,.int .i64 v.op.width,.int .i64 v.op.step,.int .i64 v.op.side,.int .i64 v.op.frm,.int .i64 v.op.to,.slice S v.op.s.length sc,.slice J v.ins.length ic,.slice Q v.p.length qc] 127);have hu:=Blk.new wr 127 #[.int .i64 v.op.kind,.int .i64 v.op.k,.int .i64 v.op.width,.int .i64 v.op.step,.int .i64 v.op.side,.int .i64 v.op.frm,.int .i64 v.op.to,.slice S v.op.s.length sc,.slice J v.ins.length ic,.slice Q v.p.length qc];obtain ⟨HG,kw,HH,HI,HL,mh,m9,mV,mM⟩:=zd9 hG ge hN h0 hl Ha he GN HT;obtain ⟨G0,md,Hj,G8,G3,gf,HA,h7,GL⟩:=zd9 r0 rx rpp rb2 rpl rcnt rpart rright hv;obtain ⟨hI,kS,hs,KP,GR,gS,mz,GY,mJ⟩:=zd9 hc kc hH GJ gu gm GS H4 kt;obtain ⟨mw,m7,Gn,gg⟩:=zd4 KJ Km hu gb;clear hG ge hN h0 hl Ha he GN HT r0 rx rpp rb2 rpl rcnt rpart rright hv hc kc hH GJ gu gm GS H4 kt KJ Km hu gb;clear hU;go_upto_region 20 with fail;generalize hwb:wr.alloc (.cells #[.int .i64 v.op.kind,.int .i64 v.op.k,.int .i64 v.op.width,.int .i64 v.op.step,.int .i64 v.op.side,.int .i64 v.op.frm,.int .i64 v.op.to,.slice S v.op.s.length sc,.slice J v.ins.length ic,.slice Q v.p.length qc] 127)=wb at *;have gJ:=mh.out.trans gg.out;have a0b:=(gJ.blk Gq.out).cell 0;have a1b:=(gJ.blk Gq.out).cell 1;simp at a0b a1b;have kB:=HR.out.below (gZ.out.trans gJ) (lrZ _);clear hwb a0 a1 y0 y1 y2 y3 y4 y5 y6 y7 y8 y9 g1 g3 g4 g5 HF;obtain ⟨kk,KW⟩:=zd2 kB gJ;clear kB gJ;go_wp2_with fail;refine (qd7 A (some ⟨b,off,none⟩) c d n ((j:Int)+1) wb HY.out kk.out hd oZ oZ).mono ?_;rintro e wp ⟨rfl,Ki⟩;rw [mz.out];have gU:Later wb wp:=Ki;have hZ:=gg.out.trans gU;have Gc:=KW.out.trans gU;have Ga:=gZ.out.trans Gc;have K6:=Gb.out.trans Gc;have ha:=gU.blk Gn.out;have He:=hZ.blk HG.out;have G1:=kw.out.later hZ
    have Hp:=hZ.blk HH.out;have gv:=HI.out.later hZ;have Hm:=hZ.blk HL.out;have mo:=K1.out.later K6;have HD:=GX.out
    have gd:∀i∈v.ins,0<=i/\i<vals.length:=λi hi=>by
     have:=gS.out i hi;rw [HD];omega
    obtain ⟨vo1,vo2,vo3,vo4,-,-⟩:=GR.out;have hx:=λ(W:Zp1) (h:Later wp W)=>qd8 (some ⟨G,0,none⟩) J (n.nodes.length+1) ic vals v.ins W (mo.later h) oZ (mw.out.below (hZ.trans h) (lrZ _)) vo3 gd
    rw [HD] at hx;have Go:(Pn.pickT vals v.ins).length=v.ins.length:=by simp [Pn.pickT]
    have G9:j+1<gr.length:=by rw [kS.out];omega
    obtain ⟨Sg,sgc,Cg,cgd,e1,e2,kd⟩:=G1.2 (j+1) G9;rw [←qan G9] at e1 e2 kd;have z0:wp.cell? ⟨w4.heap.size,(j+1)*2,none⟩=some (.slice Sg (Ly.got gr (j+1)).s.length sgc):=by rw [He.cell,Zk];exact e1
    have z1:wp.cell? ⟨w4.heap.size,(j+1)*2+1,none⟩=some (.slice Cg (Ly.got gr (j+1)).c.length cgd):=by rw [He.cell,Zk];exact e2
    have he:=λ(W:Zp1) (h:Later wp W) (PP KK:Option Addr) (pc:Nat) (hPP:Tns W PP ((ps.drop fr).take v.p.length)) (hK:Tns W KK (Pn.pickT vals v.ins))=>op_back v.op S PP KK Sg Cg sc pc (Pn.pickT vals v.ins).length sgc cgd ((ps.drop fr).take v.p.length) (Pn.pickT vals v.ins) (Ly.got gr (j+1)) W vo2 (mJ.out.below (hZ.trans h) (lrZ _)) (vo1 _ sZ) hPP hK (by rw [Go];exact vo3) (lrZ _) (by rw [Go];omega) (kd.later h).ten gf.out
    rw [←GY.out,G3.out] at he;clear e1 e2 kd;generalize (Ly.got gr (j+1)).s.length=gzs at *;generalize (Ly.got gr (j+1)).c.length=gzn at *;have x0:=ha.cell 0;have x1:=ha.cell 1;have x2:=ha.cell 2;have x3:=ha.cell 3;have x4:=ha.cell 4;have x5:=ha.cell 5;have x6:=ha.cell 6;have x7:=ha.cell 7;have x8:=ha.cell 8;simp at x0 x1 x2 x3 x4 x5 x6 x7 x8;have K0:=Ga.size;have mD:w4.heap.size<wp.heap.size:=He.lt;have mR:wr.heap.size<wp.heap.size:=ha.lt;have KZ:rb<wp.heap.size:=Hm.lt;have KT:gp<wp.heap.size:=Hp.lt;obtain ⟨PP,hPP⟩:∃PP,(if cp=fr then P else P.map λa=>a.add (fr*2))=PP:=⟨_,rfl⟩
    have hc:=hI.out;have g7:0<=(j:Int)+1:=by omega
    have g6:(j:Int)+1<(n.nodes.length:Int)+1:=by omega
    have ks:∀W,Tns W P ps->Tns W PP ((ps.drop fr).take v.p.length):=λW h=>by
     have:=qd6 (fr:=fr) (tl:=fr+v.p.length) h kP kE.out oZ hc;rw [hPP,Nat.add_sub_cancel_left] at this;exact this
    have gQ:∀(ρ:Operand->Value) (W:Zp1) (o:Oper) (x lo hi:Operand),o.op=.slice 27 x (some lo) (some hi) none->ρ x=.slice P ps.length cp->ρ lo=.int .i64 (fr:Int)->ρ hi=.int .i64 ((fr:Int)+(v.p.length:Int))->(execOp ρ o).run Tryz.prog W=.ok (.value (.slice PP v.p.length (cp-fr))) W:=λρ W o x lo hi h1 h2 h3 h4=>by
     rw [←hPP];exact qaV h1 Tryz.underlying27 krZ h2 h3 h4 oZ
    have HV:=λ(W:Zp1) (h:Later wp W) (V:Zp1) (Kp:Nat) (hK:Tns V (some ⟨Kp,0,none⟩) (Pn.pickT vals v.ins)) (hV:Later V W) (pc:Nat)=>he W h PP (some ⟨Kp,0,none⟩) pc (ks W (HP.out.later (Ga.trans h))) (hK.later hV)
    clear Ki gd a0b a1b he hPP ks G9 HD;obtain ⟨Hc,gL,kz,gR,gl,gj,m5,mK,hw⟩:=zd9 ha He G1 Hp gv Hm hZ Ga hx;obtain ⟨HJ,HE,m4,Ma,KR,hI⟩:=zd6 HV gQ Go gU Gc hc;clear ha He G1 Hp gv Hm hZ Ga hx HV gQ Go gU Gc hc;clear Gn HG kw HH HI HL;go_upto_region 21 with fail
    go_cut [19,20] (BkCut wp R)
    case first=>
     go_wp2_with fail;have KF:=zI (show ∀Xw,Later wp Xw->Xw.cell? ⟨wr.heap.size,0,none⟩=some (.int .i64 v.op.kind)/\Xw.cell? ⟨wr.heap.size,1,none⟩=some (.int .i64 v.op.k)/\Xw.cell? ⟨wr.heap.size,2,none⟩=some (.int .i64 v.op.width)/\Xw.cell? ⟨wr.heap.size,3,none⟩=some (.int .i64 v.op.step)/\Xw.cell? ⟨wr.heap.size,4,none⟩=some (.int .i64 v.op.side)/\Xw.cell? ⟨wr.heap.size,5,none⟩=some (.int .i64 v.op.frm)/\Xw.cell? ⟨wr.heap.size,6,none⟩=some (.int .i64 v.op.to)/\Xw.cell? ⟨wr.heap.size,7,none⟩=some (.slice S v.op.s.length sc)/\Xw.cell? ⟨wr.heap.size,8,none⟩=some (.slice J v.ins.length ic)/\Xw.cell? ⟨w4.heap.size,(j+1)*2,none⟩=some (.slice Sg gzs sgc)/\Xw.cell? ⟨w4.heap.size,(j+1)*2+1,none⟩=some (.slice Cg gzn cgd) from λXw h=>⟨h.cell x0,h.cell x1,h.cell x2,h.cell x3,h.cell x4,h.cell x5,h.cell x6,h.cell x7,h.cell x8,h.cell z0,h.cell z1⟩);refine Zm1 ?_;refine Zl1 (S:=λXw=>Xw.cell? ⟨wr.heap.size,0,none⟩=some (.int .i64 v.op.kind)/\Xw.cell? ⟨wr.heap.size,1,none⟩=some (.int .i64 v.op.k)/\Xw.cell? ⟨wr.heap.size,2,none⟩=some (.int .i64 v.op.width)/\Xw.cell? ⟨wr.heap.size,3,none⟩=some (.int .i64 v.op.step)/\Xw.cell? ⟨wr.heap.size,4,none⟩=some (.int .i64 v.op.side)/\Xw.cell? ⟨wr.heap.size,5,none⟩=some (.int .i64 v.op.frm)/\Xw.cell? ⟨wr.heap.size,6,none⟩=some (.int .i64 v.op.to)/\Xw.cell? ⟨wr.heap.size,7,none⟩=some (.slice S v.op.s.length sc)/\Xw.cell? ⟨wr.heap.size,8,none⟩=some (.slice J v.ins.length ic)/\Xw.cell? ⟨w4.heap.size,(j+1)*2,none⟩=some (.slice Sg gzs sgc)/\Xw.cell? ⟨w4.heap.size,(j+1)*2+1,none⟩=some (.slice Cg gzn cgd)) krZ (KF.out _ Lau) (λhHeld=>?_);refine tk 0 ?_;refine tk 1 ?_;refine tk 2 ?_;refine tk 3 ?_;refine tk 4 ?_;refine tk 5 ?_ (hy:=λW _=>HE.out _ _ _ _ _ _ rfl rfl rfl rfl)
     try simp only [ga,gs,gz,Act.put,sa,sz,ss]
     refine tk 6 ?_;refine tk 7 ?_;refine tk 8 ?_;refine tk 10 ?_;refine tk 11 ?_;refine tk 12 ?_;refine tk 13 ?_;refine Zo1 (rs:=[9,18]) krZ sZ ?_;refine Zf1 (o:=_) rfl (λK hK=>?_) (Zf1 (o:=_) rfl (λK hK=>?_) (Zg1))
     ·simp only [ga,gs,gz]
      go_simp
      go_at_call 73;(with_reducible refine (hw.out _ (Lau:Later wp _)).mono ?_);rintro e wk ⟨Kp,rfl,-,gW,he⟩
      have Gl:=zI gW;clear gW;have gn:Later wp wk:=(Lau:Later wp wk)
      have Ge:=zI gn;clear gn
      try go_wp2_with fail
      refine hK.out _ _ (KF.out _ Lau) (λhHeld=>?_);clear hK K
      try simp only [ga,gs,gz,Act.put,sa,sz,ss]
      refine Zo1 (rs:=[14,18]) krZ sZ ?_;refine Zf1 (o:=_) rfl (λK hK=>?_) (Zf1 (o:=_) rfl (λK hK=>?_) (Zg1))
      ·simp only [ga,gs,gz]
       go_simp
       go_at_call 11;(with_reducible refine (HJ.out _ (Lau:Later wp _) wk Kp Gl.out (Lau:Later wk _) _).mono ?_);rintro e wg ⟨⟨hb,-⟩|⟨-,PA,XA,rfl,hC,hD⟩,Hu⟩
       exact absurd G0.out hb;obtain ⟨hQ,hS⟩:=zd2 hD hC;clear hD hC;have Gm:=Ge.out.size
       try go_wp2_with fail
       refine hK.out _ _ (KF.out _ Lau) (λhHeld=>?_);clear hK K
       try simp only [ga,gs,gz,Act.put,sa,sz,ss]
       refine tk 15 ?_;refine tk 16 ?_;refine tk 17 ?_;refine rd 18 λK hK=>?_
       simp only [ga,gs,gz]
       go_simp
       refine hK.out _ _ (KF.out _ Lau) (λhHeld=>?_);clear hK K
       try simp only [ga,gs,gz,Act.put,sa,sz,ss]
       refine rd 19 λK hK=>?_
       simp only [ga,gs,gz]
       go_simp
       refine hK.out _ _ ?_ (λhHeld=>?_)
       ·(try dsimp only);(refine ⟨?_,?_,?_,?_,?_,?_,?_,?_,?_,?_,?_⟩<;>(repeat (refine qa0 ?_ (by first|omega|(simp;done)|(simp;omega))))<;>(refine Later.cell (Lau:Later wp _) ?_)<;>assumption)
       clear hK K
       try simp only [ga,gs,gz,Act.put,sa,sz,ss]
       refine tk 20 ?_;clear KF;refine Zn1 krZ ?_ _;refine Zd1 ?_;have GG:=Hu.size;go_wp2_with fail;have hF:Later wp wg:=(Lau:Later wp wg)
       go_meet
       exact ⟨PA,XA,wg.heap.size,rfl,rfl,Blk.new wg _ _,(hS.out.base (by first|omega|(simp;omega))).later ((Later.refl wg).alloc _),(hQ.out.base (by first|omega|(simp;omega))).later ((Later.refl wg).alloc _),(by first|omega|(simp at GG;omega)),hF.alloc _⟩
      ·simp only [ga,gs,gz]
       go_simp
       refine hK.out _ _ (KF.out _ Lau) (λhHeld=>?_);clear hK K
       try simp only [ga,gs,gz,Act.put,sa,sz,ss]
       refine rd 14 λK hK=>?_
       simp only [ga,gs,gz]
       go_simp
       go_at_call 11;(with_reducible refine (HJ.out _ (Lau:Later wp _) wk Kp Gl.out (Lau:Later wk _) _).mono ?_);rintro e wg ⟨⟨hb,-⟩|⟨-,PA,XA,rfl,hC,hD⟩,Hu⟩
       exact absurd G0.out hb;obtain ⟨hQ,hS⟩:=zd2 hD hC;clear hD hC;have Gm:=Ge.out.size;have ht:=(show Later (wk.alloc (.cells #[.slice none 0 0,.slice none 0 0] 38)) wg from Hu).blk (Blk.new wk _ _);have b0':=ht.cell 0;have b1':=ht.cell 1;have bf0:=ht.frozen 0;have bf1:=ht.frozen 1;simp at b0' b1';have Hn:=zI ht;clear ht
       try go_wp2_with fail
       refine hK.out _ _ (KF.out _ Lau) (λhHeld=>?_);clear hK K
       try simp only [ga,gs,gz,Act.put,sa,sz,ss]
       refine tk 15 ?_;refine tk 16 ?_;refine tk 17 ?_;refine rd 19 λK hK=>?_
       simp only [ga,gs,gz]
       go_simp
       refine hK.out _ _ ?_ (λhHeld=>?_)
       ·(try dsimp only);(refine ⟨?_,?_,?_,?_,?_,?_,?_,?_,?_,?_,?_⟩<;>(repeat (refine qa0 ?_ (by first|omega|(simp;done)|(simp;omega))))<;>(refine Later.cell (Lau:Later wp _) ?_)<;>assumption)
       clear hK K
       try simp only [ga,gs,gz,Act.put,sa,sz,ss]
       refine tk 20 ?_;clear KF;refine Zn1 krZ ?_ _;refine Zd1 ?_;have Hk:=he.size
       (try simp at Hk)
       go_wp2_with fail;have hF:Later wp wg:=(Lau:Later wp wg)
       have GU:=(Hn.out.set_ 0 (.slice PA R.1.p.length R.1.p.length)).set_ 1 (.slice XA R.1.x.length R.1.x.length)
       go_meet
       exact ⟨PA,XA,wk.heap.size,rfl,rfl,(by simpa using GU),(hS.out.base (by first|omega|(simp;omega))).box Hn.out (λa e=>by obtain ⟨b',h1,h2,-,-⟩:=hS.out.1 a e;rw [h1];show b'≠_;(first|omega|((try simp at h2);omega))) _ _,(hQ.out.base (by first|omega|(simp;omega))).box Hn.out (λa e=>by obtain ⟨b',h1,h2,-,-⟩:=hQ.out.1 a e;rw [h1];show b'≠_;(first|omega|((try simp at h2);omega))) _ _,(by first|omega|exact Gm|exact lrZ _),(hF.set (p:=⟨wk.heap.size,0,none⟩) (by first|omega|(simp;done)|(simp;omega)) _).set (p:=⟨wk.heap.size,1,none⟩) (by first|omega|(simp;done)|(simp;omega)) _⟩
     ·simp only [ga,gs,gz]
      go_simp
      refine hK.out _ _ (KF.out _ Lau) (λhHeld=>?_);clear hK K
      try simp only [ga,gs,gz,Act.put,sa,sz,ss]
      refine rd 9 λK hK=>?_
      simp only [ga,gs,gz]
      go_simp
      go_at_call 73;(with_reducible refine (hw.out _ (Lau:Later wp _)).mono ?_);rintro e wk ⟨Kp,rfl,-,gW,he⟩
      have Gl:=zI gW;clear gW;have gn:Later wp wk:=(Lau:Later wp wk)
      have Ge:=zI gn;clear gn
      try go_wp2_with fail
      refine hK.out _ _ (KF.out _ Lau) (λhHeld=>?_);clear hK K
      try simp only [ga,gs,gz,Act.put,sa,sz,ss]
      refine rd 14 λK hK=>?_
      simp only [ga,gs,gz]
      go_simp
      go_at_call 11;(with_reducible refine (HJ.out _ (Lau:Later wp _) wk Kp Gl.out (Lau:Later wk _) _).mono ?_);rintro e wg ⟨⟨hb,-⟩|⟨-,PA,XA,rfl,hC,hD⟩,Hu⟩
      exact absurd G0.out hb;obtain ⟨hQ,hS⟩:=zd2 hD hC;clear hD hC;have Gm:=Ge.out.size;have ht:=(show Later wk wg from Hu).blk ((show Later _ wk from he).blk ((Blk.new wp 38 #[.slice none 0 0,.slice none 0 0]).drew));have b0':=ht.cell 0;have b1':=ht.cell 1;have bf0:=ht.frozen 0;have bf1:=ht.frozen 1;simp at b0' b1';have Hn:=zI ht;clear ht
      try go_wp2_with fail
      refine hK.out _ _ (KF.out _ Lau) (λhHeld=>?_);clear hK K
      try simp only [ga,gs,gz,Act.put,sa,sz,ss]
      refine tk 15 ?_;refine tk 16 ?_;refine tk 17 ?_;refine rd 19 λK hK=>?_
      simp only [ga,gs,gz]
      go_simp
      refine hK.out _ _ ?_ (λhHeld=>?_)
      ·(try dsimp only);(refine ⟨?_,?_,?_,?_,?_,?_,?_,?_,?_,?_,?_⟩<;>(repeat (refine qa0 ?_ (by first|omega|(simp;done)|(simp;omega))))<;>(refine Later.cell (Lau:Later wp _) ?_)<;>assumption)
      clear hK K
      try simp only [ga,gs,gz,Act.put,sa,sz,ss]
      refine tk 20 ?_;clear KF;refine Zn1 krZ ?_ _;refine Zd1 ?_;have Hk:=he.size
      (try simp at Hk)
      go_wp2_with fail;have hF:Later wp wg:=(Lau:Later wp wg)
      have GU:=(Hn.out.set_ 0 (.slice PA R.1.p.length R.1.p.length)).set_ 1 (.slice XA R.1.x.length R.1.x.length)
      go_meet
      exact ⟨PA,XA,wp.heap.size,rfl,rfl,(by simpa using GU),(hS.out.base (by first|omega|(simp;omega))).box Hn.out (λa e=>by obtain ⟨b',h1,h2,-,-⟩:=hS.out.1 a e;rw [h1];show b'≠_;(first|omega|((try simp at h2);omega))) _ _,(hQ.out.base (by first|omega|(simp;omega))).box Hn.out (λa e=>by obtain ⟨b',h1,h2,-,-⟩:=hQ.out.1 a e;rw [h1];show b'≠_;(first|omega|((try simp at h2);omega))) _ _,(by first|omega|exact Gm|exact lrZ _),(hF.set (p:=⟨wp.heap.size,0,none⟩) (by first|omega|(simp;done)|(simp;omega)) _).set (p:=⟨wp.heap.size,1,none⟩) (by first|omega|(simp;done)|(simp;omega)) _⟩
    case rest=>
     obtain ⟨PA,XA,tb,rfl,rfl,GI,hC,hD,mQ,ho⟩:=hcut;have km:=ho.blk gL.out;have Kv:=kz.out.later ho;have hY:=ho.blk gR.out;have gP:=gl.out.later ho;have h6:=ho.blk gj.out;have Ke:=KR.out.trans ho;have kN:=mK.out.trans ho;have hr:=ho.blk Hc.out;clear x0 x1 x2 x3 x4 x5 x6 x7 x8 z0 z1 g6 g7;have t0:=GI.cell 0;have r1:=h6.cell 1;simp at t0 r1;obtain ⟨i0,ky,-,ki,-⟩:=info_parts qb2
     have nrg:rb≠gp:=by
      rintro rfl;have:=h6.symm.trans hY;simp at this
     have ntg:tb≠gp:=by omega
     have ngg:w4.heap.size≠gp:=by omega
     have nbg:wr.heap.size≠gp:=by
      rintro hh;rw [hh] at hr;have:=hr.symm.trans hY;simp at this
     obtain ⟨PQ,hPQ⟩:∃PQ,(if ps.length=fr then some ⟨gp,0,none⟩ else (some (⟨gp,0,none⟩:Addr)).map λa=>a.add (fr*2))=PQ:=⟨_,rfl⟩
     have gX:∀(ρ:Operand->Value) (W:Zp1) (o:Oper) (x lo hi:Operand),o.op=.slice 27 x (some lo) (some hi) none->ρ x=.slice (some ⟨gp,0,none⟩) ps.length ps.length->ρ lo=.int .i64 (fr:Int)->ρ hi=.int .i64 ((fr:Int)+(v.p.length:Int))->(execOp ρ o).run Tryz.prog W=.ok (.value (.slice PQ v.p.length (ps.length-fr))) W:=λρ W o x lo hi h1 h2 h3 h4=>by
      rw [←hPQ];exact qaV h1 Tryz.underlying27 krZ h2 h3 h4 hI.out
     clear g2;obtain ⟨Kl,k7,Hl,Hv,Ht,Kc,mF,Hi,G7⟩:=zd9 km Kv hY gP h6 Ke kN hr GI;obtain ⟨hS,hQ,gD,Ka,Kb,mv⟩:=zd6 hC hD gX ky ki hPQ;clear km Kv hY gP h6 Ke kN hr GI hC hD gX ky ki hPQ;clear gL kz gR gl gj Hc hw HJ HE kk;go_upto_region 24 with fail;have KF:=zI (show ∀Xw,Later wc Xw->Xw.cell? ⟨rb,1,none⟩=some (.slice (some ⟨gp,0,none⟩) ps.length ps.length)/\Xw.cell? ⟨tb,0,none⟩=some (.slice PA R.1.p.length R.1.p.length) from λXw h=>⟨h.cell r1,h.cell t0⟩);refine Zm1 ?_;refine Zl1 (S:=λXw=>Xw.cell? ⟨rb,1,none⟩=some (.slice (some ⟨gp,0,none⟩) ps.length ps.length)/\Xw.cell? ⟨tb,0,none⟩=some (.slice PA R.1.p.length R.1.p.length)) krZ (KF.out _ Lau) (λhHeld=>?_);refine tk 0 ?_;refine tk 1 ?_;refine tk 2 ?_;refine tk 3 ?_;refine tk 4 ?_ (hy:=λW _=>gD.out _ _ _ _ _ _ rfl rfl rfl rfl)
     try simp only [ga,gs,gz,Act.put,sa,sz,ss]
     refine tk 5 ?_;refine tk 6 ?_;refine rd 7 λK hK=>?_
     refine qcT (by rfl) _ _ 27 (by rfl) 30 i0 Tryz.underlying27 Ka.out Kb.out (w.heap.size+3) gp fr ps.length v.p.length _ PA _ pg R.1.p (by rw [mv.out];rfl) (by rfl) us _ Hl.out (Hv.out.later (Later.refl wc).drew) ((hS.out.later (Later.refl wc).drew).base oZ) hs.out Hj.out (by rw [Hj.out,hs.out];exact hI.out) ?_;intro wd us2 Gj gh h8;have hJ:Else gp wc wd:=⟨h8.1,h8.2.1,(Ze1 gp wc).drew.trans h8.2.2⟩
     clear h8;have r1:=(hJ.blk nrg Ht.out).cell 1;have t0:=(hJ.blk ntg G7.out).cell 0;simp at r1 t0;refine hK.out _ _ (by first|exact ⟨r1,t0⟩|exact KF.out _ Lau) (λhHeld=>?_);clear hK K
     try simp only [ga,gs,gz,Act.put,sa,sz,ss]
     clear KF;refine Zn1 krZ ?_ _;refine Zd1 ?_;have GE:=Hv.out.noint Hl.out;have KC:=k7.out.else_ hJ GE (λj=>Gj.frozen j);have kX:=hQ.out.else_ hJ GE (λj=>Gj.frozen j) oZ;have gq:=hJ.blk ngg Kl.out;have kA:=hJ.blk nrg Ht.out;have KN:=hJ.blk ntg G7.out;have kM:=hJ.later Kc.out oZ;have x8:=(hJ.blk nbg Hi.out).cell 8;simp at x8;have kh:(splice pg fr R.1.p).length=ps.length:=by rw [Pn.splice_len (by rw [Hj.out,hs.out];exact hI.out)];exact hs.out
     clear hHeld r1 t0 GE hJ;obtain ⟨kH,Kz,gE,Kx,kL,kI,kK,gO,m8⟩:=zd9 KC kX gq kA KN kM Gj gh kh;clear KC kX gq kA KN kM Gj gh kh;clear Kl k7 Hl Hv Ht Kc Hi G7 hS hQ gD Ka Kb mF;generalize splice pg fr R.1.p=pg2 at *;go_wp2_with fail;clear x8;obtain ⟨wo,rfl⟩:∃wo:Zp1,wo=wr:=⟨wr,rfl⟩
     go_loopw [138] (λi wx=>∃(q:Nat) (vq:List Value),q<=v.ins.length/\i=.int .i64 (q:Int)/\Blk wx w4.heap.size 30 vq.toArray/\RowO (w.heap.size+3) wx vq (Pn.addN gr v.ins R.1.x q)/\Blk wx gp 30 us2.toArray/\RowO (w.heap.size+3) wx us2 pg2/\Blk wx rb 66 #[.int .i64 (Ly.at_ y.c 0),.slice (some ⟨gp,0,none⟩) ps.length ps.length,.slice none 0 0,.slice none 0 0]/\Blk wx tb 38 #[.slice PA R.1.p.length R.1.p.length,.slice XA R.1.x.length R.1.x.length]/\TnsO wp.heap.size wx XA R.1.x/\Later w4 wx) (λi _=>v.ins.length-(intOf i).toNat)
     case atStart=>exact ⟨0,vs,Zt _,rfl,gE.out,kH.out,kK.out,gO.out,Kx.out,kL.out,Kz.out,kI.out⟩
     case round=>
      obtain ⟨q,vq,hq,rfl,hG,HN,hN,h0,hl,go,HS,HQ⟩:=hrel;clear gE kH kK gO Kx kL Kz kI
      by_cases Gh:q<v.ins.length
      ·obtain ⟨-,-,gY,-⟩:=KP.out.below (gZ.out.trans HQ)
       obtain ⟨bj,oj,rfl,-,cj⟩:=gY q Gh;have gF:v.ins.getD q 0∈v.ins:=by rw [gdZ,geZ Gh];exact gmZ _
       have kn:=gS.out _ gF;obtain ⟨ei,hei⟩:∃ei:Nat,v.ins.getD q 0=(ei:Int):=⟨(v.ins.getD q 0).toNat,by omega⟩
       rw [hei] at cj kn;have Gp:q<R.1.x.length:=by rw [md.out];exact Gh
       have g9:ei<(Pn.addN gr v.ins R.1.x q).length:=by rw [Pn.addN_len,kS.out];omega
       obtain ⟨xb,Sx,sxc,Cx,cxd,kj,q0,q1,G2⟩:=HS.2 q Gp;rw [←qan Gp] at q0 q1 G2;obtain ⟨xb2,Hr,mW,-,-⟩:=HS.1 _ kj;injection Hr with Hr
       subst Hr;obtain ⟨Sa,sac,Ca,cad,e1,e2,GH⟩:=HN.2 ei g9;rw [←qan g9] at e1 e2 GH;have c0:wr.cell? ⟨w4.heap.size,ei*2,none⟩=some (.slice Sa (Ly.got (Pn.addN gr v.ins R.1.x q) ei).s.length sac):=by rw [hG.cell,Zk];exact e1
       have c1:wr.cell? ⟨w4.heap.size,ei*2+1,none⟩=some (.slice Ca (Ly.got (Pn.addN gr v.ins R.1.x q) ei).c.length cad):=by rw [hG.cell,Zk];exact e2
       have mq:=Ly.right_ok (h7.out q Gh)
       have mA:(Ly.got (Pn.addN gr v.ins R.1.x q) ei).s.length<=4/\(Ly.got (Pn.addN gr v.ins R.1.x q) ei).c.length<=65536:=by
        rcases HA.out q hq ei with hh|hh
        ·rw [hh];simp [Ly.none_]
        ·exact Ly.right_ok hh.1
       have Hh:Pn.addN gr v.ins R.1.x (q+1)=(Pn.addN gr v.ins R.1.x q).set ei (Pn.add (Ly.got (Pn.addN gr v.ins R.1.x q) ei) (Ly.got R.1.x q)):=by
        rw [Pn.addN,hei,tnZ]
       have H1:=λ(W:Zp1) (h:Later wr W)=>qgp Sa Ca Sx Cx sac cad sxc cxd (Ly.got (Pn.addN gr v.ins R.1.x q) ei) (Ly.got R.1.x q) W (GH.later h).ten (G2.later h).ten oZ oZ oZ oZ
       subst kj;have t1:=go.cell 1;simp at t1;have e3:(ei:Int)<(n.nodes.length:Int)+1:=by omega
       have e4:(q:Int)<(R.1.x.length:Int):=by omega
       have e5:(q:Int)<(v.ins.length:Int):=by omega
       clear gY gF kn e1 e2 GH G2 mq mA hei;have gT:∀u∈vq,∃A n c,u=Zb1 A n c:=HN.rowT.cell;generalize Pn.add (Ly.got (Pn.addN gr v.ins R.1.x q) ei) (Ly.got R.1.x q)=at2 at *;generalize (Ly.got (Pn.addN gr v.ins R.1.x q) ei).s.length=as1 at *;generalize (Ly.got (Pn.addN gr v.ins R.1.x q) ei).c.length=as2 at *;generalize (Ly.got R.1.x q).s.length=as3 at *;generalize (Ly.got R.1.x q).c.length=as4 at *;have KG:=HQ;obtain ⟨HG,G6,HH,HI,HL,kl,kG,GT,HW⟩:=zd9 hG HN hN h0 hl go HS HQ Hh;obtain ⟨Gs,Hs,K8,mO⟩:=zd4 H1 gT g9 Gp;clear hG HN hN h0 hl go HS HQ Hh H1 gT g9 Gp;go_upto_region 28 with fail;clear cj;have KF:=zI (show ∀Xw,Later wr Xw->Xw.cell? ⟨tb,1,none⟩=some (.slice (some ⟨xb,0,none⟩) R.1.x.length R.1.x.length)/\Xw.cell? ⟨xb,q*2,none⟩=some (.slice Sx as3 sxc)/\Xw.cell? ⟨xb,q*2+1,none⟩=some (.slice Cx as4 cxd) from λXw h=>⟨h.cell t1,h.cell q0,h.cell q1⟩);refine Zm1 ?_;refine Zl1 (S:=λXw=>Xw.cell? ⟨tb,1,none⟩=some (.slice (some ⟨xb,0,none⟩) R.1.x.length R.1.x.length)/\Xw.cell? ⟨xb,q*2,none⟩=some (.slice Sx as3 sxc)/\Xw.cell? ⟨xb,q*2+1,none⟩=some (.slice Cx as4 cxd)) krZ (KF.out _ Lau) (λhHeld=>?_);refine tk 0 ?_;refine tk 1 ?_;refine tk 2 ?_;refine tk 3 ?_;refine tk 4 ?_;refine tk 6 ?_;refine tk 7 ?_;refine tk 8 ?_;refine tk 9 ?_;refine tk 10 ?_;refine rd 5 λK hK=>?_
       simp only [ga,gs,gz]
       go_simp
       refine hK.out _ _ (KF.out _ Lau) (λhHeld=>?_);clear hK K
       try simp only [ga,gs,gz,Act.put,sa,sz,ss]
       refine rd 11 λK hK=>?_
       simp only [ga,gs,gz]
       go_simp
       go_at_call 32;(with_reducible refine (Gs.out _ (Lau:Later wr _)).mono ?_);rintro e wg ⟨vv,rfl,⟨S3,c3,C3,d3,rfl,KI,ku,Kf⟩,Hu⟩
       have hF:Later wr wg:=(Lau:Later wr wg)
       have c0':=hF.cell c0;have c1':=hF.cell c1;have h9:=hF.blk HG.out;have bf0:=h9.frozen (ei*2);have bf1:=h9.frozen (ei*2+1);obtain ⟨hW,Hx,KY,K4,mj⟩:=zd5 h9 hF KI ku Kf;clear h9 hF KI ku Kf
       try go_wp2_with fail
       refine hK.out _ _ (KF.out _ Lau) (λhHeld=>?_);clear hK K
       try simp only [ga,gs,gz,Act.put,sa,sz,ss]
       refine tk 12 ?_;refine rd 13 λK hK=>?_
       simp only [ga,gs,gz]
       go_simp
       refine hK.out _ _ ?_ (λhHeld=>?_)
       ·(try dsimp only);(refine ⟨?_,?_,?_⟩<;>(repeat (refine qa0 ?_ (by first|omega|(simp;done)|(simp;omega))))<;>(refine Later.cell (Lau:Later wr _) ?_)<;>assumption)
       clear hK K
       try simp only [ga,gs,gz,Act.put,sa,sz,ss]
       clear KF;refine Zn1 krZ ?_ _;refine Zd1 ?_;have KL:TenO (w.heap.size+3) wg (.agg #[.slice S3 at2.s.length c3,.slice C3 at2.c.length d3]) at2:=TenO.base (B:=wr.heap.size) ⟨S3,c3,C3,d3,rfl,KY.out,K4.out,mj.out⟩ (by have:=KG.size;omega);have H0:=(G6.out.later Hx.out).set (k:=ei) K8.out KL;have Ho:=H0.off (i:=ei*2) (k:=ei*2+1) hW.out Hs.out (.slice S3 at2.s.length c3) (.slice C3 at2.c.length d3);rw [←HW.out] at Ho;have kb:=(hW.out.set_ (ei*2) (.slice S3 at2.s.length c3)).set_ (ei*2+1) (.slice C3 at2.c.length d3);rw [List.setIfInBounds_toArray,List.setIfInBounds_toArray] at kb;have n1:gp≠w4.heap.size:=by omega
       have n2:rb≠w4.heap.size:=by omega
       have n4:tb≠w4.heap.size:=by omega
       have H7:=((Hx.out.blk HH.out).far (p:=⟨w4.heap.size,ei*2,none⟩) n1 (.slice S3 at2.s.length c3)).far (p:=⟨w4.heap.size,ei*2+1,none⟩) n1 (.slice C3 at2.c.length d3);have gx:=((Hx.out.blk HL.out).far (p:=⟨w4.heap.size,ei*2,none⟩) n2 (.slice S3 at2.s.length c3)).far (p:=⟨w4.heap.size,ei*2+1,none⟩) n2 (.slice C3 at2.c.length d3);have gc:=((Hx.out.blk kl.out).far (p:=⟨w4.heap.size,ei*2,none⟩) n4 (.slice S3 at2.s.length c3)).far (p:=⟨w4.heap.size,ei*2+1,none⟩) n4 (.slice C3 at2.c.length d3);have gC:=(HI.out.later Hx.out).off (i:=ei*2) (k:=ei*2+1) hW.out Hs.out (.slice S3 at2.s.length c3) (.slice C3 at2.c.length d3);have gN:=(kG.out.later Hx.out).off (i:=ei*2) (k:=ei*2+1) hW.out Hs.out mD (.slice S3 at2.s.length c3) (.slice C3 at2.c.length d3);have gH:=((GT.out.trans Hx.out).set (p:=⟨w4.heap.size,ei*2,none⟩) (lrZ _) (.slice S3 at2.s.length c3)).set (p:=⟨w4.heap.size,ei*2+1,none⟩) (lrZ _) (.slice C3 at2.c.length d3);clear hHeld t1 q0 q1 c0 c1 c0' c1' bf0 bf1 Hu KL H0 KG e3;obtain ⟨Gx,mm,ka,GQ,Gz,GP,GZ,G4⟩:=zd8 Ho kb H7 gx gc gC gN gH;clear Ho kb H7 gx gc gC gN gH;generalize (wg.setCell ⟨w4.heap.size,ei*2,none⟩ (.slice S3 at2.s.length c3)).setCell ⟨w4.heap.size,ei*2+1,none⟩ (.slice C3 at2.c.length d3)=wh at *;go_wp2_with fail;go_roundw
       case rel=>exact ⟨_,_,.int .i64 ((q+1:Nat):Int),⟨q+1,by omega,rfl,_,mm.out,Gx.out,ka.out,GP.out,GQ.out,Gz.out,GZ.out,G4.out⟩,rfl,rfl,by simp⟩
       case measure=>simp [intOf];omega
      ·obtain rfl:q=v.ins.length:=by omega
       have g8:IntKind.i64.wrap ((m:Int)-1)=(m:Int)-1:=Zc1 _ oZ;obtain ⟨HG,G6,HH,HI,HL,kl,kG,GT⟩:=zd8 hG HN hN h0 hl go HS HQ;clear hG HN hN h0 hl go HS HQ;go_wp2_with fail;go_roundw
       case rel=>exact ⟨(m:Int)-1,m,_,_,_,_,rfl,rfl,by omega,HG.out,G6.out,HH.out,HI.out,HL.out,GT.out,G8.out,GL.out⟩
       case measure=>simp [intOf]
def amop:OpD:=⟨5,12884901888,0,0,0,0,0,[]⟩
def am:NetD:=⟨[1],[⟨amop,[0],[]⟩]⟩
def amx:Ten:=⟨[1],[8589934592]⟩
def amg:Ten:=⟨[1],[12884901888]⟩
theorem qgD:Pn.fits am [amx] amx=20:=by decide +kernel
theorem am_ok:am.ok:=by
 refine ⟨by decide,by decide,λv hv=>?_⟩;simp [am] at hv;subst hv;exact ⟨by intro z hz;simp [amop] at hz;omega,by decide,by decide,by decide,by simp,by intro z hz;simp at hz;omega⟩
def RunAm (w:Zp1) (e:Ending) (w':Zp1):Prop:=
 ∃gb S C sc cd,e=.returned (.tuple #[.agg #[.int .i64 25769803776,.slice gb 0 0,.slice S 1 sc,.slice C 1 cd],.int .i64 0])/\TenIn w' S C sc cd amg/\Below w.heap.size w w'
theorem am_fits0:Pn.fits am [] amx=0:=by decide +kernel
theorem am_run:Pn.run am [] amx=⟨25769803776,[],amg⟩:=by kernel_rfl
theorem run_am (A N XS XC:Option Addr) (c d xc xd:Nat) (w:Zp1) (hR:NetR w A N am) (hd:1<=d) (hX:TenIn w XS XC xc xd amx):
  Calls Tryz.prog 24 #[.agg #[.slice A 1 c,.slice N 1 d],.slice none 0 0,.agg #[.slice XS 1 xc,.slice XC 1 xd]] w (RunAm w):=by
 have h:=qeb A N none XS XC c d 0 xc xd am [] amx w am_ok hR hd (Tns.nil _ _) sZ sZ oZ (λ_=>rfl) hX am_fits0;rw [am_run] at h;exact h.mono λe w' ⟨GB,S,C,sc,cd,he,_,hT,hb⟩=>⟨some ⟨GB,0,none⟩,S,C,sc,cd,he,hT.ten,hb⟩
theorem Blk.intsQ {w:Zp1} {g:Nat} {t:TypeId} (l:List Int) (h:Blk w g t (l.map (Za1 .i64)).toArray):Ints .i64 w (some ⟨g,0,none⟩) l:=Ints.of_row λj hj=>by
 rw [Zw,h.cell];simp [hj]
theorem qgE:Tn.right amx=true:=by decide +kernel
theorem amx_in:Ly.In amx:=by intro z hz;simp [amx] at hz;subst hz;unfold Fx.In;omega
theorem am_bad:Pn.forward am [amx] amx=([],20):=by
 unfold Pn.forward;rw [ipZ (by rw [qgD];decide),qgD]
theorem am_net {W:Zp1} {p r g:Nat} (hp:Blk W p 3 #[.int .i64 1]) (hr:Blk W r 3 #[.int .i64 0])
  (hg:Blk W g 127 #[.int .i64 5,.int .i64 12884901888,.int .i64 0,.int .i64 0,.int .i64 0,.int .i64 0,.int .i64 0,.slice none 0 0,.slice (some ⟨r,0,none⟩) 1 1,.slice none 0 0]):
  NetR W (some ⟨p,0,none⟩) (some ⟨g,0,none⟩) am:=by
 refine ⟨hp.intsQ [1],λj hj=>?_⟩;have ha:j=0:=by simp [am] at hj;omega
 subst ha;exact ⟨g,0,none,0,some ⟨r,0,none⟩,1,none,0,rfl,hg.lt,hg.cell 0,hg.cell 1,hg.cell 2,hg.cell 3,hg.cell 4,hg.cell 5,hg.cell 6,hg.cell 7,hg.cell 8,hg.cell 9,⟨Ints.nil,by simp [am,amop],by omega⟩,⟨hr.intsQ [0],by simp [am],by omega⟩,Shps.nil,by simp [am],by omega⟩
theorem amx_ten {W:Zp1} {g h:Nat} (hg:Blk W g 3 #[.int .i64 1]) (hh:Blk W h 22 #[.int .i64 8589934592]):TenIn W (some ⟨g,0,none⟩) (some ⟨h,0,none⟩) 1 1 amx:=
 ⟨⟨hg.intsQ [1],hh.intsQ [8589934592]⟩,by decide,by decide,by decide,by decide,by decide,by decide,amx_in⟩
theorem am_blks (w:Zp1):Blk ((((w.alloc (.cells #[.int .i64 1] 3)).alloc (.cells #[.int .i64 0] 3)).alloc (.cells #[.int .i64 5,.int .i64 12884901888,.int .i64 0,.int .i64 0,.int .i64 0,.int .i64 0,.int .i64 0,.slice none 0 0,.slice (some ⟨w.heap.size+1,0,none⟩) 1 1,.slice none 0 0] 127)).alloc (.cells #[.slice (some ⟨w.heap.size,0,none⟩) 1 1,.slice (some ⟨w.heap.size+1+1,0,none⟩) 1 1] 59)) (w.heap.size+1+1+1) 59 #[.slice (some ⟨w.heap.size,0,none⟩) 1 1,.slice (some ⟨w.heap.size+1+1,0,none⟩) 1 1]/\NetR ((((w.alloc (.cells #[.int .i64 1] 3)).alloc (.cells #[.int .i64 0] 3)).alloc (.cells #[.int .i64 5,.int .i64 12884901888,.int .i64 0,.int .i64 0,.int .i64 0,.int .i64 0,.int .i64 0,.slice none 0 0,.slice (some ⟨w.heap.size+1,0,none⟩) 1 1,.slice none 0 0] 127)).alloc (.cells #[.slice (some ⟨w.heap.size,0,none⟩) 1 1,.slice (some ⟨w.heap.size+1+1,0,none⟩) 1 1] 59)) (some ⟨w.heap.size,0,none⟩) (some ⟨w.heap.size+1+1,0,none⟩) am/\Later w ((((w.alloc (.cells #[.int .i64 1] 3)).alloc (.cells #[.int .i64 0] 3)).alloc (.cells #[.int .i64 5,.int .i64 12884901888,.int .i64 0,.int .i64 0,.int .i64 0,.int .i64 0,.int .i64 0,.slice none 0 0,.slice (some ⟨w.heap.size+1,0,none⟩) 1 1,.slice none 0 0] 127)).alloc (.cells #[.slice (some ⟨w.heap.size,0,none⟩) 1 1,.slice (some ⟨w.heap.size+1+1,0,none⟩) 1 1] 59)):=by
 have k0:=(((Blk.new w 3 #[.int .i64 1]).alloc (.cells #[.int .i64 0] 3)).alloc (.cells #[.int .i64 5,.int .i64 12884901888,.int .i64 0,.int .i64 0,.int .i64 0,.int .i64 0,.int .i64 0,.slice none 0 0,.slice (some ⟨w.heap.size+1,0,none⟩) 1 1,.slice none 0 0] 127)).alloc (.cells #[.slice (some ⟨w.heap.size,0,none⟩) 1 1,.slice (some ⟨w.heap.size+1+1,0,none⟩) 1 1] 59);have k1:=((Blk.new (w.alloc (.cells #[.int .i64 1] 3)) 3 #[.int .i64 0]).alloc (.cells #[.int .i64 5,.int .i64 12884901888,.int .i64 0,.int .i64 0,.int .i64 0,.int .i64 0,.int .i64 0,.slice none 0 0,.slice (some ⟨w.heap.size+1,0,none⟩) 1 1,.slice none 0 0] 127)).alloc (.cells #[.slice (some ⟨w.heap.size,0,none⟩) 1 1,.slice (some ⟨w.heap.size+1+1,0,none⟩) 1 1] 59);have k2:=(Blk.new ((w.alloc (.cells #[.int .i64 1] 3)).alloc (.cells #[.int .i64 0] 3)) 127 #[.int .i64 5,.int .i64 12884901888,.int .i64 0,.int .i64 0,.int .i64 0,.int .i64 0,.int .i64 0,.slice none 0 0,.slice (some ⟨w.heap.size+1,0,none⟩) 1 1,.slice none 0 0]).alloc (.cells #[.slice (some ⟨w.heap.size,0,none⟩) 1 1,.slice (some ⟨w.heap.size+1+1,0,none⟩) 1 1] 59);have k3:=Blk.new (((w.alloc (.cells #[.int .i64 1] 3)).alloc (.cells #[.int .i64 0] 3)).alloc (.cells #[.int .i64 5,.int .i64 12884901888,.int .i64 0,.int .i64 0,.int .i64 0,.int .i64 0,.int .i64 0,.slice none 0 0,.slice (some ⟨w.heap.size+1,0,none⟩) 1 1,.slice none 0 0] 127)) 59 #[.slice (some ⟨w.heap.size,0,none⟩) 1 1,.slice (some ⟨w.heap.size+1+1,0,none⟩) 1 1];simp only [Zh1] at k1 k2 k3;exact ⟨k3,am_net k0 k1 k2,((((Later.refl w).alloc _).alloc _).alloc _).alloc _⟩
set_option maxRecDepth 20000 in
theorem qeF (w:Zp1):Calls Tryz.prog 21 #[] w λe w'=>e=.returned (.bool true)/\Below w.heap.size w w':=by
 obtain ⟨hi,hf,hb⟩:=am_blks w;obtain ⟨hk,ho,he⟩:=zd3 hi hf hb;clear hi hf hb;go_enter Tryz.func21,Tryz.ntmps21;go_wp2_with fail;refine (qc7 3 _ dZ dZ).mono ?_;rintro e w0 ⟨rfl,rfl⟩;rw [show (3:Int)*4294967296=12884901888 from rfl];go_upto_region 2 with fail;generalize ((((w.alloc (.cells #[.int .i64 1] 3)).alloc (.cells #[.int .i64 0] 3)).alloc (.cells #[.int .i64 5,.int .i64 12884901888,.int .i64 0,.int .i64 0,.int .i64 0,.int .i64 0,.int .i64 0,.slice none 0 0,.slice (some ⟨w.heap.size+1,0,none⟩) 1 1,.slice none 0 0] 127)).alloc (.cells #[.slice (some ⟨w.heap.size,0,none⟩) 1 1,.slice (some ⟨w.heap.size+1+1,0,none⟩) 1 1] 59))=w1 at *;have hi:=hk.out;have hf:=ho.out;have hb:=he.out;clear hk ho he;generalize w.heap.size+1+1+1=nb at *;generalize w.heap.size+1+1=ng at *;obtain ⟨hk,ho,he⟩:=zd3 hi hf hb;clear hi hf hb;go_wp2_with fail;refine (qc7 2 _ dZ dZ).mono ?_;rintro e w2 ⟨rfl,rfl⟩;rw [show (2:Int)*4294967296=8589934592 from rfl];have t0:=(Blk.new w1 3 #[.int .i64 1]).alloc (.cells #[.int .i64 8589934592] 22);have t1:=Blk.new (w1.alloc (.cells #[.int .i64 1] 3)) 22 #[.int .i64 8589934592];rw [Zh1] at t1;have hD:Later w1 ((w1.alloc (.cells #[.int .i64 1] 3)).alloc (.cells #[.int .i64 8589934592] 22)):=((Later.refl w1).alloc _).alloc _;obtain ⟨He,hW,h2⟩:=zd3 t0 t1 hD;clear t0 t1 hD;go_wp2_with fail;generalize (w1.alloc (.cells #[.int .i64 1] 3)).alloc (.cells #[.int .i64 8589934592] 22)=w2 at *;have hc:Calls Tryz.prog 41 #[.slice (some ⟨w1.heap.size,0,none⟩) 1 1,.slice (some ⟨w1.heap.size+1,0,none⟩) 1 1] w2 (OfP amx w2):=qcC (some ⟨w1.heap.size,0,none⟩) (some ⟨w1.heap.size+1,0,none⟩) 1 1 amx w2 dZ dZ ⟨He.out.intsQ [1],hW.out.intsQ [8589934592]⟩;refine hc.mono ?_;rintro e w3 ⟨⟨hn,-⟩|⟨-,v,rfl,⟨g,h,rfl,hg,hh,hG,hH⟩⟩,hI⟩
 ·rw [qgE] at hn;cases hn
 rw [show amx.s.length=1 from rfl,show amx.c.length=1 from rfl];have hC:=h2.out.call hI;have hN:TenIn w3 (some ⟨g,0,none⟩) (some ⟨h,0,none⟩) 1 1 amx:=amx_ten hG hH;have ht:Later w3 (w3.alloc (.cells #[.slice (some ⟨g,0,none⟩) 1 1,.slice (some ⟨h,0,none⟩) 1 1] 30)):=(Later.refl w3).alloc _;have hP:=Blk.new w3 30 #[.slice (some ⟨g,0,none⟩) 1 1,.slice (some ⟨h,0,none⟩) 1 1];have hm:=hC.trans ht;have hS:=he.out.trans hm;have hQ:=hm.blk hk.out;have h7:=ho.out.below hm (lrZ _);have h0:=hN.later ht;clear hI hc hG hH He hW h2 hN hC hg hh;obtain ⟨Hh,hl,Hi,hZ,hd,hw,hA⟩:=zd7 ht hP hm hS hQ h7 h0;clear ht hP hm hS hQ h7 h0;go_upto_region 3 with fail;generalize w3.alloc (.cells #[.slice (some ⟨g,0,none⟩) 1 1,.slice (some ⟨h,0,none⟩) 1 1] 30)=w4 at *;generalize w3.heap.size=xb at *;clear Hh;have n0:w4.cell? ⟨nb,0,none⟩=_:=hd.out.cell 0;have n1:w4.cell? ⟨nb,1,none⟩=_:=hd.out.cell 1;have x0:w4.cell? ⟨xb,0,none⟩=_:=hl.out.cell 0;have x1:w4.cell? ⟨xb,1,none⟩=_:=hl.out.cell 1;simp at n0 n1 x0 x1;go_wp2_with fail;refine (run_am (some ⟨w.heap.size,0,none⟩) (some ⟨ng,0,none⟩) (some ⟨g,0,none⟩) (some ⟨h,0,none⟩) 1 1 1 1 w4 hw.out dZ hA.out).mono ?_;rintro e w5 ⟨gb,S,C,sc,cd,rfl,h3,hL⟩;have hs:Later w4 w5:=hL;have Hk:=hs.blk hd.out;have Hj:=hs.blk hl.out;have hp:Later w5 (w5.alloc (.cells #[.int .i64 25769803776,.slice gb 0 0,.slice S 1 sc,.slice C 1 cd] 66)):=(Later.refl w5).alloc _;have Ha:=Blk.new w5 66 #[.int .i64 25769803776,.slice gb 0 0,.slice S 1 sc,.slice C 1 cd];have ha:=hs.trans hp;have hM:=ha.blk hd.out;have hT:=ha.blk hl.out;have h1:=hw.out.below ha (lrZ _);have hJ:=hA.out.later ha;have hX:=h3.later hp;have h5:=hZ.out.trans ha;clear hL n0 n1 x0 x1 h3 Hk Hj hs;obtain ⟨Hf,hF,Hm,hz,hx,h6,hR,h4,hV⟩:=zd9 hp Ha ha hM hT h1 hJ hX h5;clear hp Ha ha hM hT h1 hJ hX h5;go_upto_region 4 with fail;generalize w5.alloc (.cells #[.int .i64 25769803776,.slice gb 0 0,.slice S 1 sc,.slice C 1 cd] 66)=w6 at *
 generalize w5.heap.size=rb at *;clear Hf Hm hw hA hl hd Hi hZ ho hk he;have n0:w6.cell? ⟨nb,0,none⟩=_:=hz.out.cell 0;have n1:w6.cell? ⟨nb,1,none⟩=_:=hz.out.cell 1;have x0:w6.cell? ⟨xb,0,none⟩=_:=hx.out.cell 0;have x1:w6.cell? ⟨xb,1,none⟩=_:=hx.out.cell 1;simp at n0 n1 x0 x1;have hv:Later w6 (w6.alloc (.cells #[.slice (some ⟨g,0,none⟩) 1 1,.slice (some ⟨h,0,none⟩) 1 1] 30)):=(Later.refl w6).alloc _;have Hd:=Blk.new w6 30 #[.slice (some ⟨g,0,none⟩) 1 1,.slice (some ⟨h,0,none⟩) 1 1];have y0:=hv.cell x0;have y1:=hv.cell x1;obtain ⟨hr,hu⟩:=zd2 hv Hd;clear hv Hd;go_wp2_with fail;generalize w6.alloc (.cells #[.slice (some ⟨g,0,none⟩) 1 1,.slice (some ⟨h,0,none⟩) 1 1] 30)=w7 at *;generalize w6.heap.size=pb at *;have hy:=hR.out.later hr.out
 have hY:Tns w7 (some ⟨pb,0,none⟩) [amx]:=λj hj=>by
  obtain rfl:j=0:=by simpa using hj
  exact ⟨pb,0,_,1,_,1,rfl,hu.out.lt,hu.out.cell 0,hu.out.cell 1,hy⟩
 have h9:Calls Tryz.prog 24 #[.agg #[.slice (some ⟨w.heap.size,0,none⟩) 1 1,.slice (some ⟨ng,0,none⟩) 1 1],.slice (some ⟨pb,0,none⟩) 1 1,.agg #[.slice (some ⟨g,0,none⟩) 1 1,.slice (some ⟨h,0,none⟩) 1 1]] w7 λe w'=>e=.returned (.tuple #[.agg #[.int .i64 0,.slice none 0 0,.slice none 0 0,.slice none 0 0],.int .i64 20])/\Below w7.heap.size w7 w':=by
  have:=run_bad (some ⟨w.heap.size,0,none⟩) (some ⟨ng,0,none⟩) (some ⟨pb,0,none⟩) (some ⟨g,0,none⟩) (some ⟨h,0,none⟩) 1 1 1 1 1 am [amx] amx w7 am_ok (h6.out.below hr.out (lrZ _)) dZ hY dZ dZ dZ (λh=>by cases h) hy (by rw [am_bad];decide);rw [am_bad] at this;exact this
 refine h9.mono ?_;rintro e w8 ⟨rfl,Hc⟩;have hO:=hr.out.call Hc;have Hb:Later w8 (w8.alloc (.cells #[.int .i64 0,.slice none 0 0,.slice none 0 0,.slice none 0 0] 66)):=(Later.refl w8).alloc _;have hq:=hO.trans Hb;have h8:=hq.blk hF.out;have hU:=h4.out.later hq;have hE:=hV.out.trans hq;clear Hc h9 hY hy n0 n1 x0 x1 y0 y1 hO Hb hq hr hu hF h4 hV hR h6 hx hz;obtain ⟨hB,Hl,Hg⟩:=zd3 h8 hU hE;clear h8 hU hE;go_upto_region 5 with fail;generalize w8.alloc (.cells #[.int .i64 0,.slice none 0 0,.slice none 0 0,.slice none 0 0] 66)=w9 at *;have r0:w9.cell? ⟨rb,0,none⟩=_:=hB.out.cell 0;have r1:w9.cell? ⟨rb,1,none⟩=_:=hB.out.cell 1;have r3:w9.cell? ⟨rb,3,none⟩=_:=hB.out.cell 3;simp at r0 r1 r3;obtain ⟨bc,oc,rfl,-,yc⟩:=Hl.out.cell (k:=0) dZ;replace yc:w9.cell? ⟨bc,oc,none⟩=some (.int .i64 12884901888):=yc;have KF:=zI (show ∀Xw,Later w9 Xw->Xw.cell? ⟨rb,0,none⟩=some (.int .i64 25769803776)/\Xw.cell? ⟨rb,1,none⟩=some (.slice gb 0 0)/\Xw.cell? ⟨rb,3,none⟩=some (.slice (some ⟨bc,oc,none⟩) 1 cd)/\Xw.cell? ⟨bc,oc,none⟩=some (.int .i64 12884901888) from λXw h=>⟨h.cell r0,h.cell r1,h.cell r3,h.cell yc⟩);refine Zm1 ?_;refine Zl1 (S:=λXw=>Xw.cell? ⟨rb,0,none⟩=some (.int .i64 25769803776)/\Xw.cell? ⟨rb,1,none⟩=some (.slice gb 0 0)/\Xw.cell? ⟨rb,3,none⟩=some (.slice (some ⟨bc,oc,none⟩) 1 cd)/\Xw.cell? ⟨bc,oc,none⟩=some (.int .i64 12884901888)) krZ (KF.out _ Lau) (λhHeld=>?_);refine tk 0 ?_;refine tk 1 ?_;refine tk 2 ?_;refine tk 3 ?_;refine tk 4 ?_;refine tk 5 ?_;refine tk 6 ?_;refine tk 7 ?_;refine tk 8 ?_;refine rd 9 λK hK=>?_
 simp only [ga,gs,gz]
 go_simp
 go_at_call 62;(with_reducible refine (qc7 6 _ dZ dZ).mono ?_);rintro e wg ⟨rfl,rfl⟩
 rw [show (6:Int)*4294967296=25769803776 from rfl]
 try go_wp2_with fail
 refine hK.out _ _ (KF.out _ Lau) (λhHeld=>?_);clear hK K
 try simp only [ga,gs,gz,Act.put,sa,sz,ss]
 refine tk 10 ?_;refine tk 11 ?_;refine tk 12 ?_;refine tk 13 ?_;refine tk 14 ?_;refine tk 15 ?_;refine tk 16 ?_;refine tk 17 ?_;refine tk 18 ?_;refine tk 19 ?_;refine tk 20 ?_;refine tk 21 ?_;refine tk 22 ?_;refine tk 23 ?_;refine tk 24 ?_;refine rd 25 λK hK=>?_
 simp only [ga,gs,gz]
 go_simp
 go_at_call 62;(with_reducible refine (qc7 3 _ dZ dZ).mono ?_);rintro e wg ⟨rfl,rfl⟩
 rw [show (3:Int)*4294967296=12884901888 from rfl]
 try go_wp2_with fail
 refine hK.out _ _ (KF.out _ Lau) (λhHeld=>?_);clear hK K
 try simp only [ga,gs,gz,Act.put,sa,sz,ss]
 refine tk 26 ?_;refine tk 27 ?_;refine tk 28 ?_;refine tk 29 ?_;refine tk 30 ?_;refine tk 31 ?_;refine tk 32 ?_;refine tk 33 ?_;refine tk 34 ?_;clear KF;refine Zn1 krZ ?_ _;refine Zd1 ?_;go_wp2_with fail;go_ret;exact ⟨rfl,Later.drew Hg.out⟩
end Go.Proofs.YtbnnpkcfifejmaaGreat
