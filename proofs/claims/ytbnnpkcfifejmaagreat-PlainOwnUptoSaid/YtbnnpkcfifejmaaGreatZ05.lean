/- Lemmas for the statements of this seat: contracts of functions and the plain laws. -/
import Derived.Deep.DeepCutAuto
import Derived.Deep.RegionHeld3
import Derived.Laws.CopyOwn
import Derived.Lib.SliceRun
import Derived.LoopIn
import Derived.LoopNIn
import Derived.OrdersIn
import Derived.OwnWalkIn
import Derived.RangeFuncBound
import Derived.RangeFuncCalls
import Derived.RangeFuncLeaves
import Derived.RangeFuncNested
import Derived.TacticsInMore
import Derived.Test.YtbnnpkcfifejmaaGreatZ04
set_option linter.unusedVariables false
open List renaming take_succ_eq_append_getElem → Zb, replicate → Zc, drop_eq_getElem_cons → Zd, length_append → Ze, all_eq_true → Zf, take_length → Zg, mem_of_mem_take → Zh, getElem?_eq_none → Zi, flatMap_append → Zj, getElem?_toArray → Zk, getElem?_append_right → Zl, getElem?_append_left → Zm, take_append_drop → Zn, length_take → Zo, mem_of_mem_drop → Zp, length_drop → Zq, getElem?_set_self → Zr, getElem?_set_ne → Zs
open Nat renaming zero_le → Zt, succ_mul → Zu, le_trans → Zv, zero_add → Zw, add_zero → Zx, le_succ → Zy
open Bool renaming and_eq_true → Zz
open Go.Value renaming int → Za1, slice → Zb1
open Go.IntWalk renaming i64_in → Zc1
open Go.NoPanic renaming normal → Zd1
open Go.RowKit.Below renaming refl → Ze1
open Go.AllReadyH renaming cons → Zf1, nil → Zg1
open Go.World renaming size_alloc → Zh1, cell?_of_block → Zi1, block_lt_of_cell? → Zj1
open Go renaming bodyPost_ret → Zk1, wp_region_held_drew → Zl1, wp_region_noPanic → Zm1, wpAnyH_done → Zn1, wpAnyH_ready → Zo1, World → Zp1
namespace Go.Proofs.YtbnnpkcfifejmaaGreat
set_option maxHeartbeats 16000000
open Go.RowKit
theorem qds {W:Zp1} {ad:Addr} {v:Value} (h:W.cell? ad=some v):∀(j:Nat) (u:Value),[v][j]? = some u->W.cell? (ad.add j)=some u:=by
 intro j u hj
 match j,hj with
 | 0,hj=>simp at hj;subst hj;simpa [Addr.add] using h
set_option maxRecDepth 4000 in
theorem qgk (W X O:Addr) (wc xc oc:Nat) (a b k i o st:Int) (w:Zp1) (h0:W.spot=none) (h1:X.spot=none) (h2:O.spot=none) (hw:Ints .i64 w (some W) [a,b,k]) (hx:Ints .i64 w (some X) [b,i]) (ho:Ints .i64 w (some O) [a,o]) (hwc:3<=wc) (hxc:2<=xc) (hoc:2<=oc) (hk:1<=k/\k<=1024) (hi:1<=i/\i<=1024):
  Calls Tryz.prog 114 #[.slice (some W) 3 wc,.slice (some X) 2 xc,.slice (some O) 2 oc,.int .i64 st] w λe w'=>e=.returned (.agg #[.int .i64 a,.int .i64 b,.int .i64 1,.int .i64 k,.int .i64 1,.int .i64 i,.int .i64 1,.int .i64 o,.int .i64 st,.int .i64 k,.int .i64 k,.int .i64 i])/\Below w.heap.size w w':=by
 obtain ⟨Wb,Wo,_⟩:=W;obtain ⟨Xb,Xo,_⟩:=X;obtain ⟨Ob,Oo,_⟩:=O;simp only at h0 h1 h2;subst h0 h1 h2;have y0:w.cell? ⟨Wb,Wo,none⟩=some (.int .i64 a):=by obtain ⟨b',o',e,-,hc⟩:=hw 0 sZ;injection e with e;injection e with e1 e2;subst e1 e2;exact hc
 have y1:w.cell? ⟨Wb,Wo+1,none⟩=some (.int .i64 b):=by obtain ⟨b',o',e,-,hc⟩:=hw 1 sZ;injection e with e;injection e with e1 e2;subst e1 e2;exact hc
 go_enter Tryz.func114,Tryz.ntmps114;go_upto_region 1 with fail;generalize hw1:w.alloc (.cells #[.int .i64 0,.int .i64 0,.int .i64 0,.int .i64 0,.int .i64 0,.int .i64 0,.int .i64 0,.int .i64 0,.int .i64 0,.int .i64 0,.int .i64 0,.int .i64 0] 177)=w1;have hr:Later w w1:=by rw [←hw1];exact (Later.refl w).alloc _
 have hz:Blk w1 w.heap.size 177 #[.int .i64 0,.int .i64 0,.int .i64 0,.int .i64 0,.int .i64 0,.int .i64 0,.int .i64 0,.int .i64 0,.int .i64 0,.int .i64 0,.int .i64 0,.int .i64 0]:=by rw [←hw1];exact Blk.new w _ _
 have y0:=hr.cell y0;have y1:=hr.cell y1;clear hw1;obtain ⟨hj,Hz⟩:=zd2 hr hz;clear hr hz;have h5:Wb<w1.heap.size:=Zj1 _ _ y0;have KF:=zI (show ∀Xw,Later w1 Xw->Xw.cell? ⟨Wb,Wo,none⟩=some (.int .i64 a)/\Xw.cell? ⟨Wb,Wo+1,none⟩=some (.int .i64 b) from λXw h=>⟨h.cell y0,h.cell y1⟩);refine Zm1 ?_;refine Zl1 (S:=λXw=>Xw.cell? ⟨Wb,Wo,none⟩=some (.int .i64 a)/\Xw.cell? ⟨Wb,Wo+1,none⟩=some (.int .i64 b)) krZ (KF.out _ Lau) (λhHeld=>?_);refine tk 0 ?_;refine tk 1 ?_;refine tk 2 ?_;refine tk 3 ?_;refine tk 4 ?_;refine tk 5 ?_;refine tk 6 ?_;refine tk 7 ?_;refine rd 8 λK hK=>?_
 simp only [ga,gs,gz]
 go_simp
 refine hK.out _ _ (KF.out _ Lau) (λhHeld=>?_);clear hK K
 try simp only [ga,gs,gz,Act.put,sa,sz,ss]
 refine rd 9 λK hK=>?_
 simp only [ga,gs,gz]
 go_simp
 refine hK.out _ _ ?_ (λhHeld=>?_)
 ·(try dsimp only);(refine ⟨?_,?_⟩<;>(repeat (refine qa0 ?_ (by first|omega|(simp;done)|(simp;omega))))<;>(refine Later.cell (Lau:Later w1 _) ?_)<;>assumption)
 clear hK K
 try simp only [ga,gs,gz,Act.put,sa,sz,ss]
 clear KF;refine Zn1 krZ ?_ _;refine Zd1 ?_;go_upto_region 4 with fail;have hy:Blk (w1.alloc (.cells #[.int .i64 a,.int .i64 b,.int .i64 1,.int .i64 1,.int .i64 1,.int .i64 1,.int .i64 1,.int .i64 1,.int .i64 st,.int .i64 0,.int .i64 0,.int .i64 0] 177)).drew w1.heap.size 177 [.int .i64 a,.int .i64 b,.int .i64 1,.int .i64 1,.int .i64 1,.int .i64 1,.int .i64 1,.int .i64 1,.int .i64 st,.int .i64 0,.int .i64 0,.int .i64 0].toArray:=(Blk.new w1 _ _).drew;have hp:Later w1 (w1.alloc (.cells #[.int .i64 a,.int .i64 b,.int .i64 1,.int .i64 1,.int .i64 1,.int .i64 1,.int .i64 1,.int .i64 1,.int .i64 st,.int .i64 0,.int .i64 0,.int .i64 0] 177)).drew:=((Later.refl w1).alloc _).drew;generalize (w1.alloc (.cells #[.int .i64 a,.int .i64 b,.int .i64 1,.int .i64 1,.int .i64 1,.int .i64 1,.int .i64 1,.int .i64 1,.int .i64 st,.int .i64 0,.int .i64 0,.int .i64 0] 177)).drew=w2 at *;obtain ⟨fr,hfr⟩:∃fr,fr=w1.heap.size:=⟨_,rfl⟩
 rw [←hfr] at hy ⊢;have hl:=zI hfr;clear hfr y0 y1;have hu:Tryz.prog.underlying 23=some (.slice 3):=Tryz.underlying23;have ht:(Tryz.prog.info? 3).map (·.size)=some 1:=by kernel_rfl
 have hX:¬wc=2:=by omega
 have h4:¬xc=1:=by omega
 have h6:¬oc=1:=by omega
 have q1:(2:Int)<=(wc:Int):=by omega
 have q3:(1:Int)<=(xc:Int):=by omega
 have q4:(1:Int)<=(oc:Int):=by omega
 have h8:Wb<fr:=by rw [hl.out];exact h5
 have x1:w.cell? ⟨Xb,Xo+1,none⟩=some (.int .i64 i):=by obtain ⟨b',o',e,-,hc⟩:=hx 1 sZ;injection e with e;injection e with e1 e2;subst e1 e2;exact hc
 have x2:w.cell? ⟨Ob,Oo+1,none⟩=some (.int .i64 o):=by obtain ⟨b',o',e,-,hc⟩:=ho 1 sZ;injection e with e;injection e with e1 e2;subst e1 e2;exact hc
 have y2:w2.cell? ⟨Wb,Wo+2,none⟩=some (.int .i64 k):=hp.cell (hj.out.cell (by obtain ⟨b',o',e,-,hc⟩:=hw 2 sZ;injection e with e;injection e with e1 e2;subst e1 e2;exact hc));have y3:=hp.cell (hj.out.cell x1);have y4:=hp.cell (hj.out.cell x2);have hU:Xb<fr:=by rw [hl.out];exact Zj1 _ _ (hj.out.cell x1)
 have hH:Ob<fr:=by rw [hl.out];exact Zj1 _ _ (hj.out.cell x2)
 obtain ⟨Y3,Y4⟩:=zd2 y3 y4;clear hw hx ho x1 x2 y3 y4;obtain ⟨hW,hJ⟩:=zd2 hy hp;clear hy hp;go_upto_region 4 with fail;have KF:=zI (show ∀Xw,Later w2 Xw->Xw.cell? ⟨Wb,Wo+2,none⟩=some (.int .i64 k) from λXw h=>h.cell y2);refine Zm1 ?_;refine Zl1 (S:=λXw=>Xw.cell? ⟨Wb,Wo+2,none⟩=some (.int .i64 k)) krZ (KF.out _ Lau) (λhHeld=>?_);refine tk 0 ?_;refine tk 1 ?_;refine tk 2 ?_;refine tk 3 ?_;refine tk 4 ?_;refine rd 5 λK hK=>?_
 refine step_copy_splice (by rfl) (.tmp 31) (.tmp 33) _ _ (by rfl) 3 hu ht (some ⟨fr,3,none⟩) (some ⟨Wb,Wo+2,none⟩) 1 1 1 (wc-2) (by rfl) (by rfl) fr 3 [.int .i64 a,.int .i64 b,.int .i64 1,.int .i64 1,.int .i64 1,.int .i64 1,.int .i64 1,.int .i64 1,.int .i64 st,.int .i64 0,.int .i64 0,.int .i64 0] 177 hW.out.drew [.int .i64 k] rfl (λ_=>⟨rfl,_,rfl,qds (by assumption)⟩) sZ (by intro u hu;simp at hu;subst hu;rfl) fr _ (Ze1 _ _) (lrZ _) ?_;intro w4 hg hb;have y2:=(hb.cell (p:=⟨Wb,Wo+2,none⟩) soZ).trans y2;refine hK.out _ _ (by first|exact y2|exact KF.out _ Lau) (λhHeld=>?_);clear hK K
 try simp only [ga,gs,gz,Act.put,sa,sz,ss]
 clear KF;refine Zn1 krZ ?_ _;refine Zd1 ?_;have hO:Blk w4 fr 177 [.int .i64 a,.int .i64 b,.int .i64 1,.int .i64 k,.int .i64 1,.int .i64 1,.int .i64 1,.int .i64 1,.int .i64 st,.int .i64 0,.int .i64 0,.int .i64 0].toArray:=hg.out;have hf:Below fr w2 w4:=(Ze1 fr w2).drew.trans hb;have hh:=zI hf;clear hg hb hf y2;have hY:=zI hO;clear hO;have y3:=(hh.out.cell (p:=⟨Xb,Xo+1,none⟩) hU).trans Y3.out;go_upto_region 5 with fail;have KF:=zI (show ∀Xw,Later w4 Xw->Xw.cell? ⟨Xb,Xo+1,none⟩=some (.int .i64 i) from λXw h=>h.cell y3);refine Zm1 ?_;refine Zl1 (S:=λXw=>Xw.cell? ⟨Xb,Xo+1,none⟩=some (.int .i64 i)) krZ (KF.out _ Lau) (λhHeld=>?_);refine tk 0 ?_;refine tk 1 ?_;refine tk 2 ?_;refine tk 3 ?_;refine tk 4 ?_;refine rd 5 λK hK=>?_
 refine step_copy_splice (by rfl) (.tmp 37) (.tmp 39) _ _ (by rfl) 3 hu ht (some ⟨fr,5,none⟩) (some ⟨Xb,Xo+1,none⟩) 1 1 1 (xc-1) (by rfl) (by rfl) fr 5 [.int .i64 a,.int .i64 b,.int .i64 1,.int .i64 k,.int .i64 1,.int .i64 1,.int .i64 1,.int .i64 1,.int .i64 st,.int .i64 0,.int .i64 0,.int .i64 0] 177 hY.out.drew [.int .i64 i] rfl (λ_=>⟨rfl,_,rfl,qds (by assumption)⟩) sZ (by intro u hu;simp at hu;subst hu;rfl) fr _ (Ze1 _ _) (lrZ _) ?_;intro w5 hg hb;have y3:=(hb.cell (p:=⟨Xb,Xo+1,none⟩) soZ).trans y3;refine hK.out _ _ (by first|exact y3|exact KF.out _ Lau) (λhHeld=>?_);clear hK K
 try simp only [ga,gs,gz,Act.put,sa,sz,ss]
 clear KF;refine Zn1 krZ ?_ _;refine Zd1 ?_;have hF:Blk w5 fr 177 [.int .i64 a,.int .i64 b,.int .i64 1,.int .i64 k,.int .i64 1,.int .i64 i,.int .i64 1,.int .i64 1,.int .i64 st,.int .i64 0,.int .i64 0,.int .i64 0].toArray:=hg.out;have hf:Below fr w4 w5:=(Ze1 fr w4).drew.trans hb;have hm:=zI hf;clear hg hb hf y3;have hZ:=zI hF;clear hF;have y4:=(hm.out.cell (p:=⟨Ob,Oo+1,none⟩) hH).trans ((hh.out.cell (p:=⟨Ob,Oo+1,none⟩) hH).trans Y4.out);go_upto_region 6 with fail;have KF:=zI (show ∀Xw,Later w5 Xw->Xw.cell? ⟨Ob,Oo+1,none⟩=some (.int .i64 o) from λXw h=>h.cell y4);refine Zm1 ?_;refine Zl1 (S:=λXw=>Xw.cell? ⟨Ob,Oo+1,none⟩=some (.int .i64 o)) krZ (KF.out _ Lau) (λhHeld=>?_);refine tk 0 ?_;refine tk 1 ?_;refine tk 2 ?_;refine tk 3 ?_;refine tk 4 ?_;refine rd 5 λK hK=>?_
 refine step_copy_splice (by rfl) (.tmp 43) (.tmp 45) _ _ (by rfl) 3 hu ht (some ⟨fr,7,none⟩) (some ⟨Ob,Oo+1,none⟩) 1 1 1 (oc-1) (by rfl) (by rfl) fr 7 [.int .i64 a,.int .i64 b,.int .i64 1,.int .i64 k,.int .i64 1,.int .i64 i,.int .i64 1,.int .i64 1,.int .i64 st,.int .i64 0,.int .i64 0,.int .i64 0] 177 hZ.out.drew [.int .i64 o] rfl (λ_=>⟨rfl,_,rfl,qds (by assumption)⟩) sZ (by intro u hu;simp at hu;subst hu;rfl) fr _ (Ze1 _ _) (lrZ _) ?_;intro w6 hg hb;have y4:=(hb.cell (p:=⟨Ob,Oo+1,none⟩) soZ).trans y4;refine hK.out _ _ (by first|exact y4|exact KF.out _ Lau) (λhHeld=>?_);clear hK K
 try simp only [ga,gs,gz,Act.put,sa,sz,ss]
 clear KF;refine Zn1 krZ ?_ _;refine Zd1 ?_;have hD:Blk w6 fr 177 [.int .i64 a,.int .i64 b,.int .i64 1,.int .i64 k,.int .i64 1,.int .i64 i,.int .i64 1,.int .i64 o,.int .i64 st,.int .i64 0,.int .i64 0,.int .i64 0].toArray:=hg.out;have hf:Below fr w5 w6:=(Ze1 fr w5).drew.trans hb;have hv:=zI hf;clear hg hb hf y4;have he:=zI hD;clear hD;have hA:Below fr w2 w6:=(hh.out.trans hm.out).trans hv.out;have hN:Below w.heap.size w w2:=hj.out.trans hJ.out;have hG:w.heap.size<=fr:=by rw [hl.out];exact hj.out.size
 have hR:Below w.heap.size w w6:=hN.trans (hA.mono hG);have h3:=zI hR;have hd:Blk w6 w.heap.size 177 #[.int .i64 0,.int .i64 0,.int .i64 0,.int .i64 0,.int .i64 0,.int .i64 0,.int .i64 0,.int .i64 0,.int .i64 0,.int .i64 0,.int .i64 0,.int .i64 0]:=(hJ.out.blk Hz.out).below hA (by rw [hl.out];exact Hz.out.lt);have h7:w.heap.size<fr:=by rw [hl.out];exact Hz.out.lt
 clear hR hA hN hG y0 y1
 repeat (clear hHeld)
 have e1:(1:Int)*k=k:=by omega
 have e2:(1:Int)*i=i:=by omega
 have c0:w6.cell? ⟨fr,0,none⟩=some (.int .i64 a):=by rw [he.out.cell];rfl
 have c1:w6.cell? ⟨fr,1,none⟩=some (.int .i64 b):=by rw [he.out.cell];rfl
 have c2:w6.cell? ⟨fr,2,none⟩=some (.int .i64 1):=by rw [he.out.cell];rfl
 have c3:w6.cell? ⟨fr,3,none⟩=some (.int .i64 k):=by rw [he.out.cell];rfl
 have c4:w6.cell? ⟨fr,4,none⟩=some (.int .i64 1):=by rw [he.out.cell];rfl
 have c5:w6.cell? ⟨fr,5,none⟩=some (.int .i64 i):=by rw [he.out.cell];rfl
 have c6:w6.cell? ⟨fr,6,none⟩=some (.int .i64 1):=by rw [he.out.cell];rfl
 have c7:w6.cell? ⟨fr,7,none⟩=some (.int .i64 o):=by rw [he.out.cell];rfl
 have c8:w6.cell? ⟨fr,8,none⟩=some (.int .i64 st):=by rw [he.out.cell];rfl
 have c9:w6.cell? ⟨fr,9,none⟩=some (.int .i64 0):=by rw [he.out.cell];rfl
 have c10:w6.cell? ⟨fr,10,none⟩=some (.int .i64 0):=by rw [he.out.cell];rfl
 have c11:w6.cell? ⟨fr,11,none⟩=some (.int .i64 0):=by rw [he.out.cell];rfl
 have f9:=he.out.frozen 9;have f10:=he.out.frozen 10;have f11:=he.out.frozen 11;have z0:=hd.cell 0;have g0:=hd.frozen 0;have z1:=hd.cell 1;have g1:=hd.frozen 1;have z2:=hd.cell 2;have g2:=hd.frozen 2;have z3:=hd.cell 3;have g3:=hd.frozen 3;have z4:=hd.cell 4;have g4:=hd.frozen 4;have z5:=hd.cell 5;have g5:=hd.frozen 5;have z6:=hd.cell 6;have g6:=hd.frozen 6;have z7:=hd.cell 7;have g7:=hd.frozen 7;have z8:=hd.cell 8;have g8:=hd.frozen 8;have z9:=hd.cell 9;have g9:=hd.frozen 9;have z10:=hd.cell 10;have g10:=hd.frozen 10;have z11:=hd.cell 11;have g11:=hd.frozen 11;simp at z0 z1 z2 z3 z4 z5 z6 z7 z8 z9 z10 z11;have hV:=zI hd;clear hd;go_wp2_with fail;have hs:w.heap.size≠fr:=by omega
 have hI:=((hV.out.far (p:=⟨fr,9,none⟩) hs (.int .i64 k)).far (p:=⟨fr,10,none⟩) hs (.int .i64 k)).far (p:=⟨fr,11,none⟩) hs (.int .i64 i);have hE:=hI.set_ 0 (.int .i64 a);have hM:=hE.set_ 1 (.int .i64 b);have hS:=hM.set_ 2 (.int .i64 1);have hT:=hS.set_ 3 (.int .i64 k);have hQ:=hT.set_ 4 (.int .i64 1);have hL:=hQ.set_ 5 (.int .i64 i);have hB:=hL.set_ 6 (.int .i64 1);have hP:=hB.set_ 7 (.int .i64 o);have hC:=hP.set_ 8 (.int .i64 st);have hn:=hC.set_ 9 (.int .i64 k);have hq:=hn.set_ 10 (.int .i64 k);have ha:=hq.set_ 11 (.int .i64 i);have d0:=ha.cell 0;have d1:=ha.cell 1;have d2:=ha.cell 2;have d3:=ha.cell 3;have d4:=ha.cell 4;have d5:=ha.cell 5;have d6:=ha.cell 6;have d7:=ha.cell 7;have d8:=ha.cell 8;have d9:=ha.cell 9;have d10:=ha.cell 10;have d11:=ha.cell 11;simp at d0 d1 d2 d3 d4 d5 d6 d7 d8 d9 d10 d11;clear hI hE hM hS hT hQ hL hB hP hC hn hq ha c0 z0 g0 c1 z1 g1 c2 z2 g2 c3 z3 g3 c4 z4 g4 c5 z5 g5 c6 z6 g6 c7 z7 g7 c8 z8 g8 c9 z9 g9 c10 z10 g10 c11 z11 g11 f9 f10 f11 e1 e2;refine Zk1 (v:=.agg #[.int .i64 a,.int .i64 b,.int .i64 1,.int .i64 k,.int .i64 1,.int .i64 i,.int .i64 1,.int .i64 o,.int .i64 st,.int .i64 k,.int .i64 k,.int .i64 i]) (by simp [results,Tryz.results114,go_sem,d0,d1,d2,d3,d4,d5,d6,d7,d8,d9,d10,d11]) rfl ⟨rfl,?_⟩
 repeat (refine Below.setCell ?_ (by first|exact lrZ _|(simp;omega)|omega) _)
 exact h3.out
theorem qdt {W:Zp1} {b o:Nat} {v u:Value} (h:W.cell? ⟨b,o,none⟩=some v) (h2:W.cell? ⟨b,o+1,none⟩=some u):∀(j:Nat) (x:Value),[v,u][j]? = some x->W.cell? ((⟨b,o,none⟩:Addr).add j)=some x:=by
 intro j x hj
 match j,hj with
 | 0,hj=>simp at hj;subst hj;simpa [Addr.add] using h
 | 1,hj=>simp at hj;subst hj;simpa [Addr.add] using h2
set_option maxRecDepth 4000 in
theorem qgl (W X O:Addr) (wc xc oc:Nat) (a b k kk i ii o oo st:Int) (w:Zp1) (h0:W.spot=none) (h1:X.spot=none) (h2:O.spot=none) (hw:Ints .i64 w (some W) [a,b,k,kk]) (hx:Ints .i64 w (some X) [b,i,ii]) (ho:Ints .i64 w (some O) [a,o,oo]) (hwc:4<=wc) (hxc:3<=xc) (hoc:3<=oc) (hk:0<=k*kk/\k*kk<=1048576) (hi:0<=i*ii/\i*ii<=1048576):
  Calls Tryz.prog 114 #[.slice (some W) 4 wc,.slice (some X) 3 xc,.slice (some O) 3 oc,.int .i64 st] w λe w'=>e=.returned (.agg #[.int .i64 a,.int .i64 b,.int .i64 k,.int .i64 kk,.int .i64 i,.int .i64 ii,.int .i64 o,.int .i64 oo,.int .i64 st,.int .i64 kk,.int .i64 (k*kk),.int .i64 (i*ii)])/\Below w.heap.size w w':=by
 obtain ⟨Wb,Wo,_⟩:=W;obtain ⟨Xb,Xo,_⟩:=X;obtain ⟨Ob,Oo,_⟩:=O;simp only at h0 h1 h2;subst h0 h1 h2;have y0:w.cell? ⟨Wb,Wo,none⟩=some (.int .i64 a):=by obtain ⟨b',o',e,-,hc⟩:=hw 0 sZ;injection e with e;injection e with e1 e2;subst e1 e2;exact hc
 have y1:w.cell? ⟨Wb,Wo+1,none⟩=some (.int .i64 b):=by obtain ⟨b',o',e,-,hc⟩:=hw 1 sZ;injection e with e;injection e with e1 e2;subst e1 e2;exact hc
 go_enter Tryz.func114,Tryz.ntmps114;go_upto_region 1 with fail;generalize hw1:w.alloc (.cells #[.int .i64 0,.int .i64 0,.int .i64 0,.int .i64 0,.int .i64 0,.int .i64 0,.int .i64 0,.int .i64 0,.int .i64 0,.int .i64 0,.int .i64 0,.int .i64 0] 177)=w1;have hs:Later w w1:=by rw [←hw1];exact (Later.refl w).alloc _
 have hz:Blk w1 w.heap.size 177 #[.int .i64 0,.int .i64 0,.int .i64 0,.int .i64 0,.int .i64 0,.int .i64 0,.int .i64 0,.int .i64 0,.int .i64 0,.int .i64 0,.int .i64 0,.int .i64 0]:=by rw [←hw1];exact Blk.new w _ _
 have y0:=hs.cell y0;have y1:=hs.cell y1;clear hw1;obtain ⟨hh,Hz⟩:=zd2 hs hz;clear hs hz;have h4:Wb<w1.heap.size:=Zj1 _ _ y0;have KF:=zI (show ∀Xw,Later w1 Xw->Xw.cell? ⟨Wb,Wo,none⟩=some (.int .i64 a)/\Xw.cell? ⟨Wb,Wo+1,none⟩=some (.int .i64 b) from λXw h=>⟨h.cell y0,h.cell y1⟩);refine Zm1 ?_;refine Zl1 (S:=λXw=>Xw.cell? ⟨Wb,Wo,none⟩=some (.int .i64 a)/\Xw.cell? ⟨Wb,Wo+1,none⟩=some (.int .i64 b)) krZ (KF.out _ Lau) (λhHeld=>?_);refine tk 0 ?_;refine tk 1 ?_;refine tk 2 ?_;refine tk 3 ?_;refine tk 4 ?_;refine tk 5 ?_;refine tk 6 ?_;refine tk 7 ?_;refine rd 8 λK hK=>?_
 simp only [ga,gs,gz]
 go_simp
 refine hK.out _ _ (KF.out _ Lau) (λhHeld=>?_);clear hK K
 try simp only [ga,gs,gz,Act.put,sa,sz,ss]
 refine rd 9 λK hK=>?_
 simp only [ga,gs,gz]
 go_simp
 refine hK.out _ _ ?_ (λhHeld=>?_)
 ·(try dsimp only);(refine ⟨?_,?_⟩<;>(repeat (refine qa0 ?_ (by first|omega|(simp;done)|(simp;omega))))<;>(refine Later.cell (Lau:Later w1 _) ?_)<;>assumption)
 clear hK K
 try simp only [ga,gs,gz,Act.put,sa,sz,ss]
 clear KF;refine Zn1 krZ ?_ _;refine Zd1 ?_;go_upto_region 4 with fail;have hA:Blk (w1.alloc (.cells #[.int .i64 a,.int .i64 b,.int .i64 1,.int .i64 1,.int .i64 1,.int .i64 1,.int .i64 1,.int .i64 1,.int .i64 st,.int .i64 0,.int .i64 0,.int .i64 0] 177)).drew w1.heap.size 177 [.int .i64 a,.int .i64 b,.int .i64 1,.int .i64 1,.int .i64 1,.int .i64 1,.int .i64 1,.int .i64 1,.int .i64 st,.int .i64 0,.int .i64 0,.int .i64 0].toArray:=(Blk.new w1 _ _).drew;have hl:Later w1 (w1.alloc (.cells #[.int .i64 a,.int .i64 b,.int .i64 1,.int .i64 1,.int .i64 1,.int .i64 1,.int .i64 1,.int .i64 1,.int .i64 st,.int .i64 0,.int .i64 0,.int .i64 0] 177)).drew:=((Later.refl w1).alloc _).drew;generalize (w1.alloc (.cells #[.int .i64 a,.int .i64 b,.int .i64 1,.int .i64 1,.int .i64 1,.int .i64 1,.int .i64 1,.int .i64 1,.int .i64 st,.int .i64 0,.int .i64 0,.int .i64 0] 177)).drew=w2 at *;obtain ⟨fr,hfr⟩:∃fr,fr=w1.heap.size:=⟨_,rfl⟩
 rw [←hfr] at hA ⊢;have hn:=zI hfr;clear hfr y0 y1;have hu:Tryz.prog.underlying 23=some (.slice 3):=Tryz.underlying23;have hv:(Tryz.prog.info? 3).map (·.size)=some 1:=by kernel_rfl
 have hW:¬wc=2:=by omega
 have h3:¬xc=1:=by omega
 have h5:¬oc=1:=by omega
 have q1:(2:Int)<=(wc:Int):=by omega
 have q3:(1:Int)<=(xc:Int):=by omega
 have q4:(1:Int)<=(oc:Int):=by omega
 have h8:Wb<fr:=by rw [hn.out];exact h4
 have u0:w.cell? ⟨Wb,Wo+2,none⟩=some (.int .i64 k):=by obtain ⟨b',o',e,-,hc⟩:=hw 2 sZ;injection e with e;injection e with e1 e2;subst e1 e2;exact hc
 have u1:w.cell? ⟨Wb,Wo+3,none⟩=some (.int .i64 kk):=by obtain ⟨b',o',e,-,hc⟩:=hw 3 sZ;injection e with e;injection e with e1 e2;subst e1 e2;exact hc
 have x0:w.cell? ⟨Xb,Xo+1,none⟩=some (.int .i64 i):=by obtain ⟨b',o',e,-,hc⟩:=hx 1 sZ;injection e with e;injection e with e1 e2;subst e1 e2;exact hc
 have x1:w.cell? ⟨Xb,Xo+2,none⟩=some (.int .i64 ii):=by obtain ⟨b',o',e,-,hc⟩:=hx 2 sZ;injection e with e;injection e with e1 e2;subst e1 e2;exact hc
 have v0:w.cell? ⟨Ob,Oo+1,none⟩=some (.int .i64 o):=by obtain ⟨b',o',e,-,hc⟩:=ho 1 sZ;injection e with e;injection e with e1 e2;subst e1 e2;exact hc
 have v1:w.cell? ⟨Ob,Oo+2,none⟩=some (.int .i64 oo):=by obtain ⟨b',o',e,-,hc⟩:=ho 2 sZ;injection e with e;injection e with e1 e2;subst e1 e2;exact hc
 have y2:=hl.cell (hh.out.cell u0);have y2b:=hl.cell (hh.out.cell u1);have y3:=hl.cell (hh.out.cell x0);have y3b:=hl.cell (hh.out.cell x1);have y4:=hl.cell (hh.out.cell v0);have y4b:=hl.cell (hh.out.cell v1);have hC:Xb<fr:=by rw [hn.out];exact Zj1 _ _ (hh.out.cell x0)
 have hr:Ob<fr:=by rw [hn.out];exact Zj1 _ _ (hh.out.cell v0)
 obtain ⟨Y3,Y4,Y3b,Y4b⟩:=zd4 y3 y4 y3b y4b;clear hw hx ho u0 u1 x0 x1 v0 v1 y3 y3b y4 y4b
 repeat (clear hHeld)
 obtain ⟨hV,hL⟩:=zd2 hA hl;clear hA hl;go_upto_region 4 with fail;have KF:=zI (show ∀Xw,Later w2 Xw->Xw.cell? ⟨Wb,Wo+2,none⟩=some (.int .i64 k)/\Xw.cell? ⟨Wb,Wo+3,none⟩=some (.int .i64 kk) from λXw h=>⟨h.cell y2,h.cell y2b⟩);refine Zm1 ?_;refine Zl1 (S:=λXw=>Xw.cell? ⟨Wb,Wo+2,none⟩=some (.int .i64 k)/\Xw.cell? ⟨Wb,Wo+3,none⟩=some (.int .i64 kk)) krZ (KF.out _ Lau) (λhHeld=>?_);refine tk 0 ?_;refine tk 1 ?_;refine tk 2 ?_;refine tk 3 ?_;refine tk 4 ?_;refine rd 5 λK hK=>?_
 refine step_copy_splice (by rfl) (.tmp 31) (.tmp 33) _ _ (by rfl) 3 hu hv (some ⟨fr,2,none⟩) (some ⟨Wb,Wo+2,none⟩) 2 2 2 (wc-2) (by rfl) (by rfl) fr 2 [.int .i64 a,.int .i64 b,.int .i64 1,.int .i64 1,.int .i64 1,.int .i64 1,.int .i64 1,.int .i64 1,.int .i64 st,.int .i64 0,.int .i64 0,.int .i64 0] 177 hV.out.drew ([.int .i64 k,.int .i64 kk]:List Value) rfl (λ_=>⟨rfl,_,rfl,qdt y2 y2b⟩) sZ (by intro u hu;simp at hu;rcases hu with rfl|rfl<;>rfl) fr _ (Ze1 _ _) (lrZ _) ?_;intro w4 hg hb;have y2:=(hb.cell (p:=⟨Wb,Wo+2,none⟩) soZ).trans y2;have y2b:=(hb.cell (p:=⟨Wb,Wo+3,none⟩) soZ).trans y2b;refine hK.out _ _ (by first|exact ⟨y2,y2b⟩|exact KF.out _ Lau) (λhHeld=>?_);clear hK K
 try simp only [ga,gs,gz,Act.put,sa,sz,ss]
 clear KF;refine Zn1 krZ ?_ _;refine Zd1 ?_;have hP:Blk w4 fr 177 [.int .i64 a,.int .i64 b,.int .i64 k,.int .i64 kk,.int .i64 1,.int .i64 1,.int .i64 1,.int .i64 1,.int .i64 st,.int .i64 0,.int .i64 0,.int .i64 0].toArray:=hg.out;have hj:Below fr w2 w4:=(Ze1 fr w2).drew.trans hb;have hf:=zI hj;clear hg hb hj y2 y2b
 repeat (clear hHeld)
 have hX:=zI hP;clear hP;have y3:=(hf.out.cell (p:=⟨Xb,Xo+1,none⟩) hC).trans Y3.out;have y3b:=(hf.out.cell (p:=⟨Xb,Xo+2,none⟩) hC).trans Y3b.out;go_upto_region 5 with fail;have KF:=zI (show ∀Xw,Later w4 Xw->Xw.cell? ⟨Xb,Xo+1,none⟩=some (.int .i64 i)/\Xw.cell? ⟨Xb,Xo+2,none⟩=some (.int .i64 ii) from λXw h=>⟨h.cell y3,h.cell y3b⟩);refine Zm1 ?_;refine Zl1 (S:=λXw=>Xw.cell? ⟨Xb,Xo+1,none⟩=some (.int .i64 i)/\Xw.cell? ⟨Xb,Xo+2,none⟩=some (.int .i64 ii)) krZ (KF.out _ Lau) (λhHeld=>?_);refine tk 0 ?_;refine tk 1 ?_;refine tk 2 ?_;refine tk 3 ?_;refine tk 4 ?_;refine rd 5 λK hK=>?_
 refine step_copy_splice (by rfl) (.tmp 37) (.tmp 39) _ _ (by rfl) 3 hu hv (some ⟨fr,4,none⟩) (some ⟨Xb,Xo+1,none⟩) 2 2 2 (xc-1) (by rfl) (by rfl) fr 4 [.int .i64 a,.int .i64 b,.int .i64 k,.int .i64 kk,.int .i64 1,.int .i64 1,.int .i64 1,.int .i64 1,.int .i64 st,.int .i64 0,.int .i64 0,.int .i64 0] 177 hX.out.drew ([.int .i64 i,.int .i64 ii]:List Value) rfl (λ_=>⟨rfl,_,rfl,qdt y3 y3b⟩) sZ (by intro u hu;simp at hu;rcases hu with rfl|rfl<;>rfl) fr _ (Ze1 _ _) (lrZ _) ?_;intro w5 hg hb;have y3:=(hb.cell (p:=⟨Xb,Xo+1,none⟩) soZ).trans y3;have y3b:=(hb.cell (p:=⟨Xb,Xo+2,none⟩) soZ).trans y3b;refine hK.out _ _ (by first|exact ⟨y3,y3b⟩|exact KF.out _ Lau) (λhHeld=>?_);clear hK K
 try simp only [ga,gs,gz,Act.put,sa,sz,ss]
 clear KF;refine Zn1 krZ ?_ _;refine Zd1 ?_;have hH:Blk w5 fr 177 [.int .i64 a,.int .i64 b,.int .i64 k,.int .i64 kk,.int .i64 i,.int .i64 ii,.int .i64 1,.int .i64 1,.int .i64 st,.int .i64 0,.int .i64 0,.int .i64 0].toArray:=hg.out;have hj:Below fr w4 w5:=(Ze1 fr w4).drew.trans hb;have hm:=zI hj;clear hg hb hj y3 y3b
 repeat (clear hHeld)
 have hY:=zI hH;clear hH;have y4:=(hm.out.cell (p:=⟨Ob,Oo+1,none⟩) hr).trans ((hf.out.cell (p:=⟨Ob,Oo+1,none⟩) hr).trans Y4.out);have y4b:=(hm.out.cell (p:=⟨Ob,Oo+2,none⟩) hr).trans ((hf.out.cell (p:=⟨Ob,Oo+2,none⟩) hr).trans Y4b.out);go_upto_region 6 with fail;have KF:=zI (show ∀Xw,Later w5 Xw->Xw.cell? ⟨Ob,Oo+1,none⟩=some (.int .i64 o)/\Xw.cell? ⟨Ob,Oo+2,none⟩=some (.int .i64 oo) from λXw h=>⟨h.cell y4,h.cell y4b⟩);refine Zm1 ?_;refine Zl1 (S:=λXw=>Xw.cell? ⟨Ob,Oo+1,none⟩=some (.int .i64 o)/\Xw.cell? ⟨Ob,Oo+2,none⟩=some (.int .i64 oo)) krZ (KF.out _ Lau) (λhHeld=>?_);refine tk 0 ?_;refine tk 1 ?_;refine tk 2 ?_;refine tk 3 ?_;refine tk 4 ?_;refine rd 5 λK hK=>?_
 refine step_copy_splice (by rfl) (.tmp 43) (.tmp 45) _ _ (by rfl) 3 hu hv (some ⟨fr,6,none⟩) (some ⟨Ob,Oo+1,none⟩) 2 2 2 (oc-1) (by rfl) (by rfl) fr 6 [.int .i64 a,.int .i64 b,.int .i64 k,.int .i64 kk,.int .i64 i,.int .i64 ii,.int .i64 1,.int .i64 1,.int .i64 st,.int .i64 0,.int .i64 0,.int .i64 0] 177 hY.out.drew ([.int .i64 o,.int .i64 oo]:List Value) rfl (λ_=>⟨rfl,_,rfl,qdt y4 y4b⟩) sZ (by intro u hu;simp at hu;rcases hu with rfl|rfl<;>rfl) fr _ (Ze1 _ _) (lrZ _) ?_;intro w6 hg hb;have y4:=(hb.cell (p:=⟨Ob,Oo+1,none⟩) soZ).trans y4;have y4b:=(hb.cell (p:=⟨Ob,Oo+2,none⟩) soZ).trans y4b;refine hK.out _ _ (by first|exact ⟨y4,y4b⟩|exact KF.out _ Lau) (λhHeld=>?_);clear hK K
 try simp only [ga,gs,gz,Act.put,sa,sz,ss]
 clear KF;refine Zn1 krZ ?_ _;refine Zd1 ?_;have hF:Blk w6 fr 177 [.int .i64 a,.int .i64 b,.int .i64 k,.int .i64 kk,.int .i64 i,.int .i64 ii,.int .i64 o,.int .i64 oo,.int .i64 st,.int .i64 0,.int .i64 0,.int .i64 0].toArray:=hg.out;have hj:Below fr w5 w6:=(Ze1 fr w5).drew.trans hb;have hy:=zI hj;clear hg hb hj y4 y4b
 repeat (clear hHeld)
 have he:=zI hF;clear hF;have hB:Below fr w2 w6:=(hf.out.trans hm.out).trans hy.out;have hO:Below w.heap.size w w2:=hh.out.trans hL.out;have hI:w.heap.size<=fr:=by rw [hn.out];exact hh.out.size
 have hS:Below w.heap.size w w6:=hO.trans (hB.mono hI);have hZ:=zI hS;have ha:Blk w6 w.heap.size 177 #[.int .i64 0,.int .i64 0,.int .i64 0,.int .i64 0,.int .i64 0,.int .i64 0,.int .i64 0,.int .i64 0,.int .i64 0,.int .i64 0,.int .i64 0,.int .i64 0]:=(hL.out.blk Hz.out).below hB (by rw [hn.out];exact Hz.out.lt);have h6:w.heap.size<fr:=by rw [hn.out];exact Hz.out.lt
 have ht:w.heap.size≠fr:=by omega
 have hJ:=((ha.far (p:=⟨fr,9,none⟩) ht (.int .i64 kk)).far (p:=⟨fr,10,none⟩) ht (.int .i64 (k*kk))).far (p:=⟨fr,11,none⟩) ht (.int .i64 (i*ii));have hG:=hJ.set_ 0 (.int .i64 (a));have hN:=hG.set_ 1 (.int .i64 (b));have hT:=hN.set_ 2 (.int .i64 (k));have hU:=hT.set_ 3 (.int .i64 (kk));have hR:=hU.set_ 4 (.int .i64 (i));have hM:=hR.set_ 5 (.int .i64 (ii));have hD:=hM.set_ 6 (.int .i64 (o));have hQ:=hD.set_ 7 (.int .i64 (oo));have hE:=hQ.set_ 8 (.int .i64 (st));have hp:=hE.set_ 9 (.int .i64 (kk));have hq:=hp.set_ 10 (.int .i64 (k*kk));have hd:=hq.set_ 11 (.int .i64 (i*ii));have d0:=hd.cell 0;have d1:=hd.cell 1;have d2:=hd.cell 2;have d3:=hd.cell 3;have d4:=hd.cell 4;have d5:=hd.cell 5;have d6:=hd.cell 6;have d7:=hd.cell 7;have d8:=hd.cell 8;have d9:=hd.cell 9;have d10:=hd.cell 10;have d11:=hd.cell 11;simp at d0 d1 d2 d3 d4 d5 d6 d7 d8 d9 d10 d11;clear hJ hG hN hT hU hR hM hD hQ hE hp hq hd;obtain ⟨D0,D1,D2,D3,D4,D5,D6,D7,D8⟩:=zd9 d0 d1 d2 d3 d4 d5 d6 d7 d8;obtain ⟨D9,D10,D11⟩:=zd3 d9 d10 d11;clear d0 d1 d2 d3 d4 d5 d6 d7 d8 d9 d10 d11 hS hB hO hI;have c0:w6.cell? ⟨fr,0,none⟩=some (.int .i64 a):=by rw [he.out.cell];rfl
 have c1:w6.cell? ⟨fr,1,none⟩=some (.int .i64 b):=by rw [he.out.cell];rfl
 have c2:w6.cell? ⟨fr,2,none⟩=some (.int .i64 k):=by rw [he.out.cell];rfl
 have c3:w6.cell? ⟨fr,3,none⟩=some (.int .i64 kk):=by rw [he.out.cell];rfl
 have c4:w6.cell? ⟨fr,4,none⟩=some (.int .i64 i):=by rw [he.out.cell];rfl
 have c5:w6.cell? ⟨fr,5,none⟩=some (.int .i64 ii):=by rw [he.out.cell];rfl
 have c6:w6.cell? ⟨fr,6,none⟩=some (.int .i64 o):=by rw [he.out.cell];rfl
 have c7:w6.cell? ⟨fr,7,none⟩=some (.int .i64 oo):=by rw [he.out.cell];rfl
 have c8:w6.cell? ⟨fr,8,none⟩=some (.int .i64 st):=by rw [he.out.cell];rfl
 have c9:w6.cell? ⟨fr,9,none⟩=some (.int .i64 0):=by rw [he.out.cell];rfl
 have c10:w6.cell? ⟨fr,10,none⟩=some (.int .i64 0):=by rw [he.out.cell];rfl
 have c11:w6.cell? ⟨fr,11,none⟩=some (.int .i64 0):=by rw [he.out.cell];rfl
 have f9:=he.out.frozen 9;have f10:=he.out.frozen 10;have f11:=he.out.frozen 11;obtain ⟨m1,m2⟩:=hk;obtain ⟨m3,m4⟩:=hi;have z0:=ha.cell 0;have g0:=ha.frozen 0;have z1:=ha.cell 1;have g1:=ha.frozen 1;have z2:=ha.cell 2;have g2:=ha.frozen 2;have z3:=ha.cell 3;have g3:=ha.frozen 3;have z4:=ha.cell 4;have g4:=ha.frozen 4;have z5:=ha.cell 5;have g5:=ha.frozen 5;have z6:=ha.cell 6;have g6:=ha.frozen 6;have z7:=ha.cell 7;have g7:=ha.frozen 7;have z8:=ha.cell 8;have g8:=ha.frozen 8;have z9:=ha.cell 9;have g9:=ha.frozen 9;have z10:=ha.cell 10;have g10:=ha.frozen 10;have z11:=ha.cell 11;have g11:=ha.frozen 11;simp at z0 z1 z2 z3 z4 z5 z6 z7 z8 z9 z10 z11;have h7:=zI ha;clear ha;go_wp2_with fail;clear c0 z0 g0 c1 z1 g1 c2 z2 g2 c3 z3 g3 c4 z4 g4 c5 z5 g5 c6 z6 g6 c7 z7 g7 c8 z8 g8 c9 z9 g9 c10 z10 g10 c11 z11 g11 f9 f10 f11;have d0:=D0.out;have d1:=D1.out;have d2:=D2.out;have d3:=D3.out;have d4:=D4.out;have d5:=D5.out;have d6:=D6.out;have d7:=D7.out;have d8:=D8.out;have d9:=D9.out;have d10:=D10.out;have d11:=D11.out;refine Zk1 (v:=.agg #[.int .i64 (a),.int .i64 (b),.int .i64 (k),.int .i64 (kk),.int .i64 (i),.int .i64 (ii),.int .i64 (o),.int .i64 (oo),.int .i64 (st),.int .i64 (kk),.int .i64 (k*kk),.int .i64 (i*ii)]) (by simp [results,Tryz.results114,go_sem,d0,d1,d2,d3,d4,d5,d6,d7,d8,d9,d10,d11]) rfl ⟨rfl,?_⟩
 repeat (refine Below.setCell ?_ (by first|exact lrZ _|(simp;omega)|omega) _)
 exact hZ.out
def Above (b:Nat) (A B:Zp1):Prop:=A.heap.size<=B.heap.size/\∀k,b<=k->k<A.heap.size->B.heap[k]? = A.heap[k]?
theorem Above.refl (b:Nat) (A:Zp1):Above b A A:=⟨lrZ _,λ_ _ _=>rfl⟩
theorem Above.trans {b:Nat} {A B C:Zp1} (h:Above b A B) (k:Above b B C):Above b A C:=
 ⟨Zv h.1 k.1,λi hi hl=>(k.2 i hi (ltZ hl h.1)).trans (h.2 i hi hl)⟩
theorem Above.mono {b b':Nat} {A B:Zp1} (h:Above b A B) (hb:b<=b'):Above b' A B:=⟨h.1,λk hk hl=>h.2 k oZ hl⟩
theorem Above.alloc (b:Nat) (A:Zp1) (o:Obj):Above b A (A.alloc o):=⟨by simp,λk _ hk=>Below.heap_alloc A o k hk⟩
theorem Above.of_below {b:Nat} {A B:Zp1} (h:Below A.heap.size A B):Above b A B:=⟨h.size,λk _ hk=>h.block k hk⟩
theorem Above.cell {b:Nat} {A B:Zp1} {p:Addr} {v:Value} (h:Above b A B) (hb:b<=p.block) (hc:A.cell? p=some v):B.cell? p=some v:=
 (Zi1 (h.2 p.block hb (Zj1 _ _ hc))).trans hc
theorem Above.frozen {b:Nat} {A B:Zp1} {p:Addr} (h:Above b A B) (hb:b<=p.block) (hl:p.block<A.heap.size):B.frozen? p=A.frozen? p:=
 World.frozen?_of_block (h.2 p.block hb hl)
theorem Above.setCell {b:Nat} {A:Zp1} {p:Addr} (hp:p.block<b) (v:Value):Above b A (A.setCell p v):=
 ⟨by simp,λk hk _=>Below.heap_setCell A p v k oZ⟩
theorem qbh {b l:Nat} (W:Zp1) (o:Obj) (h:b<=l):Below b W (W.putObj l o):=
 ⟨rfl,rfl,rfl,by simp,λk hk=>World.putObj_heap_other oZ⟩
variable {F:Fence} {n:Nat} {P:Program}
theorem qba {α:Type} {g:Operand} {ps:Array Tmp} {assign body:Code} {Q:Exit->Act->Zp1->Prop} {a:Act} {w:Zp1}
  (m:Nat) (hro:F.round=none) (h1:1<=n) {gf:Nat} {lf:Array Value} (hg:a.eval g=.func (.func gf) lf #[]) (hFg:F.fn gf)
  (eg:∀args w,(callFunc gf args).run P w=.ok (.enter gf args) w) (enc:α->Value) (hps:ps.size=1) (xs:List α)
  (I:List α->Zp1->Prop) (hI:∀pre A B,Below w.heap.size A B->I pre A->I pre B) (h0:I [] w)
  (hseq:∀(l:Nat) (J:List α->Zp1->Prop) (W:Zp1),W.heap.size=w.heap.size+2->Below w.heap.size w W->
   (∀pre A B,Below W.heap.size A B->J pre A->J pre B)->
   (∀pre x rest A,xs=pre++x::rest->J pre A->YieldAt F m P l #[enc x] A λe B=>e=.returned (.bool true)/\J (pre++[x]) B/\Above W.heap.size A B)->
   J [] W->CallsIn F (n-1) P gf (lf++#[.func (.yield l) #[] #[]]) W λe B=>(∃v,e=.returned v)/\J xs B)
  (hbody:∀pre x rest A,xs=pre++x::rest->I pre A->w.heap.size+2<=A.heap.size->
   assign.wpIn (F.inRound (w.heap.size+1)) m P (Exit.then (λa₁ A₁=>Above w.heap.size A A₁/\
    ∀A₂,A₂.heap.size=A₁.heap.size->(∀k,k≠w.heap.size+1->A₂.heap[k]? = A₁.heap[k]?)->Below w.heap.size A₁ A₂->
     body.wpIn (F.inRound (w.heap.size+1)) m P (λe _ B=>e=.normal/\Above w.heap.size A₂ B/\I (pre++[x]) B) a₁ A₂) (λ_ _ _=>False))
    { tmps:=(ps.zip #[enc x]).foldl (λt (p,v)=>t.setIfInBounds p v) a.tmps,defers:=[] } A)
  (hdone:∀(D:Nat) (W:Zp1),I xs W->w.heap.size<=D->W.heap[D]? = some (.deferred (some []))->Q .normal { a with defers:={ target:=.collected D,args:=#[] }::a.defers } W):
  (Code.rangeFunc g ps assign body).wpIn F n P Q a w:=by
 refine wpIn_rangeFunc ?_;intro fn hA;rw [hro];obtain ⟨rec,hrec⟩:∃rec:LoopState->Option Code->Loop,rec=λst pe=>{ state:=st,pending:=pe,fn,tmps:=a.tmps,params:=ps,assign,body,defers:=w.heap.size }:=⟨_,rfl⟩
 obtain ⟨W1,hW1⟩:∃W1,(w.alloc (.deferred (some []))).alloc (.loop (rec .ready none))=W1:=⟨_,rfl⟩
 have hv:W1.heap[w.heap.size+1]? = some (.loop (rec .ready none)):=by
  rw [←hW1];have:=World.alloc_heap_new (w.alloc (.deferred (some []))) (.loop (rec .ready none));rwa [Zh1] at this
 have hz:W1.heap[w.heap.size]? = some (.deferred (some [])):=by
  rw [←hW1];exact (Below.heap_alloc _ _ _ sZ).trans (World.alloc_heap_new w _)
 have hj:W1.heap.size=w.heap.size+2:=by rw [←hW1];simp
 have ho:Below w.heap.size w W1:=by
  rw [←hW1];exact ((Ze1 _ w).alloc (lrZ _) _).alloc sZ _
 refine ⟨w.heap.size+1,[{ target:=.collected w.heap.size,args:=#[] }],W1,{ target:=.fn (.func gf) #[],args:=lf++#[.func (.yield (w.heap.size+1)) #[] #[]] },W1,gf,
  lf++#[.func (.yield (w.heap.size+1)) #[] #[]],W1,?_,?_,?_,?_,λ_=>h1,?_⟩
 ·rw [←hW1,hrec];exact run_enterLoop_outer _ _ _ _ _
 ·simp only [resolve,hg]
  simp [go_sem]
 ·intro f' hp;simp [Target.leads] at hp;subst hp;exact hFg
 ·simp [invoke,go_sem,eg]
 ·refine (hseq (w.heap.size+1)
   (λpre W=>I pre W/\W.heap[w.heap.size+1]? = some (.loop (rec .ready none))/\W.heap[w.heap.size]? = some (.deferred (some [])))
   W1 hj ho ?_ ?_ ⟨hI _ _ _ ho h0,hv,hz⟩).mono ?_
  ·rintro pre A B hb ⟨hi,hl,hk⟩
   rw [hj] at hb;exact ⟨hI _ _ _ (hb.mono oZ) hi,(hb.block _ oZ).trans hl,(hb.block _ oZ).trans hk⟩
  ·rintro pre x rest A hx ⟨hi,hl,hk⟩
   have hr:w.heap.size+1<A.heap.size:=(Array.getElem?_eq_some_iff.1 hl).1;have hy:=run_yield (P:=P) (args:=#[enc x]) hl (by rw [hrec];simp [hps]);rw [hrec] at hy;refine ⟨fn,_,assign,body,hy,roundIn_of_wpIn hA (wpIn_mono (hbody pre x rest A hx hi oZ) ?_)⟩;rintro e a1 A1 hq;cases e with
   | normal=>
    obtain ⟨hc,hC⟩:=hq;have hm:A1.heap[w.heap.size+1]? = some (.loop (rec .ready none)):=(hc.2 _ oZ hr).trans hl;have ht:A1.heap[w.heap.size]? = some (.deferred (some [])):=(hc.2 _ oZ oZ).trans hk;have hd:w.heap.size+1<A1.heap.size:=(Array.getElem?_eq_some_iff.1 hm).1;refine ⟨_,run_beginRound hm (by rw [hrec]),?_⟩;refine wpIn_mono (hC _ sZ (λk hn=>World.putObj_heap_other hn) (qbh _ _ oZ)) ?_;have hu:(A1.putObj (w.heap.size+1) (.loop { rec .ready none with state:=.busy })).heap[w.heap.size+1]? = some (.loop { rec .ready none with state:=.busy }):=World.putObj_heap_same hd;have hw:(A1.putObj (w.heap.size+1) (.loop { rec .ready none with state:=.busy })).heap[w.heap.size]? = some (.deferred (some [])):=(World.putObj_heap_other oZ).trans ht;rintro e a3 B ⟨rfl,ha,hs⟩;have hh:=(ha.2 _ oZ (by simpa using hd)).trans hu;have hB:=(ha.2 _ oZ soZ).trans hw;have he:=run_endRound (P:=P) none hh;rw [hrec] at he;rw [hrec] at hh;have hf:w.heap.size+1<B.heap.size:=(Array.getElem?_eq_some_iff.1 hh).1;refine ⟨_,_,he,rfl,⟨hI _ _ _ (qbh _ _ oZ) hs,?_,(World.putObj_heap_other oZ).trans hB⟩,?_⟩
    ·rw [hrec];exact World.putObj_heap_same hf
    ·rw [hj]
     refine ⟨by have:=hc.1;have:=ha.1;simp at this ⊢;omega,λk hn hD=>?_⟩;refine (World.putObj_heap_other oZ).trans ?_;refine (ha.2 k oZ (by have:=hc.1;simp;omega)).trans ?_;exact (World.putObj_heap_other oZ).trans (hc.2 k oZ hD)
   | _=>exact hq.elim
  ·rintro e W2 ⟨⟨v,rfl⟩,hi,hl,hk⟩
   refine ⟨none,_,by have:=run_endLoop (P:=P) hl (by rw [hrec];simp);rw [hrec] at this;exact this,?_⟩;exact hdone _ _ (hI _ _ _ (qbh _ _ oZ) hi) (lrZ _) ((World.putObj_heap_other oZ).trans hk)
end Go.Proofs.YtbnnpkcfifejmaaGreat
namespace Go.Proofs.YtbnnpkcfifejmaaGreat
set_option maxHeartbeats 16000000
open Go.RowKit
attribute [local go_sem] Oper.semAt_some
namespace Ly
def Frame.V (f:Frame):Value:=.agg #[.int .i64 f.outs,.int .i64 f.ins,.int .i64 f.k0,.int .i64 f.k1,.int .i64 f.i0,.int .i64 f.i1,.int .i64 f.o0,.int .i64 f.o1,.int .i64 f.step,.int .i64 f.k1,.int .i64 (f.k0*f.k1:Nat),.int .i64 (f.i0*f.i1:Nat)]
def Frame.oneT (f:Frame) (p i j q t u:Nat):Touch:=⟨(p*f.o0+i)*f.o1+j,(p*f.ins+q)*(f.k0*f.k1)+t * f.k1+u,q*(f.i0*f.i1)+(i*f.step*f.i1+j*f.step)+t * f.i1+u⟩
theorem Frame.rowT_eq (f:Frame) (p i j q t:Nat):f.rowT p i j q t=(List.range f.k1).map (f.oneT p i j q t):=rfl
theorem qaI {n q:Nat} (h:q<n):∃r,List.range n=List.range q++q::r:=by
 obtain ⟨d,rfl⟩:∃d,n=q+(1+d):=⟨n-q-1,by omega⟩
 refine ⟨(List.range d).map (λx=>q+(1+x)),?_⟩;rw [List.range_add,List.range_add];simp [Function.comp_def]
theorem Frame.cellT_split (f:Frame) (p i j q t u:Nat) (hq:q<f.ins) (ht:t<f.k0) (hu:u<f.k1):
  ∃rest,f.cellT p i j=((List.range q).flatMap (λq=>(List.range f.k0).flatMap λt=>f.rowT p i j q t)++((List.range t).flatMap (λt=>f.rowT p i j q t)++(List.range u).map (f.oneT p i j q t)))++f.oneT p i j q t u::rest:=by
 obtain ⟨r1,h1⟩:=qaI hq;obtain ⟨r2,h2⟩:=qaI ht;obtain ⟨r3,h3⟩:=qaI hu;unfold Frame.cellT;rw [h1,Zj,List.flatMap_cons];refine ⟨r3.map (f.oneT p i j q t)++r2.flatMap (λt=>f.rowT p i j q t)++r1.flatMap (λq=>(List.range f.k0).flatMap λt=>f.rowT p i j q t),?_⟩
 conv=>lhs;rhs;lhs;rw [h2,Zj,List.flatMap_cons,Frame.rowT_eq,h3]
 simp
def Touch.V (t:Touch):Value:=.agg #[.int .i64 t.o,.int .i64 t.w,.int .i64 t.x]
end Ly
theorem qaE (n:Int) (h : -9223372036854775808<=n/\n<=9223372036854775807):wrap64 n=n:=by unfold wrap64;omega
theorem wr_o (p o i o1 j:Nat) (h:(p*o+i)*o1+j<=1048576):((((p*o+i)*o1+j:Nat)):Int)=wrap64 (wrap64 (((p:Int)*o+i)*o1)+j):=by
 have e:((p:Int)*o+i)*o1=(((p*o+i)*o1:Nat):Int):=by simp
 rw [e];generalize (p*o+i)*o1=z at *;rw [qaE z oZ,qaE _ oZ];simp
theorem wr_w (p s q k kk t u:Nat) (h:(p*s+q)*(k*kk)<=1048576) (h2:t * kk<=1048576) (h3:u<=1048576):
  ((((p*s+q)*(k*kk)+t * kk+u:Nat)):Int)=wrap64 (wrap64 (wrap64 (((p:Int)*s+q)*((k:Int)*kk))+(t:Int)*kk)+u):=by
 have e:((p:Int)*s+q)*((k:Int)*kk)=(((p*s+q)*(k*kk):Nat):Int):=by simp
 have e2:(t:Int)*kk=((t * kk:Nat):Int):=by simp
 rw [e,e2];generalize (p*s+q)*(k*kk)=z at *;generalize t * kk=y at *;rw [qaE z oZ,qaE (z+y) oZ,qaE _ oZ];simp
theorem wr_x (q a b i s j t u:Nat) (h:q*(a*b)<=1048576) (h2:i*s*b<=1048576) (h3:j*s<=1048576) (h4:t * b<=1048576) (h5:u<=1048576):
  ((q*(a*b)+(i*s*b+j*s)+t * b+u:Nat):Int)=wrap64 (wrap64 (wrap64 (wrap64 ((q:Int)*((a:Int)*b))+wrap64 (wrap64 ((i:Int)*s*b)+(j:Int)*s))+(t:Int)*b)+u):=by
 have e:(q:Int)*((a:Int)*b)=((q*(a*b):Nat):Int):=by simp
 have e2:(i:Int)*s*b=((i*s*b:Nat):Int):=by simp
 have e3:(j:Int)*s=((j*s:Nat):Int):=by simp
 have e4:(t:Int)*b=((t * b:Nat):Int):=by simp
 rw [e,e2,e3,e4];generalize q*(a*b)=z at *;generalize i*s*b=y at *;generalize j*s=x at *;generalize t * b=v at *;rw [qaE (z:Int) oZ,qaE (y:Int) oZ,qaE ((y:Int)+x) oZ,qaE ((z:Int)+(y+x)) oZ,qaE ((z:Int)+(y+x)+v) oZ,qaE _ oZ];simp
theorem Above.blk {b g:Nat} {t:TypeId} {cs:Array Value} {A B:Zp1} (h:Above b A B) (hb:b<=g) (hk:Blk A g t cs):Blk B g t cs:=
 (h.2 g hb hk.lt).trans hk
theorem qfk (F:Fence) (n m l:Nat) (hF:F.fn 147) (hm:F.round=none) (hn:1<=n) (f:Ly.Frame) (B:Nat) (xs:List Ly.Touch) (J:List Ly.Touch->Zp1->Prop)
  (hJ:∀pre A A',Below B A A'->J pre A->J pre A')
  (hY:∀pre x rest A,xs=pre++x::rest->J pre A->YieldAt F (n-1) Tryz.prog l #[x.V] A λe A'=>e=.returned (.bool true)/\J (pre++[x]) A'/\Above B A A')
  (p i j:Nat) (pre post:List Ly.Touch) (W:Zp1) (hB:B<=W.heap.size) (hx:xs=pre++(f.cellT p i j++post)) (h0:J pre W)
  (h1:p*f.o0+i<=1048576) (h2:(p*f.o0+i)*f.o1+j<=1048576) (h3:i*f.step<=1048576) (h4:i*f.step*f.i1<=1048576) (h5:j*f.step<=1048576)
  (hq1:∀q,q<f.ins->p*f.ins+q<=1048576/\(p*f.ins+q)*(f.k0*f.k1)<=1048576/\q*(f.i0*f.i1)<=1048576) (hq2:∀t,t<f.k0->t * f.i1<=1048576/\t * f.k1<=1048576) (hq3:f.k1<=1048576) (hq4:f.ins<=1048576) (hq5:f.k0<=1048576):
  CallsIn F n Tryz.prog 147 #[f.V,.int .i64 p,.int .i64 i,.int .i64 j,.func (.yield l) #[] #[]] W λe W'=>e=.returned (.bool true)/\J (pre++f.cellT p i j) W'/\Above B W W':=by
 refine callsIn_of_wp Tryz.func147 rfl hF ?_ hm;simp only [Tryz.ntmps147,List.size_toArray,List.length_cons,List.length_nil,Nat.reduceAdd,Nat.reduceSub,Array.replicate_succ,Array.replicate_zero,List.push_toArray,List.append_toArray,List.nil_append,List.cons_append];unfold Ly.Frame.V
 gi_wp2
 have ho:=Blk.new W 177 #[.int .i64 f.outs,.int .i64 f.ins,.int .i64 f.k0,.int .i64 f.k1,.int .i64 f.i0,.int .i64 f.i1,.int .i64 f.o0,.int .i64 f.o1,.int .i64 f.step,.int .i64 f.k1,.int .i64 (f.k0*f.k1:Nat),.int .i64 (f.i0*f.i1:Nat)];have hi:=hJ _ _ _ (((Ze1 B W).alloc hB (.cells #[.int .i64 f.outs,.int .i64 f.ins,.int .i64 f.k0,.int .i64 f.k1,.int .i64 f.i0,.int .i64 f.i1,.int .i64 f.o0,.int .i64 f.o1,.int .i64 f.step,.int .i64 f.k1,.int .i64 (f.k0*f.k1:Nat),.int .i64 (f.i0*f.i1:Nat)] 177))) h0
 gi_loopw [46] (λv wr=>∃q:Nat,q<=f.ins/\v=.int .i64 q/\Blk wr W.heap.size 177 #[.int .i64 f.outs,.int .i64 f.ins,.int .i64 f.k0,.int .i64 f.k1,.int .i64 f.i0,.int .i64 f.i1,.int .i64 f.o0,.int .i64 f.o1,.int .i64 f.step,.int .i64 f.k1,.int .i64 (f.k0*f.k1:Nat),.int .i64 (f.i0*f.i1:Nat)]/\J (pre++(List.range q).flatMap λq=>(List.range f.k0).flatMap λt=>f.rowT p i j q t) wr/\Above B W wr) (λv _=>f.ins-(intOf v).toNat)
 case atStart=>exact ⟨0,Zt _,rfl,ho,by simpa using hi,Above.alloc _ _ _⟩
 case round=>
  obtain ⟨q,hq,rfl,hk,hd,hA⟩:=hrel;have c1:=hk.cell 1;have c2:=hk.cell 2;have c3:=hk.cell 3;have c5:=hk.cell 5;have c8:=hk.cell 8;have c9:=hk.cell 9;have c10:=hk.cell 10;have c11:=hk.cell 11;simp at c1 c2 c3 c5 c8 c9 c10 c11;rcases Nat.lt_or_ge q f.ins with hb|hr
  ·obtain ⟨b1,b2,b3⟩:=hq1 q hb
   gi_wp2
   gi_loopw [61] (λv wr=>∃t:Nat,t<=f.k0/\v=.int .i64 t/\Blk wr W.heap.size 177 #[.int .i64 f.outs,.int .i64 f.ins,.int .i64 f.k0,.int .i64 f.k1,.int .i64 f.i0,.int .i64 f.i1,.int .i64 f.o0,.int .i64 f.o1,.int .i64 f.step,.int .i64 f.k1,.int .i64 (f.k0*f.k1:Nat),.int .i64 (f.i0*f.i1:Nat)]/\J (pre++((List.range q).flatMap (λq=>(List.range f.k0).flatMap λt=>f.rowT p i j q t)++(List.range t).flatMap (λt=>f.rowT p i j q t))) wr/\Above B W wr) (λv _=>f.k0-(intOf v).toNat)
   case atStart=>exact ⟨0,Zt _,rfl,hk,by simpa using hd,hA⟩
   case round=>
    obtain ⟨t,ht,rfl,hk,he,hA⟩:=hrel;clear c1 c2 c3 c5 c8 c9 c10 c11 hd;have c1:=hk.cell 1;have c2:=hk.cell 2;have c3:=hk.cell 3;have c5:=hk.cell 5;have c8:=hk.cell 8;have c9:=hk.cell 9;have c10:=hk.cell 10;have c11:=hk.cell 11;simp at c1 c2 c3 c5 c8 c9 c10 c11;rcases Nat.lt_or_ge t f.k0 with hc|hp
    ·obtain ⟨d1,d2⟩:=hq2 t hc
     gi_wp2
     gi_loopw [78] (λv wr=>∃u:Nat,u<=f.k1/\v=.int .i64 u/\Blk wr W.heap.size 177 #[.int .i64 f.outs,.int .i64 f.ins,.int .i64 f.k0,.int .i64 f.k1,.int .i64 f.i0,.int .i64 f.i1,.int .i64 f.o0,.int .i64 f.o1,.int .i64 f.step,.int .i64 f.k1,.int .i64 (f.k0*f.k1:Nat),.int .i64 (f.i0*f.i1:Nat)]/\J (pre++((List.range q).flatMap (λq=>(List.range f.k0).flatMap λt=>f.rowT p i j q t)++((List.range t).flatMap (λt=>f.rowT p i j q t)++(List.range u).map (f.oneT p i j q t)))) wr/\Above B W wr) (λv _=>f.k1-(intOf v).toNat)
     case atStart=>exact ⟨0,Zt _,rfl,hk,by simpa using he,hA⟩
     case round=>
      obtain ⟨u,hu,rfl,hk,hg,hA⟩:=hrel;clear c1 c2 c3 c5 c8 c9 c10 c11 he;have c1:=hk.cell 1;have c2:=hk.cell 2;have c3:=hk.cell 3;have c5:=hk.cell 5;have c8:=hk.cell 8;have c9:=hk.cell 9;have c10:=hk.cell 10;have c11:=hk.cell 11;simp at c1 c2 c3 c5 c8 c9 c10 c11;rcases Nat.lt_or_ge u f.k1 with hh|hs
      ·obtain ⟨rest,ha⟩:=f.cellT_split p i j q t u hb hc hh
       obtain ⟨fn,tmps,assign,body,hy,hR⟩:=hY _ (f.oneT p i j q t u) (rest++post) wr (by rw [hx,ha];simp) hg;simp only [Ly.Touch.V,Ly.Frame.oneT] at hy;have x1:((((p*f.o0+i)*f.o1+j:Nat)):Int)=wrap64 (wrap64 (((p:Int)*f.o0+i)*f.o1)+j):=wr_o _ _ _ _ _ h2;have x2:((((p*f.ins+q)*(f.k0*f.k1)+t * f.k1+u:Nat)):Int)=wrap64 (wrap64 (wrap64 (((p:Int)*f.ins+q)*((f.k0:Int)*f.k1))+(t:Int)*f.k1)+u):=wr_w _ _ _ _ _ _ _ b2 d2 oZ;have x3:((q*(f.i0*f.i1)+(i*f.step*f.i1+j*f.step)+t * f.i1+u:Nat):Int)=wrap64 (wrap64 (wrap64 (wrap64 ((q:Int)*((f.i0:Int)*f.i1))+wrap64 (wrap64 ((i:Int)*f.step*f.i1)+(j:Int)*f.step))+(t:Int)*f.i1)+u):=wr_x _ _ _ _ _ _ _ _ b3 h4 h5 d1 oZ;rw [x1,x2,x3] at hy
       gi_wp2
       refine hR.mono ?_;rintro e W3 ⟨rfl,hj,hf⟩;have hl:=hf.blk hB hk;clear hy hR c1 c2 c3 c5 c8 c9 c10 c11
       gi_wp2
       refine ⟨?_,?_⟩
       ·refine ⟨_,_,_,_,_,_,_,_,_,_,_,_,_,_,_,_,_,_,_,_,_,_,⟨u+1,hh,?_,hl,?_,hA.trans hf⟩,rfl⟩
        ·simp
        ·rw [List.range_succ,List.map_append];simpa using hj
       ·simp [intOf];omega
      ·obtain rfl:u=f.k1:=by omega
       gi_wp2
       go_roundw
       case rel=>exact ⟨t+1,hc,by simp,hk,by rw [List.range_succ,Zj];simpa [Ly.Frame.rowT_eq] using hg,hA⟩
       case measure=>simp [intOf];omega
    ·obtain rfl:t=f.k0:=by omega
     gi_wp2
     go_roundw
     case rel=>exact ⟨q+1,hb,by simp,hk,by rw [List.range_succ,Zj];simpa using he,hA⟩
     case measure=>simp [intOf];omega
  ·obtain rfl:q=f.ins:=by omega
   gi_wp2
   go_ret;exact ⟨rfl,hd,hA⟩
end Go.Proofs.YtbnnpkcfifejmaaGreat
namespace Go.Proofs.YtbnnpkcfifejmaaGreat
set_option maxHeartbeats 16000000
open Go.RowKit
attribute [local go_sem] Oper.semAt_some
namespace Ly
def Frame.lineT (f:Frame) (p i:Nat):List Touch:=(List.range f.o1).flatMap λj=>f.cellT p i j
def Frame.planeT (f:Frame) (p:Nat):List Touch:=(List.range f.o0).flatMap λi=>f.lineT p i
theorem Frame.all_eq (f:Frame):f.all=(List.range f.outs).flatMap λp=>f.planeT p:=rfl
theorem Frame.all_split (f:Frame) (p i j:Nat) (hp:p<f.outs) (hi:i<f.o0) (hj:j<f.o1):
  ∃rest,f.all=((List.range p).flatMap (λp=>f.planeT p)++((List.range i).flatMap (λi=>f.lineT p i)++(List.range j).flatMap (λj=>f.cellT p i j)))++(f.cellT p i j++rest):=by
 obtain ⟨r1,h1⟩:=qaI hp;obtain ⟨r2,h2⟩:=qaI hi;obtain ⟨r3,h3⟩:=qaI hj;rw [Frame.all_eq,h1,Zj,List.flatMap_cons];refine ⟨r3.flatMap (λj=>f.cellT p i j)++r2.flatMap (λi=>f.lineT p i)++r1.flatMap (λp=>f.planeT p),?_⟩
 conv=>lhs;rhs;lhs;rw [Frame.planeT,h2,Zj,List.flatMap_cons,Frame.lineT,h3,Zj,List.flatMap_cons]
 simp
structure Frame.Small (f:Frame):Prop where
 outs:f.outs<=1048576
 o0:f.o0<=1048576
 o1:f.o1<=1048576
 ins:f.ins<=1048576
 k0:f.k0<=1048576
 k1:f.k1<=1048576
 out:f.outs*f.o0*f.o1<=1048576
 wgt:f.outs*f.ins*(f.k0*f.k1)<=1048576
 pos:0<f.k0*f.k1
 wide:0<f.o1
 inp:f.ins*(f.i0*f.i1)<=1048576
 high:(f.o0-1)*f.step*f.i1<=1048576
 side:(f.o1-1)*f.step<=1048576
 high2:(f.o0-1)*f.step<=1048576
 kin:f.k0*f.i1<=1048576
theorem Frame.Small.ko {f:Frame} (h:f.Small) {p i j:Nat} (hp:p<f.outs) (hi:i<f.o0) (hj:j<f.o1):
  p*f.o0+i<=1048576/\(p*f.o0+i)*f.o1+j<=1048576:=by
 have h1:(p+1)*f.o0<=f.outs*f.o0:=mlZ _ hp;rw [Zu] at h1;have h2:(p*f.o0+i+1)*f.o1<=f.outs*f.o0*f.o1:=mlZ _ oZ;rw [Zu] at h2;have h3:(p*f.o0+i)*1<=(p*f.o0+i)*f.o1:=Nat.mul_le_mul_left _ h.wide;have:=h.out;omega
theorem Frame.Small.kq {f:Frame} (h:f.Small) {p:Nat} (hp:p<f.outs) (q:Nat) (hq:q<f.ins):
  p*f.ins+q<=1048576/\(p*f.ins+q)*(f.k0*f.k1)<=1048576/\q*(f.i0*f.i1)<=1048576:=by
 have h1:(p+1)*f.ins<=f.outs*f.ins:=mlZ _ hp;rw [Zu] at h1;have h2:(p*f.ins+q)*(f.k0*f.k1)<=f.outs*f.ins*(f.k0*f.k1):=mlZ _ oZ;have h3:(p*f.ins+q)*1<=(p*f.ins+q)*(f.k0*f.k1):=Nat.mul_le_mul_left _ h.pos;have h4:q*(f.i0*f.i1)<=f.ins*(f.i0*f.i1):=mlZ _ oZ;have:=h.wgt;have:=h.inp;omega
theorem Frame.Small.kt {f:Frame} (h:f.Small) (hq:0<f.outs*f.ins) (t:Nat) (ht:t<f.k0):t * f.i1<=1048576/\t * f.k1<=1048576:=by
 have h1:t * f.i1<=f.k0*f.i1:=mlZ _ oZ;have h2:t * f.k1<=f.k0*f.k1:=mlZ _ oZ;have h3:1*(f.k0*f.k1)<=f.outs*f.ins*(f.k0*f.k1):=mlZ _ hq;have:=h.wgt;have:=h.kin;omega
theorem Frame.Small.ki {f:Frame} (h:f.Small) {i:Nat} (hi:i<f.o0):i*f.step<=1048576/\i*f.step*f.i1<=1048576:=by
 have h1:i*f.step<=(f.o0-1)*f.step:=mlZ _ oZ;have h2:i*f.step*f.i1<=(f.o0-1)*f.step*f.i1:=mlZ _ h1;have:=h.high;have:=h.high2;omega
theorem Frame.Small.kj {f:Frame} (h:f.Small) {j:Nat} (hj:j<f.o1):j*f.step<=1048576:=by
 have h1:j*f.step<=(f.o1-1)*f.step:=mlZ _ oZ;have:=h.side;omega
end Ly
theorem qdb (F:Fence) (n l:Nat) (hF:F.fn 115) (hF2:F.fn 147) (hl:F.round=none) (hn:2<=n) (f:Ly.Frame) (hs:f.Small) (hpos:0<f.outs*f.ins) (B:Nat) (J:List Ly.Touch->Zp1->Prop)
  (hJ:∀pre A A',Below B A A'->J pre A->J pre A')
  (hY:∀pre x rest A,f.all=pre++x::rest->J pre A->YieldAt F (n-1-1) Tryz.prog l #[x.V] A λe A'=>e=.returned (.bool true)/\J (pre++[x]) A'/\Above B A A')
  (W:Zp1) (hB:B<=W.heap.size) (h0:J [] W):
  CallsIn F n Tryz.prog 115 #[f.V,.func (.yield l) #[] #[]] W λe W'=>(∃v,e=.returned v)/\J f.all W':=by
 refine callsIn_of_wp Tryz.func115 rfl hF ?_ hl;simp only [Tryz.ntmps115,List.size_toArray,List.length_cons,List.length_nil,Nat.reduceAdd,Nat.reduceSub,Array.replicate_succ,Array.replicate_zero,List.push_toArray,List.append_toArray,List.nil_append,List.cons_append];have hu:=Blk.new W 177 #[.int .i64 f.outs,.int .i64 f.ins,.int .i64 f.k0,.int .i64 f.k1,.int .i64 f.i0,.int .i64 f.i1,.int .i64 f.o0,.int .i64 f.o1,.int .i64 f.step,.int .i64 f.k1,.int .i64 (f.k0*f.k1:Nat),.int .i64 (f.i0*f.i1:Nat)];have ho:=hJ _ _ _ ((Ze1 B W).alloc hB (.cells #[.int .i64 f.outs,.int .i64 f.ins,.int .i64 f.k0,.int .i64 f.k1,.int .i64 f.i0,.int .i64 f.i1,.int .i64 f.o0,.int .i64 f.o1,.int .i64 f.step,.int .i64 f.k1,.int .i64 (f.k0*f.k1:Nat),.int .i64 (f.i0*f.i1:Nat)] 177)) h0;have s1:=hs.outs;have s2:=hs.o0;have s3:=hs.o1;have hy:1<=n:=by omega
 have ht:1<=n-1:=by omega
 unfold Ly.Frame.V
 gi_wp2
 gi_loopw [9] (λv wr=>∃p:Nat,p<=f.outs/\v=.int .i64 p/\Blk wr W.heap.size 177 #[.int .i64 f.outs,.int .i64 f.ins,.int .i64 f.k0,.int .i64 f.k1,.int .i64 f.i0,.int .i64 f.i1,.int .i64 f.o0,.int .i64 f.o1,.int .i64 f.step,.int .i64 f.k1,.int .i64 (f.k0*f.k1:Nat),.int .i64 (f.i0*f.i1:Nat)]/\J ((List.range p).flatMap (λp=>f.planeT p)) wr) (λv _=>f.outs-(intOf v).toNat)
 case atStart=>exact ⟨0,Zt _,rfl,hu,ho⟩
 case round=>
  obtain ⟨p,hp,rfl,hk,hg⟩:=hrel;have c6:=hk.cell 6;have c7:=hk.cell 7;simp at c6 c7;rcases Nat.lt_or_ge p f.outs with he|hw
  ·gi_wp2
   gi_loopw [15] (λv wr=>∃i:Nat,i<=f.o0/\v=.int .i64 i/\Blk wr W.heap.size 177 #[.int .i64 f.outs,.int .i64 f.ins,.int .i64 f.k0,.int .i64 f.k1,.int .i64 f.i0,.int .i64 f.i1,.int .i64 f.o0,.int .i64 f.o1,.int .i64 f.step,.int .i64 f.k1,.int .i64 (f.k0*f.k1:Nat),.int .i64 (f.i0*f.i1:Nat)]/\J ((List.range p).flatMap (λp=>f.planeT p)++(List.range i).flatMap (λi=>f.lineT p i)) wr) (λv _=>f.o0-(intOf v).toNat)
   case atStart=>exact ⟨0,Zt _,rfl,hk,by simpa using hg⟩
   case round=>
    obtain ⟨i,hi,rfl,hk,hf⟩:=hrel;clear c6 c7 hg;have c6:=hk.cell 6;have c7:=hk.cell 7;simp at c6 c7;rcases Nat.lt_or_ge i f.o0 with hd|hz
    ·obtain ⟨g1,g2⟩:=hs.ki hd
     gi_wp2
     gi_loopw [21] (λv wr=>∃j:Nat,j<=f.o1/\v=.int .i64 j/\Blk wr W.heap.size 177 #[.int .i64 f.outs,.int .i64 f.ins,.int .i64 f.k0,.int .i64 f.k1,.int .i64 f.i0,.int .i64 f.i1,.int .i64 f.o0,.int .i64 f.o1,.int .i64 f.step,.int .i64 f.k1,.int .i64 (f.k0*f.k1:Nat),.int .i64 (f.i0*f.i1:Nat)]/\J ((List.range p).flatMap (λp=>f.planeT p)++((List.range i).flatMap (λi=>f.lineT p i)++(List.range j).flatMap (λj=>f.cellT p i j))) wr) (λv _=>f.o1-(intOf v).toNat)
     case atStart=>exact ⟨0,Zt _,rfl,hk,by simpa using hf⟩
     case round=>
      obtain ⟨j,hj,rfl,hk,hh⟩:=hrel;clear c6 c7 hf;have c0:=hk.cell 0;have c1:=hk.cell 1;have c2:=hk.cell 2;have c3:=hk.cell 3;have c4:=hk.cell 4;have c5:=hk.cell 5;have c6:=hk.cell 6;have c7:=hk.cell 7;have c8:=hk.cell 8;have c9:=hk.cell 9;have c10:=hk.cell 10;have c11:=hk.cell 11;simp at c0 c1 c2 c3 c4 c5 c6 c7 c8 c9 c10 c11;rcases Nat.lt_or_ge j f.o1 with hc|hx
      ·obtain ⟨rest,hb⟩:=f.all_split p i j he hd hc
       obtain ⟨g3,g4⟩:=hs.ko he hd hc;have hv:=hk.lt;have ha:=qfk F (n-1) 0 l hF2 hl ht f B f.all J hJ hY p i j _ rest wr oZ hb hh g3 g4 g1 g2 (hs.kj hc) (hs.kq he) (hs.kt hpos) hs.k1 hs.ins hs.k0;unfold Ly.Frame.V at ha
       gi_wp2_with (gi_at_call 147;refine ha.mono ?_;clear ha;rintro e W3 ⟨rfl,hq,hm⟩)
       have hr:=hm.blk hB hk;clear c0 c1 c2 c3 c4 c5 c6 c7 c8 c9 c10 c11;refine ⟨?_,?_⟩
       ·repeat apply Exists.intro
        refine ⟨⟨j+1,hc,?_,hr,?_⟩,rfl⟩
        ·simp
        ·rw [List.range_succ,Zj];simpa using hq
       ·simp [intOf];omega
      ·obtain rfl:j=f.o1:=by omega
       gi_wp2
       go_roundw
       case rel=>exact ⟨i+1,hd,by simp,hk,by rw [List.range_succ,Zj];simpa [Ly.Frame.lineT] using hh⟩
       case measure=>simp [intOf];omega
    ·obtain rfl:i=f.o0:=by omega
     gi_wp2
     go_roundw
     case rel=>exact ⟨p+1,he,by simp,hk,by rw [List.range_succ,Zj];simpa [Ly.Frame.planeT] using hf⟩
     case measure=>simp [intOf];omega
  ·obtain rfl:p=f.outs:=by omega
   gi_wp2
   go_end0
   exact ⟨⟨_,rfl⟩,hg⟩
end Go.Proofs.YtbnnpkcfifejmaaGreat
namespace Go.Proofs.YtbnnpkcfifejmaaGreat
set_option maxHeartbeats 16000000
open Go.RowKit
namespace Ly
structure Frame.Fit (f:Frame):Prop where
 outs:1<=f.outs
 ins:1<=f.ins
 k0:1<=f.k0
 k1:1<=f.k1
 o0:1<=f.o0
 o1:1<=f.o1
 step:1<=f.step
 fit0:(f.o0-1)*f.step+f.k0<=f.i0
 fit1:(f.o1-1)*f.step+f.k1<=f.i1
 out:f.outs*f.o0*f.o1<=65536
 wgt:f.outs*f.ins*(f.k0*f.k1)<=65536
 inp:f.ins*(f.i0*f.i1)<=65536
theorem qbU {a b:Nat} (h:1<=b):a<=a*b:=by have:=Nat.mul_le_mul_left a h;omega
theorem le_mul_l {a b:Nat} (h:1<=a):b<=a*b:=by have:=mlZ b h;omega
theorem Frame.Fit.small {f:Frame} (h:f.Fit):f.Small:=by
 obtain ⟨a1,a2,a3,a4,a5,a6,a7,b0,b1,c1,c2,c3⟩:=h;have d1:f.outs<=f.outs*f.o0:=qbU a5;have d2:f.outs*f.o0<=f.outs*f.o0*f.o1:=qbU a6;have d3:f.o0<=f.outs*f.o0:=le_mul_l a1;have d4:1<=f.outs*f.o0:=by omega
 have d5:f.o1<=f.outs*f.o0*f.o1:=le_mul_l d4;have e1:f.ins<=f.outs*f.ins:=le_mul_l a1;have e2:0<f.k0*f.k1:=Nat.mul_pos a3 a4;have e3:f.outs*f.ins<=f.outs*f.ins*(f.k0*f.k1):=qbU e2;have e4:f.k0<=f.k0*f.k1:=qbU a4;have e5:f.k1<=f.k0*f.k1:=le_mul_l a3;have e6:f.k0*f.k1<=f.outs*f.ins*(f.k0*f.k1):=le_mul_l oZ;have g1:f.i0*f.i1<=f.ins*(f.i0*f.i1):=le_mul_l a2;have g2:(f.o0-1)*f.step*f.i1<=f.i0*f.i1:=mlZ _ oZ;have g3:f.k0*f.i1<=f.i0*f.i1:=mlZ _ oZ;have g4:f.i1<=f.i0*f.i1:=le_mul_l oZ;have g5:f.i0<=f.i0*f.i1:=qbU oZ;exact ⟨by omega,by omega,by omega,by omega,by omega,by omega,by omega,by omega,e2,a6,by omega,by omega,by omega,by omega,by omega⟩
theorem Frame.Fit.pos {f:Frame} (h:f.Fit):0<f.outs*f.ins:=Nat.mul_pos h.outs h.ins
theorem Frame.Fit.places {f:Frame} (h:f.Fit):∀t∈f.all,t.o<f.outs*f.o0*f.o1/\t.w<f.outs*f.ins*(f.k0*f.k1)/\t.x<f.ins*(f.i0*f.i1):=by
 intro z hz;simp only [Frame.all,Frame.cellT,Frame.rowT,List.mem_flatMap,List.mem_map,List.mem_range] at hz;obtain ⟨p,hp,i,hi,j,hj,q,hq,t,ht,u,hu,rfl⟩:=hz;refine ⟨?_,?_,?_⟩
 ·show (p*f.o0+i)*f.o1+j<_
  have h1:(p+1)*f.o0<=f.outs*f.o0:=mlZ _ hp;rw [Zu] at h1;have h2:(p*f.o0+i+1)*f.o1<=f.outs*f.o0*f.o1:=mlZ _ oZ;rw [Zu] at h2;omega
 ·show (p*f.ins+q)*(f.k0*f.k1)+t * f.k1+u<_
  have h1:(p+1)*f.ins<=f.outs*f.ins:=mlZ _ hp;rw [Zu] at h1;have h2:(p*f.ins+q+1)*(f.k0*f.k1)<=f.outs*f.ins*(f.k0*f.k1):=mlZ _ oZ;rw [Zu] at h2;have h3:(t+1)*f.k1<=f.k0*f.k1:=mlZ _ ht;rw [Zu] at h3;omega
 ·show q*(f.i0*f.i1)+(i*f.step*f.i1+j*f.step)+t * f.i1+u<_
  have h1:(q+1)*(f.i0*f.i1)<=f.ins*(f.i0*f.i1):=mlZ _ hq;rw [Zu] at h1;have h2:i*f.step<=(f.o0-1)*f.step:=mlZ _ oZ;have h3:j*f.step<=(f.o1-1)*f.step:=mlZ _ oZ;have b0:=h.fit0;have b1:=h.fit1;have h4:(i*f.step+t+1)*f.i1<=f.i0*f.i1:=mlZ _ oZ;rw [Zu,Nat.add_mul] at h4;omega
end Ly
namespace Ly
theorem qca {s w st:Int} (h:(Od.window s w st).2=0):∃n:Nat,(Od.window s w st).1=(n:Int)/\1<=n/\(n-1)*st.toNat+w.toNat<=s.toNat/\1<=st:=by
 have hw:=Od.window_ok h;unfold Od.window at h hw ⊢
 split at h
 ·rename_i hc
  rw [ipZ hc] at hw ⊢;simp only [Sh.side_iff] at hc;simp only at hw ⊢;have h1:0<=(s-w).tdiv st:=Int.tdiv_nonneg oZ oZ;obtain ⟨d,hd⟩:=ezZ h1;refine ⟨1+d,by rw [hd];simp,by omega,?_,by omega⟩;have h4:=Int.ediv_mul_le (s-w) (show st≠0 by omega);rw [Int.tdiv_eq_ediv_of_nonneg oZ] at hd;rw [hd] at h4;obtain ⟨st',rfl⟩:=ezZ (show 0<=st by omega);have h5:((d*st':Nat):Int)=(d:Int)*(st':Int):=by simp
  have h6:(1+d-1)*(st':Int).toNat=d*st':=by rw [Nat.add_sub_cancel_left,tnZ]
  rw [h6];omega
 ·simp at h
theorem conv_fit {ws xs:List Int} {step:Int} (h:(Od.conv ws xs step).2=0):
  1<=step/\(frame ws xs (Od.conv ws xs step).1 step).Fit/\
  ((∃a b k i o:Nat,ws=[(a:Int),b,k]/\xs=[(b:Int),i]/\(Od.conv ws xs step).1=[(a:Int),o])∨
   (∃a b k kk i ii o oo:Nat,ws=[(a:Int),b,k,kk]/\xs=[(b:Int),i,ii]/\(Od.conv ws xs step).1=[(a:Int),o,oo])):=by
 have hd:Od.conv ws xs step=Od.conv ws xs step:=rfl;unfold Od.conv at h
 split at h
 ·rename_i hc
  simp only [Zz,decide_eq_true_eq] at hc
  split at h
  ·rename_i hall
   split at h
   ·rename_i hr
    have ha:(Od.conv ws xs step).1=Od.outs ws xs step (xs.length-1):=by
     unfold Od.conv;rw [ipZ (by simpa using hc),ipZ hall,ipZ hr]
    rw [ha];obtain ⟨⟨hw,hx⟩,l2,l3,lw,hb⟩:=hc;obtain ⟨_,_,_,aw,_,pw⟩:=Sh.right_mul hw;obtain ⟨_,_,_,ax,_,px⟩:=Sh.right_mul hx;obtain ⟨_,_,_,ao,_,po⟩:=Sh.right_mul hr;simp only [Zf,List.mem_range,decide_eq_true_eq] at hall;clear h hd
    match xs,l2,l3 with
    | [b,i],_,_=>
     match ws,lw with
     | [a,b',k],_=>
      simp at hb;subst hb;obtain ⟨n,hn,n1,n2,n3⟩:=qca (hall 0 sZ)
      have hE:Od.outs [a,b',k] [b',i] step ([b',i].length-1)=[a,(n:Int)]:=by
       simp [Od.outs,Od.wn,List.range_succ] at hn ⊢;exact hn
      rw [hE] at ao po ⊢;simp [Safe.prod] at ao po pw px aw ax n2;clear hn hE hall ha hr hw hx lw;obtain ⟨a,rfl⟩:=ezZ (show 0<=a by omega);obtain ⟨b,rfl⟩:=ezZ (show 0<=b' by omega);obtain ⟨k,rfl⟩:=ezZ (show 0<=k by omega);obtain ⟨i,rfl⟩:=ezZ (show 0<=i by omega);refine ⟨n3,?_,.inl ⟨a,b,k,i,n,rfl,rfl,rfl⟩⟩;have hf:frame [(a:Int),b,k] [(b:Int),i] [(a:Int),n] step=⟨a,b,1,k,1,i,1,n,step.toNat⟩:=by simp [frame,last2,side,at_]
      rw [hf];rw [←Int.natCast_mul] at po px;rw [←Int.natCast_mul,←Int.natCast_mul,←Nat.mul_assoc] at pw;refine ⟨by simp;omega,by simp;omega,by simp,by simp;omega,by simp,by simp;omega,by simp;omega,by simp,by simp at n2 ⊢;omega,by simp;omega,by simp;omega,by simp;omega⟩
    | [b,i,ii],_,_=>
     match ws,lw with
     | [a,b',k,kk],_=>
      simp at hb;subst hb;obtain ⟨n,hn,n1,n2,n3⟩:=qca (hall 0 sZ);obtain ⟨m,hm,m1,m2,m3⟩:=qca (hall 1 sZ)
      have hE:Od.outs [a,b',k,kk] [b',i,ii] step ([b',i,ii].length-1)=[a,(n:Int),(m:Int)]:=by
       simp [Od.outs,Od.wn,List.range_succ] at hn hm ⊢;exact ⟨hn,hm⟩
      rw [hE] at ao po ⊢;simp [Safe.prod] at ao po pw px aw ax n2 m2;clear hn hm hE hall ha hr hw hx lw;obtain ⟨a,rfl⟩:=ezZ (show 0<=a by omega);obtain ⟨b,rfl⟩:=ezZ (show 0<=b' by omega);obtain ⟨k,rfl⟩:=ezZ (show 0<=k by omega);obtain ⟨kk,rfl⟩:=ezZ (show 0<=kk by omega);obtain ⟨i,rfl⟩:=ezZ (show 0<=i by omega);obtain ⟨ii,rfl⟩:=ezZ (show 0<=ii by omega);refine ⟨n3,?_,.inr ⟨a,b,k,kk,i,ii,n,m,rfl,rfl,rfl⟩⟩;have hf:frame [(a:Int),b,k,kk] [(b:Int),i,ii] [(a:Int),n,m] step=⟨a,b,k,kk,i,ii,n,m,step.toNat⟩:=by simp [frame,last2,side,at_]
      rw [hf];rw [←Int.natCast_mul,←Int.natCast_mul] at px;rw [←Int.natCast_mul,←Int.natCast_mul,←Nat.mul_assoc] at po;rw [←Int.natCast_mul,←Int.natCast_mul,←Int.natCast_mul,←Nat.mul_assoc] at pw;refine ⟨by simp;omega,by simp;omega,by simp;omega,by simp;omega,by simp;omega,by simp;omega,by simp;omega,by simp at n2 ⊢;omega,by simp at m2 ⊢;omega,by simp;omega,by simp;omega,by simp;omega⟩
   ·simp at h
  ·simp at h
 ·simp at h
end Ly
theorem Ints.spot {w:Zp1} {a:Addr} {l:List Int} (h:Ints .i64 w (some a) l) (hl:0<l.length):a.spot=none:=by
 obtain ⟨b',o',e,-,-⟩:=h 0 hl;injection e with e;rw [e]
theorem Ints.some_ {w:Zp1} {A:Option Addr} {l:List Int} (h:Ints .i64 w A l) (hl:0<l.length):∃a,A=some a:=by
 obtain ⟨b',o',e,-,-⟩:=h 0 hl;exact ⟨_,e⟩
theorem qfl {ws xs:List Int} {step:Int} (h:(Od.conv ws xs step).2=0):(∀z∈ws,1<=z/\z<=1024)/\∀z∈xs,1<=z/\z<=1024:=by
 unfold Od.conv at h
 split at h
 ·rename_i hc
  simp only [Zz,decide_eq_true_eq] at hc;exact ⟨(Sh.right_mul hc.1.1).2.2.2.1,(Sh.right_mul hc.1.2).2.2.2.1⟩
 ·simp at h
theorem qdc (A B:Option Addr) (c d:Nat) (ws xs:List Int) (step:Int) (w:Zp1) (hc:ws.length<=c) (hd:xs.length<=d) (hd':d<=9223372036854775807) (hI:Ints .i64 w A ws) (hJ:Ints .i64 w B xs) (h:(Od.conv ws xs step).2=0):
  Calls Tryz.prog 57 #[.slice A ws.length c,.slice B xs.length d,.int .i64 step] w λe w'=>
   e=.returned (.func (.func 115) #[(Ly.frame ws xs (Od.conv ws xs step).1 step).V] #[])/\Below w.heap.size w w':=by
 obtain ⟨hu,ha,hi⟩:=Ly.conv_fit h;have hp:=qfl h
 have hl:ws.length<=4/\xs.length<=4:=by
  rcases hi with ⟨_,_,_,_,_,rfl,rfl,_⟩|⟨_,_,_,_,_,_,_,_,rfl,rfl,_⟩<;>simp
 have he:=qbn A B c d ws xs step w oZ oZ hd hd' hI hJ;obtain ⟨st,rfl⟩:=ezZ (show 0<=step by omega);rcases hi with ⟨a,b,k,i,o,rfl,rfl,ho⟩|⟨a,b,k,kk,i,ii,o,oo,rfl,rfl,ho⟩
 ·obtain ⟨W,rfl⟩:=hI.some_ sZ
  obtain ⟨X,rfl⟩:=hJ.some_ sZ;have hf:Ly.frame [(a:Int),b,k] [(b:Int),i] (Od.conv [(a:Int),b,k] [(b:Int),i] st).1 st=⟨a,b,1,k,1,i,1,o,st⟩:=by rw [ho];simp [Ly.frame,Ly.last2,Ly.side,Ly.at_]
  rw [hf] at ha ⊢;obtain ⟨r,hr⟩:∃r,Od.conv [(a:Int),b,k] [(b:Int),i] st=r:=⟨_,rfl⟩
  rw [hr] at he h ho;obtain ⟨r1,r2⟩:=r;simp only at h ho;subst h ho;have hv:1<=(k:Int)/\(k:Int)<=1024:=hp.1 _ sZ;have hn:1<=(i:Int)/\(i:Int)<=1024:=hp.2 _ sZ;have HF:=zI hf;clear hf hr;obtain ⟨HI,HJ,hh,hm⟩:=zd4 hI hJ he ha;clear hI hJ he ha;go_enter Tryz.func57,Tryz.ntmps57;go_wp2_with fail;refine (hh.out).mono ?_;rintro e w1 ⟨S,sc,rfl,hS,hk,hq,ht,hb⟩;obtain ⟨O,rfl⟩:=hS.some_ sZ;have hg:=qgk W X O c d sc a b k i o st w1 (HI.out.spot sZ) (HJ.out.spot sZ) (hS.spot sZ) (HI.out.below hb (lrZ _)) (HJ.out.below hb (lrZ _)) hS hc hd hk oZ oZ;go_wp2_with fail;refine (hg).mono ?_;rintro e w2 ⟨rfl,hj⟩;go_wp2_with fail;go_ret;exact ⟨by simp [Ly.Frame.V],hb.trans (hj.mono hb.size)⟩
 ·obtain ⟨W,rfl⟩:=hI.some_ sZ
  obtain ⟨X,rfl⟩:=hJ.some_ sZ;have hf:Ly.frame [(a:Int),b,k,kk] [(b:Int),i,ii] (Od.conv [(a:Int),b,k,kk] [(b:Int),i,ii] st).1 st=⟨a,b,k,kk,i,ii,o,oo,st⟩:=by rw [ho];simp [Ly.frame,Ly.last2,Ly.side,Ly.at_]
  rw [hf] at ha ⊢;obtain ⟨r,hr⟩:∃r,Od.conv [(a:Int),b,k,kk] [(b:Int),i,ii] st=r:=⟨_,rfl⟩
  rw [hr] at he h ho;obtain ⟨r1,r2⟩:=r;simp only at h ho;subst h ho
  have hs:0<=(k:Int)*kk/\(k:Int)*kk<=1048576:=by
   have h1:=ha.wgt;have h2:k*kk<=a*b*(k*kk):=Ly.le_mul_l ha.pos;simp at h1;rw [←Int.natCast_mul];omega
  have hn:0<=(i:Int)*ii/\(i:Int)*ii<=1048576:=by
   have h1:=ha.inp;have h2:i*ii<=b*(i*ii):=Ly.le_mul_l ha.ins;simp at h1;rw [←Int.natCast_mul];omega
  clear hf hr;obtain ⟨HI,HJ,hh,hm⟩:=zd4 hI hJ he ha;clear hI hJ he ha;go_enter Tryz.func57,Tryz.ntmps57;go_wp2_with fail;refine (hh.out).mono ?_;rintro e w1 ⟨S,sc,rfl,hS,hk,hq,ht,hb⟩;obtain ⟨O,rfl⟩:=hS.some_ sZ;have hg:=qgl W X O c d sc a b k kk i ii o oo st w1 (HI.out.spot sZ) (HJ.out.spot sZ) (hS.spot sZ) (HI.out.below hb (lrZ _)) (HJ.out.below hb (lrZ _)) hS hc hd hk hs hn;go_wp2_with fail;refine (hg).mono ?_;rintro e w2 ⟨rfl,hj⟩;go_wp2_with fail;go_ret;exact ⟨by simp [Ly.Frame.V],hb.trans (hj.mono hb.size)⟩
def OnlyNormal (Q:Exit->Act->Zp1->Prop):Exit->Act->Zp1->Prop
 | .normal,a,w=>Q .normal a w
 | _,_,_=>False
theorem OnlyNormal.mk {Q:Exit->Act->Zp1->Prop} {a:Act} {w:Zp1} (h:Q .normal a w):OnlyNormal Q .normal a w:=h
theorem OnlyNormal.imp {Q:Exit->Act->Zp1->Prop}:∀(e:Exit) (a:Act) (w:Zp1),OnlyNormal Q e a w->Q e a w:=λe a w h=>by
 cases e<;>first|exact h|exact (h:False).elim
theorem OnlyNormal.noOut {Q:Exit->Act->Zp1->Prop}:¬LetsOut (NoPanic (OnlyNormal Q)):=λ⟨_,_,h⟩=>h
def qcq (ops:Array Oper):Bool:=ops.toList.all λo=>match o.op with | .defer _=>false|_=>true
theorem qey {ops:Array Oper} (h:qcq ops=true) {i:Nat} {o:Oper} (ho:ops[i]? = some o):∀c,o.op≠.defer c:=by
 intro c hc;unfold qcq at h;rw [Zf] at h;have:=h o (by rw [←Array.getElem?_toList] at ho;exact List.mem_of_getElem? ho);rw [hc] at this;simp at this
section
variable {P:Program} {ops:Array Oper} {n l:Nat}
theorem qfm {o:Oper} (hd:∀c,o.op≠.defer c) {Q:Exit->Act->Zp1->Prop} {K:Act->Zp1->Prop} {a:Act} {w:Zp1} (h:o.wp P a w K Q):o.wpIn (Fence.wide.inRound l) n P a w K Q:=by
 refine ⟨λ_ _=>trivial,?_⟩;unfold Oper.wp at h;rw [Oper.semAt_eq _ _ _ hd];generalize (execOp a.eval o).run P w=r at *;cases r with
 | ok x w'=>
  cases x<;>simp only [Oper.upon,Oper.uponIn] at h ⊢<;>first
   | exact h
   | exact ⟨(λhh=>by cases hh),callsIn_wide.2 (Calls.mono h λe w'' he=>by cases e<;>exact he)⟩
   | exact ⟨(λhh=>by cases hh),λc cs _=>let ⟨v,w',r,s⟩:=h c cs;⟨v,w',r,stepsIn_wide.2 s⟩⟩
 | halt x w'=>cases x<;>simp only [Oper.upon,Oper.uponIn] at h ⊢<;>exact h
theorem qaY (hd:qcq ops=true) {Q:Exit->Act->Zp1->Prop} (hQ:¬LetsOut Q):∀(is:List Nat) (a:Act) (w:Zp1),wpOps P ops Q is a w->wpOpsIn (Fence.wide.inRound l) n P ops Q is a w
 | [],_,_,h=>h
 | i::rest,a,w,h=>by
  simp only [wpOps,wpOpsIn] at h ⊢;cases ho:ops[i]? with
  | none=>simp only [ho] at h;exact qaY hd hQ rest a w h
  | some o=>
   simp only [ho] at h ⊢
   split
   ·rename_i hw
    rw [ipZ hw] at h;rcases h with h|h
    ·exact qfm (qey hd ho) (Oper.wp_mono (λa w=>qaY hd hQ rest a w) h)
    ·exact absurd h.2 hQ
   ·rename_i hw
    rw [inZ hw] at h;exact ⟨λ_ _=>trivial,qaY hd hQ rest _ w h⟩
theorem qag {S:Zp1->Prop} {Q:Exit->Act->Zp1->Prop} {id:Nat} {a:Act} {w:Zp1} (hm:P.follows .mixedOrders=true) (hd:qcq ops=true) (hS:S w.drew)
  (h:S w.drew->wpAnyH P .any ops (NoPanic (OnlyNormal Q)) S ops.size (Array.replicate ops.size false) a w.drew):(Code.region id ops true).wpIn (Fence.wide.inRound l) n P Q a w:=by
 refine wpIn_mono (wpIn_region_draw λt=>?_) (λe a w hq=>OnlyNormal.imp e a w (NoPanic.imp e a w hq));simp only [Region.schedule,hm,Bool.true_or,if_true];exact qaY hd OnlyNormal.noOut _ _ _ (wpAny_sound ops.size t _ a _ (wpAny_of_held _ _ _ _ (h hS)))
end
theorem qal {F:Fence} {n:Nat} {P:Program} {fn:Func} {R:Ending->Zp1->Prop} {a:Act} {w:Zp1} {v:Value} (hr:(results fn a.tmps).run P w=.ok v w) (hd:a.defers=[]) (hR:R (.returned v) w):bodyPostM F n P fn R .ret a w:=by
 show LeavesInM F n P fn a.tmps R a.defers .returning w
 rw [hd];exact ⟨v,hr,hR⟩
theorem qfn {ws xs:List Int} {step:Int} (h:(Od.conv ws xs step).2=0):Sh.right (Od.conv ws xs step).1=true:=by
 unfold Od.conv at h ⊢
 split at h
 ·rename_i hc
  rw [ipZ hc]
  split at h
  ·rename_i ha
   rw [ipZ ha]
   split at h
   ·rename_i hr
    rw [ipZ hr];exact hr
   ·simp at h
  ·simp at h
 ·simp at h
namespace Ly
theorem conv_lens {t x:Ten} {step:Int} (hr:Tn.right t=true) (hq:Tn.right x=true) (h:(Od.conv t.s x.s step).2=0):
  t.c.length=(frame t.s x.s (Od.conv t.s x.s step).1 step).outs*(frame t.s x.s (Od.conv t.s x.s step).1 step).ins*((frame t.s x.s (Od.conv t.s x.s step).1 step).k0*(frame t.s x.s (Od.conv t.s x.s step).1 step).k1)/\
  x.c.length=(frame t.s x.s (Od.conv t.s x.s step).1 step).ins*((frame t.s x.s (Od.conv t.s x.s step).1 step).i0*(frame t.s x.s (Od.conv t.s x.s step).1 step).i1)/\
  (Safe.prod (Od.conv t.s x.s step).1).toNat=(frame t.s x.s (Od.conv t.s x.s step).1 step).outs*(frame t.s x.s (Od.conv t.s x.s step).1 step).o0*(frame t.s x.s (Od.conv t.s x.s step).1 step).o1:=by
 obtain ⟨-,-,ha⟩:=conv_fit h;have h1:(t.c.length:Int)=Safe.prod t.s:=by simp [Tn.right] at hr;exact hr.2
 have h2:(x.c.length:Int)=Safe.prod x.s:=by simp [Tn.right] at hq;exact hq.2
 generalize (Od.conv t.s x.s step).1=out at *;rcases ha with ⟨a,b,k,i,o,e1,e2,e3⟩|⟨a,b,k,kk,i,ii,o,oo,e1,e2,e3⟩
 ·rw [e1] at h1
  rw [e2] at h2;rw [e1,e2,e3];have h3:Safe.prod [(a:Int),o]=((a*o:Nat):Int):=by simp [Safe.prod]
  have hc:(t.c.length:Int)=((a*b*k:Nat):Int):=by rw [h1];simp [Safe.prod,Int.mul_assoc]
  have hb:(x.c.length:Int)=((b*i:Nat):Int):=by rw [h2];simp [Safe.prod]
  refine ⟨?_,?_,?_⟩
  ·simp [frame,last2,side,at_];exact Int.ofNat.inj hc
  ·simp [frame,last2,side,at_];exact Int.ofNat.inj hb
  ·rw [h3];simp only [frame,last2,side,at_,tnZ,List.drop_succ_cons,List.drop_zero,List.length_singleton,if_true,List.getD_cons_zero,Nat.mul_one]
 ·rw [e1] at h1
  rw [e2] at h2;rw [e1,e2,e3];have h3:Safe.prod [(a:Int),o,oo]=((a*o*oo:Nat):Int):=by simp [Safe.prod,Int.mul_assoc]
  have hc:(t.c.length:Int)=((a*b*(k*kk):Nat):Int):=by rw [h1];simp [Safe.prod,Int.mul_assoc]
  have hb:(x.c.length:Int)=((b*(i*ii):Nat):Int):=by rw [h2];simp [Safe.prod]
  refine ⟨?_,?_,?_⟩
  ·simp [frame,last2,side,at_];exact Int.ofNat.inj hc
  ·simp [frame,last2,side,at_];exact Int.ofNat.inj hb
  ·rw [h3];simp [frame,last2,side,at_];rfl
theorem qaK (l:List Int) (i:Nat) (v:Int):(addAt l i v).length=l.length:=by simp [addAt]
theorem qbV {l:List Int} {i:Nat} {v:Int} (hl:∀z∈l,Fx.In z) (hv:Fx.In v):∀z∈addAt l i v,Fx.In z:=λz hz=>by
 unfold addAt at hz;rcases List.mem_or_eq_of_mem_set hz with h|rfl
 ·exact hl z h
 ·exact Fx.add_in _ _
theorem convC_push (w x:List Int) (ts:List Touch) (t:Touch) (n:Nat):convC w x (ts++[t]) n=addAt (convC w x ts n) t.o (Fx.mul (at_ w t.w) (at_ x t.x)):=by unfold convC;rw [List.foldl_append];rfl
theorem qbJ {w x:List Int} (hw:∀z∈w,Fx.In z) (hx:∀z∈x,Fx.In z) (n:Nat):∀ts:List Touch,(convC w x ts.reverse n).length=n/\∀z∈convC w x ts.reverse n,Fx.In z
 | []=>⟨by simp [convC,zeros],λz hz=>by simp [convC,zeros] at hz;rw [hz.2];exact Fx.in_zero⟩
 | t::r=>by
  obtain ⟨h1,h2⟩:=qbJ hw hx n r;rw [List.reverse_cons,convC_push];exact ⟨by rw [qaK,h1],qbV h2 (Fx.mul_in _ _)⟩
theorem convC_len {w x:List Int} (hw:∀z∈w,Fx.In z) (hx:∀z∈x,Fx.In z) (n:Nat) (ts:List Touch):(convC w x ts n).length=n:=by have:=(qbJ hw hx n ts.reverse).1;rwa [List.reverse_reverse] at this
theorem convC_in {w x:List Int} (hw:∀z∈w,Fx.In z) (hx:∀z∈x,Fx.In z) (n:Nat) (ts:List Touch):∀z∈convC w x ts n,Fx.In z:=by have:=(qbJ hw hx n ts.reverse).2;rwa [List.reverse_reverse] at this
end Ly
theorem conv_go (S C S' C':Option Addr) (c d c' d':Nat) (t x:Ten) (step:Int) (w:Zp1) (ht:TenIn w S C c d t) (hx:TenIn w S' C' c' d' x):
  Calls Tryz.prog 96 #[.agg #[.slice S t.s.length c,.slice C t.c.length d],.agg #[.slice S' x.s.length c',.slice C' x.c.length d'],.int .i64 step] w (GoP (Ly.conv t x step) w):=by
 obtain ⟨gd,gu,hz,gn⟩:=qam w 30 30 30 #[.slice S t.s.length c,.slice C t.c.length d] #[.slice S' x.s.length c',.slice C' x.c.length d'] #[.slice none 0 0,.slice none 0 0];have l1:=ht.l1;have l5:=hx.s1;have l6:=hx.s2;have l2:=ht.l2;have l3:=hx.l1;have l4:=hx.l2;obtain ⟨Hp,Hr,Hz,HJ,Ht,Hx⟩:=zd6 gd gu hz gn ht hx;clear gd gu hz gn ht hx;refine callsIn_wide.1 (callsIn_of_wp_marks (n:=9) Tryz.func96 rfl trivial (wpIn_wide.2 ?_));simp only [Tryz.ntmps96,List.size_toArray,List.length_cons,List.length_nil,Nat.reduceAdd,Nat.reduceSub,Array.replicate_succ,Array.replicate_zero,List.push_toArray,List.append_toArray,List.nil_append,List.cons_append];go_upto_region 1 with fail;generalize (((w.alloc (.cells #[.slice S t.s.length c,.slice C t.c.length d] 30)).alloc (.cells #[.slice S' x.s.length c',.slice C' x.c.length d'] 30)).alloc (.cells #[.slice none 0 0,.slice none 0 0] 30))=w1 at *;have a0:=Hp.out.cell 0;have a1:=Hp.out.cell 1;simp at a0 a1;have b0:=Hr.out.cell 0;have b1:=Hr.out.cell 1;simp at b0 b1;go_wp2_with fail;refine (qa2 S C c d t w1 oZ oZ (Ht.out.later HJ.out).r.1).mono ?_;rintro e w2 ⟨rfl,hU⟩;have Hb:Later w1 w2:=hU;have Hw:=HJ.out.trans Hb;have hp:=Hb.blk Hz.out;have hS:=Hb.blk Hp.out;have hR:=Hb.blk Hr.out;clear hU Hz HJ Hp Hr Hb a0 a1 b0 b1;have a0:=hS.cell 0;have a1:=hS.cell 1;have b0:=hR.cell 0;have b1:=hR.cell 1;have c0:=hp.cell 0;have c1:=hp.cell 1;have f0:=hp.frozen 0;have f1:=hp.frozen 1;simp at a0 a1 b0 b1 c0 c1;cases hr:Tn.right t
 ·have HE:=zI (show Ly.conv t x step=(Ly.none_,20) by simp [Ly.conv,Ly.convErr,hr])
  clear hr;obtain ⟨Hf,HO,HN,HV⟩:=zd4 Hw hp hS hR;clear Hw hp hS hR;go_wp2_with fail;refine qal (v:=.tuple #[.agg #[.slice none 0 0,.slice none 0 0],.int .i64 20]) (by simp [results,Tryz.results96,go_sem,c0,c1]) rfl ?_;exact GoP.fail HE.out dZ ((Hf.out.set (p:=⟨w.heap.size+2,0,none⟩) sZ _).set (p:=⟨w.heap.size+2,1,none⟩) sZ _)
 obtain ⟨Hf,HO,HN,HV⟩:=zd4 Hw hp hS hR;clear Hw hp hS hR;go_wp2_with fail;refine (qa2 S' C' c' d' x w2 oZ oZ (Hx.out.later Hf.out).r.1).mono ?_;rintro e w3 ⟨rfl,H8⟩;have hW:Later w2 w3:=H8;have HA:=Hf.out.trans hW;have hn:=hW.blk HO.out;have hd:=hW.blk HN.out;have hi:=hW.blk HV.out;clear H8 HO Hf HN HV hW a0 a1 b0 b1 c0 c1 f0 f1;have a0:=hd.cell 0;have a1:=hd.cell 1;have b0:=hi.cell 0;have b1:=hi.cell 1;have c0:=hn.cell 0;have c1:=hn.cell 1;have f0:=hn.frozen 0;have f1:=hn.frozen 1;simp at a0 a1 b0 b1 c0 c1;cases hq:Tn.right x
 ·have HE:=zI (show Ly.conv t x step=(Ly.none_,20) by simp [Ly.conv,Ly.convErr,hr,hq])
  clear hr hq;obtain ⟨hQ,HD,hw,hF⟩:=zd4 HA hn hd hi;clear HA hn hd hi;go_wp2_with fail;refine qal (v:=.tuple #[.agg #[.slice none 0 0,.slice none 0 0],.int .i64 20]) (by simp [results,Tryz.results96,go_sem,c0,c1]) rfl ?_;exact GoP.fail HE.out dZ ((hQ.out.set (p:=⟨w.heap.size+2,0,none⟩) sZ _).set (p:=⟨w.heap.size+2,1,none⟩) sZ _)
 obtain ⟨hQ,HD,hw,hF⟩:=zd4 HA hn hd hi;clear HA hn hd hi;go_wp2_with fail;refine (qbn S S' c c' t.s x.s step w3 oZ oZ oZ oZ (Ht.out.later hQ.out).r.1 (Hx.out.later hQ.out).r.1).mono ?_;rintro e w4 ⟨A,ac,rfl,hI,gD,Gc,hf,hb⟩;have h8:Later w3 w4:=hb;have Hm:=hQ.out.trans h8;have hu:=h8.blk HD.out;have he:=h8.blk hw.out;have hc:=h8.blk hF.out;clear hb HD hQ hw hF h8 a0 a1 b0 b1 c0 c1 f0 f1;have a0:=he.cell 0;have a1:=he.cell 1;have b0:=hc.cell 0;have b1:=hc.cell 1;have c0:=hu.cell 0;have c1:=hu.cell 1;have f0:=hu.frozen 0;have f1:=hu.frozen 1;simp at a0 a1 b0 b1 c0 c1;have Hj:Ly.convErr t x step=(Od.conv t.s x.s step).2:=by simp [Ly.convErr,hr,hq]
 by_cases Hq:(Od.conv t.s x.s step).2≠0
 ·have HE:=zI (show Ly.conv t x step=(Ly.none_,(Od.conv t.s x.s step).2) by simp [Ly.conv,Hj,Hq])
  have gE:¬(Od.conv t.s x.s step).2=0:=Hq;clear hr hq Hj;obtain ⟨HS,Hv,hC,hB,HI⟩:=zd5 Hm hu he hc hI;clear Hm hu he hc hI;go_wp2_with fail;refine qal (v:=.tuple #[.agg #[.slice none 0 0,.slice none 0 0],.int .i64 (Od.conv t.s x.s step).2]) (by simp [results,Tryz.results96,go_sem,c0,c1]) rfl ?_;exact GoP.fail HE.out Hq ((HS.out.set (p:=⟨w.heap.size+2,0,none⟩) sZ _).set (p:=⟨w.heap.size+2,1,none⟩) sZ _)
 have hM:(Od.conv t.s x.s step).2=0:=by omega
 have HE:=zI (show Ly.conv t x step=(⟨(Od.conv t.s x.s step).1,Ly.convC t.c x.c (Ly.convT t x step) (Ly.span (Od.conv t.s x.s step).1)⟩,0) by simp [Ly.conv,Hj,hM]);clear Hq Hj;obtain ⟨Gi,Hc,hj⟩:=Ly.conv_fit hM;rw [hM]
 have gV:(Od.conv t.s x.s step).1.length<=4:=by
  rcases hj with ⟨_,_,_,_,_,_,_,e⟩|⟨_,_,_,_,_,_,_,_,_,_,e⟩<;>rw [e]<;>simp
 have HP:=qfn hM;have hk:=qdc S S' c c' t.s x.s step;obtain ⟨HF,HK,HC⟩:=zd3 Hc hM hj;obtain ⟨out,hout⟩:∃out,(Od.conv t.s x.s step).1=out:=⟨_,rfl⟩
 rw [hout] at hI gD gV HP ⊢;clear Hc hM hj;have HT:=zI hk;clear hk;obtain ⟨HS,Hv,hC,hB,HI⟩:=zd5 Hm hu he hc hI;clear Hm hu he hc hI;go_wp2_with fail;refine (qbE A ac out 0 w4 oZ HI.out).mono ?_;rintro e w5 ⟨HB,HG⟩;obtain ⟨⟨Hi,-⟩|⟨-,v,rfl,g,hh,rfl,hg,Gb,hG,hH⟩,HG⟩:=And.intro HB HG
 ·rw [HP] at Hi;cases Hi
 have HQ:Later w4 w5:=HG;have hX:Later w5 (w5.alloc (.cells #[.slice (some ⟨g,0,none⟩) out.length out.length,.slice (some ⟨hh,0,none⟩) (Safe.prod out).toNat (Safe.prod out).toNat] 30)):=(Later.refl w5).alloc _;have ho:=Blk.new w5 30 #[.slice (some ⟨g,0,none⟩) out.length out.length,.slice (some ⟨hh,0,none⟩) (Safe.prod out).toNat (Safe.prod out).toNat];have hO:=HQ.trans hX;have gx:=HS.out.trans hO;have gm:=hO.blk Hv.out;have Hd:=hO.blk hC.out;have Hh:=hO.blk hB.out;have gv:=hX.blk hG;have gA:=hX.blk hH;have H9:=Hv.out.lt;have gr:=hH.lt
 have gM:g≠hh:=λe=>by
  subst e;have:=hG.symm.trans hH;simp at this
 clear Hv hC hB hG hH a0 a1 b0 b1 c0 c1 f0 f1;obtain ⟨Gj,Gh,Ho,g9,Hy,gy,hL,hy,gw⟩:=zd9 HQ hX ho hO gx gm Hd Hh gv;have gh:=zI gA;clear HQ hX ho hO gx gm Hd Hh gv gA;go_upto_region 7 with fail;generalize w5.alloc (.cells #[.slice (some ⟨g,0,none⟩) out.length out.length,.slice (some ⟨hh,0,none⟩) (Safe.prod out).toNat (Safe.prod out).toNat] 30)=w6 at *;generalize hpe:w5.heap.size=q at *;have a0:=hL.out.cell 0;have b0:=hy.out.cell 0;simp at a0 b0;go_wp2_with fail;refine (HT.out w6 Ht.out.s1 l5 l6 (Ht.out.later Hy.out).r.1 (Hx.out.later Hy.out).r.1 HK.out).mono ?_;rintro e w7 ⟨rfl,gj⟩;have hm:Later w6 w7:=gj;have go:=Hy.out.trans hm;have H0:=hm.blk gy.out;have hV:=hm.blk hL.out;have Hg:=hm.blk hy.out;have gp:=hm.blk gw.out;have gB:=hm.blk gh.out;have gq:=hm.blk Ho.out;clear gy hL hy gw gh Ho a0 b0 gj Hy;obtain ⟨g0,HR,Hs,hZ,h9,Hl,Hn,HX⟩:=zd8 hm go H0 hV Hg gp gB gq;clear hm go H0 hV Hg gp gB gq;go_wp2_with fail;have hs:=HF.out.small;have Hu:=HF.out.pos;have Ha:=HF.out.places;have hT:Ly.convT t x step=(Ly.frame t.s x.s out step).all:=by unfold Ly.convT;rw [hout]
 rw [hout] at hs Hu Ha;generalize hfr:Ly.frame t.s x.s out step=fr at *
 refine wpIn_wide.1 (qba (n:=9) (9-1-1-1) rfl oZ (gf:=115) (lf:=#[fr.V]) rfl trivial (enters_of Tryz.func115 krZ rfl) Ly.Touch.V rfl fr.all
  (λpre W=>Blk W hh 22 ((Ly.convC t.c x.c pre (Safe.prod out).toNat).map (Za1 .i64)).toArray/\Blk W q 30 #[.slice (some ⟨g,0,none⟩) out.length out.length,.slice (some ⟨hh,0,none⟩) (Safe.prod out).toNat (Safe.prod out).toNat]/\(Blk W w.heap.size 30 #[.slice S t.s.length c,.slice C t.c.length d]/\Blk W (w.heap.size+1) 30 #[.slice S' x.s.length c',.slice C' x.c.length d']/\Blk W (w.heap.size+2) 30 #[.slice none 0 0,.slice none 0 0]/\Blk W g 3 (out.map (Za1 .i64)).toArray)/\Later w W) ?hI ?h0 ?hseq ?hbody ?hdone)
 case hI=>
  rintro pre A B hb ⟨h1,h2,⟨h4,h5,h6,h7⟩,h3⟩;exact ⟨(hb.block _ Hn.out.lt).trans h1,(hb.block _ HX.out.lt).trans h2,⟨(hb.block _ hZ.out.lt).trans h4,(hb.block _ h9.out.lt).trans h5,(hb.block _ Hs.out.lt).trans h6,(hb.block _ Hl.out.lt).trans h7⟩,Below.trans h3 (hb.mono HR.out.size)⟩
 case h0=>exact ⟨by simpa [Ly.convC,Ly.zeros] using Hn.out,HX.out,⟨hZ.out,h9.out,Hs.out,Hl.out⟩,HR.out⟩
 case hseq=>
  intro l J W gg Ga hJ hY h0;exact qdb Fence.wide (9-1) l trivial trivial rfl oZ fr hs Hu W.heap.size J hJ hY W (lrZ _) h0
 case hbody=>
  rintro pre z rest A hx ⟨h1,h2,⟨h4,h5,h6,h7⟩,h3⟩ hA;obtain ⟨po,pw,px⟩:=Ha z (by rw [hx];simp);obtain ⟨l7,l8,l9⟩:=Ly.conv_lens hr hq HK.out;rw [hout,hfr] at l7 l8;rw [hout,hfr] at l9;rw [←l9] at po;rw [←l7] at pw;rw [←l8] at px;have Hk:=Ly.convC_len Ht.out.num Hx.out.num (Safe.prod out).toNat pre;have hP:=Ly.convC_in Ht.out.num Hx.out.num (Safe.prod out).toNat pre;have hv:=Ly.convC_push t.c x.c pre z (Safe.prod out).toNat;have gU:=Ly.convC_in Ht.out.num Hx.out.num (Safe.prod out).toNat (pre++[z]);clear l7 l8 l9 HB hx;generalize Ly.convC t.c x.c pre (Safe.prod out).toNat=acc at *;rw [hv];clear hv gU;generalize (Safe.prod out).toNat=N at *;have Gd:=HR.out.size;have hE:=Hn.out.lt;have HL:=Hl.out.lt;have HY:=HX.out.lt;have HZ:=Hs.out.lt;obtain ⟨bt,ot,rfl,lbt,w0⟩:=Ht.out.cell pw;obtain ⟨bx,ox,rfl,lbx,x0⟩:=Hx.out.cell px;have gS:=Ly.at_in Ht.out.num z.w;have gL:=Ly.at_in Hx.out.num z.x;have gX:=Ly.at_in hP z.o;have He:=Fx.mul_in (Ly.at_ t.c z.w) (Ly.at_ x.c z.x);have gt:acc.set z.o (Fx.add (Ly.at_ acc z.o) (Fx.mul (Ly.at_ t.c z.w) (Ly.at_ x.c z.x)))=Ly.addAt acc z.o (Fx.mul (Ly.at_ t.c z.w) (Ly.at_ x.c z.x)):=rfl;have gb:Ly.at_ acc z.o=acc[z.o]'oZ:=Ly.at_get oZ;generalize Ly.at_ t.c z.w=tv at *;generalize Ly.at_ x.c z.x=xv at *;have gN:=zI gt;clear gt;rw [←gN.out];rw [show Ly.Touch.V z=Value.agg #[.int .i64 z.o,.int .i64 z.w,.int .i64 z.x] from rfl];have HM:=h1.cell z.o;simp [show z.o<acc.length by omega,←gb] at HM;generalize Ly.at_ acc z.o=ov at *;clear gb;obtain ⟨zo,zw,zx⟩:=z;simp only at *;have gi:=Blk.new A 114 #[.int .i64 zo,.int .i64 zw,.int .i64 zx];have gc:=(Later.refl A).alloc (.cells #[.int .i64 zo,.int .i64 zw,.int .i64 zx] 114);have gC:=w0;obtain ⟨H1,H2,H4,H5,H6,H7,H3,gk,hl⟩:=zd9 h1 h2 h4 h5 h6 h7 h3 gi gc;have gl:=zI hP;clear h1 h2 h4 h5 h6 h7 h3 gi gc hP
  gi_wp2_with (rw [Oper.semAt_eq _ _ _ (λc h=>by cases h)];go_simp;try go_bits)
  obtain ⟨Gg,gZ⟩:=zd2 Ha hT;clear Ha hT hs Hu HP hout;refine ⟨Above.alloc _ _ _,λA2 gT HW hU=>?_⟩;rw [Zh1] at gT;have gR:=H1.out.lt;have ha:=λ(k:Nat) (h:k<w7.heap.size)=>HW k oZ
  have g1:Blk A2 hh 22 (acc.map (Za1 .i64)).toArray:=(ha hh hE).trans (hl.out.blk H1.out);have g2:Blk A2 q 30 #[.slice (some ⟨g,0,none⟩) out.length out.length,.slice (some ⟨hh,0,none⟩) N N]:=(ha q HY).trans (hl.out.blk H2.out);have g4:Blk A2 w.heap.size 30 #[.slice S t.s.length c,.slice (some ⟨bt,ot,none⟩) t.c.length d]:=(ha w.heap.size oZ).trans (hl.out.blk H4.out);have g5:Blk A2 (w.heap.size+1) 30 #[.slice S' x.s.length c',.slice (some ⟨bx,ox,none⟩) x.c.length d']:=(ha (w.heap.size+1) oZ).trans (hl.out.blk H5.out);have g6:Blk A2 (w.heap.size+2) 30 #[.slice none 0 0,.slice none 0 0]:=(ha (w.heap.size+2) oZ).trans (hl.out.blk H6.out);have g7:Blk A2 g 3 (out.map (Za1 .i64)).toArray:=(ha _ HL).trans (hl.out.blk H7.out);have g8:Blk A2 A.heap.size 114 #[.int .i64 zo,.int .i64 zw,.int .i64 zx]:=(HW A.heap.size oZ).trans gk.out;have g3:Later w A2:=Below.trans (show Below w.heap.size w _ from H3.out.trans hl.out) (hU.mono oZ);have u0:=g8.cell 0;have u1:=g8.cell 1;have u2:=g8.cell 2;have u3:=g4.cell 1;have u4:=g5.cell 1;have u5:=g2.cell 1;simp at u0 u1 u2 u3 u4 u5;have u6:=g3.cell w0;have u7:=g3.cell x0;have u8:A2.cell? ⟨hh,zo,none⟩=some (.int .i64 ov):=(Zi1 (ha hh hE)).trans (hl.out.cell HM);have u9:=g1.frozen zo;clear w0 x0 gC HM ha HW hU H1 H2 H3 H4 H5 H6 H7 gk hl;obtain ⟨gJ,gY,gP,gH,gF,gG,gO,Gf⟩:=zd8 g1 g2 g3 g4 g5 g6 g7 g8;clear g1 g2 g3 g4 g5 g6 g7 g8;have v1:(zw:Int)<(t.c.length:Int):=by omega
  have v2:(zx:Int)<(x.c.length:Int):=by omega
  have v3:(zo:Int)<(N:Int):=by omega
  gi_wp2_with fail
  have KF:=zI (show ∀Xw,Later A2 Xw->Xw.cell? ⟨A.heap.size,0,none⟩=some (.int .i64 zo)/\Xw.cell? ⟨A.heap.size,1,none⟩=some (.int .i64 zw)/\Xw.cell? ⟨A.heap.size,2,none⟩=some (.int .i64 zx)/\Xw.cell? ⟨w.heap.size,1,none⟩=some (.slice (some ⟨bt,ot,none⟩) t.c.length d)/\Xw.cell? ⟨w.heap.size+1,1,none⟩=some (.slice (some ⟨bx,ox,none⟩) x.c.length d')/\Xw.cell? ⟨bt,ot+zw,none⟩=some (.int .i64 tv)/\Xw.cell? ⟨bx,ox+zx,none⟩=some (.int .i64 xv) from λXw h=>⟨h.cell u0,h.cell u1,h.cell u2,h.cell u3,h.cell u4,h.cell u6,h.cell u7⟩);refine qag (S:=λXw=>Xw.cell? ⟨A.heap.size,0,none⟩=some (.int .i64 zo)/\Xw.cell? ⟨A.heap.size,1,none⟩=some (.int .i64 zw)/\Xw.cell? ⟨A.heap.size,2,none⟩=some (.int .i64 zx)/\Xw.cell? ⟨w.heap.size,1,none⟩=some (.slice (some ⟨bt,ot,none⟩) t.c.length d)/\Xw.cell? ⟨w.heap.size+1,1,none⟩=some (.slice (some ⟨bx,ox,none⟩) x.c.length d')/\Xw.cell? ⟨bt,ot+zw,none⟩=some (.int .i64 tv)/\Xw.cell? ⟨bx,ox+zx,none⟩=some (.int .i64 xv)) krZ krZ (KF.out _ Lau) (λhHeld=>?_);refine tk 0 ?_;refine tk 1 ?_;refine tk 2 ?_;refine tk 3 ?_;refine tk 4 ?_;refine tk 5 ?_;refine tk 6 ?_;refine tk 7 ?_;refine tk 8 ?_;refine tk 9 ?_;refine tk 10 ?_;refine tk 11 ?_;refine rd 12 λK hK=>?_
  simp only [ga,gs,gz]
  go_simp
  go_at_call 54;(with_reducible refine (qaA tv xv _ gS gL).mono ?_);rintro e wb ⟨rfl,rfl⟩
  try go_wp2_with fail
  refine hK.out _ _ (KF.out _ Lau) (λhHeld=>?_);clear hK K
  try simp only [ga,gs,gz,Act.put,sa,sz,ss]
  refine tk 13 ?_;clear KF;refine Zn1 krZ ?_ _;refine Zd1 ?_;refine OnlyNormal.mk ?_
  gi_wp2_with fail
  have KF:=zI (show ∀Xw,Later A2 Xw->Xw.cell? ⟨A.heap.size,0,none⟩=some (.int .i64 zo)/\Xw.cell? ⟨q,1,none⟩=some (.slice (some ⟨hh,0,none⟩) N N) from λXw h=>⟨h.cell u0,h.cell u5⟩);refine qag (S:=λXw=>Xw.cell? ⟨A.heap.size,0,none⟩=some (.int .i64 zo)/\Xw.cell? ⟨q,1,none⟩=some (.slice (some ⟨hh,0,none⟩) N N)) krZ krZ (KF.out _ Lau) (λhHeld=>?_);refine tk 0 ?_;refine tk 1 ?_;refine tk 2 ?_;refine tk 3 ?_;refine tk 4 ?_;refine tk 5 ?_;refine tk 6 ?_;refine tk 7 ?_;refine tk 8 ?_;refine tk 10 ?_;refine rd 9 λK hK=>?_
  simp only [ga,gs,gz]
  go_simp
  refine hK.out _ _ (KF.out _ Lau) (λhHeld=>?_);clear hK K
  try simp only [ga,gs,gz,Act.put,sa,sz,ss]
  refine rd 11 λK hK=>?_
  simp only [ga,gs,gz]
  go_simp
  go_at_call 55;(with_reducible refine (qaM ov (Fx.mul tv xv) _ gX He).mono ?_);rintro e wb ⟨rfl,rfl⟩
  try go_wp2_with fail
  refine hK.out _ _ (KF.out _ Lau) (λhHeld=>?_);clear hK K
  try simp only [ga,gs,gz,Act.put,sa,sz,ss]
  refine tk 12 ?_;refine rd 13 λK hK=>?_
  simp only [ga,gs,gz]
  go_simp
  refine hK.out _ _ ?_ (λhHeld=>?_)
  ·(try dsimp only);(refine ⟨?_,?_⟩<;>(repeat (refine qa0 ?_ (by first|omega|(simp;done)|(simp;omega))))<;>(refine Later.cell (Lau:Later A2 _) ?_)<;>assumption)
  clear hK K
  try simp only [ga,gs,gz,Act.put,sa,sz,ss]
  clear KF;refine Zn1 krZ ?_ _;refine Zd1 ?_;refine OnlyNormal.mk ?_
  gi_wp2_with fail
  have n1:w.heap.size≠hh:=by omega
  have n2:w.heap.size+1≠hh:=by omega
  have n3:w.heap.size+2≠hh:=by omega
  have n4:q≠hh:=by omega
  have k1:=gJ.out.set_ zo (.int .i64 (Fx.add ov (Fx.mul tv xv)));refine ⟨Above.setCell (p:=⟨hh,zo,none⟩) hE _,?_,gY.out.far (p:=⟨hh,zo,none⟩) n4 _,⟨gH.out.far (p:=⟨hh,zo,none⟩) n1 _,gF.out.far (p:=⟨hh,zo,none⟩) n2 _,gG.out.far (p:=⟨hh,zo,none⟩) n3 _,gO.out.far (p:=⟨hh,zo,none⟩) gM _⟩,((gP.out.set (p:=⟨hh,zo,none⟩) soZ _).drew).drew⟩;simpa using k1.drew.drew
 case hdone=>
  rintro D W ⟨h1,h2,⟨h4,h5,h6,h7⟩,h3⟩ hD hK;have HZ:=Hs.out.lt;have o0:=h2.cell 0;have o1:=h2.cell 1;have c0:=h6.cell 0;have c1:=h6.cell 1;have f0:=h6.frozen 0;have f1:=h6.frozen 1;simp at o0 o1 c0 c1;have hN:Ly.span out=(Safe.prod out).toNat:=rfl;have HH:=(h6.set_ 0 (.slice (some ⟨g,0,none⟩) out.length out.length)).set_ 1 (.slice (some ⟨hh,0,none⟩) (Safe.prod out).toNat (Safe.prod out).toNat);have d0:=HH.cell 0;have d1:=HH.cell 1;simp at d0 d1;have Hk:=Ly.convC_len Ht.out.num Hx.out.num (Safe.prod out).toNat fr.all;have hP:=Ly.convC_in Ht.out.num Hx.out.num (Safe.prod out).toNat fr.all;have HU:=HE.out;rw [hT,hout,hN] at HU;have gg:out.length<=1048576:=by omega
  obtain ⟨l7,l8,l9⟩:=Ly.conv_lens hr hq HK.out;rw [hout,hfr] at l9;have Ge:(Safe.prod out).toNat<=1048576:=by rw [l9];have:=HF.out.out;rw [hout,hfr] at this;omega
  clear l7 l8 l9 HB Ha hs Hu hN HH;have gI:=zI HU;clear HU hT;generalize Ly.convC t.c x.c fr.all (Safe.prod out).toNat=acc at *;generalize (Safe.prod out).toNat=N at *;have ge:=(Below.heap_setCell (W.setCell ⟨w.heap.size+2,0,none⟩ (.slice (some ⟨g,0,none⟩) out.length out.length)) ⟨w.heap.size+2,1,none⟩ (.slice (some ⟨hh,0,none⟩) N N) D soZ).trans ((Below.heap_setCell W ⟨w.heap.size+2,0,none⟩ (.slice (some ⟨g,0,none⟩) out.length out.length) D soZ).trans hK);obtain ⟨H1,H2,H4,H5,H6,H7,H3,HK,gW⟩:=zd9 h1 h2 h4 h5 h6 h7 h3 hK ge;have gl:=zI hP;clear h1 h2 h4 h5 h6 h7 h3 hK ge hP;go_wp2_with fail;refine ⟨by simp,.inl ⟨_,_,rfl,run_takeDeferred gW.out,?_⟩⟩;have m1:w.heap.size+2≠D:=by omega
  have m2:g≠w.heap.size+2:=by omega
  have m3:hh≠w.heap.size+2:=by omega
  have gQ:g≠D:=by have:=Hl.out.lt;omega
  have gK:hh≠D:=by have:=Hn.out.lt;omega
  have e0:=(Zi1 (World.putObj_heap_other (o:=.deferred none) (w:=(W.setCell ⟨w.heap.size+2,0,none⟩ (.slice (some ⟨g,0,none⟩) out.length out.length)).setCell ⟨w.heap.size+2,1,none⟩ (.slice (some ⟨hh,0,none⟩) N N)) m1)).trans d0;have e1:=(Zi1 (World.putObj_heap_other (o:=.deferred none) (w:=(W.setCell ⟨w.heap.size+2,0,none⟩ (.slice (some ⟨g,0,none⟩) out.length out.length)).setCell ⟨w.heap.size+2,1,none⟩ (.slice (some ⟨hh,0,none⟩) N N)) m1)).trans d1;have b1:Blk (((W.setCell ⟨w.heap.size+2,0,none⟩ (.slice (some ⟨g,0,none⟩) out.length out.length)).setCell ⟨w.heap.size+2,1,none⟩ (.slice (some ⟨hh,0,none⟩) N N)).putObj D (.deferred none)) g 3 (out.map (Za1 .i64)).toArray:=(World.putObj_heap_other gQ).trans ((H7.out.far (p:=⟨w.heap.size+2,0,none⟩) m2 _).far (p:=⟨w.heap.size+2,1,none⟩) m2 _);have b2:Blk (((W.setCell ⟨w.heap.size+2,0,none⟩ (.slice (some ⟨g,0,none⟩) out.length out.length)).setCell ⟨w.heap.size+2,1,none⟩ (.slice (some ⟨hh,0,none⟩) N N)).putObj D (.deferred none)) hh 22 (acc.map (Za1 .i64)).toArray:=(World.putObj_heap_other gK).trans ((H1.out.far (p:=⟨w.heap.size+2,0,none⟩) m3 _).far (p:=⟨w.heap.size+2,1,none⟩) m3 _);have b3:Later w (((W.setCell ⟨w.heap.size+2,0,none⟩ (.slice (some ⟨g,0,none⟩) out.length out.length)).setCell ⟨w.heap.size+2,1,none⟩ (.slice (some ⟨hh,0,none⟩) N N)).putObj D (.deferred none)):=Below.trans ((H3.out.set (p:=⟨w.heap.size+2,0,none⟩) sZ _).set (p:=⟨w.heap.size+2,1,none⟩) sZ _) (qbh _ _ oZ);simp only [Nat.add_assoc,Nat.reduceAdd];generalize ((W.setCell ⟨w.heap.size+2,0,none⟩ (.slice (some ⟨g,0,none⟩) out.length out.length)).setCell ⟨w.heap.size+2,1,none⟩ (.slice (some ⟨hh,0,none⟩) N N)).putObj D (.deferred none)=W4 at *;refine ⟨.tuple #[.agg #[.slice (some ⟨g,0,none⟩) out.length out.length,.slice (some ⟨hh,0,none⟩) N N],.int .i64 0],by simp [results,Tryz.results96,go_sem,e0,e1],?_⟩;refine GoP.ok gI.out ?_ b3;refine ⟨some ⟨g,0,none⟩,out.length,some ⟨hh,0,none⟩,N,by simp [Hk],⟨⟨b1.intsL,b2.intsL⟩,lrZ _,by omega,by simp [Hk],by omega,gg,by simp [Hk];omega,gl.out⟩,?_,?_⟩
  ·intro a e
   injection e with e
   rw [←e]
   show w.heap.size<=g
   omega
  ·intro a e
   injection e with e
   rw [←e];exact ⟨show w.heap.size<=hh by omega,b2.lt,λj=>b2.frozen j⟩
theorem qb7 {r:Ten × Int} {w w1 wf:Zp1} {v u u2:Value} {p:Nat} {T:TypeId} (hne:r.2≠0->v=Value.agg #[.slice none 0 0,.slice none 0 0]) (hok:r.2=0->TenO w1.heap.size wf v r.1) (hL:Later w wf) (hz:Blk wf p T #[.slice none 0 0,.slice none 0 0]) (hp:w.heap.size<=p) (hs:w.heap.size<=w1.heap.size):
  GoP r w (.returned (.tuple #[v,.int .i64 r.2])) ((wf.setCell ⟨p,0,none⟩ u).setCell ⟨p,1,none⟩ u2):=by
 refine ⟨?_,(hL.set (p:=⟨p,0,none⟩) hp _).set (p:=⟨p,1,none⟩) hp _⟩
 by_cases h:r.2=0
 ·exact .inr ⟨h,v,by rw [h],((hok h).base hs).box hz⟩
 ·exact .inl ⟨h,by rw [hne h]⟩
set_option maxRecDepth 20000 in
theorem op_go (o:OpD) (S P X:Option Addr) (c cp cx:Nat) (p x:List Ten) (w:Zp1) (ho:o.s.length<=1048576) (hI:Ints .i64 w S o.s) (hk0:Fx.In o.k) (hP:Tns w P p) (hX:Tns w X x) (lX:x.length<=1048576) (kX:x.length<=cx) (mX:cx<=9223372036854775807):
  Calls Tryz.prog 42 #[.agg #[.int .i64 o.kind,.int .i64 o.k,.int .i64 o.width,.int .i64 o.step,.int .i64 o.side,.int .i64 o.frm,.int .i64 o.to,.slice S o.s.length c],.slice P p.length cp,.slice X x.length cx] w (GoP (Ly.go o p x) w):=by
 have hL:Later w ((w.alloc (.cells #[.int .i64 o.kind,.int .i64 o.k,.int .i64 o.width,.int .i64 o.step,.int .i64 o.side,.int .i64 o.frm,.int .i64 o.to,.slice S o.s.length c] 26)).alloc (.cells #[.slice none 0 0,.slice none 0 0] 30)):=((Later.refl w).alloc _).alloc _;have hC:=(Blk.new w 26 #[.int .i64 o.kind,.int .i64 o.k,.int .i64 o.width,.int .i64 o.step,.int .i64 o.side,.int .i64 o.frm,.int .i64 o.to,.slice S o.s.length c]).alloc (.cells #[.slice none 0 0,.slice none 0 0] 30);have hG:=Blk.new (w.alloc (.cells #[.int .i64 o.kind,.int .i64 o.k,.int .i64 o.width,.int .i64 o.step,.int .i64 o.side,.int .i64 o.frm,.int .i64 o.to,.slice S o.s.length c] 26)) 30 #[.slice none 0 0,.slice none 0 0];rw [Zh1] at hG;obtain ⟨HI,HP,HX,hF,hB,hN⟩:=zd6 hI hP hX hL hC hG;clear hI hP hX hL hC hG;go_enter Tryz.func42,Tryz.ntmps42;go_wp2_with fail;generalize (w.alloc (.cells #[.int .i64 o.kind,.int .i64 o.k,.int .i64 o.width,.int .i64 o.step,.int .i64 o.side,.int .i64 o.frm,.int .i64 o.to,.slice S o.s.length c] 26)).alloc (.cells #[.slice none 0 0,.slice none 0 0] 30)=w1 at *;refine (qat o S c p.length x.length w1 oZ (HI.out.below hF.out (lrZ _))).mono ?_;rintro e w2 ⟨rfl,hJ⟩;have hD:Later w1 w2:=hJ;have hH:=hF.out.trans hD;have hz:=hD.blk hN.out;have hE:=hD.blk hB.out;clear hJ hD hF hN hB
 by_cases hc:Od.counts o p.length x.length=0
 case neg=>
  have HE:=zI (Ly.go_err hc);have Hc:=zI hc;have d2:(Od.counts o p.length x.length != 0)=true:=by simpa using hc
  clear hc;generalize Od.counts o p.length x.length=ge at *;have c0':=hz.cell 0;have c1':=hz.cell 1;have f0:=hz.frozen 0;have f1:=hz.frozen 1;simp at c0' c1';obtain ⟨HH,Hz,hn⟩:=zd3 hH hz hE;clear hH hz hE;go_wp2_with fail;refine Zk1 (v:=.tuple #[.agg #[.slice none 0 0,.slice none 0 0],.int .i64 ge]) (by simp [results,Tryz.results42,go_sem,c0',c1']) rfl ?_;exact GoP.fail HE.out Hc.out ((HH.out.set (p:=⟨w.heap.size+1,0,none⟩) sZ _).set (p:=⟨w.heap.size+1,1,none⟩) sZ _)
 have hO:=Od.right_kind (Ly.counts_ok hc).1;have hw:Ly.go o p x=Ly.lay o p x:=Ly.go_lay hc;rw [hc];obtain ⟨HH,Hz,hn⟩:=zd3 hH hz hE;clear hH hz hE;have hA:o.kind<=7∨o.kind=8∨o.kind=9∨o.kind=10∨o.kind=11∨o.kind=12∨o.kind=13∨o.kind=14∨o.kind=15:=by omega
 rcases hA with hk|hk|hk|hk|hk|hk|hk|hk|hk
 ·have hh:Ly.lay o p x=Ly.point o.kind o.k x:=Ly.lay7 hk
  have hl:(Ly.point o.kind o.k x).2≠0->(Ly.point o.kind o.k x).1=Ly.none_:=Ly.point_none;have hb:=(Ly.counts_ok hc)
  unfold Od.least Od.most Od.params at hb;clear hb hc;have ha:=λ(W:Zp1) (h:Later w2 W)=>qad (point_go o.kind o.k X cx x W lX (HX.out.later (HH.out.trans h)) hk0) hl
  obtain ⟨R,hR⟩:∃R,Ly.point o.kind o.k x=R:=⟨_,rfl⟩
  rw [hR] at ha;rw [hR] at hh;have HE:=zI (hw.trans hh);clear hl;have q1:w2.cell? ⟨w.heap.size,0,none⟩=some (.int .i64 o.kind):=by rw [hn.out.cell];rfl
  have q2:w2.cell? ⟨w.heap.size,1,none⟩=some (.int .i64 o.k):=by rw [hn.out.cell];rfl
  have x0:w2.cell? ⟨w.heap.size,0,none⟩=some (.int .i64 o.kind):=by rw [hn.out.cell];rfl
  have k8:(o.kind==8)=false:=by rw [beq_eq_false_iff_ne];omega
  have k9:(o.kind==9)=false:=by rw [beq_eq_false_iff_ne];omega
  have k10:(o.kind==10)=false:=by rw [beq_eq_false_iff_ne];omega
  have k11:(o.kind==11)=false:=by rw [beq_eq_false_iff_ne];omega
  have k12:(o.kind==12)=false:=by rw [beq_eq_false_iff_ne];omega
  have k13:(o.kind==13)=false:=by rw [beq_eq_false_iff_ne];omega
  have k14:(o.kind==14)=false:=by rw [beq_eq_false_iff_ne];omega
  have k15:(o.kind==15)=false:=by rw [beq_eq_false_iff_ne];omega
  obtain ⟨he,HR⟩:=zd2 ha hR;clear ha hR hh;go_wp2_with fail;refine (he.out _ (Later.refl _)).mono ?_;rintro e wf ⟨S3,c3,C3,d3,rfl,hj,hm,hr⟩;have hg:Later w2 wf:=hr;have hd:=hg.blk Hz.out;have c0':=hd.cell 0;have c1':=hd.cell 1;have f0':=hd.frozen 0;have f1':=hd.frozen 1;simp at c0' c1';obtain ⟨hs,hq,hi,ht⟩:=zd4 hj hm hd hg;clear hj hm hd hg;have hf:=(hi.out.set_ 0 (.slice S3 R.1.s.length c3)).set_ 1 (.slice C3 R.1.c.length d3);have e0:=hf.cell 0;have e1:=hf.cell 1;simp at e0 e1;have hx:=zI hf;clear hf;go_wp2_with fail;refine Zk1 (v:=.tuple #[.agg #[.slice S3 R.1.s.length c3,.slice C3 R.1.c.length d3],.int .i64 R.2]) (by simp [results,Tryz.results42,go_sem,e0,e1]) rfl ?_;rw [HE.out];exact qb7 hs.out hq.out (HH.out.trans ht.out) hi.out sZ (by have:=HH.out.size;simp;omega)
 ·have hh:Ly.lay o p x=Ly.dense (Ly.got p 0) (Ly.got p 1) (Ly.got x 0):=Ly.lay8 hk
  have hl:(Ly.dense (Ly.got p 0) (Ly.got p 1) (Ly.got x 0)).2≠0->(Ly.dense (Ly.got p 0) (Ly.got p 1) (Ly.got x 0)).1=Ly.none_:=Ly.dense_none;have hb:=(Ly.counts_ok hc)
  unfold Od.least Od.most Od.params at hb;have hv:p.length=2:=by have:=hb.1;have h3:=hb.2.2.2;rw [ipZ this] at h3;simp [hk] at h3;omega
  have hu:x.length=1:=by have:=hb.1;have h1:=hb.2.1;have h2:=hb.2.2.1;rw [ipZ this] at h1 h2;simp [hk] at h1 h2;omega
  clear hb hc;obtain ⟨bp,po,S0,c0,C0,d0,rfl,lbp,p00,p01,hy⟩:=HP.out.at_ (j:=0) oZ;obtain ⟨bp2,po2,S1,c1,C1,d1,ep,-,p10,p11,hM⟩:=HP.out.at_ (j:=1) oZ;injection ep with ep;injection ep with ep1 ep2;subst ep1 ep2
  obtain ⟨bx,xo,S2,c2,C2,d2,rfl,lbx,x00,x01,hp⟩:=HX.out.at_ (j:=0) oZ;have ha:=λ(W:Zp1) (h:Later w2 W)=>qad (dense_go S0 C0 S1 C1 S2 C2 c0 d0 c1 d1 c2 d2 (Ly.got p 0) (Ly.got p 1) (Ly.got x 0) W (hy.later (HH.out.trans h)) (hM.later (HH.out.trans h)) (hp.later (HH.out.trans h))) hl
  obtain ⟨R,hR⟩:∃R,Ly.dense (Ly.got p 0) (Ly.got p 1) (Ly.got x 0)=R:=⟨_,rfl⟩
  rw [hR] at ha;rw [hR] at hh;have HE:=zI (hw.trans hh);clear hl;have q1:w2.cell? ⟨bp,po,none⟩=some (.slice S0 (Ly.got p 0).s.length c0):=HH.out.cell (by simpa using p00);have q2:w2.cell? ⟨bp,po+1,none⟩=some (.slice C0 (Ly.got p 0).c.length d0):=HH.out.cell (by simpa using p01);have q3:w2.cell? ⟨bp,po+2,none⟩=some (.slice S1 (Ly.got p 1).s.length c1):=HH.out.cell (by simpa using p10);have q4:w2.cell? ⟨bp,po+2+1,none⟩=some (.slice C1 (Ly.got p 1).c.length d1):=HH.out.cell (by simpa using p11);have q5:w2.cell? ⟨bx,xo,none⟩=some (.slice S2 (Ly.got x 0).s.length c2):=HH.out.cell (by simpa using x00);have q6:w2.cell? ⟨bx,xo+1,none⟩=some (.slice C2 (Ly.got x 0).c.length d2):=HH.out.cell (by simpa using x01);have x0:w2.cell? ⟨w.heap.size,0,none⟩=some (.int .i64 8):=by rw [hn.out.cell,←hk];rfl
  rw [hv];rw [hu];obtain ⟨he,HR⟩:=zd2 ha hR;clear ha hR hh hy hM hp;have lp1:bp<w2.heap.size:=ltZ lbp HH.out.size;have lx1:bx<w2.heap.size:=ltZ lbx HH.out.size;go_upto_region 6 with fail;clear x0 hk;have KF:=zI (show ∀Xw,Later w2 Xw->Xw.cell? ⟨bp,po,none⟩=some (.slice S0 (Ly.got p 0).s.length c0)/\Xw.cell? ⟨bp,po+1,none⟩=some (.slice C0 (Ly.got p 0).c.length d0)/\Xw.cell? ⟨bp,po+2,none⟩=some (.slice S1 (Ly.got p 1).s.length c1)/\Xw.cell? ⟨bp,po+2+1,none⟩=some (.slice C1 (Ly.got p 1).c.length d1)/\Xw.cell? ⟨bx,xo,none⟩=some (.slice S2 (Ly.got x 0).s.length c2)/\Xw.cell? ⟨bx,xo+1,none⟩=some (.slice C2 (Ly.got x 0).c.length d2) from λXw h=>⟨h.cell q1,h.cell q2,h.cell q3,h.cell q4,h.cell q5,h.cell q6⟩);refine Zm1 ?_;refine Zl1 (S:=λXw=>Xw.cell? ⟨bp,po,none⟩=some (.slice S0 (Ly.got p 0).s.length c0)/\Xw.cell? ⟨bp,po+1,none⟩=some (.slice C0 (Ly.got p 0).c.length d0)/\Xw.cell? ⟨bp,po+2,none⟩=some (.slice S1 (Ly.got p 1).s.length c1)/\Xw.cell? ⟨bp,po+2+1,none⟩=some (.slice C1 (Ly.got p 1).c.length d1)/\Xw.cell? ⟨bx,xo,none⟩=some (.slice S2 (Ly.got x 0).s.length c2)/\Xw.cell? ⟨bx,xo+1,none⟩=some (.slice C2 (Ly.got x 0).c.length d2)) krZ (KF.out _ Lau) (λhHeld=>?_);refine tk 0 ?_;refine tk 1 ?_;refine tk 2 ?_;refine tk 3 ?_;refine tk 4 ?_;refine tk 5 ?_;refine tk 6 ?_;refine tk 7 ?_;refine tk 8 ?_;refine rd 9 λK hK=>?_
  simp only [ga,gs,gz]
  go_simp
  go_at_call 94
  (with_reducible refine (he.out _ (Lau:Later w2 _)).mono ?_)
  rintro e wf ⟨S3,c3,C3,d3,rfl,hj,hm,hr⟩;have hg:Later w2 wf:=Later.trans (Lau:Later w2 (World.drew w2)) hr;have hd:=hg.blk Hz.out;have c0':=hd.cell 0;have c1':=hd.cell 1;have f0':=hd.frozen 0;have f1':=hd.frozen 1;simp at c0' c1';obtain ⟨hs,hq,hi,ht⟩:=zd4 hj hm hd hg;clear hj hm hd hg
  try go_wp2_with fail
  refine hK.out _ _ (KF.out _ Lau) (λhHeld=>?_);clear hK K
  try simp only [ga,gs,gz,Act.put,sa,sz,ss]
  refine tk 10 ?_;refine tk 11 ?_;refine rd 12 λK hK=>?_
  simp only [ga,gs,gz]
  go_simp
  refine hK.out _ _ ?_ (λhHeld=>?_)
  ·(try dsimp only);(refine ⟨?_,?_,?_,?_,?_,?_⟩<;>(repeat (refine qa0 ?_ (by first|omega|(simp;done)|(simp;omega))))<;>(refine Later.cell (Lau:Later w2 _) ?_)<;>assumption)
  clear hK K
  try simp only [ga,gs,gz,Act.put,sa,sz,ss]
  refine tk 13 ?_;clear KF;refine Zn1 krZ ?_ _;refine Zd1 ?_;have hf:=(hi.out.set_ 0 (.slice S3 R.1.s.length c3)).set_ 1 (.slice C3 R.1.c.length d3);have e0:=hf.cell 0;have e1:=hf.cell 1;simp at e0 e1;have hx:=zI hf;clear hf;go_wp2_with fail;refine Zk1 (v:=.tuple #[.agg #[.slice S3 R.1.s.length c3,.slice C3 R.1.c.length d3],.int .i64 R.2]) (by simp [results,Tryz.results42,go_sem,e0,e1]) rfl ?_;rw [HE.out];exact qb7 hs.out hq.out (HH.out.trans ht.out) hi.out sZ (by have:=HH.out.size;simp;omega)
 ·have hh:Ly.lay o p x=Ly.add (Ly.got x 0) (Ly.got p 0):=Ly.lay9 hk
  have hl:(Ly.add (Ly.got x 0) (Ly.got p 0)).2≠0->(Ly.add (Ly.got x 0) (Ly.got p 0)).1=Ly.none_:=Ly.add_none;have hb:=(Ly.counts_ok hc)
  unfold Od.least Od.most Od.params at hb;have hv:p.length=1:=by have:=hb.1;have h3:=hb.2.2.2;rw [ipZ this] at h3;simp [hk] at h3;omega
  have hu:x.length=1:=by have:=hb.1;have h1:=hb.2.1;have h2:=hb.2.2.1;rw [ipZ this] at h1 h2;simp [hk] at h1 h2;omega
  clear hb hc;obtain ⟨bp,po,S0,c0,C0,d0,rfl,lbp,p00,p01,hy⟩:=HP.out.at_ (j:=0) oZ;obtain ⟨bx,xo,S2,c2,C2,d2,rfl,lbx,x00,x01,hp⟩:=HX.out.at_ (j:=0) oZ;have ha:=λ(W:Zp1) (h:Later w2 W)=>qad (qd4 S0 C0 S2 C2 c0 d0 c2 d2 (Ly.got p 0) (Ly.got x 0) W (hy.later (HH.out.trans h)) (hp.later (HH.out.trans h))) hl
  obtain ⟨R,hR⟩:∃R,Ly.add (Ly.got x 0) (Ly.got p 0)=R:=⟨_,rfl⟩
  rw [hR] at ha;rw [hR] at hh;have HE:=zI (hw.trans hh);clear hl;have q1:w2.cell? ⟨bp,po,none⟩=some (.slice S0 (Ly.got p 0).s.length c0):=HH.out.cell (by simpa using p00);have q2:w2.cell? ⟨bp,po+1,none⟩=some (.slice C0 (Ly.got p 0).c.length d0):=HH.out.cell (by simpa using p01);have q3:w2.cell? ⟨bx,xo,none⟩=some (.slice S2 (Ly.got x 0).s.length c2):=HH.out.cell (by simpa using x00);have q4:w2.cell? ⟨bx,xo+1,none⟩=some (.slice C2 (Ly.got x 0).c.length d2):=HH.out.cell (by simpa using x01);have x0:w2.cell? ⟨w.heap.size,0,none⟩=some (.int .i64 9):=by rw [hn.out.cell,←hk];rfl
  rw [hv];rw [hu];obtain ⟨he,HR⟩:=zd2 ha hR;clear ha hR hh hy hp;have lp1:bp<w2.heap.size:=ltZ lbp HH.out.size;have lx1:bx<w2.heap.size:=ltZ lbx HH.out.size;go_upto_region 8 with fail;clear x0 hk;have KF:=zI (show ∀Xw,Later w2 Xw->Xw.cell? ⟨bp,po,none⟩=some (.slice S0 (Ly.got p 0).s.length c0)/\Xw.cell? ⟨bp,po+1,none⟩=some (.slice C0 (Ly.got p 0).c.length d0)/\Xw.cell? ⟨bx,xo,none⟩=some (.slice S2 (Ly.got x 0).s.length c2)/\Xw.cell? ⟨bx,xo+1,none⟩=some (.slice C2 (Ly.got x 0).c.length d2) from λXw h=>⟨h.cell q1,h.cell q2,h.cell q3,h.cell q4⟩);refine Zm1 ?_;refine Zl1 (S:=λXw=>Xw.cell? ⟨bp,po,none⟩=some (.slice S0 (Ly.got p 0).s.length c0)/\Xw.cell? ⟨bp,po+1,none⟩=some (.slice C0 (Ly.got p 0).c.length d0)/\Xw.cell? ⟨bx,xo,none⟩=some (.slice S2 (Ly.got x 0).s.length c2)/\Xw.cell? ⟨bx,xo+1,none⟩=some (.slice C2 (Ly.got x 0).c.length d2)) krZ (KF.out _ Lau) (λhHeld=>?_);refine tk 0 ?_;refine tk 1 ?_;refine tk 2 ?_;refine tk 3 ?_;refine tk 4 ?_;refine tk 5 ?_;refine rd 6 λK hK=>?_
  simp only [ga,gs,gz]
  go_simp
  go_at_call 95
  (with_reducible refine (he.out _ (Lau:Later w2 _)).mono ?_)
  rintro e wf ⟨S3,c3,C3,d3,rfl,hj,hm,hr⟩;have hg:Later w2 wf:=Later.trans (Lau:Later w2 (World.drew w2)) hr;have hd:=hg.blk Hz.out;have c0':=hd.cell 0;have c1':=hd.cell 1;have f0':=hd.frozen 0;have f1':=hd.frozen 1;simp at c0' c1';obtain ⟨hs,hq,hi,ht⟩:=zd4 hj hm hd hg;clear hj hm hd hg
  try go_wp2_with fail
  refine hK.out _ _ (KF.out _ Lau) (λhHeld=>?_);clear hK K
  try simp only [ga,gs,gz,Act.put,sa,sz,ss]
  refine tk 7 ?_;refine tk 8 ?_;refine rd 9 λK hK=>?_
  simp only [ga,gs,gz]
  go_simp
  refine hK.out _ _ ?_ (λhHeld=>?_)
  ·(try dsimp only);(refine ⟨?_,?_,?_,?_⟩<;>(repeat (refine qa0 ?_ (by first|omega|(simp;done)|(simp;omega))))<;>(refine Later.cell (Lau:Later w2 _) ?_)<;>assumption)
  clear hK K
  try simp only [ga,gs,gz,Act.put,sa,sz,ss]
  refine tk 10 ?_;clear KF;refine Zn1 krZ ?_ _;refine Zd1 ?_;have hf:=(hi.out.set_ 0 (.slice S3 R.1.s.length c3)).set_ 1 (.slice C3 R.1.c.length d3);have e0:=hf.cell 0;have e1:=hf.cell 1;simp at e0 e1;have hx:=zI hf;clear hf;go_wp2_with fail;refine Zk1 (v:=.tuple #[.agg #[.slice S3 R.1.s.length c3,.slice C3 R.1.c.length d3],.int .i64 R.2]) (by simp [results,Tryz.results42,go_sem,e0,e1]) rfl ?_;rw [HE.out];exact qb7 hs.out hq.out (HH.out.trans ht.out) hi.out sZ (by have:=HH.out.size;simp;omega)
 ·have hh:Ly.lay o p x=Ly.conv (Ly.got p 0) (Ly.got x 0) o.step:=Ly.lay10 hk
  have hl:(Ly.conv (Ly.got p 0) (Ly.got x 0) o.step).2≠0->(Ly.conv (Ly.got p 0) (Ly.got x 0) o.step).1=Ly.none_:=Ly.conv_none;have hb:=(Ly.counts_ok hc)
  unfold Od.least Od.most Od.params at hb;have hv:p.length=1:=by have:=hb.1;have h3:=hb.2.2.2;rw [ipZ this] at h3;simp [hk] at h3;omega
  have hu:x.length=1:=by have:=hb.1;have h1:=hb.2.1;have h2:=hb.2.2.1;rw [ipZ this] at h1 h2;simp [hk] at h1 h2;omega
  clear hb hc;obtain ⟨bp,po,S0,c0,C0,d0,rfl,lbp,p00,p01,hy⟩:=HP.out.at_ (j:=0) oZ;obtain ⟨bx,xo,S2,c2,C2,d2,rfl,lbx,x00,x01,hp⟩:=HX.out.at_ (j:=0) oZ;have ha:=λ(W:Zp1) (h:Later w2 W)=>qad (conv_go S0 C0 S2 C2 c0 d0 c2 d2 (Ly.got p 0) (Ly.got x 0) o.step W (hy.later (HH.out.trans h)) (hp.later (HH.out.trans h))) hl
  obtain ⟨R,hR⟩:∃R,Ly.conv (Ly.got p 0) (Ly.got x 0) o.step=R:=⟨_,rfl⟩
  rw [hR] at ha;rw [hR] at hh;have HE:=zI (hw.trans hh);clear hl;have q1:w2.cell? ⟨bp,po,none⟩=some (.slice S0 (Ly.got p 0).s.length c0):=HH.out.cell (by simpa using p00);have q2:w2.cell? ⟨bp,po+1,none⟩=some (.slice C0 (Ly.got p 0).c.length d0):=HH.out.cell (by simpa using p01);have q3:w2.cell? ⟨bx,xo,none⟩=some (.slice S2 (Ly.got x 0).s.length c2):=HH.out.cell (by simpa using x00);have q4:w2.cell? ⟨bx,xo+1,none⟩=some (.slice C2 (Ly.got x 0).c.length d2):=HH.out.cell (by simpa using x01);have q5:w2.cell? ⟨w.heap.size,3,none⟩=some (.int .i64 o.step):=by rw [hn.out.cell];rfl
  have x0:w2.cell? ⟨w.heap.size,0,none⟩=some (.int .i64 10):=by rw [hn.out.cell,←hk];rfl
  rw [hv];rw [hu];obtain ⟨he,HR⟩:=zd2 ha hR;clear ha hR hh hy hp;have lp1:bp<w2.heap.size:=ltZ lbp HH.out.size;have lx1:bx<w2.heap.size:=ltZ lbx HH.out.size;go_upto_region 10 with fail;clear x0 hk;have KF:=zI (show ∀Xw,Later w2 Xw->Xw.cell? ⟨bp,po,none⟩=some (.slice S0 (Ly.got p 0).s.length c0)/\Xw.cell? ⟨bp,po+1,none⟩=some (.slice C0 (Ly.got p 0).c.length d0)/\Xw.cell? ⟨bx,xo,none⟩=some (.slice S2 (Ly.got x 0).s.length c2)/\Xw.cell? ⟨bx,xo+1,none⟩=some (.slice C2 (Ly.got x 0).c.length d2)/\Xw.cell? ⟨w.heap.size,3,none⟩=some (.int .i64 o.step) from λXw h=>⟨h.cell q1,h.cell q2,h.cell q3,h.cell q4,h.cell q5⟩);refine Zm1 ?_;refine Zl1 (S:=λXw=>Xw.cell? ⟨bp,po,none⟩=some (.slice S0 (Ly.got p 0).s.length c0)/\Xw.cell? ⟨bp,po+1,none⟩=some (.slice C0 (Ly.got p 0).c.length d0)/\Xw.cell? ⟨bx,xo,none⟩=some (.slice S2 (Ly.got x 0).s.length c2)/\Xw.cell? ⟨bx,xo+1,none⟩=some (.slice C2 (Ly.got x 0).c.length d2)/\Xw.cell? ⟨w.heap.size,3,none⟩=some (.int .i64 o.step)) krZ (KF.out _ Lau) (λhHeld=>?_);refine tk 0 ?_;refine tk 1 ?_;refine tk 2 ?_;refine tk 3 ?_;refine tk 4 ?_;refine tk 5 ?_;refine tk 6 ?_;refine tk 7 ?_;refine rd 8 λK hK=>?_
  simp only [ga,gs,gz]
  go_simp
  go_at_call 96
  (with_reducible refine (he.out _ (Lau:Later w2 _)).mono ?_)
  rintro e wf ⟨S3,c3,C3,d3,rfl,hj,hm,hr⟩;have hg:Later w2 wf:=Later.trans (Lau:Later w2 (World.drew w2)) hr;have hd:=hg.blk Hz.out;have c0':=hd.cell 0;have c1':=hd.cell 1;have f0':=hd.frozen 0;have f1':=hd.frozen 1;simp at c0' c1';obtain ⟨hs,hq,hi,ht⟩:=zd4 hj hm hd hg;clear hj hm hd hg
  try go_wp2_with fail
  refine hK.out _ _ (KF.out _ Lau) (λhHeld=>?_);clear hK K
  try simp only [ga,gs,gz,Act.put,sa,sz,ss]
  refine tk 9 ?_;refine tk 10 ?_;refine rd 11 λK hK=>?_
  simp only [ga,gs,gz]
  go_simp
  refine hK.out _ _ ?_ (λhHeld=>?_)
  ·(try dsimp only);(refine ⟨?_,?_,?_,?_,?_⟩<;>(repeat (refine qa0 ?_ (by first|omega|(simp;done)|(simp;omega))))<;>(refine Later.cell (Lau:Later w2 _) ?_)<;>assumption)
  clear hK K
  try simp only [ga,gs,gz,Act.put,sa,sz,ss]
  refine tk 12 ?_;clear KF;refine Zn1 krZ ?_ _;refine Zd1 ?_;have hf:=(hi.out.set_ 0 (.slice S3 R.1.s.length c3)).set_ 1 (.slice C3 R.1.c.length d3);have e0:=hf.cell 0;have e1:=hf.cell 1;simp at e0 e1;have hx:=zI hf;clear hf;go_wp2_with fail;refine Zk1 (v:=.tuple #[.agg #[.slice S3 R.1.s.length c3,.slice C3 R.1.c.length d3],.int .i64 R.2]) (by simp [results,Tryz.results42,go_sem,e0,e1]) rfl ?_;rw [HE.out];exact qb7 hs.out hq.out (HH.out.trans ht.out) hi.out sZ (by have:=HH.out.size;simp;omega)
 ·have hh:Ly.lay o p x=Ly.pool true (Ly.got x 0) o.width o.step:=Ly.lay11 hk
  have hl:(Ly.pool true (Ly.got x 0) o.width o.step).2≠0->(Ly.pool true (Ly.got x 0) o.width o.step).1=Ly.none_:=Ly.pool_none;have hb:=(Ly.counts_ok hc)
  unfold Od.least Od.most Od.params at hb;have hv:p.length=0:=by have:=hb.1;have h3:=hb.2.2.2;rw [ipZ this] at h3;simp [hk] at h3;omega
  have hu:x.length=1:=by have:=hb.1;have h1:=hb.2.1;have h2:=hb.2.2.1;rw [ipZ this] at h1 h2;simp [hk] at h1 h2;omega
  clear hb hc;obtain ⟨bx,xo,S2,c2,C2,d2,rfl,lbx,x00,x01,hp⟩:=HX.out.at_ (j:=0) oZ;have ha:=λ(W:Zp1) (h:Later w2 W)=>qad (qgi true 1 S2 C2 c2 d2 (Ly.got x 0) o.width o.step W (.inl ⟨rfl,rfl⟩) (hp.later (HH.out.trans h))) hl
  obtain ⟨R,hR⟩:∃R,Ly.pool true (Ly.got x 0) o.width o.step=R:=⟨_,rfl⟩
  rw [hR] at ha;rw [hR] at hh;have HE:=zI (hw.trans hh);clear hl;have q1:w2.cell? ⟨bx,xo,none⟩=some (.slice S2 (Ly.got x 0).s.length c2):=HH.out.cell (by simpa using x00);have q2:w2.cell? ⟨bx,xo+1,none⟩=some (.slice C2 (Ly.got x 0).c.length d2):=HH.out.cell (by simpa using x01);have q3:w2.cell? ⟨w.heap.size,2,none⟩=some (.int .i64 o.width):=by rw [hn.out.cell];rfl
  have q4:w2.cell? ⟨w.heap.size,3,none⟩=some (.int .i64 o.step):=by rw [hn.out.cell];rfl
  have x0:w2.cell? ⟨w.heap.size,0,none⟩=some (.int .i64 11):=by rw [hn.out.cell,←hk];rfl
  rw [hu];obtain ⟨he,HR⟩:=zd2 ha hR;clear ha hR hh hp;have lx1:bx<w2.heap.size:=ltZ lbx HH.out.size;go_upto_region 12 with fail;clear x0 hk;have KF:=zI (show ∀Xw,Later w2 Xw->Xw.cell? ⟨bx,xo,none⟩=some (.slice S2 (Ly.got x 0).s.length c2)/\Xw.cell? ⟨bx,xo+1,none⟩=some (.slice C2 (Ly.got x 0).c.length d2)/\Xw.cell? ⟨w.heap.size,2,none⟩=some (.int .i64 o.width)/\Xw.cell? ⟨w.heap.size,3,none⟩=some (.int .i64 o.step) from λXw h=>⟨h.cell q1,h.cell q2,h.cell q3,h.cell q4⟩);refine Zm1 ?_;refine Zl1 (S:=λXw=>Xw.cell? ⟨bx,xo,none⟩=some (.slice S2 (Ly.got x 0).s.length c2)/\Xw.cell? ⟨bx,xo+1,none⟩=some (.slice C2 (Ly.got x 0).c.length d2)/\Xw.cell? ⟨w.heap.size,2,none⟩=some (.int .i64 o.width)/\Xw.cell? ⟨w.heap.size,3,none⟩=some (.int .i64 o.step)) krZ (KF.out _ Lau) (λhHeld=>?_);refine tk 0 ?_;refine tk 1 ?_;refine tk 2 ?_;refine tk 3 ?_;refine tk 4 ?_;refine tk 5 ?_;refine tk 6 ?_;refine rd 7 λK hK=>?_
  simp only [ga,gs,gz]
  go_simp
  go_at_call 97
  (with_reducible refine (he.out _ (Lau:Later w2 _)).mono ?_)
  rintro e wf ⟨S3,c3,C3,d3,rfl,hj,hm,hr⟩;have hg:Later w2 wf:=Later.trans (Lau:Later w2 (World.drew w2)) hr;have hd:=hg.blk Hz.out;have c0':=hd.cell 0;have c1':=hd.cell 1;have f0':=hd.frozen 0;have f1':=hd.frozen 1;simp at c0' c1';obtain ⟨hs,hq,hi,ht⟩:=zd4 hj hm hd hg;clear hj hm hd hg
  try go_wp2_with fail
  refine hK.out _ _ (KF.out _ Lau) (λhHeld=>?_);clear hK K
  try simp only [ga,gs,gz,Act.put,sa,sz,ss]
  refine tk 8 ?_;refine tk 9 ?_;refine rd 10 λK hK=>?_
  simp only [ga,gs,gz]
  go_simp
  refine hK.out _ _ ?_ (λhHeld=>?_)
  ·(try dsimp only);(refine ⟨?_,?_,?_,?_⟩<;>(repeat (refine qa0 ?_ (by first|omega|(simp;done)|(simp;omega))))<;>(refine Later.cell (Lau:Later w2 _) ?_)<;>assumption)
  clear hK K
  try simp only [ga,gs,gz,Act.put,sa,sz,ss]
  refine tk 11 ?_;clear KF;refine Zn1 krZ ?_ _;refine Zd1 ?_;have hf:=(hi.out.set_ 0 (.slice S3 R.1.s.length c3)).set_ 1 (.slice C3 R.1.c.length d3);have e0:=hf.cell 0;have e1:=hf.cell 1;simp at e0 e1;have hx:=zI hf;clear hf;go_wp2_with fail;refine Zk1 (v:=.tuple #[.agg #[.slice S3 R.1.s.length c3,.slice C3 R.1.c.length d3],.int .i64 R.2]) (by simp [results,Tryz.results42,go_sem,e0,e1]) rfl ?_;rw [HE.out];exact qb7 hs.out hq.out (HH.out.trans ht.out) hi.out sZ (by have:=HH.out.size;simp;omega)
 ·have hh:Ly.lay o p x=Ly.pool false (Ly.got x 0) o.width o.step:=Ly.lay12 hk
  have hl:(Ly.pool false (Ly.got x 0) o.width o.step).2≠0->(Ly.pool false (Ly.got x 0) o.width o.step).1=Ly.none_:=Ly.pool_none;have hb:=(Ly.counts_ok hc)
  unfold Od.least Od.most Od.params at hb;have hv:p.length=0:=by have:=hb.1;have h3:=hb.2.2.2;rw [ipZ this] at h3;simp [hk] at h3;omega
  have hu:x.length=1:=by have:=hb.1;have h1:=hb.2.1;have h2:=hb.2.2.1;rw [ipZ this] at h1 h2;simp [hk] at h1 h2;omega
  clear hb hc;obtain ⟨bx,xo,S2,c2,C2,d2,rfl,lbx,x00,x01,hp⟩:=HX.out.at_ (j:=0) oZ;have ha:=λ(W:Zp1) (h:Later w2 W)=>qad (qgi false 2 S2 C2 c2 d2 (Ly.got x 0) o.width o.step W (.inr ⟨rfl,rfl⟩) (hp.later (HH.out.trans h))) hl
  obtain ⟨R,hR⟩:∃R,Ly.pool false (Ly.got x 0) o.width o.step=R:=⟨_,rfl⟩
  rw [hR] at ha;rw [hR] at hh;have HE:=zI (hw.trans hh);clear hl;have q1:w2.cell? ⟨bx,xo,none⟩=some (.slice S2 (Ly.got x 0).s.length c2):=HH.out.cell (by simpa using x00);have q2:w2.cell? ⟨bx,xo+1,none⟩=some (.slice C2 (Ly.got x 0).c.length d2):=HH.out.cell (by simpa using x01);have q3:w2.cell? ⟨w.heap.size,2,none⟩=some (.int .i64 o.width):=by rw [hn.out.cell];rfl
  have q4:w2.cell? ⟨w.heap.size,3,none⟩=some (.int .i64 o.step):=by rw [hn.out.cell];rfl
  have x0:w2.cell? ⟨w.heap.size,0,none⟩=some (.int .i64 12):=by rw [hn.out.cell,←hk];rfl
  rw [hu];obtain ⟨he,HR⟩:=zd2 ha hR;clear ha hR hh hp;have lx1:bx<w2.heap.size:=ltZ lbx HH.out.size;go_upto_region 14 with fail;clear x0 hk;have KF:=zI (show ∀Xw,Later w2 Xw->Xw.cell? ⟨bx,xo,none⟩=some (.slice S2 (Ly.got x 0).s.length c2)/\Xw.cell? ⟨bx,xo+1,none⟩=some (.slice C2 (Ly.got x 0).c.length d2)/\Xw.cell? ⟨w.heap.size,2,none⟩=some (.int .i64 o.width)/\Xw.cell? ⟨w.heap.size,3,none⟩=some (.int .i64 o.step) from λXw h=>⟨h.cell q1,h.cell q2,h.cell q3,h.cell q4⟩);refine Zm1 ?_;refine Zl1 (S:=λXw=>Xw.cell? ⟨bx,xo,none⟩=some (.slice S2 (Ly.got x 0).s.length c2)/\Xw.cell? ⟨bx,xo+1,none⟩=some (.slice C2 (Ly.got x 0).c.length d2)/\Xw.cell? ⟨w.heap.size,2,none⟩=some (.int .i64 o.width)/\Xw.cell? ⟨w.heap.size,3,none⟩=some (.int .i64 o.step)) krZ (KF.out _ Lau) (λhHeld=>?_);refine tk 0 ?_;refine tk 1 ?_;refine tk 2 ?_;refine tk 3 ?_;refine tk 4 ?_;refine tk 5 ?_;refine tk 6 ?_;refine rd 7 λK hK=>?_
  simp only [ga,gs,gz]
  go_simp
  go_at_call 97
  (with_reducible refine (he.out _ (Lau:Later w2 _)).mono ?_)
  rintro e wf ⟨S3,c3,C3,d3,rfl,hj,hm,hr⟩;have hg:Later w2 wf:=Later.trans (Lau:Later w2 (World.drew w2)) hr;have hd:=hg.blk Hz.out;have c0':=hd.cell 0;have c1':=hd.cell 1;have f0':=hd.frozen 0;have f1':=hd.frozen 1;simp at c0' c1';obtain ⟨hs,hq,hi,ht⟩:=zd4 hj hm hd hg;clear hj hm hd hg
  try go_wp2_with fail
  refine hK.out _ _ (KF.out _ Lau) (λhHeld=>?_);clear hK K
  try simp only [ga,gs,gz,Act.put,sa,sz,ss]
  refine tk 8 ?_;refine tk 9 ?_;refine rd 10 λK hK=>?_
  simp only [ga,gs,gz]
  go_simp
  refine hK.out _ _ ?_ (λhHeld=>?_)
  ·(try dsimp only);(refine ⟨?_,?_,?_,?_⟩<;>(repeat (refine qa0 ?_ (by first|omega|(simp;done)|(simp;omega))))<;>(refine Later.cell (Lau:Later w2 _) ?_)<;>assumption)
  clear hK K
  try simp only [ga,gs,gz,Act.put,sa,sz,ss]
  refine tk 11 ?_;clear KF;refine Zn1 krZ ?_ _;refine Zd1 ?_;have hf:=(hi.out.set_ 0 (.slice S3 R.1.s.length c3)).set_ 1 (.slice C3 R.1.c.length d3);have e0:=hf.cell 0;have e1:=hf.cell 1;simp at e0 e1;have hx:=zI hf;clear hf;go_wp2_with fail;refine Zk1 (v:=.tuple #[.agg #[.slice S3 R.1.s.length c3,.slice C3 R.1.c.length d3],.int .i64 R.2]) (by simp [results,Tryz.results42,go_sem,e0,e1]) rfl ?_;rw [HE.out];exact qb7 hs.out hq.out (HH.out.trans ht.out) hi.out sZ (by have:=HH.out.size;simp;omega)
 ·have hh:Ly.lay o p x=Ly.join o.side x:=Ly.lay13 hk
  have hl:(Ly.join o.side x).2≠0->(Ly.join o.side x).1=Ly.none_:=Ly.join_none;have hb:=(Ly.counts_ok hc)
  unfold Od.least Od.most Od.params at hb;have hv:p.length=0:=by have:=hb.1;have h3:=hb.2.2.2;rw [ipZ this] at h3;simp [hk] at h3;omega
  clear hb hc;have ha:=λ(W:Zp1) (h:Later w2 W)=>qad (qgj o.side X cx x W lX kX mX (HX.out.later (HH.out.trans h))) hl
  obtain ⟨R,hR⟩:∃R,Ly.join o.side x=R:=⟨_,rfl⟩
  rw [hR] at ha;rw [hR] at hh;have HE:=zI (hw.trans hh);clear hl;have q1:w2.cell? ⟨w.heap.size,4,none⟩=some (.int .i64 o.side):=by rw [hn.out.cell];rfl
  have x0:w2.cell? ⟨w.heap.size,0,none⟩=some (.int .i64 13):=by rw [hn.out.cell,←hk];rfl
  obtain ⟨he,HR⟩:=zd2 ha hR;clear ha hR hh;go_wp2_with fail;refine (he.out _ (Later.refl _)).mono ?_;rintro e wf ⟨S3,c3,C3,d3,rfl,hj,hm,hr⟩;have hg:Later w2 wf:=hr;have hd:=hg.blk Hz.out;have c0':=hd.cell 0;have c1':=hd.cell 1;have f0':=hd.frozen 0;have f1':=hd.frozen 1;simp at c0' c1';obtain ⟨hs,hq,hi,ht⟩:=zd4 hj hm hd hg;clear hj hm hd hg;have hf:=(hi.out.set_ 0 (.slice S3 R.1.s.length c3)).set_ 1 (.slice C3 R.1.c.length d3);have e0:=hf.cell 0;have e1:=hf.cell 1;simp at e0 e1;have hx:=zI hf;clear hf;go_wp2_with fail;refine Zk1 (v:=.tuple #[.agg #[.slice S3 R.1.s.length c3,.slice C3 R.1.c.length d3],.int .i64 R.2]) (by simp [results,Tryz.results42,go_sem,e0,e1]) rfl ?_;rw [HE.out];exact qb7 hs.out hq.out (HH.out.trans ht.out) hi.out sZ (by have:=HH.out.size;simp;omega)
 ·have hh:Ly.lay o p x=Ly.cut (Ly.got x 0) o.side o.frm o.to:=Ly.lay14 hk
  have hl:(Ly.cut (Ly.got x 0) o.side o.frm o.to).2≠0->(Ly.cut (Ly.got x 0) o.side o.frm o.to).1=Ly.none_:=Ly.cut_none;have hb:=(Ly.counts_ok hc)
  unfold Od.least Od.most Od.params at hb;have hv:p.length=0:=by have:=hb.1;have h3:=hb.2.2.2;rw [ipZ this] at h3;simp [hk] at h3;omega
  have hu:x.length=1:=by have:=hb.1;have h1:=hb.2.1;have h2:=hb.2.2.1;rw [ipZ this] at h1 h2;simp [hk] at h1 h2;omega
  clear hb hc;obtain ⟨bx,xo,S2,c2,C2,d2,rfl,lbx,x00,x01,hp⟩:=HX.out.at_ (j:=0) oZ;have ha:=λ(W:Zp1) (h:Later w2 W)=>qad (move_cut S2 C2 c2 d2 (Ly.got x 0) o.side o.frm o.to W (hp.later (HH.out.trans h))) hl
  obtain ⟨R,hR⟩:∃R,Ly.cut (Ly.got x 0) o.side o.frm o.to=R:=⟨_,rfl⟩
  rw [hR] at ha;rw [hR] at hh;have HE:=zI (hw.trans hh);clear hl;have q1:w2.cell? ⟨bx,xo,none⟩=some (.slice S2 (Ly.got x 0).s.length c2):=HH.out.cell (by simpa using x00);have q2:w2.cell? ⟨bx,xo+1,none⟩=some (.slice C2 (Ly.got x 0).c.length d2):=HH.out.cell (by simpa using x01);have q3:w2.cell? ⟨w.heap.size,4,none⟩=some (.int .i64 o.side):=by rw [hn.out.cell];rfl
  have q4:w2.cell? ⟨w.heap.size,5,none⟩=some (.int .i64 o.frm):=by rw [hn.out.cell];rfl
  have q5:w2.cell? ⟨w.heap.size,6,none⟩=some (.int .i64 o.to):=by rw [hn.out.cell];rfl
  have x0:w2.cell? ⟨w.heap.size,0,none⟩=some (.int .i64 14):=by rw [hn.out.cell,←hk];rfl
  rw [hu];obtain ⟨he,HR⟩:=zd2 ha hR;clear ha hR hh hp;have lx1:bx<w2.heap.size:=ltZ lbx HH.out.size;go_upto_region 18 with fail;clear x0 hk;have KF:=zI (show ∀Xw,Later w2 Xw->Xw.cell? ⟨bx,xo,none⟩=some (.slice S2 (Ly.got x 0).s.length c2)/\Xw.cell? ⟨bx,xo+1,none⟩=some (.slice C2 (Ly.got x 0).c.length d2)/\Xw.cell? ⟨w.heap.size,4,none⟩=some (.int .i64 o.side)/\Xw.cell? ⟨w.heap.size,5,none⟩=some (.int .i64 o.frm)/\Xw.cell? ⟨w.heap.size,6,none⟩=some (.int .i64 o.to) from λXw h=>⟨h.cell q1,h.cell q2,h.cell q3,h.cell q4,h.cell q5⟩);refine Zm1 ?_;refine Zl1 (S:=λXw=>Xw.cell? ⟨bx,xo,none⟩=some (.slice S2 (Ly.got x 0).s.length c2)/\Xw.cell? ⟨bx,xo+1,none⟩=some (.slice C2 (Ly.got x 0).c.length d2)/\Xw.cell? ⟨w.heap.size,4,none⟩=some (.int .i64 o.side)/\Xw.cell? ⟨w.heap.size,5,none⟩=some (.int .i64 o.frm)/\Xw.cell? ⟨w.heap.size,6,none⟩=some (.int .i64 o.to)) krZ (KF.out _ Lau) (λhHeld=>?_);refine tk 0 ?_;refine tk 1 ?_;refine tk 2 ?_;refine tk 3 ?_;refine tk 4 ?_;refine tk 5 ?_;refine tk 6 ?_;refine tk 7 ?_;refine tk 8 ?_;refine rd 9 λK hK=>?_
  simp only [ga,gs,gz]
  go_simp
  go_at_call 99
  (with_reducible refine (he.out _ (Lau:Later w2 _)).mono ?_)
  rintro e wf ⟨S3,c3,C3,d3,rfl,hj,hm,hr⟩;have hg:Later w2 wf:=Later.trans (Lau:Later w2 (World.drew w2)) hr;have hd:=hg.blk Hz.out;have c0':=hd.cell 0;have c1':=hd.cell 1;have f0':=hd.frozen 0;have f1':=hd.frozen 1;simp at c0' c1';obtain ⟨hs,hq,hi,ht⟩:=zd4 hj hm hd hg;clear hj hm hd hg
  try go_wp2_with fail
  refine hK.out _ _ (KF.out _ Lau) (λhHeld=>?_);clear hK K
  try simp only [ga,gs,gz,Act.put,sa,sz,ss]
  refine tk 10 ?_;refine tk 11 ?_;refine rd 12 λK hK=>?_
  simp only [ga,gs,gz]
  go_simp
  refine hK.out _ _ ?_ (λhHeld=>?_)
  ·(try dsimp only);(refine ⟨?_,?_,?_,?_,?_⟩<;>(repeat (refine qa0 ?_ (by first|omega|(simp;done)|(simp;omega))))<;>(refine Later.cell (Lau:Later w2 _) ?_)<;>assumption)
  clear hK K
  try simp only [ga,gs,gz,Act.put,sa,sz,ss]
  refine tk 13 ?_;clear KF;refine Zn1 krZ ?_ _;refine Zd1 ?_;have hf:=(hi.out.set_ 0 (.slice S3 R.1.s.length c3)).set_ 1 (.slice C3 R.1.c.length d3);have e0:=hf.cell 0;have e1:=hf.cell 1;simp at e0 e1;have hx:=zI hf;clear hf;go_wp2_with fail;refine Zk1 (v:=.tuple #[.agg #[.slice S3 R.1.s.length c3,.slice C3 R.1.c.length d3],.int .i64 R.2]) (by simp [results,Tryz.results42,go_sem,e0,e1]) rfl ?_;rw [HE.out];exact qb7 hs.out hq.out (HH.out.trans ht.out) hi.out sZ (by have:=HH.out.size;simp;omega)
 ·have hh:Ly.lay o p x=Ly.turn (Ly.got x 0) o.s:=Ly.lay15 hk
  have hl:(Ly.turn (Ly.got x 0) o.s).2≠0->(Ly.turn (Ly.got x 0) o.s).1=Ly.none_:=Ly.turn_none;have hb:=(Ly.counts_ok hc)
  unfold Od.least Od.most Od.params at hb;have hv:p.length=0:=by have:=hb.1;have h3:=hb.2.2.2;rw [ipZ this] at h3;simp [hk] at h3;omega
  have hu:x.length=1:=by have:=hb.1;have h1:=hb.2.1;have h2:=hb.2.2.1;rw [ipZ this] at h1 h2;simp [hk] at h1 h2;omega
  clear hb hc;obtain ⟨bx,xo,S2,c2,C2,d2,rfl,lbx,x00,x01,hp⟩:=HX.out.at_ (j:=0) oZ;have ha:=λ(W:Zp1) (h:Later w2 W)=>qad (qe7 S2 C2 S c2 d2 c (Ly.got x 0) o.s W (hp.later (HH.out.trans h)) (HI.out.below (HH.out.trans h) (lrZ _)) ho) hl
  obtain ⟨R,hR⟩:∃R,Ly.turn (Ly.got x 0) o.s=R:=⟨_,rfl⟩
  rw [hR] at ha;rw [hR] at hh;have HE:=zI (hw.trans hh);clear hl;have q1:w2.cell? ⟨bx,xo,none⟩=some (.slice S2 (Ly.got x 0).s.length c2):=HH.out.cell (by simpa using x00);have q2:w2.cell? ⟨bx,xo+1,none⟩=some (.slice C2 (Ly.got x 0).c.length d2):=HH.out.cell (by simpa using x01);have q3:w2.cell? ⟨w.heap.size,7,none⟩=some (.slice S o.s.length c):=by rw [hn.out.cell];rfl
  have x0:w2.cell? ⟨w.heap.size,0,none⟩=some (.int .i64 15):=by rw [hn.out.cell,←hk];rfl
  rw [hu];obtain ⟨he,HR⟩:=zd2 ha hR;clear ha hR hh hp;have lx1:bx<w2.heap.size:=ltZ lbx HH.out.size;go_upto_region 20 with fail;clear x0 hk;have KF:=zI (show ∀Xw,Later w2 Xw->Xw.cell? ⟨bx,xo,none⟩=some (.slice S2 (Ly.got x 0).s.length c2)/\Xw.cell? ⟨bx,xo+1,none⟩=some (.slice C2 (Ly.got x 0).c.length d2)/\Xw.cell? ⟨w.heap.size,7,none⟩=some (.slice S o.s.length c) from λXw h=>⟨h.cell q1,h.cell q2,h.cell q3⟩);refine Zm1 ?_;refine Zl1 (S:=λXw=>Xw.cell? ⟨bx,xo,none⟩=some (.slice S2 (Ly.got x 0).s.length c2)/\Xw.cell? ⟨bx,xo+1,none⟩=some (.slice C2 (Ly.got x 0).c.length d2)/\Xw.cell? ⟨w.heap.size,7,none⟩=some (.slice S o.s.length c)) krZ (KF.out _ Lau) (λhHeld=>?_);refine tk 0 ?_;refine tk 1 ?_;refine tk 2 ?_;refine tk 3 ?_;refine tk 4 ?_;refine rd 5 λK hK=>?_
  simp only [ga,gs,gz]
  go_simp
  go_at_call 100
  (with_reducible refine (he.out _ (Lau:Later w2 _)).mono ?_)
  rintro e wf ⟨S3,c3,C3,d3,rfl,hj,hm,hr⟩;have hg:Later w2 wf:=Later.trans (Lau:Later w2 (World.drew w2)) hr;have hd:=hg.blk Hz.out;have c0':=hd.cell 0;have c1':=hd.cell 1;have f0':=hd.frozen 0;have f1':=hd.frozen 1;simp at c0' c1';obtain ⟨hs,hq,hi,ht⟩:=zd4 hj hm hd hg;clear hj hm hd hg
  try go_wp2_with fail
  refine hK.out _ _ (KF.out _ Lau) (λhHeld=>?_);clear hK K
  try simp only [ga,gs,gz,Act.put,sa,sz,ss]
  refine tk 6 ?_;refine tk 7 ?_;refine rd 8 λK hK=>?_
  simp only [ga,gs,gz]
  go_simp
  refine hK.out _ _ ?_ (λhHeld=>?_)
  ·(try dsimp only);(refine ⟨?_,?_,?_⟩<;>(repeat (refine qa0 ?_ (by first|omega|(simp;done)|(simp;omega))))<;>(refine Later.cell (Lau:Later w2 _) ?_)<;>assumption)
  clear hK K
  try simp only [ga,gs,gz,Act.put,sa,sz,ss]
  refine tk 9 ?_;clear KF;refine Zn1 krZ ?_ _;refine Zd1 ?_;have hf:=(hi.out.set_ 0 (.slice S3 R.1.s.length c3)).set_ 1 (.slice C3 R.1.c.length d3);have e0:=hf.cell 0;have e1:=hf.cell 1;simp at e0 e1;have hx:=zI hf;clear hf;go_wp2_with fail;refine Zk1 (v:=.tuple #[.agg #[.slice S3 R.1.s.length c3,.slice C3 R.1.c.length d3],.int .i64 R.2]) (by simp [results,Tryz.results42,go_sem,e0,e1]) rfl ?_;rw [HE.out];exact qb7 hs.out hq.out (HH.out.trans ht.out) hi.out sZ (by have:=HH.out.size;simp;omega)
namespace Pn
def parts (n:NetD) (ps:List Ten) (id:Int):List Ten:=(ps.drop (from_ n.nodes (id.toNat-1))).take ((Nt.node n.nodes id).p.length)
def step (n:NetD) (ps vals:List Ten) (id:Int):Ten × Int:=Ly.go (Nt.node n.nodes id).op (parts n ps id) (pickT vals (Nt.node n.nodes id).ins)
def fwd (n:NetD) (ps:List Ten):List Ten->List Int->List Ten × Int
 | vals,[]=>(vals,0)
 | vals,id::r=>if (step n ps vals id).2=0 then fwd n ps (vals.set id.toNat (step n ps vals id).1) r else ([],(step n ps vals id).2)
def forward (n:NetD) (ps:List Ten) (x:Ten):List Ten × Int:=
 if fits n ps x≠0 then ([],fits n ps x) else fwd n ps (x::Zc n.nodes.length Ly.none_) (Nt.sorted n.nodes)
theorem fits_ok {n:NetD} {ps:List Ten} {x:Ten} (h:fits n ps x=0):Nt.check n=0/\ps.length=(Nt.params n).length/\parOk ps (Nt.params n) (Nt.params n).length=true/\tenIs x n.inn=true:=by
 unfold fits at h
 split at h
 ·rename_i hc;exact absurd h hc
 ·rename_i hc
  split at h
  ·simp at h
  ·rename_i hl
   split at h
   ·simp at h
   ·rename_i hp
    split at h
    ·rename_i hx;exact ⟨by omega,by omega,by simpa using hp,hx⟩
    ·simp at h
theorem go_bad {o:OpD} {p x:List Ten} (h:(Ly.go o p x).2≠0):(Ly.go o p x).1=Ly.none_:=by
 unfold Ly.go at h ⊢
 split at h
 ·rename_i hc
  rw [ipZ hc];exact Ly.lay_none (Od.right_kind (Ly.counts_ok hc).1).2 h
 ·rename_i hc;rw [inZ hc]
theorem from_le {ns:List NodeD} {k:Nat}:from_ ns k<=(ns.flatMap (·.p)).length:=by
 unfold from_;have:ns.flatMap (·.p)=(ns.take k).flatMap (·.p)++(ns.drop k).flatMap (·.p):=by rw [←Zj,Zn]
 rw [this,Ze];omega
theorem tenIs_ok {t:Ten} {s:List Int} (h:tenIs t s=true):Tn.right t=true/\t.s=s:=by
 unfold tenIs at h;rw [Zz] at h;exact ⟨h.1,by simpa using h.2⟩
end Pn
def FwdP (r:List Ten × Int) (w:Zp1) (e:Ending) (w':Zp1):Prop:=
 (r.2≠0/\e=.returned (.tuple #[.slice none 0 0,.int .i64 r.2])∨r.2=0/\∃G,e=.returned (.tuple #[.slice (some ⟨G,0,none⟩) r.1.length r.1.length,.int .i64 0])/\TnsO w.heap.size w' (some ⟨G,0,none⟩) r.1)/\Below w.heap.size w w'
theorem FwdP.fail {n:Int} {r:List Ten × Int} {w w':Zp1} (hr:r.2=n) (hn:n≠0) (hb:Below w.heap.size w w'):FwdP r w (.returned (.tuple #[.slice none 0 0,.int .i64 n])) w':=by
 subst hr;exact ⟨.inl ⟨hn,rfl⟩,hb⟩
set_option maxRecDepth 20000 in
theorem qb8 (A N P XS XC:Option Addr) (c d cp xc xd:Nat) (n:NetD) (ps:List Ten) (x:Ten) (w:Zp1) (hok:n.ok) (hR:NetR w A N n) (hd:n.nodes.length<=d) (hP:Tns w P ps) (lP:ps.length<=1048576) (kP:ps.length<=cp) (mP:cp<=9223372036854775807) (nP:P=none->cp=0) (hX:TenIn w XS XC xc xd x):
  Calls Tryz.prog 23 #[.agg #[.slice A n.inn.length c,.slice N n.nodes.length d],.slice P ps.length cp,.agg #[.slice XS x.s.length xc,.slice XC x.c.length xd]] w (FwdP (Pn.forward n ps x) w):=by
 have gH:=(Blk.new w 59 #[.slice A n.inn.length c,.slice N n.nodes.length d]).alloc (.cells #[.slice XS x.s.length xc,.slice XC x.c.length xd] 30);have H4:=Blk.new (w.alloc (.cells #[.slice A n.inn.length c,.slice N n.nodes.length d] 59)) 30 #[.slice XS x.s.length xc,.slice XC x.c.length xd];rw [Zh1] at H4;have gU:Later w ((w.alloc (.cells #[.slice A n.inn.length c,.slice N n.nodes.length d] 59)).alloc (.cells #[.slice XS x.s.length xc,.slice XC x.c.length xd] 30)):=((Later.refl w).alloc _).alloc _;obtain ⟨Hs,HR,HP,HX,H1,HS,Ht,Gs⟩:=zd8 hok hR hP hX gH H4 gU nP;clear hok hR hP hX gH H4 gU nP;go_enter Tryz.func23,Tryz.ntmps23;go_upto_region 1 with fail;generalize (w.alloc (.cells #[.slice A n.inn.length c,.slice N n.nodes.length d] 59)).alloc (.cells #[.slice XS x.s.length xc,.slice XC x.c.length xd] 30)=w1 at *;have a0:=H1.out.cell 0;have a1:=H1.out.cell 1;have b0:=HS.out.cell 0;have b1:=HS.out.cell 1;simp at a0 a1 b0 b1;go_wp2_with fail;refine (qfg A N P XS XC c d cp xc xd n ps x w1 Hs.out (HR.out.below Ht.out (lrZ _)) hd (HP.out.later Ht.out) lP (HX.out.later Ht.out)).mono ?_;rintro e w2 ⟨rfl,gh⟩;have hv:Later w1 w2:=gh;have HJ:=Ht.out.trans hv;have hJ:=hv.blk H1.out;have Hx:=hv.blk HS.out;clear gh a0 a1 b0 b1
 by_cases hf:Pn.fits n ps x=0
 case neg=>
  have HE:=zI (show (Pn.forward n ps x).2=Pn.fits n ps x by unfold Pn.forward;rw [ipZ hf]);have d2:(Pn.fits n ps x != 0)=true:=by simpa using hf
  have Hf:=zI hf;clear hf;generalize Pn.fits n ps x=ge at *;obtain ⟨Gt,Hy,gv,gV⟩:=zd4 hv HJ hJ Hx;clear hv HJ hJ Hx;go_wp2_with fail;refine Zk1 (v:=.tuple #[.slice none 0 0,.int .i64 ge]) (by simp [results,Tryz.results23,go_sem]) rfl ?_;exact FwdP.fail HE.out Hf.out Hy.out
 have he:Pn.forward n ps x=Pn.fwd n ps (x::Zc n.nodes.length Ly.none_) (Nt.sorted n.nodes):=by unfold Pn.forward;rw [inZ oZ]
 obtain ⟨hc,gS,-,gY⟩:=Pn.fits_ok hf;obtain ⟨n1,n5,-,hn,Hj,-,-,-⟩:=Nt.check_ok hc;obtain ⟨gp,Gi⟩:=Pn.tenIs_ok gY;obtain ⟨x4,x6⟩:=Ly.right_ok gp;have h5:=Nt.bads_all hn;rw [hf];clear hf gY Gi gp hn;have a0:=hJ.cell 0;have a1:=hJ.cell 1;simp at a0 a1;obtain ⟨Gt,Hy,gv,gV,He,HY,GE,HA⟩:=zd8 hv HJ hJ Hx he h5 gS Hj;clear hv HJ hJ Hx he h5 gS Hj;go_wp2_with fail;refine (qdO A N c d n w2 Hs.out (HR.out.below Hy.out (lrZ _)) hd).mono ?_;rintro e w3 ⟨gj,⟨-,O,oc,rfl,hO,GO,GK⟩|⟨hn,-⟩⟩
 rotate_left
 ·exact absurd hc hn
 have Hb:Later w2 w3:=gj;have HZ:=Hy.out.trans Hb;have gc:=Hb.blk gv.out;have gJ:=Hb.blk gV.out;clear gj a0 a1 hc;have a1:=gc.cell 1;simp at a1;have q1:IntKind.i64.wrap ((n.nodes.length:Int)+1)=(n.nodes.length:Int)+1:=Zc1 _ oZ;have gy:=HZ.size;obtain ⟨GS,Hv,Ha,Gz,HO⟩:=zd5 Hb HZ gc gJ hO;clear Hb HZ gc gJ hO;obtain ⟨i0,hi,g8,gQ,gr⟩:=info_parts qb2;go_wp2_with (at_make;refine wpList_make_full _ rfl _ _ 27 rfl w.heap.size 30 i0 (.agg #[.slice none 0 0,.slice none 0 0]) 2 Tryz.underlying27 hi g8 gQ _ _ _ _ (n.nodes.length+1) rfl rfl (by first|rfl|simp) (by first|rfl|simp) ?b2 ?b3 gy ?_)
 case b2=>rw [gr];omega
 case b3=>unfold maxLen;omega
 intro w4 hown hgrow;clear hi g8 gQ gr
 have Hc:Blk w4 w3.heap.size 30 (Zc ((n.nodes.length+1)*2) (Zb1 none 0 0)).toArray:=by
  have h:=qc8 hown;rw [qb3] at h;exact h
 have hT:Later w3 w4:=(Ze1 _ w3).grown hgrow (lrZ _) sZ;clear hown hgrow a1;have gk:=Hv.out.trans hT;have gX:=hT.blk Ha.out;have HK:=hT.blk Gz.out;have b0:=HK.cell 0;have b1:=HK.cell 1;simp at b0 b1;obtain ⟨hz,gl,gb,GV,GP⟩:=zd5 Hc hT gk gX HK;clear Hc hT gk gX HK;go_wp2_with fail;refine (qa9 XS XC xc xd x w4 oZ oZ (HX.out.later gb.out).r).mono ?_;rintro e w5 ⟨v,rfl,hN,hC⟩;have H0:Later w4 w5:=hC;have HB:=hN.o (B:=w4.heap.size) oZ oZ HX.out.num;obtain ⟨gx,hx,rfl,-,-,-,-⟩:=hN;have hb:=H0.blk hz.out;have r0:=hb.cell 0;have r1:=hb.cell 1;have f0:=hb.frozen 0;have f1:=hb.frozen 1;have e0:w5.cell? ⟨w3.heap.size,0,none⟩=some (.slice none 0 0):=by rw [r0,Zk,List.getElem?_replicate,ipZ oZ]
 have e1:w5.cell? ⟨w3.heap.size,1,none⟩=some (.slice none 0 0):=by rw [r1,Zk,List.getElem?_replicate,ipZ oZ]
 have HN:w.heap.size<=w4.heap.size:=gb.out.size;have Gm:w3.heap.size<w4.heap.size:=hz.out.lt;have hZ:TenO w.heap.size w5 (.agg #[.slice (some ⟨gx,0,none⟩) x.s.length x.s.length,.slice (some ⟨hx,0,none⟩) x.c.length x.c.length]) x:=HB.base HN
 have GB:gx≠w3.heap.size:=by
  obtain ⟨S',c',C',d',e,-,h1,-⟩:=HB;simp at e;have:=h1 _ e.1.1.symm;simp at this;omega
 have GG:hx≠w3.heap.size:=by
  obtain ⟨S',c',C',d',e,-,-,h1⟩:=HB;simp at e;have:=(h1 _ e.2.1.symm).1;simp at this;omega
 clear hC r0 r1 b0 b1 HB;have hs:=(hb.set_ 0 (.slice (some ⟨gx,0,none⟩) x.s.length x.s.length)).set_ 1 (.slice (some ⟨hx,0,none⟩) x.c.length x.c.length);obtain ⟨gI,Ho,hW,ho⟩:=zd4 H0 hb hZ hs;clear H0 hb hZ hs;go_wp2_with fail;have GC:(w5.setCell ⟨w3.heap.size,0,none⟩ (.slice (some ⟨gx,0,none⟩) x.s.length x.s.length)).setCell ⟨w3.heap.size,1,none⟩ (.slice (some ⟨hx,0,none⟩) x.c.length x.c.length)=(w5.setCell ⟨w3.heap.size,0,none⟩ (.slice (some ⟨gx,0,none⟩) x.s.length x.s.length)).setCell ⟨w3.heap.size,1,none⟩ (.slice (some ⟨hx,0,none⟩) x.c.length x.c.length):=rfl
 have h0:TenO w.heap.size ((w5.setCell ⟨w3.heap.size,0,none⟩ (.slice (some ⟨gx,0,none⟩) x.s.length x.s.length)).setCell ⟨w3.heap.size,1,none⟩ (.slice (some ⟨hx,0,none⟩) x.c.length x.c.length)) (.agg #[.slice (some ⟨gx,0,none⟩) x.s.length x.s.length,.slice (some ⟨hx,0,none⟩) x.c.length x.c.length]) x:=by
  refine TenO.far2 hW.out (λa e=>?_) (λa e=>?_)
  ·injection e with e;subst e;exact GB
  ·injection e with e;subst e;exact GG
 have gO:Later w3 ((w5.setCell ⟨w3.heap.size,0,none⟩ (.slice (some ⟨gx,0,none⟩) x.s.length x.s.length)).setCell ⟨w3.heap.size,1,none⟩ (.slice (some ⟨hx,0,none⟩) x.c.length x.c.length)):=((gl.out.trans gI.out).set (p:=⟨w3.heap.size,0,none⟩) (lrZ _) _).set (p:=⟨w3.heap.size,1,none⟩) (lrZ _) _
 have gF:RowO w.heap.size ((w5.setCell ⟨w3.heap.size,0,none⟩ (.slice (some ⟨gx,0,none⟩) x.s.length x.s.length)).setCell ⟨w3.heap.size,1,none⟩ (.slice (some ⟨hx,0,none⟩) x.c.length x.c.length)) (((Zc ((n.nodes.length+1)*2) (Zb1 none 0 0)).set (0*2) (.slice (some ⟨gx,0,none⟩) x.s.length x.s.length)).set (0*2+1) (.slice (some ⟨hx,0,none⟩) x.c.length x.c.length)) (x::Zc n.nodes.length Ly.none_):=by
  have:=(RowO.zeros w.heap.size ((w5.setCell ⟨w3.heap.size,0,none⟩ (.slice (some ⟨gx,0,none⟩) x.s.length x.s.length)).setCell ⟨w3.heap.size,1,none⟩ (.slice (some ⟨hx,0,none⟩) x.c.length x.c.length)) (n.nodes.length+1)).set (k:=0) sZ h0
  rwa [List.replicate_succ,List.set_cons_zero] at this
 have hY:Blk ((w5.setCell ⟨w3.heap.size,0,none⟩ (.slice (some ⟨gx,0,none⟩) x.s.length x.s.length)).setCell ⟨w3.heap.size,1,none⟩ (.slice (some ⟨hx,0,none⟩) x.c.length x.c.length)) w3.heap.size 30 (((Zc ((n.nodes.length+1)*2) (Zb1 none 0 0)).set (0*2) (.slice (some ⟨gx,0,none⟩) x.s.length x.s.length)).set (0*2+1) (.slice (some ⟨hx,0,none⟩) x.c.length x.c.length)).toArray:=by
  have:=ho.out;rw [List.setIfInBounds_toArray,List.setIfInBounds_toArray] at this;exact this
 clear GC ho Ho hW h0 gI gl gb hz;obtain ⟨gD,gR,gu⟩:=zd3 gF hY gO;clear gF hY gO;generalize (w5.setCell ⟨w3.heap.size,0,none⟩ (.slice (some ⟨gx,0,none⟩) x.s.length x.s.length)).setCell ⟨w3.heap.size,1,none⟩ (.slice (some ⟨hx,0,none⟩) x.c.length x.c.length)=w6 at *
 go_loopw [45] (λi wx=>∃(k:Nat) (vs:List Value) (vals:List Ten),k<=n.nodes.length/\i=.int .i64 (k:Int)/\Blk wx w3.heap.size 30 vs.toArray/\RowO w.heap.size wx vs vals/\vals.length=n.nodes.length+1/\Later w3 wx/\Pn.forward n ps x=Pn.fwd n ps vals ((Nt.sorted n.nodes).drop k)) (λi _=>n.nodes.length-(intOf i).toNat)
 case atStart=>exact ⟨0,_,_,Zt _,rfl,gR.out,gD.out,by simp,gu.out,He.out⟩
 case round=>
  obtain ⟨k,vs,vals,hk,rfl,hG,HC,hw,hm,hD⟩:=hrel;clear gR gD gu
  by_cases Ga:k<n.nodes.length
  ·have Hu:k<(Nt.sorted n.nodes).length:=by rw [HA.out];exact Ga
   obtain ⟨bo,oo,rfl,-,gg⟩:=(HO.out.below hm (lrZ _)) k Hu;have h8:=Kn.order_rng (Nt.insF n.nodes) n.nodes.length _ (gmZ Hu);have gL:(Nt.sorted n.nodes).getD k 0=(Nt.sorted n.nodes)[k]:=by rw [gdZ,geZ Hu];rfl
   rw [gL] at gg;rw [Zd Hu] at hD;have hq:1<=(Nt.sorted n.nodes)[k]/\(Nt.sorted n.nodes)[k]<=n.nodes.length:=h8;clear h8 gL;obtain ⟨j,hj⟩:∃j:Nat,(Nt.sorted n.nodes)[k]=(j:Int)+1:=⟨((Nt.sorted n.nodes)[k]-1).toNat,by omega⟩
   rw [hj] at gg hD hq;have Hl:j<n.nodes.length:=by omega
   clear hj;obtain ⟨b,off,S,sc,J,ic,Q,qc,rfl,H2,GW,GM,Gf⟩:=HR.out.2.at_ Hl;have gt:=Nt.node_at Hl;have hU:=Hs.out.2.2 _ (gmZ Hl);have Hp:=(HY.out _ (gmZ Hl)).2;have gB:=Pn.from_succ Hl;have Hd:Pn.from_ n.nodes (j+1)<=ps.length:=by rw [GE.out];exact Pn.from_le
   have g6:Pn.step n ps vals ((j:Int)+1)=Ly.go n.nodes[j].op ((ps.drop (Pn.from_ n.nodes j)).take n.nodes[j].p.length) (Pn.pickT vals n.nodes[j].ins):=by
    unfold Pn.step Pn.parts;rw [gt,show ((j:Int)+1).toNat-1=j by omega]
   have gf:Pn.part n ((j:Int)+1)=((Pn.from_ n.nodes j:Int),(Pn.from_ n.nodes (j+1):Int)):=by
    unfold Pn.part;rw [inZ oZ,show ((j:Int)+1).toNat=j+1 by omega]
    rfl
   rw [gB] at gf Hd;clear gB gt;generalize n.nodes[j]=v at *;generalize Pn.from_ n.nodes j=fr at *;have HL:=Hv.out.trans hm;have Gr:=H2.below HL;obtain ⟨⟨y0,y1,y2,y3,y4,y5,y6,y7,y8,y9⟩,gC,g7,gG⟩:=Gr;have a0:=(hm.blk Ha.out).cell 0;have a1:=(hm.blk Ha.out).cell 1;simp at a0 a1;have g1:(k:Int)<(n.nodes.length:Int):=by omega
   have g2:(j:Int)<(n.nodes.length:Int):=by omega
   have g3:IntKind.i64.wrap ((j:Int)+1-1)=(j:Int):=by rw [show (j:Int)+1-1=(j:Int) by omega];exact Zc1 _ oZ
   have g4:(j:Int)+1-1=(j:Int):=by omega
   have g5:IntKind.i64.wrap (j:Int)=(j:Int):=Zc1 _ oZ;have gM:=hm.alloc (.cells #[.int .i64 v.op.kind,.int .i64 v.op.k,.int .i64 v.op.width,.int .i64 v.op.step,.int .i64 v.op.side,.int .i64 v.op.frm,.int .i64 v.op.to,.slice S v.op.s.length sc,.slice J v.ins.length ic,.slice Q v.p.length qc] 127);have h6:=(Later.refl wr).alloc (.cells #[.int .i64 v.op.kind,.int .i64 v.op.k,.int .i64 v.op.width,.int .i64 v.op.step,.int .i64 v.op.side,.int .i64 v.op.frm,.int .i64 v.op.to,.slice S v.op.s.length sc,.slice J v.ins.length ic,.slice Q v.p.length qc] 127);have gP:=Blk.new wr 127 #[.int .i64 v.op.kind,.int .i64 v.op.k,.int .i64 v.op.width,.int .i64 v.op.step,.int .i64 v.op.side,.int .i64 v.op.frm,.int .i64 v.op.to,.slice S v.op.s.length sc,.slice J v.ins.length ic,.slice Q v.p.length qc];have gN:=hG.alloc (.cells #[.int .i64 v.op.kind,.int .i64 v.op.k,.int .i64 v.op.width,.int .i64 v.op.step,.int .i64 v.op.side,.int .i64 v.op.frm,.int .i64 v.op.to,.slice S v.op.s.length sc,.slice J v.ins.length ic,.slice Q v.p.length qc] 127);obtain ⟨HG,hF,hE,g9,Gg,GJ,gd,H6,Gy⟩:=zd9 hG HC hw hm hD H2 hU Hp g6;obtain ⟨Go,gq,GD,Gn,GQ,HU,Gx,GU,H5⟩:=zd9 gf HL gC g7 gG gM gP gN h6;clear hG HC hw hm hD H2 hU Hp g6 gf HL gC g7 gG gM gP gN h6;clear hq;go_upto_region 13 with fail;generalize hwb:wr.alloc (.cells #[.int .i64 v.op.kind,.int .i64 v.op.k,.int .i64 v.op.width,.int .i64 v.op.step,.int .i64 v.op.side,.int .i64 v.op.frm,.int .i64 v.op.to,.slice S v.op.s.length sc,.slice J v.ins.length ic,.slice Q v.p.length qc] 127)=wb at *;have a0b:=(HU.out.blk Ha.out).cell 0;have a1b:=(HU.out.blk Ha.out).cell 1;simp at a0b a1b;have gK:=HR.out.below (Hv.out.trans HU.out) (lrZ _);clear hwb a0 a1 y0 y1 y2 y3 y4 y5 y6 y7 y8 y9 g1 g3 g4 g5 gg;have Gd:=zI gK;clear gK;go_wp2_with fail;refine (qd7 A (some ⟨b,off,none⟩) c d n ((j:Int)+1) wb Hs.out Gd.out hd oZ oZ).mono ?_;rintro e wp ⟨rfl,gE⟩
   rw [Go.out];have HH:Later wb wp:=gE;have H3:Later wr wb:=H5.out;have hB:=H3.trans HH;have HT:=gq.out.trans hB;have ha:=HH.blk Gx.out;have H8:=hB.blk HG.out;have gn:=hF.out.rowT.tnsB hB H8;have hw:=hE.out
   have h9:∀i∈v.ins,0<=i/\i<vals.length:=λi hi=>by
    have:=H6.out i hi;rw [hw];omega
   obtain ⟨vo1,vo2,vo3,vo4,-,-⟩:=gd.out;have hh:=λ(W:Zp1) (h:Later wp W)=>qd8 (some ⟨w3.heap.size,0,none⟩) J (n.nodes.length+1) ic vals v.ins W (gn.later h) oZ (Gn.out.below (hB.trans h) (lrZ _)) vo3 h9
   rw [hw] at hh;have hu:((ps.drop fr).take v.p.length).length=v.p.length:=by simp;omega
   have HI:(Pn.pickT vals v.ins).length=v.ins.length:=by simp [Pn.pickT]
   have HW:=λ(W:Zp1) (h:Later wp W) (PP K:Option Addr) (pc:Nat) (hPP:Tns W PP ((ps.drop fr).take v.p.length)) (hK:Tns W K (Pn.pickT vals v.ins))=>qad (op_go v.op S PP K sc pc (Pn.pickT vals v.ins).length ((ps.drop fr).take v.p.length) (Pn.pickT vals v.ins) W vo2 (GD.out.below (hB.trans h) (lrZ _)) (vo1 _ sZ) hPP hK (by rw [HI];exact vo3) (lrZ _) (by rw [HI];omega)) Pn.go_bad
   rw [←Gy.out,hu] at HW;have x0:=ha.cell 0;have x1:=ha.cell 1;have x2:=ha.cell 2;have x3:=ha.cell 3;have x4:=ha.cell 4;have x5:=ha.cell 5;have x6:=ha.cell 6;have x7:=ha.cell 7;have x8:=ha.cell 8;simp at x0 x1 x2 x3 x4 x5 x6 x7 x8
   have hQ:Pn.forward n ps x=if (Pn.step n ps vals ((j:Int)+1)).2=0 then Pn.fwd n ps (vals.set (j+1) (Pn.step n ps vals ((j:Int)+1)).1) ((Nt.sorted n.nodes).drop (k+1)) else ([],(Pn.step n ps vals ((j:Int)+1)).2):=by
    have:=Gg.out;rw [Pn.fwd,show ((j:Int)+1).toNat=j+1 by omega] at this;exact this
   generalize Pn.step n ps vals ((j:Int)+1)=R at *;have Gl:=HT.size;clear gE h9 gn a0b a1b;have u1:(fr:Int)<=(fr:Int)+(v.p.length:Int):=by omega
   have u2:(fr:Int)+(v.p.length:Int)<=(cp:Int):=by omega
   have u6:((fr:Int)+(v.p.length:Int)).toNat-fr=v.p.length:=by omega
   have GR:wr.heap.size<wp.heap.size:=ha.lt;obtain ⟨gW,Gq,GL,Gh,GF,hp,Gb,GI,GN⟩:=zd9 ha H8 H3 hB HT hh HW hu HI;obtain ⟨GX,h7⟩:=zd2 HH hQ;clear ha H8 H3 hB HT hh HW hu HI HH hQ;go_upto_region 14 with fail
   go_cut [17,18] (FwCut wp w.heap.size R)
   case first=>
    obtain ⟨PP,hPP⟩:∃PP,(if cp=fr then P else P.map λa=>a.add (fr*2))=PP:=⟨_,rfl⟩
    have gw:∀W,Tns W P ps->Tns W PP ((ps.drop fr).take v.p.length):=λW h=>by
     have:=qd6 (fr:=fr) (tl:=fr+v.p.length) h kP Gs.out oZ Hd;rw [hPP,Nat.add_sub_cancel_left] at this;exact this
    have Hj:∀(ρ:Operand->Value) (W:Zp1) (o:Oper) (x lo hi:Operand),o.op=.slice 27 x (some lo) (some hi) none->ρ x=.slice P ps.length cp->ρ lo=.int .i64 (fr:Int)->ρ hi=.int .i64 ((fr:Int)+(v.p.length:Int))->(execOp ρ o).run Tryz.prog W=.ok (.value (.slice PP v.p.length (cp-fr))) W:=λρ W o x lo hi h1 h2 h3 h4=>by
     rw [←hPP];exact qaV h1 Tryz.underlying27 krZ h2 h3 h4 oZ
    have gi:=λ(W:Zp1) (h:Later wp W) (V:Zp1) (Kp:Nat) (hK:Tns V (some ⟨Kp,0,none⟩) (Pn.pickT vals v.ins)) (hV:Later V W) (pc:Nat)=>Gb.out W h PP (some ⟨Kp,0,none⟩) pc (gw W (HP.out.later (GF.out.trans h))) (hK.later hV)
    clear hPP gw;obtain ⟨HM,HA⟩:=zd2 gi Hj;clear gi Hj;go_wp2_with fail;have KF:=zI (show ∀Xw,Later wp Xw->Xw.cell? ⟨wr.heap.size,0,none⟩=some (.int .i64 v.op.kind)/\Xw.cell? ⟨wr.heap.size,1,none⟩=some (.int .i64 v.op.k)/\Xw.cell? ⟨wr.heap.size,2,none⟩=some (.int .i64 v.op.width)/\Xw.cell? ⟨wr.heap.size,3,none⟩=some (.int .i64 v.op.step)/\Xw.cell? ⟨wr.heap.size,4,none⟩=some (.int .i64 v.op.side)/\Xw.cell? ⟨wr.heap.size,5,none⟩=some (.int .i64 v.op.frm)/\Xw.cell? ⟨wr.heap.size,6,none⟩=some (.int .i64 v.op.to)/\Xw.cell? ⟨wr.heap.size,7,none⟩=some (.slice S v.op.s.length sc)/\Xw.cell? ⟨wr.heap.size,8,none⟩=some (.slice J v.ins.length ic) from λXw h=>⟨h.cell x0,h.cell x1,h.cell x2,h.cell x3,h.cell x4,h.cell x5,h.cell x6,h.cell x7,h.cell x8⟩);refine Zm1 ?_;refine Zl1 (S:=λXw=>Xw.cell? ⟨wr.heap.size,0,none⟩=some (.int .i64 v.op.kind)/\Xw.cell? ⟨wr.heap.size,1,none⟩=some (.int .i64 v.op.k)/\Xw.cell? ⟨wr.heap.size,2,none⟩=some (.int .i64 v.op.width)/\Xw.cell? ⟨wr.heap.size,3,none⟩=some (.int .i64 v.op.step)/\Xw.cell? ⟨wr.heap.size,4,none⟩=some (.int .i64 v.op.side)/\Xw.cell? ⟨wr.heap.size,5,none⟩=some (.int .i64 v.op.frm)/\Xw.cell? ⟨wr.heap.size,6,none⟩=some (.int .i64 v.op.to)/\Xw.cell? ⟨wr.heap.size,7,none⟩=some (.slice S v.op.s.length sc)/\Xw.cell? ⟨wr.heap.size,8,none⟩=some (.slice J v.ins.length ic)) krZ (KF.out _ Lau) (λhHeld=>?_);refine tk 0 ?_;refine tk 1 ?_;refine tk 2 ?_;refine tk 3 ?_;refine tk 4 ?_;refine tk 5 ?_ (hy:=λW _=>HA.out _ _ _ _ _ _ rfl rfl rfl rfl)
    try simp only [ga,gs,gz,Act.put,sa,sz,ss]
    refine tk 6 ?_;refine tk 7 ?_;refine tk 8 ?_;refine Zo1 (rs:=[9,14]) krZ sZ ?_;refine Zf1 (o:=_) rfl (λK hK=>?_) (Zf1 (o:=_) rfl (λK hK=>?_) (Zg1))
    ·simp only [ga,gs,gz]
     go_simp
     go_at_call 73;(with_reducible refine (hp.out _ (Lau:Later wp _)).mono ?_);rintro e wk ⟨Kp,rfl,-,Hn,hY⟩
     have HF:=zI Hn;clear Hn;have hL:Later wp wk:=(Lau:Later wp wk)
     have Hz:=zI hL;clear hL
     try go_wp2_with fail
     refine hK.out _ _ (KF.out _ Lau) (λhHeld=>?_);clear hK K
     try simp only [ga,gs,gz,Act.put,sa,sz,ss]
     refine Zo1 (rs:=[10,14]) krZ sZ ?_;refine Zf1 (o:=_) rfl (λK hK=>?_) (Zf1 (o:=_) rfl (λK hK=>?_) (Zg1))
     ·simp only [ga,gs,gz]
      go_simp
      go_at_call 42;(with_reducible refine (HM.out _ (Lau:Later wp _) wk Kp HF.out (Lau:Later wk _) _).mono ?_);rintro e wg ⟨S3,c3,C3,d3,rfl,Hh,ht,Hw⟩
      have Hm:=zI ht;clear ht Hh;have gT:=Hz.out.size
      try go_wp2_with fail
      refine hK.out _ _ (KF.out _ Lau) (λhHeld=>?_);clear hK K
      try simp only [ga,gs,gz,Act.put,sa,sz,ss]
      refine tk 11 ?_;refine tk 12 ?_;refine tk 13 ?_;refine rd 14 λK hK=>?_
      simp only [ga,gs,gz]
      go_simp
      refine hK.out _ _ (KF.out _ Lau) (λhHeld=>?_);clear hK K
      try simp only [ga,gs,gz,Act.put,sa,sz,ss]
      refine rd 15 λK hK=>?_
      simp only [ga,gs,gz]
      go_simp
      refine hK.out _ _ ?_ (λhHeld=>?_)
      ·(try dsimp only);(refine ⟨?_,?_,?_,?_,?_,?_,?_,?_,?_⟩<;>(repeat (refine qa0 ?_ (by first|omega|(simp;done)|(simp;omega))))<;>(refine Later.cell (Lau:Later wp _) ?_)<;>assumption)
      clear hK K
      try simp only [ga,gs,gz,Act.put,sa,sz,ss]
      refine tk 16 ?_;clear KF;refine Zn1 krZ ?_ _;refine Zd1 ?_;go_wp2_with fail;have Hq:Later wp wg:=(Lau:Later wp wg)
      go_meet
      exact ⟨S3,c3,C3,d3,wg.heap.size,rfl,rfl,Blk.new wg _ _,λh=>((Hm.out h).base oZ).later ((Later.refl wg).alloc _),Hq.alloc _⟩
     ·simp only [ga,gs,gz]
      go_simp
      refine hK.out _ _ (KF.out _ Lau) (λhHeld=>?_);clear hK K
      try simp only [ga,gs,gz,Act.put,sa,sz,ss]
      refine rd 10 λK hK=>?_
      simp only [ga,gs,gz]
      go_simp
      go_at_call 42;(with_reducible refine (HM.out _ (Lau:Later wp _) wk Kp HF.out (Lau:Later wk _) _).mono ?_);rintro e wg ⟨S3,c3,C3,d3,rfl,Hh,ht,Hw⟩
      have Hm:=zI ht;clear ht Hh;have gT:=Hz.out.size;have hg:=(show Later (wk.alloc (.cells #[.slice none 0 0,.slice none 0 0] 30)) wg from Hw).blk (Blk.new wk _ _);have b0':=hg.cell 0;have b1':=hg.cell 1;have bf0:=hg.frozen 0;have bf1:=hg.frozen 1;simp at b0' b1';have Hg:=zI hg;clear hg
      try go_wp2_with fail
      refine hK.out _ _ (KF.out _ Lau) (λhHeld=>?_);clear hK K
      try simp only [ga,gs,gz,Act.put,sa,sz,ss]
      refine tk 11 ?_;refine tk 12 ?_;refine tk 13 ?_;refine rd 15 λK hK=>?_
      simp only [ga,gs,gz]
      go_simp
      refine hK.out _ _ ?_ (λhHeld=>?_)
      ·(try dsimp only);(refine ⟨?_,?_,?_,?_,?_,?_,?_,?_,?_⟩<;>(repeat (refine qa0 ?_ (by first|omega|(simp;done)|(simp;omega))))<;>(refine Later.cell (Lau:Later wp _) ?_)<;>assumption)
      clear hK K
      try simp only [ga,gs,gz,Act.put,sa,sz,ss]
      refine tk 16 ?_;clear KF;refine Zn1 krZ ?_ _;refine Zd1 ?_;go_wp2_with fail;have Hq:Later wp wg:=(Lau:Later wp wg)
      have hC:=(Hg.out.set_ 0 (.slice S3 R.1.s.length c3)).set_ 1 (.slice C3 R.1.c.length d3)
      go_meet
      exact ⟨S3,c3,C3,d3,wk.heap.size,rfl,rfl,(by simpa using hC),λh=>((Hm.out h).base (by first|omega|(simp;omega))).box Hg.out,(Hq.set (p:=⟨wk.heap.size,0,none⟩) (by first|omega|(simp;done)|(simp;omega)) _).set (p:=⟨wk.heap.size,1,none⟩) (by first|omega|(simp;done)|(simp;omega)) _⟩
    ·simp only [ga,gs,gz]
     go_simp
     refine hK.out _ _ (KF.out _ Lau) (λhHeld=>?_);clear hK K
     try simp only [ga,gs,gz,Act.put,sa,sz,ss]
     refine rd 9 λK hK=>?_
     simp only [ga,gs,gz]
     go_simp
     go_at_call 73;(with_reducible refine (hp.out _ (Lau:Later wp _)).mono ?_);rintro e wk ⟨Kp,rfl,-,Hn,hY⟩
     have HF:=zI Hn;clear Hn;have hL:Later wp wk:=(Lau:Later wp wk)
     have Hz:=zI hL;clear hL
     try go_wp2_with fail
     refine hK.out _ _ (KF.out _ Lau) (λhHeld=>?_);clear hK K
     try simp only [ga,gs,gz,Act.put,sa,sz,ss]
     refine rd 10 λK hK=>?_
     simp only [ga,gs,gz]
     go_simp
     go_at_call 42;(with_reducible refine (HM.out _ (Lau:Later wp _) wk Kp HF.out (Lau:Later wk _) _).mono ?_);rintro e wg ⟨S3,c3,C3,d3,rfl,Hh,ht,Hw⟩
     have Hm:=zI ht;clear ht Hh;have gT:=Hz.out.size;have hg:=(show Later wk wg from Hw).blk ((show Later _ wk from hY).blk ((Blk.new wp 30 #[.slice none 0 0,.slice none 0 0]).drew));have b0':=hg.cell 0;have b1':=hg.cell 1;have bf0:=hg.frozen 0;have bf1:=hg.frozen 1;simp at b0' b1';have Hg:=zI hg;clear hg
     try go_wp2_with fail
     refine hK.out _ _ (KF.out _ Lau) (λhHeld=>?_);clear hK K
     try simp only [ga,gs,gz,Act.put,sa,sz,ss]
     refine tk 11 ?_;refine tk 12 ?_;refine tk 13 ?_;refine rd 15 λK hK=>?_
     simp only [ga,gs,gz]
     go_simp
     refine hK.out _ _ ?_ (λhHeld=>?_)
     ·(try dsimp only);(refine ⟨?_,?_,?_,?_,?_,?_,?_,?_,?_⟩<;>(repeat (refine qa0 ?_ (by first|omega|(simp;done)|(simp;omega))))<;>(refine Later.cell (Lau:Later wp _) ?_)<;>assumption)
     clear hK K
     try simp only [ga,gs,gz,Act.put,sa,sz,ss]
     refine tk 16 ?_;clear KF;refine Zn1 krZ ?_ _;refine Zd1 ?_;go_wp2_with fail;have Hq:Later wp wg:=(Lau:Later wp wg)
     have hC:=(Hg.out.set_ 0 (.slice S3 R.1.s.length c3)).set_ 1 (.slice C3 R.1.c.length d3)
     go_meet
     exact ⟨S3,c3,C3,d3,wp.heap.size,rfl,rfl,(by simpa using hC),λh=>((Hm.out h).base (by first|omega|(simp;omega))).box Hg.out,(Hq.set (p:=⟨wp.heap.size,0,none⟩) (by first|omega|(simp;done)|(simp;omega)) _).set (p:=⟨wp.heap.size,1,none⟩) (by first|omega|(simp;done)|(simp;omega)) _⟩
   case rest=>
    obtain ⟨S3,c3,C3,d3,tb,rfl,rfl,hI,hM,hH⟩:=hcut;have hA:=Gh.out.trans hH;have HD:=gq.out.trans hA;have hl:=hH.blk Gq.out;have l0:=hI.cell 0;have l1:=hI.cell 1;simp at l0 l1
    by_cases hr:R.2=0
    case neg=>
     have HE:=zI (show (Pn.forward n ps x).2=R.2 by rw [h7.out,inZ hr]);have d2:(R.2 != 0)=true:=by simpa using hr
     have Hr:=zI hr;clear hr;generalize R.2=ge at *;obtain ⟨Ge,gZ,Gk,Gw,Gp,Gv⟩:=zd6 hA HD hl hI hM hH;clear hA HD hl hI hM hH;go_wp2_with fail;refine Zk1 (v:=.tuple #[.slice none 0 0,.int .i64 ge]) (by simp [results,Tryz.results23,go_sem]) rfl ?_;exact FwdP.fail HE.out Hr.out gZ.out
    have hS:=h7.out.trans (ipZ hr);have HQ:=(hF.out.later hA).set (k:=j+1) (by rw [hE.out];omega) (hM hr);have Hi:vs.length=(n.nodes.length+1)*2:=by rw [hF.out.1,hE.out]
    obtain ⟨p0,e0⟩:∃u,wc.cell? ⟨w3.heap.size,(j+1)*2,none⟩=some u:=by rw [hl.cell];exact ⟨_,by rw [Zk,geZ oZ]⟩
    obtain ⟨p1,e1⟩:∃u,wc.cell? ⟨w3.heap.size,(j+1)*2+1,none⟩=some u:=by rw [hl.cell];exact ⟨_,by rw [Zk,geZ oZ]⟩
    have f0:=hl.frozen ((j+1)*2);have f1:=hl.frozen ((j+1)*2+1);rw [hr];have g2':(j:Int)+1<(n.nodes.length:Int)+1:=by omega
    clear hr;have Hk:=HQ.off (i:=(j+1)*2) (k:=(j+1)*2+1) hl hF.out.rowT.cell (.slice S3 R.1.s.length c3) (.slice C3 R.1.c.length d3);have H9:=(hl.set_ ((j+1)*2) (.slice S3 R.1.s.length c3)).set_ ((j+1)*2+1) (.slice C3 R.1.c.length d3);rw [List.setIfInBounds_toArray,List.setIfInBounds_toArray] at H9;have g0:=((g9.out.trans hA).set (p:=⟨w3.heap.size,(j+1)*2,none⟩) (lrZ _) (.slice S3 R.1.s.length c3)).set (p:=⟨w3.heap.size,(j+1)*2+1,none⟩) (lrZ _) (.slice C3 R.1.c.length d3);obtain ⟨Ge,gZ,Gk,Gw,Gp,Gv,H7,GT,Gu⟩:=zd9 hA HD hl hI hM hH hS HQ Hi;obtain ⟨HV,Gc,GA⟩:=zd3 Hk H9 g0;clear hA HD hl hI hM hH hS HQ Hi Hk H9 g0;go_wp2_with fail;go_roundw
    case rel=>exact ⟨k+1,_,_,by omega,by go_num,Gc.out,HV.out,by rw [List.length_set];exact hE.out,GA.out,H7.out⟩
    case measure=>simp [intOf];omega
  ·obtain rfl:k=n.nodes.length:=by omega
   have gm:Pn.forward n ps x=(vals,0):=by rw [hD,List.drop_eq_nil_of_le (by rw [HA.out];exact lrZ _),Pn.fwd]
   have gA:=Hv.out.trans hm;obtain ⟨HG,hF,hE,g9,Gj,GH⟩:=zd6 hG HC hw hm gm gA;clear hG HC hw hm gm gA;clear hD;go_wp2_with fail;refine Zk1 (v:=.tuple #[.slice (some ⟨w3.heap.size,0,none⟩) (n.nodes.length+1) (n.nodes.length+1),.int .i64 0]) (by simp [results,Tryz.results23,go_sem]) rfl ?_;rw [Gj.out];exact ⟨.inr ⟨rfl,w3.heap.size,by rw [hE.out],hF.out.tnsO HG.out gy⟩,GH.out⟩
set_option maxRecDepth 20000 in
theorem run_bad (A N P XS XC:Option Addr) (c d cp xc xd:Nat) (n:NetD) (ps:List Ten) (x:Ten) (w:Zp1) (hok:n.ok) (hR:NetR w A N n) (hd:n.nodes.length<=d) (hP:Tns w P ps) (lP:ps.length<=1048576) (kP:ps.length<=cp) (mP:cp<=9223372036854775807) (nP:P=none->cp=0) (hX:TenIn w XS XC xc xd x) (hne:(Pn.forward n ps x).2≠0):
  Calls Tryz.prog 24 #[.agg #[.slice A n.inn.length c,.slice N n.nodes.length d],.slice P ps.length cp,.agg #[.slice XS x.s.length xc,.slice XC x.c.length xd]] w λe w'=>e=.returned (.tuple #[.agg #[.int .i64 0,.slice none 0 0,.slice none 0 0,.slice none 0 0],.int .i64 (Pn.forward n ps x).2])/\Below w.heap.size w w':=by
 have hl:=((Blk.new w 59 #[.slice A n.inn.length c,.slice N n.nodes.length d]).alloc (.cells #[.slice XS x.s.length xc,.slice XC x.c.length xd] 30)).alloc (.cells #[.int .i64 0,.slice none 0 0,.slice none 0 0,.slice none 0 0] 66);have hf:=(Blk.new (w.alloc (.cells #[.slice A n.inn.length c,.slice N n.nodes.length d] 59)) 30 #[.slice XS x.s.length xc,.slice XC x.c.length xd]).alloc (.cells #[.int .i64 0,.slice none 0 0,.slice none 0 0,.slice none 0 0] 66);have hz:=Blk.new ((w.alloc (.cells #[.slice A n.inn.length c,.slice N n.nodes.length d] 59)).alloc (.cells #[.slice XS x.s.length xc,.slice XC x.c.length xd] 30)) 66 #[.int .i64 0,.slice none 0 0,.slice none 0 0,.slice none 0 0];simp only [Zh1] at hf hz;have hj:Later w (((w.alloc (.cells #[.slice A n.inn.length c,.slice N n.nodes.length d] 59)).alloc (.cells #[.slice XS x.s.length xc,.slice XC x.c.length xd] 30)).alloc (.cells #[.int .i64 0,.slice none 0 0,.slice none 0 0,.slice none 0 0] 66)):=(((Later.refl w).alloc _).alloc _).alloc _;obtain ⟨hs,HR,HP,HX,hm,hn,Hz,he,hp⟩:=zd9 hok hR hP hX hl hf hz hj nP;clear hok hR hP hX hl hf hz hj nP;go_enter Tryz.func24,Tryz.ntmps24;go_upto_region 1 with fail;generalize ((w.alloc (.cells #[.slice A n.inn.length c,.slice N n.nodes.length d] 59)).alloc (.cells #[.slice XS x.s.length xc,.slice XC x.c.length xd] 30)).alloc (.cells #[.int .i64 0,.slice none 0 0,.slice none 0 0,.slice none 0 0] 66)=w1 at *;have a0:=hm.out.cell 0;have a1:=hm.out.cell 1;have b0:=hn.out.cell 0;have b1:=hn.out.cell 1;simp at a0 a1 b0 b1;have hh:=qb8 A N P XS XC c d cp xc xd n ps x w1 hs.out (HR.out.below he.out (lrZ _)) hd (HP.out.later he.out) lP kP mP hp.out (HX.out.later he.out);obtain ⟨r,hr⟩:∃r,Pn.forward n ps x=r:=⟨_,rfl⟩
 rw [hr] at hh hne;have HE:=zI hr;clear hr;have d2:(r.2 != 0)=true:=by simpa using hne
 have ho:=zI hne;clear hne;have ht:=zI hh;clear hh;go_wp2_with fail;refine (ht.out).mono ?_;rintro e w2 ⟨⟨-,rfl⟩|⟨hg,-⟩,hi⟩
 rotate_left
 ·exact absurd hg ho.out
 have hc:Later w1 w2:=hi;have hk:=he.out.trans hc;have ha:=hc.blk Hz.out;have m0:=ha.cell 0;have m1:=ha.cell 1;have m2:=ha.cell 2;have m3:=ha.cell 3;have mf0:=ha.frozen 0;have mf1:=ha.frozen 1;have mf2:=ha.frozen 2;have mf3:=ha.frozen 3;have hb:=(((ha.set_ 0 (.int .i64 0)).set_ 1 (.slice none 0 0)).set_ 2 (.slice none 0 0)).set_ 3 (.slice none 0 0);have e0:=hb.cell 0;have e1:=hb.cell 1;have e2:=hb.cell 2;have e3:=hb.cell 3;simp at m0 m1 m2 m3 e0 e1 e2 e3;clear hi a0 a1 b0 b1;obtain ⟨hv,hq,hw,hu⟩:=zd4 hc hk ha hb;clear hc hk ha hb;go_wp2_with fail;refine Zk1 (v:=.tuple #[.agg #[.int .i64 0,.slice none 0 0,.slice none 0 0,.slice none 0 0],.int .i64 r.2]) (by simp [results,Tryz.results24,go_sem,e0,e1,e2,e3]) rfl ?_;exact ⟨by rw [HE.out],(((hq.out.set (p:=⟨w.heap.size+2,0,none⟩) sZ _).set (p:=⟨w.heap.size+2,1,none⟩) sZ _).set (p:=⟨w.heap.size+2,2,none⟩) sZ _).set (p:=⟨w.heap.size+2,3,none⟩) sZ _⟩
namespace Ly
theorem qbW {sd:Int}:∀ {r:List Ten} {s:List Int},(∀t∈r,Tn.right t=true)->joinedS sd s r=Od.joinAll sd s (r.map Ten.s)
 | [],_,_=>rfl
 | t::r,s,h=>by
  unfold joinedS;rw [ipZ (h t sZ),List.map_cons,Od.joinAll]
  split
  ·exact qbW λu hu=>h u (by simp [hu])
  ·rfl
theorem got_map {x:List Ten} (h:0<x.length):(x.map Ten.s).getD 0 []=(got x 0).s:=by
 cases x with
 | nil=>simp at h
 | cons a r=>rfl
theorem qez {o:OpD} {p x:Int} (hr:Od.right o=true) (h1:Od.least o<=x) (h2:x<=Od.most o) (h3:p=Od.params o):Od.counts o p x=0:=by
 unfold Od.counts;rw [ipZ hr,inZ];rintro (h|h|h)<;>omega
theorem go_good {o:OpD} {p x:List Ten} (hp:∀t∈p,Tn.right t=true) (hx:∀t∈x,Tn.right t=true) (h:(Od.shape o (p.map Ten.s) (x.map Ten.s)).2=0):Od.counts o p.length x.length=0/\(lay o p x).2=0:=by
 obtain ⟨hr,h1,h2,h3,ho,hn,e⟩:=Od.shape_ok h;rw [List.length_map] at h1 h2 h3;have hc:=qez hr h1 h2 h3;refine ⟨hc,?_⟩;rw [e] at h;have hk:=Od.right_kind hr;have hl:=Od.least_pos hr;unfold Od.least Od.most at *;unfold Od.params at h3;rw [ipZ hr] at h1 h2 h3;unfold Od.byKind at h;have hf:o.kind<=7∨o.kind=8∨o.kind=9∨o.kind=10∨o.kind=11∨o.kind=12∨o.kind=13∨o.kind=14∨o.kind=15:=by omega
 rcases hf with he|he|he|he|he|he|he|he|he
 ·have e:lay o p x=point o.kind o.k x:=by unfold lay;rw [inZ oZ,inZ oZ,inZ oZ,inZ oZ,inZ oZ,inZ oZ,inZ oZ,inZ oZ]
  rw [inZ oZ,inZ oZ,inZ oZ,inZ oZ,inZ oZ,inZ oZ,inZ oZ] at h;rw [ipZ he] at h1 h2;rw [ipZ hr,ipZ he] at hl;rw [e];unfold Od.same at h
  split at h
  ·rename_i hs
   have hm:0<x.length:=by omega
   rw [got_map hm] at hs;simp only [Zf,List.mem_map,decide_eq_true_eq] at hs
   have ha:ptAgree o.kind x=0:=by
    unfold ptAgree;rw [inZ oZ,inZ oZ,ipZ];simp only [Zf,Zz,decide_eq_true_eq];exact λt ht=>⟨hx t ht,hs _ ⟨t,ht,rfl⟩⟩
   unfold point;rw [ipZ ha]
  ·simp at h
 ·obtain ⟨a,b,rfl⟩:=qgf (l:=p) (by simp [he] at h3;omega)
  obtain ⟨t,rfl⟩:=qap (l:=x) (by simp [he] at h1 h2;omega);have e:lay o [a,b] [t]=dense a b t:=by unfold lay;rw [ipZ he];rfl
  rw [ipZ he] at h;rw [e];unfold Od.dense at h;simp only [List.map_cons,List.map_nil,List.getD_cons_zero,List.getD_cons_succ] at h
  split at h
  ·rename_i hd
   obtain ⟨d1,d2,d3,d4,d5⟩:=hd;have ra:=hp a sZ;have rb:=hp b sZ;have rt:=hx t sZ;unfold dense;rw [ipZ];simp only [denseOk,Zz,decide_eq_true_eq];refine ⟨⟨⟨⟨⟨ra,d1⟩,rb⟩,rt⟩,?_⟩,?_⟩
   ·match hb:b.s,d2 with
    | [z],_=>rw [hb] at d3;simp at d3;unfold at_;rw [d3];simp
   ·rw [(right_s rt).2,d5];rfl
  ·simp at h
 ·obtain ⟨b,rfl⟩:=qap (l:=p) (by simp [he] at h3;omega)
  obtain ⟨t,rfl⟩:=qap (l:=x) (by simp [he] at h1 h2;omega);have e:lay o [b] [t]=add t b:=by unfold lay;rw [inZ oZ,ipZ he];rfl
  rw [inZ oZ,ipZ he] at h;rw [e];unfold Od.same at h
  split at h
  ·rename_i hs
   simp at hs;unfold add;rw [ipZ];simp only [alike,Zz,decide_eq_true_eq];exact ⟨⟨hx t sZ,hp b sZ⟩,hs⟩
  ·simp at h
 ·obtain ⟨b,rfl⟩:=qap (l:=p) (by simp [he] at h3;omega)
  obtain ⟨t,rfl⟩:=qap (l:=x) (by simp [he] at h1 h2;omega);have e:lay o [b] [t]=conv b t o.step:=by unfold lay;rw [inZ oZ,inZ oZ,ipZ he];rfl
  rw [inZ oZ,inZ oZ,ipZ he] at h;rw [e]
  have hg:convErr b t o.step=0:=by
   unfold convErr;rw [ipZ (by simp [hp b sZ,hx t sZ])];exact h
  unfold conv;rw [ipZ hg]
 ·obtain rfl:=qau (l:=p) (by rw [inZ oZ,inZ oZ] at h3;omega)
  obtain ⟨t,rfl⟩:=qap (l:=x) (by simp [he] at h1 h2;omega);have e:lay o [] [t]=pool true t o.width o.step:=by unfold lay;rw [inZ oZ,inZ oZ,inZ oZ,ipZ he];rfl
  rw [inZ oZ,inZ oZ,inZ oZ,ipZ oZ] at h;rw [e]
  have hg:poolErr t o.width o.step=0:=by
   unfold poolErr;rw [ipZ (hx t sZ)];exact h
  unfold pool;rw [ipZ hg]
 ·obtain rfl:=qau (l:=p) (by rw [inZ oZ,inZ oZ] at h3;omega)
  obtain ⟨t,rfl⟩:=qap (l:=x) (by simp [he] at h1 h2;omega);have e:lay o [] [t]=pool false t o.width o.step:=by unfold lay;rw [inZ oZ,inZ oZ,inZ oZ,inZ oZ,ipZ he];rfl
  rw [inZ oZ,inZ oZ,inZ oZ,ipZ oZ] at h;rw [e]
  have hg:poolErr t o.width o.step=0:=by
   unfold poolErr;rw [ipZ (hx t sZ)];exact h
  unfold pool;rw [ipZ hg]
 ·obtain rfl:=qau (l:=p) (by rw [inZ oZ,inZ oZ] at h3;omega)
  have e:lay o [] x=join o.side x:=by unfold lay;rw [inZ oZ,inZ oZ,inZ oZ,inZ oZ,inZ oZ,ipZ he]
  rw [inZ oZ,inZ oZ,inZ oZ,inZ oZ,ipZ oZ] at h;rw [e]
  have hh:(joined o.side x).2=0:=by
   match x,h1 with
   | t::r,_=>
    unfold joined;simp only;rw [ipZ (hx t sZ)];unfold Od.joined at h
    split at h
    ·simp at h
    ·rename_i hcn
     rw [inZ,qbW λu hu=>hx u (by simp [hu])]
     ·exact h
     ·rintro ⟨hj,hi⟩
      refine hcn ⟨by simpa using hj,?_⟩;simp [Od.inR];omega
   | [],h1=>simp at h1;omega
  unfold join;rw [ipZ hh]
 ·obtain rfl:=qau (l:=p) (by rw [inZ oZ,inZ oZ] at h3;omega)
  obtain ⟨t,rfl⟩:=qap (l:=x) (by simp [he] at h1 h2;omega);have e:lay o [] [t]=cut t o.side o.frm o.to:=by unfold lay;rw [inZ oZ,inZ oZ,inZ oZ,inZ oZ,inZ oZ,inZ oZ,ipZ he];rfl
  rw [inZ oZ,inZ oZ,inZ oZ,inZ oZ,inZ oZ,ipZ oZ] at h;rw [e];unfold cut;have h:(Od.cut t.s o.side o.frm o.to).2=0:=h;rw [ipZ (hx t sZ),ipZ h]
 ·obtain rfl:=qau (l:=p) (by rw [inZ oZ,inZ oZ] at h3;omega)
  obtain ⟨t,rfl⟩:=qap (l:=x) (by simp [he] at h1 h2;omega);have e:lay o [] [t]=turn t o.s:=by unfold lay;rw [inZ oZ,inZ oZ,inZ oZ,inZ oZ,inZ oZ,inZ oZ,inZ oZ,ipZ he];rfl
  rw [inZ oZ,inZ oZ,inZ oZ,inZ oZ,inZ oZ,inZ oZ,ipZ oZ] at h;rw [e];unfold Od.turned at h
  split at h
  ·rename_i hs
   simp at hs;have rt:=hx t sZ;unfold turn of_;rw [ipZ rt,ipZ];simp only [Tn.right,Zz,decide_eq_true_eq];exact ⟨hs.1.2,by rw [(right_s rt).2,hs.2]⟩
  ·simp at h
theorem qaF (f:Touch->Nat) (g:Touch->Int):∀(ts:List Touch) (l:List Int),(ts.foldl (λo t=>addAt o (f t) (g t)) l).length=l.length
 | [],_=>rfl
 | t::ts,l=>by rw [List.foldl_cons,qaF f g ts,qaK]
theorem right_of {s c:List Int} (h1:Sh.right s=true) (h2:(c.length:Int)=Safe.prod s):Tn.right ⟨s,c⟩=true:=by simp [Tn.right,h1,h2]
theorem qcJ {s:List Int} (h:Sh.right s=true):(span s:Int)=Safe.prod s:=by
 obtain ⟨_,_,_,_,h1,_⟩:=Sh.right_mul h;unfold span;omega
theorem qgm {x:Ten} {sd frm til:Int} (h:(cut x sd frm til).2=0) (hrs:Sh.right (cut x sd frm til).1.s=true):Tn.right (cut x sd frm til).1=true:=by
 by_cases hr:Tn.right x=true
 case neg=>rw [cut_right (by simpa using hr)] at h;simp at h
 by_cases hc:(Od.cut x.s sd frm til).2=0
 case neg=>rw [cut_err hr hc] at h;exact absurd h hc
 obtain ⟨k,S,f,t,inner,pre,e1,e2,e3,hk,hS,hh,hm,hl,hj,hf,hb,hg,ha,hd,-,-,-⟩:=cut_facts hr hc;rw [cut_ok hr hc] at hrs ⊢;refine right_of hrs ?_;have h1:side x.s sd.toNat=S:=by unfold side at_;rw [e1,tnZ,hS,tnZ]
 have h2:span ((Od.cut x.s sd frm til).1.drop (sd.toNat+1))=inner:=by unfold span;rw [hb,e1,tnZ,hg,tnZ]
 have he:0<S*inner:=Nat.mul_pos oZ oZ;rw [h1,h2,hd,Nat.mul_div_cancel _ he,rows_len,hb,ha,e2,e3,tnZ,tnZ];intro i hi;rw [e2,e3,tnZ,tnZ,hd];have a1:f*inner+(t-f)*inner<=S*inner:=by rw [←Nat.add_mul];exact mlZ _ oZ
 have a2:(i+1)*(S*inner)<=pre*(S*inner):=mlZ _ oZ;rw [Zu] at a2;omega
theorem lay_right {o:OpD} {p x:List Ten} (hc:Od.counts o p.length x.length=0) (h:(lay o p x).2=0):Tn.right (lay o p x).1=true:=by
 have hs:=lay_shape hc h
 have ha:Sh.right (lay o p x).1.s=true:=by
  have:=Od.shape_right (by rw [hs]);rw [hs] at this;exact this
 clear hs;obtain ⟨hr,h1,h2,h3⟩:=counts_ok hc;have hk:=Od.right_kind hr;unfold lay at h ha ⊢
 split at h
 ·rename_i hk1
  rw [ipZ hk1] at ha ⊢;unfold dense at h ha ⊢
  split at h
  ·rename_i hd
   rw [ipZ hd] at ha ⊢;simp only [denseOk,Zz,decide_eq_true_eq] at hd;refine right_of ha ?_;rw [tab_len];exact (right_s hd.1.1.1.2).2
  ·simp at h
 ·rename_i n8
  rw [inZ n8] at ha ⊢
  split at h
  ·rename_i hk1
   rw [ipZ hk1] at ha ⊢;unfold add at h ha ⊢
   split at h
   ·rename_i hd
    rw [ipZ hd] at ha ⊢;simp only [alike,Zz,decide_eq_true_eq] at hd;refine right_of ha ?_;rw [tab_len];exact (right_s hd.1.1).2
   ·simp at h
  ·rename_i n9
   rw [inZ n9] at ha ⊢
   split at h
   ·rename_i hk1
    rw [ipZ hk1] at ha ⊢;unfold conv at h ha ⊢
    split at h
    ·rename_i hd
     rw [ipZ hd] at ha ⊢;refine right_of ha ?_;unfold convC;rw [qaF,zeros_len];exact qcJ ha
    ·rename_i hd;exact absurd h hd
   ·rename_i n10
    rw [inZ n10] at ha ⊢
    split at h
    ·rename_i hk1
     rw [ipZ hk1] at ha ⊢;unfold pool at h ha ⊢
     split at h
     ·rename_i hd
      rw [ipZ hd] at ha ⊢;refine right_of ha ?_;rw [tab_len];exact qcJ ha
     ·rename_i hd;exact absurd h hd
    ·rename_i n11
     rw [inZ n11] at ha ⊢
     split at h
     ·rename_i hk1
      rw [ipZ hk1] at ha ⊢;unfold pool at h ha ⊢
      split at h
      ·rename_i hd
       rw [ipZ hd] at ha ⊢;refine right_of ha ?_;rw [tab_len];exact qcJ ha
      ·rename_i hd;exact absurd h hd
     ·rename_i n12
      rw [inZ n12] at ha ⊢
      split at h
      ·rename_i hk1
       rw [ipZ hk1] at ha ⊢
       by_cases hj:(joined o.side x).2=0
       case neg=>rw [join_err hj] at h;exact absurd h hj
       rw [join_ok hj] at ha ⊢;refine right_of ha ?_;obtain ⟨k,rows,inner,q0,q1,q2,q3,q4,q5,q6,q7,q8,q9,q10⟩:=qcI hj;have q11:o.side.toNat=k:=by omega
       show ((joinC _ _ _).length:Int)=Safe.prod (joined o.side x).1
       rw [q11,q4,joinC_len (lrZ _),q10,Int.natCast_mul,qex q6 q9]
      ·rename_i n13
       rw [inZ n13] at ha ⊢
       split at h
       ·rename_i hk1
        rw [ipZ hk1] at ha ⊢;exact qgm h ha
       ·rename_i n14
        rw [inZ n14] at ha ⊢
        split at h
        ·rename_i hk1
         rw [ipZ hk1] at ha ⊢;unfold turn of_ at h ⊢
         split at h
         ·rename_i hd
          rw [ipZ hd]
          split at h
          ·rename_i hd2;rw [ipZ hd2];exact hd2
          ·simp at h
         ·simp at h
        ·rename_i n15
         rw [inZ n15] at ha ⊢;unfold point at h ha ⊢
         split at h
         ·rename_i hd
          rw [ipZ hd] at ha ⊢;refine right_of ha ?_;rw [tab_len];unfold ptAgree at hd
          split at hd
          ·simp at hd
          ·split at hd
           ·simp at hd
           ·split at hd
            ·rename_i g1 g2 hall
             simp only [Zf,Zz,decide_eq_true_eq] at hall
             have hb:0<x.length:=by
              rcases Nat.eq_zero_or_pos x.length with h0|h0
              ·simp [h0] at g2;omega
              ·exact h0
             have:got x 0∈x:=by rw [qan hb];exact gmZ hb
             exact (right_s (hall _ this).1).2
            ·simp at hd
         ·rename_i hd;exact absurd h hd
end Ly
namespace Pn
theorem par_map {ps:List Ten} {ss:List (List Int)} (hl:ps.length=ss.length) (h:parOk ps ss ss.length=true):ps.map Ten.s=ss/\∀t∈ps,Tn.right t=true:=by
 have key:∀i (hi:i<ps.length),Tn.right ps[i]=true/\ps[i].s=ss[i]'oZ:=λi hi=>by
  have:=List.all_eq_true.1 h i (List.mem_range.2 oZ);have h2:=tenIs_ok this;rw [qan hi,gdZ,geZ oZ] at h2;exact h2
 refine ⟨List.ext_getElem (by simp [hl]) λi h1 h2=>?_,λt ht=>?_⟩
 ·rw [List.getElem_map];exact (key i (by simpa using h1)).2
 ·obtain ⟨i,hi,rfl⟩:=List.getElem_of_mem ht
  exact (key i hi).1
theorem qeA {ns:List NodeD} {k:Nat} (h:k<ns.length):((ns.flatMap (·.p)).drop (from_ ns k)).take ns[k].p.length=ns[k].p:=by
 have e:ns.flatMap (·.p)=(ns.take k).flatMap (·.p)++(ns[k].p++(ns.drop (k+1)).flatMap (·.p)):=by
  rw [←List.flatMap_cons,←Zd h,←Zj,Zn]
 rw [e];unfold from_;rw [List.drop_left,List.take_left]
theorem qdd {n:NetD} {ps:List Ten} (hm:ps.map Ten.s=Nt.params n) (hr:∀t∈ps,Tn.right t=true) {id:Int} (h1:1<=id) (h2:id<=n.nodes.length):
  (parts n ps id).map Ten.s=(Nt.node n.nodes id).p/\(∀t∈parts n ps id,Tn.right t=true)/\(parts n ps id).length=(Nt.node n.nodes id).p.length:=by
 obtain ⟨hk,e⟩:=Nt.node_in ⟨h1,h2⟩;have ek:(id-1).toNat=id.toNat-1:=by omega
 have key:(parts n ps id).map Ten.s=(Nt.node n.nodes id).p:=by
  unfold parts;rw [List.map_take,List.map_drop,hm,e];simp only [ek];exact qeA oZ
 refine ⟨key,λt ht=>hr t (Zp (Zh ht)),?_⟩;rw [←key,List.length_map]
theorem qbv {l:List Ten} {k:Nat} {t:Ten} (h:k<l.length):Ly.got (l.set k t) k=t:=by
 unfold Ly.got;rw [gdZ,Zr h];rfl
theorem qaP {l:List Ten} {k j:Nat} {t:Ten} (h:k≠j):Ly.got (l.set k t) j=Ly.got l j:=by
 unfold Ly.got;rw [gdZ,gdZ,Zs h]
theorem qgn {l:List Ten} (i:Nat):(l.map Ten.s).getD i []=(Ly.got l i).s:=by
 unfold Ly.got;simp only [gdZ,List.getElem?_map];cases l[i]?<;>rfl
theorem pick_map (vals:List Ten) (ins:List Int):(pickT vals ins).map Ten.s=Nt.pick (vals.map Ten.s) ins:=by
 unfold pickT Nt.pick;rw [List.map_map];exact List.map_congr_left λi _=>(qgn i.toNat).symm
theorem pick_set {vals:List Ten} {ins:List Int} {u:Int} {t:Ten} (hu:1<=u) (h:∀i∈ins,i≠u/\0<=i):pickT (vals.set u.toNat t) ins=pickT vals ins:=by
 unfold pickT;refine List.map_congr_left λi hi=>qaP ?_
 have:=h i hi;omega
structure Done (n:NetD) (ps:List Ten) (x:Ten) (a:List Int) (vals:List Ten):Prop where
 len:vals.length=n.nodes.length+1
 lay0:Nt.lay n.nodes (Nt.start n) a=(vals.map Ten.s,0)
 zero:Ly.got vals 0=x
 right:∀i:Int,i=0∨i∈a->Tn.right (Ly.got vals i.toNat)=true
 step:∀id∈a,Pn.step n ps vals id=(Ly.got vals id.toNat,0)
theorem qgo {n:NetD} {ps:List Ten} {x:Ten} (hc:Nt.check n=0) (hm:ps.map Ten.s=Nt.params n) (hr:∀t∈ps,Tn.right t=true) {a b:List Int} {u:Int} {vals:List Ten} (hs:Nt.sorted n.nodes=a++u::b) (h:Done n ps x a vals):
  (Pn.step n ps vals u).2=0/\Done n ps x (a++[u]) (vals.set u.toNat (Pn.step n ps vals u).1):=by
 obtain ⟨c1,c2,c3,c4,c5,c6,c7,c8⟩:=Nt.check_ok hc;have hd:∀v∈Nt.sorted n.nodes,1<=v/\v<=n.nodes.length:=Kn.order_rng _ _;have hq:(Nt.sorted n.nodes).Nodup:=(Kn.go_ok _ _ _).nodup;have hu:=hd u (by rw [hs];simp);have ho:∀i∈Nt.insF n.nodes u,i=0∨i∈a:=Kn.order_behind _ _ hs
 have hk:u∉a:=by
  rw [hs,List.nodup_append] at hq;intro hm;exact hq.2.2 u hm u sZ rfl
 have hh:∀i:Int,i=0∨i∈a->0<=i/\i≠u:=λi hi=>by
  rcases hi with rfl|hi
  ·omega
  ·have:=hd i (by rw [hs];simp [hi])
   exact ⟨by omega,λe=>hk (e▸hi)⟩
 obtain ⟨p1,p2,p3⟩:=qdd hm hr hu.1 hu.2
 have hf:(Nt.layStep n.nodes (vals.map Ten.s) u).2=0:=by
  have c:=c6;rw [hs,Nt.lay_append,h.lay0] at c;simp only [if_true] at c;unfold Nt.lay at c
  split at c
  ·assumption
  ·rename_i hb;exact absurd c hb
 have he:∀t∈pickT vals (Nt.node n.nodes u).ins,Tn.right t=true:=λt ht=>by
  obtain ⟨i,hi,rfl⟩:=List.mem_map.1 ht;exact h.right i (ho i hi)
 have ha:Od.shape (Nt.node n.nodes u).op ((parts n ps u).map Ten.s) ((pickT vals (Nt.node n.nodes u).ins).map Ten.s)=Nt.layStep n.nodes (vals.map Ten.s) u:=by
  rw [p1,pick_map];rfl
 obtain ⟨g1,g2⟩:=Ly.go_good p2 he (by rw [ha];exact hf);have hg:Pn.step n ps vals u=Ly.lay (Nt.node n.nodes u).op (parts n ps u) (pickT vals (Nt.node n.nodes u).ins):=Ly.go_lay g1;have hl:=Ly.lay_shape g1 g2;have hw:=Ly.lay_right g1 g2;rw [←hg] at g2 hl hw;rw [ha] at hl;have hx:u.toNat<vals.length:=by rw [h.len];omega
 refine ⟨g2,by rw [List.length_set];exact h.len,?_,?_,?_,?_⟩
 ·rw [Nt.lay_snoc h.lay0 hf,hl,List.map_set]
 ·rw [qaP oZ];exact h.zero
 ·intro i hi
  by_cases e:i=u
  ·subst e;rw [qbv hx];exact hw
  ·have hp:i=0∨i∈a:=by
    rcases hi with hi|hi
    ·exact .inl hi
    ·rcases List.mem_append.1 hi with hi|hi
     ·exact .inr hi
     ·simp at hi;exact absurd hi e
   have:=hh i hp;rw [qaP oZ];exact h.right i hp
 ·intro v hv
  have hj:∀i∈(Nt.node n.nodes v).ins,i≠u/\0<=i:=λi hi=>by
   rcases List.mem_append.1 hv with hv|hv
   ·obtain ⟨a1,a2,ea⟩:=List.append_of_mem hv
    have hz:Kn.order (Nt.insF n.nodes) n.nodes.length=a1++v::(a2++u::b):=by
     show Nt.sorted n.nodes=_
     rw [hs,ea];simp
    have hy:∀i∈Nt.insF n.nodes v,i=0∨i∈a1:=Kn.order_behind _ _ hz
    have h3:i=0∨i∈a:=by
     rcases hy i hi with h4|h4
     ·exact .inl h4
     ·exact .inr (by rw [ea];simp [h4])
    exact (hh i h3).symm
   ·simp at hv;subst hv
    exact (hh i (ho i hi)).symm
  have e1:Pn.step n ps (vals.set u.toNat (Pn.step n ps vals u).1) v=Pn.step n ps vals v:=by
   show Ly.go _ _ (pickT _ _)=Ly.go _ _ (pickT _ _)
   rw [pick_set hu.1 hj]
  rw [e1]
  by_cases e:v=u
  ·subst e
   rw [qbv hx];exact Prod.ext rfl g2
  ·have hn:v∈a:=by
    rcases List.mem_append.1 hv with hv|hv
    ·exact hv
    ·simp at hv;exact absurd hv e
   have:=hh v (.inr hn);have h1:=hd v (by rw [hs];simp [hn]);rw [qaP oZ];exact h.step v hn
theorem qeV {n:NetD} {ps:List Ten} {x:Ten} (hc:Nt.check n=0) (hm:ps.map Ten.s=Nt.params n) (hr:∀t∈ps,Tn.right t=true):∀(b a:List Int) (vals:List Ten),Nt.sorted n.nodes=a++b->Done n ps x a vals->∃out,fwd n ps vals b=(out,0)/\Done n ps x (a++b) out
 | [],a,vals,_,h=>⟨vals,rfl,by rw [List.append_nil];exact h⟩
 | u::b,a,vals,hs,h=>by
  obtain ⟨h1,h2⟩:=qgo hc hm hr hs h;obtain ⟨out,h3,h4⟩:=qeV hc hm hr b (a++[u]) _ (by rw [hs];simp) h2;refine ⟨out,?_,by rw [List.append_assoc] at h4;exact h4⟩;unfold fwd;rw [ipZ h1];exact h3
end Pn
namespace Pn
def add (g m:Ten):Ten:=if g.c.length=0 then m else if (Ly.add g m).2=0 then (Ly.add g m).1 else g
end Pn
def TenR1 (t:Ten) (w:Zp1) (e:Ending) (w':Zp1):Prop:=∃v,e=.returned v/\TenO w.heap.size w' v t/\Below w.heap.size w w'
theorem qeB {t:Ten} {w w1 wf:Zp1} {v u u2:Value} {p:Nat} {T:TypeId} (ho:TenO w1.heap.size wf v t) (hL:Later w wf) (hz:Blk wf p T #[.slice none 0 0,.slice none 0 0]) (hp:w.heap.size<=p) (hs:w.heap.size<=w1.heap.size):
  TenR1 t w (.returned v) ((wf.setCell ⟨p,0,none⟩ u).setCell ⟨p,1,none⟩ u2):=
 ⟨v,rfl,(ho.base hs).box hz,(hL.set (p:=⟨p,0,none⟩) hp _).set (p:=⟨p,1,none⟩) hp _⟩
theorem qgp (GS GC MS MC:Option Addr) (c d c' d':Nat) (g m:Ten) (w:Zp1) (hG:TenIn w GS GC c d g) (hM:TenIn w MS MC c' d' m) (l1:g.s.length<=1000000) (l2:g.c.length<=1000000) (l3:m.s.length<=1000000) (l4:m.c.length<=1000000):
  Calls Tryz.prog 32 #[.agg #[.slice GS g.s.length c,.slice GC g.c.length d],.agg #[.slice MS m.s.length c',.slice MC m.c.length d']] w (TenR1 (Pn.add g m) w):=by
 obtain ⟨hx,hC,hz,ht⟩:=qam w 30 30 30 #[.slice GS g.s.length c,.slice GC g.c.length d] #[.slice MS m.s.length c',.slice MC m.c.length d'] #[.slice none 0 0,.slice none 0 0];obtain ⟨hp,hD,Hz,hd,HG,HM⟩:=zd6 hx hC hz ht hG hM;clear hx hC hz ht hG hM;go_enter Tryz.func32,Tryz.ntmps32;go_upto_region 1 with fail;generalize (((w.alloc (.cells #[.slice GS g.s.length c,.slice GC g.c.length d] 30)).alloc (.cells #[.slice MS m.s.length c',.slice MC m.c.length d'] 30)).alloc (.cells #[.slice none 0 0,.slice none 0 0] 30))=w1 at *;have a0:=hp.out.cell 0;have a1:=hp.out.cell 1;have b0:=hD.out.cell 0;have b1:=hD.out.cell 1;simp at a0 a1 b0 b1;have hy:=hd.out.size
 by_cases h0:g.c.length=0
 ·have HE:=zI (show Pn.add g m=m by unfold Pn.add;rw [ipZ h0])
  have d1:((g.c.length:Int)==0)=true:=by simp [h0]
  have q1:(g.c.length:Int)=0:=by omega
  clear h0;go_wp2_with fail;refine (qa9 MS MC c' d' m w1 l3 l4 (HM.out.later hd.out).r).mono ?_;rintro e w2 ⟨v,rfl,hN,hh⟩;have hf:Later w1 w2:=hh;have ha:=hf.blk Hz.out;have hO:=hN.o (B:=w1.heap.size) oZ oZ HM.out.num;obtain ⟨g1,h1,rfl,-,-,-,-⟩:=hN;have c0:=ha.cell 0;have c1:=ha.cell 1;have f0:=ha.frozen 0;have f1:=ha.frozen 1;have hb:=(ha.set_ 0 (.slice (some ⟨g1,0,none⟩) m.s.length m.s.length)).set_ 1 (.slice (some ⟨h1,0,none⟩) m.c.length m.c.length);have e0:=hb.cell 0;have e1:=hb.cell 1;simp at c0 c1 e0 e1;clear hh a0 a1 b0 b1;obtain ⟨hF,hn,hs,HO⟩:=zd4 hf ha hb hO;clear hf ha hb hO;go_wp2_with fail;refine Zk1 (v:=.agg #[.slice (some ⟨g1,0,none⟩) m.s.length m.s.length,.slice (some ⟨h1,0,none⟩) m.c.length m.c.length]) (by simp [results,Tryz.results32,go_sem,e0,e1]) rfl ?_;rw [HE.out];exact qeB HO.out (hd.out.trans hF.out) hn.out oZ hy
 have d1:((g.c.length:Int)==0)=false:=by simpa using h0
 have q1:¬(g.c.length:Int)=0:=by omega
 obtain ⟨R,hR⟩:∃R,Ly.add g m=R:=⟨_,rfl⟩
 have hc:=qad (qd3 GS GC MS MC c d c' d' g m w1 (HG.out.later hd.out) (HM.out.later hd.out)) Ly.add_none;have he:=show Pn.add g m=if R.2=0 then R.1 else g by unfold Pn.add;rw [inZ h0,hR]
 rw [hR] at hc;clear h0;obtain ⟨hj,HR,He⟩:=zd3 hc hR he;clear hc hR he;go_wp2_with fail;refine (hj.out).mono ?_;rintro e w2 ⟨S2,c2,C2,d2,rfl,hK,hu,hh⟩;have hf:Later w1 w2:=hh;have hm:Later w2 (w2.alloc (.cells #[.slice S2 R.1.s.length c2,.slice C2 R.1.c.length d2] 30)):=(Later.refl w2).alloc _;have hB:=Blk.new w2 30 #[.slice S2 R.1.s.length c2,.slice C2 R.1.c.length d2];have hl:=hf.trans hm;have hw:=hl.blk Hz.out;have hv:=hl.blk hp.out;have hi:=λh=>(hu h).later hm
 clear a0 a1 b0 b1 hh hu hK;obtain ⟨hF,hL,hE,hk,hg,hA,ho⟩:=zd7 hf hm hB hl hw hv hi;clear hf hm hB hl hw hv hi;go_upto_region 4 with fail;generalize w2.alloc (.cells #[.slice S2 R.1.s.length c2,.slice C2 R.1.c.length d2] 30)=w3 at *;generalize w2.heap.size=yb at *
 by_cases hr:R.2=0
 ·have HE:=zI (He.out.trans (ipZ hr))
  have d3:(R.2 != 0)=false:=by simp [hr]
  have hO:=ho.out hr;have y0:=hE.out.cell 0;have y1:=hE.out.cell 1;have c0:=hg.out.cell 0;have c1:=hg.out.cell 1;have f0:=hg.out.frozen 0;have f1:=hg.out.frozen 1;have hb:=(hg.out.set_ 0 (.slice S2 R.1.s.length c2)).set_ 1 (.slice C2 R.1.c.length d2);have e0:=hb.cell 0;have e1:=hb.cell 1;simp at c0 c1 e0 e1 y0 y1;obtain ⟨hs,HO⟩:=zd2 hb hO;clear hb hO;go_wp2_with fail;refine Zk1 (v:=.agg #[.slice S2 R.1.s.length c2,.slice C2 R.1.c.length d2]) (by simp [results,Tryz.results32,go_sem,e0,e1]) rfl ?_;rw [HE.out];exact qeB HO.out (hd.out.trans hk.out) hg.out oZ hy
 ·have HE:=zI (He.out.trans (inZ hr))
  have d3:(R.2 != 0)=true:=by simpa using hr
  have a0:=hA.out.cell 0;have a1:=hA.out.cell 1;simp at a0 a1;clear hr;go_wp2_with fail;refine (qa9 GS GC c d g w3 l1 l2 (HG.out.later (hd.out.trans hk.out)).r).mono ?_;rintro e w4 ⟨v,rfl,hN,hH⟩;have hq:Later w3 w4:=hH;have ha:=hq.blk hg.out;have hO:=hN.o (B:=w3.heap.size) oZ oZ HG.out.num;obtain ⟨g1,h1,rfl,-,-,-,-⟩:=hN;have c0:=ha.cell 0;have c1:=ha.cell 1;have f0:=ha.frozen 0;have f1:=ha.frozen 1;have hb:=(ha.set_ 0 (.slice (some ⟨g1,0,none⟩) g.s.length g.s.length)).set_ 1 (.slice (some ⟨h1,0,none⟩) g.c.length g.c.length);have e0:=hb.cell 0;have e1:=hb.cell 1;simp at c0 c1 e0 e1;have hI:=(hd.out.trans hk.out).size;clear hH a0 a1;obtain ⟨hJ,hn,hs,HO⟩:=zd4 hq ha hb hO;clear hq ha hb hO;go_wp2_with fail;refine Zk1 (v:=.agg #[.slice (some ⟨g1,0,none⟩) g.s.length g.s.length,.slice (some ⟨h1,0,none⟩) g.c.length g.c.length]) (by simp [results,Tryz.results32,go_sem,e0,e1]) rfl ?_;rw [HE.out];exact qeB HO.out ((hd.out.trans hk.out).trans hJ.out) hn.out oZ hI
theorem qgq (S C GS GC:Option Addr) (c d gc gd:Nat) (x g:Ten) (w:Zp1) (hx:TenIn w S C c d x) (hg:TenIn w GS GC gc gd g):
  Calls Tryz.prog 105 #[.agg #[.slice S x.s.length c,.slice C x.c.length d],.agg #[.slice GS g.s.length gc,.slice GC g.c.length gd]] w (GoP (Ly.turnBack x g) w):=by
 obtain ⟨hK,hS,hz,hH⟩:=qam w 30 30 30 #[.slice S x.s.length c,.slice C x.c.length d] #[.slice GS g.s.length gc,.slice GC g.c.length gd] #[.slice none 0 0,.slice none 0 0];have l1:=hx.l1;have l2:=hx.l2;have l3:=hg.l1;have l4:=hg.l2;obtain ⟨hO,hR,Hz,hD,Hx,Hg⟩:=zd6 hK hS hz hH hx hg;clear hK hS hz hH hx hg;go_enter Tryz.func105,Tryz.ntmps105;go_wp2_with fail;generalize ((w.alloc (.cells #[.slice S x.s.length c,.slice C x.c.length d] 30)).alloc (.cells #[.slice GS g.s.length gc,.slice GC g.c.length gd] 30)).alloc (.cells #[.slice none 0 0,.slice none 0 0] 30)=w1 at *;refine (qa2 S C c d x w1 oZ oZ (Hx.out.later hD.out).r.1).mono ?_;rintro e w2 ⟨rfl,hF⟩;have hp:Later w1 w2:=hF;have hy:=hD.out.trans hp;have hk:=hp.blk Hz.out;have hh:=hp.blk hO.out;have hb:=hp.blk hR.out;clear hF Hz hD hO hR hp;cases hr:Tn.right x
 ·have HE:=zI (show Ly.turnBack x g=(Ly.none_,20) by unfold Ly.turnBack;rw [hr];rfl)
  clear hr;have c0:=hk.cell 0;have c1:=hk.cell 1;have f0:=hk.frozen 0;have f1:=hk.frozen 1;simp at c0 c1;obtain ⟨hj,hs,hf,hl⟩:=zd4 hy hk hh hb;clear hy hk hh hb;go_wp2_with fail;refine Zk1 (v:=.tuple #[.agg #[.slice none 0 0,.slice none 0 0],.int .i64 20]) (by simp [results,Tryz.results105,go_sem,c0,c1]) rfl ?_;exact GoP.fail HE.out dZ ((hj.out.set (p:=⟨w.heap.size+2,0,none⟩) sZ _).set (p:=⟨w.heap.size+2,1,none⟩) sZ _)
 have g0:=hb.cell 0;have g1:=hb.cell 1;simp at g0 g1;obtain ⟨hj,hs,hf,hl⟩:=zd4 hy hk hh hb;clear hy hk hh hb;go_wp2_with fail;refine (qa2 GS GC gc gd g w2 oZ oZ (Hg.out.later hj.out).r.1).mono ?_;rintro e w3 ⟨rfl,hI⟩;have ho:Later w2 w3:=hI;have hm:=hj.out.trans ho;have ha:=ho.blk hs.out;have he:=ho.blk hf.out;have hi:=ho.blk hl.out;clear hI hs hj hf hl ho g0 g1;cases hq:Tn.right g
 ·have HE:=zI (show Ly.turnBack x g=(Ly.none_,20) by unfold Ly.turnBack;rw [hr,hq];rfl)
  clear hr hq;have c0:=ha.cell 0;have c1:=ha.cell 1;have f0:=ha.frozen 0;have f1:=ha.frozen 1;simp at c0 c1;obtain ⟨hT,h4,hV,hX⟩:=zd4 hm ha he hi;clear hm ha he hi;go_wp2_with fail;refine Zk1 (v:=.tuple #[.agg #[.slice none 0 0,.slice none 0 0],.int .i64 20]) (by simp [results,Tryz.results105,go_sem,c0,c1]) rfl ?_;exact GoP.fail HE.out dZ ((hT.out.set (p:=⟨w.heap.size+2,0,none⟩) sZ _).set (p:=⟨w.heap.size+2,1,none⟩) sZ _)
 ·have HE:=zI (show Ly.turnBack x g=Ly.of_ x.s g.c by unfold Ly.turnBack;rw [hr,hq];rfl)
  clear hr hq;have x0:=he.cell 0;have x1:=hi.cell 1;simp at x0 x1;have hn:=Hg.out.num;have hL:TenR w3 S GC ⟨x.s,g.c⟩:=⟨(Hx.out.later hm).r.1,(Hg.out.later hm).r.2⟩
  have hd:=(qcC S GC c gd ⟨x.s,g.c⟩ w3 l1 l4 hL).mono (λe w' h=>of_gop h hn);rw [←show Ly.turnBack x g=Ly.of_ x.s g.c from HE.out] at hd;obtain ⟨hs,hf,hj,hu⟩:=zd4 ha he hm hd;clear ha he hm hd hL hn hi;go_wp2_with fail;clear x0 x1;refine (hu.out).mono ?_;rintro e wf hA;have hv:Later w3 wf:=hA.2;have hc:=hv.blk hs.out;have hC:=hj.out.trans hv;have f0:=hc.frozen 0;have f1:=hc.frozen 1;have hB:w.heap.size<=w.heap.size+2:=by first|exact lrZ _|simp|omega
  rcases hA.1 with ⟨hP,rfl⟩|⟨hJ,v,rfl,ht⟩
  ·have c0:=hc.cell 0
   have c1:=hc.cell 1;simp at c0 c1;have hw:=hP;generalize hge:(Ly.turnBack x g).2=ge at *;obtain ⟨hW,hZ⟩:=zd2 hge hw;clear hw;clear hA hP hv hge;obtain ⟨hN,hE⟩:=zd2 hc hC;clear hc hC;go_wp2_with fail;refine Zk1 (v:=.tuple #[.agg #[.slice none 0 0,.slice none 0 0],.int .i64 ge]) (by simp [results,Tryz.results105,go_sem,c0,c1]) rfl ?_;exact GoP.fail2 hW.out hZ.out ((hE.out.set (p:=⟨w.heap.size+2,0,none⟩) hB _).set (p:=⟨w.heap.size+2,1,none⟩) hB _)
  ·have hU:=ht.base (hj.out.size)
   clear hA ht;obtain ⟨S2,c2,C2,d2,rfl,hQ,hM,hG⟩:=hU;have ha:=(hc.set_ 0 (.slice S2 (Ly.turnBack x g).1.s.length c2)).set_ 1 (.slice C2 (Ly.turnBack x g).1.c.length d2);have d0:=ha.cell 0;have d1:=ha.cell 1;simp at d0 d1;have c0:=hc.cell 0;have c1:=hc.cell 1;simp at c0 c1;obtain ⟨hY,h5,hN,hE,h3,h0,h1,h2⟩:=zd8 hJ ha hc hC hv hQ hM hG;clear ha hc hC hv hQ hM hG hJ;go_wp2_with fail;refine Zk1 (v:=.tuple #[.agg #[.slice S2 (Ly.turnBack x g).1.s.length c2,.slice C2 (Ly.turnBack x g).1.c.length d2],.int .i64 0]) (by simp [results,Tryz.results105,go_sem,d0,d1]) rfl ?_;exact ⟨.inr ⟨hY.out,_,rfl,TenO.box ⟨S2,c2,C2,d2,rfl,h0.out,h1.out,h2.out⟩ hN.out⟩,(hE.out.set (p:=⟨w.heap.size+2,0,none⟩) hB _).set (p:=⟨w.heap.size+2,1,none⟩) hB _⟩
def Else (g:Nat) (w w':Zp1):Prop:=(∀k,k≠g->w'.heap[k]? = w.heap[k]?)/\w'.heap.size=w.heap.size/\Below g w w'
theorem Else.blk {g k:Nat} {w w':Zp1} {t:TypeId} {cs:Array Value} (h:Else g w w') (hk:k≠g) (hb:Blk w k t cs):Blk w' k t cs:=(h.1 k hk).trans hb
theorem Else.below {g B:Nat} {w0 w w':Zp1} (h:Else g w w') (hb:Below B w0 w) (hB:B<=g):Below B w0 w':=hb.trans (h.2.2.mono hB)
theorem Else.refl (g:Nat) (w:Zp1):Else g w w:=⟨λ_ _=>rfl,rfl,Ze1 _ _⟩
theorem Else.setCell {g:Nat} {w w':Zp1} (h:Else g w w') (i:Nat) (u:Value):Else g w (w'.setCell ⟨g,i,none⟩ u):=
 ⟨λk hk=>(Below.heap_setCell w' ⟨g,i,none⟩ u k hk).trans (h.1 k hk),by simpa using h.2.1,h.2.2.trans (Below.setCell (Ze1 g w') (p:=⟨g,i,none⟩) (lrZ _) u)⟩
theorem Else.setCells {g:Nat} {w:Zp1}:∀(vs:List Value) (o:Nat) (w':Zp1),Else g w w'->Else g w (w'.setCells g o vs)
 | [],_,_,h=>h
 | v::r,o,w',h=>Else.setCells r (o+1) _ (h.setCell o v)
theorem qdu {P:Program} (w:Zp1) (t e ty:TypeId) (ht:P.underlying t=some (.slice e)) (hv:∀w,(zeroValue e).run P w=.ok (.int .i64 0) w) (g:Nat) (T:TypeId) (l:List Int) (c:Nat) (hk:Blk w g T (l.map (Za1 .i64)).toArray) (h0:0<l.length):
  ∃w',(Builtin.clear_ #[t] ty #[.slice (some ⟨g,0,none⟩) l.length c]).run P w=.ok (.tuple #[]) w'/\Blk w' g T ((Ly.zeros l.length).map (Za1 .i64)).toArray/\Else g w w':=by
 refine ⟨_,Lib.run_clear_slice w t e ty (.int .i64 0) ht hv rfl rfl g 0 l.length c h0 (λj hj=>by rw [Zw,hk.cell];simp [hj]) (λj hj=>hk.frozen _),?_,Else.setCells _ _ _ (Else.refl g w)⟩;have:=qaq (Zc l.length (Za1 .i64 0)) 0 w _ hk sZ;rw [show splice (l.map (Za1 .i64)) 0 (Zc l.length (Za1 .i64 0))=(Ly.zeros l.length).map (Za1 .i64) by simp [splice,Ly.zeros]] at this;exact this
theorem qaL {P:Program} {ops:Array Oper} {rest:List Oper} {o:Oper} {a:Act} {Q:Exit->Act->Zp1->Prop} {w:Zp1} (hgd:o.guard=none) (s:Operand) (t e:TypeId)
  (ho:o.op=.call { callee:=.builtin .clear,args:=#[s],argTypes:=#[t] }) (ht:P.underlying t=some (.slice e)) (hv:∀w,(zeroValue e).run P w=.ok (.int .i64 0) w)
  (g:Nat) (T:TypeId) (l:List Int) (c:Nat) (hs:a.eval s=.slice (some ⟨g,0,none⟩) l.length c) (hk:Blk w g T (l.map (Za1 .i64)).toArray) (h0:0<l.length)
  (h:∀w',Blk w' g T ((Ly.zeros l.length).map (Za1 .i64)).toArray->Else g w w'->wpList P ops Q rest (a.put o.dst (.tuple #[])) w'):
  wpList P ops Q (o::rest) a w:=by
 refine wpList_plain hgd λK hK=>?_
 obtain ⟨w',hr,h1,h2⟩:=qdu w t e o.type ht hv g T l c hk h0;unfold Oper.wp execOp;simp only [ho,resolve,invoke,builtin,Sem.run_bind,Sem.run_pure,Result.andThen_ok,List.map_toArray,List.map_cons,List.map_nil,hs,hr];exact hK _ _ (h w' h1 h2)
theorem Ints.else_ {w w':Zp1} {A:Option Addr} {zs:List Int} {p:Nat} (h:Ints .i64 w A zs) (hE:Else p w w') (hp:∀k z,w.cell? ⟨p,k,none⟩≠some (.int .i64 z)):Ints .i64 w' A zs:=λj hj=>by
 obtain ⟨b,off,e,hl,hc⟩:=h j hj;have ha:b≠p:=by rintro rfl;exact hp _ _ hc
 exact ⟨b,off,e,by rw [hE.2.1];exact hl,(Zi1 (hE.1 b ha)).trans hc⟩
theorem TenIn.else_ {w w':Zp1} {S C:Option Addr} {c d:Nat} {t:Ten} {p:Nat} (h:TenIn w S C c d t) (hE:Else p w w') (hp:∀k z,w.cell? ⟨p,k,none⟩≠some (.int .i64 z)):TenIn w' S C c d t:={ h with r:=⟨h.r.1.else_ hE hp,h.r.2.else_ hE hp⟩ }
theorem TenO.else_ {B:Nat} {w w':Zp1} {v:Value} {t:Ten} {p:Nat} (h:TenO B w v t) (hE:Else p w w') (hp:∀k z,w.cell? ⟨p,k,none⟩≠some (.int .i64 z)) (hf:∀j,w'.frozen? ⟨p,j,none⟩=false):TenO B w' v t:=by
 obtain ⟨S,c,C,d,h1,h2,h3,h4⟩:=h;refine ⟨S,c,C,d,h1,h2.else_ hE hp,h3,λa e=>?_⟩;obtain ⟨k1,k2,k3⟩:=h4 a e;refine ⟨k1,by rw [hE.2.1];exact k2,λj=>?_⟩
 by_cases ha:a.block=p
 ·rw [ha];exact hf j
 ·have:=k3 j
  unfold World.frozen? at this ⊢;rw [hE.1 a.block ha];exact this
theorem noint {w:Zp1} {p:Nat} {T:TypeId} {cs:Array Value} (h:Blk w p T cs) (hc:∀(k:Nat) (z:Int),cs[k]?≠some (.int .i64 z)):∀k z,w.cell? ⟨p,k,none⟩≠some (.int .i64 z):=λk z e=>by
 rw [h.cell] at e;exact hc k z e
namespace Ly
theorem qdv (n:Nat):∀z∈zeros n,Fx.In z:=λz hz=>by
 have:z=0:=by unfold zeros at hz;exact (List.mem_replicate.1 hz).2
 subst this;exact Fx.in_zero
theorem qfo (n:Nat):(zeros n).length=n:=by simp [zeros]
theorem dback_bad {w b x g:Ten} (h:(denseOk w b x&&Tn.right g&&decide (g.s=b.s))=false):denseBack w b x g=((none_,none_,none_),20):=by unfold denseBack;rw [inZ (by rw [h];decide)]
theorem dback_ok {w b x g:Ten} (h:(denseOk w b x&&Tn.right g&&decide (g.s=b.s))=true):denseBack w b x g=((⟨w.s,denseW g.c x.c⟩,g,⟨x.s,denseX w.c g.c x.c g.c.length⟩),0):=by unfold denseBack;rw [ipZ h]
theorem denseX_len (w g x:List Int):∀i,(denseX w g x i).length=x.length
 | 0=>qfo _
 | _+1=>tab_len _ _
theorem denseX_in (w g x:List Int):∀i,∀z∈denseX w g x i,Fx.In z
 | 0=>qdv _
 | _+1=>tab_in λ_ _=>Fx.add_in _ _
theorem qfp (w g x:List Int) {i j:Nat} (hj:j<(denseX w g x (i+1)).length):(denseX w g x (i+1))[j]=Fx.add (at_ (denseX w g x i) j) (Fx.mul (at_ w (i*x.length+j)) (at_ g i)):=tab_get hj
theorem denseW_len (g x:List Int):(denseW g x).length=g.length*x.length:=tab_len _ _
theorem denseW_in (g x:List Int):∀z∈denseW g x,Fx.In z:=tab_in λ_ _=>Fx.mul_in _ _
theorem qfq (g x:List Int) {i j:Nat} (hj:j<x.length) (hk:i*x.length+j<(denseW g x).length):(denseW g x)[i*x.length+j]=Fx.mul (at_ g i) (at_ x j):=by
 unfold denseW at hk ⊢;rw [tab_get];have h1:(i*x.length+j) / x.length=i:=by rw [Nat.mul_comm,Nat.mul_add_div oZ,Nat.div_eq_of_lt hj,Zx]
 have h2:(i*x.length+j) % x.length=j:=by rw [Nat.mul_comm,Nat.mul_add_mod,Nat.mod_eq_of_lt hj]
 rw [h1,h2]
theorem denseW_at (g x:List Int) {i j:Nat} (hi:i<g.length) (hj:j<x.length):at_ (denseW g x) (i*x.length+j)=Fx.mul (at_ g i) (at_ x j):=by
 have hk:i*x.length+j<(denseW g x).length:=by
  rw [denseW_len];have:(i+1)*x.length<=g.length*x.length:=mlZ _ hi;rw [Zu] at this;omega
 rw [at_get hk,qfq g x hj hk]
theorem denseX_at (w g x:List Int) {i j:Nat} (hj:j<x.length):at_ (denseX w g x (i+1)) j=Fx.add (at_ (denseX w g x i) j) (Fx.mul (at_ w (i*x.length+j)) (at_ g i)):=by
 have hk:j<(denseX w g x (i+1)).length:=by rw [denseX_len];exact hj
 rw [at_get hk,qfp w g x hk]
theorem mid_put' (C L:List Int) {k:Nat} (hk:k<C.length) (hn:C.length=L.length):(C.take k++L.drop k).set k (at_ C k)=C.take (k+1)++L.drop (k+1):=by rw [at_get hk];exact mid_step C L hk hn
theorem mid_at2 (C L:List Int) {k:Nat} (hk:k<C.length) (hn:C.length=L.length):at_ (C.take k++L.drop k) k=at_ L k:=by
 unfold at_;rw [gdZ,gdZ,Zl soZ,Zo,Nat.min_eq_left oZ,Nat.sub_self,List.getElem?_drop,Zx]
theorem mid_in {C L:List Int} {k:Nat} (h1:∀z∈C,Fx.In z) (h2:∀z∈L,Fx.In z):∀z∈C.take k++L.drop k,Fx.In z:=λz hz=>by
 rcases List.mem_append.1 hz with h|h
 ·exact h1 z (Zh h)
 ·exact h2 z (Zp h)
end Ly
def GoD (r:(Ten × Ten × Ten) × Int) (w:Zp1) (e:Ending) (w':Zp1):Prop:=
 (r.2≠0/\e=.returned (.tuple #[.agg #[.slice none 0 0,.slice none 0 0,.slice none 0 0,.slice none 0 0,.slice none 0 0,.slice none 0 0],.int .i64 r.2])∨
  r.2=0/\∃S0 c0 C0 d0 S1 c1 C1 d1 S2 c2 C2 d2,e=.returned (.tuple #[.agg #[.slice S0 r.1.1.s.length c0,.slice C0 r.1.1.c.length d0,.slice S1 r.1.2.1.s.length c1,.slice C1 r.1.2.1.c.length d1,.slice S2 r.1.2.2.s.length c2,.slice C2 r.1.2.2.c.length d2],.int .i64 0])/\
   TenO w.heap.size w' (.agg #[.slice S0 r.1.1.s.length c0,.slice C0 r.1.1.c.length d0]) r.1.1/\TenO w.heap.size w' (.agg #[.slice S1 r.1.2.1.s.length c1,.slice C1 r.1.2.1.c.length d1]) r.1.2.1/\TenO w.heap.size w' (.agg #[.slice S2 r.1.2.2.s.length c2,.slice C2 r.1.2.2.c.length d2]) r.1.2.2)/\Below w.heap.size w w'
def GoC (r:(Ten × Ten) × Int) (w:Zp1) (e:Ending) (w':Zp1):Prop:=
 (r.2≠0/\e=.returned (.tuple #[.agg #[.slice none 0 0,.slice none 0 0,.slice none 0 0,.slice none 0 0],.int .i64 r.2])∨
  r.2=0/\∃S0 c0 C0 d0 S2 c2 C2 d2,e=.returned (.tuple #[.agg #[.slice S0 r.1.1.s.length c0,.slice C0 r.1.1.c.length d0,.slice S2 r.1.2.s.length c2,.slice C2 r.1.2.c.length d2],.int .i64 0])/\
   TenO w.heap.size w' (.agg #[.slice S0 r.1.1.s.length c0,.slice C0 r.1.1.c.length d0]) r.1.1/\TenO w.heap.size w' (.agg #[.slice S2 r.1.2.s.length c2,.slice C2 r.1.2.c.length d2]) r.1.2)/\Below w.heap.size w w'
theorem TnsO.one {B p:Nat} {w:Zp1} {S C:Option Addr} {c d:Nat} {t:Ten} {T:TypeId} (hb:Blk w p T #[.slice S t.s.length c,.slice C t.c.length d]) (hB:B<=p) (ht:TenO B w (.agg #[.slice S t.s.length c,.slice C t.c.length d]) t):TnsO B w (some ⟨p,0,none⟩) [t]:=by
 refine ⟨λa e=>?_,λj hj=>?_⟩
 ·injection e with e;subst e;exact ⟨p,rfl,hB,hb.lt,λk=>hb.frozen k⟩
 ·obtain rfl:j=0:=by simp at hj;omega
  exact ⟨p,S,c,C,d,rfl,hb.cell 0,hb.cell 1,ht⟩
def SgP (S C:Option Addr) (n c m d:Nat) (er:Int) (w:Zp1) (e:Ending) (w':Zp1):Prop:=
 ∃X k,e=.returned (.tuple #[.agg #[.slice none 0 0,.slice X k k],.int .i64 er])/\(er≠0->X=none/\k=0)/\(er=0->k=1/\∃p,X=some ⟨p,0,none⟩/\w.heap.size<=p/\Blk w' p 30 #[.slice S n c,.slice C m d])/\Below w.heap.size w w'
theorem qbX (S C:Option Addr) (n c m d:Nat) (er:Int) (w:Zp1):
  Calls Tryz.prog 47 #[.agg #[.slice S n c,.slice C m d],.int .i64 er] w (SgP S C n c m d er w):=by
 obtain ⟨hk,hz,hc⟩:=qaU w 30 38 #[.slice S n c,.slice C m d] #[.slice none 0 0,.slice none 0 0]
 by_cases he:er=0
 ·subst he
  obtain ⟨Hk,Hz,hd⟩:=zd3 hk hz hc;clear hk hz hc;go_enter Tryz.func47,Tryz.ntmps47;go_upto_region 1 with fail;generalize (w.alloc (.cells #[.slice S n c,.slice C m d] 30)).alloc (.cells #[.slice none 0 0,.slice none 0 0] 38)=w1 at *;have a0:w1.cell? ⟨w.heap.size,0,none⟩=some (.slice S n c):=Hk.out.cell 0;have a1:w1.cell? ⟨w.heap.size,1,none⟩=some (.slice C m d):=Hk.out.cell 1;have c0:=Hz.out.cell 0;have c1:=Hz.out.cell 1;have f0:=Hz.out.frozen 0;have f1:=Hz.out.frozen 1;have ha:=((Hz.out.set_ 0 (.slice none 0 0)).set_ 1 (.slice (some ⟨w1.heap.size,0,none⟩) 1 1)).alloc (.cells #[.slice S n c,.slice C m d] 30);have d0:=ha.cell 0;have d1:=ha.cell 1;simp at c0 c1 d0 d1;have hg:w.heap.size+1<w1.heap.size:=Hz.out.lt;have hb:=Blk.new ((w1.setCell ⟨w.heap.size+1,0,none⟩ (.slice none 0 0)).setCell ⟨w.heap.size+1,1,none⟩ (.slice (some ⟨w1.heap.size,0,none⟩) 1 1)) 30 #[.slice S n c,.slice C m d];simp only [World.size_setCell] at hb;have hl:=((hd.out.set (p:=⟨w.heap.size+1,0,none⟩) sZ (.slice none 0 0)).set (p:=⟨w.heap.size+1,1,none⟩) sZ (.slice (some ⟨w1.heap.size,0,none⟩) 1 1)).alloc (.cells #[.slice S n c,.slice C m d] 30);obtain ⟨hf,Hb,Hl⟩:=zd3 ha hb hl;clear ha hb hl;go_wp2_with fail;refine Zk1 (v:=.tuple #[.agg #[.slice none 0 0,.slice (some ⟨w1.heap.size,0,none⟩) 1 1],.int .i64 0]) (by simp [results,Tryz.results47,go_sem,d0,d1]) rfl ?_;exact ⟨some ⟨w1.heap.size,0,none⟩,1,rfl,λh=>absurd rfl h,λ_=>⟨rfl,w1.heap.size,rfl,by omega,Hb.out⟩,Hl.out⟩
 ·have e1:(er != 0)=true:=by simpa using he
  have He:=zI he;clear he;obtain ⟨Hk,Hz,hd⟩:=zd3 hk hz hc;clear hk hz hc;go_enter Tryz.func47,Tryz.ntmps47;go_upto_region 1 with fail;generalize (w.alloc (.cells #[.slice S n c,.slice C m d] 30)).alloc (.cells #[.slice none 0 0,.slice none 0 0] 38)=w1 at *;have c0:=Hz.out.cell 0;have c1:=Hz.out.cell 1;have f0:=Hz.out.frozen 0;have f1:=Hz.out.frozen 1;have ha:=(Hz.out.set_ 0 (.slice none 0 0)).set_ 1 (.slice none 0 0);have d0:=ha.cell 0;have d1:=ha.cell 1;simp at c0 c1 d0 d1;have hf:=zI ha;clear ha;go_wp2_with fail;refine Zk1 (v:=.tuple #[.agg #[.slice none 0 0,.slice none 0 0],.int .i64 er]) (by simp [results,Tryz.results47,go_sem,d0,d1]) rfl ?_;exact ⟨none,0,rfl,λ_=>⟨rfl,rfl⟩,λh=>absurd h He.out,(hd.out.set (p:=⟨w.heap.size+1,0,none⟩) sZ _).set (p:=⟨w.heap.size+1,1,none⟩) sZ _⟩
def GoBU (K:Nat) (r:Ly.Bk × Int) (w:Zp1) (e:Ending) (w':Zp1):Prop:=
 ∃A na B nb,e=.returned (.tuple #[.agg #[.slice A na na,.slice B nb nb],.int .i64 r.2])/\(r.2≠0->A=none/\na=0/\B=none/\nb=0)/\
  (r.2=0->na=r.1.p.length/\nb=r.1.x.length/\TnsO w.heap.size w' A r.1.p/\TnsO w.heap.size w' B r.1.x/\(∀a,A=some a->K<=a.block)/\∀a,B=some a->K<=a.block)/\Below w.heap.size w w'
theorem GoB.u {r:Ly.Bk × Int} {w0 w w':Zp1} {e:Ending} (h:GoB r w e w') (hb:Below w0.heap.size w0 w):GoBU w.heap.size r w0 e w':=by
 have hs:=hb.size;obtain ⟨⟨h1,rfl⟩|⟨h1,A,B,rfl,hA,hB⟩,h2⟩:=h
 ·exact ⟨none,0,none,0,rfl,λ_=>⟨rfl,rfl,rfl,rfl⟩,λh=>absurd h h1,hb.trans (h2.mono hs)⟩
 ·refine ⟨A,_,B,_,by rw [h1],λh=>absurd h1 h,λ_=>⟨rfl,rfl,hA.base hs,hB.base hs,λa e=>?_,λa e=>?_⟩,hb.trans (h2.mono hs)⟩
  ·obtain ⟨b,rfl,h3,-,-⟩:=hA.1 a e;exact h3
  ·obtain ⟨b,rfl,h3,-,-⟩:=hB.1 a e;exact h3
theorem GoBU.fin {K p:Nat} {r:Ly.Bk × Int} {w w':Zp1} {A B:Option Addr} {na nb:Nat} {T:TypeId} (h1:r.2≠0->A=none/\na=0/\B=none/\nb=0)
  (h2:r.2=0->na=r.1.p.length/\nb=r.1.x.length/\TnsO w.heap.size w' A r.1.p/\TnsO w.heap.size w' B r.1.x/\(∀a,A=some a->K<=a.block)/\∀a,B=some a->K<=a.block) (hb:Below w.heap.size w w')
  (hz:Blk w' p T #[.slice none 0 0,.slice none 0 0]) (hp:w.heap.size<=p) (hK:p<K) (u u2:Value):
  GoB r w (.returned (.tuple #[.agg #[.slice A na na,.slice B nb nb],.int .i64 r.2])) ((w'.setCell ⟨p,0,none⟩ u).setCell ⟨p,1,none⟩ u2):=by
 have hl:Below w.heap.size w ((w'.setCell ⟨p,0,none⟩ u).setCell ⟨p,1,none⟩ u2):=(Later.set (p:=⟨p,0,none⟩) hb hp _).set (p:=⟨p,1,none⟩) hp _
 by_cases he:r.2=0
 ·obtain ⟨rfl,rfl,hA,hB,k1,k2⟩:=h2 he
  refine ⟨.inr ⟨he,A,B,by rw [he],hA.box hz (λa e=>?_) _ _,hB.box hz (λa e=>?_) _ _⟩,hl⟩
  ·have:=k1 a e;omega
  ·have:=k2 a e;omega
 ·obtain ⟨rfl,rfl,rfl,rfl⟩:=h1 he
  exact ⟨.inl ⟨he,rfl⟩,hl⟩
theorem sg_u {r:Ten × Int} {w0 w w':Zp1} {S C:Option Addr} {c d:Nat} {e:Ending} (h:SgP S C r.1.s.length c r.1.c.length d r.2 w e w') (hr:r.2=0->TenO w0.heap.size w (.agg #[.slice S r.1.s.length c,.slice C r.1.c.length d]) r.1) (hb:Below w0.heap.size w0 w):GoBU w.heap.size (Ly.bsingle r) w0 e w':=by
 obtain ⟨X,k,rfl,h1,h2,h3⟩:=h;have hl:Later w w':=h3;have ha:Below w0.heap.size w0 w':=hb.trans (h3.mono hb.size)
 by_cases he:r.2=0
 ·obtain ⟨rfl,p,rfl,hp,hk⟩:=h2 he
  have e1:Ly.bsingle r=(⟨[],[r.1]⟩,0):=by unfold Ly.bsingle;rw [ipZ he]
  rw [e1,he];refine ⟨none,0,_,1,rfl,λh=>absurd rfl h,λ_=>⟨rfl,rfl,TnsO.nil _ _,TnsO.one hk (Zv hb.size hp) ((hr he).later hl),λa e=>(by cases e),λa e=>?_⟩,ha⟩;injection e with e;subst e;exact hp
 ·obtain ⟨rfl,rfl⟩:=h1 he
  have e1:Ly.bsingle r=(Ly.bnone,r.2):=by unfold Ly.bsingle;rw [inZ he]
  rw [e1];exact ⟨none,0,none,0,rfl,λ_=>⟨rfl,rfl,rfl,rfl⟩,λh=>absurd h he,ha⟩
namespace Ly
theorem turnBack_none {x g:Ten} (h:(turnBack x g).2≠0):(turnBack x g).1=none_:=by
 unfold turnBack of_ at h ⊢
 split at h
 ·rename_i h1
  rw [ipZ h1]
  split at h
  ·exact absurd rfl h
  ·rename_i h2
   rw [inZ h2]
 ·rename_i h1
  rw [inZ h1]
theorem bturn_err {x g:Ten} {s:List Int} (h:(turn x s).2≠0):bturn x g s=(bnone,(turn x s).2):=by unfold bturn;rw [inZ h]
theorem bturn_bad {x g:Ten} {s:List Int} (h:(turn x s).2=0) (hg:(Tn.right g&&(g.s==s))=false):bturn x g s=(bnone,20):=by
 unfold bturn;rw [ipZ h,inZ];intro hh;rw [Zz,decide_eq_true_eq] at hh;rw [hh.1,hh.2] at hg;simp at hg
theorem bturn_ok {x g:Ten} {s:List Int} (h:(turn x s).2=0) (hr:Tn.right g=true) (hs:g.s=s):bturn x g s=bsingle (turnBack x g):=by unfold bturn;rw [ipZ h,ipZ (by rw [hr,hs];simp)]
end Ly
set_option maxRecDepth 20000 in
theorem qeC (S C GS GC A:Option Addr) (c d gc gd ac:Nat) (x g:Ten) (s:List Int) (w:Zp1) (hx:TenIn w S C c d x) (hg:TenIn w GS GC gc gd g) (hA:Ints .i64 w A s) (hs:s.length<=1048576):
  Calls Tryz.prog 49 #[.agg #[.slice S x.s.length c,.slice C x.c.length d],.agg #[.slice GS g.s.length gc,.slice GC g.c.length gd],.slice A s.length ac] w (GoB (Ly.bturn x g s) w):=by
 obtain ⟨h3,Hd,hz,hZ⟩:=qam w 30 30 38 #[.slice S x.s.length c,.slice C x.c.length d] #[.slice GS g.s.length gc,.slice GC g.c.length gd] #[.slice none 0 0,.slice none 0 0];have lg1:=hg.l1;have lg2:=hg.l2;obtain ⟨h5,h6,Hz,hN,Hx,Hg,HA⟩:=zd7 h3 Hd hz hZ hx hg hA;clear h3 Hd hz hZ hx hg hA;go_enter Tryz.func49,Tryz.ntmps49;go_wp2_with fail;generalize ((w.alloc (.cells #[.slice S x.s.length c,.slice C x.c.length d] 30)).alloc (.cells #[.slice GS g.s.length gc,.slice GC g.c.length gd] 30)).alloc (.cells #[.slice none 0 0,.slice none 0 0] 38)=w1 at *;have ha:=qad (qe7 S C A c d ac x s w1 (Hx.out.later hN.out) (HA.out.below hN.out (lrZ _)) hs) Ly.turn_none;have hK:=Ly.bturn_err (x:=x) (g:=g) (s:=s);have hL:=Ly.bturn_bad (x:=x) (g:=g) (s:=s);have ho:=Ly.bturn_ok (x:=x) (g:=g) (s:=s);generalize Ly.turn x s=R at *;obtain ⟨hb,hJ,hE,hp⟩:=zd4 ha hK hL ho;clear ha hK hL ho;refine (hb.out).mono ?_;rintro e w2 ⟨S3,c3,C3,d3,rfl,-,-,hX⟩;have hB:Later w1 (w2.alloc (.cells #[.slice S3 R.1.s.length c3,.slice C3 R.1.c.length d3] 30)):=Later.alloc hX _;have h1:=hN.out.trans hB;have hF:=hB.blk h5.out;have hG:=hB.blk h6.out;have Hc:=hB.blk Hz.out;clear hX h5 h6 Hz hN hb;obtain ⟨Hs,hw,hS,ht,hv⟩:=zd5 hB h1 hF hG Hc;clear hB h1 hF hG Hc;go_upto_region 2 with fail;generalize w2.alloc (.cells #[.slice S3 R.1.s.length c3,.slice C3 R.1.c.length d3] 30)=w3 at *
 by_cases hR:R.2=0
 case neg=>
  have HE:=zI (hJ.out hR);have d2:(R.2 != 0)=true:=by simpa using hR
  have HR:=zI hR;clear hR;generalize R.2=ge at *;have c0:=hv.out.cell 0;have c1:=hv.out.cell 1;have f0:=hv.out.frozen 0;have f1:=hv.out.frozen 1;simp at c0 c1;go_wp2_with fail;refine Zk1 (v:=.tuple #[.agg #[.slice none 0 0,.slice none 0 0],.int .i64 ge]) (by simp [results,Tryz.results49,go_sem,c0,c1]) rfl ?_;exact GoB.fail HE.out HR.out ((hw.out.set (p:=⟨w.heap.size+2,0,none⟩) sZ _).set (p:=⟨w.heap.size+2,1,none⟩) sZ _)
 have hn:=hE.out hR;have hd:=hp.out hR;have d2:(R.2 != 0)=false:=by simpa using hR
 have d3':(R.2==0)=true:=by simpa using hR
 clear hJ hE hp hR;generalize R.2=re at *;have g0:=ht.out.cell 0;have g1:=ht.out.cell 1;simp at g0 g1;have h8:=qa2 GS GC gc gd g w3 oZ oZ (Hg.out.later hw.out).r.1;have h7:=λ(V:Zp1) (h:Later w3 V)=>qa7 GS A gc ac g.s s V oZ oZ (Hg.out.later (hw.out.trans h)).r.1 (HA.out.below (hw.out.trans h) (lrZ _))
 obtain ⟨hh,hf,hH,h0⟩:=zd4 hn hd h8 h7;clear hn hd h8 h7;cases hr:Tn.right g
 ·have HE:=zI (hh.out (by rw [hr];rfl))
  rw [hr] at hH;clear hr;go_wp2_with fail;refine (hH.out).mono ?_;rintro e w4 ⟨rfl,hM⟩;have he:Later w3 w4:=hM;have h4:=hw.out.trans he;have hD:=he.blk hv.out;have c0:=hD.cell 0;have c1:=hD.cell 1;have f0:=hD.frozen 0;have f1:=hD.frozen 1;simp at c0 c1;clear hM g0 g1;obtain ⟨hC,Hl,Ho⟩:=zd3 he h4 hD;clear he h4 hD;go_wp2_with fail;refine Zk1 (v:=.tuple #[.agg #[.slice none 0 0,.slice none 0 0],.int .i64 20]) (by simp [results,Tryz.results49,go_sem,c0,c1]) rfl ?_;exact GoB.fail HE.out dZ ((Hl.out.set (p:=⟨w.heap.size+2,0,none⟩) sZ _).set (p:=⟨w.heap.size+2,1,none⟩) sZ _)
 rw [hr] at hH;go_wp2_with fail;refine (hH.out).mono ?_;rintro e w4 ⟨rfl,hM⟩;have he:Later w3 w4:=hM;have g0':=he.cell g0;clear hM g0 g1;have hc:=h0.out _ he;cases hq:(g.s==s)
 ·have HE:=zI (hh.out (by rw [hr,hq];rfl))
  rw [hq] at hc;clear hr hq;obtain ⟨hC,hi⟩:=zd2 he hc;clear he hc;go_wp2_with fail;refine (hi.out).mono ?_;rintro e w5 ⟨rfl,q5,rfl⟩;have hu:=(hw.out.trans hC.out).drewN q5;have hk:=(hC.out.drewN q5).blk hv.out;have c0:=hk.cell 0;have c1:=hk.cell 1;have f0:=hk.frozen 0;have f1:=hk.frozen 1;simp at c0 c1;clear g0';obtain ⟨hQ,Hf⟩:=zd2 hu hk;clear hu hk;go_wp2_with fail;refine Zk1 (v:=.tuple #[.agg #[.slice none 0 0,.slice none 0 0],.int .i64 20]) (by simp [results,Tryz.results49,go_sem,c0,c1]) rfl ?_;exact GoB.fail HE.out dZ ((hQ.out.set (p:=⟨w.heap.size+2,0,none⟩) sZ _).set (p:=⟨w.heap.size+2,1,none⟩) sZ _)
 rw [hq] at hc;have HE:=zI (hf.out hr (by simpa using hq));clear hr hq;obtain ⟨hC,hi⟩:=zd2 he hc;clear he hc;go_wp2_with fail;refine (hi.out).mono ?_;rintro e w5 ⟨rfl,q5,rfl⟩;have hI:=hC.out.drewN q5;clear g0' hi h0 hH hC hh hf;generalize w4.drewN q5=w5 at *;have hu:=hw.out.trans hI;have hk:=hI.blk hv.out;have hl:=hI.blk hS.out;have hj:=hI.blk ht.out;have a0:=hl.cell 0;have a1:=hl.cell 1;have g0:=hj.cell 0;have g1:=hj.cell 1;simp at a0 a1 g0 g1;have ha:=qad (qgq S C GS GC c d gc gd x g w5 (Hx.out.later hu) (Hg.out.later hu)) Ly.turnBack_none;generalize Ly.turnBack x g=Q at *;clear hI;obtain ⟨hQ,Hf,Hk,Hn,hb⟩:=zd5 hu hk hl hj ha;clear hu hk hl hj ha;go_wp2_with fail;refine (hb.out).mono ?_;rintro e w6 ⟨S4,c4,C4,d4,rfl,-,h2,h9⟩;have hO:Later w5 w6:=h9;have Ha:=hQ.out.trans hO;have hY:=hO.blk Hf.out;have Hm:=hQ.out.size;clear h9 a0 a1 g0 g1 hb;obtain ⟨Hp,Hj,Hb,Hi⟩:=zd4 hO Ha hY h2;clear hO Ha hY h2;go_wp2_with fail;refine (qbX S4 C4 _ _ _ _ _ w6).mono ?_;intro e w7 hV;obtain ⟨A7,na,B7,nb,rfl,k1,k2,He⟩:=sg_u hV (λh=>(Hi.out h).base Hm) Hj.out;have hW:Later w6 w7:=by obtain ⟨_,_,_,_,_,h⟩:=hV;exact h
 have hm:=hW.blk Hb.out;have Hh:=Hb.out.lt;have hU:(Ly.bsingle Q).2=Q.2:=by unfold Ly.bsingle;split<;>simp_all
 rw [hU];have c0:=hm.cell 0;have c1:=hm.cell 1;have f0:=hm.frozen 0;have f1:=hm.frozen 1;have hP:=(hm.set_ 0 (.slice A7 na na)).set_ 1 (.slice B7 nb nb);have d0:=hP.cell 0;have d1:=hP.cell 1;simp at c0 c1 d0 d1;have hy:=λ(u u2:Value)=>GoBU.fin k1 k2 He hm (show w.heap.size<=w.heap.size+2 by omega) Hh u u2
 rw [hU] at hy;clear hV k1 k2 He hU;obtain ⟨Hr,Ht,Hq,hT⟩:=zd4 hW hm hP hy;clear hW hm hP hy;go_wp2_with fail;refine Zk1 (v:=.tuple #[.agg #[.slice A7 na na,.slice B7 nb nb],.int .i64 Q.2]) (by simp [results,Tryz.results49,go_sem,d0,d1]) rfl ?_;rw [HE.out];exact hT.out _ _
namespace Ly
theorem bbias_err {b x g:Ten} (h:(add x b).2≠0):bbias b x g=(bnone,(add x b).2):=by unfold bbias;rw [inZ h]
theorem bbias_bad {b x g:Ten} (h:(add x b).2=0) (hg:(Tn.right g&&(g.s==(add x b).1.s))=false):bbias b x g=(bnone,20):=by
 unfold bbias;rw [ipZ h,inZ];intro hh;rw [Zz,decide_eq_true_eq] at hh;rw [hh.1,hh.2] at hg;simp at hg
theorem bbias_ok {b x g:Ten} (h:(add x b).2=0) (hr:Tn.right g=true) (hs:g.s=(add x b).1.s):bbias b x g=(⟨[g],[g]⟩,0):=by unfold bbias;rw [ipZ h,ipZ (by rw [hr,hs];simp)]
end Ly
theorem qgr {r:Ly.Bk × Int} {w W:Zp1} {S0 C0 S1 C1:Option Addr} {c0 d0 c1 d1 p1 p2 p:Nat} {g:Ten} {T T':TypeId} (hr:r=(⟨[g],[g]⟩,0)) (hw:Below w.heap.size w W)
  (t1:TenO w.heap.size W (.agg #[.slice S0 g.s.length c0,.slice C0 g.c.length d0]) g) (t2:TenO w.heap.size W (.agg #[.slice S1 g.s.length c1,.slice C1 g.c.length d1]) g)
  (b1:Blk W p1 T #[.slice S0 g.s.length c0,.slice C0 g.c.length d0]) (b2:Blk W p2 T #[.slice S1 g.s.length c1,.slice C1 g.c.length d1]) (hz:Blk W p T' #[.slice none 0 0,.slice none 0 0]) (q0:w.heap.size<=p) (q1:p<p1) (q2:p<p2) (u u2:Value):
  GoB r w (.returned (.tuple #[.agg #[.slice (some ⟨p1,0,none⟩) 1 1,.slice (some ⟨p2,0,none⟩) 1 1],.int .i64 0])) ((W.setCell ⟨p,0,none⟩ u).setCell ⟨p,1,none⟩ u2):=by
 subst hr;have n1:p1≠p:=by omega
 have n2:p2≠p:=by omega
 exact ⟨.inr ⟨rfl,_,_,rfl,TnsO.one ((b1.far (p:=⟨p,0,none⟩) n1 _).far (p:=⟨p,1,none⟩) n1 _) oZ (t1.box hz),TnsO.one ((b2.far (p:=⟨p,0,none⟩) n2 _).far (p:=⟨p,1,none⟩) n2 _) oZ (t2.box hz)⟩,(Later.set (p:=⟨p,0,none⟩) hw q0 _).set (p:=⟨p,1,none⟩) q0 _⟩
set_option maxRecDepth 20000 in
theorem qeD (S' C' S C GS GC:Option Addr) (c' d' c d gc gd:Nat) (b x g:Ten) (w:Zp1) (hb:TenIn w S' C' c' d' b) (hx:TenIn w S C c d x) (hg:TenIn w GS GC gc gd g):
  Calls Tryz.prog 46 #[.agg #[.slice S' b.s.length c',.slice C' b.c.length d'],.agg #[.slice S x.s.length c,.slice C x.c.length d],.agg #[.slice GS g.s.length gc,.slice GC g.c.length gd]] w (GoB (Ly.bbias b x g) w):=by
 obtain ⟨Hq,Hc,Hv,hz,Hn⟩:=qbu w 30 30 30 38 #[.slice S' b.s.length c',.slice C' b.c.length d'] #[.slice S x.s.length c,.slice C x.c.length d] #[.slice GS g.s.length gc,.slice GC g.c.length gd] #[.slice none 0 0,.slice none 0 0];have lg1:=hg.l1;have lg2:=hg.l2;obtain ⟨HB,Hf,Hh,Hz,hZ,Hb,Hx,Hg⟩:=zd8 Hq Hc Hv hz Hn hb hx hg;clear Hq Hc Hv hz Hn hb hx hg;go_enter Tryz.func46,Tryz.ntmps46;go_wp2_with fail;generalize (((w.alloc (.cells #[.slice S' b.s.length c',.slice C' b.c.length d'] 30)).alloc (.cells #[.slice S x.s.length c,.slice C x.c.length d] 30)).alloc (.cells #[.slice GS g.s.length gc,.slice GC g.c.length gd] 30)).alloc (.cells #[.slice none 0 0,.slice none 0 0] 38)=w1 at *;have hv:=qad (qd4 S' C' S C c' d' c d b x w1 (Hb.out.later hZ.out) (Hx.out.later hZ.out)) Ly.add_none;have hP:=Ly.bbias_err (b:=b) (x:=x) (g:=g);have hW:=Ly.bbias_bad (b:=b) (x:=x) (g:=g);have ht:=Ly.bbias_ok (b:=b) (x:=x) (g:=g);generalize Ly.add x b=R at *;obtain ⟨hw,hV,hS,hA⟩:=zd4 hv hP hW ht;clear hv hP hW ht;refine (hw.out).mono ?_;rintro e w2 ⟨S3,c3,C3,d3,rfl,-,hO,h9⟩;have Hr:=(Later.refl w2).alloc (.cells #[.slice S3 R.1.s.length c3,.slice C3 R.1.c.length d3] 30);have Hu:=Blk.new w2 30 #[.slice S3 R.1.s.length c3,.slice C3 R.1.c.length d3]
 have Ha:R.2=0->TenIn (w2.alloc (.cells #[.slice S3 R.1.s.length c3,.slice C3 R.1.c.length d3] 30)) S3 C3 c3 d3 R.1:=λh=>by
  obtain ⟨S',c',C',d',e',hT,-,-⟩:=hO h;simp at e';obtain ⟨⟨rfl,rfl⟩,rfl,rfl⟩:=e';exact hT.later Hr
 have hH:Later w1 (w2.alloc (.cells #[.slice S3 R.1.s.length c3,.slice C3 R.1.c.length d3] 30)):=Later.alloc h9 _;have Hp:=hZ.out.trans hH;have hU:=hH.blk Hf.out;have hL:=hH.blk Hh.out;have Hm:=hH.blk Hz.out;clear h9 HB Hf Hh Hz hZ hw hO Hr;obtain ⟨HG,hI,Hy,hD,hE,He,Hk⟩:=zd7 hH Hp hU hL Hm Hu Ha;clear hH Hp hU hL Hm Hu Ha;go_upto_region 2 with fail;generalize w2.alloc (.cells #[.slice S3 R.1.s.length c3,.slice C3 R.1.c.length d3] 30)=w3 at *;generalize w2.heap.size=ob at *
 by_cases hR:R.2=0
 case neg=>
  have HE:=zI (hV.out hR);have d2:(R.2 != 0)=true:=by simpa using hR
  have HR:=zI hR;clear hR;generalize R.2=ge at *;have c0:=hE.out.cell 0;have c1:=hE.out.cell 1;have f0:=hE.out.frozen 0;have f1:=hE.out.frozen 1;simp at c0 c1;go_wp2_with fail;refine Zk1 (v:=.tuple #[.agg #[.slice none 0 0,.slice none 0 0],.int .i64 ge]) (by simp [results,Tryz.results46,go_sem,c0,c1]) rfl ?_;exact GoB.fail HE.out HR.out ((hI.out.set (p:=⟨w.heap.size+3,0,none⟩) sZ _).set (p:=⟨w.heap.size+3,1,none⟩) sZ _)
 have h4:=Hk.out hR;have lo1:=h4.l1;have o0:=He.out.cell 0;simp at o0;have hy:=hS.out hR;have hk:=hA.out hR;have d2:(R.2 != 0)=false:=by simpa using hR
 have d3':(R.2==0)=true:=by simpa using hR
 clear hV hS hA hR Hk;generalize R.2=re at *;have g0:=hD.out.cell 0;have g1:=hD.out.cell 1;simp at g0 g1;have Hj:=qa2 GS GC gc gd g w3 oZ oZ (Hg.out.later hI.out).r.1;have Hi:=λ(V:Zp1) (h:Later w3 V)=>qa7 GS S3 gc c3 g.s R.1.s V oZ oZ (Hg.out.later (hI.out.trans h)).r.1 (h4.later h).r.1
 obtain ⟨hi,hl,hM,Ho,Hw⟩:=zd5 hy hk Hj Hi h4;clear hy hk Hj Hi h4;cases hr:Tn.right g
 ·have HE:=zI (hi.out (by rw [hr];rfl))
  rw [hr] at hM;clear hr;go_wp2_with fail;refine (hM.out).mono ?_;rintro e w4 ⟨rfl,hY⟩;have he:Later w3 w4:=hY;have Hd:=hI.out.trans he;have hG:=he.blk hE.out;have c0:=hG.cell 0;have c1:=hG.cell 1;have f0:=hG.frozen 0;have f1:=hG.frozen 1;simp at c0 c1;clear hY g0 g1 o0;obtain ⟨hF,HA,HH⟩:=zd3 he Hd hG;clear he Hd hG;go_wp2_with fail;refine Zk1 (v:=.tuple #[.agg #[.slice none 0 0,.slice none 0 0],.int .i64 20]) (by simp [results,Tryz.results46,go_sem,c0,c1]) rfl ?_;exact GoB.fail HE.out dZ ((HA.out.set (p:=⟨w.heap.size+3,0,none⟩) sZ _).set (p:=⟨w.heap.size+3,1,none⟩) sZ _)
 rw [hr] at hM;go_wp2_with fail;refine (hM.out).mono ?_;rintro e w4 ⟨rfl,hY⟩;have he:Later w3 w4:=hY;have g0':=he.cell g0;have o0':=he.cell o0;clear hY g0 g1 o0;have hd:=Ho.out _ he;cases hq:(g.s==R.1.s)
 ·have HE:=zI (hi.out (by rw [hr,hq];rfl))
  rw [hq] at hd;clear hr hq;obtain ⟨hF,ho⟩:=zd2 he hd;clear he hd;go_wp2_with fail;refine (ho.out).mono ?_;rintro e w5 ⟨rfl,q5,rfl⟩;have hB:=(hI.out.trans hF.out).drewN q5;have hn:=(hF.out.drewN q5).blk hE.out;have c0:=hn.cell 0;have c1:=hn.cell 1;have f0:=hn.frozen 0;have f1:=hn.frozen 1;simp at c0 c1;clear g0' o0';obtain ⟨hJ,h5⟩:=zd2 hB hn;clear hB hn;go_wp2_with fail;refine Zk1 (v:=.tuple #[.agg #[.slice none 0 0,.slice none 0 0],.int .i64 20]) (by simp [results,Tryz.results46,go_sem,c0,c1]) rfl ?_;exact GoB.fail HE.out dZ ((hJ.out.set (p:=⟨w.heap.size+3,0,none⟩) sZ _).set (p:=⟨w.heap.size+3,1,none⟩) sZ _)
 rw [hq] at hd;have HE:=zI (hl.out hr (by simpa using hq));obtain ⟨r5,r6⟩:=Ly.right_ok hr;clear hr hq;obtain ⟨hF,ho⟩:=zd2 he hd;clear he hd;go_wp2_with fail;refine (ho.out).mono ?_;rintro e w5 ⟨rfl,q5,rfl⟩;have h2:=hF.out.drewN q5;clear g0' o0' ho Ho hM hF hi hl;generalize w4.drewN q5=w5 at *;have hB:=hI.out.trans h2;have hn:=h2.blk hE.out;have hp:=h2.blk hD.out;have g0:w5.cell? ⟨w.heap.size+2,0,none⟩=some (.slice GS g.s.length gc):=hp.cell 0;have g1:w5.cell? ⟨w.heap.size+2,1,none⟩=some (.slice GC g.c.length gd):=hp.cell 1;have Hl:=λ(V:Zp1) (h:Later w5 V)=>qa9 GS GC gc gd g V oZ oZ (Hg.out.later (hB.trans h)).r
 have h8:=hB.size;have HD:=hn.lt;clear h2 He Hw;obtain ⟨hJ,h5,HC,h7⟩:=zd4 hB hn hp Hl;clear hB hn hp Hl;go_wp2_with fail;have KF:=zI (show ∀Xw,Later w5 Xw->Xw.cell? ⟨w.heap.size+2,0,none⟩=some (.slice GS g.s.length gc)/\Xw.cell? ⟨w.heap.size+2,1,none⟩=some (.slice GC g.c.length gd) from λXw h=>⟨h.cell g0,h.cell g1⟩);refine Zm1 ?_;refine Zl1 (S:=λXw=>Xw.cell? ⟨w.heap.size+2,0,none⟩=some (.slice GS g.s.length gc)/\Xw.cell? ⟨w.heap.size+2,1,none⟩=some (.slice GC g.c.length gd)) krZ (KF.out _ Lau) (λhHeld=>?_);refine tk 0 ?_;refine tk 3 ?_;refine rd 1 λK hK=>?_
 simp only [ga,gs,gz]
 go_simp
 go_at_call 52;(with_reducible refine (h7.out _ (Lau:Later w5 _)).mono ?_);rintro e wa ⟨v,rfl,hN,HF⟩
 have Ht:=hN.o (B:=w5.heap.size) oZ oZ Hg.out.num;obtain ⟨g0',hu,rfl,-,-,-,-⟩:=hN;have h6:=zI Ht;clear Ht
 try go_wp2_with fail
 refine hK.out _ _ (KF.out _ Lau) (λhHeld=>?_);clear hK K
 try simp only [ga,gs,gz,Act.put,sa,sz,ss]
 refine Zo1 (rs:=[2,4]) krZ sZ ?_;refine Zf1 (o:=_) rfl (λK hK=>?_) (Zf1 (o:=_) rfl (λK hK=>?_) (Zg1))
 ·simp only [ga,gs,gz]
  go_simp
  refine hK.out _ _ (KF.out _ Lau) (λhHeld=>?_);clear hK K
  try simp only [ga,gs,gz,Act.put,sa,sz,ss]
  refine rd 4 λK hK=>?_
  simp only [ga,gs,gz]
  go_simp
  go_at_call 52;(with_reducible refine (h7.out _ (Lau:Later w5 _)).mono ?_);rintro e wb ⟨v,rfl,hN,Hs⟩
  have lA:Later w5 wa:=(Lau:Later w5 wa)
  have lB:Later wa wb:=(Lau:Later wa wb)
  have sA:=lA.size;have sB:=lB.size;have hQ:=hN.o oZ oZ Hg.out.num;obtain ⟨g1',hm,rfl,-,-,-,-⟩:=hN;have h3:=zI hQ;have ha:=(lA.trans lB).blk h5.out;have c0:=ha.cell 0;have c1:=ha.cell 1;have f0:=ha.frozen 0;have f1:=ha.frozen 1;simp at c0 c1;have ya:=ha.alloc (.cells #[.slice (some ⟨g1',0,none⟩) g.s.length g.s.length,.slice (some ⟨hm,0,none⟩) g.c.length g.c.length] 30);have ca0:=ya.cell 0;have ca1:=ya.cell 1;have fa0:=ya.frozen 0;have fa1:=ya.frozen 1;simp at ca0 ca1;clear ya;obtain ⟨h1,h0,hC⟩:=zd3 ha lA lB;clear hQ ha lA lB
  try go_wp2_with fail
  refine hK.out _ _ (KF.out _ Lau) (λhHeld=>?_);clear hK K
  try simp only [ga,gs,gz,Act.put,sa,sz,ss]
  refine rd 5 λK hK=>?_
  simp only [ga,gs,gz]
  go_simp
  refine hK.out _ _ (KF.out _ Lau) (λhHeld=>?_);clear hK K
  try simp only [ga,gs,gz,Act.put,sa,sz,ss]
  refine tk 6 ?_;refine rd 7 λK hK=>?_
  simp only [ga,gs,gz]
  go_simp
  refine hK.out _ _ ?_ (λhHeld=>?_)
  ·(try dsimp only);(refine ⟨?_,?_⟩<;>(repeat (refine qa0 ?_ (by first|omega|(simp;done)|(simp;omega))))<;>(refine Later.cell (Lau:Later w5 _) ?_)<;>assumption)
  clear hK K
  try simp only [ga,gs,gz,Act.put,sa,sz,ss]
  refine tk 8 ?_;clear KF;refine Zn1 krZ ?_ _;refine Zd1 ?_;have hX:Later wb (wb.alloc (.cells #[.slice (some ⟨g1',0,none⟩) g.s.length g.s.length,.slice (some ⟨hm,0,none⟩) g.c.length g.c.length] 30)):=Lau;have hj:=hX.blk h1.out;have hs:=hJ.out.trans (h0.out.trans (hC.out.trans hX));have hc:=λ(u u2:Value)=>qgr (p1:=wa.heap.size) (p2:=wb.heap.size) HE.out hs ((h6.out.base h8).later (hC.out.trans hX)) ((h3.out.base (by first|omega|(simp;omega))).later hX) (hX.blk ((show Later (wa.alloc (.cells #[.slice (some ⟨g0',0,none⟩) g.s.length g.s.length,.slice (some ⟨hu,0,none⟩) g.c.length g.c.length] 30)) wb from Hs).blk (Blk.new wa _ _))) (Blk.new wb _ _) hj oZ oZ oZ u u2
  have hh:=(hj.set_ 0 (.slice (some ⟨wa.heap.size,0,none⟩) 1 1)).set_ 1 (.slice (some ⟨wb.heap.size,0,none⟩) 1 1);have d0:=hh.cell 0;have d1:=hh.cell 1;simp at d0 d1;clear hHeld g0 g1 hX hj hs hh;have hf:=zI hc;clear hc;go_wp2_with fail;refine Zk1 (v:=.tuple #[.agg #[.slice (some ⟨wa.heap.size,0,none⟩) 1 1,.slice (some ⟨wb.heap.size,0,none⟩) 1 1],.int .i64 0]) (by simp [results,Tryz.results46,go_sem,d0,d1]) rfl ?_;exact hf.out _ _
 ·simp only [ga,gs,gz]
  go_simp
  go_at_call 52;(with_reducible refine (h7.out _ (Lau:Later w5 _)).mono ?_);rintro e wb ⟨v,rfl,hN,Hs⟩
  have lA:Later w5 wa:=(Lau:Later w5 wa)
  have lB:Later wa wb:=(Lau:Later wa wb)
  have sA:=lA.size;have sB:=lB.size;have hQ:=hN.o oZ oZ Hg.out.num;obtain ⟨g1',hm,rfl,-,-,-,-⟩:=hN;have h3:=zI hQ;have ha:=(lA.trans lB).blk h5.out;have c0:=ha.cell 0;have c1:=ha.cell 1;have f0:=ha.frozen 0;have f1:=ha.frozen 1;simp at c0 c1;have ya:=ha.alloc (.cells #[.slice (some ⟨g1',0,none⟩) g.s.length g.s.length,.slice (some ⟨hm,0,none⟩) g.c.length g.c.length] 30);have ca0:=ya.cell 0;have ca1:=ya.cell 1;have fa0:=ya.frozen 0;have fa1:=ya.frozen 1;simp at ca0 ca1;clear ya;have yb:=ha.alloc (.cells #[.slice (some ⟨g0',0,none⟩) g.s.length g.s.length,.slice (some ⟨hu,0,none⟩) g.c.length g.c.length] 30);have cb0:=yb.cell 0;have cb1:=yb.cell 1;have fb0:=yb.frozen 0;have fb1:=yb.frozen 1;simp at cb0 cb1;clear yb;have yc:=(ha.alloc (.cells #[.slice (some ⟨g0',0,none⟩) g.s.length g.s.length,.slice (some ⟨hu,0,none⟩) g.c.length g.c.length] 30)).alloc (.cells #[.slice (some ⟨g1',0,none⟩) g.s.length g.s.length,.slice (some ⟨hm,0,none⟩) g.c.length g.c.length] 30);have cc0:=yc.cell 0;have cc1:=yc.cell 1;have fc0:=yc.frozen 0;have fc1:=yc.frozen 1;simp at cc0 cc1;clear yc;have yd:=(ha.alloc (.cells #[.slice (some ⟨g1',0,none⟩) g.s.length g.s.length,.slice (some ⟨hm,0,none⟩) g.c.length g.c.length] 30)).alloc (.cells #[.slice (some ⟨g0',0,none⟩) g.s.length g.s.length,.slice (some ⟨hu,0,none⟩) g.c.length g.c.length] 30);have cd0:=yd.cell 0;have cd1:=yd.cell 1;have fd0:=yd.frozen 0;have fd1:=yd.frozen 1;simp at cd0 cd1;clear yd;obtain ⟨h1,h0,hC⟩:=zd3 ha lA lB;clear hQ ha lA lB
  try go_wp2_with fail
  refine hK.out _ _ (KF.out _ Lau) (λhHeld=>?_);clear hK K
  try simp only [ga,gs,gz,Act.put,sa,sz,ss]
  refine Zo1 (rs:=[2,5]) krZ sZ ?_;refine Zf1 (o:=_) rfl (λK hK=>?_) (Zf1 (o:=_) rfl (λK hK=>?_) (Zg1))
  ·simp only [ga,gs,gz]
   go_simp
   refine hK.out _ _ (KF.out _ Lau) (λhHeld=>?_);clear hK K
   try simp only [ga,gs,gz,Act.put,sa,sz,ss]
   refine rd 5 λK hK=>?_
   simp only [ga,gs,gz]
   go_simp
   refine hK.out _ _ (KF.out _ Lau) (λhHeld=>?_);clear hK K
   try simp only [ga,gs,gz,Act.put,sa,sz,ss]
   refine tk 6 ?_;refine rd 7 λK hK=>?_
   simp only [ga,gs,gz]
   go_simp
   refine hK.out _ _ ?_ (λhHeld=>?_)
   ·(try dsimp only);(refine ⟨?_,?_⟩<;>(repeat (refine qa0 ?_ (by first|omega|(simp;done)|(simp;omega))))<;>(refine Later.cell (Lau:Later w5 _) ?_)<;>assumption)
   clear hK K
   try simp only [ga,gs,gz,Act.put,sa,sz,ss]
   refine tk 8 ?_;clear KF;refine Zn1 krZ ?_ _;refine Zd1 ?_;have hX:Later wb ((wb.alloc (.cells #[.slice (some ⟨g0',0,none⟩) g.s.length g.s.length,.slice (some ⟨hu,0,none⟩) g.c.length g.c.length] 30)).alloc (.cells #[.slice (some ⟨g1',0,none⟩) g.s.length g.s.length,.slice (some ⟨hm,0,none⟩) g.c.length g.c.length] 30)):=Lau;have hj:=hX.blk h1.out;have hs:=hJ.out.trans (h0.out.trans (hC.out.trans hX));have hc:=λ(u u2:Value)=>qgr (p1:=wb.heap.size) (p2:=(wb.heap.size+1)) HE.out hs ((h6.out.base h8).later (hC.out.trans hX)) ((h3.out.base (by first|omega|(simp;omega))).later hX) ((Blk.new wb _ _).alloc _) (by have:=Blk.new (wb.alloc (.cells #[.slice (some ⟨g0',0,none⟩) g.s.length g.s.length,.slice (some ⟨hu,0,none⟩) g.c.length g.c.length] 30)) 30 #[.slice (some ⟨g1',0,none⟩) g.s.length g.s.length,.slice (some ⟨hm,0,none⟩) g.c.length g.c.length];rwa [Zh1] at this) hj oZ oZ oZ u u2
   have hh:=(hj.set_ 0 (.slice (some ⟨wb.heap.size,0,none⟩) 1 1)).set_ 1 (.slice (some ⟨(wb.heap.size+1),0,none⟩) 1 1);have d0:=hh.cell 0;have d1:=hh.cell 1;simp at d0 d1;clear hHeld g0 g1 hX hj hs hh;have hf:=zI hc;clear hc;go_wp2_with fail;refine Zk1 (v:=.tuple #[.agg #[.slice (some ⟨wb.heap.size,0,none⟩) 1 1,.slice (some ⟨(wb.heap.size+1),0,none⟩) 1 1],.int .i64 0]) (by simp [results,Tryz.results46,go_sem,d0,d1]) rfl ?_;exact hf.out _ _
  ·simp only [ga,gs,gz]
   go_simp
   refine hK.out _ _ (KF.out _ Lau) (λhHeld=>?_);clear hK K
   try simp only [ga,gs,gz,Act.put,sa,sz,ss]
   refine rd 2 λK hK=>?_
   simp only [ga,gs,gz]
   go_simp
   refine hK.out _ _ (KF.out _ Lau) (λhHeld=>?_);clear hK K
   try simp only [ga,gs,gz,Act.put,sa,sz,ss]
   refine tk 6 ?_;refine rd 7 λK hK=>?_
   simp only [ga,gs,gz]
   go_simp
   refine hK.out _ _ ?_ (λhHeld=>?_)
   ·(try dsimp only);(refine ⟨?_,?_⟩<;>(repeat (refine qa0 ?_ (by first|omega|(simp;done)|(simp;omega))))<;>(refine Later.cell (Lau:Later w5 _) ?_)<;>assumption)
   clear hK K
   try simp only [ga,gs,gz,Act.put,sa,sz,ss]
   refine tk 8 ?_;clear KF;refine Zn1 krZ ?_ _;refine Zd1 ?_;have hX:Later wb ((wb.alloc (.cells #[.slice (some ⟨g1',0,none⟩) g.s.length g.s.length,.slice (some ⟨hm,0,none⟩) g.c.length g.c.length] 30)).alloc (.cells #[.slice (some ⟨g0',0,none⟩) g.s.length g.s.length,.slice (some ⟨hu,0,none⟩) g.c.length g.c.length] 30)):=Lau;have hj:=hX.blk h1.out;have hs:=hJ.out.trans (h0.out.trans (hC.out.trans hX));have hc:=λ(u u2:Value)=>qgr (p1:=(wb.heap.size+1)) (p2:=wb.heap.size) HE.out hs ((h6.out.base h8).later (hC.out.trans hX)) ((h3.out.base (by first|omega|(simp;omega))).later hX) (by have:=Blk.new (wb.alloc (.cells #[.slice (some ⟨g1',0,none⟩) g.s.length g.s.length,.slice (some ⟨hm,0,none⟩) g.c.length g.c.length] 30)) 30 #[.slice (some ⟨g0',0,none⟩) g.s.length g.s.length,.slice (some ⟨hu,0,none⟩) g.c.length g.c.length];rwa [Zh1] at this) ((Blk.new wb _ _).alloc _) hj oZ oZ oZ u u2
   have hh:=(hj.set_ 0 (.slice (some ⟨(wb.heap.size+1),0,none⟩) 1 1)).set_ 1 (.slice (some ⟨wb.heap.size,0,none⟩) 1 1);have d0:=hh.cell 0;have d1:=hh.cell 1;simp at d0 d1;clear hHeld g0 g1 hX hj hs hh;have hf:=zI hc;clear hc;go_wp2_with fail;refine Zk1 (v:=.tuple #[.agg #[.slice (some ⟨(wb.heap.size+1),0,none⟩) 1 1,.slice (some ⟨wb.heap.size,0,none⟩) 1 1],.int .i64 0]) (by simp [results,Tryz.results46,go_sem,d0,d1]) rfl ?_;exact hf.out _ _
theorem qfr (f:Int->Value) (L l:List Int) (o:Nat):splice (L.map f) o (l.map f)=(splice L o l).map f:=by
 simp [splice,List.map_append,List.map_take,List.map_drop]
theorem qbz {P:Program} {ops:Array Oper} {o:Oper} {a:Act} {w:Zp1} {K:Act->Zp1->Prop} {Q:Exit->Act->Zp1->Prop} {E:Prop} (hgd:o.guard=none) (d s:Operand) (dT sT:TypeId)
  (ho:o.op=.call { callee:=.builtin .copy,args:=#[d,s],argTypes:=#[dT,sT] }) (elem:TypeId) (hu:P.underlying dT=some (.slice elem)) (hsz:(P.info? elem).map (·.size)=some 1)
  (g off dLen dCap:Nat) (ad:Addr) (sLen sCap:Nat) (hd:a.eval d=.slice (some ⟨g,off,none⟩) dLen dCap) (hs:a.eval s=.slice (some ad) sLen sCap)
  (cur l:List Int) (t:TypeId) (hk:Blk w g t (cur.map (Za1 .i64)).toArray) (hn:l.length=Nat.min sLen dLen)
  (hsrc:∀j (hj:j<l.length),w.cell? (ad.add j)=some (.int .i64 l[j])) (hfit:off+l.length<=cur.length)
  (h:∀w',Blk w' g t ((splice cur off l).map (Za1 .i64)).toArray->Else g w w'->K (a.put o.dst (goInt l.length)) w'):
  if Region.wanted o (yielded ops a.tmps)=true then Oper.wp P o a w K Q else E:=by
 have hw:Region.wanted o (yielded ops a.tmps)=true:=by simp [Region.wanted,hgd]
 rw [ipZ hw]
 have ha:=run_copy_row (P:=P) w dT sT o.type elem g off dLen dCap ad sLen sCap (cur.map (Za1 .i64)).toArray t (l.map (Za1 .i64)) hu hsz hk (by simpa using hn)
  (λj v hj=>by
   rw [List.getElem?_map] at hj;cases hq:l[j]? with
   | none=>rw [hq] at hj;simp at hj
   | some z=>
    rw [hq] at hj;simp at hj;subst hj;obtain ⟨hb,hz⟩:=List.getElem?_eq_some_iff.1 hq;rw [hsrc j hb,hz]) (by simpa using hfit) (λv hv=>by obtain ⟨z,_,rfl⟩:=List.mem_map.1 hv;rfl)
 unfold Oper.wp;simp [execOp,ho,resolve,invoke,builtin,hd,hs,ha,Result.andThen];refine h _ ?_ ⟨λk hc=>setRow_other w g k _ hc,by simp [World.setRow],below_setRow (Ze1 _ _) (lrZ _) _⟩;rw [←qfr]
 show _=_
 simpa [splice] using setRow_heap w g _ _ t _ hk
structure PbI (t:TypeId) (w:Zp1) (q h gg:Nat) (bx bg bb:Array Value) (sh acc:List Int) (wx:Zp1):Prop where
 own:Blk wx h 22 (acc.map (Za1 .i64)).toArray
 shp:Blk wx gg 3 (sh.map (Za1 .i64)).toArray
 box:Blk wx q t bb
 bx:Blk wx w.heap.size t bx
 bg:Blk wx (w.heap.size+1) t bg
 bz:Blk wx (w.heap.size+2) t #[.slice none 0 0,.slice none 0 0]
 lo:gg≠h/\q≠h/\w.heap.size+2<h/\w.heap.size<=gg
 later:Later w wx
theorem PbI.to {t:TypeId} {w wx wy:Zp1} {q h gg:Nat} {bx bg bb:Array Value} {sh acc:List Int} (H:PbI t w q h gg bx bg bb sh acc wx) (hl:Later wx wy):PbI t w q h gg bx bg bb sh acc wy:=
 ⟨hl.blk H.own,hl.blk H.shp,hl.blk H.box,hl.blk H.bx,hl.blk H.bg,hl.blk H.bz,H.lo,H.later.trans hl⟩
theorem PbI.else_ {t:TypeId} {w wx wy:Zp1} {q h gg:Nat} {bx bg bb:Array Value} {sh acc acc':List Int} (H:PbI t w q h gg bx bg bb sh acc wx) (hE:Else h wx wy) (hb:Blk wy h 22 (acc'.map (Za1 .i64)).toArray):PbI t w q h gg bx bg bb sh acc' wy:=by
 obtain ⟨l0,l1,l2,l3⟩:=H.lo;exact ⟨hb,hE.blk l0 H.shp,hE.blk l1 H.box,hE.blk oZ H.bx,hE.blk oZ H.bg,hE.blk oZ H.bz,H.lo,hE.below H.later oZ⟩
theorem PbI.put {t:TypeId} {w wx:Zp1} {q h gg:Nat} {bx bg bb:Array Value} {sh acc:List Int} (H:PbI t w q h gg bx bg bb sh acc wx) (k:Nat) (z:Int):PbI t w q h gg bx bg bb sh (acc.set k z) (wx.setCell ⟨h,k,none⟩ (.int .i64 z)):=
 H.else_ ((Else.refl _ _).setCell k _) (by have:=H.own.set_ k (.int .i64 z);rw [List.map_set];simpa using this)
theorem PbI.done {t:TypeId} {r:Ten × Int} {w wx:Zp1} {q h gg n:Nat} {bx bg bb:Array Value} {sh acc:List Int} (H:PbI t w q h gg bx bg bb sh acc wx) (hr:r=(⟨sh,acc⟩,0)) (hn:acc.length=n) (l1:sh.length<=1048576) (l2:acc.length<=1048576) (hi:∀z∈acc,Fx.In z) (u u2:Value):
  GoP r w (.returned (.tuple #[.agg #[.slice (some ⟨gg,0,none⟩) sh.length sh.length,.slice (some ⟨h,0,none⟩) n n],.int .i64 0])) ((wx.setCell ⟨w.heap.size+2,0,none⟩ u).setCell ⟨w.heap.size+2,1,none⟩ u2):=by
 subst hn;obtain ⟨m0,m1,m2,m3⟩:=H.lo;exact GoP.ok hr ((qb6 H.shp H.own m3 oZ l1 l2 hi rfl).box H.bz) ((H.later.set (p:=⟨w.heap.size+2,0,none⟩) sZ _).set (p:=⟨w.heap.size+2,1,none⟩) sZ _)
namespace Ly
theorem pback_err {top:Bool} {x g:Ten} {width step:Int} (h:poolErr x width step≠0):poolBack top x g width step=(none_,poolErr x width step):=by unfold poolBack;rw [inZ h]
theorem pback_bad {top:Bool} {x g:Ten} {width step:Int} (h:poolErr x width step=0) (hg:(Tn.right g&&decide (g.s=poolS x width step))=false):poolBack top x g width step=(none_,20):=by unfold poolBack;rw [ipZ h,inZ (by simp [hg])]
theorem pback_ok {top:Bool} {x g:Ten} {width step:Int} (h:poolErr x width step=0) (hg:(Tn.right g&&decide (g.s=poolS x width step))=true):poolBack top x g width step=(⟨x.s,poolX top x.c g.c (qby x.s) (qby (poolS x width step)) width step.toNat g.c.length⟩,0):=by unfold poolBack;rw [ipZ h,ipZ hg]
theorem addRow_facts {l:List Int} (hl:∀z∈l,Fx.In z) (a:Nat) {v:Int} (hv:Fx.In v):∀k,(addRow l a v k).length=l.length/\∀z∈addRow l a v k,Fx.In z
 | 0=>⟨rfl,hl⟩
 | k+1=>by
  obtain ⟨h1,h2⟩:=addRow_facts hl a hv k;exact ⟨by show (addAt _ _ _).length=_;rw [qaK,h1],qbV h2 hv⟩
theorem poolX_facts {top:Bool} {x g:List Int} (hg:∀z∈g,Fx.In z) (sd n:Nat) (width:Int) (st:Nat):∀k,(poolX top x g sd n width st k).length=x.length/\∀z∈poolX top x g sd n width st k,Fx.In z
 | 0=>⟨by simp [poolX,zeros],qdv _⟩
 | k+1=>by
  obtain ⟨h1,h2⟩:=poolX_facts (top:=top) (x:=x) hg sd n width st k
  have hv:Fx.In (at_ g k):=by
   unfold at_;rw [gdZ];cases h:g[k]? with
   | none=>unfold Fx.In;simp
   | some z=>exact hg z (List.mem_of_getElem? h)
  show (poolStep _ _ _ _ _ _ _ _ _).length=_/\∀z∈poolStep _ _ _ _ _ _ _ _ _,Fx.In z
  unfold poolStep
  split
  ·exact ⟨by rw [qaK,h1],qbV h2 hv⟩
  ·have:=addRow_facts h2 (from_ sd n st k) (Fx.div_in (at_ g k) (width*4294967296)) width.toNat
   exact ⟨by rw [this.1,h1],this.2⟩
end Ly
set_option maxRecDepth 20000 in
theorem qe8 (top:Bool) (kind:Int) (S C GS GC:Option Addr) (c d gc gd:Nat) (x g:Ten) (width step:Int) (w:Zp1) (hkt:(kind=1/\top=true)∨(kind=2/\top=false)) (hx:TenIn w S C c d x) (hg:TenIn w GS GC gc gd g):
  Calls Tryz.prog 14 #[.int .i64 kind,.agg #[.slice S x.s.length c,.slice C x.c.length d],.agg #[.slice GS g.s.length gc,.slice GC g.c.length gd],.int .i64 width,.int .i64 step] w (GoP (Ly.poolBack top x g width step) w):=by
 obtain ⟨gu,g9,hz,gT⟩:=qam w 30 30 30 #[.slice S x.s.length c,.slice C x.c.length d] #[.slice GS g.s.length gc,.slice GC g.c.length gd] #[.slice none 0 0,.slice none 0 0];obtain ⟨gy,gC,Hz,HM,Hx,Hg,gZ⟩:=zd7 gu g9 hz gT hx hg hkt;clear gu g9 hz gT hx hg hkt;go_enter Tryz.func14,Tryz.ntmps14;go_wp2_with fail;generalize ((w.alloc (.cells #[.slice S x.s.length c,.slice C x.c.length d] 30)).alloc (.cells #[.slice GS g.s.length gc,.slice GC g.c.length gd] 30)).alloc (.cells #[.slice none 0 0,.slice none 0 0] 30)=w1 at *;refine (qd9 kind S C c d x width step w1 (by rcases gZ.out with h|h<;>omega) (Hx.out.later HM.out)).mono ?_;rintro e w2 ⟨A,ac,rfl,hI,Gd,GK,hf,gj⟩;have hM:Later w1 w2:=gj;have hZ:=HM.out.trans hM;have hF:=hM.blk Hz.out;have hC:=hM.blk gy.out;have hl:=hM.blk gC.out;clear gj Hz HM gy gC hM hf;rw [Ly.poolR_err]
 by_cases hy:Ly.poolErr x width step=0
 case neg=>
  have HE:=zI (Ly.pback_err (top:=top) (g:=g) hy);have d1:(Ly.poolErr x width step==0)=false:=by simpa using hy
  have d2:(Ly.poolErr x width step != 0)=true:=by simpa using hy
  have Go:=zI hy;clear hy;generalize Ly.poolErr x width step=er at *;generalize (Ly.poolR x width step).1.length=sl at *;have c0:=hF.cell 0;have c1:=hF.cell 1;have f0:=hF.frozen 0;have f1:=hF.frozen 1;simp at c0 c1;obtain ⟨Ha,Hn,hU,hT,HI⟩:=zd5 hZ hF hC hl hI;clear hZ hF hC hl hI;go_wp2_with fail;refine Zk1 (v:=.tuple #[.agg #[.slice none 0 0,.slice none 0 0],.int .i64 er]) (by simp [results,Tryz.results14,go_sem,c0,c1]) rfl ?_;exact GoP.fail HE.out Go.out ((Ha.out.set (p:=⟨w.heap.size+2,0,none⟩) sZ _).set (p:=⟨w.heap.size+2,1,none⟩) sZ _)
 obtain ⟨sd,n,wd,st,pre,h1,h2,h3,h4,rfl,rfl,h5,h6,h7,h8,h9,gM,gt,hM,GJ,GP,Gb,gx,GI,GQ,gF,gK,H7,gS⟩:=Ly.pool_facts hy;have Hw:=λh=>Ly.pback_bad (top:=top) (g:=g) hy h
 have hu:=λh=>Ly.pback_ok (top:=top) (g:=g) hy h
 rw [hy];rw [H7] at hI Gd ⊢;rw [h1,h3,tnZ] at hu;generalize Ly.poolS x wd st=os at *;have GO:os.length<=4:=by omega
 have Gp:1<=os.length:=by omega
 obtain ⟨H1,H2,H3,H4,HF,GD,gI,Gs,GN⟩:=zd9 h1 h2 h3 h4 gM gt hM Gb H7;have gr:=zI gS;clear h1 h2 h3 h4 gM gt hM Gb H7 gS;have g0:w2.cell? ⟨w.heap.size+1,0,none⟩=_:=hl.cell 0;have g1:w2.cell? ⟨w.heap.size+1,1,none⟩=_:=hl.cell 1;simp at g0 g1;have Gi:=Hg.out.l1;have Gx:=Hg.out.l2;have gE:=qa2 GS GC gc gd g w2 oZ oZ (Hg.out.later hZ).r.1;have gD:=λ(V:Zp1) (h:Later w2 V)=>qa7 GS A gc ac g.s os V oZ oZ (Hg.out.later (hZ.trans h)).r.1 (hI.below h (lrZ _))
 clear hy;obtain ⟨Ha,Hn,hU,hT,HI,hS,hL,Hh,gV⟩:=zd9 hZ hF hC hl hI Hw hu gE gD;clear hZ hF hC hl hI Hw hu gE gD;have Hp:∀wf,Later w2 wf->(Tn.right g&&decide (g.s=os))=false->True:=λ_ _ _=>trivial
 clear Hp;cases hr:Tn.right g
 ·have HE:=zI (hS.out (by rw [hr];rfl))
  rw [hr] at Hh;go_wp2_with fail;refine (Hh.out).mono ?_;rintro e w3 ⟨rfl,Hd⟩;have hp:Later w2 w3:=Hd;have ha:=hp.blk Hn.out;have Hr:=Ha.out.trans hp;have c0:=ha.cell 0;have c1:=ha.cell 1;have f0:=ha.frozen 0;have f1:=ha.frozen 1;simp at c0 c1;clear g0 g1 Hd;obtain ⟨hY,gl,HW⟩:=zd3 hp ha Hr;clear hp ha Hr;go_wp2_with fail;refine Zk1 (v:=.tuple #[.agg #[.slice none 0 0,.slice none 0 0],.int .i64 20]) (by simp [results,Tryz.results14,go_sem,c0,c1]) rfl ?_;exact GoP.fail HE.out dZ ((HW.out.set (p:=⟨w.heap.size+2,0,none⟩) sZ _).set (p:=⟨w.heap.size+2,1,none⟩) sZ _)
 rw [hr] at Hh;go_wp2_with fail;refine (Hh.out).mono ?_;rintro e w3 ⟨rfl,Hd⟩;have hp:Later w2 w3:=Hd;have g0':=hp.cell g0;clear Hd g0 g1;have hn:=gV.out _ hp;cases hq:(g.s==os)
 ·have HE:=zI (hS.out (by rw [hr];simpa using hq))
  rw [hq] at hn;obtain ⟨hY,hA⟩:=zd2 hp hn;clear hp hn;go_wp2_with fail;refine (hA.out).mono ?_;rintro e w4 ⟨rfl,q4,rfl⟩;have ha:=(hY.out.drewN q4).blk Hn.out;have Hr:=(Ha.out.trans hY.out).drewN q4;have c0:=ha.cell 0;have c1:=ha.cell 1;have f0:=ha.frozen 0;have f1:=ha.frozen 1;simp at c0 c1;clear g0';obtain ⟨gl,HW⟩:=zd2 ha Hr;clear ha Hr;go_wp2_with fail;refine Zk1 (v:=.tuple #[.agg #[.slice none 0 0,.slice none 0 0],.int .i64 20]) (by simp [results,Tryz.results14,go_sem,c0,c1]) rfl ?_;exact GoP.fail HE.out dZ ((HW.out.set (p:=⟨w.heap.size+2,0,none⟩) sZ _).set (p:=⟨w.heap.size+2,1,none⟩) sZ _)
 have HE:=zI (hL.out (by rw [hr];simpa using hq));rw [hq] at hn;have HX:g.s=os:=by simpa using hq
 have g4:g.c.length=pre*n:=by
  have h0:(g.c.length:Int)=Safe.prod g.s:=by have:=hr;simp only [Tn.right,Zz,decide_eq_true_eq] at this;exact this.2
  rw [HX,gr.out] at h0;exact Int.ofNat.inj h0
 obtain ⟨hY,hA,Gq,GH⟩:=zd4 hp hn g4 HX;clear hp hn g4 HX;clear hS hL hq hr;go_wp2_with fail;refine (hA.out).mono ?_;rintro e w4 ⟨rfl,q4,rfl⟩;have hX:=hY.out.drewN q4;clear g0' hA gV Hh hY;generalize w3.drewN q4=w4 at *;have gv:=Ha.out.trans hX;have hD:=hX.blk hU.out;have Hq:=hX.blk hT.out;have gO:=hX.blk Hn.out;have go:=HI.out.below hX (lrZ _);clear hX Ha hU hT Hn HI;have b0:w4.cell? ⟨w.heap.size,0,none⟩=_:=hD.cell 0;have b1:w4.cell? ⟨w.heap.size,1,none⟩=_:=hD.cell 1;simp at b0 b1;obtain ⟨HD,Hk,Hc,HV,gf⟩:=zd5 gv hD Hq gO go;clear gv hD Hq gO go;go_wp2_with fail;refine (qa9 S C c d x w4 oZ oZ (Hx.out.later HD.out).r).mono ?_;rintro e w5 ⟨v,rfl,⟨gg,h,rfl,GM,hh,hG,hH⟩,gp⟩;have H5:Later w4 w5:=gp;have Hf:Later w5 (w5.alloc (.cells #[.slice (some ⟨gg,0,none⟩) x.s.length x.s.length,.slice (some ⟨h,0,none⟩) x.c.length x.c.length] 30)):=(Later.refl w5).alloc _;have ho:=Blk.new w5 30 #[.slice (some ⟨gg,0,none⟩) x.s.length x.s.length,.slice (some ⟨h,0,none⟩) x.c.length x.c.length];have hP:=H5.trans Hf;have g7:=HD.out.trans hP;have He:=hP.blk Hk.out;have Hy:=hP.blk Hc.out;have gP:=hP.blk HV.out;have HY:=gf;have gX:=gf.out.below hP (lrZ _);have g3:=Hf.blk hG;have Ga:=Hf.blk hH;have GB:=HV.out.lt;have HR:=qb1 hG hH;have GL:=hH.lt;have Gn:=hG.lt;have Gg:=HD.out.size;clear gp b0 b1 hG hH HD Hk Hc HV gf;obtain ⟨Gv,Gu,Ho,Gj,Gr,HH,HL,Gy,GE⟩:=zd9 H5 Hf ho hP g7 He Hy gP gX;obtain ⟨Gw,gL⟩:=zd2 g3 Ga;clear H5 Hf ho hP g7 He Hy gP gX g3 Ga;go_upto_region 7 with fail;generalize w5.alloc (.cells #[.slice (some ⟨gg,0,none⟩) x.s.length x.s.length,.slice (some ⟨h,0,none⟩) x.c.length x.c.length] 30)=w6 at *;generalize hqe:w5.heap.size=q at *;have gh:gg≠h:=HR;have HT:q≠h:=by omega
 have Gz:w.heap.size+2<h:=by omega
 have gb:0<x.c.length:=by
  have e1:=(Sh.right_mul Gs.out).2.2.2.2.1;rw [gr.out] at e1
  have e2:1<=pre:=by
   rcases Nat.eq_zero_or_pos pre with h0|h0
   ·rw [h0,Nat.zero_mul] at e1;simp at e1
   ·exact h0
  have e3:1*1<=pre*sd:=Nat.mul_le_mul e2 oZ;have:=HF.out;omega
 clear Gv Gu hqe;have o1:w6.cell? ⟨q,1,none⟩=_:=Ho.out.cell 1;simp at o1;go_wp2_with (refine qaL rfl (.tmp 48) 28 22 rfl Tryz.underlying28 Tryz.zeroValue22 h 22 x.c x.c.length rfl gL.out gb ?_);intro w7 gn gi;have HB:PbI 30 w q h gg #[.slice S x.s.length c,.slice C x.c.length d] #[.slice GS g.s.length gc,.slice GC g.c.length gd] #[.slice (some ⟨gg,0,none⟩) x.s.length x.s.length,.slice (some ⟨h,0,none⟩) x.c.length x.c.length] x.s (Ly.zeros x.c.length) w7:=(PbI.mk (acc:=x.c) gL.out Gw.out Ho.out HH.out HL.out Gy.out ⟨gh,HT,Gz,by omega⟩ Gr.out).else_ gi gn;have gq:Later w4 w7:=Below.trans Gj.out (gi.2.2.mono hh);have gm:=HY.out.below gq (lrZ _);obtain ⟨bs,os',rfl,-,y0⟩:=(Hx.out.later HB.later).r.1 (x.s.length-1) oZ;obtain ⟨ba,oa,rfl,-,y1o⟩:=gm (x.s.length-1) (by show _<os.length;have:=gI.out;omega);rw [H2.out] at y0;have y1:w7.cell? ⟨ba,oa+(x.s.length-1),none⟩=some (.int .i64 n):=by rw [y1o];exact congrArg (λz=>some (Za1 .i64 z)) H4.out
 clear y1o;have b0:w7.cell? ⟨w.heap.size,0,none⟩=some (.slice (some ⟨bs,os',none⟩) x.s.length c):=by rw [HB.bx.cell];rfl
 have e1:IntKind.i64.wrap ((x.s.length:Int)-1)=(x.s.length:Int)-1:=Zc1 _ oZ;have e2:(0:Int)<=(x.s.length:Int)-1:=by omega
 have e3:(x.s.length:Int)-1<(x.s.length:Int):=by omega
 have e4:((x.s.length:Int)-1).toNat=x.s.length-1:=by omega
 clear gn gi o1 gm gq;have H6:=zI HB;clear HB;rw [gI.out];go_upto_region 8 with fail
 go_quiet (fail)
 clear e1 e2 e3 e4 b0 y0 y1;have g1:(w7.drewN nq).cell? ⟨w.heap.size+1,1,none⟩=some (.slice GC g.c.length gd):=by rw [(H6.out.bg.drewN nq).cell];rfl
 obtain ⟨N,hN⟩:∃N,N=pre*n:=⟨_,rfl⟩
 have HU:g.c.length=N:=by rw [hN];exact Gq.out
 have gB:PbI 30 w q h gg #[.slice (some ⟨bs,os',none⟩) x.s.length c,.slice C x.c.length d] #[.slice GS g.s.length gc,.slice GC g.c.length gd] #[.slice (some ⟨gg,0,none⟩) x.s.length x.s.length,.slice (some ⟨h,0,none⟩) x.c.length x.c.length] x.s (Ly.poolX top x.c g.c sd n (wd:Int) st 0) (w7.drewN nq):=H6.out.to ((Later.refl w7).drewN nq);have ge:x.c.length<=d:=Hx.out.c1;have Gk:d<=9223372036854775807:=Hx.out.c2;have hv:=Ly.poolX_facts (top:=top) (x:=x.c) Hg.out.num sd n (wd:Int) st;rw [HU] at HE;obtain ⟨g2,HO,HN,hs⟩:=zd4 gB HU hN hv;clear gB HU hN hv;go_wp2_with fail;clear g1
 go_loopw [65] (λi wx=>∃k:Nat,k<=N/\i=.int .i64 (k:Int)/\PbI 30 w q h gg #[.slice (some ⟨bs,os',none⟩) x.s.length c,.slice C x.c.length d] #[.slice GS g.s.length gc,.slice GC g.c.length gd] #[.slice (some ⟨gg,0,none⟩) x.s.length x.s.length,.slice (some ⟨h,0,none⟩) x.c.length x.c.length] x.s (Ly.poolX top x.c g.c sd n (wd:Int) st k) wx) (λi _=>N-(intOf i).toNat)
 case atStart=>exact ⟨0,Zt _,rfl,g2.out⟩
 case round=>
  obtain ⟨k,hk,rfl,hJ⟩:=hrel;clear g2 H6
  by_cases GA:k<N
  ·have H8:k<pre*n:=by have:=HN.out;omega
   have HP:=Ly.from_bd (pre:=pre) (sd:=sd) h8 h9 H8;rw [←HF.out] at HP;obtain ⟨hB,HA⟩:=hs.out k;obtain ⟨bc,oc,rfl,Gt,-⟩:=Hx.out.cell (k:=0) oZ;obtain ⟨bg,og,rfl,-,gk⟩:=(Hg.out.later hJ.later).cell (k:=k) (by have:=HO.out;omega);have Hv:=Ly.at_in Hg.out.num k;have gR:=Ly.win_len (c:=x.c) (sd:=sd) (n:=n) (wd:=wd) (st:=st) (i:=k) HP;have gQ:=λ(V:Zp1)=>qbH bc oc d x.c.length sd n wd st pre k V ge Gk HF.out gx h8 h5 h9 H8 (by have:=HN.out;omega) gK gF
   have gY:=λ(V:Zp1)=>(show Calls Tryz.prog 59 #[.slice (some ⟨h,0,none⟩) x.c.length x.c.length,.int .i64 k,.int .i64 sd,.int .i64 n,.int .i64 wd,.int .i64 st] V λe w'=>e=.returned (.slice (some ⟨h,Ly.from_ sd n st k,none⟩) wd (x.c.length-Ly.from_ sd n st k))/\∃q,w'=V.drewN q from by
    have:=qbH h 0 x.c.length x.c.length sd n wd st pre k V (lrZ _) oZ HF.out gx h8 h5 h9 H8 (by have:=HN.out;omega) gK gF
    rwa [Zw] at this)
   have gA:=λ(V:Zp1) (hV:Later wr V)=>(Hx.out.later (hJ.later.trans hV)).win (sd:=sd) (n:=n) (st:=st) (i:=k) (wd:=wd) HP
   have hb:Ly.poolX top x.c g.c sd n (wd:Int) st (k+1)=Ly.poolStep top x.c sd n (wd:Int) st (Ly.poolX top x.c g.c sd n (wd:Int) st k) k (Ly.at_ g.c k):=rfl;unfold Ly.poolStep at hb;rw [tnZ] at hb;obtain ⟨acc',hacc⟩:∃acc',acc'=Ly.poolX top x.c g.c sd n (wd:Int) st (k+1):=⟨_,rfl⟩
   rw [←hacc] at hb;generalize Ly.poolX top x.c g.c sd n (wd:Int) st k=acc at *;generalize Ly.at_ g.c k=vk at *;generalize Ly.from_ sd n st k=fr at *;generalize Ly.win x.c sd n wd st k=wn at *;have b1:wr.cell? ⟨w.heap.size,1,none⟩=some (.slice (some ⟨bc,oc,none⟩) x.c.length d):=by rw [hJ.bx.cell];rfl
   have o1:wr.cell? ⟨q,1,none⟩=some (.slice (some ⟨h,0,none⟩) x.c.length x.c.length):=by rw [hJ.box.cell];rfl
   have kk1:(k:Int)<(g.c.length:Int):=by have:=HO.out;omega
   have B1:=zI b1;clear Gt b1;obtain ⟨HJ,Gm,Gf,gJ,hK,Hi,HC,Hl,Hj⟩:=zd9 hJ gQ gY gA hb gR HA Hv hB;have Hm:=zI hacc;clear hJ gQ gY gA hb gR HA Hv hB hacc;go_wp2_with fail;clear gk;refine (Gf.out _).mono ?_;rintro e wa ⟨rfl,q1,rfl⟩;have hO:Later wr (wr.drewN q1):=(Later.refl wr).drewN q1;have gW:=HJ.out.to hO;have gH:=gJ.out _ hO;have b1:=hO.cell B1.out;clear o1 HJ gJ B1 hO;generalize wr.drewN q1=wq at *;obtain ⟨H0,gw⟩:=zd2 gW gH;clear gW gH;rcases gZ.out with ⟨rfl,rfl⟩|⟨rfl,rfl⟩
   ·go_wp2_with fail
    refine (Gm.out _).mono ?_;rintro e wb ⟨rfl,q2,rfl⟩;clear b1;have hO:Later wq (wq.drewN q2):=(Later.refl wq).drewN q2;have hE:=H0.out.to hO;have g6:=gw.out.below hO (lrZ _);have gG:=qdr (l:=wn) (k:=wn.length) (by have:=Hi.out;omega);obtain ⟨m,hm⟩:∃m:Nat,Ly.best wn wn.length=(m:Int):=⟨_,(Int.toNat_of_nonneg gG.1).symm⟩
    have GF:m<wd:=by have:=Hi.out;omega
    have g8:=(show Calls Tryz.prog 60 #[.slice (some ⟨bc,oc+fr,none⟩) wd (d-fr)] (wq.drewN q2) λe w'=>e=.returned (.int .i64 (m:Int))/\(wq.drewN q2)=w' from by
     have hd:=qe6 (some ⟨bc,oc+fr,none⟩) (d-fr) wn (wq.drewN q2) (by have:=Hi.out;omega) g6;rw [hm,Hi.out] at hd;exact hd)
    have hB:=Hj.out;have hc:=hK.out;rw [ipZ trivial] at hc;have gN:Ly.best wn wd=(m:Int):=by rw [←hm,Hi.out]
    rw [gN,tnZ] at hc;clear gN;generalize wq.drewN q2=wc at *
    have am:wc.cell? ⟨h,fr+m,none⟩=some (.int .i64 (Ly.at_ acc (fr+m))):=by
     have:=hE.own.row_get (k:=fr+m) (by show fr+m<acc.length;omega);rw [this];simp [Ly.at_get (show fr+m<acc.length by omega)]
    have af:=hE.own.frozen (fr+m);have Hu:=Ly.at_in HC.out (fr+m);have he:=λV=>qaM (Ly.at_ acc (fr+m)) vk V Hu Hl.out
    have hi:=hE.put (fr+m) (Fx.add (Ly.at_ acc (fr+m)) vk);rw [show acc.set (fr+m) (Fx.add (Ly.at_ acc (fr+m)) vk)=acc' from hc.symm,Hm.out] at hi;generalize Ly.at_ acc (fr+m)=av at *;have k3:(m:Int)<(wd:Int):=by omega
    have k4:(0:Int)<=(m:Int):=by omega
    clear hc hm gG hO g6 Hu hB;obtain ⟨HZ,Gl,hw,hR⟩:=zd4 hE g8 he hi;clear hE g8 he hi;go_wp2_with fail;refine (Gl.out).mono ?_;rintro e w' ⟨rfl,rfl⟩;go_wp2_with fail;refine (hw.out _).mono ?_;rintro e w' ⟨rfl,rfl⟩;go_wp2_with fail;go_roundw
    case rel=>exact ⟨k+1,by omega,by go_num,hR.out⟩
    case measure=>simp [intOf];omega
   ·have Hs:Fx.In ((wd:Int)*4294967296):=by unfold Fx.In;omega
    have Hb:=λ(V:Zp1)=>qc7 (wd:Int) V oZ oZ
    have Ht:=λ(V:Zp1)=>qgb vk ((wd:Int)*4294967296) V Hl.out Hs
    have hc:=hK.out;rw [inZ sZ] at hc;have gU:=Fx.div_in vk ((wd:Int)*4294967296);generalize Fx.div vk ((wd:Int)*4294967296)=y at *;clear Hs;obtain ⟨HS,HK,HG,g5⟩:=zd4 Hb Ht hc gU;clear Hb Ht hc gU;go_wp2_with fail;refine (HS.out _).mono ?_;rintro e w' ⟨rfl,rfl⟩;go_wp2_with fail;refine (HK.out _).mono ?_;rintro e wc ⟨rfl,q3,rfl⟩;have hE:=H0.out.to ((Later.refl wq).drewN q3);clear b1 H0 gw;generalize wq.drewN q3=wc at *;have Gc:=λj=>Ly.addRow_facts HC.out fr g5.out j
    obtain ⟨HZ,Gh⟩:=zd2 hE Gc;clear hE Gc;go_upto_region 18 with fail
    go_loopw [104] (λi wx=>∃j:Nat,j<=wd/\i=.int .i64 (j:Int)/\PbI 30 w q h gg #[.slice (some ⟨bs,os',none⟩) x.s.length c,.slice (some ⟨bc,oc,none⟩) x.c.length d] #[.slice GS g.s.length gc,.slice (some ⟨bg,og,none⟩) g.c.length gd] #[.slice (some ⟨gg,0,none⟩) x.s.length x.s.length,.slice (some ⟨h,0,none⟩) x.c.length x.c.length] x.s (Ly.addRow acc fr y j) wx) (λi _=>wd-(intOf i).toNat)
    case atStart=>exact ⟨0,Zt _,rfl,HZ.out⟩
    case round=>
     obtain ⟨j,hj,rfl,hQ⟩:=hrel;clear HZ
     by_cases GG:j<wd
     ·obtain ⟨H9,hW⟩:=Gh.out j
      have hB:=Hj.out;have ht:Ly.addRow acc fr y (j+1)=(Ly.addRow acc fr y j).set (fr+j) (Fx.add (Ly.at_ (Ly.addRow acc fr y j) (fr+j)) y):=rfl;obtain ⟨A1,hA1⟩:∃A1,A1=Ly.addRow acc fr y (j+1):=⟨_,rfl⟩
      rw [←hA1] at ht;generalize Ly.addRow acc fr y j=A0 at *
      have am:wr.cell? ⟨h,fr+j,none⟩=some (.int .i64 (Ly.at_ A0 (fr+j))):=by
       have:=hQ.own.row_get (k:=fr+j) oZ;rw [this,Ly.at_get (show fr+j<A0.length by omega)]
      have af:=hQ.own.frozen (fr+j);have he:=λV=>qaM (Ly.at_ A0 (fr+j)) y V (Ly.at_in hW (fr+j)) g5.out
      have hi:=hQ.put (fr+j) (Fx.add (Ly.at_ A0 (fr+j)) y);rw [←ht,hA1] at hi;generalize Ly.at_ A0 (fr+j)=av at *;have k3:(j:Int)<(wd:Int):=by omega
      clear ht H9 hB hA1;obtain ⟨HQ,hw,hR,Ge⟩:=zd4 hQ he hi hW;clear hQ he hi hW;go_wp2_with fail;refine (hw.out _).mono ?_;rintro e w' ⟨rfl,rfl⟩;go_wp2_with fail;go_roundw
      case rel=>exact ⟨j+1,by omega,by go_num,hR.out⟩
      case measure=>simp [intOf];omega
     ·obtain rfl:j=wd:=by omega
      rw [←HG.out,Hm.out] at hQ;have HQ:=zI hQ;clear hQ;go_wp2_with fail;go_roundw
      case rel=>exact ⟨k+1,by omega,by go_num,HQ.out⟩
      case measure=>simp [intOf];omega
  ·obtain rfl:k=N:=by omega
   have kk2:¬(k:Int)<(g.c.length:Int):=by have:=HO.out;omega
   obtain ⟨hB,HA⟩:=hs.out k;generalize Ly.poolX top x.c g.c sd n (wd:Int) st k=acc at *;have o0:wr.cell? ⟨q,0,none⟩=some (.slice (some ⟨gg,0,none⟩) x.s.length x.s.length):=by rw [hJ.box.cell];rfl
   have o1:wr.cell? ⟨q,1,none⟩=some (.slice (some ⟨h,0,none⟩) x.c.length x.c.length):=by rw [hJ.box.cell];rfl
   have c0:=hJ.bz.cell 0;have c1:=hJ.bz.cell 1;have f0:=hJ.bz.frozen 0;have f1:=hJ.bz.frozen 1;simp at c0 c1;have ha:=(hJ.bz.set_ 0 (.slice (some ⟨gg,0,none⟩) x.s.length x.s.length)).set_ 1 (.slice (some ⟨h,0,none⟩) x.c.length x.c.length);have d0:=ha.cell 0;have d1:=ha.cell 1;simp at d0 d1;obtain ⟨HJ,HC,gl,Hj⟩:=zd4 hJ HA ha hB;clear hJ HA ha hB;go_wp2_with fail;refine Zk1 (v:=.tuple #[.agg #[.slice (some ⟨gg,0,none⟩) x.s.length x.s.length,.slice (some ⟨h,0,none⟩) x.c.length x.c.length],.int .i64 0]) (by simp [results,Tryz.results14,go_sem,d0,d1]) rfl ?_;exact HJ.out.done HE.out Hj.out oZ (by have:=Hj.out;omega) HC.out _ _
namespace Ly
theorem sumAt_app (k:Nat):∀a b:List Ten,sumAt k (a++b)=sumAt k a+sumAt k b
 | [],b=>by simp [sumAt]
 | t::r,b=>by
  have:=sumAt_app k r b;simp only [sumAt,List.cons_append,List.foldr_cons] at this ⊢;omega
theorem sumAt_one (k:Nat) (t:Ten):sumAt k [t]=t.s.getD k 0:=by simp [sumAt]
theorem qdw {k:Nat}:∀ {l:List Ten},(∀t∈l,0<=t.s.getD k 0)->0<=sumAt k l
 | [],_=>by simp [sumAt]
 | t::r,h=>by
  have h1:=h t sZ;have h2:=qdw (k:=k) (l:=r) (λu hu=>h u (List.mem_cons_of_mem _ hu));simp only [sumAt,List.foldr_cons] at h2 ⊢;omega
def jcut (sd:Int) (g:Ten) (frm:Int) (t:Ten):Ten:=(cut g sd frm (frm+at_ t.s sd.toNat)).1
def jlist (sd:Int) (g:Ten):Int->List Ten->List Ten
 | _,[]=>[]
 | f,t::r=>jcut sd g f t::jlist sd g (f+at_ t.s sd.toNat) r
theorem jlist_len (sd:Int) (g:Ten):∀(l:List Ten) (f:Int),(jlist sd g f l).length=l.length
 | [],_=>rfl
 | _::r,f=>by simp [jlist,jlist_len sd g r]
theorem jlist_get (sd:Int) (g:Ten):∀(l:List Ten) (f:Int) (j:Nat),j<l.length->got (jlist sd g f l) j=jcut sd g (f+sumAt sd.toNat (l.take j)) (got l j)
 | [],_,_,h=>absurd h sZ
 | t::r,f,0,_=>by simp [jlist,got,sumAt]
 | t::r,f,j+1,h=>by
  have:=jlist_get sd g r (f+at_ t.s sd.toNat) j (by simpa using h);have e1:got (jlist sd g f (t::r)) (j+1)=got (jlist sd g (f+at_ t.s sd.toNat) r) j:=by simp [jlist,got]
  have e2:got (t::r) (j+1)=got r j:=by simp [got]
  rw [e1,this,e2]
  congr 1
  simp only [List.take_succ_cons,sumAt,List.foldr_cons,at_];omega
theorem jb_ok (sd:Int) (g:Ten):∀(l:List Ten) (f:Int),(∀j,j<l.length->(cut g sd (f+sumAt sd.toNat (l.take j)) (f+sumAt sd.toNat (l.take j)+at_ (got l j).s sd.toNat)).2=0)->qb0 sd g f l=(jlist sd g f l,0)
 | [],_,_=>rfl
 | t::r,f,h=>by
  have h0:=h 0 sZ;have e0:f+sumAt sd.toNat ((t::r).take 0)=f:=by simp [sumAt]
  rw [e0] at h0;have e1:got (t::r) 0=t:=rfl;rw [e1] at h0
  have ih:=jb_ok sd g r (f+at_ t.s sd.toNat) λj hj=>by
   have:=h (j+1) (by simpa using hj);have e2:got (t::r) (j+1)=got r j:=by simp [got]
   have e3:f+sumAt sd.toNat ((t::r).take (j+1))=f+at_ t.s sd.toNat+sumAt sd.toNat (r.take j):=by
    simp only [List.take_succ_cons,sumAt,List.foldr_cons,at_];omega
   rw [e2,e3] at this;exact this
  unfold qb0;rw [ipZ h0,ih]
  rfl
theorem joinBack_err {sd:Int} {g:Ten} {x:List Ten} (h:(joined sd x).2≠0):joinBack sd g x=([],(joined sd x).2):=by unfold joinBack;rw [inZ h]
theorem joinBack_bad {sd:Int} {g:Ten} {x:List Ten} (h:(joined sd x).2=0) (hg:(Tn.right g&&(g.s==(joined sd x).1))=false):joinBack sd g x=([],20):=by
 unfold joinBack;rw [ipZ h,inZ];intro hh;rw [Zz,decide_eq_true_eq] at hh;rw [hh.1,hh.2] at hg;simp at hg
theorem jb_each {sd:Int} {x:List Ten} {g:Ten} (h:(joined sd x).2=0) (hg:Tn.right g=true) (hs:g.s=(joined sd x).1) {j:Nat} (hj:j<x.length):
  (cut g sd (sumAt sd.toNat (x.take j)) (sumAt sd.toNat (x.take j)+at_ (got x j).s sd.toNat)).2=0/\(cut g sd (sumAt sd.toNat (x.take j)) (sumAt sd.toNat (x.take j)+at_ (got x j).s sd.toNat)).1.s=(got x j).s/\
  0<=sumAt sd.toNat (x.take j)/\1<=at_ (got x j).s sd.toNat/\sumAt sd.toNat (x.take j)+at_ (got x j).s sd.toNat<=1024/\sd.toNat<(got x j).s.length/\0<=sd:=by
 obtain ⟨k,rfl,hp,hk,ha,hr,hc⟩:=joined_facts h;rw [tnZ];rw [←hs] at hk ha hr hc;obtain ⟨hu,hn⟩:=ha (got x j) (by rw [qan hj];exact gmZ _);have hd:=hu;simp only [Tn.right,Zz,decide_eq_true_eq] at hd;obtain ⟨_,_,_,ho,_,_⟩:=Sh.right_mul hd.1;obtain ⟨_,_,_,hw,_,_⟩:=Sh.right_mul hr;have he:k<(got x j).s.length:=by rw [hn.len];exact hk
 have hm:=ho _ (gmZ he);have hy:=hw _ (gmZ hk);have ea:at_ (got x j).s k=(got x j).s[k]:=qaX he;have eg:g.s.getD k 0=g.s[k]:=qaX hk
 have hh:∀t∈x,0<=t.s.getD k 0:=λt ht=>by
  obtain ⟨h1,h2⟩:=ha t ht;simp only [Tn.right,Zz,decide_eq_true_eq] at h1;obtain ⟨_,_,_,hb,_,_⟩:=Sh.right_mul h1.1;have hf:k<t.s.length:=by rw [h2.len];exact hk
  have:=hb _ (gmZ hf);rw [qaX hf];omega
 have hF:=qdw (k:=k) (l:=x.take j) λt ht=>hh t (Zh ht)
 have hD:=qdw (k:=k) (l:=x.drop (j+1)) λt ht=>hh t (Zp ht)
 have hx:sumAt k x=sumAt k (x.take j)+(at_ (got x j).s k+sumAt k (x.drop (j+1))):=by
  have e:x=x.take j++([got x j]++x.drop (j+1)):=by rw [qan hj,List.singleton_append,←Zd hj,Zn]
  have:=congrArg (sumAt k) e;rw [sumAt_app,sumAt_app,sumAt_one] at this;exact this
 generalize sumAt k (x.take j)=F at *
 have hcut:Od.cut g.s (k:Int) F (F+at_ (got x j).s k)=(g.s.set k (at_ (got x j).s k),0):=by
  unfold Od.cut;rw [ipZ hr,ipZ]
  ·rw [tnZ,show F+at_ (got x j).s k-F=at_ (got x j).s k by omega]
  ·unfold Od.inR Od.at_
   rw [Zz,decide_eq_true_eq,decide_eq_true_eq,tnZ];refine ⟨⟨by omega,by omega⟩,hF,?_,by omega⟩;rw [hc,hx];omega
 have hv:(Od.cut g.s (k:Int) F (F+at_ (got x j).s k)).2=0:=by rw [hcut]
 rw [cut_ok hg hv];refine ⟨rfl,?_,hF,by omega,by omega,he,by omega⟩
 show (Od.cut g.s (k:Int) F (F+at_ (got x j).s k)).1=_
 rw [hcut]
 show g.s.set k _=_
 apply List.ext_getElem?;intro i
 by_cases hi:i=k
 ·subst hi
  rw [Zr hk,geZ he,ea]
 ·rw [Zs (Ne.symm hi)]
  have:=hn.same i hi;rw [gdZ,gdZ] at this
  by_cases hl:i<g.s.length
  ·have hq:i<(got x j).s.length:=by rw [hn.len];exact hl
   rw [geZ hl,geZ hq] at this ⊢;simpa using this.symm
  ·rw [Zi oZ,Zi (by rw [hn.len];omega)]
theorem joinBack_ok {sd:Int} {g:Ten} {x:List Ten} (h:(joined sd x).2=0) (hg:Tn.right g=true) (hs:g.s=(joined sd x).1):joinBack sd g x=(jlist sd g 0 x,0):=by
 unfold joinBack;rw [ipZ h,ipZ (by rw [hg,hs];simp)];exact jb_ok sd g x 0 λj hj=>by rw [Int.zero_add];exact (jb_each h hg hs hj).1
theorem cbk_right {x g:Ten} {sd frm til:Int} (h:Tn.right x=false):cutBack x g sd frm til=(none_,20):=by unfold cutBack;rw [h];rfl
theorem cbk_err {x g:Ten} {sd frm til:Int} (h:Tn.right x=true) (h2:(Od.cut x.s sd frm til).2≠0):cutBack x g sd frm til=(none_,(Od.cut x.s sd frm til).2):=by unfold cutBack;rw [ipZ h,inZ h2]
theorem cbk_bad {x g:Ten} {sd frm til:Int} (h:Tn.right x=true) (h2:(Od.cut x.s sd frm til).2=0) (hg:(Tn.right g&&(g.s==(Od.cut x.s sd frm til).1))=false):cutBack x g sd frm til=(none_,20):=by
 unfold cutBack;rw [ipZ h,ipZ h2,inZ];intro hh;rw [Zz,decide_eq_true_eq] at hh;rw [hh.1,hh.2] at hg;simp at hg
theorem cbk_ok {x g:Ten} {sd frm til:Int} (h:Tn.right x=true) (h2:(Od.cut x.s sd frm til).2=0) (hg:Tn.right g=true) (hs:g.s=(Od.cut x.s sd frm til).1):
  cutBack x g sd frm til=(⟨x.s,cutX x.c.length (side x.s sd.toNat * span ((Od.cut x.s sd frm til).1.drop (sd.toNat+1))) (frm.toNat * span ((Od.cut x.s sd frm til).1.drop (sd.toNat+1))) ((til.toNat-frm.toNat)*span ((Od.cut x.s sd frm til).1.drop (sd.toNat+1))) g.c (x.c.length / (side x.s sd.toNat * span ((Od.cut x.s sd frm til).1.drop (sd.toNat+1))))⟩,0):=by
 unfold cutBack;rw [ipZ h,ipZ h2,ipZ (by rw [hg,hs];simp)]
theorem cutX_facts {n row a part:Nat} {g:List Int} (hg:∀z∈g,Fx.In z):∀k,(∀i,i<k->i*row+a+part<=n/\i*part+part<=g.length)->(cutX n row a part g k).length=n/\∀z∈cutX n row a part g k,Fx.In z
 | 0,_=>⟨zeros_len _,qdv _⟩
 | k+1,h=>by
  obtain ⟨h1,h2⟩:=cutX_facts hg k λi hi=>h i oZ
  obtain ⟨h3,h4⟩:=h k oZ;have hl:((g.drop (k*part)).take part).length=part:=by rw [Zo,Zq];omega
  refine ⟨?_,λz hz=>?_⟩
  ·show (splice _ _ _).length=n
   rw [length_splice _ _ _ (by rw [hl,h1];omega),h1]
  ·have hz:z∈splice (cutX n row a part g k) (k*row+a) ((g.drop (k*part)).take part):=hz
   unfold splice at hz;rcases List.mem_append.1 hz with hz|hz
   ·exact h2 z (Zh hz)
   ·rcases List.mem_append.1 hz with hz|hz
    ·exact hg z (Zp (Zh hz))
    ·exact h2 z (Zp hz)
end Ly
set_option maxRecDepth 20000 in
theorem cut_back (S C GS GC:Option Addr) (c d gc gd:Nat) (x g:Ten) (sd frm til:Int) (w:Zp1) (hx:TenIn w S C c d x) (hg:TenIn w GS GC gc gd g):
  Calls Tryz.prog 16 #[.agg #[.slice S x.s.length c,.slice C x.c.length d],.agg #[.slice GS g.s.length gc,.slice GC g.c.length gd],.int .i64 sd,.int .i64 frm,.int .i64 til] w (GoP (Ly.cutBack x g sd frm til) w):=by
 have g2:(Tryz.prog.info? 22).map (·.size)=some 1:=by
  obtain ⟨i0,hi,-,Gq,-⟩:=info_parts qbM;rw [hi];exact congrArg some Gq
 obtain ⟨gR,gN,hz,g3⟩:=qam w 30 30 30 #[.slice S x.s.length c,.slice C x.c.length d] #[.slice GS g.s.length gc,.slice GC g.c.length gd] #[.slice none 0 0,.slice none 0 0];have lg1:=hg.l1;have lg2:=hg.l2;have lx1:=hx.l1;have lx2:=hx.l2;obtain ⟨gq,gW,Hz,HU,Hx,Hg⟩:=zd6 gR gN hz g3 hx hg;clear gR gN hz g3 hx hg;go_enter Tryz.func16,Tryz.ntmps16;go_wp2_with fail;generalize ((w.alloc (.cells #[.slice S x.s.length c,.slice C x.c.length d] 30)).alloc (.cells #[.slice GS g.s.length gc,.slice GC g.c.length gd] 30)).alloc (.cells #[.slice none 0 0,.slice none 0 0] 30)=w1 at *;refine (qa2 S C c d x w1 oZ oZ (Hx.out.later HU.out).r.1).mono ?_;rintro e w2 ⟨rfl,gh⟩;have Hk:Later w1 w2:=gh;have HO:=HU.out.trans Hk;have hX:=Hk.blk Hz.out;have hB:=Hk.blk gq.out;have hO:=Hk.blk gW.out;clear gh Hz HU gq gW Hk;cases hr:Tn.right x
 ·have HE:=zI (Ly.cbk_right (g:=g) (sd:=sd) (frm:=frm) (til:=til) hr)
  clear hr;have c0:=hX.cell 0;have c1:=hX.cell 1;have f0:=hX.frozen 0;have f1:=hX.frozen 1;simp at c0 c1;obtain ⟨Hl,HY,h1,hZ⟩:=zd4 HO hX hB hO;clear HO hX hB hO;go_wp2_with fail;refine Zk1 (v:=.tuple #[.agg #[.slice none 0 0,.slice none 0 0],.int .i64 20]) (by simp [results,Tryz.results16,go_sem,c0,c1]) rfl ?_;exact GoP.fail HE.out dZ ((Hl.out.set (p:=⟨w.heap.size+2,0,none⟩) sZ _).set (p:=⟨w.heap.size+2,1,none⟩) sZ _)
 have x0:=hB.cell 0;simp at x0;obtain ⟨Hl,HY,h1,hZ⟩:=zd4 HO hX hB hO;clear HO hX hB hO;go_wp2_with fail;clear x0;refine (qcv S c x.s sd frm til w2 oZ (Hx.out.later Hl.out).r.1).mono ?_;rintro e w3 ⟨A,ac,rfl,hI,gl,GI,hf,gk⟩;have Hp:Later w2 w3:=gk;have Hf:=Hl.out.trans Hp;have hn:=Hp.blk HY.out;have hT:=Hp.blk h1.out;have hu:=Hp.blk hZ.out;clear gk HY h1 hZ Hp hf Hl
 by_cases hD:(Od.cut x.s sd frm til).2=0
 case neg=>
  have HE:=zI (Ly.cbk_err (g:=g) hr hD);have Gd:=zI hD;have d1:((Od.cut x.s sd frm til).2==0)=false:=by simpa using hD
  have d2:((Od.cut x.s sd frm til).2 != 0)=true:=by simpa using hD
  clear hD hr;generalize (Od.cut x.s sd frm til).2=ge at *;generalize (Od.cut x.s sd frm til).1=os at *;have c0:=hn.cell 0;have c1:=hn.cell 1;have f0:=hn.frozen 0;have f1:=hn.frozen 1;simp at c0 c1;obtain ⟨He,Ha,h4,h2,HI⟩:=zd5 Hf hn hT hu hI;clear Hf hn hT hu hI;go_wp2_with fail;refine Zk1 (v:=.tuple #[.agg #[.slice none 0 0,.slice none 0 0],.int .i64 ge]) (by simp [results,Tryz.results16,go_sem,c0,c1]) rfl ?_;exact GoP.fail HE.out Gd.out ((He.out.set (p:=⟨w.heap.size+2,0,none⟩) sZ _).set (p:=⟨w.heap.size+2,1,none⟩) sZ _)
 have h7:=λhh=>Ly.cbk_bad (g:=g) hr hD hh
 have hb:=λhh hs=>Ly.cbk_ok (g:=g) hr hD hh hs
 obtain ⟨k,S',f,t,inner,pre,rfl,rfl,rfl,hk,hS,Gy,GA,Gz,Gl,h5,gp,H8,H1,HN,Gw,GG,g7⟩:=Ly.cut_facts hr hD;rw [hD];rw [gp] at hI gl h7 hb ⊢;have gI:(x.s.set k ((t-f:Nat):Int)).length=x.s.length:=List.length_set;have gS:Ly.side x.s k=S':=by show (x.s.getD k 0).toNat=S';rw [hS];exact tnZ _
 have HG:Ly.span ((x.s.set k ((t-f:Nat):Int)).drop (k+1))=inner:=by unfold Ly.span;rw [H8];exact tnZ _
 simp only [tnZ,gS,HG] at hb;have HX:0<(x.s.set k ((t-f:Nat):Int)).length:=by omega
 generalize x.s.set k ((t-f:Nat):Int)=os at *;obtain ⟨row,hrow⟩:∃row,row=S'*inner:=⟨_,rfl⟩
 obtain ⟨a,ha⟩:∃a,a=f*inner:=⟨_,rfl⟩
 obtain ⟨part,hpart⟩:∃part,part=(t-f)*inner:=⟨_,rfl⟩
 have Gr:a+part<=row:=by
  rw [ha,hpart,hrow,←Nat.add_mul];exact mlZ _ oZ
 have hY:1<=part:=by
  rw [hpart];have:1*1<=(t-f)*inner:=Nat.mul_le_mul oZ Gl;omega
 have hA:1<=row:=by omega
 rw [←hrow,←ha,←hpart] at hb;rw [←hrow] at HN;rw [←hpart] at H1;have h3:x.c.length / row=pre:=by rw [HN];exact Nat.mul_div_cancel _ hA
 rw [h3] at hb
 have gb:row<=65536:=by
  have:1*row<=pre*row:=mlZ _ h5;omega
 have gy:pre<=65536:=by
  have:pre*1<=pre*row:=Nat.mul_le_mul_left _ hA;omega
 have Gg:inner<=65536:=by
  have:1*inner<=S'*inner:=mlZ _ oZ;omega
 have e1:(S':Int)*(inner:Int)=(row:Int):=by rw [hrow];simp
 have e2:(f:Int)*(inner:Int)=(a:Int):=by rw [ha];simp
 have e3:((t:Int)-(f:Int))*(inner:Int)=(part:Int):=by rw [hpart,←Int.ofNat_sub oZ];simp
 have Gh:os.length<=4:=by omega
 have Hs:=λ(V:Zp1) (hV:Ints .i64 V A os)=>(show Ints .i64 V A os from hV)
 clear Hs;obtain ⟨E1,E2,E3,Gs,Gk,gF,Gp,gU,HS⟩:=zd9 e1 e2 e3 H8 H1 HN gI g7 hS;have HT:=zI h3;obtain ⟨ba,oa,Gv,GF,-⟩:=hI 0 HX;subst Gv;have g0:w3.cell? ⟨w.heap.size+1,0,none⟩=_:=hu.cell 0;have g1:w3.cell? ⟨w.heap.size+1,1,none⟩=_:=hu.cell 1;simp at g0 g1;have gu:=qa2 GS GC gc gd g w3 oZ oZ (Hg.out.later Hf).r.1;have gt:=λ(V:Zp1) (h:Later w3 V)=>qa7 GS (some ⟨ba,oa,none⟩) gc ac g.s os V oZ oZ (Hg.out.later (Hf.trans h)).r.1 (hI.below h (lrZ _))
 clear gS HG hrow ha hpart h3 e1 e2 e3 H8 H1 HN gI g7 hS hr hD gp;obtain ⟨He,Ha,h4,h2,HI,hy,he,Hj,gA⟩:=zd9 Hf hn hT hu hI h7 hb gu gt;clear Hf hn hT hu hI h7 hb gu gt;cases hr:Tn.right g
 ·have HE:=zI (hy.out (by rw [hr];rfl))
  rw [hr] at Hj;clear hy he hr;go_wp2_with fail;refine (Hj.out).mono ?_;rintro e w4 ⟨rfl,hC⟩;have hv:Later w3 w4:=hC;have Hd:=hv.blk Ha.out;have gn:=He.out.trans hv;clear g0 g1 hC;have c0:=Hd.cell 0;have c1:=Hd.cell 1;have f0:=Hd.frozen 0;have f1:=Hd.frozen 1;simp at c0 c1;obtain ⟨Hb,GH,Gt⟩:=zd3 hv Hd gn;clear hv Hd gn;go_wp2_with fail;refine Zk1 (v:=.tuple #[.agg #[.slice none 0 0,.slice none 0 0],.int .i64 20]) (by simp [results,Tryz.results16,go_sem,c0,c1]) rfl ?_;exact GoP.fail HE.out dZ ((Gt.out.set (p:=⟨w.heap.size+2,0,none⟩) sZ _).set (p:=⟨w.heap.size+2,1,none⟩) sZ _)
 rw [hr] at Hj;go_wp2_with fail;refine (Hj.out).mono ?_;rintro e w4 ⟨rfl,hC⟩;have hv:Later w3 w4:=hC;have g0':=hv.cell g0;clear hC g0 g1;have ht:=gA.out _ hv;cases hq:(g.s==os)
 ·have HE:=zI (hy.out (by rw [hr,hq];rfl))
  rw [hq] at ht;clear hy he hr hq;obtain ⟨Hb,hF⟩:=zd2 hv ht;clear hv ht;go_wp2_with fail;refine (hF.out).mono ?_;rintro e w5 ⟨rfl,q5,rfl⟩;have hM:=(Hb.out.drewN q5).blk Ha.out;have Hq:=(He.out.trans Hb.out).drewN q5;clear g0';have c0:=hM.cell 0;have c1:=hM.cell 1;have f0:=hM.frozen 0;have f1:=hM.frozen 1;simp at c0 c1;obtain ⟨HM,Hc⟩:=zd2 hM Hq;clear hM Hq;go_wp2_with fail;refine Zk1 (v:=.tuple #[.agg #[.slice none 0 0,.slice none 0 0],.int .i64 20]) (by simp [results,Tryz.results16,go_sem,c0,c1]) rfl ?_;exact GoP.fail HE.out dZ ((Hc.out.set (p:=⟨w.heap.size+2,0,none⟩) sZ _).set (p:=⟨w.heap.size+2,1,none⟩) sZ _)
 rw [hq] at ht;have HH:g.s=os:=by simpa using hq
 have HE:=zI (he.out hr HH)
 have g6:g.c.length=pre*part:=by
  have h0:(g.c.length:Int)=Safe.prod g.s:=by have:=hr;simp only [Tn.right,Zz,decide_eq_true_eq] at this;exact this.2
  rw [HH,Gk.out] at h0;exact Int.ofNat.inj h0
 obtain ⟨Hb,hF,g5,Gx⟩:=zd4 hv ht g6 HH;clear hv ht g6 HH;clear hy he hq hr;go_wp2_with fail;refine (hF.out).mono ?_;rintro e w5 ⟨rfl,q5,rfl⟩;have Hh:=Hb.out.drewN q5;clear g0' hF gA Hj Hb;generalize w4.drewN q5=w5 at *;have Hq:=He.out.trans Hh;have hL:=Hh.blk h4.out;have Hw:=Hh.blk h2.out;have hM:=Hh.blk Ha.out;have gw:=HI.out.below Hh (lrZ _);clear Hh He h4 h2 Ha HI;have b0:w5.cell? ⟨w.heap.size,0,none⟩=_:=hL.cell 0;have b1:w5.cell? ⟨w.heap.size,1,none⟩=_:=hL.cell 1;simp at b0 b1;obtain ⟨Hc,Ht,HC,HM,gm⟩:=zd5 Hq hL Hw hM gw;clear Hq hL Hw hM gw;go_wp2_with fail;refine (qa9 S C c d x w5 oZ oZ (Hx.out.later Hc.out).r).mono ?_;rintro e w6 ⟨v,rfl,⟨gg,h,rfl,GB,hh,hG,hH⟩,gJ⟩;have H0:Later w5 w6:=gJ;have Hm:Later w6 (w6.alloc (.cells #[.slice (some ⟨gg,0,none⟩) x.s.length x.s.length,.slice (some ⟨h,0,none⟩) x.c.length x.c.length] 30)):=(Later.refl w6).alloc _;have ho:=Blk.new w6 30 #[.slice (some ⟨gg,0,none⟩) x.s.length x.s.length,.slice (some ⟨h,0,none⟩) x.c.length x.c.length];have Hi:=H0.trans Hm;have gB:=Hc.out.trans Hi;have Hu:=Hi.blk Ht.out;have Hv:=Hi.blk HC.out;have gP:=Hi.blk HM.out;have g4:=Hm.blk hG;have gv:=Hm.blk hH;have GE:=HM.out.lt;have H5:=qb1 hG hH;have GJ:=hH.lt;have Gj:=hG.lt;have g9:=Hc.out.size;clear gJ b0 b1 hG hH Hc Ht HC HM;obtain ⟨Ga,Ge,Ho,gK,gH,HD,Hr,gx,gj⟩:=zd9 H0 Hm ho Hi gB Hu Hv gP g4;have H4:=zI gv;clear H0 Hm ho Hi gB Hu Hv gP g4 gv;go_upto_region 9 with fail;generalize w6.alloc (.cells #[.slice (some ⟨gg,0,none⟩) x.s.length x.s.length,.slice (some ⟨h,0,none⟩) x.c.length x.c.length] 30)=w7 at *;generalize hqe:w6.heap.size=q at *;have H3:gg≠h:=H5;have H7:q≠h:=by omega
 have Gm:w.heap.size+2<h:=by omega
 have gf:0<x.c.length:=by
  have:=gF.out;have:1*1<=pre*row:=Nat.mul_le_mul h5 hA;omega
 clear Ga Ge hqe;have o1:w7.cell? ⟨q,1,none⟩=_:=Ho.out.cell 1;simp at o1;go_wp2_with (refine qaL rfl (.tmp 52) 28 22 rfl Tryz.underlying28 Tryz.zeroValue22 h 22 x.c x.c.length rfl H4.out gf ?_);intro w8 go H9;have gO:PbI 30 w q h gg #[.slice S x.s.length c,.slice C x.c.length d] #[.slice GS g.s.length gc,.slice GC g.c.length gd] #[.slice (some ⟨gg,0,none⟩) x.s.length x.s.length,.slice (some ⟨h,0,none⟩) x.c.length x.c.length] x.s (Ly.zeros x.c.length) w8:=(PbI.mk (acc:=x.c) H4.out gj.out Ho.out HD.out Hr.out gx.out ⟨H3,H7,Gm,by omega⟩ gH.out).else_ H9 go;have gD:Later w5 w8:=Below.trans gK.out (H9.2.2.mono hh);have gQ:=gm.out.below gD (lrZ _)
 have hQ:Ints .i64 w8 (if ac=k+1 then some ⟨ba,oa,none⟩ else some ⟨ba,oa+(k+1),none⟩) (os.drop (k+1)):=by
  by_cases hN:ac=k+1
  ·rw [List.drop_eq_nil_of_le (hN▸gl)];exact Ints.nil
  ·rw [inZ hN];exact gQ.drop_ (k+1)
 have Gf:(os.drop (k+1)).length=os.length-(k+1):=Zq;have gr:=λj=>Safe.prod_take_le (os.drop (k+1)) j (λz hz=>(gU.out z (Zp hz)).1)
 have gV:=λj=>Safe.prod_pos ((os.drop (k+1)).take j) (λz hz=>(gU.out z (Zp (Zh hz))).1)
 have gM:=λj hj=>Safe.prod_take_succ (os.drop (k+1)) j hj
 have HA:Safe.prod (os.drop (k+1))=(inner:Int):=Gs.out;have GK:k<os.length:=by have:=Gp.out;omega
 clear go H9 o1 gQ gD gm gK gj H4 Ho HD Hr gx gH;obtain ⟨HK,HQ,H6,HZ,gL,HB⟩:=zd6 gO hQ gr gV gM HA;clear gO hQ gr gV gM HA;generalize os.drop (k+1)=dr at *;have q1:(k:Int)+1<=(os.length:Int):=by omega
 have q2:(os.length:Int)<=(ac:Int):=by omega
 go_upto_region 11 with fail
 go_cut [15,56,57,58] (λu v a b wx=>w8=wx/\u=.int .i64 1/\a=.int .i64 ((os.length-(k+1):Nat):Int)/\b=.int .i64 0/\∃Q cq,v=.slice Q (os.length-(k+1)) cq/\Ints .i64 w8 Q dr)
 case first=>
  have hQ:=HQ.out
  by_cases hN:ac=k+1
  ·have u9:(ac=k+1)=True:=eq_true hN
   rw [ipZ hN] at hQ;have HQ:=zI hQ;clear hQ;clear hN;go_wp2_with fail
   all_goals (go_meet;exact ⟨rfl,rfl,rfl,rfl,_,_,rfl,HQ.out⟩)
  ·have u9:(ac=k+1)=False:=eq_false hN
   rw [inZ hN] at hQ;have u8:k+1<ac:=by omega
   have HQ:=zI hQ;clear hQ;clear hN;go_wp2_with fail
   all_goals (go_meet;exact ⟨rfl,rfl,rfl,rfl,_,_,rfl,HQ.out⟩)
 case rest=>
  obtain ⟨rfl,rfl,rfl,rfl,Qa,cq,rfl,gE⟩:=hcut;clear q1 q2 HQ;rw [←Gf];have gi:=zI gE;clear gE;go_upto_region 12 with fail
  go_loop [15,58] (λv i=>∃j:Nat,j<=dr.length/\i=.int .i64 (j:Int)/\v=.int .i64 (Safe.prod (dr.take j))) (λ_ i=>dr.length-(intOf i).toNat)
  case atStart=>exact ⟨0,Zt _,rfl,rfl⟩
  case round=>
   obtain ⟨j,hj,rfl,rfl⟩:=hrel
   by_cases HR:j<dr.length
   ·obtain ⟨bb,ob,g8,-,hc⟩:=gi.out j HR
    subst g8;rw [qaX HR] at hc;have p1:=HZ.out j;have p2:=H6.out j;have p3:=HZ.out (j+1);have p4:=H6.out (j+1);have p5:=gL.out j HR;rw [HB.out] at p2 p4;obtain ⟨P',hP⟩:∃P',P'=Safe.prod (dr.take (j+1)):=⟨_,rfl⟩
    rw [←hP] at p3 p4 p5;have HP:=zI hP;clear hP;generalize Safe.prod (dr.take j)=P at *;have e1:P*dr[j]=P':=p5.symm;generalize dr[j]=z at *;clear p5;go_wp2_with fail
    go_round
    case rel=>exact ⟨j+1,by omega,by go_num,by rw [←HP.out]⟩
    case measure=>simp [intOf];omega
   ·obtain rfl:j=dr.length:=by omega
    rw [Zg,HB.out];clear gi H6 HZ gL;obtain ⟨bs,os2,Gn,-,y0⟩:=(Hx.out.later HK.out.later).r.1 k hk;subst Gn;rw [HS.out] at y0;obtain ⟨bg,og,Go,-,-⟩:=Hg.out.cell (k:=0) (by have:=g5.out;have:1*1<=pre*part:=Nat.mul_le_mul h5 hY;omega);subst Go;have b0:w8.cell? ⟨w.heap.size,0,none⟩=some (.slice (some ⟨bs,os2,none⟩) x.s.length c):=by rw [HK.out.bx.cell];rfl
    have b1:w8.cell? ⟨w.heap.size,1,none⟩=some (.slice C x.c.length d):=by rw [HK.out.bx.cell];rfl
    have e1:=E1.out;have e3:=E3.out;have k1:(k:Int)<(x.s.length:Int):=by omega
    have z1:IntKind.i64.wrap ((S':Int)*(inner:Int))=(row:Int):=by rw [e1];exact Zc1 _ oZ
    have z2:IntKind.i64.wrap ((t:Int)-(f:Int))=(t:Int)-(f:Int):=Zc1 _ oZ;have z3:IntKind.i64.wrap (((t:Int)-(f:Int))*(inner:Int))=(part:Int):=by rw [e3];exact Zc1 _ oZ
    have z4:(x.c.length:Int) / (row:Int)=(pre:Int):=by
     rw [show (x.c.length:Int) / (row:Int)=((x.c.length / row:Nat):Int) by simp,HT.out]
    have z5:¬(row:Int)=0:=by omega
    clear e1 e3;go_upto_region 18 with fail;clear b0 b1 y0 z1 z2 z3 z4;have gT:PbI 30 w q h gg #[.slice (some ⟨bs,os2,none⟩) x.s.length c,.slice C x.c.length d] #[.slice GS g.s.length gc,.slice (some ⟨bg,og,none⟩) g.c.length gd] #[.slice (some ⟨gg,0,none⟩) x.s.length x.s.length,.slice (some ⟨h,0,none⟩) x.c.length x.c.length] x.s (Ly.cutX x.c.length row a part g.c 0) w8:=HK.out;have gG:=zI gT;clear gT
    go_loopw [83] (λi wx=>∃m:Nat,m<=pre/\i=.int .i64 (m:Int)/\PbI 30 w q h gg #[.slice (some ⟨bs,os2,none⟩) x.s.length c,.slice C x.c.length d] #[.slice GS g.s.length gc,.slice (some ⟨bg,og,none⟩) g.c.length gd] #[.slice (some ⟨gg,0,none⟩) x.s.length x.s.length,.slice (some ⟨h,0,none⟩) x.c.length x.c.length] x.s (Ly.cutX x.c.length row a part g.c m) wx) (λi _=>pre-(intOf i).toNat)
    case atStart=>exact ⟨0,Zt _,rfl,gG.out⟩
    case round=>
     obtain ⟨m,hm,rfl,hJ⟩:=hrel;clear gG
     have hR:∀i,i<pre->i*row+a+part<=x.c.length/\i*part+part<=g.c.length:=λi hi=>by
      have h9:(i+1)*row<=pre*row:=mlZ _ hi;have h8:(i+1)*part<=pre*part:=mlZ _ hi;rw [Zu] at h9 h8;have:=gF.out;have:=g5.out;exact ⟨by omega,by omega⟩
     have hw:=Ly.cutX_facts (n:=x.c.length) (row:=row) (a:=a) (part:=part) Hg.out.num m (λi hi=>hR i oZ)
     by_cases Gb:m<pre
     ·obtain ⟨HW,Hn⟩:=hw
      obtain ⟨Gc,Gi⟩:=hR m Gb;have H2:=hJ.lo;have hd:Ly.cutX x.c.length row a part g.c (m+1)=splice (Ly.cutX x.c.length row a part g.c m) (m*row+a) ((g.c.drop (m*part)).take part):=rfl;have HF:((g.c.drop (m*part)).take part).length=part:=by rw [Zo,Zq];omega
      have hE:∀(V:Zp1),Later wr V->∀i (hi:i<((g.c.drop (m*part)).take part).length),V.cell? ((⟨bg,og+m*part,none⟩:Addr).add i)=some (.int .i64 ((g.c.drop (m*part)).take part)[i]):=λV hV i hi=>by
       obtain ⟨b',o',e',-,hc⟩:=(Hg.out.later (hJ.later.trans hV)).cell (k:=m*part+i) (by rw [HF] at hi;omega);injection e' with e';injection e' with e1 e2;subst e1 e2
       rw [qaN,Nat.add_assoc,hc,Ly.at_get (by rw [HF] at hi;omega)];simp
      have o1:wr.cell? ⟨q,1,none⟩=some (.slice (some ⟨h,0,none⟩) x.c.length x.c.length):=by rw [hJ.box.cell];rfl
      have g1:wr.cell? ⟨w.heap.size+1,1,none⟩=some (.slice (some ⟨bg,og,none⟩) g.c.length gd):=by rw [hJ.bg.cell];rfl
      have GD:=Hg.out.c1;have Gu:=Hg.out.c2;obtain ⟨l,hl⟩:∃l,l=(g.c.drop (m*part)).take part:=⟨_,rfl⟩
      rw [←hl] at hd HF hE;obtain ⟨p,hp⟩:∃p,p=m*row:=⟨_,rfl⟩
      obtain ⟨pp,hpp⟩:∃pp,pp=m*part:=⟨_,rfl⟩
      have z1:IntKind.i64.wrap ((m:Int)*(row:Int))=(p:Int):=by rw [show (m:Int)*(row:Int)=((m*row:Nat):Int) by simp,←hp];exact Zc1 _ oZ
      have z2:IntKind.i64.wrap ((f:Int)*(inner:Int))=(a:Int):=by rw [E2.out];exact Zc1 _ oZ
      have z3:IntKind.i64.wrap ((p:Int)+(a:Int))=(p:Int)+(a:Int):=Zc1 _ oZ;have z4:IntKind.i64.wrap ((m:Int)*(part:Int))=(pp:Int):=by rw [show (m:Int)*(part:Int)=((m*part:Nat):Int) by simp,←hpp];exact Zc1 _ oZ
      have z5':IntKind.i64.wrap ((m:Int)+1)=(m:Int)+1:=Zc1 _ oZ;have z6:IntKind.i64.wrap (((m:Int)+1)*(part:Int))=(pp:Int)+(part:Int):=by rw [Int.add_mul,show (m:Int)*(part:Int)=((m*part:Nat):Int) by simp,←hpp,Int.one_mul];exact Zc1 _ oZ
      rw [←hp] at Gc hd;rw [←hpp] at Gi hE;have u1:(0:Int)<=(p:Int)+(a:Int):=by omega
      have u2:(p:Int)+(a:Int)<=(x.c.length:Int):=by omega
      have u3:(pp:Int)+(part:Int)<=(gd:Int):=by omega
      have u4:(pp:Int)<=(pp:Int)+(part:Int):=by omega
      have u5:((p:Int)+(a:Int)).toNat=p+a:=by omega
      have u6:((pp:Int)+(part:Int)).toNat-pp=part:=by omega
      have u7:(x.c.length=p+a)=False:=eq_false oZ;have u8:(gd=pp)=False:=eq_false oZ;generalize Ly.cutX x.c.length row a part g.c m=acc at *;clear hR hl hp hpp;obtain ⟨HJ,hW,Hy,gX,HL⟩:=zd5 hJ hd hE Hn HF;clear hJ hd hE Hn HF;have gC:q≠h:=H2.2.1;have gZ:w.heap.size+1≠h:=by omega
      go_wp2_with fail;have KF:=zI (show ∀Xw,Later wr Xw->Xw.cell? ⟨q,1,none⟩=some (.slice (some ⟨h,0,none⟩) x.c.length x.c.length)/\Xw.cell? ⟨w.heap.size+1,1,none⟩=some (.slice (some ⟨bg,og,none⟩) g.c.length gd) from λXw h=>⟨h.cell o1,h.cell g1⟩);refine Zm1 ?_;refine Zl1 (S:=λXw=>Xw.cell? ⟨q,1,none⟩=some (.slice (some ⟨h,0,none⟩) x.c.length x.c.length)/\Xw.cell? ⟨w.heap.size+1,1,none⟩=some (.slice (some ⟨bg,og,none⟩) g.c.length gd)) krZ (KF.out _ Lau) (λhHeld=>?_);refine tk 0 ?_;refine tk 1 ?_;refine tk 2 ?_;refine tk 3 ?_;refine tk 4 ?_;refine tk 5 ?_;refine tk 6 ?_;refine tk 7 ?_;refine tk 8 ?_;refine tk 10 ?_;refine tk 11 ?_;refine tk 12 ?_;refine tk 13 ?_;refine tk 14 ?_;refine tk 15 ?_;refine tk 16 ?_;refine tk 17 ?_;refine tk 18 ?_;refine Zo1 (rs:=[9,19]) krZ sZ ?_;refine Zf1 (o:=_) rfl (λK hK=>?_) (Zf1 (o:=_) rfl (λK hK=>?_) (Zg1))
      ·simp only [ga,gs,gz]
       go_simp
       refine hK.out _ _ (KF.out _ Lau) (λhHeld=>?_);clear hK K
       try simp only [ga,gs,gz,Act.put,sa,sz,ss]
       refine rd 19 λK hK=>?_
       simp only [ga,gs,gz]
       go_simp
       refine hK.out _ _ (KF.out _ Lau) (λhHeld=>?_);clear hK K
       try simp only [ga,gs,gz,Act.put,sa,sz,ss]
       refine rd 20 λK hK=>?_
       refine qbz (by rfl) (.tmp 95) (.tmp 105) _ _ (by rfl) 22 Tryz.underlying28 g2 h (p+a) _ _ ⟨bg,og+pp,none⟩ part _ (by rfl) (by rfl) acc l 22 ((HJ.out.to Lau).own) ?n1 (Hy.out _ Lau) ?n2 ?_
       case n1=>rw [HL.out];exact (Nat.min_eq_left oZ).symm
       case n2=>rw [HL.out];omega
       intro w4 hC hU;have h6:=(HJ.out.to (Lau:Later wr _)).else_ hU hC;rw [←hW.out] at h6;have o1:=(Zi1 (hU.1 q gC)).trans (Later.cell (Lau:Later wr _) o1);have g1:=(Zi1 (hU.1 (w.heap.size+1) gZ)).trans (Later.cell (Lau:Later wr _) g1);have HV:=zI h6;clear h6 hC hU;refine hK.out _ _ (by first|exact ⟨o1,g1⟩|exact KF.out _ Lau) (λhHeld=>?_);clear hK K
       try simp only [ga,gs,gz,Act.put,sa,sz,ss]
       clear KF;refine Zn1 krZ ?_ _;refine Zd1 ?_;clear hHeld o1 g1;go_wp2_with fail;go_roundw
       case rel=>exact ⟨m+1,by omega,by go_num,HV.out.to Lau⟩
       case measure=>simp [intOf];omega
      ·simp only [ga,gs,gz]
       go_simp
       refine hK.out _ _ (KF.out _ Lau) (λhHeld=>?_);clear hK K
       try simp only [ga,gs,gz,Act.put,sa,sz,ss]
       refine rd 9 λK hK=>?_
       simp only [ga,gs,gz]
       go_simp
       refine hK.out _ _ (KF.out _ Lau) (λhHeld=>?_);clear hK K
       try simp only [ga,gs,gz,Act.put,sa,sz,ss]
       refine rd 20 λK hK=>?_
       refine qbz (by rfl) (.tmp 95) (.tmp 105) _ _ (by rfl) 22 Tryz.underlying28 g2 h (p+a) _ _ ⟨bg,og+pp,none⟩ part _ (by rfl) (by rfl) acc l 22 ((HJ.out.to Lau).own) ?n1 (Hy.out _ Lau) ?n2 ?_
       case n1=>rw [HL.out];exact (Nat.min_eq_left oZ).symm
       case n2=>rw [HL.out];omega
       intro w4 hC hU;have h6:=(HJ.out.to (Lau:Later wr _)).else_ hU hC;rw [←hW.out] at h6;have o1:=(Zi1 (hU.1 q gC)).trans (Later.cell (Lau:Later wr _) o1);have g1:=(Zi1 (hU.1 (w.heap.size+1) gZ)).trans (Later.cell (Lau:Later wr _) g1);have HV:=zI h6;clear h6 hC hU;refine hK.out _ _ (by first|exact ⟨o1,g1⟩|exact KF.out _ Lau) (λhHeld=>?_);clear hK K
       try simp only [ga,gs,gz,Act.put,sa,sz,ss]
       clear KF;refine Zn1 krZ ?_ _;refine Zd1 ?_;clear hHeld o1 g1;go_wp2_with fail;go_roundw
       case rel=>exact ⟨m+1,by omega,by go_num,HV.out.to Lau⟩
       case measure=>simp [intOf];omega
     ·obtain rfl:m=pre:=by omega
      obtain ⟨HW,Hn⟩:=hw;generalize Ly.cutX x.c.length row a part g.c m=acc at *;have o0:wr.cell? ⟨q,0,none⟩=some (.slice (some ⟨gg,0,none⟩) x.s.length x.s.length):=by rw [hJ.box.cell];rfl
      have o1:wr.cell? ⟨q,1,none⟩=some (.slice (some ⟨h,0,none⟩) x.c.length x.c.length):=by rw [hJ.box.cell];rfl
      have c0:=hJ.bz.cell 0;have c1:=hJ.bz.cell 1;have f0:=hJ.bz.frozen 0;have f1:=hJ.bz.frozen 1;simp at c0 c1;have hn:=(hJ.bz.set_ 0 (.slice (some ⟨gg,0,none⟩) x.s.length x.s.length)).set_ 1 (.slice (some ⟨h,0,none⟩) x.c.length x.c.length);have d0:=hn.cell 0;have d1:=hn.cell 1;simp at d0 d1;clear hR;obtain ⟨HJ,gX,Ha,gY⟩:=zd4 hJ Hn hn HW;clear hJ Hn hn HW;go_wp2_with fail;refine Zk1 (v:=.tuple #[.agg #[.slice (some ⟨gg,0,none⟩) x.s.length x.s.length,.slice (some ⟨h,0,none⟩) x.c.length x.c.length],.int .i64 0]) (by simp [results,Tryz.results16,go_sem,d0,d1]) rfl ?_;exact HJ.out.done HE.out gY.out oZ (by have:=gY.out;omega) gX.out _ _
end Go.Proofs.YtbnnpkcfifejmaaGreat
