/- Lemmas for the statements of this seat: contracts of functions and the plain laws. -/
import Derived.Deep.AppendLies
import Derived.Laws.CopyRow
import Derived.Test.YtbnnpkcfifejmaaGreatRows
import Derived.Test.YtbnnpkcfifejmaaGreatZ06
set_option linter.unusedVariables false
open List renaming take_succ_eq_append_getElem → Zb, replicate → Zc, drop_eq_getElem_cons → Zd, length_append → Ze, all_eq_true → Zf, take_length → Zg, mem_of_mem_take → Zh, getElem?_eq_none → Zi, flatMap_append → Zj, getElem?_toArray → Zk, getElem?_append_right → Zl, getElem?_append_left → Zm, take_append_drop → Zn, length_take → Zo, mem_of_mem_drop → Zp, length_drop → Zq, getElem?_set_self → Zr, getElem?_set_ne → Zs
open Nat renaming zero_le → Zt, succ_mul → Zu, le_trans → Zv, zero_add → Zw, add_zero → Zx, le_succ → Zy
open Bool renaming and_eq_true → Zz
open Go.Value renaming int → Za1, slice → Zb1
open Go.IntWalk renaming i64_in → Zc1
open Go.NoPanic renaming normal → Zd1
open Go.RowKit.Below renaming refl → Ze1
open Go.AllReadyH renaming cons → Zf1, nil → Zg1
open Go.World renaming size_alloc → Zh1, cell?_of_block → Zi1, block_lt_of_cell? → Zj1
open Go renaming bodyPost_ret → Zk1, wp_region_held_drew → Zl1, wp_region_noPanic → Zm1, wpAnyH_done → Zn1, wpAnyH_ready → Zo1, World → Zp1
namespace Go.Proofs.YtbnnpkcfifejmaaGreat
set_option maxHeartbeats 16000000
open Go.RowKit
def four (u0 u1 u2 u3:Value) (tb:Nat) (w:Zp1):Zp1:=(((w.setCell ⟨tb,0,none⟩ u0).setCell ⟨tb,1,none⟩ u1).setCell ⟨tb,2,none⟩ u2).setCell ⟨tb,3,none⟩ u3
theorem qbh (u0 u1 u2 u3:Value) (tb:Nat) (w:Zp1):Else tb w (four u0 u1 u2 u3 tb w):=((((Else.refl tb w).setCell 0 u0).setCell 1 u1).setCell 2 u2).setCell 3 u3
theorem qbY {u0 u1 u2 u3 v0 v1 v2 v3:Value} {tb:Nat} {T:TypeId} {w:Zp1} (h:Blk w tb T #[v0,v1,v2,v3]):Blk (four u0 u1 u2 u3 tb w) tb T #[u0,u1,u2,u3]:=by
 have:=(((h.set_ 0 u0).set_ 1 u1).set_ 2 u2).set_ 3 u3;simpa [four] using this
theorem qab {w:Zp1} {p:Nat} {T:TypeId} {v0 v1 v2 v3:Value} (h:Blk w p T #[v0,v1,v2,v3]):w.cell? ⟨p,0,none⟩=some v0/\w.cell? ⟨p,1,none⟩=some v1/\w.cell? ⟨p,2,none⟩=some v2/\w.cell? ⟨p,3,none⟩=some v3/\
  w.frozen? ⟨p,0,none⟩=false/\w.frozen? ⟨p,1,none⟩=false/\w.frozen? ⟨p,2,none⟩=false/\w.frozen? ⟨p,3,none⟩=false:=
 ⟨h.cell 0,h.cell 1,h.cell 2,h.cell 3,h.frozen 0,h.frozen 1,h.frozen 2,h.frozen 3⟩
theorem qaR {w W:Zp1} {p:Nat} (h:Later w W) (hp:w.heap.size<=p) (u0 u1 u2 u3:Value):Later w (four u0 u1 u2 u3 p W):=(qbh u0 u1 u2 u3 p W).below h hp
theorem GoC.fail {n:Int} {r:(Ten × Ten) × Int} {w w':Zp1} (hr:r=((Ly.none_,Ly.none_),n)) (hn:n≠0) (hb:Below w.heap.size w w'):GoC r w (.returned (.tuple #[.agg #[.slice none 0 0,.slice none 0 0,.slice none 0 0,.slice none 0 0],.int .i64 n])) w':=by
 subst hr;exact ⟨.inl ⟨hn,rfl⟩,hb⟩
namespace Ly
theorem convW_push (g x:List Int) (ts:List Touch) (t:Touch) (n:Nat):convW g x (ts++[t]) n=addAt (convW g x ts n) t.w (Fx.mul (at_ g t.o) (at_ x t.x)):=by unfold convW;rw [List.foldl_append];rfl
theorem convX_push (g w:List Int) (ts:List Touch) (t:Touch) (n:Nat):convX g w (ts++[t]) n=addAt (convX g w ts n) t.x (Fx.mul (at_ g t.o) (at_ w t.w)):=by unfold convX;rw [List.foldl_append];rfl
theorem qce (g x:List Int) (n:Nat):∀ts:List Touch,(convW g x ts.reverse n).length=n/\∀z∈convW g x ts.reverse n,Fx.In z
 | []=>⟨by simp [convW,zeros],λz hz=>by simp [convW,zeros] at hz;rw [hz.2];exact Fx.in_zero⟩
 | t::r=>by
  obtain ⟨h1,h2⟩:=qce g x n r;rw [List.reverse_cons,convW_push];exact ⟨by rw [qaK,h1],qbU h2 (Fx.mul_in _ _)⟩
theorem convW_facts (g x:List Int) (n:Nat) (ts:List Touch):(convW g x ts n).length=n/\∀z∈convW g x ts n,Fx.In z:=by have:=qce g x n ts.reverse;rwa [List.reverse_reverse] at this
theorem qcf (g w:List Int) (n:Nat):∀ts:List Touch,(convX g w ts.reverse n).length=n/\∀z∈convX g w ts.reverse n,Fx.In z
 | []=>⟨by simp [convX,zeros],λz hz=>by simp [convX,zeros] at hz;rw [hz.2];exact Fx.in_zero⟩
 | t::r=>by
  obtain ⟨h1,h2⟩:=qcf g w n r;rw [List.reverse_cons,convX_push];exact ⟨by rw [qaK,h1],qbU h2 (Fx.mul_in _ _)⟩
theorem convX_facts (g w:List Int) (n:Nat) (ts:List Touch):(convX g w ts n).length=n/\∀z∈convX g w ts n,Fx.In z:=by have:=qcf g w n ts.reverse;rwa [List.reverse_reverse] at this
end Ly
structure CbI (w:Zp1) (tb ga gb g0 h0 g2 h2:Nat) (bw bx bg be va vb:Array Value) (sw sx W X:List Int) (wx:Zp1):Prop where
 kw:Blk wx w.heap.size 30 bw
 kx:Blk wx (w.heap.size+1) 30 bx
 kg:Blk wx (w.heap.size+2) 30 bg
 kz:Blk wx (w.heap.size+3) 46 #[.slice none 0 0,.slice none 0 0,.slice none 0 0,.slice none 0 0]
 ke:Blk wx tb 46 be
 ka:Blk wx ga 28 va
 kb:Blk wx gb 28 vb
 G0:Blk wx g0 3 (sw.map (Za1 .i64)).toArray
 H0:Blk wx h0 22 (W.map (Za1 .i64)).toArray
 G2:Blk wx g2 3 (sx.map (Za1 .i64)).toArray
 H2:Blk wx h2 22 (X.map (Za1 .i64)).toArray
 lo:w.heap.size<=g0/\w.heap.size<=g2/\w.heap.size+3<tb/\w.heap.size<=h0/\h0<h2
 later:Later w wx
theorem CbI.of {w wx:Zp1} {tb ga gb g0 h0 g2 h2:Nat} {bw bx bg be va vb:Array Value} {sw sx W X:List Int} {wy:Zp1} {N:Nat} (H:CbI w tb ga gb g0 h0 g2 h2 bw bx bg be va vb sw sx W X wx) (hk:∀k,k<N->wy.heap[k]? = wx.heap[k]?) {W7 X7:List Int} {w7:Zp1} (H7:CbI w tb ga gb g0 h0 g2 h2 bw bx bg be va vb sw sx W7 X7 w7) (hN:w7.heap.size<=N) (hl:Later w wy):CbI w tb ga gb g0 h0 g2 h2 bw bx bg be va vb sw sx W X wy:=
 ⟨(hk _ (ltZ H7.kw.lt hN)).trans H.kw,(hk _ (ltZ H7.kx.lt hN)).trans H.kx,(hk _ (ltZ H7.kg.lt hN)).trans H.kg,(hk _ (ltZ H7.kz.lt hN)).trans H.kz,(hk _ (ltZ H7.ke.lt hN)).trans H.ke,(hk _ (ltZ H7.ka.lt hN)).trans H.ka,(hk _ (ltZ H7.kb.lt hN)).trans H.kb,(hk _ (ltZ H7.G0.lt hN)).trans H.G0,(hk _ (ltZ H7.H0.lt hN)).trans H.H0,(hk _ (ltZ H7.G2.lt hN)).trans H.G2,(hk _ (ltZ H7.H2.lt hN)).trans H.H2,H.lo,hl⟩
theorem CbI.to {w wx:Zp1} {tb ga gb g0 h0 g2 h2:Nat} {bw bx bg be va vb:Array Value} {sw sx W X:List Int} {wy:Zp1} (H:CbI w tb ga gb g0 h0 g2 h2 bw bx bg be va vb sw sx W X wx) (hl:Later wx wy):CbI w tb ga gb g0 h0 g2 h2 bw bx bg be va vb sw sx W X wy:=H.of (N:=wx.heap.size) (λk hk=>hl.block k hk) H (lrZ _) (H.later.trans hl)
theorem CbI.elseW {w wx:Zp1} {tb ga gb g0 h0 g2 h2:Nat} {bw bx bg be va vb:Array Value} {sw sx W X:List Int} {wy:Zp1} {W':List Int} (H:CbI w tb ga gb g0 h0 g2 h2 bw bx bg be va vb sw sx W X wx) (hE:Else h0 wx wy) (hb:Blk wy h0 22 (W'.map (Za1 .i64)).toArray):CbI w tb ga gb g0 h0 g2 h2 bw bx bg be va vb sw sx W' X wy:=by
 obtain ⟨l0,l2,l3,l4,l5⟩:=H.lo;exact ⟨hE.blk (qa4 H.kw H.H0 dZ) H.kw,hE.blk (qa4 H.kx H.H0 dZ) H.kx,hE.blk (qa4 H.kg H.H0 dZ) H.kg,hE.blk (qa4 H.kz H.H0 dZ) H.kz,hE.blk (qa4 H.ke H.H0 dZ) H.ke,hE.blk (qa4 H.ka H.H0 dZ) H.ka,hE.blk (qa4 H.kb H.H0 dZ) H.kb,hE.blk (qa4 H.G0 H.H0 dZ) H.G0,hb,hE.blk (qa4 H.G2 H.H0 dZ) H.G2,hE.blk oZ H.H2,H.lo,hE.below H.later oZ⟩
theorem CbI.elseX {w wx:Zp1} {tb ga gb g0 h0 g2 h2:Nat} {bw bx bg be va vb:Array Value} {sw sx W X:List Int} {wy:Zp1} {X':List Int} (H:CbI w tb ga gb g0 h0 g2 h2 bw bx bg be va vb sw sx W X wx) (hE:Else h2 wx wy) (hb:Blk wy h2 22 (X'.map (Za1 .i64)).toArray):CbI w tb ga gb g0 h0 g2 h2 bw bx bg be va vb sw sx W X' wy:=by
 obtain ⟨l0,l2,l3,l4,l5⟩:=H.lo;exact ⟨hE.blk (qa4 H.kw H.H2 dZ) H.kw,hE.blk (qa4 H.kx H.H2 dZ) H.kx,hE.blk (qa4 H.kg H.H2 dZ) H.kg,hE.blk (qa4 H.kz H.H2 dZ) H.kz,hE.blk (qa4 H.ke H.H2 dZ) H.ke,hE.blk (qa4 H.ka H.H2 dZ) H.ka,hE.blk (qa4 H.kb H.H2 dZ) H.kb,hE.blk (qa4 H.G0 H.H2 dZ) H.G0,hE.blk oZ H.H0,hE.blk (qa4 H.G2 H.H2 dZ) H.G2,hb,H.lo,hE.below H.later oZ⟩
theorem CbI.putW {w wx:Zp1} {tb ga gb g0 h0 g2 h2:Nat} {bw bx bg be va vb:Array Value} {sw sx W X:List Int} (H:CbI w tb ga gb g0 h0 g2 h2 bw bx bg be va vb sw sx W X wx) (k:Nat) (z:Int):CbI w tb ga gb g0 h0 g2 h2 bw bx bg be va vb sw sx (W.set k z) X (wx.setCell ⟨h0,k,none⟩ (.int .i64 z)):=
 H.elseW ((Else.refl _ _).setCell k _) (by have:=H.H0.set_ k (.int .i64 z);rw [List.map_set];simpa using this)
theorem CbI.putX {w wx:Zp1} {tb ga gb g0 h0 g2 h2:Nat} {bw bx bg be va vb:Array Value} {sw sx W X:List Int} (H:CbI w tb ga gb g0 h0 g2 h2 bw bx bg be va vb sw sx W X wx) (k:Nat) (z:Int):CbI w tb ga gb g0 h0 g2 h2 bw bx bg be va vb sw sx W (X.set k z) (wx.setCell ⟨h2,k,none⟩ (.int .i64 z)):=
 H.elseX ((Else.refl _ _).setCell k _) (by have:=H.H2.set_ k (.int .i64 z);rw [List.map_set];simpa using this)
def CbCut (w:Zp1) (t x:Ten) (w4:Zp1) (a:Value) (wx:Zp1):Prop:=
 ∃tb g0 h0 g2 h2,a=.pointer (some ⟨tb,0,none⟩)/\Blk wx tb 46 #[.slice (some ⟨g0,0,none⟩) t.s.length t.s.length,.slice (some ⟨h0,0,none⟩) t.c.length t.c.length,.slice (some ⟨g2,0,none⟩) x.s.length x.s.length,.slice (some ⟨h2,0,none⟩) x.c.length x.c.length]/\
  Blk wx g0 3 (t.s.map (Za1 .i64)).toArray/\Blk wx h0 22 (t.c.map (Za1 .i64)).toArray/\Blk wx g2 3 (x.s.map (Za1 .i64)).toArray/\Blk wx h2 22 (x.c.map (Za1 .i64)).toArray/\
  w4.heap.size<=g0/\w4.heap.size<=g2/\w4.heap.size<=tb/\w4.heap.size<=h0/\h0<h2/\Later w4 wx
theorem cb_mk {w w4 wa wc:Zp1} {tb g0 h0 g2 h2:Nat} {t x:Ten} (l1:Later w4 wa) (l2:Later wa wc) (G0:Blk wa g0 3 (t.s.map (Za1 .i64)).toArray) (H0:Blk wa h0 22 (t.c.map (Za1 .i64)).toArray) (G2:Blk wc g2 3 (x.s.map (Za1 .i64)).toArray) (H2:Blk wc h2 22 (x.c.map (Za1 .i64)).toArray)
  (ke:Blk wc tb 46 #[.slice (some ⟨g0,0,none⟩) t.s.length t.s.length,.slice (some ⟨h0,0,none⟩) t.c.length t.c.length,.slice (some ⟨g2,0,none⟩) x.s.length x.s.length,.slice (some ⟨h2,0,none⟩) x.c.length x.c.length])
  (q0:w4.heap.size<=g0/\w4.heap.size<=h0) (q2:wa.heap.size<=g2/\wa.heap.size<=h2) (q3:w4.heap.size<=tb):CbCut w t x w4 (.pointer (some ⟨tb,0,none⟩)) wc:=by
 have s1:=l1.size;have e0:=H0.lt;exact ⟨tb,g0,h0,g2,h2,rfl,ke,l2.blk G0,l2.blk H0,G2,H2,by omega,by omega,q3,by omega,by omega,l1.trans l2⟩
theorem cb_st {w w4 wa wc:Zp1} {tb g0 h0 g2 h2:Nat} {v0 v1 v2 v3:Value} {t x:Ten} (l1:Later w4 wa) (l2:Later wa wc) (G0:Blk wa g0 3 (t.s.map (Za1 .i64)).toArray) (H0:Blk wa h0 22 (t.c.map (Za1 .i64)).toArray) (G2:Blk wc g2 3 (x.s.map (Za1 .i64)).toArray) (H2:Blk wc h2 22 (x.c.map (Za1 .i64)).toArray)
  (ke:Blk wc tb 46 #[v0,v1,v2,v3]) (q0:w4.heap.size<=g0/\w4.heap.size<=h0) (q2:wa.heap.size<=g2/\wa.heap.size<=h2) (q3:w4.heap.size<=tb):
  CbCut w t x w4 (.pointer (some ⟨tb,0,none⟩)) (four (.slice (some ⟨g0,0,none⟩) t.s.length t.s.length) (.slice (some ⟨h0,0,none⟩) t.c.length t.c.length) (.slice (some ⟨g2,0,none⟩) x.s.length x.s.length) (.slice (some ⟨h2,0,none⟩) x.c.length x.c.length) tb wc):=by
 have hE:=qbh (.slice (some ⟨g0,0,none⟩) t.s.length t.s.length) (.slice (some ⟨h0,0,none⟩) t.c.length t.c.length) (.slice (some ⟨g2,0,none⟩) x.s.length x.s.length) (.slice (some ⟨h2,0,none⟩) x.c.length x.c.length) tb wc;have s1:=l1.size;have e0:=H0.lt;have G0':=l2.blk G0;have ha:=l2.blk H0;exact ⟨tb,g0,h0,g2,h2,rfl,qbY ke,hE.blk (qa4 G0' ke dZ) G0',hE.blk (qa4 ha ke dZ) ha,hE.blk (qa4 G2 ke dZ) G2,hE.blk (qa4 H2 ke dZ) H2,by omega,by omega,q3,by omega,by omega,hE.below (l1.trans l2) oZ⟩
def CbCut2 (h0 n0 h2 n2:Nat) (w9:Zp1) (a b:Value) (wx:Zp1):Prop:=
 ∃ga gb,a=.pointer (some ⟨ga,0,none⟩)/\b=.pointer (some ⟨gb,0,none⟩)/\Blk wx ga 28 #[.slice (some ⟨h0,0,none⟩) n0 n0]/\Blk wx gb 28 #[.slice (some ⟨h2,0,none⟩) n2 n2]/\Later w9 wx
set_option maxRecDepth 20000 in
theorem qgu (S C S' C' GS GC:Option Addr) (c d c' d' gc gd:Nat) (t x g:Ten) (step:Int) (w:Zp1) (ht:TenIn w S C c d t) (hx:TenIn w S' C' c' d' x) (hg:TenIn w GS GC gc gd g):
  Calls Tryz.prog 13 #[.agg #[.slice S t.s.length c,.slice C t.c.length d],.agg #[.slice S' x.s.length c',.slice C' x.c.length d'],.agg #[.slice GS g.s.length gc,.slice GC g.c.length gd],.int .i64 step] w (GoC (Ly.convBack t x g step) w):=by
 obtain ⟨GG,Gi,Gm,hz,GJ⟩:=qbt w 30 30 30 46 #[.slice S t.s.length c,.slice C t.c.length d] #[.slice S' x.s.length c',.slice C' x.c.length d'] #[.slice GS g.s.length gc,.slice GC g.c.length gd] #[.slice none 0 0,.slice none 0 0,.slice none 0 0,.slice none 0 0];have l1:=ht.l1;have l5:=hx.s1;have l6:=hx.s2;have l2:=ht.l2;have l3:=hx.l1;have l4:=hx.l2;have l7:=hg.l1;have l8:=hg.l2;obtain ⟨gM,gQ,Gk,Hz,g5,Ht,Hx,Hg⟩:=zd8 GG Gi Gm hz GJ ht hx hg;clear GG Gi Gm hz GJ ht hx hg;refine callsIn_wide.1 (callsIn_of_wp_marks (n:=9) Tryz.func13 rfl trivial (wpIn_wide.2 ?_));simp only [Tryz.ntmps13,List.size_toArray,List.length_cons,List.length_nil,Nat.reduceAdd,Nat.reduceSub,Array.replicate_succ,Array.replicate_zero,List.push_toArray,List.append_toArray,List.nil_append,List.cons_append];go_upto_region 1 with fail;generalize ((((w.alloc (.cells #[.slice S t.s.length c,.slice C t.c.length d] 30)).alloc (.cells #[.slice S' x.s.length c',.slice C' x.c.length d'] 30)).alloc (.cells #[.slice GS g.s.length gc,.slice GC g.c.length gd] 30)).alloc (.cells #[.slice none 0 0,.slice none 0 0,.slice none 0 0,.slice none 0 0] 46))=w1 at *;have a0:=gM.out.cell 0;have a1:=gM.out.cell 1;have b0:=gQ.out.cell 0;have b1:=gQ.out.cell 1;simp at a0 a1 b0 b1;go_wp2_with fail;refine (qa2 S C c d t w1 oZ oZ (Ht.out.later g5.out).r.1).mono ?_;rintro e w2 ⟨rfl,GQ⟩;have HD:Later w1 w2:=GQ;have Ha:=g5.out.trans HD;have gw:=HD.blk Hz.out;have h3:=HD.blk gM.out;have hB:=HD.blk gQ.out;have Hf:=HD.blk Gk.out;clear GQ Hz g5 gM gQ Gk HD a0 a1 b0 b1;cases hr:Tn.right t
 ·have HE:=zI (show Ly.convBack t x g step=((Ly.none_,Ly.none_),20) by simp [Ly.convBack,Ly.convErr,hr])
  clear hr;obtain ⟨c0,c1,c2,c3,f0,f1,f2,f3⟩:=qab gw;obtain ⟨gB,Ga,Hs,Ho,Hm⟩:=zd5 Ha gw h3 hB Hf;clear Ha gw h3 hB Hf;go_wp2_with fail;refine qak (v:=.tuple #[.agg #[.slice none 0 0,.slice none 0 0,.slice none 0 0,.slice none 0 0],.int .i64 20]) (by simp [results,Tryz.results13,go_sem,c0,c1,c2,c3]) rfl ?_;exact GoC.fail HE.out dZ (qaR (p:=w.heap.size+3) gB.out oZ _ _ _ _)
 have b0:=hB.cell 0;have b1:=hB.cell 1;simp at b0 b1;obtain ⟨gB,Ga,Hs,Ho,Hm⟩:=zd5 Ha gw h3 hB Hf;clear Ha gw h3 hB Hf;go_wp2_with fail;refine (qa2 S' C' c' d' x w2 oZ oZ (Hx.out.later gB.out).r.1).mono ?_;rintro e w3 ⟨rfl,gi⟩;have HL:Later w2 w3:=gi;have gK:=gB.out.trans HL;have gm:=HL.blk Ga.out;have ho:=HL.blk Hs.out;have hu:=HL.blk Ho.out;have hE:=HL.blk Hm.out;clear gi Ga gB Hs Ho Hm HL b0 b1;cases hq:Tn.right x
 ·have HE:=zI (show Ly.convBack t x g step=((Ly.none_,Ly.none_),20) by simp [Ly.convBack,Ly.convErr,hr,hq])
  clear hr hq;obtain ⟨c0,c1,c2,c3,f0,f1,f2,f3⟩:=qab gm;obtain ⟨HG,g4,Hq,Hc,Hn⟩:=zd5 gK gm ho hu hE;clear gK gm ho hu hE;go_wp2_with fail;refine qak (v:=.tuple #[.agg #[.slice none 0 0,.slice none 0 0,.slice none 0 0,.slice none 0 0],.int .i64 20]) (by simp [results,Tryz.results13,go_sem,c0,c1,c2,c3]) rfl ?_;exact GoC.fail HE.out dZ (qaR (p:=w.heap.size+3) HG.out oZ _ _ _ _)
 have a0:=ho.cell 0;have b0:=hu.cell 0;simp at a0 b0;obtain ⟨HG,g4,Hq,Hc,Hn⟩:=zd5 gK gm ho hu hE;clear gK gm ho hu hE;go_wp2_with fail;refine (qbm S S' c c' t.s x.s step w3 oZ oZ oZ oZ (Ht.out.later HG.out).r.1 (Hx.out.later HG.out).r.1).mono ?_;rintro e w4 ⟨A,ac,rfl,hI,kq,kF,hf,hb⟩;have HJ:Later w3 w4:=hb;have Hy:=HG.out.trans HJ;have hX:=HJ.blk g4.out;have hN:=HJ.blk Hq.out;have hO:=HJ.blk Hc.out;have hj:=HJ.blk Hn.out;clear hb g4 HG Hq Hc Hn HJ a0 b0 hf;have gb:Ly.convErr t x step=(Od.conv t.s x.s step).2:=by simp [Ly.convErr,hr,hq]
 by_cases H6:(Od.conv t.s x.s step).2≠0
 ·have HE:=zI (show Ly.convBack t x g step=((Ly.none_,Ly.none_),(Od.conv t.s x.s step).2) by simp [Ly.convBack,gb,H6])
  have d2:((Od.conv t.s x.s step).2 != 0)=true:=by simpa using H6
  have ky:=zI H6;clear hr hq gb H6;generalize (Od.conv t.s x.s step).2=er at *;generalize (Od.conv t.s x.s step).1=os at *;obtain ⟨c0,c1,c2,c3,f0,f1,f2,f3⟩:=qab hX;obtain ⟨HB,gh,Hh,Hw,Hj,HI⟩:=zd6 Hy hX hN hO hj hI;clear Hy hX hN hO hj hI;go_wp2_with fail;refine qak (v:=.tuple #[.agg #[.slice none 0 0,.slice none 0 0,.slice none 0 0,.slice none 0 0],.int .i64 er]) (by simp [results,Tryz.results13,go_sem,c0,c1,c2,c3]) rfl ?_;exact GoC.fail HE.out ky.out (qaR (p:=w.heap.size+3) HB.out oZ _ _ _ _)
 have HN:(Od.conv t.s x.s step).2=0:=by omega
 have Hi:(Tn.right g&&(g.s==(Od.conv t.s x.s step).1))=false->Ly.convBack t x g step=((Ly.none_,Ly.none_),20):=λh=>by
  unfold Ly.convBack;rw [if_pos (by rw [gb,HN]),if_neg];intro hh;rw [Zz,decide_eq_true_eq] at hh;rw [hh.1,hh.2] at h;simp at h
 have hn:Tn.right g=true->g.s=(Od.conv t.s x.s step).1->Ly.convBack t x g step=((⟨t.s,Ly.convW g.c x.c (Ly.convT t x step) t.c.length⟩,⟨x.s,Ly.convX g.c t.c (Ly.convT t x step) x.c.length⟩),0):=λh hs=>by
  unfold Ly.convBack;rw [if_pos (by rw [gb,HN]),if_pos (by rw [h,hs];simp)]
 clear H6 gb;obtain ⟨kI,gp,hW⟩:=Ly.conv_fit HN;rw [HN]
 have kf:(Od.conv t.s x.s step).1.length<=4:=by
  rcases hW with ⟨_,_,_,_,_,_,_,e⟩|⟨_,_,_,_,_,_,_,_,_,_,e⟩<;>rw [e]<;>simp
 have hp:=qd9 S S' c c' t.s x.s step;obtain ⟨HF,HK,Gd,gZ⟩:=zd4 gp HN hr hq;obtain ⟨out,hout⟩:∃out,(Od.conv t.s x.s step).1=out:=⟨_,rfl⟩
 rw [hout] at hI kq kf Hi hn ⊢;have g0:=hj.cell 0;have g1:=hj.cell 1;simp at g0 g1;have GK:=qa2 GS GC gc gd g w4 oZ oZ (Hg.out.later Hy).r.1;have GO:=λ(V:Zp1) (h:Later w4 V)=>qaa GS A gc ac g.s out V oZ oZ (Hg.out.later (Hy.trans h)).r.1 (hI.below h (lrZ _))
 obtain ⟨HT,hP⟩:=zd2 hp hout;clear gp HN hW hp hr hq hout;obtain ⟨HB,gh,Hh,Hw,Hj,HI,hm,hd,gx⟩:=zd9 Hy hX hN hO hj hI Hi hn GK;have Gp:=zI GO;clear Hy hX hN hO hj hI Hi hn GK GO;cases hr:Tn.right g
 ·have HE:=zI (hm.out (by rw [hr];rfl))
  rw [hr] at gx;clear hm hd hr;go_wp2_with fail;refine (gx.out).mono ?_;rintro e w5 ⟨rfl,H1⟩;have hv:Later w4 w5:=H1;have gY:=hv.blk gh.out;have GY:=HB.out.trans hv;clear g0 g1 H1;obtain ⟨c0,c1,c2,c3,f0,f1,f2,f3⟩:=qab gY;obtain ⟨HP,kD,kr⟩:=zd3 hv gY GY;clear hv gY GY;go_wp2_with fail;refine qak (v:=.tuple #[.agg #[.slice none 0 0,.slice none 0 0,.slice none 0 0,.slice none 0 0],.int .i64 20]) (by simp [results,Tryz.results13,go_sem,c0,c1,c2,c3]) rfl ?_;exact GoC.fail HE.out dZ (qaR (p:=w.heap.size+3) kr.out oZ _ _ _ _)
 rw [hr] at gx;go_wp2_with fail;refine (gx.out).mono ?_;rintro e w5 ⟨rfl,H1⟩;have hv:Later w4 w5:=H1;have g0':=hv.cell g0;clear H1 g0 g1;have hi:=Gp.out _ hv;cases hq:(g.s==out)
 ·have HE:=zI (hm.out (by rw [hr,hq];rfl))
  rw [hq] at hi;clear hm hd hr hq;obtain ⟨HP,hM⟩:=zd2 hv hi;clear hv hi;go_wp2_with fail;refine (hM.out).mono ?_;rintro e w6 ⟨rfl,q6,rfl⟩;have Hu:=(HP.out.drewN q6).blk gh.out;have Hd:=(HB.out.trans HP.out).drewN q6;clear g0';obtain ⟨c0,c1,c2,c3,f0,f1,f2,f3⟩:=qab Hu;obtain ⟨Gc,gJ⟩:=zd2 Hu Hd;clear Hu Hd;go_wp2_with fail;refine qak (v:=.tuple #[.agg #[.slice none 0 0,.slice none 0 0,.slice none 0 0,.slice none 0 0],.int .i64 20]) (by simp [results,Tryz.results13,go_sem,c0,c1,c2,c3]) rfl ?_;exact GoC.fail HE.out dZ (qaR (p:=w.heap.size+3) gJ.out oZ _ _ _ _)
 rw [hq] at hi;have Gf:g.s=out:=by simpa using hq
 have HE:=zI (hd.out hr Gf);have GU:(g.c.length:Int)=Safe.prod out:=by have:=hr;simp only [Tn.right,Zz,decide_eq_true_eq] at this;rw [←Gf];exact this.2
 obtain ⟨r1,r2⟩:=Ly.right_ok Gd.out;obtain ⟨r3,r4⟩:=Ly.right_ok gZ.out
 have G7:0<t.c.length:=by
  have:=Gd.out;simp only [Tn.right,Zz,decide_eq_true_eq] at this;have h2:=(Sh.right_mul this.1).2.2.2.2.1;omega
 have kt:0<x.c.length:=by
  have:=gZ.out;simp only [Tn.right,Zz,decide_eq_true_eq] at this;have h2:=(Sh.right_mul this.1).2.2.2.2.1;omega
 clear hm hd hq hr Gf;obtain ⟨HP,hM,kk⟩:=zd3 hv hi GU;clear hv hi GU;go_wp2_with fail;refine (hM.out).mono ?_;rintro e w6 ⟨rfl,q6,rfl⟩;have HO:=HP.out.drewN q6;clear g0' hM Gp gx HP;generalize w5.drewN q6=w6 at *;have Hd:=HB.out.trans HO;have hS:=HO.blk Hh.out;have hF:=HO.blk Hw.out;have ge:=HO.blk Hj.out;have Hu:=HO.blk gh.out;clear HO HB Hh Hw Hj gh HI;have a0:w6.cell? ⟨w.heap.size,0,none⟩=some (.slice S t.s.length c):=hS.cell 0;have a1:w6.cell? ⟨w.heap.size,1,none⟩=some (.slice C t.c.length d):=hS.cell 1;have b0:w6.cell? ⟨w.heap.size+1,0,none⟩=some (.slice S' x.s.length c'):=hF.cell 0;have b1:w6.cell? ⟨w.heap.size+1,1,none⟩=some (.slice C' x.c.length d'):=hF.cell 1;have Gn:=λ(V:Zp1) (h:Later w6 V)=>qa8 S C c d t V oZ oZ (Ht.out.later (Hd.trans h)).r
 have Gs:=λ(V:Zp1) (h:Later w6 V)=>qa8 S' C' c' d' x V oZ oZ (Hx.out.later (Hd.trans h)).r
 have G4:=Hu.lt;obtain ⟨gJ,gg,HX,HV,Gc,gT,gH⟩:=zd7 Hd hS hF ge Hu Gn Gs;clear Hd hS hF ge Hu Gn Gs;go_upto_region 8 with fail
 go_cut [12] from 50 to 117 (CbCut w t x w6)
 case first=>
  go_wp2_with fail;have KF:=zI (show ∀Xw,Later w6 Xw->Xw.cell? ⟨w.heap.size,0,none⟩=some (.slice S t.s.length c)/\Xw.cell? ⟨w.heap.size,1,none⟩=some (.slice C t.c.length d)/\Xw.cell? ⟨w.heap.size+1,0,none⟩=some (.slice S' x.s.length c')/\Xw.cell? ⟨w.heap.size+1,1,none⟩=some (.slice C' x.c.length d') from λXw h=>⟨h.cell a0,h.cell a1,h.cell b0,h.cell b1⟩);refine Zm1 ?_;refine Zl1 (S:=λXw=>Xw.cell? ⟨w.heap.size,0,none⟩=some (.slice S t.s.length c)/\Xw.cell? ⟨w.heap.size,1,none⟩=some (.slice C t.c.length d)/\Xw.cell? ⟨w.heap.size+1,0,none⟩=some (.slice S' x.s.length c')/\Xw.cell? ⟨w.heap.size+1,1,none⟩=some (.slice C' x.c.length d')) krZ (KF.out _ Lau) (λhHeld=>?_);refine tk 0 ?_;refine tk 2 ?_;refine Zo1 (rs:=[1,5]) krZ sZ ?_;refine Zf1 (o:=_) rfl (λK hK=>?_) (Zf1 (o:=_) rfl (λK hK=>?_) (Zg1))
  ·simp only [ga,gs,gz]
   go_simp
   go_at_call 52;(with_reducible refine (gT.out _ (Lau:Later w6 _)).mono ?_);rintro e wa ⟨v,rfl,⟨g0,h0,rfl,q1,q2,hG,hH⟩,go⟩
   have k0:w6.heap.size<=g0/\w6.heap.size<=h0:=by (constructor<;>first|assumption|(simp at q1 q2;omega))
   obtain ⟨hU,he⟩:=zd2 hG hH;clear q1 q2 hG hH
   try go_wp2_with fail
   refine hK.out _ _ (KF.out _ Lau) (λhHeld=>?_);clear hK K
   try simp only [ga,gs,gz,Act.put,sa,sz,ss]
   refine Zo1 (rs:=[3,5]) krZ sZ ?_;refine Zf1 (o:=_) rfl (λK hK=>?_) (Zf1 (o:=_) rfl (λK hK=>?_) (Zg1))
   ·simp only [ga,gs,gz]
    go_simp
    go_at_call 52;(with_reducible refine (gH.out _ (Lau:Later w6 _)).mono ?_);rintro e wc ⟨v,rfl,⟨g2,h2,rfl,q1,q2,hG,hH⟩,hR⟩
    have k2:wa.heap.size<=g2/\wa.heap.size<=h2:=by (constructor<;>first|assumption|(simp at q1 q2;omega))
    obtain ⟨hQ,hZ⟩:=zd2 hG hH;clear q1 q2 hG hH
    try go_wp2_with fail
    refine hK.out _ _ (KF.out _ Lau) (λhHeld=>?_);clear hK K
    try simp only [ga,gs,gz,Act.put,sa,sz,ss]
    refine tk 4 ?_;refine rd 5 λK hK=>?_
    simp only [ga,gs,gz]
    go_simp
    refine hK.out _ _ (KF.out _ Lau) (λhHeld=>?_);clear hK K
    try simp only [ga,gs,gz,Act.put,sa,sz,ss]
    refine rd 6 λK hK=>?_
    simp only [ga,gs,gz]
    go_simp
    refine hK.out _ _ ?_ (λhHeld=>?_)
    ·(try dsimp only);(refine ⟨?_,?_,?_,?_⟩<;>(repeat (refine qa0 ?_ (by first|omega|(simp;done)|(simp;omega))))<;>(refine Later.cell (Lau:Later w6 _) ?_)<;>assumption)
    clear hK K
    try simp only [ga,gs,gz,Act.put,sa,sz,ss]
    clear KF;refine Zn1 krZ ?_ _;refine Zd1 ?_;go_wp2_with fail;have l1:Later w6 wa:=(Lau:Later w6 wa)
    have l2:Later wa wc:=(Lau:Later wa wc)
    have l3:=l1.size;have l4:=l2.size
    go_meet
    exact cb_mk l1 (l2.alloc _) hU.out he.out (((Later.refl wc).alloc _).blk hQ.out) (((Later.refl wc).alloc _).blk hZ.out) (Blk.new wc _ _) k0 k2 oZ
   ·simp only [ga,gs,gz]
    go_simp
    refine hK.out _ _ (KF.out _ Lau) (λhHeld=>?_);clear hK K
    try simp only [ga,gs,gz,Act.put,sa,sz,ss]
    refine rd 3 λK hK=>?_
    simp only [ga,gs,gz]
    go_simp
    go_at_call 52;(with_reducible refine (gH.out _ (Lau:Later w6 _)).mono ?_);rintro e wc ⟨v,rfl,⟨g2,h2,rfl,q1,q2,hG,hH⟩,hR⟩
    have k2:wa.heap.size<=g2/\wa.heap.size<=h2:=by (constructor<;>first|assumption|(simp at q1 q2;omega))
    obtain ⟨hQ,hZ⟩:=zd2 hG hH;clear q1 q2 hG hH;have h6:=(show Later (wa.alloc (.cells #[.slice none 0 0,.slice none 0 0,.slice none 0 0,.slice none 0 0] 46)) wc from hR).blk (Blk.new wa _ _);obtain ⟨z0,z1,z2,z3,y0,y1,y2,y3⟩:=qab h6;have gU:=zI h6;have lA:Later w6 wa:=(Lau:Later w6 wa)
    have sA:=lA.size;clear h6 lA
    try go_wp2_with fail
    refine hK.out _ _ (KF.out _ Lau) (λhHeld=>?_);clear hK K
    try simp only [ga,gs,gz,Act.put,sa,sz,ss]
    refine tk 4 ?_;refine rd 6 λK hK=>?_
    simp only [ga,gs,gz]
    go_simp
    refine hK.out _ _ ?_ (λhHeld=>?_)
    ·(try dsimp only);(refine ⟨?_,?_,?_,?_⟩<;>(repeat (refine qa0 ?_ (by first|omega|(simp;done)|(simp;omega))))<;>(refine Later.cell (Lau:Later w6 _) ?_)<;>assumption)
    clear hK K
    try simp only [ga,gs,gz,Act.put,sa,sz,ss]
    clear KF;refine Zn1 krZ ?_ _;refine Zd1 ?_;go_wp2_with fail;have l1:Later w6 wa:=(Lau:Later w6 wa)
    have l2:Later wa wc:=(Lau:Later wa wc)
    have l3:=l1.size;have l4:=l2.size
    go_meet
    exact cb_st l1 l2 hU.out he.out hQ.out hZ.out gU.out k0 k2 oZ
  ·simp only [ga,gs,gz]
   go_simp
   refine hK.out _ _ (KF.out _ Lau) (λhHeld=>?_);clear hK K
   try simp only [ga,gs,gz,Act.put,sa,sz,ss]
   refine rd 1 λK hK=>?_
   simp only [ga,gs,gz]
   go_simp
   go_at_call 52;(with_reducible refine (gT.out _ (Lau:Later w6 _)).mono ?_);rintro e wa ⟨v,rfl,⟨g0,h0,rfl,q1,q2,hG,hH⟩,go⟩
   have k0:w6.heap.size<=g0/\w6.heap.size<=h0:=by (constructor<;>first|assumption|(simp at q1 q2;omega))
   obtain ⟨hU,he⟩:=zd2 hG hH;clear q1 q2 hG hH
   try go_wp2_with fail
   refine hK.out _ _ (KF.out _ Lau) (λhHeld=>?_);clear hK K
   try simp only [ga,gs,gz,Act.put,sa,sz,ss]
   refine rd 3 λK hK=>?_
   simp only [ga,gs,gz]
   go_simp
   go_at_call 52;(with_reducible refine (gH.out _ (Lau:Later w6 _)).mono ?_);rintro e wc ⟨v,rfl,⟨g2,h2,rfl,q1,q2,hG,hH⟩,hR⟩
   have k2:wa.heap.size<=g2/\wa.heap.size<=h2:=by (constructor<;>first|assumption|(simp at q1 q2;omega))
   obtain ⟨hQ,hZ⟩:=zd2 hG hH;clear q1 q2 hG hH;have h6:=(show Later wa wc from hR).blk ((show Later _ wa from go).blk ((Blk.new w6 46 #[.slice none 0 0,.slice none 0 0,.slice none 0 0,.slice none 0 0]).drew));obtain ⟨z0,z1,z2,z3,y0,y1,y2,y3⟩:=qab h6;have gU:=zI h6;have lA:Later w6 wa:=(Lau:Later w6 wa)
   have sA:=lA.size;clear h6 lA
   try go_wp2_with fail
   refine hK.out _ _ (KF.out _ Lau) (λhHeld=>?_);clear hK K
   try simp only [ga,gs,gz,Act.put,sa,sz,ss]
   refine tk 4 ?_;refine rd 6 λK hK=>?_
   simp only [ga,gs,gz]
   go_simp
   refine hK.out _ _ ?_ (λhHeld=>?_)
   ·(try dsimp only);(refine ⟨?_,?_,?_,?_⟩<;>(repeat (refine qa0 ?_ (by first|omega|(simp;done)|(simp;omega))))<;>(refine Later.cell (Lau:Later w6 _) ?_)<;>assumption)
   clear hK K
   try simp only [ga,gs,gz,Act.put,sa,sz,ss]
   clear KF;refine Zn1 krZ ?_ _;refine Zd1 ?_;go_wp2_with fail;have l1:Later w6 wa:=(Lau:Later w6 wa)
   have l2:Later wa wc:=(Lau:Later wa wc)
   have l3:=l1.size;have l4:=l2.size
   go_meet
   exact cb_st l1 l2 hU.out he.out hQ.out hZ.out gU.out k0 k2 oZ
 case rest=>
  obtain ⟨tb,g0,h0,g2,h2,rfl,Gb,Gw,G3,GW,Gr,lg0,lg2,ltb,lh0,lh2,HM⟩:=hcut;have hl:=gJ.out.trans HM;have h3:=HM.blk gg.out;have hB:=HM.blk HX.out;have Hf:=HM.blk HV.out;have hz:=HM.blk Gc.out;obtain ⟨e0,e1,e2,e3,-⟩:=qab Gb;have Ha:h2≠h0:=by omega
  have kd:w.heap.size<=h0:=by omega
  clear a0 a1 b0 b1 gg HX HV Gc gT gH HM gJ;obtain ⟨Hl,Hs,Ho,Hm,Hz,gW,hU,he,hQ⟩:=zd9 hl h3 hB Hf hz Gb Gw G3 GW;have hZ:=zI Gr;clear hl h3 hB Hf hz Gb Gw G3 GW Gr;go_wp2_with (refine qaL rfl (.tmp 57) 28 22 rfl Tryz.underlying28 Tryz.zeroValue22 h0 22 t.c t.c.length rfl he.out G7 ?_);intro w8 GM hy;have Hp:=hy.blk (qa4 gW.out he.out dZ) gW.out;have gn:=hy.blk (qa4 hU.out he.out dZ) hU.out;have gy:=hy.blk (qa4 hQ.out he.out dZ) hQ.out;have H3:=hy.blk Ha hZ.out;have gD:=hy.blk (qa4 Hs.out he.out dZ) Hs.out;have H4:=hy.blk (qa4 Ho.out he.out dZ) Ho.out;have gt:=hy.blk (qa4 Hm.out he.out dZ) Hm.out;have Gl:=hy.blk (qa4 Hz.out he.out dZ) Hz.out;have Gz:Later w w8:=hy.below Hl.out kd;clear e0 e1 e2 e3 hy gW hU he hQ hZ Hs Ho Hm Hz Hl;obtain ⟨e0,e1,e2,e3,-⟩:=qab Hp;obtain ⟨Hb,Hr,h4,hc,He,Hk,h8,gS,GA⟩:=zd9 Hp gn gy H3 gD H4 gt Gl Gz;have Gj:=zI GM;clear Hp gn gy H3 gD H4 gt Gl Gz GM;go_wp2_with (refine qaL rfl (.tmp 60) 28 22 rfl Tryz.underlying28 Tryz.zeroValue22 h2 22 x.c x.c.length rfl hc.out kt ?_);intro w9 Gt hw;have h1:=hw.blk (qa4 Hb.out hc.out dZ) Hb.out;have HY:=hw.blk (qa4 Hr.out hc.out dZ) Hr.out;have gG:=hw.blk (qa4 h4.out hc.out dZ) h4.out;have Gu:=hw.blk (Ne.symm Ha) Gj.out;have gq:=hw.blk (qa4 He.out hc.out dZ) He.out;have gC:=hw.blk (qa4 Hk.out hc.out dZ) Hk.out;have gj:=hw.blk (qa4 h8.out hc.out dZ) h8.out;have GZ:=hw.blk (qa4 gS.out hc.out dZ) gS.out;have Go:Later w w9:=hw.below GA.out oZ;clear e0 e1 e2 e3 hw Hb Hr h4 hc Gj He Hk h8 gS GA;obtain ⟨e0,e1,e2,e3,-⟩:=qab h1;obtain ⟨H7,gE,H9,GL,h5,Hv,gk,Gv,Gq⟩:=zd9 h1 HY gG Gt gq gC gj GZ Go
  have Gh:=zI Gu;clear h1 HY gG Gt gq gC gj GZ Go Gu;go_upto_region 11 with fail
  go_cut [13,14] from 61 to 117 (CbCut2 h0 t.c.length h2 x.c.length w9)
  case first=>
   go_wp2_with fail;have KF:=zI (show ∀Xw,Later w9 Xw->Xw.cell? ⟨tb,1,none⟩=some (.slice (some ⟨h0,0,none⟩) t.c.length t.c.length)/\Xw.cell? ⟨tb,3,none⟩=some (.slice (some ⟨h2,0,none⟩) x.c.length x.c.length) from λXw h=>⟨h.cell e1,h.cell e3⟩);refine Zm1 ?_;refine Zl1 (S:=λXw=>Xw.cell? ⟨tb,1,none⟩=some (.slice (some ⟨h0,0,none⟩) t.c.length t.c.length)/\Xw.cell? ⟨tb,3,none⟩=some (.slice (some ⟨h2,0,none⟩) x.c.length x.c.length)) krZ (KF.out _ Lau) (λhHeld=>?_);refine tk 0 ?_;refine tk 1 ?_;refine tk 2 ?_;refine tk 3 ?_;refine tk 4 ?_;refine tk 5 ?_;refine Zo1 (rs:=[6,7]) krZ sZ ?_;refine Zf1 (o:=_) rfl (λK hK=>?_) (Zf1 (o:=_) rfl (λK hK=>?_) (Zg1))
   ·simp only [ga,gs,gz]
    go_simp
    refine hK.out _ _ (KF.out _ Lau) (λhHeld=>?_);clear hK K
    try simp only [ga,gs,gz,Act.put,sa,sz,ss]
    refine rd 7 λK hK=>?_
    simp only [ga,gs,gz]
    go_simp
    refine hK.out _ _ (KF.out _ Lau) (λhHeld=>?_);clear hK K
    try simp only [ga,gs,gz,Act.put,sa,sz,ss]
    refine rd 8 λK hK=>?_
    simp only [ga,gs,gz]
    go_simp
    refine hK.out _ _ ?_ (λhHeld=>?_)
    ·(try dsimp only);(refine ⟨?_,?_⟩<;>(repeat (refine qa0 ?_ (by first|omega|(simp;done)|(simp;omega))))<;>(refine Later.cell (Lau:Later w9 _) ?_)<;>assumption)
    clear hK K
    try simp only [ga,gs,gz,Act.put,sa,sz,ss]
    refine rd 9 λK hK=>?_
    simp only [ga,gs,gz]
    go_simp
    refine hK.out _ _ ?_ (λhHeld=>?_)
    ·(try dsimp only);(refine ⟨?_,?_⟩<;>(repeat (refine qa0 ?_ (by first|omega|(simp;done)|(simp;omega))))<;>(refine Later.cell (Lau:Later w9 _) ?_)<;>assumption)
    clear hK K
    try simp only [ga,gs,gz,Act.put,sa,sz,ss]
    clear KF;refine Zn1 krZ ?_ _;refine Zd1 ?_;clear hHeld;go_wp2_with fail;have p1:=Blk.new (w9.alloc (.cells #[.slice (some ⟨h0,0,none⟩) t.c.length t.c.length] 28)) 28 #[.slice (some ⟨h2,0,none⟩) x.c.length x.c.length];rw [Zh1] at p1
    go_meet
    exact ⟨_,_,rfl,rfl,((Blk.new w9 _ _).alloc _).drew,p1.drew,(((Later.refl w9).alloc _).alloc _).drew⟩
   ·simp only [ga,gs,gz]
    go_simp
    refine hK.out _ _ (KF.out _ Lau) (λhHeld=>?_);clear hK K
    try simp only [ga,gs,gz,Act.put,sa,sz,ss]
    refine rd 6 λK hK=>?_
    simp only [ga,gs,gz]
    go_simp
    refine hK.out _ _ (KF.out _ Lau) (λhHeld=>?_);clear hK K
    try simp only [ga,gs,gz,Act.put,sa,sz,ss]
    refine rd 8 λK hK=>?_
    simp only [ga,gs,gz]
    go_simp
    refine hK.out _ _ ?_ (λhHeld=>?_)
    ·(try dsimp only);(refine ⟨?_,?_⟩<;>(repeat (refine qa0 ?_ (by first|omega|(simp;done)|(simp;omega))))<;>(refine Later.cell (Lau:Later w9 _) ?_)<;>assumption)
    clear hK K
    try simp only [ga,gs,gz,Act.put,sa,sz,ss]
    refine rd 9 λK hK=>?_
    simp only [ga,gs,gz]
    go_simp
    refine hK.out _ _ ?_ (λhHeld=>?_)
    ·(try dsimp only);(refine ⟨?_,?_⟩<;>(repeat (refine qa0 ?_ (by first|omega|(simp;done)|(simp;omega))))<;>(refine Later.cell (Lau:Later w9 _) ?_)<;>assumption)
    clear hK K
    try simp only [ga,gs,gz,Act.put,sa,sz,ss]
    clear KF;refine Zn1 krZ ?_ _;refine Zd1 ?_;clear hHeld;go_wp2_with fail;have p1:=Blk.new (w9.alloc (.cells #[.slice (some ⟨h2,0,none⟩) x.c.length x.c.length] 28)) 28 #[.slice (some ⟨h0,0,none⟩) t.c.length t.c.length];rw [Zh1] at p1
    go_meet
    exact ⟨_,_,rfl,rfl,p1.drew,((Blk.new w9 _ _).alloc _).drew,(((Later.refl w9).alloc _).alloc _).drew⟩
  case rest=>
   obtain ⟨pa,pb,rfl,rfl,H5,HU,gr⟩:=hcut;have h9:=gr;have g6:=Gq.out.trans h9;have a0:=(h9.blk h5.out).cell 0;have b0:=(h9.blk Hv.out).cell 0;simp at a0 b0;have gF:CbI w tb pa pb g0 h0 g2 h2 #[.slice S t.s.length c,.slice C t.c.length d] #[.slice S' x.s.length c',.slice C' x.c.length d'] #[.slice GS g.s.length gc,.slice GC g.c.length gd] #[.slice (some ⟨g0,0,none⟩) t.s.length t.s.length,.slice (some ⟨h0,0,none⟩) t.c.length t.c.length,.slice (some ⟨g2,0,none⟩) x.s.length x.s.length,.slice (some ⟨h2,0,none⟩) x.c.length x.c.length] #[.slice (some ⟨h0,0,none⟩) t.c.length t.c.length] #[.slice (some ⟨h2,0,none⟩) x.c.length x.c.length] t.s x.s (Ly.convW g.c x.c [] t.c.length) (Ly.convX g.c t.c [] x.c.length) _:=CbI.mk (h9.blk h5.out) (h9.blk Hv.out) (h9.blk gk.out) (h9.blk Gv.out) (h9.blk H7.out) H5 HU (h9.blk gE.out) (h9.blk Gh.out) (h9.blk H9.out) (h9.blk GL.out) ⟨by omega,by omega,by omega,by omega,lh2⟩ g6;clear gr H5 HU h9 e0 e1 e2 e3 h5 Hv gk Gv H7 gE Gh H9 GL Gq;obtain ⟨gA,gV⟩:=zd2 gF g6;clear gF g6;go_upto_region 12 with fail;go_wp2_with fail;refine (HT.out _ Ht.out.s1 l5 l6 (Ht.out.later gV.out).r.1 (Hx.out.later gV.out).r.1 HK.out).mono ?_;rintro e w11 ⟨rfl,HZ⟩;have gu:=gA.out.to HZ;clear gA a0 b0 HZ gV;have ha:=zI gu;clear gu;go_wp2_with fail;have hs:=HF.out.small;have gN:=HF.out.pos;have HR:=HF.out.places;have hT:Ly.convT t x step=(Ly.frame t.s x.s out step).all:=by unfold Ly.convT;rw [hP.out]
   rw [hP.out] at hs gN HR ⊢;generalize hfr:Ly.frame t.s x.s out step=fr at *
   refine wpIn_wide.1 (qb9 (n:=9) (9-1-1-1) rfl oZ (gf:=115) (lf:=#[fr.V]) rfl trivial (enters_of Tryz.func115 krZ rfl) Ly.Touch.V rfl fr.all
    (λpre W=>CbI w tb pa pb g0 h0 g2 h2 #[.slice S t.s.length c,.slice C t.c.length d] #[.slice S' x.s.length c',.slice C' x.c.length d'] #[.slice GS g.s.length gc,.slice GC g.c.length gd] #[.slice (some ⟨g0,0,none⟩) t.s.length t.s.length,.slice (some ⟨h0,0,none⟩) t.c.length t.c.length,.slice (some ⟨g2,0,none⟩) x.s.length x.s.length,.slice (some ⟨h2,0,none⟩) x.c.length x.c.length] #[.slice (some ⟨h0,0,none⟩) t.c.length t.c.length] #[.slice (some ⟨h2,0,none⟩) x.c.length x.c.length] t.s x.s (Ly.convW g.c x.c pre t.c.length) (Ly.convX g.c t.c pre x.c.length) W) ?hI ?h0 ?hseq ?hbody ?hdone)
   case hI=>
    rintro pre A2 B2 hb H;exact H.of (N:=w11.heap.size) (λk hk=>hb.block k hk) ha.out (lrZ _) (Below.trans H.later (hb.mono ha.out.later.size))
   case h0=>exact ha.out
   case hseq=>
    intro l J W kG kH hJ hY km;exact qd8 Fence.wide (9-1) l trivial trivial rfl oZ fr hs gN W.heap.size J hJ hY W (lrZ _) km
   case hbody=>
    rintro pre z rest A2 hx H hA;obtain ⟨po,pw,px⟩:=HR z (by rw [hx];simp);obtain ⟨n7,n8,n9⟩:=Ly.conv_lens Gd.out gZ.out HK.out;rw [hP.out,hfr] at n7 n8;rw [hP.out,hfr] at n9;rw [←n9] at po;rw [←n7] at pw;rw [←n8] at px;have gl:g.c.length=(Safe.prod out).toNat:=by have:=kk.out;omega
    rw [←gl] at po;clear n7 n8 n9 gl hx;obtain ⟨wl,wi⟩:=Ly.convW_facts g.c x.c t.c.length pre;obtain ⟨xl,xi⟩:=Ly.convX_facts g.c t.c x.c.length pre;rw [Ly.convW_push,Ly.convX_push];generalize Ly.convW g.c x.c pre t.c.length=W0 at *;generalize Ly.convX g.c t.c pre x.c.length=X0 at *;obtain ⟨bt,ot,rfl,lbt,-⟩:=Ht.out.cell pw;obtain ⟨bx,ox,rfl,lbx,-⟩:=Hx.out.cell px;obtain ⟨bg,og,rfl,lbg,-⟩:=Hg.out.cell po;have GI:=Ly.at_in Ht.out.num z.w;have GN:=Ly.at_in Hx.out.num z.x;have Ge:=Ly.at_in Hg.out.num z.o;have GR:=Ly.at_in wi z.w;have GT:=Ly.at_in xi z.x;have GD:W0.set z.w (Fx.add (Ly.at_ W0 z.w) (Fx.mul (Ly.at_ g.c z.o) (Ly.at_ x.c z.x)))=Ly.addAt W0 z.w (Fx.mul (Ly.at_ g.c z.o) (Ly.at_ x.c z.x)):=rfl;have Gx:X0.set z.x (Fx.add (Ly.at_ X0 z.x) (Fx.mul (Ly.at_ g.c z.o) (Ly.at_ t.c z.w)))=Ly.addAt X0 z.x (Fx.mul (Ly.at_ g.c z.o) (Ly.at_ t.c z.w)):=rfl;rw [←GD,←Gx];have Gg:=(Later.refl A2).alloc (.cells #[.int .i64 z.o,.int .i64 z.w,.int .i64 z.x] 114);have G1:=Blk.new A2 114 #[.int .i64 z.o,.int .i64 z.w,.int .i64 z.x];have g9:=ha.out.later.size;have GF:=H.to Gg;rw [show Ly.Touch.V z=Value.agg #[.int .i64 z.o,.int .i64 z.w,.int .i64 z.x] from rfl];clear GD Gx;obtain ⟨G5,Gy,g7,HH,GE,GX,HA,HQ⟩:=zd8 Gg G1 GF H wi xi wl xl;clear Gg G1 GF H wi xi wl xl
    gi_wp2_with (rw [Oper.semAt_eq _ _ _ (λc h=>by cases h)];go_simp;try go_bits)
    refine ⟨Above.alloc _ _ _,λA3 ku gX gi=>?_⟩;rw [Zh1] at ku;have gL:Later w A3:=Below.trans (show Below w.heap.size w _ from g7.out.later) (gi.mono g9);have hC:=g7.out.of (N:=w11.heap.size) (λk hk=>gX k oZ) ha.out (lrZ _) gL;have g8:Blk A3 A2.heap.size 114 #[.int .i64 z.o,.int .i64 z.w,.int .i64 z.x]:=(gX A2.heap.size oZ).trans Gy.out;have u0:=g8.cell 0;have u1:=g8.cell 1;have u2:=g8.cell 2;have ug:A3.cell? ⟨w.heap.size+2,1,none⟩=some (.slice (some ⟨bg,og,none⟩) g.c.length gd):=hC.kg.cell 1;have ux:A3.cell? ⟨w.heap.size+1,1,none⟩=some (.slice (some ⟨bx,ox,none⟩) x.c.length d'):=hC.kx.cell 1;have ua:A3.cell? ⟨pa,0,none⟩=some (.slice (some ⟨h0,0,none⟩) t.c.length t.c.length):=hC.ka.cell 0;simp at u0 u1 u2;obtain ⟨b',o',e',-,vg⟩:=(Hg.out.later gL).cell po;injection e' with e';injection e' with e1 e2;subst e1 e2
    obtain ⟨b',o',e',-,vx⟩:=(Hx.out.later gL).cell px;injection e' with e';injection e' with e1 e2;subst e1 e2
    have vw:A3.cell? ⟨h0,z.w,none⟩=some (.int .i64 (Ly.at_ W0 z.w)):=by
     have:=hC.H0.row_get (k:=z.w) (by have:=HA.out;omega);rw [this,Ly.at_get (by have:=HA.out;omega)]
    have vf:=hC.H0.frozen z.w;have hV:=hC.putW z.w (Fx.add (Ly.at_ W0 z.w) (Fx.mul (Ly.at_ g.c z.o) (Ly.at_ x.c z.x)));obtain ⟨b',o',e',-,vt⟩:=(Ht.out.later hV.later).cell pw;injection e' with e';injection e' with e1 e2;subst e1 e2
    have vX:(A3.setCell ⟨h0,z.w,none⟩ (.int .i64 (Fx.add (Ly.at_ W0 z.w) (Fx.mul (Ly.at_ g.c z.o) (Ly.at_ x.c z.x))))).cell? ⟨h2,z.x,none⟩=some (.int .i64 (Ly.at_ X0 z.x)):=by
     have:=hV.H2.row_get (k:=z.x) (by have:=HQ.out;omega);rw [this,Ly.at_get (by have:=HQ.out;omega)]
    have vXf:=hV.H2.frozen z.x;have ut:(A3.setCell ⟨h0,z.w,none⟩ (.int .i64 (Fx.add (Ly.at_ W0 z.w) (Fx.mul (Ly.at_ g.c z.o) (Ly.at_ x.c z.x))))).cell? ⟨w.heap.size,1,none⟩=some (.slice (some ⟨bt,ot,none⟩) t.c.length d):=hV.kw.cell 1;have ub:(A3.setCell ⟨h0,z.w,none⟩ (.int .i64 (Fx.add (Ly.at_ W0 z.w) (Fx.mul (Ly.at_ g.c z.o) (Ly.at_ x.c z.x))))).cell? ⟨pb,0,none⟩=some (.slice (some ⟨h2,0,none⟩) x.c.length x.c.length):=hV.kb.cell 0;have GP:=ha.out.H0.lt;have hL:=ha.out.H2.lt;have H8:A2.heap.size≠h0:=by omega
    have u1':=qa0 (p:=⟨h0,z.w,none⟩) (q:=⟨A2.heap.size,1,none⟩) (u:=.int .i64 (Fx.add (Ly.at_ W0 z.w) (Fx.mul (Ly.at_ g.c z.o) (Ly.at_ x.c z.x)))) u1 H8;have u2':=qa0 (p:=⟨h0,z.w,none⟩) (q:=⟨A2.heap.size,2,none⟩) (u:=.int .i64 (Fx.add (Ly.at_ W0 z.w) (Fx.mul (Ly.at_ g.c z.o) (Ly.at_ x.c z.x)))) u2 H8;have GV:=hV.putX z.x (Fx.add (Ly.at_ X0 z.x) (Fx.mul (Ly.at_ g.c z.o) (Ly.at_ t.c z.w)));have m1:=λ(V:Zp1)=>qaA (Ly.at_ g.c z.o) (Ly.at_ x.c z.x) V Ge GN
    have m2:=λ(V:Zp1)=>qaA (Ly.at_ g.c z.o) (Ly.at_ t.c z.w) V Ge GI
    have a1:=λ(V:Zp1)=>qaM (Ly.at_ W0 z.w) (Fx.mul (Ly.at_ g.c z.o) (Ly.at_ x.c z.x)) V GR (Fx.mul_in _ _)
    have a2:=λ(V:Zp1)=>qaM (Ly.at_ X0 z.x) (Fx.mul (Ly.at_ g.c z.o) (Ly.at_ t.c z.w)) V GT (Fx.mul_in _ _)
    have lo:=hC.lo;have ks:=ha.out.kg.lt;have n1:w.heap.size+2≠h0:=qa4 hC.kg hC.H0 dZ;have n2:w.heap.size+1≠h0:=qa4 hC.kx hC.H0 dZ;have n3:pa≠h0:=qa4 hC.ka hC.H0 dZ;have n4:bx≠h0:=by omega
    have n5:bt≠h2:=by omega
    have n6:w.heap.size≠h2:=qa4 hC.kw hC.H2 dZ;have n7:pb≠h2:=qa4 hC.kb hC.H2 dZ;have n8:A2.heap.size≠h2:=by omega
    generalize Ly.at_ g.c z.o=gv at *;generalize Ly.at_ x.c z.x=xv at *;generalize Ly.at_ t.c z.w=tv at *;generalize Ly.at_ W0 z.w=wv at *;generalize Ly.at_ X0 z.x=Xv at *;obtain ⟨zo,zw,zx⟩:=z;simp only at *;have k1:(zw:Int)<(t.c.length:Int):=by omega
    have k2:(zx:Int)<(x.c.length:Int):=by omega
    have k3:(zo:Int)<(g.c.length:Int):=by omega
    obtain ⟨kB,kA⟩:=zd2 HR hT;clear HR hT hs gN gX gi g8 Ge GN GI GR GT gL G5 Gy g7 HH;obtain ⟨HC,kC,gI,GH,gO,GB,gP⟩:=zd7 hC hV GV m1 m2 a1 a2;clear hC hV GV m1 m2 a1 a2
    gi_wp2_with (rw [Oper.semAt_eq _ _ _ (λc h=>by cases h)];go_simp;try go_bits)
    clear vg u0 ug;have KF:=zI (show ∀Xw,Later A3 Xw->Xw.cell? ⟨A2.heap.size,1,none⟩=some (.int .i64 zw)/\Xw.cell? ⟨A2.heap.size,2,none⟩=some (.int .i64 zx)/\Xw.cell? ⟨w.heap.size+1,1,none⟩=some (.slice (some ⟨bx,ox,none⟩) x.c.length d')/\Xw.cell? ⟨pa,0,none⟩=some (.slice (some ⟨h0,0,none⟩) t.c.length t.c.length)/\Xw.cell? ⟨bx,ox+zx,none⟩=some (.int .i64 xv) from λXw h=>⟨h.cell u1,h.cell u2,h.cell ux,h.cell ua,h.cell vx⟩);refine qaf (S:=λXw=>Xw.cell? ⟨A2.heap.size,1,none⟩=some (.int .i64 zw)/\Xw.cell? ⟨A2.heap.size,2,none⟩=some (.int .i64 zx)/\Xw.cell? ⟨w.heap.size+1,1,none⟩=some (.slice (some ⟨bx,ox,none⟩) x.c.length d')/\Xw.cell? ⟨pa,0,none⟩=some (.slice (some ⟨h0,0,none⟩) t.c.length t.c.length)/\Xw.cell? ⟨bx,ox+zx,none⟩=some (.int .i64 xv)) krZ krZ (KF.out _ Lau) (λhHeld=>?_);refine tk 0 ?_;refine tk 1 ?_;refine tk 2 ?_;refine tk 3 ?_;refine tk 4 ?_;refine tk 5 ?_;refine tk 6 ?_;refine tk 8 ?_;refine tk 9 ?_;refine tk 10 ?_;refine tk 11 ?_;refine tk 12 ?_;refine tk 13 ?_;refine tk 14 ?_;refine Zo1 (rs:=[7,15]) krZ sZ ?_;refine Zf1 (o:=_) rfl (λK hK=>?_) (Zf1 (o:=_) rfl (λK hK=>?_) (Zg1))
    ·simp only [ga,gs,gz]
     go_simp
     refine hK.out _ _ (KF.out _ Lau) (λhHeld=>?_);clear hK K
     try simp only [ga,gs,gz,Act.put,sa,sz,ss]
     refine rd 15 λK hK=>?_
     simp only [ga,gs,gz]
     go_simp
     go_at_call 54;(with_reducible refine (GH.out _).mono ?_);rintro e wb ⟨rfl,rfl⟩
     try go_wp2_with fail
     refine hK.out _ _ (KF.out _ Lau) (λhHeld=>?_);clear hK K
     try simp only [ga,gs,gz,Act.put,sa,sz,ss]
     refine rd 16 λK hK=>?_
     simp only [ga,gs,gz]
     go_simp
     go_at_call 55;(with_reducible refine (GB.out _).mono ?_);rintro e wb2 ⟨rfl,rfl⟩
     try go_wp2_with fail
     refine hK.out _ _ (KF.out _ Lau) (λhHeld=>?_);clear hK K
     try simp only [ga,gs,gz,Act.put,sa,sz,ss]
     refine tk 17 ?_;refine rd 18 λK hK=>?_
     simp only [ga,gs,gz]
     go_simp
     refine hK.out _ _ ?_ (λhHeld=>?_)
     ·(try dsimp only);(refine ⟨?_,?_,?_,?_,?_⟩<;>(repeat (refine qa0 ?_ (by first|omega|(simp;done)|(simp;omega))))<;>(refine Later.cell (Lau:Later A3 _) ?_)<;>assumption)
     clear hK K
     try simp only [ga,gs,gz,Act.put,sa,sz,ss]
     clear KF;refine Zn1 krZ ?_ _;refine Zd1 ?_;refine OnlyNormal.mk ?_;clear hHeld u1 u2 ux ua vx vw vf
     gi_wp2_with fail
     have HS:Above w11.heap.size A3 (A3.setCell ⟨h0,zw,none⟩ (.int .i64 (Fx.add wv (Fx.mul gv xv)))):=Above.setCell (p:=⟨h0,zw,none⟩) GP _;have HW:=zI HS;clear HS;generalize A3.setCell ⟨h0,zw,none⟩ (.int .i64 (Fx.add wv (Fx.mul gv xv)))=B1 at *;have KF:=zI (show ∀Xw,Later B1 Xw->Xw.cell? ⟨A2.heap.size,1,none⟩=some (.int .i64 zw)/\Xw.cell? ⟨A2.heap.size,2,none⟩=some (.int .i64 zx)/\Xw.cell? ⟨w.heap.size,1,none⟩=some (.slice (some ⟨bt,ot,none⟩) t.c.length d)/\Xw.cell? ⟨pb,0,none⟩=some (.slice (some ⟨h2,0,none⟩) x.c.length x.c.length)/\Xw.cell? ⟨bt,ot+zw,none⟩=some (.int .i64 tv) from λXw h=>⟨h.cell u1',h.cell u2',h.cell ut,h.cell ub,h.cell vt⟩);refine qaf (S:=λXw=>Xw.cell? ⟨A2.heap.size,1,none⟩=some (.int .i64 zw)/\Xw.cell? ⟨A2.heap.size,2,none⟩=some (.int .i64 zx)/\Xw.cell? ⟨w.heap.size,1,none⟩=some (.slice (some ⟨bt,ot,none⟩) t.c.length d)/\Xw.cell? ⟨pb,0,none⟩=some (.slice (some ⟨h2,0,none⟩) x.c.length x.c.length)/\Xw.cell? ⟨bt,ot+zw,none⟩=some (.int .i64 tv)) krZ krZ (KF.out _ Lau) (λhHeld=>?_);refine tk 0 ?_;refine tk 1 ?_;refine tk 2 ?_;refine tk 3 ?_;refine tk 4 ?_;refine tk 5 ?_;refine tk 6 ?_;refine tk 8 ?_;refine tk 9 ?_;refine tk 10 ?_;refine tk 11 ?_;refine tk 12 ?_;refine tk 13 ?_;refine tk 14 ?_;refine Zo1 (rs:=[7,15]) krZ sZ ?_;refine Zf1 (o:=_) rfl (λK hK=>?_) (Zf1 (o:=_) rfl (λK hK=>?_) (Zg1))
     ·simp only [ga,gs,gz]
      go_simp
      refine hK.out _ _ (KF.out _ Lau) (λhHeld=>?_);clear hK K
      try simp only [ga,gs,gz,Act.put,sa,sz,ss]
      refine rd 15 λK hK=>?_
      simp only [ga,gs,gz]
      go_simp
      go_at_call 54;(with_reducible refine (gO.out _).mono ?_);rintro e wb3 ⟨rfl,rfl⟩
      try go_wp2_with fail
      refine hK.out _ _ (KF.out _ Lau) (λhHeld=>?_);clear hK K
      try simp only [ga,gs,gz,Act.put,sa,sz,ss]
      refine rd 16 λK hK=>?_
      simp only [ga,gs,gz]
      go_simp
      go_at_call 55;(with_reducible refine (gP.out _).mono ?_);rintro e wb4 ⟨rfl,rfl⟩
      try go_wp2_with fail
      refine hK.out _ _ (KF.out _ Lau) (λhHeld=>?_);clear hK K
      try simp only [ga,gs,gz,Act.put,sa,sz,ss]
      refine tk 17 ?_;refine rd 18 λK hK=>?_
      simp only [ga,gs,gz]
      go_simp
      refine hK.out _ _ ?_ (λhHeld=>?_)
      ·(try dsimp only);(refine ⟨?_,?_,?_,?_,?_⟩<;>(repeat (refine qa0 ?_ (by first|omega|(simp;done)|(simp;omega))))<;>(refine Later.cell (Lau:Later B1 _) ?_)<;>assumption)
      clear hK K
      try simp only [ga,gs,gz,Act.put,sa,sz,ss]
      clear KF;refine Zn1 krZ ?_ _;refine Zd1 ?_;refine OnlyNormal.mk ?_;clear hHeld u1' u2' ut ub vt vX vXf
      gi_wp2_with fail
      exact ⟨Above.trans HW.out (Above.setCell (p:=⟨h2,zx,none⟩) hL _),gI.out.to Lau⟩
     ·simp only [ga,gs,gz]
      go_simp
      go_at_call 54;(with_reducible refine (gO.out _).mono ?_);rintro e wb3 ⟨rfl,rfl⟩
      try go_wp2_with fail
      refine hK.out _ _ (KF.out _ Lau) (λhHeld=>?_);clear hK K
      try simp only [ga,gs,gz,Act.put,sa,sz,ss]
      refine rd 7 λK hK=>?_
      simp only [ga,gs,gz]
      go_simp
      refine hK.out _ _ (KF.out _ Lau) (λhHeld=>?_);clear hK K
      try simp only [ga,gs,gz,Act.put,sa,sz,ss]
      refine rd 16 λK hK=>?_
      simp only [ga,gs,gz]
      go_simp
      go_at_call 55;(with_reducible refine (gP.out _).mono ?_);rintro e wb4 ⟨rfl,rfl⟩
      try go_wp2_with fail
      refine hK.out _ _ (KF.out _ Lau) (λhHeld=>?_);clear hK K
      try simp only [ga,gs,gz,Act.put,sa,sz,ss]
      refine tk 17 ?_;refine rd 18 λK hK=>?_
      simp only [ga,gs,gz]
      go_simp
      refine hK.out _ _ ?_ (λhHeld=>?_)
      ·(try dsimp only);(refine ⟨?_,?_,?_,?_,?_⟩<;>(repeat (refine qa0 ?_ (by first|omega|(simp;done)|(simp;omega))))<;>(refine Later.cell (Lau:Later B1 _) ?_)<;>assumption)
      clear hK K
      try simp only [ga,gs,gz,Act.put,sa,sz,ss]
      clear KF;refine Zn1 krZ ?_ _;refine Zd1 ?_;refine OnlyNormal.mk ?_;clear hHeld u1' u2' ut ub vt vX vXf
      gi_wp2_with fail
      exact ⟨Above.trans HW.out (Above.setCell (p:=⟨h2,zx,none⟩) hL _),gI.out.to Lau⟩
    ·simp only [ga,gs,gz]
     go_simp
     go_at_call 54;(with_reducible refine (GH.out _).mono ?_);rintro e wb ⟨rfl,rfl⟩
     try go_wp2_with fail
     refine hK.out _ _ (KF.out _ Lau) (λhHeld=>?_);clear hK K
     try simp only [ga,gs,gz,Act.put,sa,sz,ss]
     refine rd 7 λK hK=>?_
     simp only [ga,gs,gz]
     go_simp
     refine hK.out _ _ (KF.out _ Lau) (λhHeld=>?_);clear hK K
     try simp only [ga,gs,gz,Act.put,sa,sz,ss]
     refine rd 16 λK hK=>?_
     simp only [ga,gs,gz]
     go_simp
     go_at_call 55;(with_reducible refine (GB.out _).mono ?_);rintro e wb2 ⟨rfl,rfl⟩
     try go_wp2_with fail
     refine hK.out _ _ (KF.out _ Lau) (λhHeld=>?_);clear hK K
     try simp only [ga,gs,gz,Act.put,sa,sz,ss]
     refine tk 17 ?_;refine rd 18 λK hK=>?_
     simp only [ga,gs,gz]
     go_simp
     refine hK.out _ _ ?_ (λhHeld=>?_)
     ·(try dsimp only);(refine ⟨?_,?_,?_,?_,?_⟩<;>(repeat (refine qa0 ?_ (by first|omega|(simp;done)|(simp;omega))))<;>(refine Later.cell (Lau:Later A3 _) ?_)<;>assumption)
     clear hK K
     try simp only [ga,gs,gz,Act.put,sa,sz,ss]
     clear KF;refine Zn1 krZ ?_ _;refine Zd1 ?_;refine OnlyNormal.mk ?_;clear hHeld u1 u2 ux ua vx vw vf
     gi_wp2_with fail
     have HS:Above w11.heap.size A3 (A3.setCell ⟨h0,zw,none⟩ (.int .i64 (Fx.add wv (Fx.mul gv xv)))):=Above.setCell (p:=⟨h0,zw,none⟩) GP _;have HW:=zI HS;clear HS;generalize A3.setCell ⟨h0,zw,none⟩ (.int .i64 (Fx.add wv (Fx.mul gv xv)))=B1 at *;have KF:=zI (show ∀Xw,Later B1 Xw->Xw.cell? ⟨A2.heap.size,1,none⟩=some (.int .i64 zw)/\Xw.cell? ⟨A2.heap.size,2,none⟩=some (.int .i64 zx)/\Xw.cell? ⟨w.heap.size,1,none⟩=some (.slice (some ⟨bt,ot,none⟩) t.c.length d)/\Xw.cell? ⟨pb,0,none⟩=some (.slice (some ⟨h2,0,none⟩) x.c.length x.c.length)/\Xw.cell? ⟨bt,ot+zw,none⟩=some (.int .i64 tv) from λXw h=>⟨h.cell u1',h.cell u2',h.cell ut,h.cell ub,h.cell vt⟩);refine qaf (S:=λXw=>Xw.cell? ⟨A2.heap.size,1,none⟩=some (.int .i64 zw)/\Xw.cell? ⟨A2.heap.size,2,none⟩=some (.int .i64 zx)/\Xw.cell? ⟨w.heap.size,1,none⟩=some (.slice (some ⟨bt,ot,none⟩) t.c.length d)/\Xw.cell? ⟨pb,0,none⟩=some (.slice (some ⟨h2,0,none⟩) x.c.length x.c.length)/\Xw.cell? ⟨bt,ot+zw,none⟩=some (.int .i64 tv)) krZ krZ (KF.out _ Lau) (λhHeld=>?_);refine tk 0 ?_;refine tk 1 ?_;refine tk 2 ?_;refine tk 3 ?_;refine tk 4 ?_;refine tk 5 ?_;refine tk 6 ?_;refine tk 8 ?_;refine tk 9 ?_;refine tk 10 ?_;refine tk 11 ?_;refine tk 12 ?_;refine tk 13 ?_;refine tk 14 ?_;refine Zo1 (rs:=[7,15]) krZ sZ ?_;refine Zf1 (o:=_) rfl (λK hK=>?_) (Zf1 (o:=_) rfl (λK hK=>?_) (Zg1))
     ·simp only [ga,gs,gz]
      go_simp
      refine hK.out _ _ (KF.out _ Lau) (λhHeld=>?_);clear hK K
      try simp only [ga,gs,gz,Act.put,sa,sz,ss]
      refine rd 15 λK hK=>?_
      simp only [ga,gs,gz]
      go_simp
      go_at_call 54;(with_reducible refine (gO.out _).mono ?_);rintro e wb3 ⟨rfl,rfl⟩
      try go_wp2_with fail
      refine hK.out _ _ (KF.out _ Lau) (λhHeld=>?_);clear hK K
      try simp only [ga,gs,gz,Act.put,sa,sz,ss]
      refine rd 16 λK hK=>?_
      simp only [ga,gs,gz]
      go_simp
      go_at_call 55;(with_reducible refine (gP.out _).mono ?_);rintro e wb4 ⟨rfl,rfl⟩
      try go_wp2_with fail
      refine hK.out _ _ (KF.out _ Lau) (λhHeld=>?_);clear hK K
      try simp only [ga,gs,gz,Act.put,sa,sz,ss]
      refine tk 17 ?_;refine rd 18 λK hK=>?_
      simp only [ga,gs,gz]
      go_simp
      refine hK.out _ _ ?_ (λhHeld=>?_)
      ·(try dsimp only);(refine ⟨?_,?_,?_,?_,?_⟩<;>(repeat (refine qa0 ?_ (by first|omega|(simp;done)|(simp;omega))))<;>(refine Later.cell (Lau:Later B1 _) ?_)<;>assumption)
      clear hK K
      try simp only [ga,gs,gz,Act.put,sa,sz,ss]
      clear KF;refine Zn1 krZ ?_ _;refine Zd1 ?_;refine OnlyNormal.mk ?_;clear hHeld u1' u2' ut ub vt vX vXf
      gi_wp2_with fail
      exact ⟨Above.trans HW.out (Above.setCell (p:=⟨h2,zx,none⟩) hL _),gI.out.to Lau⟩
     ·simp only [ga,gs,gz]
      go_simp
      go_at_call 54;(with_reducible refine (gO.out _).mono ?_);rintro e wb3 ⟨rfl,rfl⟩
      try go_wp2_with fail
      refine hK.out _ _ (KF.out _ Lau) (λhHeld=>?_);clear hK K
      try simp only [ga,gs,gz,Act.put,sa,sz,ss]
      refine rd 7 λK hK=>?_
      simp only [ga,gs,gz]
      go_simp
      refine hK.out _ _ (KF.out _ Lau) (λhHeld=>?_);clear hK K
      try simp only [ga,gs,gz,Act.put,sa,sz,ss]
      refine rd 16 λK hK=>?_
      simp only [ga,gs,gz]
      go_simp
      go_at_call 55;(with_reducible refine (gP.out _).mono ?_);rintro e wb4 ⟨rfl,rfl⟩
      try go_wp2_with fail
      refine hK.out _ _ (KF.out _ Lau) (λhHeld=>?_);clear hK K
      try simp only [ga,gs,gz,Act.put,sa,sz,ss]
      refine tk 17 ?_;refine rd 18 λK hK=>?_
      simp only [ga,gs,gz]
      go_simp
      refine hK.out _ _ ?_ (λhHeld=>?_)
      ·(try dsimp only);(refine ⟨?_,?_,?_,?_,?_⟩<;>(repeat (refine qa0 ?_ (by first|omega|(simp;done)|(simp;omega))))<;>(refine Later.cell (Lau:Later B1 _) ?_)<;>assumption)
      clear hK K
      try simp only [ga,gs,gz,Act.put,sa,sz,ss]
      clear KF;refine Zn1 krZ ?_ _;refine Zd1 ?_;refine OnlyNormal.mk ?_;clear hHeld u1' u2' ut ub vt vX vXf
      gi_wp2_with fail
      exact ⟨Above.trans HW.out (Above.setCell (p:=⟨h2,zx,none⟩) hL _),gI.out.to Lau⟩
   case hdone=>
    rintro D W H hD hK;obtain ⟨wl,wi⟩:=Ly.convW_facts g.c x.c t.c.length fr.all;obtain ⟨xl,xi⟩:=Ly.convX_facts g.c t.c x.c.length fr.all;have gR:=HE.out;rw [hT] at gR;generalize Ly.convW g.c x.c fr.all t.c.length=W0 at *;generalize Ly.convX g.c t.c fr.all x.c.length=X0 at *;obtain ⟨o0,o1,o2,o3,-⟩:=qab H.ke;obtain ⟨c0,c1,c2,c3,f0,f1,f2,f3⟩:=qab H.kz;have hX:=qbY (u0:=(.slice (some ⟨g0,0,none⟩) t.s.length t.s.length)) (u1:=(.slice (some ⟨h0,0,none⟩) t.c.length t.c.length)) (u2:=(.slice (some ⟨g2,0,none⟩) x.s.length x.s.length)) (u3:=(.slice (some ⟨h2,0,none⟩) x.c.length x.c.length)) H.kz;obtain ⟨d0,d1,d2,d3,-⟩:=qab hX;have h7:=qbh (.slice (some ⟨g0,0,none⟩) t.s.length t.s.length) (.slice (some ⟨h0,0,none⟩) t.c.length t.c.length) (.slice (some ⟨g2,0,none⟩) x.s.length x.s.length) (.slice (some ⟨h2,0,none⟩) x.c.length x.c.length) (w.heap.size+3) W;have kE:=ha.out.kz.lt;have m1:w.heap.size+3≠D:=by omega
    have g3:=(h7.1 D (Ne.symm m1)).trans hK;have lo:=H.lo;have y0:g0≠D:=by have:=ha.out.G0.lt;omega
    have y1:h0≠D:=by have:=ha.out.H0.lt;omega
    have y2:g2≠D:=by have:=ha.out.G2.lt;omega
    have y3:h2≠D:=by have:=ha.out.H2.lt;omega
    have j0:=h7.blk (qa4 H.G0 H.kz dZ) H.G0;have j1:=h7.blk (qa4 H.H0 H.kz dZ) H.H0;have j2:=h7.blk (qa4 H.G2 H.kz dZ) H.G2;have j3:=h7.blk (qa4 H.H2 H.kz dZ) H.H2;have j4:Later w (four (.slice (some ⟨g0,0,none⟩) t.s.length t.s.length) (.slice (some ⟨h0,0,none⟩) t.c.length t.c.length) (.slice (some ⟨g2,0,none⟩) x.s.length x.s.length) (.slice (some ⟨h2,0,none⟩) x.c.length x.c.length) (w.heap.size+3) W):=h7.below H.later oZ;have kp:w.heap.size<=D:=by omega
    unfold four at d0 d1 d2 d3 g3 j0 j1 j2 j3 j4;clear h7 hX hs gN HR hT;obtain ⟨HH,HK,G6,GE,GX,HA,HQ,kj,ko⟩:=zd9 H hK g3 wi xi wl xl j0 j1;obtain ⟨kh,G9,ki,kl,G8,kv,kc,kn⟩:=zd8 j2 j3 j4 gR d0 d1 d2 d3;clear H hK g3 wi xi wl xl j0 j1 j2 j3 j4 gR d0 d1 d2 d3;go_wp2_with fail;refine ⟨by simp,.inl ⟨_,_,rfl,run_takeDeferred G6.out,?_⟩⟩;have e0:=(Zi1 (World.putObj_heap_other (o:=.deferred none) (w:=(((W.setCell ⟨w.heap.size+3,0,none⟩ (.slice (some ⟨g0,0,none⟩) t.s.length t.s.length)).setCell ⟨w.heap.size+3,1,none⟩ (.slice (some ⟨h0,0,none⟩) t.c.length t.c.length)).setCell ⟨w.heap.size+3,2,none⟩ (.slice (some ⟨g2,0,none⟩) x.s.length x.s.length)).setCell ⟨w.heap.size+3,3,none⟩ (.slice (some ⟨h2,0,none⟩) x.c.length x.c.length)) m1)).trans G8.out;have e1:=(Zi1 (World.putObj_heap_other (o:=.deferred none) (w:=(((W.setCell ⟨w.heap.size+3,0,none⟩ (.slice (some ⟨g0,0,none⟩) t.s.length t.s.length)).setCell ⟨w.heap.size+3,1,none⟩ (.slice (some ⟨h0,0,none⟩) t.c.length t.c.length)).setCell ⟨w.heap.size+3,2,none⟩ (.slice (some ⟨g2,0,none⟩) x.s.length x.s.length)).setCell ⟨w.heap.size+3,3,none⟩ (.slice (some ⟨h2,0,none⟩) x.c.length x.c.length)) m1)).trans kv.out;have e2:=(Zi1 (World.putObj_heap_other (o:=.deferred none) (w:=(((W.setCell ⟨w.heap.size+3,0,none⟩ (.slice (some ⟨g0,0,none⟩) t.s.length t.s.length)).setCell ⟨w.heap.size+3,1,none⟩ (.slice (some ⟨h0,0,none⟩) t.c.length t.c.length)).setCell ⟨w.heap.size+3,2,none⟩ (.slice (some ⟨g2,0,none⟩) x.s.length x.s.length)).setCell ⟨w.heap.size+3,3,none⟩ (.slice (some ⟨h2,0,none⟩) x.c.length x.c.length)) m1)).trans kc.out;have e3:=(Zi1 (World.putObj_heap_other (o:=.deferred none) (w:=(((W.setCell ⟨w.heap.size+3,0,none⟩ (.slice (some ⟨g0,0,none⟩) t.s.length t.s.length)).setCell ⟨w.heap.size+3,1,none⟩ (.slice (some ⟨h0,0,none⟩) t.c.length t.c.length)).setCell ⟨w.heap.size+3,2,none⟩ (.slice (some ⟨g2,0,none⟩) x.s.length x.s.length)).setCell ⟨w.heap.size+3,3,none⟩ (.slice (some ⟨h2,0,none⟩) x.c.length x.c.length)) m1)).trans kn.out
    have b0:Blk (((((W.setCell ⟨w.heap.size+3,0,none⟩ (.slice (some ⟨g0,0,none⟩) t.s.length t.s.length)).setCell ⟨w.heap.size+3,1,none⟩ (.slice (some ⟨h0,0,none⟩) t.c.length t.c.length)).setCell ⟨w.heap.size+3,2,none⟩ (.slice (some ⟨g2,0,none⟩) x.s.length x.s.length)).setCell ⟨w.heap.size+3,3,none⟩ (.slice (some ⟨h2,0,none⟩) x.c.length x.c.length)).putObj D (.deferred none)) g0 3 (t.s.map (Za1 .i64)).toArray:=(World.putObj_heap_other y0).trans kj.out;have b1:Blk (((((W.setCell ⟨w.heap.size+3,0,none⟩ (.slice (some ⟨g0,0,none⟩) t.s.length t.s.length)).setCell ⟨w.heap.size+3,1,none⟩ (.slice (some ⟨h0,0,none⟩) t.c.length t.c.length)).setCell ⟨w.heap.size+3,2,none⟩ (.slice (some ⟨g2,0,none⟩) x.s.length x.s.length)).setCell ⟨w.heap.size+3,3,none⟩ (.slice (some ⟨h2,0,none⟩) x.c.length x.c.length)).putObj D (.deferred none)) h0 22 (W0.map (Za1 .i64)).toArray:=(World.putObj_heap_other y1).trans ko.out;have b2:Blk (((((W.setCell ⟨w.heap.size+3,0,none⟩ (.slice (some ⟨g0,0,none⟩) t.s.length t.s.length)).setCell ⟨w.heap.size+3,1,none⟩ (.slice (some ⟨h0,0,none⟩) t.c.length t.c.length)).setCell ⟨w.heap.size+3,2,none⟩ (.slice (some ⟨g2,0,none⟩) x.s.length x.s.length)).setCell ⟨w.heap.size+3,3,none⟩ (.slice (some ⟨h2,0,none⟩) x.c.length x.c.length)).putObj D (.deferred none)) g2 3 (x.s.map (Za1 .i64)).toArray:=(World.putObj_heap_other y2).trans kh.out;have b3:Blk (((((W.setCell ⟨w.heap.size+3,0,none⟩ (.slice (some ⟨g0,0,none⟩) t.s.length t.s.length)).setCell ⟨w.heap.size+3,1,none⟩ (.slice (some ⟨h0,0,none⟩) t.c.length t.c.length)).setCell ⟨w.heap.size+3,2,none⟩ (.slice (some ⟨g2,0,none⟩) x.s.length x.s.length)).setCell ⟨w.heap.size+3,3,none⟩ (.slice (some ⟨h2,0,none⟩) x.c.length x.c.length)).putObj D (.deferred none)) h2 22 (X0.map (Za1 .i64)).toArray:=(World.putObj_heap_other y3).trans G9.out;have b4:Later w (((((W.setCell ⟨w.heap.size+3,0,none⟩ (.slice (some ⟨g0,0,none⟩) t.s.length t.s.length)).setCell ⟨w.heap.size+3,1,none⟩ (.slice (some ⟨h0,0,none⟩) t.c.length t.c.length)).setCell ⟨w.heap.size+3,2,none⟩ (.slice (some ⟨g2,0,none⟩) x.s.length x.s.length)).setCell ⟨w.heap.size+3,3,none⟩ (.slice (some ⟨h2,0,none⟩) x.c.length x.c.length)).putObj D (.deferred none)):=Below.trans ki.out (qbg _ _ kp)
    simp only [Nat.add_assoc,Nat.reduceAdd];generalize ((((W.setCell ⟨w.heap.size+3,0,none⟩ (.slice (some ⟨g0,0,none⟩) t.s.length t.s.length)).setCell ⟨w.heap.size+3,1,none⟩ (.slice (some ⟨h0,0,none⟩) t.c.length t.c.length)).setCell ⟨w.heap.size+3,2,none⟩ (.slice (some ⟨g2,0,none⟩) x.s.length x.s.length)).setCell ⟨w.heap.size+3,3,none⟩ (.slice (some ⟨h2,0,none⟩) x.c.length x.c.length)).putObj D (.deferred none)=W4 at *;refine ⟨.tuple #[.agg #[.slice (some ⟨g0,0,none⟩) t.s.length t.s.length,.slice (some ⟨h0,0,none⟩) t.c.length t.c.length,.slice (some ⟨g2,0,none⟩) x.s.length x.s.length,.slice (some ⟨h2,0,none⟩) x.c.length x.c.length],.int .i64 0],by simp [results,Tryz.results13,go_sem,e0,e1,e2,e3],?_⟩;rw [kl.out];refine ⟨.inr ⟨rfl,_,_,_,_,_,_,_,_,by simp only [HA.out,HQ.out];rfl,?_,?_⟩,b4⟩
    ·exact qb6 (s:=t.s) (c:=W0) b0 b1 lo.1 lo.2.2.2.1 l1 (by have:=HA.out;omega) GE.out HA.out
    ·exact qb6 (s:=x.s) (c:=X0) b2 b3 lo.2.1 oZ l3 (by have:=HQ.out;omega) GX.out HQ.out
namespace Ly
theorem denseBack_none {w b x g:Ten} (h:(denseBack w b x g).2≠0):(denseBack w b x g).1=(none_,none_,none_):=by
 unfold denseBack at h ⊢
 split at h
 ·exact absurd rfl h
 ·rename_i h1
  rw [if_neg h1]
theorem convBack_none {w x g:Ten} {st:Int} (h:(convBack w x g st).2≠0):(convBack w x g st).1=(none_,none_):=by
 unfold convBack at h ⊢
 split at h
 ·rename_i h1
  rw [if_pos h1]
  split at h
  ·exact absurd rfl h
  ·rename_i h2
   rw [if_neg h2]
 ·rename_i h1
  rw [if_neg h1]
end Ly
def GoDU (r:(Ten × Ten × Ten) × Int) (w:Zp1) (e:Ending) (w':Zp1):Prop:=
 ∃S0 c0 C0 d0 S1 c1 C1 d1 S2 c2 C2 d2,e=.returned (.tuple #[.agg #[.slice S0 r.1.1.s.length c0,.slice C0 r.1.1.c.length d0,.slice S1 r.1.2.1.s.length c1,.slice C1 r.1.2.1.c.length d1,.slice S2 r.1.2.2.s.length c2,.slice C2 r.1.2.2.c.length d2],.int .i64 r.2])/\
  (r.2=0->TenO w.heap.size w' (.agg #[.slice S0 r.1.1.s.length c0,.slice C0 r.1.1.c.length d0]) r.1.1/\TenO w.heap.size w' (.agg #[.slice S1 r.1.2.1.s.length c1,.slice C1 r.1.2.1.c.length d1]) r.1.2.1/\TenO w.heap.size w' (.agg #[.slice S2 r.1.2.2.s.length c2,.slice C2 r.1.2.2.c.length d2]) r.1.2.2)/\Below w.heap.size w w'
theorem GoD.u {r:(Ten × Ten × Ten) × Int} {w w':Zp1} {e:Ending} (h:GoD r w e w') (hn:r.2≠0->r.1=(Ly.none_,Ly.none_,Ly.none_)):GoDU r w e w':=by
 obtain ⟨⟨h1,rfl⟩|⟨h1,S0,c0,C0,d0,S1,c1,C1,d1,S2,c2,C2,d2,rfl,t0,t1,t2⟩,h2⟩:=h
 ·refine ⟨none,0,none,0,none,0,none,0,none,0,none,0,?_,λh=>absurd h h1,h2⟩
  rw [hn h1];rfl
 ·exact ⟨S0,c0,C0,d0,S1,c1,C1,d1,S2,c2,C2,d2,by rw [h1],λ_=>⟨t0,t1,t2⟩,h2⟩
def GoCU (r:(Ten × Ten) × Int) (w:Zp1) (e:Ending) (w':Zp1):Prop:=
 ∃S0 c0 C0 d0 S2 c2 C2 d2,e=.returned (.tuple #[.agg #[.slice S0 r.1.1.s.length c0,.slice C0 r.1.1.c.length d0,.slice S2 r.1.2.s.length c2,.slice C2 r.1.2.c.length d2],.int .i64 r.2])/\
  (r.2=0->TenO w.heap.size w' (.agg #[.slice S0 r.1.1.s.length c0,.slice C0 r.1.1.c.length d0]) r.1.1/\TenO w.heap.size w' (.agg #[.slice S2 r.1.2.s.length c2,.slice C2 r.1.2.c.length d2]) r.1.2)/\Below w.heap.size w w'
theorem GoC.u {r:(Ten × Ten) × Int} {w w':Zp1} {e:Ending} (h:GoC r w e w') (hn:r.2≠0->r.1=(Ly.none_,Ly.none_)):GoCU r w e w':=by
 obtain ⟨⟨h1,rfl⟩|⟨h1,S0,c0,C0,d0,S2,c2,C2,d2,rfl,t0,t2⟩,h2⟩:=h
 ·refine ⟨none,0,none,0,none,0,none,0,?_,λh=>absurd h h1,h2⟩
  rw [hn h1];rfl
 ·exact ⟨S0,c0,C0,d0,S2,c2,C2,d2,by rw [h1],λ_=>⟨t0,t2⟩,h2⟩
theorem TnsO.two {B p:Nat} {w:Zp1} {S0 C0 S1 C1:Option Addr} {c0 d0 c1 d1:Nat} {t u:Ten} {T:TypeId} (hb:Blk w p T #[.slice S0 t.s.length c0,.slice C0 t.c.length d0,.slice S1 u.s.length c1,.slice C1 u.c.length d1]) (hB:B<=p)
  (ht:TenO B w (.agg #[.slice S0 t.s.length c0,.slice C0 t.c.length d0]) t) (hu:TenO B w (.agg #[.slice S1 u.s.length c1,.slice C1 u.c.length d1]) u):TnsO B w (some ⟨p,0,none⟩) [t,u]:=by
 refine ⟨λa e=>?_,λj hj=>?_⟩
 ·injection e with e;subst e;exact ⟨p,rfl,hB,hb.lt,λk=>hb.frozen k⟩
 ·match j,hj with
  | 0,_=>exact ⟨p,S0,c0,C0,d0,rfl,hb.cell 0,hb.cell 1,ht⟩
  | 1,_=>exact ⟨p,S1,c1,C1,d1,rfl,hb.cell 2,hb.cell 3,hu⟩
  | n+2,h=>simp at h;omega
theorem qcI {w:Zp1} {p:Nat} {T:TypeId} (h:Blk w p T #[.slice none 0 0,.slice none 0 0,.slice none 0 0,.slice none 0 0,.slice none 0 0,.slice none 0 0]):∀k z,w.cell? ⟨p,k,none⟩≠some (.int .i64 z):=noint h (λk z=>by
 match k with
 | 0=>simp
 | 1=>simp
 | 2=>simp
 | 3=>simp
 | 4=>simp
 | 5=>simp
 | n+6=>simp)
namespace Ly
theorem layBack8 {o:OpD} {p x:List Ten} {g:Ten} (h:o.kind=8):layBack o p x g=if (Ly.denseBack (Ly.got p 0) (Ly.got p 1) (Ly.got x 0) g).2=0 then (⟨[(Ly.denseBack (Ly.got p 0) (Ly.got p 1) (Ly.got x 0) g).1.1,(Ly.denseBack (Ly.got p 0) (Ly.got p 1) (Ly.got x 0) g).1.2.1],[(Ly.denseBack (Ly.got p 0) (Ly.got p 1) (Ly.got x 0) g).1.2.2]⟩,0) else (bnone,(Ly.denseBack (Ly.got p 0) (Ly.got p 1) (Ly.got x 0) g).2):=by
 unfold layBack;rw [if_pos h]
end Ly
def OpCut8 (w w2:Zp1) (R:(Ten × Ten × Ten) × Int) (a b:Value) (wx:Zp1):Prop:=
 ∃tb U0 e0 V0 f0 U1 e1 V1 f1 U2 e2 V2 f2,a=.pointer (some ⟨tb,0,none⟩)/\b=.int .i64 R.2/\w2.heap.size<=tb/\Blk wx tb 42 #[.slice U0 R.1.1.s.length e0,.slice V0 R.1.1.c.length f0,.slice U1 R.1.2.1.s.length e1,.slice V1 R.1.2.1.c.length f1,.slice U2 R.1.2.2.s.length e2,.slice V2 R.1.2.2.c.length f2]/\(R.2=0->TenO w.heap.size wx (.agg #[.slice U0 R.1.1.s.length e0,.slice V0 R.1.1.c.length f0]) R.1.1/\TenO w.heap.size wx (.agg #[.slice U1 R.1.2.1.s.length e1,.slice V1 R.1.2.1.c.length f1]) R.1.2.1/\TenO w.heap.size wx (.agg #[.slice U2 R.1.2.2.s.length e2,.slice V2 R.1.2.2.c.length f2]) R.1.2.2)/\Later w2 wx
set_option maxRecDepth 20000 in
theorem op_back8 (o:OpD) (S P X GS GC:Option Addr) (c cp cx gc gd:Nat) (p x:List Ten) (g:Ten) (w:Zp1) (hk:o.kind=8) (ho:o.s.length<=1048576) (hI:Ints .i64 w S o.s) (hP:Tns w P p) (hX:Tns w X x) (hG:TenIn w GS GC gc gd g) (hc:Od.counts o p.length x.length=0):
  Calls Tryz.prog 11 #[.agg #[.int .i64 o.kind,.int .i64 o.k,.int .i64 o.width,.int .i64 o.step,.int .i64 o.side,.int .i64 o.frm,.int .i64 o.to,.slice S o.s.length c],.slice P p.length cp,.slice X x.length cx,.agg #[.slice GS g.s.length gc,.slice GC g.c.length gd]] w (GoB (Ly.layBack o p x g) w):=by
 obtain ⟨w1,e1,hw,hv,hQ,hY⟩:=qay w o S c GS GC gc gd g;have hm:=Ly.counts_ok hc;unfold Od.least Od.most Od.params at hm;have hO:p.length=2:=by have:=hm.1;have h3:=hm.2.2.2;rw [if_pos this] at h3;simp [hk] at h3;omega
 have hT:x.length=1:=by have:=hm.1;have h1:=hm.2.1;have h2:=hm.2.2.1;rw [if_pos this] at h1 h2;simp [hk] at h1 h2;omega
 have HE:=zI (Ly.layBack8 (p:=p) (x:=x) (g:=g) hk);obtain ⟨HC,hF,h7,Hk⟩:=zd4 hc hO hT hk;clear hm hc hO hT hk;obtain ⟨HI,HP,HX,HG,hD,hu,hx,h5,hS⟩:=zd9 hI hP hX hG hY hw hv hQ e1;clear hI hP hX hG hY hw hv hQ e1;go_enter Tryz.func11,Tryz.ntmps11;go_wp2_with fail;rw [hS.out];clear hS;refine (qat o S c p.length x.length w1 oZ (HI.out.below hD.out (lrZ _))).mono ?_;rintro e w2 ⟨rfl,hy⟩;rw [HC.out];have hr:Later w1 w2:=hy;have hH:=hD.out.trans hr;have hz:=hr.blk h5.out;have h6:=hr.blk hu.out;have hV:=hr.blk hx.out;clear hy hr hD h5 hu hx;obtain ⟨HH,Hz,Ha,hW⟩:=zd4 hH hz h6 hV;clear hH hz h6 hV;obtain ⟨bp,po,S0,c0,C0,d0,rfl,lbp,p00,p01,h0⟩:=HP.out.at_ (j:=0) (by have:=hF.out;omega);obtain ⟨bp2,po2,S1,c1,C1,d1,ep,-,p10,p11,h4⟩:=HP.out.at_ (j:=1) (by have:=hF.out;omega);injection ep with ep;injection ep with ep1 ep2;subst ep1 ep2
 obtain ⟨bx,xo,S2,c2,C2,d2,rfl,lbx,x00,x01,hZ⟩:=HX.out.at_ (j:=0) (by have:=h7.out;omega);have hi:=λ(W:Zp1) (h:Later w2 W)=>(qfm S0 C0 S1 C1 S2 C2 GS GC c0 d0 c1 d1 c2 d2 gc gd (Ly.got p 0) (Ly.got p 1) (Ly.got x 0) g W (h0.later (HH.out.trans h)) (h4.later (HH.out.trans h)) (hZ.later (HH.out.trans h)) (HG.out.later (HH.out.trans h))).mono (λe w' q=>q.u Ly.denseBack_none)
 have hE:=HE.out;obtain ⟨R,hR⟩:∃R,Ly.denseBack (Ly.got p 0) (Ly.got p 1) (Ly.got x 0) g=R:=⟨_,rfl⟩
 rw [hR] at hE;have hb:∀W,Later w2 W->Calls Tryz.prog 12 _ W (GoDU R W):=hR▸hi;have q1:w2.cell? ⟨bp,po,none⟩=some (.slice S0 (Ly.got p 0).s.length c0):=HH.out.cell (by simpa using p00);have q2:w2.cell? ⟨bp,po+1,none⟩=some (.slice C0 (Ly.got p 0).c.length d0):=HH.out.cell (by simpa using p01);have q3:w2.cell? ⟨bp,po+2,none⟩=some (.slice S1 (Ly.got p 1).s.length c1):=HH.out.cell (by simpa using p10);have q4:w2.cell? ⟨bp,po+2+1,none⟩=some (.slice C1 (Ly.got p 1).c.length d1):=HH.out.cell (by simpa using p11);have q5:w2.cell? ⟨bx,xo,none⟩=some (.slice S2 (Ly.got x 0).s.length c2):=HH.out.cell (by simpa using x00);have q6:w2.cell? ⟨bx,xo+1,none⟩=some (.slice C2 (Ly.got x 0).c.length d2):=HH.out.cell (by simpa using x01);have q7:w2.cell? ⟨w.heap.size+1,0,none⟩=some (.slice GS g.s.length gc):=by rw [hW.out.cell];rfl
 have q8:w2.cell? ⟨w.heap.size+1,1,none⟩=some (.slice GC g.c.length gd):=by rw [hW.out.cell];rfl
 have x0:w2.cell? ⟨w.heap.size,0,none⟩=some (.int .i64 8):=by rw [Ha.out.cell,←Hk.out];rfl
 have Hj:=HH.out.size;have Hm:=Hz.out.lt;rw [h7.out,hF.out];clear hR hi p00 p01 h0 p10 p11 h4 x00 x01 hZ HE;obtain ⟨ha,HE⟩:=zd2 hb hE;clear hb hE;go_upto_region 6 with fail;clear x0
 go_cut [11,12] (OpCut8 w w2 R)
 case first=>
  go_wp2_with fail;have KF:=zI (show ∀Xw,Later w2 Xw->Xw.cell? ⟨bp,po,none⟩=some (.slice S0 (Ly.got p 0).s.length c0)/\Xw.cell? ⟨bp,po+1,none⟩=some (.slice C0 (Ly.got p 0).c.length d0)/\Xw.cell? ⟨bp,po+2,none⟩=some (.slice S1 (Ly.got p 1).s.length c1)/\Xw.cell? ⟨bp,po+2+1,none⟩=some (.slice C1 (Ly.got p 1).c.length d1)/\Xw.cell? ⟨bx,xo,none⟩=some (.slice S2 (Ly.got x 0).s.length c2)/\Xw.cell? ⟨bx,xo+1,none⟩=some (.slice C2 (Ly.got x 0).c.length d2)/\Xw.cell? ⟨w.heap.size+1,0,none⟩=some (.slice GS g.s.length gc)/\Xw.cell? ⟨w.heap.size+1,1,none⟩=some (.slice GC g.c.length gd) from λXw h=>⟨h.cell q1,h.cell q2,h.cell q3,h.cell q4,h.cell q5,h.cell q6,h.cell q7,h.cell q8⟩);refine Zm1 ?_;refine Zl1 (S:=λXw=>Xw.cell? ⟨bp,po,none⟩=some (.slice S0 (Ly.got p 0).s.length c0)/\Xw.cell? ⟨bp,po+1,none⟩=some (.slice C0 (Ly.got p 0).c.length d0)/\Xw.cell? ⟨bp,po+2,none⟩=some (.slice S1 (Ly.got p 1).s.length c1)/\Xw.cell? ⟨bp,po+2+1,none⟩=some (.slice C1 (Ly.got p 1).c.length d1)/\Xw.cell? ⟨bx,xo,none⟩=some (.slice S2 (Ly.got x 0).s.length c2)/\Xw.cell? ⟨bx,xo+1,none⟩=some (.slice C2 (Ly.got x 0).c.length d2)/\Xw.cell? ⟨w.heap.size+1,0,none⟩=some (.slice GS g.s.length gc)/\Xw.cell? ⟨w.heap.size+1,1,none⟩=some (.slice GC g.c.length gd)) krZ (KF.out _ Lau) (λhHeld=>?_);refine tk 0 ?_;refine tk 1 ?_;refine tk 2 ?_;refine tk 3 ?_;refine tk 4 ?_;refine tk 5 ?_;refine tk 6 ?_;refine tk 7 ?_;refine tk 8 ?_;refine tk 9 ?_;refine Zo1 (rs:=[10,14]) krZ sZ ?_;refine Zf1 (o:=_) rfl (λK hK=>?_) (Zf1 (o:=_) rfl (λK hK=>?_) (Zg1))
  ·simp only [ga,gs,gz]
   go_simp
   go_at_call 12
   (with_reducible refine (ha.out _ (Lau:Later w2 _)).mono ?_)
   rintro e wf ⟨U0,e0,V0,f0,U1,e1,V1,f1,U2,e2,V2,f2,rfl,hf,h8⟩;have hh:=zI hf;clear hf
   try go_wp2_with fail
   refine hK.out _ _ (KF.out _ Lau) (λhHeld=>?_);clear hK K
   try simp only [ga,gs,gz,Act.put,sa,sz,ss]
   refine tk 11 ?_;refine tk 12 ?_;refine tk 13 ?_;refine rd 14 λK hK=>?_
   simp only [ga,gs,gz]
   go_simp
   refine hK.out _ _ (KF.out _ Lau) (λhHeld=>?_);clear hK K
   try simp only [ga,gs,gz,Act.put,sa,sz,ss]
   refine rd 15 λK hK=>?_
   simp only [ga,gs,gz]
   go_simp
   refine hK.out _ _ ?_ (λhHeld=>?_)
   ·(try dsimp only);(refine ⟨?_,?_,?_,?_,?_,?_,?_,?_⟩<;>(repeat (refine qa0 ?_ (by first|omega|(simp;done)|(simp;omega))))<;>(refine Later.cell (Lau:Later w2 _) ?_)<;>assumption)
   clear hK K
   try simp only [ga,gs,gz,Act.put,sa,sz,ss]
   refine tk 16 ?_;clear KF;refine Zn1 krZ ?_ _;refine Zd1 ?_;go_wp2_with fail;have hB:Later w2 wf:=(Lau:Later w2 wf)
   have Hf:=hB.size
   go_meet
   exact ⟨wf.heap.size,U0,e0,V0,f0,U1,e1,V1,f1,U2,e2,V2,f2,rfl,rfl,Hf,Blk.new wf _ _,λh=>⟨((hh.out h).1.base (by first|omega|(simp;omega))).later ((Later.refl wf).alloc _),((hh.out h).2.1.base (by first|omega|(simp;omega))).later ((Later.refl wf).alloc _),((hh.out h).2.2.base (by first|omega|(simp;omega))).later ((Later.refl wf).alloc _)⟩,hB.alloc _⟩
  ·simp only [ga,gs,gz]
   go_simp
   refine hK.out _ _ (KF.out _ Lau) (λhHeld=>?_);clear hK K
   try simp only [ga,gs,gz,Act.put,sa,sz,ss]
   refine rd 10 λK hK=>?_
   simp only [ga,gs,gz]
   go_simp
   go_at_call 12
   (with_reducible refine (ha.out _ (Lau:Later w2 _)).mono ?_)
   rintro e wf ⟨U0,e0,V0,f0,U1,e1,V1,f1,U2,e2,V2,f2,rfl,hf,h8⟩;have hh:=zI hf;clear hf;have hJ:=(show Later _ wf from h8).blk ((Blk.new w2 42 #[.slice none 0 0,.slice none 0 0,.slice none 0 0,.slice none 0 0,.slice none 0 0,.slice none 0 0]).drew);obtain ⟨z0,z1,z2,z3,z4,z5,y0,y1,y2,y3,y4,y5⟩:=qaq hJ;have hl:=zI hJ;clear hJ
   try go_wp2_with fail
   refine hK.out _ _ (KF.out _ Lau) (λhHeld=>?_);clear hK K
   try simp only [ga,gs,gz,Act.put,sa,sz,ss]
   refine tk 11 ?_;refine tk 12 ?_;refine tk 13 ?_;refine rd 15 λK hK=>?_
   simp only [ga,gs,gz]
   go_simp
   refine hK.out _ _ ?_ (λhHeld=>?_)
   ·(try dsimp only);(refine ⟨?_,?_,?_,?_,?_,?_,?_,?_⟩<;>(repeat (refine qa0 ?_ (by first|omega|(simp;done)|(simp;omega))))<;>(refine Later.cell (Lau:Later w2 _) ?_)<;>assumption)
   clear hK K
   try simp only [ga,gs,gz,Act.put,sa,sz,ss]
   refine tk 16 ?_;clear KF;refine Zn1 krZ ?_ _;refine Zd1 ?_;go_wp2_with fail;have hB:Later w2 wf:=(Lau:Later w2 wf)
   go_meet
   exact ⟨w2.heap.size,U0,e0,V0,f0,U1,e1,V1,f1,U2,e2,V2,f2,rfl,rfl,lrZ _,qbJ hl.out,λh=>⟨((hh.out h).1.base (by first|omega|(simp;omega))).else_ (qbv _ _ _ _ _ _ _ _) (qcI hl.out) (λj=>(qbJ hl.out).frozen j),((hh.out h).2.1.base (by first|omega|(simp;omega))).else_ (qbv _ _ _ _ _ _ _ _) (qcI hl.out) (λj=>(qbJ hl.out).frozen j),((hh.out h).2.2.base (by first|omega|(simp;omega))).else_ (qbv _ _ _ _ _ _ _ _) (qcI hl.out) (λj=>(qbJ hl.out).frozen j)⟩,qbX hB (lrZ _) _ _ _ _ _ _⟩
 case rest=>
  obtain ⟨tb,U0,e0,V0,f0,U1,e1,V1,f1,U2,e2,V2,f2,rfl,rfl,Hl,hp,hf,hn⟩:=hcut;have hq:=HH.out.trans hn;have he:=hn.blk Hz.out;clear q1 q2 q3 q4 q5 q6 q7 q8 ha
  by_cases hg:R.2=0
  case neg=>
   have hj:=HE.out;rw [if_neg hg] at hj;have Hd:=zI hg;have d9:(R.2 != 0)=true:=by simpa using hg
   clear hg;generalize R.2=ge at *;have c0':=he.cell 0;have c1':=he.cell 1;have f0':=he.frozen 0;have f1':=he.frozen 1;simp at c0' c1';obtain ⟨hN,Hg,hL,Hc,hh,h9⟩:=zd6 hq he hj hp hf hn;clear hq he hj hp hf hn;go_wp2_with fail;refine Zk1 (v:=.tuple #[.agg #[.slice none 0 0,.slice none 0 0],.int .i64 ge]) (by simp [results,Tryz.results11,go_sem,c0',c1']) rfl ?_;exact GoB.fail hL.out Hd.out ((hN.out.set (p:=⟨w.heap.size+2,0,none⟩) sZ _).set (p:=⟨w.heap.size+2,1,none⟩) sZ _)
  have hj:=HE.out;rw [if_pos hg] at hj;obtain ⟨t0,t1,t2⟩:=hf hg;have d9:(R.2 != 0)=false:=by simpa using hg
  have d8:(R.2==0)=true:=by simpa using hg
  clear hg hf;generalize R.2=re at *;obtain ⟨g0,g1,g2,g3,g4,g5,-⟩:=qaq hp;obtain ⟨m0,m1,m2,m3,m4,m5,-⟩:=qaq (hp.alloc (.cells #[.slice U0 R.1.1.s.length e0,.slice V0 R.1.1.c.length f0,.slice U1 R.1.2.1.s.length e1,.slice V1 R.1.2.1.c.length f1] 30));have hd:=(he.alloc (.cells #[.slice U0 R.1.1.s.length e0,.slice V0 R.1.1.c.length f0,.slice U1 R.1.2.1.s.length e1,.slice V1 R.1.2.1.c.length f1] 30)).alloc (.cells #[.slice U2 R.1.2.2.s.length e2,.slice V2 R.1.2.2.c.length f2] 30);have c0':=hd.cell 0;have c1':=hd.cell 1;have f0':=hd.frozen 0;have f1':=hd.frozen 1;have hC:=(hd.set_ 0 (.slice (some ⟨wc.heap.size,0,none⟩) 2 2)).set_ 1 (.slice (some ⟨wc.heap.size+1,0,none⟩) 1 1);have e0':=hC.cell 0;have e1':=hC.cell 1;simp at c0' c1' e0' e1';have Hi:=he.lt;have x1:wc.heap.size≠w.heap.size+2:=by omega
  have x2:wc.heap.size+1≠w.heap.size+2:=by omega
  have hU:=(((Blk.new wc 30 #[.slice U0 R.1.1.s.length e0,.slice V0 R.1.1.c.length f0,.slice U1 R.1.2.1.s.length e1,.slice V1 R.1.2.1.c.length f1]).alloc (.cells #[.slice U2 R.1.2.2.s.length e2,.slice V2 R.1.2.2.c.length f2] 30)).far (p:=⟨w.heap.size+2,0,none⟩) x1 (.slice (some ⟨wc.heap.size,0,none⟩) 2 2)).far (p:=⟨w.heap.size+2,1,none⟩) x1 (.slice (some ⟨wc.heap.size+1,0,none⟩) 1 1)
  have hA:Blk ((wc.alloc (.cells #[.slice U0 R.1.1.s.length e0,.slice V0 R.1.1.c.length f0,.slice U1 R.1.2.1.s.length e1,.slice V1 R.1.2.1.c.length f1] 30)).alloc (.cells #[.slice U2 R.1.2.2.s.length e2,.slice V2 R.1.2.2.c.length f2] 30)) (wc.heap.size+1) 30 #[.slice U2 R.1.2.2.s.length e2,.slice V2 R.1.2.2.c.length f2]:=by
   have:=Blk.new (wc.alloc (.cells #[.slice U0 R.1.1.s.length e0,.slice V0 R.1.1.c.length f0,.slice U1 R.1.2.1.s.length e1,.slice V1 R.1.2.1.c.length f1] 30)) 30 #[.slice U2 R.1.2.2.s.length e2,.slice V2 R.1.2.2.c.length f2]
   rwa [Zh1] at this
  have hy:=(hA.far (p:=⟨w.heap.size+2,0,none⟩) x2 (.slice (some ⟨wc.heap.size,0,none⟩) 2 2)).far (p:=⟨w.heap.size+2,1,none⟩) x2 (.slice (some ⟨wc.heap.size+1,0,none⟩) 1 1);have ht:Later wc ((wc.alloc (.cells #[.slice U0 R.1.1.s.length e0,.slice V0 R.1.1.c.length f0,.slice U1 R.1.2.1.s.length e1,.slice V1 R.1.2.1.c.length f1] 30)).alloc (.cells #[.slice U2 R.1.2.2.s.length e2,.slice V2 R.1.2.2.c.length f2] 30)):=((Later.refl _).alloc _).alloc _;have T0:=zI ((t0.later ht).box (u:=.slice (some ⟨wc.heap.size,0,none⟩) 2 2) (u2:=.slice (some ⟨wc.heap.size+1,0,none⟩) 1 1) hd);have T1:=zI ((t1.later ht).box (u:=.slice (some ⟨wc.heap.size,0,none⟩) 2 2) (u2:=.slice (some ⟨wc.heap.size+1,0,none⟩) 1 1) hd);have T2:=zI ((t2.later ht).box (u:=.slice (some ⟨wc.heap.size,0,none⟩) 2 2) (u2:=.slice (some ⟨wc.heap.size+1,0,none⟩) 1 1) hd);have hs:=((hq.trans ht).set (p:=⟨w.heap.size+2,0,none⟩) sZ (.slice (some ⟨wc.heap.size,0,none⟩) 2 2)).set (p:=⟨w.heap.size+2,1,none⟩) sZ (.slice (some ⟨wc.heap.size+1,0,none⟩) 1 1);clear t0 t1 t2 ht hA x1 x2;obtain ⟨hN,Hg,hL,Hc,h9,Hh,Hb,He,hM⟩:=zd9 hq he hj hp hn hC hU hy hs;have Hn:=zI hd;clear hq he hj hp hn hC hU hy hs hd;go_wp2_with fail;refine Zk1 (v:=.tuple #[.agg #[.slice (some ⟨wc.heap.size,0,none⟩) 2 2,.slice (some ⟨wc.heap.size+1,0,none⟩) 1 1],.int .i64 0]) (by simp [results,Tryz.results11,go_sem,e0',e1']) rfl ?_;rw [hL.out];exact ⟨.inr ⟨rfl,_,_,rfl,TnsO.two Hb.out oZ T0.out T1.out,TnsO.one He.out oZ T2.out⟩,hM.out⟩
theorem qdb {w:Zp1} {p:Nat} {T:TypeId} (h:Blk w p T #[.slice none 0 0,.slice none 0 0,.slice none 0 0,.slice none 0 0]):∀k z,w.cell? ⟨p,k,none⟩≠some (.int .i64 z):=noint h (λk z=>by
 match k with
 | 0=>simp
 | 1=>simp
 | 2=>simp
 | 3=>simp
 | n+4=>simp)
namespace Ly
theorem layBack10 {o:OpD} {p x:List Ten} {g:Ten} (h:o.kind=10):layBack o p x g=if (Ly.convBack (Ly.got p 0) (Ly.got x 0) g o.step).2=0 then (⟨[(Ly.convBack (Ly.got p 0) (Ly.got x 0) g o.step).1.1],[(Ly.convBack (Ly.got p 0) (Ly.got x 0) g o.step).1.2]⟩,0) else (bnone,(Ly.convBack (Ly.got p 0) (Ly.got x 0) g o.step).2):=by
 unfold layBack;rw [if_neg oZ,if_neg oZ,if_pos h]
end Ly
def OpCut10 (w w2:Zp1) (R:(Ten × Ten) × Int) (a b:Value) (wx:Zp1):Prop:=
 ∃tb U0 e0 V0 f0 U2 e2 V2 f2,a=.pointer (some ⟨tb,0,none⟩)/\b=.int .i64 R.2/\w2.heap.size<=tb/\Blk wx tb 46 #[.slice U0 R.1.1.s.length e0,.slice V0 R.1.1.c.length f0,.slice U2 R.1.2.s.length e2,.slice V2 R.1.2.c.length f2]/\(R.2=0->TenO w.heap.size wx (.agg #[.slice U0 R.1.1.s.length e0,.slice V0 R.1.1.c.length f0]) R.1.1/\TenO w.heap.size wx (.agg #[.slice U2 R.1.2.s.length e2,.slice V2 R.1.2.c.length f2]) R.1.2)/\Later w2 wx
set_option maxRecDepth 20000 in
theorem qgv (o:OpD) (S P X GS GC:Option Addr) (c cp cx gc gd:Nat) (p x:List Ten) (g:Ten) (w:Zp1) (hk:o.kind=10) (ho:o.s.length<=1048576) (hI:Ints .i64 w S o.s) (hP:Tns w P p) (hX:Tns w X x) (hG:TenIn w GS GC gc gd g) (hc:Od.counts o p.length x.length=0):
  Calls Tryz.prog 11 #[.agg #[.int .i64 o.kind,.int .i64 o.k,.int .i64 o.width,.int .i64 o.step,.int .i64 o.side,.int .i64 o.frm,.int .i64 o.to,.slice S o.s.length c],.slice P p.length cp,.slice X x.length cx,.agg #[.slice GS g.s.length gc,.slice GC g.c.length gd]] w (GoB (Ly.layBack o p x g) w):=by
 obtain ⟨w1,e1,hv,hu,hQ,hZ⟩:=qay w o S c GS GC gc gd g;have hj:=Ly.counts_ok hc;unfold Od.least Od.most Od.params at hj;have hN:p.length=1:=by have:=hj.1;have h3:=hj.2.2.2;rw [if_pos this] at h3;simp [hk] at h3;omega
 have hU:x.length=1:=by have:=hj.1;have h1:=hj.2.1;have h2:=hj.2.2.1;rw [if_pos this] at h1 h2;simp [hk] at h1 h2;omega
 have HE:=zI (Ly.layBack10 (p:=p) (x:=x) (g:=g) hk);obtain ⟨HC,hS,h7,Hk⟩:=zd4 hc hN hU hk;clear hj hc hN hU hk;obtain ⟨HI,HP,HX,HG,hD,ht,hw,h5,hT⟩:=zd9 hI hP hX hG hZ hv hu hQ e1;clear hI hP hX hG hZ hv hu hQ e1;go_enter Tryz.func11,Tryz.ntmps11;go_wp2_with fail;rw [hT.out];clear hT;refine (qat o S c p.length x.length w1 oZ (HI.out.below hD.out (lrZ _))).mono ?_;rintro e w2 ⟨rfl,hx⟩;rw [HC.out];have hq:Later w1 w2:=hx;have hH:=hD.out.trans hq;have hz:=hq.blk h5.out;have h6:=hq.blk ht.out;have hW:=hq.blk hw.out;clear hx hq hD h5 ht hw;obtain ⟨HH,Hz,hO,hY⟩:=zd4 hH hz h6 hW;clear hH hz h6 hW;obtain ⟨bp,po,S0,c0,C0,d0,rfl,lbp,p00,p01,h4⟩:=HP.out.at_ (j:=0) (by have:=hS.out;omega);obtain ⟨bx,xo,S2,c2,C2,d2,rfl,lbx,x00,x01,h0⟩:=HX.out.at_ (j:=0) (by have:=h7.out;omega);have hh:=λ(W:Zp1) (h:Later w2 W)=>(qgu S0 C0 S2 C2 GS GC c0 d0 c2 d2 gc gd (Ly.got p 0) (Ly.got x 0) g o.step W (h4.later (HH.out.trans h)) (h0.later (HH.out.trans h)) (HG.out.later (HH.out.trans h))).mono (λe w' q=>q.u Ly.convBack_none)
 have hE:=HE.out;obtain ⟨R,hR⟩:∃R,Ly.convBack (Ly.got p 0) (Ly.got x 0) g o.step=R:=⟨_,rfl⟩
 rw [hR] at hE;have hb:∀W,Later w2 W->Calls Tryz.prog 13 _ W (GoCU R W):=hR▸hh;have q1:w2.cell? ⟨bp,po,none⟩=some (.slice S0 (Ly.got p 0).s.length c0):=HH.out.cell (by simpa using p00);have q2:w2.cell? ⟨bp,po+1,none⟩=some (.slice C0 (Ly.got p 0).c.length d0):=HH.out.cell (by simpa using p01);have q3:w2.cell? ⟨bx,xo,none⟩=some (.slice S2 (Ly.got x 0).s.length c2):=HH.out.cell (by simpa using x00);have q4:w2.cell? ⟨bx,xo+1,none⟩=some (.slice C2 (Ly.got x 0).c.length d2):=HH.out.cell (by simpa using x01);have q5:w2.cell? ⟨w.heap.size+1,0,none⟩=some (.slice GS g.s.length gc):=by rw [hY.out.cell];rfl
 have q6:w2.cell? ⟨w.heap.size+1,1,none⟩=some (.slice GC g.c.length gd):=by rw [hY.out.cell];rfl
 have q7:w2.cell? ⟨w.heap.size,3,none⟩=some (.int .i64 o.step):=by rw [hO.out.cell];rfl
 have x0:w2.cell? ⟨w.heap.size,0,none⟩=some (.int .i64 10):=by rw [hO.out.cell,←Hk.out];rfl
 have Hi:=HH.out.size;have Hl:=Hz.out.lt;rw [h7.out,hS.out];clear hR hh p00 p01 h4 x00 x01 h0 HE;obtain ⟨ha,HE⟩:=zd2 hb hE;clear hb hE;go_upto_region 13 with fail;clear x0
 go_cut [13,14] (OpCut10 w w2 R)
 case first=>
  go_wp2_with fail;have KF:=zI (show ∀Xw,Later w2 Xw->Xw.cell? ⟨bp,po,none⟩=some (.slice S0 (Ly.got p 0).s.length c0)/\Xw.cell? ⟨bp,po+1,none⟩=some (.slice C0 (Ly.got p 0).c.length d0)/\Xw.cell? ⟨bx,xo,none⟩=some (.slice S2 (Ly.got x 0).s.length c2)/\Xw.cell? ⟨bx,xo+1,none⟩=some (.slice C2 (Ly.got x 0).c.length d2)/\Xw.cell? ⟨w.heap.size+1,0,none⟩=some (.slice GS g.s.length gc)/\Xw.cell? ⟨w.heap.size+1,1,none⟩=some (.slice GC g.c.length gd)/\Xw.cell? ⟨w.heap.size,3,none⟩=some (.int .i64 o.step) from λXw h=>⟨h.cell q1,h.cell q2,h.cell q3,h.cell q4,h.cell q5,h.cell q6,h.cell q7⟩);refine Zm1 ?_;refine Zl1 (S:=λXw=>Xw.cell? ⟨bp,po,none⟩=some (.slice S0 (Ly.got p 0).s.length c0)/\Xw.cell? ⟨bp,po+1,none⟩=some (.slice C0 (Ly.got p 0).c.length d0)/\Xw.cell? ⟨bx,xo,none⟩=some (.slice S2 (Ly.got x 0).s.length c2)/\Xw.cell? ⟨bx,xo+1,none⟩=some (.slice C2 (Ly.got x 0).c.length d2)/\Xw.cell? ⟨w.heap.size+1,0,none⟩=some (.slice GS g.s.length gc)/\Xw.cell? ⟨w.heap.size+1,1,none⟩=some (.slice GC g.c.length gd)/\Xw.cell? ⟨w.heap.size,3,none⟩=some (.int .i64 o.step)) krZ (KF.out _ Lau) (λhHeld=>?_);refine tk 0 ?_;refine tk 1 ?_;refine tk 2 ?_;refine tk 3 ?_;refine tk 4 ?_;refine tk 5 ?_;refine tk 6 ?_;refine tk 7 ?_;refine tk 8 ?_;refine Zo1 (rs:=[9,13]) krZ sZ ?_;refine Zf1 (o:=_) rfl (λK hK=>?_) (Zf1 (o:=_) rfl (λK hK=>?_) (Zg1))
  ·simp only [ga,gs,gz]
   go_simp
   go_at_call 13
   (with_reducible refine (ha.out _ (Lau:Later w2 _)).mono ?_)
   rintro e wf ⟨U0,e0,V0,f0,U2,e2,V2,f2,rfl,he,h8⟩;have hl:=zI he;clear he
   try go_wp2_with fail
   refine hK.out _ _ (KF.out _ Lau) (λhHeld=>?_);clear hK K
   try simp only [ga,gs,gz,Act.put,sa,sz,ss]
   refine tk 10 ?_;refine tk 11 ?_;refine tk 12 ?_;refine rd 13 λK hK=>?_
   simp only [ga,gs,gz]
   go_simp
   refine hK.out _ _ (KF.out _ Lau) (λhHeld=>?_);clear hK K
   try simp only [ga,gs,gz,Act.put,sa,sz,ss]
   refine rd 14 λK hK=>?_
   simp only [ga,gs,gz]
   go_simp
   refine hK.out _ _ ?_ (λhHeld=>?_)
   ·(try dsimp only);(refine ⟨?_,?_,?_,?_,?_,?_,?_⟩<;>(repeat (refine qa0 ?_ (by first|omega|(simp;done)|(simp;omega))))<;>(refine Later.cell (Lau:Later w2 _) ?_)<;>assumption)
   clear hK K
   try simp only [ga,gs,gz,Act.put,sa,sz,ss]
   refine tk 15 ?_;clear KF;refine Zn1 krZ ?_ _;refine Zd1 ?_;go_wp2_with fail;have hA:Later w2 wf:=(Lau:Later w2 wf)
   have He:=hA.size
   go_meet
   exact ⟨wf.heap.size,U0,e0,V0,f0,U2,e2,V2,f2,rfl,rfl,He,Blk.new wf _ _,λh=>⟨((hl.out h).1.base (by first|omega|(simp;omega))).later ((Later.refl wf).alloc _),((hl.out h).2.base (by first|omega|(simp;omega))).later ((Later.refl wf).alloc _)⟩,hA.alloc _⟩
  ·simp only [ga,gs,gz]
   go_simp
   refine hK.out _ _ (KF.out _ Lau) (λhHeld=>?_);clear hK K
   try simp only [ga,gs,gz,Act.put,sa,sz,ss]
   refine rd 9 λK hK=>?_
   simp only [ga,gs,gz]
   go_simp
   go_at_call 13
   (with_reducible refine (ha.out _ (Lau:Later w2 _)).mono ?_)
   rintro e wf ⟨U0,e0,V0,f0,U2,e2,V2,f2,rfl,he,h8⟩;have hl:=zI he;clear he;have hF:=(show Later _ wf from h8).blk ((Blk.new w2 46 #[.slice none 0 0,.slice none 0 0,.slice none 0 0,.slice none 0 0]).drew);obtain ⟨z0,z1,z2,z3,y0,y1,y2,y3⟩:=qab hF;have hr:=zI hF;clear hF
   try go_wp2_with fail
   refine hK.out _ _ (KF.out _ Lau) (λhHeld=>?_);clear hK K
   try simp only [ga,gs,gz,Act.put,sa,sz,ss]
   refine tk 10 ?_;refine tk 11 ?_;refine tk 12 ?_;refine rd 14 λK hK=>?_
   simp only [ga,gs,gz]
   go_simp
   refine hK.out _ _ ?_ (λhHeld=>?_)
   ·(try dsimp only);(refine ⟨?_,?_,?_,?_,?_,?_,?_⟩<;>(repeat (refine qa0 ?_ (by first|omega|(simp;done)|(simp;omega))))<;>(refine Later.cell (Lau:Later w2 _) ?_)<;>assumption)
   clear hK K
   try simp only [ga,gs,gz,Act.put,sa,sz,ss]
   refine tk 15 ?_;clear KF;refine Zn1 krZ ?_ _;refine Zd1 ?_;go_wp2_with fail;have hA:Later w2 wf:=(Lau:Later w2 wf)
   go_meet
   exact ⟨w2.heap.size,U0,e0,V0,f0,U2,e2,V2,f2,rfl,rfl,lrZ _,qbY hr.out,λh=>⟨((hl.out h).1.base (by first|omega|(simp;omega))).else_ (qbh _ _ _ _ _ _) (qdb hr.out) (λj=>(qbY hr.out).frozen j),((hl.out h).2.base (by first|omega|(simp;omega))).else_ (qbh _ _ _ _ _ _) (qdb hr.out) (λj=>(qbY hr.out).frozen j)⟩,qaR hA (lrZ _) _ _ _ _⟩
 case rest=>
  obtain ⟨tb,U0,e0,V0,f0,U2,e2,V2,f2,rfl,rfl,Hj,hn,he,hm⟩:=hcut;have hp:=HH.out.trans hm;have hd:=hm.blk Hz.out;clear q1 q2 q3 q4 q5 q6 q7 ha
  by_cases hg:R.2=0
  case neg=>
   have hi:=HE.out;rw [if_neg hg] at hi;have Hc:=zI hg;have d9:(R.2 != 0)=true:=by simpa using hg
   clear hg;generalize R.2=ge at *;have c0':=hd.cell 0;have c1':=hd.cell 1;have f0':=hd.frozen 0;have f1':=hd.frozen 1;simp at c0' c1';obtain ⟨hM,Hf,hJ,Hb,hl,h9⟩:=zd6 hp hd hi hn he hm;clear hp hd hi hn he hm;go_wp2_with fail;refine Zk1 (v:=.tuple #[.agg #[.slice none 0 0,.slice none 0 0],.int .i64 ge]) (by simp [results,Tryz.results11,go_sem,c0',c1']) rfl ?_;exact GoB.fail hJ.out Hc.out ((hM.out.set (p:=⟨w.heap.size+2,0,none⟩) sZ _).set (p:=⟨w.heap.size+2,1,none⟩) sZ _)
  have hi:=HE.out;rw [if_pos hg] at hi;obtain ⟨t0,t2⟩:=he hg;have d9:(R.2 != 0)=false:=by simpa using hg
  have d8:(R.2==0)=true:=by simpa using hg
  clear hg he;generalize R.2=re at *;obtain ⟨g0,g1,g2,g3,-⟩:=qab hn;obtain ⟨m0,m1,m2,m3,-⟩:=qab (hn.alloc (.cells #[.slice U0 R.1.1.s.length e0,.slice V0 R.1.1.c.length f0] 30));have hf:=(hd.alloc (.cells #[.slice U0 R.1.1.s.length e0,.slice V0 R.1.1.c.length f0] 30)).alloc (.cells #[.slice U2 R.1.2.s.length e2,.slice V2 R.1.2.c.length f2] 30);have c0':=hf.cell 0;have c1':=hf.cell 1;have f0':=hf.frozen 0;have f1':=hf.frozen 1;have hB:=(hf.set_ 0 (.slice (some ⟨wc.heap.size,0,none⟩) 1 1)).set_ 1 (.slice (some ⟨wc.heap.size+1,0,none⟩) 1 1);have e0':=hB.cell 0;have e1':=hB.cell 1;simp at c0' c1' e0' e1';have Hh:=hd.lt;have x1:wc.heap.size≠w.heap.size+2:=by omega
  have x2:wc.heap.size+1≠w.heap.size+2:=by omega
  have hV:=(((Blk.new wc 30 #[.slice U0 R.1.1.s.length e0,.slice V0 R.1.1.c.length f0]).alloc (.cells #[.slice U2 R.1.2.s.length e2,.slice V2 R.1.2.c.length f2] 30)).far (p:=⟨w.heap.size+2,0,none⟩) x1 (.slice (some ⟨wc.heap.size,0,none⟩) 1 1)).far (p:=⟨w.heap.size+2,1,none⟩) x1 (.slice (some ⟨wc.heap.size+1,0,none⟩) 1 1)
  have hy:Blk ((wc.alloc (.cells #[.slice U0 R.1.1.s.length e0,.slice V0 R.1.1.c.length f0] 30)).alloc (.cells #[.slice U2 R.1.2.s.length e2,.slice V2 R.1.2.c.length f2] 30)) (wc.heap.size+1) 30 #[.slice U2 R.1.2.s.length e2,.slice V2 R.1.2.c.length f2]:=by
   have:=Blk.new (wc.alloc (.cells #[.slice U0 R.1.1.s.length e0,.slice V0 R.1.1.c.length f0] 30)) 30 #[.slice U2 R.1.2.s.length e2,.slice V2 R.1.2.c.length f2]
   rwa [Zh1] at this
  have hx:=(hy.far (p:=⟨w.heap.size+2,0,none⟩) x2 (.slice (some ⟨wc.heap.size,0,none⟩) 1 1)).far (p:=⟨w.heap.size+2,1,none⟩) x2 (.slice (some ⟨wc.heap.size+1,0,none⟩) 1 1);have hC:Later wc ((wc.alloc (.cells #[.slice U0 R.1.1.s.length e0,.slice V0 R.1.1.c.length f0] 30)).alloc (.cells #[.slice U2 R.1.2.s.length e2,.slice V2 R.1.2.c.length f2] 30)):=((Later.refl _).alloc _).alloc _;have T0:=zI ((t0.later hC).box (u:=.slice (some ⟨wc.heap.size,0,none⟩) 1 1) (u2:=.slice (some ⟨wc.heap.size+1,0,none⟩) 1 1) hf);have T2:=zI ((t2.later hC).box (u:=.slice (some ⟨wc.heap.size,0,none⟩) 1 1) (u2:=.slice (some ⟨wc.heap.size+1,0,none⟩) 1 1) hf);have hs:=((hp.trans hC).set (p:=⟨w.heap.size+2,0,none⟩) sZ (.slice (some ⟨wc.heap.size,0,none⟩) 1 1)).set (p:=⟨w.heap.size+2,1,none⟩) sZ (.slice (some ⟨wc.heap.size+1,0,none⟩) 1 1);clear t0 t2 hC hy x1 x2;obtain ⟨hM,Hf,hJ,Hb,h9,Hg,Ha,Hd,hL⟩:=zd9 hp hd hi hn hm hB hV hx hs;have Hm:=zI hf;clear hp hd hi hn hm hB hV hx hs hf;go_wp2_with fail;refine Zk1 (v:=.tuple #[.agg #[.slice (some ⟨wc.heap.size,0,none⟩) 1 1,.slice (some ⟨wc.heap.size+1,0,none⟩) 1 1],.int .i64 0]) (by simp [results,Tryz.results11,go_sem,e0',e1']) rfl ?_;rw [hJ.out];exact ⟨.inr ⟨rfl,_,_,rfl,TnsO.one Ha.out oZ T0.out,TnsO.one Hd.out oZ T2.out⟩,hL.out⟩
theorem op_back (o:OpD) (S P X GS GC:Option Addr) (c cp cx gc gd:Nat) (p x:List Ten) (g:Ten) (w:Zp1) (ho:o.s.length<=1048576) (hI:Ints .i64 w S o.s) (hk0:Fx.In o.k) (hP:Tns w P p) (hX:Tns w X x) (lX:x.length<=1048576) (kX:x.length<=cx) (mX:cx<=9223372036854775807) (hG:TenIn w GS GC gc gd g) (hc:Od.counts o p.length x.length=0):
  Calls Tryz.prog 11 #[.agg #[.int .i64 o.kind,.int .i64 o.k,.int .i64 o.width,.int .i64 o.step,.int .i64 o.side,.int .i64 o.frm,.int .i64 o.to,.slice S o.s.length c],.slice P p.length cp,.slice X x.length cx,.agg #[.slice GS g.s.length gc,.slice GC g.c.length gd]] w (GoB (Ly.back o p x g) w):=by
 have hb:=Od.right_kind (Ly.counts_ok hc).1;have ha:o.kind<=7∨o.kind=8∨o.kind=9∨o.kind=10∨o.kind=11∨o.kind=12∨o.kind=13∨o.kind=14∨o.kind=15:=by omega
 rcases ha with hk|hk|hk|hk|hk|hk|hk|hk|hk
 ·exact op_back7 o S P X GS GC c cp cx gc gd p x g w hk ho hI hk0 hX lX hG
 ·rw [Ly.back_lay hc];exact op_back8 o S P X GS GC c cp cx gc gd p x g w hk ho hI hP hX hG hc
 ·rw [Ly.back_lay hc];exact op_back9 o S P X GS GC c cp cx gc gd p x g w hk ho hI hP hX hG hc
 ·rw [Ly.back_lay hc];exact qgv o S P X GS GC c cp cx gc gd p x g w hk ho hI hP hX hG hc
 ·rw [Ly.back_lay hc];exact qgo o S P X GS GC c cp cx gc gd p x g w hk ho hI hP hX hG hc
 ·rw [Ly.back_lay hc];exact qgp o S P X GS GC c cp cx gc gd p x g w hk ho hI hP hX hG hc
 ·exact qgt o S P X GS GC c cp cx gc gd p x g w hk ho hI hX lX kX mX hG
 ·rw [Ly.back_lay hc];exact qgq o S P X GS GC c cp cx gc gd p x g w hk ho hI hP hX hG hc
 ·rw [Ly.back_lay hc];exact qgn o S P X GS GC c cp cx gc gd p x g w hk ho hI hP hX hG hc
namespace Ly
theorem qdc (l:List Int) (a:Nat) (v:Int):∀j,(addRow l a v j).length=l.length
 | 0=>rfl
 | j+1=>by unfold addRow;rw [qaK,qdc l a v j]
theorem qcJ (top:Bool) (x g:List Int) (sd n:Nat) (width:Int) (step:Nat):∀i,(poolX top x g sd n width step i).length=x.length
 | 0=>zeros_len _
 | i+1=>by
  unfold poolX poolStep
  split
  ·rw [qaK,qcJ top x g sd n width step i]
  ·rw [qdc,qcJ top x g sd n width step i]
theorem qeR {n row a part:Nat} {g:List Int}:∀k,(∀i,i<k->i*row+a+part<=n/\i*part+part<=g.length)->(cutX n row a part g k).length=n
 | 0,_=>zeros_len _
 | k+1,h=>by
  have h1:=qeR (n:=n) (row:=row) (a:=a) (part:=part) (g:=g) k λi hi=>h i oZ
  obtain ⟨h3,h4⟩:=h k oZ;have hl:((g.drop (k*part)).take part).length=part:=by rw [Zo,Zq];omega
  show (splice _ _ _).length=n
  rw [length_splice _ _ _ (by rw [hl,h1];omega),h1]
theorem right_like {t:Ten} {c:List Int} (h:Tn.right t=true) (hl:c.length=t.c.length):Tn.right ⟨t.s,c⟩=true:=by
 obtain ⟨h1,h2⟩:=right_s h;exact right_of h1 (by rw [hl];exact h2)
def Like (a b:List Ten):Prop:=a.map Ten.s=b.map Ten.s/\∀t∈a,Tn.right t=true
theorem Like.nil:Like [] []:=⟨rfl,λ_ h=>absurd h sZ⟩
theorem Like.one {a b:Ten} (h:a.s=b.s) (hr:Tn.right a=true):Like [a] [b]:=⟨by simp [h],λt ht=>by simp at ht;rw [ht];exact hr⟩
theorem Like.two {a b c d:Ten} (h:a.s=b.s) (hr:Tn.right a=true) (h2:c.s=d.s) (hr2:Tn.right c=true):Like [a,c] [b,d]:=⟨by simp [h,h2],λt ht=>by simp at ht;rcases ht with rfl|rfl<;>assumption⟩
theorem Like.len {a b:List Ten} (h:Like a b):a.length=b.length:=by have:=congrArg List.length h.1;simpa using this
theorem Like.each {a b:List Ten} (hl:a.length=b.length) (h:∀j,j<b.length->(got a j).s=(got b j).s/\Tn.right (got a j)=true):Like a b:=by
 refine ⟨List.ext_getElem (by simp [hl]) λi h1 h2=>?_,λt ht=>?_⟩
 ·have hb:i<b.length:=by simpa using h2
  have ha:i<a.length:=by simpa using h1
  have:=(h i hb).1;rw [qam ha,qam hb] at this;rw [List.getElem_map,List.getElem_map,this]
 ·obtain ⟨i,hi,rfl⟩:=List.getElem_of_mem ht
  have:=(h i oZ).2
  rwa [qam hi] at this
theorem qfn {kind:Int} {x:List Ten} (h:ptAgree kind x=0):(x.length:Int)=Od.ptIns kind/\∀t∈x,Tn.right t=true/\t.s=(got x 0).s:=by
 unfold ptAgree at h
 split at h
 ·simp at h
 ·split at h
  ·simp at h
  ·rename_i h2
   split at h
   ·rename_i h3
    simp only [Zf,Zz,decide_eq_true_eq] at h3;exact ⟨by omega,h3⟩
   ·simp at h
theorem qdu {x g:Ten} {sd frm til:Int} (hx:Tn.right x=true) (h:(cut x sd frm til).2=0) (hg:Tn.right g=true) (hs:g.s=(cut x sd frm til).1.s):
  (cutBack x g sd frm til).2=0/\(cutBack x g sd frm til).1.s=x.s/\Tn.right (cutBack x g sd frm til).1=true:=by
 by_cases hc:(Od.cut x.s sd frm til).2=0
 case neg=>rw [cut_err hx hc] at h;exact absurd h hc
 have hf:g.s=(Od.cut x.s sd frm til).1:=by rw [hs,cut_ok hx hc]
 rw [cbk_ok hx hc hg hf];refine ⟨rfl,rfl,right_like hx ?_⟩;obtain ⟨k,S,f,t,inner,pre,e1,e2,e3,hk,hS,ho,hp,hn,hm,hh,hd,hl,hb,ha,-,-,-⟩:=cut_facts hx hc;have h1:side x.s sd.toNat=S:=by unfold side at_;rw [e1,tnZ,hS,tnZ]
 have h2:span ((Od.cut x.s sd frm til).1.drop (sd.toNat+1))=inner:=by unfold span;rw [hd,e1,tnZ,hl,tnZ]
 have hj:g.c.length=pre*((t-f)*inner):=by
  have:=(right_s hg).2;rw [hf,hd,hb] at this;exact Int.ofNat.inj this
 have he:0<S*inner:=Nat.mul_pos oZ oZ
 show (cutX _ _ _ _ _ _).length=_
 rw [h1,h2];refine qeR _ λi hi=>?_
 rw [ha,Nat.mul_div_cancel _ he] at hi;rw [e2,e3,tnZ,tnZ,ha,hj];have a1:f*inner+(t-f)*inner<=S*inner:=by rw [←Nat.add_mul];exact mlZ _ oZ
 have a2:(i+1)*(S*inner)<=pre*(S*inner):=mlZ _ oZ;have a3:(i+1)*((t-f)*inner)<=pre*((t-f)*inner):=mlZ _ oZ;rw [Zu] at a2 a3;omega
theorem qbz {top:Bool} {x g:Ten} {width step:Int} (hx:Tn.right x=true) (h:(pool top x width step).2=0) (hg:Tn.right g=true) (hs:g.s=(pool top x width step).1.s):
  (poolBack top x g width step).2=0/\(poolBack top x g width step).1.s=x.s/\Tn.right (poolBack top x g width step).1=true:=by
 by_cases hc:poolErr x width step=0
 case neg=>rw [pool_err hc] at h;exact absurd h hc
 rw [pool_ok hc] at hs;have hs:g.s=poolS x width step:=hs;unfold poolBack;rw [if_pos hc,if_pos (by rw [hg,hs];simp)];exact ⟨rfl,rfl,right_like hx (qcJ _ _ _ _ _ _ _ _)⟩
theorem qb8 {r:Ten × Int} {x:Ten} (h:r.2=0/\r.1.s=x.s/\Tn.right r.1=true):(bsingle r).2=0/\Like (bsingle r).1.p []/\Like (bsingle r).1.x [x]:=by
 unfold bsingle;rw [if_pos h.1];exact ⟨rfl,Like.nil,Like.one h.2.1 h.2.2⟩
theorem qgw {o:OpD} {p x:List Ten} {g:Ten} (hc:Od.counts o p.length x.length=0) (hp:∀t∈p,Tn.right t=true) (hx:∀t∈x,Tn.right t=true) (hy:(lay o p x).2=0) (hg:Tn.right g=true) (hs:g.s=(lay o p x).1.s):
  (layBack o p x g).2=0/\Like (layBack o p x g).1.p p/\Like (layBack o p x g).1.x x:=by
 obtain ⟨hr,h1,h2,h3⟩:=counts_ok hc;have hk:=Od.right_kind hr;have hl:=Od.least_pos hr;unfold Od.least Od.most at *;unfold Od.params at h3;rw [if_pos hr] at h1 h2 h3;have hf:o.kind<=7∨o.kind=8∨o.kind=9∨o.kind=10∨o.kind=11∨o.kind=12∨o.kind=13∨o.kind=14∨o.kind=15:=by omega
 rcases hf with hb|hb|hb|hb|hb|hb|hb|hb|hb
 ·have e:lay o p x=point o.kind o.k x:=by unfold lay;rw [if_neg oZ,if_neg oZ,if_neg oZ,if_neg oZ,if_neg oZ,if_neg oZ,if_neg oZ,if_neg oZ]
  obtain rfl:=qau (l:=p) (by rw [if_neg oZ,if_neg oZ] at h3;omega);rw [e] at hy hs;rw [layBack7 hb]
  by_cases ha:ptAgree o.kind x=0
  case neg=>unfold point at hy;rw [if_neg ha] at hy;exact absurd hy ha
  have hs:g.s=(got x 0).s:=by rw [hs];unfold point;rw [if_pos ha]
  obtain ⟨hn,he⟩:=qfn ha
  have hh:(pointBack o.kind o.k g x).2=0/\Like (pointBack o.kind o.k g x).1 x:=by
   unfold pointBack;rw [if_pos ha,if_pos (by rw [hg,hs];simp)];refine ⟨rfl,?_⟩
   have hz:1<=x.length:=by
    rw [if_pos hr,if_pos hb] at hl;omega
   have ho:x.length<=2:=by
    have:Od.ptIns o.kind<=2:=by unfold Od.ptIns;repeat' split<;>omega
    omega
   match x,hz,ho,he with
   | [t],_,_,he=>
    have ht:=he t sZ;exact Like.one rfl (right_like ht.1 (tab_len _ _))
   | [t,u],_,_,he=>
    have ht:=he t sZ;have hu:=he u sZ;refine Like.two rfl (right_like ht.1 (tab_len _ _)) rfl (right_like hu.1 ?_);rw [tab_len];have e1:=(right_s ht.1).2;have e2:=(right_s hu.1).2;have e3:u.s=t.s:=hu.2;rw [e3] at e2
    show t.c.length=u.c.length
    omega
   | _::_::_::_,_,ho,_=>simp at ho
  unfold bseveral;rw [if_pos hh.1];exact ⟨rfl,Like.nil,hh.2⟩
 ·obtain ⟨a,b,rfl⟩:=qg9 (l:=p) (by simp [hb] at h3;omega)
  obtain ⟨t,rfl⟩:=qao (l:=x) (by simp [hb] at h1 h2;omega);have e:lay o [a,b] [t]=dense a b t:=by unfold lay;rw [if_pos hb];rfl
  rw [e] at hy hs;rw [layBack8 hb]
  show (if (denseBack a b t g).2=0 then _ else _:Bk × Int).2=0/\_
  by_cases hd:denseOk a b t=true
  case neg=>unfold dense at hy;rw [if_neg hd] at hy;simp at hy
  have hs:g.s=b.s:=by rw [hs];unfold dense;rw [if_pos hd]
  have ebk:=dback_ok (w:=a) (b:=b) (x:=t) (g:=g) (by rw [hd,hg,hs];simp);have e0:denseBack (got [a,b] 0) (got [a,b] 1) (got [t] 0) g=denseBack a b t g:=rfl;rw [e0,ebk];simp only [if_true];simp only [denseOk,Zz,decide_eq_true_eq] at hd;obtain ⟨⟨⟨⟨⟨ra,la⟩,rb⟩,rt⟩,sb⟩,st⟩:=hd;refine ⟨trivial,Like.two rfl (right_like ra ?_) hs hg,Like.one rfl (right_like rt (denseX_len _ _ _ _))⟩;rw [denseW_len];have q1:=(right_s ra).2;have q2:=(right_s hg).2;rw [hs,sb] at q2
  match hw:a.s,la with
  | [u,v],_=>
   rw [hw] at q1 q2 st;simp only [at_,List.getD_cons_zero,List.getD_cons_succ] at q2 st;have e3:Safe.prod [u,v]=u*v:=by simp [Safe.prod]
   have e4:Safe.prod [u]=u:=by simp [Safe.prod]
   rw [e3] at q1;rw [e4] at q2;have:((g.c.length*t.c.length:Nat):Int)=a.c.length:=by rw [Int.natCast_mul,q2,st,q1]
   exact Int.ofNat.inj this
 ·obtain ⟨b,rfl⟩:=qao (l:=p) (by simp [hb] at h3;omega)
  obtain ⟨t,rfl⟩:=qao (l:=x) (by simp [hb] at h1 h2;omega);have e:lay o [b] [t]=add t b:=by unfold lay;rw [if_neg oZ,if_pos hb];rfl
  rw [e] at hy hs;rw [layBack9 hb]
  show (bbias b t g).2=0/\Like (bbias b t g).1.p _/\Like (bbias b t g).1.x _
  unfold bbias;rw [if_pos hy,if_pos (by rw [hg,hs];simp)]
  by_cases ha:alike t b=true
  case neg=>unfold add at hy;rw [if_neg ha] at hy;simp at hy
  have hs:g.s=t.s:=by rw [hs];unfold add;rw [if_pos ha]
  simp only [alike,Zz,decide_eq_true_eq] at ha;exact ⟨rfl,Like.one (by rw [hs,ha.2]) hg,Like.one hs hg⟩
 ·obtain ⟨b,rfl⟩:=qao (l:=p) (by simp [hb] at h3;omega)
  obtain ⟨t,rfl⟩:=qao (l:=x) (by simp [hb] at h1 h2;omega);have e:lay o [b] [t]=conv b t o.step:=by unfold lay;rw [if_neg oZ,if_neg oZ,if_pos hb];rfl
  rw [e] at hy hs;rw [layBack10 hb];have e0:convBack (got [b] 0) (got [t] 0) g o.step=convBack b t g o.step:=rfl;rw [e0]
  by_cases hm:convErr b t o.step=0
  case neg=>unfold conv at hy;rw [if_neg hm] at hy;exact absurd hy hm
  have hs:g.s=(Od.conv b.s t.s o.step).1:=by rw [hs];unfold conv;rw [if_pos hm]
  have ebk:convBack b t g o.step=((⟨b.s,convW g.c t.c (convT b t o.step) b.c.length⟩,⟨t.s,convX g.c b.c (convT b t o.step) t.c.length⟩),0):=by
   unfold convBack;rw [if_pos hm,if_pos (by rw [hg,hs];simp)]
  rw [ebk];simp only [if_true];refine ⟨trivial,Like.one rfl (right_like (hp b sZ) ?_),Like.one rfl (right_like (hx t sZ) ?_)⟩
  ·unfold convW;rw [qaF,zeros_len]
  ·unfold convX;rw [qaF,zeros_len]
 ·obtain rfl:=qau (l:=p) (by rw [if_neg oZ,if_neg oZ] at h3;omega)
  obtain ⟨t,rfl⟩:=qao (l:=x) (by simp [hb] at h1 h2;omega);have e:lay o [] [t]=pool true t o.width o.step:=by unfold lay;rw [if_neg oZ,if_neg oZ,if_neg oZ,if_pos hb];rfl
  rw [e] at hy hs;rw [layBack11 hb];exact qb8 (qbz (hx t sZ) hy hg hs)
 ·obtain rfl:=qau (l:=p) (by rw [if_neg oZ,if_neg oZ] at h3;omega)
  obtain ⟨t,rfl⟩:=qao (l:=x) (by simp [hb] at h1 h2;omega);have e:lay o [] [t]=pool false t o.width o.step:=by unfold lay;rw [if_neg oZ,if_neg oZ,if_neg oZ,if_neg oZ,if_pos hb];rfl
  rw [e] at hy hs;rw [layBack12 hb];exact qb8 (qbz (hx t sZ) hy hg hs)
 ·obtain rfl:=qau (l:=p) (by rw [if_neg oZ,if_neg oZ] at h3;omega)
  have e:lay o [] x=join o.side x:=by unfold lay;rw [if_neg oZ,if_neg oZ,if_neg oZ,if_neg oZ,if_neg oZ,if_pos hb]
  rw [e] at hy hs;rw [layBack13 hb]
  by_cases hj:(joined o.side x).2=0
  case neg=>rw [join_err hj] at hy;exact absurd hy hj
  rw [join_ok hj] at hs;have hs:g.s=(joined o.side x).1:=hs;rw [joinBack_ok hj hg hs];unfold bseveral;rw [if_pos rfl];refine ⟨rfl,Like.nil,Like.each (jlist_len _ _ _ _) λj hi=>?_⟩;obtain ⟨q1,q2,-⟩:=jb_each hj hg hs hi
  show (got (jlist o.side g 0 x) j).s=_/\_
  rw [jlist_get _ _ _ _ _ hi,Int.zero_add];refine ⟨q2,qgh q1 ?_⟩;rw [q2];rw [qam hi];exact (right_s (hx _ (gmZ hi))).1
 ·obtain rfl:=qau (l:=p) (by rw [if_neg oZ,if_neg oZ] at h3;omega)
  obtain ⟨t,rfl⟩:=qao (l:=x) (by simp [hb] at h1 h2;omega);have e:lay o [] [t]=cut t o.side o.frm o.to:=by unfold lay;rw [if_neg oZ,if_neg oZ,if_neg oZ,if_neg oZ,if_neg oZ,if_neg oZ,if_pos hb];rfl
  rw [e] at hy hs;rw [layBack14 hb];exact qb8 (qdu (hx t sZ) hy hg hs)
 ·obtain rfl:=qau (l:=p) (by rw [if_neg oZ,if_neg oZ] at h3;omega)
  obtain ⟨t,rfl⟩:=qao (l:=x) (by simp [hb] at h1 h2;omega);have e:lay o [] [t]=turn t o.s:=by unfold lay;rw [if_neg oZ,if_neg oZ,if_neg oZ,if_neg oZ,if_neg oZ,if_neg oZ,if_neg oZ,if_pos hb];rfl
  rw [e] at hy hs;rw [layBack15 hb]
  show (bturn t g o.s).2=0/\Like (bturn t g o.s).1.p _/\Like (bturn t g o.s).1.x _
  have rt:=hx t sZ
  have hv:Tn.right ⟨o.s,t.c⟩=true:=by
   unfold turn of_ at hy;rw [if_pos rt] at hy
   split at hy
   ·assumption
   ·simp at hy
  have hs:g.s=o.s:=by rw [hs];unfold turn of_;rw [if_pos rt,if_pos hv]
  have hq:Tn.right ⟨t.s,g.c⟩=true:=by
   refine right_like rt ?_;have q1:=(right_s hg).2;have q2:=(right_s hv).2;rw [hs] at q1;have q2:(t.c.length:Int)=Safe.prod o.s:=q2;omega
  unfold bturn;rw [if_pos hy,if_pos (by rw [hg,hs];simp)];refine qb8 ?_;unfold turnBack of_;rw [if_pos (by rw [rt,hg];rfl),if_pos hq];exact ⟨rfl,rfl,hq⟩
theorem back_like {o:OpD} {p x:List Ten} {g y:Ten} (hp:∀t∈p,Tn.right t=true) (hx:∀t∈x,Tn.right t=true) (hy:go o p x=(y,0)) (hg:Tn.right g=true) (hs:g.s=y.s):
  (back o p x g).2=0/\Like (back o p x g).1.p p/\Like (back o p x g).1.x x:=by
 by_cases hc:Od.counts o p.length x.length=0
 case neg=>rw [go_err hc] at hy;exact absurd (congrArg Prod.snd hy) hc
 rw [go_lay hc] at hy;rw [back_lay hc];exact qgw hc hp hx (by rw [hy]) hg (by rw [hy];exact hs)
end Ly
theorem Ly.go_counts {o:OpD} {p x:List Ten} {y:Ten} (h:Ly.go o p x=(y,0)):Od.counts o p.length x.length=0:=by
 by_cases hc:Od.counts o p.length x.length=0
 ·exact hc
 ·rw [Ly.go_err hc] at h;exact absurd (congrArg Prod.snd h) hc
namespace Pn
def addN (gr:List Ten) (ins:List Int) (bx:List Ten):Nat->List Ten
 | 0=>gr
 | k+1=>(addN gr ins bx k).set (ins.getD k 0).toNat (add (Ly.got (addN gr ins bx k) (ins.getD k 0).toNat) (Ly.got bx k))
def bk (n:NetD) (ps vals gr:List Ten) (id:Int):Ly.Bk × Int:=Ly.back (Nt.node n.nodes id).op (parts n ps id) (pickT vals (Nt.node n.nodes id).ins) (Ly.got gr id.toNat)
def fr (n:NetD) (id:Int):Nat:=from_ n.nodes (id.toNat-1)
def bwd (n:NetD) (ps vals:List Ten):List Ten->List Ten->List Int->List Ten × List Ten
 | gr,pg,[]=>(gr,pg)
 | gr,pg,id::r=>bwd n ps vals (addN gr (Nt.node n.nodes id).ins (bk n ps vals gr id).1.x (Nt.node n.nodes id).ins.length) (splice pg (fr n id) (bk n ps vals gr id).1.p) r
def ones (s:List Int):Ten:=⟨s,Zc (Safe.prod s).toNat 4294967296⟩
structure Res where
 loss:Int
 grads:List Ten
 x:Ten
def startG (n:NetD) (vals:List Ten):List Ten:=(Zc (n.nodes.length+1) Ly.none_).set (Nt.loss n.nodes).toNat (ones (Ly.got vals (Nt.loss n.nodes).toNat).s)
def back (n:NetD) (ps:List Ten) (vals:List Ten):List Ten × List Ten:=bwd n ps vals (startG n vals) (Zc ps.length Ly.none_) (Nt.sorted n.nodes).reverse
def run (n:NetD) (ps:List Ten) (x:Ten):Res:=
 let vals:=(forward n ps x).1
 ⟨Ly.at_ (Ly.got vals (Nt.loss n.nodes).toNat).c 0,(back n ps vals).2,Ly.got (back n ps vals).1 0⟩
theorem addN_len (gr:List Ten) (ins:List Int) (bx:List Ten):∀k,(addN gr ins bx k).length=gr.length
 | 0=>rfl
 | k+1=>by unfold addN;rw [List.length_set,addN_len gr ins bx k]
def Good (vals:List Ten) (t:Ten) (i:Nat):Prop:=Tn.right t=true/\t.s=(Ly.got vals i).s
def Part (vals:List Ten) (t:Ten) (i:Nat):Prop:=t=Ly.none_∨Good vals t i
theorem right_pos {t:Ten} (h:Tn.right t=true):t.c.length≠0:=by
 obtain ⟨h1,h2⟩:=Ly.right_s h;have:=(Sh.right_mul h1).2.2.2.2.1;omega
theorem add_good {vals:List Ten} {g m:Ten} {i:Nat} (hg:Part vals g i) (hm:Good vals m i):Good vals (add g m) i:=by
 unfold add
 split
 ·exact hm
 ·rename_i h0
  rcases hg with hg|hg
  ·rw [hg] at h0;exact absurd rfl h0
  ·have ha:Ly.alike g m=true:=by simp [Ly.alike,hg.1,hm.1,hg.2,hm.2]
   rw [Ly.add_ok ha];exact ⟨Ly.right_like hg.1 (Ly.tab_len _ _),hg.2⟩
theorem qe6 {vals gr:List Ten} {ins:List Int} {bx:List Ten} (hr:∀i∈ins,0<=i/\i.toNat<gr.length) (hb:∀j,j<ins.length->Good vals (Ly.got bx j) (ins.getD j 0).toNat) (hg:∀i,Part vals (Ly.got gr i) i):
  ∀k,k<=ins.length->(∀i,Part vals (Ly.got (addN gr ins bx k) i) i)/\(∀i,Good vals (Ly.got gr i) i->Good vals (Ly.got (addN gr ins bx k) i) i)/\∀j,j<k->Good vals (Ly.got (addN gr ins bx k) (ins.getD j 0).toNat) (ins.getD j 0).toNat
 | 0,_=>⟨hg,λ_ h=>h,λ_ h=>absurd h oZ⟩
 | k+1,hk=>by
  obtain ⟨h1,h2,h3⟩:=qe6 hr hb hg k oZ;have hm:ins.getD k 0∈ins:=by rw [gdZ,geZ oZ];exact gmZ _
  have hl:(ins.getD k 0).toNat<(addN gr ins bx k).length:=by rw [addN_len];exact (hr _ hm).2
  have key:Good vals (Ly.got (addN gr ins bx (k+1)) (ins.getD k 0).toNat) (ins.getD k 0).toNat:=by
   unfold addN;rw [qbu hl];exact add_good (h1 _) (hb k oZ)
  have other:∀i,i≠(ins.getD k 0).toNat->Ly.got (addN gr ins bx (k+1)) i=Ly.got (addN gr ins bx k) i:=λi hi=>by
   rw [addN];exact qaQ (Ne.symm hi)
  refine ⟨λi=>?_,λi hi=>?_,λj hj=>?_⟩
  ·by_cases e:i=(ins.getD k 0).toNat
   ·subst e;exact .inr key
   ·rw [other i e];exact h1 i
  ·by_cases e:i=(ins.getD k 0).toNat
   ·subst e;exact key
   ·rw [other i e];exact h2 i hi
  ·by_cases e:(ins.getD j 0).toNat=(ins.getD k 0).toNat
   ·rw [e];exact key
   ·rw [other _ e]
    have:j<k:=by
     rcases Nat.lt_or_ge j k with h|h
     ·exact h
     ·exact absurd (by rw [show j=k by omega]) e
    exact h3 j this
structure Back (n:NetD) (ps vals:List Ten) (b:List Int) (gr pg:List Ten):Prop where
 len:gr.length=n.nodes.length+1
 part:∀i,Part vals (Ly.got gr i) i
 used:∀i:Int,0<=i->(i=Nt.loss n.nodes∨∃v∈b,i∈Nt.insF n.nodes v)->Good vals (Ly.got gr i.toNat) i.toNat
 plen:pg.length=ps.length
 pgood:∀v∈b,∀j,j<(Nt.node n.nodes v).p.length->(Ly.got pg (fr n v+j)).s=(Ly.got ps (fr n v+j)).s/\Tn.right (Ly.got pg (fr n v+j))=true
structure Ready (n:NetD) (ps vals:List Ten):Prop where
 chk:Nt.check n=0
 pm:ps.map Ten.s=Nt.params n
 pr:∀t∈ps,Tn.right t=true
 len:vals.length=n.nodes.length+1
 all:∀i,i<vals.length->Tn.right (Ly.got vals i)=true
 step:∀id:Int,1<=id->id<=n.nodes.length->step n ps vals id=(Ly.got vals id.toNat,0)
theorem qgx {n:NetD} (h:Nt.check n=0) {z:Int} (h1:0<=z) (h2:z<=n.nodes.length) (h3:z≠Nt.loss n.nodes):∃v∈Nt.sorted n.nodes,z∈Nt.insF n.nodes v:=by
 obtain ⟨_,_,_,_,hl,_,hb,_⟩:=Nt.check_ok h;obtain ⟨e,_,_⟩:=Nt.loss_mem hb
 have ha:Nt.isUsed n.nodes z=true:=by
  rcases Bool.eq_false_or_eq_true (Nt.isUsed n.nodes z) with q|q
  ·exact q
  ·have hm:z∈Nt.unused n.nodes:=by
    unfold Nt.unused;rw [List.mem_filter];refine ⟨?_,by rw [q];rfl⟩;unfold Nt.nums;rw [List.mem_map];exact ⟨z.toNat,List.mem_range.2 oZ,by omega⟩
   rw [e] at hm;simp at hm;exact absurd hm h3
 unfold Nt.isUsed at ha;obtain ⟨v,hv,hz⟩:=List.any_eq_true.1 ha;obtain ⟨k,hk,rfl⟩:=List.getElem_of_mem hv;refine ⟨(k:Int)+1,(Kn.order_full hl _).2 ⟨by omega,by omega⟩,?_⟩;unfold Nt.insF;rw [Nt.node_at hk];simpa using hz
theorem part_at {n:NetD} {ps:List Ten} (hm:ps.map Ten.s=Nt.params n) {id:Int} (h1:1<=id) (h2:id<=n.nodes.length):fr n id+(Nt.node n.nodes id).p.length<=ps.length:=by
 obtain ⟨hk,e⟩:=Nt.node_in ⟨h1,h2⟩;have h3:=from_succ hk;have h4:from_ n.nodes ((id-1).toNat+1)<=(n.nodes.flatMap (·.p)).length:=from_le;have h5:ps.length=(n.nodes.flatMap (·.p)).length:=by have:=congrArg List.length hm;simpa [Nt.params] using this
 unfold fr;rw [e,show id.toNat-1=(id-1).toNat by omega];omega
theorem qe7 {ns:List NodeD} {a b:Nat} (h:a<=b):from_ ns a<=from_ ns b:=by
 induction b with
 | zero=>
           obtain rfl:a=0:=by omega
           exact lrZ _
 | succ b ih=>
  rcases Nat.lt_or_ge b a with h1|h1
  ·obtain rfl:a=b+1:=by omega
   exact lrZ _
  ·refine Zv (ih h1) ?_
   rcases Nat.lt_or_ge b ns.length with h2|h2
   ·rw [from_succ h2];omega
   ·unfold from_
    rw [List.take_of_length_le h2,List.take_of_length_le oZ];exact lrZ _
theorem qdv {l d:List Ten} {o j:Nat} (hj:j<d.length) (h:o+d.length<=l.length):Ly.got (splice l o d) (o+j)=Ly.got d j:=by
 unfold Ly.got splice;rw [gdZ,gdZ,Zl soZ,Zo,Nat.min_eq_left oZ,Nat.add_sub_cancel_left,Zm hj]
theorem qcM {l d:List Ten} {o j:Nat} (hj:j<o∨o+d.length<=j) (h:o+d.length<=l.length):Ly.got (splice l o d) j=Ly.got l j:=by
 unfold Ly.got splice;rw [gdZ,gdZ];rcases hj with hj|hj
 ·rw [Zm soZ,List.getElem?_take_of_lt hj]
 ·rw [Zl soZ,Zo,Nat.min_eq_left oZ,Zl oZ,List.getElem?_drop]
  congr 2
  omega
theorem splice_len {l d:List Ten} {o:Nat} (h:o+d.length<=l.length):(splice l o d).length=l.length:=by
 unfold splice;simp;omega
theorem back_next {n:NetD} {ps vals gr pg:List Ten} (hR:Ready n ps vals) {a b:List Int} {u:Int} (hs:Nt.sorted n.nodes=a++u::b) (h:Back n ps vals b gr pg):
  (bk n ps vals gr u).2=0/\(bk n ps vals gr u).1.x.length=(Nt.node n.nodes u).ins.length/\(bk n ps vals gr u).1.p.length=(Nt.node n.nodes u).p.length/\1<=u/\u<=n.nodes.length/\
  Back n ps vals (u::b) (addN gr (Nt.node n.nodes u).ins (bk n ps vals gr u).1.x (Nt.node n.nodes u).ins.length) (splice pg (fr n u) (bk n ps vals gr u).1.p)/\
  (parts n ps u).length=(Nt.node n.nodes u).p.length/\Od.counts (Nt.node n.nodes u).op (parts n ps u).length (pickT vals (Nt.node n.nodes u).ins).length=0/\
  (∀q,q<=(Nt.node n.nodes u).ins.length->∀i,Part vals (Ly.got (addN gr (Nt.node n.nodes u).ins (bk n ps vals gr u).1.x q) i) i)/\(∀q,q<(Nt.node n.nodes u).ins.length->Tn.right (Ly.got (bk n ps vals gr u).1.x q)=true):=by
 obtain ⟨c1,c2,c3,c4,c5,c6,c7,c8⟩:=Nt.check_ok hR.chk;have hg:∀v∈Nt.sorted n.nodes,1<=v/\v<=n.nodes.length:=Kn.order_rng _ _;have hl:(Nt.sorted n.nodes).Nodup:=(Kn.go_ok _ _ _).nodup;have hu:=hg u (by rw [hs];simp);obtain ⟨hk,ha⟩:=Nt.node_in hu;have hb:∀i∈(Nt.node n.nodes u).ins,0<=i/\i<=n.nodes.length:=by rw [ha];exact (Nt.bads_all c4 _ (gmZ hk)).2
 have hx:Good vals (Ly.got gr u.toNat) u.toNat:=by
  refine h.used u oZ ?_
  by_cases hr:u=Nt.loss n.nodes
  ·exact .inl hr
  ·obtain ⟨v,hv,hz⟩:=qgx hR.chk oZ hu.2 hr
   refine .inr ⟨v,?_,hz⟩;rw [hs] at hv hl;rw [List.nodup_append] at hl;obtain ⟨-,hG,hh⟩:=hl;have hJ:u∉b:=(List.nodup_cons.1 hG).1;rcases List.mem_append.1 hv with hv|hv
   ·exfalso
    obtain ⟨a1,a2,ea⟩:=List.append_of_mem hv
    have hI:Kn.order (Nt.insF n.nodes) n.nodes.length=a1++v::(a2++u::b):=by
     show Nt.sorted n.nodes=_
     rw [hs,ea];simp
    rcases Kn.order_behind _ _ hI u hz with h4|h4
    ·omega
    ·exact hh u (by rw [ea];simp [h4]) u sZ rfl
   ·rcases List.mem_cons.1 hv with hv|hv
    ·exfalso
     subst hv;rcases Kn.order_behind _ _ (show Kn.order (Nt.insF n.nodes) n.nodes.length=a++v::b from hs) v hz with h4|h4
     ·omega
     ·exact hh v h4 v sZ rfl
    ·exact hv
 obtain ⟨p1,p2,p3⟩:=qda hR.pm hR.pr hu.1 hu.2
 have hd:∀t∈pickT vals (Nt.node n.nodes u).ins,Tn.right t=true:=λt ht=>by
  obtain ⟨i,hi,rfl⟩:=List.mem_map.1 ht;have:=hb i hi;exact hR.all _ (by rw [hR.len];omega)
 obtain ⟨b0,bp,bx⟩:=Ly.back_like p2 hd (hR.step u hu.1 hu.2) hx.1 hx.2;have hE:(bk n ps vals gr u).2=0:=b0;have hp:Ly.Like (bk n ps vals gr u).1.p (parts n ps u):=bp;have hm:Ly.Like (bk n ps vals gr u).1.x (pickT vals (Nt.node n.nodes u).ins):=bx;have hF:(bk n ps vals gr u).1.x.length=(Nt.node n.nodes u).ins.length:=by rw [hm.len];simp [pickT]
 have he:(bk n ps vals gr u).1.p.length=(Nt.node n.nodes u).p.length:=by rw [hp.len];exact p3
 clear b0 bp bx
 have hw:∀j,j<(Nt.node n.nodes u).ins.length->Good vals (Ly.got (bk n ps vals gr u).1.x j) ((Nt.node n.nodes u).ins.getD j 0).toNat:=λj hj=>by
  have hf:j<(bk n ps vals gr u).1.x.length:=by omega
  refine ⟨by rw [qam hf];exact hm.2 _ (gmZ hf),?_⟩;rw [←qgi,hm.1,qgi]
  congr 1
  rw [qam (by simpa [pickT] using hj)];simp [pickT,gdZ,geZ hj]
 have hc:=part_at hR.pm hu.1 hu.2;have hq:=qe6 (gr:=gr) (bx:=(bk n ps vals gr u).1.x) (λi hi=>⟨(hb i hi).1,by rw [h.len];have:=hb i hi;omega⟩) hw h.part;obtain ⟨q1,q2,q3⟩:=hq _ (lrZ _);refine ⟨hE,hF,he,hu.1,hu.2,⟨by rw [addN_len];exact h.len,q1,?_,?_,?_⟩,p3,Ly.go_counts (hR.step u hu.1 hu.2),λq ho=>(hq q ho).1,λq ho=>(hw q ho).1⟩
 ·rintro i hi (hH|⟨v,hv,hz⟩)
  ·exact q2 _ (h.used i hi (.inl hH))
  ·rcases List.mem_cons.1 hv with hv|hv
   ·subst hv
    obtain ⟨j,hj,e⟩:=List.getElem_of_mem hz;have hn:j<(Nt.node n.nodes v).ins.length:=hj;have:=q3 j hn;rw [gdZ,geZ hn] at this;have e:(Nt.node n.nodes v).ins[j]'hj=i:=e;rw [show (some ((Nt.node n.nodes v).ins[j]'hn)).getD 0=i from e] at this;exact this
   ·exact q2 _ (h.used i hi (.inr ⟨v,hv,hz⟩))
 ·rw [splice_len (by rw [he,h.plen];exact hc)];exact h.plen
 ·intro v hv j hj
  have hB:1<=v/\v<=n.nodes.length:=hg v (by rw [hs];rcases List.mem_cons.1 hv with hv|hv<;>simp [hv])
  by_cases e:v=u
  ·subst e
   rw [qdv oZ (by rw [he,h.plen];exact hc)];have hf:j<(bk n ps vals gr v).1.p.length:=by omega
   refine ⟨?_,by rw [qam hf];exact hp.2 _ (gmZ hf)⟩;rw [←qgi,hp.1,qgi]
   congr 1
   unfold Ly.got parts fr;rw [gdZ,gdZ,List.getElem?_take_of_lt hj,List.getElem?_drop]
  ·have hy:v∈b:=by
    rcases List.mem_cons.1 hv with hv|hv
    ·exact absurd hv e
    ·exact hv
   rw [qcM ?_ (by rw [he,h.plen];exact hc)]
   ·exact h.pgood v hy j hj
   ·rw [he]
    obtain ⟨hC,hA⟩:=Nt.node_in hB;rcases Int.lt_or_gt_of_ne e with hD|hD
    ·left
     have h3:=from_succ hC;rw [←hA] at h3;have h4:from_ n.nodes ((v-1).toNat+1)<=from_ n.nodes (u.toNat-1):=qe7 oZ;unfold fr;rw [show v.toNat-1=(v-1).toNat by omega];omega
    ·right
     have h3:=from_succ hk;rw [←ha] at h3;have h4:from_ n.nodes ((u-1).toNat+1)<=from_ n.nodes (v.toNat-1):=qe7 oZ;unfold fr;rw [show u.toNat-1=(u-1).toNat by omega];omega
theorem ones_good {s:List Int} (h:Sh.right s=true):Tn.right (ones s)=true:=by
 refine Ly.right_of h ?_;have:=(Sh.right_mul h).2.2.2.2.1;rw [List.length_replicate];omega
theorem loss_rng {n:NetD} (h:Nt.check n=0):1<=Nt.loss n.nodes/\Nt.loss n.nodes<=n.nodes.length:=by
 obtain ⟨_,_,_,_,_,_,ha,_⟩:=Nt.check_ok h;exact (Nt.loss_mem ha).2
theorem back_start {n:NetD} {ps vals:List Ten} (hR:Ready n ps vals):Back n ps vals [] (startG n vals) (Zc ps.length Ly.none_):=by
 have hl:=loss_rng hR.chk;have ha:(Nt.loss n.nodes).toNat<(Zc (n.nodes.length+1) Ly.none_).length:=by rw [List.length_replicate];omega
 have hg:Good vals (Ly.got (startG n vals) (Nt.loss n.nodes).toNat) (Nt.loss n.nodes).toNat:=by
  unfold startG;rw [qbu ha];exact ⟨ones_good (Ly.right_s (hR.all _ (by rw [hR.len];omega))).1,rfl⟩
 refine ⟨by simp [startG],λi=>?_,?_,by simp,λv hv=>absurd hv sZ⟩
 ·by_cases e:i=(Nt.loss n.nodes).toNat
  ·subst e;exact .inr hg
  ·left
   unfold startG;rw [qaQ (Ne.symm e)];unfold Ly.got;rw [gdZ,List.getElem?_replicate]
   split<;>rfl
 ·rintro i-(rfl|⟨v,hv,-⟩)
  ·exact hg
  ·exact absurd hv sZ
theorem ready_of {n:NetD} {ps:List Ten} {x:Ten} (h:fits n ps x=0):∃vals,forward n ps x=(vals,0)/\Ready n ps vals/\Ly.got vals 0=x:=by
 obtain ⟨hc,hl,hp,hx⟩:=fits_ok h;obtain ⟨hm,hr⟩:=par_map hl hp;obtain ⟨hb,ha⟩:=tenIs_ok hx;obtain ⟨c1,c2,c3,c4,c5,c6,c7,c8⟩:=Nt.check_ok hc
 have h0:Done n ps x [] (x::Zc n.nodes.length Ly.none_):=⟨by simp,by simp [Nt.lay,Nt.start,ha,Ly.none_],rfl,λi hi=>by
  rcases hi with rfl|hi
  ·exact hb
  ·simp at hi,by simp⟩
 obtain ⟨out,h1,h2⟩:=qeQ hc hm hr (Nt.sorted n.nodes) [] _ rfl h0;refine ⟨out,?_,⟨hc,hm,hr,h2.len,λi hi=>?_,λid a b=>h2.step id ?_⟩,h2.zero⟩
 ·unfold forward
  rw [if_neg oZ];exact h1
 ·have:=h2.right (i:Int) (by
   rcases Nat.eq_zero_or_pos i with h0|h0
   ·exact .inl oZ
   ·exact .inr ((Kn.order_full c5 _).2 ⟨by omega,by rw [h2.len] at hi;omega⟩))
  simpa using this
 ·rw [List.nil_append]
  exact (Kn.order_full c5 id).2 ⟨a,b⟩
theorem qez {n:NetD} {ps vals:List Ten} (hR:Ready n ps vals):∀(k:Nat) (gr pg:List Ten),Back n ps vals ((Nt.sorted n.nodes).drop k) gr pg->
  Back n ps vals (Nt.sorted n.nodes) (bwd n ps vals gr pg ((Nt.sorted n.nodes).take k).reverse).1 (bwd n ps vals gr pg ((Nt.sorted n.nodes).take k).reverse).2
 | 0,gr,pg,h=>by simpa [bwd] using h
 | k+1,gr,pg,h=>by
  by_cases hk:k<(Nt.sorted n.nodes).length
  ·have hs:Nt.sorted n.nodes=(Nt.sorted n.nodes).take k++(Nt.sorted n.nodes)[k]::(Nt.sorted n.nodes).drop (k+1):=by
    rw [←Zd hk,Zn]
   obtain ⟨-,-,-,-,-,h2,-⟩:=back_next hR hs h;rw [←Zd hk] at h2;have:=qez hR k _ _ h2;rw [Zb hk,List.reverse_append,List.reverse_singleton,List.singleton_append,bwd];exact this
  ·rw [List.take_of_length_le oZ]
   rw [List.drop_eq_nil_of_le oZ] at h;have:=qez hR k gr pg (by rw [List.drop_eq_nil_of_le oZ];exact h);rw [List.take_of_length_le oZ] at this;exact this
theorem back_all {n:NetD} {ps vals:List Ten} (hR:Ready n ps vals):Back n ps vals (Nt.sorted n.nodes) (back n ps vals).1 (back n ps vals).2:=by
 have:=qez hR (Nt.sorted n.nodes).length (startG n vals) (Zc ps.length Ly.none_) (by rw [List.drop_length];exact back_start hR);rw [Zg] at this;exact this
end Pn
theorem qcN {P:Program} (w:Zp1) (dT sT ty elem:TypeId) (size g o dLen dCap:Nat) (a:Addr) (sLen sCap:Nat) (cur:Array Value) (t:TypeId) (cs:List Value)
  (hu:P.underlying dT=some (.slice elem)) (hs:(P.info? elem).map (·.size)=some size)
  (hg:w.heap[g]? = some (.cells cur t (0,0))) (hn:cs.length=Nat.min sLen dLen*size)
  (hsrc:∀j v,cs[j]? = some v->w.cell? (a.add j)=some v) (hfit:o+cs.length<=cur.size) (h1:∀v∈cs,v.oneCell'=true):
  (Builtin.copy_ #[dT,sT] ty #[.slice (some ⟨g,o,none⟩) dLen dCap,.slice (some a) sLen sCap]).run P w=
   .ok (goInt (Nat.min sLen dLen)) (w.setRow g (cur.toList.take o++cs++cur.toList.drop (o+cs.length)).toArray):=by
 have hl:=run_loadCells_list (P:=P) w a cs hsrc;have ha:=run_storeCells_at P g o t cs 0 cur w hg (by simpa using hfit) h1;cases hq:P.info? elem with
 | none=>simp [hq] at hs
 | some i=>
  have hi:i.size=size:=by simpa [hq] using hs
  simp [Builtin.copy_,run_underlying hu,Builtin.lenOf,Builtin.firstCells,sizeOf,typeInfo,hq,hi,←hn,hl,ha]
theorem RowO.spliced {B:Nat} {w:Zp1} {vs us:List Value} {ts ds:List Ten} {k:Nat} (h:RowO B w vs ts) (h2:RowO B w us ds) (hk:k+ds.length<=ts.length):RowO B w (splice vs (k*2) us) (splice ts k ds):=by
 have hl:=h.1;have ha:=h2.1;have hs:(splice ts k ds).length=ts.length:=by unfold splice;simp;omega
 refine ⟨by rw [hs];unfold splice;simp;omega,λj hj=>?_⟩;rw [hs] at hj
 have key:∀m,m<2->((splice vs (k*2) us)[j*2+m]? = if k<=j/\j<k+ds.length then us[(j-k)*2+m]? else vs[j*2+m]?):=λm hm=>by
  unfold splice
  by_cases h1:j<k
  ·rw [if_neg oZ,Zm soZ,List.getElem?_take_of_lt oZ]
  ·by_cases h3:j<k+ds.length
   ·rw [if_pos oZ,Zl soZ,Zo,Nat.min_eq_left oZ,Zm oZ]
    congr 1
    omega
   ·rw [if_neg oZ,Zl soZ,Zo,Nat.min_eq_left oZ,Zl oZ,List.getElem?_drop]
    congr 1
    omega
 have k0:=key 0 oZ;have k1:=key 1 oZ;rw [Zx] at k0
 by_cases h3:k<=j/\j<k+ds.length
 ·rw [if_pos h3] at k0 k1
  obtain ⟨S,c,C,d,e1,e2,e3⟩:=h2.2 (j-k) oZ
  have eg:(splice ts k ds)[j]'(by rw [hs];exact hj)=ds[j-k]:=by
   have:(splice ts k ds)[j]? = ds[j-k]?:=by
    unfold splice;rw [Zl soZ,Zo,Nat.min_eq_left oZ,Zm oZ]
   rw [geZ (by rw [hs];exact hj),geZ oZ] at this;exact Option.some.inj this
  refine ⟨S,c,C,d,?_,?_,?_⟩
  ·rw [k0,eg];exact e1
  ·rw [k1,eg];exact e2
  ·rw [eg];exact e3
 ·rw [if_neg h3] at k0 k1
  obtain ⟨S,c,C,d,e1,e2,e3⟩:=h.2 j hj
  have eg:(splice ts k ds)[j]'(by rw [hs];exact hj)=ts[j]:=by
   have:(splice ts k ds)[j]? = ts[j]?:=by
    unfold splice
    by_cases h1:j<k
    ·rw [Zm soZ,List.getElem?_take_of_lt oZ]
    ·rw [Zl soZ,Zo,Nat.min_eq_left oZ,Zl oZ,List.getElem?_drop]
     congr 1
     omega
   rw [geZ (by rw [hs];exact hj),geZ oZ] at this;exact Option.some.inj this
  refine ⟨S,c,C,d,?_,?_,?_⟩
  ·rw [k0,eg];exact e1
  ·rw [k1,eg];exact e2
  ·rw [eg];exact e3
theorem TnsO.rowO {B:Nat} {w:Zp1} {ad:Addr} {ts:List Ten} (h:TnsO B w (some ad) ts):RowO B w (qax w ad (ts.length*2)) ts/\∀j u,(qax w ad (ts.length*2))[j]? = some u->w.cell? (ad.add j)=some u:=by
 obtain ⟨h1,h2⟩:=h.tns.rowT;refine ⟨⟨h1.1,λj hj=>?_⟩,h2⟩;obtain ⟨S,c,C,d,e1,e2,-⟩:=h1.2 j hj;refine ⟨S,c,C,d,e1,e2,?_⟩;obtain ⟨b,S',c',C',d',e,c0,c1,hO⟩:=h.2 j hj;injection e with e
 subst e;have q1:=h2 _ _ e1;have q2:=h2 _ _ e2;have a1:(⟨b,0,none⟩:Addr).add (j*2)=⟨b,j*2,none⟩:=by rw [qaN,Zw]
 have a2:(⟨b,0,none⟩:Addr).add (j*2+1)=⟨b,j*2+1,none⟩:=by rw [qaN,Zw]
 rw [a1,c0] at q1;rw [a2,c1] at q2;injection q1 with q1
 injection q2 with q2
 injection q1 with q3 _ q4
 injection q2 with q5 _ q6
 subst q3 q4 q5 q6;exact hO
theorem RowO.else_ {B:Nat} {w w':Zp1} {vs:List Value} {ts:List Ten} {p:Nat} (h:RowO B w vs ts) (hE:Else p w w') (hp:∀k z,w.cell? ⟨p,k,none⟩≠some (.int .i64 z)) (hf:∀j,w'.frozen? ⟨p,j,none⟩=false):RowO B w' vs ts:=
 ⟨h.1,λj hj=>by obtain ⟨S,c,C,d,e1,e2,e3⟩:=h.2 j hj;exact ⟨S,c,C,d,e1,e2,e3.else_ hE hp hf⟩⟩
theorem RowO.noint {B:Nat} {w:Zp1} {vs:List Value} {ts:List Ten} {p:Nat} {T:TypeId} (h:RowO B w vs ts) (hz:Blk w p T vs.toArray):∀k z,w.cell? ⟨p,k,none⟩≠some (.int .i64 z):=λk z e=>by
 rw [hz.cell,Zk] at e;obtain ⟨_,_,_,e2⟩:=h.rowT.cell _ (List.mem_of_getElem? e);cases e2
theorem qcO {P:Program} {ops:Array Oper} {o:Oper} {a:Act} {w:Zp1} {K:Act->Zp1->Prop} {Q:Exit->Act->Zp1->Prop} {E:Prop} (hgd:o.guard=none) (d s:Operand) (dT sT:TypeId)
  (ho:o.op=.call { callee:=.builtin .copy,args:=#[d,s],argTypes:=#[dT,sT] }) (elem:TypeId) (hu:P.underlying dT=some (.slice elem)) (hsz:(P.info? elem).map (·.size)=some 2)
  (B g k dCap:Nat) (ad:Addr) (sCap:Nat) (ts ds:List Ten) (hd:a.eval d=.slice (some ⟨g,k*2,none⟩) ds.length dCap) (hs:a.eval s=.slice (some ad) ds.length sCap)
  (vs:List Value) (t:TypeId) (hk:Blk w g t vs.toArray) (hv:RowO B w vs ts) (hsrc:TnsO B w (some ad) ds) (hfit:k+ds.length<=ts.length)
  (h:∀w' vs',Blk w' g t vs'.toArray->RowO B w' vs' (splice ts k ds)->Else g w w'->K (a.put o.dst (goInt ds.length)) w'):
  if Region.wanted o (yielded ops a.tmps)=true then Oper.wp P o a w K Q else E:=by
 have hw:Region.wanted o (yielded ops a.tmps)=true:=by simp [Region.wanted,hgd]
 rw [if_pos hw];obtain ⟨hr,hc⟩:=hsrc.rowO;have hj:=hv.1;have hh:=hr.1
 have hb:∀v∈qax w ad (ds.length*2),v.oneCell'=true:=λv hg=>by
  obtain ⟨_,_,_,e⟩:=hr.rowT.cell _ hg;subst e
  rfl
 have ha:=qcN (P:=P) w dT sT o.type elem 2 g (k*2) ds.length dCap ad ds.length sCap vs.toArray t (qax w ad (ds.length*2)) hu hsz hk (by rw [hh];show _=Nat.min ds.length ds.length*2;rw [show Nat.min ds.length ds.length=ds.length from Nat.min_self _]) hc soZ hb;rw [show Nat.min ds.length ds.length=ds.length from Nat.min_self _] at ha;unfold Oper.wp;simp [execOp,ho,resolve,invoke,builtin,hd,hs,ha,Result.andThen]
 have hf:Blk (w.setRow g (splice vs (k*2) (qax w ad (ds.length*2))).toArray) g t (splice vs (k*2) (qax w ad (ds.length*2))).toArray:=by
  show _=_
  exact setRow_heap w g _ _ t _ hk
 have he:Else g w (w.setRow g (splice vs (k*2) (qax w ad (ds.length*2))).toArray):=⟨λk hi=>setRow_other w g k _ hi,by simp [World.setRow],below_setRow (Ze1 _ _) (lrZ _) _⟩
 have:=h _ _ hf ((hv.spliced hr hfit).else_ he (hv.noint hk) (λj=>hf.frozen j)) he;exact this
def RunP (r:Pn.Res) (w:Zp1) (e:Ending) (w':Zp1):Prop:=
 ∃GB S C sc cd,e=.returned (.tuple #[.agg #[.int .i64 r.loss,.slice (some ⟨GB,0,none⟩) r.grads.length r.grads.length,.slice S r.x.s.length sc,.slice C r.x.c.length cd],.int .i64 0])/\TnsO w.heap.size w' (some ⟨GB,0,none⟩) r.grads/\TenO w.heap.size w' (.agg #[.slice S r.x.s.length sc,.slice C r.x.c.length cd]) r.x/\Below w.heap.size w w'
theorem qbA {P:Program} {ops:Array Oper} {o:Oper} {a:Act} {K:Act->Zp1->Prop} {Q:Exit->Act->Zp1->Prop} {E:Prop} {w:Zp1} (hg:o.guard=none) (l c:Operand) (t:TypeId) (hop:o.op=Op.makeSlice t l c)
  (base:Nat) (e:TypeId) (i:TypeInfo) (z:Value) (size:Nat) (h1:P.underlying t=some (.slice e)) (h2:P.info? e=some i) (h3:i.zero=some z) (h4:i.size=size)
  (kl kc:IntKind) (n:Nat) (hl:a.eval l=.int kl (n:Int)) (hc:a.eval c=.int kc (n:Int)) (b2:i.bytes*n<=281474976710656) (b3:n<=maxLen) (b4:base<=w.heap.size)
  (hK:∀w',w'.ownsRow base e size (.slice (some ⟨w.heap.size,0,none⟩) n n) n (madeCells z.cells (n*size)).toList->w.grownBy w' none->K (a.put o.dst (.slice (some ⟨w.heap.size,0,none⟩) n n)) w'):
  if Region.wanted o (yielded ops a.tmps)=true then Oper.wp P o a w K Q else E:=by
 have hw:Region.wanted o (yielded ops a.tmps)=true:=by simp [Region.wanted,hg]
 rw [if_pos hw];obtain ⟨w',ha,r1,r2⟩:=run_make_full (P:=P) w base t e i z size h1 h2 h3 h4 kl kc n b2 b3 b4;unfold Oper.wp;simp [execOp,hop,hl,hc,ha,Result.andThen];exact hK w' r1 r2
theorem qdw {P:Program} (w:Zp1) (t ty e:TypeId) (i:TypeInfo) (dp sp:Option Addr) (dc sc:Nat) (ht:P.underlying t=some (.slice e)) (hi:P.info? e=some i):
  (Builtin.copy_ #[t,t] ty #[.slice dp 0 dc,.slice sp 0 sc]).run P w=.ok (goInt 0) w:=by
 cases dp<;>cases sp<;>simp [Builtin.copy_,run_underlying ht,sizeOf,typeInfo,hi,Builtin.lenOf,Builtin.firstCells,loadCells,loadCellsFrom,storeCells]
theorem qcP {P:Program} {ops:Array Oper} {o:Oper} {a:Act} {w:Zp1} {K:Act->Zp1->Prop} {Q:Exit->Act->Zp1->Prop} {E:Prop} (hgd:o.guard=none) (d s:Operand) (t:TypeId)
  (ho:o.op=.call { callee:=.builtin .copy,args:=#[d,s],argTypes:=#[t,t] }) (e:TypeId) (i:TypeInfo) (hu:P.underlying t=some (.slice e)) (hi:P.info? e=some i)
  (dp sp:Option Addr) (dc sc:Nat) (hd:a.eval d=.slice dp 0 dc) (hs:a.eval s=.slice sp 0 sc) (h:K (a.put o.dst (goInt 0)) w):
  if Region.wanted o (yielded ops a.tmps)=true then Oper.wp P o a w K Q else E:=by
 have hw:Region.wanted o (yielded ops a.tmps)=true:=by simp [Region.wanted,hgd]
 rw [if_pos hw];have ha:=qdw (P:=P) w t o.type e i dp sp dc sc hu hi;unfold Oper.wp;simp [execOp,ho,resolve,invoke,builtin,hd,hs,ha,Result.andThen];exact h
theorem qeS {w:Zp1} {A:Option Addr} {l:List Int} {p:Addr} (h:Ints .i64 w A l) (hA:∀a,A=some a->a.block≠p.block) (u:Value):Ints .i64 (w.setCell p u) A l:=λj hj=>by
 obtain ⟨b,off,e,hl,hc⟩:=h j hj;exact ⟨b,off,e,by simpa using hl,(qaD (Below.heap_setCell w p u b (hA _ e)) _).trans hc⟩
theorem Ints.slot {w:Zp1} {A:Option Addr} {l:List Int} {p:Addr} {v:Value} (h:Ints .i64 w A l) (hp:w.cell? p=some v) (hv:∀z,v≠.int .i64 z) (u:Value):Ints .i64 (w.setCell p u) A l:=λj hj=>by
 obtain ⟨b,off,e,hl,hc⟩:=h j hj;refine ⟨b,off,e,by simpa using hl,?_⟩;rw [World.cell?_setCell_other]
 ·exact hc
 ·rintro rfl
  rw [hp] at hc;injection hc with hc
  exact hv _ hc
theorem RowO.slot {B:Nat} {w:Zp1} {vs:List Value} {ts:List Ten} {p:Addr} {v:Value} (h:RowO B w vs ts) (hp:w.cell? p=some v) (hv:∀z,v≠.int .i64 z) (u:Value):RowO B (w.setCell p u) vs ts:=
 ⟨h.1,λj hj=>by
  obtain ⟨S,c,C,d,e1,e2,S',c',C',d',h1,h2,h3,h4⟩:=h.2 j hj;exact ⟨S,c,C,d,e1,e2,S',c',C',d',h1,{ h2 with r:=⟨h2.r.1.slot hp hv u,h2.r.2.slot hp hv u⟩ },h3,λa e=>by obtain ⟨k1,k2,k3⟩:=h4 a e;exact ⟨k1,by simpa using k2,λj=>by rw [World.frozen?_setCell];exact k3 j⟩⟩⟩
theorem RowO.far {B:Nat} {w:Zp1} {vs:List Value} {ts:List Ten} {p:Addr} (h:RowO B w vs ts) (hp:p.block<B) (u:Value):RowO B (w.setCell p u) vs ts:=
 ⟨h.1,λj hj=>by
  obtain ⟨S,c,C,d,e1,e2,S',c',C',d',h1,h2,h3,h4⟩:=h.2 j hj;exact ⟨S,c,C,d,e1,e2,S',c',C',d',h1,{ h2 with r:=⟨qeS h2.r.1 (λa e=>by have:=h3 a e;omega) u,qeS h2.r.2 (λa e=>by have:=(h4 a e).1;omega) u⟩ },h3,λa e=>by obtain ⟨k1,k2,k3⟩:=h4 a e;exact ⟨k1,by simpa using k2,λj=>by rw [World.frozen?_setCell];exact k3 j⟩⟩⟩
theorem TnsO.off {B p i k:Nat} {w:Zp1} {A:Option Addr} {ts:List Ten} {T:TypeId} {vs:List Value} (h:TnsO B w A ts) (hz:Blk w p T vs.toArray) (hv:∀u∈vs,∃A n c,u=Zb1 A n c) (hp:p<B) (u u2:Value):
  TnsO B ((w.setCell ⟨p,i,none⟩ u).setCell ⟨p,k,none⟩ u2) A ts:=by
 refine ⟨λa e=>?_,λj hj=>?_⟩
 ·obtain ⟨b,h1,h2,h3,h4⟩:=h.1 a e
  exact ⟨b,h1,h2,by simpa using h3,λk=>by rw [World.frozen?_setCell,World.frozen?_setCell];exact h4 k⟩
 ·obtain ⟨b,S,c,C,d,e,c0,c1,hO⟩:=h.2 j hj
  obtain ⟨b2,q1,q2,-,-⟩:=h.1 _ e;injection q1 with q1
  exact ⟨b,S,c,C,d,e,qa0 (qa0 c0 (by show b≠p;omega)) (by show b≠p;omega),qa0 (qa0 c1 (by show b≠p;omega)) (by show b≠p;omega),hO.off hz hv u u2⟩
theorem TnsO.else_ {B p:Nat} {w w':Zp1} {A:Option Addr} {ts:List Ten} (h:TnsO B w A ts) (hE:Else p w w') (hp:∀k z,w.cell? ⟨p,k,none⟩≠some (.int .i64 z)) (hf:∀j,w'.frozen? ⟨p,j,none⟩=false) (hB:p<B):TnsO B w' A ts:=by
 refine ⟨λa e=>?_,λj hj=>?_⟩
 ·obtain ⟨b,h1,h2,h3,h4⟩:=h.1 a e
  refine ⟨b,h1,h2,by rw [hE.2.1];exact h3,λk=>?_⟩;have:=h4 k;unfold World.frozen? at this ⊢;rw [hE.1 b oZ];exact this
 ·obtain ⟨b,S,c,C,d,e,c0,c1,hO⟩:=h.2 j hj
  obtain ⟨b2,q1,q2,-,-⟩:=h.1 _ e;injection q1 with q1
  exact ⟨b,S,c,C,d,e,(Zi1 (hE.1 b oZ)).trans c0,(Zi1 (hE.1 b oZ)).trans c1,hO.else_ hE hp hf⟩
theorem qfo (ts:List Ten) (k:Nat):splice ts k []=ts:=by unfold splice;simp
theorem qcQ {P:Program} {ops:Array Oper} {o:Oper} {a:Act} {w:Zp1} {K:Act->Zp1->Prop} {Q:Exit->Act->Zp1->Prop} {E:Prop} (hgd:o.guard=none) (d s:Operand) (T:TypeId)
  (ho:o.op=.call { callee:=.builtin .copy,args:=#[d,s],argTypes:=#[T,T] }) (elem:TypeId) (i:TypeInfo) (hu:P.underlying T=some (.slice elem)) (hi:P.info? elem=some i) (hsz:i.size=2)
  (B g k m n1 dCap:Nat) (PA:Option Addr) (sCap:Nat) (ts ds:List Ten) (hd:a.eval d=.slice (if m=k then some ⟨g,0,none⟩ else (some (⟨g,0,none⟩:Addr)).map λa=>a.add (k*2)) n1 dCap) (hs:a.eval s=.slice PA ds.length sCap)
  (vs:List Value) (t:TypeId) (hk:Blk w g t vs.toArray) (hv:RowO B w vs ts) (hsrc:TnsO B w PA ds) (hm:ts.length=m) (hn:ds.length=n1) (hfit:k+ds.length<=ts.length)
  (h:∀w' vs',Blk w' g t vs'.toArray->RowO B w' vs' (splice ts k ds)->Else g w w'->K (a.put o.dst (goInt n1)) w'):
  if Region.wanted o (yielded ops a.tmps)=true then Oper.wp P o a w K Q else E:=by
 subst hn
 by_cases h0:ds.length=0
 ·obtain rfl:=List.eq_nil_of_length_eq_zero h0
  exact qcP hgd d s T ho elem i hu hi _ _ _ _ hd hs (h w vs hk (by rw [qfo];exact hv) (Else.refl _ _))
 ·obtain ⟨b,S,c,C,dd,e,-⟩:=hsrc.2 0 oZ
  subst e;rw [if_neg oZ] at hd;exact qcO hgd d s T T ho elem hu (by rw [hi];simp [hsz]) B g k dCap ⟨b,0,none⟩ sCap ts ds (by rw [hd,Option.map_some,qaN,Zw]) hs vs t hk hv hsrc hfit h
theorem Else.later {w0 w w':Zp1} {g:Nat} (h:Else g w w') (hl:Later w0 w) (hg:w0.heap.size<=g):Later w0 w':=Below.trans hl (h.2.2.mono hg)
def RunCut (w0:Zp1) (z:Int) (m:Nat) (a:Value) (wx:Zp1):Prop:=
 ∃rb gp,a=.pointer (some ⟨rb,0,none⟩)/\w0.heap.size<=rb/\w0.heap.size<=gp/\Blk wx rb 66 #[.int .i64 z,.slice (some ⟨gp,0,none⟩) m m,.slice none 0 0,.slice none 0 0]/\Blk wx gp 30 (Zc (m*2) (Zb1 none 0 0)).toArray/\Later w0 wx
def BkCut (w0:Zp1) (R:Ly.Bk × Int) (a b:Value) (wx:Zp1):Prop:=
 ∃PA XA tb,a=.pointer (some ⟨tb,0,none⟩)/\b=.int .i64 0/\Blk wx tb 38 #[.slice PA R.1.p.length R.1.p.length,.slice XA R.1.x.length R.1.x.length]/\TnsO w0.heap.size wx PA R.1.p/\TnsO w0.heap.size wx XA R.1.x/\w0.heap.size<=tb/\Later w0 wx
set_option maxRecDepth 20000 in
theorem qe8 (A N P XS XC:Option Addr) (c d cp xc xd:Nat) (n:NetD) (ps:List Ten) (x:Ten) (w:Zp1) (hok:n.ok) (hR:NetR w A N n) (hd:n.nodes.length<=d) (hP:Tns w P ps) (lP:ps.length<=1048576) (kP:ps.length<=cp) (mP:cp<=9223372036854775807) (nP:P=none->cp=0) (hX:TenIn w XS XC xc xd x) (hf:Pn.fits n ps x=0):
  Calls Tryz.prog 24 #[.agg #[.slice A n.inn.length c,.slice N n.nodes.length d],.slice P ps.length cp,.agg #[.slice XS x.s.length xc,.slice XC x.c.length xd]] w (RunP (Pn.run n ps x) w):=by
 have Kl:=((Blk.new w 59 #[.slice A n.inn.length c,.slice N n.nodes.length d]).alloc (.cells #[.slice XS x.s.length xc,.slice XC x.c.length xd] 30)).alloc (.cells #[.int .i64 0,.slice none 0 0,.slice none 0 0,.slice none 0 0] 66);have GT:=(Blk.new (w.alloc (.cells #[.slice A n.inn.length c,.slice N n.nodes.length d] 59)) 30 #[.slice XS x.s.length xc,.slice XC x.c.length xd]).alloc (.cells #[.int .i64 0,.slice none 0 0,.slice none 0 0,.slice none 0 0] 66);have hz:=Blk.new ((w.alloc (.cells #[.slice A n.inn.length c,.slice N n.nodes.length d] 59)).alloc (.cells #[.slice XS x.s.length xc,.slice XC x.c.length xd] 30)) 66 #[.int .i64 0,.slice none 0 0,.slice none 0 0,.slice none 0 0];simp only [Zh1] at GT hz;have Kx:Later w (((w.alloc (.cells #[.slice A n.inn.length c,.slice N n.nodes.length d] 59)).alloc (.cells #[.slice XS x.s.length xc,.slice XC x.c.length xd] 30)).alloc (.cells #[.int .i64 0,.slice none 0 0,.slice none 0 0,.slice none 0 0] 66)):=(((Later.refl w).alloc _).alloc _).alloc _;obtain ⟨vals,GW,HN,mp⟩:=Pn.ready_of hf;have hC:=HN.chk;have md:=Pn.part_at HN.pm (id:=1);have HJ:=HN.len;obtain ⟨n1,n5,-,hb,gd,-,-,-⟩:=Nt.check_ok hC;have gj:=Nt.bads_all hb;obtain ⟨mI,mk⟩:=Pn.loss_rng hC;obtain ⟨L,hL⟩:∃L:Nat,Nt.loss n.nodes=(L:Int):=⟨(Nt.loss n.nodes).toNat,by omega⟩
 rw [hL] at mI mk;have mD:L<vals.length:=by omega
 have gJ:=HN.all L mD;obtain ⟨y,hy⟩:∃y,Ly.got vals L=y:=⟨_,rfl⟩
 rw [hy] at gJ;obtain ⟨y4,y6⟩:=Ly.right_ok gJ;have KB:=Pn.right_pos gJ
 have gH:Pn.run n ps x=⟨Ly.at_ y.c 0,(Pn.back n ps vals).2,Ly.got (Pn.back n ps vals).1 0⟩:=by
  unfold Pn.run;rw [GW,hL,tnZ]
  show (⟨Ly.at_ (Ly.got vals L).c 0,_,_⟩:Pn.Res)=_
  rw [hy]
 have hp:Pn.startG n vals=(Zc (n.nodes.length+1) Ly.none_).set L (Pn.ones y.s):=by
  unfold Pn.startG;rw [hL,tnZ,hy]
 have He:qeg n=(L:Int):=by unfold qeg;rw [if_pos hC,hL]
 have Hg:Pn.back n ps vals=Pn.bwd n ps vals ((Zc (n.nodes.length+1) Ly.none_).set L (Pn.ones y.s)) (Zc ps.length Ly.none_) (Nt.sorted n.nodes).reverse:=by
  unfold Pn.back;rw [hp]
 rw [gH];clear hb md gH mp hL hf;obtain ⟨gv,HR,HP,HX,GO,k4,Hz,Gd,k6⟩:=zd9 hok hR hP hX Kl GT hz Kx nP;obtain ⟨mh,GF,GH,HD,GX,Hy,KN,hD,g0⟩:=zd9 GW HN HJ gd gj hy gJ hp He;obtain ⟨Hh,HV⟩:=zd2 Hg hC;clear hok hR hP hX Kl GT hz Kx nP GW HN HJ gd gj hy gJ hp He Hg hC;go_enter Tryz.func24,Tryz.ntmps24;go_upto_region 1 with fail;generalize ((w.alloc (.cells #[.slice A n.inn.length c,.slice N n.nodes.length d] 59)).alloc (.cells #[.slice XS x.s.length xc,.slice XC x.c.length xd] 30)).alloc (.cells #[.int .i64 0,.slice none 0 0,.slice none 0 0,.slice none 0 0] 66)=w1 at *;have a0:=GO.out.cell 0;have a1:=GO.out.cell 1;have b0:=k4.out.cell 0;have b1:=k4.out.cell 1;simp at a0 a1 b0 b1
 have ke:Calls Tryz.prog 23 #[.agg #[.slice A n.inn.length c,.slice N n.nodes.length d],.slice P ps.length cp,.agg #[.slice XS x.s.length xc,.slice XC x.c.length xd]] w1 (FwdP (vals,0) w1):=by
  have:=qaP A N P XS XC c d cp xc xd n ps x w1 gv.out (HR.out.below Gd.out (lrZ _)) hd (HP.out.later Gd.out) lP kP mP k6.out (HX.out.later Gd.out);rw [mh.out] at this;exact this
 have K6:=zI ke;clear ke;go_wp2_with fail;refine (K6.out).mono ?_;rintro e w2 ⟨⟨hb,-⟩|⟨-,G,rfl,hV⟩,kS⟩
 ·exact absurd rfl hb
 have gP:Later w1 w2:=kS;have Gs:=Gd.out.trans gP;have Ga:=gP.blk GO.out;have KC:=gP.blk Hz.out;have GI:Tns w2 (some ⟨G,0,none⟩) vals:=hV.tns;obtain ⟨bv,off,S1,s1c,C1,c1c,eG,-,v0,v1,GE⟩:=GI.at_ (j:=L) (by rw [GH.out];omega);injection eG with eG
 injection eG with eG eo _
 subst eG eo;rw [Hy.out] at v0 v1 GE;rw [Zw] at v0 v1;rw [show (vals,(0:Int)).1.length=n.nodes.length+1 from GH.out];clear kS a0 a1 b0 b1 hV;have a0:=Ga.cell 0;have a1:=Ga.cell 1;simp at a0 a1;have HQ:=qdM A N c d n w2 gv.out (HR.out.below Gs (lrZ _)) hd;obtain ⟨mM,KI,me,mx,mt,k8,Ku,KS⟩:=zd8 gP Gs Ga KC GI GE v0 v1;clear gP Gs Ga KC GI GE v0 v1;go_wp2_with fail;refine (show Calls Tryz.prog 71 #[.agg #[.slice A n.inn.length c,.slice N n.nodes.length d]] w2 (OrderP n w2) from HQ).mono ?_;rintro e w3 ⟨kD,⟨-,O,oc,rfl,hO,mS,mO⟩|⟨hb,-⟩⟩
 rotate_left
 ·exact absurd HV.out hb
 have gi:Later w2 w3:=kD;have GA:=KI.out.trans gi;have Gj:=gi.blk me.out;have Kk:=gi.blk mx.out;clear kD a0 a1 HQ;have a0:=Gj.cell 0;have a1:=Gj.cell 1;simp at a0 a1
 have gB:Calls Tryz.prog 74 #[.agg #[.slice A n.inn.length c,.slice N n.nodes.length d]] w3 λe w'=>e=.returned (.tuple #[.int .i64 (L:Int),.int .i64 0])/\Below w3.heap.size w3 w':=by
  have:=net_loss A N c d n w3 gv.out (HR.out.below GA (lrZ _)) hd;rw [g0.out,HV.out] at this;exact this
 obtain ⟨K0,KX,mb,mq,HO,HE⟩:=zd6 gi GA Gj Kk hO gB;clear gi GA Gj Kk hO gB;go_wp2_with fail;refine (HE.out).mono ?_;rintro e w4 ⟨rfl,kq⟩;have HH:Later w3 w4:=kq;have GP:=KX.out.trans HH;have kt:=HH.blk mb.out;have GD:=HH.blk mq.out;have Km:=K0.out.trans HH;clear kq a0 a1;have K8:=GP.size;have q1:IntKind.i64.wrap ((n.nodes.length:Int)+1)=(n.nodes.length:Int)+1:=Zc1 _ oZ;obtain ⟨KQ,gc,Gq,GV,Gf⟩:=zd5 HH GP kt GD Km;clear HH GP kt GD Km;obtain ⟨i0,hi,gI,H9,HY⟩:=info_parts qb2;go_wp2_with (at_make;refine wpList_make_full _ rfl _ _ 27 rfl w.heap.size 30 i0 (.agg #[.slice none 0 0,.slice none 0 0]) 2 Tryz.underlying27 hi gI H9 _ _ _ _ (n.nodes.length+1) rfl rfl (by first|rfl|simp) (by first|rfl|simp) ?b2 ?b3 K8 ?_)
 case b2=>rw [HY];omega
 case b3=>unfold maxLen;omega
 intro w5 hown hgrow;clear hi gI H9 HY
 have kl:Blk w5 w4.heap.size 30 (Zc ((n.nodes.length+1)*2) (Zb1 none 0 0)).toArray:=by
  have h:=qc7 hown;rw [qb3] at h;exact h
 have GJ:Later w4 w5:=(Ze1 _ w4).grown hgrow (lrZ _) sZ;clear hown hgrow;have Gg:=Gf.out.trans GJ;have p0:=Gg.cell Ku.out;have kf:=(k8.out.later Gg).r.1;have g1:(L:Int)<(n.nodes.length:Int)+1:=by omega
 obtain ⟨Kw,KL,KR,mw⟩:=zd4 kl GJ Gg kf;clear kl GJ Gg kf;go_wp2_with fail;refine (qbD S1 s1c y.s 4294967296 w5 oZ mw.out).mono ?_;rintro e w6 ⟨k9,Ge⟩;obtain ⟨⟨hb,-⟩|⟨-,v,rfl,hT⟩,Ge⟩:=And.intro k9 Ge
 ·exact absurd (Ly.right_s KN.out).1 (by rw [hb];simp)
 have GB:Later w5 w6:=Ge;have KM:=KR.out.trans GB;have KJ:=KL.out.trans GB;have hm:=GB.blk Kw.out;have G7:=Kw.out.lt
 have Ks:TenO w5.heap.size w6 v (Pn.ones y.s):=TenN.o (t:=Pn.ones y.s) hT (by show y.s.length<=_;omega) (by
  have:=Ly.right_ok (Pn.ones_good (Ly.right_s KN.out).1);omega) (by intro z hz;have:=(List.mem_replicate.1 hz).2;subst this;unfold Fx.In;omega)
 obtain ⟨g,hh,rfl,hg,mZ,-,-⟩:=hT;have n1:g≠w4.heap.size:=by omega
 have n2:hh≠w4.heap.size:=by omega
 have e0:w6.cell? ⟨w4.heap.size,L*2,none⟩=some (.slice none 0 0):=by rw [hm.cell,Zk,List.getElem?_replicate,if_pos oZ]
 have e1:w6.cell? ⟨w4.heap.size,L*2+1,none⟩=some (.slice none 0 0):=by rw [hm.cell,Zk,List.getElem?_replicate,if_pos oZ]
 have f0:=hm.frozen (L*2);have f1:=hm.frozen (L*2+1);have gW:=((RowO.zeros (w.heap.size+3) w6 (n.nodes.length+1)).set (k:=L) soZ (Ks.base (by have:=GV.out.lt;have:=KL.out.size;omega)))
 have Ho:RowO (w.heap.size+3) ((w6.setCell ⟨w4.heap.size,L*2,none⟩ (.slice (some ⟨g,0,none⟩) (Pn.ones y.s).s.length (Pn.ones y.s).s.length)).setCell ⟨w4.heap.size,L*2+1,none⟩ (.slice (some ⟨hh,0,none⟩) (Pn.ones y.s).c.length (Pn.ones y.s).c.length)) (((Zc ((n.nodes.length+1)*2) (Zb1 none 0 0)).set (L*2) (.slice (some ⟨g,0,none⟩) (Pn.ones y.s).s.length (Pn.ones y.s).s.length)).set (L*2+1) (.slice (some ⟨hh,0,none⟩) (Pn.ones y.s).c.length (Pn.ones y.s).c.length)) ((Zc (n.nodes.length+1) Ly.none_).set L (Pn.ones y.s)):=gW.off (i:=L*2) (k:=L*2+1) hm (RowO.zeros 0 w6 (n.nodes.length+1)).rowT.cell (.slice (some ⟨g,0,none⟩) (Pn.ones y.s).s.length (Pn.ones y.s).s.length) (.slice (some ⟨hh,0,none⟩) (Pn.ones y.s).c.length (Pn.ones y.s).c.length);have Ha:=(hm.set_ (L*2) (.slice (some ⟨g,0,none⟩) (Pn.ones y.s).s.length (Pn.ones y.s).s.length)).set_ (L*2+1) (.slice (some ⟨hh,0,none⟩) (Pn.ones y.s).c.length (Pn.ones y.s).c.length);rw [List.setIfInBounds_toArray,List.setIfInBounds_toArray] at Ha;have ko:=(KM.set (p:=⟨w4.heap.size,L*2,none⟩) (by have:=Gf.out.size;simp;omega) (.slice (some ⟨g,0,none⟩) (Pn.ones y.s).s.length (Pn.ones y.s).s.length)).set (p:=⟨w4.heap.size,L*2+1,none⟩) (by have:=Gf.out.size;simp;omega) (.slice (some ⟨hh,0,none⟩) (Pn.ones y.s).c.length (Pn.ones y.s).c.length);have KH:=(KJ.set (p:=⟨w4.heap.size,L*2,none⟩) (lrZ _) (.slice (some ⟨g,0,none⟩) (Pn.ones y.s).s.length (Pn.ones y.s).s.length)).set (p:=⟨w4.heap.size,L*2+1,none⟩) (lrZ _) (.slice (some ⟨hh,0,none⟩) (Pn.ones y.s).c.length (Pn.ones y.s).c.length);obtain ⟨bc,oc2,rfl,-,yc⟩:=(k8.out).cell (k:=0) oZ;rw [Zx] at yc;rw [show (⟨y.s,Zc (Safe.prod y.s).toNat 4294967296⟩:Ten)=Pn.ones y.s from rfl];generalize hsl7:((Zc ((n.nodes.length+1)*2) (Zb1 none 0 0)).set (L*2) (.slice (some ⟨g,0,none⟩) (Pn.ones y.s).s.length (Pn.ones y.s).s.length)).set (L*2+1) (.slice (some ⟨hh,0,none⟩) (Pn.ones y.s).c.length (Pn.ones y.s).c.length)=vs7 at Ho Ha
 clear p0 Ge k9 Ks KM KJ hm gW hsl7;obtain ⟨Hq,gD,Hc,Ka,KV⟩:=zd5 Ha Ho ko KH yc;clear Ha Ho ko KH yc;generalize (Pn.ones y.s).s.length=os at *;generalize (Pn.ones y.s).c.length=oc3 at *;go_upto_region 14 with fail;clear e0 e1 f0 f1 g1;generalize (w6.setCell ⟨w4.heap.size,L*2,none⟩ (.slice (some ⟨g,0,none⟩) os os)).setCell ⟨w4.heap.size,L*2+1,none⟩ (.slice (some ⟨hh,0,none⟩) oc3 oc3)=w7 at *;have v0:=Hc.out.cell Ku.out;have v1:=Hc.out.cell KS.out;have y0:=Hc.out.cell KV.out;have g1:(L:Int)<(n.nodes.length:Int)+1:=by omega
 go_cut [13] (RunCut w7 (Ly.at_ y.c 0) ps.length)
 case first=>
  obtain ⟨i0,hi,gI,H9,HY⟩:=info_parts qb2;have gl1:G<w7.heap.size:=Zj1 _ _ v1;have gl2:bc<w7.heap.size:=Zj1 _ _ y0;have mE:=Hc.out.size;have K5:=KI.out.size;have hi:=zI hi;have u1:0<y.c.length:=by omega
  have KF:=zI (show ∀Xw,Later w7 Xw->Xw.cell? ⟨G,L*2+1,none⟩=some (.slice (some ⟨bc,oc2,none⟩) y.c.length c1c)/\Xw.cell? ⟨bc,oc2,none⟩=some (.int .i64 (Ly.at_ y.c 0)) from λXw h=>⟨h.cell v1,h.cell y0⟩);refine Zm1 ?_;refine Zl1 (S:=λXw=>Xw.cell? ⟨G,L*2+1,none⟩=some (.slice (some ⟨bc,oc2,none⟩) y.c.length c1c)/\Xw.cell? ⟨bc,oc2,none⟩=some (.int .i64 (Ly.at_ y.c 0))) krZ (KF.out _ Lau) (λhHeld=>?_);refine tk 0 ?_;refine tk 1 ?_;refine tk 2 ?_;refine tk 3 ?_;refine tk 4 ?_;refine tk 5 ?_;refine tk 6 ?_;refine tk 7 ?_;refine tk 8 ?_;refine Zo1 (rs:=[9,11]) krZ sZ ?_;refine Zf1 (o:=_) rfl (λK hK=>?_) (Zf1 (o:=_) rfl (λK hK=>?_) (Zg1))
  ·refine qbA (by rfl) _ _ 27 (by rfl) w.heap.size 30 i0 (.agg #[.slice none 0 0,.slice none 0 0]) 2 Tryz.underlying27 hi.out gI H9 .i64 .i64 ps.length (by rfl) (by rfl) (by rw [HY];omega) (by unfold maxLen;omega) (by have:=Hc.out.size;first|omega|(simp;omega)) ?_
   intro w8 hown hgrow;have mH:=(Ze1 _ _).grown hgrow (lrZ _) sZ;have gx:=qc7 hown;rw [show (madeCells (Value.agg #[Zb1 none 0 0,Zb1 none 0 0]).cells (ps.length*2)).toList=Zc (ps.length*2) (Zb1 none 0 0) from qb3 _] at gx;refine hK.out _ _ (KF.out _ Lau) (λhHeld=>?_);clear hK K
   try simp only [ga,gs,gz,Act.put,sa,sz,ss]
   refine tk 10 ?_;refine rd 11 λK hK=>?_
   simp only [ga,gs,gz]
   go_simp
   refine hK.out _ _ (KF.out _ Lau) (λhHeld=>?_);clear hK K
   try simp only [ga,gs,gz,Act.put,sa,sz,ss]
   refine rd 12 λK hK=>?_
   simp only [ga,gs,gz]
   go_simp
   refine hK.out _ _ ?_ (λhHeld=>?_)
   ·(try dsimp only);(refine ⟨?_,?_⟩<;>(repeat (refine qa0 ?_ (by first|omega|(simp;done)|(simp;omega))))<;>(refine Later.cell (Lau:Later w7 _) ?_)<;>assumption)
   clear hK K
   try simp only [ga,gs,gz,Act.put,sa,sz,ss]
   clear KF;refine Zn1 krZ ?_ _;refine Zd1 ?_;have Gl:Later w7 w8:=(Lau:Later w7 w8)
   go_wp2_with fail
   go_meet
   exact ⟨w8.heap.size,_,rfl,Gl.size,lrZ _,Blk.new w8 _ _,gx.alloc _,Gl.alloc _⟩
  ·simp only [ga,gs,gz]
   go_simp
   refine hK.out _ _ (KF.out _ Lau) (λhHeld=>?_);clear hK K
   try simp only [ga,gs,gz,Act.put,sa,sz,ss]
   refine rd 9 λK hK=>?_
   refine qbA (by rfl) _ _ 27 (by rfl) w.heap.size 30 i0 (.agg #[.slice none 0 0,.slice none 0 0]) 2 Tryz.underlying27 hi.out gI H9 .i64 .i64 ps.length (by rfl) (by rfl) (by rw [HY];omega) (by unfold maxLen;omega) (by have:=Hc.out.size;first|omega|(simp;omega)) ?_;intro w8 hown hgrow;have mH:=(Ze1 _ _).grown hgrow (lrZ _) sZ;have gx:=qc7 hown;rw [show (madeCells (Value.agg #[Zb1 none 0 0,Zb1 none 0 0]).cells (ps.length*2)).toList=Zc (ps.length*2) (Zb1 none 0 0) from qb3 _] at gx;have ht:=Blk.grown ((Blk.new w7 66 #[.int .i64 0,.slice none 0 0,.slice none 0 0,.slice none 0 0]).drew) hgrow sZ;have k0:=ht.cell 0;have k1:=ht.cell 1;have k2:=ht.cell 2;have k3:=ht.cell 3;have kf0:=ht.frozen 0;have kf1:=ht.frozen 1;have kf2:=ht.frozen 2;have kf3:=ht.frozen 3;simp at k0 k1 k2 k3;have Go:=zI ht;clear ht;refine hK.out _ _ (KF.out _ Lau) (λhHeld=>?_);clear hK K
   try simp only [ga,gs,gz,Act.put,sa,sz,ss]
   refine tk 10 ?_;refine rd 12 λK hK=>?_
   simp only [ga,gs,gz]
   go_simp
   refine hK.out _ _ ?_ (λhHeld=>?_)
   ·(try dsimp only);(refine ⟨?_,?_⟩<;>(repeat (refine qa0 ?_ (by first|omega|(simp;done)|(simp;omega))))<;>(refine Later.cell (Lau:Later w7 _) ?_)<;>assumption)
   clear hK K
   try simp only [ga,gs,gz,Act.put,sa,sz,ss]
   clear KF;refine Zn1 krZ ?_ _;refine Zd1 ?_;have Gl:Later w7 w8:=(Lau:Later w7 w8)
   go_wp2_with fail
   go_meet
   have my:Blk w8 (w7.heap.size+1) 30 (Zc (ps.length*2) (Zb1 none 0 0)).toArray:=by simpa using gx
   have KP:=(((Go.out.set_ 0 (.int .i64 (Ly.at_ y.c 0))).set_ 1 (.slice (some ⟨w7.heap.size+1,0,none⟩) ps.length ps.length)).set_ 2 (.slice none 0 0)).set_ 3 (.slice none 0 0);exact ⟨w7.heap.size,w7.heap.size+1,rfl,lrZ _,Zy _,(by simpa using KP),((((my.far (p:=⟨w7.heap.size,0,none⟩) sZ _).far (p:=⟨w7.heap.size,1,none⟩) sZ _).far (p:=⟨w7.heap.size,2,none⟩) sZ _).far (p:=⟨w7.heap.size,3,none⟩) sZ _),(((Gl.set (p:=⟨w7.heap.size,0,none⟩) (lrZ _) _).set (p:=⟨w7.heap.size,1,none⟩) (lrZ _) _).set (p:=⟨w7.heap.size,2,none⟩) (lrZ _) _).set (p:=⟨w7.heap.size,3,none⟩) (lrZ _) _⟩
 case rest=>
  obtain ⟨rb,gp,rfl,m4,KO,kT,Hf,ho⟩:=hcut;have mg:=Hq.out.lt;clear v0 v1 y0;have gM:=ho.blk Hq.out;have gQ:=gD.out.later ho;have km:=Ka.out.trans ho;have ky:=Hc.out.trans ho;have q2:IntKind.i64.wrap ((n.nodes.length:Int)-1)=(n.nodes.length:Int)-1:=Zc1 _ oZ;have hn:=Pn.back_start GF.out;rw [hD.out] at hn;clear Hq gD Hc Ka hD;obtain ⟨Kb,gT,KU,H3,gC,kO,m6,hI⟩:=zd8 kT Hf ho gM gQ km ky hn;clear kT Hf ho gM gQ km ky hn;clear g1;go_wp2_with fail;clear q2;have GD:=GV.out.lt
  go_loopw [14] (λi wx=>∃(z:Int) (k:Nat) (vs us:List Value) (gr pg:List Ten),i=.int .i64 z/\z=(k:Int)-1/\k<=n.nodes.length/\Blk wx w4.heap.size 30 vs.toArray/\RowO (w.heap.size+3) wx vs gr/\Blk wx gp 30 us.toArray/\RowO (w.heap.size+3) wx us pg/\Blk wx rb 66 #[.int .i64 (Ly.at_ y.c 0),.slice (some ⟨gp,0,none⟩) ps.length ps.length,.slice none 0 0,.slice none 0 0]/\Later w4 wx/\Pn.Back n ps vals ((Nt.sorted n.nodes).drop k) gr pg/\Pn.back n ps vals=Pn.bwd n ps vals gr pg ((Nt.sorted n.nodes).take k).reverse) (λi _=>(intOf i+1).toNat)
  case atStart=>exact ⟨_,n.nodes.length,_,_,_,_,rfl,rfl,lrZ _,H3.out,gC.out,gT.out,RowO.zeros _ _ _,Kb.out,kO.out,by rw [List.drop_eq_nil_of_le (by rw [HD.out];exact lrZ _)];exact hI.out,by rw [List.take_of_length_le (by rw [HD.out];exact lrZ _)];exact Hh.out⟩
  case round=>
   obtain ⟨z,k,vs,us,gr,pg,rfl,kz,hk,hG,gL,hQ,hZ,hl,h9,he,HT⟩:=hrel;clear H3 gC gT Kb hI Hh kO KU;rcases Nat.eq_zero_or_pos k with KZ|ml
   ·subst KZ
    obtain rfl:z = -1:=by omega
    rw [List.take_zero,List.reverse_nil,Pn.bwd] at HT;rw [HT];have gn:0<gr.length:=by rw [he.len];omega
    have hE:=he.plen;obtain ⟨S3,c3,C3,d3,e1,e2,Kt⟩:=gL.2 0 gn;rw [←qam gn] at e1 e2 Kt;have e0':wr.cell? ⟨w4.heap.size,0,none⟩=some (.slice S3 (Ly.got gr 0).s.length c3):=by rw [hG.cell,Zk];simpa using e1
    have e1':wr.cell? ⟨w4.heap.size,1,none⟩=some (.slice C3 (Ly.got gr 0).c.length d3):=by rw [hG.cell,Zk];simpa using e2
    have hS:=h9.blk GV.out;have HS:=gc.out.trans h9
    have nrg:gp≠rb:=by
     rintro rfl;have:=hl.symm.trans hQ;simp at this
    have n3:w.heap.size+1+1≠rb:=by omega
    have n4:gp≠w.heap.size+1+1:=by omega
    have k2:wr.cell? ⟨rb,2,none⟩=some (.slice none 0 0):=by rw [hl.cell];rfl
    have k3a:(wr.setCell ⟨rb,2,none⟩ (.slice S3 (Ly.got gr 0).s.length c3)).cell? ⟨rb,3,none⟩=some (.slice none 0 0):=by rw [(hl.set_ 2 _).cell];rfl
    have ku:=(((((hZ.slot k2 sZ _).slot k3a sZ (.slice C3 (Ly.got gr 0).c.length d3)).far (p:=⟨w.heap.size+1+1,0,none⟩) sZ (.int .i64 (Ly.at_ y.c 0))).far (p:=⟨w.heap.size+1+1,1,none⟩) sZ (.slice (some ⟨gp,0,none⟩) ps.length ps.length)).far (p:=⟨w.heap.size+1+1,2,none⟩) sZ (.slice S3 (Ly.got gr 0).s.length c3)).far (p:=⟨w.heap.size+1+1,3,none⟩) sZ (.slice C3 (Ly.got gr 0).c.length d3);have Ky:=(((((gL.slot k2 sZ _).slot k3a sZ (.slice C3 (Ly.got gr 0).c.length d3)).far (p:=⟨w.heap.size+1+1,0,none⟩) sZ (.int .i64 (Ly.at_ y.c 0))).far (p:=⟨w.heap.size+1+1,1,none⟩) sZ (.slice (some ⟨gp,0,none⟩) ps.length ps.length)).far (p:=⟨w.heap.size+1+1,2,none⟩) sZ (.slice S3 (Ly.got gr 0).s.length c3)).far (p:=⟨w.heap.size+1+1,3,none⟩) sZ (.slice C3 (Ly.got gr 0).c.length d3);obtain ⟨S4,c4,C4,d4,e3,e4,Gw⟩:=Ky.2 0 gn;rw [←qam gn] at e3 e4 Gw;have e3:=e1.symm.trans e3;have e4:=e2.symm.trans e4;injection e3 with e3
    injection e4 with e4
    injection e3 with e3 _ e5
    injection e4 with e4 _ e6
    subst e3 e4 e5 e6;have k5:=(((((hQ.far (p:=⟨rb,2,none⟩) nrg (.slice S3 (Ly.got gr 0).s.length c3)).far (p:=⟨rb,3,none⟩) nrg (.slice C3 (Ly.got gr 0).c.length d3)).far (p:=⟨w.heap.size+1+1,0,none⟩) n4 (.int .i64 (Ly.at_ y.c 0))).far (p:=⟨w.heap.size+1+1,1,none⟩) n4 (.slice (some ⟨gp,0,none⟩) ps.length ps.length)).far (p:=⟨w.heap.size+1+1,2,none⟩) n4 (.slice S3 (Ly.got gr 0).s.length c3)).far (p:=⟨w.heap.size+1+1,3,none⟩) n4 (.slice C3 (Ly.got gr 0).c.length d3);have gt:=(((((hS.far (p:=⟨rb,2,none⟩) n3 (.slice S3 (Ly.got gr 0).s.length c3)).far (p:=⟨rb,3,none⟩) n3 (.slice C3 (Ly.got gr 0).c.length d3)).set_ 0 (.int .i64 (Ly.at_ y.c 0))).set_ 1 (.slice (some ⟨gp,0,none⟩) ps.length ps.length)).set_ 2 (.slice S3 (Ly.got gr 0).s.length c3)).set_ 3 (.slice C3 (Ly.got gr 0).c.length d3);have GS:w.heap.size<=rb:=by omega
    have kX:=(((((HS.set (p:=⟨rb,2,none⟩) GS (.slice S3 (Ly.got gr 0).s.length c3)).set (p:=⟨rb,3,none⟩) GS (.slice C3 (Ly.got gr 0).c.length d3)).set (p:=⟨w.heap.size+1+1,0,none⟩) soZ (.int .i64 (Ly.at_ y.c 0))).set (p:=⟨w.heap.size+1+1,1,none⟩) soZ (.slice (some ⟨gp,0,none⟩) ps.length ps.length)).set (p:=⟨w.heap.size+1+1,2,none⟩) soZ (.slice S3 (Ly.got gr 0).s.length c3)).set (p:=⟨w.heap.size+1+1,3,none⟩) soZ (.slice C3 (Ly.got gr 0).c.length d3);have ki:TnsO w.heap.size _ (some ⟨gp,0,none⟩) pg:=(ku.tnsO k5 oZ).base (Nat.le_add_right _ 3);have kw:=Gw.base (Nat.le_add_right w.heap.size 3);have k0:=hl.cell 0;have k1:=hl.cell 1;have k3:=hl.cell 3;have kf2:=hl.frozen 2;have kf3:=hl.frozen 3;have m0:=hS.cell 0;have m1:=hS.cell 1;have m2:=hS.cell 2;have m3:=hS.cell 3;have mf0:=hS.frozen 0;have mf1:=hS.frozen 1;have mf2:=hS.frozen 2;have mf3:=hS.frozen 3;simp at k0 k1 k3 m0 m1 m2 m3;have d0:=gt.cell 0;have d1:=gt.cell 1;have d2:=gt.cell 2;have d3':=gt.cell 3;simp at d0 d1 d2 d3';clear ku Ky k5 gt e1 e2 Kt Gw hZ gL hG hQ hl hS h9 HS he GS k3a kz gn hk;obtain ⟨mu,mo,mJ,hs,KY⟩:=zd5 ki kw kX hE HT;clear ki kw kX hE HT;generalize hgs:(Ly.got gr 0).s.length=gzs at *;generalize hgn:(Ly.got gr 0).c.length=gzn at *;obtain ⟨kA,ks⟩:=zd2 hgs hgn;clear hgs hgn;go_wp2_with fail;refine Zk1 (v:=.tuple #[.agg #[.int .i64 (Ly.at_ y.c 0),.slice (some ⟨gp,0,none⟩) ps.length ps.length,.slice S3 gzs c3,.slice C3 gzn d3],.int .i64 0]) (by simp [results,Tryz.results24,go_sem,d0,d1,d2,d3']) rfl ?_;rw [KY.out];refine ⟨gp,S3,C3,c3,d3,?_,mu.out,?_,mJ.out⟩
    ·show _=Ending.returned (.tuple #[.agg #[_,.slice _ pg.length pg.length,.slice _ (Ly.got gr 0).s.length _,.slice _ (Ly.got gr 0).c.length _],_])
     rw [hs.out,kA.out,ks.out]
    ·show TenO _ _ (.agg #[.slice _ (Ly.got gr 0).s.length _,.slice _ (Ly.got gr 0).c.length _]) _
     rw [kA.out,ks.out];exact mo.out
   ·obtain ⟨m,rfl⟩:∃m,k=m+1:=⟨k-1,by omega⟩
    obtain rfl:z=(m:Int):=by omega
    clear kz ml;have HM:m<(Nt.sorted n.nodes).length:=by rw [HD.out];omega
    have GU:=KQ.out.trans h9;have HS:=gc.out.trans h9;obtain ⟨bo,oo,rfl,-,HQ⟩:=(HO.out.below GU (lrZ _)) m HM;have h8:1<=(Nt.sorted n.nodes)[m]/\(Nt.sorted n.nodes)[m]<=n.nodes.length:=Kn.order_rng (Nt.insF n.nodes) n.nodes.length _ (gmZ HM);have kL:(Nt.sorted n.nodes).getD m 0=(Nt.sorted n.nodes)[m]:=by rw [gdZ,geZ HM];rfl
    rw [kL] at HQ;have kg:Nt.sorted n.nodes=(Nt.sorted n.nodes).take m++(Nt.sorted n.nodes)[m]::(Nt.sorted n.nodes).drop (m+1):=by rw [←Zd HM,Zn]
    obtain ⟨r0,rx,rpp,-,-,rb2,rpl,rcnt,rpart,rright⟩:=Pn.back_next GF.out kg he;rw [←Zd HM] at rb2
    have hH:Pn.back n ps vals=Pn.bwd n ps vals (Pn.addN gr (Nt.node n.nodes (Nt.sorted n.nodes)[m]).ins (Pn.bk n ps vals gr (Nt.sorted n.nodes)[m]).1.x (Nt.node n.nodes (Nt.sorted n.nodes)[m]).ins.length) (splice pg (Pn.fr n (Nt.sorted n.nodes)[m]) (Pn.bk n ps vals gr (Nt.sorted n.nodes)[m]).1.p) ((Nt.sorted n.nodes).take m).reverse:=by
     rw [HT,Zb HM,List.reverse_append,List.reverse_singleton,List.singleton_append,Pn.bwd]
    have hc:=Pn.part_at GF.out.pm h8.1 h8.2;have G7:=he.len;have hE:=he.plen;clear kg kL HT;obtain ⟨j,hj⟩:∃j:Nat,(Nt.sorted n.nodes)[m]=(j:Int)+1:=⟨((Nt.sorted n.nodes)[m]-1).toNat,by omega⟩
    rw [hj] at h8 HQ r0 rx rpp rb2 rpl rcnt rpart rright hH hc;have gk:j<n.nodes.length:=by omega
    clear hj;obtain ⟨b,off,S,sc,J,ic,Q,qc,rfl,GR,m9,mV,mB⟩:=HR.out.2.at_ gk;have gq:=Nt.node_at gk;have HZ:=gv.out.2.2 _ (gmZ gk);have gV:=(GX.out _ (gmZ gk)).2;have kB:Pn.fr n ((j:Int)+1)=Pn.from_ n.nodes j:=by unfold Pn.fr;rw [show ((j:Int)+1).toNat-1=j by omega]
    have G5:Pn.part n ((j:Int)+1)=((Pn.from_ n.nodes j:Int),(Pn.from_ n.nodes (j+1):Int)):=by
     unfold Pn.part;rw [if_neg oZ,show ((j:Int)+1).toNat=j+1 by omega]
     rfl
    have gZ:Pn.bk n ps vals gr ((j:Int)+1)=Ly.back n.nodes[j].op ((ps.drop (Pn.from_ n.nodes j)).take n.nodes[j].p.length) (Pn.pickT vals n.nodes[j].ins) (Ly.got gr (j+1)):=by
     unfold Pn.bk Pn.parts;rw [gq,show ((j:Int)+1).toNat-1=j by omega,show ((j:Int)+1).toNat=j+1 by omega]
    have gA:Pn.parts n ps ((j:Int)+1)=(ps.drop (Pn.from_ n.nodes j)).take n.nodes[j].p.length:=by
     unfold Pn.parts;rw [gq,show ((j:Int)+1).toNat-1=j by omega]
    have kQ:=Pn.from_succ gk;rw [kQ] at G5;rw [gA,gq] at rpl rcnt;rw [gq] at rx rpp rb2 rpart rright hH hc;rw [kB] at rb2 hH hc;clear gA gq kB kQ;generalize Pn.bk n ps vals gr ((j:Int)+1)=R at *;generalize n.nodes[j]=v at *;generalize Pn.from_ n.nodes j=fr at *;have K3:=GR.below HS;obtain ⟨⟨y0,y1,y2,y3,y4,y5,y6,y7,y8,y9⟩,kJ,Kq,Kg⟩:=K3;have a0:=(h9.blk Gq.out).cell 0;have a1:=(h9.blk Gq.out).cell 1;simp at a0 a1;have g1:(m:Int)<(n.nodes.length:Int):=by omega
    have g2:(j:Int)<(n.nodes.length:Int):=by omega
    have g3:IntKind.i64.wrap ((j:Int)+1-1)=(j:Int):=by rw [show (j:Int)+1-1=(j:Int) by omega];exact Zc1 _ oZ
    have g4:(j:Int)+1-1=(j:Int):=by omega
    have g5:IntKind.i64.wrap (j:Int)=(j:Int):=Zc1 _ oZ;have gN:=(Later.refl wr).alloc (.cells #[.int .i64 v.op.kind,.int .i64 v.op.k,.int .i64 v.op.width,.int .i64 v.op.step,.int .i64 v.op.side,.int .i64 v.op.frm,.int .i64 v.op.to,.slice S v.op.s.length sc,.slice J v.ins.length ic,.slice Q v.p.length qc] 127);have ht:=Blk.new wr 127 #[.int .i64 v.op.kind,.int .i64 v.op.k,.int .i64 v.op.width,.int .i64 v.op.step,.int .i64 v.op.side,.int .i64 v.op.frm,.int .i64 v.op.to,.slice S v.op.s.length sc,.slice J v.ins.length ic,.slice Q v.p.length qc];obtain ⟨HG,Ko,HK,HF,HL,mA,mW,mT,mN⟩:=zd9 hG gL hQ hZ hl h9 he GU HS;obtain ⟨GC,mi,Hv,Gu,GQ,gg,Hp,h0,kc⟩:=zd9 r0 rx rpp rb2 rpl rcnt rpart rright hH;obtain ⟨hA,kx,hs,KW,ka,gE,mz,GZ,mG⟩:=zd9 hc G7 hE GR HZ gV G5 gZ kJ;obtain ⟨mr,mU,Go,gX⟩:=zd4 Kq Kg ht gN;clear hG gL hQ hZ hl h9 he GU HS r0 rx rpp rb2 rpl rcnt rpart rright hH hc G7 hE GR HZ gV G5 gZ kJ Kq Kg ht gN;clear h8;go_upto_region 20 with fail;generalize hwb:wr.alloc (.cells #[.int .i64 v.op.kind,.int .i64 v.op.k,.int .i64 v.op.width,.int .i64 v.op.step,.int .i64 v.op.side,.int .i64 v.op.frm,.int .i64 v.op.to,.slice S v.op.s.length sc,.slice J v.ins.length ic,.slice Q v.p.length qc] 127)=wb at *;have gY:=mA.out.trans gX.out;have a0b:=(gY.blk Gq.out).cell 0;have a1b:=(gY.blk Gq.out).cell 1;simp at a0b a1b;have kF:=HR.out.below (gc.out.trans gY) (lrZ _);clear hwb a0 a1 y0 y1 y2 y3 y4 y5 y6 y7 y8 y9 g1 g3 g4 g5 HQ;obtain ⟨Kf,mv⟩:=zd2 kF gY;clear kF gY;go_wp2_with fail;refine (qd4 A (some ⟨b,off,none⟩) c d n ((j:Int)+1) wb gv.out Kf.out hd oZ oZ).mono ?_;rintro e wp ⟨rfl,KG⟩;rw [mz.out];have H7:Later wb wp:=KG;have hY:=gX.out.trans H7;have Gi:=mv.out.trans H7;have Gr:=gc.out.trans Gi;have KT:=Gf.out.trans Gi;have ha:=H7.blk Go.out;have Hf:=hY.blk HG.out;have Gv:=Ko.out.later hY
    have Hx:=hY.blk HK.out;have gb:=HF.out.later hY;have Hw:=hY.blk HL.out;have K9:=mt.out.later KT;have HJ:=GH.out
    have gf:∀i∈v.ins,0<=i/\i<vals.length:=λi hi=>by
     have:=gE.out i hi;rw [HJ];omega
    obtain ⟨vo1,vo2,vo3,vo4,-,-⟩:=ka.out;have hB:=λ(W:Zp1) (h:Later wp W)=>qd5 (some ⟨G,0,none⟩) J (n.nodes.length+1) ic vals v.ins W (K9.later h) oZ (mr.out.below (hY.trans h) (lrZ _)) vo3 gf
    rw [HJ] at hB;have g9:(Pn.pickT vals v.ins).length=v.ins.length:=by simp [Pn.pickT]
    have kd:j+1<gr.length:=by rw [kx.out];omega
    obtain ⟨Sg,sgc,Cg,cgd,e1,e2,G9⟩:=Gv.2 (j+1) kd;rw [←qam kd] at e1 e2 G9;have z0:wp.cell? ⟨w4.heap.size,(j+1)*2,none⟩=some (.slice Sg (Ly.got gr (j+1)).s.length sgc):=by rw [Hf.cell,Zk];exact e1
    have z1:wp.cell? ⟨w4.heap.size,(j+1)*2+1,none⟩=some (.slice Cg (Ly.got gr (j+1)).c.length cgd):=by rw [Hf.cell,Zk];exact e2
    have he:=λ(W:Zp1) (h:Later wp W) (PP KK:Option Addr) (pc:Nat) (hPP:Tns W PP ((ps.drop fr).take v.p.length)) (hK:Tns W KK (Pn.pickT vals v.ins))=>op_back v.op S PP KK Sg Cg sc pc (Pn.pickT vals v.ins).length sgc cgd ((ps.drop fr).take v.p.length) (Pn.pickT vals v.ins) (Ly.got gr (j+1)) W vo2 (mG.out.below (hY.trans h) (lrZ _)) (vo1 _ sZ) hPP hK (by rw [g9];exact vo3) (lrZ _) (by rw [g9];omega) (G9.later h).ten gg.out
    rw [←GZ.out,GQ.out] at he;clear e1 e2 G9;generalize (Ly.got gr (j+1)).s.length=gzs at *;generalize (Ly.got gr (j+1)).c.length=gzn at *;have x0:=ha.cell 0;have x1:=ha.cell 1;have x2:=ha.cell 2;have x3:=ha.cell 3;have x4:=ha.cell 4;have x5:=ha.cell 5;have x6:=ha.cell 6;have x7:=ha.cell 7;have x8:=ha.cell 8;simp at x0 x1 x2 x3 x4 x5 x6 x7 x8;have mf:=Gr.size;have K7:w4.heap.size<wp.heap.size:=Hf.lt;have m7:wr.heap.size<wp.heap.size:=ha.lt;have K1:rb<wp.heap.size:=Hw.lt;have mF:gp<wp.heap.size:=Hx.lt;obtain ⟨PP,hPP⟩:∃PP,(if cp=fr then P else P.map λa=>a.add (fr*2))=PP:=⟨_,rfl⟩
    have hc:=hA.out;have g7:0<=(j:Int)+1:=by omega
    have g6:(j:Int)+1<(n.nodes.length:Int)+1:=by omega
    have kj:∀W,Tns W P ps->Tns W PP ((ps.drop fr).take v.p.length):=λW h=>by
     have:=qd3 (fr:=fr) (tl:=fr+v.p.length) h kP k6.out oZ hc;rw [hPP,Nat.add_sub_cancel_left] at this;exact this
    have gd:∀(ρ:Operand->Value) (W:Zp1) (o:Oper) (x lo hi:Operand),o.op=.slice 27 x (some lo) (some hi) none->ρ x=.slice P ps.length cp->ρ lo=.int .i64 (fr:Int)->ρ hi=.int .i64 ((fr:Int)+(v.p.length:Int))->(execOp ρ o).run Tryz.prog W=.ok (.value (.slice PP v.p.length (cp-fr))) W:=λρ W o x lo hi h1 h2 h3 h4=>by
     rw [←hPP];exact qaW h1 Tryz.underlying27 krZ h2 h3 h4 oZ
    have gB:=λ(W:Zp1) (h:Later wp W) (V:Zp1) (Kp:Nat) (hK:Tns V (some ⟨Kp,0,none⟩) (Pn.pickT vals v.ins)) (hV:Later V W) (pc:Nat)=>he W h PP (some ⟨Kp,0,none⟩) pc (kj W (HP.out.later (Gr.trans h))) (hK.later hV)
    clear KG gf a0b a1b he hPP kj kd HJ;obtain ⟨Hi,gT,Ki,gh,H6,ge,m8,mn,hv⟩:=zd9 ha Hf Gv Hx gb Hw hY Gr hB;obtain ⟨HE,HD,Ma,mX,mC,hA⟩:=zd6 gB gd g9 H7 Gi hc;clear ha Hf Gv Hx gb Hw hY Gr hB gB gd g9 H7 Gi hc;clear Go HG Ko HK HF HL;go_upto_region 21 with fail
    go_cut [19,20] (BkCut wp R)
    case first=>
     go_wp2_with fail;have KF:=zI (show ∀Xw,Later wp Xw->Xw.cell? ⟨wr.heap.size,0,none⟩=some (.int .i64 v.op.kind)/\Xw.cell? ⟨wr.heap.size,1,none⟩=some (.int .i64 v.op.k)/\Xw.cell? ⟨wr.heap.size,2,none⟩=some (.int .i64 v.op.width)/\Xw.cell? ⟨wr.heap.size,3,none⟩=some (.int .i64 v.op.step)/\Xw.cell? ⟨wr.heap.size,4,none⟩=some (.int .i64 v.op.side)/\Xw.cell? ⟨wr.heap.size,5,none⟩=some (.int .i64 v.op.frm)/\Xw.cell? ⟨wr.heap.size,6,none⟩=some (.int .i64 v.op.to)/\Xw.cell? ⟨wr.heap.size,7,none⟩=some (.slice S v.op.s.length sc)/\Xw.cell? ⟨wr.heap.size,8,none⟩=some (.slice J v.ins.length ic)/\Xw.cell? ⟨w4.heap.size,(j+1)*2,none⟩=some (.slice Sg gzs sgc)/\Xw.cell? ⟨w4.heap.size,(j+1)*2+1,none⟩=some (.slice Cg gzn cgd) from λXw h=>⟨h.cell x0,h.cell x1,h.cell x2,h.cell x3,h.cell x4,h.cell x5,h.cell x6,h.cell x7,h.cell x8,h.cell z0,h.cell z1⟩);refine Zm1 ?_;refine Zl1 (S:=λXw=>Xw.cell? ⟨wr.heap.size,0,none⟩=some (.int .i64 v.op.kind)/\Xw.cell? ⟨wr.heap.size,1,none⟩=some (.int .i64 v.op.k)/\Xw.cell? ⟨wr.heap.size,2,none⟩=some (.int .i64 v.op.width)/\Xw.cell? ⟨wr.heap.size,3,none⟩=some (.int .i64 v.op.step)/\Xw.cell? ⟨wr.heap.size,4,none⟩=some (.int .i64 v.op.side)/\Xw.cell? ⟨wr.heap.size,5,none⟩=some (.int .i64 v.op.frm)/\Xw.cell? ⟨wr.heap.size,6,none⟩=some (.int .i64 v.op.to)/\Xw.cell? ⟨wr.heap.size,7,none⟩=some (.slice S v.op.s.length sc)/\Xw.cell? ⟨wr.heap.size,8,none⟩=some (.slice J v.ins.length ic)/\Xw.cell? ⟨w4.heap.size,(j+1)*2,none⟩=some (.slice Sg gzs sgc)/\Xw.cell? ⟨w4.heap.size,(j+1)*2+1,none⟩=some (.slice Cg gzn cgd)) krZ (KF.out _ Lau) (λhHeld=>?_);refine tk 0 ?_;refine tk 1 ?_;refine tk 2 ?_;refine tk 3 ?_;refine tk 4 ?_;refine tk 5 ?_ (hy:=λW _=>HD.out _ _ _ _ _ _ rfl rfl rfl rfl)
     try simp only [ga,gs,gz,Act.put,sa,sz,ss]
     refine tk 6 ?_;refine tk 7 ?_;refine tk 8 ?_;refine tk 10 ?_;refine tk 11 ?_;refine tk 12 ?_;refine tk 13 ?_;refine Zo1 (rs:=[9,18]) krZ sZ ?_;refine Zf1 (o:=_) rfl (λK hK=>?_) (Zf1 (o:=_) rfl (λK hK=>?_) (Zg1))
     ·simp only [ga,gs,gz]
      go_simp
      go_at_call 73;(with_reducible refine (hv.out _ (Lau:Later wp _)).mono ?_);rintro e wk ⟨Kp,rfl,-,gK,he⟩
      have Gm:=zI gK;clear gK;have H1:Later wp wk:=(Lau:Later wp wk)
      have Gc:=zI H1;clear H1
      try go_wp2_with fail
      refine hK.out _ _ (KF.out _ Lau) (λhHeld=>?_);clear hK K
      try simp only [ga,gs,gz,Act.put,sa,sz,ss]
      refine Zo1 (rs:=[14,18]) krZ sZ ?_;refine Zf1 (o:=_) rfl (λK hK=>?_) (Zf1 (o:=_) rfl (λK hK=>?_) (Zg1))
      ·simp only [ga,gs,gz]
       go_simp
       go_at_call 11;(with_reducible refine (HE.out _ (Lau:Later wp _) wk Kp Gm.out (Lau:Later wk _) _).mono ?_);rintro e wg ⟨⟨hb,-⟩|⟨-,PA,XA,rfl,hF,hw⟩,Hk⟩
       exact absurd GC.out hb;obtain ⟨hN,hJ⟩:=zd2 hw hF;clear hw hF;have Gb:=Gc.out.size
       try go_wp2_with fail
       refine hK.out _ _ (KF.out _ Lau) (λhHeld=>?_);clear hK K
       try simp only [ga,gs,gz,Act.put,sa,sz,ss]
       refine tk 15 ?_;refine tk 16 ?_;refine tk 17 ?_;refine rd 18 λK hK=>?_
       simp only [ga,gs,gz]
       go_simp
       refine hK.out _ _ (KF.out _ Lau) (λhHeld=>?_);clear hK K
       try simp only [ga,gs,gz,Act.put,sa,sz,ss]
       refine rd 19 λK hK=>?_
       simp only [ga,gs,gz]
       go_simp
       refine hK.out _ _ ?_ (λhHeld=>?_)
       ·(try dsimp only);(refine ⟨?_,?_,?_,?_,?_,?_,?_,?_,?_,?_,?_⟩<;>(repeat (refine qa0 ?_ (by first|omega|(simp;done)|(simp;omega))))<;>(refine Later.cell (Lau:Later wp _) ?_)<;>assumption)
       clear hK K
       try simp only [ga,gs,gz,Act.put,sa,sz,ss]
       refine tk 20 ?_;clear KF;refine Zn1 krZ ?_ _;refine Zd1 ?_;have G4:=Hk.size;go_wp2_with fail;have hx:Later wp wg:=(Lau:Later wp wg)
       go_meet
       exact ⟨PA,XA,wg.heap.size,rfl,rfl,Blk.new wg _ _,(hJ.out.base (by first|omega|(simp;omega))).later ((Later.refl wg).alloc _),(hN.out.base (by first|omega|(simp;omega))).later ((Later.refl wg).alloc _),(by first|omega|(simp at G4;omega)),hx.alloc _⟩
      ·simp only [ga,gs,gz]
       go_simp
       refine hK.out _ _ (KF.out _ Lau) (λhHeld=>?_);clear hK K
       try simp only [ga,gs,gz,Act.put,sa,sz,ss]
       refine rd 14 λK hK=>?_
       simp only [ga,gs,gz]
       go_simp
       go_at_call 11;(with_reducible refine (HE.out _ (Lau:Later wp _) wk Kp Gm.out (Lau:Later wk _) _).mono ?_);rintro e wg ⟨⟨hb,-⟩|⟨-,PA,XA,rfl,hF,hw⟩,Hk⟩
       exact absurd GC.out hb;obtain ⟨hN,hJ⟩:=zd2 hw hF;clear hw hF;have Gb:=Gc.out.size;have hu:=(show Later (wk.alloc (.cells #[.slice none 0 0,.slice none 0 0] 38)) wg from Hk).blk (Blk.new wk _ _);have b0':=hu.cell 0;have b1':=hu.cell 1;have bf0:=hu.frozen 0;have bf1:=hu.frozen 1;simp at b0' b1';have Hj:=zI hu;clear hu
       try go_wp2_with fail
       refine hK.out _ _ (KF.out _ Lau) (λhHeld=>?_);clear hK K
       try simp only [ga,gs,gz,Act.put,sa,sz,ss]
       refine tk 15 ?_;refine tk 16 ?_;refine tk 17 ?_;refine rd 19 λK hK=>?_
       simp only [ga,gs,gz]
       go_simp
       refine hK.out _ _ ?_ (λhHeld=>?_)
       ·(try dsimp only);(refine ⟨?_,?_,?_,?_,?_,?_,?_,?_,?_,?_,?_⟩<;>(repeat (refine qa0 ?_ (by first|omega|(simp;done)|(simp;omega))))<;>(refine Later.cell (Lau:Later wp _) ?_)<;>assumption)
       clear hK K
       try simp only [ga,gs,gz,Act.put,sa,sz,ss]
       refine tk 20 ?_;clear KF;refine Zn1 krZ ?_ _;refine Zd1 ?_;have Hr:=he.size
       (try simp at Hr)
       go_wp2_with fail;have hx:Later wp wg:=(Lau:Later wp wg)
       have Gt:=(Hj.out.set_ 0 (.slice PA R.1.p.length R.1.p.length)).set_ 1 (.slice XA R.1.x.length R.1.x.length)
       go_meet
       exact ⟨PA,XA,wk.heap.size,rfl,rfl,(by simpa using Gt),(hJ.out.base (by first|omega|(simp;omega))).box Hj.out (λa e=>by obtain ⟨b',h1,h2,-,-⟩:=hJ.out.1 a e;rw [h1];show b'≠_;(first|omega|((try simp at h2);omega))) _ _,(hN.out.base (by first|omega|(simp;omega))).box Hj.out (λa e=>by obtain ⟨b',h1,h2,-,-⟩:=hN.out.1 a e;rw [h1];show b'≠_;(first|omega|((try simp at h2);omega))) _ _,(by first|omega|exact Gb|exact lrZ _),(hx.set (p:=⟨wk.heap.size,0,none⟩) (by first|omega|(simp;done)|(simp;omega)) _).set (p:=⟨wk.heap.size,1,none⟩) (by first|omega|(simp;done)|(simp;omega)) _⟩
     ·simp only [ga,gs,gz]
      go_simp
      refine hK.out _ _ (KF.out _ Lau) (λhHeld=>?_);clear hK K
      try simp only [ga,gs,gz,Act.put,sa,sz,ss]
      refine rd 9 λK hK=>?_
      simp only [ga,gs,gz]
      go_simp
      go_at_call 73;(with_reducible refine (hv.out _ (Lau:Later wp _)).mono ?_);rintro e wk ⟨Kp,rfl,-,gK,he⟩
      have Gm:=zI gK;clear gK;have H1:Later wp wk:=(Lau:Later wp wk)
      have Gc:=zI H1;clear H1
      try go_wp2_with fail
      refine hK.out _ _ (KF.out _ Lau) (λhHeld=>?_);clear hK K
      try simp only [ga,gs,gz,Act.put,sa,sz,ss]
      refine rd 14 λK hK=>?_
      simp only [ga,gs,gz]
      go_simp
      go_at_call 11;(with_reducible refine (HE.out _ (Lau:Later wp _) wk Kp Gm.out (Lau:Later wk _) _).mono ?_);rintro e wg ⟨⟨hb,-⟩|⟨-,PA,XA,rfl,hF,hw⟩,Hk⟩
      exact absurd GC.out hb;obtain ⟨hN,hJ⟩:=zd2 hw hF;clear hw hF;have Gb:=Gc.out.size;have hu:=(show Later wk wg from Hk).blk ((show Later _ wk from he).blk ((Blk.new wp 38 #[.slice none 0 0,.slice none 0 0]).drew));have b0':=hu.cell 0;have b1':=hu.cell 1;have bf0:=hu.frozen 0;have bf1:=hu.frozen 1;simp at b0' b1';have Hj:=zI hu;clear hu
      try go_wp2_with fail
      refine hK.out _ _ (KF.out _ Lau) (λhHeld=>?_);clear hK K
      try simp only [ga,gs,gz,Act.put,sa,sz,ss]
      refine tk 15 ?_;refine tk 16 ?_;refine tk 17 ?_;refine rd 19 λK hK=>?_
      simp only [ga,gs,gz]
      go_simp
      refine hK.out _ _ ?_ (λhHeld=>?_)
      ·(try dsimp only);(refine ⟨?_,?_,?_,?_,?_,?_,?_,?_,?_,?_,?_⟩<;>(repeat (refine qa0 ?_ (by first|omega|(simp;done)|(simp;omega))))<;>(refine Later.cell (Lau:Later wp _) ?_)<;>assumption)
      clear hK K
      try simp only [ga,gs,gz,Act.put,sa,sz,ss]
      refine tk 20 ?_;clear KF;refine Zn1 krZ ?_ _;refine Zd1 ?_;have Hr:=he.size
      (try simp at Hr)
      go_wp2_with fail;have hx:Later wp wg:=(Lau:Later wp wg)
      have Gt:=(Hj.out.set_ 0 (.slice PA R.1.p.length R.1.p.length)).set_ 1 (.slice XA R.1.x.length R.1.x.length)
      go_meet
      exact ⟨PA,XA,wp.heap.size,rfl,rfl,(by simpa using Gt),(hJ.out.base (by first|omega|(simp;omega))).box Hj.out (λa e=>by obtain ⟨b',h1,h2,-,-⟩:=hJ.out.1 a e;rw [h1];show b'≠_;(first|omega|((try simp at h2);omega))) _ _,(hN.out.base (by first|omega|(simp;omega))).box Hj.out (λa e=>by obtain ⟨b',h1,h2,-,-⟩:=hN.out.1 a e;rw [h1];show b'≠_;(first|omega|((try simp at h2);omega))) _ _,(by first|omega|exact Gb|exact lrZ _),(hx.set (p:=⟨wp.heap.size,0,none⟩) (by first|omega|(simp;done)|(simp;omega)) _).set (p:=⟨wp.heap.size,1,none⟩) (by first|omega|(simp;done)|(simp;omega)) _⟩
    case rest=>
     obtain ⟨PA,XA,tb,rfl,rfl,kb,hF,hw,mQ,ho⟩:=hcut;have Kj:=ho.blk gT.out;have KE:=Ki.out.later ho;have hU:=ho.blk gh.out;have gO:=H6.out.later ho;have h7:=ho.blk ge.out;have kV:=mC.out.trans ho;have kZ:=mn.out.trans ho;have hr:=ho.blk Hi.out;clear x0 x1 x2 x3 x4 x5 x6 x7 x8 z0 z1 g6 g7;have t0:=kb.cell 0;have r1:=h7.cell 1;simp at t0 r1;obtain ⟨i0,kG,-,kv,-⟩:=info_parts qb2
     have nrg:rb≠gp:=by
      rintro rfl;have:=h7.symm.trans hU;simp at this
     have ntg:tb≠gp:=by omega
     have ngg:w4.heap.size≠gp:=by omega
     have nbg:wr.heap.size≠gp:=by
      rintro hh;rw [hh] at hr;have:=hr.symm.trans hU;simp at this
     obtain ⟨PQ,hPQ⟩:∃PQ,(if ps.length=fr then some ⟨gp,0,none⟩ else (some (⟨gp,0,none⟩:Addr)).map λa=>a.add (fr*2))=PQ:=⟨_,rfl⟩
     have gF:∀(ρ:Operand->Value) (W:Zp1) (o:Oper) (x lo hi:Operand),o.op=.slice 27 x (some lo) (some hi) none->ρ x=.slice (some ⟨gp,0,none⟩) ps.length ps.length->ρ lo=.int .i64 (fr:Int)->ρ hi=.int .i64 ((fr:Int)+(v.p.length:Int))->(execOp ρ o).run Tryz.prog W=.ok (.value (.slice PQ v.p.length (ps.length-fr))) W:=λρ W o x lo hi h1 h2 h3 h4=>by
      rw [←hPQ];exact qaW h1 Tryz.underlying27 krZ h2 h3 h4 hA.out
     clear g2;obtain ⟨Kz,Kc,Hu,Hm,Hs,kH,mj,Hd,GN⟩:=zd9 Kj KE hU gO h7 kV kZ hr kb;obtain ⟨hJ,hN,HW,KA,kW,mm⟩:=zd6 hF hw gF kG kv hPQ;clear Kj KE hU gO h7 kV kZ hr kb hF hw gF kG kv hPQ;clear gT Ki gh H6 ge Hi hv HE HD Kf;go_upto_region 24 with fail;have KF:=zI (show ∀Xw,Later wc Xw->Xw.cell? ⟨rb,1,none⟩=some (.slice (some ⟨gp,0,none⟩) ps.length ps.length)/\Xw.cell? ⟨tb,0,none⟩=some (.slice PA R.1.p.length R.1.p.length) from λXw h=>⟨h.cell r1,h.cell t0⟩);refine Zm1 ?_;refine Zl1 (S:=λXw=>Xw.cell? ⟨rb,1,none⟩=some (.slice (some ⟨gp,0,none⟩) ps.length ps.length)/\Xw.cell? ⟨tb,0,none⟩=some (.slice PA R.1.p.length R.1.p.length)) krZ (KF.out _ Lau) (λhHeld=>?_);refine tk 0 ?_;refine tk 1 ?_;refine tk 2 ?_;refine tk 3 ?_;refine tk 4 ?_ (hy:=λW _=>HW.out _ _ _ _ _ _ rfl rfl rfl rfl)
     try simp only [ga,gs,gz,Act.put,sa,sz,ss]
     refine tk 5 ?_;refine tk 6 ?_;refine rd 7 λK hK=>?_
     refine qcQ (by rfl) _ _ 27 (by rfl) 30 i0 Tryz.underlying27 KA.out kW.out (w.heap.size+3) gp fr ps.length v.p.length _ PA _ pg R.1.p (by rw [mm.out];rfl) (by rfl) us _ Hu.out (Hm.out.later (Later.refl wc).drew) ((hJ.out.later (Later.refl wc).drew).base oZ) hs.out Hv.out (by rw [Hv.out,hs.out];exact hA.out) ?_;intro wd us2 Gh gG h6;have hM:Else gp wc wd:=⟨h6.1,h6.2.1,(Ze1 gp wc).drew.trans h6.2.2⟩
     clear h6;have r1:=(hM.blk nrg Hs.out).cell 1;have t0:=(hM.blk ntg GN.out).cell 0;simp at r1 t0;refine hK.out _ _ (by first|exact ⟨r1,t0⟩|exact KF.out _ Lau) (λhHeld=>?_);clear hK K
     try simp only [ga,gs,gz,Act.put,sa,sz,ss]
     clear KF;refine Zn1 krZ ?_ _;refine Zd1 ?_;have Gy:=Hm.out.noint Hu.out;have kh:=Kc.out.else_ hM Gy (λj=>Gh.frozen j);have kC:=hN.out.else_ hM Gy (λj=>Gh.frozen j) oZ;have gu:=hM.blk ngg Kz.out;have kk:=hM.blk nrg Hs.out;have kp:=hM.blk ntg GN.out;have kK:=hM.later kH.out oZ;have x8:=(hM.blk nbg Hd.out).cell 8;simp at x8;have kr:(splice pg fr R.1.p).length=ps.length:=by rw [Pn.splice_len (by rw [Hv.out,hs.out];exact hA.out)];exact hs.out
     clear hHeld r1 t0 Gy hM;obtain ⟨kR,kY,H2,kU,kM,k7,Ke,gS,mR⟩:=zd9 kh kC gu kk kp kK Gh gG kr;clear kh kC gu kk kp kK Gh gG kr;clear Kz Kc Hu Hm Hs kH Hd GN hJ hN HW KA kW mj;generalize splice pg fr R.1.p=pg2 at *;go_wp2_with fail;clear x8;obtain ⟨wo,rfl⟩:∃wo:Zp1,wo=wr:=⟨wr,rfl⟩
     go_loopw [138] (λi wx=>∃(q:Nat) (vq:List Value),q<=v.ins.length/\i=.int .i64 (q:Int)/\Blk wx w4.heap.size 30 vq.toArray/\RowO (w.heap.size+3) wx vq (Pn.addN gr v.ins R.1.x q)/\Blk wx gp 30 us2.toArray/\RowO (w.heap.size+3) wx us2 pg2/\Blk wx rb 66 #[.int .i64 (Ly.at_ y.c 0),.slice (some ⟨gp,0,none⟩) ps.length ps.length,.slice none 0 0,.slice none 0 0]/\Blk wx tb 38 #[.slice PA R.1.p.length R.1.p.length,.slice XA R.1.x.length R.1.x.length]/\TnsO wp.heap.size wx XA R.1.x/\Later w4 wx) (λi _=>v.ins.length-(intOf i).toNat)
     case atStart=>exact ⟨0,vs,Zt _,rfl,H2.out,kR.out,Ke.out,gS.out,kU.out,kM.out,kY.out,k7.out⟩
     case round=>
      obtain ⟨q,vq,hq,rfl,hG,HI,hQ,hZ,hl,H4,HC,HB⟩:=hrel;clear H2 kR Ke gS kU kM kY k7
      by_cases Gn:q<v.ins.length
      ·obtain ⟨-,-,H0,-⟩:=KW.out.below (gc.out.trans HB)
       obtain ⟨bj,oj,rfl,-,cj⟩:=H0 q Gn;have gR:v.ins.getD q 0∈v.ins:=by rw [gdZ,geZ Gn];exact gmZ _
       have kN:=gE.out _ gR;obtain ⟨ei,hei⟩:∃ei:Nat,v.ins.getD q 0=(ei:Int):=⟨(v.ins.getD q 0).toNat,by omega⟩
       rw [hei] at cj kN;have Gk:q<R.1.x.length:=by rw [mi.out];exact Gn
       have Gp:ei<(Pn.addN gr v.ins R.1.x q).length:=by rw [Pn.addN_len,kx.out];omega
       obtain ⟨xb,Sx,sxc,Cx,cxd,Kv,q0,q1,G0⟩:=HC.2 q Gk;rw [←qam Gk] at q0 q1 G0;obtain ⟨xb2,Hl,m5,-,-⟩:=HC.1 _ Kv;injection Hl with Hl
       subst Hl;obtain ⟨Sa,sac,Ca,cad,e1,e2,GM⟩:=HI.2 ei Gp;rw [←qam Gp] at e1 e2 GM;have c0:wr.cell? ⟨w4.heap.size,ei*2,none⟩=some (.slice Sa (Ly.got (Pn.addN gr v.ins R.1.x q) ei).s.length sac):=by rw [hG.cell,Zk];exact e1
       have c1:wr.cell? ⟨w4.heap.size,ei*2+1,none⟩=some (.slice Ca (Ly.got (Pn.addN gr v.ins R.1.x q) ei).c.length cad):=by rw [hG.cell,Zk];exact e2
       have K2:=Ly.right_ok (h0.out q Gn)
       have mL:(Ly.got (Pn.addN gr v.ins R.1.x q) ei).s.length<=4/\(Ly.got (Pn.addN gr v.ins R.1.x q) ei).c.length<=65536:=by
        rcases Hp.out q hq ei with hh|hh
        ·rw [hh];simp [Ly.none_]
        ·exact Ly.right_ok hh.1
       have Hb:Pn.addN gr v.ins R.1.x (q+1)=(Pn.addN gr v.ins R.1.x q).set ei (Pn.add (Ly.got (Pn.addN gr v.ins R.1.x q) ei) (Ly.got R.1.x q)):=by
        rw [Pn.addN,hei,tnZ]
       have gl:=λ(W:Zp1) (h:Later wr W)=>qgk Sa Ca Sx Cx sac cad sxc cxd (Ly.got (Pn.addN gr v.ins R.1.x q) ei) (Ly.got R.1.x q) W (GM.later h).ten (G0.later h).ten oZ oZ oZ oZ
       subst Kv;have t1:=H4.cell 1;simp at t1;have e3:(ei:Int)<(n.nodes.length:Int)+1:=by omega
       have e4:(q:Int)<(R.1.x.length:Int):=by omega
       have e5:(q:Int)<(v.ins.length:Int):=by omega
       clear H0 gR kN e1 e2 GM G0 K2 mL hei;have H5:∀u∈vq,∃A n c,u=Zb1 A n c:=HI.rowT.cell;generalize Pn.add (Ly.got (Pn.addN gr v.ins R.1.x q) ei) (Ly.got R.1.x q)=at2 at *;generalize (Ly.got (Pn.addN gr v.ins R.1.x q) ei).s.length=as1 at *;generalize (Ly.got (Pn.addN gr v.ins R.1.x q) ei).c.length=as2 at *;generalize (Ly.got R.1.x q).s.length=as3 at *;generalize (Ly.got R.1.x q).c.length=as4 at *;have kE:=HB;obtain ⟨HG,G6,HK,HF,HL,kn,Kr,Gz,HU⟩:=zd9 hG HI hQ hZ hl H4 HC HB Hb;obtain ⟨G2,Ht,mK,mY⟩:=zd4 gl H5 Gp Gk;clear hG HI hQ hZ hl H4 HC HB Hb gl H5 Gp Gk;go_upto_region 28 with fail;clear cj;have KF:=zI (show ∀Xw,Later wr Xw->Xw.cell? ⟨tb,1,none⟩=some (.slice (some ⟨xb,0,none⟩) R.1.x.length R.1.x.length)/\Xw.cell? ⟨xb,q*2,none⟩=some (.slice Sx as3 sxc)/\Xw.cell? ⟨xb,q*2+1,none⟩=some (.slice Cx as4 cxd) from λXw h=>⟨h.cell t1,h.cell q0,h.cell q1⟩);refine Zm1 ?_;refine Zl1 (S:=λXw=>Xw.cell? ⟨tb,1,none⟩=some (.slice (some ⟨xb,0,none⟩) R.1.x.length R.1.x.length)/\Xw.cell? ⟨xb,q*2,none⟩=some (.slice Sx as3 sxc)/\Xw.cell? ⟨xb,q*2+1,none⟩=some (.slice Cx as4 cxd)) krZ (KF.out _ Lau) (λhHeld=>?_);refine tk 0 ?_;refine tk 1 ?_;refine tk 2 ?_;refine tk 3 ?_;refine tk 4 ?_;refine tk 6 ?_;refine tk 7 ?_;refine tk 8 ?_;refine tk 9 ?_;refine tk 10 ?_;refine rd 5 λK hK=>?_
       simp only [ga,gs,gz]
       go_simp
       refine hK.out _ _ (KF.out _ Lau) (λhHeld=>?_);clear hK K
       try simp only [ga,gs,gz,Act.put,sa,sz,ss]
       refine rd 11 λK hK=>?_
       simp only [ga,gs,gz]
       go_simp
       go_at_call 32;(with_reducible refine (G2.out _ (Lau:Later wr _)).mono ?_);rintro e wg ⟨vv,rfl,⟨S3,c3,C3,d3,rfl,Kh,kI,KD⟩,Hk⟩
       have hx:Later wr wg:=(Lau:Later wr wg)
       have c0':=hx.cell c0;have c1':=hx.cell c1;have hW:=hx.blk HG.out;have bf0:=hW.frozen (ei*2);have bf1:=hW.frozen (ei*2+1);obtain ⟨h5,Hn,mc,ma,ms⟩:=zd5 hW hx Kh kI KD;clear hW hx Kh kI KD
       try go_wp2_with fail
       refine hK.out _ _ (KF.out _ Lau) (λhHeld=>?_);clear hK K
       try simp only [ga,gs,gz,Act.put,sa,sz,ss]
       refine tk 12 ?_;refine rd 13 λK hK=>?_
       simp only [ga,gs,gz]
       go_simp
       refine hK.out _ _ ?_ (λhHeld=>?_)
       ·(try dsimp only);(refine ⟨?_,?_,?_⟩<;>(repeat (refine qa0 ?_ (by first|omega|(simp;done)|(simp;omega))))<;>(refine Later.cell (Lau:Later wr _) ?_)<;>assumption)
       clear hK K
       try simp only [ga,gs,gz,Act.put,sa,sz,ss]
       clear KF;refine Zn1 krZ ?_ _;refine Zd1 ?_;have Kd:TenO (w.heap.size+3) wg (.agg #[.slice S3 at2.s.length c3,.slice C3 at2.c.length d3]) at2:=TenO.base (B:=wr.heap.size) ⟨S3,c3,C3,d3,rfl,mc.out,ma.out,ms.out⟩ (by have:=kE.size;omega);have gW:=(G6.out.later Hn.out).set (k:=ei) mK.out Kd;have HA:=gW.off (i:=ei*2) (k:=ei*2+1) h5.out Ht.out (.slice S3 at2.s.length c3) (.slice C3 at2.c.length d3);rw [←HU.out] at HA;have GK:=(h5.out.set_ (ei*2) (.slice S3 at2.s.length c3)).set_ (ei*2+1) (.slice C3 at2.c.length d3);rw [List.setIfInBounds_toArray,List.setIfInBounds_toArray] at GK;have n1:gp≠w4.heap.size:=by omega
       have n2:rb≠w4.heap.size:=by omega
       have n4:tb≠w4.heap.size:=by omega
       have gw:=((Hn.out.blk HK.out).far (p:=⟨w4.heap.size,ei*2,none⟩) n1 (.slice S3 at2.s.length c3)).far (p:=⟨w4.heap.size,ei*2+1,none⟩) n1 (.slice C3 at2.c.length d3);have gm:=((Hn.out.blk HL.out).far (p:=⟨w4.heap.size,ei*2,none⟩) n2 (.slice S3 at2.s.length c3)).far (p:=⟨w4.heap.size,ei*2+1,none⟩) n2 (.slice C3 at2.c.length d3);have gU:=((Hn.out.blk kn.out).far (p:=⟨w4.heap.size,ei*2,none⟩) n4 (.slice S3 at2.s.length c3)).far (p:=⟨w4.heap.size,ei*2+1,none⟩) n4 (.slice C3 at2.c.length d3);have H8:=(HF.out.later Hn.out).off (i:=ei*2) (k:=ei*2+1) h5.out Ht.out (.slice S3 at2.s.length c3) (.slice C3 at2.c.length d3);have gy:=(Kr.out.later Hn.out).off (i:=ei*2) (k:=ei*2+1) h5.out Ht.out K7 (.slice S3 at2.s.length c3) (.slice C3 at2.c.length d3);have go:=((Gz.out.trans Hn.out).set (p:=⟨w4.heap.size,ei*2,none⟩) (lrZ _) (.slice S3 at2.s.length c3)).set (p:=⟨w4.heap.size,ei*2+1,none⟩) (lrZ _) (.slice C3 at2.c.length d3);clear hHeld t1 q0 q1 c0 c1 c0' c1' bf0 bf1 Hk Kd gW kE e3;obtain ⟨GG,K4,G8,Gx,GY,G3,G1,GL⟩:=zd8 HA GK gw gm gU H8 gy go;clear HA GK gw gm gU H8 gy go;generalize (wg.setCell ⟨w4.heap.size,ei*2,none⟩ (.slice S3 at2.s.length c3)).setCell ⟨w4.heap.size,ei*2+1,none⟩ (.slice C3 at2.c.length d3)=wh at *;go_wp2_with fail;go_roundw
       case rel=>exact ⟨_,_,.int .i64 ((q+1:Nat):Int),⟨q+1,by omega,rfl,_,K4.out,GG.out,G8.out,G3.out,Gx.out,GY.out,G1.out,GL.out⟩,rfl,rfl,by simp⟩
       case measure=>simp [intOf];omega
      ·obtain rfl:q=v.ins.length:=by omega
       have g8:IntKind.i64.wrap ((m:Int)-1)=(m:Int)-1:=Zc1 _ oZ;obtain ⟨HG,G6,HK,HF,HL,kn,Kr,Gz⟩:=zd8 hG HI hQ hZ hl H4 HC HB;clear hG HI hQ hZ hl H4 HC HB;go_wp2_with fail;go_roundw
       case rel=>exact ⟨(m:Int)-1,m,_,_,_,_,rfl,rfl,by omega,HG.out,G6.out,HK.out,HF.out,HL.out,Gz.out,Gu.out,kc.out⟩
       case measure=>simp [intOf]
def amop:OpD:=⟨5,12884901888,0,0,0,0,0,[]⟩
def am:NetD:=⟨[1],[⟨amop,[0],[]⟩]⟩
def amx:Ten:=⟨[1],[8589934592]⟩
def amg:Ten:=⟨[1],[12884901888]⟩
theorem qgy:Pn.fits am [amx] amx=20:=by decide +kernel
theorem am_ok:am.ok:=by
 refine ⟨by decide,by decide,λv hv=>?_⟩;simp [am] at hv;subst hv;exact ⟨by intro z hz;simp [amop] at hz;omega,by decide,by decide,by decide,by simp,by intro z hz;simp at hz;omega⟩
def RunAm (w:Zp1) (e:Ending) (w':Zp1):Prop:=
 ∃gb S C sc cd,e=.returned (.tuple #[.agg #[.int .i64 25769803776,.slice gb 0 0,.slice S 1 sc,.slice C 1 cd],.int .i64 0])/\TenIn w' S C sc cd amg/\Below w.heap.size w w'
theorem am_fits0:Pn.fits am [] amx=0:=by decide +kernel
theorem am_run:Pn.run am [] amx=⟨25769803776,[],amg⟩:=by kernel_rfl
theorem run_am (A N XS XC:Option Addr) (c d xc xd:Nat) (w:Zp1) (hR:NetR w A N am) (hd:1<=d) (hX:TenIn w XS XC xc xd amx):
  Calls Tryz.prog 24 #[.agg #[.slice A 1 c,.slice N 1 d],.slice none 0 0,.agg #[.slice XS 1 xc,.slice XC 1 xd]] w (RunAm w):=by
 have h:=qe8 A N none XS XC c d 0 xc xd am [] amx w am_ok hR hd (Tns.nil _ _) sZ sZ oZ (λ_=>rfl) hX am_fits0;rw [am_run] at h;exact h.mono λe w' ⟨GB,S,C,sc,cd,he,_,hT,hb⟩=>⟨some ⟨GB,0,none⟩,S,C,sc,cd,he,hT.ten,hb⟩
theorem Blk.intsQ {w:Zp1} {g:Nat} {t:TypeId} (l:List Int) (h:Blk w g t (l.map (Za1 .i64)).toArray):Ints .i64 w (some ⟨g,0,none⟩) l:=Ints.of_row λj hj=>by
 rw [Zw,h.cell];simp [hj]
theorem qgz:Tn.right amx=true:=by decide +kernel
theorem amx_in:Ly.In amx:=by intro z hz;simp [amx] at hz;subst hz;unfold Fx.In;omega
theorem am_bad:Pn.forward am [amx] amx=([],20):=by
 unfold Pn.forward;rw [if_pos (by rw [qgy];decide),qgy]
theorem am_net {W:Zp1} {p r g:Nat} (hp:Blk W p 3 #[.int .i64 1]) (hr:Blk W r 3 #[.int .i64 0])
  (hg:Blk W g 127 #[.int .i64 5,.int .i64 12884901888,.int .i64 0,.int .i64 0,.int .i64 0,.int .i64 0,.int .i64 0,.slice none 0 0,.slice (some ⟨r,0,none⟩) 1 1,.slice none 0 0]):
  NetR W (some ⟨p,0,none⟩) (some ⟨g,0,none⟩) am:=by
 refine ⟨hp.intsQ [1],λj hj=>?_⟩;have ha:j=0:=by simp [am] at hj;omega
 subst ha;exact ⟨g,0,none,0,some ⟨r,0,none⟩,1,none,0,rfl,hg.lt,hg.cell 0,hg.cell 1,hg.cell 2,hg.cell 3,hg.cell 4,hg.cell 5,hg.cell 6,hg.cell 7,hg.cell 8,hg.cell 9,⟨Ints.nil,by simp [am,amop],by omega⟩,⟨hr.intsQ [0],by simp [am],by omega⟩,Shps.nil,by simp [am],by omega⟩
theorem amx_ten {W:Zp1} {g h:Nat} (hg:Blk W g 3 #[.int .i64 1]) (hh:Blk W h 22 #[.int .i64 8589934592]):TenIn W (some ⟨g,0,none⟩) (some ⟨h,0,none⟩) 1 1 amx:=
 ⟨⟨hg.intsQ [1],hh.intsQ [8589934592]⟩,by decide,by decide,by decide,by decide,by decide,by decide,amx_in⟩
theorem am_blks (w:Zp1):Blk ((((w.alloc (.cells #[.int .i64 1] 3)).alloc (.cells #[.int .i64 0] 3)).alloc (.cells #[.int .i64 5,.int .i64 12884901888,.int .i64 0,.int .i64 0,.int .i64 0,.int .i64 0,.int .i64 0,.slice none 0 0,.slice (some ⟨w.heap.size+1,0,none⟩) 1 1,.slice none 0 0] 127)).alloc (.cells #[.slice (some ⟨w.heap.size,0,none⟩) 1 1,.slice (some ⟨w.heap.size+1+1,0,none⟩) 1 1] 59)) (w.heap.size+1+1+1) 59 #[.slice (some ⟨w.heap.size,0,none⟩) 1 1,.slice (some ⟨w.heap.size+1+1,0,none⟩) 1 1]/\NetR ((((w.alloc (.cells #[.int .i64 1] 3)).alloc (.cells #[.int .i64 0] 3)).alloc (.cells #[.int .i64 5,.int .i64 12884901888,.int .i64 0,.int .i64 0,.int .i64 0,.int .i64 0,.int .i64 0,.slice none 0 0,.slice (some ⟨w.heap.size+1,0,none⟩) 1 1,.slice none 0 0] 127)).alloc (.cells #[.slice (some ⟨w.heap.size,0,none⟩) 1 1,.slice (some ⟨w.heap.size+1+1,0,none⟩) 1 1] 59)) (some ⟨w.heap.size,0,none⟩) (some ⟨w.heap.size+1+1,0,none⟩) am/\Later w ((((w.alloc (.cells #[.int .i64 1] 3)).alloc (.cells #[.int .i64 0] 3)).alloc (.cells #[.int .i64 5,.int .i64 12884901888,.int .i64 0,.int .i64 0,.int .i64 0,.int .i64 0,.int .i64 0,.slice none 0 0,.slice (some ⟨w.heap.size+1,0,none⟩) 1 1,.slice none 0 0] 127)).alloc (.cells #[.slice (some ⟨w.heap.size,0,none⟩) 1 1,.slice (some ⟨w.heap.size+1+1,0,none⟩) 1 1] 59)):=by
 have k0:=(((Blk.new w 3 #[.int .i64 1]).alloc (.cells #[.int .i64 0] 3)).alloc (.cells #[.int .i64 5,.int .i64 12884901888,.int .i64 0,.int .i64 0,.int .i64 0,.int .i64 0,.int .i64 0,.slice none 0 0,.slice (some ⟨w.heap.size+1,0,none⟩) 1 1,.slice none 0 0] 127)).alloc (.cells #[.slice (some ⟨w.heap.size,0,none⟩) 1 1,.slice (some ⟨w.heap.size+1+1,0,none⟩) 1 1] 59);have k1:=((Blk.new (w.alloc (.cells #[.int .i64 1] 3)) 3 #[.int .i64 0]).alloc (.cells #[.int .i64 5,.int .i64 12884901888,.int .i64 0,.int .i64 0,.int .i64 0,.int .i64 0,.int .i64 0,.slice none 0 0,.slice (some ⟨w.heap.size+1,0,none⟩) 1 1,.slice none 0 0] 127)).alloc (.cells #[.slice (some ⟨w.heap.size,0,none⟩) 1 1,.slice (some ⟨w.heap.size+1+1,0,none⟩) 1 1] 59);have k2:=(Blk.new ((w.alloc (.cells #[.int .i64 1] 3)).alloc (.cells #[.int .i64 0] 3)) 127 #[.int .i64 5,.int .i64 12884901888,.int .i64 0,.int .i64 0,.int .i64 0,.int .i64 0,.int .i64 0,.slice none 0 0,.slice (some ⟨w.heap.size+1,0,none⟩) 1 1,.slice none 0 0]).alloc (.cells #[.slice (some ⟨w.heap.size,0,none⟩) 1 1,.slice (some ⟨w.heap.size+1+1,0,none⟩) 1 1] 59);have k3:=Blk.new (((w.alloc (.cells #[.int .i64 1] 3)).alloc (.cells #[.int .i64 0] 3)).alloc (.cells #[.int .i64 5,.int .i64 12884901888,.int .i64 0,.int .i64 0,.int .i64 0,.int .i64 0,.int .i64 0,.slice none 0 0,.slice (some ⟨w.heap.size+1,0,none⟩) 1 1,.slice none 0 0] 127)) 59 #[.slice (some ⟨w.heap.size,0,none⟩) 1 1,.slice (some ⟨w.heap.size+1+1,0,none⟩) 1 1];simp only [Zh1] at k1 k2 k3;exact ⟨k3,am_net k0 k1 k2,((((Later.refl w).alloc _).alloc _).alloc _).alloc _⟩
set_option maxRecDepth 20000 in
theorem qeA (w:Zp1):Calls Tryz.prog 21 #[] w λe w'=>e=.returned (.bool true)/\Below w.heap.size w w':=by
 obtain ⟨hd,hc,ho⟩:=am_blks w;obtain ⟨hl,hm,hb⟩:=zd3 hd hc ho;clear hd hc ho;go_enter Tryz.func21,Tryz.ntmps21;go_wp2_with fail;refine (qc6 3 _ dZ dZ).mono ?_;rintro e w0 ⟨rfl,rfl⟩;rw [show (3:Int)*4294967296=12884901888 from rfl];go_upto_region 2 with fail;generalize ((((w.alloc (.cells #[.int .i64 1] 3)).alloc (.cells #[.int .i64 0] 3)).alloc (.cells #[.int .i64 5,.int .i64 12884901888,.int .i64 0,.int .i64 0,.int .i64 0,.int .i64 0,.int .i64 0,.slice none 0 0,.slice (some ⟨w.heap.size+1,0,none⟩) 1 1,.slice none 0 0] 127)).alloc (.cells #[.slice (some ⟨w.heap.size,0,none⟩) 1 1,.slice (some ⟨w.heap.size+1+1,0,none⟩) 1 1] 59))=w1 at *;have hd:=hl.out;have hc:=hm.out;have ho:=hb.out;clear hl hm hb;generalize w.heap.size+1+1+1=nb at *;generalize w.heap.size+1+1=ng at *;obtain ⟨hl,hm,hb⟩:=zd3 hd hc ho;clear hd hc ho;go_wp2_with fail;refine (qc6 2 _ dZ dZ).mono ?_;rintro e w2 ⟨rfl,rfl⟩;rw [show (2:Int)*4294967296=8589934592 from rfl];have t0:=(Blk.new w1 3 #[.int .i64 1]).alloc (.cells #[.int .i64 8589934592] 22);have t1:=Blk.new (w1.alloc (.cells #[.int .i64 1] 3)) 22 #[.int .i64 8589934592];rw [Zh1] at t1;have hQ:Later w1 ((w1.alloc (.cells #[.int .i64 1] 3)).alloc (.cells #[.int .i64 8589934592] 22)):=((Later.refl w1).alloc _).alloc _;obtain ⟨hT,hD,hN⟩:=zd3 t0 t1 hQ;clear t0 t1 hQ;go_wp2_with fail;generalize (w1.alloc (.cells #[.int .i64 1] 3)).alloc (.cells #[.int .i64 8589934592] 22)=w2 at *;have hf:Calls Tryz.prog 41 #[.slice (some ⟨w1.heap.size,0,none⟩) 1 1,.slice (some ⟨w1.heap.size+1,0,none⟩) 1 1] w2 (OfP amx w2):=qcA (some ⟨w1.heap.size,0,none⟩) (some ⟨w1.heap.size+1,0,none⟩) 1 1 amx w2 dZ dZ ⟨hT.out.intsQ [1],hD.out.intsQ [8589934592]⟩;refine hf.mono ?_;rintro e w3 ⟨⟨hi,-⟩|⟨-,v,rfl,⟨g,h,rfl,hg,hh,hG,hH⟩⟩,h8⟩
 ·rw [qgz] at hi;cases hi
 rw [show amx.s.length=1 from rfl,show amx.c.length=1 from rfl];have hI:=hN.out.call h8;have hY:TenIn w3 (some ⟨g,0,none⟩) (some ⟨h,0,none⟩) 1 1 amx:=amx_ten hG hH;have hs:Later w3 (w3.alloc (.cells #[.slice (some ⟨g,0,none⟩) 1 1,.slice (some ⟨h,0,none⟩) 1 1] 30)):=(Later.refl w3).alloc _;have hV:=Blk.new w3 30 #[.slice (some ⟨g,0,none⟩) 1 1,.slice (some ⟨h,0,none⟩) 1 1];have hk:=hI.trans hs;have hL:=hb.out.trans hk;have hO:=hk.blk hl.out;have hC:=hm.out.below hk (lrZ _);have hS:=hY.later hs;clear h8 hf hG hH hT hD hN hY hI hg hh;obtain ⟨Hh,he,Hm,h6,hn,hz,hA⟩:=zd7 hs hV hk hL hO hC hS;clear hs hV hk hL hO hC hS;go_upto_region 3 with fail;generalize w3.alloc (.cells #[.slice (some ⟨g,0,none⟩) 1 1,.slice (some ⟨h,0,none⟩) 1 1] 30)=w4 at *;generalize w3.heap.size=xb at *;clear Hh;have n0:w4.cell? ⟨nb,0,none⟩=_:=hn.out.cell 0;have n1:w4.cell? ⟨nb,1,none⟩=_:=hn.out.cell 1;have x0:w4.cell? ⟨xb,0,none⟩=_:=he.out.cell 0;have x1:w4.cell? ⟨xb,1,none⟩=_:=he.out.cell 1;simp at n0 n1 x0 x1;go_wp2_with fail;refine (run_am (some ⟨w.heap.size,0,none⟩) (some ⟨ng,0,none⟩) (some ⟨g,0,none⟩) (some ⟨h,0,none⟩) 1 1 1 1 w4 hz.out dZ hA.out).mono ?_;rintro e w5 ⟨gb,S,C,sc,cd,rfl,hZ,h4⟩;have hr:Later w4 w5:=h4;have Hl:=hr.blk hn.out;have Hg:=hr.blk he.out;have hp:Later w5 (w5.alloc (.cells #[.int .i64 25769803776,.slice gb 0 0,.slice S 1 sc,.slice C 1 cd] 66)):=(Later.refl w5).alloc _;have h5:=Blk.new w5 66 #[.int .i64 25769803776,.slice gb 0 0,.slice S 1 sc,.slice C 1 cd];have ha:=hr.trans hp;have hF:=ha.blk hn.out;have He:=ha.blk he.out;have Hb:=hz.out.below ha (lrZ _);have hW:=hA.out.later ha;have h9:=hZ.later hp;have Hc:=h6.out.trans ha;clear h4 n0 n1 x0 x1 hZ Hl Hg hr;obtain ⟨Hj,hR,Hi,hB,hw,h7,h0,hP,h3⟩:=zd9 hp h5 ha hF He Hb hW h9 Hc;clear hp h5 ha hF He Hb hW h9 Hc;go_upto_region 4 with fail;generalize w5.alloc (.cells #[.int .i64 25769803776,.slice gb 0 0,.slice S 1 sc,.slice C 1 cd] 66)=w6 at *
 generalize w5.heap.size=rb at *;clear Hj Hi hz hA he hn Hm h6 hm hl hb;have n0:w6.cell? ⟨nb,0,none⟩=_:=hB.out.cell 0;have n1:w6.cell? ⟨nb,1,none⟩=_:=hB.out.cell 1;have x0:w6.cell? ⟨xb,0,none⟩=_:=hw.out.cell 0;have x1:w6.cell? ⟨xb,1,none⟩=_:=hw.out.cell 1;simp at n0 n1 x0 x1;have ht:Later w6 (w6.alloc (.cells #[.slice (some ⟨g,0,none⟩) 1 1,.slice (some ⟨h,0,none⟩) 1 1] 30)):=(Later.refl w6).alloc _;have hJ:=Blk.new w6 30 #[.slice (some ⟨g,0,none⟩) 1 1,.slice (some ⟨h,0,none⟩) 1 1];have y0:=ht.cell x0;have y1:=ht.cell x1;obtain ⟨hu,hq⟩:=zd2 ht hJ;clear ht hJ;go_wp2_with fail;generalize w6.alloc (.cells #[.slice (some ⟨g,0,none⟩) 1 1,.slice (some ⟨h,0,none⟩) 1 1] 30)=w7 at *;generalize w6.heap.size=pb at *;have hy:=h0.out.later hu.out
 have hU:Tns w7 (some ⟨pb,0,none⟩) [amx]:=λj hj=>by
  obtain rfl:j=0:=by simpa using hj
  exact ⟨pb,0,_,1,_,1,rfl,hq.out.lt,hq.out.cell 0,hq.out.cell 1,hy⟩
 have h1:Calls Tryz.prog 24 #[.agg #[.slice (some ⟨w.heap.size,0,none⟩) 1 1,.slice (some ⟨ng,0,none⟩) 1 1],.slice (some ⟨pb,0,none⟩) 1 1,.agg #[.slice (some ⟨g,0,none⟩) 1 1,.slice (some ⟨h,0,none⟩) 1 1]] w7 λe w'=>e=.returned (.tuple #[.agg #[.int .i64 0,.slice none 0 0,.slice none 0 0,.slice none 0 0],.int .i64 20])/\Below w7.heap.size w7 w':=by
  have:=qgg (some ⟨w.heap.size,0,none⟩) (some ⟨ng,0,none⟩) (some ⟨pb,0,none⟩) (some ⟨g,0,none⟩) (some ⟨h,0,none⟩) 1 1 1 1 1 am [amx] amx w7 am_ok (h7.out.below hu.out (lrZ _)) dZ hU dZ dZ dZ (λh=>by cases h) hy (by rw [am_bad];decide);rw [am_bad] at this;exact this
 refine h1.mono ?_;rintro e w8 ⟨rfl,Hd⟩;have Ha:=hu.out.call Hd;have hX:Later w8 (w8.alloc (.cells #[.int .i64 0,.slice none 0 0,.slice none 0 0,.slice none 0 0] 66)):=(Later.refl w8).alloc _;have hv:=Ha.trans hX;have hM:=hv.blk hR.out;have hE:=hP.out.later hv;have h2:=h3.out.trans hv;clear Hd h1 hU hy n0 n1 x0 x1 y0 y1 Ha hX hv hu hq hR hP h3 h0 h7 hw hB;obtain ⟨hx,Hf,Hk⟩:=zd3 hM hE h2;clear hM hE h2;go_upto_region 5 with fail;generalize w8.alloc (.cells #[.int .i64 0,.slice none 0 0,.slice none 0 0,.slice none 0 0] 66)=w9 at *;have r0:w9.cell? ⟨rb,0,none⟩=_:=hx.out.cell 0;have r1:w9.cell? ⟨rb,1,none⟩=_:=hx.out.cell 1;have r3:w9.cell? ⟨rb,3,none⟩=_:=hx.out.cell 3;simp at r0 r1 r3;obtain ⟨bc,oc,rfl,-,yc⟩:=Hf.out.cell (k:=0) dZ;replace yc:w9.cell? ⟨bc,oc,none⟩=some (.int .i64 12884901888):=yc;have KF:=zI (show ∀Xw,Later w9 Xw->Xw.cell? ⟨rb,0,none⟩=some (.int .i64 25769803776)/\Xw.cell? ⟨rb,1,none⟩=some (.slice gb 0 0)/\Xw.cell? ⟨rb,3,none⟩=some (.slice (some ⟨bc,oc,none⟩) 1 cd)/\Xw.cell? ⟨bc,oc,none⟩=some (.int .i64 12884901888) from λXw h=>⟨h.cell r0,h.cell r1,h.cell r3,h.cell yc⟩);refine Zm1 ?_;refine Zl1 (S:=λXw=>Xw.cell? ⟨rb,0,none⟩=some (.int .i64 25769803776)/\Xw.cell? ⟨rb,1,none⟩=some (.slice gb 0 0)/\Xw.cell? ⟨rb,3,none⟩=some (.slice (some ⟨bc,oc,none⟩) 1 cd)/\Xw.cell? ⟨bc,oc,none⟩=some (.int .i64 12884901888)) krZ (KF.out _ Lau) (λhHeld=>?_);refine tk 0 ?_;refine tk 1 ?_;refine tk 2 ?_;refine tk 3 ?_;refine tk 4 ?_;refine tk 5 ?_;refine tk 6 ?_;refine tk 7 ?_;refine tk 8 ?_;refine rd 9 λK hK=>?_
 simp only [ga,gs,gz]
 go_simp
 go_at_call 62;(with_reducible refine (qc6 6 _ dZ dZ).mono ?_);rintro e wg ⟨rfl,rfl⟩
 rw [show (6:Int)*4294967296=25769803776 from rfl]
 try go_wp2_with fail
 refine hK.out _ _ (KF.out _ Lau) (λhHeld=>?_);clear hK K
 try simp only [ga,gs,gz,Act.put,sa,sz,ss]
 refine tk 10 ?_;refine tk 11 ?_;refine tk 12 ?_;refine tk 13 ?_;refine tk 14 ?_;refine tk 15 ?_;refine tk 16 ?_;refine tk 17 ?_;refine tk 18 ?_;refine tk 19 ?_;refine tk 20 ?_;refine tk 21 ?_;refine tk 22 ?_;refine tk 23 ?_;refine tk 24 ?_;refine rd 25 λK hK=>?_
 simp only [ga,gs,gz]
 go_simp
 go_at_call 62;(with_reducible refine (qc6 3 _ dZ dZ).mono ?_);rintro e wg ⟨rfl,rfl⟩
 rw [show (3:Int)*4294967296=12884901888 from rfl]
 try go_wp2_with fail
 refine hK.out _ _ (KF.out _ Lau) (λhHeld=>?_);clear hK K
 try simp only [ga,gs,gz,Act.put,sa,sz,ss]
 refine tk 26 ?_;refine tk 27 ?_;refine tk 28 ?_;refine tk 29 ?_;refine tk 30 ?_;refine tk 31 ?_;refine tk 32 ?_;refine tk 33 ?_;refine tk 34 ?_;clear KF;refine Zn1 krZ ?_ _;refine Zd1 ?_;go_wp2_with fail;go_ret;exact ⟨rfl,Later.drew Hk.out⟩
open Go.ChangeShapes Go.WideShapes Go.Deep Go.RowKit
section
variable {H:Type} {enc:TypeId × Value->H} {P:Program} {W:Zp1} {base:Nat} {spare:Nat->Bool} {held:Bool}
theorem bulk_one (d:DataW H):1<=Rows.uptoBulk d:=by
 cases d with
 | lit l=>cases l<;>simp [Rows.uptoBulk]
 | nil=>simp [Rows.uptoBulk]
 | ptr d=>simp [Rows.uptoBulk]
 | slice elems spare=>simp [Rows.uptoBulk]
 | agg parts=>simp [Rows.uptoBulk]
 | iface t d=>simp [Rows.uptoBulk]
 | map entries=>simp [Rows.uptoBulk]
 | held h=>simp [Rows.uptoBulk]
theorem qe9 {d:DataW H} {l:List (DataW H)} (h:d∈l):Rows.uptoBulk d<=Rows.uptoBulkAll l:=by
 induction l with
 | nil=>cases h
 | cons x r ih=>
  simp only [Rows.uptoBulkAll];cases List.mem_cons.1 h with
  | inl e=>subst e;omega
  | inr e=>have:=ih e;omega
theorem bulk_len (l:List (DataW H)):l.length<=Rows.uptoBulkAll l:=by
 induction l with
 | nil=>simp [Rows.uptoBulkAll]
 | cons x r ih=>have:=bulk_one x;simp only [Rows.uptoBulkAll,List.length_cons];omega
theorem qaC {t e:TypeId} {fuel:Nat} {v:Value} {x:DataW H × List MemPlace} (ht:P.underlying t=some (.slice e)) (h:DataW.trod enc P W base spare held fuel t [v]=some x) (hz:Rows.uptoBulk x.1<=1048576):
  v=.slice none 0 0∨∃a len cap,v=.slice (some a) len cap/\len<=cap/\cap<=maxLen/\len<=1048576/\
   ∀i,i<len->∃cs' m y,W.cells? base (a.add (i*P.cellsOf e)) (P.cellsOf e)=some cs'/\DataW.trod enc P W base spare held m e cs'=some y/\Rows.uptoBulk y.1<=1048576:=by
 rcases open_slice ht h with ⟨ha,_⟩|⟨a,len,cap,m,n,D,Pl,ha,_,hl,hm,hb,hx,hi⟩
 ·simp at ha;exact .inl ha
 ·simp at ha;subst ha
  right
  have hd:len<=m:=by rw [hb];split<;>omega
  rw [hx] at hz;simp only [Rows.uptoBulk] at hz;refine ⟨a,len,cap,rfl,hl,hm,?_,λi hc=>?_⟩
  ·have:=bulk_len ((List.range len).map D)
   simp at this;omega
  ·obtain ⟨cs',h1,h2⟩:=hi i oZ
   refine ⟨cs',n,_,h1,h2,?_⟩;have:=qe9 (d:=D i) (l:=(List.range len).map D) (List.mem_map.2 ⟨i,by simpa using hc,rfl⟩)
   show Rows.uptoBulk (D i)<=_
   omega
end
theorem int_one':Tryz.prog.cellsOf 3=1:=by kernel_rfl
theorem shp_one:Tryz.prog.cellsOf 24=1:=by kernel_rfl
theorem qfp:Tryz.prog.cellsOf 127=10:=by kernel_rfl
theorem qbi {H:Type} {enc:TypeId × Value->H} {W:Zp1} {base:Nat} {spare:Nat->Bool} {held:Bool} {t:TypeId} {fuel:Nat} {v:Value} {x:DataW H × List MemPlace} (ht:Tryz.prog.underlying t=some (.slice 3))
  (h:DataW.trod enc Tryz.prog W base spare held fuel t [v]=some x) (hz:Rows.uptoBulk x.1<=1048576):
  ∃A c zs,v=.slice A zs.length c/\Ints .i64 W A zs/\zs.length<=c/\c<=9223372036854775807/\zs.length<=1048576/\∀z∈zs,-9223372036854775808<=z/\z<=9223372036854775807:=by
 obtain ⟨A,c,zs,rfl,hl,hc,hI,hw⟩:=qdX ht Tryz.underlying3 int_one' h;refine ⟨A,c,zs,rfl,hI,hc,?_,?_,λz hz=>qdd (hw z hz)⟩
 ·rcases qaC ht h hz with e|⟨a,len,cap,e,_,hm,_⟩
  ·injection e with _ _ e;omega
  ·injection e with _ _ e;unfold maxLen at hm;omega
 ·rcases qaC ht h hz with e|⟨a,len,cap,e,_,_,hb,_⟩
  ·injection e with _ e _;rw [e];exact Zt _
  ·have e2:zs.length=len:=by simp at e;exact e.2.1
   rw [e2];exact hb
theorem one_list {l:List Value} (h:l.length=1):∃v,l=[v]:=by
 match l,h with
 | [v],_=>exact ⟨v,rfl⟩
theorem qbK {α:Type} [Inhabited α] {n:Nat} {Q:Nat->α->Prop} (h:∀i,i<n->∃a,Q i a):∃l:List α,l.length=n/\∀i (hi:i<l.length),Q i l[i]:=by
 obtain ⟨f,hf⟩:=@choose_lt α _ _ _ h;exact ⟨(List.range n).map f,by simp,λi hi=>by simp at hi;simpa using hf i hi⟩
theorem qdx {W:Zp1} {a:Addr} {v:Value} (h:W.cell? a=some v):∃b off,a=⟨b,off,none⟩:=by
 obtain ⟨b,off,spot⟩:=a;have hs:spot=none:=by simpa using World.cell?_spot h
 subst hs;exact ⟨b,off,rfl⟩
theorem qgA {H:Type} {enc:TypeId × Value->H} {W:Zp1} {base:Nat} {spare:Nat->Bool} {held:Bool} {fuel:Nat} {v:Value} {x:DataW H × List MemPlace}
  (h:DataW.trod enc Tryz.prog W base spare held fuel 94 [v]=some x) (hz:Rows.uptoBulk x.1<=1048576):
  ∃A c ss,v=.slice A ss.length c/\Shps W A ss/\ss.length<=c/\c<=9223372036854775807/\ss.length<=1048576/\∀s∈ss,s.length<=1048576/\∀z∈s,-9223372036854775808<=z/\z<=9223372036854775807:=by
 rcases qaC Tryz.underlying94 h hz with rfl|⟨a,len,cap,rfl,hl,hm,hb,hi⟩
 ·exact ⟨none,0,[],rfl,Shps.nil,by simp,by omega,by simp,by simp⟩
 ·rw [shp_one] at hi
  have key:∀i,i<len->∃q:(List Int) × (Option Addr) × Nat,W.cell? (a.add i)=some (.slice q.2.1 q.1.length q.2.2)/\Ints .i64 W q.2.1 q.1/\q.1.length<=q.2.2/\q.2.2<=9223372036854775807/\q.1.length<=1048576/\∀z∈q.1,-9223372036854775808<=z/\z<=9223372036854775807:=λi hd=>by
   obtain ⟨cs',m,y,hc,ht,hw⟩:=hi i hd;obtain ⟨_,ha,hf⟩:=World.cells?_some hc;obtain ⟨v,rfl⟩:=one_list ha;obtain ⟨A,c,zs,rfl,h1,h2⟩:=qbi Tryz.underlying24 ht hw;refine ⟨(zs,A,c),?_,h1,h2⟩;have:=hf 0 oZ;rw [Nat.mul_one] at this;simpa [Addr.add] using this
  obtain ⟨L,hL,hq⟩:=qbK key;refine ⟨some a,cap,L.map (·.1),by simp [hL],λj hj=>?_,by simpa [hL] using hl,by unfold maxLen at hm;omega,by simp [hL];exact hb,λs hs=>?_⟩
  ·rw [List.length_map] at hj
   obtain ⟨h1,h2,h3,h4,_⟩:=hq j hj;obtain ⟨h0,_⟩:=hq 0 oZ;obtain ⟨b,off,rfl⟩:=qdx (show W.cell? a=_ by simpa [Addr.add] using h0);rw [qc5] at h1;rw [List.getElem_map];exact ⟨b,off,_,_,rfl,Zj1 _ _ h1,h1,h2,h3,h4⟩
  ·obtain ⟨q,he,rfl⟩:=List.mem_map.1 hs
   obtain ⟨i,hi,rfl⟩:=List.getElem_of_mem he;exact (hq i hi).2.2.2.2
def OpD.inR (o:OpD):Prop:=o.wide/\∀z∈o.s,-9223372036854775808<=z/\z<=9223372036854775807
def NodeD.fits (v:NodeD):Prop:=v.op.wide/\v.op.s.length<=1048576/\v.ins.length<=1048576/\v.p.length<=1048576/\(∀s∈v.p,s.length<=1048576)/\
 (∀z∈v.op.s,-9223372036854775808<=z/\z<=9223372036854775807)/\(∀z∈v.ins,-9223372036854775808<=z/\z<=9223372036854775807)/\∀s∈v.p,∀z∈s,-9223372036854775808<=z/\z<=9223372036854775807
def NetD.fits (n:NetD):Prop:=n.inn.length<=1048576/\n.nodes.length<=1048576/\(∀z∈n.inn,-9223372036854775808<=z/\z<=9223372036854775807)/\∀v∈n.nodes,v.fits
theorem qfq:Tryz.prog.underlying 127=some (.struct (Tryz.prog.fieldsOf 127)):=by kernel_rfl
theorem qfr:(Tryz.prog.fieldsOf 127).size=3:=by kernel_rfl
theorem node_f0:((Tryz.prog.fieldsOf 127)[0]?).map (λf=>(f.type,f.offset,Tryz.prog.cellsOf f.type))=some (26,0,8):=by kernel_rfl
theorem node_f1:((Tryz.prog.fieldsOf 127)[1]?).map (λf=>(f.type,f.offset,Tryz.prog.cellsOf f.type))=some (23,8,1):=by kernel_rfl
theorem node_f2:((Tryz.prog.fieldsOf 127)[2]?).map (λf=>(f.type,f.offset,Tryz.prog.cellsOf f.type))=some (94,9,1):=by kernel_rfl
theorem op_under:Tryz.prog.underlying 26=some (.struct (Tryz.prog.fieldsOf 26)):=by kernel_rfl
theorem op_eight:(Tryz.prog.fieldsOf 26).size=8:=by kernel_rfl
theorem op_f0:((Tryz.prog.fieldsOf 26)[0]?).map (λf=>(f.type,f.offset,Tryz.prog.cellsOf f.type))=some (3,0,1):=by kernel_rfl
theorem op_f1:((Tryz.prog.fieldsOf 26)[1]?).map (λf=>(f.type,f.offset,Tryz.prog.cellsOf f.type))=some (22,1,1):=by kernel_rfl
theorem op_f2:((Tryz.prog.fieldsOf 26)[2]?).map (λf=>(f.type,f.offset,Tryz.prog.cellsOf f.type))=some (3,2,1):=by kernel_rfl
theorem op_f3:((Tryz.prog.fieldsOf 26)[3]?).map (λf=>(f.type,f.offset,Tryz.prog.cellsOf f.type))=some (3,3,1):=by kernel_rfl
theorem op_f4:((Tryz.prog.fieldsOf 26)[4]?).map (λf=>(f.type,f.offset,Tryz.prog.cellsOf f.type))=some (3,4,1):=by kernel_rfl
theorem op_f5:((Tryz.prog.fieldsOf 26)[5]?).map (λf=>(f.type,f.offset,Tryz.prog.cellsOf f.type))=some (3,5,1):=by kernel_rfl
theorem op_f6:((Tryz.prog.fieldsOf 26)[6]?).map (λf=>(f.type,f.offset,Tryz.prog.cellsOf f.type))=some (3,6,1):=by kernel_rfl
theorem op_f7:((Tryz.prog.fieldsOf 26)[7]?).map (λf=>(f.type,f.offset,Tryz.prog.cellsOf f.type))=some (24,7,1):=by kernel_rfl
theorem list3 {α:Type} {l:List α} (h:l.length=3):∃a b c,l=[a,b,c]:=by
 match l,h with
 | [a,b,c],_=>exact ⟨a,b,c,rfl⟩
theorem list8 {α:Type} {l:List α} (h:l.length=8):∃a b c d e f g i,l=[a,b,c,d,e,f,g,i]:=by
 match l,h with
 | [a,b,c,d,e,f,g,i],_=>exact ⟨a,b,c,d,e,f,g,i,rfl⟩
theorem list10 {α:Type} {l:List α} (h:l.length=10):∃a b c d e f g i j k,l=[a,b,c,d,e,f,g,i,j,k]:=by
 match l,h with
 | [a,b,c,d,e,f,g,i,j,k],_=>exact ⟨a,b,c,d,e,f,g,i,j,k,rfl⟩
set_option maxRecDepth 100000 in
theorem op_open {H:Type} {enc:TypeId × Value->H} {W:Zp1} {base:Nat} {spare:Nat->Bool} {held:Bool} {fuel:Nat} {v0 v1 v2 v3 v4 v5 v6 v7:Value} {x:DataW H × List MemPlace}
  (h:DataW.trod enc Tryz.prog W base spare held fuel 26 [v0,v1,v2,v3,v4,v5,v6,v7]=some x) (hz:Rows.uptoBulk x.1<=1048576):
  ∃(o:OpD) (S:Option Addr) (c:Nat),v0=.int .i64 o.kind/\v1=.int .i64 o.k/\v2=.int .i64 o.width/\v3=.int .i64 o.step/\v4=.int .i64 o.side/\v5=.int .i64 o.frm/\v6=.int .i64 o.to/\v7=.slice S o.s.length c/\
   Ints .i64 W S o.s/\o.s.length<=c/\c<=9223372036854775807/\o.s.length<=1048576/\o.wide/\∀z∈o.s,-9223372036854775808<=z/\z<=9223372036854775807:=by
 obtain ⟨ys,n,_,hx,_,ha,hg⟩:=DataW.trod_struct op_under h;rw [op_eight] at ha;obtain ⟨y0,y1,y2,y3,y4,y5,y6,y7,rfl⟩:=list8 ha;rw [hx] at hz;obtain ⟨f0,e0,t0⟩:=Option.map_eq_some_iff.1 op_f0;simp only [Prod.mk.injEq] at t0;have h0:=hg 0 f0 e0;rw [t0.2.2,t0.2.1,t0.1] at h0;simp at h0;obtain ⟨f1,e1,t1⟩:=Option.map_eq_some_iff.1 op_f1;simp only [Prod.mk.injEq] at t1;have h1:=hg 1 f1 e1;rw [t1.2.2,t1.2.1,t1.1] at h1;simp at h1;obtain ⟨f2,e2,t2⟩:=Option.map_eq_some_iff.1 op_f2;simp only [Prod.mk.injEq] at t2;have h2:=hg 2 f2 e2;rw [t2.2.2,t2.2.1,t2.1] at h2;simp at h2;obtain ⟨f3,e3,t3⟩:=Option.map_eq_some_iff.1 op_f3;simp only [Prod.mk.injEq] at t3;have h3:=hg 3 f3 e3;rw [t3.2.2,t3.2.1,t3.1] at h3;simp at h3;obtain ⟨f4,e4,t4⟩:=Option.map_eq_some_iff.1 op_f4;simp only [Prod.mk.injEq] at t4;have h4:=hg 4 f4 e4;rw [t4.2.2,t4.2.1,t4.1] at h4;simp at h4;obtain ⟨f5,e5,t5⟩:=Option.map_eq_some_iff.1 op_f5;simp only [Prod.mk.injEq] at t5;have h5:=hg 5 f5 e5;rw [t5.2.2,t5.2.1,t5.1] at h5;simp at h5;obtain ⟨f6,e6,t6⟩:=Option.map_eq_some_iff.1 op_f6;simp only [Prod.mk.injEq] at t6;have h6:=hg 6 f6 e6;rw [t6.2.2,t6.2.1,t6.1] at h6;simp at h6;obtain ⟨f7,e7,t7⟩:=Option.map_eq_some_iff.1 op_f7;simp only [Prod.mk.injEq] at t7;have h7:=hg 7 f7 e7;rw [t7.2.2,t7.2.1,t7.1] at h7;simp at h7;have hb:Rows.uptoBulk y7.1<=1048576:=by simp [Rows.uptoBulk,Rows.uptoBulkAll] at hz;omega
 obtain ⟨x0,q0,_,w0⟩:=DataW.trod_int Tryz.underlying3 h0;simp at q0;subst q0;obtain ⟨x1,q1,_,w1⟩:=DataW.trod_int Tryz.underlying22 h1;simp at q1;subst q1;obtain ⟨x2,q2,_,w2⟩:=DataW.trod_int Tryz.underlying3 h2;simp at q2;subst q2;obtain ⟨x3,q3,_,w3⟩:=DataW.trod_int Tryz.underlying3 h3;simp at q3;subst q3;obtain ⟨x4,q4,_,w4⟩:=DataW.trod_int Tryz.underlying3 h4;simp at q4;subst q4;obtain ⟨x5,q5,_,w5⟩:=DataW.trod_int Tryz.underlying3 h5;simp at q5;subst q5;obtain ⟨x6,q6,_,w6⟩:=DataW.trod_int Tryz.underlying3 h6;simp at q6;subst q6;obtain ⟨S,c,zs,rfl,hI,h1,h2,h3,h4⟩:=qbi Tryz.underlying24 h7 hb;refine ⟨⟨x0,x1,x2,x3,x4,x5,x6,zs⟩,S,c,rfl,rfl,rfl,rfl,rfl,rfl,rfl,rfl,hI,h1,h2,h3,λz hz=>?_,h4⟩;simp at hz;rcases hz with rfl|rfl|rfl|rfl|rfl|rfl|rfl
 ·exact qdd w0
 ·exact qdd w1
 ·exact qdd w2
 ·exact qdd w3
 ·exact qdd w4
 ·exact qdd w5
 ·exact qdd w6
structure NodeQ where
 v:NodeD
 S:Option Addr
 c:Nat
 I:Option Addr
 d:Nat
 Q:Option Addr
 q:Nat
instance:Inhabited NodeQ:=⟨⟨Nt.none_,none,0,none,0,none,0⟩⟩
def NodeQ.cells (x:NodeQ):List Value:=[.int .i64 x.v.op.kind,.int .i64 x.v.op.k,.int .i64 x.v.op.width,.int .i64 x.v.op.step,.int .i64 x.v.op.side,.int .i64 x.v.op.frm,.int .i64 x.v.op.to,.slice x.S x.v.op.s.length x.c,.slice x.I x.v.ins.length x.d,.slice x.Q x.v.p.length x.q]
def NodeQ.R (x:NodeQ) (W:Zp1):Prop:=(Ints .i64 W x.S x.v.op.s/\x.v.op.s.length<=x.c/\x.c<=9223372036854775807)/\(Ints .i64 W x.I x.v.ins/\x.v.ins.length<=x.d/\x.d<=9223372036854775807)/\(Shps W x.Q x.v.p/\x.v.p.length<=x.q/\x.q<=9223372036854775807)
set_option maxRecDepth 100000 in
theorem qgB {H:Type} {enc:TypeId × Value->H} {W:Zp1} {base:Nat} {spare:Nat->Bool} {held:Bool} {fuel:Nat} {cs:List Value} {x:DataW H × List MemPlace} (hcs:cs.length=10)
  (h:DataW.trod enc Tryz.prog W base spare held fuel 127 cs=some x) (hz:Rows.uptoBulk x.1<=1048576):
  ∃q:NodeQ,cs=q.cells/\q.R W/\q.v.fits:=by
 obtain ⟨v0,v1,v2,v3,v4,v5,v6,v7,v8,v9,rfl⟩:=list10 hcs;obtain ⟨ys,n,_,hx,_,ha,hg⟩:=DataW.trod_struct qfq h;rw [qfr] at ha;obtain ⟨y0,y1,y2,rfl⟩:=list3 ha;rw [hx] at hz;obtain ⟨f0,e0,t0⟩:=Option.map_eq_some_iff.1 node_f0;simp only [Prod.mk.injEq] at t0;have h0:=hg 0 f0 e0;rw [t0.2.2,t0.2.1,t0.1] at h0;simp at h0;obtain ⟨f1,e1,t1⟩:=Option.map_eq_some_iff.1 node_f1;simp only [Prod.mk.injEq] at t1;have h1:=hg 1 f1 e1;rw [t1.2.2,t1.2.1,t1.1] at h1;simp at h1;obtain ⟨f2,e2,t2⟩:=Option.map_eq_some_iff.1 node_f2;simp only [Prod.mk.injEq] at t2;have h2:=hg 2 f2 e2;rw [t2.2.2,t2.2.1,t2.1] at h2;simp at h2;have hd:Rows.uptoBulk y0.1<=1048576:=by simp [Rows.uptoBulk,Rows.uptoBulkAll] at hz;omega
 have hb:Rows.uptoBulk y1.1<=1048576:=by simp [Rows.uptoBulk,Rows.uptoBulkAll] at hz;omega
 have hc:Rows.uptoBulk y2.1<=1048576:=by simp [Rows.uptoBulk,Rows.uptoBulkAll] at hz;omega
 obtain ⟨o,S,c,rfl,rfl,rfl,rfl,rfl,rfl,rfl,rfl,a1,a2,a3,a4,a5,a6⟩:=op_open h0 hd;obtain ⟨I,d,is,rfl,b1,b2,b3,b4,b5⟩:=qbi Tryz.underlying23 h1 hb;obtain ⟨Q,q,ps,rfl,c1,c2,c3,c4,c5⟩:=qgA h2 hc;exact ⟨⟨⟨o,is,ps⟩,S,c,I,d,Q,q⟩,rfl,⟨⟨a1,a2,a3⟩,⟨b1,b2,b3⟩,c1,c2,c3⟩,a5,a4,b4,c4,λs hs=>(c5 s hs).1,a6,b5,λs hs=>(c5 s hs).2⟩
theorem qfs {H:Type} {enc:TypeId × Value->H} {W:Zp1} {base:Nat} {spare:Nat->Bool} {held:Bool} {fuel:Nat} {v:Value} {x:DataW H × List MemPlace}
  (h:DataW.trod enc Tryz.prog W base spare held fuel 57 [v]=some x) (hz:Rows.uptoBulk x.1<=1048576):
  ∃A c ns,v=.slice A ns.length c/\Nodes W A ns/\ns.length<=c/\c<=9223372036854775807/\ns.length<=1048576/\∀v∈ns,v.fits:=by
 rcases qaC Tryz.underlying57 h hz with rfl|⟨a,len,cap,rfl,hl,hm,hb,hi⟩
 ·exact ⟨none,0,[],rfl,λj hj=>absurd hj sZ,by simp,by omega,by simp,by simp⟩
 ·rw [qfp] at hi
  have key:∀i,i<len->∃q:NodeQ,(∀j,j<10->W.cell? ((a.add (i*10)).add j)=q.cells[j]?)/\q.R W/\q.v.fits:=λi he=>by
   obtain ⟨cs',m,y,hc,ht,hw⟩:=hi i he;obtain ⟨_,ha,hg⟩:=World.cells?_some hc;obtain ⟨q,rfl,h1,h2⟩:=qgB ha ht hw;exact ⟨q,hg,h1,h2⟩
  obtain ⟨L,hL,hq⟩:=qbK key;refine ⟨some a,cap,L.map (·.v),by simp [hL],λj hj=>?_,by simpa [hL] using hl,by unfold maxLen at hm;omega,by simp [hL];exact hb,λs hs=>?_⟩
  ·rw [List.length_map] at hj
   obtain ⟨h1,⟨r1,r2,r3⟩,_⟩:=hq j hj;obtain ⟨h0,_⟩:=hq 0 oZ;have hd:=h0 0 oZ;obtain ⟨b,off,rfl⟩:=qdx (v:=.int .i64 L[0].v.op.kind) (show W.cell? a=_ by simpa [Addr.add,NodeQ.cells] using hd);simp only [qc5] at h1;rw [List.getElem_map];refine ⟨b,off,_,_,_,_,_,_,rfl,Zj1 _ _ (h1 0 oZ),h1 0 oZ,h1 1 oZ,h1 2 oZ,h1 3 oZ,h1 4 oZ,h1 5 oZ,h1 6 oZ,h1 7 oZ,h1 8 oZ,h1 9 oZ,r1,r2,r3⟩
  ·obtain ⟨q,hf,rfl⟩:=List.mem_map.1 hs
   obtain ⟨i,hi,rfl⟩:=List.getElem_of_mem hf;exact (hq i hi).2.2
theorem qgC:Tryz.prog.underlying 59=some (.struct (Tryz.prog.fieldsOf 59)):=by kernel_rfl
theorem net_two:(Tryz.prog.fieldsOf 59).size=2:=by kernel_rfl
theorem net_f0:((Tryz.prog.fieldsOf 59)[0]?).map (λf=>(f.type,f.offset,Tryz.prog.cellsOf f.type))=some (24,0,1):=by kernel_rfl
theorem net_f1:((Tryz.prog.fieldsOf 59)[1]?).map (λf=>(f.type,f.offset,Tryz.prog.cellsOf f.type))=some (57,1,1):=by kernel_rfl
theorem list2 {α:Type} {l:List α} (h:l.length=2):∃a b,l=[a,b]:=by
 match l,h with
 | [a,b],_=>exact ⟨a,b,rfl⟩
theorem NetD.fits.ok {n:NetD} (h:n.fits):n.ok:=
 ⟨h.1,h.2.1,λv hv=>by
  obtain ⟨h1,h2,h3,h4,h5,h6,h7,h8⟩:=h.2.2.2 v hv;exact ⟨h1,h2,h3,h4,h5,h7⟩⟩
theorem qea {w:Zp1} {B B' e s n:Nat} {v:Value} {xs:List Value} (h:w.ownsRow B e s v n xs) (hB:B'<=B):w.ownsRow B' e s v n xs:=by
 refine ⟨h.1,?_⟩;rcases h.2 with h|⟨g,cap,cur,h1,h2,h3⟩
 ·exact .inl h
 ·exact .inr ⟨g,cap,cur,h1,Zv hB h2,h3⟩
abbrev RQ:=NodeQ × List Value
def RQ.cells (x:RQ):List Value:=x.1.cells
def RQ.Phi (B:Nat) (x:RQ) (W:Zp1):Prop:=W.ownsRow B 23 1 (.slice x.1.Q x.1.v.p.length x.1.q) x.1.v.p.length x.2
def RQ.Good (w:Zp1) (x:RQ):Prop:=(Ints .i64 w x.1.S x.1.v.op.s/\x.1.v.op.s.length<=x.1.c/\x.1.c<=9223372036854775807)/\(Ints .i64 w x.1.I x.1.v.ins/\x.1.v.ins.length<=x.1.d/\x.1.d<=9223372036854775807)/\RowOf w x.2 x.1.v.p
def RefRow (t:TypeId) (B C:Nat) (w W:Zp1) (v:Value) (ns:List NodeD):Prop:=
 ∃L:List RQ,L.map (λx=>x.1.v)=ns/\OwnRow B C W t 10 v RQ.cells (RQ.Phi B) L/\∀x∈L,RQ.Good w x
theorem RQ.len (x:RQ):(RQ.cells x).length=10:=rfl
theorem RefRow.nil (t:TypeId) (B:Nat) (w W:Zp1):RefRow t B W.heap.size w W (.slice none 0 0) []:=⟨[],rfl,OwnRow.nil _ _ _ _ _ _,by simp⟩
theorem RefRow.form {t:TypeId} {B C:Nat} {w W:Zp1} {v:Value} {ns:List NodeD} (h:RefRow t B C w W v ns):∃A c,v=.slice A ns.length c/\ns.length<=c/\(∀b,v.ownBlock=some b->B<=b/\b<C):=by
 obtain ⟨L,hL,hO,_⟩:=h;obtain ⟨A,c,e,hc⟩:=hO.form;have hl:L.length=ns.length:=by rw [←hL];simp
 rw [hl] at e hc;exact ⟨A,c,e,hc,λb hb=>⟨(hO.1.lt b hb).1,hO.2.1 b hb⟩⟩
theorem RefRow.fr {t:TypeId} {B C:Nat} {w W W':Zp1} {v:Value} {ns:List NodeD} {S:Nat->Prop} (h:RefRow t B C w W v ns) (hf:Fr S W W') (hS:∀b,B<=b->b<C->¬S b):RefRow t B C w W' v ns:=by
 obtain ⟨L,hL,hO,hG⟩:=h;exact ⟨L,hL,hO.fr hf hS,hG⟩
theorem RefRow.nodes {t:TypeId} {B C:Nat} {w W:Zp1} {v:Value} {ns:List NodeD} (h:RefRow t B C w W v ns) (hb:Below w.heap.size w W):
  ∃A c,v=.slice A ns.length c/\ns.length<=c/\c<=9223372036854775807/\Nodes W A ns:=by
 obtain ⟨L,rfl,hO,hG⟩:=h;rw [List.length_map];rcases hO.1.2 with ⟨rfl,h0⟩|⟨g,cap,cur,rfl,_,hh,he,hf,_⟩
 ·have:L=[]:=List.eq_nil_of_length_eq_zero h0
  subst this;exact ⟨none,0,rfl,by simp,by omega,λj hj=>absurd hj sZ⟩
 ·refine ⟨_,cap,rfl,he,by unfold maxLen at hf;omega,λj hj=>?_⟩
  rw [List.length_map] at hj;obtain ⟨b,cap',e,_,_,_,hc⟩:=hO.at_ (λx=>RQ.len x) hj;injection e with e _ _
  injection e with e
  injection e with e
  subst e;obtain ⟨⟨s1,s2,s3⟩,⟨i1,i2,i3⟩,hd⟩:=hG L[j] (gmZ hj);have ha:=hO.now L[j] (gmZ hj);obtain ⟨AQ,cQ,eQ,_,hQ,q1,q2⟩:=hd.shps ha hb;injection eQ with e1 _ e2
  rw [List.getElem_map];refine ⟨g,0,L[j].1.S,L[j].1.c,L[j].1.I,L[j].1.d,L[j].1.Q,L[j].1.q,rfl,lt_of_block hh,?_,?_,?_,?_,?_,?_,?_,?_,?_,?_,⟨s1.below hb (lrZ _),s2,s3⟩,⟨i1.below hb (lrZ _),i2,i3⟩,by rw [e1];exact hQ,by rw [e2];exact q1,by rw [e2];exact q2⟩
  ·have:=hc 0 oZ;first|(simp;done)|simpa [RQ.cells,NodeQ.cells] using this
  ·have:=hc 1 oZ;first|(simp;done)|simpa [RQ.cells,NodeQ.cells] using this
  ·have:=hc 2 oZ;first|(simp;done)|simpa [RQ.cells,NodeQ.cells] using this
  ·have:=hc 3 oZ;first|(simp;done)|simpa [RQ.cells,NodeQ.cells] using this
  ·have:=hc 4 oZ;first|(simp;done)|simpa [RQ.cells,NodeQ.cells] using this
  ·have:=hc 5 oZ;first|(simp;done)|simpa [RQ.cells,NodeQ.cells] using this
  ·have:=hc 6 oZ;first|(simp;done)|simpa [RQ.cells,NodeQ.cells] using this
  ·have:=hc 7 oZ;first|(simp;done)|simpa [RQ.cells,NodeQ.cells] using this
  ·have:=hc 8 oZ;first|(simp;done)|simpa [RQ.cells,NodeQ.cells] using this
  ·have:=hc 9 oZ;first|(simp;done)|simpa [RQ.cells,NodeQ.cells] using this
theorem qeB {t:TypeId} {B C:Nat} {w W W':Zp1} {v v':Value} {L:List RQ} {x:NodeQ} {vs:List Value} {C2:Nat} (hO:OwnRow B C W t 10 v RQ.cells (RQ.Phi B) L) (hGL:∀x∈L,RQ.Good w x) (hC:C<=C2) (hB:B<=C2)
  (hown:W'.ownsRow B t 10 v' (L.length+1) (L.flatMap RQ.cells++x.cells)) (hg:W.grownBy W' v.ownBlock) (hat:v'.ownBlock=v.ownBlock∨v'.ownBlock=some W.heap.size)
  (hx:W.ownsRow C2 23 1 (.slice x.Q x.v.p.length x.q) x.v.p.length vs) (hG:RQ.Good w (x,vs)):RefRow t B W'.heap.size w W' v' (L.map (λx=>x.1.v)++[x.v]):=by
 refine ⟨L++[(x,vs)],by simp,?_,λy hy=>?_⟩
 ·refine hO.push (x:=((x,vs):RQ)) hown hg hat (F:=λb=>(Zb1 x.Q x.v.p.length x.q).ownBlock=some b) (λW2 h2=>?_) (λb hb=>?_)
  ·exact qag (qea hx hB) h2
  ·obtain ⟨h1,h2⟩:=hx.lt b hb
   exact ⟨by omega,h2,λe=>by have:=hO.2.1 b e.symm;omega⟩
 ·rcases List.mem_append.1 hy with hy|hy
  ·exact hGL y hy
  ·simp at hy;subst hy;exact hG
def qgD (n:NetD) (A:Option Addr) (c:Nat) (w:Zp1) (e:Ending) (w':Zp1):Prop:=
 ∃N' d',e=.returned (.agg #[.slice A n.inn.length c,.slice N' n.nodes.length d'])/\NetR w' A N' n/\n.nodes.length<=d'/\d'<=9223372036854775807/\Below w.heap.size w w'
def RInv (tN tR tE:TypeId) (n:NetD) (A N:Option Addr) (c d:Nat) (w0 w:Zp1) (k:Nat) (wx:Zp1):Prop:=
 Blk wx w.heap.size tN #[.slice A n.inn.length c,.slice N n.nodes.length d]/\Blk wx (w.heap.size+1) tR #[.slice none 0 0,.slice none 0 0]/\Below w.heap.size w wx/\
  ∃v,Blk wx (w.heap.size+2) tR #[.slice A n.inn.length c,v]/\RefRow tE (w.heap.size+3) wx.heap.size w0 wx v (n.nodes.take k)
def RefNetS (t:TypeId) (n:NetD) (A:Option Addr) (c:Nat) (w0 w:Zp1) (e:Ending) (w':Zp1):Prop:=
 ∃N' d' C,e=.returned (.agg #[.slice A n.inn.length c,.slice N' n.nodes.length d'])/\n.nodes.length<=d'/\d'<=9223372036854775807/\Below w.heap.size w w'/\RefRow t (w.heap.size+3) C w0 w' (.slice N' n.nodes.length d') n.nodes
theorem RefRow.net {t:TypeId} {B C:Nat} {w W:Zp1} {A N N':Option Addr} {d':Nat} {n:NetD} (h:RefRow t B C w W (.slice N' n.nodes.length d') n.nodes) (hb:Later w W) (hR:NetR w A N n):NetR W A N' n:=by
 obtain ⟨N2,d2,e2,-,-,ha⟩:=h.nodes hb;injection e2 with e3 _ _
 subst e3;exact ⟨hR.1.below hb (lrZ _),ha⟩
theorem RefNetS.netp {t:TypeId} {n:NetD} {A N:Option Addr} {c:Nat} {w w':Zp1} {e:Ending} (h:RefNetS t n A c w w e w') (hR:NetR w A N n):qgD n A c w e w':=by
 obtain ⟨N',d',C,rfl,h1,h2,hb,hr⟩:=h;exact ⟨N',d',rfl,hr.net hb hR,h1,h2,hb⟩
theorem qeb:(Tryz.prog.info? 141).map (λi=>(i.zero,i.size,i.bytes))=some (some (.agg #[.int .i64 0,.int .i64 0,.int .i64 0,.int .i64 0,.int .i64 0,.int .i64 0,.int .i64 0,.slice none 0 0,.slice none 0 0,.slice none 0 0]),10,128):=by kernel_rfl
set_option maxRecDepth 20000 in
theorem ref_14s (A N:Option Addr) (c d:Nat) (n:NetD) (w0 w:Zp1) (hok:n.ok) (hl0:Later w0 w) (hR:NetR w0 A N n):
  Calls Tryz.prog 27 #[.agg #[.slice A n.inn.length c,.slice N n.nodes.length d]] w (RefNetS 141 n A c w0 w):=by
 obtain ⟨i1,hj,gj,HV,HF⟩:=info_parts qc4;obtain ⟨i2,hn,HM,gf,gk⟩:=info_parts qeb;have gv:=hok.2.1;have hi:=qfD w (.cells #[.slice A n.inn.length c,.slice N n.nodes.length d] 59) (.cells #[.slice none 0 0,.slice none 0 0] 73) (.cells #[.slice A n.inn.length c,.slice none 0 0] 73);have Hp:=((Blk.new w 59 #[.slice A n.inn.length c,.slice N n.nodes.length d]).alloc (.cells #[.slice none 0 0,.slice none 0 0] 73)).alloc (.cells #[.slice A n.inn.length c,.slice none 0 0] 73);have Hc:=(Blk.new (w.alloc (.cells #[.slice A n.inn.length c,.slice N n.nodes.length d] 59)) 73 #[.slice none 0 0,.slice none 0 0]).alloc (.cells #[.slice A n.inn.length c,.slice none 0 0] 73);have He:=Blk.new ((w.alloc (.cells #[.slice A n.inn.length c,.slice N n.nodes.length d] 59)).alloc (.cells #[.slice none 0 0,.slice none 0 0] 73)) 73 #[.slice A n.inn.length c,.slice none 0 0];rw [Zh1] at Hc;rw [Zh1,Zh1] at He;obtain ⟨HU,HR,HB,Hq,Ho⟩:=zd5 hok hR Hp Hc He;clear hok hR Hp Hc He;go_enter Tryz.func27,Tryz.ntmps27;go_wp2_with fail;generalize ((w.alloc (.cells #[.slice A n.inn.length c,.slice N n.nodes.length d] 59)).alloc (.cells #[.slice none 0 0,.slice none 0 0] 73)).alloc (.cells #[.slice A n.inn.length c,.slice none 0 0] 73)=w1 at *;have Hz:=zI (show RInv 59 73 141 n A N c d w0 w 0 w1 from ⟨HB.out,Hq.out,hi,_,Ho.out,by rw [List.take_zero];exact RefRow.nil _ _ _ _⟩);clear HB Hq Ho hi
 go_loopw [15] (λi wx=>∃k:Nat,k<=n.nodes.length/\i=.int .i64 (k:Int)/\RInv 59 73 141 n A N c d w0 w k wx) (λi _=>n.nodes.length-(intOf i).toNat)
 case atStart=>exact ⟨0,Zt _,rfl,Hz.out⟩
 case round=>
  obtain ⟨k,hk,rfl,h5,hx,hD,v0,ht,hd⟩:=hrel;clear Hz;have go:=ht.lt
  by_cases Hf:k<n.nodes.length
  ·obtain ⟨b,off,S,sc,J,ic,Q,qc,rfl,hJ,gi,HW,gr⟩:=HR.out.2.at_ Hf
   have hC:=HU.out.2.2 _ (gmZ Hf);have Hr:=Zb Hf;have gn:=hC.2.2.2.1;have Hy:=hJ.2.1;have Hs:=hJ.2.2.1;have Hu:=hJ.2.2.2;generalize n.nodes[k]=v at *;obtain ⟨⟨y0,y1,y2,y3,y4,y5,y6,y7,y8,y9⟩,-⟩:=hJ.below (hl0.call hD);have hv:=(Blk.new wr 127 #[.int .i64 v.op.kind,.int .i64 v.op.k,.int .i64 v.op.width,.int .i64 v.op.step,.int .i64 v.op.side,.int .i64 v.op.frm,.int .i64 v.op.to,.slice S v.op.s.length sc,.slice J v.ins.length ic,.slice Q v.p.length qc]).alloc (.cells #[.int .i64 v.op.kind,.int .i64 v.op.k,.int .i64 v.op.width,.int .i64 v.op.step,.int .i64 v.op.side,.int .i64 v.op.frm,.int .i64 v.op.to,.slice S v.op.s.length sc,.slice J v.ins.length ic,.slice none 0 0] 141);have hc:=Blk.new (wr.alloc (.cells #[.int .i64 v.op.kind,.int .i64 v.op.k,.int .i64 v.op.width,.int .i64 v.op.step,.int .i64 v.op.side,.int .i64 v.op.frm,.int .i64 v.op.to,.slice S v.op.s.length sc,.slice J v.ins.length ic,.slice Q v.p.length qc] 127)) 141 #[.int .i64 v.op.kind,.int .i64 v.op.k,.int .i64 v.op.width,.int .i64 v.op.step,.int .i64 v.op.side,.int .i64 v.op.frm,.int .i64 v.op.to,.slice S v.op.s.length sc,.slice J v.ins.length ic,.slice none 0 0];rw [Zh1] at hc;have HO:Below wr.heap.size wr ((wr.alloc (.cells #[.int .i64 v.op.kind,.int .i64 v.op.k,.int .i64 v.op.width,.int .i64 v.op.step,.int .i64 v.op.side,.int .i64 v.op.frm,.int .i64 v.op.to,.slice S v.op.s.length sc,.slice J v.ins.length ic,.slice Q v.p.length qc] 127)).alloc (.cells #[.int .i64 v.op.kind,.int .i64 v.op.k,.int .i64 v.op.width,.int .i64 v.op.step,.int .i64 v.op.side,.int .i64 v.op.frm,.int .i64 v.op.to,.slice S v.op.s.length sc,.slice J v.ins.length ic,.slice none 0 0] 141)):=qdD wr _ _;obtain ⟨h6,h7,Hn,hz,gp,gb,HG,gh,ge⟩:=zd9 h5 hx ht hd hJ hC Hr Hy Hs;obtain ⟨HT,h8,hK⟩:=zd3 Hu hv hc;clear h5 hx ht hd hJ hC Hr Hy Hs Hu hv hc;go_wp2_with fail;clear y0 y1 y2 y3 y4 y5 y6 y7 y8 y9;generalize ((wr.alloc (.cells #[.int .i64 v.op.kind,.int .i64 v.op.k,.int .i64 v.op.width,.int .i64 v.op.step,.int .i64 v.op.side,.int .i64 v.op.frm,.int .i64 v.op.to,.slice S v.op.s.length sc,.slice J v.ins.length ic,.slice Q v.p.length qc] 127)).alloc (.cells #[.int .i64 v.op.kind,.int .i64 v.op.k,.int .i64 v.op.width,.int .i64 v.op.step,.int .i64 v.op.side,.int .i64 v.op.frm,.int .i64 v.op.to,.slice S v.op.s.length sc,.slice J v.ins.length ic,.slice none 0 0] 141))=w2 at *
   obtain ⟨wo,rfl⟩:∃wo,wo=wr:=⟨wr,rfl⟩
   go_loopw [50] (λi wx=>∃(m:Nat) (vs:List Value) (u:Value),m<=v.p.length/\i=.int .i64 (m:Int)/\Blk wx wo.heap.size 127 #[.int .i64 v.op.kind,.int .i64 v.op.k,.int .i64 v.op.width,.int .i64 v.op.step,.int .i64 v.op.side,.int .i64 v.op.frm,.int .i64 v.op.to,.slice S v.op.s.length sc,.slice J v.ins.length ic,.slice Q v.p.length qc]/\Blk wx (wo.heap.size+1) 141 #[.int .i64 v.op.kind,.int .i64 v.op.k,.int .i64 v.op.width,.int .i64 v.op.step,.int .i64 v.op.side,.int .i64 v.op.frm,.int .i64 v.op.to,.slice S v.op.s.length sc,.slice J v.ins.length ic,u]/\wx.ownsRow (wo.heap.size+2) 23 1 u m vs/\RowOf w0 vs (v.p.take m)/\Below wo.heap.size wo wx/\wo.heap.size+2<=wx.heap.size) (λi _=>v.p.length-(intOf i).toNat)
   case atStart=>exact ⟨0,[],_,Zt _,rfl,h8.out,hK.out,World.ownsRow_nil _ _ _ _,RowOf.nil _,HO,by have:=hK.out.lt;omega⟩
   case round=>
    obtain ⟨m,vs,u,hm,rfl,hv,hc,hown,hI,hi,gt⟩:=hrel;clear h8 hK;obtain ⟨A9,c9,rfl⟩:=qaj hown
    by_cases Hx:m<v.p.length
    ·have hl:=hD.trans (hi.mono hD.size)
     obtain ⟨b5,o5,Ss,cs,rfl,-,HD,Hb,H8,HH⟩:=HT.out m Hx;have HE:=qa1 (hl0.call hl) HD;have ha:=hI.push Hb H8 HH;rw [←Zb Hx] at ha;have y9:wr.cell? ⟨wo.heap.size+1,9,none⟩=some (.slice A9 m c9):=by rw [hc.cell];rfl
     have f9:=hc.frozen 9;generalize v.p[m]=t at *;have ho:=qaz hown (.cells #[.slice Ss t.length cs] 23);have hB:=hi.alloc hi.size (.cells #[.slice Ss t.length cs] 23);have hY:=hv.alloc (.cells #[.slice Ss t.length cs] 23);have hW:=hc.alloc (.cells #[.slice Ss t.length cs] 23);have hG:∀b,(Zb1 A9 m c9).ownBlock=some b->wo.heap.size+2<=b:=λb hb=>(hown.lt b hb).1
     obtain ⟨h8,hK,Ht,hZ,Hk,Hd,hw,gu⟩:=zd8 hv hc hI ha hY hW hG Hb;clear hv hc hI ha hY hW hG Hb;clear hown HD;go_wp2_with (at_builtin;refine wpList_append_own_at _ rfl _ _ 128 rfl (wo.heap.size+2) 23 i1 (.slice none 0 0) 1 24 Tryz.underlying128 hj gj HV HF rfl dZ _ _ _ rfl ho ⟨wr.heap.size,0,none⟩ 1 1 [.slice Ss t.length cs] rfl rfl ?c1 (by intro u hu;simp at hu;subst hu;rfl) (by unfold maxLen;omega) oZ ?c2 ?_)
     first|(case c1=>exact qbB wr _ _)|skip
     case c2=>first|(simp;omega)|omega
     intro v' w3 he hgrow _ gl;obtain ⟨A8,c8,rfl⟩:=qaj he;have ht:Below wo.heap.size wo w3:=hB.grown hgrow hB.size (λb hb=>by have:=hw.out b hb;omega);have HS:=hgrow.size;simp at HS;have hO:=Hk.out.grown hgrow (λe=>by have:=hw.out _ e.symm;omega);have hq:=Hd.out.grown hgrow (λe=>by have:=hw.out _ e.symm;omega);have y9':w3.cell? ⟨wo.heap.size+1,9,none⟩=some (.slice A9 m c9):=by rw [hq.cell];rfl
     have f9':=hq.frozen 9;have HK:=zI (hO.far (p:=⟨wo.heap.size+1,9,none⟩) sZ (.slice A8 (m+1) c8));have hV:=hq.set_ 9 (.slice A8 (m+1) c8);have HY:=zI (show Blk (w3.setCell ⟨wo.heap.size+1,9,none⟩ (.slice A8 (m+1) c8)) (wo.heap.size+1) 141 #[.int .i64 v.op.kind,.int .i64 v.op.k,.int .i64 v.op.width,.int .i64 v.op.step,.int .i64 v.op.side,.int .i64 v.op.frm,.int .i64 v.op.to,.slice S v.op.s.length sc,.slice J v.ins.length ic,.slice A8 (m+1) c8] from hV);have H7:=ht.setCell (p:=⟨wo.heap.size+1,9,none⟩) sZ (.slice A8 (m+1) c8);have H0:=zI (qag (w':=w3.setCell ⟨wo.heap.size+1,9,none⟩ (.slice A8 (m+1) c8)) he (λg hg=>Below.heap_setCell w3 _ _ g (by have:=(he.lt g hg).1;simp;omega)));clear he hgrow gl ho hB hO hq hV y9 f9;go_wp2_with fail;go_roundw
     case rel=>exact ⟨m+1,_,_,by omega,by go_num,HK.out,HY.out,H0.out,hZ.out,H7,by simp;omega⟩
     case measure=>simp [intOf];omega
    ·obtain rfl:m=v.p.length:=by omega
     rw [Zg] at hI;have hl:=hD.trans (hi.mono hD.size);obtain ⟨y0,y1,y2,y3,y4,y5,y6,y7,y8,y9⟩:wr.cell? ⟨wo.heap.size+1,0,none⟩=some (.int .i64 v.op.kind)/\wr.cell? ⟨wo.heap.size+1,1,none⟩=some (.int .i64 v.op.k)/\wr.cell? ⟨wo.heap.size+1,2,none⟩=some (.int .i64 v.op.width)/\wr.cell? ⟨wo.heap.size+1,3,none⟩=some (.int .i64 v.op.step)/\wr.cell? ⟨wo.heap.size+1,4,none⟩=some (.int .i64 v.op.side)/\wr.cell? ⟨wo.heap.size+1,5,none⟩=some (.int .i64 v.op.frm)/\wr.cell? ⟨wo.heap.size+1,6,none⟩=some (.int .i64 v.op.to)/\wr.cell? ⟨wo.heap.size+1,7,none⟩=some (.slice S v.op.s.length sc)/\wr.cell? ⟨wo.heap.size+1,8,none⟩=some (.slice J v.ins.length ic)/\wr.cell? ⟨wo.heap.size+1,9,none⟩=some (.slice A9 v.p.length c9):=⟨hc.cell 0,hc.cell 1,hc.cell 2,hc.cell 3,hc.cell 4,hc.cell 5,hc.cell 6,hc.cell 7,hc.cell 8,hc.cell 9⟩
     obtain ⟨L,hL,hM,HA⟩:=hz.out;obtain ⟨A0,c0,rfl,H6⟩:=hM.form;have hp:L.length=k:=by have:=congrArg List.length hL;simp at this;omega
     have hs:=Hn.out.below hi oZ;have hE:=h6.out.below hi (by have:=h6.out.lt;omega);have hA:=h7.out.below hi (by have:=h7.out.lt;omega);rw [hp] at H6;have h4:Fr (λb=>wo.heap.size<=b) wo wr:=Fr.of_below hi (λb hb hS=>by omega);have Hl:=(hM.fr h4 (λb h1 h2 h3=>by omega)).fr ((Fr.refl (λ_=>False) wr).alloc (.cells #[.int .i64 v.op.kind,.int .i64 v.op.k,.int .i64 v.op.width,.int .i64 v.op.step,.int .i64 v.op.side,.int .i64 v.op.frm,.int .i64 v.op.to,.slice S v.op.s.length sc,.slice J v.ins.length ic,.slice A9 v.p.length c9] 141)) (λb h1 h2 h3=>h3);have hy:=qaz hown (.cells #[.int .i64 v.op.kind,.int .i64 v.op.k,.int .i64 v.op.width,.int .i64 v.op.step,.int .i64 v.op.side,.int .i64 v.op.frm,.int .i64 v.op.to,.slice S v.op.s.length sc,.slice J v.ins.length ic,.slice A9 v.p.length c9] 141);have hQ:=hs.alloc (.cells #[.int .i64 v.op.kind,.int .i64 v.op.k,.int .i64 v.op.width,.int .i64 v.op.step,.int .i64 v.op.side,.int .i64 v.op.frm,.int .i64 v.op.to,.slice S v.op.s.length sc,.slice J v.ins.length ic,.slice A9 v.p.length c9] 141);have hX:=hE.alloc (.cells #[.int .i64 v.op.kind,.int .i64 v.op.k,.int .i64 v.op.width,.int .i64 v.op.step,.int .i64 v.op.side,.int .i64 v.op.frm,.int .i64 v.op.to,.slice S v.op.s.length sc,.slice J v.ins.length ic,.slice A9 v.p.length c9] 141);have h0:=hA.alloc (.cells #[.int .i64 v.op.kind,.int .i64 v.op.k,.int .i64 v.op.width,.int .i64 v.op.step,.int .i64 v.op.side,.int .i64 v.op.frm,.int .i64 v.op.to,.slice S v.op.s.length sc,.slice J v.ins.length ic,.slice A9 v.p.length c9] 141);have hF:=hl.alloc hl.size (.cells #[.int .i64 v.op.kind,.int .i64 v.op.k,.int .i64 v.op.width,.int .i64 v.op.step,.int .i64 v.op.side,.int .i64 v.op.frm,.int .i64 v.op.to,.slice S v.op.s.length sc,.slice J v.ins.length ic,.slice A9 v.p.length c9] 141);have Hv:=Blk.new wr 141 #[.int .i64 v.op.kind,.int .i64 v.op.k,.int .i64 v.op.width,.int .i64 v.op.step,.int .i64 v.op.side,.int .i64 v.op.frm,.int .i64 v.op.to,.slice S v.op.s.length sc,.slice J v.ins.length ic,.slice A9 v.p.length c9]
     have hG:∀b,(Zb1 A0 L.length c0).ownBlock=some b->w.heap.size+3<=b:=λb hb=>(hM.1.lt b hb).1
     rw [hp] at hG;have z1:wr.cell? ⟨w.heap.size+2,1,none⟩=some (.slice A0 k c0):=by rw [hs.cell,hp];rfl
     have Hj:=Hl.1;rw [hp] at Hj;obtain ⟨h8,hK,HZ,Ht,H5,gm,HQ,gg,hU⟩:=zd9 hv hc hown hI hs hE hA Hl hy;obtain ⟨Hg,Hm,Ha,HX,hw,HL,gc,gq,HJ⟩:=zd9 hQ hX h0 Hv hG hL HA hM hp;have HN:=zI Hj;clear hv hc hown hI hs hE hA Hl hy hQ hX h0 Hv hG hL HA hM hp Hj;clear hz h6 h7 Hn h4;go_wp2_with (at_builtin;refine wpList_append_own_at _ rfl _ _ 71 rfl (w.heap.size+3) 141 i2 (.agg #[.int .i64 0,.int .i64 0,.int .i64 0,.int .i64 0,.int .i64 0,.int .i64 0,.int .i64 0,.slice none 0 0,.slice none 0 0,.slice none 0 0]) 10 128 Tryz.underlying71 hn HM gf gk rfl dZ _ k (L.flatMap RQ.cells) rfl HN.out ⟨wr.heap.size,0,none⟩ 1 1 [.int .i64 v.op.kind,.int .i64 v.op.k,.int .i64 v.op.width,.int .i64 v.op.step,.int .i64 v.op.side,.int .i64 v.op.frm,.int .i64 v.op.to,.slice S v.op.s.length sc,.slice J v.ins.length ic,.slice A9 v.p.length c9] rfl rfl ?c1 ?c2 ?c3 ?c4 ?c5 ?_)
     case c1=>exact World.news_of_block (cs:=#[.int .i64 v.op.kind,.int .i64 v.op.k,.int .i64 v.op.width,.int .i64 v.op.step,.int .i64 v.op.side,.int .i64 v.op.frm,.int .i64 v.op.to,.slice S v.op.s.length sc,.slice J v.ins.length ic,.slice A9 v.p.length c9]) HX.out
     case c2=>intro u hu;simp at hu;rcases hu with rfl|rfl|rfl|rfl|rfl|rfl|rfl|rfl|rfl|rfl<;>rfl
     case c3=>unfold maxLen;omega
     case c4=>omega
     case c5=>simp;omega
     intro v7 w7 hf hH _ hr;obtain ⟨A7,c7,rfl⟩:=qaj hf;have Hw:wr.heap.size+1=(wr.alloc (.cells #[.int .i64 v.op.kind,.int .i64 v.op.k,.int .i64 v.op.width,.int .i64 v.op.step,.int .i64 v.op.side,.int .i64 v.op.frm,.int .i64 v.op.to,.slice S v.op.s.length sc,.slice J v.ins.length ic,.slice A9 v.p.length c9] 141)).heap.size:=by simp
     rw [Hw] at hr;clear Hw;have hp:=HJ.out;generalize (wr.alloc (.cells #[.int .i64 v.op.kind,.int .i64 v.op.k,.int .i64 v.op.width,.int .i64 v.op.step,.int .i64 v.op.side,.int .i64 v.op.frm,.int .i64 v.op.to,.slice S v.op.s.length sc,.slice J v.ins.length ic,.slice A9 v.p.length c9] 141))=w6 at *;have Hi:=hH;rw [←hp] at hf Hi hr;have ha:=qeB (x:=(⟨v,S,sc,J,ic,A9,c9⟩:NodeQ)) (vs:=vs) gg.out gc.out (C2:=wo.heap.size+2) oZ oZ hf Hi hr hU.out ⟨⟨gh.out,gi⟩,⟨ge.out,HW⟩,Ht.out⟩;rw [HL.out] at ha;have ha:RefRow 141 (w.heap.size+3) w7.heap.size w0 w7 (.slice A7 (L.length+1) c7) (n.nodes.take (k+1)):=by rw [HG.out];exact ha
     rw [hp] at ha;have hh:=Hg.out.grown hH (λe=>by have:=hw.out _ e.symm;omega);have hP:=Hm.out.grown hH (λe=>by have:=hw.out _ e.symm;omega);have hT:=Ha.out.grown hH (λe=>by have:=hw.out _ e.symm;omega);rw [hp] at hh;have hN:Below w.heap.size w w7:=hF.grown hH hF.size (λb hb=>by have:=hw.out b hb;omega);have z1':w7.cell? ⟨w.heap.size+2,1,none⟩=some (.slice A0 k c0):=by rw [hh.cell];rfl
     have f1':=hh.frozen 1;have h9:Fr (λb=>b=w.heap.size+2) w7 (w7.setCell ⟨w.heap.size+2,1,none⟩ (.slice A7 (k+1) c7)):=(Fr.refl (λb=>b=w.heap.size+2) w7).setCell (p:=⟨w.heap.size+2,1,none⟩) (λ_=>rfl) (.slice A7 (k+1) c7);have HP:=zI (ha.fr h9 (λb h1 h2 h3=>by omega));have H1:=zI (h9.blk hP oZ);have H2:=zI (h9.blk hT oZ);have h3:=hh.set_ 1 (.slice A7 (k+1) c7);have H3:=zI (show Blk (w7.setCell ⟨w.heap.size+2,1,none⟩ (.slice A7 (k+1) c7)) (w.heap.size+2) 73 #[.slice A n.inn.length c,.slice A7 (k+1) c7] from h3);have H4:=zI (hN.setCell (p:=⟨w.heap.size+2,1,none⟩) sZ (.slice A7 (k+1) c7));clear hf hH Hi hr ha hh hP hT hN h9 h3 hp hF hl;go_wp2_with fail;go_roundw
     case rel=>exact ⟨k+1,by omega,by go_num,H1.out,H2.out,H4.out,_,H3.out,by simpa using HP.out⟩
     case measure=>simp [intOf];omega
  ·obtain rfl:k=n.nodes.length:=by omega
   rw [Zg] at hd;obtain ⟨N',d',rfl,HI,gd,-⟩:=hd.nodes (hl0.call hD);have HC:Fr (λb=>b=w.heap.size+1) wr ((wr.setCell ⟨w.heap.size+1,0,none⟩ (.slice A n.inn.length c)).setCell ⟨w.heap.size+1,1,none⟩ (.slice N' n.nodes.length d')):=((Fr.refl (λb=>b=w.heap.size+1) wr).setCell (p:=⟨w.heap.size+1,0,none⟩) (λ_=>rfl) _).setCell (p:=⟨w.heap.size+1,1,none⟩) (λ_=>rfl) _;have Hh:Below w.heap.size w ((wr.setCell ⟨w.heap.size+1,0,none⟩ (.slice A n.inn.length c)).setCell ⟨w.heap.size+1,1,none⟩ (.slice N' n.nodes.length d')):=(hD.setCell (p:=⟨w.heap.size+1,0,none⟩) sZ _).setCell (p:=⟨w.heap.size+1,1,none⟩) sZ _;have H9:=zI (hd.fr HC (λb h1 h2 h3=>by omega));have z0:wr.cell? ⟨w.heap.size+2,0,none⟩=some (.slice A n.inn.length c):=by rw [ht.cell];rfl
   have z1:wr.cell? ⟨w.heap.size+2,1,none⟩=some (.slice N' n.nodes.length d'):=by rw [ht.cell];rfl
   have r0:wr.cell? ⟨w.heap.size+1,0,none⟩=some (.slice none 0 0):=by rw [hx.cell];rfl
   have r1:wr.cell? ⟨w.heap.size+1,1,none⟩=some (.slice none 0 0):=by rw [hx.cell];rfl
   have f0:=hx.frozen 0;have f1:=hx.frozen 1;clear HC;obtain ⟨h6,h7,Hn,hz⟩:=zd4 h5 hx ht hd;clear h5 hx ht hd;go_wp2_with fail;exact Zk1 (v:=.agg #[.slice A n.inn.length c,.slice N' n.nodes.length d']) (by simp [results,Tryz.results27,go_sem,r0,r1]) rfl ⟨N',d',_,rfl,HI,gd,Hh,H9.out⟩
theorem ref_14 (A N:Option Addr) (c d:Nat) (n:NetD) (w:Zp1) (hok:n.ok) (hR:NetR w A N n):
  Calls Tryz.prog 27 #[.agg #[.slice A n.inn.length c,.slice N n.nodes.length d]] w (qgD n A c w):=
 (ref_14s A N c d n w w hok (Later.refl _) hR).mono λ_ _ h=>h.netp hR
end Go.Proofs.YtbnnpkcfifejmaaGreat
