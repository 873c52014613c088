/- Lemmas for the statements of this seat: contracts of functions and the plain laws. -/
import Derived.Deep.RegionHeld3
import Derived.LoopIn
import Derived.LoopNIn
import Derived.OrdersIn
import Derived.OwnWalkIn
import Derived.RangeFuncBound
import Derived.RangeFuncCalls
import Derived.RangeFuncLeaves
import Derived.RangeFuncNested
import Derived.TacticsInMore
import Derived.Test.YtbnnpkcfifejmaaGreatZ04
set_option linter.unusedVariables false
open List renaming take_succ_eq_append_getElem → Zb, replicate → Zc, drop_eq_getElem_cons → Zd, length_append → Ze, all_eq_true → Zf, take_length → Zg, mem_of_mem_take → Zh, getElem?_eq_none → Zi, flatMap_append → Zj, getElem?_toArray → Zk, getElem?_append_right → Zl, getElem?_append_left → Zm, take_append_drop → Zn, length_take → Zo, mem_of_mem_drop → Zp, length_drop → Zq, getElem?_set_self → Zr, getElem?_set_ne → Zs
open Nat renaming zero_le → Zt, succ_mul → Zu, le_trans → Zv, zero_add → Zw, add_zero → Zx, le_succ → Zy
open Bool renaming and_eq_true → Zz
open Go.Value renaming int → Za1, slice → Zb1
open Go.IntWalk renaming i64_in → Zc1
open Go.NoPanic renaming normal → Zd1
open Go.RowKit.Below renaming refl → Ze1
open Go.AllReadyH renaming cons → Zf1, nil → Zg1
open Go.World renaming size_alloc → Zh1, cell?_of_block → Zi1, block_lt_of_cell? → Zj1
open Go renaming bodyPost_ret → Zk1, wp_region_held_drew → Zl1, wp_region_noPanic → Zm1, wpAnyH_done → Zn1, wpAnyH_ready → Zo1, World → Zp1
namespace Go.Proofs.YtbnnpkcfifejmaaGreat
set_option maxHeartbeats 16000000
open Go.RowKit
theorem qe2 {t:Ten} (h:Tn.right t=true) (h2:t.s.length=2):∃m n:Nat,Ly.at_ t.s 0=(m:Int)/\Ly.at_ t.s 1=(n:Int)/\1<=m/\1<=n/\m<=1024/\n<=1024/\t.c.length=m*n/\m*n<=65536:=by
 obtain ⟨s,c⟩:=t;simp only at h2
 match s,h2 with
 | [a,b],_=>
  simp only [Tn.right,Zz,decide_eq_true_eq] at h;obtain ⟨_,_,_,hc,_,hp⟩:=Sh.right_mul h.1;have ha:=hc a sZ;have hb:=hc b sZ;simp only [Safe.prod,Int.mul_one] at hp h;have e:(a.toNat * b.toNat:Nat)=a*b:=by rw [Int.natCast_mul];rw [Int.toNat_of_nonneg oZ,Int.toNat_of_nonneg oZ]
  refine ⟨a.toNat,b.toNat,by show a=_;omega,by show b=_;omega,by omega,by omega,by omega,by omega,?_,?_⟩
  ·show c.length=_;omega
  ·omega
theorem qc8 (S:Option Addr) (b off:Nat) (c d:Nat) (t:Ten) (m n i:Nat) (w:Zp1) (ht:TenIn w S (some ⟨b,off,none⟩) c d t) (h2:2<=t.s.length) (hn:Ly.at_ t.s 1=(n:Int)) (hc:t.c.length=m*n) (hi:i<m) (hn1:1<=n) (hm:m*n<=65536):
  Calls Tryz.prog 53 #[.agg #[.slice S t.s.length c,.slice (some ⟨b,off,none⟩) t.c.length d],.int .i64 i] w λe w'=>e=.returned (.slice (some ⟨b,off+i*n,none⟩) n n)/\Below w.heap.size w w':=by
 have ha:Later w (w.alloc (.cells #[.slice S t.s.length c,.slice (some ⟨b,off,none⟩) t.c.length d] 30)):=(Later.refl w).alloc _;have hk:=Blk.new w 30 #[.slice S t.s.length c,.slice (some ⟨b,off,none⟩) t.c.length d];have hT:=ht.later ha;have he:=ht.c1;have hf:=ht.c2;have hb:(i+1)*n<=m*n:=mlZ _ hi;rw [Zu] at hb;obtain ⟨p,hp⟩:∃p,p=i*n:=⟨_,rfl⟩
 rw [←hp] at hb ⊢;have e1:(i:Int)*(n:Int)=(p:Int):=by rw [hp];simp
 have e2:((i:Int)+1)*(n:Int)=(p:Int)+(n:Int):=by rw [hp,Int.add_mul];simp
 have b1:p+n<=t.c.length:=by omega
 have k2:(1:Int)<(t.s.length:Int):=by omega
 have k4:1<t.s.length:=by omega
 have q1:(0:Int)<=(p:Int):=by omega
 have q2:(p:Int)<=65536:=by omega
 have q3:(p:Int)+(n:Int)<=(d:Int):=by omega
 have q4:(p:Int)+(n:Int)<=65536:=by omega
 have q5:(n:Int)<=65536:=by omega
 have q6:(i:Int)<=65536:=by
  have:i*1<=i*n:=Nat.mul_le_mul_left _ hn1;omega
 obtain ⟨HT,HN⟩:=zd2 hT hn;clear ht hn hc hp hb hT;obtain ⟨hd,Hk⟩:=zd2 ha hk;clear ha hk;go_enter Tryz.func53,Tryz.ntmps53;go_upto_region 1 with fail;generalize w.alloc (.cells #[.slice S t.s.length c,.slice (some ⟨b,off,none⟩) t.c.length d] 30)=w1 at *;have c0:w1.cell? ⟨w.heap.size,0,none⟩=some (.slice S t.s.length c):=by rw [Hk.out.cell];rfl
 have c1:w1.cell? ⟨w.heap.size,1,none⟩=some (.slice (some ⟨b,off,none⟩) t.c.length d):=by rw [Hk.out.cell];rfl
 obtain ⟨bs,os,rfl,-,y0⟩:=HT.out.r.1 1 oZ;have y1:w1.cell? ⟨bs,os+1,none⟩=some (.int .i64 n):=by rw [y0];exact congrArg (λz=>some (Za1 .i64 z)) HN.out
 clear y0;go_upto_region 2 with fail;go_wp2_with fail;rw [Nat.add_sub_cancel_left];go_ret;exact ⟨rfl,hd.out⟩
namespace Ly
theorem dense_err {w b x:Ten} (h:denseOk w b x=false):dense w b x=(none_,20):=by simp [dense,h]
theorem dense_ok {w b x:Ten} (h:denseOk w b x=true):dense w b x=(⟨b.s,tab b.c.length λi=>Fx.add (Fx.dot (rowOf w.c x.c.length i) x.c) (at_ b.c i)⟩,0):=by simp [dense,h]
theorem row_len {w:List Int} {m n i:Nat} (h:w.length=m*n) (hi:i<m):(rowOf w n i).length=n:=by
 have:(i+1)*n<=m*n:=mlZ _ hi;rw [Zu] at this;unfold rowOf;rw [Zo,Zq];omega
theorem row_in {w:List Int} {n i:Nat} (h:∀z∈w,Fx.In z):∀z∈rowOf w n i,Fx.In z:=λz hz=>h z (Zp (Zh hz))
theorem row_at {w:List Int} {n i j:Nat} (hj:j<n):(rowOf w n i).getD j 0=w.getD (i*n+j) 0:=by
 unfold rowOf;simp only [gdZ];rw [List.getElem?_take,if_pos hj,List.getElem?_drop]
end Ly
theorem TenIn.row {w:Zp1} {S:Option Addr} {b off c d:Nat} {t:Ten} (h:TenIn w S (some ⟨b,off,none⟩) c d t) {m n i:Nat} (hc:t.c.length=m*n) (hi:i<m):Ints .i64 w (some ⟨b,off+i*n,none⟩) (Ly.rowOf t.c n i):=Ints.of_row λj hj=>by
 rw [Ly.row_len hc hi] at hj;have h1:(i+1)*n<=m*n:=mlZ _ hi;rw [Zu] at h1;obtain ⟨b',off',e,-,ha⟩:=h.r.2 (i*n+j) oZ;injection e with e;injection e with e1 e2;subst e1 e2
 rw [Nat.add_assoc,ha,Ly.row_at hj]
theorem qeP {b:Ten} {m:Int} (h:Tn.right b=true) (hs:b.s=[m]):(b.c.length:Int)=m:=by
 simp only [Tn.right,Zz,decide_eq_true_eq] at h;rw [h.2,hs];simp [Safe.prod]
theorem qbt (w:Zp1) (t t' t2 t3:TypeId) (a b z y:Array Value):Blk ((((w.alloc (.cells a t)).alloc (.cells b t')).alloc (.cells z t2)).alloc (.cells y t3)) w.heap.size t a/\Blk ((((w.alloc (.cells a t)).alloc (.cells b t')).alloc (.cells z t2)).alloc (.cells y t3)) (w.heap.size+1) t' b/\Blk ((((w.alloc (.cells a t)).alloc (.cells b t')).alloc (.cells z t2)).alloc (.cells y t3)) (w.heap.size+2) t2 z/\Blk ((((w.alloc (.cells a t)).alloc (.cells b t')).alloc (.cells z t2)).alloc (.cells y t3)) (w.heap.size+3) t3 y/\Later w ((((w.alloc (.cells a t)).alloc (.cells b t')).alloc (.cells z t2)).alloc (.cells y t3)):=by
 obtain ⟨h1,h2,h3,h4⟩:=qal w t t' t2 a b z;refine ⟨h1.alloc _,h2.alloc _,h3.alloc _,?_,h4.alloc _⟩;have:=Blk.new (((w.alloc (.cells a t)).alloc (.cells b t')).alloc (.cells z t2)) t3 y
 rwa [Zh1,Zh1,Zh1] at this
theorem dense_go (S C S' C' S2 C2:Option Addr) (c d c' d' c2 d2:Nat) (t b x:Ten) (w:Zp1) (ht:TenIn w S C c d t) (hb:TenIn w S' C' c' d' b) (hx:TenIn w S2 C2 c2 d2 x):
  Calls Tryz.prog 94 #[.agg #[.slice S t.s.length c,.slice C t.c.length d],.agg #[.slice S' b.s.length c',.slice C' b.c.length d'],.agg #[.slice S2 x.s.length c2,.slice C2 x.c.length d2]] w (GoP (Ly.dense t b x) w):=by
 obtain ⟨HB,Hp,Hy,hz,HF⟩:=qbt w 30 30 30 30 #[.slice S t.s.length c,.slice C t.c.length d] #[.slice S' b.s.length c',.slice C' b.c.length d'] #[.slice S2 x.s.length c2,.slice C2 x.c.length d2] #[.slice none 0 0,.slice none 0 0];obtain ⟨Hs,HS,Hr,Hz,hv,Ht,Hb,Hx⟩:=zd8 HB Hp Hy hz HF ht hb hx;clear HB Hp Hy hz HF ht hb hx;go_enter Tryz.func94,Tryz.ntmps94;go_wp2_with fail;generalize (((w.alloc (.cells #[.slice S t.s.length c,.slice C t.c.length d] 30)).alloc (.cells #[.slice S' b.s.length c',.slice C' b.c.length d'] 30)).alloc (.cells #[.slice S2 x.s.length c2,.slice C2 x.c.length d2] 30)).alloc (.cells #[.slice none 0 0,.slice none 0 0] 30)=w1 at *;refine (qcE S C S' C' S2 C2 c d c' d' c2 d2 t b x w1 (Ht.out.later hv.out) (Hb.out.later hv.out) (Hx.out.later hv.out)).mono ?_;rintro e w2 ⟨rfl,HM⟩;have hr:Later w1 w2:=HM;have hU:=hv.out.trans hr;have hf:=hr.blk Hz.out;have hQ:=hr.blk Hs.out;have hq:=hr.blk HS.out;have hY:=hr.blk Hr.out;clear HM Hz hv Hs HS Hr hr;cases hg:Ly.denseOk t b x
 ·have HE:=zI (Ly.dense_err hg)
  clear hg;have c0:=hf.cell 0;have c1:=hf.cell 1;have f0:=hf.frozen 0;have f1:=hf.frozen 1;simp at c0 c1;obtain ⟨hJ,hX,Hh,HG,h7⟩:=zd5 hU hf hQ hq hY;clear hU hf hQ hq hY;go_wp2_with fail;refine Zk1 (v:=.tuple #[.agg #[.slice none 0 0,.slice none 0 0],.int .i64 20]) (by simp [results,Tryz.results94,go_sem,c0,c1]) rfl ?_;exact GoP.fail HE.out dZ ((hJ.out.set (p:=⟨w.heap.size+3,0,none⟩) sZ _).set (p:=⟨w.heap.size+3,1,none⟩) sZ _)
 obtain ⟨HP,Hc,h9,gj,HJ,H6⟩:=Ly.dense_yes hg;obtain ⟨m,n,gf,Hv,gm,HQ,Hd,gy,HN,gh⟩:=qe2 HP Hc;have HE:=zI (Ly.dense_ok hg);have HU:b.c.length=m:=by have:=qeP h9 HJ;omega
 have h1:x.c.length=n:=by omega
 obtain ⟨r1,r2⟩:=Ly.right_ok h9;rw [h1] at HE;generalize hR:(Ly.tab b.c.length λi=>Fx.add (Fx.dot (Ly.rowOf t.c n i) x.c) (Ly.at_ b.c i))=R at *;have Hu:R.length=b.c.length:=by rw [←hR,Ly.tab_len]
 have Hw:∀i (hi:i<R.length),R[i]=Fx.add (Fx.dot (Ly.rowOf t.c n i) x.c) (Ly.at_ b.c i):=λi hi=>by subst hR;exact Ly.tab_get hi
 have hB:∀z∈R,Fx.In z:=by rw [←hR];exact Ly.tab_in λi _=>Fx.add_in _ _
 have x2:=hq.cell 0;have x3:=hq.cell 1;simp at x2 x3;obtain ⟨hn,H5,HW,hW,gl,H8⟩:=zd6 Hu HU h1 HN Hv Hc;clear hR hg HP h9 gj HJ H6 gf Hv HU h1 HN Hc Hu;obtain ⟨hJ,hX,Hh,HG,h7,H3,h8⟩:=zd7 hU hf hQ hq hY Hw hB;clear hU hf hQ hq hY Hw hB;go_wp2_with fail;have X3:=zI x3;clear x2 x3;refine (qa8 S' C' c' d' b w2 oZ oZ (Hb.out.later hJ.out).r).mono ?_;rintro e w3 ⟨v,rfl,⟨g,h,rfl,hg,hh,hG,hH⟩,HX⟩;have hT:Later w2 w3:=HX;have hL:Later w3 (w3.alloc (.cells #[.slice (some ⟨g,0,none⟩) b.s.length b.s.length,.slice (some ⟨h,0,none⟩) b.c.length b.c.length] 30)):=(Later.refl w3).alloc _;have ho:=Blk.new w3 30 #[.slice (some ⟨g,0,none⟩) b.s.length b.s.length,.slice (some ⟨h,0,none⟩) b.c.length b.c.length];have hj:=hT.trans hL;have HK:=hJ.out.trans hj;have HA:=hj.blk hX.out;have hO:=hj.blk Hh.out;have hD:=hj.blk h7.out;have Hl:=hL.blk hG;have HV:=hL.blk hH;have gx:=hJ.out.size;have gq:=hT.size;have gu:=hH.lt;have gw:=hG.lt;have gp:=hX.out.lt;have Ha:=qb1 hG hH;have x3:=hj.cell X3.out;clear HX hX Hh HG h7 hG hH X3;have X3:=zI x3;clear x3;obtain ⟨gb,ge,Ho,gt,gi,gk,h0,h4,H2⟩:=zd9 hT hL ho hj HK HA hO hD Hl;have H7:=zI HV;clear hT hL ho hj HK HA hO hD Hl HV;go_upto_region 4 with fail;generalize w3.alloc (.cells #[.slice (some ⟨g,0,none⟩) b.s.length b.s.length,.slice (some ⟨h,0,none⟩) b.c.length b.c.length] 30)=w4 at *;generalize hpe:w3.heap.size=p at *;have gv:h<p:=by omega
 have go:w.heap.size+3<p:=by omega
 have He:w.heap.size+3<h:=by omega
 have x3:=X3.out;clear X3 ge gb hpe;go_wp2_with fail;clear x3;have HI:Blk w4 h 22 ((R.take 0++b.c.drop 0).map (Za1 .i64)).toArray:=by simpa using H7.out
 have HH:=zI HI;clear HI
 go_loopw [22] (λi wx=>∃k:Nat,k<=b.c.length/\i=.int .i64 (k:Int)/\Blk wx h 22 ((R.take k++b.c.drop k).map (Za1 .i64)).toArray/\Blk wx p 30 #[.slice (some ⟨g,0,none⟩) b.s.length b.s.length,.slice (some ⟨h,0,none⟩) b.c.length b.c.length]/\Blk wx (w.heap.size+3) 30 #[.slice none 0 0,.slice none 0 0]/\Blk wx w.heap.size 30 #[.slice S t.s.length c,.slice C t.c.length d]/\Blk wx (w.heap.size+2) 30 #[.slice S2 x.s.length c2,.slice C2 x.c.length d2]/\Blk wx g 3 (b.s.map (Za1 .i64)).toArray/\Later w wx) (λi _=>b.c.length-(intOf i).toNat)
 case atStart=>exact ⟨0,Zt _,rfl,HH.out,Ho.out,gk.out,h0.out,h4.out,H2.out,gi.out⟩
 case round=>
  obtain ⟨k,hk,rfl,hm,hl,hc,hs,hM,hS,he⟩:=hrel;clear HH
  by_cases H9:k<b.c.length
  ·have Hi:k<m:=by have:=H5.out;omega
   have ha:k<R.length:=by have:=hn.out;omega
   obtain ⟨b2,off2,rfl,-,gr⟩:=(Hb.out.later he).cell H9;obtain ⟨bt,ot,rfl,-,-⟩:=Ht.out.cell (k:=0) (by have:=hW.out;have:1*1<=m*n:=Nat.mul_le_mul gm HQ;omega);have Hk:=Ly.mid_step R b.c ha hn.out;have hA:=Ly.mid_len R b.c k oZ hn.out;have HL:=H3.out k ha;have hy:=Ly.at_in Hb.out.num k;have HR:=Ly.row_len hW.out Hi;have HC:=Ly.row_in (n:=n) (i:=k) Ht.out.num;have Hq:=λ(V:Zp1) (hV:Later wr V)=>qc8 S bt ot c d t m n k V (Ht.out.later (he.trans hV)) (by have:=H8.out;omega) gl.out hW.out Hi HQ gh
   have HO:=λ(V:Zp1) (hV:Later wr V)=>(show Calls Tryz.prog 142 #[.slice (some ⟨bt,ot+k*n,none⟩) n n,.slice C2 x.c.length d2] V λe w'=>e=.returned (.int .i64 (Fx.dot (Ly.rowOf t.c n k) x.c))/\∃q,w'=V.drewN q from by
    have hd:=fix_dot (some ⟨bt,ot+k*n,none⟩) C2 n d2 (Ly.rowOf t.c n k) x.c V oZ (by have:=HW.out;omega) ((Ht.out.later (he.trans hV)).row hW.out Hi) (Hx.out.later (he.trans hV)).r.2 HC Hx.out.num;rw [HR] at hd;rw [show x.c.length=n from HW.out];exact hd)
   have HD:=λ(V:Zp1)=>qaM (Fx.dot (Ly.rowOf t.c n k) x.c) (Ly.at_ b.c k) V (Fx.dot_in _ _) hy
   rw [HL] at Hk;generalize Fx.dot (Ly.rowOf t.c n k) x.c=dk at *;generalize Ly.at_ b.c k=bk at *;have o1:wr.cell? ⟨p,1,none⟩=some (.slice (some ⟨h,0,none⟩) b.c.length b.c.length):=by rw [hl.cell];rfl
   have t0:wr.cell? ⟨w.heap.size,0,none⟩=some (.slice S t.s.length c):=by rw [hs.cell];rfl
   have t1:wr.cell? ⟨w.heap.size,1,none⟩=some (.slice (some ⟨bt,ot,none⟩) t.c.length d):=by rw [hs.cell];rfl
   have xx1:wr.cell? ⟨w.heap.size+2,1,none⟩=some (.slice C2 x.c.length d2):=by rw [hM.cell];rfl
   obtain ⟨u,hu⟩:∃u,wr.cell? ⟨h,k,none⟩=some u:=⟨_,hm.row_get (by rw [hA];exact ha)⟩
   have kk1:(k:Int)<(b.c.length:Int):=by omega
   have kk2:(0:Int)<=(k:Int):=by omega
   clear hA HL hy ha HR HC;obtain ⟨Hm,H0,HY,Hn,HT,Hg,gc,gd,H4⟩:=zd9 hm hl hc hs hM hS Hk Hq HO;obtain ⟨H1,h6⟩:=zd2 HD he;clear hm hl hc hs hM hS Hk Hq HO HD he;go_wp2_with fail;have KF:=zI (show ∀Xw,Later wr Xw->Xw.cell? ⟨p,1,none⟩=some (.slice (some ⟨h,0,none⟩) b.c.length b.c.length)/\Xw.cell? ⟨w.heap.size,0,none⟩=some (.slice S t.s.length c)/\Xw.cell? ⟨w.heap.size,1,none⟩=some (.slice (some ⟨bt,ot,none⟩) t.c.length d)/\Xw.cell? ⟨w.heap.size+2,1,none⟩=some (.slice C2 x.c.length d2) from λXw h=>⟨h.cell o1,h.cell t0,h.cell t1,h.cell xx1⟩);refine Zm1 ?_;refine Zl1 (S:=λXw=>Xw.cell? ⟨p,1,none⟩=some (.slice (some ⟨h,0,none⟩) b.c.length b.c.length)/\Xw.cell? ⟨w.heap.size,0,none⟩=some (.slice S t.s.length c)/\Xw.cell? ⟨w.heap.size,1,none⟩=some (.slice (some ⟨bt,ot,none⟩) t.c.length d)/\Xw.cell? ⟨w.heap.size+2,1,none⟩=some (.slice C2 x.c.length d2)) krZ (KF.out _ Lau) (λhHeld=>?_);refine tk 0 ?_;refine tk 1 ?_;refine tk 2 ?_;refine tk 3 ?_;refine tk 4 ?_;refine tk 6 ?_;refine tk 7 ?_;refine tk 9 ?_;refine rd 5 λK hK=>?_
   simp only [ga,gs,gz]
   go_simp
   go_at_call 53;(with_reducible refine (gd.out _ (Lau:Later wr _)).mono ?_);rintro e wa ⟨rfl,gn⟩
   try go_wp2_with fail
   refine hK.out _ _ (KF.out _ Lau) (λhHeld=>?_);clear hK K
   try simp only [ga,gs,gz,Act.put,sa,sz,ss]
   refine rd 8 λK hK=>?_
   simp only [ga,gs,gz]
   go_simp
   go_at_call 142;(with_reducible refine (H4.out _ (Lau:Later wr _)).mono ?_);rintro e wb ⟨rfl,qd,rfl⟩
   try go_wp2_with fail
   refine hK.out _ _ (KF.out _ Lau) (λhHeld=>?_);clear hK K
   try simp only [ga,gs,gz,Act.put,sa,sz,ss]
   refine rd 10 λK hK=>?_
   simp only [ga,gs,gz]
   go_simp
   go_at_call 55;(with_reducible refine (H1.out _).mono ?_);rintro e wc ⟨rfl,rfl⟩;have gA:=Later.cell (Lau:Later wr (wa.drewN qd)) hu;have fu2:=(Later.blk (Lau:Later wr (wa.drewN qd)) Hm.out).frozen k
   try go_wp2_with fail
   refine hK.out _ _ (KF.out _ Lau) (λhHeld=>?_);clear hK K
   try simp only [ga,gs,gz,Act.put,sa,sz,ss]
   refine tk 11 ?_;refine rd 12 λK hK=>?_
   simp only [ga,gs,gz]
   go_simp
   refine hK.out _ _ ?_ (λhHeld=>?_)
   ·(try dsimp only);(refine ⟨?_,?_,?_,?_⟩<;>(repeat (refine qa0 ?_ (by first|omega|(simp;done)|(simp;omega))))<;>(refine Later.cell (Lau:Later wr _) ?_)<;>assumption)
   clear hK K
   try simp only [ga,gs,gz,Act.put,sa,sz,ss]
   clear KF;refine Zn1 krZ ?_ _;refine Zd1 ?_;have hp:Later wr (wa.drewN qd):=(Lau:Later wr (wa.drewN qd))
   have Hd:Blk ((wa.drewN qd).setCell ⟨h,k,none⟩ (.int .i64 (Fx.add dk bk))) h 22 ((R.take (k+1)++b.c.drop (k+1)).map (Za1 .i64)).toArray:=by
    have:=(hp.blk Hm.out).set_ k (.int .i64 (Fx.add dk bk));rw [←gc.out,List.map_set];simpa using this
   have hF:=(hp.blk H0.out).far (p:=⟨h,k,none⟩) soZ (.int .i64 (Fx.add dk bk));have hN:=(hp.blk HY.out).far (p:=⟨h,k,none⟩) soZ (.int .i64 (Fx.add dk bk));have hI:=(hp.blk Hn.out).far (p:=⟨h,k,none⟩) soZ (.int .i64 (Fx.add dk bk));have hE:=(hp.blk HT.out).far (p:=⟨h,k,none⟩) soZ (.int .i64 (Fx.add dk bk));have hC:Blk ((wa.drewN qd).setCell ⟨h,k,none⟩ (.int .i64 (Fx.add dk bk))) g 3 (b.s.map (Za1 .i64)).toArray:=(hp.blk Hg.out).far (p:=⟨h,k,none⟩) Ha (.int .i64 (Fx.add dk bk));have hw:=(h6.out.trans hp).set (p:=⟨h,k,none⟩) soZ (.int .i64 (Fx.add dk bk));obtain ⟨gg,hZ,h5,Hj,h2,h3,Hf⟩:=zd7 Hd hF hN hI hE hC hw;clear Hd hF hN hI hE hC hw;go_wp2_with fail;go_roundw
   case rel=>exact ⟨k+1,by omega,by go_num,gg.out,hZ.out,h5.out,Hj.out,h2.out,h3.out,Hf.out⟩
   case measure=>simp [intOf];omega
  ·obtain rfl:k=b.c.length:=by omega
   rw [Ly.mid_end R b.c _ hn.out.symm hn.out] at hm;have o0:wr.cell? ⟨p,0,none⟩=some (.slice (some ⟨g,0,none⟩) b.s.length b.s.length):=by rw [hl.cell];rfl
   have o1:wr.cell? ⟨p,1,none⟩=some (.slice (some ⟨h,0,none⟩) b.c.length b.c.length):=by rw [hl.cell];rfl
   have c0:=hc.cell 0;have c1:=hc.cell 1;have f0:=hc.frozen 0;have f1:=hc.frozen 1;simp at c0 c1;have hP:=(hc.set_ 0 (.slice (some ⟨g,0,none⟩) b.s.length b.s.length)).set_ 1 (.slice (some ⟨h,0,none⟩) b.c.length b.c.length);have d0:=hP.cell 0;have d1:=hP.cell 1;simp at d0 d1;have HZ:g≠w.heap.size+3:=by omega
   have He:h≠w.heap.size+3:=by omega
   obtain ⟨Hm,H0,HY,Hn,HT,Hg,h6,gB⟩:=zd8 hm hl hc hs hM hS he hP;clear hm hl hc hs hM hS he hP;go_wp2_with fail;refine Zk1 (v:=.tuple #[.agg #[.slice (some ⟨g,0,none⟩) b.s.length b.s.length,.slice (some ⟨h,0,none⟩) b.c.length b.c.length],.int .i64 0]) (by simp [results,Tryz.results94,go_sem,d0,d1]) rfl ?_;refine GoP.ok HE.out (TenN.o ⟨g,h,by simp [hn.out],by omega,by omega,(Hg.out.far (p:=⟨w.heap.size+3,0,none⟩) HZ _).far (p:=⟨w.heap.size+3,1,none⟩) HZ _,(Hm.out.far (p:=⟨w.heap.size+3,0,none⟩) He _).far (p:=⟨w.heap.size+3,1,none⟩) He _⟩ (by show b.s.length<=_;omega) (by have:=hn.out;show R.length<=_;omega) h8.out) ((h6.out.set (p:=⟨w.heap.size+3,0,none⟩) sZ _).set (p:=⟨w.heap.size+3,1,none⟩) sZ _)
namespace Ly
theorem prod_append (a b:List Int):Safe.prod (a++b)=Safe.prod a*Safe.prod b:=by
 induction a with
 | nil=>simp [Safe.prod]
 | cons x r ih=>simp only [List.cons_append,Safe.prod,ih,Int.mul_assoc]
def poolR (x:Ten) (width step:Int):List Int × Int:=if Tn.right x then Od.pool x.s width step else ([],20)
theorem poolR_err (x:Ten) (width step:Int):(poolR x width step).2=poolErr x width step:=by unfold poolR poolErr;split<;>rfl
theorem qgb {l:List Int} (h:1<=l.length):∃r a,l=r++[a]:=⟨l.dropLast,l.getLast (by intro e;subst e;simp at h),(List.dropLast_concat_getLast _).symm⟩
theorem pool_facts {x:Ten} {width step:Int} (h:poolErr x width step=0):
  ∃sd n wd st pre:Nat,qbx x.s=sd/\x.s.getD (x.s.length-1) 0=(sd:Int)/\qbx (poolS x width step)=n/\(poolS x width step).getD (x.s.length-1) 0=(n:Int)/\width=(wd:Int)/\step=(st:Int)/\1<=wd/\wd<=sd/\1<=st/\1<=n/\(n-1)*st+wd<=sd/\x.c.length=pre*sd/\span (poolS x width step)=pre*n/\(poolS x width step).length=x.s.length/\1<=x.s.length/\x.s.length<=4/\Sh.right (poolS x width step)=true/\x.c.length<=65536/\pre*n<=65536/\sd<=1024/\n<=1024/\st<=1024/\poolR x width step=(poolS x width step,0)/\(Safe.prod (poolS x width step))=((pre*n:Nat):Int):=by
 unfold poolErr at h
 by_cases hr:Tn.right x=true
 case neg=>rw [if_neg hr] at h;omega
 rw [if_pos hr] at h;have hu:=hr;simp only [Tn.right,Zz,decide_eq_true_eq] at hr;obtain ⟨_,l4,l1,hm,hB,hC⟩:=Sh.right_mul hr.1;obtain ⟨r,a,hl⟩:=qgb l1;have hR:poolR x width step=Od.pool x.s width step:=by unfold poolR;rw [if_pos hu]
 have hf:x.s.length=r.length+1:=by rw [hl];simp
 have hd:x.s.getD (x.s.length-1) 0=a:=by rw [hf,hl];simp [gdZ]
 have ha:=hm a (by rw [hl];simp);unfold Od.pool at h hR;rw [if_pos hr.1] at h hR
 by_cases hw:(Od.window (x.s.getD (x.s.length-1) 0) width step).2=0
 case neg=>rw [if_neg hw] at h;simp at h
 rw [if_pos hw] at hR
 have hS:poolS x width step=x.s.set (x.s.length-1) (Od.window (x.s.getD (x.s.length-1) 0) width step).1:=by
  unfold poolS Od.pool;rw [if_pos hr.1,if_pos hw]
 have ho:=Od.window_ok hw
 have hk:poolS x width step=r++[(Od.window a width step).1]:=by
  rw [hS,hd,hf,hl,Nat.add_sub_cancel];simp
 have hj:Sh.right (poolS x width step)=true:=by
  rw [hS];have hi:x.s.length-1<x.s.length:=by omega
  refine Od.right_set hr.1 hi ho.1 ?_;have:x.s[x.s.length-1]=x.s.getD (x.s.length-1) 0:=by rw [gdZ,geZ hi];rfl
  rw [this];exact ho.2
 rw [hd] at hw ho;generalize hv:(Od.window a width step).1=v at *
 have hn:Sh.side a/\Sh.side width/\Sh.side step/\width<=a/\v=1+(a-width).tdiv step:=by
  unfold Od.window at hw hv
  split at hw
  ·rename_i hc
   rw [if_pos hc] at hv;exact ⟨hc.1,hc.2.1,hc.2.2.1,hc.2.2.2,hv.symm⟩
  ·simp at hw
 obtain ⟨q1,q2,q3,q4,q5⟩:=hn;have q1:=(Sh.side_iff _).1 q1;have q2:=(Sh.side_iff _).1 q2;have q3:=(Sh.side_iff _).1 q3;have hA:1<=v/\v<=a:=ho;have hp:1<=Safe.prod r:=Safe.prod_pos r (λz hz=>(hm z (by rw [hl];simp [hz])).1);have hx:Safe.prod [a]=a:=by simp [Safe.prod]
 have hq:Safe.prod [v]=v:=by simp [Safe.prod]
 have hh:Safe.prod x.s=Safe.prod r*a:=by rw [hl,prod_append,hx]
 have hb:Safe.prod (poolS x width step)=Safe.prod r*v:=by rw [hk,prod_append,hq]
 obtain ⟨sd,rfl⟩:=ezZ (show 0<=a by omega);obtain ⟨n,rfl⟩:=ezZ (show 0<=v by omega);obtain ⟨wd,rfl⟩:=ezZ (show 0<=width by omega);obtain ⟨st,rfl⟩:=ezZ (show 0<=step by omega);obtain ⟨pre,hs⟩:=ezZ (show 0<=Safe.prod r by omega);rw [hs] at hh hb hp;rw [←Int.natCast_mul] at hh hb
 have ht:(n-1)*st+wd<=sd:=by
  have h3:(n:Int)-1=((sd:Int)-(wd:Int)) / (st:Int):=by rw [q5,Int.tdiv_eq_ediv_of_nonneg oZ];omega
  have h4:=Int.ediv_mul_le ((sd:Int)-(wd:Int)) (show (st:Int)≠0 by omega);rw [←h3] at h4;have h5:(((n-1)*st:Nat):Int)=((n:Int)-1)*(st:Int):=by rw [Int.natCast_mul];congr 1;omega
  omega
 have hy:pre*n<=pre*sd:=Nat.mul_le_mul_left _ oZ;have he:(poolS x wd st).getD (x.s.length-1) 0=(n:Int):=by rw [hk,hf,Nat.add_sub_cancel];simp [gdZ]
 have hg:(poolS x wd st).length=x.s.length:=by rw [hk,hf];simp
 refine ⟨sd,n,wd,st,pre,?_,hd,?_,he,rfl,rfl,by omega,by omega,by omega,by omega,ht,by omega,?_,hg,l1,l4,hj,by omega,by omega,by omega,by omega,by omega,?_,hb⟩
 ·show (x.s.getD (x.s.length-1) 0).toNat=sd
  rw [hd];simp
 ·show ((poolS x wd st).getD ((poolS x wd st).length-1) 0).toNat=n
  rw [hg,he];simp
 ·unfold span;rw [hb];exact tnZ _
 ·rw [hS];exact hR
theorem from_bd {sd n wd st pre i:Nat} (hn:1<=n) (hns:(n-1)*st+wd<=sd) (hi:i<pre*n):from_ sd n st i+wd<=pre*sd:=by
 unfold from_;have h1:i / n<pre:=by rw [Nat.div_lt_iff_lt_mul oZ];exact hi
 have h2:i % n<=n-1:=by have:=Nat.mod_lt i (show 0<n by omega);omega
 have h3:i % n*st<=(n-1)*st:=mlZ _ h2;have h4:(i / n+1)*sd<=pre*sd:=mlZ _ h1;rw [Zu] at h4;omega
end Ly
theorem qd6 (kind:Int) (S C:Option Addr) (c d:Nat) (x:Ten) (width step:Int) (w:Zp1) (hk:kind=1∨kind=2) (hx:TenIn w S C c d x):
  Calls Tryz.prog 58 #[.int .i64 kind,.agg #[.slice S x.s.length c,.slice C x.c.length d],.int .i64 width,.int .i64 step] w (ShPost (Ly.poolR x width step) w):=by
 have hi:Later w (w.alloc (.cells #[.slice S x.s.length c,.slice C x.c.length d] 30)):=(Later.refl w).alloc _;have hh:=Blk.new w 30 #[.slice S x.s.length c,.slice C x.c.length d];have l1:=hx.l1;have l2:=hx.l2;obtain ⟨hg,ho,Hx⟩:=zd3 hi hh hx;clear hi hh hx;rcases hk with rfl|rfl
 all_goals
  go_enter Tryz.func58,Tryz.ntmps58;go_wp2_with fail;generalize w.alloc (.cells #[.slice S x.s.length c,.slice C x.c.length d] 30)=w1 at *;refine (qa2 S C c d x w1 oZ oZ (Hx.out.later hg.out).r.1).mono ?_;rintro e w2 ⟨rfl,hj⟩;have he:Later w1 w2:=hj;have ha:=he.blk ho.out;have c0:=ha.cell 0;simp at c0;have hc:=hg.out.trans he;clear hj he;cases hr:Tn.right x
  ·have HE:=zI (show Ly.poolR x width step=([],20) by unfold Ly.poolR;rw [hr];rfl)
   clear hr;obtain ⟨hd,hn⟩:=zd2 hc ha;clear hc ha;go_wp2_with fail
   go_ret2
   exact ShPost.fail HE.out hd.out
  ·have HE:=zI (show Ly.poolR x width step=Od.pool x.s width step by unfold Ly.poolR;rw [hr];rfl)
   clear hr;obtain ⟨hd,hn⟩:=zd2 hc ha;clear hc ha;go_wp2_with fail;refine (qcT S c x.s width step w2 oZ (Hx.out.later hd.out).r.1).mono ?_;rintro e w3 ⟨A,ac,rfl,hI,hl,hm,hf,hb⟩;obtain ⟨HI,HF,HB⟩:=zd3 hI hf hb;clear hI hf hb;go_wp2_with fail
   go_ret2
   exact ShPost.pass HE.out hd.out HI.out hl hm HF.out HB.out
theorem qbG (b off d len:Nat) (sd n wd st pre i:Nat) (w:Zp1) (hd:len<=d) (hd2:d<=9223372036854775807) (hlen:len=pre*sd) (hl:len<=65536) (hn:1<=n) (hw:1<=wd) (hns:(n-1)*st+wd<=sd) (hi:i<pre*n) (hpn:pre*n<=65536) (hst:st<=1024) (hn2:n<=1024):
  Calls Tryz.prog 59 #[.slice (some ⟨b,off,none⟩) len d,.int .i64 i,.int .i64 sd,.int .i64 n,.int .i64 wd,.int .i64 st] w λe w'=>e=.returned (.slice (some ⟨b,off+Ly.from_ sd n st i,none⟩) wd (d-Ly.from_ sd n st i))/\∃q,w'=w.drewN q:=by
 have hb:=Ly.from_bd hn hns hi;rw [←hlen] at hb;have hf:Ly.from_ sd n st i=i / n*sd+i % n*st:=rfl;have q1:i / n<=i:=Nat.div_le_self _ _;have q2:=Nat.mod_lt i (show 0<n by omega);have e0:(i:Int) / (n:Int)=((i / n:Nat):Int):=by simp
 have e1:(i:Int) % (n:Int)=((i % n:Nat):Int):=by simp
 rw [hf] at hb ⊢;clear hf;generalize i / n=q at *;generalize i % n=r at *;obtain ⟨a,ha⟩:∃a,a=q*sd:=⟨_,rfl⟩
 obtain ⟨z,hz⟩:∃z,z=r*st:=⟨_,rfl⟩
 rw [←ha,←hz] at hb ⊢;have e2:(q:Int)*(sd:Int)=(a:Int):=by rw [ha];simp
 have e3:(r:Int)*(st:Int)=(z:Int):=by rw [hz];simp
 have k0:(q:Int)<=65536:=by omega
 have kr:(r:Int)<=1024:=by omega
 have k1:(0:Int)<=(i:Int):=by omega
 have k2:(1:Int)<=(n:Int):=by omega
 have k3:(0:Int)<=(a:Int)+(z:Int):=by omega
 have k4:(a:Int)+(z:Int)<=131072:=by omega
 have ka:(a:Int)<=65536:=by omega
 have kz:(z:Int)<=65536:=by omega
 have k5:(a:Int)+(z:Int)+(wd:Int)<=(d:Int):=by omega
 have k6:(wd:Int)<=65536:=by omega
 have k7:a+z+wd<=d:=by omega
 have k8:a+z<d:=by omega
 clear ha hz hlen hns hi hpn;go_enter Tryz.func59,Tryz.ntmps59;go_wp2_with fail
 go_quiet (fail)
 go_wp2_with fail;rw [Nat.add_sub_cancel_left];go_ret;exact ⟨rfl,nq,rfl⟩
theorem qdo {l:List Int}:∀ {k:Nat},1<=k->0<=Ly.best l k/\Ly.best l k<k
 | 0,h=>by omega
 | k+1,_=>by
  unfold Ly.best
  split
  ·omega
  ·rename_i h
   by_cases hk:1<=k
   ·have:=qdo (l:=l) hk
    omega
   ·have:k=0:=by omega
    subst this;exact absurd (.inl (show (-1:Int)<0 by decide)) h
theorem qe3 (A:Option Addr) (c:Nat) (l:List Int) (w:Zp1) (hl:l.length<=1048576) (hI:Ints .i64 w A l):
  Calls Tryz.prog 60 #[.slice A l.length c] w λe w'=>e=.returned (.int .i64 (Ly.best l l.length))/\w=w':=by
 have HI:=zI hI;clear hI;go_enter Tryz.func60,Tryz.ntmps60;go_wp2_with fail
 go_loop [3,8] (λs i=>∃k:Nat,k<=l.length/\i=.int .i64 k/\s=.int .i64 (Ly.best l k)) (λ_ i=>l.length-(intOf i).toNat)
 case atStart=>exact ⟨0,Zt _,rfl,rfl⟩
 case round=>
  obtain ⟨k,hk,rfl,rfl⟩:=hrel
  by_cases he:k<l.length
  ·obtain ⟨b,off,rfl,-,hc⟩:=HI.out k he
   rw [show l.getD k 0=Ly.at_ l k from rfl] at hc
   by_cases hf:k=0
   ·subst hf
    have E:=zI (show Ly.best l (0+1)=0 by simp [Ly.best]);rw [show Ly.best l 0 = -1 from rfl];simp only [Zx] at hc;go_wp2_with fail
    go_round
    case rel=>exact ⟨0+1,by omega,by go_num,by rw [E.out];rfl⟩
    case measure=>simp [intOf];omega
   ·have hb:=qdo (l:=l) (show 1<=k by omega)
    obtain ⟨m,hm⟩:∃m:Nat,Ly.best l k=(m:Int):=⟨_,(Int.toNat_of_nonneg hb.1).symm⟩
    have ha:Ly.best l (k+1)=if Ly.at_ l m<Ly.at_ l k then (k:Int) else (m:Int):=by
     unfold Ly.best;rw [hm]
     by_cases h2:Ly.at_ l m<Ly.at_ l k
     ·rw [if_pos (.inr (by simpa using h2)),if_pos h2]
     ·rw [if_neg (by simp only [tnZ];omega),if_neg h2]
    have hg:m<l.length:=by omega
    obtain ⟨b',off',e',-,hh⟩:=HI.out m hg;injection e' with e';injection e' with e1 e2;subst e1 e2
    rw [show l.getD m 0=Ly.at_ l m from rfl] at hh;have km:(m:Int)<(l.length:Int):=by omega
    have km0:(0:Int)<=(m:Int):=by omega
    rw [hm];generalize Ly.at_ l k=x at *;generalize Ly.at_ l m=y at *;have HS:=zI ha;clear ha hm hb
    by_cases hd:y<x
    ·have E:=zI (HS.out.trans (if_pos hd))
     go_wp2_with fail
     go_round
     case rel=>exact ⟨k+1,by omega,by go_num,by rw [E.out]⟩
     case measure=>simp [intOf];omega
    ·have E:=zI (HS.out.trans (if_neg hd))
     go_wp2_with fail
     go_round
     case rel=>exact ⟨k+1,by omega,by go_num,by rw [E.out]⟩
     case measure=>simp [intOf];omega
  ·obtain rfl:k=l.length:=by omega
   go_wp2_with fail;go_ret;exact ⟨rfl,rfl⟩
namespace Ly
theorem pool_err {top:Bool} {x:Ten} {width step:Int} (h:poolErr x width step≠0):pool top x width step=(none_,poolErr x width step):=by unfold pool;rw [if_neg h]
theorem pool_ok {top:Bool} {x:Ten} {width step:Int} (h:poolErr x width step=0):pool top x width step=(⟨poolS x width step,tab (span (poolS x width step)) λi=>poolCell top (win x.c (qbx x.s) (qbx (poolS x width step)) width.toNat step.toNat i) width⟩,0):=by unfold pool;rw [if_pos h]
theorem win_len {c:List Int} {sd n wd st i:Nat} (h:from_ sd n st i+wd<=c.length):(win c sd n wd st i).length=wd:=by unfold win;rw [Zo,Zq];omega
theorem win_in {c:List Int} {sd n wd st i:Nat} (h:∀z∈c,Fx.In z):∀z∈win c sd n wd st i,Fx.In z:=λz hz=>h z (Zp (Zh hz))
theorem win_at {c:List Int} {sd n wd st i j:Nat} (hj:j<wd):(win c sd n wd st i).getD j 0=c.getD (from_ sd n st i+j) 0:=by
 unfold win;simp only [gdZ];rw [List.getElem?_take,if_pos hj,List.getElem?_drop]
theorem poolCell_in {top:Bool} {l:List Int} {width:Int} (h:∀z∈l,Fx.In z):Fx.In (poolCell top l width):=by
 unfold poolCell
 split
 ·exact at_in h _
 ·exact Fx.div_in _ _
theorem poolCell_top (l:List Int) (width:Int):poolCell true l width=at_ l (best l l.length).toNat:=rfl
theorem poolCell_mean (l:List Int) (width:Int):poolCell false l width=Fx.div (Fx.sum l) (width*4294967296):=rfl
theorem zeros_len (n:Nat):(zeros n).length=n:=by simp [zeros]
end Ly
theorem TenIn.win {w:Zp1} {S:Option Addr} {b off c d:Nat} {t:Ten} (h:TenIn w S (some ⟨b,off,none⟩) c d t) {sd n wd st i:Nat} (hb:Ly.from_ sd n st i+wd<=t.c.length):Ints .i64 w (some ⟨b,off+Ly.from_ sd n st i,none⟩) (Ly.win t.c sd n wd st i):=Ints.of_row λj hj=>by
 rw [Ly.win_len hb] at hj;obtain ⟨b',off',e,-,ha⟩:=h.r.2 (Ly.from_ sd n st i+j) oZ;injection e with e;injection e with e1 e2;subst e1 e2
 rw [Nat.add_assoc,ha,Ly.win_at hj]
theorem qgc (top:Bool) (kind:Int) (S C:Option Addr) (c d:Nat) (x:Ten) (width step:Int) (w:Zp1) (hkt:(kind=1/\top=true)∨(kind=2/\top=false)) (hx:TenIn w S C c d x):
  Calls Tryz.prog 97 #[.int .i64 kind,.agg #[.slice S x.s.length c,.slice C x.c.length d],.int .i64 width,.int .i64 step] w (GoP (Ly.pool top x width step) w):=by
 obtain ⟨hv,hz,gf⟩:=qaV w 30 30 #[.slice S x.s.length c,.slice C x.c.length d] #[.slice none 0 0,.slice none 0 0];obtain ⟨hM,Hz,HC,Hx,HY⟩:=zd5 hv hz gf hx hkt;clear hv hz gf hx hkt;go_enter Tryz.func97,Tryz.ntmps97;go_wp2_with fail;generalize (w.alloc (.cells #[.slice S x.s.length c,.slice C x.c.length d] 30)).alloc (.cells #[.slice none 0 0,.slice none 0 0] 30)=w1 at *;refine (qd6 kind S C c d x width step w1 (by rcases HY.out with h|h<;>omega) (Hx.out.later HC.out)).mono ?_;rintro e w2 ⟨A,ac,rfl,hI,gE,g4,hf,gp⟩;have hA:Later w1 w2:=gp;have hU:=HC.out.trans hA;have ht:=hA.blk Hz.out;have ha:=hA.blk hM.out;clear gp Hz HC hM hA hf;rw [Ly.poolR_err]
 by_cases hg:Ly.poolErr x width step=0
 case neg=>
  have HE:=zI (Ly.pool_err (top:=top) hg);have d1:(Ly.poolErr x width step==0)=false:=by simpa using hg
  have d2:(Ly.poolErr x width step != 0)=true:=by simpa using hg
  have Hg:=zI hg;clear hg;generalize Ly.poolErr x width step=g at *;generalize (Ly.poolR x width step).1.length=sl at *;have c0:=ht.cell 0;have c1:=ht.cell 1;have f0:=ht.frozen 0;have f1:=ht.frozen 1;simp at c0 c1;obtain ⟨HA,Hw,he,HI⟩:=zd4 hU ht ha hI;clear hU ht ha hI;go_wp2_with fail;refine Zk1 (v:=.tuple #[.agg #[.slice none 0 0,.slice none 0 0],.int .i64 g]) (by simp [results,Tryz.results97,go_sem,c0,c1]) rfl ?_;exact GoP.fail HE.out Hg.out ((HA.out.set (p:=⟨w.heap.size+1,0,none⟩) sZ _).set (p:=⟨w.heap.size+1,1,none⟩) sZ _)
 have HE:=zI (Ly.pool_ok (top:=top) hg);obtain ⟨sd,n,wd,st,pre,h1,h2,h3,h4,rfl,rfl,h5,h6,h7,h8,h9,H3,gi,hA,gY,Gc,gB,gP,gI,g1,gV,gM,gh,gg⟩:=Ly.pool_facts hg;rw [hg];rw [gh] at hI gE ⊢;rw [h1,h3,gi,tnZ,tnZ] at HE;generalize Ly.poolS x wd st=os at *;generalize hR:(Ly.tab (pre*n) λi=>Ly.poolCell top (Ly.win x.c sd n wd st i) wd)=R at *;have H6:R.length=pre*n:=by rw [←hR,Ly.tab_len]
 have H7:∀i (hi:i<R.length),R[i]=Ly.poolCell top (Ly.win x.c sd n wd st i) wd:=λi hi=>by subst hR;exact Ly.tab_get hi
 have hD:=Hx.out.num;have h0:∀z∈R,Fx.In z:=by rw [←hR];exact Ly.tab_in λi _=>Ly.poolCell_in (Ly.win_in hD)
 have H0:(Safe.prod os).toNat=pre*n:=by rw [gg];exact tnZ _
 have g7:os.length<=4:=by omega
 obtain ⟨bs,os',rfl,-,y0⟩:=(Hx.out.later hU).r.1 (x.s.length-1) oZ;obtain ⟨ba,oa,rfl,-,y1⟩:=hI (x.s.length-1) (by show _<os.length;omega);obtain ⟨gU,gc,HZ,gG,H2,H4,gD⟩:=zd7 H6 H0 H3 gB h2 h4 hA;have y0:w2.cell? ⟨bs,os'+(x.s.length-1),none⟩=some (.int .i64 sd):=by rw [y0,h2]
 have y1:w2.cell? ⟨ba,oa+(x.s.length-1),none⟩=some (.int .i64 n):=by rw [y1];exact congrArg (λz=>some (Za1 .i64 z)) h4
 obtain ⟨Y0,Y1⟩:=zd2 y0 y1;clear hR hg h1 h2 h3 h4 H3 gi hA gB gh gg H6 H0 y0 y1;obtain ⟨HA,Hw,he,gF,HL,HI,HM⟩:=zd7 hU ht ha H7 h0 hI hD;clear hU ht ha H7 h0 hI hD;go_wp2_with fail;refine (qbD (some ⟨ba,oa,none⟩) ac os 0 w2 oZ HI.out).mono ?_;rintro e w3 ⟨gK,gx⟩;rcases gK with ⟨HF,-⟩|⟨-,v,rfl,g,h,rfl,hg,hh,hG,hH⟩
 ·exact absurd gG.out (by rw [HF];decide)
 have Ht:Later w2 w3:=gx;have HB:Blk w3 h 22 ((Ly.zeros (pre*n)).map (Za1 .i64)).toArray:=by have:=hH;rw [gc.out] at this;exact this
 have go:(Zc (Safe.prod os).toNat (0:Int)).length=pre*n:=by rw [gc.out,List.length_replicate]
 rw [show ((⟨os,Zc (Safe.prod os).toNat 0⟩:Ten).c.length)=pre*n from go];have Hj:Later w3 (w3.alloc (.cells #[.slice (some ⟨g,0,none⟩) os.length os.length,.slice (some ⟨h,0,none⟩) (pre*n) (pre*n)] 30)):=(Later.refl w3).alloc _;have ho:=Blk.new w3 30 #[.slice (some ⟨g,0,none⟩) os.length os.length,.slice (some ⟨h,0,none⟩) (pre*n) (pre*n)];have hy:=Ht.trans Hj;have gm:=HA.out.trans hy;have H9:=hy.blk Hw.out;have hP:=hy.blk he.out;have HX:=Hj.blk hG;have gw:=Hj.blk HB;have Gd:=HA.out.size;have g2:=Ht.size;have g8:=HB.lt;have Ga:=hG.lt;have g0:=Hw.out.lt;have Hc:=qb1 hG HB;have y0:=hy.cell Y0.out;have y1:=hy.cell Y1.out;clear gx Hw he hG hH HB go Y0 Y1;obtain ⟨Y0,Y1⟩:=zd2 y0 y1;clear y0 y1;obtain ⟨gN,gQ,Ho,g6,gS,gW,Hq,gC,gL⟩:=zd9 Ht Hj ho hy gm H9 hP HX gw;clear Ht Hj ho hy gm H9 hP HX gw;go_upto_region 5 with fail;generalize w3.alloc (.cells #[.slice (some ⟨g,0,none⟩) os.length os.length,.slice (some ⟨h,0,none⟩) (pre*n) (pre*n)] 30)=w4 at *;generalize hpe:w3.heap.size=p at *;have g9:h<p:=by omega
 have gZ:w.heap.size+1<p:=by omega
 have HP:w.heap.size+1<h:=by omega
 clear gQ gN hpe;rw [show (⟨os,Zc (Safe.prod os).toNat 0⟩:Ten).s.length=os.length from rfl];rw [gD.out];go_upto_region 7 with fail;have b0:w4.cell? ⟨w.heap.size,0,none⟩=some (.slice (some ⟨bs,os',none⟩) x.s.length c):=by rw [Hq.out.cell];rfl
 have y0:=Y0.out;have y1:=Y1.out;have e1:IntKind.i64.wrap ((x.s.length:Int)-1)=(x.s.length:Int)-1:=Zc1 _ oZ;have e2:(0:Int)<=(x.s.length:Int)-1:=by omega
 have e3:(x.s.length:Int)-1<(x.s.length:Int):=by omega
 have e4:((x.s.length:Int)-1).toNat=x.s.length-1:=by omega
 clear Y0 Y1
 go_quiet (fail)
 clear e1 e2 e3 e4 b0 y0 y1;have o1:(w4.drewN nq).cell? ⟨p,1,none⟩=some (.slice (some ⟨h,0,none⟩) (pre*n) (pre*n)):=by rw [(Ho.out.drewN nq).cell];rfl
 have HN:Blk w4 h 22 ((R.take 0++(Ly.zeros (pre*n)).drop 0).map (Za1 .i64)).toArray:=by simpa using gL.out
 have HK:x.c.length<=d:=Hx.out.c1;have gR:d<=9223372036854775807:=Hx.out.c2;obtain ⟨N,hN⟩:∃N,N=pre*n:=⟨_,rfl⟩
 have gu:=zI hN;rw [←hN] at o1 gI HN ⊢;have Ha:R.length=N:=by rw [hN];exact gU.out
 have hc:=zI Ha;have HO:=zI (Ly.zeros_len N);have gt:Blk w4 p 30 #[.slice (some ⟨g,0,none⟩) os.length os.length,.slice (some ⟨h,0,none⟩) N N]:=by rw [hN];exact Ho.out
 clear hN Ha;obtain ⟨gk,gd⟩:=zd2 HN gt;clear HN gt;go_wp2_with fail;clear o1
 go_loopw [54] (λi wx=>∃k:Nat,k<=N/\i=.int .i64 (k:Int)/\Blk wx h 22 ((R.take k++(Ly.zeros N).drop k).map (Za1 .i64)).toArray/\Blk wx p 30 #[.slice (some ⟨g,0,none⟩) os.length os.length,.slice (some ⟨h,0,none⟩) N N]/\Blk wx (w.heap.size+1) 30 #[.slice none 0 0,.slice none 0 0]/\Blk wx w.heap.size 30 #[.slice (some ⟨bs,os',none⟩) x.s.length c,.slice C x.c.length d]/\Blk wx g 3 (os.map (Za1 .i64)).toArray/\Later w wx) (λi _=>N-(intOf i).toNat)
 case atStart=>exact ⟨0,Zt _,rfl,gk.out.drewN _,gd.out.drewN _,gW.out.drewN _,Hq.out.drewN _,gC.out.drewN _,gS.out.drewN _⟩
 case round=>
  obtain ⟨k,hk,rfl,hm,hE,hs,hv,Hs,hY⟩:=hrel;clear gk gd
  by_cases g3:k<N
  ·have hr:k<R.length:=by have:=hc.out;omega
   have H1:k<pre*n:=by have:=gu.out;omega
   have HW:=Ly.mid_step R (Ly.zeros N) hr (hc.out.trans HO.out.symm);have hX:=Ly.mid_len R (Ly.zeros N) k oZ (hc.out.trans HO.out.symm);have gq:=gF.out k hr;have Hu:=Ly.from_bd (pre:=pre) (sd:=sd) h8 h9 H1;rw [←HZ.out] at Hu;have gy:=Ly.win_len (c:=x.c) (sd:=sd) (n:=n) (wd:=wd) (st:=st) (i:=k) Hu;have HH:=Ly.win_in (sd:=sd) (n:=n) (wd:=wd) (st:=st) (i:=k) HM.out;obtain ⟨bc,oc,rfl,g5,-⟩:=Hx.out.cell (k:=0) oZ;have ge:=λ(V:Zp1) (hV:Later wr V)=>(Hx.out.later (hY.trans hV)).win (sd:=sd) (n:=n) (st:=st) (i:=k) (wd:=wd) Hu
   have gb:=λ(V:Zp1)=>qbG bc oc d x.c.length sd n wd st pre k V HK gR HZ.out gP h8 h5 h9 H1 (by have:=gu.out;omega) gM gV
   rw [gq] at HW;have Hk:Fx.In (Ly.poolCell top (Ly.win x.c sd n wd st k) wd):=Ly.poolCell_in HH;have c0:wr.cell? ⟨w.heap.size,1,none⟩=some (.slice (some ⟨bc,oc,none⟩) x.c.length d):=by rw [hv.cell];rfl
   have o1:wr.cell? ⟨p,1,none⟩=some (.slice (some ⟨h,0,none⟩) N N):=by rw [hE.cell];rfl
   obtain ⟨u,hu⟩:∃u,wr.cell? ⟨h,k,none⟩=some u:=⟨_,hm.row_get (by rw [hX];exact hr)⟩
   have Gb:Ly.from_ sd n st k+wd<=d:=by omega
   generalize Ly.from_ sd n st k=fr at *;generalize Ly.win x.c sd n wd st k=wn at *;have kk1:(k:Int)<(N:Int):=by omega
   have kk2:(0:Int)<=(k:Int):=by omega
   obtain ⟨HU,H8,hL⟩:=zd3 hu o1 gy;clear hX gq hr Hu hu o1 gy;obtain ⟨Hm,HV,HS,hM,Hy,gj,gH,Hv,gn⟩:=zd9 hm hE hs hv Hs HW gb hY ge;obtain ⟨gJ,gT⟩:=zd2 HH Hk;clear hm hE hs hv Hs HW gb hY ge HH Hk;go_wp2_with fail;refine (gH.out _).mono ?_;rintro e wa ⟨rfl,q,rfl⟩;have hq:Later wr (wr.drewN q):=(Later.refl wr).drewN q;have o1:=hq.cell H8.out;have hu:=hq.cell HU.out;have gl:=gn.out _ hq;have fu:=(hq.blk Hm.out).frozen k;have H5:=hq.blk Hm.out;have hQ:=hq.blk HV.out;have Hb:=hq.blk HS.out;have Hn:=hq.blk hM.out;have hT:=hq.blk Hy.out;have hW:=Hv.out.trans hq;clear c0 hq H8 HU gn Hm HV HS hM Hy Hv;generalize wr.drewN q=wq at *;obtain ⟨HJ,hZ,Hi,hO,Hp,hS,HD⟩:=zd7 H5 hQ Hb Hn hT hW gl;clear H5 hQ Hb Hn hT hW gl;rcases HY.out with ⟨rfl,rfl⟩|⟨rfl,rfl⟩
   ·have gv:=qdo (l:=wn) (k:=wn.length) (by have:=hL.out;omega)
    obtain ⟨m,hm⟩:∃m:Nat,Ly.best wn wn.length=(m:Int):=⟨_,(Int.toNat_of_nonneg gv.1).symm⟩
    have gX:m<wd:=by have:=hL.out;omega
    have gr:=λ(V:Zp1) (hV:Later wq V)=>(show Calls Tryz.prog 60 #[.slice (some ⟨bc,oc+fr,none⟩) wd (d-fr)] V λe w'=>e=.returned (.int .i64 (m:Int))/\V=w' from by
     have hd:=qe3 (some ⟨bc,oc+fr,none⟩) (d-fr) wn V (by have:=hL.out;omega) (HD.out.below hV (lrZ _));rw [hm,hL.out] at hd;exact hd)
    obtain ⟨bb,ob,e',-,yv⟩:=HD.out m (by have:=hL.out;omega);injection e' with e';injection e' with e1 e2;subst e1 e2
    have hb:=gj.out;rw [Ly.poolCell_top,hm,tnZ] at hb;rw [show wn.getD m 0=Ly.at_ wn m from rfl] at yv;generalize Ly.at_ wn m=y at *;have k3:(m:Int)<(wd:Int):=by omega
    have k4:(0:Int)<=(m:Int):=by omega
    have hF:=zI hb;clear hb hm gv;have gO:=zI gr;clear gr;go_wp2_with fail;have KF:=zI (show ∀Xw,Later wq Xw->Xw.cell? ⟨p,1,none⟩=some (.slice (some ⟨h,0,none⟩) N N)/\Xw.cell? ⟨bc,oc+fr+m,none⟩=some (.int .i64 y) from λXw h=>⟨h.cell o1,h.cell yv⟩);refine Zm1 ?_;refine Zl1 (S:=λXw=>Xw.cell? ⟨p,1,none⟩=some (.slice (some ⟨h,0,none⟩) N N)/\Xw.cell? ⟨bc,oc+fr+m,none⟩=some (.int .i64 y)) krZ (KF.out _ Lau) (λhHeld=>?_);refine tk 0 ?_;refine tk 1 ?_;refine tk 2 ?_;refine tk 3 ?_;refine tk 4 ?_;refine rd 5 λK hK=>?_
    simp only [ga,gs,gz]
    go_simp
    go_at_call 60;(with_reducible refine (gO.out _ (Lau:Later wq _)).mono ?_);rintro e wb ⟨rfl,rfl⟩
    try go_wp2_with fail
    refine hK.out _ _ (KF.out _ Lau) (λhHeld=>?_);clear hK K
    try simp only [ga,gs,gz,Act.put,sa,sz,ss]
    refine tk 6 ?_;refine tk 7 ?_;refine tk 8 ?_;refine rd 9 λK hK=>?_
    simp only [ga,gs,gz]
    go_simp
    refine hK.out _ _ ?_ (λhHeld=>?_)
    ·(try dsimp only);(refine ⟨?_,?_⟩<;>(repeat (refine qa0 ?_ (by first|omega|(simp;done)|(simp;omega))))<;>(refine Later.cell (Lau:Later wq _) ?_)<;>assumption)
    clear hK K
    try simp only [ga,gs,gz,Act.put,sa,sz,ss]
    clear KF;refine Zn1 krZ ?_ _;refine Zd1 ?_
    have Hf:Blk (wq.drew.setCell ⟨h,k,none⟩ (.int .i64 y)) h 22 ((R.take (k+1)++(Ly.zeros N).drop (k+1)).map (Za1 .i64)).toArray:=by
     have:=(((Later.refl wq).drew).blk HJ.out).set_ k (.int .i64 y);rw [←hF.out,List.map_set];simpa using this
    have hn:=(((Later.refl wq).drew).blk hZ.out).far (p:=⟨h,k,none⟩) soZ (.int .i64 y);have hp:=(((Later.refl wq).drew).blk Hi.out).far (p:=⟨h,k,none⟩) soZ (.int .i64 y);have ha:=(((Later.refl wq).drew).blk hO.out).far (p:=⟨h,k,none⟩) soZ (.int .i64 y);have hl:Blk (wq.drew.setCell ⟨h,k,none⟩ (.int .i64 y)) g 3 (os.map (Za1 .i64)).toArray:=(((Later.refl wq).drew).blk Hp.out).far (p:=⟨h,k,none⟩) Hc (.int .i64 y);have hj:=(hS.out.trans ((Later.refl wq).drew)).set (p:=⟨h,k,none⟩) soZ (.int .i64 y);obtain ⟨HQ,hw,hC,he,hB,hJ⟩:=zd6 Hf hn hp ha hl hj;clear Hf hn hp ha hl hj;go_wp2_with fail;go_roundw
    case rel=>exact ⟨k+1,by omega,by go_num,HQ.out,hw.out,hC.out,he.out,hB.out,hJ.out⟩
    case measure=>simp [intOf];omega
   ·have Hh:=λ(V:Zp1) (hV:Later wq V)=>(show Calls Tryz.prog 143 #[.slice (some ⟨bc,oc+fr,none⟩) wd (d-fr)] V λe w'=>e=.returned (.int .i64 (Fx.sum wn))/\V=w' from by
     have hd:=fix_sum (some ⟨bc,oc+fr,none⟩) (d-fr) wn V (by have:=hL.out;omega) (HD.out.below hV (lrZ _)) gJ.out;rw [hL.out] at hd;exact hd)
    have Hl:=λ(V:Zp1)=>qc6 (wd:Int) V oZ oZ
    have Hd:Fx.In ((wd:Int)*4294967296):=by unfold Fx.In;omega
    have He:=λ(V:Zp1)=>qg5 (Fx.sum wn) ((wd:Int)*4294967296) V (Fx.sum_in _) Hd
    have hb:=gj.out;rw [Ly.poolCell_mean] at hb;generalize Fx.sum wn=sm at *;generalize Fx.div sm ((wd:Int)*4294967296)=y at *;have hF:=zI hb;clear hb Hd;obtain ⟨HR,HT,HG⟩:=zd3 Hh Hl He;clear Hh Hl He;go_wp2_with fail;have KF:=zI (show ∀Xw,Later wq Xw->Xw.cell? ⟨p,1,none⟩=some (.slice (some ⟨h,0,none⟩) N N) from λXw h=>h.cell o1);refine Zm1 ?_;refine Zl1 (S:=λXw=>Xw.cell? ⟨p,1,none⟩=some (.slice (some ⟨h,0,none⟩) N N)) krZ (KF.out _ Lau) (λhHeld=>?_);refine tk 0 ?_;refine tk 1 ?_;refine tk 2 ?_;refine tk 3 ?_;refine tk 5 ?_;refine rd 4 λK hK=>?_
    simp only [ga,gs,gz]
    go_simp
    go_at_call 143;(with_reducible refine (HR.out _ (Lau:Later wq _)).mono ?_);rintro e wb ⟨rfl,rfl⟩
    try go_wp2_with fail
    refine hK.out _ _ (KF.out _ Lau) (λhHeld=>?_);clear hK K
    try simp only [ga,gs,gz,Act.put,sa,sz,ss]
    refine rd 6 λK hK=>?_
    simp only [ga,gs,gz]
    go_simp
    go_at_call 62;(with_reducible refine (HT.out _).mono ?_);rintro e wb2 ⟨rfl,rfl⟩
    try go_wp2_with fail
    refine hK.out _ _ (KF.out _ Lau) (λhHeld=>?_);clear hK K
    try simp only [ga,gs,gz,Act.put,sa,sz,ss]
    refine rd 7 λK hK=>?_
    simp only [ga,gs,gz]
    go_simp
    go_at_call 61;(with_reducible refine (HG.out _).mono ?_);rintro e wc ⟨rfl,qd,rfl⟩;have hu:=Later.cell (Lau:Later wq (wq.drew.drewN qd)) hu;have fu:=(Later.blk (Lau:Later wq (wq.drew.drewN qd)) HJ.out).frozen k
    try go_wp2_with fail
    refine hK.out _ _ (KF.out _ Lau) (λhHeld=>?_);clear hK K
    try simp only [ga,gs,gz,Act.put,sa,sz,ss]
    refine tk 8 ?_;refine rd 9 λK hK=>?_
    simp only [ga,gs,gz]
    go_simp
    refine hK.out _ _ ?_ (λhHeld=>?_)
    ·(try dsimp only);((repeat (refine qa0 ?_ (by first|omega|(simp;done)|(simp;omega))))<;>(refine Later.cell (Lau:Later wq _) ?_)<;>assumption)
    clear hK K
    try simp only [ga,gs,gz,Act.put,sa,sz,ss]
    clear KF;refine Zn1 krZ ?_ _;refine Zd1 ?_
    have Hf:Blk ((wq.drewN (1+qd)).setCell ⟨h,k,none⟩ (.int .i64 y)) h 22 ((R.take (k+1)++(Ly.zeros N).drop (k+1)).map (Za1 .i64)).toArray:=by
     have:=(((Later.refl wq).drewN (1+qd)).blk HJ.out).set_ k (.int .i64 y);rw [←hF.out,List.map_set];simpa using this
    have hn:=(((Later.refl wq).drewN (1+qd)).blk hZ.out).far (p:=⟨h,k,none⟩) soZ (.int .i64 y);have hp:=(((Later.refl wq).drewN (1+qd)).blk Hi.out).far (p:=⟨h,k,none⟩) soZ (.int .i64 y);have ha:=(((Later.refl wq).drewN (1+qd)).blk hO.out).far (p:=⟨h,k,none⟩) soZ (.int .i64 y);have hl:Blk ((wq.drewN (1+qd)).setCell ⟨h,k,none⟩ (.int .i64 y)) g 3 (os.map (Za1 .i64)).toArray:=(((Later.refl wq).drewN (1+qd)).blk Hp.out).far (p:=⟨h,k,none⟩) Hc (.int .i64 y);have hj:=(hS.out.trans ((Later.refl wq).drewN (1+qd))).set (p:=⟨h,k,none⟩) soZ (.int .i64 y);obtain ⟨HQ,hw,hC,he,hB,hJ⟩:=zd6 Hf hn hp ha hl hj;clear Hf hn hp ha hl hj;go_wp2_with fail;go_roundw
    case rel=>exact ⟨k+1,by omega,by go_num,HQ.out,hw.out,hC.out,he.out,hB.out,hJ.out⟩
    case measure=>simp [intOf];omega
  ·obtain rfl:k=N:=by omega
   rw [Ly.mid_end R (Ly.zeros k) k hc.out.symm (hc.out.trans HO.out.symm)] at hm;have o0:wr.cell? ⟨p,0,none⟩=some (.slice (some ⟨g,0,none⟩) os.length os.length):=by rw [hE.cell];rfl
   have o1:wr.cell? ⟨p,1,none⟩=some (.slice (some ⟨h,0,none⟩) k k):=by rw [hE.cell];rfl
   have c0:=hs.cell 0;have c1:=hs.cell 1;have f0:=hs.frozen 0;have f1:=hs.frozen 1;simp at c0 c1;have Hr:=(hs.set_ 0 (.slice (some ⟨g,0,none⟩) os.length os.length)).set_ 1 (.slice (some ⟨h,0,none⟩) k k);have d0:=Hr.cell 0;have d1:=Hr.cell 1;simp at d0 d1;have gA:g≠w.heap.size+1:=by omega
   have HP:h≠w.heap.size+1:=by omega
   obtain ⟨Hm,HV,HS,hM,Hy,Hv,Ge⟩:=zd7 hm hE hs hv Hs hY Hr;clear hm hE hs hv Hs hY Hr;go_wp2_with fail;refine Zk1 (v:=.tuple #[.agg #[.slice (some ⟨g,0,none⟩) os.length os.length,.slice (some ⟨h,0,none⟩) k k],.int .i64 0]) (by simp [results,Tryz.results97,go_sem,d0,d1]) rfl ?_;refine GoP.ok HE.out (TenN.o ⟨g,h,by simp [hc.out],by omega,by omega,(Hy.out.far (p:=⟨w.heap.size+1,0,none⟩) gA _).far (p:=⟨w.heap.size+1,1,none⟩) gA _,(Hm.out.far (p:=⟨w.heap.size+1,0,none⟩) HP _).far (p:=⟨w.heap.size+1,1,none⟩) HP _⟩ (by show os.length<=_;omega) (by have:=hc.out;show R.length<=_;omega) HL.out) ((Hv.out.set (p:=⟨w.heap.size+1,0,none⟩) sZ _).set (p:=⟨w.heap.size+1,1,none⟩) sZ _)
theorem of_gop {t:Ten} {w w':Zp1} {e:Ending} (h:OfP t w e w') (hn:Ly.In t):GoP (Ly.of_ t.s t.c) w e w':=by
 obtain ⟨h1,h2⟩:=h;refine ⟨?_,h2⟩;rcases h1 with ⟨h3,rfl⟩|⟨h3,v,rfl,h4⟩
 ·left
  have:Ly.of_ t.s t.c=(Ly.none_,20):=by unfold Ly.of_;rw [show (⟨t.s,t.c⟩:Ten)=t from rfl,if_neg (by rw [h3];simp)]
  rw [this];exact ⟨by decide,rfl⟩
 ·right
  have:Ly.of_ t.s t.c=(t,0):=by unfold Ly.of_;rw [show (⟨t.s,t.c⟩:Ten)=t from rfl,if_pos h3]
  rw [this];obtain ⟨q1,q2⟩:=Ly.right_ok h3;exact ⟨rfl,v,rfl,h4.o oZ oZ hn⟩
theorem qe4 (S C A:Option Addr) (c d ac:Nat) (x:Ten) (s:List Int) (w:Zp1) (hx:TenIn w S C c d x) (hA:Ints .i64 w A s) (hs:s.length<=1048576):
  Calls Tryz.prog 100 #[.agg #[.slice S x.s.length c,.slice C x.c.length d],.slice A s.length ac] w (GoP (Ly.turn x s) w):=by
 obtain ⟨hB,hz,hC⟩:=qaV w 30 30 #[.slice S x.s.length c,.slice C x.c.length d] #[.slice none 0 0,.slice none 0 0];have l1:=hx.l1;have l2:=hx.l2;obtain ⟨hy,Hz,hq,Hx,HA⟩:=zd5 hB hz hC hx hA;clear hB hz hC hx hA;go_enter Tryz.func100,Tryz.ntmps100;go_wp2_with fail;generalize (w.alloc (.cells #[.slice S x.s.length c,.slice C x.c.length d] 30)).alloc (.cells #[.slice none 0 0,.slice none 0 0] 30)=w1 at *;refine (qa2 S C c d x w1 oZ oZ (Hx.out.later hq.out).r.1).mono ?_;rintro e w2 ⟨rfl,hD⟩;have hm:Later w1 w2:=hD;have he:=hq.out.trans hm;have hd:=hm.blk Hz.out;have hc:=hm.blk hy.out;clear hD Hz hq hy hm;cases hr:Tn.right x
 ·have HE:=zI (show Ly.turn x s=(Ly.none_,20) by unfold Ly.turn;rw [hr];rfl)
  clear hr;have c0:=hd.cell 0;have c1:=hd.cell 1;have f0:=hd.frozen 0;have f1:=hd.frozen 1;simp at c0 c1;obtain ⟨hk,hI,hu⟩:=zd3 he hd hc;clear he hd hc;go_wp2_with fail;refine Zk1 (v:=.tuple #[.agg #[.slice none 0 0,.slice none 0 0],.int .i64 20]) (by simp [results,Tryz.results100,go_sem,c0,c1]) rfl ?_;exact GoP.fail HE.out dZ ((hk.out.set (p:=⟨w.heap.size+1,0,none⟩) sZ _).set (p:=⟨w.heap.size+1,1,none⟩) sZ _)
 ·have HE:=zI (show Ly.turn x s=Ly.of_ s x.c by unfold Ly.turn;rw [hr];rfl)
  clear hr;have x1:=hc.cell 1;simp at x1;have hn:=Hx.out.num;have hF:TenR w2 A C ⟨s,x.c⟩:=⟨HA.out.below he (lrZ _),(Hx.out.later he).r.2⟩
  have ha:=(qcA A C ac d ⟨s,x.c⟩ w2 hs l2 hF).mono (λe w' h=>of_gop h hn);rw [←show Ly.turn x s=Ly.of_ s x.c from HE.out] at ha;obtain ⟨hI,hu,hk,hi⟩:=zd4 hd hc he ha;clear hd hc he ha hF hn;go_wp2_with fail;clear x1;refine (hi.out).mono ?_;rintro e wf ho;have hg:Later w2 wf:=ho.2;have hb:=hg.blk hI.out;have hl:=hk.out.trans hg;have f0:=hb.frozen 0;have f1:=hb.frozen 1;have hp:w.heap.size<=w.heap.size+1:=by first|exact lrZ _|simp|omega
  rcases ho.1 with ⟨hv,rfl⟩|⟨hH,v,rfl,hf⟩
  ·have c0:=hb.cell 0
   have c1:=hb.cell 1;simp at c0 c1;have hh:=hv;generalize hge:(Ly.turn x s).2=ge at *;obtain ⟨hO,hK⟩:=zd2 hge hh;clear hh;clear ho hv hg hge;obtain ⟨hw,ht⟩:=zd2 hb hl;clear hb hl;go_wp2_with fail;refine Zk1 (v:=.tuple #[.agg #[.slice none 0 0,.slice none 0 0],.int .i64 ge]) (by simp [results,Tryz.results100,go_sem,c0,c1]) rfl ?_;exact GoP.fail2 hO.out hK.out ((ht.out.set (p:=⟨w.heap.size+1,0,none⟩) hp _).set (p:=⟨w.heap.size+1,1,none⟩) hp _)
  ·have hM:=hf.base (hk.out.size)
   clear ho hf;obtain ⟨S2,c2,C2,d2,rfl,hG,hJ,hE⟩:=hM;have hj:=(hb.set_ 0 (.slice S2 (Ly.turn x s).1.s.length c2)).set_ 1 (.slice C2 (Ly.turn x s).1.c.length d2);have d0:=hj.cell 0;have d1:=hj.cell 1;simp at d0 d1;have c0:=hb.cell 0;have c1:=hb.cell 1;simp at c0 c1;obtain ⟨hP,hS,hw,ht,hR,hN,hL,hQ⟩:=zd8 hH hj hb hl hg hG hJ hE;clear hj hb hl hg hG hJ hE hH;go_wp2_with fail;refine Zk1 (v:=.tuple #[.agg #[.slice S2 (Ly.turn x s).1.s.length c2,.slice C2 (Ly.turn x s).1.c.length d2],.int .i64 0]) (by simp [results,Tryz.results100,go_sem,d0,d1]) rfl ?_;exact ⟨.inr ⟨hP.out,_,rfl,TenO.box ⟨S2,c2,C2,d2,rfl,hN.out,hL.out,hQ.out⟩ hw.out⟩,(ht.out.set (p:=⟨w.heap.size+1,0,none⟩) hp _).set (p:=⟨w.heap.size+1,1,none⟩) hp _⟩
namespace Ly
theorem cut_facts {x:Ten} {sd frm til:Int} (hr:Tn.right x=true) (h:(Od.cut x.s sd frm til).2=0):
  ∃k S f t inner pre:Nat,sd=(k:Int)/\frm=(f:Int)/\til=(t:Int)/\k<x.s.length/\x.s.getD k 0=(S:Int)/\f<t/\t<=S/\S<=1024/\1<=inner/\1<=pre/\(Od.cut x.s sd frm til).1=x.s.set k ((t-f:Nat):Int)/\Safe.prod ((x.s.set k ((t-f:Nat):Int)).drop (k+1))=(inner:Int)/\Safe.prod (x.s.set k ((t-f:Nat):Int))=((pre*((t-f)*inner):Nat):Int)/\x.c.length=pre*(S*inner)/\x.c.length<=65536/\x.s.length<=4/\(∀z∈x.s.set k ((t-f:Nat):Int),1<=z/\z<=1024):=by
 simp only [Tn.right,Zz,decide_eq_true_eq] at hr;obtain ⟨_,l4,l1,ha,hm,hn⟩:=Sh.right_mul hr.1;unfold Od.cut at h ⊢;rw [if_pos hr.1] at h ⊢
 by_cases hc:(Od.inR sd x.s&&decide (0<=frm/\til<=Od.at_ x.s sd/\frm<til))=true
 case neg=>rw [if_neg hc] at h;simp at h
 rw [if_pos hc];simp only [Od.inR,Zz,decide_eq_true_eq] at hc;obtain ⟨⟨h1,h2⟩,h3,h4,h5⟩:=hc;obtain ⟨k,rfl⟩:=ezZ h1;obtain ⟨f,rfl⟩:=ezZ h3;obtain ⟨t,rfl⟩:=ezZ (show 0<=til by omega);have hk:k<x.s.length:=by omega
 have hj:Od.at_ x.s (k:Int)=x.s[k]:=by unfold Od.at_;rw [tnZ,gdZ,geZ hk];rfl
 have hl:=ha _ (gmZ hk);rw [hj] at h4;obtain ⟨S,hS⟩:=ezZ (show 0<=x.s[k] by omega);have hd:x.s=x.s.take k++(x.s[k]::x.s.drop (k+1)):=by rw [←Zd hk,Zn]
 have he:∀v:Int,x.s.set k v=x.s.take k++(v::x.s.drop (k+1)):=λv=>by rw [List.set_eq_take_append_cons_drop,if_pos hk]
 have hh:1<=Safe.prod (x.s.take k):=Safe.prod_pos _ (λz hz=>(ha z (Zh hz)).1);have ho:1<=Safe.prod (x.s.drop (k+1)):=Safe.prod_pos _ (λz hz=>(ha z (Zp hz)).1);obtain ⟨pre,hi⟩:=ezZ (show 0<=Safe.prod (x.s.take k) by omega);obtain ⟨inner,hg⟩:=ezZ (show 0<=Safe.prod (x.s.drop (k+1)) by omega);have hf:∀v:Int,Safe.prod (x.s.set k v)=(pre:Int)*(v*(inner:Int)):=λv=>by rw [he,prod_append,hi];simp only [Safe.prod,hg]
 have hb:(t:Int)-(f:Int)=((t-f:Nat):Int):=by omega
 have hx:Safe.prod x.s=(pre:Int)*((S:Int)*(inner:Int)):=by
  have h7:=hf x.s[k];rw [List.set_getElem_self,hS] at h7;exact h7
 refine ⟨k,S,f,t,inner,pre,rfl,rfl,rfl,hk,?_,by omega,by omega,by omega,by omega,by omega,?_,?_,?_,?_,by omega,l4,?_⟩
 ·rw [gdZ,geZ hk];exact hS
 ·rw [tnZ,hb]
 ·rw [List.drop_set_of_lt oZ];exact hg
 ·rw [hf,Int.natCast_mul,Int.natCast_mul]
 ·have:((pre*(S*inner):Nat):Int)=Safe.prod x.s:=by rw [hx,Int.natCast_mul,Int.natCast_mul]
  omega
 ·intro z hz
  rcases List.mem_or_eq_of_mem_set hz with h|h
  ·exact ha z h
  ·omega
theorem cut_right {x:Ten} {sd frm til:Int} (h:Tn.right x=false):cut x sd frm til=(none_,20):=by unfold cut;rw [h];rfl
theorem cut_err {x:Ten} {sd frm til:Int} (h:Tn.right x=true) (h2:(Od.cut x.s sd frm til).2≠0):cut x sd frm til=(none_,(Od.cut x.s sd frm til).2):=by unfold cut;rw [if_pos h,if_neg h2]
theorem cut_ok {x:Ten} {sd frm til:Int} (h:Tn.right x=true) (h2:(Od.cut x.s sd frm til).2=0):cut x sd frm til=(⟨(Od.cut x.s sd frm til).1,cutRows x.c (side x.s sd.toNat * span ((Od.cut x.s sd frm til).1.drop (sd.toNat+1))) (frm.toNat * span ((Od.cut x.s sd frm til).1.drop (sd.toNat+1))) ((til.toNat-frm.toNat)*span ((Od.cut x.s sd frm til).1.drop (sd.toNat+1))) (x.c.length / (side x.s sd.toNat * span ((Od.cut x.s sd frm til).1.drop (sd.toNat+1))))⟩,0):=by unfold cut;rw [if_pos h,if_pos h2]
theorem rows_succ (c:List Int) (row a n k:Nat):cutRows c row a n (k+1)=cutRows c row a n k++(c.drop (k*row+a)).take n:=by
 unfold cutRows;rw [List.range_succ,Zj];simp
theorem rows_len {c:List Int} {row a n k:Nat} (h:∀i,i<k->i*row+a+n<=c.length):(cutRows c row a n k).length=k*n:=by
 induction k with
 | zero=>simp [cutRows]
 | succ k ih=>
  rw [rows_succ,Ze,ih (λi hi=>h i oZ),Zo,Zq,Zu];have:=h k oZ;omega
theorem rows_in {c:List Int} {row a n k:Nat} (h:∀z∈c,Fx.In z):∀z∈cutRows c row a n k,Fx.In z:=λz hz=>by
 unfold cutRows at hz;obtain ⟨i,_,hz⟩:=List.mem_flatMap.1 hz;exact h z (Zp (Zh hz))
end Ly
theorem qbH (A:Option Addr) (c:Nat) (l:List Int) (w:Zp1) (hl:l.length<=1048576) (hI:Ints .i64 w A l) (h1:∀z∈l,1<=z/\z<=1024) (hp:Safe.prod l<=65536):
  Calls Tryz.prog 118 #[.slice A l.length c] w λe w'=>e=.returned (.int .i64 (Safe.prod l))/\w=w':=by
 have hb:=λk=>Safe.prod_pos (l.take k) (λz hz=>(h1 z (Zh hz)).1)
 have he:=λk=>Safe.prod_take_le l k (λz hz=>(h1 z hz).1)
 have hg:=λk hk=>Safe.prod_take_succ l k hk
 obtain ⟨HI,ha,hf,hh⟩:=zd4 hI hb he hg;clear hI hb he hg;clear h1;go_enter Tryz.func118,Tryz.ntmps118;go_wp2_with fail
 go_loop [3,8] (λs i=>∃k:Nat,k<=l.length/\i=.int .i64 k/\s=.int .i64 (Safe.prod (l.take k))) (λ_ i=>l.length-(intOf i).toNat)
 case atStart=>exact ⟨0,Zt _,rfl,rfl⟩
 case round=>
  obtain ⟨k,hk,rfl,rfl⟩:=hrel
  by_cases hd:k<l.length
  ·obtain ⟨b,off,rfl,-,hc⟩:=HI.out k hd
   rw [qaX hd] at hc;have q1:=ha.out k;have q2:=hf.out k;have q3:=ha.out (k+1);have q4:=hf.out (k+1);have q5:=hh.out k hd;obtain ⟨P',hP⟩:∃P',P'=Safe.prod (l.take (k+1)):=⟨_,rfl⟩
   rw [←hP] at q3 q4 q5;have HP:=zI hP;clear hP;generalize Safe.prod (l.take k)=P at *;have e1:P*l[k]=P':=q5.symm;generalize l[k]=z at *;clear q5;go_wp2_with fail
   go_round
   case rel=>exact ⟨k+1,by omega,by go_num,by rw [←HP.out]⟩
   case measure=>simp [intOf];omega
  ·obtain rfl:k=l.length:=by omega
   rw [Zg];go_wp2_with fail;go_ret;exact ⟨rfl,rfl⟩
theorem Later.grown {w w1 w2:Zp1} {row:Option Nat} (h:Later w w1) (hg:w1.grownBy w2 row) (hs:w.heap.size<=w1.heap.size) (hr:∀b,row=some b->w.heap.size<=b):Later w w2:=Below.grown h hg hs hr
theorem TenO.of_row {B:Nat} {w:Zp1} {S:Option Addr} {c:Nat} {v:Value} {s l:List Int} {e:TypeId} (hown:w.ownsRow B e 1 v l.length (l.map (Za1 .i64))) (hS:Ints .i64 w S s) (h1:s.length<=c) (h2:c<=9223372036854775807) (hb:∀a,S=some a->B<=a.block) (l1:s.length<=1048576) (l2:l.length<=1048576) (hpos:0<l.length) (hin:∀z∈l,Fx.In z):
  ∃C d,v=.slice C l.length d/\TenO B w (.agg #[.slice S s.length c,v]) ⟨s,l⟩:=by
 rcases hown.2 with ⟨_,h0⟩|⟨g,cap,cur,rfl,hg,hh,hc,hm,hr⟩
 ·omega
 ·obtain ⟨A,c',hv,-,hI⟩:=Ints.of_own hown
  injection hv with e1 e2 e3
  subst e1 e3;refine ⟨_,_,rfl,S,c,_,_,rfl,⟨⟨hS,hI⟩,h1,h2,hc,by unfold maxLen at hm;omega,l1,l2,hin⟩,hb,λa e=>?_⟩;injection e with e
  subst e;exact ⟨hg,lt_of_block hh,λj=>by simp [World.frozen?,hh]⟩
theorem Ints.drop_ {w:Zp1} {b off:Nat} {l:List Int} (h:Ints .i64 w (some ⟨b,off,none⟩) l) (k:Nat):Ints .i64 w (some ⟨b,off+k,none⟩) (l.drop k):=Ints.of_row λj hj=>by
 rw [Zq] at hj;obtain ⟨b',o',e',-,hc⟩:=h (k+j) oZ;injection e' with e';injection e' with e1 e2;subst e1 e2
 rw [Nat.add_assoc,hc];simp [gdZ]
set_option maxRecDepth 4000 in
theorem qd7 (S C:Option Addr) (c d:Nat) (x:Ten) (sd frm til:Int) (w:Zp1) (hx:TenIn w S C c d x):
  Calls Tryz.prog 64 #[.agg #[.slice S x.s.length c,.slice C x.c.length d],.int .i64 sd,.int .i64 frm,.int .i64 til] w (GoP (Ly.cut x sd frm til) w):=by
 obtain ⟨i0,hi,H0,Hu,hl⟩:=info_parts qbL;obtain ⟨HY,hz,HG⟩:=qaV w 30 30 #[.slice S x.s.length c,.slice C x.c.length d] #[.slice none 0 0,.slice none 0 0];have l1:=hx.l1;have l2:=hx.l2;obtain ⟨Ht,Hz,h6,Hx⟩:=zd4 HY hz HG hx;clear HY hz HG hx;go_enter Tryz.func64,Tryz.ntmps64;go_wp2_with fail;generalize (w.alloc (.cells #[.slice S x.s.length c,.slice C x.c.length d] 30)).alloc (.cells #[.slice none 0 0,.slice none 0 0] 30)=w1 at *;refine (qa2 S C c d x w1 oZ oZ (Hx.out.later h6.out).r.1).mono ?_;rintro e w2 ⟨rfl,HT⟩;have h0:Later w1 w2:=HT;have h4:=h6.out.trans h0;have hl:=h0.blk Hz.out;have hm:=h0.blk Ht.out;clear HT Hz h6 Ht h0;cases hr:Tn.right x
 ·have HE:=zI (Ly.cut_right (sd:=sd) (frm:=frm) (til:=til) hr)
  clear hr;have c0:=hl.cell 0;have c1:=hl.cell 1;have f0:=hl.frozen 0;have f1:=hl.frozen 1;simp at c0 c1;obtain ⟨hY,Hh,hK⟩:=zd3 h4 hl hm;clear h4 hl hm;go_wp2_with fail;refine Zk1 (v:=.tuple #[.agg #[.slice none 0 0,.slice none 0 0],.int .i64 20]) (by simp [results,Tryz.results64,go_sem,c0,c1]) rfl ?_;exact GoP.fail HE.out dZ ((hY.out.set (p:=⟨w.heap.size+1,0,none⟩) sZ _).set (p:=⟨w.heap.size+1,1,none⟩) sZ _)
 have x0:=hm.cell 0;simp at x0;obtain ⟨hY,Hh,hK⟩:=zd3 h4 hl hm;clear h4 hl hm;go_wp2_with fail;clear x0;refine (qct S c x.s sd frm til w2 oZ (Hx.out.later hY.out).r.1).mono ?_;rintro e w3 ⟨A,ac,rfl,hI,Ha,gc,hf,HZ⟩;have hG:Later w2 w3:=HZ;have hN:=hY.out.trans hG;have hy:=hG.blk Hh.out;have hw:=hG.blk hK.out;clear HZ Hh hK
 by_cases hg:(Od.cut x.s sd frm til).2=0
 case neg=>
  have HE:=zI (Ly.cut_err hr hg);have Hg:=zI hg;have d1:((Od.cut x.s sd frm til).2==0)=false:=by simpa using hg
  have d2:((Od.cut x.s sd frm til).2 != 0)=true:=by simpa using hg
  clear hg hr hf;generalize (Od.cut x.s sd frm til).2=ge at *;generalize (Od.cut x.s sd frm til).1=os at *;have c0:=hy.cell 0;have c1:=hy.cell 1;have f0:=hy.frozen 0;have f1:=hy.frozen 1;simp at c0 c1;obtain ⟨h1,Hq,hL,HI,gd⟩:=zd5 hN hy hw hI hG;clear hN hy hw hI hG;go_wp2_with fail;refine Zk1 (v:=.tuple #[.agg #[.slice none 0 0,.slice none 0 0],.int .i64 ge]) (by simp [results,Tryz.results64,go_sem,c0,c1]) rfl ?_;exact GoP.fail HE.out Hg.out ((h1.out.set (p:=⟨w.heap.size+1,0,none⟩) sZ _).set (p:=⟨w.heap.size+1,1,none⟩) sZ _)
 have HE:=zI (Ly.cut_ok hr hg);obtain ⟨k,S',f,t,inner,pre,rfl,rfl,rfl,hk,hS,gx,H4,gL,H8,hW,H1,He,Hp,h2,H6,gK,Hn⟩:=Ly.cut_facts hr hg;rw [hg];rw [H1] at hI Ha HE ⊢;have HL:(x.s.set k ((t-f:Nat):Int)).length=x.s.length:=List.length_set;rw [tnZ,tnZ,tnZ] at HE;have HR:Ly.side x.s k=S':=by show (x.s.getD k 0).toNat=S';rw [hS];exact tnZ _
 have hR:Ly.span ((x.s.set k ((t-f:Nat):Int)).drop (k+1))=inner:=by unfold Ly.span;rw [He];exact tnZ _
 rw [HR,hR] at HE;obtain ⟨bs,os',rfl,-,y00⟩:=(Hx.out.later hN).r.1 k hk;have y0:w3.cell? ⟨bs,os'+k,none⟩=some (.int .i64 S'):=by rw [y00,hS]
 clear y00;generalize x.s.set k ((t-f:Nat):Int)=os at *;obtain ⟨row,hrow⟩:∃row,row=S'*inner:=⟨_,rfl⟩
 obtain ⟨a,ha⟩:∃a,a=f*inner:=⟨_,rfl⟩
 obtain ⟨b,hb⟩:∃b,b=t * inner:=⟨_,rfl⟩
 have he:(t-f)*inner=b-a:=by rw [ha,hb,Nat.sub_mul]
 have gy:a<b:=by rw [ha,hb];exact Nat.mul_lt_mul_of_pos_right gx H8
 have gE:b<=row:=by rw [hb,hrow];exact mlZ _ H4
 have hC:1<=row:=by omega
 rw [he,←hrow,←ha] at HE;rw [←hrow] at h2;rw [he] at Hp;have hX:x.c.length / row=pre:=by rw [h2];exact Nat.mul_div_cancel _ hC
 rw [hX] at HE
 have hM:pre*(b-a)<=65536:=by
  have:pre*(b-a)<=pre*row:=Nat.mul_le_mul_left _ oZ;omega
 have Hk:row<=65536:=by
  have:1*row<=pre*row:=mlZ _ hW;omega
 have e1:(S':Int)*(inner:Int)=(row:Int):=by rw [hrow];simp
 have e2:(f:Int)*(inner:Int)=(a:Int):=by rw [ha];simp
 have e3:(t:Int)*(inner:Int)=(b:Int):=by rw [hb];simp
 have gn:inner<=65536:=by
  have:1*inner<=S'*inner:=mlZ _ oZ;omega
 have HP:pre<=65536:=by
  have:pre*1<=pre*row:=Nat.mul_le_mul_left _ hC;omega
 have HB:=hI;obtain ⟨ba,oa,rfl,gA,-⟩:=HB 0 oZ;have gB:os.length<=4:=by omega
 have hD:=hI.drop_ (k+1);have HV:(os.drop (k+1)).length=os.length-(k+1):=Zq;have hV:ac=k+1->os.drop (k+1)=[]:=λh=>List.drop_eq_nil_of_le (h▸Ha)
 have HJ:∀z∈os.drop (k+1),1<=z/\z<=1024:=λz hz=>Hn z (Zp hz)
 have go:=hf;obtain ⟨E1,E2,E3,Hd,H3,Ho,HN,Hm,gg⟩:=zd9 e1 e2 e3 He Hp h2 HL HV y0;obtain ⟨hZ,Hr,gr,Hf,Hv⟩:=zd5 hV HJ Hn hf he;clear go hf H1 HR hR hrow ha hb he hX e1 e2 e3 He Hp h2 HL HV y0 hV HJ Hn hS hr hg;obtain ⟨h1,Hq,hL,HI,gd,hA⟩:=zd6 hN hy hw hI hG hD;clear hN hy hw hI hG hD;go_upto_region 6 with fail
 go_cut [12] (λv wx=>w3=wx/\v=.int .i64 (inner:Int))
 case first=>
  have q1:(k:Int)+1<=(os.length:Int):=by have:=HN.out;omega
  have q2:(os.length:Int)<=(ac:Int):=by omega
  have Hj:Safe.prod (os.drop (k+1))<=65536:=by rw [Hd.out];omega
  by_cases HA:ac=k+1
  ·subst HA
   have hn:=hZ.out rfl;have Hs:Safe.prod []=(inner:Int):=by rw [←hn];exact Hd.out
   have hd:=λ(B:Option Addr) (cc:Nat)=>qbH B cc [] w3 sZ Ints.nil sZ dZ
   rw [Hs] at hd;have hs:∀(B:Option Addr) (cc:Nat),Calls Tryz.prog 118 #[.slice B 0 cc] w3 λe w'=>e=.returned (.int .i64 inner)/\w3=w':=hd
   have hJ:=zI hs;clear hn Hj Hs hd hs;go_wp2_with fail
   with_reducible refine (hJ.out _ _).mono ?_
   rintro e wz ⟨rfl,rfl⟩;go_wp2_with fail
   go_meet
   exact ⟨rfl,rfl⟩
  ·have q3:k+1<ac:=by have:=HN.out;omega
   have hd:=qbH (some ⟨ba,oa+(k+1),none⟩) (ac-(k+1)) (os.drop (k+1)) w3 (by rw [Hm.out];omega) hA.out Hr.out Hj;rw [Hm.out,Hd.out] at hd;clear Hj HA;have hQ:=zI hd;clear hd;go_wp2_with fail
   with_reducible refine (hQ.out).mono ?_
   rintro e wz ⟨rfl,rfl⟩;go_wp2_with fail
   go_meet
   exact ⟨rfl,rfl⟩
 case rest=>
  obtain ⟨rfl,rfl⟩:=hcut;clear hA hZ Hr Hm;have b0:w3.cell? ⟨w.heap.size,0,none⟩=some (.slice (some ⟨bs,os',none⟩) x.s.length c):=by rw [hL.out.cell];rfl
  have y0:=gg.out;have e1:=E1.out;have k1:(k:Int)<(x.s.length:Int):=by omega
  have k2:(row:Int)<=65536:=by omega
  go_upto_region 8 with fail;clear b0 y0 e1 k1 k2;have h8:=qbH (some ⟨ba,oa,none⟩) ac os w3 oZ HI.out gr.out (by rw [H3.out];omega);rw [H3.out] at h8;have HD:=zI h8;clear h8;obtain ⟨M,hMe⟩:∃M,M=pre*(b-a):=⟨_,rfl⟩
  rw [←hMe] at hM;rw [←hMe] at HD;have HM:=zI hMe;clear hMe;have gJ:w.heap.size+1<w3.heap.size:=Hq.out.lt;have Hb:w.heap.size<=w3.heap.size:=by omega
  go_wp2_with fail
  with_reducible refine (HD.out).mono ?_
  rintro e wz ⟨rfl,rfl⟩;go_wp2_with (at_make;refine wpList_make_own _ rfl _ _ 28 rfl w3.heap.size 22 i0 (.int .i64 0) 1 Tryz.underlying28 hi H0 Hu _ _ _ M rfl rfl rfl ?b2 ?b3 ?b4 ?_)
  case b2=>rw [hl];omega
  case b3=>unfold maxLen;omega
  case b4=>exact lrZ _
  intro w4 hown hgrow;have Hy:Later w3 w4:=(Later.refl w3).grown hgrow (lrZ _) sZ
  have hB:∀i,i<pre->i*row+a+(b-a)<=x.c.length:=λi hi=>by
   have h9:(i+1)*row<=pre*row:=mlZ _ hi;rw [Zu] at h9;have:=Ho.out;omega
  have hF:=zI hB;have hE:w4.ownsRow w3.heap.size 22 1 (.slice (some ⟨w3.heap.size,0,none⟩) 0 M) 0 ((Ly.cutRows x.c row a (b-a) 0).map (Za1 .i64)):=by simpa [Ly.cutRows] using hown
  have gF:=Hx.out.c1;have gb:=Hx.out.c2;clear hown hgrow hB;obtain ⟨gj,hT⟩:=zd2 Hy hE;clear Hy hE;go_wp2_with fail
  go_loopw [14,15] (λv st wr=>∃i:Nat,i<=pre/\st=.int .i64 ((i*row:Nat):Int)/\wr.ownsRow w3.heap.size 22 1 v (i*(b-a)) ((Ly.cutRows x.c row a (b-a) i).map (Za1 .i64))/\Later w3 wr) (λ_ st _=>x.c.length-(intOf st).toNat)
  case atStart=>exact ⟨0,Zt _,by rw [Nat.zero_mul];rfl,by rw [Nat.zero_mul];exact hT.out,gj.out⟩
  case round=>
   obtain ⟨i,H9,rfl,hown,ht⟩:=hrel;obtain ⟨Ao,co,rfl⟩:=qaj hown;have x0:wr.cell? ⟨w.heap.size,1,none⟩=some (.slice C x.c.length d):=ht.cell (by rw [hL.out.cell];rfl);have h9:i*row<=pre*row:=mlZ _ H9;rw [←Ho.out] at h9
   by_cases Hc:i<pre
   ·have gv:=hF.out i Hc
    have hh:=Ly.rows_succ x.c row a (b-a) i
    have gt:i*(b-a)+(b-a)<=M:=by
     have h7:(i+1)*(b-a)<=pre*(b-a):=mlZ _ Hc;rw [Zu] at h7;rw [HM.out];exact h7
    obtain ⟨p,hp⟩:∃p,p=i*row:=⟨_,rfl⟩
    obtain ⟨nn,hnn⟩:∃nn,nn=i*(b-a):=⟨_,rfl⟩
    rw [←hp] at gv hh h9 ⊢;rw [←hnn] at hown gt ⊢;have Hl:((x.c.drop (p+a)).take (b-a)).length=b-a:=by rw [Zo,Zq];omega
    obtain ⟨bc,oc,rfl,gI,-⟩:=Hx.out.cell (k:=0) oZ
    have HF:Ints .i64 wr (some ⟨bc,oc+(p+a),none⟩) ((x.c.drop (p+a)).take (b-a)):=Ints.of_row λj hj=>by
     rw [Hl] at hj;obtain ⟨b',o',e',-,hc⟩:=(Hx.out.later (h1.out.trans ht)).r.2 (p+a+j) oZ;injection e' with e';injection e' with e1 e2;subst e1 e2
     rw [Nat.add_assoc,hc];simp only [gdZ];rw [List.getElem?_take,if_pos hj,List.getElem?_drop]
    have HX:(i+1)*row=p+row:=by rw [hp,Zu]
    have HU:(i+1)*(b-a)=nn+(b-a):=by rw [hnn,Zu]
    generalize (x.c.drop (p+a)).take (b-a)=nw at *;obtain ⟨gh,gk,hO,gl,gD,hU,gi,gm⟩:=zd8 HX HU hh Hl hnn hown ht HF;have Hw:=λb (hb:(Zb1 Ao nn co).ownBlock=some b)=>(hown.lt b hb).1
    have gp:=zI Hw;have HH:w3.heap.size<=wr.heap.size:=ht.size;have e2:=E2.out;have e3:=E3.out;have k1:(p:Int)+(b:Int)<=(d:Int):=by omega
    have k2:(p:Int)+(b:Int)<=65536:=by omega
    have k3:(a:Int)<(b:Int):=by omega
    have k4:(p:Int)<(x.c.length:Int):=by omega
    have k5:(p:Int)+(row:Int)<=131072:=by omega
    clear HX HU hh Hl hown ht HF hp hnn Hw h9;go_wp2_with (at_builtin;refine wpList_append_own_at _ rfl _ _ 28 rfl w3.heap.size 22 i0 (.int .i64 0) 1 8 Tryz.underlying28 hi H0 Hu hl rfl dZ _ _ _ rfl hU.out ⟨bc,oc+(p+a),none⟩ _ _ (nw.map (Za1 .i64)) rfl ?c0 ?c1 ?c2 ?c3 ?c4 ?c5 ?_)
    case c0=>rw [List.length_map,gl.out];omega
    case c1=>
     intro j u hj;rw [List.getElem?_map] at hj;cases hq:nw[j]? with
     | none=>rw [hq] at hj;simp at hj
     | some z=>
      rw [hq] at hj;simp at hj;subst hj;obtain ⟨HQ,hz⟩:=List.getElem?_eq_some_iff.1 hq;obtain ⟨b',o',e',-,hc⟩:=gm.out j HQ;injection e' with e';injection e' with e1 e2;subst e1 e2
      rw [qaX HQ,hz] at hc
      by_cases H2:j=0
      ·subst H2;simpa [Addr.add] using hc
      ·simpa [Addr.add,H2] using hc
    case c2=>intro u hu;obtain ⟨z,_,rfl⟩:=List.mem_map.1 hu;rfl
    case c3=>unfold maxLen;omega
    case c4=>omega
    case c5=>exact HH
    intro v' w5 ho hgrow _ gw;have HK:Later w3 w5:=gi.out.grown hgrow HH (λb hb=>gp.out b hb);have HO:nn+(p+b-(p+a))=nn+(b-a):=by omega
    rw [HO,←List.map_append,←hO.out] at ho;have H7:=zI ho;have gq:=zI HK;clear ho hgrow gw HK HO;go_wp2_with fail;go_roundw
    case rel=>exact ⟨i+1,Hc,by rw [gh.out];go_num,by rw [gk.out];exact H7.out,gq.out⟩
    case measure=>simp [intOf];omega
   ·obtain rfl:i=pre:=by omega
    have Hi:i*row=x.c.length:=Ho.out.symm;have h5:=Ly.rows_len hF.out;have HC:=Ly.rows_in (row:=row) (a:=a) (n:=b-a) (k:=i) Hx.out.num;rw [←h5] at hown ⊢
    have hP:0<(Ly.cutRows x.c row a (b-a) i).length:=by
     rw [h5];exact Nat.mul_pos hW oZ
    have gC:(Ly.cutRows x.c row a (b-a) i).length<=65536:=by rw [h5,←HM.out];exact hM
    obtain ⟨C2,d2,hv,HS⟩:=TenO.of_row (qde hown Hb) (HI.out.below ht (lrZ _)) Ha gc (λa e=>Zv hY.out.size (Hf.out a e)) oZ oZ hP HC;injection hv with e1 e2 e3
    subst e1 e3;have hH:=ht.blk Hq.out;have HW:=h1.out.trans ht;generalize Ly.cutRows x.c row a (b-a) i=L at *;generalize hLl:L.length=ll at *;have c0:=hH.cell 0;have c1:=hH.cell 1;have f0:=hH.frozen 0;have f1:=hH.frozen 1;simp at c0 c1;have h3:=(hH.set_ 0 (.slice (some ⟨ba,oa,none⟩) os.length ac)).set_ 1 (.slice Ao ll co);have d0:=h3.cell 0;have d1:=h3.cell 1;simp at d0 d1;obtain ⟨gH,gM⟩:=zd2 Hi hLl;rw [Hi];clear Hi h5 HC hP hLl HB;obtain ⟨hU,gG,gf,gu,H5,gN⟩:=zd6 hown ht HS hH HW h3;clear hown ht HS hH HW h3;go_wp2_with fail;refine Zk1 (v:=.tuple #[.agg #[.slice (some ⟨ba,oa,none⟩) os.length ac,.slice Ao ll co],.int .i64 0]) (by simp [results,Tryz.results64,go_sem,d0,d1]) rfl ?_;exact GoP.ok HE.out (TenO.box gf.out gu.out) ((H5.out.set (p:=⟨w.heap.size+1,0,none⟩) sZ _).set (p:=⟨w.heap.size+1,1,none⟩) sZ _)
theorem move_cut (S C:Option Addr) (c d:Nat) (x:Ten) (sd frm til:Int) (w:Zp1) (hx:TenIn w S C c d x):
  Calls Tryz.prog 99 #[.agg #[.slice S x.s.length c,.slice C x.c.length d],.int .i64 sd,.int .i64 frm,.int .i64 til] w (GoP (Ly.cut x sd frm til) w):=by
 obtain ⟨hm,hz,hn⟩:=qaV w 30 30 #[.slice S x.s.length c,.slice C x.c.length d] #[.slice none 0 0,.slice none 0 0];obtain ⟨hB,Hz,hi,Hx⟩:=zd4 hm hz hn hx;clear hm hz hn hx;go_enter Tryz.func99,Tryz.ntmps99;go_wp2_with fail;generalize (w.alloc (.cells #[.slice S x.s.length c,.slice C x.c.length d] 30)).alloc (.cells #[.slice none 0 0,.slice none 0 0] 30)=w1 at *;refine (qd7 S C c d x sd frm til w1 (Hx.out.later hi.out)).mono ?_;rintro e wf hg;have hc:Later w1 wf:=hg.2;have ha:=hc.blk Hz.out;have hf:=hi.out.trans hc;have f0:=ha.frozen 0;have f1:=ha.frozen 1;have hh:w.heap.size<=w.heap.size+1:=by first|exact lrZ _|simp|omega
 rcases hg.1 with ⟨hk,rfl⟩|⟨hq,v,rfl,hb⟩
 ·have c0:=ha.cell 0
  have c1:=ha.cell 1;simp at c0 c1;have hd:=hk;generalize hge:(Ly.cut x sd frm til).2=ge at *;obtain ⟨hw,hs⟩:=zd2 hge hd;clear hd;clear hg hk hc hge;obtain ⟨hl,hj⟩:=zd2 ha hf;clear ha hf;go_wp2_with fail;refine Zk1 (v:=.tuple #[.agg #[.slice none 0 0,.slice none 0 0],.int .i64 ge]) (by simp [results,Tryz.results99,go_sem,c0,c1]) rfl ?_;exact GoP.fail2 hw.out hs.out ((hj.out.set (p:=⟨w.heap.size+1,0,none⟩) hh _).set (p:=⟨w.heap.size+1,1,none⟩) hh _)
 ·have hu:=hb.base (hi.out.size)
  clear hg hb;obtain ⟨S2,c2,C2,d2,rfl,hp,hr,ho⟩:=hu;have he:=(ha.set_ 0 (.slice S2 (Ly.cut x sd frm til).1.s.length c2)).set_ 1 (.slice C2 (Ly.cut x sd frm til).1.c.length d2);have d0:=he.cell 0;have d1:=he.cell 1;simp at d0 d1;have c0:=ha.cell 0;have c1:=ha.cell 1;simp at c0 c1;obtain ⟨hy,hD,hl,hj,hC,hv,ht,hA⟩:=zd8 hq he ha hf hc hp hr ho;clear he ha hf hc hp hr ho hq;go_wp2_with fail;refine Zk1 (v:=.tuple #[.agg #[.slice S2 (Ly.cut x sd frm til).1.s.length c2,.slice C2 (Ly.cut x sd frm til).1.c.length d2],.int .i64 0]) (by simp [results,Tryz.results99,go_sem,d0,d1]) rfl ?_;exact ⟨.inr ⟨hy.out,_,rfl,TenO.box ⟨S2,c2,C2,d2,rfl,hv.out,ht.out,hA.out⟩ hl.out⟩,(hj.out.set (p:=⟨w.heap.size+1,0,none⟩) hh _).set (p:=⟨w.heap.size+1,1,none⟩) hh _⟩
namespace Ly
theorem joined_nil (sd:Int):joined sd []=([],20):=rfl
theorem joined_cons (sd:Int) {x:List Ten} (h:0<x.length):joined sd x=if Tn.right (got x 0) then (if (x.drop 1).length=0/\(sd<0∨((got x 0).s.length:Int)<=sd) then ([],11) else joinedS sd (got x 0).s (x.drop 1)) else ([],20):=by
 match x,h with
 | t::r,_=>rfl
theorem joinedS_succ (sd:Int) (s:List Int) {x:List Ten} {j:Nat} (h:j<x.length):joinedS sd s (x.drop j)=if Tn.right (got x j) then (if (Od.join s (got x j).s sd).2=0 then joinedS sd (Od.join s (got x j).s sd).1 (x.drop (j+1)) else ([],(Od.join s (got x j).s sd).2)) else ([],20):=by
 rw [Zd h,qam h]
 rfl
theorem joinedS_end (sd:Int) (s:List Int) {x:List Ten} {j:Nat} (h:x.length<=j):joinedS sd s (x.drop j)=(s,0):=by rw [List.drop_eq_nil_of_le h];rfl
end Ly
theorem qcF (sd:Int) (A:Option Addr) (f:Nat) (x:List Ten) (w:Zp1) (hl:x.length<=1048576) (hf:x.length<=f) (hf2:f<=9223372036854775807) (hT:Tns w A x):
  Calls Tryz.prog 63 #[.int .i64 sd,.slice A x.length f] w (ShPost (Ly.joined sd x) w):=by
 by_cases h0:x.length=0
 ·obtain rfl:x=[]:=List.eq_nil_of_length_eq_zero h0
  clear hT h0;go_enter Tryz.func63,Tryz.ntmps63;go_wp2_with fail
  go_ret2
  exact ShPost.fail (Ly.joined_nil sd) (Ze1 _ _)
 have he:0<x.length:=by omega
 obtain ⟨b,off,S0,sc0,C0,cd0,rfl,Hs,z0,z1,hA⟩:=hT.first he
 have HJ:=zI (Ly.joined_cons sd he)
 have d1:((x.length:Int)==0)=false:=by
                                                 have h3:(x.length:Int)≠0:=by omega
                                                 simpa using h3
 have k1:(0:Int)<(x.length:Int):=by omega
 have k2:0<x.length:=he;have l1:=hA.l1;have l2:=hA.l2;clear h0;obtain ⟨HT,hV⟩:=zd2 hT hA;clear hT hA;generalize ht:Ly.got x 0=t at *;have Ht:=zI ht;clear ht;go_enter Tryz.func63,Tryz.ntmps63;go_wp2_with fail;refine (qa2 S0 C0 sc0 cd0 t w oZ oZ hV.out.r.1).mono ?_;rintro e w1 ⟨rfl,hX⟩;have hq:Later w w1:=hX;have z0:=hq.cell z0;clear hX z1;cases hr:Tn.right t
 ·have HE:=zI (show Ly.joined sd x=([],20) by rw [HJ.out,hr];rfl)
  clear hr;have hk:=zI hq;clear hq;go_wp2_with fail
  go_ret2
  exact ShPost.fail HE.out hk.out
 have Hl:=Ly.right_ok hr;obtain ⟨Hq,-⟩:=Hl;have Hr:=zI hr;clear hr;have hk:=zI hq;clear hq;go_wp2_with fail;refine (qae S0 sc0 t.s w1 oZ (hV.out.later hk.out).r.1).mono ?_;rintro e w2 ⟨g,rfl,hg,Ha,hS⟩;have hU:Later w1 w2:=hS;have hi:=hk.out.trans hU;have hh:Ints .i64 w2 (some ⟨g,0,none⟩) t.s:=Blk.ints Ha;have h8:w.heap.size<=g:=Zv hk.out.size hg;clear hS z0 Ha hU
 by_cases h1:x.length=1
 ·by_cases h2:sd<0∨(t.s.length:Int)<=sd
  ·have HE:=zI (show Ly.joined sd x=([],11) by rw [HJ.out,if_pos Hr.out,if_pos ⟨by rw [Zq];omega,h2⟩])
   have e1:((x.length:Int)==1)=true:=by
                                                  have h3:(x.length:Int)=1:=by omega
                                                  simpa using h3
   clear h1 HJ
   by_cases h3:sd<0
   all_goals
    have Hc:=h2;clear h2;have h4:¬sd<0->(t.s.length:Int)<=sd:=λk=>by omega
    have H4:=zI h4;clear h4 Hc
    try (have h5:=H4.out h3)
    obtain ⟨hn,hw⟩:=zd2 hi hh;clear hi hh;go_wp2_with fail
    go_ret2
    exact ShPost.fail HE.out hn.out
  ·have HE:=zI (show Ly.joined sd x=(t.s,0) by rw [HJ.out,if_pos Hr.out,if_neg (λk=>h2 k.2)];exact Ly.joinedS_end sd t.s oZ)
   have h3:¬sd<0:=by omega
   have h4:¬(t.s.length:Int)<=sd:=by omega
   have e1:((x.length:Int)==1)=true:=by
                                                  have h3:(x.length:Int)=1:=by omega
                                                  simpa using h3
   have Ho:(x.length:Int)-1=0:=by omega
   have Hp:x.length-1=0:=by omega
   have q1:(1:Int)<=(x.length:Int):=by omega
   have q2:(x.length:Int)<=(f:Int):=by omega
   have q3:(1:Int)<=(f:Int):=by omega
   clear h1 h2 HJ;obtain ⟨hn,hw⟩:=zd2 hi hh;clear hi hh
   by_cases Hg:f=1
   all_goals
    try (subst Hg)
    go_wp2_with fail
    go_loopw [6,42] (λv i wr=>v=.slice (some ⟨g,0,none⟩) t.s.length t.s.length/\i=.int .i64 0/\w2=wr) (λ_ _ _=>0)
    case atStart=>exact ⟨rfl,rfl,rfl⟩
    case round=>
     obtain ⟨rfl,rfl,rfl⟩:=hrel;go_wp2_with fail
     go_ret2
     exact ShPost.mk' HE.out rfl hw.out (lrZ _) oZ (λa e=>by injection e with e;subst e;exact h8) hn.out
 ·have e1:((x.length:Int)==1)=false:=by
                                                  have h3:(x.length:Int)≠1:=by omega
                                                  simpa using h3
  have HE:=zI (show Ly.joined sd x=Ly.joinedS sd t.s (x.drop 1) by rw [HJ.out,if_pos Hr.out,if_neg (λk=>by have:=k.1;rw [Zq] at this;omega)]);have q1:(1:Int)<=(x.length:Int):=by omega
  have q2:(x.length:Int)<=(f:Int):=by omega
  have q4:(1:Int)<(f:Int):=by omega
  have q5:1<f:=by omega
  have Hb:Sh.right t.s=true:=by have:=Hr.out;simp only [Tn.right,Zz] at this;exact this.1
  have He:=zI Hb;clear h1 HJ Hb;obtain ⟨hn,hw⟩:=zd2 hi hh;clear hi hh;go_wp2_with fail
  go_loopw [6,42] (λv i wr=>∃(j:Nat) (B:Option Addr) (bc:Nat) (s:List Int),j+1<=x.length/\i=.int .i64 (j:Int)/\v=.slice B s.length bc/\Ints .i64 wr B s/\s.length<=bc/\bc<=9223372036854775807/\(∀a,B=some a->w.heap.size<=a.block)/\Sh.right s=true/\Ly.joined sd x=Ly.joinedS sd s (x.drop (j+1))/\Later w wr) (λ_ i _=>x.length-1-(intOf i).toNat)
  case atStart=>exact ⟨0,_,_,t.s,by omega,rfl,rfl,hw.out,lrZ _,by omega,(λa e=>by injection e with e;subst e;exact h8),He.out,HE.out,hn.out⟩
  case round=>
   obtain ⟨j,B,bc,s,hj,rfl,rfl,hI,Hn,hH,hB,hp,hx,ho⟩:=hrel;have Hj:=(Sh.right_mul hp).2.1
   by_cases h9:j+1<x.length
   ·obtain ⟨b',off',S,sc,C,cd,e',-,y0,y1,hC⟩:=(HT.out.later ho).at_ h9
    injection e' with e';injection e' with e1 e2;subst e1 e2
    have ha:=Ly.joinedS_succ sd s h9;rw [show off+(j+1)*2=off+2+j*2 by omega] at y0 y1;have m1:=hC.l1;have m2:=hC.l2;have Hd:(j:Int)<(x.length:Int)-1:=by omega
    have hY:Later wr (wr.alloc (.cells #[.slice S (Ly.got x (j+1)).s.length sc,.slice C (Ly.got x (j+1)).c.length cd] 30)):=(Later.refl wr).alloc _;have h7:=Blk.new wr 30 #[.slice S (Ly.got x (j+1)).s.length sc,.slice C (Ly.got x (j+1)).c.length cd];have ha:=hx.trans ha;clear hx;generalize Ly.got x (j+1)=u at *;obtain ⟨HI,HB,Hm,hL,hc,hW,hE,hP⟩:=zd8 hI hB hp ho ha hC hY h7;clear hI hB hp ho ha hC hY h7;go_wp2_with fail;clear y0 y1;generalize wr.alloc (.cells #[.slice S u.s.length sc,.slice C u.c.length cd] 30)=w3 at *;generalize wr.heap.size=pb at *;refine (qa2 S C sc cd u w3 oZ oZ (hW.out.later hE.out).r.1).mono ?_;rintro e w4 ⟨rfl,hQ⟩;have hu:Later w3 w4:=hQ;have hb:=hu.blk hP.out;have hs:=(hL.out.trans hE.out).trans hu;have hv:=hE.out.trans hu;have c0:=hb.cell 0;simp at c0;clear hQ hu hP;cases hru:Tn.right u
    ·have HN:=zI (show Ly.joined sd x=([],20) by rw [hc.out,hru];rfl)
     clear hru;obtain ⟨hy,hG,hM⟩:=zd3 hs hv hb;clear hs hv hb;go_wp2_with fail
     go_ret2
     exact ShPost.fail HN.out hy.out
    ·have hR:=zI hru
     clear hru;obtain ⟨hy,hG,hM⟩:=zd3 hs hv hb;clear hs hv hb;go_wp2_with fail;refine (qcU B S bc sc s u.s sd w4 oZ oZ (HI.out.below hG.out (lrZ _)) (hW.out.later hG.out).r.1).mono ?_;rintro e w5 ⟨B',bc',rfl,hO,hJ,hK,hN,hZ⟩;have hm:Later w4 w5:=hZ;have hz:=hy.out.trans hm;have hD:=hy.out.size;clear hZ
     by_cases hd:(Od.join s u.s sd).2=0
     ·have HN:=zI (show Ly.joined sd x=Ly.joinedS sd (Od.join s u.s sd).1 (x.drop (j+1+1)) by rw [hc.out,if_pos hR.out,if_pos hd])
      have h6:=Od.join_right hd;have Hf:=zI h6;rw [hd];clear hd h6;generalize (Od.join s u.s sd).1=s' at *;have Hh:=zI hO;have Hi:=zI hN;obtain ⟨Hk,hF⟩:=zd2 hm hz;clear hm hz;clear hO hN;go_wp2_with fail;go_roundw
      case rel=>exact ⟨j+1,B',bc',s',by omega,by go_num,rfl,Hh.out,hJ,hK,(λa e=>Zv hD (Hi.out a e)),Hf.out,HN.out,hF.out⟩
      case measure=>simp [intOf];omega
     ·have HN:=zI (show Ly.joined sd x=([],(Od.join s u.s sd).2) by rw [hc.out,if_pos hR.out,if_neg hd])
      have e1:((Od.join s u.s sd).2==0)=false:=by simpa using hd
      have e2:((Od.join s u.s sd).2 != 0)=true:=by simpa using hd
      clear hd hN hO;generalize (Od.join s u.s sd).2=er at *;generalize (Od.join s u.s sd).1.length=sl at *;obtain ⟨Hk,hF⟩:=zd2 hm hz;clear hm hz;go_wp2_with fail
      go_ret2
      exact ShPost.fail HN.out hF.out
   ·have HN:=zI (hx.trans (Ly.joinedS_end sd s (show x.length<=j+1 by omega)))
    have Hd:¬(j:Int)<(x.length:Int)-1:=by omega
    clear hx;obtain ⟨HI,HB,Hm,hL⟩:=zd4 hI hB hp ho;clear hI hB hp ho;go_wp2_with fail
    go_ret2
    exact ShPost.mk' HN.out rfl HI.out Hn hH HB.out hL.out
namespace Ly
theorem qfd {s t:List Int} {sd:Int} (h:(Od.join s t sd).2=0):
  ∃k:Nat,sd=(k:Int)/\k<s.length/\t.length=s.length/\(∀i,i≠k->t.getD i 0=s.getD i 0)/\(Od.join s t sd).1=s.set k (s.getD k 0+t.getD k 0)/\Sh.right s=true/\Sh.right t=true/\Sh.right (Od.join s t sd).1=true:=by
 have hj:=Od.join_right h;unfold Od.join at h hj ⊢
 split at h
 ·rename_i h1
  rw [if_pos h1] at hj ⊢;simp only [Zz,decide_eq_true_eq] at h1
  split at h
  ·rename_i h2
   rw [if_pos h2] at hj ⊢;simp only [Od.inR,decide_eq_true_eq] at h2
   split at h
   ·rename_i h3
    rw [if_pos h3] at hj ⊢;simp only [Zz] at h3;obtain ⟨k,rfl⟩:=ezZ h2.1;refine ⟨k,rfl,by omega,h1.2.symm,λi hi=>?_,?_,h1.1.1,h1.1.2,hj⟩
    ·by_cases ha:i<s.length
     ·have:=List.all_eq_true.1 h3.1 i (List.mem_range.2 ha)
      simp only [Bool.or_eq_true,decide_eq_true_eq] at this;rcases this with h4|h4
      ·omega
      ·exact h4.symm
     ·rw [gdZ,gdZ,Zi oZ,Zi oZ]
    ·unfold Od.joinL Od.at_
     rw [tnZ]
   ·simp at h
  ·simp at h
 ·simp at h
structure Near (k:Nat) (s t:List Int):Prop where
 len:t.length=s.length
 same:∀i,i≠k->t.getD i 0=s.getD i 0
theorem Near.take {k:Nat} {s t:List Int} (h:Near k s t):t.take k=s.take k:=by
 apply List.ext_getElem?;intro i;rw [List.getElem?_take,List.getElem?_take]
 split
 ·rename_i hi
  have h1:=h.same i oZ;simp only [gdZ] at h1
  by_cases hl:i<s.length
  ·rw [geZ hl,geZ (by have:=h.len;omega)] at h1 ⊢
   simpa using h1
  ·rw [Zi (by have:=h.len;omega),Zi oZ]
 ·rfl
theorem Near.drop {k:Nat} {s t:List Int} (h:Near k s t):t.drop (k+1)=s.drop (k+1):=by
 apply List.ext_getElem?;intro i;rw [List.getElem?_drop,List.getElem?_drop];have h1:=h.same (k+1+i) oZ;simp only [gdZ] at h1
 by_cases hl:k+1+i<s.length
 ·rw [geZ hl,geZ (by have:=h.len;omega)] at h1 ⊢
  simpa using h1
 ·rw [Zi (by have:=h.len;omega),Zi oZ]
theorem Near.set {k:Nat} {s t:List Int} {v:Int} (h:Near k (s.set k v) t):Near k s t:=by
 refine ⟨by rw [h.len,List.length_set],λi hi=>?_⟩;rw [h.same i hi,gdZ,gdZ,Zs (Ne.symm hi)]
def sumAt (k:Nat) (l:List Ten):Int:=l.foldr (λt z=>t.s.getD k 0+z) 0
theorem qbS {sd:Int}:∀ {r:List Ten} {s:List Int},Sh.right s=true->(joinedS sd s r).2=0->r≠[]->∃k:Nat,sd=(k:Int)/\k<s.length/\(∀t∈r,Tn.right t=true/\Near k s t.s)/\(joinedS sd s r).1=s.set k (s.getD k 0+sumAt k r)/\Sh.right (joinedS sd s r).1=true
 | [],s,_,_,h=>absurd rfl h
 | t::r,s,hs,h,_=>by
  unfold joinedS at h ⊢
  by_cases ht:Tn.right t=true
  case neg=>rw [if_neg ht] at h;simp at h
  rw [if_pos ht] at h ⊢
  by_cases hj:(Od.join s t.s sd).2=0
  case neg=>rw [if_neg hj] at h;exact absurd h hj
  rw [if_pos hj] at h ⊢;obtain ⟨k,rfl,hk,hl,hc,hr,h1,h2,h3⟩:=qfd hj;have hn:Near k s t.s:=⟨hl,hc⟩
  by_cases he:r=[]
  ·subst he
   refine ⟨k,rfl,hk,?_,?_,?_⟩
   ·intro u hu
    rw [List.mem_singleton] at hu;subst hu;exact ⟨ht,hn⟩
   ·show (Od.join s t.s k).1=_
    rw [hr];simp [sumAt]
   ·exact h3
  ·obtain ⟨k',hg,hf,ha,hd,hb⟩:=qbS h3 h he
   have:k'=k:=by omega
   subst this;rw [hr] at ha hd hf;refine ⟨k',rfl,hk,?_,?_,hb⟩
   ·intro u hu
    rcases List.mem_cons.1 hu with rfl|hu
    ·exact ⟨ht,hn⟩
    ·exact ⟨(ha u hu).1,(ha u hu).2.set⟩
   ·rw [hr,hd,List.set_set]
    congr 1
    have:(s.set k' (s.getD k' 0+t.s.getD k' 0)).getD k' 0=s.getD k' 0+t.s.getD k' 0:=by
     rw [gdZ,Zr hk];rfl
    rw [this];simp only [sumAt,List.foldr_cons];omega
theorem joined_facts {sd:Int} {x:List Ten} (h:(joined sd x).2=0):
  ∃k:Nat,sd=(k:Int)/\0<x.length/\k<(joined sd x).1.length/\(∀t∈x,Tn.right t=true/\Near k (joined sd x).1 t.s)/\Sh.right (joined sd x).1=true/\(joined sd x).1.getD k 0=sumAt k x:=by
 match x,h with
 | [],h=>simp [joined] at h
 | t::r,h=>
  unfold joined at h ⊢;simp only at h ⊢
  by_cases ht:Tn.right t=true
  case neg=>rw [if_neg ht] at h;simp at h
  rw [if_pos ht] at h ⊢;have hg:Sh.right t.s=true:=by simp only [Tn.right,Zz] at ht;exact ht.1
  by_cases hc:r.length=0/\(sd<0∨(t.s.length:Int)<=sd)
  case pos=>rw [if_pos hc] at h;simp at h
  rw [if_neg hc] at h ⊢
  by_cases he:r=[]
  ·subst he
   have h3:¬(sd<0∨(t.s.length:Int)<=sd):=λk=>hc ⟨rfl,k⟩
   obtain ⟨k,rfl⟩:=ezZ (show 0<=sd by omega);refine ⟨k,rfl,by simp,by show k<t.s.length;omega,?_,hg,by simp [sumAt,joinedS]⟩;intro u hu;rw [List.mem_singleton] at hu;subst hu;exact ⟨ht,rfl,λ_ _=>rfl⟩
  ·obtain ⟨k,rfl,hk,hd,hb,ha⟩:=qbS hg h he
   have hf:∀ {u:List Int},Near k t.s u->Near k ((joinedS (k:Int) t.s r).1) u:=fun {u} hn=>by
    rw [hb];refine ⟨by rw [hn.len,List.length_set],λi hi=>?_⟩;rw [hn.same i hi,gdZ,gdZ,Zs (Ne.symm hi)]
   refine ⟨k,rfl,by simp,by rw [hb,List.length_set];exact hk,?_,ha,?_⟩
   ·intro u hu
    rcases List.mem_cons.1 hu with rfl|hu
    ·exact ⟨ht,hf ⟨rfl,λ_ _=>rfl⟩⟩
    ·exact ⟨(hd u hu).1,hf (hd u hu).2⟩
   ·rw [hb,gdZ,Zr hk]
    simp [sumAt]
theorem qcG {sd:Int} {x:List Ten} (h:(joined sd x).2=0):
  ∃k rows inner:Nat,sd=(k:Int)/\0<x.length/\k<(joined sd x).1.length/\Sh.right (joined sd x).1=true/\span ((joined sd x).1.take k)=rows/\Safe.prod ((joined sd x).1.take k)=(rows:Int)/\1<=rows/\1<=inner/\rows<=65536/\
   (∀t∈x,Tn.right t=true/\∃m:Nat,t.s.getD k 0=(m:Int)/\t.c.length=rows*(m*inner))/\Safe.prod (joined sd x).1=(rows:Int)*(sumAt k x*(inner:Int)):=by
 obtain ⟨k,hp,hg,hk,hf,hr,hh⟩:=joined_facts h;generalize (joined sd x).1=s at *;obtain ⟨_,l4,l1,hb,hs,hw⟩:=Sh.right_mul hr
 have ha:∀u:List Int,k<u.length->Safe.prod u=Safe.prod (u.take k)*(u.getD k 0*Safe.prod (u.drop (k+1))):=λu hu=>by
  have e:u=u.take k++(u[k]::u.drop (k+1)):=by rw [←Zd hu,Zn]
  have e2:u.getD k 0=u[k]:=qaX hu;have e3:Safe.prod u=Safe.prod (u.take k++(u[k]::u.drop (k+1))):=congrArg Safe.prod e;rw [e3,prod_append,e2];rfl
 have hq:1<=Safe.prod (s.take k):=Safe.prod_pos _ (λz hz=>(hb z (Zh hz)).1);have hx:1<=Safe.prod (s.drop (k+1)):=Safe.prod_pos _ (λz hz=>(hb z (Zp hz)).1);have hv:=Safe.prod_take_le s k (λz hz=>(hb z hz).1);obtain ⟨rows,he⟩:=ezZ (show 0<=Safe.prod (s.take k) by omega);obtain ⟨inner,hj⟩:=ezZ (show 0<=Safe.prod (s.drop (k+1)) by omega);refine ⟨k,rows,inner,hp,hg,hk,hr,by unfold span;rw [he];exact tnZ _,he,by omega,by omega,by omega,λt ht=>?_,by rw [ha s hk,he,hj,hh]⟩;obtain ⟨hl,hn⟩:=hf t ht;refine ⟨hl,?_⟩;have hc:=hl;simp only [Tn.right,Zz,decide_eq_true_eq] at hc;obtain ⟨_,_,_,ho,_,_⟩:=Sh.right_mul hc.1;have hd:k<t.s.length:=by rw [hn.len];exact hk
 have hm:=ho _ (gmZ hd);obtain ⟨m,hi⟩:=ezZ (show 0<=t.s[k] by omega);refine ⟨m,by rw [qaX hd];exact hi,?_⟩;have h5:=hc.2;rw [ha t.s hd,hn.take,hn.drop,he,hj,qaX hd,hi,←Int.natCast_mul,←Int.natCast_mul] at h5;exact Int.ofNat.inj h5
end Ly
namespace Ly
theorem join_err {sd:Int} {x:List Ten} (h:(joined sd x).2≠0):join sd x=(none_,(joined sd x).2):=by unfold join;rw [if_neg h]
theorem join_ok {sd:Int} {x:List Ten} (h:(joined sd x).2=0):join sd x=(⟨(joined sd x).1,joinC (span ((joined sd x).1.take sd.toNat)) x (span ((joined sd x).1.take sd.toNat))⟩,0):=by unfold join;rw [if_pos h]
def wsum (rows:Nat):List Ten->Nat
 | []=>0
 | t::r=>t.c.length / rows+wsum rows r
theorem wsum_take_succ {rows:Nat}:∀ {x:List Ten} {j:Nat},j<x.length->wsum rows (x.take (j+1))=wsum rows (x.take j)+(got x j).c.length / rows
 | [],j,h=>by simp at h
 | t::r,0,_=>by simp [wsum,got]
 | t::r,j+1,h=>by
  have:=wsum_take_succ (rows:=rows) (x:=r) (j:=j) (by simpa using h);simp only [List.take_succ_cons,wsum];rw [this];have e:got (t::r) (j+1)=got r j:=by simp [got]
  rw [e];omega
theorem wsum_take_le {rows:Nat}:∀ {x:List Ten} {j:Nat},wsum rows (x.take j)<=wsum rows x
 | [],j=>by simp [wsum]
 | t::r,0=>by simp [wsum]
 | t::r,j+1=>by
  have:=wsum_take_le (rows:=rows) (x:=r) (j:=j);simp only [List.take_succ_cons,wsum];omega
theorem row_fit {rows i n:Nat} (h:i<rows):i*(n / rows)+n / rows<=n:=by
 have h1:(i+1)*(n / rows)<=rows*(n / rows):=mlZ _ h;rw [Zu] at h1;have h2:=Nat.mul_div_le n rows;omega
theorem joinRow_len {rows i:Nat} {t:Ten} (h:i<rows):(joinRow rows i t).length=t.c.length / rows:=by
 have:=row_fit (n:=t.c.length) h;unfold joinRow;rw [Zo,Zq];omega
theorem flat_len {rows i:Nat} (h:i<rows):∀x:List Ten,(x.flatMap (joinRow rows i)).length=wsum rows x
 | []=>by simp [wsum]
 | t::r=>by rw [List.flatMap_cons,Ze,joinRow_len h,flat_len h r];rfl
theorem joinC_succ (rows:Nat) (x:List Ten) (i:Nat):joinC rows x (i+1)=joinC rows x i++x.flatMap (joinRow rows i):=by
 unfold joinC;rw [List.range_succ,Zj];simp
theorem joinC_len {rows:Nat} {x:List Ten}:∀ {i:Nat},i<=rows->(joinC rows x i).length=i*wsum rows x
 | 0,_=>by simp [joinC]
 | i+1,h=>by rw [joinC_succ,Ze,joinC_len oZ,flat_len oZ,Zu]
theorem joinC_in {rows i:Nat} {x:List Ten} (h:∀t∈x,In t):∀z∈joinC rows x i,Fx.In z:=λz hz=>by
 unfold joinC at hz;obtain ⟨_,_,hz⟩:=List.mem_flatMap.1 hz;obtain ⟨t,ht,hz⟩:=List.mem_flatMap.1 hz;exact h t ht z (Zp (Zh hz))
theorem flat_take_succ (rows i:Nat) {x:List Ten} {j:Nat} (h:j<x.length):(x.take (j+1)).flatMap (joinRow rows i)=(x.take j).flatMap (joinRow rows i)++joinRow rows i (got x j):=by
 rw [Zb h,Zj,qam h];simp
theorem qes {rows inner k:Nat} (hr:1<=rows):∀ {x:List Ten},(∀t∈x,Tn.right t=true/\∃m:Nat,t.s.getD k 0=(m:Int)/\t.c.length=rows*(m*inner))->((wsum rows x:Nat):Int)=sumAt k x*(inner:Int)
 | [],_=>by simp [wsum,sumAt]
 | t::r,h=>by
  obtain ⟨_,m,hm,hl⟩:=h t sZ;have ih:=qes hr (x:=r) (λu hu=>h u (by simp [hu]));have e:t.c.length / rows=m*inner:=by rw [hl];exact Nat.mul_div_cancel_left _ hr
  simp only [wsum,sumAt,List.foldr_cons];rw [e,hm,Int.natCast_add,ih,Int.natCast_mul,Int.add_mul]
  rfl
theorem join_facts2 {sd:Int} {x:List Ten} (h:(joined sd x).2=0):
  ∃k rows:Nat,sd=(k:Int)/\0<x.length/\k<(joined sd x).1.length/\(joined sd x).1.length<=4/\Sh.right (joined sd x).1=true/\span ((joined sd x).1.take k)=rows/\Safe.prod ((joined sd x).1.take k)=(rows:Int)/\1<=rows/\rows<=65536/\
   (∀t∈x,t.c.length<=65536/\1<=t.c.length / rows)/\Safe.prod (joined sd x).1=((rows*wsum rows x:Nat):Int)/\rows*wsum rows x<=65536/\1<=wsum rows x/\(∀z∈(joined sd x).1,1<=z/\z<=1024):=by
 obtain ⟨k,rows,inner,h1,h2,h3,h4,h5,h6,h7,h8,h9,hd,hf⟩:=qcG h;obtain ⟨_,l4,l1,hb,hh,hg⟩:=Sh.right_mul h4;have hw:=qes h7 hd;have ha:Safe.prod (joined sd x).1=((rows*wsum rows x:Nat):Int):=by rw [hf,Int.natCast_mul,hw]
 have hc:∀t∈x,t.c.length<=65536/\1<=t.c.length / rows:=λt ht=>by
  obtain ⟨hr,m,hm,hl⟩:=hd t ht;have he:=(right_ok hr).2;refine ⟨he,?_⟩;have:t.c.length / rows=m*inner:=by rw [hl];exact Nat.mul_div_cancel_left _ h7
  rw [this];simp only [Tn.right,Zz,decide_eq_true_eq] at hr;have hp:=(Sh.right_mul hr.1).2.2.2.2.1;rcases Nat.eq_zero_or_pos (m*inner) with h0|h0
  ·rw [h0,Nat.mul_zero] at hl;omega
  ·exact h0
 refine ⟨k,rows,h1,h2,h3,l4,h4,h5,h6,h7,h9,hc,ha,by omega,?_,hb⟩;rcases Nat.eq_zero_or_pos (wsum rows x) with h0|h0
 ·rw [h0,Nat.mul_zero] at ha;omega
 ·exact h0
end Ly
set_option maxRecDepth 4000 in
theorem qgd (sd:Int) (A:Option Addr) (f:Nat) (x:List Ten) (w:Zp1) (hl:x.length<=1048576) (hf:x.length<=f) (hf2:f<=9223372036854775807) (hT:Tns w A x):
  Calls Tryz.prog 98 #[.int .i64 sd,.slice A x.length f] w (GoP (Ly.join sd x) w):=by
 obtain ⟨i0,hi,HW,Hh,Hu⟩:=info_parts qbL;have Hr:Later w (w.alloc (.cells #[.slice none 0 0,.slice none 0 0] 30)):=(Later.refl w).alloc _;have hz:=Blk.new w 30 #[.slice none 0 0,.slice none 0 0];obtain ⟨hW,Hz,HT⟩:=zd3 Hr hz hT;clear Hr hz hT;go_enter Tryz.func98,Tryz.ntmps98;go_wp2_with fail;generalize w.alloc (.cells #[.slice none 0 0,.slice none 0 0] 30)=w1 at *;refine (qcF sd A f x w1 hl hf hf2 (HT.out.later hW.out)).mono ?_;rintro e w2 ⟨B,bc,rfl,hI,H4,H9,HQ,Hx⟩;have h4:Later w1 w2:=Hx;have hY:=hW.out.trans h4;have ha:=h4.blk Hz.out;have hB:∀a,B=some a->w.heap.size<=a.block:=λa e=>Zv hW.out.size (HQ a e)
 clear Hx Hz hW h4 HQ
 by_cases hg:(Ly.joined sd x).2=0
 case neg=>
  have HE:=zI (Ly.join_err hg);have Hg:=zI hg;have d1:((Ly.joined sd x).2==0)=false:=by simpa using hg
  have d2:((Ly.joined sd x).2 != 0)=true:=by simpa using hg
  clear hg hI hB;generalize (Ly.joined sd x).2=ge at *;generalize (Ly.joined sd x).1.length=sl at *;have c0:=ha.cell 0;have c1:=ha.cell 1;have f0:=ha.frozen 0;have f1:=ha.frozen 1;simp at c0 c1;have h0:=zI hY;have hF:=zI ha;clear hY ha;go_wp2_with fail;refine Zk1 (v:=.tuple #[.agg #[.slice none 0 0,.slice none 0 0],.int .i64 ge]) (by simp [results,Tryz.results98,go_sem,c0,c1]) rfl ?_;exact GoP.fail HE.out Hg.out ((h0.out.set (p:=⟨w.heap.size,0,none⟩) (lrZ _) _).set (p:=⟨w.heap.size,1,none⟩) (lrZ _) _)
 have HE:=zI (Ly.join_ok hg);obtain ⟨k,rows,rfl,H0,hk,gL,Hy,hA,hr,gk,gQ,hU,hh,hK,go,Hc⟩:=Ly.join_facts2 hg;rw [hg];rw [tnZ,hA] at HE;generalize (Ly.joined (k:Int) x).1=s at *;have h5:Sh.size s=(((rows*Ly.wsum rows x:Nat):Int),0):=by unfold Sh.size;rw [if_pos Hy,hh]
 have HS:=λj=>Safe.prod_take_le s j (λz hz=>(Hc z hz).1)
 have HH:=λj=>Safe.prod_pos (s.take j) (λz hz=>(Hc z (Zh hz)).1)
 have HB:=λj hj=>Safe.prod_take_succ s j hj
 have HF:Safe.prod s<=65536:=by rw [hh];omega
 obtain ⟨M,hM⟩:∃M,M=rows*Ly.wsum rows x:=⟨_,rfl⟩
 rw [←hM] at h5 hK;obtain ⟨HM,H7,hR,h1⟩:=zd4 hM h5 hr hU;have gB:k<s.length:=hk;clear hg hA hr hh hU hM h5 Hc Hy;have h0:=zI hY;have hF:=zI ha;obtain ⟨HI,h3,Hb,h7,HR⟩:=zd5 hI hB HS HH HB;clear hY ha hI hB HS HH HB;go_wp2_with fail;refine (qad B bc s w2 oZ HI.out).mono ?_;rintro e w3 ⟨rfl,HV⟩;rw [H7.out];have hL:Later w2 w3:=HV;have Hd:=h0.out.trans hL;have Hf:=hL.blk hF.out;have He:=HI.out.below hL (lrZ _);clear HV HI hF h0;have q1:(0:Int)<=(k:Int):=by omega
 have q2:(k:Int)<=(bc:Int):=by omega
 obtain ⟨gD,Hk,HZ,HG⟩:=zd4 hL Hd Hf He;clear hL Hd Hf He;go_wp2_with fail
 go_loop [9,40] (λv i=>∃j:Nat,j<=k/\i=.int .i64 j/\v=.int .i64 (Safe.prod (s.take j))) (λ_ i=>k-(intOf i).toNat)
 case atStart=>exact ⟨0,Zt _,rfl,rfl⟩
 case round=>
  obtain ⟨j,hj,rfl,rfl⟩:=hrel
  by_cases hD:j<k
  ·obtain ⟨bb,ob,rfl,-,hc⟩:=HG.out j oZ
   rw [qaX (show j<s.length by omega)] at hc;have p1:=h7.out j;have p2:=Hb.out j;have p3:=h7.out (j+1);have p4:=Hb.out (j+1);have p5:=HR.out j oZ;obtain ⟨P',hP⟩:∃P',P'=Safe.prod (s.take (j+1)):=⟨_,rfl⟩
   rw [←hP] at p3 p4 p5;have HP:=zI hP;clear hP;generalize Safe.prod (s.take j)=P at *;have e1:P*s[j]=P':=p5.symm;generalize s[j]=z at *;clear p5;go_wp2_with fail
   go_round
   case rel=>exact ⟨j+1,by omega,by go_num,by rw [←HP.out]⟩
   case measure=>simp [intOf];omega
  ·obtain rfl:j=k:=by omega
   rw [hR.out];clear q1 q2 Hb h7 HR;go_wp2_with (at_make;refine wpList_make_own _ rfl _ _ 28 rfl w3.heap.size 22 i0 (.int .i64 0) 1 Tryz.underlying28 hi HW Hh _ _ _ M rfl rfl rfl ?b2 ?b3 ?b4 ?_)
   case b2=>first|omega|(rw [Hu];omega)
   case b3=>unfold maxLen;omega
   first|(case b4=>exact lrZ _)|skip
   intro w4 hown hgrow;have Hl:Later w3 w4:=(Later.refl w3).grown hgrow (lrZ _) sZ;have hw:w4.ownsRow w3.heap.size 22 1 (.slice (some ⟨w3.heap.size,0,none⟩) 0 M) (Ly.joinC rows x 0).length ((Ly.joinC rows x 0).map (Za1 .i64)):=by simpa [Ly.joinC] using hown
   have Hn:(Ly.joinC rows x 0).length=0:=rfl;clear hown hgrow;obtain ⟨gl,hN,gR⟩:=zd3 Hl hw Hn;clear Hl hw Hn;have gG:w.heap.size<w3.heap.size:=HZ.out.lt;go_wp2_with fail
   go_loopw [12,51] (λv iv wr=>∃(i:Nat) (ll:Nat),i<=rows/\iv=.int .i64 (i:Int)/\ll=(Ly.joinC rows x i).length/\wr.ownsRow w3.heap.size 22 1 v ll ((Ly.joinC rows x i).map (Za1 .i64))/\Later w3 wr) (λ_ iv _=>rows-(intOf iv).toNat)
   case atStart=>exact ⟨0,0,Zt _,rfl,rfl,hN.out,gl.out⟩
   case round=>
    obtain ⟨i,ll,gy,rfl,h2,hown,he⟩:=hrel;obtain ⟨Ao,co,rfl⟩:=qaj hown
    by_cases hD:i<rows
    ·have Hs:=Ly.joinC_len (x:=x) (Nat.le_of_lt hD)
     have gd:=he.size;have gb:=zI Hs;clear Hs;obtain ⟨gp,hC,hQ⟩:=zd3 h2 hown he;clear h2 hown he;go_wp2_with fail
     go_loopw [12,56] (λv jv wr'=>∃(jj:Nat) (nn:Nat),jj<=x.length/\jv=.int .i64 (jj:Int)/\nn=(Ly.joinC rows x i++(x.take jj).flatMap (Ly.joinRow rows i)).length/\wr'.ownsRow w3.heap.size 22 1 v nn ((Ly.joinC rows x i++(x.take jj).flatMap (Ly.joinRow rows i)).map (Za1 .i64))/\Later w3 wr') (λ_ jv _=>x.length-(intOf jv).toNat)
     case atStart=>exact ⟨0,ll,Zt _,rfl,by rw [List.take_zero,List.flatMap_nil,List.append_nil];exact gp.out,by rw [List.take_zero,List.flatMap_nil,List.append_nil];exact hC.out,hQ.out⟩
     case round=>
      obtain ⟨jj,nn,gJ,rfl,hG,hown,he⟩:=hrel;obtain ⟨Ao,co,rfl⟩:=qaj hown;clear hC hQ
      by_cases hZ:jj<x.length
      ·obtain ⟨bx,ox,S,sc,C,cd,rfl,gH,y0,y1,ht⟩:=(HT.out.later (Hk.out.trans he)).at_ hZ
       obtain ⟨gC,gw⟩:=h1.out (Ly.got x jj) (by rw [qam hZ];exact gmZ _);have H8:=Ly.row_fit (n:=(Ly.got x jj).c.length) hD;have Hi:=Ly.flat_take_succ rows i hZ;have hH:=Ly.joinRow_len (t:=Ly.got x jj) hD;have gj:=Ly.wsum_take_succ (rows:=rows) hZ;have gt:=Ly.wsum_take_le (rows:=rows) (x:=x) (j:=jj+1)
       have Ht:nn+(Ly.got x jj).c.length / rows<=M:=by
        rw [hG,Ze,Ly.flat_len hD,gb.out];have h8:(i+1)*Ly.wsum rows x<=rows*Ly.wsum rows x:=mlZ _ hD;rw [Zu] at h8;rw [HM.out];omega
       have hS:(Ly.joinC rows x i++(x.take (jj+1)).flatMap (Ly.joinRow rows i))=(Ly.joinC rows x i++(x.take jj).flatMap (Ly.joinRow rows i))++Ly.joinRow rows i (Ly.got x jj):=by rw [Hi,List.append_assoc]
       have h9:=ht.num;have gS:=ht.c1;have H2:=ht.c2;have HX:=ht.r.2;have HC:=ht;obtain ⟨bc',oc',rfl,H6,-⟩:=HC.cell (k:=0) oZ;have HU:Ly.joinRow rows i (Ly.got x jj)=((Ly.got x jj).c.drop (i*((Ly.got x jj).c.length / rows))).take ((Ly.got x jj).c.length / rows):=rfl;generalize Ly.got x jj=u at *;have e0:(u.c.length:Int) / (rows:Int)=((u.c.length / rows:Nat):Int):=by simp
       have e1:(i:Int)*((u.c.length / rows:Nat):Int)=((i*(u.c.length / rows):Nat):Int):=by simp
       have e2:((i:Int)+1)*((u.c.length / rows:Nat):Int)=((i*(u.c.length / rows):Nat):Int)+((u.c.length / rows:Nat):Int):=by rw [Int.add_mul,e1];simp
       generalize u.c.length / rows=q at *;generalize i*q=p at *
       have Hq:Ints .i64 wr (some ⟨bc',oc'+p,none⟩) (Ly.joinRow rows i u):=Ints.of_row λj2 hn=>by
        rw [hH] at hn;obtain ⟨b',o',e',-,hc⟩:=HX (p+j2) oZ;injection e' with e';injection e' with e1 e2;subst e1 e2
        rw [Nat.add_assoc,hc,HU];simp only [gdZ];rw [List.getElem?_take,if_pos hn,List.getElem?_drop]
       have HA:(Ly.joinRow rows i u).length=q:=hH;generalize Ly.joinRow rows i u=nw at *;have gI:(q:Int)<=65536:=by omega
       have gM:(p:Int)+(q:Int)<=(cd:Int):=by omega
       have gx:(p:Int)+(q:Int)<=65536:=by omega
       have gP:(i:Int)<=65536:=by omega
       have gE:(1:Int)<=(rows:Int):=by omega
       have gv:0<q:=by omega
       have HD:Later wr (wr.alloc (.cells #[.slice S u.s.length sc,.slice (some ⟨bc',oc',none⟩) u.c.length cd] 30)):=(Later.refl wr).alloc _;have HK:=Blk.new wr 30 #[.slice S u.s.length sc,.slice (some ⟨bc',oc',none⟩) u.c.length cd];have gg:(jj:Int)<(x.length:Int):=by omega
       have gF:w3.heap.size<=wr.heap.size:=he.size;have hp:=qaz hown (.cells #[.slice S u.s.length sc,.slice (some ⟨bc',oc',none⟩) u.c.length cd] 30);obtain ⟨hV,H3,Hm⟩:=zd3 hS hG HA;clear hS hG HA HU hH Hi gj gt HX h9 ht hown HC;obtain ⟨hQ,gm,Hv,H1,hx⟩:=zd5 he Hq HD HK hp;clear he Hq HD HK hp;go_upto_region 20 with fail;clear y0 y1;generalize wr.alloc (.cells #[.slice S u.s.length sc,.slice (some ⟨bc',oc',none⟩) u.c.length cd] 30)=w5 at *;generalize hpb:wr.heap.size=pb at *;have c1:w5.cell? ⟨pb,1,none⟩=some (.slice (some ⟨bc',oc',none⟩) u.c.length cd):=by rw [H1.out.cell];rfl
       have h6:=hQ.out.trans Hv.out;have hO:w3.heap.size<=w5.heap.size:=h6.size;have Hj:=λb (hb:(Zb1 Ao nn co).ownBlock=some b)=>(hx.out.lt b hb).1
       obtain ⟨gn,gK⟩:=zd2 Hj hpb;clear Hj hpb;have gr:=zI h6;clear h6;go_wp2_with (at_builtin;refine wpList_append_own_at _ rfl _ _ 28 rfl w3.heap.size 22 i0 (.int .i64 0) 1 8 Tryz.underlying28 hi HW Hh Hu rfl dZ _ _ _ rfl hx.out ⟨bc',oc'+p,none⟩ _ _ (nw.map (Za1 .i64)) rfl ?c0 ?c1 ?c2 ?c3 ?c4 ?c5 ?_)
       case c0=>rw [List.length_map,Hm.out];omega
       case c1=>
        intro j2 u2 hn;rw [List.getElem?_map] at hn;cases hq:nw[j2]? with
        | none=>rw [hq] at hn;simp at hn
        | some z=>
         rw [hq] at hn;simp at hn;subst hn;obtain ⟨hH,hz⟩:=List.getElem?_eq_some_iff.1 hq;obtain ⟨b',o',e',-,hc⟩:=(gm.out.below Hv.out (lrZ _)) j2 hH;injection e' with e';injection e' with e1 e2;subst e1 e2
         rw [qaX hH,hz] at hc
         by_cases HY:j2=0
         ·subst HY;simpa [Addr.add] using hc
         ·simpa [Addr.add,HY] using hc
       case c2=>intro u2 hu;obtain ⟨z,_,rfl⟩:=List.mem_map.1 hu;rfl
       case c3=>unfold maxLen;omega
       case c4=>omega
       case c5=>exact hO
       intro v' w6 hd hgrow _ gu;have Ho:Later w3 w6:=gr.out.grown hgrow hO (λb hb=>gn.out b hb)
       have hm:w6.ownsRow w3.heap.size 22 1 v' (nn+q) (((Ly.joinC rows x i++(x.take jj).flatMap (Ly.joinRow rows i))++nw).map (Za1 .i64)):=by
        have gh:p+q-p=q:=by omega
        simp only [List.map_append,List.append_assoc] at hd ⊢
        first|exact hd | (rw [gh] at hd;exact hd)
       rw [←hV.out] at hm;have hy:nn+q=(Ly.joinC rows x i++(x.take (jj+1)).flatMap (Ly.joinRow rows i)).length:=by rw [hV.out,Ze,←H3.out,Hm.out]
       obtain ⟨gf,gi,hJ⟩:=zd3 hm Ho hy;clear hd hm hgrow gu Ho hy;go_wp2_with fail;go_roundw
       case rel=>exact ⟨jj+1,nn+q,by omega,by go_num,hJ.out,gf.out,gi.out⟩
       case measure=>simp [intOf];omega
      ·obtain rfl:jj=x.length:=by omega
       have hs:=Ly.joinC_succ rows x i;rw [Zg,←hs] at hown hG;obtain ⟨HO,HL,HN⟩:=zd3 hown he hG;clear hown he hG hs;go_wp2_with fail;go_roundw
       case rel=>exact ⟨i+1,nn,hD,by go_num,HN.out,HO.out,HL.out⟩
       case measure=>simp [intOf];omega
    ·obtain rfl:i=rows:=by omega
     have Ha:=Ly.joinC_len (x:=x) (lrZ i);have Hp:=Ly.joinC_in (rows:=i) (i:=i) (x:=x) HT.out.in_;subst h2;have ho:0<(Ly.joinC i x i).length:=by rw [Ha];exact Nat.mul_pos gk go
     have gA:(Ly.joinC i x i).length<=65536:=by rw [Ha,←HM.out];exact hK
     obtain ⟨C2,d2,hv,Hw⟩:=TenO.of_row (qde hown (show w.heap.size<=w3.heap.size by omega)) (HG.out.below he (lrZ _)) H4 H9 h3.out oZ oZ ho Hp;injection hv with e1 e2 e3
     subst e1 e3;have hE:=he.blk HZ.out;have HJ:=Hk.out.trans he;generalize Ly.joinC i x i=L at *;generalize hLl:L.length=ll at *;have c0:=hE.cell 0;have c1:=hE.cell 1;have f0:=hE.frozen 0;have f1:=hE.frozen 1;simp at c0 c1;have hX:=(hE.set_ 0 (.slice B s.length bc)).set_ 1 (.slice Ao ll co);have d0:=hX.cell 0;have d1:=hX.cell 1;simp at d0 d1;have gN:=zI hLl;clear Ha Hp ho hLl;obtain ⟨hC,hQ,gc,gq,H5,gO⟩:=zd6 hown he Hw hE HJ hX;clear hown he Hw hE HJ hX;go_wp2_with fail;refine Zk1 (v:=.tuple #[.agg #[.slice B s.length bc,.slice Ao ll co],.int .i64 0]) (by simp [results,Tryz.results98,go_sem,d0,d1]) rfl ?_;exact GoP.ok HE.out (TenO.box gc.out gq.out) ((H5.out.set (p:=⟨w.heap.size,0,none⟩) (lrZ _) _).set (p:=⟨w.heap.size,1,none⟩) (lrZ _) _)
theorem qdp {W:Zp1} {ad:Addr} {v:Value} (h:W.cell? ad=some v):∀(j:Nat) (u:Value),[v][j]? = some u->W.cell? (ad.add j)=some u:=by
 intro j u hj
 match j,hj with
 | 0,hj=>simp at hj;subst hj;simpa [Addr.add] using h
set_option maxRecDepth 4000 in
theorem qge (W X O:Addr) (wc xc oc:Nat) (a b k i o st:Int) (w:Zp1) (h0:W.spot=none) (h1:X.spot=none) (h2:O.spot=none) (hw:Ints .i64 w (some W) [a,b,k]) (hx:Ints .i64 w (some X) [b,i]) (ho:Ints .i64 w (some O) [a,o]) (hwc:3<=wc) (hxc:2<=xc) (hoc:2<=oc) (hk:1<=k/\k<=1024) (hi:1<=i/\i<=1024):
  Calls Tryz.prog 114 #[.slice (some W) 3 wc,.slice (some X) 2 xc,.slice (some O) 2 oc,.int .i64 st] w λe w'=>e=.returned (.agg #[.int .i64 a,.int .i64 b,.int .i64 1,.int .i64 k,.int .i64 1,.int .i64 i,.int .i64 1,.int .i64 o,.int .i64 st,.int .i64 k,.int .i64 k,.int .i64 i])/\Below w.heap.size w w':=by
 obtain ⟨Wb,Wo,_⟩:=W;obtain ⟨Xb,Xo,_⟩:=X;obtain ⟨Ob,Oo,_⟩:=O;simp only at h0 h1 h2;subst h0 h1 h2;have y0:w.cell? ⟨Wb,Wo,none⟩=some (.int .i64 a):=by obtain ⟨b',o',e,-,hc⟩:=hw 0 sZ;injection e with e;injection e with e1 e2;subst e1 e2;exact hc
 have y1:w.cell? ⟨Wb,Wo+1,none⟩=some (.int .i64 b):=by obtain ⟨b',o',e,-,hc⟩:=hw 1 sZ;injection e with e;injection e with e1 e2;subst e1 e2;exact hc
 go_enter Tryz.func114,Tryz.ntmps114;go_upto_region 1 with fail;generalize hw1:w.alloc (.cells #[.int .i64 0,.int .i64 0,.int .i64 0,.int .i64 0,.int .i64 0,.int .i64 0,.int .i64 0,.int .i64 0,.int .i64 0,.int .i64 0,.int .i64 0,.int .i64 0] 177)=w1;have hr:Later w w1:=by rw [←hw1];exact (Later.refl w).alloc _
 have hz:Blk w1 w.heap.size 177 #[.int .i64 0,.int .i64 0,.int .i64 0,.int .i64 0,.int .i64 0,.int .i64 0,.int .i64 0,.int .i64 0,.int .i64 0,.int .i64 0,.int .i64 0,.int .i64 0]:=by rw [←hw1];exact Blk.new w _ _
 have y0:=hr.cell y0;have y1:=hr.cell y1;clear hw1;obtain ⟨hh,Hz⟩:=zd2 hr hz;clear hr hz;have hY:Wb<w1.heap.size:=Zj1 _ _ y0;have KF:=zI (show ∀Xw,Later w1 Xw->Xw.cell? ⟨Wb,Wo,none⟩=some (.int .i64 a)/\Xw.cell? ⟨Wb,Wo+1,none⟩=some (.int .i64 b) from λXw h=>⟨h.cell y0,h.cell y1⟩);refine Zm1 ?_;refine Zl1 (S:=λXw=>Xw.cell? ⟨Wb,Wo,none⟩=some (.int .i64 a)/\Xw.cell? ⟨Wb,Wo+1,none⟩=some (.int .i64 b)) krZ (KF.out _ Lau) (λhHeld=>?_);refine tk 0 ?_;refine tk 1 ?_;refine tk 2 ?_;refine tk 3 ?_;refine tk 4 ?_;refine tk 5 ?_;refine tk 6 ?_;refine tk 7 ?_;refine rd 8 λK hK=>?_
 simp only [ga,gs,gz]
 go_simp
 refine hK.out _ _ (KF.out _ Lau) (λhHeld=>?_);clear hK K
 try simp only [ga,gs,gz,Act.put,sa,sz,ss]
 refine rd 9 λK hK=>?_
 simp only [ga,gs,gz]
 go_simp
 refine hK.out _ _ ?_ (λhHeld=>?_)
 ·(try dsimp only);(refine ⟨?_,?_⟩<;>(repeat (refine qa0 ?_ (by first|omega|(simp;done)|(simp;omega))))<;>(refine Later.cell (Lau:Later w1 _) ?_)<;>assumption)
 clear hK K
 try simp only [ga,gs,gz,Act.put,sa,sz,ss]
 clear KF;refine Zn1 krZ ?_ _;refine Zd1 ?_;go_upto_region 4 with fail;have hs:Blk (w1.alloc (.cells #[.int .i64 a,.int .i64 b,.int .i64 1,.int .i64 1,.int .i64 1,.int .i64 1,.int .i64 1,.int .i64 1,.int .i64 st,.int .i64 0,.int .i64 0,.int .i64 0] 177)).drew w1.heap.size 177 [.int .i64 a,.int .i64 b,.int .i64 1,.int .i64 1,.int .i64 1,.int .i64 1,.int .i64 1,.int .i64 1,.int .i64 st,.int .i64 0,.int .i64 0,.int .i64 0].toArray:=(Blk.new w1 _ _).drew;have hm:Later w1 (w1.alloc (.cells #[.int .i64 a,.int .i64 b,.int .i64 1,.int .i64 1,.int .i64 1,.int .i64 1,.int .i64 1,.int .i64 1,.int .i64 st,.int .i64 0,.int .i64 0,.int .i64 0] 177)).drew:=((Later.refl w1).alloc _).drew;generalize (w1.alloc (.cells #[.int .i64 a,.int .i64 b,.int .i64 1,.int .i64 1,.int .i64 1,.int .i64 1,.int .i64 1,.int .i64 1,.int .i64 st,.int .i64 0,.int .i64 0,.int .i64 0] 177)).drew=w2 at *;obtain ⟨fr,hfr⟩:∃fr,fr=w1.heap.size:=⟨_,rfl⟩
 rw [←hfr] at hs ⊢;have hl:=zI hfr;clear hfr y0 y1;have hu:Tryz.prog.underlying 23=some (.slice 3):=Tryz.underlying23;have hy:(Tryz.prog.info? 3).map (·.size)=some 1:=by kernel_rfl
 have h5:¬wc=2:=by omega
 have h3:¬xc=1:=by omega
 have h6:¬oc=1:=by omega
 have q1:(2:Int)<=(wc:Int):=by omega
 have q3:(1:Int)<=(xc:Int):=by omega
 have q4:(1:Int)<=(oc:Int):=by omega
 have h8:Wb<fr:=by rw [hl.out];exact hY
 have x1:w.cell? ⟨Xb,Xo+1,none⟩=some (.int .i64 i):=by obtain ⟨b',o',e,-,hc⟩:=hx 1 sZ;injection e with e;injection e with e1 e2;subst e1 e2;exact hc
 have x2:w.cell? ⟨Ob,Oo+1,none⟩=some (.int .i64 o):=by obtain ⟨b',o',e,-,hc⟩:=ho 1 sZ;injection e with e;injection e with e1 e2;subst e1 e2;exact hc
 have y2:w2.cell? ⟨Wb,Wo+2,none⟩=some (.int .i64 k):=hm.cell (hh.out.cell (by obtain ⟨b',o',e,-,hc⟩:=hw 2 sZ;injection e with e;injection e with e1 e2;subst e1 e2;exact hc));have y3:=hm.cell (hh.out.cell x1);have y4:=hm.cell (hh.out.cell x2);have hX:Xb<fr:=by rw [hl.out];exact Zj1 _ _ (hh.out.cell x1)
 have hE:Ob<fr:=by rw [hl.out];exact Zj1 _ _ (hh.out.cell x2)
 obtain ⟨Y3,Y4⟩:=zd2 y3 y4;clear hw hx ho x1 x2 y3 y4;obtain ⟨hV,hB⟩:=zd2 hs hm;clear hs hm;go_upto_region 4 with fail;have KF:=zI (show ∀Xw,Later w2 Xw->Xw.cell? ⟨Wb,Wo+2,none⟩=some (.int .i64 k) from λXw h=>h.cell y2);refine Zm1 ?_;refine Zl1 (S:=λXw=>Xw.cell? ⟨Wb,Wo+2,none⟩=some (.int .i64 k)) krZ (KF.out _ Lau) (λhHeld=>?_);refine tk 0 ?_;refine tk 1 ?_;refine tk 2 ?_;refine tk 3 ?_;refine tk 4 ?_;refine rd 5 λK hK=>?_
 refine step_copy_splice (by rfl) (.tmp 31) (.tmp 33) _ _ (by rfl) 3 hu hy (some ⟨fr,3,none⟩) (some ⟨Wb,Wo+2,none⟩) 1 1 1 (wc-2) (by rfl) (by rfl) fr 3 [.int .i64 a,.int .i64 b,.int .i64 1,.int .i64 1,.int .i64 1,.int .i64 1,.int .i64 1,.int .i64 1,.int .i64 st,.int .i64 0,.int .i64 0,.int .i64 0] 177 hV.out.drew [.int .i64 k] rfl (λ_=>⟨rfl,_,rfl,qdp (by assumption)⟩) sZ (by intro u hu;simp at hu;subst hu;rfl) fr _ (Ze1 _ _) (lrZ _) ?_;intro w4 hg hb;have y2:=(hb.cell (p:=⟨Wb,Wo+2,none⟩) soZ).trans y2;refine hK.out _ _ (by first|exact y2|exact KF.out _ Lau) (λhHeld=>?_);clear hK K
 try simp only [ga,gs,gz,Act.put,sa,sz,ss]
 clear KF;refine Zn1 krZ ?_ _;refine Zd1 ?_;have hN:Blk w4 fr 177 [.int .i64 a,.int .i64 b,.int .i64 1,.int .i64 k,.int .i64 1,.int .i64 1,.int .i64 1,.int .i64 1,.int .i64 st,.int .i64 0,.int .i64 0,.int .i64 0].toArray:=hg.out;have hf:Below fr w2 w4:=(Ze1 fr w2).drew.trans hb;have hj:=zI hf;clear hg hb hf y2;have h4:=zI hN;clear hN;have y3:=(hj.out.cell (p:=⟨Xb,Xo+1,none⟩) hX).trans Y3.out;go_upto_region 5 with fail;have KF:=zI (show ∀Xw,Later w4 Xw->Xw.cell? ⟨Xb,Xo+1,none⟩=some (.int .i64 i) from λXw h=>h.cell y3);refine Zm1 ?_;refine Zl1 (S:=λXw=>Xw.cell? ⟨Xb,Xo+1,none⟩=some (.int .i64 i)) krZ (KF.out _ Lau) (λhHeld=>?_);refine tk 0 ?_;refine tk 1 ?_;refine tk 2 ?_;refine tk 3 ?_;refine tk 4 ?_;refine rd 5 λK hK=>?_
 refine step_copy_splice (by rfl) (.tmp 37) (.tmp 39) _ _ (by rfl) 3 hu hy (some ⟨fr,5,none⟩) (some ⟨Xb,Xo+1,none⟩) 1 1 1 (xc-1) (by rfl) (by rfl) fr 5 [.int .i64 a,.int .i64 b,.int .i64 1,.int .i64 k,.int .i64 1,.int .i64 1,.int .i64 1,.int .i64 1,.int .i64 st,.int .i64 0,.int .i64 0,.int .i64 0] 177 h4.out.drew [.int .i64 i] rfl (λ_=>⟨rfl,_,rfl,qdp (by assumption)⟩) sZ (by intro u hu;simp at hu;subst hu;rfl) fr _ (Ze1 _ _) (lrZ _) ?_;intro w5 hg hb;have y3:=(hb.cell (p:=⟨Xb,Xo+1,none⟩) soZ).trans y3;refine hK.out _ _ (by first|exact y3|exact KF.out _ Lau) (λhHeld=>?_);clear hK K
 try simp only [ga,gs,gz,Act.put,sa,sz,ss]
 clear KF;refine Zn1 krZ ?_ _;refine Zd1 ?_;have hH:Blk w5 fr 177 [.int .i64 a,.int .i64 b,.int .i64 1,.int .i64 k,.int .i64 1,.int .i64 i,.int .i64 1,.int .i64 1,.int .i64 st,.int .i64 0,.int .i64 0,.int .i64 0].toArray:=hg.out;have hf:Below fr w4 w5:=(Ze1 fr w4).drew.trans hb;have hq:=zI hf;clear hg hb hf y3;have hZ:=zI hH;clear hH;have y4:=(hq.out.cell (p:=⟨Ob,Oo+1,none⟩) hE).trans ((hj.out.cell (p:=⟨Ob,Oo+1,none⟩) hE).trans Y4.out);go_upto_region 6 with fail;have KF:=zI (show ∀Xw,Later w5 Xw->Xw.cell? ⟨Ob,Oo+1,none⟩=some (.int .i64 o) from λXw h=>h.cell y4);refine Zm1 ?_;refine Zl1 (S:=λXw=>Xw.cell? ⟨Ob,Oo+1,none⟩=some (.int .i64 o)) krZ (KF.out _ Lau) (λhHeld=>?_);refine tk 0 ?_;refine tk 1 ?_;refine tk 2 ?_;refine tk 3 ?_;refine tk 4 ?_;refine rd 5 λK hK=>?_
 refine step_copy_splice (by rfl) (.tmp 43) (.tmp 45) _ _ (by rfl) 3 hu hy (some ⟨fr,7,none⟩) (some ⟨Ob,Oo+1,none⟩) 1 1 1 (oc-1) (by rfl) (by rfl) fr 7 [.int .i64 a,.int .i64 b,.int .i64 1,.int .i64 k,.int .i64 1,.int .i64 i,.int .i64 1,.int .i64 1,.int .i64 st,.int .i64 0,.int .i64 0,.int .i64 0] 177 hZ.out.drew [.int .i64 o] rfl (λ_=>⟨rfl,_,rfl,qdp (by assumption)⟩) sZ (by intro u hu;simp at hu;subst hu;rfl) fr _ (Ze1 _ _) (lrZ _) ?_;intro w6 hg hb;have y4:=(hb.cell (p:=⟨Ob,Oo+1,none⟩) soZ).trans y4;refine hK.out _ _ (by first|exact y4|exact KF.out _ Lau) (λhHeld=>?_);clear hK K
 try simp only [ga,gs,gz,Act.put,sa,sz,ss]
 clear KF;refine Zn1 krZ ?_ _;refine Zd1 ?_;have hJ:Blk w6 fr 177 [.int .i64 a,.int .i64 b,.int .i64 1,.int .i64 k,.int .i64 1,.int .i64 i,.int .i64 1,.int .i64 o,.int .i64 st,.int .i64 0,.int .i64 0,.int .i64 0].toArray:=hg.out;have hf:Below fr w5 w6:=(Ze1 fr w5).drew.trans hb;have hv:=zI hf;clear hg hb hf y4;have he:=zI hJ;clear hJ;have ht:Below fr w2 w6:=(hj.out.trans hq.out).trans hv.out;have hF:Below w.heap.size w w2:=hh.out.trans hB.out;have hS:w.heap.size<=fr:=by rw [hl.out];exact hh.out.size
 have hG:Below w.heap.size w w6:=hF.trans (ht.mono hS);have hW:=zI hG;have hd:Blk w6 w.heap.size 177 #[.int .i64 0,.int .i64 0,.int .i64 0,.int .i64 0,.int .i64 0,.int .i64 0,.int .i64 0,.int .i64 0,.int .i64 0,.int .i64 0,.int .i64 0,.int .i64 0]:=(hB.out.blk Hz.out).below ht (by rw [hl.out];exact Hz.out.lt);have h7:w.heap.size<fr:=by rw [hl.out];exact Hz.out.lt
 clear hG ht hF hS y0 y1
 repeat (clear hHeld)
 have e1:(1:Int)*k=k:=by omega
 have e2:(1:Int)*i=i:=by omega
 have c0:w6.cell? ⟨fr,0,none⟩=some (.int .i64 a):=by rw [he.out.cell];rfl
 have c1:w6.cell? ⟨fr,1,none⟩=some (.int .i64 b):=by rw [he.out.cell];rfl
 have c2:w6.cell? ⟨fr,2,none⟩=some (.int .i64 1):=by rw [he.out.cell];rfl
 have c3:w6.cell? ⟨fr,3,none⟩=some (.int .i64 k):=by rw [he.out.cell];rfl
 have c4:w6.cell? ⟨fr,4,none⟩=some (.int .i64 1):=by rw [he.out.cell];rfl
 have c5:w6.cell? ⟨fr,5,none⟩=some (.int .i64 i):=by rw [he.out.cell];rfl
 have c6:w6.cell? ⟨fr,6,none⟩=some (.int .i64 1):=by rw [he.out.cell];rfl
 have c7:w6.cell? ⟨fr,7,none⟩=some (.int .i64 o):=by rw [he.out.cell];rfl
 have c8:w6.cell? ⟨fr,8,none⟩=some (.int .i64 st):=by rw [he.out.cell];rfl
 have c9:w6.cell? ⟨fr,9,none⟩=some (.int .i64 0):=by rw [he.out.cell];rfl
 have c10:w6.cell? ⟨fr,10,none⟩=some (.int .i64 0):=by rw [he.out.cell];rfl
 have c11:w6.cell? ⟨fr,11,none⟩=some (.int .i64 0):=by rw [he.out.cell];rfl
 have f9:=he.out.frozen 9;have f10:=he.out.frozen 10;have f11:=he.out.frozen 11;have z0:=hd.cell 0;have g0:=hd.frozen 0;have z1:=hd.cell 1;have g1:=hd.frozen 1;have z2:=hd.cell 2;have g2:=hd.frozen 2;have z3:=hd.cell 3;have g3:=hd.frozen 3;have z4:=hd.cell 4;have g4:=hd.frozen 4;have z5:=hd.cell 5;have g5:=hd.frozen 5;have z6:=hd.cell 6;have g6:=hd.frozen 6;have z7:=hd.cell 7;have g7:=hd.frozen 7;have z8:=hd.cell 8;have g8:=hd.frozen 8;have z9:=hd.cell 9;have g9:=hd.frozen 9;have z10:=hd.cell 10;have g10:=hd.frozen 10;have z11:=hd.cell 11;have g11:=hd.frozen 11;simp at z0 z1 z2 z3 z4 z5 z6 z7 z8 z9 z10 z11;have hU:=zI hd;clear hd;go_wp2_with fail;have hA:w.heap.size≠fr:=by omega
 have hO:=((hU.out.far (p:=⟨fr,9,none⟩) hA (.int .i64 k)).far (p:=⟨fr,10,none⟩) hA (.int .i64 k)).far (p:=⟨fr,11,none⟩) hA (.int .i64 i);have hQ:=hO.set_ 0 (.int .i64 a);have hI:=hQ.set_ 1 (.int .i64 b);have hT:=hI.set_ 2 (.int .i64 1);have hD:=hT.set_ 3 (.int .i64 k);have hM:=hD.set_ 4 (.int .i64 1);have hP:=hM.set_ 5 (.int .i64 i);have hL:=hP.set_ 6 (.int .i64 1);have hC:=hL.set_ 7 (.int .i64 o);have hR:=hC.set_ 8 (.int .i64 st);have hp:=hR.set_ 9 (.int .i64 k);have hn:=hp.set_ 10 (.int .i64 k);have ha:=hn.set_ 11 (.int .i64 i);have d0:=ha.cell 0;have d1:=ha.cell 1;have d2:=ha.cell 2;have d3:=ha.cell 3;have d4:=ha.cell 4;have d5:=ha.cell 5;have d6:=ha.cell 6;have d7:=ha.cell 7;have d8:=ha.cell 8;have d9:=ha.cell 9;have d10:=ha.cell 10;have d11:=ha.cell 11;simp at d0 d1 d2 d3 d4 d5 d6 d7 d8 d9 d10 d11;clear hO hQ hI hT hD hM hP hL hC hR hp hn ha c0 z0 g0 c1 z1 g1 c2 z2 g2 c3 z3 g3 c4 z4 g4 c5 z5 g5 c6 z6 g6 c7 z7 g7 c8 z8 g8 c9 z9 g9 c10 z10 g10 c11 z11 g11 f9 f10 f11 e1 e2;refine Zk1 (v:=.agg #[.int .i64 a,.int .i64 b,.int .i64 1,.int .i64 k,.int .i64 1,.int .i64 i,.int .i64 1,.int .i64 o,.int .i64 st,.int .i64 k,.int .i64 k,.int .i64 i]) (by simp [results,Tryz.results114,go_sem,d0,d1,d2,d3,d4,d5,d6,d7,d8,d9,d10,d11]) rfl ⟨rfl,?_⟩
 repeat (refine Below.setCell ?_ (by first|exact lrZ _|(simp;omega)|omega) _)
 exact hW.out
theorem qdq {W:Zp1} {b o:Nat} {v u:Value} (h:W.cell? ⟨b,o,none⟩=some v) (h2:W.cell? ⟨b,o+1,none⟩=some u):∀(j:Nat) (x:Value),[v,u][j]? = some x->W.cell? ((⟨b,o,none⟩:Addr).add j)=some x:=by
 intro j x hj
 match j,hj with
 | 0,hj=>simp at hj;subst hj;simpa [Addr.add] using h
 | 1,hj=>simp at hj;subst hj;simpa [Addr.add] using h2
set_option maxRecDepth 4000 in
theorem qgf (W X O:Addr) (wc xc oc:Nat) (a b k kk i ii o oo st:Int) (w:Zp1) (h0:W.spot=none) (h1:X.spot=none) (h2:O.spot=none) (hw:Ints .i64 w (some W) [a,b,k,kk]) (hx:Ints .i64 w (some X) [b,i,ii]) (ho:Ints .i64 w (some O) [a,o,oo]) (hwc:4<=wc) (hxc:3<=xc) (hoc:3<=oc) (hk:0<=k*kk/\k*kk<=1048576) (hi:0<=i*ii/\i*ii<=1048576):
  Calls Tryz.prog 114 #[.slice (some W) 4 wc,.slice (some X) 3 xc,.slice (some O) 3 oc,.int .i64 st] w λe w'=>e=.returned (.agg #[.int .i64 a,.int .i64 b,.int .i64 k,.int .i64 kk,.int .i64 i,.int .i64 ii,.int .i64 o,.int .i64 oo,.int .i64 st,.int .i64 kk,.int .i64 (k*kk),.int .i64 (i*ii)])/\Below w.heap.size w w':=by
 obtain ⟨Wb,Wo,_⟩:=W;obtain ⟨Xb,Xo,_⟩:=X;obtain ⟨Ob,Oo,_⟩:=O;simp only at h0 h1 h2;subst h0 h1 h2;have y0:w.cell? ⟨Wb,Wo,none⟩=some (.int .i64 a):=by obtain ⟨b',o',e,-,hc⟩:=hw 0 sZ;injection e with e;injection e with e1 e2;subst e1 e2;exact hc
 have y1:w.cell? ⟨Wb,Wo+1,none⟩=some (.int .i64 b):=by obtain ⟨b',o',e,-,hc⟩:=hw 1 sZ;injection e with e;injection e with e1 e2;subst e1 e2;exact hc
 go_enter Tryz.func114,Tryz.ntmps114;go_upto_region 1 with fail;generalize hw1:w.alloc (.cells #[.int .i64 0,.int .i64 0,.int .i64 0,.int .i64 0,.int .i64 0,.int .i64 0,.int .i64 0,.int .i64 0,.int .i64 0,.int .i64 0,.int .i64 0,.int .i64 0] 177)=w1;have hs:Later w w1:=by rw [←hw1];exact (Later.refl w).alloc _
 have hz:Blk w1 w.heap.size 177 #[.int .i64 0,.int .i64 0,.int .i64 0,.int .i64 0,.int .i64 0,.int .i64 0,.int .i64 0,.int .i64 0,.int .i64 0,.int .i64 0,.int .i64 0,.int .i64 0]:=by rw [←hw1];exact Blk.new w _ _
 have y0:=hs.cell y0;have y1:=hs.cell y1;clear hw1;obtain ⟨hh,Hz⟩:=zd2 hs hz;clear hs hz;have hX:Wb<w1.heap.size:=Zj1 _ _ y0;have KF:=zI (show ∀Xw,Later w1 Xw->Xw.cell? ⟨Wb,Wo,none⟩=some (.int .i64 a)/\Xw.cell? ⟨Wb,Wo+1,none⟩=some (.int .i64 b) from λXw h=>⟨h.cell y0,h.cell y1⟩);refine Zm1 ?_;refine Zl1 (S:=λXw=>Xw.cell? ⟨Wb,Wo,none⟩=some (.int .i64 a)/\Xw.cell? ⟨Wb,Wo+1,none⟩=some (.int .i64 b)) krZ (KF.out _ Lau) (λhHeld=>?_);refine tk 0 ?_;refine tk 1 ?_;refine tk 2 ?_;refine tk 3 ?_;refine tk 4 ?_;refine tk 5 ?_;refine tk 6 ?_;refine tk 7 ?_;refine rd 8 λK hK=>?_
 simp only [ga,gs,gz]
 go_simp
 refine hK.out _ _ (KF.out _ Lau) (λhHeld=>?_);clear hK K
 try simp only [ga,gs,gz,Act.put,sa,sz,ss]
 refine rd 9 λK hK=>?_
 simp only [ga,gs,gz]
 go_simp
 refine hK.out _ _ ?_ (λhHeld=>?_)
 ·(try dsimp only);(refine ⟨?_,?_⟩<;>(repeat (refine qa0 ?_ (by first|omega|(simp;done)|(simp;omega))))<;>(refine Later.cell (Lau:Later w1 _) ?_)<;>assumption)
 clear hK K
 try simp only [ga,gs,gz,Act.put,sa,sz,ss]
 clear KF;refine Zn1 krZ ?_ _;refine Zd1 ?_;go_upto_region 4 with fail;have ht:Blk (w1.alloc (.cells #[.int .i64 a,.int .i64 b,.int .i64 1,.int .i64 1,.int .i64 1,.int .i64 1,.int .i64 1,.int .i64 1,.int .i64 st,.int .i64 0,.int .i64 0,.int .i64 0] 177)).drew w1.heap.size 177 [.int .i64 a,.int .i64 b,.int .i64 1,.int .i64 1,.int .i64 1,.int .i64 1,.int .i64 1,.int .i64 1,.int .i64 st,.int .i64 0,.int .i64 0,.int .i64 0].toArray:=(Blk.new w1 _ _).drew;have hj:Later w1 (w1.alloc (.cells #[.int .i64 a,.int .i64 b,.int .i64 1,.int .i64 1,.int .i64 1,.int .i64 1,.int .i64 1,.int .i64 1,.int .i64 st,.int .i64 0,.int .i64 0,.int .i64 0] 177)).drew:=((Later.refl w1).alloc _).drew;generalize (w1.alloc (.cells #[.int .i64 a,.int .i64 b,.int .i64 1,.int .i64 1,.int .i64 1,.int .i64 1,.int .i64 1,.int .i64 1,.int .i64 st,.int .i64 0,.int .i64 0,.int .i64 0] 177)).drew=w2 at *;obtain ⟨fr,hfr⟩:∃fr,fr=w1.heap.size:=⟨_,rfl⟩
 rw [←hfr] at ht ⊢;have hn:=zI hfr;clear hfr y0 y1;have hu:Tryz.prog.underlying 23=some (.slice 3):=Tryz.underlying23;have hA:(Tryz.prog.info? 3).map (·.size)=some 1:=by kernel_rfl
 have h4:¬wc=2:=by omega
 have hZ:¬xc=1:=by omega
 have h5:¬oc=1:=by omega
 have q1:(2:Int)<=(wc:Int):=by omega
 have q3:(1:Int)<=(xc:Int):=by omega
 have q4:(1:Int)<=(oc:Int):=by omega
 have h8:Wb<fr:=by rw [hn.out];exact hX
 have u0:w.cell? ⟨Wb,Wo+2,none⟩=some (.int .i64 k):=by obtain ⟨b',o',e,-,hc⟩:=hw 2 sZ;injection e with e;injection e with e1 e2;subst e1 e2;exact hc
 have u1:w.cell? ⟨Wb,Wo+3,none⟩=some (.int .i64 kk):=by obtain ⟨b',o',e,-,hc⟩:=hw 3 sZ;injection e with e;injection e with e1 e2;subst e1 e2;exact hc
 have x0:w.cell? ⟨Xb,Xo+1,none⟩=some (.int .i64 i):=by obtain ⟨b',o',e,-,hc⟩:=hx 1 sZ;injection e with e;injection e with e1 e2;subst e1 e2;exact hc
 have x1:w.cell? ⟨Xb,Xo+2,none⟩=some (.int .i64 ii):=by obtain ⟨b',o',e,-,hc⟩:=hx 2 sZ;injection e with e;injection e with e1 e2;subst e1 e2;exact hc
 have v0:w.cell? ⟨Ob,Oo+1,none⟩=some (.int .i64 o):=by obtain ⟨b',o',e,-,hc⟩:=ho 1 sZ;injection e with e;injection e with e1 e2;subst e1 e2;exact hc
 have v1:w.cell? ⟨Ob,Oo+2,none⟩=some (.int .i64 oo):=by obtain ⟨b',o',e,-,hc⟩:=ho 2 sZ;injection e with e;injection e with e1 e2;subst e1 e2;exact hc
 have y2:=hj.cell (hh.out.cell u0);have y2b:=hj.cell (hh.out.cell u1);have y3:=hj.cell (hh.out.cell x0);have y3b:=hj.cell (hh.out.cell x1);have y4:=hj.cell (hh.out.cell v0);have y4b:=hj.cell (hh.out.cell v1);have hG:Xb<fr:=by rw [hn.out];exact Zj1 _ _ (hh.out.cell x0)
 have hr:Ob<fr:=by rw [hn.out];exact Zj1 _ _ (hh.out.cell v0)
 obtain ⟨Y3,Y4,Y3b,Y4b⟩:=zd4 y3 y4 y3b y4b;clear hw hx ho u0 u1 x0 x1 v0 v1 y3 y3b y4 y4b
 repeat (clear hHeld)
 obtain ⟨hV,hC⟩:=zd2 ht hj;clear ht hj;go_upto_region 4 with fail;have KF:=zI (show ∀Xw,Later w2 Xw->Xw.cell? ⟨Wb,Wo+2,none⟩=some (.int .i64 k)/\Xw.cell? ⟨Wb,Wo+3,none⟩=some (.int .i64 kk) from λXw h=>⟨h.cell y2,h.cell y2b⟩);refine Zm1 ?_;refine Zl1 (S:=λXw=>Xw.cell? ⟨Wb,Wo+2,none⟩=some (.int .i64 k)/\Xw.cell? ⟨Wb,Wo+3,none⟩=some (.int .i64 kk)) krZ (KF.out _ Lau) (λhHeld=>?_);refine tk 0 ?_;refine tk 1 ?_;refine tk 2 ?_;refine tk 3 ?_;refine tk 4 ?_;refine rd 5 λK hK=>?_
 refine step_copy_splice (by rfl) (.tmp 31) (.tmp 33) _ _ (by rfl) 3 hu hA (some ⟨fr,2,none⟩) (some ⟨Wb,Wo+2,none⟩) 2 2 2 (wc-2) (by rfl) (by rfl) fr 2 [.int .i64 a,.int .i64 b,.int .i64 1,.int .i64 1,.int .i64 1,.int .i64 1,.int .i64 1,.int .i64 1,.int .i64 st,.int .i64 0,.int .i64 0,.int .i64 0] 177 hV.out.drew ([.int .i64 k,.int .i64 kk]:List Value) rfl (λ_=>⟨rfl,_,rfl,qdq y2 y2b⟩) sZ (by intro u hu;simp at hu;rcases hu with rfl|rfl<;>rfl) fr _ (Ze1 _ _) (lrZ _) ?_;intro w4 hg hb;have y2:=(hb.cell (p:=⟨Wb,Wo+2,none⟩) soZ).trans y2;have y2b:=(hb.cell (p:=⟨Wb,Wo+3,none⟩) soZ).trans y2b;refine hK.out _ _ (by first|exact ⟨y2,y2b⟩|exact KF.out _ Lau) (λhHeld=>?_);clear hK K
 try simp only [ga,gs,gz,Act.put,sa,sz,ss]
 clear KF;refine Zn1 krZ ?_ _;refine Zd1 ?_;have hO:Blk w4 fr 177 [.int .i64 a,.int .i64 b,.int .i64 k,.int .i64 kk,.int .i64 1,.int .i64 1,.int .i64 1,.int .i64 1,.int .i64 st,.int .i64 0,.int .i64 0,.int .i64 0].toArray:=hg.out;have hl:Below fr w2 w4:=(Ze1 fr w2).drew.trans hb;have hf:=zI hl;clear hg hb hl y2 y2b
 repeat (clear hHeld)
 have h3:=zI hO;clear hO;have y3:=(hf.out.cell (p:=⟨Xb,Xo+1,none⟩) hG).trans Y3.out;have y3b:=(hf.out.cell (p:=⟨Xb,Xo+2,none⟩) hG).trans Y3b.out;go_upto_region 5 with fail;have KF:=zI (show ∀Xw,Later w4 Xw->Xw.cell? ⟨Xb,Xo+1,none⟩=some (.int .i64 i)/\Xw.cell? ⟨Xb,Xo+2,none⟩=some (.int .i64 ii) from λXw h=>⟨h.cell y3,h.cell y3b⟩);refine Zm1 ?_;refine Zl1 (S:=λXw=>Xw.cell? ⟨Xb,Xo+1,none⟩=some (.int .i64 i)/\Xw.cell? ⟨Xb,Xo+2,none⟩=some (.int .i64 ii)) krZ (KF.out _ Lau) (λhHeld=>?_);refine tk 0 ?_;refine tk 1 ?_;refine tk 2 ?_;refine tk 3 ?_;refine tk 4 ?_;refine rd 5 λK hK=>?_
 refine step_copy_splice (by rfl) (.tmp 37) (.tmp 39) _ _ (by rfl) 3 hu hA (some ⟨fr,4,none⟩) (some ⟨Xb,Xo+1,none⟩) 2 2 2 (xc-1) (by rfl) (by rfl) fr 4 [.int .i64 a,.int .i64 b,.int .i64 k,.int .i64 kk,.int .i64 1,.int .i64 1,.int .i64 1,.int .i64 1,.int .i64 st,.int .i64 0,.int .i64 0,.int .i64 0] 177 h3.out.drew ([.int .i64 i,.int .i64 ii]:List Value) rfl (λ_=>⟨rfl,_,rfl,qdq y3 y3b⟩) sZ (by intro u hu;simp at hu;rcases hu with rfl|rfl<;>rfl) fr _ (Ze1 _ _) (lrZ _) ?_;intro w5 hg hb;have y3:=(hb.cell (p:=⟨Xb,Xo+1,none⟩) soZ).trans y3;have y3b:=(hb.cell (p:=⟨Xb,Xo+2,none⟩) soZ).trans y3b;refine hK.out _ _ (by first|exact ⟨y3,y3b⟩|exact KF.out _ Lau) (λhHeld=>?_);clear hK K
 try simp only [ga,gs,gz,Act.put,sa,sz,ss]
 clear KF;refine Zn1 krZ ?_ _;refine Zd1 ?_;have hI:Blk w5 fr 177 [.int .i64 a,.int .i64 b,.int .i64 k,.int .i64 kk,.int .i64 i,.int .i64 ii,.int .i64 1,.int .i64 1,.int .i64 st,.int .i64 0,.int .i64 0,.int .i64 0].toArray:=hg.out;have hl:Below fr w4 w5:=(Ze1 fr w4).drew.trans hb;have hm:=zI hl;clear hg hb hl y3 y3b
 repeat (clear hHeld)
 have hY:=zI hI;clear hI;have y4:=(hm.out.cell (p:=⟨Ob,Oo+1,none⟩) hr).trans ((hf.out.cell (p:=⟨Ob,Oo+1,none⟩) hr).trans Y4.out);have y4b:=(hm.out.cell (p:=⟨Ob,Oo+2,none⟩) hr).trans ((hf.out.cell (p:=⟨Ob,Oo+2,none⟩) hr).trans Y4b.out);go_upto_region 6 with fail;have KF:=zI (show ∀Xw,Later w5 Xw->Xw.cell? ⟨Ob,Oo+1,none⟩=some (.int .i64 o)/\Xw.cell? ⟨Ob,Oo+2,none⟩=some (.int .i64 oo) from λXw h=>⟨h.cell y4,h.cell y4b⟩);refine Zm1 ?_;refine Zl1 (S:=λXw=>Xw.cell? ⟨Ob,Oo+1,none⟩=some (.int .i64 o)/\Xw.cell? ⟨Ob,Oo+2,none⟩=some (.int .i64 oo)) krZ (KF.out _ Lau) (λhHeld=>?_);refine tk 0 ?_;refine tk 1 ?_;refine tk 2 ?_;refine tk 3 ?_;refine tk 4 ?_;refine rd 5 λK hK=>?_
 refine step_copy_splice (by rfl) (.tmp 43) (.tmp 45) _ _ (by rfl) 3 hu hA (some ⟨fr,6,none⟩) (some ⟨Ob,Oo+1,none⟩) 2 2 2 (oc-1) (by rfl) (by rfl) fr 6 [.int .i64 a,.int .i64 b,.int .i64 k,.int .i64 kk,.int .i64 i,.int .i64 ii,.int .i64 1,.int .i64 1,.int .i64 st,.int .i64 0,.int .i64 0,.int .i64 0] 177 hY.out.drew ([.int .i64 o,.int .i64 oo]:List Value) rfl (λ_=>⟨rfl,_,rfl,qdq y4 y4b⟩) sZ (by intro u hu;simp at hu;rcases hu with rfl|rfl<;>rfl) fr _ (Ze1 _ _) (lrZ _) ?_;intro w6 hg hb;have y4:=(hb.cell (p:=⟨Ob,Oo+1,none⟩) soZ).trans y4;have y4b:=(hb.cell (p:=⟨Ob,Oo+2,none⟩) soZ).trans y4b;refine hK.out _ _ (by first|exact ⟨y4,y4b⟩|exact KF.out _ Lau) (λhHeld=>?_);clear hK K
 try simp only [ga,gs,gz,Act.put,sa,sz,ss]
 clear KF;refine Zn1 krZ ?_ _;refine Zd1 ?_;have hL:Blk w6 fr 177 [.int .i64 a,.int .i64 b,.int .i64 k,.int .i64 kk,.int .i64 i,.int .i64 ii,.int .i64 o,.int .i64 oo,.int .i64 st,.int .i64 0,.int .i64 0,.int .i64 0].toArray:=hg.out;have hl:Below fr w5 w6:=(Ze1 fr w5).drew.trans hb;have hy:=zI hl;clear hg hb hl y4 y4b
 repeat (clear hHeld)
 have he:=zI hL;clear hL;have hv:Below fr w2 w6:=(hf.out.trans hm.out).trans hy.out;have hF:Below w.heap.size w w2:=hh.out.trans hC.out;have hT:w.heap.size<=fr:=by rw [hn.out];exact hh.out.size
 have hH:Below w.heap.size w w6:=hF.trans (hv.mono hT);have hW:=zI hH;have ha:Blk w6 w.heap.size 177 #[.int .i64 0,.int .i64 0,.int .i64 0,.int .i64 0,.int .i64 0,.int .i64 0,.int .i64 0,.int .i64 0,.int .i64 0,.int .i64 0,.int .i64 0,.int .i64 0]:=(hC.out.blk Hz.out).below hv (by rw [hn.out];exact Hz.out.lt);have h7:w.heap.size<fr:=by rw [hn.out];exact Hz.out.lt
 have hB:w.heap.size≠fr:=by omega
 have hP:=((ha.far (p:=⟨fr,9,none⟩) hB (.int .i64 kk)).far (p:=⟨fr,10,none⟩) hB (.int .i64 (k*kk))).far (p:=⟨fr,11,none⟩) hB (.int .i64 (i*ii));have hR:=hP.set_ 0 (.int .i64 (a));have hJ:=hR.set_ 1 (.int .i64 (b));have hU:=hJ.set_ 2 (.int .i64 (k));have hE:=hU.set_ 3 (.int .i64 (kk));have hN:=hE.set_ 4 (.int .i64 (i));have hQ:=hN.set_ 5 (.int .i64 (ii));have hM:=hQ.set_ 6 (.int .i64 (o));have hD:=hM.set_ 7 (.int .i64 (oo));have hS:=hD.set_ 8 (.int .i64 (st));have hq:=hS.set_ 9 (.int .i64 (kk));have hp:=hq.set_ 10 (.int .i64 (k*kk));have hd:=hp.set_ 11 (.int .i64 (i*ii));have d0:=hd.cell 0;have d1:=hd.cell 1;have d2:=hd.cell 2;have d3:=hd.cell 3;have d4:=hd.cell 4;have d5:=hd.cell 5;have d6:=hd.cell 6;have d7:=hd.cell 7;have d8:=hd.cell 8;have d9:=hd.cell 9;have d10:=hd.cell 10;have d11:=hd.cell 11;simp at d0 d1 d2 d3 d4 d5 d6 d7 d8 d9 d10 d11;clear hP hR hJ hU hE hN hQ hM hD hS hq hp hd;obtain ⟨D0,D1,D2,D3,D4,D5,D6,D7,D8⟩:=zd9 d0 d1 d2 d3 d4 d5 d6 d7 d8;obtain ⟨D9,D10,D11⟩:=zd3 d9 d10 d11;clear d0 d1 d2 d3 d4 d5 d6 d7 d8 d9 d10 d11 hH hv hF hT;have c0:w6.cell? ⟨fr,0,none⟩=some (.int .i64 a):=by rw [he.out.cell];rfl
 have c1:w6.cell? ⟨fr,1,none⟩=some (.int .i64 b):=by rw [he.out.cell];rfl
 have c2:w6.cell? ⟨fr,2,none⟩=some (.int .i64 k):=by rw [he.out.cell];rfl
 have c3:w6.cell? ⟨fr,3,none⟩=some (.int .i64 kk):=by rw [he.out.cell];rfl
 have c4:w6.cell? ⟨fr,4,none⟩=some (.int .i64 i):=by rw [he.out.cell];rfl
 have c5:w6.cell? ⟨fr,5,none⟩=some (.int .i64 ii):=by rw [he.out.cell];rfl
 have c6:w6.cell? ⟨fr,6,none⟩=some (.int .i64 o):=by rw [he.out.cell];rfl
 have c7:w6.cell? ⟨fr,7,none⟩=some (.int .i64 oo):=by rw [he.out.cell];rfl
 have c8:w6.cell? ⟨fr,8,none⟩=some (.int .i64 st):=by rw [he.out.cell];rfl
 have c9:w6.cell? ⟨fr,9,none⟩=some (.int .i64 0):=by rw [he.out.cell];rfl
 have c10:w6.cell? ⟨fr,10,none⟩=some (.int .i64 0):=by rw [he.out.cell];rfl
 have c11:w6.cell? ⟨fr,11,none⟩=some (.int .i64 0):=by rw [he.out.cell];rfl
 have f9:=he.out.frozen 9;have f10:=he.out.frozen 10;have f11:=he.out.frozen 11;obtain ⟨m1,m2⟩:=hk;obtain ⟨m3,m4⟩:=hi;have z0:=ha.cell 0;have g0:=ha.frozen 0;have z1:=ha.cell 1;have g1:=ha.frozen 1;have z2:=ha.cell 2;have g2:=ha.frozen 2;have z3:=ha.cell 3;have g3:=ha.frozen 3;have z4:=ha.cell 4;have g4:=ha.frozen 4;have z5:=ha.cell 5;have g5:=ha.frozen 5;have z6:=ha.cell 6;have g6:=ha.frozen 6;have z7:=ha.cell 7;have g7:=ha.frozen 7;have z8:=ha.cell 8;have g8:=ha.frozen 8;have z9:=ha.cell 9;have g9:=ha.frozen 9;have z10:=ha.cell 10;have g10:=ha.frozen 10;have z11:=ha.cell 11;have g11:=ha.frozen 11;simp at z0 z1 z2 z3 z4 z5 z6 z7 z8 z9 z10 z11;have h6:=zI ha;clear ha;go_wp2_with fail;clear c0 z0 g0 c1 z1 g1 c2 z2 g2 c3 z3 g3 c4 z4 g4 c5 z5 g5 c6 z6 g6 c7 z7 g7 c8 z8 g8 c9 z9 g9 c10 z10 g10 c11 z11 g11 f9 f10 f11;have d0:=D0.out;have d1:=D1.out;have d2:=D2.out;have d3:=D3.out;have d4:=D4.out;have d5:=D5.out;have d6:=D6.out;have d7:=D7.out;have d8:=D8.out;have d9:=D9.out;have d10:=D10.out;have d11:=D11.out;refine Zk1 (v:=.agg #[.int .i64 (a),.int .i64 (b),.int .i64 (k),.int .i64 (kk),.int .i64 (i),.int .i64 (ii),.int .i64 (o),.int .i64 (oo),.int .i64 (st),.int .i64 (kk),.int .i64 (k*kk),.int .i64 (i*ii)]) (by simp [results,Tryz.results114,go_sem,d0,d1,d2,d3,d4,d5,d6,d7,d8,d9,d10,d11]) rfl ⟨rfl,?_⟩
 repeat (refine Below.setCell ?_ (by first|exact lrZ _|(simp;omega)|omega) _)
 exact hW.out
def Above (b:Nat) (A B:Zp1):Prop:=A.heap.size<=B.heap.size/\∀k,b<=k->k<A.heap.size->B.heap[k]? = A.heap[k]?
theorem Above.refl (b:Nat) (A:Zp1):Above b A A:=⟨lrZ _,λ_ _ _=>rfl⟩
theorem Above.trans {b:Nat} {A B C:Zp1} (h:Above b A B) (k:Above b B C):Above b A C:=
 ⟨Zv h.1 k.1,λi hi hl=>(k.2 i hi (ltZ hl h.1)).trans (h.2 i hi hl)⟩
theorem Above.mono {b b':Nat} {A B:Zp1} (h:Above b A B) (hb:b<=b'):Above b' A B:=⟨h.1,λk hk hl=>h.2 k oZ hl⟩
theorem Above.alloc (b:Nat) (A:Zp1) (o:Obj):Above b A (A.alloc o):=⟨by simp,λk _ hk=>Below.heap_alloc A o k hk⟩
theorem Above.of_below {b:Nat} {A B:Zp1} (h:Below A.heap.size A B):Above b A B:=⟨h.size,λk _ hk=>h.block k hk⟩
theorem Above.cell {b:Nat} {A B:Zp1} {p:Addr} {v:Value} (h:Above b A B) (hb:b<=p.block) (hc:A.cell? p=some v):B.cell? p=some v:=
 (Zi1 (h.2 p.block hb (Zj1 _ _ hc))).trans hc
theorem Above.frozen {b:Nat} {A B:Zp1} {p:Addr} (h:Above b A B) (hb:b<=p.block) (hl:p.block<A.heap.size):B.frozen? p=A.frozen? p:=
 World.frozen?_of_block (h.2 p.block hb hl)
theorem Above.setCell {b:Nat} {A:Zp1} {p:Addr} (hp:p.block<b) (v:Value):Above b A (A.setCell p v):=
 ⟨by simp,λk hk _=>Below.heap_setCell A p v k oZ⟩
theorem qbg {b l:Nat} (W:Zp1) (o:Obj) (h:b<=l):Below b W (W.putObj l o):=
 ⟨rfl,rfl,rfl,by simp,λk hk=>World.putObj_heap_other oZ⟩
variable {F:Fence} {n:Nat} {P:Program}
theorem qb9 {α:Type} {g:Operand} {ps:Array Tmp} {assign body:Code} {Q:Exit->Act->Zp1->Prop} {a:Act} {w:Zp1}
  (m:Nat) (hro:F.round=none) (h1:1<=n) {gf:Nat} {lf:Array Value} (hg:a.eval g=.func (.func gf) lf #[]) (hFg:F.fn gf)
  (eg:∀args w,(callFunc gf args).run P w=.ok (.enter gf args) w) (enc:α->Value) (hps:ps.size=1) (xs:List α)
  (I:List α->Zp1->Prop) (hI:∀pre A B,Below w.heap.size A B->I pre A->I pre B) (h0:I [] w)
  (hseq:∀(l:Nat) (J:List α->Zp1->Prop) (W:Zp1),W.heap.size=w.heap.size+2->Below w.heap.size w W->
   (∀pre A B,Below W.heap.size A B->J pre A->J pre B)->
   (∀pre x rest A,xs=pre++x::rest->J pre A->YieldAt F m P l #[enc x] A λe B=>e=.returned (.bool true)/\J (pre++[x]) B/\Above W.heap.size A B)->
   J [] W->CallsIn F (n-1) P gf (lf++#[.func (.yield l) #[] #[]]) W λe B=>(∃v,e=.returned v)/\J xs B)
  (hbody:∀pre x rest A,xs=pre++x::rest->I pre A->w.heap.size+2<=A.heap.size->
   assign.wpIn (F.inRound (w.heap.size+1)) m P (Exit.then (λa₁ A₁=>Above w.heap.size A A₁/\
    ∀A₂,A₂.heap.size=A₁.heap.size->(∀k,k≠w.heap.size+1->A₂.heap[k]? = A₁.heap[k]?)->Below w.heap.size A₁ A₂->
     body.wpIn (F.inRound (w.heap.size+1)) m P (λe _ B=>e=.normal/\Above w.heap.size A₂ B/\I (pre++[x]) B) a₁ A₂) (λ_ _ _=>False))
    { tmps:=(ps.zip #[enc x]).foldl (λt (p,v)=>t.setIfInBounds p v) a.tmps,defers:=[] } A)
  (hdone:∀(D:Nat) (W:Zp1),I xs W->w.heap.size<=D->W.heap[D]? = some (.deferred (some []))->Q .normal { a with defers:={ target:=.collected D,args:=#[] }::a.defers } W):
  (Code.rangeFunc g ps assign body).wpIn F n P Q a w:=by
 refine wpIn_rangeFunc ?_;intro fn hB;rw [hro];obtain ⟨rec,hrec⟩:∃rec:LoopState->Option Code->Loop,rec=λst pe=>{ state:=st,pending:=pe,fn,tmps:=a.tmps,params:=ps,assign,body,defers:=w.heap.size }:=⟨_,rfl⟩
 obtain ⟨W1,hW1⟩:∃W1,(w.alloc (.deferred (some []))).alloc (.loop (rec .ready none))=W1:=⟨_,rfl⟩
 have ht:W1.heap[w.heap.size+1]? = some (.loop (rec .ready none)):=by
  rw [←hW1];have:=World.alloc_heap_new (w.alloc (.deferred (some []))) (.loop (rec .ready none));rwa [Zh1] at this
 have hC:W1.heap[w.heap.size]? = some (.deferred (some [])):=by
  rw [←hW1];exact (Below.heap_alloc _ _ _ sZ).trans (World.alloc_heap_new w _)
 have hh:W1.heap.size=w.heap.size+2:=by rw [←hW1];simp
 have hp:Below w.heap.size w W1:=by
  rw [←hW1];exact ((Ze1 _ w).alloc (lrZ _) _).alloc sZ _
 refine ⟨w.heap.size+1,[{ target:=.collected w.heap.size,args:=#[] }],W1,{ target:=.fn (.func gf) #[],args:=lf++#[.func (.yield (w.heap.size+1)) #[] #[]] },W1,gf,
  lf++#[.func (.yield (w.heap.size+1)) #[] #[]],W1,?_,?_,?_,?_,λ_=>h1,?_⟩
 ·rw [←hW1,hrec];exact run_enterLoop_outer _ _ _ _ _
 ·simp only [resolve,hg]
  simp [go_sem]
 ·intro f' ho;simp [Target.leads] at ho;subst ho;exact hFg
 ·simp [invoke,go_sem,eg]
 ·refine (hseq (w.heap.size+1)
   (λpre W=>I pre W/\W.heap[w.heap.size+1]? = some (.loop (rec .ready none))/\W.heap[w.heap.size]? = some (.deferred (some [])))
   W1 hh hp ?_ ?_ ⟨hI _ _ _ hp h0,ht,hC⟩).mono ?_
  ·rintro pre A B hb ⟨hi,hl,hk⟩
   rw [hh] at hb;exact ⟨hI _ _ _ (hb.mono oZ) hi,(hb.block _ oZ).trans hl,(hb.block _ oZ).trans hk⟩
  ·rintro pre x rest A hx ⟨hi,hl,hk⟩
   have hz:w.heap.size+1<A.heap.size:=(Array.getElem?_eq_some_iff.1 hl).1;have hy:=run_yield (P:=P) (args:=#[enc x]) hl (by rw [hrec];simp [hps]);rw [hrec] at hy;refine ⟨fn,_,assign,body,hy,roundIn_of_wpIn hB (wpIn_mono (hbody pre x rest A hx hi oZ) ?_)⟩;rintro e a1 A1 hq;cases e with
   | normal=>
    obtain ⟨hd,hs⟩:=hq;have hn:A1.heap[w.heap.size+1]? = some (.loop (rec .ready none)):=(hd.2 _ oZ hz).trans hl;have hu:A1.heap[w.heap.size]? = some (.deferred (some [])):=(hd.2 _ oZ oZ).trans hk;have hc:w.heap.size+1<A1.heap.size:=(Array.getElem?_eq_some_iff.1 hn).1;refine ⟨_,run_beginRound hn (by rw [hrec]),?_⟩;refine wpIn_mono (hs _ sZ (λk hm=>World.putObj_heap_other hm) (qbg _ _ oZ)) ?_;have hv:(A1.putObj (w.heap.size+1) (.loop { rec .ready none with state:=.busy })).heap[w.heap.size+1]? = some (.loop { rec .ready none with state:=.busy }):=World.putObj_heap_same hc;have hD:(A1.putObj (w.heap.size+1) (.loop { rec .ready none with state:=.busy })).heap[w.heap.size]? = some (.deferred (some [])):=(World.putObj_heap_other oZ).trans hu;rintro e a3 B ⟨rfl,ha,hA⟩;have hj:=(ha.2 _ oZ (by simpa using hc)).trans hv;have hw:=(ha.2 _ oZ soZ).trans hD;have he:=run_endRound (P:=P) none hj;rw [hrec] at he;rw [hrec] at hj;have hf:w.heap.size+1<B.heap.size:=(Array.getElem?_eq_some_iff.1 hj).1;refine ⟨_,_,he,rfl,⟨hI _ _ _ (qbg _ _ oZ) hA,?_,(World.putObj_heap_other oZ).trans hw⟩,?_⟩
    ·rw [hrec];exact World.putObj_heap_same hf
    ·rw [hh]
     refine ⟨by have:=hd.1;have:=ha.1;simp at this ⊢;omega,λk hm hr=>?_⟩;refine (World.putObj_heap_other oZ).trans ?_;refine (ha.2 k oZ (by have:=hd.1;simp;omega)).trans ?_;exact (World.putObj_heap_other oZ).trans (hd.2 k oZ hr)
   | _=>exact hq.elim
  ·rintro e W2 ⟨⟨v,rfl⟩,hi,hl,hk⟩
   refine ⟨none,_,by have:=run_endLoop (P:=P) hl (by rw [hrec];simp);rw [hrec] at this;exact this,?_⟩;exact hdone _ _ (hI _ _ _ (qbg _ _ oZ) hi) (lrZ _) ((World.putObj_heap_other oZ).trans hk)
end Go.Proofs.YtbnnpkcfifejmaaGreat
namespace Go.Proofs.YtbnnpkcfifejmaaGreat
set_option maxHeartbeats 16000000
open Go.RowKit
attribute [local go_sem] Oper.semAt_some
namespace Ly
def Frame.V (f:Frame):Value:=.agg #[.int .i64 f.outs,.int .i64 f.ins,.int .i64 f.k0,.int .i64 f.k1,.int .i64 f.i0,.int .i64 f.i1,.int .i64 f.o0,.int .i64 f.o1,.int .i64 f.step,.int .i64 f.k1,.int .i64 (f.k0*f.k1:Nat),.int .i64 (f.i0*f.i1:Nat)]
def Frame.oneT (f:Frame) (p i j q t u:Nat):Touch:=⟨(p*f.o0+i)*f.o1+j,(p*f.ins+q)*(f.k0*f.k1)+t * f.k1+u,q*(f.i0*f.i1)+(i*f.step*f.i1+j*f.step)+t * f.i1+u⟩
theorem Frame.rowT_eq (f:Frame) (p i j q t:Nat):f.rowT p i j q t=(List.range f.k1).map (f.oneT p i j q t):=rfl
theorem qaI {n q:Nat} (h:q<n):∃r,List.range n=List.range q++q::r:=by
 obtain ⟨d,rfl⟩:∃d,n=q+(1+d):=⟨n-q-1,by omega⟩
 refine ⟨(List.range d).map (λx=>q+(1+x)),?_⟩;rw [List.range_add,List.range_add];simp [Function.comp_def]
theorem Frame.cellT_split (f:Frame) (p i j q t u:Nat) (hq:q<f.ins) (ht:t<f.k0) (hu:u<f.k1):
  ∃rest,f.cellT p i j=((List.range q).flatMap (λq=>(List.range f.k0).flatMap λt=>f.rowT p i j q t)++((List.range t).flatMap (λt=>f.rowT p i j q t)++(List.range u).map (f.oneT p i j q t)))++f.oneT p i j q t u::rest:=by
 obtain ⟨r1,h1⟩:=qaI hq;obtain ⟨r2,h2⟩:=qaI ht;obtain ⟨r3,h3⟩:=qaI hu;unfold Frame.cellT;rw [h1,Zj,List.flatMap_cons];refine ⟨r3.map (f.oneT p i j q t)++r2.flatMap (λt=>f.rowT p i j q t)++r1.flatMap (λq=>(List.range f.k0).flatMap λt=>f.rowT p i j q t),?_⟩
 conv=>lhs;rhs;lhs;rw [h2,Zj,List.flatMap_cons,Frame.rowT_eq,h3]
 simp
def Touch.V (t:Touch):Value:=.agg #[.int .i64 t.o,.int .i64 t.w,.int .i64 t.x]
end Ly
theorem qaE (n:Int) (h : -9223372036854775808<=n/\n<=9223372036854775807):wrap64 n=n:=by unfold wrap64;omega
theorem wr_o (p o i o1 j:Nat) (h:(p*o+i)*o1+j<=1048576):((((p*o+i)*o1+j:Nat)):Int)=wrap64 (wrap64 (((p:Int)*o+i)*o1)+j):=by
 have e:((p:Int)*o+i)*o1=(((p*o+i)*o1:Nat):Int):=by simp
 rw [e];generalize (p*o+i)*o1=z at *;rw [qaE z oZ,qaE _ oZ];simp
theorem wr_w (p s q k kk t u:Nat) (h:(p*s+q)*(k*kk)<=1048576) (h2:t * kk<=1048576) (h3:u<=1048576):
  ((((p*s+q)*(k*kk)+t * kk+u:Nat)):Int)=wrap64 (wrap64 (wrap64 (((p:Int)*s+q)*((k:Int)*kk))+(t:Int)*kk)+u):=by
 have e:((p:Int)*s+q)*((k:Int)*kk)=(((p*s+q)*(k*kk):Nat):Int):=by simp
 have e2:(t:Int)*kk=((t * kk:Nat):Int):=by simp
 rw [e,e2];generalize (p*s+q)*(k*kk)=z at *;generalize t * kk=y at *;rw [qaE z oZ,qaE (z+y) oZ,qaE _ oZ];simp
theorem wr_x (q a b i s j t u:Nat) (h:q*(a*b)<=1048576) (h2:i*s*b<=1048576) (h3:j*s<=1048576) (h4:t * b<=1048576) (h5:u<=1048576):
  ((q*(a*b)+(i*s*b+j*s)+t * b+u:Nat):Int)=wrap64 (wrap64 (wrap64 (wrap64 ((q:Int)*((a:Int)*b))+wrap64 (wrap64 ((i:Int)*s*b)+(j:Int)*s))+(t:Int)*b)+u):=by
 have e:(q:Int)*((a:Int)*b)=((q*(a*b):Nat):Int):=by simp
 have e2:(i:Int)*s*b=((i*s*b:Nat):Int):=by simp
 have e3:(j:Int)*s=((j*s:Nat):Int):=by simp
 have e4:(t:Int)*b=((t * b:Nat):Int):=by simp
 rw [e,e2,e3,e4];generalize q*(a*b)=z at *;generalize i*s*b=y at *;generalize j*s=x at *;generalize t * b=v at *;rw [qaE (z:Int) oZ,qaE (y:Int) oZ,qaE ((y:Int)+x) oZ,qaE ((z:Int)+(y+x)) oZ,qaE ((z:Int)+(y+x)+v) oZ,qaE _ oZ];simp
theorem Above.blk {b g:Nat} {t:TypeId} {cs:Array Value} {A B:Zp1} (h:Above b A B) (hb:b<=g) (hk:Blk A g t cs):Blk B g t cs:=
 (h.2 g hb hk.lt).trans hk
theorem qfe (F:Fence) (n m l:Nat) (hF:F.fn 147) (ho:F.round=none) (hn:1<=n) (f:Ly.Frame) (B:Nat) (xs:List Ly.Touch) (J:List Ly.Touch->Zp1->Prop)
  (hJ:∀pre A A',Below B A A'->J pre A->J pre A')
  (hY:∀pre x rest A,xs=pre++x::rest->J pre A->YieldAt F (n-1) Tryz.prog l #[x.V] A λe A'=>e=.returned (.bool true)/\J (pre++[x]) A'/\Above B A A')
  (p i j:Nat) (pre post:List Ly.Touch) (W:Zp1) (hB:B<=W.heap.size) (hx:xs=pre++(f.cellT p i j++post)) (h0:J pre W)
  (h1:p*f.o0+i<=1048576) (h2:(p*f.o0+i)*f.o1+j<=1048576) (h3:i*f.step<=1048576) (h4:i*f.step*f.i1<=1048576) (h5:j*f.step<=1048576)
  (hq1:∀q,q<f.ins->p*f.ins+q<=1048576/\(p*f.ins+q)*(f.k0*f.k1)<=1048576/\q*(f.i0*f.i1)<=1048576) (hq2:∀t,t<f.k0->t * f.i1<=1048576/\t * f.k1<=1048576) (hq3:f.k1<=1048576) (hq4:f.ins<=1048576) (hq5:f.k0<=1048576):
  CallsIn F n Tryz.prog 147 #[f.V,.int .i64 p,.int .i64 i,.int .i64 j,.func (.yield l) #[] #[]] W λe W'=>e=.returned (.bool true)/\J (pre++f.cellT p i j) W'/\Above B W W':=by
 refine callsIn_of_wp Tryz.func147 rfl hF ?_ ho;simp only [Tryz.ntmps147,List.size_toArray,List.length_cons,List.length_nil,Nat.reduceAdd,Nat.reduceSub,Array.replicate_succ,Array.replicate_zero,List.push_toArray,List.append_toArray,List.nil_append,List.cons_append];unfold Ly.Frame.V
 gi_wp2
 have hi:=Blk.new W 177 #[.int .i64 f.outs,.int .i64 f.ins,.int .i64 f.k0,.int .i64 f.k1,.int .i64 f.i0,.int .i64 f.i1,.int .i64 f.o0,.int .i64 f.o1,.int .i64 f.step,.int .i64 f.k1,.int .i64 (f.k0*f.k1:Nat),.int .i64 (f.i0*f.i1:Nat)];have hl:=hJ _ _ _ (((Ze1 B W).alloc hB (.cells #[.int .i64 f.outs,.int .i64 f.ins,.int .i64 f.k0,.int .i64 f.k1,.int .i64 f.i0,.int .i64 f.i1,.int .i64 f.o0,.int .i64 f.o1,.int .i64 f.step,.int .i64 f.k1,.int .i64 (f.k0*f.k1:Nat),.int .i64 (f.i0*f.i1:Nat)] 177))) h0
 gi_loopw [46] (λv wr=>∃q:Nat,q<=f.ins/\v=.int .i64 q/\Blk wr W.heap.size 177 #[.int .i64 f.outs,.int .i64 f.ins,.int .i64 f.k0,.int .i64 f.k1,.int .i64 f.i0,.int .i64 f.i1,.int .i64 f.o0,.int .i64 f.o1,.int .i64 f.step,.int .i64 f.k1,.int .i64 (f.k0*f.k1:Nat),.int .i64 (f.i0*f.i1:Nat)]/\J (pre++(List.range q).flatMap λq=>(List.range f.k0).flatMap λt=>f.rowT p i j q t) wr/\Above B W wr) (λv _=>f.ins-(intOf v).toNat)
 case atStart=>exact ⟨0,Zt _,rfl,hi,by simpa using hl,Above.alloc _ _ _⟩
 case round=>
  obtain ⟨q,hq,rfl,hk,he,hA⟩:=hrel;have c1:=hk.cell 1;have c2:=hk.cell 2;have c3:=hk.cell 3;have c5:=hk.cell 5;have c8:=hk.cell 8;have c9:=hk.cell 9;have c10:=hk.cell 10;have c11:=hk.cell 11;simp at c1 c2 c3 c5 c8 c9 c10 c11;rcases Nat.lt_or_ge q f.ins with hd|hp
  ·obtain ⟨b1,b2,b3⟩:=hq1 q hd
   gi_wp2
   gi_loopw [61] (λv wr=>∃t:Nat,t<=f.k0/\v=.int .i64 t/\Blk wr W.heap.size 177 #[.int .i64 f.outs,.int .i64 f.ins,.int .i64 f.k0,.int .i64 f.k1,.int .i64 f.i0,.int .i64 f.i1,.int .i64 f.o0,.int .i64 f.o1,.int .i64 f.step,.int .i64 f.k1,.int .i64 (f.k0*f.k1:Nat),.int .i64 (f.i0*f.i1:Nat)]/\J (pre++((List.range q).flatMap (λq=>(List.range f.k0).flatMap λt=>f.rowT p i j q t)++(List.range t).flatMap (λt=>f.rowT p i j q t))) wr/\Above B W wr) (λv _=>f.k0-(intOf v).toNat)
   case atStart=>exact ⟨0,Zt _,rfl,hk,by simpa using he,hA⟩
   case round=>
    obtain ⟨t,ht,rfl,hk,hb,hA⟩:=hrel;clear c1 c2 c3 c5 c8 c9 c10 c11 he;have c1:=hk.cell 1;have c2:=hk.cell 2;have c3:=hk.cell 3;have c5:=hk.cell 5;have c8:=hk.cell 8;have c9:=hk.cell 9;have c10:=hk.cell 10;have c11:=hk.cell 11;simp at c1 c2 c3 c5 c8 c9 c10 c11;rcases Nat.lt_or_ge t f.k0 with hc|hr
    ·obtain ⟨d1,d2⟩:=hq2 t hc
     gi_wp2
     gi_loopw [78] (λv wr=>∃u:Nat,u<=f.k1/\v=.int .i64 u/\Blk wr W.heap.size 177 #[.int .i64 f.outs,.int .i64 f.ins,.int .i64 f.k0,.int .i64 f.k1,.int .i64 f.i0,.int .i64 f.i1,.int .i64 f.o0,.int .i64 f.o1,.int .i64 f.step,.int .i64 f.k1,.int .i64 (f.k0*f.k1:Nat),.int .i64 (f.i0*f.i1:Nat)]/\J (pre++((List.range q).flatMap (λq=>(List.range f.k0).flatMap λt=>f.rowT p i j q t)++((List.range t).flatMap (λt=>f.rowT p i j q t)++(List.range u).map (f.oneT p i j q t)))) wr/\Above B W wr) (λv _=>f.k1-(intOf v).toNat)
     case atStart=>exact ⟨0,Zt _,rfl,hk,by simpa using hb,hA⟩
     case round=>
      obtain ⟨u,hu,rfl,hk,hh,hA⟩:=hrel;clear c1 c2 c3 c5 c8 c9 c10 c11 hb;have c1:=hk.cell 1;have c2:=hk.cell 2;have c3:=hk.cell 3;have c5:=hk.cell 5;have c8:=hk.cell 8;have c9:=hk.cell 9;have c10:=hk.cell 10;have c11:=hk.cell 11;simp at c1 c2 c3 c5 c8 c9 c10 c11;rcases Nat.lt_or_ge u f.k1 with hg|hs
      ·obtain ⟨rest,ha⟩:=f.cellT_split p i j q t u hd hc hg
       obtain ⟨fn,tmps,assign,body,hy,hR⟩:=hY _ (f.oneT p i j q t u) (rest++post) wr (by rw [hx,ha];simp) hh;simp only [Ly.Touch.V,Ly.Frame.oneT] at hy;have x1:((((p*f.o0+i)*f.o1+j:Nat)):Int)=wrap64 (wrap64 (((p:Int)*f.o0+i)*f.o1)+j):=wr_o _ _ _ _ _ h2;have x2:((((p*f.ins+q)*(f.k0*f.k1)+t * f.k1+u:Nat)):Int)=wrap64 (wrap64 (wrap64 (((p:Int)*f.ins+q)*((f.k0:Int)*f.k1))+(t:Int)*f.k1)+u):=wr_w _ _ _ _ _ _ _ b2 d2 oZ;have x3:((q*(f.i0*f.i1)+(i*f.step*f.i1+j*f.step)+t * f.i1+u:Nat):Int)=wrap64 (wrap64 (wrap64 (wrap64 ((q:Int)*((f.i0:Int)*f.i1))+wrap64 (wrap64 ((i:Int)*f.step*f.i1)+(j:Int)*f.step))+(t:Int)*f.i1)+u):=wr_x _ _ _ _ _ _ _ _ b3 h4 h5 d1 oZ;rw [x1,x2,x3] at hy
       gi_wp2
       refine hR.mono ?_;rintro e W3 ⟨rfl,hm,hf⟩;have hj:=hf.blk hB hk;clear hy hR c1 c2 c3 c5 c8 c9 c10 c11
       gi_wp2
       refine ⟨?_,?_⟩
       ·refine ⟨_,_,_,_,_,_,_,_,_,_,_,_,_,_,_,_,_,_,_,_,_,_,⟨u+1,hg,?_,hj,?_,hA.trans hf⟩,rfl⟩
        ·simp
        ·rw [List.range_succ,List.map_append];simpa using hm
       ·simp [intOf];omega
      ·obtain rfl:u=f.k1:=by omega
       gi_wp2
       go_roundw
       case rel=>exact ⟨t+1,hc,by simp,hk,by rw [List.range_succ,Zj];simpa [Ly.Frame.rowT_eq] using hh,hA⟩
       case measure=>simp [intOf];omega
    ·obtain rfl:t=f.k0:=by omega
     gi_wp2
     go_roundw
     case rel=>exact ⟨q+1,hd,by simp,hk,by rw [List.range_succ,Zj];simpa using hb,hA⟩
     case measure=>simp [intOf];omega
  ·obtain rfl:q=f.ins:=by omega
   gi_wp2
   go_ret;exact ⟨rfl,he,hA⟩
end Go.Proofs.YtbnnpkcfifejmaaGreat
namespace Go.Proofs.YtbnnpkcfifejmaaGreat
set_option maxHeartbeats 16000000
open Go.RowKit
attribute [local go_sem] Oper.semAt_some
namespace Ly
def Frame.lineT (f:Frame) (p i:Nat):List Touch:=(List.range f.o1).flatMap λj=>f.cellT p i j
def Frame.planeT (f:Frame) (p:Nat):List Touch:=(List.range f.o0).flatMap λi=>f.lineT p i
theorem Frame.all_eq (f:Frame):f.all=(List.range f.outs).flatMap λp=>f.planeT p:=rfl
theorem Frame.all_split (f:Frame) (p i j:Nat) (hp:p<f.outs) (hi:i<f.o0) (hj:j<f.o1):
  ∃rest,f.all=((List.range p).flatMap (λp=>f.planeT p)++((List.range i).flatMap (λi=>f.lineT p i)++(List.range j).flatMap (λj=>f.cellT p i j)))++(f.cellT p i j++rest):=by
 obtain ⟨r1,h1⟩:=qaI hp;obtain ⟨r2,h2⟩:=qaI hi;obtain ⟨r3,h3⟩:=qaI hj;rw [Frame.all_eq,h1,Zj,List.flatMap_cons];refine ⟨r3.flatMap (λj=>f.cellT p i j)++r2.flatMap (λi=>f.lineT p i)++r1.flatMap (λp=>f.planeT p),?_⟩
 conv=>lhs;rhs;lhs;rw [Frame.planeT,h2,Zj,List.flatMap_cons,Frame.lineT,h3,Zj,List.flatMap_cons]
 simp
structure Frame.Small (f:Frame):Prop where
 outs:f.outs<=1048576
 o0:f.o0<=1048576
 o1:f.o1<=1048576
 ins:f.ins<=1048576
 k0:f.k0<=1048576
 k1:f.k1<=1048576
 out:f.outs*f.o0*f.o1<=1048576
 wgt:f.outs*f.ins*(f.k0*f.k1)<=1048576
 pos:0<f.k0*f.k1
 wide:0<f.o1
 inp:f.ins*(f.i0*f.i1)<=1048576
 high:(f.o0-1)*f.step*f.i1<=1048576
 side:(f.o1-1)*f.step<=1048576
 high2:(f.o0-1)*f.step<=1048576
 kin:f.k0*f.i1<=1048576
theorem Frame.Small.ko {f:Frame} (h:f.Small) {p i j:Nat} (hp:p<f.outs) (hi:i<f.o0) (hj:j<f.o1):
  p*f.o0+i<=1048576/\(p*f.o0+i)*f.o1+j<=1048576:=by
 have h1:(p+1)*f.o0<=f.outs*f.o0:=mlZ _ hp;rw [Zu] at h1;have h2:(p*f.o0+i+1)*f.o1<=f.outs*f.o0*f.o1:=mlZ _ oZ;rw [Zu] at h2;have h3:(p*f.o0+i)*1<=(p*f.o0+i)*f.o1:=Nat.mul_le_mul_left _ h.wide;have:=h.out;omega
theorem Frame.Small.kq {f:Frame} (h:f.Small) {p:Nat} (hp:p<f.outs) (q:Nat) (hq:q<f.ins):
  p*f.ins+q<=1048576/\(p*f.ins+q)*(f.k0*f.k1)<=1048576/\q*(f.i0*f.i1)<=1048576:=by
 have h1:(p+1)*f.ins<=f.outs*f.ins:=mlZ _ hp;rw [Zu] at h1;have h2:(p*f.ins+q)*(f.k0*f.k1)<=f.outs*f.ins*(f.k0*f.k1):=mlZ _ oZ;have h3:(p*f.ins+q)*1<=(p*f.ins+q)*(f.k0*f.k1):=Nat.mul_le_mul_left _ h.pos;have h4:q*(f.i0*f.i1)<=f.ins*(f.i0*f.i1):=mlZ _ oZ;have:=h.wgt;have:=h.inp;omega
theorem Frame.Small.kt {f:Frame} (h:f.Small) (hq:0<f.outs*f.ins) (t:Nat) (ht:t<f.k0):t * f.i1<=1048576/\t * f.k1<=1048576:=by
 have h1:t * f.i1<=f.k0*f.i1:=mlZ _ oZ;have h2:t * f.k1<=f.k0*f.k1:=mlZ _ oZ;have h3:1*(f.k0*f.k1)<=f.outs*f.ins*(f.k0*f.k1):=mlZ _ hq;have:=h.wgt;have:=h.kin;omega
theorem Frame.Small.ki {f:Frame} (h:f.Small) {i:Nat} (hi:i<f.o0):i*f.step<=1048576/\i*f.step*f.i1<=1048576:=by
 have h1:i*f.step<=(f.o0-1)*f.step:=mlZ _ oZ;have h2:i*f.step*f.i1<=(f.o0-1)*f.step*f.i1:=mlZ _ h1;have:=h.high;have:=h.high2;omega
theorem Frame.Small.kj {f:Frame} (h:f.Small) {j:Nat} (hj:j<f.o1):j*f.step<=1048576:=by
 have h1:j*f.step<=(f.o1-1)*f.step:=mlZ _ oZ;have:=h.side;omega
end Ly
theorem qd8 (F:Fence) (n l:Nat) (hF:F.fn 115) (hF2:F.fn 147) (hh:F.round=none) (hn:2<=n) (f:Ly.Frame) (hs:f.Small) (hpos:0<f.outs*f.ins) (B:Nat) (J:List Ly.Touch->Zp1->Prop)
  (hJ:∀pre A A',Below B A A'->J pre A->J pre A')
  (hY:∀pre x rest A,f.all=pre++x::rest->J pre A->YieldAt F (n-1-1) Tryz.prog l #[x.V] A λe A'=>e=.returned (.bool true)/\J (pre++[x]) A'/\Above B A A')
  (W:Zp1) (hB:B<=W.heap.size) (h0:J [] W):
  CallsIn F n Tryz.prog 115 #[f.V,.func (.yield l) #[] #[]] W λe W'=>(∃v,e=.returned v)/\J f.all W':=by
 refine callsIn_of_wp Tryz.func115 rfl hF ?_ hh;simp only [Tryz.ntmps115,List.size_toArray,List.length_cons,List.length_nil,Nat.reduceAdd,Nat.reduceSub,Array.replicate_succ,Array.replicate_zero,List.push_toArray,List.append_toArray,List.nil_append,List.cons_append];have ho:=Blk.new W 177 #[.int .i64 f.outs,.int .i64 f.ins,.int .i64 f.k0,.int .i64 f.k1,.int .i64 f.i0,.int .i64 f.i1,.int .i64 f.o0,.int .i64 f.o1,.int .i64 f.step,.int .i64 f.k1,.int .i64 (f.k0*f.k1:Nat),.int .i64 (f.i0*f.i1:Nat)];have ht:=hJ _ _ _ ((Ze1 B W).alloc hB (.cells #[.int .i64 f.outs,.int .i64 f.ins,.int .i64 f.k0,.int .i64 f.k1,.int .i64 f.i0,.int .i64 f.i1,.int .i64 f.o0,.int .i64 f.o1,.int .i64 f.step,.int .i64 f.k1,.int .i64 (f.k0*f.k1:Nat),.int .i64 (f.i0*f.i1:Nat)] 177)) h0;have s1:=hs.outs;have s2:=hs.o0;have s3:=hs.o1;have hz:1<=n:=by omega
 have hr:1<=n-1:=by omega
 unfold Ly.Frame.V
 gi_wp2
 gi_loopw [9] (λv wr=>∃p:Nat,p<=f.outs/\v=.int .i64 p/\Blk wr W.heap.size 177 #[.int .i64 f.outs,.int .i64 f.ins,.int .i64 f.k0,.int .i64 f.k1,.int .i64 f.i0,.int .i64 f.i1,.int .i64 f.o0,.int .i64 f.o1,.int .i64 f.step,.int .i64 f.k1,.int .i64 (f.k0*f.k1:Nat),.int .i64 (f.i0*f.i1:Nat)]/\J ((List.range p).flatMap (λp=>f.planeT p)) wr) (λv _=>f.outs-(intOf v).toNat)
 case atStart=>exact ⟨0,Zt _,rfl,ho,ht⟩
 case round=>
  obtain ⟨p,hp,rfl,hk,hf⟩:=hrel;have c6:=hk.cell 6;have c7:=hk.cell 7;simp at c6 c7;rcases Nat.lt_or_ge p f.outs with hc|hv
  ·gi_wp2
   gi_loopw [15] (λv wr=>∃i:Nat,i<=f.o0/\v=.int .i64 i/\Blk wr W.heap.size 177 #[.int .i64 f.outs,.int .i64 f.ins,.int .i64 f.k0,.int .i64 f.k1,.int .i64 f.i0,.int .i64 f.i1,.int .i64 f.o0,.int .i64 f.o1,.int .i64 f.step,.int .i64 f.k1,.int .i64 (f.k0*f.k1:Nat),.int .i64 (f.i0*f.i1:Nat)]/\J ((List.range p).flatMap (λp=>f.planeT p)++(List.range i).flatMap (λi=>f.lineT p i)) wr) (λv _=>f.o0-(intOf v).toNat)
   case atStart=>exact ⟨0,Zt _,rfl,hk,by simpa using hf⟩
   case round=>
    obtain ⟨i,hi,rfl,hk,hg⟩:=hrel;clear c6 c7 hf;have c6:=hk.cell 6;have c7:=hk.cell 7;simp at c6 c7;rcases Nat.lt_or_ge i f.o0 with hd|hy
    ·obtain ⟨g1,g2⟩:=hs.ki hd
     gi_wp2
     gi_loopw [21] (λv wr=>∃j:Nat,j<=f.o1/\v=.int .i64 j/\Blk wr W.heap.size 177 #[.int .i64 f.outs,.int .i64 f.ins,.int .i64 f.k0,.int .i64 f.k1,.int .i64 f.i0,.int .i64 f.i1,.int .i64 f.o0,.int .i64 f.o1,.int .i64 f.step,.int .i64 f.k1,.int .i64 (f.k0*f.k1:Nat),.int .i64 (f.i0*f.i1:Nat)]/\J ((List.range p).flatMap (λp=>f.planeT p)++((List.range i).flatMap (λi=>f.lineT p i)++(List.range j).flatMap (λj=>f.cellT p i j))) wr) (λv _=>f.o1-(intOf v).toNat)
     case atStart=>exact ⟨0,Zt _,rfl,hk,by simpa using hg⟩
     case round=>
      obtain ⟨j,hj,rfl,hk,hl⟩:=hrel;clear c6 c7 hg;have c0:=hk.cell 0;have c1:=hk.cell 1;have c2:=hk.cell 2;have c3:=hk.cell 3;have c4:=hk.cell 4;have c5:=hk.cell 5;have c6:=hk.cell 6;have c7:=hk.cell 7;have c8:=hk.cell 8;have c9:=hk.cell 9;have c10:=hk.cell 10;have c11:=hk.cell 11;simp at c0 c1 c2 c3 c4 c5 c6 c7 c8 c9 c10 c11;rcases Nat.lt_or_ge j f.o1 with he|hx
      ·obtain ⟨rest,hb⟩:=f.all_split p i j hc hd he
       obtain ⟨g3,g4⟩:=hs.ko hc hd he;have hw:=hk.lt;have ha:=qfe F (n-1) 0 l hF2 hh hr f B f.all J hJ hY p i j _ rest wr oZ hb hl g3 g4 g1 g2 (hs.kj he) (hs.kq hc) (hs.kt hpos) hs.k1 hs.ins hs.k0;unfold Ly.Frame.V at ha
       gi_wp2_with (gi_at_call 147;refine ha.mono ?_;clear ha;rintro e W3 ⟨rfl,hu,hm⟩)
       have hq:=hm.blk hB hk;clear c0 c1 c2 c3 c4 c5 c6 c7 c8 c9 c10 c11;refine ⟨?_,?_⟩
       ·repeat apply Exists.intro
        refine ⟨⟨j+1,he,?_,hq,?_⟩,rfl⟩
        ·simp
        ·rw [List.range_succ,Zj];simpa using hu
       ·simp [intOf];omega
      ·obtain rfl:j=f.o1:=by omega
       gi_wp2
       go_roundw
       case rel=>exact ⟨i+1,hd,by simp,hk,by rw [List.range_succ,Zj];simpa [Ly.Frame.lineT] using hl⟩
       case measure=>simp [intOf];omega
    ·obtain rfl:i=f.o0:=by omega
     gi_wp2
     go_roundw
     case rel=>exact ⟨p+1,hc,by simp,hk,by rw [List.range_succ,Zj];simpa [Ly.Frame.planeT] using hg⟩
     case measure=>simp [intOf];omega
  ·obtain rfl:p=f.outs:=by omega
   gi_wp2
   go_end0
   exact ⟨⟨_,rfl⟩,hf⟩
end Go.Proofs.YtbnnpkcfifejmaaGreat
namespace Go.Proofs.YtbnnpkcfifejmaaGreat
set_option maxHeartbeats 16000000
open Go.RowKit
namespace Ly
structure Frame.Fit (f:Frame):Prop where
 outs:1<=f.outs
 ins:1<=f.ins
 k0:1<=f.k0
 k1:1<=f.k1
 o0:1<=f.o0
 o1:1<=f.o1
 step:1<=f.step
 fit0:(f.o0-1)*f.step+f.k0<=f.i0
 fit1:(f.o1-1)*f.step+f.k1<=f.i1
 out:f.outs*f.o0*f.o1<=65536
 wgt:f.outs*f.ins*(f.k0*f.k1)<=65536
 inp:f.ins*(f.i0*f.i1)<=65536
theorem qbT {a b:Nat} (h:1<=b):a<=a*b:=by have:=Nat.mul_le_mul_left a h;omega
theorem le_mul_l {a b:Nat} (h:1<=a):b<=a*b:=by have:=mlZ b h;omega
theorem Frame.Fit.small {f:Frame} (h:f.Fit):f.Small:=by
 obtain ⟨a1,a2,a3,a4,a5,a6,a7,b0,b1,c1,c2,c3⟩:=h;have d1:f.outs<=f.outs*f.o0:=qbT a5;have d2:f.outs*f.o0<=f.outs*f.o0*f.o1:=qbT a6;have d3:f.o0<=f.outs*f.o0:=le_mul_l a1;have d4:1<=f.outs*f.o0:=by omega
 have d5:f.o1<=f.outs*f.o0*f.o1:=le_mul_l d4;have e1:f.ins<=f.outs*f.ins:=le_mul_l a1;have e2:0<f.k0*f.k1:=Nat.mul_pos a3 a4;have e3:f.outs*f.ins<=f.outs*f.ins*(f.k0*f.k1):=qbT e2;have e4:f.k0<=f.k0*f.k1:=qbT a4;have e5:f.k1<=f.k0*f.k1:=le_mul_l a3;have e6:f.k0*f.k1<=f.outs*f.ins*(f.k0*f.k1):=le_mul_l oZ;have g1:f.i0*f.i1<=f.ins*(f.i0*f.i1):=le_mul_l a2;have g2:(f.o0-1)*f.step*f.i1<=f.i0*f.i1:=mlZ _ oZ;have g3:f.k0*f.i1<=f.i0*f.i1:=mlZ _ oZ;have g4:f.i1<=f.i0*f.i1:=le_mul_l oZ;have g5:f.i0<=f.i0*f.i1:=qbT oZ;exact ⟨by omega,by omega,by omega,by omega,by omega,by omega,by omega,by omega,e2,a6,by omega,by omega,by omega,by omega,by omega⟩
theorem Frame.Fit.pos {f:Frame} (h:f.Fit):0<f.outs*f.ins:=Nat.mul_pos h.outs h.ins
theorem Frame.Fit.places {f:Frame} (h:f.Fit):∀t∈f.all,t.o<f.outs*f.o0*f.o1/\t.w<f.outs*f.ins*(f.k0*f.k1)/\t.x<f.ins*(f.i0*f.i1):=by
 intro z hz;simp only [Frame.all,Frame.cellT,Frame.rowT,List.mem_flatMap,List.mem_map,List.mem_range] at hz;obtain ⟨p,hp,i,hi,j,hj,q,hq,t,ht,u,hu,rfl⟩:=hz;refine ⟨?_,?_,?_⟩
 ·show (p*f.o0+i)*f.o1+j<_
  have h1:(p+1)*f.o0<=f.outs*f.o0:=mlZ _ hp;rw [Zu] at h1;have h2:(p*f.o0+i+1)*f.o1<=f.outs*f.o0*f.o1:=mlZ _ oZ;rw [Zu] at h2;omega
 ·show (p*f.ins+q)*(f.k0*f.k1)+t * f.k1+u<_
  have h1:(p+1)*f.ins<=f.outs*f.ins:=mlZ _ hp;rw [Zu] at h1;have h2:(p*f.ins+q+1)*(f.k0*f.k1)<=f.outs*f.ins*(f.k0*f.k1):=mlZ _ oZ;rw [Zu] at h2;have h3:(t+1)*f.k1<=f.k0*f.k1:=mlZ _ ht;rw [Zu] at h3;omega
 ·show q*(f.i0*f.i1)+(i*f.step*f.i1+j*f.step)+t * f.i1+u<_
  have h1:(q+1)*(f.i0*f.i1)<=f.ins*(f.i0*f.i1):=mlZ _ hq;rw [Zu] at h1;have h2:i*f.step<=(f.o0-1)*f.step:=mlZ _ oZ;have h3:j*f.step<=(f.o1-1)*f.step:=mlZ _ oZ;have b0:=h.fit0;have b1:=h.fit1;have h4:(i*f.step+t+1)*f.i1<=f.i0*f.i1:=mlZ _ oZ;rw [Zu,Nat.add_mul] at h4;omega
end Ly
namespace Ly
theorem qc9 {s w st:Int} (h:(Od.window s w st).2=0):∃n:Nat,(Od.window s w st).1=(n:Int)/\1<=n/\(n-1)*st.toNat+w.toNat<=s.toNat/\1<=st:=by
 have hw:=Od.window_ok h;unfold Od.window at h hw ⊢
 split at h
 ·rename_i hc
  rw [if_pos hc] at hw ⊢;simp only [Sh.side_iff] at hc;simp only at hw ⊢;have h1:0<=(s-w).tdiv st:=Int.tdiv_nonneg oZ oZ;obtain ⟨d,hd⟩:=ezZ h1;refine ⟨1+d,by rw [hd];simp,by omega,?_,by omega⟩;have h4:=Int.ediv_mul_le (s-w) (show st≠0 by omega);rw [Int.tdiv_eq_ediv_of_nonneg oZ] at hd;rw [hd] at h4;obtain ⟨st',rfl⟩:=ezZ (show 0<=st by omega);have h5:((d*st':Nat):Int)=(d:Int)*(st':Int):=by simp
  have h6:(1+d-1)*(st':Int).toNat=d*st':=by rw [Nat.add_sub_cancel_left,tnZ]
  rw [h6];omega
 ·simp at h
theorem conv_fit {ws xs:List Int} {step:Int} (h:(Od.conv ws xs step).2=0):
  1<=step/\(frame ws xs (Od.conv ws xs step).1 step).Fit/\
  ((∃a b k i o:Nat,ws=[(a:Int),b,k]/\xs=[(b:Int),i]/\(Od.conv ws xs step).1=[(a:Int),o])∨
   (∃a b k kk i ii o oo:Nat,ws=[(a:Int),b,k,kk]/\xs=[(b:Int),i,ii]/\(Od.conv ws xs step).1=[(a:Int),o,oo])):=by
 have hd:Od.conv ws xs step=Od.conv ws xs step:=rfl;unfold Od.conv at h
 split at h
 ·rename_i hc
  simp only [Zz,decide_eq_true_eq] at hc
  split at h
  ·rename_i hall
   split at h
   ·rename_i hr
    have ha:(Od.conv ws xs step).1=Od.outs ws xs step (xs.length-1):=by
     unfold Od.conv;rw [if_pos (by simpa using hc),if_pos hall,if_pos hr]
    rw [ha];obtain ⟨⟨hw,hx⟩,l2,l3,lw,hb⟩:=hc;obtain ⟨_,_,_,aw,_,pw⟩:=Sh.right_mul hw;obtain ⟨_,_,_,ax,_,px⟩:=Sh.right_mul hx;obtain ⟨_,_,_,ao,_,po⟩:=Sh.right_mul hr;simp only [Zf,List.mem_range,decide_eq_true_eq] at hall;clear h hd
    match xs,l2,l3 with
    | [b,i],_,_=>
     match ws,lw with
     | [a,b',k],_=>
      simp at hb;subst hb;obtain ⟨n,hn,n1,n2,n3⟩:=qc9 (hall 0 sZ)
      have hE:Od.outs [a,b',k] [b',i] step ([b',i].length-1)=[a,(n:Int)]:=by
       simp [Od.outs,Od.wn,List.range_succ] at hn ⊢;exact hn
      rw [hE] at ao po ⊢;simp [Safe.prod] at ao po pw px aw ax n2;clear hn hE hall ha hr hw hx lw;obtain ⟨a,rfl⟩:=ezZ (show 0<=a by omega);obtain ⟨b,rfl⟩:=ezZ (show 0<=b' by omega);obtain ⟨k,rfl⟩:=ezZ (show 0<=k by omega);obtain ⟨i,rfl⟩:=ezZ (show 0<=i by omega);refine ⟨n3,?_,.inl ⟨a,b,k,i,n,rfl,rfl,rfl⟩⟩;have hf:frame [(a:Int),b,k] [(b:Int),i] [(a:Int),n] step=⟨a,b,1,k,1,i,1,n,step.toNat⟩:=by simp [frame,last2,side,at_]
      rw [hf];rw [←Int.natCast_mul] at po px;rw [←Int.natCast_mul,←Int.natCast_mul,←Nat.mul_assoc] at pw;refine ⟨by simp;omega,by simp;omega,by simp,by simp;omega,by simp,by simp;omega,by simp;omega,by simp,by simp at n2 ⊢;omega,by simp;omega,by simp;omega,by simp;omega⟩
    | [b,i,ii],_,_=>
     match ws,lw with
     | [a,b',k,kk],_=>
      simp at hb;subst hb;obtain ⟨n,hn,n1,n2,n3⟩:=qc9 (hall 0 sZ);obtain ⟨m,hm,m1,m2,m3⟩:=qc9 (hall 1 sZ)
      have hE:Od.outs [a,b',k,kk] [b',i,ii] step ([b',i,ii].length-1)=[a,(n:Int),(m:Int)]:=by
       simp [Od.outs,Od.wn,List.range_succ] at hn hm ⊢;exact ⟨hn,hm⟩
      rw [hE] at ao po ⊢;simp [Safe.prod] at ao po pw px aw ax n2 m2;clear hn hm hE hall ha hr hw hx lw;obtain ⟨a,rfl⟩:=ezZ (show 0<=a by omega);obtain ⟨b,rfl⟩:=ezZ (show 0<=b' by omega);obtain ⟨k,rfl⟩:=ezZ (show 0<=k by omega);obtain ⟨kk,rfl⟩:=ezZ (show 0<=kk by omega);obtain ⟨i,rfl⟩:=ezZ (show 0<=i by omega);obtain ⟨ii,rfl⟩:=ezZ (show 0<=ii by omega);refine ⟨n3,?_,.inr ⟨a,b,k,kk,i,ii,n,m,rfl,rfl,rfl⟩⟩;have hf:frame [(a:Int),b,k,kk] [(b:Int),i,ii] [(a:Int),n,m] step=⟨a,b,k,kk,i,ii,n,m,step.toNat⟩:=by simp [frame,last2,side,at_]
      rw [hf];rw [←Int.natCast_mul,←Int.natCast_mul] at px;rw [←Int.natCast_mul,←Int.natCast_mul,←Nat.mul_assoc] at po;rw [←Int.natCast_mul,←Int.natCast_mul,←Int.natCast_mul,←Nat.mul_assoc] at pw;refine ⟨by simp;omega,by simp;omega,by simp;omega,by simp;omega,by simp;omega,by simp;omega,by simp;omega,by simp at n2 ⊢;omega,by simp at m2 ⊢;omega,by simp;omega,by simp;omega,by simp;omega⟩
   ·simp at h
  ·simp at h
 ·simp at h
end Ly
theorem Ints.spot {w:Zp1} {a:Addr} {l:List Int} (h:Ints .i64 w (some a) l) (hl:0<l.length):a.spot=none:=by
 obtain ⟨b',o',e,-,-⟩:=h 0 hl;injection e with e;rw [e]
theorem Ints.some_ {w:Zp1} {A:Option Addr} {l:List Int} (h:Ints .i64 w A l) (hl:0<l.length):∃a,A=some a:=by
 obtain ⟨b',o',e,-,-⟩:=h 0 hl;exact ⟨_,e⟩
theorem qff {ws xs:List Int} {step:Int} (h:(Od.conv ws xs step).2=0):(∀z∈ws,1<=z/\z<=1024)/\∀z∈xs,1<=z/\z<=1024:=by
 unfold Od.conv at h
 split at h
 ·rename_i hc
  simp only [Zz,decide_eq_true_eq] at hc;exact ⟨(Sh.right_mul hc.1.1).2.2.2.1,(Sh.right_mul hc.1.2).2.2.2.1⟩
 ·simp at h
theorem qd9 (A B:Option Addr) (c d:Nat) (ws xs:List Int) (step:Int) (w:Zp1) (hc:ws.length<=c) (hd:xs.length<=d) (hd':d<=9223372036854775807) (hI:Ints .i64 w A ws) (hJ:Ints .i64 w B xs) (h:(Od.conv ws xs step).2=0):
  Calls Tryz.prog 57 #[.slice A ws.length c,.slice B xs.length d,.int .i64 step] w λe w'=>
   e=.returned (.func (.func 115) #[(Ly.frame ws xs (Od.conv ws xs step).1 step).V] #[])/\Below w.heap.size w w':=by
 obtain ⟨hv,ha,hi⟩:=Ly.conv_fit h;have hp:=qff h
 have hl:ws.length<=4/\xs.length<=4:=by
  rcases hi with ⟨_,_,_,_,_,rfl,rfl,_⟩|⟨_,_,_,_,_,_,_,_,rfl,rfl,_⟩<;>simp
 have he:=qbm A B c d ws xs step w oZ oZ hd hd' hI hJ;obtain ⟨st,rfl⟩:=ezZ (show 0<=step by omega);rcases hi with ⟨a,b,k,i,o,rfl,rfl,ho⟩|⟨a,b,k,kk,i,ii,o,oo,rfl,rfl,ho⟩
 ·obtain ⟨W,rfl⟩:=hI.some_ sZ
  obtain ⟨X,rfl⟩:=hJ.some_ sZ;have hf:Ly.frame [(a:Int),b,k] [(b:Int),i] (Od.conv [(a:Int),b,k] [(b:Int),i] st).1 st=⟨a,b,1,k,1,i,1,o,st⟩:=by rw [ho];simp [Ly.frame,Ly.last2,Ly.side,Ly.at_]
  rw [hf] at ha ⊢;obtain ⟨r,hr⟩:∃r,Od.conv [(a:Int),b,k] [(b:Int),i] st=r:=⟨_,rfl⟩
  rw [hr] at he h ho;obtain ⟨r1,r2⟩:=r;simp only at h ho;subst h ho;have hu:1<=(k:Int)/\(k:Int)<=1024:=hp.1 _ sZ;have hn:1<=(i:Int)/\(i:Int)<=1024:=hp.2 _ sZ;have HF:=zI hf;clear hf hr;obtain ⟨HI,HJ,hh,hk⟩:=zd4 hI hJ he ha;clear hI hJ he ha;go_enter Tryz.func57,Tryz.ntmps57;go_wp2_with fail;refine (hh.out).mono ?_;rintro e w1 ⟨S,sc,rfl,hS,hj,hs,ht,hb⟩;obtain ⟨O,rfl⟩:=hS.some_ sZ;have hg:=qge W X O c d sc a b k i o st w1 (HI.out.spot sZ) (HJ.out.spot sZ) (hS.spot sZ) (HI.out.below hb (lrZ _)) (HJ.out.below hb (lrZ _)) hS hc hd hj oZ oZ;go_wp2_with fail;refine (hg).mono ?_;rintro e w2 ⟨rfl,hm⟩;go_wp2_with fail;go_ret;exact ⟨by simp [Ly.Frame.V],hb.trans (hm.mono hb.size)⟩
 ·obtain ⟨W,rfl⟩:=hI.some_ sZ
  obtain ⟨X,rfl⟩:=hJ.some_ sZ;have hf:Ly.frame [(a:Int),b,k,kk] [(b:Int),i,ii] (Od.conv [(a:Int),b,k,kk] [(b:Int),i,ii] st).1 st=⟨a,b,k,kk,i,ii,o,oo,st⟩:=by rw [ho];simp [Ly.frame,Ly.last2,Ly.side,Ly.at_]
  rw [hf] at ha ⊢;obtain ⟨r,hr⟩:∃r,Od.conv [(a:Int),b,k,kk] [(b:Int),i,ii] st=r:=⟨_,rfl⟩
  rw [hr] at he h ho;obtain ⟨r1,r2⟩:=r;simp only at h ho;subst h ho
  have hq:0<=(k:Int)*kk/\(k:Int)*kk<=1048576:=by
   have h1:=ha.wgt;have h2:k*kk<=a*b*(k*kk):=Ly.le_mul_l ha.pos;simp at h1;rw [←Int.natCast_mul];omega
  have hn:0<=(i:Int)*ii/\(i:Int)*ii<=1048576:=by
   have h1:=ha.inp;have h2:i*ii<=b*(i*ii):=Ly.le_mul_l ha.ins;simp at h1;rw [←Int.natCast_mul];omega
  clear hf hr;obtain ⟨HI,HJ,hh,hk⟩:=zd4 hI hJ he ha;clear hI hJ he ha;go_enter Tryz.func57,Tryz.ntmps57;go_wp2_with fail;refine (hh.out).mono ?_;rintro e w1 ⟨S,sc,rfl,hS,hj,hs,ht,hb⟩;obtain ⟨O,rfl⟩:=hS.some_ sZ;have hg:=qgf W X O c d sc a b k kk i ii o oo st w1 (HI.out.spot sZ) (HJ.out.spot sZ) (hS.spot sZ) (HI.out.below hb (lrZ _)) (HJ.out.below hb (lrZ _)) hS hc hd hj hq hn;go_wp2_with fail;refine (hg).mono ?_;rintro e w2 ⟨rfl,hm⟩;go_wp2_with fail;go_ret;exact ⟨by simp [Ly.Frame.V],hb.trans (hm.mono hb.size)⟩
def OnlyNormal (Q:Exit->Act->Zp1->Prop):Exit->Act->Zp1->Prop
 | .normal,a,w=>Q .normal a w
 | _,_,_=>False
theorem OnlyNormal.mk {Q:Exit->Act->Zp1->Prop} {a:Act} {w:Zp1} (h:Q .normal a w):OnlyNormal Q .normal a w:=h
theorem OnlyNormal.imp {Q:Exit->Act->Zp1->Prop}:∀(e:Exit) (a:Act) (w:Zp1),OnlyNormal Q e a w->Q e a w:=λe a w h=>by
 cases e<;>first|exact h|exact (h:False).elim
theorem OnlyNormal.noOut {Q:Exit->Act->Zp1->Prop}:¬LetsOut (NoPanic (OnlyNormal Q)):=λ⟨_,_,h⟩=>h
def qco (ops:Array Oper):Bool:=ops.toList.all λo=>match o.op with | .defer _=>false|_=>true
theorem qet {ops:Array Oper} (h:qco ops=true) {i:Nat} {o:Oper} (ho:ops[i]? = some o):∀c,o.op≠.defer c:=by
 intro c hc;unfold qco at h;rw [Zf] at h;have:=h o (by rw [←Array.getElem?_toList] at ho;exact List.mem_of_getElem? ho);rw [hc] at this;simp at this
section
variable {P:Program} {ops:Array Oper} {n l:Nat}
theorem qfg {o:Oper} (hd:∀c,o.op≠.defer c) {Q:Exit->Act->Zp1->Prop} {K:Act->Zp1->Prop} {a:Act} {w:Zp1} (h:o.wp P a w K Q):o.wpIn (Fence.wide.inRound l) n P a w K Q:=by
 refine ⟨λ_ _=>trivial,?_⟩;unfold Oper.wp at h;rw [Oper.semAt_eq _ _ _ hd];generalize (execOp a.eval o).run P w=r at *;cases r with
 | ok x w'=>
  cases x<;>simp only [Oper.upon,Oper.uponIn] at h ⊢<;>first
   | exact h
   | exact ⟨(λhh=>by cases hh),callsIn_wide.2 (Calls.mono h λe w'' he=>by cases e<;>exact he)⟩
   | exact ⟨(λhh=>by cases hh),λc cs _=>let ⟨v,w',r,s⟩:=h c cs;⟨v,w',r,stepsIn_wide.2 s⟩⟩
 | halt x w'=>cases x<;>simp only [Oper.upon,Oper.uponIn] at h ⊢<;>exact h
theorem qaY (hd:qco ops=true) {Q:Exit->Act->Zp1->Prop} (hQ:¬LetsOut Q):∀(is:List Nat) (a:Act) (w:Zp1),wpOps P ops Q is a w->wpOpsIn (Fence.wide.inRound l) n P ops Q is a w
 | [],_,_,h=>h
 | i::rest,a,w,h=>by
  simp only [wpOps,wpOpsIn] at h ⊢;cases ho:ops[i]? with
  | none=>simp only [ho] at h;exact qaY hd hQ rest a w h
  | some o=>
   simp only [ho] at h ⊢
   split
   ·rename_i hw
    rw [if_pos hw] at h;rcases h with h|h
    ·exact qfg (qet hd ho) (Oper.wp_mono (λa w=>qaY hd hQ rest a w) h)
    ·exact absurd h.2 hQ
   ·rename_i hw
    rw [if_neg hw] at h;exact ⟨λ_ _=>trivial,qaY hd hQ rest _ w h⟩
theorem qaf {S:Zp1->Prop} {Q:Exit->Act->Zp1->Prop} {id:Nat} {a:Act} {w:Zp1} (hm:P.follows .mixedOrders=true) (hd:qco ops=true) (hS:S w.drew)
  (h:S w.drew->wpAnyH P .any ops (NoPanic (OnlyNormal Q)) S ops.size (Array.replicate ops.size false) a w.drew):(Code.region id ops true).wpIn (Fence.wide.inRound l) n P Q a w:=by
 refine wpIn_mono (wpIn_region_draw λt=>?_) (λe a w hq=>OnlyNormal.imp e a w (NoPanic.imp e a w hq));simp only [Region.schedule,hm,Bool.true_or,if_true];exact qaY hd OnlyNormal.noOut _ _ _ (wpAny_sound ops.size t _ a _ (wpAny_of_held _ _ _ _ (h hS)))
end
theorem qak {F:Fence} {n:Nat} {P:Program} {fn:Func} {R:Ending->Zp1->Prop} {a:Act} {w:Zp1} {v:Value} (hr:(results fn a.tmps).run P w=.ok v w) (hd:a.defers=[]) (hR:R (.returned v) w):bodyPostM F n P fn R .ret a w:=by
 show LeavesInM F n P fn a.tmps R a.defers .returning w
 rw [hd];exact ⟨v,hr,hR⟩
theorem qfh {ws xs:List Int} {step:Int} (h:(Od.conv ws xs step).2=0):Sh.right (Od.conv ws xs step).1=true:=by
 unfold Od.conv at h ⊢
 split at h
 ·rename_i hc
  rw [if_pos hc]
  split at h
  ·rename_i ha
   rw [if_pos ha]
   split at h
   ·rename_i hr
    rw [if_pos hr];exact hr
   ·simp at h
  ·simp at h
 ·simp at h
namespace Ly
theorem conv_lens {t x:Ten} {step:Int} (hr:Tn.right t=true) (hq:Tn.right x=true) (h:(Od.conv t.s x.s step).2=0):
  t.c.length=(frame t.s x.s (Od.conv t.s x.s step).1 step).outs*(frame t.s x.s (Od.conv t.s x.s step).1 step).ins*((frame t.s x.s (Od.conv t.s x.s step).1 step).k0*(frame t.s x.s (Od.conv t.s x.s step).1 step).k1)/\
  x.c.length=(frame t.s x.s (Od.conv t.s x.s step).1 step).ins*((frame t.s x.s (Od.conv t.s x.s step).1 step).i0*(frame t.s x.s (Od.conv t.s x.s step).1 step).i1)/\
  (Safe.prod (Od.conv t.s x.s step).1).toNat=(frame t.s x.s (Od.conv t.s x.s step).1 step).outs*(frame t.s x.s (Od.conv t.s x.s step).1 step).o0*(frame t.s x.s (Od.conv t.s x.s step).1 step).o1:=by
 obtain ⟨-,-,ha⟩:=conv_fit h;have h1:(t.c.length:Int)=Safe.prod t.s:=by simp [Tn.right] at hr;exact hr.2
 have h2:(x.c.length:Int)=Safe.prod x.s:=by simp [Tn.right] at hq;exact hq.2
 generalize (Od.conv t.s x.s step).1=out at *;rcases ha with ⟨a,b,k,i,o,e1,e2,e3⟩|⟨a,b,k,kk,i,ii,o,oo,e1,e2,e3⟩
 ·rw [e1] at h1
  rw [e2] at h2;rw [e1,e2,e3];have h3:Safe.prod [(a:Int),o]=((a*o:Nat):Int):=by simp [Safe.prod]
  have hc:(t.c.length:Int)=((a*b*k:Nat):Int):=by rw [h1];simp [Safe.prod,Int.mul_assoc]
  have hb:(x.c.length:Int)=((b*i:Nat):Int):=by rw [h2];simp [Safe.prod]
  refine ⟨?_,?_,?_⟩
  ·simp [frame,last2,side,at_];exact Int.ofNat.inj hc
  ·simp [frame,last2,side,at_];exact Int.ofNat.inj hb
  ·rw [h3];simp only [frame,last2,side,at_,tnZ,List.drop_succ_cons,List.drop_zero,List.length_singleton,if_true,List.getD_cons_zero,Nat.mul_one]
 ·rw [e1] at h1
  rw [e2] at h2;rw [e1,e2,e3];have h3:Safe.prod [(a:Int),o,oo]=((a*o*oo:Nat):Int):=by simp [Safe.prod,Int.mul_assoc]
  have hc:(t.c.length:Int)=((a*b*(k*kk):Nat):Int):=by rw [h1];simp [Safe.prod,Int.mul_assoc]
  have hb:(x.c.length:Int)=((b*(i*ii):Nat):Int):=by rw [h2];simp [Safe.prod]
  refine ⟨?_,?_,?_⟩
  ·simp [frame,last2,side,at_];exact Int.ofNat.inj hc
  ·simp [frame,last2,side,at_];exact Int.ofNat.inj hb
  ·rw [h3];simp [frame,last2,side,at_];rfl
theorem qaK (l:List Int) (i:Nat) (v:Int):(addAt l i v).length=l.length:=by simp [addAt]
theorem qbU {l:List Int} {i:Nat} {v:Int} (hl:∀z∈l,Fx.In z) (hv:Fx.In v):∀z∈addAt l i v,Fx.In z:=λz hz=>by
 unfold addAt at hz;rcases List.mem_or_eq_of_mem_set hz with h|rfl
 ·exact hl z h
 ·exact Fx.add_in _ _
theorem convC_push (w x:List Int) (ts:List Touch) (t:Touch) (n:Nat):convC w x (ts++[t]) n=addAt (convC w x ts n) t.o (Fx.mul (at_ w t.w) (at_ x t.x)):=by unfold convC;rw [List.foldl_append];rfl
theorem qbI {w x:List Int} (hw:∀z∈w,Fx.In z) (hx:∀z∈x,Fx.In z) (n:Nat):∀ts:List Touch,(convC w x ts.reverse n).length=n/\∀z∈convC w x ts.reverse n,Fx.In z
 | []=>⟨by simp [convC,zeros],λz hz=>by simp [convC,zeros] at hz;rw [hz.2];exact Fx.in_zero⟩
 | t::r=>by
  obtain ⟨h1,h2⟩:=qbI hw hx n r;rw [List.reverse_cons,convC_push];exact ⟨by rw [qaK,h1],qbU h2 (Fx.mul_in _ _)⟩
theorem convC_len {w x:List Int} (hw:∀z∈w,Fx.In z) (hx:∀z∈x,Fx.In z) (n:Nat) (ts:List Touch):(convC w x ts n).length=n:=by have:=(qbI hw hx n ts.reverse).1;rwa [List.reverse_reverse] at this
theorem convC_in {w x:List Int} (hw:∀z∈w,Fx.In z) (hx:∀z∈x,Fx.In z) (n:Nat) (ts:List Touch):∀z∈convC w x ts n,Fx.In z:=by have:=(qbI hw hx n ts.reverse).2;rwa [List.reverse_reverse] at this
end Ly
theorem conv_go (S C S' C':Option Addr) (c d c' d':Nat) (t x:Ten) (step:Int) (w:Zp1) (ht:TenIn w S C c d t) (hx:TenIn w S' C' c' d' x):
  Calls Tryz.prog 96 #[.agg #[.slice S t.s.length c,.slice C t.c.length d],.agg #[.slice S' x.s.length c',.slice C' x.c.length d'],.int .i64 step] w (GoP (Ly.conv t x step) w):=by
 obtain ⟨gc,H0,hz,gd⟩:=qal w 30 30 30 #[.slice S t.s.length c,.slice C t.c.length d] #[.slice S' x.s.length c',.slice C' x.c.length d'] #[.slice none 0 0,.slice none 0 0];have l1:=ht.l1;have l5:=hx.s1;have l6:=hx.s2;have l2:=ht.l2;have l3:=hx.l1;have l4:=hx.l2;obtain ⟨Hk,Hy,Hz,HB,Ht,Hx⟩:=zd6 gc H0 hz gd ht hx;clear gc H0 hz gd ht hx;refine callsIn_wide.1 (callsIn_of_wp_marks (n:=9) Tryz.func96 rfl trivial (wpIn_wide.2 ?_));simp only [Tryz.ntmps96,List.size_toArray,List.length_cons,List.length_nil,Nat.reduceAdd,Nat.reduceSub,Array.replicate_succ,Array.replicate_zero,List.push_toArray,List.append_toArray,List.nil_append,List.cons_append];go_upto_region 1 with fail;generalize (((w.alloc (.cells #[.slice S t.s.length c,.slice C t.c.length d] 30)).alloc (.cells #[.slice S' x.s.length c',.slice C' x.c.length d'] 30)).alloc (.cells #[.slice none 0 0,.slice none 0 0] 30))=w1 at *;have a0:=Hk.out.cell 0;have a1:=Hk.out.cell 1;simp at a0 a1;have b0:=Hy.out.cell 0;have b1:=Hy.out.cell 1;simp at b0 b1;go_wp2_with fail;refine (qa2 S C c d t w1 oZ oZ (Ht.out.later HB.out).r.1).mono ?_;rintro e w2 ⟨rfl,Hd⟩;have hW:Later w1 w2:=Hd;have Hn:=HB.out.trans hW;have hv:=hW.blk Hz.out;have hO:=hW.blk Hk.out;have hM:=hW.blk Hy.out;clear Hd Hz HB Hk Hy hW a0 a1 b0 b1;have a0:=hO.cell 0;have a1:=hO.cell 1;have b0:=hM.cell 0;have b1:=hM.cell 1;have c0:=hv.cell 0;have c1:=hv.cell 1;have f0:=hv.frozen 0;have f1:=hv.frozen 1;simp at a0 a1 b0 b1 c0 c1;cases hr:Tn.right t
 ·have HE:=zI (show Ly.conv t x step=(Ly.none_,20) by simp [Ly.conv,Ly.convErr,hr])
  clear hr;obtain ⟨Hf,HP,HV,HO⟩:=zd4 Hn hv hO hM;clear Hn hv hO hM;go_wp2_with fail;refine qak (v:=.tuple #[.agg #[.slice none 0 0,.slice none 0 0],.int .i64 20]) (by simp [results,Tryz.results96,go_sem,c0,c1]) rfl ?_;exact GoP.fail HE.out dZ ((Hf.out.set (p:=⟨w.heap.size+2,0,none⟩) sZ _).set (p:=⟨w.heap.size+2,1,none⟩) sZ _)
 obtain ⟨Hf,HP,HV,HO⟩:=zd4 Hn hv hO hM;clear Hn hv hO hM;go_wp2_with fail;refine (qa2 S' C' c' d' x w2 oZ oZ (Hx.out.later Hf.out).r.1).mono ?_;rintro e w3 ⟨rfl,gu⟩;have h8:Later w2 w3:=gu;have Hj:=Hf.out.trans h8;have hn:=h8.blk HP.out;have he:=h8.blk HV.out;have hc:=h8.blk HO.out;clear gu HP Hf HV HO h8 a0 a1 b0 b1 c0 c1 f0 f1;have a0:=he.cell 0;have a1:=he.cell 1;have b0:=hc.cell 0;have b1:=hc.cell 1;have c0:=hn.cell 0;have c1:=hn.cell 1;have f0:=hn.frozen 0;have f1:=hn.frozen 1;simp at a0 a1 b0 b1 c0 c1;cases hq:Tn.right x
 ·have HE:=zI (show Ly.conv t x step=(Ly.none_,20) by simp [Ly.conv,Ly.convErr,hr,hq])
  clear hr hq;obtain ⟨hP,HZ,hE,hC⟩:=zd4 Hj hn he hc;clear Hj hn he hc;go_wp2_with fail;refine qak (v:=.tuple #[.agg #[.slice none 0 0,.slice none 0 0],.int .i64 20]) (by simp [results,Tryz.results96,go_sem,c0,c1]) rfl ?_;exact GoP.fail HE.out dZ ((hP.out.set (p:=⟨w.heap.size+2,0,none⟩) sZ _).set (p:=⟨w.heap.size+2,1,none⟩) sZ _)
 obtain ⟨hP,HZ,hE,hC⟩:=zd4 Hj hn he hc;clear Hj hn he hc;go_wp2_with fail;refine (qbm S S' c c' t.s x.s step w3 oZ oZ oZ oZ (Ht.out.later hP.out).r.1 (Hx.out.later hP.out).r.1).mono ?_;rintro e w4 ⟨A,ac,rfl,hI,gG,Gb,hf,hb⟩;have hX:Later w3 w4:=hb;have Hu:=hP.out.trans hX;have hp:=hX.blk HZ.out;have hi:=hX.blk hE.out;have hd:=hX.blk hC.out;clear hb HZ hP hE hC hX a0 a1 b0 b1 c0 c1 f0 f1;have a0:=hi.cell 0;have a1:=hi.cell 1;have b0:=hd.cell 0;have b1:=hd.cell 1;have c0:=hp.cell 0;have c1:=hp.cell 1;have f0:=hp.frozen 0;have f1:=hp.frozen 1;simp at a0 a1 b0 b1 c0 c1;have Hw:Ly.convErr t x step=(Od.conv t.s x.s step).2:=by simp [Ly.convErr,hr,hq]
 by_cases Hs:(Od.conv t.s x.s step).2≠0
 ·have HE:=zI (show Ly.conv t x step=(Ly.none_,(Od.conv t.s x.s step).2) by simp [Ly.conv,Hw,Hs])
  have gH:¬(Od.conv t.s x.s step).2=0:=Hs;clear hr hq Hw;obtain ⟨HY,HA,hw,hL,HI⟩:=zd5 Hu hp hi hd hI;clear Hu hp hi hd hI;go_wp2_with fail;refine qak (v:=.tuple #[.agg #[.slice none 0 0,.slice none 0 0],.int .i64 (Od.conv t.s x.s step).2]) (by simp [results,Tryz.results96,go_sem,c0,c1]) rfl ?_;exact GoP.fail HE.out Hs ((HY.out.set (p:=⟨w.heap.size+2,0,none⟩) sZ _).set (p:=⟨w.heap.size+2,1,none⟩) sZ _)
 have hR:(Od.conv t.s x.s step).2=0:=by omega
 have HE:=zI (show Ly.conv t x step=(⟨(Od.conv t.s x.s step).1,Ly.convC t.c x.c (Ly.convT t x step) (Ly.span (Od.conv t.s x.s step).1)⟩,0) by simp [Ly.conv,Hw,hR]);clear Hs Hw;obtain ⟨Ga,h9,hj⟩:=Ly.conv_fit hR;rw [hR]
 have gP:(Od.conv t.s x.s step).1.length<=4:=by
  rcases hj with ⟨_,_,_,_,_,_,_,e⟩|⟨_,_,_,_,_,_,_,_,_,_,e⟩<;>rw [e]<;>simp
 have HX:=qfh hR;have hk:=qd9 S S' c c' t.s x.s step;obtain ⟨HF,HK,HC⟩:=zd3 h9 hR hj;obtain ⟨out,hout⟩:∃out,(Od.conv t.s x.s step).1=out:=⟨_,rfl⟩
 rw [hout] at hI gG gP HX ⊢;clear h9 hR hj;have HT:=zI hk;clear hk;obtain ⟨HY,HA,hw,hL,HI⟩:=zd5 Hu hp hi hd hI;clear Hu hp hi hd hI;go_wp2_with fail;refine (qbD A ac out 0 w4 oZ HI.out).mono ?_;rintro e w5 ⟨HN,HM⟩;obtain ⟨⟨hZ,-⟩|⟨-,v,rfl,g,hh,rfl,hg,Gc,hG,hH⟩,HM⟩:=And.intro HN HM
 ·rw [HX] at hZ;cases hZ
 have HS:Later w4 w5:=HM;have hV:Later w5 (w5.alloc (.cells #[.slice (some ⟨g,0,none⟩) out.length out.length,.slice (some ⟨hh,0,none⟩) (Safe.prod out).toNat (Safe.prod out).toNat] 30)):=(Later.refl w5).alloc _;have ho:=Blk.new w5 30 #[.slice (some ⟨g,0,none⟩) out.length out.length,.slice (some ⟨hh,0,none⟩) (Safe.prod out).toNat (Safe.prod out).toNat];have hS:=HS.trans hV;have gh:=HY.out.trans hS;have gA:=hS.blk HA.out;have Hg:=hS.blk hw.out;have Hc:=hS.blk hL.out;have gB:=hV.blk hG;have gp:=hV.blk hH;have gk:=HA.out.lt;have gx:=hH.lt
 have gF:g≠hh:=λe=>by
  subst e;have:=hG.symm.trans hH;simp at this
 clear HA hw hL hG hH a0 a1 b0 b1 c0 c1 f0 f1;obtain ⟨Gh,Gd,Ho,Gf,Hp,gj,hF,hy,gv⟩:=zd9 HS hV ho hS gh gA Hg Hc gB;have H8:=zI gp;clear HS hV ho hS gh gA Hg Hc gB gp;go_upto_region 7 with fail;generalize w5.alloc (.cells #[.slice (some ⟨g,0,none⟩) out.length out.length,.slice (some ⟨hh,0,none⟩) (Safe.prod out).toNat (Safe.prod out).toNat] 30)=w6 at *;generalize hpe:w5.heap.size=q at *;have a0:=hF.out.cell 0;have b0:=hy.out.cell 0;simp at a0 b0;go_wp2_with fail;refine (HT.out w6 Ht.out.s1 l5 l6 (Ht.out.later Hp.out).r.1 (Hx.out.later Hp.out).r.1 HK.out).mono ?_;rintro e w7 ⟨rfl,gn⟩;have hm:Later w6 w7:=gn;have H9:=Hp.out.trans hm;have gt:=hm.blk gj.out;have Hb:=hm.blk hF.out;have Hi:=hm.blk hy.out;have go:=hm.blk gv.out;have gm:=hm.blk H8.out;have gl:=hm.blk Ho.out;clear gj hF hy gv H8 Ho a0 b0 gn Hp;obtain ⟨Gj,HQ,Hv,He,Ha,Hq,Hl,HH⟩:=zd8 hm H9 gt Hb Hi go gm gl;clear hm H9 gt Hb Hi go gm gl;go_wp2_with fail;have hs:=HF.out.small;have Hm:=HF.out.pos;have hU:=HF.out.places;have hT:Ly.convT t x step=(Ly.frame t.s x.s out step).all:=by unfold Ly.convT;rw [hout]
 rw [hout] at hs Hm hU;generalize hfr:Ly.frame t.s x.s out step=fr at *
 refine wpIn_wide.1 (qb9 (n:=9) (9-1-1-1) rfl oZ (gf:=115) (lf:=#[fr.V]) rfl trivial (enters_of Tryz.func115 krZ rfl) Ly.Touch.V rfl fr.all
  (λpre W=>Blk W hh 22 ((Ly.convC t.c x.c pre (Safe.prod out).toNat).map (Za1 .i64)).toArray/\Blk W q 30 #[.slice (some ⟨g,0,none⟩) out.length out.length,.slice (some ⟨hh,0,none⟩) (Safe.prod out).toNat (Safe.prod out).toNat]/\(Blk W w.heap.size 30 #[.slice S t.s.length c,.slice C t.c.length d]/\Blk W (w.heap.size+1) 30 #[.slice S' x.s.length c',.slice C' x.c.length d']/\Blk W (w.heap.size+2) 30 #[.slice none 0 0,.slice none 0 0]/\Blk W g 3 (out.map (Za1 .i64)).toArray)/\Later w W) ?hI ?h0 ?hseq ?hbody ?hdone)
 case hI=>
  rintro pre A B hb ⟨h1,h2,⟨h4,h5,h6,h7⟩,h3⟩;exact ⟨(hb.block _ Hl.out.lt).trans h1,(hb.block _ HH.out.lt).trans h2,⟨(hb.block _ He.out.lt).trans h4,(hb.block _ Ha.out.lt).trans h5,(hb.block _ Hv.out.lt).trans h6,(hb.block _ Hq.out.lt).trans h7⟩,Below.trans h3 (hb.mono HQ.out.size)⟩
 case h0=>exact ⟨by simpa [Ly.convC,Ly.zeros] using Hl.out,HH.out,⟨He.out,Ha.out,Hv.out,Hq.out⟩,HQ.out⟩
 case hseq=>
  intro l J W gi Gi hJ hY h0;exact qd8 Fence.wide (9-1) l trivial trivial rfl oZ fr hs Hm W.heap.size J hJ hY W (lrZ _) h0
 case hbody=>
  rintro pre z rest A hx ⟨h1,h2,⟨h4,h5,h6,h7⟩,h3⟩ hA;obtain ⟨po,pw,px⟩:=hU z (by rw [hx];simp);obtain ⟨l7,l8,l9⟩:=Ly.conv_lens hr hq HK.out;rw [hout,hfr] at l7 l8;rw [hout,hfr] at l9;rw [←l9] at po;rw [←l7] at pw;rw [←l8] at px;have Hr:=Ly.convC_len Ht.out.num Hx.out.num (Safe.prod out).toNat pre;have hQ:=Ly.convC_in Ht.out.num Hx.out.num (Safe.prod out).toNat pre;have hu:=Ly.convC_push t.c x.c pre z (Safe.prod out).toNat;have gI:=Ly.convC_in Ht.out.num Hx.out.num (Safe.prod out).toNat (pre++[z]);clear l7 l8 l9 HN hx;generalize Ly.convC t.c x.c pre (Safe.prod out).toNat=acc at *;rw [hu];clear hu gI;generalize (Safe.prod out).toNat=N at *;have gZ:=HQ.out.size;have hB:=Hl.out.lt;have HJ:=Hq.out.lt;have HR:=HH.out.lt;have HW:=Hv.out.lt;obtain ⟨bt,ot,rfl,lbt,w0⟩:=Ht.out.cell pw;obtain ⟨bx,ox,rfl,lbx,x0⟩:=Hx.out.cell px;have gT:=Ly.at_in Ht.out.num z.w;have gQ:=Ly.at_in Hx.out.num z.x;have gO:=Ly.at_in hQ z.o;have Hh:=Fx.mul_in (Ly.at_ t.c z.w) (Ly.at_ x.c z.x);have gg:acc.set z.o (Fx.add (Ly.at_ acc z.o) (Fx.mul (Ly.at_ t.c z.w) (Ly.at_ x.c z.x)))=Ly.addAt acc z.o (Fx.mul (Ly.at_ t.c z.w) (Ly.at_ x.c z.x)):=rfl;have gb:Ly.at_ acc z.o=acc[z.o]'oZ:=Ly.at_get oZ;generalize Ly.at_ t.c z.w=tv at *;generalize Ly.at_ x.c z.x=xv at *;have gL:=zI gg;clear gg;rw [←gL.out];rw [show Ly.Touch.V z=Value.agg #[.int .i64 z.o,.int .i64 z.w,.int .i64 z.x] from rfl];have HU:=h1.cell z.o;simp [show z.o<acc.length by omega,←gb] at HU;generalize Ly.at_ acc z.o=ov at *;clear gb;obtain ⟨zo,zw,zx⟩:=z;simp only at *;have gy:=Blk.new A 114 #[.int .i64 zo,.int .i64 zw,.int .i64 zx];have gr:=(Later.refl A).alloc (.cells #[.int .i64 zo,.int .i64 zw,.int .i64 zx] 114);have gD:=w0;obtain ⟨H1,H2,H4,H5,H6,H7,H3,gw,hl⟩:=zd9 h1 h2 h4 h5 h6 h7 h3 gy gr;have ge:=zI hQ;clear h1 h2 h4 h5 h6 h7 h3 gy gr hQ
  gi_wp2_with (rw [Oper.semAt_eq _ _ _ (λc h=>by cases h)];go_simp;try go_bits)
  obtain ⟨g0,g9⟩:=zd2 hU hT;clear hU hT hs Hm HX hout;refine ⟨Above.alloc _ _ _,λA2 gU HL Hd=>?_⟩;rw [Zh1] at gU;have gV:=H1.out.lt;have ha:=λ(k:Nat) (h:k<w7.heap.size)=>HL k oZ
  have g1:Blk A2 hh 22 (acc.map (Za1 .i64)).toArray:=(ha hh hB).trans (hl.out.blk H1.out);have g2:Blk A2 q 30 #[.slice (some ⟨g,0,none⟩) out.length out.length,.slice (some ⟨hh,0,none⟩) N N]:=(ha q HR).trans (hl.out.blk H2.out);have g4:Blk A2 w.heap.size 30 #[.slice S t.s.length c,.slice (some ⟨bt,ot,none⟩) t.c.length d]:=(ha w.heap.size oZ).trans (hl.out.blk H4.out);have g5:Blk A2 (w.heap.size+1) 30 #[.slice S' x.s.length c',.slice (some ⟨bx,ox,none⟩) x.c.length d']:=(ha (w.heap.size+1) oZ).trans (hl.out.blk H5.out);have g6:Blk A2 (w.heap.size+2) 30 #[.slice none 0 0,.slice none 0 0]:=(ha (w.heap.size+2) oZ).trans (hl.out.blk H6.out);have g7:Blk A2 g 3 (out.map (Za1 .i64)).toArray:=(ha _ HJ).trans (hl.out.blk H7.out);have g8:Blk A2 A.heap.size 114 #[.int .i64 zo,.int .i64 zw,.int .i64 zx]:=(HL A.heap.size oZ).trans gw.out;have g3:Later w A2:=Below.trans (show Below w.heap.size w _ from H3.out.trans hl.out) (Hd.mono oZ);have u0:=g8.cell 0;have u1:=g8.cell 1;have u2:=g8.cell 2;have u3:=g4.cell 1;have u4:=g5.cell 1;have u5:=g2.cell 1;simp at u0 u1 u2 u3 u4 u5;have u6:=g3.cell w0;have u7:=g3.cell x0;have u8:A2.cell? ⟨hh,zo,none⟩=some (.int .i64 ov):=(Zi1 (ha hh hB)).trans (hl.out.cell HU);have u9:=g1.frozen zo;clear w0 x0 gD HU ha HL Hd H1 H2 H3 H4 H5 H6 H7 gw hl;obtain ⟨gM,gS,gJ,gC,gX,gR,gN,Gg⟩:=zd8 g1 g2 g3 g4 g5 g6 g7 g8;clear g1 g2 g3 g4 g5 g6 g7 g8;have v1:(zw:Int)<(t.c.length:Int):=by omega
  have v2:(zx:Int)<(x.c.length:Int):=by omega
  have v3:(zo:Int)<(N:Int):=by omega
  gi_wp2_with fail
  have KF:=zI (show ∀Xw,Later A2 Xw->Xw.cell? ⟨A.heap.size,0,none⟩=some (.int .i64 zo)/\Xw.cell? ⟨A.heap.size,1,none⟩=some (.int .i64 zw)/\Xw.cell? ⟨A.heap.size,2,none⟩=some (.int .i64 zx)/\Xw.cell? ⟨w.heap.size,1,none⟩=some (.slice (some ⟨bt,ot,none⟩) t.c.length d)/\Xw.cell? ⟨w.heap.size+1,1,none⟩=some (.slice (some ⟨bx,ox,none⟩) x.c.length d')/\Xw.cell? ⟨bt,ot+zw,none⟩=some (.int .i64 tv)/\Xw.cell? ⟨bx,ox+zx,none⟩=some (.int .i64 xv) from λXw h=>⟨h.cell u0,h.cell u1,h.cell u2,h.cell u3,h.cell u4,h.cell u6,h.cell u7⟩);refine qaf (S:=λXw=>Xw.cell? ⟨A.heap.size,0,none⟩=some (.int .i64 zo)/\Xw.cell? ⟨A.heap.size,1,none⟩=some (.int .i64 zw)/\Xw.cell? ⟨A.heap.size,2,none⟩=some (.int .i64 zx)/\Xw.cell? ⟨w.heap.size,1,none⟩=some (.slice (some ⟨bt,ot,none⟩) t.c.length d)/\Xw.cell? ⟨w.heap.size+1,1,none⟩=some (.slice (some ⟨bx,ox,none⟩) x.c.length d')/\Xw.cell? ⟨bt,ot+zw,none⟩=some (.int .i64 tv)/\Xw.cell? ⟨bx,ox+zx,none⟩=some (.int .i64 xv)) krZ krZ (KF.out _ Lau) (λhHeld=>?_);refine tk 0 ?_;refine tk 1 ?_;refine tk 2 ?_;refine tk 3 ?_;refine tk 4 ?_;refine tk 5 ?_;refine tk 6 ?_;refine tk 7 ?_;refine tk 8 ?_;refine tk 9 ?_;refine tk 10 ?_;refine tk 11 ?_;refine rd 12 λK hK=>?_
  simp only [ga,gs,gz]
  go_simp
  go_at_call 54;(with_reducible refine (qaA tv xv _ gT gQ).mono ?_);rintro e wb ⟨rfl,rfl⟩
  try go_wp2_with fail
  refine hK.out _ _ (KF.out _ Lau) (λhHeld=>?_);clear hK K
  try simp only [ga,gs,gz,Act.put,sa,sz,ss]
  refine tk 13 ?_;clear KF;refine Zn1 krZ ?_ _;refine Zd1 ?_;refine OnlyNormal.mk ?_
  gi_wp2_with fail
  have KF:=zI (show ∀Xw,Later A2 Xw->Xw.cell? ⟨A.heap.size,0,none⟩=some (.int .i64 zo)/\Xw.cell? ⟨q,1,none⟩=some (.slice (some ⟨hh,0,none⟩) N N) from λXw h=>⟨h.cell u0,h.cell u5⟩);refine qaf (S:=λXw=>Xw.cell? ⟨A.heap.size,0,none⟩=some (.int .i64 zo)/\Xw.cell? ⟨q,1,none⟩=some (.slice (some ⟨hh,0,none⟩) N N)) krZ krZ (KF.out _ Lau) (λhHeld=>?_);refine tk 0 ?_;refine tk 1 ?_;refine tk 2 ?_;refine tk 3 ?_;refine tk 4 ?_;refine tk 5 ?_;refine tk 6 ?_;refine tk 7 ?_;refine tk 8 ?_;refine tk 10 ?_;refine rd 9 λK hK=>?_
  simp only [ga,gs,gz]
  go_simp
  refine hK.out _ _ (KF.out _ Lau) (λhHeld=>?_);clear hK K
  try simp only [ga,gs,gz,Act.put,sa,sz,ss]
  refine rd 11 λK hK=>?_
  simp only [ga,gs,gz]
  go_simp
  go_at_call 55;(with_reducible refine (qaM ov (Fx.mul tv xv) _ gO Hh).mono ?_);rintro e wb ⟨rfl,rfl⟩
  try go_wp2_with fail
  refine hK.out _ _ (KF.out _ Lau) (λhHeld=>?_);clear hK K
  try simp only [ga,gs,gz,Act.put,sa,sz,ss]
  refine tk 12 ?_;refine rd 13 λK hK=>?_
  simp only [ga,gs,gz]
  go_simp
  refine hK.out _ _ ?_ (λhHeld=>?_)
  ·(try dsimp only);(refine ⟨?_,?_⟩<;>(repeat (refine qa0 ?_ (by first|omega|(simp;done)|(simp;omega))))<;>(refine Later.cell (Lau:Later A2 _) ?_)<;>assumption)
  clear hK K
  try simp only [ga,gs,gz,Act.put,sa,sz,ss]
  clear KF;refine Zn1 krZ ?_ _;refine Zd1 ?_;refine OnlyNormal.mk ?_
  gi_wp2_with fail
  have n1:w.heap.size≠hh:=by omega
  have n2:w.heap.size+1≠hh:=by omega
  have n3:w.heap.size+2≠hh:=by omega
  have n4:q≠hh:=by omega
  have k1:=gM.out.set_ zo (.int .i64 (Fx.add ov (Fx.mul tv xv)));refine ⟨Above.setCell (p:=⟨hh,zo,none⟩) hB _,?_,gS.out.far (p:=⟨hh,zo,none⟩) n4 _,⟨gC.out.far (p:=⟨hh,zo,none⟩) n1 _,gX.out.far (p:=⟨hh,zo,none⟩) n2 _,gR.out.far (p:=⟨hh,zo,none⟩) n3 _,gN.out.far (p:=⟨hh,zo,none⟩) gF _⟩,((gJ.out.set (p:=⟨hh,zo,none⟩) soZ _).drew).drew⟩;simpa using k1.drew.drew
 case hdone=>
  rintro D W ⟨h1,h2,⟨h4,h5,h6,h7⟩,h3⟩ hD hK;have HW:=Hv.out.lt;have o0:=h2.cell 0;have o1:=h2.cell 1;have c0:=h6.cell 0;have c1:=h6.cell 1;have f0:=h6.frozen 0;have f1:=h6.frozen 1;simp at o0 o1 c0 c1;have hN:Ly.span out=(Safe.prod out).toNat:=rfl;have HG:=(h6.set_ 0 (.slice (some ⟨g,0,none⟩) out.length out.length)).set_ 1 (.slice (some ⟨hh,0,none⟩) (Safe.prod out).toNat (Safe.prod out).toNat);have d0:=HG.cell 0;have d1:=HG.cell 1;simp at d0 d1;have Hr:=Ly.convC_len Ht.out.num Hx.out.num (Safe.prod out).toNat fr.all;have hQ:=Ly.convC_in Ht.out.num Hx.out.num (Safe.prod out).toNat fr.all;have HD:=HE.out;rw [hT,hout,hN] at HD;have gi:out.length<=1048576:=by omega
  obtain ⟨l7,l8,l9⟩:=Ly.conv_lens hr hq HK.out;rw [hout,hfr] at l9;have Ge:(Safe.prod out).toNat<=1048576:=by rw [l9];have:=HF.out.out;rw [hout,hfr] at this;omega
  clear l7 l8 l9 HN hU hs Hm hN HG;have gY:=zI HD;clear HD hT;generalize Ly.convC t.c x.c fr.all (Safe.prod out).toNat=acc at *;generalize (Safe.prod out).toNat=N at *;have gq:=(Below.heap_setCell (W.setCell ⟨w.heap.size+2,0,none⟩ (.slice (some ⟨g,0,none⟩) out.length out.length)) ⟨w.heap.size+2,1,none⟩ (.slice (some ⟨hh,0,none⟩) N N) D soZ).trans ((Below.heap_setCell W ⟨w.heap.size+2,0,none⟩ (.slice (some ⟨g,0,none⟩) out.length out.length) D soZ).trans hK);obtain ⟨H1,H2,H4,H5,H6,H7,H3,HK,gE⟩:=zd9 h1 h2 h4 h5 h6 h7 h3 hK gq;have ge:=zI hQ;clear h1 h2 h4 h5 h6 h7 h3 hK gq hQ;go_wp2_with fail;refine ⟨by simp,.inl ⟨_,_,rfl,run_takeDeferred gE.out,?_⟩⟩;have m1:w.heap.size+2≠D:=by omega
  have m2:g≠w.heap.size+2:=by omega
  have m3:hh≠w.heap.size+2:=by omega
  have gK:g≠D:=by have:=Hq.out.lt;omega
  have gW:hh≠D:=by have:=Hl.out.lt;omega
  have e0:=(Zi1 (World.putObj_heap_other (o:=.deferred none) (w:=(W.setCell ⟨w.heap.size+2,0,none⟩ (.slice (some ⟨g,0,none⟩) out.length out.length)).setCell ⟨w.heap.size+2,1,none⟩ (.slice (some ⟨hh,0,none⟩) N N)) m1)).trans d0;have e1:=(Zi1 (World.putObj_heap_other (o:=.deferred none) (w:=(W.setCell ⟨w.heap.size+2,0,none⟩ (.slice (some ⟨g,0,none⟩) out.length out.length)).setCell ⟨w.heap.size+2,1,none⟩ (.slice (some ⟨hh,0,none⟩) N N)) m1)).trans d1;have b1:Blk (((W.setCell ⟨w.heap.size+2,0,none⟩ (.slice (some ⟨g,0,none⟩) out.length out.length)).setCell ⟨w.heap.size+2,1,none⟩ (.slice (some ⟨hh,0,none⟩) N N)).putObj D (.deferred none)) g 3 (out.map (Za1 .i64)).toArray:=(World.putObj_heap_other gK).trans ((H7.out.far (p:=⟨w.heap.size+2,0,none⟩) m2 _).far (p:=⟨w.heap.size+2,1,none⟩) m2 _);have b2:Blk (((W.setCell ⟨w.heap.size+2,0,none⟩ (.slice (some ⟨g,0,none⟩) out.length out.length)).setCell ⟨w.heap.size+2,1,none⟩ (.slice (some ⟨hh,0,none⟩) N N)).putObj D (.deferred none)) hh 22 (acc.map (Za1 .i64)).toArray:=(World.putObj_heap_other gW).trans ((H1.out.far (p:=⟨w.heap.size+2,0,none⟩) m3 _).far (p:=⟨w.heap.size+2,1,none⟩) m3 _);have b3:Later w (((W.setCell ⟨w.heap.size+2,0,none⟩ (.slice (some ⟨g,0,none⟩) out.length out.length)).setCell ⟨w.heap.size+2,1,none⟩ (.slice (some ⟨hh,0,none⟩) N N)).putObj D (.deferred none)):=Below.trans ((H3.out.set (p:=⟨w.heap.size+2,0,none⟩) sZ _).set (p:=⟨w.heap.size+2,1,none⟩) sZ _) (qbg _ _ oZ);simp only [Nat.add_assoc,Nat.reduceAdd];generalize ((W.setCell ⟨w.heap.size+2,0,none⟩ (.slice (some ⟨g,0,none⟩) out.length out.length)).setCell ⟨w.heap.size+2,1,none⟩ (.slice (some ⟨hh,0,none⟩) N N)).putObj D (.deferred none)=W4 at *;refine ⟨.tuple #[.agg #[.slice (some ⟨g,0,none⟩) out.length out.length,.slice (some ⟨hh,0,none⟩) N N],.int .i64 0],by simp [results,Tryz.results96,go_sem,e0,e1],?_⟩;refine GoP.ok gY.out ?_ b3;refine ⟨some ⟨g,0,none⟩,out.length,some ⟨hh,0,none⟩,N,by simp [Hr],⟨⟨b1.intsL,b2.intsL⟩,lrZ _,by omega,by simp [Hr],by omega,gi,by simp [Hr];omega,ge.out⟩,?_,?_⟩
  ·intro a e
   injection e with e
   rw [←e]
   show w.heap.size<=g
   omega
  ·intro a e
   injection e with e
   rw [←e];exact ⟨show w.heap.size<=hh by omega,b2.lt,λj=>b2.frozen j⟩
theorem qb7 {r:Ten × Int} {w w1 wf:Zp1} {v u u2:Value} {p:Nat} {T:TypeId} (hne:r.2≠0->v=Value.agg #[.slice none 0 0,.slice none 0 0]) (hok:r.2=0->TenO w1.heap.size wf v r.1) (hL:Later w wf) (hz:Blk wf p T #[.slice none 0 0,.slice none 0 0]) (hp:w.heap.size<=p) (hs:w.heap.size<=w1.heap.size):
  GoP r w (.returned (.tuple #[v,.int .i64 r.2])) ((wf.setCell ⟨p,0,none⟩ u).setCell ⟨p,1,none⟩ u2):=by
 refine ⟨?_,(hL.set (p:=⟨p,0,none⟩) hp _).set (p:=⟨p,1,none⟩) hp _⟩
 by_cases h:r.2=0
 ·exact .inr ⟨h,v,by rw [h],((hok h).base hs).box hz⟩
 ·exact .inl ⟨h,by rw [hne h]⟩
set_option maxRecDepth 20000 in
theorem op_go (o:OpD) (S P X:Option Addr) (c cp cx:Nat) (p x:List Ten) (w:Zp1) (ho:o.s.length<=1048576) (hI:Ints .i64 w S o.s) (hk0:Fx.In o.k) (hP:Tns w P p) (hX:Tns w X x) (lX:x.length<=1048576) (kX:x.length<=cx) (mX:cx<=9223372036854775807):
  Calls Tryz.prog 42 #[.agg #[.int .i64 o.kind,.int .i64 o.k,.int .i64 o.width,.int .i64 o.step,.int .i64 o.side,.int .i64 o.frm,.int .i64 o.to,.slice S o.s.length c],.slice P p.length cp,.slice X x.length cx] w (GoP (Ly.go o p x) w):=by
 have hN:Later w ((w.alloc (.cells #[.int .i64 o.kind,.int .i64 o.k,.int .i64 o.width,.int .i64 o.step,.int .i64 o.side,.int .i64 o.frm,.int .i64 o.to,.slice S o.s.length c] 26)).alloc (.cells #[.slice none 0 0,.slice none 0 0] 30)):=((Later.refl w).alloc _).alloc _;have hC:=(Blk.new w 26 #[.int .i64 o.kind,.int .i64 o.k,.int .i64 o.width,.int .i64 o.step,.int .i64 o.side,.int .i64 o.frm,.int .i64 o.to,.slice S o.s.length c]).alloc (.cells #[.slice none 0 0,.slice none 0 0] 30);have hG:=Blk.new (w.alloc (.cells #[.int .i64 o.kind,.int .i64 o.k,.int .i64 o.width,.int .i64 o.step,.int .i64 o.side,.int .i64 o.frm,.int .i64 o.to,.slice S o.s.length c] 26)) 30 #[.slice none 0 0,.slice none 0 0];rw [Zh1] at hG;obtain ⟨HI,HP,HX,hF,hB,hM⟩:=zd6 hI hP hX hN hC hG;clear hI hP hX hN hC hG;go_enter Tryz.func42,Tryz.ntmps42;go_wp2_with fail;generalize (w.alloc (.cells #[.int .i64 o.kind,.int .i64 o.k,.int .i64 o.width,.int .i64 o.step,.int .i64 o.side,.int .i64 o.frm,.int .i64 o.to,.slice S o.s.length c] 26)).alloc (.cells #[.slice none 0 0,.slice none 0 0] 30)=w1 at *;refine (qat o S c p.length x.length w1 oZ (HI.out.below hF.out (lrZ _))).mono ?_;rintro e w2 ⟨rfl,hL⟩;have hD:Later w1 w2:=hL;have hH:=hF.out.trans hD;have hz:=hD.blk hM.out;have hE:=hD.blk hB.out;clear hL hD hF hM hB
 by_cases hc:Od.counts o p.length x.length=0
 case neg=>
  have HE:=zI (Ly.go_err hc);have Hc:=zI hc;have d2:(Od.counts o p.length x.length != 0)=true:=by simpa using hc
  clear hc;generalize Od.counts o p.length x.length=ge at *;have c0':=hz.cell 0;have c1':=hz.cell 1;have f0:=hz.frozen 0;have f1:=hz.frozen 1;simp at c0' c1';obtain ⟨HH,Hz,hn⟩:=zd3 hH hz hE;clear hH hz hE;go_wp2_with fail;refine Zk1 (v:=.tuple #[.agg #[.slice none 0 0,.slice none 0 0],.int .i64 ge]) (by simp [results,Tryz.results42,go_sem,c0',c1']) rfl ?_;exact GoP.fail HE.out Hc.out ((HH.out.set (p:=⟨w.heap.size+1,0,none⟩) sZ _).set (p:=⟨w.heap.size+1,1,none⟩) sZ _)
 have hO:=Od.right_kind (Ly.counts_ok hc).1;have hw:Ly.go o p x=Ly.lay o p x:=Ly.go_lay hc;rw [hc];obtain ⟨HH,Hz,hn⟩:=zd3 hH hz hE;clear hH hz hE;have hA:o.kind<=7∨o.kind=8∨o.kind=9∨o.kind=10∨o.kind=11∨o.kind=12∨o.kind=13∨o.kind=14∨o.kind=15:=by omega
 rcases hA with hk|hk|hk|hk|hk|hk|hk|hk|hk
 ·have hh:Ly.lay o p x=Ly.point o.kind o.k x:=Ly.lay7 hk
  have hj:(Ly.point o.kind o.k x).2≠0->(Ly.point o.kind o.k x).1=Ly.none_:=Ly.point_none;have hb:=(Ly.counts_ok hc)
  unfold Od.least Od.most Od.params at hb;clear hb hc;have ha:=λ(W:Zp1) (h:Later w2 W)=>qac (point_go o.kind o.k X cx x W lX (HX.out.later (HH.out.trans h)) hk0) hj
  obtain ⟨R,hR⟩:∃R,Ly.point o.kind o.k x=R:=⟨_,rfl⟩
  rw [hR] at ha;rw [hR] at hh;have HE:=zI (hw.trans hh);clear hj;have q1:w2.cell? ⟨w.heap.size,0,none⟩=some (.int .i64 o.kind):=by rw [hn.out.cell];rfl
  have q2:w2.cell? ⟨w.heap.size,1,none⟩=some (.int .i64 o.k):=by rw [hn.out.cell];rfl
  have x0:w2.cell? ⟨w.heap.size,0,none⟩=some (.int .i64 o.kind):=by rw [hn.out.cell];rfl
  have k8:(o.kind==8)=false:=by rw [beq_eq_false_iff_ne];omega
  have k9:(o.kind==9)=false:=by rw [beq_eq_false_iff_ne];omega
  have k10:(o.kind==10)=false:=by rw [beq_eq_false_iff_ne];omega
  have k11:(o.kind==11)=false:=by rw [beq_eq_false_iff_ne];omega
  have k12:(o.kind==12)=false:=by rw [beq_eq_false_iff_ne];omega
  have k13:(o.kind==13)=false:=by rw [beq_eq_false_iff_ne];omega
  have k14:(o.kind==14)=false:=by rw [beq_eq_false_iff_ne];omega
  have k15:(o.kind==15)=false:=by rw [beq_eq_false_iff_ne];omega
  obtain ⟨he,HR⟩:=zd2 ha hR;clear ha hR hh;go_wp2_with fail;refine (he.out _ (Later.refl _)).mono ?_;rintro e wf ⟨S3,c3,C3,d3,rfl,hi,hm,ht⟩;have hg:Later w2 wf:=ht;have hd:=hg.blk Hz.out;have c0':=hd.cell 0;have c1':=hd.cell 1;have f0':=hd.frozen 0;have f1':=hd.frozen 1;simp at c0' c1';obtain ⟨hr,hq,hl,hs⟩:=zd4 hi hm hd hg;clear hi hm hd hg;have hf:=(hl.out.set_ 0 (.slice S3 R.1.s.length c3)).set_ 1 (.slice C3 R.1.c.length d3);have e0:=hf.cell 0;have e1:=hf.cell 1;simp at e0 e1;have hx:=zI hf;clear hf;go_wp2_with fail;refine Zk1 (v:=.tuple #[.agg #[.slice S3 R.1.s.length c3,.slice C3 R.1.c.length d3],.int .i64 R.2]) (by simp [results,Tryz.results42,go_sem,e0,e1]) rfl ?_;rw [HE.out];exact qb7 hr.out hq.out (HH.out.trans hs.out) hl.out sZ (by have:=HH.out.size;simp;omega)
 ·have hh:Ly.lay o p x=Ly.dense (Ly.got p 0) (Ly.got p 1) (Ly.got x 0):=Ly.lay8 hk
  have hj:(Ly.dense (Ly.got p 0) (Ly.got p 1) (Ly.got x 0)).2≠0->(Ly.dense (Ly.got p 0) (Ly.got p 1) (Ly.got x 0)).1=Ly.none_:=Ly.dense_none;have hb:=(Ly.counts_ok hc)
  unfold Od.least Od.most Od.params at hb;have hv:p.length=2:=by have:=hb.1;have h3:=hb.2.2.2;rw [if_pos this] at h3;simp [hk] at h3;omega
  have hu:x.length=1:=by have:=hb.1;have h1:=hb.2.1;have h2:=hb.2.2.1;rw [if_pos this] at h1 h2;simp [hk] at h1 h2;omega
  clear hb hc;obtain ⟨bp,po,S0,c0,C0,d0,rfl,lbp,p00,p01,hy⟩:=HP.out.at_ (j:=0) oZ;obtain ⟨bp2,po2,S1,c1,C1,d1,ep,-,p10,p11,hJ⟩:=HP.out.at_ (j:=1) oZ;injection ep with ep;injection ep with ep1 ep2;subst ep1 ep2
  obtain ⟨bx,xo,S2,c2,C2,d2,rfl,lbx,x00,x01,hp⟩:=HX.out.at_ (j:=0) oZ;have ha:=λ(W:Zp1) (h:Later w2 W)=>qac (dense_go S0 C0 S1 C1 S2 C2 c0 d0 c1 d1 c2 d2 (Ly.got p 0) (Ly.got p 1) (Ly.got x 0) W (hy.later (HH.out.trans h)) (hJ.later (HH.out.trans h)) (hp.later (HH.out.trans h))) hj
  obtain ⟨R,hR⟩:∃R,Ly.dense (Ly.got p 0) (Ly.got p 1) (Ly.got x 0)=R:=⟨_,rfl⟩
  rw [hR] at ha;rw [hR] at hh;have HE:=zI (hw.trans hh);clear hj;have q1:w2.cell? ⟨bp,po,none⟩=some (.slice S0 (Ly.got p 0).s.length c0):=HH.out.cell (by simpa using p00);have q2:w2.cell? ⟨bp,po+1,none⟩=some (.slice C0 (Ly.got p 0).c.length d0):=HH.out.cell (by simpa using p01);have q3:w2.cell? ⟨bp,po+2,none⟩=some (.slice S1 (Ly.got p 1).s.length c1):=HH.out.cell (by simpa using p10);have q4:w2.cell? ⟨bp,po+2+1,none⟩=some (.slice C1 (Ly.got p 1).c.length d1):=HH.out.cell (by simpa using p11);have q5:w2.cell? ⟨bx,xo,none⟩=some (.slice S2 (Ly.got x 0).s.length c2):=HH.out.cell (by simpa using x00);have q6:w2.cell? ⟨bx,xo+1,none⟩=some (.slice C2 (Ly.got x 0).c.length d2):=HH.out.cell (by simpa using x01);have x0:w2.cell? ⟨w.heap.size,0,none⟩=some (.int .i64 8):=by rw [hn.out.cell,←hk];rfl
  rw [hv];rw [hu];obtain ⟨he,HR⟩:=zd2 ha hR;clear ha hR hh hy hJ hp;have lp1:bp<w2.heap.size:=ltZ lbp HH.out.size;have lx1:bx<w2.heap.size:=ltZ lbx HH.out.size;go_upto_region 6 with fail;clear x0 hk;have KF:=zI (show ∀Xw,Later w2 Xw->Xw.cell? ⟨bp,po,none⟩=some (.slice S0 (Ly.got p 0).s.length c0)/\Xw.cell? ⟨bp,po+1,none⟩=some (.slice C0 (Ly.got p 0).c.length d0)/\Xw.cell? ⟨bp,po+2,none⟩=some (.slice S1 (Ly.got p 1).s.length c1)/\Xw.cell? ⟨bp,po+2+1,none⟩=some (.slice C1 (Ly.got p 1).c.length d1)/\Xw.cell? ⟨bx,xo,none⟩=some (.slice S2 (Ly.got x 0).s.length c2)/\Xw.cell? ⟨bx,xo+1,none⟩=some (.slice C2 (Ly.got x 0).c.length d2) from λXw h=>⟨h.cell q1,h.cell q2,h.cell q3,h.cell q4,h.cell q5,h.cell q6⟩);refine Zm1 ?_;refine Zl1 (S:=λXw=>Xw.cell? ⟨bp,po,none⟩=some (.slice S0 (Ly.got p 0).s.length c0)/\Xw.cell? ⟨bp,po+1,none⟩=some (.slice C0 (Ly.got p 0).c.length d0)/\Xw.cell? ⟨bp,po+2,none⟩=some (.slice S1 (Ly.got p 1).s.length c1)/\Xw.cell? ⟨bp,po+2+1,none⟩=some (.slice C1 (Ly.got p 1).c.length d1)/\Xw.cell? ⟨bx,xo,none⟩=some (.slice S2 (Ly.got x 0).s.length c2)/\Xw.cell? ⟨bx,xo+1,none⟩=some (.slice C2 (Ly.got x 0).c.length d2)) krZ (KF.out _ Lau) (λhHeld=>?_);refine tk 0 ?_;refine tk 1 ?_;refine tk 2 ?_;refine tk 3 ?_;refine tk 4 ?_;refine tk 5 ?_;refine tk 6 ?_;refine tk 7 ?_;refine tk 8 ?_;refine rd 9 λK hK=>?_
  simp only [ga,gs,gz]
  go_simp
  go_at_call 94
  (with_reducible refine (he.out _ (Lau:Later w2 _)).mono ?_)
  rintro e wf ⟨S3,c3,C3,d3,rfl,hi,hm,ht⟩;have hg:Later w2 wf:=Later.trans (Lau:Later w2 (World.drew w2)) ht;have hd:=hg.blk Hz.out;have c0':=hd.cell 0;have c1':=hd.cell 1;have f0':=hd.frozen 0;have f1':=hd.frozen 1;simp at c0' c1';obtain ⟨hr,hq,hl,hs⟩:=zd4 hi hm hd hg;clear hi hm hd hg
  try go_wp2_with fail
  refine hK.out _ _ (KF.out _ Lau) (λhHeld=>?_);clear hK K
  try simp only [ga,gs,gz,Act.put,sa,sz,ss]
  refine tk 10 ?_;refine tk 11 ?_;refine rd 12 λK hK=>?_
  simp only [ga,gs,gz]
  go_simp
  refine hK.out _ _ ?_ (λhHeld=>?_)
  ·(try dsimp only);(refine ⟨?_,?_,?_,?_,?_,?_⟩<;>(repeat (refine qa0 ?_ (by first|omega|(simp;done)|(simp;omega))))<;>(refine Later.cell (Lau:Later w2 _) ?_)<;>assumption)
  clear hK K
  try simp only [ga,gs,gz,Act.put,sa,sz,ss]
  refine tk 13 ?_;clear KF;refine Zn1 krZ ?_ _;refine Zd1 ?_;have hf:=(hl.out.set_ 0 (.slice S3 R.1.s.length c3)).set_ 1 (.slice C3 R.1.c.length d3);have e0:=hf.cell 0;have e1:=hf.cell 1;simp at e0 e1;have hx:=zI hf;clear hf;go_wp2_with fail;refine Zk1 (v:=.tuple #[.agg #[.slice S3 R.1.s.length c3,.slice C3 R.1.c.length d3],.int .i64 R.2]) (by simp [results,Tryz.results42,go_sem,e0,e1]) rfl ?_;rw [HE.out];exact qb7 hr.out hq.out (HH.out.trans hs.out) hl.out sZ (by have:=HH.out.size;simp;omega)
 ·have hh:Ly.lay o p x=Ly.add (Ly.got x 0) (Ly.got p 0):=Ly.lay9 hk
  have hj:(Ly.add (Ly.got x 0) (Ly.got p 0)).2≠0->(Ly.add (Ly.got x 0) (Ly.got p 0)).1=Ly.none_:=Ly.add_none;have hb:=(Ly.counts_ok hc)
  unfold Od.least Od.most Od.params at hb;have hv:p.length=1:=by have:=hb.1;have h3:=hb.2.2.2;rw [if_pos this] at h3;simp [hk] at h3;omega
  have hu:x.length=1:=by have:=hb.1;have h1:=hb.2.1;have h2:=hb.2.2.1;rw [if_pos this] at h1 h2;simp [hk] at h1 h2;omega
  clear hb hc;obtain ⟨bp,po,S0,c0,C0,d0,rfl,lbp,p00,p01,hy⟩:=HP.out.at_ (j:=0) oZ;obtain ⟨bx,xo,S2,c2,C2,d2,rfl,lbx,x00,x01,hp⟩:=HX.out.at_ (j:=0) oZ;have ha:=λ(W:Zp1) (h:Later w2 W)=>qac (qd0 S0 C0 S2 C2 c0 d0 c2 d2 (Ly.got p 0) (Ly.got x 0) W (hy.later (HH.out.trans h)) (hp.later (HH.out.trans h))) hj
  obtain ⟨R,hR⟩:∃R,Ly.add (Ly.got x 0) (Ly.got p 0)=R:=⟨_,rfl⟩
  rw [hR] at ha;rw [hR] at hh;have HE:=zI (hw.trans hh);clear hj;have q1:w2.cell? ⟨bp,po,none⟩=some (.slice S0 (Ly.got p 0).s.length c0):=HH.out.cell (by simpa using p00);have q2:w2.cell? ⟨bp,po+1,none⟩=some (.slice C0 (Ly.got p 0).c.length d0):=HH.out.cell (by simpa using p01);have q3:w2.cell? ⟨bx,xo,none⟩=some (.slice S2 (Ly.got x 0).s.length c2):=HH.out.cell (by simpa using x00);have q4:w2.cell? ⟨bx,xo+1,none⟩=some (.slice C2 (Ly.got x 0).c.length d2):=HH.out.cell (by simpa using x01);have x0:w2.cell? ⟨w.heap.size,0,none⟩=some (.int .i64 9):=by rw [hn.out.cell,←hk];rfl
  rw [hv];rw [hu];obtain ⟨he,HR⟩:=zd2 ha hR;clear ha hR hh hy hp;have lp1:bp<w2.heap.size:=ltZ lbp HH.out.size;have lx1:bx<w2.heap.size:=ltZ lbx HH.out.size;go_upto_region 8 with fail;clear x0 hk;have KF:=zI (show ∀Xw,Later w2 Xw->Xw.cell? ⟨bp,po,none⟩=some (.slice S0 (Ly.got p 0).s.length c0)/\Xw.cell? ⟨bp,po+1,none⟩=some (.slice C0 (Ly.got p 0).c.length d0)/\Xw.cell? ⟨bx,xo,none⟩=some (.slice S2 (Ly.got x 0).s.length c2)/\Xw.cell? ⟨bx,xo+1,none⟩=some (.slice C2 (Ly.got x 0).c.length d2) from λXw h=>⟨h.cell q1,h.cell q2,h.cell q3,h.cell q4⟩);refine Zm1 ?_;refine Zl1 (S:=λXw=>Xw.cell? ⟨bp,po,none⟩=some (.slice S0 (Ly.got p 0).s.length c0)/\Xw.cell? ⟨bp,po+1,none⟩=some (.slice C0 (Ly.got p 0).c.length d0)/\Xw.cell? ⟨bx,xo,none⟩=some (.slice S2 (Ly.got x 0).s.length c2)/\Xw.cell? ⟨bx,xo+1,none⟩=some (.slice C2 (Ly.got x 0).c.length d2)) krZ (KF.out _ Lau) (λhHeld=>?_);refine tk 0 ?_;refine tk 1 ?_;refine tk 2 ?_;refine tk 3 ?_;refine tk 4 ?_;refine tk 5 ?_;refine rd 6 λK hK=>?_
  simp only [ga,gs,gz]
  go_simp
  go_at_call 95
  (with_reducible refine (he.out _ (Lau:Later w2 _)).mono ?_)
  rintro e wf ⟨S3,c3,C3,d3,rfl,hi,hm,ht⟩;have hg:Later w2 wf:=Later.trans (Lau:Later w2 (World.drew w2)) ht;have hd:=hg.blk Hz.out;have c0':=hd.cell 0;have c1':=hd.cell 1;have f0':=hd.frozen 0;have f1':=hd.frozen 1;simp at c0' c1';obtain ⟨hr,hq,hl,hs⟩:=zd4 hi hm hd hg;clear hi hm hd hg
  try go_wp2_with fail
  refine hK.out _ _ (KF.out _ Lau) (λhHeld=>?_);clear hK K
  try simp only [ga,gs,gz,Act.put,sa,sz,ss]
  refine tk 7 ?_;refine tk 8 ?_;refine rd 9 λK hK=>?_
  simp only [ga,gs,gz]
  go_simp
  refine hK.out _ _ ?_ (λhHeld=>?_)
  ·(try dsimp only);(refine ⟨?_,?_,?_,?_⟩<;>(repeat (refine qa0 ?_ (by first|omega|(simp;done)|(simp;omega))))<;>(refine Later.cell (Lau:Later w2 _) ?_)<;>assumption)
  clear hK K
  try simp only [ga,gs,gz,Act.put,sa,sz,ss]
  refine tk 10 ?_;clear KF;refine Zn1 krZ ?_ _;refine Zd1 ?_;have hf:=(hl.out.set_ 0 (.slice S3 R.1.s.length c3)).set_ 1 (.slice C3 R.1.c.length d3);have e0:=hf.cell 0;have e1:=hf.cell 1;simp at e0 e1;have hx:=zI hf;clear hf;go_wp2_with fail;refine Zk1 (v:=.tuple #[.agg #[.slice S3 R.1.s.length c3,.slice C3 R.1.c.length d3],.int .i64 R.2]) (by simp [results,Tryz.results42,go_sem,e0,e1]) rfl ?_;rw [HE.out];exact qb7 hr.out hq.out (HH.out.trans hs.out) hl.out sZ (by have:=HH.out.size;simp;omega)
 ·have hh:Ly.lay o p x=Ly.conv (Ly.got p 0) (Ly.got x 0) o.step:=Ly.lay10 hk
  have hj:(Ly.conv (Ly.got p 0) (Ly.got x 0) o.step).2≠0->(Ly.conv (Ly.got p 0) (Ly.got x 0) o.step).1=Ly.none_:=Ly.conv_none;have hb:=(Ly.counts_ok hc)
  unfold Od.least Od.most Od.params at hb;have hv:p.length=1:=by have:=hb.1;have h3:=hb.2.2.2;rw [if_pos this] at h3;simp [hk] at h3;omega
  have hu:x.length=1:=by have:=hb.1;have h1:=hb.2.1;have h2:=hb.2.2.1;rw [if_pos this] at h1 h2;simp [hk] at h1 h2;omega
  clear hb hc;obtain ⟨bp,po,S0,c0,C0,d0,rfl,lbp,p00,p01,hy⟩:=HP.out.at_ (j:=0) oZ;obtain ⟨bx,xo,S2,c2,C2,d2,rfl,lbx,x00,x01,hp⟩:=HX.out.at_ (j:=0) oZ;have ha:=λ(W:Zp1) (h:Later w2 W)=>qac (conv_go S0 C0 S2 C2 c0 d0 c2 d2 (Ly.got p 0) (Ly.got x 0) o.step W (hy.later (HH.out.trans h)) (hp.later (HH.out.trans h))) hj
  obtain ⟨R,hR⟩:∃R,Ly.conv (Ly.got p 0) (Ly.got x 0) o.step=R:=⟨_,rfl⟩
  rw [hR] at ha;rw [hR] at hh;have HE:=zI (hw.trans hh);clear hj;have q1:w2.cell? ⟨bp,po,none⟩=some (.slice S0 (Ly.got p 0).s.length c0):=HH.out.cell (by simpa using p00);have q2:w2.cell? ⟨bp,po+1,none⟩=some (.slice C0 (Ly.got p 0).c.length d0):=HH.out.cell (by simpa using p01);have q3:w2.cell? ⟨bx,xo,none⟩=some (.slice S2 (Ly.got x 0).s.length c2):=HH.out.cell (by simpa using x00);have q4:w2.cell? ⟨bx,xo+1,none⟩=some (.slice C2 (Ly.got x 0).c.length d2):=HH.out.cell (by simpa using x01);have q5:w2.cell? ⟨w.heap.size,3,none⟩=some (.int .i64 o.step):=by rw [hn.out.cell];rfl
  have x0:w2.cell? ⟨w.heap.size,0,none⟩=some (.int .i64 10):=by rw [hn.out.cell,←hk];rfl
  rw [hv];rw [hu];obtain ⟨he,HR⟩:=zd2 ha hR;clear ha hR hh hy hp;have lp1:bp<w2.heap.size:=ltZ lbp HH.out.size;have lx1:bx<w2.heap.size:=ltZ lbx HH.out.size;go_upto_region 10 with fail;clear x0 hk;have KF:=zI (show ∀Xw,Later w2 Xw->Xw.cell? ⟨bp,po,none⟩=some (.slice S0 (Ly.got p 0).s.length c0)/\Xw.cell? ⟨bp,po+1,none⟩=some (.slice C0 (Ly.got p 0).c.length d0)/\Xw.cell? ⟨bx,xo,none⟩=some (.slice S2 (Ly.got x 0).s.length c2)/\Xw.cell? ⟨bx,xo+1,none⟩=some (.slice C2 (Ly.got x 0).c.length d2)/\Xw.cell? ⟨w.heap.size,3,none⟩=some (.int .i64 o.step) from λXw h=>⟨h.cell q1,h.cell q2,h.cell q3,h.cell q4,h.cell q5⟩);refine Zm1 ?_;refine Zl1 (S:=λXw=>Xw.cell? ⟨bp,po,none⟩=some (.slice S0 (Ly.got p 0).s.length c0)/\Xw.cell? ⟨bp,po+1,none⟩=some (.slice C0 (Ly.got p 0).c.length d0)/\Xw.cell? ⟨bx,xo,none⟩=some (.slice S2 (Ly.got x 0).s.length c2)/\Xw.cell? ⟨bx,xo+1,none⟩=some (.slice C2 (Ly.got x 0).c.length d2)/\Xw.cell? ⟨w.heap.size,3,none⟩=some (.int .i64 o.step)) krZ (KF.out _ Lau) (λhHeld=>?_);refine tk 0 ?_;refine tk 1 ?_;refine tk 2 ?_;refine tk 3 ?_;refine tk 4 ?_;refine tk 5 ?_;refine tk 6 ?_;refine tk 7 ?_;refine rd 8 λK hK=>?_
  simp only [ga,gs,gz]
  go_simp
  go_at_call 96
  (with_reducible refine (he.out _ (Lau:Later w2 _)).mono ?_)
  rintro e wf ⟨S3,c3,C3,d3,rfl,hi,hm,ht⟩;have hg:Later w2 wf:=Later.trans (Lau:Later w2 (World.drew w2)) ht;have hd:=hg.blk Hz.out;have c0':=hd.cell 0;have c1':=hd.cell 1;have f0':=hd.frozen 0;have f1':=hd.frozen 1;simp at c0' c1';obtain ⟨hr,hq,hl,hs⟩:=zd4 hi hm hd hg;clear hi hm hd hg
  try go_wp2_with fail
  refine hK.out _ _ (KF.out _ Lau) (λhHeld=>?_);clear hK K
  try simp only [ga,gs,gz,Act.put,sa,sz,ss]
  refine tk 9 ?_;refine tk 10 ?_;refine rd 11 λK hK=>?_
  simp only [ga,gs,gz]
  go_simp
  refine hK.out _ _ ?_ (λhHeld=>?_)
  ·(try dsimp only);(refine ⟨?_,?_,?_,?_,?_⟩<;>(repeat (refine qa0 ?_ (by first|omega|(simp;done)|(simp;omega))))<;>(refine Later.cell (Lau:Later w2 _) ?_)<;>assumption)
  clear hK K
  try simp only [ga,gs,gz,Act.put,sa,sz,ss]
  refine tk 12 ?_;clear KF;refine Zn1 krZ ?_ _;refine Zd1 ?_;have hf:=(hl.out.set_ 0 (.slice S3 R.1.s.length c3)).set_ 1 (.slice C3 R.1.c.length d3);have e0:=hf.cell 0;have e1:=hf.cell 1;simp at e0 e1;have hx:=zI hf;clear hf;go_wp2_with fail;refine Zk1 (v:=.tuple #[.agg #[.slice S3 R.1.s.length c3,.slice C3 R.1.c.length d3],.int .i64 R.2]) (by simp [results,Tryz.results42,go_sem,e0,e1]) rfl ?_;rw [HE.out];exact qb7 hr.out hq.out (HH.out.trans hs.out) hl.out sZ (by have:=HH.out.size;simp;omega)
 ·have hh:Ly.lay o p x=Ly.pool true (Ly.got x 0) o.width o.step:=Ly.lay11 hk
  have hj:(Ly.pool true (Ly.got x 0) o.width o.step).2≠0->(Ly.pool true (Ly.got x 0) o.width o.step).1=Ly.none_:=Ly.pool_none;have hb:=(Ly.counts_ok hc)
  unfold Od.least Od.most Od.params at hb;have hv:p.length=0:=by have:=hb.1;have h3:=hb.2.2.2;rw [if_pos this] at h3;simp [hk] at h3;omega
  have hu:x.length=1:=by have:=hb.1;have h1:=hb.2.1;have h2:=hb.2.2.1;rw [if_pos this] at h1 h2;simp [hk] at h1 h2;omega
  clear hb hc;obtain ⟨bx,xo,S2,c2,C2,d2,rfl,lbx,x00,x01,hp⟩:=HX.out.at_ (j:=0) oZ;have ha:=λ(W:Zp1) (h:Later w2 W)=>qac (qgc true 1 S2 C2 c2 d2 (Ly.got x 0) o.width o.step W (.inl ⟨rfl,rfl⟩) (hp.later (HH.out.trans h))) hj
  obtain ⟨R,hR⟩:∃R,Ly.pool true (Ly.got x 0) o.width o.step=R:=⟨_,rfl⟩
  rw [hR] at ha;rw [hR] at hh;have HE:=zI (hw.trans hh);clear hj;have q1:w2.cell? ⟨bx,xo,none⟩=some (.slice S2 (Ly.got x 0).s.length c2):=HH.out.cell (by simpa using x00);have q2:w2.cell? ⟨bx,xo+1,none⟩=some (.slice C2 (Ly.got x 0).c.length d2):=HH.out.cell (by simpa using x01);have q3:w2.cell? ⟨w.heap.size,2,none⟩=some (.int .i64 o.width):=by rw [hn.out.cell];rfl
  have q4:w2.cell? ⟨w.heap.size,3,none⟩=some (.int .i64 o.step):=by rw [hn.out.cell];rfl
  have x0:w2.cell? ⟨w.heap.size,0,none⟩=some (.int .i64 11):=by rw [hn.out.cell,←hk];rfl
  rw [hu];obtain ⟨he,HR⟩:=zd2 ha hR;clear ha hR hh hp;have lx1:bx<w2.heap.size:=ltZ lbx HH.out.size;go_upto_region 12 with fail;clear x0 hk;have KF:=zI (show ∀Xw,Later w2 Xw->Xw.cell? ⟨bx,xo,none⟩=some (.slice S2 (Ly.got x 0).s.length c2)/\Xw.cell? ⟨bx,xo+1,none⟩=some (.slice C2 (Ly.got x 0).c.length d2)/\Xw.cell? ⟨w.heap.size,2,none⟩=some (.int .i64 o.width)/\Xw.cell? ⟨w.heap.size,3,none⟩=some (.int .i64 o.step) from λXw h=>⟨h.cell q1,h.cell q2,h.cell q3,h.cell q4⟩);refine Zm1 ?_;refine Zl1 (S:=λXw=>Xw.cell? ⟨bx,xo,none⟩=some (.slice S2 (Ly.got x 0).s.length c2)/\Xw.cell? ⟨bx,xo+1,none⟩=some (.slice C2 (Ly.got x 0).c.length d2)/\Xw.cell? ⟨w.heap.size,2,none⟩=some (.int .i64 o.width)/\Xw.cell? ⟨w.heap.size,3,none⟩=some (.int .i64 o.step)) krZ (KF.out _ Lau) (λhHeld=>?_);refine tk 0 ?_;refine tk 1 ?_;refine tk 2 ?_;refine tk 3 ?_;refine tk 4 ?_;refine tk 5 ?_;refine tk 6 ?_;refine rd 7 λK hK=>?_
  simp only [ga,gs,gz]
  go_simp
  go_at_call 97
  (with_reducible refine (he.out _ (Lau:Later w2 _)).mono ?_)
  rintro e wf ⟨S3,c3,C3,d3,rfl,hi,hm,ht⟩;have hg:Later w2 wf:=Later.trans (Lau:Later w2 (World.drew w2)) ht;have hd:=hg.blk Hz.out;have c0':=hd.cell 0;have c1':=hd.cell 1;have f0':=hd.frozen 0;have f1':=hd.frozen 1;simp at c0' c1';obtain ⟨hr,hq,hl,hs⟩:=zd4 hi hm hd hg;clear hi hm hd hg
  try go_wp2_with fail
  refine hK.out _ _ (KF.out _ Lau) (λhHeld=>?_);clear hK K
  try simp only [ga,gs,gz,Act.put,sa,sz,ss]
  refine tk 8 ?_;refine tk 9 ?_;refine rd 10 λK hK=>?_
  simp only [ga,gs,gz]
  go_simp
  refine hK.out _ _ ?_ (λhHeld=>?_)
  ·(try dsimp only);(refine ⟨?_,?_,?_,?_⟩<;>(repeat (refine qa0 ?_ (by first|omega|(simp;done)|(simp;omega))))<;>(refine Later.cell (Lau:Later w2 _) ?_)<;>assumption)
  clear hK K
  try simp only [ga,gs,gz,Act.put,sa,sz,ss]
  refine tk 11 ?_;clear KF;refine Zn1 krZ ?_ _;refine Zd1 ?_;have hf:=(hl.out.set_ 0 (.slice S3 R.1.s.length c3)).set_ 1 (.slice C3 R.1.c.length d3);have e0:=hf.cell 0;have e1:=hf.cell 1;simp at e0 e1;have hx:=zI hf;clear hf;go_wp2_with fail;refine Zk1 (v:=.tuple #[.agg #[.slice S3 R.1.s.length c3,.slice C3 R.1.c.length d3],.int .i64 R.2]) (by simp [results,Tryz.results42,go_sem,e0,e1]) rfl ?_;rw [HE.out];exact qb7 hr.out hq.out (HH.out.trans hs.out) hl.out sZ (by have:=HH.out.size;simp;omega)
 ·have hh:Ly.lay o p x=Ly.pool false (Ly.got x 0) o.width o.step:=Ly.lay12 hk
  have hj:(Ly.pool false (Ly.got x 0) o.width o.step).2≠0->(Ly.pool false (Ly.got x 0) o.width o.step).1=Ly.none_:=Ly.pool_none;have hb:=(Ly.counts_ok hc)
  unfold Od.least Od.most Od.params at hb;have hv:p.length=0:=by have:=hb.1;have h3:=hb.2.2.2;rw [if_pos this] at h3;simp [hk] at h3;omega
  have hu:x.length=1:=by have:=hb.1;have h1:=hb.2.1;have h2:=hb.2.2.1;rw [if_pos this] at h1 h2;simp [hk] at h1 h2;omega
  clear hb hc;obtain ⟨bx,xo,S2,c2,C2,d2,rfl,lbx,x00,x01,hp⟩:=HX.out.at_ (j:=0) oZ;have ha:=λ(W:Zp1) (h:Later w2 W)=>qac (qgc false 2 S2 C2 c2 d2 (Ly.got x 0) o.width o.step W (.inr ⟨rfl,rfl⟩) (hp.later (HH.out.trans h))) hj
  obtain ⟨R,hR⟩:∃R,Ly.pool false (Ly.got x 0) o.width o.step=R:=⟨_,rfl⟩
  rw [hR] at ha;rw [hR] at hh;have HE:=zI (hw.trans hh);clear hj;have q1:w2.cell? ⟨bx,xo,none⟩=some (.slice S2 (Ly.got x 0).s.length c2):=HH.out.cell (by simpa using x00);have q2:w2.cell? ⟨bx,xo+1,none⟩=some (.slice C2 (Ly.got x 0).c.length d2):=HH.out.cell (by simpa using x01);have q3:w2.cell? ⟨w.heap.size,2,none⟩=some (.int .i64 o.width):=by rw [hn.out.cell];rfl
  have q4:w2.cell? ⟨w.heap.size,3,none⟩=some (.int .i64 o.step):=by rw [hn.out.cell];rfl
  have x0:w2.cell? ⟨w.heap.size,0,none⟩=some (.int .i64 12):=by rw [hn.out.cell,←hk];rfl
  rw [hu];obtain ⟨he,HR⟩:=zd2 ha hR;clear ha hR hh hp;have lx1:bx<w2.heap.size:=ltZ lbx HH.out.size;go_upto_region 14 with fail;clear x0 hk;have KF:=zI (show ∀Xw,Later w2 Xw->Xw.cell? ⟨bx,xo,none⟩=some (.slice S2 (Ly.got x 0).s.length c2)/\Xw.cell? ⟨bx,xo+1,none⟩=some (.slice C2 (Ly.got x 0).c.length d2)/\Xw.cell? ⟨w.heap.size,2,none⟩=some (.int .i64 o.width)/\Xw.cell? ⟨w.heap.size,3,none⟩=some (.int .i64 o.step) from λXw h=>⟨h.cell q1,h.cell q2,h.cell q3,h.cell q4⟩);refine Zm1 ?_;refine Zl1 (S:=λXw=>Xw.cell? ⟨bx,xo,none⟩=some (.slice S2 (Ly.got x 0).s.length c2)/\Xw.cell? ⟨bx,xo+1,none⟩=some (.slice C2 (Ly.got x 0).c.length d2)/\Xw.cell? ⟨w.heap.size,2,none⟩=some (.int .i64 o.width)/\Xw.cell? ⟨w.heap.size,3,none⟩=some (.int .i64 o.step)) krZ (KF.out _ Lau) (λhHeld=>?_);refine tk 0 ?_;refine tk 1 ?_;refine tk 2 ?_;refine tk 3 ?_;refine tk 4 ?_;refine tk 5 ?_;refine tk 6 ?_;refine rd 7 λK hK=>?_
  simp only [ga,gs,gz]
  go_simp
  go_at_call 97
  (with_reducible refine (he.out _ (Lau:Later w2 _)).mono ?_)
  rintro e wf ⟨S3,c3,C3,d3,rfl,hi,hm,ht⟩;have hg:Later w2 wf:=Later.trans (Lau:Later w2 (World.drew w2)) ht;have hd:=hg.blk Hz.out;have c0':=hd.cell 0;have c1':=hd.cell 1;have f0':=hd.frozen 0;have f1':=hd.frozen 1;simp at c0' c1';obtain ⟨hr,hq,hl,hs⟩:=zd4 hi hm hd hg;clear hi hm hd hg
  try go_wp2_with fail
  refine hK.out _ _ (KF.out _ Lau) (λhHeld=>?_);clear hK K
  try simp only [ga,gs,gz,Act.put,sa,sz,ss]
  refine tk 8 ?_;refine tk 9 ?_;refine rd 10 λK hK=>?_
  simp only [ga,gs,gz]
  go_simp
  refine hK.out _ _ ?_ (λhHeld=>?_)
  ·(try dsimp only);(refine ⟨?_,?_,?_,?_⟩<;>(repeat (refine qa0 ?_ (by first|omega|(simp;done)|(simp;omega))))<;>(refine Later.cell (Lau:Later w2 _) ?_)<;>assumption)
  clear hK K
  try simp only [ga,gs,gz,Act.put,sa,sz,ss]
  refine tk 11 ?_;clear KF;refine Zn1 krZ ?_ _;refine Zd1 ?_;have hf:=(hl.out.set_ 0 (.slice S3 R.1.s.length c3)).set_ 1 (.slice C3 R.1.c.length d3);have e0:=hf.cell 0;have e1:=hf.cell 1;simp at e0 e1;have hx:=zI hf;clear hf;go_wp2_with fail;refine Zk1 (v:=.tuple #[.agg #[.slice S3 R.1.s.length c3,.slice C3 R.1.c.length d3],.int .i64 R.2]) (by simp [results,Tryz.results42,go_sem,e0,e1]) rfl ?_;rw [HE.out];exact qb7 hr.out hq.out (HH.out.trans hs.out) hl.out sZ (by have:=HH.out.size;simp;omega)
 ·have hh:Ly.lay o p x=Ly.join o.side x:=Ly.lay13 hk
  have hj:(Ly.join o.side x).2≠0->(Ly.join o.side x).1=Ly.none_:=Ly.join_none;have hb:=(Ly.counts_ok hc)
  unfold Od.least Od.most Od.params at hb;have hv:p.length=0:=by have:=hb.1;have h3:=hb.2.2.2;rw [if_pos this] at h3;simp [hk] at h3;omega
  clear hb hc;have ha:=λ(W:Zp1) (h:Later w2 W)=>qac (qgd o.side X cx x W lX kX mX (HX.out.later (HH.out.trans h))) hj
  obtain ⟨R,hR⟩:∃R,Ly.join o.side x=R:=⟨_,rfl⟩
  rw [hR] at ha;rw [hR] at hh;have HE:=zI (hw.trans hh);clear hj;have q1:w2.cell? ⟨w.heap.size,4,none⟩=some (.int .i64 o.side):=by rw [hn.out.cell];rfl
  have x0:w2.cell? ⟨w.heap.size,0,none⟩=some (.int .i64 13):=by rw [hn.out.cell,←hk];rfl
  obtain ⟨he,HR⟩:=zd2 ha hR;clear ha hR hh;go_wp2_with fail;refine (he.out _ (Later.refl _)).mono ?_;rintro e wf ⟨S3,c3,C3,d3,rfl,hi,hm,ht⟩;have hg:Later w2 wf:=ht;have hd:=hg.blk Hz.out;have c0':=hd.cell 0;have c1':=hd.cell 1;have f0':=hd.frozen 0;have f1':=hd.frozen 1;simp at c0' c1';obtain ⟨hr,hq,hl,hs⟩:=zd4 hi hm hd hg;clear hi hm hd hg;have hf:=(hl.out.set_ 0 (.slice S3 R.1.s.length c3)).set_ 1 (.slice C3 R.1.c.length d3);have e0:=hf.cell 0;have e1:=hf.cell 1;simp at e0 e1;have hx:=zI hf;clear hf;go_wp2_with fail;refine Zk1 (v:=.tuple #[.agg #[.slice S3 R.1.s.length c3,.slice C3 R.1.c.length d3],.int .i64 R.2]) (by simp [results,Tryz.results42,go_sem,e0,e1]) rfl ?_;rw [HE.out];exact qb7 hr.out hq.out (HH.out.trans hs.out) hl.out sZ (by have:=HH.out.size;simp;omega)
 ·have hh:Ly.lay o p x=Ly.cut (Ly.got x 0) o.side o.frm o.to:=Ly.lay14 hk
  have hj:(Ly.cut (Ly.got x 0) o.side o.frm o.to).2≠0->(Ly.cut (Ly.got x 0) o.side o.frm o.to).1=Ly.none_:=Ly.cut_none;have hb:=(Ly.counts_ok hc)
  unfold Od.least Od.most Od.params at hb;have hv:p.length=0:=by have:=hb.1;have h3:=hb.2.2.2;rw [if_pos this] at h3;simp [hk] at h3;omega
  have hu:x.length=1:=by have:=hb.1;have h1:=hb.2.1;have h2:=hb.2.2.1;rw [if_pos this] at h1 h2;simp [hk] at h1 h2;omega
  clear hb hc;obtain ⟨bx,xo,S2,c2,C2,d2,rfl,lbx,x00,x01,hp⟩:=HX.out.at_ (j:=0) oZ;have ha:=λ(W:Zp1) (h:Later w2 W)=>qac (move_cut S2 C2 c2 d2 (Ly.got x 0) o.side o.frm o.to W (hp.later (HH.out.trans h))) hj
  obtain ⟨R,hR⟩:∃R,Ly.cut (Ly.got x 0) o.side o.frm o.to=R:=⟨_,rfl⟩
  rw [hR] at ha;rw [hR] at hh;have HE:=zI (hw.trans hh);clear hj;have q1:w2.cell? ⟨bx,xo,none⟩=some (.slice S2 (Ly.got x 0).s.length c2):=HH.out.cell (by simpa using x00);have q2:w2.cell? ⟨bx,xo+1,none⟩=some (.slice C2 (Ly.got x 0).c.length d2):=HH.out.cell (by simpa using x01);have q3:w2.cell? ⟨w.heap.size,4,none⟩=some (.int .i64 o.side):=by rw [hn.out.cell];rfl
  have q4:w2.cell? ⟨w.heap.size,5,none⟩=some (.int .i64 o.frm):=by rw [hn.out.cell];rfl
  have q5:w2.cell? ⟨w.heap.size,6,none⟩=some (.int .i64 o.to):=by rw [hn.out.cell];rfl
  have x0:w2.cell? ⟨w.heap.size,0,none⟩=some (.int .i64 14):=by rw [hn.out.cell,←hk];rfl
  rw [hu];obtain ⟨he,HR⟩:=zd2 ha hR;clear ha hR hh hp;have lx1:bx<w2.heap.size:=ltZ lbx HH.out.size;go_upto_region 18 with fail;clear x0 hk;have KF:=zI (show ∀Xw,Later w2 Xw->Xw.cell? ⟨bx,xo,none⟩=some (.slice S2 (Ly.got x 0).s.length c2)/\Xw.cell? ⟨bx,xo+1,none⟩=some (.slice C2 (Ly.got x 0).c.length d2)/\Xw.cell? ⟨w.heap.size,4,none⟩=some (.int .i64 o.side)/\Xw.cell? ⟨w.heap.size,5,none⟩=some (.int .i64 o.frm)/\Xw.cell? ⟨w.heap.size,6,none⟩=some (.int .i64 o.to) from λXw h=>⟨h.cell q1,h.cell q2,h.cell q3,h.cell q4,h.cell q5⟩);refine Zm1 ?_;refine Zl1 (S:=λXw=>Xw.cell? ⟨bx,xo,none⟩=some (.slice S2 (Ly.got x 0).s.length c2)/\Xw.cell? ⟨bx,xo+1,none⟩=some (.slice C2 (Ly.got x 0).c.length d2)/\Xw.cell? ⟨w.heap.size,4,none⟩=some (.int .i64 o.side)/\Xw.cell? ⟨w.heap.size,5,none⟩=some (.int .i64 o.frm)/\Xw.cell? ⟨w.heap.size,6,none⟩=some (.int .i64 o.to)) krZ (KF.out _ Lau) (λhHeld=>?_);refine tk 0 ?_;refine tk 1 ?_;refine tk 2 ?_;refine tk 3 ?_;refine tk 4 ?_;refine tk 5 ?_;refine tk 6 ?_;refine tk 7 ?_;refine tk 8 ?_;refine rd 9 λK hK=>?_
  simp only [ga,gs,gz]
  go_simp
  go_at_call 99
  (with_reducible refine (he.out _ (Lau:Later w2 _)).mono ?_)
  rintro e wf ⟨S3,c3,C3,d3,rfl,hi,hm,ht⟩;have hg:Later w2 wf:=Later.trans (Lau:Later w2 (World.drew w2)) ht;have hd:=hg.blk Hz.out;have c0':=hd.cell 0;have c1':=hd.cell 1;have f0':=hd.frozen 0;have f1':=hd.frozen 1;simp at c0' c1';obtain ⟨hr,hq,hl,hs⟩:=zd4 hi hm hd hg;clear hi hm hd hg
  try go_wp2_with fail
  refine hK.out _ _ (KF.out _ Lau) (λhHeld=>?_);clear hK K
  try simp only [ga,gs,gz,Act.put,sa,sz,ss]
  refine tk 10 ?_;refine tk 11 ?_;refine rd 12 λK hK=>?_
  simp only [ga,gs,gz]
  go_simp
  refine hK.out _ _ ?_ (λhHeld=>?_)
  ·(try dsimp only);(refine ⟨?_,?_,?_,?_,?_⟩<;>(repeat (refine qa0 ?_ (by first|omega|(simp;done)|(simp;omega))))<;>(refine Later.cell (Lau:Later w2 _) ?_)<;>assumption)
  clear hK K
  try simp only [ga,gs,gz,Act.put,sa,sz,ss]
  refine tk 13 ?_;clear KF;refine Zn1 krZ ?_ _;refine Zd1 ?_;have hf:=(hl.out.set_ 0 (.slice S3 R.1.s.length c3)).set_ 1 (.slice C3 R.1.c.length d3);have e0:=hf.cell 0;have e1:=hf.cell 1;simp at e0 e1;have hx:=zI hf;clear hf;go_wp2_with fail;refine Zk1 (v:=.tuple #[.agg #[.slice S3 R.1.s.length c3,.slice C3 R.1.c.length d3],.int .i64 R.2]) (by simp [results,Tryz.results42,go_sem,e0,e1]) rfl ?_;rw [HE.out];exact qb7 hr.out hq.out (HH.out.trans hs.out) hl.out sZ (by have:=HH.out.size;simp;omega)
 ·have hh:Ly.lay o p x=Ly.turn (Ly.got x 0) o.s:=Ly.lay15 hk
  have hj:(Ly.turn (Ly.got x 0) o.s).2≠0->(Ly.turn (Ly.got x 0) o.s).1=Ly.none_:=Ly.turn_none;have hb:=(Ly.counts_ok hc)
  unfold Od.least Od.most Od.params at hb;have hv:p.length=0:=by have:=hb.1;have h3:=hb.2.2.2;rw [if_pos this] at h3;simp [hk] at h3;omega
  have hu:x.length=1:=by have:=hb.1;have h1:=hb.2.1;have h2:=hb.2.2.1;rw [if_pos this] at h1 h2;simp [hk] at h1 h2;omega
  clear hb hc;obtain ⟨bx,xo,S2,c2,C2,d2,rfl,lbx,x00,x01,hp⟩:=HX.out.at_ (j:=0) oZ;have ha:=λ(W:Zp1) (h:Later w2 W)=>qac (qe4 S2 C2 S c2 d2 c (Ly.got x 0) o.s W (hp.later (HH.out.trans h)) (HI.out.below (HH.out.trans h) (lrZ _)) ho) hj
  obtain ⟨R,hR⟩:∃R,Ly.turn (Ly.got x 0) o.s=R:=⟨_,rfl⟩
  rw [hR] at ha;rw [hR] at hh;have HE:=zI (hw.trans hh);clear hj;have q1:w2.cell? ⟨bx,xo,none⟩=some (.slice S2 (Ly.got x 0).s.length c2):=HH.out.cell (by simpa using x00);have q2:w2.cell? ⟨bx,xo+1,none⟩=some (.slice C2 (Ly.got x 0).c.length d2):=HH.out.cell (by simpa using x01);have q3:w2.cell? ⟨w.heap.size,7,none⟩=some (.slice S o.s.length c):=by rw [hn.out.cell];rfl
  have x0:w2.cell? ⟨w.heap.size,0,none⟩=some (.int .i64 15):=by rw [hn.out.cell,←hk];rfl
  rw [hu];obtain ⟨he,HR⟩:=zd2 ha hR;clear ha hR hh hp;have lx1:bx<w2.heap.size:=ltZ lbx HH.out.size;go_upto_region 20 with fail;clear x0 hk;have KF:=zI (show ∀Xw,Later w2 Xw->Xw.cell? ⟨bx,xo,none⟩=some (.slice S2 (Ly.got x 0).s.length c2)/\Xw.cell? ⟨bx,xo+1,none⟩=some (.slice C2 (Ly.got x 0).c.length d2)/\Xw.cell? ⟨w.heap.size,7,none⟩=some (.slice S o.s.length c) from λXw h=>⟨h.cell q1,h.cell q2,h.cell q3⟩);refine Zm1 ?_;refine Zl1 (S:=λXw=>Xw.cell? ⟨bx,xo,none⟩=some (.slice S2 (Ly.got x 0).s.length c2)/\Xw.cell? ⟨bx,xo+1,none⟩=some (.slice C2 (Ly.got x 0).c.length d2)/\Xw.cell? ⟨w.heap.size,7,none⟩=some (.slice S o.s.length c)) krZ (KF.out _ Lau) (λhHeld=>?_);refine tk 0 ?_;refine tk 1 ?_;refine tk 2 ?_;refine tk 3 ?_;refine tk 4 ?_;refine rd 5 λK hK=>?_
  simp only [ga,gs,gz]
  go_simp
  go_at_call 100
  (with_reducible refine (he.out _ (Lau:Later w2 _)).mono ?_)
  rintro e wf ⟨S3,c3,C3,d3,rfl,hi,hm,ht⟩;have hg:Later w2 wf:=Later.trans (Lau:Later w2 (World.drew w2)) ht;have hd:=hg.blk Hz.out;have c0':=hd.cell 0;have c1':=hd.cell 1;have f0':=hd.frozen 0;have f1':=hd.frozen 1;simp at c0' c1';obtain ⟨hr,hq,hl,hs⟩:=zd4 hi hm hd hg;clear hi hm hd hg
  try go_wp2_with fail
  refine hK.out _ _ (KF.out _ Lau) (λhHeld=>?_);clear hK K
  try simp only [ga,gs,gz,Act.put,sa,sz,ss]
  refine tk 6 ?_;refine tk 7 ?_;refine rd 8 λK hK=>?_
  simp only [ga,gs,gz]
  go_simp
  refine hK.out _ _ ?_ (λhHeld=>?_)
  ·(try dsimp only);(refine ⟨?_,?_,?_⟩<;>(repeat (refine qa0 ?_ (by first|omega|(simp;done)|(simp;omega))))<;>(refine Later.cell (Lau:Later w2 _) ?_)<;>assumption)
  clear hK K
  try simp only [ga,gs,gz,Act.put,sa,sz,ss]
  refine tk 9 ?_;clear KF;refine Zn1 krZ ?_ _;refine Zd1 ?_;have hf:=(hl.out.set_ 0 (.slice S3 R.1.s.length c3)).set_ 1 (.slice C3 R.1.c.length d3);have e0:=hf.cell 0;have e1:=hf.cell 1;simp at e0 e1;have hx:=zI hf;clear hf;go_wp2_with fail;refine Zk1 (v:=.tuple #[.agg #[.slice S3 R.1.s.length c3,.slice C3 R.1.c.length d3],.int .i64 R.2]) (by simp [results,Tryz.results42,go_sem,e0,e1]) rfl ?_;rw [HE.out];exact qb7 hr.out hq.out (HH.out.trans hs.out) hl.out sZ (by have:=HH.out.size;simp;omega)
end Go.Proofs.YtbnnpkcfifejmaaGreat
