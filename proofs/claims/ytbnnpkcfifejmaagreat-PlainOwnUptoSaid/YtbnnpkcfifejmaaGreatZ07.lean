/- Lemmas for the statements of this seat: contracts of functions and the plain laws. -/
import Derived.Deep.AppendLies
import Derived.Test.YtbnnpkcfifejmaaGreatRows
import Derived.Test.YtbnnpkcfifejmaaGreatZ06
set_option linter.unusedVariables false
open List renaming take_succ_eq_append_getElem → Zb, replicate → Zc, drop_eq_getElem_cons → Zd, length_append → Ze, all_eq_true → Zf, take_length → Zg, mem_of_mem_take → Zh, getElem?_eq_none → Zi, flatMap_append → Zj, getElem?_toArray → Zk, getElem?_append_right → Zl, getElem?_append_left → Zm, take_append_drop → Zn, length_take → Zo, mem_of_mem_drop → Zp, length_drop → Zq, getElem?_set_self → Zr, getElem?_set_ne → Zs
open Nat renaming zero_le → Zt, succ_mul → Zu, le_trans → Zv, zero_add → Zw, add_zero → Zx, le_succ → Zy
open Bool renaming and_eq_true → Zz
open Go.Value renaming int → Za1, slice → Zb1
open Go.IntWalk renaming i64_in → Zc1
open Go.NoPanic renaming normal → Zd1
open Go.RowKit.Below renaming refl → Ze1
open Go.AllReadyH renaming cons → Zf1, nil → Zg1
open Go.World renaming size_alloc → Zh1, cell?_of_block → Zi1, block_lt_of_cell? → Zj1
open Go renaming bodyPost_ret → Zk1, wp_region_held_drew → Zl1, wp_region_noPanic → Zm1, wpAnyH_done → Zn1, wpAnyH_ready → Zo1, World → Zp1
namespace Go.Proofs.YtbnnpkcfifejmaaGreat
set_option maxHeartbeats 16000000
open Go.RowKit
open Go.ChangeShapes Go.WideShapes Go.Deep Go.RowKit
section
variable {H:Type} {enc:TypeId × Value->H} {P:Program} {W:Zp1} {base:Nat} {spare:Nat->Bool} {held:Bool}
theorem bulk_one (d:DataW H):1<=Rows.uptoBulk d:=by
 cases d with
 | lit l=>cases l<;>simp [Rows.uptoBulk]
 | nil=>simp [Rows.uptoBulk]
 | ptr d=>simp [Rows.uptoBulk]
 | slice elems spare=>simp [Rows.uptoBulk]
 | agg parts=>simp [Rows.uptoBulk]
 | iface t d=>simp [Rows.uptoBulk]
 | map entries=>simp [Rows.uptoBulk]
 | held h=>simp [Rows.uptoBulk]
theorem qec {d:DataW H} {l:List (DataW H)} (h:d∈l):Rows.uptoBulk d<=Rows.uptoBulkAll l:=by
 induction l with
 | nil=>cases h
 | cons x r ih=>
  simp only [Rows.uptoBulkAll];cases List.mem_cons.1 h with
  | inl e=>subst e;omega
  | inr e=>have:=ih e;omega
theorem bulk_len (l:List (DataW H)):l.length<=Rows.uptoBulkAll l:=by
 induction l with
 | nil=>simp [Rows.uptoBulkAll]
 | cons x r ih=>have:=bulk_one x;simp only [Rows.uptoBulkAll,List.length_cons];omega
theorem qaC {t e:TypeId} {fuel:Nat} {v:Value} {x:DataW H × List MemPlace} (ht:P.underlying t=some (.slice e)) (h:DataW.trod enc P W base spare held fuel t [v]=some x) (hz:Rows.uptoBulk x.1<=1048576):
  v=.slice none 0 0∨∃a len cap,v=.slice (some a) len cap/\len<=cap/\cap<=maxLen/\len<=1048576/\
   ∀i,i<len->∃cs' m y,W.cells? base (a.add (i*P.cellsOf e)) (P.cellsOf e)=some cs'/\DataW.trod enc P W base spare held m e cs'=some y/\Rows.uptoBulk y.1<=1048576:=by
 rcases open_slice ht h with ⟨ha,_⟩|⟨a,len,cap,m,n,D,Pl,ha,_,hl,hm,hc,hx,hi⟩
 ·simp at ha;exact .inl ha
 ·simp at ha;subst ha
  right
  have hd:len<=m:=by rw [hc];split<;>omega
  rw [hx] at hz;simp only [Rows.uptoBulk] at hz;refine ⟨a,len,cap,rfl,hl,hm,?_,λi hb=>?_⟩
  ·have:=bulk_len ((List.range len).map D)
   simp at this;omega
  ·obtain ⟨cs',h1,h2⟩:=hi i oZ
   refine ⟨cs',n,_,h1,h2,?_⟩;have:=qec (d:=D i) (l:=(List.range len).map D) (List.mem_map.2 ⟨i,by simpa using hb,rfl⟩)
   show Rows.uptoBulk (D i)<=_
   omega
end
theorem int_one':Tryz.prog.cellsOf 3=1:=by kernel_rfl
theorem shp_one:Tryz.prog.cellsOf 24=1:=by kernel_rfl
theorem qfv:Tryz.prog.cellsOf 127=10:=by kernel_rfl
theorem qbj {H:Type} {enc:TypeId × Value->H} {W:Zp1} {base:Nat} {spare:Nat->Bool} {held:Bool} {t:TypeId} {fuel:Nat} {v:Value} {x:DataW H × List MemPlace} (ht:Tryz.prog.underlying t=some (.slice 3))
  (h:DataW.trod enc Tryz.prog W base spare held fuel t [v]=some x) (hz:Rows.uptoBulk x.1<=1048576):
  ∃A c zs,v=.slice A zs.length c/\Ints .i64 W A zs/\zs.length<=c/\c<=9223372036854775807/\zs.length<=1048576/\∀z∈zs,-9223372036854775808<=z/\z<=9223372036854775807:=by
 obtain ⟨A,c,zs,rfl,hl,hc,hI,hw⟩:=qdZ ht Tryz.underlying3 int_one' h;refine ⟨A,c,zs,rfl,hI,hc,?_,?_,λz hz=>qdg (hw z hz)⟩
 ·rcases qaC ht h hz with e|⟨a,len,cap,e,_,hm,_⟩
  ·injection e with _ _ e;omega
  ·injection e with _ _ e;unfold maxLen at hm;omega
 ·rcases qaC ht h hz with e|⟨a,len,cap,e,_,_,hb,_⟩
  ·injection e with _ e _;rw [e];exact Zt _
  ·have e2:zs.length=len:=by simp at e;exact e.2.1
   rw [e2];exact hb
theorem one_list {l:List Value} (h:l.length=1):∃v,l=[v]:=by
 match l,h with
 | [v],_=>exact ⟨v,rfl⟩
theorem qbL {α:Type} [Inhabited α] {n:Nat} {Q:Nat->α->Prop} (h:∀i,i<n->∃a,Q i a):∃l:List α,l.length=n/\∀i (hi:i<l.length),Q i l[i]:=by
 obtain ⟨f,hf⟩:=@choose_lt α _ _ _ h;exact ⟨(List.range n).map f,by simp,λi hi=>by simp at hi;simpa using hf i hi⟩
theorem qdA {W:Zp1} {a:Addr} {v:Value} (h:W.cell? a=some v):∃b off,a=⟨b,off,none⟩:=by
 obtain ⟨b,off,spot⟩:=a;have hs:spot=none:=by simpa using World.cell?_spot h
 subst hs;exact ⟨b,off,rfl⟩
theorem qgF {H:Type} {enc:TypeId × Value->H} {W:Zp1} {base:Nat} {spare:Nat->Bool} {held:Bool} {fuel:Nat} {v:Value} {x:DataW H × List MemPlace}
  (h:DataW.trod enc Tryz.prog W base spare held fuel 94 [v]=some x) (hz:Rows.uptoBulk x.1<=1048576):
  ∃A c ss,v=.slice A ss.length c/\Shps W A ss/\ss.length<=c/\c<=9223372036854775807/\ss.length<=1048576/\∀s∈ss,s.length<=1048576/\∀z∈s,-9223372036854775808<=z/\z<=9223372036854775807:=by
 rcases qaC Tryz.underlying94 h hz with rfl|⟨a,len,cap,rfl,hl,hm,hb,hi⟩
 ·exact ⟨none,0,[],rfl,Shps.nil,by simp,by omega,by simp,by simp⟩
 ·rw [shp_one] at hi
  have key:∀i,i<len->∃q:(List Int) × (Option Addr) × Nat,W.cell? (a.add i)=some (.slice q.2.1 q.1.length q.2.2)/\Ints .i64 W q.2.1 q.1/\q.1.length<=q.2.2/\q.2.2<=9223372036854775807/\q.1.length<=1048576/\∀z∈q.1,-9223372036854775808<=z/\z<=9223372036854775807:=λi he=>by
   obtain ⟨cs',m,y,hc,ht,hw⟩:=hi i he;obtain ⟨_,ha,hf⟩:=World.cells?_some hc;obtain ⟨v,rfl⟩:=one_list ha;obtain ⟨A,c,zs,rfl,h1,h2⟩:=qbj Tryz.underlying24 ht hw;refine ⟨(zs,A,c),?_,h1,h2⟩;have:=hf 0 oZ;rw [Nat.mul_one] at this;simpa [Addr.add] using this
  obtain ⟨L,hL,hq⟩:=qbL key;refine ⟨some a,cap,L.map (·.1),by simp [hL],λj hj=>?_,by simpa [hL] using hl,by unfold maxLen at hm;omega,by simp [hL];exact hb,λs hs=>?_⟩
  ·rw [List.length_map] at hj
   obtain ⟨h1,h2,h3,h4,_⟩:=hq j hj;obtain ⟨h0,_⟩:=hq 0 oZ;obtain ⟨b,off,rfl⟩:=qdA (show W.cell? a=_ by simpa [Addr.add] using h0);rw [qc6] at h1;rw [List.getElem_map];exact ⟨b,off,_,_,rfl,Zj1 _ _ h1,h1,h2,h3,h4⟩
  ·obtain ⟨q,hd,rfl⟩:=List.mem_map.1 hs
   obtain ⟨i,hi,rfl⟩:=List.getElem_of_mem hd;exact (hq i hi).2.2.2.2
def OpD.inR (o:OpD):Prop:=o.wide/\∀z∈o.s,-9223372036854775808<=z/\z<=9223372036854775807
def NodeD.fits (v:NodeD):Prop:=v.op.wide/\v.op.s.length<=1048576/\v.ins.length<=1048576/\v.p.length<=1048576/\(∀s∈v.p,s.length<=1048576)/\
 (∀z∈v.op.s,-9223372036854775808<=z/\z<=9223372036854775807)/\(∀z∈v.ins,-9223372036854775808<=z/\z<=9223372036854775807)/\∀s∈v.p,∀z∈s,-9223372036854775808<=z/\z<=9223372036854775807
def NetD.fits (n:NetD):Prop:=n.inn.length<=1048576/\n.nodes.length<=1048576/\(∀z∈n.inn,-9223372036854775808<=z/\z<=9223372036854775807)/\∀v∈n.nodes,v.fits
theorem qfw:Tryz.prog.underlying 127=some (.struct (Tryz.prog.fieldsOf 127)):=by kernel_rfl
theorem qfx:(Tryz.prog.fieldsOf 127).size=3:=by kernel_rfl
theorem node_f0:((Tryz.prog.fieldsOf 127)[0]?).map (λf=>(f.type,f.offset,Tryz.prog.cellsOf f.type))=some (26,0,8):=by kernel_rfl
theorem node_f1:((Tryz.prog.fieldsOf 127)[1]?).map (λf=>(f.type,f.offset,Tryz.prog.cellsOf f.type))=some (23,8,1):=by kernel_rfl
theorem node_f2:((Tryz.prog.fieldsOf 127)[2]?).map (λf=>(f.type,f.offset,Tryz.prog.cellsOf f.type))=some (94,9,1):=by kernel_rfl
theorem op_under:Tryz.prog.underlying 26=some (.struct (Tryz.prog.fieldsOf 26)):=by kernel_rfl
theorem op_eight:(Tryz.prog.fieldsOf 26).size=8:=by kernel_rfl
theorem op_f0:((Tryz.prog.fieldsOf 26)[0]?).map (λf=>(f.type,f.offset,Tryz.prog.cellsOf f.type))=some (3,0,1):=by kernel_rfl
theorem op_f1:((Tryz.prog.fieldsOf 26)[1]?).map (λf=>(f.type,f.offset,Tryz.prog.cellsOf f.type))=some (22,1,1):=by kernel_rfl
theorem op_f2:((Tryz.prog.fieldsOf 26)[2]?).map (λf=>(f.type,f.offset,Tryz.prog.cellsOf f.type))=some (3,2,1):=by kernel_rfl
theorem op_f3:((Tryz.prog.fieldsOf 26)[3]?).map (λf=>(f.type,f.offset,Tryz.prog.cellsOf f.type))=some (3,3,1):=by kernel_rfl
theorem op_f4:((Tryz.prog.fieldsOf 26)[4]?).map (λf=>(f.type,f.offset,Tryz.prog.cellsOf f.type))=some (3,4,1):=by kernel_rfl
theorem op_f5:((Tryz.prog.fieldsOf 26)[5]?).map (λf=>(f.type,f.offset,Tryz.prog.cellsOf f.type))=some (3,5,1):=by kernel_rfl
theorem op_f6:((Tryz.prog.fieldsOf 26)[6]?).map (λf=>(f.type,f.offset,Tryz.prog.cellsOf f.type))=some (3,6,1):=by kernel_rfl
theorem op_f7:((Tryz.prog.fieldsOf 26)[7]?).map (λf=>(f.type,f.offset,Tryz.prog.cellsOf f.type))=some (24,7,1):=by kernel_rfl
theorem list3 {α:Type} {l:List α} (h:l.length=3):∃a b c,l=[a,b,c]:=by
 match l,h with
 | [a,b,c],_=>exact ⟨a,b,c,rfl⟩
theorem list8 {α:Type} {l:List α} (h:l.length=8):∃a b c d e f g i,l=[a,b,c,d,e,f,g,i]:=by
 match l,h with
 | [a,b,c,d,e,f,g,i],_=>exact ⟨a,b,c,d,e,f,g,i,rfl⟩
theorem list10 {α:Type} {l:List α} (h:l.length=10):∃a b c d e f g i j k,l=[a,b,c,d,e,f,g,i,j,k]:=by
 match l,h with
 | [a,b,c,d,e,f,g,i,j,k],_=>exact ⟨a,b,c,d,e,f,g,i,j,k,rfl⟩
set_option maxRecDepth 100000 in
theorem op_open {H:Type} {enc:TypeId × Value->H} {W:Zp1} {base:Nat} {spare:Nat->Bool} {held:Bool} {fuel:Nat} {v0 v1 v2 v3 v4 v5 v6 v7:Value} {x:DataW H × List MemPlace}
  (h:DataW.trod enc Tryz.prog W base spare held fuel 26 [v0,v1,v2,v3,v4,v5,v6,v7]=some x) (hz:Rows.uptoBulk x.1<=1048576):
  ∃(o:OpD) (S:Option Addr) (c:Nat),v0=.int .i64 o.kind/\v1=.int .i64 o.k/\v2=.int .i64 o.width/\v3=.int .i64 o.step/\v4=.int .i64 o.side/\v5=.int .i64 o.frm/\v6=.int .i64 o.to/\v7=.slice S o.s.length c/\
   Ints .i64 W S o.s/\o.s.length<=c/\c<=9223372036854775807/\o.s.length<=1048576/\o.wide/\∀z∈o.s,-9223372036854775808<=z/\z<=9223372036854775807:=by
 obtain ⟨ys,n,_,hx,_,ha,hg⟩:=DataW.trod_struct op_under h;rw [op_eight] at ha;obtain ⟨y0,y1,y2,y3,y4,y5,y6,y7,rfl⟩:=list8 ha;rw [hx] at hz;obtain ⟨f0,e0,t0⟩:=Option.map_eq_some_iff.1 op_f0;simp only [Prod.mk.injEq] at t0;have h0:=hg 0 f0 e0;rw [t0.2.2,t0.2.1,t0.1] at h0;simp at h0;obtain ⟨f1,e1,t1⟩:=Option.map_eq_some_iff.1 op_f1;simp only [Prod.mk.injEq] at t1;have h1:=hg 1 f1 e1;rw [t1.2.2,t1.2.1,t1.1] at h1;simp at h1;obtain ⟨f2,e2,t2⟩:=Option.map_eq_some_iff.1 op_f2;simp only [Prod.mk.injEq] at t2;have h2:=hg 2 f2 e2;rw [t2.2.2,t2.2.1,t2.1] at h2;simp at h2;obtain ⟨f3,e3,t3⟩:=Option.map_eq_some_iff.1 op_f3;simp only [Prod.mk.injEq] at t3;have h3:=hg 3 f3 e3;rw [t3.2.2,t3.2.1,t3.1] at h3;simp at h3;obtain ⟨f4,e4,t4⟩:=Option.map_eq_some_iff.1 op_f4;simp only [Prod.mk.injEq] at t4;have h4:=hg 4 f4 e4;rw [t4.2.2,t4.2.1,t4.1] at h4;simp at h4;obtain ⟨f5,e5,t5⟩:=Option.map_eq_some_iff.1 op_f5;simp only [Prod.mk.injEq] at t5;have h5:=hg 5 f5 e5;rw [t5.2.2,t5.2.1,t5.1] at h5;simp at h5;obtain ⟨f6,e6,t6⟩:=Option.map_eq_some_iff.1 op_f6;simp only [Prod.mk.injEq] at t6;have h6:=hg 6 f6 e6;rw [t6.2.2,t6.2.1,t6.1] at h6;simp at h6;obtain ⟨f7,e7,t7⟩:=Option.map_eq_some_iff.1 op_f7;simp only [Prod.mk.injEq] at t7;have h7:=hg 7 f7 e7;rw [t7.2.2,t7.2.1,t7.1] at h7;simp at h7;have hb:Rows.uptoBulk y7.1<=1048576:=by simp [Rows.uptoBulk,Rows.uptoBulkAll] at hz;omega
 obtain ⟨x0,q0,_,w0⟩:=DataW.trod_int Tryz.underlying3 h0;simp at q0;subst q0;obtain ⟨x1,q1,_,w1⟩:=DataW.trod_int Tryz.underlying22 h1;simp at q1;subst q1;obtain ⟨x2,q2,_,w2⟩:=DataW.trod_int Tryz.underlying3 h2;simp at q2;subst q2;obtain ⟨x3,q3,_,w3⟩:=DataW.trod_int Tryz.underlying3 h3;simp at q3;subst q3;obtain ⟨x4,q4,_,w4⟩:=DataW.trod_int Tryz.underlying3 h4;simp at q4;subst q4;obtain ⟨x5,q5,_,w5⟩:=DataW.trod_int Tryz.underlying3 h5;simp at q5;subst q5;obtain ⟨x6,q6,_,w6⟩:=DataW.trod_int Tryz.underlying3 h6;simp at q6;subst q6;obtain ⟨S,c,zs,rfl,hI,h1,h2,h3,h4⟩:=qbj Tryz.underlying24 h7 hb;refine ⟨⟨x0,x1,x2,x3,x4,x5,x6,zs⟩,S,c,rfl,rfl,rfl,rfl,rfl,rfl,rfl,rfl,hI,h1,h2,h3,λz hz=>?_,h4⟩;simp at hz;rcases hz with rfl|rfl|rfl|rfl|rfl|rfl|rfl
 ·exact qdg w0
 ·exact qdg w1
 ·exact qdg w2
 ·exact qdg w3
 ·exact qdg w4
 ·exact qdg w5
 ·exact qdg w6
structure NodeQ where
 v:NodeD
 S:Option Addr
 c:Nat
 I:Option Addr
 d:Nat
 Q:Option Addr
 q:Nat
instance:Inhabited NodeQ:=⟨⟨Nt.none_,none,0,none,0,none,0⟩⟩
def NodeQ.cells (x:NodeQ):List Value:=[.int .i64 x.v.op.kind,.int .i64 x.v.op.k,.int .i64 x.v.op.width,.int .i64 x.v.op.step,.int .i64 x.v.op.side,.int .i64 x.v.op.frm,.int .i64 x.v.op.to,.slice x.S x.v.op.s.length x.c,.slice x.I x.v.ins.length x.d,.slice x.Q x.v.p.length x.q]
def NodeQ.R (x:NodeQ) (W:Zp1):Prop:=(Ints .i64 W x.S x.v.op.s/\x.v.op.s.length<=x.c/\x.c<=9223372036854775807)/\(Ints .i64 W x.I x.v.ins/\x.v.ins.length<=x.d/\x.d<=9223372036854775807)/\(Shps W x.Q x.v.p/\x.v.p.length<=x.q/\x.q<=9223372036854775807)
set_option maxRecDepth 100000 in
theorem qgG {H:Type} {enc:TypeId × Value->H} {W:Zp1} {base:Nat} {spare:Nat->Bool} {held:Bool} {fuel:Nat} {cs:List Value} {x:DataW H × List MemPlace} (hcs:cs.length=10)
  (h:DataW.trod enc Tryz.prog W base spare held fuel 127 cs=some x) (hz:Rows.uptoBulk x.1<=1048576):
  ∃q:NodeQ,cs=q.cells/\q.R W/\q.v.fits:=by
 obtain ⟨v0,v1,v2,v3,v4,v5,v6,v7,v8,v9,rfl⟩:=list10 hcs;obtain ⟨ys,n,_,hx,_,ha,hg⟩:=DataW.trod_struct qfw h;rw [qfx] at ha;obtain ⟨y0,y1,y2,rfl⟩:=list3 ha;rw [hx] at hz;obtain ⟨f0,e0,t0⟩:=Option.map_eq_some_iff.1 node_f0;simp only [Prod.mk.injEq] at t0;have h0:=hg 0 f0 e0;rw [t0.2.2,t0.2.1,t0.1] at h0;simp at h0;obtain ⟨f1,e1,t1⟩:=Option.map_eq_some_iff.1 node_f1;simp only [Prod.mk.injEq] at t1;have h1:=hg 1 f1 e1;rw [t1.2.2,t1.2.1,t1.1] at h1;simp at h1;obtain ⟨f2,e2,t2⟩:=Option.map_eq_some_iff.1 node_f2;simp only [Prod.mk.injEq] at t2;have h2:=hg 2 f2 e2;rw [t2.2.2,t2.2.1,t2.1] at h2;simp at h2;have hc:Rows.uptoBulk y0.1<=1048576:=by simp [Rows.uptoBulk,Rows.uptoBulkAll] at hz;omega
 have hb:Rows.uptoBulk y1.1<=1048576:=by simp [Rows.uptoBulk,Rows.uptoBulkAll] at hz;omega
 have hd:Rows.uptoBulk y2.1<=1048576:=by simp [Rows.uptoBulk,Rows.uptoBulkAll] at hz;omega
 obtain ⟨o,S,c,rfl,rfl,rfl,rfl,rfl,rfl,rfl,rfl,a1,a2,a3,a4,a5,a6⟩:=op_open h0 hc;obtain ⟨I,d,is,rfl,b1,b2,b3,b4,b5⟩:=qbj Tryz.underlying23 h1 hb;obtain ⟨Q,q,ps,rfl,c1,c2,c3,c4,c5⟩:=qgF h2 hd;exact ⟨⟨⟨o,is,ps⟩,S,c,I,d,Q,q⟩,rfl,⟨⟨a1,a2,a3⟩,⟨b1,b2,b3⟩,c1,c2,c3⟩,a5,a4,b4,c4,λs hs=>(c5 s hs).1,a6,b5,λs hs=>(c5 s hs).2⟩
theorem qfy {H:Type} {enc:TypeId × Value->H} {W:Zp1} {base:Nat} {spare:Nat->Bool} {held:Bool} {fuel:Nat} {v:Value} {x:DataW H × List MemPlace}
  (h:DataW.trod enc Tryz.prog W base spare held fuel 57 [v]=some x) (hz:Rows.uptoBulk x.1<=1048576):
  ∃A c ns,v=.slice A ns.length c/\Nodes W A ns/\ns.length<=c/\c<=9223372036854775807/\ns.length<=1048576/\∀v∈ns,v.fits:=by
 rcases qaC Tryz.underlying57 h hz with rfl|⟨a,len,cap,rfl,hl,hm,hb,hi⟩
 ·exact ⟨none,0,[],rfl,λj hj=>absurd hj sZ,by simp,by omega,by simp,by simp⟩
 ·rw [qfv] at hi
  have key:∀i,i<len->∃q:NodeQ,(∀j,j<10->W.cell? ((a.add (i*10)).add j)=q.cells[j]?)/\q.R W/\q.v.fits:=λi hf=>by
   obtain ⟨cs',m,y,hc,ht,hw⟩:=hi i hf;obtain ⟨_,ha,hg⟩:=World.cells?_some hc;obtain ⟨q,rfl,h1,h2⟩:=qgG ha ht hw;exact ⟨q,hg,h1,h2⟩
  obtain ⟨L,hL,hq⟩:=qbL key;refine ⟨some a,cap,L.map (·.v),by simp [hL],λj hj=>?_,by simpa [hL] using hl,by unfold maxLen at hm;omega,by simp [hL];exact hb,λs hs=>?_⟩
  ·rw [List.length_map] at hj
   obtain ⟨h1,⟨r1,r2,r3⟩,_⟩:=hq j hj;obtain ⟨h0,_⟩:=hq 0 oZ;have hd:=h0 0 oZ;obtain ⟨b,off,rfl⟩:=qdA (v:=.int .i64 L[0].v.op.kind) (show W.cell? a=_ by simpa [Addr.add,NodeQ.cells] using hd);simp only [qc6] at h1;rw [List.getElem_map];refine ⟨b,off,_,_,_,_,_,_,rfl,Zj1 _ _ (h1 0 oZ),h1 0 oZ,h1 1 oZ,h1 2 oZ,h1 3 oZ,h1 4 oZ,h1 5 oZ,h1 6 oZ,h1 7 oZ,h1 8 oZ,h1 9 oZ,r1,r2,r3⟩
  ·obtain ⟨q,he,rfl⟩:=List.mem_map.1 hs
   obtain ⟨i,hi,rfl⟩:=List.getElem_of_mem he;exact (hq i hi).2.2
theorem qgH:Tryz.prog.underlying 59=some (.struct (Tryz.prog.fieldsOf 59)):=by kernel_rfl
theorem net_two:(Tryz.prog.fieldsOf 59).size=2:=by kernel_rfl
theorem net_f0:((Tryz.prog.fieldsOf 59)[0]?).map (λf=>(f.type,f.offset,Tryz.prog.cellsOf f.type))=some (24,0,1):=by kernel_rfl
theorem net_f1:((Tryz.prog.fieldsOf 59)[1]?).map (λf=>(f.type,f.offset,Tryz.prog.cellsOf f.type))=some (57,1,1):=by kernel_rfl
theorem list2 {α:Type} {l:List α} (h:l.length=2):∃a b,l=[a,b]:=by
 match l,h with
 | [a,b],_=>exact ⟨a,b,rfl⟩
theorem NetD.fits.ok {n:NetD} (h:n.fits):n.ok:=
 ⟨h.1,h.2.1,λv hv=>by
  obtain ⟨h1,h2,h3,h4,h5,h6,h7,h8⟩:=h.2.2.2 v hv;exact ⟨h1,h2,h3,h4,h5,h7⟩⟩
theorem qed {w:Zp1} {B B' e s n:Nat} {v:Value} {xs:List Value} (h:w.ownsRow B e s v n xs) (hB:B'<=B):w.ownsRow B' e s v n xs:=by
 refine ⟨h.1,?_⟩;rcases h.2 with h|⟨g,cap,cur,h1,h2,h3⟩
 ·exact .inl h
 ·exact .inr ⟨g,cap,cur,h1,Zv hB h2,h3⟩
abbrev RQ:=NodeQ × List Value
def RQ.cells (x:RQ):List Value:=x.1.cells
def RQ.Phi (B:Nat) (x:RQ) (W:Zp1):Prop:=W.ownsRow B 23 1 (.slice x.1.Q x.1.v.p.length x.1.q) x.1.v.p.length x.2
def RQ.Good (w:Zp1) (x:RQ):Prop:=(Ints .i64 w x.1.S x.1.v.op.s/\x.1.v.op.s.length<=x.1.c/\x.1.c<=9223372036854775807)/\(Ints .i64 w x.1.I x.1.v.ins/\x.1.v.ins.length<=x.1.d/\x.1.d<=9223372036854775807)/\RowOf w x.2 x.1.v.p
def RefRow (t:TypeId) (B C:Nat) (w W:Zp1) (v:Value) (ns:List NodeD):Prop:=
 ∃L:List RQ,L.map (λx=>x.1.v)=ns/\OwnRow B C W t 10 v RQ.cells (RQ.Phi B) L/\∀x∈L,RQ.Good w x
theorem RQ.len (x:RQ):(RQ.cells x).length=10:=rfl
theorem RefRow.nil (t:TypeId) (B:Nat) (w W:Zp1):RefRow t B W.heap.size w W (.slice none 0 0) []:=⟨[],rfl,OwnRow.nil _ _ _ _ _ _,by simp⟩
theorem RefRow.form {t:TypeId} {B C:Nat} {w W:Zp1} {v:Value} {ns:List NodeD} (h:RefRow t B C w W v ns):∃A c,v=.slice A ns.length c/\ns.length<=c/\(∀b,v.ownBlock=some b->B<=b/\b<C):=by
 obtain ⟨L,hL,hO,_⟩:=h;obtain ⟨A,c,e,hc⟩:=hO.form;have hl:L.length=ns.length:=by rw [←hL];simp
 rw [hl] at e hc;exact ⟨A,c,e,hc,λb hb=>⟨(hO.1.lt b hb).1,hO.2.1 b hb⟩⟩
theorem RefRow.fr {t:TypeId} {B C:Nat} {w W W':Zp1} {v:Value} {ns:List NodeD} {S:Nat->Prop} (h:RefRow t B C w W v ns) (hf:Fr S W W') (hS:∀b,B<=b->b<C->¬S b):RefRow t B C w W' v ns:=by
 obtain ⟨L,hL,hO,hG⟩:=h;exact ⟨L,hL,hO.fr hf hS,hG⟩
theorem RefRow.nodes {t:TypeId} {B C:Nat} {w W:Zp1} {v:Value} {ns:List NodeD} (h:RefRow t B C w W v ns) (hb:Below w.heap.size w W):
  ∃A c,v=.slice A ns.length c/\ns.length<=c/\c<=9223372036854775807/\Nodes W A ns:=by
 obtain ⟨L,rfl,hO,hG⟩:=h;rw [List.length_map];rcases hO.1.2 with ⟨rfl,h0⟩|⟨g,cap,cur,rfl,_,hh,hd,hf,_⟩
 ·have:L=[]:=List.eq_nil_of_length_eq_zero h0
  subst this;exact ⟨none,0,rfl,by simp,by omega,λj hj=>absurd hj sZ⟩
 ·refine ⟨_,cap,rfl,hd,by unfold maxLen at hf;omega,λj hj=>?_⟩
  rw [List.length_map] at hj;obtain ⟨b,cap',e,_,_,_,hc⟩:=hO.at_ (λx=>RQ.len x) hj;injection e with e _ _
  injection e with e
  injection e with e
  subst e;obtain ⟨⟨s1,s2,s3⟩,⟨i1,i2,i3⟩,he⟩:=hG L[j] (gmZ hj);have ha:=hO.now L[j] (gmZ hj);obtain ⟨AQ,cQ,eQ,_,hQ,q1,q2⟩:=he.shps ha hb;injection eQ with e1 _ e2
  rw [List.getElem_map];refine ⟨g,0,L[j].1.S,L[j].1.c,L[j].1.I,L[j].1.d,L[j].1.Q,L[j].1.q,rfl,lt_of_block hh,?_,?_,?_,?_,?_,?_,?_,?_,?_,?_,⟨s1.below hb (lrZ _),s2,s3⟩,⟨i1.below hb (lrZ _),i2,i3⟩,by rw [e1];exact hQ,by rw [e2];exact q1,by rw [e2];exact q2⟩
  ·have:=hc 0 oZ;first|(simp;done)|simpa [RQ.cells,NodeQ.cells] using this
  ·have:=hc 1 oZ;first|(simp;done)|simpa [RQ.cells,NodeQ.cells] using this
  ·have:=hc 2 oZ;first|(simp;done)|simpa [RQ.cells,NodeQ.cells] using this
  ·have:=hc 3 oZ;first|(simp;done)|simpa [RQ.cells,NodeQ.cells] using this
  ·have:=hc 4 oZ;first|(simp;done)|simpa [RQ.cells,NodeQ.cells] using this
  ·have:=hc 5 oZ;first|(simp;done)|simpa [RQ.cells,NodeQ.cells] using this
  ·have:=hc 6 oZ;first|(simp;done)|simpa [RQ.cells,NodeQ.cells] using this
  ·have:=hc 7 oZ;first|(simp;done)|simpa [RQ.cells,NodeQ.cells] using this
  ·have:=hc 8 oZ;first|(simp;done)|simpa [RQ.cells,NodeQ.cells] using this
  ·have:=hc 9 oZ;first|(simp;done)|simpa [RQ.cells,NodeQ.cells] using this
theorem qeG {t:TypeId} {B C:Nat} {w W W':Zp1} {v v':Value} {L:List RQ} {x:NodeQ} {vs:List Value} {C2:Nat} (hO:OwnRow B C W t 10 v RQ.cells (RQ.Phi B) L) (hGL:∀x∈L,RQ.Good w x) (hC:C<=C2) (hB:B<=C2)
  (hown:W'.ownsRow B t 10 v' (L.length+1) (L.flatMap RQ.cells++x.cells)) (hg:W.grownBy W' v.ownBlock) (hat:v'.ownBlock=v.ownBlock∨v'.ownBlock=some W.heap.size)
  (hx:W.ownsRow C2 23 1 (.slice x.Q x.v.p.length x.q) x.v.p.length vs) (hG:RQ.Good w (x,vs)):RefRow t B W'.heap.size w W' v' (L.map (λx=>x.1.v)++[x.v]):=by
 refine ⟨L++[(x,vs)],by simp,?_,λy hy=>?_⟩
 ·refine hO.push (x:=((x,vs):RQ)) hown hg hat (F:=λb=>(Zb1 x.Q x.v.p.length x.q).ownBlock=some b) (λW2 h2=>?_) (λb hb=>?_)
  ·exact qah (qed hx hB) h2
  ·obtain ⟨h1,h2⟩:=hx.lt b hb
   exact ⟨by omega,h2,λe=>by have:=hO.2.1 b e.symm;omega⟩
 ·rcases List.mem_append.1 hy with hy|hy
  ·exact hGL y hy
  ·simp at hy;subst hy;exact hG
def qgI (n:NetD) (A:Option Addr) (c:Nat) (w:Zp1) (e:Ending) (w':Zp1):Prop:=
 ∃N' d',e=.returned (.agg #[.slice A n.inn.length c,.slice N' n.nodes.length d'])/\NetR w' A N' n/\n.nodes.length<=d'/\d'<=9223372036854775807/\Below w.heap.size w w'
def RInv (tN tR tE:TypeId) (n:NetD) (A N:Option Addr) (c d:Nat) (w0 w:Zp1) (k:Nat) (wx:Zp1):Prop:=
 Blk wx w.heap.size tN #[.slice A n.inn.length c,.slice N n.nodes.length d]/\Blk wx (w.heap.size+1) tR #[.slice none 0 0,.slice none 0 0]/\Below w.heap.size w wx/\
  ∃v,Blk wx (w.heap.size+2) tR #[.slice A n.inn.length c,v]/\RefRow tE (w.heap.size+3) wx.heap.size w0 wx v (n.nodes.take k)
def RefNetS (t:TypeId) (n:NetD) (A:Option Addr) (c:Nat) (w0 w:Zp1) (e:Ending) (w':Zp1):Prop:=
 ∃N' d' C,e=.returned (.agg #[.slice A n.inn.length c,.slice N' n.nodes.length d'])/\n.nodes.length<=d'/\d'<=9223372036854775807/\Below w.heap.size w w'/\RefRow t (w.heap.size+3) C w0 w' (.slice N' n.nodes.length d') n.nodes
theorem RefRow.net {t:TypeId} {B C:Nat} {w W:Zp1} {A N N':Option Addr} {d':Nat} {n:NetD} (h:RefRow t B C w W (.slice N' n.nodes.length d') n.nodes) (hb:Later w W) (hR:NetR w A N n):NetR W A N' n:=by
 obtain ⟨N2,d2,e2,-,-,ha⟩:=h.nodes hb;injection e2 with e3 _ _
 subst e3;exact ⟨hR.1.below hb (lrZ _),ha⟩
theorem RefNetS.netp {t:TypeId} {n:NetD} {A N:Option Addr} {c:Nat} {w w':Zp1} {e:Ending} (h:RefNetS t n A c w w e w') (hR:NetR w A N n):qgI n A c w e w':=by
 obtain ⟨N',d',C,rfl,h1,h2,hb,hr⟩:=h;exact ⟨N',d',rfl,hr.net hb hR,h1,h2,hb⟩
theorem qee:(Tryz.prog.info? 141).map (λi=>(i.zero,i.size,i.bytes))=some (some (.agg #[.int .i64 0,.int .i64 0,.int .i64 0,.int .i64 0,.int .i64 0,.int .i64 0,.int .i64 0,.slice none 0 0,.slice none 0 0,.slice none 0 0]),10,128):=by kernel_rfl
set_option maxRecDepth 20000 in
theorem ref_14s (A N:Option Addr) (c d:Nat) (n:NetD) (w0 w:Zp1) (hok:n.ok) (hl0:Later w0 w) (hR:NetR w0 A N n):
  Calls Tryz.prog 27 #[.agg #[.slice A n.inn.length c,.slice N n.nodes.length d]] w (RefNetS 141 n A c w0 w):=by
 obtain ⟨i1,hj,H6,HW,HN⟩:=info_parts qc5;obtain ⟨i2,hn,HJ,H9,HO⟩:=info_parts qee;have gp:=hok.2.1;have hh:=qfJ w (.cells #[.slice A n.inn.length c,.slice N n.nodes.length d] 59) (.cells #[.slice none 0 0,.slice none 0 0] 73) (.cells #[.slice A n.inn.length c,.slice none 0 0] 73);have HA:=((Blk.new w 59 #[.slice A n.inn.length c,.slice N n.nodes.length d]).alloc (.cells #[.slice none 0 0,.slice none 0 0] 73)).alloc (.cells #[.slice A n.inn.length c,.slice none 0 0] 73);have Hm:=(Blk.new (w.alloc (.cells #[.slice A n.inn.length c,.slice N n.nodes.length d] 59)) 73 #[.slice none 0 0,.slice none 0 0]).alloc (.cells #[.slice A n.inn.length c,.slice none 0 0] 73);have Hn:=Blk.new ((w.alloc (.cells #[.slice A n.inn.length c,.slice N n.nodes.length d] 59)).alloc (.cells #[.slice none 0 0,.slice none 0 0] 73)) 73 #[.slice A n.inn.length c,.slice none 0 0];rw [Zh1] at Hm;rw [Zh1,Zh1] at Hn;obtain ⟨HM,HR,Hx,Hy,Ho⟩:=zd5 hok hR HA Hm Hn;clear hok hR HA Hm Hn;go_enter Tryz.func27,Tryz.ntmps27;go_wp2_with fail;generalize ((w.alloc (.cells #[.slice A n.inn.length c,.slice N n.nodes.length d] 59)).alloc (.cells #[.slice none 0 0,.slice none 0 0] 73)).alloc (.cells #[.slice A n.inn.length c,.slice none 0 0] 73)=w1 at *;have Hp:=zI (show RInv 59 73 141 n A N c d w0 w 0 w1 from ⟨Hx.out,Hy.out,hh,_,Ho.out,by rw [List.take_zero];exact RefRow.nil _ _ _ _⟩);clear Hx Hy Ho hh
 go_loopw [15] (λi wx=>∃k:Nat,k<=n.nodes.length/\i=.int .i64 (k:Int)/\RInv 59 73 141 n A N c d w0 w k wx) (λi _=>n.nodes.length-(intOf i).toNat)
 case atStart=>exact ⟨0,Zt _,rfl,Hp.out⟩
 case round=>
  obtain ⟨k,hk,rfl,h8,hv,hD,v0,hq,hd⟩:=hrel;clear Hp;have go:=hq.lt
  by_cases Ha:k<n.nodes.length
  ·obtain ⟨b,off,S,sc,J,ic,Q,qc,rfl,hG,gh,gd,gt⟩:=HR.out.2.at_ Ha
   have hE:=HM.out.2.2 _ (gmZ Ha);have Hq:=Zb Ha;have gr:=hE.2.2.2.1;have HB:=hG.2.1;have Hz:=hG.2.2.1;have HC:=hG.2.2.2;generalize n.nodes[k]=v at *;obtain ⟨⟨y0,y1,y2,y3,y4,y5,y6,y7,y8,y9⟩,-⟩:=hG.below (hl0.call hD);have hy:=(Blk.new wr 127 #[.int .i64 v.op.kind,.int .i64 v.op.k,.int .i64 v.op.width,.int .i64 v.op.step,.int .i64 v.op.side,.int .i64 v.op.frm,.int .i64 v.op.to,.slice S v.op.s.length sc,.slice J v.ins.length ic,.slice Q v.p.length qc]).alloc (.cells #[.int .i64 v.op.kind,.int .i64 v.op.k,.int .i64 v.op.width,.int .i64 v.op.step,.int .i64 v.op.side,.int .i64 v.op.frm,.int .i64 v.op.to,.slice S v.op.s.length sc,.slice J v.ins.length ic,.slice none 0 0] 141);have hc:=Blk.new (wr.alloc (.cells #[.int .i64 v.op.kind,.int .i64 v.op.k,.int .i64 v.op.width,.int .i64 v.op.step,.int .i64 v.op.side,.int .i64 v.op.frm,.int .i64 v.op.to,.slice S v.op.s.length sc,.slice J v.ins.length ic,.slice Q v.p.length qc] 127)) 141 #[.int .i64 v.op.kind,.int .i64 v.op.k,.int .i64 v.op.width,.int .i64 v.op.step,.int .i64 v.op.side,.int .i64 v.op.frm,.int .i64 v.op.to,.slice S v.op.s.length sc,.slice J v.ins.length ic,.slice none 0 0];rw [Zh1] at hc;have HI:Below wr.heap.size wr ((wr.alloc (.cells #[.int .i64 v.op.kind,.int .i64 v.op.k,.int .i64 v.op.width,.int .i64 v.op.step,.int .i64 v.op.side,.int .i64 v.op.frm,.int .i64 v.op.to,.slice S v.op.s.length sc,.slice J v.ins.length ic,.slice Q v.p.length qc] 127)).alloc (.cells #[.int .i64 v.op.kind,.int .i64 v.op.k,.int .i64 v.op.width,.int .i64 v.op.step,.int .i64 v.op.side,.int .i64 v.op.frm,.int .i64 v.op.to,.slice S v.op.s.length sc,.slice J v.ins.length ic,.slice none 0 0] 141)):=qdF wr _ _;obtain ⟨h6,h5,He,hA,gn,HT,gj,H8,HS⟩:=zd9 h8 hv hq hd hG hE Hq HB Hz;obtain ⟨HF,h9,hP⟩:=zd3 HC hy hc;clear h8 hv hq hd hG hE Hq HB Hz HC hy hc;go_wp2_with fail;clear y0 y1 y2 y3 y4 y5 y6 y7 y8 y9;generalize ((wr.alloc (.cells #[.int .i64 v.op.kind,.int .i64 v.op.k,.int .i64 v.op.width,.int .i64 v.op.step,.int .i64 v.op.side,.int .i64 v.op.frm,.int .i64 v.op.to,.slice S v.op.s.length sc,.slice J v.ins.length ic,.slice Q v.p.length qc] 127)).alloc (.cells #[.int .i64 v.op.kind,.int .i64 v.op.k,.int .i64 v.op.width,.int .i64 v.op.step,.int .i64 v.op.side,.int .i64 v.op.frm,.int .i64 v.op.to,.slice S v.op.s.length sc,.slice J v.ins.length ic,.slice none 0 0] 141))=w2 at *
   obtain ⟨wo,rfl⟩:∃wo,wo=wr:=⟨wr,rfl⟩
   go_loopw [50] (λi wx=>∃(m:Nat) (vs:List Value) (u:Value),m<=v.p.length/\i=.int .i64 (m:Int)/\Blk wx wo.heap.size 127 #[.int .i64 v.op.kind,.int .i64 v.op.k,.int .i64 v.op.width,.int .i64 v.op.step,.int .i64 v.op.side,.int .i64 v.op.frm,.int .i64 v.op.to,.slice S v.op.s.length sc,.slice J v.ins.length ic,.slice Q v.p.length qc]/\Blk wx (wo.heap.size+1) 141 #[.int .i64 v.op.kind,.int .i64 v.op.k,.int .i64 v.op.width,.int .i64 v.op.step,.int .i64 v.op.side,.int .i64 v.op.frm,.int .i64 v.op.to,.slice S v.op.s.length sc,.slice J v.ins.length ic,u]/\wx.ownsRow (wo.heap.size+2) 23 1 u m vs/\RowOf w0 vs (v.p.take m)/\Below wo.heap.size wo wx/\wo.heap.size+2<=wx.heap.size) (λi _=>v.p.length-(intOf i).toNat)
   case atStart=>exact ⟨0,[],_,Zt _,rfl,h9.out,hP.out,World.ownsRow_nil _ _ _ _,RowOf.nil _,HI,by have:=hP.out.lt;omega⟩
   case round=>
    obtain ⟨m,vs,u,hm,rfl,hy,hc,hown,hH,hh,gq⟩:=hrel;clear h9 hP;obtain ⟨A9,c9,rfl⟩:=qak hown
    by_cases Hw:m<v.p.length
    ·have hp:=hD.trans (hh.mono hD.size)
     obtain ⟨b5,o5,Ss,cs,rfl,-,Ht,Hh,gi,gk⟩:=HF.out m Hw;have H7:=qa1 (hl0.call hp) Ht;have ha:=hH.push Hh gi gk;rw [←Zb Hw] at ha;have y9:wr.cell? ⟨wo.heap.size+1,9,none⟩=some (.slice A9 m c9):=by rw [hc.cell];rfl
     have f9:=hc.frozen 9;generalize v.p[m]=t at *;have ho:=qaz hown (.cells #[.slice Ss t.length cs] 23);have hC:=hh.alloc hh.size (.cells #[.slice Ss t.length cs] 23);have h4:=hy.alloc (.cells #[.slice Ss t.length cs] 23);have hZ:=hc.alloc (.cells #[.slice Ss t.length cs] 23);have hI:∀b,(Zb1 A9 m c9).ownBlock=some b->wo.heap.size+2<=b:=λb hb=>(hown.lt b hb).1
     obtain ⟨h9,hP,Hu,hM,Hg,Hk,hx,gu⟩:=zd8 hy hc hH ha h4 hZ hI Hh;clear hy hc hH ha h4 hZ hI Hh;clear hown Ht;go_wp2_with (at_builtin;refine wpList_append_own_at _ rfl _ _ 128 rfl (wo.heap.size+2) 23 i1 (.slice none 0 0) 1 24 Tryz.underlying128 hj H6 HW HN rfl dZ _ _ _ rfl ho ⟨wr.heap.size,0,none⟩ 1 1 [.slice Ss t.length cs] rfl rfl ?c1 (by intro u hu;simp at hu;subst hu;rfl) (by unfold maxLen;omega) oZ ?c2 ?_)
     first|(case c1=>exact qbC wr _ _)|skip
     case c2=>first|(simp;omega)|omega
     intro v' w3 hf hgrow _ HV;obtain ⟨A8,c8,rfl⟩:=qak hf;have hq:Below wo.heap.size wo w3:=hC.grown hgrow hC.size (λb hb=>by have:=hx.out b hb;omega);have H0:=hgrow.size;simp at H0;have hY:=Hg.out.grown hgrow (λe=>by have:=hx.out _ e.symm;omega);have hs:=Hk.out.grown hgrow (λe=>by have:=hx.out _ e.symm;omega);have y9':w3.cell? ⟨wo.heap.size+1,9,none⟩=some (.slice A9 m c9):=by rw [hs.cell];rfl
     have f9':=hs.frozen 9;have HK:=zI (hY.far (p:=⟨wo.heap.size+1,9,none⟩) sZ (.slice A8 (m+1) c8));have hW:=hs.set_ 9 (.slice A8 (m+1) c8);have HY:=zI (show Blk (w3.setCell ⟨wo.heap.size+1,9,none⟩ (.slice A8 (m+1) c8)) (wo.heap.size+1) 141 #[.int .i64 v.op.kind,.int .i64 v.op.k,.int .i64 v.op.width,.int .i64 v.op.step,.int .i64 v.op.side,.int .i64 v.op.frm,.int .i64 v.op.to,.slice S v.op.s.length sc,.slice J v.ins.length ic,.slice A8 (m+1) c8] from hW);have gm:=hq.setCell (p:=⟨wo.heap.size+1,9,none⟩) sZ (.slice A8 (m+1) c8);have HZ:=zI (qah (w':=w3.setCell ⟨wo.heap.size+1,9,none⟩ (.slice A8 (m+1) c8)) hf (λg hg=>Below.heap_setCell w3 _ _ g (by have:=(hf.lt g hg).1;simp;omega)));clear hf hgrow HV ho hC hY hs hW y9 f9;go_wp2_with fail;go_roundw
     case rel=>exact ⟨m+1,_,_,by omega,by go_num,HK.out,HY.out,HZ.out,hM.out,gm,by simp;omega⟩
     case measure=>simp [intOf];omega
    ·obtain rfl:m=v.p.length:=by omega
     rw [Zg] at hH;have hp:=hD.trans (hh.mono hD.size);obtain ⟨y0,y1,y2,y3,y4,y5,y6,y7,y8,y9⟩:wr.cell? ⟨wo.heap.size+1,0,none⟩=some (.int .i64 v.op.kind)/\wr.cell? ⟨wo.heap.size+1,1,none⟩=some (.int .i64 v.op.k)/\wr.cell? ⟨wo.heap.size+1,2,none⟩=some (.int .i64 v.op.width)/\wr.cell? ⟨wo.heap.size+1,3,none⟩=some (.int .i64 v.op.step)/\wr.cell? ⟨wo.heap.size+1,4,none⟩=some (.int .i64 v.op.side)/\wr.cell? ⟨wo.heap.size+1,5,none⟩=some (.int .i64 v.op.frm)/\wr.cell? ⟨wo.heap.size+1,6,none⟩=some (.int .i64 v.op.to)/\wr.cell? ⟨wo.heap.size+1,7,none⟩=some (.slice S v.op.s.length sc)/\wr.cell? ⟨wo.heap.size+1,8,none⟩=some (.slice J v.ins.length ic)/\wr.cell? ⟨wo.heap.size+1,9,none⟩=some (.slice A9 v.p.length c9):=⟨hc.cell 0,hc.cell 1,hc.cell 2,hc.cell 3,hc.cell 4,hc.cell 5,hc.cell 6,hc.cell 7,hc.cell 8,hc.cell 9⟩
     obtain ⟨L,hL,hT,Hv⟩:=hA.out;obtain ⟨A0,c0,rfl,gc⟩:=hT.form;have hl:L.length=k:=by have:=congrArg List.length hL;simp at this;omega
     have ht:=He.out.below hh oZ;have hF:=h6.out.below hh (by have:=h6.out.lt;omega);have hB:=h5.out.below hh (by have:=h5.out.lt;omega);rw [hl] at gc;have hO:Fr (λb=>wo.heap.size<=b) wo wr:=Fr.of_below hh (λb hb hS=>by omega);have Hb:=(hT.fr hO (λb h1 h2 h3=>by omega)).fr ((Fr.refl (λ_=>False) wr).alloc (.cells #[.int .i64 v.op.kind,.int .i64 v.op.k,.int .i64 v.op.width,.int .i64 v.op.step,.int .i64 v.op.side,.int .i64 v.op.frm,.int .i64 v.op.to,.slice S v.op.s.length sc,.slice J v.ins.length ic,.slice A9 v.p.length c9] 141)) (λb h1 h2 h3=>h3);have hw:=qaz hown (.cells #[.int .i64 v.op.kind,.int .i64 v.op.k,.int .i64 v.op.width,.int .i64 v.op.step,.int .i64 v.op.side,.int .i64 v.op.frm,.int .i64 v.op.to,.slice S v.op.s.length sc,.slice J v.ins.length ic,.slice A9 v.p.length c9] 141);have hN:=ht.alloc (.cells #[.int .i64 v.op.kind,.int .i64 v.op.k,.int .i64 v.op.width,.int .i64 v.op.step,.int .i64 v.op.side,.int .i64 v.op.frm,.int .i64 v.op.to,.slice S v.op.s.length sc,.slice J v.ins.length ic,.slice A9 v.p.length c9] 141);have hQ:=hF.alloc (.cells #[.int .i64 v.op.kind,.int .i64 v.op.k,.int .i64 v.op.width,.int .i64 v.op.step,.int .i64 v.op.side,.int .i64 v.op.frm,.int .i64 v.op.to,.slice S v.op.s.length sc,.slice J v.ins.length ic,.slice A9 v.p.length c9] 141);have hK:=hB.alloc (.cells #[.int .i64 v.op.kind,.int .i64 v.op.k,.int .i64 v.op.width,.int .i64 v.op.step,.int .i64 v.op.side,.int .i64 v.op.frm,.int .i64 v.op.to,.slice S v.op.s.length sc,.slice J v.ins.length ic,.slice A9 v.p.length c9] 141);have hz:=hp.alloc hp.size (.cells #[.int .i64 v.op.kind,.int .i64 v.op.k,.int .i64 v.op.width,.int .i64 v.op.step,.int .i64 v.op.side,.int .i64 v.op.frm,.int .i64 v.op.to,.slice S v.op.s.length sc,.slice J v.ins.length ic,.slice A9 v.p.length c9] 141);have Hr:=Blk.new wr 141 #[.int .i64 v.op.kind,.int .i64 v.op.k,.int .i64 v.op.width,.int .i64 v.op.step,.int .i64 v.op.side,.int .i64 v.op.frm,.int .i64 v.op.to,.slice S v.op.s.length sc,.slice J v.ins.length ic,.slice A9 v.p.length c9]
     have hI:∀b,(Zb1 A0 L.length c0).ownBlock=some b->w.heap.size+3<=b:=λb hb=>(hT.1.lt b hb).1
     rw [hl] at hI;have z1:wr.cell? ⟨w.heap.size+2,1,none⟩=some (.slice A0 k c0):=by rw [ht.cell,hl];rfl
     have Hl:=Hb.1;rw [hl] at Hl;obtain ⟨h9,hP,HE,Hu,HG,gl,HH,H5,hU⟩:=zd9 hy hc hown hH ht hF hB Hb hw;obtain ⟨Hi,Hf,Hj,gf,hx,HL,gg,gv,ge⟩:=zd9 hN hQ hK Hr hI hL Hv hT hl;have gb:=zI Hl;clear hy hc hown hH ht hF hB Hb hw hN hQ hK Hr hI hL Hv hT hl Hl;clear hA h6 h5 He hO;go_wp2_with (at_builtin;refine wpList_append_own_at _ rfl _ _ 71 rfl (w.heap.size+3) 141 i2 (.agg #[.int .i64 0,.int .i64 0,.int .i64 0,.int .i64 0,.int .i64 0,.int .i64 0,.int .i64 0,.slice none 0 0,.slice none 0 0,.slice none 0 0]) 10 128 Tryz.underlying71 hn HJ H9 HO rfl dZ _ k (L.flatMap RQ.cells) rfl gb.out ⟨wr.heap.size,0,none⟩ 1 1 [.int .i64 v.op.kind,.int .i64 v.op.k,.int .i64 v.op.width,.int .i64 v.op.step,.int .i64 v.op.side,.int .i64 v.op.frm,.int .i64 v.op.to,.slice S v.op.s.length sc,.slice J v.ins.length ic,.slice A9 v.p.length c9] rfl rfl ?c1 ?c2 ?c3 ?c4 ?c5 ?_)
     case c1=>exact World.news_of_block (cs:=#[.int .i64 v.op.kind,.int .i64 v.op.k,.int .i64 v.op.width,.int .i64 v.op.step,.int .i64 v.op.side,.int .i64 v.op.frm,.int .i64 v.op.to,.slice S v.op.s.length sc,.slice J v.ins.length ic,.slice A9 v.p.length c9]) gf.out
     case c2=>intro u hu;simp at hu;rcases hu with rfl|rfl|rfl|rfl|rfl|rfl|rfl|rfl|rfl|rfl<;>rfl
     case c3=>unfold maxLen;omega
     case c4=>omega
     case c5=>simp;omega
     intro v7 w7 he hJ _ hr;obtain ⟨A7,c7,rfl⟩:=qak he;have Hs:wr.heap.size+1=(wr.alloc (.cells #[.int .i64 v.op.kind,.int .i64 v.op.k,.int .i64 v.op.width,.int .i64 v.op.step,.int .i64 v.op.side,.int .i64 v.op.frm,.int .i64 v.op.to,.slice S v.op.s.length sc,.slice J v.ins.length ic,.slice A9 v.p.length c9] 141)).heap.size:=by simp
     rw [Hs] at hr;clear Hs;have hl:=ge.out;generalize (wr.alloc (.cells #[.int .i64 v.op.kind,.int .i64 v.op.k,.int .i64 v.op.width,.int .i64 v.op.step,.int .i64 v.op.side,.int .i64 v.op.frm,.int .i64 v.op.to,.slice S v.op.s.length sc,.slice J v.ins.length ic,.slice A9 v.p.length c9] 141))=w6 at *;have Hc:=hJ;rw [←hl] at he Hc hr;have ha:=qeG (x:=(⟨v,S,sc,J,ic,A9,c9⟩:NodeQ)) (vs:=vs) H5.out gg.out (C2:=wo.heap.size+2) oZ oZ he Hc hr hU.out ⟨⟨H8.out,gh⟩,⟨HS.out,gd⟩,Hu.out⟩;rw [HL.out] at ha;have ha:RefRow 141 (w.heap.size+3) w7.heap.size w0 w7 (.slice A7 (L.length+1) c7) (n.nodes.take (k+1)):=by rw [gj.out];exact ha
     rw [hl] at ha;have hi:=Hi.out.grown hJ (λe=>by have:=hx.out _ e.symm;omega);have h0:=Hf.out.grown hJ (λe=>by have:=hx.out _ e.symm;omega);have hV:=Hj.out.grown hJ (λe=>by have:=hx.out _ e.symm;omega);rw [hl] at hi;have hX:Below w.heap.size w w7:=hz.grown hJ hz.size (λb hb=>by have:=hx.out b hb;omega);have z1':w7.cell? ⟨w.heap.size+2,1,none⟩=some (.slice A0 k c0):=by rw [hi.cell];rfl
     have f1':=hi.frozen 1;have h7:Fr (λb=>b=w.heap.size+2) w7 (w7.setCell ⟨w.heap.size+2,1,none⟩ (.slice A7 (k+1) c7)):=(Fr.refl (λb=>b=w.heap.size+2) w7).setCell (p:=⟨w.heap.size+2,1,none⟩) (λ_=>rfl) (.slice A7 (k+1) c7);have HP:=zI (ha.fr h7 (λb h1 h2 h3=>by omega));have H1:=zI (h7.blk h0 oZ);have H2:=zI (h7.blk hV oZ);have h3:=hi.set_ 1 (.slice A7 (k+1) c7);have H3:=zI (show Blk (w7.setCell ⟨w.heap.size+2,1,none⟩ (.slice A7 (k+1) c7)) (w.heap.size+2) 73 #[.slice A n.inn.length c,.slice A7 (k+1) c7] from h3);have H4:=zI (hX.setCell (p:=⟨w.heap.size+2,1,none⟩) sZ (.slice A7 (k+1) c7));clear he hJ Hc hr ha hi h0 hV hX h7 h3 hl hz hp;go_wp2_with fail;go_roundw
     case rel=>exact ⟨k+1,by omega,by go_num,H1.out,H2.out,H4.out,_,H3.out,by simpa using HP.out⟩
     case measure=>simp [intOf];omega
  ·obtain rfl:k=n.nodes.length:=by omega
   rw [Zg] at hd;obtain ⟨N',d',rfl,HQ,HX,-⟩:=hd.nodes (hl0.call hD);have HD:Fr (λb=>b=w.heap.size+1) wr ((wr.setCell ⟨w.heap.size+1,0,none⟩ (.slice A n.inn.length c)).setCell ⟨w.heap.size+1,1,none⟩ (.slice N' n.nodes.length d')):=((Fr.refl (λb=>b=w.heap.size+1) wr).setCell (p:=⟨w.heap.size+1,0,none⟩) (λ_=>rfl) _).setCell (p:=⟨w.heap.size+1,1,none⟩) (λ_=>rfl) _;have Hd:Below w.heap.size w ((wr.setCell ⟨w.heap.size+1,0,none⟩ (.slice A n.inn.length c)).setCell ⟨w.heap.size+1,1,none⟩ (.slice N' n.nodes.length d')):=(hD.setCell (p:=⟨w.heap.size+1,0,none⟩) sZ _).setCell (p:=⟨w.heap.size+1,1,none⟩) sZ _;have HU:=zI (hd.fr HD (λb h1 h2 h3=>by omega));have z0:wr.cell? ⟨w.heap.size+2,0,none⟩=some (.slice A n.inn.length c):=by rw [hq.cell];rfl
   have z1:wr.cell? ⟨w.heap.size+2,1,none⟩=some (.slice N' n.nodes.length d'):=by rw [hq.cell];rfl
   have r0:wr.cell? ⟨w.heap.size+1,0,none⟩=some (.slice none 0 0):=by rw [hv.cell];rfl
   have r1:wr.cell? ⟨w.heap.size+1,1,none⟩=some (.slice none 0 0):=by rw [hv.cell];rfl
   have f0:=hv.frozen 0;have f1:=hv.frozen 1;clear HD;obtain ⟨h6,h5,He,hA⟩:=zd4 h8 hv hq hd;clear h8 hv hq hd;go_wp2_with fail;exact Zk1 (v:=.agg #[.slice A n.inn.length c,.slice N' n.nodes.length d']) (by simp [results,Tryz.results27,go_sem,r0,r1]) rfl ⟨N',d',_,rfl,HQ,HX,Hd,HU.out⟩
theorem ref_14 (A N:Option Addr) (c d:Nat) (n:NetD) (w:Zp1) (hok:n.ok) (hR:NetR w A N n):
  Calls Tryz.prog 27 #[.agg #[.slice A n.inn.length c,.slice N n.nodes.length d]] w (qgI n A c w):=
 (ref_14s A N c d n w w hok (Later.refl _) hR).mono λ_ _ h=>h.netp hR
def RefCheckP (n:NetD) (w:Zp1) (e:Ending) (w':Zp1):Prop:=
 Below w.heap.size w w'/\((Nt.check n=0/\∃g,e=.returned (.tuple #[.slice (some ⟨g,0,none⟩) (n.nodes.length+1) (n.nodes.length+1),.int .i64 (Nt.loss n.nodes),.int .i64 0])/\w.heap.size<=g/\ShpRow w' g 23 (Nt.shapes n))∨
  (Nt.check n≠0/\e=.returned (.tuple #[.slice none 0 0,.int .i64 0,.int .i64 (Nt.check n)])))
theorem RefCheckP.err {n:NetD} {w w':Zp1} {k:Int} (h:Nt.check n=k) (hk:k≠0) (hb:Below w.heap.size w w'):RefCheckP n w (.returned (.tuple #[.slice none 0 0,.int .i64 0,.int .i64 k])) w':=
 ⟨hb,.inr (by rw [h];exact ⟨hk,rfl⟩)⟩
theorem ShpRow.apart {w:Zp1} {g:Nat} {t:TypeId} {sh:List (List Int)} {S:Option Addr} {s:List Int} (h:ShpRow w g t sh) (hI:Ints .i64 w S s) (hs:0<s.length):∀a,S=some a->a.block≠g:=by
 intro a ha hg;obtain ⟨b,off,e,hl,hc⟩:=hI 0 hs;rw [ha] at e;injection e with e
 subst e;simp at hg;subst hg;obtain ⟨vs,hb,hk,hv⟩:=h;rw [Zx,hk.cell off] at hc
 by_cases ho:off<sh.length
 ·obtain ⟨S',c',e1,_⟩:=hv off ho
  simp at hc;rw [e1] at hc;simp at hc
 ·rw [Array.getElem?_eq_none soZ] at hc
  cases hc
theorem Nt.count_used (ns:List NodeD) (id:Int):(Nt.count ns id=0)↔Nt.isUsed ns id=false:=by
 unfold Nt.count Nt.isUsed;rw [List.length_eq_zero_iff,List.filter_eq_nil_iff,List.any_eq_false]
set_option maxRecDepth 20000 in
theorem qeH (A N:Option Addr) (c d:Nat) (n:NetD) (w:Zp1) (hok:n.ok) (hR:NetR w A N n) (hd:n.nodes.length<=d) (hc:n.inn.length<=c) (hcm:c<=9223372036854775807):
  Calls Tryz.prog 69 #[.agg #[.slice A n.inn.length c,.slice N n.nodes.length d]] w (RefCheckP n w):=by
 obtain ⟨i1,hj,Gu,Gg,Gc⟩:=info_parts qc5;have GD:=hok.2.1;have Gh:=hok.1;have hW:Below w.heap.size w (w.alloc (.cells #[.slice A n.inn.length c,.slice N n.nodes.length d] 73)):=(Ze1 _ _).alloc (lrZ _) _;have gd:=Blk.new w 73 #[.slice A n.inn.length c,.slice N n.nodes.length d];have gf:=hR.below hW (lrZ _)
 by_cases hN:n.nodes.length<1∨512<n.nodes.length
 ·have HC:=zI (Nt.check_many hN)
  obtain ⟨HR,HE,gv,ge⟩:=zd4 hR hok gf gd;clear hR hok gf gd;rcases hN with h|h
  ·have d1:decide ((n.nodes.length:Int)<1)=true:=by simp;omega
   go_enter Tryz.func69,Tryz.ntmps69;go_wp2_with fail
   go_ret3
   exact RefCheckP.err HC.out oZ hW
  ·have d1:decide ((n.nodes.length:Int)<1)=false:=by simp;omega
   have d2:decide ((512:Int)<(n.nodes.length:Int))=true:=by simp;omega
   go_enter Tryz.func69,Tryz.ntmps69;go_wp2_with fail
   go_ret3
   exact RefCheckP.err HC.out oZ hW
 ·have d1:decide ((n.nodes.length:Int)<1)=false:=by simp;omega
  have d2:decide ((512:Int)<(n.nodes.length:Int))=false:=by simp;omega
  have Ga:n.nodes.length<=512:=by omega
  have Gs:1<=n.nodes.length:=by omega
  obtain ⟨HR,HE,gv,ge,ho⟩:=zd5 hR hok gf gd hN;clear hR hok gf gd hN;go_enter Tryz.func69,Tryz.ntmps69;go_wp2_with fail;have hx:=ge.out;generalize w.alloc (.cells #[.slice A n.inn.length c,.slice N n.nodes.length d] 73)=w1 at *;have he:=ge.out;refine (qaH A c n.inn _ oZ gv.out.1).mono ?_;rintro e w2 ⟨rfl,rfl⟩;have x1:w1.cell? ⟨w.heap.size,1,none⟩=some (.slice N n.nodes.length d):=by rw [he.cell];rfl
  clear d1 d2 hx
  by_cases HY:Sh.right n.inn=true
  rotate_left
  ·have Hu:Sh.right n.inn=false:=by simpa using HY
   have HC:=zI (Nt.check_in ho.out Hu);rw [Hu];have hf:=zI he;clear he;clear HY Hu;go_wp2_with fail
   go_ret3
   exact RefCheckP.err HC.out oZ hW
  ·have h8:=zI HY
   rw [HY];have hf:=zI he;clear he;clear HY;go_wp2_with fail;clear x1 gv ge
   go_loopw [5] (λi wr=>∃k:Nat,k<=n.nodes.length/\i=.int .i64 k/\Blk wr w.heap.size 73 #[.slice A n.inn.length c,.slice N n.nodes.length d]/\Below w.heap.size w wr/\qdk n k) (λi _=>n.nodes.length-(intOf i).toNat)
   case atStart=>exact ⟨0,Zt _,rfl,hf.out,hW,λj hj h=>by omega⟩
   case round=>
    clear hf hW;obtain ⟨k,hk,rfl,he,hJ,hG⟩:=hrel;have Gq:=he.lt;have x1:wr.cell? ⟨w.heap.size,1,none⟩=some (.slice N n.nodes.length d):=by rw [he.cell];rfl
    by_cases hT:k<n.nodes.length
    ·obtain ⟨b,off,S,sc,J,ic,Q,qc,rfl,He,-,hI,-⟩:=HR.out.2.at_ hT
     have hK:=HE.out.2.2 _ (gmZ hT);have HI:=λh=>Nt.bads_op (n:=n.nodes.length) hT hG h
     have HX:=λh m (hm:m<n.nodes[k].ins.length) h2=>Nt.bads_in (n:=n.nodes.length) hT hG h (m:=m) hm h2
     have Hf:Od.right n.nodes[k].op=true->n.nodes[k].ins.all (λi=>decide (0<=i/\i<=n.nodes.length))=true->qdk n (k+1):=λh1 h2 j hj GI=>by
      by_cases e:j=k
      ·subst e;exact ⟨h1,h2⟩
      ·exact hG j hj oZ
     have Gh:=hK.2.2.1;have Gw:=hK.2.1;generalize n.nodes[k]=v at *;have Hm:=He.below hJ;obtain ⟨⟨y0,y1,y2,y3,y4,y5,y6,y7,y8,y9⟩,-⟩:=He.below hJ;have hh:=qeo v.op S sc wr oZ;rw [Od.ref_right] at hh;obtain ⟨hf,GB,Gp,gw,gp,HA,Gn,gD,hQ⟩:=zd9 he He hK HI HX Hf Hm hG hh;clear he He hK HI HX Hf Hm hG hh;go_wp2_with fail;refine (hQ.out).mono ?_;rintro e w2 ⟨rfl,Hh⟩;have hS:=hJ.trans (Hh.mono hJ.size);have hb:=hf.out.below Hh Gq;clear x1;have x1:w2.cell? ⟨w.heap.size,1,none⟩=some (.slice (some ⟨b,off,none⟩) n.nodes.length d):=by rw [hb.cell];rfl
     have Gv:=Gn.out.below Hh;obtain ⟨⟨-,-,-,-,-,-,-,-,z8,-⟩,-,gc,-⟩:=Gv;clear y0 y1 y2 y3 y4 y5 y6 y7 y8 y9 hf hQ
     by_cases HP:Od.right v.op=true
     rotate_left
     ·have Hq:Od.right v.op=false:=by simpa using HP
      have hc:=gw.out Hq;have HC:=zI ((Nt.check_bads ho.out h8.out (by rw [hc];omega)).trans hc);rw [Hq];obtain ⟨hE,g4⟩:=zd2 hb gc;clear hb gc;clear HP hc Hq;go_wp2_with fail
      go_ret3
      exact RefCheckP.err HC.out oZ hS
     ·have gN:=zI HP
      rw [HP];obtain ⟨hE,g4⟩:=zd2 hb gc;clear hb gc;clear HP;go_wp2_with fail
      go_loopw [6] (λi wx=>∃m q:Nat,m<=v.ins.length/\i=.int .i64 m/\(∀j (hj:j<v.ins.length),j<m->0<=v.ins[j]/\v.ins[j]<=n.nodes.length)/\wx=w2.drewN q) (λi _=>v.ins.length-(intOf i).toNat)
      case atStart=>exact ⟨0,0,Zt _,rfl,(λj hj h=>by omega),rfl⟩
      case round=>
       obtain ⟨m,q,hm,rfl,hC,rfl⟩:=hrel
       by_cases H3:m<v.ins.length
       ·obtain ⟨b1,off1,rfl,-,hc⟩:=g4.out m H3
        rw [qa3 H3] at hc;have gl:=gp.out gN.out m H3
        have HV:(0<=v.ins[m]/\v.ins[m]<=n.nodes.length)->∀j (hj:j<v.ins.length),j<m+1->0<=v.ins[j]/\v.ins[j]<=n.nodes.length:=λh j hj GH=>by
         by_cases e:j=m
         ·subst e;exact h
         ·exact hC j hj oZ
        generalize v.ins[m]=u at *;have m0:(0:Int)<=(m:Int):=by omega
        have m1:(m:Int)<(v.ins.length:Int):=by omega
        have k0:(0:Int)<=(k:Int):=by omega
        have k1:(k:Int)<(n.nodes.length:Int):=by omega
        by_cases hu:0<=u/\u<=n.nodes.length
        ·have HN:=zI (HV hu)
         have e1:decide (u<0)=false:=by simp;omega
         have e2:decide ((n.nodes.length:Int)<u)=false:=by simp;omega
         clear hu gl;obtain ⟨Gm,HW⟩:=zd2 HV hC;clear HV hC;go_wp2_with fail
         go_quiet (fail)
         go_wp2_with fail;go_roundw
         case rel=>exact ⟨m+1,_,by omega,by go_num,HN.out,by first|rfl|exact World.drewN_drewN _ _ _⟩
         case measure=>simp [intOf];omega
        ·have gF:=gl hu
         have HC:=zI ((Nt.check_bads ho.out h8.out (by rw [gF];omega)).trans gF);clear gF gl;obtain ⟨Gm,HW⟩:=zd2 HV hC;clear HV hC
         by_cases HF:u<0
         ·have e1:decide (u<0)=true:=by simpa using HF
          clear hu;go_wp2_with fail
          go_quiet (fail)
          go_wp2_with fail
          go_ret3
          exact RefCheckP.err HC.out oZ (by first|exact qdm hS _ _|exact qa6 hS _)
         ·have e1:decide (u<0)=false:=by simpa using HF
          have e2:decide ((n.nodes.length:Int)<u)=true:=by simp;omega
          clear hu;go_wp2_with fail
          go_quiet (fail)
          go_wp2_with fail
          go_ret3
          exact RefCheckP.err HC.out oZ (by first|exact qdm hS _ _|exact qa6 hS _)
       ·obtain rfl:m=v.ins.length:=by omega
        have HN:=zI (HA.out gN.out (List.all_eq_true.2 λi hi=>by obtain ⟨j,hj,rfl⟩:=List.getElem_of_mem hi;simpa using hC j hj hj));have HW:=zI hC;clear hC;go_wp2_with fail;go_roundw
        case rel=>exact ⟨k+1,by omega,by go_num,hE.out.drewN q,qa6 hS q,HN.out⟩
        case measure=>simp [intOf];omega
    ·obtain rfl:k=n.nodes.length:=by omega
     have hW:Nt.bads n.nodes.length n.nodes=0:=Nt.bads_none hG;have H0:∀v∈n.nodes,∀i∈v.ins,0<=i/\i<=n.nodes.length:=λv hv=>(Nt.bads_all hW v hv).2
     have H9:∀v∈n.nodes,Od.right v.op=true:=λv hv=>(Nt.bads_all hW v hv).1
     have x0:wr.cell? ⟨w.heap.size,0,none⟩=some (.slice A n.inn.length c):=by rw [he.cell];rfl
     obtain ⟨gD,hf,gb,gJ,gq⟩:=zd5 hG he hW H0 H9;clear hG he hW H0 H9;go_wp2_with fail;refine (qen A N c d n _ HE.out (HR.out.below hJ (lrZ _))).mono ?_;rintro e w2 ⟨O,oc,rfl,hO,gW,Gd,Hh⟩;have hV:=hJ.trans (Hh.mono hJ.size);have hb:=hf.out.below Hh hf.out.lt;have gG:w.heap.size<w2.heap.size:=hb.lt;clear x0 x1;have x0:w2.cell? ⟨w.heap.size,0,none⟩=some (.slice A n.inn.length c):=by rw [hb.cell];rfl
     have x1:w2.cell? ⟨w.heap.size,1,none⟩=some (.slice N n.nodes.length d):=by rw [hb.cell];rfl
     clear hf;have gu:(Nt.sorted n.nodes).length<=n.nodes.length:=Kn.order_len_le _ _
     by_cases hU:(Nt.sorted n.nodes).length=n.nodes.length
     rotate_left
     ·have HC:=zI (Nt.check_cyc ho.out h8.out gb.out hU)
      have e1:decide (((Nt.sorted n.nodes).length:Int)<(n.nodes.length:Int))=true:=by simp;omega
      have e2:decide ((Nt.sorted n.nodes).length<n.nodes.length)=true:=by simp;omega
      generalize Nt.sorted n.nodes=os at *;obtain ⟨hE,gx,HO⟩:=zd3 hb hU hO;clear hb hU hO;go_wp2_with fail
      go_ret3
      exact RefCheckP.err HC.out oZ hV
     ·have hH:=λh5=>Nt.check_lay ho.out h8.out gb.out hU h5
      have hy:=λh5 h6=>Nt.check_loss ho.out h8.out gb.out hU h5 h6
      have hw:=λh5 h6=>Nt.check_last ho.out h8.out gb.out hU h5 h6
      have ht:=λh5:(Nt.lay n.nodes (Nt.start n) (Nt.sorted n.nodes)).2=0=>Nt.lay_good h8.out (Nt.sorted n.nodes).length (lrZ _) (by rw [Zg];exact h5)
      rw [Zg] at ht;have hZ:∀u,u∈Nt.sorted n.nodes↔1<=u/\u<=n.nodes.length:=Kn.order_full (I:=Nt.insF n.nodes) (n:=n.nodes.length) hU;have Ho:(Nt.lay n.nodes (Nt.start n) (Nt.sorted n.nodes)).1=Nt.shapes n:=rfl;have Hi:∀u∈Nt.sorted n.nodes,1<=u/\u<=n.nodes.length:=Kn.order_rng _ _;have Hj:∀a b u,Nt.sorted n.nodes=a++u::b->∀i∈Nt.insF n.nodes u,i=0∨i∈a:=λa b u h=>Kn.order_behind _ _ h
      rw [hU];obtain ⟨os,hos⟩:∃os,Nt.sorted n.nodes=os:=⟨_,rfl⟩
      have h3:∀k,k<=os.length->∀sh,Nt.lay n.nodes (Nt.start n) (os.take k)=(sh,0)->Nt.Good (os.take k) sh/\sh.length=n.nodes.length+1:=λk hk sh h=>by
       have:=qdK (n:=n) h8.out (k:=k) (by rw [hos];exact hk) (sh:=sh) (by rw [hos];exact h);rw [hos] at this;exact this
      rw [hos] at hH hy hw ht hZ Ho hO hU gW gu Hi Hj;rw [hU] at gW
      have g0:∀a,A=some a->a.block<w.heap.size:=λa ha=>by
       obtain ⟨b,off,e,hl,-⟩:=HR.out.1 0 (qa5 h8.out).1;rw [ha] at e;injection e with e;subst e;exact hl
      have HJ:=HR.out.1.below hV (lrZ _);have e1:IntKind.i64.wrap ((n.nodes.length:Int)+1)=((n.nodes.length+1:Nat):Int):=by rw [Zc1 _ oZ];omega
      obtain ⟨Hv,h7,Ha,Hp,HM,gE,gx,GC,HO⟩:=zd9 hH hy hw ht hZ Ho hU hos hO;obtain ⟨hE,gA,gC,Hs,g9,HH⟩:=zd6 hb Hi Hj h3 g0 HJ;clear hH hy hw ht hZ Ho hU hos hO hb Hi Hj h3 g0 HJ;go_wp2_with (at_make;refine wpList_make_full _ rfl _ _ 128 rfl w2.heap.size 23 i1 (.slice none 0 0) 1 Tryz.underlying128 hj Gu Gg _ _ _ _ (n.nodes.length+1) rfl rfl (by first|rfl|simp|(go_simp;rfl)) (by first|rfl|simp|(go_simp;rfl)) ?b2 ?b3 ?b4 ?_)
      case b2=>rw [Gc];omega
      case b3=>unfold maxLen;omega
      case b4=>exact lrZ _
      intro w3 hown hgrow;have Hw:=qaR hown;rw [qb4] at Hw;obtain ⟨g,hg⟩:∃g,w2.heap.size=g:=⟨_,rfl⟩
      have hq:ShpRow w3 g 23 (Zc (n.nodes.length+1) []):=by rw [←hg];exact ShpRow.new (by simpa [Blk] using Hw)
      have HD:Below w2.heap.size w2 w3:=(Ze1 _ w2).grown hgrow (lrZ _) sZ;have H5:=hV.trans (HD.mono hV.size);have hF:=hE.out.below HD gG;have h4:=hq.set_ (i:=0) (HH.out.below HD (lrZ _)) hc hcm (λa ha=>by have:=g9.out a ha;omega);rw [show (Zc (n.nodes.length+1) ([]:List Int)).set 0 n.inn=Nt.start n from rfl] at h4;have Hc:=hF.far (p:=⟨g,0,none⟩) soZ (.slice A n.inn.length c);have H8:=H5.setCell (p:=⟨g,0,none⟩) soZ (.slice A n.inn.length c);have gP:=(HO.out.below HD (lrZ _))
      obtain ⟨S0,c0,z0,-⟩:=hq.at_ (j:=0) sZ;have f0:w3.frozen? ⟨g,0,none⟩=false:=by obtain ⟨vs,_,hk,_⟩:=hq;exact hk.frozen 0
      have gn:∀a,O=some a->a.block≠g:=λa ha=>by
       obtain ⟨b,off,e,hl,-⟩:=HO.out 0 (by have:=gx.out;omega);rw [ha] at e;injection e with e;subst e;simp;omega
      have gR:=gP.set_far (p:=⟨g,0,none⟩) gn (.slice A n.inn.length c);clear x0 x1;have x0:w3.cell? ⟨w.heap.size,0,none⟩=some (.slice A n.inn.length c):=by rw [hF.cell];rfl
      have x1:w3.cell? ⟨w.heap.size,1,none⟩=some (.slice N n.nodes.length d):=by rw [hF.cell];rfl
      rw [hg];have GE:w.heap.size<g:=by omega
      have gy:¬w.heap.size=g:=by omega
      clear Hw hown hgrow hq gP hV Hh hJ hg;obtain ⟨Hg,H6,Hb,gi,Gl⟩:=zd5 h4 hF Hc gR gn;clear h4 hF Hc gR gn;clear HO HH;go_wp2_with fail;clear z0 f0 x0 x1 HD H5
      go_loopw [9] (λi wr=>∃k:Nat,k<=os.length/\i=.int .i64 k/\Blk wr w.heap.size 73 #[.slice A n.inn.length c,.slice N n.nodes.length d]/\Below w.heap.size w wr/\Ints .i64 wr O os/\∃sh,Nt.lay n.nodes (Nt.start n) (os.take k)=(sh,0)/\ShpRow wr g 23 sh) (λi _=>os.length-(intOf i).toNat)
      case atStart=>exact ⟨0,Zt _,rfl,Hb.out,H8,gi.out,Nt.start n,rfl,Hg.out⟩
      case round=>
       obtain ⟨k,hk,rfl,he,hJ,hO,sh,hn,hq⟩:=hrel;clear Hg H6 Hb gi H8;obtain ⟨h0,gm⟩:=Hs.out k hk sh hn;have x1:wr.cell? ⟨w.heap.size,1,none⟩=some (.slice N n.nodes.length d):=by rw [he.cell];rfl
       have gV:=gx.out
       by_cases hT:k<os.length
       ·obtain ⟨b,off,rfl,-,hc⟩:=hO k hT
        rw [qa3 hT] at hc;have hr:=gA.out _ (gmZ hT);have hL:os=os.take k++os[k]::os.drop (k+1):=by rw [←Zd hT,Zn]
        have gI:=gC.out _ _ _ hL;obtain ⟨j,hj'⟩:∃j:Nat,os[k]=(j:Int)+1:=⟨(os[k]-1).toNat,by omega⟩
        have Hy:j<n.nodes.length:=by omega
        have hs:=λh:(Nt.layStep n.nodes sh os[k]).2=0=>Nt.lay_snoc (id:=os[k]) hn h
        have hP:=λh:(Nt.layStep n.nodes sh os[k]).2≠0=>Nt.lay_fail (b:=os.drop (k+1)) (id:=os[k]) hn h
        rw [←Zb hT] at hs;rw [←hL] at hP;have g6:Nt.layStep n.nodes sh os[k]=Od.shape n.nodes[j].op n.nodes[j].p (Nt.pick sh n.nodes[j].ins):=by unfold Nt.layStep;rw [hj',Nt.node_at Hy]
        have gZ:Nt.insF n.nodes os[k]=n.nodes[j].ins:=by unfold Nt.insF;rw [hj',Nt.node_at Hy]
        rw [g6] at hs hP;rw [gZ] at gI;rw [hj'] at hc hs;rw [show ((j:Int)+1).toNat=j+1 by omega] at hs;have hK:=HE.out.2.2 _ (gmZ Hy);have g7:=gq.out _ (gmZ Hy);have Hr:=gJ.out _ (gmZ Hy);obtain ⟨b1,off1,S,sc,J,ic,Q,qc,rfl,He,gH,GN,GF⟩:=HR.out.2.at_ Hy;have gX:∀i∈n.nodes[j].ins,0<=i/\i.toNat<sh.length/\Sh.right (sh.getD i.toNat [])=true:=λi hi=>⟨(Hr i hi).1,by have:=Hr i hi;omega,h0 i (gI i hi)⟩
        generalize n.nodes[j]=v at *;have Hm:=He.below hJ;obtain ⟨⟨y0,y1,y2,y3,y4,y5,y6,y7,y8,y9⟩,-⟩:=He.below hJ;have j1:IntKind.i64.wrap ((j:Int)+1-1)=(j:Int):=by rw [Zc1 _ oZ];omega
        have j2:(j:Int)<n.nodes.length:=by omega
        have j0:(0:Int)<=(j:Int):=by omega
        have k0:(0:Int)<=(k:Int):=by omega
        have k1:(k:Int)<(n.nodes.length:Int):=by omega
        have j4:(0:Int)<=(j:Int)+1:=by omega
        have j5:IntKind.i64.wrap (j:Int)=(j:Int):=Zc1 _ oZ
        have hh:∀W:Zp1,Ints .i64 W S v.op.s->Ints .i64 W J v.ins->Shps W Q v.p->Shps W (some ⟨g,0,none⟩) sh->Calls Tryz.prog 123 #[.agg #[.int .i64 v.op.kind,.int .i64 v.op.k,.int .i64 v.op.width,.int .i64 v.op.step,.int .i64 v.op.side,.int .i64 v.op.frm,.int .i64 v.op.to,.slice S v.op.s.length sc,.slice J v.ins.length ic,.slice Q v.p.length qc],.slice (some ⟨g,0,none⟩) (n.nodes.length+1) (n.nodes.length+1)] W (RefP (Od.shape v.op v.p (Nt.pick sh v.ins)) W):=λW q1 q2 q3 q4=>by
         rw [←gm];exact qeq v S J Q sc ic qc g sh.length sh W hK g7 gH.1 gH.2 q1 q2 q3 q4 gX
        have HZ:=λh:(Od.shape v.op v.p (Nt.pick sh v.ins)).2=0=>qa5 (Od.shape_right h)
        generalize Od.shape v.op v.p (Nt.pick sh v.ins)=r at *;have Hk:=hh;have F1:=zI Hm.2.1;have F2:=zI Hm.2.2.1;have F3:=zI Hm.2.2.2;have F4:=zI hq.shps;obtain ⟨gO,HT⟩:=zd2 hh HZ;have HL:=zI hs;have Gr:=zI hP;clear hh Hk HZ hs hP Hm He gX Hr hK g7 g6 gZ gI hL hj' h0;obtain ⟨hf,HO,gt,Ht⟩:=zd4 he hO hn hq;clear he hO hn hq;have kn:k<n.nodes.length:=by omega
        go_wp2_with fail
        go_region_held3 (λw'=>w'.cell? ⟨w.heap.size,1,none⟩=some (.slice (some ⟨b1,off1,none⟩) n.nodes.length d)/\w'.cell? ⟨b,off+k,none⟩=some (.int .i64 ((j:Int)+1))/\w'.cell? ⟨b1,off1+j*10,none⟩=some (.int .i64 v.op.kind)/\w'.cell? ⟨b1,off1+j*10+1,none⟩=some (.int .i64 v.op.k)/\w'.cell? ⟨b1,off1+j*10+2,none⟩=some (.int .i64 v.op.width)/\w'.cell? ⟨b1,off1+j*10+3,none⟩=some (.int .i64 v.op.step)/\w'.cell? ⟨b1,off1+j*10+4,none⟩=some (.int .i64 v.op.side)/\w'.cell? ⟨b1,off1+j*10+5,none⟩=some (.int .i64 v.op.frm)/\w'.cell? ⟨b1,off1+j*10+6,none⟩=some (.int .i64 v.op.to)/\w'.cell? ⟨b1,off1+j*10+7,none⟩=some (.slice S v.op.s.length sc)/\w'.cell? ⟨b1,off1+j*10+8,none⟩=some (.slice J v.ins.length ic)/\w'.cell? ⟨b1,off1+j*10+9,none⟩=some (.slice Q v.p.length qc)) (first|go_keep|(exact ⟨qa1 hA x1,qa1 hA hc,qa1 hA y0,qa1 hA y1,qa1 hA y2,qa1 hA y3,qa1 hA y4,qa1 hA y5,qa1 hA y6,qa1 hA y7,qa1 hA y8,qa1 hA y9⟩))
         ((go_at_call 123;refine (gO.out _ (by exact F1.out) (by exact F2.out) (by exact F3.out) (by exact F4.out)).mono ?_;rintro e w9 ⟨S9,c9,rfl,Hz,Go,Ge,hA⟩))
        have HK:Below wr.heap.size wr w9:=⟨hA.os,hA.tape,hA.output,hA.size,hA.block⟩
        have HG:=hJ.trans (HK.mono hJ.size);clear y0 y1 y2 y3 y4 y5 y6 y7 y8 y9 hA x1 gO F1 F2 F3 F4
        by_cases h9:r.2=0
        ·have q1:(r.2 != 0)=false:=by simp [h9]
         have hD:=Ht.out.below HK (lrZ _);have Hd:=hf.out.below HK hf.out.lt;have g2:=HO.out.below HK (lrZ _);have GJ:=qa1 HK hc;have Gx:j+1<sh.length:=by omega
         obtain ⟨Sm,cm,ym,-⟩:=hD.at_ Gx;have fm:w9.frozen? ⟨g,j+1,none⟩=false:=by obtain ⟨vs,_,hk,_⟩:=hD;exact hk.frozen (j+1)
         have H4:=hD.set_ (i:=j+1) Hz Go Ge (hD.apart Hz (HT.out h9).1);have HS:=zI H4;have Gb:=zI (Hd.far (p:=⟨g,j+1,none⟩) gy (.slice S9 r.1.length c9));have gk:=HG.setCell (p:=⟨g,j+1,none⟩) soZ (.slice S9 r.1.length c9);have gi:=zI (g2.set_far (p:=⟨g,j+1,none⟩) Gl.out (.slice S9 r.1.length c9));have Gj:=zI (HL.out h9);have j3:((j:Int)+1)<((n.nodes.length+1:Nat):Int):=by omega
         have j6:((j:Int)+1).toNat=j+1:=by omega
         clear H4 hD Hd g2 h9 hc;have Gf:=zI Hz;clear Hz;go_wp2_with fail;go_roundw
         case rel=>exact ⟨k+1,by omega,by go_num,Gb.out,gk,gi.out,_,Gj.out,HS.out⟩
         case measure=>simp [intOf];omega
        ·have q1:(r.2 != 0)=true:=by simp [h9]
         have go:=Hv.out;rw [Gr.out h9] at go;have HC:=zI (go h9);obtain ⟨Gt,Gf⟩:=zd2 h9 Hz;clear Hz;clear h9 go;go_wp2_with fail
         go_ret3
         exact RefCheckP.err HC.out Gt.out HG
       ·obtain rfl:k=os.length:=by omega
        rw [Zg] at hn;have gQ:=λh6=>h7.out (by rw [hn]) h6
        have g3:=λh6=>Ha.out (by rw [hn]) h6
        have H1:=Hp.out (by rw [hn]);have gj:=gE.out;rw [hn] at H1 gj;have gj:sh=Nt.shapes n:=gj;subst gj;have H1:Nt.Good os (Nt.shapes n):=H1;have i2:¬((os.length:Int)<(n.nodes.length:Int)):=by omega
        have i3:¬(os.length<n.nodes.length):=by omega
        clear h0 hk hT;obtain ⟨g8,Gi,Gz,gt,Ht,hf,HO⟩:=zd7 gQ g3 H1 hn hq he hO;clear gQ g3 H1 hn hq he hO;have GL:=zI gV;clear gV;go_wp2_with fail;clear x1;obtain ⟨w5,rfl⟩:∃w5,w5=wr:=⟨wr,rfl⟩
        go_loopw [12,13,14] (λl m i wx=>∃k:Nat,k<=n.nodes.length+1/\i=.int .i64 k/\l=.int .i64 ((Nt.unusedTo n.nodes k).getLastD 0)/\m=.int .i64 ((Nt.unusedTo n.nodes k).length:Nat)/\Below w5.heap.size w5 wx) (λ_ _ i _=>n.nodes.length+1-(intOf i).toNat)
        case atStart=>exact ⟨0,Zt _,rfl,rfl,rfl,Ze1 _ _⟩
        case round=>
         obtain ⟨k,hk,rfl,rfl,rfl,H2⟩:=hrel;have hM:=hf.out.below H2 hf.out.lt;have hX:=hJ.trans (H2.mono hJ.size);have x0:wr.cell? ⟨w.heap.size,0,none⟩=some (.slice A n.inn.length c):=by rw [hM.cell];rfl
         have x1:wr.cell? ⟨w.heap.size,1,none⟩=some (.slice N n.nodes.length d):=by rw [hM.cell];rfl
         have g5:=Nt.unusedTo_len n.nodes k
         by_cases hT:k<=n.nodes.length
         ·have HS:=zI (Nt.unusedTo_succ n.nodes k)
          obtain ⟨L0,hL0⟩:∃L0,(Nt.unusedTo n.nodes k).getLastD 0=L0:=⟨_,rfl⟩
          obtain ⟨c0,hc0⟩:∃c0,(Nt.unusedTo n.nodes k).length=c0:=⟨_,rfl⟩
          rw [hc0] at g5;rw [hL0,hc0];have gT:=Nt.count_used n.nodes (k:Int);have hh:=qel A N c d n (k:Int) wr HE.out (HR.out.below hX (lrZ _));generalize Nt.count n.nodes (k:Int)=cn at *;obtain ⟨Gy,gL,gY,hQ,gU⟩:=zd5 hL0 hc0 gT hh hM;clear hL0 hc0 gT hh hM;go_wp2_with fail;refine (hQ.out).mono ?_;rintro e w6 ⟨rfl,Gk⟩;have HB:=H2.trans (Gk.mono H2.size);clear x0 x1
          by_cases hz:cn=0
          ·have HU:=zI (gY.out.1 hz)
           have e1:((cn:Int)==0)=true:=by simp [hz]
           have e2:(cn==0)=true:=by simp [hz]
           subst hz;go_wp2_with fail;go_roundw
           case rel=>exact ⟨k+1,by omega,by go_num,by rw [HS.out,HU.out];simp,by rw [HS.out,HU.out,inZ sZ,Ze,gL.out];go_num,HB⟩
           case measure=>simp [intOf];omega
          ·have HU:=zI (show Nt.isUsed n.nodes (k:Int)=true by
            cases h:Nt.isUsed n.nodes (k:Int)
            ·exact absurd (gY.out.2 h) hz
            ·rfl)
           have e1:((cn:Int)==0)=false:=by simp;omega
           have e2:(cn==0)=false:=by simp;omega
           clear hz;go_wp2_with fail;go_roundw
           case rel=>exact ⟨k+1,by omega,by go_num,by rw [HS.out,HU.out,ipZ rfl,Gy.out],by rw [HS.out,HU.out,ipZ rfl,gL.out],HB⟩
           case measure=>simp [intOf];omega
         ·obtain rfl:k=n.nodes.length+1:=by omega
          rw [Nt.unusedTo_all];have i4:¬(((n.nodes.length+1:Nat):Int)<=(n.nodes.length:Int)):=by omega
          have gM:(Nt.unused n.nodes).getLastD 0=Nt.loss n.nodes:=rfl;rw [gM];have hB:Nt.lossOk n.nodes=decide ((Nt.unused n.nodes).length=1/\Nt.loss n.nodes≠0):=rfl;rw [Nt.unusedTo_all] at g5;clear gM
          by_cases Hn:(Nt.unused n.nodes).length=1
          rotate_left
          ·have HC:=zI (g8.out (by rw [hB];simp [Hn]))
           have e1:(((Nt.unused n.nodes).length:Int) != 1)=true:=by rw [bne_iff_ne];omega
           have e2:((Nt.unused n.nodes).length != 1)=true:=by rw [bne_iff_ne];omega
           generalize (Nt.unused n.nodes).length=ul at *;have gr:=zI hB;clear hB;clear Hn;go_wp2_with fail
           go_ret3
           exact RefCheckP.err HC.out oZ hX
          ·by_cases Hx:Nt.loss n.nodes=0
           ·have HC:=zI (g8.out (by rw [hB];simp [Hx]))
            rw [Hn,Hx];clear Hn Hx hB;go_wp2_with fail
            go_ret3
            exact RefCheckP.err HC.out oZ hX
           ·have gg:Nt.lossOk n.nodes=true:=by rw [hB];simp [Hn,Hx]
            have H3:=(Nt.loss_mem gg).2;have HQ:=Gi.out gg;obtain ⟨l,hl⟩:∃l:Nat,Nt.loss n.nodes=(l:Int):=⟨(Nt.loss n.nodes).toNat,by omega⟩
            have Hl:=zI hl;rw [Hn];rw [hl] at H3 HQ Hx ⊢;rw [tnZ] at HQ;have gK:l<(Nt.shapes n).length:=by omega
            have gh:=Gz.out (l:Int) (.inr ((HM.out _).2 oZ));rw [tnZ,qa8 gK] at gh;rw [qa8 gK] at HQ;have hY:=Ht.out.below H2 (lrZ _);obtain ⟨Sl,sc,GK,gB,gH,GG,-⟩:=hY.at_ gK;have g1:=qao Sl sc _ wr gh gB;have e1:((l:Int)==0)=false:=by simp;omega
            have e1':(l==0)=false:=by simp;omega
            have l0:(0:Int)<=(l:Int):=by omega
            have l1:(l:Int)<((n.nodes.length+1:Nat):Int):=by omega
            generalize (Nt.shapes n)[l]=s at *;obtain ⟨H7,gS,Hl,GA,GP,GO,GM,gr⟩:=zd8 hY HQ hl g1 gB gh gg hB;clear hY HQ hl g1 gB gh gg hB;clear Hn Hx;go_wp2_with fail;refine (GA.out).mono ?_;rintro e w7 ⟨rfl,rfl⟩
            by_cases hp:Safe.prod s=1
            ·have HC:=zI (show Nt.check n=0 by rw [gS.out,inZ (by simp [hp])])
             have e2:(Safe.prod s != 1)=false:=by simp [hp]
             clear hp;go_wp2_with fail
             go_ret3
             exact ⟨hX,.inl ⟨HC.out,g,by rw [Hl.out];rfl,by omega,H7.out⟩⟩
            ·have HC:=zI (show Nt.check n=23 by rw [gS.out,ipZ hp])
             have e2:(Safe.prod s != 1)=true:=by simp [hp]
             clear hp;go_wp2_with fail
             go_ret3
             exact RefCheckP.err HC.out oZ hX
namespace Pn
theorem params_at {ns:List NodeD} {k m:Nat} (h:k<ns.length) (hm:m<ns[k].p.length):(ns.flatMap (·.p)).getD (from_ ns k+m) []=ns[k].p[m]:=by
 have e:ns.flatMap (·.p)=(ns.take k).flatMap (·.p)++(ns[k].p++(ns.drop (k+1)).flatMap (·.p)):=by
  rw [←List.flatMap_cons,←Zd h,←Zj,Zn]
 rw [e];unfold from_;rw [gdZ,Zl oZ,Nat.add_sub_cancel_left,Zm hm,geZ hm]
 rfl
theorem params_lt {ns:List NodeD} {k m:Nat} (h:k<ns.length) (hm:m<ns[k].p.length):from_ ns k+m<(ns.flatMap (·.p)).length:=by
 have e:ns.flatMap (·.p)=(ns.take k).flatMap (·.p)++(ns[k].p++(ns.drop (k+1)).flatMap (·.p)):=by
  rw [←List.flatMap_cons,←Zd h,←Zj,Zn]
 rw [e,Ze,Ze];unfold from_;omega
theorem from_all (ns:List NodeD):from_ ns ns.length=(ns.flatMap (·.p)).length:=by unfold from_;rw [Zg]
theorem fits_few {n:NetD} {ps:List Ten} {x:Ten} (hc:Nt.check n=0) (h:ps.length≠(Nt.params n).length):fits n ps x=20:=by
 unfold fits;rw [inZ oZ,ipZ h]
theorem fits_bad {n:NetD} {ps:List Ten} {x:Ten} {k:Nat} (hc:Nt.check n=0) (hk:k<(Nt.params n).length) (h:tenIs (Ly.got ps k) ((Nt.params n).getD k [])=false):fits n ps x=20:=by
 unfold fits;rw [inZ oZ]
 split
 ·rfl
 ·rw [ipZ (parOk_bad hk h)]
theorem fits_end {n:NetD} {ps:List Ten} {x:Ten} (hc:Nt.check n=0) (hl:ps.length=(Nt.params n).length) (hp:parOk ps (Nt.params n) (Nt.params n).length=true):fits n ps x=if tenIs x n.inn then 0 else 20:=by
 unfold fits;rw [inZ oZ,inZ oZ,inZ (by simp [hp])]
end Pn
set_option maxRecDepth 20000 in
theorem qeY (S C:Option Addr) (c d:Nat) (T:Option Addr) (tc:Nat) (t:Ten) (s:List Int) (w:Zp1) (hT:TenIn w S C c d t) (hI:Ints .i64 w T s) (hs:s.length<=1048576):
  Calls Tryz.prog 70 #[.agg #[.slice S t.s.length c,.slice C t.c.length d],.slice T s.length tc] w λe w'=>e=.returned (.bool (Pn.tenIs t s))/\Below w.heap.size w w':=by
 have hk:=Blk.new w 30 #[.slice S t.s.length c,.slice C t.c.length d];have hb:Later w (w.alloc (.cells #[.slice S t.s.length c,.slice C t.c.length d] 30)):=(Later.refl w).alloc _;have l1:=hT.l1;have l2:=hT.l2;obtain ⟨Hk,ha,HT,HI⟩:=zd4 hk hb hT hI;clear hk hb hT hI;go_enter Tryz.func70,Tryz.ntmps70;go_upto_region 1 with fail;generalize w.alloc (.cells #[.slice S t.s.length c,.slice C t.c.length d] 30)=w1 at *;have x0:w1.cell? ⟨w.heap.size,0,none⟩=_:=Hk.out.cell 0;have x1:w1.cell? ⟨w.heap.size,1,none⟩=_:=Hk.out.cell 1;simp at x0 x1;have hr:=λ(W:Zp1) (h:Later w1 W)=>qaH S c t.s W oZ ((HT.out.later (ha.out.trans h)).r.1)
 have hz:=λ(W:Zp1) (h:Later w1 W) (hg:Sh.right t.s=true)=>qao S c t.s W hg ((HT.out.later (ha.out.trans h)).r.1)
 have hq:=λ(W:Zp1) (h:Later w1 W)=>qbq S T c tc t.s s W oZ oZ ((HT.out.later (ha.out.trans h)).r.1) (HI.out.below (ha.out.trans h) (lrZ _))
 by_cases g1:Sh.right t.s=true
 case neg=>
  have HE:=zI (show Pn.tenIs t s=false by unfold Pn.tenIs;rw [Tn.right_false (by simpa using g1)];rfl);rw [show Sh.right t.s=false by simpa using g1] at hr;have Hr:=zI hr;clear hr;clear g1 hz hq;have KF:=zI (show ∀Xw,Later w1 Xw->Xw.cell? ⟨w.heap.size,0,none⟩=some (.slice S t.s.length c)/\Xw.cell? ⟨w.heap.size,1,none⟩=some (.slice C t.c.length d) from λXw h=>⟨h.cell x0,h.cell x1⟩);refine Zm1 ?_;refine Zl1 (S:=λXw=>Xw.cell? ⟨w.heap.size,0,none⟩=some (.slice S t.s.length c)/\Xw.cell? ⟨w.heap.size,1,none⟩=some (.slice C t.c.length d)) krZ (KF.out _ Lau) (λhHeld=>?_);refine tk 0 ?_;refine tk 1 ?_;refine rd 2 λK hK=>?_
  simp only [ga,gs,gz]
  go_simp
  go_at_call 122;(with_reducible refine (Hr.out _ (Lau:Later w1 _)).mono ?_);rintro e wg ⟨rfl,rfl⟩
  try go_wp2_with fail
  refine hK.out _ _ (KF.out _ Lau) (λhHeld=>?_);clear hK K
  try simp only [ga,gs,gz,Act.put,sa,sz,ss]
  refine tk 3 ?_;refine tn 4 ?_;refine tn 5 ?_;refine tn 6 ?_;refine tn 7 ?_;refine tn 8 ?_;refine tn 9 ?_;refine tn 10 ?_;refine tk 11 ?_;refine tk 12 ?_;refine tn 13 ?_;refine tn 14 ?_;refine tn 15 ?_;refine tn 16 ?_;refine tk 17 ?_;refine tk 18 ?_;clear KF;refine Zn1 krZ ?_ _;refine Zd1 ?_;go_wp2_with fail;go_ret;exact ⟨by (rw [HE.out]<;>rfl),Later.drew ha.out⟩
 rw [g1] at hr;have hz:=λ(W:Zp1) (h:Later w1 W)=>hz W h g1
 by_cases g2:(t.c.length:Int)=Safe.prod t.s
 case neg=>
  have HE:=zI (show Pn.tenIs t s=false by unfold Pn.tenIs;rw [Tn.right_true g1,decide_eq_false g2];rfl);have q2:((t.c.length:Int)==Safe.prod t.s)=false:=by simpa using g2
  generalize Safe.prod t.s=pr at *;obtain ⟨Hr,Hz⟩:=zd2 hr hz;clear hr hz;clear g1 hq;have KF:=zI (show ∀Xw,Later w1 Xw->Xw.cell? ⟨w.heap.size,0,none⟩=some (.slice S t.s.length c)/\Xw.cell? ⟨w.heap.size,1,none⟩=some (.slice C t.c.length d) from λXw h=>⟨h.cell x0,h.cell x1⟩);refine Zm1 ?_;refine Zl1 (S:=λXw=>Xw.cell? ⟨w.heap.size,0,none⟩=some (.slice S t.s.length c)/\Xw.cell? ⟨w.heap.size,1,none⟩=some (.slice C t.c.length d)) krZ (KF.out _ Lau) (λhHeld=>?_);refine tk 0 ?_;refine tk 1 ?_;refine rd 2 λK hK=>?_
  simp only [ga,gs,gz]
  go_simp
  go_at_call 122;(with_reducible refine (Hr.out _ (Lau:Later w1 _)).mono ?_);rintro e wg ⟨rfl,rfl⟩
  try go_wp2_with fail
  refine hK.out _ _ (KF.out _ Lau) (λhHeld=>?_);clear hK K
  try simp only [ga,gs,gz,Act.put,sa,sz,ss]
  refine tk 3 ?_;refine tk 4 ?_;refine tk 5 ?_;refine tk 6 ?_;refine tk 7 ?_;refine tk 8 ?_;refine rd 9 λK hK=>?_
  simp only [ga,gs,gz]
  go_simp
  go_at_call 125;(with_reducible refine (Hz.out _ (Lau:Later w1 _)).mono ?_);rintro e wg ⟨rfl,rfl⟩
  try go_wp2_with fail
  refine hK.out _ _ (KF.out _ Lau) (λhHeld=>?_);clear hK K
  try simp only [ga,gs,gz,Act.put,sa,sz,ss]
  refine tk 10 ?_;refine tk 11 ?_;refine tk 12 ?_;refine tn 13 ?_;refine tn 14 ?_;refine tn 15 ?_;refine tn 16 ?_;refine tk 17 ?_;refine tk 18 ?_;clear KF;refine Zn1 krZ ?_ _;refine Zd1 ?_;go_wp2_with fail;go_ret;exact ⟨by (rw [HE.out]<;>rfl),Later.drew ha.out⟩
 have HE:=zI (show Pn.tenIs t s=decide (t.s=s) by unfold Pn.tenIs;rw [Tn.right_true g1,decide_eq_true g2,Bool.true_and];exact Bool.beq_eq_decide_eq ..);have q2:((t.c.length:Int)==Safe.prod t.s)=true:=by simpa using g2
 generalize Safe.prod t.s=pr at *;generalize decide (t.s=s)=bb at *;obtain ⟨Hr,Hz,Hq⟩:=zd3 hr hz hq;clear hr hz hq;clear g1;have KF:=zI (show ∀Xw,Later w1 Xw->Xw.cell? ⟨w.heap.size,0,none⟩=some (.slice S t.s.length c)/\Xw.cell? ⟨w.heap.size,1,none⟩=some (.slice C t.c.length d) from λXw h=>⟨h.cell x0,h.cell x1⟩);refine Zm1 ?_;refine Zl1 (S:=λXw=>Xw.cell? ⟨w.heap.size,0,none⟩=some (.slice S t.s.length c)/\Xw.cell? ⟨w.heap.size,1,none⟩=some (.slice C t.c.length d)) krZ (KF.out _ Lau) (λhHeld=>?_);refine tk 0 ?_;refine tk 1 ?_;refine rd 2 λK hK=>?_
 simp only [ga,gs,gz]
 go_simp
 go_at_call 122;(with_reducible refine (Hr.out _ (Lau:Later w1 _)).mono ?_);rintro e wg ⟨rfl,rfl⟩
 try go_wp2_with fail
 refine hK.out _ _ (KF.out _ Lau) (λhHeld=>?_);clear hK K
 try simp only [ga,gs,gz,Act.put,sa,sz,ss]
 refine tk 3 ?_;refine tk 4 ?_;refine tk 5 ?_;refine tk 6 ?_;refine tk 7 ?_;refine tk 8 ?_;refine rd 9 λK hK=>?_
 simp only [ga,gs,gz]
 go_simp
 go_at_call 125;(with_reducible refine (Hz.out _ (Lau:Later w1 _)).mono ?_);rintro e wg ⟨rfl,rfl⟩
 try go_wp2_with fail
 refine hK.out _ _ (KF.out _ Lau) (λhHeld=>?_);clear hK K
 try simp only [ga,gs,gz,Act.put,sa,sz,ss]
 refine tk 10 ?_;refine tk 11 ?_;refine tk 12 ?_;refine tk 13 ?_;refine tk 14 ?_;refine tk 15 ?_;refine rd 16 λK hK=>?_
 simp only [ga,gs,gz]
 go_simp
 go_at_call 31;(with_reducible refine (Hq.out _ (Lau:Later w1 _)).mono ?_);rintro e wg ⟨rfl,qn,rfl⟩
 try go_wp2_with fail
 refine hK.out _ _ (KF.out _ Lau) (λhHeld=>?_);clear hK K
 try simp only [ga,gs,gz,Act.put,sa,sz,ss]
 refine tk 17 ?_;refine tk 18 ?_;clear KF;refine Zn1 krZ ?_ _;refine Zd1 ?_;go_wp2_with fail;go_ret;exact ⟨by (rw [HE.out]<;>rfl),Later.drewN ha.out _⟩
def SmallC (n:NetD) (w:Zp1) (e:Ending) (w':Zp1):Prop:=∃b,e=.returned (.bool b)/\(b=true->n.nodes.length<=300)/\Below w.heap.size w w'
set_option maxRecDepth 20000 in
theorem small_14 (A N P XS XC:Option Addr) (c d cp xc xd:Nat) (n:NetD) (ps:List Ten) (x:Ten) (w:Zp1) (hok:n.ok) (hR:NetR w A N n) (hP:Tns w P ps) (lP:ps.length<=1048576) (hX:TenIn w XS XC xc xd x):
  Calls Tryz.prog 20 #[.agg #[.slice A n.inn.length c,.slice N n.nodes.length d,.slice P ps.length cp,.slice XS x.s.length xc,.slice XC x.c.length xd]] w (SmallC n w):=by
 have hO:=hok.2.1;have hN:=hok.1;have lx1:=hX.l1;have lx2:=hX.l2;have hk:=Blk.new w 61 #[.slice A n.inn.length c,.slice N n.nodes.length d,.slice P ps.length cp,.slice XS x.s.length xc,.slice XC x.c.length xd];have ho:Later w (w.alloc (.cells #[.slice A n.inn.length c,.slice N n.nodes.length d,.slice P ps.length cp,.slice XS x.s.length xc,.slice XC x.c.length xd] 61)):=(Later.refl w).alloc _;obtain ⟨hE,HR,HP,Hk,hs⟩:=zd5 hok hR hP hk ho;clear hok hR hP hk ho;clear hX;go_enter Tryz.func20,Tryz.ntmps20;go_wp2_with fail;generalize w.alloc (.cells #[.slice A n.inn.length c,.slice N n.nodes.length d,.slice P ps.length cp,.slice XS x.s.length xc,.slice XC x.c.length xd] 61)=w1 at *
 go_loopw [3,27] (λt i wx=>∃(k:Nat) (z:Int),k<=ps.length/\i=.int .i64 (k:Int)/\t=.int .i64 z/\0<=z/\z<=3145728+(k:Int)*2097153/\Later w1 wx) (λ_ i _=>ps.length-(intOf i).toNat)
 case atStart=>exact ⟨0,_,Zt _,rfl,rfl,by omega,by omega,Later.refl _⟩
 case round=>
  obtain ⟨k,z,hk,rfl,rfl,hI,hj,ha⟩:=hrel;have hq:(k:Int)*2097153<=1048576*2097153:=Int.mul_le_mul_of_nonneg_right oZ oZ
  by_cases hd:k<ps.length
  ·obtain ⟨b,off,S',sc,C',cc,rfl,-,p0,p1,hT⟩:=(HP.out.later (hs.out.trans ha)).at_ hd
   have t1:=hT.l1;have t2:=hT.l2;generalize Ly.got ps k=t at *;have hc:z+(1+(t.s.length:Int)+(t.c.length:Int))<=3145728+((k:Int)+1)*2097153:=by rw [Int.add_mul];omega
   have hh:z<=2199030000000:=by omega
   have hp:=ha.alloc (.cells #[.slice S' t.s.length sc,.slice C' t.c.length cc] 30);clear hT hj hq;obtain ⟨hl,hz,hK⟩:=zd3 hc ha hp;clear hc ha hp;go_wp2_with fail;go_roundw
   case rel=>exact ⟨k+1,_,by omega,by go_num,rfl,by omega,hl.out,hK.out⟩
   case measure=>simp [intOf];omega
  ·obtain rfl:k=ps.length:=by omega
   have hf:=ha.blk Hk.out;have y0:wr.cell? ⟨w.heap.size,0,none⟩=_:=hf.cell 0;have y1:wr.cell? ⟨w.heap.size,1,none⟩=_:=hf.cell 1;simp at y0 y1;have hh:z<=2199030000000:=by omega
   clear hj hq;have hv:=hs.out.trans ha;obtain ⟨hQ,hz,hw⟩:=zd3 hf ha hv;clear hf ha hv;go_wp2_with fail;obtain ⟨wo,rfl⟩:∃wo,wo=wr:=⟨wr,rfl⟩
   go_loopw [3,46] (λt i wx=>∃(k:Nat) (z:Int),k<=n.nodes.length/\i=.int .i64 (k:Int)/\t=.int .i64 z/\3*(k:Int)<=z/\z<=2199030000000/\Later wo wx) (λ_ i _=>n.nodes.length-(intOf i).toNat)
   case atStart=>exact ⟨0,_,Zt _,rfl,rfl,by omega,hh,Later.refl _⟩
   case round=>
    obtain ⟨k,z,hk,rfl,rfl,hI,hj,ha⟩:=hrel
    by_cases hd:k<n.nodes.length
    ·obtain ⟨b,off,S,sc,J,ic,Q,qc,rfl,he,-,-,-⟩:=HR.out.2.at_ hd
     have hb:=hE.out.2.2 _ (gmZ hd);have hU:=hb.2.1;have hV:=hb.2.2.1;have hW:=hb.2.2.2.1;have hy:=hb.2.2.2.2.1;have hx:=he.2.2.2;generalize n.nodes[k]=v at *;have hg:=hw.out.trans ha;obtain ⟨⟨y0,y1,y2,y3,y4,y5,y6,y7,y8,y9⟩,-⟩:=he.below hg;have hr:=hg.alloc (.cells #[.int .i64 v.op.kind,.int .i64 v.op.k,.int .i64 v.op.width,.int .i64 v.op.step,.int .i64 v.op.side,.int .i64 v.op.frm,.int .i64 v.op.to,.slice S v.op.s.length sc,.slice J v.ins.length ic,.slice Q v.p.length qc] 127);have hG:=ha.alloc (.cells #[.int .i64 v.op.kind,.int .i64 v.op.k,.int .i64 v.op.width,.int .i64 v.op.step,.int .i64 v.op.side,.int .i64 v.op.frm,.int .i64 v.op.to,.slice S v.op.s.length sc,.slice J v.ins.length ic,.slice Q v.p.length qc] 127);obtain ⟨hM,hJ,hA,hC,hL,hz⟩:=zd6 he hb hx hy hg ha;clear he hb hx hy hg ha;go_wp2_with fail;clear y0 y1 y2 y3 y4 y5 y6 y7 y8 y9;generalize wr.alloc (.cells #[.int .i64 v.op.kind,.int .i64 v.op.k,.int .i64 v.op.width,.int .i64 v.op.step,.int .i64 v.op.side,.int .i64 v.op.frm,.int .i64 v.op.to,.slice S v.op.s.length sc,.slice J v.ins.length ic,.slice Q v.p.length qc] 127)=w2 at *
     go_loop [3,64] (λt i=>∃(m:Nat) (z2:Int),m<=v.p.length/\i=.int .i64 (m:Int)/\t=.int .i64 z2/\z+3<=z2/\z2<=z+3+2097152+(m:Int)*1048577) (λ_ i=>v.p.length-(intOf i).toNat)
     case atStart=>exact ⟨0,_,Zt _,rfl,rfl,by omega,by omega⟩
     case round=>
      obtain ⟨m,z2,hm,rfl,rfl,hS,hn⟩:=hrel;have hi:(m:Int)*1048577<=1048576*1048577:=Int.mul_le_mul_of_nonneg_right oZ oZ
      by_cases hu:m<v.p.length
      ·obtain ⟨b5,o5,Ss,cs,rfl,-,ht,-⟩:=hA.out m hu
       have hD:=qa1 hr ht;have hH:=hC.out _ (gmZ hu);generalize v.p[m]=s at *;have hc:z2+(1+(s.length:Int))<=z+3+2097152+((m:Int)+1)*1048577:=by rw [Int.add_mul];omega
       have hh:z2<=3399000000000:=by omega
       clear ht hn hi;have hl:=zI hc;clear hc;go_wp2_with fail
       go_round
       case rel=>exact ⟨m+1,_,by omega,by go_num,rfl,by omega,hl.out⟩
       case measure=>simp [intOf];omega
      ·obtain rfl:m=v.p.length:=by omega
       by_cases h3:800<z2
       ·have d3:decide (800<z2)=true:=by simpa using h3
        clear h3 hi hn;go_wp2_with fail;go_ret;exact ⟨_,rfl,by simp,hr⟩
       ·have d3:decide (800<z2)=false:=by simpa using h3
        have hB:3*((k:Int)+1)<=z2:=by omega
        have hF:z2<=2199030000000:=by omega
        clear h3 hi hn;go_wp2_with fail;go_roundw
        case rel=>exact ⟨k+1,_,by omega,by go_num,rfl,hB,hF,hG⟩
        case measure=>simp [intOf];omega
    ·obtain rfl:k=n.nodes.length:=by omega
     go_wp2_with fail;go_ret;refine ⟨_,rfl,λh=>?_,hw.out.trans ha⟩;have h:z<=800:=by simpa using h
     omega
theorem qay {W:Zp1} {g:Nat} {t:TypeId} {v0 v1 v2 v3 v4:Value} (h:Blk W g t #[v0,v1,v2,v3,v4]):W.cell? ⟨g,0,none⟩=some v0/\W.cell? ⟨g,1,none⟩=some v1/\W.cell? ⟨g,2,none⟩=some v2/\W.cell? ⟨g,3,none⟩=some v3/\W.cell? ⟨g,4,none⟩=some v4:=
 ⟨h.cell 0,h.cell 1,h.cell 2,h.cell 3,h.cell 4⟩
set_option maxRecDepth 20000 in
theorem fits_14 (A N P XS XC:Option Addr) (c d cp xc xd:Nat) (n:NetD) (ps:List Ten) (x:Ten) (w:Zp1) (hok:n.ok) (hR:NetR w A N n) (hd:n.nodes.length<=d) (hc:n.inn.length<=c) (hcm:c<=9223372036854775807) (hP:Tns w P ps) (lP:ps.length<=1048576) (hX:TenIn w XS XC xc xd x):
  Calls Tryz.prog 22 #[.agg #[.slice A n.inn.length c,.slice N n.nodes.length d,.slice P ps.length cp,.slice XS x.s.length xc,.slice XC x.c.length xd]] w λe w'=>e=.returned (.int .i64 (Pn.fits n ps x))/\Below w.heap.size w w':=by
 have HD:=hok.1;have hk:=Blk.new w 61 #[.slice A n.inn.length c,.slice N n.nodes.length d,.slice P ps.length cp,.slice XS x.s.length xc,.slice XC x.c.length xd];have h6:Later w (w.alloc (.cells #[.slice A n.inn.length c,.slice N n.nodes.length d,.slice P ps.length cp,.slice XS x.s.length xc,.slice XC x.c.length xd] 61)):=(Later.refl w).alloc _;obtain ⟨hD,HR,HP,Hk,hZ,HX⟩:=zd6 hok hR hP hk h6 hX;clear hok hR hP hk h6 hX;go_enter Tryz.func22,Tryz.ntmps22;go_upto_region 1 with fail;generalize w.alloc (.cells #[.slice A n.inn.length c,.slice N n.nodes.length d,.slice P ps.length cp,.slice XS x.s.length xc,.slice XC x.c.length xd] 61)=w1 at *;obtain ⟨y0,y1,y2,y3,y4⟩:=qay Hk.out;go_wp2_with fail;refine (ref_14 A N c d n w1 hD.out (HR.out.below hZ.out (lrZ _))).mono ?_;rintro e w2 ⟨N',d',rfl,h0,Hl,HA,hJ⟩;have h7:=hZ.out.call hJ;have Hd:=(show Later w1 w2 from hJ).blk Hk.out;clear hJ y0 y1 y2 y3 y4;obtain ⟨Hf,h3,h4⟩:=zd3 h7 Hd h0;clear h7 Hd h0;go_wp2_with fail;refine (qeH A N' c d' n w2 hD.out h4.out Hl hc hcm).mono ?_;rintro e w3 ⟨hW,hS⟩;have hu:Later w2 w3:=hW;have hI:=Hf.out.trans hu;have hA:=hu.blk h3.out;clear hW Hk h3 Hf h4;rcases hS with ⟨hv,g,rfl,-,-⟩|⟨hv,rfl⟩
 rotate_left
 ·have HE:=zI (show Pn.fits n ps x=Nt.check n by unfold Pn.fits;rw [ipZ hv])
  have d2:(Nt.check n != 0)=true:=by simpa using hv
  clear hv;generalize Nt.check n=ge at *;obtain ⟨hH,hK,Hm⟩:=zd3 hI hA hu;clear hI hA hu;go_wp2_with fail;go_ret;exact ⟨by (rw [HE.out]<;>rfl),hH.out⟩
 have HC:=zI hv;clear hv;have hN:∀j (hj:j<n.nodes.length),n.nodes[j].p.length<=1048576:=λj hj=>(hD.out.2.2 _ (gmZ hj)).2.2.2.1
 obtain ⟨y0,y1,y2,y3,y4⟩:=qay hA;obtain ⟨hH,hK,Hm,HH⟩:=zd4 hI hA hu hN;clear hI hA hu hN;go_wp2_with fail;clear y0 y1 y2 y3 y4
 go_loopw [6,26] (λt i wx=>∃k:Nat,k<=n.nodes.length/\i=.int .i64 (k:Int)/\t=.int .i64 (Pn.from_ n.nodes k:Int)/\Pn.from_ n.nodes k<=ps.length/\Pn.parOk ps (Nt.params n) (Pn.from_ n.nodes k)=true/\Later w3 wx) (λ_ i _=>n.nodes.length-(intOf i).toNat)
 case atStart=>exact ⟨0,Zt _,rfl,rfl,Zt _,rfl,Later.refl _⟩
 case round=>
  obtain ⟨k,hk,rfl,rfl,hE,hp,hh⟩:=hrel
  by_cases hw:k<n.nodes.length
  ·obtain ⟨b,off,S,sc,J,ic,Q,qc,rfl,hC,-,-,-⟩:=HR.out.2.at_ hw
   have hi:=hD.out.2.2 _ (gmZ hw);have hN:=hi.2.2.2.1;have h2:=hi.2.2.2.2.1;have Hg:=hC.2.2.2;have h5:=λm hm=>Pn.params_at (ns:=n.nodes) (m:=m) hw hm
   have h9:=λm hm=>Pn.params_lt (ns:=n.nodes) (m:=m) hw hm
   have h1:=Pn.from_succ hw;generalize n.nodes[k]=v at *;have hG:=hH.out.trans hh;obtain ⟨⟨y0,y1,y2,y3,y4,y5,y6,y7,y8,y9⟩,-⟩:=hC.below hG;have hY:=hG.alloc (.cells #[.int .i64 v.op.kind,.int .i64 v.op.k,.int .i64 v.op.width,.int .i64 v.op.step,.int .i64 v.op.side,.int .i64 v.op.frm,.int .i64 v.op.to,.slice S v.op.s.length sc,.slice J v.ins.length ic,.slice Q v.p.length qc] 127);have Ha:=hh.alloc (.cells #[.int .i64 v.op.kind,.int .i64 v.op.k,.int .i64 v.op.width,.int .i64 v.op.step,.int .i64 v.op.side,.int .i64 v.op.frm,.int .i64 v.op.to,.slice S v.op.s.length sc,.slice J v.ins.length ic,.slice Q v.p.length qc] 127);obtain ⟨Hy,Hn,Hj,Hr,HB,Hh,Ho,Hw,hL⟩:=zd9 hC hi Hg h2 hG hh h5 h9 h1;obtain ⟨Ht,Hp,hV⟩:=zd3 hp hY Ha;clear hC hi Hg h2 hG hh h5 h9 h1 hp hY Ha;go_wp2_with fail;clear y0 y1 y2 y3 y4 y5 y6 y7 y8 y9;generalize wr.alloc (.cells #[.int .i64 v.op.kind,.int .i64 v.op.k,.int .i64 v.op.width,.int .i64 v.op.step,.int .i64 v.op.side,.int .i64 v.op.frm,.int .i64 v.op.to,.slice S v.op.s.length sc,.slice J v.ins.length ic,.slice Q v.p.length qc] 127)=w4 at *;generalize Pn.from_ n.nodes k=fr at *;obtain ⟨wo,rfl⟩:∃wo,wo=wr:=⟨wr,rfl⟩
   go_loopw [6,33] (λt i wx=>∃m:Nat,m<=v.p.length/\i=.int .i64 (m:Int)/\t=.int .i64 ((fr+m:Nat):Int)/\fr+m<=ps.length/\Pn.parOk ps (Nt.params n) (fr+m)=true/\Later w4 wx) (λ_ i _=>v.p.length-(intOf i).toNat)
   case atStart=>exact ⟨0,Zt _,rfl,rfl,hE,Ht.out,Later.refl _⟩
   case round=>
    obtain ⟨m,hm,rfl,rfl,Hq,hr,ha⟩:=hrel;have hb:=Hp.out.trans ha;obtain ⟨y0,y1,y2,y3,y4⟩:=qay ((hV.out.trans ha).blk hK.out)
    by_cases hF:m<v.p.length
    ·obtain ⟨b5,o5,Ss,cs,rfl,-,Hz,hz,HG,HF⟩:=(Hj.out.below hb (lrZ _)) m hF
     have Hv:=Hr.out _ (gmZ hF);have hM:=Ho.out m hF;have hs:=Hw.out m hF;generalize v.p[m]=s at *
     by_cases h8:ps.length<=fr+m
     ·have HE:=zI (Pn.fits_few (x:=x) HC.out (show ps.length≠(Nt.params n).length by unfold Nt.params;omega))
      have q1:((fr+m:Nat):Int)≥(ps.length:Int):=by omega
      have q2:decide (((fr+m:Nat):Int)≥(ps.length:Int))=true:=by simp;omega
      clear h8 hM hs;obtain ⟨hn,hy,hQ,Hu⟩:=zd4 hb ha hr hz;clear hb ha hr hz;go_wp2_with fail;go_ret;exact ⟨by (rw [HE.out]<;>rfl),hn.out⟩
     have q1:((fr+m:Nat):Int)<(ps.length:Int):=by omega
     have q0:fr+m<ps.length:=by omega
     have q2:decide ((ps.length:Int)<=((fr+m:Nat):Int))=false:=by simp;omega
     obtain ⟨b6,o6,T',tc,C',cc,rfl,-,p0,p1,hT⟩:=(HP.out.later hb).at_ q0;have ht:=λh=>Pn.fits_bad (ps:=ps) (x:=x) (k:=fr+m) HC.out hs h
     have hg:=λh=>Pn.parOk_succ hr h
     rw [show (Nt.params n).getD (fr+m) []=s from hM] at ht hg;clear hM hs h8;generalize Ly.got ps (fr+m)=t at *;have hf:=qeY T' C' tc cc Ss cs t s wr hT hz oZ;obtain ⟨hn,hy,hQ,Hu,hO,hB,HT⟩:=zd7 hb ha hr hz ht hg hT;clear hb ha hr hz ht hg hT;cases htr:Pn.tenIs t s
     ·have HE:=zI (hO.out htr)
      rw [htr] at hf;have hq:=zI hf;clear hf;clear htr;go_wp2_with fail;refine (hq.out).mono ?_;rintro e w5 ⟨rfl,ho⟩;go_wp2_with fail;go_ret;exact ⟨by (rw [HE.out]<;>rfl),hn.out.call ho⟩
     ·have Hb:=hB.out htr
      rw [htr] at hf;obtain ⟨hq,Hi⟩:=zd2 hf Hb;clear hf Hb;clear htr;go_wp2_with fail;refine (hq.out).mono ?_;rintro e w5 ⟨rfl,ho⟩;have Hc:=hy.out.call ho;clear ho;have Hx:=zI Hc;clear Hc;go_wp2_with fail;go_roundw
      case rel=>exact ⟨m+1,by omega,by go_num,by go_num,by omega,Hi.out,Hx.out⟩
      case measure=>simp [intOf];omega
    ·obtain rfl:m=v.p.length:=by omega
     have hU:=hV.out.trans ha;obtain ⟨Hs,hQ,hn⟩:=zd3 hU hr hb;clear hU hr hb;go_wp2_with fail;go_roundw
     case rel=>exact ⟨k+1,by omega,by go_num,by rw [hL.out],by rw [hL.out];exact Hq,by rw [hL.out];exact hQ.out,Hs.out⟩
     case measure=>simp [intOf];omega
  ·obtain rfl:k=n.nodes.length:=by omega
   rw [Pn.from_all] at hE hp ⊢;have hb:=hH.out.trans hh;obtain ⟨y0,y1,y2,y3,y4⟩:=qay (hh.blk hK.out);have hx:(n.nodes.flatMap (·.p)).length=(Nt.params n).length:=rfl;have hp:Pn.parOk ps (Nt.params n) (Nt.params n).length=true:=hp;rw [hx] at hE ⊢;clear hx
   by_cases hl:ps.length=(Nt.params n).length
   case neg=>
    have HE:=zI (Pn.fits_few (x:=x) HC.out hl);generalize (Nt.params n).length=pl at *;have q2:((pl:Int) != (ps.length:Int))=true:=by simp;omega
    clear hl hp;obtain ⟨hn,Hh⟩:=zd2 hb hh;clear hb hh;go_wp2_with fail;go_ret;exact ⟨by (rw [HE.out]<;>rfl),hn.out⟩
   have he:=Pn.fits_end (x:=x) HC.out hl hp;have q2:(((Nt.params n).length:Int) != (ps.length:Int))=false:=by simp;omega
   clear hp hE hl;generalize (Nt.params n).length=pl at *;have hf:=qeY XS XC xc xd A c x n.inn wr (HX.out.later hb) (HR.out.1.below hb (lrZ _)) oZ;obtain ⟨hn,Hh,He⟩:=zd3 hb hh he;clear hb hh he;cases htr:Pn.tenIs x n.inn
   ·have HE:=zI (He.out.trans (by rw [htr]<;>rfl))
    rw [htr] at hf;have hq:=zI hf;clear hf;clear htr He;go_wp2_with fail;refine (hq.out).mono ?_;rintro e w5 ⟨rfl,ho⟩;go_wp2_with fail;go_ret;exact ⟨by (rw [HE.out]<;>rfl),hn.out.call ho⟩
   ·have HE:=zI (He.out.trans (by rw [htr]<;>rfl))
    rw [htr] at hf;have hq:=zI hf;clear hf;clear htr He;go_wp2_with fail;refine (hq.out).mono ?_;rintro e w5 ⟨rfl,ho⟩;go_wp2_with fail;go_ret;exact ⟨by (rw [HE.out]<;>rfl),hn.out.call ho⟩
theorem qaW {P:Program} {ops:Array Oper} {rest:List Oper} {o:Oper} {a:Act} {Q:Exit->Act->Zp1->Prop} {w:Zp1} (hgd:o.guard=none) (s x:Operand) (t:TypeId)
  (ho:o.op=.call { callee:=.builtin .append,args:=#[s,x],argTypes:=#[t,t] })
  (base:Nat) (e:TypeId) (i:TypeInfo) (ht:P.underlying t=some (.slice e)) (hi:P.info? e=some i) (hz:i.zero=some (.agg #[.slice none 0 0,.slice none 0 0])) (hsize:i.size=2) (hby:i.bytes=48)
  (g n cap:Nat) (xs:List Value) (hs:a.eval s=.slice (some ⟨g,0,none⟩) n cap) (hown:w.ownsRow base e 2 (.slice (some ⟨g,0,none⟩) n cap) n xs)
  (w0:Zp1) (X:Option Addr) (f:Nat) (l:List Ten) (hx:a.eval x=.slice X l.length f) (hX:Tns w0 X l) (hb:Below w0.heap.size w0 w) (hB:w0.heap.size<=base) (hbase:base<=w.heap.size) (hn:n+l.length<=1000000000)
  (h:∀g' cap' w' us,w'.ownsRow base e 2 (.slice (some ⟨g',0,none⟩) (n+l.length) cap') (n+l.length) (xs++us)->(l=[]/\us=[]∨∃ad,X=some ad/\us=qac w0 ad (l.length*2))->Below w0.heap.size w0 w'->wpList P ops Q rest (a.put o.dst (.slice (some ⟨g',0,none⟩) (n+l.length) cap')) w'):
  wpList P ops Q (o::rest) a w:=by
 refine wpList_plain hgd λK hK=>?_
 rcases X with _|ad
 ·obtain rfl:=hX.nil_of
  have hd:n<=cap:=by
   rcases hown.2 with ⟨e1,h0⟩|⟨_,_,_,e1,_,_,h3,_⟩
   ·cases e1
   ·injection e1 with _ _ e1;omega
  unfold Oper.wp execOp;simp only [ho,resolve,invoke,builtin,Sem.run_bind,Sem.run_pure,Result.andThen_ok,List.map_toArray,List.map_cons,List.map_nil,hs,hx,List.length_nil,qcO w t o.type e i ht hi g n cap f hd];exact hK _ _ (h g cap w [] (by simpa using hown) (.inl ⟨rfl,rfl⟩) hb)
 ·obtain ⟨hr,hc⟩:=hX.rowT
  obtain ⟨v',w',he,ha,hgrow,hf,hh⟩:=run_append_own_at (P:=P) w base t o.type e i (.agg #[.slice none 0 0,.slice none 0 0]) 2 48 ht hi hz hsize hby rfl dZ (.slice (some ⟨g,0,none⟩) n cap) n xs hown ad l.length f (qac w0 ad (l.length*2)) hr.1
   (λj u hu=>by
    have:=hc j u hu;exact (hb.cell (Zj1 _ _ this)).trans this) hr.slices (by unfold maxLen;omega) oZ hbase
  rcases ha.2 with ⟨e1,_⟩|⟨g',cap',cur,rfl,_⟩
  ·have:=hf.1 e1
   cases this.1
  ·unfold Oper.wp execOp
   simp only [ho,resolve,invoke,builtin,Sem.run_bind,Sem.run_pure,Result.andThen_ok,List.map_toArray,List.map_cons,List.map_nil,hs,hx,he];refine hK _ _ (h g' cap' w' _ ha (.inr ⟨ad,rfl,rfl⟩) (hb.grown hgrow hb.size λb hg=>?_));have:=(hown.lt b hg).1;omega
theorem qgJ {w:Zp1} {B g:Nat} {e:TypeId} {xs:List Value} {size:Nat} (h:w.heap[g]? = some (.cells xs.toArray e (0,0))) (hB:B<=g) (hn:xs.length=size):w.ownsRow B e size (.slice (some ⟨g,0,none⟩) 1 1) 1 xs:=
 ⟨by simp [hn],.inr ⟨g,1,xs.toArray,rfl,hB,h,by omega,by unfold maxLen;omega,by simp [hn],by subst hn;simp⟩⟩
def WrRow (B ra:Nat) (w:Zp1) (vs:List Value) (m:Nat):Prop:=
 vs.length=m*2/\∀j,j<m->∃S n c C k d,vs[j*2]? = some (.slice S n c)/\vs[j*2+1]? = some (.slice C k d)/\k<=1048576/\∀i,i<k->∃b off z,C=some ⟨b,off,none⟩/\B<=b/\b≠ra/\b<w.heap.size/\(∀q,w.frozen? ⟨b,q,none⟩=false)/\w.cell? ⟨b,off+i,none⟩=some (.int .i64 z)
theorem WrRow.later {B ra m:Nat} {w w':Zp1} {vs:List Value} (h:WrRow B ra w vs m) (hl:Later w w'):WrRow B ra w' vs m:=
 ⟨h.1,λj hj=>by
  obtain ⟨S,n,c,C,k,d,e1,e2,e3,e4⟩:=h.2 j hj;refine ⟨S,n,c,C,k,d,e1,e2,e3,λi hi=>?_⟩;obtain ⟨b,off,z,q1,q2,q3,q4,q5,q6⟩:=e4 i hi;exact ⟨b,off,z,q1,q2,q3,ltZ q4 hl.size,λq=>(Below.frozen hl (p:=⟨b,q,none⟩) q4).trans (q5 q),hl.cell q6⟩⟩
theorem WrRow.set {B ra m:Nat} {w:Zp1} {vs:List Value} (h:WrRow B ra w vs m) (p:Addr) (z:Int):WrRow B ra (w.setCell p (.int .i64 z)) vs m:=
 ⟨h.1,λj hj=>by
  obtain ⟨S,n,c,C,k,d,e1,e2,e3,e4⟩:=h.2 j hj;refine ⟨S,n,c,C,k,d,e1,e2,e3,λi hi=>?_⟩;obtain ⟨b,off,y,q1,q2,q3,q4,q5,q6⟩:=e4 i hi
  by_cases e:p=⟨b,off+i,none⟩
  ·subst e
   exact ⟨b,off,z,q1,q2,q3,by simpa using q4,λq=>by rw [World.frozen?_setCell];exact q5 q,World.cell?_setCell_same _ _ _ q6⟩
  ·exact ⟨b,off,y,q1,q2,q3,by simpa using q4,λq=>by rw [World.frozen?_setCell];exact q5 q,by rw [World.cell?_setCell_other (h:=e)];exact q6⟩⟩
theorem WrRow.append {B ra m k:Nat} {w:Zp1} {vs us:List Value} (h:WrRow B ra w vs m) (h2:WrRow B ra w us k):WrRow B ra w (vs++us) (m+k):=by
 have hl:=h.1;refine ⟨by simp [h.1,h2.1,Nat.add_mul],λj hj=>?_⟩
 by_cases e:j<m
 ·obtain ⟨S,n,c,C,k,d,e1,e2,e3,e4⟩:=h.2 j e
  exact ⟨S,n,c,C,k,d,by rw [Zm oZ];exact e1,by rw [Zm oZ];exact e2,e3,e4⟩
 ·obtain ⟨S,n,c,C,k,d,e1,e2,e3,e4⟩:=h2.2 (j-m) oZ
  exact ⟨S,n,c,C,k,d,by rw [Zl oZ,show j*2-vs.length=(j-m)*2 by omega];exact e1,by rw [Zl oZ,show j*2+1-vs.length=(j-m)*2+1 by omega];exact e2,e3,e4⟩
theorem TenO.wr {B B2 ra:Nat} {w w2:Zp1} {S C:Option Addr} {c d:Nat} {t:Ten} (h:TenO B w (.agg #[.slice S t.s.length c,.slice C t.c.length d]) t) (hl:Later w w2) (hB:B2<=B) (hr:ra<B∨w.heap.size<=ra):
  WrRow B2 ra w2 [.slice S t.s.length c,.slice C t.c.length d] 1:=by
 refine ⟨rfl,λj hj=>?_⟩;obtain rfl:j=0:=by omega
 refine ⟨S,t.s.length,c,C,t.c.length,d,rfl,rfl,h.ten.l2,λi hi=>?_⟩;have h2:=h;obtain ⟨S',c',C',d',e,hT,-,h4⟩:=h2;simp at e;obtain ⟨⟨rfl,rfl⟩,rfl,rfl⟩:=e;obtain ⟨b,off,e,hb,hc⟩:=hT.cell hi;obtain ⟨k1,k2,k3⟩:=h4 _ e;exact ⟨b,off,_,e,Zv hB k1,by rcases hr with hr|hr<;>(simp at k1 k2;omega),ltZ k2 hl.size,λq=>(Below.frozen hl (p:=⟨b,q,none⟩) k2).trans (k3 q),hl.cell hc⟩
theorem TnsO.wr {B B2 ra:Nat} {w w2:Zp1} {ad:Addr} {ts:List Ten} (h:TnsO B w (some ad) ts) (hl:Later w w2) (hB:B2<=B) (hr:ra<B∨w.heap.size<=ra):WrRow B2 ra w2 (qac w ad (ts.length*2)) ts.length:=by
 obtain ⟨ha,-⟩:=h.rowO;refine ⟨ha.1,λj hj=>?_⟩;obtain ⟨S,c,C,d,e1,e2,hO⟩:=ha.2 j hj;obtain ⟨-,hw⟩:=hO.wr hl hB hr;obtain ⟨S',n',c',C',k',d',f1,f2,f3,f4⟩:=hw 0 oZ;simp at f1 f2;obtain ⟨rfl,rfl,rfl⟩:=f1;obtain ⟨rfl,rfl,rfl⟩:=f2;exact ⟨_,_,_,_,_,_,e1,e2,f3,f4⟩
theorem qcU {w w2:Zp1} {ad:Addr} {ts:List Ten} (h:Tns w (some ad) ts) (hl:Later w w2):qac w2 ad (ts.length*2)=qac w ad (ts.length*2):=by
 obtain ⟨h1,h2⟩:=h.rowT;unfold qac;refine List.map_congr_left λj hj=>?_
 have ha:j<ts.length*2:=List.mem_range.1 hj;have hb:=h1.1;have hs:(qac w ad (ts.length*2))[j]? = some ((qac w ad (ts.length*2))[j]'(by rw [hb];exact ha)):=geZ _;have:=h2 j _ hs;rw [this,hl.cell this]
theorem WrRow.cell {B ra m:Nat} {w:Zp1} {vs:List Value} (h:WrRow B ra w vs m):∀u∈vs,∃A n c,u=.slice A n c:=λu hu=>by
 obtain ⟨k,hk,rfl⟩:=List.getElem_of_mem hu;have hl:=h.1;obtain ⟨S,n,c,C,k2,d,e1,e2,-⟩:=h.2 (k / 2) oZ;rcases Nat.mod_two_eq_zero_or_one k with e|e
 ·rw [show k / 2*2=k by omega,geZ hk] at e1
  injection e1 with e1
  exact ⟨_,_,_,e1⟩
 ·rw [show k / 2*2+1=k by omega,geZ hk] at e2
  injection e2 with e2
  exact ⟨_,_,_,e2⟩
open Go.ChangeShapes Go.WideShapes Go.Deep Go.RowKit
theorem fix_one:Tryz.prog.cellsOf 22=1:=by kernel_rfl
theorem qgK:Tryz.prog.cellsOf 30=2:=by kernel_rfl
theorem qgL:Tryz.prog.underlying 30=some (.struct (Tryz.prog.fieldsOf 30)):=by kernel_rfl
theorem ten_two:(Tryz.prog.fieldsOf 30).size=2:=by kernel_rfl
theorem ten_f0:((Tryz.prog.fieldsOf 30)[0]?).map (λf=>(f.type,f.offset,Tryz.prog.cellsOf f.type))=some (24,0,1):=by kernel_rfl
theorem ten_f1:((Tryz.prog.fieldsOf 30)[1]?).map (λf=>(f.type,f.offset,Tryz.prog.cellsOf f.type))=some (28,1,1):=by kernel_rfl
theorem qgM {H:Type} {enc:TypeId × Value->H} {W:Zp1} {base:Nat} {spare:Nat->Bool} {held:Bool} {fuel:Nat} {v:Value} {x:DataW H × List MemPlace}
  (h:DataW.trod enc Tryz.prog W base spare held fuel 28 [v]=some x) (hz:Rows.uptoBulk x.1<=1048576):
  ∃A c zs,v=.slice A zs.length c/\Ints .i64 W A zs/\zs.length<=c/\c<=9223372036854775807/\zs.length<=1048576/\∀z∈zs,Fx.In z:=by
 obtain ⟨A,c,zs,rfl,hl,hc,hI,hw⟩:=qdZ Tryz.underlying28 Tryz.underlying22 fix_one h;refine ⟨A,c,zs,rfl,hI,hc,?_,?_,λz hz=>qdg (hw z hz)⟩
 ·rcases qaC Tryz.underlying28 h hz with e|⟨a,len,cap,e,_,hm,_⟩
  ·injection e with _ _ e;omega
  ·injection e with _ _ e;unfold maxLen at hm;omega
 ·rcases qaC Tryz.underlying28 h hz with e|⟨a,len,cap,e,_,_,hb,_⟩
  ·injection e with _ e _;rw [e];exact Zt _
  ·have e2:zs.length=len:=by simp at e;exact e.2.1
   rw [e2];exact hb
set_option maxRecDepth 100000 in
theorem qeZ {H:Type} {enc:TypeId × Value->H} {W:Zp1} {base:Nat} {spare:Nat->Bool} {held:Bool} {fuel:Nat} {v0 v1:Value} {x:DataW H × List MemPlace}
  (hf:DataW.trod enc Tryz.prog W base spare held fuel 30 [v0,v1]=some x) (hz:Rows.uptoBulk x.1<=1048576):
  ∃(S C:Option Addr) (c d:Nat) (t:Ten),v0=.slice S t.s.length c/\v1=.slice C t.c.length d/\TenIn W S C c d t:=by
 obtain ⟨ys,n,_,hx,_,ha,hg⟩:=DataW.trod_struct qgL hf;rw [ten_two] at ha;obtain ⟨y0,y1,rfl⟩:=list2 ha;rw [hx] at hz;obtain ⟨f0,e0,t0⟩:=Option.map_eq_some_iff.1 ten_f0;simp only [Prod.mk.injEq] at t0;have h0:=hg 0 f0 e0;rw [t0.2.2,t0.2.1,t0.1] at h0;simp at h0;obtain ⟨f1,e1,t1⟩:=Option.map_eq_some_iff.1 ten_f1;simp only [Prod.mk.injEq] at t1;have h1:=hg 1 f1 e1;rw [t1.2.2,t1.2.1,t1.1] at h1;simp at h1;have hb:Rows.uptoBulk y0.1<=1048576:=by simp [Rows.uptoBulk,Rows.uptoBulkAll] at hz;omega
 have hc:Rows.uptoBulk y1.1<=1048576:=by simp [Rows.uptoBulk,Rows.uptoBulkAll] at hz;omega
 obtain ⟨S,c,zs,rfl,a1,a2,a3,a4,a5⟩:=qbj Tryz.underlying24 h0 hb;obtain ⟨C,d,cs,rfl,b1,b2,b3,b4,b5⟩:=qgM h1 hc;exact ⟨S,C,c,d,⟨zs,cs⟩,rfl,rfl,⟨⟨a1,b1⟩,a2,a3,b2,b3,a4,b4,b5⟩⟩
structure TenQ where
 t:Ten
 S:Option Addr
 c:Nat
 C:Option Addr
 d:Nat
instance:Inhabited TenQ:=⟨⟨Ly.none_,none,0,none,0⟩⟩
theorem qgN {H:Type} {enc:TypeId × Value->H} {W:Zp1} {base:Nat} {spare:Nat->Bool} {held:Bool} {fuel:Nat} {v:Value} {x:DataW H × List MemPlace}
  (h:DataW.trod enc Tryz.prog W base spare held fuel 27 [v]=some x) (hz:Rows.uptoBulk x.1<=1048576):
  ∃A c ts,v=.slice A ts.length c/\Tns W A ts/\ts.length<=c/\c<=9223372036854775807/\ts.length<=1048576:=by
 rcases qaC Tryz.underlying27 h hz with rfl|⟨a,len,cap,rfl,hl,hm,hb,hi⟩
 ·exact ⟨none,0,[],rfl,Tns.nil _ _,by simp,by omega,by simp⟩
 ·rw [qgK] at hi
  have key:∀i,i<len->∃q:TenQ,W.cell? ((a.add (i*2)).add 0)=some (.slice q.S q.t.s.length q.c)/\W.cell? ((a.add (i*2)).add 1)=some (.slice q.C q.t.c.length q.d)/\TenIn W q.S q.C q.c q.d q.t:=λi he=>by
   obtain ⟨cs',m,y,hc,ht,hw⟩:=hi i he;obtain ⟨_,ha,hd⟩:=World.cells?_some hc;obtain ⟨v0,v1,rfl⟩:=list2 ha;obtain ⟨S,C,c,d,t,rfl,rfl,hT⟩:=qeZ ht hw;exact ⟨⟨t,S,c,C,d⟩,hd 0 oZ,hd 1 oZ,hT⟩
  obtain ⟨L,hL,hq⟩:=qbL key;refine ⟨some a,cap,L.map (·.t),by simp [hL],λj hj=>?_,by simpa [hL] using hl,by unfold maxLen at hm;omega,by simp [hL];exact hb⟩;rw [List.length_map] at hj;obtain ⟨h1,h2,h3⟩:=hq j hj;obtain ⟨h0,_,_⟩:=hq 0 oZ;obtain ⟨b,off,rfl⟩:=qdA (v:=.slice L[0].S L[0].t.s.length L[0].c) (show W.cell? a=_ by simpa [Addr.add] using h0);simp only [qaN,Zx] at h1 h2;rw [List.getElem_map];exact ⟨b,off,_,_,_,_,rfl,Zj1 _ _ h1,h1,h2,h3⟩
open Go.ChangeShapes Go.WideShapes Go.Deep Go.RowKit
theorem qeI:Tryz.prog.cellsOf 61=5:=by kernel_rfl
theorem qcM:Tryz.prog.underlying 61=some (.struct (Tryz.prog.fieldsOf 61)):=by kernel_rfl
theorem qeJ:(Tryz.prog.fieldsOf 61).size=3:=by kernel_rfl
theorem pcase_f0:((Tryz.prog.fieldsOf 61)[0]?).map (λf=>(f.type,f.offset,Tryz.prog.cellsOf f.type))=some (59,0,2):=by kernel_rfl
theorem pcase_f1:((Tryz.prog.fieldsOf 61)[1]?).map (λf=>(f.type,f.offset,Tryz.prog.cellsOf f.type))=some (27,2,1):=by kernel_rfl
theorem pcase_f2:((Tryz.prog.fieldsOf 61)[2]?).map (λf=>(f.type,f.offset,Tryz.prog.cellsOf f.type))=some (30,3,2):=by kernel_rfl
theorem list5 {α:Type} {l:List α} (h:l.length=5):∃a b c d e,l=[a,b,c,d,e]:=by
 match l,h with
 | [a,b,c,d,e],_=>exact ⟨a,b,c,d,e,rfl⟩
theorem qgO {H:Type} {enc:TypeId × Value->H} {W:Zp1} {base:Nat} {spare:Nat->Bool} {held:Bool} {fuel:Nat} {v0 v1:Value} {x:DataW H × List MemPlace}
  (hf:DataW.trod enc Tryz.prog W base spare held fuel 59 [v0,v1]=some x) (hz:Rows.uptoBulk x.1<=1048576):
  ∃A N c1 c2 n,v0=.slice A (List.length (NetD.inn n)) c1/\v1=.slice N n.nodes.length c2/\n.inn.length<=c1/\c1<=9223372036854775807/\n.nodes.length<=c2/\c2<=9223372036854775807/\NetR W A N n/\n.fits:=by
 obtain ⟨ys,n,_,hx,_,ha,hg⟩:=DataW.trod_struct qgH hf;rw [net_two] at ha;obtain ⟨y0,y1,rfl⟩:=list2 ha;rw [hx] at hz;obtain ⟨f0,e0,t0⟩:=Option.map_eq_some_iff.1 net_f0;simp only [Prod.mk.injEq] at t0;have h0:=hg 0 f0 e0;rw [t0.2.2,t0.2.1,t0.1] at h0;simp at h0;obtain ⟨f1,e1,t1⟩:=Option.map_eq_some_iff.1 net_f1;simp only [Prod.mk.injEq] at t1;have h1:=hg 1 f1 e1;rw [t1.2.2,t1.2.1,t1.1] at h1;simp at h1;have hb:Rows.uptoBulk y0.1<=1048576:=by simp [Rows.uptoBulk,Rows.uptoBulkAll] at hz;omega
 have hc:Rows.uptoBulk y1.1<=1048576:=by simp [Rows.uptoBulk,Rows.uptoBulkAll] at hz;omega
 obtain ⟨A,c1,zs,rfl,a1,a2,a3,a4,a5⟩:=qbj Tryz.underlying24 h0 hb;obtain ⟨N,c2,ns,rfl,b1,b2,b3,b4,b5⟩:=qfy h1 hc;exact ⟨A,N,c1,c2,⟨zs,ns⟩,rfl,rfl,a2,a3,b2,b3,⟨a1,b1⟩,a4,b4,a5,b5⟩
set_option maxRecDepth 100000 in
theorem qfz {H:Type} {enc:TypeId × Value->H} {W:Zp1} {r:Reach} {b0 base:Nat} {spare:Nat->Bool} {held:Bool} {v:Value} {d:DataW H} {p:List MemPlace}
  (hv:Value.okWide Tryz.prog W r b0 61 v) (h:DataW.Trod enc Tryz.prog W base spare held 61 v d p) (hz:Rows.uptoBulk d<=1048576):
  ∃A N P XS XC c d cp xc xd n ps x,v=.agg #[.slice A (List.length (NetD.inn n)) c,.slice N n.nodes.length d,.slice P (List.length ps) cp,.slice XS (List.length (Ten.s x)) xc,.slice XC x.c.length xd]/\
   n.ok/\NetR W A N n/\n.nodes.length<=d/\n.inn.length<=c/\c<=9223372036854775807/\Tns W P ps/\ps.length<=1048576/\ps.length<=cp/\cp<=9223372036854775807/\(P=none->cp=0)/\TenIn W XS XC xc xd x:=by
 obtain ⟨cs,rfl,hc⟩:=okWide_struct qcM hv;obtain ⟨l⟩:=cs;obtain ⟨v0,v1,v2,v3,v4,rfl⟩:=list5 (hc.trans qeI);obtain ⟨fuel,hf⟩:=h;obtain ⟨ys,n,_,hx,_,ha,hg⟩:=DataW.trod_struct qcM hf;rw [qeJ] at ha;obtain ⟨y0,y1,y2,rfl⟩:=list3 ha;simp only [Prod.mk.injEq,List.map_cons,List.map_nil] at hx;obtain ⟨rfl,_⟩:=hx;obtain ⟨f0,e0,t0⟩:=Option.map_eq_some_iff.1 pcase_f0;simp only [Prod.mk.injEq] at t0;have h0:=hg 0 f0 e0;rw [t0.2.2,t0.2.1,t0.1] at h0;simp [Value.cells] at h0;have hd:Rows.uptoBulk y0.1<=1048576:=by simp [Rows.uptoBulk,Rows.uptoBulkAll] at hz;omega
 obtain ⟨f1,e1,t1⟩:=Option.map_eq_some_iff.1 pcase_f1;simp only [Prod.mk.injEq] at t1;have h1:=hg 1 f1 e1;rw [t1.2.2,t1.2.1,t1.1] at h1;simp [Value.cells] at h1;have hb:Rows.uptoBulk y1.1<=1048576:=by simp [Rows.uptoBulk,Rows.uptoBulkAll] at hz;omega
 obtain ⟨f2,e2,t2⟩:=Option.map_eq_some_iff.1 pcase_f2;simp only [Prod.mk.injEq] at t2;have h2:=hg 2 f2 e2;rw [t2.2.2,t2.2.1,t2.1] at h2;simp [Value.cells] at h2;have he:Rows.uptoBulk y2.1<=1048576:=by simp [Rows.uptoBulk,Rows.uptoBulkAll] at hz;omega
 obtain ⟨A,N,c1,c2,n,rfl,rfl,a2,a3,a4,a5,a6,a7⟩:=qgO h0 hd;obtain ⟨P,cp,ps,rfl,p1,p2,p3,p4⟩:=qgN h1 hb
 have pn:P=none->cp=0:=by
  rcases qaC Tryz.underlying27 h1 hb with e|⟨a,len,cap,e,_⟩
  ·injection e with e1 e2 e3
   intro;exact e3
  ·injection e with e1 e2 e3
   intro e;rw [e1] at e;cases e
 obtain ⟨XS,XC,xc,xd,x,rfl,rfl,hT⟩:=qeZ h2 he;exact ⟨A,N,P,XS,XC,c1,c2,cp,xc,xd,n,ps,x,rfl,a7.ok,a6,a4,a2,a3,p1,p4,p2,p3,pn,hT⟩
end Go.Proofs.YtbnnpkcfifejmaaGreat
