/- Lemmas for the statements of this seat: contracts of functions and the plain laws. -/
import Derived.Deep.RegionHeld3
import Derived.Laws.CopyOwn
import Derived.Lib.SliceRun
import Derived.LoopIn
import Derived.LoopNIn
import Derived.OrdersIn
import Derived.OwnWalkIn
import Derived.RangeFuncBound
import Derived.RangeFuncCalls
import Derived.RangeFuncLeaves
import Derived.RangeFuncNested
import Derived.TacticsInMore
import Derived.Test.YtimfcikmpllbpaaGreatZ04
set_option linter.unusedVariables false
open Go.IntKind renaming i64 → iQ
open Go.Value renaming int → nQ, slice → sQ
open List renaming take_succ_eq_append_getElem → Zb, replicate → Zc, drop_eq_getElem_cons → Zd, length_append → Ze, all_eq_true → Zf, take_length → Zg, mem_of_mem_take → Zh, getElem?_eq_none → Zi, flatMap_append → Zj, getElem?_toArray → Zk, getElem?_append_right → Zl, getElem?_append_left → Zm, take_append_drop → Zn, length_take → Zo, mem_of_mem_drop → Zp, length_drop → Zq, getElem?_set_self → Zr, getElem?_set_ne → Zs
open Nat renaming zero_le → Zt, succ_mul → Zu, le_trans → Zv, zero_add → Zw, add_zero → Zx, le_succ → Zy
open Bool renaming and_eq_true → Zz
open Go.Value renaming int → Za1, slice → Zb1
open Go.IntWalk renaming i64_in → Zc1
open Go.NoPanic renaming normal → Zd1
open Go.RowKit.Below renaming refl → Ze1
open Go.AllReadyH renaming cons → Zf1, nil → Zg1
open Go.World renaming size_alloc → Zh1, cell?_of_block → Zi1, block_lt_of_cell? → Zj1
open Go renaming bodyPost_ret → Zk1, wp_region_held_drew → Zl1, wp_region_noPanic → Zm1, wpAnyH_done → Zn1, wpAnyH_ready → Zo1, World → Zp1
namespace Go.Proofs.YtimfcikmpllbpaaGreat
set_option maxHeartbeats 16000000
set_option maxRecDepth 20000
open Go.RowKit
namespace Ly
theorem qgv {x:Ten} {sd frm til:Int} (hr:Tn.right x=true) (h:(Od.cut x.s sd frm til).2=0):
  ∃k S f t inner pre:Nat,sd=(k:Int)/\frm=(f:Int)/\til=(t:Int)/\k<x.s.length/\x.s.getD k 0=(S:Int)/\f<t/\t<=S/\S<=1024/\1<=inner/\1<=pre/\(Od.cut x.s sd frm til).1=x.s.set k ((t-f:Nat):Int)/\Safe.prod ((x.s.set k ((t-f:Nat):Int)).drop (k+1))=(inner:Int)/\Safe.prod (x.s.set k ((t-f:Nat):Int))=((pre*((t-f)*inner):Nat):Int)/\x.c.length=pre*(S*inner)/\x.c.length<=65536/\x.s.length<=4/\(∀z∈x.s.set k ((t-f:Nat):Int),1<=z/\z<=1024):=by
 simp only [Tn.right,Zz,decide_eq_true_eq] at hr;obtain ⟨_,l4,l1,ha,hl,hn⟩:=Sh.right_mul hr.1;unfold Od.cut at h ⊢;rw [ipZ hr.1] at h ⊢
 by_cases hc:(Od.inR sd x.s&&decide (0<=frm/\til<=Od.at_ x.s sd/\frm<til))=true
 case neg=>rw [inZ hc] at h;simp at h
 rw [ipZ hc];simp only [Od.inR,Zz,decide_eq_true_eq] at hc;obtain ⟨⟨h1,h2⟩,h3,h4,h5⟩:=hc;obtain ⟨k,rfl⟩:=ezZ h1;obtain ⟨f,rfl⟩:=ezZ h3;obtain ⟨t,rfl⟩:=ezZ (show 0<=til by omega);have hk:k<x.s.length:=by omega
 have hi:Od.at_ x.s (k:Int)=x.s[k]:=by unfold Od.at_;rw [tnZ,gdZ,geZ hk];rfl
 have ho:=ha _ (gmZ hk);rw [hi] at h4;obtain ⟨S,hS⟩:=ezZ (show 0<=x.s[k] by omega);have hb:x.s=x.s.take k++(x.s[k]::x.s.drop (k+1)):=by rw [←Zd hk,Zn]
 have hd:∀v:Int,x.s.set k v=x.s.take k++(v::x.s.drop (k+1)):=λv=>by rw [List.set_eq_take_append_cons_drop,ipZ hk]
 have hj:1<=Safe.prod (x.s.take k):=Safe.prod_pos _ (λz hz=>(ha z (Zh hz)).1);have hm:1<=Safe.prod (x.s.drop (k+1)):=Safe.prod_pos _ (λz hz=>(ha z (Zp hz)).1);obtain ⟨pre,hh⟩:=ezZ (show 0<=Safe.prod (x.s.take k) by omega);obtain ⟨inner,hg⟩:=ezZ (show 0<=Safe.prod (x.s.drop (k+1)) by omega);have hf:∀v:Int,Safe.prod (x.s.set k v)=(pre:Int)*(v*(inner:Int)):=λv=>by rw [hd,prod_append,hh];simp only [Safe.prod,hg]
 have he:(t:Int)-(f:Int)=((t-f:Nat):Int):=by omega
 have hx:Safe.prod x.s=(pre:Int)*((S:Int)*(inner:Int)):=by
  have h7:=hf x.s[k];rw [List.set_getElem_self,hS] at h7;exact h7
 refine ⟨k,S,f,t,inner,pre,rfl,rfl,rfl,hk,?_,by omega,by omega,by omega,by omega,by omega,?_,?_,?_,?_,by omega,l4,?_⟩
 ·rw [gdZ,geZ hk];exact hS
 ·rw [tnZ,he]
 ·rw [List.drop_set_of_lt oZ];exact hg
 ·rw [hf,Int.natCast_mul,Int.natCast_mul]
 ·have:((pre*(S*inner):Nat):Int)=Safe.prod x.s:=by rw [hx,Int.natCast_mul,Int.natCast_mul]
  omega
 ·intro z hz
  rcases List.mem_or_eq_of_mem_set hz with h|h
  ·exact ha z h
  ·omega
theorem qgw {x:Ten} {sd frm til:Int} (h:Tn.right x=false):cut x sd frm til=(none_,20):=by unfold cut;rw [h];rfl
theorem cut_err {x:Ten} {sd frm til:Int} (h:Tn.right x=true) (h2:(Od.cut x.s sd frm til).2≠0):cut x sd frm til=(none_,(Od.cut x.s sd frm til).2):=by unfold cut;rw [ipZ h,inZ h2]
theorem cut_ok {x:Ten} {sd frm til:Int} (h:Tn.right x=true) (h2:(Od.cut x.s sd frm til).2=0):cut x sd frm til=(⟨(Od.cut x.s sd frm til).1,qbx x.c (side x.s sd.toNat * span ((Od.cut x.s sd frm til).1.drop (sd.toNat+1))) (frm.toNat * span ((Od.cut x.s sd frm til).1.drop (sd.toNat+1))) ((til.toNat-frm.toNat)*span ((Od.cut x.s sd frm til).1.drop (sd.toNat+1))) (x.c.length / (side x.s sd.toNat * span ((Od.cut x.s sd frm til).1.drop (sd.toNat+1))))⟩,0):=by unfold cut;rw [ipZ h,ipZ h2]
theorem qgx (c:List Int) (row a n k:Nat):qbx c row a n (k+1)=qbx c row a n k++(c.drop (k*row+a)).take n:=by
 unfold qbx;rw [List.range_succ,Zj];simp
theorem rows_len {c:List Int} {row a n k:Nat} (h:∀i,i<k->i*row+a+n<=c.length):(qbx c row a n k).length=k*n:=by
 induction k with
 | zero=>simp [qbx]
 | succ k ih=>
  rw [qgx,Ze,ih (λi hi=>h i oZ),Zo,Zq,Zu];have:=h k oZ;omega
end Ly
theorem Later.grown {w w1 w2:Zp1} {row:Option Nat} (h:Later w w1) (hg:w1.grownBy w2 row) (hs:w.heap.size<=w1.heap.size) (hr:∀b,row=some b->w.heap.size<=b):Later w w2:=Below.grown h hg hs hr
theorem TenO.of_row {B:Nat} {w:Zp1} {S:Option Addr} {c:Nat} {v:Value} {s l:List Int} {e:TypeId} (hown:w.ownsRow B e 1 v l.length (l.map (Za1 iQ))) (hS:Ints iQ w S s) (h1:s.length<=c) (h2:c<=9223372036854775807) (hb:∀a,S=some a->B<=a.block) (l1:s.length<=1048576) (l2:l.length<=1048576) (hpos:0<l.length) (hin:∀z∈l,Fx.In z):
  ∃C d,v=sQ C l.length d/\TenO B w (.agg #[sQ S s.length c,v]) ⟨s,l⟩:=by
 rcases hown.2 with ⟨_,h0⟩|⟨g,cap,cur,rfl,hg,hh,hc,hm,hr⟩
 ·omega
 ·obtain ⟨A,c',hv,-,hI⟩:=Ints.of_own hown
  injection hv with e1 e2 e3
  subst e1 e3;refine ⟨_,_,rfl,S,c,_,_,rfl,⟨⟨hS,hI⟩,h1,h2,hc,by unfold maxLen at hm;omega,l1,l2,hin⟩,hb,λa e=>?_⟩;injection e with e
  subst e;exact ⟨hg,lt_of_block hh,λj=>by simp [World.frozen?,hh]⟩
namespace Ly
end Ly
namespace Ly
theorem qfx {s t:List Int} {sd:Int} (h:(Od.join s t sd).2=0):
  ∃k:Nat,sd=(k:Int)/\k<s.length/\t.length=s.length/\(∀i,i≠k->t.getD i 0=s.getD i 0)/\(Od.join s t sd).1=s.set k (s.getD k 0+t.getD k 0)/\Sh.right s=true/\Sh.right t=true/\Sh.right (Od.join s t sd).1=true:=by
 have hj:=Od.join_right h;unfold Od.join at h hj ⊢
 split at h
 ·rename_i h1
  rw [ipZ h1] at hj ⊢;simp only [Zz,decide_eq_true_eq] at h1
  split at h
  ·rename_i h2
   rw [ipZ h2] at hj ⊢;simp only [Od.inR,decide_eq_true_eq] at h2
   split at h
   ·rename_i h3
    rw [ipZ h3] at hj ⊢;simp only [Zz] at h3;obtain ⟨k,rfl⟩:=ezZ h2.1;refine ⟨k,rfl,by omega,h1.2.symm,λi hi=>?_,?_,h1.1.1,h1.1.2,hj⟩
    ·by_cases ha:i<s.length
     ·have:=List.all_eq_true.1 h3.1 i (List.mem_range.2 ha)
      simp only [Bool.or_eq_true,decide_eq_true_eq] at this;rcases this with h4|h4
      ·omega
      ·exact h4.symm
     ·rw [gdZ,gdZ,Zi oZ,Zi oZ]
    ·unfold Od.joinL Od.at_
     rw [tnZ]
   ·simp at h
  ·simp at h
 ·simp at h
structure Near (k:Nat) (s t:List Int):Prop where
 len:t.length=s.length
 same:∀i,i≠k->t.getD i 0=s.getD i 0
theorem Near.take {k:Nat} {s t:List Int} (h:Near k s t):t.take k=s.take k:=by
 apply List.ext_getElem?;intro i;rw [List.getElem?_take,List.getElem?_take]
 split
 ·rename_i hi
  have h1:=h.same i oZ;simp only [gdZ] at h1
  by_cases hl:i<s.length
  ·rw [geZ hl,geZ (by have:=h.len;omega)] at h1 ⊢
   simpa using h1
  ·rw [Zi (by have:=h.len;omega),Zi oZ]
 ·rfl
theorem Near.drop {k:Nat} {s t:List Int} (h:Near k s t):t.drop (k+1)=s.drop (k+1):=by
 apply List.ext_getElem?;intro i;rw [List.getElem?_drop,List.getElem?_drop];have h1:=h.same (k+1+i) oZ;simp only [gdZ] at h1
 by_cases hl:k+1+i<s.length
 ·rw [geZ hl,geZ (by have:=h.len;omega)] at h1 ⊢
  simpa using h1
 ·rw [Zi (by have:=h.len;omega),Zi oZ]
theorem Near.set {k:Nat} {s t:List Int} {v:Int} (h:Near k (s.set k v) t):Near k s t:=by
 refine ⟨by rw [h.len,List.length_set],λi hi=>?_⟩;rw [h.same i hi,gdZ,gdZ,Zs (Ne.symm hi)]
def qcO (k:Nat) (l:List Ten):Int:=l.foldr (λt z=>t.s.getD k 0+z) 0
theorem qbO {sd:Int}:∀ {r:List Ten} {s:List Int},Sh.right s=true->(qaG sd s r).2=0->r≠[]->∃k:Nat,sd=(k:Int)/\k<s.length/\(∀t∈r,Tn.right t=true/\Near k s t.s)/\(qaG sd s r).1=s.set k (s.getD k 0+qcO k r)/\Sh.right (qaG sd s r).1=true
 | [],s,_,_,h=>absurd rfl h
 | t::r,s,hs,h,_=>by
  unfold qaG at h ⊢
  by_cases ht:Tn.right t=true
  case neg=>rw [inZ ht] at h;simp at h
  rw [ipZ ht] at h ⊢
  by_cases hj:(Od.join s t.s sd).2=0
  case neg=>rw [inZ hj] at h;exact absurd h hj
  rw [ipZ hj] at h ⊢;obtain ⟨k,rfl,hk,hl,hc,hr,h1,h2,h3⟩:=qfx hj;have hn:Near k s t.s:=⟨hl,hc⟩
  by_cases he:r=[]
  ·subst he
   refine ⟨k,rfl,hk,?_,?_,?_⟩
   ·intro u hu
    rw [List.mem_singleton] at hu;subst hu;exact ⟨ht,hn⟩
   ·show (Od.join s t.s k).1=_
    rw [hr];simp [qcO]
   ·exact h3
  ·obtain ⟨k',hg,hf,ha,hd,hb⟩:=qbO h3 h he
   have:k'=k:=by omega
   subst this;rw [hr] at ha hd hf;refine ⟨k',rfl,hk,?_,?_,hb⟩
   ·intro u hu
    rcases List.mem_cons.1 hu with rfl|hu
    ·exact ⟨ht,hn⟩
    ·exact ⟨(ha u hu).1,(ha u hu).2.set⟩
   ·rw [hr,hd,List.set_set]
    congr 1
    have:(s.set k' (s.getD k' 0+t.s.getD k' 0)).getD k' 0=s.getD k' 0+t.s.getD k' 0:=by
     rw [gdZ,Zr hk];rfl
    rw [this];simp only [qcO,List.foldr_cons];omega
theorem qe7 {sd:Int} {x:List Ten} (h:(joined sd x).2=0):
  ∃k:Nat,sd=(k:Int)/\0<x.length/\k<(joined sd x).1.length/\(∀t∈x,Tn.right t=true/\Near k (joined sd x).1 t.s)/\Sh.right (joined sd x).1=true/\(joined sd x).1.getD k 0=qcO k x:=by
 match x,h with
 | [],h=>simp [joined] at h
 | t::r,h=>
  unfold joined at h ⊢;simp only at h ⊢
  by_cases ht:Tn.right t=true
  case neg=>rw [inZ ht] at h;simp at h
  rw [ipZ ht] at h ⊢;have hg:Sh.right t.s=true:=by simp only [Tn.right,Zz] at ht;exact ht.1
  by_cases hc:r.length=0/\(sd<0∨(t.s.length:Int)<=sd)
  case pos=>rw [ipZ hc] at h;simp at h
  rw [inZ hc] at h ⊢
  by_cases he:r=[]
  ·subst he
   have h3:¬(sd<0∨(t.s.length:Int)<=sd):=λk=>hc ⟨rfl,k⟩
   obtain ⟨k,rfl⟩:=ezZ (show 0<=sd by omega);refine ⟨k,rfl,by simp,by show k<t.s.length;omega,?_,hg,by simp [qcO,qaG]⟩;intro u hu;rw [List.mem_singleton] at hu;subst hu;exact ⟨ht,rfl,λ_ _=>rfl⟩
  ·obtain ⟨k,rfl,hk,hf,ha,hb⟩:=qbO hg h he
   have hd:∀ {u:List Int},Near k t.s u->Near k ((qaG (k:Int) t.s r).1) u:=fun {u} hn=>by
    rw [ha];refine ⟨by rw [hn.len,List.length_set],λi hi=>?_⟩;rw [hn.same i hi,gdZ,gdZ,Zs (Ne.symm hi)]
   refine ⟨k,rfl,by simp,by rw [ha,List.length_set];exact hk,?_,hb,?_⟩
   ·intro u hu
    rcases List.mem_cons.1 hu with rfl|hu
    ·exact ⟨ht,hd ⟨rfl,λ_ _=>rfl⟩⟩
    ·exact ⟨(hf u hu).1,hd (hf u hu).2⟩
   ·rw [ha,gdZ,Zr hk]
    simp [qcO]
theorem qeC {sd:Int} {x:List Ten} (h:(joined sd x).2=0):
  ∃k rows inner:Nat,sd=(k:Int)/\0<x.length/\k<(joined sd x).1.length/\Sh.right (joined sd x).1=true/\span ((joined sd x).1.take k)=rows/\Safe.prod ((joined sd x).1.take k)=(rows:Int)/\1<=rows/\1<=inner/\rows<=65536/\
   (∀t∈x,Tn.right t=true/\∃m:Nat,t.s.getD k 0=(m:Int)/\t.c.length=rows*(m*inner))/\Safe.prod (joined sd x).1=(rows:Int)*(qcO k x*(inner:Int)):=by
 obtain ⟨k,hq,hh,hk,hf,hr,hg⟩:=qe7 h;generalize (joined sd x).1=s at *;obtain ⟨_,l4,l1,hb,hs,hx⟩:=Sh.right_mul hr
 have ha:∀u:List Int,k<u.length->Safe.prod u=Safe.prod (u.take k)*(u.getD k 0*Safe.prod (u.drop (k+1))):=λu hu=>by
  have e:u=u.take k++(u[k]::u.drop (k+1)):=by rw [←Zd hu,Zn]
  have e2:u.getD k 0=u[k]:=qbs hu;have e3:Safe.prod u=Safe.prod (u.take k++(u[k]::u.drop (k+1))):=congrArg Safe.prod e;rw [e3,prod_append,e2];rfl
 have hp:1<=Safe.prod (s.take k):=Safe.prod_pos _ (λz hz=>(hb z (Zh hz)).1);have hw:1<=Safe.prod (s.drop (k+1)):=Safe.prod_pos _ (λz hz=>(hb z (Zp hz)).1);have hv:=Safe.prod_take_le s k (λz hz=>(hb z hz).1);obtain ⟨rows,hd⟩:=ezZ (show 0<=Safe.prod (s.take k) by omega);obtain ⟨inner,hl⟩:=ezZ (show 0<=Safe.prod (s.drop (k+1)) by omega);refine ⟨k,rows,inner,hq,hh,hk,hr,by unfold span;rw [hd];exact tnZ _,hd,by omega,by omega,by omega,λt ht=>?_,by rw [ha s hk,hd,hl,hg]⟩;obtain ⟨hj,hn⟩:=hf t ht;refine ⟨hj,?_⟩;have hc:=hj;simp only [Tn.right,Zz,decide_eq_true_eq] at hc;obtain ⟨_,_,_,ho,_,_⟩:=Sh.right_mul hc.1;have he:k<t.s.length:=by rw [hn.len];exact hk
 have hm:=ho _ (gmZ he);obtain ⟨m,hi⟩:=ezZ (show 0<=t.s[k] by omega);refine ⟨m,by rw [qbs he];exact hi,?_⟩;have h5:=hc.2;rw [ha t.s he,hn.take,hn.drop,hd,hl,qbs he,hi,←Int.natCast_mul,←Int.natCast_mul] at h5;exact Int.ofNat.inj h5
end Ly
namespace Ly
theorem join_err {sd:Int} {x:List Ten} (h:(joined sd x).2≠0):join sd x=(none_,(joined sd x).2):=by unfold join;rw [inZ h]
theorem join_ok {sd:Int} {x:List Ten} (h:(joined sd x).2=0):join sd x=(⟨(joined sd x).1,qdY (span ((joined sd x).1.take sd.toNat)) x (span ((joined sd x).1.take sd.toNat))⟩,0):=by unfold join;rw [ipZ h]
def wsum (rows:Nat):List Ten->Nat
 | []=>0
 | t::r=>t.c.length / rows+wsum rows r
theorem row_fit {rows i n:Nat} (h:i<rows):i*(n / rows)+n / rows<=n:=by
 have h1:(i+1)*(n / rows)<=rows*(n / rows):=mlZ _ h;rw [Zu] at h1;have h2:=Nat.mul_div_le n rows;omega
theorem qeD {rows i:Nat} {t:Ten} (h:i<rows):(qcv rows i t).length=t.c.length / rows:=by
 have:=row_fit (n:=t.c.length) h;unfold qcv;rw [Zo,Zq];omega
theorem qf2 {rows i:Nat} (h:i<rows):∀x:List Ten,(x.flatMap (qcv rows i)).length=wsum rows x
 | []=>by simp [wsum]
 | t::r=>by rw [List.flatMap_cons,Ze,qeD h,qf2 h r];rfl
theorem qfy (rows:Nat) (x:List Ten) (i:Nat):qdY rows x (i+1)=qdY rows x i++x.flatMap (qcv rows i):=by
 unfold qdY;rw [List.range_succ,Zj];simp
theorem qe8 {rows:Nat} {x:List Ten}:∀ {i:Nat},i<=rows->(qdY rows x i).length=i*wsum rows x
 | 0,_=>by simp [qdY]
 | i+1,h=>by rw [qfy,Ze,qe8 oZ,qf2 oZ,Zu]
theorem qgy {rows inner k:Nat} (hr:1<=rows):∀ {x:List Ten},(∀t∈x,Tn.right t=true/\∃m:Nat,t.s.getD k 0=(m:Int)/\t.c.length=rows*(m*inner))->((wsum rows x:Nat):Int)=qcO k x*(inner:Int)
 | [],_=>by simp [wsum,qcO]
 | t::r,h=>by
  obtain ⟨_,m,hm,hl⟩:=h t sZ;have ih:=qgy hr (x:=r) (λu hu=>h u (by simp [hu]));have e:t.c.length / rows=m*inner:=by rw [hl];exact Nat.mul_div_cancel_left _ hr
  simp only [wsum,qcO,List.foldr_cons];rw [e,hm,Int.natCast_add,ih,Int.natCast_mul,Int.add_mul]
  rfl
end Ly
def Above (b:Nat) (A B:Zp1):Prop:=A.heap.size<=B.heap.size/\∀k,b<=k->k<A.heap.size->B.heap[k]? = A.heap[k]?
theorem Above.refl (b:Nat) (A:Zp1):Above b A A:=⟨lrZ _,λ_ _ _=>rfl⟩
theorem Above.trans {b:Nat} {A B C:Zp1} (h:Above b A B) (k:Above b B C):Above b A C:=
 ⟨Zv h.1 k.1,λi hi hl=>(k.2 i hi (ltZ hl h.1)).trans (h.2 i hi hl)⟩
theorem Above.mono {b b':Nat} {A B:Zp1} (h:Above b A B) (hb:b<=b'):Above b' A B:=⟨h.1,λk hk hl=>h.2 k oZ hl⟩
theorem Above.alloc (b:Nat) (A:Zp1) (o:Obj):Above b A (A.alloc o):=⟨by simp,λk _ hk=>Below.heap_alloc A o k hk⟩
theorem Above.of_below {b:Nat} {A B:Zp1} (h:Below A.heap.size A B):Above b A B:=⟨h.size,λk _ hk=>h.block k hk⟩
theorem Above.cell {b:Nat} {A B:Zp1} {p:Addr} {v:Value} (h:Above b A B) (hb:b<=p.block) (hc:A.cell? p=some v):B.cell? p=some v:=
 (Zi1 (h.2 p.block hb (Zj1 _ _ hc))).trans hc
theorem Above.frozen {b:Nat} {A B:Zp1} {p:Addr} (h:Above b A B) (hb:b<=p.block) (hl:p.block<A.heap.size):B.frozen? p=A.frozen? p:=
 World.frozen?_of_block (h.2 p.block hb hl)
theorem Above.setCell {b:Nat} {A:Zp1} {p:Addr} (hp:p.block<b) (v:Value):Above b A (A.setCell p v):=
 ⟨by simp,λk hk _=>Below.heap_setCell A p v k oZ⟩
variable {F:Fence} {n:Nat} {P:Program}
end Go.Proofs.YtimfcikmpllbpaaGreat
namespace Go.Proofs.YtimfcikmpllbpaaGreat
set_option maxHeartbeats 16000000
set_option maxRecDepth 20000
open Go.RowKit
attribute [local go_sem] Oper.semAt_some
namespace Ly
def Frame.V (f:Frame):Value:=.agg #[nQ iQ f.outs,nQ iQ f.ins,nQ iQ f.k0,nQ iQ f.k1,nQ iQ f.i0,nQ iQ f.i1,nQ iQ f.o0,nQ iQ f.o1,nQ iQ f.step,nQ iQ f.k1,nQ iQ (f.k0*f.k1:Nat),nQ iQ (f.i0*f.i1:Nat)]
def Touch.V (t:Touch):Value:=.agg #[nQ iQ t.o,nQ iQ t.w,nQ iQ t.x]
end Ly
theorem Above.blk {b g:Nat} {t:TypeId} {cs:Array Value} {A B:Zp1} (h:Above b A B) (hb:b<=g) (hk:Blk A g t cs):Blk B g t cs:=
 (h.2 g hb hk.lt).trans hk
end Go.Proofs.YtimfcikmpllbpaaGreat
namespace Go.Proofs.YtimfcikmpllbpaaGreat
set_option maxHeartbeats 16000000
set_option maxRecDepth 20000
open Go.RowKit
attribute [local go_sem] Oper.semAt_some
namespace Ly
structure Frame.Small (f:Frame):Prop where
 outs:f.outs<=1048576
 o0:f.o0<=1048576
 o1:f.o1<=1048576
 ins:f.ins<=1048576
 k0:f.k0<=1048576
 k1:f.k1<=1048576
 out:f.outs*f.o0*f.o1<=1048576
 wgt:f.outs*f.ins*(f.k0*f.k1)<=1048576
 pos:0<f.k0*f.k1
 wide:0<f.o1
 inp:f.ins*(f.i0*f.i1)<=1048576
 high:(f.o0-1)*f.step*f.i1<=1048576
 side:(f.o1-1)*f.step<=1048576
 high2:(f.o0-1)*f.step<=1048576
 kin:f.k0*f.i1<=1048576
theorem Frame.Small.ki {f:Frame} (h:f.Small) {i:Nat} (hi:i<f.o0):i*f.step<=1048576/\i*f.step*f.i1<=1048576:=by
 have h1:i*f.step<=(f.o0-1)*f.step:=mlZ _ oZ;have h2:i*f.step*f.i1<=(f.o0-1)*f.step*f.i1:=mlZ _ h1;have:=h.high;have:=h.high2;omega
end Ly
end Go.Proofs.YtimfcikmpllbpaaGreat
namespace Go.Proofs.YtimfcikmpllbpaaGreat
set_option maxHeartbeats 16000000
set_option maxRecDepth 20000
open Go.RowKit
namespace Ly
structure Frame.Fit (f:Frame):Prop where
 outs:1<=f.outs
 ins:1<=f.ins
 k0:1<=f.k0
 k1:1<=f.k1
 o0:1<=f.o0
 o1:1<=f.o1
 step:1<=f.step
 fit0:(f.o0-1)*f.step+f.k0<=f.i0
 fit1:(f.o1-1)*f.step+f.k1<=f.i1
 out:f.outs*f.o0*f.o1<=65536
 wgt:f.outs*f.ins*(f.k0*f.k1)<=65536
 inp:f.ins*(f.i0*f.i1)<=65536
theorem Frame.Fit.pos {f:Frame} (h:f.Fit):0<f.outs*f.ins:=Nat.mul_pos h.outs h.ins
end Ly
namespace Ly
end Ly
theorem Ints.spot {w:Zp1} {a:Addr} {l:List Int} (h:Ints iQ w (some a) l) (hl:0<l.length):a.spot=none:=by
 obtain ⟨b',o',e,-,-⟩:=h 0 hl;injection e with e;rw [e]
def OnlyNormal (Q:Exit->Act->Zp1->Prop):Exit->Act->Zp1->Prop
 | .normal,a,w=>Q .normal a w
 | _,_,_=>False
theorem OnlyNormal.mk {Q:Exit->Act->Zp1->Prop} {a:Act} {w:Zp1} (h:Q .normal a w):OnlyNormal Q .normal a w:=h
theorem OnlyNormal.imp {Q:Exit->Act->Zp1->Prop}:∀(e:Exit) (a:Act) (w:Zp1),OnlyNormal Q e a w->Q e a w:=λe a w h=>by
 cases e<;>first|exact h|exact (h:False).elim
section
variable {P:Program} {ops:Array Oper} {n l:Nat}
end
namespace Ly
theorem qaU (l:List Int) (i:Nat) (v:Int):(addAt l i v).length=l.length:=by simp [addAt]
theorem qf3 {l:List Int} {i:Nat} {v:Int} (hl:∀z∈l,Fx.In z) (hv:Fx.In v):∀z∈addAt l i v,Fx.In z:=λz hz=>by
 unfold addAt at hz;rcases List.mem_or_eq_of_mem_set hz with h|rfl
 ·exact hl z h
 ·exact Fx.add_in _ _
end Ly
namespace Ly
theorem qbP {sd:Int}:∀ {r:List Ten} {s:List Int},(∀t∈r,Tn.right t=true)->qaG sd s r=Od.joinAll sd s (r.map Ten.s)
 | [],_,_=>rfl
 | t::r,s,h=>by
  unfold qaG;rw [ipZ (h t sZ),List.map_cons,Od.joinAll]
  split
  ·exact qbP λu hu=>h u (by simp [hu])
  ·rfl
theorem got_map {x:List Ten} (h:0<x.length):(x.map Ten.s).getD 0 []=(got x 0).s:=by
 cases x with
 | nil=>simp at h
 | cons a r=>rfl
theorem qeE {o:OpD} {p x:Int} (hr:Od.right o=true) (h1:Od.least o<=x) (h2:x<=Od.most o) (h3:p=Od.params o):Od.counts o p x=0:=by
 unfold Od.counts;rw [ipZ hr,inZ];rintro (h|h|h)<;>omega
theorem go_good {o:OpD} {p x:List Ten} (hp:∀t∈p,Tn.right t=true) (hx:∀t∈x,Tn.right t=true) (h:(Od.shape o (p.map Ten.s) (x.map Ten.s)).2=0):Od.counts o p.length x.length=0/\(lay o p x).2=0:=by
 obtain ⟨hr,h1,h2,h3,hn,ho,e⟩:=Od.shape_ok h;rw [List.length_map] at h1 h2 h3;have hc:=qeE hr h1 h2 h3;refine ⟨hc,?_⟩;rw [e] at h;have hk:=Od.right_kind hr;have hl:=Od.least_pos hr;unfold Od.least Od.most at *;unfold Od.params at h3;rw [ipZ hr] at h1 h2 h3;unfold Od.byKind at h;have hf:o.kind<=7∨o.kind=8∨o.kind=9∨o.kind=10∨o.kind=11∨o.kind=12∨o.kind=13∨o.kind=14∨o.kind=15:=by omega
 rcases hf with he|he|he|he|he|he|he|he|he
 ·have e:lay o p x=point o.kind o.k x:=by unfold lay;rw [inZ oZ,inZ oZ,inZ oZ,inZ oZ,inZ oZ,inZ oZ,inZ oZ,inZ oZ]
  rw [inZ oZ,inZ oZ,inZ oZ,inZ oZ,inZ oZ,inZ oZ,inZ oZ] at h;rw [ipZ he] at h1 h2;rw [ipZ hr,ipZ he] at hl;rw [e];unfold Od.same at h
  split at h
  ·rename_i hs
   have hm:0<x.length:=by omega
   rw [got_map hm] at hs;simp only [Zf,List.mem_map,decide_eq_true_eq] at hs
   have ha:ptAgree o.kind x=0:=by
    unfold ptAgree;rw [inZ oZ,inZ oZ,ipZ];simp only [Zf,Zz,decide_eq_true_eq];exact λt ht=>⟨hx t ht,hs _ ⟨t,ht,rfl⟩⟩
   unfold point;rw [ipZ ha]
  ·simp at h
 ·obtain ⟨a,b,rfl⟩:=qe3 (l:=p) (by simp [he] at h3;omega)
  obtain ⟨t,rfl⟩:=qai (l:=x) (by simp [he] at h1 h2;omega);have e:lay o [a,b] [t]=dense a b t:=by unfold lay;rw [ipZ he];rfl
  rw [ipZ he] at h;rw [e];unfold Od.dense at h;simp only [List.map_cons,List.map_nil,List.getD_cons_zero,List.getD_cons_succ] at h
  split at h
  ·rename_i hd
   obtain ⟨d1,d2,d3,d4,d5⟩:=hd;have ra:=hp a sZ;have rb:=hp b sZ;have rt:=hx t sZ;unfold dense;rw [ipZ];simp only [denseOk,Zz,decide_eq_true_eq];refine ⟨⟨⟨⟨⟨ra,d1⟩,rb⟩,rt⟩,?_⟩,?_⟩
   ·match hb:b.s,d2 with
    | [z],_=>rw [hb] at d3;simp at d3;unfold at_;rw [d3];simp
   ·rw [(right_s rt).2,d5];rfl
  ·simp at h
 ·obtain ⟨b,rfl⟩:=qai (l:=p) (by simp [he] at h3;omega)
  obtain ⟨t,rfl⟩:=qai (l:=x) (by simp [he] at h1 h2;omega);have e:lay o [b] [t]=add t b:=by unfold lay;rw [inZ oZ,ipZ he];rfl
  rw [inZ oZ,ipZ he] at h;rw [e];unfold Od.same at h
  split at h
  ·rename_i hs
   simp at hs;unfold add;rw [ipZ];simp only [alike,Zz,decide_eq_true_eq];exact ⟨⟨hx t sZ,hp b sZ⟩,hs⟩
  ·simp at h
 ·obtain ⟨b,rfl⟩:=qai (l:=p) (by simp [he] at h3;omega)
  obtain ⟨t,rfl⟩:=qai (l:=x) (by simp [he] at h1 h2;omega);have e:lay o [b] [t]=conv b t o.step:=by unfold lay;rw [inZ oZ,inZ oZ,ipZ he];rfl
  rw [inZ oZ,inZ oZ,ipZ he] at h;rw [e]
  have hg:qby b t o.step=0:=by
   unfold qby;rw [ipZ (by simp [hp b sZ,hx t sZ])];exact h
  unfold conv;rw [ipZ hg]
 ·obtain rfl:=qaq (l:=p) (by rw [inZ oZ,inZ oZ] at h3;omega)
  obtain ⟨t,rfl⟩:=qai (l:=x) (by simp [he] at h1 h2;omega);have e:lay o [] [t]=pool true t o.width o.step:=by unfold lay;rw [inZ oZ,inZ oZ,inZ oZ,ipZ he];rfl
  rw [inZ oZ,inZ oZ,inZ oZ,ipZ oZ] at h;rw [e]
  have hg:poolErr t o.width o.step=0:=by
   unfold poolErr;rw [ipZ (hx t sZ)];exact h
  unfold pool;rw [ipZ hg]
 ·obtain rfl:=qaq (l:=p) (by rw [inZ oZ,inZ oZ] at h3;omega)
  obtain ⟨t,rfl⟩:=qai (l:=x) (by simp [he] at h1 h2;omega);have e:lay o [] [t]=pool false t o.width o.step:=by unfold lay;rw [inZ oZ,inZ oZ,inZ oZ,inZ oZ,ipZ he];rfl
  rw [inZ oZ,inZ oZ,inZ oZ,ipZ oZ] at h;rw [e]
  have hg:poolErr t o.width o.step=0:=by
   unfold poolErr;rw [ipZ (hx t sZ)];exact h
  unfold pool;rw [ipZ hg]
 ·obtain rfl:=qaq (l:=p) (by rw [inZ oZ,inZ oZ] at h3;omega)
  have e:lay o [] x=join o.side x:=by unfold lay;rw [inZ oZ,inZ oZ,inZ oZ,inZ oZ,inZ oZ,ipZ he]
  rw [inZ oZ,inZ oZ,inZ oZ,inZ oZ,ipZ oZ] at h;rw [e]
  have hh:(joined o.side x).2=0:=by
   match x,h1 with
   | t::r,_=>
    unfold joined;simp only;rw [ipZ (hx t sZ)];unfold Od.joined at h
    split at h
    ·simp at h
    ·rename_i hcn
     rw [inZ,qbP λu hu=>hx u (by simp [hu])]
     ·exact h
     ·rintro ⟨hj,hi⟩
      refine hcn ⟨by simpa using hj,?_⟩;simp [Od.inR];omega
   | [],h1=>simp at h1;omega
  unfold join;rw [ipZ hh]
 ·obtain rfl:=qaq (l:=p) (by rw [inZ oZ,inZ oZ] at h3;omega)
  obtain ⟨t,rfl⟩:=qai (l:=x) (by simp [he] at h1 h2;omega);have e:lay o [] [t]=cut t o.side o.frm o.to:=by unfold lay;rw [inZ oZ,inZ oZ,inZ oZ,inZ oZ,inZ oZ,inZ oZ,ipZ he];rfl
  rw [inZ oZ,inZ oZ,inZ oZ,inZ oZ,inZ oZ,ipZ oZ] at h;rw [e];unfold cut;have h:(Od.cut t.s o.side o.frm o.to).2=0:=h;rw [ipZ (hx t sZ),ipZ h]
 ·obtain rfl:=qaq (l:=p) (by rw [inZ oZ,inZ oZ] at h3;omega)
  obtain ⟨t,rfl⟩:=qai (l:=x) (by simp [he] at h1 h2;omega);have e:lay o [] [t]=turn t o.s:=by unfold lay;rw [inZ oZ,inZ oZ,inZ oZ,inZ oZ,inZ oZ,inZ oZ,inZ oZ,ipZ he];rfl
  rw [inZ oZ,inZ oZ,inZ oZ,inZ oZ,inZ oZ,inZ oZ,ipZ oZ] at h;rw [e];unfold Od.turned at h
  split at h
  ·rename_i hs
   simp at hs;have rt:=hx t sZ;unfold turn of_;rw [ipZ rt,ipZ];simp only [Tn.right,Zz,decide_eq_true_eq];exact ⟨hs.1.2,by rw [(right_s rt).2,hs.2]⟩
  ·simp at h
theorem qbg (f:Touch->Nat) (g:Touch->Int):∀(ts:List Touch) (l:List Int),(ts.foldl (λo t=>addAt o (f t) (g t)) l).length=l.length
 | [],_=>rfl
 | t::ts,l=>by rw [List.foldl_cons,qbg f g ts,qaU]
theorem right_of {s c:List Int} (h1:Sh.right s=true) (h2:(c.length:Int)=Safe.prod s):Tn.right ⟨s,c⟩=true:=by simp [Tn.right,h1,h2]
theorem qcA {s:List Int} (h:Sh.right s=true):(span s:Int)=Safe.prod s:=by
 obtain ⟨_,_,_,_,h1,_⟩:=Sh.right_mul h;unfold span;omega
theorem cut_lay {x:Ten} {sd frm til:Int} (h:(cut x sd frm til).2=0) (hrs:Sh.right (cut x sd frm til).1.s=true):Tn.right (cut x sd frm til).1=true:=by
 by_cases hr:Tn.right x=true
 case neg=>rw [qgw (by simpa using hr)] at h;simp at h
 by_cases hc:(Od.cut x.s sd frm til).2=0
 case neg=>rw [cut_err hr hc] at h;exact absurd h hc
 obtain ⟨k,S,f,t,inner,pre,e1,e2,e3,hk,hS,hj,hh,hm,hl,hg,hd,hf,hb,ha,-,-,-⟩:=qgv hr hc;rw [cut_ok hr hc] at hrs ⊢;refine right_of hrs ?_;have h1:side x.s sd.toNat=S:=by unfold side at_;rw [e1,tnZ,hS,tnZ]
 have h2:span ((Od.cut x.s sd frm til).1.drop (sd.toNat+1))=inner:=by unfold span;rw [hd,e1,tnZ,hf,tnZ]
 have he:0<S*inner:=Nat.mul_pos oZ oZ;rw [h1,h2,ha,Nat.mul_div_cancel _ he,rows_len,hd,hb,e2,e3,tnZ,tnZ];intro i hi;rw [e2,e3,tnZ,tnZ,ha];have a1:f*inner+(t-f)*inner<=S*inner:=by rw [←Nat.add_mul];exact mlZ _ oZ
 have a2:(i+1)*(S*inner)<=pre*(S*inner):=mlZ _ oZ;rw [Zu] at a2;omega
theorem lay_right {o:OpD} {p x:List Ten} (hc:Od.counts o p.length x.length=0) (h:(lay o p x).2=0):Tn.right (lay o p x).1=true:=by
 have hs:=lay_shape hc h
 have ha:Sh.right (lay o p x).1.s=true:=by
  have:=Od.shape_right (by rw [hs]);rw [hs] at this;exact this
 clear hs;obtain ⟨hr,h1,h2,h3⟩:=counts_ok hc;have hk:=Od.right_kind hr;unfold lay at h ha ⊢
 split at h
 ·rename_i hk1
  rw [ipZ hk1] at ha ⊢;unfold dense at h ha ⊢
  split at h
  ·rename_i hd
   rw [ipZ hd] at ha ⊢;simp only [denseOk,Zz,decide_eq_true_eq] at hd;refine right_of ha ?_;rw [tab_len];exact (right_s hd.1.1.1.2).2
  ·simp at h
 ·rename_i n8
  rw [inZ n8] at ha ⊢
  split at h
  ·rename_i hk1
   rw [ipZ hk1] at ha ⊢;unfold add at h ha ⊢
   split at h
   ·rename_i hd
    rw [ipZ hd] at ha ⊢;simp only [alike,Zz,decide_eq_true_eq] at hd;refine right_of ha ?_;rw [tab_len];exact (right_s hd.1.1).2
   ·simp at h
  ·rename_i n9
   rw [inZ n9] at ha ⊢
   split at h
   ·rename_i hk1
    rw [ipZ hk1] at ha ⊢;unfold conv at h ha ⊢
    split at h
    ·rename_i hd
     rw [ipZ hd] at ha ⊢;refine right_of ha ?_;unfold convC;rw [qbg,zeros_len];exact qcA ha
    ·rename_i hd;exact absurd h hd
   ·rename_i n10
    rw [inZ n10] at ha ⊢
    split at h
    ·rename_i hk1
     rw [ipZ hk1] at ha ⊢;unfold pool at h ha ⊢
     split at h
     ·rename_i hd
      rw [ipZ hd] at ha ⊢;refine right_of ha ?_;rw [tab_len];exact qcA ha
     ·rename_i hd;exact absurd h hd
    ·rename_i n11
     rw [inZ n11] at ha ⊢
     split at h
     ·rename_i hk1
      rw [ipZ hk1] at ha ⊢;unfold pool at h ha ⊢
      split at h
      ·rename_i hd
       rw [ipZ hd] at ha ⊢;refine right_of ha ?_;rw [tab_len];exact qcA ha
      ·rename_i hd;exact absurd h hd
     ·rename_i n12
      rw [inZ n12] at ha ⊢
      split at h
      ·rename_i hk1
       rw [ipZ hk1] at ha ⊢
       by_cases hj:(joined o.side x).2=0
       case neg=>rw [join_err hj] at h;exact absurd h hj
       rw [join_ok hj] at ha ⊢;refine right_of ha ?_;obtain ⟨k,rows,inner,q0,q1,q2,q3,q4,q5,q6,q7,q8,q9,q10⟩:=qeC hj;have q11:o.side.toNat=k:=by omega
       show ((qdY _ _ _).length:Int)=Safe.prod (joined o.side x).1
       rw [q11,q4,qe8 (lrZ _),q10,Int.natCast_mul,qgy q6 q9]
      ·rename_i n13
       rw [inZ n13] at ha ⊢
       split at h
       ·rename_i hk1
        rw [ipZ hk1] at ha ⊢;exact cut_lay h ha
       ·rename_i n14
        rw [inZ n14] at ha ⊢
        split at h
        ·rename_i hk1
         rw [ipZ hk1] at ha ⊢;unfold turn of_ at h ⊢
         split at h
         ·rename_i hd
          rw [ipZ hd]
          split at h
          ·rename_i hd2;rw [ipZ hd2];exact hd2
          ·simp at h
         ·simp at h
        ·rename_i n15
         rw [inZ n15] at ha ⊢;unfold point at h ha ⊢
         split at h
         ·rename_i hd
          rw [ipZ hd] at ha ⊢;refine right_of ha ?_;rw [tab_len];unfold ptAgree at hd
          split at hd
          ·simp at hd
          ·split at hd
           ·simp at hd
           ·split at hd
            ·rename_i g1 g2 hall
             simp only [Zf,Zz,decide_eq_true_eq] at hall
             have hb:0<x.length:=by
              rcases Nat.eq_zero_or_pos x.length with h0|h0
              ·simp [h0] at g2;omega
              ·exact h0
             have:got x 0∈x:=by rw [qaj hb];exact gmZ hb
             exact (right_s (hall _ this).1).2
            ·simp at hd
         ·rename_i hd;exact absurd h hd
end Ly
namespace Pn
theorem qgz {ps:List Ten} {ss:List (List Int)} (hl:ps.length=ss.length) (h:parOk ps ss ss.length=true):ps.map Ten.s=ss/\∀t∈ps,Tn.right t=true:=by
 have key:∀i (hi:i<ps.length),Tn.right ps[i]=true/\ps[i].s=ss[i]'oZ:=λi hi=>by
  have:=List.all_eq_true.1 h i (List.mem_range.2 oZ);have h2:=tenIs_ok this;rw [qaj hi,gdZ,geZ oZ] at h2;exact h2
 refine ⟨List.ext_getElem (by simp [hl]) λi h1 h2=>?_,λt ht=>?_⟩
 ·rw [List.getElem_map];exact (key i (by simpa using h1)).2
 ·obtain ⟨i,hi,rfl⟩:=List.getElem_of_mem ht
  exact (key i hi).1
theorem qeF {ns:List NodeD} {k:Nat} (h:k<ns.length):((ns.flatMap (·.p)).drop (from_ ns k)).take ns[k].p.length=ns[k].p:=by
 have e:ns.flatMap (·.p)=(ns.take k).flatMap (·.p)++(ns[k].p++(ns.drop (k+1)).flatMap (·.p)):=by
  rw [←List.flatMap_cons,←Zd h,←Zj,Zn]
 rw [e];unfold from_;rw [List.drop_left,List.take_left]
theorem qc2 {n:NetD} {ps:List Ten} (hm:ps.map Ten.s=Nt.params n) (hr:∀t∈ps,Tn.right t=true) {id:Int} (h1:1<=id) (h2:id<=n.nodes.length):
  (parts n ps id).map Ten.s=(Nt.node n.nodes id).p/\(∀t∈parts n ps id,Tn.right t=true)/\(parts n ps id).length=(Nt.node n.nodes id).p.length:=by
 obtain ⟨hk,e⟩:=Nt.node_in ⟨h1,h2⟩;have ek:(id-1).toNat=id.toNat-1:=by omega
 have key:(parts n ps id).map Ten.s=(Nt.node n.nodes id).p:=by
  unfold parts;rw [List.map_take,List.map_drop,hm,e];simp only [ek];exact qeF oZ
 refine ⟨key,λt ht=>hr t (Zp (Zh ht)),?_⟩;rw [←key,List.length_map]
theorem qaZ {l:List Ten} {k:Nat} {t:Ten} (h:k<l.length):Ly.got (l.set k t) k=t:=by
 unfold Ly.got;rw [gdZ,Zr h];rfl
theorem qaH {l:List Ten} {k j:Nat} {t:Ten} (h:k≠j):Ly.got (l.set k t) j=Ly.got l j:=by
 unfold Ly.got;rw [gdZ,gdZ,Zs h]
theorem got_s {l:List Ten} (i:Nat):(l.map Ten.s).getD i []=(Ly.got l i).s:=by
 unfold Ly.got;simp only [gdZ,List.getElem?_map];cases l[i]?<;>rfl
theorem pick_map (vals:List Ten) (ins:List Int):(pickT vals ins).map Ten.s=Nt.pick (vals.map Ten.s) ins:=by
 unfold pickT Nt.pick;rw [List.map_map];exact List.map_congr_left λi _=>(got_s i.toNat).symm
theorem pick_set {vals:List Ten} {ins:List Int} {u:Int} {t:Ten} (hu:1<=u) (h:∀i∈ins,i≠u/\0<=i):pickT (vals.set u.toNat t) ins=pickT vals ins:=by
 unfold pickT;refine List.map_congr_left λi hi=>qaH ?_
 have:=h i hi;omega
structure Done (n:NetD) (ps:List Ten) (x:Ten) (a:List Int) (vals:List Ten):Prop where
 len:vals.length=n.nodes.length+1
 lay0:Nt.lay n.nodes (Nt.start n) a=(vals.map Ten.s,0)
 zero:Ly.got vals 0=x
 right:∀i:Int,i=0∨i∈a->Tn.right (Ly.got vals i.toNat)=true
 step:∀id∈a,Pn.step n ps vals id=(Ly.got vals id.toNat,0)
theorem qgA {n:NetD} {ps:List Ten} {x:Ten} (hc:Nt.check n=0) (hm:ps.map Ten.s=Nt.params n) (hr:∀t∈ps,Tn.right t=true) {a b:List Int} {u:Int} {vals:List Ten} (hs:Nt.sorted n.nodes=a++u::b) (h:Done n ps x a vals):
  (Pn.step n ps vals u).2=0/\Done n ps x (a++[u]) (vals.set u.toNat (Pn.step n ps vals u).1):=by
 obtain ⟨c1,c2,c3,c4,c5,c6,c7,c8⟩:=Nt.check_ok hc;have hd:∀v∈Nt.sorted n.nodes,1<=v/\v<=n.nodes.length:=Kn.order_rng _ _;have hp:(Nt.sorted n.nodes).Nodup:=(Kn.go_ok _ _ _).nodup;have hu:=hd u (by rw [hs];simp);have hw:∀i∈Nt.insF n.nodes u,i=0∨i∈a:=Kn.order_behind _ _ hs
 have hj:u∉a:=by
  rw [hs,List.nodup_append] at hp;intro hm;exact hp.2.2 u hm u sZ rfl
 have hh:∀i:Int,i=0∨i∈a->0<=i/\i≠u:=λi hi=>by
  rcases hi with rfl|hi
  ·omega
  ·have:=hd i (by rw [hs];simp [hi])
   exact ⟨by omega,λe=>hj (e▸hi)⟩
 obtain ⟨p1,p2,p3⟩:=qc2 hm hr hu.1 hu.2
 have hg:(Nt.layStep n.nodes (vals.map Ten.s) u).2=0:=by
  have c:=c6;rw [hs,Nt.lay_append,h.lay0] at c;simp only [if_true] at c;unfold Nt.lay at c
  split at c
  ·assumption
  ·rename_i hb;exact absurd c hb
 have he:∀t∈pickT vals (Nt.node n.nodes u).ins,Tn.right t=true:=λt ht=>by
  obtain ⟨i,hi,rfl⟩:=List.mem_map.1 ht;exact h.right i (hw i hi)
 have ha:Od.shape (Nt.node n.nodes u).op ((parts n ps u).map Ten.s) ((pickT vals (Nt.node n.nodes u).ins).map Ten.s)=Nt.layStep n.nodes (vals.map Ten.s) u:=by
  rw [p1,pick_map];rfl
 obtain ⟨g1,g2⟩:=Ly.go_good p2 he (by rw [ha];exact hg);have hf:Pn.step n ps vals u=Ly.lay (Nt.node n.nodes u).op (parts n ps u) (pickT vals (Nt.node n.nodes u).ins):=Ly.go_lay g1;have hn:=Ly.lay_shape g1 g2;have ho:=Ly.lay_right g1 g2;rw [←hf] at g2 hn ho;rw [ha] at hn;have hx:u.toNat<vals.length:=by rw [h.len];omega
 refine ⟨g2,by rw [List.length_set];exact h.len,?_,?_,?_,?_⟩
 ·rw [Nt.lay_snoc h.lay0 hg,hn,List.map_set]
 ·rw [qaH oZ];exact h.zero
 ·intro i hi
  by_cases e:i=u
  ·subst e;rw [qaZ hx];exact ho
  ·have hq:i=0∨i∈a:=by
    rcases hi with hi|hi
    ·exact .inl hi
    ·rcases List.mem_append.1 hi with hi|hi
     ·exact .inr hi
     ·simp at hi;exact absurd hi e
   have:=hh i hq;rw [qaH oZ];exact h.right i hq
 ·intro v hv
  have hk:∀i∈(Nt.node n.nodes v).ins,i≠u/\0<=i:=λi hi=>by
   rcases List.mem_append.1 hv with hv|hv
   ·obtain ⟨a1,a2,ea⟩:=List.append_of_mem hv
    have hz:Kn.order (Nt.insF n.nodes) n.nodes.length=a1++v::(a2++u::b):=by
     show Nt.sorted n.nodes=_
     rw [hs,ea];simp
    have hy:∀i∈Nt.insF n.nodes v,i=0∨i∈a1:=Kn.order_behind _ _ hz
    have h3:i=0∨i∈a:=by
     rcases hy i hi with h4|h4
     ·exact .inl h4
     ·exact .inr (by rw [ea];simp [h4])
    exact (hh i h3).symm
   ·simp at hv;subst hv
    exact (hh i (hw i hi)).symm
  have e1:Pn.step n ps (vals.set u.toNat (Pn.step n ps vals u).1) v=Pn.step n ps vals v:=by
   show Ly.go _ _ (pickT _ _)=Ly.go _ _ (pickT _ _)
   rw [pick_set hu.1 hk]
  rw [e1]
  by_cases e:v=u
  ·subst e
   rw [qaZ hx];exact Prod.ext rfl g2
  ·have hl:v∈a:=by
    rcases List.mem_append.1 hv with hv|hv
    ·exact hv
    ·simp at hv;exact absurd hv e
   have:=hh v (.inr hl);have h1:=hd v (by rw [hs];simp [hl]);rw [qaH oZ];exact h.step v hl
theorem qdq {n:NetD} {ps:List Ten} {x:Ten} (hc:Nt.check n=0) (hm:ps.map Ten.s=Nt.params n) (hr:∀t∈ps,Tn.right t=true):∀(b a:List Int) (vals:List Ten),Nt.sorted n.nodes=a++b->Done n ps x a vals->∃out,fwd n ps vals b=(out,0)/\Done n ps x (a++b) out
 | [],a,vals,_,h=>⟨vals,rfl,by rw [List.append_nil];exact h⟩
 | u::b,a,vals,hs,h=>by
  obtain ⟨h1,h2⟩:=qgA hc hm hr hs h;obtain ⟨out,h3,h4⟩:=qdq hc hm hr b (a++[u]) _ (by rw [hs];simp) h2;refine ⟨out,?_,by rw [List.append_assoc] at h4;exact h4⟩;unfold fwd;rw [ipZ h1];exact h3
theorem forward_good {n:NetD} {ps:List Ten} {x:Ten} (h:fits n ps x=0):
  ∃vals,forward n ps x=(vals,0)/\vals.length=n.nodes.length+1/\Ly.got vals 0=x/\vals.map Ten.s=Nt.shapes n/\∀id:Int,1<=id->id<=n.nodes.length->step n ps vals id=(Ly.got vals id.toNat,0):=by
 obtain ⟨hc,hl,hp,hx⟩:=fits_ok h;obtain ⟨hm,hr⟩:=qgz hl hp;obtain ⟨hb,ha⟩:=tenIs_ok hx;obtain ⟨c1,c2,c3,c4,c5,c6,c7,c8⟩:=Nt.check_ok hc
 have h0:Done n ps x [] (x::Zc n.nodes.length Ly.none_):=⟨by simp,by simp [Nt.lay,Nt.start,ha,Ly.none_],rfl,λi hi=>by
  rcases hi with rfl|hi
  ·exact hb
  ·simp at hi,by simp⟩
 obtain ⟨out,h1,h2⟩:=qdq hc hm hr (Nt.sorted n.nodes) [] _ rfl h0;refine ⟨out,?_,h2.len,h2.zero,?_,λid a b=>h2.step id ?_⟩
 ·unfold forward
  rw [inZ oZ];exact h1
 ·have:=h2.lay0
  rw [List.nil_append] at this;unfold Nt.shapes;rw [this]
 ·rw [List.nil_append]
  exact (Kn.order_full c5 id).2 ⟨a,b⟩
end Pn
namespace Pn
def add (g m:Ten):Ten:=if g.c.length=0 then m else if (Ly.add g m).2=0 then (Ly.add g m).1 else g
end Pn
def TenR1 (t:Ten) (w:Zp1) (e:Ending) (w':Zp1):Prop:=∃v,e=.returned v/\TenO w.heap.size w' v t/\Below w.heap.size w w'
theorem qeG {t:Ten} {w w1 wf:Zp1} {v u u2:Value} {p:Nat} {T:TypeId} (ho:TenO w1.heap.size wf v t) (hL:Later w wf) (hz:Blk wf p T #[sQ none 0 0,sQ none 0 0]) (hp:w.heap.size<=p) (hs:w.heap.size<=w1.heap.size):
  TenR1 t w (.returned v) ((wf.setCell ⟨p,0,none⟩ u).setCell ⟨p,1,none⟩ u2):=
 ⟨v,rfl,(ho.base hs).box hz,(hL.set (p:=⟨p,0,none⟩) hp _).set (p:=⟨p,1,none⟩) hp _⟩
theorem qgB (GS GC MS MC:Option Addr) (c d c' d':Nat) (g m:Ten) (w:Zp1) (hG:TenIn w GS GC c d g) (hM:TenIn w MS MC c' d' m) (l1:g.s.length<=1000000) (l2:g.c.length<=1000000) (l3:m.s.length<=1000000) (l4:m.c.length<=1000000):
  Calls Tryz.prog 25 #[.agg #[sQ GS g.s.length c,sQ GC g.c.length d],.agg #[sQ MS m.s.length c',sQ MC m.c.length d']] w (TenR1 (Pn.add g m) w):=by
 obtain ⟨hv,hF,hz,hy⟩:=qav w 30 30 30 #[sQ GS g.s.length c,sQ GC g.c.length d] #[sQ MS m.s.length c',sQ MC m.c.length d'] #[sQ none 0 0,sQ none 0 0];obtain ⟨ho,hA,Hz,hd,HG,HM⟩:=zd6 hv hF hz hy hG hM;clear hv hF hz hy hG hM;go_enter Tryz.func25,Tryz.ntmps25;go_upto_region 1 with fail;generalize (((w.alloc (.cells #[sQ GS g.s.length c,sQ GC g.c.length d] 30)).alloc (.cells #[sQ MS m.s.length c',sQ MC m.c.length d'] 30)).alloc (.cells #[sQ none 0 0,sQ none 0 0] 30))=w1 at *;have a0:=ho.out.cell 0;have a1:=ho.out.cell 1;have b0:=hA.out.cell 0;have b1:=hA.out.cell 1;simp at a0 a1 b0 b1;have hw:=hd.out.size
 by_cases h0:g.c.length=0
 ·have HE:=zI (show Pn.add g m=m by unfold Pn.add;rw [ipZ h0])
  have d1:((g.c.length:Int)==0)=true:=by simp [h0]
  have q1:(g.c.length:Int)=0:=by omega
  clear h0;go_wp2_with fail;refine (qab MS MC c' d' m w1 l3 l4 (HM.out.later hd.out).r).mono ?_;rintro e w2 ⟨v,rfl,hN,hj⟩;have hg:Later w1 w2:=hj;have ha:=hg.blk Hz.out;have hO:=hN.o (B:=w1.heap.size) oZ oZ HM.out.num;obtain ⟨g1,h1,rfl,-,-,-,-⟩:=hN;have c0:=ha.cell 0;have c1:=ha.cell 1;have f0:=ha.frozen 0;have f1:=ha.frozen 1;have hb:=(ha.set_ 0 (sQ (some ⟨g1,0,none⟩) m.s.length m.s.length)).set_ 1 (sQ (some ⟨h1,0,none⟩) m.c.length m.c.length);have e0:=hb.cell 0;have e1:=hb.cell 1;simp at c0 c1 e0 e1;clear hj a0 a1 b0 b1;obtain ⟨hD,hq,ht,HO⟩:=zd4 hg ha hb hO;clear hg ha hb hO;go_wp2_with fail;refine Zk1 (v:=.agg #[sQ (some ⟨g1,0,none⟩) m.s.length m.s.length,sQ (some ⟨h1,0,none⟩) m.c.length m.c.length]) (by simp [results,Tryz.results25,go_sem,e0,e1]) rfl ?_;rw [HE.out];exact qeG HO.out (hd.out.trans hD.out) hq.out oZ hw
 have d1:((g.c.length:Int)==0)=false:=by simpa using h0
 have q1:¬(g.c.length:Int)=0:=by omega
 obtain ⟨R,hR⟩:∃R,Ly.add g m=R:=⟨_,rfl⟩
 have hc:=qan (qd1 GS GC MS MC c d c' d' g m w1 (HG.out.later hd.out) (HM.out.later hd.out)) Ly.add_none;have he:=show Pn.add g m=if R.2=0 then R.1 else g by unfold Pn.add;rw [inZ h0,hR]
 rw [hR] at hc;clear h0;obtain ⟨hi,HR,He⟩:=zd3 hc hR he;clear hc hR he;go_wp2_with fail;refine (hi.out).mono ?_;rintro e w2 ⟨S2,c2,C2,d2,rfl,hK,hx,hj⟩;have hg:Later w1 w2:=hj;have hm:Later w2 (w2.alloc (.cells #[sQ S2 R.1.s.length c2,sQ C2 R.1.c.length d2] 30)):=(Later.refl w2).alloc _;have hC:=Blk.new w2 30 #[sQ S2 R.1.s.length c2,sQ C2 R.1.c.length d2];have hk:=hg.trans hm;have hE:=hk.blk Hz.out;have hs:=hk.blk ho.out;have hh:=λh=>(hx h).later hm
 clear a0 a1 b0 b1 hj hx hK;obtain ⟨hD,hL,hu,hl,hf,hH,hp⟩:=zd7 hg hm hC hk hE hs hh;clear hg hm hC hk hE hs hh;go_upto_region 4 with fail;generalize w2.alloc (.cells #[sQ S2 R.1.s.length c2,sQ C2 R.1.c.length d2] 30)=w3 at *;generalize w2.heap.size=yb at *
 by_cases hr:R.2=0
 ·have HE:=zI (He.out.trans (ipZ hr))
  have d3:(R.2 != 0)=false:=by simp [hr]
  have hO:=hp.out hr;have y0:=hu.out.cell 0;have y1:=hu.out.cell 1;have c0:=hf.out.cell 0;have c1:=hf.out.cell 1;have f0:=hf.out.frozen 0;have f1:=hf.out.frozen 1;have hb:=(hf.out.set_ 0 (sQ S2 R.1.s.length c2)).set_ 1 (sQ C2 R.1.c.length d2);have e0:=hb.cell 0;have e1:=hb.cell 1;simp at c0 c1 e0 e1 y0 y1;obtain ⟨ht,HO⟩:=zd2 hb hO;clear hb hO;go_wp2_with fail;refine Zk1 (v:=.agg #[sQ S2 R.1.s.length c2,sQ C2 R.1.c.length d2]) (by simp [results,Tryz.results25,go_sem,e0,e1]) rfl ?_;rw [HE.out];exact qeG HO.out (hd.out.trans hl.out) hf.out oZ hw
 ·have HE:=zI (He.out.trans (inZ hr))
  have d3:(R.2 != 0)=true:=by simpa using hr
  have a0:=hH.out.cell 0;have a1:=hH.out.cell 1;simp at a0 a1;clear hr;go_wp2_with fail;refine (qab GS GC c d g w3 l1 l2 (HG.out.later (hd.out.trans hl.out)).r).mono ?_;rintro e w4 ⟨v,rfl,hN,hB⟩;have hn:Later w3 w4:=hB;have ha:=hn.blk hf.out;have hO:=hN.o (B:=w3.heap.size) oZ oZ HG.out.num;obtain ⟨g1,h1,rfl,-,-,-,-⟩:=hN;have c0:=ha.cell 0;have c1:=ha.cell 1;have f0:=ha.frozen 0;have f1:=ha.frozen 1;have hb:=(ha.set_ 0 (sQ (some ⟨g1,0,none⟩) g.s.length g.s.length)).set_ 1 (sQ (some ⟨h1,0,none⟩) g.c.length g.c.length);have e0:=hb.cell 0;have e1:=hb.cell 1;simp at c0 c1 e0 e1;have hI:=(hd.out.trans hl.out).size;clear hB a0 a1;obtain ⟨hJ,hq,ht,HO⟩:=zd4 hn ha hb hO;clear hn ha hb hO;go_wp2_with fail;refine Zk1 (v:=.agg #[sQ (some ⟨g1,0,none⟩) g.s.length g.s.length,sQ (some ⟨h1,0,none⟩) g.c.length g.c.length]) (by simp [results,Tryz.results25,go_sem,e0,e1]) rfl ?_;rw [HE.out];exact qeG HO.out ((hd.out.trans hl.out).trans hJ.out) hq.out oZ hI
theorem qgC (S C GS GC:Option Addr) (c d gc gd:Nat) (x g:Ten) (w:Zp1) (hx:TenIn w S C c d x) (hg:TenIn w GS GC gc gd g):
  Calls Tryz.prog 99 #[.agg #[sQ S x.s.length c,sQ C x.c.length d],.agg #[sQ GS g.s.length gc,sQ GC g.c.length gd]] w (GoP (Ly.turnBack x g) w):=by
 obtain ⟨hR,hG,hz,hP⟩:=qav w 30 30 30 #[sQ S x.s.length c,sQ C x.c.length d] #[sQ GS g.s.length gc,sQ GC g.c.length gd] #[sQ none 0 0,sQ none 0 0];have l1:=hx.l1;have l2:=hx.l2;have l3:=hg.l1;have l4:=hg.l2;obtain ⟨hS,hN,Hz,hD,Hx,Hg⟩:=zd6 hR hG hz hP hx hg;clear hR hG hz hP hx hg;go_enter Tryz.func99,Tryz.ntmps99;go_wp2_with fail;generalize ((w.alloc (.cells #[sQ S x.s.length c,sQ C x.c.length d] 30)).alloc (.cells #[sQ GS g.s.length gc,sQ GC g.c.length gd] 30)).alloc (.cells #[sQ none 0 0,sQ none 0 0] 30)=w1 at *;refine (qa5 S C c d x w1 oZ oZ (Hx.out.later hD.out).r.1).mono ?_;rintro e w2 ⟨rfl,hJ⟩;have hw:Later w1 w2:=hJ;have hC:=hD.out.trans hw;have hj:=hw.blk Hz.out;have hf:=hw.blk hS.out;have ha:=hw.blk hN.out;clear hJ Hz hD hS hN hw;cases hr:Tn.right x
 ·have HE:=zI (show Ly.turnBack x g=(Ly.none_,20) by unfold Ly.turnBack;rw [hr];rfl)
  clear hr;have c0:=hj.cell 0;have c1:=hj.cell 1;have f0:=hj.frozen 0;have f1:=hj.frozen 1;simp at c0 c1;obtain ⟨hk,hv,hi,hl⟩:=zd4 hC hj hf ha;clear hC hj hf ha;go_wp2_with fail;refine Zk1 (v:=.tuple #[.agg #[sQ none 0 0,sQ none 0 0],nQ iQ 20]) (by simp [results,Tryz.results99,go_sem,c0,c1]) rfl ?_;exact GoP.fail HE.out dZ ((hk.out.set (p:=⟨w.heap.size+2,0,none⟩) sZ _).set (p:=⟨w.heap.size+2,1,none⟩) sZ _)
 have g0:=ha.cell 0;have g1:=ha.cell 1;simp at g0 g1;obtain ⟨hk,hv,hi,hl⟩:=zd4 hC hj hf ha;clear hC hj hf ha;go_wp2_with fail;refine (qa5 GS GC gc gd g w2 oZ oZ (Hg.out.later hk.out).r.1).mono ?_;rintro e w3 ⟨rfl,hO⟩;have hs:Later w2 w3:=hO;have hm:=hk.out.trans hs;have hb:=hs.blk hv.out;have hc:=hs.blk hi.out;have hh:=hs.blk hl.out;clear hO hv hk hi hl hs g0 g1;cases hq:Tn.right g
 ·have HE:=zI (show Ly.turnBack x g=(Ly.none_,20) by unfold Ly.turnBack;rw [hr,hq];rfl)
  clear hr hq;have c0:=hb.cell 0;have c1:=hb.cell 1;have f0:=hb.frozen 0;have f1:=hb.frozen 1;simp at c0 c1;obtain ⟨hV,h3,h0,hY⟩:=zd4 hm hb hc hh;clear hm hb hc hh;go_wp2_with fail;refine Zk1 (v:=.tuple #[.agg #[sQ none 0 0,sQ none 0 0],nQ iQ 20]) (by simp [results,Tryz.results99,go_sem,c0,c1]) rfl ?_;exact GoP.fail HE.out dZ ((hV.out.set (p:=⟨w.heap.size+2,0,none⟩) sZ _).set (p:=⟨w.heap.size+2,1,none⟩) sZ _)
 ·have HE:=zI (show Ly.turnBack x g=Ly.of_ x.s g.c by unfold Ly.turnBack;rw [hr,hq];rfl)
  clear hr hq;have x0:=hc.cell 0;have x1:=hh.cell 1;simp at x0 x1;have hn:=Hg.out.num;have hM:TenR w3 S GC ⟨x.s,g.c⟩:=⟨(Hx.out.later hm).r.1,(Hg.out.later hm).r.2⟩
  have he:=(qcu S GC c gd ⟨x.s,g.c⟩ w3 l1 l4 hM).mono (λe w' h=>of_gop h hn);rw [←show Ly.turnBack x g=Ly.of_ x.s g.c from HE.out] at he;obtain ⟨hv,hi,hk,hp⟩:=zd4 hb hc hm he;clear hb hc hm he hM hn hh;go_wp2_with fail;clear x0 x1;refine (hp.out).mono ?_;rintro e wf hy;have ho:Later w3 wf:=hy.2;have hd:=ho.blk hv.out;have hB:=hk.out.trans ho;have f0:=hd.frozen 0;have f1:=hd.frozen 1;have hA:w.heap.size<=w.heap.size+2:=by first|exact lrZ _|simp|omega
  rcases hy.1 with ⟨hK,rfl⟩|⟨hF,v,rfl,hu⟩
  ·have c0:=hd.cell 0
   have c1:=hd.cell 1;simp at c0 c1;have ht:=hK;generalize hge:(Ly.turnBack x g).2=ge at *;obtain ⟨hT,hZ⟩:=zd2 hge ht;clear ht;clear hy hK ho hge;obtain ⟨hI,hE⟩:=zd2 hd hB;clear hd hB;go_wp2_with fail;refine Zk1 (v:=.tuple #[.agg #[sQ none 0 0,sQ none 0 0],nQ iQ ge]) (by simp [results,Tryz.results99,go_sem,c0,c1]) rfl ?_;exact GoP.fail2 hT.out hZ.out ((hE.out.set (p:=⟨w.heap.size+2,0,none⟩) hA _).set (p:=⟨w.heap.size+2,1,none⟩) hA _)
  ·have h2:=hu.base (hk.out.size)
   clear hy hu;obtain ⟨S2,c2,C2,d2,rfl,hH,hL,hQ⟩:=h2;have hb:=(hd.set_ 0 (sQ S2 (Ly.turnBack x g).1.s.length c2)).set_ 1 (sQ C2 (Ly.turnBack x g).1.c.length d2);have d0:=hb.cell 0;have d1:=hb.cell 1;simp at d0 d1;have c0:=hd.cell 0;have c1:=hd.cell 1;simp at c0 c1;obtain ⟨hU,h4,hI,hE,h5,hX,h1,hW⟩:=zd8 hF hb hd hB ho hH hL hQ;clear hb hd hB ho hH hL hQ hF;go_wp2_with fail;refine Zk1 (v:=.tuple #[.agg #[sQ S2 (Ly.turnBack x g).1.s.length c2,sQ C2 (Ly.turnBack x g).1.c.length d2],nQ iQ 0]) (by simp [results,Tryz.results99,go_sem,d0,d1]) rfl ?_;exact ⟨.inr ⟨hU.out,_,rfl,TenO.box ⟨S2,c2,C2,d2,rfl,hX.out,h1.out,hW.out⟩ hI.out⟩,(hE.out.set (p:=⟨w.heap.size+2,0,none⟩) hA _).set (p:=⟨w.heap.size+2,1,none⟩) hA _⟩
def Else (g:Nat) (w w':Zp1):Prop:=(∀k,k≠g->w'.heap[k]? = w.heap[k]?)/\w'.heap.size=w.heap.size/\Below g w w'
theorem Else.blk {g k:Nat} {w w':Zp1} {t:TypeId} {cs:Array Value} (h:Else g w w') (hk:k≠g) (hb:Blk w k t cs):Blk w' k t cs:=(h.1 k hk).trans hb
theorem Else.below {g B:Nat} {w0 w w':Zp1} (h:Else g w w') (hb:Below B w0 w) (hB:B<=g):Below B w0 w':=hb.trans (h.2.2.mono hB)
theorem Else.refl (g:Nat) (w:Zp1):Else g w w:=⟨λ_ _=>rfl,rfl,Ze1 _ _⟩
theorem Else.setCell {g:Nat} {w w':Zp1} (h:Else g w w') (i:Nat) (u:Value):Else g w (w'.setCell ⟨g,i,none⟩ u):=
 ⟨λk hk=>(Below.heap_setCell w' ⟨g,i,none⟩ u k hk).trans (h.1 k hk),by simpa using h.2.1,h.2.2.trans (Below.setCell (Ze1 g w') (p:=⟨g,i,none⟩) (lrZ _) u)⟩
theorem Else.setCells {g:Nat} {w:Zp1}:∀(vs:List Value) (o:Nat) (w':Zp1),Else g w w'->Else g w (w'.setCells g o vs)
 | [],_,_,h=>h
 | v::r,o,w',h=>Else.setCells r (o+1) _ (h.setCell o v)
theorem qdr {P:Program} (w:Zp1) (t e ty:TypeId) (ht:P.underlying t=some (.slice e)) (hv:∀w,(zeroValue e).run P w=.ok (nQ iQ 0) w) (g:Nat) (T:TypeId) (l:List Int) (c:Nat) (hk:Blk w g T (l.map (Za1 iQ)).toArray) (h0:0<l.length):
  ∃w',(Builtin.clear_ #[t] ty #[sQ (some ⟨g,0,none⟩) l.length c]).run P w=.ok (.tuple #[]) w'/\Blk w' g T ((Ly.zeros l.length).map (Za1 iQ)).toArray/\Else g w w':=by
 refine ⟨_,Lib.run_clear_slice w t e ty (nQ iQ 0) ht hv rfl rfl g 0 l.length c h0 (λj hj=>by rw [Zw,hk.cell];simp [hj]) (λj hj=>hk.frozen _),?_,Else.setCells _ _ _ (Else.refl g w)⟩;have:=qao (Zc l.length (Za1 iQ 0)) 0 w _ hk sZ;rw [show splice (l.map (Za1 iQ)) 0 (Zc l.length (Za1 iQ 0))=(Ly.zeros l.length).map (Za1 iQ) by simp [splice,Ly.zeros]] at this;exact this
theorem qc6 {P:Program} {ops:Array Oper} {rest:List Oper} {o:Oper} {a:Act} {Q:Exit->Act->Zp1->Prop} {w:Zp1} (hgd:o.guard=none) (s:Operand) (t e:TypeId)
  (ho:o.op=.call { callee:=.builtin .clear,args:=#[s],argTypes:=#[t] }) (ht:P.underlying t=some (.slice e)) (hv:∀w,(zeroValue e).run P w=.ok (nQ iQ 0) w)
  (g:Nat) (T:TypeId) (l:List Int) (c:Nat) (hs:a.eval s=sQ (some ⟨g,0,none⟩) l.length c) (hk:Blk w g T (l.map (Za1 iQ)).toArray) (h0:0<l.length)
  (h:∀w',Blk w' g T ((Ly.zeros l.length).map (Za1 iQ)).toArray->Else g w w'->wpList P ops Q rest (a.put o.dst (.tuple #[])) w'):
  wpList P ops Q (o::rest) a w:=by
 refine wpList_plain hgd λK hK=>?_
 obtain ⟨w',hr,h1,h2⟩:=qdr w t e o.type ht hv g T l c hk h0;unfold Oper.wp execOp;simp only [ho,resolve,invoke,builtin,Sem.run_bind,Sem.run_pure,Result.andThen_ok,List.map_toArray,List.map_cons,List.map_nil,hs,hr];exact hK _ _ (h w' h1 h2)
theorem Ints.else_ {w w':Zp1} {A:Option Addr} {zs:List Int} {p:Nat} (h:Ints iQ w A zs) (hE:Else p w w') (hp:∀k z,w.cell? ⟨p,k,none⟩≠some (nQ iQ z)):Ints iQ w' A zs:=λj hj=>by
 obtain ⟨b,off,e,hl,hc⟩:=h j hj;have ha:b≠p:=by rintro rfl;exact hp _ _ hc
 exact ⟨b,off,e,by rw [hE.2.1];exact hl,(Zi1 (hE.1 b ha)).trans hc⟩
theorem TenIn.else_ {w w':Zp1} {S C:Option Addr} {c d:Nat} {t:Ten} {p:Nat} (h:TenIn w S C c d t) (hE:Else p w w') (hp:∀k z,w.cell? ⟨p,k,none⟩≠some (nQ iQ z)):TenIn w' S C c d t:={ h with r:=⟨h.r.1.else_ hE hp,h.r.2.else_ hE hp⟩ }
theorem TenO.else_ {B:Nat} {w w':Zp1} {v:Value} {t:Ten} {p:Nat} (h:TenO B w v t) (hE:Else p w w') (hp:∀k z,w.cell? ⟨p,k,none⟩≠some (nQ iQ z)) (hf:∀j,w'.frozen? ⟨p,j,none⟩=false):TenO B w' v t:=by
 obtain ⟨S,c,C,d,h1,h2,h3,h4⟩:=h;refine ⟨S,c,C,d,h1,h2.else_ hE hp,h3,λa e=>?_⟩;obtain ⟨k1,k2,k3⟩:=h4 a e;refine ⟨k1,by rw [hE.2.1];exact k2,λj=>?_⟩
 by_cases ha:a.block=p
 ·rw [ha];exact hf j
 ·have:=k3 j
  unfold World.frozen? at this ⊢;rw [hE.1 a.block ha];exact this
theorem noint {w:Zp1} {p:Nat} {T:TypeId} {cs:Array Value} (h:Blk w p T cs) (hc:∀(k:Nat) (z:Int),cs[k]?≠some (nQ iQ z)):∀k z,w.cell? ⟨p,k,none⟩≠some (nQ iQ z):=λk z e=>by
 rw [h.cell] at e;exact hc k z e
namespace Ly
theorem qf4 (n:Nat):∀z∈zeros n,Fx.In z:=λz hz=>by
 have:z=0:=by unfold zeros at hz;exact (List.mem_replicate.1 hz).2
 subst this;exact Fx.in_zero
theorem qfz (n:Nat):(zeros n).length=n:=by simp [zeros]
theorem dback_bad {w b x g:Ten} (h:(denseOk w b x&&Tn.right g&&decide (g.s=b.s))=false):denseBack w b x g=((none_,none_,none_),20):=by unfold denseBack;rw [inZ (by rw [h];decide)]
theorem dback_ok {w b x g:Ten} (h:(denseOk w b x&&Tn.right g&&decide (g.s=b.s))=true):denseBack w b x g=((⟨w.s,denseW g.c x.c⟩,g,⟨x.s,denseX w.c g.c x.c g.c.length⟩),0):=by unfold denseBack;rw [ipZ h]
theorem denseX_len (w g x:List Int):∀i,(denseX w g x i).length=x.length
 | 0=>qfz _
 | _+1=>tab_len _ _
theorem denseX_in (w g x:List Int):∀i,∀z∈denseX w g x i,Fx.In z
 | 0=>qf4 _
 | _+1=>tab_in λ_ _=>Fx.add_in _ _
theorem qfA (w g x:List Int) {i j:Nat} (hj:j<(denseX w g x (i+1)).length):(denseX w g x (i+1))[j]=Fx.add (at_ (denseX w g x i) j) (Fx.mul (at_ w (i*x.length+j)) (at_ g i)):=tab_get hj
theorem denseW_len (g x:List Int):(denseW g x).length=g.length*x.length:=tab_len _ _
theorem denseW_in (g x:List Int):∀z∈denseW g x,Fx.In z:=tab_in λ_ _=>Fx.mul_in _ _
theorem qfB (g x:List Int) {i j:Nat} (hj:j<x.length) (hk:i*x.length+j<(denseW g x).length):(denseW g x)[i*x.length+j]=Fx.mul (at_ g i) (at_ x j):=by
 unfold denseW at hk ⊢;rw [tab_get];have h1:(i*x.length+j) / x.length=i:=by rw [Nat.mul_comm,Nat.mul_add_div oZ,Nat.div_eq_of_lt hj,Zx]
 have h2:(i*x.length+j) % x.length=j:=by rw [Nat.mul_comm,Nat.mul_add_mod,Nat.mod_eq_of_lt hj]
 rw [h1,h2]
theorem denseW_at (g x:List Int) {i j:Nat} (hi:i<g.length) (hj:j<x.length):at_ (denseW g x) (i*x.length+j)=Fx.mul (at_ g i) (at_ x j):=by
 have hk:i*x.length+j<(denseW g x).length:=by
  rw [denseW_len];have:(i+1)*x.length<=g.length*x.length:=mlZ _ hi;rw [Zu] at this;omega
 rw [at_get hk,qfB g x hj hk]
theorem denseX_at (w g x:List Int) {i j:Nat} (hj:j<x.length):at_ (denseX w g x (i+1)) j=Fx.add (at_ (denseX w g x i) j) (Fx.mul (at_ w (i*x.length+j)) (at_ g i)):=by
 have hk:j<(denseX w g x (i+1)).length:=by rw [denseX_len];exact hj
 rw [at_get hk,qfA w g x hk]
theorem mid_put' (C L:List Int) {k:Nat} (hk:k<C.length) (hn:C.length=L.length):(C.take k++L.drop k).set k (at_ C k)=C.take (k+1)++L.drop (k+1):=by rw [at_get hk];exact mid_step C L hk hn
theorem mid_at2 (C L:List Int) {k:Nat} (hk:k<C.length) (hn:C.length=L.length):at_ (C.take k++L.drop k) k=at_ L k:=by
 unfold at_;rw [gdZ,gdZ,Zl soZ,Zo,Nat.min_eq_left oZ,Nat.sub_self,List.getElem?_drop,Zx]
theorem mid_in {C L:List Int} {k:Nat} (h1:∀z∈C,Fx.In z) (h2:∀z∈L,Fx.In z):∀z∈C.take k++L.drop k,Fx.In z:=λz hz=>by
 rcases List.mem_append.1 hz with h|h
 ·exact h1 z (Zh h)
 ·exact h2 z (Zp h)
end Ly
def GoD (r:(Ten × Ten × Ten) × Int) (w:Zp1) (e:Ending) (w':Zp1):Prop:=
 (r.2≠0/\e=.returned (.tuple #[.agg #[sQ none 0 0,sQ none 0 0,sQ none 0 0,sQ none 0 0,sQ none 0 0,sQ none 0 0],nQ iQ r.2])∨
  r.2=0/\∃S0 c0 C0 d0 S1 c1 C1 d1 S2 c2 C2 d2,e=.returned (.tuple #[.agg #[sQ S0 r.1.1.s.length c0,sQ C0 r.1.1.c.length d0,sQ S1 r.1.2.1.s.length c1,sQ C1 r.1.2.1.c.length d1,sQ S2 r.1.2.2.s.length c2,sQ C2 r.1.2.2.c.length d2],nQ iQ 0])/\
   TenO w.heap.size w' (.agg #[sQ S0 r.1.1.s.length c0,sQ C0 r.1.1.c.length d0]) r.1.1/\TenO w.heap.size w' (.agg #[sQ S1 r.1.2.1.s.length c1,sQ C1 r.1.2.1.c.length d1]) r.1.2.1/\TenO w.heap.size w' (.agg #[sQ S2 r.1.2.2.s.length c2,sQ C2 r.1.2.2.c.length d2]) r.1.2.2)/\Below w.heap.size w w'
theorem TnsO.one {B p:Nat} {w:Zp1} {S C:Option Addr} {c d:Nat} {t:Ten} {T:TypeId} (hb:Blk w p T #[sQ S t.s.length c,sQ C t.c.length d]) (hB:B<=p) (ht:TenO B w (.agg #[sQ S t.s.length c,sQ C t.c.length d]) t):TnsO B w (some ⟨p,0,none⟩) [t]:=by
 refine ⟨λa e=>?_,λj hj=>?_⟩
 ·injection e with e;subst e;exact ⟨p,rfl,hB,hb.lt,λk=>hb.frozen k⟩
 ·obtain rfl:j=0:=by simp at hj;omega
  exact ⟨p,S,c,C,d,rfl,hb.cell 0,hb.cell 1,ht⟩
def SgP (S C:Option Addr) (n c m d:Nat) (er:Int) (w:Zp1) (e:Ending) (w':Zp1):Prop:=
 ∃X k,e=.returned (.tuple #[.agg #[sQ none 0 0,sQ X k k],nQ iQ er])/\(er≠0->X=none/\k=0)/\(er=0->k=1/\∃p,X=some ⟨p,0,none⟩/\w.heap.size<=p/\Blk w' p 30 #[sQ S n c,sQ C m d])/\Below w.heap.size w w'
theorem qcB (S C:Option Addr) (n c m d:Nat) (er:Int) (w:Zp1):
  Calls Tryz.prog 47 #[.agg #[sQ S n c,sQ C m d],nQ iQ er] w (SgP S C n c m d er w):=by
 obtain ⟨hk,hz,hc⟩:=qbd w 30 81 #[sQ S n c,sQ C m d] #[sQ none 0 0,sQ none 0 0]
 by_cases he:er=0
 ·subst he
  obtain ⟨Hk,Hz,hd⟩:=zd3 hk hz hc;clear hk hz hc;go_enter Tryz.func47,Tryz.ntmps47;go_upto_region 1 with fail;generalize (w.alloc (.cells #[sQ S n c,sQ C m d] 30)).alloc (.cells #[sQ none 0 0,sQ none 0 0] 81)=w1 at *;have a0:w1.cell? ⟨w.heap.size,0,none⟩=some (sQ S n c):=Hk.out.cell 0;have a1:w1.cell? ⟨w.heap.size,1,none⟩=some (sQ C m d):=Hk.out.cell 1;have c0:=Hz.out.cell 0;have c1:=Hz.out.cell 1;have f0:=Hz.out.frozen 0;have f1:=Hz.out.frozen 1;have ha:=((Hz.out.set_ 0 (sQ none 0 0)).set_ 1 (sQ (some ⟨w1.heap.size,0,none⟩) 1 1)).alloc (.cells #[sQ S n c,sQ C m d] 30);have d0:=ha.cell 0;have d1:=ha.cell 1;simp at c0 c1 d0 d1;have hg:w.heap.size+1<w1.heap.size:=Hz.out.lt;have hb:=Blk.new ((w1.setCell ⟨w.heap.size+1,0,none⟩ (sQ none 0 0)).setCell ⟨w.heap.size+1,1,none⟩ (sQ (some ⟨w1.heap.size,0,none⟩) 1 1)) 30 #[sQ S n c,sQ C m d];simp only [World.size_setCell] at hb;have hl:=((hd.out.set (p:=⟨w.heap.size+1,0,none⟩) sZ (sQ none 0 0)).set (p:=⟨w.heap.size+1,1,none⟩) sZ (sQ (some ⟨w1.heap.size,0,none⟩) 1 1)).alloc (.cells #[sQ S n c,sQ C m d] 30);obtain ⟨hf,Hb,Hl⟩:=zd3 ha hb hl;clear ha hb hl;go_wp2_with fail;refine Zk1 (v:=.tuple #[.agg #[sQ none 0 0,sQ (some ⟨w1.heap.size,0,none⟩) 1 1],nQ iQ 0]) (by simp [results,Tryz.results47,go_sem,d0,d1]) rfl ?_;exact ⟨some ⟨w1.heap.size,0,none⟩,1,rfl,λh=>absurd rfl h,λ_=>⟨rfl,w1.heap.size,rfl,by omega,Hb.out⟩,Hl.out⟩
 ·have e1:(er != 0)=true:=by simpa using he
  have He:=zI he;clear he;obtain ⟨Hk,Hz,hd⟩:=zd3 hk hz hc;clear hk hz hc;go_enter Tryz.func47,Tryz.ntmps47;go_upto_region 1 with fail;generalize (w.alloc (.cells #[sQ S n c,sQ C m d] 30)).alloc (.cells #[sQ none 0 0,sQ none 0 0] 81)=w1 at *;have c0:=Hz.out.cell 0;have c1:=Hz.out.cell 1;have f0:=Hz.out.frozen 0;have f1:=Hz.out.frozen 1;have ha:=(Hz.out.set_ 0 (sQ none 0 0)).set_ 1 (sQ none 0 0);have d0:=ha.cell 0;have d1:=ha.cell 1;simp at c0 c1 d0 d1;have hf:=zI ha;clear ha;go_wp2_with fail;refine Zk1 (v:=.tuple #[.agg #[sQ none 0 0,sQ none 0 0],nQ iQ er]) (by simp [results,Tryz.results47,go_sem,d0,d1]) rfl ?_;exact ⟨none,0,rfl,λ_=>⟨rfl,rfl⟩,λh=>absurd h He.out,(hd.out.set (p:=⟨w.heap.size+1,0,none⟩) sZ _).set (p:=⟨w.heap.size+1,1,none⟩) sZ _⟩
def GoBU (K:Nat) (r:Ly.Bk × Int) (w:Zp1) (e:Ending) (w':Zp1):Prop:=
 ∃A na B nb,e=.returned (.tuple #[.agg #[sQ A na na,sQ B nb nb],nQ iQ r.2])/\(r.2≠0->A=none/\na=0/\B=none/\nb=0)/\
  (r.2=0->na=r.1.p.length/\nb=r.1.x.length/\TnsO w.heap.size w' A r.1.p/\TnsO w.heap.size w' B r.1.x/\(∀a,A=some a->K<=a.block)/\∀a,B=some a->K<=a.block)/\Below w.heap.size w w'
theorem GoB.u {r:Ly.Bk × Int} {w0 w w':Zp1} {e:Ending} (h:GoB r w e w') (hb:Below w0.heap.size w0 w):GoBU w.heap.size r w0 e w':=by
 have hs:=hb.size;obtain ⟨⟨h1,rfl⟩|⟨h1,A,B,rfl,hA,hB⟩,h2⟩:=h
 ·exact ⟨none,0,none,0,rfl,λ_=>⟨rfl,rfl,rfl,rfl⟩,λh=>absurd h h1,hb.trans (h2.mono hs)⟩
 ·refine ⟨A,_,B,_,by rw [h1],λh=>absurd h1 h,λ_=>⟨rfl,rfl,hA.base hs,hB.base hs,λa e=>?_,λa e=>?_⟩,hb.trans (h2.mono hs)⟩
  ·obtain ⟨b,rfl,h3,-,-⟩:=hA.1 a e;exact h3
  ·obtain ⟨b,rfl,h3,-,-⟩:=hB.1 a e;exact h3
theorem GoBU.fin {K p:Nat} {r:Ly.Bk × Int} {w w':Zp1} {A B:Option Addr} {na nb:Nat} {T:TypeId} (h1:r.2≠0->A=none/\na=0/\B=none/\nb=0)
  (h2:r.2=0->na=r.1.p.length/\nb=r.1.x.length/\TnsO w.heap.size w' A r.1.p/\TnsO w.heap.size w' B r.1.x/\(∀a,A=some a->K<=a.block)/\∀a,B=some a->K<=a.block) (hb:Below w.heap.size w w')
  (hz:Blk w' p T #[sQ none 0 0,sQ none 0 0]) (hp:w.heap.size<=p) (hK:p<K) (u u2:Value):
  GoB r w (.returned (.tuple #[.agg #[sQ A na na,sQ B nb nb],nQ iQ r.2])) ((w'.setCell ⟨p,0,none⟩ u).setCell ⟨p,1,none⟩ u2):=by
 have hl:Below w.heap.size w ((w'.setCell ⟨p,0,none⟩ u).setCell ⟨p,1,none⟩ u2):=(Later.set (p:=⟨p,0,none⟩) hb hp _).set (p:=⟨p,1,none⟩) hp _
 by_cases he:r.2=0
 ·obtain ⟨rfl,rfl,hA,hB,k1,k2⟩:=h2 he
  refine ⟨.inr ⟨he,A,B,by rw [he],hA.box hz (λa e=>?_) _ _,hB.box hz (λa e=>?_) _ _⟩,hl⟩
  ·have:=k1 a e;omega
  ·have:=k2 a e;omega
 ·obtain ⟨rfl,rfl,rfl,rfl⟩:=h1 he
  exact ⟨.inl ⟨he,rfl⟩,hl⟩
theorem sg_u {r:Ten × Int} {w0 w w':Zp1} {S C:Option Addr} {c d:Nat} {e:Ending} (h:SgP S C r.1.s.length c r.1.c.length d r.2 w e w') (hr:r.2=0->TenO w0.heap.size w (.agg #[sQ S r.1.s.length c,sQ C r.1.c.length d]) r.1) (hb:Below w0.heap.size w0 w):GoBU w.heap.size (Ly.bsingle r) w0 e w':=by
 obtain ⟨X,k,rfl,h1,h2,h3⟩:=h;have hl:Later w w':=h3;have ha:Below w0.heap.size w0 w':=hb.trans (h3.mono hb.size)
 by_cases he:r.2=0
 ·obtain ⟨rfl,p,rfl,hp,hk⟩:=h2 he
  have e1:Ly.bsingle r=(⟨[],[r.1]⟩,0):=by unfold Ly.bsingle;rw [ipZ he]
  rw [e1,he];refine ⟨none,0,_,1,rfl,λh=>absurd rfl h,λ_=>⟨rfl,rfl,TnsO.nil _ _,TnsO.one hk (Zv hb.size hp) ((hr he).later hl),λa e=>(by cases e),λa e=>?_⟩,ha⟩;injection e with e;subst e;exact hp
 ·obtain ⟨rfl,rfl⟩:=h1 he
  have e1:Ly.bsingle r=(Ly.bnone,r.2):=by unfold Ly.bsingle;rw [inZ he]
  rw [e1];exact ⟨none,0,none,0,rfl,λ_=>⟨rfl,rfl,rfl,rfl⟩,λh=>absurd h he,ha⟩
namespace Ly
theorem turnBack_none {x g:Ten} (h:(turnBack x g).2≠0):(turnBack x g).1=none_:=by
 unfold turnBack of_ at h ⊢
 split at h
 ·rename_i h1
  rw [ipZ h1]
  split at h
  ·exact absurd rfl h
  ·rename_i h2
   rw [inZ h2]
 ·rename_i h1
  rw [inZ h1]
theorem bturn_err {x g:Ten} {s:List Int} (h:(turn x s).2≠0):bturn x g s=(bnone,(turn x s).2):=by unfold bturn;rw [inZ h]
theorem bturn_bad {x g:Ten} {s:List Int} (h:(turn x s).2=0) (hg:(Tn.right g&&(g.s==s))=false):bturn x g s=(bnone,20):=by
 unfold bturn;rw [ipZ h,inZ];intro hh;rw [Zz,decide_eq_true_eq] at hh;rw [hh.1,hh.2] at hg;simp at hg
theorem bturn_ok {x g:Ten} {s:List Int} (h:(turn x s).2=0) (hr:Tn.right g=true) (hs:g.s=s):bturn x g s=bsingle (turnBack x g):=by unfold bturn;rw [ipZ h,ipZ (by rw [hr,hs];simp)]
end Ly
theorem qeH (S C GS GC A:Option Addr) (c d gc gd ac:Nat) (x g:Ten) (s:List Int) (w:Zp1) (hx:TenIn w S C c d x) (hg:TenIn w GS GC gc gd g) (hA:Ints iQ w A s) (hs:s.length<=1048576):
  Calls Tryz.prog 52 #[.agg #[sQ S x.s.length c,sQ C x.c.length d],.agg #[sQ GS g.s.length gc,sQ GC g.c.length gd],sQ A s.length ac] w (GoB (Ly.bturn x g s) w):=by
 obtain ⟨Ha,hZ,hz,h6⟩:=qav w 30 30 81 #[sQ S x.s.length c,sQ C x.c.length d] #[sQ GS g.s.length gc,sQ GC g.c.length gd] #[sQ none 0 0,sQ none 0 0];have lg1:=hg.l1;have lg2:=hg.l2;obtain ⟨Hb,h3,Hz,hQ,Hx,Hg,HA⟩:=zd7 Ha hZ hz h6 hx hg hA;clear Ha hZ hz h6 hx hg hA;go_enter Tryz.func52,Tryz.ntmps52;go_wp2_with fail;generalize ((w.alloc (.cells #[sQ S x.s.length c,sQ C x.c.length d] 30)).alloc (.cells #[sQ GS g.s.length gc,sQ GC g.c.length gd] 30)).alloc (.cells #[sQ none 0 0,sQ none 0 0] 81)=w1 at *;have hb:=qan (qe6 S C A c d ac x s w1 (Hx.out.later hQ.out) (HA.out.below hQ.out (lrZ _)) hs) Ly.turn_none;have hL:=Ly.bturn_err (x:=x) (g:=g) (s:=s);have hH:=Ly.bturn_bad (x:=x) (g:=g) (s:=s);have hn:=Ly.bturn_ok (x:=x) (g:=g) (s:=s);generalize Ly.turn x s=R at *;obtain ⟨ha,hE,hG,hm⟩:=zd4 hb hL hH hn;clear hb hL hH hn;refine (ha.out).mono ?_;rintro e w2 ⟨S3,c3,C3,d3,rfl,-,-,h1⟩;have hD:Later w1 (w2.alloc (.cells #[sQ S3 R.1.s.length c3,sQ C3 R.1.c.length d3] 30)):=Later.alloc h1 _;have Hd:=hQ.out.trans hD;have hJ:=hD.blk Hb.out;have hM:=hD.blk h3.out;have hY:=hD.blk Hz.out;clear h1 Hb h3 Hz hQ ha;obtain ⟨Hs,hw,hU,hv,hy⟩:=zd5 hD Hd hJ hM hY;clear hD Hd hJ hM hY;go_upto_region 2 with fail;generalize w2.alloc (.cells #[sQ S3 R.1.s.length c3,sQ C3 R.1.c.length d3] 30)=w3 at *
 by_cases hR:R.2=0
 case neg=>
  have HE:=zI (hE.out hR);have d2:(R.2 != 0)=true:=by simpa using hR
  have HR:=zI hR;clear hR;generalize R.2=ge at *;have c0:=hy.out.cell 0;have c1:=hy.out.cell 1;have f0:=hy.out.frozen 0;have f1:=hy.out.frozen 1;simp at c0 c1;go_wp2_with fail;refine Zk1 (v:=.tuple #[.agg #[sQ none 0 0,sQ none 0 0],nQ iQ ge]) (by simp [results,Tryz.results52,go_sem,c0,c1]) rfl ?_;exact GoB.fail HE.out HR.out ((hw.out.set (p:=⟨w.heap.size+2,0,none⟩) sZ _).set (p:=⟨w.heap.size+2,1,none⟩) sZ _)
 have hp:=hG.out hR;have hd:=hm.out hR;have d2:(R.2 != 0)=false:=by simpa using hR
 have d3':(R.2==0)=true:=by simpa using hR
 clear hE hG hm hR;generalize R.2=re at *;have g0:=hv.out.cell 0;have g1:=hv.out.cell 1;simp at g0 g1;have h9:=qa5 GS GC gc gd g w3 oZ oZ (Hg.out.later hw.out).r.1;have Hc:=λ(V:Zp1) (h:Later w3 V)=>qac GS A gc ac g.s s V oZ oZ (Hg.out.later (hw.out.trans h)).r.1 (HA.out.below (hw.out.trans h) (lrZ _))
 obtain ⟨hf,hh,hF,Hf⟩:=zd4 hp hd h9 Hc;clear hp hd h9 Hc;cases hr:Tn.right g
 ·have HE:=zI (hf.out (by rw [hr];rfl))
  rw [hr] at hF;clear hr;go_wp2_with fail;refine (hF.out).mono ?_;rintro e w4 ⟨rfl,hK⟩;have he:Later w3 w4:=hK;have h0:=hw.out.trans he;have hB:=he.blk hy.out;have c0:=hB.cell 0;have c1:=hB.cell 1;have f0:=hB.frozen 0;have f1:=hB.frozen 1;simp at c0 c1;clear hK g0 g1;obtain ⟨hC,Hk,Ho⟩:=zd3 he h0 hB;clear he h0 hB;go_wp2_with fail;refine Zk1 (v:=.tuple #[.agg #[sQ none 0 0,sQ none 0 0],nQ iQ 20]) (by simp [results,Tryz.results52,go_sem,c0,c1]) rfl ?_;exact GoB.fail HE.out dZ ((Hk.out.set (p:=⟨w.heap.size+2,0,none⟩) sZ _).set (p:=⟨w.heap.size+2,1,none⟩) sZ _)
 rw [hr] at hF;go_wp2_with fail;refine (hF.out).mono ?_;rintro e w4 ⟨rfl,hK⟩;have he:Later w3 w4:=hK;have g0':=he.cell g0;clear hK g0 g1;have hc:=Hf.out _ he;cases hq:(g.s==s)
 ·have HE:=zI (hf.out (by rw [hr,hq];rfl))
  rw [hq] at hc;clear hr hq;obtain ⟨hC,hi⟩:=zd2 he hc;clear he hc;go_wp2_with fail;refine (hi.out).mono ?_;rintro e w5 ⟨rfl,q5,rfl⟩;have hu:=(hw.out.trans hC.out).drewN q5;have hj:=(hC.out.drewN q5).blk hy.out;have c0:=hj.cell 0;have c1:=hj.cell 1;have f0:=hj.frozen 0;have f1:=hj.frozen 1;simp at c0 c1;clear g0';obtain ⟨hN,h4⟩:=zd2 hu hj;clear hu hj;go_wp2_with fail;refine Zk1 (v:=.tuple #[.agg #[sQ none 0 0,sQ none 0 0],nQ iQ 20]) (by simp [results,Tryz.results52,go_sem,c0,c1]) rfl ?_;exact GoB.fail HE.out dZ ((hN.out.set (p:=⟨w.heap.size+2,0,none⟩) sZ _).set (p:=⟨w.heap.size+2,1,none⟩) sZ _)
 rw [hq] at hc;have HE:=zI (hh.out hr (by simpa using hq));clear hr hq;obtain ⟨hC,hi⟩:=zd2 he hc;clear he hc;go_wp2_with fail;refine (hi.out).mono ?_;rintro e w5 ⟨rfl,q5,rfl⟩;have hI:=hC.out.drewN q5;clear g0' hi Hf hF hC hf hh;generalize w4.drewN q5=w5 at *;have hu:=hw.out.trans hI;have hj:=hI.blk hy.out;have hk:=hI.blk hU.out;have hl:=hI.blk hv.out;have a0:=hk.cell 0;have a1:=hk.cell 1;have g0:=hl.cell 0;have g1:=hl.cell 1;simp at a0 a1 g0 g1;have hb:=qan (qgC S C GS GC c d gc gd x g w5 (Hx.out.later hu) (Hg.out.later hu)) Ly.turnBack_none;generalize Ly.turnBack x g=Q at *;clear hI;obtain ⟨hN,h4,Hj,Hl,ha⟩:=zd5 hu hj hk hl hb;clear hu hj hk hl hb;go_wp2_with fail;refine (ha.out).mono ?_;rintro e w6 ⟨S4,c4,C4,d4,rfl,-,h5,h7⟩;have hP:Later w5 w6:=h7;have hX:=hN.out.trans hP;have h2:=hP.blk h4.out;have Hi:=hN.out.size;clear h7 a0 a1 g0 g1 ha;obtain ⟨Ht,Hh,h8,Hn⟩:=zd4 hP hX h2 h5;clear hP hX h2 h5;go_wp2_with fail;refine (qcB S4 C4 _ _ _ _ _ w6).mono ?_;intro e w7 hS;obtain ⟨A7,na,B7,nb,rfl,k1,k2,He⟩:=sg_u hS (λh=>(Hn.out h).base Hi) Hh.out;have hT:Later w6 w7:=by obtain ⟨_,_,_,_,_,h⟩:=hS;exact h
 have ho:=hT.blk h8.out;have Hm:=h8.out.lt;have hW:(Ly.bsingle Q).2=Q.2:=by unfold Ly.bsingle;split<;>simp_all
 rw [hW];have c0:=ho.cell 0;have c1:=ho.cell 1;have f0:=ho.frozen 0;have f1:=ho.frozen 1;have hO:=(ho.set_ 0 (sQ A7 na na)).set_ 1 (sQ B7 nb nb);have d0:=hO.cell 0;have d1:=hO.cell 1;simp at c0 c1 d0 d1;have ht:=λ(u u2:Value)=>GoBU.fin k1 k2 He ho (show w.heap.size<=w.heap.size+2 by omega) Hm u u2
 rw [hW] at ht;clear hS k1 k2 He hW;obtain ⟨Hq,Hr,Hp,hV⟩:=zd4 hT ho hO ht;clear hT ho hO ht;go_wp2_with fail;refine Zk1 (v:=.tuple #[.agg #[sQ A7 na na,sQ B7 nb nb],nQ iQ Q.2]) (by simp [results,Tryz.results52,go_sem,d0,d1]) rfl ?_;rw [HE.out];exact hV.out _ _
namespace Ly
theorem bbias_err {b x g:Ten} (h:(add x b).2≠0):bbias b x g=(bnone,(add x b).2):=by unfold bbias;rw [inZ h]
theorem bbias_bad {b x g:Ten} (h:(add x b).2=0) (hg:(Tn.right g&&(g.s==(add x b).1.s))=false):bbias b x g=(bnone,20):=by
 unfold bbias;rw [ipZ h,inZ];intro hh;rw [Zz,decide_eq_true_eq] at hh;rw [hh.1,hh.2] at hg;simp at hg
theorem bbias_ok {b x g:Ten} (h:(add x b).2=0) (hr:Tn.right g=true) (hs:g.s=(add x b).1.s):bbias b x g=(⟨[g],[g]⟩,0):=by unfold bbias;rw [ipZ h,ipZ (by rw [hr,hs];simp)]
end Ly
theorem qgD {r:Ly.Bk × Int} {w W:Zp1} {S0 C0 S1 C1:Option Addr} {c0 d0 c1 d1 p1 p2 p:Nat} {g:Ten} {T T':TypeId} (hr:r=(⟨[g],[g]⟩,0)) (hw:Below w.heap.size w W)
  (t1:TenO w.heap.size W (.agg #[sQ S0 g.s.length c0,sQ C0 g.c.length d0]) g) (t2:TenO w.heap.size W (.agg #[sQ S1 g.s.length c1,sQ C1 g.c.length d1]) g)
  (b1:Blk W p1 T #[sQ S0 g.s.length c0,sQ C0 g.c.length d0]) (b2:Blk W p2 T #[sQ S1 g.s.length c1,sQ C1 g.c.length d1]) (hz:Blk W p T' #[sQ none 0 0,sQ none 0 0]) (q0:w.heap.size<=p) (q1:p<p1) (q2:p<p2) (u u2:Value):
  GoB r w (.returned (.tuple #[.agg #[sQ (some ⟨p1,0,none⟩) 1 1,sQ (some ⟨p2,0,none⟩) 1 1],nQ iQ 0])) ((W.setCell ⟨p,0,none⟩ u).setCell ⟨p,1,none⟩ u2):=by
 subst hr;have n1:p1≠p:=by omega
 have n2:p2≠p:=by omega
 exact ⟨.inr ⟨rfl,_,_,rfl,TnsO.one ((b1.far (p:=⟨p,0,none⟩) n1 _).far (p:=⟨p,1,none⟩) n1 _) oZ (t1.box hz),TnsO.one ((b2.far (p:=⟨p,0,none⟩) n2 _).far (p:=⟨p,1,none⟩) n2 _) oZ (t2.box hz)⟩,(Later.set (p:=⟨p,0,none⟩) hw q0 _).set (p:=⟨p,1,none⟩) q0 _⟩
theorem qeI (S' C' S C GS GC:Option Addr) (c' d' c d gc gd:Nat) (b x g:Ten) (w:Zp1) (hb:TenIn w S' C' c' d' b) (hx:TenIn w S C c d x) (hg:TenIn w GS GC gc gd g):
  Calls Tryz.prog 45 #[.agg #[sQ S' b.s.length c',sQ C' b.c.length d'],.agg #[sQ S x.s.length c,sQ C x.c.length d],.agg #[sQ GS g.s.length gc,sQ GC g.c.length gd]] w (GoB (Ly.bbias b x g) w):=by
 obtain ⟨Ho,Hu,Hj,hz,Hq⟩:=qc0 w 30 30 30 81 #[sQ S' b.s.length c',sQ C' b.c.length d'] #[sQ S x.s.length c,sQ C x.c.length d] #[sQ GS g.s.length gc,sQ GC g.c.length gd] #[sQ none 0 0,sQ none 0 0];have lg1:=hg.l1;have lg2:=hg.l2;obtain ⟨HD,Hv,Hp,Hz,h1,Hb,Hx,Hg⟩:=zd8 Ho Hu Hj hz Hq hb hx hg;clear Ho Hu Hj hz Hq hb hx hg;go_enter Tryz.func45,Tryz.ntmps45;go_wp2_with fail;generalize (((w.alloc (.cells #[sQ S' b.s.length c',sQ C' b.c.length d'] 30)).alloc (.cells #[sQ S x.s.length c,sQ C x.c.length d] 30)).alloc (.cells #[sQ GS g.s.length gc,sQ GC g.c.length gd] 30)).alloc (.cells #[sQ none 0 0,sQ none 0 0] 81)=w1 at *;have hA:=qan (qd2 S' C' S C c' d' c d b x w1 (Hb.out.later h1.out) (Hx.out.later h1.out)) Ly.add_none;have hY:=Ly.bbias_err (b:=b) (x:=x) (g:=g);have hL:=Ly.bbias_bad (b:=b) (x:=x) (g:=g);have hy:=Ly.bbias_ok (b:=b) (x:=x) (g:=g);generalize Ly.add x b=R at *;obtain ⟨hw,hQ,hU,ht⟩:=zd4 hA hY hL hy;clear hA hY hL hy;refine (hw.out).mono ?_;rintro e w2 ⟨S3,c3,C3,d3,rfl,-,hO,Hl⟩;have Hc:=(Later.refl w2).alloc (.cells #[sQ S3 R.1.s.length c3,sQ C3 R.1.c.length d3] 30);have Hm:=Blk.new w2 30 #[sQ S3 R.1.s.length c3,sQ C3 R.1.c.length d3]
 have He:R.2=0->TenIn (w2.alloc (.cells #[sQ S3 R.1.s.length c3,sQ C3 R.1.c.length d3] 30)) S3 C3 c3 d3 R.1:=λh=>by
  obtain ⟨S',c',C',d',e',hT,-,-⟩:=hO h;simp at e';obtain ⟨⟨rfl,rfl⟩,rfl,rfl⟩:=e';exact hT.later Hc
 have hI:Later w1 (w2.alloc (.cells #[sQ S3 R.1.s.length c3,sQ C3 R.1.c.length d3] 30)):=Later.alloc Hl _;have Hh:=h1.out.trans hI;have hV:=hI.blk Hv.out;have hP:=hI.blk Hp.out;have h9:=hI.blk Hz.out;clear Hl HD Hv Hp Hz h1 hw hO Hc;obtain ⟨HH,hH,HB,hC,hE,Hn,Ht⟩:=zd7 hI Hh hV hP h9 Hm He;clear hI Hh hV hP h9 Hm He;go_upto_region 2 with fail;generalize w2.alloc (.cells #[sQ S3 R.1.s.length c3,sQ C3 R.1.c.length d3] 30)=w3 at *;generalize w2.heap.size=ob at *
 by_cases hR:R.2=0
 case neg=>
  have HE:=zI (hQ.out hR);have d2:(R.2 != 0)=true:=by simpa using hR
  have HR:=zI hR;clear hR;generalize R.2=ge at *;have c0:=hE.out.cell 0;have c1:=hE.out.cell 1;have f0:=hE.out.frozen 0;have f1:=hE.out.frozen 1;simp at c0 c1;go_wp2_with fail;refine Zk1 (v:=.tuple #[.agg #[sQ none 0 0,sQ none 0 0],nQ iQ ge]) (by simp [results,Tryz.results45,go_sem,c0,c1]) rfl ?_;exact GoB.fail HE.out HR.out ((hH.out.set (p:=⟨w.heap.size+3,0,none⟩) sZ _).set (p:=⟨w.heap.size+3,1,none⟩) sZ _)
 have h2:=Ht.out hR;have lo1:=h2.l1;have o0:=Hn.out.cell 0;simp at o0;have hv:=hU.out hR;have hi:=ht.out hR;have d2:(R.2 != 0)=false:=by simpa using hR
 have d3':(R.2==0)=true:=by simpa using hR
 clear hQ hU ht hR Ht;generalize R.2=re at *;have g0:=hC.out.cell 0;have g1:=hC.out.cell 1;simp at g0 g1;have Hs:=qa5 GS GC gc gd g w3 oZ oZ (Hg.out.later hH.out).r.1;have Hd:=λ(V:Zp1) (h:Later w3 V)=>qac GS S3 gc c3 g.s R.1.s V oZ oZ (Hg.out.later (hH.out.trans h)).r.1 (h2.later h).r.1
 obtain ⟨hh,hk,hS,Hi,HA⟩:=zd5 hv hi Hs Hd h2;clear hv hi Hs Hd h2;cases hr:Tn.right g
 ·have HE:=zI (hh.out (by rw [hr];rfl))
  rw [hr] at hS;clear hr;go_wp2_with fail;refine (hS.out).mono ?_;rintro e w4 ⟨rfl,hM⟩;have he:Later w3 w4:=hM;have Ha:=hH.out.trans he;have hG:=he.blk hE.out;have c0:=hG.cell 0;have c1:=hG.cell 1;have f0:=hG.frozen 0;have f1:=hG.frozen 1;simp at c0 c1;clear hM g0 g1 o0;obtain ⟨hF,Hw,HG⟩:=zd3 he Ha hG;clear he Ha hG;go_wp2_with fail;refine Zk1 (v:=.tuple #[.agg #[sQ none 0 0,sQ none 0 0],nQ iQ 20]) (by simp [results,Tryz.results45,go_sem,c0,c1]) rfl ?_;exact GoB.fail HE.out dZ ((Hw.out.set (p:=⟨w.heap.size+3,0,none⟩) sZ _).set (p:=⟨w.heap.size+3,1,none⟩) sZ _)
 rw [hr] at hS;go_wp2_with fail;refine (hS.out).mono ?_;rintro e w4 ⟨rfl,hM⟩;have he:Later w3 w4:=hM;have g0':=he.cell g0;have o0':=he.cell o0;clear hM g0 g1 o0;have hd:=Hi.out _ he;cases hq:(g.s==R.1.s)
 ·have HE:=zI (hh.out (by rw [hr,hq];rfl))
  rw [hq] at hd;clear hr hq;obtain ⟨hF,hp⟩:=zd2 he hd;clear he hd;go_wp2_with fail;refine (hp.out).mono ?_;rintro e w5 ⟨rfl,q5,rfl⟩;have hB:=(hH.out.trans hF.out).drewN q5;have hn:=(hF.out.drewN q5).blk hE.out;have c0:=hn.cell 0;have c1:=hn.cell 1;have f0:=hn.frozen 0;have f1:=hn.frozen 1;simp at c0 c1;clear g0' o0';obtain ⟨hJ,h6⟩:=zd2 hB hn;clear hB hn;go_wp2_with fail;refine Zk1 (v:=.tuple #[.agg #[sQ none 0 0,sQ none 0 0],nQ iQ 20]) (by simp [results,Tryz.results45,go_sem,c0,c1]) rfl ?_;exact GoB.fail HE.out dZ ((hJ.out.set (p:=⟨w.heap.size+3,0,none⟩) sZ _).set (p:=⟨w.heap.size+3,1,none⟩) sZ _)
 rw [hq] at hd;have HE:=zI (hk.out hr (by simpa using hq));obtain ⟨r5,r6⟩:=Ly.right_ok hr;clear hr hq;obtain ⟨hF,hp⟩:=zd2 he hd;clear he hd;go_wp2_with fail;refine (hp.out).mono ?_;rintro e w5 ⟨rfl,q5,rfl⟩;have h3:=hF.out.drewN q5;clear g0' o0' hp Hi hS hF hh hk;generalize w4.drewN q5=w5 at *;have hB:=hH.out.trans h3;have hn:=h3.blk hE.out;have ho:=h3.blk hC.out;have g0:w5.cell? ⟨w.heap.size+2,0,none⟩=some (sQ GS g.s.length gc):=ho.cell 0;have g1:w5.cell? ⟨w.heap.size+2,1,none⟩=some (sQ GC g.c.length gd):=ho.cell 1;have Hk:=λ(V:Zp1) (h:Later w5 V)=>qab GS GC gc gd g V oZ oZ (Hg.out.later (hB.trans h)).r
 have h7:=hB.size;have HC:=hn.lt;clear h3 Hn HA;obtain ⟨hJ,h6,Hy,h5⟩:=zd4 hB hn ho Hk;clear hB hn ho Hk;go_wp2_with fail;have KF:=zI (show ∀Xw,Later w5 Xw->Xw.cell? ⟨w.heap.size+2,0,none⟩=some (sQ GS g.s.length gc)/\Xw.cell? ⟨w.heap.size+2,1,none⟩=some (sQ GC g.c.length gd) from λXw h=>⟨h.cell g0,h.cell g1⟩);refine Zm1 ?_;refine Zl1 (S:=λXw=>Xw.cell? ⟨w.heap.size+2,0,none⟩=some (sQ GS g.s.length gc)/\Xw.cell? ⟨w.heap.size+2,1,none⟩=some (sQ GC g.c.length gd)) krZ (KF.out _ Lau) (λhHeld=>?_);refine tk 0 ?_;refine tk 3 ?_;refine rd 1 λK hK=>?_
 simp only [ga,gs,gz]
 go_simp
 go_at_call 37;(with_reducible refine (h5.out _ (Lau:Later w5 _)).mono ?_);rintro e wa ⟨v,rfl,hN,HF⟩
 have Hr:=hN.o (B:=w5.heap.size) oZ oZ Hg.out.num;obtain ⟨g0',hs,rfl,-,-,-,-⟩:=hN;have h8:=zI Hr;clear Hr
 try go_wp2_with fail
 refine hK.out _ _ (KF.out _ Lau) (λhHeld=>?_);clear hK K
 try simp only [ga,gs,gz,Act.put,sa,sz,ss]
 refine Zo1 (rs:=[2,4]) krZ sZ ?_;refine Zf1 (o:=_) rfl (λK hK=>?_) (Zf1 (o:=_) rfl (λK hK=>?_) (Zg1))
 ·simp only [ga,gs,gz]
  go_simp
  refine hK.out _ _ (KF.out _ Lau) (λhHeld=>?_);clear hK K
  try simp only [ga,gs,gz,Act.put,sa,sz,ss]
  refine rd 4 λK hK=>?_
  simp only [ga,gs,gz]
  go_simp
  go_at_call 37;(with_reducible refine (h5.out _ (Lau:Later w5 _)).mono ?_);rintro e wb ⟨v,rfl,hN,Hf⟩
  have lA:Later w5 wa:=(Lau:Later w5 wa)
  have lB:Later wa wb:=(Lau:Later wa wb)
  have sA:=lA.size;have sB:=lB.size;have hW:=hN.o oZ oZ Hg.out.num;obtain ⟨g1',hm,rfl,-,-,-,-⟩:=hN;have h0:=zI hW;have ha:=(lA.trans lB).blk h6.out;have c0:=ha.cell 0;have c1:=ha.cell 1;have f0:=ha.frozen 0;have f1:=ha.frozen 1;simp at c0 c1;have ya:=ha.alloc (.cells #[sQ (some ⟨g1',0,none⟩) g.s.length g.s.length,sQ (some ⟨hm,0,none⟩) g.c.length g.c.length] 30);have ca0:=ya.cell 0;have ca1:=ya.cell 1;have fa0:=ya.frozen 0;have fa1:=ya.frozen 1;simp at ca0 ca1;clear ya;obtain ⟨h4,hZ,hD⟩:=zd3 ha lA lB;clear hW ha lA lB
  try go_wp2_with fail
  refine hK.out _ _ (KF.out _ Lau) (λhHeld=>?_);clear hK K
  try simp only [ga,gs,gz,Act.put,sa,sz,ss]
  refine rd 5 λK hK=>?_
  simp only [ga,gs,gz]
  go_simp
  refine hK.out _ _ (KF.out _ Lau) (λhHeld=>?_);clear hK K
  try simp only [ga,gs,gz,Act.put,sa,sz,ss]
  refine tk 6 ?_;refine rd 7 λK hK=>?_
  simp only [ga,gs,gz]
  go_simp
  refine hK.out _ _ ?_ (λhHeld=>?_)
  ·(try dsimp only);(refine ⟨?_,?_⟩<;>(repeat (refine qa0 ?_ (by first|omega|(simp;done)|(simp;omega))))<;>(refine Later.cell (Lau:Later w5 _) ?_)<;>assumption)
  clear hK K
  try simp only [ga,gs,gz,Act.put,sa,sz,ss]
  refine tk 8 ?_;clear KF;refine Zn1 krZ ?_ _;refine Zd1 ?_;have hX:Later wb (wb.alloc (.cells #[sQ (some ⟨g1',0,none⟩) g.s.length g.s.length,sQ (some ⟨hm,0,none⟩) g.c.length g.c.length] 30)):=Lau;have hf:=hX.blk h4.out;have hu:=hJ.out.trans (hZ.out.trans (hD.out.trans hX));have hc:=λ(u u2:Value)=>qgD (p1:=wa.heap.size) (p2:=wb.heap.size) HE.out hu ((h8.out.base h7).later (hD.out.trans hX)) ((h0.out.base (by first|omega|(simp;omega))).later hX) (hX.blk ((show Later (wa.alloc (.cells #[sQ (some ⟨g0',0,none⟩) g.s.length g.s.length,sQ (some ⟨hs,0,none⟩) g.c.length g.c.length] 30)) wb from Hf).blk (Blk.new wa _ _))) (Blk.new wb _ _) hf oZ oZ oZ u u2
  have hj:=(hf.set_ 0 (sQ (some ⟨wa.heap.size,0,none⟩) 1 1)).set_ 1 (sQ (some ⟨wb.heap.size,0,none⟩) 1 1);have d0:=hj.cell 0;have d1:=hj.cell 1;simp at d0 d1;clear hHeld g0 g1 hX hf hu hj;have hl:=zI hc;clear hc;go_wp2_with fail;refine Zk1 (v:=.tuple #[.agg #[sQ (some ⟨wa.heap.size,0,none⟩) 1 1,sQ (some ⟨wb.heap.size,0,none⟩) 1 1],nQ iQ 0]) (by simp [results,Tryz.results45,go_sem,d0,d1]) rfl ?_;exact hl.out _ _
 ·simp only [ga,gs,gz]
  go_simp
  go_at_call 37;(with_reducible refine (h5.out _ (Lau:Later w5 _)).mono ?_);rintro e wb ⟨v,rfl,hN,Hf⟩
  have lA:Later w5 wa:=(Lau:Later w5 wa)
  have lB:Later wa wb:=(Lau:Later wa wb)
  have sA:=lA.size;have sB:=lB.size;have hW:=hN.o oZ oZ Hg.out.num;obtain ⟨g1',hm,rfl,-,-,-,-⟩:=hN;have h0:=zI hW;have ha:=(lA.trans lB).blk h6.out;have c0:=ha.cell 0;have c1:=ha.cell 1;have f0:=ha.frozen 0;have f1:=ha.frozen 1;simp at c0 c1;have ya:=ha.alloc (.cells #[sQ (some ⟨g1',0,none⟩) g.s.length g.s.length,sQ (some ⟨hm,0,none⟩) g.c.length g.c.length] 30);have ca0:=ya.cell 0;have ca1:=ya.cell 1;have fa0:=ya.frozen 0;have fa1:=ya.frozen 1;simp at ca0 ca1;clear ya;have yb:=ha.alloc (.cells #[sQ (some ⟨g0',0,none⟩) g.s.length g.s.length,sQ (some ⟨hs,0,none⟩) g.c.length g.c.length] 30);have cb0:=yb.cell 0;have cb1:=yb.cell 1;have fb0:=yb.frozen 0;have fb1:=yb.frozen 1;simp at cb0 cb1;clear yb;have yc:=(ha.alloc (.cells #[sQ (some ⟨g0',0,none⟩) g.s.length g.s.length,sQ (some ⟨hs,0,none⟩) g.c.length g.c.length] 30)).alloc (.cells #[sQ (some ⟨g1',0,none⟩) g.s.length g.s.length,sQ (some ⟨hm,0,none⟩) g.c.length g.c.length] 30);have cc0:=yc.cell 0;have cc1:=yc.cell 1;have fc0:=yc.frozen 0;have fc1:=yc.frozen 1;simp at cc0 cc1;clear yc;have yd:=(ha.alloc (.cells #[sQ (some ⟨g1',0,none⟩) g.s.length g.s.length,sQ (some ⟨hm,0,none⟩) g.c.length g.c.length] 30)).alloc (.cells #[sQ (some ⟨g0',0,none⟩) g.s.length g.s.length,sQ (some ⟨hs,0,none⟩) g.c.length g.c.length] 30);have cd0:=yd.cell 0;have cd1:=yd.cell 1;have fd0:=yd.frozen 0;have fd1:=yd.frozen 1;simp at cd0 cd1;clear yd;obtain ⟨h4,hZ,hD⟩:=zd3 ha lA lB;clear hW ha lA lB
  try go_wp2_with fail
  refine hK.out _ _ (KF.out _ Lau) (λhHeld=>?_);clear hK K
  try simp only [ga,gs,gz,Act.put,sa,sz,ss]
  refine Zo1 (rs:=[2,5]) krZ sZ ?_;refine Zf1 (o:=_) rfl (λK hK=>?_) (Zf1 (o:=_) rfl (λK hK=>?_) (Zg1))
  ·simp only [ga,gs,gz]
   go_simp
   refine hK.out _ _ (KF.out _ Lau) (λhHeld=>?_);clear hK K
   try simp only [ga,gs,gz,Act.put,sa,sz,ss]
   refine rd 5 λK hK=>?_
   simp only [ga,gs,gz]
   go_simp
   refine hK.out _ _ (KF.out _ Lau) (λhHeld=>?_);clear hK K
   try simp only [ga,gs,gz,Act.put,sa,sz,ss]
   refine tk 6 ?_;refine rd 7 λK hK=>?_
   simp only [ga,gs,gz]
   go_simp
   refine hK.out _ _ ?_ (λhHeld=>?_)
   ·(try dsimp only);(refine ⟨?_,?_⟩<;>(repeat (refine qa0 ?_ (by first|omega|(simp;done)|(simp;omega))))<;>(refine Later.cell (Lau:Later w5 _) ?_)<;>assumption)
   clear hK K
   try simp only [ga,gs,gz,Act.put,sa,sz,ss]
   refine tk 8 ?_;clear KF;refine Zn1 krZ ?_ _;refine Zd1 ?_;have hX:Later wb ((wb.alloc (.cells #[sQ (some ⟨g0',0,none⟩) g.s.length g.s.length,sQ (some ⟨hs,0,none⟩) g.c.length g.c.length] 30)).alloc (.cells #[sQ (some ⟨g1',0,none⟩) g.s.length g.s.length,sQ (some ⟨hm,0,none⟩) g.c.length g.c.length] 30)):=Lau;have hf:=hX.blk h4.out;have hu:=hJ.out.trans (hZ.out.trans (hD.out.trans hX));have hc:=λ(u u2:Value)=>qgD (p1:=wb.heap.size) (p2:=(wb.heap.size+1)) HE.out hu ((h8.out.base h7).later (hD.out.trans hX)) ((h0.out.base (by first|omega|(simp;omega))).later hX) ((Blk.new wb _ _).alloc _) (by have:=Blk.new (wb.alloc (.cells #[sQ (some ⟨g0',0,none⟩) g.s.length g.s.length,sQ (some ⟨hs,0,none⟩) g.c.length g.c.length] 30)) 30 #[sQ (some ⟨g1',0,none⟩) g.s.length g.s.length,sQ (some ⟨hm,0,none⟩) g.c.length g.c.length];rwa [Zh1] at this) hf oZ oZ oZ u u2
   have hj:=(hf.set_ 0 (sQ (some ⟨wb.heap.size,0,none⟩) 1 1)).set_ 1 (sQ (some ⟨(wb.heap.size+1),0,none⟩) 1 1);have d0:=hj.cell 0;have d1:=hj.cell 1;simp at d0 d1;clear hHeld g0 g1 hX hf hu hj;have hl:=zI hc;clear hc;go_wp2_with fail;refine Zk1 (v:=.tuple #[.agg #[sQ (some ⟨wb.heap.size,0,none⟩) 1 1,sQ (some ⟨(wb.heap.size+1),0,none⟩) 1 1],nQ iQ 0]) (by simp [results,Tryz.results45,go_sem,d0,d1]) rfl ?_;exact hl.out _ _
  ·simp only [ga,gs,gz]
   go_simp
   refine hK.out _ _ (KF.out _ Lau) (λhHeld=>?_);clear hK K
   try simp only [ga,gs,gz,Act.put,sa,sz,ss]
   refine rd 2 λK hK=>?_
   simp only [ga,gs,gz]
   go_simp
   refine hK.out _ _ (KF.out _ Lau) (λhHeld=>?_);clear hK K
   try simp only [ga,gs,gz,Act.put,sa,sz,ss]
   refine tk 6 ?_;refine rd 7 λK hK=>?_
   simp only [ga,gs,gz]
   go_simp
   refine hK.out _ _ ?_ (λhHeld=>?_)
   ·(try dsimp only);(refine ⟨?_,?_⟩<;>(repeat (refine qa0 ?_ (by first|omega|(simp;done)|(simp;omega))))<;>(refine Later.cell (Lau:Later w5 _) ?_)<;>assumption)
   clear hK K
   try simp only [ga,gs,gz,Act.put,sa,sz,ss]
   refine tk 8 ?_;clear KF;refine Zn1 krZ ?_ _;refine Zd1 ?_;have hX:Later wb ((wb.alloc (.cells #[sQ (some ⟨g1',0,none⟩) g.s.length g.s.length,sQ (some ⟨hm,0,none⟩) g.c.length g.c.length] 30)).alloc (.cells #[sQ (some ⟨g0',0,none⟩) g.s.length g.s.length,sQ (some ⟨hs,0,none⟩) g.c.length g.c.length] 30)):=Lau;have hf:=hX.blk h4.out;have hu:=hJ.out.trans (hZ.out.trans (hD.out.trans hX));have hc:=λ(u u2:Value)=>qgD (p1:=(wb.heap.size+1)) (p2:=wb.heap.size) HE.out hu ((h8.out.base h7).later (hD.out.trans hX)) ((h0.out.base (by first|omega|(simp;omega))).later hX) (by have:=Blk.new (wb.alloc (.cells #[sQ (some ⟨g1',0,none⟩) g.s.length g.s.length,sQ (some ⟨hm,0,none⟩) g.c.length g.c.length] 30)) 30 #[sQ (some ⟨g0',0,none⟩) g.s.length g.s.length,sQ (some ⟨hs,0,none⟩) g.c.length g.c.length];rwa [Zh1] at this) ((Blk.new wb _ _).alloc _) hf oZ oZ oZ u u2
   have hj:=(hf.set_ 0 (sQ (some ⟨(wb.heap.size+1),0,none⟩) 1 1)).set_ 1 (sQ (some ⟨wb.heap.size,0,none⟩) 1 1);have d0:=hj.cell 0;have d1:=hj.cell 1;simp at d0 d1;clear hHeld g0 g1 hX hf hu hj;have hl:=zI hc;clear hc;go_wp2_with fail;refine Zk1 (v:=.tuple #[.agg #[sQ (some ⟨(wb.heap.size+1),0,none⟩) 1 1,sQ (some ⟨wb.heap.size,0,none⟩) 1 1],nQ iQ 0]) (by simp [results,Tryz.results45,go_sem,d0,d1]) rfl ?_;exact hl.out _ _
structure PbI (t:TypeId) (w:Zp1) (q h gg:Nat) (bx bg bb:Array Value) (sh acc:List Int) (wx:Zp1):Prop where
 own:Blk wx h 42 (acc.map (Za1 iQ)).toArray
 shp:Blk wx gg 3 (sh.map (Za1 iQ)).toArray
 box:Blk wx q t bb
 bx:Blk wx w.heap.size t bx
 bg:Blk wx (w.heap.size+1) t bg
 bz:Blk wx (w.heap.size+2) t #[sQ none 0 0,sQ none 0 0]
 lo:gg≠h/\q≠h/\w.heap.size+2<h/\w.heap.size<=gg
 later:Later w wx
theorem PbI.to {t:TypeId} {w wx wy:Zp1} {q h gg:Nat} {bx bg bb:Array Value} {sh acc:List Int} (H:PbI t w q h gg bx bg bb sh acc wx) (hl:Later wx wy):PbI t w q h gg bx bg bb sh acc wy:=
 ⟨hl.blk H.own,hl.blk H.shp,hl.blk H.box,hl.blk H.bx,hl.blk H.bg,hl.blk H.bz,H.lo,H.later.trans hl⟩
theorem PbI.else_ {t:TypeId} {w wx wy:Zp1} {q h gg:Nat} {bx bg bb:Array Value} {sh acc acc':List Int} (H:PbI t w q h gg bx bg bb sh acc wx) (hE:Else h wx wy) (hb:Blk wy h 42 (acc'.map (Za1 iQ)).toArray):PbI t w q h gg bx bg bb sh acc' wy:=by
 obtain ⟨l0,l1,l2,l3⟩:=H.lo;exact ⟨hb,hE.blk l0 H.shp,hE.blk l1 H.box,hE.blk oZ H.bx,hE.blk oZ H.bg,hE.blk oZ H.bz,H.lo,hE.below H.later oZ⟩
theorem PbI.put {t:TypeId} {w wx:Zp1} {q h gg:Nat} {bx bg bb:Array Value} {sh acc:List Int} (H:PbI t w q h gg bx bg bb sh acc wx) (k:Nat) (z:Int):PbI t w q h gg bx bg bb sh (acc.set k z) (wx.setCell ⟨h,k,none⟩ (nQ iQ z)):=
 H.else_ ((Else.refl _ _).setCell k _) (by have:=H.own.set_ k (nQ iQ z);rw [List.map_set];simpa using this)
theorem PbI.done {t:TypeId} {r:Ten × Int} {w wx:Zp1} {q h gg n:Nat} {bx bg bb:Array Value} {sh acc:List Int} (H:PbI t w q h gg bx bg bb sh acc wx) (hr:r=(⟨sh,acc⟩,0)) (hn:acc.length=n) (l1:sh.length<=1048576) (l2:acc.length<=1048576) (hi:∀z∈acc,Fx.In z) (u u2:Value):
  GoP r w (.returned (.tuple #[.agg #[sQ (some ⟨gg,0,none⟩) sh.length sh.length,sQ (some ⟨h,0,none⟩) n n],nQ iQ 0])) ((wx.setCell ⟨w.heap.size+2,0,none⟩ u).setCell ⟨w.heap.size+2,1,none⟩ u2):=by
 subst hn;obtain ⟨m0,m1,m2,m3⟩:=H.lo;exact GoP.ok hr ((qbB H.shp H.own m3 oZ l1 l2 hi rfl).box H.bz) ((H.later.set (p:=⟨w.heap.size+2,0,none⟩) sZ _).set (p:=⟨w.heap.size+2,1,none⟩) sZ _)
namespace Ly
theorem pback_err {top:Bool} {x g:Ten} {width step:Int} (h:poolErr x width step≠0):poolBack top x g width step=(none_,poolErr x width step):=by unfold poolBack;rw [inZ h]
theorem pback_bad {top:Bool} {x g:Ten} {width step:Int} (h:poolErr x width step=0) (hg:(Tn.right g&&decide (g.s=poolS x width step))=false):poolBack top x g width step=(none_,20):=by unfold poolBack;rw [ipZ h,inZ (by simp [hg])]
theorem pback_ok {top:Bool} {x g:Ten} {width step:Int} (h:poolErr x width step=0) (hg:(Tn.right g&&decide (g.s=poolS x width step))=true):poolBack top x g width step=(⟨x.s,poolX top x.c g.c (lastOf x.s) (lastOf (poolS x width step)) width step.toNat g.c.length⟩,0):=by unfold poolBack;rw [ipZ h,ipZ hg]
theorem addRow_facts {l:List Int} (hl:∀z∈l,Fx.In z) (a:Nat) {v:Int} (hv:Fx.In v):∀k,(addRow l a v k).length=l.length/\∀z∈addRow l a v k,Fx.In z
 | 0=>⟨rfl,hl⟩
 | k+1=>by
  obtain ⟨h1,h2⟩:=addRow_facts hl a hv k;exact ⟨by show (addAt _ _ _).length=_;rw [qaU,h1],qf3 h2 hv⟩
theorem poolX_facts {top:Bool} {x g:List Int} (hg:∀z∈g,Fx.In z) (sd n:Nat) (width:Int) (st:Nat):∀k,(poolX top x g sd n width st k).length=x.length/\∀z∈poolX top x g sd n width st k,Fx.In z
 | 0=>⟨by simp [poolX,zeros],qf4 _⟩
 | k+1=>by
  obtain ⟨h1,h2⟩:=poolX_facts (top:=top) (x:=x) hg sd n width st k
  have hv:Fx.In (at_ g k):=by
   unfold at_;rw [gdZ];cases h:g[k]? with
   | none=>unfold Fx.In;simp
   | some z=>exact hg z (List.mem_of_getElem? h)
  show (poolStep _ _ _ _ _ _ _ _ _).length=_/\∀z∈poolStep _ _ _ _ _ _ _ _ _,Fx.In z
  unfold poolStep
  split
  ·exact ⟨by rw [qaU,h1],qf3 h2 hv⟩
  ·have:=addRow_facts h2 (from_ sd n st k) (Fx.div_in (at_ g k) (width*4294967296)) width.toNat
   exact ⟨by rw [this.1,h1],this.2⟩
end Ly
theorem qe9 (top:Bool) (kind:Int) (S C GS GC:Option Addr) (c d gc gd:Nat) (x g:Ten) (width step:Int) (w:Zp1) (hkt:(kind=1/\top=true)∨(kind=2/\top=false)) (hx:TenIn w S C c d x) (hg:TenIn w GS GC gc gd g):
  Calls Tryz.prog 48 #[nQ iQ kind,.agg #[sQ S x.s.length c,sQ C x.c.length d],.agg #[sQ GS g.s.length gc,sQ GC g.c.length gd],nQ iQ width,nQ iQ step] w (GoP (Ly.poolBack top x g width step) w):=by
 obtain ⟨gY,gJ,hz,gS⟩:=qav w 30 30 30 #[sQ S x.s.length c,sQ C x.c.length d] #[sQ GS g.s.length gc,sQ GC g.c.length gd] #[sQ none 0 0,sQ none 0 0];obtain ⟨g8,gR,Hz,HP,Hx,Hg,gq⟩:=zd7 gY gJ hz gS hx hg hkt;clear gY gJ hz gS hx hg hkt;go_enter Tryz.func48,Tryz.ntmps48;go_wp2_with fail;generalize ((w.alloc (.cells #[sQ S x.s.length c,sQ C x.c.length d] 30)).alloc (.cells #[sQ GS g.s.length gc,sQ GC g.c.length gd] 30)).alloc (.cells #[sQ none 0 0,sQ none 0 0] 30)=w1 at *;refine (qd7 kind S C c d x width step w1 (by rcases gq.out with h|h<;>omega) (Hx.out.later HP.out)).mono ?_;rintro e w2 ⟨A,ac,rfl,hI,Gg,GF,hf,gO⟩;have hO:Later w1 w2:=gO;have hX:=HP.out.trans hO;have hE:=hO.blk Hz.out;have hD:=hO.blk g8.out;have hn:=hO.blk gR.out;clear gO Hz HP g8 gR hO hf;rw [Ly.poolR_err]
 by_cases hy:Ly.poolErr x width step=0
 case neg=>
  have HE:=zI (Ly.pback_err (top:=top) (g:=g) hy);have d1:(Ly.poolErr x width step==0)=false:=by simpa using hy
  have d2:(Ly.poolErr x width step != 0)=true:=by simpa using hy
  have Gh:=zI hy;clear hy;generalize Ly.poolErr x width step=er at *;generalize (Ly.poolR x width step).1.length=sl at *;have c0:=hE.cell 0;have c1:=hE.cell 1;have f0:=hE.frozen 0;have f1:=hE.frozen 1;simp at c0 c1;obtain ⟨Ha,Hn,hW,hP,HI⟩:=zd5 hX hE hD hn hI;clear hX hE hD hn hI;go_wp2_with fail;refine Zk1 (v:=.tuple #[.agg #[sQ none 0 0,sQ none 0 0],nQ iQ er]) (by simp [results,Tryz.results48,go_sem,c0,c1]) rfl ?_;exact GoP.fail HE.out Gh.out ((Ha.out.set (p:=⟨w.heap.size+2,0,none⟩) sZ _).set (p:=⟨w.heap.size+2,1,none⟩) sZ _)
 obtain ⟨sd,n,wd,st,pre,h1,h2,h3,h4,rfl,rfl,h5,h6,h7,h8,h9,gD,gI,hO,GQ,GK,gv,g2,GN,GI,gG,gr,HT,gL⟩:=Ly.pool_facts hy;have Hd:=λh=>Ly.pback_bad (top:=top) (g:=g) hy h
 have hw:=λh=>Ly.pback_ok (top:=top) (g:=g) hy h
 rw [hy];rw [HT] at hI Gg ⊢;rw [h1,h3,tnZ] at hw;generalize Ly.poolS x wd st=os at *;have GL:os.length<=4:=by omega
 have Gf:1<=os.length:=by omega
 obtain ⟨H1,H2,H3,H4,HF,GH,g7,Gj,GO⟩:=zd9 h1 h2 h3 h4 gD gI hO gv HT;have Gc:=zI gL;clear h1 h2 h3 h4 gD gI hO gv HT gL;have g0:w2.cell? ⟨w.heap.size+1,0,none⟩=_:=hn.cell 0;have g1:w2.cell? ⟨w.heap.size+1,1,none⟩=_:=hn.cell 1;simp at g0 g1;have Gm:=Hg.out.l1;have Gr:=Hg.out.l2;have gU:=qa5 GS GC gc gd g w2 oZ oZ (Hg.out.later hX).r.1;have gx:=λ(V:Zp1) (h:Later w2 V)=>qac GS A gc ac g.s os V oZ oZ (Hg.out.later (hX.trans h)).r.1 (hI.below h (lrZ _))
 clear hy;obtain ⟨Ha,Hn,hW,hP,HI,hT,hF,Hs,gE⟩:=zd9 hX hE hD hn hI Hd hw gU gx;clear hX hE hD hn hI Hd hw gU gx;have HA:∀wf,Later w2 wf->(Tn.right g&&decide (g.s=os))=false->True:=λ_ _ _=>trivial
 clear HA;cases hr:Tn.right g
 ·have HE:=zI (hT.out (by rw [hr];rfl))
  rw [hr] at Hs;go_wp2_with fail;refine (Hs.out).mono ?_;rintro e w3 ⟨rfl,Hu⟩;have hp:Later w2 w3:=Hu;have ha:=hp.blk Hn.out;have Hr:=Ha.out.trans hp;have c0:=ha.cell 0;have c1:=ha.cell 1;have f0:=ha.frozen 0;have f1:=ha.frozen 1;simp at c0 c1;clear g0 g1 Hu;obtain ⟨hY,gQ,H5⟩:=zd3 hp ha Hr;clear hp ha Hr;go_wp2_with fail;refine Zk1 (v:=.tuple #[.agg #[sQ none 0 0,sQ none 0 0],nQ iQ 20]) (by simp [results,Tryz.results48,go_sem,c0,c1]) rfl ?_;exact GoP.fail HE.out dZ ((H5.out.set (p:=⟨w.heap.size+2,0,none⟩) sZ _).set (p:=⟨w.heap.size+2,1,none⟩) sZ _)
 rw [hr] at Hs;go_wp2_with fail;refine (Hs.out).mono ?_;rintro e w3 ⟨rfl,Hu⟩;have hp:Later w2 w3:=Hu;have g0':=hp.cell g0;clear Hu g0 g1;have hl:=gE.out _ hp;cases hq:(g.s==os)
 ·have HE:=zI (hT.out (by rw [hr];simpa using hq))
  rw [hq] at hl;obtain ⟨hY,hA⟩:=zd2 hp hl;clear hp hl;go_wp2_with fail;refine (hA.out).mono ?_;rintro e w4 ⟨rfl,q4,rfl⟩;have ha:=(hY.out.drewN q4).blk Hn.out;have Hr:=(Ha.out.trans hY.out).drewN q4;have c0:=ha.cell 0;have c1:=ha.cell 1;have f0:=ha.frozen 0;have f1:=ha.frozen 1;simp at c0 c1;clear g0';obtain ⟨gQ,H5⟩:=zd2 ha Hr;clear ha Hr;go_wp2_with fail;refine Zk1 (v:=.tuple #[.agg #[sQ none 0 0,sQ none 0 0],nQ iQ 20]) (by simp [results,Tryz.results48,go_sem,c0,c1]) rfl ?_;exact GoP.fail HE.out dZ ((H5.out.set (p:=⟨w.heap.size+2,0,none⟩) sZ _).set (p:=⟨w.heap.size+2,1,none⟩) sZ _)
 have HE:=zI (hF.out (by rw [hr];simpa using hq));rw [hq] at hl;have HR:g.s=os:=by simpa using hq
 have gj:g.c.length=pre*n:=by
  have h0:(g.c.length:Int)=Safe.prod g.s:=by have:=hr;simp only [Tn.right,Zz,decide_eq_true_eq] at this;exact this.2
  rw [HR,Gc.out] at h0;exact Int.ofNat.inj h0
 obtain ⟨hY,hA,Gx,GE⟩:=zd4 hp hl gj HR;clear hp hl gj HR;clear hT hF hq hr;go_wp2_with fail;refine (hA.out).mono ?_;rintro e w4 ⟨rfl,q4,rfl⟩;have hZ:=hY.out.drewN q4;clear g0' hA gE Hs hY;generalize w3.drewN q4=w4 at *;have gm:=Ha.out.trans hZ;have hB:=hZ.blk hW.out;have Hl:=hZ.blk hP.out;have gF:=hZ.blk Hn.out;have gp:=HI.out.below hZ (lrZ _);clear hZ Ha hW hP Hn HI;have b0:w4.cell? ⟨w.heap.size,0,none⟩=_:=hB.cell 0;have b1:w4.cell? ⟨w.heap.size,1,none⟩=_:=hB.cell 1;simp at b0 b1;obtain ⟨HB,Hi,Hq,H8,H9⟩:=zd5 gm hB Hl gF gp;clear gm hB Hl gF gp;go_wp2_with fail;refine (qab S C c d x w4 oZ oZ (Hx.out.later HB.out).r).mono ?_;rintro e w5 ⟨v,rfl,⟨gg,h,rfl,GA,hh,hG,hH⟩,g6⟩;have HK:Later w4 w5:=g6;have Hj:Later w5 (w5.alloc (.cells #[sQ (some ⟨gg,0,none⟩) x.s.length x.s.length,sQ (some ⟨h,0,none⟩) x.c.length x.c.length] 30)):=(Later.refl w5).alloc _;have ho:=Blk.new w5 30 #[sQ (some ⟨gg,0,none⟩) x.s.length x.s.length,sQ (some ⟨h,0,none⟩) x.c.length x.c.length];have hU:=HK.trans Hj;have gH:=HB.out.trans hU;have Hm:=hU.blk Hi.out;have He:=hU.blk Hq.out;have gP:=hU.blk H8.out;have gh:=H9;have g9:=H9.out.below hU (lrZ _);have gB:=Hj.blk hG;have gC:=Hj.blk hH;have GP:=H8.out.lt;have HM:=qbp hG hH;have GD:=hH.lt;have Gk:=hG.lt;have Ge:=HB.out.size;clear g6 b0 b1 hG hH HB Hi Hq H8 H9;obtain ⟨Go,Gn,Ho,Gs,Gd,gb,H6,Gu,GB⟩:=zd9 HK Hj ho hU gH Hm He gP g9;obtain ⟨Gy,gw⟩:=zd2 gB gC;clear HK Hj ho hU gH Hm He gP g9 gB gC;go_upto_region 7 with fail;generalize w5.alloc (.cells #[sQ (some ⟨gg,0,none⟩) x.s.length x.s.length,sQ (some ⟨h,0,none⟩) x.c.length x.c.length] 30)=w6 at *;generalize hqe:w5.heap.size=q at *;have HU:gg≠h:=HM;have HG:q≠h:=by omega
 have Gq:w.heap.size+2<h:=by omega
 have HX:0<x.c.length:=by
  have e1:=(Sh.right_mul Gj.out).2.2.2.2.1;rw [Gc.out] at e1
  have e2:1<=pre:=by
   rcases Nat.eq_zero_or_pos pre with h0|h0
   ·rw [h0,Nat.zero_mul] at e1;simp at e1
   ·exact h0
  have e3:1*1<=pre*sd:=Nat.mul_le_mul e2 oZ;have:=HF.out;omega
 clear Go Gn hqe;have o1:w6.cell? ⟨q,1,none⟩=_:=Ho.out.cell 1;simp at o1;go_wp2_with (refine qc6 rfl (.tmp 48) 28 42 rfl Tryz.underlying28 Tryz.zeroValue42 h 42 x.c x.c.length rfl gw.out HX ?_);intro w7 gX HV;have HD:PbI 30 w q h gg #[sQ S x.s.length c,sQ C x.c.length d] #[sQ GS g.s.length gc,sQ GC g.c.length gd] #[sQ (some ⟨gg,0,none⟩) x.s.length x.s.length,sQ (some ⟨h,0,none⟩) x.c.length x.c.length] x.s (Ly.zeros x.c.length) w7:=(PbI.mk (acc:=x.c) gw.out Gy.out Ho.out gb.out H6.out Gu.out ⟨HU,HG,Gq,by omega⟩ Gd.out).else_ HV gX;have gW:Later w4 w7:=Below.trans Gs.out (HV.2.2.mono hh);have gT:=gh.out.below gW (lrZ _);obtain ⟨bs,os',rfl,-,y0⟩:=(Hx.out.later HD.later).r.1 (x.s.length-1) oZ;obtain ⟨ba,oa,rfl,-,y1o⟩:=gT (x.s.length-1) (by show _<os.length;have:=g7.out;omega);rw [H2.out] at y0;have y1:w7.cell? ⟨ba,oa+(x.s.length-1),none⟩=some (nQ iQ n):=by rw [y1o];exact congrArg (λz=>some (Za1 iQ z)) H4.out
 clear y1o;have b0:w7.cell? ⟨w.heap.size,0,none⟩=some (sQ (some ⟨bs,os',none⟩) x.s.length c):=by rw [HD.bx.cell];rfl
 have e1:iQ.wrap ((x.s.length:Int)-1)=(x.s.length:Int)-1:=Zc1 _ oZ;have e2:(0:Int)<=(x.s.length:Int)-1:=by omega
 have e3:(x.s.length:Int)-1<(x.s.length:Int):=by omega
 have e4:((x.s.length:Int)-1).toNat=x.s.length-1:=by omega
 clear gX HV o1 gT gW;have gi:=zI HD;clear HD;rw [g7.out];go_upto_region 8 with fail
 go_quiet (fail)
 clear e1 e2 e3 e4 b0 y0 y1;have g1:(w7.drewN nq).cell? ⟨w.heap.size+1,1,none⟩=some (sQ GC g.c.length gd):=by rw [(gi.out.bg.drewN nq).cell];rfl
 obtain ⟨N,hN⟩:∃N,N=pre*n:=⟨_,rfl⟩
 have gf:g.c.length=N:=by rw [hN];exact Gx.out
 have gA:PbI 30 w q h gg #[sQ (some ⟨bs,os',none⟩) x.s.length c,sQ C x.c.length d] #[sQ GS g.s.length gc,sQ GC g.c.length gd] #[sQ (some ⟨gg,0,none⟩) x.s.length x.s.length,sQ (some ⟨h,0,none⟩) x.c.length x.c.length] x.s (Ly.poolX top x.c g.c sd n (wd:Int) st 0) (w7.drewN nq):=gi.out.to ((Later.refl w7).drewN nq);have HY:x.c.length<=d:=Hx.out.c1;have Gl:d<=9223372036854775807:=Hx.out.c2;have ht:=Ly.poolX_facts (top:=top) (x:=x.c) Hg.out.num sd n (wd:Int) st;rw [gf] at HE;obtain ⟨gK,HZ,HN,hv⟩:=zd4 gA gf hN ht;clear gA gf hN ht;go_wp2_with fail;clear g1
 go_loopw [65] (λi wx=>∃k:Nat,k<=N/\i=nQ iQ (k:Int)/\PbI 30 w q h gg #[sQ (some ⟨bs,os',none⟩) x.s.length c,sQ C x.c.length d] #[sQ GS g.s.length gc,sQ GC g.c.length gd] #[sQ (some ⟨gg,0,none⟩) x.s.length x.s.length,sQ (some ⟨h,0,none⟩) x.c.length x.c.length] x.s (Ly.poolX top x.c g.c sd n (wd:Int) st k) wx) (λi _=>N-(intOf i).toNat)
 case atStart=>exact ⟨0,Zt _,rfl,gK.out⟩
 case round=>
  obtain ⟨k,hk,rfl,hJ⟩:=hrel;clear gK gi
  by_cases GM:k<N
  ·have H7:k<pre*n:=by have:=HN.out;omega
   have HH:=Ly.from_bd (pre:=pre) (sd:=sd) h8 h9 H7;rw [←HF.out] at HH;obtain ⟨hC,Hh⟩:=hv.out k;obtain ⟨bc,oc,rfl,Gz,-⟩:=Hx.out.cell (k:=0) oZ;obtain ⟨bg,og,rfl,-,gk⟩:=(Hg.out.later hJ.later).cell (k:=k) (by have:=HZ.out;omega);have Hv:=Ly.at_in Hg.out.num k;have gy:=Ly.win_len (c:=x.c) (sd:=sd) (n:=n) (wd:=wd) (st:=st) (i:=k) HH;have gl:=λ(V:Zp1)=>qbC bc oc d x.c.length sd n wd st pre k V HY Gl HF.out g2 h8 h5 h9 H7 (by have:=HN.out;omega) gr gG
   have Ga:=λ(V:Zp1)=>(show Calls Tryz.prog 93 #[sQ (some ⟨h,0,none⟩) x.c.length x.c.length,nQ iQ k,nQ iQ sd,nQ iQ n,nQ iQ wd,nQ iQ st] V λe w'=>e=.returned (sQ (some ⟨h,Ly.from_ sd n st k,none⟩) wd (x.c.length-Ly.from_ sd n st k))/\∃q,w'=V.drewN q from by
    have:=qbC h 0 x.c.length x.c.length sd n wd st pre k V (lrZ _) oZ HF.out g2 h8 h5 h9 H7 (by have:=HN.out;omega) gr gG
    rwa [Zw] at this)
   have gu:=λ(V:Zp1) (hV:Later wr V)=>(Hx.out.later (hJ.later.trans hV)).win (sd:=sd) (n:=n) (st:=st) (i:=k) (wd:=wd) HH
   have he:Ly.poolX top x.c g.c sd n (wd:Int) st (k+1)=Ly.poolStep top x.c sd n (wd:Int) st (Ly.poolX top x.c g.c sd n (wd:Int) st k) k (Ly.at_ g.c k):=rfl;unfold Ly.poolStep at he;rw [tnZ] at he;obtain ⟨acc',hacc⟩:∃acc',acc'=Ly.poolX top x.c g.c sd n (wd:Int) st (k+1):=⟨_,rfl⟩
   rw [←hacc] at he;generalize Ly.poolX top x.c g.c sd n (wd:Int) st k=acc at *;generalize Ly.at_ g.c k=vk at *;generalize Ly.from_ sd n st k=fr at *;generalize Ly.win x.c sd n wd st k=wn at *;have b1:wr.cell? ⟨w.heap.size,1,none⟩=some (sQ (some ⟨bc,oc,none⟩) x.c.length d):=by rw [hJ.bx.cell];rfl
   have o1:wr.cell? ⟨q,1,none⟩=some (sQ (some ⟨h,0,none⟩) x.c.length x.c.length):=by rw [hJ.box.cell];rfl
   have kk1:(k:Int)<(g.c.length:Int):=by have:=HZ.out;omega
   have B1:=zI b1;clear Gz b1;obtain ⟨HJ,Gt,Gp,gV,hM,Hy,HC,Ht,Hc⟩:=zd9 hJ gl Ga gu he gy Hh Hv hC;have Hw:=zI hacc;clear hJ gl Ga gu he gy Hh Hv hC hacc;go_wp2_with fail;clear gk;refine (Gp.out _).mono ?_;rintro e wa ⟨rfl,q1,rfl⟩;have hL:Later wr (wr.drewN q1):=(Later.refl wr).drewN q1;have gt:=HJ.out.to hL;have go:=gV.out _ hL;have b1:=hL.cell B1.out;clear o1 HJ gV B1 hL;generalize wr.drewN q1=wq at *;obtain ⟨HS,gZ⟩:=zd2 gt go;clear gt go;rcases gq.out with ⟨rfl,rfl⟩|⟨rfl,rfl⟩
   ·go_wp2_with fail
    refine (Gt.out _).mono ?_;rintro e wb ⟨rfl,q2,rfl⟩;clear b1;have hL:Later wq (wq.drewN q2):=(Later.refl wq).drewN q2;have hK:=HS.out.to hL;have g3:=gZ.out.below hL (lrZ _);have gn:=qbD (l:=wn) (k:=wn.length) (by have:=Hy.out;omega);obtain ⟨m,hm⟩:∃m:Nat,Ly.best wn wn.length=(m:Int):=⟨_,(Int.toNat_of_nonneg gn.1).symm⟩
    have GJ:m<wd:=by have:=Hy.out;omega
    have g4:=(show Calls Tryz.prog 94 #[sQ (some ⟨bc,oc+fr,none⟩) wd (d-fr)] (wq.drewN q2) λe w'=>e=.returned (nQ iQ (m:Int))/\(wq.drewN q2)=w' from by
     have hd:=qe5 (some ⟨bc,oc+fr,none⟩) (d-fr) wn (wq.drewN q2) (by have:=Hy.out;omega) g3;rw [hm,Hy.out] at hd;exact hd)
    have hC:=Hc.out;have hb:=hM.out;rw [ipZ trivial] at hb;have Gb:Ly.best wn wd=(m:Int):=by rw [←hm,Hy.out]
    rw [Gb,tnZ] at hb;clear Gb;generalize wq.drewN q2=wc at *
    have am:wc.cell? ⟨h,fr+m,none⟩=some (nQ iQ (Ly.at_ acc (fr+m))):=by
     have:=hK.own.row_get (k:=fr+m) (by show fr+m<acc.length;omega);rw [this];simp [Ly.at_get (show fr+m<acc.length by omega)]
    have af:=hK.own.frozen (fr+m);have Hb:=Ly.at_in HC.out (fr+m);have hc:=λV=>qb2 (Ly.at_ acc (fr+m)) vk V Hb Ht.out
    have hi:=hK.put (fr+m) (Fx.add (Ly.at_ acc (fr+m)) vk);rw [show acc.set (fr+m) (Fx.add (Ly.at_ acc (fr+m)) vk)=acc' from hb.symm,Hw.out] at hi;generalize Ly.at_ acc (fr+m)=av at *;have k3:(m:Int)<(wd:Int):=by omega
    have k4:(0:Int)<=(m:Int):=by omega
    clear hb hm gn hL g3 Hb hC;obtain ⟨HL,Gv,hu,hR⟩:=zd4 hK g4 hc hi;clear hK g4 hc hi;go_wp2_with fail;refine (Gv.out).mono ?_;rintro e w' ⟨rfl,rfl⟩;go_wp2_with fail;refine (hu.out _).mono ?_;rintro e w' ⟨rfl,rfl⟩;go_wp2_with fail;go_roundw
    case rel=>exact ⟨k+1,by omega,by go_num,hR.out⟩
    case measure=>simp [intOf];omega
   ·have Hf:Fx.In ((wd:Int)*4294967296):=by unfold Fx.In;omega
    have Hp:=λ(V:Zp1)=>qbY (wd:Int) V oZ oZ
    have Hk:=λ(V:Zp1)=>qgm vk ((wd:Int)*4294967296) V Ht.out Hf
    have hb:=hM.out;rw [inZ sZ] at hb;have g5:=Fx.div_in vk ((wd:Int)*4294967296);generalize Fx.div vk ((wd:Int)*4294967296)=y at *;clear Hf;obtain ⟨HO,ge,H0,gM⟩:=zd4 Hp Hk hb g5;clear Hp Hk hb g5;go_wp2_with fail;refine (HO.out _).mono ?_;rintro e w' ⟨rfl,rfl⟩;go_wp2_with fail;refine (ge.out _).mono ?_;rintro e wc ⟨rfl,q3,rfl⟩;have hK:=HS.out.to ((Later.refl wq).drewN q3);clear b1 HS gZ;generalize wq.drewN q3=wc at *;have gN:=λj=>Ly.addRow_facts HC.out fr gM.out j
    obtain ⟨HL,Gi⟩:=zd2 hK gN;clear hK gN;go_upto_region 18 with fail
    go_loopw [104] (λi wx=>∃j:Nat,j<=wd/\i=nQ iQ (j:Int)/\PbI 30 w q h gg #[sQ (some ⟨bs,os',none⟩) x.s.length c,sQ (some ⟨bc,oc,none⟩) x.c.length d] #[sQ GS g.s.length gc,sQ (some ⟨bg,og,none⟩) g.c.length gd] #[sQ (some ⟨gg,0,none⟩) x.s.length x.s.length,sQ (some ⟨h,0,none⟩) x.c.length x.c.length] x.s (Ly.addRow acc fr y j) wx) (λi _=>wd-(intOf i).toNat)
    case atStart=>exact ⟨0,Zt _,rfl,HL.out⟩
    case round=>
     obtain ⟨j,hj,rfl,hQ⟩:=hrel;clear HL
     by_cases GG:j<wd
     ·obtain ⟨HW,hS⟩:=Gi.out j
      have hC:=Hc.out;have hs:Ly.addRow acc fr y (j+1)=(Ly.addRow acc fr y j).set (fr+j) (Fx.add (Ly.at_ (Ly.addRow acc fr y j) (fr+j)) y):=rfl;obtain ⟨A1,hA1⟩:∃A1,A1=Ly.addRow acc fr y (j+1):=⟨_,rfl⟩
      rw [←hA1] at hs;generalize Ly.addRow acc fr y j=A0 at *
      have am:wr.cell? ⟨h,fr+j,none⟩=some (nQ iQ (Ly.at_ A0 (fr+j))):=by
       have:=hQ.own.row_get (k:=fr+j) oZ;rw [this,Ly.at_get (show fr+j<A0.length by omega)]
      have af:=hQ.own.frozen (fr+j);have hc:=λV=>qb2 (Ly.at_ A0 (fr+j)) y V (Ly.at_in hS (fr+j)) gM.out
      have hi:=hQ.put (fr+j) (Fx.add (Ly.at_ A0 (fr+j)) y);rw [←hs,hA1] at hi;generalize Ly.at_ A0 (fr+j)=av at *;have k3:(j:Int)<(wd:Int):=by omega
      clear hs HW hC hA1;obtain ⟨HQ,hu,hR,Gw⟩:=zd4 hQ hc hi hS;clear hQ hc hi hS;go_wp2_with fail;refine (hu.out _).mono ?_;rintro e w' ⟨rfl,rfl⟩;go_wp2_with fail;go_roundw
      case rel=>exact ⟨j+1,by omega,by go_num,hR.out⟩
      case measure=>simp [intOf];omega
     ·obtain rfl:j=wd:=by omega
      rw [←H0.out,Hw.out] at hQ;have HQ:=zI hQ;clear hQ;go_wp2_with fail;go_roundw
      case rel=>exact ⟨k+1,by omega,by go_num,HQ.out⟩
      case measure=>simp [intOf];omega
  ·obtain rfl:k=N:=by omega
   have kk2:¬(k:Int)<(g.c.length:Int):=by have:=HZ.out;omega
   obtain ⟨hC,Hh⟩:=hv.out k;generalize Ly.poolX top x.c g.c sd n (wd:Int) st k=acc at *;have o0:wr.cell? ⟨q,0,none⟩=some (sQ (some ⟨gg,0,none⟩) x.s.length x.s.length):=by rw [hJ.box.cell];rfl
   have o1:wr.cell? ⟨q,1,none⟩=some (sQ (some ⟨h,0,none⟩) x.c.length x.c.length):=by rw [hJ.box.cell];rfl
   have c0:=hJ.bz.cell 0;have c1:=hJ.bz.cell 1;have f0:=hJ.bz.frozen 0;have f1:=hJ.bz.frozen 1;simp at c0 c1;have ha:=(hJ.bz.set_ 0 (sQ (some ⟨gg,0,none⟩) x.s.length x.s.length)).set_ 1 (sQ (some ⟨h,0,none⟩) x.c.length x.c.length);have d0:=ha.cell 0;have d1:=ha.cell 1;simp at d0 d1;obtain ⟨HJ,HC,gQ,Hc⟩:=zd4 hJ Hh ha hC;clear hJ Hh ha hC;go_wp2_with fail;refine Zk1 (v:=.tuple #[.agg #[sQ (some ⟨gg,0,none⟩) x.s.length x.s.length,sQ (some ⟨h,0,none⟩) x.c.length x.c.length],nQ iQ 0]) (by simp [results,Tryz.results48,go_sem,d0,d1]) rfl ?_;exact HJ.out.done HE.out Hc.out oZ (by have:=Hc.out;omega) HC.out _ _
namespace Ly
theorem poolBack_none {top:Bool} {x g:Ten} {w s:Int} (h:(poolBack top x g w s).2≠0):(poolBack top x g w s).1=none_:=by
 unfold poolBack at h ⊢
 split at h
 ·rename_i h1
  rw [ipZ h1]
  split at h
  ·exact absurd rfl h
  ·rename_i h2
   rw [inZ h2]
 ·rename_i h1
  rw [inZ h1]
theorem layBack9 {o:OpD} {p x:List Ten} {g:Ten} (h:o.kind=9):layBack o p x g=Ly.bbias (Ly.got p 0) (Ly.got x 0) g:=by
 unfold layBack;rw [inZ oZ,ipZ h]
theorem layBack15 {o:OpD} {p x:List Ten} {g:Ten} (h:o.kind=15):layBack o p x g=Ly.bturn (Ly.got x 0) g o.s:=by
 unfold layBack;rw [inZ oZ,inZ oZ,inZ oZ,inZ oZ,inZ oZ,inZ oZ,inZ oZ,ipZ h]
theorem layBack11 {o:OpD} {p x:List Ten} {g:Ten} (h:o.kind=11):layBack o p x g=Ly.bsingle (Ly.poolBack true (Ly.got x 0) g o.width o.step):=by
 unfold layBack;rw [inZ oZ,inZ oZ,inZ oZ,ipZ h]
theorem layBack12 {o:OpD} {p x:List Ten} {g:Ten} (h:o.kind=12):layBack o p x g=Ly.bsingle (Ly.poolBack false (Ly.got x 0) g o.width o.step):=by
 unfold layBack;rw [inZ oZ,inZ oZ,inZ oZ,inZ oZ,ipZ h]
end Ly
theorem op_back9 (o:OpD) (S P X GS GC:Option Addr) (c cp cx gc gd:Nat) (p x:List Ten) (g:Ten) (w:Zp1) (hk:o.kind=9) (ho:o.s.length<=1048576) (hI:Ints iQ w S o.s) (hP:Tns w P p) (hX:Tns w X x) (hG:TenIn w GS GC gc gd g) (hc:Od.counts o p.length x.length=0):
  Calls Tryz.prog 23 #[.agg #[nQ iQ o.kind,nQ iQ o.k,nQ iQ o.width,nQ iQ o.step,nQ iQ o.side,nQ iQ o.frm,nQ iQ o.to,sQ S o.s.length c],sQ P p.length cp,sQ X x.length cx,.agg #[sQ GS g.s.length gc,sQ GC g.c.length gd]] w (GoB (Ly.layBack o p x g) w):=by
 obtain ⟨w1,e1,hh,hg,hB,hA⟩:=qaP w o S c GS GC gc gd g;have hb:=Ly.counts_ok hc;unfold Od.least Od.most Od.params at hb;have hF:p.length=1:=by have:=hb.1;have h3:=hb.2.2.2;rw [ipZ this] at h3;simp [hk] at h3;omega
 have hM:x.length=1:=by have:=hb.1;have h1:=hb.2.1;have h2:=hb.2.2.1;rw [ipZ this] at h1 h2;simp [hk] at h1 h2;omega
 have HE:=zI (Ly.layBack9 (p:=p) (x:=x) (g:=g) hk);obtain ⟨HC,hJ,hq,Hk⟩:=zd4 hc hF hM hk;clear hb hc hF hM hk;obtain ⟨HI,HP,HX,HG,hp,hi,hf,hL,hC⟩:=zd9 hI hP hX hG hA hh hg hB e1;clear hI hP hX hG hA hh hg hB e1;go_enter Tryz.func23,Tryz.ntmps23;go_wp2_with fail;rw [hC.out];clear hC;refine (qaL o S c p.length x.length w1 oZ (HI.out.below hp.out (lrZ _))).mono ?_;rintro e w2 ⟨rfl,ht⟩;rw [HC.out];have hj:Later w1 w2:=ht;have hH:=hp.out.trans hj;have hz:=hj.blk hL.out;have hv:=hj.blk hi.out;have hs:=hj.blk hf.out;clear ht hj hp hL hi hf;obtain ⟨HH,Hz,hN,hx⟩:=zd4 hH hz hv hs;clear hH hz hv hs;obtain ⟨bp,po,S0,c0,C0,d0,rfl,lbp,p00,p01,hy⟩:=HP.out.at_ (j:=0) (by have:=hJ.out;omega);obtain ⟨bx,xo,S2,c2,C2,d2,rfl,lbx,x00,x01,hD⟩:=HX.out.at_ (j:=0) (by have:=hq.out;omega);have ha:=λ(W:Zp1) (h:Later w2 W)=>(qeI S0 C0 S2 C2 GS GC c0 d0 c2 d2 gc gd (Ly.got p 0) (Ly.got x 0) g W (hy.later (HH.out.trans h)) (hD.later (HH.out.trans h)) (HG.out.later (HH.out.trans h)))
 have hE:=HE.out;obtain ⟨R,hR⟩:∃R,Ly.bbias (Ly.got p 0) (Ly.got x 0) g=R:=⟨_,rfl⟩
 rw [hR] at ha hE;have q1:w2.cell? ⟨bp,po,none⟩=some (sQ S0 (Ly.got p 0).s.length c0):=HH.out.cell (by simpa using p00);have q2:w2.cell? ⟨bp,po+1,none⟩=some (sQ C0 (Ly.got p 0).c.length d0):=HH.out.cell (by simpa using p01);have q3:w2.cell? ⟨bx,xo,none⟩=some (sQ S2 (Ly.got x 0).s.length c2):=HH.out.cell (by simpa using x00);have q4:w2.cell? ⟨bx,xo+1,none⟩=some (sQ C2 (Ly.got x 0).c.length d2):=HH.out.cell (by simpa using x01);have q5:w2.cell? ⟨w.heap.size+1,0,none⟩=some (sQ GS g.s.length gc):=by rw [hx.out.cell];rfl
 have q6:w2.cell? ⟨w.heap.size+1,1,none⟩=some (sQ GC g.c.length gd):=by rw [hx.out.cell];rfl
 have x0:w2.cell? ⟨w.heap.size,0,none⟩=some (nQ iQ 9):=by rw [hN.out.cell,←Hk.out];rfl
 have hT:=HH.out.size;have hS:=Hz.out.lt;rw [hq.out,hJ.out];clear hR p00 p01 hy x00 x01 hD HE;obtain ⟨he,HE⟩:=zd2 ha hE;clear ha hE;go_upto_region 11 with fail;clear x0;have KF:=zI (show ∀Xw,Later w2 Xw->Xw.cell? ⟨bp,po,none⟩=some (sQ S0 (Ly.got p 0).s.length c0)/\Xw.cell? ⟨bp,po+1,none⟩=some (sQ C0 (Ly.got p 0).c.length d0)/\Xw.cell? ⟨bx,xo,none⟩=some (sQ S2 (Ly.got x 0).s.length c2)/\Xw.cell? ⟨bx,xo+1,none⟩=some (sQ C2 (Ly.got x 0).c.length d2)/\Xw.cell? ⟨w.heap.size+1,0,none⟩=some (sQ GS g.s.length gc)/\Xw.cell? ⟨w.heap.size+1,1,none⟩=some (sQ GC g.c.length gd) from λXw h=>⟨h.cell q1,h.cell q2,h.cell q3,h.cell q4,h.cell q5,h.cell q6⟩);refine Zm1 ?_;refine Zl1 (S:=λXw=>Xw.cell? ⟨bp,po,none⟩=some (sQ S0 (Ly.got p 0).s.length c0)/\Xw.cell? ⟨bp,po+1,none⟩=some (sQ C0 (Ly.got p 0).c.length d0)/\Xw.cell? ⟨bx,xo,none⟩=some (sQ S2 (Ly.got x 0).s.length c2)/\Xw.cell? ⟨bx,xo+1,none⟩=some (sQ C2 (Ly.got x 0).c.length d2)/\Xw.cell? ⟨w.heap.size+1,0,none⟩=some (sQ GS g.s.length gc)/\Xw.cell? ⟨w.heap.size+1,1,none⟩=some (sQ GC g.c.length gd)) krZ (KF.out _ Lau) (λhHeld=>?_);refine tk 0 ?_;refine tk 1 ?_;refine tk 2 ?_;refine tk 3 ?_;refine tk 4 ?_;refine tk 5 ?_;refine tk 6 ?_;refine rd 7 λK hK=>?_
 simp only [ga,gs,gz]
 go_simp
 go_at_call 45
 (with_reducible refine (he.out _ (Lau:Later w2 _)).mono ?_)
 intro e w9 hl;have hu:=hl.u (w0:=w) (show Later w _ from HH.out.trans (Lau:Later w2 _));obtain ⟨A9,na,B9,nb,rfl,k1,k2,hr⟩:=hu;have hn:Later w2 w9:=Later.trans (Lau:Later w2 (World.drew w2)) hl.2;have hd:=hn.blk Hz.out;have c0':=hd.cell 0;have c1':=hd.cell 1;have f0':=hd.frozen 0;have f1':=hd.frozen 1;simp at c0' c1';have hw:=zI hd;clear hd;obtain ⟨K1,K2,hO⟩:=zd3 k1 k2 hr;have hQ:Below w2.heap.size w2 w9:=hn;clear k1 k2 hr hl hn
 try go_wp2_with fail
 refine hK.out _ _ (KF.out _ Lau) (λhHeld=>?_);clear hK K
 try simp only [ga,gs,gz,Act.put,sa,sz,ss]
 refine tk 8 ?_;refine tk 9 ?_;refine rd 10 λK hK=>?_
 simp only [ga,gs,gz]
 go_simp
 refine hK.out _ _ ?_ (λhHeld=>?_)
 ·(try dsimp only);(refine ⟨?_,?_,?_,?_,?_,?_⟩<;>(repeat (refine qa0 ?_ (by first|omega|(simp;done)|(simp;omega))))<;>(refine Later.cell (Lau:Later w2 _) ?_)<;>assumption)
 clear hK K
 try simp only [ga,gs,gz,Act.put,sa,sz,ss]
 refine tk 11 ?_;clear KF;refine Zn1 krZ ?_ _;refine Zd1 ?_;have hm:=(hw.out.set_ 0 (sQ A9 na na)).set_ 1 (sQ B9 nb nb);have e0:=hm.cell 0;have e1:=hm.cell 1;simp at e0 e1;clear hHeld hm;go_wp2_with fail;refine Zk1 (v:=.tuple #[.agg #[sQ A9 na na,sQ B9 nb nb],nQ iQ R.2]) (by simp [results,Tryz.results23,go_sem,e0,e1]) rfl ?_;rw [HE.out];exact GoBU.fin K1.out K2.out hO.out hw.out (show w.heap.size<=w.heap.size+2 by omega) (by first|omega|(simp;omega)) _ _
theorem qgE (o:OpD) (S P X GS GC:Option Addr) (c cp cx gc gd:Nat) (p x:List Ten) (g:Ten) (w:Zp1) (hk:o.kind=15) (ho:o.s.length<=1048576) (hI:Ints iQ w S o.s) (hP:Tns w P p) (hX:Tns w X x) (hG:TenIn w GS GC gc gd g) (hc:Od.counts o p.length x.length=0):
  Calls Tryz.prog 23 #[.agg #[nQ iQ o.kind,nQ iQ o.k,nQ iQ o.width,nQ iQ o.step,nQ iQ o.side,nQ iQ o.frm,nQ iQ o.to,sQ S o.s.length c],sQ P p.length cp,sQ X x.length cx,.agg #[sQ GS g.s.length gc,sQ GC g.c.length gd]] w (GoB (Ly.layBack o p x g) w):=by
 obtain ⟨w1,e1,hh,hg,hB,hA⟩:=qaP w o S c GS GC gc gd g;have hb:=Ly.counts_ok hc;unfold Od.least Od.most Od.params at hb;have hF:p.length=0:=by have:=hb.1;have h3:=hb.2.2.2;rw [ipZ this] at h3;simp [hk] at h3;omega
 have hL:x.length=1:=by have:=hb.1;have h1:=hb.2.1;have h2:=hb.2.2.1;rw [ipZ this] at h1 h2;simp [hk] at h1 h2;omega
 have HE:=zI (Ly.layBack15 (p:=p) (x:=x) (g:=g) hk);obtain ⟨HC,hQ,hq,Hk⟩:=zd4 hc hF hL hk;clear hb hc hF hL hk;obtain ⟨HI,HP,HX,HG,hp,hi,hf,hJ,hC⟩:=zd9 hI hP hX hG hA hh hg hB e1;clear hI hP hX hG hA hh hg hB e1;go_enter Tryz.func23,Tryz.ntmps23;go_wp2_with fail;rw [hC.out];clear hC;refine (qaL o S c p.length x.length w1 oZ (HI.out.below hp.out (lrZ _))).mono ?_;rintro e w2 ⟨rfl,ht⟩;rw [HC.out];have hj:Later w1 w2:=ht;have hH:=hp.out.trans hj;have hz:=hj.blk hJ.out;have hv:=hj.blk hi.out;have hs:=hj.blk hf.out;clear ht hj hp hJ hi hf;obtain ⟨HH,Hz,hx,hy⟩:=zd4 hH hz hv hs;clear hH hz hv hs;obtain ⟨bx,xo,S2,c2,C2,d2,rfl,lbx,x00,x01,hD⟩:=HX.out.at_ (j:=0) (by have:=hq.out;omega);have ha:=λ(W:Zp1) (h:Later w2 W)=>(qeH S2 C2 GS GC S c2 d2 gc gd c (Ly.got x 0) g o.s W (hD.later (HH.out.trans h)) (HG.out.later (HH.out.trans h)) (HI.out.below (HH.out.trans h) (lrZ _)) ho)
 have hE:=HE.out;obtain ⟨R,hR⟩:∃R,Ly.bturn (Ly.got x 0) g o.s=R:=⟨_,rfl⟩
 rw [hR] at ha hE;have q1:w2.cell? ⟨bx,xo,none⟩=some (sQ S2 (Ly.got x 0).s.length c2):=HH.out.cell (by simpa using x00);have q2:w2.cell? ⟨bx,xo+1,none⟩=some (sQ C2 (Ly.got x 0).c.length d2):=HH.out.cell (by simpa using x01);have q3:w2.cell? ⟨w.heap.size+1,0,none⟩=some (sQ GS g.s.length gc):=by rw [hy.out.cell];rfl
 have q4:w2.cell? ⟨w.heap.size+1,1,none⟩=some (sQ GC g.c.length gd):=by rw [hy.out.cell];rfl
 have q5:w2.cell? ⟨w.heap.size,7,none⟩=some (sQ S o.s.length c):=by rw [hx.out.cell];rfl
 have x0:w2.cell? ⟨w.heap.size,0,none⟩=some (nQ iQ 15):=by rw [hx.out.cell,←Hk.out];rfl
 have hS:=HH.out.size;have hO:=Hz.out.lt;rw [hq.out];clear hR x00 x01 hD HE;obtain ⟨he,HE⟩:=zd2 ha hE;clear ha hE;go_upto_region 26 with fail;clear x0;have KF:=zI (show ∀Xw,Later w2 Xw->Xw.cell? ⟨bx,xo,none⟩=some (sQ S2 (Ly.got x 0).s.length c2)/\Xw.cell? ⟨bx,xo+1,none⟩=some (sQ C2 (Ly.got x 0).c.length d2)/\Xw.cell? ⟨w.heap.size+1,0,none⟩=some (sQ GS g.s.length gc)/\Xw.cell? ⟨w.heap.size+1,1,none⟩=some (sQ GC g.c.length gd)/\Xw.cell? ⟨w.heap.size,7,none⟩=some (sQ S o.s.length c) from λXw h=>⟨h.cell q1,h.cell q2,h.cell q3,h.cell q4,h.cell q5⟩);refine Zm1 ?_;refine Zl1 (S:=λXw=>Xw.cell? ⟨bx,xo,none⟩=some (sQ S2 (Ly.got x 0).s.length c2)/\Xw.cell? ⟨bx,xo+1,none⟩=some (sQ C2 (Ly.got x 0).c.length d2)/\Xw.cell? ⟨w.heap.size+1,0,none⟩=some (sQ GS g.s.length gc)/\Xw.cell? ⟨w.heap.size+1,1,none⟩=some (sQ GC g.c.length gd)/\Xw.cell? ⟨w.heap.size,7,none⟩=some (sQ S o.s.length c)) krZ (KF.out _ Lau) (λhHeld=>?_);refine tk 0 ?_;refine tk 1 ?_;refine tk 2 ?_;refine tk 3 ?_;refine tk 4 ?_;refine tk 5 ?_;refine rd 6 λK hK=>?_
 simp only [ga,gs,gz]
 go_simp
 go_at_call 52
 (with_reducible refine (he.out _ (Lau:Later w2 _)).mono ?_)
 intro e w9 hl;have hu:=hl.u (w0:=w) (show Later w _ from HH.out.trans (Lau:Later w2 _));obtain ⟨A9,na,B9,nb,rfl,k1,k2,hr⟩:=hu;have hn:Later w2 w9:=Later.trans (Lau:Later w2 (World.drew w2)) hl.2;have hd:=hn.blk Hz.out;have c0':=hd.cell 0;have c1':=hd.cell 1;have f0':=hd.frozen 0;have f1':=hd.frozen 1;simp at c0' c1';have hw:=zI hd;clear hd;obtain ⟨K1,K2,hM⟩:=zd3 k1 k2 hr;have hN:Below w2.heap.size w2 w9:=hn;clear k1 k2 hr hl hn
 try go_wp2_with fail
 refine hK.out _ _ (KF.out _ Lau) (λhHeld=>?_);clear hK K
 try simp only [ga,gs,gz,Act.put,sa,sz,ss]
 refine tk 7 ?_;refine tk 8 ?_;refine rd 9 λK hK=>?_
 simp only [ga,gs,gz]
 go_simp
 refine hK.out _ _ ?_ (λhHeld=>?_)
 ·(try dsimp only);(refine ⟨?_,?_,?_,?_,?_⟩<;>(repeat (refine qa0 ?_ (by first|omega|(simp;done)|(simp;omega))))<;>(refine Later.cell (Lau:Later w2 _) ?_)<;>assumption)
 clear hK K
 try simp only [ga,gs,gz,Act.put,sa,sz,ss]
 refine tk 10 ?_;clear KF;refine Zn1 krZ ?_ _;refine Zd1 ?_;have hm:=(hw.out.set_ 0 (sQ A9 na na)).set_ 1 (sQ B9 nb nb);have e0:=hm.cell 0;have e1:=hm.cell 1;simp at e0 e1;clear hHeld hm;go_wp2_with fail;refine Zk1 (v:=.tuple #[.agg #[sQ A9 na na,sQ B9 nb nb],nQ iQ R.2]) (by simp [results,Tryz.results23,go_sem,e0,e1]) rfl ?_;rw [HE.out];exact GoBU.fin K1.out K2.out hM.out hw.out (show w.heap.size<=w.heap.size+2 by omega) (by first|omega|(simp;omega)) _ _
theorem qgF (o:OpD) (S P X GS GC:Option Addr) (c cp cx gc gd:Nat) (p x:List Ten) (g:Ten) (w:Zp1) (hk:o.kind=11) (ho:o.s.length<=1048576) (hI:Ints iQ w S o.s) (hP:Tns w P p) (hX:Tns w X x) (hG:TenIn w GS GC gc gd g) (hc:Od.counts o p.length x.length=0):
  Calls Tryz.prog 23 #[.agg #[nQ iQ o.kind,nQ iQ o.k,nQ iQ o.width,nQ iQ o.step,nQ iQ o.side,nQ iQ o.frm,nQ iQ o.to,sQ S o.s.length c],sQ P p.length cp,sQ X x.length cx,.agg #[sQ GS g.s.length gc,sQ GC g.c.length gd]] w (GoB (Ly.layBack o p x g) w):=by
 obtain ⟨w1,e1,hh,hg,hD,hC⟩:=qaP w o S c GS GC gc gd g;have hb:=Ly.counts_ok hc;unfold Od.least Od.most Od.params at hb;have hM:p.length=0:=by have:=hb.1;have h3:=hb.2.2.2;rw [ipZ this] at h3;simp [hk] at h3;omega
 have hQ:x.length=1:=by have:=hb.1;have h1:=hb.2.1;have h2:=hb.2.2.1;rw [ipZ this] at h1 h2;simp [hk] at h1 h2;omega
 have HE:=zI (Ly.layBack11 (p:=p) (x:=x) (g:=g) hk);obtain ⟨HC,h0,hs,Hk⟩:=zd4 hc hM hQ hk;clear hb hc hM hQ hk;obtain ⟨HI,HP,HX,HG,hr,hi,hf,hO,hF⟩:=zd9 hI hP hX hG hC hh hg hD e1;clear hI hP hX hG hC hh hg hD e1;go_enter Tryz.func23,Tryz.ntmps23;go_wp2_with fail;rw [hF.out];clear hF;refine (qaL o S c p.length x.length w1 oZ (HI.out.below hr.out (lrZ _))).mono ?_;rintro e w2 ⟨rfl,hx⟩;rw [HC.out];have hj:Later w1 w2:=hx;have hH:=hr.out.trans hj;have hz:=hj.blk hO.out;have hy:=hj.blk hi.out;have hv:=hj.blk hf.out;clear hx hj hr hO hi hf;obtain ⟨HH,Hz,hp,hB⟩:=zd4 hH hz hy hv;clear hH hz hy hv;obtain ⟨bx,xo,S2,c2,C2,d2,rfl,lbx,x00,x01,hJ⟩:=HX.out.at_ (j:=0) (by have:=hs.out;omega);have ha:=λ(W:Zp1) (h:Later w2 W)=>qan (qe9 true 1 S2 C2 GS GC c2 d2 gc gd (Ly.got x 0) g o.width o.step W (.inl ⟨rfl,rfl⟩) (hJ.later (HH.out.trans h)) (HG.out.later (HH.out.trans h))) Ly.poolBack_none
 have hE:=HE.out;obtain ⟨R,hR⟩:∃R,Ly.poolBack true (Ly.got x 0) g o.width o.step=R:=⟨_,rfl⟩
 rw [hR] at ha hE;have q1:w2.cell? ⟨bx,xo,none⟩=some (sQ S2 (Ly.got x 0).s.length c2):=HH.out.cell (by simpa using x00);have q2:w2.cell? ⟨bx,xo+1,none⟩=some (sQ C2 (Ly.got x 0).c.length d2):=HH.out.cell (by simpa using x01);have q3:w2.cell? ⟨w.heap.size+1,0,none⟩=some (sQ GS g.s.length gc):=by rw [hB.out.cell];rfl
 have q4:w2.cell? ⟨w.heap.size+1,1,none⟩=some (sQ GC g.c.length gd):=by rw [hB.out.cell];rfl
 have q5:w2.cell? ⟨w.heap.size,2,none⟩=some (nQ iQ o.width):=by rw [hp.out.cell];rfl
 have q6:w2.cell? ⟨w.heap.size,3,none⟩=some (nQ iQ o.step):=by rw [hp.out.cell];rfl
 have x0:w2.cell? ⟨w.heap.size,0,none⟩=some (nQ iQ 11):=by rw [hp.out.cell,←Hk.out];rfl
 have h4:=HH.out.size;have hZ:=Hz.out.lt;rw [hs.out];clear hR x00 x01 hJ HE;obtain ⟨he,HE⟩:=zd2 ha hE;clear ha hE;go_upto_region 18 with fail;clear x0;have KF:=zI (show ∀Xw,Later w2 Xw->Xw.cell? ⟨bx,xo,none⟩=some (sQ S2 (Ly.got x 0).s.length c2)/\Xw.cell? ⟨bx,xo+1,none⟩=some (sQ C2 (Ly.got x 0).c.length d2)/\Xw.cell? ⟨w.heap.size+1,0,none⟩=some (sQ GS g.s.length gc)/\Xw.cell? ⟨w.heap.size+1,1,none⟩=some (sQ GC g.c.length gd)/\Xw.cell? ⟨w.heap.size,2,none⟩=some (nQ iQ o.width)/\Xw.cell? ⟨w.heap.size,3,none⟩=some (nQ iQ o.step) from λXw h=>⟨h.cell q1,h.cell q2,h.cell q3,h.cell q4,h.cell q5,h.cell q6⟩);refine Zm1 ?_;refine Zl1 (S:=λXw=>Xw.cell? ⟨bx,xo,none⟩=some (sQ S2 (Ly.got x 0).s.length c2)/\Xw.cell? ⟨bx,xo+1,none⟩=some (sQ C2 (Ly.got x 0).c.length d2)/\Xw.cell? ⟨w.heap.size+1,0,none⟩=some (sQ GS g.s.length gc)/\Xw.cell? ⟨w.heap.size+1,1,none⟩=some (sQ GC g.c.length gd)/\Xw.cell? ⟨w.heap.size,2,none⟩=some (nQ iQ o.width)/\Xw.cell? ⟨w.heap.size,3,none⟩=some (nQ iQ o.step)) krZ (KF.out _ Lau) (λhHeld=>?_);refine tk 0 ?_;refine tk 1 ?_;refine tk 2 ?_;refine tk 3 ?_;refine tk 4 ?_;refine tk 5 ?_;refine tk 6 ?_;refine tk 7 ?_;refine rd 8 λK hK=>?_
 simp only [ga,gs,gz]
 go_simp
 go_at_call 48
 (with_reducible refine (he.out _ (Lau:Later w2 _)).mono ?_)
 rintro e wf ⟨S3,c3,C3,d3,rfl,-,hL,hT⟩;have hw:Later w2 wf:=Later.trans (Lau:Later w2 (World.drew w2)) hT;obtain ⟨hS,hl⟩:=zd2 hL hw;clear hL hw
 try go_wp2_with fail
 refine hK.out _ _ (KF.out _ Lau) (λhHeld=>?_);clear hK K
 try simp only [ga,gs,gz,Act.put,sa,sz,ss]
 refine tk 9 ?_;refine tk 10 ?_;refine rd 11 λK hK=>?_
 simp only [ga,gs,gz]
 go_simp
 go_at_call 47
 (with_reducible refine (qcB S3 C3 _ _ _ _ _ _).mono ?_)
 intro e w9 hm;have hu:=sg_u (w0:=w) hm (λh=>(hS.out h).base (by first|omega|(simp;omega))) (HH.out.trans hl.out);have hq:Later w2 w9:=Later.trans hl.out (show Later wf w9 by obtain ⟨_,_,_,_,_,h⟩:=hm;exact h);have hN:(Ly.bsingle R).2=R.2:=by unfold Ly.bsingle;split<;>simp_all
 obtain ⟨A9,na,B9,nb,rfl,k1,k2,ht⟩:=hu;have hW:=hl.out.size;have hd:=hq.blk Hz.out;have c0':=hd.cell 0;have c1':=hd.cell 1;have f0':=hd.frozen 0;have f1':=hd.frozen 1;simp at c0' c1';have hA:=zI hd;clear hd;obtain ⟨K1,K2,hU,hY⟩:=zd4 k1 k2 ht hN;have hV:Below w2.heap.size w2 w9:=hq;clear k1 k2 ht hm hq hN
 try go_wp2_with fail
 refine hK.out _ _ (KF.out _ Lau) (λhHeld=>?_);clear hK K
 try simp only [ga,gs,gz,Act.put,sa,sz,ss]
 refine tk 12 ?_;refine tk 13 ?_;refine rd 14 λK hK=>?_
 simp only [ga,gs,gz]
 go_simp
 refine hK.out _ _ ?_ (λhHeld=>?_)
 ·(try dsimp only);(refine ⟨?_,?_,?_,?_,?_,?_⟩<;>(repeat (refine qa0 ?_ (by first|omega|(simp;done)|(simp;omega))))<;>(refine Later.cell (Lau:Later w2 _) ?_)<;>assumption)
 clear hK K
 try simp only [ga,gs,gz,Act.put,sa,sz,ss]
 refine tk 15 ?_;clear KF;refine Zn1 krZ ?_ _;refine Zd1 ?_;have hn:=(hA.out.set_ 0 (sQ A9 na na)).set_ 1 (sQ B9 nb nb);have e0:=hn.cell 0;have e1:=hn.cell 1;simp at e0 e1;clear hHeld hn;go_wp2_with fail;refine Zk1 (v:=.tuple #[.agg #[sQ A9 na na,sQ B9 nb nb],nQ iQ (Ly.bsingle R).2]) (by simp [results,Tryz.results23,go_sem,e0,e1]) rfl ?_;rw [HE.out];exact GoBU.fin K1.out K2.out hU.out hA.out (show w.heap.size<=w.heap.size+2 by omega) (by first|omega|(simp;omega)) _ _
theorem qgG (o:OpD) (S P X GS GC:Option Addr) (c cp cx gc gd:Nat) (p x:List Ten) (g:Ten) (w:Zp1) (hk:o.kind=12) (ho:o.s.length<=1048576) (hI:Ints iQ w S o.s) (hP:Tns w P p) (hX:Tns w X x) (hG:TenIn w GS GC gc gd g) (hc:Od.counts o p.length x.length=0):
  Calls Tryz.prog 23 #[.agg #[nQ iQ o.kind,nQ iQ o.k,nQ iQ o.width,nQ iQ o.step,nQ iQ o.side,nQ iQ o.frm,nQ iQ o.to,sQ S o.s.length c],sQ P p.length cp,sQ X x.length cx,.agg #[sQ GS g.s.length gc,sQ GC g.c.length gd]] w (GoB (Ly.layBack o p x g) w):=by
 obtain ⟨w1,e1,hh,hg,hD,hC⟩:=qaP w o S c GS GC gc gd g;have hb:=Ly.counts_ok hc;unfold Od.least Od.most Od.params at hb;have hM:p.length=0:=by have:=hb.1;have h3:=hb.2.2.2;rw [ipZ this] at h3;simp [hk] at h3;omega
 have hQ:x.length=1:=by have:=hb.1;have h1:=hb.2.1;have h2:=hb.2.2.1;rw [ipZ this] at h1 h2;simp [hk] at h1 h2;omega
 have HE:=zI (Ly.layBack12 (p:=p) (x:=x) (g:=g) hk);obtain ⟨HC,h0,hs,Hk⟩:=zd4 hc hM hQ hk;clear hb hc hM hQ hk;obtain ⟨HI,HP,HX,HG,hr,hi,hf,hO,hF⟩:=zd9 hI hP hX hG hC hh hg hD e1;clear hI hP hX hG hC hh hg hD e1;go_enter Tryz.func23,Tryz.ntmps23;go_wp2_with fail;rw [hF.out];clear hF;refine (qaL o S c p.length x.length w1 oZ (HI.out.below hr.out (lrZ _))).mono ?_;rintro e w2 ⟨rfl,hx⟩;rw [HC.out];have hj:Later w1 w2:=hx;have hH:=hr.out.trans hj;have hz:=hj.blk hO.out;have hy:=hj.blk hi.out;have hv:=hj.blk hf.out;clear hx hj hr hO hi hf;obtain ⟨HH,Hz,hp,hB⟩:=zd4 hH hz hy hv;clear hH hz hy hv;obtain ⟨bx,xo,S2,c2,C2,d2,rfl,lbx,x00,x01,hJ⟩:=HX.out.at_ (j:=0) (by have:=hs.out;omega);have ha:=λ(W:Zp1) (h:Later w2 W)=>qan (qe9 false 2 S2 C2 GS GC c2 d2 gc gd (Ly.got x 0) g o.width o.step W (.inr ⟨rfl,rfl⟩) (hJ.later (HH.out.trans h)) (HG.out.later (HH.out.trans h))) Ly.poolBack_none
 have hE:=HE.out;obtain ⟨R,hR⟩:∃R,Ly.poolBack false (Ly.got x 0) g o.width o.step=R:=⟨_,rfl⟩
 rw [hR] at ha hE;have q1:w2.cell? ⟨bx,xo,none⟩=some (sQ S2 (Ly.got x 0).s.length c2):=HH.out.cell (by simpa using x00);have q2:w2.cell? ⟨bx,xo+1,none⟩=some (sQ C2 (Ly.got x 0).c.length d2):=HH.out.cell (by simpa using x01);have q3:w2.cell? ⟨w.heap.size+1,0,none⟩=some (sQ GS g.s.length gc):=by rw [hB.out.cell];rfl
 have q4:w2.cell? ⟨w.heap.size+1,1,none⟩=some (sQ GC g.c.length gd):=by rw [hB.out.cell];rfl
 have q5:w2.cell? ⟨w.heap.size,2,none⟩=some (nQ iQ o.width):=by rw [hp.out.cell];rfl
 have q6:w2.cell? ⟨w.heap.size,3,none⟩=some (nQ iQ o.step):=by rw [hp.out.cell];rfl
 have x0:w2.cell? ⟨w.heap.size,0,none⟩=some (nQ iQ 12):=by rw [hp.out.cell,←Hk.out];rfl
 have h4:=HH.out.size;have hZ:=Hz.out.lt;rw [hs.out];clear hR x00 x01 hJ HE;obtain ⟨he,HE⟩:=zd2 ha hE;clear ha hE;go_upto_region 20 with fail;clear x0;have KF:=zI (show ∀Xw,Later w2 Xw->Xw.cell? ⟨bx,xo,none⟩=some (sQ S2 (Ly.got x 0).s.length c2)/\Xw.cell? ⟨bx,xo+1,none⟩=some (sQ C2 (Ly.got x 0).c.length d2)/\Xw.cell? ⟨w.heap.size+1,0,none⟩=some (sQ GS g.s.length gc)/\Xw.cell? ⟨w.heap.size+1,1,none⟩=some (sQ GC g.c.length gd)/\Xw.cell? ⟨w.heap.size,2,none⟩=some (nQ iQ o.width)/\Xw.cell? ⟨w.heap.size,3,none⟩=some (nQ iQ o.step) from λXw h=>⟨h.cell q1,h.cell q2,h.cell q3,h.cell q4,h.cell q5,h.cell q6⟩);refine Zm1 ?_;refine Zl1 (S:=λXw=>Xw.cell? ⟨bx,xo,none⟩=some (sQ S2 (Ly.got x 0).s.length c2)/\Xw.cell? ⟨bx,xo+1,none⟩=some (sQ C2 (Ly.got x 0).c.length d2)/\Xw.cell? ⟨w.heap.size+1,0,none⟩=some (sQ GS g.s.length gc)/\Xw.cell? ⟨w.heap.size+1,1,none⟩=some (sQ GC g.c.length gd)/\Xw.cell? ⟨w.heap.size,2,none⟩=some (nQ iQ o.width)/\Xw.cell? ⟨w.heap.size,3,none⟩=some (nQ iQ o.step)) krZ (KF.out _ Lau) (λhHeld=>?_);refine tk 0 ?_;refine tk 1 ?_;refine tk 2 ?_;refine tk 3 ?_;refine tk 4 ?_;refine tk 5 ?_;refine tk 6 ?_;refine tk 7 ?_;refine rd 8 λK hK=>?_
 simp only [ga,gs,gz]
 go_simp
 go_at_call 48
 (with_reducible refine (he.out _ (Lau:Later w2 _)).mono ?_)
 rintro e wf ⟨S3,c3,C3,d3,rfl,-,hL,hT⟩;have hw:Later w2 wf:=Later.trans (Lau:Later w2 (World.drew w2)) hT;obtain ⟨hS,hl⟩:=zd2 hL hw;clear hL hw
 try go_wp2_with fail
 refine hK.out _ _ (KF.out _ Lau) (λhHeld=>?_);clear hK K
 try simp only [ga,gs,gz,Act.put,sa,sz,ss]
 refine tk 9 ?_;refine tk 10 ?_;refine rd 11 λK hK=>?_
 simp only [ga,gs,gz]
 go_simp
 go_at_call 47
 (with_reducible refine (qcB S3 C3 _ _ _ _ _ _).mono ?_)
 intro e w9 hm;have hu:=sg_u (w0:=w) hm (λh=>(hS.out h).base (by first|omega|(simp;omega))) (HH.out.trans hl.out);have hq:Later w2 w9:=Later.trans hl.out (show Later wf w9 by obtain ⟨_,_,_,_,_,h⟩:=hm;exact h);have hN:(Ly.bsingle R).2=R.2:=by unfold Ly.bsingle;split<;>simp_all
 obtain ⟨A9,na,B9,nb,rfl,k1,k2,ht⟩:=hu;have hW:=hl.out.size;have hd:=hq.blk Hz.out;have c0':=hd.cell 0;have c1':=hd.cell 1;have f0':=hd.frozen 0;have f1':=hd.frozen 1;simp at c0' c1';have hA:=zI hd;clear hd;obtain ⟨K1,K2,hU,hY⟩:=zd4 k1 k2 ht hN;have hV:Below w2.heap.size w2 w9:=hq;clear k1 k2 ht hm hq hN
 try go_wp2_with fail
 refine hK.out _ _ (KF.out _ Lau) (λhHeld=>?_);clear hK K
 try simp only [ga,gs,gz,Act.put,sa,sz,ss]
 refine tk 12 ?_;refine tk 13 ?_;refine rd 14 λK hK=>?_
 simp only [ga,gs,gz]
 go_simp
 refine hK.out _ _ ?_ (λhHeld=>?_)
 ·(try dsimp only);(refine ⟨?_,?_,?_,?_,?_,?_⟩<;>(repeat (refine qa0 ?_ (by first|omega|(simp;done)|(simp;omega))))<;>(refine Later.cell (Lau:Later w2 _) ?_)<;>assumption)
 clear hK K
 try simp only [ga,gs,gz,Act.put,sa,sz,ss]
 refine tk 15 ?_;clear KF;refine Zn1 krZ ?_ _;refine Zd1 ?_;have hn:=(hA.out.set_ 0 (sQ A9 na na)).set_ 1 (sQ B9 nb nb);have e0:=hn.cell 0;have e1:=hn.cell 1;simp at e0 e1;clear hHeld hn;go_wp2_with fail;refine Zk1 (v:=.tuple #[.agg #[sQ A9 na na,sQ B9 nb nb],nQ iQ (Ly.bsingle R).2]) (by simp [results,Tryz.results23,go_sem,e0,e1]) rfl ?_;rw [HE.out];exact GoBU.fin K1.out K2.out hU.out hA.out (show w.heap.size<=w.heap.size+2 by omega) (by first|omega|(simp;omega)) _ _
theorem qas {w:Zp1} {a b:Nat} {t1 t2:TypeId} {c1 c2:Array Value} (h1:Blk w a t1 c1) (h2:Blk w b t2 c2) (ht:t1≠t2):a≠b:=by
 intro e;subst e;have e:=h1.symm.trans h2;injection e with e
 injection e with _ e2 _
 exact ht e2
def six (u0 u1 u2 u3 u4 u5:Value) (tb:Nat) (w:Zp1):Zp1:=(((((w.setCell ⟨tb,0,none⟩ u0).setCell ⟨tb,1,none⟩ u1).setCell ⟨tb,2,none⟩ u2).setCell ⟨tb,3,none⟩ u3).setCell ⟨tb,4,none⟩ u4).setCell ⟨tb,5,none⟩ u5
theorem qbq (u0 u1 u2 u3 u4 u5:Value) (tb:Nat) (w:Zp1):Else tb w (six u0 u1 u2 u3 u4 u5 tb w):=((((((Else.refl tb w).setCell 0 u0).setCell 1 u1).setCell 2 u2).setCell 3 u3).setCell 4 u4).setCell 5 u5
theorem qbE {u0 u1 u2 u3 u4 u5 v0 v1 v2 v3 v4 v5:Value} {tb:Nat} {T:TypeId} {w:Zp1} (h:Blk w tb T #[v0,v1,v2,v3,v4,v5]):Blk (six u0 u1 u2 u3 u4 u5 tb w) tb T #[u0,u1,u2,u3,u4,u5]:=by
 have:=(((((h.set_ 0 u0).set_ 1 u1).set_ 2 u2).set_ 3 u3).set_ 4 u4).set_ 5 u5;simpa [six] using this
theorem qar {w:Zp1} {p:Nat} {T:TypeId} {v0 v1 v2 v3 v4 v5:Value} (h:Blk w p T #[v0,v1,v2,v3,v4,v5]):w.cell? ⟨p,0,none⟩=some v0/\w.cell? ⟨p,1,none⟩=some v1/\w.cell? ⟨p,2,none⟩=some v2/\w.cell? ⟨p,3,none⟩=some v3/\w.cell? ⟨p,4,none⟩=some v4/\w.cell? ⟨p,5,none⟩=some v5/\
  w.frozen? ⟨p,0,none⟩=false/\w.frozen? ⟨p,1,none⟩=false/\w.frozen? ⟨p,2,none⟩=false/\w.frozen? ⟨p,3,none⟩=false/\w.frozen? ⟨p,4,none⟩=false/\w.frozen? ⟨p,5,none⟩=false:=
 ⟨h.cell 0,h.cell 1,h.cell 2,h.cell 3,h.cell 4,h.cell 5,h.frozen 0,h.frozen 1,h.frozen 2,h.frozen 3,h.frozen 4,h.frozen 5⟩
theorem qbQ {w W:Zp1} {p:Nat} (h:Later w W) (hp:w.heap.size<=p) (u0 u1 u2 u3 u4 u5:Value):Later w (six u0 u1 u2 u3 u4 u5 p W):=(qbq u0 u1 u2 u3 u4 u5 p W).below h hp
structure DbI (w:Zp1) (tb g0 h0 g1 h1 g2 h2:Nat) (bw bx bg be:Array Value) (sw sg sx cg W X:List Int) (wx:Zp1):Prop where
 kw:Blk wx w.heap.size 30 bw
 kx:Blk wx (w.heap.size+2) 30 bx
 kg:Blk wx (w.heap.size+3) 30 bg
 kz:Blk wx (w.heap.size+4) 109 #[sQ none 0 0,sQ none 0 0,sQ none 0 0,sQ none 0 0,sQ none 0 0,sQ none 0 0]
 ke:Blk wx tb 109 be
 G0:Blk wx g0 3 (sw.map (Za1 iQ)).toArray
 H0:Blk wx h0 42 (W.map (Za1 iQ)).toArray
 G1:Blk wx g1 3 (sg.map (Za1 iQ)).toArray
 H1:Blk wx h1 42 (cg.map (Za1 iQ)).toArray
 G2:Blk wx g2 3 (sx.map (Za1 iQ)).toArray
 H2:Blk wx h2 42 (X.map (Za1 iQ)).toArray
 lo:w.heap.size<=g0/\w.heap.size<=g1/\w.heap.size<=g2/\w.heap.size+4<tb/\w.heap.size<=h0/\h0<h1/\h1<h2
 later:Later w wx
theorem DbI.to {w wx wy:Zp1} {tb g0 h0 g1 h1 g2 h2:Nat} {bw bx bg be:Array Value} {sw sg sx cg W X:List Int} (H:DbI w tb g0 h0 g1 h1 g2 h2 bw bx bg be sw sg sx cg W X wx) (hl:Later wx wy):DbI w tb g0 h0 g1 h1 g2 h2 bw bx bg be sw sg sx cg W X wy:=
 ⟨hl.blk H.kw,hl.blk H.kx,hl.blk H.kg,hl.blk H.kz,hl.blk H.ke,hl.blk H.G0,hl.blk H.H0,hl.blk H.G1,hl.blk H.H1,hl.blk H.G2,hl.blk H.H2,H.lo,H.later.trans hl⟩
theorem DbI.elseW {w wx wy:Zp1} {tb g0 h0 g1 h1 g2 h2:Nat} {bw bx bg be:Array Value} {sw sg sx cg W X W':List Int} (H:DbI w tb g0 h0 g1 h1 g2 h2 bw bx bg be sw sg sx cg W X wx) (hE:Else h0 wx wy) (hb:Blk wy h0 42 (W'.map (Za1 iQ)).toArray):DbI w tb g0 h0 g1 h1 g2 h2 bw bx bg be sw sg sx cg W' X wy:=by
 obtain ⟨l0,l1,l2,l3,l4,l5,l6⟩:=H.lo;exact ⟨hE.blk (qas H.kw H.H0 dZ) H.kw,hE.blk (qas H.kx H.H0 dZ) H.kx,hE.blk (qas H.kg H.H0 dZ) H.kg,hE.blk (qas H.kz H.H0 dZ) H.kz,hE.blk (qas H.ke H.H0 dZ) H.ke,hE.blk (qas H.G0 H.H0 dZ) H.G0,hb,hE.blk (qas H.G1 H.H0 dZ) H.G1,hE.blk oZ H.H1,hE.blk (qas H.G2 H.H0 dZ) H.G2,hE.blk oZ H.H2,H.lo,hE.below H.later oZ⟩
theorem DbI.elseX {w wx wy:Zp1} {tb g0 h0 g1 h1 g2 h2:Nat} {bw bx bg be:Array Value} {sw sg sx cg W X X':List Int} (H:DbI w tb g0 h0 g1 h1 g2 h2 bw bx bg be sw sg sx cg W X wx) (hE:Else h2 wx wy) (hb:Blk wy h2 42 (X'.map (Za1 iQ)).toArray):DbI w tb g0 h0 g1 h1 g2 h2 bw bx bg be sw sg sx cg W X' wy:=by
 obtain ⟨l0,l1,l2,l3,l4,l5,l6⟩:=H.lo;exact ⟨hE.blk (qas H.kw H.H2 dZ) H.kw,hE.blk (qas H.kx H.H2 dZ) H.kx,hE.blk (qas H.kg H.H2 dZ) H.kg,hE.blk (qas H.kz H.H2 dZ) H.kz,hE.blk (qas H.ke H.H2 dZ) H.ke,hE.blk (qas H.G0 H.H2 dZ) H.G0,hE.blk oZ H.H0,hE.blk (qas H.G1 H.H2 dZ) H.G1,hE.blk oZ H.H1,hE.blk (qas H.G2 H.H2 dZ) H.G2,hb,H.lo,hE.below H.later oZ⟩
theorem DbI.putW {w wx:Zp1} {tb g0 h0 g1 h1 g2 h2:Nat} {bw bx bg be:Array Value} {sw sg sx cg W X:List Int} (H:DbI w tb g0 h0 g1 h1 g2 h2 bw bx bg be sw sg sx cg W X wx) (k:Nat) (z:Int):DbI w tb g0 h0 g1 h1 g2 h2 bw bx bg be sw sg sx cg (W.set k z) X (wx.setCell ⟨h0,k,none⟩ (nQ iQ z)):=
 H.elseW ((Else.refl _ _).setCell k _) (by have:=H.H0.set_ k (nQ iQ z);rw [List.map_set];simpa using this)
theorem DbI.putX {w wx:Zp1} {tb g0 h0 g1 h1 g2 h2:Nat} {bw bx bg be:Array Value} {sw sg sx cg W X:List Int} (H:DbI w tb g0 h0 g1 h1 g2 h2 bw bx bg be sw sg sx cg W X wx) (k:Nat) (z:Int):DbI w tb g0 h0 g1 h1 g2 h2 bw bx bg be sw sg sx cg W (X.set k z) (wx.setCell ⟨h2,k,none⟩ (nQ iQ z)):=
 H.elseX ((Else.refl _ _).setCell k _) (by have:=H.H2.set_ k (nQ iQ z);rw [List.map_set];simpa using this)
theorem DbI.store {w wx:Zp1} {tb g0 h0 g1 h1 g2 h2:Nat} {bw bx bg:Array Value} {v0 v1 v2 v3 v4 v5 u0 u1 u2 u3 u4 u5:Value} {sw sg sx cg W X:List Int} (H:DbI w tb g0 h0 g1 h1 g2 h2 bw bx bg #[v0,v1,v2,v3,v4,v5] sw sg sx cg W X wx):DbI w tb g0 h0 g1 h1 g2 h2 bw bx bg #[u0,u1,u2,u3,u4,u5] sw sg sx cg W X (six u0 u1 u2 u3 u4 u5 tb wx):=by
 have hE:=qbq u0 u1 u2 u3 u4 u5 tb wx;obtain ⟨l0,l1,l2,l3,l4,l5,l6⟩:=H.lo;exact ⟨hE.blk oZ H.kw,hE.blk oZ H.kx,hE.blk oZ H.kg,hE.blk oZ H.kz,qbE H.ke,hE.blk (qas H.G0 H.ke dZ) H.G0,hE.blk (qas H.H0 H.ke dZ) H.H0,hE.blk (qas H.G1 H.ke dZ) H.G1,hE.blk (qas H.H1 H.ke dZ) H.H1,hE.blk (qas H.G2 H.ke dZ) H.G2,hE.blk (qas H.H2 H.ke dZ) H.H2,H.lo,hE.below H.later oZ⟩
def DbCut (w:Zp1) (bw bx bg:Array Value) (t g x:Ten) (a:Value) (wx:Zp1):Prop:=
 ∃tb g0 h0 g1 h1 g2 h2,a=.pointer (some ⟨tb,0,none⟩)/\DbI w tb g0 h0 g1 h1 g2 h2 bw bx bg #[sQ (some ⟨g0,0,none⟩) t.s.length t.s.length,sQ (some ⟨h0,0,none⟩) t.c.length t.c.length,sQ (some ⟨g1,0,none⟩) g.s.length g.s.length,sQ (some ⟨h1,0,none⟩) g.c.length g.c.length,sQ (some ⟨g2,0,none⟩) x.s.length x.s.length,sQ (some ⟨h2,0,none⟩) x.c.length x.c.length] t.s g.s x.s g.c t.c x.c wx
theorem db_mk {w w3 wa wb wc:Zp1} {tb g0 h0 g1 h1 g2 h2:Nat} {bw bx bg be:Array Value} {sw sg sx cg W X:List Int} (hw:Later w w3) (kw:Blk w3 w.heap.size 30 bw) (kx:Blk w3 (w.heap.size+2) 30 bx) (kg:Blk w3 (w.heap.size+3) 30 bg)
  (kz:Blk w3 (w.heap.size+4) 109 #[sQ none 0 0,sQ none 0 0,sQ none 0 0,sQ none 0 0,sQ none 0 0,sQ none 0 0]) (G0:Blk wa g0 3 (sw.map (Za1 iQ)).toArray) (H0:Blk wa h0 42 (W.map (Za1 iQ)).toArray) (G1:Blk wb g1 3 (sg.map (Za1 iQ)).toArray) (H1:Blk wb h1 42 (cg.map (Za1 iQ)).toArray)
  (G2:Blk wc g2 3 (sx.map (Za1 iQ)).toArray) (H2:Blk wc h2 42 (X.map (Za1 iQ)).toArray) (ke:Blk wc tb 109 be) (l1:Later w3 wa) (l2:Later wa wb) (l3:Later wb wc)
  (q0:w3.heap.size<=g0/\w3.heap.size<=h0) (q1:wa.heap.size<=g1/\wa.heap.size<=h1) (q2:wb.heap.size<=g2/\wb.heap.size<=h2) (q3:w3.heap.size<=tb):DbI w tb g0 h0 g1 h1 g2 h2 bw bx bg be sw sg sx cg W X wc:=by
 have l13:=l1.trans (l2.trans l3);have s1:=l1.size;have s2:=l2.size;have s0:=hw.size;have e0:=H0.lt;have e1:=H1.lt;have ez:=kz.lt;exact ⟨l13.blk kw,l13.blk kx,l13.blk kg,l13.blk kz,ke,(l2.trans l3).blk G0,(l2.trans l3).blk H0,l3.blk G1,l3.blk H1,G2,H2,⟨by omega,by omega,by omega,by omega,by omega,by omega,by omega⟩,hw.trans l13⟩
theorem DbI.wt {w wx:Zp1} {tb g0 h0 g1 h1 g2 h2:Nat} {bw bx bg be:Array Value} {sw sg sx cg W X:List Int} (H:DbI w tb g0 h0 g1 h1 g2 h2 bw bx bg be sw sg sx cg W X wx) (b0:sw.length<=1048576) (b1:W.length<=1048576) (i:∀z∈W,Fx.In z):TenIn wx (some ⟨g0,0,none⟩) (some ⟨h0,0,none⟩) sw.length W.length ⟨sw,W⟩:=
 ⟨⟨H.G0.intsL,H.H0.intsL⟩,lrZ _,by omega,lrZ _,by omega,b0,b1,i⟩
theorem DbI.done {r:(Ten × Ten × Ten) × Int} {w wx:Zp1} {tb g0 h0 g1 h1 g2 h2 n0 n1 n2:Nat} {bw bx bg be:Array Value} {sw sg sx cg W X:List Int} (H:DbI w tb g0 h0 g1 h1 g2 h2 bw bx bg be sw sg sx cg W X wx) (hr:r=((⟨sw,W⟩,⟨sg,cg⟩,⟨sx,X⟩),0)) (e0:W.length=n0) (e1:cg.length=n1) (e2:X.length=n2)
  (b0:sw.length<=1048576/\sg.length<=1048576/\sx.length<=1048576/\W.length<=1048576/\cg.length<=1048576/\X.length<=1048576) (i0:∀z∈W,Fx.In z) (i1:∀z∈cg,Fx.In z) (i2:∀z∈X,Fx.In z) (u0 u1 u2 u3 u4 u5:Value):
  GoD r w (.returned (.tuple #[.agg #[sQ (some ⟨g0,0,none⟩) sw.length sw.length,sQ (some ⟨h0,0,none⟩) n0 n0,sQ (some ⟨g1,0,none⟩) sg.length sg.length,sQ (some ⟨h1,0,none⟩) n1 n1,sQ (some ⟨g2,0,none⟩) sx.length sx.length,sQ (some ⟨h2,0,none⟩) n2 n2],nQ iQ 0])) (six u0 u1 u2 u3 u4 u5 (w.heap.size+4) wx):=by
 subst hr;obtain ⟨l0,l1,l2,l3,l4,l5,l6⟩:=H.lo;obtain ⟨c0,c1,c2,c3,c4,c5⟩:=b0;have hE:=qbq u0 u1 u2 u3 u4 u5 (w.heap.size+4) wx;have hz:=qbE (u0:=u0) (u1:=u1) (u2:=u2) (u3:=u3) (u4:=u4) (u5:=u5) H.kz
 have ha:=noint H.kz (λk z=>by
  match k with
  | 0=>simp
  | 1=>simp
  | 2=>simp
  | 3=>simp
  | 4=>simp
  | 5=>simp
  | n+6=>simp)
 subst e0 e1 e2;refine ⟨.inr ⟨rfl,_,_,_,_,_,_,_,_,_,_,_,_,rfl,?_,?_,?_⟩,hE.below H.later oZ⟩
 ·exact (qbB H.G0 H.H0 l0 oZ c0 c3 i0 rfl).else_ hE ha λj=>hz.frozen j
 ·exact (qbB H.G1 H.H1 l1 oZ c1 c4 i1 rfl).else_ hE ha λj=>hz.frozen j
 ·exact (qbB H.G2 H.H2 l2 oZ c2 c5 i2 rfl).else_ hE ha λj=>hz.frozen j
theorem GoD.fail {n:Int} {r:(Ten × Ten × Ten) × Int} {w w':Zp1} (hr:r=((Ly.none_,Ly.none_,Ly.none_),n)) (hn:n≠0) (hb:Below w.heap.size w w'):GoD r w (.returned (.tuple #[.agg #[sQ none 0 0,sQ none 0 0,sQ none 0 0,sQ none 0 0,sQ none 0 0,sQ none 0 0],nQ iQ n])) w':=by
 subst hr;exact ⟨.inl ⟨hn,rfl⟩,hb⟩
end Go.Proofs.YtimfcikmpllbpaaGreat
