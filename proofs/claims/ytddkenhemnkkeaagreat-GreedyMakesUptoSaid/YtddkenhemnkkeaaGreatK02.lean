/- Lemmas for the statements of this seat: contracts of functions and the plain laws. -/
import Derived.BigQuiet
import Derived.Deep.DeepCutAuto
import Derived.Deep.QuietTactic
import Derived.Shelf.Spec.SlicesInsert
import Derived.Shelf.Spec.SlicesInsertGrow
import Derived.Test.YtddkenhemnkkeaaGreatProg
import Derived.Test.YtddkenhemnkkeaaGreatK01
set_option linter.unusedVariables false
open Go.IntKind renaming i64 → iQ
open Go.Value renaming int → nQ, slice → sQ
open List renaming take_succ_eq_append_getElem → Zb, replicate → Zc, drop_eq_getElem_cons → Zd, length_append → Ze, all_eq_true → Zf, take_length → Zg, mem_of_mem_take → Zh, getElem?_eq_none → Zi, flatMap_append → Zj, getElem?_toArray → Zk, getElem?_append_right → Zl, getElem?_append_left → Zm, take_append_drop → Zn, length_take → Zo, mem_of_mem_drop → Zp, length_drop → Zq, getElem?_set_self → Zr, getElem?_set_ne → Zs
open Nat renaming zero_le → Zt, succ_mul → Zu, le_trans → Zv, zero_add → Zw, add_zero → Zx, le_succ → Zy
open Bool renaming and_eq_true → Zz
open Go.Value renaming int → Za1, slice → Zb1
open Go.IntWalk renaming i64_in → Zc1
open Go.NoPanic renaming normal → Zd1
open Go.RowKit.Below renaming refl → Ze1
open Go.AllReadyH renaming cons → Zf1, nil → Zg1
open Go.World renaming size_alloc → Zh1, cell?_of_block → Zi1, block_lt_of_cell? → Zj1
open Go renaming bodyPost_ret → Zk1, wp_region_held_drew → Zl1, wp_region_noPanic → Zm1, wpAnyH_done → Zn1, wpAnyH_ready → Zo1, World → Zp1
open Go.Proofs.Tryz
namespace Go.Proofs.YtddkenhemnkkeaaGreat
set_option maxHeartbeats 16000000
set_option maxRecDepth 20000
open Go.RowKit
structure RtS where
 aG:List Bool
 code:List (Int × Int)
structure RtD where
 there:List Int
 code:List (Int × Int)
namespace Rt
def add (k id:Int) (s:RtS):RtS:=⟨s.aG,s.code++[(k,id)]⟩
def comp (k id:Int) (s:RtS):RtS:=⟨Ck.bO s.aG id true,s.code++[(k,id)]⟩
def drop (id:Int) (s:RtS):RtS:=⟨Ck.bO s.aG id false,s.code++[(3,id)]⟩
def aQ (f:Int->Bool):Nat->RtS->RtS
 | 0,s=>s
 | m+1,s=>if Ck.at_ (aQ f m s).aG ((m:Int)+1)&&f ((m:Int)+1) then drop ((m:Int)+1) (aQ f m s) else aQ f m s
def fetch (I:Int->List Int):Nat->Int->RtS->RtS
 | 0,_,s=>s
 | m+1,id,s=>if Ck.at_ s.aG id then s else comp 2 id ((I id).foldl (λs i=>fetch I m i s) s)
def dN (k id:Int) (x:RtD):RtD:=⟨x.there,x.code++[(k,id)]⟩
def dW (k id:Int) (x:RtD):RtD:=⟨x.there++[id],x.code++[(k,id)]⟩
def eP (id:Int) (x:RtD):RtD:=⟨Rf.without x.there id,x.code++[(3,id)]⟩
def bB (g:Int->Bool):Nat->RtD->RtD
 | 0,x=>x
 | m+1,x=>if (bB g m x).there.contains ((m:Int)+1)&&g ((m:Int)+1) then eP ((m:Int)+1) (bB g m x) else bB g m x
def aI (I:Int->List Int):Nat->Int->RtD->RtD
 | 0,_,x=>x
 | m+1,id,x=>if id=0∨x.there.contains id=true then x else dW 2 id ((I id).foldl (λx i=>aI I m i x) x)
structure Rel (L:Nat) (s:RtS) (x:RtD):Prop where
 len:s.aG.length=L
 zero:Ck.at_ s.aG 0=true
 iff:∀z:Int,1<=z->z<L->Ck.at_ s.aG z=x.there.contains z
 nod:x.there.Nodup
 rng:∀z∈x.there,1<=z/\z<L
 code:s.code=x.code
section
variable {L:Nat} {s:RtS} {x:RtD}
theorem Rel.add (h:Rel L s x) (k id:Int):Rel L (add k id s) (dN k id x):=⟨h.len,h.zero,h.iff,h.nod,h.rng,by show s.code++_=x.code++_;rw [h.code]⟩
theorem Rel.comp (h:Rel L s x) (k:Int) {id:Int} (h1:1<=id) (h2:id<L) (hn:id∉x.there):Rel L (comp k id s) (dW k id x):=by
 refine ⟨by show (Ck.bO s.aG id true).length=L;rw [Ck.bO,List.length_set];exact h.len,?_,λz z1 z2=>?_,?_,λz hz=>?_,by show s.code++_=x.code++_;rw [h.code]⟩
 ·show Ck.at_ (Ck.bO s.aG id true) 0=true
  rw [eB.dS h.len oZ h2 (Int.le_refl 0),inZ oZ];exact h.zero
 ·show Ck.at_ (Ck.bO s.aG id true) z=(x.there++[id]).contains z
  rw [eB.dS h.len oZ h2 oZ]
  by_cases e:z=id
  ·subst e;simp
  ·rw [inZ e,h.iff z z1 z2];simp [e]
 ·show (x.there++[id]).Nodup
  rw [List.nodup_append];refine ⟨h.nod,by simp,λa ha b hb e=>?_⟩;simp at hb;subst hb;subst e;exact hn ha
 ·rcases List.mem_append.1 hz with hz|hz
  ·exact h.rng z hz
  ·simp at hz;subst hz;exact ⟨h1,h2⟩
theorem Rel.drop (h:Rel L s x) {id:Int} (h1:1<=id) (h2:id<L):Rel L (drop id s) (eP id x):=by
 refine ⟨by show (Ck.bO s.aG id false).length=L;rw [Ck.bO,List.length_set];exact h.len,?_,λz z1 z2=>?_,h.nod.filter _,λz hz=>h.rng z (List.mem_filter.1 hz).1,by show s.code++_=x.code++_;rw [h.code]⟩
 ·show Ck.at_ (Ck.bO s.aG id false) 0=true
  rw [eB.dS h.len oZ h2 (Int.le_refl 0),inZ oZ];exact h.zero
 ·show Ck.at_ (Ck.bO s.aG id false) z=(Rf.without x.there id).contains z
  rw [eB.dS h.len oZ h2 oZ]
  by_cases e:z=id
  ·subst e;simp [Rf.without]
  ·rw [inZ e,h.iff z z1 z2,Bool.eq_iff_iff];simp [Rf.without,e]
theorem Rel.aQ {f g:Int->Bool}:∀ {m:Nat},m<L->Rel L s x->(∀z:Int,1<=z->z<=m->z∈x.there->f z=g z)->Rel L (Rt.aQ f m s) (bB g m x)/\∀z∈(bB g m x).there,z∈x.there
 | 0,_,h,_=>⟨h,λ_ hz=>hz⟩
 | m+1,hm,h,hfg=>by
  obtain ⟨h1,h2⟩:=Rel.aQ (m:=m) oZ h (λz z1 z2 z3=>hfg z z1 oZ z3);have e1:Ck.at_ (Rt.aQ f m s).aG ((m:Int)+1)=(bB g m x).there.contains ((m:Int)+1):=h1.iff _ oZ oZ;unfold Rt.aQ bB;rw [e1]
  by_cases hc:(bB g m x).there.contains ((m:Int)+1)=true
  ·have ha:(m:Int)+1∈x.there:=h2 _ (by simpa using hc)
   rw [hfg _ oZ oZ ha]
   split
   ·exact ⟨h1.drop oZ oZ,λz hz=>h2 z (List.mem_filter.1 hz).1⟩
   ·exact ⟨h1,h2⟩
  ·have hb:(bB g m x).there.contains ((m:Int)+1)=false:=by simpa using hc
   rw [hb];exact ⟨h1,h2⟩
end
structure Ok (I:Int->List Int) (r:Int->Nat) (L:Nat):Prop where
 rng:∀id:Int,1<=id->id<L->∀i∈I id,0<=i/\i<L
 lt:∀id:Int,1<=id->id<L->∀i∈I id,i≠0->r i<r id
section
variable {L:Nat} {I:Int->List Int} {r:Int->Nat}
theorem qdg (hO:Ok I r L):∀(m:Nat) (id:Int) (x:RtD),0<=id->id<L->∀z∈(aI I m id x).there,z∈x.there∨r z<=r id
 | 0,_,x,_,_,z,hz=>.inl hz
 | m+1,id,x,h0,h1,z,hz=>by
  unfold aI at hz
  split at hz
  ·exact .inl hz
  ·rename_i hc
   have hb:id≠0:=λe=>hc (.inl e)
   have fold:∀(l:List Int) (y:RtD),(∀i∈l,(0<=i/\i<L)/\(i≠0->r i<r id))->∀z∈(l.foldl (λx i=>aI I m i x) y).there,z∈y.there∨r z<=r id:=by
    intro l
    induction l with
    | nil=>intro y _ z hz;exact .inl hz
    | cons i t ih=>
     intro y hi z hz;have ha:=hi i sZ;rcases ih (aI I m i y) (λj hj=>hi j (by simp [hj])) z hz with h|h
     ·rcases qdg hO m i y ha.1.1 ha.1.2 z h with h|h
      ·exact .inl h
      ·by_cases e:i=0
       ·subst e
        cases m with
        | zero=>exact .inl (by simpa [aI] using h)
        | succ m=>exact .inl (by simpa [aI] using ‹z∈(aI I (m+1) 0 y).there›)
       ·have:=ha.2 e;exact .inr oZ
     ·exact .inr h
   rcases List.mem_append.1 hz with hz|hz
   ·exact fold (I id) x (λi hi=>⟨hO.rng id oZ h1 i hi,hO.lt id oZ h1 i hi⟩) z hz
   ·simp at hz;subst hz;exact .inr (lrZ _)
theorem qeh (hO:Ok I r L) (m:Nat) {id:Int}:∀(l:List Int) (y:RtD),(∀i∈l,(0<=i/\i<L)/\(i≠0->r i<r id))->∀z∈(l.foldl (λx i=>aI I m i x) y).there,z∈y.there∨r z<r id
 | [],_,_,z,hz=>.inl hz
 | i::t,y,hi,z,hz=>by
  have ha:=hi i sZ;rcases qeh hO m t (aI I m i y) (λj hj=>hi j (by simp [hj])) z hz with h|h
  ·rcases qdg hO m i y ha.1.1 ha.1.2 z h with h2|h2
   ·exact .inl h2
   ·by_cases e:i=0
    ·subst e
     cases m with
     | zero=>exact .inl (by simpa [aI] using h)
     | succ m=>exact .inl (by simpa [aI] using h)
    ·have:=ha.2 e;exact .inr oZ
  ·exact .inr h
theorem Rel.fetch (hO:Ok I r L):∀(m:Nat) (id:Int) {s:RtS} {x:RtD},Rel L s x->0<=id->id<L->Rel L (Rt.fetch I m id s) (aI I m id x)
 | 0,_,_,_,h,_,_=>h
 | m+1,id,s,x,h,h0,h1=>by
  unfold Rt.fetch aI
  by_cases e:id=0
  ·subst e;rw [ipZ h.zero,ipZ (.inl rfl)];exact h
  have ea:=h.iff id oZ h1
  by_cases hc:x.there.contains id=true
  ·rw [ipZ (by rw [ea];exact hc),ipZ (.inr hc)];exact h
  rw [inZ (by rw [ea];exact hc),inZ (λq=>q.elim e hc)];have hI:∀i∈I id,(0<=i/\i<L)/\(i≠0->r i<r id):=λi hi=>⟨hO.rng id oZ h1 i hi,hO.lt id oZ h1 i hi⟩
  have fold:∀(l:List Int) {s:RtS} {x:RtD},Rel L s x->(∀i∈l,0<=i/\i<L)->Rel L (l.foldl (λs i=>Rt.fetch I m i s) s) (l.foldl (λx i=>aI I m i x) x):=by
   intro l
   induction l with
   | nil=>intro s x h _;exact h
   | cons i t ih=>
    intro s x h hi;have ha:=hi i sZ;exact ih (Rel.fetch hO m i h ha.1 ha.2) (λj hj=>hi j (by simp [hj]))
  refine (fold (I id) h (λi hi=>(hI i hi).1)).comp 2 oZ h1 (λq=>?_);rcases qeh hO m (I id) x hI id q with q|q
  ·exact hc (by simpa using q)
  ·omega
theorem Rel.mQ (hO:Ok I r L) (m:Nat):∀(l:List Int) {s:RtS} {x:RtD},Rel L s x->(∀i∈l,0<=i/\i<L)->Rel L (l.foldl (λs i=>Rt.fetch I m i s) s) (l.foldl (λx i=>aI I m i x) x)
 | [],_,_,h,_=>h
 | i::t,_,_,h,hi=>Rel.mQ hO m t (Rel.fetch hO m i h (hi i sZ).1 (hi i sZ).2) (λj hj=>hi j (by simp [hj]))
theorem qcG:∀(m:Nat) (id:Int) (x:RtD),∀z∈(aI I m id x).there,z∈x.there∨z=id∨∃u,z∈I u
 | 0,_,_,z,hz=>.inl hz
 | m+1,id,x,z,hz=>by
  unfold aI at hz
  split at hz
  ·exact .inl hz
  ·have fold:∀(l:List Int) (y:RtD),(∀i∈l,i∈I id)->∀z∈(l.foldl (λx i=>aI I m i x) y).there,z∈y.there∨∃u,z∈I u:=by
    intro l
    induction l with
    | nil=>intro y _ z hz;exact .inl hz
    | cons i t ih=>
     intro y hi z hz;rcases ih (aI I m i y) (λj hj=>hi j (by simp [hj])) z hz with h|h
     ·rcases qcG m i y z h with h|h|h
      ·exact .inl h
      ·subst h;exact .inr ⟨id,hi z sZ⟩
      ·exact .inr h
     ·exact .inr h
   rcases List.mem_append.1 hz with hz|hz
   ·rcases fold (I id) x (λ_ h=>h) z hz with h|h
    ·exact .inl h
    ·exact .inr (.inr h)
   ·simp at hz;exact .inr (.inl hz)
theorem qdh (m:Nat):∀(l:List Int) (y:RtD),(∀i∈l,∃u,i∈I u)->∀z∈(l.foldl (λx i=>aI I m i x) y).there,z∈y.there∨∃u,z∈I u
 | [],_,_,z,hz=>.inl hz
 | i::t,y,hi,z,hz=>by
  rcases qdh m t (aI I m i y) (λj hj=>hi j (by simp [hj])) z hz with h|h
  ·rcases qcG m i y z h with h|h|h
   ·exact .inl h
   ·subst h;exact .inr (hi z sZ)
   ·exact .inr h
  ·exact .inr h
def fwd (order:List Int) (N:Nat) (f:Nat->Int->Bool):Nat->RtS->RtS
 | 0,s=>s
 | k+1,s=>aQ (f k) N (comp 1 (order.getD k 0) (fwd order N f k s))
def qhs (order:List Int) (N:Nat) (g:Nat->Int->Bool):Nat->RtD->RtD
 | 0,x=>x
 | k+1,x=>bB (g k) N (dW 1 (order.getD k 0) (qhs order N g k x))
theorem Rel.fwd {order:List Int} {N:Nat} {f g:Nat->Int->Bool} {s:RtS} {x:RtD} (hN:N<L) (ho:∀u∈order,1<=u/\u<L) (hn:order.Nodup) (hs:Rel L s x) (hx:x.there=[]) (hL:L<=N+1)
  (hfg:∀k,k<order.length->∀z:Int,1<=z->z<=N->z∈order.take (k+1)->f k z=g k z):
  ∀k,k<=order.length->Rel L (Rt.fwd order N f k s) (qhs order N g k x)/\∀z∈(qhs order N g k x).there,z∈order.take k
 | 0,_=>⟨hs,λz hz=>by rw [show qhs order N g 0 x=x from rfl,hx] at hz;cases hz⟩
 | k+1,hk=>by
  obtain ⟨h1,h2⟩:=Rel.fwd hN ho hn hs hx hL hfg k oZ;have ha:k<order.length:=by omega
  have e:order.getD k 0=order[k]:=by rw [gdZ,geZ ha];rfl
  have hu:=ho _ (gmZ ha);have ht:=Zb ha;unfold Rt.fwd qhs;rw [e]
  have hc:=h1.comp 1 hu.1 hu.2 (λq=>by
   have q2:=h2 _ q;have hd:=hn.sublist (List.take_sublist (k+1) order);rw [ht,List.nodup_append] at hd;exact hd.2.2 _ q2 _ sZ rfl)
  have hb:∀z∈(dW 1 order[k] (qhs order N g k x)).there,z∈order.take (k+1):=λz hz=>by
   rw [ht];rcases List.mem_append.1 hz with hz|hz
   ·exact List.mem_append.2 (.inl (h2 z hz))
   ·exact List.mem_append.2 (.inr hz)
  obtain ⟨h3,h4⟩:=hc.aQ (f:=f k) (g:=g k) (m:=N) hN (λz z1 z2 z3=>hfg k ha z z1 z2 (hb z z3));exact ⟨h3,λz hz=>hb z (h4 z hz)⟩
def bwd (I:Int->List Int) (order:List Int) (M N:Nat) (b:Nat->Int->Bool):Nat->RtS->RtS
 | 0,s=>s
 | k+1,s=>aQ (b (order.length-k)) N (add 6 (order.getD (order.length-1-k) 0) ((I (order.getD (order.length-1-k) 0)).foldl (λs i=>fetch I M i s) (bwd I order M N b k s)))
def qfS (I:Int->List Int) (order:List Int) (M N:Nat) (g:Nat->Int->Bool):Nat->RtD->RtD
 | 0,x=>x
 | k+1,x=>bB (g (order.length-k)) N (dN 6 (order.getD (order.length-1-k) 0) ((I (order.getD (order.length-1-k) 0)).foldl (λx i=>aI I M i x) (qfS I order M N g k x)))
theorem Rel.bwd (hO:Ok I r L) {order:List Int} {M N:Nat} {b g:Nat->Int->Bool} {s:RtS} {x:RtD} (hN:N<L) (ho:∀u∈order,1<=u/\u<L) (hs:Rel L s x)
  (hbg:∀p,1<=p->p<=order.length->∀z:Int,1<=z->z<=N->(z∈x.there∨∃u,z∈I u)->b p z=g p z):
  ∀k,k<=order.length->Rel L (Rt.bwd I order M N b k s) (qfS I order M N g k x)/\∀z∈(qfS I order M N g k x).there,z∈x.there∨∃u,z∈I u
 | 0,_=>⟨hs,λz hz=>.inl hz⟩
 | k+1,hk=>by
  obtain ⟨h1,h2⟩:=Rel.bwd hO hN ho hs hbg k oZ;have hb:order.length-1-k<order.length:=by omega
  have e:order.getD (order.length-1-k) 0=order[order.length-1-k]:=by rw [gdZ,geZ hb];rfl
  have hu:=ho _ (gmZ hb);unfold Rt.bwd qfS;rw [e];generalize order[order.length-1-k]=u at *;have hf:=(Rel.mQ hO M (I u) h1 (λi hi=>hO.rng u hu.1 hu.2 i hi)).add 6 u
  have ha:∀z∈(dN 6 u ((I u).foldl (λx i=>aI I M i x) (qfS I order M N g k x))).there,z∈x.there∨∃u,z∈I u:=λz hz=>by
   rcases qdh M (I u) (qfS I order M N g k x) (λi hi=>⟨u,hi⟩) z hz with h|h
   ·exact h2 z h
   ·exact .inr h
  obtain ⟨h3,h4⟩:=hf.aQ (f:=b (order.length-k)) (g:=g (order.length-k)) (m:=N) hN (λz z1 z2 z3=>hbg _ oZ oZ z z1 z2 (ha z z3));exact ⟨h3,λz hz=>ha z (h4 z hz)⟩
def lower (I:Int->List Int) (order:List Int) (M N:Nat) (aH:Int) (f b:Nat->Int->Bool) (s:RtS):RtS:=
 bwd I order M N b order.length (add 5 0 (drop aH (add 4 0 (fwd order N f order.length s))))
def vB (I:Int->List Int) (order:List Int) (M N:Nat) (aH:Int) (f b:Nat->Int->Bool) (x:RtD):RtD:=
 qfS I order M N b order.length (dN 5 0 (eP aH (dN 4 0 (qhs order N f order.length x))))
theorem Rel.lower (hO:Ok I r L) {order:List Int} {M N:Nat} {aH:Int} {f g b d:Nat->Int->Bool} {s:RtS} {x:RtD} (hN:N<L) (hL:L<=N+1) (ho:∀u∈order,1<=u/\u<L) (hn:order.Nodup) (hs:Rel L s x) (hx:x.there=[])
  (hl:1<=aH/\aH<L) (hfg:∀k,k<order.length->∀z:Int,1<=z->z<=N->z∈order.take (k+1)->f k z=g k z)
  (hlu:∀u,aH∉I u) (hbd:∀p,1<=p->p<=order.length->∀z:Int,1<=z->z<=N->z≠aH->b p z=d p z):
  Rel L (Rt.lower I order M N aH f b s) (vB I order M N aH g d x):=by
 obtain ⟨h1,_⟩:=Rel.fwd hN ho hn hs hx hL hfg order.length (lrZ _);have h2:=(((h1.add 4 0).drop hl.1 hl.2).add 5 0)
 refine (Rel.bwd hO hN ho h2 (λp p1 p2 z z1 z2 hz=>hbd p p1 p2 z z1 z2 (λe=>?_)) order.length (lrZ _)).1;subst e;rcases hz with hz|⟨u,hu⟩
 ·have:=(List.mem_filter.1 hz).2;simp at this
 ·exact hlu u hu
end
end Rt
namespace Rt
def pend (I:Int->List Int) (id:Int) (l:List Int):Bool:=l.any λu=>(I u).contains id
def kM (I:Int->List Int) (order:List Int) (id:Int):Nat->Int
 | 0=>0
 | k+1=>if (I (order.getD k 0)).contains id then (k:Int)+1 else kM I order id k
def iB (I:Int->List Int) (order:List Int) (id:Int):Nat->Int
 | 0=>0
 | k+1=>if (I (order.getD (order.length-1-k) 0)).contains id then ((order.length-k:Nat):Int) else iB I order id k
theorem get_at {order:List Int} {j:Nat} (h:j<order.length):order.getD j 0=order[j]:=by rw [gdZ,geZ h];rfl
theorem qfT (I:Int->List Int) (order:List Int) (id:Int) (m:Nat):∀k,kM I order id k<=m↔∀j,m<=j->j<k->(I (order.getD j 0)).contains id=false
 | 0=>by
  constructor
  ·intro _ j _ h;omega
  ·intro _;show (0:Int)<=m;omega
 | k+1=>by
  have ih:=qfT I order id m k;unfold kM
  by_cases hc:(I (order.getD k 0)).contains id=true
  ·rw [ipZ hc]
   constructor
   ·intro h j h1 h2;omega
   ·intro h
    rcases Nat.lt_or_ge k m with q|q
    ·omega
    ·have:=h k q oZ;rw [hc] at this;cases this
  ·rw [inZ hc,ih]
   constructor
   ·intro h j h1 h2
    rcases Nat.lt_or_ge j k with q|q
    ·exact h j h1 q
    ·have:j=k:=by omega
     subst this;simpa using hc
   ·intro h j h1 h2;exact h j h1 oZ
theorem qht {I:Int->List Int} {order:List Int} {id:Int} {m:Nat}:pend I id (order.drop m)=false↔∀j,m<=j->j<order.length->(I (order.getD j 0)).contains id=false:=by
 unfold pend;rw [List.any_eq_false]
 constructor
 ·intro h j h1 h2
  have:order[j]∈order.drop m:=by
   rw [List.mem_iff_getElem];exact ⟨j-m,by rw [Zq];omega,by rw [List.getElem_drop];congr 1;omega⟩
  have:=h _ this;rw [get_at h2];simpa using this
 ·intro h u hu
  obtain ⟨j,hj,rfl⟩:=List.getElem_of_mem hu;rw [Zq] at hj;have:=h (m+j) oZ oZ;rw [get_at oZ] at this;rw [List.getElem_drop,this];simp
theorem qhu {I:Int->List Int} {order:List Int} {id:Int} {m:Nat} (hm:m<=order.length):pend I id (order.take m)=false↔∀j,j<m->(I (order.getD j 0)).contains id=false:=by
 unfold pend;rw [List.any_eq_false]
 constructor
 ·intro h j h1
  have:order[j]∈order.take m:=by
   rw [List.mem_iff_getElem];exact ⟨j,by rw [Zo];omega,by rw [List.getElem_take]⟩
  have:=h _ this;rw [get_at oZ];simpa using this
 ·intro h u hu
  obtain ⟨j,hj,rfl⟩:=List.getElem_of_mem hu;rw [Zo] at hj;have:=h j oZ;rw [get_at oZ] at this;rw [List.getElem_take,this];simp
theorem qb9 (I:Int->List Int) (order:List Int) (id:Int) (m:Nat):decide (kM I order id order.length<=m) = !pend I id (order.drop m):=by
 rw [Bool.eq_iff_iff];simp only [decide_eq_true_eq,Bool.not_eq_true'];rw [qfT,qht]
theorem qei (I:Int->List Int) (order:List Int) (id:Int) (p:Nat):∀k,k<=order.length->(∃j,order.length-k<=j/\j<order.length/\(I (order.getD j 0)).contains id=true)->
  ((p:Int)<=iB I order id k↔∀j,order.length-k<=j->j+1<p->j<order.length->(I (order.getD j 0)).contains id=false)
 | 0,_,⟨j,h1,h2,_⟩=>by omega
 | k+1,hk,hex=>by
  unfold iB
  by_cases hc:(I (order.getD (order.length-1-k) 0)).contains id=true
  ·rw [ipZ hc]
   constructor
   ·intro h j h1 h2 h3;omega
   ·intro h
    rcases Nat.lt_or_ge (order.length-k) p with q|q
    ·have:=h (order.length-1-k) oZ oZ oZ;rw [hc] at this;cases this
    ·omega
  ·rw [inZ hc]
   have ha:∃j,order.length-k<=j/\j<order.length/\(I (order.getD j 0)).contains id=true:=by
    obtain ⟨j,h1,h2,h3⟩:=hex;refine ⟨j,?_,h2,h3⟩;rcases Nat.lt_or_ge j (order.length-k) with q|q
    ·have:j=order.length-1-k:=by omega
     subst this;exact absurd h3 hc
    ·exact q
   rw [qei I order id p k oZ ha]
   constructor
   ·intro h j h1 h2 h3
    rcases Nat.lt_or_ge j (order.length-k) with q|q
    ·have:j=order.length-1-k:=by omega
     subst this;simpa using hc
    ·exact h j q h2 h3
   ·intro h j h1 h2 h3;exact h j oZ h2 h3
theorem qbk (I:Int->List Int) (order:List Int) (id:Int) {p:Nat} (h1:1<=p) (h2:p<=order.length) (hu:∃j,j<order.length/\(I (order.getD j 0)).contains id=true):decide ((p:Int)<=iB I order id order.length) = !pend I id (order.take (p-1)):=by
 rw [Bool.eq_iff_iff];simp only [decide_eq_true_eq,Bool.not_eq_true'];rw [qei I order id p order.length (lrZ _) (by obtain ⟨j,a,b⟩:=hu;exact ⟨j,by omega,a,b⟩),qhu oZ]
 constructor
 ·intro h j hj;exact h j oZ oZ oZ
 ·intro h j _ hj _;exact h j oZ
end Rt
namespace Rt
def lK (n:aA) (id:Int):Nat:=(Nt.sO n.o).idxOf id
theorem qfU {n:aA} {u z:Int} (h:z∈Nt.iF n.o u):∃v∈n.o,z∈v.ins:=by
 unfold Nt.iF Nt.node at h;rw [gdZ] at h;rcases Nat.lt_or_ge (u.toNat-1) n.o.length with q|q
 ·rw [geZ q] at h
  exact ⟨_,gmZ q,h⟩
 ·rw [Zi q] at h
  cases h
theorem fZ {n:aA} (h:Nt.check n=0):Ok (Nt.iF n.o) (lK n) (n.o.length+1):=by
 obtain ⟨_,_,_,hb,hl,_⟩:=Nt.aL h;refine ⟨λid h1 h2 i hi=>?_,λid h1 h2 i hi h0=>?_⟩
 ·obtain ⟨v,hv,hz⟩:=qfU hi
  have:=(Nt.fD hb v hv).2 i hz;omega
 ·have hu:id∈Nt.sO n.o:=(Kn.bU hl id).2 ⟨h1,by omega⟩
  obtain ⟨A,B,e⟩:=List.append_of_mem hu;have ha:(Nt.sO n.o).Nodup:=(Kn.go_ok _ _ _).nodup;have hA:=(Kn.fE _ _ e i hi).resolve_left h0;unfold lK;rw [e] at ha ⊢
  have hc:id∉A:=λq=>by
   rw [List.nodup_append] at ha;exact ha.2.2 id q id sZ rfl
  rw [List.idxOf_append,ipZ hA,List.idxOf_append,inZ hc,List.idxOf_cons_self];have:=List.idxOf_lt_length_of_mem hA;omega
theorem cB {n:aA}:∀u∈Nt.sO n.o,1<=u/\u<((n.o.length+1:Nat):Int):=λu hu=>by
 have:=Kn.dQ (Nt.iF n.o) n.o.length u hu;omega
theorem iH {n:aA} (h:Nt.check n=0) (u:Int):Nt.aH n.o∉Nt.iF n.o u:=λq=>by
 obtain ⟨_,_,_,_,_,_,ha,_⟩:=Nt.aL h;obtain ⟨e,h1,h2⟩:=Nt.dD ha;obtain ⟨v,hv,hz⟩:=qfU q;have hm:Nt.aH n.o∈Nt.unused n.o:=by rw [e];simp
 have hf:=(List.mem_filter.1 hm).2
 have ht:Nt.isUsed n.o (Nt.aH n.o)=true:=by
  unfold Nt.isUsed;rw [List.any_eq_true];exact ⟨v,hv,by simpa using hz⟩
 rw [ht] at hf;cases hf
theorem qbH {n:aA} (h:Nt.check n=0) {z:Int} (h1:1<=z) (h2:z<=n.o.length) (h3:z≠Nt.aH n.o):∃j,j<(Nt.sO n.o).length/\(Nt.iF n.o ((Nt.sO n.o).getD j 0)).contains z=true:=by
 obtain ⟨_,_,_,_,hl,_,hb,_⟩:=Nt.aL h;obtain ⟨e,_,_⟩:=Nt.dD hb
 have ha:Nt.isUsed n.o z=true:=by
  rcases Bool.eq_false_or_eq_true (Nt.isUsed n.o z) with q|q
  ·exact q
  ·have:z∈Nt.unused n.o:=by
    unfold Nt.unused;refine List.mem_filter.2 ⟨?_,by rw [q];rfl⟩;unfold Nt.nums;rw [List.mem_map];exact ⟨z.toNat,by rw [List.mem_range];omega,by omega⟩
   rw [e] at this;simp at this;exact absurd this h3
 unfold Nt.isUsed at ha;rw [List.any_eq_true] at ha;obtain ⟨v,hv,hz⟩:=ha;obtain ⟨k,hk,rfl⟩:=List.getElem_of_mem hv;have hu:((k:Int)+1)∈Nt.sO n.o:=(Kn.bU hl _).2 ⟨by omega,by omega⟩;obtain ⟨j,hj,hc⟩:=List.getElem_of_mem hu;refine ⟨j,hj,?_⟩;rw [get_at hj,hc];unfold Nt.iF;rw [Nt.dI hk];exact hz
def fT (n:aA) (keep:List Int) (k:Nat) (id:Int):Bool:=!keep.contains id&&(decide (id≠Nt.aH n.o)&&decide (kM (Nt.iF n.o) (Nt.sO n.o) id (Nt.sO n.o).length<=((k+1:Nat):Int)))
def gT (n:aA) (keep:List Int) (k:Nat) (id:Int):Bool:=!keep.contains id&&(decide (id≠Nt.aH n.o)&&!pend (Nt.iF n.o) id ((Nt.sO n.o).drop (k+1)))
def bT (n:aA) (keep:List Int) (p:Nat) (id:Int):Bool:=!keep.contains id || decide ((p:Int)<=iB (Nt.iF n.o) (Nt.sO n.o) id (Nt.sO n.o).length)
def dT (n:aA) (keep:List Int) (p:Nat) (id:Int):Bool:=!keep.contains id || !pend (Nt.iF n.o) id ((Nt.sO n.o).take (p-1))
def start (L:Nat):RtS:=⟨(Zc L false).set 0 true,[]⟩
def lW (n:aA) (keep:List Int):RtS:=lower (Nt.iF n.o) (Nt.sO n.o) (n.o.length+1) n.o.length (Nt.aH n.o) (fT n keep) (bT n keep) (start (n.o.length+1))
def pE (n:aA) (keep:List Int):RtD:=vB (Nt.iF n.o) (Nt.sO n.o) (n.o.length+1) n.o.length (Nt.aH n.o) (gT n keep) (dT n keep) ⟨[],[]⟩
theorem nH {n:aA} (h:Nt.check n=0) (keep:List Int):(lW n keep).code=(pE n keep).code:=by
 obtain ⟨_,_,_,_,hl,_,ha,_⟩:=Nt.aL h;obtain ⟨_,l1,l2⟩:=Nt.dD ha
 have hs:Rel (n.o.length+1) (start (n.o.length+1)) ⟨[],[]⟩:=by
  refine ⟨by simp [start],?_,λz z1 z2=>?_,List.nodup_nil,(λz hz=>by cases hz),rfl⟩
  ·show ((Zc (n.o.length+1) false).set 0 true).getD 0 false=true
   simp
  ·show ((Zc (n.o.length+1) false).set 0 true).getD z.toNat false=_
   rw [gdZ,Zs oZ];have:z.toNat<n.o.length+1:=by omega
   simp [this]
 refine (Rel.lower (fZ h) oZ oZ cB (Kn.go_ok _ _ _).nodup hs rfl ⟨l1,by omega⟩ (λk hk z z1 z2 _=>?_) (iH h) (λp p1 p2 z z1 z2 z3=>?_)).code
 ·unfold fT gT
  rw [qb9]
 ·unfold bT dT
  rw [qbk _ _ _ p1 p2 (qbH h z1 z2 z3)]
end Rt
namespace Rt
section
variable {L:Nat} {I:Int->List Int} {r:Int->Nat}
theorem qdi:∀(m:Nat) (id:Int) (x:RtD),(aI I m id x).code.length+x.there.length=x.code.length+(aI I m id x).there.length
 | 0,_,_=>rfl
 | m+1,id,x=>by
  unfold aI
  split
  ·rfl
  ·have fold:∀(l:List Int) (y:RtD),(l.foldl (λx i=>aI I m i x) y).code.length+y.there.length=y.code.length+(l.foldl (λx i=>aI I m i x) y).there.length:=by
    intro l
    induction l with
    | nil=>intro y;rfl
    | cons i t ih=>
     intro y;have h1:=qdi m i y;have h2:=ih (aI I m i y);simp only [List.foldl_cons];omega
   have:=fold (I id) x;unfold dW;simp only [Ze,List.length_singleton];omega
theorem qcH (m:Nat):∀(l:List Int) (y:RtD),(l.foldl (λx i=>aI I m i x) y).code.length+y.there.length=y.code.length+(l.foldl (λx i=>aI I m i x) y).there.length
 | [],_=>rfl
 | i::t,y=>by
  have h1:=qdi (I:=I) m i y;have h2:=qcH m t (aI I m i y);simp only [List.foldl_cons];omega
theorem qbW {g:Int->Bool}:∀(m:Nat) (x:RtD),x.there.Nodup->(bB g m x).there.Nodup/\(bB g m x).code.length+(bB g m x).there.length=x.code.length+x.there.length
 | 0,_,h=>⟨h,rfl⟩
 | m+1,x,h=>by
  obtain ⟨h1,h2⟩:=qbW (g:=g) m x h;unfold bB
  split
  ·rename_i hc
   rw [Zz] at hc;have ha:(m:Int)+1∈(bB g m x).there:=by simpa using hc.1
   have:=Rf.iK h1 ha;refine ⟨h1.filter _,?_⟩;unfold eP;simp only [Ze,List.length_singleton];omega
  ·exact ⟨h1,h2⟩
theorem Rel.iO {s:RtS} {x:RtD} (h:Rel L s x):x.there.length<=L:=Rf.jH L _ h.nod λz hz=>by have:=h.rng z hz;omega
theorem qC {f:Int->Bool}:∀(m:Nat) (s:RtS),s.code.length<=(aQ f m s).code.length
 | 0,_=>lrZ _
 | m+1,s=>by
  have:=qC (f:=f) m s;unfold aQ
  split
  ·unfold drop;simp only [Ze,List.length_singleton];omega
  ·exact this
theorem qdj:∀(m:Nat) (id:Int) (s:RtS),s.code.length<=(fetch I m id s).code.length
 | 0,_,_=>lrZ _
 | m+1,id,s=>by
  unfold fetch
  split
  ·exact lrZ _
  ·have fold:∀(l:List Int) (y:RtS),y.code.length<=(l.foldl (λs i=>fetch I m i s) y).code.length:=by
    intro l
    induction l with
    | nil=>intro y;exact lrZ _
    | cons i t ih=>intro y;exact Zv (qdj m i y) (ih _)
   have:=fold (I id) s;unfold comp;simp only [Ze,List.length_singleton];omega
theorem qc8 (m:Nat):∀(l:List Int) (y:RtS),y.code.length<=(l.foldl (λs i=>fetch I m i s) y).code.length
 | [],_=>lrZ _
 | i::t,y=>Zv (qdj m i y) (qc8 m t _)
theorem qhv (hO:Ok I r L) {order:List Int} {M N:Nat} {b g:Nat->Int->Bool} {s:RtS} {x:RtD} (hN:N<L) (ho:∀u∈order,1<=u/\u<L) (hs:Rel L s x)
  (hbg:∀p,1<=p->p<=order.length->∀z:Int,1<=z->z<=N->(z∈x.there∨∃u,z∈I u)->b p z=g p z):
  ∀k,k<=order.length->(bwd I order M N b k s).code.length<=s.code.length+k*(2*L+1)
 | 0,_=>by simp [bwd]
 | k+1,hk=>by
  have ih:=qhv (M:=M) hO hN ho hs hbg k oZ;obtain ⟨h1,_⟩:=Rel.bwd (M:=M) hO hN ho hs hbg k oZ;obtain ⟨h9,_⟩:=Rel.bwd (M:=M) hO hN ho hs hbg (k+1) hk;have ha:order.length-1-k<order.length:=by omega
  have e:order.getD (order.length-1-k) 0=order[order.length-1-k]:=by rw [gdZ,geZ ha];rfl
  have hu:=ho _ (gmZ ha);rw [h9.code];rw [h1.code] at ih;unfold qfS;rw [e];generalize order[order.length-1-k]=u at *;have hf:=(Rel.mQ hO M (I u) h1 (λi hi=>hO.rng u hu.1 hu.2 i hi)).add 6 u;have c1:=qcH (I:=I) M (I u) (qfS I order M N g k x);have c2:=(qbW (g:=g (order.length-k)) N _ hf.nod).2;have c3:=hf.iO;have c4:(dN 6 u ((I u).foldl (λx i=>aI I M i x) (qfS I order M N g k x))).code.length=((I u).foldl (λx i=>aI I M i x) (qfS I order M N g k x)).code.length+1:=by unfold dN;simp
  have c5:(dN 6 u ((I u).foldl (λx i=>aI I M i x) (qfS I order M N g k x))).there=((I u).foldl (λx i=>aI I M i x) (qfS I order M N g k x)).there:=rfl;rw [c5] at c3 c2;have hm:(k+1)*(2*L+1)=k*(2*L+1)+(2*L+1):=by rw [Nat.add_mul];omega
  omega
theorem jW {order:List Int} {N:Nat} {f g:Nat->Int->Bool} {s:RtS} {x:RtD} (hN:N<L) (ho:∀u∈order,1<=u/\u<L) (hn:order.Nodup) (hs:Rel L s x) (hx:x.there=[]) (hL:L<=N+1)
  (hfg:∀k,k<order.length->∀z:Int,1<=z->z<=N->z∈order.take (k+1)->f k z=g k z):
  ∀k,k<=order.length->(fwd order N f k s).code.length<=s.code.length+k*(L+2)
 | 0,_=>by simp [fwd]
 | k+1,hk=>by
  have ih:=jW hN ho hn hs hx hL hfg k oZ;obtain ⟨h1,h2⟩:=Rel.fwd hN ho hn hs hx hL hfg k oZ;obtain ⟨h9,_⟩:=Rel.fwd hN ho hn hs hx hL hfg (k+1) hk;have ha:k<order.length:=by omega
  have e:order.getD k 0=order[k]:=by rw [gdZ,geZ ha];rfl
  have hu:=ho _ (gmZ ha);have ht:=Zb ha;rw [h9.code];rw [h1.code] at ih;unfold qhs;rw [e]
  have hc:=h1.comp 1 hu.1 hu.2 (λq=>by
   have q2:=h2 _ q;have hb:=hn.sublist (List.take_sublist (k+1) order);rw [ht,List.nodup_append] at hb;exact hb.2.2 _ q2 _ sZ rfl)
  have c2:=(qbW (g:=g k) N _ hc.nod).2;have c3:=hc.iO;have c4:(dW 1 order[k] (qhs order N g k x)).code.length=(qhs order N g k x).code.length+1:=by unfold dW;simp
  have hm:(k+1)*(L+2)=k*(L+2)+(L+2):=by rw [Nat.add_mul];omega
  omega
end
end Rt
namespace Rt
theorem iG (n:aA):Rel (n.o.length+1) (start (n.o.length+1)) ⟨[],[]⟩:=by
 refine ⟨by simp [start],?_,λz z1 z2=>?_,List.nodup_nil,(λz hz=>by cases hz),rfl⟩
 ·show ((Zc (n.o.length+1) false).set 0 true).getD 0 false=true
  simp
 ·show ((Zc (n.o.length+1) false).set 0 true).getD z.toNat false=_
  rw [gdZ,Zs oZ];have:z.toNat<n.o.length+1:=by omega
  simp [this]
def fA (n:aA) (keep:List Int) (k:Nat):RtS:=fwd (Nt.sO n.o) n.o.length (fT n keep) k (start (n.o.length+1))
def kD (n:aA) (keep:List Int):RtS:=add 5 0 (drop (Nt.aH n.o) (add 4 0 (fA n keep (Nt.sO n.o).length)))
def eF (n:aA) (keep:List Int) (k:Nat):RtS:=bwd (Nt.iF n.o) (Nt.sO n.o) (n.o.length+1) n.o.length (bT n keep) k (kD n keep)
theorem jK (n:aA) (keep:List Int):lW n keep=eF n keep (Nt.sO n.o).length:=rfl
theorem mY {n:aA} (h:Nt.check n=0) (keep:List Int) (k:Nat) (hk:k<=(Nt.sO n.o).length):(fA n keep k).code.length<=k*(n.o.length+3):=by
 have:=jW (L:=n.o.length+1) (N:=n.o.length) (f:=fT n keep) (g:=gT n keep) oZ cB (Kn.go_ok (Nt.iF n.o) n.o.length n.o.length).nodup (iG n) rfl oZ (λk hk z z1 z2 _=>by unfold fT gT;rw [qb9]) k hk;have e:(start (n.o.length+1)).code.length=0:=rfl;have e2:n.o.length+1+2=n.o.length+3:=by omega
 rw [e,e2,Zw] at this;exact this
theorem mW {n:aA} (h:Nt.check n=0) (keep:List Int):(kD n keep).code.length<=n.o.length*(n.o.length+3)+3:=by
 obtain ⟨_,_,_,_,hl,_⟩:=Nt.aL h;have:=mY h keep _ (lrZ _);rw [hl] at this;have e:(kD n keep).code.length=(fA n keep (Nt.sO n.o).length).code.length+3:=by unfold kD add drop;simp
 rw [e,hl];omega
theorem sS {n:aA} (h:Nt.check n=0) (keep:List Int) (k:Nat) (hk:k<=(Nt.sO n.o).length):(eF n keep k).code.length<=n.o.length*(n.o.length+3)+3+k*(2*n.o.length+3):=by
 obtain ⟨_,_,_,_,hl,_,ha,_⟩:=Nt.aL h;obtain ⟨_,l1,l2⟩:=Nt.dD ha;obtain ⟨h1,_⟩:=Rel.fwd (L:=n.o.length+1) (N:=n.o.length) (f:=fT n keep) (g:=gT n keep) oZ cB (Kn.go_ok (Nt.iF n.o) n.o.length n.o.length).nodup (iG n) rfl oZ (λk hk z z1 z2 _=>by unfold fT gT;rw [qb9]) _ (lrZ _);have h2:=(((h1.add 4 0).drop (id:=Nt.aH n.o) l1 oZ).add 5 0)
 have:=qhv (fZ h) (M:=n.o.length+1) (N:=n.o.length) (b:=bT n keep) (g:=dT n keep) oZ cB h2 (λp p1 p2 z z1 z2 hz=>by
  unfold bT dT
  rw [qbk _ _ _ p1 p2 (qbH h z1 z2 (λe=>by
   subst e;rcases hz with hz|⟨u,hu⟩
   ·have:=(List.mem_filter.1 hz).2;simp at this
   ·exact iH h u hu))]) k hk
 have hm:=mW h keep;have e:2*(n.o.length+1)+1=2*n.o.length+3:=by omega
 rw [e] at this;exact Zv this (Nat.add_le_add_right hm _)
theorem iM {n:aA} (h:Nt.check n=0) (h12:n.o.length<=12) (keep:List Int) (k:Nat) (hk:k<=(Nt.sO n.o).length):(eF n keep k).code.length<=1000:=by
 have h1:=sS h keep k hk;obtain ⟨_,_,_,_,hl,_⟩:=Nt.aL h;rw [hl] at hk;have h2:n.o.length*(n.o.length+3)<=12*15:=Nat.mul_le_mul h12 oZ;have h3:k*(2*n.o.length+3)<=12*27:=Nat.mul_le_mul oZ oZ;omega
end Rt
namespace Rt
def bV (n:aA) (k:Nat) (l:List Int):List Int:=(Nt.nums n.o.length).map λu=>if l.contains u then (((Nt.sO n.o).length-k:Nat):Int) else iB (Nt.iF n.o) (Nt.sO n.o) u k
theorem firstMid_len (n:aA) (k:Nat) (l:List Int):(bV n k l).length=n.o.length+1:=by simp [bV,Nt.nums]
theorem firstMid_zero (n:aA):bV n 0 []=Zc (n.o.length+1) 0:=by
 unfold bV;rw [List.eq_replicate_iff];refine ⟨by simp [Nt.nums],λb hb=>?_⟩;obtain ⟨x,_,rfl⟩:=List.mem_map.1 hb;simp [iB]
theorem firstMid_next (n:aA) {k:Nat}:bV n k (Nt.iF n.o ((Nt.sO n.o).getD ((Nt.sO n.o).length-1-k) 0))=bV n (k+1) []:=by
 unfold bV;apply List.map_congr_left;intro u _;simp [iB]
theorem firstMid_in (n:aA) (k:Nat) (l:List Int) {id:Int} (h0:0<=id) (h1:id<=n.o.length):bV n k (l++[id])=(bV n k l).set id.toNat (((Nt.sO n.o).length-k:Nat):Int):=by
 apply List.ext_getElem?;intro j;rw [List.getElem?_set];unfold bV Nt.nums;simp only [List.map_map,List.getElem?_map,List.length_map,List.length_range]
 by_cases hj:j<n.o.length+1
 ·rw [List.getElem?_range hj]
  by_cases e:id.toNat=j
  ·subst e
   have:((id.toNat:Nat):Int)=id:=by omega
   simp [hj,this]
  ·have e2:(j:Int)≠id:=by omega
   simp [e,e2]
 ·rw [Zi soZ]
  simp;intro q;omega
theorem firstMid_at (n:aA) (k:Nat) {u:Nat} (hu:u<=n.o.length):(bV n k [])[u]? = some (iB (Nt.iF n.o) (Nt.sO n.o) u k):=by
 unfold bV Nt.nums;simp [show u<n.o.length+1 by omega]
theorem eD {I:Int->List Int} (m:Nat) (id:Int) (s:RtS):fetch I (m+1) id s=if Ck.at_ s.aG id then s else comp 2 id ((I id).foldl (λs i=>fetch I m i s) s):=rfl
theorem rF {I:Int->List Int} {m:Nat} {l:List Int} {k:Nat} (hk:k<l.length) (s:RtS):(l.take (k+1)).foldl (λs i=>fetch I m i s) s=fetch I m l[k] ((l.take k).foldl (λs i=>fetch I m i s) s):=by
 rw [Zb hk,List.foldl_append]
 rfl
theorem qaG (f:Int->Bool) (m:Nat) (s:RtS):aQ f (m+1) s=if Ck.at_ (aQ f m s).aG ((m:Int)+1)&&f ((m:Int)+1) then drop ((m:Int)+1) (aQ f m s) else aQ f m s:=rfl
theorem qbl (f:Int->Bool):∀(m:Nat) (s:RtS),(aQ f m s).aG.length=s.aG.length
 | 0,_=>rfl
 | m+1,s=>by
  have:=qbl f m s;unfold aQ
  split
  ·show (Ck.bO _ _ false).length=_
   unfold Ck.bO;rw [List.length_set];exact this
  ·exact this
end Rt
def Later (w w':Zp1):Prop:=Below w.heap.size w w'
section
variable {w w1 w2:Zp1}
theorem Later.refl (w:Zp1):Later w w:=Ze1 _ _
theorem Later.alloc (h:Later w w1) (o:Obj):Later w (w1.alloc o):=Below.alloc h h.size o
theorem Later.drew (h:Later w w1):Later w w1.drew:=Below.drew h
theorem Later.drewN (h:Later w w1) (n:Nat):Later w (w1.drewN n):=qac h n
theorem Later.call (h:Later w w1) (k:Below w1.heap.size w1 w2):Later w w2:=Below.trans h (k.mono h.size)
theorem Later.trans (h:Later w w1) (k:Later w1 w2):Later w w2:=h.call k
theorem Later.set (h:Later w w1) {p:Addr} (hp:w.heap.size<=p.block) (u:Value):Later w (w1.setCell p u):=Below.setCell h hp u
theorem Later.cell {p:Addr} {v:Value} (h:Later w w1) (hc:w.cell? p=some v):w1.cell? p=some v:=(Below.cell h (Zj1 _ _ hc)).trans hc
theorem Later.blk {g:Nat} {t:TypeId} {cs:Array Value} (h:Later w w1) (hb:Blk w g t cs):Blk w1 g t cs:=hb.below h hb.lt
theorem Later.below {B:Nat} {w0:Zp1} (h:Later w w1) (hb:Below B w0 w) (hB:B<=w.heap.size):Below B w0 w1:=hb.trans (Below.mono h hB)
end
theorem qbm (A A':Option Addr) (c c':Nat) (xs ys:List Int) (w:Zp1) (hl:xs.length<=9223372036854775807) (hl':ys.length<=9223372036854775807) (hI:Ints iQ w A xs) (hI':Ints iQ w A' ys):
  Calls prog 14 #[sQ A xs.length c,sQ A' ys.length c'] w λe w'=>e=.returned (.bool (decide (xs=ys)))/\∃q,w'=w.drewN q:=by
 by_cases ha:xs.length=ys.length
 ·have hb:ys.length=xs.length:=ha.symm
  rw [hb];have HI:=zI hI;have ho:=zI hI';obtain ⟨he,hn⟩:=zd2 ha hb;clear hI hI' ha hb;go_in;go_wp2_with fail
  go_loopw [5] (λi wr=>∃k q:Nat,k<=xs.length/\i=nQ iQ k/\xs.take k=ys.take k/\wr=w.drewN q) (λi _=>xs.length-(intOf i).toNat)
  case atStart=>exact ⟨0,0,Zt _,rfl,rfl,rfl⟩
  case round=>
   obtain ⟨k,q,hk,rfl,hg,rfl⟩:=hrel
   by_cases hm:k<xs.length
   ·have hf:k<ys.length:=by have:=he.out;omega
    obtain ⟨b,off,rfl,-,hc⟩:=HI.out k hm;obtain ⟨b',off',rfl,-,hp⟩:=ho.out k hf;rw [qa2 hm] at hc;rw [qa2 hf] at hp;have hd:w.drewN q=w.drewN q:=rfl;have k0:(0:Int)<=(k:Int):=by omega
    have k1:(k:Int)<(xs.length:Int):=by omega
    have hj:xs[k]=ys[k]->xs.take (k+1)=ys.take (k+1):=λe=>by rw [Zb hm,Zb hf,hg,e]
    have hi:xs[k]≠ys[k]->decide (xs=ys)=false:=λe=>by simp;intro h;subst h;exact e rfl
    generalize xs[k]=x at *;generalize ys[k]=y at *
    by_cases hh:x=y
    ·have e1:(x != y)=false:=by simp [hh]
     have HX:=zI (hj hh);clear hj hi hg hh hd;go_wp2_with fail
     go_quiet (fail)
     go_wp2_with fail;go_roundw
     case rel=>exact ⟨k+1,_,by omega,by go_num,HX.out,by first|rfl|exact World.drewN_drewN _ _ _⟩
     case measure=>simp [intOf];omega
    ·have e1:(x != y)=true:=by simp [hh]
     have HX:=zI (hi hh);clear hj hi hg hh hd;go_wp2_with fail
     go_quiet (fail)
     go_wp2_with fail;go_ret;exact ⟨by rw [HX.out];rfl,_,by first|rfl|exact World.drewN_drewN _ _ _⟩
   ·obtain rfl:k=xs.length:=by omega
    have HX:=zI (show decide (xs=ys)=true by
     rw [Zg] at hg;rw [hg,he.out,Zg];simp)
    clear hg;go_wp2_with fail;go_ret;exact ⟨by rw [HX.out];rfl,_,rfl⟩
 ·have HX:=zI (show decide (xs=ys)=false by simp;intro h;exact ha (by rw [h]))
  have e1:((xs.length:Int) != (ys.length:Int))=true:=by rw [bne_iff_ne];omega
  have e2:(xs.length != ys.length)=true:=by rw [bne_iff_ne];omega
  have HI:=zI hI;have ho:=zI hI';have he:=zI ha;clear hI hI' ha;go_in;go_wp2_with fail;go_ret;exact ⟨by rw [HX.out];rfl,0,rfl⟩
theorem qej (l:List Int) (x:Int):Safe.prod (l++[x])=Safe.prod l*x:=by
 induction l with
 | nil=>simp [Safe.prod]
 | cons a r ih=>simp only [List.cons_append,Safe.prod,ih];rw [Int.mul_assoc]
theorem qek {l:List Int} (h:∀x∈l,1<=x):1<=Safe.prod l:=by
 induction l with
 | nil=>simp [Safe.prod]
 | cons a r ih=>
  have h1:=h a sZ;have h2:=ih λx hx=>h x (by simp [hx])
  simp only [Safe.prod];have:=Int.mul_pos (show 0<a by omega) (show 0<Safe.prod r by omega);omega
theorem qal (A:Option Addr) (c:Nat) (zs:List Int) (w:Zp1) (hr:Sh.right zs=true) (hI:Ints iQ w A zs):
  Calls prog 34 #[sQ A zs.length c] w λe w'=>e=.returned (nQ iQ (Safe.prod zs))/\w=w':=by
 obtain ⟨-,h1,h2,h3,h4,h5⟩:=Sh.aT hr
 have hp:∀k,1<=Safe.prod (zs.take k)/\Safe.prod (zs.take k)<=1099511627776:=λk=>by
  refine ⟨?_,Sh.rR (λx hx=>h3 x (Zh hx)) soZ⟩;exact qek λx hx=>(h3 x (Zh hx)).1
 obtain ⟨HI,Hr,Hp,H3⟩:=zd4 hI hr hp h3;clear hI hr hp h3;go_in;go_wp2_with fail
 go_loop [3,4] (λt i=>∃k:Nat,k<=zs.length/\i=nQ iQ k/\t=nQ iQ (Safe.prod (zs.take k))) (λ_ i=>zs.length-(intOf i).toNat)
 case atStart=>exact ⟨0,Zt _,rfl,rfl⟩
 case round=>
  obtain ⟨k,hk,rfl,rfl⟩:=hrel
  by_cases ha:k<zs.length
  ·obtain ⟨b,off,rfl,-,hc⟩:=HI.out k ha
   rw [qa2 ha] at hc;have hq:=Hp.out (k+1);have hs:Safe.prod (zs.take (k+1))=Safe.prod (zs.take k)*zs[k]:=by rw [Zb ha,qej]
   rw [hs] at hq;generalize Safe.prod (zs.take k)=p at *;generalize zs[k]=z at *;obtain ⟨q1,q2⟩:=hq;have hw:iQ.wrap (p*z)=p*z:=Zc1 _ oZ;have Hs:=zI hs;clear hs;go_wp2_with fail
   go_round
   case rel=>exact ⟨k+1,by omega,by go_num,by rw [Hs.out]⟩
   case measure=>simp [intOf];omega
  ·obtain rfl:k=zs.length:=by omega
   rw [Zg];go_wp2_with fail;go_ret;exact ⟨rfl,rfl⟩
theorem qaO (A:Option Addr) (c:Nat) (zs:List Int) (w:Zp1) (hl:zs.length<=9223372036854775807) (hI:Ints iQ w A zs):
  Calls prog 29 #[sQ A zs.length c] w λe w'=>e=.returned (.bool (Sh.right zs))/\w=w':=by
 by_cases hd:1<=zs.length/\zs.length<=4
 ·obtain ⟨l1,l2⟩:=hd
  have d1:decide ((zs.length:Int)<1)=false:=by simp;omega
  have d2:decide ((4:Int)<(zs.length:Int))=false:=by simp;omega
  have HI:=zI hI;clear hI;go_in;go_wp2_with fail
  go_loop [3,4] (λt i=>∃k:Nat,k<=zs.length/\i=nQ iQ k/\(zs.take k).all Sh.side=true/\t=nQ iQ (Safe.prod (zs.take k))) (λ_ i=>zs.length-(intOf i).toNat)
  case atStart=>exact ⟨0,Zt _,rfl,rfl,rfl⟩
  case round=>
   obtain ⟨k,hk,rfl,ha,rfl⟩:=hrel
   by_cases hf:k<zs.length
   ·obtain ⟨b,off,rfl,-,hc⟩:=HI.out k hf
    rw [qa2 hf] at hc;have hs:Safe.prod (zs.take (k+1))=Safe.prod (zs.take k)*zs[k]:=by rw [Zb hf,qej]
    by_cases hz:1<=zs[k]/\zs[k]<=1024
    ·have hb:(zs.take (k+1)).all Sh.side=true:=by
      rw [Zb hf,List.all_append,ha];simp [Sh.side,hz]
     have hg:∀x∈zs.take (k+1),1<=x/\x<=1024:=Sh.oI hb;have hq:Safe.prod (zs.take (k+1))<=1099511627776:=Sh.rR hg soZ
     have hn:1<=Safe.prod (zs.take (k+1)):=by
      exact qek λx hx=>(hg x hx).1
     rw [hs] at hq hn;generalize Safe.prod (zs.take k)=p at *;generalize zs[k]=z at *;have hw:iQ.wrap (p*z)=p*z:=Zc1 _ oZ;have e1:decide (z<1)=false:=by simp;omega
     have e2:decide (1024<z)=false:=by simp;omega
     clear hz ha hg;obtain ⟨Hs,he⟩:=zd2 hs hb;clear hs hb;go_wp2_with fail
     go_round
     case rel=>exact ⟨k+1,by omega,by go_num,he.out,by rw [Hs.out]⟩
     case measure=>simp [intOf];omega
    ·have hh:Sh.right zs=false:=Sh.lY (by
      rw [List.all_eq_false];exact ⟨zs[k],gmZ hf,by rw [Sh.bA];exact hz⟩)
     generalize zs[k]=z at *;obtain ⟨hi,hm,Hs⟩:=zd3 hh ha hs;clear hh ha hs
     by_cases hj:z<1
     ·have e1:decide (z<1)=true:=by simpa using hj
      clear hz;go_wp2_with fail;go_ret;exact ⟨by rw [hi.out];rfl,rfl⟩
     ·have e1:decide (z<1)=false:=by simpa using hj
      have e2:decide (1024<z)=true:=by simp;omega
      clear hz;go_wp2_with fail;go_ret;exact ⟨by rw [hi.out];rfl,rfl⟩
   ·obtain rfl:k=zs.length:=by omega
    rw [Zg] at ha ⊢;have HR:=zI (Sh.qA ⟨l1,l2⟩ ha);clear ha;go_wp2_with fail;go_ret;exact ⟨by rw [HR.out];rfl,rfl⟩
 ·have HR:=zI (Sh.nN hd)
  have HI:=zI hI;clear hI
  by_cases h1:zs.length<1
  ·have d1:decide ((zs.length:Int)<1)=true:=by simp;omega
   clear hd;go_in;go_wp2_with fail;go_ret;exact ⟨by rw [HR.out];rfl,rfl⟩
  ·have d1:decide ((zs.length:Int)<1)=false:=by simp;omega
   have d2:decide ((4:Int)<(zs.length:Int))=true:=by simp;omega
   clear hd;go_in;go_wp2_with fail;go_ret;exact ⟨by rw [HR.out];rfl,rfl⟩
theorem qhw (k:Int) (w:Zp1):Calls prog 103 #[nQ iQ k] w λe w'=>e=.returned (nQ iQ (Od.fC k))/\w=w':=by
 by_cases h1:1<=k/\k<=5
 ·have HX:=zI (show Od.fC k=1 by unfold Od.fC;rw [ipZ h1])
  obtain ⟨a,b⟩:=h1;go_in;go_wp2_with fail;go_ret;exact ⟨by rw [HX.out];rfl,rfl⟩
 ·by_cases h2:k=6∨k=7
  ·have HX:=zI (show Od.fC k=2 by unfold Od.fC;rw [inZ h1,ipZ h2])
   clear h1;rcases h2 with rfl|rfl
   all_goals
    go_in;go_wp2_with fail;go_ret;exact ⟨by rw [HX.out];rfl,rfl⟩
  ·have HX:=zI (show Od.fC k=0 by unfold Od.fC;rw [inZ h1,inZ h2])
   have e6:(k==6)=false:=by simp;omega
   have e7:(k==7)=false:=by simp;omega
   by_cases h3:1<=k
   ·have d2:decide (k<=5)=false:=by simp;omega
    clear h1 h2;go_in;go_wp2_with fail;go_ret;exact ⟨by rw [HX.out];rfl,rfl⟩
   ·have d2:decide (1<=k)=false:=by simp;omega
    clear h1 h2;go_in;go_wp2_with fail;go_ret;exact ⟨by rw [HX.out];rfl,rfl⟩
def qbq (k:Int):Int × Int:=if 1<=k/\k<=7 then (Od.fC k,Od.fC k) else if k=13 then (1,8) else if 8<=k/\k<=15 then (1,1) else (0,0)
theorem qel {o:OpD} (h:Od.right o=true):qbq o.kind=(Od.least o,Od.most o):=by
 have hk:=Od.fO h;unfold qbq Od.least Od.most;rw [ipZ h,ipZ h]
 by_cases h7:o.kind<=7
 ·rw [ipZ ⟨hk.1,h7⟩,ipZ h7,ipZ h7]
 ·rw [inZ oZ,inZ h7,inZ h7]
  by_cases ha:o.kind=13
  ·rw [ipZ ha,ipZ ha]
  ·rw [inZ ha,inZ ha,ipZ oZ]
def qem (k:Int):Int:=if k=8 then 2 else if k=9∨k=10 then 1 else 0
theorem qen {o:OpD} (h:Od.right o=true):qem o.kind=Od.params o:=by unfold qem Od.params;rw [ipZ h]
theorem qhx (k:Int) (w:Zp1) (hk:1<=k/\k<=15):Calls prog 69 #[nQ iQ k] w λe w'=>e=.returned (.tuple #[nQ iQ (qbq k).1,nQ iQ (qbq k).2])/\w=w':=by
 by_cases h1:k<=7
 ·have HX:=zI (show qbq k=(Od.fC k,Od.fC k) by unfold qbq;rw [ipZ ⟨hk.1,h1⟩])
  obtain ⟨a,b⟩:=hk;go_in;go_wp2_with fail;refine (qhw k _).mono ?_;rintro e w1 ⟨rfl,rfl⟩;go_wp2_with fail
  go_ret2
  exact ⟨by rw [HX.out];rfl,rfl⟩
 ·have d7:decide (k<=7)=false:=by simp;omega
  by_cases ha:k=13
  ·have HX:=zI (show qbq k=(1,8) by unfold qbq;rw [inZ oZ,ipZ ha])
   subst ha;clear hk;go_in;go_wp2_with fail
   go_ret2
   exact ⟨by rw [HX.out];rfl,rfl⟩
  ·have HX:=zI (show qbq k=(1,1) by unfold qbq;rw [inZ oZ,inZ ha,ipZ oZ])
   have e13:(k==13)=false:=by simp;omega
   have g8:8<=k:=by omega
   obtain ⟨a,b⟩:=hk;clear ha;go_in;go_wp2_with fail
   go_ret2
   exact ⟨by rw [HX.out];rfl,rfl⟩
theorem qeo (k:Int) (w:Zp1):Calls prog 70 #[nQ iQ k] w λe w'=>e=.returned (nQ iQ (qem k))/\w=w':=by
 by_cases h8:k=8
 ·subst h8
  go_in;go_wp2_with fail;go_ret;exact ⟨rfl,rfl⟩
 ·by_cases h9:k=9
  ·subst h9
   clear h8;go_in;go_wp2_with fail;go_ret;exact ⟨rfl,rfl⟩
  ·by_cases ha:k=10
   ·subst ha
    clear h8 h9;go_in;go_wp2_with fail;go_ret;exact ⟨rfl,rfl⟩
   ·have HX:=zI (show qem k=0 by unfold qem;rw [inZ h8,inZ oZ])
    have e8:(k==8)=false:=by simp;omega
    have e9:(k==9)=false:=by simp;omega
    have e10:(k==10)=false:=by simp;omega
    clear h8 h9 ha;go_in;go_wp2_with fail;go_ret;exact ⟨by rw [HX.out];rfl,rfl⟩
theorem qep {side width step:Int} (h1:1<=step) (h2:width<=side) (h3:1<=width) (h4:side<=1024) {k:Int} (hk:0<=k) (hw:(k-1)*step+width<=side) (hs:¬k*step+width<=side):k=1+(side-width).tdiv step:=by
 rw [Int.tdiv_eq_ediv_of_nonneg oZ];have e1:(k-1)*step<=side-width:=by omega
 have e2:side-width<k*step:=by omega
 have h5:=Int.le_ediv_of_mul_le (show 0<step by omega) e1;have h6:=Int.ediv_lt_of_lt_mul (show 0<step by omega) e2;omega
theorem qc9 (side width step:Int) (w:Zp1):Calls prog 104 #[nQ iQ side,nQ iQ width,nQ iQ step] w λe w'=>e=.returned (nQ iQ (Od.window side width step).1)/\w=w':=by
 by_cases h1:1<=side/\side<=1024/\1<=width/\width<=1024/\1<=step/\step<=1024/\width<=side
 ·have HX:=zI (show (Od.window side width step).1=1+(side-width).tdiv step by
   unfold Od.window;rw [ipZ (by simp only [Sh.bA];omega)])
  obtain ⟨a1,a2,a3,a4,a5,a6,a7⟩:=h1;have c1:decide (side<1)=false:=by simp;omega
  have c2:decide (width<1)=false:=by simp;omega
  have c3:decide (step<1)=false:=by simp;omega
  have c4:decide (1024<side)=false:=by simp;omega
  have c5:decide (1024<width)=false:=by simp;omega
  have c6:decide (1024<step)=false:=by simp;omega
  have c7:decide (side<width)=false:=by simp;omega
  go_in;go_wp2_with fail
  go_loop [7,8] (λt i=>∃k:Int,0<=k/\i=nQ iQ (k*step)/\t=nQ iQ k/\(k-1)*step+width<=side) (λ_ i=>(side+1-intOf i).toNat)
  case atStart=>exact ⟨0,by omega,by rw [Int.zero_mul],rfl,by rw [Int.zero_sub,Int.neg_mul,Int.one_mul];omega⟩
  case round=>
   obtain ⟨k,hk,rfl,rfl,he⟩:=hrel;have b1:(k-1)*step=k*step-step:=by rw [Int.sub_mul,Int.one_mul]
   have b0:0<=k*step:=Int.mul_nonneg hk oZ
   have b3:k<=k*step+1:=by
    have:=Int.mul_le_mul_of_nonneg_left (show 1<=step from a5) hk;omega
   have b2:(k+1)*step=k*step+step:=by rw [Int.add_mul,Int.one_mul]
   have hb:=@qep side width step a5 a7 a3 a2 k hk he;rw [b1] at he;have ha:k*step+width<=side->(k+1-1)*step+width<=side:=λh=>by rw [Int.add_sub_cancel];exact h
   generalize k*step=m at *
   by_cases hc:m+width<=side
   ·have HL:=zI (ha hc)
    obtain ⟨hh,hf,hg,hd⟩:=zd4 b1 b2 hb ha;clear b1 b2 hb ha;go_wp2_with fail
    go_round
    case rel=>exact ⟨k+1,by omega,by rw [hf.out],rfl,HL.out⟩
    case measure=>simp [intOf];omega
   ·have HK:=zI (hb hc)
    obtain ⟨hh,hf,hg,hd⟩:=zd4 b1 b2 hb ha;clear b1 b2 hb ha;go_wp2_with fail;go_ret;exact ⟨by rw [HX.out,←HK.out];rfl,rfl⟩
 ·have HX:=zI (show (Od.window side width step).1=0 by
   unfold Od.window;rw [inZ (by simp only [Sh.bA];omega)])
  by_cases c1:side<1
  ·have d1:decide (side<1)=true:=by simpa using c1
   clear h1;go_in;go_wp2_with fail;go_ret;exact ⟨by rw [HX.out];rfl,rfl⟩
  ·have d1:decide (side<1)=false:=by simpa using c1
   by_cases c2:width<1
   ·have d2:decide (width<1)=true:=by simpa using c2
    clear h1;go_in;go_wp2_with fail;go_ret;exact ⟨by rw [HX.out];rfl,rfl⟩
   ·have d2:decide (width<1)=false:=by simpa using c2
    by_cases c3:step<1
    ·have d3:decide (step<1)=true:=by simpa using c3
     clear h1;go_in;go_wp2_with fail;go_ret;exact ⟨by rw [HX.out];rfl,rfl⟩
    ·have d3:decide (step<1)=false:=by simpa using c3
     by_cases c4:1024<side
     ·have d4:decide (1024<side)=true:=by simpa using c4
      clear h1;go_in;go_wp2_with fail;go_ret;exact ⟨by rw [HX.out];rfl,rfl⟩
     ·have d4:decide (1024<side)=false:=by simpa using c4
      by_cases c5:1024<width
      ·have d5:decide (1024<width)=true:=by simpa using c5
       clear h1;go_in;go_wp2_with fail;go_ret;exact ⟨by rw [HX.out];rfl,rfl⟩
      ·have d5:decide (1024<width)=false:=by simpa using c5
       by_cases c6:1024<step
       ·have d6:decide (1024<step)=true:=by simpa using c6
        clear h1;go_in;go_wp2_with fail;go_ret;exact ⟨by rw [HX.out];rfl,rfl⟩
       ·have d6:decide (1024<step)=false:=by simpa using c6
        have d7:decide (side<width)=true:=by simp;omega
        clear h1;go_in;go_wp2_with fail;go_ret;exact ⟨by rw [HX.out];rfl,rfl⟩
theorem Sh.jJ {s:List Int} (h:Sh.right s=true):Sh.size s=(Safe.prod s,0):=by simp [Sh.size,h]
theorem Sh.oJ {s:List Int} (h:Sh.right s=true):1<=Safe.prod s/\Safe.prod s<=65536:=Od.iX h
theorem qfV {w:Zp1} {t:TypeId} (a b:Int):Ints iQ (w.alloc (.cells #[nQ iQ a,nQ iQ b] t)) (some ⟨w.heap.size,0,none⟩) [a,b]:=Ints.dV λj hj=>by
 have hk:=Blk.new w t #[nQ iQ a,nQ iQ b];have ha:j=0∨j=1:=by simp at hj;omega
 rcases ha with rfl|rfl<;>(rw [hk.cell];rfl)
theorem op_cost (o:OpD) (S P X:Option Addr) (c d f:Nat) (p x:List (List Int)) (w:Zp1) (ho:o.s.length<=17592186043904) (hI:Ints iQ w S o.s) (hP:kK w P d p) (hX:kK w X f x):
  Calls prog 43 #[.agg #[nQ iQ o.kind,nQ iQ o.k,nQ iQ o.width,nQ iQ o.step,nQ iQ o.side,nQ iQ o.frm,nQ iQ o.to,sQ S o.s.length c],sQ P p.length d,sQ X x.length f] w λe w'=>e=.returned (.tuple #[nQ iQ (Od.cost o p x).1,nQ iQ (Od.cost o p x).2])/\Below w.heap.size w w':=by
 have hT:=Blk.new w 74 #[nQ iQ o.kind,nQ iQ o.k,nQ iQ o.width,nQ iQ o.step,nQ iQ o.side,nQ iQ o.frm,nQ iQ o.to,sQ S o.s.length c];have h0:Later w (w.alloc (.cells #[nQ iQ o.kind,nQ iQ o.k,nQ iQ o.width,nQ iQ o.step,nQ iQ o.side,nQ iQ o.frm,nQ iQ o.to,sQ S o.s.length c] 74)):=(Later.refl w).alloc _;obtain ⟨HI,HP,HX,h4,hC⟩:=zd5 hI hP hX hT h0;clear hI hP hX hT h0;go_in;go_wp2_with fail;generalize w.alloc (.cells #[nQ iQ o.kind,nQ iQ o.k,nQ iQ o.width,nQ iQ o.step,nQ iQ o.side,nQ iQ o.frm,nQ iQ o.to,sQ S o.s.length c] 74)=w1 at *;refine (qfQ o S P X c d f p x w1 ho (HI.out.below hC.out (lrZ _)) (HP.out.below hC.out (lrZ _)) (HX.out.below hC.out (lrZ _))).mono ?_;rintro e w2 ⟨S2,d2,rfl,hB,Hb,Ha,-,hJ⟩;have hh:=hC.out.call hJ;have hz:=(show Later w1 w2 from hJ).blk h4.out;have hb:=λh=>@Od.lN o p x h
 have hm:=λh=>@Od.aV o p x h
 have hG:=λh=>(@Od.jP o p x h).2.2.2.1
 have hn:Od.cost o p x=if (Od.shape o p x).2=0 then (Od.dK o p (Od.shape o p x).1,0) else (0,(Od.shape o p x).2):=rfl
 clear hJ;generalize Od.shape o p x=r at *
 by_cases hr:r.2=0
 ·have hy:=hm hr
  obtain ⟨g8,g10,g11⟩:=hb hr;have hu:=hG hr;rw [ipZ hr] at hn;have hs:=Sh.oJ hy;have hS:=Sh.jJ hy;have h1:=(Sh.aT hy).2.1;clear hb hm hG;obtain ⟨hY,hD,hU,h9,h6,hQ,hN,hq,he⟩:=zd9 hB hh hz hy g8 g10 g11 hu hn;have h3:=zI hS;clear hB hh hz hy g8 g10 g11 hu hn hS;have q0:(r.2 != 0)=false:=by simp [hr]
  clear hr;go_wp2_with fail;refine (qaj S2 d2 r.1 _ oZ hY.out).mono ?_;rintro e w3 ⟨rfl,hH⟩;rw [h3.out];have hg:=hD.out.call hH;have hf:=(show Later w2 w3 from hH).blk hU.out;obtain ⟨y0,-,y2,-,-,-,-,-⟩:=qam hf;have hd:=HP.out.below hg (lrZ _);clear hH
  by_cases k8:o.kind=8
  ·have hv:Od.dK o p r.1=Safe.prod (p.getD 0 []):=by unfold Od.dK;rw [ipZ k8]
   have hl:=h6.out k8;obtain ⟨b,off,S5,d5,rfl,y5,ht,-,-,l5⟩:=hd.at_ hl;have e0:p.getD 0 []=p[0]:=by simp [hl]
   have hc:=Sh.jJ (hq.out p[0] (gmZ hl));rw [e0] at hv;rw [hv] at he;rw [Zx] at y5;rw [k8] at y0;generalize p[0]=t at *;obtain ⟨hi,hM,hE,hA,hk,Hv⟩:=zd6 hg hf hd ht hc hv;clear hg hf hd ht hc hv;go_wp2_with fail;refine (qaj S5 d5 t _ oZ hA.out).mono ?_;rintro e w4 ⟨rfl,hp⟩;rw [hk.out];have hx:=hi.out.call hp;have hK:=zI hx;clear hx;go_wp2_with fail
   go_ret2
   exact ⟨by (rw [he.out]<;>rfl),hK.out⟩
  ·by_cases k10:o.kind=10
   ·obtain ⟨hl,hh,hR,hW⟩:=hQ.out k10
    obtain ⟨b,off,S5,d5,rfl,y5,ht,-,-,l5⟩:=hd.at_ hl;have e0:p.getD 0 []=p[0]:=by simp [hl]
    have hZ:=hq.out p[0] (gmZ hl);have hc:=Sh.jJ hZ;have h8:=Sh.oJ hZ;have hv:Od.dK o p r.1=Safe.prod r.1*(Safe.prod (p.getD 0 [])).tdiv ((p.getD 0 []).getD 0 0):=by unfold Od.dK;rw [inZ k8,ipZ k10]
    rw [e0] at hv hh hR hW;rw [hv] at he;rw [Zx] at y5;rw [k10] at y0;generalize p[0]=t at *;have hV:0<=(Safe.prod t).tdiv (t.getD 0 0):=Int.tdiv_nonneg oZ oZ;have h7:(Safe.prod t).tdiv (t.getD 0 0)<=Safe.prod t:=Int.tdiv_le_self _ oZ;have hL:(Safe.prod t).tdiv (t.getD 0 0)=Safe.prod t / t.getD 0 0:=Int.tdiv_eq_ediv_of_nonneg oZ;have ha:=Od.vP (a:=Safe.prod r.1) (b:=(Safe.prod t).tdiv (t.getD 0 0)) oZ oZ hV oZ;rw [hL] at hV h7 ha hv;obtain ⟨hi,hM,hE,hA,hk,Hv,hj,h2⟩:=zd8 hg hf hd ht hc hv ha hL;clear hg hf hd ht hc hv ha hL;go_wp2_with fail;refine (qaj S5 d5 t _ oZ hA.out).mono ?_;rintro e w4 ⟨rfl,hp⟩;rw [hk.out];have hx:=hi.out.call hp;have y54:=(show Later w3 w4 from hp).cell y5;obtain ⟨b6,o6,rfl,-,y6⟩:=(hA.out.below hp (lrZ _)) 0 hh;rw [Zx] at y6;clear y5 y0 y2 hp;generalize t.getD 0 0=t0 at *;generalize Safe.prod t=pt at *;generalize Safe.prod r.1=pr at *;have hK:=zI hx;clear hx;have h5:(0:Int)<(t.length:Int):=by omega
    go_wp2_with fail;refine (qcs (some ⟨w4.heap.size,0,none⟩) 2 [pr,pt / t0] _ sZ (qfV _ _)).mono ?_;rintro e w5 ⟨rfl,hF⟩;rw [hj.out.1];have hw:=(hK.out.alloc (.cells #[nQ iQ pr,nQ iQ (pt / t0)] 3)).call hF;have hO:=zI hw;clear hw;go_wp2_with fail
    go_ret2
    exact ⟨by (rw [he.out,h2.out]<;>rfl),hO.out⟩
   ·have n8:(o.kind==8)=false:=by simpa using k8
    have n10:(o.kind==10)=false:=by simpa using k10
    by_cases k11:o.kind=11∨o.kind=12
    ·obtain ⟨hR,hW⟩:=hN.out k11
     have hv:Od.dK o p r.1=Safe.prod r.1*o.width:=by unfold Od.dK;rw [inZ k8,inZ k10,ipZ k11]
     rw [hv] at he;have ha:=Od.vP (a:=Safe.prod r.1) (b:=o.width) oZ oZ oZ oZ;generalize Safe.prod r.1=pr at *;obtain ⟨hi,hM,hE,Hv,hj⟩:=zd5 hg hf hd hv ha;clear hg hf hd hv ha;clear k8 k10;rcases k11 with k11|k11
     all_goals
      rw [k11] at y0 n8 n10;go_wp2_with fail;refine (qcs (some ⟨w3.heap.size,0,none⟩) 2 [pr,o.width] _ sZ (qfV _ _)).mono ?_;rintro e w5 ⟨rfl,hF⟩;rw [hj.out.1];have hw:=(hi.out.alloc (.cells #[nQ iQ pr,nQ iQ o.width] 3)).call hF;have hO:=zI hw;clear hw;go_wp2_with fail
      go_ret2
      exact ⟨by (rw [he.out]<;>rfl),hO.out⟩
    ·have hv:Od.dK o p r.1=Safe.prod r.1:=by unfold Od.dK;rw [inZ k8,inZ k10,inZ k11]
     rw [hv] at he;have n11:(o.kind==11)=false:=by simp;omega
     have n12:(o.kind==12)=false:=by simp;omega
     obtain ⟨hi,hM,hE,Hv⟩:=zd4 hg hf hd hv;clear hg hf hd hv;clear k8 k10 k11;go_wp2_with fail
     go_ret2
     exact ⟨by (rw [he.out]<;>rfl),hi.out⟩
 ·have q0:(r.2 != 0)=true:=by simp [hr]
  rw [inZ hr] at hn;obtain ⟨hY,hD,hU,he⟩:=zd4 hB hh hz hn;clear hB hh hz hn;clear hb hm hG hr;go_wp2_with fail
  go_ret2
  exact ⟨by (rw [he.out]<;>rfl),hD.out⟩
theorem qgs (o:OpD) (S P T:Option Addr) (c d tc:Nat) (p x:List (List Int)) (w:Zp1) (hgood:(Od.shape o p x).2=0) (hP:bQ w P p) (hT:Ints iQ w T (Od.shape o p x).1):
  Calls prog 97 #[.agg #[nQ iQ o.kind,nQ iQ o.k,nQ iQ o.width,nQ iQ o.step,nQ iQ o.side,nQ iQ o.frm,nQ iQ o.to,sQ S o.s.length c],sQ P p.length d,sQ T (Od.shape o p x).1.length tc] w λe w'=>e=.returned (nQ iQ (Od.dK o p (Od.shape o p x).1))/\Below w.heap.size w w':=by
 have hp:=Blk.new w 83 #[nQ iQ o.kind,nQ iQ o.k,nQ iQ o.width,nQ iQ o.step,nQ iQ o.side,nQ iQ o.frm,nQ iQ o.to,sQ S o.s.length c];have hj:Later w (w.alloc (.cells #[nQ iQ o.kind,nQ iQ o.k,nQ iQ o.width,nQ iQ o.step,nQ iQ o.side,nQ iQ o.frm,nQ iQ o.to,sQ S o.s.length c] 83)):=(Later.refl w).alloc _;obtain ⟨g8,g10,g11⟩:=Od.lN hgood;have ho:=Od.aV hgood;have hg:=(Od.jP hgood).2.2.2.1;have hd:=Od.tC hgood;obtain ⟨y0,-,y2,-,-,-,-,-⟩:=qam hp;have hy:=hP.below hj (lrZ _);have hu:=hT.below hj (lrZ _);generalize (Od.shape o p x).1=s at *;have hs:=Sh.oJ ho;obtain ⟨HP,HT,hL,hF,hm,hn,hC,hf,ht⟩:=zd9 hP hT hp g8 g10 g11 ho hg hy;obtain ⟨hH,hk⟩:=zd2 hu hj;clear hP hT hp g8 g10 g11 ho hg hy hu hj;clear hgood;go_in;go_upto_region 1 with fail;generalize w.alloc (.cells #[nQ iQ o.kind,nQ iQ o.k,nQ iQ o.width,nQ iQ o.step,nQ iQ o.side,nQ iQ o.frm,nQ iQ o.to,sQ S o.s.length c] 83)=w1 at *;go_wp2_with fail;refine (qal T tc s w1 hC.out hH.out).mono ?_;rintro e w2 ⟨rfl,rfl⟩
 by_cases k8:o.kind=8
 ·have hv:Od.dK o p s=Safe.prod (p.getD 0 []):=by unfold Od.dK;rw [ipZ k8]
  have hl:=hF.out k8;obtain ⟨b,off,S5,d5,rfl,-,y5,hc,-,-⟩:=ht.out 0 hl;have e0:p.getD 0 []=p[0]:=by simp [hl]
  have hb:=hf.out p[0] (gmZ hl);rw [e0] at hv;rw [Zx] at y5;rw [k8] at y0;generalize p[0]=t at *;obtain ⟨hw,Hv,hA,hJ⟩:=zd4 hc hv hb hd;clear hc hv hb hd;clear k8;go_wp2_with fail;refine (qal S5 d5 t _ hA.out hw.out).mono ?_;rintro e w4 ⟨rfl,rfl⟩;go_wp2_with fail;go_ret;exact ⟨by (rw [Hv.out]<;>rfl),hk.out⟩
 ·by_cases k10:o.kind=10
  ·obtain ⟨hl,hr,hq,hz⟩:=hm.out k10
   obtain ⟨b,off,S5,d5,rfl,-,y5,hc,-,-⟩:=ht.out 0 hl;have e0:p.getD 0 []=p[0]:=by simp [hl]
   have hb:=hf.out p[0] (gmZ hl);have hI:=Sh.oJ hb;have hv:Od.dK o p s=Safe.prod s*(Safe.prod (p.getD 0 [])).tdiv ((p.getD 0 []).getD 0 0):=by unfold Od.dK;rw [inZ k8,ipZ k10]
   rw [e0] at hv hr hq hz;rw [Zx] at y5;rw [k10] at y0;generalize p[0]=t at *;have hx:0<=(Safe.prod t).tdiv (t.getD 0 0):=Int.tdiv_nonneg oZ oZ;have hB:(Safe.prod t).tdiv (t.getD 0 0)<=Safe.prod t:=Int.tdiv_le_self _ oZ;have hh:(Safe.prod t).tdiv (t.getD 0 0)=Safe.prod t / t.getD 0 0:=Int.tdiv_eq_ediv_of_nonneg oZ;rw [hv] at hd;obtain ⟨b6,o6,rfl,-,y6⟩:=hc 0 hr;rw [Zx] at y6;have hD:(0:Int)<(t.length:Int):=by omega
   have hG:(0:Int)<(p.length:Int):=by omega
   have hi:iQ.wrap (Safe.prod s*(Safe.prod t / t.getD 0 0))=Safe.prod s*(Safe.prod t / t.getD 0 0):=by rw [←hh];exact Zc1 _ oZ
   have ha:=λm=>qal (some ⟨b6,o6,none⟩) d5 t (w1.drewN m) hb hc
   rw [hh] at hx hB hd hv;generalize t.getD 0 0=t0 at *;generalize Safe.prod t=pt at *;generalize Safe.prod s=ps at *;obtain ⟨hw,Hv,hA,he,hK,hE⟩:=zd6 hc hv hb ha hh hi;clear hc hv hb ha hh hi;clear k8 k10 hx hB hd;have hi:=hE.out;go_wp2_with fail
   go_quiet ((go_at_call 34;refine (he.out _).mono ?_;rintro e w9 ⟨rfl,rfl⟩;exact ⟨rfl,_,rfl⟩))
   go_wp2_with fail;go_ret;exact ⟨by (rw [Hv.out]<;>rfl),hk.out.drewN _⟩
  ·have n8:(o.kind==8)=false:=by simpa using k8
   have n10:(o.kind==10)=false:=by simpa using k10
   by_cases k11:o.kind=11∨o.kind=12
   ·obtain ⟨hq,hz⟩:=hn.out k11
    have hv:Od.dK o p s=Safe.prod s*o.width:=by unfold Od.dK;rw [inZ k8,inZ k10,ipZ k11]
    rw [hv] at hd;have hi:iQ.wrap (Safe.prod s*o.width)=Safe.prod s*o.width:=Zc1 _ oZ;have Hv:=zI hv;clear hv;clear k8 k10;rcases k11 with k11|k11
    all_goals
     rw [k11] at y0 n8 n10;go_wp2_with fail;go_ret;exact ⟨by (rw [Hv.out]<;>rfl),hk.out⟩
   ·have hv:Od.dK o p s=Safe.prod s:=by unfold Od.dK;rw [inZ k8,inZ k10,inZ k11]
    have n11:(o.kind==11)=false:=by simp;omega
    have n12:(o.kind==12)=false:=by simp;omega
    have Hv:=zI hv;clear hv;clear k8 k10 k11;go_wp2_with fail;go_ret;exact ⟨by (rw [Hv.out]<;>rfl),hk.out⟩
def jC (X:Nat->Prop) (B:Nat) (w:Zp1) (g:Nat) (t e:TypeId) (us:List (List Int)):Prop:=
 X g/\∃vs:List Value,vs.length=us.length/\Blk w g t vs.toArray/\
  (∀j (hj:j<us.length) v,vs[j]? = some v->w.ownsRow B e 1 v us[j].length (us[j].map (Za1 iQ)))/\
  (∀(j:Nat) (v:Value) (b:Nat),vs[j]? = some v->v.ownBlock=some b->¬X b)/\
  (∀(i j:Nat) (u v:Value) (b:Nat),i≠j->vs[i]? = some u->vs[j]? = some v->u.ownBlock=some b->v.ownBlock≠some b)
section
variable {X:Nat->Prop} {B:Nat} {w w':Zp1} {g:Nat} {t e:TypeId} {us:List (List Int)}
theorem jC.lt (h:jC X B w g t e us):g<w.heap.size:=by obtain ⟨_,vs,_,hb,_⟩:=h;exact hb.lt
theorem jC.agree (h:jC X B w g t e us) (ha:∀b,b<w.heap.size->(b=g∨¬X b)->w'.heap[b]? = w.heap[b]?):jC X B w' g t e us:=by
 obtain ⟨hg,vs,hl,hk,ho,hx,hd⟩:=h;refine ⟨hg,vs,hl,(ha g hk.lt (.inl rfl)).trans hk,λj hj v hv=>?_,hx,hd⟩;exact qaa (ho j hj v hv) λb hb=>ha b ((ho j hj v hv).lt b hb).2 (.inr (hx j v b hv hb))
theorem jC.new {n:Nat} (hX:X g) (h:Blk w g t (Zc n (Zb1 none 0 0)).toArray):jC X B w g t e (Zc n []):=by
 refine ⟨hX,Zc n (sQ none 0 0),by simp,h,λj hj v hv=>?_,λj v b hv hb=>?_,λi j u v b _ hu _ hb=>?_⟩
 ·rw [List.getElem?_replicate] at hv
  split at hv
  ·injection hv with hv
   subst hv;simpa using World.ownsRow_nil w B e 1
  ·cases hv
 ·rw [List.getElem?_replicate] at hv
  split at hv
  ·injection hv with hv;subst hv;simp [Value.ownBlock] at hb
  ·cases hv
 ·rw [List.getElem?_replicate] at hu
  split at hu
  ·injection hu with hu;subst hu;simp [Value.ownBlock] at hb
  ·cases hu
theorem jC.at_ (h:jC X B w g t e us) (hlt:∀b,X b->b<w.heap.size) {j:Nat} (hj:j<us.length):
  ∃v,w.cell? ⟨g,j,none⟩=some v/\w.ownsRow B e 1 v us[j].length (us[j].map (Za1 iQ))/\(∀b,v.ownBlock=some b->¬X b)/\
   ∀v' w1 x,w1.ownsRow B e 1 v' (us[j].length+1) (us[j].map (Za1 iQ)++[nQ iQ x])->w.grownBy w1 v.ownBlock->(v'.ownBlock=v.ownBlock∨v'.ownBlock=some w.heap.size)->
    jC X B (w1.setCell ⟨g,j,none⟩ v') g t e (us.set j (us[j]++[x])):=by
 obtain ⟨hg,vs,hl,hk,ho,hx,hd⟩:=h;obtain ⟨v,hv⟩:∃v,vs[j]? = some v:=⟨vs[j],geZ oZ⟩
 refine ⟨v,by rw [hk.cell j];simpa using hv,ho j hj v hv,λb hb=>hx j v b hv hb,λv' w1 x hown hn hm=>?_⟩;have hs:some g≠v.ownBlock:=λh=>hx j v g hv h.symm hg
 have hq:Blk w1 g t vs.toArray:=(hn.block g hk.lt hs).trans hk
 have ha:∀b,v'.ownBlock=some b->¬X b:=λb hb=>by
  rcases hm with h|h
  ·exact hx j v b hv (h▸hb)
  ·rw [h] at hb;injection hb with hb;subst hb;intro hX;have:=hlt _ hX;omega
 have hc:∀b,b≠g->(w1.setCell ⟨g,j,none⟩ v').heap[b]? = w1.heap[b]?:=λb hb=>Below.heap_setCell w1 _ _ b hb
 refine ⟨hg,vs.set j v',by simp [hl],?_,λi hi u hu=>?_,λi u b hu hb=>?_,λi k u z b he hu hz hb=>?_⟩
 ·have:=hq.aO j v'
  simpa using this
 ·rw [List.length_set] at hi
  by_cases e:j=i
  ·subst e
   rw [Zr oZ] at hu;injection hu with hu
   subst hu;have:=qaa (w':=w1.setCell ⟨g,j,none⟩ v') hown λb hb=>hc b λq=>ha b hb (q▸hg)
   simpa using this
  ·rw [Zs e] at hu
   simp only [List.getElem_set_ne e];refine qaa (ho i hi u hu) λb hb=>?_
   rw [hc b λq=>hx i u b hu hb (q▸hg)];exact hn.block b ((ho i hi u hu).lt b hb).2 λq=>hd i j u v b (λq=>e q.symm) hu hv hb q.symm
 ·by_cases e:j=i
  ·subst e
   rw [Zr oZ] at hu;injection hu with hu
   subst hu;exact ha b hb
  ·rw [Zs e] at hu
   exact hx i u b hu hb
 ·have hh:∀i' u' b',i'≠j->vs[i']? = some u'->u'.ownBlock=some b'->v'.ownBlock≠some b':=λi' u' b' hr hf ha q=>by
   rcases hm with h|h
   ·exact hd i' j u' v b' hr hf hv ha (h▸q)
   ·rw [h] at q
    injection q with q
    subst q
    have hp:i'<us.length:=by
     rw [←hl];exact (List.getElem?_eq_some_iff.1 hf).1
    have:=((ho i' hp u' hf).lt _ ha).2;omega
  by_cases e:j=i
  ·subst e
   rw [Zr oZ] at hu;injection hu with hu
   subst hu;rw [Zs he] at hz;intro q;exact hh k z b (λq=>he q.symm) hz q hb
  ·rw [Zs e] at hu
   by_cases e2:j=k
   ·subst e2
    rw [Zr oZ] at hz;injection hz with hz
    subst hz;exact hh i u b (λq=>e q.symm) hu hb
   ·rw [Zs e2] at hz
    exact hd i k u z b he hu hz hb
end
namespace Kn
def wl (I:Int->List Int) (n k:Nat) (l:List Int):List Int:=(List.range (n+1)).map λu:Nat=>((jD I k l (u:Int):Nat):Int)
def ul (I:Int->List Int) (n k:Nat) (l:List Int):List (List Int):=(List.range (n+1)).map λu:Nat=>qdf I k l (u:Int)
theorem qfW (I:Int->List Int) (n k:Nat) (l:List Int):(wl I n k l).length=n+1:=by simp [wl]
theorem vJ (I:Int->List Int) (n k:Nat) (l:List Int):(ul I n k l).length=n+1:=by simp [ul]
theorem uF (I:Int->List Int) (n k:Nat) (l:List Int) {u:Nat} (h:u<n+1):(wl I n k l)[u]? = some ((jD I k l (u:Int):Nat):Int):=by simp [wl,h]
theorem vX (I:Int->List Int) (n k:Nat) (l:List Int) {u:Nat} (h:u<(ul I n k l).length):(ul I n k l)[u]=qdf I k l (u:Int):=by simp [ul]
theorem wl_zero (I:Int->List Int) (n:Nat):wl I n 0 []=Zc (n+1) 0:=by
 unfold wl;rw [qhb,List.eq_replicate_iff];exact ⟨by simp,λb hb=>by obtain ⟨x,_,rfl⟩:=List.mem_map.1 hb;rfl⟩
theorem ul_zero (I:Int->List Int) (n:Nat):ul I n 0 []=Zc (n+1) []:=by
 unfold ul;rw [qha,List.eq_replicate_iff];exact ⟨by simp,λb hb=>by obtain ⟨x,_,rfl⟩:=List.mem_map.1 hb;rfl⟩
theorem wl_next (I:Int->List Int) (n k:Nat):wl I n k (I ((k:Int)+1))=wl I n (k+1) []:=by unfold wl;rw [qhd]
theorem ul_next (I:Int->List Int) (n k:Nat):ul I n k (I ((k:Int)+1))=ul I n (k+1) []:=by unfold ul;rw [qhc]
theorem wl_skip (I:Int->List Int) (n k:Nat) (l:List Int):wl I n k (l++[0])=wl I n k l:=by unfold wl;rw [qe8]
theorem ul_skip (I:Int->List Int) (n k:Nat) (l:List Int):ul I n k (l++[0])=ul I n k l:=by unfold ul;rw [qe7]
theorem wl_in (I:Int->List Int) (n k:Nat) (l:List Int) {id:Int} (h:id≠0):wl I n k (l++[id])=(wl I n k l).set (k+1) (((jD I k l ((k:Int)+1):Nat):Int)+1):=by
 apply List.ext_getElem?;intro j;rw [List.getElem?_set]
 by_cases hj:j<n+1
 ·rw [uF _ _ _ _ hj,uF _ _ _ _ hj,wMid_in h,qfW]
  by_cases e:k+1=j
  ·subst e
   simp [hj]
  ·have:((j:Nat):Int)≠(k:Int)+1:=by omega
   simp [e,this]
 ·rw [Zi (by rw [qfW];omega),Zi (by rw [qfW];omega),qfW]
  simp;omega
theorem ul_in (I:Int->List Int) (n k:Nat) (l:List Int) {id:Int} (h:id≠0) (h0:0<=id):ul I n k (l++[id])=(ul I n k l).set id.toNat (qdf I k l id++[(k:Int)+1]):=by
 apply List.ext_getElem?;intro j;rw [List.getElem?_set];unfold ul;simp only [List.getElem?_map,List.length_map,List.length_range]
 by_cases hj:j<n+1
 ·rw [List.getElem?_range hj]
  simp only [Option.map_some];rw [uMid_in h]
  by_cases e:id.toNat=j
  ·subst e
   have:((id.toNat:Nat):Int)=id:=by omega
   simp [hj,this]
  ·have:((j:Nat):Int)≠id:=by omega
   simp [e,this]
 ·rw [Zi soZ]
  simp;omega
theorem wMid_le {I:Int->List Int} {B:Nat} (hI:∀u,(I u).length<=B) (k:Nat) {l:List Int} (hl:l.length<=B) (u:Int):jD I k l u<=B:=by
 unfold jD
 split
 ·rw [vC];exact Zv (List.length_filter_le _ _) (hI u)
 ·split
  ·exact Zv (List.length_filter_le _ _) hl
  ·omega
theorem lS {B:Nat}:∀(l:List Nat),(∀x∈l,x<=B)->l.sum<=l.length*B
 | [],_=>by simp
 | x::r,h=>by
  have h1:=h x sZ;have h2:=lS r λy hy=>h y (by simp [hy])
  simp only [List.sum_cons,List.length_cons,Zu];omega
theorem uI {I:Int->List Int} {B:Nat} (hI:∀u,(I u).length<=B) (k:Nat) {l:List Int} (hl:l.length<=B) (id:Int):(qdf I k l id).length<=(k+1)*B:=by
 have h1:=uMid_len I k l id;have h2:=lS ((ids k).map λu=>(I u).length) (B:=B) λx hx=>by obtain ⟨u,_,rfl⟩:=List.mem_map.1 hx;exact hI u
 rw [List.length_map,qbh] at h2;rw [Zu];omega
def rk (I:Int->List Int) (k:Nat):List Int:=(ids k).filter λu=>wt I [] u==0
theorem rX (I:Int->List Int) (k:Nat):rk I (k+1)=if wt I [] ((k:Int)+1)=0 then rk I k++[(k:Int)+1] else rk I k:=by
 unfold rk;rw [qfP,List.filter_append]
 by_cases h:wt I [] ((k:Int)+1)=0<;>simp [h]
theorem tO (I:Int->List Int) (k:Nat):(rk I k).length<=k:=Zv (List.length_filter_le _ _) (by rw [qbh];exact lrZ _)
theorem rU (I:Int->List Int) (n:Nat):rk I n=ready I n []:=by
 unfold rk ready;apply List.filter_congr;intro u _;rw [qct];simp
def wm (I:Int->List Int) (n:Nat) (out a:List Int):List Int:=(List.range (n+1)).map λu:Nat=>if u=0 then 0 else ((mid I out a (u:Int):Nat):Int)
theorem qhy (I:Int->List Int) (n:Nat) (out a:List Int):(wm I n out a).length=n+1:=by simp [wm]
theorem wD (I:Int->List Int) (n:Nat) (out a:List Int) {u:Nat} (h:u<n+1) (h0:u≠0):(wm I n out a)[u]? = some ((mid I out a (u:Int):Nat):Int):=by simp [wm,h,h0]
theorem wm_start (I:Int->List Int) (n:Nat):wl I n n []=wm I n [] []:=by
 unfold wl wm;apply List.map_congr_left;intro u hu;have hu:=List.mem_range.1 hu
 by_cases h:u=0
 ·subst h
  simp [jD]
 ·rw [sN oZ oZ]
  simp [h,mid]
theorem wm_next {I:Int->List Int} {n:Nat} {out:List Int} {id:Int} (hid:id∈ready I n out):wm I n out (users I n id)=wm I n (out++[id]) []:=by
 unfold wm;apply List.map_congr_left;intro u hu;have hu:=List.mem_range.1 hu
 by_cases h:u=0
 ·simp [h]
 ·rw [qh8 hid (jQ.2 ⟨by omega,by omega⟩)]
  simp [h,mid]
theorem wm_in {I:Int->List Int} {n:Nat} {out a:List Int} {u:Int} (h0:1<=u):wm I n out (a++[u])=(wm I n out a).set u.toNat ((mid I out (a++[u]) u:Nat):Int):=by
 apply List.ext_getElem?;intro j;rw [List.getElem?_set,qhy]
 by_cases hj:j<n+1
 ·by_cases e:u.toNat=j
  ·subst e
   have:((u.toNat:Nat):Int)=u:=by omega
   rw [wD _ _ _ _ hj oZ,this];simp [hj]
  ·simp only [e,if_false]
   unfold wm;simp only [List.getElem?_map,List.getElem?_range hj,Option.map_some];rw [qcE oZ]
 ·rw [Zi (by rw [qhy];omega),Zi (by rw [qhy];omega)]
  simp;omega
theorem count_lt {l:List Int} (h:l.Pairwise (·<·)) (u:Int):(∀j (hj:j<l.length),j<l.countP (·<u)->l[j]<u)/\(∀j (hj:j<l.length),l.countP (·<u)<=j->u<=l[j]):=by
 induction l with
 | nil=>exact ⟨λj hj=>by simp at hj,λj hj=>by simp at hj⟩
 | cons x r ih=>
  obtain ⟨hx,hr⟩:=List.pairwise_cons.1 h;obtain ⟨i1,i2⟩:=ih hr
  by_cases ha:x<u
  ·have hc:(x::r).countP (·<u)=r.countP (·<u)+1:=by rw [List.countP_cons];simp [ha]
   rw [hc];refine ⟨λj hj hb=>?_,λj hj hd=>?_⟩
   ·match j with
    | 0=>simpa using ha
    | j+1=>simpa using i1 j (by simpa using hj) oZ
   ·match j with
    | 0=>omega
    | j+1=>simpa using i2 j (by simpa using hj) oZ
  ·have hz:r.countP (·<u)=0:=by
    rw [List.countP_eq_zero];intro y hy;have:=hx y hy;simp;omega
   have hc:(x::r).countP (·<u)=0:=by rw [List.countP_cons,hz];simp;omega
   rw [hc];refine ⟨λj hj hb=>by omega,λj hj _=>?_⟩
   match j with
   | 0=>simp;omega
   | j+1=>
    have:=i2 j (by simpa using hj) oZ;simpa using this
theorem kC (I:Int->List Int) (n:Nat) (out:List Int) (id:Int) (us:List Int):(aY I n out id us).Pairwise (·<·):=(qaL n).filter _
theorem midReady_len (I:Int->List Int) (n:Nat) (out:List Int) (id:Int) (us:List Int):(aY I n out id us).length<=n:=Zv (List.length_filter_le _ _) (by rw [qbh];exact lrZ _)
theorem ready_len (I:Int->List Int) (n:Nat) (out:List Int):(ready I n out).length<=n:=Zv (List.length_filter_le _ _) (by rw [qbh];exact lrZ _)
theorem mid_put' {I:Int->List Int} {n:Nat} {out a b:List Int} {id u:Int} (hok:Ok I n out) (hid:id∈ready I n out) (hu:users I n id=a++u::b) (h:mid I out (a++[u]) u=0):
  aY I n out id (a++[u])=(aY I n out id a).take ((aY I n out id a).countP (·<u))++u::(aY I n out id a).drop ((aY I n out id a).countP (·<u)):=by
 obtain ⟨h1,h2⟩:=count_lt (kC I n out id a) u;exact mid_put hok hid hu h h1 h2 List.countP_le_length
end Kn
open Go.Shelf
def tZ:Go.Shelf.Ren:=⟨fun|21=>142|27=>168|28=>169|35=>181|39=>183|n=>n,fun|22=>22|3=>3|4=>4|0=>0|n=>n,fun|n=>n⟩
theorem qcI:Go.Proofs.Lays2.n21 prog tZ:={
 mixed:=by kernel_rfl
 f21:=func142.trans (congrArg some krZ)
 f27:=func168.trans (congrArg some krZ)
 f28:=func169.trans (congrArg some krZ)
 f35:=func181.trans (congrArg some krZ)
 f39:=func183.trans (congrArg some krZ)
 t0:=underlying0
 a0:=Tryz.isAgg0
 z0:=Tryz.sizeOf0
 v0:=Tryz.zeroValue0
 t3:=underlying3
 a3:=Tryz.isAgg3
 z3:=Tryz.sizeOf3
 v3:=Tryz.zeroValue3
 t4:=underlying4
 a4:=Tryz.isAgg4
 z4:=Tryz.sizeOf4
 v4:=Tryz.zeroValue4
 t22:=underlying22
 a22:=Tryz.isAgg22
 z22:=Tryz.sizeOf22
 v22:=Tryz.zeroValue22
 i3:=by kernel_rfl }
end Go.Proofs.YtddkenhemnkkeaaGreat
