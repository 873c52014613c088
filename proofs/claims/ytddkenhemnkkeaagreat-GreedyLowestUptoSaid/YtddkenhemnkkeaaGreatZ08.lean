/- Lemmas for the statements of this seat: contracts of functions and the plain laws. -/
import Derived.Test.YtddkenhemnkkeaaGreatZ07
set_option linter.unusedVariables false
open Go.IntKind renaming i64 → iQ
open Go.Value renaming int → nQ, slice → sQ
open List renaming take_succ_eq_append_getElem → Zb, replicate → Zc, drop_eq_getElem_cons → Zd, length_append → Ze, all_eq_true → Zf, take_length → Zg, mem_of_mem_take → Zh, getElem?_eq_none → Zi, flatMap_append → Zj, getElem?_toArray → Zk, getElem?_append_right → Zl, getElem?_append_left → Zm, take_append_drop → Zn, length_take → Zo, mem_of_mem_drop → Zp, length_drop → Zq, getElem?_set_self → Zr, getElem?_set_ne → Zs
open Nat renaming zero_le → Zt, succ_mul → Zu, le_trans → Zv, zero_add → Zw, add_zero → Zx, le_succ → Zy
open Bool renaming and_eq_true → Zz
open Go.Value renaming int → Za1, slice → Zb1
open Go.IntWalk renaming i64_in → Zc1
open Go.NoPanic renaming normal → Zd1
open Go.RowKit.Below renaming refl → Ze1
open Go.AllReadyH renaming cons → Zf1, nil → Zg1
open Go.World renaming size_alloc → Zh1, cell?_of_block → Zi1, block_lt_of_cell? → Zj1
open Go renaming bodyPost_ret → Zk1, wp_region_held_drew → Zl1, wp_region_noPanic → Zm1, wpAnyH_done → Zn1, wpAnyH_ready → Zo1, World → Zp1
open Go.Proofs.Tryz
namespace Go.Proofs.YtddkenhemnkkeaaGreat
set_option maxHeartbeats 16000000
set_option maxRecDepth 20000
open Go.RowKit
namespace Ch
def pos (os:List Int) (i:Nat):Int:=if i=0 then 0 else os.getD (i-1) 0
structure In (c:C) (b:CkN) (os cst:List Int):Prop where
 len:b.words.length=c.n+1
 top:c.n<=64
 wd:∀k:Nat,1<=k->k<=c.n->Ck.wd b (pos os k)=W c k
 rng:∀k:Nat,1<=k->k<=c.n->1<=pos os k/\pos os k<=c.n
 inj:∀i j:Nat,i<=c.n->j<=c.n->pos os i=pos os j->i=j
 ins:∀k:Nat,k+1<=c.n->Ck.iF b (pos os (k+1))=[pos os k]
 aI:b.aI=pos os c.n
 ordl:b.order.length=c.n
 ord:∀d,d<c.n->b.order.getD (c.n-1-d) 0=pos os (c.n-d)
 cst:∀k:Nat,k+1<=c.n->cst.getD (pos os (k+1)).toNat 0=c.cost.getD k 0
 nn_:∀k:Nat,k<=c.n->0<=W c k
theorem uN (os:List Int) (k:Int) (i:Nat):Gr.re os (k,(i:Int))=(k,pos os i):=by
 unfold Gr.re pos
 by_cases e:i=0
 ·subst e;rfl
 ·rw [inZ e]
  simp only;rw [ipZ oZ,show ((i:Int)-1).toNat=i-1 by omega]
structure At (c:C) (b:CkN) (os cst:List Int) (s:S) (Q:Nat->Bool) (G:Nat) (e1 e2:Bool) (d:Nat) (w v:Int) (t:CkS):Prop where
 go:Ck.go b (Ck.start (c.n+1)) (s.code.map (Gr.re os))=(t,0)
 lp:t.aC.length=c.n+1
 ls:t.sav.length=c.n+1
 lg:t.aL.length=c.n+1
 sl:s.saved.length=c.n+1
 aC:∀k:Nat,k<=c.n->Ck.at_ t.aC (pos os k)=Q k
 sav:∀k:Nat,1<=k->k<=c.n->Ck.at_ t.sav (pos os k)=s.saved.getD k false
 aL:∀k:Nat,1<=k->k<=c.n->Ck.at_ t.aL (pos os k)=decide (k=G)
 em:t.em=e1
 sd:t.sd=e2
 done:t.done=d
 now:t.now=w
 co:Safe.sum (Cd.aM cst (s.code.map (Gr.re os)))=v
 wc:w<=b.cap
section
variable {c:C} {b:CkN} {os cst:List Int} {s:S} {Q:Nat->Bool} {G:Nat} {e1 e2:Bool} {d:Nat} {w v:Int} {t:CkS}
theorem In.nn (hI:In c b os cst) {k:Nat} (h:k<=c.n):0<=pos os k/\pos os k<((c.n+1:Nat):Int):=by
 by_cases e:k=0
 ·subst e;exact ⟨by show (0:Int)<=0;omega,by show (0:Int)<_;omega⟩
 ·have:=hI.rng k oZ h;omega
theorem In.set (hI:In c b os cst) {l:List Bool} (hl:l.length=c.n+1) {i j:Nat} (hi:i<=c.n) (hj:j<=c.n) (x:Bool):Ck.at_ (Ck.bD l (pos os i) x) (pos os j)=if j=i then x else Ck.at_ l (pos os j):=by
 rw [dU.dM hl (hI.nn hi).1 (hI.nn hi).2 (hI.nn hj).1]
 by_cases e:j=i
 ·rw [ipZ e,ipZ (by rw [e])]
 ·rw [inZ e,inZ (λq=>e (hI.inj j i hj hi q))]
theorem At.congr (h:At c b os cst s Q G e1 e2 d w v t) {Q':Nat->Bool} (hQ:∀k,k<=c.n->Q k=Q' k) {w' v':Int} (hw:w=w') (hv:v=v'):At c b os cst s Q' G e1 e2 d w' v' t:=
 ⟨h.go,h.lp,h.ls,h.lg,h.sl,λk hk=>(h.aC k hk).trans (hQ k hk),h.sav,h.aL,h.em,h.sd,h.done,h.now.trans hw,h.co.trans hv,hw▸h.wc⟩
theorem At.step (hI:In c b os cst) (h:At c b os cst s Q G e1 e2 d w v t) {s':S} {k:Int} {i:Nat} (hc:s'.code=s.code++[(k,(i:Int))]) (hi:i<=c.n) (hr:Cd.right (k,pos os i)=true) (hl:Ck.dA b t k (pos os i)=true) (hm:w+Ck.more b t k (pos os i)<=b.cap):
  Ck.go b (Ck.start (c.n+1)) (s'.code.map (Gr.re os))=(Ck.act b t k (pos os i) (w+Ck.more b t k (pos os i)),0):=by
 have ha:=(hI.nn hi).2;rw [hc,List.map_append,List.map_cons,List.map_nil,uN,Ck.lY _ _ _ _ (by rw [h.go]),h.go];unfold Ck.do_;simp only;rw [inZ (by rw [hr,hI.len];simp only [Bool.true_eq_false,false_or];omega),inZ (by simp [hl]),h.now,inZ oZ]
theorem At.cost (h:At c b os cst s Q G e1 e2 d w v t) {s':S} {k:Int} {i:Nat} (hc:s'.code=s.code++[(k,(i:Int))]):Safe.sum (Cd.aM cst (s'.code.map (Gr.re os)))=v+if k=1∨k=2 then cst.getD (pos os i).toNat 0 else 0:=by
 have hs:∀a b:List Int,Safe.sum (a++b)=Safe.sum a+Safe.sum b:=λa b=>by
  induction a with
  | nil=>simp [Safe.sum]
  | cons x r ih=>simp [Safe.sum,ih];omega
 rw [hc,List.map_append,List.map_cons,List.map_nil,uN];unfold Cd.aM;rw [List.filter_append,List.map_append,hs];have hv:=h.co;unfold Cd.aM at hv;rw [hv]
 by_cases e:k=1∨k=2
 ·rw [ipZ e,List.filter_cons_of_pos (by unfold Cd.kL;rcases e with e|e<;>simp [e])]
  simp [Safe.sum]
 ·rw [inZ e,List.filter_cons_of_neg (by unfold Cd.kL;simp only [not_or] at e;simp [e.1,e.2])]
  simp [Safe.sum]
theorem In.right (hI:In c b os cst) {k:Int} (hk:k=1∨k=2∨k=3∨k=6) {i:Nat} (h1:1<=i) (h2:i<=c.n):Cd.right (k,pos os i)=true:=by
 have:=hI.rng i h1 h2;have:=hI.top;exact Rw.jE hk oZ oZ
theorem In.ready (hI:In c b os cst) (h:At c b os cst s Q G e1 e2 d w v t) {k:Nat} (hk:k+1<=c.n) (hq:Q k=true):Ck.ready b t (pos os (k+1))=true:=by
 unfold Ck.ready;rw [hI.ins k hk];simp [h.aC k oZ,hq]
theorem At.comp (hI:In c b os cst) (h:At c b os cst s Q G e1 e2 d w v t) {k:Nat} (hk:k+1<=c.n) (hq:Q k=true) (hn:Q (k+1)=false) (hw:w+W c (k+1)<=b.cap):
  ∃t',At c b os cst (comp (k+1) s) (λj=>if j=k+1 then true else Q j) G e1 e2 d (w+W c (k+1)) (v+c.cost.getD k 0) t':=by
 have hb:=hI.ready h hk hq;have hp:=h.aC (k+1) hk;have hs:=h.sav (k+1) oZ hk;have hg:=hI.wd (k+1) oZ hk
 obtain ⟨kk,h12,hc,ha,hlg⟩:∃kk:Int,(kk=1∨kk=2)/\(Ch.comp (k+1) s).code=s.code++[(kk,((k+1:Nat):Int))]/\((Ch.comp (k+1) s).saved=s.saved/\s.saved.getD (k+1) false=true∨(Ch.comp (k+1) s).saved=s.saved.set (k+1) true)/\Ck.dA b t kk (pos os (k+1))=true:=by
  unfold Ch.comp
  by_cases e:s.saved.getD (k+1) false=true
  ·rw [ipZ e]
   refine ⟨2,.inr rfl,rfl,.inl ⟨rfl,e⟩,?_⟩;unfold Ck.dA;rw [inZ dZ,ipZ rfl,hs,e,hp,hn,hb]
   rfl
  ·rw [inZ e]
   refine ⟨1,.inl rfl,rfl,.inr rfl,?_⟩;unfold Ck.dA;rw [ipZ rfl,hs,hb];simp at e;simp [e]
 have hd:Ck.more b t kk (pos os (k+1))=W c (k+1):=by unfold Ck.more;rw [ipZ h12,hg]
 have he:=h.step hI hc hk (hI.right oZ oZ hk) hlg (by rw [hd];exact hw)
 have hf:Ck.act b t kk (pos os (k+1)) (w+Ck.more b t kk (pos os (k+1)))={ t with aC:=Ck.bD t.aC (pos os (k+1)) true,sav:=Ck.bD t.sav (pos os (k+1)) true,now:=w+W c (k+1),aB:=max t.aB (w+W c (k+1)) }:=by
  unfold Ck.act;rw [ipZ h12,hd]
 rw [hf] at he;refine ⟨_,he,Rw.dQ h.lp _ _,Rw.dQ h.ls _ _,h.lg,?_,λj hj=>?_,λj h1 hj=>?_,h.aL,h.em,h.sd,h.done,rfl,?_,hw⟩
 ·rcases ha with ⟨e,-⟩|e
  ·rw [e];exact h.sl
  ·rw [e,List.length_set];exact h.sl
 ·show Ck.at_ (Ck.bD t.aC _ true) _=_
  rw [hI.set h.lp hk hj,h.aC j hj]
 ·show Ck.at_ (Ck.bD t.sav _ true) _=_
  rw [hI.set h.ls hk hj,h.sav j h1 hj];rcases ha with ⟨e,e'⟩|e
  ·rw [e]
   by_cases q:j=k+1
   ·rw [ipZ q,q,e']
   ·rw [inZ q]
  ·rw [e,gdZ,gdZ,List.getElem?_set]
   have:=h.sl
   by_cases q:j=k+1
   ·rw [ipZ q,ipZ q.symm,ipZ oZ]
    rfl
   ·rw [inZ q,inZ (λx=>q x.symm)]
 ·rw [h.cost hc,ipZ h12,hI.cst k hk]
theorem At.drop (hI:In c b os cst) (h:At c b os cst s Q G e1 e2 d w v t) {k:Nat} (h1:1<=k) (hk:k<=c.n) (hq:Q k=true):
  ∃t',At c b os cst (s.add 3 k) (λj=>if j=k then false else Q j) G e1 e2 d (w-W c k) v t':=by
 have ha:Ck.more b t 3 (pos os k)=0:=rfl;have hb:=h.step hI (s':=s.add 3 k) rfl hk (hI.right oZ h1 hk) (by show Ck.at_ t.aC _=true;rw [h.aC k hk,hq]) (by rw [ha,Int.add_zero];exact h.wc)
 have hc:Ck.act b t 3 (pos os k) (w+Ck.more b t 3 (pos os k))={ t with aC:=Ck.bD t.aC (pos os k) false,now:=w-W c k,aB:=max t.aB w }:=by
  rw [ha,Int.add_zero,←hI.wd k h1 hk];rfl
 rw [hc] at hb;refine ⟨_,hb,Rw.dQ h.lp _ _,h.ls,h.lg,h.sl,λj hj=>?_,h.sav,h.aL,h.em,h.sd,h.done,rfl,?_,by have:=hI.nn_ k hk;have:=h.wc;omega⟩
 ·show Ck.at_ (Ck.bD t.aC _ false) _=_
  rw [hI.set h.lp hk hj,h.aC j hj]
 ·rw [h.cost (s':=s.add 3 k) (k:=3) (i:=k) rfl,inZ dZ,Int.add_zero]
theorem At.emit (hI:In c b os cst) (h:At c b os cst s Q G false e2 d w v t) (hq:Q c.n=true):
  ∃t',At c b os cst (s.add 4 0) Q G true e2 d w v t':=by
 have ha:Ck.more b t 4 (pos os 0)=0:=rfl
 have hb:=h.step hI (s':=s.add 4 0) (k:=4) (i:=0) rfl oZ (by show Cd.right (4,0)=true;decide) (by
  show (Ck.at_ t.aC b.aI&&!t.em)=true
  rw [hI.aI,h.aC _ (lrZ _),hq,h.em];rfl) (by rw [ha,Int.add_zero];exact h.wc)
 have hc:Ck.act b t 4 (pos os 0) (w+Ck.more b t 4 (pos os 0))={ t with em:=true,now:=w,aB:=max t.aB w }:=by
  rw [ha,Int.add_zero];rfl
 rw [hc] at hb;refine ⟨_,hb,h.lp,h.ls,h.lg,h.sl,h.aC,h.sav,h.aL,rfl,h.sd,h.done,rfl,?_,h.wc⟩;rw [h.cost (s':=s.add 4 0) (k:=4) (i:=0) rfl,inZ dZ,Int.add_zero]
theorem At.seed (hI:In c b os cst) (h:At c b os cst s Q 0 e1 false d w v t) (hn:1<=c.n) (hw:w+W c c.n<=b.cap):
  ∃t',At c b os cst (s.add 5 0) Q c.n e1 true d (w+W c c.n) v t':=by
 have ha:Ck.more b t 5 (pos os 0)=W c c.n:=by
  show Ck.wd b b.aI=_
  rw [hI.aI,hI.wd _ hn (lrZ _)]
 have hb:=h.step hI (s':=s.add 5 0) (k:=5) (i:=0) rfl oZ (by show Cd.right (5,0)=true;decide) (by
  show (!t.sd)=true
  rw [h.sd];rfl) (by rw [ha];omega)
 have hc:Ck.act b t 5 (pos os 0) (w+Ck.more b t 5 (pos os 0))={ t with sd:=true,aL:=Ck.bD t.aL (pos os c.n) true,now:=w+W c c.n,aB:=max t.aB (w+W c c.n) }:=by
  rw [ha,←hI.aI];rfl
 rw [hc] at hb;refine ⟨_,hb,h.lp,h.ls,Rw.dQ h.lg _ _,h.sl,h.aC,h.sav,λj h1 hj=>?_,h.em,rfl,h.done,rfl,?_,hw⟩
 ·show Ck.at_ (Ck.bD t.aL _ true) _=_
  rw [hI.set h.lg (lrZ _) hj,h.aL j h1 hj]
  by_cases e:j=c.n
  ·rw [ipZ e];simp [e]
  ·rw [inZ e];simp [e];omega
 ·rw [h.cost (s':=s.add 5 0) (k:=5) (i:=0) rfl,inZ dZ,Int.add_zero]
theorem At.back (hI:In c b os cst) {k:Nat} (h:At c b os cst s Q (k+1) e1 e2 (c.n-(k+1)) w v t) (hk:k+1<=c.n) (hq:Q k=true) (hw:w+kept c k<=b.cap):
  ∃t',At c b os cst (s.add 6 ((k+1:Nat):Int)) Q k e1 e2 (c.n-k) (w+kept c k-W c (k+1)) v t':=by
 have ha:=h.aL (k+1) oZ hk;rw [decide_eq_true rfl] at ha
 have hf:Ck.fresh b t (pos os (k+1))=if k=0 then [] else [pos os k]:=by
  unfold Ck.fresh;rw [hI.ins k hk]
  show (if pos os k≠0/\Ck.at_ t.aL (pos os k)=false/\List.contains [] (pos os k)=false then []++[pos os k] else [])=_
  by_cases e:k=0
  ·subst e
   rw [inZ (λq=>q.1 rfl),ipZ rfl]
  ·have hr:=hI.rng k oZ oZ
   rw [inZ e,ipZ ⟨by omega,by rw [h.aL k oZ oZ];simp,by simp⟩]
   rfl
 have hb:Ck.more b t 6 (pos os (k+1))=kept c k:=by
  show Ck.fH b (Ck.fresh b t (pos os (k+1)))=_
  rw [hf];unfold kept
  by_cases e:k=0
  ·rw [ipZ e,ipZ e];rfl
  ·rw [inZ e,inZ e,←hI.wd k oZ oZ]
   simp [Ck.fH]
 have hd:=h.step hI (s':=s.add 6 ((k+1:Nat):Int)) (k:=6) (i:=k+1) rfl hk (hI.right oZ oZ hk) (by
  show (Ck.at_ t.aL _&&(Ck.ready b t _&&Ck.back b t _))=true
  rw [ha,hI.ready h hk hq];unfold Ck.back;rw [hI.ordl,h.done,hI.ord _ oZ,show c.n-(c.n-(k+1))=k+1 by omega,decide_eq_true ⟨by omega,rfl⟩]
  rfl) (by rw [hb];exact hw)
 have he:Ck.act b t 6 (pos os (k+1)) (w+Ck.more b t 6 (pos os (k+1)))={ t with aL:=Ck.bD (Ck.sets t.aL (if k=0 then [] else [pos os k])) (pos os (k+1)) false,now:=w+kept c k-W c (k+1),aB:=max t.aB (w+kept c k),done:=t.done+1 }:=by
  rw [hb,←hI.wd (k+1) oZ hk,←hf];rfl
 rw [he] at hd;have hc:(Ck.sets t.aL (if k=0 then [] else [pos os k])).length=c.n+1:=Rw.kX [] _ _ h.lg;refine ⟨_,hd,h.lp,h.ls,Rw.dQ hc _ _,h.sl,h.aC,h.sav,λj h1 hj=>?_,h.em,h.sd,by show t.done+1=_;rw [h.done];omega,rfl,?_,by have:=hI.nn_ (k+1) hk;omega⟩
 ·show Ck.at_ (Ck.bD (Ck.sets t.aL _) _ false) _=_
  rw [hI.set hc hk hj]
  by_cases e:j=k+1
  ·rw [ipZ e,eq_comm,decide_eq_false_iff_not];omega
  ·rw [inZ e]
   by_cases e0:k=0
   ·rw [ipZ e0]
    show Ck.at_ t.aL _=_
    rw [h.aL j h1 hj,decide_eq_decide];omega
   ·rw [inZ e0]
    show Ck.at_ (Ck.bD t.aL _ true) _=_
    rw [hI.set h.lg oZ hj,h.aL j h1 hj]
    by_cases e3:j=k
    ·rw [ipZ e3];simp [e3]
    ·rw [inZ e3,decide_eq_decide];omega
 ·rw [h.cost (s':=s.add 6 ((k+1:Nat):Int)) (k:=6) (i:=k+1) rfl,inZ dZ,Int.add_zero]
theorem At.fwd (hI:In c b os cst) (h:At c b os cst s Q G e1 e2 d w v t) {l:Nat} (hl:Q l=true) (h0:∀k,l<k->k<=c.n->Q k=false):
  ∀j,l+j<=c.n->(∀i,i<j->w+W c (l+1+i)+(if i=0 then 0 else W c (l+i))<=b.cap)->
  ∃t',At c b os cst (Ch.fwd l j s) (λk=>if j≠0/\k=l+j then true else Q k) G e1 e2 d (w+if j=0 then 0 else W c (l+j)) (v+cs c l j) t'
 | 0,_,_=>⟨t,h.congr (λk _=>by simp) sZ (by simp [cs])⟩
 | j+1,hj,hm=>by
  obtain ⟨t1,h1⟩:=At.fwd hI h hl h0 j oZ λi hi=>hm i oZ
  have hb:=hm j oZ;have ej:l+1+j=l+j+1:=by omega
  rw [ej] at hb
  obtain ⟨t2,h2⟩:=h1.comp hI (k:=l+j) oZ (by
   by_cases e:j=0
   ·subst e;simpa using hl
   ·simp [e]) (by
   show (if j≠0/\l+j+1=l+j then true else Q (l+j+1))=false
   rw [inZ oZ];exact h0 _ oZ oZ) (by
   by_cases e:j=0
   ·rw [ipZ e] at hb ⊢;omega
   ·rw [inZ e] at hb ⊢;omega)
  have ev:v+cs c l j+c.cost.getD (l+j) 0=v+cs c l (j+1):=by rw [show cs c l (j+1)=cs c l j+c.cost.getD (l+j) 0 from rfl];omega
  have ha:Ch.fwd l (j+1) s=if j=0 then Ch.comp (l+j+1) (Ch.fwd l j s) else (Ch.comp (l+j+1) (Ch.fwd l j s)).add 3 ((l+j:Nat):Int):=by
   rw [←ej];rfl
  rw [ha]
  by_cases e:j=0
  ·rw [ipZ e]
   refine ⟨t2,h2.congr (λk hk=>?_) ?_ ev⟩
   ·subst e
    show (if k=l+0+1 then true else if (0:Nat)≠0/\k=l+0 then true else Q k)=if 0+1≠0/\k=l+(0+1) then true else Q k
    by_cases q:k=l+1
    ·rw [ipZ oZ,ipZ oZ]
    ·rw [inZ oZ,inZ oZ,inZ oZ]
   ·subst e;simp
  ·rw [inZ e]
   rw [inZ e] at h2 hb;obtain ⟨t3,h3⟩:=h2.drop hI (k:=l+j) oZ oZ (by simp [e]);refine ⟨t3,h3.congr (λk hk=>?_) ?_ ev⟩
   ·show (if k=l+j then false else if k=l+j+1 then true else if j≠0/\k=l+j then true else Q k)=if j+1≠0/\k=l+(j+1) then true else Q k
    by_cases q:k=l+j
    ·rw [ipZ q,inZ oZ,q,h0 _ oZ oZ]
    ·rw [inZ q]
     by_cases q2:k=l+j+1
     ·rw [ipZ q2,ipZ oZ]
     ·rw [inZ q2,inZ oZ,inZ oZ]
   ·rw [inZ oZ,show l+(j+1)=l+j+1 by omega];omega
theorem uI (c:C) (l r:Nat):∀j i,i<j->step c l r (l+1+i)<=nd c l r j
 | 0,i,h=>absurd h oZ
 | j+1,i,h=>by
  unfold nd
  by_cases e:i=j
  ·rw [e];omega
  ·have:=uI c l r j i oZ;omega
theorem At.part (hI:In c b os cst) (hc:Ok c):∀(f l r m:Nat) (s:S) (Q:Nat->Bool) (w v:Int) (t:CkS),l<r->r<=c.n->r-l<=f->m<len c l->(Rw c l r).getD m 0<inf->
  Q l=true->(∀k,l<k->k<=c.n->Q k=false)->At c b os cst s Q (if r=c.n then 0 else r) (decide (r≠c.n)) (decide (r≠c.n)) (c.n-r) (w+if r=c.n then 0 else W c r) v t->w+(m:Int)<=b.cap->
  ∃t',At c b os cst (Ch.part c f l r m s) Q l true true (c.n-l) (w+kept c l) (v+(Rw c l r).getD m 0) t'
 | 0,l,r,_,_,_,_,_,_,h1,_,h3,_,_,_,_,_,_=>absurd h3 oZ
 | f+1,l,r,m,s,Q,w,v,t,h1,h2,h3,h4,h5,hq,h0,h,hw=>by
  have hp:=dO hc (l:=l) oZ;have ho:(m:Int)<((len c l:Nat):Int):=by omega
  by_cases e:r=l+1
  ·subst e
   rw [kZ];rw [jY,qbn _ _ _ _ h4] at h5 ⊢
   split at h5
   ·rename_i hs
    rw [ipZ hs];unfold single at hs;unfold oU own;have hj:=hc.w0 (l+1) h2
    by_cases er:l+1=c.n
    ·rw [ipZ er,ipZ er]
     rw [ipZ er,ipZ er,decide_eq_false (by simpa using er),Int.add_zero] at h;obtain ⟨t1,g1⟩:=h.comp hI (k:=l) h2 hq (h0 _ oZ h2) oZ;obtain ⟨t2,g2⟩:=g1.emit hI (by simp [er]);obtain ⟨t3,g3⟩:=g2.drop hI (k:=l+1) oZ h2 sZ;obtain ⟨t4,g4⟩:=g3.seed hI oZ (by rw [←er];omega);rw [←er,show l+1-(l+1)=c.n-(l+1) by omega] at g4
     obtain ⟨t5,g5⟩:=g4.back hI h2 (by
      show (if l=l+1 then false else if l=l+1 then true else Q l)=true
      rw [inZ oZ,inZ oZ,hq]) oZ
     refine ⟨t5,g5.congr (λk hk=>?_) oZ rfl⟩
     show (if k=l+1 then false else if k=l+1 then true else Q k)=Q k
     by_cases q:k=l+1
     ·rw [ipZ q,q,h0 _ oZ h2]
     ·rw [inZ q,inZ q]
    ·rw [inZ er,inZ er]
     rw [inZ er,inZ er,decide_eq_true (by simpa using er)] at h;obtain ⟨t1,g1⟩:=h.back hI h2 hq oZ;exact ⟨t1,g1.congr (λ_ _=>rfl) oZ oZ⟩
   ·exact absurd h5 oZ
  ·obtain ⟨i,hi,hg,hn,he⟩:=best_eq hc h2 oZ h4 h5
   obtain ⟨i',hl,hb,hW,ha,hf,hd⟩:=iW hc h2 oZ h4 h5;obtain rfl:i'=i:=by omega
   rw [kI c f l r m s oZ,hb];have hh:kept c (l+1+i')=W c (l+1+i'):=inZ oZ
   obtain ⟨t1,g1⟩:=h.fwd hI hq h0 (l+1+i'-l) oZ (λq hr=>by
    have:=uI c l r (i'+1) q oZ;unfold Ch.step at this
    by_cases e1:q=0
    ·subst e1
     rw [ipZ oZ] at this;rw [ipZ rfl]
     by_cases e2:r=c.n
     ·rw [ipZ e2] at this ⊢;omega
     ·rw [inZ e2] at this ⊢;omega
    ·rw [inZ oZ,show l+1+q-1=l+q by omega] at this
     rw [inZ e1]
     by_cases e2:r=c.n
     ·rw [ipZ e2] at this ⊢;omega
     ·rw [inZ e2] at this ⊢;omega)
   have ei:l+1+i'-l=i'+1:=by omega
   rw [ei] at g1 ⊢;have el:l+(i'+1)=l+1+i':=by omega
   have g1:=g1.congr (Q':=λk=>if k=l+1+i' then true else Q k) (w':=w+W c (l+1+i')+if r=c.n then 0 else W c r) (λk hk=>by
    show (if i'+1≠0/\k=l+(i'+1) then true else Q k)=_
    by_cases q:k=l+1+i'
    ·rw [ipZ ⟨by omega,by omega⟩,ipZ q]
    ·rw [inZ (λx=>q oZ),inZ q]) (by rw [inZ (show ¬i'+1=0 by omega),el];omega) rfl
   obtain ⟨t2,g2⟩:=At.part hI hc f (l+1+i') r ((m:Int)-W c (l+1+i')).toNat _ (λk=>if k=l+1+i' then true else Q k) (w+W c (l+1+i')) _ t1 oZ h2 oZ hd ha sZ (λk k1 k2=>by
    show (if k=l+1+i' then true else Q k)=false
    rw [inZ oZ,h0 k oZ k2]) g1 oZ
   have hm:=hc.w0 (l+1+i') oZ;obtain ⟨t3,g3⟩:=g2.drop hI (k:=l+1+i') oZ oZ sZ
   obtain ⟨t4,g4⟩:=At.part hI hc f l (l+1+i') m _ Q w _ t3 oZ oZ oZ h4 hf hq h0 (by
    rw [inZ oZ,inZ oZ,decide_eq_true oZ]
    exact g3.congr (λk hk=>by
     show (if k=l+1+i' then false else if k=l+1+i' then true else Q k)=Q k
     by_cases q:k=l+1+i'
     ·rw [ipZ q,q,h0 _ oZ oZ]
     ·rw [inZ q,inZ q]) oZ rfl) hw
   exact ⟨t4,g4.congr (λ_ _=>rfl) rfl (by rw [←he];omega)⟩
end
end Ch
def Ch.bG (ws cs:List Int) (cap:Int):Int × Int:=
 if Ch.right ws cs=false then (0,10) else if cap<0∨4096<cap then (0,11) else
 if Ch.inf<=(Ch.Rw (Ch.of ws cs cap) 0 cs.length).getD (Ch.of ws cs cap).cap.toNat 0 then (0,26) else ((Ch.Rw (Ch.of ws cs cap) 0 cs.length).getD (Ch.of ws cs cap).cap.toNat 0,0)
namespace Ck
theorem qO (c:CkN):∀(ps:List (Int × Int)) (s:CkS),(go c s ps).2=0->ps.all Cd.right=true/\∀p∈ps,p.2<c.words.length
 | [],_,_=>⟨rfl,λ_ h=>by cases h⟩
 | i::r,s,h=>by
  simp only [go] at h
  split at h
  ·rename_i h0
   obtain ⟨h1,h2⟩:=qO c r _ h;unfold do_ at h0
   split at h0
   ·simp at h0
   ·rename_i hc
    simp only [not_or] at hc;refine ⟨by rw [List.all_cons,h1];simpa using hc.1,λp hp=>?_⟩;rcases List.mem_cons.1 hp with e|hp
    ·subst e;omega
    ·exact h2 p hp
  ·rename_i h0;exact absurd h h0
end Ck
theorem Nt.qX {n:aA} (h:Nt.check n=0) (k:Nat):0<=(Nt.aD n).getD k 0/\(Nt.aD n).getD k 0<=4294967296:=by
 rw [gdZ];rcases Nat.lt_or_ge k (Nt.aD n).length with hl|hl
 ·rw [geZ hl,Option.getD_some]
  rcases List.mem_cons.1 (gmZ hl) with e|hm
  ·rw [e];omega
  ·exact Nt.lS h n.o.length (lrZ _) _ hm
 ·rw [Zi hl];simp
theorem Nt.mQ {ns:List aP}:∀(os:List Int) (l:Int),Nt.cK ns l os=true->∀k,k<os.length->Nt.iF ns (os.getD k 0)=[if k=0 then l else os.getD (k-1) 0]
 | [],_,_=>λk hk=>absurd hk sZ
 | x::r,l,h=>λk hk=>by
  simp only [Nt.cK,Zz,decide_eq_true_eq] at h;rcases k with _|k
  ·simpa using h.1
  ·have:=Nt.mQ r x h.2 k (by simpa using hk)
   rw [show (x::r).getD (k+1) 0=r.getD k 0 by simp,this,inZ (show ¬k+1=0 by omega),Nat.add_sub_cancel];rcases k with _|q
   ·rfl
   ·rw [inZ oZ,Nat.add_sub_cancel]
    simp
namespace Ch
theorem qfm (l:List Int) (f:Int->Int) {k:Nat} (h:k<l.length):(l.map f).getD k 0=f (l.getD k 0):=by
 rw [gdZ,gdZ,List.getElem?_map,geZ h]
 rfl
theorem chain_in {n:aA} (h:Nt.check n=0) (h12:n.o.length<=12) (hc:Nt.chain n=true) (cap cp:Int):In { (of (Nt.aJ n) (Nt.aH n) cap) with cap:=cp } (Ck.base n cap) (Nt.sO n.o) (Nt.aD n):=by
 obtain ⟨n1,_,_,_,hl,_,hp,_⟩:=Nt.aK h;have hh:(Nt.sO n.o).length=n.o.length:=hl;have hb:({ (of (Nt.aJ n) (Nt.aH n) cap) with cap:=cp }:C).n=n.o.length:=by show (Nt.aH n).length=_;unfold Nt.aH;rw [List.length_map,hh]
 have ha:∀k,1<=k->pos (Nt.sO n.o) k=(Nt.sO n.o).getD (k-1) 0:=λk hk=>inZ oZ
 have hf:∀k:Nat,1<=k->k<=n.o.length->1<=pos (Nt.sO n.o) k/\pos (Nt.sO n.o) k<=n.o.length:=λk h1 h2=>by
  rw [ha k h1,Rt.get_at oZ];have:=Rt.bY (n:=n) _ (gmZ (show k-1<(Nt.sO n.o).length by omega));omega
 have hn:(Nt.sO n.o).Nodup:=(Kn.go_ok _ _ _).nodup
 have ho:Nt.cK n.o 0 (Nt.sO n.o)=true:=by
  unfold Nt.chain at hc;rw [Zz] at hc;exact hc.2
 have he:∀k:Nat,k+1<=n.o.length->Nt.iF n.o (pos (Nt.sO n.o) (k+1))=[pos (Nt.sO n.o) k]:=λk hk=>by
  rw [ha (k+1) oZ,Nat.add_sub_cancel,Nt.mQ _ _ ho k oZ]
  rfl
 refine ⟨?_,by omega,λk h1 h2=>?_,λk h1 h2=>by rw [hb] at h2 ⊢;exact hf k h1 h2,λi j hi hj e=>?_,λk hk=>?_,?_,?_,λd hd=>?_,λk hk=>?_,λk hk=>?_⟩
 ·rw [hb];exact Nt.dB h
 ·rw [hb] at h2
  have:W { (of (Nt.aJ n) (Nt.aH n) cap) with cap:=cp } k=(Nt.aJ n).getD k 0:=rfl;rw [this,ha k h1];unfold Nt.aJ;obtain ⟨q,rfl⟩:∃q,k=q+1:=⟨k-1,by omega⟩
  rw [Nat.add_sub_cancel,List.getD_cons_succ,qfm _ _ oZ]
  rfl
 ·rw [hb] at hi hj
  by_cases e1:i=0
  ·by_cases e2:j=0
   ·omega
   ·have:=hf j oZ hj
    rw [e1,show pos (Nt.sO n.o) 0=0 from rfl] at e;omega
  ·by_cases e2:j=0
   ·have:=hf i oZ hi
    rw [e2,show pos (Nt.sO n.o) 0=0 from rfl] at e;omega
   ·rw [ha i oZ,ha j oZ,Rt.get_at oZ,Rt.get_at oZ] at e
    have:=Rt.nodup_at hn _ _ e;omega
 ·rw [hb] at hk
  have hr:=hf (k+1) oZ hk;rw [←he k hk]
  show ([]::n.o.map (·.ins)).getD (pos (Nt.sO n.o) (k+1)).toNat []=_
  generalize pos (Nt.sO n.o) (k+1)=id at *;obtain ⟨m,rfl⟩:∃m:Nat,id=((m+1:Nat):Int):=⟨id.toNat-1,by omega⟩
  rw [tnZ,gdZ,List.getElem?_cons_succ,List.getElem?_map,geZ oZ,Nt.iF,Int.natCast_succ,Nt.dH oZ]
  rfl
 ·rw [hb]
  show Nt.aI n.o=_
  obtain ⟨_,l1,l2⟩:=Nt.dD hp;have hm:Nt.aI n.o∈Nt.sO n.o:=(Kn.bM hl _).2 ⟨l1,by omega⟩;obtain ⟨j,hj,hg⟩:=List.getElem_of_mem hm
  by_cases e:j+1=n.o.length
  ·rw [←e,ha (j+1) oZ,Nat.add_sub_cancel,Rt.get_at hj,hg]
  ·exfalso
   refine Rt.iO h (pos (Nt.sO n.o) (j+1+1)) ?_;rw [he (j+1) oZ,ha (j+1) oZ,Nat.add_sub_cancel,Rt.get_at hj,hg];simp
 ·rw [hb];exact hh
 ·rw [hb] at hd ⊢
  rw [ha _ oZ,show n.o.length-d-1=n.o.length-1-d by omega]
  rfl
 ·rw [hb] at hk
  show (Nt.aD n).getD _ 0=(Nt.aH n).getD k 0
  unfold Nt.aH;rw [qfm _ _ oZ,ha (k+1) oZ,Nat.add_sub_cancel]
  rfl
 ·rw [hb] at hk
  show 0<=(Nt.aJ n).getD k 0
  unfold Nt.aJ
  have hw:∀z:Int,0<=Nt.wAt n z:=λz=>by
   unfold Nt.wAt;rw [gdZ];rcases Nat.lt_or_ge z.toNat (Nt.words n).length with q|q
   ·rw [geZ q,Option.getD_some]
    have:=Nt.iD h _ (gmZ q);omega
   ·rw [Zi q];simp
  rcases k with _|k
  ·exact hw _
  ·rw [List.getD_cons_succ,qfm _ _ oZ]
   exact hw _
theorem nL (ws cs:List Int) (cap:Int):(plan ws cs cap).2=(bG ws cs cap).2:=by
 unfold plan bG
 split
 ·rfl
 ·split
  ·rfl
  ·split<;>rfl
theorem chain_run {n:aA} (h:Nt.check n=0) (h12:n.o.length<=12) (hc:Nt.chain n=true) {cap:Int} (hl:(bG (Nt.aJ n) (Nt.aH n) cap).2=0):
  (Gr.bP n cap).2=0/\∃pk ag hi,Ck.run n (Gr.bP n cap).1 cap=((pk,(bG (Nt.aJ n) (Nt.aH n) cap).1,ag,hi),0):=by
 have hp:=nL (Nt.aJ n) (Nt.aH n) cap;rw [hl] at hp
 have hu:Gr.bP n cap=((plan (Nt.aJ n) (Nt.aH n) cap).1.map (Gr.re (Nt.sO n.o)),0):=by
  unfold Gr.bP;rw [inZ (by simp [hc]),inZ (by simp [hp])]
 rw [hu];refine ⟨rfl,?_⟩;have ha:=nW (ws:=Nt.aJ n) (cs:=Nt.aH n) (cap:=cap) (by unfold Nt.aJ Nt.aH;rw [List.length_cons,List.length_map,List.length_map]);have hn:(Nt.sO n.o).length=n.o.length:=(Nt.aK h).2.2.2.2.1;have n1:=(Nt.aK h).1;have hf:(Nt.aH n).length=n.o.length:=by unfold Nt.aH;rw [List.length_map,hn]
 have hA:(Nt.aJ n).length=(Nt.aH n).length+1:=by unfold Nt.aJ;rw [List.length_cons,List.length_map,hn,hf]
 have hF:∀k,(Nt.aH n).getD k 0<=4294967296:=λk=>by
  rw [gdZ];rcases Nat.lt_or_ge k (Nt.aH n).length with q|q
  ·rw [geZ q,Option.getD_some]
   have hm:(Nt.aH n)[k]∈(Nt.sO n.o).map (Nt.cAt n):=gmZ q;obtain ⟨z,_,hz⟩:=List.mem_map.1 hm;rw [←hz];exact (Nt.qX h _).2
  ·rw [Zi q];simp
 have hI:=chain_in h h12 hc cap (of (Nt.aJ n) (Nt.aH n) cap).cap;unfold bG at hl ⊢;unfold plan at ha ⊢
 split at hl
 ·simp at hl
 rename_i h1;rw [inZ h1] at ha ⊢;rw [inZ h1]
 split at hl
 ·simp at hl
 rename_i h2;rw [inZ h2] at ha ⊢;rw [inZ h2]
 split at hl
 ·simp at hl
 rename_i h3;rw [inZ h3] at ha ⊢;rw [inZ h3];have hh:=lU (cap:=cap) hA (by simpa using h1) oZ;have hH:(of (Nt.aJ n) (Nt.aH n) cap).cap<=cap:=Int.min_le_left _ _;have hb:(of (Nt.aJ n) (Nt.aH n) cap).n=n.o.length:=hf;have ho:∀k,(of (Nt.aJ n) (Nt.aH n) cap).cost.getD k 0<=4294967296:=hF;rw [←List.length_map (f:=Gr.re (Nt.sO n.o))] at ha;generalize of (Nt.aJ n) (Nt.aH n) cap=c at *;have hI:In c (Ck.base n cap) (Nt.sO n.o) (Nt.aD n):=hI;rw [hf] at h3 ha ⊢;have hq:=hh.cap0;obtain ⟨m,hm⟩:=ezZ hq;have hG:len c 0=m+1:=by unfold len kept;rw [ipZ rfl];omega
 rw [hm,tnZ] at h3 ha ⊢
 obtain ⟨t,ht⟩:=At.part hI hh n.o.length 0 n.o.length m ⟨Zc (n.o.length+1) false,[]⟩ (λk=>decide (k=0)) 0 0 (Ck.start (n.o.length+1)) oZ oZ oZ oZ oZ rfl (λk k1 _=>by simp;omega) (by
  rw [ipZ hb.symm,ipZ hb.symm,decide_eq_false (by simp [hb]),hb,Nat.sub_self];refine ⟨by rw [hb];rfl,by simp [Ck.start,hb],by simp [Ck.start,hb],by simp [Ck.start,hb],by simp [hb],λk hk=>?_,λk h1 hk=>?_,λk h1 hk=>?_,rfl,rfl,rfl,rfl,rfl,by show (0:Int)+0<=cap;omega⟩
  ·have hr:=(hI.nn hk).1
   show Ck.at_ ((Zc (n.o.length+1) false).set 0 true) _=_
   by_cases e:k=0
   ·subst e;rfl
   ·have:=hI.rng k oZ hk
    unfold Ck.at_;rw [gdZ,List.getElem?_set,inZ oZ,List.getElem?_replicate]
    split<;>simp [e]
  ·show Ck.at_ (Zc (n.o.length+1) false) _=(Zc (n.o.length+1) false).getD k false
   unfold Ck.at_;rw [gdZ,gdZ,List.getElem?_replicate,List.getElem?_replicate]
   split<;>split<;>rfl
  ·show Ck.at_ (Zc (n.o.length+1) false) _=_
   unfold Ck.at_;rw [gdZ,List.getElem?_replicate]
   split<;>simp<;>omega) (by show (0:Int)+m<=cap;omega)
 rw [hb,Nat.sub_zero] at ht;have hg:=ht.go;rw [hb] at hg;have hj:=ht.co;have hw:=ht.em;have hx:=ht.done;have hB:=qeF hh (B:=4294967296) ho oZ n.o.length 0 n.o.length m oZ oZ oZ oZ oZ
 have hC:((n.o.length-0:Nat):Int)*((n.o.length-0:Nat):Int)*4294967296<=618475290624:=by
  rw [Nat.sub_zero];have:n.o.length*n.o.length<=12*12:=Nat.mul_le_mul h12 h12;rw [←Int.natCast_mul];omega
 rw [Int.zero_add] at hj;generalize (part c n.o.length 0 n.o.length m ⟨Zc (n.o.length+1) false,[]⟩).code.map (Gr.re (Nt.sO n.o))=cd at *;generalize (Rw c 0 n.o.length).getD m 0=lst at *;obtain ⟨hs,hD⟩:=Ck.qO _ _ _ (by rw [hg]);have hd:=Cd.aK (ps:=cd) oZ hs;have hE:(Nt.aD n).length=n.o.length+1:=by rw [Nt.aD,List.length_cons,Nt.bJ]
 have he:cd.all (Cd.fine (Nt.aD n))=true:=by
  rw [Zf];intro p hp;have h5:p.2<((Nt.words n).length:Int):=hD p hp;rw [Nt.dB h] at h5;have h6:=Nt.qX h p.2.toNat;have h7:Safe.ok ((Nt.aD n).getD p.2.toNat 0)=true:=by rw [Safe.jF];omega
  unfold Cd.fine Cd.kQ;rw [h7,decide_eq_true oZ];simp
 have hv:=Cd.mH hd he (by rw [hj,Safe.jU];omega);refine ⟨t.aB,Cd.count 2 cd,max t.aB (Safe.max ((Nt.words n).drop 1)),?_⟩
 have hy:Ck.whole (Ck.base n cap) t=true:=by
  unfold Ck.whole;rw [hw,hx]
  show (true&&decide (n.o.length=(Nt.sO n.o).length))=true
  simp [hn]
 unfold Ck.run;rw [inZ (by simp [h]),inZ (by simp [hd]),hg,inZ sZ,inZ (by simp [hy]),hv,inZ sZ,hj]
end Ch
theorem qhY {n:aA} (hch:Nt.check n=0) (h12:n.o.length<=12):(1<=Safe.bC n.o.length/\Safe.bC n.o.length<=512)/\qay n (Safe.bC n.o.length)=0:=by
 have h0:=(Nt.aK hch).1;obtain ⟨h1,h2,-⟩:=Safe.nP (n:=(n.o.length:Int)) oZ
 have h3:Safe.bC n.o.length<=512:=by
  rcases Int.lt_or_le 512 (Safe.bC n.o.length) with h3|h3
  ·have:=Int.mul_le_mul (Int.le_of_lt h3) (Int.le_of_lt h3) oZ oZ
   omega
  ·exact h3
 refine ⟨⟨h1,h3⟩,?_⟩;unfold qay;rw [inZ (by simp [hch]),ipZ ⟨h1,h3⟩]
theorem Cd.costs_val {ps:List (Int × Int)} {cost:List Int} (h:(Cd.aD ps cost).2=0):(Cd.aD ps cost).1=Safe.sum (Cd.aM cost ps):=by
 unfold Cd.aD at h ⊢
 split
 ·rename_i h0
  rw [ipZ h0] at h
  split
  ·rename_i h1
   rw [ipZ h1] at h
   split
   ·rfl
   ·rename_i h2;rw [inZ h2] at h;simp at h
  ·rename_i h1;rw [inZ h1] at h;simp at h
 ·rename_i h0;rw [inZ h0] at h;exact absurd h h0
theorem Ck.run_parts {n:aA} {ps:List (Int × Int)} {cap pk co ag hi:Int} (e:Ck.run n ps cap=((pk,co,ag,hi),0)):
  pk=(Ck.go (Ck.base n cap) (Ck.start (n.o.length+1)) ps).1.aB/\co=Safe.sum (Cd.aM (Nt.aD n) ps)/\(Cd.aD ps (Nt.aD n)).2=0:=by
 unfold Ck.run at e
 split at e
 ·rename_i h;exact absurd (congrArg Prod.snd e) h
 split at e
 ·rename_i h;exact absurd (congrArg Prod.snd e) h
 split at e
 ·rename_i h;exact absurd (congrArg Prod.snd e) h
 split at e
 ·simp at e
 split at e
 ·rename_i h;exact absurd (congrArg Prod.snd e) h
 rename_i h;have h:(Cd.aD ps (Nt.aD n)).2=0:=by simpa using h
 have h1:_=pk:=congrArg (λz=>z.1.1) e;have h2:_=co:=congrArg (λz=>z.1.2.1) e;exact ⟨h1.symm,by rw [←h2];exact Cd.costs_val h,h⟩
namespace Gr
theorem qdL {n:aA} (h:Nt.check n=0) (h12:n.o.length<=12) (keep:List Int):(∃ag hi,Ck.run n (Rt.lW n keep).code 1073741824=((aB n keep,cost n keep,ag,hi),0))/\1<=aB n keep/\aB n keep<=1073741824/\Safe.sum (Nt.aD n)<=cost n keep/\
  ((∀z:Int,1<=z->z<=n.o.length->keep.contains z=true)->cost n keep=Safe.sum (Nt.aD n))/\(Cd.aD (Rt.lW n keep).code (Nt.aD n)).2=0:=by
 obtain ⟨pk,co,ag,hi,e,p1,p2,p3,-,p5⟩:=Rw.mV h h12 keep;obtain ⟨q1,q2,q3⟩:=Ck.run_parts e;have q1:pk=aB n keep:=q1;have q2:co=cost n keep:=q2;subst q1 q2;exact ⟨⟨ag,hi,e⟩,p1,p2,p3,λhk=>(p5 hk).1,q3⟩
theorem low_cap {n:aA} (h:Nt.check n=0) (h12:n.o.length<=12) (keep:List Int) (cap:Int):(aB n keep<=cap->∃ag hi,Ck.run n (Rt.lW n keep).code cap=((aB n keep,cost n keep,ag,hi),0))/\(cap<aB n keep->(Ck.run n (Rt.lW n keep).code cap).2≠0):=by
 obtain ⟨⟨ag,hi,e⟩,p1,p2,-⟩:=qdL h h12 keep;have hr:=Ck.oC (n:=n) (ps:=(Rt.lW n keep).code) (cap:=1073741824) oZ (by rw [e]);rw [e] at hr;refine ⟨λhc=>⟨ag,hi,hr.2.2.1 cap hc⟩,λhc h0=>?_⟩;have ha:=Ck.rW h0;have hq:=Ck.oC ha h0;have:=hq.2.2.1 1073741824 oZ;rw [e] at this;rw [←this] at hq;have:=hq.1;simp only at this;omega
def qar (n:aA) (p cap:Int):List Int:=if p=1 then ones n.o.length else if p=2 then qaq n (Safe.bC n.o.length) else (kK n cap).getD []
theorem qdM {pk:List Int->Int} {ws:List Int} {cap:Int}:∀ {m:Nat} {kept:List Int},kept.length<m->fit pk ws cap m kept=none->cap<pk []
 | 0,_,h,_=>absurd h oZ
 | m+1,kept,h,e=>by
  unfold fit at e
  split at e
  ·cases e
  ·rename_i h0
   split at e
   ·rename_i h1
    rw [List.eq_nil_of_length_eq_zero h1] at h0;omega
   ·rename_i h1
    have:=iR (ws:=ws) (kept:=kept) oZ;exact qdM oZ e
theorem qhZ {n:aA} (h:Nt.check n=0) (s:Int):∀z∈qaq n s,1<=z/\z<=(n.o.length:Int):=λz hz=>by
 unfold qaq at hz
 split at hz
 ·rename_i hs
  have hz:=Rt.every_mem.1 hz;unfold Rt.picks at hz;obtain ⟨i,hi,rfl⟩:=List.mem_map.1 hz;have hi:i<(Nt.sO n.o).length / s.toNat:=by simpa using hi
  obtain ⟨h1,-⟩:=Rt.sM (os:=Nt.sO n.o) oZ hi;rw [Rt.get_at h1];have:=Rt.bY (n:=n) _ (gmZ h1);omega
 ·cases hz
theorem qaV {n:aA} (h:Nt.check n=0) (h12:n.o.length<=12) {p:Int} (hp:p=1∨p=2∨p=3) (cap:Int):
  (aB n (qar n p cap)<=cap->∃ag hi,aF n p cap=(⟨p,(Rt.lW n (qar n p cap)).code,aB n (qar n p cap),cost n (qar n p cap),ag,hi⟩,0))/\
  (cap<aB n (qar n p cap)->aF n p cap=(fE,26)):=by
 have key:∀keep,aY n p cap=((Rt.lW n keep).code,0)->(aB n keep<=cap->∃ag hi,aF n p cap=(⟨p,(Rt.lW n keep).code,aB n keep,cost n keep,ag,hi⟩,0))/\(cap<aB n keep->aF n p cap=(fE,26)):=λkeep e=>by
  obtain ⟨h1,h2⟩:=low_cap h h12 keep cap;unfold aF;rw [inZ (by simp [h]),e,inZ sZ];refine ⟨λhc=>?_,λhc=>ipZ (h2 hc)⟩;obtain ⟨ag,hi,e2⟩:=h1 hc;refine ⟨ag,hi,?_⟩;simp only;rw [e2,inZ sZ]
 have ha:∀keep:List Int,(∀z∈keep,1<=z/\z<=(n.o.length:Int))->low n keep=((Rt.lW n keep).code,0):=λkeep hk=>by
  unfold low;rw [ipZ (qcf hk)]
 rcases hp with rfl|rfl|rfl
 ·exact key _ (by unfold aY;rw [ipZ rfl];exact ha _ qfN)
 ·refine key _ ?_
  unfold aY;rw [inZ dZ,ipZ rfl,(qhY h h12).2,inZ dZ];exact ha _ (qhZ h _)
 ·unfold qar
  rw [inZ dZ,inZ dZ];cases hf:kK n cap with
  | none=>
   have:=qdM (by simp [ones]) hf;refine ⟨λhc=>?_,λ_=>?_⟩
   ·show _
    have hc:aB n []<=cap:=hc;omega
   ·unfold aF
    rw [inZ (by simp [h])];have:aY n 3 cap=([],26):=by unfold aY;rw [inZ dZ,inZ dZ,ipZ rfl,hf]
    rw [this]
    rfl
  | some kept=>
   exact key _ (by unfold aY;rw [inZ dZ,inZ dZ,ipZ rfl,hf];rfl)
theorem qgz {n:aA} (h:Nt.check n=0) {p:Int} (hp:¬(1<=p/\p<=4)) (cap:Int):aF n p cap=(fE,11):=by
 have:aY n p cap=([],11):=by unfold aY;rw [inZ oZ,inZ oZ,inZ oZ,inZ oZ]
 unfold aF;rw [inZ (by simp [h]),this]
 rfl
theorem qaJ {n:aA} (h:Nt.check n=0) (h12:n.o.length<=12) (cap:Int):
  (Nt.chain n=false->aF n 4 cap=(fE,27))/\(Nt.chain n=true->
   ((Ch.bG (Nt.aJ n) (Nt.aH n) cap).2≠0->aF n 4 cap=(fE,(Ch.bG (Nt.aJ n) (Nt.aH n) cap).2))/\
   ((Ch.bG (Nt.aJ n) (Nt.aH n) cap).2=0->∃pk ag hi,aF n 4 cap=(⟨4,(bP n cap).1,pk,(Ch.bG (Nt.aJ n) (Nt.aH n) cap).1,ag,hi⟩,0))):=by
 have ha:aY n 4 cap=bP n cap:=by unfold aY;rw [inZ dZ,inZ dZ,inZ dZ,ipZ rfl]
 refine ⟨λhc=>?_,λhc=>⟨λhl=>?_,λhl=>?_⟩⟩
 ·unfold aF
  rw [inZ (by simp [h]),ha,show bP n cap=([],27) from by unfold bP;rw [ipZ hc]]
  rfl
 ·have hp:=Ch.nL (Nt.aJ n) (Nt.aH n) cap
  unfold aF;rw [inZ (by simp [h]),ha,show bP n cap=([],(Ch.bG (Nt.aJ n) (Nt.aH n) cap).2) from by unfold bP;rw [inZ (by simp [hc]),hp,ipZ hl]];rw [ipZ hl]
 ·obtain ⟨e0,pk,ag,hi,e⟩:=Ch.chain_run h h12 hc hl
  refine ⟨pk,ag,hi,?_⟩;unfold aF;rw [inZ (by simp [h]),ha,e0,inZ dZ,e,inZ sZ]
end Gr
namespace Ch
theorem sW (c:C) (l r:Nat):∀j,0<=nd c l r j
 | 0=>Int.le_refl _
 | j+1=>by have:=sW c l r j;unfold nd;omega
theorem oK (c:C) (N:Nat->Nat->Int) (l r:Nat):∀j,0<=dJ c N l r j/\dJ c N l r j<=inf
 | 0=>by unfold dJ inf;omega
 | j+1=>by
  have:=oK c N l r j;have:=sW c l r (j+1);unfold dJ;omega
theorem qM {c:C} (h:Ok c) {l r:Nat} (hlr:l<r) (hr:r<=c.n):0<=need c l r/\need c l r<=inf:=by
 by_cases e:r=l+1
 ·subst e
  have:=dO h (l:=l) oZ;have:=h.w0 (l+1) hr;rw [jR];unfold single inf;omega
 ·rw [kF c l r oZ]
  exact oK _ _ _ _ _
theorem nd_bd {c:C} (h:Ok c) {l r:Nat} (hr:r<=c.n) (j:Nat) (hj:l+1+j<=r):nd c l r j<=196608:=by
 have:=(fQ h (Rw c) (l:=l) hr j hj).2.1
 rwa [qd2] at this
def tab (c:C) (l r i j:Nat):Int:=if i<j/\(l<i∨j<r) then need c i j else 0
def dS (c:C) (n l r i:Nat):List Int:=(List.range (n+1)).map λj=>tab c l r i j
theorem jC (c:C) (n l r i:Nat):(dS c n l r i).length=n+1:=by simp [dS]
theorem tabRow_get (c:C) (n l r i:Nat) {j:Nat} (h:j<=n):(dS c n l r i).getD j 0=tab c l r i j:=by
 have:j<n+1:=by omega
 simp [dS,this]
theorem tabRow_set (c:C) (n l r:Nat) (h:l<r):(dS c n l r l).set r (need c l r)=dS c n l (r+1) l:=by
 apply List.ext_getElem
 ·simp [dS]
 ·intro j h1 h2
  rw [List.getElem_set]
  by_cases e:r=j
  ·subst e
   simp [dS,tab];omega
  ·rw [inZ e]
   simp only [dS,List.getElem_map,List.getElem_range,tab]
   by_cases q:l<j/\j<r
   ·rw [ipZ oZ,ipZ oZ]
   ·rw [inZ oZ,inZ oZ]
theorem tabRow_up (c:C) (n l r r':Nat) {i:Nat} (h:l<i):dS c n l r i=dS c n l r' i:=by
 unfold dS;refine List.map_congr_left λj hj=>?_
 unfold tab
 by_cases q:i<j
 ·rw [ipZ oZ,ipZ oZ]
 ·rw [inZ oZ,inZ oZ]
theorem tabRow_next (c:C) (n l r:Nat) {i:Nat} (h:l<i):dS c n l r i=dS c n (l+1) (n+1) i:=by
 unfold dS;refine List.map_congr_left λj hj=>?_
 have:=List.mem_range.1 hj;unfold tab
 by_cases q:i<j
 ·rw [ipZ oZ,ipZ oZ]
 ·rw [inZ oZ,inZ oZ]
theorem tabRow_zero (c:C) (n l:Nat):dS c n l (l+1) l=Zc (n+1) 0:=by
 rw [List.eq_replicate_iff];refine ⟨jC _ _ _ _ _,λx hx=>?_⟩;obtain ⟨j,-,rfl⟩:=List.mem_map.1 hx;unfold tab;rw [inZ oZ]
def iH (ws cs:List Int):Int × Int:=if right ws cs=false then (0,10) else if 4096<need (of ws cs 0) 0 cs.length then (0,26) else (need (of ws cs 0) 0 cs.length,0)
def fG (n l:Nat) (g:Nat->Nat):List Value:=(List.range (n+1)).map λi=>if l<=i/\i<n then sQ (some ⟨g i,0,none⟩) (n+1) (n+1) else sQ none 0 0
theorem nd_at (n l:Nat) (g:Nat->Nat) {i:Nat} (h:l<=i) (hi:i<n):(fG n l g).toArray[i]? = some (sQ (some ⟨g i,0,none⟩) (n+1) (n+1)):=by
 have:i<n+1:=by omega
 simp [fG,this,h,hi]
theorem nd_next (n l:Nat) (g:Nat->Nat) (q:Nat) (h:l<n):(fG n (l+1) g).toArray.setIfInBounds l (sQ (some ⟨q,0,none⟩) (n+1) (n+1))=(fG n l (λi=>if i=l then q else g i)).toArray:=by
 rw [List.setIfInBounds_toArray]
 congr 1
 apply List.ext_getElem
 ·simp [fG]
 ·intro j h1 h2
  rw [List.getElem_set];simp only [fG,List.getElem_map,List.getElem_range]
  by_cases e:l=j
  ·subst e
   rw [ipZ rfl,ipZ oZ,ipZ rfl]
  ·rw [inZ e,inZ (show ¬j=l by omega)]
   by_cases x:l+1<=j/\j<n
   ·rw [ipZ x,ipZ oZ]
   ·rw [inZ x,inZ oZ]
theorem nd_none (n:Nat) (g:Nat->Nat):fG n n g=Zc (n+1) (sQ none 0 0):=by
 rw [List.eq_replicate_iff];refine ⟨by simp [fG],λx hx=>?_⟩;obtain ⟨j,-,rfl⟩:=List.mem_map.1 hx;rw [inZ oZ]
end Ch
structure NdM (b:Nat) (g:Nat->Nat) (c:Ch.C) (n l r:Nat) (W0 W:Zp1):Prop where
 later:Later W0 W
 box:Blk W b 22 (Ch.fG n l g).toArray
 rows:∀i,l<=i->i<n->Blk W (g i) 3 (qa9 (Ch.dS c n l r i)).toArray
 inj:∀i j,l<=i->i<j->j<n->g i≠g j
 hb:W0.heap.size<=b
 hg:∀i,l<=i->i<n->W0.heap.size<=g i
theorem NdM.to_later {b:Nat} {g:Nat->Nat} {c:Ch.C} {n l r:Nat} {W0 W W':Zp1} (h:NdM b g c n l r W0 W) (hl:Later W W'):NdM b g c n l r W0 W':=
 ⟨h.later.trans hl,hl.blk h.box,λi h1 h2=>hl.blk (h.rows i h1 h2),h.inj,h.hb,h.hg⟩
theorem NdM.store {b:Nat} {g:Nat->Nat} {c:Ch.C} {n l r:Nat} {W0 W:Zp1} (h:NdM b g c n l r W0 W) (hl:l<n) (hlr:l<r):NdM b g c n l (r+1) W0 (W.setCell ⟨g l,r,none⟩ (nQ iQ (Ch.need c l r))):=by
 have ha:b≠g l:=Blk.ne h.box (h.rows l (lrZ _) hl) dZ;refine ⟨h.later.set (p:=⟨g l,r,none⟩) (h.hg l (lrZ _) hl) _,h.box.far (p:=⟨g l,r,none⟩) ha _,λi h1 h2=>?_,h.inj,h.hb,h.hg⟩
 by_cases e:i=l
 ·subst e
  have:=qcL (h.rows i h1 h2) r (Ch.need c i r)
  rwa [Ch.tabRow_set c n i r hlr] at this
 ·have:=(h.rows i h1 h2).far (p:=⟨g l,r,none⟩) (Ne.symm (h.inj l i (lrZ _) oZ h2)) (nQ iQ (Ch.need c l r))
  rwa [Ch.tabRow_up c n l r (r+1) oZ] at this
theorem NdM.next {b:Nat} {g:Nat->Nat} {c:Ch.C} {n l:Nat} {W0 W:Zp1} (h:NdM b g c n (l+1) (n+1) W0 W) (hl:l<n):
  NdM b (λi=>if i=l then W.heap.size else g i) c n l (l+1) W0 ((W.alloc (.cells (madeCells #[nQ iQ 0] (n+1)) 3)).setCell ⟨b,l,none⟩ (sQ (some ⟨W.heap.size,0,none⟩) (n+1) (n+1))):=by
 have ha:Later W (W.alloc (.cells (madeCells #[nQ iQ 0] (n+1)) 3)):=(Later.refl W).alloc _;have hM:=h.to_later ha;have hn:=Blk.new W 3 (madeCells #[nQ iQ 0] (n+1))
 have e:madeCells #[Za1 iQ 0] (n+1)=(qa9 (Zc (n+1) 0)).toArray:=by
  rw [show qa9 (Zc (n+1) 0)=Zc (n+1) (Za1 iQ 0) from by simp [qa9],←qae]
 have hs:=Below.size h.later;refine ⟨hM.later.set (p:=⟨b,l,none⟩) h.hb _,?_,λi h1 h2=>?_,λi j h1 h2 h3=>?_,h.hb,λi h1 h2=>?_⟩
 ·rw [←Ch.nd_next n l g W.heap.size hl]
  exact hM.box.aU l _
 ·by_cases q:i=l
  ·subst q
   simp only [ipZ];rw [Ch.tabRow_zero,←e];exact hn.far (p:=⟨b,i,none⟩) (Ne.symm (Nat.ne_of_lt h.box.lt)) _
  ·simp only [inZ q]
   have hr:=hM.rows i oZ h2;rw [Ch.tabRow_next c n l (l+1) oZ];exact hr.far (p:=⟨b,l,none⟩) (Ne.symm (Blk.ne hM.box hr dZ)) _
 ·by_cases q:i=l
  ·subst q
   simp only [ipZ];rw [inZ oZ];exact Ne.symm (Nat.ne_of_lt (h.rows j oZ h3).lt)
  ·simp only [inZ q]
   rw [inZ oZ];exact h.inj i j oZ h2 h3
 ·by_cases q:i=l
  ·subst q;simp only [ipZ];exact hs
  ·simp only [inZ q];exact h.hg i oZ h2
theorem NdM.nR {b:Nat} {g:Nat->Nat} {c:Ch.C} {n l r:Nat} {W0 W:Zp1} (h:NdM b g c n l r W0 W) {i:Nat} (h1:l<=i) (h2:i<n):W.cell? ⟨b,i,none⟩=some (sQ (some ⟨g i,0,none⟩) (n+1) (n+1)):=by
 rw [h.box.cell];exact Ch.nd_at n l g h1 h2
theorem NdM.dG {b:Nat} {g:Nat->Nat} {c:Ch.C} {n l r:Nat} {W0 W:Zp1} (h:NdM b g c n l r W0 W) {i j:Nat} (h1:l<=i) (h2:i<n) (h3:i<j) (h4:j<=n) (h5:l<i∨j<r):W.cell? ⟨g i,j,none⟩=some (nQ iQ (Ch.need c i j)):=by
 rw [qc9 (h.rows i h1 h2) (by rw [Ch.jC];omega),Ch.tabRow_get _ _ _ _ _ h4];unfold Ch.tab;rw [ipZ ⟨h3,h5⟩]
def uW (ws cs:List Int) (W:Zp1) (e:Ending) (w':Zp1):Prop:=e=.returned (.tuple #[nQ iQ (Ch.iH ws cs).1,nQ iQ (Ch.iH ws cs).2])/\Later W w'
set_option maxRecDepth 100000 in
theorem qeG (Aw Ac:Option Addr) (cw cc n:Nat) (ws cs:List Int) (W:Zp1) (hcl:cs.length=n) (hwl:ws.length=n+1) (hn:n<=1000) (hI:Ints iQ W Aw ws) (hJ:Ints iQ W Ac cs):
  Calls prog 39 #[.agg #[sQ Aw (n+1) cw,sQ Ac n cc]] W (uW ws cs W):=by
 have hQ:Later W (W.alloc (.cells #[sQ Aw (n+1) cw,sQ Ac n cc] 95)):=(Later.refl W).alloc _;have Hh:=Blk.new W 95 #[sQ Aw (n+1) cw,sQ Ac n cc];have Hb:=qcP Aw Ac cw cc n ws cs (W.alloc (.cells #[sQ Aw (n+1) cw,sQ Ac n cc] 95)) hcl hwl hn (hI.below hQ (lrZ _)) (hJ.below hQ (lrZ _));have hP:Ch.iH ws cs=if Ch.right ws cs=false then (0,10) else if 4096<Ch.need (Ch.of ws cs 0) 0 n then (0,26) else (Ch.need (Ch.of ws cs 0) 0 n,0):=by rw [←hcl];rfl
 have hO:∀(v er:Int) (w':Zp1),Later W w'->Ch.iH ws cs=(v,er)->uW ws cs W (.returned (.tuple #[nQ iQ v,nQ iQ er])) w':=λv er w' hl he=>⟨by rw [he],hl⟩
 obtain ⟨Hw,Hn,HI,HJ,Ht,hs⟩:=zd6 hQ Hh hI hJ Hb hO;clear hQ Hh hI hJ Hb hO;go_in;go_wp2_with fail;generalize W.alloc (.cells #[sQ Aw (n+1) cw,sQ Ac n cc] 95)=W1 at *;refine Ht.out.mono ?_;rintro e W2 ⟨rfl,hZ⟩;have hh:=Hw.out.trans hZ;have hx:=hZ.blk Hn.out;clear Ht hZ Hn;cases hr:Ch.right ws cs
 ·rw [hr,ipZ rfl] at hP
  obtain ⟨hG,HP⟩:=zd2 hh hP;clear hh hP;clear hr hx;go_wp2_with fail
  go_ret2
  exact hs.out _ _ _ hG.out HP.out
 rw [hr,inZ sZ] at hP;have hA:=Ch.lU (cap:=0) oZ hr oZ;have hF:(Ch.of ws cs 0).n=n:=hcl;obtain ⟨c,hc⟩:∃c,Ch.of ws cs 0=c:=⟨_,rfl⟩
 have Hd:c.words=ws:=by rw [←hc];rfl
 rw [hc] at hP hA hF;have HH:1<=n:=hF▸hA.n1;have Hz:n<=64:=hF▸hA.n64;have h9:Ints iQ W Aw c.words:=by rw [Hd];exact HI.out
 clear HI HJ hcl hwl hn hr Hd hc;have u0:W2.cell? ⟨W.heap.size,0,none⟩=some (sQ Aw (n+1) cw):=hx.cell 0;have u1:W2.cell? ⟨W.heap.size,1,none⟩=some (sQ Ac n cc):=hx.cell 1
 have HD:∀w:Zp1,(Instr.makeSlice 32 (nQ iQ ((n:Int)+1)) (nQ iQ ((n:Int)+1))).run prog w=.ok (sQ (some ⟨w.heap.size,0,none⟩) (n+1) (n+1)) (w.alloc (.cells (madeCells #[sQ none 0 0] (n+1)) 22)):=λw=>by
  have h:=run_make_row' (P:=prog) 32 22 (sQ none 0 0) 24 underlying32 qbL rfl iQ iQ (n+1) oZ oZ w;rw [Int.natCast_succ] at h;exact h
 have HG:∀w:Zp1,(Instr.makeSlice 22 (nQ iQ ((n:Int)+1)) (nQ iQ ((n:Int)+1))).run prog w=.ok (sQ (some ⟨w.heap.size,0,none⟩) (n+1) (n+1)) (w.alloc (.cells (madeCells #[nQ iQ 0] (n+1)) 3)):=λw=>by
  have h:=run_make_row' (P:=prog) 22 3 (nQ iQ 0) 8 underlying22 qag rfl iQ iQ (n+1) oZ oZ w;rw [Int.natCast_succ] at h;exact h
 have w1:iQ.wrap ((n:Int)+1)=(n:Int)+1:=Zc1 _ oZ;have w2:iQ.wrap ((n:Int)-1)=(n:Int)-1:=Zc1 _ oZ;have hf:Later W2 (W2.alloc (.cells (madeCells #[sQ none 0 0] (n+1)) 22)):=(Later.refl W2).alloc _;have Ha:=Below.size hh
 have Hs:NdM W2.heap.size (λ_=>0) c n n (n+1) W (W2.alloc (.cells (madeCells #[sQ none 0 0] (n+1)) 22)):=by
  refine ⟨hh.trans hf,?_,λi h1 h2=>absurd h1 oZ,λi j h1 h2 h3=>absurd h1 oZ,Ha,λi h1 h2=>absurd h1 oZ⟩;rw [Ch.nd_none,←qae];exact Blk.new W2 _ _
 have hj:=hf.blk hx;have Hc:=h9;have Hv:=hx.lt;have hC:W.heap.size≠W2.heap.size:=Nat.ne_of_lt Hv;obtain ⟨h8,hy,hV,hq,HP,hi,hT⟩:=zd7 Hs hj Hc hA hP hF hC;clear Hs hj Hc hA hP hF hC;clear hf hx h9 hh Ha Hv;go_wp2_with fail;generalize W2.alloc (.cells (madeCells #[sQ none 0 0] (n+1)) 22)=W3 at *;generalize W2.heap.size=b at *;clear u0 u1 HD w1 w2
 go_loopw [6,7,8,9,10,11] (λli _ _ _ _ _ wr=>∃(l:Nat) (g:Nat->Nat),l<=n/\li=nQ iQ ((l:Int)-1)/\NdM b g c n l (n+1) W wr/\Blk wr W.heap.size 95 #[sQ Aw (n+1) cw,sQ Ac n cc]) (λli _ _ _ _ _ _=>(intOf li+1).toNat)
 case atStart=>exact ⟨n,λ_=>0,lrZ _,rfl,h8.out,hy.out⟩
 case round=>
  obtain ⟨L,g,hL,rfl,hM,hk⟩:=hrel;clear h8 hy
  by_cases h0:L=0
  ·subst h0
   have k1:¬(0:Int)<=((0:Nat):Int)-1:=by omega
   have y0:=hM.nR (i:=0) oZ oZ;have y1:=hM.dG (i:=0) (j:=n) oZ oZ oZ oZ (.inr oZ);have k2:(0:Int)<(n:Int)+1:=by omega
   have k3:(n:Int)<(n:Int)+1:=by omega
   have k4:(0:Int)<=(n:Int):=by omega
   have hh:=hM.later;generalize g 0=g0 at *;clear hM hk
   by_cases hz:4096<Ch.need c 0 n
   ·have hu:=HP.out
    rw [ipZ hz] at hu;generalize Ch.need c 0 n=z at *;obtain ⟨h6,hG⟩:=zd2 hu hh;clear hu hh;clear HP;go_wp2_with fail
    go_ret2
    exact hs.out _ _ _ hG.out h6.out
   ·have hu:=HP.out
    rw [inZ hz] at hu;generalize Ch.need c 0 n=z at *;have HL:¬4096<z:=hz;obtain ⟨h6,hG⟩:=zd2 hu hh;clear hu hh;clear HP;go_wp2_with fail
    go_ret2
    exact hs.out _ _ _ hG.out h6.out
  obtain ⟨l,rfl⟩:∃l,L=l+1:=⟨L-1,by omega⟩
  rw [show (((l+1:Nat):Int)-1)=(l:Int) by omega];have h7:=hM.next oZ;have k1:(0:Int)<=(l:Int):=by omega
  have k2:(l:Int)<(n:Int):=by omega
  have k3:(l:Int)<(n:Int)+1:=by omega
  have hf:Later wr (wr.alloc (.cells (madeCells #[nQ iQ 0] (n+1)) 3)):=(Later.refl wr).alloc _;have hU:=hf.blk hM.box;obtain ⟨v,y0⟩:=hU.has (j:=l) (by simp [Ch.fG];omega);have f0:=hU.frozen l;have ht:=(hf.blk hk).far (p:=⟨b,l,none⟩) hT.out (sQ (some ⟨wr.heap.size,0,none⟩) (n+1) (n+1));have w1:iQ.wrap ((n:Int)+1)=(n:Int)+1:=Zc1 _ oZ;have w2:iQ.wrap ((l:Int)+1)=(l:Int)+1:=Zc1 _ oZ;have w3:iQ.wrap ((l:Int)-1)=(l:Int)-1:=Zc1 _ oZ;obtain ⟨Hm,hb⟩:=zd2 h7 ht;clear h7 ht;clear hf hU hM hk h0;go_wp2_with fail;generalize hWn:(wr.alloc (.cells (madeCells #[nQ iQ 0] (n+1)) 3)).setCell ⟨b,l,none⟩ (sQ (some ⟨wr.heap.size,0,none⟩) (n+1) (n+1))=Wn at *;generalize (λi=>if i=l then wr.heap.size else g i)=g' at *;clear y0 f0 hWn
  go_loopw [7,8,9,10,11] (λri _ _ _ _ wr=>∃r:Nat,l+1<=r/\r<=n+1/\ri=nQ iQ (r:Int)/\NdM b g' c n l r W wr/\Blk wr W.heap.size 95 #[sQ Aw (n+1) cw,sQ Ac n cc]) (λri _ _ _ _ _=>n+1-(intOf ri).toNat)
  case atStart=>exact ⟨l+1,lrZ _,by omega,by go_num,Hm.out,hb.out⟩
  case round=>
   obtain ⟨r,HK,HN,rfl,hM,hk⟩:=hrel;clear Hm hb
   by_cases h4:r<=n
   ·have e1:(r:Int)<=(n:Int):=by omega
    have e2:(0:Int)<=(r:Int):=by omega
    have e3:(r:Int)<(n:Int)+1:=by omega
    have w4:iQ.wrap ((r:Int)+1)=(r:Int)+1:=Zc1 _ oZ;have hf:Later wr (wr.alloc (.cells #[nQ iQ l,nQ iQ r] 145)):=(Later.refl wr).alloc _;have hp:=Blk.new wr 145 #[nQ iQ l,nQ iQ r];have hR:=hM.to_later hf;have ht:=hf.blk hk
    by_cases Hi:r=l+1
    ·have d1:((r:Int)==(l:Int)+1)=true:=by simp;omega
     have hN:Ch.need c l r=Ch.single c l r:=by subst Hi;exact Ch.jR c l
     obtain ⟨hg,hb,Hp⟩:=zd3 hR ht hp;clear hR ht hp;clear hf hM hk Hi;go_wp2_with fail;generalize wr.alloc (.cells #[nQ iQ l,nQ iQ r] 145)=Wp at *;generalize wr.heap.size=pb at *;have u0:Wp.cell? ⟨W.heap.size,0,none⟩=some (sQ Aw (n+1) cw):=hb.out.cell 0;have u1:Wp.cell? ⟨W.heap.size,1,none⟩=some (sQ Ac n cc):=hb.out.cell 1;have t0:Wp.cell? ⟨pb,0,none⟩=some (nQ iQ l):=Hp.out.cell 0;have t1:Wp.cell? ⟨pb,1,none⟩=some (nQ iQ r):=Hp.out.cell 1;have y0:=hg.out.nR (i:=l) (lrZ _) oZ;obtain ⟨v2,y1⟩:=(hg.out.rows l (lrZ _) oZ).has (j:=r) (by rw [qat,Ch.jC];omega);have Hj:=λ(Y:Zp1) (h:Later Wp Y)=>qc8 Aw Ac cw cc n c Y hq.out hi.out (hV.out.below (hg.out.later.trans h) (lrZ _)) l r oZ h4
     have hY:=λ(Y:Zp1) (h:Later Wp Y)=>(hg.out.to_later h).store oZ oZ
     have Hl:=λ(Y:Zp1) (h:Later Wp Y) (v:Value)=>(h.blk hb.out).far (p:=⟨g' l,r,none⟩) (Blk.ne hb.out (hg.out.rows l (lrZ _) oZ) dZ) v
     have ha:=hg.out.rows l (lrZ _) oZ;have n1:b≠g' l:=Blk.ne hg.out.box ha dZ;have n2:W.heap.size≠g' l:=Blk.ne hb.out ha dZ;have n3:pb≠g' l:=Blk.ne Hp.out ha dZ;rw [hN] at hY;generalize Ch.single c l r=z at *;generalize g' l=gl at *;obtain ⟨Hg,Hq,Hf,hE⟩:=zd4 Hj hY Hl ha;clear Hj hY Hl ha;have KF:=zI (show ∀Xw,Later Wp Xw->Xw.cell? ⟨b,l,none⟩=some (sQ (some ⟨gl,0,none⟩) (n+1) (n+1))/\Xw.cell? ⟨W.heap.size,0,none⟩=some (sQ Aw (n+1) cw)/\Xw.cell? ⟨W.heap.size,1,none⟩=some (sQ Ac n cc)/\Xw.cell? ⟨pb,0,none⟩=some (nQ iQ l)/\Xw.cell? ⟨pb,1,none⟩=some (nQ iQ r) from λXw h=>⟨h.cell y0,h.cell u0,h.cell u1,h.cell t0,h.cell t1⟩);refine Zm1 ?_;refine Zl1 (S:=λXw=>Xw.cell? ⟨b,l,none⟩=some (sQ (some ⟨gl,0,none⟩) (n+1) (n+1))/\Xw.cell? ⟨W.heap.size,0,none⟩=some (sQ Aw (n+1) cw)/\Xw.cell? ⟨W.heap.size,1,none⟩=some (sQ Ac n cc)/\Xw.cell? ⟨pb,0,none⟩=some (nQ iQ l)/\Xw.cell? ⟨pb,1,none⟩=some (nQ iQ r)) krZ (KF.out _ Lau) (λhHeld=>?_);refine tk 0 ?_;refine tk 1 ?_;refine tk 2 ?_;refine tk 3 ?_;refine tk 4 ?_;refine tk 5 ?_;refine tk 6 ?_;refine rd 7 λK hK=>?_
     simp only [ga,gs,gz]
     go_simp
     go_at_call 76;(with_reducible refine (Hg.out _ (Lau:Later Wp _)).mono ?_);rintro e wa ⟨rfl,hS⟩
     replace hS:Below _ _ wa:=hS;have f0:=((Lau:Later Wp wa).blk hE.out).frozen r;replace y1:=(Lau:Later Wp wa).cell y1
     try go_wp2_with fail
     refine hK.out _ _ (KF.out _ Lau) (λhHeld=>?_);clear hK K
     try simp only [ga,gs,gz,Act.put,sa,sz,ss]
     refine tk 8 ?_;refine rd 9 λK hK=>?_
     simp only [ga,gs,gz]
     go_simp
     refine hK.out _ _ ?_ (λhHeld=>?_)
     ·(try dsimp only);(refine ⟨?_,?_,?_,?_,?_⟩<;>(repeat (refine qau ?_ (by first|omega|(simp;done)|(simp;omega))))<;>(refine Later.cell (Lau:Later Wp _) ?_)<;>assumption)
     clear hK K
     try simp only [ga,gs,gz,Act.put,sa,sz,ss]
     clear KF;refine Zn1 krZ ?_ _;refine Zd1 ?_;have hv:Later Wp wa:=Lau;have hB:=Hq.out _ hv;have hj:=Hf.out _ hv (nQ iQ z);obtain ⟨hW,hy⟩:=zd2 hB hj;clear hB hj;clear hHeld hv hS Hq Hf Hg y0 y1 u0 u1 t0 t1 hg hb Hp hE f0 hN n1 n2 n3;go_wp2_with fail;go_roundw
     case rel=>exact ⟨r+1,by omega,by omega,by go_num,hW.out,hy.out⟩
     case measure=>simp [intOf];omega
    ·have d1:((r:Int)==(l:Int)+1)=false:=by simp;omega
     obtain ⟨hg,hb,Hp⟩:=zd3 hR ht hp;clear hR ht hp;clear hf hM hk;go_wp2_with fail;generalize wr.alloc (.cells #[nQ iQ l,nQ iQ r] 145)=Wp at *;generalize wr.heap.size=pb at *
     go_loopw [9,10,11] (λbe fo kk wr=>∃j k:Nat,k=l+j/\k+1<=r/\be=nQ iQ (Ch.dJ c (Ch.need c) l r j)/\fo=nQ iQ (Ch.nd c l r j)/\kk=nQ iQ ((k:Int)+1)/\Later Wp wr) (λ_ _ kk _=>r-(intOf kk).toNat)
     case atStart=>exact ⟨0,l,rfl,by omega,rfl,rfl,rfl,Later.refl _⟩
     case round=>
      obtain ⟨j,k,hX,HA,rfl,rfl,rfl,hm⟩:=hrel
      by_cases He:k+1<r
      ·have hw:=hm.blk hb.out
       have u0:wr.cell? ⟨W.heap.size,0,none⟩=some (sQ Aw (n+1) cw):=hw.cell 0;have u1:wr.cell? ⟨W.heap.size,1,none⟩=some (sQ Ac n cc):=hw.cell 1;have h5:=hm.blk Hp.out;have t0:wr.cell? ⟨pb,0,none⟩=some (nQ iQ l):=h5.cell 0;have t1:wr.cell? ⟨pb,1,none⟩=some (nQ iQ r):=h5.cell 1;have hd:=hg.out.to_later hm;have b1:=Ch.oK c (Ch.need c) l r j;have b2:=Ch.sW c l r j;have b3:=Ch.nd_bd hq.out (l:=l) (r:=r) (by have:=hi.out;omega) j oZ;have b4:=Ch.lM hq.out (l:=l) (r:=r) (k:=k+1) (by have:=hi.out;omega) (by have:=hi.out;omega);have b5:=hq.out.w0 (k+1) (by have:=hi.out;omega);have b6:=Ch.qM hq.out (l:=k+1) (r:=r) oZ (by have:=hi.out;omega);have b7:=Ch.qM hq.out (l:=l) (r:=k+1) oZ (by have:=hi.out;omega);have q1:Ch.nd c l r (j+1)=max (Ch.nd c l r j) (Ch.step c l r (k+1)):=by rw [show k+1=l+1+j by omega];rfl
       have q2:Ch.dJ c (Ch.need c) l r (j+1)=min (Ch.dJ c (Ch.need c) l r j) (max (Ch.nd c l r (j+1)) (max (Ch.W c (k+1)+Ch.need c (k+1) r) (Ch.need c l (k+1)))):=by rw [show k+1=l+1+j by omega];rfl
       rw [q1] at q2;have Hr:=qbS Aw Ac cw cc n c wr hq.out hi.out (hV.out.below hd.later (lrZ _)) l k r oZ h4;obtain ⟨bw,offw,HE,yw⟩:=Ch.at_ hV.out (k:=k+1) (by have:=hq.out.wl;have:=hi.out;omega);have yw:W.cell? ⟨bw,offw+(k+1),none⟩=some (nQ iQ (Ch.W c (k+1))):=yw;have yw:=hd.later.cell yw;have y0:=hd.nR (i:=l) (lrZ _) oZ;have y1:=hd.nR (i:=k+1) oZ oZ;have y2:=hd.dG (i:=l) (j:=k+1) (lrZ _) oZ oZ oZ (.inr He);have y3:=hd.dG (i:=k+1) (j:=r) oZ oZ oZ h4 (.inl oZ);generalize Ch.dJ c (Ch.need c) l r j=bo at *;generalize Ch.nd c l r j=no at *;generalize Ch.step c l r (k+1)=st at *;generalize Ch.W c (k+1)=wk at *;generalize Ch.need c (k+1) r=n1 at *;generalize Ch.need c l (k+1)=n2 at *;generalize g' l=gl at *;generalize g' (k+1)=gk at *;unfold Ch.inf at b1 b6 b7;have w5:iQ.wrap (wk+n1)=wk+n1:=Zc1 _ oZ;have w6:iQ.wrap ((k:Int)+1+1)=(k:Int)+1+1:=Zc1 _ oZ;have d2:(k:Int)+1<(r:Int):=by omega
       have d3:(0:Int)<=(k:Int)+1:=by omega
       have d4:(k:Int)<(n:Int):=by omega
       have d5:((k:Int)+1).toNat=k+1:=by omega
       subst HE;obtain ⟨Hu,Ho,HF,Hy,HB,Hx⟩:=zd6 hm Hr q1 q2 hd hX;clear hm Hr q1 q2 hd hX;clear hw h5 b1 b2 b3 b4 b5 b6 b7;go_wp2_with fail;refine Ho.out.mono ?_;rintro e ws ⟨rfl,ho⟩;replace u0:=ho.cell u0;replace yw:=ho.cell yw;replace y0:=ho.cell y0;replace y1:=ho.cell y1;replace y2:=ho.cell y2;replace y3:=ho.cell y3;have hD:=Hu.out.trans ho;have hH:=zI hD;clear hD;clear ho u1 t0 t1 Ho Hu HB;go_wp2_with fail;have KF:=zI (show ∀Xw,Later ws Xw->Xw.cell? ⟨W.heap.size,0,none⟩=some (sQ (some ⟨bw,offw,none⟩) (n+1) cw)/\Xw.cell? ⟨bw,offw+(k+1),none⟩=some (nQ iQ wk)/\Xw.cell? ⟨b,k+1,none⟩=some (sQ (some ⟨gk,0,none⟩) (n+1) (n+1))/\Xw.cell? ⟨gk,r,none⟩=some (nQ iQ n1)/\Xw.cell? ⟨b,l,none⟩=some (sQ (some ⟨gl,0,none⟩) (n+1) (n+1))/\Xw.cell? ⟨gl,k+1,none⟩=some (nQ iQ n2) from λXw h=>⟨h.cell u0,h.cell yw,h.cell y1,h.cell y3,h.cell y0,h.cell y2⟩);refine Zm1 ?_;refine Zl1 (S:=λXw=>Xw.cell? ⟨W.heap.size,0,none⟩=some (sQ (some ⟨bw,offw,none⟩) (n+1) cw)/\Xw.cell? ⟨bw,offw+(k+1),none⟩=some (nQ iQ wk)/\Xw.cell? ⟨b,k+1,none⟩=some (sQ (some ⟨gk,0,none⟩) (n+1) (n+1))/\Xw.cell? ⟨gk,r,none⟩=some (nQ iQ n1)/\Xw.cell? ⟨b,l,none⟩=some (sQ (some ⟨gl,0,none⟩) (n+1) (n+1))/\Xw.cell? ⟨gl,k+1,none⟩=some (nQ iQ n2)) krZ (KF.out _ Lau) (λhHeld=>?_);refine tk 0 ?_;refine tk 1 ?_;refine tk 2 ?_;refine tk 3 ?_;refine tk 4 ?_;refine tk 5 ?_;refine tk 6 ?_;refine tk 7 ?_;refine tk 8 ?_;refine tk 9 ?_;refine tk 10 ?_;refine tk 11 ?_;refine tk 12 ?_;refine tk 13 ?_;refine tk 14 ?_;refine tk 15 ?_;refine tk 16 ?_;refine tk 17 ?_;refine tk 18 ?_;refine tk 19 ?_;refine tk 20 ?_;refine tk 21 ?_;refine tk 22 ?_;refine tk 23 ?_;refine tk 24 ?_;clear KF;refine Zn1 krZ ?_ _;refine Zd1 ?_;clear hHeld u0 yw y0 y1 y2 y3;go_wp2_with fail;go_roundw
       case rel=>exact ⟨j+1,k+1,by have:=Hx.out;omega,by omega,by rw [Hy.out];congr 1;(repeat' split)<;>omega,by rw [HF.out],by go_num,by first|exact hH.out.drew|exact hH.out⟩
       case measure=>simp [intOf];omega
      ·have HC:r=k+1:=by omega
       have hd:=hg.out.to_later hm;have hw:=hm.blk hb.out;have y0:=hd.nR (i:=l) (lrZ _) oZ;have ha:=hd.rows l (lrZ _) oZ;obtain ⟨v2,y1⟩:=ha.has (j:=r) (by rw [qat,Ch.jC];omega);have f1:=ha.frozen r;have hB:=hd.store oZ oZ;have hj:=hw.far (p:=⟨g' l,r,none⟩) (Blk.ne hw ha dZ) (nQ iQ (Ch.need c l r));have hN:Ch.dJ c (Ch.need c) l r j=Ch.need c l r:=by rw [Ch.kF c l r oZ,show r-l-1=j by omega]
       rw [hN];generalize Ch.need c l r=z at *;generalize Ch.nd c l r j=no at *;generalize g' l=gl at *;have d2:¬(k:Int)+1<(r:Int):=by omega
       obtain ⟨hW,hy⟩:=zd2 hB hj;clear hB hj;clear hX HC HA He;clear hd hw ha hm hN hg hb Hp;go_wp2_with fail;go_roundw
       case rel=>exact ⟨r+1,by omega,by omega,by go_num,hW.out,hy.out⟩
       case measure=>simp [intOf];omega
   ·obtain rfl:r=n+1:=by omega
    have d1:¬((n+1:Nat):Int)<=(n:Int):=by omega
    obtain ⟨HM,Hk⟩:=zd2 hM hk;clear hM hk;go_wp2_with fail;go_roundw
    case rel=>exact ⟨l,g',by omega,by go_num,HM.out,Hk.out⟩
    case measure=>simp [intOf]
def Gr.bR (n:aA) (pl:Int):Int × Int:=if Nt.check n≠0 then (0,Nt.check n) else if (Gr.aF n pl (if pl=4 then 4096 else 1073741824)).2≠0 then (0,(Gr.aF n pl (if pl=4 then 4096 else 1073741824)).2) else
 if pl=3 then Gr.iH n else if pl=4 then (if Nt.chain n=false then (0,27) else Ch.iH (Nt.aJ n) (Nt.aH n)) else ((Gr.aF n pl (if pl=4 then 4096 else 1073741824)).1.pk,0)
set_option maxRecDepth 100000 in
theorem qdN (A N:Option Addr) (c d:Nat) (n:aA) (pl:Int) (W:Zp1) (hok:n.ok) (hR:bH W A N n) (hd:n.o.length<=d) (h12:n.o.length<=12):
  Calls prog 15 #[.agg #[sQ A n.inn.length c,sQ N n.o.length d],nQ iQ pl] W λe w'=>e=.returned (.tuple #[nQ iQ (Gr.bR n pl).1,nQ iQ (Gr.bR n pl).2])/\Later W w':=by
 have hz:Later W (W.alloc (.cells #[sQ A n.inn.length c,sQ N n.o.length d] 26)):=(Later.refl W).alloc _;have hN:=Blk.new W 26 #[sQ A n.inn.length c,sQ N n.o.length d];obtain ⟨lr,hlr⟩:∃r,Gr.bR n pl=r:=⟨_,rfl⟩
 have hE:lr=if Nt.check n≠0 then (0,Nt.check n) else if (Gr.aF n pl (if pl=4 then 4096 else 1073741824)).2≠0 then (0,(Gr.aF n pl (if pl=4 then 4096 else 1073741824)).2) else
   if pl=3 then Gr.iH n else if pl=4 then (if Nt.chain n=false then (0,27) else Ch.iH (Nt.aJ n) (Nt.aH n)) else ((Gr.aF n pl (if pl=4 then 4096 else 1073741824)).1.pk,0):=by rw [←hlr];rfl
 rw [hlr];obtain ⟨HR,ht,hB,hF,HE⟩:=zd5 hR hok hz hN hE;clear hR hok hz hN hE;clear hlr;go_in;go_wp2_with fail;generalize W.alloc (.cells #[sQ A n.inn.length c,sQ N n.o.length d] 26)=W1 at *;refine (qb1 A N c d n W1 ht.out (HR.out.below hB.out (lrZ _)) hd).mono ?_;rintro e W2 ⟨rfl,h2⟩;have hq:Later W1 W2:=h2;have hh:=hB.out.trans hq;have hk:=hq.blk hF.out;clear h2 hq hF;have hE:=HE.out;clear HE
 by_cases hj:Nt.check n=0
 rotate_left
 ·have hv:(Nt.check n != 0)=true:=by simp [hj]
  rw [ipZ hj] at hE;generalize Nt.check n=er at *;obtain ⟨HE,ho⟩:=zd2 hE hh;clear hE hh;clear hj hk;go_wp2_with fail
  go_ret2
  exact ⟨by rw [HE.out];rfl,ho.out⟩
 rw [inZ (by simp [hj])] at hE;rw [hj];obtain ⟨cp,hcp⟩:∃cp:Int,(if pl=4 then 4096 else 1073741824)=cp:=⟨_,rfl⟩
 have hU : -9223372036854775808<=cp/\cp<=9223372036854775807:=by rw [←hcp];split<;>omega
 rw [hcp] at hE;have u0:W2.cell? ⟨W.heap.size,0,none⟩=some (sQ A n.inn.length c):=hk.cell 0;have u1:W2.cell? ⟨W.heap.size,1,none⟩=some (sQ N n.o.length d):=hk.cell 1;have hl:=qao A N c d n pl cp W2 ht.out (HR.out.below hh (lrZ _)) hd h12 hU;unfold dR at hl;generalize Gr.aF n pl cp=mr at *;obtain ⟨r,er⟩:=mr;simp only at hE hl
 by_cases h3:pl=3
 ·subst h3
  rw [inZ dZ] at hcp;subst hcp;obtain ⟨ho,hs,hm,HE⟩:=zd4 hh hk hl hE;clear hh hk hl hE;go_wp2_with fail;refine hm.out.mono ?_;rintro e W3 ⟨C,cc,rfl,-,hg,-⟩;have hf:Later W3 (W3.alloc (.cells #[nQ iQ r.pl,sQ C r.code.length cc,nQ iQ r.pk,nQ iQ r.co,nQ iQ r.ag,nQ iQ r.hi] 50)):=(Later.refl W3).alloc _;have ha:=(ho.out.trans hg).trans hf;have hb:=(hg.trans hf).blk hs.out;clear u0 u1 hm hg hf;have hE:=HE.out;clear HE
  by_cases he:er=0
  rotate_left
  ·have hv:(er != 0)=true:=by simp [he]
   rw [ipZ he] at hE;obtain ⟨HE,hc⟩:=zd2 hE ha;clear hE ha;clear he hb;go_wp2_with fail
   go_ret2
   exact ⟨by rw [HE.out];rfl,hc.out⟩
  rw [inZ (by simp [he])] at hE;subst he;have u0:(W3.alloc (.cells #[nQ iQ r.pl,sQ C r.code.length cc,nQ iQ r.pk,nQ iQ r.co,nQ iQ r.ag,nQ iQ r.hi] 50)).cell? ⟨W.heap.size,0,none⟩=some (sQ A n.inn.length c):=hb.cell 0;have u1:(W3.alloc (.cells #[nQ iQ r.pl,sQ C r.code.length cc,nQ iQ r.pk,nQ iQ r.co,nQ iQ r.ag,nQ iQ r.hi] 50)).cell? ⟨W.heap.size,1,none⟩=some (sQ N n.o.length d):=hb.cell 1;rw [ipZ (by trivial)] at hE;have hG:=qcZ A N c d n _ ht.out hj (HR.out.below ha (lrZ _)) hd h12;obtain ⟨HE,hc,hM⟩:=zd3 hE ha hG;clear hE ha hG;clear hb;go_wp2_with fail;refine hM.out.mono ?_;rintro e W5 ⟨rfl,hJ⟩;have hn:=hc.out.trans hJ;have hr:=zI hn;clear hn;clear hM hJ u0 u1;go_wp2_with fail
  go_ret2
  exact ⟨by rw [HE.out];rfl,hr.out⟩
 by_cases h4:pl=4
 ·subst h4
  rw [ipZ rfl] at hcp;subst hcp;obtain ⟨ho,hs,hm,HE⟩:=zd4 hh hk hl hE;clear hh hk hl hE;go_wp2_with fail;refine hm.out.mono ?_;rintro e W3 ⟨C,cc,rfl,-,hg,-⟩;have hf:Later W3 (W3.alloc (.cells #[nQ iQ r.pl,sQ C r.code.length cc,nQ iQ r.pk,nQ iQ r.co,nQ iQ r.ag,nQ iQ r.hi] 50)):=(Later.refl W3).alloc _;have ha:=(ho.out.trans hg).trans hf;have hb:=(hg.trans hf).blk hs.out;clear u0 u1 hm hg hf;have hE:=HE.out;clear HE
  by_cases he:er=0
  rotate_left
  ·have hv:(er != 0)=true:=by simp [he]
   rw [ipZ he] at hE;obtain ⟨HE,hc⟩:=zd2 hE ha;clear hE ha;clear he hb;go_wp2_with fail
   go_ret2
   exact ⟨by rw [HE.out];rfl,hc.out⟩
  rw [inZ (by simp [he])] at hE;subst he;have u0:(W3.alloc (.cells #[nQ iQ r.pl,sQ C r.code.length cc,nQ iQ r.pk,nQ iQ r.co,nQ iQ r.ag,nQ iQ r.hi] 50)).cell? ⟨W.heap.size,0,none⟩=some (sQ A n.inn.length c):=hb.cell 0;have u1:(W3.alloc (.cells #[nQ iQ r.pl,sQ C r.code.length cc,nQ iQ r.pk,nQ iQ r.co,nQ iQ r.ag,nQ iQ r.hi] 50)).cell? ⟨W.heap.size,1,none⟩=some (sQ N n.o.length d):=hb.cell 1;rw [inZ dZ,ipZ (by trivial)] at hE;have hC:=qc6 A N c d n (W3.alloc (.cells #[nQ iQ r.pl,sQ C r.code.length cc,nQ iQ r.pk,nQ iQ r.co,nQ iQ r.ag,nQ iQ r.hi] 50)) ht.out (HR.out.below ha (lrZ _)) hd oZ;have hD:(Nt.aJ n).length=n.o.length+1:=by unfold Nt.aJ;rw [List.length_cons,List.length_map,Rt.bX hj]
  have hA:(Nt.aH n).length=n.o.length:=by unfold Nt.aH;rw [List.length_map,Rt.bX hj]
  obtain ⟨HE,hc,hH,hQ,hS⟩:=zd5 hE ha hC hD hA;clear hE ha hC hD hA;clear hb;go_wp2_with fail;refine hH.out.mono ?_;rintro e W5 ⟨hu,⟨-,hp,A1,c1,A2,c2,rfl,hy,hL,hT,-⟩|⟨-,hp,rfl⟩|⟨h0,-⟩⟩
  rotate_left
  ·have hn:=hc.out.trans hu
   have hE:=HE.out;rw [ipZ hp] at hE;obtain ⟨hr,HE,hO⟩:=zd3 hn hE hp;clear hn hE hp;clear hu u0 u1;go_wp2_with fail
   go_ret2
   exact ⟨by rw [HE.out];rfl,hr.out⟩
  ·exact absurd hj h0
  have hn:=hc.out.trans hu;have hE:=HE.out;rw [hp,inZ sZ] at hE;have hw:=qeG A1 A2 c1 c2 n.o.length (Nt.aJ n) (Nt.aH n) W5 hS.out hQ.out oZ hy hL;unfold uW at hw;generalize Ch.iH (Nt.aJ n) (Nt.aH n)=lo at *;obtain ⟨hr,HE,hI,hO⟩:=zd4 hn hE hw hp;clear hn hE hw hp;clear hu u0 u1 hH hy hL;go_wp2_with fail;refine hI.out.mono ?_;rintro e W6 ⟨rfl,hK⟩;have hx:=hr.out.trans hK;have hP:=zI hx;clear hx;clear hI hK;go_wp2_with fail
  go_ret2
  exact ⟨by rw [HE.out];rfl,hP.out⟩
 rw [inZ h4] at hcp;subst hcp;have p3:(pl==3)=false:=by simp [h3]
 have p4:(pl==4)=false:=by simp [h4]
 obtain ⟨ho,hs,hm,HE⟩:=zd4 hh hk hl hE;clear hh hk hl hE;go_wp2_with fail;refine hm.out.mono ?_;rintro e W3 ⟨C,cc,rfl,-,hg,-⟩;have hf:Later W3 (W3.alloc (.cells #[nQ iQ r.pl,sQ C r.code.length cc,nQ iQ r.pk,nQ iQ r.co,nQ iQ r.ag,nQ iQ r.hi] 50)):=(Later.refl W3).alloc _;have ha:=(ho.out.trans hg).trans hf;have hb:=(hg.trans hf).blk hs.out;clear u0 u1 hm hg hf;have hE:=HE.out;clear HE
 by_cases he:er=0
 rotate_left
 ·have hv:(er != 0)=true:=by simp [he]
  rw [ipZ he] at hE;obtain ⟨HE,hc⟩:=zd2 hE ha;clear hE ha;clear he hb;go_wp2_with fail
  go_ret2
  exact ⟨by rw [HE.out];rfl,hc.out⟩
 rw [inZ (by simp [he])] at hE;subst he;have u0:(W3.alloc (.cells #[nQ iQ r.pl,sQ C r.code.length cc,nQ iQ r.pk,nQ iQ r.co,nQ iQ r.ag,nQ iQ r.hi] 50)).cell? ⟨W.heap.size,0,none⟩=some (sQ A n.inn.length c):=hb.cell 0;have u1:(W3.alloc (.cells #[nQ iQ r.pl,sQ C r.code.length cc,nQ iQ r.pk,nQ iQ r.co,nQ iQ r.ag,nQ iQ r.hi] 50)).cell? ⟨W.heap.size,1,none⟩=some (sQ N n.o.length d):=hb.cell 1;rw [inZ h3,inZ h4] at hE;have v0:(W3.alloc (.cells #[nQ iQ r.pl,sQ C r.code.length cc,nQ iQ r.pk,nQ iQ r.co,nQ iQ r.ag,nQ iQ r.hi] 50)).cell? ⟨W3.heap.size,2,none⟩=some (nQ iQ r.pk):=(Blk.new W3 50 #[nQ iQ r.pl,sQ C r.code.length cc,nQ iQ r.pk,nQ iQ r.co,nQ iQ r.ag,nQ iQ r.hi]).cell 2;obtain ⟨HE,hc⟩:=zd2 hE ha;clear hE ha;clear hb h3 h4;go_wp2_with fail
 go_ret2
 exact ⟨by rw [HE.out];rfl,hc.out⟩
namespace Ch
theorem qd3 (c:C) (cap:Int):∀(f l r:Nat),qbo { c with cap:=cap } f l r=qbo c f l r
 | 0,_,_=>rfl
 | f+1,l,r=>by
  have ha:∀j,nd { c with cap:=cap } l r j=nd c l r j:=λj=>by
   induction j with
   | zero=>rfl
   | succ j ih=>unfold nd;rw [ih];rfl
  have hb:∀j,dJ { c with cap:=cap } (qbo { c with cap:=cap } f) l r j=dJ c (qbo c f) l r j:=λj=>by
   induction j with
   | zero=>rfl
   | succ j ih=>
    unfold dJ;rw [ih,ha,qd3 c cap f,qd3 c cap f]
    rfl
  unfold qbo
  by_cases e:r=l+1
  ·rw [ipZ e,ipZ e];rfl
  ·rw [inZ e,inZ e];exact hb _
theorem uV {ws cs:List Int} (hl:ws.length=cs.length+1) (hr:right ws cs=true) {cap:Int} (hc:0<=cap/\cap<=4096):
  ((bG ws cs cap).2=0↔need (of ws cs 0) 0 cs.length<=cap)/\((bG ws cs cap).2=0∨(bG ws cs cap).2=26):=by
 have ha:=lU hl hr hc;have hb:=ha.n1;have he:(of ws cs cap).n=cs.length:=rfl;obtain ⟨m,hm⟩:=ezZ ha.cap0;have hd:len (of ws cs cap) 0=m+1:=by unfold len kept;rw [ipZ rfl];omega
 have h1:=qfl ha cs.length 0 cs.length m oZ oZ oZ oZ;have h2:=qhX ha cs.length 0 cs.length oZ oZ oZ;have h3:need (of ws cs cap) 0 cs.length=need (of ws cs 0) 0 cs.length:=qd3 (of ws cs 0) (of ws cs cap).cap _ _ _;have h4:kept (of ws cs cap) 0=0:=ipZ rfl;have h5:most (of ws cs cap).words 0=0:=rfl;have h6:(of ws cs cap).cap=min cap (most ws cs.length):=rfl;have h7:most (of ws cs cap).words cs.length=most ws cs.length:=rfl;unfold bG;rw [inZ (by simp [hr]),inZ oZ,hm,tnZ];rw [h3] at h1 h2
 split
 ·exact ⟨⟨λh=>absurd h sZ,λh=>by omega⟩,.inr rfl⟩
 ·exact ⟨⟨λ_=>by omega,λ_=>rfl⟩,.inl rfl⟩
theorem qeH {ws cs:List Int} {cap:Int} (h:(bG ws cs cap).2=0):right ws cs=true/\(0<=cap/\cap<=4096)/\(bG ws cs cap).1=(Rw (of ws cs cap) 0 cs.length).getD (of ws cs cap).cap.toNat 0:=by
 unfold bG at h ⊢
 split at h
 ·simp at h
 rename_i hr
 split at h
 ·simp at h
 rename_i hcp
 split at h
 ·simp at h
 rename_i hz;rw [inZ hr,inZ hcp,inZ hz];exact ⟨by simpa using hr,by omega,rfl⟩
theorem least_mono {ws cs:List Int} (hl:ws.length=cs.length+1) {cap more:Int} (hm0:0<=more) (hc:cap+more<=4096) (h:(bG ws cs cap).2=0):(bG ws cs (cap+more)).2=0/\(bG ws cs (cap+more)).1<=(bG ws cs cap).1:=by
 obtain ⟨hr,hn,hv⟩:=qeH h;have hf:=(uV hl hr (cap:=cap) oZ).1.1 h;have hb:=(uV hl hr (cap:=cap+more) oZ).1.2 oZ;refine ⟨hb,?_⟩;rw [hv,(qeH hb).2.2];have hd:=lU hl hr (cap:=cap) oZ;have ha:=lU hl hr (cap:=cap+more) oZ;have hi:=hd.n1;have hk:(of ws cs cap).n=cs.length:=rfl;have hh:(of ws cs (cap+more)).n=cs.length:=rfl;obtain ⟨m,hm⟩:=ezZ hd.cap0;obtain ⟨m',he⟩:=ezZ ha.cap0;have hj:len (of ws cs cap) 0=m+1:=by unfold len kept;rw [ipZ rfl];omega
 have hg:len (of ws cs (cap+more)) 0=m'+1:=by unfold len kept;rw [ipZ rfl];omega
 have h6:(of ws cs cap).cap=min cap (most ws cs.length):=rfl;have h7:(of ws cs (cap+more)).cap=min (cap+more) (most ws cs.length):=rfl;have e1:=qhW ha (of ws cs cap).cap cs.length 0 cs.length m oZ oZ oZ oZ (by show m<len (of ws cs cap) 0;omega);have e2:=qfk ha cs.length 0 cs.length m m' oZ oZ oZ oZ oZ;have e1:(Rw (of ws cs (cap+more)) 0 cs.length).getD m 0=(Rw (of ws cs cap) 0 cs.length).getD m 0:=e1;rw [hm,he,tnZ,tnZ];omega
end Ch
namespace Gr
theorem qd4 {n:aA} (h:Nt.check n=0):(Nt.aJ n).length=(Nt.aH n).length+1:=by unfold Nt.aJ Nt.aH;rw [List.length_cons,List.length_map,List.length_map]
theorem qi0 {n:aA} (h:Nt.check n=0) (h12:n.o.length<=12):∀(m:Nat) (kept:List Int) (s:Lo),kept.length<m->(s.fnd=true->s.good=s.low)->
  ((eP n m kept s).fnd=true->(eP n m kept s).good=(eP n m kept s).low)/\(eP n m kept s).low<=s.low/\(eP n m kept s).low<=aB n kept/\((eP n m kept s).fnd=true∨(eP n m kept s)=s)/\
  (∀cap,(eP n m kept s).low<=cap->s.low<=cap∨fit (aB n) (Nt.words n) cap m kept≠none)/\(∀cap,cap<(eP n m kept s).low->fit (aB n) (Nt.words n) cap m kept=none)
 | 0,_,_,h0,_=>absurd h0 oZ
 | m+1,kept,s,hl,hs=>by
  have hc:=(qdL h h12 kept).2.2.2.2.2;obtain ⟨s1,hs1⟩:∃s1,look n kept s=s1:=⟨_,rfl⟩
  have q:(s1.fnd=true->s1.good=s1.low)/\s1.low<=s.low/\s1.low<=aB n kept/\(s1.fnd=true∨s1=s)/\(s1.low=aB n kept∨s1.low=s.low):=by
   rw [←hs1];unfold look;rw [ipZ hc]
   split
   ·exact ⟨λ_=>rfl,by simp only;omega,Int.le_refl _,.inl rfl,.inl rfl⟩
   ·exact ⟨hs,Int.le_refl _,by omega,.inr rfl,.inr rfl⟩
  obtain ⟨q1,q2,q3,q4,q5⟩:=q;unfold eP;rw [hs1]
  by_cases hk:kept.length=0
  ·rw [ipZ hk]
   refine ⟨q1,q2,q3,q4,λcap ha=>?_,λcap ha=>?_⟩
   ·unfold fit
    by_cases hp:aB n kept<=cap
    ·rw [ipZ hp];exact .inr sZ
    ·left;omega
   ·unfold fit
    rw [inZ oZ,ipZ hk]
  ·rw [inZ hk]
   have hb:=iR (ws:=Nt.words n) (kept:=kept) oZ;obtain ⟨r1,r2,r3,r4,r5,r6⟩:=qi0 h h12 m (less (Nt.words n) kept) s1 oZ q1;refine ⟨r1,by omega,by omega,?_,λcap ha=>?_,λcap ha=>?_⟩
   ·rcases r4 with r4|r4
    ·exact .inl r4
    ·rw [r4];exact q4
   ·unfold fit
    by_cases hp:aB n kept<=cap
    ·rw [ipZ hp];exact .inr sZ
    ·rw [inZ hp,inZ hk]
     rcases r5 cap ha with r5|r5
     ·rcases q5 with q5|q5
      ·exact absurd r5 oZ
      ·exact .inl oZ
     ·exact .inr r5
   ·unfold fit
    rw [inZ oZ,inZ hk];exact r6 cap ha
theorem qdO {n:aA} (h:Nt.check n=0) (h12:n.o.length<=12) (cap:Int):(kK n cap≠none->(aF n 3 cap).2=0)/\(kK n cap=none->(aF n 3 cap).2=26):=by
 obtain ⟨h1,h2⟩:=qaV h h12 (p:=3) oZ cap;have hk:qar n 3 cap=(kK n cap).getD []:=by unfold qar;rw [inZ dZ,inZ dZ]
 refine ⟨λhf=>?_,λhf=>?_⟩
 ·cases he:kK n cap with
  | none=>exact absurd he hf
  | some kept=>
   have hp:=(qf7 he).2;rw [hk,he] at h1;obtain ⟨ag,hi,e⟩:=h1 hp;rw [e]
 ·have hp:=qdM (by simp [ones]) hf
  rw [hk,hf] at h2;rw [h2 hp]
theorem lowest_ok {n:aA} (h12:n.o.length<=12) (p:Int):(0<=(bR n p).1/\(bR n p).1<=1073741824)/\
  ((bR n p).2≠0->(bR n p).1=0/\(aF n p 4096).2≠0)/\
  ((bR n p).2=0->(aF n p (bR n p).1).2=0/\((aF n p ((bR n p).1-1)).2=26∨(aF n p ((bR n p).1-1)).2=11)/\(4096<(bR n p).1∨(aF n p 4096).2=0)):=by
 by_cases h:Nt.check n=0
 rotate_left
 ·have e:bR n p=(0,Nt.check n):=ipZ h
  have e2:∀cap,aF n p cap=(fE,Nt.check n):=λcap=>ipZ h
  rw [e,e2];exact ⟨by simp,λ_=>⟨rfl,h⟩,λh0=>absurd h0 h⟩
 have hd:=λkeep=>(qdL h h12 keep).2
 by_cases hr:1<=p/\p<=4
 rotate_left
 ·have e2:∀cap,aF n p cap=(fE,11):=qgz h hr
  have e:bR n p=(0,11):=by
   unfold bR;rw [inZ (by simp [h]),e2,ipZ dZ]
  rw [e,e2];exact ⟨by simp,λ_=>⟨rfl,by decide⟩,λh0=>absurd h0 dZ⟩
 by_cases h4:p=4
 ·subst h4
  obtain ⟨c1,c2⟩:=qaJ h h12 4096
  have hL:bR n 4=if (aF n 4 4096).2≠0 then (0,(aF n 4 4096).2) else if Nt.chain n=false then (0,27) else Ch.iH (Nt.aJ n) (Nt.aH n):=by
   unfold bR;rw [inZ (by simp [h]),ipZ rfl];refine ite_congr rfl (λ_=>rfl) λ_=>?_
   rw [inZ dZ,ipZ rfl]
  by_cases hz:(aF n 4 4096).2=0
  rotate_left
  ·rw [ipZ hz] at hL
   rw [hL];exact ⟨by simp,λ_=>⟨rfl,hz⟩,λh0=>absurd h0 hz⟩
  rw [inZ (by simp [hz])] at hL;cases hc:Nt.chain n
  ·rw [c1 hc] at hz;simp at hz
  rw [hc,inZ dZ] at hL;have c3:=(c2 hc).1
  have hg:(Ch.bG (Nt.aJ n) (Nt.aH n) 4096).2=0:=by
   by_cases q:(Ch.bG (Nt.aJ n) (Nt.aH n) 4096).2=0
   ·exact q
   ·rw [c3 q] at hz;exact absurd hz q
  have hf:Ch.right (Nt.aJ n) (Nt.aH n)=true:=by
   unfold Ch.bG at hg
   split at hg
   ·simp at hg
   ·rename_i q;simpa using q
  have hl:=λ(cp:Int) (hcp:0<=cp/\cp<=4096)=>Ch.uV (qd4 h) hf (cap:=cp) hcp
  have hv:=(hl 4096 oZ).1.1 hg;have ha:=Ch.lU (cap:=0) (qd4 h) hf oZ;have hu:=Ch.qM ha (l:=0) (r:=(Nt.aH n).length) (by have:=ha.n1;exact this) (lrZ _)
  have hk:Ch.iH (Nt.aJ n) (Nt.aH n)=(Ch.need (Ch.of (Nt.aJ n) (Nt.aH n) 0) 0 (Nt.aH n).length,0):=by
   unfold Ch.iH;rw [inZ (by simp [hf]),inZ oZ]
  rw [hk] at hL;rw [hL];generalize Ch.need (Ch.of (Nt.aJ n) (Nt.aH n) 0) 0 (Nt.aH n).length=z at *;simp only;refine ⟨by omega,λh0=>absurd rfl h0,λ_=>⟨?_,?_,.inr hz⟩⟩
  ·obtain ⟨pk,ag,hi,e⟩:=((qaJ h h12 z).2 hc).2 ((hl z oZ).1.2 (Int.le_refl _))
   rw [e]
  ·have c5:=((qaJ h h12 (z-1)).2 hc).1
   by_cases hp:z-1<0
   ·have:(Ch.bG (Nt.aJ n) (Nt.aH n) (z-1)).2=11:=by
     unfold Ch.bG;rw [inZ (by simp [hf]),ipZ (.inl hp)]
    rw [c5 (by rw [this];decide),this];exact .inr rfl
   ·have hq:=hl (z-1) oZ
    rcases hq.2 with q|q
    ·have:=hq.1.1 q
     omega
    ·rw [c5 (by rw [q];decide),q]
     exact .inl rfl
 have hL:bR n p=if (aF n p 1073741824).2≠0 then (0,(aF n p 1073741824).2) else if p=3 then iH n else ((aF n p 1073741824).1.pk,0):=by
  unfold bR;rw [inZ (by simp [h]),inZ h4,inZ h4]
 have hh:∃ag hi,aF n p 1073741824=(⟨p,(Rt.lW n (qar n p 1073741824)).code,aB n (qar n p 1073741824),cost n (qar n p 1073741824),ag,hi⟩,0):=(qaV h h12 oZ 1073741824).1 (hd _).2.1;obtain ⟨ag,hi,hh⟩:=hh;rw [hh,inZ sZ] at hL
 by_cases h3:p=3
 ·subst h3
  rw [ipZ rfl] at hL;obtain ⟨r1,r2,r3,r4,r5,r6⟩:=qi0 h h12 (n.o.length+1) (ones n.o.length) ⟨1073741825,false,0⟩ (by simp [ones]) sZ
  have hm:(eP n (n.o.length+1) (ones n.o.length) ⟨1073741825,false,0⟩).fnd=true:=by
   rcases r4 with r4|r4
   ·exact r4
   ·rw [r4] at r3
    have:=(hd (ones n.o.length)).2.1;simp only at r3;omega
  have r1:=r1 hm
  have hk:iH n=((eP n (n.o.length+1) (ones n.o.length) ⟨1073741825,false,0⟩).low,0):=by
   unfold iH;rw [hm,inZ dZ,r1]
  rw [hk] at hL;rw [hL]
  have ht:0<=(eP n (n.o.length+1) (ones n.o.length) ⟨1073741825,false,0⟩).low:=by
   rcases Int.lt_or_le (eP n (n.o.length+1) (ones n.o.length) ⟨1073741825,false,0⟩).low 0 with q|q
   ·rcases r5 _ (Int.le_refl _) with r5|r5
    ·simp only at r5;omega
    ·cases he:fit (aB n) (Nt.words n) (eP n (n.o.length+1) (ones n.o.length) ⟨1073741825,false,0⟩).low (n.o.length+1) (ones n.o.length) with
     | none=>exact absurd he r5
     | some kept=>
      have:=(qf7 he).2;have:=(hd kept).1;omega
   ·exact q
  have hs:=(hd (ones n.o.length)).2.1;generalize (eP n (n.o.length+1) (ones n.o.length) ⟨1073741825,false,0⟩).low=z at *;simp only at r5 ⊢
  have hn:∀cap,z<=cap->cap<=1073741824->kK n cap≠none:=λcap h1 h2=>by
   rcases r5 cap h1 with q|q
   ·omega
   ·exact q
  refine ⟨by omega,λh0=>absurd rfl h0,λ_=>⟨(qdO h h12 z).1 (hn z (Int.le_refl _) oZ),.inl ((qdO h h12 (z-1)).2 (r6 _ oZ)),?_⟩⟩;rcases Int.lt_or_le 4096 z with q|q
  ·exact .inl q
  ·exact .inr ((qdO h h12 4096).1 (hn 4096 q oZ))
 ·rw [inZ h3] at hL
  rw [hL];have hj:p=1∨p=2:=by omega
  have ho:∀cap,qar n p cap=qar n p 1073741824:=λcap=>by
   unfold qar;rcases hj with rfl|rfl<;>rfl
  have hb:=hd (qar n p 1073741824);have ha:=λcap=>qaV h h12 (p:=p) oZ cap
  simp only [ho] at ha;generalize aB n (qar n p 1073741824)=z at *;simp only;refine ⟨by omega,λh0=>absurd rfl h0,λ_=>⟨?_,?_,?_⟩⟩
  ·obtain ⟨ag,hi,e⟩:=(ha z).1 (Int.le_refl _)
   rw [e]
  ·rw [(ha (z-1)).2 oZ]
   exact .inl rfl
  ·rcases Int.lt_or_le 4096 z with q|q
   ·exact .inl q
   ·obtain ⟨ag,hi,e⟩:=(ha 4096).1 q
    exact .inr (by rw [e])
theorem more_ok {n:aA} (h:Nt.check n=0) (h12:n.o.length<=12) {k cap more:Int} (hk:k=1∨k=2∨k=4) (hm:0<=more) (hc:cap+more<=4096) (hz:(aF n k cap).2=0):
  (aF n k (cap+more)).2=0/\(aF n k (cap+more)).1.co<=(aF n k cap).1.co:=by
 by_cases h4:k=4
 ·subst h4
  obtain ⟨c1,c2⟩:=qaJ h h12 cap;cases hch:Nt.chain n
  ·rw [c1 hch] at hz;simp at hz
  have c2:=c2 hch
  have ha:(Ch.bG (Nt.aJ n) (Nt.aH n) cap).2=0:=by
   by_cases q:(Ch.bG (Nt.aJ n) (Nt.aH n) cap).2=0
   ·exact q
   ·rw [c2.1 q] at hz;exact absurd hz q
  obtain ⟨l1,l2⟩:=Ch.least_mono (qd4 h) hm hc ha;obtain ⟨pk,ag,hi,e⟩:=c2.2 ha;obtain ⟨pk2,ag2,hd,e2⟩:=((qaJ h h12 (cap+more)).2 hch).2 l1;rw [e,e2];exact ⟨rfl,l2⟩
 ·have hb:qar n k cap=qar n k (cap+more):=by
   unfold qar;have:k=1∨k=2:=by omega
   rcases this with rfl|rfl<;>rfl
  obtain ⟨m1,m2⟩:=qaV h h12 (p:=k) oZ cap;have m3:=(qaV h h12 (p:=k) oZ (cap+more)).1;rw [hb] at m1 m2;rcases Int.lt_or_le cap (aB n (qar n k (cap+more))) with q|q
  ·rw [m2 q] at hz;simp at hz
  ·obtain ⟨ag,hi,e⟩:=m1 q
   obtain ⟨ag2,hd,e2⟩:=m3 oZ;rw [e,e2];exact ⟨rfl,Int.le_refl _⟩
theorem best_big {n:aA} (h:Nt.check n=0) (h12:n.o.length<=12):(bK n 1073741824).2=0/\(bK n 1073741824).1.pl=1/\(bK n 1073741824).1.co=Safe.sum (Nt.aD n):=by
 have ha:=λkeep=>(qdL h h12 keep).2
 obtain ⟨ag,hi,e1⟩:=(qaV h h12 (p:=1) (.inl rfl) 1073741824).1 (ha _).2.1
 have hb:cost n (qar n 1 1073741824)=Safe.sum (Nt.aD n):=by
  refine (ha _).2.2.2.1 λz z1 z2=>?_
  show (ones n.o.length).contains z=true
  rw [List.contains_iff_mem];unfold ones;rw [List.mem_map];exact ⟨(z-1).toNat,by rw [List.mem_range];omega,by omega⟩
 rcases iW h 1073741824 with ⟨i1,-⟩|⟨b0,j,hj,b1,b2,-,-,b5⟩
 ·have:=i1 0 oZ
  rw [show ((0:Nat):Int)+1=1 from rfl,e1] at this;exact absurd rfl this
 ·have g:=b5 0 oZ (by rw [show ((0:Nat):Int)+1=1 from rfl,e1])
  rw [show ((0:Nat):Int)+1=1 from rfl,e1] at g;simp only at g;rw [hb] at g
  have hf:Safe.sum (Nt.aD n)<=(bK n 1073741824).1.co:=by
   by_cases h4:j=3
   ·subst h4
    have hd:(Ch.bG (Nt.aJ n) (Nt.aH n) 1073741824).2≠0:=by
     unfold Ch.bG
     split
     ·decide
     ·rw [ipZ (.inr oZ)];decide
    obtain ⟨c1,c2⟩:=qaJ h h12 1073741824;have b1:aF n 4 1073741824=((bK n 1073741824).1,0):=b1;cases hc:Nt.chain n
    ·rw [c1 hc] at b1;exact absurd (congrArg Prod.snd b1) (show ¬((27:Int)=0) by decide)
    ·rw [(c2 hc).1 hd] at b1
     exact absurd (congrArg Prod.snd b1) hd
   ·obtain ⟨ag2,hg,e2⟩:=(qaV h h12 (p:=(j:Int)+1) oZ 1073741824).1 (ha _).2.1
    rw [e2] at b1;have b1:=congrArg (λz=>z.1.co) b1;simp only at b1;rw [←b1];exact (ha _).2.2.1
  have he:Safe.sum (Nt.aD n)=(bK n 1073741824).1.co:=by omega
  have:=g.2.1 he;exact ⟨b0,by omega,he.symm⟩
end Gr
end Go.Proofs.YtddkenhemnkkeaaGreat
