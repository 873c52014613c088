/- Lemmas for the statements of this seat: contracts of functions and the plain laws. -/
import Derived.ChangeKeysEq
import Derived.Deep.AppendLies
import Derived.Deep.DeepCutAuto
import Derived.Deep.RegionHeld3
import Derived.Maps.AppendAt
import Derived.StillTailTactics
import Derived.Test.YtddkenhemnkkeaaGreatK07
set_option linter.unusedVariables false
open Go.IntKind renaming i64 → iQ
open Go.Value renaming int → nQ, slice → sQ
open List renaming take_succ_eq_append_getElem → Zb, replicate → Zc, drop_eq_getElem_cons → Zd, length_append → Ze, all_eq_true → Zf, take_length → Zg, mem_of_mem_take → Zh, getElem?_eq_none → Zi, flatMap_append → Zj, getElem?_toArray → Zk, getElem?_append_right → Zl, getElem?_append_left → Zm, take_append_drop → Zn, length_take → Zo, mem_of_mem_drop → Zp, length_drop → Zq, getElem?_set_self → Zr, getElem?_set_ne → Zs
open Nat renaming zero_le → Zt, succ_mul → Zu, le_trans → Zv, zero_add → Zw, add_zero → Zx, le_succ → Zy
open Bool renaming and_eq_true → Zz
open Go.Value renaming int → Za1, slice → Zb1
open Go.IntWalk renaming i64_in → Zc1
open Go.NoPanic renaming normal → Zd1
open Go.RowKit.Below renaming refl → Ze1
open Go.AllReadyH renaming cons → Zf1, nil → Zg1
open Go.World renaming size_alloc → Zh1, cell?_of_block → Zi1, block_lt_of_cell? → Zj1
open Go renaming bodyPost_ret → Zk1, wp_region_held_drew → Zl1, wp_region_noPanic → Zm1, wpAnyH_done → Zn1, wpAnyH_ready → Zo1, World → Zp1
open Go.Proofs.Tryz
namespace Go.Proofs.YtddkenhemnkkeaaGreat
set_option maxHeartbeats 16000000
set_option maxRecDepth 20000
open Go.RowKit
namespace Ch
def pos (os:List Int) (i:Nat):Int:=if i=0 then 0 else os.getD (i-1) 0
structure In (c:C) (b:CkN) (os cst:List Int):Prop where
 len:b.words.length=c.n+1
 top:c.n<=64
 wd:∀k:Nat,1<=k->k<=c.n->Ck.wd b (pos os k)=W c k
 rng:∀k:Nat,1<=k->k<=c.n->1<=pos os k/\pos os k<=c.n
 inj:∀i j:Nat,i<=c.n->j<=c.n->pos os i=pos os j->i=j
 ins:∀k:Nat,k+1<=c.n->Ck.iF b (pos os (k+1))=[pos os k]
 aH:b.aH=pos os c.n
 ordl:b.order.length=c.n
 ord:∀d,d<c.n->b.order.getD (c.n-1-d) 0=pos os (c.n-d)
 cst:∀k:Nat,k+1<=c.n->cst.getD (pos os (k+1)).toNat 0=c.cost.getD k 0
 nn_:∀k:Nat,k<=c.n->0<=W c k
theorem vW (os:List Int) (k:Int) (i:Nat):Gr.re os (k,(i:Int))=(k,pos os i):=by
 unfold Gr.re pos
 by_cases e:i=0
 ·subst e;rfl
 ·rw [inZ e]
  simp only;rw [ipZ oZ,show ((i:Int)-1).toNat=i-1 by omega]
structure At (c:C) (b:CkN) (os cst:List Int) (s:S) (Q:Nat->Bool) (G:Nat) (e1 e2:Bool) (d:Nat) (w v:Int) (t:CkS):Prop where
 go:Ck.go b (Ck.start (c.n+1)) (s.code.map (Gr.re os))=(t,0)
 lp:t.aG.length=c.n+1
 ls:t.sav.length=c.n+1
 lg:t.aN.length=c.n+1
 sl:s.saved.length=c.n+1
 aG:∀k:Nat,k<=c.n->Ck.at_ t.aG (pos os k)=Q k
 sav:∀k:Nat,1<=k->k<=c.n->Ck.at_ t.sav (pos os k)=s.saved.getD k false
 aN:∀k:Nat,1<=k->k<=c.n->Ck.at_ t.aN (pos os k)=decide (k=G)
 em:t.em=e1
 sd:t.sd=e2
 done:t.done=d
 now:t.now=w
 co:Safe.sum (Cd.aJ cst (s.code.map (Gr.re os)))=v
 wc:w<=b.cap
section
variable {c:C} {b:CkN} {os cst:List Int} {s:S} {Q:Nat->Bool} {G:Nat} {e1 e2:Bool} {d:Nat} {w v:Int} {t:CkS}
theorem In.nn (hI:In c b os cst) {k:Nat} (h:k<=c.n):0<=pos os k/\pos os k<((c.n+1:Nat):Int):=by
 by_cases e:k=0
 ·subst e;exact ⟨by show (0:Int)<=0;omega,by show (0:Int)<_;omega⟩
 ·have:=hI.rng k oZ h;omega
theorem In.set (hI:In c b os cst) {l:List Bool} (hl:l.length=c.n+1) {i j:Nat} (hi:i<=c.n) (hj:j<=c.n) (x:Bool):Ck.at_ (Ck.bO l (pos os i) x) (pos os j)=if j=i then x else Ck.at_ l (pos os j):=by
 rw [eB.dS hl (hI.nn hi).1 (hI.nn hi).2 (hI.nn hj).1]
 by_cases e:j=i
 ·rw [ipZ e,ipZ (by rw [e])]
 ·rw [inZ e,inZ (λq=>e (hI.inj j i hj hi q))]
theorem At.congr (h:At c b os cst s Q G e1 e2 d w v t) {Q':Nat->Bool} (hQ:∀k,k<=c.n->Q k=Q' k) {w' v':Int} (hw:w=w') (hv:v=v'):At c b os cst s Q' G e1 e2 d w' v' t:=
 ⟨h.go,h.lp,h.ls,h.lg,h.sl,λk hk=>(h.aG k hk).trans (hQ k hk),h.sav,h.aN,h.em,h.sd,h.done,h.now.trans hw,h.co.trans hv,hw▸h.wc⟩
theorem At.step (hI:In c b os cst) (h:At c b os cst s Q G e1 e2 d w v t) {s':S} {k:Int} {i:Nat} (hc:s'.code=s.code++[(k,(i:Int))]) (hi:i<=c.n) (hr:Cd.right (k,pos os i)=true) (hl:Ck.bI b t k (pos os i)=true) (hm:w+Ck.more b t k (pos os i)<=b.cap):
  Ck.go b (Ck.start (c.n+1)) (s'.code.map (Gr.re os))=(Ck.act b t k (pos os i) (w+Ck.more b t k (pos os i)),0):=by
 have ha:=(hI.nn hi).2;rw [hc,List.map_append,List.map_cons,List.map_nil,vW,Ck.kZ _ _ _ _ (by rw [h.go]),h.go];unfold Ck.do_;simp only;rw [inZ (by rw [hr,hI.len];simp only [Bool.true_eq_false,false_or];omega),inZ (by simp [hl]),h.now,inZ oZ]
theorem At.cost (h:At c b os cst s Q G e1 e2 d w v t) {s':S} {k:Int} {i:Nat} (hc:s'.code=s.code++[(k,(i:Int))]):Safe.sum (Cd.aJ cst (s'.code.map (Gr.re os)))=v+if k=1∨k=2 then cst.getD (pos os i).toNat 0 else 0:=by
 have hs:∀a b:List Int,Safe.sum (a++b)=Safe.sum a+Safe.sum b:=λa b=>by
  induction a with
  | nil=>simp [Safe.sum]
  | cons x r ih=>simp [Safe.sum,ih];omega
 rw [hc,List.map_append,List.map_cons,List.map_nil,vW];unfold Cd.aJ;rw [List.filter_append,List.map_append,hs];have hv:=h.co;unfold Cd.aJ at hv;rw [hv]
 by_cases e:k=1∨k=2
 ·rw [ipZ e,List.filter_cons_of_pos (by unfold Cd.lD;rcases e with e|e<;>simp [e])]
  simp [Safe.sum]
 ·rw [inZ e,List.filter_cons_of_neg (by unfold Cd.lD;simp only [not_or] at e;simp [e.1,e.2])]
  simp [Safe.sum]
theorem In.right (hI:In c b os cst) {k:Int} (hk:k=1∨k=2∨k=3∨k=6) {i:Nat} (h1:1<=i) (h2:i<=c.n):Cd.right (k,pos os i)=true:=by
 have:=hI.rng i h1 h2;have:=hI.top;exact Rw.jM hk oZ oZ
theorem In.ready (hI:In c b os cst) (h:At c b os cst s Q G e1 e2 d w v t) {k:Nat} (hk:k+1<=c.n) (hq:Q k=true):Ck.ready b t (pos os (k+1))=true:=by
 unfold Ck.ready;rw [hI.ins k hk];simp [h.aG k oZ,hq]
theorem At.comp (hI:In c b os cst) (h:At c b os cst s Q G e1 e2 d w v t) {k:Nat} (hk:k+1<=c.n) (hq:Q k=true) (hn:Q (k+1)=false) (hw:w+W c (k+1)<=b.cap):
  ∃t',At c b os cst (comp (k+1) s) (λj=>if j=k+1 then true else Q j) G e1 e2 d (w+W c (k+1)) (v+c.cost.getD k 0) t':=by
 have hd:=hI.ready h hk hq;have hp:=h.aG (k+1) hk;have hs:=h.sav (k+1) oZ hk;have hg:=hI.wd (k+1) oZ hk
 obtain ⟨kk,h12,hc,he,hlg⟩:∃kk:Int,(kk=1∨kk=2)/\(Ch.comp (k+1) s).code=s.code++[(kk,((k+1:Nat):Int))]/\((Ch.comp (k+1) s).saved=s.saved/\s.saved.getD (k+1) false=true∨(Ch.comp (k+1) s).saved=s.saved.set (k+1) true)/\Ck.bI b t kk (pos os (k+1))=true:=by
  unfold Ch.comp
  by_cases e:s.saved.getD (k+1) false=true
  ·rw [ipZ e]
   refine ⟨2,.inr rfl,rfl,.inl ⟨rfl,e⟩,?_⟩;unfold Ck.bI;rw [inZ dZ,ipZ rfl,hs,e,hp,hn,hd]
   rfl
  ·rw [inZ e]
   refine ⟨1,.inl rfl,rfl,.inr rfl,?_⟩;unfold Ck.bI;rw [ipZ rfl,hs,hd];simp at e;simp [e]
 have ha:Ck.more b t kk (pos os (k+1))=W c (k+1):=by unfold Ck.more;rw [ipZ h12,hg]
 have hb:=h.step hI hc hk (hI.right oZ oZ hk) hlg (by rw [ha];exact hw)
 have hf:Ck.act b t kk (pos os (k+1)) (w+Ck.more b t kk (pos os (k+1)))={ t with aG:=Ck.bO t.aG (pos os (k+1)) true,sav:=Ck.bO t.sav (pos os (k+1)) true,now:=w+W c (k+1),aB:=max t.aB (w+W c (k+1)) }:=by
  unfold Ck.act;rw [ipZ h12,ha]
 rw [hf] at hb;refine ⟨_,hb,Rw.dX h.lp _ _,Rw.dX h.ls _ _,h.lg,?_,λj hj=>?_,λj h1 hj=>?_,h.aN,h.em,h.sd,h.done,rfl,?_,hw⟩
 ·rcases he with ⟨e,-⟩|e
  ·rw [e];exact h.sl
  ·rw [e,List.length_set];exact h.sl
 ·show Ck.at_ (Ck.bO t.aG _ true) _=_
  rw [hI.set h.lp hk hj,h.aG j hj]
 ·show Ck.at_ (Ck.bO t.sav _ true) _=_
  rw [hI.set h.ls hk hj,h.sav j h1 hj];rcases he with ⟨e,e'⟩|e
  ·rw [e]
   by_cases q:j=k+1
   ·rw [ipZ q,q,e']
   ·rw [inZ q]
  ·rw [e,gdZ,gdZ,List.getElem?_set]
   have:=h.sl
   by_cases q:j=k+1
   ·rw [ipZ q,ipZ q.symm,ipZ oZ]
    rfl
   ·rw [inZ q,inZ (λx=>q x.symm)]
 ·rw [h.cost hc,ipZ h12,hI.cst k hk]
theorem At.drop (hI:In c b os cst) (h:At c b os cst s Q G e1 e2 d w v t) {k:Nat} (h1:1<=k) (hk:k<=c.n) (hq:Q k=true):
  ∃t',At c b os cst (s.add 3 k) (λj=>if j=k then false else Q j) G e1 e2 d (w-W c k) v t':=by
 have ha:Ck.more b t 3 (pos os k)=0:=rfl;have hb:=h.step hI (s':=s.add 3 k) rfl hk (hI.right oZ h1 hk) (by show Ck.at_ t.aG _=true;rw [h.aG k hk,hq]) (by rw [ha,Int.add_zero];exact h.wc)
 have hc:Ck.act b t 3 (pos os k) (w+Ck.more b t 3 (pos os k))={ t with aG:=Ck.bO t.aG (pos os k) false,now:=w-W c k,aB:=max t.aB w }:=by
  rw [ha,Int.add_zero,←hI.wd k h1 hk];rfl
 rw [hc] at hb;refine ⟨_,hb,Rw.dX h.lp _ _,h.ls,h.lg,h.sl,λj hj=>?_,h.sav,h.aN,h.em,h.sd,h.done,rfl,?_,by have:=hI.nn_ k hk;have:=h.wc;omega⟩
 ·show Ck.at_ (Ck.bO t.aG _ false) _=_
  rw [hI.set h.lp hk hj,h.aG j hj]
 ·rw [h.cost (s':=s.add 3 k) (k:=3) (i:=k) rfl,inZ dZ,Int.add_zero]
theorem At.emit (hI:In c b os cst) (h:At c b os cst s Q G false e2 d w v t) (hq:Q c.n=true):
  ∃t',At c b os cst (s.add 4 0) Q G true e2 d w v t':=by
 have ha:Ck.more b t 4 (pos os 0)=0:=rfl
 have hb:=h.step hI (s':=s.add 4 0) (k:=4) (i:=0) rfl oZ (by show Cd.right (4,0)=true;decide) (by
  show (Ck.at_ t.aG b.aH&&!t.em)=true
  rw [hI.aH,h.aG _ (lrZ _),hq,h.em];rfl) (by rw [ha,Int.add_zero];exact h.wc)
 have hc:Ck.act b t 4 (pos os 0) (w+Ck.more b t 4 (pos os 0))={ t with em:=true,now:=w,aB:=max t.aB w }:=by
  rw [ha,Int.add_zero];rfl
 rw [hc] at hb;refine ⟨_,hb,h.lp,h.ls,h.lg,h.sl,h.aG,h.sav,h.aN,rfl,h.sd,h.done,rfl,?_,h.wc⟩;rw [h.cost (s':=s.add 4 0) (k:=4) (i:=0) rfl,inZ dZ,Int.add_zero]
theorem At.seed (hI:In c b os cst) (h:At c b os cst s Q 0 e1 false d w v t) (hn:1<=c.n) (hw:w+W c c.n<=b.cap):
  ∃t',At c b os cst (s.add 5 0) Q c.n e1 true d (w+W c c.n) v t':=by
 have ha:Ck.more b t 5 (pos os 0)=W c c.n:=by
  show Ck.wd b b.aH=_
  rw [hI.aH,hI.wd _ hn (lrZ _)]
 have hb:=h.step hI (s':=s.add 5 0) (k:=5) (i:=0) rfl oZ (by show Cd.right (5,0)=true;decide) (by
  show (!t.sd)=true
  rw [h.sd];rfl) (by rw [ha];omega)
 have hc:Ck.act b t 5 (pos os 0) (w+Ck.more b t 5 (pos os 0))={ t with sd:=true,aN:=Ck.bO t.aN (pos os c.n) true,now:=w+W c c.n,aB:=max t.aB (w+W c c.n) }:=by
  rw [ha,←hI.aH];rfl
 rw [hc] at hb;refine ⟨_,hb,h.lp,h.ls,Rw.dX h.lg _ _,h.sl,h.aG,h.sav,λj h1 hj=>?_,h.em,rfl,h.done,rfl,?_,hw⟩
 ·show Ck.at_ (Ck.bO t.aN _ true) _=_
  rw [hI.set h.lg (lrZ _) hj,h.aN j h1 hj]
  by_cases e:j=c.n
  ·rw [ipZ e];simp [e]
  ·rw [inZ e];simp [e];omega
 ·rw [h.cost (s':=s.add 5 0) (k:=5) (i:=0) rfl,inZ dZ,Int.add_zero]
theorem At.back (hI:In c b os cst) {k:Nat} (h:At c b os cst s Q (k+1) e1 e2 (c.n-(k+1)) w v t) (hk:k+1<=c.n) (hq:Q k=true) (hw:w+kept c k<=b.cap):
  ∃t',At c b os cst (s.add 6 ((k+1:Nat):Int)) Q k e1 e2 (c.n-k) (w+kept c k-W c (k+1)) v t':=by
 have hb:=h.aN (k+1) oZ hk;rw [decide_eq_true rfl] at hb
 have hf:Ck.fresh b t (pos os (k+1))=if k=0 then [] else [pos os k]:=by
  unfold Ck.fresh;rw [hI.ins k hk]
  show (if pos os k≠0/\Ck.at_ t.aN (pos os k)=false/\List.contains [] (pos os k)=false then []++[pos os k] else [])=_
  by_cases e:k=0
  ·subst e
   rw [inZ (λq=>q.1 rfl),ipZ rfl]
  ·have hr:=hI.rng k oZ oZ
   rw [inZ e,ipZ ⟨by omega,by rw [h.aN k oZ oZ];simp,by simp⟩]
   rfl
 have ha:Ck.more b t 6 (pos os (k+1))=kept c k:=by
  show Ck.iC b (Ck.fresh b t (pos os (k+1)))=_
  rw [hf];unfold kept
  by_cases e:k=0
  ·rw [ipZ e,ipZ e];rfl
  ·rw [inZ e,inZ e,←hI.wd k oZ oZ]
   simp [Ck.iC]
 have hc:=h.step hI (s':=s.add 6 ((k+1:Nat):Int)) (k:=6) (i:=k+1) rfl hk (hI.right oZ oZ hk) (by
  show (Ck.at_ t.aN _&&(Ck.ready b t _&&Ck.back b t _))=true
  rw [hb,hI.ready h hk hq];unfold Ck.back;rw [hI.ordl,h.done,hI.ord _ oZ,show c.n-(c.n-(k+1))=k+1 by omega,decide_eq_true ⟨by omega,rfl⟩]
  rfl) (by rw [ha];exact hw)
 have he:Ck.act b t 6 (pos os (k+1)) (w+Ck.more b t 6 (pos os (k+1)))={ t with aN:=Ck.bO (Ck.sets t.aN (if k=0 then [] else [pos os k])) (pos os (k+1)) false,now:=w+kept c k-W c (k+1),aB:=max t.aB (w+kept c k),done:=t.done+1 }:=by
  rw [ha,←hI.wd (k+1) oZ hk,←hf];rfl
 rw [he] at hc;have hd:(Ck.sets t.aN (if k=0 then [] else [pos os k])).length=c.n+1:=Rw.mG [] _ _ h.lg;refine ⟨_,hc,h.lp,h.ls,Rw.dX hd _ _,h.sl,h.aG,h.sav,λj h1 hj=>?_,h.em,h.sd,by show t.done+1=_;rw [h.done];omega,rfl,?_,by have:=hI.nn_ (k+1) hk;omega⟩
 ·show Ck.at_ (Ck.bO (Ck.sets t.aN _) _ false) _=_
  rw [hI.set hd hk hj]
  by_cases e:j=k+1
  ·rw [ipZ e,eq_comm,decide_eq_false_iff_not];omega
  ·rw [inZ e]
   by_cases e0:k=0
   ·rw [ipZ e0]
    show Ck.at_ t.aN _=_
    rw [h.aN j h1 hj,decide_eq_decide];omega
   ·rw [inZ e0]
    show Ck.at_ (Ck.bO t.aN _ true) _=_
    rw [hI.set h.lg oZ hj,h.aN j h1 hj]
    by_cases e3:j=k
    ·rw [ipZ e3];simp [e3]
    ·rw [inZ e3,decide_eq_decide];omega
 ·rw [h.cost (s':=s.add 6 ((k+1:Nat):Int)) (k:=6) (i:=k+1) rfl,inZ dZ,Int.add_zero]
theorem At.fwd (hI:In c b os cst) (h:At c b os cst s Q G e1 e2 d w v t) {l:Nat} (hl:Q l=true) (h0:∀k,l<k->k<=c.n->Q k=false):
  ∀j,l+j<=c.n->(∀i,i<j->w+W c (l+1+i)+(if i=0 then 0 else W c (l+i))<=b.cap)->
  ∃t',At c b os cst (Ch.fwd l j s) (λk=>if j≠0/\k=l+j then true else Q k) G e1 e2 d (w+if j=0 then 0 else W c (l+j)) (v+cs c l j) t'
 | 0,_,_=>⟨t,h.congr (λk _=>by simp) sZ (by simp [cs])⟩
 | j+1,hj,hm=>by
  obtain ⟨t1,h1⟩:=At.fwd hI h hl h0 j oZ λi hi=>hm i oZ
  have hb:=hm j oZ;have ej:l+1+j=l+j+1:=by omega
  rw [ej] at hb
  obtain ⟨t2,h2⟩:=h1.comp hI (k:=l+j) oZ (by
   by_cases e:j=0
   ·subst e;simpa using hl
   ·simp [e]) (by
   show (if j≠0/\l+j+1=l+j then true else Q (l+j+1))=false
   rw [inZ oZ];exact h0 _ oZ oZ) (by
   by_cases e:j=0
   ·rw [ipZ e] at hb ⊢;omega
   ·rw [inZ e] at hb ⊢;omega)
  have ev:v+cs c l j+c.cost.getD (l+j) 0=v+cs c l (j+1):=by rw [show cs c l (j+1)=cs c l j+c.cost.getD (l+j) 0 from rfl];omega
  have ha:Ch.fwd l (j+1) s=if j=0 then Ch.comp (l+j+1) (Ch.fwd l j s) else (Ch.comp (l+j+1) (Ch.fwd l j s)).add 3 ((l+j:Nat):Int):=by
   rw [←ej];rfl
  rw [ha]
  by_cases e:j=0
  ·rw [ipZ e]
   refine ⟨t2,h2.congr (λk hk=>?_) ?_ ev⟩
   ·subst e
    show (if k=l+0+1 then true else if (0:Nat)≠0/\k=l+0 then true else Q k)=if 0+1≠0/\k=l+(0+1) then true else Q k
    by_cases q:k=l+1
    ·rw [ipZ oZ,ipZ oZ]
    ·rw [inZ oZ,inZ oZ,inZ oZ]
   ·subst e;simp
  ·rw [inZ e]
   rw [inZ e] at h2 hb;obtain ⟨t3,h3⟩:=h2.drop hI (k:=l+j) oZ oZ (by simp [e]);refine ⟨t3,h3.congr (λk hk=>?_) ?_ ev⟩
   ·show (if k=l+j then false else if k=l+j+1 then true else if j≠0/\k=l+j then true else Q k)=if j+1≠0/\k=l+(j+1) then true else Q k
    by_cases q:k=l+j
    ·rw [ipZ q,inZ oZ,q,h0 _ oZ oZ]
    ·rw [inZ q]
     by_cases q2:k=l+j+1
     ·rw [ipZ q2,ipZ oZ]
     ·rw [inZ q2,inZ oZ,inZ oZ]
   ·rw [inZ oZ,show l+(j+1)=l+j+1 by omega];omega
theorem vU (c:C) (l r:Nat):∀j i,i<j->step c l r (l+1+i)<=nd c l r j
 | 0,i,h=>absurd h oZ
 | j+1,i,h=>by
  unfold nd
  by_cases e:i=j
  ·rw [e];omega
  ·have:=vU c l r j i oZ;omega
theorem At.part (hI:In c b os cst) (hc:Ok c):∀(f l r m:Nat) (s:S) (Q:Nat->Bool) (w v:Int) (t:CkS),l<r->r<=c.n->r-l<=f->m<len c l->(Rw c l r).getD m 0<inf->
  Q l=true->(∀k,l<k->k<=c.n->Q k=false)->At c b os cst s Q (if r=c.n then 0 else r) (decide (r≠c.n)) (decide (r≠c.n)) (c.n-r) (w+if r=c.n then 0 else W c r) v t->w+(m:Int)<=b.cap->
  ∃t',At c b os cst (Ch.part c f l r m s) Q l true true (c.n-l) (w+kept c l) (v+(Rw c l r).getD m 0) t'
 | 0,l,r,_,_,_,_,_,_,h1,_,h3,_,_,_,_,_,_=>absurd h3 oZ
 | f+1,l,r,m,s,Q,w,v,t,h1,h2,h3,h4,h5,hq,h0,h,hw=>by
  have hj:=iE hc (l:=l) oZ;have hh:(m:Int)<((len c l:Nat):Int):=by omega
  by_cases e:r=l+1
  ·subst e
   rw [mD];rw [rM,qig _ _ _ _ h4] at h5 ⊢
   split at h5
   ·rename_i hs
    rw [ipZ hs];unfold single at hs;unfold qI own;have hm:=hc.w0 (l+1) h2
    by_cases er:l+1=c.n
    ·rw [ipZ er,ipZ er]
     rw [ipZ er,ipZ er,decide_eq_false (by simpa using er),Int.add_zero] at h;obtain ⟨t1,g1⟩:=h.comp hI (k:=l) h2 hq (h0 _ oZ h2) oZ;obtain ⟨t2,g2⟩:=g1.emit hI (by simp [er]);obtain ⟨t3,g3⟩:=g2.drop hI (k:=l+1) oZ h2 sZ;obtain ⟨t4,g4⟩:=g3.seed hI oZ (by rw [←er];omega);rw [←er,show l+1-(l+1)=c.n-(l+1) by omega] at g4
     obtain ⟨t5,g5⟩:=g4.back hI h2 (by
      show (if l=l+1 then false else if l=l+1 then true else Q l)=true
      rw [inZ oZ,inZ oZ,hq]) oZ
     refine ⟨t5,g5.congr (λk hk=>?_) oZ rfl⟩
     show (if k=l+1 then false else if k=l+1 then true else Q k)=Q k
     by_cases q:k=l+1
     ·rw [ipZ q,q,h0 _ oZ h2]
     ·rw [inZ q,inZ q]
    ·rw [inZ er,inZ er]
     rw [inZ er,inZ er,decide_eq_true (by simpa using er)] at h;obtain ⟨t1,g1⟩:=h.back hI h2 hq oZ;exact ⟨t1,g1.congr (λ_ _=>rfl) oZ oZ⟩
   ·exact absurd h5 oZ
  ·obtain ⟨i,hi,hn,hl,he⟩:=best_eq hc h2 oZ h4 h5
   obtain ⟨i',hr,hb,hW,hf,hd,ha⟩:=mM hc h2 oZ h4 h5;obtain rfl:i'=i:=by omega
   rw [kV c f l r m s oZ,hb];have hg:kept c (l+1+i')=W c (l+1+i'):=inZ oZ
   obtain ⟨t1,g1⟩:=h.fwd hI hq h0 (l+1+i'-l) oZ (λq hp=>by
    have:=vU c l r (i'+1) q oZ;unfold Ch.step at this
    by_cases e1:q=0
    ·subst e1
     rw [ipZ oZ] at this;rw [ipZ rfl]
     by_cases e2:r=c.n
     ·rw [ipZ e2] at this ⊢;omega
     ·rw [inZ e2] at this ⊢;omega
    ·rw [inZ oZ,show l+1+q-1=l+q by omega] at this
     rw [inZ e1]
     by_cases e2:r=c.n
     ·rw [ipZ e2] at this ⊢;omega
     ·rw [inZ e2] at this ⊢;omega)
   have ei:l+1+i'-l=i'+1:=by omega
   rw [ei] at g1 ⊢;have el:l+(i'+1)=l+1+i':=by omega
   have g1:=g1.congr (Q':=λk=>if k=l+1+i' then true else Q k) (w':=w+W c (l+1+i')+if r=c.n then 0 else W c r) (λk hk=>by
    show (if i'+1≠0/\k=l+(i'+1) then true else Q k)=_
    by_cases q:k=l+1+i'
    ·rw [ipZ ⟨by omega,by omega⟩,ipZ q]
    ·rw [inZ (λx=>q oZ),inZ q]) (by rw [inZ (show ¬i'+1=0 by omega),el];omega) rfl
   obtain ⟨t2,g2⟩:=At.part hI hc f (l+1+i') r ((m:Int)-W c (l+1+i')).toNat _ (λk=>if k=l+1+i' then true else Q k) (w+W c (l+1+i')) _ t1 oZ h2 oZ ha hf sZ (λk k1 k2=>by
    show (if k=l+1+i' then true else Q k)=false
    rw [inZ oZ,h0 k oZ k2]) g1 oZ
   have ho:=hc.w0 (l+1+i') oZ;obtain ⟨t3,g3⟩:=g2.drop hI (k:=l+1+i') oZ oZ sZ
   obtain ⟨t4,g4⟩:=At.part hI hc f l (l+1+i') m _ Q w _ t3 oZ oZ oZ h4 hd hq h0 (by
    rw [inZ oZ,inZ oZ,decide_eq_true oZ]
    exact g3.congr (λk hk=>by
     show (if k=l+1+i' then false else if k=l+1+i' then true else Q k)=Q k
     by_cases q:k=l+1+i'
     ·rw [ipZ q,q,h0 _ oZ oZ]
     ·rw [inZ q,inZ q]) oZ rfl) hw
   exact ⟨t4,g4.congr (λ_ _=>rfl) rfl (by rw [←he];omega)⟩
end
end Ch
def Ch.fB (ws cs:List Int) (cap:Int):Int × Int:=
 if Ch.right ws cs=false then (0,10) else if cap<0∨4096<cap then (0,11) else
 if Ch.inf<=(Ch.Rw (Ch.of ws cs cap) 0 cs.length).getD (Ch.of ws cs cap).cap.toNat 0 then (0,26) else ((Ch.Rw (Ch.of ws cs cap) 0 cs.length).getD (Ch.of ws cs cap).cap.toNat 0,0)
def qii (ws cs:List Int) (cap:Int) (W:Zp1) (e:Ending) (w':Zp1):Prop:=
 e=.returned (.tuple #[nQ iQ (Ch.fB ws cs cap).1,nQ iQ (Ch.fB ws cs cap).2])/\Later W w'
set_option maxRecDepth 100000 in
theorem qfE (Aw Ac:Option Addr) (cw cc n:Nat) (ws cs:List Int) (cap:Int) (W:Zp1) (hcl:cs.length=n) (hwl:ws.length=n+1) (hn:n<=1000) (hcw:n+1<=cw) (hI:Ints iQ W Aw ws) (hJ:Ints iQ W Ac cs):
  Calls prog 53 #[.agg #[sQ Aw (n+1) cw,sQ Ac n cc],nQ iQ cap] W (qii ws cs cap W):=by
 have hw:Later W (W.alloc (.cells #[sQ Aw (n+1) cw,sQ Ac n cc] 95)):=(Later.refl W).alloc _;have hN:=Blk.new W 95 #[sQ Aw (n+1) cw,sQ Ac n cc];have hU:=qcP Aw Ac cw cc n ws cs cap (W.alloc (.cells #[sQ Aw (n+1) cw,sQ Ac n cc] 95)) hcl hwl hn (hI.below hw (lrZ _)) (hJ.below hw (lrZ _));have hE:Ch.rZ ws cs cap=if Ch.right ws cs=false then 10 else if cap<0∨4096<cap then 11 else 0:=rfl
 have hP:Ch.fB ws cs cap=if Ch.right ws cs=false then (0,10) else if cap<0∨4096<cap then (0,11) else
  if Ch.inf<=(Ch.Rw (Ch.of ws cs cap) 0 cs.length).getD (Ch.of ws cs cap).cap.toNat 0 then (0,26) else
  ((Ch.Rw (Ch.of ws cs cap) 0 cs.length).getD (Ch.of ws cs cap).cap.toNat 0,0):=rfl
 have hi:∀(v er:Int) (w':Zp1),Later W w'->Ch.fB ws cs cap=(v,er)->qii ws cs cap W (.returned (.tuple #[nQ iQ v,nQ iQ er])) w':=λv er w' hl he=>⟨by rw [he],hl⟩
 obtain ⟨h0,hR,HI,HJ,hV,hb⟩:=zd6 hw hN hI hJ hU hi;clear hw hN hI hJ hU hi;go_in;go_wp2_with fail;generalize W.alloc (.cells #[sQ Aw (n+1) cw,sQ Ac n cc] 95)=W1 at *;refine hV.out.mono ?_;rintro e W2 ⟨rfl,hD⟩;have hd:=h0.out.trans hD;have hk:=hD.blk hR.out;clear hV hD hR;cases hr:Ch.right ws cs
 ·rw [hr,ipZ rfl] at hE hP
  rw [hE];obtain ⟨hg,HP⟩:=zd2 hd hP;clear hd hP;clear hE hr hk;go_wp2_with fail
  go_ret2
  exact hb.out _ _ _ hg.out HP.out
 rw [hr,inZ sZ] at hE hP
 by_cases hc:cap<0∨4096<cap
 ·rw [ipZ hc] at hE hP
  rw [hE];obtain ⟨hg,HP⟩:=zd2 hd hP;clear hd hP;clear hE hr hk hc;go_wp2_with fail
  go_ret2
  exact hb.out _ _ _ hg.out HP.out
 rw [inZ hc] at hE hP;rw [hE];have u0:W2.cell? ⟨W.heap.size,0,none⟩=some (sQ Aw (n+1) cw):=hk.cell 0;have u1:W2.cell? ⟨W.heap.size,1,none⟩=some (sQ Ac n cc):=hk.cell 1;have hQ:=qeB Aw Ac cw cc n ws cs cap W2 hcl hwl hr oZ hcw (HI.out.below hd (lrZ _)) (HJ.out.below hd (lrZ _));have ho:=hd;obtain ⟨hg,HP,hO,hH⟩:=zd4 hd hP hQ ho;clear hd hP hQ ho;clear hE hk;go_wp2_with fail;refine hO.out.mono ?_;rintro e W3 ⟨p,bm,rfl,hS,hM⟩;clear hO u0 u1;obtain ⟨a,ha⟩:∃a:SvA,(⟨Aw,Ac,cw,cc,p,bm⟩:SvA)=a:=⟨_,rfl⟩
 have hG:a.p=p:=by rw [←ha]
 rw [ha] at hS hM;rw [←hG];obtain ⟨C,hC⟩:∃C,Ch.of ws cs cap=C:=⟨_,rfl⟩
 have hu:=HP.out;rw [hC,hcl] at hu;rw [hC] at hS hM;have hh:=hS.ok;have hq:=hS.cn;have Hc:1<=n:=hq▸hh.n1;have hY:n<=64:=hq▸hh.n64;have hX:=hh.cap0;obtain ⟨m,hm⟩:=ezZ hX;have h4:Ch.len C 0=m+1:=by unfold Ch.len Ch.kept;rw [ipZ rfl];omega
 rw [hm,tnZ] at hu;have hW:Later W W3:=hg.out.trans hM.later;obtain ⟨-,-,s2,s3,-⟩:=hM.cells5;rw [hm] at s3;have h3:0<=(Ch.Rw C 0 n).getD m 0:=(Ch.dO (Ch.fV hh (l:=0) (r:=n) oZ) m).1;have hT:=Ch.lM C 0 n oZ;have hp:=hH.out;obtain ⟨ht,h6,HS,HM,h7,h5,He,Ha,HC⟩:=zd9 hu hW hS hM hh hq hG ha hC;have hF:=zI hp;clear hu hW hS hM hh hq hG ha hC hp;clear HP hg hr hc hX;have s3:W3.cell? ⟨a.p,3,none⟩=some (nQ iQ m):=by rw [←hm];exact HM.out.cells5.2.2.2.1
 have hv:=λ(Y:Zp1) (h:Later W3 Y)=>(show Calls prog 94 #[.pointer (some ⟨a.p,0,none⟩),.agg #[nQ iQ 0,nQ iQ n]] Y (uX a C n W2 [] 0 n Y) from qbd a C n W2 HS.out n 0 n [] Y oZ (lrZ _) oZ (HM.out.to_later h) (λx hx=>by cases hx))
 have Hb:(m:Int)<(m:Int)+1:=by omega
 have Hd:(0:Int)<=(m:Int):=by omega
 have h8:=qbL;generalize hz:(Ch.Rw C 0 n).getD m 0=z at *;obtain ⟨Hv,Hm,Hz,hZ⟩:=zd4 hv hm hz hT;clear hv hm hz hT;go_wp2_with fail;have KF:=zI (show ∀Xw,Later W3 Xw->Xw.cell? ⟨a.p,2,none⟩=some (nQ iQ n)/\Xw.cell? ⟨a.p,3,none⟩=some (nQ iQ m) from λXw h=>⟨h.cell s2,h.cell s3⟩);refine Zm1 ?_;refine Zl1 (S:=λXw=>Xw.cell? ⟨a.p,2,none⟩=some (nQ iQ n)/\Xw.cell? ⟨a.p,3,none⟩=some (nQ iQ m)) krZ (KF.out _ Lau) (λhHeld=>?_);refine tk 0 ?_;refine tk 1 ?_;refine tk 2 ?_;refine tk 3 ?_;refine tk 4 ?_;refine tk 5 ?_;refine tk 8 ?_;refine tk 9 ?_;refine tk 10 ?_;refine tk 11 ?_;refine rd 6 λK hK=>?_
 simp only [ga,gs,gz]
 go_simp
 go_at_call 94;(with_reducible refine (Hv.out _ (Lau:Later W3 _)).mono ?_);rintro e W5 ⟨g,rfl,hB,-,hy,h1⟩
 replace s2:=hy.cells5.2.2.1;replace s3:=hy.cells5.2.2.2.1;rw [Hm.out] at s3;have y0:=qce hB (i:=m) (by rw [hZ.out];omega);rw [Hz.out] at y0;have h2:=zI hy;clear hy h1 hB
 try go_wp2_with fail
 refine hK.out _ _ (by first|exact ⟨s2,s3⟩|exact KF.out _ Lau) (λhHeld=>?_);clear hK K
 try simp only [ga,gs,gz,Act.put,sa,sz,ss]
 refine tk 7 ?_;refine tk 12 ?_;refine rd 13 λK hK=>?_
 simp only [ga,gs,gz]
 go_simp
 replace s2:=s2;refine hK.out _ _ (by first|exact ⟨s2,s3⟩|exact KF.out _ Lau) (λhHeld=>?_);clear hK K
 try simp only [ga,gs,gz,Act.put,sa,sz,ss]
 refine tk 14 ?_;clear KF;refine Zn1 krZ ?_ _;refine Zd1 ?_;have hs:Later W W5:=hF.out.trans h2.out.later
 by_cases hj:Ch.inf<=z
 ·have hf:=ht.out
  rw [ipZ hj] at hf;unfold Ch.inf at hj;obtain ⟨hA,hL⟩:=zd2 hf hs;clear hf hs;clear ht y0 s2 s3 hHeld;go_wp2_with fail
  go_ret2
  exact hb.out _ _ _ hL.out hA.out
 have hf:=ht.out;rw [inZ hj] at hf;unfold Ch.inf at hj;have h9:z<1152921504606846976:=by omega
 obtain ⟨hA,hL⟩:=zd2 hf hs;clear hf hs;clear ht y0 s2 s3 hHeld hj;go_wp2_with fail
 go_ret2
 exact hb.out _ _ _ hL.out hA.out
namespace Ck
theorem sM (c:CkN):∀(ps:List (Int × Int)) (s:CkS),(go c s ps).2=0->ps.all Cd.right=true/\∀p∈ps,p.2<c.words.length
 | [],_,_=>⟨rfl,λ_ h=>by cases h⟩
 | i::r,s,h=>by
  simp only [go] at h
  split at h
  ·rename_i h0
   obtain ⟨h1,h2⟩:=sM c r _ h;unfold do_ at h0
   split at h0
   ·simp at h0
   ·rename_i hc
    simp only [not_or] at hc;refine ⟨by rw [List.all_cons,h1];simpa using hc.1,λp hp=>?_⟩;rcases List.mem_cons.1 hp with e|hp
    ·subst e;omega
    ·exact h2 p hp
  ·rename_i h0;exact absurd h h0
end Ck
theorem Nt.tH {n:aA} (h:Nt.check n=0) (k:Nat):0<=(Nt.aD n).getD k 0/\(Nt.aD n).getD k 0<=4294967296:=by
 rw [gdZ];rcases Nat.lt_or_ge k (Nt.aD n).length with hl|hl
 ·rw [geZ hl,Option.getD_some]
  rcases List.mem_cons.1 (gmZ hl) with e|hm
  ·rw [e];omega
  ·exact Nt.kQ h n.o.length (lrZ _) _ hm
 ·rw [Zi hl];simp
theorem Nt.nS {ns:List aS}:∀(os:List Int) (l:Int),Nt.dH ns l os=true->∀k,k<os.length->Nt.iF ns (os.getD k 0)=[if k=0 then l else os.getD (k-1) 0]
 | [],_,_=>λk hk=>absurd hk sZ
 | x::r,l,h=>λk hk=>by
  simp only [Nt.dH,Zz,decide_eq_true_eq] at h;rcases k with _|k
  ·simpa using h.1
  ·have:=Nt.nS r x h.2 k (by simpa using hk)
   rw [show (x::r).getD (k+1) 0=r.getD k 0 by simp,this,inZ (show ¬k+1=0 by omega),Nat.add_sub_cancel];rcases k with _|q
   ·rfl
   ·rw [inZ oZ,Nat.add_sub_cancel]
    simp
namespace Ch
theorem qfF (l:List Int) (f:Int->Int) {k:Nat} (h:k<l.length):(l.map f).getD k 0=f (l.getD k 0):=by
 rw [gdZ,gdZ,List.getElem?_map,geZ h]
 rfl
theorem chain_in {n:aA} (h:Nt.check n=0) (h12:n.o.length<=12) (hc:Nt.chain n=true) (cap cp:Int):In { (of (Nt.aU n) (Nt.aR n) cap) with cap:=cp } (Ck.base n cap) (Nt.sO n.o) (Nt.aD n):=by
 obtain ⟨n1,_,_,_,hl,_,ho,_⟩:=Nt.aL h;have hg:(Nt.sO n.o).length=n.o.length:=hl;have hb:({ (of (Nt.aU n) (Nt.aR n) cap) with cap:=cp }:C).n=n.o.length:=by show (Nt.aR n).length=_;unfold Nt.aR;rw [List.length_map,hg]
 have ha:∀k,1<=k->pos (Nt.sO n.o) k=(Nt.sO n.o).getD (k-1) 0:=λk hk=>inZ oZ
 have hf:∀k:Nat,1<=k->k<=n.o.length->1<=pos (Nt.sO n.o) k/\pos (Nt.sO n.o) k<=n.o.length:=λk h1 h2=>by
  rw [ha k h1,Rt.get_at oZ];have:=Rt.cB (n:=n) _ (gmZ (show k-1<(Nt.sO n.o).length by omega));omega
 have hn:(Nt.sO n.o).Nodup:=(Kn.go_ok _ _ _).nodup
 have hp:Nt.dH n.o 0 (Nt.sO n.o)=true:=by
  unfold Nt.chain at hc;rw [Zz] at hc;exact hc.2
 have he:∀k:Nat,k+1<=n.o.length->Nt.iF n.o (pos (Nt.sO n.o) (k+1))=[pos (Nt.sO n.o) k]:=λk hk=>by
  rw [ha (k+1) oZ,Nat.add_sub_cancel,Nt.nS _ _ hp k oZ]
  rfl
 refine ⟨?_,by omega,λk h1 h2=>?_,λk h1 h2=>by rw [hb] at h2 ⊢;exact hf k h1 h2,λi j hi hj e=>?_,λk hk=>?_,?_,?_,λd hd=>?_,λk hk=>?_,λk hk=>?_⟩
 ·rw [hb];exact Nt.bX h
 ·rw [hb] at h2
  have:W { (of (Nt.aU n) (Nt.aR n) cap) with cap:=cp } k=(Nt.aU n).getD k 0:=rfl;rw [this,ha k h1];unfold Nt.aU;obtain ⟨q,rfl⟩:∃q,k=q+1:=⟨k-1,by omega⟩
  rw [Nat.add_sub_cancel,List.getD_cons_succ,qfF _ _ oZ]
  rfl
 ·rw [hb] at hi hj
  by_cases e1:i=0
  ·by_cases e2:j=0
   ·omega
   ·have:=hf j oZ hj
    rw [e1,show pos (Nt.sO n.o) 0=0 from rfl] at e;omega
  ·by_cases e2:j=0
   ·have:=hf i oZ hi
    rw [e2,show pos (Nt.sO n.o) 0=0 from rfl] at e;omega
   ·rw [ha i oZ,ha j oZ,Rt.get_at oZ,Rt.get_at oZ] at e
    have:=Rt.nodup_at hn _ _ e;omega
 ·rw [hb] at hk
  have hr:=hf (k+1) oZ hk;rw [←he k hk]
  show ([]::n.o.map (·.ins)).getD (pos (Nt.sO n.o) (k+1)).toNat []=_
  generalize pos (Nt.sO n.o) (k+1)=id at *;obtain ⟨m,rfl⟩:∃m:Nat,id=((m+1:Nat):Int):=⟨id.toNat-1,by omega⟩
  rw [tnZ,gdZ,List.getElem?_cons_succ,List.getElem?_map,geZ oZ,Nt.iF,Int.natCast_succ,Nt.dI oZ]
  rfl
 ·rw [hb]
  show Nt.aH n.o=_
  obtain ⟨_,l1,l2⟩:=Nt.dD ho;have hm:Nt.aH n.o∈Nt.sO n.o:=(Kn.bU hl _).2 ⟨l1,by omega⟩;obtain ⟨j,hj,hh⟩:=List.getElem_of_mem hm
  by_cases e:j+1=n.o.length
  ·rw [←e,ha (j+1) oZ,Nat.add_sub_cancel,Rt.get_at hj,hh]
  ·exfalso
   refine Rt.iH h (pos (Nt.sO n.o) (j+1+1)) ?_;rw [he (j+1) oZ,ha (j+1) oZ,Nat.add_sub_cancel,Rt.get_at hj,hh];simp
 ·rw [hb];exact hg
 ·rw [hb] at hd ⊢
  rw [ha _ oZ,show n.o.length-d-1=n.o.length-1-d by omega]
  rfl
 ·rw [hb] at hk
  show (Nt.aD n).getD _ 0=(Nt.aR n).getD k 0
  unfold Nt.aR;rw [qfF _ _ oZ,ha (k+1) oZ,Nat.add_sub_cancel]
  rfl
 ·rw [hb] at hk
  show 0<=(Nt.aU n).getD k 0
  unfold Nt.aU
  have hw:∀z:Int,0<=Nt.wAt n z:=λz=>by
   unfold Nt.wAt;rw [gdZ];rcases Nat.lt_or_ge z.toNat (Nt.words n).length with q|q
   ·rw [geZ q,Option.getD_some]
    have:=Nt.iA h _ (gmZ q);omega
   ·rw [Zi q];simp
  rcases k with _|k
  ·exact hw _
  ·rw [List.getD_cons_succ,qfF _ _ oZ]
   exact hw _
theorem pZ (ws cs:List Int) (cap:Int):(plan ws cs cap).2=(fB ws cs cap).2:=by
 unfold plan fB
 split
 ·rfl
 ·split
  ·rfl
  ·split<;>rfl
theorem chain_run {n:aA} (h:Nt.check n=0) (h12:n.o.length<=12) (hc:Nt.chain n=true) {cap:Int} (hl:(fB (Nt.aU n) (Nt.aR n) cap).2=0):
  (Gr.cK n cap).2=0/\∃pk ag hi,Ck.run n (Gr.cK n cap).1 cap=((pk,(fB (Nt.aU n) (Nt.aR n) cap).1,ag,hi),0):=by
 have hp:=pZ (Nt.aU n) (Nt.aR n) cap;rw [hl] at hp
 have hu:Gr.cK n cap=((plan (Nt.aU n) (Nt.aR n) cap).1.map (Gr.re (Nt.sO n.o)),0):=by
  unfold Gr.cK;rw [inZ (by simp [hc]),inZ (by simp [hp])]
 rw [hu];refine ⟨rfl,?_⟩;have ha:=pP (ws:=Nt.aU n) (cs:=Nt.aR n) (cap:=cap) (by unfold Nt.aU Nt.aR;rw [List.length_cons,List.length_map,List.length_map]);have hh:(Nt.sO n.o).length=n.o.length:=(Nt.aL h).2.2.2.2.1;have n1:=(Nt.aL h).1;have hg:(Nt.aR n).length=n.o.length:=by unfold Nt.aR;rw [List.length_map,hh]
 have ho:(Nt.aU n).length=(Nt.aR n).length+1:=by unfold Nt.aU;rw [List.length_cons,List.length_map,hh,hg]
 have hx:∀k,(Nt.aR n).getD k 0<=4294967296:=λk=>by
  rw [gdZ];rcases Nat.lt_or_ge k (Nt.aR n).length with q|q
  ·rw [geZ q,Option.getD_some]
   have hm:(Nt.aR n)[k]∈(Nt.sO n.o).map (Nt.cAt n):=gmZ q;obtain ⟨z,_,hz⟩:=List.mem_map.1 hm;rw [←hz];exact (Nt.tH h _).2
  ·rw [Zi q];simp
 have hI:=chain_in h h12 hc cap (of (Nt.aU n) (Nt.aR n) cap).cap;unfold fB at hl ⊢;unfold plan at ha ⊢
 split at hl
 ·simp at hl
 rename_i h1;rw [inZ h1] at ha ⊢;rw [inZ h1]
 split at hl
 ·simp at hl
 rename_i h2;rw [inZ h2] at ha ⊢;rw [inZ h2]
 split at hl
 ·simp at hl
 rename_i h3;rw [inZ h3] at ha ⊢;rw [inZ h3];have hn:=uP (cap:=cap) ho (by simpa using h1) oZ;have hH:(of (Nt.aU n) (Nt.aR n) cap).cap<=cap:=Int.min_le_left _ _;have hb:(of (Nt.aU n) (Nt.aR n) cap).n=n.o.length:=hg;have hs:∀k,(of (Nt.aU n) (Nt.aR n) cap).cost.getD k 0<=4294967296:=hx;rw [←List.length_map (f:=Gr.re (Nt.sO n.o))] at ha;generalize of (Nt.aU n) (Nt.aR n) cap=c at *;have hI:In c (Ck.base n cap) (Nt.sO n.o) (Nt.aD n):=hI;rw [hg] at h3 ha ⊢;have hF:=hn.cap0;obtain ⟨m,hm⟩:=ezZ hF;have hG:len c 0=m+1:=by unfold len kept;rw [ipZ rfl];omega
 rw [hm,tnZ] at h3 ha ⊢
 obtain ⟨t,ht⟩:=At.part hI hn n.o.length 0 n.o.length m ⟨Zc (n.o.length+1) false,[]⟩ (λk=>decide (k=0)) 0 0 (Ck.start (n.o.length+1)) oZ oZ oZ oZ oZ rfl (λk k1 _=>by simp;omega) (by
  rw [ipZ hb.symm,ipZ hb.symm,decide_eq_false (by simp [hb]),hb,Nat.sub_self];refine ⟨by rw [hb];rfl,by simp [Ck.start,hb],by simp [Ck.start,hb],by simp [Ck.start,hb],by simp [hb],λk hk=>?_,λk h1 hk=>?_,λk h1 hk=>?_,rfl,rfl,rfl,rfl,rfl,by show (0:Int)+0<=cap;omega⟩
  ·have hr:=(hI.nn hk).1
   show Ck.at_ ((Zc (n.o.length+1) false).set 0 true) _=_
   by_cases e:k=0
   ·subst e;rfl
   ·have:=hI.rng k oZ hk
    unfold Ck.at_;rw [gdZ,List.getElem?_set,inZ oZ,List.getElem?_replicate]
    split<;>simp [e]
  ·show Ck.at_ (Zc (n.o.length+1) false) _=(Zc (n.o.length+1) false).getD k false
   unfold Ck.at_;rw [gdZ,gdZ,List.getElem?_replicate,List.getElem?_replicate]
   split<;>split<;>rfl
  ·show Ck.at_ (Zc (n.o.length+1) false) _=_
   unfold Ck.at_;rw [gdZ,List.getElem?_replicate]
   split<;>simp<;>omega) (by show (0:Int)+m<=cap;omega)
 rw [hb,Nat.sub_zero] at ht;have hj:=ht.go;rw [hb] at hj;have hf:=ht.co;have hE:=ht.em;have hC:=ht.done;have hw:=qih hn (B:=4294967296) hs oZ n.o.length 0 n.o.length m oZ oZ oZ oZ oZ
 have hD:((n.o.length-0:Nat):Int)*((n.o.length-0:Nat):Int)*4294967296<=618475290624:=by
  rw [Nat.sub_zero];have:n.o.length*n.o.length<=12*12:=Nat.mul_le_mul h12 h12;rw [←Int.natCast_mul];omega
 rw [Int.zero_add] at hf;generalize (part c n.o.length 0 n.o.length m ⟨Zc (n.o.length+1) false,[]⟩).code.map (Gr.re (Nt.sO n.o))=cd at *;generalize (Rw c 0 n.o.length).getD m 0=lst at *;obtain ⟨hy,hv⟩:=Ck.sM _ _ _ (by rw [hj]);have he:=Cd.aL (ps:=cd) oZ hy;have hq:(Nt.aD n).length=n.o.length+1:=by rw [Nt.aD,List.length_cons,Nt.bH]
 have hd:cd.all (Cd.fine (Nt.aD n))=true:=by
  rw [Zf];intro p hp;have h5:p.2<((Nt.words n).length:Int):=hv p hp;rw [Nt.bX h] at h5;have h6:=Nt.tH h p.2.toNat;have h7:Safe.ok ((Nt.aD n).getD p.2.toNat 0)=true:=by rw [Safe.jV];omega
  unfold Cd.fine Cd.lX;rw [h7,decide_eq_true oZ];simp
 have hA:=Cd.nJ he hd (by rw [hf,Safe.kP];omega);refine ⟨t.aB,Cd.count 2 cd,max t.aB (Safe.max ((Nt.words n).drop 1)),?_⟩
 have hB:Ck.whole (Ck.base n cap) t=true:=by
  unfold Ck.whole;rw [hE,hC]
  show (true&&decide (n.o.length=(Nt.sO n.o).length))=true
  simp [hh]
 unfold Ck.run;rw [inZ (by simp [h]),inZ (by simp [he]),hj,inZ sZ,inZ (by simp [hB]),hA,inZ sZ,hf]
end Ch
theorem qij {n:aA} (hch:Nt.check n=0) (h12:n.o.length<=12):(1<=Safe.bK n.o.length/\Safe.bK n.o.length<=512)/\qaE n (Safe.bK n.o.length)=0:=by
 have h0:=(Nt.aL hch).1;obtain ⟨h1,h2,-⟩:=Safe.pF (n:=(n.o.length:Int)) oZ
 have h3:Safe.bK n.o.length<=512:=by
  rcases Int.lt_or_le 512 (Safe.bK n.o.length) with h3|h3
  ·have:=Int.mul_le_mul (Int.le_of_lt h3) (Int.le_of_lt h3) oZ oZ
   omega
  ·exact h3
 refine ⟨⟨h1,h3⟩,?_⟩;unfold qaE;rw [inZ (by simp [hch]),ipZ ⟨h1,h3⟩]
theorem Cd.costs_val {ps:List (Int × Int)} {cost:List Int} (h:(Cd.aD ps cost).2=0):(Cd.aD ps cost).1=Safe.sum (Cd.aJ cost ps):=by
 unfold Cd.aD at h ⊢
 split
 ·rename_i h0
  rw [ipZ h0] at h
  split
  ·rename_i h1
   rw [ipZ h1] at h
   split
   ·rfl
   ·rename_i h2;rw [inZ h2] at h;simp at h
  ·rename_i h1;rw [inZ h1] at h;simp at h
 ·rename_i h0;rw [inZ h0] at h;exact absurd h h0
theorem Ck.run_parts {n:aA} {ps:List (Int × Int)} {cap pk co ag hi:Int} (e:Ck.run n ps cap=((pk,co,ag,hi),0)):
  pk=(Ck.go (Ck.base n cap) (Ck.start (n.o.length+1)) ps).1.aB/\co=Safe.sum (Cd.aJ (Nt.aD n) ps)/\(Cd.aD ps (Nt.aD n)).2=0:=by
 unfold Ck.run at e
 split at e
 ·rename_i h;exact absurd (congrArg Prod.snd e) h
 split at e
 ·rename_i h;exact absurd (congrArg Prod.snd e) h
 split at e
 ·rename_i h;exact absurd (congrArg Prod.snd e) h
 split at e
 ·simp at e
 split at e
 ·rename_i h;exact absurd (congrArg Prod.snd e) h
 rename_i h;have h:(Cd.aD ps (Nt.aD n)).2=0:=by simpa using h
 have h1:_=pk:=congrArg (λz=>z.1.1) e;have h2:_=co:=congrArg (λz=>z.1.2.1) e;exact ⟨h1.symm,by rw [←h2];exact Cd.costs_val h,h⟩
namespace Gr
theorem low_run {n:aA} (h:Nt.check n=0) (h12:n.o.length<=12) (keep:List Int):(∃ag hi,Ck.run n (Rt.lW n keep).code 1073741824=((aB n keep,cost n keep,ag,hi),0))/\1<=aB n keep/\aB n keep<=1073741824/\Safe.sum (Nt.aD n)<=cost n keep/\
  ((∀z:Int,1<=z->z<=n.o.length->keep.contains z=true)->cost n keep=Safe.sum (Nt.aD n))/\(Cd.aD (Rt.lW n keep).code (Nt.aD n)).2=0:=by
 obtain ⟨pk,co,ag,hi,e,p1,p2,p3,-,p5⟩:=Rw.kG h h12 keep;obtain ⟨q1,q2,q3⟩:=Ck.run_parts e;have q1:pk=aB n keep:=q1;have q2:co=cost n keep:=q2;subst q1 q2;exact ⟨⟨ag,hi,e⟩,p1,p2,p3,λhk=>(p5 hk).1,q3⟩
theorem low_cap {n:aA} (h:Nt.check n=0) (h12:n.o.length<=12) (keep:List Int) (cap:Int):(aB n keep<=cap->∃ag hi,Ck.run n (Rt.lW n keep).code cap=((aB n keep,cost n keep,ag,hi),0))/\(cap<aB n keep->(Ck.run n (Rt.lW n keep).code cap).2≠0):=by
 obtain ⟨⟨ag,hi,e⟩,p1,p2,-⟩:=low_run h h12 keep;have hr:=Ck.pR (n:=n) (ps:=(Rt.lW n keep).code) (cap:=1073741824) oZ (by rw [e]);rw [e] at hr;refine ⟨λhc=>⟨ag,hi,hr.2.2.1 cap hc⟩,λhc h0=>?_⟩;have ha:=Ck.uL h0;have hq:=Ck.pR ha h0;have:=hq.2.2.1 1073741824 oZ;rw [e] at this;rw [←this] at hq;have:=hq.1;simp only at this;omega
def dR (n:aA) (p cap:Int):List Int:=if p=1 then ones n.o.length else if p=2 then qaw n (Safe.bK n.o.length) else (kL n cap).getD []
theorem qgg {pk:List Int->Int} {ws:List Int} {cap:Int}:∀ {m:Nat} {kept:List Int},kept.length<m->fit pk ws cap m kept=none->cap<pk []
 | 0,_,h,_=>absurd h oZ
 | m+1,kept,h,e=>by
  unfold fit at e
  split at e
  ·cases e
  ·rename_i h0
   split at e
   ·rename_i h1
    rw [List.eq_nil_of_length_eq_zero h1] at h0;omega
   ·rename_i h1
    have:=iU (ws:=ws) (kept:=kept) oZ;exact qgg oZ e
theorem qik {n:aA} (h:Nt.check n=0) (s:Int):∀z∈qaw n s,1<=z/\z<=(n.o.length:Int):=λz hz=>by
 unfold qaw at hz
 split at hz
 ·rename_i hs
  have hz:=Rt.every_mem.1 hz;unfold Rt.picks at hz;obtain ⟨i,hi,rfl⟩:=List.mem_map.1 hz;have hi:i<(Nt.sO n.o).length / s.toNat:=by simpa using hi
  obtain ⟨h1,-⟩:=Rt.uQ (os:=Nt.sO n.o) oZ hi;rw [Rt.get_at h1];have:=Rt.cB (n:=n) _ (gmZ h1);omega
 ·cases hz
theorem qeZ {pk:List Int->Int} {ws:List Int} {cap:Int}:∀ {m:Nat} {kept out:List Int},fit pk ws cap m kept=some out->out.length<=kept.length
 | 0,_,_,h=>by simp [fit] at h
 | m+1,kept,out,h=>by
  unfold fit at h
  split at h
  ·cases h;exact lrZ _
  ·split at h
   ·cases h
   ·have ih:=qeZ h
    have:=iU (ws:=ws) (kept:=kept) oZ;omega
theorem keepOf_len {n:aA} (h12:n.o.length<=12) (p cap:Int):(dR n p cap).length<=12:=by
 unfold dR
 split
 ·simpa [ones] using h12
 ·split
  ·unfold qaw
   split
   ·rename_i h
    rw [Rt.nP,Rt.bW h.1];exact Zv (Nat.div_le_self _ _) h12
   ·simp
  ·cases hf:kL n cap with
   | none=>simp
   | some kept=>
    have:=qeZ hf;have e:(ones n.o.length).length=n.o.length:=by simp [ones]
    show kept.length<=12
    omega
theorem make_low {n:aA} (h:Nt.check n=0) (h12:n.o.length<=12) {p:Int} (hp:p=1∨p=2∨p=3) (cap:Int):
  (aB n (dR n p cap)<=cap->∃ag hi,aM n p cap=(⟨p,(Rt.lW n (dR n p cap)).code,aB n (dR n p cap),cost n (dR n p cap),ag,hi⟩,0))/\
  (cap<aB n (dR n p cap)->aM n p cap=(fK,26)):=by
 have key:∀keep,bF n p cap=((Rt.lW n keep).code,0)->(aB n keep<=cap->∃ag hi,aM n p cap=(⟨p,(Rt.lW n keep).code,aB n keep,cost n keep,ag,hi⟩,0))/\(cap<aB n keep->aM n p cap=(fK,26)):=λkeep e=>by
  obtain ⟨h1,h2⟩:=low_cap h h12 keep cap;unfold aM;rw [inZ (by simp [h]),e,inZ sZ];refine ⟨λhc=>?_,λhc=>ipZ (h2 hc)⟩;obtain ⟨ag,hi,e2⟩:=h1 hc;refine ⟨ag,hi,?_⟩;simp only;rw [e2,inZ sZ]
 have ha:∀keep:List Int,(∀z∈keep,1<=z/\z<=(n.o.length:Int))->low n keep=((Rt.lW n keep).code,0):=λkeep hk=>by
  unfold low;rw [ipZ (qck hk)]
 rcases hp with rfl|rfl|rfl
 ·exact key _ (by unfold bF;rw [ipZ rfl];exact ha _ qdS)
 ·refine key _ ?_
  unfold bF;rw [inZ dZ,ipZ rfl,(qij h h12).2,inZ dZ];exact ha _ (qik h _)
 ·unfold dR
  rw [inZ dZ,inZ dZ];cases hf:kL n cap with
  | none=>
   have:=qgg (by simp [ones]) hf;refine ⟨λhc=>?_,λ_=>?_⟩
   ·show _
    have hc:aB n []<=cap:=hc;omega
   ·unfold aM
    rw [inZ (by simp [h])];have:bF n 3 cap=([],26):=by unfold bF;rw [inZ dZ,inZ dZ,ipZ rfl,hf]
    rw [this]
    rfl
  | some kept=>
   exact key _ (by unfold bF;rw [inZ dZ,inZ dZ,ipZ rfl,hf];rfl)
theorem make_range {n:aA} (h:Nt.check n=0) {p:Int} (hp:¬(1<=p/\p<=4)) (cap:Int):aM n p cap=(fK,11):=by
 have:bF n p cap=([],11):=by unfold bF;rw [inZ oZ,inZ oZ,inZ oZ,inZ oZ]
 unfold aM;rw [inZ (by simp [h]),this]
 rfl
theorem make_chain {n:aA} (h:Nt.check n=0) (h12:n.o.length<=12) (cap:Int):
  (Nt.chain n=false->aM n 4 cap=(fK,27))/\(Nt.chain n=true->
   ((Ch.fB (Nt.aU n) (Nt.aR n) cap).2≠0->aM n 4 cap=(fK,(Ch.fB (Nt.aU n) (Nt.aR n) cap).2))/\
   ((Ch.fB (Nt.aU n) (Nt.aR n) cap).2=0->∃pk ag hi,aM n 4 cap=(⟨4,(cK n cap).1,pk,(Ch.fB (Nt.aU n) (Nt.aR n) cap).1,ag,hi⟩,0))):=by
 have ha:bF n 4 cap=cK n cap:=by unfold bF;rw [inZ dZ,inZ dZ,inZ dZ,ipZ rfl]
 refine ⟨λhc=>?_,λhc=>⟨λhl=>?_,λhl=>?_⟩⟩
 ·unfold aM
  rw [inZ (by simp [h]),ha,show cK n cap=([],27) from by unfold cK;rw [ipZ hc]]
  rfl
 ·have hp:=Ch.pZ (Nt.aU n) (Nt.aR n) cap
  unfold aM;rw [inZ (by simp [h]),ha,show cK n cap=([],(Ch.fB (Nt.aU n) (Nt.aR n) cap).2) from by unfold cK;rw [inZ (by simp [hc]),hp,ipZ hl]];rw [ipZ hl]
 ·obtain ⟨e0,pk,ag,hi,e⟩:=Ch.chain_run h h12 hc hl
  refine ⟨pk,ag,hi,?_⟩;unfold aM;rw [inZ (by simp [h]),ha,e0,inZ dZ,e,inZ sZ]
end Gr
theorem qf0:(prog.info? 129).map (λi=>(i.zero,i.size,i.bytes))=some (some (.agg #[nQ iQ 0,nQ iQ 0]),2,16):=by kernel_rfl
theorem qil {w:Zp1} {A:Option Addr} {ps:List (Int × Int)} (h:aW w A ps):(A=none/\ps=[])∨∃ad,A=some ad/\∀(j:Nat) (u:Value),(qa4 ps)[j]? = some u->w.cell? (ad.add j)=some u:=by
 rcases A with _|ad
 ·left
  refine ⟨rfl,?_⟩;rcases ps with _|⟨s,r⟩
  ·rfl
  ·obtain ⟨_,_,e,_⟩:=h 0 sZ
   cases e
 ·right
  refine ⟨ad,rfl,λj u hu=>?_⟩
  have hj:j<ps.length*2:=by
   rcases Nat.lt_or_ge j (qa4 ps).length with h|h
   ·rw [qas] at h;exact h
   ·rw [Zi h] at hu;cases hu
  have hk:j / 2<ps.length:=by omega
  obtain ⟨b,off,e,_,h1,h2⟩:=h (j / 2) hk;injection e with e
  subst e;have ⟨e1,e2⟩:=qaS ps (j / 2) hk;rw [qaY];rcases Nat.mod_two_eq_zero_or_one j with hm|hm
  ·have ha:j / 2*2=j:=by omega
   rw [ha] at e1 h1;rw [hu] at e1;injection e1 with e1
   rw [h1,e1]
  ·have ha:j / 2*2+1=j:=by omega
   rw [ha] at e2;rw [Nat.add_assoc,ha] at h2;rw [hu] at e2;injection e2 with e2
   rw [h2,e2]
theorem qdY:∀(ps:List (Int × Int)),∀u∈qa4 ps,u.oneCell'=true:=λps u hu=>by
 unfold qa4 at hu;obtain ⟨p,_,hp⟩:=List.mem_flatMap.1 hu;simp at hp;rcases hp with rfl|rfl<;>rfl
theorem qbA {P:Program} {ops:Array Oper} {rest:List Oper} {o:Oper} {a:Act} {Q:Exit->Act->Zp1->Prop} {w:Zp1} (hgd:o.guard=none) (s x:Operand) (t:TypeId)
  (ho:o.op=.call { callee:=.builtin .append,args:=#[s,x],argTypes:=#[t,t] })
  (base:Nat) (e:TypeId) (i:TypeInfo) (ht:P.underlying t=some (.slice e)) (hi:P.info? e=some i) (hz:i.zero=some (.agg #[nQ iQ 0,nQ iQ 0])) (hsize:i.size=2) (hby:i.bytes=16)
  (hs:a.eval s=sQ none 0 0) (X:Option Addr) (f:Nat) (l:List (Int × Int)) (hx:a.eval x=sQ X l.length f) (hX:aW w X l) (hbase:base<=w.heap.size) (hn:l.length<=1000000)
  (h:∀v' w',w'.ownsRow base e 2 v' l.length (qa4 l)->Below w.heap.size w w'->wpList P ops Q rest (a.put o.dst v') w'):
  wpList P ops Q (o::rest) a w:=by
 rcases qil hX with ⟨rfl,rfl⟩|⟨ad,rfl,hc⟩
 ·refine wpList_plain hgd λK hK=>?_
  unfold Oper.wp execOp;simp only [ho,resolve,invoke,builtin,Sem.run_bind,Sem.run_pure,Result.andThen_ok,List.map_toArray,List.map_cons,List.map_nil,hs,hx,List.length_nil,qbg w t o.type e i ht hi f];exact hK _ _ (h _ w (World.ownsRow_nil w base e 2) (Ze1 _ _))
 ·refine wpList_append_own_at w hgd s x t ho base e i (.agg #[nQ iQ 0,nQ iQ 0]) 2 16 ht hi hz hsize hby rfl dZ (sQ none 0 0) 0 [] hs (World.ownsRow_nil w base e 2) ad l.length f (qa4 l) hx (by rw [qas]) hc (qdY l) (by unfold maxLen;omega) oZ hbase λv' w' ha hgrow _ _=>?_
  rw [Zw] at ha;exact h v' w' ha ((Ze1 _ w).grown hgrow (lrZ _) (by simp [Value.ownBlock]))
theorem aW.set {w:Zp1} {A:Option Addr} {ps:List (Int × Int)} (h:aW w A ps) {p:Addr} (hp:ps≠[]->∀a,A=some a->a.block≠p.block) (v:Value):aW (w.setCell p v) A ps:=λk hk=>by
 obtain ⟨b,off,e,hb,h1,h2⟩:=h k hk;have ha:=hp (λq=>by subst q;simp at hk) _ e;have hh:=Below.heap_setCell w p v b ha;exact ⟨b,off,e,by simpa using hb,by rw [Zi1 (w:=w) (a:=⟨b,off+k*2,none⟩) hh];exact h1,by rw [Zi1 (w:=w) (a:=⟨b,off+k*2+1,none⟩) hh];exact h2⟩
theorem Ints.set {w:Zp1} {A:Option Addr} {zs:List Int} (h:Ints iQ w A zs) {p:Addr} (hp:zs≠[]->∀a,A=some a->a.block≠p.block) (v:Value):Ints iQ (w.setCell p v) A zs:=λk hk=>by
 obtain ⟨b,off,e,hb,h1⟩:=h k hk;have ha:=hp (λq=>by subst q;simp at hk) _ e;have hh:=Below.heap_setCell w p v b ha;exact ⟨b,off,e,by simpa using hb,by rw [Zi1 (w:=w) (a:=⟨b,off+k,none⟩) hh];exact h1⟩
theorem Ints.off {w:Zp1} {A:Option Addr} {zs:List Int} {g:Nat} (h:Ints iQ w A zs) (hg:w.heap.size<=g):zs≠[]->∀a,A=some a->a.block≠g:=λhz a e q=>by
 obtain ⟨b,off,e2,hb,_⟩:=h 0 (List.length_pos_iff.2 hz);rw [e] at e2;injection e2 with e2
 subst e2;simp at q;omega
theorem aW.off {w:Zp1} {A:Option Addr} {ps:List (Int × Int)} {g:Nat} (h:aW w A ps) (hg:w.heap.size<=g):ps≠[]->∀a,A=some a->a.block≠g:=λhz a e q=>by
 obtain ⟨b,off,e2,hb,_⟩:=h 0 (List.length_pos_iff.2 hz);rw [e] at e2;injection e2 with e2
 subst e2;simp at q;omega
structure RsF where
 A:Option Addr
 N:Option Addr
 K:Option Addr
 c:Nat
 d:Nat
 ck:Nat
structure RsV where
 Th:Option Addr
 C:Option Addr
 ct:Nat
 cc:Nat
def RsF.cells (F:RsF) (V:RsV) (n:aA) (lo:Int) (keep:List Int) (x:RtD):Array Value:=
 #[sQ F.A n.inn.length F.c,sQ F.N n.o.length F.d,nQ iQ lo,sQ F.K keep.length F.ck,sQ V.Th x.there.length V.ct,sQ none 0 0,sQ V.C x.code.length V.cc]
structure RsV.At (V:RsV) (x:RtD) (w:Zp1):Prop where
 there:Ints iQ w V.Th x.there
 code:aW w V.C x.code
structure RsV.Off (V:RsV) (x:RtD) (g:Nat):Prop where
 there:x.there≠[]->∀a,V.Th=some a->a.block≠g
 code:x.code≠[]->∀a,V.C=some a->a.block≠g
theorem aW.later {w w':Zp1} {A:Option Addr} {ps:List (Int × Int)} (h:aW w A ps) (hl:Later w w'):aW w' A ps:=h.below hl (lrZ _)
theorem RsV.At.later {V:RsV} {x:RtD} {w w':Zp1} (h:V.At x w) (hl:Later w w'):V.At x w':=⟨h.there.below hl (lrZ _),h.code.later hl⟩
theorem RsV.At.off {V:RsV} {x:RtD} {w:Zp1} {g:Nat} (h:V.At x w) (hg:w.heap.size<=g):V.Off x g:=⟨h.there.off hg,h.code.off hg⟩
theorem RsV.At.set {V:RsV} {x:RtD} {w:Zp1} {p:Addr} (h:V.At x w) (ho:V.Off x p.block) (v:Value):V.At x (w.setCell p v):=⟨h.there.set ho.there v,h.code.set ho.code v⟩
def RsP (F:RsF) (V:RsV) (n:aA) (lo:Int) (keep:List Int) (x x':RtD) (w:Zp1) (e:Ending) (w':Zp1):Prop:=
 ∃V':RsV,e=.returned (.agg (F.cells V' n lo keep x'))/\V'.At x' w'/\(∀g,g<w.heap.size->V.Off x g->V'.Off x' g)/\Later w w'
def qbs:Array Value:=#[sQ none 0 0,sQ none 0 0,nQ iQ 0,sQ none 0 0,sQ none 0 0,sQ none 0 0,sQ none 0 0]
abbrev fG (w:Zp1) (g:Nat) (a0 a1 a2 a3 a4 a5 a6:Value):Zp1:=((((((w.setCell ⟨g,0,none⟩ a0).setCell ⟨g,1,none⟩ a1).setCell ⟨g,2,none⟩ a2).setCell ⟨g,3,none⟩ a3).setCell ⟨g,4,none⟩ a4).setCell ⟨g,5,none⟩ a5).setCell ⟨g,6,none⟩ a6
theorem qh1 (cs:Array Value) (h:cs.size=7) (a0 a1 a2 a3 a4 a5 a6:Value):((((((cs.setIfInBounds 0 a0).setIfInBounds 1 a1).setIfInBounds 2 a2).setIfInBounds 3 a3).setIfInBounds 4 a4).setIfInBounds 5 a5).setIfInBounds 6 a6=#[a0,a1,a2,a3,a4,a5,a6]:=by
 obtain ⟨l⟩:=cs
 match l,h with
 | [x0,x1,x2,x3,x4,x5,x6],_=>simp only [List.setIfInBounds_toArray,List.set_cons_zero,List.set_cons_succ]
theorem Blk.fG {w:Zp1} {g:Nat} {t:TypeId} {cs:Array Value} (h:Blk w g t cs) (hs:cs.size=7) (a0 a1 a2 a3 a4 a5 a6:Value):Blk (fG w g a0 a1 a2 a3 a4 a5 a6) g t #[a0,a1,a2,a3,a4,a5,a6]:=by
 have k:=((((((h.aO 0 a0).aO 1 a1).aO 2 a2).aO 3 a3).aO 4 a4).aO 5 a5).aO 6 a6;rw [qh1 cs hs] at k;exact k
theorem Blk.off7 {w:Zp1} {g g2:Nat} {t:TypeId} {cs:Array Value} (h:Blk w g t cs) (hg:g≠g2) (a0 a1 a2 a3 a4 a5 a6:Value):Blk (Go.Proofs.YtddkenhemnkkeaaGreat.fG w g2 a0 a1 a2 a3 a4 a5 a6) g t cs:=
 ((((((h.far (p:=⟨g2,0,none⟩) hg a0).far (p:=⟨g2,1,none⟩) hg a1).far (p:=⟨g2,2,none⟩) hg a2).far (p:=⟨g2,3,none⟩) hg a3).far (p:=⟨g2,4,none⟩) hg a4).far (p:=⟨g2,5,none⟩) hg a5).far (p:=⟨g2,6,none⟩) hg a6
theorem qf1 {W w:Zp1} {g:Nat} (h:Later W w) (hg:W.heap.size<=g) (a0 a1 a2 a3 a4 a5 a6:Value):Later W (fG w g a0 a1 a2 a3 a4 a5 a6):=
 ((((((h.set (p:=⟨g,0,none⟩) hg a0).set (p:=⟨g,1,none⟩) hg a1).set (p:=⟨g,2,none⟩) hg a2).set (p:=⟨g,3,none⟩) hg a3).set (p:=⟨g,4,none⟩) hg a4).set (p:=⟨g,5,none⟩) hg a5).set (p:=⟨g,6,none⟩) hg a6
theorem RsV.At.fG {V:RsV} {x:RtD} {w:Zp1} {g:Nat} (h:V.At x w) (ho:V.Off x g) (a0 a1 a2 a3 a4 a5 a6:Value):V.At x (fG w g a0 a1 a2 a3 a4 a5 a6):=
 ((((((h.set (p:=⟨g,0,none⟩) ho a0).set (p:=⟨g,1,none⟩) ho a1).set (p:=⟨g,2,none⟩) ho a2).set (p:=⟨g,3,none⟩) ho a3).set (p:=⟨g,4,none⟩) ho a4).set (p:=⟨g,5,none⟩) ho a5).set (p:=⟨g,6,none⟩) ho a6
theorem qai {F:RsF} {V:RsV} {n:aA} {lo:Int} {keep:List Int} {x:RtD} {w:Zp1} {g:Nat} {t:TypeId} (h:Blk w g t (F.cells V n lo keep x)):
  w.cell? ⟨g,0,none⟩=some (sQ F.A n.inn.length F.c)/\w.cell? ⟨g,1,none⟩=some (sQ F.N n.o.length F.d)/\w.cell? ⟨g,2,none⟩=some (nQ iQ lo)/\w.cell? ⟨g,3,none⟩=some (sQ F.K keep.length F.ck)/\w.cell? ⟨g,4,none⟩=some (sQ V.Th x.there.length V.ct)/\w.cell? ⟨g,5,none⟩=some (sQ none 0 0)/\w.cell? ⟨g,6,none⟩=some (sQ V.C x.code.length V.cc):=by
 refine ⟨?_,?_,?_,?_,?_,?_,?_⟩<;>rw [h.cell]<;>rfl
theorem qar {w:Zp1} {g:Nat} {t:TypeId} {cs:Array Value} (h:Blk w g t cs):w.frozen? ⟨g,0,none⟩=false/\w.frozen? ⟨g,1,none⟩=false/\w.frozen? ⟨g,2,none⟩=false/\w.frozen? ⟨g,3,none⟩=false/\w.frozen? ⟨g,4,none⟩=false/\w.frozen? ⟨g,5,none⟩=false/\w.frozen? ⟨g,6,none⟩=false:=
 ⟨h.frozen 0,h.frozen 1,h.frozen 2,h.frozen 3,h.frozen 4,h.frozen 5,h.frozen 6⟩
theorem qh2 {w:Zp1} {g:Nat} {t:TypeId} (h:Blk w g t qbs):w.cell? ⟨g,0,none⟩=some (sQ none 0 0)/\w.cell? ⟨g,1,none⟩=some (sQ none 0 0)/\w.cell? ⟨g,2,none⟩=some (nQ iQ 0)/\w.cell? ⟨g,3,none⟩=some (sQ none 0 0)/\w.cell? ⟨g,4,none⟩=some (sQ none 0 0)/\w.cell? ⟨g,5,none⟩=some (sQ none 0 0)/\w.cell? ⟨g,6,none⟩=some (sQ none 0 0):=by
 refine ⟨?_,?_,?_,?_,?_,?_,?_⟩<;>rw [h.cell]<;>rfl
structure RsB (h g6:Nat) (F:RsF) (V:RsV) (n:aA) (lo:Int) (keep:List Int) (x:RtD) (V2:RsV) (y:RtD) (w0 w:Zp1):Prop where
 hh:w0.heap.size<=h
 h6:h<g6
 later:Later w0 w
 b3:Blk w h 119 (F.cells V2 n lo keep y)
 b6:Blk w g6 119 qbs
 aty:V2.At y w
 o3:V2.Off y h
 o6:V2.Off y g6
 kY:∀g,g<w0.heap.size->V.Off x g->V2.Off y g
section
variable {h g6:Nat} {F:RsF} {V V2 V3:RsV} {n:aA} {lo:Int} {keep:List Int} {x y y3:RtD} {w0 w w':Zp1}
theorem RsB.to_later (k:RsB h g6 F V n lo keep x V2 y w0 w) (hl:Later w w'):RsB h g6 F V n lo keep x V2 y w0 w':=
 ⟨k.hh,k.h6,k.later.trans hl,hl.blk k.b3,hl.blk k.b6,k.aty.later hl,k.o3,k.o6,k.kY⟩
theorem RsB.start (hV:V.At x w):RsB w.heap.size (w.heap.size+1) F V n lo keep x V x w ((w.alloc (.cells (F.cells V n lo keep x) 119)).alloc (.cells qbs 119)):=by
 have hl:Later w ((w.alloc (.cells (F.cells V n lo keep x) 119)).alloc (.cells qbs 119)):=((Later.refl w).alloc _).alloc _;have h6:=Blk.new (w.alloc (.cells (F.cells V n lo keep x) 119)) 119 qbs;rw [Zh1] at h6;exact ⟨lrZ _,by omega,hl,(Blk.new _ _ _).alloc _,h6,hV.later hl,hV.off (lrZ _),hV.off oZ,λ_ _ q=>q⟩
theorem RsB.put (k:RsB h g6 F V n lo keep x V2 y w0 w) (hl:Later w w') (hA:V3.At y3 w') (ho:∀g,g<w.heap.size->V2.Off y g->V3.Off y3 g):
  RsB h g6 F V n lo keep x V3 y3 w0 (fG w' h (sQ F.A n.inn.length F.c) (sQ F.N n.o.length F.d) (nQ iQ lo) (sQ F.K keep.length F.ck) (sQ V3.Th y3.there.length V3.ct) (sQ none 0 0) (sQ V3.C y3.code.length V3.cc)):=by
 have h1:=k.b3.lt;have h2:=k.b6.lt;have h3:=k.hh;have h4:=k.h6;have o3:=ho h h1 k.o3;exact ⟨k.hh,k.h6,qf1 (k.later.trans hl) k.hh _ _ _ _ _ _ _,(hl.blk k.b3).fG rfl _ _ _ _ _ _ _,(hl.blk k.b6).off7 oZ _ _ _ _ _ _ _,hA.fG o3 _ _ _ _ _ _ _,o3,ho g6 h2 k.o6,λg hg q=>ho g oZ (k.kY g hg q)⟩
theorem RsB.fin (k:RsB h g6 F V n lo keep x V2 y w0 w):RsP F V n lo keep x y w0 (.returned (.agg (F.cells V2 n lo keep y))) (fG w g6 (sQ F.A n.inn.length F.c) (sQ F.N n.o.length F.d) (nQ iQ lo) (sQ F.K keep.length F.ck) (sQ V2.Th y.there.length V2.ct) (sQ none 0 0) (sQ V2.C y.code.length V2.cc)):=
 ⟨V2,rfl,k.aty.fG k.o6 _ _ _ _ _ _ _,k.kY,qf1 k.later (by have:=k.hh;have:=k.h6;omega) _ _ _ _ _ _ _⟩
theorem RsB.fin2 (k:RsB h g6 F V n lo keep x V2 y w0 w) (hl:Later w w') (hA:V3.At y3 w') (ho:∀g,g<w.heap.size->V2.Off y g->V3.Off y3 g):RsP F V n lo keep x y3 w0 (.returned (.agg (F.cells V3 n lo keep y3))) (fG w' g6 (sQ F.A n.inn.length F.c) (sQ F.N n.o.length F.d) (nQ iQ lo) (sQ F.K keep.length F.ck) (sQ V3.Th y3.there.length V3.ct) (sQ none 0 0) (sQ V3.C y3.code.length V3.cc)):=
 ⟨V3,rfl,hA.fG (ho g6 k.b6.lt k.o6) _ _ _ _ _ _ _,λg hg q=>ho g (by have:=k.hh;have:=k.b3.lt;omega) (k.kY g hg q),qf1 (k.later.trans hl) (by have:=k.hh;have:=k.h6;omega) _ _ _ _ _ _ _⟩
theorem RsB.there (k:RsB h g6 F V n lo keep x V2 y w0 w) (hl:Later w w') {A:Option Addr} {c:Nat} {l:List Int} (hI:Ints iQ w' A l) (hA:∀a,A=some a->w.heap.size<=a.block):
  RsB h g6 F V n lo keep x ⟨A,V2.C,c,V2.cc⟩ ⟨l,y.code⟩ w0 (w'.setCell ⟨h,4,none⟩ (sQ A l.length c)):=by
 have h1:=k.b3.lt;have h2:=k.b6.lt;have h3:=k.hh;have h4:=k.h6;refine ⟨k.hh,k.h6,(k.later.trans hl).set (p:=⟨h,4,none⟩) k.hh _,(hl.blk k.b3).aO 4 _,(hl.blk k.b6).far (p:=⟨h,4,none⟩) (by show g6≠h;omega) _,⟨?_,?_⟩,⟨λ_ a e=>by have:=hA a e;omega,k.o3.code⟩,⟨λ_ a e=>by have:=hA a e;omega,k.o6.code⟩,λg hg q=>⟨λ_ a e=>by have:=hA a e;omega,(k.kY g hg q).code⟩⟩
 ·exact hI.set (p:=⟨h,4,none⟩) (λ_ a e=>by have:=hA a e;show a.block≠h;omega) _
 ·exact (k.aty.code.later hl).set (p:=⟨h,4,none⟩) k.o3.code _
theorem RsB.code (k:RsB h g6 F V n lo keep x V2 y w0 w) (hl:Later w w') {A:Option Addr} {c:Nat} {l:List (Int × Int)} (hI:aW w' A l) (hA:∀a,A=some a->w.heap.size<=a.block):
  RsB h g6 F V n lo keep x ⟨V2.Th,A,V2.ct,c⟩ ⟨y.there,l⟩ w0 (w'.setCell ⟨h,6,none⟩ (sQ A l.length c)):=by
 have h1:=k.b3.lt;have h2:=k.b6.lt;have h3:=k.hh;have h4:=k.h6;refine ⟨k.hh,k.h6,(k.later.trans hl).set (p:=⟨h,6,none⟩) k.hh _,(hl.blk k.b3).aO 6 _,(hl.blk k.b6).far (p:=⟨h,6,none⟩) (by show g6≠h;omega) _,⟨?_,?_⟩,⟨k.o3.there,λ_ a e=>by have:=hA a e;omega⟩,⟨k.o6.there,λ_ a e=>by have:=hA a e;omega⟩,λg hg q=>⟨(k.kY g hg q).there,λ_ a e=>by have:=hA a e;omega⟩⟩
 ·exact (k.aty.there.below hl (lrZ _)).set (p:=⟨h,6,none⟩) k.o3.there _
 ·exact hI.set (p:=⟨h,6,none⟩) (λ_ a e=>by have:=hA a e;show a.block≠h;omega) _
end
set_option maxRecDepth 100000 in
theorem qbT (F:RsF) (V:RsV) (n:aA) (lo:Int) (keep:List Int) (x:RtD) (w:Zp1) (hV:V.At x w) (hl:x.code.length<=100000) (k id:Int):
  Calls prog 60 #[.agg (F.cells V n lo keep x),nQ iQ k,nQ iQ id] w (RsP F V n lo keep x (Rt.dN k id x) w):=by
 obtain ⟨i0,hi,hm,hr,hj⟩:=info_parts qf0;have hB:=RsB.start (F:=F) (n:=n) (lo:=lo) (keep:=keep) hV;have y6:=(qai hB.b3).2.2.2.2.2.2;unfold qbs at *;have hk:((w.alloc (.cells (F.cells V n lo keep x) 119)).alloc (.cells #[sQ none 0 0,sQ none 0 0,nQ iQ 0,sQ none 0 0,sQ none 0 0,sQ none 0 0,sQ none 0 0] 119)).heap.size=w.heap.size+2:=by simp
 obtain ⟨HB,hz,HV⟩:=zd3 hB hk hV;clear hB hk hV;go_in;go_upto_region 2 with fail;generalize (w.alloc (.cells (F.cells V n lo keep x) 119)).alloc (.cells #[sQ none 0 0,sQ none 0 0,nQ iQ 0,sQ none 0 0,sQ none 0 0,sQ none 0 0,sQ none 0 0] 119)=w2 at *;generalize hg3:w.heap.size=g3 at *;go_wp2_with (at_builtin;refine qbA rfl _ _ 66 rfl w2.heap.size 129 i0 underlying66 hi hm hr hj rfl V.C V.cc x.code rfl HB.out.aty.code (lrZ _) oZ ?_);intro v' w3 hown hq;obtain ⟨A3,c3,rfl⟩:=qa6 hown;have hg:Later w2 w3:=hq;have hd:=qa8 hown (.cells #[nQ iQ k,nQ iQ id] 129);have hs:=hg.alloc (.cells #[nQ iQ k,nQ iQ id] 129);have hw:=Below.size hg;have hn:=zI (λb (hb:(Zb1 A3 x.code.length c3).ownBlock=some b)=>(hown.lt b hb).1);clear y6 hq hown;obtain ⟨hy,ht,hx⟩:=zd3 hg hs hg3;clear hg hs hg3;go_wp2_with (at_builtin;refine wpList_append_own_at _ rfl _ _ 66 rfl w2.heap.size 129 i0 (.agg #[nQ iQ 0,nQ iQ 0]) 2 16 underlying66 hi hm hr hj rfl dZ _ _ _ rfl hd ⟨w3.heap.size,0,none⟩ 1 1 [nQ iQ k,nQ iQ id] rfl rfl ?c1 (by intro u hu;simp at hu;rcases hu with rfl|rfl<;>rfl) (by unfold maxLen;omega) oZ ?c2 ?_)
 first|(case c1=>exact World.news_of_block (cs:=#[nQ iQ k,nQ iQ id]) (t:=129) (fr:=(0,0)) (heap_alloc_new w3 _))|skip
 case c2=>simp;omega
 intro v' w5 hc hgrow _ hv;have hh:Later w2 w5:=Below.grown ht.out hgrow soZ (λb hb=>hn.out b hb);obtain ⟨cd,hcd⟩:∃cd,x.code++[(k,id)]=cd:=⟨_,rfl⟩
 have ha:w5.ownsRow w2.heap.size 129 2 v' cd.length (qa4 cd):=by rw [←hcd,qaz,Ze,List.length_singleton];exact hc
 have HE:=zI (show Rt.dN k id x=⟨x.there,cd⟩ by unfold Rt.dN;rw [hcd]);clear hcd;obtain ⟨A5,c5,rfl⟩:=qa6 ha
 have hP:aW w5 A5 cd:=by
  obtain ⟨A,c,e,_,hp⟩:=aW.jB ha;injection e with e;subst e;exact hp
 have he:=qdv ha;have ho:=HB.out.code hh (c:=c5) hP he;have d6:w5.cell? ⟨g3,6,none⟩=some (sQ V.C x.code.length V.cc):=(qai (hh.blk HB.out.b3)).2.2.2.2.2.2;have f6:w5.frozen? ⟨g3,6,none⟩=false:=(hh.blk HB.out.b3).frozen 6;clear hc hgrow hv hd hn hP he hh ha;have hf:=zI ho;clear ho;go_upto_region 4 with fail;generalize w5.setCell ⟨g3,6,none⟩ (sQ A5 cd.length c5)=w6 at *;clear d6 f6;obtain ⟨y0,y1,y2,y3,y4,y5,y6⟩:=qai hf.out.b3;obtain ⟨z0,z1,z2,z3,z4,z5,z6⟩:=qh2 hf.out.b6;obtain ⟨f0,f1,f2,f3,f4,f5,f6⟩:=qar hf.out.b6;have HF:=zI hf.out.fin;rw [←HE.out] at HF;go_wp2_with fail;refine Zk1 (v:=.agg (F.cells ⟨V.Th,A5,V.ct,c5⟩ n lo keep ⟨x.there,cd⟩)) (by simp [results,results60,go_sem,z0,z1,z2,z3,z4,z5,z6];rfl) rfl ?_;rw [HE.out] at HF;rw [HE.out];exact HF.out
set_option maxRecDepth 100000 in
theorem qcm (F:RsF) (V:RsV) (n:aA) (lo:Int) (keep:List Int) (x:RtD) (w:Zp1) (hV:V.At x w) (hl:x.code.length<=100000) (ht:x.there.length<=1000) (k id:Int):
  Calls prog 56 #[.agg (F.cells V n lo keep x),nQ iQ k,nQ iQ id] w (RsP F V n lo keep x (Rt.dW k id x) w):=by
 obtain ⟨i0,hi,hn,hw,hm⟩:=info_parts qag;have hB:=RsB.start (F:=F) (n:=n) (lo:=lo) (keep:=keep) hV;obtain ⟨y0,y1,y2,y3,y4,y5,y6⟩:=qai hB.b3;unfold qbs at *;obtain ⟨HB,HV⟩:=zd2 hB hV;clear hB hV;go_in;go_upto_region 1 with fail;generalize (w.alloc (.cells (F.cells V n lo keep x) 119)).alloc (.cells #[sQ none 0 0,sQ none 0 0,nQ iQ 0,sQ none 0 0,sQ none 0 0,sQ none 0 0,sQ none 0 0] 119)=w2 at *;generalize hg3:w.heap.size=g3 at *;have hA:=zI hg3;clear hg3;go_wp2_with fail;refine (qbT F V n lo keep x w2 HB.out.aty hl k id).mono ?_;rintro e w3 ⟨V3,rfl,hr,hq,hj⟩;have hk:=HB.out.put hj hr hq;unfold fG at hk;obtain ⟨d0,d1,d2,d3,d4,d5,d6⟩:=qai (hj.blk HB.out.b3);obtain ⟨f0,f1,f2,f3,f4,f5,f6⟩:=qar (hj.blk HB.out.b3);have HY:=zI (show Rt.dW k id x=⟨(Rt.dN k id x).there++[id],(Rt.dN k id x).code⟩ from rfl);have hC:(Rt.dN k id x).there.length<=1000:=ht;rw [show F.cells V3 n lo keep (Rt.dN k id x)=#[sQ F.A n.inn.length F.c,sQ F.N n.o.length F.d,nQ iQ lo,sQ F.K keep.length F.ck,sQ V3.Th (Rt.dN k id x).there.length V3.ct,sQ none 0 0,sQ V3.C (Rt.dN k id x).code.length V3.cc] from rfl];generalize Rt.dN k id x=y at *;clear y0 y1 y2 y3 y4 y5 y6 hr hq hj;have he:=zI hk;clear hk;go_upto_region 2 with fail;clear d0 d1 d2 d3 d4 d5 d6 f0 f1 f2 f3 f4 f5 f6;generalize ((((((w3.setCell ⟨g3,0,none⟩ (sQ F.A n.inn.length F.c)).setCell ⟨g3,1,none⟩ (sQ F.N n.o.length F.d)).setCell ⟨g3,2,none⟩ (nQ iQ lo)).setCell ⟨g3,3,none⟩ (sQ F.K keep.length F.ck)).setCell ⟨g3,4,none⟩ (sQ V3.Th y.there.length V3.ct)).setCell ⟨g3,5,none⟩ (sQ none 0 0)).setCell ⟨g3,6,none⟩ (sQ V3.C y.code.length V3.cc)=w4 at *;obtain ⟨-,-,-,-,y4,-,-⟩:=qai he.out.b3;go_wp2_with (at_builtin;refine qaT rfl _ _ 22 rfl w4.heap.size 3 i0 underlying22 hi hn hw hm rfl V3.Th V3.ct y.there rfl he.out.aty.there (lrZ _) oZ ?_);intro v' w5 hown hp
 obtain ⟨A5,c5,rfl⟩:=qa6 hown;have hh:Later w4 w5:=hp;have hd:=qa8 hown (.cells #[nQ iQ id] 3);have hs:=hh.alloc (.cells #[nQ iQ id] 3);have hz:=Below.size hh;have ho:=zI (λb (hb:(Zb1 A5 y.there.length c5).ownBlock=some b)=>(hown.lt b hb).1);clear y4 hp hown;obtain ⟨hD,hy⟩:=zd2 hh hs;clear hh hs;go_wp2_with (at_builtin;refine wpList_append_own_at _ rfl _ _ 22 rfl w4.heap.size 3 i0 (nQ iQ 0) 1 8 underlying22 hi hn hw hm rfl dZ _ _ _ rfl hd ⟨w5.heap.size,0,none⟩ 1 1 [nQ iQ id] rfl rfl ?c1 (by intro u hu;simp at hu;subst hu;rfl) (by unfold maxLen;omega) oZ ?c2 ?_)
 first|(case c1=>exact qap w5 _ _)|skip
 case c2=>simp;omega
 intro v' w7 hc hgrow _ hx;have hg:Later w4 w7:=Below.grown hy.out hgrow soZ (λb hb=>ho.out b hb);obtain ⟨th,hth⟩:∃th,y.there++[id]=th:=⟨_,rfl⟩
 have ha:w7.ownsRow w4.heap.size 3 1 v' th.length (th.map (Za1 iQ)):=by rw [←hth,List.map_append,Ze,List.length_singleton];exact hc
 have HE:=zI (HY.out.trans (by rw [hth]));clear hth;obtain ⟨A7,c7,rfl⟩:=qa6 ha;obtain ⟨hI,-,-⟩:=qak ha;have hv:=he.out.there hg (c:=c7) hI (qdv ha);have d4:w7.cell? ⟨g3,4,none⟩=some (sQ V3.Th y.there.length V3.ct):=(qai (hg.blk he.out.b3)).2.2.2.2.1;have f4:w7.frozen? ⟨g3,4,none⟩=false:=(hg.blk he.out.b3).frozen 4;clear hc hgrow hx hd ho hI hg ha HY;have hf:=zI hv;clear hv;go_upto_region 5 with fail;generalize w7.setCell ⟨g3,4,none⟩ (sQ A7 th.length c7)=w8 at *;clear d4 f4;obtain ⟨y0,y1,y2,y3,y4,y5,y6⟩:=qai hf.out.b3;obtain ⟨z0,z1,z2,z3,z4,z5,z6⟩:=qh2 hf.out.b6;obtain ⟨f0,f1,f2,f3,f4,f5,f6⟩:=qar hf.out.b6;go_wp2_with fail;refine Zk1 (v:=.agg (F.cells ⟨A7,V3.C,c7,V3.cc⟩ n lo keep ⟨th,y.code⟩)) (by simp [results,results56,go_sem,z0,z1,z2,z3,z4,z5,z6];rfl) rfl ?_;rw [HE.out];exact hf.out.fin
set_option maxRecDepth 100000 in
theorem qb1 (F:RsF) (V:RsV) (n:aA) (lo:Int) (keep:List Int) (x:RtD) (w:Zp1) (hV:V.At x w) (hl:x.code.length<=100000) (ht:x.there.length<=1000) (id:Int):
  Calls prog 59 #[.agg (F.cells V n lo keep x),nQ iQ id] w (RsP F V n lo keep x (Rt.eP id x) w):=by
 obtain ⟨i0,hi,hE,hJ,hD⟩:=info_parts qag;have hB:=RsB.start (F:=F) (n:=n) (lo:=lo) (keep:=keep) hV;obtain ⟨y0,y1,y2,y3,y4,y5,y6⟩:=qai hB.b3;unfold qbs at *;obtain ⟨HB,HV⟩:=zd2 hB hV;clear hB hV;go_in;go_upto_region 1 with fail;generalize (w.alloc (.cells (F.cells V n lo keep x) 119)).alloc (.cells #[sQ none 0 0,sQ none 0 0,nQ iQ 0,sQ none 0 0,sQ none 0 0,sQ none 0 0,sQ none 0 0] 119)=w2 at *;generalize hg3:w.heap.size=g3 at *;have hM:=zI hg3;clear hg3;go_wp2_with fail;refine (qbT F V n lo keep x w2 HB.out.aty hl 3 id).mono ?_;rintro e w3 ⟨V3,rfl,hz,hy,hp⟩;have hs:=HB.out.put hp hz hy;unfold fG at hs;obtain ⟨d0,d1,d2,d3,d4,d5,d6⟩:=qai (hp.blk HB.out.b3);obtain ⟨f0,f1,f2,f3,f4,f5,f6⟩:=qar (hp.blk HB.out.b3);have HY:=zI (show Rt.eP id x=⟨Rf.without (Rt.dN 3 id x).there id,(Rt.dN 3 id x).code⟩ from rfl);have hN:(Rt.dN 3 id x).there.length<=1000:=ht;rw [show F.cells V3 n lo keep (Rt.dN 3 id x)=#[sQ F.A n.inn.length F.c,sQ F.N n.o.length F.d,nQ iQ lo,sQ F.K keep.length F.ck,sQ V3.Th (Rt.dN 3 id x).there.length V3.ct,sQ none 0 0,sQ V3.C (Rt.dN 3 id x).code.length V3.cc] from rfl];generalize Rt.dN 3 id x=y at *;clear y0 y1 y2 y3 y4 y5 y6 hz hy hp;have hq:=zI hs;clear hs;go_upto_region 2 with fail;clear d0 d1 d2 d3 d4 d5 d6 f0 f1 f2 f3 f4 f5 f6;generalize ((((((w3.setCell ⟨g3,0,none⟩ (sQ F.A n.inn.length F.c)).setCell ⟨g3,1,none⟩ (sQ F.N n.o.length F.d)).setCell ⟨g3,2,none⟩ (nQ iQ lo)).setCell ⟨g3,3,none⟩ (sQ F.K keep.length F.ck)).setCell ⟨g3,4,none⟩ (sQ V3.Th y.there.length V3.ct)).setCell ⟨g3,5,none⟩ (sQ none 0 0)).setCell ⟨g3,6,none⟩ (sQ V3.C y.code.length V3.cc)=w4 at *;have HT:=zI hq.out.aty.there;have hH:=zI (qai hq.out.b3).2.2.2.2.1;generalize hthl:y.there=l at *;have hF:=zI hthl;clear hthl;go_wp2_with fail
 go_loopw [5,6] (λo i wx=>∃k:Nat,k<=l.length/\i=nQ iQ (k:Int)/\wx.ownsRow w4.heap.size 3 1 o (Rf.without (l.take k) id).length ((Rf.without (l.take k) id).map (Za1 iQ))/\Later w4 wx) (λ_ i _=>l.length-(intOf i).toNat)
 case atStart=>exact ⟨0,Zt _,rfl,by simpa [Rf.without] using World.ownsRow_nil w4 w4.heap.size 3 1,Later.refl _⟩
 case round=>
  obtain ⟨k,hk,rfl,hown,ha⟩:=hrel;obtain ⟨Ao,co,rfl⟩:=qa6 hown;have y4:=ha.cell hH.out;have hL:=Below.size ha
  by_cases hv:k<l.length
  ·obtain ⟨b,off,hb,-,hc⟩:=HT.out.below ha (lrZ _) k hv
   rw [qa2 hv] at hc;rw [hb] at y4;have hg:=Rf.nA (z:=id) hv
   have hK:(Rf.without (l.take k) id).length<=1000:=by
    have h1:(Rf.without (l.take k) id).length<=(l.take k).length:=List.length_filter_le _ _;simp at h1;omega
   generalize Rf.without (l.take k) id=r at *;generalize l[k]=z at *
   by_cases he:z=id
   ·have e1:(z != id)=false:=by simp [he]
    rw [ipZ he,List.append_nil] at hg;obtain ⟨hh,hx,hr⟩:=zd3 hown ha hg;clear hown ha hg;clear he hb;go_wp2_with fail;go_roundw
    case rel=>exact ⟨k+1,by omega,by go_num,by rw [hr.out];exact hh.out,hx.out⟩
    case measure=>simp [intOf];omega
   ·have e1:(z != id)=true:=by simp [he]
    rw [inZ he] at hg;have ho:=qa8 hown (.cells #[nQ iQ z] 3);have hj:=ha.alloc (.cells #[nQ iQ z] 3);have hw:=zI (λb (hb:(Zb1 Ao r.length co).ownBlock=some b)=>(hown.lt b hb).1);obtain ⟨hh,hx,hr⟩:=zd3 hown ha hg;clear hown ha hg;clear he hb;go_wp2_with (at_builtin;refine wpList_append_own_at _ rfl _ _ 22 rfl w4.heap.size 3 i0 (nQ iQ 0) 1 8 underlying22 hi hE hJ hD rfl dZ _ _ _ rfl ho ⟨wr.heap.size,0,none⟩ 1 1 [nQ iQ z] rfl rfl ?c1 (by intro u hu;simp at hu;subst hu;rfl) (by unfold maxLen;omega) oZ ?c2 ?_)
    first|(case c1=>exact qap wr _ _)|skip
    case c2=>simp;omega
    intro v' w5 hf hgrow _ hG;have hA:Later w4 w5:=Below.grown hj hgrow soZ (λb hb=>hw.out b hb);have hd:w5.ownsRow w4.heap.size 3 1 v' (r++[z]).length ((r++[z]).map (Za1 iQ)):=by simpa using hf
    rw [←hr.out] at hd;obtain ⟨hm,hI⟩:=zd2 hd hA;clear hd hA;clear hf hgrow hG ho hj hw;go_wp2_with fail;go_roundw
    case rel=>exact ⟨k+1,by omega,by go_num,hm.out,hI.out⟩
    case measure=>simp [intOf];omega
  ·obtain rfl:k=l.length:=by omega
   rw [Zg] at hown ⊢;obtain ⟨th,hth⟩:∃th,Rf.without l id=th:=⟨_,rfl⟩
   have HE:=zI (HY.out.trans (by rw [hth]));rw [hth] at hown ⊢;clear hth;obtain ⟨q1,-,-⟩:=qak hown;have hC:=hq.out.there ha (c:=co) q1 (qdv hown);have f4:wr.frozen? ⟨g3,4,none⟩=false:=(ha.blk hq.out.b3).frozen 4;clear hown ha q1 HY;have hn:=zI hC;clear hC;go_upto_region 9 with fail;generalize wr.setCell ⟨g3,4,none⟩ (sQ Ao th.length co)=w8 at *;clear y4 f4;obtain ⟨y0,y1,y2,y3,y4,y5,y6⟩:=qai hn.out.b3;obtain ⟨z0,z1,z2,z3,z4,z5,z6⟩:=qh2 hn.out.b6;obtain ⟨f0,f1,f2,f3,f4,f5,f6⟩:=qar hn.out.b6;go_wp2_with fail;refine Zk1 (v:=.agg (F.cells ⟨Ao,V3.C,co,V3.cc⟩ n lo keep ⟨th,y.code⟩)) (by simp [results,results59,go_sem,z0,z1,z2,z3,z4,z5,z6];rfl) rfl ?_;rw [HE.out];exact hn.out.fin
theorem Rt.pend_snoc {I:Int->List Int} {id:Int} {l:List Int} {k:Nat} (h:k<l.length) (hp:pend I id (l.take k)=false):pend I id (l.take (k+1))=(I l[k]).contains id:=by
 unfold pend at *;rw [Zb h,List.any_append,hp];simp
theorem Rt.pend_hit {I:Int->List Int} {id:Int} {l:List Int} {k:Nat} (h:k<l.length) (hp:(I l[k]).contains id=true):pend I id l=true:=by
 unfold pend;rw [List.any_eq_true];exact ⟨l[k],gmZ h,hp⟩
set_option maxRecDepth 100000 in
theorem qbU (A N M:Option Addr) (c d m:Nat) (n:aA) (id:Int) (am:List Int) (w0 w:Zp1) (hok:n.ok) (hR:bC w0 A N n) (hM:Ints iQ w0 M am) (hl0:Later w0 w) (hal:am.length<=1000) (hrng:∀u∈am,1<=u/\u<=n.o.length):
  Calls prog 58 #[.agg #[sQ A n.inn.length c,sQ N n.o.length d],nQ iQ id,sQ M am.length m] w λe w'=>e=.returned (.bool (Rt.pend (Nt.iF n.o) id am))/\Later w w':=by
 have hz:=hok.2.1;have hg:Later w (w.alloc (.cells #[sQ A n.inn.length c,sQ N n.o.length d] 37)):=(Later.refl w).alloc _;have hs:=Blk.new w 37 #[sQ A n.inn.length c,sQ N n.o.length d];have hu:=hR.below (hl0.trans hg) (lrZ _);have ht:=hM.below (hl0.trans hg) (lrZ _);obtain ⟨hy,hv,hw,hq,hx,hm⟩:=zd6 hok hu ht hg hs hrng;clear hok hu ht hg hs hrng;clear hR hM hl0;go_in;go_wp2_with fail;generalize w.alloc (.cells #[sQ A n.inn.length c,sQ N n.o.length d] 37)=w1 at *
 go_loopw [7] (λi wx=>∃k:Nat,k<=am.length/\i=nQ iQ (k:Int)/\Rt.pend (Nt.iF n.o) id (am.take k)=false/\Later w1 wx) (λi _=>am.length-(intOf i).toNat)
 case atStart=>exact ⟨0,Zt _,rfl,rfl,Later.refl _⟩
 case round=>
  obtain ⟨k,hk,rfl,hd,hb⟩:=hrel
  by_cases he:k<am.length
  ·obtain ⟨b,off,rfl,-,hc⟩:=hw.out.below hb (lrZ _) k he
   rw [qa2 he] at hc;have hr:=hm.out _ (gmZ he);have hl:=Rt.pend_snoc he hd;have hi:=Rt.pend_hit (I:=Nt.iF n.o) (id:=id) he;obtain ⟨j,hj⟩:∃j:Nat,am[k]=(j:Int)+1:=⟨(am[k]-1).toNat,by omega⟩
   have hn:j<n.o.length:=by omega
   have ho:Nt.iF n.o am[k]=n.o[j].ins:=by unfold Nt.iF;rw [hj,Nt.dI hn]
   rw [ho] at hl hi;rw [hj] at hc;obtain ⟨b1,off1,J,jc,rfl,y8,hJ⟩:=(hv.out.below hb (lrZ _)).nK hn;have hA:=(hy.out.2.2 _ (gmZ hn)).2.2.1;generalize n.o[j].ins=il at *;have x1:wr.cell? ⟨w.heap.size,1,none⟩=some (sQ (some ⟨b1,off1,none⟩) n.o.length d):=by rw [(hb.blk hx.out).cell];rfl
   have ha:=zI (λq=>qaf J jc il id (wr.drewN q) oZ (hJ.drewN q));have j1:iQ.wrap ((j:Int)+1-1)=(j:Int):=by rw [Zc1 _ oZ];omega
   have j0:(0:Int)<=(j:Int):=by omega
   have j2:(j:Int)<n.o.length:=by omega
   have k0:(k:Int)<(am.length:Int):=by omega
   have hp:=zI (λn=>hb.trans (Later.drewN (Later.refl _) n))
   by_cases hh:qaR il id=true
   ·have HE:=zI (hi hh)
    rw [hh] at ha;clear hh hl hi hd hb ho hj hr hJ;go_wp2_with fail
    go_quiet ((go_at_call 57;exact qab (ha.out _)))
    go_wp2_with fail;go_ret;exact ⟨by rw [HE.out];rfl,hq.out.trans (hp.out _)⟩
   ·have hf:qaR il id=false:=by simpa using hh
    have HE:=zI (hl.trans hf);rw [hf] at ha;clear hh hf hl hi hd hb ho hj hr hJ;go_wp2_with fail
    go_quiet ((go_at_call 57;exact qab (ha.out _)))
    go_wp2_with fail;go_roundw
    case rel=>exact ⟨k+1,by omega,by go_num,HE.out,hp.out _⟩
    case measure=>simp [intOf];omega
  ·obtain rfl:k=am.length:=by omega
   rw [Zg] at hd;have HE:=zI hd;have HL:=zI (hq.out.trans hb);clear hd hb;go_wp2_with fail;go_ret;exact ⟨by rw [HE.out];rfl,HL.out⟩
theorem Rt.oC {I:Int->List Int} (m:Nat) (id:Int) (x:RtD):aI I (m+1) id x=if id=0∨x.there.contains id=true then x else dW 2 id ((I id).foldl (λx i=>aI I m i x) x):=rfl
set_option maxRecDepth 100000 in
theorem qdz (F:RsF) (n:aA) (lo:Int) (keep:List Int) (id:Nat) (x:RtD) (V:RsV) (w:Zp1) (hV:V.At x w) (ht:x.there.length<=1000) (hs:id=0∨qaR x.there id=true):
  Calls prog 61 #[.agg (F.cells V n lo keep x),nQ iQ id] w (RsP F V n lo keep x x w):=by
 have hB:=RsB.start (F:=F) (n:=n) (lo:=lo) (keep:=keep) hV;unfold qbs at *;have HB:=zI hB;clear hB;clear hV
 by_cases h0:id=0
 ·subst h0
  clear hs;go_in;go_upto_region 1 with fail;generalize (w.alloc (.cells (F.cells V n lo keep x) 119)).alloc (.cells #[sQ none 0 0,sQ none 0 0,nQ iQ 0,sQ none 0 0,sQ none 0 0,sQ none 0 0,sQ none 0 0] 119)=w2 at *;generalize w.heap.size=g3 at *;obtain ⟨y0,y1,y2,y3,y4,y5,y6⟩:=qai HB.out.b3;obtain ⟨z0,z1,z2,z3,z4,z5,z6⟩:=qh2 HB.out.b6;obtain ⟨f0,f1,f2,f3,f4,f5,f6⟩:=qar HB.out.b6;go_wp2_with fail;refine Zk1 (v:=.agg (F.cells V n lo keep x)) (by simp [results,results61,go_sem,z0,z1,z2,z3,z4,z5,z6];rfl) rfl ?_;exact HB.out.fin
 ·have hh:qaR x.there id=true:=hs.resolve_left h0
  have e1:((id:Int)==0)=false:=by simp [h0]
  have Hh:=zI hh;clear hh;clear hs h0;go_in;go_upto_region 1 with fail;generalize (w.alloc (.cells (F.cells V n lo keep x) 119)).alloc (.cells #[sQ none 0 0,sQ none 0 0,nQ iQ 0,sQ none 0 0,sQ none 0 0,sQ none 0 0,sQ none 0 0] 119)=w2 at *;generalize w.heap.size=g3 at *;obtain ⟨y0,y1,y2,y3,y4,y5,y6⟩:=qai HB.out.b3;obtain ⟨z0,z1,z2,z3,z4,z5,z6⟩:=qh2 HB.out.b6;obtain ⟨f0,f1,f2,f3,f4,f5,f6⟩:=qar HB.out.b6;go_wp2_with fail;refine (qaf V.Th V.ct x.there id w2 oZ HB.out.aty.there).mono ?_;rintro e w3 ⟨rfl,rfl⟩;rw [Hh.out];go_wp2_with fail;refine Zk1 (v:=.agg (F.cells V n lo keep x)) (by simp [results,results61,go_sem,z0,z1,z2,z3,z4,z5,z6];rfl) rfl ?_;exact HB.out.fin
theorem Rt.foldD_bd {I:Int->List Int} {m:Nat} {id:Int} {x:RtD} {il:List Int} (k:Nat) (h1:(dW 2 id (il.foldl (λx i=>aI I m i x) x)).code.length<=50000) (h2:(dW 2 id (il.foldl (λx i=>aI I m i x) x)).there.length<=1000):
  ((il.take k).foldl (λx i=>aI I m i x) x).code.length<=49999/\((il.take k).foldl (λx i=>aI I m i x) x).there.length<=999:=by
 have h3:=qdr (I:=I) (m:=m) il k x;have h4:(dW 2 id (il.foldl (λx i=>aI I m i x) x)).code.length=(il.foldl (λx i=>aI I m i x) x).code.length+1:=by unfold dW;simp
 have h5:(dW 2 id (il.foldl (λx i=>aI I m i x) x)).there.length=(il.foldl (λx i=>aI I m i x) x).there.length+1:=by unfold dW;simp
 omega
set_option maxRecDepth 100000 in
theorem qfG (F:RsF) (n:aA) (lo:Int) (keep:List Int) (w0:Zp1) (hok:n.ok) (hck:Nt.check n=0) (hR:bC w0 F.A F.N n):∀(m:Nat) (id:Nat) (x:RtD) (V:RsV) (w:Zp1),Later w0 w->V.At x w->id<=n.o.length->(id=0∨Rt.lK n id<m)->(Rt.aI (Nt.iF n.o) m id x).code.length<=50000->(Rt.aI (Nt.iF n.o) m id x).there.length<=1000->
  Calls prog 61 #[.agg (F.cells V n lo keep x),nQ iQ id] w (RsP F V n lo keep x (Rt.aI (Nt.iF n.o) m id x) w):=by
 intro m
 induction m with
 | zero=>
  intro id x V w hw hV hid hr h1 h2;obtain rfl:id=0:=by omega
  exact qdz F n lo keep 0 x V w hV h2 (.inl rfl)
 | succ m ih=>
  intro id x V w hw hV hid hr h1 h2
  by_cases hs:(id:Int)=0∨x.there.contains (id:Int)=true
  ·rw [Rt.oC,ipZ hs] at h2 ⊢
   exact qdz F n lo keep id x V w hV h2 (hs.elim (λh=>.inl oZ) (λh=>.inr h))
  have hq:=(Rt.oC (I:=Nt.iF n.o) m (id:Int) x).trans (inZ hs)
  have hG:qaR x.there id=false:=by
   cases h:qaR x.there id
   ·rfl
   ·exact absurd (.inr h) hs
  have h6:¬id=0:=λh=>hs (.inl oZ)
  obtain ⟨j,rfl⟩:∃j,id=j+1:=⟨id-1,by omega⟩
  have hj:j<n.o.length:=by omega
  have hE:=Rt.kT (n:=n) hj;rw [hE] at hq;rw [hq] at h1 h2 ⊢;have hI:=λk=>Rt.foldD_bd (I:=Nt.iF n.o) (m:=m) (id:=((j+1:Nat):Int)) (x:=x) (il:=n.o[j].ins) k h1 h2
  have hY:=hI 0;rw [List.take_zero,List.foldl_nil] at hY
  have hd:∀i∈n.o[j].ins,i≠0->Rt.lK n i<m:=λi hi h0=>by
   have h1:=(Rt.fZ hck).lt ((j+1:Nat):Int) oZ oZ i (by rw [hE];exact hi) h0;have h2:Rt.lK n ((j+1:Nat):Int)<m+1:=by rcases hr with h|h<;>omega
   omega
  have ho:=Rt.mZ hck hj;obtain ⟨b,off,J,jc,hN,y8,hJ⟩:=hR.nK hj;have Hb:=(hok.2.2 _ (gmZ hj)).2.2.1;have hg:=λk (h:k<n.o[j].ins.length)=>Rt.pI (I:=Nt.iF n.o) (m:=m) h x
  have hB:=RsB.start (F:=F) (n:=n) (lo:=lo) (keep:=keep) hV;have hQ:Later w0 _:=hw.trans hB.later;have Ha:=hok.2.1;generalize n.o[j].ins=il at *;have hM:((j+1:Nat):Int)=(j:Int)+1:=by omega
  rw [hM] at hG hq ⊢;have e1:((j:Int)+1==0)=false:=by rw [beq_eq_false_iff_ne];omega
  have j1:iQ.wrap ((j:Int)+1-1)=(j:Int):=by rw [Zc1 _ oZ];omega
  have j3:(0:Int)<=(j:Int):=by omega
  have j4:(j:Int)<n.o.length:=by omega
  unfold qbs at *;obtain ⟨h8,hS,hZ,hA,HJ,hU,HB,hO,h9⟩:=zd9 hG hI hd ho hJ hg hB hQ ih;have Hq:=zI hq;clear hG hI hd ho hJ hg hB hQ ih hq;have hW:=zI hw;clear hs h6 hr hE hV hw h1 h2 hR hM;go_in;go_upto_region 1 with fail;generalize (w.alloc (.cells (F.cells V n lo keep x) 119)).alloc (.cells #[sQ none 0 0,sQ none 0 0,nQ iQ 0,sQ none 0 0,sQ none 0 0,sQ none 0 0,sQ none 0 0] 119)=w2 at *;generalize w.heap.size=g3 at *;obtain ⟨y0,y1,y2,y3,y4,y5,y6⟩:=qai HB.out.b3;have x8:=hO.out.cell y8;rw [hN] at y1;clear hN;go_wp2_with fail;refine (qaf V.Th V.ct x.there _ w2 oZ HB.out.aty.there).mono ?_;rintro e w3 ⟨rfl,rfl⟩;rw [h8.out];go_wp2_with fail;clear x8 y0 y1 y2 y3 y4 y5 y6
  go_loopw [6] (λt wx=>∃(k:Nat) (V2:RsV),k<=il.length/\t=nQ iQ (k:Int)/\RsB g3 (g3+1) F V n lo keep x V2 ((il.take k).foldl (λx i=>Rt.aI (Nt.iF n.o) m i x) x) w wx/\Later w0 wx) (λt _=>il.length-(intOf t).toNat)
  case atStart=>exact ⟨0,V,Zt _,rfl,HB.out,hO.out⟩
  case round=>
   obtain ⟨k,V2,hk,rfl,hf,hp⟩:=hrel;have hH:=hS.out k;obtain ⟨y0,y1,y2,y3,y4,y5,y6⟩:=qai hf.b3
   by_cases hd:k<il.length
   ·obtain ⟨b2,off2,h3,-,hc⟩:=HJ.out.below hp (lrZ _) k hd
    rw [qa2 hd] at hc;have hr:=hA.out _ (gmZ hd);obtain ⟨u,hu⟩:=ezZ hr.1;have hg:=hU.out k hd;have he:=hS.out (k+1);have hD:=hZ.out _ (gmZ hd);rw [hg] at he;have hv:=zI hg;rw [hu] at hc hr he hD hv;generalize (il.take k).foldl (λx i=>Rt.aI (Nt.iF n.o) m i x) x=y at *;have hx:Later wr wr.drew:=(Later.refl _).drew;have hF:=hf.to_later hx
    have hb:=zI (h9.out u y V2 wr.drew (hp.trans hx) hF.aty oZ (by
     rcases Nat.eq_zero_or_pos u with h0|h0
     ·exact .inl h0
     ·exact .inr (hD oZ)) oZ oZ)
    have k0:(k:Int)<il.length:=by omega
    have hm:=hp.trans hx;subst h3;obtain ⟨hz,hC⟩:=zd2 hF hm;clear hF hm;clear hg hu hD hp hf hx he hH;go_upto_region 7 with fail
    go_still_tail 5,krZ
    change wpList _ _ _ _ _ wr.drew
    clear y0 y1 y2 y3 y4 y5 y6 hc;generalize wr.drew=wd at *;go_wp2_with fail;refine hb.out.mono ?_;rintro e w4 ⟨V3,rfl,hn,hl,ha⟩;have ht:=hz.out.put ha hn hl;obtain ⟨d0,d1,d2,d3,d4,d5,d6⟩:=qai (ha.blk hz.out.b3);obtain ⟨f0,f1,f2,f3,f4,f5,f6⟩:=qar (ha.blk hz.out.b3);have hP:=(hC.out.trans ha)
    rw [←hv.out] at ht;rw [←hv.out];have h5:=zI (λa0 a1 a2 a3 a4 a5 a6=>qf1 (g:=g3) hP (Zv (Below.size hW.out) hz.out.hh) a0 a1 a2 a3 a4 a5 a6);generalize hy3:(il.take (k+1)).foldl (λx i=>Rt.aI (Nt.iF n.o) m i x) x=y3 at *;have hT:=zI hy3;clear hy3;rw [show F.cells V3 n lo keep y3=#[sQ F.A n.inn.length F.c,sQ F.N n.o.length F.d,nQ iQ lo,sQ F.K keep.length F.ck,sQ V3.Th y3.there.length V3.ct,sQ none 0 0,sQ V3.C y3.code.length V3.cc] from rfl];unfold fG at ht;have h7:=zI ht;clear ht;clear hn hl ha hP hv hb;go_wp2_with fail;go_roundw
    case rel=>exact ⟨k+1,V3,by omega,by go_num,by rw [hT.out];exact h7.out,h5.out _ _ _ _ _ _ _⟩
    case measure=>simp [intOf];omega
   ·obtain rfl:k=il.length:=by omega
    rw [Zg] at hf hH y4 y6;have hL:=zI (qcm F V2 n lo keep _ wr hf.aty oZ oZ 2 ((j:Int)+1));generalize hy:il.foldl (λx i=>Rt.aI (Nt.iF n.o) m i x) x=y at *;obtain ⟨hK,Hy⟩:=zd2 hf hy;clear hf hy;clear hp hH;go_wp2_with fail;refine hL.out.mono ?_;rintro e w4 ⟨V3,rfl,hn,hl,ha⟩;obtain ⟨z0,z1,z2,z3,z4,z5,z6⟩:=qh2 (ha.blk hK.out.b6);obtain ⟨f0,f1,f2,f3,f4,f5,f6⟩:=qar (ha.blk hK.out.b6);have hX:=zI (hK.out.fin2 ha hn hl);clear hn hl ha y0 y1 y2 y3 y4 y5 y6 hL;generalize hy3:Rt.dW 2 ((j:Int)+1) y=y3 at *;have h4:=zI hy3;clear hy3;rw [show F.cells V3 n lo keep y3=#[sQ F.A n.inn.length F.c,sQ F.N n.o.length F.d,nQ iQ lo,sQ F.K keep.length F.ck,sQ V3.Th y3.there.length V3.ct,sQ none 0 0,sQ V3.C y3.code.length V3.cc] from rfl];go_wp2_with fail;refine Zk1 (v:=.agg (F.cells V3 n lo keep y3)) (by simp [results,results61,go_sem,z0,z1,z2,z3,z4,z5,z6];rfl) rfl ?_;rw [Hy.out,h4.out];exact hX.out
structure RsX (g:Nat) (F:RsF) (n:aA) (lo:Int) (keep:List Int) (V:RsV) (y:RtD) (w0 w:Zp1):Prop where
 later:Later w0 w
 hg:w0.heap.size<=g
 box:Blk w g 119 (F.cells V n lo keep y)
 at_:V.At y w
 off:V.Off y g
section
variable {g:Nat} {F:RsF} {V V3:RsV} {n:aA} {lo:Int} {keep:List Int} {y y3:RtD} {w0 w w':Zp1}
theorem RsX.to_later (k:RsX g F n lo keep V y w0 w) (hl:Later w w'):RsX g F n lo keep V y w0 w':=⟨k.later.trans hl,k.hg,hl.blk k.box,k.at_.later hl,k.off⟩
theorem RsX.put (k:RsX g F n lo keep V y w0 w) (hl:Later w w') (hA:V3.At y3 w') (ho:∀g,g<w.heap.size->V.Off y g->V3.Off y3 g):
  RsX g F n lo keep V3 y3 w0 (fG w' g (sQ F.A n.inn.length F.c) (sQ F.N n.o.length F.d) (nQ iQ lo) (sQ F.K keep.length F.ck) (sQ V3.Th y3.there.length V3.ct) (sQ none 0 0) (sQ V3.C y3.code.length V3.cc)):=
 ⟨qf1 (k.later.trans hl) k.hg _ _ _ _ _ _ _,k.hg,(hl.blk k.box).fG rfl _ _ _ _ _ _ _,hA.fG (ho g k.box.lt k.off) _ _ _ _ _ _ _,ho g k.box.lt k.off⟩
end
theorem Ints.drop {w:Zp1} {b off:Nat} {zs:List Int} (h:Ints iQ w (some ⟨b,off,none⟩) zs) (k:Nat):Ints iQ w (some ⟨b,off+k,none⟩) (zs.drop k):=λj hj=>by
 have ha:k+j<zs.length:=by simp at hj;omega
 obtain ⟨b2,o2,e,hb,hc⟩:=h (k+j) ha;injection e with e
 injection e with e1 e2
 subst e1 e2;refine ⟨b,off+k,rfl,hb,?_⟩;rw [Nat.add_assoc,hc];simp
theorem Ints.take {w:Zp1} {A:Option Addr} {zs:List Int} (h:Ints iQ w A zs) (k:Nat):Ints iQ w A (zs.take k):=λj hj=>by
 have hd:j<zs.length:=by simp at hj;omega
 have ha:j<k:=by simp at hj;omega
 obtain ⟨b2,o2,e,hb,hc⟩:=h j hd;refine ⟨b2,o2,e,hb,?_⟩;rw [hc];simp [ha]
def RsL (cd:List (Int × Int)) (w:Zp1) (e:Ending) (w':Zp1):Prop:=
 ∃C cc,e=.returned (sQ C cd.length cc)/\aW w' C cd/\Later w w'
set_option maxRecDepth 100000 in
theorem qd3 (A N K:Option Addr) (c d ck:Nat) (n:aA) (keep:List Int) (w:Zp1) (hok:n.ok) (hck:Nt.check n=0) (h12:n.o.length<=12) (hR:bC w A N n) (hd:n.o.length<=d) (hc:n.inn.length<=c) (hcm:c<=9223372036854775807) (hK:Ints iQ w K keep) (hkl:keep.length<=1000):
  Calls prog 24 #[.agg #[sQ A n.inn.length c,sQ N n.o.length d],sQ K keep.length ck] w (RsL (Rt.pE n keep).code w):=by
 have gn:Later w (w.alloc (.cells #[sQ A n.inn.length c,sQ N n.o.length d] 37)):=(Later.refl w).alloc _;have gf:=Blk.new w 37 #[sQ A n.inn.length c,sQ N n.o.length d];have H1:=Rt.loweredD_eq n keep;have HT:=Rt.bW hck;have Ht:∀u∈Nt.sO n.o,1<=u/\u<=n.o.length:=Kn.dQ _ _;obtain ⟨Hj,He,HR,HK,HQ,H3,gq,h8,hU⟩:=zd9 hok hck hR hK gn gf H1 HT Ht;clear hok hck hR hK gn gf H1 HT Ht;go_in;go_wp2_with fail;generalize w.alloc (.cells #[sQ A n.inn.length c,sQ N n.o.length d] 37)=w1 at *;refine (qbw A N c d n w1 Hj.out (HR.out.below HQ.out (lrZ _))).mono ?_;rintro e w2 ⟨O,oc,rfl,hO,gG,gP,H5⟩;have hG:Later w1 w2:=H5;have Hv:=hG.blk H3.out;have Hp:=HQ.out.trans hG;have x0:=Hv.cell 0;have x1:=Hv.cell 1;simp at x0 x1;obtain ⟨gA,gh,Ha,HO⟩:=zd4 hG Hv Hp hO;clear hG Hv Hp hO;clear H5;go_wp2_with fail;refine (qax A N c d n w2 Hj.out (HR.out.below Ha.out (lrZ _)) hd hc hcm).mono ?_;rintro e w3 ⟨gj,⟨-,gg,rfl,-,-⟩|⟨gu,-⟩⟩
 rotate_left
 ·exact absurd He.out gu
 have hs:Later w2 w3:=gj;have Hw:=hs.blk gh.out;have Hq:=Ha.out.trans hs;have H7:=HO.out.below hs (lrZ _);clear x0 x1;have x0:=Hw.cell 0;have x1:=Hw.cell 1;simp at x0 x1;generalize hlo:Nt.aH n.o=lo at *;have H8:=zI hlo;clear hlo;have H2:=Blk.new w3 119 (RsF.cells ⟨A,N,K,c,d,ck⟩ ⟨none,none,0,0⟩ n lo keep ⟨[],[]⟩);have gc:Later w3 (w3.alloc (.cells (RsF.cells ⟨A,N,K,c,d,ck⟩ ⟨none,none,0,0⟩ n lo keep ⟨[],[]⟩) 119)):=(Later.refl w3).alloc _
 have hX:RsX w3.heap.size ⟨A,N,K,c,d,ck⟩ n lo keep ⟨none,none,0,0⟩ ⟨[],[]⟩ w3 (w3.alloc (.cells (RsF.cells ⟨A,N,K,c,d,ck⟩ ⟨none,none,0,0⟩ n lo keep ⟨[],[]⟩) 119)):=
  ⟨gc,lrZ _,H2,⟨λj hj=>by simp at hj,λj hj=>by simp at hj⟩,⟨λh=>absurd rfl h,λh=>absurd rfl h⟩⟩
 change RsX _ _ _ _ _ _ _ _ (w3.alloc (.cells #[sQ A n.inn.length c,sQ N n.o.length d,nQ iQ lo,sQ K keep.length ck,sQ none 0 0,sQ none 0 0,sQ none 0 0] 119)) at hX
 obtain ⟨HX,Hd,hh,Hu⟩:=zd4 hX Hw Hq H7;clear hX Hw Hq H7;clear gj hs H2 gc HO gh Ha gA HQ H3;go_upto_region 4 with fail;clear x0 x1;generalize w3.alloc (.cells #[sQ A n.inn.length c,sQ N n.o.length d,nQ iQ lo,sQ K keep.length ck,sQ none 0 0,sQ none 0 0,sQ none 0 0] 119)=w4 at *;generalize w3.heap.size=g at *
 have gC:=zI (λ(id:Nat) (h1:1<=id) (h2:id<=n.o.length)=>(show Rt.lK n id<n.o.length+1 by
  have hu:(id:Int)∈Nt.sO n.o:=(Kn.bU h8.out _).2 ⟨by omega,by omega⟩;have h1:=List.idxOf_lt_length_of_mem hu;have h2:=h8.out;unfold Rt.lK;omega))
 have HV:=zI (λk=>Rt.fwdDN_step n keep k);have gF:=zI (λk=>Rt.pY n keep k);have HH:=zI (λk (h:k<=n.o.length)=>Rt.fwdDN_bd He.out h12 keep (k:=k) (by rw [h8.out];exact h));have gN:=zI (λk (h:k<=n.o.length)=>Rt.sJ He.out h12 keep (k:=k) (by rw [h8.out];exact h));have HY:=zI (Rt.midDN_bd He.out h12 keep);have gx:=zI (λk (h:k<n.o.length) j=>Rt.bwdDN_fold He.out h12 keep (k:=k) (by rw [h8.out];exact h) j);have HG:=zI (λk (id:Int)=>(show Rt.gT n keep k id=(!qaR keep id&&(decide (id≠lo)&&!Rt.pend (Nt.iF n.o) id ((Nt.sO n.o).drop (k+1)))) by rw [←H8.out];rfl));have HD:=zI (λp (id:Int)=>(show Rt.dT n keep p id=(!qaR keep id || !Rt.pend (Nt.iF n.o) id ((Nt.sO n.o).take (p-1))) from rfl));have Hn:=zI (show Rt.rA n keep=Rt.dN 5 0 (Rt.eP lo (Rt.dN 4 0 (Rt.lG n keep n.o.length))) by rw [←H8.out,←h8.out];rfl);generalize Nt.sO n.o=os at *;have hE:=zI (show os.length=n.o.length from h8.out);have Hh:=h8.out;rw [Hh] at gG;rw [Hh];clear Hh;go_wp2_with fail
 go_loopw [10] (λt wx=>∃(k:Nat) (V:RsV),k<=n.o.length/\t=nQ iQ (k:Int)/\RsX g ⟨A,N,K,c,d,ck⟩ n lo keep V (Rt.lG n keep k) w3 wx) (λt _=>n.o.length-(intOf t).toNat)
 case atStart=>exact ⟨0,_,Zt _,rfl,HX.out⟩
 case round=>
  obtain ⟨k,V,hk,rfl,hv⟩:=hrel;clear HX
  by_cases HA:k<n.o.length
  ·have Hz:=HH.out k hk
   have hQ:=HV.out k;obtain ⟨b2,off2,Hg,-,hc⟩:=Hu.out.below hv.later (lrZ _) k (by rw [hE.out];exact HA);have H4:=hU.out (os.getD k 0) (by rw [qa2 (show k<os.length by rw [hE.out];exact HA)];exact gmZ _);generalize os.getD k 0=u at *;generalize Rt.lG n keep k=y at *;have HN:=zI hQ;have h9:Later wr wr.drew:=(Later.refl _).drew;have hH:=hv.to_later h9;have hf:=zI (qcm ⟨A,N,K,c,d,ck⟩ V n lo keep y wr.drew hH.at_ oZ oZ 1 u);obtain ⟨y0,y1,y2,y3,y4,y5,y6⟩:=qai hv.box;have k0:(k:Int)<n.o.length:=by omega
   subst Hg;have hx:=zI hH;clear hH;clear hQ h9 hv;go_upto_region 7 with fail
   go_still_tail 5,krZ
   change wpList _ _ _ _ _ wr.drew
   clear y0 y1 y2 y3 y4 y5 y6 hc;generalize wr.drew=wd at *;go_wp2_with fail;refine hf.out.mono ?_;rintro e w5 ⟨V3,rfl,h5,hY,hs⟩;have hi:=hx.out.put hs h5 hY;obtain ⟨d0,d1,d2,d3,d4,d5,d6⟩:=qai (hs.blk hx.out.box);obtain ⟨f0,f1,f2,f3,f4,f5,f6⟩:=qar (hs.blk hx.out.box);have Hi:(Rt.dW 1 u y).code.length=y.code.length+1:=by unfold Rt.dW;simp
   have Hf:(Rt.dW 1 u y).there.length=y.there.length+1:=by unfold Rt.dW;simp
   generalize Rt.dW 1 u y=x0 at *;rw [show RsF.cells ⟨A,N,K,c,d,ck⟩ V3 n lo keep x0=#[sQ A n.inn.length c,sQ N n.o.length d,nQ iQ lo,sQ K keep.length ck,sQ V3.Th x0.there.length V3.ct,sQ none 0 0,sQ V3.C x0.code.length V3.cc] from rfl];unfold fG at hi;have gw:x0.code.length<=300:=by omega
   have gK:x0.there.length<=20:=by omega
   have ht:=zI hi;clear hi;clear h5 hY hs hf Hi Hf;go_upto_region 8 with fail;clear d0 d1 d2 d3 d4 d5 d6 f0 f1 f2 f3 f4 f5 f6;generalize ((((((w5.setCell ⟨g,0,none⟩ (sQ A n.inn.length c)).setCell ⟨g,1,none⟩ (sQ N n.o.length d)).setCell ⟨g,2,none⟩ (nQ iQ lo)).setCell ⟨g,3,none⟩ (sQ K keep.length ck)).setCell ⟨g,4,none⟩ (sQ V3.Th x0.there.length V3.ct)).setCell ⟨g,5,none⟩ (sQ none 0 0)).setCell ⟨g,6,none⟩ (sQ V3.C x0.code.length V3.cc)=w6 at *;go_wp2_with fail;obtain ⟨wo,rfl⟩:∃wo,wo=wr:=⟨wr,rfl⟩
   go_loopw [11] (λt wx=>∃(m:Nat) (V:RsV),m<=n.o.length/\t=nQ iQ ((m:Int)+1)/\RsX g ⟨A,N,K,c,d,ck⟩ n lo keep V (Rt.bB (Rt.gT n keep k) m x0) w3 wx) (λt _=>n.o.length+1-(intOf t).toNat)
   case atStart=>exact ⟨0,V3,Zt _,rfl,ht.out⟩
   case round=>
    clear ht;obtain ⟨m,V4,hm,rfl,ha⟩:=hrel;have Hc:=Rt.kW (g:=Rt.gT n keep k) m x0;have hn:=Rt.nX (Rt.gT n keep k) m x0;rw [HG.out] at hn
    by_cases gB:m<n.o.length
    ·generalize Rt.bB (Rt.gT n keep k) m x0=y at *
     have hD:=zI (λq=>qaf V4.Th V4.ct y.there ((m:Int)+1) (wr.drewN q) oZ (ha.at_.there.drewN q));have hC:=zI (λq=>qaf K ck keep ((m:Int)+1) (wr.drewN q) oZ ((HK.out.below (hh.out.trans ha.later) (lrZ _)).drewN q));obtain ⟨-,-,-,-,y4,-,-⟩:=qai ha.box;have m0:(m:Int)+1<=n.o.length:=by omega
     have hG:=zI (λq=>ha.to_later (Later.drewN (Later.refl wr) q));cases h1:qaR y.there ((m:Int)+1)
     ·have HE:=zI (show Rt.bB (Rt.gT n keep k) (m+1) x0=y by rw [hn,show y.there.contains ((m:Int)+1)=false from h1];simp)
      rw [h1] at hD;clear hn h1 Hc ha hC;go_wp2_with fail
      go_quiet ((go_at_call 57;exact qab (hD.out _)))
      go_wp2_with fail;go_roundw
      case rel=>exact ⟨m+1,V4,by omega,by go_num,by rw [HE.out];exact hG.out _⟩
      case measure=>simp [intOf];omega
     rw [h1] at hD;cases h2:qaR keep ((m:Int)+1)
     rotate_left
     ·have HE:=zI (show Rt.bB (Rt.gT n keep k) (m+1) x0=y by rw [hn,h2];simp)
      rw [h2] at hC;clear hn h1 h2 Hc ha;go_wp2_with fail
      go_quiet ((go_at_call 57;first|(with_reducible exact qab (hD.out _))|(with_reducible exact qab (hC.out _))))
      go_wp2_with fail;go_roundw
      case rel=>exact ⟨m+1,V4,by omega,by go_num,by rw [HE.out];exact hG.out _⟩
      case measure=>simp [intOf];omega
     rw [h2] at hC
     by_cases h3:(m:Int)+1=lo
     ·have HE:=zI (show Rt.bB (Rt.gT n keep k) (m+1) x0=y by rw [hn];simp [h3])
      have e3:((m:Int)+1 != lo)=false:=by simp [h3]
      clear hn h1 h2 h3 Hc ha;go_wp2_with fail
      go_quiet ((go_at_call 57;first|(with_reducible exact qab (hD.out _))|(with_reducible exact qab (hC.out _))))
      go_wp2_with fail;go_roundw
      case rel=>exact ⟨m+1,V4,by omega,by go_num,by rw [HE.out];exact hG.out _⟩
      case measure=>simp [intOf];omega
     have e3:((m:Int)+1 != lo)=true:=by simp [h3]
     have hg:Rt.bB (Rt.gT n keep k) (m+1) x0=if !Rt.pend (Nt.iF n.o) ((m:Int)+1) (os.drop (k+1)) then Rt.eP ((m:Int)+1) y else y:=by
      rw [hn,show y.there.contains ((m:Int)+1)=true from h1,h2];simp [h3]
     have HP:=zI (λ(W:Zp1) (h:Later w3 W) (M:Option Addr) (hM:Ints iQ w3 M (os.drop (k+1))) (q:Nat)=>(show Calls prog 58 #[.agg #[sQ A n.inn.length c,sQ N n.o.length d],nQ iQ ((m:Int)+1),sQ M (n.o.length-(k+1)) q] W λe w'=>e=.returned (.bool (Rt.pend (Nt.iF n.o) ((m:Int)+1) (os.drop (k+1))))/\Later W w' from by
      have hp:=qbU A N M c d q n ((m:Int)+1) (os.drop (k+1)) w3 W Hj.out (HR.out.below hh.out (lrZ _)) hM h (by have:=hE.out;rw [Zq];omega) (λz hz=>hU.out z (Zp hz));rw [show (os.drop (k+1)).length=n.o.length-(k+1) by rw [Zq,hE.out]] at hp;exact hp))
     clear hn h3;have sk0:(0:Int)<=(k:Int)+1:=by omega
     have sk1:(k:Int)+1<=(n.o.length:Int):=by omega
     have sk2:(n.o.length:Int)<=(oc:Int):=by omega
     have wk:iQ.wrap ((k:Int)+1)=(k:Int)+1:=Zc1 _ oZ;have tk:((k:Int)+1).toNat=k+1:=by omega
     have kk:k+1<=n.o.length:=by omega
     by_cases HC:oc=k+1
     ·subst HC
      have HM:=zI (show Ints iQ w3 (some ⟨b2,off2,none⟩) (os.drop (k+1)) by
       intro j hj;have:=hE.out;rw [Zq] at hj;omega)
      have gm:n.o.length-(k+1)=0:=by omega
      rw [gm] at HP;clear gm;cases hpd:Rt.pend (Nt.iF n.o) ((m:Int)+1) (os.drop (k+1))
      all_goals
       rw [hpd] at HP hg;have HE:=zI hg;have x0':=ha.later.cell (Hd.out.cell 0);have x1':=ha.later.cell (Hd.out.cell 1);simp at x0' x1';have hN:=zI (λ(W:Zp1) (h:Later wr W)=>(⟨h.cell y4,h.cell x0',h.cell x1'⟩:W.cell? ⟨g,4,none⟩=some (sQ V4.Th y.there.length V4.ct)/\W.cell? ⟨w.heap.size,0,none⟩=some (sQ A n.inn.length c)/\W.cell? ⟨w.heap.size,1,none⟩=some (sQ N n.o.length d)));have hB:=zI (λ(W:Zp1) (h:Later wr W)=>qaf V4.Th V4.ct y.there ((m:Int)+1) W oZ (ha.at_.there.below h (lrZ _)));have hy:=zI (λ(W:Zp1) (h:Later wr W)=>qaf K ck keep ((m:Int)+1) W oZ (HK.out.below (hh.out.trans (ha.later.trans h)) (lrZ _)));rw [h1] at hB;rw [h2] at hy;have hI:=zI ha.later;have hw:=zI ha;clear ha;clear hg hpd hD hC h1 h2;go_wp2_with fail
       go_region_held3 (λW=>W.cell? ⟨g,4,none⟩=some (sQ V4.Th y.there.length V4.ct)/\W.cell? ⟨w.heap.size,0,none⟩=some (sQ A n.inn.length c)/\W.cell? ⟨w.heap.size,1,none⟩=some (sQ N n.o.length d)) (first|exact hN.out _ (show Later wr _ by repeat (first|(with_reducible exact Later.refl _)|(with_reducible apply Later.drew)|(with_reducible refine Later.trans ?_ (by assumption))))|fail)
        (first
        | (go_at_call 57;(first|(with_reducible refine (hB.out _ (show Later wr _ by repeat (first|(with_reducible exact Later.refl _)|(with_reducible apply Later.drew)))).mono ?_)|(with_reducible refine (hy.out _ (show Later wr _ by repeat (first|(with_reducible exact Later.refl _)|(with_reducible apply Later.drew)))).mono ?_));rintro e w' ⟨rfl,rfl⟩)
        | (go_at_call 58;refine (HP.out _ (show Later w3 _ by repeat (first|(with_reducible exact hI.out)|(with_reducible apply Later.drew))) _ HM.out _).mono ?_;rintro e w7 ⟨rfl,hW⟩)
        | fail)
      ·have hb:=zI (hw.out.to_later (show Later wr w7 by repeat (first|(with_reducible exact Later.refl _)|(with_reducible apply Later.drew)|(with_reducible refine Later.trans ?_ (by assumption)))))
       have hF:=zI (HE.out.trans (ipZ rfl));clear hw hI hN hB hy HP y4 x0' x1' hW HE;have hP:=zI (qb1 ⟨A,N,K,c,d,ck⟩ V4 n lo keep y w7 hb.out.at_ oZ oZ ((m:Int)+1));obtain ⟨y0,y1,y2,y3,y4,y5,y6⟩:=qai hb.out.box;go_wp2_with fail;refine hP.out.mono ?_;rintro e w8 ⟨V8,rfl,hS,hT,ho⟩;have he:=hb.out.put ho hS hT;obtain ⟨d0,d1,d2,d3,d4,d5,d6⟩:=qai (ho.blk hb.out.box);obtain ⟨f0,f1,f2,f3,f4,f5,f6⟩:=qar (ho.blk hb.out.box);generalize Rt.eP ((m:Int)+1) y=z at *;rw [show RsF.cells ⟨A,N,K,c,d,ck⟩ V8 n lo keep z=#[sQ A n.inn.length c,sQ N n.o.length d,nQ iQ lo,sQ K keep.length ck,sQ V8.Th z.there.length V8.ct,sQ none 0 0,sQ V8.C z.code.length V8.cc] from rfl];unfold fG at he;have hl:=zI he;clear he;clear hS hT ho hP y0 y1 y2 y3 y4 y5 y6;go_wp2_with fail;go_roundw
       case rel=>exact ⟨m+1,V8,by omega,by go_num,by rw [hF.out];exact hl.out⟩
       case measure=>simp [intOf];omega
      ·have hb:=zI (hw.out.to_later (show Later wr w7 by repeat (first|(with_reducible exact Later.refl _)|(with_reducible apply Later.drew)|(with_reducible refine Later.trans ?_ (by assumption)))))
       have hF:=zI (HE.out.trans (inZ sZ));clear hw hI hN hB hy HP y4 x0' x1' hW HE;go_wp2_with fail;go_roundw
       case rel=>exact ⟨m+1,V4,by omega,by go_num,by rw [hF.out];exact hb.out⟩
       case measure=>simp [intOf];omega
     ·have HM:=zI (Hu.out.drop (k+1))
      cases hpd:Rt.pend (Nt.iF n.o) ((m:Int)+1) (os.drop (k+1))
      all_goals
       rw [hpd] at HP hg;have HE:=zI hg;have x0':=ha.later.cell (Hd.out.cell 0);have x1':=ha.later.cell (Hd.out.cell 1);simp at x0' x1';have hN:=zI (λ(W:Zp1) (h:Later wr W)=>(⟨h.cell y4,h.cell x0',h.cell x1'⟩:W.cell? ⟨g,4,none⟩=some (sQ V4.Th y.there.length V4.ct)/\W.cell? ⟨w.heap.size,0,none⟩=some (sQ A n.inn.length c)/\W.cell? ⟨w.heap.size,1,none⟩=some (sQ N n.o.length d)));have hB:=zI (λ(W:Zp1) (h:Later wr W)=>qaf V4.Th V4.ct y.there ((m:Int)+1) W oZ (ha.at_.there.below h (lrZ _)));have hy:=zI (λ(W:Zp1) (h:Later wr W)=>qaf K ck keep ((m:Int)+1) W oZ (HK.out.below (hh.out.trans (ha.later.trans h)) (lrZ _)));rw [h1] at hB;rw [h2] at hy;have hI:=zI ha.later;have hw:=zI ha;clear ha;clear hg hpd hD hC h1 h2;go_wp2_with fail
       go_region_held3 (λW=>W.cell? ⟨g,4,none⟩=some (sQ V4.Th y.there.length V4.ct)/\W.cell? ⟨w.heap.size,0,none⟩=some (sQ A n.inn.length c)/\W.cell? ⟨w.heap.size,1,none⟩=some (sQ N n.o.length d)) (first|exact hN.out _ (show Later wr _ by repeat (first|(with_reducible exact Later.refl _)|(with_reducible apply Later.drew)|(with_reducible refine Later.trans ?_ (by assumption))))|fail)
        (first
        | (go_at_call 57;(first|(with_reducible refine (hB.out _ (show Later wr _ by repeat (first|(with_reducible exact Later.refl _)|(with_reducible apply Later.drew)))).mono ?_)|(with_reducible refine (hy.out _ (show Later wr _ by repeat (first|(with_reducible exact Later.refl _)|(with_reducible apply Later.drew)))).mono ?_));rintro e w' ⟨rfl,rfl⟩)
        | (go_at_call 58;refine (HP.out _ (show Later w3 _ by repeat (first|(with_reducible exact hI.out)|(with_reducible apply Later.drew))) _ HM.out _).mono ?_;rintro e w7 ⟨rfl,hW⟩)
        | fail)
      ·have hb:=zI (hw.out.to_later (show Later wr w7 by repeat (first|(with_reducible exact Later.refl _)|(with_reducible apply Later.drew)|(with_reducible refine Later.trans ?_ (by assumption)))))
       have hF:=zI (HE.out.trans (ipZ rfl));clear hw hI hN hB hy HP y4 x0' x1' hW HE;have hP:=zI (qb1 ⟨A,N,K,c,d,ck⟩ V4 n lo keep y w7 hb.out.at_ oZ oZ ((m:Int)+1));obtain ⟨y0,y1,y2,y3,y4,y5,y6⟩:=qai hb.out.box;go_wp2_with fail;refine hP.out.mono ?_;rintro e w8 ⟨V8,rfl,hS,hT,ho⟩;have he:=hb.out.put ho hS hT;obtain ⟨d0,d1,d2,d3,d4,d5,d6⟩:=qai (ho.blk hb.out.box);obtain ⟨f0,f1,f2,f3,f4,f5,f6⟩:=qar (ho.blk hb.out.box);generalize Rt.eP ((m:Int)+1) y=z at *;rw [show RsF.cells ⟨A,N,K,c,d,ck⟩ V8 n lo keep z=#[sQ A n.inn.length c,sQ N n.o.length d,nQ iQ lo,sQ K keep.length ck,sQ V8.Th z.there.length V8.ct,sQ none 0 0,sQ V8.C z.code.length V8.cc] from rfl];unfold fG at he;have hl:=zI he;clear he;clear hS hT ho hP y0 y1 y2 y3 y4 y5 y6;go_wp2_with fail;go_roundw
       case rel=>exact ⟨m+1,V8,by omega,by go_num,by rw [hF.out];exact hl.out⟩
       case measure=>simp [intOf];omega
      ·have hb:=zI (hw.out.to_later (show Later wr w7 by repeat (first|(with_reducible exact Later.refl _)|(with_reducible apply Later.drew)|(with_reducible refine Later.trans ?_ (by assumption)))))
       have hF:=zI (HE.out.trans (inZ sZ));clear hw hI hN hB hy HP y4 x0' x1' hW HE;go_wp2_with fail;go_roundw
       case rel=>exact ⟨m+1,V4,by omega,by go_num,by rw [hF.out];exact hb.out⟩
       case measure=>simp [intOf];omega
    ·obtain rfl:m=n.o.length:=by omega
     have hi:=ha;rw [←HN.out] at hi;have ht:=zI hi;clear hi;clear ha hn Hc;go_wp2_with fail;go_roundw
     case rel=>exact ⟨k+1,V4,by omega,by go_num,ht.out⟩
     case measure=>simp [intOf];omega
  ·obtain rfl:k=n.o.length:=by omega
   have Hk:=zI hv;clear hv;have gr:=HH.out n.o.length (lrZ _);have gk:=HY.out;rw [Hn.out] at gk;have gb:=Hn;generalize Rt.lG n keep n.o.length=ya at *;have gl:=zI (qbT ⟨A,N,K,c,d,ck⟩ V n lo keep ya wr Hk.out.at_ oZ 4 0);obtain ⟨y0,y1,y2,y3,y4,y5,y6⟩:=qai Hk.out.box;have gJ:(Rt.dN 4 0 ya).code.length<=201/\(Rt.dN 4 0 ya).there.length<=13:=by unfold Rt.dN;simp;omega
   go_wp2_with fail;clear y0 y1 y2 y3 y4 y5 y6;refine gl.out.mono ?_;rintro e w5 ⟨V5,rfl,hV,h7,hA⟩;have he:=Hk.out.put hA hV h7;obtain ⟨d0,d1,d2,d3,d4,d5,d6⟩:=qai (hA.blk Hk.out.box);obtain ⟨f0,f1,f2,f3,f4,f5,f6⟩:=qar (hA.blk Hk.out.box);generalize hz:Rt.dN 4 0 ya=yb at *;have gE:=zI hz;rw [show RsF.cells ⟨A,N,K,c,d,ck⟩ V5 n lo keep yb=#[sQ A n.inn.length c,sQ N n.o.length d,nQ iQ lo,sQ K keep.length ck,sQ V5.Th yb.there.length V5.ct,sQ none 0 0,sQ V5.C yb.code.length V5.cc] from rfl];unfold fG at he;have hl:=zI he;clear he;clear hV h7 hA hz gl;go_upto_region 14 with fail;clear d0 d1 d2 d3 d4 d5 d6 f0 f1 f2 f3 f4 f5 f6;generalize (((((((w5.setCell ⟨g,0,none⟩ (sQ A n.inn.length c)).setCell ⟨g,1,none⟩ (sQ N n.o.length d)).setCell ⟨g,2,none⟩ (nQ iQ lo)).setCell ⟨g,3,none⟩ (sQ K keep.length ck)).setCell ⟨g,4,none⟩ (sQ V5.Th yb.there.length V5.ct)).setCell ⟨g,5,none⟩ (sQ none 0 0)).setCell ⟨g,6,none⟩ (sQ V5.C yb.code.length V5.cc))=w6 at *;have ge:=zI (qb1 ⟨A,N,K,c,d,ck⟩ V5 n lo keep yb w6 hl.out.at_ oZ oZ lo);obtain ⟨y0,y1,y2,y3,y4,y5,y6⟩:=qai hl.out.box
   have gp:(Rt.eP lo yb).code.length<=202/\(Rt.eP lo yb).there.length<=13:=by
    have h4:(Rf.without yb.there lo).length<=yb.there.length:=List.length_filter_le _ _;unfold Rt.eP;simp;omega
   have ht:=hl;clear hl;go_wp2_with fail;clear y0 y1 y2 y3 y4 y5 y6;refine ge.out.mono ?_;rintro e w7 ⟨V7,rfl,hV,h7,hA⟩;have he:=ht.out.put hA hV h7;obtain ⟨d0,d1,d2,d3,d4,d5,d6⟩:=qai (hA.blk ht.out.box);obtain ⟨f0,f1,f2,f3,f4,f5,f6⟩:=qar (hA.blk ht.out.box);generalize hz:Rt.eP lo yb=yc at *;have gD:=zI hz;rw [show RsF.cells ⟨A,N,K,c,d,ck⟩ V7 n lo keep yc=#[sQ A n.inn.length c,sQ N n.o.length d,nQ iQ lo,sQ K keep.length ck,sQ V7.Th yc.there.length V7.ct,sQ none 0 0,sQ V7.C yc.code.length V7.cc] from rfl];unfold fG at he;have hl:=zI he;clear he;clear hV h7 hA hz ge;go_upto_region 15 with fail;clear d0 d1 d2 d3 d4 d5 d6 f0 f1 f2 f3 f4 f5 f6;generalize (((((((w7.setCell ⟨g,0,none⟩ (sQ A n.inn.length c)).setCell ⟨g,1,none⟩ (sQ N n.o.length d)).setCell ⟨g,2,none⟩ (nQ iQ lo)).setCell ⟨g,3,none⟩ (sQ K keep.length ck)).setCell ⟨g,4,none⟩ (sQ V7.Th yc.there.length V7.ct)).setCell ⟨g,5,none⟩ (sQ none 0 0)).setCell ⟨g,6,none⟩ (sQ V7.C yc.code.length V7.cc))=w8 at *;have HU:=zI (qbT ⟨A,N,K,c,d,ck⟩ V7 n lo keep yc w8 hl.out.at_ oZ 5 0);obtain ⟨y0,y1,y2,y3,y4,y5,y6⟩:=qai hl.out.box;have hb:=hl;clear hl;go_wp2_with fail;clear y0 y1 y2 y3 y4 y5 y6;refine HU.out.mono ?_;rintro e w9 ⟨V9,rfl,hV,h7,hA⟩;have he:=hb.out.put hA hV h7;obtain ⟨d0,d1,d2,d3,d4,d5,d6⟩:=qai (hA.blk hb.out.box);obtain ⟨f0,f1,f2,f3,f4,f5,f6⟩:=qar (hA.blk hb.out.box);generalize hz:Rt.dN 5 0 yc=yd at *;have gt:=zI hz;rw [show RsF.cells ⟨A,N,K,c,d,ck⟩ V9 n lo keep yd=#[sQ A n.inn.length c,sQ N n.o.length d,nQ iQ lo,sQ K keep.length ck,sQ V9.Th yd.there.length V9.ct,sQ none 0 0,sQ V9.C yd.code.length V9.cc] from rfl];unfold fG at he;have hl:=zI he;clear he;clear hV h7 hA hz HU;go_upto_region 16 with fail;clear d0 d1 d2 d3 d4 d5 d6 f0 f1 f2 f3 f4 f5 f6;generalize (((((((w9.setCell ⟨g,0,none⟩ (sQ A n.inn.length c)).setCell ⟨g,1,none⟩ (sQ N n.o.length d)).setCell ⟨g,2,none⟩ (nQ iQ lo)).setCell ⟨g,3,none⟩ (sQ K keep.length ck)).setCell ⟨g,4,none⟩ (sQ V9.Th yd.there.length V9.ct)).setCell ⟨g,5,none⟩ (sQ none 0 0)).setCell ⟨g,6,none⟩ (sQ V9.C yd.code.length V9.cc))=w10 at *
   have H9:Hid (RsX g ⟨A,N,K,c,d,ck⟩ n lo keep V9 (Rt.fM n keep 0) w3 w10):=zI (by
    rw [show Rt.fM n keep 0=Rt.rA n keep from rfl,gb.out];exact hl.out)
   have gM:=HK;clear hl hb ht Hk gb gE gD gt gr gk gJ gp HH HY HV HG;have n1:iQ.wrap ((n.o.length:Int)-1)=(n.o.length:Int)-1:=Zc1 _ oZ;go_wp2_with fail;clear n1;obtain ⟨wq,rfl⟩:∃wq,wq=wr:=⟨wr,rfl⟩
   go_loopw [12] (λt wx=>∃(k:Nat) (z:Int) (V:RsV),k<=n.o.length/\z=(n.o.length:Int)-1-(k:Int)/\t=nQ iQ z/\RsX g ⟨A,N,K,c,d,ck⟩ n lo keep V (Rt.fM n keep k) w3 wx) (λt _=>(intOf t+1).toNat)
   case atStart=>exact ⟨0,_,_,Zt _,by omega,rfl,H9.out⟩
   case round=>
    obtain ⟨k,z,V,hk,hz,rfl,hv⟩:=hrel;clear H9
    by_cases HA:k<n.o.length
    ·obtain ⟨p,hp⟩:∃p:Nat,z=(p:Int):=⟨z.toNat,by omega⟩
     have HI:p<n.o.length:=by omega
     have HS:n.o.length-1-k=p:=by omega
     have gO:=zI HS;have Hs:=zI (show os.length-1-k=p by rw [hE.out];exact HS);have HF:=zI (show os.length-k=p+1 by rw [hE.out];omega);subst hp;have HZ:=zI hz;have hQ:=gF.out k;have Hm:=λj=>gx.out k HA j
     rw [Hs.out,HF.out] at hQ;rw [Hs.out] at Hm;obtain ⟨b2,off2,Hg,-,hc⟩:=Hu.out.below hv.later (lrZ _) p (by rw [hE.out];exact HI);have H4:=hU.out (os.getD p 0) (by rw [qa2 (show p<os.length by rw [hE.out];exact HI)];exact gmZ _);obtain ⟨j,hj⟩:∃j:Nat,os.getD p 0=(j:Int)+1:=⟨(os.getD p 0-1).toNat,by omega⟩
     have Hy:j<n.o.length:=by omega
     rw [hj] at hQ Hm hc;have gi:Nt.iF n.o ((j:Int)+1)=n.o[j].ins:=by unfold Nt.iF;rw [Nt.dI Hy]
     rw [gi] at hQ Hm;obtain ⟨b1,off1,J,jc,H6,y8,hJ⟩:=(HR.out.below hh.out (lrZ _)).nK Hy;have gQ:=(Hj.out.2.2 _ (gmZ Hy)).2.2.1;have h6:=Rt.mZ He.out Hy;have Hl:=λq (h:q<n.o[j].ins.length)=>Rt.pI (I:=Nt.iF n.o) (m:=n.o.length+1) h (Rt.fM n keep k)
     have x8:=hv.later.cell y8;have x1:=hv.later.cell (Hd.out.cell 1);simp at x1;have hL:=Hm n.o[j].ins.length;rw [Zg] at hL;generalize n.o[j].ins=il at *;generalize Rt.fM n keep k=s at *;rw [H6] at x1;have j1:iQ.wrap ((j:Int)+1-1)=(j:Int):=by rw [Zc1 _ oZ];omega
     have j3:(0:Int)<=(j:Int):=by omega
     have j4:(j:Int)<n.o.length:=by omega
     have p0:(0:Int)<=(p:Int):=by omega
     have p1:(p:Int)<n.o.length:=by omega
     subst Hg;have hx:=zI (λq=>hv.to_later (Later.drewN (Later.refl wr) q));have gv:=zI (show os.getD p 0=(j:Int)+1 from hj);obtain ⟨HW,H0,Hr,go,HJ,Ho⟩:=zd6 hQ Hm h6 Hl hJ hL;clear hQ Hm h6 Hl hJ hL;clear hv hz HS hj gi H6 y8 H4;go_wp2_with fail
     go_quiet (fail)
     clear hc x8 x1 j1;have gd:=zI (hx.out nq);generalize wr.drewN nq=wd at *;clear hx;go_wp2_with fail;obtain ⟨wo,rfl⟩:∃wo,wo=wr:=⟨wr,rfl⟩
     go_loopw [14] (λt wx=>∃(q:Nat) (V:RsV),q<=il.length/\t=nQ iQ (q:Int)/\RsX g ⟨A,N,K,c,d,ck⟩ n lo keep V ((il.take q).foldl (λx i=>Rt.aI (Nt.iF n.o) (n.o.length+1) i x) s) w3 wx) (λt _=>il.length-(intOf t).toNat)
     case atStart=>exact ⟨0,V,Zt _,rfl,gd.out⟩
     case round=>
      clear gd;obtain ⟨q,V2,hq,rfl,hZ⟩:=hrel;have Hz:=H0.out q;obtain ⟨y0,y1,y2,y3,y4,y5,y6⟩:=qai hZ.box
      by_cases HB:q<il.length
      ·skip
       obtain ⟨b3,off3,gH,-,hc⟩:=HJ.out.below hZ.later (lrZ _) q HB;rw [qa2 HB] at hc;have hr:=Hr.out _ (gmZ HB);obtain ⟨u,hu⟩:=ezZ hr.1;have Hl:=go.out q HB;have Hb:=H0.out (q+1);rw [Hl] at Hb;have Hx:=zI Hl;rw [hu] at hc hr Hb Hx;generalize (il.take q).foldl (λx i=>Rt.aI (Nt.iF n.o) (n.o.length+1) i x) s=y at *;have h9:Later wr wr.drew:=(Later.refl _).drew;have hH:=hZ.to_later h9
       have hf:=zI (qfG ⟨A,N,K,c,d,ck⟩ n lo keep w3 Hj.out He.out (HR.out.below hh.out (lrZ _)) (n.o.length+1) u y V2 wr.drew hH.later hH.at_ oZ (by
        rcases Nat.eq_zero_or_pos u with h0|h0
        ·exact .inl h0
        ·exact .inr (gC.out u h0 oZ)) oZ oZ)
       have k0:(q:Int)<il.length:=by omega
       subst gH;have hx:=zI hH;clear hH;clear Hl hu hZ h9 Hb Hz;go_upto_region 23 with fail
       go_still_tail 5,krZ
       change wpList _ _ _ _ _ wr.drew
       clear y0 y1 y2 y3 y4 y5 y6 hc;generalize wr.drew=wd at *;go_wp2_with fail;refine hf.out.mono ?_;rintro e w5 ⟨V3,rfl,h5,hY,hs⟩;have hi:=hx.out.put hs h5 hY;obtain ⟨d0,d1,d2,d3,d4,d5,d6⟩:=qai (hs.blk hx.out.box);obtain ⟨f0,f1,f2,f3,f4,f5,f6⟩:=qar (hs.blk hx.out.box);rw [←Hx.out] at hi;rw [←Hx.out];generalize hy3:(il.take (q+1)).foldl (λx i=>Rt.aI (Nt.iF n.o) (n.o.length+1) i x) s=x3 at *;rw [show RsF.cells ⟨A,N,K,c,d,ck⟩ V3 n lo keep x3=#[sQ A n.inn.length c,sQ N n.o.length d,nQ iQ lo,sQ K keep.length ck,sQ V3.Th x3.there.length V3.ct,sQ none 0 0,sQ V3.C x3.code.length V3.cc] from rfl];unfold fG at hi;obtain ⟨ht,gI⟩:=zd2 hi hy3;clear hi hy3;clear h5 hY hs Hx hf;go_wp2_with fail;go_roundw
       case rel=>exact ⟨q+1,V3,by omega,by go_num,by rw [gI.out];exact ht.out⟩
       case measure=>simp [intOf];omega
      ·obtain rfl:q=il.length:=by omega
       rw [Zg] at hZ Hz y4 y6;have hQ:=HW.out;have gy:=Ho.out;generalize il.foldl (λx i=>Rt.aI (Nt.iF n.o) (n.o.length+1) i x) s=y at *;obtain ⟨b3,off3,Hg,-,hc⟩:=Hu.out.below hZ.later (lrZ _) p (by rw [hE.out];exact HI);injection Hg with Hg
       injection Hg with e1 e2 e3
       subst e1 e2;rw [gv.out] at hc;have h9:Later wr wr.drew:=(Later.refl _).drew;have hH:=hZ.to_later h9;have hf:=zI (qbT ⟨A,N,K,c,d,ck⟩ V2 n lo keep y wr.drew hH.at_ oZ 6 ((j:Int)+1));have Hi:(Rt.dN 6 ((j:Int)+1) y).code.length=y.code.length+1:=by unfold Rt.dN;simp
       have Hf:(Rt.dN 6 ((j:Int)+1) y).there.length=y.there.length:=rfl;have hx:=zI hH;clear hH;have HN:=zI hQ;clear hQ hZ h9 e3 HW;go_upto_region 24 with fail
       go_still_tail 5,krZ
       change wpList _ _ _ _ _ wr.drew
       clear y0 y1 y2 y3 y4 y5 y6 hc;generalize wr.drew=wd at *;go_wp2_with fail;refine hf.out.mono ?_;rintro e w5 ⟨V3,rfl,h5,hY,hs⟩;have hi:=hx.out.put hs h5 hY;obtain ⟨d0,d1,d2,d3,d4,d5,d6⟩:=qai (hs.blk hx.out.box);obtain ⟨f0,f1,f2,f3,f4,f5,f6⟩:=qar (hs.blk hx.out.box);generalize Rt.dN 6 ((j:Int)+1) y=x0 at *;rw [show RsF.cells ⟨A,N,K,c,d,ck⟩ V3 n lo keep x0=#[sQ A n.inn.length c,sQ N n.o.length d,nQ iQ lo,sQ K keep.length ck,sQ V3.Th x0.there.length V3.ct,sQ none 0 0,sQ V3.C x0.code.length V3.cc] from rfl];unfold fG at hi;have gw:x0.code.length<=1001:=by omega
       have gK:x0.there.length<=13:=by omega
       have ht:=zI hi;clear hi;clear h5 hY hs hf Hi Hf Hz gy;go_upto_region 25 with fail;clear d0 d1 d2 d3 d4 d5 d6 f0 f1 f2 f3 f4 f5 f6;generalize (((((((w5.setCell ⟨g,0,none⟩ (sQ A n.inn.length c)).setCell ⟨g,1,none⟩ (sQ N n.o.length d)).setCell ⟨g,2,none⟩ (nQ iQ lo)).setCell ⟨g,3,none⟩ (sQ K keep.length ck)).setCell ⟨g,4,none⟩ (sQ V3.Th x0.there.length V3.ct)).setCell ⟨g,5,none⟩ (sQ none 0 0)).setCell ⟨g,6,none⟩ (sQ V3.C x0.code.length V3.cc))=w6 at *;go_wp2_with fail;obtain ⟨wv,rfl⟩:∃wv,wv=wr:=⟨wr,rfl⟩
       go_loopw [15] (λt wx=>∃(m:Nat) (V:RsV),m<=n.o.length/\t=nQ iQ ((m:Int)+1)/\RsX g ⟨A,N,K,c,d,ck⟩ n lo keep V (Rt.bB (Rt.dT n keep (p+1)) m x0) w3 wx) (λt _=>n.o.length+1-(intOf t).toNat)
       case atStart=>exact ⟨0,V3,Zt _,rfl,ht.out⟩
       case round=>
        clear ht;obtain ⟨m,V4,hm,rfl,ha⟩:=hrel;have Hc:=Rt.kW (g:=Rt.dT n keep (p+1)) m x0;have hn:=Rt.nX (Rt.dT n keep (p+1)) m x0;rw [HD.out] at hn;rw [show p+1-1=p from rfl] at hn
        by_cases gB:m<n.o.length
        ·generalize Rt.bB (Rt.dT n keep (p+1)) m x0=y at *
         have hD:=zI (λq=>qaf V4.Th V4.ct y.there ((m:Int)+1) (wr.drewN q) oZ (ha.at_.there.drewN q));have hC:=zI (λq=>qaf K ck keep ((m:Int)+1) (wr.drewN q) oZ ((HK.out.below (hh.out.trans ha.later) (lrZ _)).drewN q));obtain ⟨-,-,-,-,y4,-,-⟩:=qai ha.box;have m0:(m:Int)+1<=n.o.length:=by omega
         have hG:=zI (λq=>ha.to_later (Later.drewN (Later.refl wr) q));cases h1:qaR y.there ((m:Int)+1)
         ·have HE:=zI (show Rt.bB (Rt.dT n keep (p+1)) (m+1) x0=y by rw [hn,show y.there.contains ((m:Int)+1)=false from h1];simp)
          rw [h1] at hD;clear hn h1 Hc ha hC;go_wp2_with fail
          go_quiet ((go_at_call 57;exact qab (hD.out _)))
          go_wp2_with fail;go_roundw
          case rel=>exact ⟨m+1,V4,by omega,by go_num,by rw [HE.out];exact hG.out _⟩
          case measure=>simp [intOf];omega
         rw [h1] at hD;cases h2:qaR keep ((m:Int)+1)
         ·have hF:=zI (show Rt.bB (Rt.dT n keep (p+1)) (m+1) x0=Rt.eP ((m:Int)+1) y by rw [hn,show y.there.contains ((m:Int)+1)=true from h1,h2];simp)
          rw [h2] at hC;clear hn h1 h2 ha;go_wp2_with fail
          go_quiet ((go_at_call 57;first|(with_reducible exact qab (hD.out _))|(with_reducible exact qab (hC.out _))))
          have hb:=zI (hG.out nq);clear hD hC hG y4;generalize wr.drewN nq=w7 at *;have hP:=zI (qb1 ⟨A,N,K,c,d,ck⟩ V4 n lo keep y w7 hb.out.at_ oZ oZ ((m:Int)+1));obtain ⟨y0,y1,y2,y3,y4,y5,y6⟩:=qai hb.out.box;go_wp2_with fail;refine hP.out.mono ?_;rintro e w8 ⟨V8,rfl,hS,hT,ho⟩;have he:=hb.out.put ho hS hT;obtain ⟨d0,d1,d2,d3,d4,d5,d6⟩:=qai (ho.blk hb.out.box);obtain ⟨f0,f1,f2,f3,f4,f5,f6⟩:=qar (ho.blk hb.out.box);generalize Rt.eP ((m:Int)+1) y=z at *;rw [show RsF.cells ⟨A,N,K,c,d,ck⟩ V8 n lo keep z=#[sQ A n.inn.length c,sQ N n.o.length d,nQ iQ lo,sQ K keep.length ck,sQ V8.Th z.there.length V8.ct,sQ none 0 0,sQ V8.C z.code.length V8.cc] from rfl];unfold fG at he;have hl:=zI he;clear he;clear hS hT ho hP y0 y1 y2 y3 y4 y5 y6;go_wp2_with fail;go_roundw
          case rel=>exact ⟨m+1,V8,by omega,by go_num,by rw [hF.out];exact hl.out⟩
          case measure=>simp [intOf];omega
         rw [h2] at hC
         have hg:Rt.bB (Rt.dT n keep (p+1)) (m+1) x0=if !Rt.pend (Nt.iF n.o) ((m:Int)+1) (os.take p) then Rt.eP ((m:Int)+1) y else y:=by
          rw [hn,show y.there.contains ((m:Int)+1)=true from h1,h2];simp
         have HP:=zI (λ(W:Zp1) (h:Later w3 W) (q:Nat)=>(show Calls prog 58 #[.agg #[sQ A n.inn.length c,sQ N n.o.length d],nQ iQ ((m:Int)+1),sQ (some ⟨b2,off2,none⟩) p q] W λe w'=>e=.returned (.bool (Rt.pend (Nt.iF n.o) ((m:Int)+1) (os.take p)))/\Later W w' from by
          have hp:=qbU A N (some ⟨b2,off2,none⟩) c d q n ((m:Int)+1) (os.take p) w3 W Hj.out (HR.out.below hh.out (lrZ _)) (Hu.out.take p) h (by have:=hE.out;rw [Zo];omega) (λz hz=>hU.out z (Zh hz));rw [show (os.take p).length=p by rw [Zo,hE.out];omega] at hp;exact hp))
         have sk1:(p:Int)<=(n.o.length:Int):=by omega
         have sk2:(n.o.length:Int)<=(oc:Int):=by omega
         have sk3:(p:Int)<=(oc:Int):=by omega
         have tk:((p:Int)).toNat=p:=by omega
         have kk:p<=n.o.length:=by omega
         have kk2:p<=oc:=by omega
         clear hn;cases hpd:Rt.pend (Nt.iF n.o) ((m:Int)+1) (os.take p)
         all_goals
          rw [hpd] at HP hg;have HE:=zI hg;have x0':=ha.later.cell (Hd.out.cell 0);have x1':=ha.later.cell (Hd.out.cell 1);simp at x0' x1';have hN:=zI (λ(W:Zp1) (h:Later wr W)=>(⟨h.cell y4,h.cell x0',h.cell x1'⟩:W.cell? ⟨g,4,none⟩=some (sQ V4.Th y.there.length V4.ct)/\W.cell? ⟨w.heap.size,0,none⟩=some (sQ A n.inn.length c)/\W.cell? ⟨w.heap.size,1,none⟩=some (sQ N n.o.length d)));have hB:=zI (λ(W:Zp1) (h:Later wr W)=>qaf V4.Th V4.ct y.there ((m:Int)+1) W oZ (ha.at_.there.below h (lrZ _)));have hy:=zI (λ(W:Zp1) (h:Later wr W)=>qaf K ck keep ((m:Int)+1) W oZ (HK.out.below (hh.out.trans (ha.later.trans h)) (lrZ _)));rw [h1] at hB;rw [h2] at hy;have hI:=zI ha.later;have hw:=zI ha;clear ha;clear hg hpd hD hC h1 h2;go_wp2_with fail
          go_region_held3 (λW=>W.cell? ⟨g,4,none⟩=some (sQ V4.Th y.there.length V4.ct)/\W.cell? ⟨w.heap.size,0,none⟩=some (sQ A n.inn.length c)/\W.cell? ⟨w.heap.size,1,none⟩=some (sQ N n.o.length d)) (first|exact hN.out _ (show Later wr _ by repeat (first|(with_reducible exact Later.refl _)|(with_reducible apply Later.drew)|(with_reducible refine Later.trans ?_ (by assumption))))|fail)
           (first
           | (go_at_call 57;(first|(with_reducible refine (hB.out _ (show Later wr _ by repeat (first|(with_reducible exact Later.refl _)|(with_reducible apply Later.drew)))).mono ?_)|(with_reducible refine (hy.out _ (show Later wr _ by repeat (first|(with_reducible exact Later.refl _)|(with_reducible apply Later.drew)))).mono ?_));rintro e w' ⟨rfl,rfl⟩)
           | (go_at_call 58;refine (HP.out _ (show Later w3 _ by repeat (first|(with_reducible exact hI.out)|(with_reducible apply Later.drew))) _).mono ?_;rintro e w7 ⟨rfl,hW⟩)
           | fail)
         ·have hb:=zI (hw.out.to_later (show Later wr w7 by repeat (first|(with_reducible exact Later.refl _)|(with_reducible apply Later.drew)|(with_reducible refine Later.trans ?_ (by assumption)))))
          have hF:=zI (HE.out.trans (ipZ rfl));clear hw hI hN hB hy HP y4 x0' x1' hW HE;have hP:=zI (qb1 ⟨A,N,K,c,d,ck⟩ V4 n lo keep y w7 hb.out.at_ oZ oZ ((m:Int)+1));obtain ⟨y0,y1,y2,y3,y4,y5,y6⟩:=qai hb.out.box;go_wp2_with fail;refine hP.out.mono ?_;rintro e w8 ⟨V8,rfl,hS,hT,ho⟩;have he:=hb.out.put ho hS hT;obtain ⟨d0,d1,d2,d3,d4,d5,d6⟩:=qai (ho.blk hb.out.box);obtain ⟨f0,f1,f2,f3,f4,f5,f6⟩:=qar (ho.blk hb.out.box);generalize Rt.eP ((m:Int)+1) y=z at *;rw [show RsF.cells ⟨A,N,K,c,d,ck⟩ V8 n lo keep z=#[sQ A n.inn.length c,sQ N n.o.length d,nQ iQ lo,sQ K keep.length ck,sQ V8.Th z.there.length V8.ct,sQ none 0 0,sQ V8.C z.code.length V8.cc] from rfl];unfold fG at he;have hl:=zI he;clear he;clear hS hT ho hP y0 y1 y2 y3 y4 y5 y6;go_wp2_with fail;go_roundw
          case rel=>exact ⟨m+1,V8,by omega,by go_num,by rw [hF.out];exact hl.out⟩
          case measure=>simp [intOf];omega
         ·have hb:=zI (hw.out.to_later (show Later wr w7 by repeat (first|(with_reducible exact Later.refl _)|(with_reducible apply Later.drew)|(with_reducible refine Later.trans ?_ (by assumption)))))
          have hF:=zI (HE.out.trans (inZ sZ));clear hw hI hN hB hy HP y4 x0' x1' hW HE;go_wp2_with fail;go_roundw
          case rel=>exact ⟨m+1,V4,by omega,by go_num,by rw [hF.out];exact hb.out⟩
          case measure=>simp [intOf];omega
        ·obtain rfl:m=n.o.length:=by omega
         have hi:=ha;rw [←HN.out] at hi;have q1:iQ.wrap ((p:Int)-1)=(p:Int)-1:=Zc1 _ oZ;have ht:=zI hi;clear hi;clear ha hn Hc;go_wp2_with fail;clear q1;go_roundw
         case rel=>exact ⟨k+1,(p:Int)-1,V4,by omega,by have:=HZ.out;omega,rfl,ht.out⟩
         case measure=>first|(simp [intOf];done)|(simp [intOf];omega)
    ·obtain rfl:k=n.o.length:=by omega
     obtain rfl:z = -1:=by omega
     obtain ⟨-,-,-,-,-,-,y6⟩:=qai hv.box;have HL:=zI (hh.out.trans hv.later);have HP:=zI hv.at_.code;have gL:=zI (gq.out.trans (by rw [hE.out]));clear hz hv;go_wp2_with fail;go_ret;rw [gL.out];exact ⟨V.C,V.cc,rfl,HP.out,HL.out⟩
theorem qim:prog.stoodInHeld 48=false:=by kernel_rfl
theorem qin:prog.eqGuardType prog.depth 48=false:=by kernel_rfl
theorem qdZ (a b c d:Int) (w:Zp1):(binOp .eql 48 (.agg #[nQ iQ a,nQ iQ b,nQ iQ c,nQ iQ d]) (.agg #[nQ iQ a,nQ iQ b,nQ iQ c,nQ iQ d])).run prog w=.ok (.bool true) w:=by
 have g1:=qim;have g2:=qin;simp [go_sem,g1]
theorem qdA:prog.stoodInHeld 129=false:=by kernel_rfl
theorem qdB:prog.eqGuardType prog.depth 129=false:=by kernel_rfl
theorem qf2 (w:Zp1) (a b:Int):(binOp .neq 129 (.agg #[nQ iQ a,nQ iQ b]) (.agg #[nQ iQ a,nQ iQ b])).run prog w=.ok (.bool false) w:=by
 obtain ⟨i0,hi,_,_,_⟩:=info_parts qag;have hA:=run_equalIn_array (P:=prog) (w:=w) 9999 #[nQ iQ a,nQ iQ b] #[nQ iQ a,nQ iQ b] underlying129 hi;have h1:prog.cellsOf 3=1:=by kernel_rfl
 rw [h1] at hA;have g1:=qdA;have g2:=qdB;simp [go_sem];rw [hA];rw [show List.range 2=[0,1] from rfl];clear hA;simp [Op.eqItems,go_sem]
set_option maxRecDepth 100000 in
theorem qfH (C:Option Addr) (cc:Nat) (ps:List (Int × Int)) (W:Zp1) (hl:ps.length<=1048576) (hC:aW W C ps):
  Calls prog 27 #[sQ C ps.length cc] W λe w'=>∃D dc,e=.returned (sQ D ps.length dc)/\aW w' D ps/\Later W w':=by
 obtain ⟨i0,hi,ht,hw,hq⟩:=info_parts qf0;have HC:=zI hC;clear hC;go_in;go_wp2_with fail
 go_loopw [3,5,8] (λout _ i wr=>∃(k:Nat) (D:Option Addr) (dc:Nat),k<=ps.length/\i=nQ iQ (k:Int)/\out=sQ D k dc/\wr.ownsRow W.heap.size 129 2 (sQ D k dc) k (qa4 (ps.take k))/\Later W wr) (λ_ _ i _=>ps.length-(intOf i).toNat)
 case atStart=>exact ⟨0,none,0,Zt _,rfl,rfl,World.ownsRow_nil _ _ _ _,Later.refl _⟩
 case round=>
  obtain ⟨k,D,dc,hk,rfl,rfl,ho,hd⟩:=hrel
  by_cases hj:k<ps.length
  ·obtain ⟨b1,o1,rfl,-,c0,c1⟩:=(HC.out.below hd (lrZ _)) k hj
   have hT:qa4 (ps.take (k+1))=qa4 (ps.take k)++[nQ iQ ps[k].1,nQ iQ ps[k].2]:=by
    rw [Zb hj,qaz];rfl
   generalize ps[k]=pk at *;obtain ⟨kd,id⟩:=pk;simp only at c0 c1 hT;have k0:(0:Int)<=(k:Int):=by omega
   have k1:(k:Int)<(ps.length:Int):=by omega
   have hf:=(hd.alloc (.cells #[nQ iQ kd,nQ iQ id] 106)).alloc (.cells #[nQ iQ kd,nQ iQ id] 129);have hm:=qa8 (qa8 ho (.cells #[nQ iQ kd,nQ iQ id] 106)) (.cells #[nQ iQ kd,nQ iQ id] 129);have hs:=Below.size hd;have hv:=zI (λb (hb:(Zb1 D k dc).ownBlock=some b)=>(ho.lt b hb).1);obtain ⟨HT,hg,hn⟩:=zd3 hT hd hf;clear hT hd hf;clear ho;go_wp2_with (at_builtin;refine wpList_append_own_at _ rfl _ _ 66 rfl W.heap.size 129 i0 (.agg #[nQ iQ 0,nQ iQ 0]) 2 16 underlying66 hi ht hw hq rfl dZ _ _ _ rfl hm ⟨wr.heap.size+1,0,none⟩ 1 1 [nQ iQ kd,nQ iQ id] rfl rfl ?c1 (by intro u hu;simp at hu;rcases hu with rfl|rfl<;>rfl) (by unfold maxLen;omega) oZ ?c2 ?_)
   first|(case c1=>exact World.news_of_block (cs:=#[nQ iQ kd,nQ iQ id]) (t:=129) (fr:=(0,0)) (by rw [show wr.heap.size+1=(wr.alloc (.cells #[nQ iQ kd,nQ iQ id] 106)).heap.size from (Zh1 _ _).symm];exact heap_alloc_new _ _))|skip
   case c2=>simp;omega
   intro v' w' hc hgrow _ _;have hh:Later W w':=Below.grown hn.out hgrow soZ (λb hb=>hv.out b hb);have ha:w'.ownsRow W.heap.size 129 2 v' (k+1) (qa4 (ps.take (k+1))):=by rw [HT.out];exact hc
   obtain ⟨D2,d2,rfl⟩:=qa6 ha;obtain ⟨hr,he⟩:=zd2 hh ha;clear hh ha;clear hc hgrow hm c0 c1;go_wp2_with fail;go_roundw
   case rel=>exact ⟨k+1,D2,d2,by omega,by go_num,rfl,he.out,hr.out⟩
   case measure=>simp [intOf];omega
  ·obtain rfl:k=ps.length:=by omega
   rw [Zg] at ho
   have hP:aW wr D ps:=by
    obtain ⟨A,c,e,_,hp⟩:=aW.jB ho;injection e with e;subst e;exact hp
   obtain ⟨HP,hg⟩:=zd2 hP hd;clear hP hd;clear ho;go_wp2_with fail;go_ret;exact ⟨_,_,rfl,HP.out,hg.out⟩
set_option maxRecDepth 100000 in
theorem qh3 (C D:Option Addr) (cc dc:Nat) (ps:List (Int × Int)) (W:Zp1) (hl:ps.length<=1048576) (hC:aW W C ps) (hD:aW W D ps):
  Calls prog 26 #[sQ C ps.length cc,sQ D ps.length dc] W λe w'=>e=.returned (.bool true)/\Later W w':=by
 have hg:=qdA;have hf:=qdB;have hc:=qf2;obtain ⟨HC,HD⟩:=zd2 hC hD;clear hC hD;go_in;go_wp2_with fail
 go_loopw [5,13] (λ_ t wx=>∃k:Nat,k<=ps.length/\t=nQ iQ (k:Int)/\Later W wx) (λ_ t _=>ps.length-(intOf t).toNat)
 case atStart=>exact ⟨0,Zt _,rfl,Later.refl _⟩
 case round=>
  obtain ⟨k,hk,rfl,ha⟩:=hrel
  by_cases hb:k<ps.length
  ·obtain ⟨b1,o1,e1,-,c0,c1⟩:=(HC.out.later ha) k hb
   obtain ⟨b2,o2,e2,-,d0,d1⟩:=(HD.out.later ha) k hb;generalize ps[k]=pk at *;obtain ⟨kd,id⟩:=pk;simp only at c0 c1 d0 d1;have k0:(0:Int)<=(k:Int):=by omega
   have k1:(k:Int)<(ps.length:Int):=by omega
   have hd:=zI (λq=>ha.trans (Later.drewN (Later.refl wr) q));subst e1 e2;clear ha;go_wp2_with fail
   go_quiet (fail)
   go_wp2_with fail;go_roundw
   case rel=>exact ⟨k+1,by omega,by go_num,hd.out _⟩
   case measure=>simp [intOf];omega
  ·obtain rfl:k=ps.length:=by omega
   have he:=zI ha;clear ha;go_wp2_with fail;go_ret;exact ⟨rfl,he.out⟩
theorem kept_any (A N:Option Addr) (c d:Nat) (n:aA) (cap:Int) (W:Zp1) (hok:n.ok) (hch:Nt.check n=0) (hR:bC W A N n) (hd:n.o.length<=d) (h12:n.o.length<=12):
  Calls prog 10 #[.agg #[sQ A n.inn.length c,sQ N n.o.length d],nQ iQ cap] W λe w'=>∃K kc er,e=.returned (.tuple #[sQ K (Gr.dR n 3 cap).length kc,nQ iQ er])/\Ints iQ w' K (Gr.dR n 3 cap)/\Later W w':=by
 refine (qbz A N c d n cap W hok hR hd h12).mono ?_;have hk:Gr.dR n 3 cap=(Gr.kL n cap).getD []:=by unfold Gr.dR;rw [inZ dZ,inZ dZ]
 rintro e w' ⟨hl,⟨h0,-⟩|⟨-,hf,rfl⟩|⟨-,kept,K,kc,hf,rfl,hI⟩⟩
 ·exact absurd hch h0
 ·rw [hk,hf]
  exact ⟨none,0,26,rfl,(λj hj=>absurd hj sZ),hl⟩
 ·rw [hk,hf]
  exact ⟨K,kc,0,rfl,hI,hl⟩
set_option maxRecDepth 100000 in
theorem qe0 (A N C:Option Addr) (c d cc:Nat) (n:aA) (cap:Int) (r:Gr.Pl) (er:Int) (W:Zp1) (hok:n.ok) (hch:Nt.check n=0) (hR:bC W A N n) (hd:n.o.length<=d) (h12:n.o.length<=12)
  (hcap : -9223372036854775808<=cap/\cap<=9223372036854775807) (hm:Gr.aM n 4 cap=(r,er)) (hC:aW W C r.code):
  Calls prog 21 #[.agg #[sQ A n.inn.length c,sQ N n.o.length d],nQ iQ cap,.agg #[nQ iQ r.pl,sQ C r.code.length cc,nQ iQ r.pk,nQ iQ r.co,nQ iQ r.ag,nQ iQ r.hi],nQ iQ er] W λe w'=>e=.returned (.bool true)/\Later W w':=by
 have hZ:Later W (W.alloc (.cells #[sQ A n.inn.length c,sQ N n.o.length d] 26)):=(Later.refl W).alloc _;have hD:Later (W.alloc (.cells #[sQ A n.inn.length c,sQ N n.o.length d] 26)) ((W.alloc (.cells #[sQ A n.inn.length c,sQ N n.o.length d] 26)).alloc (.cells #[nQ iQ r.pl,sQ C r.code.length cc,nQ iQ r.pk,nQ iQ r.co,nQ iQ r.ag,nQ iQ r.hi] 50)):=(Later.refl _).alloc _;have hk:=hD.blk (Blk.new W 26 #[sQ A n.inn.length c,sQ N n.o.length d]);have hp:=Blk.new (W.alloc (.cells #[sQ A n.inn.length c,sQ N n.o.length d] 26)) 50 #[nQ iQ r.pl,sQ C r.code.length cc,nQ iQ r.pk,nQ iQ r.co,nQ iQ r.ag,nQ iQ r.hi];rw [Zh1] at hp;have hF:=hZ.trans hD;obtain ⟨mc1,mc2⟩:=Gr.make_chain hch h12 cap;rw [hm] at mc1 mc2;have hg:=Gr.oP (n:=n) (p:=4) (cap:=cap);rw [hm] at hg;simp only at hg
 have h8:r.code.length<=1048576:=by
  by_cases h0:er=0
  ·rw [(hg h0).2.2.2.1]
   have:=Gr.qT hch h12 4 cap;omega
  ·have:=Gr.make_bad (n:=n) (p:=4) (cap:=cap) (by rw [hm];exact h0)
   rw [hm] at this;simp only at this;rw [this];simp [Gr.fK]
 have he:=λ(Y:Zp1) (h:Later W Y)=>qeL A N C c d cc n r.code cap Y hok (hR.below h (lrZ _)) hd oZ hcap h8 (hC.below h (lrZ _))
 unfold wG qi3 at he;obtain ⟨h4,HR,Hk,Hp,hw,h1,hq,HC,hj⟩:=zd9 hok hR hk hp hF hg he hC mc1;have hs:=zI mc2;clear hok hR hk hp hF hg he hC mc1 mc2;clear hZ hD hm;go_in;go_wp2_with fail;generalize (W.alloc (.cells #[sQ A n.inn.length c,sQ N n.o.length d] 26)).alloc (.cells #[nQ iQ r.pl,sQ C r.code.length cc,nQ iQ r.pk,nQ iQ r.co,nQ iQ r.ag,nQ iQ r.hi] 50)=W1 at *;refine (qcc A N c d n W1 h4.out (HR.out.below hw.out (lrZ _)) hd oZ).mono ?_;rintro e W2 ⟨hn,⟨-,hu,A1,c1,A2,c2,rfl,hI,hP,h5,-⟩|⟨-,hu,rfl⟩|⟨h0,-⟩⟩
 rotate_left
 ·have h2:=hj.out hu
  injection h2 with h2 h3
  subst h2 h3;have ho:=hw.out.trans (show Later W1 W2 from hn);have p0:W2.cell? ⟨W.heap.size+1,0,none⟩=some (nQ iQ 0):=((show Later W1 W2 from hn).blk Hp.out).cell 0;have h9:=zI ho;clear ho;clear hn hu;go_wp2_with fail;go_ret;exact ⟨rfl,h9.out⟩
 ·exact absurd hch h0
 have hb:Later W1 W2:=hn;have ho:=hw.out.trans hb;have hH:=hb.blk Hk.out;have hM:=hb.blk Hp.out;obtain ⟨m1,m2⟩:=hs.out hu;have q2:(Nt.aR n).length=n.o.length:=by unfold Nt.aR;rw [List.length_map,Rt.bW hch]
 have q1:(Nt.aU n).length=n.o.length+1:=by unfold Nt.aU;rw [List.length_cons,List.length_map,Rt.bW hch]
 have ha:Later W2 (W2.alloc (.cells #[sQ A1 (n.o.length+1) c1,sQ A2 n.o.length c2] 95)):=(Later.refl _).alloc _;have hU:=Blk.new W2 95 #[sQ A1 (n.o.length+1) c1,sQ A2 n.o.length c2];have ht:=λ(Y:Zp1) (h:Later W2 Y)=>qfE A1 A2 c1 c2 n.o.length (Nt.aU n) (Nt.aR n) cap Y q2 q1 oZ h5 (hI.below h (lrZ _)) (hP.below h (lrZ _))
 unfold qii at ht;generalize Ch.fB (Nt.aU n) (Nt.aR n) cap=lr at *;obtain ⟨lv,le⟩:=lr;simp only at m1 m2 ht;have hX:=ho.trans ha;have hJ:=ha.blk hH;have hS:=ha.blk hM;have hf:=ha;obtain ⟨hL,hT,hV,Ha,hW,hc,hO,hQ⟩:=zd8 hX hJ hS hU ht hf m1 m2;clear hX hJ hS hU ht hf m1 m2;clear hn hb ho hH hM q1 q2 hj hs Hk Hp hw hI hP ha;go_wp2_with fail;generalize W2.alloc (.cells #[sQ A1 (n.o.length+1) c1,sQ A2 n.o.length c2] 95)=W3 at *;refine (hW.out W3 hc.out).mono ?_;rintro e W4 ⟨rfl,hx⟩;have hl:=hL.out.trans hx;have hv:=hx.blk hT.out;have hr:=hx.blk hV.out;clear hW hT hV hL Ha hx hc
 by_cases h0:le=0
 rotate_left
 ·have h2:=hO.out h0
  injection h2 with h2 h3
  subst h2 h3;have p0:W4.cell? ⟨W.heap.size+1,0,none⟩=some (nQ iQ 0):=hr.cell 0;have Hc:(er != 0)=true:=by simp [h0]
  have hB:=zI hl;clear hl;clear hv hr h0;go_wp2_with fail;go_ret;exact ⟨rfl,hB.out⟩
 subst h0;obtain ⟨pk,ag,hi,h2⟩:=hQ.out rfl;injection h2 with h2 h3
 have hg:=h1.out h3;obtain ⟨-,hE,-,-,-,-,hh⟩:=hg;have hG:r.co=lv:=by rw [h2]
 subst h3;have he:=hq.out W4 hl;rw [hh] at he;simp only at he;have u0:W4.cell? ⟨W.heap.size,0,none⟩=some (sQ A n.inn.length c):=hv.cell 0;have u1:W4.cell? ⟨W.heap.size,1,none⟩=some (sQ N n.o.length d):=hv.cell 1;have p1:W4.cell? ⟨W.heap.size+1,1,none⟩=some (sQ C r.code.length cc):=hr.cell 1;have h7:=zI hr;clear hr h2 hO hQ hq;obtain ⟨hq,hB,h6,hy⟩:=zd4 he hl hE hG;clear he hl hE hG;clear hv hh;go_wp2_with fail;refine hq.out.mono ?_;rintro e W5 ⟨rfl,hY⟩;have hK:=Blk.new W5 48 #[nQ iQ r.pk,nQ iQ r.co,nQ iQ r.ag,nQ iQ r.hi];have hz:=hY.alloc (.cells #[nQ iQ r.pk,nQ iQ r.co,nQ iQ r.ag,nQ iQ r.hi] 48);have hN:=hB.out.trans hz;obtain ⟨⟨s0,s1,s2,s3⟩,-⟩:=qaC hK;obtain ⟨⟨v0,v1,v2,v3,v4,v5⟩,-⟩:=qah (hz.blk h7.out);have hA:=qdZ r.pk r.co r.ag r.hi;rw [h6.out] at v0;rw [hy.out] at s1 v3 hA;have Hb:=zI hN;clear hN;clear hY hz hK u0 u1 p1 hq;rw [hy.out];go_upto_region 9 with fail;rw [hy.out] at *;generalize W5.alloc (.cells #[nQ iQ r.pk,nQ iQ lv,nQ iQ r.ag,nQ iQ r.hi] 48)=W6 at *;generalize W5.heap.size=sb at *;go_wp2_with fail;go_ret;exact ⟨rfl,Hb.out⟩
def aP (h m:Nat) (w:Zp1) (A:Option Addr) (l:List Int):Prop:=Ints iQ w A l/\(l≠[]->∀a,A=some a->¬(h<=a.block/\a.block<=m))
theorem aP.later {h m:Nat} {w w':Zp1} {A:Option Addr} {l:List Int} (k:aP h m w A l) (hl:Later w w'):aP h m w' A l:=⟨k.1.below hl (lrZ _),k.2⟩
theorem aP.set {h m:Nat} {w:Zp1} {A:Option Addr} {l:List Int} (k:aP h m w A l) {g:Nat} (hg:h<=g/\g<=m) (i:Nat) (u:Value):aP h m (w.setCell ⟨g,i,none⟩ u) A l:=by
 refine ⟨?_,k.2⟩
 by_cases hl:l=[]
 ·subst hl;exact λj hj=>absurd hj sZ
 ·exact ((Fr.refl (λb=>h<=b/\b<=m) w).setCell (p:=⟨g,i,none⟩) (λ_=>hg) u).ints k.1 (λa e=>k.2 hl a e)
theorem aP.old {h m:Nat} {w:Zp1} {A:Option Addr} {l:List Int} (k:Ints iQ w A l) (hh:w.heap.size<=h):aP h m w A l:=by
 refine ⟨k,λhl a e q=>?_⟩
 match l,hl with
 | x::r,_=>
  obtain ⟨b,off,e2,hb,_⟩:=k 0 sZ;rw [e] at e2;injection e2 with e2
  subst e2;simp only at q;omega
theorem aP.new {h m:Nat} {w:Zp1} {A:Option Addr} {l:List Int} (k:Ints iQ w A l) {B:Nat} (hA:∀a,A=some a->B<=a.block) (hB:m<B):aP h m w A l:=
 ⟨k,λ_ a e q=>by have:=hA a e;omega⟩
def RfV.Off (V:RfV) (x:RfS) (g:Nat):Prop:=(x.there≠[]->∀a,V.Th=some a->a.block≠g)/\(x.saved≠[]->∀a,V.Sa=some a->a.block≠g)/\(x.aF≠[]->∀a,V.Gr=some a->a.block≠g)
def qa5:Array Value:=#[sQ none 0 0,sQ none 0 0,sQ none 0 0,sQ none 0 0,nQ iQ 0,nQ iQ 0,sQ none 0 0,sQ none 0 0,sQ none 0 0,nQ iQ 0,nQ iQ 0,nQ iQ 0,nQ iQ 0]
structure RfB (h g6 g8:Nat) (F:RfF) (V:RfV) (n:aA) (c:CkN) (x:RfS) (V2:RfV) (y:RfS) (w0 w:Zp1):Prop where
 hh:w0.heap.size<=h
 h6:h<g6
 h8:g6<g8
 later:Later w0 w
 b3:Blk w h 125 (F.cells V n c x)
 b6:Blk w g6 125 qa5
 b8:Blk w g8 125 (F.cells V2 n c y)
 fix:F.Fix n c w0
 old:V.At x w0
 th:aP g6 g8 w V2.Th y.there
 sa:aP g6 g8 w V2.Sa y.saved
 gr:aP g6 g8 w V2.Gr y.aF
 off:∀g,g<w0.heap.size->V.Off x g->V2.Off y g
section
variable {h g6 g8:Nat} {F:RfF} {V V2:RfV} {n:aA} {c:CkN} {x y:RfS} {w0 w w':Zp1}
theorem RfB.to_later (k:RfB h g6 g8 F V n c x V2 y w0 w) (hl:Later w w'):RfB h g6 g8 F V n c x V2 y w0 w':=
 ⟨k.hh,k.h6,k.h8,k.later.trans hl,hl.blk k.b3,hl.blk k.b6,hl.blk k.b8,k.fix,k.old,k.th.later hl,k.sa.later hl,k.gr.later hl,k.off⟩
theorem RfB.tV (k:RfB h g6 g8 F V n c x V2 y w0 w):F.Fix n c w:=k.fix.later k.later
theorem RfB.atx (k:RfB h g6 g8 F V n c x V2 y w0 w):V.At x w:=k.old.later k.later
theorem RfB.aty (k:RfB h g6 g8 F V n c x V2 y w0 w):V2.At y w:=⟨k.th.1,k.sa.1,k.gr.1⟩
theorem RfB.put (k:RfB h g6 g8 F V n c x V2 y w0 w) (i:Nat) (u:Value):Later w0 (w.setCell ⟨g8,i,none⟩ u)/\Blk (w.setCell ⟨g8,i,none⟩ u) h 125 (F.cells V n c x)/\Blk (w.setCell ⟨g8,i,none⟩ u) g6 125 qa5:=by
 have:=k.hh;have:=k.h6;have:=k.h8;exact ⟨k.later.set (p:=⟨g8,i,none⟩) (by simp only;omega) u,k.b3.far (p:=⟨g8,i,none⟩) (by simp only;omega) u,k.b6.far (p:=⟨g8,i,none⟩) (by simp only;omega) u⟩
theorem RfB.there (k:RfB h g6 g8 F V n c x V2 y w0 w) (A:Option Addr) (m:Nat) (l:List Int) (hI:aP g6 g8 w A l) (hA:∀a,A=some a->g8<a.block):RfB h g6 g8 F V n c x { V2 with Th:=A,ct:=m } { y with there:=l } w0 (w.setCell ⟨g8,6,none⟩ (sQ A l.length m)):=
 ⟨k.hh,k.h6,k.h8,(k.put 6 _).1,(k.put 6 _).2.1,(k.put 6 _).2.2,k.b8.aO 6 _,k.fix,k.old,hI.set ⟨Nat.le_of_lt k.h8,lrZ _⟩ 6 _,k.sa.set ⟨Nat.le_of_lt k.h8,lrZ _⟩ 6 _,k.gr.set ⟨Nat.le_of_lt k.h8,lrZ _⟩ 6 _,λg h q=>⟨(λ_ a e=>by have:=hA a e;have:=k.hh;have:=k.h6;have:=k.h8;omega),(k.off g h q).2.1,(k.off g h q).2.2⟩⟩
theorem RfB.saved (k:RfB h g6 g8 F V n c x V2 y w0 w) (A:Option Addr) (m:Nat) (l:List Int) (hI:aP g6 g8 w A l) (hA:∀a,A=some a->g8<a.block):RfB h g6 g8 F V n c x { V2 with Sa:=A,cs:=m } { y with saved:=l } w0 (w.setCell ⟨g8,7,none⟩ (sQ A l.length m)):=
 ⟨k.hh,k.h6,k.h8,(k.put 7 _).1,(k.put 7 _).2.1,(k.put 7 _).2.2,k.b8.aO 7 _,k.fix,k.old,k.th.set ⟨Nat.le_of_lt k.h8,lrZ _⟩ 7 _,hI.set ⟨Nat.le_of_lt k.h8,lrZ _⟩ 7 _,k.gr.set ⟨Nat.le_of_lt k.h8,lrZ _⟩ 7 _,λg h q=>⟨(k.off g h q).1,(λ_ a e=>by have:=hA a e;have:=k.hh;have:=k.h6;have:=k.h8;omega),(k.off g h q).2.2⟩⟩
theorem RfB.aF (k:RfB h g6 g8 F V n c x V2 y w0 w) (A:Option Addr) (m:Nat) (l:List Int) (hI:aP g6 g8 w A l) (hA:∀a,A=some a->g8<a.block):RfB h g6 g8 F V n c x { V2 with Gr:=A,cg:=m } { y with aF:=l } w0 (w.setCell ⟨g8,8,none⟩ (sQ A l.length m)):=
 ⟨k.hh,k.h6,k.h8,(k.put 8 _).1,(k.put 8 _).2.1,(k.put 8 _).2.2,k.b8.aO 8 _,k.fix,k.old,k.th.set ⟨Nat.le_of_lt k.h8,lrZ _⟩ 8 _,k.sa.set ⟨Nat.le_of_lt k.h8,lrZ _⟩ 8 _,hI.set ⟨Nat.le_of_lt k.h8,lrZ _⟩ 8 _,λg h q=>⟨(k.off g h q).1,(k.off g h q).2.1,(λ_ a e=>by have:=hA a e;have:=k.hh;have:=k.h6;have:=k.h8;omega)⟩⟩
theorem RfB.em (k:RfB h g6 g8 F V n c x V2 y w0 w) (z:Int):RfB h g6 g8 F V n c x V2 { y with em:=z } w0 (w.setCell ⟨g8,9,none⟩ (nQ iQ z)):=
 ⟨k.hh,k.h6,k.h8,(k.put 9 _).1,(k.put 9 _).2.1,(k.put 9 _).2.2,k.b8.aO 9 _,k.fix,k.old,k.th.set ⟨Nat.le_of_lt k.h8,lrZ _⟩ 9 _,k.sa.set ⟨Nat.le_of_lt k.h8,lrZ _⟩ 9 _,k.gr.set ⟨Nat.le_of_lt k.h8,lrZ _⟩ 9 _,k.off⟩
theorem RfB.sd (k:RfB h g6 g8 F V n c x V2 y w0 w) (z:Int):RfB h g6 g8 F V n c x V2 { y with sd:=z } w0 (w.setCell ⟨g8,10,none⟩ (nQ iQ z)):=
 ⟨k.hh,k.h6,k.h8,(k.put 10 _).1,(k.put 10 _).2.1,(k.put 10 _).2.2,k.b8.aO 10 _,k.fix,k.old,k.th.set ⟨Nat.le_of_lt k.h8,lrZ _⟩ 10 _,k.sa.set ⟨Nat.le_of_lt k.h8,lrZ _⟩ 10 _,k.gr.set ⟨Nat.le_of_lt k.h8,lrZ _⟩ 10 _,k.off⟩
theorem RfB.done (k:RfB h g6 g8 F V n c x V2 y w0 w) (z:Int):RfB h g6 g8 F V n c x V2 { y with done:=z } w0 (w.setCell ⟨g8,11,none⟩ (nQ iQ z)):=
 ⟨k.hh,k.h6,k.h8,(k.put 11 _).1,(k.put 11 _).2.1,(k.put 11 _).2.2,k.b8.aO 11 _,k.fix,k.old,k.th.set ⟨Nat.le_of_lt k.h8,lrZ _⟩ 11 _,k.sa.set ⟨Nat.le_of_lt k.h8,lrZ _⟩ 11 _,k.gr.set ⟨Nat.le_of_lt k.h8,lrZ _⟩ 11 _,k.off⟩
theorem RfB.aB (k:RfB h g6 g8 F V n c x V2 y w0 w) (z:Int):RfB h g6 g8 F V n c x V2 { y with aB:=z } w0 (w.setCell ⟨g8,12,none⟩ (nQ iQ z)):=
 ⟨k.hh,k.h6,k.h8,(k.put 12 _).1,(k.put 12 _).2.1,(k.put 12 _).2.2,k.b8.aO 12 _,k.fix,k.old,k.th.set ⟨Nat.le_of_lt k.h8,lrZ _⟩ 12 _,k.sa.set ⟨Nat.le_of_lt k.h8,lrZ _⟩ 12 _,k.gr.set ⟨Nat.le_of_lt k.h8,lrZ _⟩ 12 _,k.off⟩
end
theorem qa0 {w:Zp1} {g:Nat} {t:TypeId} {cs:Array Value} (h:Blk w g t cs):w.frozen? ⟨g,0,none⟩=false/\w.frozen? ⟨g,1,none⟩=false/\w.frozen? ⟨g,2,none⟩=false/\w.frozen? ⟨g,3,none⟩=false/\w.frozen? ⟨g,4,none⟩=false/\w.frozen? ⟨g,5,none⟩=false/\w.frozen? ⟨g,6,none⟩=false/\w.frozen? ⟨g,7,none⟩=false/\w.frozen? ⟨g,8,none⟩=false/\w.frozen? ⟨g,9,none⟩=false/\w.frozen? ⟨g,10,none⟩=false/\w.frozen? ⟨g,11,none⟩=false/\w.frozen? ⟨g,12,none⟩=false:=
 ⟨h.frozen 0,h.frozen 1,h.frozen 2,h.frozen 3,h.frozen 4,h.frozen 5,h.frozen 6,h.frozen 7,h.frozen 8,h.frozen 9,h.frozen 10,h.frozen 11,h.frozen 12⟩
theorem qa3 {w:Zp1} {g:Nat} {t:TypeId} (h:Blk w g t qa5):w.cell? ⟨g,0,none⟩=some (sQ none 0 0)/\w.cell? ⟨g,1,none⟩=some (sQ none 0 0)/\w.cell? ⟨g,2,none⟩=some (sQ none 0 0)/\w.cell? ⟨g,3,none⟩=some (sQ none 0 0)/\w.cell? ⟨g,4,none⟩=some (nQ iQ 0)/\w.cell? ⟨g,5,none⟩=some (nQ iQ 0)/\w.cell? ⟨g,6,none⟩=some (sQ none 0 0)/\w.cell? ⟨g,7,none⟩=some (sQ none 0 0)/\w.cell? ⟨g,8,none⟩=some (sQ none 0 0)/\w.cell? ⟨g,9,none⟩=some (nQ iQ 0)/\w.cell? ⟨g,10,none⟩=some (nQ iQ 0)/\w.cell? ⟨g,11,none⟩=some (nQ iQ 0)/\w.cell? ⟨g,12,none⟩=some (nQ iQ 0):=by
 refine ⟨?_,?_,?_,?_,?_,?_,?_,?_,?_,?_,?_,?_,?_⟩<;>rw [h.cell]<;>rfl
theorem qfI {W w:Zp1} {g:Nat} (h:Later W w) (hg:W.heap.size<=g) (a0 a1 a2 a3 a4 a5 a6 a7 a8 a9 a10 a11 a12:Value):Later W (((((((((((((w.setCell ⟨g,0,none⟩ a0).setCell ⟨g,1,none⟩ a1).setCell ⟨g,2,none⟩ a2).setCell ⟨g,3,none⟩ a3).setCell ⟨g,4,none⟩ a4).setCell ⟨g,5,none⟩ a5).setCell ⟨g,6,none⟩ a6).setCell ⟨g,7,none⟩ a7).setCell ⟨g,8,none⟩ a8).setCell ⟨g,9,none⟩ a9).setCell ⟨g,10,none⟩ a10).setCell ⟨g,11,none⟩ a11).setCell ⟨g,12,none⟩ a12):=
 ((((((((((((h.set (p:=⟨g,0,none⟩) hg a0).set (p:=⟨g,1,none⟩) hg a1).set (p:=⟨g,2,none⟩) hg a2).set (p:=⟨g,3,none⟩) hg a3).set (p:=⟨g,4,none⟩) hg a4).set (p:=⟨g,5,none⟩) hg a5).set (p:=⟨g,6,none⟩) hg a6).set (p:=⟨g,7,none⟩) hg a7).set (p:=⟨g,8,none⟩) hg a8).set (p:=⟨g,9,none⟩) hg a9).set (p:=⟨g,10,none⟩) hg a10).set (p:=⟨g,11,none⟩) hg a11).set (p:=⟨g,12,none⟩) hg a12
theorem RfB.bM {h g6 g8:Nat} {F:RfF} {V V2:RfV} {n:aA} {c:CkN} {x y:RfS} {w0 w:Zp1} (k:RfB h g6 g8 F V n c x V2 y w0 w) (a0 a1 a2 a3 a4 a5 a6 a7 a8 a9 a10 a11 a12:Value):V2.At y (((((((((((((w.setCell ⟨g6,0,none⟩ a0).setCell ⟨g6,1,none⟩ a1).setCell ⟨g6,2,none⟩ a2).setCell ⟨g6,3,none⟩ a3).setCell ⟨g6,4,none⟩ a4).setCell ⟨g6,5,none⟩ a5).setCell ⟨g6,6,none⟩ a6).setCell ⟨g6,7,none⟩ a7).setCell ⟨g6,8,none⟩ a8).setCell ⟨g6,9,none⟩ a9).setCell ⟨g6,10,none⟩ a10).setCell ⟨g6,11,none⟩ a11).setCell ⟨g6,12,none⟩ a12)/\Later w0 (((((((((((((w.setCell ⟨g6,0,none⟩ a0).setCell ⟨g6,1,none⟩ a1).setCell ⟨g6,2,none⟩ a2).setCell ⟨g6,3,none⟩ a3).setCell ⟨g6,4,none⟩ a4).setCell ⟨g6,5,none⟩ a5).setCell ⟨g6,6,none⟩ a6).setCell ⟨g6,7,none⟩ a7).setCell ⟨g6,8,none⟩ a8).setCell ⟨g6,9,none⟩ a9).setCell ⟨g6,10,none⟩ a10).setCell ⟨g6,11,none⟩ a11).setCell ⟨g6,12,none⟩ a12):=by
 have H:g6<=g6/\g6<=g8:=⟨lrZ _,Nat.le_of_lt k.h8⟩
 exact ⟨⟨(((((((((((((k.th.set H 0 a0).set H 1 a1).set H 2 a2).set H 3 a3).set H 4 a4).set H 5 a5).set H 6 a6).set H 7 a7).set H 8 a8).set H 9 a9).set H 10 a10).set H 11 a11).set H 12 a12).1,(((((((((((((k.sa.set H 0 a0).set H 1 a1).set H 2 a2).set H 3 a3).set H 4 a4).set H 5 a5).set H 6 a6).set H 7 a7).set H 8 a8).set H 9 a9).set H 10 a10).set H 11 a11).set H 12 a12).1,(((((((((((((k.gr.set H 0 a0).set H 1 a1).set H 2 a2).set H 3 a3).set H 4 a4).set H 5 a5).set H 6 a6).set H 7 a7).set H 8 a8).set H 9 a9).set H 10 a10).set H 11 a11).set H 12 a12).1⟩,qfI k.later (by have:=k.hh;have:=k.h6;omega) _ _ _ _ _ _ _ _ _ _ _ _ _⟩
def bG (F:RfF) (V:RfV) (n:aA) (c:CkN) (x:RfS) (k id:Int) (w:Zp1) (e:Ending) (w':Zp1):Prop:=
 ∃V':RfV,e=.returned (.tuple #[.agg (F.cells V' n c (Rf.do_ c x k id).1),nQ iQ (Rf.do_ c x k id).2])/\V'.At (Rf.do_ c x k id).1 w'/\Later w w'/\∀g,g<w.heap.size->V.Off x g->V'.Off (Rf.do_ c x k id).1 g
theorem bG.of {F:RfF} {V:RfV} {n:aA} {c:CkN} {x x':RfS} {k id er:Int} {w w':Zp1} (V':RfV) (hd:Rf.do_ c x k id=(x',er)) (hA:V'.At x' w') (hl:Later w w') (ho:∀g,g<w.heap.size->V.Off x g->V'.Off x' g):bG F V n c x k id w (.returned (.tuple #[.agg (F.cells V' n c x'),nQ iQ er])) w':=⟨V',by rw [hd],by rw [hd];exact hA,hl,by rw [hd];exact ho⟩
set_option maxRecDepth 100000 in
theorem qio (F:RfF) (V:RfV) (n:aA) (c:CkN) (x:RfS) (w:Zp1) (hC:RfC n c) (hG:Rf.GoodS c x) (hF:F.Fix n c w) (hV:V.At x w) (hdn:0<=x.done/\x.done<=1000) (k id:Int) (hr:Cd.right (k,id)=true) (hbig:(c.words.length:Int)<=id):
  Calls prog 64 #[.agg (F.cells V n c x),nQ iQ k,nQ iQ id] w (bG F V n c x k id w):=by
 have hc:=hC.wl;have hj:=hC.nl;obtain ⟨he,hi⟩:=Rf.eX hr;have hd:Later w ((w.alloc (.cells (F.cells V n c x) 125)).alloc (.cells qa5 125)):=((Later.refl w).alloc _).alloc _;have hb:Blk ((w.alloc (.cells (F.cells V n c x) 125)).alloc (.cells qa5 125)) w.heap.size 125 (F.cells V n c x):=(Blk.new _ _ _).alloc _;have ha:=Blk.new (w.alloc (.cells (F.cells V n c x) 125)) 125 qa5;rw [Zh1] at ha;obtain ⟨y0,y1,y2,y3,y4,y5,y6,y7,y8,y9,y10,y11,y12⟩:=RfF.aC hb;obtain ⟨f0,f1,f2,f3,f4,f5,f6,f7,f8,f9,f10,f11,f12⟩:=qa0 ha;have HB:=zI (show Rf.do_ c x k id=if (c.words.length:Int)<=id then (x,10) else if Rf.bI c x k id=false then (x,24) else if c.cap<Rf.sum c (Rf.step c x k id) then (x,25) else (Rf.fin c (Rf.step c x k id) k id,0) from rfl);have HE:=zI (HB.out.trans (ipZ hbig));have d1:decide ((n.o.length:Int)<id)=true:=by simp;omega
 obtain ⟨HC,HG,HF,HV,hf,hh,hk,hg⟩:=zd8 hC hG hF hV hb ha hd hc;clear hC hG hF hV hb ha hd hc;clear hbig hr;unfold qa5 at *;go_in;go_wp2_with fail;refine Zk1 (v:=.tuple #[.agg (F.cells V n c x),nQ iQ 10]) (by simp [results,results64,go_sem];rfl) rfl ?_;exact bG.of V HE.out (HV.out.later (((Later.refl w).alloc _).alloc _)) (((Later.refl w).alloc _).alloc _) (λ_ _ q=>q)
set_option maxRecDepth 100000 in
theorem qip (F:RfF) (V:RfV) (n:aA) (c:CkN) (x:RfS) (w:Zp1) (hC:RfC n c) (hG:Rf.GoodS c x) (hF:F.Fix n c w) (hV:V.At x w) (hdn:0<=x.done/\x.done<=1000) (id:Int) (hr:Cd.right (1,id)=true) (hbig:¬(c.words.length:Int)<=id):
  Calls prog 64 #[.agg (F.cells V n c x),nQ iQ 1,nQ iQ id] w (bG F V n c x 1 id w):=by
 have hw:=hC.wl;have hP:=hC.nl;obtain ⟨hq,-⟩:=Rf.eX hr;have hk:Later w ((w.alloc (.cells (F.cells V n c x) 125)).alloc (.cells qa5 125)):=((Later.refl w).alloc _).alloc _;have ht:Blk ((w.alloc (.cells (F.cells V n c x) 125)).alloc (.cells qa5 125)) w.heap.size 125 (F.cells V n c x):=(Blk.new _ _ _).alloc _;have hp:=Blk.new (w.alloc (.cells (F.cells V n c x) 125)) 125 qa5;rw [Zh1] at hp;obtain ⟨y0,y1,y2,y3,y4,y5,y6,y7,y8,y9,y10,y11,y12⟩:=RfF.aC ht;obtain ⟨f0,f1,f2,f3,f4,f5,f6,f7,f8,f9,f10,f11,f12⟩:=qa0 hp;have HB:=zI (show Rf.do_ c x 1 id=if (c.words.length:Int)<=id then (x,10) else if Rf.bI c x 1 id=false then (x,24) else if c.cap<Rf.sum c (Rf.step c x 1 id) then (x,25) else (Rf.fin c (Rf.step c x 1 id) 1 id,0) from rfl);have d1:decide ((n.o.length:Int)<id)=false:=by simp;omega
 have hn:id<c.words.length:=by omega
 have ho:=zI (HB.out.trans (inZ hbig));clear hbig HB;have hu:=Blk.new ((w.alloc (.cells (F.cells V n c x) 125)).alloc (.cells qa5 125)) 125 (F.cells V n c x);rw [Zh1,Zh1] at hu
 have hB:RfB w.heap.size (w.heap.size+1) (w.heap.size+1+1) F V n c x V x w (((w.alloc (.cells (F.cells V n c x) 125)).alloc (.cells qa5 125)).alloc (.cells (F.cells V n c x) 125)):=
  ⟨lrZ _,by omega,by omega,hk.alloc _,ht.alloc _,hp.alloc _,hu,hF,hV,(aP.old hV.there oZ).later (hk.alloc _),(aP.old hV.saved oZ).later (hk.alloc _),(aP.old hV.aF oZ).later (hk.alloc _),λ_ _ q=>q⟩
 have hB:RfB w.heap.size (w.heap.size+1) (w.heap.size+1+1) F V n c x V x w (((w.alloc (.cells (F.cells V n c x) 125)).alloc (.cells qa5 125)).alloc (.cells #[sQ F.A n.inn.length F.c,sQ F.N n.o.length F.d,sQ F.Wd c.words.length F.cw,sQ F.Or c.order.length F.co,nQ iQ c.aH,nQ iQ c.cap,sQ V.Th x.there.length V.ct,sQ V.Sa x.saved.length V.cs,sQ V.Gr x.aF.length V.cg,nQ iQ x.em,nQ iQ x.sd,nQ iQ x.done,nQ iQ x.aB] 125)):=hB;obtain ⟨g,hg⟩:∃g,w.heap.size=g:=⟨_,rfl⟩
 have hQ:w.heap.size<=g:=Nat.le_of_eq hg;unfold qa5 at *;obtain ⟨HC,HG,HF,HV,hL,hJ,hH,hK,hs⟩:=zd9 hC hG hF hV ht hp hu hk hw;obtain ⟨HB,Hg⟩:=zd2 hB hg;clear hC hG hF hV ht hp hu hk hw hB hg;clear f0 f1 f2 f3 f4 f5 f6 f7 f8 f9 f10 f11 f12;go_in;go_upto_region 4 with fail;clear y0 y1 y2 y3 y4 y5 y6 y7 y8 y9 y10 y11 y12 hL hJ hH hK;generalize (((w.alloc (.cells (F.cells V n c x) 125)).alloc (.cells #[sQ none 0 0,sQ none 0 0,sQ none 0 0,sQ none 0 0,nQ iQ 0,nQ iQ 0,sQ none 0 0,sQ none 0 0,sQ none 0 0,nQ iQ 0,nQ iQ 0,nQ iQ 0,nQ iQ 0] 125)).alloc (.cells #[sQ F.A n.inn.length F.c,sQ F.N n.o.length F.d,sQ F.Wd c.words.length F.cw,sQ F.Or c.order.length F.co,nQ iQ c.aH,nQ iQ c.cap,sQ V.Th x.there.length V.ct,sQ V.Sa x.saved.length V.cs,sQ V.Gr x.aF.length V.cg,nQ iQ x.em,nQ iQ x.sd,nQ iQ x.done,nQ iQ x.aB] 125))=w1 at *;rw [Hg.out] at HB ⊢;clear Hg hB;generalize g+1+1=g8 at *;generalize g+1=g6 at *;have hO:x.there.length<=1000:=by have:=HG.out.there.len;have:=hs.out;omega
 have hM:x.saved.length<=1000:=by have:=HG.out.saved.len;have:=hs.out;omega
 have hR:x.aF.length<=1000:=by have:=HG.out.aF.len;have:=hs.out;omega
 clear d1;have HL:=zI (show Rf.bI c x 1 id=((qaR x.saved id==false)&&(!qaR x.there id&&Rf.ready c x id)) from rfl);have hN:=zI (show Rf.GoodS c (Rf.step c x 1 id) from ⟨HG.out.there.with_ ⟨hq,hn⟩,HG.out.saved.with_ ⟨hq,hn⟩,HG.out.aF⟩);have hz:=Rf.fU hr dZ dZ;obtain ⟨m,hm⟩:∃m:Nat,id=((m+1:Nat):Int):=⟨(id-1).toNat,by omega⟩
 have hE:m<n.o.length:=by have:=hs.out;omega
 have hx:=zI (λ(W:Zp1) (h:Later w W)=>(show Calls prog 98 #[.agg (F.cells V n c x),nQ iQ id] W λe w'=>e=.returned (.bool (Rf.ready c x id))/\Later W w' from by rw [hm];exact qby F V n c x W HC.out HG.out (HF.out.later h) (HV.out.later h) m hE));clear hm hz;obtain ⟨-,-,-,-,-,-,y6,y7,-⟩:=RfF.aC HB.out.b3;go_wp2_with fail;refine (qaf V.Sa V.cs x.saved id w1 oZ HB.out.atx.saved).mono ?_;rintro e w2 ⟨rfl,rfl⟩;generalize qaR x.saved id=b1 at *;clear y6 y7;cases b1
 rotate_left
 ·have HE:=zI (ho.out.trans (ipZ (by rw [HL.out];simp)))
  obtain ⟨y0,y1,y2,y3,y4,y5,y6,y7,y8,y9,y10,y11,y12⟩:=RfF.aC HB.out.b3;obtain ⟨z0,z1,z2,z3,z4,z5,z6,z7,z8,z9,z10,z11,z12⟩:=qa3 HB.out.b6;obtain ⟨f0,f1,f2,f3,f4,f5,f6,f7,f8,f9,f10,f11,f12⟩:=qa0 HB.out.b6;go_wp2_with fail;refine Zk1 (v:=.tuple #[.agg (F.cells V n c x),nQ iQ 24]) (by simp [results,results64,go_sem,z0,z1,z2,z3,z4,z5,z6,z7,z8,z9,z10,z11,z12];rfl) rfl ?_;exact bG.of V HE.out (HV.out.later (HB.out.bM _ _ _ _ _ _ _ _ _ _ _ _ _).2) (HB.out.bM _ _ _ _ _ _ _ _ _ _ _ _ _).2 (λ_ _ q=>q)
 obtain ⟨-,-,-,-,-,-,y6,-⟩:=RfF.aC HB.out.b3;go_wp2_with fail;refine (qaf V.Th V.ct x.there id w1 oZ HB.out.atx.there).mono ?_;rintro e w2 ⟨rfl,rfl⟩;generalize qaR x.there id=b2 at *;clear y6;cases b2
 rotate_left
 ·have HE:=zI (ho.out.trans (ipZ (by rw [HL.out];simp)))
  obtain ⟨y0,y1,y2,y3,y4,y5,y6,y7,y8,y9,y10,y11,y12⟩:=RfF.aC HB.out.b3;obtain ⟨z0,z1,z2,z3,z4,z5,z6,z7,z8,z9,z10,z11,z12⟩:=qa3 HB.out.b6;obtain ⟨f0,f1,f2,f3,f4,f5,f6,f7,f8,f9,f10,f11,f12⟩:=qa0 HB.out.b6;go_wp2_with fail;refine Zk1 (v:=.tuple #[.agg (F.cells V n c x),nQ iQ 24]) (by simp [results,results64,go_sem,z0,z1,z2,z3,z4,z5,z6,z7,z8,z9,z10,z11,z12];rfl) rfl ?_;exact bG.of V HE.out (HV.out.later (HB.out.bM _ _ _ _ _ _ _ _ _ _ _ _ _).2) (HB.out.bM _ _ _ _ _ _ _ _ _ _ _ _ _).2 (λ_ _ q=>q)
 obtain ⟨y0,y1,y2,y3,y4,y5,y6,y7,y8,y9,y10,y11,y12⟩:=RfF.aC HB.out.b3;go_wp2_with fail;refine (hx.out w1 HB.out.later).mono ?_;rintro e w3 ⟨rfl,hA⟩;have hh:=zI (HB.out.to_later hA);clear hA y0 y1 y2 y3 y4 y5 y6 y7 y8 y9 y10 y11 y12;generalize Rf.ready c x id=b3 at *;cases b3
 ·have HE:=zI (ho.out.trans (ipZ (by rw [HL.out];simp)))
  obtain ⟨y0,y1,y2,y3,y4,y5,y6,y7,y8,y9,y10,y11,y12⟩:=RfF.aC hh.out.b3;obtain ⟨z0,z1,z2,z3,z4,z5,z6,z7,z8,z9,z10,z11,z12⟩:=qa3 hh.out.b6;obtain ⟨f0,f1,f2,f3,f4,f5,f6,f7,f8,f9,f10,f11,f12⟩:=qa0 hh.out.b6;go_wp2_with fail;refine Zk1 (v:=.tuple #[.agg (F.cells V n c x),nQ iQ 24]) (by simp [results,results64,go_sem,z0,z1,z2,z3,z4,z5,z6,z7,z8,z9,z10,z11,z12];rfl) rfl ?_;exact bG.of V HE.out (HV.out.later (hh.out.bM _ _ _ _ _ _ _ _ _ _ _ _ _).2) (hh.out.bM _ _ _ _ _ _ _ _ _ _ _ _ _).2 (λ_ _ q=>q)
 have HD:=zI (ho.out.trans (inZ (by rw [HL.out];simp)));clear HL ho hx;obtain ⟨-,-,-,-,-,-,y6,-⟩:=RfF.aC hh.out.b3;go_upto_region 7 with fail;go_wp2_with fail;refine (qaN V.Th V.ct x.there id w3 hO hh.out.atx.there).mono ?_;rintro e w4 ⟨A,m1,rfl,hI,hi,hl⟩;have he:=hh.out.to_later (show Later w3 w4 from hl);have hf:=he.there A m1 _ (aP.new hI hi hh.out.b8.lt) (λa e=>ltZ hh.out.b8.lt (hi a e));clear y6;obtain ⟨-,-,-,-,-,-,t6,-⟩:=RfF.aC he.b8;obtain ⟨-,-,-,-,-,-,q6,-⟩:=qa0 he.b8;have hb:=zI hf;clear he hf hI hi hl;go_upto_region 8 with fail;clear t6 q6;generalize w4.setCell ⟨g8,6,none⟩ (sQ A (Rf.with_ x.there id).length m1)=w5 at *;obtain ⟨-,-,-,-,-,-,-,y7,-⟩:=RfF.aC hb.out.b3;go_wp2_with fail;refine (qaN V.Sa V.cs x.saved id w5 hM hb.out.atx.saved).mono ?_;rintro e w6 ⟨A2,m2,rfl,hI,hi,hl⟩;have he:=hb.out.to_later (show Later w5 w6 from hl);have hf:=he.saved A2 m2 _ (aP.new hI hi hb.out.b8.lt) (λa e=>ltZ hb.out.b8.lt (hi a e));clear y7;obtain ⟨-,-,-,-,-,-,-,t7,-⟩:=RfF.aC he.b8;obtain ⟨-,-,-,-,-,-,-,q7,-⟩:=qa0 he.b8;have ha:=zI hf;clear he hf hI hi hl hb;go_upto_region 33 with fail;clear t7 q7;have he:=ha.out;clear ha;have hb:=zI (show RfB g g6 g8 F V n c x { V with Th:=A,ct:=m1,Sa:=A2,cs:=m2 } (Rf.step c x 1 id) w (w6.setCell ⟨g8,7,none⟩ (sQ A2 (Rf.with_ x.saved id).length m2)) from he);clear he;generalize w6.setCell ⟨g8,7,none⟩ (sQ A2 (Rf.with_ x.saved id).length m2)=w7 at *;generalize Rf.step c x 1 id=y at *;obtain ⟨V2,hB5⟩:∃V2,RfB g g6 g8 F V n c x V2 y w w7:=⟨_,hb.out⟩
 clear hb;have hb:=zI hB5;clear hB5;obtain ⟨t0,t1,t2,t3,t4,t5,t6,t7,t8,t9,t10,t11,t12⟩:=RfF.aC hb.out.b8;obtain ⟨q0,q1,q2,q3,q4,q5,q6,q7,q8,q9,q10,q11,q12⟩:=qa0 hb.out.b8;go_wp2_with fail;refine (qaZ F V2 n c y w7 HC.out hN.out hb.out.tV hb.out.aty).mono ?_;rintro e w6 ⟨rfl,hy⟩;have ha:=zI (hb.out.to_later hy);clear hy t0 q0 t1 q1 t2 q2 t3 q3 t4 q4 t5 q5 t6 q6 t7 q7 t8 q8 t9 q9 t10 q10 t11 q11 t12 q12;have hD:=zI (show Rf.fin c y 1 id={ y with aB:=if y.aB<Rf.sum c y then Rf.sum c y else y.aB,aF:=y.aF } from rfl);generalize Rf.sum c y=sm at *
 by_cases hd:c.cap<sm
 ·have HE:=zI (HD.out.trans (ipZ hd))
  have d2:decide (c.cap<sm)=true:=by simpa using hd
  clear hd HD;obtain ⟨y0,y1,y2,y3,y4,y5,y6,y7,y8,y9,y10,y11,y12⟩:=RfF.aC ha.out.b3;obtain ⟨z0,z1,z2,z3,z4,z5,z6,z7,z8,z9,z10,z11,z12⟩:=qa3 ha.out.b6;obtain ⟨f0,f1,f2,f3,f4,f5,f6,f7,f8,f9,f10,f11,f12⟩:=qa0 ha.out.b6;go_wp2_with fail;refine Zk1 (v:=.tuple #[.agg (F.cells V n c x),nQ iQ 25]) (by simp [results,results64,go_sem,z0,z1,z2,z3,z4,z5,z6,z7,z8,z9,z10,z11,z12];rfl) rfl ?_;exact bG.of V HE.out (HV.out.later (ha.out.bM _ _ _ _ _ _ _ _ _ _ _ _ _).2) (ha.out.bM _ _ _ _ _ _ _ _ _ _ _ _ _).2 (λ_ _ q=>q)
 have hv:=zI (HD.out.trans (inZ hd));have d2:decide (c.cap<sm)=false:=by simpa using hd
 clear hd HD
 by_cases hj:y.aB<sm
 ·have d3:decide (y.aB<sm)=true:=by simpa using hj
  have HE:=zI (show Rf.do_ c x 1 id=({ y with aB:=sm },0) by rw [hv.out,hD.out,ipZ hj]);clear hj hv;obtain ⟨-,-,-,-,-,y5,-⟩:=RfF.aC ha.out.b3;obtain ⟨-,-,-,-,-,-,-,-,-,-,-,-,t12⟩:=RfF.aC ha.out.b8;obtain ⟨-,-,-,-,-,-,-,-,-,-,-,-,q12⟩:=qa0 ha.out.b8;go_upto_region 38 with fail;have hc:=zI (ha.out.aB sm);clear y5 t12 q12;generalize w6.setCell ⟨g8,12,none⟩ (nQ iQ sm)=w9 at *;obtain ⟨z0,z1,z2,z3,z4,z5,z6,z7,z8,z9,z10,z11,z12⟩:=qa3 hc.out.b6;obtain ⟨f0,f1,f2,f3,f4,f5,f6,f7,f8,f9,f10,f11,f12⟩:=qa0 hc.out.b6;obtain ⟨t0,t1,t2,t3,t4,t5,t6,t7,t8,t9,t10,t11,t12⟩:=RfF.aC hc.out.b8;obtain ⟨q0,q1,q2,q3,q4,q5,q6,q7,q8,q9,q10,q11,q12⟩:=qa0 hc.out.b8;go_wp2_with fail;refine Zk1 (v:=.tuple #[.agg (F.cells V2 n c { y with aB:=sm }),nQ iQ 0]) (by simp [results,results64,go_sem,z0,z1,z2,z3,z4,z5,z6,z7,z8,z9,z10,z11,z12];rfl) rfl ?_;exact bG.of V2 HE.out (hc.out.bM _ _ _ _ _ _ _ _ _ _ _ _ _).1 (hc.out.bM _ _ _ _ _ _ _ _ _ _ _ _ _).2 hc.out.off
 ·have d3:decide (y.aB<sm)=false:=by simpa using hj
  have HE:=zI (show Rf.do_ c x 1 id=(y,0) by rw [hv.out,hD.out,inZ hj]);clear hj hv;obtain ⟨-,-,-,-,-,y5,-⟩:=RfF.aC ha.out.b3;obtain ⟨-,-,-,-,-,-,-,-,-,-,-,-,t12⟩:=RfF.aC ha.out.b8;go_upto_region 38 with fail;have hc:=zI ha.out;clear y5 t12;obtain ⟨z0,z1,z2,z3,z4,z5,z6,z7,z8,z9,z10,z11,z12⟩:=qa3 hc.out.b6;obtain ⟨f0,f1,f2,f3,f4,f5,f6,f7,f8,f9,f10,f11,f12⟩:=qa0 hc.out.b6;obtain ⟨t0,t1,t2,t3,t4,t5,t6,t7,t8,t9,t10,t11,t12⟩:=RfF.aC hc.out.b8;obtain ⟨q0,q1,q2,q3,q4,q5,q6,q7,q8,q9,q10,q11,q12⟩:=qa0 hc.out.b8;go_wp2_with fail;refine Zk1 (v:=.tuple #[.agg (F.cells V2 n c y),nQ iQ 0]) (by simp [results,results64,go_sem,z0,z1,z2,z3,z4,z5,z6,z7,z8,z9,z10,z11,z12];rfl) rfl ?_;exact bG.of V2 HE.out (hc.out.bM _ _ _ _ _ _ _ _ _ _ _ _ _).1 (hc.out.bM _ _ _ _ _ _ _ _ _ _ _ _ _).2 hc.out.off
set_option maxRecDepth 100000 in
theorem qiq (F:RfF) (V:RfV) (n:aA) (c:CkN) (x:RfS) (w:Zp1) (hC:RfC n c) (hG:Rf.GoodS c x) (hF:F.Fix n c w) (hV:V.At x w) (hdn:0<=x.done/\x.done<=1000) (id:Int) (hr:Cd.right (2,id)=true) (hbig:¬(c.words.length:Int)<=id):
  Calls prog 64 #[.agg (F.cells V n c x),nQ iQ 2,nQ iQ id] w (bG F V n c x 2 id w):=by
 have hw:=hC.wl;have hP:=hC.nl;obtain ⟨hq,-⟩:=Rf.eX hr;have hk:Later w ((w.alloc (.cells (F.cells V n c x) 125)).alloc (.cells qa5 125)):=((Later.refl w).alloc _).alloc _;have ht:Blk ((w.alloc (.cells (F.cells V n c x) 125)).alloc (.cells qa5 125)) w.heap.size 125 (F.cells V n c x):=(Blk.new _ _ _).alloc _;have hp:=Blk.new (w.alloc (.cells (F.cells V n c x) 125)) 125 qa5;rw [Zh1] at hp;obtain ⟨y0,y1,y2,y3,y4,y5,y6,y7,y8,y9,y10,y11,y12⟩:=RfF.aC ht;obtain ⟨f0,f1,f2,f3,f4,f5,f6,f7,f8,f9,f10,f11,f12⟩:=qa0 hp;have HB:=zI (show Rf.do_ c x 2 id=if (c.words.length:Int)<=id then (x,10) else if Rf.bI c x 2 id=false then (x,24) else if c.cap<Rf.sum c (Rf.step c x 2 id) then (x,25) else (Rf.fin c (Rf.step c x 2 id) 2 id,0) from rfl);have d1:decide ((n.o.length:Int)<id)=false:=by simp;omega
 have hn:id<c.words.length:=by omega
 have ho:=zI (HB.out.trans (inZ hbig));clear hbig HB;have hu:=Blk.new ((w.alloc (.cells (F.cells V n c x) 125)).alloc (.cells qa5 125)) 125 (F.cells V n c x);rw [Zh1,Zh1] at hu
 have hB:RfB w.heap.size (w.heap.size+1) (w.heap.size+1+1) F V n c x V x w (((w.alloc (.cells (F.cells V n c x) 125)).alloc (.cells qa5 125)).alloc (.cells (F.cells V n c x) 125)):=
  ⟨lrZ _,by omega,by omega,hk.alloc _,ht.alloc _,hp.alloc _,hu,hF,hV,(aP.old hV.there oZ).later (hk.alloc _),(aP.old hV.saved oZ).later (hk.alloc _),(aP.old hV.aF oZ).later (hk.alloc _),λ_ _ q=>q⟩
 have hB:RfB w.heap.size (w.heap.size+1) (w.heap.size+1+1) F V n c x V x w (((w.alloc (.cells (F.cells V n c x) 125)).alloc (.cells qa5 125)).alloc (.cells #[sQ F.A n.inn.length F.c,sQ F.N n.o.length F.d,sQ F.Wd c.words.length F.cw,sQ F.Or c.order.length F.co,nQ iQ c.aH,nQ iQ c.cap,sQ V.Th x.there.length V.ct,sQ V.Sa x.saved.length V.cs,sQ V.Gr x.aF.length V.cg,nQ iQ x.em,nQ iQ x.sd,nQ iQ x.done,nQ iQ x.aB] 125)):=hB;obtain ⟨g,hg⟩:∃g,w.heap.size=g:=⟨_,rfl⟩
 have hQ:w.heap.size<=g:=Nat.le_of_eq hg;unfold qa5 at *;obtain ⟨HC,HG,HF,HV,hL,hJ,hH,hK,hs⟩:=zd9 hC hG hF hV ht hp hu hk hw;obtain ⟨HB,Hg⟩:=zd2 hB hg;clear hC hG hF hV ht hp hu hk hw hB hg;clear f0 f1 f2 f3 f4 f5 f6 f7 f8 f9 f10 f11 f12;go_in;go_upto_region 4 with fail;clear y0 y1 y2 y3 y4 y5 y6 y7 y8 y9 y10 y11 y12 hL hJ hH hK;generalize (((w.alloc (.cells (F.cells V n c x) 125)).alloc (.cells #[sQ none 0 0,sQ none 0 0,sQ none 0 0,sQ none 0 0,nQ iQ 0,nQ iQ 0,sQ none 0 0,sQ none 0 0,sQ none 0 0,nQ iQ 0,nQ iQ 0,nQ iQ 0,nQ iQ 0] 125)).alloc (.cells #[sQ F.A n.inn.length F.c,sQ F.N n.o.length F.d,sQ F.Wd c.words.length F.cw,sQ F.Or c.order.length F.co,nQ iQ c.aH,nQ iQ c.cap,sQ V.Th x.there.length V.ct,sQ V.Sa x.saved.length V.cs,sQ V.Gr x.aF.length V.cg,nQ iQ x.em,nQ iQ x.sd,nQ iQ x.done,nQ iQ x.aB] 125))=w1 at *;rw [Hg.out] at HB ⊢;clear Hg hB;generalize g+1+1=g8 at *;generalize g+1=g6 at *;have hO:x.there.length<=1000:=by have:=HG.out.there.len;have:=hs.out;omega
 have hM:x.saved.length<=1000:=by have:=HG.out.saved.len;have:=hs.out;omega
 have hR:x.aF.length<=1000:=by have:=HG.out.aF.len;have:=hs.out;omega
 clear d1;have HL:=zI (show Rf.bI c x 2 id=((qaR x.saved id==true)&&(!qaR x.there id&&Rf.ready c x id)) from rfl);have hN:=zI (show Rf.GoodS c (Rf.step c x 2 id) from ⟨HG.out.there.with_ ⟨hq,hn⟩,HG.out.saved.with_ ⟨hq,hn⟩,HG.out.aF⟩);have hz:=Rf.fU hr dZ dZ;obtain ⟨m,hm⟩:∃m:Nat,id=((m+1:Nat):Int):=⟨(id-1).toNat,by omega⟩
 have hE:m<n.o.length:=by have:=hs.out;omega
 have hx:=zI (λ(W:Zp1) (h:Later w W)=>(show Calls prog 98 #[.agg (F.cells V n c x),nQ iQ id] W λe w'=>e=.returned (.bool (Rf.ready c x id))/\Later W w' from by rw [hm];exact qby F V n c x W HC.out HG.out (HF.out.later h) (HV.out.later h) m hE));clear hm hz;obtain ⟨-,-,-,-,-,-,y6,y7,-⟩:=RfF.aC HB.out.b3;go_wp2_with fail;refine (qaf V.Sa V.cs x.saved id w1 oZ HB.out.atx.saved).mono ?_;rintro e w2 ⟨rfl,rfl⟩;generalize qaR x.saved id=b1 at *;clear y6 y7;cases b1
 ·have HE:=zI (ho.out.trans (ipZ (by rw [HL.out];simp)))
  obtain ⟨y0,y1,y2,y3,y4,y5,y6,y7,y8,y9,y10,y11,y12⟩:=RfF.aC HB.out.b3;obtain ⟨z0,z1,z2,z3,z4,z5,z6,z7,z8,z9,z10,z11,z12⟩:=qa3 HB.out.b6;obtain ⟨f0,f1,f2,f3,f4,f5,f6,f7,f8,f9,f10,f11,f12⟩:=qa0 HB.out.b6;go_wp2_with fail;refine Zk1 (v:=.tuple #[.agg (F.cells V n c x),nQ iQ 24]) (by simp [results,results64,go_sem,z0,z1,z2,z3,z4,z5,z6,z7,z8,z9,z10,z11,z12];rfl) rfl ?_;exact bG.of V HE.out (HV.out.later (HB.out.bM _ _ _ _ _ _ _ _ _ _ _ _ _).2) (HB.out.bM _ _ _ _ _ _ _ _ _ _ _ _ _).2 (λ_ _ q=>q)
 obtain ⟨-,-,-,-,-,-,y6,-⟩:=RfF.aC HB.out.b3;go_wp2_with fail;refine (qaf V.Th V.ct x.there id w1 oZ HB.out.atx.there).mono ?_;rintro e w2 ⟨rfl,rfl⟩;generalize qaR x.there id=b2 at *;clear y6;cases b2
 rotate_left
 ·have HE:=zI (ho.out.trans (ipZ (by rw [HL.out];simp)))
  obtain ⟨y0,y1,y2,y3,y4,y5,y6,y7,y8,y9,y10,y11,y12⟩:=RfF.aC HB.out.b3;obtain ⟨z0,z1,z2,z3,z4,z5,z6,z7,z8,z9,z10,z11,z12⟩:=qa3 HB.out.b6;obtain ⟨f0,f1,f2,f3,f4,f5,f6,f7,f8,f9,f10,f11,f12⟩:=qa0 HB.out.b6;go_wp2_with fail;refine Zk1 (v:=.tuple #[.agg (F.cells V n c x),nQ iQ 24]) (by simp [results,results64,go_sem,z0,z1,z2,z3,z4,z5,z6,z7,z8,z9,z10,z11,z12];rfl) rfl ?_;exact bG.of V HE.out (HV.out.later (HB.out.bM _ _ _ _ _ _ _ _ _ _ _ _ _).2) (HB.out.bM _ _ _ _ _ _ _ _ _ _ _ _ _).2 (λ_ _ q=>q)
 obtain ⟨y0,y1,y2,y3,y4,y5,y6,y7,y8,y9,y10,y11,y12⟩:=RfF.aC HB.out.b3;go_wp2_with fail;refine (hx.out w1 HB.out.later).mono ?_;rintro e w3 ⟨rfl,hA⟩;have hh:=zI (HB.out.to_later hA);clear hA y0 y1 y2 y3 y4 y5 y6 y7 y8 y9 y10 y11 y12;generalize Rf.ready c x id=b3 at *;cases b3
 ·have HE:=zI (ho.out.trans (ipZ (by rw [HL.out];simp)))
  obtain ⟨y0,y1,y2,y3,y4,y5,y6,y7,y8,y9,y10,y11,y12⟩:=RfF.aC hh.out.b3;obtain ⟨z0,z1,z2,z3,z4,z5,z6,z7,z8,z9,z10,z11,z12⟩:=qa3 hh.out.b6;obtain ⟨f0,f1,f2,f3,f4,f5,f6,f7,f8,f9,f10,f11,f12⟩:=qa0 hh.out.b6;go_wp2_with fail;refine Zk1 (v:=.tuple #[.agg (F.cells V n c x),nQ iQ 24]) (by simp [results,results64,go_sem,z0,z1,z2,z3,z4,z5,z6,z7,z8,z9,z10,z11,z12];rfl) rfl ?_;exact bG.of V HE.out (HV.out.later (hh.out.bM _ _ _ _ _ _ _ _ _ _ _ _ _).2) (hh.out.bM _ _ _ _ _ _ _ _ _ _ _ _ _).2 (λ_ _ q=>q)
 have HD:=zI (ho.out.trans (inZ (by rw [HL.out];simp)));clear HL ho hx;obtain ⟨-,-,-,-,-,-,y6,-⟩:=RfF.aC hh.out.b3;go_upto_region 7 with fail;go_wp2_with fail;refine (qaN V.Th V.ct x.there id w3 hO hh.out.atx.there).mono ?_;rintro e w4 ⟨A,m1,rfl,hI,hi,hl⟩;have he:=hh.out.to_later (show Later w3 w4 from hl);have hf:=he.there A m1 _ (aP.new hI hi hh.out.b8.lt) (λa e=>ltZ hh.out.b8.lt (hi a e));clear y6;obtain ⟨-,-,-,-,-,-,t6,-⟩:=RfF.aC he.b8;obtain ⟨-,-,-,-,-,-,q6,-⟩:=qa0 he.b8;have hb:=zI hf;clear he hf hI hi hl;go_upto_region 8 with fail;clear t6 q6;generalize w4.setCell ⟨g8,6,none⟩ (sQ A (Rf.with_ x.there id).length m1)=w5 at *;obtain ⟨-,-,-,-,-,-,-,y7,-⟩:=RfF.aC hb.out.b3;go_wp2_with fail;refine (qaN V.Sa V.cs x.saved id w5 hM hb.out.atx.saved).mono ?_;rintro e w6 ⟨A2,m2,rfl,hI,hi,hl⟩;have he:=hb.out.to_later (show Later w5 w6 from hl);have hf:=he.saved A2 m2 _ (aP.new hI hi hb.out.b8.lt) (λa e=>ltZ hb.out.b8.lt (hi a e));clear y7;obtain ⟨-,-,-,-,-,-,-,t7,-⟩:=RfF.aC he.b8;obtain ⟨-,-,-,-,-,-,-,q7,-⟩:=qa0 he.b8;have ha:=zI hf;clear he hf hI hi hl hb;go_upto_region 33 with fail;clear t7 q7;have he:=ha.out;clear ha;have hb:=zI (show RfB g g6 g8 F V n c x { V with Th:=A,ct:=m1,Sa:=A2,cs:=m2 } (Rf.step c x 2 id) w (w6.setCell ⟨g8,7,none⟩ (sQ A2 (Rf.with_ x.saved id).length m2)) from he);clear he;generalize w6.setCell ⟨g8,7,none⟩ (sQ A2 (Rf.with_ x.saved id).length m2)=w7 at *;generalize Rf.step c x 2 id=y at *;obtain ⟨V2,hB5⟩:∃V2,RfB g g6 g8 F V n c x V2 y w w7:=⟨_,hb.out⟩
 clear hb;have hb:=zI hB5;clear hB5;obtain ⟨t0,t1,t2,t3,t4,t5,t6,t7,t8,t9,t10,t11,t12⟩:=RfF.aC hb.out.b8;obtain ⟨q0,q1,q2,q3,q4,q5,q6,q7,q8,q9,q10,q11,q12⟩:=qa0 hb.out.b8;go_wp2_with fail;refine (qaZ F V2 n c y w7 HC.out hN.out hb.out.tV hb.out.aty).mono ?_;rintro e w6 ⟨rfl,hy⟩;have ha:=zI (hb.out.to_later hy);clear hy t0 q0 t1 q1 t2 q2 t3 q3 t4 q4 t5 q5 t6 q6 t7 q7 t8 q8 t9 q9 t10 q10 t11 q11 t12 q12;have hD:=zI (show Rf.fin c y 2 id={ y with aB:=if y.aB<Rf.sum c y then Rf.sum c y else y.aB,aF:=y.aF } from rfl);generalize Rf.sum c y=sm at *
 by_cases hd:c.cap<sm
 ·have HE:=zI (HD.out.trans (ipZ hd))
  have d2:decide (c.cap<sm)=true:=by simpa using hd
  clear hd HD;obtain ⟨y0,y1,y2,y3,y4,y5,y6,y7,y8,y9,y10,y11,y12⟩:=RfF.aC ha.out.b3;obtain ⟨z0,z1,z2,z3,z4,z5,z6,z7,z8,z9,z10,z11,z12⟩:=qa3 ha.out.b6;obtain ⟨f0,f1,f2,f3,f4,f5,f6,f7,f8,f9,f10,f11,f12⟩:=qa0 ha.out.b6;go_wp2_with fail;refine Zk1 (v:=.tuple #[.agg (F.cells V n c x),nQ iQ 25]) (by simp [results,results64,go_sem,z0,z1,z2,z3,z4,z5,z6,z7,z8,z9,z10,z11,z12];rfl) rfl ?_;exact bG.of V HE.out (HV.out.later (ha.out.bM _ _ _ _ _ _ _ _ _ _ _ _ _).2) (ha.out.bM _ _ _ _ _ _ _ _ _ _ _ _ _).2 (λ_ _ q=>q)
 have hv:=zI (HD.out.trans (inZ hd));have d2:decide (c.cap<sm)=false:=by simpa using hd
 clear hd HD
 by_cases hj:y.aB<sm
 ·have d3:decide (y.aB<sm)=true:=by simpa using hj
  have HE:=zI (show Rf.do_ c x 2 id=({ y with aB:=sm },0) by rw [hv.out,hD.out,ipZ hj]);clear hj hv;obtain ⟨-,-,-,-,-,y5,-⟩:=RfF.aC ha.out.b3;obtain ⟨-,-,-,-,-,-,-,-,-,-,-,-,t12⟩:=RfF.aC ha.out.b8;obtain ⟨-,-,-,-,-,-,-,-,-,-,-,-,q12⟩:=qa0 ha.out.b8;go_upto_region 38 with fail;have hc:=zI (ha.out.aB sm);clear y5 t12 q12;generalize w6.setCell ⟨g8,12,none⟩ (nQ iQ sm)=w9 at *;obtain ⟨z0,z1,z2,z3,z4,z5,z6,z7,z8,z9,z10,z11,z12⟩:=qa3 hc.out.b6;obtain ⟨f0,f1,f2,f3,f4,f5,f6,f7,f8,f9,f10,f11,f12⟩:=qa0 hc.out.b6;obtain ⟨t0,t1,t2,t3,t4,t5,t6,t7,t8,t9,t10,t11,t12⟩:=RfF.aC hc.out.b8;obtain ⟨q0,q1,q2,q3,q4,q5,q6,q7,q8,q9,q10,q11,q12⟩:=qa0 hc.out.b8;go_wp2_with fail;refine Zk1 (v:=.tuple #[.agg (F.cells V2 n c { y with aB:=sm }),nQ iQ 0]) (by simp [results,results64,go_sem,z0,z1,z2,z3,z4,z5,z6,z7,z8,z9,z10,z11,z12];rfl) rfl ?_;exact bG.of V2 HE.out (hc.out.bM _ _ _ _ _ _ _ _ _ _ _ _ _).1 (hc.out.bM _ _ _ _ _ _ _ _ _ _ _ _ _).2 hc.out.off
 ·have d3:decide (y.aB<sm)=false:=by simpa using hj
  have HE:=zI (show Rf.do_ c x 2 id=(y,0) by rw [hv.out,hD.out,inZ hj]);clear hj hv;obtain ⟨-,-,-,-,-,y5,-⟩:=RfF.aC ha.out.b3;obtain ⟨-,-,-,-,-,-,-,-,-,-,-,-,t12⟩:=RfF.aC ha.out.b8;go_upto_region 38 with fail;have hc:=zI ha.out;clear y5 t12;obtain ⟨z0,z1,z2,z3,z4,z5,z6,z7,z8,z9,z10,z11,z12⟩:=qa3 hc.out.b6;obtain ⟨f0,f1,f2,f3,f4,f5,f6,f7,f8,f9,f10,f11,f12⟩:=qa0 hc.out.b6;obtain ⟨t0,t1,t2,t3,t4,t5,t6,t7,t8,t9,t10,t11,t12⟩:=RfF.aC hc.out.b8;obtain ⟨q0,q1,q2,q3,q4,q5,q6,q7,q8,q9,q10,q11,q12⟩:=qa0 hc.out.b8;go_wp2_with fail;refine Zk1 (v:=.tuple #[.agg (F.cells V2 n c y),nQ iQ 0]) (by simp [results,results64,go_sem,z0,z1,z2,z3,z4,z5,z6,z7,z8,z9,z10,z11,z12];rfl) rfl ?_;exact bG.of V2 HE.out (hc.out.bM _ _ _ _ _ _ _ _ _ _ _ _ _).1 (hc.out.bM _ _ _ _ _ _ _ _ _ _ _ _ _).2 hc.out.off
set_option maxRecDepth 100000 in
theorem qir (F:RfF) (V:RfV) (n:aA) (c:CkN) (x:RfS) (w:Zp1) (hC:RfC n c) (hG:Rf.GoodS c x) (hF:F.Fix n c w) (hV:V.At x w) (hdn:0<=x.done/\x.done<=1000) (id:Int) (hr:Cd.right (3,id)=true) (hbig:¬(c.words.length:Int)<=id):
  Calls prog 64 #[.agg (F.cells V n c x),nQ iQ 3,nQ iQ id] w (bG F V n c x 3 id w):=by
 have hq:=hC.wl;have hJ:=hC.nl;obtain ⟨hE,-⟩:=Rf.eX hr;have hf:Later w ((w.alloc (.cells (F.cells V n c x) 125)).alloc (.cells qa5 125)):=((Later.refl w).alloc _).alloc _;have hj:Blk ((w.alloc (.cells (F.cells V n c x) 125)).alloc (.cells qa5 125)) w.heap.size 125 (F.cells V n c x):=(Blk.new _ _ _).alloc _;have hi:=Blk.new (w.alloc (.cells (F.cells V n c x) 125)) 125 qa5;rw [Zh1] at hi;obtain ⟨y0,y1,y2,y3,y4,y5,y6,y7,y8,y9,y10,y11,y12⟩:=RfF.aC hj;obtain ⟨f0,f1,f2,f3,f4,f5,f6,f7,f8,f9,f10,f11,f12⟩:=qa0 hi;have HB:=zI (show Rf.do_ c x 3 id=if (c.words.length:Int)<=id then (x,10) else if Rf.bI c x 3 id=false then (x,24) else if c.cap<Rf.sum c (Rf.step c x 3 id) then (x,25) else (Rf.fin c (Rf.step c x 3 id) 3 id,0) from rfl);have d1:decide ((n.o.length:Int)<id)=false:=by simp;omega
 have hy:id<c.words.length:=by omega
 have hp:=zI (HB.out.trans (inZ hbig));clear hbig HB;have hk:=Blk.new ((w.alloc (.cells (F.cells V n c x) 125)).alloc (.cells qa5 125)) 125 (F.cells V n c x);rw [Zh1,Zh1] at hk
 have hB:RfB w.heap.size (w.heap.size+1) (w.heap.size+1+1) F V n c x V x w (((w.alloc (.cells (F.cells V n c x) 125)).alloc (.cells qa5 125)).alloc (.cells (F.cells V n c x) 125)):=
  ⟨lrZ _,by omega,by omega,hf.alloc _,hj.alloc _,hi.alloc _,hk,hF,hV,(aP.old hV.there oZ).later (hf.alloc _),(aP.old hV.saved oZ).later (hf.alloc _),(aP.old hV.aF oZ).later (hf.alloc _),λ_ _ q=>q⟩
 have hB:RfB w.heap.size (w.heap.size+1) (w.heap.size+1+1) F V n c x V x w (((w.alloc (.cells (F.cells V n c x) 125)).alloc (.cells qa5 125)).alloc (.cells #[sQ F.A n.inn.length F.c,sQ F.N n.o.length F.d,sQ F.Wd c.words.length F.cw,sQ F.Or c.order.length F.co,nQ iQ c.aH,nQ iQ c.cap,sQ V.Th x.there.length V.ct,sQ V.Sa x.saved.length V.cs,sQ V.Gr x.aF.length V.cg,nQ iQ x.em,nQ iQ x.sd,nQ iQ x.done,nQ iQ x.aB] 125)):=hB;obtain ⟨g,hg⟩:∃g,w.heap.size=g:=⟨_,rfl⟩
 have hL:w.heap.size<=g:=Nat.le_of_eq hg;unfold qa5 at *;obtain ⟨HC,HG,HF,HV,hA,hx,hw,hz,hn⟩:=zd9 hC hG hF hV hj hi hk hf hq;obtain ⟨HB,Hg⟩:=zd2 hB hg;clear hC hG hF hV hj hi hk hf hq hB hg;clear f0 f1 f2 f3 f4 f5 f6 f7 f8 f9 f10 f11 f12;go_in;go_upto_region 4 with fail;clear y0 y1 y2 y3 y4 y5 y6 y7 y8 y9 y10 y11 y12 hA hx hw hz;generalize (((w.alloc (.cells (F.cells V n c x) 125)).alloc (.cells #[sQ none 0 0,sQ none 0 0,sQ none 0 0,sQ none 0 0,nQ iQ 0,nQ iQ 0,sQ none 0 0,sQ none 0 0,sQ none 0 0,nQ iQ 0,nQ iQ 0,nQ iQ 0,nQ iQ 0] 125)).alloc (.cells #[sQ F.A n.inn.length F.c,sQ F.N n.o.length F.d,sQ F.Wd c.words.length F.cw,sQ F.Or c.order.length F.co,nQ iQ c.aH,nQ iQ c.cap,sQ V.Th x.there.length V.ct,sQ V.Sa x.saved.length V.cs,sQ V.Gr x.aF.length V.cg,nQ iQ x.em,nQ iQ x.sd,nQ iQ x.done,nQ iQ x.aB] 125))=w1 at *;rw [Hg.out] at HB ⊢;clear Hg hB;generalize g+1+1=g8 at *;generalize g+1=g6 at *;have hH:x.there.length<=1000:=by have:=HG.out.there.len;have:=hn.out;omega
 have hK:x.saved.length<=1000:=by have:=HG.out.saved.len;have:=hn.out;omega
 have hM:x.aF.length<=1000:=by have:=HG.out.aF.len;have:=hn.out;omega
 clear d1;have HL:=zI (show Rf.bI c x 3 id=qaR x.there id from rfl);have hD:=zI (show Rf.GoodS c (Rf.step c x 3 id) from ⟨HG.out.there.without id,HG.out.saved,HG.out.aF⟩);obtain ⟨-,-,-,-,-,-,y6,-⟩:=RfF.aC HB.out.b3;go_wp2_with fail;refine (qaf V.Th V.ct x.there id w1 oZ HB.out.atx.there).mono ?_;rintro e w2 ⟨rfl,rfl⟩;generalize qaR x.there id=b1 at *;clear y6;cases b1
 ·have HE:=zI (hp.out.trans (ipZ (by rw [HL.out])))
  obtain ⟨y0,y1,y2,y3,y4,y5,y6,y7,y8,y9,y10,y11,y12⟩:=RfF.aC HB.out.b3;obtain ⟨z0,z1,z2,z3,z4,z5,z6,z7,z8,z9,z10,z11,z12⟩:=qa3 HB.out.b6;obtain ⟨f0,f1,f2,f3,f4,f5,f6,f7,f8,f9,f10,f11,f12⟩:=qa0 HB.out.b6;go_wp2_with fail;refine Zk1 (v:=.tuple #[.agg (F.cells V n c x),nQ iQ 24]) (by simp [results,results64,go_sem,z0,z1,z2,z3,z4,z5,z6,z7,z8,z9,z10,z11,z12];rfl) rfl ?_;exact bG.of V HE.out (HV.out.later (HB.out.bM _ _ _ _ _ _ _ _ _ _ _ _ _).2) (HB.out.bM _ _ _ _ _ _ _ _ _ _ _ _ _).2 (λ_ _ q=>q)
 have HD:=zI (hp.out.trans (inZ (by rw [HL.out];simp)));clear HL hp;obtain ⟨-,-,-,-,-,-,y6,-⟩:=RfF.aC HB.out.b3;go_upto_region 12 with fail;go_wp2_with fail;refine (qb3 V.Th V.ct x.there id w1 hH HB.out.atx.there).mono ?_;rintro e w2 ⟨A,m,rfl,hI,ho,ht⟩;have hl:=HB.out.to_later (show Later w1 w2 from ht);have hh:=hl.there A m _ (aP.new hI ho HB.out.b8.lt) (λa e=>ltZ HB.out.b8.lt (ho a e));clear y6;obtain ⟨-,-,-,-,-,-,t6,-⟩:=RfF.aC hl.b8;obtain ⟨-,-,-,-,-,-,q6,-⟩:=qa0 hl.b8;have hu:=zI hh;clear hh;clear hl hI ho ht;go_upto_region 33 with fail;clear t6 q6;have hh:=hu.out;clear hu;have hd:=zI (show RfB g g6 g8 F V n c x { V with Th:=A,ct:=m } (Rf.step c x 3 id) w (w2.setCell ⟨g8,6,none⟩ (sQ A (Rf.without x.there id).length m)) from hh);clear hh;generalize w2.setCell ⟨g8,6,none⟩ (sQ A (Rf.without x.there id).length m)=w5 at *;generalize Rf.step c x 3 id=y at *;obtain ⟨V2,hB5⟩:∃V2,RfB g g6 g8 F V n c x V2 y w w5:=⟨_,hd.out⟩
 clear hd;have hd:=zI hB5;clear hB5;obtain ⟨t0,t1,t2,t3,t4,t5,t6,t7,t8,t9,t10,t11,t12⟩:=RfF.aC hd.out.b8;obtain ⟨q0,q1,q2,q3,q4,q5,q6,q7,q8,q9,q10,q11,q12⟩:=qa0 hd.out.b8;go_wp2_with fail;refine (qaZ F V2 n c y w5 HC.out hD.out hd.out.tV hd.out.aty).mono ?_;rintro e w6 ⟨rfl,hs⟩;have hc:=zI (hd.out.to_later hs);clear hs t0 q0 t1 q1 t2 q2 t3 q3 t4 q4 t5 q5 t6 q6 t7 q7 t8 q8 t9 q9 t10 q10 t11 q11 t12 q12;have hv:=zI (show Rf.fin c y 3 id={ y with aB:=if y.aB<Rf.sum c y then Rf.sum c y else y.aB,aF:=y.aF } from rfl);generalize Rf.sum c y=sm at *
 by_cases hb:c.cap<sm
 ·have HE:=zI (HD.out.trans (ipZ hb))
  have d2:decide (c.cap<sm)=true:=by simpa using hb
  clear hb HD;obtain ⟨y0,y1,y2,y3,y4,y5,y6,y7,y8,y9,y10,y11,y12⟩:=RfF.aC hc.out.b3;obtain ⟨z0,z1,z2,z3,z4,z5,z6,z7,z8,z9,z10,z11,z12⟩:=qa3 hc.out.b6;obtain ⟨f0,f1,f2,f3,f4,f5,f6,f7,f8,f9,f10,f11,f12⟩:=qa0 hc.out.b6;go_wp2_with fail;refine Zk1 (v:=.tuple #[.agg (F.cells V n c x),nQ iQ 25]) (by simp [results,results64,go_sem,z0,z1,z2,z3,z4,z5,z6,z7,z8,z9,z10,z11,z12];rfl) rfl ?_;exact bG.of V HE.out (HV.out.later (hc.out.bM _ _ _ _ _ _ _ _ _ _ _ _ _).2) (hc.out.bM _ _ _ _ _ _ _ _ _ _ _ _ _).2 (λ_ _ q=>q)
 have hm:=zI (HD.out.trans (inZ hb));have d2:decide (c.cap<sm)=false:=by simpa using hb
 clear hb HD
 by_cases he:y.aB<sm
 ·have d3:decide (y.aB<sm)=true:=by simpa using he
  have HE:=zI (show Rf.do_ c x 3 id=({ y with aB:=sm },0) by rw [hm.out,hv.out,ipZ he]);clear he hm;obtain ⟨-,-,-,-,-,y5,-⟩:=RfF.aC hc.out.b3;obtain ⟨-,-,-,-,-,-,-,-,-,-,-,-,t12⟩:=RfF.aC hc.out.b8;obtain ⟨-,-,-,-,-,-,-,-,-,-,-,-,q12⟩:=qa0 hc.out.b8;go_upto_region 38 with fail;have ha:=zI (hc.out.aB sm);clear y5 t12 q12;generalize w6.setCell ⟨g8,12,none⟩ (nQ iQ sm)=w7 at *;obtain ⟨z0,z1,z2,z3,z4,z5,z6,z7,z8,z9,z10,z11,z12⟩:=qa3 ha.out.b6;obtain ⟨f0,f1,f2,f3,f4,f5,f6,f7,f8,f9,f10,f11,f12⟩:=qa0 ha.out.b6;obtain ⟨t0,t1,t2,t3,t4,t5,t6,t7,t8,t9,t10,t11,t12⟩:=RfF.aC ha.out.b8;obtain ⟨q0,q1,q2,q3,q4,q5,q6,q7,q8,q9,q10,q11,q12⟩:=qa0 ha.out.b8;go_wp2_with fail;refine Zk1 (v:=.tuple #[.agg (F.cells V2 n c { y with aB:=sm }),nQ iQ 0]) (by simp [results,results64,go_sem,z0,z1,z2,z3,z4,z5,z6,z7,z8,z9,z10,z11,z12];rfl) rfl ?_;exact bG.of V2 HE.out (ha.out.bM _ _ _ _ _ _ _ _ _ _ _ _ _).1 (ha.out.bM _ _ _ _ _ _ _ _ _ _ _ _ _).2 ha.out.off
 ·have d3:decide (y.aB<sm)=false:=by simpa using he
  have HE:=zI (show Rf.do_ c x 3 id=(y,0) by rw [hm.out,hv.out,inZ he]);clear he hm;obtain ⟨-,-,-,-,-,y5,-⟩:=RfF.aC hc.out.b3;obtain ⟨-,-,-,-,-,-,-,-,-,-,-,-,t12⟩:=RfF.aC hc.out.b8;go_upto_region 38 with fail;have ha:=zI hc.out;clear y5 t12;obtain ⟨z0,z1,z2,z3,z4,z5,z6,z7,z8,z9,z10,z11,z12⟩:=qa3 ha.out.b6;obtain ⟨f0,f1,f2,f3,f4,f5,f6,f7,f8,f9,f10,f11,f12⟩:=qa0 ha.out.b6;obtain ⟨t0,t1,t2,t3,t4,t5,t6,t7,t8,t9,t10,t11,t12⟩:=RfF.aC ha.out.b8;obtain ⟨q0,q1,q2,q3,q4,q5,q6,q7,q8,q9,q10,q11,q12⟩:=qa0 ha.out.b8;go_wp2_with fail;refine Zk1 (v:=.tuple #[.agg (F.cells V2 n c y),nQ iQ 0]) (by simp [results,results64,go_sem,z0,z1,z2,z3,z4,z5,z6,z7,z8,z9,z10,z11,z12];rfl) rfl ?_;exact bG.of V2 HE.out (ha.out.bM _ _ _ _ _ _ _ _ _ _ _ _ _).1 (ha.out.bM _ _ _ _ _ _ _ _ _ _ _ _ _).2 ha.out.off
set_option maxRecDepth 100000 in
theorem qis (F:RfF) (V:RfV) (n:aA) (c:CkN) (x:RfS) (w:Zp1) (hC:RfC n c) (hG:Rf.GoodS c x) (hF:F.Fix n c w) (hV:V.At x w) (hdn:0<=x.done/\x.done<=1000) (id:Int) (hr:Cd.right (4,id)=true) (hbig:¬(c.words.length:Int)<=id):
  Calls prog 64 #[.agg (F.cells V n c x),nQ iQ 4,nQ iQ id] w (bG F V n c x 4 id w):=by
 have ho:=hC.wl;have hA:=hC.nl;obtain ⟨hz,-⟩:=Rf.eX hr;have hh:Later w ((w.alloc (.cells (F.cells V n c x) 125)).alloc (.cells qa5 125)):=((Later.refl w).alloc _).alloc _;have hj:Blk ((w.alloc (.cells (F.cells V n c x) 125)).alloc (.cells qa5 125)) w.heap.size 125 (F.cells V n c x):=(Blk.new _ _ _).alloc _;have hi:=Blk.new (w.alloc (.cells (F.cells V n c x) 125)) 125 qa5;rw [Zh1] at hi;obtain ⟨y0,y1,y2,y3,y4,y5,y6,y7,y8,y9,y10,y11,y12⟩:=RfF.aC hj;obtain ⟨f0,f1,f2,f3,f4,f5,f6,f7,f8,f9,f10,f11,f12⟩:=qa0 hi;have HB:=zI (show Rf.do_ c x 4 id=if (c.words.length:Int)<=id then (x,10) else if Rf.bI c x 4 id=false then (x,24) else if c.cap<Rf.sum c (Rf.step c x 4 id) then (x,25) else (Rf.fin c (Rf.step c x 4 id) 4 id,0) from rfl);have d1:decide ((n.o.length:Int)<id)=false:=by simp;omega
 have hv:id<c.words.length:=by omega
 have hl:=zI (HB.out.trans (inZ hbig));clear hbig HB;have hk:=Blk.new ((w.alloc (.cells (F.cells V n c x) 125)).alloc (.cells qa5 125)) 125 (F.cells V n c x);rw [Zh1,Zh1] at hk
 have hB:RfB w.heap.size (w.heap.size+1) (w.heap.size+1+1) F V n c x V x w (((w.alloc (.cells (F.cells V n c x) 125)).alloc (.cells qa5 125)).alloc (.cells (F.cells V n c x) 125)):=
  ⟨lrZ _,by omega,by omega,hh.alloc _,hj.alloc _,hi.alloc _,hk,hF,hV,(aP.old hV.there oZ).later (hh.alloc _),(aP.old hV.saved oZ).later (hh.alloc _),(aP.old hV.aF oZ).later (hh.alloc _),λ_ _ q=>q⟩
 have hB:RfB w.heap.size (w.heap.size+1) (w.heap.size+1+1) F V n c x V x w (((w.alloc (.cells (F.cells V n c x) 125)).alloc (.cells qa5 125)).alloc (.cells #[sQ F.A n.inn.length F.c,sQ F.N n.o.length F.d,sQ F.Wd c.words.length F.cw,sQ F.Or c.order.length F.co,nQ iQ c.aH,nQ iQ c.cap,sQ V.Th x.there.length V.ct,sQ V.Sa x.saved.length V.cs,sQ V.Gr x.aF.length V.cg,nQ iQ x.em,nQ iQ x.sd,nQ iQ x.done,nQ iQ x.aB] 125)):=hB;obtain ⟨g,hg⟩:∃g,w.heap.size=g:=⟨_,rfl⟩
 have hE:w.heap.size<=g:=Nat.le_of_eq hg;unfold qa5 at *;obtain ⟨HC,HG,HF,HV,hx,hu,ht,hw,hn⟩:=zd9 hC hG hF hV hj hi hk hh ho;obtain ⟨HB,Hg⟩:=zd2 hB hg;clear hC hG hF hV hj hi hk hh ho hB hg;clear f0 f1 f2 f3 f4 f5 f6 f7 f8 f9 f10 f11 f12;go_in;go_upto_region 4 with fail;clear y0 y1 y2 y3 y4 y5 y6 y7 y8 y9 y10 y11 y12 hx hu ht hw;generalize (((w.alloc (.cells (F.cells V n c x) 125)).alloc (.cells #[sQ none 0 0,sQ none 0 0,sQ none 0 0,sQ none 0 0,nQ iQ 0,nQ iQ 0,sQ none 0 0,sQ none 0 0,sQ none 0 0,nQ iQ 0,nQ iQ 0,nQ iQ 0,nQ iQ 0] 125)).alloc (.cells #[sQ F.A n.inn.length F.c,sQ F.N n.o.length F.d,sQ F.Wd c.words.length F.cw,sQ F.Or c.order.length F.co,nQ iQ c.aH,nQ iQ c.cap,sQ V.Th x.there.length V.ct,sQ V.Sa x.saved.length V.cs,sQ V.Gr x.aF.length V.cg,nQ iQ x.em,nQ iQ x.sd,nQ iQ x.done,nQ iQ x.aB] 125))=w1 at *;rw [Hg.out] at HB ⊢;clear Hg hB;generalize g+1+1=g8 at *;generalize g+1=g6 at *;have hH:x.there.length<=1000:=by have:=HG.out.there.len;have:=hn.out;omega
 have hD:x.saved.length<=1000:=by have:=HG.out.saved.len;have:=hn.out;omega
 have hI:x.aF.length<=1000:=by have:=HG.out.aF.len;have:=hn.out;omega
 clear d1;have HL:=zI (show Rf.bI c x 4 id=(qaR x.there c.aH&&!decide (x.em=1)) from rfl);have hy:=zI (show Rf.GoodS c (Rf.step c x 4 id) from ⟨HG.out.there,HG.out.saved,HG.out.aF⟩);obtain ⟨-,-,-,-,y4,-,y6,-⟩:=RfF.aC HB.out.b3;go_wp2_with fail;refine (qaf V.Th V.ct x.there c.aH w1 oZ HB.out.atx.there).mono ?_;rintro e w2 ⟨rfl,rfl⟩;generalize qaR x.there c.aH=b1 at *;clear y4 y6;cases b1
 ·have HE:=zI (hl.out.trans (ipZ (by rw [HL.out];simp)))
  obtain ⟨y0,y1,y2,y3,y4,y5,y6,y7,y8,y9,y10,y11,y12⟩:=RfF.aC HB.out.b3;obtain ⟨z0,z1,z2,z3,z4,z5,z6,z7,z8,z9,z10,z11,z12⟩:=qa3 HB.out.b6;obtain ⟨f0,f1,f2,f3,f4,f5,f6,f7,f8,f9,f10,f11,f12⟩:=qa0 HB.out.b6;go_wp2_with fail;refine Zk1 (v:=.tuple #[.agg (F.cells V n c x),nQ iQ 24]) (by simp [results,results64,go_sem,z0,z1,z2,z3,z4,z5,z6,z7,z8,z9,z10,z11,z12];rfl) rfl ?_;exact bG.of V HE.out (HV.out.later (HB.out.bM _ _ _ _ _ _ _ _ _ _ _ _ _).2) (HB.out.bM _ _ _ _ _ _ _ _ _ _ _ _ _).2 (λ_ _ q=>q)
 by_cases he:x.em=1
 ·have HE:=zI (hl.out.trans (ipZ (by rw [HL.out];simp [he])))
  have e1:(x.em==1)=true:=by simp [he]
  clear he;obtain ⟨y0,y1,y2,y3,y4,y5,y6,y7,y8,y9,y10,y11,y12⟩:=RfF.aC HB.out.b3;obtain ⟨z0,z1,z2,z3,z4,z5,z6,z7,z8,z9,z10,z11,z12⟩:=qa3 HB.out.b6;obtain ⟨f0,f1,f2,f3,f4,f5,f6,f7,f8,f9,f10,f11,f12⟩:=qa0 HB.out.b6;go_wp2_with fail;refine Zk1 (v:=.tuple #[.agg (F.cells V n c x),nQ iQ 24]) (by simp [results,results64,go_sem,z0,z1,z2,z3,z4,z5,z6,z7,z8,z9,z10,z11,z12];rfl) rfl ?_;exact bG.of V HE.out (HV.out.later (HB.out.bM _ _ _ _ _ _ _ _ _ _ _ _ _).2) (HB.out.bM _ _ _ _ _ _ _ _ _ _ _ _ _).2 (λ_ _ q=>q)
 have HD:=zI (hl.out.trans (inZ (by rw [HL.out];simp [he])));have e1:(x.em==1)=false:=by simp [he]
 clear he HL hl;obtain ⟨-,-,-,-,-,-,-,-,-,y9,-⟩:=RfF.aC HB.out.b3;obtain ⟨-,-,-,-,-,-,-,-,-,t9,-⟩:=RfF.aC HB.out.b8;obtain ⟨-,-,-,-,-,-,-,-,-,q9,-⟩:=qa0 HB.out.b8;go_upto_region 33 with fail;clear y9 t9 q9 e1;have hp:=HB.out.em 1;have hd:=zI (show RfB g g6 g8 F V n c x V (Rf.step c x 4 id) w (w1.setCell ⟨g8,9,none⟩ (nQ iQ 1)) from hp);clear hp;generalize w1.setCell ⟨g8,9,none⟩ (nQ iQ 1)=w5 at *;generalize Rf.step c x 4 id=y at *;obtain ⟨V2,hB5⟩:∃V2,RfB g g6 g8 F V n c x V2 y w w5:=⟨_,hd.out⟩
 clear hd;have hd:=zI hB5;clear hB5;obtain ⟨t0,t1,t2,t3,t4,t5,t6,t7,t8,t9,t10,t11,t12⟩:=RfF.aC hd.out.b8;obtain ⟨q0,q1,q2,q3,q4,q5,q6,q7,q8,q9,q10,q11,q12⟩:=qa0 hd.out.b8;go_wp2_with fail;refine (qaZ F V2 n c y w5 HC.out hy.out hd.out.tV hd.out.aty).mono ?_;rintro e w6 ⟨rfl,hq⟩;have hc:=zI (hd.out.to_later hq);clear hq t0 q0 t1 q1 t2 q2 t3 q3 t4 q4 t5 q5 t6 q6 t7 q7 t8 q8 t9 q9 t10 q10 t11 q11 t12 q12;have hs:=zI (show Rf.fin c y 4 id={ y with aB:=if y.aB<Rf.sum c y then Rf.sum c y else y.aB,aF:=y.aF } from rfl);generalize Rf.sum c y=sm at *
 by_cases hb:c.cap<sm
 ·have HE:=zI (HD.out.trans (ipZ hb))
  have d2:decide (c.cap<sm)=true:=by simpa using hb
  clear hb HD;obtain ⟨y0,y1,y2,y3,y4,y5,y6,y7,y8,y9,y10,y11,y12⟩:=RfF.aC hc.out.b3;obtain ⟨z0,z1,z2,z3,z4,z5,z6,z7,z8,z9,z10,z11,z12⟩:=qa3 hc.out.b6;obtain ⟨f0,f1,f2,f3,f4,f5,f6,f7,f8,f9,f10,f11,f12⟩:=qa0 hc.out.b6;go_wp2_with fail;refine Zk1 (v:=.tuple #[.agg (F.cells V n c x),nQ iQ 25]) (by simp [results,results64,go_sem,z0,z1,z2,z3,z4,z5,z6,z7,z8,z9,z10,z11,z12];rfl) rfl ?_;exact bG.of V HE.out (HV.out.later (hc.out.bM _ _ _ _ _ _ _ _ _ _ _ _ _).2) (hc.out.bM _ _ _ _ _ _ _ _ _ _ _ _ _).2 (λ_ _ q=>q)
 have hm:=zI (HD.out.trans (inZ hb));have d2:decide (c.cap<sm)=false:=by simpa using hb
 clear hb HD
 by_cases hf:y.aB<sm
 ·have d3:decide (y.aB<sm)=true:=by simpa using hf
  have HE:=zI (show Rf.do_ c x 4 id=({ y with aB:=sm },0) by rw [hm.out,hs.out,ipZ hf]);clear hf hm;obtain ⟨-,-,-,-,-,y5,-⟩:=RfF.aC hc.out.b3;obtain ⟨-,-,-,-,-,-,-,-,-,-,-,-,t12⟩:=RfF.aC hc.out.b8;obtain ⟨-,-,-,-,-,-,-,-,-,-,-,-,q12⟩:=qa0 hc.out.b8;go_upto_region 38 with fail;have ha:=zI (hc.out.aB sm);clear y5 t12 q12;generalize w6.setCell ⟨g8,12,none⟩ (nQ iQ sm)=w7 at *;obtain ⟨z0,z1,z2,z3,z4,z5,z6,z7,z8,z9,z10,z11,z12⟩:=qa3 ha.out.b6;obtain ⟨f0,f1,f2,f3,f4,f5,f6,f7,f8,f9,f10,f11,f12⟩:=qa0 ha.out.b6;obtain ⟨t0,t1,t2,t3,t4,t5,t6,t7,t8,t9,t10,t11,t12⟩:=RfF.aC ha.out.b8;obtain ⟨q0,q1,q2,q3,q4,q5,q6,q7,q8,q9,q10,q11,q12⟩:=qa0 ha.out.b8;go_wp2_with fail;refine Zk1 (v:=.tuple #[.agg (F.cells V2 n c { y with aB:=sm }),nQ iQ 0]) (by simp [results,results64,go_sem,z0,z1,z2,z3,z4,z5,z6,z7,z8,z9,z10,z11,z12];rfl) rfl ?_;exact bG.of V2 HE.out (ha.out.bM _ _ _ _ _ _ _ _ _ _ _ _ _).1 (ha.out.bM _ _ _ _ _ _ _ _ _ _ _ _ _).2 ha.out.off
 ·have d3:decide (y.aB<sm)=false:=by simpa using hf
  have HE:=zI (show Rf.do_ c x 4 id=(y,0) by rw [hm.out,hs.out,inZ hf]);clear hf hm;obtain ⟨-,-,-,-,-,y5,-⟩:=RfF.aC hc.out.b3;obtain ⟨-,-,-,-,-,-,-,-,-,-,-,-,t12⟩:=RfF.aC hc.out.b8;go_upto_region 38 with fail;have ha:=zI hc.out;clear y5 t12;obtain ⟨z0,z1,z2,z3,z4,z5,z6,z7,z8,z9,z10,z11,z12⟩:=qa3 ha.out.b6;obtain ⟨f0,f1,f2,f3,f4,f5,f6,f7,f8,f9,f10,f11,f12⟩:=qa0 ha.out.b6;obtain ⟨t0,t1,t2,t3,t4,t5,t6,t7,t8,t9,t10,t11,t12⟩:=RfF.aC ha.out.b8;obtain ⟨q0,q1,q2,q3,q4,q5,q6,q7,q8,q9,q10,q11,q12⟩:=qa0 ha.out.b8;go_wp2_with fail;refine Zk1 (v:=.tuple #[.agg (F.cells V2 n c y),nQ iQ 0]) (by simp [results,results64,go_sem,z0,z1,z2,z3,z4,z5,z6,z7,z8,z9,z10,z11,z12];rfl) rfl ?_;exact bG.of V2 HE.out (ha.out.bM _ _ _ _ _ _ _ _ _ _ _ _ _).1 (ha.out.bM _ _ _ _ _ _ _ _ _ _ _ _ _).2 ha.out.off
set_option maxRecDepth 100000 in
theorem qit (F:RfF) (V:RfV) (n:aA) (c:CkN) (x:RfS) (w:Zp1) (hC:RfC n c) (hG:Rf.GoodS c x) (hF:F.Fix n c w) (hV:V.At x w) (hdn:0<=x.done/\x.done<=1000) (id:Int) (hr:Cd.right (5,id)=true) (hbig:¬(c.words.length:Int)<=id):
  Calls prog 64 #[.agg (F.cells V n c x),nQ iQ 5,nQ iQ id] w (bG F V n c x 5 id w):=by
 have ht:=hC.wl;have hL:=hC.nl;obtain ⟨hJ,-⟩:=Rf.eX hr;have hh:Later w ((w.alloc (.cells (F.cells V n c x) 125)).alloc (.cells qa5 125)):=((Later.refl w).alloc _).alloc _;have hl:Blk ((w.alloc (.cells (F.cells V n c x) 125)).alloc (.cells qa5 125)) w.heap.size 125 (F.cells V n c x):=(Blk.new _ _ _).alloc _;have hk:=Blk.new (w.alloc (.cells (F.cells V n c x) 125)) 125 qa5;rw [Zh1] at hk;obtain ⟨y0,y1,y2,y3,y4,y5,y6,y7,y8,y9,y10,y11,y12⟩:=RfF.aC hl;obtain ⟨f0,f1,f2,f3,f4,f5,f6,f7,f8,f9,f10,f11,f12⟩:=qa0 hk;have HB:=zI (show Rf.do_ c x 5 id=if (c.words.length:Int)<=id then (x,10) else if Rf.bI c x 5 id=false then (x,24) else if c.cap<Rf.sum c (Rf.step c x 5 id) then (x,25) else (Rf.fin c (Rf.step c x 5 id) 5 id,0) from rfl);have d1:decide ((n.o.length:Int)<id)=false:=by simp;omega
 have hA:id<c.words.length:=by omega
 have hs:=zI (HB.out.trans (inZ hbig));clear hbig HB;have hm:=Blk.new ((w.alloc (.cells (F.cells V n c x) 125)).alloc (.cells qa5 125)) 125 (F.cells V n c x);rw [Zh1,Zh1] at hm
 have hB:RfB w.heap.size (w.heap.size+1) (w.heap.size+1+1) F V n c x V x w (((w.alloc (.cells (F.cells V n c x) 125)).alloc (.cells qa5 125)).alloc (.cells (F.cells V n c x) 125)):=
  ⟨lrZ _,by omega,by omega,hh.alloc _,hl.alloc _,hk.alloc _,hm,hF,hV,(aP.old hV.there oZ).later (hh.alloc _),(aP.old hV.saved oZ).later (hh.alloc _),(aP.old hV.aF oZ).later (hh.alloc _),λ_ _ q=>q⟩
 have hB:RfB w.heap.size (w.heap.size+1) (w.heap.size+1+1) F V n c x V x w (((w.alloc (.cells (F.cells V n c x) 125)).alloc (.cells qa5 125)).alloc (.cells #[sQ F.A n.inn.length F.c,sQ F.N n.o.length F.d,sQ F.Wd c.words.length F.cw,sQ F.Or c.order.length F.co,nQ iQ c.aH,nQ iQ c.cap,sQ V.Th x.there.length V.ct,sQ V.Sa x.saved.length V.cs,sQ V.Gr x.aF.length V.cg,nQ iQ x.em,nQ iQ x.sd,nQ iQ x.done,nQ iQ x.aB] 125)):=hB;obtain ⟨g,hg⟩:∃g,w.heap.size=g:=⟨_,rfl⟩
 have hN:w.heap.size<=g:=Nat.le_of_eq hg;unfold qa5 at *;obtain ⟨HC,HG,HF,HV,hE,hz,hy,hD,hp⟩:=zd9 hC hG hF hV hl hk hm hh ht;obtain ⟨HB,Hg⟩:=zd2 hB hg;clear hC hG hF hV hl hk hm hh ht hB hg;clear f0 f1 f2 f3 f4 f5 f6 f7 f8 f9 f10 f11 f12;go_in;go_upto_region 4 with fail;clear y0 y1 y2 y3 y4 y5 y6 y7 y8 y9 y10 y11 y12 hE hz hy hD;generalize (((w.alloc (.cells (F.cells V n c x) 125)).alloc (.cells #[sQ none 0 0,sQ none 0 0,sQ none 0 0,sQ none 0 0,nQ iQ 0,nQ iQ 0,sQ none 0 0,sQ none 0 0,sQ none 0 0,nQ iQ 0,nQ iQ 0,nQ iQ 0,nQ iQ 0] 125)).alloc (.cells #[sQ F.A n.inn.length F.c,sQ F.N n.o.length F.d,sQ F.Wd c.words.length F.cw,sQ F.Or c.order.length F.co,nQ iQ c.aH,nQ iQ c.cap,sQ V.Th x.there.length V.ct,sQ V.Sa x.saved.length V.cs,sQ V.Gr x.aF.length V.cg,nQ iQ x.em,nQ iQ x.sd,nQ iQ x.done,nQ iQ x.aB] 125))=w1 at *;rw [Hg.out] at HB ⊢;clear Hg hB;generalize g+1+1=g8 at *;generalize g+1=g6 at *;have hO:x.there.length<=1000:=by have:=HG.out.there.len;have:=hp.out;omega
 have hM:x.saved.length<=1000:=by have:=HG.out.saved.len;have:=hp.out;omega
 have hK:x.aF.length<=1000:=by have:=HG.out.aF.len;have:=hp.out;omega
 clear d1;have HL:=zI (show Rf.bI c x 5 id = !decide (x.sd=1) from rfl);have hH:=zI (show Rf.GoodS c (Rf.step c x 5 id) from ⟨HG.out.there,HG.out.saved,HG.out.aF.with_ (by have:=HC.out.aH;omega)⟩)
 by_cases he:x.sd=1
 ·have HE:=zI (hs.out.trans (ipZ (by rw [HL.out];simp [he])))
  have e1:(x.sd==1)=true:=by simp [he]
  clear he;obtain ⟨y0,y1,y2,y3,y4,y5,y6,y7,y8,y9,y10,y11,y12⟩:=RfF.aC HB.out.b3;obtain ⟨z0,z1,z2,z3,z4,z5,z6,z7,z8,z9,z10,z11,z12⟩:=qa3 HB.out.b6;obtain ⟨f0,f1,f2,f3,f4,f5,f6,f7,f8,f9,f10,f11,f12⟩:=qa0 HB.out.b6;go_wp2_with fail;refine Zk1 (v:=.tuple #[.agg (F.cells V n c x),nQ iQ 24]) (by simp [results,results64,go_sem,z0,z1,z2,z3,z4,z5,z6,z7,z8,z9,z10,z11,z12];rfl) rfl ?_;exact bG.of V HE.out (HV.out.later (HB.out.bM _ _ _ _ _ _ _ _ _ _ _ _ _).2) (HB.out.bM _ _ _ _ _ _ _ _ _ _ _ _ _).2 (λ_ _ q=>q)
 have HD:=zI (hs.out.trans (inZ (by rw [HL.out];simp [he])));have e1:(x.sd==1)=false:=by simp [he]
 clear he HL hs;obtain ⟨-,-,-,-,-,-,-,-,-,-,y10,-⟩:=RfF.aC HB.out.b3;obtain ⟨-,-,-,-,-,-,-,-,-,-,t10,-⟩:=RfF.aC HB.out.b8;obtain ⟨-,-,-,-,-,-,-,-,-,-,q10,-⟩:=qa0 HB.out.b8;go_upto_region 21 with fail;clear y10 t10 q10 e1;have hj:=zI (HB.out.sd 1);generalize w1.setCell ⟨g8,10,none⟩ (nQ iQ 1)=w3 at *;obtain ⟨-,-,-,-,y4,-,-,-,y8,-⟩:=RfF.aC hj.out.b3;go_wp2_with fail;refine (qaN V.Gr V.cg x.aF c.aH w3 hK hj.out.atx.aF).mono ?_;rintro e w2 ⟨A,m,rfl,hI,hq,hv⟩;have hn:=hj.out.to_later (show Later w3 w2 from hv);have hi:=hn.aF A m _ (aP.new hI hq hj.out.b8.lt) (λa e=>ltZ hj.out.b8.lt (hq a e));clear y4 y8;obtain ⟨-,-,-,-,-,-,-,-,t8,-⟩:=RfF.aC hn.b8;obtain ⟨-,-,-,-,-,-,-,-,q8,-⟩:=qa0 hn.b8;have hw:=zI hi;clear hi;clear hn hI hq hv;go_upto_region 33 with fail;clear t8 q8;have hi:=hw.out;clear hw;have hd:=zI (show RfB g g6 g8 F V n c x { V with Gr:=A,cg:=m } (Rf.step c x 5 id) w (w2.setCell ⟨g8,8,none⟩ (sQ A (Rf.with_ x.aF c.aH).length m)) from hi);clear hi;generalize w2.setCell ⟨g8,8,none⟩ (sQ A (Rf.with_ x.aF c.aH).length m)=w5 at *;generalize Rf.step c x 5 id=y at *;obtain ⟨V2,hB5⟩:∃V2,RfB g g6 g8 F V n c x V2 y w w5:=⟨_,hd.out⟩
 clear hd;have hd:=zI hB5;clear hB5;obtain ⟨t0,t1,t2,t3,t4,t5,t6,t7,t8,t9,t10,t11,t12⟩:=RfF.aC hd.out.b8;obtain ⟨q0,q1,q2,q3,q4,q5,q6,q7,q8,q9,q10,q11,q12⟩:=qa0 hd.out.b8;go_wp2_with fail;refine (qaZ F V2 n c y w5 HC.out hH.out hd.out.tV hd.out.aty).mono ?_;rintro e w6 ⟨rfl,hu⟩;have hc:=zI (hd.out.to_later hu);clear hu t0 q0 t1 q1 t2 q2 t3 q3 t4 q4 t5 q5 t6 q6 t7 q7 t8 q8 t9 q9 t10 q10 t11 q11 t12 q12;have hx:=zI (show Rf.fin c y 5 id={ y with aB:=if y.aB<Rf.sum c y then Rf.sum c y else y.aB,aF:=y.aF } from rfl);generalize Rf.sum c y=sm at *
 by_cases hb:c.cap<sm
 ·have HE:=zI (HD.out.trans (ipZ hb))
  have d2:decide (c.cap<sm)=true:=by simpa using hb
  clear hb HD;obtain ⟨y0,y1,y2,y3,y4,y5,y6,y7,y8,y9,y10,y11,y12⟩:=RfF.aC hc.out.b3;obtain ⟨z0,z1,z2,z3,z4,z5,z6,z7,z8,z9,z10,z11,z12⟩:=qa3 hc.out.b6;obtain ⟨f0,f1,f2,f3,f4,f5,f6,f7,f8,f9,f10,f11,f12⟩:=qa0 hc.out.b6;go_wp2_with fail;refine Zk1 (v:=.tuple #[.agg (F.cells V n c x),nQ iQ 25]) (by simp [results,results64,go_sem,z0,z1,z2,z3,z4,z5,z6,z7,z8,z9,z10,z11,z12];rfl) rfl ?_;exact bG.of V HE.out (HV.out.later (hc.out.bM _ _ _ _ _ _ _ _ _ _ _ _ _).2) (hc.out.bM _ _ _ _ _ _ _ _ _ _ _ _ _).2 (λ_ _ q=>q)
 have ho:=zI (HD.out.trans (inZ hb));have d2:decide (c.cap<sm)=false:=by simpa using hb
 clear hb HD
 by_cases hf:y.aB<sm
 ·have d3:decide (y.aB<sm)=true:=by simpa using hf
  have HE:=zI (show Rf.do_ c x 5 id=({ y with aB:=sm },0) by rw [ho.out,hx.out,ipZ hf]);clear hf ho;obtain ⟨-,-,-,-,-,y5,-⟩:=RfF.aC hc.out.b3;obtain ⟨-,-,-,-,-,-,-,-,-,-,-,-,t12⟩:=RfF.aC hc.out.b8;obtain ⟨-,-,-,-,-,-,-,-,-,-,-,-,q12⟩:=qa0 hc.out.b8;go_upto_region 38 with fail;have ha:=zI (hc.out.aB sm);clear y5 t12 q12;generalize w6.setCell ⟨g8,12,none⟩ (nQ iQ sm)=w7 at *;obtain ⟨z0,z1,z2,z3,z4,z5,z6,z7,z8,z9,z10,z11,z12⟩:=qa3 ha.out.b6;obtain ⟨f0,f1,f2,f3,f4,f5,f6,f7,f8,f9,f10,f11,f12⟩:=qa0 ha.out.b6;obtain ⟨t0,t1,t2,t3,t4,t5,t6,t7,t8,t9,t10,t11,t12⟩:=RfF.aC ha.out.b8;obtain ⟨q0,q1,q2,q3,q4,q5,q6,q7,q8,q9,q10,q11,q12⟩:=qa0 ha.out.b8;go_wp2_with fail;refine Zk1 (v:=.tuple #[.agg (F.cells V2 n c { y with aB:=sm }),nQ iQ 0]) (by simp [results,results64,go_sem,z0,z1,z2,z3,z4,z5,z6,z7,z8,z9,z10,z11,z12];rfl) rfl ?_;exact bG.of V2 HE.out (ha.out.bM _ _ _ _ _ _ _ _ _ _ _ _ _).1 (ha.out.bM _ _ _ _ _ _ _ _ _ _ _ _ _).2 ha.out.off
 ·have d3:decide (y.aB<sm)=false:=by simpa using hf
  have HE:=zI (show Rf.do_ c x 5 id=(y,0) by rw [ho.out,hx.out,inZ hf]);clear hf ho;obtain ⟨-,-,-,-,-,y5,-⟩:=RfF.aC hc.out.b3;obtain ⟨-,-,-,-,-,-,-,-,-,-,-,-,t12⟩:=RfF.aC hc.out.b8;go_upto_region 38 with fail;have ha:=zI hc.out;clear y5 t12;obtain ⟨z0,z1,z2,z3,z4,z5,z6,z7,z8,z9,z10,z11,z12⟩:=qa3 ha.out.b6;obtain ⟨f0,f1,f2,f3,f4,f5,f6,f7,f8,f9,f10,f11,f12⟩:=qa0 ha.out.b6;obtain ⟨t0,t1,t2,t3,t4,t5,t6,t7,t8,t9,t10,t11,t12⟩:=RfF.aC ha.out.b8;obtain ⟨q0,q1,q2,q3,q4,q5,q6,q7,q8,q9,q10,q11,q12⟩:=qa0 ha.out.b8;go_wp2_with fail;refine Zk1 (v:=.tuple #[.agg (F.cells V2 n c y),nQ iQ 0]) (by simp [results,results64,go_sem,z0,z1,z2,z3,z4,z5,z6,z7,z8,z9,z10,z11,z12];rfl) rfl ?_;exact bG.of V2 HE.out (ha.out.bM _ _ _ _ _ _ _ _ _ _ _ _ _).1 (ha.out.bM _ _ _ _ _ _ _ _ _ _ _ _ _).2 ha.out.off
set_option maxRecDepth 100000 in
theorem qiu (F:RfF) (V:RfV) (n:aA) (c:CkN) (x:RfS) (w:Zp1) (hC:RfC n c) (hG:Rf.GoodS c x) (hF:F.Fix n c w) (hV:V.At x w) (hdn:0<=x.done/\x.done<=1000) (id:Int) (hr:Cd.right (6,id)=true) (hbig:¬(c.words.length:Int)<=id):
  Calls prog 64 #[.agg (F.cells V n c x),nQ iQ 6,nQ iQ id] w (bG F V n c x 6 id w):=by
 have hT:=hC.wl;have Hp:=hC.nl;obtain ⟨Hd,-⟩:=Rf.eX hr;have hx:Later w ((w.alloc (.cells (F.cells V n c x) 125)).alloc (.cells qa5 125)):=((Later.refl w).alloc _).alloc _;have hK:Blk ((w.alloc (.cells (F.cells V n c x) 125)).alloc (.cells qa5 125)) w.heap.size 125 (F.cells V n c x):=(Blk.new _ _ _).alloc _;have hA:=Blk.new (w.alloc (.cells (F.cells V n c x) 125)) 125 qa5;rw [Zh1] at hA;obtain ⟨y0,y1,y2,y3,y4,y5,y6,y7,y8,y9,y10,y11,y12⟩:=RfF.aC hK;obtain ⟨f0,f1,f2,f3,f4,f5,f6,f7,f8,f9,f10,f11,f12⟩:=qa0 hA;have HB:=zI (show Rf.do_ c x 6 id=if (c.words.length:Int)<=id then (x,10) else if Rf.bI c x 6 id=false then (x,24) else if c.cap<Rf.sum c (Rf.step c x 6 id) then (x,25) else (Rf.fin c (Rf.step c x 6 id) 6 id,0) from rfl);have d1:decide ((n.o.length:Int)<id)=false:=by simp;omega
 have Hf:id<c.words.length:=by omega
 have ht:=zI (HB.out.trans (inZ hbig));clear hbig HB;have hO:=Blk.new ((w.alloc (.cells (F.cells V n c x) 125)).alloc (.cells qa5 125)) 125 (F.cells V n c x);rw [Zh1,Zh1] at hO
 have hB:RfB w.heap.size (w.heap.size+1) (w.heap.size+1+1) F V n c x V x w (((w.alloc (.cells (F.cells V n c x) 125)).alloc (.cells qa5 125)).alloc (.cells (F.cells V n c x) 125)):=
  ⟨lrZ _,by omega,by omega,hx.alloc _,hK.alloc _,hA.alloc _,hO,hF,hV,(aP.old hV.there oZ).later (hx.alloc _),(aP.old hV.saved oZ).later (hx.alloc _),(aP.old hV.aF oZ).later (hx.alloc _),λ_ _ q=>q⟩
 have hB:RfB w.heap.size (w.heap.size+1) (w.heap.size+1+1) F V n c x V x w (((w.alloc (.cells (F.cells V n c x) 125)).alloc (.cells qa5 125)).alloc (.cells #[sQ F.A n.inn.length F.c,sQ F.N n.o.length F.d,sQ F.Wd c.words.length F.cw,sQ F.Or c.order.length F.co,nQ iQ c.aH,nQ iQ c.cap,sQ V.Th x.there.length V.ct,sQ V.Sa x.saved.length V.cs,sQ V.Gr x.aF.length V.cg,nQ iQ x.em,nQ iQ x.sd,nQ iQ x.done,nQ iQ x.aB] 125)):=hB;obtain ⟨g,hg⟩:∃g,w.heap.size=g:=⟨_,rfl⟩
 have Hs:w.heap.size<=g:=Nat.le_of_eq hg;unfold qa5 at *;obtain ⟨HC,HG,HF,HV,Hb,h9,He,Hi,hs⟩:=zd9 hC hG hF hV hK hA hO hx hT;obtain ⟨HB,Hg⟩:=zd2 hB hg;clear hC hG hF hV hK hA hO hx hT hB hg;clear f0 f1 f2 f3 f4 f5 f6 f7 f8 f9 f10 f11 f12;go_in;go_upto_region 4 with fail;clear y0 y1 y2 y3 y4 y5 y6 y7 y8 y9 y10 y11 y12 Hb h9 He Hi;generalize (((w.alloc (.cells (F.cells V n c x) 125)).alloc (.cells #[sQ none 0 0,sQ none 0 0,sQ none 0 0,sQ none 0 0,nQ iQ 0,nQ iQ 0,sQ none 0 0,sQ none 0 0,sQ none 0 0,nQ iQ 0,nQ iQ 0,nQ iQ 0,nQ iQ 0] 125)).alloc (.cells #[sQ F.A n.inn.length F.c,sQ F.N n.o.length F.d,sQ F.Wd c.words.length F.cw,sQ F.Or c.order.length F.co,nQ iQ c.aH,nQ iQ c.cap,sQ V.Th x.there.length V.ct,sQ V.Sa x.saved.length V.cs,sQ V.Gr x.aF.length V.cg,nQ iQ x.em,nQ iQ x.sd,nQ iQ x.done,nQ iQ x.aB] 125))=w1 at *;rw [Hg.out] at HB ⊢;clear Hg hB;generalize g+1+1=g8 at *;generalize g+1=g6 at *;have Ht:x.there.length<=1000:=by have:=HG.out.there.len;have:=hs.out;omega
 have Hr:x.saved.length<=1000:=by have:=HG.out.saved.len;have:=hs.out;omega
 have Hn:x.aF.length<=1000:=by have:=HG.out.aF.len;have:=hs.out;omega
 clear d1;have HL:=zI (show Rf.bI c x 6 id=(qaR x.aF id&&(Rf.ready c x id&&Rf.back c x id)) from rfl);have hz:=Rf.fU hr dZ dZ;obtain ⟨m,hm⟩:∃m:Nat,id=((m+1:Nat):Int):=⟨(id-1).toNat,by omega⟩
 have hE:m<n.o.length:=by have:=hs.out;omega
 have hU:=zI (λ(W:Zp1) (h:Later w W)=>(show Calls prog 98 #[.agg (F.cells V n c x),nQ iQ id] W λe w'=>e=.returned (.bool (Rf.ready c x id))/\Later W w' from by rw [hm];exact qby F V n c x W HC.out HG.out (HF.out.later h) (HV.out.later h) m hE));have hS:=HC.out.rng m hE;have hD:=HC.out.ins m hE;rw [←hm] at hD;have Hq:=(HC.out.ok.2.2 _ (gmZ hE)).2.2.1;have h0:=zI (show Rf.GoodS c (Rf.step c x 6 id) from ⟨HG.out.there,HG.out.saved,Rf.Good.gr _ HG.out.aF (by rw [hD];exact hS)⟩);have j1:iQ.wrap (id-1)=(m:Int):=by rw [Zc1 _ oZ];omega
 have Hl:=HC.out.ol;have j2:iQ.wrap ((c.order.length:Int)-1)=(c.order.length:Int)-1:=Zc1 _ oZ;have j3:iQ.wrap ((c.order.length:Int)-1-x.done)=(c.order.length:Int)-1-x.done:=Zc1 _ oZ;have hQ:=zI (show Rf.back c x id=(decide (0<=(c.order.length:Int)-1-x.done)&&decide (c.order.getD ((c.order.length:Int)-1-x.done).toNat 0=id)) from rfl);have Hj:=zI (show Rf.step c x 6 id={ x with aF:=Rf.gr x.aF n.o[m].ins,done:=x.done+1 } from by rw [←hD];rfl);obtain ⟨h8,Hm,Ho⟩:=zd3 hS hm hD;clear hS hm hD;clear hz;obtain ⟨-,-,-,y3,-,-,-,-,y8,-,-,y11,-⟩:=RfF.aC HB.out.b3;go_upto_region 24 with fail;go_wp2_with fail;refine (qaf V.Gr V.cg x.aF id w1 oZ HB.out.atx.aF).mono ?_;rintro e w2 ⟨rfl,rfl⟩;generalize qaR x.aF id=b1 at *;clear y3 y8 y11;cases b1
 ·have HE:=zI (ht.out.trans (ipZ (by rw [HL.out];simp)))
  obtain ⟨y0,y1,y2,y3,y4,y5,y6,y7,y8,y9,y10,y11,y12⟩:=RfF.aC HB.out.b3;obtain ⟨z0,z1,z2,z3,z4,z5,z6,z7,z8,z9,z10,z11,z12⟩:=qa3 HB.out.b6;obtain ⟨f0,f1,f2,f3,f4,f5,f6,f7,f8,f9,f10,f11,f12⟩:=qa0 HB.out.b6;go_wp2_with fail;refine Zk1 (v:=.tuple #[.agg (F.cells V n c x),nQ iQ 24]) (by simp [results,results64,go_sem,z0,z1,z2,z3,z4,z5,z6,z7,z8,z9,z10,z11,z12];rfl) rfl ?_;exact bG.of V HE.out (HV.out.later (HB.out.bM _ _ _ _ _ _ _ _ _ _ _ _ _).2) (HB.out.bM _ _ _ _ _ _ _ _ _ _ _ _ _).2 (λ_ _ q=>q)
 obtain ⟨y0,y1,y2,y3,y4,y5,y6,y7,y8,y9,y10,y11,y12⟩:=RfF.aC HB.out.b3;go_wp2_with fail;refine (hU.out w1 HB.out.later).mono ?_;rintro e w3 ⟨rfl,h2⟩;have ha:=zI (HB.out.to_later h2);clear h2 y0 y1 y2 y3 y4 y5 y6 y7 y8 y9 y10 y11 y12;generalize Rf.ready c x id=b3 at *;cases b3
 ·have HE:=zI (ht.out.trans (ipZ (by rw [HL.out];simp)))
  obtain ⟨y0,y1,y2,y3,y4,y5,y6,y7,y8,y9,y10,y11,y12⟩:=RfF.aC ha.out.b3;obtain ⟨z0,z1,z2,z3,z4,z5,z6,z7,z8,z9,z10,z11,z12⟩:=qa3 ha.out.b6;obtain ⟨f0,f1,f2,f3,f4,f5,f6,f7,f8,f9,f10,f11,f12⟩:=qa0 ha.out.b6;go_wp2_with fail;refine Zk1 (v:=.tuple #[.agg (F.cells V n c x),nQ iQ 24]) (by simp [results,results64,go_sem,z0,z1,z2,z3,z4,z5,z6,z7,z8,z9,z10,z11,z12];rfl) rfl ?_;exact bG.of V HE.out (HV.out.later (ha.out.bM _ _ _ _ _ _ _ _ _ _ _ _ _).2) (ha.out.bM _ _ _ _ _ _ _ _ _ _ _ _ _).2 (λ_ _ q=>q)
 obtain ⟨aa,haa⟩:∃aa:Int,(c.order.length:Int)-1-x.done=aa:=⟨_,rfl⟩
 rw [haa] at hQ j3 ⊢
 by_cases hy:aa<0
 ·have e1:decide (aa<0)=true:=by simpa using hy
  have h3:Rf.back c x id=false:=by rw [hQ.out,decide_eq_false oZ];simp
  have HE:=zI (ht.out.trans (ipZ (by rw [HL.out,h3];simp)));clear hy h3 haa;obtain ⟨y0,y1,y2,y3,y4,y5,y6,y7,y8,y9,y10,y11,y12⟩:=RfF.aC ha.out.b3;obtain ⟨z0,z1,z2,z3,z4,z5,z6,z7,z8,z9,z10,z11,z12⟩:=qa3 ha.out.b6;obtain ⟨f0,f1,f2,f3,f4,f5,f6,f7,f8,f9,f10,f11,f12⟩:=qa0 ha.out.b6;go_wp2_with fail;refine Zk1 (v:=.tuple #[.agg (F.cells V n c x),nQ iQ 24]) (by simp [results,results64,go_sem,z0,z1,z2,z3,z4,z5,z6,z7,z8,z9,z10,z11,z12];rfl) rfl ?_;exact bG.of V HE.out (HV.out.later (ha.out.bM _ _ _ _ _ _ _ _ _ _ _ _ _).2) (ha.out.bM _ _ _ _ _ _ _ _ _ _ _ _ _).2 (λ_ _ q=>q)
 have e1:decide (aa<0)=false:=by simpa using hy
 obtain ⟨j,rfl⟩:=ezZ (show 0<=aa by omega);have hW:j<c.order.length:=by omega
 obtain ⟨b5,o5,hP,-,hv⟩:=ha.out.tV.ord j hW
 change _=some (Za1 iQ (c.order.getD j 0)) at hv
 have hL:Rf.back c x id=decide (c.order.getD j 0=id):=by rw [hQ.out,decide_eq_true (show (0:Int)<=(j:Int) by omega)];simp
 generalize c.order.getD j 0=oj at *;have k1:(0:Int)<=(j:Int):=by omega
 have k2:(j:Int)<(c.order.length:Int):=by omega
 by_cases ho:oj=id
 rotate_left
 ·have e2:(oj != id)=true:=by simp [ho]
  have HE:=zI (ht.out.trans (ipZ (by rw [HL.out,hL];simp [ho])));clear ho hL haa hy;obtain ⟨-,-,-,y3,-⟩:=RfF.aC ha.out.b3;rw [hP] at y3;go_upto_region 25 with fail;clear y3 hP hv;obtain ⟨y0,y1,y2,y3,y4,y5,y6,y7,y8,y9,y10,y11,y12⟩:=RfF.aC ha.out.b3;obtain ⟨z0,z1,z2,z3,z4,z5,z6,z7,z8,z9,z10,z11,z12⟩:=qa3 ha.out.b6;obtain ⟨f0,f1,f2,f3,f4,f5,f6,f7,f8,f9,f10,f11,f12⟩:=qa0 ha.out.b6;go_wp2_with fail;refine Zk1 (v:=.tuple #[.agg (F.cells V n c x),nQ iQ 24]) (by simp [results,results64,go_sem,z0,z1,z2,z3,z4,z5,z6,z7,z8,z9,z10,z11,z12];rfl) rfl ?_;exact bG.of V HE.out (HV.out.later (ha.out.bM _ _ _ _ _ _ _ _ _ _ _ _ _).2) (ha.out.bM _ _ _ _ _ _ _ _ _ _ _ _ _).2 (λ_ _ q=>q)
 have e2:(oj != id)=false:=by simp [ho]
 have HD:=zI (ht.out.trans (inZ (by rw [HL.out,hL];simp [ho])));clear ho hL HL ht hU hQ hy;obtain ⟨-,-,-,y3,-⟩:=RfF.aC ha.out.b3;rw [hP] at y3;go_upto_region 26 with fail;clear y3 e1 e2 hv hP k1 k2 hW haa;obtain ⟨b,off,S,sc,J,ic,Q,qc,hZ,Hk,-,hI,-⟩:=HF.out.net.2.at_ hE;generalize n.o[m]=v at *;obtain ⟨⟨-,-,-,-,-,-,-,-,u8,-⟩,-,h4,-⟩:=Hk;have u8:=ha.out.later.cell u8;obtain ⟨-,y1,-⟩:=RfF.aC ha.out.b3;rw [hZ] at y1;have k3:(0:Int)<=(m:Int):=by omega
 have k4:(m:Int)<(n.o.length:Int):=by omega
 have Hc:=zI (λj=>Rf.Good.gr (v.ins.take j) HG.out.aF (λi hi=>h8.out i (Zh hi)));have Hh:=zI h4;clear h4;clear hI hZ;go_upto_region 28 with fail;clear y1 u8
 go_loopw [11] (λi wx=>∃(j:Nat) (A:Option Addr) (mm:Nat),j<=v.ins.length/\i=nQ iQ (j:Int)/\RfB g g6 g8 F V n c x { V with Gr:=A,cg:=mm } { x with aF:=Rf.gr x.aF (v.ins.take j) } w wx) (λi _=>v.ins.length-(intOf i).toNat)
 case atStart=>exact ⟨0,V.Gr,V.cg,Zt _,rfl,ha.out⟩
 case round=>
  obtain ⟨j,A,mm,hj,rfl,hk⟩:=hrel
  by_cases hR:j<v.ins.length
  ·obtain ⟨b5,o5,rfl,-,hv⟩:=Hh.out.below hk.later (lrZ _) j hR
   rw [qa2 hR] at hv
   have hN:Rf.gr x.aF (v.ins.take (j+1))=if v.ins[j]≠0 then Rf.with_ (Rf.gr x.aF (v.ins.take j)) v.ins[j] else Rf.gr x.aF (v.ins.take j):=by
    unfold Rf.gr;rw [Zb hR,List.foldl_append];rfl
   have Ha:(Rf.gr x.aF (v.ins.take j)).length<=1000:=by have:=(Hc.out j).len;have:=hs.out;omega
   have k5:(j:Int)<(v.ins.length:Int):=by omega
   generalize v.ins[j]=u at *
   by_cases hu:u=0
   ·have e1:(u != 0)=false:=by simp [hu]
    have HJ:=zI (show Rf.gr x.aF (v.ins.take (j+1))=Rf.gr x.aF (v.ins.take j) by rw [hN,inZ (by simp [hu])]);have hc:=zI hk;clear hu hN hk;go_wp2_with fail;go_roundw
    case rel=>exact ⟨j+1,A,mm,by omega,by go_num,by rw [HJ.out];exact hc.out⟩
    case measure=>simp [intOf];omega
   ·have e1:(u != 0)=true:=by simp [hu]
    have HJ:=zI (show Rf.gr x.aF (v.ins.take (j+1))=Rf.with_ (Rf.gr x.aF (v.ins.take j)) u by rw [hN,ipZ (by simpa using hu)]);have hc:=zI hk;clear hu hN;generalize Rf.gr x.aF (v.ins.take j)=gj at *;go_upto_region 31 with fail;obtain ⟨-,-,-,-,-,-,-,-,t8,-⟩:=RfF.aC hc.out.b8;clear hk e1
    change wr.cell? ⟨g8,8,none⟩=some (sQ A gj.length mm) at t8
    have hq:Later wr wr.drew:=(Later.refl _).drew
    go_still_tail 6,krZ
    change wpList _ _ _ _ _ wr.drew
    clear t8 hv;go_wp2_with fail;refine (qaN A mm gj u wr.drew Ha ((hc.out.gr.later hq).1)).mono ?_;rintro e w2 ⟨A2,m2,rfl,h7,hn,hY⟩;have hJ:Later wr.drew w2:=hY;obtain ⟨-,-,-,-,-,-,-,-,s0,-⟩:=RfF.aC ((hc.out.to_later (hq.trans hJ)).b8);obtain ⟨-,-,-,-,-,-,-,-,q8,-⟩:=qa0 ((hc.out.to_later (hq.trans hJ)).b8)
    change w2.cell? ⟨g8,8,none⟩=some (sQ A gj.length mm) at s0
    have hd:=zI (((hc.out.to_later hq).to_later hJ).aF A2 m2 _ (aP.new h7 hn (hc.out.to_later hq).b8.lt) (λa e=>ltZ (hc.out.to_later hq).b8.lt (hn a e)));clear h7 hn hY hJ hq hc;go_wp2_with fail;go_roundw
    case rel=>exact ⟨j+1,A2,m2,by omega,by go_num,by rw [HJ.out];exact hd.out⟩
    case measure=>simp [intOf];omega
  ·obtain rfl:j=v.ins.length:=by omega
   rw [Zg] at hk;have hc:=zI hk;clear hk;obtain ⟨-,-,-,-,-,-,-,-,-,-,-,t11,-⟩:=RfF.aC hc.out.b8;obtain ⟨-,-,-,-,-,-,-,-,-,-,-,q11,-⟩:=qa0 hc.out.b8
   change wr.cell? ⟨g8,11,none⟩=some (nQ iQ x.done) at t11
   have j4:iQ.wrap (x.done+1)=x.done+1:=Zc1 _ oZ;go_upto_region 33 with fail;clear t11 q11 j4;have h6:=hc.out.done (x.done+1);have hl:=zI (show RfB g g6 g8 F V n c x { V with Gr:=A,cg:=mm } (Rf.step c x 6 id) w (wr.setCell ⟨g8,11,none⟩ (nQ iQ (x.done+1))) from by rw [Hj.out];exact h6);clear h6;generalize wr.setCell ⟨g8,11,none⟩ (nQ iQ (x.done+1))=w5 at *;generalize Rf.step c x 6 id=y at *;obtain ⟨V2,hB5⟩:∃V2,RfB g g6 g8 F V n c x V2 y w w5:=⟨_,hl.out⟩
   clear hl hc;have hl:=zI hB5;have h5:=zI (show y.aF.length<=1000 by have:=h0.out.aF.len;have:=hs.out;omega);clear hB5;obtain ⟨t0,t1,t2,t3,t4,t5,t6,t7,t8,t9,t10,t11,t12⟩:=RfF.aC hl.out.b8;obtain ⟨q0,q1,q2,q3,q4,q5,q6,q7,q8,q9,q10,q11,q12⟩:=qa0 hl.out.b8;go_wp2_with fail;refine (qaZ F V2 n c y w5 HC.out h0.out hl.out.tV hl.out.aty).mono ?_;rintro e w6 ⟨rfl,hX⟩;have hd:=zI (hl.out.to_later hX);clear hX t0 q0 t1 q1 t2 q2 t3 q3 t4 q4 t5 q5 t6 q6 t7 q7 t8 q8 t9 q9 t10 q10 t11 q11 t12 q12;have h1:=zI (show Rf.fin c y 6 id={ y with aB:=if y.aB<Rf.sum c y then Rf.sum c y else y.aB,aF:=Rf.without y.aF id } from rfl);generalize Rf.sum c y=sm at *
   by_cases he:c.cap<sm
   ·have HE:=zI (HD.out.trans (ipZ he))
    have d2:decide (c.cap<sm)=true:=by simpa using he
    clear he HD;obtain ⟨y0,y1,y2,y3,y4,y5,y6,y7,y8,y9,y10,y11,y12⟩:=RfF.aC hd.out.b3;obtain ⟨z0,z1,z2,z3,z4,z5,z6,z7,z8,z9,z10,z11,z12⟩:=qa3 hd.out.b6;obtain ⟨f0,f1,f2,f3,f4,f5,f6,f7,f8,f9,f10,f11,f12⟩:=qa0 hd.out.b6;go_wp2_with fail;refine Zk1 (v:=.tuple #[.agg (F.cells V n c x),nQ iQ 25]) (by simp [results,results64,go_sem,z0,z1,z2,z3,z4,z5,z6,z7,z8,z9,z10,z11,z12];rfl) rfl ?_;exact bG.of V HE.out (HV.out.later (hd.out.bM _ _ _ _ _ _ _ _ _ _ _ _ _).2) (hd.out.bM _ _ _ _ _ _ _ _ _ _ _ _ _).2 (λ_ _ q=>q)
   have hM:=zI (HD.out.trans (inZ he));have d2:decide (c.cap<sm)=false:=by simpa using he
   clear he HD
   by_cases hw:y.aB<sm
   ·have d3:decide (y.aB<sm)=true:=by simpa using hw
    have HE:=zI (show Rf.do_ c x 6 id=({ y with aB:=sm,aF:=Rf.without y.aF id },0) by rw [hM.out,h1.out,ipZ hw]);clear hw hM;obtain ⟨-,-,-,-,-,y5,-⟩:=RfF.aC hd.out.b3;obtain ⟨-,-,-,-,-,-,-,-,-,-,-,-,t12⟩:=RfF.aC hd.out.b8;obtain ⟨-,-,-,-,-,-,-,-,-,-,-,-,q12⟩:=qa0 hd.out.b8;go_upto_region 38 with fail;have hf:=zI (hd.out.aB sm);clear y5 t12 q12;generalize w6.setCell ⟨g8,12,none⟩ (nQ iQ sm)=w7 at *;obtain ⟨-,-,-,-,-,-,-,-,t8,-⟩:=RfF.aC hf.out.b8;obtain ⟨-,-,-,-,-,-,-,-,q8,-⟩:=qa0 hf.out.b8;go_wp2_with fail;refine (qb3 V2.Gr V2.cg y.aF id w7 h5.out hf.out.gr.1).mono ?_;rintro e w8 ⟨A,m,rfl,hI,hp,hH⟩;have hh:=hf.out.to_later (show Later w7 w8 from hH);have hb:=zI (hh.aF A m _ (aP.new hI hp hf.out.b8.lt) (λa e=>ltZ hf.out.b8.lt (hp a e)));clear t8 q8;obtain ⟨-,-,-,-,-,-,-,-,t8,-⟩:=RfF.aC hh.b8;obtain ⟨-,-,-,-,-,-,-,-,q8,-⟩:=qa0 hh.b8;clear hh hI hp hH;go_upto_region 40 with fail;clear t8 q8;generalize w8.setCell ⟨g8,8,none⟩ (sQ A (Rf.without y.aF id).length m)=w9 at *;obtain ⟨z0,z1,z2,z3,z4,z5,z6,z7,z8,z9,z10,z11,z12⟩:=qa3 hb.out.b6;obtain ⟨f0,f1,f2,f3,f4,f5,f6,f7,f8,f9,f10,f11,f12⟩:=qa0 hb.out.b6;obtain ⟨t0,t1,t2,t3,t4,t5,t6,t7,t8,t9,t10,t11,t12⟩:=RfF.aC hb.out.b8;obtain ⟨q0,q1,q2,q3,q4,q5,q6,q7,q8,q9,q10,q11,q12⟩:=qa0 hb.out.b8;go_wp2_with fail;refine Zk1 (v:=.tuple #[.agg (F.cells { V2 with Gr:=A,cg:=m } n c { y with aB:=sm,aF:=Rf.without y.aF id }),nQ iQ 0]) (by simp [results,results64,go_sem,z0,z1,z2,z3,z4,z5,z6,z7,z8,z9,z10,z11,z12];rfl) rfl ?_;exact bG.of { V2 with Gr:=A,cg:=m } HE.out (hb.out.bM _ _ _ _ _ _ _ _ _ _ _ _ _).1 (hb.out.bM _ _ _ _ _ _ _ _ _ _ _ _ _).2 hb.out.off
   ·have d3:decide (y.aB<sm)=false:=by simpa using hw
    have HE:=zI (show Rf.do_ c x 6 id=({ y with aF:=Rf.without y.aF id },0) by rw [hM.out,h1.out,inZ hw]);clear hw hM;obtain ⟨-,-,-,-,-,y5,-⟩:=RfF.aC hd.out.b3;obtain ⟨-,-,-,-,-,-,-,-,-,-,-,-,t12⟩:=RfF.aC hd.out.b8;go_upto_region 38 with fail;have hf:=zI hd.out;clear y5 t12;obtain ⟨-,-,-,-,-,-,-,-,t8,-⟩:=RfF.aC hf.out.b8;obtain ⟨-,-,-,-,-,-,-,-,q8,-⟩:=qa0 hf.out.b8;go_wp2_with fail;refine (qb3 V2.Gr V2.cg y.aF id w6 h5.out hf.out.gr.1).mono ?_;rintro e w8 ⟨A,m,rfl,hI,hp,hH⟩;have hh:=hf.out.to_later (show Later w6 w8 from hH);have hb:=zI (hh.aF A m _ (aP.new hI hp hf.out.b8.lt) (λa e=>ltZ hf.out.b8.lt (hp a e)));clear t8 q8;obtain ⟨-,-,-,-,-,-,-,-,t8,-⟩:=RfF.aC hh.b8;obtain ⟨-,-,-,-,-,-,-,-,q8,-⟩:=qa0 hh.b8;clear hh hI hp hH;go_upto_region 40 with fail;clear t8 q8;generalize w8.setCell ⟨g8,8,none⟩ (sQ A (Rf.without y.aF id).length m)=w9 at *;obtain ⟨z0,z1,z2,z3,z4,z5,z6,z7,z8,z9,z10,z11,z12⟩:=qa3 hb.out.b6;obtain ⟨f0,f1,f2,f3,f4,f5,f6,f7,f8,f9,f10,f11,f12⟩:=qa0 hb.out.b6;obtain ⟨t0,t1,t2,t3,t4,t5,t6,t7,t8,t9,t10,t11,t12⟩:=RfF.aC hb.out.b8;obtain ⟨q0,q1,q2,q3,q4,q5,q6,q7,q8,q9,q10,q11,q12⟩:=qa0 hb.out.b8;go_wp2_with fail;refine Zk1 (v:=.tuple #[.agg (F.cells { V2 with Gr:=A,cg:=m } n c { y with aF:=Rf.without y.aF id }),nQ iQ 0]) (by simp [results,results64,go_sem,z0,z1,z2,z3,z4,z5,z6,z7,z8,z9,z10,z11,z12];rfl) rfl ?_;exact bG.of { V2 with Gr:=A,cg:=m } HE.out (hb.out.bM _ _ _ _ _ _ _ _ _ _ _ _ _).1 (hb.out.bM _ _ _ _ _ _ _ _ _ _ _ _ _).2 hb.out.off
theorem ref18_do (F:RfF) (V:RfV) (n:aA) (c:CkN) (x:RfS) (w:Zp1) (hC:RfC n c) (hG:Rf.GoodS c x) (hF:F.Fix n c w) (hV:V.At x w) (hdn:0<=x.done/\x.done<=1000) (k id:Int) (hr:Cd.right (k,id)=true):
  Calls prog 64 #[.agg (F.cells V n c x),nQ iQ k,nQ iQ id] w (bG F V n c x k id w):=by
 by_cases ha:(c.words.length:Int)<=id
 ·exact qio F V n c x w hC hG hF hV hdn k id hr ha
 ·rcases (Rf.eX hr).2 with rfl|rfl|rfl|rfl|rfl|rfl
  ·exact qip F V n c x w hC hG hF hV hdn id hr ha
  ·exact qiq F V n c x w hC hG hF hV hdn id hr ha
  ·exact qir F V n c x w hC hG hF hV hdn id hr ha
  ·exact qis F V n c x w hC hG hF hV hdn id hr ha
  ·exact qit F V n c x w hC hG hF hV hdn id hr ha
  ·exact qiu F V n c x w hC hG hF hV hdn id hr ha
theorem qd4 (A N:Option Addr) (c d:Nat) (n:aA) (w:Zp1) (hok:n.ok) (hR:bC w A N n) (hd:n.o.length<=d) (hc:n.inn.length<=c) (hcm:c<=9223372036854775807) (hck:Nt.check n=0):
  Calls prog 35 #[.agg #[sQ A n.inn.length c,sQ N n.o.length d]] w (qfX (Nt.words n) w):=by
 obtain ⟨i0,hi,hO,hY,hK⟩:=info_parts qag;have h4:=(Nt.aL hck).2.1;have hG:Later w (w.alloc (.cells #[sQ A n.inn.length c,sQ N n.o.length d] 37)):=(Later.refl w).alloc _;obtain ⟨HR,hB,hT,hr⟩:=zd4 hR hG hok hck;clear hR hG hok hck;go_in;go_wp2_with fail;generalize w.alloc (.cells #[sQ A n.inn.length c,sQ N n.o.length d] 37)=w1 at *;refine (qax A N c d n w1 hT.out (HR.out.below hB.out (lrZ _)) hd hc hcm).mono ?_;rintro e w2 ⟨hC,⟨-,g,rfl,-,hm⟩|⟨hZ,-⟩⟩
 rotate_left
 ·exact absurd hr.out hZ
 have hv:=hB.out.call hC;have hp:=Nt.iL hr.out;have hx:=Nt.lU hr.out;have hE:(Nt.shapes n).map Safe.prod=Nt.words n:=rfl;clear hC;generalize Nt.shapes n=sh at *;have hV:sh.length<=513:=by omega
 rw [←hp];obtain ⟨hH,ht,h3,hL,hJ⟩:=zd5 hv hm hp hx hE;clear hv hm hp hx hE;go_wp2_with fail
 go_loopw [6,7] (λo i wx=>∃k:Nat,k<=sh.length/\i=nQ iQ (k:Int)/\wx.ownsRow w2.heap.size 3 1 o k (qae ((sh.take k).map Safe.prod))/\Later w2 wx) (λ_ i _=>sh.length-(intOf i).toNat)
 case atStart=>exact ⟨0,Zt _,rfl,by simpa [qae] using World.ownsRow_nil w2 w2.heap.size 3 1,Later.refl _⟩
 case round=>
  obtain ⟨k,hk,rfl,hown,hh⟩:=hrel;obtain ⟨Ao,co,rfl⟩:=qa6 hown
  by_cases hs:k<sh.length
  ·have hF:=hL.out _ (gmZ hs)
   obtain ⟨S,sc,y,hI,h1,h2,-⟩:=(ht.out.below hh (lrZ _)).at_ hs;have hy:qae ((sh.take (k+1)).map Safe.prod)=qae ((sh.take k).map Safe.prod)++[nQ iQ (Safe.prod sh[k])]:=by rw [Zb hs,List.map_append,List.map_singleton,qbc]
   generalize sh[k]=s at *;generalize qae ((sh.take k).map Safe.prod)=vs at *;have k0:(k:Int)<(sh.length:Int):=by omega
   obtain ⟨hf,hD,hP,HI,hN⟩:=zd5 hown hh hF hI hy;clear hown hh hF hI hy;go_wp2_with fail;refine (qal S sc s _ hP.out HI.out).mono ?_;rintro e w3 ⟨rfl,rfl⟩;have ho:=qa8 hf.out (.cells #[nQ iQ (Safe.prod s)] 3);have hg:=hD.out.alloc (.cells #[nQ iQ (Safe.prod s)] 3);have hM:=hg.size;rw [Zh1] at hM;have hw:=zI (λb (hb:(Zb1 Ao k co).ownBlock=some b)=>(hf.out.lt b hb).1);go_wp2_with (at_builtin;refine wpList_append_own_at _ rfl _ _ 22 rfl w2.heap.size 3 i0 (nQ iQ 0) 1 8 underlying22 hi hO hY hK rfl dZ _ _ _ rfl ho ⟨wr.heap.size,0,none⟩ 1 1 [nQ iQ (Safe.prod s)] rfl rfl ?c1 (by intro u hu;simp at hu;subst hu;rfl) (by unfold maxLen;omega) oZ ?c2 ?_)
   first|(case c1=>exact qap wr _ _)|skip
   case c2=>simp;omega
   intro v' w4 ha hgrow _ hQ;have hA:Later w2 w4:=Below.grown hg hgrow soZ (λb hb=>hw.out b hb);rw [←hN.out] at ha;have hj:=zI ha;have hW:=zI hA;clear ha hA;clear hgrow hQ ho hg hw;go_wp2_with fail;go_roundw
   case rel=>exact ⟨k+1,by omega,by go_num,hj.out,hW.out⟩
   case measure=>simp [intOf];omega
  ·obtain rfl:k=sh.length:=by omega
   rw [Zg] at hown;have hq:=hJ.out;have hn:(Nt.words n).length=sh.length:=by rw [←hq];simp
   rw [hq] at hown;rw [←hn] at hown;have he:wr.ownsRow w2.heap.size 3 1 (sQ Ao (Nt.words n).length co) (Nt.words n).length ((Nt.words n).map (Za1 iQ)):=hown;obtain ⟨q1,q2,q3⟩:=qak he;have hl:=hH.out.trans hh;rw [←hn];obtain ⟨hf,hz,Hq,hU,hX,hS,hD,Hl,h0⟩:=zd9 hown he hq q1 q2 q3 hh hl hn;clear hown he hq q1 q2 q3 hh hl hn;go_wp2_with fail;go_ret;exact ⟨Ao,co,rfl,hU.out,hX.out,hS.out,Hl.out⟩
def qiv (os:List Int) (w:Zp1) (e:Ending) (w':Zp1):Prop:=
 ∃A c,e=.returned (sQ A os.length c)/\Ints iQ w' A os/\os.length<=c/\c<=9223372036854775807/\(∀a,A=some a->w.heap.size<=a.block)/\Below w.heap.size w w'
theorem qfJ (A N:Option Addr) (c d:Nat) (n:aA) (w:Zp1) (hok:n.ok) (hR:bC w A N n) (hd:n.o.length<=d) (hc:n.inn.length<=c) (hcm:c<=9223372036854775807) (hck:Nt.check n=0):
  Calls prog 63 #[.agg #[sQ A n.inn.length c,sQ N n.o.length d]] w (qiv (Nt.aD n) w):=by
 obtain ⟨i0,hi,hZ,Hf,hW⟩:=info_parts qag;have Hi:=(Nt.aL hck).2.1;have hK:=Blk.new w 37 #[sQ A n.inn.length c,sQ N n.o.length d];have hU:Later w (w.alloc (.cells #[sQ A n.inn.length c,sQ N n.o.length d] 37)):=(Later.refl w).alloc _;obtain ⟨HR,hN,h6,hD,Ha⟩:=zd5 hR hU hok hck hK;clear hR hU hok hck hK;go_in;go_wp2_with fail;generalize w.alloc (.cells #[sQ A n.inn.length c,sQ N n.o.length d] 37)=w1 at *;refine (qax A N c d n w1 h6.out (HR.out.below hN.out (lrZ _)) hd hc hcm).mono ?_;rintro e w2 ⟨hB,⟨-,g,rfl,-,hv⟩|⟨Hg,-⟩⟩
 rotate_left
 ·exact absurd hD.out Hg
 have hI:=hN.out.call hB;have hJ:=(show Later w1 w2 from hB).blk Ha.out;have hA:=Nt.iL hD.out;have hm:=λk hk=>@Nt.kS n hD.out k hk
 have hL:=λk hk=>@Nt.mU n k hk
 clear hB;generalize Nt.shapes n=sh at *;rw [←hA];have hr:Later w2 (w2.alloc (.cells #[nQ iQ 0] 3)):=(Later.refl w2).alloc _;have hj:(w2.alloc (.cells #[nQ iQ 0] 3)).ownsRow w2.heap.size 3 1 (sQ (some ⟨w2.heap.size,0,none⟩) 1 1) (0+1) (qae (0::Nt.bY n 0)):=⟨rfl,.inr ⟨w2.heap.size,1,#[nQ iQ 0],rfl,lrZ _,heap_alloc_new w2 _,lrZ _,by decide,rfl,rfl⟩⟩
 obtain ⟨hz,hG,h0,hq,hX,h4,hw,hn⟩:=zd8 hI hv hA hm hL hJ hr hj;clear hI hv hA hm hL hJ hr hj;go_wp2_with fail
 go_loopw [6,7] (λo i wx=>∃k:Nat,k<=n.o.length/\i=nQ iQ (k:Int)/\wx.ownsRow w2.heap.size 3 1 o (k+1) (qae (0::Nt.bY n k))/\Later w2 wx) (λ_ i _=>n.o.length-(intOf i).toNat)
 case atStart=>exact ⟨0,Zt _,rfl,hn.out,hw.out⟩
 case round=>
  obtain ⟨k,hk,rfl,hown,hp⟩:=hrel;obtain ⟨Ao,co,rfl⟩:=qa6 hown;clear hn hw;have x1:w2.cell? ⟨w.heap.size,1,none⟩=some (sQ N n.o.length d):=by rw [h4.out.cell];rfl
  by_cases hF:k<n.o.length
  ·obtain ⟨b1,off1,S,sc,I,ic,Q,qc,rfl,hO,-,-,-⟩:=HR.out.2.at_ hF
   have hx:=hq.out k hF;have hE:=hX.out k hF;have hP:k+1<sh.length:=by rw [h0.out];omega
   have ed:sh.getD (k+1) []=sh[k+1]:=qdL hP;rw [ed] at hx hE;have hg:=λ(W:Zp1) (T:Option Addr) (tc:Nat)=>@qgs n.o[k].op S Q T sc qc tc n.o[k].p (Nt.pick sh n.o[k].ins) W (by rw [hx])
   rw [hx] at hg;obtain ⟨T,tc,yt,hT,-⟩:=hG.out.at_ hP;obtain ⟨⟨y0,y1,y2,y3,y4,y5,y6,y7,y8,y9⟩,-,-,hQ⟩:=hO.below hz.out;have ht:qae (0::Nt.bY n (k+1))=qae (0::Nt.bY n k)++[nQ iQ (Od.dK n.o[k].op n.o[k].p sh[k+1])]:=by rw [hE];simp [qae]
   generalize n.o[k]=v at *;generalize sh[k+1]=s at *;generalize Od.dK v.op v.p s=cv at *;generalize qae (0::Nt.bY n k)=vs at *;have hS:=λ(W:Zp1) (h:Later w2 W)=>hT.below h (lrZ _)
   have hV:=λ(W:Zp1) (h:Later w2 W)=>hQ.below h (lrZ _)
   obtain ⟨ho,ha,hs,He,Hb,hH⟩:=zd6 hown hp hg hS hV ht;clear hown hp hg hS hV ht;have v0:=x1;have u0:=ha.out.cell v0;have v1:=y0;have u1:=ha.out.cell v1;have v2:=y1;have u2:=ha.out.cell v2;have v3:=y2;have u3:=ha.out.cell v3;have v4:=y3;have u4:=ha.out.cell v4;have v5:=y4;have u5:=ha.out.cell v5;have v6:=y5;have u6:=ha.out.cell v6;have v7:=y6;have u7:=ha.out.cell v7;have v8:=y7;have u8:=ha.out.cell v8;have v9:=y9;have u9:=ha.out.cell v9;have v10:=yt;have u10:=ha.out.cell v10;clear hx hE ed hO hT hQ y0 y1 y2 y3 y4 y5 y6 y7 y8 y9 x1 yt;have k0:(0:Int)<=(k:Int):=by omega
   have k1:(k:Int)<(n.o.length:Int):=by omega
   have k2:(k:Int)+1<(sh.length:Int):=by omega
   have k3:iQ.wrap ((k:Int)+1)=(k:Int)+1:=Zc1 _ oZ;have k4:((k:Int)+1).toNat=k+1:=by omega
   have k5:(0:Int)<=(k:Int)+1:=by omega
   have Hc:=ha.out.size;go_wp2_with fail
   go_region_held3 (λW=>W.cell? ⟨w.heap.size,1,none⟩=some (sQ (some ⟨b1,off1,none⟩) n.o.length d)/\W.cell? ⟨b1,off1+k*10,none⟩=some (nQ iQ v.op.kind)/\W.cell? ⟨b1,off1+k*10+1,none⟩=some (nQ iQ v.op.k)/\W.cell? ⟨b1,off1+k*10+2,none⟩=some (nQ iQ v.op.width)/\W.cell? ⟨b1,off1+k*10+3,none⟩=some (nQ iQ v.op.step)/\W.cell? ⟨b1,off1+k*10+4,none⟩=some (nQ iQ v.op.side)/\W.cell? ⟨b1,off1+k*10+5,none⟩=some (nQ iQ v.op.frm)/\W.cell? ⟨b1,off1+k*10+6,none⟩=some (nQ iQ v.op.to)/\W.cell? ⟨b1,off1+k*10+7,none⟩=some (sQ S v.op.s.length sc)/\W.cell? ⟨b1,off1+k*10+9,none⟩=some (sQ Q v.p.length qc)/\W.cell? ⟨g,k+1,none⟩=some (sQ T s.length tc)) (first|(with_reducible exact ⟨u0,u1,u2,u3,u4,u5,u6,u7,u8,u9,u10⟩)|exact ⟨Later.cell (show Later w2 _ from hf.out) v0,Later.cell (show Later w2 _ from hf.out) v1,Later.cell (show Later w2 _ from hf.out) v2,Later.cell (show Later w2 _ from hf.out) v3,Later.cell (show Later w2 _ from hf.out) v4,Later.cell (show Later w2 _ from hf.out) v5,Later.cell (show Later w2 _ from hf.out) v6,Later.cell (show Later w2 _ from hf.out) v7,Later.cell (show Later w2 _ from hf.out) v8,Later.cell (show Later w2 _ from hf.out) v9,Later.cell (show Later w2 _ from hf.out) v10⟩|exact ⟨Later.cell (show Later w2 _ by repeat (first|(with_reducible exact ha.out)|(with_reducible apply Later.drew)|(with_reducible apply Later.alloc)|(with_reducible refine Later.call ?_ (by assumption)))) v0,Later.cell (show Later w2 _ by repeat (first|(with_reducible exact ha.out)|(with_reducible apply Later.drew)|(with_reducible apply Later.alloc)|(with_reducible refine Later.call ?_ (by assumption)))) v1,Later.cell (show Later w2 _ by repeat (first|(with_reducible exact ha.out)|(with_reducible apply Later.drew)|(with_reducible apply Later.alloc)|(with_reducible refine Later.call ?_ (by assumption)))) v2,Later.cell (show Later w2 _ by repeat (first|(with_reducible exact ha.out)|(with_reducible apply Later.drew)|(with_reducible apply Later.alloc)|(with_reducible refine Later.call ?_ (by assumption)))) v3,Later.cell (show Later w2 _ by repeat (first|(with_reducible exact ha.out)|(with_reducible apply Later.drew)|(with_reducible apply Later.alloc)|(with_reducible refine Later.call ?_ (by assumption)))) v4,Later.cell (show Later w2 _ by repeat (first|(with_reducible exact ha.out)|(with_reducible apply Later.drew)|(with_reducible apply Later.alloc)|(with_reducible refine Later.call ?_ (by assumption)))) v5,Later.cell (show Later w2 _ by repeat (first|(with_reducible exact ha.out)|(with_reducible apply Later.drew)|(with_reducible apply Later.alloc)|(with_reducible refine Later.call ?_ (by assumption)))) v6,Later.cell (show Later w2 _ by repeat (first|(with_reducible exact ha.out)|(with_reducible apply Later.drew)|(with_reducible apply Later.alloc)|(with_reducible refine Later.call ?_ (by assumption)))) v7,Later.cell (show Later w2 _ by repeat (first|(with_reducible exact ha.out)|(with_reducible apply Later.drew)|(with_reducible apply Later.alloc)|(with_reducible refine Later.call ?_ (by assumption)))) v8,Later.cell (show Later w2 _ by repeat (first|(with_reducible exact ha.out)|(with_reducible apply Later.drew)|(with_reducible apply Later.alloc)|(with_reducible refine Later.call ?_ (by assumption)))) v9,Later.cell (show Later w2 _ by repeat (first|(with_reducible exact ha.out)|(with_reducible apply Later.drew)|(with_reducible apply Later.alloc)|(with_reducible refine Later.call ?_ (by assumption)))) v10⟩)
    (first
    | (go_at_call 97;refine (hs.out _ T tc (Hb.out _ (show Later w2 _ by repeat (first|(with_reducible exact ha.out)|(with_reducible apply Later.drew)|(with_reducible apply Later.alloc)))) (He.out _ (show Later w2 _ by repeat (first|(with_reducible exact ha.out)|(with_reducible apply Later.drew)|(with_reducible apply Later.alloc))))).mono ?_;rintro e w3 ⟨rfl,h9⟩;have hy:=zI (show Later wr w3 by repeat (first|(with_reducible exact Later.refl _)|(with_reducible apply Later.drew)|(with_reducible refine Later.call ?_ h9))))
    | ((refine step_append_lies _ (by rfl) _ _ _ (by rfl) w2.heap.size 3 i0 _ 1 8 underlying22 hi hZ Hf hW rfl oZ (sQ Ao (k+1) co) (k+1) vs (by rfl) (qa8 (qcb (T:=85) ho.out dZ (eH.of_later hy.out)) (.cells #[nQ iQ cv] 3)) ⟨w3.heap.size,0,none⟩ 1 1 [nQ iQ cv] (by rfl) (by rfl) (qap w3 _ _) (by simp [Value.oneCell']) oZ (by unfold maxLen;omega) oZ (by have:=hy.out.size;simp;omega) (w3.heap.size+1) sZ ?_;intro gg cap w4 hh hgrow h3 h7;have hf:=zI (show Later w2 w4 from Below.grown ((ha.out.trans hy.out).alloc (.cells #[nQ iQ cv] 3)) hgrow (by have:=hy.out.size;simp;omega) (λb hb=>(ho.out.lt b hb).1)))))
   rw [←hH.out] at hh;have hu:=zI hh;clear hh;clear hgrow h3 k2 k3 k4 k5 u0 u1 u2 u3 u4 u5 u6 u7 u8 u9 u10 v0 v1 v2 v3 v4 v5 v6 v7 v9 v10;go_wp2_with fail;go_roundw
   case rel=>exact ⟨k+1,by omega,by go_num,hu.out,hf.out⟩
   case measure=>simp [intOf];omega
  ·obtain rfl:k=n.o.length:=by omega
   have hC:(Nt.aD n).length=n.o.length+1:=by simp [Nt.aD,Nt.bH]
   have he:wr.ownsRow w2.heap.size 3 1 (sQ Ao (n.o.length+1) co) (n.o.length+1) (qae (Nt.aD n)):=hown;rw [←hC] at he ⊢;obtain ⟨q1,q2,q3⟩:=qak he;have hl:=hz.out.trans hp;have x1':=hp.cell x1;have q4:∀a,Ao=some a->w.heap.size<=a.block:=λa q=>by have h1:=(he.lt a.block (by rw [q];rfl)).1;have h2:=hz.out.size;omega
   obtain ⟨ho,hM,hY,Hd,h5,h8,ha,Hl,Hh⟩:=zd9 hown he q1 q2 q3 q4 hp hl hC;clear hown he q1 q2 q3 q4 hp hl hC;clear x1;go_wp2_with fail;go_ret;exact ⟨Ao,co,rfl,hY.out,Hd.out,h5.out,h8.out,Hl.out⟩
theorem aP.nY {g:Nat} {w:Zp1} {A:Option Addr} {l:List Int} (k:aP g g w A l) (a0 a1 a2 a3 a4 a5 a6 a7 a8 a9 a10 a11 a12:Value):Ints iQ (((((((((((((w.setCell ⟨g,0,none⟩ a0).setCell ⟨g,1,none⟩ a1).setCell ⟨g,2,none⟩ a2).setCell ⟨g,3,none⟩ a3).setCell ⟨g,4,none⟩ a4).setCell ⟨g,5,none⟩ a5).setCell ⟨g,6,none⟩ a6).setCell ⟨g,7,none⟩ a7).setCell ⟨g,8,none⟩ a8).setCell ⟨g,9,none⟩ a9).setCell ⟨g,10,none⟩ a10).setCell ⟨g,11,none⟩ a11).setCell ⟨g,12,none⟩ a12) A l:=by
 have H:g<=g/\g<=g:=⟨lrZ _,lrZ _⟩
 exact (((((((((((((k.set H 0 a0).set H 1 a1).set H 2 a2).set H 3 a3).set H 4 a4).set H 5 a5).set H 6 a6).set H 7 a7).set H 8 a8).set H 9 a9).set H 10 a10).set H 11 a11).set H 12 a12).1
theorem qe1 {w:Zp1} {g:Nat} {t:TypeId} {z:Int} (h:Blk w g t #[nQ iQ z]):Ints iQ w (some ⟨g,0,none⟩) [z]:=λj hj=>by
 have:j=0:=by simpa using hj
 subst this;exact ⟨g,0,rfl,h.lt,by rw [h.cell];rfl⟩
theorem qdC {w:Zp1} {g:Nat} {t:TypeId} (h:Blk w g t qa5) {A:Option Addr} {l:List Int} (hI:Ints iQ w A l) (h1:∀z∈l,1<=z):aP g g w A l:=by
 refine ⟨hI,λhl a e q=>?_⟩
 match l,hl with
 | x::r,_=>
  obtain ⟨b,off,e2,hb,hc⟩:=hI 0 sZ;have hx:=h1 x sZ;rw [e] at e2;injection e2 with e2
  subst e2;simp only at q;have ha:b=g:=by omega
  subst ha;rw [Zx,h.cell] at hc;simp only [List.getD_cons_zero] at hc;rcases Nat.lt_or_ge off 13 with ho|ho
  ·have:off=0∨off=1∨off=2∨off=3∨off=4∨off=5∨off=6∨off=7∨off=8∨off=9∨off=10∨off=11∨off=12:=by omega
   rcases this with rfl|rfl|rfl|rfl|rfl|rfl|rfl|rfl|rfl|rfl|rfl|rfl|rfl<;>(simp [qa5] at hc;try omega)
  ·rw [Array.getElem?_eq_none (by simp [qa5];omega)] at hc
   cases hc
def vF (A N:Option Addr) (c d:Nat) (n:aA) (cap:Int) (w:Zp1) (e:Ending) (w':Zp1):Prop:=
 ∃(Wd Or:Option Addr) (cw co:Nat) (V:RfV),e=.returned (.agg (RfF.cells ⟨A,N,Wd,Or,c,d,cw,co⟩ V n (Ck.base n cap) Rf.start))/\RfF.Fix ⟨A,N,Wd,Or,c,d,cw,co⟩ n (Ck.base n cap) w'/\V.At Rf.start w'/\Later w w'/\(∀g,g<w.heap.size->V.Off Rf.start g)/\(Nt.words n).length<=cw/\cw<=9223372036854775807
theorem qfK {A N Wd Or T:Option Addr} {c d cw co h:Nat} {n:aA} {cap:Int} {w X:Zp1} (hW:Nt.check n=0) (hl:Later w X) (hsz:w.heap.size<=h+1) (k:Blk X (h+1) 125 qa5) (rW:Ints iQ X Wd (Nt.words n)) (rO:Ints iQ X Or (Nt.sO n.o)) (rT:Ints iQ X T [0]) (hT:∀a,T=some a->h+1<a.block) (hR:bC w A N n) (hw1:(Nt.words n).length<=cw) (hw2:cw<=9223372036854775807):
  vF A N c d n cap w (.returned (.agg #[sQ A n.inn.length c,sQ N n.o.length d,sQ Wd (Nt.words n).length cw,sQ Or (Nt.sO n.o).length co,nQ iQ (Nt.aH n.o),nQ iQ cap,sQ T 1 1,sQ none 0 0,sQ none 0 0,nQ iQ 0,nQ iQ 0,nQ iQ 0,nQ iQ 0])) (((((((((((((X.setCell ⟨h+1,0,none⟩ (sQ A n.inn.length c)).setCell ⟨h+1,1,none⟩ (sQ N n.o.length d)).setCell ⟨h+1,2,none⟩ (sQ Wd (Nt.words n).length cw)).setCell ⟨h+1,3,none⟩ (sQ Or (Nt.sO n.o).length co)).setCell ⟨h+1,4,none⟩ (nQ iQ (Nt.aH n.o))).setCell ⟨h+1,5,none⟩ (nQ iQ cap)).setCell ⟨h+1,6,none⟩ (sQ T 1 1)).setCell ⟨h+1,7,none⟩ (sQ none 0 0)).setCell ⟨h+1,8,none⟩ (sQ none 0 0)).setCell ⟨h+1,9,none⟩ (nQ iQ 0)).setCell ⟨h+1,10,none⟩ (nQ iQ 0)).setCell ⟨h+1,11,none⟩ (nQ iQ 0)).setCell ⟨h+1,12,none⟩ (nQ iQ 0)):=by
 have hL:=qfI (g:=h+1) hl hsz (sQ A n.inn.length c) (sQ N n.o.length d) (sQ Wd (Nt.words n).length cw) (sQ Or (Nt.sO n.o).length co) (nQ iQ (Nt.aH n.o)) (nQ iQ cap) (sQ T 1 1) (sQ none 0 0) (sQ none 0 0) (nQ iQ 0) (nQ iQ 0) (nQ iQ 0) (nQ iQ 0);refine ⟨Wd,Or,cw,co,⟨T,none,none,1,0,0⟩,rfl,⟨hR.below hL (lrZ _),?_,?_⟩,⟨?_,λj hj=>absurd hj (by simp [Rf.start]),λj hj=>absurd hj (by simp [Rf.start])⟩,hL,λg hg=>⟨λ_ a e=>by have:=hT a e;omega,λ_ a e=>by (cases e),λ_ a e=>by (cases e)⟩,hw1,hw2⟩
 ·exact aP.nY (qdC k rW (λz hz=>(Nt.iA hW z hz).1)) _ _ _ _ _ _ _ _ _ _ _ _ _
 ·exact aP.nY (qdC k rO (λz hz=>(Kn.dQ _ _ z hz).1)) _ _ _ _ _ _ _ _ _ _ _ _ _
 ·exact aP.nY (g:=h+1) (w:=X) ⟨rT,λ_ a e q=>by have:=hT a e;omega⟩ _ _ _ _ _ _ _ _ _ _ _ _ _
set_option maxRecDepth 100000 in
theorem qiw (A N:Option Addr) (c d:Nat) (n:aA) (cap:Int) (w:Zp1) (hok:n.ok) (hR:bC w A N n) (hd:n.o.length<=d) (hc:n.inn.length<=c) (hcm:c<=9223372036854775807) (hck:Nt.check n=0):
  Calls prog 62 #[.agg #[sQ A n.inn.length c,sQ N n.o.length d],nQ iQ cap] w (vF A N c d n cap w):=by
 have hz:Later w ((w.alloc (.cells #[sQ A n.inn.length c,sQ N n.o.length d] 37)).alloc (.cells qa5 125)):=((Later.refl w).alloc _).alloc _;have hx:=Blk.new w 37 #[sQ A n.inn.length c,sQ N n.o.length d];have hs:=Blk.new (w.alloc (.cells #[sQ A n.inn.length c,sQ N n.o.length d] 37)) 125 qa5;have hA:Later (w.alloc (.cells #[sQ A n.inn.length c,sQ N n.o.length d] 37)) ((w.alloc (.cells #[sQ A n.inn.length c,sQ N n.o.length d] 37)).alloc (.cells qa5 125)):=(Later.refl _).alloc _;have hl:(w.alloc (.cells #[sQ A n.inn.length c,sQ N n.o.length d] 37)).heap.size=w.heap.size+1:=Zh1 _ _;rw [Zh1] at hs;unfold qa5 at *;obtain ⟨hq,HR,hn,hm,hp,hb,hE,hv⟩:=zd8 hok hR hck hz hx hs hA hl;clear hok hR hck hz hx hs hA hl;go_in;go_wp2_with fail;generalize hwB:w.alloc (.cells #[sQ A n.inn.length c,sQ N n.o.length d] 37)=wB at *;generalize hwZ:wB.alloc (.cells #[sQ none 0 0,sQ none 0 0,sQ none 0 0,sQ none 0 0,nQ iQ 0,nQ iQ 0,sQ none 0 0,sQ none 0 0,sQ none 0 0,nQ iQ 0,nQ iQ 0,nQ iQ 0,nQ iQ 0] 125)=wZ at *;clear hwB hwZ;generalize hh:w.heap.size=h at *;have hf:=zI (show wB.heap.size<=h+1 by have:=hv.out;omega);have ht:=zI (show w.heap.size<=h+1 by omega);clear hh hv;refine (qax A N c d n wZ hq.out (HR.out.below hm.out (lrZ _)) hd hc hcm).mono ?_;rintro e w2 ⟨hw,⟨-,g,rfl,-,-⟩|⟨hG,-⟩⟩
 rotate_left
 ·exact absurd hn.out hG
 have hg:=zI (show Later wZ w2 from hw);have ho:=zI (hE.out.trans hg.out);have hy:=zI (hm.out.trans hg.out);have x0:=ho.out.cell (hp.out.cell 0);have x1:=ho.out.cell (hp.out.cell 1);simp at x0 x1;have X0:=zI (hp.out.cell 0);have X1:=zI (hp.out.cell 1);simp at X0 X1;clear hw;generalize hlo:Nt.aH n.o=lo at *;go_upto_region 2 with fail
 go_region_held3 (λX=>X.cell? ⟨h,0,none⟩=some (sQ A n.inn.length c)/\X.cell? ⟨h,1,none⟩=some (sQ N n.o.length d)) (first|(with_reducible exact ⟨x0,x1⟩)|exact ⟨Later.cell (show Later wB _ by repeat (first|(with_reducible exact ho.out)|(with_reducible apply Later.drew)|(with_reducible apply Later.alloc)|(with_reducible refine Later.call ?_ (by assumption))|(with_reducible refine Later.set ?_ hf.out _))) X0.out,Later.cell (show Later wB _ by repeat (first|(with_reducible exact ho.out)|(with_reducible apply Later.drew)|(with_reducible apply Later.alloc)|(with_reducible refine Later.call ?_ (by assumption))|(with_reducible refine Later.set ?_ hf.out _))) X1.out⟩)
  (first
  | (go_at_call 35;refine (qd4 A N c d n _ hq.out (HR.out.below (show Later w _ by repeat (first|(with_reducible exact hy.out)|(with_reducible apply Later.drew)|(with_reducible apply Later.alloc)|(with_reducible refine Later.call ?_ (by assumption))|(with_reducible refine Later.set ?_ hf.out _))) (lrZ _)) hd hc hcm hn.out).mono ?_;rintro e w4 ⟨Wd,cw,rfl,hu,hk,hj,hB⟩;have he:=(show Later wZ w4 by repeat (first|(with_reducible exact hg.out)|(with_reducible apply Later.drew)|(with_reducible apply Later.alloc)|(with_reducible refine Later.call ?_ (by assumption))|(with_reducible refine Later.set ?_ hf.out _)));obtain ⟨z0,z1,z2,z3,z4,z5,z6,z7,z8,z9,z10,z11,z12⟩:=qa3 (he.blk hb.out);obtain ⟨f0,f1,f2,f3,f4,f5,f6,f7,f8,f9,f10,f11,f12⟩:=qa0 (he.blk hb.out);obtain ⟨p0,p1,p2,p3,p4,p5,p6,p7,p8,p9,p10,p11,p12⟩:=qa3 ((he.blk hb.out).alloc (.cells #[nQ iQ 0] 3));obtain ⟨q0,q1,q2,q3,q4,q5,q6,q7,q8,q9,q10,q11,q12⟩:=qa0 ((he.blk hb.out).alloc (.cells #[nQ iQ 0] 3));clear he)
  | (go_at_call 31;refine (qbw A N c d n _ hq.out (HR.out.below (show Later w _ by repeat (first|(with_reducible exact hy.out)|(with_reducible apply Later.drew)|(with_reducible apply Later.alloc)|(with_reducible refine Later.call ?_ (by assumption))|(with_reducible refine Later.set ?_ hf.out _))) (lrZ _)) ).mono ?_;rintro e w5 ⟨Or,co,rfl,hr,hD,hF,hC⟩;have he:=(show Later wZ w5 by repeat (first|(with_reducible exact hg.out)|(with_reducible apply Later.drew)|(with_reducible apply Later.alloc)|(with_reducible refine Later.call ?_ (by assumption))|(with_reducible refine Later.set ?_ hf.out _)));obtain ⟨z0,z1,z2,z3,z4,z5,z6,z7,z8,z9,z10,z11,z12⟩:=qa3 (he.blk hb.out);obtain ⟨f0,f1,f2,f3,f4,f5,f6,f7,f8,f9,f10,f11,f12⟩:=qa0 (he.blk hb.out);obtain ⟨p0,p1,p2,p3,p4,p5,p6,p7,p8,p9,p10,p11,p12⟩:=qa3 ((he.blk hb.out).alloc (.cells #[nQ iQ 0] 3));obtain ⟨q0,q1,q2,q3,q4,q5,q6,q7,q8,q9,q10,q11,q12⟩:=qa0 ((he.blk hb.out).alloc (.cells #[nQ iQ 0] 3));clear he))
 ·have hi:Later wZ w4:=(by repeat (first|(with_reducible exact hg.out)|(with_reducible apply Later.drew)|(with_reducible apply Later.alloc)|(with_reducible refine Later.call ?_ (by assumption))))
  have ha:Later w4 w5:=(by repeat (first|(with_reducible exact Later.refl _)|(with_reducible apply Later.drew)|(with_reducible apply Later.alloc)|(with_reducible refine Later.call ?_ (by assumption))))
  go_wp2_with fail;subst hlo;refine Zk1 (by simp [results,results62,go_sem,p0,p1,p2,p3,p4,p5,p6,p7,p8,p9,p10,p11,p12];rfl) rfl ?_;have hW:=hn.out;have k4:=hi.blk hb.out;have k5:=ha.blk k4;have hl:=hf.out;exact qfK (hR:=HR.out) (hw1:=hk) (hw2:=hj) hW (((hm.out.trans hi).trans ha).alloc _) ht.out (k5.alloc _) (hu.below (ha.alloc _) (lrZ _)) (hr.below ((Later.refl w5).alloc _) (lrZ _)) (qe1 (Blk.new w5 3 _)) (λa e=>by injection e with e;subst e;exact k5.lt)
 ·have hi:Later wZ w4:=(by repeat (first|(with_reducible exact hg.out)|(with_reducible apply Later.drew)|(with_reducible apply Later.alloc)|(with_reducible refine Later.call ?_ (by assumption))))
  have ha:Later w4 w5:=(by repeat (first|(with_reducible exact Later.refl _)|(with_reducible apply Later.drew)|(with_reducible apply Later.alloc)|(with_reducible refine Later.call ?_ (by assumption))))
  go_wp2_with fail;subst hlo;refine Zk1 (by simp [results,results62,go_sem,z0,z1,z2,z3,z4,z5,z6,z7,z8,z9,z10,z11,z12];rfl) rfl ?_;have hW:=hn.out;have k4:=hi.blk hb.out;have k5:=ha.blk k4;have hl:=hf.out;exact qfK (hR:=HR.out) (hw1:=hk) (hw2:=hj) hW ((hm.out.trans hi).trans ha) ht.out k5 (hu.below ha (lrZ _)) hr (qe1 (Later.blk (show Later (w4.alloc (.cells #[nQ iQ 0] 3)) w5 from hC) (Blk.new w4 3 _))) (λa e=>by injection e with e;subst e;exact k4.lt)
 ·have hi:Later wZ w4:=(by repeat (first|(with_reducible exact hg.out)|(with_reducible apply Later.drew)|(with_reducible apply Later.alloc)|(with_reducible refine Later.call ?_ (by assumption))))
  have ha:Later w4 w5:=(by repeat (first|(with_reducible exact Later.refl _)|(with_reducible apply Later.drew)|(with_reducible apply Later.alloc)|(with_reducible refine Later.call ?_ (by assumption))))
  go_wp2_with fail;subst hlo;refine Zk1 (by simp [results,results62,go_sem,z0,z1,z2,z3,z4,z5,z6,z7,z8,z9,z10,z11,z12];rfl) rfl ?_;have hW:=hn.out;have k4:=hi.blk hb.out;have k5:=ha.blk k4;have hl:=hf.out;exact qfK (hR:=HR.out) (hw1:=hk) (hw2:=hj) hW ((hm.out.trans hi).trans ha) ht.out k5 (hu.below ha (lrZ _)) hr (qe1 (Later.blk (Later.trans (show Later (w2.alloc (.cells #[nQ iQ 0] 3)).drew w4 from hB) ha) (Blk.new w2 3 _).drew)) (λa e=>by injection e with e;subst e;exact (hg.out.blk hb.out).lt)
theorem qfL (cs:Array Value) (h:cs.size=13) (a0 a1 a2 a3 a4 a5 a6 a7 a8 a9 a10 a11 a12:Value):((((((((((((cs.setIfInBounds 0 a0).setIfInBounds 1 a1).setIfInBounds 2 a2).setIfInBounds 3 a3).setIfInBounds 4 a4).setIfInBounds 5 a5).setIfInBounds 6 a6).setIfInBounds 7 a7).setIfInBounds 8 a8).setIfInBounds 9 a9).setIfInBounds 10 a10).setIfInBounds 11 a11).setIfInBounds 12 a12=#[a0,a1,a2,a3,a4,a5,a6,a7,a8,a9,a10,a11,a12]:=by
 obtain ⟨l⟩:=cs
 match l,h with
 | [x0,x1,x2,x3,x4,x5,x6,x7,x8,x9,x10,x11,x12],_=>simp only [List.setIfInBounds_toArray,List.set_cons_zero,List.set_cons_succ]
theorem Blk.nY {w:Zp1} {g:Nat} {t:TypeId} {cs:Array Value} (h:Blk w g t cs) (hs:cs.size=13) (a0 a1 a2 a3 a4 a5 a6 a7 a8 a9 a10 a11 a12:Value):Blk (((((((((((((w.setCell ⟨g,0,none⟩ a0).setCell ⟨g,1,none⟩ a1).setCell ⟨g,2,none⟩ a2).setCell ⟨g,3,none⟩ a3).setCell ⟨g,4,none⟩ a4).setCell ⟨g,5,none⟩ a5).setCell ⟨g,6,none⟩ a6).setCell ⟨g,7,none⟩ a7).setCell ⟨g,8,none⟩ a8).setCell ⟨g,9,none⟩ a9).setCell ⟨g,10,none⟩ a10).setCell ⟨g,11,none⟩ a11).setCell ⟨g,12,none⟩ a12) g t #[a0,a1,a2,a3,a4,a5,a6,a7,a8,a9,a10,a11,a12]:=by
 have k:=((((((((((((h.aO 0 a0).aO 1 a1).aO 2 a2).aO 3 a3).aO 4 a4).aO 5 a5).aO 6 a6).aO 7 a7).aO 8 a8).aO 9 a9).aO 10 a10).aO 11 a11).aO 12 a12;rw [qfL cs hs] at k;exact k
theorem wJ {g:Nat} {wb w:Zp1} (h:Fr (λb=>b=g) wb w) (a0 a1 a2 a3 a4 a5 a6 a7 a8 a9 a10 a11 a12:Value):Fr (λb=>b=g) wb (((((((((((((w.setCell ⟨g,0,none⟩ a0).setCell ⟨g,1,none⟩ a1).setCell ⟨g,2,none⟩ a2).setCell ⟨g,3,none⟩ a3).setCell ⟨g,4,none⟩ a4).setCell ⟨g,5,none⟩ a5).setCell ⟨g,6,none⟩ a6).setCell ⟨g,7,none⟩ a7).setCell ⟨g,8,none⟩ a8).setCell ⟨g,9,none⟩ a9).setCell ⟨g,10,none⟩ a10).setCell ⟨g,11,none⟩ a11).setCell ⟨g,12,none⟩ a12):=
 ((((((((((((h.setCell (p:=⟨g,0,none⟩) (λ_=>rfl) a0).setCell (p:=⟨g,1,none⟩) (λ_=>rfl) a1).setCell (p:=⟨g,2,none⟩) (λ_=>rfl) a2).setCell (p:=⟨g,3,none⟩) (λ_=>rfl) a3).setCell (p:=⟨g,4,none⟩) (λ_=>rfl) a4).setCell (p:=⟨g,5,none⟩) (λ_=>rfl) a5).setCell (p:=⟨g,6,none⟩) (λ_=>rfl) a6).setCell (p:=⟨g,7,none⟩) (λ_=>rfl) a7).setCell (p:=⟨g,8,none⟩) (λ_=>rfl) a8).setCell (p:=⟨g,9,none⟩) (λ_=>rfl) a9).setCell (p:=⟨g,10,none⟩) (λ_=>rfl) a10).setCell (p:=⟨g,11,none⟩) (λ_=>rfl) a11).setCell (p:=⟨g,12,none⟩) (λ_=>rfl) a12
theorem aP.fr {g:Nat} {w W:Zp1} {A:Option Addr} {l:List Int} (k:aP g g w A l) (hf:Fr (λb=>b=g) w W):Ints iQ W A l:=by
 by_cases hl:l=[]
 ·subst hl;exact λj hj=>absurd hj sZ
 ·exact hf.ints k.1 (λa e q=>k.2 hl a e (by subst q;exact ⟨lrZ _,lrZ _⟩))
theorem aP.of {g:Nat} {w:Zp1} {A:Option Addr} {l:List Int} (k:Ints iQ w A l) (h:l≠[]->∀a,A=some a->a.block≠g):aP g g w A l:=⟨k,λhl a e q=>h hl a e oZ⟩
theorem RfV.Off.old {V:RfV} {x:RfS} {w:Zp1} {g:Nat} (h:V.At x w) (hg:w.heap.size<=g):V.Off x g:=
 ⟨λhl a e q=>(aP.old (m:=g) h.there hg).2 hl a e (by subst q;exact ⟨lrZ _,lrZ _⟩),λhl a e q=>(aP.old (m:=g) h.saved hg).2 hl a e (by subst q;exact ⟨lrZ _,lrZ _⟩),λhl a e q=>(aP.old (m:=g) h.aF hg).2 hl a e (by subst q;exact ⟨lrZ _,lrZ _⟩)⟩
theorem dL.cle {t:TypeId} {B C:Nat} {w W:Zp1} {v:Value} {ns:List aS} (h:dL t B C w W v ns):C<=W.heap.size:=by
 obtain ⟨L,_,hO,_⟩:=h;exact hO.2.2.1
theorem dL.later {t:TypeId} {B C:Nat} {w W W':Zp1} {v:Value} {ns:List aS} (h:dL t B C w W v ns) (hl:Later W W'):dL t B C w W' v ns:=
 h.fr (S:=λb=>W.heap.size<=b) (Fr.of_below hl (λb hb hS=>by omega)) (λb h1 h2 h3=>by have:=h.cle;omega)
structure XB (n:aA) (c:CkN) (g:Nat) (F:RfF) (V:RfV) (x:RfS) (w0 w:Zp1):Prop where
 later:Later w0 w
 hg:w0.heap.size<=g
 box:Blk w g 125 (F.cells V n c x)
 fix:F.Fix n c w
 stay:∃wb,Fr (λb=>b=g) wb w/\∀W,Fr (λb=>b=g) wb W->F.Fix n c W
 at_:V.At x w
 off:V.Off x g
theorem XB.to_later {n:aA} {c:CkN} {g:Nat} {F:RfF} {V:RfV} {x:RfS} {w0 w w':Zp1} (k:XB n c g F V x w0 w) (hl:Later w w'):XB n c g F V x w0 w':=by
 obtain ⟨wb,h1,h2⟩:=k.stay;exact ⟨k.later.trans hl,k.hg,hl.blk k.box,k.fix.later hl,⟨wb,h1.eZ hl h1.size,h2⟩,k.at_.later hl,k.off⟩
theorem XB.put {n:aA} {c:CkN} {g:Nat} {F:RfF} {V V':RfV} {x x':RfS} {w0 w:Zp1} (k:XB n c g F V x w0 w) (hA:V'.At x' w) (ho:V'.Off x' g):
  XB n c g F V' x' w0 (((((((((((((w.setCell ⟨g,0,none⟩ (sQ F.A n.inn.length F.c)).setCell ⟨g,1,none⟩ (sQ F.N n.o.length F.d)).setCell ⟨g,2,none⟩ (sQ F.Wd c.words.length F.cw)).setCell ⟨g,3,none⟩ (sQ F.Or c.order.length F.co)).setCell ⟨g,4,none⟩ (nQ iQ c.aH)).setCell ⟨g,5,none⟩ (nQ iQ c.cap)).setCell ⟨g,6,none⟩ (sQ V'.Th x'.there.length V'.ct)).setCell ⟨g,7,none⟩ (sQ V'.Sa x'.saved.length V'.cs)).setCell ⟨g,8,none⟩ (sQ V'.Gr x'.aF.length V'.cg)).setCell ⟨g,9,none⟩ (nQ iQ x'.em)).setCell ⟨g,10,none⟩ (nQ iQ x'.sd)).setCell ⟨g,11,none⟩ (nQ iQ x'.done)).setCell ⟨g,12,none⟩ (nQ iQ x'.aB)):=by
 obtain ⟨wb,h1,h2⟩:=k.stay;have hf:=wJ h1 (sQ F.A n.inn.length F.c) (sQ F.N n.o.length F.d) (sQ F.Wd c.words.length F.cw) (sQ F.Or c.order.length F.co) (nQ iQ c.aH) (nQ iQ c.cap) (sQ V'.Th x'.there.length V'.ct) (sQ V'.Sa x'.saved.length V'.cs) (sQ V'.Gr x'.aF.length V'.cg) (nQ iQ x'.em) (nQ iQ x'.sd) (nQ iQ x'.done) (nQ iQ x'.aB);refine ⟨qfI k.later k.hg _ _ _ _ _ _ _ _ _ _ _ _ _,k.hg,?_,h2 _ hf,⟨wb,hf,h2⟩,⟨?_,?_,?_⟩,ho⟩
 ·exact Blk.nY k.box rfl _ _ _ _ _ _ _ _ _ _ _ _ _
 ·exact aP.nY (aP.of hA.there ho.1) _ _ _ _ _ _ _ _ _ _ _ _ _
 ·exact aP.nY (aP.of hA.saved ho.2.1) _ _ _ _ _ _ _ _ _ _ _ _ _
 ·exact aP.nY (aP.of hA.aF ho.2.2) _ _ _ _ _ _ _ _ _ _ _ _ _
theorem XB.start {t:TypeId} {n:aA} {cap:Int} {g B C c:Nat} {A N N' Wd Or:Option Addr} {cw co d':Nat} {V:RfV} {W wb wf:Zp1} (hW:Later W wb) (hg:W.heap.size<=g) (hrow:dL t B C W wb (sQ N' n.o.length d') n.o) (hBg:g<B∨C<=g) (hR:bC W A N n)
  (rW:aP g g wb Wd (Nt.words n)) (rO:aP g g wb Or (Nt.sO n.o)) (hA:V.At Rf.start wb) (ho:V.Off Rf.start g) (hf:Fr (λb=>b=g) wb wf) (hbox:Blk wf g 125 (RfF.cells ⟨A,N',Wd,Or,c,d',cw,co⟩ V n (Ck.base n cap) Rf.start)):
  XB n (Ck.base n cap) g ⟨A,N',Wd,Or,c,d',cw,co⟩ V Rf.start W wf:=by
 have hL:∀W',Fr (λb=>b=g) wb W'->Later W W':=λW' h=>Below.trans hW (h.below (B:=W.heap.size) (λb q=>by subst q;exact hg) hW.size)
 have ha:∀W',Fr (λb=>b=g) wb W'->RfF.Fix ⟨A,N',Wd,Or,c,d',cw,co⟩ n (Ck.base n cap) W':=λW' h=>
  ⟨(hrow.fr h (λb h1 h2 h3=>by subst h3;omega)).net (hL W' h) hR,rW.fr h,rO.fr h⟩
 exact ⟨hL wf hf,hg,hbox,ha wf hf,⟨wb,hf,ha⟩,⟨(aP.of hA.there ho.1).fr hf,(aP.of hA.saved ho.2.1).fr hf,(aP.of hA.aF ho.2.2).fr hf⟩,ho⟩
end Go.Proofs.YtddkenhemnkkeaaGreat
