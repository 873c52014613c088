/- Lemmas for the statements of this seat: contracts of functions and the plain laws. -/
import Derived.BigQuiet
import Derived.Carry
import Derived.Deep.AppendLies
import Derived.Deep.DeepCutAuto
import Derived.Deep.QuietTactic
import Derived.Deep.RegionHeld3
import Derived.DeepKeys4
import Derived.KernelRfl
import Derived.Maps.Keyed
import Derived.WalkKit
import Derived.WalkSpells
import Derived.Test.YtddkenhemnkkeaaGreatChecked
import Derived.Test.YtddkenhemnkkeaaGreatK04
set_option linter.unusedVariables false
open Go.IntKind renaming i64 → iQ
open Go.Value renaming int → nQ, slice → sQ
open List renaming take_succ_eq_append_getElem → Zb, replicate → Zc, drop_eq_getElem_cons → Zd, length_append → Ze, all_eq_true → Zf, take_length → Zg, mem_of_mem_take → Zh, getElem?_eq_none → Zi, flatMap_append → Zj, getElem?_toArray → Zk, getElem?_append_right → Zl, getElem?_append_left → Zm, take_append_drop → Zn, length_take → Zo, mem_of_mem_drop → Zp, length_drop → Zq, getElem?_set_self → Zr, getElem?_set_ne → Zs
open Nat renaming zero_le → Zt, succ_mul → Zu, le_trans → Zv, zero_add → Zw, add_zero → Zx, le_succ → Zy
open Bool renaming and_eq_true → Zz
open Go.Value renaming int → Za1, slice → Zb1
open Go.IntWalk renaming i64_in → Zc1
open Go.NoPanic renaming normal → Zd1
open Go.RowKit.Below renaming refl → Ze1
open Go.AllReadyH renaming cons → Zf1, nil → Zg1
open Go.World renaming size_alloc → Zh1, cell?_of_block → Zi1, block_lt_of_cell? → Zj1
open Go renaming bodyPost_ret → Zk1, wp_region_held_drew → Zl1, wp_region_noPanic → Zm1, wpAnyH_done → Zn1, wpAnyH_ready → Zo1, World → Zp1
open Go.Proofs.Tryz
namespace Go.Proofs.YtddkenhemnkkeaaGreat
set_option maxHeartbeats 16000000
set_option maxRecDepth 20000
open Go.RowKit
theorem uD:Rt.an.ok:=by
 refine ⟨by decide,by decide,λv hv=>?_⟩;simp [Rt.an] at hv;rcases hv with rfl|rfl<;>exact ⟨by intro z hz;simp at hz;try omega,by decide,by decide,by decide,by simp,by intro z hz;simp at hz;try omega⟩
def qc1 (p1 p2:Nat):Array Value:=#[nQ iQ 1,nQ iQ 0,nQ iQ 0,nQ iQ 0,nQ iQ 0,nQ iQ 0,nQ iQ 0,sQ none 0 0,sQ (some ⟨p1,0,none⟩) 1 1,sQ none 0 0,nQ iQ 12,nQ iQ 0,nQ iQ 2,nQ iQ 1,nQ iQ 0,nQ iQ 0,nQ iQ 0,sQ none 0 0,sQ (some ⟨p2,0,none⟩) 1 1,sQ none 0 0]
theorem an_net {W:Zp1} {p0 p1 p2 g:Nat} (h0:Blk W p0 3 #[nQ iQ 2]) (h1:Blk W p1 3 #[nQ iQ 0]) (h2:Blk W p2 3 #[nQ iQ 1])
  (hg:Blk W g 77 (qc1 p1 p2)):
  bC W (some ⟨p0,0,none⟩) (some ⟨g,0,none⟩) Rt.an:=by
 have one:∀ {p:Nat} {x:Int},Blk W p 3 #[nQ iQ x]->Ints iQ W (some ⟨p,0,none⟩) [x]:=fun {p x} h=>Ints.dV λj hj=>by
  obtain rfl:j=0:=by simpa using hj
  rw [h.cell];rfl
 refine ⟨one h0,λj hj=>?_⟩;have:j=0∨j=1:=by simp [Rt.an] at hj;omega
 rcases this with rfl|rfl
 ·exact ⟨g,0,none,0,some ⟨p1,0,none⟩,1,none,0,rfl,hg.lt,hg.cell 0,hg.cell 1,hg.cell 2,hg.cell 3,hg.cell 4,hg.cell 5,hg.cell 6,hg.cell 7,hg.cell 8,hg.cell 9,⟨Ints.nil,by simp [Rt.an],by omega⟩,⟨one h1,by simp [Rt.an],by omega⟩,bQ.nil,by simp [Rt.an],by omega⟩
 ·exact ⟨g,0,none,0,some ⟨p2,0,none⟩,1,none,0,rfl,hg.lt,hg.cell 10,hg.cell 11,hg.cell 12,hg.cell 13,hg.cell 14,hg.cell 15,hg.cell 16,hg.cell 17,hg.cell 18,hg.cell 19,⟨Ints.nil,by simp [Rt.an],by omega⟩,⟨one h2,by simp [Rt.an],by omega⟩,bQ.nil,by simp [Rt.an],by omega⟩
abbrev anW (w:Zp1):Zp1:=((((w.alloc (.cells #[nQ iQ 2] 3)).alloc (.cells #[nQ iQ 0] 3)).alloc (.cells #[nQ iQ 1] 3)).alloc (.cells #[nQ iQ 1,nQ iQ 0,nQ iQ 0,nQ iQ 0,nQ iQ 0,nQ iQ 0,nQ iQ 0,sQ none 0 0,sQ (some ⟨w.heap.size+1,0,none⟩) 1 1,sQ none 0 0,nQ iQ 12,nQ iQ 0,nQ iQ 2,nQ iQ 1,nQ iQ 0,nQ iQ 0,nQ iQ 0,sQ none 0 0,sQ (some ⟨w.heap.size+1+1,0,none⟩) 1 1,sQ none 0 0] 77)).alloc (.cells #[sQ (some ⟨w.heap.size,0,none⟩) 1 1,sQ (some ⟨w.heap.size+1+1+1,0,none⟩) 2 2] 26)
theorem qhF (w:Zp1):bC (anW w) (some ⟨w.heap.size,0,none⟩) (some ⟨w.heap.size+1+1+1,0,none⟩) Rt.an/\Blk (anW w) (w.heap.size+1+1+1+1) 26 #[sQ (some ⟨w.heap.size,0,none⟩) 1 1,sQ (some ⟨w.heap.size+1+1+1,0,none⟩) 2 2]/\Later w (anW w):=by
 have b0:=((((Blk.new w 3 #[nQ iQ 2]).alloc (.cells #[nQ iQ 0] 3)).alloc (.cells #[nQ iQ 1] 3)).alloc (.cells (qc1 (w.heap.size+1) (w.heap.size+1+1)) 77)).alloc (.cells #[sQ (some ⟨w.heap.size,0,none⟩) 1 1,sQ (some ⟨w.heap.size+1+1+1,0,none⟩) 2 2] 26);have b1:=(((Blk.new (w.alloc (.cells #[nQ iQ 2] 3)) 3 #[nQ iQ 0]).alloc (.cells #[nQ iQ 1] 3)).alloc (.cells (qc1 (w.heap.size+1) (w.heap.size+1+1)) 77)).alloc (.cells #[sQ (some ⟨w.heap.size,0,none⟩) 1 1,sQ (some ⟨w.heap.size+1+1+1,0,none⟩) 2 2] 26);have b2:=((Blk.new ((w.alloc (.cells #[nQ iQ 2] 3)).alloc (.cells #[nQ iQ 0] 3)) 3 #[nQ iQ 1]).alloc (.cells (qc1 (w.heap.size+1) (w.heap.size+1+1)) 77)).alloc (.cells #[sQ (some ⟨w.heap.size,0,none⟩) 1 1,sQ (some ⟨w.heap.size+1+1+1,0,none⟩) 2 2] 26);have b3:=(Blk.new (((w.alloc (.cells #[nQ iQ 2] 3)).alloc (.cells #[nQ iQ 0] 3)).alloc (.cells #[nQ iQ 1] 3)) 77 (qc1 (w.heap.size+1) (w.heap.size+1+1))).alloc (.cells #[sQ (some ⟨w.heap.size,0,none⟩) 1 1,sQ (some ⟨w.heap.size+1+1+1,0,none⟩) 2 2] 26);have b4:=Blk.new ((((w.alloc (.cells #[nQ iQ 2] 3)).alloc (.cells #[nQ iQ 0] 3)).alloc (.cells #[nQ iQ 1] 3)).alloc (.cells (qc1 (w.heap.size+1) (w.heap.size+1+1)) 77)) 26 #[sQ (some ⟨w.heap.size,0,none⟩) 1 1,sQ (some ⟨w.heap.size+1+1+1,0,none⟩) 2 2];simp only [Zh1] at b1 b2 b3 b4;exact ⟨an_net b0 b1 b2 b3,b4,((((((Later.refl w).alloc _).alloc _).alloc _).alloc _).alloc _)⟩
namespace Ch
structure C where
 words:List Int
 cost:List Int
 cap:Int
def inf:Int:=1152921504606846976
def C.n (c:C):Nat:=c.cost.length
def W (c:C) (k:Nat):Int:=c.words.getD k 0
def kept (c:C) (l:Nat):Int:=if l=0 then 0 else W c l
def len (c:C) (l:Nat):Nat:=(max 0 (c.cap-kept c l+1)).toNat
def single (c:C) (l r:Nat):Int:=W c r+kept c l
def step (c:C) (l r k:Nat):Int:=W c k+(if k-1=l then 0 else W c (k-1))+(if r=c.n then 0 else W c r)
def own (c:C) (r:Nat):Int:=if r=c.n then c.cost.getD (r-1) 0 else 0
def over (g:Nat->Int) (a:Int) (b:Nat) (l:List Int):List Int:=(List.range l.length).map λ(m:Nat)=>if a<=(m:Int)/\m<b then g m else l.getD m 0
theorem jI (g:Nat->Int) (a:Int) (b:Nat) (l:List Int):(over g a b l).length=l.length:=by simp [over]
theorem oV (g:Nat->Int) (a:Int) (b:Nat) (l:List Int) (m:Nat) (h:m<l.length):(over g a b l).getD m 0=if a<=(m:Int)/\m<b then g m else l.getD m 0:=by
 unfold over;rw [gdZ,List.getElem?_map,List.getElem?_range h]
 rfl
theorem qE (g:Nat->Int) (a:Int) (b:Nat) (l:List Int) (h:(b:Int)<=a):over g a b l=l:=by
 apply List.ext_getElem?;intro m
 by_cases hm:m<l.length
 ·unfold over
  rw [List.getElem?_map,List.getElem?_range hm,Option.map_some,inZ oZ,gdZ,geZ hm]
  rfl
 ·rw [Zi (by rw [jI];omega),Zi oZ]
theorem rE (g:Nat->Int) (a:Int) (b:Nat) (l:List Int) (h:a<=(b:Int)) (hb:b<l.length):over g a (b+1) l=(over g a b l).set b (g b):=by
 apply List.ext_getElem?;intro m
 by_cases hm:m<l.length
 ·rw [List.getElem?_set]
  unfold over;rw [List.getElem?_map,List.getElem?_range hm,List.getElem?_map,List.getElem?_range hm]
  by_cases e:b=m
  ·subst e
   simp [h,hb]
  ·rw [inZ e]
   simp only [Option.map_some]
   congr 1
   by_cases e2:a<=(m:Int)/\m<b
   ·rw [ipZ oZ,ipZ e2]
   ·rw [inZ oZ,inZ e2]
 ·rw [Zi (by rw [jI];omega),Zi (by rw [List.length_set,jI];omega)]
def cand (cost wk:Int) (right left:List Int) (m:Nat):Int:=cost+right.getD ((m:Int)-wk).toNat 0+left.getD m 0
def dU (need cost wk:Int) (right left least:List Int) (j:Nat):List Int:=over (λ(m:Nat)=>min (least.getD m 0) (cand cost wk right left m)) need j least
def fold (c:C) (R:Nat->Nat->List Int) (l r:Nat):Nat->Int × Int × List Int
 | 0=>(0,0,Zc (len c l) inf)
 | j+1=>(max (fold c R l r j).1 (step c l r (l+1+j)),(fold c R l r j).2.1+c.cost.getD (l+j) 0,
   if max (fold c R l r j).1 (step c l r (l+1+j))<(len c l:Int) then dU (max (fold c R l r j).1 (step c l r (l+1+j))) ((fold c R l r j).2.1+c.cost.getD (l+j) 0) (W c (l+1+j)) (R (l+1+j) r) (R l (l+1+j)) (fold c R l r j).2.2 (len c l) else (fold c R l r j).2.2)
def one (c:C) (l r:Nat) (j:Nat):List Int:=over (λ_=>own c r) (single c l r) j (Zc (len c l) inf)
def row (c:C):Nat->Nat->Nat->List Int
 | 0,_,_=>[]
 | f+1,l,r=>if r=l+1 then one c l r (len c l) else (fold c (row c f) l r (r-l-1)).2.2
theorem qc2 (c:C) {R Q:Nat->Nat->List Int} (l r:Nat):∀j,(∀i,i<j->R (l+1+i) r=Q (l+1+i) r/\R l (l+1+i)=Q l (l+1+i))->fold c R l r j=fold c Q l r j
 | 0,_=>rfl
 | j+1,h=>by
  have ih:=qc2 c l r j λi hi=>h i oZ
  obtain ⟨h1,h2⟩:=h j oZ;unfold fold;rw [ih,h1,h2]
theorem qcx (c:C):∀(f g l r:Nat),l<r->r-l<=f->r-l<=g->row c f l r=row c g l r
 | 0,_,_,_,h,h1,_=>absurd h1 oZ
 | _+1,0,_,_,h,_,h2=>absurd h2 oZ
 | f+1,g+1,l,r,h,h1,h2=>by
  unfold row
  by_cases e:r=l+1
  ·rw [ipZ e,ipZ e]
  ·rw [inZ e,inZ e,qc2 c l r (r-l-1) λi hi=>⟨qcx c f g _ _ oZ oZ oZ,qcx c f g _ _ oZ oZ oZ⟩]
def Rw (c:C) (l r:Nat):List Int:=row c (r-l) l r
theorem rM (c:C) (l:Nat):Rw c l (l+1)=one c l (l+1) (len c l):=by
 unfold Rw;rw [show l+1-l=0+1 by omega];unfold row;rw [ipZ rfl]
theorem mR (c:C) (l r:Nat) (h:l+1<r):Rw c l r=(fold c (Rw c) l r (r-l-1)).2.2:=by
 have h1:row c (r-l-1+1) l r=(fold c (row c (r-l-1)) l r (r-l-1)).2.2:=by
  rw [row,inZ oZ]
 have h2:=qc2 c (R:=row c (r-l-1)) (Q:=Rw c) l r (r-l-1) λi hi=>⟨qcx c (r-l-1) (r-(l+1+i)) _ _ oZ oZ oZ,qcx c (r-l-1) (l+1+i-l) _ _ oZ oZ oZ⟩
 rw [h2,show r-l-1+1=r-l by omega] at h1;exact h1
theorem nZ (need cost wk:Int) (right left least:List Int) (j:Nat):(dU need cost wk right left least j).length=least.length:=jI _ _ _ _
theorem nC (c:C) (R:Nat->Nat->List Int) (l r:Nat):∀j,(fold c R l r j).2.2.length=len c l
 | 0=>by simp [fold]
 | j+1=>by
  have ih:=nC c R l r j;unfold fold;simp only
  split
  ·rw [nZ,ih]
  ·exact ih
theorem lM (c:C) (l r:Nat) (h:l<r):(Rw c l r).length=len c l:=by
 by_cases e:r=l+1
 ·subst e
  rw [rM,one,jI,List.length_replicate]
 ·rw [mR c l r oZ,nC]
structure Ok (c:C):Prop where
 n1:1<=c.n
 n64:c.n<=64
 wl:c.words.length=c.n+1
 w0:∀k,k<=c.n->1<=W c k/\W c k<=65536
 c0:∀k,0<=c.cost.getD k 0/\c.cost.getD k 0<=1099511627776
 cap0:0<=c.cap
 vO:c.cap<=4096
theorem iE {c:C} (h:Ok c) {l:Nat} (hl:l<=c.n):0<=kept c l/\kept c l<=65536:=by
 unfold kept
 split
 ·omega
 ·have:=h.w0 l hl;omega
theorem sF {c:C} (h:Ok c) {l:Nat} (hl:l<=c.n):len c l<=4097:=by
 have h1:=iE h hl;have h2:=h.vO;unfold len;omega
theorem oL {c:C} (h:Ok c) {l r k:Nat} (hk:k<=c.n) (hr:r<=c.n):W c k<=step c l r k/\1<=step c l r k/\step c l r k<=196608:=by
 have h1:=h.w0 k hk;have h2:=h.w0 (k-1) oZ;have h3:=h.w0 r hr;unfold step
 split<;>split<;>omega
theorem jG {c:C} (h:Ok c) (R:Nat->Nat->List Int) {l r:Nat} (hr:r<=c.n):∀j,l+1+j<=r->
  0<=(fold c R l r j).1/\(fold c R l r j).1<=196608/\0<=(fold c R l r j).2.1/\(fold c R l r j).2.1<=(j:Int)*1099511627776
 | 0,_=>by simp [fold]
 | j+1,hj=>by
  have ih:=jG h R (l:=l) hr j oZ;have hs:=oL h (l:=l) (r:=r) (k:=l+1+j) oZ hr;have hc:=h.c0 (l+j);unfold fold;simp only;generalize fold c R l r j=z at *;omega
theorem lC {c:C} (h:Ok c) (R:Nat->Nat->List Int) {l r:Nat} (hr:r<=c.n) (j:Nat) (hj:l+1+j<r):W c (l+1+j)<=(fold c R l r (j+1)).1:=by
 have hs:=oL h (l:=l) (r:=r) (k:=l+1+j) oZ hr;unfold fold;simp only;generalize fold c R l r j=z at *;omega
theorem qg1 {g:Nat->Int} {a:Int} {b:Nat} {l:List Int} {p:Int->Prop} (hl:∀x∈l,p x) (hg:∀m,m<l.length->a<=(m:Int)->p (g m)):∀x∈over g a b l,p x:=by
 intro x hx;unfold over at hx;obtain ⟨m,hm,rfl⟩:=List.mem_map.1 hx;have hm:=List.mem_range.1 hm
 split
 ·exact hg m hm oZ
 ·rw [gdZ,geZ hm]
  exact hl _ (gmZ hm)
theorem dO {l:List Int} (h:∀x∈l,0<=x/\x<=inf) (m:Nat):0<=l.getD m 0/\l.getD m 0<=inf:=by
 rw [gdZ]
 by_cases hm:m<l.length
 ·rw [geZ hm]
  exact h _ (gmZ hm)
 ·rw [Zi oZ]
  simp [inf]
theorem qhG {need cost wk:Int} {right left least:List Int} {j:Nat} (hc:0<=cost) (h1:∀x∈right,0<=x/\x<=inf) (h2:∀x∈left,0<=x/\x<=inf) (h3:∀x∈least,0<=x/\x<=inf):
  ∀x∈dU need cost wk right left least j,0<=x/\x<=inf:=qg1 h3 λm _ _=>by
 have a1:=dO h1 ((m:Int)-wk).toNat;have a2:=dO h2 m;have a3:=dO h3 m;unfold cand;omega
theorem pX {c:C} (h:Ok c) {R:Nat->Nat->List Int} {l r:Nat} (hr:r<=c.n):∀j,l+1+j<=r->(∀i,i<j->(∀x∈R (l+1+i) r,0<=x/\x<=inf)/\∀x∈R l (l+1+i),0<=x/\x<=inf)->
  ∀x∈(fold c R l r j).2.2,0<=x/\x<=inf
 | 0,_,_=>by
  intro x hx;have hx:=List.eq_of_mem_replicate hx;subst hx;simp [inf]
 | j+1,hj,hR=>by
  have ih:=pX h hr j oZ λi hi=>hR i oZ
  have hn:=jG h R (l:=l) hr j oZ;have hc:=h.c0 (l+j);obtain ⟨h1,h2⟩:=hR j oZ;unfold fold;simp only
  split
  ·exact qhG oZ h1 h2 ih
  ·exact ih
theorem own_bd {c:C} (h:Ok c) (r:Nat):0<=own c r/\own c r<=inf:=by
 have:=h.c0 (r-1);unfold own inf
 split<;>omega
theorem qfk {c:C} (h:Ok c):∀(f l r:Nat),r<=c.n->∀x∈row c f l r,0<=x/\x<=inf
 | 0,_,_,_=>λx hx=>by cases hx
 | f+1,l,r,hr=>by
  unfold row
  split
  ·refine qg1 (λx hx=>?_) λ_ _ _=>own_bd h r
   rw [List.eq_of_mem_replicate hx];simp [inf]
  ·by_cases ha:l+1<=r
   ·exact pX h hr _ oZ λi hi=>⟨qfk h f _ _ hr,qfk h f _ _ oZ⟩
   ·rw [show r-l-1=0 by omega]
    intro x hx;rw [List.eq_of_mem_replicate hx];simp [inf]
theorem fV {c:C} (h:Ok c) {l r:Nat} (hr:r<=c.n):∀x∈Rw c l r,0<=x/\x<=inf:=qfk h _ _ _ hr
def scan (c:C) (l r m:Nat) (least:Int):Nat->Nat->Nat
 | 0,_=>r-1
 | f+1,j=>if (m:Int)<(fold c (Rw c) l r (j+1)).1 then r-1 else
   if cand (fold c (Rw c) l r (j+1)).2.1 (W c (l+1+j)) (Rw c (l+1+j) r) (Rw c l (l+1+j)) m=least then l+1+j else scan c l r m least f (j+1)
def best (c:C) (l r m:Nat):Nat:=scan c l r m ((Rw c l r).getD m 0) (r-l-1) 0
theorem qbK (c:C) (R:Nat->Nat->List Int) (l r m:Nat) (hm:m<len c l) (j:Nat):
  (fold c R l r (j+1)).2.2.getD m 0=if (fold c R l r (j+1)).1<=(m:Int) then min ((fold c R l r j).2.2.getD m 0) (cand (fold c R l r (j+1)).2.1 (W c (l+1+j)) (R (l+1+j) r) (R l (l+1+j)) m) else (fold c R l r j).2.2.getD m 0:=by
 have hl:=nC c R l r j
 rw [show (fold c R l r (j+1)).2.2=if max (fold c R l r j).1 (step c l r (l+1+j))<(len c l:Int) then dU (max (fold c R l r j).1 (step c l r (l+1+j))) ((fold c R l r j).2.1+c.cost.getD (l+j) 0) (W c (l+1+j)) (R (l+1+j) r) (R l (l+1+j)) (fold c R l r j).2.2 (len c l) else (fold c R l r j).2.2 from rfl,
  show (fold c R l r (j+1)).1=max (fold c R l r j).1 (step c l r (l+1+j)) from rfl,show (fold c R l r (j+1)).2.1=(fold c R l r j).2.1+c.cost.getD (l+j) 0 from rfl]
 generalize max (fold c R l r j).1 (step c l r (l+1+j))=nd
 by_cases hx:nd<(len c l:Int)
 ·rw [ipZ hx]
  unfold dU;rw [oV _ _ _ _ _ oZ]
  by_cases hy:nd<=(m:Int)
  ·rw [ipZ ⟨hy,hm⟩,ipZ hy]
  ·rw [inZ oZ,inZ hy]
 ·rw [inZ hx,inZ oZ]
theorem qhH (c:C) (R:Nat->Nat->List Int) (l r:Nat) (j:Nat):(fold c R l r j).1<=(fold c R l r (j+1)).1:=by
 rw [show (fold c R l r (j+1)).1=max (fold c R l r j).1 (step c l r (l+1+j)) from rfl];omega
theorem qdl (c:C) (R:Nat->Nat->List Int) (l r m:Nat) (hm:m<len c l) (j:Nat) (h:(m:Int)<(fold c R l r (j+1)).1):∀i,(fold c R l r (j+i)).2.2.getD m 0=(fold c R l r j).2.2.getD m 0/\(m:Int)<(fold c R l r (j+i+1)).1
 | 0=>⟨rfl,h⟩
 | i+1=>by
  obtain ⟨h1,h2⟩:=qdl c R l r m hm j h i;have h3:=qhH c R l r (j+i+1);refine ⟨?_,Int.lt_of_lt_of_le h2 h3⟩;rw [show j+(i+1)=j+i+1 by omega,qbK c R l r m hm,inZ oZ,h1]
theorem qfl (c:C) (l r m:Nat) (hm:m<len c l) (least:Int):∀(f j:Nat),j+f=r-l-1->(fold c (Rw c) l r (r-l-1)).2.2.getD m 0=least->least<(fold c (Rw c) l r j).2.2.getD m 0->
  ∃i,i<r-l-1/\scan c l r m least f j=l+1+i/\(fold c (Rw c) l r (i+1)).1<=(m:Int)/\cand (fold c (Rw c) l r (i+1)).2.1 (W c (l+1+i)) (Rw c (l+1+i) r) (Rw c l (l+1+i)) m=least
 | 0,j,hj,he,hlt=>by
  rw [show r-l-1=j by omega] at he;omega
 | f+1,j,hj,he,hlt=>by
  unfold scan
  by_cases h1:(m:Int)<(fold c (Rw c) l r (j+1)).1
  ·have h2:=(qdl c (Rw c) l r m hm j h1 (f+1)).1
   rw [hj] at h2;omega
  ·rw [inZ h1]
   by_cases h2:cand (fold c (Rw c) l r (j+1)).2.1 (W c (l+1+j)) (Rw c (l+1+j) r) (Rw c l (l+1+j)) m=least
   ·rw [ipZ h2]
    exact ⟨j,by omega,rfl,by omega,h2⟩
   ·rw [inZ h2]
    refine qfl c l r m hm least f (j+1) oZ he ?_;rw [qbK c (Rw c) l r m hm,ipZ oZ]
    have ha:least<=(fold c (Rw c) l r (j+1)).2.2.getD m 0:=by
     rw [←he,show r-l-1=(j+1)+f by omega];clear he hj hlt h2
     induction f with
     | zero=>exact Int.le_refl _
     | succ f ih=>
      refine Int.le_trans ?_ ih;rw [show j+1+(f+1)=(j+1+f)+1 by omega,qbK c (Rw c) l r m hm]
      split<;>omega
    rw [qbK c (Rw c) l r m hm,ipZ oZ] at ha;omega
theorem mM {c:C} (h:Ok c) {l r m:Nat} (hr:r<=c.n) (hlr:l+1<r) (hm:m<len c l) (hf:(Rw c l r).getD m 0<inf):
  ∃i,i<r-l-1/\best c l r m=l+1+i/\W c (l+1+i)<=(m:Int)/\(Rw c (l+1+i) r).getD ((m:Int)-W c (l+1+i)).toNat 0<inf/\(Rw c l (l+1+i)).getD m 0<inf/\((m:Int)-W c (l+1+i)).toNat<len c (l+1+i):=by
 have he:=mR c l r hlr
 obtain ⟨i,hi,h1,h2,h3⟩:=qfl c l r m hm ((Rw c l r).getD m 0) (r-l-1) 0 oZ (by rw [he]) (by
  have e:(Zc (len c l) inf).getD m 0=inf:=by simp [hm]
  show (Rw c l r).getD m 0<(Zc (len c l) inf).getD m 0
  rw [e];exact hf)
 have h4:=lC h (Rw c) (l:=l) hr i oZ;have h5:=dO (fV h (l:=l+1+i) (r:=r) hr) ((m:Int)-W c (l+1+i)).toNat;have h6:=dO (fV h (l:=l) (r:=l+1+i) oZ) m;have h7:=jG h (Rw c) (l:=l) hr (i+1) oZ;have hk:=iE h (l:=l) oZ;have hw:=h.w0 (l+1+i) oZ;unfold cand at h3;refine ⟨i,hi,h1,by omega,by omega,by omega,?_⟩;have ha:(m:Int)<(len c l:Nat):=by omega
 unfold len at ha ⊢;rw [show kept c (l+1+i)=W c (l+1+i) from inZ oZ];omega
structure S where
 saved:List Bool
 code:List (Int × Int)
def S.add (s:S) (k i:Int):S:={ s with code:=s.code++[(k,i)] }
def comp (i:Nat) (s:S):S:=if s.saved.getD i false=true then s.add 2 i else { saved:=s.saved.set i true,code:=s.code++[(1,(i:Int))] }
def qI (c:C) (r:Nat) (s:S):S:=(if r=c.n then (((comp r s).add 4 0).add 3 r).add 5 0 else s).add 6 r
def fwd (l:Nat):Nat->S->S
 | 0,s=>s
 | j+1,s=>if j=0 then comp (l+1+j) (fwd l j s) else (comp (l+1+j) (fwd l j s)).add 3 ((l+j:Nat):Int)
def part (c:C):Nat->Nat->Nat->Nat->S->S
 | 0,_,_,_,s=>s
 | f+1,l,r,m,s=>if r=l+1 then qI c r s else
   part c f l (best c l r m) m ((part c f (best c l r m) r ((m:Int)-W c (best c l r m)).toNat (fwd l (best c l r m-l) s)).add 3 (best c l r m:Nat))
end Ch
open Go.WideMaps
open Go.ChangeMaps (setBlock)
theorem laid_out:laidOutB prog=true:=by kernel_rfl
theorem qg2:(145:TypeId)<prog.types.size:=of_decide_eq_true krZ
theorem qhI:(match prog.underlying 145 with|some (.array _ _)|some (.struct _)=>true|_=>false)=true:=by kernel_rfl
set_option maxRecDepth 100000 in
theorem fJ:KeyLaw prog 145:=deep_law_laid laid_out (m:=2) oZ qg2 krZ qhI
theorem qhJ:prog.keyType 145=true:=by kernel_rfl
theorem qdm:prog.cellsOf 145=2:=by kernel_rfl
theorem part_int:prog.cellsOf 3=1:=by kernel_rfl
theorem qhK:∃m,prog.types.size=m+1:=by
 have h:=qg2
 revert h
 generalize prog.types.size=s;intro h;cases s with
 | zero=>exact absurd h (Nat.not_lt_zero _)
 | succ m=>exact ⟨m,rfl⟩
theorem qcy {a b:Int} (wa:(Lit.int iQ a).wf=true) (wb:(Lit.int iQ b).wf=true):∃kl,keyOf prog 145 (.agg #[nQ iQ a,nQ iQ b])=some kl:=by
 obtain ⟨m,hm⟩:=qhK;have hu:=underlying145;have hi:=underlying3;refine ⟨.string (keyBytes [Lit.int iQ a,Lit.int iQ b]),?_⟩;unfold keyOf;simp only [hu];rw [ipZ (by simp [qhJ,Value.formed,hu,qdm]),hm];unfold Program.keyLits;simp only [hu,Value.cells];rw [ipZ ⟨by rw [qdm];rfl,by kernel_rfl⟩];simp [part_int,Program.keyLits,hi,wa,wb]
theorem qcd {k:Nat} (h:k<=1000000):(Lit.int iQ (k:Int)).wf=true:=by
 exact WalkArith.wf_i64 oZ
def fP (c:Ch.C) (X:List Nat) (bm:Nat) (W:Zp1):Prop:=
 ∃es clock,W.heap[bm]? = some (.map es clock)/\(es.toList.map (·.key)).Nodup/\∀e∈es.toList,∃l r g:Nat,l<r/\r<=c.n/\e.key=.agg #[nQ iQ (l:Int),nQ iQ (r:Int)]/\
  e.val=.agg #[sQ (some ⟨g,0,none⟩) (Ch.len c l) (Ch.len c l)]/\Blk W g 3 (qae (Ch.Rw c l r)).toArray/\g∉X
def KpL (L:List Nat) (w w':Zp1):Prop:=w.heap.size<=w'.heap.size/\∀g o,w.heap[g]? = some o->g∉L->w'.heap[g]? = some o
section
variable {c:Ch.C} {X L:List Nat} {bm b:Nat} {w w' w2 W W':Zp1}
theorem KpL.refl (L:List Nat) (w:Zp1):KpL L w w:=⟨lrZ _,λ_ _ h _=>h⟩
theorem KpL.trans (h:KpL L w w') (k:KpL L w' w2):KpL L w w2:=⟨Zv h.1 k.1,λg o hg ha=>k.2 g o (h.2 g o hg ha) ha⟩
theorem KpL.of_later (h:Later w w'):KpL L w w':=⟨Below.size h,λg _ hg _=>(h.block g (lt_of_block hg)).trans hg⟩
theorem KpL.blk {g:Nat} {t:TypeId} {cs:Array Value} (h:KpL L w w') (hb:Blk w g t cs) (hne:g∉L):Blk w' g t cs:=h.2 g _ hb hne
theorem KpL.mono {M:List Nat} (h:KpL L w w') (hs:∀x∈L,x∈M):KpL M w w':=⟨h.1,λg o hg ha=>h.2 g o hg λhx=>ha (hs g hx)⟩
theorem KpL.drew (h:KpL L w w'):KpL L w w'.drew:=h
theorem KpL.set (h:KpL L w w') {p:Addr} (hp:p.block∈L) (v:Value):KpL L w (w'.setCell p v):=⟨by simpa using h.1,λg o hg ha=>(Below.heap_setCell w' p v g (λe=>ha (e▸hp))).trans (h.2 g o hg ha)⟩
theorem KpL.forget {g0:Nat} (h:KpL (L++[g0]) w w') (hg:w.heap.size<=g0):KpL L w w':=⟨h.1,λg o ha hb=>h.2 g o ha (by
 have:=lt_of_block ha;simp;exact ⟨hb,by omega⟩)⟩
theorem Blk.ne {g g':Nat} {t t':TypeId} {cs cs':Array Value} (h:Blk w g t cs) (h':Blk w g' t' cs') (ht:t≠t'):g≠g':=by
 rintro rfl;have h1:w.heap[g]? = _:=h;have h2:w.heap[g]? = _:=h';rw [h1] at h2;injection h2 with h2
 injection h2 with _ h2 _
 exact ht h2
theorem fP.mono {Y:List Nat} (h:fP c X bm W) (hs:∀y∈Y,y∈X):fP c Y bm W:=by
 obtain ⟨es,clock,hb,hu,he⟩:=h;refine ⟨es,clock,hb,hu,λe hx=>?_⟩;obtain ⟨l,r,g,h1,h2,h3,h4,h5,h6⟩:=he e hx;exact ⟨l,r,g,h1,h2,h3,h4,h5,λhy=>h6 (hs _ hy)⟩
theorem fP.lt (h:fP c X bm W):bm<W.heap.size:=by
 obtain ⟨es,clock,hb,-,-⟩:=h;exact lt_of_block hb
theorem qa7 {g:Nat} {t:TypeId} {cs:Array Value} (h:fP c X bm W) (hb:Blk W g t cs):g≠bm:=by
 obtain ⟨es,clock,hm,-,-⟩:=h;rintro rfl;have hb:W.heap[g]? = _:=hb;rw [hm] at hb;cases hb
theorem fP.to_later (h:fP c X bm W) (hl:Later W W'):fP c X bm W':=by
 obtain ⟨es,clock,hb,hu,he⟩:=h;refine ⟨es,clock,(hl.block bm (lt_of_block hb)).trans hb,hu,λe hx=>?_⟩;obtain ⟨l,r,g,h1,h2,h3,h4,h5,h6⟩:=he e hx;exact ⟨l,r,g,h1,h2,h3,h4,hl.blk h5,h6⟩
theorem fP.fresh (h:fP c X bm W) {g0:Nat} (hg:W.heap.size<=g0):fP c (g0::X) bm W:=by
 obtain ⟨es,clock,hb,hu,he⟩:=h;refine ⟨es,clock,hb,hu,λe hx=>?_⟩;obtain ⟨l,r,g,h1,h2,h3,h4,h5,h6⟩:=he e hx;have:=h5.lt;exact ⟨l,r,g,h1,h2,h3,h4,h5,by simp;exact ⟨by omega,h6⟩⟩
theorem fP.set (h:fP c X bm W) {p:Addr} (hp:p.block∈X) (hne:p.block≠bm) (v:Value):fP c X bm (W.setCell p v):=by
 obtain ⟨es,clock,hb,hu,he⟩:=h;refine ⟨es,clock,(Below.heap_setCell W p v bm (λe=>hne e.symm)).trans hb,hu,λe hx=>?_⟩;obtain ⟨l,r,g,h1,h2,h3,h4,h5,h6⟩:=he e hx;exact ⟨l,r,g,h1,h2,h3,h4,h5.far (λe=>h6 (e▸hp)) v,h6⟩
set_option maxRecDepth 100000 in
theorem fP.look (h:fP c X bm W) (hn:c.n<=1000) {l r:Nat} (hr:r<=c.n) (hlr:l<r):
  (∀Y,Later W Y->(Instr.lookup 164 (.map (some bm)) (.agg #[nQ iQ (l:Int),nQ iQ (r:Int)]) true).run prog Y=.ok (.tuple #[.agg #[sQ none 0 0],.bool false]) Y)∨
  ∃g,(∀Y,Later W Y->(Instr.lookup 164 (.map (some bm)) (.agg #[nQ iQ (l:Int),nQ iQ (r:Int)]) true).run prog Y=.ok (.tuple #[.agg #[sQ (some ⟨g,0,none⟩) (Ch.len c l) (Ch.len c l)],.bool true]) Y)/\Blk W g 3 (qae (Ch.Rw c l r)).toArray/\g∉X:=by
 obtain ⟨es,clock,hb,hu,he⟩:=h;obtain ⟨kl,hc⟩:=qcy (qcd (k:=l) oZ) (qcd (k:=r) oZ);have ht:=underlying164;have hz:∀w,(zeroValue 162).run prog w=.ok (.agg #[sQ none 0 0]) w:=λw=>by kernel_rfl
 have ha:∀e∈es.toList,∃l,keyOf prog 145 e.key=some l:=λe hx=>by
  obtain ⟨l',r',g,h1,h2,h3,-⟩:=he e hx;rw [h3];exact qcy (qcd oZ) (qcd oZ)
 have hg:∀Y,Later W Y->Y.heap[bm]? = some (.map es clock):=λY h=>(h.block bm (lt_of_block hb)).trans hb
 by_cases hx:∃e∈es.toList,e.key=.agg #[nQ iQ (l:Int),nQ iQ (r:Int)]
 ·obtain ⟨e0,hd,hf⟩:=hx
  obtain ⟨j,hj⟩:=List.getElem?_of_mem hd
  right
  rcases fJ.find W hc es.toList ha with ⟨-,h2⟩|⟨j,e,-,h2,h3⟩
  ·exact absurd hf (h2 e0 hd)
  obtain ⟨l',r',g,q1,q2,q3,q4,q5,q6⟩:=he e (List.mem_of_getElem? h2);have hh:=h3;rw [q3] at h3;injection h3 with h3
  obtain ⟨rfl,rfl⟩:l'=l/\r'=r:=by
   simp at h3;omega
  refine ⟨g,λY hY=>?_,q5,q6⟩;rcases fJ.find Y hc es.toList ha with ⟨-,g2⟩|⟨i,e',g1,g2,g3⟩
  ·exact absurd hf (g2 e0 hd)
  obtain rfl:i=j:=by
   have m1:(es.toList.map (·.key))[i]? = some e'.key:=by rw [List.getElem?_map,g2];rfl
   have m2:(es.toList.map (·.key))[j]? = some e.key:=by rw [List.getElem?_map,h2];rfl
   exact (List.getElem?_inj (by rw [List.length_map];exact (List.getElem?_eq_some_iff.1 g2).1) hu).1 (by rw [m1,m2,g3,hh])
  rw [h2] at g2;injection g2 with g2
  subst g2;simp [Instr.lookup,run_underlying ht,MapKept.run_getObj_map (hg Y hY),fJ.check Y _ hc,g1,q4,Result.andThen]
 ·left
  intro Y hY;rcases fJ.find Y hc es.toList ha with ⟨h1,-⟩|⟨i,e',-,g2,g3⟩
  ·simp [Instr.lookup,run_underlying ht,MapKept.run_getObj_map (hg Y hY),fJ.check Y _ hc,h1,hz,Result.andThen]
  ·exact absurd ⟨e',List.mem_of_getElem? g2,g3⟩ hx
set_option maxRecDepth 100000 in
theorem fP.store (h:fP c X bm W) (hn:c.n<=1000) {l r g:Nat} (hr:r<=c.n) (hlr:l<r) (hg:Blk W g 3 (qae (Ch.Rw c l r)).toArray) (hX:g∉X):
  ∃W',(Instr.mapUpdate 164 (.map (some bm)) (.agg #[nQ iQ (l:Int),nQ iQ (r:Int)]) (.agg #[sQ (some ⟨g,0,none⟩) (Ch.len c l) (Ch.len c l)])).run prog W=.ok () W'/\fP c X bm W'/\
   W'.heap.size=W.heap.size/\(∀b,b≠bm->W'.heap[b]? = W.heap[b]?)/\∀B W0,B<=bm->Below B W0 W->Below B W0 W':=by
 have hl:=qa7 h hg;obtain ⟨es,clock,hb,hu,he⟩:=h;obtain ⟨kl,hh⟩:=qcy (qcd (k:=l) oZ) (qcd (k:=r) oZ);have ht:=underlying164
 have hc:∀o:Obj,(setBlock W bm o).heap.size=W.heap.size/\(setBlock W bm o).heap[bm]? = some o/\(∀b,b≠bm->(setBlock W bm o).heap[b]? = W.heap[b]?)/\∀B W0,B<=bm->Below B W0 W->Below B W0 (setBlock W bm o):=λo=>by
  have hp:=lt_of_block hb
  have h3:∀b,b≠bm->(setBlock W bm o).heap[b]? = W.heap[b]?:=λb hm=>by
   simp [setBlock,Array.getElem?_setIfInBounds];intro e;exact absurd e.symm hm
  refine ⟨by simp [setBlock],by simp [setBlock,hp],h3,λB W0 hB hd=>?_⟩;exact ⟨hd.os,hd.tape,hd.output,by have:=hd.size;simpa [setBlock] using this,λb hb=>(h3 b oZ).trans (hd.block b hb)⟩
 have hf:∀(o:Obj) (e:MapEntry),e∈es.toList->∃l r g:Nat,l<r/\r<=c.n/\e.key=.agg #[nQ iQ (l:Int),nQ iQ (r:Int)]/\e.val=.agg #[sQ (some ⟨g,0,none⟩) (Ch.len c l) (Ch.len c l)]/\Blk (setBlock W bm o) g 3 (qae (Ch.Rw c l r)).toArray/\g∉X:=λo e hx=>by
  obtain ⟨l,r,g,h1,h2,h3,h4,h5,h6⟩:=he e hx;refine ⟨l,r,g,h1,h2,h3,h4,((hc o).2.2.1 g ?_).trans h5,h6⟩;rintro rfl;have h5:W.heap[g]? = _:=h5;rw [hb] at h5;cases h5
 rcases fJ.find W hh es.toList (λe hx=>by
   obtain ⟨l',r',g,h1,h2,h3,-⟩:=he e hx;rw [h3];exact qcy (qcd oZ) (qcd oZ)) with ⟨h1,h1'⟩|⟨j,e,h1,h2,h3⟩
 ·refine ⟨setBlock W bm (.map (es.push ⟨.agg #[nQ iQ (l:Int),nQ iQ (r:Int)],.agg #[sQ (some ⟨g,0,none⟩) (Ch.len c l) (Ch.len c l)],clock⟩) (clock+1)),?_,⟨_,_,(hc _).2.1,?_,λe hx=>?_⟩,(hc _).1,(hc _).2.2.1,(hc _).2.2.2⟩
  ·simp [Instr.mapUpdate,run_underlying ht,MapKept.run_getObj_map hb,fJ.check W _ hh,h1,MapKept.run_setObj_map _ hb,Result.andThen,setBlock]
  ·rw [Array.toList_push,List.map_append,List.nodup_append]
   refine ⟨hu,by simp,λa ha b hk=>?_⟩;obtain ⟨e,ho,rfl⟩:=List.mem_map.1 ha;simp at hk;subst hk;exact h1' e ho
  ·rw [Array.toList_push,List.mem_append,List.mem_singleton] at hx
   rcases hx with hx|rfl
   ·exact hf _ e hx
   ·exact ⟨l,r,g,hlr,hr,rfl,rfl,((hc _).2.2.1 g hl).trans hg,hX⟩
 ·refine ⟨setBlock W bm (.map (es.modify j λe=>{ e with key:=.agg #[nQ iQ (l:Int),nQ iQ (r:Int)],val:=.agg #[sQ (some ⟨g,0,none⟩) (Ch.len c l) (Ch.len c l)] }) clock),?_,⟨_,_,(hc _).2.1,?_,λe' hx=>?_⟩,(hc _).1,(hc _).2.2.1,(hc _).2.2.2⟩
  ·have hj:es[j]? = some e:=by rw [←Array.getElem?_toList];exact h2
   simp [Instr.mapUpdate,run_underlying ht,MapKept.run_getObj_map hb,fJ.check W _ hh,h1,hj,h3,fJ.stays W hh,MapKept.run_setObj_map _ hb,Result.andThen,setBlock]
  ·have e1:(es.modify j λe=>{ e with key:=.agg #[nQ iQ (l:Int),nQ iQ (r:Int)],val:=.agg #[sQ (some ⟨g,0,none⟩) (Ch.len c l) (Ch.len c l)] }).toList.map (·.key)=es.toList.map (·.key):=by
    apply List.ext_getElem?;intro i;rw [List.getElem?_map,List.getElem?_map,Array.getElem?_toList,Array.getElem?_toList,Array.getElem?_modify]
    split
    ·rename_i hij
     subst hij;have hj:es[j]? = some e:=by rw [←Array.getElem?_toList];exact h2
     rw [hj];simp [h3]
    ·rfl
   rw [e1];exact hu
  ·obtain ⟨i,hi⟩:=List.getElem?_of_mem hx
   rw [Array.getElem?_toList,Array.getElem?_modify] at hi
   split at hi
   ·obtain ⟨e0,-,rfl⟩:=Option.map_eq_some_iff.1 hi
    exact ⟨l,r,g,hlr,hr,rfl,rfl,((hc _).2.2.1 g hl).trans hg,hX⟩
   ·rw [←Array.getElem?_toList] at hi
    exact hf _ e' (List.mem_of_getElem? hi)
end
theorem Lau {w w1:Zp1} (h:Later w w1:=by with_reducible repeat (first|exact Later.refl _|apply Later.drew|apply Later.drewN|apply Later.alloc|refine Later.call ?_ (by assumption))):Later w w1:=h
theorem qaA {w:Zp1} {p q:Addr} {u v:Value} (h:w.cell? q=some v) (hne:q.block≠p.block):(w.setCell p u).cell? q=some v:=(Zi1 (Below.heap_setCell w p u q.block hne)).trans h
theorem ga {α:Type} {xs:List α} {i:Nat} (h:i<xs.toArray.size):xs.toArray[i]=xs[i]:=List.getElem_toArray h
theorem gs {α:Type} (a:α) (al:List α) (i:Nat) (h:i+1<(a::al).length):(a::al)[i+1]=al[i]'(by simpa using h):=List.getElem_cons_succ ..
theorem gz {α:Type} (a:α) (al:List α) (h:0<(a::al).length):(a::al)[0]=a:=List.getElem_cons_zero ..
theorem sa {α:Type} (l:List α) (i:Nat) (a:α):l.toArray.setIfInBounds i a=(l.set i a).toArray:=List.setIfInBounds_toArray ..
theorem sz {α:Type} {x:α} {xs:List α} {a:α}:(x::xs).set 0 a=a::xs:=List.set_cons_zero
theorem ss {α:Type} {x:α} {xs:List α} {i:Nat} {a:α}:(x::xs).set (i+1) a=x::xs.set i a:=List.set_cons_succ
section
variable {P:Program} {ops:Array Oper} {Q:Exit->Act->Zp1->Prop} {md:Region.Mode} {S:Zp1->Prop} {fuel:Nat} {listed:Array Bool} {a:Act} {w:Zp1}
theorem tk (i:Nat) {oi:Oper} {v:Value} {a2:Act} (h:wpAnyH P md ops Q S fuel (listed.setIfInBounds i true) a2 w)
  (hi:ops[i]? = some oi:=by rfl) (hs:Region.noSelect ops=true:=by kernel_rfl) (hf:Region.free md ops listed i=true:=by kernel_rfl) (hr:(Region.ready md ops listed).contains i=true:=by kernel_rfl)
  (hg:Region.wanted oi (yielded ops a.tmps)=true:=by rfl)
  (hy:∀w,S w->(execOp a.eval oi).run P w=.ok (.value v) w:=by (simp only [List.getElem_toArray,List.getElem_cons_succ,List.getElem_cons_zero];intro w hb;(try dsimp only at hb);go_simp;first|done|with_reducible rfl))
  (hS:S w:=by assumption)
  (ha:a.put oi.dst v=a2:=by ((try simp only [List.getElem_toArray,List.getElem_cons_succ,List.getElem_cons_zero,Act.put,List.setIfInBounds_toArray,List.set_cons_zero,List.set_cons_succ])<;>rfl))
  (hQ:∀c a w,Q (.panic c) (a.put oi.dst v) w->Q (.panic c) a w:=by exact λ_ _ _ h=>h):wpAnyH P md ops Q S (fuel+1) listed a w:=
 wpAnyH_take hi hs hf hr hQ (.inl ⟨hg,hy⟩) hS (ha▸h)
theorem rd (i:Nat) {oi:Oper}
  (h:∀K':Act->Zp1->Prop,Shut (∀a w,S w->(S w->wpAnyH P md ops Q S fuel (listed.setIfInBounds i true) a w)->K' a w)->if Region.wanted oi (yielded ops a.tmps)=true then Oper.wp P oi a w K' Q else K' (a.put oi.dst undef) w)
  (hr:Region.ready md ops listed=[i]:=by kernel_rfl) (hi:ops[i]? = some oi:=by rfl):wpAnyH P md ops Q S (fuel+1) listed a w:=
 Zo1 hr sZ (Zf1 hi h Zg1)
end
theorem Ch.at_ {W:Zp1} {A:Option Addr} {l:List Int} (h:Ints iQ W A l) {k:Nat} (hk:k<l.length):∃b off,A=some ⟨b,off,none⟩/\W.cell? ⟨b,off+k,none⟩=some (nQ iQ (l.getD k 0)):=by
 obtain ⟨b,off,e,-,hc⟩:=h k hk;exact ⟨b,off,e,hc⟩
theorem qdn (Aw Ac:Option Addr) (cw cc n:Nat) (c:Ch.C) (W:Zp1) (hwl:c.words.length=n+1) (hn:n<=1000) (hI:Ints iQ W Aw c.words) (l:Nat) (hl:l<=n):
  Calls prog 112 #[.agg #[sQ Aw (n+1) cw,sQ Ac n cc],nQ iQ l] W λe w'=>e=.returned (nQ iQ (Ch.kept c l))/\Later W w':=by
 obtain ⟨b,off,rfl,hc⟩:=Ch.at_ hI (k:=l) oZ;have ha:Later W (W.alloc (.cells #[sQ (some ⟨b,off,none⟩) (n+1) cw,sQ Ac n cc] 95)):=(Later.refl W).alloc _;have hb:=Blk.new W 95 #[sQ (some ⟨b,off,none⟩) (n+1) cw,sQ Ac n cc];have c0:=hb.cell 0;have h1:=ha.cell hc;have hE:Ch.kept c l=if l=0 then 0 else c.words.getD l 0:=rfl
 generalize c.words.getD l 0=z at *;generalize Ch.kept c l=y at *;clear hc hb hI hwl;have hd:=zI ha;clear ha
 by_cases h0:l=0
 ·subst h0
  rw [ipZ rfl] at hE;subst hE;clear h1;go_in;go_wp2_with fail;go_ret;exact ⟨rfl,hd.out⟩
 ·rw [inZ h0] at hE
  subst hE;have e1:((l:Int)==0)=false:=by simp [h0]
  have q1:(0:Int)<=(l:Int):=by omega
  have q2:(l:Int)<(n:Int)+1:=by omega
  clear h0;go_in;go_wp2_with fail;go_ret;exact ⟨rfl,hd.out⟩
theorem qdo (Aw Ac:Option Addr) (cw cc n:Nat) (c:Ch.C) (W:Zp1) (hok:Ch.Ok c) (hcn:c.n=n) (hI:Ints iQ W Aw c.words) (l k r:Nat) (hk:k<n) (hr:r<=n):
  Calls prog 77 #[.agg #[sQ Aw (n+1) cw,sQ Ac n cc],.agg #[nQ iQ l,nQ iQ r],nQ iQ ((k:Int)+1)] W λe w'=>e=.returned (nQ iQ (Ch.step c l r (k+1)))/\Later W w':=by
 have hc:=hok.wl;have hn:=hok.n64;rw [hcn] at hc hn;have x1:=hok.w0 (k+1) oZ;have x2:=hok.w0 k oZ;have x3:=hok.w0 r oZ;obtain ⟨b,off,rfl,y1⟩:=Ch.at_ hI (k:=k+1) oZ;obtain ⟨b',off',e,y2⟩:=Ch.at_ hI (k:=k) oZ;injection e with e;injection e with e1 e2 e3;subst e1;subst e2;clear e3
 obtain ⟨b',off',e,y3⟩:=Ch.at_ hI (k:=r) oZ;injection e with e;injection e with e1 e2 e3;subst e1;subst e2;clear e3
 have ha:Later W ((W.alloc (.cells #[sQ (some ⟨b,off,none⟩) (n+1) cw,sQ Ac n cc] 95)).alloc (.cells #[nQ iQ l,nQ iQ r] 145)):=((Later.refl W).alloc _).alloc _;have z1:=ha.cell y1;have z2:=ha.cell y2;have z3:=ha.cell y3;have hE:Ch.step c l r (k+1)=Ch.W c (k+1)+(if k=l then 0 else Ch.W c k)+(if r=n then 0 else Ch.W c r):=by unfold Ch.step;rw [hcn,Nat.add_sub_cancel]
 generalize Ch.step c l r (k+1)=y at *;unfold Ch.W at *;generalize c.words.getD (k+1) 0=a1 at *;generalize c.words.getD k 0=a2 at *;generalize c.words.getD r 0=a3 at *;have t1:((k:Int)+1).toNat=k+1:=by omega
 have t2:iQ.wrap (k:Int)=(k:Int):=Zc1 _ oZ;have t3:iQ.wrap (a1+a2)=a1+a2:=Zc1 _ oZ;have t4:iQ.wrap (a1+a3)=a1+a3:=Zc1 _ oZ;have t5:iQ.wrap (a1+a2+a3)=a1+a2+a3:=Zc1 _ oZ;have q1:(0:Int)<=(k:Int)+1:=by omega
 have q2:(k:Int)<(n:Int):=by omega
 have q3:(0:Int)<=(k:Int):=by omega
 have q4:(k:Int)<(n:Int)+1:=by omega
 have q5:(0:Int)<=(r:Int):=by omega
 have q6:(r:Int)<(n:Int)+1:=by omega
 clear hok hcn hI y1 y2 y3 x1 x2 x3 hc hn;have hb:=zI ha;clear ha
 by_cases h1:k=l
 ·subst h1
  by_cases h2:r=n
  ·subst h2
   rw [ipZ rfl,ipZ rfl,Int.add_zero,Int.add_zero] at hE;subst hE;go_in;go_wp2_with fail;go_ret;exact ⟨rfl,hb.out⟩
  ·have e2:((r:Int) != (n:Int))=true:=by simp;omega
   rw [ipZ rfl,inZ h2,Int.add_zero] at hE;subst hE;go_in;go_wp2_with fail;go_ret;exact ⟨rfl,hb.out⟩
 ·have e1:((k:Int) != (l:Int))=true:=by simp;omega
  by_cases h2:r=n
  ·subst h2
   rw [inZ h1,ipZ rfl,Int.add_zero] at hE;subst hE;go_in;go_wp2_with fail;go_ret;exact ⟨rfl,hb.out⟩
  ·have e2:((r:Int) != (n:Int))=true:=by simp;omega
   rw [inZ h1,inZ h2] at hE;subst hE;go_in;go_wp2_with fail;go_ret;exact ⟨rfl,hb.out⟩
theorem qez (Aw Ac:Option Addr) (cw cc n:Nat) (c:Ch.C) (W:Zp1) (hok:Ch.Ok c) (hcn:c.n=n) (hI:Ints iQ W Aw c.words) (l r:Nat) (hl:l<=n) (hr:r<=n):
  Calls prog 76 #[.agg #[sQ Aw (n+1) cw,sQ Ac n cc],.agg #[nQ iQ l,nQ iQ r]] W λe w'=>e=.returned (nQ iQ (Ch.single c l r))/\Later W w':=by
 have ha:=hok.wl;have hn:=hok.n64;rw [hcn] at ha hn;have x3:=hok.w0 r oZ;have x4:=Ch.iE hok (l:=l) oZ;have hk:=hI;obtain ⟨b,off,rfl,y3⟩:=Ch.at_ hI (k:=r) oZ;have hj:Later W ((W.alloc (.cells #[sQ (some ⟨b,off,none⟩) (n+1) cw,sQ Ac n cc] 95)).alloc (.cells #[nQ iQ l,nQ iQ r] 145)):=((Later.refl W).alloc _).alloc _;have hh:=(Blk.new W 95 #[sQ (some ⟨b,off,none⟩) (n+1) cw,sQ Ac n cc]).alloc (.cells #[nQ iQ l,nQ iQ r] 145);have hd:=Blk.new (W.alloc (.cells #[sQ (some ⟨b,off,none⟩) (n+1) cw,sQ Ac n cc] 95)) 145 #[nQ iQ l,nQ iQ r];rw [Zh1] at hd;have hE:Ch.single c l r=Ch.W c r+Ch.kept c l:=rfl;unfold Ch.W at *;have t4:iQ.wrap (c.words.getD r 0+Ch.kept c l)=c.words.getD r 0+Ch.kept c l:=Zc1 _ oZ;generalize hks:Ch.kept c l=ks at *;generalize Ch.single c l r=y at *;generalize c.words.getD r 0=a3 at *;have q5:(0:Int)<=(r:Int):=by omega
 have q6:(r:Int)<(n:Int)+1:=by omega
 have hf:=zI λ(X:Zp1) (h:Later W X)=>qdn (some ⟨b,off,none⟩) Ac cw cc n c X ha oZ (hk.below h (lrZ _)) l hl
 rw [hks] at hf;subst hE;clear hok hcn hI hk x3 x4 ha hn hks;obtain ⟨he,hm,hg⟩:=zd3 hj hh hd;clear hj hh hd;go_in;go_wp2_with fail;generalize (W.alloc (.cells #[sQ (some ⟨b,off,none⟩) (n+1) cw,sQ Ac n cc] 95)).alloc (.cells #[nQ iQ l,nQ iQ r] 145)=W1 at *;have u0:W1.cell? ⟨W.heap.size,0,none⟩=some (sQ (some ⟨b,off,none⟩) (n+1) cw):=hm.out.cell 0;have u1:W1.cell? ⟨W.heap.size,1,none⟩=some (sQ Ac n cc):=hm.out.cell 1;have u2:W1.cell? ⟨W.heap.size+1,0,none⟩=some (nQ iQ l):=hg.out.cell 0;have u3:W1.cell? ⟨W.heap.size+1,1,none⟩=some (nQ iQ r):=hg.out.cell 1;have z3:=he.out.cell y3;clear y3;have KF:=zI (show ∀Xw,Later W1 Xw->Xw.cell? ⟨W.heap.size,0,none⟩=some (sQ (some ⟨b,off,none⟩) (n+1) cw)/\Xw.cell? ⟨W.heap.size,1,none⟩=some (sQ Ac n cc)/\Xw.cell? ⟨W.heap.size+1,0,none⟩=some (nQ iQ l)/\Xw.cell? ⟨W.heap.size+1,1,none⟩=some (nQ iQ r)/\Xw.cell? ⟨b,off+r,none⟩=some (nQ iQ a3) from λXw h=>⟨h.cell u0,h.cell u1,h.cell u2,h.cell u3,h.cell z3⟩);refine Zm1 ?_;refine Zl1 (S:=λXw=>Xw.cell? ⟨W.heap.size,0,none⟩=some (sQ (some ⟨b,off,none⟩) (n+1) cw)/\Xw.cell? ⟨W.heap.size,1,none⟩=some (sQ Ac n cc)/\Xw.cell? ⟨W.heap.size+1,0,none⟩=some (nQ iQ l)/\Xw.cell? ⟨W.heap.size+1,1,none⟩=some (nQ iQ r)/\Xw.cell? ⟨b,off+r,none⟩=some (nQ iQ a3)) krZ (KF.out _ Lau) (λhHeld=>?_);refine tk 0 ?_;refine tk 1 ?_;refine tk 2 ?_;refine tk 3 ?_;refine tk 4 ?_;refine tk 5 ?_;refine tk 6 ?_;refine tk 7 ?_;refine tk 8 ?_;refine rd 9 λK hK=>?_
 simp only [ga,gs,gz]
 go_simp
 go_at_call 112;(with_reducible refine (hf.out _ (he.out.trans (Lau:Later W1 _))).mono ?_);rintro e wa ⟨rfl,hc⟩
 replace hc:Below _ _ wa:=hc
 try go_wp2_with fail
 refine hK.out _ _ (KF.out _ Lau) (λhHeld=>?_);clear hK K
 try simp only [ga,gs,gz,Act.put,sa,sz,ss]
 refine tk 10 ?_;refine tk 11 ?_;clear KF;refine Zn1 krZ ?_ _;refine Zd1 ?_;have ho:Later W1 wa:=Lau;have hi:=he.out.trans ho;have hb:=zI hi;clear hi;clear ho hc;go_wp2_with fail;go_ret;exact ⟨rfl,by first|exact hb.out|exact hb.out.drew|exact hb.out.drewN _⟩
theorem qhL (Aw Ac:Option Addr) (cw cc n p bm:Nat) (c:Ch.C) (W:Zp1) (hcn:c.n=n) (hn:n<=64) (hJ:Ints iQ W Ac c.cost) (l r:Nat) (hr:r<n)
  (hB:Blk W p 166 #[sQ Aw (n+1) cw,sQ Ac n cc,nQ iQ n,nQ iQ c.cap,.map (some bm)]):
  Calls prog 132 #[.pointer (some ⟨p,0,none⟩),.agg #[nQ iQ l,nQ iQ ((r:Int)+1)]] W λe w'=>e=.returned (nQ iQ (Ch.own c (r+1)))/\Later W w':=by
 obtain ⟨b,off,rfl,y3⟩:=Ch.at_ hJ (k:=r) (by show r<c.n;omega);have hb:Later W (W.alloc (.cells #[nQ iQ l,nQ iQ ((r:Int)+1)] 145)):=(Later.refl W).alloc _;have hd:=Blk.new W 145 #[nQ iQ l,nQ iQ ((r:Int)+1)];have hf:=hb.blk hB;have hE:Ch.own c (r+1)=if r+1=n then c.cost.getD r 0 else 0:=by unfold Ch.own;rw [hcn,Nat.add_sub_cancel]
 generalize Ch.own c (r+1)=y at *;generalize c.cost.getD r 0=a3 at *;generalize c.cap=cp at *;have t2:iQ.wrap (r:Int)=(r:Int):=Zc1 _ oZ;have q5:(0:Int)<=(r:Int):=by omega
 have q6:(r:Int)<(n:Int):=by omega
 have z3:=hb.cell y3;clear hcn hJ y3 hB;obtain ⟨ha,he,hc⟩:=zd3 hb hd hf;clear hb hd hf
 by_cases h1:r+1=n
 ·rw [ipZ h1] at hE
  subst hE;have e1:((r:Int)+1==(n:Int))=true:=by simp;omega
  clear h1;go_in;go_wp2_with fail;generalize W.alloc (.cells #[nQ iQ l,nQ iQ ((r:Int)+1)] 145)=W1 at *;have u1:W1.cell? ⟨W.heap.size,1,none⟩=some (nQ iQ ((r:Int)+1)):=he.out.cell 1;have u2:W1.cell? ⟨p,1,none⟩=some (sQ (some ⟨b,off,none⟩) n cc):=hc.out.cell 1;have u3:W1.cell? ⟨p,2,none⟩=some (nQ iQ n):=hc.out.cell 2
  go_quiet (fail)
  go_wp2_with fail
  go_quiet (fail)
  go_wp2_with fail;go_ret;exact ⟨rfl,by first|exact ha.out|exact ha.out.drew|exact ha.out.drewN _|exact (ha.out.drewN _).drewN _⟩
 ·rw [inZ h1] at hE
  subst hE;have e1:((r:Int)+1==(n:Int))=false:=by simp;omega
  clear h1;go_in;go_wp2_with fail;generalize W.alloc (.cells #[nQ iQ l,nQ iQ ((r:Int)+1)] 145)=W1 at *;have u1:W1.cell? ⟨W.heap.size,1,none⟩=some (nQ iQ ((r:Int)+1)):=he.out.cell 1;have u3:W1.cell? ⟨p,2,none⟩=some (nQ iQ n):=hc.out.cell 2
  go_quiet (fail)
  go_wp2_with fail;go_ret;exact ⟨rfl,by first|exact ha.out|exact ha.out.drew|exact ha.out.drewN _⟩
structure SvA where
 Aw:Option Addr
 Ac:Option Addr
 cw:Nat
 cc:Nat
 p:Nat
 bm:Nat
def SvA.cells (a:SvA) (n:Nat) (cap:Int):Array Value:=#[.slice a.Aw (n+1) a.cw,.slice a.Ac n a.cc,nQ iQ n,nQ iQ cap,.map (some a.bm)]
structure SvA.Still (a:SvA) (c:Ch.C) (n:Nat) (W0:Zp1):Prop where
 ok:Ch.Ok c
 cn:c.n=n
 ws:Ints iQ W0 a.Aw c.words
 cs:Ints iQ W0 a.Ac c.cost
 hp:W0.heap.size<=a.p
 hm:W0.heap.size<=a.bm
structure SvM (a:SvA) (c:Ch.C) (n:Nat) (W0:Zp1) (X:List Nat) (W:Zp1):Prop where
 later:Later W0 W
 box:Blk W a.p 166 (a.cells n c.cap)
 memo:fP c X a.bm W
theorem fP.far {c:Ch.C} {X:List Nat} {bm:Nat} {W:Zp1} (h:fP c X bm W) {q o:Nat} {t:TypeId} {cs:Array Value} (hb:Blk W q t cs) (ht:t≠3) (v:Value):fP c X bm (W.setCell ⟨q,o,none⟩ v):=by
 have ha:=qa7 h hb;obtain ⟨es,clock,hm,hu,he⟩:=h;refine ⟨es,clock,(Below.heap_setCell W ⟨q,o,none⟩ v bm (λe=>ha e.symm)).trans hm,hu,λe hx=>?_⟩;obtain ⟨l,r,g,h1,h2,h3,h4,h5,h6⟩:=he e hx;exact ⟨l,r,g,h1,h2,h3,h4,h5.far (p:=⟨q,o,none⟩) (Ne.symm (Blk.ne hb h5 ht)) v,h6⟩
section
variable {a:SvA} {c:Ch.C} {n:Nat} {W0 W W':Zp1} {X:List Nat}
theorem SvM.to_later (h:SvM a c n W0 X W) (hl:Later W W'):SvM a c n W0 X W':=⟨h.later.trans hl,hl.blk h.box,h.memo.to_later hl⟩
theorem SvM.set (h:SvM a c n W0 X W) {g o:Nat} {t:TypeId} {cs:Array Value} (hg:g∈X) (hb:Blk W g t cs) (ht:t≠166) (h0:W0.heap.size<=g) (v:Value):SvM a c n W0 X (W.setCell ⟨g,o,none⟩ v):=
 ⟨h.later.set (p:=⟨g,o,none⟩) h0 v,h.box.far (p:=⟨g,o,none⟩) (Ne.symm (Blk.ne hb h.box ht)) v,h.memo.set (p:=⟨g,o,none⟩) hg (qa7 h.memo hb) v⟩
theorem SvM.far (h:SvM a c n W0 X W) {q o:Nat} {t:TypeId} {cs:Array Value} (hb:Blk W q t cs) (ht:t≠3) (ht2:t≠166) (h0:W0.heap.size<=q) (v:Value):SvM a c n W0 X (W.setCell ⟨q,o,none⟩ v):=
 ⟨h.later.set (p:=⟨q,o,none⟩) h0 v,h.box.far (p:=⟨q,o,none⟩) (Ne.symm (Blk.ne hb h.box ht2)) v,h.memo.far hb ht v⟩
theorem SvM.cells5 (h:SvM a c n W0 X W):W.cell? ⟨a.p,0,none⟩=some (.slice a.Aw (n+1) a.cw)/\W.cell? ⟨a.p,1,none⟩=some (.slice a.Ac n a.cc)/\W.cell? ⟨a.p,2,none⟩=some (nQ iQ n)/\W.cell? ⟨a.p,3,none⟩=some (nQ iQ c.cap)/\W.cell? ⟨a.p,4,none⟩=some (.map (some a.bm)):=
 ⟨h.box.cell 0,h.box.cell 1,h.box.cell 2,h.box.cell 3,h.box.cell 4⟩
end
def uX (a:SvA) (c:Ch.C) (n:Nat) (W0:Zp1) (X:List Nat) (l r:Nat) (W:Zp1) (e:Ending) (w':Zp1):Prop:=
 ∃g,e=.returned (.agg #[sQ (some ⟨g,0,none⟩) (Ch.len c l) (Ch.len c l)])/\Blk w' g 3 (qae (Ch.Rw c l r)).toArray/\g∉X/\SvM a c n W0 X w'/\KpL [a.bm] W w'
def wI (a:SvA) (c:Ch.C) (n:Nat) (W0:Zp1) (f:Nat):Prop:=∀(l r:Nat) (X:List Nat) (W:Zp1),l<r->r<=n->r-l<=f->SvM a c n W0 X W->(∀x∈X,x<W.heap.size)->
 Calls prog 94 #[.pointer (some ⟨a.p,0,none⟩),.agg #[nQ iQ l,nQ iQ r]] W (uX a c n W0 X l r W)
theorem qbL (A:Option Addr) (l c:Nat) (w:Zp1):(Instr.field 162 (.agg #[sQ A l c]) 0).run prog w=.ok (sQ A l c) w:=by
 simp [Instr.field,run_underlying underlying162,asAgg,go_sem]
theorem qce {W:Zp1} {g:Nat} {l:List Int} (h:Blk W g 3 (qae l).toArray) {i:Nat} (hi:i<l.length):W.cell? ⟨g,i,none⟩=some (nQ iQ (l.getD i 0)):=by
 rw [h.cell];simp [qae,hi]
theorem qdM {W:Zp1} {g:Nat} {l:List Int} (h:Blk W g 3 (qae l).toArray) (i:Nat) (z:Int):Blk (W.setCell ⟨g,i,none⟩ (nQ iQ z)) g 3 (qae (l.set i z)).toArray:=by
 have:=h.aO i (nQ iQ z);simpa [qae,List.map_set] using this
set_option maxRecDepth 100000 in
theorem qfm (a:SvA) (c:Ch.C) (n:Nat) (W0:Zp1) (hS:a.Still c n W0) (f:Nat) (HV:wI a c n W0 f) (X:List Nat) (l k r q0 g0:Nat) (cost:Int) (cur:List Int) (W:Zp1) (hM:SvM a c n W0 X W) (hX:∀x∈X,x<W.heap.size)
  (hg0:g0∈X) (hW0:W0.heap.size<=g0) (hcur:Blk W g0 3 (qae cur).toArray) (hcl:cur.length=Ch.len c l) (hlk:l<k) (hkr:k<r) (hr:r<=n) (hf:r-l<=f+1) (hn1:Ch.W c k<=(q0:Int)) (hn2:q0<Ch.len c l) (hc0:0<=cost/\cost<=140737488355328)
  (hJ:∀x∈cur,0<=x/\x<=Ch.inf):
  Calls prog 133 #[.pointer (some ⟨a.p,0,none⟩),.agg #[nQ iQ l,nQ iQ r],nQ iQ k,nQ iQ q0,nQ iQ cost,sQ (some ⟨g0,0,none⟩) (Ch.len c l) (Ch.len c l)] W λe w'=>
   e=.returned (.tuple #[])/\Blk w' g0 3 (qae (Ch.dU q0 cost (Ch.W c k) (Ch.Rw c k r) (Ch.Rw c l k) cur (Ch.len c l))).toArray/\SvM a c n W0 X w'/\KpL [a.bm,g0] W w':=by
 have hb:=hS.ok;have HB:=hS.cn;have Hx:=hb.wl;have h2:=hb.n64;rw [HB] at Hx h2;have hF:Later W (W.alloc (.cells #[nQ iQ l,nQ iQ r] 145)):=(Later.refl W).alloc _;have hH:=Blk.new W 145 #[nQ iQ l,nQ iQ r];have Hg:=zI λ(Y:Zp1) (h:Later W Y)=>HV k r X Y hkr hr oZ (hM.to_later h) (λx hx=>ltZ (hX x hx) h.size)
 have Hp:=zI λ(Y:Zp1) (h:SvM a c n W0 X Y) (hx:∀x∈X,x<Y.heap.size)=>HV l k X Y hlk oZ oZ h hx
 have HP:=qa7 hM.memo hcur;have Hl:=qa7 hM.memo hM.box;have HU:=hb.w0 k oZ;have Hw:=hb.vO;have Hj:=hb.cap0;have H5:=Ch.sF hb (l:=l) oZ
 have hT:Ch.len c l<=(c.cap+1).toNat:=by
  have:=Ch.iE hb (l:=l) oZ;unfold Ch.len;omega
 have hY:(Ch.len c k:Int)=max 0 (c.cap-Ch.W c k+1):=by unfold Ch.len Ch.kept;rw [inZ oZ];omega
 have HY:=Ch.lM c k r hkr;have H4:=Ch.lM c l k hlk;have hI:=Ch.fV hb (l:=k) (r:=r) oZ;have hN:=Ch.fV hb (l:=l) (r:=k) oZ;obtain ⟨bw,offw,HF,hp⟩:=Ch.at_ hS.ws (k:=k) oZ;have hp:W0.cell? ⟨bw,offw+k,none⟩=some (nQ iQ (Ch.W c k)):=hp;generalize Ch.W c k=wk at *;obtain ⟨v,rfl⟩:=ezZ (show 0<=wk by omega);have u0:(W.alloc (.cells #[nQ iQ l,nQ iQ r] 145)).cell? ⟨W.heap.size,0,none⟩=some (nQ iQ l):=hH.cell 0;have u1:(W.alloc (.cells #[nQ iQ l,nQ iQ r] 145)).cell? ⟨W.heap.size,1,none⟩=some (nQ iQ r):=hH.cell 1;have hh:=hF.blk hcur;have h8:=KpL.of_later (L:=[a.bm,g0]) hF;have h9:=hM.to_later hF;obtain ⟨hj,h0,Hq,hk,HX,Hk,HM,HA,HS⟩:=zd9 hh h9 h8 hH hX hF hI hN hS;obtain ⟨HT,HK,HZ⟩:=zd3 hb hJ Hl;clear hh h9 h8 hH hX hF hI hN hS hb hJ Hl;clear hM hcur HV;have HW:=qbL;go_in;go_wp2_with fail;generalize W.alloc (.cells #[nQ iQ l,nQ iQ r] 145)=W1 at *;have KF:=zI (show ∀Xw,Later W1 Xw->Xw.cell? ⟨W.heap.size,0,none⟩=some (nQ iQ l)/\Xw.cell? ⟨W.heap.size,1,none⟩=some (nQ iQ r) from λXw h=>⟨h.cell u0,h.cell u1⟩);refine Zm1 ?_;refine Zl1 (S:=λXw=>Xw.cell? ⟨W.heap.size,0,none⟩=some (nQ iQ l)/\Xw.cell? ⟨W.heap.size,1,none⟩=some (nQ iQ r)) krZ (KF.out _ Lau) (λhHeld=>?_);refine tk 0 ?_;refine tk 1 ?_;refine tk 2 ?_;refine tk 3 ?_;refine tk 4 ?_;refine tk 7 ?_;refine tk 8 ?_;refine tk 9 ?_;refine tk 10 ?_;refine tk 11 ?_;refine rd 5 λK hK=>?_
 simp only [ga,gs,gz]
 go_simp
 go_at_call 94;(with_reducible refine (Hg.out _ (Hk.out.trans (Lau:Later W1 _))).mono ?_);rintro e wa ⟨g1,rfl,Hs,h7,Hf,hg⟩
 have ha:W.heap.size∉[a.bm]:=by simp only [List.mem_singleton];exact qa7 h0.out.memo hk.out
 replace u0:=(hg.blk hk.out ha).cell 0;replace u1:=(hg.blk hk.out ha).cell 1;have HI:=zI (λx (hx:x∈X)=>ltZ (HX.out x hx) (Zv (Below.size Hk.out) hg.1));obtain ⟨hW,h5,hO⟩:=zd3 Hs Hf hg;clear Hs Hf hg ha
 try go_wp2_with fail
 refine hK.out _ _ (by first|exact ⟨u0,u1⟩|exact KF.out _ Lau) (λhHeld=>?_);clear hK K
 try simp only [ga,gs,gz,Act.put,sa,sz,ss]
 refine tk 6 ?_;refine rd 12 λK hK=>?_
 simp only [ga,gs,gz]
 go_simp
 go_at_call 94;(with_reducible refine (Hp.out _ h5.out HI.out).mono ?_);rintro e wb ⟨g2,rfl,Ht,Hm,hn,hL⟩
 have ha:W.heap.size∉[a.bm]:=by simp only [List.mem_singleton];exact qa7 h0.out.memo hk.out
 replace u0:=(hL.blk (hO.out.blk hk.out ha) ha).cell 0;replace u1:=(hL.blk (hO.out.blk hk.out ha) ha).cell 1;obtain ⟨Hh,hm,hU⟩:=zd3 Ht hn hL;clear Ht hn hL ha
 try go_wp2_with fail
 refine hK.out _ _ (by first|exact ⟨u0,u1⟩|exact KF.out _ Lau) (λhHeld=>?_);clear hK K
 try simp only [ga,gs,gz,Act.put,sa,sz,ss]
 refine tk 13 ?_;refine tk 14 ?_;refine tk 15 ?_;clear KF;refine Zn1 krZ ?_ _;refine Zd1 ?_;have hg:KpL [a.bm] W1 wa:=hO.out;have hl:=hg.trans hU.out;have hs:=hU.out.blk hW.out (by simp;exact qa7 h5.out.memo hW.out);have hc:=hl.blk hj.out (by simp;exact HP);have Hc:KpL [a.bm,g0] W wb:=Hq.out.trans (hl.mono sZ);have Hn:=hm.out.later;have HL:=Hn.cell hp;have hD:=Hh.out;have hI:=HM.out;have hN:=HA.out;have hJ:=HK.out;have hz:Ch.dU (q0:Int) cost (v:Int) (Ch.Rw c k r) (Ch.Rw c l k) cur q0=cur:=Ch.qE _ _ _ _ (Int.le_refl _);generalize hRq:Ch.Rw c k r=R at *;generalize hLq:Ch.Rw c l k=L at *;generalize hm0:Ch.len c l=m0 at *;obtain ⟨HN,HE,Hy⟩:=zd3 hRq hLq hm0;clear hRq hLq hm0;generalize hm1:Ch.len c k=m1 at *;have hn:=hm.out;have hQ:g1≠g0:=λe=>h7 (e▸hg0)
 have h1:g2≠g0:=λe=>Hm (e▸hg0)
 have hR:=Zj1 _ _ hp;have H3:bw≠g0:=by simp only at hR;omega
 have H2:a.p≠g0:=Ne.symm (Blk.ne hc hn.box dZ);obtain ⟨h6,hu,hw,hi,h4,hm,hZ⟩:=zd7 Hc hs hD hc hz hn hcl;clear Hc hs hD hc hz hn hcl;clear hg hl hO hU h5 hm hW Hh Hg Hp Hn HL u0 u1 hj h0 Hq hk h7 Hm;go_wp2_with fail
 go_loopw [14] (λi wr=>∃j:Nat,q0<=j/\j<=m0/\i=nQ iQ (j:Int)/\Blk wr g0 3 (qae (Ch.dU q0 cost v R L cur j)).toArray/\SvM a c n W0 X wr/\KpL [a.bm,g0] W wr/\Blk wr g1 3 (qae R).toArray/\Blk wr g2 3 (qae L).toArray) (λi _=>m0-(intOf i).toNat)
 case atStart=>exact ⟨q0,lrZ _,by omega,rfl,by rw [h4.out];exact hi.out,hm.out,h6.out,hu.out,hw.out⟩
 case round=>
  obtain ⟨j,H0,HR,rfl,hC,ho,hG,he,hd⟩:=hrel;clear hi hm h6 hu hw
  by_cases H1:j<m0
  ·obtain ⟨q,hq⟩:∃q:Nat,j=q+v:=⟨j-v,by omega⟩
   have HO:q<m1:=by omega
   have HG:(Ch.dU (q0:Int) cost (v:Int) R L cur j).length=m0:=by rw [Ch.nZ];exact hZ.out
   have y0:=qce hC (i:=j) oZ;rw [show (Ch.dU (q0:Int) cost (v:Int) R L cur j).getD j 0=cur.getD j 0 by unfold Ch.dU;rw [Ch.oV _ _ _ _ _ (by have:=hZ.out;omega),inZ oZ]] at y0;have y1:=qce he (i:=q) oZ;have y2:=qce hd (i:=j) oZ;have y3:=ho.later.cell hp;have xp:=ho.cells5.1;rw [HF] at xp;have f0:=hC.frozen j
   have He:Ch.dU (q0:Int) cost (v:Int) R L cur (j+1)=(Ch.dU (q0:Int) cost (v:Int) R L cur j).set j (min (cur.getD j 0) (cost+R.getD q 0+L.getD j 0)):=by
    have h:=Ch.rE (λ(m:Nat)=>min (cur.getD m 0) (Ch.cand cost v R L m)) (q0:Int) j cur oZ (by have:=hZ.out;omega);unfold Ch.cand at h;rw [show ((j:Int)-(v:Int)).toNat=q by omega] at h;exact h
   have b0:=Ch.dO hJ j;have b1:=Ch.dO hI q;have b2:=Ch.dO hN j;unfold Ch.inf at b0 b1 b2;have hP:=qdM hC j (min (cur.getD j 0) (cost+R.getD q 0+L.getD j 0));rw [←He] at hP;generalize cur.getD j 0=cv at *;generalize R.getD q 0=rv at *;generalize L.getD j 0=lv at *;have e1:iQ.wrap ((j:Int)-(v:Int))=(q:Int):=by rw [Zc1 _ oZ];omega
   have e2:iQ.wrap (cost+rv)=cost+rv:=Zc1 _ oZ;have e3:iQ.wrap (cost+rv+lv)=cost+rv+lv:=Zc1 _ oZ;have k1:(j:Int)<(m0:Int):=by omega
   have k2:(0:Int)<=(j:Int):=by omega
   have k3:(q:Int)<(m1:Int):=by omega
   have k4:(0:Int)<=(q:Int):=by omega
   have k5:(k:Int)<(n:Int)+1:=by omega
   have k6:(0:Int)<=(k:Int):=by omega
   have Hr:=λm z=>(ho.to_later (Later.drewN (Later.refl wr) m)).set (o:=j) hg0 hC dZ hW0 (nQ iQ z)
   have Hv:=λm z=>KpL.set (p:=⟨g0,j,none⟩) (hG.trans (KpL.of_later (Later.drewN (Later.refl wr) m))) sZ (nQ iQ z)
   have hv:=he.far (p:=⟨g0,j,none⟩) hQ (nQ iQ (min cv (cost+rv+lv)));have hy:=hd.far (p:=⟨g0,j,none⟩) h1 (nQ iQ (min cv (cost+rv+lv)));obtain ⟨Hd,Hu,Hi,ht,hE⟩:=zd5 hP Hr Hv hv hy;clear hP Hr Hv hv hy;clear hC ho hG he hd He HG hq HO b0 b1 b2 hT hY;go_wp2_with fail;have KF:=zI (show ∀Xw,Later wr Xw->Xw.cell? ⟨bw,offw+k,none⟩=some (nQ iQ v)/\Xw.cell? ⟨a.p,0,none⟩=some (sQ (some ⟨bw,offw,none⟩) (n+1) a.cw)/\Xw.cell? ⟨g1,q,none⟩=some (nQ iQ rv)/\Xw.cell? ⟨g2,j,none⟩=some (nQ iQ lv) from λXw h=>⟨h.cell y3,h.cell xp,h.cell y1,h.cell y2⟩);refine Zm1 ?_;refine Zl1 (S:=λXw=>Xw.cell? ⟨bw,offw+k,none⟩=some (nQ iQ v)/\Xw.cell? ⟨a.p,0,none⟩=some (sQ (some ⟨bw,offw,none⟩) (n+1) a.cw)/\Xw.cell? ⟨g1,q,none⟩=some (nQ iQ rv)/\Xw.cell? ⟨g2,j,none⟩=some (nQ iQ lv)) krZ (KF.out _ Lau) (λhHeld=>?_);refine tk 0 ?_;refine tk 1 ?_;refine tk 2 ?_;refine tk 3 ?_;refine tk 4 ?_;refine tk 6 ?_;refine tk 7 ?_;refine tk 8 ?_;refine tk 9 ?_;refine tk 10 ?_;refine tk 11 ?_;refine tk 12 ?_;refine tk 13 ?_;refine tk 14 ?_;refine tk 15 ?_;refine tk 16 ?_;refine tk 17 ?_;refine tk 18 ?_;refine tk 19 ?_;refine tk 20 ?_;refine tk 21 ?_;refine tk 22 ?_;refine tk 23 ?_;refine tk 24 ?_;refine tk 25 ?_;refine rd 5 λK hK=>?_
   simp only [ga,gs,gz]
   go_simp
   refine hK.out _ _ (KF.out _ Lau) (λhHeld=>?_);clear hK K
   try simp only [ga,gs,gz,Act.put,sa,sz,ss]
   refine tk 26 ?_;refine tk 27 ?_;refine rd 28 λK hK=>?_
   simp only [ga,gs,gz]
   go_simp
   refine hK.out _ _ ?_ (λhHeld=>?_)
   ·(try dsimp only);(refine ⟨?_,?_,?_,?_⟩<;>(repeat (refine qaA ?_ (by first|omega|(simp;done)|(simp;omega))))<;>(refine Later.cell (Lau:Later wr _) ?_)<;>assumption)
   clear hK K
   try simp only [ga,gs,gz,Act.put,sa,sz,ss]
   clear KF;refine Zn1 krZ ?_ _;refine Zd1 ?_;have Hb:Blk (wr.drew.setCell ⟨g0,j,none⟩ (nQ iQ (min cv (cost+rv+lv)))) g0 3 (qae (Ch.dU q0 cost v R L cur (j+1))).toArray:=Hd.out;have Ho:SvM a c n W0 X (wr.drew.setCell ⟨g0,j,none⟩ (nQ iQ (min cv (cost+rv+lv)))):=Hu.out 1 _;have Ha:KpL [a.bm,g0] W (wr.drew.setCell ⟨g0,j,none⟩ (nQ iQ (min cv (cost+rv+lv)))):=Hi.out 1 _;have hB:Blk (wr.drew.setCell ⟨g0,j,none⟩ (nQ iQ (min cv (cost+rv+lv)))) g1 3 (qae R).toArray:=ht.out;have hA:Blk (wr.drew.setCell ⟨g0,j,none⟩ (nQ iQ (min cv (cost+rv+lv)))) g2 3 (qae L).toArray:=hE.out;obtain ⟨HD,HJ,HH,hV,h3⟩:=zd5 Hb Ho Ha hB hA;clear Hb Ho Ha hB hA;clear Hd Hu Hi ht hE y0 y1 y2 y3 xp f0;go_wp2_with fail;go_roundw
   case rel=>exact ⟨j+1,by omega,by omega,by go_num,HD.out,HJ.out,HH.out,hV.out,h3.out⟩
   case measure=>simp [intOf];omega
  ·obtain rfl:j=m0:=by omega
   obtain ⟨HC,Hz,HQ⟩:=zd3 hC ho hG;clear hC ho hG;clear he hd;go_wp2_with fail
   go_end0
   exact ⟨rfl,by rw [HN.out,HE.out,Hy.out];exact HC.out,Hz.out,HQ.out⟩
theorem Ch.fill_succ (m k:Nat) (h:k<m):(Zc k Ch.inf++Zc (m-k) 0).set k Ch.inf=Zc (k+1) Ch.inf++Zc (m-(k+1)) 0:=by
 obtain ⟨d,hd⟩:∃d,m-k=d+1:=⟨m-k-1,by omega⟩
 rw [hd,show m-(k+1)=d by omega,List.set_append_right _ _ sZ,List.length_replicate,Nat.sub_self,List.replicate_succ (n:=d),List.set_cons_zero,List.replicate_succ' (n:=k),List.append_assoc]
 rfl
theorem Ch.over_big (g:Nat->Int) (x:Int) (b:Nat) (l:List Int) (h:l.length<=b):Ch.over g x b l=Ch.over g x l.length l:=by
 unfold Ch.over;apply List.map_congr_left;intro m hm;have:=List.mem_range.1 hm
 by_cases h1:x<=(m:Int)
 ·rw [ipZ ⟨h1,by omega⟩,ipZ ⟨h1,by omega⟩]
 ·rw [inZ oZ,inZ oZ]
theorem Ch.qW (c:Ch.C) (R:Nat->Nat->List Int) (l r j:Nat):(Ch.fold c R l r (j+1)).1=max (Ch.fold c R l r j).1 (Ch.step c l r (l+1+j))/\(Ch.fold c R l r (j+1)).2.1=(Ch.fold c R l r j).2.1+c.cost.getD (l+j) 0/\
  (Ch.fold c R l r (j+1)).2.2=if (Ch.fold c R l r (j+1)).1<(Ch.len c l:Int) then Ch.dU (Ch.fold c R l r (j+1)).1 (Ch.fold c R l r (j+1)).2.1 (Ch.W c (l+1+j)) (R (l+1+j) r) (R l (l+1+j)) (Ch.fold c R l r j).2.2 (Ch.len c l) else (Ch.fold c R l r j).2.2:=⟨rfl,rfl,rfl⟩
def LkP (c:Ch.C) (X:List Nat) (l r:Nat) (W1:Zp1) (v ok:Value) (wx:Zp1):Prop:=∃b,v=.pointer (some ⟨b,0,none⟩)/\Later W1 wx/\(ok=.bool false∨
 (ok=.bool true/\∃g,Blk wx b 162 #[sQ (some ⟨g,0,none⟩) (Ch.len c l) (Ch.len c l)]/\Blk wx g 3 (qae (Ch.Rw c l r)).toArray/\g∉X))
set_option maxRecDepth 100000 in
theorem qbd (a:SvA) (c:Ch.C) (n:Nat) (W0:Zp1) (hS:a.Still c n W0):∀f,wI a c n W0 f:=by
 intro f
 induction f with
 | zero=>intro l r X W HT _ hf;omega
 | succ f HV=>
 intro l r X W HT hr hf hM hX;have H0:=hS.ok;have HW:=hS.cn;have gF:=H0.wl;have HD:=H0.n64;rw [HW] at gF HD;have gB:Later W ((W.alloc (.cells #[nQ iQ l,nQ iQ r] 145)).alloc (.cells #[sQ none 0 0] 162)):=((Later.refl W).alloc _).alloc _;have gR:=(Blk.new W 145 #[nQ iQ l,nQ iQ r]).alloc (.cells #[sQ none 0 0] 162);have gc:=Blk.new (W.alloc (.cells #[nQ iQ l,nQ iQ r] 145)) 162 #[sQ none 0 0];rw [Zh1] at gc;have gf:=hM.to_later gB;have h3:=gf.memo.look oZ (l:=l) (r:=r) oZ HT;obtain ⟨Hf,gx,gQ,HX,HS,hv,gt,hA,Gd⟩:=zd9 gR gc gf hX hS H0 gB h3 HV;have HM:=zI hM;clear gR gc gf hX hS H0 gB h3 HV hM;go_in;go_wp2_with fail;generalize (W.alloc (.cells #[nQ iQ l,nQ iQ r] 145)).alloc (.cells #[sQ none 0 0] 162)=W1 at *
 go_cut [5,6] (LkP c X l r W1)
 case first=>
  have u0:W1.cell? ⟨W.heap.size,0,none⟩=some (nQ iQ l):=Hf.out.cell 0;have u1:W1.cell? ⟨W.heap.size,1,none⟩=some (nQ iQ r):=Hf.out.cell 1;have p4:=gQ.out.cells5.2.2.2.2;rcases hA.out with h0|⟨g,h0,Hg,h9⟩
  ·clear hA
   have hF:=zI h0;clear h0;have KF:=zI (show ∀Xw,Later W1 Xw->Xw.cell? ⟨W.heap.size,0,none⟩=some (nQ iQ l)/\Xw.cell? ⟨W.heap.size,1,none⟩=some (nQ iQ r)/\Xw.cell? ⟨a.p,4,none⟩=some (.map (some a.bm)) from λXw h=>⟨h.cell u0,h.cell u1,h.cell p4⟩);refine Zm1 ?_;refine Zl1 (S:=λXw=>Xw.cell? ⟨W.heap.size,0,none⟩=some (nQ iQ l)/\Xw.cell? ⟨W.heap.size,1,none⟩=some (nQ iQ r)/\Xw.cell? ⟨a.p,4,none⟩=some (.map (some a.bm))) krZ (KF.out _ Lau) (λhHeld=>?_);refine tk 0 ?_;refine tk 1 ?_;refine tk 2 ?_;refine tk 3 ?_;refine tk 4 ?_;refine Zo1 (rs:=[5,9]) krZ sZ ?_;refine Zf1 (o:=_) rfl (λK hK=>?_) (Zf1 (o:=_) rfl (λK hK=>?_) (Zg1))
   ·have hd:=hF.out _ (Later.drew (Later.refl W1))
    have Ha:=hF.out _ ((Later.drew (Later.refl W1)).alloc (.cells #[sQ none 0 0] 162));have Hb:=hF.out _ (((Later.refl W1).alloc (.cells #[sQ none 0 0] 162)).drew);simp only [ga,gs,gz]
    go_simp
    refine hK.out _ _ (KF.out _ Lau) (λhHeld=>?_);clear hK K
    try simp only [ga,gs,gz,Act.put,sa,sz,ss]
    refine tk 6 ?_;refine tk 7 ?_;refine tk 8 ?_;refine rd 9 λK hK=>?_
    simp only [ga,gs,gz]
    go_simp
    refine hK.out _ _ (KF.out _ Lau) (λhHeld=>?_);clear hK K
    try simp only [ga,gs,gz,Act.put,sa,sz,ss]
    refine rd 10 λK hK=>?_
    simp only [ga,gs,gz]
    go_simp
    refine hK.out _ _ ?_ (λhHeld=>?_)
    ·(try dsimp only);(refine ⟨?_,?_,?_⟩<;>(repeat (refine qaA ?_ (by first|omega|(simp;done)|(simp;omega))))<;>(refine Later.cell (Lau:Later W1 _) ?_)<;>assumption)
    clear hK K
    try simp only [ga,gs,gz,Act.put,sa,sz,ss]
    refine tk 11 ?_;clear KF;refine Zn1 krZ ?_ _;refine Zd1 ?_;go_wp2_with fail
    go_meet
    exact ⟨W1.heap.size,rfl,by first|exact ((Later.refl W1).alloc _).drew|exact (Later.refl W1).drew.alloc _,.inl rfl⟩
   ·simp only [ga,gs,gz]
    go_simp
    refine hK.out _ _ (KF.out _ Lau) (λhHeld=>?_);clear hK K
    try simp only [ga,gs,gz,Act.put,sa,sz,ss]
    refine rd 5 λK hK=>?_
    have hd:=hF.out _ (Later.drew (Later.refl W1));have Ha:=hF.out _ ((Later.drew (Later.refl W1)).alloc (.cells #[sQ none 0 0] 162));have Hb:=hF.out _ (((Later.refl W1).alloc (.cells #[sQ none 0 0] 162)).drew);simp only [ga,gs,gz]
    go_simp
    refine hK.out _ _ (KF.out _ Lau) (λhHeld=>?_);clear hK K
    try simp only [ga,gs,gz,Act.put,sa,sz,ss]
    refine tk 6 ?_;refine tk 7 ?_;refine tk 8 ?_;refine rd 10 λK hK=>?_
    simp only [ga,gs,gz]
    go_simp
    refine hK.out _ _ ?_ (λhHeld=>?_)
    ·(try dsimp only);(refine ⟨?_,?_,?_⟩<;>(repeat (refine qaA ?_ (by first|omega|(simp;done)|(simp;omega))))<;>(refine Later.cell (Lau:Later W1 _) ?_)<;>assumption)
    clear hK K
    try simp only [ga,gs,gz,Act.put,sa,sz,ss]
    refine tk 11 ?_;clear KF;refine Zn1 krZ ?_ _;refine Zd1 ?_;go_wp2_with fail
    go_meet
    exact ⟨W1.heap.size,rfl,by first|exact ((Later.refl W1).alloc _).drew|exact (Later.refl W1).drew.alloc _,.inl rfl⟩
  ·clear hA
   obtain ⟨hF,H3⟩:=zd2 h0 Hg;clear h0 Hg;have KF:=zI (show ∀Xw,Later W1 Xw->Xw.cell? ⟨W.heap.size,0,none⟩=some (nQ iQ l)/\Xw.cell? ⟨W.heap.size,1,none⟩=some (nQ iQ r)/\Xw.cell? ⟨a.p,4,none⟩=some (.map (some a.bm)) from λXw h=>⟨h.cell u0,h.cell u1,h.cell p4⟩);refine Zm1 ?_;refine Zl1 (S:=λXw=>Xw.cell? ⟨W.heap.size,0,none⟩=some (nQ iQ l)/\Xw.cell? ⟨W.heap.size,1,none⟩=some (nQ iQ r)/\Xw.cell? ⟨a.p,4,none⟩=some (.map (some a.bm))) krZ (KF.out _ Lau) (λhHeld=>?_);refine tk 0 ?_;refine tk 1 ?_;refine tk 2 ?_;refine tk 3 ?_;refine tk 4 ?_;refine Zo1 (rs:=[5,9]) krZ sZ ?_;refine Zf1 (o:=_) rfl (λK hK=>?_) (Zf1 (o:=_) rfl (λK hK=>?_) (Zg1))
   ·have hd:=hF.out _ (Later.drew (Later.refl W1))
    have Ha:=hF.out _ ((Later.drew (Later.refl W1)).alloc (.cells #[sQ none 0 0] 162));have Hb:=hF.out _ (((Later.refl W1).alloc (.cells #[sQ none 0 0] 162)).drew);simp only [ga,gs,gz]
    go_simp
    refine hK.out _ _ (KF.out _ Lau) (λhHeld=>?_);clear hK K
    try simp only [ga,gs,gz,Act.put,sa,sz,ss]
    refine tk 6 ?_;refine tk 7 ?_;refine tk 8 ?_;refine rd 9 λK hK=>?_
    simp only [ga,gs,gz]
    go_simp
    refine hK.out _ _ (KF.out _ Lau) (λhHeld=>?_);clear hK K
    try simp only [ga,gs,gz,Act.put,sa,sz,ss]
    refine rd 10 λK hK=>?_
    simp only [ga,gs,gz]
    go_simp
    refine hK.out _ _ ?_ (λhHeld=>?_)
    ·(try dsimp only);(refine ⟨?_,?_,?_⟩<;>(repeat (refine qaA ?_ (by first|omega|(simp;done)|(simp;omega))))<;>(refine Later.cell (Lau:Later W1 _) ?_)<;>assumption)
    clear hK K
    try simp only [ga,gs,gz,Act.put,sa,sz,ss]
    refine tk 11 ?_;clear KF;refine Zn1 krZ ?_ _;refine Zd1 ?_;go_wp2_with fail
    go_meet
    exact ⟨W1.heap.size,rfl,by first|exact ((Later.refl W1).alloc _).drew|exact (Later.refl W1).drew.alloc _,.inr ⟨rfl,g,by first|exact (Blk.new W1 _ _).drew|exact Blk.new _ _ _,by first|exact (H3.out.alloc _).drew|exact H3.out.drew.alloc _,h9⟩⟩
   ·simp only [ga,gs,gz]
    go_simp
    refine hK.out _ _ (KF.out _ Lau) (λhHeld=>?_);clear hK K
    try simp only [ga,gs,gz,Act.put,sa,sz,ss]
    refine rd 5 λK hK=>?_
    have hd:=hF.out _ (Later.drew (Later.refl W1));have Ha:=hF.out _ ((Later.drew (Later.refl W1)).alloc (.cells #[sQ none 0 0] 162));have Hb:=hF.out _ (((Later.refl W1).alloc (.cells #[sQ none 0 0] 162)).drew);simp only [ga,gs,gz]
    go_simp
    refine hK.out _ _ (KF.out _ Lau) (λhHeld=>?_);clear hK K
    try simp only [ga,gs,gz,Act.put,sa,sz,ss]
    refine tk 6 ?_;refine tk 7 ?_;refine tk 8 ?_;refine rd 10 λK hK=>?_
    simp only [ga,gs,gz]
    go_simp
    refine hK.out _ _ ?_ (λhHeld=>?_)
    ·(try dsimp only);(refine ⟨?_,?_,?_⟩<;>(repeat (refine qaA ?_ (by first|omega|(simp;done)|(simp;omega))))<;>(refine Later.cell (Lau:Later W1 _) ?_)<;>assumption)
    clear hK K
    try simp only [ga,gs,gz,Act.put,sa,sz,ss]
    refine tk 11 ?_;clear KF;refine Zn1 krZ ?_ _;refine Zd1 ?_;go_wp2_with fail
    go_meet
    exact ⟨W1.heap.size,rfl,by first|exact ((Later.refl W1).alloc _).drew|exact (Later.refl W1).drew.alloc _,.inr ⟨rfl,g,by first|exact (Blk.new W1 _ _).drew|exact Blk.new _ _ _,by first|exact (H3.out.alloc _).drew|exact H3.out.drew.alloc _,h9⟩⟩
 case rest=>
  obtain ⟨b,rfl,hY,rfl|⟨rfl,g,hb,Hg,h9⟩⟩:=hcut
  rotate_left
  ·have HH:=hY.blk gx.out
   have r0:=HH.cell 0;have f0:=HH.frozen 0;have c0:=hb.cell 0;simp at r0 c0;have z0:=(HH.aO 0 (sQ (some ⟨g,0,none⟩) (Ch.len c l) (Ch.len c l))).cell 0;simp at z0;have gk:=(gt.out.trans hY).set (p:=⟨W.heap.size+1,0,none⟩) sZ (sQ (some ⟨g,0,none⟩) (Ch.len c l) (Ch.len c l));have gP:=Hg.far (p:=⟨W.heap.size+1,0,none⟩) (Blk.ne Hg HH dZ) (sQ (some ⟨g,0,none⟩) (Ch.len c l) (Ch.len c l));have HR:=zI (show uX a c n W0 X l r W (.returned (.agg #[sQ (some ⟨g,0,none⟩) (Ch.len c l) (Ch.len c l)])) _ from ⟨g,rfl,gP,h9,HM.out.to_later gk,KpL.of_later gk⟩);clear HH gk gP hb Hg;go_wp2_with fail;refine Zk1 (v:=.agg #[sQ (some ⟨g,0,none⟩) (Ch.len c l) (Ch.len c l)]) (by simp [results,results94,go_sem,z0]) rfl ?_;exact HR.out
  obtain ⟨ml,hml⟩:∃m,Ch.len c l=m:=⟨_,rfl⟩
  have Gz:=Ch.sF hv.out (l:=l) oZ;have go:=gt.out.trans hY;have gm:=HM.out.to_later go;obtain ⟨p0,p1,p2,p3,p4⟩:=gm.cells5;have u0:_=some (Za1 iQ l):=(hY.blk Hf.out).cell 0;have u1:_=some (Za1 iQ r):=(hY.blk Hf.out).cell 1;have HA:=hY.blk Hf.out;have Hw:=hY.blk gx.out;have gO:=zI λ(Y:Zp1) (h:Later W0 Y)=>qdn a.Aw a.Ac a.cw a.cc n c Y gF oZ (HS.out.ws.below h (lrZ _)) l oZ
  have Gx:=Ch.iE hv.out (l:=l) oZ;have g3:=hv.out.vO;have gV:=hv.out.cap0;have Gt:max 0 (c.cap-Ch.kept c l+1)=(ml:Int):=by rw [←hml];unfold Ch.len;omega
  have g2:∀w:Zp1,(Instr.makeSlice 22 (nQ iQ (ml:Int)) (nQ iQ (ml:Int))).run prog w=.ok (sQ (some ⟨w.heap.size,0,none⟩) ml ml) (w.alloc (.cells (madeCells #[nQ iQ 0] ml) 3)):=λw=>run_make_row' (P:=prog) 22 3 (nQ iQ 0) 8 underlying22 qag rfl iQ iQ ml oZ oZ w
  have w1:iQ.wrap (c.cap-Ch.kept c l)=c.cap-Ch.kept c l:=Zc1 _ oZ;have w2:iQ.wrap (c.cap-Ch.kept c l+1)=c.cap-Ch.kept c l+1:=Zc1 _ oZ;generalize Ch.kept c l=kp at *;generalize c.cap=cp at *;obtain ⟨gA,Gk,Hl,HF,hV,H8⟩:=zd6 gm hY HA Hw hml go;clear gm hY HA Hw hml go;clear hA gQ Hf gx gt;go_wp2_with fail;have KF:=zI (show ∀Xw,Later wc Xw->Xw.cell? ⟨a.p,0,none⟩=some (.slice a.Aw (n+1) a.cw)/\Xw.cell? ⟨a.p,1,none⟩=some (.slice a.Ac n a.cc)/\Xw.cell? ⟨a.p,3,none⟩=some (nQ iQ cp)/\Xw.cell? ⟨W.heap.size,0,none⟩=some (nQ iQ l) from λXw h=>⟨h.cell p0,h.cell p1,h.cell p3,h.cell u0⟩);refine Zm1 ?_;refine Zl1 (S:=λXw=>Xw.cell? ⟨a.p,0,none⟩=some (.slice a.Aw (n+1) a.cw)/\Xw.cell? ⟨a.p,1,none⟩=some (.slice a.Ac n a.cc)/\Xw.cell? ⟨a.p,3,none⟩=some (nQ iQ cp)/\Xw.cell? ⟨W.heap.size,0,none⟩=some (nQ iQ l)) krZ (KF.out _ Lau) (λhHeld=>?_);refine tk 0 ?_;refine tk 1 ?_;refine tk 2 ?_;refine tk 3 ?_;refine tk 4 ?_;refine tk 5 ?_;refine tk 6 ?_;refine tk 7 ?_;refine tk 8 ?_;refine tk 9 ?_;refine rd 10 λK hK=>?_
  simp only [ga,gs,gz]
  go_simp
  go_at_call 112;(with_reducible refine (gO.out _ (gA.out.later.trans (Lau:Later wc _))).mono ?_);rintro e wk ⟨rfl,gj⟩
  replace gj:Below _ _ wk:=gj
  try go_wp2_with fail
  refine hK.out _ _ (KF.out _ Lau) (λhHeld=>?_);clear hK K
  try simp only [ga,gs,gz,Act.put,sa,sz,ss]
  refine tk 11 ?_;refine tk 12 ?_;refine tk 13 ?_;refine rd 14 λK hK=>?_
  have Gq:=g2 wk;simp only [ga,gs,gz]
  go_simp
  refine hK.out _ _ (KF.out _ Lau) (λhHeld=>?_);clear hK K
  try simp only [ga,gs,gz,Act.put,sa,sz,ss]
  refine tk 15 ?_;clear KF;refine Zn1 krZ ?_ _;refine Zd1 ?_;have h0:Later wc wk:=Lau;have gu:=h0.size
  have gL:Blk (wk.alloc (.cells (madeCells #[nQ iQ 0] ml) 3)) wk.heap.size 3 (qae (Zc 0 Ch.inf++Zc (ml-0) 0)).toArray:=by
   have h:=Blk.new wk 3 (madeCells #[nQ iQ 0] ml);have e:madeCells #[Za1 iQ 0] ml=(Zc ml (Za1 iQ 0)).toArray:=by rw [←qao]
   rw [show (qae (Zc 0 Ch.inf++Zc (ml-0) 0)).toArray=madeCells #[Za1 iQ 0] ml from by rw [e];simp [qae]];exact h
  have hR:Later wc (wk.alloc (.cells (madeCells #[nQ iQ 0] ml) 3)):=h0.alloc _;generalize wk.heap.size=g0 at *;generalize wk.alloc (.cells (madeCells #[nQ iQ 0] ml) 3)=wy at *;obtain ⟨gS,gq⟩:=zd2 gL hR;clear gL hR;clear gO g2 gj h0 p0 p1 p2 p3 p4 u0 u1 w1 w2;go_wp2_with fail
  go_loopw [8,42] (λ_ i wr=>∃j:Nat,j<=ml/\i=nQ iQ (j:Int)/\Blk wr g0 3 (qae (Zc j Ch.inf++Zc (ml-j) 0)).toArray/\Later wc wr) (λ_ i _=>ml-(intOf i).toNat)
  case atStart=>exact ⟨0,Zt _,rfl,gS.out,gq.out⟩
  case round=>
   obtain ⟨j,hj,rfl,hG,hR⟩:=hrel;clear gS gq
   by_cases Hi:j<ml
   ·have hQ:=qdM hG j Ch.inf
    rw [Ch.fill_succ ml j Hi] at hQ;have h5:=hR.set (p:=⟨g0,j,none⟩) gu (nQ iQ Ch.inf);unfold Ch.inf at hQ h5;obtain ⟨v,y0⟩:=hG.has (j:=j) (by rw [qaI];simp;omega);have f0:=hG.frozen j;have k1:(j:Int)<(ml:Int):=by omega
    have k2:(0:Int)<=(j:Int):=by omega
    obtain ⟨gC,ge⟩:=zd2 hQ h5;clear hQ h5;clear hG hR;go_wp2_with fail;go_roundw
    case rel=>exact ⟨j+1,by omega,by go_num,gC.out,ge.out⟩
    case measure=>simp [intOf];omega
   ·obtain rfl:ml=j:=by omega
    obtain ⟨wo,rfl⟩:∃wo,wo=wr:=⟨wr,rfl⟩
    rw [Nat.sub_self,List.replicate_zero,List.append_nil] at hG;have Hs:=H8.out.trans hR;have H5:=HM.out.to_later Hs;have g1:SvM a c n W0 (g0::X) wo:=⟨H5.later,H5.box,(gA.out.memo.fresh gu).to_later hR⟩
    have hZ:=hR.blk Hl.out;have HC:=hR.blk HF.out;have gZ:=KpL.of_later (L:=[a.bm]) Hs
    have gU:∀x∈g0::X,x<wo.heap.size:=λx hx=>by
     rcases List.mem_cons.1 hx with rfl|hx
     ·exact hG.lt
     ·exact ltZ (HX.out x hx) (Below.size Hs)
    have h9:g0∉X:=λh=>by have:=HX.out _ h;have:=Below.size H8.out;omega
    have HU:W.heap.size<=g0:=Zv (Below.size H8.out) gu;obtain ⟨p0,p1,p2,p3,p4⟩:=H5.cells5;have u0:wo.cell? ⟨W.heap.size,0,none⟩=some (nQ iQ l):=hZ.cell 0;have u1:wo.cell? ⟨W.heap.size,1,none⟩=some (nQ iQ r):=hZ.cell 1;obtain ⟨HG,hW,hc,hE,gT,Gb,H9,gq,Gw⟩:=zd9 hG g1 hZ HC gZ gU h9 hR Hs;clear hG g1 hZ HC gZ gU h9 hR Hs;clear H5 H8 gA Gk Hl HF
    by_cases h1:r=l+1
    ·have x1:=Ch.iE hv.out (l:=l) oZ
     have x2:=hv.out.w0 r oZ;have gw:=zI λ(Y:Zp1) (h:Later wo Y)=>qez a.Aw a.Ac a.cw a.cc n c Y hv.out HW (HS.out.ws.below (hW.out.later.trans h) (lrZ _)) l r oZ oZ
     have Gj:Ch.single c l r=Ch.W c r+Ch.kept c l:=rfl;have gh:(r:Int)=(l:Int)+1:=by omega
     have Ga:=zI λ(Y:Zp1) (h:Later W0 Y) (hB:Blk Y a.p 166 (a.cells n c.cap))=>(show Calls prog 132 #[.pointer (some ⟨a.p,0,none⟩),.agg #[nQ iQ l,nQ iQ r]] Y (λe w'=>e=.returned (nQ iQ (Ch.own c r))/\Later Y w') by
      rw [gh,h1];exact qhL a.Aw a.Ac a.cw a.cc n a.p a.bm c Y HW HD (HS.out.cs.below h (lrZ _)) l l oZ hB)
     have gD:Ch.Rw c l r=Ch.over (λ_=>Ch.own c r) (Ch.single c l r) ml (Zc ml Ch.inf):=by
      rw [h1,Ch.rM];unfold Ch.one;rw [hV.out]
     obtain ⟨s0,gM⟩:=ezZ (show 0<=Ch.single c l r by omega);rw [gM] at gw gD;have e1:((r:Int)==(l:Int)+1)=true:=by simp;omega
     have w1:iQ.wrap ((l:Int)+1)=(l:Int)+1:=Zc1 _ oZ;generalize Ch.own c r=ow at *;obtain ⟨Gg,GB,H1⟩:=zd3 gD gh h1;clear gD gh h1;clear x1 x2 Gj gM;go_wp2_with fail;have KF:=zI (show ∀Xw,Later wo Xw->Xw.cell? ⟨a.p,0,none⟩=some (.slice a.Aw (n+1) a.cw)/\Xw.cell? ⟨a.p,1,none⟩=some (.slice a.Ac n a.cc)/\Xw.cell? ⟨W.heap.size,0,none⟩=some (nQ iQ l)/\Xw.cell? ⟨W.heap.size,1,none⟩=some (nQ iQ r) from λXw h=>⟨h.cell p0,h.cell p1,h.cell u0,h.cell u1⟩);refine Zm1 ?_;refine Zl1 (S:=λXw=>Xw.cell? ⟨a.p,0,none⟩=some (.slice a.Aw (n+1) a.cw)/\Xw.cell? ⟨a.p,1,none⟩=some (.slice a.Ac n a.cc)/\Xw.cell? ⟨W.heap.size,0,none⟩=some (nQ iQ l)/\Xw.cell? ⟨W.heap.size,1,none⟩=some (nQ iQ r)) krZ (KF.out _ Lau) (λhHeld=>?_);refine tk 0 ?_;refine tk 1 ?_;refine tk 2 ?_;refine tk 3 ?_;refine tk 4 ?_;refine rd 5 λK hK=>?_
     simp only [ga,gs,gz]
     go_simp
     go_at_call 76;(with_reducible refine (gw.out _ (Lau:Later wo _)).mono ?_);rintro e wq ⟨rfl,h8⟩
     replace h8:Below _ _ wq:=h8
     try go_wp2_with fail
     refine hK.out _ _ (KF.out _ Lau) (λhHeld=>?_);clear hK K
     try simp only [ga,gs,gz,Act.put,sa,sz,ss]
     refine tk 6 ?_;clear KF;refine Zn1 krZ ?_ _;refine Zd1 ?_;have hd:Later wo wq:=Lau;have hJ:Blk wq g0 3 (qae (Ch.over (λ_=>ow) (s0:Int) s0 (Zc ml Ch.inf))).toArray:=by rw [Ch.qE _ _ _ _ (Int.le_refl _)];exact hd.blk HG.out
     have h4:=hW.out.to_later hd;have h2:KpL [a.bm,g0] wo wq:=KpL.of_later hd;obtain ⟨Hv,HP,He,Gs⟩:=zd4 hJ h4 h2 hd;clear hJ h4 h2 hd;clear gw e1 w1 h8 p0 p1 p2 p3 p4 u0 u1;go_wp2_with fail
     go_loopw [9] (λi wr=>∃j:Nat,s0<=j/\(j<=ml∨j=s0)/\i=nQ iQ (j:Int)/\Blk wr g0 3 (qae (Ch.over (λ_=>ow) (s0:Int) j (Zc ml Ch.inf))).toArray/\SvM a c n W0 (g0::X) wr/\KpL [a.bm,g0] wo wr) (λi _=>ml-(intOf i).toNat)
     case atStart=>exact ⟨s0,lrZ _,.inr rfl,rfl,Hv.out,HP.out,He.out⟩
     case round=>
      obtain ⟨j,Gr,Gp,rfl,hC,hl,hs⟩:=hrel;clear Hv HP He
      by_cases Hi:j<ml
      ·have gn:=Ch.rE (λ_=>ow) (s0:Int) j (Zc ml Ch.inf) oZ (by simpa using Hi)
       have hQ:=qdM hC j ow;rw [←gn] at hQ;have hq:=hs.blk hc.out (by simp;exact ⟨qa7 hW.out.memo hc.out,Blk.ne hc.out HG.out dZ⟩);have u0:wr.cell? ⟨W.heap.size,0,none⟩=some (nQ iQ l):=hq.cell 0;have u1:wr.cell? ⟨W.heap.size,1,none⟩=some (nQ iQ r):=hq.cell 1;have gJ:=zI (Ga.out wr hl.later hl.box);have k1:(j:Int)<(ml:Int):=by omega
       have k2:(0:Int)<=(j:Int):=by omega
       obtain ⟨g8,Hy,Hd,HO⟩:=zd4 gn hC hl hs;clear gn hC hl hs;clear hQ hq;go_wp2_with fail;refine gJ.out.mono ?_;rintro e wq ⟨rfl,hd⟩;have hJ:=hd.blk Hy.out;have h4:=Hd.out.to_later hd;have h2:=HO.out.trans (KpL.of_later hd);have hQ:=qdM hJ j ow;rw [←g8.out] at hQ;obtain ⟨v,y0⟩:=hJ.has (j:=j) (by rw [qaI,Ch.jI];simpa using Hi);have f0:=hJ.frozen j;have gY:=h4.set (o:=j) (List.mem_cons_self ..) hJ dZ (Zv (Below.size HM.out.later) HU) (nQ iQ ow);have g6:=h2.set (p:=⟨g0,j,none⟩) sZ (nQ iQ ow);obtain ⟨gC,Gl,Gi⟩:=zd3 hQ gY g6;clear hQ gY g6;clear hJ h4 h2 hd u0 u1 gJ Hy Hd HO;go_wp2_with fail;go_roundw
       case rel=>exact ⟨j+1,by omega,.inl oZ,by go_num,gC.out,Gl.out,Gi.out⟩
       case measure=>simp [intOf];omega
      ·have Gf:Ch.over (λ_=>ow) (s0:Int) j (Zc ml Ch.inf)=Ch.Rw c l r:=by
        have h:=Ch.over_big (λ_=>ow) (s0:Int) j (Zc ml Ch.inf) soZ;rw [List.length_replicate] at h;rw [h,Gg.out]
       rw [Gf] at hC;have Gh:¬(j:Int)<(ml:Int):=by omega
       have hq:=hs.blk hc.out (by simp;exact ⟨qa7 hW.out.memo hc.out,Blk.ne hc.out HG.out dZ⟩);have Hm:=hs.blk hE.out (by simp;exact ⟨qa7 hW.out.memo hE.out,Blk.ne hE.out HG.out dZ⟩);have Hx:KpL [a.bm] W wr:=KpL.forget (L:=[a.bm]) (g0:=g0) ((gT.out.mono sZ).trans hs) HU;have ha:Later wr (wr.alloc (.cells #[sQ (some ⟨g0,0,none⟩) ml ml] 162)):=(Later.refl wr).alloc _;have ht:=Blk.new wr 162 #[sQ (some ⟨g0,0,none⟩) ml ml];have HQ:=(⟨hl.later,hl.box,hl.memo.mono (λy hy=>List.mem_cons_of_mem _ hy)⟩:SvM a c n W0 X wr).to_later ha;have HB:=ha.blk hC;have hU:=ha.blk hq;have hL:=ha.blk Hm;have Hk:=Hx.trans (KpL.of_later (L:=[a.bm]) ha);clear hq Hm Hx ha hC hl hs;obtain ⟨Ht,hO,Ho,hw,h7,gd⟩:=zd6 ht HQ HB hU hL Hk;clear ht HQ HB hU hL Hk;go_wp2_with fail;generalize wr.alloc (.cells #[sQ (some ⟨g0,0,none⟩) ml ml] 162)=wt at *;generalize wr.heap.size=tb at *;have u0:wt.cell? ⟨W.heap.size,0,none⟩=some (nQ iQ l):=hw.out.cell 0;have u1:wt.cell? ⟨W.heap.size,1,none⟩=some (nQ iQ r):=hw.out.cell 1;have t0:wt.cell? ⟨tb,0,none⟩=some (sQ (some ⟨g0,0,none⟩) ml ml):=Ht.out.cell 0;have p4:=hO.out.cells5.2.2.2.2;obtain ⟨W9,hu,ho,hT,hh,hp⟩:=(hO.out.to_later (Later.drew (Later.refl wt))).memo.store oZ (l:=l) (r:=r) (g:=g0) oZ HT Ho.out H9.out;rw [hV.out] at hu;have hD:∀ {g:Nat} {t:TypeId} {cs:Array Value},Blk wt g t cs->Blk W9 g t cs:=λhb=>(hh _ (qa7 hO.out.memo hb)).trans hb
       have Hr:SvM a c n W0 X W9:=⟨hp _ _ HS.out.hm (hO.out.later.drew),hD hO.out.box,ho⟩
       have Hz:=hD Ho.out;have hN:=hD h7.out;have hH:=hD hw.out;have Hn:=hD Ht.out;have HI:KpL [a.bm] W W9:=gd.out.trans ⟨by rw [hT];exact lrZ _,λg o hg gv=>(hh g (by simpa using gv)).trans hg⟩;obtain ⟨h6,HK,HL,he,hP,gp,gy⟩:=zd7 hu Hr Hz hN hH Hn HI;clear hu Hr Hz hN hH Hn HI;clear ho hT hh hp hD;have KF:=zI (show ∀Xw,Later wt Xw->Xw.cell? ⟨a.p,4,none⟩=some (.map (some a.bm))/\Xw.cell? ⟨W.heap.size,0,none⟩=some (nQ iQ l)/\Xw.cell? ⟨W.heap.size,1,none⟩=some (nQ iQ r)/\Xw.cell? ⟨tb,0,none⟩=some (sQ (some ⟨g0,0,none⟩) ml ml) from λXw h=>⟨h.cell p4,h.cell u0,h.cell u1,h.cell t0⟩);refine Zm1 ?_;refine Zl1 (S:=λXw=>Xw.cell? ⟨a.p,4,none⟩=some (.map (some a.bm))/\Xw.cell? ⟨W.heap.size,0,none⟩=some (nQ iQ l)/\Xw.cell? ⟨W.heap.size,1,none⟩=some (nQ iQ r)/\Xw.cell? ⟨tb,0,none⟩=some (sQ (some ⟨g0,0,none⟩) ml ml)) krZ (KF.out _ Lau) (λhHeld=>?_);refine tk 0 ?_;refine tk 1 ?_;refine tk 2 ?_;refine tk 3 ?_;refine tk 4 ?_;refine tk 5 ?_;refine rd 6 λK hK=>?_
       have HZ:=h6.out;simp only [ga,gs,gz]
       go_simp
       replace p4:=HK.out.cells5.2.2.2.2;replace u0:=hP.out.cell 0;replace u1:=hP.out.cell 1;replace t0:=gp.out.cell 0;refine hK.out _ _ (by first|exact ⟨p4,u0,u1,t0⟩|exact KF.out _ Lau) (λhHeld=>?_);clear hK K
       try simp only [ga,gs,gz,Act.put,sa,sz,ss]
       clear KF;refine Zn1 krZ ?_ _;refine Zd1 ?_;have r0:=he.out.cell 0;have f0:=he.out.frozen 0;simp at r0 t0;have Hu:=he.out.aO 0 (sQ (some ⟨g0,0,none⟩) ml ml);have z0:=Hu.cell 0;simp at z0;have HN:=HK.out.far (o:=0) he.out dZ dZ (by have:=HM.out.later.size;omega) (sQ (some ⟨g0,0,none⟩) ml ml);have Hp:=HL.out.far (p:=⟨W.heap.size+1,0,none⟩) (Blk.ne HL.out he.out dZ) (sQ (some ⟨g0,0,none⟩) ml ml);have Hq:KpL [a.bm] W (W9.setCell ⟨W.heap.size+1,0,none⟩ (sQ (some ⟨g0,0,none⟩) ml ml)):=KpL.forget (L:=[a.bm]) (g0:=W.heap.size+1) ((gy.out.mono sZ).set (p:=⟨W.heap.size+1,0,none⟩) sZ _) (Zy _);have HR:=zI (show uX a c n W0 X l r W (.returned (.agg #[sQ (some ⟨g0,0,none⟩) ml ml])) _ from ⟨g0,by rw [hV.out],Hp,H9.out,HN,Hq⟩);clear Hu HN Hp Hq;go_wp2_with fail;refine Zk1 (v:=.agg #[sQ (some ⟨g0,0,none⟩) ml ml]) (by simp [results,results94,go_sem,z0]) rfl ?_;exact HR.out
    ·have e1:((r:Int)==(l:Int)+1)=false:=by simp;omega
     have w1:iQ.wrap ((l:Int)+1)=(l:Int)+1:=Zc1 _ oZ;have gK:=zI λ(Y:Zp1) (h:Later W0 Y) (k:Nat) (hk:k<n)=>qdo a.Aw a.Ac a.cw a.cc n c Y hv.out HW (HS.out.ws.below h (lrZ _)) l k r hk oZ
     have gW:Blk wo g0 3 (qae (Ch.fold c (Ch.Rw c) l r 0).2.2).toArray:=by
      show Blk wo g0 _ (qae (Zc (Ch.len c l) Ch.inf)).toArray
      rw [hV.out];exact HG.out
     have gI:=zI gW;clear gW;clear p0 p1 p2 p3 p4;go_wp2_with fail
     go_loopw [10,11,12] (λnd co kk wr=>∃j k:Nat,k=l+j/\k+1<=r/\nd=nQ iQ (Ch.fold c (Ch.Rw c) l r j).1/\co=nQ iQ (Ch.fold c (Ch.Rw c) l r j).2.1/\kk=nQ iQ ((k:Int)+1)/\Blk wr g0 3 (qae (Ch.fold c (Ch.Rw c) l r j).2.2).toArray/\SvM a c n W0 (g0::X) wr/\KpL [a.bm,g0] wo wr) (λ_ _ kk _=>r-(intOf kk).toNat)
     case atStart=>exact ⟨0,l,rfl,by omega,rfl,rfl,rfl,gI.out,hW.out,KpL.refl _ _⟩
     case round=>
      obtain ⟨j,k,H2,Gv,rfl,rfl,rfl,hC,hl,hs⟩:=hrel;clear gI e1 w1 u0 u1;have hq:=hs.blk hc.out (by simp;exact ⟨qa7 hW.out.memo hc.out,Blk.ne hc.out HG.out dZ⟩);have u0:wr.cell? ⟨W.heap.size,0,none⟩=some (nQ iQ l):=hq.cell 0;have u1:wr.cell? ⟨W.heap.size,1,none⟩=some (nQ iQ r):=hq.cell 1
      by_cases Hi:k+1<r
      ·have gi:=Ch.qW c (Ch.Rw c) l r j
       have Hj:=Ch.jG hv.out (Ch.Rw c) (l:=l) (r:=r) oZ j oZ;have hz:=Ch.lC hv.out (Ch.Rw c) (l:=l) (r:=r) oZ j oZ;have H6:=Ch.nC c (Ch.Rw c) l r j;have gr:=Ch.pX hv.out (R:=Ch.Rw c) (l:=l) (r:=r) oZ j oZ (λi hi=>⟨Ch.fV hv.out oZ,Ch.fV hv.out oZ⟩);have g9:=Ch.oL hv.out (l:=l) (r:=r) (k:=k+1) oZ oZ;have GA:=hv.out.c0 k;rw [show l+1+j=k+1 by omega,show l+j=k by omega] at gi;rw [show l+1+j=k+1 by omega] at hz;obtain ⟨bc,offc,gG,yc⟩:=Ch.at_ HS.out.cs (k:=k) (by show k<c.n;omega);generalize hF0:Ch.fold c (Ch.Rw c) l r j=F0 at *;generalize hF1:Ch.fold c (Ch.Rw c) l r (j+1)=F1 at *;obtain ⟨nd,co,row⟩:=F0;obtain ⟨nd1,co1,row1⟩:=F1;simp only at gi Hj hz H6 gr hC ⊢;obtain ⟨q1,q2,q3⟩:=gi;have HE:=zI λ(Y:Zp1) (h:Later W0 Y)=>gK.out Y h k oZ
       generalize Ch.step c l r (k+1)=st at *;generalize c.cost.getD k 0=ck at *;subst q1 q2;have GoX:(j:Int)*1099511627776<=64*1099511627776:=by omega
       have g7:0<=co+ck/\co+ck<=140737488355328:=by omega
       have w5:iQ.wrap ((k:Int)+1+1)=(k:Int)+1+1:=Zc1 _ oZ;obtain ⟨q0,H4⟩:=ezZ (show 0<=max nd st by omega);have w2:iQ.wrap (co+ck)=co+ck:=Zc1 _ oZ;have w3:iQ.wrap (k:Int)=(k:Int):=Zc1 _ oZ;have k1:(k:Int)+1<(r:Int):=by omega
       have k2:(0:Int)<=(k:Int):=by omega
       have k3:(k:Int)<(n:Int):=by omega
       have yc2:=hl.later.cell yc;obtain ⟨p0,p1,-,-,-⟩:=hl.cells5;rw [hV.out] at q3 H6;have GC:=qa7 hl.memo hC;obtain ⟨Hy,Hd,HO,Hh,H7,g5,gH,hI,Gu⟩:=zd9 hC hl hs hF1 q3 H6 gr hz hF0;obtain ⟨Gm,HY,Ge⟩:=zd3 hq H2 gG;clear hC hl hs hF1 q3 H6 gr hz hF0 hq H2 gG;clear Hj GoX g9 gK;go_wp2_with fail;have KF:=zI (show ∀Xw,Later wr Xw->Xw.cell? ⟨a.p,0,none⟩=some (.slice a.Aw (n+1) a.cw)/\Xw.cell? ⟨a.p,1,none⟩=some (.slice a.Ac n a.cc)/\Xw.cell? ⟨W.heap.size,0,none⟩=some (nQ iQ l)/\Xw.cell? ⟨W.heap.size,1,none⟩=some (nQ iQ r) from λXw h=>⟨h.cell p0,h.cell p1,h.cell u0,h.cell u1⟩);refine Zm1 ?_;refine Zl1 (S:=λXw=>Xw.cell? ⟨a.p,0,none⟩=some (.slice a.Aw (n+1) a.cw)/\Xw.cell? ⟨a.p,1,none⟩=some (.slice a.Ac n a.cc)/\Xw.cell? ⟨W.heap.size,0,none⟩=some (nQ iQ l)/\Xw.cell? ⟨W.heap.size,1,none⟩=some (nQ iQ r)) krZ (KF.out _ Lau) (λhHeld=>?_);refine tk 0 ?_;refine tk 1 ?_;refine tk 2 ?_;refine tk 3 ?_;refine tk 4 ?_;refine tk 5 ?_;refine tk 6 ?_;refine rd 7 λK hK=>?_
       simp only [ga,gs,gz]
       go_simp
       go_at_call 77;(with_reducible refine (HE.out _ (Hd.out.later.trans (Lau:Later wr _))).mono ?_);rintro e wq ⟨rfl,h8⟩
       replace h8:Below _ _ wq:=h8
       try go_wp2_with fail
       refine hK.out _ _ (KF.out _ Lau) (λhHeld=>?_);clear hK K
       try simp only [ga,gs,gz,Act.put,sa,sz,ss]
       refine tk 8 ?_;refine tk 9 ?_;clear KF;refine Zn1 krZ ?_ _;refine Zd1 ?_;have hd:Later wr wq:=Lau;have p1':=hd.cell p1;rw [Ge.out] at p1';have yq:=hd.cell yc2;have hJ:=hd.blk Hy.out;have h4:=Hd.out.to_later hd;have h2:=HO.out.trans (KpL.of_later hd);have HZ:=hd.blk Gm.out;have u0':=hd.cell u0;have u1':=hd.cell u1;obtain ⟨Hv,HP,He,Gy⟩:=zd4 hJ h4 h2 HZ;clear hJ h4 h2 HZ;clear hHeld hd h8 p0 p1 u0 u1 yc2 Hy Hd HO HE yc
       by_cases hn:max nd st<(ml:Int)
       ·have Gn:(q0:Int)<(ml:Int):=by omega
        rw [ipZ hn,H4] at H7;rw [H4] at hI;have gb:=qfm a c n W0 HS.out f Gd.out (g0::X) l (k+1) r q0 g0 (co+ck) row wq HP.out (λx hx=>ltZ (Gb.out x hx) He.out.1) (List.mem_cons_self ..) (Zv (Below.size HM.out.later) HU) Hv.out (by rw [hV.out];exact g5.out) (by have:=HY.out;omega) Hi hr hf hI.out (by rw [hV.out];omega) g7 gH.out;rw [hV.out,Int.natCast_succ] at gb;have gN:=zI gb;clear gb;clear hn hI g5 gH;go_wp2_with fail;refine gN.out.mono ?_;rintro e ws ⟨rfl,Hc,gX,gE⟩;have HJ:=He.out.trans gE;rw [←H7.out] at Hc;obtain ⟨gl,Gc,gg⟩:=zd3 Hc gX HJ;clear Hc gX HJ;clear gE gN u0' u1' p1' yq;go_wp2_with fail;go_roundw
        case rel=>exact ⟨j+1,k+1,by have:=HY.out;omega,by omega,by rw [Hh.out];exact congrArg (Za1 iQ) H4.symm,by rw [Hh.out],by go_num,by rw [Hh.out];exact gl.out,Gc.out,gg.out⟩
        case measure=>simp [intOf];omega
       ·have Gn:¬(q0:Int)<(ml:Int):=by omega
        rw [inZ hn] at H7;have Hc:=Hv.out;rw [←H7.out] at Hc;have gl:=zI Hc;clear Hc;clear hn;go_wp2_with fail;go_roundw
        case rel=>exact ⟨j+1,k+1,by have:=HY.out;omega,by omega,by rw [Hh.out];exact congrArg (Za1 iQ) H4.symm,by rw [Hh.out],by go_num,by rw [Hh.out];exact gl.out,HP.out,He.out⟩
        case measure=>simp [intOf];omega
      ·have g4:r-l-1=j:=by omega
       rw [←g4,←Ch.mR c l r oZ] at hC;have Gh:¬(k:Int)+1<(r:Int):=by omega
       clear g4 hq u0;have HY:=zI H2;clear H2;have hq:=hs.blk hc.out (by simp;exact ⟨qa7 hW.out.memo hc.out,Blk.ne hc.out HG.out dZ⟩);have Hm:=hs.blk hE.out (by simp;exact ⟨qa7 hW.out.memo hE.out,Blk.ne hE.out HG.out dZ⟩);have Hx:KpL [a.bm] W wr:=KpL.forget (L:=[a.bm]) (g0:=g0) ((gT.out.mono sZ).trans hs) HU;have ha:Later wr (wr.alloc (.cells #[sQ (some ⟨g0,0,none⟩) ml ml] 162)):=(Later.refl wr).alloc _;have ht:=Blk.new wr 162 #[sQ (some ⟨g0,0,none⟩) ml ml];have HQ:=(⟨hl.later,hl.box,hl.memo.mono (λy hy=>List.mem_cons_of_mem _ hy)⟩:SvM a c n W0 X wr).to_later ha;have HB:=ha.blk hC;have hU:=ha.blk hq;have hL:=ha.blk Hm;have Hk:=Hx.trans (KpL.of_later (L:=[a.bm]) ha);clear hq Hm Hx ha hC hl hs;obtain ⟨Ht,hO,Ho,hw,h7,gd⟩:=zd6 ht HQ HB hU hL Hk;clear ht HQ HB hU hL Hk;go_wp2_with fail;generalize wr.alloc (.cells #[sQ (some ⟨g0,0,none⟩) ml ml] 162)=wt at *;generalize wr.heap.size=tb at *;have u0:wt.cell? ⟨W.heap.size,0,none⟩=some (nQ iQ l):=hw.out.cell 0;have u1:wt.cell? ⟨W.heap.size,1,none⟩=some (nQ iQ r):=hw.out.cell 1;have t0:wt.cell? ⟨tb,0,none⟩=some (sQ (some ⟨g0,0,none⟩) ml ml):=Ht.out.cell 0;have p4:=hO.out.cells5.2.2.2.2;obtain ⟨W9,hu,ho,hT,hh,hp⟩:=(hO.out.to_later (Later.drew (Later.refl wt))).memo.store oZ (l:=l) (r:=r) (g:=g0) oZ HT Ho.out H9.out;rw [hV.out] at hu;have hD:∀ {g:Nat} {t:TypeId} {cs:Array Value},Blk wt g t cs->Blk W9 g t cs:=λhb=>(hh _ (qa7 hO.out.memo hb)).trans hb
       have Hr:SvM a c n W0 X W9:=⟨hp _ _ HS.out.hm (hO.out.later.drew),hD hO.out.box,ho⟩
       have Hz:=hD Ho.out;have hN:=hD h7.out;have hH:=hD hw.out;have Hn:=hD Ht.out;have HI:KpL [a.bm] W W9:=gd.out.trans ⟨by rw [hT];exact lrZ _,λg o hg gv=>(hh g (by simpa using gv)).trans hg⟩;obtain ⟨h6,HK,HL,he,hP,gp,gy⟩:=zd7 hu Hr Hz hN hH Hn HI;clear hu Hr Hz hN hH Hn HI;clear ho hT hh hp hD;have KF:=zI (show ∀Xw,Later wt Xw->Xw.cell? ⟨a.p,4,none⟩=some (.map (some a.bm))/\Xw.cell? ⟨W.heap.size,0,none⟩=some (nQ iQ l)/\Xw.cell? ⟨W.heap.size,1,none⟩=some (nQ iQ r)/\Xw.cell? ⟨tb,0,none⟩=some (sQ (some ⟨g0,0,none⟩) ml ml) from λXw h=>⟨h.cell p4,h.cell u0,h.cell u1,h.cell t0⟩);refine Zm1 ?_;refine Zl1 (S:=λXw=>Xw.cell? ⟨a.p,4,none⟩=some (.map (some a.bm))/\Xw.cell? ⟨W.heap.size,0,none⟩=some (nQ iQ l)/\Xw.cell? ⟨W.heap.size,1,none⟩=some (nQ iQ r)/\Xw.cell? ⟨tb,0,none⟩=some (sQ (some ⟨g0,0,none⟩) ml ml)) krZ (KF.out _ Lau) (λhHeld=>?_);refine tk 0 ?_;refine tk 1 ?_;refine tk 2 ?_;refine tk 3 ?_;refine tk 4 ?_;refine tk 5 ?_;refine rd 6 λK hK=>?_
       have HZ:=h6.out;simp only [ga,gs,gz]
       go_simp
       replace p4:=HK.out.cells5.2.2.2.2;replace u0:=hP.out.cell 0;replace u1:=hP.out.cell 1;replace t0:=gp.out.cell 0;refine hK.out _ _ (by first|exact ⟨p4,u0,u1,t0⟩|exact KF.out _ Lau) (λhHeld=>?_);clear hK K
       try simp only [ga,gs,gz,Act.put,sa,sz,ss]
       clear KF;refine Zn1 krZ ?_ _;refine Zd1 ?_;have r0:=he.out.cell 0;have f0:=he.out.frozen 0;simp at r0 t0;have Hu:=he.out.aO 0 (sQ (some ⟨g0,0,none⟩) ml ml);have z0:=Hu.cell 0;simp at z0;have HN:=HK.out.far (o:=0) he.out dZ dZ (by have:=HM.out.later.size;omega) (sQ (some ⟨g0,0,none⟩) ml ml);have Hp:=HL.out.far (p:=⟨W.heap.size+1,0,none⟩) (Blk.ne HL.out he.out dZ) (sQ (some ⟨g0,0,none⟩) ml ml);have Hq:KpL [a.bm] W (W9.setCell ⟨W.heap.size+1,0,none⟩ (sQ (some ⟨g0,0,none⟩) ml ml)):=KpL.forget (L:=[a.bm]) (g0:=W.heap.size+1) ((gy.out.mono sZ).set (p:=⟨W.heap.size+1,0,none⟩) sZ _) (Zy _);have HR:=zI (show uX a c n W0 X l r W (.returned (.agg #[sQ (some ⟨g0,0,none⟩) ml ml])) _ from ⟨g0,by rw [hV.out],Hp,H9.out,HN,Hq⟩);clear Hu HN Hp Hq;go_wp2_with fail;refine Zk1 (v:=.agg #[sQ (some ⟨g0,0,none⟩) ml ml]) (by simp [results,results94,go_sem,z0]) rfl ?_;exact HR.out
theorem Ch.scan_step (c:Ch.C) (l r m:Nat) (z:Int) (f j:Nat):Ch.scan c l r m z (f+1) j=if (m:Int)<(Ch.fold c (Ch.Rw c) l r (j+1)).1 then r-1 else
   if Ch.cand (Ch.fold c (Ch.Rw c) l r (j+1)).2.1 (Ch.W c (l+1+j)) (Ch.Rw c (l+1+j) r) (Ch.Rw c l (l+1+j)) m=z then l+1+j else Ch.scan c l r m z f (j+1):=rfl
set_option maxRecDepth 100000 in
theorem qgB (a:SvA) (c:Ch.C) (n:Nat) (W0:Zp1) (hS:a.Still c n W0) (X:List Nat) (l r m:Nat) (W:Zp1) (hM:SvM a c n W0 X W) (hX:∀x∈X,x<W.heap.size) (hlr:l+1<r) (hr:r<=n) (hm:m<Ch.len c l):
  Calls prog 172 #[.pointer (some ⟨a.p,0,none⟩),.agg #[nQ iQ l,nQ iQ r],nQ iQ m] W λe w'=>e=.returned (nQ iQ (Ch.best c l r m:Nat))/\SvM a c n W0 X w'/\KpL [a.bm] W w':=by
 have hu:=hS.ok;have Hc:=hS.cn;have H0:=hu.wl;have h4:=hu.n64;rw [Hc] at H0 h4;have hU:Later W (W.alloc (.cells #[nQ iQ l,nQ iQ r] 145)):=(Later.refl W).alloc _;have HE:=Blk.new W 145 #[nQ iQ l,nQ iQ r];have h0:=hM.to_later hU;have hV:=qbd a c n W0 hS n;have Hu:=hV l r X (W.alloc (.cells #[nQ iQ l,nQ iQ r] 145)) oZ hr oZ h0 (λx hx=>ltZ (hX x hx) (Below.size hU));have gw:=Ch.sF hu (l:=l) oZ;have Hp:Ch.best c l r m=Ch.scan c l r m ((Ch.Rw c l r).getD m 0) (r-l-1) 0:=rfl;have hO:=Ch.lM c l r oZ;have HH:=Ch.fV hu (l:=l) (r:=r) oZ;have gy:=Ch.dO HH m;have gp:(m:Int)<(Ch.len c l:Int):=by omega
 have gq:(0:Int)<=(m:Int):=by omega
 have go:=qbL;obtain ⟨hZ,HA,HX,HS,hb,gf,HV,Ho,HM⟩:=zd9 HE h0 hX hS hu hU hV Hu hM;clear HE h0 hX hS hu hU hV Hu hM;go_in;go_wp2_with fail;generalize W.alloc (.cells #[nQ iQ l,nQ iQ r] 145)=W1 at *;refine Ho.out.mono ?_;rintro e W2 ⟨g,rfl,hB,gt,HP,Ha⟩;have y0:=qce hB (i:=m) oZ;have Hm:=(KpL.of_later (L:=[a.bm]) gf.out).trans Ha;have hg:=Ha.blk hZ.out (by simp;exact qa7 HA.out.memo hZ.out);have u0:W2.cell? ⟨W.heap.size,0,none⟩=some (nQ iQ l):=hg.cell 0;have u1:W2.cell? ⟨W.heap.size,1,none⟩=some (nQ iQ r):=hg.cell 1;generalize hz:(Ch.Rw c l r).getD m 0=z at *;generalize hml:Ch.len c l=ml at *;have w1:iQ.wrap ((l:Int)+1)=(l:Int)+1:=Zc1 _ oZ;have w2:iQ.wrap ((r:Int)-1)=(r:Int)-1:=Zc1 _ oZ;obtain ⟨HB,HN,Hk,hQ,Hz,gk,h7⟩:=zd7 hB HP Hm hg hz Hp hml;clear hB HP Hm hg hz Hp hml;clear HH hO Ho Ha HA hZ;go_wp2_with fail;clear y0 u0;have Hd:=zI λ(Y:Zp1) (h:Later W0 Y) (k:Nat) (hk:k<n)=>qdo a.Aw a.Ac a.cw a.cc n c Y hb.out Hc (HS.out.ws.below h (lrZ _)) l k r hk oZ
 go_loopw [8,9,10,11,12] (λnd co kk _ _ wr=>∃j k:Nat,k=l+j/\k+1<=r/\nd=nQ iQ (Ch.fold c (Ch.Rw c) l r j).1/\co=nQ iQ (Ch.fold c (Ch.Rw c) l r j).2.1/\kk=nQ iQ ((k:Int)+1)/\Ch.scan c l r m z (r-l-1-j) j=Ch.best c l r m/\SvM a c n W0 X wr/\KpL [a.bm] W wr/\Blk wr W.heap.size 145 #[nQ iQ l,nQ iQ r]) (λ_ _ kk _ _ _=>r-(intOf kk).toNat)
 case atStart=>exact ⟨0,l,rfl,by omega,rfl,rfl,rfl,gk.out.symm,HN.out,Hk.out,hQ.out⟩
 case round=>
  obtain ⟨j,k,Hx,gu,rfl,rfl,rfl,hj,hy,hJ,hg⟩:=hrel;clear HN Hk hQ u1 w1;have u0:wr.cell? ⟨W.heap.size,0,none⟩=some (nQ iQ l):=hg.cell 0;have u1:wr.cell? ⟨W.heap.size,1,none⟩=some (nQ iQ r):=hg.cell 1
  by_cases Ht:k+1<r
  ·have h2:=Ch.qW c (Ch.Rw c) l r j
   have hA:=Ch.jG hb.out (Ch.Rw c) (l:=l) (r:=r) oZ j oZ;have hc:=Ch.lC hb.out (Ch.Rw c) (l:=l) (r:=r) oZ j oZ;have H8:=Ch.oL hb.out (l:=l) (r:=r) (k:=k+1) oZ oZ;have gx:=hb.out.c0 k;rw [show r-l-1-j=(r-l-1-(j+1))+1 by omega,Ch.scan_step] at hj;rw [show l+1+j=k+1 by omega] at hj hc;rw [show l+1+j=k+1 by omega,show l+j=k by omega] at h2;obtain ⟨bc,offc,Hb,yc⟩:=Ch.at_ HS.out.cs (k:=k) (by show k<c.n;omega);obtain ⟨bw,offw,Hj,yw⟩:=Ch.at_ HS.out.ws (k:=k+1) oZ;have H5:=hb.out.w0 (k+1) oZ;have Hn:c.words.getD (k+1) 0=Ch.W c (k+1):=rfl;rw [Hn] at yw;have hD:(Ch.len c (k+1):Int)=max 0 (c.cap-Ch.W c (k+1)+1):=by unfold Ch.len Ch.kept;rw [inZ oZ];omega
   have HJ:=hb.out.cap0;have HU:=hb.out.vO
   have hG:ml<=(c.cap+1).toNat:=by
    have:=Ch.iE hb.out (l:=l) oZ;rw [←h7.out];unfold Ch.len;omega
   have h6:=Ch.dO (Ch.fV hb.out (l:=k+1) (r:=r) oZ) (m-(Ch.W c (k+1)).toNat);have H1:=Ch.dO (Ch.fV hb.out (l:=l) (r:=k+1) oZ) m;have hO:=Ch.lM c (k+1) r Ht;have HK:=Ch.lM c l (k+1) oZ;generalize hF0:Ch.fold c (Ch.Rw c) l r j=F0 at *;generalize hF1:Ch.fold c (Ch.Rw c) l r (j+1)=F1 at *;obtain ⟨nd,co,row⟩:=F0;obtain ⟨nd1,co1,row1⟩:=F1;simp only at h2 hA hc hj ⊢;obtain ⟨q1,q2,-⟩:=h2;have hF:=zI λ(Y:Zp1) (h:Later W0 Y)=>Hd.out Y h k oZ
   generalize Ch.step c l r (k+1)=st at *;generalize c.cost.getD k 0=ck at *;subst q1 q2;have gl:(j:Int)*1099511627776<=64*1099511627776:=by omega
   have gn:0<=co+ck/\co+ck<=140737488355328:=by omega
   have w5:iQ.wrap ((k:Int)+1+1)=(k:Int)+1+1:=Zc1 _ oZ;have w3:iQ.wrap (co+ck)=co+ck:=Zc1 _ oZ;have w4:iQ.wrap (k:Int)=(k:Int):=Zc1 _ oZ;have k1:(k:Int)+1<(r:Int):=by omega
   have k2:(0:Int)<=(k:Int):=by omega
   have k3:(k:Int)<(n:Int):=by omega
   have k4:(0:Int)<=(k:Int)+1:=by omega
   have k5:((k:Int)+1).toNat=k+1:=by omega
   have yc2:=hy.later.cell yc;obtain ⟨p0,p1,-,-,-⟩:=hy.cells5;have HF:=zI λ(Y:Zp1) (h:SvM a c n W0 X Y) (hx:∀x∈X,x<Y.heap.size)=>HV.out (k+1) r X Y Ht hr oZ h hx
   have HO:=zI λ(Y:Zp1) (h:SvM a c n W0 X Y) (hx:∀x∈X,x<Y.heap.size)=>HV.out l (k+1) X Y oZ oZ oZ h hx
   rw [Int.natCast_succ] at HF HO;obtain ⟨hC,hR,Hy,gr,hQ,H3,H9,gc,hI⟩:=zd9 hy hJ hF1 hF0 hg Hx Hb Hj hj;obtain ⟨ge,gd⟩:=zd2 hO HK;clear hy hJ hF1 hF0 hg Hx Hb Hj hj hO HK;clear hA gl H8 Hd;go_wp2_with fail;have KF:=zI (show ∀Xw,Later wr Xw->Xw.cell? ⟨a.p,0,none⟩=some (.slice a.Aw (n+1) a.cw)/\Xw.cell? ⟨a.p,1,none⟩=some (.slice a.Ac n a.cc)/\Xw.cell? ⟨W.heap.size,0,none⟩=some (nQ iQ l)/\Xw.cell? ⟨W.heap.size,1,none⟩=some (nQ iQ r) from λXw h=>⟨h.cell p0,h.cell p1,h.cell u0,h.cell u1⟩);refine Zm1 ?_;refine Zl1 (S:=λXw=>Xw.cell? ⟨a.p,0,none⟩=some (.slice a.Aw (n+1) a.cw)/\Xw.cell? ⟨a.p,1,none⟩=some (.slice a.Ac n a.cc)/\Xw.cell? ⟨W.heap.size,0,none⟩=some (nQ iQ l)/\Xw.cell? ⟨W.heap.size,1,none⟩=some (nQ iQ r)) krZ (KF.out _ Lau) (λhHeld=>?_);refine tk 0 ?_;refine tk 1 ?_;refine tk 2 ?_;refine tk 3 ?_;refine tk 4 ?_;refine tk 5 ?_;refine tk 6 ?_;refine rd 7 λK hK=>?_
   simp only [ga,gs,gz]
   go_simp
   go_at_call 77;(with_reducible refine (hF.out _ (hC.out.later.trans (Lau:Later wr _))).mono ?_);rintro e wq ⟨rfl,h3⟩
   replace h3:Below _ _ wq:=h3
   try go_wp2_with fail
   refine hK.out _ _ (KF.out _ Lau) (λhHeld=>?_);clear hK K
   try simp only [ga,gs,gz,Act.put,sa,sz,ss]
   refine tk 8 ?_;refine tk 9 ?_;clear KF;refine Zn1 krZ ?_ _;refine Zd1 ?_;have hl:Later wr wq:=Lau;have p1':=hl.cell p1;rw [H9.out] at p1';have yq:=hl.cell yc2;have HQ:=hC.out.to_later hl;have Hr:=hR.out.trans (KpL.of_later hl);have Hg:=hl.blk hQ.out;have ua:=hl.cell u0;have ub:=hl.cell u1;obtain ⟨hw,hL,hi⟩:=zd3 HQ Hr Hg;clear HQ Hr Hg;clear hHeld hl h3 p0 p1 u0 u1 yc2 hC hR hF yc
   by_cases hn:(m:Int)<max nd st
   ·have h9:=hI.out
    rw [ipZ hn] at h9;have hf:((Ch.best c l r m:Nat):Int)=(r:Int)-1:=by omega
    obtain ⟨gm,hp⟩:=zd2 h9 hf;clear h9 hf;clear hI;go_wp2_with fail;go_ret;exact ⟨by rw [hp.out];rfl,hw.out,hL.out⟩
   ·have hs:=hI.out
    rw [inZ hn] at hs;have hE:=zI hs;clear hs;clear hI;have Hf:∀x∈X,x<wq.drew.heap.size:=λx hx=>ltZ (HX.out x hx) hL.out.1
    obtain ⟨v,hv⟩:=ezZ (show 0<=Ch.W c (k+1) by omega);obtain ⟨q,hq⟩:∃q:Nat,m=q+v:=⟨m-v,by omega⟩
    have HI:q<Ch.len c (k+1):=by omega
    rw [hv] at yw
    have h5:0<=(Ch.Rw c (k+1) r).getD q 0/\(Ch.Rw c (k+1) r).getD q 0<=Ch.inf:=by
     rw [show m-(Ch.W c (k+1)).toNat=q by omega] at h6;exact h6
    have Hi:Ch.cand (co+ck) (Ch.W c (k+1)) (Ch.Rw c (k+1) r) (Ch.Rw c l (k+1)) m=co+ck+(Ch.Rw c (k+1) r).getD q 0+(Ch.Rw c l (k+1)).getD m 0:=by
     unfold Ch.cand;rw [show ((m:Int)-Ch.W c (k+1)).toNat=q by omega]
    have ho:=hE.out;rw [Hi] at ho;have e1:iQ.wrap ((m:Int)-(v:Int))=(q:Int):=by rw [Zc1 _ oZ];omega
    have k6:(q:Int)<(Ch.len c (k+1):Int):=by omega
    have k7:(0:Int)<=(q:Int):=by omega
    unfold Ch.inf at h5 H1;obtain ⟨hY,hH,Hq,Hv,H6⟩:=zd5 Hf ho hq hv HI;clear Hf ho hq hv HI;clear hE Hi h6 hc H5 Hn hG hD;go_wp2_with fail;clear yq p1';have KF:=zI (show ∀Xw,Later wq Xw->Xw.cell? ⟨W.heap.size,0,none⟩=some (nQ iQ l)/\Xw.cell? ⟨W.heap.size,1,none⟩=some (nQ iQ r) from λXw h=>⟨h.cell ua,h.cell ub⟩);refine Zm1 ?_;refine Zl1 (S:=λXw=>Xw.cell? ⟨W.heap.size,0,none⟩=some (nQ iQ l)/\Xw.cell? ⟨W.heap.size,1,none⟩=some (nQ iQ r)) krZ (KF.out _ Lau) (λhHeld=>?_);refine tk 0 ?_;refine tk 1 ?_;refine tk 2 ?_;refine tk 3 ?_;refine tk 4 ?_;refine tk 7 ?_;refine tk 8 ?_;refine tk 9 ?_;refine tk 10 ?_;refine tk 11 ?_;refine rd 5 λK hK=>?_
    simp only [ga,gs,gz]
    go_simp
    go_at_call 94;(with_reducible refine (HF.out _ (hw.out.to_later (Lau:Later wq _)) hY.out).mono ?_);rintro e wa ⟨g1,rfl,hf,H2,HC,hh⟩
    have ha:W.heap.size∉[a.bm]:=by simp only [List.mem_singleton];exact qa7 hw.out.memo hi.out
    replace ua:=(hh.blk hi.out ha).cell 0;replace ub:=(hh.blk hi.out ha).cell 1;have H7:=zI (λx (hx:x∈X)=>ltZ (hY.out x hx) hh.1);obtain ⟨hp,h8,hW⟩:=zd3 hf HC hh;clear hf HC hh ha
    try go_wp2_with fail
    refine hK.out _ _ (by first|exact ⟨ua,ub⟩|exact KF.out _ Lau) (λhHeld=>?_);clear hK K
    try simp only [ga,gs,gz,Act.put,sa,sz,ss]
    refine tk 6 ?_;refine rd 12 λK hK=>?_
    simp only [ga,gs,gz]
    go_simp
    go_at_call 94;(with_reducible refine (HO.out _ h8.out H7.out).mono ?_);rintro e wb ⟨g2,rfl,HR,gg,HT,hT⟩
    have ha:W.heap.size∉[a.bm]:=by simp only [List.mem_singleton];exact qa7 hw.out.memo hi.out
    replace ua:=(hT.blk (hW.out.blk hi.out ha) ha).cell 0;replace ub:=(hT.blk (hW.out.blk hi.out ha) ha).cell 1;obtain ⟨HG,hP,hN⟩:=zd3 HR HT hT;clear HR HT hT ha
    try go_wp2_with fail
    refine hK.out _ _ (by first|exact ⟨ua,ub⟩|exact KF.out _ Lau) (λhHeld=>?_);clear hK K
    try simp only [ga,gs,gz,Act.put,sa,sz,ss]
    refine tk 13 ?_;refine tk 14 ?_;refine tk 15 ?_;clear KF;refine Zn1 krZ ?_ _;refine Zd1 ?_;have hh:KpL [a.bm] wq wa:=hW.out;have hf:=hN.out.blk hp.out (by simp;exact qa7 h8.out.memo hp.out);have HL:=hL.out.trans (hh.trans hN.out);have Hs:=(hh.trans hN.out).blk hi.out (by simp;exact qa7 hw.out.memo hi.out);have y1:=qce hf (i:=q) (by rw [ge.out];exact H6.out);have y2:=qce HG.out (i:=m) (by rw [gd.out,h7.out];omega);have y3:=hP.out.later.cell yw;have y4:=hP.out.cells5.1;rw [gc.out] at y4;have HW:=hP.out;generalize (Ch.Rw c (k+1) r).getD q 0=rv at *;generalize (Ch.Rw c l (k+1)).getD m 0=lv at *;rw [h7.out];have e2:iQ.wrap (co+ck+rv)=co+ck+rv:=Zc1 _ oZ;have e3:iQ.wrap (co+ck+rv+lv)=co+ck+rv+lv:=Zc1 _ oZ;have hd:=hH.out;have k8:(k:Int)<(n:Int):=k3;obtain ⟨H4,gj,gb⟩:=zd3 HL Hs HW;clear HL Hs HW;clear hh hW hN h8 hP hp HG hf H2 gg ua ub hHeld hH hw hL hi hY yw;have HZ:∀N,SvM a c n W0 X (wb.drewN N):=λN=>gb.out.to_later (Later.drewN (Later.refl _) N)
    have HY:∀N,KpL [a.bm] W (wb.drewN N):=λN=>H4.out.trans (KpL.of_later (Later.drewN (Later.refl _) N))
    have HD:∀N,Blk (wb.drewN N) W.heap.size 145 #[nQ iQ l,nQ iQ r]:=λN=>gj.out
    obtain ⟨Hl,Hh,gi⟩:=zd3 HZ HY HD;clear HZ HY HD
    by_cases he:co+ck+rv+lv=z
    ·rw [ipZ he] at hd
     have ht:(co+ck+rv+lv==z)=true:=by simp [he]
     have Hw:((Ch.best c l r m:Nat):Int)=(k:Int)+1:=by omega
     obtain ⟨gh,He⟩:=zd2 Hw he;clear Hw he;clear hd;go_wp2_with fail
     go_quiet (fail)
     go_wp2_with fail;go_ret;exact ⟨by rw [gh.out];rfl,Hl.out _,Hh.out _⟩
    ·rw [inZ he] at hd
     have ht:(co+ck+rv+lv==z)=false:=by simp [he]
     obtain ⟨h1,He⟩:=zd2 hd he;clear hd he;go_wp2_with fail
     go_quiet (fail)
     go_wp2_with fail;go_roundw
     case rel=>exact ⟨j+1,k+1,by have:=H3.out;omega,by omega,by rw [Hy.out],by rw [Hy.out],by go_num,h1.out,Hl.out _,Hh.out _,gi.out _⟩
     case measure=>simp [intOf];omega
  ·have hf:((Ch.best c l r m:Nat):Int)=(r:Int)-1:=by
    rw [show r-l-1-j=0 by omega] at hj;have h:r-1=Ch.best c l r m:=hj;omega
   have gv:¬(k:Int)+1<(r:Int):=by omega
   obtain ⟨hp,hC,hR⟩:=zd3 hf hy hJ;clear hf hy hJ;clear hj hg;go_wp2_with fail;go_ret;exact ⟨by rw [hp.out];rfl,hC.out,hR.out⟩
structure CkA where
 Wd:Option Addr
 Co:Option Addr
 In:Option Addr
 Or:Option Addr
 cW:Nat
 cC:Nat
 cI:Nat
 cO:Nat
 p:Nat
 g1:Nat
 g2:Nat
 g3:Nat
structure CkN.Ok (c:CkN):Prop where
 m1:1<=c.words.length
 m2:c.words.length<=513
 cost:c.cost.length=c.words.length
 ins:c.ins.length=c.words.length
 row:∀r∈c.ins,r.length<=1048576/\∀i∈r,0<=i/\i<c.words.length
 ord:c.order.length<=512
 aH:0<=c.aH/\c.aH<c.words.length
 word:∀z∈c.words,0<=z/\z<=65536
 cap : -9223372036854775808<=c.cap/\c.cap<=9223372036854775807
structure CkA.Still (a:CkA) (c:CkN) (W0:Zp1):Prop where
 ok:c.Ok
 words:Ints iQ W0 a.Wd c.words
 cost:Ints iQ W0 a.Co c.cost
 ins:bQ W0 a.In c.ins
 ord:Ints iQ W0 a.Or c.order
 hp:W0.heap.size<=a.p
 h1:a.p<a.g1
 h2:a.g1<a.g2
 h3:a.g2<a.g3
 hcw:c.words.length<=a.cW
def CkA.cells (a:CkA) (c:CkN) (s:CkS):Array Value:=
 #[.slice a.Wd c.words.length a.cW,.slice a.Co c.cost.length a.cC,.slice a.In c.ins.length a.cI,.slice a.Or c.order.length a.cO,nQ iQ c.aH,nQ iQ c.cap,sQ (some ⟨a.g1,0,none⟩) c.words.length c.words.length,sQ (some ⟨a.g2,0,none⟩) c.words.length c.words.length,sQ (some ⟨a.g3,0,none⟩) c.words.length c.words.length,.bool s.em,.bool s.sd,nQ iQ s.done,nQ iQ s.now,nQ iQ s.aB]
structure CkM (a:CkA) (c:CkN) (W0:Zp1) (s:CkS) (W:Zp1):Prop where
 later:Later W0 W
 box:Blk W a.p 114 (a.cells c s)
 aG:Blk W a.g1 4 (s.aG.map Value.bool).toArray
 sav:Blk W a.g2 4 (s.sav.map Value.bool).toArray
 aN:Blk W a.g3 4 (s.aN.map Value.bool).toArray
 l1:s.aG.length=c.words.length
 l2:s.sav.length=c.words.length
 l3:s.aN.length=c.words.length
theorem CkM.to_later {a:CkA} {c:CkN} {W0 W W':Zp1} {s:CkS} (h:CkM a c W0 s W) (hl:Later W W'):CkM a c W0 s W':=
 ⟨h.later.trans hl,hl.blk h.box,hl.blk h.aG,hl.blk h.sav,hl.blk h.aN,h.l1,h.l2,h.l3⟩
theorem qav {W:Zp1} {g:Nat} {t:TypeId} {l:List Bool} (h:Blk W g t (l.map Value.bool).toArray) {i:Nat} (hi:i<l.length):W.cell? ⟨g,i,none⟩=some (.bool (l.getD i false)):=by
 rw [h.cell,gdZ,geZ hi];simp [hi]
theorem CkM.bE {a:CkA} {c:CkN} {W0 W:Zp1} {s:CkS} (h:CkM a c W0 s W):
  W.cell? ⟨a.p,0,none⟩=some (.slice a.Wd c.words.length a.cW)/\W.cell? ⟨a.p,1,none⟩=some (.slice a.Co c.cost.length a.cC)/\W.cell? ⟨a.p,2,none⟩=some (.slice a.In c.ins.length a.cI)/\W.cell? ⟨a.p,3,none⟩=some (.slice a.Or c.order.length a.cO)/\W.cell? ⟨a.p,4,none⟩=some (nQ iQ c.aH)/\W.cell? ⟨a.p,5,none⟩=some (nQ iQ c.cap)/\
  W.cell? ⟨a.p,6,none⟩=some (sQ (some ⟨a.g1,0,none⟩) c.words.length c.words.length)/\W.cell? ⟨a.p,7,none⟩=some (sQ (some ⟨a.g2,0,none⟩) c.words.length c.words.length)/\W.cell? ⟨a.p,8,none⟩=some (sQ (some ⟨a.g3,0,none⟩) c.words.length c.words.length)/\
  W.cell? ⟨a.p,9,none⟩=some (.bool s.em)/\W.cell? ⟨a.p,10,none⟩=some (.bool s.sd)/\W.cell? ⟨a.p,11,none⟩=some (nQ iQ s.done)/\W.cell? ⟨a.p,12,none⟩=some (nQ iQ s.now)/\W.cell? ⟨a.p,13,none⟩=some (nQ iQ s.aB):=
 ⟨h.box.cell 0,h.box.cell 1,h.box.cell 2,h.box.cell 3,h.box.cell 4,h.box.cell 5,h.box.cell 6,h.box.cell 7,h.box.cell 8,h.box.cell 9,h.box.cell 10,h.box.cell 11,h.box.cell 12,h.box.cell 13⟩
theorem CkA.Still.row {a:CkA} {c:CkN} {W0:Zp1} (h:a.Still c W0) {k:Nat} (hk:k<c.ins.length):∃b off S e,a.In=some ⟨b,off,none⟩/\b<W0.heap.size/\W0.cell? ⟨b,off+k,none⟩=some (sQ S c.ins[k].length e)/\Ints iQ W0 S c.ins[k]/\c.ins[k].length<=1048576/\∀i∈c.ins[k],0<=i/\i<c.words.length:=by
 obtain ⟨b,off,S,e,h1,h2,h3,h4,-⟩:=h.ins k hk;exact ⟨b,off,S,e,h1,h2,h3,h4,h.ok.row _ (gmZ hk)⟩
theorem Ck.kT {c:CkN} {k:Nat} (hk:k<c.ins.length):Ck.iF c k=c.ins[k]:=by
 unfold Ck.iF;rw [tnZ,gdZ,geZ hk];rfl
set_option maxRecDepth 100000 in
theorem qfn (a:CkA) (c:CkN) (W0:Zp1) (s:CkS) (W:Zp1) (hS:a.Still c W0) (hM:CkM a c W0 s W) (id:Nat) (hid:id<c.words.length):
  Calls prog 130 #[.pointer (some ⟨a.p,0,none⟩),nQ iQ id] W λe w'=>e=.returned (.bool (Ck.ready c s id))/\W=w':=by
 have he:id<c.ins.length:=by rw [hS.ok.ins];exact hid
 have HR:=zI (show Ck.ready c s id=c.ins[id].all (λi=>Ck.at_ s.aG i) by unfold Ck.ready;rw [Ck.kT he]);obtain ⟨b,off,S,e,hn,hb,hc,hI,hl,hi⟩:=hS.row he;have ht:=hM.later.cell hc;have hj:=hI.below hM.later (lrZ _);obtain ⟨-,-,x2,-,-,-,x6,-⟩:=hM.bE;have hB:=λi (h:i<c.words.length)=>qav hM.aG (by rw [hM.l1];exact h)
 have hq:=hS.ok.m2;have hh:=hS.ok.ins;rw [hn,hh] at x2;generalize c.ins[id]=r at *;have q1:(0:Int)<=(id:Int):=by omega
 have q2:(id:Int)<c.words.length:=by omega
 have hp:=zI hj;obtain ⟨ho,HB⟩:=zd2 hi hB;clear hj hi hB;clear hS hM hc hI hn he hh;go_in;go_wp2_with fail;clear ht x2
 go_loop [6,15] (λ_ i=>∃k:Nat,k<=r.length/\i=nQ iQ (k:Int)/\(r.take k).all (λi=>Ck.at_ s.aG i)=true) (λ_ i=>r.length-(intOf i).toNat)
 case atStart=>exact ⟨0,Zt _,rfl,by simp⟩
 case round=>
  obtain ⟨k,hk,rfl,ha⟩:=hrel
  by_cases hf:k<r.length
  ·obtain ⟨b2,off2,rfl,-,hs⟩:=hp.out k hf
   rw [gdZ,geZ hf,Option.getD_some] at hs;have hz:=ho.out _ (gmZ hf);have HT:=zI (Zb hf);have HM:=zI (gmZ hf);have hd:=zI ha;clear ha;generalize r[k]=z at *;obtain ⟨zn,rfl⟩:=ezZ hz.1;have hr:zn<c.words.length:=by omega
   have hm:=HB.out zn hr;have hg:=zI (show Ck.at_ s.aG zn=s.aG.getD zn false by unfold Ck.at_;rw [tnZ]);have q3:(0:Int)<=(zn:Int):=by omega
   have q4:(zn:Int)<c.words.length:=by omega
   cases hv:s.aG.getD zn false
   ·rw [hv] at hm
    have HF:=zI (show r.all (λi=>Ck.at_ s.aG i)=false by
     cases h:r.all (λi=>Ck.at_ s.aG i) with
     | false=>rfl
     | true=>have:=List.all_eq_true.1 h _ HM.out;rw [hg.out,hv] at this;exact absurd this sZ)
    clear hv;go_wp2_with fail;go_ret;exact ⟨by rw [HR.out,HF.out];rfl,rfl⟩
   ·rw [hv] at hm
    have HA:=zI (show (r.take (k+1)).all (λi=>Ck.at_ s.aG i)=true by rw [HT.out,List.all_append,hd.out];simp [hg.out];exact hv);clear hv;go_wp2_with fail
    go_round
    case rel=>exact ⟨k+1,by omega,by go_num,HA.out⟩
    case measure=>simp [intOf];omega
  ·obtain rfl:k=r.length:=by omega
   rw [Zg] at ha;have hd:=zI ha;clear ha;go_wp2_with fail;go_ret;exact ⟨by rw [HR.out,hd.out];rfl,rfl⟩
theorem Ck.freshGo_skip {g:List Bool} {acc r:List Int} {i:Int} (h:¬(i≠0/\Ck.at_ g i=false/\acc.contains i=false)):Ck.bD g acc (i::r)=Ck.bD g acc r:=by
 rw [Ck.bD,inZ h]
theorem Ck.freshGo_add {g:List Bool} {acc r:List Int} {i:Int} (h:i≠0/\Ck.at_ g i=false/\acc.contains i=false):Ck.bD g acc (i::r)=Ck.bD g (acc++[i]) r:=by
 rw [Ck.bD,ipZ h]
theorem Ck.kI (g:List Bool):∀(r acc:List Int),(Ck.bD g acc r).length<=acc.length+r.length
 | [],acc=>by simp [Ck.bD]
 | i::r,acc=>by
  rw [Ck.bD]
  split
  ·have:=Ck.kI g r (acc++[i]);simp at this ⊢;omega
  ·have:=Ck.kI g r acc;simp at this ⊢;omega
theorem Ck.kR (g:List Bool):∀(r acc:List Int) (z:Int),z∈Ck.bD g acc r->z∈acc∨z∈r
 | [],acc,z,h=>.inl h
 | i::r,acc,z,h=>by
  rw [Ck.bD] at h
  split at h
  ·rcases Ck.kR g r _ z h with h|h
   ·rcases List.mem_append.1 h with h|h
    ·exact .inl h
    ·simp at h;exact .inr (by simp [h])
   ·exact .inr (by simp [h])
  ·rcases Ck.kR g r _ z h with h|h
   ·exact .inl h
   ·exact .inr (by simp [h])
theorem Ck.jA (c:CkN) (h:∀z∈c.words,0<=z/\z<=65536):∀l:List Int,0<=Ck.iC c l/\Ck.iC c l<=l.length*65536
 | []=>by simp [Ck.iC]
 | z::l=>by
  obtain ⟨h1,h2⟩:=Ck.jA c h l
  have hz:0<=Ck.wd c z/\Ck.wd c z<=65536:=by
   unfold Ck.wd
   by_cases hl:z.toNat<c.words.length
   ·rw [gdZ,geZ hl];exact h _ (gmZ hl)
   ·rw [gdZ,Zi oZ];simp
  unfold Ck.iC at *;simp only [List.map_cons,List.sum_cons,List.length_cons];omega
theorem Ck.sumW_take (c:CkN) (l:List Int) (k:Nat) (h:k<l.length):Ck.iC c (l.take (k+1))=Ck.iC c (l.take k)+Ck.wd c l[k]:=by
 unfold Ck.iC;rw [Zb h,List.map_append,List.sum_append];simp
def FreshP (c:CkN) (s:CkS) (id:Nat) (W:Zp1) (e:Ending) (w':Zp1):Prop:=
 ∃v,e=.returned v/\w'.ownsRow W.heap.size 3 1 v (Ck.fresh c s id).length ((Ck.fresh c s id).map (Za1 iQ))/\Later W w'
set_option maxRecDepth 100000 in
theorem qcM (a:CkA) (c:CkN) (W0:Zp1) (s:CkS) (W:Zp1) (hS:a.Still c W0) (hM:CkM a c W0 s W) (id:Nat) (hid:id<c.words.length):
  Calls prog 91 #[.pointer (some ⟨a.p,0,none⟩),nQ iQ id] W (FreshP c s id W):=by
 obtain ⟨i0,hi,ht,hT,hG⟩:=info_parts qag;have ho:id<c.ins.length:=by rw [hS.ok.ins];exact hid
 have HR:=zI (show Ck.fresh c s id=Ck.bD s.aN [] c.ins[id] by unfold Ck.fresh;rw [Ck.kT ho]);obtain ⟨b,off,S,e,hE,hb,hc,hI,hl,hC⟩:=hS.row ho;have hU:=hM.later.cell hc;obtain ⟨-,-,x2,-,-,-,-,-,x8,-⟩:=hM.bE;have hB:=λi (h:i<c.words.length)=>qav hM.aN (by rw [hM.l3];exact h)
 have hK:=hS.ok.m2;have hy:=hS.ok.ins;rw [hE,hy] at x2;generalize c.ins[id]=r at *;have q1:(0:Int)<=(id:Int):=by omega
 have q2:(id:Int)<c.words.length:=by omega
 have hD:=hM.later;have hF:=x8;obtain ⟨HI,hH,HB,hO,hQ⟩:=zd5 hI hC hB hD hF;clear hI hC hB hD hF;clear hS hM hc hE ho hy x8;go_in;go_wp2_with fail;clear hU x2 q1 q2
 go_loopw [5,7,16] (λv _ i wr=>∃(k:Nat) (zs:List Int),k<=r.length/\i=nQ iQ (k:Int)/\Ck.bD s.aN [] r=Ck.bD s.aN zs (r.drop k)/\zs.length<=k/\wr.ownsRow W.heap.size 3 1 v zs.length (zs.map (Za1 iQ))/\Later W wr) (λ_ _ i _=>r.length-(intOf i).toNat)
 case atStart=>exact ⟨0,[],Zt _,rfl,by simp,lrZ _,World.ownsRow_nil _ _ _ _,Later.refl _⟩
 case round=>
  obtain ⟨k,zs,hk,rfl,hn,hX,hown,hh⟩:=hrel;have hf:=hO.out.trans hh;have hV:=Below.size hh
  by_cases hw:k<r.length
  ·obtain ⟨b2,off2,rfl,-,hN⟩:=HI.out.below hf (lrZ _) k hw
   rw [gdZ,geZ hw,Option.getD_some] at hN;have hz:=hH.out _ (gmZ hw);rw [Zd hw] at hn;generalize r[k]=z at *;obtain ⟨zn,rfl⟩:=ezZ hz.1;have hR:zn<c.words.length:=by omega
   have hr:=hh.cell (HB.out zn hR);have x8:=hh.cell hQ.out;have hp:=zI (show Ck.at_ s.aN zn=s.aN.getD zn false by unfold Ck.at_;rw [tnZ]);have q3:(0:Int)<=(zn:Int):=by omega
   have q4:(zn:Int)<c.words.length:=by omega
   have ha:=λh=>zI (hn.trans (Ck.freshGo_skip h))
   have he:=λh=>zI (hn.trans (Ck.freshGo_add h))
   obtain ⟨hd,hq,hP⟩:=zd3 hown hh hf;clear hown hh hf;clear hn
   by_cases h0:zn=0
   ·subst h0
    have HS:=ha sZ;clear ha he hr x8 hp;go_wp2_with fail;go_roundw
    case rel=>exact ⟨k+1,zs,by omega,by go_num,HS.out,by omega,hd.out,hq.out⟩
    case measure=>simp [intOf];omega
   ·have hW:((zn:Int) != 0)=true:=by rw [bne_iff_ne];omega
    cases hv:s.aN.getD zn false
    rotate_left
    ·have HS:=ha (by rw [hp.out,hv];simp)
     rw [hv] at hr;clear ha he hp hv h0;go_wp2_with fail;go_roundw
     case rel=>exact ⟨k+1,zs,by omega,by go_num,HS.out,by omega,hd.out,hq.out⟩
     case measure=>simp [intOf];omega
    ·rw [hv] at hr
     obtain ⟨A,cp,rfl⟩:=qa6 hd.out
     have hs:Calls prog 131 #[sQ A zs.length cp,nQ iQ zn] wr λe w'=>e=.returned (.bool (zs.contains (zn:Int)))/\w'=wr:=by
      by_cases ht:zs.length=0
      ·rw [ht,List.eq_nil_of_length_eq_zero ht]
       exact Tryz.slices_Contains_int_empty A cp zn wr
      ·obtain ⟨hA,-⟩:=qak hd.out
       obtain ⟨b3,o3,rfl,-,-⟩:=hA 0 oZ
       have:=Tryz.slices_Contains_int b3 o3 zs.length cp zs zn wr (lrZ _) oZ (λj hj=>by
        obtain ⟨b4,o4,e4,-,h4⟩:=hA j hj;cases e4;exact h4)
       rwa [Zg] at this
     have hg:=zI hs;clear hs;cases hct:zs.contains (zn:Int)
     rotate_left
     ·have HS:=ha (by rw [hct];simp)
      clear ha he hp hv h0;go_wp2_with fail;refine hg.out.mono ?_;rintro e w5 ⟨rfl,rfl⟩;rw [hct];clear hct hg hr x8;go_wp2_with fail;go_roundw
      case rel=>exact ⟨k+1,zs,by omega,by go_num,HS.out,by omega,hd.out,hq.out⟩
      case measure=>simp [intOf];omega
     ·have HS:=he ⟨by omega,by rw [hp.out,hv],hct⟩
      clear ha he hp hv h0;go_wp2_with fail;refine hg.out.mono ?_;rintro e w5 ⟨rfl,rfl⟩;rw [hct];clear hct hg hr x8;go_wp2_with (at_builtin;refine wpList_append_own _ rfl _ _ 22 rfl W.heap.size 3 i0 (nQ iQ 0) 1 8 underlying22 hi ht hT hG rfl dZ _ _ _ rfl (hd.out.alloc _) ⟨w5.heap.size,0,none⟩ 1 1 [nQ iQ zn] rfl rfl (qap _ _ _) (by intro u hu;simp at hu;subst hu;rfl) (by unfold maxLen;omega) oZ soZ ?_);intro v' w6 hm hgrow hx;have hL:=zI (show w6.ownsRow W.heap.size 3 1 v' (zs++[(zn:Int)]).length ((zs++[(zn:Int)]).map (Za1 iQ)) by simpa using hm);have hJ:=zI (show Later W w6 from Below.grown (hq.out.alloc (.cells #[nQ iQ zn] 3)) hgrow soZ (λb hb=>(hd.out.lt b hb).1));clear hm hgrow hx;go_wp2_with fail;go_roundw
      case rel=>exact ⟨k+1,zs++[(zn:Int)],by omega,by go_num,HS.out,by simp;omega,hL.out,hJ.out⟩
      case measure=>simp [intOf];omega
  ·obtain rfl:k=r.length:=by omega
   rw [List.drop_length] at hn;have HF:=zI (show Ck.fresh c s id=zs by rw [HR.out,hn];rfl);obtain ⟨hd,hq⟩:=zd2 hown hh;clear hown hh;clear hn hf;go_wp2_with fail;go_ret;exact ⟨_,rfl,by rw [HF.out];exact hd.out,hq.out⟩
theorem Ck.right_id {k:Int} {id:Nat} (h:Cd.right (k,(id:Int))=true):k=1∨k=2∨k=3∨k=4∨k=5∨k=6:=by
 have:=(Cd.kF h);simp at this;omega
theorem Ck.wd_at {c:CkN} {k:Nat} (hk:k<c.words.length):Ck.wd c k=c.words[k]:=by
 unfold Ck.wd;rw [tnZ,gdZ,geZ hk];rfl
theorem CkA.Still.word {a:CkA} {c:CkN} {W0:Zp1} (h:a.Still c W0) {k:Nat} (hk:k<c.words.length):∃b off,a.Wd=some ⟨b,off,none⟩/\W0.cell? ⟨b,off+k,none⟩=some (nQ iQ (Ck.wd c k))/\0<=Ck.wd c k/\Ck.wd c k<=65536:=by
 obtain ⟨b,off,e,-,hc⟩:=h.words k hk;rw [gdZ,geZ hk,Option.getD_some] at hc;rw [Ck.wd_at hk];exact ⟨b,off,e,hc,h.ok.word _ (gmZ hk)⟩
theorem Ck.insF_in {a:CkA} {c:CkN} {W0:Zp1} (h:a.Still c W0) {id:Nat} (hid:id<c.words.length):(Ck.iF c id).length<=1048576/\∀i∈Ck.iF c id,0<=i/\i<c.words.length:=by
 have ha:id<c.ins.length:=by rw [h.ok.ins];exact hid
 rw [Ck.kT ha];exact h.ok.row _ (gmZ ha)
theorem Ck.pJ {a:CkA} {c:CkN} {W0:Zp1} (h:a.Still c W0) (s:CkS) {id:Nat} (hid:id<c.words.length):(Ck.fresh c s id).length<=1048576/\∀i∈Ck.fresh c s id,0<=i/\i<c.words.length:=by
 obtain ⟨h1,h2⟩:=Ck.insF_in h hid;refine ⟨?_,λi hi=>?_⟩
 ·have:=Ck.kI s.aN (Ck.iF c id) []
  unfold Ck.fresh;simp at this;omega
 ·rcases Ck.kR s.aN _ _ i hi with h|h
  ·simp at h
  ·exact h2 i h
set_option maxRecDepth 100000 in
theorem qgC (a:CkA) (c:CkN) (W0:Zp1) (s:CkS) (W:Zp1) (hS:a.Still c W0) (hM:CkM a c W0 s W) (k:Int) (id:Nat) (hr:Cd.right (k,(id:Int))=true) (hid:id<c.words.length):
  Calls prog 90 #[.pointer (some ⟨a.p,0,none⟩),.agg #[nQ iQ k,nQ iQ id]] W λe w'=>e=.returned (nQ iQ (Ck.more c s k id))/\Later W w':=by
 have hx:Later W (W.alloc (.cells #[nQ iQ k,nQ iQ id] 106)):=(Later.refl W).alloc _;have hf:=hM.to_later hx;obtain ⟨bw,ow,hp,hB,hP,hw1⟩:=hS.word hid;obtain ⟨l,hn⟩:=ezZ hS.ok.aH.1;have hH:l<c.words.length:=by have:=hS.ok.aH.2;omega
 obtain ⟨bw',ow',hh,hE,hU,hN⟩:=hS.word hH;rw [hp] at hh;cases hh;have ho:=hf.later;have x1:=ho.cell hB;have x2:=ho.cell hE;obtain ⟨y0,-,-,-,y4,-⟩:=hf.bE;rw [hp] at y0;rw [hn] at y4;have hv:=Blk.new W 106 #[nQ iQ k,nQ iQ id];have z0:(W.alloc (.cells #[nQ iQ k,nQ iQ id] 106)).cell? ⟨W.heap.size,0,none⟩=some (nQ iQ k):=hv.cell 0;have z1:(W.alloc (.cells #[nQ iQ k,nQ iQ id] 106)).cell? ⟨W.heap.size,1,none⟩=some (nQ iQ id):=hv.cell 1;have q1:(0:Int)<=(id:Int):=by omega
 have q2:(id:Int)<c.words.length:=by omega
 have q3:(0:Int)<=(l:Int):=by omega
 have q4:(l:Int)<c.words.length:=by omega
 have HF:=zI (qcM a c W0 s _ hS hf id hid);have hj:=Ck.pJ hS s hid;have he:=Ck.jA c hS.ok.word;have hb:=λi (h:i<c.words.length)=>hS.word h
 have hG:=hS.ok.m2;have hm:=Ck.right_id hr;have E1:=zI (show Ck.more c s 1 id=Ck.wd c id from rfl);have E2:=zI (show Ck.more c s 2 id=Ck.wd c id from rfl);have E3:=zI (show Ck.more c s 3 id=0 from rfl);have E4:=zI (show Ck.more c s 4 id=0 from rfl);have E5:=zI (show Ck.more c s 5 id=Ck.wd c l by rw [←hn];rfl);have E6:=zI (show Ck.more c s 6 id=Ck.iC c (Ck.fresh c s id) from rfl);obtain ⟨hd,hi,hc,ha,hC,hA,hy,hQ⟩:=zd8 hj he hb hx ho hp hf hn;clear hj he hb hx ho hp hf hn;clear hr hS hM hv hB hE;rcases hm with rfl|rfl|rfl|rfl|rfl|rfl
 case inr.inr.inr.inr.inr=>
  clear z0 x1 x2 y4;go_in;go_wp2_with fail;generalize W.alloc (.cells #[nQ iQ 6,nQ iQ id] 106)=W1 at *;refine HF.out.mono ?_;rintro e W2 ⟨v,rfl,hown,hs⟩;obtain ⟨A,cp,rfl⟩:=qa6 hown;obtain ⟨hI,-⟩:=qak hown;have hw:=hy.out.to_later hs;have hl:=hw.later;obtain ⟨t0,-⟩:=hw.bE;rw [hA.out] at t0;have hg:=ha.out.trans hs;obtain ⟨HI,ht,hu⟩:=zd3 hI hg hl;clear hI hg hl;clear hown hs hw HF ha hC hy y0 z1;generalize hfr:Ck.fresh c s id=fr at *;go_wp2_with fail
  go_loop [5,7,40] (λt _ i=>∃k:Nat,k<=fr.length/\i=nQ iQ (k:Int)/\t=nQ iQ (Ck.iC c (fr.take k))) (λ_ _ i=>fr.length-(intOf i).toNat)
  case atStart=>exact ⟨0,Zt _,rfl,by simp [Ck.iC]⟩
  case round=>
   obtain ⟨k,hk,rfl,rfl⟩:=hrel
   by_cases hq:k<fr.length
   ·obtain ⟨b3,o3,rfl,-,hK⟩:=HI.out k hq
    rw [gdZ,geZ hq,Option.getD_some] at hK;have hz:=hd.out.2 _ (gmZ hq);have HT:=zI (Ck.sumW_take c fr k hq);have hD:=hi.out (fr.take k);rw [Zo] at hD;have hO:=hd.out.1;generalize fr[k]=z at *;obtain ⟨zn,rfl⟩:=ezZ hz.1;have hL:zn<c.words.length:=by omega
    obtain ⟨b4,o4,e4,hF,w0,w1⟩:=hc.out zn hL;rw [hA.out] at e4;cases e4;have hT:=hu.out.cell hF;have p1:(0:Int)<=(zn:Int):=by omega
    have p2:(zn:Int)<c.words.length:=by omega
    have hJ:(min k fr.length)*65536<=1048576*65536:=mlZ _ oZ;have hR:0<=Ck.iC c (fr.take k)/\Ck.iC c (fr.take k)<=68719476736:=by omega
    clear hD hJ hF;generalize Ck.iC c (fr.take k)=sm at *;generalize Ck.wd c zn=wv at *;go_wp2_with fail
    go_round
    case rel=>exact ⟨k+1,by omega,by go_num,by rw [HT.out]⟩
    case measure=>simp [intOf];omega
   ·obtain rfl:k=fr.length:=by omega
    rw [Zg];go_wp2_with fail;go_ret;exact ⟨by rw [E6.out];rfl,ht.out⟩
 all_goals
  clear HF hd hi hc hC
 case inl=>
  go_in;go_wp2_with fail;generalize W.alloc (.cells #[nQ iQ 1,nQ iQ id] 106)=W1 at *
  go_quiet (fail)
  go_wp2_with fail;go_ret;exact ⟨by rw [E1.out];rfl,by first|exact ha.out|exact ha.out.drew|exact ha.out.drewN _⟩
 case inr.inl=>
  go_in;go_wp2_with fail;generalize W.alloc (.cells #[nQ iQ 2,nQ iQ id] 106)=W1 at *
  go_quiet (fail)
  go_wp2_with fail;go_ret;exact ⟨by rw [E2.out];rfl,by first|exact ha.out|exact ha.out.drew|exact ha.out.drewN _⟩
 case inr.inr.inl=>
  go_in;go_wp2_with fail;go_ret;exact ⟨by rw [E3.out];rfl,ha.out⟩
 case inr.inr.inr.inl=>
  go_in;go_wp2_with fail;go_ret;exact ⟨by rw [E4.out];rfl,ha.out⟩
 case inr.inr.inr.inr.inl=>
  go_in;go_wp2_with fail;generalize W.alloc (.cells #[nQ iQ 5,nQ iQ id] 106)=W1 at *
  go_quiet (fail)
  go_wp2_with fail;go_ret;exact ⟨by rw [E5.out];rfl,by first|exact ha.out|exact ha.out.drew|exact ha.out.drewN _⟩
theorem Ck.kE (l:List Bool) (k:Nat):Ck.at_ l k=l.getD k false:=by unfold Ck.at_;rw [tnZ]
set_option maxRecDepth 100000 in
theorem qfo (a:CkA) (c:CkN) (W0:Zp1) (s:CkS) (W:Zp1) (hS:a.Still c W0) (hM:CkM a c W0 s W) (k:Int) (id:Nat) (hr:Cd.right (k,(id:Int))=true) (hid:id<c.words.length) (hdn:s.done<=1048576):
  Calls prog 89 #[.pointer (some ⟨a.p,0,none⟩),.agg #[nQ iQ k,nQ iQ id]] W λe w'=>e=.returned (.bool (Ck.bI c s k id))/\Later W w':=by
 have hk:Later W (W.alloc (.cells #[nQ iQ k,nQ iQ id] 106)):=(Later.refl W).alloc _;have hc:=hM.to_later hk;obtain ⟨l,hh⟩:=ezZ hS.ok.aH.1;have hq:l<c.words.length:=by have:=hS.ok.aH.2;omega
 have hm:=hc.later;obtain ⟨-,-,-,y3,y4,-,y6,y7,y8,y9,y10,y11,-⟩:=hc.bE;rw [hh] at y4;have b1:=qav hc.aG (i:=id) (by rw [hc.l1];exact hid);have b2:=qav hc.sav (i:=id) (by rw [hc.l2];exact hid);have b3:=qav hc.aN (i:=id) (by rw [hc.l3];exact hid);have b4:=qav hc.aG (i:=l) (by rw [hc.l1];exact hq);have q1:(0:Int)<=(id:Int):=by omega
 have q2:(id:Int)<c.words.length:=by omega
 have q3:(0:Int)<=(l:Int):=by omega
 have q4:(l:Int)<c.words.length:=by omega
 have HF:=zI (λW' (h:CkM a c W0 s W')=>qfn a c W0 s W' hS h id hid);have ht:=hS.ok.m2;have hs:=hS.ok.ord;have hl:=hS.ord;have hg:=Ck.right_id hr;have E1:=zI (show Ck.bI c s 1 id=(!s.sav.getD id false&&Ck.ready c s id) by rw [←Ck.kE];rfl);have E2:=zI (show Ck.bI c s 2 id=(s.sav.getD id false&&(!s.aG.getD id false&&Ck.ready c s id)) by rw [←Ck.kE,←Ck.kE];rfl);have E3:=zI (show Ck.bI c s 3 id=s.aG.getD id false by rw [←Ck.kE];rfl);have E4:=zI (show Ck.bI c s 4 id=(s.aG.getD l false&&!s.em) by rw [←Ck.kE,←hh];rfl);have E5:=zI (show Ck.bI c s 5 id = !s.sd from rfl);have E6:=zI (show Ck.bI c s 6 id=(s.aN.getD id false&&(Ck.ready c s id&&Ck.back c s id)) by rw [←Ck.kE];rfl);obtain ⟨ha,hp,hf,hw,hn⟩:=zd5 hk hm hc hh hl;clear hk hm hc hh hl;clear hr hS hM;generalize s.aG.getD id false=v1 at *;generalize s.sav.getD id false=v2 at *;generalize s.aN.getD id false=v3 at *;generalize s.aG.getD l false=v4 at *;generalize Ck.ready c s id=rd at *;rcases hg with rfl|rfl|rfl|rfl|rfl|rfl
 case inl=>
  clear b1 b3 b4 y3 y4 y6 y8 y9 y10 y11;cases v2
  ·go_in
   go_wp2_with fail;refine (HF.out _ hf.out).mono ?_;rintro e W2 ⟨rfl,rfl⟩;clear b2 y7;go_wp2_with fail;go_ret;exact ⟨by rw [E1.out];rfl,ha.out⟩
  ·go_in
   go_wp2_with fail;go_ret;exact ⟨by rw [E1.out];rfl,ha.out⟩
 case inr.inl=>
  clear b3 b4 y3 y4 y8 y9 y10 y11;cases v2
  ·go_in
   go_wp2_with fail;go_ret;exact ⟨by rw [E2.out];rfl,ha.out⟩
  ·cases v1
   ·go_in
    go_wp2_with fail;refine (HF.out _ hf.out).mono ?_;rintro e W2 ⟨rfl,rfl⟩;clear b1 b2 y6 y7;go_wp2_with fail;go_ret;exact ⟨by rw [E2.out];rfl,ha.out⟩
   ·go_in
    go_wp2_with fail;go_ret;exact ⟨by rw [E2.out];rfl,ha.out⟩
 case inr.inr.inl=>
  clear b2 b3 b4 y3 y4 y7 y8 y9 y10 y11;go_in;go_wp2_with fail;go_ret;exact ⟨by rw [E3.out];rfl,ha.out⟩
 case inr.inr.inr.inl=>
  clear b1 b2 b3 y3 y7 y8 y10 y11;generalize s.em=em at *;cases v4
  all_goals
   go_in;go_wp2_with fail;generalize W.alloc (.cells #[nQ iQ 4,nQ iQ id] 106)=W1 at *
   go_quiet (fail)
   go_wp2_with fail;go_ret;exact ⟨by rw [E4.out];rfl,by first|exact ha.out|exact ha.out.drew|exact ha.out.drewN _⟩
 case inr.inr.inr.inr.inl=>
  clear b1 b2 b3 b4 y3 y4 y6 y7 y8 y9 y11;go_in;go_wp2_with fail;go_ret;exact ⟨by rw [E5.out];rfl,ha.out⟩
 case inr.inr.inr.inr.inr=>
  have hb:Ck.back c s id=decide (s.done<c.order.length/\c.order.getD (c.order.length-1-s.done) 0=(id:Int)):=rfl;clear b1 b2 b4 y4 y6 y7 y9 y10;cases v3
  ·go_in
   go_wp2_with fail;generalize W.alloc (.cells #[nQ iQ 6,nQ iQ id] 106)=W1 at *;have he:=zI (λn=>HF.out _ (hf.out.to_later (Later.drewN (Later.refl W1) n)))
   go_quiet ((go_at_call 130;exact qab (he.out _)))
   go_wp2_with fail;go_ret;exact ⟨by rw [E6.out];rfl,by first|exact ha.out|exact ha.out.drew|exact ha.out.drewN _⟩
  ·cases rd
   ·go_in
    go_wp2_with fail;generalize W.alloc (.cells #[nQ iQ 6,nQ iQ id] 106)=W1 at *;have he:=zI (λn=>HF.out _ (hf.out.to_later (Later.drewN (Later.refl W1) n)))
    go_quiet ((go_at_call 130;exact qab (he.out _)))
    go_wp2_with fail;go_ret;exact ⟨by rw [E6.out];rfl,by first|exact ha.out|exact ha.out.drew|exact ha.out.drewN _⟩
   ·by_cases hd:s.done<c.order.length
    rotate_left
    ·have hi:Ck.back c s id=false:=by rw [hb];simp;intro h;exact absurd h hd
     have d1:decide ((s.done:Int)<c.order.length)=false:=by simp;omega
     clear hb;go_in;go_wp2_with fail;generalize W.alloc (.cells #[nQ iQ 6,nQ iQ id] 106)=W1 at *;have he:=zI (λn=>HF.out _ (hf.out.to_later (Later.drewN (Later.refl W1) n)))
     go_quiet ((go_at_call 130;exact qab (he.out _)))
     go_wp2_with fail;go_ret;exact ⟨by rw [E6.out,hi];rfl,by first|exact ha.out|exact ha.out.drew|exact ha.out.drewN _⟩
    ·obtain ⟨j,hj⟩:∃j:Nat,c.order.length-1-s.done=j:=⟨_,rfl⟩
     have hu:j<c.order.length:=by omega
     obtain ⟨bo,oo,hv,-,ho⟩:=hn.out j hu;have o1:=hp.out.cell ho;rw [hv] at y3
     have hi:Ck.back c s id=(c.order.getD j 0==(id:Int)):=by
      rw [hb,hj,Bool.eq_iff_iff];simp [hd]
     have d1:decide ((s.done:Int)<c.order.length)=true:=by simp;omega
     have w1:(c.order.length:Int)-1-s.done=j:=by omega
     have w2:iQ.wrap ((c.order.length:Int)-1)=(c.order.length:Int)-1:=Zc1 _ oZ;have w3:iQ.wrap ((c.order.length:Int)-1-s.done)=j:=by rw [w1];exact Zc1 _ oZ
     have w4:(0:Int)<=(j:Int):=by omega
     have w5:(j:Int)<c.order.length:=by omega
     generalize c.order.getD j 0=oz at *;clear hb hj ho;go_in;go_wp2_with fail;generalize W.alloc (.cells #[nQ iQ 6,nQ iQ id] 106)=W1 at *;have he:=zI (λn=>HF.out _ (hf.out.to_later (Later.drewN (Later.refl W1) n)))
     go_quiet ((go_at_call 130;exact qab (he.out _)))
     go_wp2_with fail;go_ret;exact ⟨by rw [E6.out,hi];rfl,by first|exact ha.out|exact ha.out.drew|exact ha.out.drewN _⟩
section
variable {a:CkA} {c:CkN} {W0 W:Zp1} {s:CkS}
theorem CkM.set_now (h:CkM a c W0 s W) (hS:a.Still c W0) (n:Int):CkM a c W0 { s with now:=n } (W.setCell ⟨a.p,12,none⟩ (nQ iQ n)):=by
 have:=hS.hp;have:=hS.h1;have:=hS.h2;have:=hS.h3;exact ⟨h.later.set (p:=⟨a.p,12,none⟩) hS.hp _,h.box.aO 12 _,h.aG.far (p:=⟨a.p,12,none⟩) soZ _,h.sav.far (p:=⟨a.p,12,none⟩) soZ _,h.aN.far (p:=⟨a.p,12,none⟩) soZ _,h.l1,h.l2,h.l3⟩
theorem CkM.set_peak (h:CkM a c W0 s W) (hS:a.Still c W0) (n:Int):CkM a c W0 { s with aB:=n } (W.setCell ⟨a.p,13,none⟩ (nQ iQ n)):=by
 have:=hS.hp;have:=hS.h1;have:=hS.h2;have:=hS.h3;exact ⟨h.later.set (p:=⟨a.p,13,none⟩) hS.hp _,h.box.aO 13 _,h.aG.far (p:=⟨a.p,13,none⟩) soZ _,h.sav.far (p:=⟨a.p,13,none⟩) soZ _,h.aN.far (p:=⟨a.p,13,none⟩) soZ _,h.l1,h.l2,h.l3⟩
theorem CkM.set_em (h:CkM a c W0 s W) (hS:a.Still c W0) (b:Bool):CkM a c W0 { s with em:=b } (W.setCell ⟨a.p,9,none⟩ (.bool b)):=by
 have:=hS.hp;have:=hS.h1;have:=hS.h2;have:=hS.h3;exact ⟨h.later.set (p:=⟨a.p,9,none⟩) hS.hp _,h.box.aO 9 _,h.aG.far (p:=⟨a.p,9,none⟩) soZ _,h.sav.far (p:=⟨a.p,9,none⟩) soZ _,h.aN.far (p:=⟨a.p,9,none⟩) soZ _,h.l1,h.l2,h.l3⟩
theorem CkM.set_sd (h:CkM a c W0 s W) (hS:a.Still c W0) (b:Bool):CkM a c W0 { s with sd:=b } (W.setCell ⟨a.p,10,none⟩ (.bool b)):=by
 have:=hS.hp;have:=hS.h1;have:=hS.h2;have:=hS.h3;exact ⟨h.later.set (p:=⟨a.p,10,none⟩) hS.hp _,h.box.aO 10 _,h.aG.far (p:=⟨a.p,10,none⟩) soZ _,h.sav.far (p:=⟨a.p,10,none⟩) soZ _,h.aN.far (p:=⟨a.p,10,none⟩) soZ _,h.l1,h.l2,h.l3⟩
theorem CkM.set_done (h:CkM a c W0 s W) (hS:a.Still c W0) (n:Nat):CkM a c W0 { s with done:=n } (W.setCell ⟨a.p,11,none⟩ (nQ iQ n)):=by
 have:=hS.hp;have:=hS.h1;have:=hS.h2;have:=hS.h3;exact ⟨h.later.set (p:=⟨a.p,11,none⟩) hS.hp _,h.box.aO 11 _,h.aG.far (p:=⟨a.p,11,none⟩) soZ _,h.sav.far (p:=⟨a.p,11,none⟩) soZ _,h.aN.far (p:=⟨a.p,11,none⟩) soZ _,h.l1,h.l2,h.l3⟩
theorem qaM (l:List Bool) (i:Nat) (b:Bool):((l.map Value.bool).toArray.setIfInBounds i (.bool b))=((l.set i b).map Value.bool).toArray:=by
 rw [List.map_set,List.setIfInBounds_toArray]
theorem CkM.nG (h:CkM a c W0 s W) (hS:a.Still c W0) (i:Nat) (b:Bool):CkM a c W0 { s with aG:=s.aG.set i b } (W.setCell ⟨a.g1,i,none⟩ (.bool b)):=by
 have:=hS.hp;have:=hS.h1;have:=hS.h2;have:=hS.h3;have hk:=h.aG.aO i (.bool b);rw [qaM] at hk;exact ⟨h.later.set (p:=⟨a.g1,i,none⟩) soZ _,h.box.far (p:=⟨a.g1,i,none⟩) soZ _,hk,h.sav.far (p:=⟨a.g1,i,none⟩) soZ _,h.aN.far (p:=⟨a.g1,i,none⟩) soZ _,by simpa using h.l1,h.l2,h.l3⟩
theorem CkM.set_sav (h:CkM a c W0 s W) (hS:a.Still c W0) (i:Nat) (b:Bool):CkM a c W0 { s with sav:=s.sav.set i b } (W.setCell ⟨a.g2,i,none⟩ (.bool b)):=by
 have:=hS.hp;have:=hS.h1;have:=hS.h2;have:=hS.h3;have hk:=h.sav.aO i (.bool b);rw [qaM] at hk;exact ⟨h.later.set (p:=⟨a.g2,i,none⟩) soZ _,h.box.far (p:=⟨a.g2,i,none⟩) soZ _,h.aG.far (p:=⟨a.g2,i,none⟩) soZ _,hk,h.aN.far (p:=⟨a.g2,i,none⟩) soZ _,h.l1,by simpa using h.l2,h.l3⟩
theorem CkM.set_grad (h:CkM a c W0 s W) (hS:a.Still c W0) (i:Nat) (b:Bool):CkM a c W0 { s with aN:=s.aN.set i b } (W.setCell ⟨a.g3,i,none⟩ (.bool b)):=by
 have:=hS.hp;have:=hS.h1;have:=hS.h2;have:=hS.h3;have hk:=h.aN.aO i (.bool b);rw [qaM] at hk;exact ⟨h.later.set (p:=⟨a.g3,i,none⟩) soZ _,h.box.far (p:=⟨a.g3,i,none⟩) soZ _,h.aG.far (p:=⟨a.g3,i,none⟩) soZ _,h.sav.far (p:=⟨a.g3,i,none⟩) soZ _,hk,h.l1,h.l2,by simpa using h.l3⟩
end
structure CkF (a:CkA) (c:CkN) (W0:Zp1) (s:CkS) (W W':Zp1):Prop where
 mem:CkM a c W0 s W'
 fr:Fr (λb=>a.p<=b/\b<=a.g3) W W'
section
variable {a:CkA} {c:CkN} {W0 W W' W2:Zp1} {s:CkS}
theorem CkF.later (h:CkF a c W0 s W W') (hl:Later W' W2):CkF a c W0 s W W2:=⟨h.mem.to_later hl,h.fr.eZ hl h.fr.size⟩
theorem CkF.now (h:CkF a c W0 s W W') (hS:a.Still c W0) (n:Int):CkF a c W0 { s with now:=n } W (W'.setCell ⟨a.p,12,none⟩ (nQ iQ n)):=⟨h.mem.set_now hS n,h.fr.setCell (p:=⟨a.p,12,none⟩) (λ_=>⟨lrZ _,by have:=hS.h1;have:=hS.h2;have:=hS.h3;simp;omega⟩) _⟩
theorem CkF.aB (h:CkF a c W0 s W W') (hS:a.Still c W0) (n:Int):CkF a c W0 { s with aB:=n } W (W'.setCell ⟨a.p,13,none⟩ (nQ iQ n)):=⟨h.mem.set_peak hS n,h.fr.setCell (p:=⟨a.p,13,none⟩) (λ_=>⟨lrZ _,by have:=hS.h1;have:=hS.h2;have:=hS.h3;simp;omega⟩) _⟩
theorem CkF.em (h:CkF a c W0 s W W') (hS:a.Still c W0) (b:Bool):CkF a c W0 { s with em:=b } W (W'.setCell ⟨a.p,9,none⟩ (.bool b)):=⟨h.mem.set_em hS b,h.fr.setCell (p:=⟨a.p,9,none⟩) (λ_=>⟨lrZ _,by have:=hS.h1;have:=hS.h2;have:=hS.h3;simp;omega⟩) _⟩
theorem CkF.sd (h:CkF a c W0 s W W') (hS:a.Still c W0) (b:Bool):CkF a c W0 { s with sd:=b } W (W'.setCell ⟨a.p,10,none⟩ (.bool b)):=⟨h.mem.set_sd hS b,h.fr.setCell (p:=⟨a.p,10,none⟩) (λ_=>⟨lrZ _,by have:=hS.h1;have:=hS.h2;have:=hS.h3;simp;omega⟩) _⟩
theorem CkF.done (h:CkF a c W0 s W W') (hS:a.Still c W0) (n:Nat):CkF a c W0 { s with done:=n } W (W'.setCell ⟨a.p,11,none⟩ (nQ iQ n)):=⟨h.mem.set_done hS n,h.fr.setCell (p:=⟨a.p,11,none⟩) (λ_=>⟨lrZ _,by have:=hS.h1;have:=hS.h2;have:=hS.h3;simp;omega⟩) _⟩
theorem CkF.aG (h:CkF a c W0 s W W') (hS:a.Still c W0) (i:Nat) (b:Bool):CkF a c W0 { s with aG:=s.aG.set i b } W (W'.setCell ⟨a.g1,i,none⟩ (.bool b)):=⟨h.mem.nG hS i b,h.fr.setCell (p:=⟨a.g1,i,none⟩) (λ_=>⟨by have:=hS.h1;simp;omega,by have:=hS.h2;have:=hS.h3;simp;omega⟩) _⟩
theorem CkF.sav (h:CkF a c W0 s W W') (hS:a.Still c W0) (i:Nat) (b:Bool):CkF a c W0 { s with sav:=s.sav.set i b } W (W'.setCell ⟨a.g2,i,none⟩ (.bool b)):=⟨h.mem.set_sav hS i b,h.fr.setCell (p:=⟨a.g2,i,none⟩) (λ_=>⟨by have:=hS.h1;have:=hS.h2;simp;omega,by have:=hS.h3;simp;omega⟩) _⟩
theorem CkF.aN (h:CkF a c W0 s W W') (hS:a.Still c W0) (i:Nat) (b:Bool):CkF a c W0 { s with aN:=s.aN.set i b } W (W'.setCell ⟨a.g3,i,none⟩ (.bool b)):=⟨h.mem.set_grad hS i b,h.fr.setCell (p:=⟨a.g3,i,none⟩) (λ_=>⟨by have:=hS.h1;have:=hS.h2;have:=hS.h3;simp;omega,by simp⟩) _⟩
theorem CkF.lQ (h:CkF a c W0 s W W') (i:Nat):W'.frozen? ⟨a.p,i,none⟩=false/\W'.frozen? ⟨a.g1,i,none⟩=false/\W'.frozen? ⟨a.g2,i,none⟩=false/\W'.frozen? ⟨a.g3,i,none⟩=false:=
 ⟨h.mem.box.frozen i,h.mem.aG.frozen i,h.mem.sav.frozen i,h.mem.aN.frozen i⟩
end
def aW (w:Zp1) (A:Option Addr) (ps:List (Int × Int)):Prop:=
 ∀k (h:k<ps.length),∃b off,A=some ⟨b,off,none⟩/\b<w.heap.size/\w.cell? ⟨b,off+k*2,none⟩=some (nQ iQ ps[k].1)/\w.cell? ⟨b,off+k*2+1,none⟩=some (nQ iQ ps[k].2)
section
variable {w w':Zp1} {A:Option Addr} {ps:List (Int × Int)}
theorem aW.nil:aW w A []:=λj hj=>by simp at hj
theorem aW.below {B:Nat} (h:aW w A ps) (hb:Below B w w') (hB:w.heap.size<=B):aW w' A ps:=λj hj=>by
 obtain ⟨b,off,e,hl,hc,hd⟩:=h j hj;exact ⟨b,off,e,ltZ hl hb.size,(hb.cell (p:=⟨b,off+j*2,none⟩) (ltZ hl hB)).trans hc,(hb.cell (p:=⟨b,off+j*2+1,none⟩) (ltZ hl hB)).trans hd⟩
end
theorem qdp (a b:Int) (w:Zp1):
  Calls prog 88 #[.agg #[nQ iQ a,nQ iQ b]] w λe w'=>e=.returned (.bool (Cd.right (a,b)))/\Below w.heap.size w w':=by
 rcases Cd.kinds a with h|h|h
 ·have ha:=zI (Cd.right_45 (p:=(a,b)) h)
  rcases h with rfl|rfl
  all_goals
   go_in;go_wp2_with fail;go_ret;exact ⟨qbB (by rw [ha.out]),(Ze1 _ _).alloc (lrZ _) _⟩
 ·have ha:=zI (Cd.pQ (p:=(a,b)) h)
  by_cases h1:1<=b
  ·rcases h with rfl|rfl|rfl|rfl
   all_goals
    go_in;go_wp2_with fail;go_ret;exact ⟨qbB (by rw [ha.out];simp [h1]),(Ze1 _ _).alloc (lrZ _) _⟩
  ·rcases h with rfl|rfl|rfl|rfl
   all_goals
    go_in;go_wp2_with fail;go_ret;exact ⟨qbB (by rw [ha.out];simp;omega),(Ze1 _ _).alloc (lrZ _) _⟩
 ·obtain ⟨h1,h2,h3,h4,h5,h6⟩:=h
  have ha:=zI (Cd.right_other (p:=(a,b)) h1 h2 h3 h4 h5 h6);have g1:(a==1)=false:=by simp [h1]
  have g2:(a==2)=false:=by simp [h2]
  have g3:(a==3)=false:=by simp [h3]
  have g4:(a==4)=false:=by simp [h4]
  have g5:(a==5)=false:=by simp [h5]
  have g6:(a==6)=false:=by simp [h6]
  clear h1 h2 h3 h4 h5 h6;go_in;go_wp2_with fail;go_ret;exact ⟨qbB (by rw [ha.out]),(Ze1 _ _).alloc (lrZ _) _⟩
theorem qc3 (A:Option Addr) (c:Nat) (ps:List (Int × Int)) (w:Zp1) (hl:ps.length<=9223372036854775807) (hI:aW w A ps):
  Calls prog 47 #[sQ A ps.length c] w λe w'=>e=.returned (nQ iQ (Cd.check ps))/\Below w.heap.size w w':=by
 have HI:=zI hI;clear hI
 by_cases hm:65536<ps.length
 ·have he:=zI (Cd.jO hm)
  go_in;go_wp2_with fail;go_ret;exact ⟨qbt (by rw [he.out]),Ze1 _ _⟩
 ·go_in
  go_wp2_with fail
  go_loopw [4,10] (λ_ i wr=>∃k:Nat,k<=ps.length/\i=nQ iQ k/\Below w.heap.size w wr/\∀j (hj:j<ps.length),j<k->Cd.right ps[j]=true) (λ_ i _=>ps.length-(intOf i).toNat)
  case atStart=>exact ⟨0,Zt _,rfl,Ze1 _ _,by intro j _ hj;omega⟩
  case round=>
   obtain ⟨k,hk,rfl,ha,hf⟩:=hrel;have HO:=zI hf;clear hf
   by_cases hh:k<ps.length
   ·obtain ⟨b,off,rfl,hb,hc,hd⟩:=HI.out.below ha (lrZ _) k hh
    go_wp2_with fail;refine (qdp _ _ _).mono ?_;rintro e w1 ⟨rfl,h1⟩;have hg:Below w.heap.size w w1:=(ha.alloc ha.size _).trans (h1.mono (by have:=ha.size;simp;omega));clear h1 ha;cases hr:Cd.right (ps[k].1,ps[k].2)
    ·have he:=zI (Cd.check_form hm (Cd.mP hh hr))
     clear hr;go_wp2_with fail;go_ret;exact ⟨qbt (by rw [he.out]),hg⟩
    ·have HR:=zI hr
     clear hr;go_wp2_with fail;go_roundw
     case rel=>exact ⟨k+1,by omega,by go_num,hg,λj hj hi=>by rcases Nat.lt_succ_iff_lt_or_eq.1 hi with h|h;exact HO.out j hj h;subst h;exact HR.out⟩
     case measure=>simp [intOf];omega
   ·obtain rfl:k=ps.length:=by omega
    have he:=zI (Cd.aL hm (Cd.uG (λj hj=>HO.out j hj hj)));go_wp2_with fail;go_ret;exact ⟨qbt (by rw [he.out]),ha⟩
theorem qgD (A:Option Addr) (c:Nat) (ps:List (Int × Int)) (kind:Int) (w:Zp1) (hl:ps.length<=9223372036854775807) (hI:aW w A ps):
  Calls prog 52 #[sQ A ps.length c,nQ iQ kind] w λe w'=>e=.returned (nQ iQ (Cd.count kind ps))/\Below w.heap.size w w':=by
 have HI:=zI hI;clear hI;go_in;go_wp2_with fail
 go_loopw [5,7,10] (λn _ i wr=>∃k:Nat,k<=ps.length/\i=nQ iQ k/\Below w.heap.size w wr/\n=nQ iQ (Cd.count kind (ps.take k))) (λ_ _ i _=>ps.length-(intOf i).toNat)
 case atStart=>exact ⟨0,Zt _,rfl,Ze1 _ _,rfl⟩
 case round=>
  obtain ⟨k,hk,rfl,ha,rfl⟩:=hrel
  by_cases hg:k<ps.length
  ·obtain ⟨b,off,rfl,hb,hc,hd⟩:=HI.out.below ha (lrZ _) k hg
   have ⟨hn0,hn1⟩:=Cd.tF kind (ps.take k);rw [Zo] at hn1;have HS:=zI (Cd.count_take_succ kind ps k hg);have hf:=ha.alloc ha.size (Obj.cells #[Za1 iQ ps[k].1,Za1 iQ ps[k].2] 106);clear ha;cases he:(ps[k].1==kind)
   ·go_wp2_with fail
    go_roundw
    case rel=>exact ⟨k+1,by omega,by go_num,hf,by rw [HS.out,he];simp⟩
    case measure=>simp [intOf];omega
   ·go_wp2_with fail
    go_roundw
    case rel=>exact ⟨k+1,by omega,by go_num,hf,by rw [HS.out,he];simp⟩
    case measure=>simp [intOf];omega
  ·obtain rfl:k=ps.length:=by omega
   go_wp2_with fail;go_ret;exact ⟨qbt (by rw [Zg]),ha⟩
def qbM (cost:List Int) (ps:List (Int × Int)) (k:Nat):List Value:=(Cd.aJ cost (ps.take k)).map (Za1 iQ)
def qcr (cost:List Int) (ps:List (Int × Int)) (k:Nat):Nat:=(Cd.aJ cost (ps.take k)).length
theorem qg3 (cost:List Int) (ps:List (Int × Int)) (k:Nat) (h:k<=ps.length):qcr cost ps k<=k:=by
 have:=Cd.nU cost (ps.take k);unfold qcr;rw [Zo] at this;omega
theorem qhM (cost:List Int) (ps:List (Int × Int)) (k:Nat) (h:k<ps.length) (hr:Cd.lD ps[k]=false):qbM cost ps (k+1)=qbM cost ps k/\qcr cost ps (k+1)=qcr cost ps k:=by
 unfold qbM qcr;rw [Cd.iT cost ps k h hr];exact ⟨rfl,rfl⟩
theorem cost_add (cost:List Int) (ps:List (Int × Int)) (k:Nat) (h:k<ps.length) (hr:Cd.lD ps[k]=true):qbM cost ps (k+1)=qbM cost ps k++[nQ iQ (cost.getD ps[k].2.toNat 0)]/\qcr cost ps (k+1)=qcr cost ps k+1:=by
 unfold qbM qcr;rw [Cd.iZ cost ps k h hr];simp
theorem qeA (A:Option Addr) (c:Nat) (ps:List (Int × Int)) (B:Option Addr) (d:Nat) (cost:List Int) (w:Zp1) (hl:ps.length<=9223372036854775807) (hI:aW w A ps) (hlc:cost.length<=9223372036854775807) (hJ:Ints iQ w B cost):
  Calls prog 50 #[sQ A ps.length c,sQ B cost.length d] w λe w'=>e=.returned (.tuple #[nQ iQ (Cd.aD ps cost).1,nQ iQ (Cd.aD ps cost).2])/\Below w.heap.size w w':=by
 obtain ⟨HI,HJ⟩:=zd2 hI hJ;clear hI hJ
 by_cases hh:Cd.check ps=0
 ·have ⟨hlen,hall⟩:=Cd.check_zero hh
  obtain ⟨HA,HC⟩:=zd2 hall hh;clear hh hall;obtain ⟨i0,hi,hF,hL,hE⟩:=info_parts qag;go_in;go_wp2_with fail;refine (qc3 A c ps _ hl HI.out).mono ?_;rintro e w1 ⟨rfl,h1⟩;rw [HC.out];go_wp2_with fail
  go_loopw [7,9,19] (λv _ i wr=>∃k:Nat,k<=ps.length/\i=nQ iQ k/\wr.ownsRow w.heap.size 3 1 v (qcr cost ps k) (qbM cost ps k)/\Below w.heap.size w wr/\∀j (hj:j<ps.length),j<k->Cd.fine cost ps[j]=true) (λ_ _ i _=>ps.length-(intOf i).toNat)
  case atStart=>exact ⟨0,Zt _,rfl,World.ownsRow_nil _ _ _ _,h1,by intro j _ hj;omega⟩
  case round=>
   clear h1;obtain ⟨k,hk,rfl,hown,ha,hC⟩:=hrel;have HO:=zI hC;clear hC
   by_cases hm:k<ps.length
   ·obtain ⟨b,off,rfl,hb,hc,hd⟩:=HI.out.below ha (lrZ _) k hm
    have hO:=qg3 cost ps k hk;have ⟨hr1,hr2,hr3,hr4⟩:=Cd.kF (Cd.lV HA.out k hm);have hf:=ha.alloc ha.size (Obj.cells #[Za1 iQ ps[k].1,Za1 iQ ps[k].2] 106);cases hrk:Cd.lD ps[k]
    ·have HS:=zI (qhM cost ps k hm hrk)
     have HF:=zI (show Cd.fine cost ps[k]=true by simp [Cd.fine,hrk]);have hx:(ps[k].1==1)=false/\(ps[k].1==2)=false:=by simpa [Cd.lD] using hrk
     have hM:(ps[k].1 != 1)=true:=by simpa using hx.1
     have hP:(ps[k].1 != 2)=true:=by simpa using hx.2
     have ho:=hown.alloc (Obj.cells #[Za1 iQ ps[k].1,Za1 iQ ps[k].2] 106);clear hrk hx ha hown;go_wp2_with fail;go_roundw
     case rel=>exact ⟨k+1,by omega,by go_num,by rw [HS.out.1,HS.out.2];exact ho,hf,λj hj hr=>by rcases Nat.lt_succ_iff_lt_or_eq.1 hr with h|h;exact HO.out j hj h;subst h;exact HF.out⟩
     case measure=>simp [intOf];omega
    ·have HS:=zI (cost_add cost ps k hm hrk)
     have HK:=zI hrk;have hx:ps[k].1=1∨ps[k].1=2:=by simpa [Cd.lD] using hrk
     clear hrk;generalize hp:ps[k]=p at hc hd hr1 hr2 hr3 hr4 hf HS HK hx;obtain ⟨kd,id⟩:=p;have HP:=zI hp;clear hp;dsimp only at hc hd hr1 hr2 hr3 hr4 hf HS HK hx;have ho:=hown.alloc (Obj.cells #[Za1 iQ kd,Za1 iQ id] 106);clear hown
     by_cases hR:id<(cost.length:Int)
     ·obtain ⟨m,rfl⟩:=ezZ hr3
      rw [tnZ] at HS;obtain ⟨b2,off2,rfl,hw,hN⟩:=HJ.out.below ha (lrZ _) m oZ;have hq:m<cost.length:=by omega
      have ez:cost.getD m 0=cost[m]:=by simp [hq]
      have HE:=zI ez;clear ez;cases hgood:Safe.ok cost[m]
      ·have HF:=zI (Cd.pO HC.out (Cd.mP hm (show Cd.fine cost ps[k]=false by rw [HP.out];simp [Cd.fine,HK.out,Cd.lX,hgood,hq])))
       have HG:=zI hgood;clear hgood;rcases hx with rfl|rfl
       all_goals
        go_wp2_with fail;refine (qaB _ _).mono ?_;rintro e w2 ⟨rfl,rfl⟩;rw [HG.out];go_wp2_with fail
        go_ret2
        exact ⟨by rw [HF.out];rfl,hf⟩
      ·have HF:=zI (show Cd.fine cost ps[k]=true by rw [HP.out];simp [Cd.fine,HK.out,Cd.lX,hgood,hq])
       have HG:=zI hgood;clear hgood;rcases hx with rfl|rfl
       all_goals
        go_wp2_with fail;refine (qaB _ _).mono ?_;rintro e w2 ⟨rfl,rfl⟩;rw [HG.out];go_wp2_with (at_builtin;refine wpList_append_own _ rfl _ _ 22 rfl w.heap.size 3 i0 (nQ iQ 0) 1 8 underlying22 hi hF hL hE rfl dZ _ _ _ rfl (ho.alloc _) ⟨wr.heap.size+1,0,none⟩ 1 1 [nQ iQ cost[m]] rfl rfl (one_new2 _ _ _ _) (by intro u hu;simp at hu;subst hu;rfl) (by unfold maxLen;omega) oZ (by have:=ha.size;simp;omega) ?_);intro v' w3 he hgrow _;have hH:Below w.heap.size w w3:=(hf.alloc (by have:=ha.size;simp;omega) _).grown hgrow (by have:=ha.size;simp;omega) (λg hg=>(ho.lt g hg).1)
        have hG:w3.ownsRow w.heap.size 3 1 v' (qcr cost ps (k+1)) (qbM cost ps (k+1)):=by
         rw [HS.out.1,HS.out.2,HE.out];exact he
        clear he hgrow ho ha hf;go_wp2_with fail;go_roundw
        case rel=>exact ⟨k+1,by omega,by go_num,hG,hH,λj hj hr=>by rcases Nat.lt_succ_iff_lt_or_eq.1 hr with h|h;exact HO.out j hj h;subst h;exact HF.out⟩
        case measure=>simp [intOf];omega
     ·have HF:=zI (Cd.pO HC.out (Cd.mP hm (show Cd.fine cost ps[k]=false by rw [HP.out];simp [Cd.fine,HK.out,Cd.lX];intro h;omega)))
      rcases hx with rfl|rfl
      all_goals
       go_wp2_with fail
       go_ret2
       exact ⟨by rw [HF.out];rfl,hf⟩
   ·obtain rfl:k=ps.length:=by omega
    have HF:=zI (Cd.uG (p:=Cd.fine cost) (λj hj=>HO.out j hj hj));have HG:=zI (Cd.costList_ok HF.out);have hz:=qg3 cost ps ps.length (lrZ _);have hA:=zI (Cd.nJ HC.out HF.out);have hB:=zI (Cd.costs_many HC.out HF.out);unfold qbM qcr at hown;unfold qcr at hz;rw [Zg] at hown hz;generalize Cd.aJ cost ps=cl at hown HG hz hA hB;obtain ⟨A',c',hv,hn,hD⟩:=Ints.jB hown;subst hv;have hK:=zI hD;clear hD hown hn HO;go_wp2_with fail;refine (qfM A' c' cl _ oZ hK.out).mono ?_;rintro e w2 ⟨rfl,h2⟩;have hw:=ha.trans (h2.mono ha.size);clear h2 ha
    by_cases hs:Safe.sum cl<=Safe.top
    ·rw [Safe.uU HG.out hs]
     have ht:=zI (hA.out hs);clear hs;go_wp2_with fail
     go_ret2
     exact ⟨by rw [ht.out];rfl,hw⟩
    ·rw [Safe.uE HG.out cl.length (by rw [Zg];omega)]
     have ht:=zI (hB.out oZ);clear hs;go_wp2_with fail
     go_ret2
     exact ⟨by rw [ht.out];rfl,hw⟩
 ·have hy:=zI (Cd.costs_bad hh cost)
  have hQ:(Cd.check ps != 0)=true:=by simp [hh]
  clear hh;go_in;go_wp2_with fail;refine (qc3 A c ps _ hl HI.out).mono ?_;rintro e w1 ⟨rfl,h1⟩;go_wp2_with fail
  go_ret2
  exact ⟨by rw [hy.out];rfl,h1⟩
def qa4 (ps:List (Int × Int)):List Value:=ps.flatMap λp=>[nQ iQ p.1,nQ iQ p.2]
theorem qas (ps:List (Int × Int)):(qa4 ps).length=ps.length*2:=by
 induction ps with
 | nil=>rfl
 | cons x r ih=>simp [qa4] at ih ⊢;omega
theorem qaz (a b:List (Int × Int)):qa4 (a++b)=qa4 a++qa4 b:=by simp [qa4]
theorem qaS (ps:List (Int × Int)):∀(k:Nat) (h:k<ps.length),(qa4 ps)[k*2]? = some (nQ iQ ps[k].1)/\(qa4 ps)[k*2+1]? = some (nQ iQ ps[k].2):=by
 induction ps with
 | nil=>intro k h;simp at h
 | cons x r ih=>
  intro k h;rcases k with _|k
  ·simp [qa4]
  ·have:=ih k (by simpa using h)
   have e1:(k+1)*2=k*2+1+1:=by omega
   rw [e1];simpa [qa4] using this
theorem aW.jB {w:Zp1} {base:Nat} {e:TypeId} {v:Value} {n:Nat} {ps:List (Int × Int)} (h:w.ownsRow base e 2 v n (qa4 ps)):
  ∃A c,v=sQ A ps.length c/\n=ps.length/\aW w A ps:=by
 have hn:ps.length=n:=by have:=h.1;rw [qas] at this;omega
 subst hn;rcases h.2 with ⟨rfl,h0⟩|⟨g,cap,cur,rfl,hb,hh,r1,r2,r3,r4⟩
 ·have:ps=[]:=List.eq_nil_of_length_eq_zero h0
  subst this;exact ⟨none,0,rfl,rfl,aW.nil⟩
 ·refine ⟨_,cap,rfl,rfl,λk hk=>?_⟩
  have ⟨e1,e2⟩:=qaS ps k hk;have c1:w.cell? ⟨g,0+k*2,none⟩=some (nQ iQ ps[k].1):=by rw [Zw,h.cellAt (k*2) oZ];exact e1
  have c2:w.cell? ⟨g,0+k*2+1,none⟩=some (nQ iQ ps[k].2):=by rw [Zw,h.cellAt (k*2+1) oZ];exact e2
  exact ⟨g,0,rfl,Zj1 _ _ c1,c1,c2⟩
structure RtA where
 I:Option Addr
 N:Option Addr
 O:Option Addr
 cI:Nat
 cN:Nat
 cO:Nat
 gl:Nat
 p:Nat
 g1:Nat
 g2:Nat
 g3:Nat
 B:Nat
def RtA.cells (a:RtA) (n:aA) (v:Value):Array Value:=
 #[.slice a.I n.inn.length a.cI,.slice a.N n.o.length a.cN,.slice a.O n.o.length a.cO,sQ (some ⟨a.gl,0,none⟩) (n.o.length+1) (n.o.length+1),sQ (some ⟨a.g1,0,none⟩) (n.o.length+1) (n.o.length+1),nQ iQ (Nt.aH n.o),sQ (some ⟨a.g2,0,none⟩) (n.o.length+1) (n.o.length+1),sQ (some ⟨a.g3,0,none⟩) (n.o.length+1) (n.o.length+1),v]
structure RtA.Still (a:RtA) (n:aA) (W0:Zp1):Prop where
 ok:n.ok
 chk:Nt.check n=0
 m12:n.o.length<=12
 net:bC W0 a.I a.N n
 hN:n.o.length<=a.cN
 ord:Ints iQ W0 a.O (Nt.sO n.o)
 last:Blk W0 a.gl 3 (qae (Nt.bZ n n.o.length [])).toArray
 hp:W0.heap.size<=a.p
 h1:a.p<a.g1
 h2:a.p<a.g2
 h3:a.p<a.g3
 n12:a.g1≠a.g2
 n13:a.g1≠a.g3
 n23:a.g2≠a.g3
 b1:a.g1<a.B
 b2:a.g2<a.B
 b3:a.g3<a.B
structure RtM (a:RtA) (n:aA) (kb:List Bool) (W0:Zp1) (s:RtS) (W:Zp1):Prop where
 later:Later W0 W
 box:∃v,Blk W a.p 186 (a.cells n v)/\W.ownsRow a.B 106 2 v s.code.length (qa4 s.code)
 first:Blk W a.g1 3 (qae (Rt.bV n (Nt.sO n.o).length [])).toArray
 kept:Blk W a.g2 4 (kb.map Value.bool).toArray
 aG:Blk W a.g3 4 (s.aG.map Value.bool).toArray
 lk:kb.length=n.o.length+1
 lp:s.aG.length=n.o.length+1
 hB:a.B<=W.heap.size
def RtK (a:RtA) (w w':Zp1):Prop:=w.heap.size<=w'.heap.size/\∀b o,w.heap[b]? = some o->b≠a.p->b≠a.g3->(∀c f,o≠.cells c 106 f)->w'.heap[b]? = some o
section
variable {a:RtA} {n:aA} {kb:List Bool} {W0 W W' w1:Zp1} {s:RtS}
theorem RtK.refl (a:RtA) (w:Zp1):RtK a w w:=⟨lrZ _,λ_ _ h _ _ _=>h⟩
theorem RtK.trans {w w1 w2:Zp1} (h:RtK a w w1) (k:RtK a w1 w2):RtK a w w2:=⟨Zv h.1 k.1,λb o hb h1 h2 h3=>k.2 b o (h.2 b o hb h1 h2 h3) h1 h2 h3⟩
theorem RtK.of_later (h:Later W W'):RtK a W W':=⟨Below.size h,λb o hb _ _ _=>(h.block b (lt_of_block hb)).trans hb⟩
theorem RtK.blk {g:Nat} {t:TypeId} {cs:Array Value} (h:RtK a W W') (hb:Blk W g t cs) (ht:t≠106) (h1:g≠a.p) (h2:g≠a.g3):Blk W' g t cs:=
 h.2 g _ hb h1 h2 λc f e=>by injection e with _ e _;exact ht e
theorem RtM.to_later (h:RtM a n kb W0 s W) (hl:Later W W'):RtM a n kb W0 s W':=by
 obtain ⟨v,hb,ho⟩:=h.box;exact ⟨h.later.trans hl,⟨v,hl.blk hb,qaa ho λg hg=>hl.block g (ho.lt g hg).2⟩,hl.blk h.first,hl.blk h.kept,hl.blk h.aG,h.lk,h.lp,Zv h.hB (Below.size hl)⟩
theorem qcN {e:TypeId} {B z m:Nat} {v:Value} {xs:List Value} (h:W.ownsRow B e z v m xs):∀g,v.ownBlock=some g->∃c fz,W.heap[g]? = some (.cells c e fz):=by
 intro g hg;rcases h.2 with ⟨rfl,_⟩|⟨g',cap,cur,rfl,_,ha,_⟩
 ·simp [Value.ownBlock] at hg
 ·simp [Value.ownBlock] at hg
  subst hg;exact ⟨cur,_,ha⟩
theorem RtM.put {v v':Value} {k id:Int} {o:Obj} (hS:a.Still n W0) (h:RtM a n kb W0 s W) (hb:Blk W a.p 186 (a.cells n v)) (ho:W.ownsRow a.B 106 2 v s.code.length (qa4 s.code))
  (hg:(W.alloc o).grownBy w1 v.ownBlock) (hown1:w1.ownsRow a.B 106 2 v' (s.code.length+1) (qa4 (s.code++[(k,id)]))):
  RtM a n kb W0 (Rt.add k id s) (w1.setCell ⟨a.p,8,none⟩ v')/\RtK a W (w1.setCell ⟨a.p,8,none⟩ v'):=by
 have i1:=hS.hp;have i2:=hS.h1;have i3:=hS.h2;have i4:=hS.h3;have i5:=hS.b1;have i6:=hS.b2;have i7:=hS.b3;have i8:=h.hB;have hh:∀b,v.ownBlock=some b->a.B<=b:=λb hb=>(ho.lt b hb).1
 have hj:(W.alloc o).heap.size=W.heap.size+1:=by simp
 have hc:∀b,b<W.heap.size->v.ownBlock≠some b->w1.heap[b]? = W.heap[b]?:=λb hb hf=>
  (hg.block b oZ (λe=>hf e.symm)).trans (Below.heap_alloc W o b hb)
 have far:∀g,g<a.B->v.ownBlock≠some g:=λg hg e=>by have:=hh g e;omega
 have ha:∀ {g:Nat} {t:TypeId} {cs:Array Value},g<a.B->Blk W g t cs->Blk w1 g t cs:=λhk hb=>(hc _ hb.lt (far _ hk)).trans hb
 have hi:=Below.heap_setCell w1 ⟨a.p,8,none⟩ v';have hd:∀ {g:Nat} {t:TypeId} {cs:Array Value},g≠a.p->Blk w1 g t cs->Blk (w1.setCell ⟨a.p,8,none⟩ v') g t cs:=λhf hb=>hb.far (p:=⟨a.p,8,none⟩) hf v'
 refine ⟨⟨?_,⟨v',(ha oZ hb).aO 8 v',?_⟩,hd oZ (ha oZ h.first),hd oZ (ha oZ h.kept),hd oZ (ha oZ h.aG),h.lk,h.lp,?_⟩,?_,λb ob he n1 n2 n3=>?_⟩
 ·have hl:=h.later
  have h1:Later W0 (W.alloc o):=hl.alloc o;exact (Below.grown h1 hg (by have:=hl.size;omega) (λb hb=>by have:=hh b hb;omega)).setCell (by show W0.heap.size<=a.p;exact i1) v'
 ·show (w1.setCell ⟨a.p,8,none⟩ v').ownsRow _ _ 2 v' (s.code++[(k,id)]).length (qa4 (s.code++[(k,id)]))
  rw [Ze,List.length_singleton];exact qaa hown1 λg hg=>hi g (by have:=(hown1.lt g hg).1;show g≠a.p;omega)
 ·have:=hg.size
  have e:(w1.setCell ⟨a.p,8,none⟩ v').heap.size=w1.heap.size:=by simp
  omega
 ·have:=hg.size
  have e:(w1.setCell ⟨a.p,8,none⟩ v').heap.size=w1.heap.size:=by simp
  omega
 ·rw [hi b n1,hc b (lt_of_block he) (λe=>?_)]
  ·exact he
  ·obtain ⟨c,fz,hx⟩:=qcN ho b e
   rw [he] at hx;injection hx with hx
   exact n3 _ _ hx
theorem RtM.nG (hS:a.Still n W0) (h:RtM a n kb W0 s W) (i:Nat) (b:Bool):RtM a n kb W0 ⟨s.aG.set i b,s.code⟩ (W.setCell ⟨a.g3,i,none⟩ (.bool b))/\RtK a W (W.setCell ⟨a.g3,i,none⟩ (.bool b)):=by
 have i1:=hS.hp;have i2:=hS.h1;have i3:=hS.h2;have i4:=hS.h3;have i5:=hS.n13;have i6:=hS.n23;have i7:=hS.b3;have i8:=h.hB;obtain ⟨v,hb,ho⟩:=h.box;have hk:=h.aG.aO i (.bool b);rw [qaM] at hk;have ha:=Below.heap_setCell W ⟨a.g3,i,none⟩ (.bool b);refine ⟨⟨h.later.set (p:=⟨a.g3,i,none⟩) soZ _,⟨v,hb.far (p:=⟨a.g3,i,none⟩) soZ _,qaa ho λg hg=>ha g (by have:=(ho.lt g hg).1;show g≠a.g3;omega)⟩,h.first.far (p:=⟨a.g3,i,none⟩) soZ _,h.kept.far (p:=⟨a.g3,i,none⟩) soZ _,hk,h.lk,by simpa using h.lp,by simpa using h.hB⟩,by simp,λb' o hc n1 n2 n3=>?_⟩;rw [ha b' n2];exact hc
theorem RtM.eO (h:RtM a n kb W0 s W):∃v,Blk W a.p 186 (a.cells n v)/\W.ownsRow a.B 106 2 v s.code.length (qa4 s.code)/\
  W.cell? ⟨a.p,0,none⟩=some (.slice a.I n.inn.length a.cI)/\W.cell? ⟨a.p,1,none⟩=some (.slice a.N n.o.length a.cN)/\W.cell? ⟨a.p,2,none⟩=some (.slice a.O n.o.length a.cO)/\W.cell? ⟨a.p,3,none⟩=some (sQ (some ⟨a.gl,0,none⟩) (n.o.length+1) (n.o.length+1))/\W.cell? ⟨a.p,4,none⟩=some (sQ (some ⟨a.g1,0,none⟩) (n.o.length+1) (n.o.length+1))/\W.cell? ⟨a.p,5,none⟩=some (nQ iQ (Nt.aH n.o))/\W.cell? ⟨a.p,6,none⟩=some (sQ (some ⟨a.g2,0,none⟩) (n.o.length+1) (n.o.length+1))/\W.cell? ⟨a.p,7,none⟩=some (sQ (some ⟨a.g3,0,none⟩) (n.o.length+1) (n.o.length+1))/\W.cell? ⟨a.p,8,none⟩=some v:=by
 obtain ⟨v,hb,ho⟩:=h.box;exact ⟨v,hb,ho,hb.cell 0,hb.cell 1,hb.cell 2,hb.cell 3,hb.cell 4,hb.cell 5,hb.cell 6,hb.cell 7,hb.cell 8⟩
theorem RtM.kX (h:RtM a n kb W0 s W) {i:Nat} (hi:i<=n.o.length):W.cell? ⟨a.g3,i,none⟩=some (.bool (Ck.at_ s.aG i)):=by
 rw [Ck.kE];exact qav h.aG (by rw [h.lp];omega)
theorem RtM.jN (h:RtM a n kb W0 s W) {i:Nat} (hi:i<=n.o.length):W.cell? ⟨a.g2,i,none⟩=some (.bool (Ck.at_ kb i)):=by
 rw [Ck.kE];exact qav h.kept (by rw [h.lk];omega)
end
def RtP (a:RtA) (n:aA) (kb:List Bool) (W0:Zp1) (s:RtS) (W:Zp1) (e:Ending) (w':Zp1):Prop:=e=.returned (.tuple #[])/\RtM a n kb W0 s w'/\RtK a W w'
set_option maxRecDepth 100000 in
theorem qbe (a:RtA) (n:aA) (kb:List Bool) (W0:Zp1) (s:RtS) (W:Zp1) (hS:a.Still n W0) (hM:RtM a n kb W0 s W) (k id:Int) (hlen:s.code.length<=100000):
  Calls prog 115 #[.pointer (some ⟨a.p,0,none⟩),nQ iQ k,nQ iQ id] W (RtP a n kb W0 (Rt.add k id s) W):=by
 obtain ⟨i0,hi,hh,hj,hf⟩:=info_parts qdd;obtain ⟨v,hb,ho,-,-,-,-,-,-,-,-,c8⟩:=hM.eO;have he:a.p<W.heap.size:=hb.lt;have hB:a.B<=W.heap.size:=hM.hB;have ag:∀g,v.ownBlock=some g->a.p<g:=λg hg=>by have:=(ho.lt g hg).1;have:=hS.h1;have:=hS.b1;omega
 have grown_blk:∀(o:Obj) (w1:Zp1),(W.alloc o).grownBy w1 v.ownBlock->Blk w1 a.p 186 (a.cells n v):=λo w1 hg=>by
  show w1.heap[a.p]? = _
  rw [hg.block a.p soZ (λe=>by have:=ag _ e.symm;omega)];exact (Lib.alloc_old W _ a.p he).trans hb
 have hc:=zI (λ(o:Obj) (w1:Zp1) (v':Value) (hg:(W.alloc o).grownBy w1 v.ownBlock) (ha:w1.ownsRow a.B 106 2 v' (s.code.length+1) (qa4 s.code++[nQ iQ k,nQ iQ id]))=>hM.put (v':=v') (k:=k) (id:=id) hS hb ho hg (by rw [qaz];exact ha));have Hg:=zI grown_blk;clear grown_blk hM hS ag;go_in;go_wp2_with (at_builtin;refine wpList_append_own_at _ rfl _ _ 46 rfl a.B 106 i0 _ 2 16 underlying46 hi hh hj hf rfl dZ v s.code.length (qa4 s.code) rfl (qa8 ho _) ⟨W.heap.size,0,none⟩ 1 1 [nQ iQ k,nQ iQ id] rfl rfl ?c1 (by intro u hu;simp at hu;rcases hu with rfl|rfl<;>rfl) (by unfold maxLen;omega) oZ ?c2 ?_)
 first|(case c1=>exact World.news_of_block (cs:=#[nQ iQ k,nQ iQ id]) (t:=106) (fr:=(0,0)) (heap_alloc_new W _))|skip
 case c2=>simp;omega
 intro v' w1 ha hgrow _ hk;have hd:=Hg.out _ _ hgrow;have d0:w1.cell? ⟨a.p,8,none⟩=some v:=hd.cell 8;have f0:w1.frozen? ⟨a.p,8,none⟩=false:=hd.frozen 8;have hR:=hc.out _ _ _ hgrow ha;obtain ⟨A9,c9,rfl⟩:=qa6 ha;clear hgrow ha hk hd hc Hg ho hb c8;have HR:=zI hR;clear hR;go_wp2_with fail
 go_end0
 exact ⟨rfl,HR.out.1,HR.out.2⟩
structure WrA where
 q:Nat
 g:Nat
 B:Nat
def WrA.cells (w:WrA) (a:SvA) (n:Nat) (v:Value):Array Value:=#[.pointer (some ⟨a.p,0,none⟩),sQ (some ⟨w.g,0,none⟩) (n+1) (n+1),v]
structure WrM (w:WrA) (a:SvA) (c:Ch.C) (n:Nat) (W0:Zp1) (s:Ch.S) (W:Zp1):Prop where
 sv:SvM a c n W0 [] W
 box:∃v,Blk W w.q 213 (w.cells a n v)/\W.ownsRow w.B 106 2 v s.code.length (qa4 s.code)
 saved:Blk W w.g 4 (s.saved.map Value.bool).toArray
 ls:s.saved.length=n+1
 hB:w.B<=W.heap.size
 q0:W0.heap.size<=w.q
 g0:W0.heap.size<=w.g
 qB:w.q<w.B
 gB:w.g<w.B
def WrK (w:WrA) (a:SvA) (W W':Zp1):Prop:=W.heap.size<=W'.heap.size/\∀(b:Nat) (o:Obj),W.heap[b]? = some o->b∉[a.bm,w.q,w.g]->(∀c f,o≠Obj.cells c 106 f)->W'.heap[b]? = some o
theorem fP.keep {c:Ch.C} {X:List Nat} {bm:Nat} {W W':Zp1} (h:fP c X bm W) (hk:∀(b:Nat) (o:Obj),W.heap[b]? = some o->(∀c f,o≠Obj.cells c 106 f)->W'.heap[b]? = some o):fP c X bm W':=by
 obtain ⟨es,clock,hm,hu,he⟩:=h;refine ⟨es,clock,hk _ _ hm (λ_ _ e=>by cases e),hu,λe hx=>?_⟩;obtain ⟨l,r,g,h1,h2,h3,h4,h5,h6⟩:=he e hx;exact ⟨l,r,g,h1,h2,h3,h4,hk _ _ h5 (λ_ _ e=>by injection e with _ e _;exact absurd e dZ),h6⟩
section
variable {w:WrA} {a:SvA} {c:Ch.C} {n:Nat} {W0 W W' w1:Zp1} {s:Ch.S}
theorem WrK.refl (w:WrA) (a:SvA) (W:Zp1):WrK w a W W:=⟨lrZ _,λ_ _ h _ _=>h⟩
theorem WrK.trans {W2:Zp1} (h:WrK w a W W') (k:WrK w a W' W2):WrK w a W W2:=⟨Zv h.1 k.1,λb o hb h1 h2=>k.2 b o (h.2 b o hb h1 h2) h1 h2⟩
theorem WrK.sU (h:KpL [a.bm] W W'):WrK w a W W':=⟨h.1,λb o hb h1 _=>h.2 b o hb (by simp at h1 ⊢;exact h1.1)⟩
theorem WrK.of_later (h:Later W W'):WrK w a W W':=WrK.sU (KpL.of_later h)
theorem WrK.blk {g:Nat} {t:TypeId} {cs:Array Value} (h:WrK w a W W') (hb:Blk W g t cs) (ht:t≠106) (h1:g∉[a.bm,w.q,w.g]):Blk W' g t cs:=
 h.2 g _ hb h1 λc f e=>by injection e with _ e _;exact ht e
theorem WrM.sU (h:WrM w a c n W0 s W) (hk:KpL [a.bm] W W') (hM:SvM a c n W0 [] W'):WrM w a c n W0 s W':=by
 obtain ⟨v,hb,ho⟩:=h.box;have hn:∀ {g:Nat} {t:TypeId} {cs:Array Value},Blk W g t cs->Blk W' g t cs:=λhb=>hk.blk hb (by simp only [List.mem_singleton];exact qa7 h.sv.memo hb)
 refine ⟨hM,⟨v,hn hb,qaa ho λg hg=>?_⟩,hn h.saved,h.ls,Zv h.hB hk.1,h.q0,h.g0,h.qB,h.gB⟩;obtain ⟨cc,fz,hx⟩:=qcN ho g hg;rw [hx];refine hk.2 g _ hx ?_;simp only [List.mem_singleton];rintro rfl;obtain ⟨es,clock,hm,-,-⟩:=h.sv.memo;rw [hm] at hx;cases hx
theorem WrM.to_later (h:WrM w a c n W0 s W) (hl:Later W W'):WrM w a c n W0 s W':=h.sU (KpL.of_later hl) (h.sv.to_later hl)
theorem WrM.put {v v':Value} {k id:Int} {o:Obj} (h:WrM w a c n W0 s W) (hb:Blk W w.q 213 (w.cells a n v)) (ho:W.ownsRow w.B 106 2 v s.code.length (qa4 s.code))
  (hg:(W.alloc o).grownBy w1 v.ownBlock) (hown1:w1.ownsRow w.B 106 2 v' (s.code.length+1) (qa4 (s.code++[(k,id)]))):
  WrM w a c n W0 (s.add k id) (w1.setCell ⟨w.q,2,none⟩ v')/\WrK w a W (w1.setCell ⟨w.q,2,none⟩ v'):=by
 have i1:=h.q0;have i2:=h.g0;have i3:=h.qB;have i4:=h.gB;have i8:=h.hB;have hq:(W.alloc o).heap.size=W.heap.size+1:=by simp
 have ha:∀(b:Nat) (ob:Obj),W.heap[b]? = some ob->(∀c f,ob≠Obj.cells c 106 f)->w1.heap[b]? = some ob:=λb ob he hl=>by
  have hk:=lt_of_block he
  have hm:some b≠v.ownBlock:=λe=>by
   obtain ⟨cc,fz,hx⟩:=qcN ho b e.symm;rw [he] at hx;injection hx with hx
   exact hl _ _ hx
  exact (hg.block b oZ hm).trans ((Below.heap_alloc W o b hk).trans he)
 have hc:∀ {g:Nat} {t:TypeId} {cs:Array Value},t≠106->Blk W g t cs->Blk w1 g t cs:=λht hb=>ha _ _ hb (λ_ _ e=>by injection e with _ e _;exact ht e)
 have hh:=Below.heap_setCell w1 ⟨w.q,2,none⟩ v';have hp:∀b,v.ownBlock=some b->w.B<=b:=λb hb=>(ho.lt b hb).1
 have hj:Later W0 w1:=Below.grown (h.sv.later.alloc o) hg (by have:=Below.size h.sv.later;omega) (λb hb=>by have:=hp b hb;omega);have hd:SvM a c n W0 [] w1:=⟨hj,hc dZ h.sv.box,h.sv.memo.keep ha⟩
 have hf:=hc dZ hb;have hz:(w1.setCell ⟨w.q,2,none⟩ v').heap.size=w1.heap.size:=by simp
 have hr:=hg.size;have hn:w.g≠w.q:=Blk.ne h.saved hb dZ;refine ⟨⟨hd.far hf dZ dZ h.q0 v',⟨v',hf.aO 2 v',?_⟩,(hc dZ h.saved).far (p:=⟨w.q,2,none⟩) hn v',h.ls,by omega,h.q0,h.g0,h.qB,h.gB⟩,by omega,λb ob hi n1 n2=>?_⟩
 ·show (w1.setCell ⟨w.q,2,none⟩ v').ownsRow _ _ 2 v' (s.code++[(k,id)]).length (qa4 (s.code++[(k,id)]))
  rw [Ze,List.length_singleton];exact qaa hown1 λg hg=>hh g (by have:=(hown1.lt g hg).1;show g≠w.q;omega)
 ·rw [hh b (by simp at n1;exact n1.2.1)]
  exact ha b ob hi n2
theorem WrM.set_saved (h:WrM w a c n W0 s W) (i:Nat) (b:Bool):WrM w a c n W0 ⟨s.saved.set i b,s.code⟩ (W.setCell ⟨w.g,i,none⟩ (.bool b))/\WrK w a W (W.setCell ⟨w.g,i,none⟩ (.bool b)):=by
 obtain ⟨v,hb,ho⟩:=h.box;have i4:=h.gB;have hk:=h.saved.aO i (.bool b);rw [qaM] at hk;have ha:=Below.heap_setCell W ⟨w.g,i,none⟩ (.bool b);have hc:w.q≠w.g:=Blk.ne hb h.saved dZ
 exact ⟨⟨h.sv.far h.saved dZ dZ h.g0 _,⟨v,hb.far (p:=⟨w.g,i,none⟩) hc _,qaa ho λg hg=>ha g (by have:=(ho.lt g hg).1;show g≠w.g;omega)⟩,hk,by simpa using h.ls,by simpa using h.hB,h.q0,h.g0,h.qB,h.gB⟩,by simp,λb' o hd n1 _=>by
  rw [ha b' (by simp at n1;exact n1.2.2)];exact hd⟩
theorem WrM.saved_at (h:WrM w a c n W0 s W) {i:Nat} (hi:i<=n):W.cell? ⟨w.g,i,none⟩=some (.bool (s.saved.getD i false)):=qav h.saved (by rw [h.ls];omega)
end
def WrP (w:WrA) (a:SvA) (c:Ch.C) (n:Nat) (W0:Zp1) (s:Ch.S) (W:Zp1) (e:Ending) (w':Zp1):Prop:=e=.returned (.tuple #[])/\WrM w a c n W0 s w'/\WrK w a W w'
set_option maxRecDepth 100000 in
theorem qcO (w:WrA) (a:SvA) (c:Ch.C) (n:Nat) (W0:Zp1) (s:Ch.S) (W:Zp1) (hM:WrM w a c n W0 s W) (k id:Int) (hlen:s.code.length<=100000):
  Calls prog 171 #[.pointer (some ⟨w.q,0,none⟩),nQ iQ k,nQ iQ id] W (WrP w a c n W0 (s.add k id) W):=by
 obtain ⟨i0,hi,hh,hj,hf⟩:=info_parts qdd;obtain ⟨v,hb,ho⟩:=hM.box;have c2:W.cell? ⟨w.q,2,none⟩=some v:=hb.cell 2;have hB:=hM.hB;have hl:=hM.qB;have he:w.q<W.heap.size:=hb.lt
 have grown_blk:∀(o:Obj) (w1:Zp1),(W.alloc o).grownBy w1 v.ownBlock->Blk w1 w.q 213 (w.cells a n v):=λo w1 hg=>by
  show w1.heap[w.q]? = _
  rw [hg.block w.q soZ (λe=>by have:=(ho.lt _ e.symm).1;omega)];exact (Lib.alloc_old W _ w.q he).trans hb
 have hc:=zI (λ(o:Obj) (w1:Zp1) (v':Value) (hg:(W.alloc o).grownBy w1 v.ownBlock) (ha:w1.ownsRow w.B 106 2 v' (s.code.length+1) (qa4 s.code++[nQ iQ k,nQ iQ id]))=>hM.put (v':=v') (k:=k) (id:=id) hb ho hg (by rw [qaz];exact ha));have Hg:=zI grown_blk;clear grown_blk hM;go_in;go_wp2_with (at_builtin;refine wpList_append_own_at _ rfl _ _ 46 rfl w.B 106 i0 _ 2 16 underlying46 hi hh hj hf rfl dZ v s.code.length (qa4 s.code) rfl (qa8 ho _) ⟨W.heap.size,0,none⟩ 1 1 [nQ iQ k,nQ iQ id] rfl rfl ?c1 (by intro u hu;simp at hu;rcases hu with rfl|rfl<;>rfl) (by unfold maxLen;omega) oZ ?c2 ?_)
 first|(case c1=>exact World.news_of_block (cs:=#[nQ iQ k,nQ iQ id]) (t:=106) (fr:=(0,0)) (heap_alloc_new W _))|skip
 case c2=>simp;omega
 intro v' w1 ha hgrow _ hk;have hd:=Hg.out _ _ hgrow;have d0:w1.cell? ⟨w.q,2,none⟩=some v:=hd.cell 2;have f0:w1.frozen? ⟨w.q,2,none⟩=false:=hd.frozen 2;have hR:=hc.out _ _ _ hgrow ha;obtain ⟨A9,c9,rfl⟩:=qa6 ha;clear hgrow ha hk hd hc Hg ho hb c2;have HR:=zI hR;clear hR;go_wp2_with fail
 go_end0
 exact ⟨rfl,HR.out.1,HR.out.2⟩
set_option maxRecDepth 100000 in
theorem qdN (w:WrA) (a:SvA) (c:Ch.C) (n:Nat) (W0:Zp1) (s:Ch.S) (W:Zp1) (hM:WrM w a c n W0 s W) (id:Nat) (hid:id<=n) (hlen:s.code.length<=60000):
  Calls prog 170 #[.pointer (some ⟨w.q,0,none⟩),nQ iQ id] W (WrP w a c n W0 (Ch.comp id s) W):=by
 obtain ⟨v,hb,ho⟩:=hM.box;have c1:W.cell? ⟨w.q,1,none⟩=some (sQ (some ⟨w.g,0,none⟩) (n+1) (n+1)):=hb.cell 1;have x0:=hM.saved_at hid;have f0:=hM.saved.frozen id;have q1:(0:Int)<=(id:Int):=by omega
 have q2:(id:Int)<(n:Int)+1:=by omega
 have hd:=hM.set_saved id true;cases hv:s.saved.getD id false
 ·rw [hv] at x0
  have he:Ch.comp id s=(⟨s.saved.set id true,s.code⟩:Ch.S).add 1 (id:Int):=by unfold Ch.comp;rw [inZ (by rw [hv];simp)];rfl
  have hc:=qcO w a c n W0 ⟨s.saved.set id true,s.code⟩ _ hd.1 1 id (by show s.code.length<=_;omega);obtain ⟨hh,ha,He⟩:=zd3 hd hc he;clear hd hc he;clear hM hv hb ho;go_in;go_wp2_with fail;refine ha.out.mono ?_;rintro e w1 ⟨rfl,hg,hf⟩;have hj:=hh.out.2.trans hf;obtain ⟨hi,hl⟩:=zd2 hg hj;clear hg hj;clear ha hf;go_wp2_with fail
  go_end0
  exact ⟨rfl,by rw [He.out];exact hi.out,hl.out⟩
 ·rw [hv] at x0
  have he:Ch.comp id s=s.add 2 (id:Int):=by unfold Ch.comp;rw [ipZ hv]
  have hc:=qcO w a c n W0 s W hM 2 id oZ;obtain ⟨ha,He⟩:=zd2 hc he;clear hc he;clear hM hv hb ho hd;go_in;go_wp2_with fail;refine ha.out.mono ?_;rintro e w1 ⟨rfl,hg,hf⟩;obtain ⟨hi,hk⟩:=zd2 hg hf;clear hg hf;clear ha;go_wp2_with fail
  go_end0
  exact ⟨rfl,by rw [He.out];exact hi.out,hk.out⟩
namespace Ch
theorem S.eU (s:S) (k i:Int):(s.add k i).code.length=s.code.length+1:=by simp [S.add]
theorem kN (i:Nat) (s:S):(comp i s).code.length=s.code.length+1:=by
 unfold comp
 split
 ·exact S.eU _ _ _
 ·simp
theorem jW (l:Nat):∀(j:Nat) (s:S),(fwd l j s).code.length<=s.code.length+2*j
 | 0,_=>lrZ _
 | j+1,s=>by
  have ih:=jW l j s;unfold fwd
  split
  ·rw [kN];omega
  ·rw [S.eU,kN];omega
theorem one_len (c:C) (r:Nat) (s:S):(qI c r s).code.length<=s.code.length+5:=by
 unfold qI
 split
 ·rw [S.eU,S.eU,S.eU,S.eU,kN]
  omega
 ·rw [S.eU]
  omega
theorem mD (c:C) (f l m:Nat) (s:S):part c (f+1) l (l+1) m s=qI c (l+1) s:=by rw [part,ipZ rfl]
theorem kV (c:C) (f l r m:Nat) (s:S) (h:l+1<r):part c (f+1) l r m s=
  part c f l (best c l r m) m ((part c f (best c l r m) r ((m:Int)-W c (best c l r m)).toNat (fwd l (best c l r m-l) s)).add 3 (best c l r m:Nat)):=by rw [part,inZ oZ]
theorem mO {c:C} (h:Ok c):∀(f l r m:Nat) (s:S),l<r->r<=c.n->r-l<=f->m<len c l->(Rw c l r).getD m 0<inf->(part c f l r m s).code.length<=s.code.length+200*(2*(r-l)-1)
 | 0,l,r,_,_,h1,_,h3,_,_=>by omega
 | f+1,l,r,m,s,h1,h2,h3,h4,h5=>by
  by_cases e:r=l+1
  ·subst e
   rw [mD];have:=one_len c (l+1) s;omega
  ·obtain ⟨i,hi,hb,hw,hr,hl,hm⟩:=mM h h2 oZ h4 h5
   have ha:=h.w0 (l+1+i) oZ;rw [kV c f l r m s oZ,hb];have h6:=jW l (l+1+i-l) s;have h7:=mO h f (l+1+i) r ((m:Int)-W c (l+1+i)).toNat (fwd l (l+1+i-l) s) oZ h2 oZ hm hr;have h8:=mO h f l (l+1+i) m ((part c f (l+1+i) r ((m:Int)-W c (l+1+i)).toNat (fwd l (l+1+i-l) s)).add 3 ((l+1+i:Nat):Int)) oZ oZ oZ h4 hl;rw [S.eU] at h8;have hn:=h.n64;have e1:2*(r-l)-1=(2*(r-(l+1+i))-1)+(2*(l+1+i-l)-1)+1:=by omega
   rw [e1];omega
def S.ids (s:S) (n:Nat):Prop:=∀p∈s.code,0<=p.2/\p.2<=(n:Int)
theorem S.iD {s:S} {n:Nat} (h:s.ids n) (k i:Int) (hi:0<=i/\i<=n):(s.add k i).ids n:=λp hp=>by
 rcases List.mem_append.1 hp with hp|hp
 ·exact h p hp
 ·obtain rfl:=List.mem_singleton.1 hp
  exact hi
theorem S.pV {s:S} {n:Nat} (h:s.ids n) (i:Nat) (hi:i<=n):(comp i s).ids n:=by
 unfold comp
 split
 ·exact S.iD h _ _ oZ
 ·exact S.iD (s:=⟨s.saved.set i true,s.code⟩) h _ _ oZ
theorem S.uJ {n:Nat} (l:Nat):∀(j:Nat) {s:S},s.ids n->l+j<=n->(fwd l j s).ids n
 | 0,_,h,_=>h
 | j+1,s,h,hj=>by
  have ih:=S.uJ l j h oZ;unfold fwd
  split
  ·exact S.pV ih _ oZ
  ·exact S.iD (S.pV ih _ oZ) _ _ oZ
theorem S.ids_one {c:C} {s:S} (h:s.ids c.n) {r:Nat} (hr:r<=c.n):(qI c r s).ids c.n:=by
 unfold qI
 split
 ·exact S.iD (S.iD (S.iD (S.iD (S.pV h r hr) _ _ oZ) _ _ oZ) _ _ oZ) _ _ oZ
 ·exact S.iD h _ _ oZ
theorem qdO {c:C} (h:Ok c):∀(f l r m:Nat) (s:S),l<r->r<=c.n->r-l<=f->m<len c l->(Rw c l r).getD m 0<inf->s.ids c.n->(part c f l r m s).ids c.n
 | 0,l,r,_,_,h1,_,h3,_,_,_=>by omega
 | f+1,l,r,m,s,h1,h2,h3,h4,h5,hs=>by
  by_cases e:r=l+1
  ·subst e
   rw [mD];exact S.ids_one hs h2
  ·obtain ⟨i,hi,hb,hw,hr,hl,hm⟩:=mM h h2 oZ h4 h5
   rw [kV c f l r m s oZ,hb];exact qdO h f l (l+1+i) m _ oZ oZ oZ h4 hl (S.iD (qdO h f (l+1+i) r _ _ oZ h2 oZ hm hr (S.uJ l _ hs oZ)) _ _ oZ)
def right (ws cs:List Int):Bool:=decide (1<=cs.length/\cs.length<=64)&&(ws.all λz=>decide (1<=z/\z<=65536))&&(cs.all λz=>decide (0<=z/\z<=1099511627776))
def most (ws:List Int):Nat->Int
 | 0=>0
 | j+1=>most ws j+2*ws.getD (j+1) 0
def of (ws cs:List Int) (cap:Int):C:=⟨ws,cs,min cap (most ws cs.length)⟩
theorem rY {ws:List Int} (h:∀z∈ws,1<=z/\z<=65536):∀j,0<=most ws j/\most ws j<=(j:Int)*131072
 | 0=>by simp [most]
 | j+1=>by
  have ih:=rY h j
  have h1:0<=ws.getD (j+1) 0/\ws.getD (j+1) 0<=65536:=by
   rw [gdZ]
   by_cases hj:j+1<ws.length
   ·rw [geZ hj]
    have:=h _ (gmZ hj);exact ⟨by show 0<=ws[j+1];omega,this.2⟩
   ·rw [Zi oZ]
    simp
  unfold most;omega
theorem uP {ws cs:List Int} {cap:Int} (hl:ws.length=cs.length+1) (h:right ws cs=true) (hc:0<=cap/\cap<=4096):Ok (of ws cs cap):=by
 unfold right at h;simp only [Zz,decide_eq_true_eq,Zf] at h;obtain ⟨⟨h1,h2⟩,h3⟩:=h;have hm:=rY h2 cs.length;refine ⟨h1.1,h1.2,hl,λk hk=>?_,λk=>?_,?_,?_⟩
 ·show 1<=ws.getD k 0/\ws.getD k 0<=65536
  have hk:k<=cs.length:=hk;rw [gdZ,geZ oZ];exact h2 _ (gmZ oZ)
 ·show 0<=cs.getD k 0/\cs.getD k 0<=1099511627776
  rw [gdZ]
  by_cases hk:k<cs.length
  ·rw [geZ hk]
   exact h3 _ (gmZ hk)
  ·rw [Zi oZ]
   simp
 ·show 0<=min cap (most ws cs.length)
  omega
 ·show min cap (most ws cs.length)<=4096
  omega
def plan (ws cs:List Int) (cap:Int):List (Int × Int) × Int:=
 if right ws cs=false then ([],10) else if cap<0∨4096<cap then ([],11) else
 if inf<=(Rw (of ws cs cap) 0 cs.length).getD (of ws cs cap).cap.toNat 0 then ([],26) else
 ((part (of ws cs cap) cs.length 0 cs.length (of ws cs cap).cap.toNat ⟨Zc (cs.length+1) false,[]⟩).code,0)
theorem plan_ids {ws cs:List Int} {cap:Int} (hl:ws.length=cs.length+1):∀p∈(plan ws cs cap).1,0<=p.2/\p.2<=(cs.length:Int):=by
 unfold plan
 split
 ·intro p hp;cases hp
 rename_i h1
 split
 ·intro p hp;cases hp
 rename_i h2
 split
 ·intro p hp;cases hp
 rename_i h3;have ha:=uP (cap:=cap) hl (by simpa using h1) oZ
 have hb:len (of ws cs cap) 0=(of ws cs cap).cap.toNat+1:=by
  have:=ha.cap0;unfold len kept;rw [ipZ rfl];omega
 exact qdO ha cs.length 0 cs.length _ _ ha.n1 (lrZ _) oZ oZ oZ (λp hp=>by cases hp)
theorem pP {ws cs:List Int} {cap:Int} (hl:ws.length=cs.length+1):(plan ws cs cap).1.length<=60000:=by
 unfold plan
 split
 ·simp
 rename_i h1
 split
 ·simp
 rename_i h2
 split
 ·simp
 rename_i h3;have ha:=uP (cap:=cap) hl (by simpa using h1) oZ
 have hb:len (of ws cs cap) 0=(of ws cs cap).cap.toNat+1:=by
  have:=ha.cap0;unfold len kept;rw [ipZ rfl];omega
 have h4:=mO ha cs.length 0 cs.length (of ws cs cap).cap.toNat ⟨Zc (cs.length+1) false,[]⟩ ha.n1 (lrZ _) oZ oZ oZ;have hn:cs.length<=64:=ha.n64;have h5:(⟨Zc (cs.length+1) false,[]⟩:S).code.length=0:=rfl;rw [h5] at h4
 show (part _ _ _ _ _ _).code.length<=_
 omega
end Ch
set_option maxRecDepth 100000 in
theorem qgE (w:WrA) (a:SvA) (c:Ch.C) (n:Nat) (W0:Zp1) (hS:a.Still c n W0):∀(f l r m:Nat) (s:Ch.S) (W:Zp1),l<r->r<=n->r-l<=f->m<Ch.len c l->(Ch.Rw c l r).getD m 0<Ch.inf->WrM w a c n W0 s W->s.code.length+200*(2*(r-l)-1)<=60000->
  Calls prog 150 #[.pointer (some ⟨w.q,0,none⟩),.agg #[nQ iQ l,nQ iQ r],nQ iQ m] W (WrP w a c n W0 (Ch.part c f l r m s) W):=by
 intro f
 induction f with
 | zero=>intro l r m s W h1 _ h3;omega
 | succ f ih=>
 intro l r m s W Gm hr hf hm hP hM hJ;have hC:=hS.ok;have hH:=hS.cn;have HX:=hC.wl;have HR:=hC.n64;rw [hH] at HX HR;have HE:Later W (W.alloc (.cells #[nQ iQ l,nQ iQ r] 145)):=(Later.refl W).alloc _;have hs:=Blk.new W 145 #[nQ iQ l,nQ iQ r];have ho:=hM.to_later HE;have hZ:=WrK.of_later (w:=w) (a:=a) HE
 have HT:W.heap.size∉[a.bm,w.q,w.g]:=by
  obtain ⟨v,hb,-⟩:=ho.box;simp;exact ⟨qa7 ho.sv.memo hs,Blk.ne hs hb dZ,Blk.ne hs ho.saved dZ⟩
 have h4:=λ(X Y:Zp1) (hK:WrK w a X Y) (hb:Blk X W.heap.size 145 #[nQ iQ l,nQ iQ r])=>hK.blk hb dZ HT
 have hp:=qcO w a c n W0;have hh:=qdN w a c n W0;have w1:iQ.wrap ((l:Int)+1)=(l:Int)+1:=Zc1 _ oZ;obtain ⟨vb,hA,-⟩:=ho.box;have b0:(W.alloc (.cells #[nQ iQ l,nQ iQ r] 145)).cell? ⟨w.q,0,none⟩=some (.pointer (some ⟨a.p,0,none⟩)):=hA.cell 0;have s2:=ho.sv.cells5.2.2.1;have u0:(W.alloc (.cells #[nQ iQ l,nQ iQ r] 145)).cell? ⟨W.heap.size,0,none⟩=some (nQ iQ l):=hs.cell 0;have u1:(W.alloc (.cells #[nQ iQ l,nQ iQ r] 145)).cell? ⟨W.heap.size,1,none⟩=some (nQ iQ r):=hs.cell 1
 by_cases h1:r=l+1
 ·have gJ:Ch.part c (f+1) l r m s=Ch.qI c r s:=by rw [h1,Ch.mD]
  rw [gJ];have e1:((r:Int)==(l:Int)+1)=true:=by simp;omega
  have hn:Ch.qI c r s=(if r=n then (((Ch.comp r s).add 4 0).add 3 r).add 5 0 else s).add 6 r:=by unfold Ch.qI;rw [hH]
  clear ih gJ hP
  by_cases h2:r=n
  ·rw [ipZ h2] at hn
   have e2:((r:Int)==(n:Int))=true:=by simp;omega
   have Gl:r<=n:=hr;obtain ⟨hc,hz,hu,hO,hY,hW,hR,H2,H1⟩:=zd9 hp hh h4 hs ho hZ hn h2 h1;have g9:=zI hH;clear hp hh h4 hs ho hZ hn h2 h1 hH;clear hM hA;go_in;go_wp2_with fail;generalize W.alloc (.cells #[nQ iQ l,nQ iQ r] 145)=W1 at *
   go_quiet (fail)
   have h6:=λN=>hY.out.to_later (Later.drewN (Later.refl W1) N)
   have Hg:=λN=>hW.out.trans (WrK.of_later (Later.drewN (Later.refl W1) N))
   have H4:=λN=>hz.out s _ (h6 N) r oZ oZ
   obtain ⟨HW,Gg,Hy⟩:=zd3 H4 h6 Hg;clear H4 h6 Hg;go_wp2_with fail;refine (HW.out _).mono ?_;rintro e W2 ⟨rfl,hT,hV⟩;have HF:=hu.out _ _ hV (hO.out.drewN _);have Hu:=(Hy.out _).trans hV;have v1:W2.cell? ⟨W.heap.size,1,none⟩=some (nQ iQ r):=HF.cell 1;have gi:=Ch.kN r s;have gU:=hc.out _ _ hT 4 0 oZ;obtain ⟨gy,gE⟩:=zd2 gU HF;have Hh:=zI Hu;clear gU HF Hu;clear HW hT hV b0 s2 u0 u1 Gg Hy;go_wp2_with fail;refine gy.out.mono ?_;rintro e W3 ⟨rfl,gO,hB⟩;have HH:=hu.out _ _ hB gE.out;have Hn:=Hh.out.trans hB;have v2:W3.cell? ⟨W.heap.size,1,none⟩=some (nQ iQ r):=HH.cell 1;have g1:=Ch.S.eU (Ch.comp r s) 4 0;have gx:=hc.out _ _ gO 3 r oZ;obtain ⟨gT,gg⟩:=zd2 gx HH;have Ht:=zI Hn;clear gx HH Hn;clear gy gO hB Hh gE v1;go_wp2_with fail;refine gT.out.mono ?_;rintro e W4 ⟨rfl,Hl,hN⟩;have HK:=hu.out _ _ hN gg.out;have Hi:=Ht.out.trans hN;have v3:W4.cell? ⟨W.heap.size,1,none⟩=some (nQ iQ r):=HK.cell 1;have g3:=Ch.S.eU ((Ch.comp r s).add 4 0) 3 r;have gc:=hc.out _ _ Hl 5 0 oZ;obtain ⟨gG,gH⟩:=zd2 gc HK;have Hj:=zI Hi;clear gc HK Hi;clear gT Hl hN Ht gg v2;go_wp2_with fail;refine gG.out.mono ?_;rintro e W5 ⟨rfl,gY,h7⟩;have gv:=hu.out _ _ h7 gH.out;have Hf:=Hj.out.trans h7;have v4:W5.cell? ⟨W.heap.size,1,none⟩=some (nQ iQ r):=gv.cell 1;have g2:=Ch.S.eU (((Ch.comp r s).add 4 0).add 3 r) 5 0;have Hs:=hc.out _ _ gY 6 r oZ;have Ho:=zI Hs;have He:=zI Hf;clear Hs Hf;clear gG gY h7 Hj gH v3 gv;go_wp2_with fail;refine Ho.out.mono ?_;rintro e W6 ⟨rfl,Hd,hF⟩;have ht:=He.out.trans hF;have HL:=zI Hd;have hU:=zI ht;clear Hd ht;clear Ho hF He;go_wp2_with fail
   go_end0
   exact ⟨rfl,by rw [hR.out];exact HL.out,hU.out⟩
  ·rw [inZ h2] at hn
   have e2:((r:Int)==(n:Int))=false:=by simp;omega
   obtain ⟨hc,hz,hu,hO,hY,hW,hR,H1,g9⟩:=zd9 hp hh h4 hs ho hZ hn h1 hH;clear hp hh h4 hs ho hZ hn h1 hH;clear hM hA h2;go_in;go_wp2_with fail;generalize W.alloc (.cells #[nQ iQ l,nQ iQ r] 145)=W1 at *
   go_quiet (fail)
   have h6:=λN=>hY.out.to_later (Later.drewN (Later.refl W1) N)
   have Hg:=λN=>hW.out.trans (WrK.of_later (Later.drewN (Later.refl W1) N))
   have Hs:=λN=>hc.out _ _ (h6 N) 6 r oZ
   obtain ⟨Ho,Hy⟩:=zd2 Hs Hg;clear Hs Hg;clear h6;go_wp2_with fail;refine (Ho.out _).mono ?_;rintro e W6 ⟨rfl,Hd,hF⟩;have ht:=(Hy.out _).trans hF;have HL:=zI Hd;have hU:=zI ht;clear Hd ht;clear Ho hF;go_wp2_with fail
   go_end0
   exact ⟨rfl,by rw [hR.out];exact HL.out,hU.out⟩
 ·have g0:=Ch.sF hC (l:=l) oZ
  obtain ⟨i,hi,hb,hw,hQ,HB,hL⟩:=Ch.mM hC oZ oZ hm hP;have h5:=Ch.kV c f l r m s oZ;have hg:=zI λ(Y:Zp1) (h:Later W Y)=>qgB a c n W0 hS [] l r m Y (hM.sv.to_later h) (λx hx=>by cases hx) oZ hr hm
  rw [hb] at h5 hg;have HI:=hC.w0 (l+1+i) oZ;have hD:=Ch.jW l (l+1+i-l) s;have ha:=Ch.mO hC f (l+1+i) r ((m:Int)-Ch.W c (l+1+i)).toNat (Ch.fwd l (l+1+i-l) s) oZ oZ oZ hL hQ;have Hm:2*(r-l)-1=(2*(r-(l+1+i))-1)+(2*(l+1+i-l)-1)+1:=by omega
  rw [Hm] at hJ;obtain ⟨k,hk⟩:∃k,l+1+i=k:=⟨_,rfl⟩
  rw [hk] at h5 hw hQ HB hL HI hD ha hJ hg;have Gi:l<k:=by omega
  have g7:k<r:=by omega
  obtain ⟨bw,offw,gb,yw⟩:=Ch.at_ hS.ws (k:=k) oZ;have ge:c.words.getD k 0=Ch.W c k:=rfl;rw [ge] at yw;obtain ⟨v,hv⟩:=ezZ (show 0<=Ch.W c k by omega);rw [hv] at hw HI yw h5 hQ hL ha;obtain ⟨q,hq⟩:∃q:Nat,m=q+v:=⟨m-v,by omega⟩
  have gM:((m:Int)-(v:Int)).toNat=q:=by omega
  rw [gM] at h5 hQ hL ha;have e1:((r:Int)==(l:Int)+1)=false:=by simp;omega
  have e3:iQ.wrap ((m:Int)-(v:Int))=(q:Int):=by rw [Zc1 _ oZ];omega
  have gX:=λ(s':Ch.S) (Y:Zp1) (h:WrM w a c n W0 s' Y) (hl:s'.code.length+200*(2*(r-k)-1)<=60000)=>ih k r q s' Y g7 hr oZ hL hQ h hl
  have H7:=λ(s':Ch.S) (Y:Zp1) (h:WrM w a c n W0 s' Y) (hl:s'.code.length+200*(2*(k-l)-1)<=60000)=>ih l k m s' Y Gi oZ oZ hm HB h hl
  rw [h5];have gf:∀j,(Ch.fwd l j s).code.length<=s.code.length+2*j:=λj=>Ch.jW l j s
  have gd:∀j,Ch.fwd l (j+1) s=if j=0 then Ch.comp (l+1+j) (Ch.fwd l j s) else (Ch.comp (l+1+j) (Ch.fwd l j s)).add 3 ((l+j:Nat):Int):=λ_=>rfl
  have Gh:l+(k-l)=k:=by omega
  have GoX:(0:Int)<=(q:Int):=by omega
  have g8:(0:Int)<=(k:Int):=by omega
  have Gt:(k:Int)<(n:Int)+1:=by omega
  have gq:w.q∉[a.bm]:=by simp only [List.mem_singleton];exact qa7 ho.sv.memo hA
  have gF:W.heap.size∉[a.bm]:=by simp only [List.mem_singleton];exact qa7 ho.sv.memo hs
  have H9:Hid (∀j,j=k-l->(Ch.part c f k r q (Ch.fwd l j s)).code.length<=(Ch.fwd l j s).code.length+200*(2*(r-k)-1)):=zI λj hj=>by
   subst hj;rw [←hk];rw [←hk] at ha;exact ha
  have hE:=hJ;obtain ⟨hc,hz,hu,hO,hY,hW,Gd,g6,H5⟩:=zd9 hp hh h4 hs ho hZ gX H7 gd;obtain ⟨gC,Hq,Hk,Gr,Gv,gA,Hv,Gb,H6⟩:=zd9 gf hq hk hQ HB gb hv HE hA;obtain ⟨Gf,HJ,Gu,Gn,HS,hd,Gk⟩:=zd7 gq gF HT hC hS hE hL;clear hp hh h4 hs ho hZ gX H7 gd gf hq hk hQ HB gb hv HE hA gq gF HT hC hS hE hL;clear hM hP hm hb hi hw HI ge hD ha Hm HX ih h5 s2 hH gM Gh;go_in;go_wp2_with fail;generalize W.alloc (.cells #[nQ iQ l,nQ iQ r] 145)=W1 at *;have KF:=zI (show ∀Xw,Later W1 Xw->Xw.cell? ⟨w.q,0,none⟩=some (.pointer (some ⟨a.p,0,none⟩))/\Xw.cell? ⟨W.heap.size,0,none⟩=some (nQ iQ l)/\Xw.cell? ⟨W.heap.size,1,none⟩=some (nQ iQ r) from λXw h=>⟨h.cell b0,h.cell u0,h.cell u1⟩);refine Zm1 ?_;refine Zl1 (S:=λXw=>Xw.cell? ⟨w.q,0,none⟩=some (.pointer (some ⟨a.p,0,none⟩))/\Xw.cell? ⟨W.heap.size,0,none⟩=some (nQ iQ l)/\Xw.cell? ⟨W.heap.size,1,none⟩=some (nQ iQ r)) krZ (KF.out _ Lau) (λhHeld=>?_);refine tk 0 ?_;refine tk 1 ?_;refine tk 2 ?_;refine tk 3 ?_;refine tk 4 ?_;refine tk 5 ?_;refine rd 6 λK hK=>?_
  simp only [ga,gs,gz]
  go_simp
  go_at_call 172;(with_reducible refine (hg.out _ (Gb.out.trans (Lau:Later W1 _))).mono ?_);rintro e wb ⟨rfl,gS,hy⟩
  replace b0:=(hy.blk H6.out Gf.out).cell 0;replace u0:=(hy.blk hO.out HJ.out).cell 0;replace u1:=(hy.blk hO.out HJ.out).cell 1;obtain ⟨gh,H8⟩:=zd2 gS hy;clear gS hy
  try go_wp2_with fail
  refine hK.out _ _ (by first|exact ⟨b0,u0,u1⟩|exact KF.out _ Lau) (λhHeld=>?_);clear hK K
  try simp only [ga,gs,gz,Act.put,sa,sz,ss]
  refine tk 7 ?_;clear KF;refine Zn1 krZ ?_ _;refine Zd1 ?_;have hy:KpL [a.bm] W1 wb:=H8.out;have gW:=hY.out.sU hy gh.out;have gN:=hW.out.trans (WrK.sU (w:=w) hy);have gR:=hy.blk hO.out HJ.out;obtain ⟨go,H3,gr⟩:=zd3 gW gN gR;clear gW gN gR;clear hy H8 gh hY hW hO H6 hHeld b0 u1 hg;go_wp2_with fail;clear u0
  go_loopw [7] (λid wr=>∃j t:Nat,t=l+j/\t<=k/\id=nQ iQ ((t:Int)+1)/\WrM w a c n W0 (Ch.fwd l j s) wr/\WrK w a W wr/\Blk wr W.heap.size 145 #[nQ iQ l,nQ iQ r]) (λid _=>k+1-(intOf id).toNat)
  case atStart=>exact ⟨0,l,rfl,by omega,rfl,go.out,H3.out,gr.out⟩
  case round=>
   obtain ⟨j,t,HN,Gq,rfl,hG,Hx,h0⟩:=hrel;clear go H3 gr;have HD:=gC.out j
   by_cases Gp:t<k
   ·have HO:=hz.out _ _ hG (t+1) oZ (by have:=hd.out;omega)
    rw [Int.natCast_succ] at HO;have HQ:=H5.out j;rw [show l+1+j=t+1 by omega,show l+j=t by omega] at HQ;have k1:(t:Int)+1<=(k:Int):=by omega
    have w2:iQ.wrap (t:Int)=(t:Int):=Zc1 _ oZ;have w3:iQ.wrap ((t:Int)+1+1)=(t:Int)+1+1:=Zc1 _ oZ;obtain ⟨gB,gj,Hp,Hc,Hr,Gc⟩:=zd6 HO HQ Hx h0 HN HD;clear HO HQ Hx h0 HN HD;clear hG;go_wp2_with fail;refine gB.out.mono ?_;rintro e w2 ⟨rfl,hT,hV⟩;have Hb:=hu.out _ _ hV Hc.out;have hB:=Hp.out.trans hV;have v0:w2.cell? ⟨W.heap.size,0,none⟩=some (nQ iQ l):=Hb.cell 0;clear hV gB Hp Hc
    by_cases Hz:j=0
    ·have e4:((t:Int) != (l:Int))=false:=by have:=Hr.out;simp;omega
     have he:=gj.out;rw [ipZ Hz] at he;obtain ⟨Ge,HA,HC,hI⟩:=zd4 hT hB Hb he;clear hT hB Hb he;clear Hz;go_wp2_with fail;go_roundw
     case rel=>exact ⟨j+1,t+1,by have:=Hr.out;omega,by omega,by go_num,by rw [hI.out];exact Ge.out,HA.out,HC.out⟩
     case measure=>simp [intOf];omega
    ·have e4:((t:Int) != (l:Int))=true:=by have:=Hr.out;simp;omega
     have he:=gj.out;rw [inZ Hz] at he;have gi:=Ch.kN (t+1) (Ch.fwd l j s);have h9:=hc.out _ _ hT 3 t (by have:=hd.out;have:=Gc.out;have:=Hr.out;omega);obtain ⟨h8,HA,HC,hI⟩:=zd4 h9 hB Hb he;clear h9 hB Hb he;clear Hz hT gi;go_wp2_with fail;refine h8.out.mono ?_;rintro e w4 ⟨rfl,Hl,hN⟩;have HZ:=hu.out _ _ hN HC.out;have h7:=HA.out.trans hN;obtain ⟨g4,Ga,g5⟩:=zd3 Hl h7 HZ;clear Hl h7 HZ;clear hN h8 HA HC v0;go_wp2_with fail;go_roundw
     case rel=>exact ⟨j+1,t+1,by have:=Hr.out;omega,by omega,by go_num,by rw [hI.out];exact g4.out,Ga.out,g5.out⟩
     case measure=>simp [intOf];omega
   ·have HV:j=k-l:=by omega
    have Gs:¬(t:Int)+1<=(k:Int):=by omega
    have H0:=H9.out j HV;rw [HV] at hG H0 HD;have u0:wr.cell? ⟨W.heap.size,0,none⟩=some (nQ iQ l):=h0.cell 0;have u1:wr.cell? ⟨W.heap.size,1,none⟩=some (nQ iQ r):=h0.cell 1;obtain ⟨vb,hA,-⟩:=hG.box;have b0:wr.cell? ⟨w.q,0,none⟩=some (.pointer (some ⟨a.p,0,none⟩)):=hA.cell 0;have p0:=hG.sv.cells5.1;rw [gA.out] at p0;have y1:=hG.sv.later.cell yw;have gI:=λ(Y:Zp1) (h:Later wr Y)=>Gd.out _ Y (hG.to_later h) (by have:=hd.out;omega)
    have gp:(Ch.part c f k r q (Ch.fwd l (k-l) s)).code.length<=60000-200*(2*(k-l)-1)-1/\200*(2*(k-l)-1)+1<=60000:=by have:=hd.out;omega
    generalize Ch.fwd l (k-l) s=s1 at *;generalize hs2:Ch.part c f k r q s1=s2 at *;obtain ⟨gm,Hp,Hc,gk,Gj⟩:=zd5 gI Hx h0 gp hs2;clear gI Hx h0 gp hs2;clear hG hA HN HV H0 HD H5 gC H9 hd;go_wp2_with fail;have KF:=zI (show ∀Xw,Later wr Xw->Xw.cell? ⟨w.q,0,none⟩=some (.pointer (some ⟨a.p,0,none⟩))/\Xw.cell? ⟨a.p,0,none⟩=some (sQ (some ⟨bw,offw,none⟩) (n+1) a.cw)/\Xw.cell? ⟨bw,offw+k,none⟩=some (nQ iQ v)/\Xw.cell? ⟨W.heap.size,1,none⟩=some (nQ iQ r) from λXw h=>⟨h.cell b0,h.cell p0,h.cell y1,h.cell u1⟩);refine Zm1 ?_;refine Zl1 (S:=λXw=>Xw.cell? ⟨w.q,0,none⟩=some (.pointer (some ⟨a.p,0,none⟩))/\Xw.cell? ⟨a.p,0,none⟩=some (sQ (some ⟨bw,offw,none⟩) (n+1) a.cw)/\Xw.cell? ⟨bw,offw+k,none⟩=some (nQ iQ v)/\Xw.cell? ⟨W.heap.size,1,none⟩=some (nQ iQ r)) krZ (KF.out _ Lau) (λhHeld=>?_);refine tk 0 ?_;refine tk 1 ?_;refine tk 2 ?_;refine tk 3 ?_;refine tk 4 ?_;refine tk 5 ?_;refine tk 6 ?_;refine tk 7 ?_;refine tk 8 ?_;refine tk 9 ?_;refine tk 10 ?_;refine tk 11 ?_;refine tk 12 ?_;refine tk 13 ?_;refine tk 14 ?_;refine tk 15 ?_;refine tk 16 ?_;refine tk 17 ?_;refine rd 18 λK hK=>?_
    simp only [ga,gs,gz]
    go_simp
    go_at_call 150;(with_reducible refine (gm.out _ (Lau:Later wr _)).mono ?_);rintro e wp ⟨rfl,Hw,hX⟩
    obtain ⟨vp,gV,-⟩:=Hw.box;replace b0:=gV.cell 0;replace p0:=Hw.sv.cells5.1;rw [gA.out] at p0;replace y1:=Hw.sv.later.cell yw;have HG:=hu.out _ _ hX (Hc.out.drew);replace u1:=HG.cell 1;obtain ⟨HY,gw,HU⟩:=zd3 Hw hX HG;clear Hw hX HG gV
    try go_wp2_with fail
    refine hK.out _ _ (by first|exact ⟨b0,p0,y1,u1⟩|exact KF.out _ Lau) (λhHeld=>?_);clear hK K
    try simp only [ga,gs,gz,Act.put,sa,sz,ss]
    clear KF;refine Zn1 krZ ?_ _;refine Zd1 ?_;have hX:WrK w a wr wp:=gw.out;have hF:=Hp.out.trans hX;have h9:=hc.out _ _ HY.out 3 k (by have:=gk.out.1;omega);have v0:wp.cell? ⟨W.heap.size,0,none⟩=some (nQ iQ l):=HU.out.cell 0;obtain ⟨h8,gD⟩:=zd2 h9 hF;clear h9 hF;clear hX gw Hp Hc HY b0 p0 y1 u0 u1 hHeld gm;go_wp2_with fail;refine h8.out.mono ?_;rintro e w7 ⟨rfl,gt,HM⟩;have gZ:=hu.out _ _ HM HU.out;have gu:=gD.out.trans HM;have v7:w7.cell? ⟨W.heap.size,0,none⟩=some (nQ iQ l):=gZ.cell 0;have gQ:=g6.out _ _ gt (by rw [Ch.S.eU];have:=gk.out;omega);obtain ⟨gl,gP⟩:=zd2 gQ gu;clear gQ gu;clear gt HM h8 v0 gD gZ HU;go_wp2_with fail;refine gl.out.mono ?_;rintro e w9 ⟨rfl,gn,gK⟩;have Ha:=gP.out.trans gK;obtain ⟨gL,HP⟩:=zd2 gn Ha;clear gn Ha;clear gl gK gP v7;go_wp2_with fail
    go_end0
    exact ⟨rfl,by first|exact gL.out|(rw [Gj.out];exact gL.out),HP.out⟩
theorem Ch.get_mem {l:List Int} {j:Nat} (h:j<l.length):l.getD j 0∈l:=by
 rw [gdZ,geZ h];exact gmZ h
theorem Ch.qJ {ws cs:List Int} (h:¬(1<=cs.length/\cs.length<=64)):Ch.right ws cs=false:=by
 unfold Ch.right;rw [decide_eq_false h]
 rfl
theorem Ch.qX {ws cs:List Int} {j:Nat} (hj:j<ws.length) (h:¬(1<=ws.getD j 0/\ws.getD j 0<=65536)):Ch.right ws cs=false:=by
 cases hr:Ch.right ws cs with
 | false=>rfl
 | true=>
  unfold Ch.right at hr;simp only [Zz,decide_eq_true_eq,Zf] at hr;exact absurd (hr.1.2 _ (Ch.get_mem hj)) h
theorem Ch.right_no3 {ws cs:List Int} {j:Nat} (hj:j<cs.length) (h:¬(0<=cs.getD j 0/\cs.getD j 0<=1099511627776)):Ch.right ws cs=false:=by
 cases hr:Ch.right ws cs with
 | false=>rfl
 | true=>
  unfold Ch.right at hr;simp only [Zz,decide_eq_true_eq,Zf] at hr;exact absurd (hr.2 _ (Ch.get_mem hj)) h
theorem Ch.right_yes {ws cs:List Int} (h1:1<=cs.length/\cs.length<=64) (h2:∀j,j<ws.length->1<=ws.getD j 0/\ws.getD j 0<=65536) (h3:∀j,j<cs.length->0<=cs.getD j 0/\cs.getD j 0<=1099511627776):Ch.right ws cs=true:=by
 unfold Ch.right;simp only [Zz,decide_eq_true_eq,Zf];refine ⟨⟨h1,λz hz=>?_⟩,λz hz=>?_⟩
 ·obtain ⟨j,hj,rfl⟩:=List.mem_iff_getElem.1 hz
  have:=h2 j hj
  rwa [gdZ,geZ hj] at this
 ·obtain ⟨j,hj,rfl⟩:=List.mem_iff_getElem.1 hz
  have:=h3 j hj
  rwa [gdZ,geZ hj] at this
set_option maxRecDepth 100000 in
theorem qfp (Aw Ac:Option Addr) (cw cc n:Nat) (ws cs:List Int) (W:Zp1) (hcl:cs.length=n) (hwl:ws.length=n+1) (hn:n<=1000) (hI:Ints iQ W Aw ws) (hJ:Ints iQ W Ac cs):
  Calls prog 75 #[.agg #[sQ Aw (n+1) cw,sQ Ac n cc]] W λe w'=>e=.returned (.bool (Ch.right ws cs))/\Later W w':=by
 have hq:Later W (W.alloc (.cells #[sQ Aw (n+1) cw,sQ Ac n cc] 95)):=(Later.refl W).alloc _;have ht:=Blk.new W 95 #[sQ Aw (n+1) cw,sQ Ac n cc];have u0:(W.alloc (.cells #[sQ Aw (n+1) cw,sQ Ac n cc] 95)).cell? ⟨W.heap.size,0,none⟩=some (sQ Aw (n+1) cw):=ht.cell 0;have u1:(W.alloc (.cells #[sQ Aw (n+1) cw,sQ Ac n cc] 95)).cell? ⟨W.heap.size,1,none⟩=some (sQ Ac n cc):=ht.cell 1;have hu:=hI.below hq (lrZ _);have hv:=hJ.below hq (lrZ _);have w1:iQ.wrap ((n:Int)+1)=(n:Int)+1:=Zc1 _ oZ;obtain ⟨hi,hA,hx,hg,hp⟩:=zd5 hq hu hv hcl hwl;clear hq hu hv hcl hwl;clear hI hJ ht
 by_cases h1:n<1
 ·have hE:Ch.right ws cs=false:=Ch.qJ (by have:=hg.out;omega)
  have k1:(n:Int)<1:=by omega
  have HE:=zI hE;clear hE;clear w1;go_in;go_wp2_with fail;go_ret;exact ⟨by rw [HE.out];rfl,hi.out⟩
 have k1:¬(n:Int)<1:=by omega
 by_cases h2:64<n
 ·have hE:Ch.right ws cs=false:=Ch.qJ (by have:=hg.out;omega)
  have k2:(64:Int)<(n:Int):=by omega
  have HE:=zI hE;clear hE;clear w1;go_in;go_wp2_with fail;go_ret;exact ⟨by rw [HE.out];rfl,hi.out⟩
 have k2:¬(64:Int)<(n:Int):=by omega
 go_in;go_wp2_with fail;generalize W.alloc (.cells #[sQ Aw (n+1) cw,sQ Ac n cc] 95)=W1 at *;clear k1 k2 w1
 go_loopw [5,28] (λ_ i wr=>∃k:Nat,k<=n+1/\i=nQ iQ (k:Int)/\(∀j,j<k->1<=ws.getD j 0/\ws.getD j 0<=65536)/\W1=wr) (λ_ i _=>n+1-(intOf i).toNat)
 case atStart=>exact ⟨0,Zt _,rfl,λj hj=>by omega,rfl⟩
 case round=>
  obtain ⟨k,hk,rfl,hd,rfl⟩:=hrel
  by_cases hy:k<n+1
  ·obtain ⟨b,off,rfl,hc⟩:=Ch.at_ hA.out (k:=k) (by have:=hp.out;omega)
   have q1:(k:Int)<(n:Int)+1:=by omega
   have q2:(0:Int)<=(k:Int):=by omega
   have q3:(k:Int)+1<=(n:Int)+1:=by omega
   obtain ⟨z,hz⟩:∃z,ws.getD k 0=z:=⟨_,rfl⟩
   rw [hz] at hc
   by_cases h3:z<1
   ·have hE:Ch.right ws cs=false:=Ch.qX (j:=k) (by have:=hp.out;omega) oZ
    obtain ⟨HE,Hz⟩:=zd2 hE hz;clear hE hz;clear hd;go_wp2_with fail;go_ret;exact ⟨by rw [HE.out];rfl,hi.out⟩
   by_cases h4:65536<z
   ·have hE:Ch.right ws cs=false:=Ch.qX (j:=k) (by have:=hp.out;omega) oZ
    obtain ⟨HE,Hz⟩:=zd2 hE hz;clear hE hz;clear hd;go_wp2_with fail;go_ret;exact ⟨by rw [HE.out];rfl,hi.out⟩
   have hf:∀j,j<k+1->1<=ws.getD j 0/\ws.getD j 0<=65536:=λj hj=>by
    rcases Nat.lt_succ_iff_lt_or_eq.1 hj with h|rfl
    ·exact hd j h
    ·omega
   obtain ⟨hm,Hz⟩:=zd2 hf hz;clear hf hz;clear hd;go_wp2_with fail;go_roundw
   case rel=>exact ⟨k+1,by omega,by go_num,hm.out,by first|rfl|trivial⟩
   case measure=>simp [intOf];omega
  ·obtain rfl:k=n+1:=by omega
   have hr:=zI hd;clear hd;have k3:¬((n:Int)+1)<(n:Int)+1:=by omega
   go_wp2_with fail;clear k3
   go_loopw [7,42] (λ_ i wx=>∃k:Nat,k<=n/\i=nQ iQ (k:Int)/\(∀j,j<k->0<=cs.getD j 0/\cs.getD j 0<=1099511627776)/\W1=wx) (λ_ i _=>n-(intOf i).toNat)
   case atStart=>exact ⟨0,Zt _,rfl,λj hj=>by omega,rfl⟩
   case round=>
    obtain ⟨k,hk,rfl,ha,rfl⟩:=hrel
    by_cases hy:k<n
    ·obtain ⟨b,off,rfl,hc⟩:=Ch.at_ hx.out (k:=k) (by have:=hg.out;omega)
     have q1:(k:Int)<(n:Int):=by omega
     have q2:(0:Int)<=(k:Int):=by omega
     obtain ⟨z,hz⟩:∃z,cs.getD k 0=z:=⟨_,rfl⟩
     rw [hz] at hc;have hh:=qaB z W1;have hl:=Safe.jV z;cases hb:Safe.ok z
     ·have hE:Ch.right ws cs=false:=Ch.right_no3 (j:=k) (by have:=hg.out;omega) (by
       rw [hz];intro h;rw [hb] at hl;exact absurd (hl.2 h) sZ)
      rw [hb] at hh;obtain ⟨HE,Hz,hs⟩:=zd3 hE hz hh;clear hE hz hh;clear ha hl hb;go_wp2_with fail;refine hs.out.mono ?_;rintro e w' ⟨rfl,rfl⟩;go_wp2_with fail;go_ret;exact ⟨by rw [HE.out];rfl,hi.out⟩
     ·have hw:=hl.1 hb
      have he:∀j,j<k+1->0<=cs.getD j 0/\cs.getD j 0<=1099511627776:=λj hj=>by
       rcases Nat.lt_succ_iff_lt_or_eq.1 hj with h|rfl
       ·exact ha j h
       ·omega
      rw [hb] at hh;obtain ⟨ho,Hz,hs⟩:=zd3 he hz hh;clear he hz hh;clear ha hl hb hw;go_wp2_with fail;refine hs.out.mono ?_;rintro e w' ⟨rfl,rfl⟩;go_wp2_with fail;go_roundw
      case rel=>exact ⟨k+1,by omega,by go_num,ho.out,by first|rfl|trivial⟩
      case measure=>simp [intOf];omega
    ·obtain rfl:k=n:=by omega
     have hE:Ch.right ws cs=true:=Ch.right_yes (by have:=hg.out;omega) (λj hj=>hr.out j (by have:=hp.out;omega)) (λj hj=>ha j (by have:=hg.out;omega));have HE:=zI hE;clear hE;clear ha;go_wp2_with fail;go_ret;exact ⟨by rw [HE.out];rfl,hi.out⟩
def Ch.rZ (ws cs:List Int) (cap:Int):Int:=if Ch.right ws cs=false then 10 else if cap<0∨4096<cap then 11 else 0
set_option maxRecDepth 100000 in
theorem qcP (Aw Ac:Option Addr) (cw cc n:Nat) (ws cs:List Int) (cap:Int) (W:Zp1) (hcl:cs.length=n) (hwl:ws.length=n+1) (hn:n<=1000) (hI:Ints iQ W Aw ws) (hJ:Ints iQ W Ac cs):
  Calls prog 92 #[.agg #[sQ Aw (n+1) cw,sQ Ac n cc],nQ iQ cap] W λe w'=>e=.returned (nQ iQ (Ch.rZ ws cs cap))/\Later W w':=by
 have ha:Later W (W.alloc (.cells #[sQ Aw (n+1) cw,sQ Ac n cc] 95)):=(Later.refl W).alloc _;have hf:=qfp Aw Ac cw cc n ws cs (W.alloc (.cells #[sQ Aw (n+1) cw,sQ Ac n cc] 95)) hcl hwl hn (hI.below ha (lrZ _)) (hJ.below ha (lrZ _));have hE:Ch.rZ ws cs cap=if Ch.right ws cs=false then 10 else if cap<0∨4096<cap then 11 else 0:=rfl
 obtain ⟨hg,he⟩:=zd2 ha hf;clear ha hf;clear hI hJ hcl hwl;go_in;go_wp2_with fail;generalize W.alloc (.cells #[sQ Aw (n+1) cw,sQ Ac n cc] 95)=W1 at *;refine he.out.mono ?_;rintro e W2 ⟨rfl,hc⟩;have hd:=hg.out.trans hc;have hb:=zI hd;clear hd;clear he hc;cases hr:Ch.right ws cs
 ·rw [hr,ipZ rfl] at hE
  have HE:=zI hE;clear hE;clear hr;go_wp2_with fail;go_ret;exact ⟨by rw [HE.out];rfl,hb.out⟩
 ·rw [hr,inZ sZ] at hE
  clear hr
  by_cases h1:cap<0
  ·rw [ipZ (.inl h1)] at hE
   have HE:=zI hE;clear hE;go_wp2_with fail;go_ret;exact ⟨by rw [HE.out];rfl,hb.out⟩
  ·by_cases h2:4096<cap
   ·rw [ipZ (.inr h2)] at hE
    have HE:=zI hE;clear hE;go_wp2_with fail;go_ret;exact ⟨by rw [HE.out];rfl,hb.out⟩
   ·rw [inZ oZ] at hE
    have HE:=zI hE;clear hE;go_wp2_with fail;go_ret;exact ⟨by rw [HE.out];rfl,hb.out⟩
set_option maxRecDepth 100000 in
theorem qeB (Aw Ac:Option Addr) (cw cc n:Nat) (ws cs:List Int) (cap:Int) (W:Zp1) (hcl:cs.length=n) (hwl:ws.length=n+1) (hr:Ch.right ws cs=true) (hc:0<=cap/\cap<=4096) (hcw:n+1<=cw) (hI:Ints iQ W Aw ws) (hJ:Ints iQ W Ac cs):
  Calls prog 93 #[.agg #[sQ Aw (n+1) cw,sQ Ac n cc],nQ iQ cap] W λe w'=>∃p bm,e=.returned (.pointer (some ⟨p,0,none⟩))/\(⟨Aw,Ac,cw,cc,p,bm⟩:SvA).Still (Ch.of ws cs cap) n W/\SvM ⟨Aw,Ac,cw,cc,p,bm⟩ (Ch.of ws cs cap) n W [] w':=by
 have hf:=Ch.uP (cap:=cap) oZ hr hc;have hH:1<=n:=by have:=hf.n1;show 1<=_;exact hcl▸this
 have hA:n<=64:=hcl▸hf.n64;have hi:Later W (W.alloc (.cells #[sQ Aw (n+1) cw,sQ Ac n cc] 95)):=(Later.refl W).alloc _;have hh:=Blk.new W 95 #[sQ Aw (n+1) cw,sQ Ac n cc];have u0:(W.alloc (.cells #[sQ Aw (n+1) cw,sQ Ac n cc] 95)).cell? ⟨W.heap.size,0,none⟩=some (sQ Aw (n+1) cw):=hh.cell 0;have u1:(W.alloc (.cells #[sQ Aw (n+1) cw,sQ Ac n cc] 95)).cell? ⟨W.heap.size,1,none⟩=some (sQ Ac n cc):=hh.cell 1;obtain ⟨b,off,hE,-⟩:=Ch.at_ hI (k:=0) oZ;subst hE;have hF:(cw=1)=False:=eq_false oZ
 have hg:∀z∈ws,1<=z/\z<=65536:=by
  unfold Ch.right at hr;simp only [Zz,decide_eq_true_eq,Zf] at hr;exact hr.1.2
 have hq:=Ch.rY hg
 have hb:∀k,k<n->(W.alloc (.cells #[sQ (some ⟨b,off,none⟩) (n+1) cw,sQ Ac n cc] 95)).cell? ⟨b,off+1+k,none⟩=some (nQ iQ (ws.getD (k+1) 0)):=λk hk=>by
  obtain ⟨b',off',e,hx⟩:=Ch.at_ hI (k:=k+1) oZ;injection e with e;injection e with e1 e2 e3;subst e1;subst e2
  rw [show off+1+k=off+(k+1) by omega];exact hi.cell hx
 have hK:=@run_makeMap prog;obtain ⟨ht,hd,HI,HJ,hC,hw,hn,hl⟩:=zd8 hi hb hI hJ hf hq hg hcl;clear hi hb hI hJ hf hq hg hcl;clear hh hwl;go_in;go_wp2_with fail;generalize W.alloc (.cells #[sQ (some ⟨b,off,none⟩) (n+1) cw,sQ Ac n cc] 95)=W1 at *
 go_loopw [5,7,12] (λms _ i wr=>∃k:Nat,k<=n/\i=nQ iQ (k:Int)/\ms=nQ iQ (Ch.most ws k)/\W1=wr) (λ_ _ i _=>n-(intOf i).toNat)
 case atStart=>exact ⟨0,Zt _,rfl,rfl,rfl⟩
 case round=>
  obtain ⟨k,hk,rfl,rfl,rfl⟩:=hrel;have hm:=hw.out k
  by_cases hD:k<n
  ·have y0:=hd.out k hD
   have hp:Ch.most ws (k+1)=Ch.most ws k+2*ws.getD (k+1) 0:=rfl;have hz:=Ch.dO (l:=ws) (λx hx=>by have:=hn.out x hx;unfold Ch.inf;omega) (k+1)
   have hv:ws.getD (k+1) 0<=65536:=by
    rw [gdZ]
    by_cases h:k+1<ws.length
    ·rw [geZ h];exact (hn.out _ (gmZ h)).2
    ·rw [Zi oZ];simp
   generalize ws.getD (k+1) 0=z at *;generalize Ch.most ws k=mk at *;have w1:iQ.wrap (2*z)=2*z:=Zc1 _ oZ;have w2:iQ.wrap (mk+2*z)=mk+2*z:=Zc1 _ oZ;have k1:(k:Int)<(n:Int):=by omega
   have k2:(0:Int)<=(k:Int):=by omega
   have hy:=zI hp;clear hp;clear hm hz hv;go_wp2_with fail;go_roundw
   case rel=>exact ⟨k+1,by omega,by go_num,by rw [hy.out],by first|rfl|trivial⟩
   case measure=>simp [intOf];omega
  ·obtain rfl:k=n:=by omega
   have ha:(Ch.of ws cs cap).cap=min cap (Ch.most ws k):=by show min cap (Ch.most ws cs.length)=_;rw [hl.out]
   generalize Ch.most ws k=mk at *;have hs:(W1.alloc (.map #[] 0)).heap[W1.heap.size]? = some (.map #[] 0):=heap_alloc_new W1 _;have hj:=Blk.new (W1.alloc (.map #[] 0)) 166 #[sQ (some ⟨b,off,none⟩) (k+1) cw,sQ Ac k cc,nQ iQ k,nQ iQ (min cap mk),.map (some W1.heap.size)];rw [Zh1] at hj;have ho:=(ht.out.alloc (.map #[] 0)).alloc (.cells #[sQ (some ⟨b,off,none⟩) (k+1) cw,sQ Ac k cc,nQ iQ k,nQ iQ (min cap mk),.map (some W1.heap.size)] 166);have hG:=Below.size ht.out;have hu:=zI (show (⟨some ⟨b,off,none⟩,Ac,cw,cc,W1.heap.size+1,W1.heap.size⟩:SvA).Still (Ch.of ws cs cap) k W from ⟨hC.out,hl.out,HI.out,HJ.out,by show W.heap.size<=W1.heap.size+1;omega,by show W.heap.size<=W1.heap.size;omega⟩);have hB:=zI (show SvM (⟨some ⟨b,off,none⟩,Ac,cw,cc,W1.heap.size+1,W1.heap.size⟩:SvA) (Ch.of ws cs cap) k W [] _ from ⟨ho,by unfold SvA.cells;rw [ha];exact hj,⟨#[],0,(Below.heap_alloc _ _ _ sZ).trans hs,List.nodup_nil,λe he=>by cases he⟩⟩);clear hs hj ho ha;go_wp2_with fail;go_ret;exact ⟨_,_,rfl,hu.out,hB.out⟩
def uS (ws cs:List Int) (cap:Int) (W:Zp1) (e:Ending) (w':Zp1):Prop:=
 Later W w'/\∃C d B,e=.returned (.tuple #[sQ C (Ch.plan ws cs cap).1.length d,nQ iQ (Ch.plan ws cs cap).2])/\W.heap.size<=B/\w'.ownsRow B 106 2 (sQ C (Ch.plan ws cs cap).1.length d) (Ch.plan ws cs cap).1.length (qa4 (Ch.plan ws cs cap).1)
set_option maxRecDepth 100000 in
theorem qgF (Aw Ac:Option Addr) (cw cc n:Nat) (ws cs:List Int) (cap:Int) (W:Zp1) (hcl:cs.length=n) (hwl:ws.length=n+1) (hn:n<=1000) (hcw:n+1<=cw) (hI:Ints iQ W Aw ws) (hJ:Ints iQ W Ac cs):
  Calls prog 119 #[.agg #[sQ Aw (n+1) cw,sQ Ac n cc],nQ iQ cap] W (uS ws cs cap W):=by
 have hT:Later W (W.alloc (.cells #[sQ Aw (n+1) cw,sQ Ac n cc] 95)):=(Later.refl W).alloc _;have h8:=Blk.new W 95 #[sQ Aw (n+1) cw,sQ Ac n cc];have Ho:=qcP Aw Ac cw cc n ws cs cap (W.alloc (.cells #[sQ Aw (n+1) cw,sQ Ac n cc] 95)) hcl hwl hn (hI.below hT (lrZ _)) (hJ.below hT (lrZ _));have hE:Ch.rZ ws cs cap=if Ch.right ws cs=false then 10 else if cap<0∨4096<cap then 11 else 0:=rfl
 have hP:Ch.plan ws cs cap=if Ch.right ws cs=false then ([],10) else if cap<0∨4096<cap then ([],11) else
  if Ch.inf<=(Ch.Rw (Ch.of ws cs cap) 0 cs.length).getD (Ch.of ws cs cap).cap.toNat 0 then ([],26) else
  ((Ch.part (Ch.of ws cs cap) cs.length 0 cs.length (Ch.of ws cs cap).cap.toNat ⟨Zc (cs.length+1) false,[]⟩).code,0):=rfl
 have hp:∀(er:Int) (w':Zp1),Later W w'->Ch.plan ws cs cap=([],er)->uS ws cs cap W (.returned (.tuple #[sQ none 0 0,nQ iQ er])) w':=λer w' hl he=>⟨hl,none,0,W.heap.size,by rw [he];rfl,lrZ _,by rw [he];exact World.ownsRow_nil _ _ _ _⟩
 obtain ⟨HF,Hi,HI,HJ,Hp,hg⟩:=zd6 hT h8 hI hJ Ho hp;clear hT h8 hI hJ Ho hp;go_in;go_wp2_with fail;generalize W.alloc (.cells #[sQ Aw (n+1) cw,sQ Ac n cc] 95)=W1 at *;refine Hp.out.mono ?_;rintro e W2 ⟨rfl,hW⟩;have hd:=HF.out.trans hW;have hs:=hW.blk Hi.out;clear Hp hW Hi;cases hr:Ch.right ws cs
 ·rw [hr,ipZ rfl] at hE hP
  rw [hE];obtain ⟨hi,HP⟩:=zd2 hd hP;clear hd hP;clear hE hr hs;go_wp2_with fail
  go_ret2
  exact hg.out _ _ hi.out HP.out
 rw [hr,inZ sZ] at hE hP
 by_cases hc:cap<0∨4096<cap
 ·rw [ipZ hc] at hE hP
  rw [hE];obtain ⟨hi,HP⟩:=zd2 hd hP;clear hd hP;clear hE hr hs hc;go_wp2_with fail
  go_ret2
  exact hg.out _ _ hi.out HP.out
 rw [inZ hc] at hE hP;rw [hE];have u0:W2.cell? ⟨W.heap.size,0,none⟩=some (sQ Aw (n+1) cw):=hs.cell 0;have u1:W2.cell? ⟨W.heap.size,1,none⟩=some (sQ Ac n cc):=hs.cell 1;have Hg:=qeB Aw Ac cw cc n ws cs cap W2 hcl hwl hr oZ hcw (HI.out.below hd (lrZ _)) (HJ.out.below hd (lrZ _));have hy:=hd;obtain ⟨hi,HP,Hd,h1⟩:=zd4 hd hP Hg hy;clear hd hP Hg hy;clear hE hs;go_wp2_with fail;refine Hd.out.mono ?_;rintro e W3 ⟨p,bm,rfl,hS,hM⟩;clear Hd u0 u1;obtain ⟨a,ha⟩:∃a:SvA,(⟨Aw,Ac,cw,cc,p,bm⟩:SvA)=a:=⟨_,rfl⟩
 have hZ:a.p=p:=by rw [←ha]
 rw [ha] at hS hM;rw [←hZ];obtain ⟨C,hC⟩:∃C,Ch.of ws cs cap=C:=⟨_,rfl⟩
 have hQ:=HP.out;rw [hC,hcl] at hQ;rw [hC] at hS hM;have hk:=hS.ok;have hH:=hS.cn;have HZ:1<=n:=hH▸hk.n1;have HA:n<=64:=hH▸hk.n64;have Hu:=hk.cap0;obtain ⟨m,hm⟩:=ezZ Hu;have HR:Ch.len C 0=m+1:=by unfold Ch.len Ch.kept;rw [ipZ rfl];omega
 rw [hm,tnZ] at hQ;have Hq:Later W W3:=hi.out.trans hM.later;obtain ⟨-,-,s2,s3,-⟩:=hM.cells5;rw [hm] at s3;have HQ:0<=(Ch.Rw C 0 n).getD m 0:=(Ch.dO (Ch.fV hk (l:=0) (r:=n) oZ) m).1;have Hk:=Ch.lM C 0 n oZ;have hD:=h1.out;obtain ⟨hO,Hb,HS,HM,HU,HT,H1,Ha,HC⟩:=zd9 hQ Hq hS hM hk hH hZ ha hC;have ht:=zI hD;clear hQ Hq hS hM hk hH hZ ha hC hD;clear HP hi hr hc Hu;have h6:=Blk.new W3 145 #[nQ iQ 0,nQ iQ n];have hX:=(Later.refl W3).alloc (.cells #[nQ iQ 0,nQ iQ n] 145);have h7:=HM.out.to_later hX;have Hl:=Hb.out.trans hX;obtain ⟨hU,h0,HX⟩:=zd3 h6 h7 Hl;clear h6 h7 Hl;clear hX HM Hb;go_wp2_with fail;generalize W3.alloc (.cells #[nQ iQ 0,nQ iQ n] 145)=W4 at *;generalize W3.heap.size=pb at *;have t0:W4.cell? ⟨pb,0,none⟩=some (nQ iQ 0):=hU.out.cell 0;have t1:W4.cell? ⟨pb,1,none⟩=some (nQ iQ n):=hU.out.cell 1;clear s2 s3;have s3:W4.cell? ⟨a.p,3,none⟩=some (nQ iQ m):=by rw [←hm];exact h0.out.cells5.2.2.2.1
 have hv:=λ(Y:Zp1) (h:Later W4 Y)=>(show Calls prog 94 #[.pointer (some ⟨a.p,0,none⟩),.agg #[nQ iQ 0,nQ iQ n]] Y (uX a C n W2 [] 0 n Y) from qbd a C n W2 HS.out n 0 n [] Y oZ (lrZ _) oZ (h0.out.to_later h) (λx hx=>by cases hx))
 have Hn:pb∉[a.bm]:=by simp only [List.mem_singleton];exact qa7 h0.out.memo hU.out
 have HY:(m:Int)<(m:Int)+1:=by omega
 have H0:(0:Int)<=(m:Int):=by omega
 have HW:=qbL;generalize hz:(Ch.Rw C 0 n).getD m 0=z at *;obtain ⟨Hv,HG,Hm,Hz,HH⟩:=zd5 hv Hn hm hz Hk;clear hv Hn hm hz Hk;have KF:=zI (show ∀Xw,Later W4 Xw->Xw.cell? ⟨pb,0,none⟩=some (nQ iQ 0)/\Xw.cell? ⟨pb,1,none⟩=some (nQ iQ n)/\Xw.cell? ⟨a.p,3,none⟩=some (nQ iQ m) from λXw h=>⟨h.cell t0,h.cell t1,h.cell s3⟩);refine Zm1 ?_;refine Zl1 (S:=λXw=>Xw.cell? ⟨pb,0,none⟩=some (nQ iQ 0)/\Xw.cell? ⟨pb,1,none⟩=some (nQ iQ n)/\Xw.cell? ⟨a.p,3,none⟩=some (nQ iQ m)) krZ (KF.out _ Lau) (λhHeld=>?_);refine tk 0 ?_;refine tk 1 ?_;refine tk 4 ?_;refine tk 5 ?_;refine tk 6 ?_;refine tk 7 ?_;refine rd 2 λK hK=>?_
 simp only [ga,gs,gz]
 go_simp
 go_at_call 94;(with_reducible refine (Hv.out _ (Lau:Later W4 _)).mono ?_);rintro e W5 ⟨g,rfl,hB,-,h4,hj⟩
 have hN:=hj.blk hU.out HG.out;replace t0:=hN.cell 0;replace t1:=hN.cell 1;replace s3:=h4.cells5.2.2.2.1;rw [Hm.out] at s3;have y0:=qce hB (i:=m) (by rw [HH.out];omega);rw [Hz.out] at y0;obtain ⟨hR,HD,Hy⟩:=zd3 h4 hj hN;clear h4 hj hN hB
 try go_wp2_with fail
 refine hK.out _ _ (by first|exact ⟨t0,t1,s3⟩|exact KF.out _ Lau) (λhHeld=>?_);clear hK K
 try simp only [ga,gs,gz,Act.put,sa,sz,ss]
 refine tk 3 ?_;refine tk 8 ?_;refine rd 9 λK hK=>?_
 simp only [ga,gs,gz]
 go_simp
 replace t0:=t0;refine hK.out _ _ (by first|exact ⟨t0,t1,s3⟩|exact KF.out _ Lau) (λhHeld=>?_);clear hK K
 try simp only [ga,gs,gz,Act.put,sa,sz,ss]
 refine tk 10 ?_;clear KF;refine Zn1 krZ ?_ _;refine Zd1 ?_;have hj:KpL [a.bm] W4 W5:=HD.out;have hu:Later W W5:=ht.out.trans hR.out.later
 by_cases hG:Ch.inf<=z
 ·have hf:=hO.out
  rw [ipZ hG] at hf;unfold Ch.inf at hG;obtain ⟨hF,HN⟩:=zd2 hf hu;clear hf hu;clear hj hO y0 t0 t1 s3 hHeld;go_wp2_with fail
  go_ret2
  exact hg.out _ _ HN.out hF.out
 have hf:=hO.out;rw [inZ hG] at hf;have HK:z<Ch.inf:=by omega
 unfold Ch.inf at hG;have s2:=hR.out.cells5.2.2.1;have w1:iQ.wrap ((n:Int)+1)=(n:Int)+1:=Zc1 _ oZ
 have HV:∀w:Zp1,(Instr.makeSlice 112 (nQ iQ ((n:Int)+1)) (nQ iQ ((n:Int)+1))).run prog w=.ok (sQ (some ⟨w.heap.size,0,none⟩) (n+1) (n+1)) (w.alloc (.cells (madeCells #[.bool false] (n+1)) 4)):=λw=>by
  have h:=run_make_row' (P:=prog) 112 4 (.bool false) 1 underlying112 qbE rfl iQ iQ (n+1) oZ oZ w;rw [Int.natCast_succ] at h;exact h
 have Hf:Later W5 (W5.alloc (.cells (madeCells #[.bool false] (n+1)) 4)):=(Later.refl W5).alloc _;have Hh:=Blk.new W5 4 (madeCells #[.bool false] (n+1));have hL:=Hf.alloc (.cells #[.pointer (some ⟨a.p,0,none⟩),sQ (some ⟨W5.heap.size,0,none⟩) (n+1) (n+1),sQ none 0 0] 213);have h3:=Blk.new (W5.alloc (.cells (madeCells #[.bool false] (n+1)) 4)) 213 #[.pointer (some ⟨a.p,0,none⟩),sQ (some ⟨W5.heap.size,0,none⟩) (n+1) (n+1),sQ none 0 0];rw [Zh1] at h3;have Hs:=Hh.alloc (.cells #[.pointer (some ⟨a.p,0,none⟩),sQ (some ⟨W5.heap.size,0,none⟩) (n+1) (n+1),sQ none 0 0] 213);have hA:((W5.alloc (.cells (madeCells #[.bool false] (n+1)) 4)).alloc (.cells #[.pointer (some ⟨a.p,0,none⟩),sQ (some ⟨W5.heap.size,0,none⟩) (n+1) (n+1),sQ none 0 0] 213)).heap.size=W5.heap.size+2:=by rw [Zh1,Zh1]
 have e6:madeCells #[Value.bool false] (n+1)=((Zc (n+1) false).map Value.bool).toArray:=by rw [List.map_replicate,←qao]
 have HE:=Below.size hR.out.later
 have Ht:WrM ⟨W5.heap.size+1,W5.heap.size,W5.heap.size+2⟩ a C n W2 ⟨Zc (n+1) false,[]⟩ _:=
  ⟨hR.out.to_later hL,⟨sQ none 0 0,h3,World.ownsRow_nil _ _ _ _⟩,(by show Blk _ _ _ ((Zc (n+1) false).map Value.bool).toArray;rw [←e6];exact Hs),by simp,by rw [hA];exact lrZ _,by show W2.heap.size<=W5.heap.size+1;omega,by show W2.heap.size<=W5.heap.size;omega,by show W5.heap.size+1<W5.heap.size+2;omega,by show W5.heap.size<W5.heap.size+2;omega⟩
 have h5:=hL.blk Hy.out;have hq:=hu.trans hL;have HB:=Below.size hu;obtain ⟨hw,hh,HO,hF⟩:=zd4 Ht h5 hq hf;clear Ht h5 hq hf;clear e6 Hf Hh hL h3 Hs hA hu t0 t1 s3 y0 hj hHeld hO;go_wp2_with fail;generalize (W5.alloc (.cells (madeCells #[.bool false] (n+1)) 4)).alloc (.cells #[.pointer (some ⟨a.p,0,none⟩),sQ (some ⟨W5.heap.size,0,none⟩) (n+1) (n+1),sQ none 0 0] 213)=W7 at *;have t0:W7.cell? ⟨pb,0,none⟩=some (nQ iQ 0):=hh.out.cell 0;have t1:W7.cell? ⟨pb,1,none⟩=some (nQ iQ n):=hh.out.cell 1;have s3:W7.cell? ⟨a.p,3,none⟩=some (nQ iQ m):=by rw [←Hm.out];exact hw.out.sv.cells5.2.2.2.1
 have Hj:=λ(Y:Zp1) (h:Later W7 Y)=>(show Calls prog 150 #[.pointer (some ⟨W5.heap.size+1,0,none⟩),.agg #[nQ iQ 0,nQ iQ n],nQ iQ m] Y _ from qgE ⟨W5.heap.size+1,W5.heap.size,W5.heap.size+2⟩ a C n W2 HS.out n 0 n m ⟨Zc (n+1) false,[]⟩ Y oZ (lrZ _) oZ oZ (by rw [Hz.out];exact HK) (hw.out.to_later h) (by show 0+200*(2*(n-0)-1)<=60000;omega))
 have Hc:pb∉[a.bm,W5.heap.size+1,W5.heap.size]:=by
  obtain ⟨v,hb,-⟩:=hw.out.box;simp;exact ⟨qa7 hw.out.sv.memo hh.out,Blk.ne hh.out hb dZ,Blk.ne hh.out hw.out.saved dZ⟩
 obtain ⟨Hx,HL⟩:=zd2 Hj Hc;clear Hj Hc;have KF:=zI (show ∀Xw,Later W7 Xw->Xw.cell? ⟨pb,0,none⟩=some (nQ iQ 0)/\Xw.cell? ⟨pb,1,none⟩=some (nQ iQ n)/\Xw.cell? ⟨a.p,3,none⟩=some (nQ iQ m) from λXw h=>⟨h.cell t0,h.cell t1,h.cell s3⟩);refine Zm1 ?_;refine Zl1 (S:=λXw=>Xw.cell? ⟨pb,0,none⟩=some (nQ iQ 0)/\Xw.cell? ⟨pb,1,none⟩=some (nQ iQ n)/\Xw.cell? ⟨a.p,3,none⟩=some (nQ iQ m)) krZ (KF.out _ Lau) (λhHeld=>?_);refine tk 0 ?_;refine tk 1 ?_;refine tk 2 ?_;refine tk 3 ?_;refine tk 4 ?_;refine rd 5 λK hK=>?_
 simp only [ga,gs,gz]
 go_simp
 go_at_call 150;(with_reducible refine (Hx.out _ (Lau:Later W7 _)).mono ?_);rintro e W8 ⟨rfl,hY,Hw⟩
 have h2:=Hw.blk (hh.out.drew) dZ HL.out;replace t0:=h2.cell 0;replace t1:=h2.cell 1;replace s3:=hY.sv.cells5.2.2.2.1;rw [Hm.out] at s3;have He:=zI hY;clear hY Hw h2
 try go_wp2_with fail
 refine hK.out _ _ (by first|exact ⟨t0,t1,s3⟩|exact KF.out _ Lau) (λhHeld=>?_);clear hK K
 try simp only [ga,gs,gz,Act.put,sa,sz,ss]
 clear KF;refine Zn1 krZ ?_ _;refine Zd1 ?_;obtain ⟨v,Hr,ho⟩:=He.out.box;obtain ⟨Cc,dc,rfl⟩:=qa6 ho;have x2:W8.cell? ⟨W5.heap.size+1,2,none⟩=some (sQ Cc (Ch.part C n 0 n m ⟨Zc (n+1) false,[]⟩).code.length dc):=Hr.cell 2;have h9:Later W W8:=ht.out.trans He.out.sv.later;have hV:=zI (show uS ws cs cap W (.returned (.tuple #[sQ Cc (Ch.part C n 0 n m ⟨Zc (n+1) false,[]⟩).code.length dc,nQ iQ 0])) W8 from ⟨h9,Cc,dc,W5.heap.size+2,by rw [hF.out],by omega,by rw [hF.out];exact ho⟩);clear Hr ho h9;go_wp2_with fail
 go_ret2
 exact hV.out
namespace Gr
def wd (ws:List Int) (id:Int):Int:=ws.getD id.toNat 0
def at_ (ws kept:List Int):Nat->Nat
 | 0=>0
 | k+1=>if wd ws (kept.getD (at_ ws kept k) 0)<wd ws (kept.getD k 0) then k else at_ ws kept k
def less (ws kept:List Int):List Int:=kept.eraseIdx (at_ ws kept kept.length)
def best (ws kept:List Int):Nat->Int
 | 0=>kept.getD 0 0
 | k+1=>if wd ws (best ws kept k)<wd ws (kept.getD k 0) then kept.getD k 0 else best ws kept k
theorem oM (ws kept:List Int):∀k,best ws kept k=kept.getD (at_ ws kept k) 0
 | 0=>rfl
 | k+1=>by
  have ih:=oM ws kept k;unfold best at_;rw [ih]
  split<;>rfl
theorem qO (ws kept:List Int) (h:0<kept.length):∀k,k<=kept.length->at_ ws kept k<kept.length
 | 0,_=>h
 | k+1,hk=>by
  unfold at_
  split
  ·omega
  ·exact qO ws kept h k oZ
theorem qcf:∀ {l:List Int} {i:Nat},l.Nodup->(h:i<l.length)->l.eraseIdx i=l.filter λz=>decide (z≠l[i])
 | a::l,0,hn,_=>by
  have hn:=List.nodup_cons.1 hn
  show l=_
  rw [List.filter_cons];simp;exact (List.filter_eq_self.2 λz hz=>by simp;intro e;exact hn.1 (e▸hz)).symm
 | a::l,i+1,hn,h=>by
  have hn:=List.nodup_cons.1 hn;have hi:i<l.length:=by simpa using h
  have ih:=qcf hn.2 hi;have ha:a≠l[i]:=λe=>hn.1 (e▸gmZ hi)
  show a::l.eraseIdx i=_
  rw [List.filter_cons,ih];simp [ha]
theorem qfq {ws kept:List Int} (hn:kept.Nodup) (h:0<kept.length):less ws kept=kept.filter λz=>decide (z≠best ws kept kept.length):=by
 have hl:=qO ws kept h kept.length (lrZ _);unfold less;rw [qcf hn hl,oM,gdZ,geZ hl]
 rfl
theorem iU {ws kept:List Int} (h:0<kept.length):(less ws kept).length+1=kept.length:=by
 have hl:=qO ws kept h kept.length (lrZ _);unfold less;rw [List.length_eraseIdx,ipZ hl];omega
theorem qgG {ws kept:List Int} (hn:kept.Nodup):(less ws kept).Nodup:=hn.sublist (List.eraseIdx_sublist _ _)
def fit (aB:List Int->Int) (ws:List Int) (cap:Int):Nat->List Int->Option (List Int)
 | 0,_=>none
 | m+1,kept=>if aB kept<=cap then some kept else if kept.length=0 then none else fit aB ws cap m (less ws kept)
def rC (aB:List Int->Int) (ws:List Int) (cap:Int):Nat->List Int->Option (List Int)
 | 0,_=>none
 | m+1,kept=>if aB kept<=cap then some kept else if kept.length=0 then none else rC aB ws cap m (kept.filter λz=>decide (z≠best ws kept kept.length))
theorem qV (aB:List Int->Int) (ws:List Int) (cap:Int):∀(m:Nat) (kept:List Int),kept.Nodup->rC aB ws cap m kept=fit aB ws cap m kept
 | 0,_,_=>rfl
 | m+1,kept,hn=>by
  unfold rC fit
  split
  ·rfl
  ·split
   ·rfl
   ·rw [←qfq hn oZ]
    exact qV aB ws cap m _ (qgG hn)
end Gr
namespace Rt
theorem at_set {l:List Bool} {i:Nat} {b:Bool} (h:l.getD 0 false=true) (hb:i=0->b=true):(l.set i b).getD 0 false=true:=by
 rcases i with _|i
 ·rw [hb rfl]
  cases l with
  | nil=>simp at h
  | cons x r=>simp
 ·cases l with
  | nil=>simp at h
  | cons x r=>simpa using h
theorem qeC {k id:Int} {s:RtS} (h:Ck.at_ s.aG 0=true):Ck.at_ (comp k id s).aG 0=true:=at_set (l:=s.aG) h (λ_=>rfl)
theorem qhN {id:Int} {s:RtS} (h:Ck.at_ s.aG 0=true) (h1:1<=id):Ck.at_ (drop id s).aG 0=true:=at_set (l:=s.aG) h (λe=>by omega)
theorem qaW {f:Int->Bool} {s:RtS} (h:Ck.at_ s.aG 0=true):∀m,Ck.at_ (aQ f m s).aG 0=true
 | 0=>h
 | m+1=>by
  unfold aQ
  split
  ·exact qhN (qaW h m) oZ
  ·exact qaW h m
theorem qdq {I:Int->List Int}:∀(m:Nat) (id:Int) (s:RtS),Ck.at_ s.aG 0=true->Ck.at_ (fetch I m id s).aG 0=true
 | 0,_,_,h=>h
 | m+1,id,s,h=>by
  unfold fetch
  split
  ·exact h
  ·have fold:∀(l:List Int) (y:RtS),Ck.at_ y.aG 0=true->Ck.at_ (l.foldl (λs i=>fetch I m i s) y).aG 0=true:=by
    intro l
    induction l with
    | nil=>intro y h;exact h
    | cons i t ih=>intro y h;exact ih _ (qdq m i y h)
   exact qeC (fold _ _ h)
theorem jR {I:Int->List Int} {m:Nat}:∀(l:List Int) (y:RtS),Ck.at_ y.aG 0=true->Ck.at_ (l.foldl (λs i=>fetch I m i s) y).aG 0=true
 | [],_,h=>h
 | i::t,y,h=>jR t _ (qdq m i y h)
theorem qdP {I:Int->List Int} (m:Nat) {s:RtS} (h:Ck.at_ s.aG 0=true):fetch I m 0 s=s:=by
 cases m with
 | zero=>rfl
 | succ m=>rw [eD,ipZ h]
theorem qcQ {I:Int->List Int}:∀(m:Nat) (id:Int) (x:RtD),x.code.length<=(aI I m id x).code.length/\x.there.length<=(aI I m id x).there.length
 | 0,_,_=>⟨lrZ _,lrZ _⟩
 | m+1,id,x=>by
  unfold aI
  split
  ·exact ⟨lrZ _,lrZ _⟩
  ·have fold:∀(l:List Int) (y:RtD),y.code.length<=(l.foldl (λx i=>aI I m i x) y).code.length/\y.there.length<=(l.foldl (λx i=>aI I m i x) y).there.length:=by
    intro l
    induction l with
    | nil=>intro y;exact ⟨lrZ _,lrZ _⟩
    | cons i t ih=>
     intro y;have h1:=ih (aI I m i y);have h2:=qcQ (I:=I) m i y;exact ⟨Zv h2.1 h1.1,Zv h2.2 h1.2⟩
   have:=fold (I id) x;simp only [dW,Ze,List.length_singleton];omega
theorem qbN {I:Int->List Int} {m:Nat}:∀(l:List Int) (y:RtD),y.code.length<=(l.foldl (λx i=>aI I m i x) y).code.length/\y.there.length<=(l.foldl (λx i=>aI I m i x) y).there.length
 | [],_=>⟨lrZ _,lrZ _⟩
 | i::t,y=>by
  have h1:=qbN (I:=I) (m:=m) t (aI I m i y);have h2:=qcQ (I:=I) m i y;exact ⟨Zv h2.1 h1.1,Zv h2.2 h1.2⟩
theorem pI {I:Int->List Int} {m:Nat} {l:List Int} {k:Nat} (hk:k<l.length) (x:RtD):(l.take (k+1)).foldl (λx i=>aI I m i x) x=aI I m l[k] ((l.take k).foldl (λx i=>aI I m i x) x):=by
 rw [Zb hk,List.foldl_append]
 rfl
theorem qdr {I:Int->List Int} {m:Nat} (l:List Int) (k:Nat) (x:RtD):((l.take k).foldl (λx i=>aI I m i x) x).code.length<=(l.foldl (λx i=>aI I m i x) x).code.length/\((l.take k).foldl (λx i=>aI I m i x) x).there.length<=(l.foldl (λx i=>aI I m i x) x).there.length:=by
 have e:l.foldl (λx i=>aI I m i x) x=(l.drop k).foldl (λx i=>aI I m i x) ((l.take k).foldl (λx i=>aI I m i x) x):=by rw [←List.foldl_append,Zn]
 rw [e];exact qbN _ _
theorem rG {I:Int->List Int} {m:Nat} (l:List Int) (k:Nat) (s:RtS):((l.take k).foldl (λs i=>fetch I m i s) s).code.length<=(l.foldl (λs i=>fetch I m i s) s).code.length:=by
 have e:l.foldl (λs i=>fetch I m i s) s=(l.drop k).foldl (λs i=>fetch I m i s) ((l.take k).foldl (λs i=>fetch I m i s) s):=by rw [←List.foldl_append,Zn]
 rw [e];exact qc8 _ _ _
end Rt
namespace Rw
open Rt
structure Net (c:CkN) (L:Nat):Prop where
 len:c.words.length=L
 wds:∀z,0<=Ck.wd c z/\Ck.wd c z<=65536
 top:L<=513
 rng:∀id:Int,1<=id->id<L->∀i∈Ck.iF c id,0<=i/\i<L
structure Inv (c:CkN) (L:Nat) (s:RtS) (t:CkS):Prop where
 len:s.aG.length=L
 aG:t.aG=s.aG
 sav:t.sav.length=L
 aN:t.aN.length=L
 zero:Ck.at_ s.aG 0=true
 now:t.now<=65536*L*s.code.length
 aB:t.aB<=65536*L*s.code.length
 go:∀cap:Int,65536*L*s.code.length<=cap->Ck.go (Ck.cp c cap) (Ck.start L) s.code=(t,0)
 right:s.code.all Cd.right=true
 ids:∀p∈s.code,0<=p.2/\p.2<L
theorem act_now {c:CkN} (h:∀z,0<=Ck.wd c z) (s:CkS) (k id n:Int):(Ck.act c s k id n).now<=n:=by
 have:=h id;unfold Ck.act
 (repeat' split)<;>simp<;>omega
section
variable {c:CkN} {L:Nat} {s:RtS} {t:CkS}
theorem more_le (hN:Net c L) (hL:1<=L) (hg:t.aN.length=L) {k id:Int} (h0:0<=id) (h1:id<L) (h6:k=6->1<=id):0<=Ck.more c t k id/\Ck.more c t k id<=65536*L:=by
 have e1:=hN.wds id;have e2:=hN.wds c.aH;unfold Ck.more
 split
 ·omega
 ·split
  ·omega
  ·split
   ·rename_i h
    have hr:=hN.rng id (h6 h) h1
    have hl:eB L t.aN ((List.range L).map (λi:Nat=>(i:Int)) |>.filter λz=>Ck.at_ t.aN z):=by
     refine ⟨hg,λz hz=>?_,?_,λz z0 z1=>?_⟩
     ·obtain ⟨i,hi,rfl⟩:=List.mem_map.1 (List.mem_filter.1 hz).1
      rw [List.mem_range] at hi;omega
     ·refine List.Pairwise.filter _ (List.pairwise_map.2 ?_)
      exact (List.nodup_range (n:=L)).imp (by intro a b h e;omega)
     ·rw [List.mem_filter]
      refine ⟨λq=>⟨List.mem_map.2 ⟨z.toNat,by rw [List.mem_range];omega,by omega⟩,q⟩,λq=>q.2⟩
    obtain ⟨f1,f2⟩:=Rf.iY hl (Ck.iF c id) [] hr List.nodup_nil sZ;have f3:=Rf.jH L _ f1 λz hz=>(f2 z hz).1
    have f4:∀l:List Int,0<=Ck.iC c l/\Ck.iC c l<=65536*l.length:=by
     intro l
     induction l with
     | nil=>simp [Ck.iC]
     | cons a r ih=>have:=hN.wds a;simp [Ck.iC] at ih ⊢;omega
    have:=f4 (Ck.fresh c t id);unfold Ck.fresh at this ⊢;omega
   ·omega
theorem Inv.step (h:Inv c L s t) (hN:Net c L) (hL:1<=L) {k id:Int} {s':RtS} (hr:Cd.right (k,id)=true) (h0:0<=id) (h1:id<L) (h6:k=6->1<=id) (hlg:Ck.bI c t k id=true)
  (hc:s'.code=s.code++[(k,id)]) (hp:∀n,(Ck.act c t k id n).aG=s'.aG) (hz:Ck.at_ s'.aG 0=true) (hl1:s'.aG.length=L) (hl2:∀n,(Ck.act c t k id n).sav.length=L) (hl3:∀n,(Ck.act c t k id n).aN.length=L):
  ∃n,Inv c L s' (Ck.act c t k id n):=by
 obtain ⟨m0,m1⟩:=more_le hN hL h.aN h0 h1 h6;have hn:=h.now;have hd:=h.aB
 have el:(65536*L*s'.code.length:Int)=65536*L*s.code.length+65536*L:=by
  rw [hc,Ze];simp only [List.length_cons,List.length_nil,Zw,Int.natCast_add,Int.natCast_one,Int.mul_add,Int.mul_one]
 have ha:=act_now (c:=c) (λz=>(hN.wds z).1) t k id (t.now+Ck.more c t k id);refine ⟨t.now+Ck.more c t k id,⟨hl1,hp _,hl2 _,hl3 _,hz,?_,?_,λcap hb=>?_,?_,λp hp=>?_⟩⟩
 ·omega
 ·rw [Ck.nD];omega
 ·rw [hc,Ck.kZ _ _ _ _ (by rw [h.go cap oZ]),h.go cap oZ,Ck.qN]
  rw [inZ (by rw [hr,hN.len];simp;exact h1),inZ (by simp [hlg]),inZ (by simp only;omega)]
 ·rw [hc,List.all_append,h.right];simp [hr]
 ·rw [hc] at hp
  rcases List.mem_append.1 hp with hp|hp
  ·exact h.ids p hp
  ·simp at hp;subst hp;exact ⟨h0,h1⟩
theorem jM {k id:Int} (hk:k=1∨k=2∨k=3∨k=6) (h1:1<=id) (h2:id<=512):Cd.right (k,id)=true:=by
 rw [Cd.pQ hk];simp;omega
theorem dX {l:List Bool} (h:l.length=L) (z:Int) (b:Bool):(Ck.bO l z b).length=L:=by rw [Ck.bO,List.length_set];exact h
theorem qdQ {l:List Bool} (h:l.length=L) (hz:Ck.at_ l 0=true) {z:Int} (h1:1<=z) (h2:z<L) (b:Bool):Ck.at_ (Ck.bO l z b) 0=true:=by
 rw [eB.dS h oZ h2 (Int.le_refl 0),inZ oZ];exact hz
theorem Inv.comp (h:Inv c L s t) (hN:Net c L) {k id:Int} (hk:k=1∨k=2) (h1:1<=id) (h2:id<L) (hlg:Ck.bI c t k id=true):
  ∃t',Inv c L (Rt.comp k id s) t'/\t'.sav=Ck.bO t.sav id true/\t'.aN=t.aN/\t'.em=t.em/\t'.done=t.done/\t'.sd=t.sd:=by
 have ht:=hN.top;have e:∀n,Ck.act c t k id n={ t with aG:=Ck.bO t.aG id true,sav:=Ck.bO t.sav id true,now:=n,aB:=max t.aB n }:=λn=>by unfold Ck.act;rw [ipZ hk]
 obtain ⟨n,hn⟩:=h.step hN oZ (s':=Rt.comp k id s) (jM oZ h1 oZ) oZ h2 (λ_=>h1) hlg rfl (λn=>by rw [e,h.aG];rfl) (qdQ h.len h.zero h1 h2 _) (dX h.len _ _) (λn=>by rw [e];exact dX h.sav _ _) (λn=>by rw [e];exact h.aN);rw [e] at hn;exact ⟨_,hn,rfl,rfl,rfl,rfl,rfl⟩
theorem Inv.drop (h:Inv c L s t) (hN:Net c L) {id:Int} (h1:1<=id) (h2:id<L) (hp:Ck.at_ s.aG id=true):
  ∃t',Inv c L (Rt.drop id s) t'/\t'.sav=t.sav/\t'.aN=t.aN/\t'.em=t.em/\t'.done=t.done/\t'.sd=t.sd:=by
 have ht:=hN.top;have e:∀n,Ck.act c t 3 id n={ t with aG:=Ck.bO t.aG id false,now:=n-Ck.wd c id,aB:=max t.aB n }:=λn=>rfl
 obtain ⟨n,hn⟩:=h.step hN oZ (s':=Rt.drop id s) (k:=3) (jM oZ h1 oZ) oZ h2 (λ_=>h1) (by unfold Ck.bI;simp;rw [h.aG];exact hp) rfl (λn=>by rw [e,h.aG];rfl) (qdQ h.len h.zero h1 h2 _) (dX h.len _ _) (λn=>by rw [e];exact h.sav) (λn=>by rw [e];exact h.aN);rw [e] at hn;exact ⟨_,hn,rfl,rfl,rfl,rfl,rfl⟩
theorem Inv.emit (h:Inv c L s t) (hN:Net c L) (hL:1<=L) (hp:Ck.at_ s.aG c.aH=true) (he:t.em=false):
  ∃t',Inv c L (Rt.add 4 0 s) t'/\t'.sav=t.sav/\t'.aN=t.aN/\t'.em=true/\t'.done=t.done/\t'.sd=t.sd:=by
 have e:∀n,Ck.act c t 4 0 n={ t with em:=true,now:=n,aB:=max t.aB n }:=λn=>rfl
 obtain ⟨n,hn⟩:=h.step hN hL (s':=Rt.add 4 0 s) (k:=4) (id:=0) rfl oZ oZ (λq=>by omega) (by unfold Ck.bI;simp;rw [h.aG];exact ⟨hp,he⟩) rfl (λn=>by rw [e,h.aG];rfl) h.zero h.len (λn=>by rw [e];exact h.sav) (λn=>by rw [e];exact h.aN);rw [e] at hn;exact ⟨_,hn,rfl,rfl,rfl,rfl,rfl⟩
theorem Inv.seed (h:Inv c L s t) (hN:Net c L) (hL:1<=L) (he:t.sd=false):
  ∃t',Inv c L (Rt.add 5 0 s) t'/\t'.sav=t.sav/\t'.aN=Ck.bO t.aN c.aH true/\t'.em=t.em/\t'.done=t.done:=by
 have e:∀n,Ck.act c t 5 0 n={ t with sd:=true,aN:=Ck.bO t.aN c.aH true,now:=n,aB:=max t.aB n }:=λn=>rfl
 obtain ⟨n,hn⟩:=h.step hN hL (s':=Rt.add 5 0 s) (k:=5) (id:=0) rfl oZ oZ (λq=>by omega) (by unfold Ck.bI;simp;exact he) rfl (λn=>by rw [e,h.aG];rfl) h.zero h.len (λn=>by rw [e];exact h.sav) (λn=>by rw [e];exact dX h.aN _ _);rw [e] at hn;exact ⟨_,hn,rfl,rfl,rfl,rfl⟩
theorem mG:∀(f l:List Bool) (g:List Int),l.length=L->(Ck.sets l g).length=L
 | _,l,[],h=>h
 | f,l,z::r,h=>mG f _ r (dX h z true)
theorem Inv.back (h:Inv c L s t) (hN:Net c L) {id:Int} (h1:1<=id) (h2:id<L) (hlg:Ck.bI c t 6 id=true):
  ∃t',Inv c L (Rt.add 6 id s) t'/\t'.sav=t.sav/\t'.aN=Ck.bO (Ck.sets t.aN (Ck.fresh c t id)) id false/\t'.em=t.em/\t'.done=t.done+1:=by
 have ht:=hN.top;have e:∀n,Ck.act c t 6 id n={ t with aN:=Ck.bO (Ck.sets t.aN (Ck.fresh c t id)) id false,now:=n-Ck.wd c id,aB:=max t.aB n,done:=t.done+1 }:=λn=>rfl
 obtain ⟨n,hn⟩:=h.step hN oZ (s':=Rt.add 6 id s) (k:=6) (jM oZ h1 oZ) oZ h2 (λ_=>h1) hlg rfl (λn=>by rw [e,h.aG];rfl) h.zero h.len (λn=>by rw [e];exact h.sav) (λn=>by rw [e];exact dX (mG [] _ _ h.aN) _ _);rw [e] at hn;exact ⟨_,hn,rfl,rfl,rfl,rfl⟩
theorem Inv.aQ (hN:Net c L) (f:Int->Bool) (h:Inv c L s t):∀m:Nat,m<L->∃t',Inv c L (Rt.aQ f m s) t'/\t'.sav=t.sav/\t'.aN=t.aN/\t'.em=t.em/\t'.done=t.done/\t'.sd=t.sd
 | 0,_=>⟨t,h,rfl,rfl,rfl,rfl,rfl⟩
 | m+1,hm=>by
  obtain ⟨t1,i1,a1,a2,a3,a4,a5⟩:=Inv.aQ hN f h m oZ;rw [qaG]
  split
  ·rename_i hc
   simp at hc;obtain ⟨t2,i2,b1,b2,b3,b4,b5⟩:=i1.drop hN (id:=(m:Int)+1) oZ oZ hc.1;exact ⟨t2,i2,by rw [b1,a1],by rw [b2,a2],by rw [b3,a3],by rw [b4,a4],by rw [b5,a5]⟩
  ·exact ⟨t1,i1,a1,a2,a3,a4,a5⟩
theorem qbn {f:Int->Bool} (hl:s.aG.length=L) {z:Int} (h0:0<=z) (hf:f z=false) (hp:Ck.at_ s.aG z=true):∀m:Nat,m<L->Ck.at_ (Rt.aQ f m s).aG z=true
 | 0,_=>hp
 | m+1,hm=>by
  have ih:=qbn hl h0 hf hp m oZ;rw [qaG]
  split
  ·rename_i hc
   show Ck.at_ (Ck.bO _ _ false) z=true
   rw [eB.dS (L:=L) (by rw [qbl];exact hl) oZ oZ h0]
   split
   ·rename_i e;subst e;rw [hf] at hc;simp at hc
   ·exact ih
  ·exact ih
end
end Rw
namespace Rw
open Rt
structure Ord (c:CkN) (L:Nat) (I:Int->List Int) (r:Int->Nat) (order:List Int):Prop where
 ins:∀id,Ck.iF c id=I id∨¬(1<=id/\id<L)
 ord:c.order=order
 rng:∀u∈order,1<=u/\u<L
 all:∀u:Int,1<=u->u<L->u∈order
 nod:order.Nodup
 ok:Ok I r L
 behind:∀k,k<order.length->∀i∈I (order.getD k 0),i=0∨i∈order.take k
 aH:1<=c.aH/\c.aH<L
 user:∀k,k<order.length->order.getD k 0=c.aH∨pend I (order.getD k 0) (order.drop (k+1))=true
theorem qbf (g:List Bool):∀(r acc:List Int) (z:Int),z∈Ck.bD g acc r->z∈acc∨z∈r
 | [],_,_,h=>.inl h
 | i::r,acc,z,h=>by
  unfold Ck.bD at h
  split at h
  ·rcases qbf g r _ z h with q|q
   ·rcases List.mem_append.1 q with q|q
    ·exact .inl q
    ·simp at q;subst q;exact .inr sZ
   ·exact .inr (by simp [q])
  ·rcases qbf g r _ z h with q|q
   ·exact .inl q
   ·exact .inr (by simp [q])
section
variable {c:CkN} {L:Nat} {I:Int->List Int} {r:Int->Nat} {order:List Int}
theorem qhO (h:Ord c L I r order) {k:Nat} (hk:k<order.length):1<=order.getD k 0/\order.getD k 0<L/\order.getD k 0=order[k]:=by
 have e:=Rt.get_at hk;have:=h.rng _ (gmZ hk);rw [e];exact ⟨this.1,this.2,rfl⟩
theorem iW {z:Int} {l:List Int}:pend I z l=true↔∃u∈l,z∈I u:=by
 unfold pend;rw [List.any_eq_true];simp
theorem qhP (hN:Net c L) (hO:Ord c L I r order) {f:Nat->Int->Bool} {N:Nat} (hNL:N<L) {s:RtS} {t:CkS} (h:Inv c L s t) (hs:t.sav=Zc L false)
  (hf:∀k z,f k z=true->z≠c.aH/\pend I z (order.drop (k+1))=false):
  ∀k,k<=order.length->∃t',Inv c L (Rt.fwd order N f k s) t'/\t'.aN=t.aN/\t'.em=t.em/\t'.done=t.done/\t'.sd=t.sd/\(∀z:Int,0<=z->z<L->(Ck.at_ t'.sav z=true↔z∈order.take k))/\
   ∀z∈order.take k,(z=c.aH∨pend I z (order.drop k)=true)->Ck.at_ (Rt.fwd order N f k s).aG z=true
 | 0,_=>⟨t,h,rfl,rfl,rfl,rfl,λz z0 z1=>by
   rw [hs];unfold Ck.at_;rw [gdZ,List.getElem?_replicate]
   split<;>simp,λz hz=>by simp at hz⟩
 | k+1,hk=>by
  obtain ⟨t1,i1,a1,a2,a3,a4,a5,a6⟩:=qhP hN hO hNL h hs hf k oZ;have ha:k<order.length:=by omega
  obtain ⟨u1,u2,ue⟩:=qhO hO ha;have ht:=Zb ha;have hd:=Zd ha;have hb:=hO.behind k ha;have hI:Ck.iF c (order.getD k 0)=I (order.getD k 0):=(hO.ins _).resolve_right (λq=>q ⟨u1,u2⟩)
  have he:order[k]∉order.take k:=λq=>by
   have hc:=hO.nod.sublist (List.take_sublist (k+1) order);rw [ht,List.nodup_append] at hc;exact hc.2.2 _ q _ sZ rfl
  rw [show Rt.fwd order N f (k+1) s=Rt.aQ (f k) N (Rt.comp 1 (order.getD k 0) (Rt.fwd order N f k s)) from rfl];obtain ⟨u,hu⟩:∃u,order.getD k 0=u:=⟨_,rfl⟩
  rw [hu] at hb hI u1 u2 ue ⊢;subst ue;generalize Rt.fwd order N f k s=s1 at *
  obtain ⟨t2,i2,b1,b2,b3,b4,b5⟩:=i1.comp hN (k:=1) (.inl rfl) u1 u2 (by
   unfold Ck.bI;rw [ipZ rfl,Zz];refine ⟨?_,?_⟩
   ·have:¬Ck.at_ t1.sav order[k]=true:=λq=>he ((a5 _ oZ u2).1 q)
    simpa using this
   ·unfold Ck.ready
    rw [Zf,hI,i1.aG];intro i hi;rcases hb i hi with rfl|hm
    ·exact i1.zero
    ·exact a6 i hm (.inr (iW.2 ⟨order[k],by rw [hd];exact List.mem_cons_self,hi⟩)))
  obtain ⟨t3,i3,c1,c2,c3,c4,c5⟩:=i2.aQ hN (f k) N hNL;refine ⟨t3,i3,by rw [c2,b2,a1],by rw [c3,b3,a2],by rw [c4,b4,a3],by rw [c5,b5,a4],λz z0 z1=>?_,λz hz hq=>?_⟩
  ·rw [c1,b1,eB.dS i1.sav oZ u2 z0,ht,List.mem_append,←a5 z z0 z1]
   by_cases e:z=order[k]
   ·simp [e]
   ·simp [e]
  ·have hh:=hO.rng z (Zh hz)
   refine qbn i2.len oZ ?_ ?_ N hNL
   ·cases hv:f k z with
    | false=>rfl
    | true=>
     obtain ⟨q1,q2⟩:=hf k z hv;rcases hq with hq|hq
     ·exact absurd hq q1
     ·rw [q2] at hq;cases hq
   ·show Ck.at_ (Ck.bO s1.aG order[k] true) z=true
    rw [eB.dS i1.len oZ u2 oZ]
    by_cases e:z=order[k]
    ·rw [ipZ e]
    ·rw [inZ e]
     rw [ht,List.mem_append] at hz;refine a6 z (hz.resolve_right (by simp [e])) ?_;rcases hq with hq|hq
     ·exact .inl hq
     ·obtain ⟨u,hu,hg⟩:=iW.1 hq
      exact .inr (iW.2 ⟨u,by rw [hd];exact List.mem_cons_of_mem _ hu,hg⟩)
structure Fet (c:CkN) (L:Nat) (s:RtS) (t:CkS) (s':RtS) (t':CkS):Prop where
 inv:Inv c L s' t'
 sav:∀z:Int,1<=z->z<L->Ck.at_ t'.sav z=true
 aN:t'.aN=t.aN
 em:t'.em=t.em
 done:t'.done=t.done
 mono:∀z:Int,0<=z->Ck.at_ s.aG z=true->Ck.at_ s'.aG z=true
theorem Fet.trans {s s1 s2:RtS} {t t1 t2:CkS} (h:Fet c L s t s1 t1) (k:Fet c L s1 t1 s2 t2):Fet c L s t s2 t2:=
 ⟨k.inv,k.sav,by rw [k.aN,h.aN],by rw [k.em,h.em],by rw [k.done,h.done],λz z0 hz=>k.mono z z0 (h.mono z z0 hz)⟩
theorem qeD (hN:Net c L) (hO:Ord c L I r order):∀(m:Nat) (id:Int) {s:RtS} {t:CkS},Inv c L s t->(∀z:Int,1<=z->z<L->Ck.at_ t.sav z=true)->0<=id->id<L->(id=0∨r id<m)->
  ∃t',Fet c L s t (Rt.fetch I m id s) t'/\Ck.at_ (Rt.fetch I m id s).aG id=true/\∀z:Int,0<=z->Ck.at_ (Rt.fetch I m id s).aG z=true->Ck.at_ s.aG z=true∨r z<=r id
 | 0,id,s,t,h,hs,h0,h1,hr=>by
  have e:id=0:=by omega
  subst e;exact ⟨t,⟨h,hs,rfl,rfl,rfl,λ_ _ hz=>hz⟩,h.zero,λz _ hz=>.inl hz⟩
 | m+1,id,s,t,h,hs,h0,h1,hr=>by
  rw [eD]
  by_cases hp:Ck.at_ s.aG id=true
  ·rw [ipZ hp]
   exact ⟨t,⟨h,hs,rfl,rfl,rfl,λ_ _ hz=>hz⟩,hp,λz _ hz=>.inl hz⟩
  ·rw [inZ hp]
   have hd:id≠0:=λe=>hp (by rw [e];exact h.zero)
   have hI:Ck.iF c id=I id:=(hO.ins _).resolve_right (λq=>q ⟨by omega,h1⟩)
   have fold:∀(l:List Int) {s:RtS} {t:CkS},Inv c L s t->(∀z:Int,1<=z->z<L->Ck.at_ t.sav z=true)->(∀i∈l,(0<=i/\i<L)/\(i≠0->r i<r id))->
     ∃t',Fet c L s t (l.foldl (λs i=>Rt.fetch I m i s) s) t'/\(∀i∈l,Ck.at_ (l.foldl (λs i=>Rt.fetch I m i s) s).aG i=true)/\∀z:Int,0<=z->Ck.at_ (l.foldl (λs i=>Rt.fetch I m i s) s).aG z=true->Ck.at_ s.aG z=true∨r z<r id:=by
    intro l
    induction l with
    | nil=>intro s t h hs _;exact ⟨t,⟨h,hs,rfl,rfl,rfl,λ_ _ hz=>hz⟩,λi hi=>(by cases hi),λz _ hz=>.inl hz⟩
    | cons i l ih=>
     intro s t h hs hi;have hb:=hi i sZ
     obtain ⟨t1,f1,p1,n1⟩:=qeD hN hO m i h hs hb.1.1 hb.1.2 (by
      by_cases e:i=0
      ·exact .inl e
      ·have:=hb.2 e;exact .inr oZ)
     obtain ⟨t2,f2,p2,n2⟩:=ih f1.inv f1.sav (λj hj=>hi j (by simp [hj]));refine ⟨t2,f1.trans f2,λj hj=>?_,λz z0 hz=>?_⟩
     ·rcases List.mem_cons.1 hj with rfl|hj
      ·exact f2.mono _ hb.1.1 p1
      ·exact p2 j hj
     ·rcases n2 z z0 hz with q|q
      ·by_cases e:i=0
       ·subst e
        rw [qdP m h.zero] at q;exact .inl q
       ·rcases n1 z z0 q with q|q
        ·exact .inl q
        ·have:=hb.2 e;exact .inr oZ
      ·exact .inr q
   obtain ⟨t1,f1,p1,n1⟩:=fold (I id) h hs (λi hi=>⟨hO.ok.rng id oZ h1 i hi,hO.ok.lt id oZ h1 i hi⟩);generalize (I id).foldl (λs i=>Rt.fetch I m i s) s=s1 at *
   have hc:¬Ck.at_ s1.aG id=true:=λq=>by
    rcases n1 id h0 q with q|q
    ·exact hp q
    ·omega
   obtain ⟨t2,i2,b1,b2,b3,b4,b5⟩:=f1.inv.comp hN (k:=2) (.inr rfl) oZ h1 (by
    unfold Ck.bI;rw [inZ dZ,ipZ rfl,Zz,Zz];refine ⟨f1.sav id oZ h1,by rw [f1.inv.aG];simpa using hc,?_⟩;unfold Ck.ready;rw [Zf,hI,f1.inv.aG];exact p1)
   have ha:∀z:Int,0<=z->Ck.at_ (Rt.comp 2 id s1).aG z=if z=id then true else Ck.at_ s1.aG z:=λz z0=>eB.dS f1.inv.len h0 h1 z0 true
   refine ⟨t2,⟨i2,λz z0 z1=>?_,by rw [b2,f1.aN],by rw [b3,f1.em],by rw [b4,f1.done],λz z0 hz=>?_⟩,?_,λz z0 hz=>?_⟩
   ·rw [b1,eB.dS f1.inv.sav h0 h1 oZ]
    split
    ·rfl
    ·exact f1.sav z z0 z1
   ·rw [ha z z0]
    split
    ·rfl
    ·exact f1.mono z z0 hz
   ·rw [ha id h0,ipZ rfl]
   ·rw [ha z z0] at hz
    by_cases e:z=id
    ·exact .inr (by rw [e];exact lrZ _)
    ·rw [inZ e] at hz
     rcases n1 z z0 hz with q|q
     ·exact .inl q
     ·exact .inr oZ
theorem qcR (hN:Net c L) (hO:Ord c L I r order) (m:Nat):∀(l:List Int) {s:RtS} {t:CkS},Inv c L s t->(∀z:Int,1<=z->z<L->Ck.at_ t.sav z=true)->(∀i∈l,(0<=i/\i<L)/\(i=0∨r i<m))->
  ∃t',Fet c L s t (l.foldl (λs i=>Rt.fetch I m i s) s) t'/\∀i∈l,Ck.at_ (l.foldl (λs i=>Rt.fetch I m i s) s).aG i=true
 | [],s,t,h,hs,_=>⟨t,⟨h,hs,rfl,rfl,rfl,λ_ _ hz=>hz⟩,λi hi=>(by cases hi)⟩
 | i::l,s,t,h,hs,hi=>by
  have ha:=hi i sZ;obtain ⟨t1,f1,p1,_⟩:=qeD hN hO m i h hs ha.1.1 ha.1.2 ha.2;obtain ⟨t2,f2,p2⟩:=qcR hN hO m l f1.inv f1.sav (λj hj=>hi j (by simp [hj]));refine ⟨t2,f1.trans f2,λj hj=>?_⟩;rcases List.mem_cons.1 hj with rfl|hj
  ·exact f2.mono _ ha.1.1 p1
  ·exact p2 j hj
theorem qcS {g:List Bool} {z:Int} (h0:z≠0) (hg:Ck.at_ g z=false):∀(ins acc:List Int),z∈acc∨z∈ins->z∈Ck.bD g acc ins
 | [],acc,h=>h.resolve_right sZ
 | i::r,acc,h=>by
  unfold Ck.bD
  split
  ·rename_i hc
   refine qcS h0 hg r _ ?_;rcases h with h|h
   ·exact .inl (by simp [h])
   ·rcases List.mem_cons.1 h with rfl|h
    ·exact .inl sZ
    ·exact .inr h
  ·rename_i hc
   refine qcS h0 hg r _ ?_;rcases h with h|h
   ·exact .inl h
   ·rcases List.mem_cons.1 h with rfl|h
    ·refine .inl ?_
     have:=λq=>hc ⟨h0,hg,q⟩
     simpa using this
    ·exact .inr h
theorem qg4 {z:Int} (z0:0<=z):∀(f:List Int) (b:List Bool),b.length=L->(∀y∈f,0<=y/\y<L)->(Ck.at_ b z=true∨z∈f)->Ck.at_ (Ck.sets b f) z=true
 | [],b,_,_,h=>h.resolve_right sZ
 | y::r,b,hl,hf,h=>by
  have hy:=hf y sZ;refine qg4 z0 r (Ck.bO b y true) (dX hl _ _) (λx hx=>hf x (by simp [hx])) ?_;rw [eB.dS hl hy.1 hy.2 z0];rcases h with h|h
  ·left;split
   ·rfl
   ·exact h
  ·rcases List.mem_cons.1 h with rfl|h
   ·left;rw [ipZ rfl]
   ·exact .inr h
theorem qhQ (hN:Net c L) (hO:Ord c L I r order) {b:Nat->Int->Bool} {M N:Nat} (hNL:N<L) (hM:∀u:Int,1<=u->u<L->r u<M) {s:RtS} {t:CkS} (h:Inv c L s t) (hs:∀z:Int,1<=z->z<L->Ck.at_ t.sav z=true)
  (he:t.em=true) (hd:t.done=0) (hg:Ck.at_ t.aN c.aH=true):
  ∀k,k<=order.length->∃t',Inv c L (Rt.bwd I order M N b k s) t'/\(∀z:Int,1<=z->z<L->Ck.at_ t'.sav z=true)/\t'.em=true/\t'.done=k/\
   ∀z∈order.take (order.length-k),(z=c.aH∨pend I z (order.drop (order.length-k))=true)->Ck.at_ t'.aN z=true
 | 0,_=>⟨t,h,hs,he,hd,λz hz hq=>by
   rcases hq with rfl|hq
   ·exact hg
   ·rw [Nat.sub_zero,List.drop_length] at hq;cases hq⟩
 | k+1,hk=>by
  obtain ⟨t1,i1,a1,a2,a3,a4⟩:=qhQ hN hO hNL hM h hs he hd hg k oZ;have ha:order.length-1-k<order.length:=by omega
  obtain ⟨u1,u2,ue⟩:=qhO hO ha;have hb:=hO.user _ ha;have hI:Ck.iF c (order.getD (order.length-1-k) 0)=I (order.getD (order.length-1-k) 0):=(hO.ins _).resolve_right (λq=>q ⟨u1,u2⟩);have hv:order.length-k=order.length-1-k+1:=by omega
  have hr:order.length-(k+1)=order.length-1-k:=by omega
  have ht:=Zb ha;have hl:=Zd ha
  have hf:order[order.length-1-k]∉order.take (order.length-1-k):=λq=>by
   have hm:=hO.nod.sublist (List.take_sublist (order.length-1-k+1) order);rw [ht,List.nodup_append] at hm;exact hm.2.2 _ q _ sZ rfl
  rw [show Rt.bwd I order M N b (k+1) s=Rt.aQ (b (order.length-k)) N (Rt.add 6 (order.getD (order.length-1-k) 0) ((I (order.getD (order.length-1-k) 0)).foldl (λs i=>Rt.fetch I M i s) (Rt.bwd I order M N b k s))) from rfl];rw [hv] at a4 ⊢;rw [hr];obtain ⟨j,hj⟩:∃j,order.length-1-k=j:=⟨_,rfl⟩
  rw [hj] at ha;simp only [hj] at ht hl hf hb u1 u2 ue hI a4 ⊢;obtain ⟨u,hu⟩:∃u,order.getD j 0=u:=⟨_,rfl⟩
  rw [hu] at hb hI u1 u2 ue ⊢;subst ue;have hc:=hO.ok.rng _ u1 u2
  obtain ⟨t2,f2,p2⟩:=qcR hN hO M (I order[j]) i1 a1 (λi hi=>⟨hc i hi,by
   by_cases e:i=0
   ·exact .inl e
   ·have:=hc i hi;exact .inr (hM i oZ this.2)⟩)
  generalize (I order[j]).foldl (λs i=>Rt.fetch I M i s) (Rt.bwd I order M N b k s)=s2 at *
  have hp:Ck.at_ t2.aN order[j]=true:=by
   rw [f2.aN];refine a4 _ (by rw [ht];exact List.mem_append.2 (.inr List.mem_cons_self)) ?_;rcases hb with q|q
   ·exact .inl q
   ·exact .inr q
  obtain ⟨t3,i3,b1,b2,b3,b4⟩:=f2.inv.back hN (id:=order[j]) u1 u2 (by
   unfold Ck.bI;rw [inZ dZ,inZ dZ,inZ dZ,inZ dZ,inZ dZ,ipZ rfl,Zz,Zz];refine ⟨hp,?_,?_⟩
   ·unfold Ck.ready
    rw [Zf,hI,f2.inv.aG];exact p2
   ·unfold Ck.back
    rw [decide_eq_true_iff,hO.ord,f2.done,a3];refine ⟨by omega,?_⟩;rw [hj,hu])
  obtain ⟨t4,i4,c1,c2,c3,c4,_⟩:=i3.aQ hN (b (j+1)) N hNL;refine ⟨t4,i4,λz z0 z1=>by rw [c1,b1];exact f2.sav z z0 z1,by rw [c3,b3,f2.em,a2],by rw [c4,b4,f2.done,a3],λz hz hq=>?_⟩;have hw:=hO.rng z (Zh hz);have hn:z≠order[j]:=λe=>hf (by rw [←e];exact hz)
  rw [c2,b2]
  have ho:∀y∈Ck.fresh c t2 order[j],0<=y/\y<L:=λy hy=>by
   rcases qbf _ _ _ _ hy with q|q
   ·cases q
   ·rw [hI] at q;exact hc y q
  rw [eB.dS (mG [] _ _ f2.inv.aN) oZ u2 oZ,inZ hn];refine qg4 oZ _ _ f2.inv.aN ho ?_;cases hgz:Ck.at_ t2.aN z with
  | true=>exact .inl rfl
  | false=>
   right
   unfold Ck.fresh;refine qcS oZ hgz _ _ (.inr ?_);rw [hI];rcases hq with hq|hq
   ·rw [f2.aN,a4 z (by rw [ht];exact List.mem_append.2 (.inl hz)) (.inl hq)] at hgz;cases hgz
   ·obtain ⟨u,hu,hh⟩:=iW.1 hq
    rw [hl] at hu;rcases List.mem_cons.1 hu with rfl|hu
    ·exact hh
    ·rw [f2.aN,a4 z (by rw [ht];exact List.mem_append.2 (.inl hz)) (.inr (iW.2 ⟨u,hu,hh⟩))] at hgz;cases hgz
end
end Rw
end Go.Proofs.YtddkenhemnkkeaaGreat
