/- Lemmas for the statements of this seat: contracts of functions and the plain laws. -/
import Derived.BigQuiet
import Derived.Carry
import Derived.ChangeKeysEq
import Derived.ChangeSame
import Derived.Deep.AppendLies
import Derived.Deep.DeepCutAuto
import Derived.Deep.Draws
import Derived.Deep.Fields
import Derived.Deep.OwnRows
import Derived.Deep.QuietTactic
import Derived.Deep.RegionHeld3
import Derived.Deep.RegionLaw
import Derived.Deep.Slices
import Derived.DeepKeys4
import Derived.Ground.Names2Prog
import Derived.Ground.SlgnProg
import Derived.KernelRfl
import Derived.Laws.CopyOwn
import Derived.Lib.Hide
import Derived.Maps.AppendAt
import Derived.Maps.Keyed
import Derived.OpenShut
import Derived.ProofKit
import Derived.Shelf.Slices.Cells
import Derived.Shelf.Slices.Clone
import Derived.Shelf.Slices.Delete
import Derived.Shelf.Slices.Empties
import Derived.Shelf.Slices.In.SortNone
import Derived.Shelf.Slices.Reverse
import Derived.Shelf.Slices.SearchI
import Derived.Shelf.Slices.Turned
import Derived.Shelf.SlicesE.Clone
import Derived.Shelf.Small.Bits
import Derived.Shelf.Small.Wraps
import Derived.Shelf.Sort.Plain
import Derived.Shelf.Spec.SlicesInsert
import Derived.Shelf.Spec.SlicesInsertGrow
import Derived.Shelf.Strconv.Itoa0
import Derived.Sort.OwnSortedInts
import Derived.StillTailTactics
import Derived.WalkKit
import Derived.WalkLawsBesides
import Derived.WalkSpells
import Derived.Test.YtddkenhemnkkeaaGreatChecked
import Derived.Test.YtddkenhemnkkeaaGreatProg
import Derived.Test.YtddkenhemnkkeaaGreatRows
set_option linter.unusedVariables false
open Go.IntKind renaming i64 → iQ
open Go.Value renaming int → nQ, slice → sQ
open List renaming take_succ_eq_append_getElem → Zb, replicate → Zc, drop_eq_getElem_cons → Zd, length_append → Ze, all_eq_true → Zf, take_length → Zg, mem_of_mem_take → Zh, getElem?_eq_none → Zi, flatMap_append → Zj, getElem?_toArray → Zk, getElem?_append_right → Zl, getElem?_append_left → Zm, take_append_drop → Zn, length_take → Zo, mem_of_mem_drop → Zp, length_drop → Zq, getElem?_set_self → Zr, getElem?_set_ne → Zs
open Nat renaming zero_le → Zt, succ_mul → Zu, le_trans → Zv, zero_add → Zw, add_zero → Zx, le_succ → Zy
open Bool renaming and_eq_true → Zz
open Go.Value renaming int → Za1, slice → Zb1
open Go.IntWalk renaming i64_in → Zc1
open Go.NoPanic renaming normal → Zd1
open Go.RowKit.Below renaming refl → Ze1
open Go.AllReadyH renaming cons → Zf1, nil → Zg1
open Go.World renaming size_alloc → Zh1, cell?_of_block → Zi1, block_lt_of_cell? → Zj1
open Go renaming bodyPost_ret → Zk1, wp_region_held_drew → Zl1, wp_region_noPanic → Zm1, wpAnyH_done → Zn1, wpAnyH_ready → Zo1, World → Zp1
open Go.Proofs.Tryz
namespace Go.Proofs.YtddkenhemnkkeaaGreat
open Go.RowKit
theorem zd2 {A B:Prop} (a:A) (b:B):RowKit.Hid A∧RowKit.Hid B:=⟨Lib.hid a,Lib.hid b⟩
theorem zd3 {A B C:Prop} (a:A) (b:B) (c:C):RowKit.Hid A∧RowKit.Hid B∧RowKit.Hid C:=⟨Lib.hid a,Lib.hid b,Lib.hid c⟩
theorem zd4 {A B C D:Prop} (a:A) (b:B) (c:C) (d:D):RowKit.Hid A∧RowKit.Hid B∧RowKit.Hid C∧RowKit.Hid D:=⟨Lib.hid a,Lib.hid b,Lib.hid c,Lib.hid d⟩
theorem zd5 {A B C D E:Prop} (a:A) (b:B) (c:C) (d:D) (e:E):RowKit.Hid A∧RowKit.Hid B∧RowKit.Hid C∧RowKit.Hid D∧RowKit.Hid E:=⟨Lib.hid a,Lib.hid b,Lib.hid c,Lib.hid d,Lib.hid e⟩
theorem zd6 {A B C D E F:Prop} (a:A) (b:B) (c:C) (d:D) (e:E) (f:F):RowKit.Hid A∧RowKit.Hid B∧RowKit.Hid C∧RowKit.Hid D∧RowKit.Hid E∧RowKit.Hid F:=⟨Lib.hid a,Lib.hid b,Lib.hid c,Lib.hid d,Lib.hid e,Lib.hid f⟩
theorem zd7 {A B C D E F G:Prop} (a:A) (b:B) (c:C) (d:D) (e:E) (f:F) (g:G):RowKit.Hid A∧RowKit.Hid B∧RowKit.Hid C∧RowKit.Hid D∧RowKit.Hid E∧RowKit.Hid F∧RowKit.Hid G:=⟨Lib.hid a,Lib.hid b,Lib.hid c,Lib.hid d,Lib.hid e,Lib.hid f,Lib.hid g⟩
theorem zd8 {A B C D E F G H:Prop} (a:A) (b:B) (c:C) (d:D) (e:E) (f:F) (g:G) (h:H):RowKit.Hid A∧RowKit.Hid B∧RowKit.Hid C∧RowKit.Hid D∧RowKit.Hid E∧RowKit.Hid F∧RowKit.Hid G∧RowKit.Hid H:=⟨Lib.hid a,Lib.hid b,Lib.hid c,Lib.hid d,Lib.hid e,Lib.hid f,Lib.hid g,Lib.hid h⟩
theorem zd9 {A B C D E F G H I:Prop} (a:A) (b:B) (c:C) (d:D) (e:E) (f:F) (g:G) (h:H) (i:I):RowKit.Hid A∧RowKit.Hid B∧RowKit.Hid C∧RowKit.Hid D∧RowKit.Hid E∧RowKit.Hid F∧RowKit.Hid G∧RowKit.Hid H∧RowKit.Hid I:=⟨Lib.hid a,Lib.hid b,Lib.hid c,Lib.hid d,Lib.hid e,Lib.hid f,Lib.hid g,Lib.hid h,Lib.hid i⟩
theorem zI {p:Prop} (h:p):RowKit.Hid p:=h
theorem lrZ (n:Nat):n<=n:=Nat.le_refl n
theorem gdZ {α:Type _} {l:List α} {i:Nat} {a:α}:l.getD i a=l[i]?.getD a:=List.getD_eq_getElem?_getD
theorem gmZ {α:Type _} {l:List α} {n:Nat} (h:n<l.length):l[n]∈l:=List.getElem_mem h
theorem geZ {α:Type _} {l:List α} {i:Nat} (h:i<l.length):l[i]?=some l[i]:=List.getElem?_eq_getElem h
theorem ezZ {a:Int} (h:0<=a):∃n:Nat,a=n:=Int.eq_ofNat_of_zero_le h
theorem mlZ {m n:Nat} (k:Nat) (h:m<=n):m*k<=n*k:=Nat.mul_le_mul_right k h
theorem tnZ (n:Nat):(n:Int).toNat=n:=Int.toNat_natCast n
theorem ltZ {n m k:Nat} (h:n<m) (h2:m<=k):n<k:=Nat.lt_of_lt_of_le h h2
theorem ipZ {c:Prop} {h:Decidable c} (hc:c) {α:Sort _} {t e:α}:ite c t e=t:=if_pos hc
theorem inZ {c:Prop} {h:Decidable c} (hc:¬c) {α:Sort _} {t e:α}:ite c t e=e:=if_neg hc
theorem oZ {p:Prop} (h:p:=by omega):p:=h
theorem sZ {p:Prop} (h:p:=by simp):p:=h
theorem dZ {p:Prop} (h:p:=by decide):p:=h
theorem krZ {p:Prop} (h:p:=by kernel_rfl):p:=h
theorem soZ {p:Prop} (h:p:=by simp;omega):p:=h
set_option maxHeartbeats 16000000
set_option maxRecDepth 20000
open Go.RowKit
theorem enters {P:Program} {f:FuncId} {fn:Func} {c:Code} (hf:P.funcs[f]? = some fn) (hname:(fn.name == "runtime.NumGoroutine")=false) (hb:fn.body=some c) (args:Array Value) (w:Zp1):
  (callFunc f args).run P w=.ok (.enter f args) w:=by
 have h1:fn.name ≠ "runtime.NumGoroutine" := by simpa using hname
 simp [callFunc,hf,h1,hb]
theorem qac {B:Nat} {a w:Zp1} (h:Below B a w) (n:Nat):Below B a (w.drewN n):=⟨h.os,h.tape,h.output,h.size,h.block⟩
def Blk (w:Zp1) (g:Nat) (t:TypeId) (cs:Array Value):Prop:=w.heap[g]? = some (.cells cs t (0,0))
section
variable {w w':Zp1} {g:Nat} {t:TypeId} {cs:Array Value}
theorem Blk.lt (h:Blk w g t cs):g<w.heap.size:=lt_of_block h
theorem Blk.cell (h:Blk w g t cs) (i:Nat):w.cell? ⟨g,i,none⟩=cs[i]?:=cell_of_row w g i cs t (0,0) h
theorem Blk.frozen (h:Blk w g t cs) (i:Nat):w.frozen? ⟨g,i,none⟩=false:=by
 unfold Blk at h;simp [World.frozen?,h]
theorem Blk.new (w:Zp1) (t:TypeId) (cs:Array Value):Blk (w.alloc (.cells cs t)) w.heap.size t cs:=heap_alloc_new w _
theorem Blk.drew (h:Blk w g t cs):Blk w.drew g t cs:=h
theorem Blk.drewN (h:Blk w g t cs) (n:Nat):Blk (w.drewN n) g t cs:=h
theorem Blk.alloc (h:Blk w g t cs) (o:Obj):Blk (w.alloc o) g t cs:=(Below.heap_alloc w o g h.lt).trans h
theorem Blk.aO (h:Blk w g t cs) (i:Nat) (u:Value):Blk (w.setCell ⟨g,i,none⟩ u) g t (cs.setIfInBounds i u):=by
 unfold Blk at h ⊢;simp [World.setCell,Array.getElem?_modify,h]
theorem Blk.far (h:Blk w g t cs) {p:Addr} (hp:g≠p.block) (u:Value):Blk (w.setCell p u) g t cs:=(Below.heap_setCell w p u g hp).trans h
theorem Blk.below {B:Nat} (h:Blk w g t cs) (hb:Below B w w') (hg:g<B):Blk w' g t cs:=(hb.block g hg).trans h
theorem Blk.grown {row:Option Nat} (h:Blk w g t cs) (hb:w.grownBy w' row) (hg:some g≠row):Blk w' g t cs:=(hb.block g h.lt hg).trans h
end
def Ints (k:IntKind) (w:Zp1) (A:Option Addr) (zs:List Int):Prop:=
 ∀j,j<zs.length->∃b off,A=some ⟨b,off,none⟩/\b<w.heap.size/\w.cell? ⟨b,off+j,none⟩=some (.int k (zs.getD j 0))
section
variable {k:IntKind} {w w':Zp1} {A:Option Addr} {zs:List Int}
theorem Ints.nil:Ints k w A []:=λj hj=>by simp at hj
theorem Ints.below {B:Nat} (h:Ints k w A zs) (hb:Below B w w') (hB:w.heap.size<=B):Ints k w' A zs:=λj hj=>by
 obtain ⟨b,off,e,hl,hc⟩:=h j hj;exact ⟨b,off,e,ltZ hl hb.size,(hb.cell (p:=⟨b,off+j,none⟩) (ltZ hl hB)).trans hc⟩
theorem Ints.alloc (h:Ints k w A zs) (o:Obj):Ints k (w.alloc o) A zs:=h.below ((Ze1 _ _).alloc (lrZ _) o) (lrZ _)
theorem Ints.drew (h:Ints k w A zs):Ints k w.drew A zs:=h
theorem Ints.drewN (h:Ints k w A zs) (n:Nat):Ints k (w.drewN n) A zs:=h
theorem Ints.dV {b off:Nat} (hc:∀j,j<zs.length->w.cell? ⟨b,off+j,none⟩=some (.int k (zs.getD j 0))):Ints k w (some ⟨b,off,none⟩) zs:=
 λj hj=>⟨b,off,rfl,Zj1 _ _ (hc j hj),hc j hj⟩
end
theorem qbt {k:IntKind} {a b:Int} (h:a=b):Ending.returned (.int k a)=.returned (.int k b):=by rw [h]
theorem qbB {a b:Bool} (h:a=b):Ending.returned (.bool a)=.returned (.bool b):=by rw [h]
theorem qdF {n:Int} (h:(Lit.int iQ n).wf=true) : -9223372036854775808<=n/\n<=9223372036854775807:=by
 have ha:iQ.min = -9223372036854775808:=rfl;have hb:iQ.max=9223372036854775807:=rfl;simp only [Lit.wf,Zz,decide_eq_true_eq] at h;omega
theorem Ints.jB {k:IntKind} {w:Zp1} {base:Nat} {e:TypeId} {v:Value} {n:Nat} {zs:List Int} (h:w.ownsRow base e 1 v n (zs.map (Za1 k))):
  ∃A c,v=sQ A zs.length c/\n=zs.length/\Ints k w A zs:=by
 have hn:zs.length=n:=by have:=h.1;simpa using this
 subst hn;rcases h.2 with ⟨rfl,h0⟩|⟨g,cap,cur,rfl,hb,hh,r1,r2,r3,r4⟩
 ·have:zs=[]:=List.eq_nil_of_length_eq_zero h0
  subst this;exact ⟨none,0,rfl,rfl,Ints.nil⟩
 ·refine ⟨_,cap,rfl,rfl,Ints.dV λj hj=>?_⟩
  rw [Zw,h.cellAt j (by simpa using hj)];simp [hj]
theorem qap (w:Zp1) (t:TypeId) (v:Value):∀(j:Nat) (u:Value),[v][j]? = some u->(w.alloc (.cells #[v] t)).cell? (Addr.add ⟨w.heap.size,0,none⟩ j)=some u:=by
 intro j u hj
 match j,hj with
 | 0,hj=>simp at hj;subst hj;simp [Addr.add]
theorem one_new2 (w:Zp1) (o:Obj) (t:TypeId) (v:Value):∀(j:Nat) (u:Value),[v][j]? = some u->((w.alloc o).alloc (.cells #[v] t)).cell? (Addr.add ⟨w.heap.size+1,0,none⟩ j)=some u:=by
 have:=qap (w.alloc o) t v;rw [Zh1] at this;exact this
theorem qab {P:Program} {f:FuncId} {args:Array Value} {w:Zp1} {n:Nat} {v:Value}
  (h:Calls P f args (w.drewN n) λe w'=>e=.returned v/\w.drewN n=w'):Calls P f args (w.drewN n) λe w''=>e=.returned v/\∃m,w''=w.drewN m:=
 h.mono λ_ _ ⟨he,hm⟩=>⟨he,n,hm.symm⟩
theorem qbu {P:Program} {f:FuncId} {args:Array Value} {w:Zp1} {n:Nat} {v:Value}
  (h:Calls P f args (w.drewN n) λe w'=>e=.returned v/\∃m,w'=(w.drewN n).drewN m):Calls P f args (w.drewN n) λe w''=>e=.returned v/\∃m,w''=w.drewN m:=
 h.mono λ_ _ ⟨he,m,hm⟩=>⟨he,n+m,hm.trans (World.drewN_drewN _ _ _)⟩
namespace Safe
def top:Int:=1099511627776
theorem kP:top=1099511627776:=rfl
def ok (n:Int):Bool:=decide (0<=n/\n<=1099511627776)
theorem jV (n:Int):ok n=true↔0<=n/\n<=1099511627776:=by simp [ok]
def sum:List Int->Int
 | []=>0
 | x::r=>x+sum r
def prod:List Int->Int
 | []=>1
 | x::r=>x*prod r
theorem sum_append (a b:List Int):sum (a++b)=sum a+sum b:=by
 induction a with
 | nil=>simp [sum]
 | cons x r ih=>simp [sum,ih];omega
theorem qcA (a b:List Int):prod (a++b)=prod a*prod b:=by
 induction a with
 | nil=>simp [prod]
 | cons x r ih=>simp [prod,ih,Int.mul_assoc]
theorem sum_take_succ (zs:List Int) (k:Nat) (h:k<zs.length):sum (zs.take (k+1))=sum (zs.take k)+zs[k]:=by
 rw [Zb h,sum_append];simp [sum]
theorem prod_take_succ (zs:List Int) (k:Nat) (h:k<zs.length):prod (zs.take (k+1))=prod (zs.take k)*zs[k]:=by
 rw [Zb h,qcA];simp [prod]
theorem oQ (zs:List Int) (h:∀x∈zs,0<=x):0<=sum zs:=by
 induction zs with
 | nil=>simp [sum]
 | cons x r ih=>
  have h1:=h x sZ;have h2:=ih (λy hy=>h y (by simp [hy]));simp [sum];omega
theorem kH (zs:List Int) (h:∀x∈zs,1<=x):1<=prod zs:=by
 induction zs with
 | nil=>simp [prod]
 | cons x r ih=>
  have h1:=h x sZ;have h2:=ih (λy hy=>h y (by simp [hy]));have h3:0<x*prod r:=Int.mul_pos oZ oZ;simp [prod];omega
theorem qf3 (zs:List Int) (k:Nat) (h:∀x∈zs,0<=x):sum (zs.take k)<=sum zs:=by
 have e:sum zs=sum (zs.take k)+sum (zs.drop k):=by rw [←sum_append,Zn]
 have:=oQ (zs.drop k) (λx hx=>h x (Zp hx));omega
theorem qe2 (zs:List Int) (k:Nat) (h:∀x∈zs,1<=x):prod (zs.take k)<=prod zs:=by
 have e:prod zs=prod (zs.take k)*prod (zs.drop k):=by rw [←qcA,Zn]
 have h1:=kH (zs.drop k) (λx hx=>h x (Zp hx));have h2:=kH (zs.take k) (λx hx=>h x (Zh hx));rw [e];have:prod (zs.take k)*1<=prod (zs.take k)*prod (zs.drop k):=Int.mul_le_mul_of_nonneg_left h1 oZ;omega
def add (zs:List Int):Int × Int:=if zs.all ok then (if sum zs<=top then (sum zs,0) else (0,17)) else (0,11)
def mul (zs:List Int):Int × Int:=if zs.all ok then (if zs.all (· != 0) then (if prod zs<=top then (prod zs,0) else (0,17)) else (0,0)) else (0,11)
theorem all_getD {p:Int->Bool} {zs:List Int} (h:∀j,j<zs.length->p (zs.getD j 0)=true):zs.all p=true:=by
 rw [Zf];intro x hx;obtain ⟨i,hi,rfl⟩:=List.getElem_of_mem hx;have:=h i hi;simpa [hi] using this
theorem lV {p:Int->Bool} {zs:List Int} (h:zs.all p=true):∀j,j<zs.length->p (zs.getD j 0)=true:=by
 intro j hj;rw [Zf] at h;have:=h zs[j] (gmZ hj);simpa [hj] using this
theorem mP {p:Int->Bool} {zs:List Int} {j:Nat} (hj:j<zs.length) (h:p (zs.getD j 0)=false):zs.all p=false:=by
 rw [Bool.eq_false_iff];intro h2;rw [lV h2 j hj] at h;cases h
theorem qY {zs:List Int} (h:zs.all ok=true):∀x∈zs,0<=x:=λx hx=>by
 rw [Zf] at h;exact ((jV x).1 (h x hx)).1
theorem tX {zs:List Int} (h:zs.all ok=true) (h0:zs.all (· != 0)=true):∀x∈zs,1<=x:=λx hx=>by
 rw [Zf] at h h0;have h1:=((jV x).1 (h x hx)).1;have h2:=h0 x hx;simp at h2;omega
theorem add_range {zs:List Int} (h:zs.all ok=false):add zs=(0,11):=by simp [add,h]
theorem uE {zs:List Int} (h:zs.all ok=true) (k:Nat) (hs:top<sum (zs.take k)):add zs=(0,17):=by
 have:=qf3 zs k (qY h);rw [add,ipZ h,inZ oZ]
theorem uU {zs:List Int} (h:zs.all ok=true) (hs:sum zs<=top):add zs=(sum zs,0):=by
 rw [add,ipZ h,ipZ hs]
theorem mul_range {zs:List Int} (h:zs.all ok=false):mul zs=(0,11):=by simp [mul,h]
theorem mul_zero {zs:List Int} (h:zs.all ok=true) (h0:zs.all (· != 0)=false):mul zs=(0,0):=by simp [mul,h,h0]
theorem mul_big {zs:List Int} (h:zs.all ok=true) (h0:zs.all (· != 0)=true) (k:Nat) (hs:top<prod (zs.take k)):mul zs=(0,17):=by
 have:=qe2 zs k (tX h h0);rw [mul,ipZ h,ipZ h0,inZ oZ]
theorem sH {zs:List Int} (h:zs.all ok=true) (h0:zs.all (· != 0)=true) (hs:prod zs<=top):mul zs=(prod zs,0):=by
 rw [mul,ipZ h,ipZ h0,ipZ hs]
end Safe
namespace Safe
def qgh (m:Int):List Int->Int
 | []=>m
 | x::r=>qgh (if m<x then x else m) r
def max (zs:List Int):Int:=qgh 0 zs
theorem qe3 (a b:List Int):∀m,qgh m (a++b)=qgh (qgh m a) b:=by
 induction a with
 | nil=>intro m;rfl
 | cons x r ih=>intro m;simp [qgh,ih]
theorem max_take_succ (zs:List Int) (k:Nat) (h:k<zs.length):max (zs.take (k+1))=if max (zs.take k)<zs[k] then zs[k] else max (zs.take k):=by
 rw [Zb h,max,qe3];rfl
def dY:Nat->Nat
 | 0=>0
 | n+1=>if (dY n+1)*(dY n+1)<=n+1 then dY n+1 else dY n
theorem qdc (n:Nat):dY n*dY n<=n/\n<(dY n+1)*(dY n+1):=by
 induction n with
 | zero=>simp [dY]
 | succ n ih=>
  unfold dY
  split
  ·rename_i h
   refine ⟨h,?_⟩;have:(dY n+1+1)*(dY n+1+1)=(dY n+1)*(dY n+1)+2*(dY n+1)+1:=by grind
   omega
  ·rename_i h
   exact ⟨by omega,by omega⟩
theorem qgi {n k:Nat} (h1:k*k<=n) (h2:n<(k+1)*(k+1)):k=dY n:=by
 have ⟨h3,h4⟩:=qdc n;rcases Nat.lt_trichotomy k (dY n) with h|h|h
 ·have:=Nat.mul_le_mul (show k+1<=dY n from h) (show k+1<=dY n from h)
  omega
 ·exact h
 ·have:=Nat.mul_le_mul (show dY n+1<=k from h) (show dY n+1<=k from h)
  omega
def bK (n:Int):Int:=dY n.toNat
theorem mX {n:Int} (h:n<=0):bK n=0:=by
 have:n.toNat=0:=by omega
 simp [bK,this,dY]
theorem isqrt_uniq {n k:Int} (h0:0<=k) (h1:k*k<=n) (h2:n<(k+1)*(k+1)):k=bK n:=by
 obtain ⟨m,rfl⟩:=ezZ h0;have hn:0<=n:=Int.le_trans (Int.mul_nonneg h0 h0) h1;obtain ⟨p,rfl⟩:=ezZ hn;have e:=qgi (n:=p) (k:=m) (by exact_mod_cast h1) (by exact_mod_cast h2);simp [bK,←e]
theorem pF {n:Int} (h:1<=n):1<=bK n/\bK n*bK n<=n/\n<(bK n+1)*(bK n+1):=by
 obtain ⟨p,rfl⟩:=ezZ (show 0<=n by omega);have ⟨h3,h4⟩:=qdc p;refine ⟨?_,by simpa [bK] using (by exact_mod_cast h3),by simpa [bK] using (by exact_mod_cast h4)⟩;rcases Nat.eq_zero_or_pos (dY p) with h0|h0
 ·rw [h0] at h4;omega
 ·simp [bK];omega
end Safe
theorem qaB (n:Int) (w:Zp1):
  Calls prog 84 #[nQ iQ n] w λe w'=>e=.returned (.bool (Safe.ok n))/\w=w':=by
 by_cases h1:0<=n
 ·by_cases h2:n<=1099511627776
  ·go_in
   go_wp2
   go_ret;exact ⟨by simp [Safe.ok,h1,h2],rfl⟩
  ·go_in
   go_wp2
   go_ret;exact ⟨by simp [Safe.ok,h1,h2],rfl⟩
 ·go_in
  go_wp2
  go_ret;exact ⟨by simp [Safe.ok];omega,rfl⟩
def EvStep (g:Nat) (caps:Array Value) (zs:List Int) (ok:Nat->Bool) (I:Nat->Zp1->Prop):Prop:=
 ∀k,k<zs.length->(∀j,j<k->ok j=true)->∀w,I k w->Calls prog g (#[nQ iQ (zs.getD k 0)]++caps) w λe w'=>e=.returned (.bool (ok k))/\I (k+1) w'
def EvPost (zs:List Int) (ok:Nat->Bool) (I:Nat->Zp1->Prop) (e:Ending) (w':Zp1):Prop:=
 ∃k,k<=zs.length/\(∀j,j<k->ok j=true)/\((k=zs.length/\e=.returned (.bool true)/\I k w')∨(k<zs.length/\ok k=false/\e=.returned (.bool false)/\I (k+1) w'))
theorem qbV (A:Option Addr) (c g:Nat) (zs:List Int) (caps:Array Value) (ok:Nat->Bool) (I:Nat->Zp1->Prop) (w:Zp1) (hl:zs.length<=9223372036854775807)
  (eg:∀args w,(callFunc g args).run prog w=.ok (.enter g args) w)
  (hI:∀k w,I k w->Ints iQ w A zs) (hs:EvStep g caps zs ok I) (h0:I 0 w):
  Calls prog 83 #[sQ A zs.length c,.func (.func g) #[] caps] w (EvPost zs ok I):=by
 have HI:=zI hI;clear hI;go_in;go_wp2_with fail
 go_loopw [6,9] (λx i wr=>∃k:Nat,k<=zs.length/\i=nQ iQ k/\I k wr/\(∀j,j<k->ok j=true)) (λ_ i _=>zs.length-(intOf i).toNat)
 case atStart=>exact ⟨0,Zt _,rfl,h0,by intro j hj;omega⟩
 case round=>
  obtain ⟨k,hk,rfl,hf,hg⟩:=hrel;have HO:=zI hg;clear hg
  by_cases he:k<zs.length
  ·obtain ⟨b,off,rfl,hb,hc⟩:=HI.out k wr hf k he
   have ha:=zI (hs k he HO.out wr hf);have ez:zs.getD k 0=zs[k]:=by simp [he]
   rw [ez] at ha;have hd:Hid (Calls prog g (#[nQ iQ zs[k]]++caps) wr λe w'=>e=.returned (.bool (ok k))/\I (k+1) w'):=ha;clear ha ez;go_wp2_with fail;refine hd.out.mono ?_;rintro e w1 ⟨rfl,h1⟩;cases hkk:ok k
   ·go_wp2_with fail
    go_ret;exact ⟨k,hk,HO.out,.inr ⟨he,hkk,rfl,h1⟩⟩
   ·have HK:=zI hkk
    clear hkk;go_wp2_with fail;go_roundw
    case rel=>exact ⟨k+1,by omega,by go_num,h1,λj hj=>by rcases Nat.lt_succ_iff_lt_or_eq.1 hj with h|h;exact HO.out j h;subst h;exact HK.out⟩
    case measure=>simp [intOf];omega
  ·go_wp2_with fail
   go_ret;exact ⟨k,hk,HO.out,.inl ⟨by omega,rfl,hf⟩⟩
theorem qan (A:Option Addr) (c g:Nat) (zs:List Int) (p:Int->Bool) (w:Zp1) (hl:zs.length<=9223372036854775807)
  (eg:∀args w,(callFunc g args).run prog w=.ok (.enter g args) w)
  (hI:Ints iQ w A zs) (hs:∀n w,Calls prog g #[nQ iQ n] w λe w'=>e=.returned (.bool (p n))/\w=w'):
  Calls prog 83 #[sQ A zs.length c,.func (.func g) #[] #[]] w λe w'=>e=.returned (.bool (zs.all p))/\w=w':=by
 refine (qbV A c g zs #[] (λj=>p (zs.getD j 0)) (λ_ wx=>w=wx) w hl eg (λk wx h=>by subst h;exact hI) (λk hk _ wx h=>by subst h;exact (hs _ _)) rfl).mono ?_;rintro e w' ⟨k,hk,hj,h⟩;rcases h with ⟨h1,he,hw⟩|⟨h1,h2,he,hw⟩
 ·subst h1
  exact ⟨by rw [he,Safe.all_getD hj],hw⟩
 ·exact ⟨by rw [he,Safe.mP h1 h2],hw⟩
theorem qaK:∀args w,(callFunc 84 args).run prog w=.ok (.enter 84 args) w:=enters func84 krZ rfl
theorem qf4:∀args w,(callFunc 85 args).run prog w=.ok (.enter 85 args) w:=enters func85 krZ rfl
theorem qcB:∀args w,(callFunc 128 args).run prog w=.ok (.enter 128 args) w:=enters func128 krZ rfl
theorem qf5:∀args w,(callFunc 129 args).run prog w=.ok (.enter 129 args) w:=enters func129 krZ rfl
theorem qh4 (n s:Int) (g:Nat) (w:Zp1) (hb:Blk w g 3 #[nQ iQ s]) (h0:0<=s) (h1:s<=1099511627776) (h2:0<=n) (h3:n<=1099511627776):
  Calls prog 85 #[nQ iQ n,.pointer (some ⟨g,0,none⟩)] w λe w'=>e=.returned (.bool (decide (s+n<=1099511627776)))/\w.setCell ⟨g,0,none⟩ (nQ iQ (s+n))=w':=by
 have hc:=hb.cell 0;have hf:=hb.frozen 0;have ha:=(hb.aO 0 (nQ iQ (s+n))).cell 0;simp at hc ha;clear hb;go_in;go_wp2_with fail;go_ret;exact ⟨rfl,rfl⟩
theorem qe4 (n:Int) (w:Zp1):
  Calls prog 128 #[nQ iQ n] w λe w'=>e=.returned (.bool (n != 0))/\w=w':=by
 go_in;go_wp2_with fail;go_ret;exact ⟨rfl,rfl⟩
theorem qh5 (n s:Int) (g:Nat) (w:Zp1) (hb:Blk w g 3 #[nQ iQ s]) (h0:1<=s) (h1:s<=1099511627776) (h2:1<=n) (h3:n<=1099511627776):
  Calls prog 129 #[nQ iQ n,.pointer (some ⟨g,0,none⟩)] w λe w'=>
   e=.returned (.bool (decide (s*n<=1099511627776)))/\(if s*n<=1099511627776 then w.setCell ⟨g,0,none⟩ (nQ iQ (s*n)) else w)=w':=by
 have hc:=hb.cell 0;have hf:=hb.frozen 0;simp at hc;clear hb;have hq:n<=1099511627776 / s↔s*n<=1099511627776:=by rw [Int.le_ediv_iff_mul_le oZ,Int.mul_comm]
 by_cases ha:s*n<=1099511627776
 ·have hn:n<=1099511627776 / s:=hq.2 ha
  have hp:0<=s*n:=Int.mul_nonneg oZ oZ;clear hq;go_in;go_wp2_with fail;go_ret;exact ⟨by simp,by simp⟩
 ·have hn:1099511627776 / s<n:=by
   rcases Int.lt_or_le (1099511627776 / s) n with h|h
   ·exact h
   ·exact absurd (hq.1 h) ha
  clear hq;go_in;go_wp2_with fail;go_ret;exact ⟨by simp,by simp⟩
def AddI (B:Nat) (w:Zp1) (zs:List Int) (k:Nat) (wx:Zp1):Prop:=Blk wx B 3 #[nQ iQ (Safe.sum (zs.take k))]/\Below B w wx
theorem qfM (A:Option Addr) (c:Nat) (zs:List Int) (w:Zp1) (hl:zs.length<=9223372036854775807) (hI:Ints iQ w A zs):
  Calls prog 44 #[sQ A zs.length c] w λe w'=>e=.returned (.tuple #[nQ iQ (Safe.add zs).1,nQ iQ (Safe.add zs).2])/\Below w.heap.size w w':=by
 have HI:=zI hI;clear hI;cases hall:zs.all Safe.ok
 ·have ha:=zI (Safe.add_range hall)
  have HA:=zI hall;clear hall;go_in;go_wp2_with fail;refine (qan A c 84 zs Safe.ok _ hl qaK HI.out qaB).mono ?_;rintro e w' ⟨rfl,rfl⟩;rw [HA.out];go_wp2_with fail
  go_ret2
  exact ⟨by rw [ha.out];rfl,Ze1 _ _⟩
 ·have HA:=zI hall
  clear hall;go_in;go_wp2_with fail;refine (qan A c 84 zs Safe.ok _ hl qaK HI.out qaB).mono ?_;rintro e w' ⟨rfl,rfl⟩;rw [HA.out];go_wp2_with fail;refine (qbV A c 85 zs #[.pointer (some ⟨w.heap.size,0,none⟩)] (λj=>decide (Safe.sum (zs.take (j+1))<=Safe.top)) (AddI w.heap.size w zs) _ hl qf4 ?h1 ?h2 ?h3).mono ?_
  case h1=>exact λk wx h=>HI.out.below h.2 (lrZ _)
  case h2=>
   intro k hk hf wx he
   have hb:Safe.sum (zs.take k)<=1099511627776:=by
    rcases k with _|k
    ·simp [Safe.sum]
    ·have:=hf k oZ
     exact of_decide_eq_true this
   have hz:=(Safe.jV _).1 (Safe.lV HA.out k hk);have h0:=Safe.oQ (zs.take k) (λx hx=>Safe.qY HA.out x (Zh hx));refine (qh4 (zs.getD k 0) (Safe.sum (zs.take k)) w.heap.size wx he.1 h0 hb hz.1 hz.2).mono ?_;rintro e w' ⟨rfl,rfl⟩;have e1:zs.getD k 0=zs[k]:=by simp [hk]
   have e2:=Safe.sum_take_succ zs k hk;refine ⟨?_,?_,?_⟩
   ·show _=Ending.returned (.bool (decide (Safe.sum (zs.take (k+1))<=Safe.top)))
    rw [e1,e2,Safe.kP]
   ·have:=he.1.aO 0 (nQ iQ (Safe.sum (zs.take k)+zs.getD k 0))
    rw [e1,←e2] at this;rw [e1,←e2];exact this
   ·exact he.2.setCell (lrZ _) _
  case h3=>exact ⟨by simpa [Safe.sum] using Blk.new w 3 #[nQ iQ 0],(Ze1 _ _).alloc (lrZ _) _⟩
  rintro e w' ⟨k,hk,hj,h⟩;rcases h with ⟨rfl,rfl,hb,hd⟩|⟨h1,h2,rfl,hb,hd⟩
  ·have hc:=hb.cell 0
   simp at hc
   have ha:=zI (Safe.uU HA.out (by
    rcases hz:zs.length with _|n
    ·have:zs=[]:=List.eq_nil_of_length_eq_zero hz
     subst this;simp [Safe.sum,Safe.kP]
    ·have:=hj n oZ
     simp only [←hz,Zg] at this;simpa using this))
   clear hj hb;go_wp2_with fail
   go_ret2
   exact ⟨by rw [ha.out];rfl,hd⟩
  ·have ha:=zI (Safe.uE HA.out (k+1) (by simpa using h2))
   clear hj hb h2;go_wp2_with fail
   go_ret2
   exact ⟨by rw [ha.out];rfl,hd⟩
def MulI (B:Nat) (w:Zp1) (zs:List Int) (k:Nat) (wx:Zp1):Prop:=(∃s:Int,(Safe.prod (zs.take k)<=Safe.top->s=Safe.prod (zs.take k))/\Blk wx B 3 #[nQ iQ s])/\Below B w wx
theorem qcs (A:Option Addr) (c:Nat) (zs:List Int) (w:Zp1) (hl:zs.length<=9223372036854775807) (hI:Ints iQ w A zs):
  Calls prog 82 #[sQ A zs.length c] w λe w'=>e=.returned (.tuple #[nQ iQ (Safe.mul zs).1,nQ iQ (Safe.mul zs).2])/\Below w.heap.size w w':=by
 have HI:=zI hI;clear hI;cases hall:zs.all Safe.ok
 ·have ha:=zI (Safe.mul_range hall)
  have HA:=zI hall;clear hall;go_in;go_wp2_with fail;refine (qan A c 84 zs Safe.ok _ hl qaK HI.out qaB).mono ?_;rintro e w' ⟨rfl,rfl⟩;rw [HA.out];go_wp2_with fail
  go_ret2
  exact ⟨by rw [ha.out];rfl,Ze1 _ _⟩
 ·have HA:=zI hall
  clear hall;cases hz:zs.all (· != 0)
  ·have ha:=zI (Safe.mul_zero HA.out hz)
   have HZ:=zI hz;clear hz;go_in;go_wp2_with fail;refine (qan A c 84 zs Safe.ok _ hl qaK HI.out qaB).mono ?_;rintro e w' ⟨rfl,rfl⟩;rw [HA.out];go_wp2_with fail;refine (qan A c 128 zs (· != 0) _ hl qcB HI.out qe4).mono ?_;rintro e w' ⟨rfl,rfl⟩;rw [HZ.out];go_wp2_with fail
   go_ret2
   exact ⟨by rw [ha.out];rfl,Ze1 _ _⟩
  ·have HZ:=zI hz
   clear hz;go_in;go_wp2_with fail;refine (qan A c 84 zs Safe.ok _ hl qaK HI.out qaB).mono ?_;rintro e w' ⟨rfl,rfl⟩;rw [HA.out];go_wp2_with fail;refine (qan A c 128 zs (· != 0) _ hl qcB HI.out qe4).mono ?_;rintro e w' ⟨rfl,rfl⟩;rw [HZ.out];go_wp2_with fail;refine (qbV A c 129 zs #[.pointer (some ⟨w.heap.size,0,none⟩)] (λj=>decide (Safe.prod (zs.take (j+1))<=Safe.top)) (MulI w.heap.size w zs) _ hl qf5 ?h1 ?h2 ?h3).mono ?_
   case h1=>exact λk wx h=>HI.out.below h.2 (lrZ _)
   case h2=>
    intro k hk hg wx hf
    have hb:Safe.prod (zs.take k)<=Safe.top:=by
     rcases k with _|k
     ·simp [Safe.prod,Safe.kP]
     ·have:=hg k oZ
      simpa using this
    have hz:=(Safe.jV _).1 (Safe.lV HA.out k hk);have hh:1<=zs.getD k 0:=Safe.tX HA.out HZ.out _ (by simp [hk]);have h0:=Safe.kH (zs.take k) (λx hx=>Safe.tX HA.out HZ.out x (Zh hx));obtain ⟨⟨s,hs,he⟩,hd⟩:=hf;obtain rfl:=hs hb;clear hs;refine (qh5 (zs.getD k 0) (Safe.prod (zs.take k)) w.heap.size wx he h0 hb hh hz.2).mono ?_;rintro e w' ⟨rfl,rfl⟩;have e1:zs.getD k 0=zs[k]:=by simp [hk]
    have e2:=Safe.prod_take_succ zs k hk;refine ⟨?_,?_,?_⟩
    ·show _=Ending.returned (.bool (decide (Safe.prod (zs.take (k+1))<=Safe.top)))
     rw [e1,e2,Safe.kP]
    ·rw [e1,e2]
     by_cases h:Safe.prod (zs.take k)*zs[k]<=1099511627776
     ·rw [ipZ h]
      exact ⟨_,λ_=>rfl,he.aO 0 _⟩
     ·rw [inZ h]
      exact ⟨_,λh'=>absurd h' h,he⟩
    ·split
     ·exact hd.setCell (lrZ _) _
     ·exact hd
   case h3=>exact ⟨⟨1,λ_=>by simp [Safe.prod],by simpa using Blk.new w 3 #[nQ iQ 1]⟩,(Ze1 _ _).alloc (lrZ _) _⟩
   rintro e w' ⟨k,hk,hj,h⟩;rcases h with ⟨rfl,rfl,⟨s,hs,hb⟩,hd⟩|⟨h1,h2,rfl,hb,hd⟩
   ·have hp:Safe.prod zs<=Safe.top:=by
     rcases hz:zs.length with _|n
     ·have:zs=[]:=List.eq_nil_of_length_eq_zero hz
      subst this;simp [Safe.prod,Safe.kP]
     ·have:=hj n oZ
      simp only [←hz,Zg] at this;simpa using this
    rw [Zg] at hs;obtain rfl:=hs hp;have hc:=hb.cell 0;simp at hc;have ha:=zI (Safe.sH HA.out HZ.out hp);clear hj hb hp hs;go_wp2_with fail
    go_ret2
    exact ⟨by rw [ha.out];rfl,hd⟩
   ·have ha:=zI (Safe.mul_big HA.out HZ.out (k+1) (by simpa using h2))
    clear hj hb h2;go_wp2_with fail
    go_ret2
    exact ⟨by rw [ha.out];rfl,hd⟩
theorem qag:(prog.info? 3).map (λi=>(i.zero,i.size,i.bytes))=some (some (nQ iQ 0),1,8):=by kernel_rfl
theorem i64_info:(prog.info? 2).map (λi=>(i.zero,i.size,i.bytes))=some (some (nQ iQ 0),1,8):=by kernel_rfl
theorem qdd:(prog.info? 106).map (λi=>(i.zero,i.size,i.bytes))=some (some (.agg #[nQ iQ 0,nQ iQ 0]),2,16):=by kernel_rfl
namespace Sh
def side (n:Int):Bool:=decide (1<=n/\n<=1024)
def right (zs:List Int):Bool:=decide (1<=zs.length/\zs.length<=4)&&zs.all side&&decide (Safe.prod zs<=65536)
def size (zs:List Int):Int × Int:=if right zs then (Safe.prod zs,0) else (0,20)
theorem bA (n:Int):side n=true↔1<=n/\n<=1024:=by simp [side]
theorem nN {zs:List Int} (h:¬(1<=zs.length/\zs.length<=4)):right zs=false:=by simp [right];intro a b;omega
theorem lY {zs:List Int} (h:zs.all side=false):right zs=false:=by simp [right,h]
theorem qA {zs:List Int} (h1:1<=zs.length/\zs.length<=4) (h:zs.all side=true):right zs=decide (Safe.prod zs<=65536):=by simp [right,h,h1]
theorem qfN {zs:List Int} (h:zs.all side=true):zs.all Safe.ok=true/\zs.all (· != 0)=true:=by
 rw [Zf] at h;refine ⟨List.all_eq_true.2 λx hx=>?_,List.all_eq_true.2 λx hx=>?_⟩
 ·have:=(bA x).1 (h x hx)
  exact (Safe.jV x).2 oZ
 ·have:=(bA x).1 (h x hx)
  simp;omega
theorem rR {zs:List Int} (h:∀x∈zs,1<=x/\x<=1024) (hl:zs.length<=4):Safe.prod zs<=1099511627776:=by
 have h1:∀x∈zs,1<=x:=λx hx=>(h x hx).1
 match zs,hl with
 | [],_=>simp [Safe.prod]
 | [a],_=>have:=h a sZ;simp [Safe.prod];omega
 | [a,b],_=>
  have ha:=h a sZ;have hb:=h b sZ;simp only [Safe.prod,Int.mul_one];have:=Int.mul_le_mul ha.2 hb.2 oZ oZ;omega
 | [a,b,c],_=>
  have ha:=h a sZ;have hb:=h b sZ;have hc:=h c sZ;simp only [Safe.prod,Int.mul_one];have h2:=Int.mul_le_mul hb.2 hc.2 oZ oZ;have h3:=Int.mul_le_mul ha.2 h2 (Int.mul_nonneg oZ oZ) oZ;omega
 | [a,b,c,d],_=>
  have ha:=h a sZ;have hb:=h b sZ;have hc:=h c sZ;have hd:=h d sZ;simp only [Safe.prod,Int.mul_one];have h1:=Int.mul_le_mul hc.2 hd.2 oZ oZ;have h2:=Int.mul_le_mul hb.2 h1 (Int.mul_nonneg oZ oZ) oZ;have h3:=Int.mul_le_mul ha.2 h2 (Int.mul_nonneg oZ (Int.mul_nonneg oZ oZ)) oZ;omega
 | _::_::_::_::_::_,hl=>simp at hl
theorem oI {zs:List Int} (h:zs.all side=true):∀x∈zs,1<=x/\x<=1024:=λx hx=>(bA x).1 (List.all_eq_true.1 h x hx)
theorem vG {zs:List Int} (h1:zs.length<=4) (h:zs.all side=true):Safe.mul zs=(Safe.prod zs,0):=
 Safe.sH (qfN h).1 (qfN h).2 (rR (oI h) h1)
theorem aT {zs:List Int} (h:right zs=true):Safe.mul zs=(Safe.prod zs,0)/\zs.length<=4/\1<=zs.length/\(∀x∈zs,1<=x/\x<=1024)/\1<=Safe.prod zs/\Safe.prod zs<=65536:=by
 simp [right] at h;have h2:zs.all side=true:=List.all_eq_true.2 h.1.2;exact ⟨vG h.1.1.2 h2,h.1.1.2,by omega,oI h2,Safe.kH zs (λx hx=>(oI h2 x hx).1),h.2⟩
end Sh
theorem aV (A:Option Addr) (c:Nat) (zs:List Int) (w:Zp1) (hl:zs.length<=9223372036854775807) (hI:Ints iQ w A zs):
  Calls prog 107 #[sQ A zs.length c] w λe w'=>e=.returned (.bool (Sh.right zs))/\Below w.heap.size w w':=by
 have HI:=zI hI;clear hI
 by_cases h1:zs.length<1
 ·have HS:=zI (Sh.nN (zs:=zs) oZ)
  go_in;go_wp2_with fail;go_ret;exact ⟨by rw [HS.out];rfl,Ze1 _ _⟩
 ·by_cases h4:4<zs.length
  ·have HS:=zI (Sh.nN (zs:=zs) oZ)
   go_in;go_wp2_with fail;go_ret;exact ⟨by rw [HS.out];rfl,Ze1 _ _⟩
  ·go_in
   go_wp2_with fail
   go_loopw [17] (λi wr=>wr=w/\∃k:Nat,k<=zs.length/\i=nQ iQ k/\∀x∈zs.take k,Sh.side x=true) (λi _=>zs.length-(intOf i).toNat)
   case atStart=>exact ⟨rfl,0,Zt _,rfl,by simp⟩
   case round=>
    obtain ⟨rfl,k,hk,rfl,ha⟩:=hrel;have HA:=zI ha;clear ha
    by_cases hd:k<zs.length
    ·obtain ⟨b,off,rfl,hb,hc⟩:=HI.out k hd
     by_cases hg:zs[k]<1
     ·have HS:=zI (Sh.lY (zs:=zs) (by simp [List.all_eq_false];exact ⟨zs[k],gmZ hd,by simp [Sh.side];omega⟩))
      go_wp2_with fail;go_ret;exact ⟨by rw [HS.out];rfl,Ze1 _ _⟩
     ·by_cases hf:1024<zs[k]
      ·have HS:=zI (Sh.lY (zs:=zs) (by simp [List.all_eq_false];exact ⟨zs[k],gmZ hd,by simp [Sh.side];omega⟩))
       go_wp2_with fail;go_ret;exact ⟨by rw [HS.out];rfl,Ze1 _ _⟩
      ·go_wp2_with fail
       go_roundw
       case rel=>exact ⟨trivial,k+1,by omega,by go_num,λx hx=>by
        rw [Zb hd,List.mem_append] at hx;rcases hx with hx|hx
        ·exact HA.out x hx
        ·rw [List.mem_singleton] at hx;subst hx;exact (Sh.bA _).2 ⟨by omega,by omega⟩⟩
       case measure=>simp [intOf];omega
    ·obtain rfl:k=zs.length:=by omega
     rw [Zg] at HA;have ha:zs.all Sh.side=true:=List.all_eq_true.2 HA.out;have HM:=zI (Sh.vG oZ ha);have HP:=zI (Sh.qA oZ ha);clear ha HA;go_wp2_with fail;refine (qcs A c zs _ hl HI.out).mono ?_;rintro e w1 ⟨rfl,he⟩;rw [HM.out]
     by_cases hp:Safe.prod zs<=65536
     ·go_wp2_with fail
      go_ret;exact ⟨by rw [HP.out];simp [hp],he⟩
     ·go_wp2_with fail
      go_ret;exact ⟨by rw [HP.out];simp,he⟩
theorem qaj (A:Option Addr) (c:Nat) (zs:List Int) (w:Zp1) (hl:zs.length<=9223372036854775807) (hI:Ints iQ w A zs):
  Calls prog 80 #[sQ A zs.length c] w λe w'=>e=.returned (.tuple #[nQ iQ (Sh.size zs).1,nQ iQ (Sh.size zs).2])/\Below w.heap.size w w':=by
 have HI:=zI hI;clear hI;cases hr:Sh.right zs
 ·have HS:=zI (show Sh.size zs=(0,20) by simp [Sh.size,hr])
  have HR:=zI hr;clear hr;go_in;go_wp2_with fail;refine (aV A c zs _ hl HI.out).mono ?_;rintro e w1 ⟨rfl,h1⟩;rw [HR.out];go_wp2_with fail
  go_ret2
  exact ⟨by rw [HS.out];rfl,h1⟩
 ·have HS:=zI (show Sh.size zs=(Safe.prod zs,0) by simp [Sh.size,hr])
  have HM:=zI (Sh.aT hr).1;have HR:=zI hr;clear hr;go_in;go_wp2_with fail;refine (aV A c zs _ hl HI.out).mono ?_;rintro e w1 ⟨rfl,h1⟩;rw [HR.out];go_wp2_with fail;refine (qcs A c zs _ hl (HI.out.below h1 (lrZ _))).mono ?_;rintro e w2 ⟨rfl,h2⟩;rw [HM.out];go_wp2_with fail
  go_ret2
  exact ⟨by rw [HS.out];rfl,h1.trans (h2.mono h1.size)⟩
theorem qau {w:Zp1} {B g n:Nat} {e:TypeId} {xs:List Value} (h:w.ownsRow B e 1 (sQ (some ⟨g,0,none⟩) n n) n xs):w.heap[g]? = some (.cells xs.toArray e (0,0)):=by
 rcases h.2 with ⟨hv,_⟩|⟨g',cap,cur,hv,_,hh,_,_,hc,ht⟩
 ·cases hv
 ·injection hv with h1 h2 h3
  injection h1 with h1
  injection h1 with h1
  subst h1 h3;rw [hh];have:cur.toList=xs:=by rw [←ht,List.take_of_length_le];simp [hc]
  rw [←this]
theorem qgj {w:Zp1} {B g n:Nat} {e:TypeId} {xs:List Value} (h:w.heap[g]? = some (.cells xs.toArray e (0,0))) (hB:B<=g) (hn:xs.length=n) (hm:n<=maxLen):w.ownsRow B e 1 (sQ (some ⟨g,0,none⟩) n n) n xs:=by
 subst hn;exact ⟨by simp,.inr ⟨g,_,_,rfl,hB,h,lrZ _,hm,by simp,by simp⟩⟩
theorem qde {cur cs:List Value} (h:cs.length=cur.length):splice cur 0 cs=cs:=by
 simp [splice,h]
theorem Ints.src {k:IntKind} {w:Zp1} {A:Option Addr} {zs:List Int} (h:Ints k w A zs) (hpos:0<zs.length):∃ad,A=some ad/\∀j v,(zs.map (Za1 k))[j]? = some v->w.cell? (ad.add j)=some v:=by
 obtain ⟨b,off,e,_,_⟩:=h 0 hpos;refine ⟨⟨b,off,none⟩,e,λj v hj=>?_⟩;rw [List.getElem?_map] at hj;obtain ⟨x,hx,rfl⟩:=Option.map_eq_some_iff.1 hj;obtain ⟨ha,rfl⟩:=List.getElem?_eq_some_iff.1 hx;obtain ⟨b1,off1,e1,_,hc⟩:=h j ha;rw [e] at e1;injection e1 with e1
 injection e1 with e2 e3
 subst e2 e3;rw [Addr.add_lit,hc];simp [ha]
theorem Ints.wM {k:IntKind} {w:Zp1} {A:Option Addr} {zs:List Int} (h:Ints k w A zs) (hpos:0<zs.length):∃ad,A=some ad/\∀j a,zs[j]? = some a->w.cell? (ad.add j)=some (.int k a):=by
 obtain ⟨ad,e,h⟩:=h.src hpos;exact ⟨ad,e,λj a ha=>h j _ (by rw [List.getElem?_map,ha];rfl)⟩
def CopyPost (t:TypeId) (k:IntKind) (zs:List Int) (w:Zp1) (e:Ending) (w':Zp1):Prop:=
 ∃g,e=.returned (sQ (some ⟨g,0,none⟩) zs.length zs.length)/\w.heap.size<=g/\w'.heap[g]? = some (.cells (zs.map (Za1 k)).toArray t (0,0))/\Below w.heap.size w w'
theorem qat (A:Option Addr) (c:Nat) (zs:List Int) (w:Zp1) (hl:zs.length<=17592186043904) (hI:Ints iQ w A zs):
  Calls prog 143 #[sQ A zs.length c] w (CopyPost 3 iQ zs w):=by
 obtain ⟨i0,hi,hf,hh,he⟩:=info_parts qag;have HI:=zI hI;clear hI;go_in;go_wp2_with (at_make;refine wpList_make_full _ rfl _ _ 23 rfl w.heap.size 3 i0 (nQ iQ 0) 1 underlying23 hi hf hh _ _ _ _ zs.length rfl rfl (by first|rfl|simp) (by first|rfl|simp) ?b2 ?b3 (lrZ _) ?_)
 case b2=>rw [he];omega
 case b3=>unfold maxLen;omega
 intro w1 hown hgrow;have hb:=qau hown;have hc:Below w.heap.size w w1:=(Ze1 _ w).grown hgrow (lrZ _) sZ;have ha:=hown.1;have hg:=zI (HI.out.below hc (lrZ _));generalize (madeCells #[Za1 iQ 0] zs.length).toList=cur at *;clear hown hgrow HI;go_wp2_with (with_reducible refine wpList_copy_splice rfl (.tmp 7) (.tmp 8) 23 23 rfl 3 underlying23 ?d1 (some ⟨w.heap.size,0,none⟩) A zs.length zs.length zs.length c rfl rfl w.heap.size 0 cur 3 hb (zs.map (Za1 iQ)) ?d2 ?d3 ?d4 ?d5 w.heap.size w hc (lrZ _) ?_)
 case d1=>kernel_rfl
 case d2=>simp
 case d3=>intro hp;exact hg.out.wM (by simpa using hp)
 case d4=>simp at ha ⊢;omega
 case d5=>intro v hv;obtain ⟨x,_,rfl⟩:=List.mem_map.1 hv;rfl
 intro w2 hw2 hd;have hs:=qde (cur:=cur) (cs:=zs.map (Za1 iQ)) (by simp at ha ⊢;omega);have HF:=zI (show w2.heap[w.heap.size]? = some (.cells (zs.map (Za1 iQ)).toArray 3 (0,0)) by rw [←hs];exact hw2.out);clear hw2 hc ha hs hb;go_wp2_with fail;go_ret;exact ⟨w.heap.size,rfl,lrZ _,HF.out,hd⟩
theorem qgk (A A':Option Addr) (c c':Nat) (xs ys:List Int) (w:Zp1) (hl:xs.length<=17592186043904) (hl':ys.length<=17592186043904) (hI:Ints iQ w A xs) (hI':Ints iQ w A' ys):
  Calls prog 174 #[sQ A xs.length c,sQ A' ys.length c'] w λe w'=>e=.returned (.bool (xs==ys))/\∃n,w'=w.drewN n:=by
 have HI:=zI hI;have hi:=zI hI';clear hI hI'
 by_cases hn:xs.length=ys.length
 ·have hq:((xs.length:Int) != ys.length)=false:=by simp [hn]
  have HN:=zI hn;clear hn;go_in;go_wp2_with fail
  go_loopw [13] (λi wr=>∃k n:Nat,wr=w.drewN n/\k<=xs.length/\i=nQ iQ k/\xs.take k=ys.take k) (λi _=>xs.length-(intOf i).toNat)
  case atStart=>exact ⟨0,0,rfl,Zt _,rfl,rfl⟩
  case round=>
   obtain ⟨k,n,rfl,hk,rfl,he⟩:=hrel;have HT:=zI he;clear he
   by_cases hg:k<xs.length
   ·have hd:k<ys.length:=by have:=HN.out;omega
    obtain ⟨b,off,rfl,hb,hc⟩:=HI.out k hg;obtain ⟨b',off',rfl,hj,hm⟩:=hi.out k hd;have k0:(0:Int)<=k:=by omega
    have k1:(k:Int)<xs.length:=by omega
    have k2:(k:Int)<ys.length:=by omega
    by_cases ha:xs[k]=ys[k]
    ·have hb:(xs[k] != ys[k])=false:=by simp [ha]
     have hh:=zI (show xs.take (k+1)=ys.take (k+1) by rw [Zb hg,Zb hd,HT.out,ha]);clear ha;go_wp2_with fail
     go_quiet (fail)
     go_wp2_with fail;go_roundw
     case rel=>exact ⟨k+1,n+nq,by first|rfl|exact World.drewN_drewN _ _ _,by omega,by go_num,hh.out⟩
     case measure=>simp [intOf];omega
    ·have hb:(xs[k] != ys[k])=true:=by simp [ha]
     have hf:=zI (show (xs==ys)=false by simp;rintro rfl;exact ha rfl);clear ha;go_wp2_with fail
     go_quiet (fail)
     go_wp2_with fail;go_ret;exact ⟨by rw [hf.out];rfl,n+nq,World.drewN_drewN _ _ _⟩
   ·obtain rfl:k=xs.length:=by omega
    have hf:=zI (show (xs==ys)=true by have:=HT.out;rw [Zg,HN.out,Zg] at this;simp [this]);go_wp2_with fail;go_ret;exact ⟨by rw [hf.out];rfl,n,rfl⟩
 ·have hq:((xs.length:Int) != ys.length)=true:=by simp;omega
  have hf:=zI (show (xs==ys)=false by simp;rintro rfl;exact hn rfl);clear hn;go_in;go_wp2_with fail;go_ret;exact ⟨by rw [hf.out];rfl,0,rfl⟩
theorem qbv (A A':Option Addr) (c c':Nat) (xs ys:List Int) (w:Zp1) (hl:xs.length<=17592186043904) (hl':ys.length<=17592186043904) (hI:Ints iQ w A xs) (hI':Ints iQ w A' ys):
  Calls prog 153 #[sQ A xs.length c,sQ A' ys.length c'] w λe w'=>e=.returned (.bool (xs==ys))/\∃n,w'=w.drewN n:=by
 have HI:=zI hI;have ha:=zI hI';clear hI hI';go_in;go_wp2_with fail;refine (qgk A A' c c' xs ys _ hl hl' HI.out ha.out).mono ?_;rintro e w' ⟨rfl,n,rfl⟩;go_wp2_with fail;go_ret;exact ⟨rfl,n,rfl⟩
structure OpD where
 kind:Int
 k:Int
 width:Int
 step:Int
 side:Int
 frm:Int
 «to»:Int
 s:List Int
deriving DecidableEq
namespace Od
def used (o:OpD):OpD:=
 if o.kind=2∨o.kind=5 then ⟨o.kind,o.k,0,0,0,0,0,[]⟩
 else if o.kind=10 then ⟨o.kind,0,0,o.step,0,0,0,[]⟩
 else if o.kind=11∨o.kind=12 then ⟨o.kind,0,o.width,o.step,0,0,0,[]⟩
 else if o.kind=13 then ⟨o.kind,0,0,0,o.side,0,0,[]⟩
 else if o.kind=14 then ⟨o.kind,0,0,0,o.side,o.frm,o.to,[]⟩
 else if o.kind=15 then ⟨o.kind,0,0,0,0,0,0,o.s⟩
 else ⟨o.kind,0,0,0,0,0,0,[]⟩
def right (o:OpD):Bool:=decide (1<=o.kind/\o.kind<=15)&&decide (o=used o)
def cZ (o:OpD):Bool:=
 if o.kind<1∨15<o.kind then false
 else if o.k≠0/\o.kind≠2/\o.kind≠5 then false
 else if o.width≠0/\o.kind≠11/\o.kind≠12 then false
 else if o.step≠0/\(o.kind<10∨12<o.kind) then false
 else if o.side≠0/\o.kind≠13/\o.kind≠14 then false
 else if (o.frm≠0∨o.to≠0)/\o.kind≠14 then false
 else decide (o.s=[]∨o.kind=15)
theorem ref_right (o:OpD):cZ o=right o:=by
 obtain ⟨kind,k,width,step,side,frm,tz,s⟩:=o;rw [Bool.eq_iff_iff];unfold cZ right used;simp only [Zz,decide_eq_true_eq]
 by_cases h1:1<=kind/\kind<=15
 ·have hk:kind=1∨kind=2∨kind=3∨kind=4∨kind=5∨kind=6∨kind=7∨kind=8∨kind=9∨kind=10∨kind=11∨kind=12∨kind=13∨kind=14∨kind=15:=by omega
  rcases hk with rfl|rfl|rfl|rfl|rfl|rfl|rfl|rfl|rfl|rfl|rfl|rfl|rfl|rfl|rfl<;>simp<;>grind
 ·have:kind<1∨15<kind:=by omega
  simp [this];omega
def fC (k:Int):Int:=if 1<=k/\k<=5 then 1 else if k=6∨k=7 then 2 else 0
def least (o:OpD):Int:=if right o then (if o.kind<=7 then fC o.kind else 1) else 0
def most (o:OpD):Int:=if right o then (if o.kind<=7 then fC o.kind else if o.kind=13 then 8 else 1) else 0
def params (o:OpD):Int:=if right o then (if o.kind=8 then 2 else if o.kind=9∨o.kind=10 then 1 else 0) else 0
def counts (o:OpD) (p x:Int):Int:=if right o then (if x<least o∨most o<x∨p≠params o then 20 else 0) else 21
theorem fO {o:OpD} (h:right o=true):1<=o.kind/\o.kind<=15:=by simp [right] at h;exact h.1
theorem kU {o:OpD} (h:right o=true):1<=least o:=by
 have:=fO h;unfold least fC;rw [ipZ h]
 split
 ·split
  ·omega
  ·split<;>omega
 ·omega
theorem uV {o:OpD} (h:right o=true):most o<=8:=by
 unfold most fC;rw [ipZ h]
 split
 ·split
  ·omega
  ·split<;>omega
 ·split<;>omega
def window (side width step:Int):Int × Int:=if Sh.side side/\Sh.side width/\Sh.side step/\width<=side then (1+(side-width).tdiv step,0) else (0,11)
def inR (side:Int) (s:List Int):Bool:=decide (0<=side/\side<s.length)
def at_ (s:List Int) (i:Int):Int:=s.getD i.toNat 0
def pool (x:List Int) (width step:Int):List Int × Int:=
 if Sh.right x then (if (window (x.getD (x.length-1) 0) width step).2=0 then (x.set (x.length-1) (window (x.getD (x.length-1) 0) width step).1,0) else ([],11)) else ([],20)
def wn (w x:List Int) (step:Int) (i:Nat):Int × Int:=window (x.getD (i+1) 0) (w.getD (i+2) 0) step
def outs (w x:List Int) (step:Int) (k:Nat):List Int:=w.getD 0 0::(List.range k).map λi=>(wn w x step i).1
def conv (w x:List Int) (step:Int):List Int × Int:=
 if Sh.right w&&Sh.right x&&decide (2<=x.length/\x.length<=3/\w.length=x.length+1/\w.getD 1 0=x.getD 0 0) then
  (if (List.range (x.length-1)).all (λi=>decide ((wn w x step i).2=0)) then
   (if Sh.right (outs w x step (x.length-1)) then (outs w x step (x.length-1),0) else ([],20)) else ([],11)) else ([],20)
def iR (s t:List Int) (side:Int):Bool:=(List.range s.length).all λi=>decide ((i:Int)=side) || decide (s.getD i 0=t.getD i 0)
def joinL (s t:List Int) (side:Int):List Int:=s.set side.toNat (at_ s side+at_ t side)
def join (s t:List Int) (side:Int):List Int × Int:=
 if Sh.right s&&Sh.right t&&decide (s.length=t.length) then
  (if inR side s then (if iR s t side&&Sh.right (joinL s t side) then (joinL s t side,0) else ([],20)) else ([],11)) else ([],20)
def bJ (side:Int):List Int->List (List Int)->List Int × Int
 | s,[]=>(s,0)
 | s,t::r=>if (join s t side).2=0 then bJ side (join s t side).1 r else ([],(join s t side).2)
def joined (side:Int) (l:List (List Int)):List Int × Int:=
 if l.length=1/\inR side (l.getD 0 [])=false then ([],11) else bJ side (l.getD 0 []) (l.drop 1)
def cut (s:List Int) (side frm tz:Int):List Int × Int:=
 if Sh.right s then (if inR side s&&decide (0<=frm/\tz<=at_ s side/\frm<tz) then (s.set side.toNat (tz-frm),0) else ([],11)) else ([],20)
def same (l:List (List Int)):List Int × Int:=if l.all (λs=>decide (s=l.getD 0 [])) then (l.getD 0 [],0) else ([],20)
def lI (w b x:List Int):List Int × Int:=
 if w.length=2/\b.length=1/\b.getD 0 0=w.getD 0 0/\Sh.right x=true/\Safe.prod x=w.getD 1 0 then ([w.getD 0 0],0) else ([],20)
def turned (x s:List Int):List Int × Int:=if Sh.right x&&Sh.right s&&decide (Safe.prod s=Safe.prod x) then (s,0) else ([],20)
def aZ (o:OpD) (p x:List (List Int)):List Int × Int:=
 if o.kind=8 then lI (p.getD 0 []) (p.getD 1 []) (x.getD 0 [])
 else if o.kind=9 then same [p.getD 0 [],x.getD 0 []]
 else if o.kind=10 then conv (p.getD 0 []) (x.getD 0 []) o.step
 else if o.kind=11∨o.kind=12 then pool (x.getD 0 []) o.width o.step
 else if o.kind=13 then joined o.side x
 else if o.kind=14 then cut (x.getD 0 []) o.side o.frm o.to
 else if o.kind=15 then turned (x.getD 0 []) o.s
 else same x
def shape (o:OpD) (p x:List (List Int)):List Int × Int:=
 if counts o p.length x.length≠0 then ([],counts o p.length x.length)
 else if p.all Sh.right&&x.all Sh.right then aZ o p x else ([],20)
theorem nM {side width step:Int} (h:(window side width step).2=0):1<=(window side width step).1/\(window side width step).1<=side:=by
 unfold window at h ⊢
 split at h
 ·rename_i hc
  rw [ipZ hc];simp only [Sh.bA] at hc;have h1:0<=(side-width).tdiv step:=Int.tdiv_nonneg oZ oZ;have h2:(side-width).tdiv step<=side-width:=Int.tdiv_le_self _ oZ;simp only;omega
 ·simp at h
theorem jX {side width step:Int} (h:(window side width step).2≠0):window side width step=(0,11):=by
 unfold window at h ⊢
 split
 ·rename_i hc;rw [ipZ hc] at h;simp at h
 ·rfl
theorem prod_set {l:List Int} (h:∀x∈l,1<=x) {i:Nat} (hi:i<l.length) {n:Int} (h2:n<=l[i]):Safe.prod (l.set i n)<=Safe.prod l:=by
 induction l generalizing i with
 | nil=>simp at hi
 | cons a r ih=>
  have ha:=h a sZ;have hr:∀x∈r,1<=x:=λx hx=>h x (by simp [hx])
  have hp:=Safe.kH r hr;cases i with
  | zero=>
   simp only [List.set_cons_zero,Safe.prod];simp at h2;exact Int.mul_le_mul_of_nonneg_right h2 oZ
  | succ i=>
   simp only [List.set_cons_succ,Safe.prod];simp at h2 hi;exact Int.mul_le_mul_of_nonneg_left (ih hr hi h2) oZ
theorem qe5 {l:List Int} (h:Sh.right l=true) {i:Nat} (hi:i<l.length) {n:Int} (h1:1<=n) (h2:n<=l[i]):Sh.right (l.set i n)=true:=by
 obtain ⟨_,a1,a2,a3,a4,a5⟩:=Sh.aT h;have hp:=prod_set (λx hx=>(a3 x hx).1) hi h2;have hm:=a3 _ (gmZ hi);simp only [Sh.right,Zz,decide_eq_true_eq,List.length_set,Zf,Sh.bA];refine ⟨⟨⟨a2,a1⟩,λx hx=>?_⟩,by omega⟩;rcases List.mem_or_eq_of_mem_set hx with hx|rfl
 ·exact a3 x hx
 ·omega
theorem qbC {side:Int}:∀ {l:List (List Int)} {s:List Int},Sh.right s=true->(bJ side s l).2=0->Sh.right (bJ side s l).1=true
 | [],_,hs,_=>hs
 | t::r,s,hs,h=>by
  rw [bJ] at h ⊢
  split at h
  ·rename_i hj
   rw [ipZ hj];refine qbC ?_ h;unfold join at hj ⊢
   split at hj
   ·rename_i h1
    rw [ipZ h1]
    split at hj
    ·rename_i h2
     rw [ipZ h2]
     split at hj
     ·rename_i h3
      rw [ipZ h3];simp at h3;exact h3.2
     ·simp at hj
    ·simp at hj
   ·simp at hj
  ·rename_i hj;exact absurd h hj
theorem qcC {l:List (List Int)} (h:l.all Sh.right=true) (hl:0<l.length):Sh.right (l.getD 0 [])=true:=by
 cases l with
 | nil=>simp at hl
 | cons a r=>simp at h;simpa using h.1
theorem qfO {o:OpD} {p x:List (List Int)} (h:(shape o p x).2=0):right o=true/\least o<=x.length/\(x.length:Int)<=most o/\(p.length:Int)=params o/\p.all Sh.right=true/\x.all Sh.right=true/\shape o p x=aZ o p x:=by
 unfold shape counts at h ⊢;cases hr:right o
 ·simp [hr] at h
 ·by_cases hc:(x.length:Int)<least o∨most o<(x.length:Int)∨(p.length:Int)≠params o
  ·simp [hr,hc] at h
  ·simp only [hr,if_true,hc,if_false,ne_eq,not_true_eq_false] at h ⊢
   have ha:=hc;simp only [not_or] at ha;cases hp:p.all Sh.right
   ·simp [hp] at h
   ·cases hx:x.all Sh.right
    ·simp [hp,hx] at h
    ·simp
     omega
theorem aV {o:OpD} {p x:List (List Int)} (h:(shape o p x).2=0):Sh.right (shape o p x).1=true:=by
 obtain ⟨hr,h1,h2,h3,hp,hx,e⟩:=qfO h;rw [e] at h ⊢;have hl:=kU hr;have ha:=qcC hx oZ;obtain ⟨_,a1,a2,a3,a4,a5⟩:=Sh.aT ha;unfold aZ at h ⊢
 split at h
 ·rename_i hk
  rw [ipZ hk];unfold params at h3;rw [ipZ hr,ipZ hk] at h3;have hb:=qcC hp oZ;obtain ⟨_,b1,b2,b3,b4,b5⟩:=Sh.aT hb;unfold lI at h ⊢
  split at h
  ·rename_i hc
   rw [ipZ hc];generalize p.getD 0 []=w at *
   match w,hc.1 with
   | [a,b],_=>
    have:=b3 a sZ;have h1:Safe.prod [a]<=65536:=by simp [Safe.prod];omega
    simp [Sh.right,Sh.bA,h1];omega
  ·simp at h
 ·rename_i hk
  rw [inZ hk]
  split at h
  ·rename_i hk
   rw [ipZ hk];unfold params at h3;rw [ipZ hr,inZ oZ,ipZ oZ] at h3;have hb:=qcC hp oZ;unfold same at h ⊢
   split at h
   ·rename_i hc;rw [ipZ hc];simpa using hb
   ·simp at h
  ·rename_i hk2
   rw [inZ hk2]
   split at h
   ·rename_i hk
    rw [ipZ hk];unfold conv at h ⊢
    split at h
    ·rename_i c1
     rw [ipZ c1]
     split at h
     ·rename_i c2
      rw [ipZ c2]
      split at h
      ·rename_i c3;rw [ipZ c3];exact c3
      ·simp at h
     ·simp at h
    ·simp at h
   ·rename_i hk3
    rw [inZ hk3]
    split at h
    ·rename_i hk
     rw [ipZ hk];unfold pool at h ⊢;rw [ipZ ha] at h ⊢
     split at h
     ·rename_i c1
      rw [ipZ c1];have:=nM c1;generalize x.getD 0 []=x0 at *;have hi:x0.length-1<x0.length:=by omega
      refine qe5 ha hi this.1 ?_;have e2:x0.getD (x0.length-1) 0=x0[x0.length-1]:=by rw [gdZ,geZ hi];rfl
      have:=this.2;omega
     ·simp at h
    ·rename_i hk4
     rw [inZ hk4]
     split at h
     ·rename_i hk
      rw [ipZ hk];unfold joined at h ⊢
      split at h
      ·simp at h
      ·rename_i c1;rw [inZ c1];exact qbC ha h
     ·rename_i hk5
      rw [inZ hk5]
      split at h
      ·rename_i hk
       rw [ipZ hk];unfold cut at h ⊢;rw [ipZ ha] at h ⊢
       split at h
       ·rename_i c1
        rw [ipZ c1];simp [inR,at_] at c1;obtain ⟨⟨c2,c3⟩,c4,c5,c6⟩:=c1;have hi:o.side.toNat<(x.getD 0 []).length:=by simp;omega
        refine qe5 ha hi oZ ?_;have:(x.getD 0 [])[o.side.toNat]?.getD 0=(x.getD 0 [])[o.side.toNat]:=by rw [geZ hi];rfl
        simp at this c5;rw [this] at c5;simp;omega
       ·simp at h
      ·rename_i hk6
       rw [inZ hk6]
       split at h
       ·rename_i hk
        rw [ipZ hk];unfold turned at h ⊢
        split at h
        ·rename_i c1;rw [ipZ c1];simp at c1;exact c1.1.2
        ·simp at h
       ·rename_i hk7
        rw [inZ hk7];unfold same at h ⊢
        split at h
        ·rename_i c1;rw [ipZ c1];exact ha
        ·simp at h
end Od
namespace Kn
def ids (n:Nat):List Int:=(List.range n).map λi=>((i+1:Nat):Int)
def wt (I:Int->List Int) (out:List Int) (u:Int):Nat:=((I u).filter λi=>!(i==0)&&!out.contains i).length
def free (I:Int->List Int) (out:List Int) (u:Int):Bool:=!out.contains u&&(I u).all λi=>i==0 || out.contains i
def ready (I:Int->List Int) (n:Nat) (out:List Int):List Int:=(ids n).filter (free I out)
def step (I:Int->List Int) (n:Nat) (out:List Int):List Int:=match ready I n out with
 | []=>out
 | id::_=>out++[id]
def go (I:Int->List Int) (n:Nat):Nat->List Int
 | 0=>[]
 | k+1=>step I n (go I n k)
def order (I:Int->List Int) (n:Nat):List Int:=go I n n
def users (I:Int->List Int) (n:Nat) (id:Int):List Int:=(ids n).flatMap λu=>Zc ((I u).count id) u
theorem jQ {n:Nat} {u:Int}:u∈ids n↔1<=u/\u<=n:=by
 simp only [ids,List.mem_map,List.mem_range]
 constructor
 ·rintro ⟨a,h,rfl⟩;omega
 ·intro h;exact ⟨(u-1).toNat,by omega,by omega⟩
theorem qbh (n:Nat):(ids n).length=n:=by simp [ids]
theorem qaL (n:Nat):(ids n).Pairwise (·<·):=by
 unfold ids;rw [List.pairwise_map];exact List.pairwise_lt_range.imp (by intro a b h;omega)
theorem qP (n:Nat):(ids n).Nodup:=(qaL n).imp (by intro a b h;omega)
theorem qct (I:Int->List Int) (out:List Int) (u:Int):free I out u=(!out.contains u&&wt I out u==0):=by
 unfold free wt
 congr 1
 rw [Bool.eq_iff_iff];simp only [Zf,beq_iff_eq,List.length_eq_zero_iff,List.filter_eq_nil_iff];refine forall_congr' λi=>forall_congr' λ_=>?_
 simp
 grind
theorem mem_ready {I:Int->List Int} {n:Nat} {out:List Int} {u:Int}:u∈ready I n out↔(1<=u/\u<=n)/\u∉out/\wt I out u=0:=by
 unfold ready;rw [List.mem_filter,jQ,qct];simp
theorem qe6 (I:Int->List Int) (n:Nat) (out:List Int):(ready I n out).Pairwise (·<·):=(qaL n).filter _
structure Ok (I:Int->List Int) (n:Nat) (out:List Int):Prop where
 nodup:out.Nodup
 rng:∀u∈out,1<=u/\u<=n
 done:∀u∈out,wt I out u=0
theorem wC (I:Int->List Int) (out more:List Int) (u:Int):wt I (out++more) u<=wt I out u:=by
 unfold wt;generalize I u=l
 induction l with
 | nil=>simp
 | cons a r ih=>
  rw [List.filter_cons,List.filter_cons]
  by_cases hz:a=0
  ·simp [hz];simpa using ih
  ·by_cases ho:a∈out
   ·simp [ho];simpa using ih
   ·by_cases hm:a∈more
    ·simp [hz,ho,hm];simp at ih;omega
    ·simp [hz,ho,hm];simpa using ih
theorem Ok.nil (I:Int->List Int) (n:Nat):Ok I n []:=⟨by simp,by simp,by simp⟩
theorem Ok.push {I:Int->List Int} {n:Nat} {out:List Int} {u:Int} (h:Ok I n out) (hu:u∈ready I n out):Ok I n (out++[u]):=by
 obtain ⟨h1,h2,h3⟩:=mem_ready.1 hu;refine ⟨?_,?_,?_⟩
 ·rw [List.nodup_append]
  exact ⟨h.nodup,by simp,by intro a ha b hb;simp at hb;subst hb;intro e;subst e;exact h2 ha⟩
 ·intro v hv
  rcases List.mem_append.1 hv with hv|hv
  ·exact h.rng v hv
  ·simp at hv;subst hv;exact h1
 ·intro v hv
  rcases List.mem_append.1 hv with hv|hv
  ·have:=h.done v hv;have:=wC I out [u] v;omega
  ·simp at hv;subst hv;have:=wC I out [v] v;omega
theorem qh6 {I:Int->List Int} {out:List Int} {u id:Int} (h0:id≠0) (hid:id∉out):wt I (out++[id]) u+(I u).count id=wt I out u:=by
 unfold wt;generalize I u=l
 induction l with
 | nil=>simp
 | cons a r ih=>
  rw [List.filter_cons,List.filter_cons,List.count_cons]
  by_cases ha:a=id
  ·subst ha
   simp [h0,hid];simp at ih;omega
  ·by_cases hz:a=0
   ·subst hz
    have:¬(0=id):=λe=>h0 e.symm
    simp [this];simp at ih;exact ih
   ·by_cases ho:a∈out
    ·simp [ha,ho];simp at ih;exact ih
    ·simp [ha,hz,ho];simp at ih;omega
theorem qcD (I:Int->List Int) (n:Nat) (id u:Int) (hu:u∈ids n):(users I n id).count u=(I u).count id:=by
 unfold users
 have key:∀l:List Int,l.Nodup->(l.flatMap λu=>Zc ((I u).count id) u).count u=if u∈l then (I u).count id else 0:=by
  intro l hl
  induction l with
  | nil=>simp
  | cons a r ih=>
   rw [List.nodup_cons] at hl;rw [List.flatMap_cons,List.count_append,ih hl.2,List.count_replicate]
   by_cases e:a=u
   ·subst e;simp [hl.1]
   ·have:¬(u=a):=λh=>e h.symm
    simp [e,this]
 rw [key _ (qP n),ipZ hu]
theorem qh7 {I:Int->List Int} {n:Nat} {id u:Int} (h:u∈users I n id):u∈ids n/\id∈I u:=by
 unfold users at h;rw [List.mem_flatMap] at h;obtain ⟨a,ha,hr⟩:=h;rw [List.mem_replicate] at hr;obtain ⟨h1,rfl⟩:=hr;exact ⟨ha,List.count_pos_iff.1 oZ⟩
def mid (I:Int->List Int) (out us:List Int) (u:Int):Nat:=wt I out u-us.count u
def aY (I:Int->List Int) (n:Nat) (out:List Int) (id:Int) (us:List Int):List Int:=(ids n).filter λu=>!(out++[id]).contains u&&mid I out us u==0
theorem mid_start {I:Int->List Int} {n:Nat} {out r:List Int} {id:Int} (h:ready I n out=id::r):aY I n out id []=r:=by
 have hs:=qe6 I n out;rw [h,List.pairwise_cons] at hs
 have e:aY I n out id []=(ready I n out).filter (λu=>!(u==id)):=by
  unfold aY ready;rw [List.filter_filter];apply List.filter_congr;intro u _;rw [qct];simp only [mid,List.count_nil,Nat.sub_zero];simp [Bool.and_assoc,Bool.and_comm,List.contains_eq_mem]
  grind
 rw [e,h,List.filter_cons];simp;intro a ha;have:=hs.1 a ha;omega
theorem qh8 {I:Int->List Int} {n:Nat} {out:List Int} {id:Int} (hid:id∈ready I n out) {u:Int} (hu:u∈ids n):mid I out (users I n id) u=wt I (out++[id]) u:=by
 obtain ⟨h1,h2,h3⟩:=mem_ready.1 hid;unfold mid;rw [qcD I n id u hu];have:=qh6 (I:=I) (u:=u) (show id≠0 by omega) h2;omega
theorem mid_end_ready {I:Int->List Int} {n:Nat} {out:List Int} {id:Int} (hid:id∈ready I n out):aY I n out id (users I n id)=ready I n (out++[id]):=by
 unfold aY ready;apply List.filter_congr;intro u hu;rw [qct,qh8 hid hu]
theorem rJ {I:Int->List Int} {n:Nat} {out a b:List Int} {id u:Int} (hok:Ok I n out) (hid:id∈ready I n out) (hu:users I n id=a++u::b):
  1<=mid I out a u/\u∉out++[id]/\1<=u/\u<=n/\mid I out (a++[u]) u+1=mid I out a u:=by
 have hm:u∈users I n id:=by rw [hu];simp
 obtain ⟨hi,ha⟩:=qh7 hm;obtain ⟨h1,h2,h3⟩:=mem_ready.1 hid;have hc:=qcD I n id u hi;have hw:=qh6 (I:=I) (u:=u) (show id≠0 by omega) h2;have hp:0<(I u).count id:=List.count_pos_iff.2 ha;rw [hu,List.count_append,List.count_cons_self] at hc;have hr:=jQ.1 hi;refine ⟨by unfold mid;omega,?_,hr.1,hr.2,by unfold mid;rw [List.count_append];simp;omega⟩;intro ho;rcases List.mem_append.1 ho with ho|ho
 ·have:=hok.done u ho;omega
 ·simp at ho;subst ho;omega
theorem qcE {I:Int->List Int} {out a:List Int} {u v:Int} (h:v≠u):mid I out (a++[u]) v=mid I out a v:=by
 unfold mid;rw [List.count_append];have:¬(u=v):=λe=>h e.symm
 simp [this]
theorem mid_stay {I:Int->List Int} {n:Nat} {out a b:List Int} {id u:Int} (hok:Ok I n out) (hid:id∈ready I n out) (hu:users I n id=a++u::b) (h:mid I out (a++[u]) u≠0):
  aY I n out id (a++[u])=aY I n out id a:=by
 unfold aY;apply List.filter_congr;intro v _
 by_cases e:v=u
 ·subst e
  have:=(rJ hok hid hu).1;have e1:(mid I out (a++[v]) v==0)=false:=by simp [h]
  have e2:(mid I out a v==0)=false:=by simp;omega
  rw [e1,e2]
 ·rw [qcE e]
theorem qc7 {l:List Int} (h:l.Pairwise (·<·)) {u:Int} (hu:u∈l):∃A B,l=A++u::B/\(∀x∈A,x<u)/\∀x∈B,u<x:=by
 obtain ⟨A,B,rfl⟩:=List.append_of_mem hu;rw [List.pairwise_append,List.pairwise_cons] at h;exact ⟨A,B,rfl,λx hx=>h.2.2 x hx u sZ,λx hx=>h.2.1.1 x hx⟩
theorem mid_put {I:Int->List Int} {n:Nat} {out a b:List Int} {id u:Int} {at_:Nat} (hok:Ok I n out) (hid:id∈ready I n out) (hu:users I n id=a++u::b) (h:mid I out (a++[u]) u=0)
  (hl:∀j (hj:j<(aY I n out id a).length),j<at_->(aY I n out id a)[j]<u) (hg:∀j (hj:j<(aY I n out id a).length),at_<=j->u<=(aY I n out id a)[j]) (hat:at_<=(aY I n out id a).length):
  aY I n out id (a++[u])=(aY I n out id a).take at_++u::(aY I n out id a).drop at_:=by
 obtain ⟨p1,p2,p3,p4,p5⟩:=rJ hok hid hu;obtain ⟨A,B,hb,hA,hB⟩:=qc7 (qaL n) (jQ.2 ⟨p3,p4⟩)
 have he:((!(out++[id]).contains u&&mid I out a u==0))=false:=by
  have:(mid I out a u==0)=false:=by simp;omega
  rw [this];simp
 have hf:((!(out++[id]).contains u&&mid I out (a++[u]) u==0))=true:=by
  rw [h];simpa using p2
 have hc:∀l:List Int,(∀x∈l,x≠u)->l.filter (λv=>!(out++[id]).contains v&&mid I out (a++[u]) v==0)=l.filter (λv=>!(out++[id]).contains v&&mid I out a v==0):=λl hl=>by
  apply List.filter_congr;intro v hv;rw [qcE (hl v hv)]
 have e1:aY I n out id (a++[u])=A.filter (λv=>!(out++[id]).contains v&&mid I out a v==0)++u::B.filter (λv=>!(out++[id]).contains v&&mid I out a v==0):=by
  unfold aY;rw [hb,List.filter_append,List.filter_cons,ipZ hf,hc A (λx hx=>by have:=hA x hx;omega),hc B (λx hx=>by have:=hB x hx;omega)]
 have e2:aY I n out id a=A.filter (λv=>!(out++[id]).contains v&&mid I out a v==0)++B.filter (λv=>!(out++[id]).contains v&&mid I out a v==0):=by
  unfold aY;rw [hb,List.filter_append,List.filter_cons,he];simp
 rw [e1];generalize hX:A.filter (λv=>!(out++[id]).contains v&&mid I out a v==0)=X at e2;generalize hY:B.filter (λv=>!(out++[id]).contains v&&mid I out a v==0)=Y at e2;have hi:∀x∈X,x<u:=λx hx=>by rw [←hX] at hx;exact hA x ((List.mem_filter.1 hx).1)
 have hd:∀x∈Y,u<x:=λx hx=>by rw [←hY] at hx;exact hB x ((List.mem_filter.1 hx).1)
 generalize aY I n out id a=M at *;subst e2
 have ha:at_=X.length:=by
  rcases Nat.lt_trichotomy at_ X.length with hh|hh|hh
  ·have h1:=hg at_ (by rw [Ze];omega) (lrZ _)
   rw [List.getElem_append_left hh] at h1;have:=hi _ (gmZ hh);omega
  ·exact hh
  ·have h1:=hl X.length (by rw [Ze] at hat ⊢;omega) hh
   rw [Ze] at hat;rw [List.getElem_append_right (lrZ _)] at h1;have:=hd _ (gmZ (show X.length-X.length<Y.length by omega));omega
 subst ha;simp
theorem go_ok (I:Int->List Int) (n k:Nat):Ok I n (go I n k):=by
 induction k with
 | zero=>exact Ok.nil I n
 | succ k ih=>
  rw [go,step]
  split
  ·exact ih
  ·rename_i id r h
   exact ih.push (by rw [h];simp)
theorem qD {I:Int->List Int} {n k:Nat} (h:ready I n (go I n k)=[]):∀j,go I n (k+j)=go I n k
 | 0=>rfl
 | j+1=>by rw [←Nat.add_assoc,go,qD h j,step,h]
theorem uK {I:Int->List Int} {n k:Nat} {id:Int} {r:List Int} (h:ready I n (go I n k)=id::r):go I n (k+1)=go I n k++[id]:=by rw [go,step,h]
theorem qQ (I:Int->List Int) (n k:Nat):(go I n k).length<=k:=by
 induction k with
 | zero=>simp [go]
 | succ k ih=>
  rw [go,step]
  split
  ·omega
  ·rw [Ze];simp;omega
theorem qb6 {l:List Int} {n:Nat} (h:l.Nodup) (hr:∀u∈l,1<=u/\u<=n):l.length<=n:=by
 induction n generalizing l with
 | zero=>
  cases l with
  | nil=>simp
  | cons a r=>have:=hr a sZ;omega
 | succ n ih=>
  have h1:(l.erase ((n:Int)+1)).length<=n:=ih (h.erase _) λu hu=>by
   have hm:=List.mem_of_mem_erase hu;have:=hr u hm
   have ha:u≠(n:Int)+1:=by
    intro e;subst e;exact (List.Nodup.not_mem_erase h) hu
   omega
  rw [List.length_erase] at h1
  split at h1<;>omega
theorem Ok.len {I:Int->List Int} {n:Nat} {out:List Int} (h:Ok I n out):out.length<=n:=qb6 h.nodup h.rng
theorem go_len {I:Int->List Int} {n k:Nat} (h:(go I n k).length=k):k<=n:=by have:=(go_ok I n k).len;omega
theorem order_of_stuck {I:Int->List Int} {n k:Nat} (hk:(go I n k).length=k) (h:ready I n (go I n k)=[]):order I n=go I n k:=by
 have:=go_len hk;unfold order;obtain ⟨j,rfl⟩:∃j,n=k+j:=⟨n-k,by omega⟩
 exact qD h j
theorem qh9 (I:Int->List Int) (n k:Nat):∀a u b,go I n k=a++u::b->wt I a u=0:=by
 induction k with
 | zero=>intro a u b h;simp [go] at h
 | succ k ih=>
  intro a u b h;rw [go,step] at h
  split at h
  ·exact ih a u b h
  ·rename_i id r hr
   rcases List.eq_nil_or_concat b with rfl|⟨b',x,rfl⟩
   ·have h2:=List.append_inj' h rfl
    obtain ⟨e1,e2⟩:=h2;injection e2 with e2
    subst e2;rw [←e1];exact (mem_ready.1 (show id∈ready I n (go I n k) by rw [hr];simp)).2.2
   ·rw [List.concat_eq_append,←List.cons_append,←List.append_assoc] at h
    exact ih a u b' (List.append_inj' h rfl).1
theorem fE (I:Int->List Int) (n:Nat) {a b:List Int} {u:Int} (h:order I n=a++u::b):∀i∈I u,i=0∨i∈a:=by
 have:=qh9 I n n a u b h;unfold wt at this;rw [List.length_eq_zero_iff,List.filter_eq_nil_iff] at this;intro i hi;have:=this i hi;simp at this
 by_cases h0:i=0
 ·exact .inl h0
 ·exact .inr (this h0)
theorem bU {I:Int->List Int} {n:Nat} (h:(order I n).length=n):∀u,u∈order I n↔1<=u/\u<=n:=by
 intro u;refine ⟨(go_ok I n n).rng u,λhu=>?_⟩
 by_cases hm:u∈order I n
 ·exact hm
 ·have h1:(u::order I n).length<=n:=qb6 (by rw [List.nodup_cons];exact ⟨hm,(go_ok I n n).nodup⟩) λv hv=>by
   rcases List.mem_cons.1 hv with rfl|hv
   ·exact hu
   ·exact (go_ok I n n).rng v hv
  rw [List.length_cons] at h1;omega
theorem ready_first {I:Int->List Int} {n:Nat} {out:List Int} {id:Int} (h1:1<=id) (h2:id<=n) (hf:free I out id=true) (hn:∀u,1<=u->u<id->free I out u=false):∃r,ready I n out=id::r:=by
 obtain ⟨A,B,ha,hA,hB⟩:=qc7 (qaL n) (jQ.2 ⟨h1,h2⟩);refine ⟨B.filter (free I out),?_⟩;unfold ready;rw [ha,List.filter_append,List.filter_cons,ipZ hf,List.filter_eq_nil_iff.2,List.nil_append];intro u hu;have hm:u∈ids n:=by rw [ha];simp [hu]
 have:=hn u (jQ.1 hm).1 (hA u hu);simp [this]
theorem ready_none {I:Int->List Int} {n:Nat} {out:List Int} (hn:∀u:Int,1<=u->u<=n->free I out u=false):ready I n out=[]:=by
 unfold ready;rw [List.filter_eq_nil_iff];intro u hu;have:=jQ.1 hu;simp [hn u this.1 this.2]
theorem mF (I:Int->List Int) (n:Nat):(order I n).length<=n:=qQ I n n
theorem dQ (I:Int->List Int) (n:Nat):∀u∈order I n,1<=u/\u<=n:=(go_ok I n n).rng
def qdf (I:Int->List Int) (i:Nat) (l:List Int) (id:Int):List Int:=if id=0 then [] else users I i id++Zc (l.count id) ((i:Int)+1)
def jD (I:Int->List Int) (i:Nat) (l:List Int) (u:Int):Nat:=if 1<=u/\u<=i then wt I [] u else if u=(i:Int)+1 then (l.filter λi=>!(i==0)).length else 0
theorem qfP (i:Nat):ids (i+1)=ids i++[((i:Int)+1)]:=by simp [ids,List.range_succ]
theorem vC (I:Int->List Int) (u:Int):wt I [] u=((I u).filter λi=>!(i==0)).length:=by
 unfold wt
 congr 1
 apply List.filter_congr;intro i _;simp
theorem qha (I:Int->List Int):qdf I 0 []=λ_=>[]:=by funext id;simp [qdf,users,ids]
theorem qhb (I:Int->List Int):jD I 0 []=λ_=>0:=by
 funext u
 unfold jD;rw [inZ oZ]
 split<;>simp
theorem qhc (I:Int->List Int) (i:Nat):qdf I i (I ((i:Int)+1))=qdf I (i+1) []:=by
 funext id
 unfold qdf users;rw [qfP,Zj];simp
theorem qhd (I:Int->List Int) (i:Nat):jD I i (I ((i:Int)+1))=jD I (i+1) []:=by
 funext u
 unfold jD
 by_cases h:u=(i:Int)+1
 ·subst h
  rw [inZ oZ,ipZ rfl,ipZ oZ,vC]
 ·by_cases h2:1<=u/\u<=(i:Int)
  ·rw [ipZ h2,ipZ oZ]
  ·rw [inZ h2,inZ h,inZ oZ]
   split<;>simp
theorem qe7 (I:Int->List Int) (i:Nat) (l:List Int):qdf I i (l++[0])=qdf I i l:=by
 funext id
 unfold qdf
 split
 ·rfl
 ·rename_i h
  have:¬(0=id):=λe=>h e.symm
  simp [List.count_append,this]
theorem qe8 (I:Int->List Int) (i:Nat) (l:List Int):jD I i (l++[0])=jD I i l:=by
 funext u
 unfold jD;simp
theorem uMid_in {I:Int->List Int} {i:Nat} {l:List Int} {id:Int} (h:id≠0) (j:Int):qdf I i (l++[id]) j=if j=id then qdf I i l j++[(i:Int)+1] else qdf I i l j:=by
 unfold qdf
 by_cases e:j=id
 ·subst e
  simp [h,List.count_append,List.replicate_succ']
 ·have:¬(id=j):=λq=>e q.symm
  simp [e,List.count_append,this]
theorem wMid_in {I:Int->List Int} {i:Nat} {l:List Int} {id:Int} (h:id≠0) (u:Int):jD I i (l++[id]) u=if u=(i:Int)+1 then jD I i l u+1 else jD I i l u:=by
 unfold jD
 by_cases e:u=(i:Int)+1
 ·subst e
  rw [inZ oZ,ipZ rfl,ipZ rfl,inZ oZ,ipZ rfl];simp [h]
 ·rw [inZ e,inZ e,inZ e]
theorem sK {I:Int->List Int} {n:Nat} {id:Int} (h:id≠0):qdf I n [] id=users I n id:=by simp [qdf,h]
theorem sN {I:Int->List Int} {n:Nat} {u:Int} (h:1<=u) (h2:u<=n):jD I n [] u=wt I [] u:=by unfold jD;rw [ipZ ⟨h,h2⟩]
theorem uMid_len (I:Int->List Int) (i:Nat) (l:List Int) (id:Int):(qdf I i l id).length<=((ids i).map λu=>(I u).length).sum+l.length:=by
 have h1:∀L:List Int,(L.flatMap λu=>Zc ((I u).count id) u).length<=(L.map λu=>(I u).length).sum:=by
  intro L
  induction L with
  | nil=>simp
  | cons a r ih=>
   rw [List.flatMap_cons,Ze,List.length_replicate,List.map_cons,List.sum_cons];have:(I a).count id<=(I a).length:=List.count_le_length;omega
 unfold qdf users
 split
 ·simp
 ·rw [Ze,List.length_replicate]
  have:=h1 (ids i);have:l.count id<=l.length:=List.count_le_length;omega
end Kn
structure aS where
 op:OpD
 ins:List Int
 p:List (List Int)
deriving DecidableEq
structure aA where
 inn:List Int
 o:List aS
deriving DecidableEq
namespace Nt
def none_:aS:=⟨⟨0,0,0,0,0,0,0,[]⟩,[],[]⟩
def node (ns:List aS) (id:Int):aS:=ns.getD (id.toNat-1) none_
def iF (ns:List aS) (id:Int):List Int:=(node ns id).ins
def iN (n:Nat):List aS->Int
 | []=>0
 | v::r=>if Od.right v.op then (if v.ins.all (λi=>decide (0<=i/\i<=n)) then iN n r else 11) else 21
def sO (ns:List aS):List Int:=Kn.order (iF ns) ns.length
def pick (sh:List (List Int)) (l:List Int):List (List Int):=l.map λi=>sh.getD i.toNat []
def bP (ns:List aS) (sh:List (List Int)) (id:Int):List Int × Int:=Od.shape (node ns id).op (node ns id).p (pick sh (node ns id).ins)
def lay (ns:List aS):List (List Int)->List Int->List (List Int) × Int
 | sh,[]=>(sh,0)
 | sh,id::r=>if (bP ns sh id).2=0 then lay ns (sh.set id.toNat (bP ns sh id).1) r else ([],(bP ns sh id).2)
def start (n:aA):List (List Int):=n.inn::Zc n.o.length []
def isUsed (ns:List aS) (id:Int):Bool:=ns.any λv=>v.ins.contains id
def nums (n:Nat):List Int:=(List.range (n+1)).map λi:Nat=>(i:Int)
def unused (ns:List aS):List Int:=(nums ns.length).filter λid=>!isUsed ns id
def aH (ns:List aS):Int:=(unused ns).getLastD 0
def fQ (ns:List aS):Bool:=decide ((unused ns).length=1/\aH ns≠0)
def shapes (n:aA):List (List Int):=(lay n.o (start n) (sO n.o)).1
def check (n:aA):Int:=
 if n.o.length<1∨512<n.o.length then 12
 else if Sh.right n.inn=false then 20
 else if iN n.o.length n.o≠0 then iN n.o.length n.o
 else if (sO n.o).length≠n.o.length then 22
 else if (lay n.o (start n) (sO n.o)).2≠0 then (lay n.o (start n) (sO n.o)).2
 else if fQ n.o=false then 23
 else if Safe.prod ((shapes n).getD (aH n.o).toNat [])≠1 then 23
 else 0
def users (n:aA) (id:Int):List Int:=(Kn.ids n.o.length).filter λu=>(iF n.o u).contains id
def dH (ns:List aS):Int->List Int->Bool
 | _,[]=>true
 | last,id::r=>decide (iF ns id=[last])&&dH ns id r
def chain (n:aA):Bool:=decide (check n=0)&&dH n.o 0 (sO n.o)
def params (n:aA):List (List Int):=n.o.flatMap (·.p)
theorem qbD {n:Nat}:∀ {ns:List aS} {k:Nat},(∀j (hj:j<ns.length),j<k->Od.right ns[j].op=true/\ns[j].ins.all (λi=>decide (0<=i/\i<=n))=true)->iN n ns=iN n (ns.drop k)
 | _,0,_=>by simp
 | [],_+1,_=>by simp
 | v::r,k+1,h=>by
  have h0:=h 0 sZ oZ;simp only [List.getElem_cons_zero] at h0;rw [iN,ipZ h0.1,ipZ h0.2,List.drop_succ_cons];exact qbD λj hj hk=>by have:=h (j+1) soZ oZ;simpa using this
theorem fD {n:Nat} {ns:List aS} (h:iN n ns=0):∀v∈ns,Od.right v.op=true/\∀i∈v.ins,0<=i/\i<=n:=by
 induction ns with
 | nil=>simp
 | cons v r ih=>
  rw [iN] at h
  split at h
  ·rename_i h1
   split at h
   ·rename_i h2
    intro u hu;rcases List.mem_cons.1 hu with rfl|hu
    ·exact ⟨h1,by simpa using h2⟩
    ·exact ih h u hu
   ·simp at h
  ·simp at h
theorem dI {ns:List aS} {k:Nat} (h:k<ns.length):node ns ((k:Int)+1)=ns[k]:=by
 unfold node;rw [show ((k:Int)+1).toNat-1=k by omega,gdZ,geZ h]
 rfl
theorem qaF (ns:List aS):∀(a b:List Int) (sh:List (List Int)),lay ns sh (a++b)=if (lay ns sh a).2=0 then lay ns (lay ns sh a).1 b else ([],(lay ns sh a).2)
 | [],b,sh=>by simp [lay]
 | id::a,b,sh=>by
  rw [List.cons_append,lay,lay]
  split
  ·exact qaF ns a b _
  ·simp
theorem pM {ns:List aS} {a:List Int} {sh s1:List (List Int)} {id:Int} (h:lay ns sh a=(s1,0)) (hs:(bP ns s1 id).2=0):lay ns sh (a++[id])=(s1.set id.toNat (bP ns s1 id).1,0):=by
 rw [qaF,h];simp [lay,hs]
theorem sW {ns:List aS} {a b:List Int} {sh s1:List (List Int)} {id:Int} (h:lay ns sh a=(s1,0)) (hs:(bP ns s1 id).2≠0):lay ns sh (a++id::b)=([],(bP ns s1 id).2):=by
 rw [qaF,h];simp [lay,hs]
theorem mJ {ns:List aS}:∀ {a:List Int} {sh:List (List Int)},(lay ns sh a).2=0->(lay ns sh a).1.length=sh.length
 | [],_,_=>rfl
 | id::a,sh,h=>by
  rw [lay] at h ⊢
  split at h
  ·rename_i h1;rw [ipZ h1];rw [mJ h];simp
  ·rename_i h1;exact absurd h h1
def Good (a:List Int) (sh:List (List Int)):Prop:=∀i:Int,(i=0∨i∈a)->Sh.right (sh.getD i.toNat [])=true
theorem Good.push {a:List Int} {sh:List (List Int)} {id:Int} {s:List Int} (h:Good a sh) (hs:Sh.right s=true) (hid:id.toNat<sh.length) (h0:∀i∈a,0<=i) (h1:1<=id):Good (a++[id]) (sh.set id.toNat s):=by
 intro i hi
 by_cases e:i=id
 ·subst e
  rw [gdZ,Zr hid];exact hs
 ·have ha:i=0∨i∈a:=by
   rcases hi with hi|hi
   ·exact .inl hi
   ·rcases List.mem_append.1 hi with hi|hi
    ·exact .inr hi
    ·simp at hi;exact absurd hi e
  have hn:0<=i:=by
   rcases ha with rfl|ha
   ·omega
   ·exact h0 i ha
  rw [gdZ,Zs oZ,←gdZ];exact h i ha
theorem Good.pick {a:List Int} {sh:List (List Int)} {l:List Int} (h:Good a sh) (hl:∀i∈l,i=0∨i∈a):(pick sh l).all Sh.right=true:=by
 unfold Nt.pick;rw [List.all_map,Zf];intro i hi;exact h i (hl i hi)
theorem qgl (n:aA) (h:Sh.right n.inn=true):Good [] (start n):=by
 intro i hi;simp at hi;subst hi;simpa [start] using h
theorem mem_nums {n:Nat} {u:Int}:u∈nums n↔0<=u/\u<=n:=by
 simp only [nums,List.mem_map,List.mem_range]
 constructor
 ·rintro ⟨a,h,rfl⟩;omega
 ·intro h;exact ⟨u.toNat,by omega,by omega⟩
theorem iV (ns:List aS):∀(a b:List Int) (l:Int),dH ns l (a++b)=(dH ns l a&&dH ns (a.getLastD l) b)
 | [],b,l=>by simp [dH]
 | x::a,b,l=>by
  rw [List.cons_append,dH,dH,iV ns a b x,Bool.and_assoc]
  congr 3
  cases a with
  | nil=>simp
  | cons y r=>simp [List.getLast?_eq_some_getLast (l:=y::r) sZ]
theorem dD {ns:List aS} (h:fQ ns=true):unused ns=[aH ns]/\1<=aH ns/\aH ns<=ns.length:=by
 simp [fQ] at h;obtain ⟨h1,h2⟩:=h
 match hu:unused ns,h1 with
 | [a],_=>
  have e:aH ns=a:=by simp [aH,hu]
  have hm:a∈unused ns:=by rw [hu];simp
  have:=(mem_nums.1 (List.mem_filter.1 hm).1)
  refine ⟨by rw [e],by omega,by omega⟩
theorem aL {n:aA} (h:check n=0):1<=n.o.length/\n.o.length<=512/\Sh.right n.inn=true/\iN n.o.length n.o=0/\(sO n.o).length=n.o.length/\(lay n.o (start n) (sO n.o)).2=0/\fQ n.o=true/\Safe.prod ((shapes n).getD (aH n.o).toNat [])=1:=by
 unfold check at h
 split at h
 ·omega
 ·rename_i h1
  split at h
  ·omega
  ·rename_i h2
   split at h
   ·rename_i h3;exact absurd h h3
   ·rename_i h3
    split at h
    ·omega
    ·rename_i h4
     split at h
     ·rename_i h5;exact absurd h h5
     ·rename_i h5
      split at h
      ·omega
      ·rename_i h6
       split at h
       ·omega
       ·rename_i h7
        simp at h2 h3 h4 h5 h6 h7;exact ⟨by omega,by omega,h2,h3,h4,h5,h6,by simpa using h7⟩
theorem kJ {n:aA} (hin:Sh.right n.inn=true):∀k,k<=(sO n.o).length->(lay n.o (start n) ((sO n.o).take k)).2=0->Good ((sO n.o).take k) (lay n.o (start n) ((sO n.o).take k)).1
 | 0,_,_=>by simpa [lay] using qgl n hin
 | k+1,hk,h=>by
  have hb:k<(sO n.o).length:=by omega
  have ha:∀u∈sO n.o,1<=u/\u<=n.o.length:=(Kn.go_ok (iF n.o) n.o.length n.o.length).rng;rw [Zb hb] at h ⊢;rw [qaF] at h
  split at h
  ·rename_i h1
   have ih:=kJ hin k oZ h1;generalize hsh:lay n.o (start n) ((sO n.o).take k)=S at *;obtain ⟨s1,e⟩:=S;simp at h1;subst h1
   have hc:s1.length=n.o.length+1:=by
    have:=mJ (ns:=n.o) (a:=(sO n.o).take k) (sh:=start n) (by rw [hsh]);rw [hsh] at this;simpa [start] using this
   by_cases hs:(bP n.o s1 (sO n.o)[k]).2=0
   ·rw [pM hsh hs]
    have hr:=ha _ (gmZ hb);exact ih.push (Od.aV hs) (by simp only;omega) (λi hi=>by have:=ha i (Zh hi);omega) hr.1
   ·simp [lay,hs] at h
  ·rename_i h1;exact absurd h h1
theorem qf6 {n:aA} (h:check n=0):∀i:Int,0<=i->i<=n.o.length->Sh.right ((shapes n).getD i.toNat [])=true:=by
 obtain ⟨h1,h2,h3,h4,h5,h6,h7,h8⟩:=aL h;have:=kJ h3 (sO n.o).length (lrZ _) (by rw [Zg];exact h6);rw [Zg] at this;intro i hi ha;refine this i ?_
 by_cases h0:i=0
 ·exact .inl h0
 ·exact .inr ((Kn.bU h5 i).2 ⟨by omega,ha⟩)
theorem iL {n:aA} (h:check n=0):(shapes n).length=n.o.length+1:=by
 obtain ⟨h1,h2,h3,h4,h5,h6,h7,h8⟩:=aL h;have:=mJ h6;simpa [shapes,start] using this
end Nt
namespace Od
def dK (o:OpD) (p:List (List Int)) (s:List Int):Int:=
 if o.kind=8 then Safe.prod (p.getD 0 [])
 else if o.kind=10 then Safe.prod s*(Safe.prod (p.getD 0 [])).tdiv ((p.getD 0 []).getD 0 0)
 else if o.kind=11∨o.kind=12 then Safe.prod s*o.width
 else Safe.prod s
def cost (o:OpD) (p x:List (List Int)):Int × Int:=if (shape o p x).2=0 then (dK o p (shape o p x).1,0) else (0,(shape o p x).2)
theorem jP {o:OpD} {p x:List (List Int)} (h:(shape o p x).2=0):right o=true/\(p.length:Int)=params o/\least o<=(x.length:Int)/\(∀s∈p,Sh.right s=true)/\(∀s∈x,Sh.right s=true)/\(aZ o p x).2=0/\shape o p x=aZ o p x:=by
 obtain ⟨h1,h2,h3,h4,h5,h6,h7⟩:=qfO h;exact ⟨h1,h4,h2,List.all_eq_true.1 h5,List.all_eq_true.1 h6,by rw [←h7];exact h,h7⟩
theorem vP {a b:Int} (ha:0<=a) (ha2:a<=65536) (hb:0<=b) (hb2:b<=65536):Safe.mul [a,b]=(a*b,0)/\0<=a*b/\a*b<=4294967296:=by
 have h0:0<=a*b:=Int.mul_nonneg ha hb;have h1:a*b<=65536*65536:=Int.le_trans (Int.mul_le_mul_of_nonneg_right ha2 hb) (Int.mul_le_mul_of_nonneg_left hb2 oZ);refine ⟨?_,h0,by omega⟩;have hp:Safe.prod [a,b]=a*b:=by simp [Safe.prod]
 unfold Safe.mul;rw [ipZ (by simp [Safe.ok];omega),hp]
 split
 ·rw [ipZ (by unfold Safe.top;omega)]
 ·rename_i hz
  simp at hz
  by_cases e:a=0
  ·subst e;simp
  ·by_cases e2:b=0
   ·subst e2;simp
   ·exact absurd (hz e) e2
theorem qe9 {side width step:Int} (h:(window side width step).2=0):1<=width/\width<=1024:=by
 unfold window at h
 split at h
 ·rename_i hc;exact (Sh.bA _).1 hc.2.1
 ·simp at h
theorem lN {o:OpD} {p x:List (List Int)} (h:(shape o p x).2=0):
  (o.kind=8->0<p.length)/\(o.kind=10->0<p.length/\0<(p.getD 0 []).length/\1<=(p.getD 0 []).getD 0 0/\(p.getD 0 []).getD 0 0<=1024)/\(o.kind=11∨o.kind=12->1<=o.width/\o.width<=1024):=by
 obtain ⟨hr,hp,hx,hc,hd,hb,_⟩:=jP h;refine ⟨λe=>?_,λe=>?_,λe=>?_⟩
 ·unfold params at hp;rw [ipZ hr,ipZ e] at hp;omega
 ·have hl:0<p.length:=by unfold params at hp;rw [ipZ hr,inZ oZ,ipZ oZ] at hp;omega
  have e0:p.getD 0 []=p[0]:=by simp [hl]
  have h0:=hc p[0] (gmZ hl);obtain ⟨_,_,h3,h4,_,_⟩:=Sh.aT h0;rw [e0];have e1:p[0].getD 0 0=p[0][0]'oZ:=by rw [gdZ,geZ oZ];rfl
  rw [e1];have:=h4 _ (gmZ (show 0<p[0].length by omega));exact ⟨hl,by omega,this.1,this.2⟩
 ·have:(pool (x.getD 0 []) o.width o.step).2=0:=by
   have ha:=hb;unfold aZ at ha;rw [inZ oZ,inZ oZ,inZ oZ,ipZ e] at ha;exact ha
  unfold pool at this
  split at this
  ·split at this
   ·rename_i h;exact qe9 h
   ·simp at this
  ·simp at this
theorem iX {s:List Int} (h:Sh.right s=true):1<=Safe.prod s/\Safe.prod s<=65536:=by
 obtain ⟨_,_,_,_,h5,h6⟩:=Sh.aT h;exact ⟨h5,h6⟩
theorem tC {o:OpD} {p x:List (List Int)} (h:(shape o p x).2=0):0<=dK o p (shape o p x).1/\dK o p (shape o p x).1<=4294967296:=by
 obtain ⟨hr,hp,hx,hd,hf,hb,_⟩:=jP h;obtain ⟨h8,hc,he⟩:=lN h;have hs:=iX (aV h)
 have ha:0<p.length->1<=Safe.prod (p.getD 0 [])/\Safe.prod (p.getD 0 [])<=65536:=λhl=>by
  have e0:p.getD 0 []=p[0]:=by simp [hl]
  rw [e0];exact iX (hd _ (gmZ hl))
 unfold dK
 split
 ·rename_i e;have:=ha (h8 e);omega
 ·split
  ·rename_i e
   obtain ⟨a1,a2,a3,a4⟩:=hc e;have:=ha a1;have q1:0<=(Safe.prod (p.getD 0 [])).tdiv ((p.getD 0 []).getD 0 0):=Int.tdiv_nonneg oZ oZ;have q2:(Safe.prod (p.getD 0 [])).tdiv ((p.getD 0 []).getD 0 0)<=Safe.prod (p.getD 0 []):=Int.tdiv_le_self _ oZ;exact (vP oZ hs.2 q1 oZ).2
  ·split
   ·rename_i e
    have:=he e;exact (vP oZ hs.2 oZ oZ).2
   ·omega
end Od
def Fr (S:Nat->Prop) (w w':Zp1):Prop:=Below 0 w w'/\∀b,b<w.heap.size->¬S b->w'.heap[b]? = w.heap[b]?
section
variable {S T:Nat->Prop} {w w1 w2 w':Zp1}
theorem Fr.size (h:Fr S w w'):w.heap.size<=w'.heap.size:=h.1.size
theorem Fr.refl (S:Nat->Prop) (w:Zp1):Fr S w w:=⟨Ze1 _ _,λ_ _ _=>rfl⟩
theorem Fr.trans' (h:Fr S w w1) (k:Fr T w1 w2) (hT:∀b,b<w.heap.size->T b->S b):Fr S w w2:=
 ⟨h.1.trans k.1,λb hb hS=>(k.2 b (ltZ hb h.size) λht=>hS (hT b hb ht)).trans (h.2 b hb hS)⟩
theorem Fr.trans (h:Fr S w w1) (k:Fr S w1 w2):Fr S w w2:=h.trans' k λ_ _ h=>h
theorem Fr.mono (h:Fr S w w') (hT:∀b,b<w.heap.size->S b->T b):Fr T w w':=⟨h.1,λb hb hS=>h.2 b hb λhs=>hS (hT b hb hs)⟩
theorem Fr.mI {row:Option Nat} (h:w.grownBy w' row) (hS:∀k,row=some k->k<w.heap.size->S k):Fr S w w':=
 ⟨⟨h.os,h.tape,h.output,h.size,λk hk=>absurd hk (Nat.not_lt_zero k)⟩,λb hb hs=>h.block b hb λe=>hs (hS b e.symm hb)⟩
theorem Fr.grown {row:Option Nat} (h:Fr S w w1) (k:w1.grownBy w2 row) (hS:∀j,row=some j->j<w.heap.size->S j):Fr S w w2:=
 ⟨h.1.trans ⟨k.os,k.tape,k.output,k.size,λk hk=>absurd hk (Nat.not_lt_zero k)⟩,λb hb hs=>(k.block b (ltZ hb h.size) λe=>hs (hS b e.symm hb)).trans (h.2 b hb hs)⟩
theorem Fr.alloc (h:Fr S w w1) (o:Obj):Fr S w (w1.alloc o):=⟨h.1.alloc (Zt _) o,λb hb hs=>(Below.heap_alloc w1 o b (ltZ hb h.size)).trans (h.2 b hb hs)⟩
theorem Fr.drew (h:Fr S w w1):Fr S w w1.drew:=⟨h.1.drew,h.2⟩
theorem Fr.drewN (h:Fr S w w1) (n:Nat):Fr S w (w1.drewN n):=⟨qac h.1 n,h.2⟩
theorem Fr.setCell (h:Fr S w w1) {p:Addr} (hp:p.block<w.heap.size->S p.block) (u:Value):Fr S w (w1.setCell p u):=
 ⟨h.1.setCell (Zt _) u,λb hb hs=>(Below.heap_setCell w1 p u b λe=>hs (e▸hp (e▸hb))).trans (h.2 b hb hs)⟩
theorem Fr.of_below {B:Nat} (h:Below B w w') (hS:∀b,b<w.heap.size->¬S b->b<B):Fr S w w':=⟨h.mono (Zt _),λb hb hs=>h.block b (hS b hb hs)⟩
theorem Fr.eZ {B:Nat} (h:Fr S w w1) (k:Below B w1 w2) (hB:w.heap.size<=B):Fr S w w2:=⟨h.1.trans (k.mono (Zt _)),λb hb hs=>(k.block b (ltZ hb hB)).trans (h.2 b hb hs)⟩
theorem Fr.below {B:Nat} (h:Fr S w w') (hS:∀b,S b->B<=b) (hB:B<=w.heap.size):Below B w w':=⟨h.1.os,h.1.tape,h.1.output,h.1.size,λk hk=>h.2 k (ltZ hk hB) λhs=>by have:=hS k hs;omega⟩
theorem Fr.blk {g:Nat} {t:TypeId} {cs:Array Value} (h:Fr S w w') (hb:Blk w g t cs) (hg:¬S g):Blk w' g t cs:=(h.2 g hb.lt hg).trans hb
theorem Fr.cell {p:Addr} {v:Value} (h:Fr S w w') (hc:w.cell? p=some v) (hg:¬S p.block):w'.cell? p=some v:=(Zi1 (w:=w) (h.2 p.block (Zj1 _ _ hc) hg)).trans hc
theorem Fr.ints {k:IntKind} {A:Option Addr} {zs:List Int} (h:Fr S w w') (hI:Ints k w A zs) (hS:∀a,A=some a->¬S a.block):Ints k w' A zs:=λj hj=>by
 obtain ⟨b,off,e,hl,hc⟩:=hI j hj;exact ⟨b,off,e,ltZ hl h.size,h.cell (p:=⟨b,off+j,none⟩) hc (hS ⟨b,off,none⟩ e)⟩
end
theorem qf7 {α:Type} (L:List α) (o:Nat):splice L o ([]:List α)=L:=by simp [splice]
theorem jU {α:Type} (L:List α) (o:Nat) (l:List α) (v:α) (h:o+l.length<L.length):(splice L o l).set (o+l.length) v=splice L o (l++[v]):=by
 unfold splice;have h1:(L.take o).length=o:=by rw [Zo];omega
 rw [←List.append_assoc,List.set_append_right (o+l.length) v (by simp [h1])];rw [show o+l.length-(L.take o++l).length=0 by simp [h1]];rw [Zd h,List.set_cons_zero];simp [List.append_assoc,Nat.add_assoc]
theorem qf8 {α:Type} (L l:List α) (h:l.length=L.length):splice L 0 l=l:=by simp [splice,h]
def On (F:Nat->Prop) (w:Zp1) (Φ:Zp1->Prop):Prop:=∀w',(∀b,F b->w'.heap[b]? = w.heap[b]?)->Φ w'
section
variable {F:Nat->Prop} {S:Nat->Prop} {w w':Zp1} {Φ Ψ:Zp1->Prop}
theorem On.now (h:On F w Φ):Φ w:=h w λ_ _=>rfl
theorem On.agree (h:On F w Φ) (ha:∀b,F b->w'.heap[b]? = w.heap[b]?):On F w' Φ:=λw2 h2=>h w2 λb hb=>(h2 b hb).trans (ha b hb)
theorem On.fr (h:On F w Φ) (hf:Fr S w w') (hF:∀b,F b->b<w.heap.size/\¬S b):On F w' Φ:=h.agree λb hb=>hf.2 b (hF b hb).1 (hF b hb).2
theorem On.mono {G:Nat->Prop} (h:On F w Φ) (hG:∀b,F b->G b):On G w Φ:=λw2 h2=>h w2 λb hb=>h2 b (hG b hb)
end
def dP {α:Type} (B C:Nat) (w:Zp1) (e:TypeId) (size:Nat) (v:Value) (cells:α->List Value) (Φ:α->Zp1->Prop) (L:List α):Prop:=
 w.ownsRow B e size v L.length (L.flatMap cells)/\(∀b,v.ownBlock=some b->b<C)/\C<=w.heap.size/\∀x∈L,∃F:Nat->Prop,On F w (Φ x)/\∀b,F b->B<=b/\b<C/\some b≠v.ownBlock
section
variable {α:Type} {B C:Nat} {w w':Zp1} {e:TypeId} {size:Nat} {v:Value} {cells:α->List Value} {Φ:α->Zp1->Prop} {L:List α} {S:Nat->Prop}
theorem qaa {n:Nat} {xs:List Value} (h:w.ownsRow B e size v n xs) (hk:∀g,v.ownBlock=some g->w'.heap[g]? = w.heap[g]?):w'.ownsRow B e size v n xs:=by
 refine ⟨h.1,?_⟩;rcases h.2 with h|⟨g,cap,cur,rfl,h1,h2,h3⟩
 ·exact .inl h
 ·exact .inr ⟨g,cap,cur,rfl,h1,(hk g rfl).trans h2,h3⟩
theorem dP.nil (B:Nat) (w:Zp1) (e:TypeId) (size:Nat) (cells:α->List Value) (Φ:α->Zp1->Prop):dP B w.heap.size w e size (sQ none 0 0) cells Φ []:=
 ⟨World.ownsRow_nil _ _ _ _,by simp [Value.ownBlock],lrZ _,by simp⟩
theorem dP.fr (h:dP B C w e size v cells Φ L) (hf:Fr S w w') (hS:∀b,B<=b->b<C->¬S b):dP B C w' e size v cells Φ L:=
 ⟨qaa h.1 λg hg=>hf.2 g (h.1.lt g hg).2 (hS g (h.1.lt g hg).1 (h.2.1 g hg)),h.2.1,Zv h.2.2.1 hf.size,λx hx=>by
  obtain ⟨F,hF,hb⟩:=h.2.2.2 x hx;exact ⟨F,hF.fr hf λb k=>⟨ltZ (hb b k).2.1 h.2.2.1,hS b (hb b k).1 (hb b k).2.1⟩,hb⟩⟩
theorem dP.base {B':Nat} (h:dP B C w e size v cells Φ L) (hB:B'<=B):dP B' C w e size v cells Φ L:=by
 refine ⟨⟨h.1.1,?_⟩,h.2.1,h.2.2.1,λx hx=>?_⟩
 ·rcases h.1.2 with h1|⟨g,cap,cur,h1,h2,h3⟩
  ·exact .inl h1
  ·exact .inr ⟨g,cap,cur,h1,Zv hB h2,h3⟩
 ·obtain ⟨F,hF,hb⟩:=h.2.2.2 x hx
  exact ⟨F,hF,λb k=>⟨Zv hB (hb b k).1,(hb b k).2⟩⟩
theorem dP.now (h:dP B C w e size v cells Φ L):∀x∈L,Φ x w:=λx hx=>by obtain ⟨F,hF,_⟩:=h.2.2.2 x hx;exact hF.now
theorem dP.push {x:α} {v':Value} (h:dP B C w e size v cells Φ L) (hown:w'.ownsRow B e size v' (L.length+1) (L.flatMap cells++cells x)) (hg:w.grownBy w' v.ownBlock) (he:v'.ownBlock=v.ownBlock∨v'.ownBlock=some w.heap.size)
  {F:Nat->Prop} (hx:On F w (Φ x)) (hF:∀b,F b->B<=b/\b<w.heap.size/\some b≠v.ownBlock):dP B w'.heap.size w' e size v' cells Φ (L++[x]):=by
 have hc:∀b,b<w.heap.size->some b≠v.ownBlock->some b≠v'.ownBlock:=λb hb hd=>by
  rcases he with e|e
  ·rw [e];exact hd
  ·rw [e];intro h;injection h with h;omega
 refine ⟨by simpa using hown,λb hb=>(hown.lt b hb).2,lrZ _,λy hy=>?_⟩;rcases List.mem_append.1 hy with hy|hy
 ·obtain ⟨G,hG,hb⟩:=h.2.2.2 y hy
  have ha:∀b,G b->b<w.heap.size:=λb k=>ltZ (hb b k).2.1 h.2.2.1
  exact ⟨G,hG.agree λb k=>hg.block b (ha b k) (hb b k).2.2,λb k=>⟨(hb b k).1,ltZ (ha b k) hg.size,hc b (ha b k) (hb b k).2.2⟩⟩
 ·rw [List.mem_singleton] at hy
  subst hy;exact ⟨F,hx.agree λb k=>hg.block b (hF b k).2.1 (hF b k).2.2,λb k=>⟨(hF b k).1,ltZ (hF b k).2.1 hg.size,hc b (hF b k).2.1 (hF b k).2.2⟩⟩
theorem dP.at_ (h:dP B C w e size v cells Φ L) (hc:∀x,(cells x).length=size) {i:Nat} (hi:i<L.length):
  ∃b cap,v=sQ (some ⟨b,0,none⟩) L.length cap/\B<=b/\b<C/\L.length<=cap/\∀j,j<size->w.cell? ⟨b,i*size+j,none⟩=(cells L[i])[j]?:=by
 rcases h.1.2 with ⟨_,h0⟩|⟨g,cap,cur,rfl,hb,hg,hd,_⟩
 ·omega
 ·refine ⟨g,cap,rfl,hb,h.2.1 g rfl,hd,λj hj=>?_⟩
  have ha:∀l:List α,(l.flatMap cells).length=l.length*size:=by
   intro l
   induction l with
   | nil=>simp
   | cons x r ih=>simp [ih,hc,Zu];omega
  have he:i*size+j<L.length*size:=by
   have:(i+1)*size<=L.length*size:=mlZ _ hi;rw [Zu] at this;omega
  rw [h.1.cellAt _ he];have e:L=L.take i++(L[i]::L.drop (i+1)):=by rw [←Zd hi,Zn]
  have e2:(L.flatMap cells)[i*size+j]? = ((L.take i++(L[i]::L.drop (i+1))).flatMap cells)[i*size+j]?:=congrArg (λl=>(l.flatMap cells)[i*size+j]?) e;rw [e2,Zj,List.flatMap_cons,Zl (by rw [ha,Zo];rw [Nat.min_eq_left oZ];omega)];rw [ha,Zo,Nat.min_eq_left oZ,Nat.add_sub_cancel_left,Zm (by rw [hc];exact hj)]
theorem dP.form (h:dP B C w e size v cells Φ L):∃A cap,v=sQ A L.length cap/\L.length<=cap:=by
 rcases h.1.2 with ⟨rfl,h0⟩|⟨g,cap,cur,rfl,hb,hg,ha,_⟩
 ·exact ⟨none,0,by rw [h0],by omega⟩
 ·exact ⟨_,cap,rfl,ha⟩
end
def bQ (w:Zp1) (A:Option Addr) (ss:List (List Int)):Prop:=
 ∀j (hj:j<ss.length),∃b off S c,A=some ⟨b,off,none⟩/\b<w.heap.size/\w.cell? ⟨b,off+j,none⟩=some (sQ S ss[j].length c)/\Ints iQ w S ss[j]/\ss[j].length<=c/\c<=9223372036854775807
section
variable {w w':Zp1} {A:Option Addr} {ss:List (List Int)} {B:Nat}
theorem bQ.below (h:bQ w A ss) (hb:Below B w w') (hB:w.heap.size<=B):bQ w' A ss:=λj hj=>by
 obtain ⟨b,off,S,c,e,hl,hc,hI,h2⟩:=h j hj;exact ⟨b,off,S,c,e,ltZ hl hb.size,(hb.cell (p:=⟨b,off+j,none⟩) (ltZ hl hB)).trans hc,hI.below hb hB,h2⟩
theorem bQ.alloc (h:bQ w A ss) (o:Obj):bQ (w.alloc o) A ss:=h.below ((Ze1 _ _).alloc (lrZ _) o) (lrZ _)
theorem bQ.drewN (h:bQ w A ss) (n:Nat):bQ (w.drewN n) A ss:=h
theorem bQ.drew (h:bQ w A ss):bQ w.drew A ss:=h
theorem bQ.nil:bQ w A []:=λj hj=>absurd hj sZ
end
def OpD.wide (o:OpD):Prop:=∀z∈[o.kind,o.k,o.width,o.step,o.side,o.frm,o.to],-9223372036854775808<=z/\z<=9223372036854775807
def jY (w:Zp1) (A:Option Addr) (ns:List aS):Prop:=
 ∀j (hj:j<ns.length),∃b off S c I d Q q,A=some ⟨b,off,none⟩/\b<w.heap.size/\
  w.cell? ⟨b,off+j*10,none⟩=some (nQ iQ ns[j].op.kind)/\w.cell? ⟨b,off+j*10+1,none⟩=some (nQ iQ ns[j].op.k)/\w.cell? ⟨b,off+j*10+2,none⟩=some (nQ iQ ns[j].op.width)/\
  w.cell? ⟨b,off+j*10+3,none⟩=some (nQ iQ ns[j].op.step)/\w.cell? ⟨b,off+j*10+4,none⟩=some (nQ iQ ns[j].op.side)/\w.cell? ⟨b,off+j*10+5,none⟩=some (nQ iQ ns[j].op.frm)/\
  w.cell? ⟨b,off+j*10+6,none⟩=some (nQ iQ ns[j].op.to)/\w.cell? ⟨b,off+j*10+7,none⟩=some (sQ S ns[j].op.s.length c)/\
  w.cell? ⟨b,off+j*10+8,none⟩=some (sQ I ns[j].ins.length d)/\w.cell? ⟨b,off+j*10+9,none⟩=some (sQ Q ns[j].p.length q)/\
  (Ints iQ w S ns[j].op.s/\ns[j].op.s.length<=c/\c<=9223372036854775807)/\(Ints iQ w I ns[j].ins/\ns[j].ins.length<=d/\d<=9223372036854775807)/\(bQ w Q ns[j].p/\ns[j].p.length<=q/\q<=9223372036854775807)
theorem jY.below {B:Nat} {w w':Zp1} {A:Option Addr} {ns:List aS} (h:jY w A ns) (hb:Below B w w') (hB:w.heap.size<=B):jY w' A ns:=λj hj=>by
 obtain ⟨b,off,S,c,I,d,Q,q,e,hl,c0,c1,c2,c3,c4,c5,c6,c7,c8,c9,⟨h1,hd⟩,⟨h2,he⟩,h3,ha⟩:=h j hj;have hc:∀ {k v},w.cell? ⟨b,k,none⟩=some v->w'.cell? ⟨b,k,none⟩=some v:=fun {k v} hk=>(hb.cell (p:=⟨b,k,none⟩) (ltZ hl hB)).trans hk
 exact ⟨b,off,S,c,I,d,Q,q,e,ltZ hl hb.size,hc c0,hc c1,hc c2,hc c3,hc c4,hc c5,hc c6,hc c7,hc c8,hc c9,⟨h1.below hb hB,hd⟩,⟨h2.below hb hB,he⟩,h3.below hb hB,ha⟩
theorem jY.alloc {w:Zp1} {A:Option Addr} {ns:List aS} (h:jY w A ns) (o:Obj):jY (w.alloc o) A ns:=h.below ((Ze1 _ _).alloc (lrZ _) o) (lrZ _)
def bC (w:Zp1) (A N:Option Addr) (n:aA):Prop:=Ints iQ w A n.inn/\jY w N n.o
theorem bC.below {B:Nat} {w w':Zp1} {A N:Option Addr} {n:aA} (h:bC w A N n) (hb:Below B w w') (hB:w.heap.size<=B):bC w' A N n:=⟨h.1.below hb hB,h.2.below hb hB⟩
def aX (w:Zp1) (g:Nat) (t:TypeId) (sh:List (List Int)):Prop:=
 ∃vs:List Value,vs.length=sh.length/\Blk w g t vs.toArray/\∀j (hj:j<sh.length),∃S c,vs[j]? = some (sQ S sh[j].length c)/\Ints iQ w S sh[j]/\sh[j].length<=c/\c<=9223372036854775807/\∀a,S=some a->a.block≠g
section
variable {w w':Zp1} {g:Nat} {t:TypeId} {sh:List (List Int)} {B:Nat}
theorem aX.lt (h:aX w g t sh):g<w.heap.size:=by obtain ⟨vs,_,hb,_⟩:=h;exact hb.lt
theorem aX.below (h:aX w g t sh) (hb:Below B w w') (hB:w.heap.size<=B):aX w' g t sh:=by
 obtain ⟨vs,hl,hk,hv⟩:=h;refine ⟨vs,hl,hk.below hb (ltZ hk.lt hB),λj hj=>?_⟩;obtain ⟨S,c,e,hI,h2⟩:=hv j hj;exact ⟨S,c,e,hI.below hb hB,h2⟩
theorem aX.alloc (h:aX w g t sh) (o:Obj):aX (w.alloc o) g t sh:=h.below ((Ze1 _ _).alloc (lrZ _) o) (lrZ _)
theorem aX.drewN (h:aX w g t sh) (n:Nat):aX (w.drewN n) g t sh:=h
theorem aX.at_ (h:aX w g t sh) {j:Nat} (hj:j<sh.length):∃S c,w.cell? ⟨g,j,none⟩=some (sQ S sh[j].length c)/\Ints iQ w S sh[j]/\sh[j].length<=c/\c<=9223372036854775807/\∀a,S=some a->a.block≠g:=by
 obtain ⟨vs,hl,hk,hv⟩:=h;obtain ⟨S,c,e,h2⟩:=hv j hj;exact ⟨S,c,by rw [hk.cell j];simpa using e,h2⟩
theorem aX.qG (h:aX w g t sh):bQ w (some ⟨g,0,none⟩) sh:=λj hj=>by
 obtain ⟨S,c,hc,hI,h1,h2,_⟩:=h.at_ hj;exact ⟨g,0,S,c,rfl,h.lt,by rw [Zw];exact hc,hI,h1,h2⟩
theorem Ints.mK {k:IntKind} {A:Option Addr} {zs:List Int} (h:Ints k w A zs) {p:Addr} (hp:∀a,A=some a->a.block≠p.block) (v:Value):Ints k (w.setCell p v) A zs:=λj hj=>by
 obtain ⟨b,off,e,hl,hc⟩:=h j hj;refine ⟨b,off,e,by simpa using hl,?_⟩;have ha:b≠p.block:=hp _ e;exact (Zi1 (w:=w) (a:=⟨b,off+j,none⟩) (Below.heap_setCell w p v b ha)).trans hc
theorem aX.aO (h:aX w g t sh) {i:Nat} {S:Option Addr} {s:List Int} {c:Nat} (hI:Ints iQ w S s) (hc:s.length<=c) (hm:c<=9223372036854775807) (hS:∀a,S=some a->a.block≠g):
  aX (w.setCell ⟨g,i,none⟩ (sQ S s.length c)) g t (sh.set i s):=by
 obtain ⟨vs,hl,hk,hv⟩:=h;refine ⟨vs.set i (sQ S s.length c),by simp [hl],?_,λj hj=>?_⟩
 ·have:=hk.aO i (sQ S s.length c)
  simpa using this
 ·rw [List.length_set] at hj
  by_cases e:i=j
  ·subst e
   refine ⟨S,c,by simp [hl,hj],by simpa using hI.mK (p:=⟨g,i,none⟩) hS _,by simpa using hc,hm,hS⟩
  ·obtain ⟨S',c',e',ha,h1,h2,h3⟩:=hv j hj
   refine ⟨S',c',by simp [Zs e,e',List.getElem_set_ne e],?_,by simpa [List.getElem_set_ne e] using h1,h2,h3⟩;rw [List.getElem_set_ne e];exact ha.mK (p:=⟨g,i,none⟩) h3 _
theorem aX.new {n:Nat} (h:Blk w g t (Zc n (Zb1 none 0 0)).toArray):aX w g t (Zc n []):=
 ⟨Zc n (sQ none 0 0),by simp,h,λj hj=>⟨none,0,by simp at hj;simp [hj],by simp at hj;simp [Ints.nil],by simp,by omega,λa e=>by cases e⟩⟩
end
theorem qea (w:Zp1) (a b:Obj):Below w.heap.size w ((w.alloc a).alloc b):=((Ze1 _ w).alloc (lrZ _) a).alloc sZ b
theorem qhe (w:Zp1) (a b c:Obj):Below w.heap.size w (((w.alloc a).alloc b).alloc c):=(qea w a b).alloc soZ c
def UsedP (o:OpD) (S:Option Addr) (c:Nat) (w:Zp1) (e:Ending) (w':Zp1):Prop:=
 ∃S' c',e=.returned (.agg #[nQ iQ (Od.used o).kind,nQ iQ (Od.used o).k,nQ iQ (Od.used o).width,nQ iQ (Od.used o).step,nQ iQ (Od.used o).side,nQ iQ (Od.used o).frm,nQ iQ (Od.used o).to,sQ S' (Od.used o).s.length c'])/\(S'=S/\(Od.used o).s=o.s∨(Od.used o).s=[])/\Below w.heap.size w w'
theorem qbi (o:OpD) (S:Option Addr) (c:Nat) (w:Zp1):
  Calls prog 166 #[.agg #[nQ iQ o.kind,nQ iQ o.k,nQ iQ o.width,nQ iQ o.step,nQ iQ o.side,nQ iQ o.frm,nQ iQ o.to,sQ S o.s.length c]] w λe w'=>e=.returned (.agg #[nQ iQ o.kind,nQ iQ o.k,nQ iQ o.width,nQ iQ o.step,nQ iQ o.side,nQ iQ o.frm,nQ iQ o.to])/\Below w.heap.size w w':=by
 go_in;go_wp2_with fail;refine Zk1 (v:=.agg #[nQ iQ o.kind,nQ iQ o.k,nQ iQ o.width,nQ iQ o.step,nQ iQ o.side,nQ iQ o.frm,nQ iQ o.to]) (by simp [results,results166,go_sem]) rfl ?_;exact ⟨rfl,qea w _ _⟩
set_option maxRecDepth 100000 in
theorem op_used (o:OpD) (S:Option Addr) (c:Nat) (w:Zp1):
  Calls prog 139 #[.agg #[nQ iQ o.kind,nQ iQ o.k,nQ iQ o.width,nQ iQ o.step,nQ iQ o.side,nQ iQ o.frm,nQ iQ o.to,sQ S o.s.length c]] w (UsedP o S c w):=by
 obtain ⟨kind,k,width,step,side,frm,tz,s⟩:=o
 by_cases hk:kind=2∨kind=5∨kind=10∨kind=11∨kind=12∨kind=13∨kind=14∨kind=15
 ·rcases hk with rfl|rfl|rfl|rfl|rfl|rfl|rfl|rfl
  all_goals
   go_in;go_wp2_with fail
   try go_region_with (fail)
  all_goals try go_wp2_with fail
  all_goals refine Zk1 (by simp [results,results139,go_sem];rfl) rfl ?_
  all_goals refine ⟨_,_,rfl,by simp [Od.used],?_⟩
  all_goals (repeat' first|exact Ze1 _ _|exact qhe _ _ _ _|refine Below.drew ?_|refine Below.setCell ?_ sZ _|refine Below.alloc ?_ sZ _)
 ·have n2:(kind==2)=false:=by simp;omega
  have n5:(kind==5)=false:=by simp;omega
  have n10:(kind==10)=false:=by simp;omega
  have n11:(kind==11)=false:=by simp;omega
  have n12:(kind==12)=false:=by simp;omega
  have n13:(kind==13)=false:=by simp;omega
  have n14:(kind==14)=false:=by simp;omega
  have n15:(kind==15)=false:=by simp;omega
  have HU:=zI (show Od.used ⟨kind,k,width,step,side,frm,tz,s⟩=⟨kind,0,0,0,0,0,0,[]⟩ by unfold Od.used;simp only;rw [inZ oZ,inZ oZ,inZ oZ,inZ oZ,inZ oZ,inZ oZ]);clear hk;go_in;go_wp2_with fail;refine Zk1 (by simp [results,results139,go_sem];rfl) rfl ?_;exact ⟨none,0,by rw [HU.out];rfl,.inr (by rw [HU.out]),qhe w _ _ _⟩
theorem qhf:prog.stoodInHeld 228=false:=by kernel_rfl
theorem qhg:prog.eqGuardType prog.depth 228=false:=by kernel_rfl
theorem i64_one:prog.cellsOf 2=1:=by kernel_rfl
theorem qeb (w:Zp1) (a0 a1 a2 a3 a4 a5 a6 b0 b1 b2 b3 b4 b5 b6:Int):(binOp .eql 228 (.agg #[nQ iQ a0,nQ iQ a1,nQ iQ a2,nQ iQ a3,nQ iQ a4,nQ iQ a5,nQ iQ a6]) (.agg #[nQ iQ b0,nQ iQ b1,nQ iQ b2,nQ iQ b3,nQ iQ b4,nQ iQ b5,nQ iQ b6])).run prog w=
  .ok (.bool (a0==b0&&a1==b1&&a2==b2&&a3==b3&&a4==b4&&a5==b5&&a6==b6)) w:=by
 obtain ⟨i0,hi,_,_,_⟩:=info_parts i64_info;have hA:=run_equalIn_array (P:=prog) (w:=w) 9999 #[nQ iQ a0,nQ iQ a1,nQ iQ a2,nQ iQ a3,nQ iQ a4,nQ iQ a5,nQ iQ a6] #[nQ iQ b0,nQ iQ b1,nQ iQ b2,nQ iQ b3,nQ iQ b4,nQ iQ b5,nQ iQ b6] underlying228 hi;rw [i64_one] at hA;have g1:=qhf;have g2:=qhg;simp [go_sem];rw [hA];rw [show List.range 7=[0,1,2,3,4,5,6] from rfl];clear hA;cases h0:(a0==b0)
 ·simp [Op.eqItems,go_sem,h0]
 cases h1:(a1==b1)
 ·simp [Op.eqItems,go_sem,h0,h1]
 cases h2:(a2==b2)
 ·simp [Op.eqItems,go_sem,h0,h1,h2]
 cases h3:(a3==b3)
 ·simp [Op.eqItems,go_sem,h0,h1,h2,h3]
 cases h4:(a4==b4)
 ·simp [Op.eqItems,go_sem,h0,h1,h2,h3,h4]
 cases h5:(a5==b5)
 ·simp [Op.eqItems,go_sem,h0,h1,h2,h3,h4,h5]
 cases h6:(a6==b6)
 all_goals simp [Op.eqItems,go_sem,h0,h1,h2,h3,h4,h5,h6]
theorem qhh (o q:OpD):decide (o=q)=((o.kind==q.kind&&o.k==q.k&&o.width==q.width&&o.step==q.step&&o.side==q.side&&o.frm==q.frm&&o.to==q.to)&&(o.s==q.s)):=by
 obtain ⟨a0,a1,a2,a3,a4,a5,a6,a7⟩:=o;obtain ⟨b0,b1,b2,b3,b4,b5,b6,b7⟩:=q;rw [Bool.eq_iff_iff];simp [and_assoc]
theorem op_equal (o q:OpD) (S T:Option Addr) (c d:Nat) (w:Zp1) (ho:o.s.length<=17592186043904) (hq:q.s.length<=17592186043904) (hI:Ints iQ w S o.s) (hJ:Ints iQ w T q.s):
  Calls prog 138 #[.agg #[nQ iQ o.kind,nQ iQ o.k,nQ iQ o.width,nQ iQ o.step,nQ iQ o.side,nQ iQ o.frm,nQ iQ o.to,sQ S o.s.length c],.agg #[nQ iQ q.kind,nQ iQ q.k,nQ iQ q.width,nQ iQ q.step,nQ iQ q.side,nQ iQ q.frm,nQ iQ q.to,sQ T q.s.length d]] w λe w'=>e=.returned (.bool (decide (o=q)))/\Below w.heap.size w w':=by
 have hn:=λW=>qeb W o.kind o.k o.width o.step o.side o.frm o.to q.kind q.k q.width q.step q.side q.frm q.to
 have HE:=zI (qhh o q);have hi:=(Blk.new w 74 #[nQ iQ o.kind,nQ iQ o.k,nQ iQ o.width,nQ iQ o.step,nQ iQ o.side,nQ iQ o.frm,nQ iQ o.to,sQ S o.s.length c]).alloc (.cells #[nQ iQ q.kind,nQ iQ q.k,nQ iQ q.width,nQ iQ q.step,nQ iQ q.side,nQ iQ q.frm,nQ iQ q.to,sQ T q.s.length d] 74);have hh:=Blk.new (w.alloc (.cells #[nQ iQ o.kind,nQ iQ o.k,nQ iQ o.width,nQ iQ o.step,nQ iQ o.side,nQ iQ o.frm,nQ iQ o.to,sQ S o.s.length c] 74)) 74 #[nQ iQ q.kind,nQ iQ q.k,nQ iQ q.width,nQ iQ q.step,nQ iQ q.side,nQ iQ q.frm,nQ iQ q.to,sQ T q.s.length d];have hg:=qea w (.cells #[nQ iQ o.kind,nQ iQ o.k,nQ iQ o.width,nQ iQ o.step,nQ iQ o.side,nQ iQ o.frm,nQ iQ o.to,sQ S o.s.length c] 74) (.cells #[nQ iQ q.kind,nQ iQ q.k,nQ iQ q.width,nQ iQ q.step,nQ iQ q.side,nQ iQ q.frm,nQ iQ q.to,sQ T q.s.length d] 74);rw [Zh1] at hh;go_in;go_wp2_with fail;generalize ((w.alloc (.cells #[nQ iQ o.kind,nQ iQ o.k,nQ iQ o.width,nQ iQ o.step,nQ iQ o.side,nQ iQ o.frm,nQ iQ o.to,sQ S o.s.length c] 74)).alloc (.cells #[nQ iQ q.kind,nQ iQ q.k,nQ iQ q.width,nQ iQ q.step,nQ iQ q.side,nQ iQ q.frm,nQ iQ q.to,sQ T q.s.length d] 74))=w0 at *;have hl:=hi.lt;have hk:=hh.lt
 have he:∀W,Below w0.heap.size w0 W->W.cell? ⟨w.heap.size,0,none⟩=some (nQ iQ o.kind)/\W.cell? ⟨w.heap.size,1,none⟩=some (nQ iQ o.k)/\W.cell? ⟨w.heap.size,2,none⟩=some (nQ iQ o.width)/\W.cell? ⟨w.heap.size,3,none⟩=some (nQ iQ o.step)/\W.cell? ⟨w.heap.size,4,none⟩=some (nQ iQ o.side)/\W.cell? ⟨w.heap.size,5,none⟩=some (nQ iQ o.frm)/\W.cell? ⟨w.heap.size,6,none⟩=some (nQ iQ o.to)/\W.cell? ⟨w.heap.size,7,none⟩=some (sQ S o.s.length c)/\W.cell? ⟨w.heap.size+1,0,none⟩=some (nQ iQ q.kind)/\W.cell? ⟨w.heap.size+1,1,none⟩=some (nQ iQ q.k)/\W.cell? ⟨w.heap.size+1,2,none⟩=some (nQ iQ q.width)/\W.cell? ⟨w.heap.size+1,3,none⟩=some (nQ iQ q.step)/\W.cell? ⟨w.heap.size+1,4,none⟩=some (nQ iQ q.side)/\W.cell? ⟨w.heap.size+1,5,none⟩=some (nQ iQ q.frm)/\W.cell? ⟨w.heap.size+1,6,none⟩=some (nQ iQ q.to)/\W.cell? ⟨w.heap.size+1,7,none⟩=some (sQ T q.s.length d):=λW hW=>by
  have k0:=hi.below hW hl;have k1:=hh.below hW hk;have e:=λi=>k0.cell i
  have f:=λi=>k1.cell i
  refine ⟨?_,?_,?_,?_,?_,?_,?_,?_,?_,?_,?_,?_,?_,?_,?_,?_⟩
  all_goals first|(rw [e];rfl)|(rw [f];rfl)
 have hd:Below w0.heap.size w0 w0.drew:=(Ze1 _ _).drew;have hj:=he _ hd;generalize hbv:(o.kind==q.kind&&o.k==q.k&&o.width==q.width&&o.step==q.step&&o.side==q.side&&o.frm==q.frm&&o.to==q.to)=bv at *;obtain ⟨hc,HI,HJ,hr,hs,hp⟩:=zd6 he hI hJ hi hh hbv;clear he hI hJ hi hh hbv;obtain ⟨x0,x1,x2,x3,x4,x5,x6,x7,y0,y1,y2,y3,y4,y5,y6,y7⟩:=hj;cases bv
 ·first
   | (go_region_with (first
     | (go_at_call_of 166 (Value.agg #[nQ iQ o.kind,nQ iQ o.k,nQ iQ o.width,nQ iQ o.step,nQ iQ o.side,nQ iQ o.frm,nQ iQ o.to,sQ S o.s.length c]);refine (qbi o S c _).mono ?_;rintro e wa ⟨rfl,ha⟩;have hf:=hd.trans (ha.mono hd.size);obtain ⟨u0,u1,u2,u3,u4,u5,u6,u7,u8,u9,u10,u11,u12,u13,u14,u15⟩:=hc.out _ hf)
     | (go_at_call 166;refine (qbi q T d _).mono ?_;rintro e wb ⟨rfl,hb⟩;have hf:=hf.trans (hb.mono hf.size);obtain ⟨v0,v1,v2,v3,v4,v5,v6,v7,v8,v9,v10,v11,v12,v13,v14,v15⟩:=hc.out _ hf)))
   | skip
  all_goals
   go_wp2_with fail;go_ret;exact ⟨by rw [HE.out];rfl,hg.trans (hf.mono hg.size)⟩
 ·go_region_held3 (λW=>W.cell? ⟨w.heap.size,0,none⟩=some (nQ iQ o.kind)/\W.cell? ⟨w.heap.size,1,none⟩=some (nQ iQ o.k)/\W.cell? ⟨w.heap.size,2,none⟩=some (nQ iQ o.width)/\W.cell? ⟨w.heap.size,3,none⟩=some (nQ iQ o.step)/\W.cell? ⟨w.heap.size,4,none⟩=some (nQ iQ o.side)/\W.cell? ⟨w.heap.size,5,none⟩=some (nQ iQ o.frm)/\W.cell? ⟨w.heap.size,6,none⟩=some (nQ iQ o.to)/\W.cell? ⟨w.heap.size,7,none⟩=some (sQ S o.s.length c)/\W.cell? ⟨w.heap.size+1,0,none⟩=some (nQ iQ q.kind)/\W.cell? ⟨w.heap.size+1,1,none⟩=some (nQ iQ q.k)/\W.cell? ⟨w.heap.size+1,2,none⟩=some (nQ iQ q.width)/\W.cell? ⟨w.heap.size+1,3,none⟩=some (nQ iQ q.step)/\W.cell? ⟨w.heap.size+1,4,none⟩=some (nQ iQ q.side)/\W.cell? ⟨w.heap.size+1,5,none⟩=some (nQ iQ q.frm)/\W.cell? ⟨w.heap.size+1,6,none⟩=some (nQ iQ q.to)/\W.cell? ⟨w.heap.size+1,7,none⟩=some (sQ T q.s.length d)) (first|exact hc.out _ hm|exact hc.out _ hf|exact hc.out _ hd)
   (first
    | (go_at_call_of 166 (Value.agg #[nQ iQ o.kind,nQ iQ o.k,nQ iQ o.width,nQ iQ o.step,nQ iQ o.side,nQ iQ o.frm,nQ iQ o.to,sQ S o.s.length c]);refine (qbi o S c _).mono ?_;rintro e wa ⟨rfl,ha⟩;have hf:=hd.trans (ha.mono hd.size))
    | (go_at_call 166;refine (qbi q T d _).mono ?_;rintro e wb ⟨rfl,hb⟩;have hf:=hf.trans (hb.mono hf.size))
    | (go_at_call 153;refine (qbv S T c d o.s q.s _ ho hq (HI.out.below (hg.trans (hf.mono hg.size)) (lrZ _)) (HJ.out.below (hg.trans (hf.mono hg.size)) (lrZ _))).mono ?_;rintro e wd ⟨rfl,nd,rfl⟩;have hm:=qac hf nd))
  all_goals
   go_wp2_with fail;go_ret;exact ⟨by rw [HE.out];rfl,hg.trans (hm.mono hg.size)⟩
theorem used_len (o:OpD):(Od.used o).s.length<=o.s.length:=by
 unfold Od.used
 repeat' split
 all_goals simp
theorem qcu (o:OpD) (S:Option Addr) (c:Nat) (w:Zp1) (ho:o.s.length<=17592186043904) (hI:Ints iQ w S o.s):
  Calls prog 108 #[.agg #[nQ iQ o.kind,nQ iQ o.k,nQ iQ o.width,nQ iQ o.step,nQ iQ o.side,nQ iQ o.frm,nQ iQ o.to,sQ S o.s.length c]] w λe w'=>e=.returned (.bool (Od.right o))/\Below w.heap.size w w':=by
 have hi:=Blk.new w 74 #[nQ iQ o.kind,nQ iQ o.k,nQ iQ o.width,nQ iQ o.step,nQ iQ o.side,nQ iQ o.frm,nQ iQ o.to,sQ S o.s.length c];have hf:Below w.heap.size w (w.alloc (.cells #[nQ iQ o.kind,nQ iQ o.k,nQ iQ o.width,nQ iQ o.step,nQ iQ o.side,nQ iQ o.frm,nQ iQ o.to,sQ S o.s.length c] 74)):=(Ze1 _ _).alloc (lrZ _) _;have hj:=hi.lt;have hm:=used_len o
 by_cases h1:1<=o.kind
 case neg=>
  have HR:=zI (show Od.right o=false by simp [Od.right];omega);have d1:decide (1<=o.kind)=false:=by simp;omega
  have d1':decide (o.kind≥1)=false:=d1;go_in;go_wp2_with fail
  first
   | (go_region_with (fail))
   | skip
  all_goals
   go_wp2_with fail;go_ret;exact ⟨by rw [HR.out];rfl,by first|exact hf|exact hf.drew⟩
 by_cases hl:o.kind<=15
 case neg=>
  have HR:=zI (show Od.right o=false by simp [Od.right];omega);have d1:decide (1<=o.kind)=true:=by simp;omega
  have d2:decide (o.kind<=15)=false:=by simp;omega
  go_in;go_wp2_with fail
  first
   | (go_region_with (fail))
   | skip
  all_goals
   go_wp2_with fail;go_ret;exact ⟨by rw [HR.out];rfl,by first|exact hf|exact hf.drew⟩
 have HR:=zI (show Od.right o=decide (o=Od.used o) by simp [Od.right,h1,hl]);have d1:decide (1<=o.kind)=true:=by simp;omega
 have d2:decide (o.kind<=15)=true:=by simp;omega
 go_in;go_wp2_with fail;generalize (w.alloc (.cells #[nQ iQ o.kind,nQ iQ o.k,nQ iQ o.width,nQ iQ o.step,nQ iQ o.side,nQ iQ o.frm,nQ iQ o.to,sQ S o.s.length c] 74))=w0 at *
 have hb:∀W,Below w0.heap.size w0 W->W.cell? ⟨w.heap.size,0,none⟩=some (nQ iQ o.kind)/\W.cell? ⟨w.heap.size,1,none⟩=some (nQ iQ o.k)/\W.cell? ⟨w.heap.size,2,none⟩=some (nQ iQ o.width)/\W.cell? ⟨w.heap.size,3,none⟩=some (nQ iQ o.step)/\W.cell? ⟨w.heap.size,4,none⟩=some (nQ iQ o.side)/\W.cell? ⟨w.heap.size,5,none⟩=some (nQ iQ o.frm)/\W.cell? ⟨w.heap.size,6,none⟩=some (nQ iQ o.to)/\W.cell? ⟨w.heap.size,7,none⟩=some (sQ S o.s.length c):=λW hW=>by
  have k0:=hi.below hW hj;have e:=λi=>k0.cell i
  refine ⟨?_,?_,?_,?_,?_,?_,?_,?_⟩
  all_goals (rw [e];rfl)
 have he:Below w0.heap.size w0 w0.drew:=(Ze1 _ _).drew;obtain ⟨x0,x1,x2,x3,x4,x5,x6,x7⟩:=hb _ he;obtain ⟨hc,HI,hn⟩:=zd3 hb hI hi;clear hb hI hi
 go_region_held3 (λW=>W.cell? ⟨w.heap.size,0,none⟩=some (nQ iQ o.kind)/\W.cell? ⟨w.heap.size,1,none⟩=some (nQ iQ o.k)/\W.cell? ⟨w.heap.size,2,none⟩=some (nQ iQ o.width)/\W.cell? ⟨w.heap.size,3,none⟩=some (nQ iQ o.step)/\W.cell? ⟨w.heap.size,4,none⟩=some (nQ iQ o.side)/\W.cell? ⟨w.heap.size,5,none⟩=some (nQ iQ o.frm)/\W.cell? ⟨w.heap.size,6,none⟩=some (nQ iQ o.to)/\W.cell? ⟨w.heap.size,7,none⟩=some (sQ S o.s.length c)) (first|exact hc.out _ hk|exact hc.out _ hh|exact hc.out _ he)
  (first
   | (go_at_call 139;refine (op_used o S c _).mono ?_;rintro e wa ⟨S',c',rfl,hg,ha⟩;have hh:=he.trans (ha.mono he.size);have HC:=zI hg;clear hg)
   | (go_at_call 138;refine (op_equal o (Od.used o) S S' c c' _ ho oZ (HI.out.below (hf.trans (hh.mono hf.size)) (lrZ _)) (by rcases HC.out with ⟨e1,e2⟩|e2;(rw [e1,e2];exact HI.out.below (hf.trans (hh.mono hf.size)) (lrZ _));(rw [e2];exact Ints.nil))).mono ?_;rintro e wd ⟨rfl,hd⟩;have hk:=hh.trans (hd.mono hh.size)))
 all_goals
  go_wp2_with fail;go_ret;exact ⟨by rw [HR.out];rfl,hf.trans (hk.mono hf.size)⟩
theorem qam {W:Zp1} {g:Nat} {t:TypeId} {o:OpD} {S:Option Addr} {c:Nat} (h:Blk W g t #[nQ iQ o.kind,nQ iQ o.k,nQ iQ o.width,nQ iQ o.step,nQ iQ o.side,nQ iQ o.frm,nQ iQ o.to,sQ S o.s.length c]):
  W.cell? ⟨g,0,none⟩=some (nQ iQ o.kind)/\W.cell? ⟨g,1,none⟩=some (nQ iQ o.k)/\W.cell? ⟨g,2,none⟩=some (nQ iQ o.width)/\W.cell? ⟨g,3,none⟩=some (nQ iQ o.step)/\W.cell? ⟨g,4,none⟩=some (nQ iQ o.side)/\W.cell? ⟨g,5,none⟩=some (nQ iQ o.frm)/\W.cell? ⟨g,6,none⟩=some (nQ iQ o.to)/\W.cell? ⟨g,7,none⟩=some (sQ S o.s.length c):=by
 have e:=λi=>h.cell i
 refine ⟨?_,?_,?_,?_,?_,?_,?_,?_⟩
 all_goals (rw [e];rfl)
theorem qhi (k:Int) (w:Zp1):Calls prog 173 #[nQ iQ k] w λe w'=>e=.returned (nQ iQ (Od.fC k))/\w=w':=by
 by_cases h:1<=k/\k<=7
 ·have hk:k=1∨k=2∨k=3∨k=4∨k=5∨k=6∨k=7:=by omega
  rcases hk with rfl|rfl|rfl|rfl|rfl|rfl|rfl
  all_goals
   go_in;go_wp2_with fail;go_ret;exact ⟨rfl,rfl⟩
 ·have HP:=zI (show Od.fC k=0 by unfold Od.fC;rw [inZ oZ,inZ oZ])
  have n1:(k==1)=false:=by simp;omega
  have n2:(k==2)=false:=by simp;omega
  have n3:(k==3)=false:=by simp;omega
  have n4:(k==4)=false:=by simp;omega
  have n5:(k==5)=false:=by simp;omega
  have n6:(k==6)=false:=by simp;omega
  have n7:(k==7)=false:=by simp;omega
  clear h;go_in;go_wp2_with fail;go_ret;exact ⟨by rw [HP.out];rfl,rfl⟩
theorem op_ins (o:OpD) (S:Option Addr) (c:Nat) (w:Zp1) (ho:o.s.length<=17592186043904) (hI:Ints iQ w S o.s):
  Calls prog 151 #[.agg #[nQ iQ o.kind,nQ iQ o.k,nQ iQ o.width,nQ iQ o.step,nQ iQ o.side,nQ iQ o.frm,nQ iQ o.to,sQ S o.s.length c]] w λe w'=>e=.returned (.tuple #[nQ iQ (Od.least o),nQ iQ (Od.most o)])/\Below w.heap.size w w':=by
 have ha:=Blk.new w 74 #[nQ iQ o.kind,nQ iQ o.k,nQ iQ o.width,nQ iQ o.step,nQ iQ o.side,nQ iQ o.frm,nQ iQ o.to,sQ S o.s.length c];have hb:Below w.heap.size w (w.alloc (.cells #[nQ iQ o.kind,nQ iQ o.k,nQ iQ o.width,nQ iQ o.step,nQ iQ o.side,nQ iQ o.frm,nQ iQ o.to,sQ S o.s.length c] 74)):=(Ze1 _ _).alloc (lrZ _) _;have hc:=ha.lt;have hr:=qcu o S c (w.alloc (.cells #[nQ iQ o.kind,nQ iQ o.k,nQ iQ o.width,nQ iQ o.step,nQ iQ o.side,nQ iQ o.frm,nQ iQ o.to,sQ S o.s.length c] 74)) ho (hI.alloc _);cases hq:Od.right o
 ·have HL:=zI (show Od.least o=0/\Od.most o=0 by simp [Od.least,Od.most,hq])
  rw [hq] at hr;obtain ⟨Hr,hd,Hq,HI⟩:=zd4 hr ha hq hI;clear hr ha hq hI;go_in;go_wp2_with fail;refine (Hr.out).mono ?_;rintro e w1 ⟨rfl,h1⟩;go_wp2_with fail
  go_ret2
  exact ⟨by rw [HL.out.1,HL.out.2];rfl,hb.trans (h1.mono hb.size)⟩
 ·have hg:=Od.fO hq
  rw [hq] at hr
  by_cases h7:o.kind<=7
  ·have HL:=zI (show Od.least o=Od.fC o.kind/\Od.most o=Od.fC o.kind by simp [Od.least,Od.most,hq,h7])
   obtain ⟨Hr,hd,Hq,HI⟩:=zd4 hr ha hq hI;clear hr ha hq hI;go_in;go_wp2_with fail;refine (Hr.out).mono ?_;rintro e w1 ⟨rfl,h1⟩;obtain ⟨x0,-⟩:=qam (hd.out.below h1 hc);go_wp2_with fail;refine (qhi o.kind _).mono ?_;rintro e w2 ⟨rfl,rfl⟩;go_wp2_with fail
   go_ret2
   exact ⟨by rw [HL.out.1,HL.out.2];rfl,hb.trans (h1.mono hb.size)⟩
  ·by_cases he:o.kind=13
   ·have HL:=zI (show Od.least o=1/\Od.most o=8 by simp [Od.least,Od.most,hq,he])
    obtain ⟨Hr,hd,Hq,HI,hf⟩:=zd5 hr ha hq hI he;clear hr ha hq hI he;go_in;go_wp2_with fail;refine (Hr.out).mono ?_;rintro e w1 ⟨rfl,h1⟩;obtain ⟨x0,-⟩:=qam (hd.out.below h1 hc);rw [hf.out] at x0;go_wp2_with fail
    go_ret2
    exact ⟨by rw [HL.out.1,HL.out.2];rfl,hb.trans (h1.mono hb.size)⟩
   ·have HL:=zI (show Od.least o=1/\Od.most o=1 by simp [Od.least,Od.most,hq,he,h7])
    have n13:(o.kind==13)=false:=by simp;omega
    obtain ⟨Hr,hd,Hq,HI⟩:=zd4 hr ha hq hI;clear hr ha hq hI;go_in;go_wp2_with fail;refine (Hr.out).mono ?_;rintro e w1 ⟨rfl,h1⟩;obtain ⟨x0,-⟩:=qam (hd.out.below h1 hc);go_wp2_with fail
    go_ret2
    exact ⟨by rw [HL.out.1,HL.out.2];rfl,hb.trans (h1.mono hb.size)⟩
theorem qhj (o:OpD) (S:Option Addr) (c:Nat) (w:Zp1) (ho:o.s.length<=17592186043904) (hI:Ints iQ w S o.s):
  Calls prog 152 #[.agg #[nQ iQ o.kind,nQ iQ o.k,nQ iQ o.width,nQ iQ o.step,nQ iQ o.side,nQ iQ o.frm,nQ iQ o.to,sQ S o.s.length c]] w λe w'=>e=.returned (nQ iQ (Od.params o))/\Below w.heap.size w w':=by
 have ha:=Blk.new w 74 #[nQ iQ o.kind,nQ iQ o.k,nQ iQ o.width,nQ iQ o.step,nQ iQ o.side,nQ iQ o.frm,nQ iQ o.to,sQ S o.s.length c];have hb:Below w.heap.size w (w.alloc (.cells #[nQ iQ o.kind,nQ iQ o.k,nQ iQ o.width,nQ iQ o.step,nQ iQ o.side,nQ iQ o.frm,nQ iQ o.to,sQ S o.s.length c] 74)):=(Ze1 _ _).alloc (lrZ _) _;have hc:=ha.lt;have hr:=qcu o S c (w.alloc (.cells #[nQ iQ o.kind,nQ iQ o.k,nQ iQ o.width,nQ iQ o.step,nQ iQ o.side,nQ iQ o.frm,nQ iQ o.to,sQ S o.s.length c] 74)) ho (hI.alloc _);cases hq:Od.right o
 ·have HL:=zI (show Od.params o=0 by simp [Od.params,hq])
  rw [hq] at hr;obtain ⟨Hr,hd,Hq,HI⟩:=zd4 hr ha hq hI;clear hr ha hq hI;go_in;go_wp2_with fail;refine (Hr.out).mono ?_;rintro e w1 ⟨rfl,h1⟩;go_wp2_with fail;go_ret;exact ⟨by rw [HL.out];rfl,hb.trans (h1.mono hb.size)⟩
 ·rw [hq] at hr
  by_cases h8:o.kind=8∨o.kind=9∨o.kind=10
  ·have HL:=zI (show Od.params o=if o.kind=8 then 2 else 1 by unfold Od.params;rw [ipZ hq];rcases h8 with h|h|h<;>simp [h])
   obtain ⟨Hr,hd,Hq,HI⟩:=zd4 hr ha hq hI;clear hr ha hq hI;rcases h8 with h8|h8|h8
   all_goals
    have H8:=zI h8;clear h8;go_in;go_wp2_with fail;refine (Hr.out).mono ?_;rintro e w1 ⟨rfl,h1⟩;obtain ⟨x0,-⟩:=qam (hd.out.below h1 hc);rw [H8.out] at x0;go_wp2_with fail;go_ret;exact ⟨by rw [HL.out,H8.out];rfl,hb.trans (h1.mono hb.size)⟩
  ·have HL:=zI (show Od.params o=0 by unfold Od.params;rw [ipZ hq,inZ oZ,inZ oZ])
   have n8:(o.kind==8)=false:=by simp;omega
   have n9:(o.kind==9)=false:=by simp;omega
   have n10:(o.kind==10)=false:=by simp;omega
   obtain ⟨Hr,hd,Hq,HI⟩:=zd4 hr ha hq hI;clear hr ha hq hI;clear h8;go_in;go_wp2_with fail;refine (Hr.out).mono ?_;rintro e w1 ⟨rfl,h1⟩;obtain ⟨x0,-⟩:=qam (hd.out.below h1 hc);go_wp2_with fail;go_ret;exact ⟨by rw [HL.out];rfl,hb.trans (h1.mono hb.size)⟩
theorem qhk (o:OpD) (S:Option Addr) (c:Nat) (p x:Int) (w:Zp1) (ho:o.s.length<=17592186043904) (hI:Ints iQ w S o.s):
  Calls prog 120 #[.agg #[nQ iQ o.kind,nQ iQ o.k,nQ iQ o.width,nQ iQ o.step,nQ iQ o.side,nQ iQ o.frm,nQ iQ o.to,sQ S o.s.length c],nQ iQ p,nQ iQ x] w λe w'=>e=.returned (nQ iQ (Od.counts o p x))/\Below w.heap.size w w':=by
 have hc:=Blk.new w 74 #[nQ iQ o.kind,nQ iQ o.k,nQ iQ o.width,nQ iQ o.step,nQ iQ o.side,nQ iQ o.frm,nQ iQ o.to,sQ S o.s.length c];have ha:Below w.heap.size w (w.alloc (.cells #[nQ iQ o.kind,nQ iQ o.k,nQ iQ o.width,nQ iQ o.step,nQ iQ o.side,nQ iQ o.frm,nQ iQ o.to,sQ S o.s.length c] 74)):=(Ze1 _ _).alloc (lrZ _) _;have hd:=hc.lt;have hr:=qcu o S c (w.alloc (.cells #[nQ iQ o.kind,nQ iQ o.k,nQ iQ o.width,nQ iQ o.step,nQ iQ o.side,nQ iQ o.frm,nQ iQ o.to,sQ S o.s.length c] 74)) ho (hI.alloc _);cases hq:Od.right o
 ·have HL:=zI (show Od.counts o p x=21 by simp [Od.counts,hq])
  rw [hq] at hr;obtain ⟨Hr,he,Hq,HI⟩:=zd4 hr hc hq hI;clear hr hc hq hI;go_in;go_wp2_with fail;refine (Hr.out).mono ?_;rintro e w1 ⟨rfl,h1⟩;go_wp2_with fail;go_ret;exact ⟨by rw [HL.out];rfl,ha.trans (h1.mono ha.size)⟩
 ·rw [hq] at hr
  have HL:=zI (show Od.counts o p x=if x<Od.least o∨Od.most o<x∨p≠Od.params o then 20 else 0 by simp [Od.counts,hq]);obtain ⟨Hr,he,Hq,HI⟩:=zd4 hr hc hq hI;clear hr hc hq hI;go_in;go_wp2_with fail;refine (Hr.out).mono ?_;rintro e w1 ⟨rfl,h1⟩;obtain ⟨x0,x1,x2,x3,x4,x5,x6,x7⟩:=qam (he.out.below h1 hd);go_wp2_with fail;refine (op_ins o S c _ ho (HI.out.below (ha.trans (h1.mono ha.size)) (lrZ _))).mono ?_;rintro e w2 ⟨rfl,h2⟩;clear x0 x1 x2 x3 x4 x5 x6 x7;have hb:=h1.trans (h2.mono h1.size)
  by_cases hh:x<Od.least o
  ·go_wp2_with fail
   go_ret;exact ⟨by rw [HL.out,ipZ (.inl hh)];rfl,ha.trans (hb.mono ha.size)⟩
  ·by_cases hg:Od.most o<x
   ·go_wp2_with fail
    go_ret;exact ⟨by rw [HL.out,ipZ (.inr (.inl hg))];rfl,ha.trans (hb.mono ha.size)⟩
   ·obtain ⟨x0,x1,x2,x3,x4,x5,x6,x7⟩:=qam (he.out.below hb hd)
    go_wp2_with fail;refine (qhj o S c _ ho (HI.out.below (ha.trans (hb.mono ha.size)) (lrZ _))).mono ?_;rintro e w3 ⟨rfl,h3⟩;clear x0 x1 x2 x3 x4 x5 x6 x7;have hf:=hb.trans (h3.mono hb.size)
    by_cases hp:p=Od.params o
    ·have hi:(p != Od.params o)=false:=by simp [hp]
     have HE:=zI (show Od.counts o p x=0 by rw [HL.out,inZ oZ]);clear hp;go_wp2_with fail;go_ret;exact ⟨by rw [HE.out];rfl,ha.trans (hf.mono ha.size)⟩
    ·have hi:(p != Od.params o)=true:=by simp [hp]
     have HE:=zI (show Od.counts o p x=20 by rw [HL.out,ipZ (.inr (.inr hp))]);clear hp;go_wp2_with fail;go_ret;exact ⟨by rw [HE.out];rfl,ha.trans (hf.mono ha.size)⟩
def aK (r:List Int × Int) (w:Zp1) (e:Ending) (w':Zp1):Prop:=
 ∃S c,e=.returned (.tuple #[sQ S r.1.length c,nQ iQ r.2])/\Ints iQ w' S r.1/\r.1.length<=c/\c<=9223372036854775807/\(∀a,S=some a->w.heap.size<=a.block)/\Below w.heap.size w w'
theorem aK.fail {r:List Int × Int} {w w':Zp1} {n:Int} (hr:r=([],n)) (hb:Below w.heap.size w w'):aK r w (.returned (.tuple #[sQ none 0 0,nQ iQ n])) w':=by
 subst hr;exact ⟨_,_,rfl,Ints.nil,by simp,by omega,(λa h=>by cases h),hb⟩
theorem aK.fresh {r:List Int × Int} {w w':Zp1} {g c n:Nat} {l:List Int} {t:TypeId} (hr:r=(l,0)) (hn:n=l.length) (hg:w.heap.size<=g) (hk:Blk w' g t (l.map (Za1 iQ)).toArray) (hc:l.length<=c) (hm:c<=9223372036854775807) (hb:Below w.heap.size w w'):
  aK r w (.returned (.tuple #[sQ (some ⟨g,0,none⟩) n c,nQ iQ 0])) w':=by
 subst hr hn;refine ⟨_,_,rfl,Ints.dV λj hj=>?_,hc,hm,(λa h=>by injection h with h;subst h;exact hg),hb⟩;rw [hk.cell];simp [hj]
theorem aK.mk' {r:List Int × Int} {w w':Zp1} {S:Option Addr} {c n:Nat} {l:List Int} (hr:r=(l,0)) (hn:n=l.length) (hI:Ints iQ w' S l) (hc:l.length<=c) (hm:c<=9223372036854775807) (hS:∀a,S=some a->w.heap.size<=a.block) (hb:Below w.heap.size w w'):
  aK r w (.returned (.tuple #[sQ S n c,nQ iQ 0])) w':=by
 subst hr hn;exact ⟨_,_,rfl,hI,hc,hm,hS,hb⟩
theorem Blk.ints_set {w:Zp1} {g i:Nat} {t:TypeId} {l:List Int} {n:Int} (h:Blk w g t (l.map (Za1 iQ)).toArray):Blk (w.setCell ⟨g,i,none⟩ (nQ iQ n)) g t ((l.set i n).map (Za1 iQ)).toArray:=by
 have:=h.aO i (nQ iQ n);simpa using this
theorem qec (w:Zp1) (a b c:Int):(Instr.index 53 (.agg #[nQ iQ a,nQ iQ b,nQ iQ c]) (nQ iQ 0)).run prog w=.ok (nQ iQ a) w:=by
 simp [Instr.index,run_underlying underlying53,asIntOf,go_sem]
theorem qed (w:Zp1) (a b c:Int):(Instr.index 53 (.agg #[nQ iQ a,nQ iQ b,nQ iQ c]) (nQ iQ 1)).run prog w=.ok (nQ iQ b) w:=by
 simp [Instr.index,run_underlying underlying53,asIntOf,go_sem]
theorem qee (w:Zp1) (a b c:Int):(Instr.index 53 (.agg #[nQ iQ a,nQ iQ b,nQ iQ c]) (nQ iQ 2)).run prog w=.ok (nQ iQ c) w:=by
 simp [Instr.index,run_underlying underlying53,asIntOf,go_sem]
set_option maxRecDepth 100000 in
theorem qb7 (side width step:Int) (w:Zp1):
  Calls prog 154 #[nQ iQ side,nQ iQ width,nQ iQ step] w λe w'=>e=.returned (.tuple #[nQ iQ (Od.window side width step).1,nQ iQ (Od.window side width step).2])/\w=w':=by
 have bad:¬(Sh.side side=true/\Sh.side width=true/\Sh.side step=true/\width<=side)->Hid (Od.window side width step=(0,11)):=λh=>zI (by unfold Od.window;rw [inZ h])
 have r0:=λW=>qec W side width step
 have r1:=λW=>qed W side width step
 have r2:=λW=>qee W side width step
 go_in;go_wp2_with fail
 go_loopw [14] (λi wr=>wr=w/\∃k:Nat,k<=3/\i=nQ iQ k/\(0<k->Sh.side side=true)/\(1<k->Sh.side width=true)/\(2<k->Sh.side step=true)) (λi _=>3-(intOf i).toNat)
 case atStart=>exact ⟨rfl,0,by omega,rfl,by omega,by omega,by omega⟩
 case round=>
  obtain ⟨rfl,k,hk,rfl,h1,h2,h3⟩:=hrel;have ha:k=0∨k=1∨k=2∨k=3:=by omega
  rcases ha with rfl|rfl|rfl|rfl
  ·by_cases a1:side<1
   ·have HB:=bad (by rw [Sh.bA];omega)
    clear bad h1 h2 h3;go_wp2_with fail
    go_ret2
    exact ⟨by rw [HB.out];rfl,rfl⟩
   ·by_cases a2:1024<side
    ·have HB:=bad (by rw [Sh.bA];omega)
     clear bad h1 h2 h3;go_wp2_with fail
     go_ret2
     exact ⟨by rw [HB.out];rfl,rfl⟩
    ·clear bad h1 h2 h3
     go_wp2_with fail;go_roundw
     case rel=>exact ⟨trivial,1,by omega,by go_num,λ_=>(Sh.bA _).2 oZ,by omega,by omega⟩
     case measure=>simp [intOf]
  ·by_cases a1:width<1
   ·have HB:=bad (by rw [Sh.bA,Sh.bA];omega)
    clear bad h1 h2 h3;go_wp2_with fail
    go_ret2
    exact ⟨by rw [HB.out];rfl,rfl⟩
   ·by_cases a2:1024<width
    ·have HB:=bad (by rw [Sh.bA,Sh.bA];omega)
     clear bad h1 h2 h3;go_wp2_with fail
     go_ret2
     exact ⟨by rw [HB.out];rfl,rfl⟩
    ·have H1:=zI (h1 oZ)
     clear bad h1 h2 h3;go_wp2_with fail;go_roundw
     case rel=>exact ⟨trivial,2,by omega,by go_num,λ_=>H1.out,λ_=>(Sh.bA _).2 oZ,by omega⟩
     case measure=>simp [intOf]
  ·by_cases a1:step<1
   ·have HB:=bad (by rw [Sh.bA,Sh.bA,Sh.bA];omega)
    clear bad h1 h2 h3;go_wp2_with fail
    go_ret2
    exact ⟨by rw [HB.out];rfl,rfl⟩
   ·by_cases a2:1024<step
    ·have HB:=bad (by rw [Sh.bA,Sh.bA,Sh.bA];omega)
     clear bad h1 h2 h3;go_wp2_with fail
     go_ret2
     exact ⟨by rw [HB.out];rfl,rfl⟩
    ·have H1:=zI (h1 oZ)
     have H2:=zI (h2 oZ);clear bad h1 h2 h3;go_wp2_with fail;go_roundw
     case rel=>exact ⟨trivial,3,by omega,by go_num,λ_=>H1.out,λ_=>H2.out,λ_=>(Sh.bA _).2 oZ⟩
     case measure=>simp [intOf]
  ·have h1:=h1 oZ
   have h2:=h2 oZ;have h3:=h3 oZ
   by_cases hw:side<width
   ·have HB:=bad oZ
    clear bad h1 h2 h3;go_wp2_with fail
    go_ret2
    exact ⟨by rw [HB.out];rfl,rfl⟩
   ·have HG:=zI (show Od.window side width step=(1+(side-width).tdiv step,0) by unfold Od.window;rw [ipZ ⟨h1,h2,h3,by omega⟩])
    rw [Sh.bA] at h1 h2 h3;have q1:0<=(side-width).tdiv step:=Int.tdiv_nonneg oZ oZ;have q2:(side-width).tdiv step<=side-width:=Int.tdiv_le_self _ oZ;clear bad;go_wp2_with fail
    go_ret2
    exact ⟨by rw [HG.out];rfl,rfl⟩
theorem qa2 {l:List Int} {k:Nat} (h:k<l.length):l.getD k 0=l[k]:=by rw [gdZ,geZ h];rfl
theorem Ints.eG {w:Zp1} {k:IntKind} {b off j:Nat} {zs:List Int} (h:Ints k w (some ⟨b,off,none⟩) zs) (hj:j<zs.length):w.cell? ⟨b,off+j,none⟩=some (.int k zs[j]):=by
 obtain ⟨b1,o1,e,_,hc⟩:=h j hj;injection e with e
 injection e with e1 e2
 subst e1 e2;rw [qa2 hj] at hc;exact hc
theorem qhl (A:Option Addr) (c:Nat) (zs:List Int) (side frm tz:Int) (w:Zp1) (hl:zs.length<=17592186043904) (hI:Ints iQ w A zs):
  Calls prog 126 #[sQ A zs.length c,nQ iQ side,nQ iQ frm,nQ iQ tz] w (aK (Od.cut zs side frm tz) w):=by
 have hd:=aV A c zs w oZ hI;cases hr:Sh.right zs
 ·have HE:=zI (show Od.cut zs side frm tz=([],20) by simp [Od.cut,hr])
  rw [hr] at hd;obtain ⟨Hr,HI,ha⟩:=zd3 hr hI hd;clear hr hI hd;go_in;go_wp2_with fail;refine (ha.out).mono ?_;rintro e w1 ⟨rfl,h1⟩;go_wp2_with fail
  go_ret2
  exact aK.fail HE.out h1
 ·have fail:¬(0<=side/\side<zs.length/\0<=frm/\tz<=Od.at_ zs side/\frm<tz)->Od.cut zs side frm tz=([],11):=λh=>by
   unfold Od.cut;rw [ipZ hr,inZ];simp [Od.inR];omega
  have good:(0<=side/\side<zs.length/\0<=frm/\tz<=Od.at_ zs side/\frm<tz)->Od.cut zs side frm tz=(zs.set side.toNat (tz-frm),0):=λh=>by
   unfold Od.cut;rw [ipZ hr,ipZ];simp [Od.inR];omega
  obtain ⟨_,a1,a2,a3,-⟩:=Sh.aT hr;rw [hr] at hd;obtain ⟨Hr,HI,ha,hi⟩:=zd4 hr hI hd a3;clear hr hI hd a3
  by_cases c1:side<0
  ·have HE:=zI (fail oZ)
   clear fail good;go_in;go_wp2_with fail;refine (ha.out).mono ?_;rintro e w1 ⟨rfl,h1⟩;go_wp2_with fail
   go_ret2
   exact aK.fail HE.out h1
  obtain ⟨k,rfl⟩:∃k:Nat,side=k:=⟨side.toNat,by omega⟩
  by_cases c2:zs.length<=k
  ·have HE:=zI (fail oZ)
   clear fail good;go_in;go_wp2_with fail;refine (ha.out).mono ?_;rintro e w1 ⟨rfl,h1⟩;go_wp2_with fail
   go_ret2
   exact aK.fail HE.out h1
  have hk:k<zs.length:=by omega
  have hf:Od.at_ zs k=zs[k]:=by unfold Od.at_;rw [show ((k:Int)).toNat=k by omega,qa2 hk]
  rw [hf] at fail good;have hz:=hi.out _ (gmZ hk);clear hf
  by_cases c3:frm<0
  ·have HE:=zI (fail oZ)
   clear fail good;go_in;go_wp2_with fail;refine (ha.out).mono ?_;rintro e w1 ⟨rfl,h1⟩;go_wp2_with fail
   go_ret2
   exact aK.fail HE.out h1
  obtain ⟨b,off,rfl,hb,-⟩:=HI.out k hk
  by_cases c4:zs[k]<tz
  ·have HE:=zI (fail oZ)
   clear fail good;go_in;go_wp2_with fail;refine (ha.out).mono ?_;rintro e w1 ⟨rfl,h1⟩;obtain ⟨b',off',e,_,hc⟩:=HI.out.below h1 (lrZ _) k hk;injection e with e;injection e with e1 e2;subst e1 e2
   rw [qa2 hk] at hc;go_wp2_with fail
   go_ret2
   exact aK.fail HE.out h1
  by_cases c5:tz<=frm
  ·have HE:=zI (fail oZ)
   clear fail good;go_in;go_wp2_with fail;refine (ha.out).mono ?_;rintro e w1 ⟨rfl,h1⟩;obtain ⟨b',off',e,_,hc⟩:=HI.out.below h1 (lrZ _) k hk;injection e with e;injection e with e1 e2;subst e1 e2
   rw [qa2 hk] at hc;go_wp2_with fail
   go_ret2
   exact aK.fail HE.out h1
  have HE:=zI (good oZ);clear fail good;go_in;go_wp2_with fail;refine (ha.out).mono ?_;rintro e w1 ⟨rfl,h1⟩;obtain ⟨b',off',e,_,hc⟩:=HI.out.below h1 (lrZ _) k hk;injection e with e;injection e with e1 e2;subst e1 e2
  rw [qa2 hk] at hc;go_wp2_with fail;refine (qat _ c zs _ hl (HI.out.below h1 (lrZ _))).mono ?_;rintro e w2 ⟨g,rfl,hg,hB,h2⟩;have hj:=h1.trans (h2.mono h1.size);have he:Blk w2 g 3 (zs.map (Za1 iQ)).toArray:=hB;have hh:=he.cell k;have hn:=he.frozen k;simp [hk] at hh;have HB:=zI he;have hm:=h1.size;clear hB he hc;go_wp2_with fail
  go_ret2
  refine aK.fresh HE.out sZ oZ HB.out.ints_set sZ oZ ?_;exact hj.setCell soZ _
theorem qgm (A:Option Addr) (c:Nat) (zs:List Int) (width step:Int) (w:Zp1) (hl:zs.length<=17592186043904) (hI:Ints iQ w A zs):
  Calls prog 124 #[sQ A zs.length c,nQ iQ width,nQ iQ step] w (aK (Od.pool zs width step) w):=by
 have ha:=aV A c zs w oZ hI;cases hr:Sh.right zs
 ·have HE:=zI (show Od.pool zs width step=([],20) by simp [Od.pool,hr])
  rw [hr] at ha;obtain ⟨Hr,HI,hd⟩:=zd3 hr hI ha;clear hr hI ha;go_in;go_wp2_with fail;refine (hd.out).mono ?_;rintro e w1 ⟨rfl,h1⟩;go_wp2_with fail
  go_ret2
  exact aK.fail HE.out h1
 ·obtain ⟨_,a1,a2,a3,-⟩:=Sh.aT hr
  obtain ⟨k,hk⟩:∃k:Nat,zs.length=k+1:=⟨zs.length-1,by omega⟩
  have he:k<zs.length:=by omega
  have hh:zs.getD (zs.length-1) 0=zs[k]:=by rw [show zs.length-1=k by omega,qa2 he]
  have hp:Od.pool zs width step=if (Od.window zs[k] width step).2=0 then (zs.set k (Od.window zs[k] width step).1,0) else ([],11):=by
   unfold Od.pool;rw [ipZ hr,hh,show zs.length-1=k by omega]
  rw [hr] at ha;obtain ⟨b,off,rfl,hb,-⟩:=hI k he;have e1:iQ.wrap ((zs.length:Int)-1)=k:=by have:=Zc1 ((zs.length:Int)-1) oZ;omega
  obtain ⟨Hr,HI,hd,hn,hq⟩:=zd5 hr hI ha a3 hh;clear hr hI ha a3 hh;clear hk
  by_cases hw:(Od.window zs[k] width step).2=0
  ·have HE:=zI (show Od.pool zs width step=(zs.set k (Od.window zs[k] width step).1,0) by rw [hp,ipZ hw])
   have HW:=zI hw;clear hp hw;go_in;go_wp2_with fail;refine (hd.out).mono ?_;rintro e w1 ⟨rfl,h1⟩;obtain ⟨b',off',e,_,hc⟩:=HI.out.below h1 (lrZ _) k he;injection e with e;injection e with e2 e3;subst e2 e3
   rw [qa2 he] at hc;go_wp2_with fail;refine (qb7 zs[k] width step _).mono ?_;rintro e w2 ⟨rfl,rfl⟩;rw [HW.out];go_wp2_with fail;refine (qat _ c zs _ hl (HI.out.below h1 (lrZ _))).mono ?_;rintro e w2 ⟨g,rfl,hg,hB,h2⟩;have hj:=h1.trans (h2.mono h1.size);have hf:Blk w2 g 3 (zs.map (Za1 iQ)).toArray:=hB;have hi:=hf.cell k;have ho:=hf.frozen k;simp [he] at hi;have HB:=zI hf;have hm:=h1.size;clear hB hf hc;go_wp2_with fail
   go_ret2
   refine aK.fresh HE.out sZ oZ HB.out.ints_set sZ oZ ?_;exact hj.setCell soZ _
  ·have HE:=zI (show Od.pool zs width step=([],11) by rw [hp,inZ hw])
   have HW:=zI (Od.jX hw);clear hp hw;go_in;go_wp2_with fail;refine (hd.out).mono ?_;rintro e w1 ⟨rfl,h1⟩;obtain ⟨b',off',e,_,hc⟩:=HI.out.below h1 (lrZ _) k he;injection e with e;injection e with e2 e3;subst e2 e3
   rw [qa2 he] at hc;go_wp2_with fail;refine (qb7 zs[k] width step _).mono ?_;rintro e w2 ⟨rfl,rfl⟩;rw [HW.out];go_wp2_with fail
   go_ret2
   exact aK.fail HE.out h1
namespace Od
def oF (s t:List Int) (side:Nat) (k:Nat):List Int:=if side<k then joinL s t side else s
theorem join_bad {s t:List Int} {side:Int} {k:Nat} (h1:Sh.right s=true) (h2:Sh.right t=true) (h3:s.length=t.length) (h4:0<=side/\side<s.length) (hk:k<s.length) (hk2:k<t.length) (hs:(k:Int)≠side) (hne:s[k]≠t[k]):join s t side=([],20):=by
 unfold join;rw [ipZ (by simp [h1,h2,h3]),ipZ (by simp [inR,h4]),inZ];rw [Zz,not_and];intro h
 exfalso
 unfold iR at h;rw [Zf] at h;have:=h k (List.mem_range.2 hk);rw [qa2 hk,qa2 hk2] at this;simp [hs,hne] at this
theorem joinOk_of {s t:List Int} {side:Nat} (h:∀j (h1:j<s.length) (h2:j<t.length),j≠side->s[j]=t[j]) (hl:s.length=t.length):iR s t side=true:=by
 unfold iR;rw [Zf];intro j hj;have hj:=List.mem_range.1 hj
 by_cases e:j=side
 ·simp [e]
 ·rw [qa2 hj,qa2 (by omega:j<t.length)]
  simp [h j hj oZ e]
end Od
theorem qgn (A B:Option Addr) (c d:Nat) (s t:List Int) (side:Int) (w:Zp1) (hl:s.length<=17592186043904) (hl':t.length<=17592186043904) (hI:Ints iQ w A s) (hJ:Ints iQ w B t):
  Calls prog 155 #[sQ A s.length c,sQ B t.length d,nQ iQ side] w (aK (Od.join s t side) w):=by
 have hd:=aV A c s w oZ hI;have ha:=λw1 (h1:Below w.heap.size w w1)=>aV B d t w1 oZ (hJ.below h1 (lrZ _))
 cases hr:Sh.right s
 ·have HE:=zI (show Od.join s t side=([],20) by simp [Od.join,hr])
  rw [hr] at hd;obtain ⟨Hr,HI,HJ,hf,he⟩:=zd5 hr hI hJ hd ha;clear hr hI hJ hd ha;go_in;go_wp2_with fail;refine (hf.out).mono ?_;rintro e w1 ⟨rfl,h1⟩;go_wp2_with fail
  go_ret2
  exact aK.fail HE.out h1
 rw [hr] at hd;cases hq:Sh.right t
 ·have HE:=zI (show Od.join s t side=([],20) by simp [Od.join,hq])
  rw [hq] at ha;obtain ⟨Hr,Hq,HI,HJ,hf,he⟩:=zd6 hr hq hI hJ hd ha;clear hr hq hI hJ hd ha;go_in;go_wp2_with fail;refine (hf.out).mono ?_;rintro e w1 ⟨rfl,h1⟩;go_wp2_with fail;refine (he.out _ h1).mono ?_;rintro e w2 ⟨rfl,h2⟩;go_wp2_with fail
  go_ret2
  exact aK.fail HE.out (h1.trans (h2.mono h1.size))
 rw [hq] at ha;obtain ⟨_,a1,a2,a3,-⟩:=Sh.aT hr;obtain ⟨_,b1,b2,b3,-⟩:=Sh.aT hq
 by_cases ho:s.length=t.length
 case neg=>
  have HE:=zI (show Od.join s t side=([],20) by simp [Od.join,ho]);have hn:((s.length:Int) != t.length)=true:=by simp;omega
  obtain ⟨Hr,Hq,HI,HJ,hf,he,hM,hN⟩:=zd8 hr hq hI hJ hd ha a3 b3;clear hr hq hI hJ hd ha a3 b3;clear ho;go_in;go_wp2_with fail;refine (hf.out).mono ?_;rintro e w1 ⟨rfl,h1⟩;go_wp2_with fail;refine (he.out _ h1).mono ?_;rintro e w2 ⟨rfl,h2⟩;go_wp2_with fail
  go_ret2
  exact aK.fail HE.out (h1.trans (h2.mono h1.size))
 have hn:((s.length:Int) != t.length)=false:=by simp [ho]
 by_cases c1:side<0
 ·have HE:=zI (show Od.join s t side=([],11) by unfold Od.join;rw [ipZ (by simp [hr,hq,ho]),inZ];simp [Od.inR];omega)
  obtain ⟨Hr,Hq,HI,HJ,hf,he,hM,hN,hQ⟩:=zd9 hr hq hI hJ hd ha a3 b3 ho;clear hr hq hI hJ hd ha a3 b3 ho;go_in;go_wp2_with fail;refine (hf.out).mono ?_;rintro e w1 ⟨rfl,h1⟩;go_wp2_with fail;refine (he.out _ h1).mono ?_;rintro e w2 ⟨rfl,h2⟩;go_wp2_with fail
  go_ret2
  exact aK.fail HE.out (h1.trans (h2.mono h1.size))
 obtain ⟨sd,rfl⟩:∃k:Nat,side=k:=⟨side.toNat,by omega⟩
 by_cases c2:s.length<=sd
 ·have HE:=zI (show Od.join s t sd=([],11) by unfold Od.join;rw [ipZ (by simp [hr,hq,ho]),inZ];simp [Od.inR];omega)
  obtain ⟨Hr,Hq,HI,HJ,hf,he,hM,hN,hQ⟩:=zd9 hr hq hI hJ hd ha a3 b3 ho;clear hr hq hI hJ hd ha a3 b3 ho;go_in;go_wp2_with fail;refine (hf.out).mono ?_;rintro e w1 ⟨rfl,h1⟩;go_wp2_with fail;refine (he.out _ h1).mono ?_;rintro e w2 ⟨rfl,h2⟩;go_wp2_with fail
  go_ret2
  exact aK.fail HE.out (h1.trans (h2.mono h1.size))
 have hD:=λ(k:Nat) (hk:k<s.length) (hk2:k<t.length) (hs:(k:Int)≠sd) (hT:s[k]≠t[k])=>Od.join_bad hr hq ho oZ hk hk2 hs hT
 have hv:Od.iR s t sd=true->Od.join s t sd=if Sh.right (Od.joinL s t sd)=true then (Od.joinL s t sd,0) else ([],20):=λh=>by
  unfold Od.join;rw [ipZ (by simp [hr,hq,ho]),ipZ (by simp [Od.inR];omega),h,Bool.true_and]
 obtain ⟨hK,Hr,Hq,HI,HJ,hf,he,hM,hN⟩:=zd9 ho hr hq hI hJ hd ha a3 b3;obtain ⟨hO,hE⟩:=zd2 hD hv;clear hr hq hI hJ hd ha a3 b3 hD hv;clear ho;go_in;go_wp2_with fail;refine (hf.out).mono ?_;rintro e w1 ⟨rfl,h1⟩;go_wp2_with fail;refine (he.out _ h1).mono ?_;rintro e w2 ⟨rfl,h2⟩;have hH:=h1.trans (h2.mono h1.size);go_wp2_with fail;refine (qat _ c s _ hl (HI.out.below hH (lrZ _))).mono ?_;rintro e w3 ⟨g,rfl,hg,hB,h3⟩;have hR:=hH.trans (h3.mono hH.size);have hU:w.heap.size<=g:=Zv hH.size hg;have HB:=zI hB;clear hB h1 h2 h3 hg;go_wp2_with fail
 go_loopw [37] (λi wr=>∃k:Nat,k<=s.length/\i=nQ iQ k/\Blk wr g 3 ((Od.oF s t sd k).map (Za1 iQ)).toArray/\Below w.heap.size w wr/\∀j (h1:j<s.length) (h2:j<t.length),j<k->j≠sd->s[j]=t[j]) (λi _=>s.length-(intOf i).toNat)
 case atStart=>exact ⟨0,Zt _,rfl,by rw [show Od.oF s t sd 0=s by simp [Od.oF]];exact HB.out,hR,λj _ _ h=>by omega⟩
 case round=>
  obtain ⟨k,hk,rfl,hi,hu,hF⟩:=hrel;have HA:=zI hF;clear hF HB hR hH
  by_cases hC:k<s.length
  ·have ht:k<t.length:=by have:=hK.out;omega
   obtain ⟨b,off,rfl,h0,hc⟩:=HI.out.below hu (lrZ _) k hC;obtain ⟨b',off',rfl,hY,hZ⟩:=HJ.out.below hu (lrZ _) k ht;rw [qa2 hC] at hc;rw [qa2 ht] at hZ;have hx:=hM.out _ (gmZ hC);have hy:=hN.out _ (gmZ ht);have k0:(0:Int)<=k:=by omega
   have k1:(k:Int)<s.length:=by omega
   have k2:(k:Int)<t.length:=by omega
   by_cases hs:k=sd
   ·subst hs
    have hm:Od.oF s t k k=s:=by simp [Od.oF]
    rw [hm] at hi;have hV:=hi.cell k;have h7:=hi.frozen k;simp [hC] at hV
    have hS:Od.oF s t k (k+1)=s.set k (s[k]+t[k]):=by
     simp [Od.oF,Od.joinL,Od.at_,hC,ht]
    obtain ⟨HM,HB⟩:=zd2 hS hi;have h6:iQ.wrap (s[k]+t[k])=s[k]+t[k]:=Zc1 _ oZ;clear hi hm hS;go_wp2_with fail
    go_region_with (fail)
    all_goals
     go_wp2_with fail;go_roundw
     case rel=>exact ⟨k+1,by omega,by go_num,by rw [HM.out];exact HB.out.ints_set,(hu.setCell (by simpa using hU) _).drew,λj h1 h2 h3 h4=>HA.out j h1 h2 oZ h4⟩
     case measure=>simp [intOf];omega
   ·have hT:((k:Int)==(sd:Int))=false:=by simp;omega
    by_cases hA:s[k]=t[k]
    ·have hb:(s[k] != t[k])=false:=by simp [hA]
     have HX:=zI hA;have HM:=zI (show Od.oF s t sd (k+1)=Od.oF s t sd k by unfold Od.oF;simp only [show (sd<k+1)=(sd<k) by simp;omega]);have HB:=zI hi;clear hA hi;go_wp2_with fail
     go_quiet (fail)
     go_wp2_with fail;go_roundw
     case rel=>exact ⟨k+1,by omega,by go_num,by rw [HM.out];exact HB.out,qac hu _,λj h1 h2 h3 h4=>by
      by_cases e:j=k
      ·subst e;exact HX.out
      ·exact HA.out j h1 h2 oZ h4⟩
     case measure=>simp [intOf];omega
    ·have hb:(s[k] != t[k])=true:=by simp [hA]
     have HE:=zI (hO.out k hC ht oZ hA);clear hA hi;go_wp2_with fail
     go_quiet (fail)
     go_wp2_with fail
     go_ret2
     exact aK.fail HE.out (qac hu _)
  ·obtain rfl:k=s.length:=by omega
   have hj:Od.iR s t sd=true:=Od.joinOk_of (λj h1 h2 h3=>HA.out j h1 h2 h1 h3) hK.out;have hm:Od.oF s t sd s.length=Od.joinL s t sd:=by unfold Od.oF;rw [ipZ oZ]
   have hL:(Od.joinL s t sd).length=s.length:=by simp [Od.joinL]
   rw [hm] at hi;have hG:Ints iQ wr (some ⟨g,0,none⟩) (Od.joinL s t sd):=Ints.dV λj hj=>by rw [hi.cell];simp [hj]
   have hh:=aV (some ⟨g,0,none⟩) s.length (Od.joinL s t sd) wr oZ hG;rw [hL] at hh;have hz:=hE.out hj;cases h5:Sh.right (Od.joinL s t sd)
   ·have HE:=zI (show Od.join s t sd=([],20) by rw [hz,inZ (by simp [h5])])
    rw [h5] at hh;obtain ⟨hp,hX,hw,hP,Hm,hW,Hj,H5⟩:=zd8 hh hG hi hL hm hz hj h5;clear hh hG hi hL hm hz hj h5;go_wp2_with fail;refine (hp.out).mono ?_;rintro e w4 ⟨rfl,h4⟩;go_wp2_with fail
    go_ret2
    exact aK.fail HE.out (hu.trans (h4.mono hu.size))
   ·have HE:=zI (show Od.join s t sd=(Od.joinL s t sd,0) by rw [hz,ipZ h5])
    rw [h5] at hh;obtain ⟨hp,hX,hw,hP,Hm,hW,Hj,H5⟩:=zd8 hh hG hi hL hm hz hj h5;clear hh hG hi hL hm hz hj h5;go_wp2_with fail;refine (hp.out).mono ?_;rintro e w4 ⟨rfl,h4⟩;go_wp2_with fail
    go_ret2
    exact aK.fresh HE.out hP.out.symm hU (hw.out.below h4 hw.out.lt) (by rw [hP.out];exact lrZ _) oZ (hu.trans (h4.mono hu.size))
theorem Od.outs_succ (w x:List Int) (step:Int) (k:Nat):Od.outs w x step (k+1)=Od.outs w x step k++[(Od.wn w x step k).1]:=by simp [Od.outs,List.range_succ]
theorem Od.outs_len (w x:List Int) (step:Int) (k:Nat):(Od.outs w x step k).length=k+1:=by simp [Od.outs]
theorem one_row (w:Zp1) (t:TypeId) (n:Int):(w.alloc (.cells #[nQ iQ n] t)).ownsRow w.heap.size t 1 (sQ (some ⟨w.heap.size,0,none⟩) 1 1) 1 [nQ iQ n]:=
 ⟨by simp,.inr ⟨w.heap.size,1,#[nQ iQ n],rfl,lrZ _,heap_alloc_new w _,lrZ _,by unfold maxLen;omega,by simp,by simp⟩⟩
theorem own_base {w:Zp1} {B B' e size n:Nat} {v:Value} {xs:List Value} (h:w.ownsRow B e size v n xs) (hB:B'<=B):w.ownsRow B' e size v n xs:=by
 refine ⟨h.1,?_⟩;rcases h.2 with h1|⟨g,cap,cur,h1,h2,h3⟩
 ·exact .inl h1
 ·exact .inr ⟨g,cap,cur,h1,Zv hB h2,h3⟩
theorem qhm {w:Zp1} {B e n:Nat} {v:Value} {zs:List Int} (h:w.ownsRow B e 1 v n (zs.map (Za1 iQ))) (hn:n=zs.length) (h0:0<n):
  ∃g c,v=sQ (some ⟨g,0,none⟩) n c/\B<=g/\g<w.heap.size/\Ints iQ w (some ⟨g,0,none⟩) zs/\(zs.length<=c/\c<=9223372036854775807):=by
 subst hn;rcases h.2 with ⟨rfl,h1⟩|⟨g,cap,cur,rfl,hb,hh,r1,r2,r3,r4⟩
 ·omega
 ·refine ⟨g,cap,rfl,hb,lt_of_block hh,Ints.dV λj hj=>?_,r1,by unfold maxLen at r2;omega⟩
  rw [Zw,h.cellAt j (by simpa using hj)];simp [hj]
theorem qgo (A B:Option Addr) (c d:Nat) (ws xs:List Int) (step:Int) (w:Zp1) (hl:ws.length<=17592186043904) (hl':xs.length<=17592186043904) (hd:xs.length<=d) (hd':d<=9223372036854775807) (hI:Ints iQ w A ws) (hJ:Ints iQ w B xs):
  Calls prog 123 #[sQ A ws.length c,sQ B xs.length d,nQ iQ step] w (aK (Od.conv ws xs step) w):=by
 obtain ⟨i0,hi,hN,hT,hL⟩:=info_parts qag;have ha:=aV A c ws w oZ hI;have he:=λw1 (h1:Below w.heap.size w w1)=>aV B d xs w1 oZ (hJ.below h1 (lrZ _))
 cases hr:Sh.right ws
 ·have HE:=zI (show Od.conv ws xs step=([],20) by simp [Od.conv,hr])
  rw [hr] at ha;obtain ⟨Hr,HI,HJ,hf,hc⟩:=zd5 hr hI hJ ha he;clear hr hI hJ ha he;go_in;go_wp2_with fail;refine (hf.out).mono ?_;rintro e w1 ⟨rfl,h1⟩;go_wp2_with fail
  go_ret2
  exact aK.fail HE.out h1
 rw [hr] at ha;cases hq:Sh.right xs
 ·have HE:=zI (show Od.conv ws xs step=([],20) by simp [Od.conv,hq])
  rw [hq] at he;obtain ⟨Hr,Hq,HI,HJ,hf,hc⟩:=zd6 hr hq hI hJ ha he;clear hr hq hI hJ ha he;go_in;go_wp2_with fail;refine (hf.out).mono ?_;rintro e w1 ⟨rfl,h1⟩;go_wp2_with fail;refine (hc.out _ h1).mono ?_;rintro e w2 ⟨rfl,h2⟩;go_wp2_with fail
  go_ret2
  exact aK.fail HE.out (h1.trans (h2.mono h1.size))
 rw [hq] at he;obtain ⟨_,a1,a2,a3,-⟩:=Sh.aT hr;obtain ⟨_,b1,b2,b3,-⟩:=Sh.aT hq
 have bad:¬(2<=xs.length/\xs.length<=3/\ws.length=xs.length+1/\ws.getD 1 0=xs.getD 0 0)->Od.conv ws xs step=([],20):=λh=>by
  unfold Od.conv;rw [inZ (by simpa [hr,hq] using h)]
 have good:(2<=xs.length/\xs.length<=3/\ws.length=xs.length+1/\ws.getD 1 0=xs.getD 0 0)->Od.conv ws xs step=(if (List.range (xs.length-1)).all (λi=>decide ((Od.wn ws xs step i).2=0)) then
   (if Sh.right (Od.outs ws xs step (xs.length-1)) then (Od.outs ws xs step (xs.length-1),0) else ([],20)) else ([],11)):=λh=>by
  unfold Od.conv;rw [ipZ (by simpa [hr,hq] using h)]
 obtain ⟨Hr,Hq,HI,HJ,hf,hc,hX,hY,hp⟩:=zd9 hr hq hI hJ ha he a3 b3 good;clear hr hq hI hJ ha he a3 b3 good
 by_cases c1:xs.length<2
 ·have HE:=zI (bad oZ)
  clear bad;go_in;go_wp2_with fail;refine (hf.out).mono ?_;rintro e w1 ⟨rfl,h1⟩;go_wp2_with fail;refine (hc.out _ h1).mono ?_;rintro e w2 ⟨rfl,h2⟩;have d1:decide ((xs.length:Int)<2)=true:=by simp;omega
  go_wp2_with fail
  go_quiet (fail)
  go_wp2_with fail
  go_ret2
  exact aK.fail HE.out (qac (h1.trans (h2.mono h1.size)) _)
 by_cases c2:3<xs.length
 ·have HE:=zI (bad oZ)
  clear bad;go_in;go_wp2_with fail;refine (hf.out).mono ?_;rintro e w1 ⟨rfl,h1⟩;go_wp2_with fail;refine (hc.out _ h1).mono ?_;rintro e w2 ⟨rfl,h2⟩;have d1:decide ((xs.length:Int)<2)=false:=by simp;omega
  have d2:decide (3<(xs.length:Int))=true:=by simp;omega
  go_wp2_with fail
  go_quiet (fail)
  go_wp2_with fail
  go_ret2
  exact aK.fail HE.out (qac (h1.trans (h2.mono h1.size)) _)
 by_cases c3:ws.length=xs.length+1
 case neg=>
  have HE:=zI (bad oZ);clear bad;go_in;go_wp2_with fail;refine (hf.out).mono ?_;rintro e w1 ⟨rfl,h1⟩;go_wp2_with fail;refine (hc.out _ h1).mono ?_;rintro e w2 ⟨rfl,h2⟩;have d1:decide ((xs.length:Int)<2)=false:=by simp;omega
  have d2:decide (3<(xs.length:Int))=false:=by simp;omega
  have d0:iQ.wrap ((xs.length:Int)+1)=(xs.length:Int)+1:=Zc1 _ oZ;have d3:((ws.length:Int) != (xs.length:Int)+1)=true:=by simp;omega
  clear c3;go_wp2_with fail
  go_quiet (fail)
  go_wp2_with fail
  go_ret2
  exact aK.fail HE.out (qac (h1.trans (h2.mono h1.size)) _)
 have d1:decide ((xs.length:Int)<2)=false:=by simp;omega
 have d2:decide (3<(xs.length:Int))=false:=by simp;omega
 have d0:iQ.wrap ((xs.length:Int)+1)=(xs.length:Int)+1:=Zc1 _ oZ;have d3:((ws.length:Int) != (xs.length:Int)+1)=false:=by simp;omega
 have e1:(1:Int)<ws.length:=by omega
 have e0:(0:Int)<ws.length:=by omega
 have f0:(0:Int)<xs.length:=by omega
 obtain ⟨b,off,rfl,hb,-⟩:=HI.out 0 oZ;obtain ⟨b',off',rfl,hU,-⟩:=HJ.out 0 oZ;have HL:=zI c3;have n1:1<ws.length:=by omega
 have n0:0<ws.length:=by omega
 have m0:0<xs.length:=by omega
 have hH:∀W,Below w.heap.size w W->∀k (hk:k<ws.length),W.cell? ⟨b,off+k,none⟩=some (nQ iQ ws[k]):=λW hW k hk=>by
  exact (HI.out.below hW (lrZ _)).eG hk
 have hK:∀W,Below w.heap.size w W->∀k (hk:k<xs.length),W.cell? ⟨b',off'+k,none⟩=some (nQ iQ xs[k]):=λW hW k hk=>by
  exact (HJ.out.below hW (lrZ _)).eG hk
 obtain ⟨hA,hC⟩:=zd2 hH hK;clear hH hK;clear c3
 by_cases c4:ws[1]=xs[0]
 case neg=>
  have HE:=zI (bad (by rw [qa2 n1,qa2 m0];have:=HL.out;omega));have d4:(ws[1] != xs[0])=true:=by simp [c4]
  clear bad c4;go_in;go_wp2_with fail;refine (hf.out).mono ?_;rintro e w1 ⟨rfl,h1⟩;go_wp2_with fail;refine (hc.out _ h1).mono ?_;rintro e w2 ⟨rfl,h2⟩;have hn:=h1.trans (h2.mono h1.size);have x1:=hA.out _ hn 1 n1;have y0:=hC.out _ hn 0 m0;rw [Zx] at y0;go_wp2_with fail
  go_quiet (fail)
  go_wp2_with fail
  go_ret2
  exact aK.fail HE.out (qac hn _)
 have d4:(ws[1] != xs[0])=false:=by simp [c4]
 have ho:=hp.out ⟨by omega,by omega,HL.out,by rw [qa2 n1,qa2 m0];exact c4⟩;have HG:=zI ho;clear bad c4 ho hp;go_in;go_wp2_with fail;refine (hf.out).mono ?_;rintro e w1 ⟨rfl,h1⟩;go_wp2_with fail;refine (hc.out _ h1).mono ?_;rintro e w2 ⟨rfl,h2⟩;have hn:=h1.trans (h2.mono h1.size);have x1:=hA.out _ hn 1 n1;have y0:=hC.out _ hn 0 m0;have x0:=hA.out _ hn 0 n0;rw [Zx] at y0 x0;go_wp2_with fail
 go_quiet (fail)
 have hy:Below w.heap.size w (w2.drewN nq):=qac hn _;generalize w2.drewN nq=w3 at *;have x0:=hA.out _ hy 0 n0;rw [Zx] at x0;go_wp2_with fail;clear x1 y0 x0
 have hown:(w3.alloc (.cells #[nQ iQ ws[0]] 3)).ownsRow w.heap.size 3 1 (sQ (some ⟨w3.heap.size,0,none⟩) 1 1) (0+1) ((Od.outs ws xs step 0).map (Za1 iQ)):=by
  have h:=one_row w3 3 ws[0];rw [show (Od.outs ws xs step 0).map (Za1 iQ)=[nQ iQ ws[0]] by simp [Od.outs,n0]];exact own_base h hy.size
 have HO:=zI hown;have hG:Below w.heap.size w (w3.alloc (.cells #[nQ iQ ws[0]] 3)):=hy.alloc hy.size _;clear hown
 go_loopw [8,53] (λv i wr=>∃k:Nat,k<=xs.length-1/\i=nQ iQ k/\wr.ownsRow w.heap.size 3 1 v (k+1) ((Od.outs ws xs step k).map (Za1 iQ))/\Below w.heap.size w wr/\∀j,j<k->(Od.wn ws xs step j).2=0) (λ_ i _=>xs.length-(intOf i).toNat)
 case atStart=>exact ⟨0,Zt _,rfl,HO.out,hG,λj h=>by omega⟩
 case round=>
  obtain ⟨k,hk,rfl,hown,hm,hx⟩:=hrel;have HA:=zI hx;clear hx HO hG hy hn
  by_cases hQ:k<xs.length-1
  ·have k0:(0:Int)<=k:=by omega
   have p1:k+1<xs.length:=by omega
   have p2:k+2<ws.length:=by have:=HL.out;omega
   have k1:(k:Int)<((xs.length-1:Nat):Int):=by omega
   have k2:((k:Int)+2)<(ws.length:Int):=by omega
   have w2:iQ.wrap ((k:Int)+2)=(k:Int)+2:=Zc1 _ oZ;have t2:((k:Int)+2).toNat=k+2:=by omega
   have x1:=hC.out _ hm (k+1) p1;have y1:=hA.out _ hm (k+2) p2;rw [show off'+(k+1)=off'+1+k by omega] at x1;have hD:Od.wn ws xs step k=Od.window xs[k+1] ws[k+2] step:=by unfold Od.wn;rw [qa2 p1,qa2 p2]
   have HN:=zI hD;have ha:=qb7 xs[k+1] ws[k+2] step;rw [←hD] at ha;have Hc:=zI ha;clear ha hD;have HW:=zI hown;clear hown
   by_cases hz:(Od.wn ws xs step k).2=0
   ·have HZ:=zI hz
    clear hz;go_wp2_with fail;refine (Hc.out _).mono ?_;rintro e w5 ⟨rfl,rfl⟩;rw [HZ.out];have hown:=HW.out;go_wp2_with (at_builtin;refine wpList_append_own _ rfl _ _ 23 rfl w.heap.size 3 i0 (nQ iQ 0) 1 8 underlying23 hi hN hT hL rfl dZ _ _ _ rfl (hown.alloc _) ⟨wr.heap.size,0,none⟩ 1 1 [nQ iQ (Od.wn ws xs step k).1] rfl rfl (qap _ _ _) (by intro u hu;simp at hu;subst hu;rfl) (by unfold maxLen;omega) oZ (by have:=hm.size;simp;omega) ?_);intro v' w6 hs hgrow _;have hR:Below w.heap.size w w6:=(hm.alloc hm.size _).grown hgrow (by have:=hm.size;simp;omega) (λj hj=>(HW.out.lt j hj).1);have hO:=zI hs;clear hown hs hgrow;go_wp2_with fail;go_roundw
    case rel=>exact ⟨k+1,by omega,by go_num,by rw [Od.outs_succ,List.map_append];exact hO.out,hR,λj hj=>by
     by_cases e:j=k
     ·subst e;exact HZ.out
     ·exact HA.out j oZ⟩
    case measure=>simp [intOf];omega
   ·have HE:=zI (show Od.conv ws xs step=([],11) by
     rw [HG.out,inZ];rw [Zf];intro h;have:=h k (List.mem_range.2 hQ);simp [hz] at this)
    have HZ:=zI (show Od.wn ws xs step k=(0,11) by rw [HN.out];exact Od.jX (by rw [←HN.out];exact hz));clear hz;go_wp2_with fail;refine (Hc.out _).mono ?_;rintro e w5 ⟨rfl,rfl⟩;rw [HZ.out];go_wp2_with fail
    go_ret2
    exact aK.fail HE.out hm
  ·obtain rfl:k=xs.length-1:=by omega
   have k1:¬(((xs.length-1:Nat):Int)<((xs.length-1:Nat):Int)):=by omega
   have hv:Od.conv ws xs step=if Sh.right (Od.outs ws xs step (xs.length-1)) then (Od.outs ws xs step (xs.length-1),0) else ([],20):=by
    rw [HG.out,ipZ];rw [Zf];intro j hj;simp [HA.out j (List.mem_range.1 hj)]
   have ht:=Od.outs_len ws xs step (xs.length-1);rw [show xs.length-1+1=xs.length by omega] at hown ht;generalize Od.outs ws xs step (xs.length-1)=os at *;obtain ⟨g,c2,rfl,hP,hV,hw,hE⟩:=qhm hown ht.symm oZ;have hg:=aV (some ⟨g,0,none⟩) c2 os wr oZ hw;cases h5:Sh.right os
   ·have HE:=zI (show Od.conv ws xs step=([],20) by rw [hv,inZ (by simp [h5])])
    rw [h5] at hg;obtain ⟨hh,hF,hM,hB⟩:=zd4 hg hw hv hown;clear hg hw hv hown;rw [ht] at hh;clear ht h5;go_wp2_with fail;refine (hh.out).mono ?_;rintro e w4 ⟨rfl,h4⟩;go_wp2_with fail
    go_ret2
    exact aK.fail HE.out (hm.trans (h4.mono hm.size))
   ·have HE:=zI (show Od.conv ws xs step=(os,0) by rw [hv,ipZ h5])
    rw [h5] at hg;obtain ⟨hh,hF,hM,hB⟩:=zd4 hg hw hv hown;clear hg hw hv hown;rw [ht] at hh;have hS:=zI ht;clear ht h5;go_wp2_with fail;refine (hh.out).mono ?_;rintro e w4 ⟨rfl,h4⟩;go_wp2_with fail
    go_ret2
    exact aK.mk' HE.out hS.out.symm (hF.out.below h4 (lrZ _)) hE.1 hE.2 (λa h=>by injection h with h;subst h;exact hP) (hm.trans (h4.mono hm.size))
theorem bQ.eG {w:Zp1} {b off j:Nat} {ss:List (List Int)} (h:bQ w (some ⟨b,off,none⟩) ss) (hj:j<ss.length):
  ∃S c,w.cell? ⟨b,off+j,none⟩=some (sQ S ss[j].length c)/\Ints iQ w S ss[j]/\ss[j].length<=c/\c<=9223372036854775807:=by
 obtain ⟨b',off',S,c,e,_,hc,h2⟩:=h j hj;injection e with e
 injection e with e1 e2
 subst e1 e2;exact ⟨S,c,hc,h2⟩
theorem qad {l:List (List Int)} {k:Nat} (h:k<l.length):l.getD k []=l[k]:=by rw [gdZ,geZ h];rfl
theorem op_dense (A B C:Option Addr) (c d f:Nat) (ws bs xs:List Int) (w:Zp1) (hx:xs.length<=17592186043904) (hI:Ints iQ w A ws) (hJ:Ints iQ w B bs) (hK:Ints iQ w C xs):
  Calls prog 121 #[sQ A ws.length c,sQ B bs.length d,sQ C xs.length f] w (aK (Od.lI ws bs xs) w):=by
 have bad:¬(ws.length=2/\bs.length=1/\bs.getD 0 0=ws.getD 0 0/\Sh.right xs=true/\Safe.prod xs=ws.getD 1 0)->Od.lI ws bs xs=([],20):=λh=>by unfold Od.lI;rw [inZ h]
 obtain ⟨HI,HJ,HK⟩:=zd3 hI hJ hK;clear hI hJ hK
 by_cases c1:ws.length=2
 case neg=>
  have HE:=zI (bad oZ);have d1:((ws.length:Int) != 2)=true:=by simp;omega
  clear bad c1;go_in;go_wp2_with fail
  go_quiet (fail)
  go_wp2_with fail
  go_ret2
  exact aK.fail HE.out (qac (Ze1 _ _) _)
 by_cases c2:bs.length=1
 case neg=>
  have HE:=zI (bad oZ);have d1:((ws.length:Int) != 2)=false:=by simp;omega
  have d2:((bs.length:Int) != 1)=true:=by simp;omega
  clear bad c1 c2;go_in;go_wp2_with fail
  go_quiet (fail)
  go_wp2_with fail
  go_ret2
  exact aK.fail HE.out (qac (Ze1 _ _) _)
 obtain ⟨b,off,rfl,hb,-⟩:=HI.out 0 oZ;obtain ⟨b',off',rfl,hc,-⟩:=HJ.out 0 oZ;have n0:0<ws.length:=by omega
 have n1:1<ws.length:=by omega
 have m0:0<bs.length:=by omega
 have e0:(0:Int)<ws.length:=by omega
 have e1:(1:Int)<ws.length:=by omega
 have f0:(0:Int)<bs.length:=by omega
 have d1:((ws.length:Int) != 2)=false:=by simp;omega
 have d2:((bs.length:Int) != 1)=false:=by simp;omega
 have x0:=HI.out.eG n0;have y0:=HJ.out.eG m0;rw [Zx] at x0 y0;rw [qa2 n0,qa2 m0,qa2 n1] at bad
 have good:bs[0]=ws[0]->Sh.right xs=true->Safe.prod xs=ws[1]->Od.lI ws bs xs=([ws[0]],0):=λh1 h2 h3=>by
  unfold Od.lI;rw [ipZ ⟨c1,c2,by rw [qa2 n0,qa2 m0];exact h1,h2,by rw [qa2 n1];exact h3⟩,qa2 n0]
 obtain ⟨he,hd⟩:=zd2 c1 c2
 by_cases c3:bs[0]=ws[0]
 case neg=>
  have HE:=zI (bad (by simp [c3]));have d3:(bs[0] != ws[0])=true:=by simp [c3]
  clear bad good c1 c2 c3;go_in;go_wp2_with fail
  go_quiet (fail)
  go_wp2_with fail
  go_ret2
  exact aK.fail HE.out (qac (Ze1 _ _) _)
 have d3:(bs[0] != ws[0])=false:=by simp [c3]
 have bad:=λh:¬(Sh.right xs=true/\Safe.prod xs=ws[1])=>bad (by intro q;exact h ⟨q.2.2.2.1,q.2.2.2.2⟩)
 have good:=good c3;clear c1 c2 c3;cases hr:Sh.right xs
 ·have HE:=zI (bad (by simp [hr]))
  have HS:=zI (show Sh.size xs=(0,20) by simp [Sh.size,hr]);clear bad good;have Hr:=zI hr;clear hr;go_in;go_wp2_with fail
  go_quiet (fail)
  go_wp2_with fail;refine (qaj C f xs _ oZ (HK.out.drewN _)).mono ?_;rintro e w1 ⟨rfl,h1⟩;rw [HS.out];go_wp2_with fail
  go_ret2
  exact aK.fail HE.out ((qac (Ze1 _ _) _).trans h1)
 have HS:=zI (show Sh.size xs=(Safe.prod xs,0) by simp [Sh.size,hr])
 by_cases hp:Safe.prod xs=ws[1]
 ·have HE:=zI (good hr hp)
  have d5:(Safe.prod xs != ws[1])=false:=by simp [hp]
  clear bad good hp;have Hr:=zI hr;clear hr;go_in;go_wp2_with fail
  go_quiet (fail)
  go_wp2_with fail;refine (qaj C f xs _ oZ (HK.out.drewN _)).mono ?_;rintro e w1 ⟨rfl,h1⟩;rw [HS.out];have ha:Below w.heap.size w w1:=(qac (Ze1 _ _) _).trans h1;have x1:=(HI.out.below ha (lrZ _)).eG n1;have x0:=(HI.out.below ha (lrZ _)).eG n0;rw [Zx] at x0;go_wp2_with fail
  go_ret2
  refine aK.fresh (g:=w1.heap.size) (t:=3) HE.out sZ ha.size ?_ sZ oZ (ha.alloc ha.size _);exact Blk.new _ _ _
 ·have HE:=zI (bad (by simp [hp]))
  have d5:(Safe.prod xs != ws[1])=true:=by simp [hp]
  clear bad good hp;have Hr:=zI hr;clear hr;go_in;go_wp2_with fail
  go_quiet (fail)
  go_wp2_with fail;refine (qaj C f xs _ oZ (HK.out.drewN _)).mono ?_;rintro e w1 ⟨rfl,h1⟩;rw [HS.out];have ha:Below w.heap.size w w1:=(qac (Ze1 _ _) _).trans h1;have x1:=(HI.out.below ha (lrZ _)).eG n1;go_wp2_with fail
  go_ret2
  exact aK.fail HE.out ha
theorem Od.same_bad {l:List (List Int)} {k:Nat} (hk:k<l.length) (h0:0<l.length) (h:l[k]≠l[0]):Od.same l=([],20):=by
 unfold Od.same;rw [inZ];rw [Zf];intro q;have:=q l[k] (gmZ hk);rw [qad h0] at this;simp [h] at this
theorem Od.qK {l:List (List Int)} (h0:0<l.length) (h:∀k (hk:k<l.length),l[k]=l[0]):Od.same l=(l[0],0):=by
 unfold Od.same;rw [ipZ,qad h0];rw [Zf];intro x hx;obtain ⟨k,hk,rfl⟩:=List.getElem_of_mem hx;rw [qad h0];simp [h k hk]
theorem qhn (A:Option Addr) (c:Nat) (ss:List (List Int)) (w:Zp1) (h0:0<ss.length) (hc:ss.length<=c) (hm:c<=9223372036854775807) (hI:bQ w A ss) (hz:∀s∈ss,s.length<=17592186043904):
  Calls prog 122 #[sQ A ss.length c] w (aK (Od.same ss) w):=by
 obtain ⟨b,off,_,_,rfl,hb,-⟩:=hI 0 h0;have e0:(0:Int)<ss.length:=by omega
 have e1:(1:Int)<=ss.length:=by omega
 obtain ⟨HI,Hz⟩:=zd2 hI hz;clear hI hz
 by_cases hi:c=1
 ·subst hi
  have h1:ss.length-1=0:=by omega
  have HE:=zI (Od.qK h0 λj hj=>by
                                                     obtain rfl:j=0:=by omega
                                                     rfl)
  have z0:=Hz.out _ (gmZ h0);obtain ⟨S0,c0,y0,he,hn,hl⟩:=HI.out.eG h0;rw [Zx] at y0;have ha:=zI he;clear he;go_in;go_wp2_with fail
  go_loopw [9] (λi wr=>wr=w/\i=nQ iQ 0) (λ_ _=>0)
  case atStart=>exact ⟨rfl,rfl⟩
  case round=>
   obtain ⟨rfl,rfl⟩:=hrel;go_wp2_with fail;refine (qat S0 c0 ss[0] _ z0 ha.out).mono ?_;rintro e w1 ⟨g,rfl,hg,hB,h1⟩;go_wp2_with fail
   go_ret2
   exact aK.fresh HE.out rfl hg hB (lrZ _) oZ h1
 go_in;go_wp2_with fail
 go_loopw [9] (λi wr=>∃k n:Nat,wr=w.drewN n/\k<=ss.length-1/\i=nQ iQ k/\∀j (hj:j<ss.length),j<=k->ss[j]=ss[0]) (λi _=>ss.length-(intOf i).toNat)
 case atStart=>exact ⟨0,0,rfl,Zt _,rfl,λj hj h=>by
                                                                        obtain rfl:j=0:=by omega
                                                                        rfl⟩
 case round=>
  obtain ⟨k,n,rfl,hk,rfl,hd⟩:=hrel;have HA:=zI hd;clear hd;obtain ⟨S0,c0,y0,he,hn,hl⟩:=(HI.out.drewN n).eG h0;rw [Zx] at y0;have ha:=zI he;clear he
  by_cases hp:k<ss.length-1
  ·have p1:k+1<ss.length:=by omega
   have k1:(k:Int)<((ss.length-1:Nat):Int):=by omega
   obtain ⟨S1,c1,y1,hh,hi,ho⟩:=(HI.out.drewN n).eG p1;rw [show off+(k+1)=off+1+k by omega] at y1;have hf:=zI hh;clear hh;have z1:=Hz.out _ (gmZ p1);have z0:=Hz.out _ (gmZ h0)
   by_cases hq:ss[k+1]=ss[0]
   ·have hb:(ss[k+1]==ss[0])=true:=by simp [hq]
    obtain ⟨HB,HQ⟩:=zd2 hb hq;clear hq hb;go_wp2_with fail;refine (qbv S1 S0 c1 c0 ss[k+1] ss[0] _ z1 z0 hf.out ha.out).mono ?_;rintro e w1 ⟨rfl,n1,rfl⟩;rw [HB.out];go_wp2_with fail;go_roundw
    case rel=>exact ⟨k+1,n+n1,by first|rfl|exact World.drewN_drewN _ _ _,by omega,by go_num,λj hj h=>by
     by_cases e:j=k+1
     ·subst e;exact HQ.out
     ·exact HA.out j hj oZ⟩
    case measure=>simp [intOf];omega
   ·have hb:(ss[k+1]==ss[0])=false:=by simp [hq]
    have HE:=zI (Od.same_bad p1 h0 hq);have HB:=zI hb;clear hq hb;go_wp2_with fail;refine (qbv S1 S0 c1 c0 ss[k+1] ss[0] _ z1 z0 hf.out ha.out).mono ?_;rintro e w1 ⟨rfl,n1,rfl⟩;rw [HB.out];go_wp2_with fail
    go_ret2
    exact aK.fail HE.out (qac (Ze1 _ _) _)
  ·obtain rfl:k=ss.length-1:=by omega
   have k1:¬(((ss.length-1:Nat):Int)<((ss.length-1:Nat):Int)):=by omega
   have HE:=zI (Od.qK h0 λj hj=>HA.out j hj oZ);have z0:=Hz.out _ (gmZ h0);go_wp2_with fail;refine (qat S0 c0 ss[0] _ z0 ha.out).mono ?_;rintro e w1 ⟨g,rfl,hg,hB,h1⟩;go_wp2_with fail
   go_ret2
   exact aK.fresh HE.out rfl hg hB (lrZ _) oZ ((qac (Ze1 _ _) n).trans h1)
theorem qho (A B:Option Addr) (c d:Nat) (xs ss:List Int) (w:Zp1) (hx:xs.length<=17592186043904) (hs:ss.length<=17592186043904) (hI:Ints iQ w A xs) (hJ:Ints iQ w B ss):
  Calls prog 127 #[sQ A xs.length c,sQ B ss.length d] w (aK (Od.turned xs ss) w):=by
 obtain ⟨HI,HJ⟩:=zd2 hI hJ;clear hI hJ;cases hr:Sh.right xs
 ·have HE:=zI (show Od.turned xs ss=([],20) by simp [Od.turned,hr])
  have HS:=zI (show Sh.size xs=(0,20) by simp [Sh.size,hr]);clear hr;go_in;go_wp2_with fail;refine (qaj A c xs _ oZ HI.out).mono ?_;rintro e w1 ⟨rfl,h1⟩;rw [HS.out];go_wp2_with fail
  go_ret2
  exact aK.fail HE.out h1
 have HS:=zI (show Sh.size xs=(Safe.prod xs,0) by simp [Sh.size,hr]);cases hq:Sh.right ss
 ·have HE:=zI (show Od.turned xs ss=([],20) by simp [Od.turned,hq])
  have HT:=zI (show Sh.size ss=(0,20) by simp [Sh.size,hq]);clear hr hq;go_in;go_wp2_with fail;refine (qaj A c xs _ oZ HI.out).mono ?_;rintro e w1 ⟨rfl,h1⟩;rw [HS.out];go_wp2_with fail;refine (qaj B d ss _ oZ (HJ.out.below h1 (lrZ _))).mono ?_;rintro e w2 ⟨rfl,h2⟩;rw [HT.out];go_wp2_with fail
  go_ret2
  exact aK.fail HE.out (h1.trans (h2.mono h1.size))
 have HT:=zI (show Sh.size ss=(Safe.prod ss,0) by simp [Sh.size,hq])
 by_cases hp:Safe.prod ss=Safe.prod xs
 ·have HE:=zI (show Od.turned xs ss=(ss,0) by simp [Od.turned,hr,hq,hp])
  have d5:(Safe.prod ss != Safe.prod xs)=false:=by simp [hp]
  clear hr hq hp;go_in;go_wp2_with fail;refine (qaj A c xs _ oZ HI.out).mono ?_;rintro e w1 ⟨rfl,h1⟩;rw [HS.out];go_wp2_with fail;refine (qaj B d ss _ oZ (HJ.out.below h1 (lrZ _))).mono ?_;rintro e w2 ⟨rfl,h2⟩;have ha:=h1.trans (h2.mono h1.size);rw [HT.out];go_wp2_with fail;refine (qat B d ss _ hs (HJ.out.below ha (lrZ _))).mono ?_;rintro e w3 ⟨g,rfl,hg,hB,h3⟩;go_wp2_with fail
  go_ret2
  exact aK.fresh HE.out rfl (Zv ha.size hg) hB (lrZ _) oZ (ha.trans (h3.mono ha.size))
 ·have HE:=zI (show Od.turned xs ss=([],20) by simp [Od.turned,hp])
  have d5:(Safe.prod ss != Safe.prod xs)=true:=by simp [hp]
  clear hr hq hp;go_in;go_wp2_with fail;refine (qaj A c xs _ oZ HI.out).mono ?_;rintro e w1 ⟨rfl,h1⟩;rw [HS.out];go_wp2_with fail;refine (qaj B d ss _ oZ (HJ.out.below h1 (lrZ _))).mono ?_;rintro e w2 ⟨rfl,h2⟩;rw [HT.out];go_wp2_with fail
  go_ret2
  exact aK.fail HE.out (h1.trans (h2.mono h1.size))
theorem Od.join_right {s t:List Int} {side:Int} (h:(Od.join s t side).2=0):Sh.right (Od.join s t side).1=true:=by
 unfold Od.join at h ⊢
 split at h
 ·rename_i h1
  rw [ipZ h1]
  split at h
  ·rename_i h2
   rw [ipZ h2]
   split at h
   ·rename_i h3
    rw [ipZ h3];simp at h3;exact h3.2
   ·simp at h
  ·simp at h
 ·simp at h
theorem Od.join_err {s t:List Int} {side:Int} (h:(Od.join s t side).2≠0):(Od.join s t side).1=[]:=by
 unfold Od.join at h ⊢
 split
 ·split
  ·split
   ·rename_i h1 h2 h3;simp [h1,h2,h3] at h
   ·rfl
  ·rfl
 ·rfl
theorem qhp (A:Option Addr) (c:Nat) (side:Int) (ss:List (List Int)) (w:Zp1) (h0:0<ss.length) (hc:ss.length<=c) (hm:c<=9223372036854775807) (hI:bQ w A ss) (hz:∀s∈ss,s.length<=17592186043904):
  Calls prog 125 #[nQ iQ side,sQ A ss.length c] w (aK (Od.joined side ss) w):=by
 obtain ⟨b,off,_,_,rfl,hb,-⟩:=hI 0 h0;have e0:(0:Int)<ss.length:=by omega
 have e1:(1:Int)<=ss.length:=by omega
 have z0:=hz _ (gmZ h0);obtain ⟨S0,c0,y0,hy,hL,hJ⟩:=hI.eG h0;rw [Zx] at y0;obtain ⟨HI,Hz,hs⟩:=zd3 hI hz hy;clear hI hz hy
 have bad:ss.length=1->¬(0<=side/\side<ss[0].length)->Od.joined side ss=([],11):=λh1 h2=>by
  unfold Od.joined;rw [ipZ ⟨h1,by rw [qad h0];simp [Od.inR];omega⟩]
 have good:(ss.length=1->0<=side/\side<ss[0].length)->Od.joined side ss=Od.bJ side ss[0] (ss.drop 1):=λh=>by
  unfold Od.joined;rw [inZ,qad h0];rw [qad h0];rintro ⟨h1,h2⟩;simp [Od.inR] at h2;have:=h h1;omega
 by_cases c1:ss.length=1
 ·have d1:((ss.length:Int)==1)=true:=by simp;omega
  have l0:ss.length-1=0:=by omega
  have bad:=bad c1
  by_cases s1:side<0
  ·have HE:=zI (bad oZ)
   clear bad good c1;go_in;go_wp2_with fail
   go_ret2
   exact aK.fail HE.out (Ze1 _ _)
  ·by_cases s2:(ss[0].length:Int)<=side
   ·have HE:=zI (bad oZ)
    clear bad good c1;go_in;go_wp2_with fail
    go_ret2
    exact aK.fail HE.out (Ze1 _ _)
   ·have HE:=zI (show Od.joined side ss=(ss[0],0) by rw [good oZ,List.drop_eq_nil_of_le oZ];rfl)
    clear bad good c1
    by_cases ht:c=1
    ·subst ht
     go_in;go_wp2_with fail;refine (qat S0 c0 ss[0] _ z0 hs.out).mono ?_;rintro e w1 ⟨g,rfl,hg,hB,h1⟩;have HB:=zI hB;clear hB y0;go_wp2_with fail
     go_loopw [6,33] (λv i wr=>v=sQ (some ⟨g,0,none⟩) ss[0].length ss[0].length/\wr=w1/\i=nQ iQ 0) (λ_ _ _=>0)
     case atStart=>exact ⟨rfl,rfl,rfl⟩
     case round=>
      obtain ⟨rfl,rfl,rfl⟩:=hrel;go_wp2_with fail
      go_ret2
      exact aK.fresh HE.out rfl hg HB.out (lrZ _) oZ h1
    ·go_in
     go_wp2_with fail;refine (qat S0 c0 ss[0] _ z0 hs.out).mono ?_;rintro e w1 ⟨g,rfl,hg,hB,h1⟩;have HB:=zI hB;clear hB y0;go_wp2_with fail
     go_loopw [6,33] (λv i wr=>v=sQ (some ⟨g,0,none⟩) ss[0].length ss[0].length/\wr=w1/\i=nQ iQ 0) (λ_ _ _=>0)
     case atStart=>exact ⟨rfl,rfl,rfl⟩
     case round=>
      obtain ⟨rfl,rfl,rfl⟩:=hrel;go_wp2_with fail
      go_ret2
      exact aK.fresh HE.out rfl hg HB.out (lrZ _) oZ h1
 ·have d1:((ss.length:Int)==1)=false:=by simp;omega
  have ht:¬c=1:=by omega
  have HG:=zI (good oZ);clear bad good c1;go_in;go_wp2_with fail;refine (qat S0 c0 ss[0] _ z0 hs.out).mono ?_;rintro e w1 ⟨g,rfl,hg,hB,h1⟩;have HB:=zI (show Blk w1 g 3 (ss[0].map (Za1 iQ)).toArray from hB);clear hB y0;go_wp2_with fail
  go_loopw [6,33] (λv i wr=>∃(k:Nat) (cur:List Int) (S:Option Addr) (d:Nat),k<=ss.length-1/\i=nQ iQ k/\v=sQ S cur.length d/\Ints iQ wr S cur/\cur.length<=d/\d<=9223372036854775807/\cur.length<=17592186043904/\(∀a,S=some a->w.heap.size<=a.block)/\Below w.heap.size w wr/\Od.joined side ss=Od.bJ side cur (ss.drop (k+1))) (λ_ i _=>ss.length-(intOf i).toNat)
  case atStart=>exact ⟨0,ss[0],_,_,Zt _,rfl,rfl,Ints.dV λj hj=>by rw [HB.out.cell];simp [hj],lrZ _,by omega,by omega,(λa h=>by injection h with h;subst h;exact hg),h1,HG.out⟩
  case round=>
   obtain ⟨k,cur,S,d,hk,rfl,rfl,hn,q1,q2,q3,hu,hi,hv⟩:=hrel;obtain ⟨hh,hp,hA⟩:=zd3 hn hv hu;clear hn hv hu;clear HB
   by_cases hK:k<ss.length-1
   ·have p1:k+1<ss.length:=by omega
    have k1:(k:Int)<((ss.length-1:Nat):Int):=by omega
    obtain ⟨S1,c1,y1,hq,ht,hG⟩:=(HI.out.below hi (lrZ _)).eG p1;rw [show off+(k+1)=off+1+k by omega] at y1;have z1:=Hz.out _ (gmZ p1);have hj:=qgn S S1 d c1 cur ss[k+1] side wr q3 z1 hh.out hq
    have hf:Od.bJ side cur (ss.drop (k+1))=if (Od.join cur ss[k+1] side).2=0 then Od.bJ side (Od.join cur ss[k+1] side).1 (ss.drop (k+1+1)) else ([],(Od.join cur ss[k+1] side).2):=by
     rw [Zd p1,Od.bJ]
    have ha:=λh:(Od.join cur ss[k+1] side).2=0=>Sh.aT (Od.join_right (s:=cur) (t:=ss[k+1]) (side:=side) h)
    have hl:=λh:(Od.join cur ss[k+1] side).2≠0=>Od.join_err (s:=cur) (t:=ss[k+1]) (side:=side) h
    generalize Od.join cur ss[k+1] side=r at *;obtain ⟨Hj,ho,hH,hd,hF⟩:=zd5 hj hf hq ha hl;clear hj hf hq ha hl;go_wp2_with fail;refine (Hj.out).mono ?_;rintro e w2 ⟨S2,d2,rfl,hw,l1,l2,hx,hE⟩;have he:=hi.trans (hE.mono hi.size);obtain ⟨hD,hC⟩:=zd2 hw hx;clear hw hx
    by_cases hr:r.2=0
    ·have d3:(r.2 != 0)=false:=by simp [hr]
     have HR:=zI hr;clear hr;go_wp2_with fail;go_roundw
     case rel=>exact ⟨k+1,r.1,S2,d2,by omega,by go_num,rfl,hD.out,l1,l2,by have:=(hd.out HR.out).2.1;omega,(λa h=>Zv hi.size (hC.out a h)),he,by rw [hp.out,ho.out,ipZ HR.out]⟩
     case measure=>simp [intOf];omega
    ·have d3:(r.2 != 0)=true:=by simp [hr]
     have HE:=zI (show Od.joined side ss=([],r.2) by rw [hp.out,ho.out,inZ hr]);clear hr;go_wp2_with fail
     go_ret2
     exact aK.fail HE.out he
   ·obtain rfl:k=ss.length-1:=by omega
    have k1:¬(((ss.length-1:Nat):Int)<((ss.length-1:Nat):Int)):=by omega
    have HE:=zI (show Od.joined side ss=(cur,0) by rw [hp.out,List.drop_eq_nil_of_le oZ];rfl);go_wp2_with fail
    go_ret2
    exact aK.mk' HE.out rfl hh.out q1 q2 hA.out hi
theorem Od.nT {o:OpD} {p x:List (List Int)} (h:Od.counts o p.length x.length=0) (hp:¬(p.all Sh.right=true/\x.all Sh.right=true)):Od.shape o p x=([],20):=by
 unfold Od.shape;rw [inZ (by simp [h]),inZ (by simpa using hp)]
theorem Od.sI {o:OpD} {p x:List (List Int)} (h:Od.counts o p.length x.length=0) (hp:p.all Sh.right=true) (hx:x.all Sh.right=true):Od.shape o p x=Od.aZ o p x:=by
 unfold Od.shape;rw [inZ (by simp [h]),ipZ (by simp only [Zz];exact ⟨hp,hx⟩)]
theorem Od.qZ {o:OpD} {p x:Int} (h:Od.counts o p x=0):Od.right o=true/\Od.least o<=x/\x<=Od.most o/\p=Od.params o:=by
 unfold Od.counts at h
 split at h
 ·rename_i hr
  split at h
  ·simp at h
  ·rename_i hc;exact ⟨hr,by omega,by omega,by omega⟩
 ·simp at h
theorem qhq {ss:List (List Int)} {k:Nat} (hk:k<ss.length) (h:Sh.right ss[k]=false):¬ss.all Sh.right=true:=by
 rw [Zf];intro q;have:=q _ (gmZ hk);rw [h] at this;cases this
def kK (w:Zp1) (A:Option Addr) (c:Nat) (ss:List (List Int)):Prop:=bQ w A ss/\ss.length<=c/\c<=9223372036854775807/\∀s∈ss,s.length<=17592186043904
theorem kK.below {w w':Zp1} {A:Option Addr} {c B:Nat} {ss:List (List Int)} (h:kK w A c ss) (hb:Below B w w') (hB:w.heap.size<=B):kK w' A c ss:=⟨h.1.below hb hB,h.2⟩
theorem kK.at_ {w:Zp1} {A:Option Addr} {c:Nat} {ss:List (List Int)} (h:kK w A c ss) {k:Nat} (hk:k<ss.length):
  ∃b off S d,A=some ⟨b,off,none⟩/\w.cell? ⟨b,off+k,none⟩=some (sQ S ss[k].length d)/\Ints iQ w S ss[k]/\ss[k].length<=d/\d<=9223372036854775807/\ss[k].length<=17592186043904:=by
 obtain ⟨b,off,S,d,e,_,hc,h1,h2,h3⟩:=h.1 k hk;exact ⟨b,off,S,d,e,hc,h1,h2,h3,h.2.2.2 _ (gmZ hk)⟩
theorem kK.two {w:Zp1} {A:Option Addr} {c:Nat} {ss:List (List Int)} (h:kK w A c ss) (h1:1<ss.length):
  ∃b off S d S' d',A=some ⟨b,off,none⟩/\w.cell? ⟨b,off,none⟩=some (sQ S ss[0].length d)/\w.cell? ⟨b,off+1,none⟩=some (sQ S' ss[1].length d')/\Ints iQ w S ss[0]/\Ints iQ w S' ss[1]/\ss[0].length<=17592186043904/\ss[1].length<=17592186043904:=by
 obtain ⟨b,off,S,d,rfl,y,hI,_,_,l⟩:=h.at_ (by omega:0<ss.length);obtain ⟨b',off',S',d',e,y',ha,_,_,l'⟩:=h.at_ h1;injection e with e
 injection e with e1 e2
 subst e1 e2;exact ⟨b,off,S,d,S',d',rfl,y,y',hI,ha,l,l'⟩
theorem qa1 {w w':Zp1} {p:Addr} {v:Value} (hb:Below w.heap.size w w') (hc:w.cell? p=some v):w'.cell? p=some v:=(hb.cell (p:=p) (Zj1 _ _ hc)).trans hc
theorem qhr {w:Zp1} {t:TypeId} {S S':Option Addr} {d d':Nat} {s s':List Int} (h:Ints iQ w S s) (h':Ints iQ w S' s') (l1:s.length<=d) (l2:d<=9223372036854775807) (l1':s'.length<=d') (l2':d'<=9223372036854775807):
  bQ (w.alloc (.cells #[sQ S s.length d,sQ S' s'.length d'] t)) (some ⟨w.heap.size,0,none⟩) [s,s']:=λj hj=>by
 have hk:=Blk.new w t #[sQ S s.length d,sQ S' s'.length d']
 match j,hj with
 | 0,_=>exact ⟨_,_,S,d,rfl,hk.lt,by rw [hk.cell];rfl,h.alloc _,l1,l2⟩
 | 1,_=>exact ⟨_,_,S',d',rfl,hk.lt,by rw [hk.cell];rfl,h'.alloc _,l1',l2'⟩
theorem aK.pass {r r':List Int × Int} {w wx w':Zp1} {S:Option Addr} {d:Nat} (he:r'=r) (hbx:Below w.heap.size w wx) (hI:Ints iQ w' S r.1) (h1:r.1.length<=d) (h2:d<=9223372036854775807) (hf:∀a,S=some a->wx.heap.size<=a.block) (hb:Below wx.heap.size wx w'):
  aK r' w (.returned (.tuple #[sQ S r.1.length d,nQ iQ r.2])) w':=by
 subst he;exact ⟨S,d,rfl,hI,h1,h2,(λa h=>Zv hbx.size (hf a h)),hbx.trans (hb.mono hbx.size)⟩
theorem qfQ (o:OpD) (S P X:Option Addr) (c d f:Nat) (p x:List (List Int)) (w:Zp1) (ho:o.s.length<=17592186043904) (hI:Ints iQ w S o.s) (hP:kK w P d p) (hX:kK w X f x):
  Calls prog 81 #[.agg #[nQ iQ o.kind,nQ iQ o.k,nQ iQ o.width,nQ iQ o.step,nQ iQ o.side,nQ iQ o.frm,nQ iQ o.to,sQ S o.s.length c],sQ P p.length d,sQ X x.length f] w (aK (Od.shape o p x) w):=by
 have hJ:=Blk.new w 74 #[nQ iQ o.kind,nQ iQ o.k,nQ iQ o.width,nQ iQ o.step,nQ iQ o.side,nQ iQ o.frm,nQ iQ o.to,sQ S o.s.length c];have hQ:Below w.heap.size w (w.alloc (.cells #[nQ iQ o.kind,nQ iQ o.k,nQ iQ o.width,nQ iQ o.step,nQ iQ o.side,nQ iQ o.frm,nQ iQ o.to,sQ S o.s.length c] 74)):=(Ze1 _ _).alloc (lrZ _) _;have hU:=hJ.lt;have hr:=qhk o S c p.length x.length (w.alloc (.cells #[nQ iQ o.kind,nQ iQ o.k,nQ iQ o.width,nQ iQ o.step,nQ iQ o.side,nQ iQ o.frm,nQ iQ o.to,sQ S o.s.length c] 74)) ho (hI.alloc _);have h7:p.length<=9223372036854775807:=by have:=hP.2.1;have:=hP.2.2.1;omega
 have h8:x.length<=9223372036854775807:=by have:=hX.2.1;have:=hX.2.2.1;omega
 by_cases hq:Od.counts o p.length x.length=0
 case neg=>
  have d1:(Od.counts o p.length x.length != 0)=true:=by simp [hq]
  have HE:=zI (show Od.shape o p x=([],Od.counts o p.length x.length) by unfold Od.shape;rw [ipZ hq]);generalize Od.counts o p.length x.length=n at *;obtain ⟨Hr,hS,HI,HP,HX⟩:=zd5 hr hJ hI hP hX;clear hr hJ hI hP hX;clear hq;go_in;go_wp2_with fail;refine (Hr.out).mono ?_;rintro e w1 ⟨rfl,h1⟩;go_wp2_with fail
  go_ret2
  exact aK.fail HE.out (hQ.trans (h1.mono hQ.size))
 have HQ:=zI hq;rw [hq] at hr;obtain ⟨Hr,hS,HI,HP,HX⟩:=zd5 hr hJ hI hP hX;clear hr hJ hI hP hX;clear hq;go_in;go_wp2_with fail;refine (Hr.out).mono ?_;rintro e w1 ⟨rfl,h1⟩;have h0:=hQ.trans (h1.mono hQ.size);have HK:=zI (hS.out.below h1 hU);clear hS Hr;go_wp2_with fail
 go_loopw [24] (λi wr=>∃k:Nat,k<=p.length/\i=nQ iQ k/\Blk wr w.heap.size 74 #[nQ iQ o.kind,nQ iQ o.k,nQ iQ o.width,nQ iQ o.step,nQ iQ o.side,nQ iQ o.frm,nQ iQ o.to,sQ S o.s.length c]/\Below w.heap.size w wr/\∀j (h:j<p.length),j<k->Sh.right p[j]=true) (λi _=>p.length-(intOf i).toNat)
 case atStart=>exact ⟨0,Zt _,rfl,HK.out,h0,λj _ h=>by omega⟩
 case round=>
  obtain ⟨k,hk,rfl,hH,hF,hy⟩:=hrel;obtain ⟨hB,hw⟩:=zd2 hH hy;clear hH hy;clear HK h0
  by_cases hM:k<p.length
  ·obtain ⟨b,off,S1,d1,rfl,y1,hg,l1,l2,l3⟩:=(HP.out.below hF (lrZ _)).at_ hM
   have hd:=aV S1 d1 p[k] wr oZ hg;cases hrr:Sh.right p[k]
   ·have HE:=zI (Od.nT (x:=x) HQ.out λq=>qhq hM hrr q.1)
    rw [hrr] at hd;obtain ⟨hi,hu⟩:=zd2 hd hg;clear hd hg;clear hrr;go_wp2_with fail;refine (hi.out).mono ?_;rintro e w2 ⟨rfl,h2⟩;go_wp2_with fail
    go_ret2
    exact aK.fail HE.out (hF.trans (h2.mono hF.size))
   ·rw [hrr] at hd
    obtain ⟨hi,hu,hR⟩:=zd3 hd hg hrr;clear hd hg hrr;go_wp2_with fail;refine (hi.out).mono ?_;rintro e w2 ⟨rfl,h2⟩;go_wp2_with fail;go_roundw
    case rel=>exact ⟨k+1,by omega,by go_num,hB.out.below h2 hB.out.lt,hF.trans (h2.mono hF.size),λj hj h=>by
     by_cases e:j=k
     ·subst e;exact hR.out
     ·exact hw.out j hj oZ⟩
    case measure=>simp [intOf];omega
  ·obtain rfl:k=p.length:=by omega
   have hY:=zI (show p.all Sh.right=true by
    rw [Zf];intro s hs;obtain ⟨j,hj,rfl⟩:=List.getElem_of_mem hs;exact hw.out j hj hj)
   clear hw;go_wp2_with fail
   go_loopw [34] (λi wx=>∃k:Nat,k<=x.length/\i=nQ iQ k/\Blk wx w.heap.size 74 #[nQ iQ o.kind,nQ iQ o.k,nQ iQ o.width,nQ iQ o.step,nQ iQ o.side,nQ iQ o.frm,nQ iQ o.to,sQ S o.s.length c]/\Below w.heap.size w wx/\∀j (h:j<x.length),j<k->Sh.right x[j]=true) (λi _=>x.length-(intOf i).toNat)
   case atStart=>exact ⟨0,Zt _,rfl,hB.out,hF,λj _ h=>by omega⟩
   case round=>
    obtain ⟨k,hk,rfl,hL,hp,hy⟩:=hrel;obtain ⟨hG,hw⟩:=zd2 hL hy;clear hL hy;clear hB hF
    by_cases hM:k<x.length
    ·obtain ⟨b,off,S1,d1,rfl,y1,hg,l1,l2,l3⟩:=(HX.out.below hp (lrZ _)).at_ hM
     have hd:=aV S1 d1 x[k] wr oZ hg;cases hrr:Sh.right x[k]
     ·have HE:=zI (Od.nT (p:=p) HQ.out λq=>qhq hM hrr q.2)
      rw [hrr] at hd;obtain ⟨hi,hu⟩:=zd2 hd hg;clear hd hg;clear hrr;go_wp2_with fail;refine (hi.out).mono ?_;rintro e w2 ⟨rfl,h2⟩;go_wp2_with fail
      go_ret2
      exact aK.fail HE.out (hp.trans (h2.mono hp.size))
     ·rw [hrr] at hd
      obtain ⟨hi,hu,hR⟩:=zd3 hd hg hrr;clear hd hg hrr;go_wp2_with fail;refine (hi.out).mono ?_;rintro e w2 ⟨rfl,h2⟩;go_wp2_with fail;go_roundw
      case rel=>exact ⟨k+1,by omega,by go_num,hG.out.below h2 hG.out.lt,hp.trans (h2.mono hp.size),λj hj h=>by
       by_cases e:j=k
       ·subst e;exact hR.out
       ·exact hw.out j hj oZ⟩
      case measure=>simp [intOf];omega
    ·obtain rfl:k=x.length:=by omega
     have ht:=Od.sI HQ.out hY.out (show x.all Sh.right=true by
      rw [Zf];intro s hs;obtain ⟨j,hj,rfl⟩:=List.getElem_of_mem hs;exact hw.out j hj hj)
     clear hw hY;obtain ⟨q1,q2,q3,q4⟩:=Od.qZ HQ.out;have hh:=Od.fO q1;have he:=Od.kU q1;have hn:Od.params o=if o.kind=8 then 2 else if o.kind=9∨o.kind=10 then 1 else 0:=by unfold Od.params;rw [ipZ q1]
     have hA:0<x.length:=by omega
     obtain ⟨b,off,S1,d1,rfl,y1,hg,l1,l2,l3⟩:=(HX.out.below hp (lrZ _)).at_ hA;obtain ⟨x0,x1,x2,x3,x4,x5,x6,x7⟩:=qam hG.out;rw [Zx] at y1;have f0:(0:Int)<x.length:=by omega
     by_cases k8:o.kind=8
     ·have hm:=zI k8
      have h5:p.length=2:=by simp only [hn] at q4;split at q4<;>omega
      have hE:0<p.length:=by omega
      have g0:(0:Int)<p.length:=by omega
      have h3:1<p.length:=by omega
      have g1:(1:Int)<p.length:=by omega
      obtain ⟨b',off',S2,d2,S3,d3,rfl,y2,y3,hC,hV,m3,n3⟩:=(HP.out.below hp (lrZ _)).two h3;have HE:=zI (show Od.shape o p x=Od.lI p[0] p[1] x[0] by rw [ht];unfold Od.aZ;rw [ipZ k8,qad hE,qad h3,qad hA]);have ha:Below wr.heap.size wr wr.drew:=(Ze1 _ _).drew;have hc:∀W,Below wr.heap.size wr W->W.cell? ⟨b',off',none⟩=some (sQ S2 p[0].length d2)/\W.cell? ⟨b',off'+1,none⟩=some (sQ S3 p[1].length d3)/\W.cell? ⟨b,off,none⟩=some (sQ S1 x[0].length d1):=λW hW=>⟨qa1 hW y2,qa1 hW y3,qa1 hW y1⟩
      have hb:=zI hc;clear hc;obtain ⟨hu,hK,h4⟩:=zd3 hg hC hV;clear hg hC hV;clear ht hh he q1 q2 q3 q4 hn h5
      skip
      all_goals
       rw [k8] at x0;clear k8 hm;go_wp2_with fail
       go_region_held3 (λW=>W.cell? ⟨b',off',none⟩=some (sQ S2 p[0].length d2)/\W.cell? ⟨b',off'+1,none⟩=some (sQ S3 p[1].length d3)/\W.cell? ⟨b,off,none⟩=some (sQ S1 x[0].length d1)) (first|exact hb.out _ hf|exact hb.out _ ha)
        ((go_at_call 121;refine (op_dense S2 S3 S1 d2 d3 d1 p[0] p[1] x[0] _ l3 (hK.out.below ha (lrZ _)) (h4.out.below ha (lrZ _)) (hu.out.below ha (lrZ _))).mono ?_;rintro e w3 ⟨S5,d5,rfl,hl,r1,r2,hx,hf⟩;have hf:=ha.trans hf;have hv:=zI hl;clear hl))
       all_goals
        go_wp2_with fail
        go_ret2
        exact aK.pass HE.out hp hv.out r1 r2 hx hf
     by_cases k10:o.kind=10
     ·have hm:=zI k10
      have hT:p.length=1:=by simp only [hn] at q4;split at q4<;>omega
      have hE:0<p.length:=by omega
      have g0:(0:Int)<p.length:=by omega
      obtain ⟨b',off',S2,d2,rfl,y2,hC,m1,m2,m3⟩:=(HP.out.below hp (lrZ _)).at_ hE;rw [Zx] at y2;have HE:=zI (show Od.shape o p x=Od.conv p[0] x[0] o.step by rw [ht];unfold Od.aZ;rw [inZ oZ,inZ oZ,ipZ k10,qad hE,qad hA]);have ha:Below wr.heap.size wr wr.drew:=(Ze1 _ _).drew;have hc:∀W,Below wr.heap.size wr W->W.cell? ⟨b',off',none⟩=some (sQ S2 p[0].length d2)/\W.cell? ⟨b,off,none⟩=some (sQ S1 x[0].length d1)/\W.cell? ⟨w.heap.size,3,none⟩=some (nQ iQ o.step):=λW hW=>⟨qa1 hW y2,qa1 hW y1,qa1 hW x3⟩
      have hb:=zI hc;clear hc;obtain ⟨hu,hK⟩:=zd2 hg hC;clear hg hC;clear ht hh he q1 q2 q3 q4 hn hT
      skip
      all_goals
       rw [k10] at x0;clear k10 hm;go_wp2_with fail
       go_region_held3 (λW=>W.cell? ⟨b',off',none⟩=some (sQ S2 p[0].length d2)/\W.cell? ⟨b,off,none⟩=some (sQ S1 x[0].length d1)/\W.cell? ⟨w.heap.size,3,none⟩=some (nQ iQ o.step)) (first|exact hb.out _ hf|exact hb.out _ ha)
        ((go_at_call 123;refine (qgo S2 S1 d2 d1 p[0] x[0] o.step _ m3 l3 l1 l2 (hK.out.below ha (lrZ _)) (hu.out.below ha (lrZ _))).mono ?_;rintro e w3 ⟨S5,d5,rfl,hl,r1,r2,hx,hf⟩;have hf:=ha.trans hf;have hv:=zI hl;clear hl))
       all_goals
        go_wp2_with fail
        go_ret2
        exact aK.pass HE.out hp hv.out r1 r2 hx hf
     by_cases k11:o.kind=11∨o.kind=12
     ·have hm:=zI k11
      have HE:=zI (show Od.shape o p x=Od.pool x[0] o.width o.step by rw [ht];unfold Od.aZ;rw [inZ oZ,inZ oZ,inZ oZ,ipZ oZ,qad hA]);have ha:Below wr.heap.size wr wr.drew:=(Ze1 _ _).drew;have hc:∀W,Below wr.heap.size wr W->W.cell? ⟨b,off,none⟩=some (sQ S1 x[0].length d1)/\W.cell? ⟨w.heap.size,2,none⟩=some (nQ iQ o.width)/\W.cell? ⟨w.heap.size,3,none⟩=some (nQ iQ o.step):=λW hW=>⟨qa1 hW y1,qa1 hW x2,qa1 hW x3⟩
      have hb:=zI hc;clear hc;have hu:=zI hg;clear hg;clear ht hh he q1 q2 q3 q4 hn;rcases k11 with k11|k11
      all_goals
       rw [k11] at x0;clear k11 hm;go_wp2_with fail
       go_region_held3 (λW=>W.cell? ⟨b,off,none⟩=some (sQ S1 x[0].length d1)/\W.cell? ⟨w.heap.size,2,none⟩=some (nQ iQ o.width)/\W.cell? ⟨w.heap.size,3,none⟩=some (nQ iQ o.step)) (first|exact hb.out _ hf|exact hb.out _ ha)
        ((go_at_call 124;refine (qgm S1 d1 x[0] o.width o.step _ l3 (hu.out.below ha (lrZ _))).mono ?_;rintro e w3 ⟨S5,d5,rfl,hl,r1,r2,hx,hf⟩;have hf:=ha.trans hf;have hv:=zI hl;clear hl))
       all_goals
        go_wp2_with fail
        go_ret2
        exact aK.pass HE.out hp hv.out r1 r2 hx hf
     by_cases k13:o.kind=13
     ·have hm:=zI k13
      have HE:=zI (show Od.shape o p x=Od.joined o.side x by rw [ht];unfold Od.aZ;rw [inZ oZ,inZ oZ,inZ oZ,inZ oZ,ipZ oZ]);have ha:Below wr.heap.size wr wr.drew:=(Ze1 _ _).drew;have hu:=zI hg;clear hg;clear ht hh he q1 q2 q3 q4 hn
      skip
      all_goals
       rw [k13] at x0;clear k13 hm;go_wp2_with fail;refine (qhp _ f o.side x _ hA (HX.out.2.1) (HX.out.2.2.1) (HX.out.below hp (lrZ _)).1 HX.out.2.2.2).mono ?_;rintro e w3 ⟨S5,d5,rfl,hl,r1,r2,hx,hf⟩;have hv:=zI hl;clear hl;go_wp2_with fail
       go_ret2
       exact aK.pass HE.out hp hv.out r1 r2 hx hf
     by_cases k14:o.kind=14
     ·have hm:=zI k14
      have HE:=zI (show Od.shape o p x=Od.cut x[0] o.side o.frm o.to by rw [ht];unfold Od.aZ;rw [inZ oZ,inZ oZ,inZ oZ,inZ oZ,inZ oZ,ipZ oZ,qad hA]);have ha:Below wr.heap.size wr wr.drew:=(Ze1 _ _).drew;have hc:∀W,Below wr.heap.size wr W->W.cell? ⟨b,off,none⟩=some (sQ S1 x[0].length d1)/\W.cell? ⟨w.heap.size,4,none⟩=some (nQ iQ o.side)/\W.cell? ⟨w.heap.size,5,none⟩=some (nQ iQ o.frm)/\W.cell? ⟨w.heap.size,6,none⟩=some (nQ iQ o.to):=λW hW=>⟨qa1 hW y1,qa1 hW x4,qa1 hW x5,qa1 hW x6⟩
      have hb:=zI hc;clear hc;have hu:=zI hg;clear hg;clear ht hh he q1 q2 q3 q4 hn
      skip
      all_goals
       rw [k14] at x0;clear k14 hm;go_wp2_with fail
       go_region_held3 (λW=>W.cell? ⟨b,off,none⟩=some (sQ S1 x[0].length d1)/\W.cell? ⟨w.heap.size,4,none⟩=some (nQ iQ o.side)/\W.cell? ⟨w.heap.size,5,none⟩=some (nQ iQ o.frm)/\W.cell? ⟨w.heap.size,6,none⟩=some (nQ iQ o.to)) (first|exact hb.out _ hf|exact hb.out _ ha)
        ((go_at_call 126;refine (qhl S1 d1 x[0] o.side o.frm o.to _ l3 (hu.out.below ha (lrZ _))).mono ?_;rintro e w3 ⟨S5,d5,rfl,hl,r1,r2,hx,hf⟩;have hf:=ha.trans hf;have hv:=zI hl;clear hl))
       all_goals
        go_wp2_with fail
        go_ret2
        exact aK.pass HE.out hp hv.out r1 r2 hx hf
     by_cases k15:o.kind=15
     ·have hm:=zI k15
      have HE:=zI (show Od.shape o p x=Od.turned x[0] o.s by rw [ht];unfold Od.aZ;rw [inZ oZ,inZ oZ,inZ oZ,inZ oZ,inZ oZ,inZ oZ,ipZ oZ,qad hA]);have ha:Below wr.heap.size wr wr.drew:=(Ze1 _ _).drew;have hc:∀W,Below wr.heap.size wr W->W.cell? ⟨b,off,none⟩=some (sQ S1 x[0].length d1)/\W.cell? ⟨w.heap.size,7,none⟩=some (sQ S o.s.length c):=λW hW=>⟨qa1 hW y1,qa1 hW x7⟩
      have hb:=zI hc;clear hc;have hu:=zI hg;clear hg;clear ht hh he q1 q2 q3 q4 hn
      skip
      all_goals
       rw [k15] at x0;clear k15 hm;go_wp2_with fail
       go_region_held3 (λW=>W.cell? ⟨b,off,none⟩=some (sQ S1 x[0].length d1)/\W.cell? ⟨w.heap.size,7,none⟩=some (sQ S o.s.length c)) (first|exact hb.out _ hf|exact hb.out _ ha)
        ((go_at_call 127;refine (qho S1 S d1 c x[0] o.s _ l3 ho (hu.out.below ha (lrZ _)) (HI.out.below (hp.trans (ha.mono hp.size)) (lrZ _))).mono ?_;rintro e w3 ⟨S5,d5,rfl,hl,r1,r2,hx,hf⟩;have hf:=ha.trans hf;have hv:=zI hl;clear hl))
       all_goals
        go_wp2_with fail
        go_ret2
        exact aK.pass HE.out hp hv.out r1 r2 hx hf
     by_cases k9:o.kind=9
     ·have hT:p.length=1:=by simp only [hn] at q4;split at q4<;>omega
      have hE:0<p.length:=by omega
      have g0:(0:Int)<p.length:=by omega
      obtain ⟨b',off',S2,d2,rfl,y2,hC,m1,m2,m3⟩:=(HP.out.below hp (lrZ _)).at_ hE;rw [Zx] at y2;have HE:=zI (show Od.shape o p x=Od.same [p[0],x[0]] by rw [ht];unfold Od.aZ;rw [inZ oZ,ipZ k9,qad hE,qad hA]);have ha:Below wr.heap.size wr wr.drew:=(Ze1 _ _).drew;have hc:∀W,Below wr.heap.size wr W->W.cell? ⟨b',off',none⟩=some (sQ S2 p[0].length d2)/\W.cell? ⟨b,off,none⟩=some (sQ S1 x[0].length d1):=λW hW=>⟨qa1 hW y2,qa1 hW y1⟩
      rw [k9] at x0;obtain ⟨hb,hu,hK,h9⟩:=zd4 hc hg hC k9;clear hc hg hC k9;clear ht hh he q1 q2 q3 q4 hn hT;have hO:Below wr.heap.size wr (wr.drew.alloc (.cells #[sQ S2 p[0].length d2,sQ S1 x[0].length d1] 23)):=ha.alloc (lrZ _) _;have hz:=qhr (t:=23) (hK.out.below ha (lrZ _)) (hu.out.below ha (lrZ _)) m1 m2 l1 l2;have hD:=qhn (some ⟨wr.drew.heap.size,0,none⟩) 2 [p[0],x[0]] _ sZ sZ oZ hz (by simp [m3,l3]);obtain ⟨hZ,hN⟩:=zd2 hz hD;clear hz hD;go_wp2_with fail
      go_region_held3 (λW=>W.cell? ⟨b',off',none⟩=some (sQ S2 p[0].length d2)/\W.cell? ⟨b,off,none⟩=some (sQ S1 x[0].length d1)) (first|exact hb.out _ hf|exact hb.out _ hO|exact hb.out _ ha)
       ((go_at_call 122;refine (hN.out).mono ?_;rintro e w3 ⟨S5,d5,rfl,hl,r1,r2,hx,hf⟩;have h6:=hf;have hf:=hO.trans (hf.mono hO.size);have hv:=zI hl;clear hl))
      all_goals
       go_wp2_with fail
       go_ret2
       exact aK.pass HE.out (hp.trans (hO.mono hp.size)) hv.out r1 r2 hx h6
     have HE:=zI (show Od.shape o p x=Od.same x by rw [ht];unfold Od.aZ;rw [inZ oZ,inZ oZ,inZ oZ,inZ oZ,inZ oZ,inZ oZ,inZ oZ]);have n8:(o.kind==8)=false:=by simp;omega
     have n9:(o.kind==9)=false:=by simp;omega
     have n10:(o.kind==10)=false:=by simp;omega
     have n11:(o.kind==11)=false:=by simp;omega
     have n12:(o.kind==12)=false:=by simp;omega
     have n13:(o.kind==13)=false:=by simp;omega
     have n14:(o.kind==14)=false:=by simp;omega
     have n15:(o.kind==15)=false:=by simp;omega
     clear ht hh he q1 q2 q3 q4 hn hg k8 k9 k10 k11 k13 k14 k15;go_wp2_with fail;refine (qhn _ f x _ hA (HX.out.2.1) (HX.out.2.2.1) (HX.out.below hp (lrZ _)).1 HX.out.2.2.2).mono ?_;rintro e w3 ⟨S5,d5,rfl,hl,r1,r2,hx,hf⟩;have hv:=zI hl;clear hl;go_wp2_with fail
     go_ret2
     exact aK.pass HE.out hp hv.out r1 r2 hx hf
def aS.ok (v:aS):Prop:=v.op.wide/\v.op.s.length<=1048576/\v.ins.length<=1048576/\v.p.length<=1048576/\(∀s∈v.p,s.length<=1048576)/\∀z∈v.ins,-9223372036854775808<=z/\z<=9223372036854775807
def aA.ok (n:aA):Prop:=n.inn.length<=1048576/\n.o.length<=1048576/\∀v∈n.o,v.ok
def rV (w:Zp1) (b o:Nat) (v:aS) (S:Option Addr) (c:Nat) (I:Option Addr) (d:Nat) (Q:Option Addr) (q:Nat):Prop:=
  (w.cell? ⟨b,o,none⟩=some (nQ iQ v.op.kind)/\w.cell? ⟨b,o+1,none⟩=some (nQ iQ v.op.k)/\w.cell? ⟨b,o+2,none⟩=some (nQ iQ v.op.width)/\
  w.cell? ⟨b,o+3,none⟩=some (nQ iQ v.op.step)/\w.cell? ⟨b,o+4,none⟩=some (nQ iQ v.op.side)/\w.cell? ⟨b,o+5,none⟩=some (nQ iQ v.op.frm)/\
  w.cell? ⟨b,o+6,none⟩=some (nQ iQ v.op.to)/\w.cell? ⟨b,o+7,none⟩=some (sQ S v.op.s.length c)/\
  w.cell? ⟨b,o+8,none⟩=some (sQ I v.ins.length d)/\w.cell? ⟨b,o+9,none⟩=some (sQ Q v.p.length q))/\
  Ints iQ w S v.op.s/\Ints iQ w I v.ins/\bQ w Q v.p
theorem rV.below {w w':Zp1} {b o:Nat} {v:aS} {S:Option Addr} {c:Nat} {I:Option Addr} {d:Nat} {Q:Option Addr} {q:Nat} (h:rV w b o v S c I d Q q) (hb:Below w.heap.size w w'):rV w' b o v S c I d Q q:=by
 obtain ⟨⟨y0,y1,y2,y3,y4,y5,y6,y7,y8,y9⟩,h1,h2,h3⟩:=h;exact ⟨⟨qa1 hb y0,qa1 hb y1,qa1 hb y2,qa1 hb y3,qa1 hb y4,qa1 hb y5,qa1 hb y6,qa1 hb y7,qa1 hb y8,qa1 hb y9⟩,h1.below hb (lrZ _),h2.below hb (lrZ _),h3.below hb (lrZ _)⟩
theorem jY.at_ {w:Zp1} {A:Option Addr} {ns:List aS} (h:jY w A ns) {j:Nat} (hj:j<ns.length):
  ∃b off S c I d Q q,A=some ⟨b,off,none⟩/\rV w b (off+j*10) ns[j] S c I d Q q/\(ns[j].op.s.length<=c/\c<=9223372036854775807)/\(ns[j].ins.length<=d/\d<=9223372036854775807)/\(ns[j].p.length<=q/\q<=9223372036854775807):=by
 obtain ⟨b,off,S,c,I,d,Q,q,e,_,y0,y1,y2,y3,y4,y5,y6,y7,y8,y9,⟨h1,hb⟩,⟨h2,hc⟩,h3,ha⟩:=h j hj;exact ⟨b,off,S,c,I,d,Q,q,e,⟨⟨y0,y1,y2,y3,y4,y5,y6,y7,y8,y9⟩,h1,h2,h3⟩,hb,hc,ha⟩
namespace Nt
def dB (ns:List aS) (n k:Nat) (l:List Int):List Bool:=(nums n).map λid=>isUsed (ns.take k) id || l.contains id
theorem usedMid_len (ns:List aS) (n k:Nat) (l:List Int):(dB ns n k l).length=n+1:=by simp [dB,nums]
theorem usedMid_zero (ns:List aS) (n:Nat):dB ns n 0 []=Zc (n+1) false:=by
 unfold dB;rw [List.eq_replicate_iff];refine ⟨by simp [nums],λb hb=>?_⟩;obtain ⟨x,_,rfl⟩:=List.mem_map.1 hb;simp [isUsed]
theorem usedMid_next (ns:List aS) (n:Nat) {k:Nat} (hk:k<ns.length):dB ns n k ns[k].ins=dB ns n (k+1) []:=by
 unfold dB;apply List.map_congr_left;intro id _;rw [Zb hk];simp only [isUsed,List.any_append,List.any_cons,List.any_nil,List.contains_nil,Bool.or_false]
theorem usedMid_in (ns:List aS) (n k:Nat) (l:List Int) {id:Int} (h0:0<=id) (h1:id<=n):dB ns n k (l++[id])=(dB ns n k l).set id.toNat true:=by
 apply List.ext_getElem?;intro j;rw [List.getElem?_set];unfold dB nums;simp only [List.map_map,List.getElem?_map,List.length_map,List.length_range]
 by_cases hj:j<n+1
 ·rw [List.getElem?_range hj]
  by_cases e:id.toNat=j
  ·subst e
   have:((id.toNat:Nat):Int)=id:=by omega
   simp [hj,this]
  ·have e2:(j:Int)≠id:=by omega
   simp [e,e2]
 ·rw [Zi soZ]
  simp;intro q;omega
theorem usedMid_all (ns:List aS):dB ns ns.length ns.length []=(nums ns.length).map (isUsed ns):=by
 unfold dB;apply List.map_congr_left;intro id _;simp
def dF (ns:List aS) (k:Nat):List Int:=((List.range k).map λi:Nat=>(i:Int)).filter λid=>!isUsed ns id
theorem lH (ns:List aS) (k:Nat):dF ns (k+1)=if isUsed ns k then dF ns k else dF ns k++[(k:Int)]:=by
 unfold dF;rw [List.range_succ,List.map_append,List.filter_append];cases h:isUsed ns k<;>simp [h]
theorem jL (ns:List aS):dF ns (ns.length+1)=unused ns:=rfl
theorem nE (ns:List aS) (k:Nat):(dF ns k).length<=k:=by
 unfold dF;exact Zv (List.length_filter_le _ _) sZ
end Nt
theorem qbE:(prog.info? 4).map (λi=>(i.zero,i.size,i.bytes))=some (some (.bool false),1,1):=by kernel_rfl
theorem qao (v:Value) (n:Nat):(madeCells #[v] n).toList=Zc n v:=by
 rw [List.eq_replicate_iff];refine ⟨by simp [madeCells],λb hb=>?_⟩;simp [madeCells] at hb;obtain ⟨x,_,rfl⟩:=hb;simp [Nat.mod_one]
theorem qgp (A N:Option Addr) (c d:Nat) (n:aA) (w:Zp1) (hok:n.ok) (hR:bC w A N n) (hd:n.o.length<=d) (hins:∀v∈n.o,∀i∈v.ins,0<=i/\i<=n.o.length):
  Calls prog 111 #[.agg #[sQ A n.inn.length c,sQ N n.o.length d]] w λe w'=>e=.returned (.tuple #[nQ iQ (Nt.aH n.o),.bool (Nt.fQ n.o)])/\Below w.heap.size w w':=by
 obtain ⟨i0,hi,hQ,h0,hO⟩:=info_parts qbE;have h2:=hok.2.1;have hn:=hok.2.2;obtain ⟨HR,hA,hy⟩:=zd3 hR hins hn;clear hR hins hn;clear hok;have e1:iQ.wrap ((n.o.length:Int)+1)=((n.o.length+1:Nat):Int):=by rw [Zc1 _ oZ];omega
 go_in;go_wp2_with (at_make;refine wpList_make_full _ rfl _ _ 112 rfl w.heap.size 4 i0 (.bool false) 1 underlying112 hi hQ h0 _ _ _ _ (n.o.length+1) rfl rfl (by first|rfl|simp|(go_simp;rfl)) (by first|rfl|simp|(go_simp;rfl)) ?b2 ?b3 ?b4 ?_)
 case b2=>rw [hO];omega
 case b3=>unfold maxLen;omega
 case b4=>simp
 intro w1 hown hgrow;have he:=qau hown;rw [qao] at he
 have hE:Blk w1 (w.heap.size+1) 4 ((Nt.dB n.o n.o.length 0 []).map Value.bool).toArray:=by
  rw [Nt.usedMid_zero,List.map_replicate];simpa [Blk] using he
 have hJ:Below w.heap.size w w1:=((Ze1 _ w).alloc (lrZ _) _).grown hgrow sZ sZ;have hS:w1.cell? ⟨w.heap.size,1,none⟩=some (sQ N n.o.length d):=hgrow.cell sZ sZ;have HK:=zI hE;clear he hE hown hgrow;go_wp2_with fail
 go_loopw [21] (λi wr=>∃k:Nat,k<=n.o.length/\i=nQ iQ k/\Blk wr (w.heap.size+1) 4 ((Nt.dB n.o n.o.length k []).map Value.bool).toArray/\Below w.heap.size w wr) (λi _=>n.o.length-(intOf i).toNat)
 case atStart=>exact ⟨0,Zt _,rfl,HK.out,hJ⟩
 case round=>
  obtain ⟨k,hk,rfl,he,hh⟩:=hrel;have hf:=zI he;clear he;clear HK hJ hS
  by_cases hj:k<n.o.length
  ·obtain ⟨b,off,S,sc,I,ic,Q,qc,rfl,hz,-,hI,-⟩:=HR.out.2.at_ hj
   have hg:=hy.out _ (gmZ hj);have hK:=hA.out _ (gmZ hj);have HN:=zI (Nt.usedMid_next n.o n.o.length hj);have h3:=hg.2.2.1;generalize n.o[k]=v at *;obtain ⟨⟨y0,y1,y2,y3,y4,y5,y6,y7,y8,y9⟩,-⟩:=hz.below hh;obtain ⟨hW,hX,hP⟩:=zd3 hz hg hK;clear hz hg hK;have hG:=hh.alloc hh.size (.cells #[nQ iQ v.op.kind,nQ iQ v.op.k,nQ iQ v.op.width,nQ iQ v.op.step,nQ iQ v.op.side,nQ iQ v.op.frm,nQ iQ v.op.to,sQ S v.op.s.length sc,sQ I v.ins.length ic,sQ Q v.p.length qc] 77);have hD:=zI (hf.out.alloc (.cells #[nQ iQ v.op.kind,nQ iQ v.op.k,nQ iQ v.op.width,nQ iQ v.op.step,nQ iQ v.op.side,nQ iQ v.op.frm,nQ iQ v.op.to,sQ S v.op.s.length sc,sQ I v.ins.length ic,sQ Q v.p.length qc] 77));go_wp2_with fail;clear y0 y1 y2 y3 y4 y5 y6 y7 y8 y9
   go_loopw [28] (λi wx=>∃m:Nat,m<=v.ins.length/\i=nQ iQ m/\Blk wx (w.heap.size+1) 4 ((Nt.dB n.o n.o.length k (v.ins.take m)).map Value.bool).toArray/\Below w.heap.size w wx) (λi _=>v.ins.length-(intOf i).toNat)
   case atStart=>exact ⟨0,Zt _,rfl,by rw [List.take_zero];exact hD.out,hG⟩
   case round=>
    obtain ⟨m,hm,rfl,ha,hx⟩:=hrel;clear hD hG hf hh
    by_cases hp:m<v.ins.length
    ·have hF:=(hW.out.below hx).2.2.1
     obtain ⟨b1,off1,rfl,-,hc⟩:=hF m hp;rw [qa2 hp] at hc;have hr:=hP.out _ (gmZ hp);obtain ⟨u,hu⟩:∃u:Nat,v.ins[m]=u:=⟨v.ins[m].toNat,by omega⟩
     have HM:=zI (show Nt.dB n.o n.o.length k (v.ins.take (m+1))=(Nt.dB n.o n.o.length k (v.ins.take m)).set u true by rw [Zb hp,Nt.usedMid_in _ _ _ _ hr.1 hr.2,hu];rfl);rw [hu] at hc hr;have hq:u<n.o.length+1:=by omega
     have hC:=ha.cell u;have h4:=ha.frozen u
     have hT:wr.cell? ⟨w.heap.size+1,u,none⟩=some (.bool ((Nt.dB n.o n.o.length k (v.ins.take m)).getD u false)):=by
      rw [hC];have:=Nt.usedMid_len n.o n.o.length k (v.ins.take m);rw [gdZ,geZ oZ];simp [this,hq]
     have hN:=ha.aO u (.bool true);have hY:=zI (show Blk (wr.setCell ⟨w.heap.size+1,u,none⟩ (.bool true)) (w.heap.size+1) 4 (((Nt.dB n.o n.o.length k (v.ins.take m)).set u true).map Value.bool).toArray by simpa [List.map_set] using hN);have hw:=hx.setCell (p:=⟨w.heap.size+1,u,none⟩) sZ (.bool true);clear hC hN hF ha hu;have u0:(0:Int)<=u:=by omega
     have u1:(u:Int)<((n.o.length+1:Nat):Int):=by omega
     go_wp2_with fail;go_roundw
     case rel=>exact ⟨m+1,by omega,by go_num,by rw [HM.out];exact hY.out,hw⟩
     case measure=>simp [intOf];omega
    ·obtain rfl:m=v.ins.length:=by omega
     rw [Zg] at ha;have hB:=zI ha;clear ha;go_wp2_with fail;go_roundw
     case rel=>exact ⟨k+1,by omega,by go_num,by rw [←HN.out];exact hB.out,hx⟩
     case measure=>simp [intOf];omega
  ·obtain rfl:k=n.o.length:=by omega
   have hU:=Nt.usedMid_all n.o;have hv:=hf.out;rw [hU] at hv;obtain ⟨hV,HU⟩:=zd2 hv hU;clear hv hU;clear hf;go_wp2_with fail
   go_loopw [9,10,39] (λl c i wx=>wx=wr/\∃k:Nat,k<=n.o.length+1/\i=nQ iQ k/\l=nQ iQ ((Nt.dF n.o k).getLastD 0)/\c=nQ iQ ((Nt.dF n.o k).length:Nat)) (λ_ _ i _=>n.o.length+1-(intOf i).toNat)
   case atStart=>exact ⟨rfl,0,Zt _,rfl,rfl,rfl⟩
   case round=>
    obtain ⟨rfl,k,hk,rfl,rfl,rfl⟩:=hrel;have hq:=Nt.nE n.o k
    by_cases hj:k<n.o.length+1
    ·have ht:∀b,Nt.isUsed n.o k=b->wr.cell? ⟨w.heap.size+1,k,none⟩=some (.bool b):=λb hb=>by
      rw [←hb,hV.out.cell];simp [Nt.nums,hj]
     have hs:=Nt.lH n.o k;have k1:(k:Int)<((n.o.length+1:Nat):Int):=by omega
     have HS:=zI hs;clear hs;obtain ⟨L0,hL0⟩:∃L0,(Nt.dF n.o k).getLastD 0=L0:=⟨_,rfl⟩
     obtain ⟨c0,hc0⟩:∃c0,(Nt.dF n.o k).length=c0:=⟨_,rfl⟩
     rw [hc0] at hq;rw [hL0,hc0];obtain ⟨hZ,hM⟩:=zd2 hL0 hc0;clear hL0 hc0;cases hu:Nt.isUsed n.o k
     ·have hc:=ht _ hu
      have HU:=zI hu;clear hu ht;go_wp2_with fail;go_roundw
      case rel=>exact ⟨trivial,k+1,by omega,by go_num,by rw [HS.out,HU.out];simp,by rw [HS.out,HU.out,inZ sZ,Ze,hM.out];go_num⟩
      case measure=>simp [intOf];omega
     ·have hc:=ht _ hu
      have HU:=zI hu;clear hu ht;go_wp2_with fail;go_roundw
      case rel=>exact ⟨trivial,k+1,by omega,by go_num,by rw [HS.out,HU.out,ipZ rfl,hZ.out],by rw [HS.out,HU.out,ipZ rfl,hM.out]⟩
      case measure=>simp [intOf];omega
    ·obtain rfl:k=n.o.length+1:=by omega
     rw [Nt.jL] at *;have hl:(Nt.unused n.o).getLastD 0=Nt.aH n.o:=rfl;rw [hl];have ho:Nt.fQ n.o=decide ((Nt.unused n.o).length=1/\Nt.aH n.o≠0):=rfl;obtain ⟨L,hL⟩:∃L,Nt.aH n.o=L:=⟨_,rfl⟩
     obtain ⟨c',hc'⟩:∃c',(Nt.unused n.o).length=c':=⟨_,rfl⟩
     rw [hL,hc'] at ho;rw [hc'] at hq;rw [hL,hc'];have hH:=zI hL;clear hL hl hc'
     by_cases h1:c'=1
     ·subst h1
      have k1:¬(((n.o.length+1:Nat):Int)<((n.o.length+1:Nat):Int)):=by omega
      have HL:=zI ho;clear ho;go_wp2_with fail
      go_ret2
      exact ⟨by rw [HL.out,hH.out];by_cases h:L=0<;>simp [h],hh⟩
     ·have c1:((c':Int)==1)=false:=by simp;omega
      have HL:=zI (show Nt.fQ n.o=false by rw [ho];simp [h1]);clear ho h1;go_wp2_with fail
      go_ret2
      exact ⟨by rw [HL.out,hH.out];rfl,hh⟩
theorem qa6 {w:Zp1} {B e s n:Nat} {v:Value} {xs:List Value} (h:w.ownsRow B e s v n xs):∃A c,v=sQ A n c:=by
 rcases h.2 with ⟨rfl,h0⟩|⟨g,cap,cur,rfl,_⟩
 ·exact ⟨none,0,by rw [h0]⟩
 ·exact ⟨_,cap,rfl⟩
theorem qak {w:Zp1} {B e n c:Nat} {A:Option Addr} {zs:List Int} (h:w.ownsRow B e 1 (sQ A zs.length c) n (zs.map (Za1 iQ))):Ints iQ w A zs/\zs.length<=c/\c<=9223372036854775807:=by
 obtain ⟨A1,c1,e1,rfl,hI⟩:=Ints.jB h;injection e1 with e1 _ e2
 subst e1 e2;refine ⟨hI,?_⟩;rcases h.2 with ⟨h1,h0⟩|⟨g,cap,cur,h1,_,_,h3,h4,_⟩
 ·injection h1 with _ _ h1;omega
 ·injection h1 with _ _ h1;unfold maxLen at h4;omega
theorem qa8 {w:Zp1} {B e s n:Nat} {v:Value} {xs:List Value} (h:w.ownsRow B e s v n xs) (o:Obj):(w.alloc o).ownsRow B e s v n xs:=qaa h λg hg=>Below.heap_alloc w o g (h.lt g hg).2
theorem qdG {w w':Zp1} {B e s n:Nat} {v:Value} {xs:List Value} {row:Option Nat} (h:w.ownsRow B e s v n xs) (hg:w.grownBy w' row) (hr:∀b,v.ownBlock=some b->row≠some b):w'.ownsRow B e s v n xs:=qaa h λg k=>hg.block g (h.lt g k).2 λe=>hr g k e.symm
theorem qbj {w w':Zp1} {B e s n:Nat} {v:Value} {xs:List Value} {S:Nat->Prop} (h:w.ownsRow B e s v n xs) (hg:Fr S w w') (hr:∀b,v.ownBlock=some b->¬S b):w'.ownsRow B e s v n xs:=qaa h λg k=>hg.2 g (h.lt g k).2 (hr g k)
theorem qa9 {s:List Int} (h:Sh.right s=true):0<s.length/\s.length<=4:=by
 obtain ⟨_,a,b,_⟩:=Sh.aT h;exact ⟨by omega,a⟩
theorem qef:(prog.info? 23).map (λi=>(i.zero,i.size,i.bytes))=some (some (sQ none 0 0),1,24):=by kernel_rfl
def LayPost (r:List (List Int) × Int) (n:Nat) (w:Zp1) (e:Ending) (w':Zp1):Prop:=
 Below w.heap.size w w'/\((r.2=0/\∃g,e=.returned (.tuple #[sQ (some ⟨g,0,none⟩) (n+1) (n+1),nQ iQ 0])/\w.heap.size<=g/\aX w' g 23 r.1/\r.1.length=n+1)∨(r.2≠0/\e=.returned (.tuple #[sQ none 0 0,nQ iQ r.2])))
namespace Nt
def eY (sh:List (List Int)) (l:List Int) (m:Nat):List (List Int):=pick sh (l.take m)++Zc (l.length-m) []
theorem oU (sh:List (List Int)) (l:List Int) {m:Nat} (h:m<=l.length):(eY sh l m).length=l.length:=by simp [eY,pick];omega
theorem nV (sh:List (List Int)) (l:List Int):eY sh l 0=Zc l.length []:=by simp [eY,pick]
theorem qH (sh:List (List Int)) (l:List Int):eY sh l l.length=pick sh l:=by simp [eY]
theorem nW (sh:List (List Int)) (l:List Int) {m:Nat} (h:m<l.length):eY sh l (m+1)=(eY sh l m).set m (sh.getD l[m].toNat []):=by
 unfold eY;rw [show l.length-m=(l.length-(m+1))+1 by omega,List.replicate_succ,Zb h];unfold pick;rw [List.map_append,List.set_append_right _ _ soZ];rw [show m-((l.take m).map λi=>sh.getD i.toNat []).length=0 by simp;omega,List.set_cons_zero,List.append_assoc]
 rfl
end Nt
theorem qeg {n:aA} (hin:Sh.right n.inn=true) {k:Nat} (hk:k<=(Nt.sO n.o).length) {sh:List (List Int)} (h:Nt.lay n.o (Nt.start n) ((Nt.sO n.o).take k)=(sh,0)):Nt.Good ((Nt.sO n.o).take k) sh/\sh.length=n.o.length+1:=by
 have h2:=Nt.kJ hin k hk (by rw [h]);have h3:=Nt.mJ (ns:=n.o) (a:=(Nt.sO n.o).take k) (sh:=Nt.start n) (by rw [h]);rw [h] at h2 h3;exact ⟨h2,by simpa [Nt.start] using h3⟩
theorem net_lay (A N O:Option Addr) (c d oc:Nat) (n:aA) (w:Zp1) (hok:n.ok) (hR:bC w A N n) (hd:n.o.length<=d) (hO:Ints iQ w O (Nt.sO n.o)) (hin:Sh.right n.inn=true) (hins:∀v∈n.o,∀i∈v.ins,0<=i/\i<=n.o.length):
  Calls prog 110 #[.agg #[sQ A n.inn.length c,sQ N n.o.length d],sQ O (Nt.sO n.o).length oc] w (LayPost (Nt.lay n.o (Nt.start n) (Nt.sO n.o)) n.o.length w):=by
 obtain ⟨i0,hi,HC,HV,HP⟩:=info_parts qef;have gm:=hok.2.1;have gn:=hok.1;have hV:=hok.2.2;have H7:(Nt.sO n.o).length<=n.o.length:=Kn.mF _ _;have hS:∀u∈Nt.sO n.o,1<=u/\u<=n.o.length:=Kn.dQ _ _;have hN:∀a b u,Nt.sO n.o=a++u::b->∀i∈Nt.iF n.o u,i=0∨i∈a:=λa b u h=>Kn.fE _ _ h
 obtain ⟨os,hos⟩:∃os,Nt.sO n.o=os:=⟨_,rfl⟩
 have hy:∀k,k<=os.length->∀sh,Nt.lay n.o (Nt.start n) (os.take k)=(sh,0)->Nt.Good (os.take k) sh/\sh.length=n.o.length+1:=λk hk sh h=>by
  have:=qeg (n:=n) hin (k:=k) (by rw [hos];exact hk) (sh:=sh) (by rw [hos];exact h);rw [hos] at this;exact this
 rw [hos] at hO H7 hS hN ⊢;have HQ:=Blk.new w 26 #[sQ A n.inn.length c,sQ N n.o.length d];have H8:Below w.heap.size w (w.alloc (.cells #[sQ A n.inn.length c,sQ N n.o.length d] 26)):=(Ze1 _ _).alloc (lrZ _) _;obtain ⟨HR,Hp,Hm,HO,gi,Hl,Hg,hP,gg⟩:=zd9 hR hins hV hO hin hS hN hy hos;clear hR hins hV hO hin hS hN hy hos;clear hok;have e1:iQ.wrap ((n.o.length:Int)+1)=((n.o.length+1:Nat):Int):=by rw [Zc1 _ oZ];omega
 go_in;go_wp2_with (at_make;refine wpList_make_full _ rfl _ _ 75 rfl w.heap.size 23 i0 (sQ none 0 0) 1 underlying75 hi HC HV _ _ _ _ (n.o.length+1) rfl rfl (by first|rfl|simp|(go_simp;rfl)) (by first|rfl|simp|(go_simp;rfl)) ?b2 ?b3 ?b4 ?_)
 case b2=>rw [HP];omega
 case b3=>unfold maxLen;omega
 case b4=>simp
 intro w1 hown hgrow;have ht:=qau hown;rw [qao] at ht;have hp:aX w1 (w.heap.size+1) 23 (Zc (n.o.length+1) []):=aX.new (by simpa [Blk] using ht);have Hf:Below w.heap.size w w1:=H8.grown hgrow sZ sZ;have hf:Blk w1 w.heap.size 26 #[sQ A n.inn.length c,sQ N n.o.length d]:=HQ.grown hgrow sZ;have x0:w1.cell? ⟨w.heap.size,0,none⟩=some (sQ A n.inn.length c):=by rw [hf.cell];rfl
 obtain ⟨hv,hq⟩:=zd2 hf hp;clear hf hp;clear ht hown hgrow HQ;go_wp2_with fail;refine (qat A c n.inn _ oZ (HR.out.1.below Hf (lrZ _))).mono ?_;rintro e w2 ⟨g,rfl,hg,hB,h2⟩;have HH:w.heap.size+1<w1.heap.size:=hq.out.lt;have HG:=Hf.trans (h2.mono Hf.size);have hl:=hq.out.below h2 (lrZ _);have hC:=hv.out.below h2 hv.out.lt;obtain ⟨S0,c0,y0,-⟩:=hl.at_ (j:=0) sZ;have f0:w2.frozen? ⟨w.heap.size+1,0,none⟩=false:=by obtain ⟨vs,_,hk,_⟩:=hl;exact hk.frozen 0
 have Hr:Ints iQ w2 (some ⟨g,0,none⟩) n.inn:=Ints.dV λj hj=>by rw [Zw,show w2.cell? ⟨g,j,none⟩=_ from (show Blk w2 g 3 _ from hB).cell j];simp [hj]
 have hb:=hl.aO (i:=0) Hr (lrZ _) oZ (λa h=>by injection h with h;subst h;simp;omega);have hG:=hC.far (p:=⟨w.heap.size+1,0,none⟩) sZ (sQ (some ⟨g,0,none⟩) n.inn.length n.inn.length);have hU:=HG.setCell (p:=⟨w.heap.size+1,0,none⟩) sZ (sQ (some ⟨g,0,none⟩) n.inn.length n.inn.length);rw [show (Zc (n.o.length+1) ([]:List Int)).set 0 n.inn=Nt.start n from rfl] at hb;obtain ⟨Hb,hn,Hd,hH,HB,H4⟩:=zd6 hl hb hC hG hB Hr;clear hl hb hC hG hB Hr;clear x0 hq hv;go_wp2_with fail;clear y0 f0
 go_loopw [27] (λi wr=>∃k:Nat,k<=os.length/\i=nQ iQ k/\Blk wr w.heap.size 26 #[sQ A n.inn.length c,sQ N n.o.length d]/\Below w.heap.size w wr/\∃sh,Nt.lay n.o (Nt.start n) (os.take k)=(sh,0)/\aX wr (w.heap.size+1) 23 sh) (λi _=>os.length-(intOf i).toNat)
 case atStart=>exact ⟨0,Zt _,rfl,hH.out,hU,Nt.start n,rfl,hn.out⟩
 case round=>
  obtain ⟨k,hk,rfl,hf,hT,sh,ho,hp⟩:=hrel;clear Hb hn Hd hH HB H4 hU HG Hf h2 hg HH;obtain ⟨he,Hx⟩:=hP.out k hk sh ho;have HH:w.heap.size+1<wr.heap.size:=hp.lt
  by_cases h6:k<os.length
  ·obtain ⟨b,off,rfl,-,hc⟩:=HO.out.below hT (lrZ _) k h6
   rw [qa2 h6] at hc;have hr:=Hl.out _ (gmZ h6);have hh:os=os.take k++os[k]::os.drop (k+1):=by rw [←Zd h6,Zn]
   have h4:=Hg.out _ _ _ hh;obtain ⟨j,hj⟩:∃j:Nat,os[k]=(j:Int)+1:=⟨(os[k]-1).toNat,by omega⟩
   have h1:j<n.o.length:=by omega
   have ha:=λh:(Nt.bP n.o sh os[k]).2=0=>Nt.pM (id:=os[k]) ho h
   have hw:=λh:(Nt.bP n.o sh os[k]).2≠0=>Nt.sW (b:=os.drop (k+1)) (id:=os[k]) ho h
   rw [←Zb h6] at ha;rw [←hh] at hw;have Hs:Nt.bP n.o sh os[k]=Od.shape n.o[j].op n.o[j].p (Nt.pick sh n.o[j].ins):=by unfold Nt.bP;rw [hj,Nt.dI h1]
   have Hu:Nt.iF n.o os[k]=n.o[j].ins:=by unfold Nt.iF;rw [hj,Nt.dI h1]
   rw [Hs] at ha hw;rw [Hu] at h4;have HT:=he.pick h4;rw [hj] at hc ha;rw [show ((j:Int)+1).toNat=j+1 by omega] at ha;have hQ:=Hm.out _ (gmZ h1);have h5:=Hp.out _ (gmZ h1);obtain ⟨b1,off1,S,sc,I,ic,Q,qc,rfl,Hw,gj,gl,HE⟩:=HR.out.2.at_ h1;have HW:∀i∈n.o[j].ins,Sh.right (sh.getD i.toNat [])=true:=λi hi=>he i (h4 i hi)
   generalize n.o[j]=v at *;obtain ⟨⟨y0,y1,y2,y3,y4,y5,y6,y7,y8,y9⟩,-⟩:=Hw.below hT;have x1:wr.cell? ⟨w.heap.size,1,none⟩=some (sQ (some ⟨b1,off1,none⟩) n.o.length d):=by rw [hf.cell];rfl
   have j1:iQ.wrap ((j:Int)+1-1)=(j:Int):=by rw [Zc1 _ oZ];omega
   have j2:(j:Int)<n.o.length:=by omega
   have gk:=hQ.2.2.1;have HJ:=Blk.new wr 77 #[nQ iQ v.op.kind,nQ iQ v.op.k,nQ iQ v.op.width,nQ iQ v.op.step,nQ iQ v.op.side,nQ iQ v.op.frm,nQ iQ v.op.to,sQ S v.op.s.length sc,sQ I v.ins.length ic,sQ Q v.p.length qc];have HK:Below wr.heap.size wr (wr.alloc (.cells #[nQ iQ v.op.kind,nQ iQ v.op.k,nQ iQ v.op.width,nQ iQ v.op.step,nQ iQ v.op.side,nQ iQ v.op.frm,nQ iQ v.op.to,sQ S v.op.s.length sc,sQ I v.ins.length ic,sQ Q v.p.length qc] 77)):=(Ze1 _ _).alloc (lrZ _) _;obtain ⟨hv,hq,Hq,go⟩:=zd4 hf hp hh h4;have hJ:=zI ha;obtain ⟨hF,H1,gf,HZ,Ho,Hy,H2,H6,hY⟩:=zd9 hw Hs Hu HT hQ h5 Hw HW ho;obtain ⟨hW,HI,Hj⟩:=zd3 he HJ hj;clear hf hp hh h4 ha hw Hs Hu HT hQ h5 Hw HW ho he HJ hj;go_wp2_with (at_make;refine wpList_make_full _ rfl _ _ 75 rfl wr.heap.size 23 i0 (sQ none 0 0) 1 underlying75 hi HC HV _ _ _ _ v.ins.length rfl rfl (by first|rfl|simp|(go_simp;rfl)) (by first|rfl|simp|(go_simp;rfl)) ?b2 ?b3 ?b4 ?_)
   case b2=>rw [HP];omega
   case b3=>unfold maxLen;omega
   case b4=>simp
   intro w3 hown hgrow;have ht:=qau hown;rw [qao] at ht;have hb:aX w3 (wr.heap.size+1) 23 (Nt.eY sh v.ins 0):=by rw [Nt.nV];exact aX.new (by simpa [Blk] using ht)
   have hU:Below wr.heap.size wr w3:=HK.grown hgrow sZ sZ;have hL:Blk w3 wr.heap.size 77 #[nQ iQ v.op.kind,nQ iQ v.op.k,nQ iQ v.op.width,nQ iQ v.op.step,nQ iQ v.op.side,nQ iQ v.op.frm,nQ iQ v.op.to,sQ S v.op.s.length sc,sQ I v.ins.length ic,sQ Q v.p.length qc]:=HI.out.grown hgrow sZ;have z8:w3.cell? ⟨wr.heap.size,8,none⟩=some (sQ I v.ins.length ic):=by rw [hL.cell];rfl
   obtain ⟨hn,h7⟩:=zd2 hb hL;clear hb hL;clear ht hown hgrow y0 y1 y2 y3 y4 y5 y6 y7 y8 y9 x1 HK HI;go_wp2_with fail;clear z8;obtain ⟨wo,rfl⟩:∃wo,wo=wr:=⟨wr,rfl⟩
   go_loopw [44] (λi wx=>∃m:Nat,m<=v.ins.length/\i=nQ iQ m/\Blk wx wo.heap.size 77 #[nQ iQ v.op.kind,nQ iQ v.op.k,nQ iQ v.op.width,nQ iQ v.op.step,nQ iQ v.op.side,nQ iQ v.op.frm,nQ iQ v.op.to,sQ S v.op.s.length sc,sQ I v.ins.length ic,sQ Q v.p.length qc]/\Below wo.heap.size wo wx/\aX wx (wo.heap.size+1) 23 (Nt.eY sh v.ins m)) (λi _=>v.ins.length-(intOf i).toNat)
   case atStart=>exact ⟨0,Zt _,rfl,h7.out,hU,hn.out⟩
   case round=>
    obtain ⟨m,hm,rfl,hE,hM,hK⟩:=hrel;clear h7 hn hU;have Hh:=hT.trans (hM.mono hT.size);have hZ:=H2.out.below Hh;have gh:=Nt.oU sh v.ins hm
    by_cases h3:m<v.ins.length
    ·obtain ⟨b2,off2,rfl,-,HD⟩:=hZ.2.2.1 m h3
     rw [qa2 h3] at HD;have hD:=Hy.out _ (gmZ h3);have He:=H6.out _ (gmZ h3);have HM:=zI (Nt.nW sh v.ins h3);obtain ⟨u,hu⟩:∃u:Nat,v.ins[m]=u:=⟨v.ins[m].toNat,by omega⟩
     rw [hu] at HD hD He;have Hn:u<sh.length:=by omega
     rw [show ((u:Int)).toNat=u by omega,qad Hn] at He;obtain ⟨Su,cu,yu,Hk,lu1,lu2,-⟩:=hq.out.at_ Hn;obtain ⟨b3,off3,rfl,hU,-⟩:=Hk 0 (qa9 He).1;have yu':=qa1 hM yu;have Hc:=Hk.below hM (lrZ _);have hz:=hK.aO (i:=m) Hc lu1 lu2 (λa h=>by injection h with h;subst h;simp;omega);obtain ⟨Sm,cm,ym,-⟩:=hK.at_ (j:=m) oZ;have fm:wr.frozen? ⟨wo.heap.size+1,m,none⟩=false:=by obtain ⟨vs,_,hk,_⟩:=hK;exact hk.frozen m
     have HS:=zI (show aX (wr.setCell ⟨wo.heap.size+1,m,none⟩ (sQ (some ⟨b3,off3,none⟩) sh[u].length cu)) (wo.heap.size+1) 23 (Nt.eY sh v.ins (m+1)) by
      rw [HM.out,hu,show ((u:Int)).toNat=u by omega,qad Hn];exact hz)
     have H0:=zI (hE.far (p:=⟨wo.heap.size+1,m,none⟩) sZ (sQ (some ⟨b3,off3,none⟩) sh[u].length cu));have Ht:=hM.setCell (p:=⟨wo.heap.size+1,m,none⟩) sZ (sQ (some ⟨b3,off3,none⟩) sh[u].length cu);have u0:(0:Int)<=u:=by omega
     have u1:(u:Int)<((n.o.length+1:Nat):Int):=by omega
     have m1:(m:Int)<v.ins.length:=by omega
     clear hz Hk Hc hE hK hZ He hu yu;go_wp2_with fail;go_roundw
     case rel=>exact ⟨m+1,by omega,by go_num,H0.out,Ht,HS.out⟩
     case measure=>simp [intOf];omega
    ·obtain rfl:m=v.ins.length:=by omega
     have HN:(Nt.pick sh v.ins).length=v.ins.length:=by simp [Nt.pick]
     rw [Nt.qH] at hK
     obtain ⟨y0,y1,y2,y3,y4,y5,y6,y7,y9⟩:wr.cell? ⟨wo.heap.size,0,none⟩=some (nQ iQ v.op.kind)/\wr.cell? ⟨wo.heap.size,1,none⟩=some (nQ iQ v.op.k)/\wr.cell? ⟨wo.heap.size,2,none⟩=some (nQ iQ v.op.width)/\wr.cell? ⟨wo.heap.size,3,none⟩=some (nQ iQ v.op.step)/\wr.cell? ⟨wo.heap.size,4,none⟩=some (nQ iQ v.op.side)/\wr.cell? ⟨wo.heap.size,5,none⟩=some (nQ iQ v.op.frm)/\wr.cell? ⟨wo.heap.size,6,none⟩=some (nQ iQ v.op.to)/\wr.cell? ⟨wo.heap.size,7,none⟩=some (sQ S v.op.s.length sc)/\wr.cell? ⟨wo.heap.size,9,none⟩=some (sQ Q v.p.length qc):=by
      refine ⟨?_,?_,?_,?_,?_,?_,?_,?_,?_⟩
      all_goals (rw [hE.cell];rfl)
     have Hv:=Ho.out;have hA:=qfQ v.op S Q (some ⟨wo.heap.size+1,0,none⟩) sc qc v.ins.length v.p (Nt.pick sh v.ins) wr (by have:=Hv.2.1;omega) hZ.2.1 ⟨hZ.2.2.2,HE.1,HE.2,λs hs=>by have:=Hv.2.2.2.2.1 s hs;omega⟩ ⟨hK.qG,by omega,by omega,λs hs=>by have:=(qa9 (List.all_eq_true.1 HZ.out s hs)).2;omega⟩;rw [HN] at hA;have h0:=λh:(Od.shape v.op v.p (Nt.pick sh v.ins)).2=0=>qa9 (Od.aV h)
     have HA:=hJ.out;have HU:=hF.out;generalize Od.shape v.op v.p (Nt.pick sh v.ins)=r at *;obtain ⟨hX,H3,H9,HX⟩:=zd4 hA h0 HA HU;clear hA h0 HA HU;clear hZ hK hE HN Hv hJ hF H1;go_wp2_with fail;clear y0 y1 y2 y3 y4 y5 y6 y7 y9;refine (hX.out).mono ?_;rintro e w4 ⟨S5,d5,rfl,Ha,r1,r2,h8,gb⟩;have Hi:=hM.trans (gb.mono hM.size);have h9:=hT.trans (Hi.mono hT.size)
     by_cases hD:r.2=0
     ·have q1:(r.2 != 0)=false:=by simp [hD]
      have hx:=hq.out.below Hi (lrZ _);have hI:=hv.out.below Hi hv.out.lt;have H5:j+1<sh.length:=by omega
      obtain ⟨Sm,cm,ym,-⟩:=hx.at_ H5;have fm:w4.frozen? ⟨w.heap.size+1,j+1,none⟩=false:=by obtain ⟨vs,_,hk,_⟩:=hx;exact hk.frozen (j+1)
      have hz:=hx.aO (i:=j+1) Ha r1 r2 (λa h=>by have:=h8 a h;have:=hM.size;omega);have HS:=zI hz;have HY:=zI (hI.far (p:=⟨w.heap.size+1,j+1,none⟩) sZ (sQ S5 r.1.length d5));have Hz:=h9.setCell (p:=⟨w.heap.size+1,j+1,none⟩) sZ (sQ S5 r.1.length d5);have HL:=zI (H9.out hD);have j3:((j:Int)+1)<((n.o.length+1:Nat):Int):=by omega
      have j4:((j:Int)+1).toNat=j+1:=by omega
      clear hz hx hI hD;obtain ⟨gd,ge⟩:=zd2 Ha h8;clear Ha h8;go_wp2_with fail;go_roundw
      case rel=>exact ⟨k+1,by omega,by go_num,HY.out,Hz,_,HL.out,HS.out⟩
      case measure=>simp [intOf];omega
     ·have q1:(r.2 != 0)=true:=by simp [hD]
      have HF:=zI (HX.out hD);obtain ⟨gc,gd,ge⟩:=zd3 hD Ha h8;clear Ha h8;clear hD;go_wp2_with fail
      go_ret2
      exact ⟨h9,.inr (by rw [HF.out];exact ⟨gc.out,rfl⟩)⟩
  ·obtain rfl:k=os.length:=by omega
   rw [Zg] at ho;obtain ⟨hY,hq,hv,hW⟩:=zd4 ho hp hf he;clear ho hp hf he;go_wp2_with fail
   go_ret2
   exact ⟨hT,.inl (by rw [hY.out];exact ⟨rfl,_,rfl,by omega,hq.out,Hx⟩)⟩
namespace Nt
theorem qdH {ns:List aS}:∀ {a:List Int} {sh:List (List Int)},(lay ns sh a).2=0->∀j:Nat,(∀u∈a,u.toNat≠j)->(lay ns sh a).1.getD j []=sh.getD j []
 | [],sh,_,j,_=>rfl
 | id::r,sh,h,j,hj=>by
  unfold lay at h ⊢
  split at h
  ·rename_i h1
   rw [ipZ h1,qdH h j (λu hu=>hj u (by simp [hu]))];have:=hj id sZ;simp only [gdZ,Zs this]
  ·rename_i h1;exact absurd h h1
theorem qgq {sh sh':List (List Int)} {l:List Int} (h:∀i∈l,sh.getD i.toNat []=sh'.getD i.toNat []):pick sh l=pick sh' l:=List.map_congr_left h
theorem qgr {n:aA} (h:check n=0) {id:Int} (h1:1<=id) (h2:id<=n.o.length):bP n.o (shapes n) id=((shapes n).getD id.toNat [],0):=by
 obtain ⟨_,_,ht,hb,hl,ha,_⟩:=aL h;have hu:id∈sO n.o:=(Kn.bU hl id).2 ⟨h1,h2⟩;obtain ⟨A,B,e⟩:=List.append_of_mem hu;have hd:(sO n.o).Nodup:=(Kn.go_ok _ _ _).nodup;have hf:∀u∈sO n.o,1<=u/\u<=n.o.length:=Kn.dQ _ _;have hn:=Kn.fE _ _ e;have hs:shapes n=(lay n.o (start n) (sO n.o)).1:=rfl;rw [e] at ha hd hf
 have hA:(lay n.o (start n) A).2=0:=by
  rw [qaF] at ha
  split at ha
  ·assumption
  ·rename_i q;exact absurd ha q
 rw [qaF,ipZ hA,lay] at ha
 have hS:(bP n.o (lay n.o (start n) A).1 id).2=0:=by
  split at ha
  ·assumption
  ·rename_i q;exact absurd ha q
 rw [ipZ hS] at ha
 have hm:shapes n=(lay n.o ((lay n.o (start n) A).1.set id.toNat (bP n.o (lay n.o (start n) A).1 id).1) B).1:=by
  rw [hs,e,qaF,ipZ hA,lay,ipZ hS]
 have hh:(lay n.o (start n) A).1.length=n.o.length+1:=by rw [mJ hA];simp [start]
 have hk:∀j,j∈A->j≠id/\j∉B:=λj hj=>by
  rw [List.nodup_append] at hd;have:=hd.2.2 j hj;exact ⟨λe=>by subst e;exact this j sZ rfl,λhb=>this j (by simp [hb]) rfl⟩
 have ho:id∉B:=by
  rw [List.nodup_append] at hd;exact (List.nodup_cons.1 hd.2.1).1
 have hq:(shapes n).getD id.toNat []=(bP n.o (lay n.o (start n) A).1 id).1:=by
  rw [hm,qdH ha _ (λu hu=>by
   have:=hf u (by simp [hu]);intro q;have q:u=id:=by omega
   exact ho (q▸hu))]
  rw [gdZ,Zr oZ];rfl
 have hg:∀i∈iF n.o id,(shapes n).getD i.toNat []=(lay n.o (start n) A).1.getD i.toNat []:=λi hi=>by
  have hc:=hn i hi
  have hr:0<=i/\i.toNat≠id.toNat:=by
   rcases hc with rfl|hc
   ·omega
   ·have:=hf i (by simp [hc]);have:=(hk i hc).1;omega
  rw [hm,qdH ha _ (λu hu=>by
   have:=hf u (by simp [hu]);intro q;have q:u=i:=by omega
   subst q;rcases hc with q|q
   ·omega
   ·exact (hk u q).2 hu)]
  rw [gdZ,Zs oZ,←gdZ]
 have he:bP n.o (shapes n) id=bP n.o (lay n.o (start n) A).1 id:=by
  have hp:=qgq hg;unfold iF at hp;unfold bP;rw [hp]
 rw [he,hq];exact Prod.ext rfl hS
theorem kS {n:aA} (h:check n=0) {k:Nat} (hk:k<n.o.length):Od.shape n.o[k].op n.o[k].p (pick (shapes n) n.o[k].ins)=((shapes n).getD (k+1) [],0):=by
 have:=qgr h (id:=(k:Int)+1) oZ oZ;unfold bP at this;rw [dI hk,show ((k:Int)+1).toNat=k+1 by omega] at this;exact this
theorem lU {n:aA} (h:check n=0):∀s∈shapes n,Sh.right s=true:=λs hs=>by
 obtain ⟨j,hj,rfl⟩:=List.getElem_of_mem hs;have hl:=iL h;have:=qf6 h (j:Int) oZ oZ;rw [show ((j:Int)).toNat=j by omega,gdZ,geZ hj] at this;exact this
def words (n:aA):List Int:=(shapes n).map Safe.prod
def bY (n:aA) (k:Nat):List Int:=(List.range k).map λj=>Od.dK (n.o.getD j none_).op (n.o.getD j none_).p ((shapes n).getD (j+1) [])
def aD (n:aA):List Int:=0::bY n n.o.length
def total (n:aA):Int:=Safe.sum (aD n)
theorem mU {n:aA} {k:Nat} (hk:k<n.o.length):bY n (k+1)=bY n k++[Od.dK n.o[k].op n.o[k].p ((shapes n).getD (k+1) [])]:=by
 unfold bY;rw [List.range_succ,List.map_append];have:n.o.getD k none_=n.o[k]:=by rw [gdZ,geZ hk];rfl
 simp [hk]
theorem bH (n:aA) (k:Nat):(bY n k).length=k:=by simp [bY]
theorem cost_at {n:aA} (h:check n=0) {k:Nat} (hk:k<n.o.length):Od.cost n.o[k].op n.o[k].p (pick (shapes n) n.o[k].ins)=(Od.dK n.o[k].op n.o[k].p ((shapes n).getD (k+1) []),0):=by
 unfold Od.cost;rw [kS h hk];simp
theorem kQ {n:aA} (h:check n=0) (k:Nat) (hk:k<=n.o.length):∀x∈bY n k,0<=x/\x<=4294967296:=λx hx=>by
 unfold bY at hx;obtain ⟨j,hj,rfl⟩:=List.mem_map.1 hx;rw [List.mem_range] at hj;have ha:j<n.o.length:=by omega
 have e:n.o.getD j none_=n.o[j]:=by rw [gdZ,geZ ha];rfl
 rw [e];have hs:=kS h ha;have:=Od.tC (o:=n.o[j].op) (p:=n.o[j].p) (x:=pick (shapes n) n.o[j].ins) (by rw [hs]);rw [hs] at this;exact this
theorem jA {B:Int}:∀ {l:List Int},(∀x∈l,0<=x/\x<=B)->0<=Safe.sum l/\Safe.sum l<=l.length*B
 | [],_=>by simp [Safe.sum]
 | a::r,h=>by
  have h1:=h a sZ;have h2:=jA (l:=r) (B:=B) λx hx=>h x (by simp [hx])
  simp only [Safe.sum,List.length_cons];rw [show ((r.length+1:Nat):Int)*B=r.length*B+B by rw [Int.natCast_add,Int.add_mul];simp];omega
theorem total_bd {n:aA} (h:check n=0) (hn:n.o.length<=200):0<=total n/\total n<=858993459200/\Safe.add (aD n)=(total n,0):=by
 have hb:=kQ h n.o.length (lrZ _);have hs:=jA hb;rw [bH] at hs;have e:total n=Safe.sum (bY n n.o.length):=by unfold total aD;rw [Safe.sum];omega
 have hk:(n.o.length:Int)*4294967296<=200*4294967296:=Int.mul_le_mul_of_nonneg_right oZ oZ;refine ⟨by omega,by omega,?_⟩;unfold Safe.add
 have ha:(aD n).all Safe.ok=true:=by
  rw [Zf];intro x hx;rw [Safe.jV];rcases List.mem_cons.1 hx with rfl|hx
  ·omega
  ·have:=hb x hx;omega
 rw [ipZ ha,ipZ (by rw [Safe.kP];show total n<=_;omega)]
 rfl
theorem iA {n:aA} (h:check n=0):∀x∈words n,1<=x/\x<=65536:=λx hx=>by
 obtain ⟨s,hs,rfl⟩:=List.mem_map.1 hx;exact Od.iX (lU h s hs)
theorem bX {n:aA} (h:check n=0):(words n).length=n.o.length+1:=by rw [words,List.length_map,iL h]
end Nt
namespace Cd
abbrev Ins:=Int × Int
def right (p:Ins):Bool:=
 if p.1==4 || p.1==5 then p.2==0
 else (p.1==1 || p.1==2 || p.1==3 || p.1==6)&&(decide (1<=p.2)&&decide (p.2<=512))
def check (ps:List Ins):Int:=if 65536<ps.length then 12 else if ps.all right then 0 else 10
theorem jO {ps:List Ins} (h:65536<ps.length):check ps=12:=by simp [check,h]
theorem check_form {ps:List Ins} (h:¬65536<ps.length) (ha:ps.all right=false):check ps=10:=by simp [check,h,ha]
theorem aL {ps:List Ins} (h:¬65536<ps.length) (ha:ps.all right=true):check ps=0:=by simp [check,h,ha]
theorem right_45 {p:Ins} (h:p.1=4∨p.1=5):right p=(p.2==0):=by
 have:(p.1==4 || p.1==5)=true:=by rcases h with h|h<;>simp [h]
 simp [right,this]
theorem pQ {p:Ins} (h:p.1=1∨p.1=2∨p.1=3∨p.1=6):right p=(decide (1<=p.2)&&decide (p.2<=512)):=by
 rcases h with h|h|h|h<;>simp [right,h]
theorem right_other {p:Ins} (h1:p.1≠1) (h2:p.1≠2) (h3:p.1≠3) (h4:p.1≠4) (h5:p.1≠5) (h6:p.1≠6):right p=false:=by simp [right, *]
theorem kF {p:Ins} (h:right p=true):1<=p.1/\p.1<=6/\0<=p.2/\p.2<=512:=by
 unfold right at h
 split at h
 ·rename_i h1
  simp at h1 h;omega
 ·simp at h
  omega
theorem kinds (a:Int):(a=4∨a=5)∨(a=1∨a=2∨a=3∨a=6)∨(a≠1/\a≠2/\a≠3/\a≠4/\a≠5/\a≠6):=by omega
theorem lV {p:Ins->Bool} {ps:List Ins} (h:ps.all p=true) (k:Nat) (hk:k<ps.length):p ps[k]=true:=by
 rw [Zf] at h;exact h _ (gmZ hk)
theorem uG {p:Ins->Bool} {ps:List Ins} (h:∀j (hj:j<ps.length),p ps[j]=true):ps.all p=true:=by
 rw [Zf];intro x hx;obtain ⟨i,hi,rfl⟩:=List.getElem_of_mem hx;exact h i hi
theorem mP {p:Ins->Bool} {ps:List Ins} {k:Nat} (hk:k<ps.length) (h:p ps[k]=false):ps.all p=false:=by
 rw [Bool.eq_false_iff];intro h2;rw [lV h2 k hk] at h;cases h
def count (kind:Int):List Ins->Int
 | []=>0
 | p::r=>(if p.1==kind then 1 else 0)+count kind r
theorem count_append (kind:Int) (a b:List Ins):count kind (a++b)=count kind a+count kind b:=by
 induction a with
 | nil=>simp [count]
 | cons x r ih=>simp [count,ih];omega
theorem count_take_succ (kind:Int) (ps:List Ins) (k:Nat) (h:k<ps.length):count kind (ps.take (k+1))=count kind (ps.take k)+(if ps[k].1==kind then 1 else 0):=by
 rw [Zb h,count_append];simp [count]
theorem tF (kind:Int) (ps:List Ins):0<=count kind ps/\count kind ps<=ps.length:=by
 induction ps with
 | nil=>simp [count]
 | cons x r ih=>simp only [count,List.length_cons];split<;>omega
def flat (ps:List Ins):List Int:=ps.flatMap λp=>[p.1,p.2 / 256,p.2 % 256]
def bytes (ps:List Ins):List Int:=if check ps=0 then flat ps else []
theorem check_zero {ps:List Ins} (h:check ps=0):ps.length<=65536/\ps.all right=true:=by
 unfold check at h
 split at h
 ·simp at h
 ·split at h
  ·exact ⟨by omega,by assumption⟩
  ·simp at h
def lD (p:Ins):Bool:=p.1==1 || p.1==2
def lX (cost:List Int) (p:Ins):Bool:=decide (p.2<cost.length)&&Safe.ok (cost.getD p.2.toNat 0)
def aJ (cost:List Int) (ps:List Ins):List Int:=(ps.filter lD).map λp=>cost.getD p.2.toNat 0
def fine (cost:List Int) (p:Ins):Bool:=!lD p || lX cost p
def aD (ps:List Ins) (cost:List Int):Int × Int:=
 if check ps=0 then (if ps.all (fine cost) then (if Safe.sum (aJ cost ps)<=Safe.top then (Safe.sum (aJ cost ps),0) else (0,12)) else (0,10)) else (0,check ps)
theorem costs_bad {ps:List Ins} (h:check ps≠0) (cost:List Int):aD ps cost=(0,check ps):=by simp [aD,h]
theorem pO {ps:List Ins} {cost:List Int} (h:check ps=0) (h1:ps.all (fine cost)=false):aD ps cost=(0,10):=by simp [aD,h,h1]
theorem costs_many {ps:List Ins} {cost:List Int} (h:check ps=0) (h1:ps.all (fine cost)=true) (h2:¬Safe.sum (aJ cost ps)<=Safe.top):aD ps cost=(0,12):=by simp [aD,h,h1,h2]
theorem nJ {ps:List Ins} {cost:List Int} (h:check ps=0) (h1:ps.all (fine cost)=true) (h2:Safe.sum (aJ cost ps)<=Safe.top):aD ps cost=(Safe.sum (aJ cost ps),0):=by simp [aD,h,h1,h2]
theorem iT (cost:List Int) (ps:List Ins) (k:Nat) (h:k<ps.length) (hr:lD ps[k]=false):aJ cost (ps.take (k+1))=aJ cost (ps.take k):=by
 rw [Zb h,aJ,List.filter_append,List.map_append];simp [aJ,hr]
theorem iZ (cost:List Int) (ps:List Ins) (k:Nat) (h:k<ps.length) (hr:lD ps[k]=true):aJ cost (ps.take (k+1))=aJ cost (ps.take k)++[cost.getD ps[k].2.toNat 0]:=by
 rw [Zb h,aJ,List.filter_append,List.map_append];simp [aJ,hr]
theorem nU (cost:List Int) (ps:List Ins):(aJ cost ps).length<=ps.length:=by
 simp [aJ];exact List.length_filter_le _ _
theorem costList_ok {cost:List Int} {ps:List Ins} (h:ps.all (fine cost)=true):(aJ cost ps).all Safe.ok=true:=by
 rw [Zf] at h ⊢;intro x hx;simp only [aJ,List.mem_map,List.mem_filter] at hx;obtain ⟨p,⟨hp,hr⟩,rfl⟩:=hx;have:=h p hp;simp [fine,hr,lX] at this;simpa using this.2
end Cd
structure CkN where
 words:List Int
 cost:List Int
 ins:List (List Int)
 order:List Int
 aH:Int
 cap:Int
structure CkS where
 aG:List Bool
 sav:List Bool
 aN:List Bool
 em:Bool
 sd:Bool
 done:Nat
 now:Int
 aB:Int
namespace Ck
def at_ (l:List Bool) (id:Int):Bool:=l.getD id.toNat false
def wd (c:CkN) (id:Int):Int:=c.words.getD id.toNat 0
def iF (c:CkN) (id:Int):List Int:=c.ins.getD id.toNat []
def ready (c:CkN) (s:CkS) (id:Int):Bool:=(iF c id).all λi=>at_ s.aG i
def back (c:CkN) (s:CkS) (id:Int):Bool:=decide (s.done<c.order.length/\c.order.getD (c.order.length-1-s.done) 0=id)
def bI (c:CkN) (s:CkS) (k id:Int):Bool:=
 if k=1 then !at_ s.sav id&&ready c s id
 else if k=2 then at_ s.sav id&&(!at_ s.aG id&&ready c s id)
 else if k=3 then at_ s.aG id
 else if k=4 then at_ s.aG c.aH&&!s.em
 else if k=5 then !s.sd
 else if k=6 then at_ s.aN id&&(ready c s id&&back c s id)
 else false
def bD (g:List Bool):List Int->List Int->List Int
 | acc,[]=>acc
 | acc,i::r=>if i≠0/\at_ g i=false/\acc.contains i=false then bD g (acc++[i]) r else bD g acc r
def fresh (c:CkN) (s:CkS) (id:Int):List Int:=bD s.aN [] (iF c id)
def iC (c:CkN) (l:List Int):Int:=(l.map (wd c)).sum
def more (c:CkN) (s:CkS) (k id:Int):Int:=
 if k=1∨k=2 then wd c id else if k=5 then wd c c.aH else if k=6 then iC c (fresh c s id) else 0
def bO (l:List Bool) (id:Int) (b:Bool):List Bool:=l.set id.toNat b
def sets (l:List Bool) (ids:List Int):List Bool:=ids.foldl (λl i=>bO l i true) l
def act (c:CkN) (s:CkS) (k id n:Int):CkS:=
 if k=1∨k=2 then { s with aG:=bO s.aG id true,sav:=bO s.sav id true,now:=n,aB:=max s.aB n }
 else if k=3 then { s with aG:=bO s.aG id false,now:=n-wd c id,aB:=max s.aB n }
 else if k=4 then { s with em:=true,now:=n,aB:=max s.aB n }
 else if k=5 then { s with sd:=true,aN:=bO s.aN c.aH true,now:=n,aB:=max s.aB n }
 else if k=6 then { s with aN:=bO (sets s.aN (fresh c s id)) id false,now:=n-wd c id,aB:=max s.aB n,done:=s.done+1 }
 else { s with now:=n,aB:=max s.aB n }
def do_ (c:CkN) (s:CkS) (k id:Int):CkS × Int:=
 if Cd.right (k,id)=false∨(c.words.length:Int)<=id then (s,10)
 else if bI c s k id=false then (s,24)
 else if c.cap<s.now+more c s k id then (s,25)
 else (act c s k id (s.now+more c s k id),0)
def go (c:CkN):CkS->List (Int × Int)->CkS × Int
 | s,[]=>(s,0)
 | s,i::r=>if (do_ c s i.1 i.2).2=0 then go c (do_ c s i.1 i.2).1 r else do_ c s i.1 i.2
def whole (c:CkN) (s:CkS):Bool:=s.em&&decide (s.done=c.order.length)
def start (m:Nat):CkS:=⟨(Zc m false).set 0 true,Zc m false,Zc m false,false,false,0,0,0⟩
def base (n:aA) (cap:Int):CkN:=⟨Nt.words n,Nt.aD n,[]::n.o.map (·.ins),Nt.sO n.o,Nt.aH n.o,cap⟩
def run (n:aA) (ps:List (Int × Int)) (cap:Int):(Int × Int × Int × Int) × Int:=
 if Nt.check n≠0 then ((0,0,0,0),Nt.check n)
 else if Cd.check ps≠0 then ((0,0,0,0),Cd.check ps)
 else if (go (base n cap) (start (n.o.length+1)) ps).2≠0 then ((0,0,0,0),(go (base n cap) (start (n.o.length+1)) ps).2)
 else if whole (base n cap) (go (base n cap) (start (n.o.length+1)) ps).1=false then ((0,0,0,0),28)
 else if (Cd.aD ps (Nt.aD n)).2≠0 then ((0,0,0,0),(Cd.aD ps (Nt.aD n)).2)
 else (((go (base n cap) (start (n.o.length+1)) ps).1.aB,(Cd.aD ps (Nt.aD n)).1,Cd.count 2 ps,max (go (base n cap) (start (n.o.length+1)) ps).1.aB (Safe.max ((Nt.words n).drop 1))),0)
theorem kZ (c:CkN) (s:CkS) (a:List (Int × Int)) (i:Int × Int) (h:(go c s a).2=0):go c s (a++[i])=do_ c (go c s a).1 i.1 i.2:=by
 induction a generalizing s with
 | nil=>
  simp only [List.nil_append,go]
  split
  ·rename_i h0;rw [←h0]
  ·rfl
 | cons x r ih=>
  simp only [List.cons_append,go] at h ⊢
  split
  ·rename_i h0;rw [ipZ h0] at h;exact ih _ h
  ·rename_i h0;rw [inZ h0] at h;exact absurd h h0
theorem oK (c:CkN) (s:CkS) (a b:List (Int × Int)) (h:(go c s a).2≠0):go c s (a++b)=go c s a:=by
 induction a generalizing s with
 | nil=>exact absurd rfl h
 | cons x r ih=>
  simp only [List.cons_append,go] at h ⊢
  split
  ·rename_i h0;rw [ipZ h0] at h;exact ih _ h
  ·rfl
def cp (c:CkN) (cap:Int):CkN:={ c with cap:=cap }
theorem qN (c:CkN) (cap:Int) (s:CkS) (k id:Int):do_ (cp c cap) s k id=if Cd.right (k,id)=false∨(c.words.length:Int)<=id then (s,10)
 else if bI c s k id=false then (s,24)
 else if cap<s.now+more c s k id then (s,25)
 else (act c s k id (s.now+more c s k id),0):=rfl
theorem nD (c:CkN) (s:CkS) (k id n:Int):(act c s k id n).aB=max s.aB n:=by unfold act;(repeat' split)<;>rfl
theorem jT (c:CkN) (cap:Int):∀(ps:List (Int × Int)) (s:CkS),(go c s ps).2=0->s.aB<=(go c s ps).1.aB/\((go c s ps).1.aB<=cap->go (cp c cap) s ps=go c s ps)/\(s.aB<=cap->cap<(go c s ps).1.aB->(go (cp c cap) s ps).2=25)/\(s.aB<=c.cap->(go c s ps).1.aB<=c.cap)
 | [],s,_=>⟨Int.le_refl _,λ_=>rfl,λh1 h2=>absurd h2 (by simp [go];omega),λh=>h⟩
 | i::r,s,h=>by
  have hd:(do_ c s i.1 i.2).2=0:=by
   simp only [go] at h
   split at h
   ·assumption
   ·rename_i h0;exact absurd h h0
  have e:go c s (i::r)=go c (do_ c s i.1 i.2).1 r:=by simp only [go];rw [ipZ hd]
  rw [e] at h ⊢;have hq:=hd;unfold do_ at hq
  split at hq
  ·simp at hq
  ·rename_i h1
   split at hq
   ·simp at hq
   ·rename_i h2
    split at hq
    ·simp at hq
    ·rename_i h3
     have ea:do_ c s i.1 i.2=(act c s i.1 i.2 (s.now+more c s i.1 i.2),0):=by unfold do_;rw [inZ h1,inZ h2,inZ h3]
     rw [ea] at h ⊢;obtain ⟨i1,i2,i3,i4⟩:=jT c cap r _ h;rw [nD] at i1 i3 i4;refine ⟨by simp only at i1 ⊢;omega,λhc=>?_,λhs hc=>?_,λhs=>i4 oZ⟩
     ·have ha:do_ (cp c cap) s i.1 i.2=(act c s i.1 i.2 (s.now+more c s i.1 i.2),0):=by
       rw [qN,inZ h1,inZ h2,inZ (by simp only at i1 hc;omega)]
      simp only [go];rw [ha,ipZ rfl];exact i2 hc
     ·by_cases hm:cap<s.now+more c s i.1 i.2
      ·have ha:do_ (cp c cap) s i.1 i.2=(s,25):=by
        rw [qN,inZ h1,inZ h2,ipZ hm]
       simp only [go];rw [ha,inZ sZ]
      ·have ha:do_ (cp c cap) s i.1 i.2=(act c s i.1 i.2 (s.now+more c s i.1 i.2),0):=by
        rw [qN,inZ h1,inZ h2,inZ hm]
       simp only [go];rw [ha,ipZ rfl];exact i3 oZ hc
end Ck
structure RfS where
 there:List Int
 saved:List Int
 aF:List Int
 em:Int
 sd:Int
 done:Int
 aB:Int
namespace Rf
def with_ (l:List Int) (z:Int):List Int:=if l.contains z then l else l++[z]
def without (l:List Int) (z:Int):List Int:=l.filter λy=>decide (y≠z)
def tw (c:CkN) (z:Int):Int:=if z=0 then 0 else Ck.wd c z
def bR (f:Int->Int) (l:List Int):Int:=(l.map f).sum
def sum (c:CkN) (x:RfS):Int:=bR (tw c) x.there+bR (Ck.wd c) x.aF
def ready (c:CkN) (x:RfS) (id:Int):Bool:=(Ck.iF c id).all λi=>x.there.contains i
def gr (l ins:List Int):List Int:=ins.foldl (λg i=>if i≠0 then with_ g i else g) l
def back (c:CkN) (x:RfS) (id:Int):Bool:=decide (0<=(c.order.length:Int)-1-x.done)&&decide (c.order.getD ((c.order.length:Int)-1-x.done).toNat 0=id)
def bI (c:CkN) (x:RfS) (k id:Int):Bool:=
 if k=1∨k=2 then (x.saved.contains id==decide (k=2))&&(!x.there.contains id&&ready c x id)
 else if k=3 then x.there.contains id
 else if k=4 then x.there.contains c.aH&&!decide (x.em=1)
 else if k=5 then !decide (x.sd=1)
 else if k=6 then x.aF.contains id&&(ready c x id&&back c x id)
 else true
def step (c:CkN) (x:RfS) (k id:Int):RfS:=
 if k=1∨k=2 then { x with there:=with_ x.there id,saved:=with_ x.saved id }
 else if k=3 then { x with there:=without x.there id }
 else if k=4 then { x with em:=1 }
 else if k=5 then { x with sd:=1,aF:=with_ x.aF c.aH }
 else if k=6 then { x with aF:=gr x.aF (Ck.iF c id),done:=x.done+1 }
 else x
def fin (c:CkN) (y:RfS) (k id:Int):RfS:=
 { y with aB:=if y.aB<sum c y then sum c y else y.aB,aF:=if k=6 then without y.aF id else y.aF }
def do_ (c:CkN) (x:RfS) (k id:Int):RfS × Int:=
 if (c.words.length:Int)<=id then (x,10)
 else if bI c x k id=false then (x,24)
 else if c.cap<sum c (step c x k id) then (x,25)
 else (fin c (step c x k id) k id,0)
def start:RfS:=⟨[0],[],[],0,0,0,0⟩
def go (c:CkN):RfS->List (Int × Int)->RfS × Int
 | x,[]=>(x,0)
 | x,i::r=>if (do_ c x i.1 i.2).2=0 then go c (do_ c x i.1 i.2).1 r else do_ c x i.1 i.2
end Rf
structure eB (L:Nat) (b:List Bool) (l:List Int):Prop where
 len:b.length=L
 rng:∀z∈l,0<=z/\z<L
 nod:l.Nodup
 iff:∀z:Int,0<=z->z<L->(Ck.at_ b z=true↔z∈l)
namespace eB
variable {L:Nat} {b:List Bool} {l:List Int}
theorem at_ (h:eB L b l) {z:Int} (h0:0<=z) (h1:z<L):Ck.at_ b z=l.contains z:=by
 have:=h.iff z h0 h1;rw [Bool.eq_iff_iff,this];simp
theorem dS (h:b.length=L) {z y:Int} (h0:0<=z) (h1:z<L) (g0:0<=y) (v:Bool):Ck.at_ (Ck.bO b z v) y=if y=z then v else Ck.at_ b y:=by
 unfold Ck.at_ Ck.bO;rw [gdZ,gdZ,List.getElem?_set]
 by_cases e:y=z
 ·subst e
  have:y.toNat<b.length:=by omega
  simp [this]
 ·have:¬z.toNat=y.toNat:=by omega
  rw [inZ this,inZ e]
theorem put (h:eB L b l) {z:Int} (h0:0<=z) (h1:z<L) (hn:z∉l):eB L (Ck.bO b z true) (l++[z]):=by
 refine ⟨by rw [Ck.bO,List.length_set];exact h.len,λy hy=>?_,?_,λy g0 g1=>?_⟩
 ·rcases List.mem_append.1 hy with hy|hy
  ·exact h.rng y hy
  ·simp at hy;subst hy;exact ⟨h0,h1⟩
 ·rw [List.nodup_append]
  refine ⟨h.nod,by simp,λa ha b hb e=>?_⟩;simp at hb;subst hb;subst e;exact hn ha
 ·rw [dS h.len h0 h1 g0]
  by_cases e:y=z
  ·subst e;simp
  ·rw [inZ e,h.iff y g0 g1];simp [e]
theorem with_ (h:eB L b l) {z:Int} (h0:0<=z) (h1:z<L):eB L (Ck.bO b z true) (Rf.with_ l z):=by
 unfold Rf.with_
 split
 ·rename_i hc
  have hm:z∈l:=by simpa using hc
  refine ⟨by rw [Ck.bO,List.length_set];exact h.len,h.rng,h.nod,λy g0 g1=>?_⟩;rw [dS h.len h0 h1 g0]
  by_cases e:y=z
  ·subst e;simpa using hm
  ·rw [inZ e];exact h.iff y g0 g1
 ·rename_i hc
  exact h.put h0 h1 (by simpa using hc)
theorem without (h:eB L b l) {z:Int} (h0:0<=z) (h1:z<L):eB L (Ck.bO b z false) (Rf.without l z):=by
 refine ⟨by rw [Ck.bO,List.length_set];exact h.len,λy hy=>h.rng y (List.mem_filter.1 hy).1,h.nod.filter _,λy g0 g1=>?_⟩;rw [dS h.len h0 h1 g0]
 by_cases e:y=z
 ·subst e;simp [Rf.without]
 ·rw [inZ e,h.iff y g0 g1];simp [Rf.without,e]
theorem sets:∀(f:List Int) {b:List Bool} {l:List Int},eB L b l->f.Nodup->(∀z∈f,(0<=z/\z<L)/\z∉l)->eB L (Ck.sets b f) (l++f)
 | [],b,l,h,_,_=>by simpa [Ck.sets] using h
 | z::r,b,l,h,hn,hf=>by
  have hz:=hf z sZ;rw [List.nodup_cons] at hn;have hp:=h.put hz.1.1 hz.1.2 hz.2
  have:=sets r hp hn.2 (λy hy=>by
   have h1:=hf y (by simp [hy]);refine ⟨h1.1,λhm=>?_⟩;rcases List.mem_append.1 hm with hm|hm
   ·exact h1.2 hm
   ·simp at hm;subst hm;exact hn.1 hy)
  rw [List.append_assoc] at this;exact this
end eB
namespace Rf
theorem qL (f:Int->Int) (l:List Int) (z:Int):bR f (l++[z])=bR f l+f z:=by simp [bR]
theorem qfR (f:Int->Int) (a b:List Int):bR f (a++b)=bR f a+bR f b:=by simp [bR]
theorem qbF (f:Int->Int) {l:List Int} {z:Int} (h:z∉l):bR f (with_ l z)=bR f l+f z:=by
 unfold with_;rw [inZ (by simpa using h)];exact qL f l z
theorem qcF {l:List Int} {z:Int} (h:z∉l):without l z=l:=by
 unfold without;rw [List.filter_eq_self];intro y hy;simp only [decide_eq_true_eq];intro e;subst e;exact h hy
theorem qb8 (f:Int->Int):∀ {l:List Int} {z:Int},l.Nodup->z∈l->bR f (without l z)=bR f l-f z
 | y::r,z,hn,hm=>by
  rw [List.nodup_cons] at hn
  by_cases e:y=z
  ·subst e
   have:without (y::r) y=without r y:=by simp [without]
   rw [this,qcF hn.1];simp [bR];omega
  ·have ha:z∈r:=by
    rcases List.mem_cons.1 hm with e' | h
    ·exact absurd e'.symm e
    ·exact h
   have e2:without (y::r) z=y::without r z:=by simp [without,e]
   have ih:=qb8 f hn.2 ha;rw [e2];simp only [bR,List.map_cons,List.sum_cons] at ih ⊢;omega
theorem iK:∀ {l:List Int} {z:Int},l.Nodup->z∈l->(without l z).length+1=l.length
 | y::r,z,hn,hm=>by
  rw [List.nodup_cons] at hn
  by_cases e:y=z
  ·subst e
   have:without (y::r) y=without r y:=by simp [without]
   rw [this,qcF hn.1];simp
  ·have ha:z∈r:=by
    rcases List.mem_cons.1 hm with e' | h
    ·exact absurd e'.symm e
    ·exact h
   have e2:without (y::r) z=y::without r z:=by simp [without,e]
   have ih:=iK hn.2 ha;rw [e2];simp only [List.length_cons];omega
theorem qf9 {f:Int->Int} (h:∀z,0<=f z):∀l:List Int,0<=bR f l
 | []=>by simp [bR]
 | x::r=>by
  have h1:=h x;have h2:=qf9 h r;simp only [bR,List.map_cons,List.sum_cons] at h2 ⊢;omega
theorem sumF_one {f:Int->Int} (h:∀z,0<=f z) {l:List Int} {z:Int} (hz:z∈l):f z<=bR f l:=by
 induction l with
 | nil=>cases hz
 | cons x r ih=>
  have h1:=h x;have h2:=qf9 h r;simp only [bR,List.map_cons,List.sum_cons] at h2 ih ⊢;rcases List.mem_cons.1 hz with e|hz
  ·subst e;omega
  ·have:=ih hz;omega
theorem jH:∀(n:Nat) (l:List Int),l.Nodup->(∀z∈l,0<=z/\z<n)->l.length<=n
 | 0,l,_,h=>by
  match l,h with
  | [],_=>simp
  | x::r,h=>have:=h x sZ;omega
 | n+1,l,hn,h=>by
  by_cases hm:(n:Int)∈l
  ·have h1:=iK hn hm
   have:=jH n (without l n) (hn.filter _) (λz hz=>by
    have h2:=List.mem_filter.1 hz;have h3:=h z h2.1;have h4:=h2.2;simp only [decide_eq_true_eq] at h4;omega)
   omega
  ·have:=jH n l hn (λz hz=>by
    have h3:=h z hz;have:z≠n:=λe=>hm (e▸hz)
    omega)
   omega
theorem qbG {g:List Bool} {l:List Int} {L:Nat} (h:eB L g l):∀(ins acc:List Int),(∀i∈ins,0<=i/\i<L)->gr (l++acc) ins=l++Ck.bD g acc ins
 | [],acc,_=>by simp [gr,Ck.bD]
 | i::r,acc,hi=>by
  have h1:=hi i sZ;have hr:∀i∈r,0<=i/\i<L:=λz hz=>hi z (by simp [hz])
  have ha:=h.at_ h1.1 h1.2
  show gr (if i≠0 then with_ (l++acc) i else l++acc) r=_
  unfold Ck.bD
  by_cases h0:i=0
  ·rw [inZ (by simpa using h0),inZ (by simp [h0])]
   exact qbG h r acc hr
  ·rw [ipZ h0]
   unfold with_
   by_cases hl:l.contains i=true
   ·have:(l++acc).contains i=true:=by simp at hl ⊢;exact .inl hl
    rw [ipZ this,inZ (by rw [ha,hl];simp)];exact qbG h r acc hr
   ·by_cases hc:acc.contains i=true
    ·have:(l++acc).contains i=true:=by simp at hc ⊢;exact .inr hc
     rw [ipZ this,inZ (by rw [hc];simp)];exact qbG h r acc hr
    ·have:¬(l++acc).contains i=true:=by simp at hl hc ⊢;exact ⟨hl,hc⟩
     rw [inZ this,ipZ ⟨h0,by rw [ha];simpa using hl,by simpa using hc⟩,List.append_assoc];exact qbG h r (acc++[i]) hr
theorem iY {g:List Bool} {l:List Int} {L:Nat} (h:eB L g l):∀(ins acc:List Int),(∀i∈ins,0<=i/\i<L)->acc.Nodup->(∀z∈acc,(0<=z/\z<L)/\z∉l/\z≠0)->(Ck.bD g acc ins).Nodup/\∀z∈Ck.bD g acc ins,(0<=z/\z<L)/\z∉l/\z≠0
 | [],acc,_,h1,h2=>⟨h1,h2⟩
 | i::r,acc,hi,h1,h2=>by
  have hb:=hi i sZ;have hr:∀i∈r,0<=i/\i<L:=λz hz=>hi z (by simp [hz])
  unfold Ck.bD
  split
  ·rename_i hc
   obtain ⟨c1,c2,c3⟩:=hc;refine iY h r _ hr ?_ ?_
   ·rw [List.nodup_append]
    refine ⟨h1,by simp,λa ha b hb e=>?_⟩;simp at hb;subst hb;subst e;simp at c3;exact c3 ha
   ·intro z hz
    rcases List.mem_append.1 hz with hz|hz
    ·exact h2 z hz
    ·simp at hz;subst hz
     refine ⟨hb,?_,c1⟩;rw [h.at_ hb.1 hb.2] at c2;simpa using c2
  ·exact iY h r acc hr h1 h2
end Rf
end Go.Proofs.YtddkenhemnkkeaaGreat
