/- Lemmas for the statements of this seat: contracts of functions and the plain laws. -/
import Derived.BigQuiet
import Derived.Deep.AppendLies
import Derived.Deep.DeepCutAuto
import Derived.Deep.RegionHeld3
import Derived.Deep.RegionLaw
import Derived.Maps.AppendAt
import Derived.Test.YtimfcikmpllbpaaGreatZ03
set_option linter.unusedVariables false
open Go.IntKind renaming i64 → iQ
open Go.Value renaming int → nQ, slice → sQ
open List renaming take_succ_eq_append_getElem → Zb, replicate → Zc, drop_eq_getElem_cons → Zd, length_append → Ze, all_eq_true → Zf, take_length → Zg, mem_of_mem_take → Zh, getElem?_eq_none → Zi, flatMap_append → Zj, getElem?_toArray → Zk, getElem?_append_right → Zl, getElem?_append_left → Zm, take_append_drop → Zn, length_take → Zo, mem_of_mem_drop → Zp, length_drop → Zq, getElem?_set_self → Zr, getElem?_set_ne → Zs
open Nat renaming zero_le → Zt, succ_mul → Zu, le_trans → Zv, zero_add → Zw, add_zero → Zx, le_succ → Zy
open Bool renaming and_eq_true → Zz
open Go.Value renaming int → Za1, slice → Zb1
open Go.IntWalk renaming i64_in → Zc1
open Go.NoPanic renaming normal → Zd1
open Go.RowKit.Below renaming refl → Ze1
open Go.AllReadyH renaming cons → Zf1, nil → Zg1
open Go.World renaming size_alloc → Zh1, cell?_of_block → Zi1, block_lt_of_cell? → Zj1
open Go renaming bodyPost_ret → Zk1, wp_region_held_drew → Zl1, wp_region_noPanic → Zm1, wpAnyH_done → Zn1, wpAnyH_ready → Zo1, World → Zp1
namespace Go.Proofs.YtimfcikmpllbpaaGreat
set_option maxHeartbeats 16000000
set_option maxRecDepth 20000
open Go.RowKit
namespace Ly
def In (t:Ten):Prop:=∀z∈t.c,Fx.In z
def none_:Ten:=⟨[],[]⟩
def got (l:List Ten) (i:Nat):Ten:=l.getD i none_
def tab (n:Nat) (f:Nat->Int):List Int:=(List.range n).map f
def at_ (l:List Int) (i:Nat):Int:=l.getD i 0
def zeros (n:Nat):List Int:=Zc n 0
def side (s:List Int) (i:Nat):Nat:=(at_ s i).toNat
def span (l:List Int):Nat:=(Safe.prod l).toNat
def alike (a b:Ten):Bool:=Tn.right a&&Tn.right b&&decide (a.s=b.s)
def add (a b:Ten):Ten × Int:=if alike a b then (⟨a.s,tab a.c.length λi=>Fx.add (at_ a.c i) (at_ b.c i)⟩,0) else (none_,20)
def qbx (c:List Int) (row a n:Nat) (k:Nat):List Int:=(List.range k).flatMap λi=>(c.drop (i*row+a)).take n
def cut (x:Ten) (sd frm til:Int):Ten × Int:=
 if Tn.right x then
  if (Od.cut x.s sd frm til).2=0 then
   let inner:=span ((Od.cut x.s sd frm til).1.drop (sd.toNat+1))
   let row:=side x.s sd.toNat * inner
   (⟨(Od.cut x.s sd frm til).1,qbx x.c row (frm.toNat * inner) ((til.toNat-frm.toNat)*inner) (x.c.length / row)⟩,0)
  else (none_,(Od.cut x.s sd frm til).2)
 else (none_,20)
def of_ (s c:List Int):Ten × Int:=if Tn.right ⟨s,c⟩ then (⟨s,c⟩,0) else (none_,20)
def one:Int:=4294967296
def line (x:Int):Int:=Fx.add (Fx.mul x 1073741824) 2147483648
def cell (kind k x y:Int):Int:=
 if kind=1 then (if x<0 then 0 else x)
 else if kind=2 then (if 0<x then x else Fx.mul x k)
 else if kind=3 then Fx.held x (-4294967296) 4294967296
 else if kind=4 then Fx.held (line x) 0 4294967296
 else if kind=5 then Fx.mul x k
 else if kind=6 then Fx.add x y
 else if kind=7 then Fx.mul x y
 else 0
def slope (kind k x y g:Int):Int × Int:=
 if kind=1 then (if 0<x then (g,0) else (0,0))
 else if kind=2 then (if 0<x then (g,0) else (Fx.mul g k,0))
 else if kind=3 then (if -4294967296<x/\x<4294967296 then (g,0) else (0,0))
 else if kind=4 then (if 0<line x/\line x<4294967296 then (Fx.mul g 1073741824,0) else (0,0))
 else if kind=5 then (Fx.mul g k,0)
 else if kind=6 then (g,g)
 else if kind=7 then (Fx.mul g y,Fx.mul g x)
 else (0,0)
def second (x:List Ten) (i:Nat):Int:=if x.length<2 then 0 else at_ (got x 1).c i
def ptAgree (kind:Int) (x:List Ten):Int:=
 if Od.ptIns kind=0 then 21 else if (x.length:Int)≠Od.ptIns kind then 20 else if x.all (λt=>Tn.right t&&decide (t.s=(got x 0).s)) then 0 else 20
def point (kind k:Int) (x:List Ten):Ten × Int:=
 if ptAgree kind x=0 then (⟨(got x 0).s,tab (got x 0).c.length λi=>cell kind k (at_ (got x 0).c i) (second x i)⟩,0) else (none_,ptAgree kind x)
def slopes (kind k:Int) (x:List Ten) (g:Ten) (i:Nat):Int × Int:=slope kind k (at_ (got x 0).c i) (second x i) (at_ g.c i)
def pointBack (kind k:Int) (g:Ten) (x:List Ten):List Ten × Int:=
 if ptAgree kind x=0 then
  if Tn.right g&&decide (g.s=(got x 0).s) then
   (if x.length<2 then [⟨(got x 0).s,tab (got x 0).c.length λi=>(slopes kind k x g i).1⟩]
    else [⟨(got x 0).s,tab (got x 0).c.length λi=>(slopes kind k x g i).1⟩,⟨(got x 1).s,tab (got x 0).c.length λi=>(slopes kind k x g i).2⟩],0)
  else ([],20)
 else ([],ptAgree kind x)
def denseOk (w b x:Ten):Bool:=Tn.right w&&decide (w.s.length=2)&&Tn.right b&&Tn.right x&&decide (b.s=[at_ w.s 0])&&decide ((x.c.length:Int)=at_ w.s 1)
def rowOf (w:List Int) (n i:Nat):List Int:=(w.drop (i*n)).take n
def dense (w b x:Ten):Ten × Int:=
 if denseOk w b x then (⟨b.s,tab b.c.length λi=>Fx.add (Fx.dot (rowOf w.c x.c.length i) x.c) (at_ b.c i)⟩,0) else (none_,20)
def denseX (w g x:List Int):Nat->List Int
 | 0=>zeros x.length
 | i+1=>tab x.length λj=>Fx.add (at_ (denseX w g x i) j) (Fx.mul (at_ w (i*x.length+j)) (at_ g i))
def denseW (g x:List Int):List Int:=tab (g.length*x.length) λk=>Fx.mul (at_ g (k / x.length)) (at_ x (k % x.length))
def denseBack (w b x g:Ten):(Ten × Ten × Ten) × Int:=
 if denseOk w b x&&Tn.right g&&decide (g.s=b.s) then ((⟨w.s,denseW g.c x.c⟩,g,⟨x.s,denseX w.c g.c x.c g.c.length⟩),0) else ((none_,none_,none_),20)
structure Frame where
 outs:Nat
 ins:Nat
 k0:Nat
 k1:Nat
 i0:Nat
 i1:Nat
 o0:Nat
 o1:Nat
 step:Nat
def qfs (l:List Int):Nat × Nat:=if l.length=1 then (1,side l 0) else (side l 0,side l 1)
def frame (w x out:List Int) (step:Int):Frame:=
 ⟨side w 0,side w 1,(qfs (w.drop 2)).1,(qfs (w.drop 2)).2,(qfs (x.drop 1)).1,(qfs (x.drop 1)).2,(qfs (out.drop 1)).1,(qfs (out.drop 1)).2,step.toNat⟩
structure Touch where
 o:Nat
 w:Nat
 x:Nat
def Frame.rowT (f:Frame) (p i j q t:Nat):List Touch:=
 (List.range f.k1).map λu=>⟨(p*f.o0+i)*f.o1+j,(p*f.ins+q)*(f.k0*f.k1)+t * f.k1+u,q*(f.i0*f.i1)+(i*f.step*f.i1+j*f.step)+t * f.i1+u⟩
def Frame.cellT (f:Frame) (p i j:Nat):List Touch:=(List.range f.ins).flatMap λq=>(List.range f.k0).flatMap λt=>f.rowT p i j q t
def Frame.all (f:Frame):List Touch:=(List.range f.outs).flatMap λp=>(List.range f.o0).flatMap λi=>(List.range f.o1).flatMap λj=>f.cellT p i j
def addAt (l:List Int) (i:Nat) (v:Int):List Int:=l.set i (Fx.add (at_ l i) v)
def convC (w x:List Int) (ts:List Touch) (n:Nat):List Int:=ts.foldl (λo t=>addAt o t.o (Fx.mul (at_ w t.w) (at_ x t.x))) (zeros n)
def convW (g x:List Int) (ts:List Touch) (n:Nat):List Int:=ts.foldl (λo t=>addAt o t.w (Fx.mul (at_ g t.o) (at_ x t.x))) (zeros n)
def convX (g w:List Int) (ts:List Touch) (n:Nat):List Int:=ts.foldl (λo t=>addAt o t.x (Fx.mul (at_ g t.o) (at_ w t.w))) (zeros n)
def qby (w x:Ten) (step:Int):Int:=if Tn.right w&&Tn.right x then (Od.conv w.s x.s step).2 else 20
def convT (w x:Ten) (step:Int):List Touch:=(frame w.s x.s (Od.conv w.s x.s step).1 step).all
def conv (w x:Ten) (step:Int):Ten × Int:=
 if qby w x step=0 then (⟨(Od.conv w.s x.s step).1,convC w.c x.c (convT w x step) (span (Od.conv w.s x.s step).1)⟩,0) else (none_,qby w x step)
def qcf (w x g:Ten) (step:Int):(Ten × Ten) × Int:=
 if qby w x step=0 then
  if Tn.right g&&decide (g.s=(Od.conv w.s x.s step).1) then
   ((⟨w.s,convW g.c x.c (convT w x step) w.c.length⟩,⟨x.s,convX g.c w.c (convT w x step) x.c.length⟩),0)
  else ((none_,none_),20)
 else ((none_,none_),qby w x step)
def best (l:List Int):Nat->Int
 | 0=>-1
 | k+1=>if best l k<0∨at_ l (best l k).toNat<at_ l k then k else best l k
def poolErr (x:Ten) (width step:Int):Int:=if Tn.right x then (Od.pool x.s width step).2 else 20
def from_ (sd n step i:Nat):Nat:=i / n*sd+i % n*step
def win (c:List Int) (sd n width step i:Nat):List Int:=(c.drop (from_ sd n step i)).take width
def poolCell (top:Bool) (l:List Int) (width:Int):Int:=if top then at_ l (best l l.length).toNat else Fx.div (Fx.sum l) (width*4294967296)
def lastOf (s:List Int):Nat:=side s (s.length-1)
def poolS (x:Ten) (width step:Int):List Int:=(Od.pool x.s width step).1
def pool (top:Bool) (x:Ten) (width step:Int):Ten × Int:=
 if poolErr x width step=0 then
  (⟨poolS x width step,tab (span (poolS x width step)) λi=>poolCell top (win x.c (lastOf x.s) (lastOf (poolS x width step)) width.toNat step.toNat i) width⟩,0)
 else (none_,poolErr x width step)
def addRow (l:List Int) (a:Nat) (v:Int):Nat->List Int
 | 0=>l
 | j+1=>addAt (addRow l a v j) (a+j) v
def poolStep (top:Bool) (x:List Int) (sd n:Nat) (width:Int) (step:Nat) (acc:List Int) (i:Nat) (v:Int):List Int:=
 if top then addAt acc (from_ sd n step i+(best (win x sd n width.toNat step i) width.toNat).toNat) v
 else addRow acc (from_ sd n step i) (Fx.div v (width*4294967296)) width.toNat
def poolX (top:Bool) (x g:List Int) (sd n:Nat) (width:Int) (step:Nat):Nat->List Int
 | 0=>zeros x.length
 | i+1=>poolStep top x sd n width step (poolX top x g sd n width step i) i (at_ g i)
def poolBack (top:Bool) (x g:Ten) (width step:Int):Ten × Int:=
 if poolErr x width step=0 then
  if Tn.right g&&decide (g.s=poolS x width step) then
   (⟨x.s,poolX top x.c g.c (lastOf x.s) (lastOf (poolS x width step)) width step.toNat g.c.length⟩,0)
  else (none_,20)
 else (none_,poolErr x width step)
def qaG (sd:Int) (s:List Int):List Ten->List Int × Int
 | []=>(s,0)
 | t::r=>if Tn.right t then (if (Od.join s t.s sd).2=0 then qaG sd (Od.join s t.s sd).1 r else ([],(Od.join s t.s sd).2)) else ([],20)
def joined (sd:Int) (x:List Ten):List Int × Int:=
 match x with
 | []=>([],20)
 | t::r=>if Tn.right t then (if r.length=0/\(sd<0∨(t.s.length:Int)<=sd) then ([],11) else qaG sd t.s r) else ([],20)
def qcv (rows:Nat) (i:Nat) (t:Ten):List Int:=(t.c.drop (i*(t.c.length / rows))).take (t.c.length / rows)
def qdY (rows:Nat) (x:List Ten) (k:Nat):List Int:=(List.range k).flatMap λi=>x.flatMap (qcv rows i)
def join (sd:Int) (x:List Ten):Ten × Int:=
 if (joined sd x).2=0 then
  let rows:=span ((joined sd x).1.take sd.toNat)
  (⟨(joined sd x).1,qdY rows x rows⟩,0)
 else (none_,(joined sd x).2)
def qbM (sd:Int) (g:Ten) (frm:Int):List Ten->List Ten × Int
 | []=>([],0)
 | t::r=>
  if (cut g sd frm (frm+at_ t.s sd.toNat)).2=0 then
   (if (qbM sd g (frm+at_ t.s sd.toNat) r).2=0 then ((cut g sd frm (frm+at_ t.s sd.toNat)).1::(qbM sd g (frm+at_ t.s sd.toNat) r).1,0) else ([],(qbM sd g (frm+at_ t.s sd.toNat) r).2))
  else ([],(cut g sd frm (frm+at_ t.s sd.toNat)).2)
def joinBack (sd:Int) (g:Ten) (x:List Ten):List Ten × Int:=
 if (joined sd x).2=0 then (if Tn.right g&&decide (g.s=(joined sd x).1) then qbM sd g 0 x else ([],20)) else ([],(joined sd x).2)
def cutX (n row a part:Nat) (g:List Int):Nat->List Int
 | 0=>zeros n
 | i+1=>splice (cutX n row a part g i) (i*row+a) ((g.drop (i*part)).take part)
def cutBack (x g:Ten) (sd frm til:Int):Ten × Int:=
 if Tn.right x then
  if (Od.cut x.s sd frm til).2=0 then
   if Tn.right g&&decide (g.s=(Od.cut x.s sd frm til).1) then
    let inner:=span ((Od.cut x.s sd frm til).1.drop (sd.toNat+1))
    let row:=side x.s sd.toNat * inner
    (⟨x.s,cutX x.c.length row (frm.toNat * inner) ((til.toNat-frm.toNat)*inner) g.c (x.c.length / row)⟩,0)
   else (none_,20)
  else (none_,(Od.cut x.s sd frm til).2)
 else (none_,20)
def turn (x:Ten) (s:List Int):Ten × Int:=if Tn.right x then of_ s x.c else (none_,20)
def turnBack (x g:Ten):Ten × Int:=if Tn.right x&&Tn.right g then of_ x.s g.c else (none_,20)
def lay (o:OpD) (p x:List Ten):Ten × Int:=
 if o.kind=8 then dense (got p 0) (got p 1) (got x 0)
 else if o.kind=9 then add (got x 0) (got p 0)
 else if o.kind=10 then conv (got p 0) (got x 0) o.step
 else if o.kind=11 then pool true (got x 0) o.width o.step
 else if o.kind=12 then pool false (got x 0) o.width o.step
 else if o.kind=13 then join o.side x
 else if o.kind=14 then cut (got x 0) o.side o.frm o.to
 else if o.kind=15 then turn (got x 0) o.s
 else point o.kind o.k x
def go (o:OpD) (p x:List Ten):Ten × Int:=if Od.counts o p.length x.length=0 then lay o p x else (none_,Od.counts o p.length x.length)
structure Bk where
 p:List Ten
 x:List Ten
def bnone:Bk:=⟨[],[]⟩
def bsingle (r:Ten × Int):Bk × Int:=if r.2=0 then (⟨[],[r.1]⟩,0) else (bnone,r.2)
def bseveral (r:List Ten × Int):Bk × Int:=if r.2=0 then (⟨[],r.1⟩,0) else (bnone,r.2)
def bbias (b x g:Ten):Bk × Int:=
 if (add x b).2=0 then (if Tn.right g&&decide (g.s=(add x b).1.s) then (⟨[g],[g]⟩,0) else (bnone,20)) else (bnone,(add x b).2)
def bturn (x g:Ten) (s:List Int):Bk × Int:=
 if (turn x s).2=0 then (if Tn.right g&&decide (g.s=s) then bsingle (turnBack x g) else (bnone,20)) else (bnone,(turn x s).2)
def layBack (o:OpD) (p x:List Ten) (g:Ten):Bk × Int:=
 if o.kind=8 then (if (denseBack (got p 0) (got p 1) (got x 0) g).2=0 then (⟨[(denseBack (got p 0) (got p 1) (got x 0) g).1.1,(denseBack (got p 0) (got p 1) (got x 0) g).1.2.1],[(denseBack (got p 0) (got p 1) (got x 0) g).1.2.2]⟩,0) else (bnone,(denseBack (got p 0) (got p 1) (got x 0) g).2))
 else if o.kind=9 then bbias (got p 0) (got x 0) g
 else if o.kind=10 then (if (qcf (got p 0) (got x 0) g o.step).2=0 then (⟨[(qcf (got p 0) (got x 0) g o.step).1.1],[(qcf (got p 0) (got x 0) g o.step).1.2]⟩,0) else (bnone,(qcf (got p 0) (got x 0) g o.step).2))
 else if o.kind=11 then bsingle (poolBack true (got x 0) g o.width o.step)
 else if o.kind=12 then bsingle (poolBack false (got x 0) g o.width o.step)
 else if o.kind=13 then bseveral (joinBack o.side g x)
 else if o.kind=14 then bsingle (cutBack (got x 0) g o.side o.frm o.to)
 else if o.kind=15 then bturn (got x 0) g o.s
 else bseveral (pointBack o.kind o.k g x)
def back (o:OpD) (p x:List Ten) (g:Ten):Bk × Int:=if Od.counts o p.length x.length=0 then layBack o p x g else (bnone,Od.counts o p.length x.length)
end Ly
def Tens (w:Zp1) (A:Option Addr) (ts:List Ten):Prop:=
 ∀j (hj:j<ts.length),∃b off S c C d,A=some ⟨b,off,none⟩/\b<w.heap.size/\w.cell? ⟨b,off+j*2,none⟩=some (sQ S ts[j].s.length c)/\w.cell? ⟨b,off+j*2+1,none⟩=some (sQ C ts[j].c.length d)/\TenR w S C ts[j]/\ts[j].s.length<=9223372036854775807/\ts[j].c.length<=9223372036854775807
theorem TenR.below {B:Nat} {w w':Zp1} {S C:Option Addr} {t:Ten} (h:TenR w S C t) (hb:Below B w w') (hB:w.heap.size<=B):TenR w' S C t:=⟨h.1.below hb hB,h.2.below hb hB⟩
theorem TenR.drew {w:Zp1} {S C:Option Addr} {t:Ten} (h:TenR w S C t):TenR w.drew S C t:=h
theorem Tens.below {B:Nat} {w w':Zp1} {A:Option Addr} {ts:List Ten} (h:Tens w A ts) (hb:Below B w w') (hB:w.heap.size<=B):Tens w' A ts:=λj hj=>by
 obtain ⟨b,off,S,c,C,d,e,hl,c0,c1,hT,h2⟩:=h j hj;exact ⟨b,off,S,c,C,d,e,ltZ hl hb.size,(hb.cell (p:=⟨b,off+j*2,none⟩) (ltZ hl hB)).trans c0,(hb.cell (p:=⟨b,off+j*2+1,none⟩) (ltZ hl hB)).trans c1,hT.below hb hB,h2⟩
theorem qdn {α:Type} {p:α->Bool} {l:List α} {k:Nat} (hk:k<l.length) (h:(l.take k).all p=true) (hp:p l[k]=true):(l.take (k+1)).all p=true:=by
 rw [Zb hk,List.all_append,h];simp [hp]
theorem qdZ {α:Type} {p:α->Bool} {l:List α} {k:Nat} (hk:k<l.length) (hp:p l[k]=false):l.all p=false:=by
 rw [List.all_eq_false];exact ⟨l[k],gmZ hk,by simp [hp]⟩
namespace Tn
def alike (a b:List Ten):Bool:=decide (a.length=b.length)&&a.all right&&b.all right&&(a.map (·.s)==b.map (·.s))
theorem alike_a {a b:List Ten} (h:a.all right=false):alike a b=false:=by simp [alike,h]
theorem alike_b {a b:List Ten} (h:b.all right=false):alike a b=false:=by simp [alike,h]
theorem right_len {t:Ten} (h:right t=true):t.s.length<=4/\1<=t.s.length/\t.c.length<=65536:=by
 simp [right] at h;obtain ⟨_,h1,h2,_,_,h3⟩:=Sh.right_mul h.1;omega
end Tn
namespace Tn
end Tn
theorem kinds7 {k:Int} (h1:1<=k) (h7:k<=7):k=1∨k=2∨k=3∨k=4∨k=5∨k=6∨k=7:=by omega
theorem qbo (x:Int) (w:Zp1) (hx:Fx.In x):Calls Tryz.prog 141 #[nQ iQ x] w λe w'=>e=.returned (nQ iQ (Ly.line x))/\w=w':=by
 have Hx:=zI hx;clear hx;go_enter Tryz.func141,Tryz.ntmps141;go_wp2_with fail;refine (qaN x 1073741824 _ Hx.out (by unfold Fx.In;omega)).mono ?_;rintro e w1 ⟨rfl,rfl⟩;go_wp2_with fail;refine (qb2 (Fx.mul x 1073741824) 2147483648 _ (Fx.mul_in _ _) (by unfold Fx.In;omega)).mono ?_;rintro e w1 ⟨rfl,rfl⟩;go_wp2_with fail;go_ret;exact ⟨rfl,rfl⟩
namespace Ly
theorem cell_in {kind k x y:Int} (hx:Fx.In x):Fx.In (cell kind k x y):=by
 unfold cell;have o1:Fx.In 4294967296:=by unfold Fx.In;omega
 have o2:Fx.In (-4294967296):=by unfold Fx.In;omega
 repeat' split
 all_goals first|exact hx|exact Fx.in_zero|exact Fx.mul_in _ _|exact Fx.add_in _ _|exact Fx.held_in hx o2 o1|exact Fx.held_in (Fx.add_in _ _) Fx.in_zero o1
theorem slope_in {kind k x y g:Int} (hg:Fx.In g):Fx.In (slope kind k x y g).1/\Fx.In (slope kind k x y g).2:=by
 unfold slope
 repeat' split
 all_goals refine ⟨?_,?_⟩
 all_goals first|exact hg|exact Fx.in_zero|exact Fx.mul_in _ _
theorem cell1 (k x y:Int):cell 1 k x y=if x<0 then 0 else x:=by unfold cell;rw [ipZ dZ]
theorem cell2 (k x y:Int):cell 2 k x y=if 0<x then x else Fx.mul x k:=by unfold cell;rw [inZ dZ];rw [ipZ dZ]
theorem cell3 (k x y:Int):cell 3 k x y=Fx.held x (-4294967296) 4294967296:=by unfold cell;rw [inZ dZ];rw [inZ dZ];rw [ipZ dZ]
theorem cell4 (k x y:Int):cell 4 k x y=Fx.held (line x) 0 4294967296:=by unfold cell;rw [inZ dZ];rw [inZ dZ];rw [inZ dZ];rw [ipZ dZ]
theorem cell5 (k x y:Int):cell 5 k x y=Fx.mul x k:=by unfold cell;rw [inZ dZ];rw [inZ dZ];rw [inZ dZ];rw [inZ dZ];rw [ipZ dZ]
theorem cell6 (k x y:Int):cell 6 k x y=Fx.add x y:=by unfold cell;rw [inZ dZ];rw [inZ dZ];rw [inZ dZ];rw [inZ dZ];rw [inZ dZ];rw [ipZ dZ]
theorem cell7 (k x y:Int):cell 7 k x y=Fx.mul x y:=by unfold cell;rw [inZ dZ];rw [inZ dZ];rw [inZ dZ];rw [inZ dZ];rw [inZ dZ];rw [inZ dZ];rw [ipZ dZ]
theorem slope1 (k x y g:Int):slope 1 k x y g=if 0<x then (g,0) else (0,0):=by unfold slope;rw [ipZ dZ]
theorem slope2 (k x y g:Int):slope 2 k x y g=if 0<x then (g,0) else (Fx.mul g k,0):=by unfold slope;rw [inZ dZ];rw [ipZ dZ]
theorem slope3 (k x y g:Int):slope 3 k x y g=if -4294967296<x/\x<4294967296 then (g,0) else (0,0):=by unfold slope;rw [inZ dZ];rw [inZ dZ];rw [ipZ dZ]
theorem slope4 (k x y g:Int):slope 4 k x y g=if 0<line x/\line x<4294967296 then (Fx.mul g 1073741824,0) else (0,0):=by unfold slope;rw [inZ dZ];rw [inZ dZ];rw [inZ dZ];rw [ipZ dZ]
theorem slope5 (k x y g:Int):slope 5 k x y g=(Fx.mul g k,0):=by unfold slope;rw [inZ dZ];rw [inZ dZ];rw [inZ dZ];rw [inZ dZ];rw [ipZ dZ]
theorem slope6 (k x y g:Int):slope 6 k x y g=(g,g):=by unfold slope;rw [inZ dZ];rw [inZ dZ];rw [inZ dZ];rw [inZ dZ];rw [inZ dZ];rw [ipZ dZ]
theorem slope7 (k x y g:Int):slope 7 k x y g=(Fx.mul g y,Fx.mul g x):=by unfold slope;rw [inZ dZ];rw [inZ dZ];rw [inZ dZ];rw [inZ dZ];rw [inZ dZ];rw [inZ dZ];rw [ipZ dZ]
end Ly
theorem qft (kind k x y:Int) (w:Zp1) (h1:1<=kind) (h7:kind<=7) (hk:Fx.In k) (hx:Fx.In x) (hy:Fx.In y):
  Calls Tryz.prog 115 #[nQ iQ kind,nQ iQ k,nQ iQ x,nQ iQ y] w λe w'=>e=.returned (nQ iQ (Ly.cell kind k x y))/\w=w':=by
 obtain ⟨Hk,Hx,Hy⟩:=zd3 hk hx hy;clear hk hx hy;rcases kinds7 h1 h7 with rfl|rfl|rfl|rfl|rfl|rfl|rfl
 all_goals clear h1 h7
 ·by_cases h:x<0
  ·have hm:=zI (show Ly.cell 1 k x y=0 by rw [Ly.cell1,ipZ h])
   have d1:decide (x<0)=true:=by simpa using h
   have d2:decide (0<x)=false:=by simp;omega
   have d3:decide (x<=0)=true:=by simp;omega
   have d4:decide (0<=x)=false:=by simp;omega
   go_enter Tryz.func115,Tryz.ntmps115;go_wp2_with fail;go_ret;exact ⟨by (rw [hm.out]<;>simp<;>omega),rfl⟩
  ·have hm:=zI (show Ly.cell 1 k x y=x by rw [Ly.cell1,inZ h])
   have d1:decide (x<0)=false:=by simpa using h
   have d4:decide (0<=x)=true:=by simp;omega
   go_enter Tryz.func115,Tryz.ntmps115;go_wp2_with fail;go_ret;exact ⟨by (rw [hm.out]<;>simp<;>omega),rfl⟩
 ·by_cases h:0<x
  ·have hm:=zI (show x=Ly.cell 2 k x y by rw [Ly.cell2,ipZ h])
   go_enter Tryz.func115,Tryz.ntmps115;go_wp2_with fail;go_ret;exact ⟨qa3 hm.out,rfl⟩
  ·have hm:=zI (show Fx.mul x k=Ly.cell 2 k x y by rw [Ly.cell2,inZ h])
   go_enter Tryz.func115,Tryz.ntmps115;go_wp2_with fail;refine (qaN x k _ Hx.out Hk.out).mono ?_;rintro e w1 ⟨rfl,rfl⟩;go_wp2_with fail;go_ret;exact ⟨qa3 hm.out,rfl⟩
 ·go_enter Tryz.func115,Tryz.ntmps115
  go_wp2_with fail;refine (qb3 _).mono ?_;rintro e w1 ⟨rfl,rfl⟩;go_wp2_with fail;refine (qdX _ _ _ _).mono ?_;rintro e w1 ⟨rfl,rfl⟩;go_wp2_with fail;go_ret;exact ⟨qa3 (Ly.cell3 k x y).symm,rfl⟩
 ·go_enter Tryz.func115,Tryz.ntmps115
  go_wp2_with fail;refine (qbo x _ Hx.out).mono ?_;rintro e w1 ⟨rfl,rfl⟩;go_wp2_with fail;refine (qdX _ _ _ _).mono ?_;rintro e w1 ⟨rfl,rfl⟩;go_wp2_with fail;go_ret;exact ⟨qa3 (Ly.cell4 k x y).symm,rfl⟩
 ·go_enter Tryz.func115,Tryz.ntmps115
  go_wp2_with fail;refine (qaN x k _ Hx.out Hk.out).mono ?_;rintro e w1 ⟨rfl,rfl⟩;go_wp2_with fail;go_ret;exact ⟨qa3 (Ly.cell5 k x y).symm,rfl⟩
 ·go_enter Tryz.func115,Tryz.ntmps115
  go_wp2_with fail;refine (qb2 x y _ Hx.out Hy.out).mono ?_;rintro e w1 ⟨rfl,rfl⟩;go_wp2_with fail;go_ret;exact ⟨qa3 (Ly.cell6 k x y).symm,rfl⟩
 ·go_enter Tryz.func115,Tryz.ntmps115
  go_wp2_with fail;refine (qaN x y _ Hx.out Hy.out).mono ?_;rintro e w1 ⟨rfl,rfl⟩;go_wp2_with fail;go_ret;exact ⟨qa3 (Ly.cell7 k x y).symm,rfl⟩
theorem qaa {a b a' b':Int} (h:(a,b)=(a',b')):Ending.returned (.tuple #[nQ iQ a,nQ iQ b])=.returned (.tuple #[nQ iQ a',nQ iQ b']):=by injection h with h1 h2;rw [h1,h2]
theorem qcw (kind k x y g:Int) (w:Zp1) (h1:1<=kind) (h7:kind<=7) (hk:Fx.In k) (hx:Fx.In x) (hy:Fx.In y) (hg:Fx.In g):
  Calls Tryz.prog 101 #[nQ iQ kind,nQ iQ k,nQ iQ x,nQ iQ y,nQ iQ g] w λe w'=>e=.returned (.tuple #[nQ iQ (Ly.slope kind k x y g).1,nQ iQ (Ly.slope kind k x y g).2])/\w=w':=by
 obtain ⟨Hk,Hx,Hy,Hg⟩:=zd4 hk hx hy hg;clear hk hx hy hg;rcases kinds7 h1 h7 with rfl|rfl|rfl|rfl|rfl|rfl|rfl
 all_goals clear h1 h7
 ·by_cases h:0<x
  ·have hm:=zI (show (g,0)=Ly.slope 1 k x y g by rw [Ly.slope1,ipZ h])
   go_enter Tryz.func101,Tryz.ntmps101;go_wp2_with fail
   go_ret2
   exact ⟨qaa hm.out,rfl⟩
  ·have hm:=zI (show (0,0)=Ly.slope 1 k x y g by rw [Ly.slope1,inZ h])
   go_enter Tryz.func101,Tryz.ntmps101;go_wp2_with fail
   go_ret2
   exact ⟨qaa hm.out,rfl⟩
 ·by_cases h:0<x
  ·have hm:=zI (show (g,0)=Ly.slope 2 k x y g by rw [Ly.slope2,ipZ h])
   go_enter Tryz.func101,Tryz.ntmps101;go_wp2_with fail
   go_ret2
   exact ⟨qaa hm.out,rfl⟩
  ·have hm:=zI (show (Fx.mul g k,0)=Ly.slope 2 k x y g by rw [Ly.slope2,inZ h])
   go_enter Tryz.func101,Tryz.ntmps101;go_wp2_with fail;refine (qaN g k _ Hg.out Hk.out).mono ?_;rintro e w1 ⟨rfl,rfl⟩;go_wp2_with fail
   go_ret2
   exact ⟨qaa hm.out,rfl⟩
 ·by_cases h : -4294967296<x
  ·by_cases h2:x<4294967296
   ·have hm:=zI (show (g,0)=Ly.slope 3 k x y g by rw [Ly.slope3,ipZ ⟨h,h2⟩])
    go_enter Tryz.func101,Tryz.ntmps101;go_wp2_with fail;refine (qb3 _).mono ?_;rintro e w1 ⟨rfl,rfl⟩;go_wp2_with fail
    go_ret2
    exact ⟨qaa hm.out,rfl⟩
   ·have hm:=zI (show (0,0)=Ly.slope 3 k x y g by rw [Ly.slope3,inZ (λk=>h2 k.2)])
    go_enter Tryz.func101,Tryz.ntmps101;go_wp2_with fail;refine (qb3 _).mono ?_;rintro e w1 ⟨rfl,rfl⟩;go_wp2_with fail
    go_ret2
    exact ⟨qaa hm.out,rfl⟩
  ·have hm:=zI (show (0,0)=Ly.slope 3 k x y g by rw [Ly.slope3,inZ (λk=>h k.1)])
   go_enter Tryz.func101,Tryz.ntmps101;go_wp2_with fail;refine (qb3 _).mono ?_;rintro e w1 ⟨rfl,rfl⟩;go_wp2_with fail
   go_ret2
   exact ⟨qaa hm.out,rfl⟩
 ·by_cases h:0<Ly.line x
  ·by_cases h2:Ly.line x<4294967296
   ·have hm:=zI (show (Fx.mul g 1073741824,0)=Ly.slope 4 k x y g by rw [Ly.slope4,ipZ ⟨h,h2⟩])
    go_enter Tryz.func101,Tryz.ntmps101;go_wp2_with fail;refine (qbo x _ Hx.out).mono ?_;rintro e w1 ⟨rfl,rfl⟩;go_wp2_with fail;refine (qaN g 1073741824 _ Hg.out (by unfold Fx.In;omega)).mono ?_;rintro e w1 ⟨rfl,rfl⟩;go_wp2_with fail
    go_ret2
    exact ⟨qaa hm.out,rfl⟩
   ·have hm:=zI (show (0,0)=Ly.slope 4 k x y g by rw [Ly.slope4,inZ (λk=>h2 k.2)])
    go_enter Tryz.func101,Tryz.ntmps101;go_wp2_with fail;refine (qbo x _ Hx.out).mono ?_;rintro e w1 ⟨rfl,rfl⟩;go_wp2_with fail
    go_ret2
    exact ⟨qaa hm.out,rfl⟩
  ·have hm:=zI (show (0,0)=Ly.slope 4 k x y g by rw [Ly.slope4,inZ (λk=>h k.1)])
   go_enter Tryz.func101,Tryz.ntmps101;go_wp2_with fail;refine (qbo x _ Hx.out).mono ?_;rintro e w1 ⟨rfl,rfl⟩;go_wp2_with fail
   go_ret2
   exact ⟨qaa hm.out,rfl⟩
 ·go_enter Tryz.func101,Tryz.ntmps101
  go_wp2_with fail;refine (qaN g k _ Hg.out Hk.out).mono ?_;rintro e w1 ⟨rfl,rfl⟩;go_wp2_with fail
  go_ret2
  exact ⟨qaa (Ly.slope5 k x y g).symm,rfl⟩
 ·go_enter Tryz.func101,Tryz.ntmps101
  go_wp2_with fail
  go_ret2
  exact ⟨qaa (Ly.slope6 k x y g).symm,rfl⟩
 ·go_enter Tryz.func101,Tryz.ntmps101
  go_wp2_with fail;refine (qaN g y _ Hg.out Hy.out).mono ?_;rintro e w1 ⟨rfl,rfl⟩;go_wp2_with fail;refine (qaN g x _ Hg.out Hx.out).mono ?_;rintro e w1 ⟨rfl,rfl⟩;go_wp2_with fail
  go_ret2
  exact ⟨qaa (Ly.slope7 k x y g).symm,rfl⟩
structure TenIn (w:Zp1) (S C:Option Addr) (c d:Nat) (t:Ten):Prop where
 r:TenR w S C t
 s1:t.s.length<=c
 s2:c<=9223372036854775807
 c1:t.c.length<=d
 c2:d<=9223372036854775807
 l1:t.s.length<=1048576
 l2:t.c.length<=1048576
 num:Ly.In t
theorem TenIn.below {B:Nat} {w w':Zp1} {S C:Option Addr} {c d:Nat} {t:Ten} (h:TenIn w S C c d t) (hb:Below B w w') (hB:w.heap.size<=B):TenIn w' S C c d t:={ h with r:=h.r.below hb hB }
theorem TenIn.later {w w':Zp1} {S C:Option Addr} {c d:Nat} {t:Ten} (h:TenIn w S C c d t) (hb:Later w w'):TenIn w' S C c d t:=h.below hb (lrZ _)
theorem TenIn.cell {w:Zp1} {S C:Option Addr} {c d:Nat} {t:Ten} (h:TenIn w S C c d t) {k:Nat} (hk:k<t.c.length):∃b off,C=some ⟨b,off,none⟩/\b<w.heap.size/\w.cell? ⟨b,off+k,none⟩=some (nQ iQ (Ly.at_ t.c k)):=h.r.2 k hk
def Tns (w:Zp1) (A:Option Addr) (ts:List Ten):Prop:=
 ∀j (hj:j<ts.length),∃b off S c C d,A=some ⟨b,off,none⟩/\b<w.heap.size/\w.cell? ⟨b,off+j*2,none⟩=some (sQ S ts[j].s.length c)/\w.cell? ⟨b,off+j*2+1,none⟩=some (sQ C ts[j].c.length d)/\TenIn w S C c d ts[j]
theorem Tns.below {B:Nat} {w w':Zp1} {A:Option Addr} {ts:List Ten} (h:Tns w A ts) (hb:Below B w w') (hB:w.heap.size<=B):Tns w' A ts:=λj hj=>by
 obtain ⟨b,off,S,c,C,d,e,hl,c0,c1,hT⟩:=h j hj;exact ⟨b,off,S,c,C,d,e,ltZ hl hb.size,(hb.cell (p:=⟨b,off+j*2,none⟩) (ltZ hl hB)).trans c0,(hb.cell (p:=⟨b,off+j*2+1,none⟩) (ltZ hl hB)).trans c1,hT.below hb hB⟩
theorem Tns.later {w w':Zp1} {A:Option Addr} {ts:List Ten} (h:Tns w A ts) (hb:Later w w'):Tns w' A ts:=h.below hb (lrZ _)
theorem qaj {l:List Ten} {k:Nat} (h:k<l.length):Ly.got l k=l[k]:=by unfold Ly.got;rw [gdZ,geZ h];rfl
theorem Tns.at_ {w:Zp1} {A:Option Addr} {ts:List Ten} (h:Tns w A ts) {j:Nat} (hj:j<ts.length):
  ∃b off S c C d,A=some ⟨b,off,none⟩/\b<w.heap.size/\w.cell? ⟨b,off+j*2,none⟩=some (sQ S (Ly.got ts j).s.length c)/\w.cell? ⟨b,off+j*2+1,none⟩=some (sQ C (Ly.got ts j).c.length d)/\TenIn w S C c d (Ly.got ts j):=by
 rw [qaj hj];exact h j hj
theorem Tns.first {w:Zp1} {A:Option Addr} {ts:List Ten} (h:Tns w A ts) (hj:0<ts.length):
  ∃b off S c C d,A=some ⟨b,off,none⟩/\b<w.heap.size/\w.cell? ⟨b,off,none⟩=some (sQ S (Ly.got ts 0).s.length c)/\w.cell? ⟨b,off+1,none⟩=some (sQ C (Ly.got ts 0).c.length d)/\TenIn w S C c d (Ly.got ts 0):=by
 obtain ⟨b,off,S,c,C,d,h1,h2,h3,h4,h5⟩:=h.at_ hj;exact ⟨b,off,S,c,C,d,h1,h2,by simpa using h3,by simpa using h4,h5⟩
def TenO (B:Nat) (w:Zp1) (v:Value) (t:Ten):Prop:=
 ∃S c C d,v=.agg #[sQ S t.s.length c,sQ C t.c.length d]/\TenIn w S C c d t/\(∀a,S=some a->B<=a.block)/\(∀a,C=some a->B<=a.block/\a.block<w.heap.size/\∀j,w.frozen? ⟨a.block,j,none⟩=false)
theorem TenO.later {B:Nat} {w w':Zp1} {v:Value} {t:Ten} (h:TenO B w v t) (hb:Later w w'):TenO B w' v t:=by
 obtain ⟨S,c,C,d,h1,h2,h3,h4⟩:=h;refine ⟨S,c,C,d,h1,h2.later hb,h3,λa e=>?_⟩;obtain ⟨k1,k2,k3⟩:=h4 a e;exact ⟨k1,ltZ k2 hb.size,λj=>(Below.frozen hb (p:=⟨a.block,j,none⟩) k2).trans (k3 j)⟩
theorem TenO.base {B B':Nat} {w:Zp1} {v:Value} {t:Ten} (h:TenO B w v t) (hB:B'<=B):TenO B' w v t:=by
 obtain ⟨S,c,C,d,h1,h2,h3,h4⟩:=h;exact ⟨S,c,C,d,h1,h2,λa e=>Zv hB (h3 a e),λa e=>⟨Zv hB (h4 a e).1,(h4 a e).2⟩⟩
theorem TenN.o {B:Nat} {w:Zp1} {v:Value} {t:Ten} (h:TenN B w v t) (h1:t.s.length<=1048576) (h2:t.c.length<=1048576) (hn:Ly.In t):TenO B w v t:=by
 obtain ⟨g,i,rfl,hg,hi,kg,ki⟩:=h;refine ⟨_,_,_,_,rfl,⟨⟨kg.ints,ki.ints⟩,lrZ _,by omega,lrZ _,by omega,h1,h2,hn⟩,λa e=>?_,λa e=>?_⟩
 ·injection e with e;subst e;exact hg
 ·injection e with e;subst e;exact ⟨hi,ki.lt,λj=>ki.frozen j⟩
theorem Blk.intsL {w:Zp1} {g:Nat} {t:TypeId} (l:List Int) (h:Blk w g t (l.map (Za1 iQ)).toArray):Ints iQ w (some ⟨g,0,none⟩) l:=Ints.of_row λj hj=>by
 rw [Zw,h.cell];simp [hj]
theorem qa0 {w:Zp1} {p q:Addr} {u v:Value} (h:w.cell? q=some v) (hne:q.block≠p.block):(w.setCell p u).cell? q=some v:=(Zi1 (Below.heap_setCell w p u q.block hne)).trans h
theorem qcx {w:Zp1} {p b:Nat} (hne:b≠p) (u u2:Value):((w.setCell ⟨p,0,none⟩ u).setCell ⟨p,1,none⟩ u2).heap[b]? = w.heap[b]?:=
 (Below.heap_setCell _ ⟨p,1,none⟩ u2 b hne).trans (Below.heap_setCell w ⟨p,0,none⟩ u b hne)
theorem Ints.box {w:Zp1} {A:Option Addr} {zs:List Int} {p:Nat} {T:TypeId} (h:Ints iQ w A zs) (hz:Blk w p T #[sQ none 0 0,sQ none 0 0]) (u u2:Value):Ints iQ ((w.setCell ⟨p,0,none⟩ u).setCell ⟨p,1,none⟩ u2) A zs:=λj hj=>by
 obtain ⟨b,off,e,hl,hc⟩:=h j hj
 have ha:b≠p:=by
  rintro rfl;rw [hz.cell] at hc
  match h:off+j with
  | 0=>rw [h] at hc;simp at hc
  | 1=>rw [h] at hc;simp at hc
  | n+2=>rw [h] at hc;simp at hc
 exact ⟨b,off,e,by simpa using hl,(Zi1 (qcx ha u u2)).trans hc⟩
theorem TenO.box {B:Nat} {w:Zp1} {v u u2:Value} {t:Ten} {p:Nat} {T:TypeId} (h:TenO B w v t) (hz:Blk w p T #[sQ none 0 0,sQ none 0 0]):TenO B ((w.setCell ⟨p,0,none⟩ u).setCell ⟨p,1,none⟩ u2) v t:=by
 obtain ⟨S,c,C,d,h1,h2,h3,h4⟩:=h;refine ⟨S,c,C,d,h1,{ h2 with r:=⟨h2.r.1.box hz u u2,h2.r.2.box hz u u2⟩ },h3,λa e=>?_⟩;obtain ⟨k1,k2,k3⟩:=h4 a e;exact ⟨k1,by simpa using k2,λj=>by rw [World.frozen?_setCell,World.frozen?_setCell];exact k3 j⟩
def GoP (r:Ten × Int) (w:Zp1) (e:Ending) (w':Zp1):Prop:=
 (r.2≠0/\e=.returned (.tuple #[.agg #[sQ none 0 0,sQ none 0 0],nQ iQ r.2])∨r.2=0/\∃v,e=.returned (.tuple #[v,nQ iQ 0])/\TenO w.heap.size w' v r.1)/\Below w.heap.size w w'
theorem GoP.fail {n:Int} {r:Ten × Int} {w w':Zp1} (hr:r=(Ly.none_,n)) (hn:n≠0) (hb:Below w.heap.size w w'):GoP r w (.returned (.tuple #[.agg #[sQ none 0 0,sQ none 0 0],nQ iQ n])) w':=by
 subst hr;exact ⟨.inl ⟨hn,rfl⟩,hb⟩
theorem GoP.fail2 {n:Int} {r:Ten × Int} {w w':Zp1} (hr:r.2=n) (hn:n≠0) (hb:Below w.heap.size w w'):GoP r w (.returned (.tuple #[.agg #[sQ none 0 0,sQ none 0 0],nQ iQ n])) w':=by
 subst hr;exact ⟨.inl ⟨hn,rfl⟩,hb⟩
theorem GoP.ok {t:Ten} {r:Ten × Int} {v:Value} {w w':Zp1} (hr:r=(t,0)) (hv:TenO w.heap.size w' v t) (hb:Below w.heap.size w w'):GoP r w (.returned (.tuple #[v,nQ iQ 0])) w':=by
 subst hr;exact ⟨.inr ⟨rfl,v,rfl,hv⟩,hb⟩
theorem GoP.from_ {r:Ten × Int} {w w1 w':Zp1} {e:Ending} (h:GoP r w1 e w') (hb:Below w.heap.size w w1):GoP r w e w':=by
 refine ⟨?_,hb.trans (h.2.mono hb.size)⟩;rcases h.1 with h1|⟨h1,v,h2,h3⟩
 ·exact .inl h1
 ·exact .inr ⟨h1,v,h2,h3.base hb.size⟩
namespace Ly
theorem tab_len (n:Nat) (f:Nat->Int):(tab n f).length=n:=by simp [tab]
theorem tab_get {n:Nat} {f:Nat->Int} {k:Nat} (hk:k<(tab n f).length):(tab n f)[k]=f k:=by simp [tab]
theorem tab_in {n:Nat} {f:Nat->Int} (h:∀i,i<n->Fx.In (f i)):∀z∈tab n f,Fx.In z:=λz hz=>by
 unfold tab at hz;obtain ⟨i,hi,rfl⟩:=List.mem_map.1 hz;exact h i (List.mem_range.1 hi)
theorem at_in {l:List Int} (h:∀z∈l,Fx.In z) (i:Nat):Fx.In (at_ l i):=by
 unfold at_;rw [gdZ];rcases Nat.lt_or_ge i l.length with hi|hi
 ·rw [geZ hi];exact h _ (gmZ hi)
 ·rw [Zi hi];exact Fx.in_zero
theorem at_get {l:List Int} {i:Nat} (hi:i<l.length):at_ l i=l[i]:=by unfold at_;rw [gdZ,geZ hi];rfl
theorem got_in {l:List Ten} (h:∀t∈l,In t) (i:Nat):In (got l i):=by
 unfold got;rw [gdZ];rcases Nat.lt_or_ge i l.length with hi|hi
 ·rw [geZ hi];exact h _ (gmZ hi)
 ·rw [Zi hi];intro z hz;simp [none_] at hz
theorem mid_step (C L:List Int) {k:Nat} (hk:k<C.length) (hn:C.length=L.length):(C.take k++L.drop k).set k C[k]=C.take (k+1)++L.drop (k+1):=by
 have h1:(C.take k).length=k:=by simp;omega
 rw [List.set_append_right _ _ oZ,h1,Nat.sub_self,Zd oZ,List.set_cons_zero,Zb hk,List.append_assoc]
 rfl
theorem mid_len (C L:List Int) (k:Nat) (hk:k<=C.length) (hn:C.length=L.length):(C.take k++L.drop k).length=C.length:=by simp;omega
theorem mid_end (C L:List Int) (k:Nat) (hk:k=C.length) (hn:C.length=L.length):C.take k++L.drop k=C:=by subst hk;rw [Zg,hn,List.drop_length,List.append_nil]
end Ly
theorem Tns.in_ {w:Zp1} {A:Option Addr} {ts:List Ten} (h:Tns w A ts):∀t∈ts,Ly.In t:=λt ht=>by
 obtain ⟨j,hj,rfl⟩:=List.getElem_of_mem ht;obtain ⟨b,off,S,c,C,d,h1,h2,h3,h4,h5⟩:=h j hj;exact h5.num
theorem Lau {w w1:Zp1} (h:Later w w1:=by with_reducible repeat (first|exact Later.refl _|apply Later.drew|apply Later.drewN|apply Later.alloc|refine Later.call ?_ (by assumption))):Later w w1:=h
theorem ga {α:Type} {xs:List α} {i:Nat} (h:i<xs.toArray.size):xs.toArray[i]=xs[i]:=List.getElem_toArray h
theorem gs {α:Type} (a:α) (al:List α) (i:Nat) (h:i+1<(a::al).length):(a::al)[i+1]=al[i]'(by simpa using h):=List.getElem_cons_succ ..
theorem gz {α:Type} (a:α) (al:List α) (h:0<(a::al).length):(a::al)[0]=a:=List.getElem_cons_zero ..
theorem sa {α:Type} (l:List α) (i:Nat) (a:α):l.toArray.setIfInBounds i a=(l.set i a).toArray:=List.setIfInBounds_toArray ..
theorem sz {α:Type} {x:α} {xs:List α} {a:α}:(x::xs).set 0 a=a::xs:=List.set_cons_zero
theorem ss {α:Type} {x:α} {xs:List α} {i:Nat} {a:α}:(x::xs).set (i+1) a=x::xs.set i a:=List.set_cons_succ
section
variable {P:Program} {ops:Array Oper} {Q:Exit->Act->Zp1->Prop} {md:Region.Mode} {S:Zp1->Prop} {fuel:Nat} {listed:Array Bool} {a:Act} {w:Zp1}
theorem tk (i:Nat) {oi:Oper} {v:Value} {a2:Act} (h:wpAnyH P md ops Q S fuel (listed.setIfInBounds i true) a2 w)
  (hi:ops[i]? = some oi:=by rfl) (hs:Region.noSelect ops=true:=by kernel_rfl) (hf:Region.free md ops listed i=true:=by kernel_rfl) (hr:(Region.ready md ops listed).contains i=true:=by kernel_rfl)
  (hg:Region.wanted oi (yielded ops a.tmps)=true:=by rfl)
  (hy:∀w,S w->(execOp a.eval oi).run P w=.ok (.value v) w:=by (simp only [List.getElem_toArray,List.getElem_cons_succ,List.getElem_cons_zero];intro w hb;(try dsimp only at hb);go_simp;first|done|with_reducible rfl))
  (hS:S w:=by assumption)
  (ha:a.put oi.dst v=a2:=by ((try simp only [List.getElem_toArray,List.getElem_cons_succ,List.getElem_cons_zero,Act.put,List.setIfInBounds_toArray,List.set_cons_zero,List.set_cons_succ])<;>rfl))
  (hQ:∀c a w,Q (.panic c) (a.put oi.dst v) w->Q (.panic c) a w:=by exact λ_ _ _ h=>h):wpAnyH P md ops Q S (fuel+1) listed a w:=
 wpAnyH_take hi hs hf hr hQ (.inl ⟨hg,hy⟩) hS (ha▸h)
theorem tn (i:Nat) {oi:Oper} {a2:Act} (h:wpAnyH P md ops Q S fuel (listed.setIfInBounds i true) a2 w)
  (hi:ops[i]? = some oi:=by rfl) (hs:Region.noSelect ops=true:=by kernel_rfl) (hf:Region.free md ops listed i=true:=by kernel_rfl) (hr:(Region.ready md ops listed).contains i=true:=by kernel_rfl)
  (hg:Region.wanted oi (yielded ops a.tmps)=false:=by rfl)
  (hS:S w:=by assumption)
  (ha:a.put oi.dst undef=a2:=by ((try simp only [List.getElem_toArray,List.getElem_cons_succ,List.getElem_cons_zero,Act.put,List.setIfInBounds_toArray,List.set_cons_zero,List.set_cons_succ])<;>rfl))
  (hQ:∀c a w,Q (.panic c) (a.put oi.dst undef) w->Q (.panic c) a w:=by exact λ_ _ _ h=>h):wpAnyH P md ops Q S (fuel+1) listed a w:=
 wpAnyH_take hi hs hf hr hQ (.inr ⟨hg,rfl⟩) hS (ha▸h)
theorem rd (i:Nat) {oi:Oper}
  (h:∀K':Act->Zp1->Prop,Shut (∀a w,S w->(S w->wpAnyH P md ops Q S fuel (listed.setIfInBounds i true) a w)->K' a w)->if Region.wanted oi (yielded ops a.tmps)=true then Oper.wp P oi a w K' Q else K' (a.put oi.dst undef) w)
  (hr:Region.ready md ops listed=[i]:=by kernel_rfl) (hi:ops[i]? = some oi:=by rfl):wpAnyH P md ops Q S (fuel+1) listed a w:=
 Zo1 hr sZ (Zf1 hi h Zg1)
end
theorem qgo {x:List Ten} (h:¬x.length<2) (i:Nat):Ly.second x i=Ly.at_ (Ly.got x 1).c i:=by unfold Ly.second;rw [inZ h]
theorem qbc (A:Option Addr) (c:Nat) (x:List Ten) (i:Nat) (w:Zp1) (hl:x.length<=1048576) (hT:Tns w A x) (hi:2<=x.length->i<(Ly.got x 1).c.length):
  Calls Tryz.prog 102 #[sQ A x.length c,nQ iQ i] w λe w'=>e=.returned (nQ iQ (Ly.second x i))/\w=w':=by
 by_cases h:x.length<2
 ·have E:=zI (show (0:Int)=Ly.second x i by unfold Ly.second;rw [ipZ h])
  go_enter Tryz.func102,Tryz.ntmps102;go_wp2_with fail;go_ret;exact ⟨qa3 E.out,rfl⟩
 ·obtain ⟨b,off,S,sc,C,d,rfl,hb,c0,c1,ha⟩:=hT.at_ (j:=1) oZ
  have hi:=hi oZ;have hd:=ha.l2;have he:=ha.c1;obtain ⟨b2,off2,rfl,-,hc⟩:=ha.cell hi;have E:=zI (qgo h i).symm;have k1:(i:Int)<((Ly.got x 1).c.length:Int):=by omega
  have k2:(0:Int)<=(i:Int):=by omega
  simp only [Nat.one_mul] at c0 c1;generalize (Ly.got x 1).c.length=m at *;generalize Ly.at_ (Ly.got x 1).c i=z at *;clear hT ha;go_enter Tryz.func102,Tryz.ntmps102;go_wp2_with fail;go_ret;exact ⟨qa3 E.out,rfl⟩
namespace Ly
def okTo (x:List Ten) (t:Ten):Bool:=Tn.right t&&decide (t.s=(got x 0).s)
theorem agree_op {kind:Int} {x:List Ten} (h:Od.ptIns kind=0):ptAgree kind x=21:=by unfold ptAgree;rw [ipZ h]
theorem agree_len {kind:Int} {x:List Ten} (h:Od.ptIns kind≠0) (h2:(x.length:Int)≠Od.ptIns kind):ptAgree kind x=20:=by unfold ptAgree;rw [inZ h,ipZ h2]
theorem agree_all {kind:Int} {x:List Ten} (h:Od.ptIns kind≠0) (h2:(x.length:Int)=Od.ptIns kind):ptAgree kind x=if x.all (okTo x) then 0 else 20:=by unfold ptAgree okTo;rw [inZ h,inZ (λk=>k h2)]
theorem ptIns_cases (k:Int):(Od.ptIns k=0)∨(Od.ptIns k=1/\1<=k/\k<=5)∨(Od.ptIns k=2/\6<=k/\k<=7):=by
 unfold Od.ptIns
 split
 ·right;left;omega
 ·split
  ·right;right;omega
  ·left;rfl
theorem agree_yes {kind:Int} {x:List Ten} (h:ptAgree kind x=0):1<=kind/\kind<=7/\(x.length:Int)=Od.ptIns kind/\1<=x.length/\x.length<=2/\∀t∈x,okTo x t=true:=by
 by_cases h1:Od.ptIns kind=0
 ·rw [agree_op h1] at h;omega
 by_cases h2:(x.length:Int)=Od.ptIns kind
 ·rw [agree_all h1 h2] at h
  by_cases h3:x.all (okTo x)=true
  ·have h4:=ptIns_cases kind
   exact ⟨by omega,by omega,h2,by omega,by omega,List.all_eq_true.1 h3⟩
  ·rw [inZ h3] at h;omega
 ·rw [agree_len h1 h2] at h;omega
theorem ok_right {x:List Ten} {t:Ten} (h:okTo x t=true):Tn.right t=true/\t.s=(got x 0).s:=by simpa [okTo] using h
end Ly
theorem qbz (kind:Int) (A:Option Addr) (f:Nat) (x:List Ten) (w:Zp1) (hl:x.length<=1048576) (hT:Tns w A x):
  Calls Tryz.prog 100 #[nQ iQ kind,sQ A x.length f] w λe w'=>e=.returned (nQ iQ (Ly.ptAgree kind x))/\Below w.heap.size w w':=by
 by_cases h1:Od.ptIns kind=0
 ·have E:=zI (Ly.agree_op (x:=x) h1).symm
  clear hT;go_enter Tryz.func100,Tryz.ntmps100;go_wp2_with fail;refine (qbJ kind _).mono ?_;rintro e w1 ⟨rfl,rfl⟩;rw [h1];clear h1;go_wp2_with fail;go_ret;exact ⟨qa3 E.out,Ze1 _ _⟩
 by_cases h2:(x.length:Int)=Od.ptIns kind
 case neg=>
  have E:=zI (Ly.agree_len h1 h2).symm;have d1:(Od.ptIns kind==0)=false:=by simpa using h1
  have d2:((x.length:Int)==Od.ptIns kind)=false:=by simpa using h2
  have d3:((x.length:Int) != Od.ptIns kind)=true:=by simpa using h2
  clear h1 h2 hT;go_enter Tryz.func100,Tryz.ntmps100;go_wp2_with fail;refine (qbJ kind _).mono ?_;rintro e w1 ⟨rfl,rfl⟩;generalize Od.ptIns kind=n at *;go_wp2_with fail;go_ret;exact ⟨qa3 E.out,Ze1 _ _⟩
 have HA:=zI (Ly.agree_all h1 h2)
 have hi:1<=x.length:=by
  have:=Ly.ptIns_cases kind;omega
 obtain ⟨b,off,S0,sc0,C0,cd0,rfl,hN,z0,z1,hm⟩:=hT.first hi
 have hz:=hm.r.1;have hK:=hm.l1;obtain ⟨H2,HT,hH,hI⟩:=zd4 h2 hT hz hm;clear hT hz hm;clear h1 h2 z1
 have d1:((x.length:Int)==0)=false:=by
                                                 have h3:(x.length:Int)≠0:=by omega
                                                 simpa using h3
 have k1:(0:Int)<(x.length:Int):=by omega
 have k2:0<x.length:=hi;go_enter Tryz.func100,Tryz.ntmps100;go_wp2_with fail;refine (qbJ kind _).mono ?_;rintro e w1 ⟨rfl,rfl⟩;rw [←H2.out];go_wp2_with fail;generalize hs0:(Ly.got x 0).s=s0 at *
 go_loopw [18] (λi wx=>∃k:Nat,k<=x.length/\i=nQ iQ (k:Int)/\(x.take k).all (Ly.okTo x)=true/\Later w wx) (λi _=>x.length-(intOf i).toNat)
 case atStart=>exact ⟨0,by omega,rfl,rfl,Later.refl _⟩
 case round=>
  obtain ⟨k,hk,rfl,ha,hd⟩:=hrel
  by_cases hn:k<x.length
  ·obtain ⟨b',off',S,sc,C,cd,e,-,y0,y1,ht⟩:=(HT.out.later hd).at_ hn
   injection e with e;injection e with e1 e2;subst e1 e2
   have y2:wr.cell? ⟨b,off,none⟩=some (sQ S0 s0.length sc0):=hd.cell z0;have hx:Ly.got x k=x[k]:=qaj hn;have ho:=qdn (p:=Ly.okTo x) hn ha;have hs:=qdZ (p:=Ly.okTo x) hn;have hA:Ly.okTo x x[k]=(Tn.right (Ly.got x k)&&((Ly.got x k).s==s0)):=by rw [←hx];unfold Ly.okTo;rw [hs0];congr 1;rw [Bool.eq_iff_iff];simp
   rw [hA] at ho hs;have hL:=ht.l1;have hJ:=ht.l2;have hF:=ht.r.1;have h2:Later wr (wr.alloc (.cells #[sQ S (Ly.got x k).s.length sc,sQ C (Ly.got x k).c.length cd] 30)):=(Later.refl wr).alloc _;have hB:=Blk.new wr 30 #[sQ S (Ly.got x k).s.length sc,sQ C (Ly.got x k).c.length cd];have hE:=hd.trans h2;have hM:=zI hs0;clear hx hs0 hA ha;generalize Ly.got x k=t at *;have hq:=zI h2;clear h2;obtain ⟨hC,Ht,hy,hD,hj,hG,hv⟩:=zd7 hd ht hF hB hE ho hs;clear hd ht hF hB hE ho hs;go_wp2_with fail;clear y0 y1;generalize wr.alloc (.cells #[sQ S t.s.length sc,sQ C t.c.length cd] 30)=w2 at *;have x0:w2.cell? ⟨wr.heap.size,0,none⟩=some (sQ S t.s.length sc):=by rw [hD.out.cell];rfl
   have x1:w2.cell? ⟨wr.heap.size,1,none⟩=some (sQ C t.c.length cd):=by rw [hD.out.cell];rfl
   have x2:w2.cell? ⟨b,off,none⟩=some (sQ S0 s0.length sc0):=hq.out.cell y2;clear y2;have hb:=λ(V:Zp1) (h:Later w2 V)=>qa5 S C sc cd t V oZ oZ (hy.out.below (hq.out.trans h) (lrZ _))
   cases hr:Tn.right t
   ·rw [hr] at hb
    have HN:=zI (hv.out (by rw [hr];rfl));clear hr;have hh:=zI hb;clear hb
    first
     | (go_region_with ((go_at_call 36;(with_reducible refine (hh.out _ (Lau:Later w2 _)).mono ?_);rintro e wa ⟨rfl,hw⟩)))
     | skip
    all_goals
     have hc:=hj.out.trans (Lau:Later w2 wa);have hg:=zI hc;clear hc;go_wp2_with fail;go_ret;exact ⟨qa3 (by rw [HA.out,HN.out];rfl),hg.out⟩
   ·have hf:=λ(V:Zp1) (h:Later w2 V)=>qac S S0 sc sc0 t.s s0 V oZ oZ (hy.out.below (hq.out.trans h) (lrZ _)) (hH.out.below (hj.out.trans h) (lrZ _))
    rw [hr] at hb;cases he:(t.s==s0)
    ·have HN:=zI (hv.out (by rw [hr,he];rfl))
     rw [he] at hf;clear hr he;obtain ⟨hh,hu⟩:=zd2 hb hf;clear hb hf
     go_region_held3 (λW=>W.cell? ⟨wr.heap.size,0,none⟩=some (sQ S t.s.length sc)/\W.cell? ⟨wr.heap.size,1,none⟩=some (sQ C t.c.length cd)/\W.cell? ⟨b,off,none⟩=some (sQ S0 s0.length sc0)) (first|(with_reducible exact ⟨x0,x1,x2⟩)|exact ⟨Later.cell (Lau:Later w2 _) x0,Later.cell (Lau:Later w2 _) x1,Later.cell (Lau:Later w2 _) x2⟩)
      (first
       | (go_at_call 36;(with_reducible refine (hh.out _ (Lau:Later w2 _)).mono ?_);rintro e wa ⟨rfl,hw⟩)
       | (go_at_call 69;(with_reducible refine (hu.out _ (Lau:Later w2 _)).mono ?_);rintro e wd ⟨rfl,qd,rfl⟩))
     all_goals
      have hc:=hj.out.trans (Lau:Later w2 (wa.drewN qd));have hg:=zI hc;clear hc;go_wp2_with fail;go_ret;exact ⟨qa3 (by rw [HA.out,HN.out];rfl),hg.out⟩
    ·have HN:=zI (hG.out (by rw [hr,he];rfl))
     rw [he] at hf;clear hr he;obtain ⟨hh,hu⟩:=zd2 hb hf;clear hb hf
     go_region_held3 (λW=>W.cell? ⟨wr.heap.size,0,none⟩=some (sQ S t.s.length sc)/\W.cell? ⟨wr.heap.size,1,none⟩=some (sQ C t.c.length cd)/\W.cell? ⟨b,off,none⟩=some (sQ S0 s0.length sc0)) (first|(with_reducible exact ⟨x0,x1,x2⟩)|exact ⟨Later.cell (Lau:Later w2 _) x0,Later.cell (Lau:Later w2 _) x1,Later.cell (Lau:Later w2 _) x2⟩)
      (first
       | (go_at_call 36;(with_reducible refine (hh.out _ (Lau:Later w2 _)).mono ?_);rintro e wa ⟨rfl,hw⟩)
       | (go_at_call 69;(with_reducible refine (hu.out _ (Lau:Later w2 _)).mono ?_);rintro e wd ⟨rfl,qd,rfl⟩))
     all_goals
      have hc:=hj.out.trans (Lau:Later w2 (wa.drewN qd));have hg:=zI hc;clear hc;go_wp2_with fail;go_roundw
      case rel=>exact ⟨k+1,by omega,by go_num,HN.out,hg.out⟩
      case measure=>simp [intOf];omega
  ·obtain rfl:k=x.length:=by omega
   rw [Zg] at ha;obtain ⟨hp,hC⟩:=zd2 ha hd;clear ha hd;go_wp2_with fail;go_ret;exact ⟨qa3 (by rw [HA.out,ipZ hp.out]),hC.out⟩
namespace Ly
theorem point_err {kind k:Int} {x:List Ten} (h:ptAgree kind x≠0):point kind k x=(none_,ptAgree kind x):=by unfold point;rw [inZ h]
theorem point_ok {kind k:Int} {x:List Ten} (h:ptAgree kind x=0):point kind k x=(⟨(got x 0).s,tab (got x 0).c.length λi=>cell kind k (at_ (got x 0).c i) (second x i)⟩,0):=by unfold point;rw [ipZ h]
theorem right_ok {t:Ten} (h:Tn.right t=true):t.s.length<=4/\t.c.length<=65536:=by have:=Tn.right_len h;omega
theorem same_len {a b:Ten} (ha:Tn.right a=true) (hb:Tn.right b=true) (h:a.s=b.s):a.c.length=b.c.length:=by
 simp [Tn.right] at ha hb;rw [h] at ha;omega
end Ly
theorem Blk.row_get {w:Zp1} {h:Nat} {t:TypeId} {l:List Int} {k:Nat} (hb:Blk w h t (l.map (Za1 iQ)).toArray) (hk:k<l.length):w.cell? ⟨h,k,none⟩=some (nQ iQ l[k]):=by
 rw [hb.cell,Zk,geZ (by simpa using hk)];simp
theorem point_go (kind k0:Int) (A:Option Addr) (f:Nat) (x:List Ten) (w:Zp1) (hl:x.length<=1048576) (hT:Tns w A x) (hk0:Fx.In k0):
  Calls Tryz.prog 77 #[nQ iQ kind,nQ iQ k0,sQ A x.length f] w (GoP (Ly.point kind k0 x) w):=by
 have HA:Later w (w.alloc (.cells #[sQ none 0 0,sQ none 0 0] 30)):=(Later.refl w).alloc _;have hz:=Blk.new w 30 #[sQ none 0 0,sQ none 0 0];obtain ⟨HT,h5,Hz,HM⟩:=zd4 hT HA hz hk0;clear hT HA hz hk0;go_enter Tryz.func77,Tryz.ntmps77;go_wp2_with fail;generalize w.alloc (.cells #[sQ none 0 0,sQ none 0 0] 30)=w1 at *;refine (qbz kind A f x w1 hl (HT.out.later h5.out)).mono ?_;rintro e w2 ⟨rfl,Hb⟩;have hE:=h5.out.call Hb;have hf:=(show Later w1 w2 from Hb).blk Hz.out;clear Hb Hz h5
 by_cases hg:Ly.ptAgree kind x=0
 case neg=>
  have HE:=zI (Ly.point_err (k:=k0) hg);have d1:(Ly.ptAgree kind x==0)=false:=by simpa using hg
  have d2:(Ly.ptAgree kind x != 0)=true:=by simpa using hg
  have Hg:=zI hg;clear hg;generalize Ly.ptAgree kind x=g at *;have c0:=hf.cell 0;have c1:=hf.cell 1;have f0:=hf.frozen 0;have f1:=hf.frozen 1;simp at c0 c1;obtain ⟨hX,hS⟩:=zd2 hE hf;clear hE hf;go_wp2_with fail;refine Zk1 (v:=.tuple #[.agg #[sQ none 0 0,sQ none 0 0],nQ iQ g]) (by simp [results,Tryz.results77,go_sem,c0,c1]) rfl ?_;exact GoP.fail HE.out Hg.out ((hX.out.set (p:=⟨w.heap.size,0,none⟩) (lrZ _) _).set (p:=⟨w.heap.size,1,none⟩) (lrZ _) _)
 have HE:=zI (Ly.point_ok (k:=k0) hg);obtain ⟨k1,k7,-,l1,l2,hq⟩:=Ly.agree_yes hg;rw [hg];obtain ⟨hW,-⟩:=Ly.ok_right (hq _ (by rw [qaj (show 0<x.length by omega)];exact gmZ _):Ly.okTo x (Ly.got x 0)=true)
 have hv:2<=x.length->(Ly.got x 1).c.length=(Ly.got x 0).c.length:=λh=>by
  obtain ⟨a,b⟩:=Ly.ok_right (hq _ (by rw [qaj (show 1<x.length by omega)];exact gmZ _):Ly.okTo x (Ly.got x 1)=true);exact Ly.same_len a hW b
 obtain ⟨Hc,Hg⟩:=zd2 hv hg;clear hg hq hv;obtain ⟨b,off,S,sc,C,cd,rfl,H2,z0,z1,ht⟩:=(HT.out.later hE).first oZ
 obtain ⟨r1,r2⟩:=Ly.right_ok hW;have Hk:=ht.r;have hr:=ht.num
 have hb:∀i,Fx.In (Ly.second x i):=λi=>by
  unfold Ly.second
  split
  ·exact Fx.in_zero
  ·exact Ly.at_in (Ly.got_in HT.out.in_ 1) i
 generalize hR:(Ly.tab (Ly.got x 0).c.length λi=>Ly.cell kind k0 (Ly.at_ (Ly.got x 0).c i) (Ly.second x i))=R at *;have HC:R.length=(Ly.got x 0).c.length:=by rw [←hR,Ly.tab_len]
 have Hr:∀i (hi:i<R.length),R[i]=Ly.cell kind k0 (Ly.at_ (Ly.got x 0).c i) (Ly.second x i):=λi hi=>by subst hR;exact Ly.tab_get hi
 have hO:∀z∈R,Fx.In z:=by rw [←hR];exact Ly.tab_in λi _=>Ly.cell_in (Ly.at_in hr i)
 clear hR;generalize ht0:Ly.got x 0=t at *;obtain ⟨HU,HW,hp⟩:=zd3 ht0 hW HC;clear ht0 hW HC;obtain ⟨y0,y1,hX,hS,Ht,Ha,h3,hn,HH⟩:=zd9 z0 z1 hE hf ht Hk hr hb Hr;have h9:=zI hO;clear hE hf ht Hk hr hb Hr hO;go_wp2_with fail;clear z0 z1;refine (qab S C sc cd t w2 oZ oZ Ha.out).mono ?_;rintro e w3 ⟨v,rfl,⟨g,h,rfl,hg,hh,hG,hH⟩,Hw⟩;have hQ:Later w2 w3:=Hw;have hN:Later w3 (w3.alloc (.cells #[sQ (some ⟨g,0,none⟩) t.s.length t.s.length,sQ (some ⟨h,0,none⟩) t.c.length t.c.length] 30)):=(Later.refl w3).alloc _;have ho:=Blk.new w3 30 #[sQ (some ⟨g,0,none⟩) t.s.length t.s.length,sQ (some ⟨h,0,none⟩) t.c.length t.c.length];have hI:=hQ.trans hN;have Hf:=hX.out.trans hI;have Hq:=hI.blk hS.out;have Hu:=hN.blk hG;have HF:=hN.blk hH;have HZ:=hX.out.size;have H4:=hQ.size;have H0:=hH.lt;have HX:=hG.lt;have H6:=hS.out.lt
 have hZ:g≠h:=by
  intro e;subst e;have h1:(Obj.cells (t.s.map (Za1 iQ)).toArray 3 (0,0))=_:=Option.some.inj (hG.symm.trans hH);injection h1 with _ h2 _
  exact absurd h2 dZ
 have z1:=hI.cell y1.out;clear Hw hS hG hH y0 y1;have Z1:=zI z1;clear z1;obtain ⟨HP,HK,Ho,Hi,HL,HR,HO,HN⟩:=zd8 hQ hN ho hI Hf Hq Hu HF;clear hQ hN ho hI Hf Hq Hu HF;go_upto_region 5 with fail;generalize w3.alloc (.cells #[sQ (some ⟨g,0,none⟩) t.s.length t.s.length,sQ (some ⟨h,0,none⟩) t.c.length t.c.length] 30)=w4 at *;generalize hpe:w3.heap.size=p at *;have HV:h<p:=by omega
 have HY:w.heap.size<p:=by omega
 have z1:=Z1.out;have H1:=zI (Ha.out.2.below Hi.out (lrZ _));clear Z1 HK HP hpe;go_wp2_with fail;clear z1;have Hp:Blk w4 h 42 ((R.take 0++t.c.drop 0).map (Za1 iQ)).toArray:=by simpa using HN.out
 have Hv:=zI Hp;clear Hp
 go_loopw [28] (λi wx=>∃k:Nat,k<=t.c.length/\i=nQ iQ (k:Int)/\Blk wx h 42 ((R.take k++t.c.drop k).map (Za1 iQ)).toArray/\Blk wx p 30 #[sQ (some ⟨g,0,none⟩) t.s.length t.s.length,sQ (some ⟨h,0,none⟩) t.c.length t.c.length]/\Blk wx w.heap.size 30 #[sQ none 0 0,sQ none 0 0]/\Blk wx g 3 (t.s.map (Za1 iQ)).toArray/\Later w wx/\Later w2 wx) (λi _=>t.c.length-(intOf i).toNat)
 case atStart=>exact ⟨0,Zt _,rfl,Hv.out,Ho.out,HR.out,HO.out,HL.out,Hi.out⟩
 case round=>
  obtain ⟨k,hk,rfl,hm,hj,hd,hK,hs,ha⟩:=hrel;clear Hv
  by_cases Hx:k<t.c.length
  ·obtain ⟨b2,off2,rfl,-,HJ⟩:=(Ha.out.2.below ha (lrZ _)) k Hx
   rw [show t.c.getD k 0=Ly.at_ t.c k from rfl] at HJ;have he:k<R.length:=by have:=hp.out;omega
   have hx:=Ly.mid_step R t.c he hp.out;have hL:=Ly.mid_len R t.c k oZ hp.out;have h4:=HH.out k he;have hM:=Ly.at_in h3.out k;have hJ:=hn.out k;have Hj:=HT.out.later hs;have hc:2<=x.length->k<(Ly.got x 1).c.length:=λh=>by rw [Hc.out h];exact Hx
   have Hh:=λ(V:Zp1) (hV:Later w V)=>qbc (some ⟨b,off,none⟩) f x k V hl (HT.out.later hV) hc
   have h6:=λ(V:Zp1)=>qft kind k0 (Ly.at_ t.c k) (Ly.second x k) V k1 k7 HM.out hM hJ
   rw [h4] at hx;rw [←h4] at h6 hx;have hF:∀(V:Zp1),Calls Tryz.prog 115 #[nQ iQ kind,nQ iQ k0,nQ iQ (Ly.at_ t.c k),nQ iQ (Ly.second x k)] V λe w'=>e=.returned (nQ iQ R[k])/\V=w':=h6
   generalize hy:R[k]=y at *;generalize Ly.at_ t.c k=xk at *;generalize Ly.second x k=sk at *;have o1:wr.cell? ⟨p,1,none⟩=some (sQ (some ⟨h,0,none⟩) t.c.length t.c.length):=by rw [hj.cell];rfl
   obtain ⟨u,hu⟩:∃u,wr.cell? ⟨h,k,none⟩=some u:=⟨_,hm.row_get (by rw [hL];exact he)⟩
   have fu:=hm.frozen k
   have Hl:Blk (wr.setCell ⟨h,k,none⟩ (nQ iQ y)) h 42 ((R.take (k+1)++t.c.drop (k+1)).map (Za1 iQ)).toArray:=by
    have:=hm.set_ k (nQ iQ y);rw [←hx,List.map_set];simpa using this
   have hP:=hj.far (p:=⟨h,k,none⟩) soZ (nQ iQ y);have hD:=hd.far (p:=⟨h,k,none⟩) soZ (nQ iQ y);have hA:Blk (wr.setCell ⟨h,k,none⟩ (nQ iQ y)) g 3 (t.s.map (Za1 iQ)).toArray:=hK.far (p:=⟨h,k,none⟩) hZ (nQ iQ y);have hw:=hs.set (p:=⟨h,k,none⟩) soZ (nQ iQ y);have hB:=ha.set (p:=⟨h,k,none⟩) hh (nQ iQ y);have kk1:(k:Int)<(t.c.length:Int):=by omega
   have kk2:(0:Int)<=(k:Int):=by omega
   clear hy hL h4 hM hJ he h6;obtain ⟨Hm,HI,HG,HB,HQ,hY,Hd,h8,He⟩:=zd9 hm hj hd hK Hl hP hD hA hw;obtain ⟨h0,H7,HS⟩:=zd3 hB hx Hh;have h7:=zI hF;obtain ⟨H3,Hn⟩:=zd2 Hj hc;have Hy:=zI ha;have hC:=zI hs;clear hm hj hd hK Hl hP hD hA hw hB hx Hh hF Hj hc ha hs;go_wp2_with fail
   go_region_law ((first
    | (go_simp;go_at_call 102;(with_reducible refine (HS.out _ (by first|exact hC.out|exact hC.out.drew|exact hC.out.drewN _)).mono ?_);rintro e wa ⟨rfl,rfl⟩)
    | (go_simp;go_at_call 115;(with_reducible refine (h7.out _).mono ?_);rintro e wb ⟨rfl,rfl⟩)))
   all_goals
    go_wp2_with fail;go_roundw
    case rel=>exact ⟨k+1,by omega,by go_num,HQ.out.drew,hY.out.drew,Hd.out.drew,h8.out.drew,He.out.drew,h0.out.drew⟩
    case measure=>simp [intOf];omega
  ·obtain rfl:k=t.c.length:=by omega
   rw [Ly.mid_end R t.c _ hp.out.symm hp.out] at hm;have o0:wr.cell? ⟨p,0,none⟩=some (sQ (some ⟨g,0,none⟩) t.s.length t.s.length):=by rw [hj.cell];rfl
   have o1:wr.cell? ⟨p,1,none⟩=some (sQ (some ⟨h,0,none⟩) t.c.length t.c.length):=by rw [hj.cell];rfl
   have c0:=hd.cell 0;have c1:=hd.cell 1;have f0:=hd.frozen 0;have f1:=hd.frozen 1;simp at c0 c1;have hU:=(hd.set_ 0 (sQ (some ⟨g,0,none⟩) t.s.length t.s.length)).set_ 1 (sQ (some ⟨h,0,none⟩) t.c.length t.c.length);have d0:=hU.cell 0;have d1:=hU.cell 1;simp at d0 d1;have HD:g≠w.heap.size:=by omega
   have Hs:h≠w.heap.size:=by omega
   obtain ⟨Hm,HI,HG,HB,hC,H5⟩:=zd6 hm hj hd hK hs hU;clear hm hj hd hK hs hU;go_wp2_with fail;refine Zk1 (v:=.tuple #[.agg #[sQ (some ⟨g,0,none⟩) t.s.length t.s.length,sQ (some ⟨h,0,none⟩) t.c.length t.c.length],nQ iQ 0]) (by simp [results,Tryz.results77,go_sem,d0,d1]) rfl ?_;refine GoP.ok HE.out (TenN.o ⟨g,h,by simp [hp.out],by omega,by omega,(HB.out.far (p:=⟨w.heap.size,0,none⟩) HD _).far (p:=⟨w.heap.size,1,none⟩) HD _,(Hm.out.far (p:=⟨w.heap.size,0,none⟩) Hs _).far (p:=⟨w.heap.size,1,none⟩) Hs _⟩ (by show t.s.length<=_;omega) (by have:=hp.out;show R.length<=_;omega) h9.out) ((hC.out.set (p:=⟨w.heap.size,0,none⟩) (lrZ _) _).set (p:=⟨w.heap.size,1,none⟩) (lrZ _) _)
namespace Ly
theorem alike_a {a b:Ten} (h:Tn.right a=false):alike a b=false:=by simp [alike,h]
theorem alike_b {a b:Ten} (h:Tn.right b=false):alike a b=false:=by simp [alike,h]
theorem alike_s {a b:Ten} (h:Tn.right a=true) (h2:Tn.right b=true):alike a b=(a.s==b.s):=by simp [alike,h,h2];rw [Bool.eq_iff_iff];simp
theorem alike_yes {a b:Ten} (h:alike a b=true):Tn.right a=true/\Tn.right b=true/\a.s=b.s:=by simpa [alike,and_assoc] using h
theorem add_err {a b:Ten} (h:alike a b=false):add a b=(none_,20):=by simp [add,h]
theorem add_ok {a b:Ten} (h:alike a b=true):add a b=(⟨a.s,tab a.c.length λi=>Fx.add (at_ a.c i) (at_ b.c i)⟩,0):=by simp [add,h]
end Ly
theorem qbd (w:Zp1) (t t':TypeId) (a b:Array Value):Blk ((w.alloc (.cells a t)).alloc (.cells b t')) w.heap.size t a/\Blk ((w.alloc (.cells a t)).alloc (.cells b t')) (w.heap.size+1) t' b/\Later w ((w.alloc (.cells a t)).alloc (.cells b t')):=by
 refine ⟨(Blk.new w t a).alloc _,?_,((Later.refl w).alloc _).alloc _⟩;have:=Blk.new (w.alloc (.cells a t)) t' b
 rwa [Zh1] at this
theorem qe0 (S C S' C':Option Addr) (c d c' d':Nat) (a b:Ten) (w:Zp1) (ha:TenIn w S C c d a) (hb:TenIn w S' C' c' d' b):
  Calls Tryz.prog 103 #[.agg #[sQ S a.s.length c,sQ C a.c.length d],.agg #[sQ S' b.s.length c',sQ C' b.c.length d']] w λe w'=>e=.returned (.bool (Ly.alike a b))/\Below w.heap.size w w':=by
 obtain ⟨hq,hn,hh⟩:=qbd w 30 30 #[sQ S a.s.length c,sQ C a.c.length d] #[sQ S' b.s.length c',sQ C' b.c.length d'];have la:=ha.l1;have lb:=hb.l1;have la2:=ha.l2;have lb2:=hb.l2;obtain ⟨hm,hj,hf,Ha,Hb⟩:=zd5 hq hn hh ha hb;clear hq hn hh ha hb;go_enter Tryz.func103,Tryz.ntmps103;go_wp2_with fail;generalize (w.alloc (.cells #[sQ S a.s.length c,sQ C a.c.length d] 30)).alloc (.cells #[sQ S' b.s.length c',sQ C' b.c.length d'] 30)=w2 at *;have x0:w2.cell? ⟨w.heap.size,0,none⟩=some (sQ S a.s.length c):=by rw [hm.out.cell];rfl
 have x1:w2.cell? ⟨w.heap.size,1,none⟩=some (sQ C a.c.length d):=by rw [hm.out.cell];rfl
 have x2:w2.cell? ⟨w.heap.size+1,0,none⟩=some (sQ S' b.s.length c'):=by rw [hj.out.cell];rfl
 have x3:w2.cell? ⟨w.heap.size+1,1,none⟩=some (sQ C' b.c.length d'):=by rw [hj.out.cell];rfl
 have hA:=(Ha.out.later hf.out)
 have hB:=(Hb.out.later hf.out)
 have ho:=λ(V:Zp1) (h:Later w2 V)=>qa5 S C c d a V oZ oZ (hA.later h).r.1
 have hk:=λ(V:Zp1) (h:Later w2 V)=>qa5 S' C' c' d' b V oZ oZ (hB.later h).r.1
 have hg:=λ(V:Zp1) (h:Later w2 V)=>qac S S' c c' a.s b.s V oZ oZ (hA.later h).r.1 (hB.later h).r.1
 clear hA hB;obtain ⟨hs,hu,hv⟩:=zd3 ho hk hg;clear ho hk hg;refine (hs.out w2 (Later.refl _)).mono ?_;rintro e w3 ⟨rfl,hp⟩;have hc:Later w2 w3:=hp;have y2:=hc.cell x2;have y0:=hc.cell x0;have y3:=hc.cell x3;clear x0 x1 x2 x3 hp;cases hr:Tn.right a
 ·have HE:=zI (Ly.alike_a (b:=b) hr)
  clear hr;have he:=zI hc;clear hc;go_wp2_with fail;go_ret;exact ⟨by rw [HE.out];rfl,hf.out.trans he.out⟩
 ·have hh:=hu.out w3 hc
  have hg:=hv.out;obtain ⟨he,Hq,ht⟩:=zd3 hc hh hg;clear hc hh hg;go_wp2_with fail;refine (Hq.out).mono ?_;rintro e w4 ⟨rfl,hl⟩;have hd:Later w3 w4:=hl;have z2:=hd.cell y2;have z0:=hd.cell y0;clear y0 y2 y3 hl;cases hr2:Tn.right b
  ·have HE:=zI (Ly.alike_b (a:=a) hr2)
   clear hr hr2;have hi:=zI hd;clear hd;go_wp2_with fail;go_ret;exact ⟨by rw [HE.out];rfl,(hf.out.trans he.out).trans hi.out⟩
  ·have HE:=zI (Ly.alike_s hr hr2)
   clear hr hr2;have hi:=zI hd;clear hd;go_wp2_with fail;refine (ht.out w4 (he.out.trans hi.out)).mono ?_;rintro e w5 ⟨rfl,q,rfl⟩;go_wp2_with fail;go_ret;exact ⟨by rw [HE.out];rfl,((hf.out.trans he.out).trans hi.out).drewN q⟩
namespace Ly
theorem mid_at (C L:List Int) {k:Nat} (hk:k<L.length) (hn:C.length=L.length):∃h:k<(C.take k++L.drop k).length,(C.take k++L.drop k)[k]=L[k]:=by
 have h1:(C.take k).length=k:=by simp;omega
 refine ⟨by simp;omega,?_⟩;rw [List.getElem_append_right oZ];simp [h1]
end Ly
theorem qav (w:Zp1) (t t' t2:TypeId) (a b z:Array Value):Blk (((w.alloc (.cells a t)).alloc (.cells b t')).alloc (.cells z t2)) w.heap.size t a/\Blk (((w.alloc (.cells a t)).alloc (.cells b t')).alloc (.cells z t2)) (w.heap.size+1) t' b/\Blk (((w.alloc (.cells a t)).alloc (.cells b t')).alloc (.cells z t2)) (w.heap.size+2) t2 z/\Later w (((w.alloc (.cells a t)).alloc (.cells b t')).alloc (.cells z t2)):=by
 obtain ⟨h1,h2,h3⟩:=qbd w t t' a b;refine ⟨h1.alloc _,h2.alloc _,?_,h3.alloc _⟩;have:=Blk.new ((w.alloc (.cells a t)).alloc (.cells b t')) t2 z
 rwa [Zh1,Zh1] at this
theorem qbp {w:Zp1} {g h:Nat} {s c:List Int} (hG:Blk w g 3 (s.map (Za1 iQ)).toArray) (hH:Blk w h 42 (c.map (Za1 iQ)).toArray):g≠h:=by
 intro e;subst e;have h1:(Obj.cells (s.map (Za1 iQ)).toArray 3 (0,0))=_:=Option.some.inj (hG.symm.trans hH);injection h1 with _ h2 _
 exact absurd h2 dZ
theorem qd1 (S C S' C':Option Addr) (c d c' d':Nat) (a b:Ten) (w:Zp1) (ha:TenIn w S C c d a) (hb:TenIn w S' C' c' d' b):
  Calls Tryz.prog 54 #[.agg #[sQ S a.s.length c,sQ C a.c.length d],.agg #[sQ S' b.s.length c',sQ C' b.c.length d']] w (GoP (Ly.add a b) w):=by
 obtain ⟨Hd,Hq,hz,Hf⟩:=qav w 30 30 30 #[sQ S a.s.length c,sQ C a.c.length d] #[sQ S' b.s.length c',sQ C' b.c.length d'] #[sQ none 0 0,sQ none 0 0];obtain ⟨Hk,Hg,Hz,hJ,Ha,Hb⟩:=zd6 Hd Hq hz Hf ha hb;clear Hd Hq hz Hf ha hb;go_enter Tryz.func54,Tryz.ntmps54;go_wp2_with fail;generalize ((w.alloc (.cells #[sQ S a.s.length c,sQ C a.c.length d] 30)).alloc (.cells #[sQ S' b.s.length c',sQ C' b.c.length d'] 30)).alloc (.cells #[sQ none 0 0,sQ none 0 0] 30)=w1 at *;refine (qe0 S C S' C' c d c' d' a b w1 (Ha.out.later hJ.out) (Hb.out.later hJ.out)).mono ?_;rintro e w2 ⟨rfl,h5⟩;have hE:Later w1 w2:=h5;have hK:=hJ.out.trans hE;have hf:=hE.blk Hz.out;have hp:=hE.blk Hk.out;have hc:=hE.blk Hg.out;clear h5 Hz hJ Hk Hg hE;cases hg:Ly.alike a b
 ·have HE:=zI (Ly.add_err hg)
  clear hg;have c0:=hf.cell 0;have c1:=hf.cell 1;have f0:=hf.frozen 0;have f1:=hf.frozen 1;simp at c0 c1;obtain ⟨hy,hL,HF⟩:=zd3 hK hf hp;have hP:=zI hc;clear hK hf hp hc;go_wp2_with fail;refine Zk1 (v:=.tuple #[.agg #[sQ none 0 0,sQ none 0 0],nQ iQ 20]) (by simp [results,Tryz.results54,go_sem,c0,c1]) rfl ?_;exact GoP.fail HE.out dZ ((hy.out.set (p:=⟨w.heap.size+2,0,none⟩) sZ _).set (p:=⟨w.heap.size+2,1,none⟩) sZ _)
 obtain ⟨hO,Hj,hs⟩:=Ly.alike_yes hg;have HE:=zI (Ly.add_ok hg);have he:b.c.length=a.c.length:=(Ly.same_len hO Hj hs).symm;obtain ⟨r1,r2⟩:=Ly.right_ok hO;generalize hR:(Ly.tab a.c.length λi=>Fx.add (Ly.at_ a.c i) (Ly.at_ b.c i))=R at *;have Hl:R.length=a.c.length:=by rw [←hR,Ly.tab_len]
 have h0:∀i (hi:i<R.length),R[i]=Fx.add (Ly.at_ a.c i) (Ly.at_ b.c i):=λi hi=>by subst hR;exact Ly.tab_get hi
 have hC:∀z∈R,Fx.In z:=by rw [←hR];exact Ly.tab_in λi _=>Fx.add_in _ _
 have x0:=hp.cell 0;have x1:=hp.cell 1;have x2:=hc.cell 0;have x3:=hc.cell 1;simp at x0 x1 x2 x3;obtain ⟨HL,hl⟩:=zd2 he Hl;have He:=Ha.out.num;have Hs:=Hb.out.num;clear hR hg hO Hj hs he Hl;obtain ⟨hy,hL,HF⟩:=zd3 hK hf hp;have hP:=zI hc;obtain ⟨Hy,hX,HJ,Hv⟩:=zd4 h0 hC He Hs;clear hK hf hp hc h0 hC He Hs;go_wp2_with fail;have X3:=zI x3;clear x0 x1 x2 x3;refine (qab S C c d a w2 oZ oZ (Ha.out.later hy.out).r).mono ?_;rintro e w3 ⟨v,rfl,⟨g,h,rfl,hg,hh,hG,hH⟩,Hc⟩;have hF:Later w2 w3:=Hc;have hx:Later w3 (w3.alloc (.cells #[sQ (some ⟨g,0,none⟩) a.s.length a.s.length,sQ (some ⟨h,0,none⟩) a.c.length a.c.length] 30)):=(Later.refl w3).alloc _;have ho:=Blk.new w3 30 #[sQ (some ⟨g,0,none⟩) a.s.length a.s.length,sQ (some ⟨h,0,none⟩) a.c.length a.c.length];have hr:=hF.trans hx;have h4:=hy.out.trans hr;have hZ:=hr.blk hL.out;have h3:=hx.blk hG;have h8:=hx.blk hH;have HP:=hy.out.size;have HK:=hF.size;have HR:=hH.lt;have HN:=hG.lt;have HV:=hL.out.lt;have hQ:=qbp hG hH;have x3:=hr.cell X3.out;clear Hc hL hG hH X3;have X3:=zI x3;clear x3;obtain ⟨Hu,HH,Ho,HS,HI,HB,Ht,HA⟩:=zd8 hF hx ho hr h4 hZ h3 h8;clear hF hx ho hr h4 hZ h3 h8;go_upto_region 4 with fail;generalize w3.alloc (.cells #[sQ (some ⟨g,0,none⟩) a.s.length a.s.length,sQ (some ⟨h,0,none⟩) a.c.length a.c.length] 30)=w4 at *;generalize hpe:w3.heap.size=p at *;have HM:h<p:=by omega
 have HO:w.heap.size+2<p:=by omega
 have x3:=X3.out;clear X3 HH Hu hpe;go_wp2_with fail;clear x3;have hY:Blk w4 h 42 ((R.take 0++a.c.drop 0).map (Za1 iQ)).toArray:=by simpa using HA.out
 have h7:=zI hY;clear hY
 go_loopw [19] (λi wx=>∃k:Nat,k<=b.c.length/\i=nQ iQ (k:Int)/\Blk wx h 42 ((R.take k++a.c.drop k).map (Za1 iQ)).toArray/\Blk wx p 30 #[sQ (some ⟨g,0,none⟩) a.s.length a.s.length,sQ (some ⟨h,0,none⟩) a.c.length a.c.length]/\Blk wx (w.heap.size+2) 30 #[sQ none 0 0,sQ none 0 0]/\Blk wx g 3 (a.s.map (Za1 iQ)).toArray/\Later w wx) (λi _=>b.c.length-(intOf i).toNat)
 case atStart=>exact ⟨0,Zt _,rfl,h7.out,Ho.out,HB.out,Ht.out,HI.out⟩
 case round=>
  obtain ⟨k,hk,rfl,hm,hj,hd,ht,hq⟩:=hrel;clear h7;have HT:b.c.length<=a.c.length:=Nat.le_of_eq HL.out
  by_cases HD:k<b.c.length
  ·obtain ⟨b2,off2,rfl,-,HU⟩:=(Hb.out.later hq).cell HD
   have hn:k<R.length:=by have:=hl.out;omega
   have hI:=Ly.mid_step R a.c hn hl.out;have he:=Ly.mid_len R a.c k oZ hl.out;obtain ⟨h9,h1⟩:=Ly.mid_at R a.c (k:=k) oZ hl.out;have hT:=hm.row_get h9;rw [h1,←Ly.at_get (show k<a.c.length by omega)] at hT;have Hh:=Hy.out k hn;have hv:=Ly.at_in HJ.out k;have hw:=Ly.at_in Hv.out k;have h6:=λ(V:Zp1)=>qb2 (Ly.at_ a.c k) (Ly.at_ b.c k) V hv hw
   rw [Hh] at hI;generalize Ly.at_ a.c k=xk at *;generalize Ly.at_ b.c k=yk at *;have o1:wr.cell? ⟨p,1,none⟩=some (sQ (some ⟨h,0,none⟩) a.c.length a.c.length):=by rw [hj.cell];rfl
   have fu:=hm.frozen k
   have Hn:Blk (wr.setCell ⟨h,k,none⟩ (nQ iQ (Fx.add xk yk))) h 42 ((R.take (k+1)++a.c.drop (k+1)).map (Za1 iQ)).toArray:=by
    have:=hm.set_ k (nQ iQ (Fx.add xk yk));rw [←hI,List.map_set];simpa using this
   have hD:=hj.far (p:=⟨h,k,none⟩) soZ (nQ iQ (Fx.add xk yk));have hB:=hd.far (p:=⟨h,k,none⟩) soZ (nQ iQ (Fx.add xk yk));have hA:Blk (wr.setCell ⟨h,k,none⟩ (nQ iQ (Fx.add xk yk))) g 3 (a.s.map (Za1 iQ)).toArray:=ht.far (p:=⟨h,k,none⟩) hQ (nQ iQ (Fx.add xk yk));have hu:=hq.set (p:=⟨h,k,none⟩) soZ (nQ iQ (Fx.add xk yk));have kk1:(k:Int)<(a.c.length:Int):=by omega
   have kk2:(0:Int)<=(k:Int):=by omega
   have kk3:(k:Int)<(b.c.length:Int):=by omega
   clear he Hh hv hw hn h9 h1;obtain ⟨Hm,HC,Hx,Hi,Hw,hN,hS,hU,hW⟩:=zd9 hm hj hd ht Hn hD hB hA hu;obtain ⟨HX,HG,Hp⟩:=zd3 hI h6 hq;clear hm hj hd ht Hn hD hB hA hu hI h6 hq;go_wp2_with fail
   go_region_law ((first
    | (go_simp;go_at_call 89;(with_reducible refine (HG.out _).mono ?_);rintro e wa ⟨rfl,rfl⟩)))
   all_goals
    go_wp2_with fail;go_roundw
    case rel=>exact ⟨k+1,by omega,by go_num,Hw.out.drew,hN.out.drew,hS.out.drew,hU.out.drew,hW.out.drew⟩
    case measure=>simp [intOf];omega
  ·have hV:k=a.c.length:=by have:=HL.out;omega
   rw [Ly.mid_end R a.c _ (by rw [hV];exact hl.out.symm) hl.out] at hm;obtain rfl:k=b.c.length:=by omega
   have HW:=zI hV;clear hV;have o0:wr.cell? ⟨p,0,none⟩=some (sQ (some ⟨g,0,none⟩) a.s.length a.s.length):=by rw [hj.cell];rfl
   have o1:wr.cell? ⟨p,1,none⟩=some (sQ (some ⟨h,0,none⟩) a.c.length a.c.length):=by rw [hj.cell];rfl
   have c0:=hd.cell 0;have c1:=hd.cell 1;have f0:=hd.frozen 0;have f1:=hd.frozen 1;simp at c0 c1;have hM:=(hd.set_ 0 (sQ (some ⟨g,0,none⟩) a.s.length a.s.length)).set_ 1 (sQ (some ⟨h,0,none⟩) a.c.length a.c.length);have d0:=hM.cell 0;have d1:=hM.cell 1;simp at d0 d1;have Hr:g≠w.heap.size+2:=by omega
   have h2:h≠w.heap.size+2:=by omega
   obtain ⟨Hm,HC,Hx,Hi,Hp,HQ⟩:=zd6 hm hj hd ht hq hM;clear hm hj hd ht hq hM;go_wp2_with fail;refine Zk1 (v:=.tuple #[.agg #[sQ (some ⟨g,0,none⟩) a.s.length a.s.length,sQ (some ⟨h,0,none⟩) a.c.length a.c.length],nQ iQ 0]) (by simp [results,Tryz.results54,go_sem,d0,d1]) rfl ?_;refine GoP.ok HE.out (TenN.o ⟨g,h,by simp [hl.out],by omega,by omega,(Hi.out.far (p:=⟨w.heap.size+2,0,none⟩) Hr _).far (p:=⟨w.heap.size+2,1,none⟩) Hr _,(Hm.out.far (p:=⟨w.heap.size+2,0,none⟩) h2 _).far (p:=⟨w.heap.size+2,1,none⟩) h2 _⟩ (by show a.s.length<=_;omega) (by have:=hl.out;show R.length<=_;omega) hX.out) ((Hp.out.set (p:=⟨w.heap.size+2,0,none⟩) sZ _).set (p:=⟨w.heap.size+2,1,none⟩) sZ _)
theorem qd2 (S C S' C':Option Addr) (c d c' d':Nat) (b x:Ten) (w:Zp1) (hb:TenIn w S C c d b) (hx:TenIn w S' C' c' d' x):
  Calls Tryz.prog 71 #[.agg #[sQ S b.s.length c,sQ C b.c.length d],.agg #[sQ S' x.s.length c',sQ C' x.c.length d']] w (GoP (Ly.add x b) w):=by
 obtain ⟨ht,hq,hz,hl⟩:=qav w 30 30 30 #[sQ S b.s.length c,sQ C b.c.length d] #[sQ S' x.s.length c',sQ C' x.c.length d'] #[sQ none 0 0,sQ none 0 0];obtain ⟨hG,hD,Hz,hg,Hb,Hx⟩:=zd6 ht hq hz hl hb hx;clear ht hq hz hl hb hx;go_enter Tryz.func71,Tryz.ntmps71;go_wp2_with fail;generalize ((w.alloc (.cells #[sQ S b.s.length c,sQ C b.c.length d] 30)).alloc (.cells #[sQ S' x.s.length c',sQ C' x.c.length d'] 30)).alloc (.cells #[sQ none 0 0,sQ none 0 0] 30)=w1 at *;refine (qd1 S' C' S C c' d' c d x b w1 (Hx.out.later hg.out) (Hb.out.later hg.out)).mono ?_;rintro e wf hf;have hd:Later w1 wf:=hf.2;have ha:=hd.blk Hz.out;have hi:=hg.out.trans hd;have f0:=ha.frozen 0;have f1:=ha.frozen 1;have hh:w.heap.size<=w.heap.size+2:=by first|exact lrZ _|simp|omega
 rcases hf.1 with ⟨hr,rfl⟩|⟨hm,v,rfl,he⟩
 ·have c0:=ha.cell 0
  have c1:=ha.cell 1;simp at c0 c1;have hc:=hr;generalize hge:(Ly.add x b).2=ge at *;obtain ⟨hu,hw⟩:=zd2 hge hc;clear hc;clear hf hr hd hge;obtain ⟨hp,hk⟩:=zd2 ha hi;clear ha hi;go_wp2_with fail;refine Zk1 (v:=.tuple #[.agg #[sQ none 0 0,sQ none 0 0],nQ iQ ge]) (by simp [results,Tryz.results71,go_sem,c0,c1]) rfl ?_;exact GoP.fail2 hu.out hw.out ((hk.out.set (p:=⟨w.heap.size+2,0,none⟩) hh _).set (p:=⟨w.heap.size+2,1,none⟩) hh _)
 ·have hB:=he.base (hg.out.size)
  clear hf he;obtain ⟨S2,c2,C2,d2,rfl,ho,hs,hn⟩:=hB;have hj:=(ha.set_ 0 (sQ S2 (Ly.add x b).1.s.length c2)).set_ 1 (sQ C2 (Ly.add x b).1.c.length d2);have d0:=hj.cell 0;have d1:=hj.cell 1;simp at d0 d1;have c0:=ha.cell 0;have c1:=ha.cell 1;simp at c0 c1;obtain ⟨hv,hE,hp,hk,hF,hC,hA,hy⟩:=zd8 hm hj ha hi hd ho hs hn;clear hj ha hi hd ho hs hn hm;go_wp2_with fail;refine Zk1 (v:=.tuple #[.agg #[sQ S2 (Ly.add x b).1.s.length c2,sQ C2 (Ly.add x b).1.c.length d2],nQ iQ 0]) (by simp [results,Tryz.results71,go_sem,d0,d1]) rfl ?_;exact ⟨.inr ⟨hv.out,_,rfl,TenO.box ⟨S2,c2,C2,d2,rfl,hC.out,hA.out,hy.out⟩ hp.out⟩,(hk.out.set (p:=⟨w.heap.size+2,0,none⟩) hh _).set (p:=⟨w.heap.size+2,1,none⟩) hh _⟩
namespace Pn
def tenIs (t:Ten) (s:List Int):Bool:=Tn.right t&&(t.s==s)
def parOk (ps:List Ten) (ss:List (List Int)) (k:Nat):Bool:=(List.range k).all λi=>tenIs (Ly.got ps i) (ss.getD i [])
def fits (n:NetD) (ps:List Ten) (x:Ten):Int:=
 if Nt.check n≠0 then Nt.check n else if ps.length≠(Nt.params n).length then 20 else if parOk ps (Nt.params n) (Nt.params n).length=false then 20 else if tenIs x n.inn then 0 else 20
theorem parOk_succ {ps:List Ten} {ss:List (List Int)} {k:Nat} (h:parOk ps ss k=true) (h2:tenIs (Ly.got ps k) (ss.getD k [])=true):parOk ps ss (k+1)=true:=by
 unfold parOk at h ⊢;rw [List.range_succ,List.all_append,h,List.all_cons,h2]
 rfl
theorem parOk_bad {ps:List Ten} {ss:List (List Int)} {k m:Nat} (hk:k<m) (h2:tenIs (Ly.got ps k) (ss.getD k [])=false):parOk ps ss m=false:=by
 unfold parOk;rw [List.all_eq_false];exact ⟨k,by simpa using hk,by rw [h2];simp⟩
end Pn
theorem qfu (A N P XS XC:Option Addr) (c d cp xc xd:Nat) (n:NetD) (ps:List Ten) (x:Ten) (w:Zp1) (hok:n.ok) (hR:NetR w A N n) (hd:n.nodes.length<=d) (hP:Tns w P ps) (lP:ps.length<=1048576) (hX:TenIn w XS XC xc xd x):
  Calls Tryz.prog 38 #[.agg #[sQ A n.inn.length c,sQ N n.nodes.length d],sQ P ps.length cp,.agg #[sQ XS x.s.length xc,sQ XC x.c.length xd]] w λe w'=>e=.returned (nQ iQ (Pn.fits n ps x))/\Below w.heap.size w w':=by
 have hY:=(Blk.new w 26 #[sQ A n.inn.length c,sQ N n.nodes.length d]).alloc (.cells #[sQ XS x.s.length xc,sQ XC x.c.length xd] 30);have hM:=Blk.new (w.alloc (.cells #[sQ A n.inn.length c,sQ N n.nodes.length d] 26)) 30 #[sQ XS x.s.length xc,sQ XC x.c.length xd];rw [Zh1] at hM;have h5:Later w ((w.alloc (.cells #[sQ A n.inn.length c,sQ N n.nodes.length d] 26)).alloc (.cells #[sQ XS x.s.length xc,sQ XC x.c.length xd] 30)):=((Later.refl w).alloc _).alloc _;have Hk:=hok.1;have lx1:=hX.l1;have lx2:=hX.l2;obtain ⟨hN,HR,HP,HX,hL,Hh,h6⟩:=zd7 hok hR hP hX hY hM h5;clear hok hR hP hX hY hM h5;go_enter Tryz.func38,Tryz.ntmps38;go_upto_region 1 with fail;generalize (w.alloc (.cells #[sQ A n.inn.length c,sQ N n.nodes.length d] 26)).alloc (.cells #[sQ XS x.s.length xc,sQ XC x.c.length xd] 30)=w1 at *;have a0:=hL.out.cell 0;have a1:=hL.out.cell 1;simp at a0 a1;go_wp2_with fail;refine (qgb A N c d n w1 hN.out (HR.out.below h6.out (lrZ _)) hd).mono ?_;rintro e w2 ⟨rfl,hZ⟩;have hm:Later w1 w2:=hZ;have hH:=h6.out.trans hm;have hn:=hm.blk hL.out;have hA:=hm.blk Hh.out;clear hZ a0 a1
 by_cases hc:Nt.check n=0
 case neg=>
  have HE:=zI (show Pn.fits n ps x=Nt.check n by unfold Pn.fits;rw [ipZ hc]);have d2:(Nt.check n != 0)=true:=by simpa using hc
  clear hc;generalize Nt.check n=ge at *;obtain ⟨Hg,hC,hQ,hS⟩:=zd4 hm hH hn hA;clear hm hH hn hA;go_wp2_with fail;go_ret;exact ⟨by (rw [HE.out]<;>rfl),hC.out⟩
 have he:=show Pn.fits n ps x=(if ps.length≠(Nt.params n).length then 20 else if Pn.parOk ps (Nt.params n) (Nt.params n).length=false then 20 else if Pn.tenIs x n.inn then 0 else 20) by unfold Pn.fits;rw [inZ oZ]
 rw [hc];clear hc;have a0:=hn.cell 0;have a1:=hn.cell 1;simp at a0 a1;obtain ⟨Hg,hC,hQ,hS,He⟩:=zd5 hm hH hn hA he;clear hm hH hn hA he;go_wp2_with fail;refine (qfp A N c d n w2 hN.out (HR.out.below hC.out (lrZ _))).mono ?_;rintro e w3 ⟨B,bc,rfl,hB,Ho,Hr,h1⟩;have ht:Later w2 w3:=h1;have hU:=hC.out.trans ht;have hV:=ht.blk hQ.out;have h0:=ht.blk hS.out
 have h3:∀s∈Nt.params n,s.length<=1048576:=λs hs=>by
  unfold Nt.params at hs;obtain ⟨v,hv,Hb⟩:=List.mem_flatMap.1 hs;exact (hN.out.2.2 v hv).2.2.2.2.1 s Hb
 clear h1 a0 a1;generalize Nt.params n=ss at *;obtain ⟨Hj,ho,h9,Hf,HB,Ha⟩:=zd6 ht hU hV h0 hB h3;clear ht hU hV h0 hB h3
 by_cases hl:ps.length=ss.length
 case neg=>
  have HE:=zI (He.out.trans (ipZ hl));have d2:((ps.length:Int) != (ss.length:Int))=true:=by simp;omega
  clear hl;go_wp2_with fail;go_ret;exact ⟨by (rw [HE.out]<;>rfl),ho.out⟩
 have h8:=He.out.trans (inZ oZ);have d2:((ps.length:Int) != (ss.length:Int))=false:=by simp;omega
 have Hs:ss.length<=1048576:=by omega
 have Hl:=zI hl;clear hl;have hK:=zI h8;clear h8;go_wp2_with fail;clear d2
 go_loopw [25] (λi wx=>∃k:Nat,k<=ss.length/\i=nQ iQ (k:Int)/\Pn.parOk ps ss k=true/\Later w3 wx) (λi _=>ss.length-(intOf i).toNat)
 case atStart=>exact ⟨0,Zt _,rfl,rfl,Later.refl _⟩
 case round=>
  obtain ⟨k,hk,rfl,hb,hh⟩:=hrel
  by_cases hw:k<ss.length
  ·obtain ⟨b,off,T,tc,rfl,-,Hd,hW,Hp,Hn⟩:=(HB.out.below hh (lrZ _)) k hw
   have hJ:k<ps.length:=by rw [Hl.out];exact hw
   obtain ⟨b',off',S',sc,C',cc,rfl,-,p0,p1,hT⟩:=(HP.out.later (ho.out.trans hh)).at_ hJ;have Hq:=Ha.out _ (gmZ hw);have h2:ss.getD k []=ss[k]:=by rw [gdZ,geZ hw];rfl
   have hj:=λh=>Pn.parOk_bad (ps:=ps) (ss:=ss) (m:=ss.length) hw h
   have ha:=λh=>Pn.parOk_succ hb h
   rw [h2] at hj ha;have t1:=hT.l1;have t2:=hT.l2;have kk1:(k:Int)<(ss.length:Int):=by omega
   have kk2:(k:Int)<(ps.length:Int):=by omega
   generalize ss[k]=s at *;generalize Ly.got ps k=t at *;have hx:=λ(V:Zp1) (h:Later wr V)=>qa5 S' C' sc cc t V oZ oZ (hT.later h).r.1
   have hy:=λ(V:Zp1) (h:Later wr V)=>qac S' T sc tc t.s s V oZ oZ (hT.later h).r.1 (hW.below h (lrZ _))
   obtain ⟨Hc,hF,hp,hu,hf,hi⟩:=zd6 hb hh hj ha hx hy;clear hb hh hj ha hx hy;clear hW hT h2;cases hr:Tn.right t
   ·have HE:=zI (hK.out.trans (ipZ (hp.out (by unfold Pn.tenIs;rw [hr];rfl))))
    rw [hr] at hf;go_wp2_with fail;refine (hf.out _ (Later.refl _)).mono ?_;rintro e w4 ⟨rfl,hg⟩;go_wp2_with fail;go_ret;exact ⟨by (rw [HE.out]<;>rfl),(ho.out.trans hF.out).call hg⟩
   ·rw [hr] at hf
    go_wp2_with fail;refine (hf.out _ (Later.refl _)).mono ?_;rintro e w4 ⟨rfl,hg⟩;have h4:Later wr w4:=hg;have p0':=h4.cell p0;have p1':=h4.cell p1;clear p0 p1 Hd hg;cases hq:(t.s==s)
    ·have HE:=zI (hK.out.trans (ipZ (hp.out (by unfold Pn.tenIs;rw [hr,hq];rfl))))
     rw [hq] at hi;have H4:=zI h4;clear h4;go_wp2_with fail;refine (hi.out _ H4.out).mono ?_;rintro e w5 ⟨rfl,q5,rfl⟩;go_wp2_with fail;go_ret;exact ⟨by (rw [HE.out]<;>rfl),((ho.out.trans hF.out).trans H4.out).drewN q5⟩
    ·have HN:=zI (hu.out (by unfold Pn.tenIs;rw [hr,hq];rfl))
     rw [hq] at hi;clear hq;have H4:=zI h4;clear h4;go_wp2_with fail;refine (hi.out _ H4.out).mono ?_;rintro e w5 ⟨rfl,q5,rfl⟩;go_wp2_with fail;go_roundw
     case rel=>exact ⟨k+1,by omega,by go_num,HN.out,(hF.out.trans H4.out).drewN q5⟩
     case measure=>simp [intOf];omega
  ·obtain rfl:k=ss.length:=by omega
   have h7:=hK.out.trans (inZ (by show ¬Pn.parOk ps ss ss.length=false;rw [hb];simp));have hG:=hh.blk h9.out;have hE:=hh.blk Hf.out;have a0:=hG.cell 0;have a1:=hG.cell 1;have b0:=hE.cell 0;have b1:=hE.cell 1;simp at a0 a1 b0 b1;have hD:=ho.out.trans hh;have hz:=HX.out.later hD;have hx:=qa5 XS XC xc xd x wr oZ oZ hz.r.1;have hy:=λ(V:Zp1) (h:Later wr V)=>qac XS A xc c x.s n.inn V oZ oZ (hz.later h).r.1 (HR.out.1.below (hD.trans h) (lrZ _))
   clear hb;obtain ⟨hF,hI,Ht,Hi,hO,Hm,hf,hi⟩:=zd8 hh h7 hG hE hD hz hx hy;clear hh h7 hG hE hD hz hx hy;cases hr:Tn.right x
   ·have HE:=zI (hI.out.trans (inZ (by unfold Pn.tenIs;rw [hr];simp)))
    rw [hr] at hf;go_wp2_with fail;refine (hf.out).mono ?_;rintro e w4 ⟨rfl,hg⟩;go_wp2_with fail;go_ret;exact ⟨by (rw [HE.out]<;>rfl),hO.out.call hg⟩
   ·rw [hr] at hf
    go_wp2_with fail;refine (hf.out).mono ?_;rintro e w4 ⟨rfl,hg⟩;have h4:Later wr w4:=hg;have a0':=h4.cell a0;have b0':=h4.cell b0;clear a0 a1 b0 b1 hg;cases hq:(x.s==n.inn)
    ·have HE:=zI (hI.out.trans (inZ (by unfold Pn.tenIs;rw [hr,hq];simp)))
     rw [hq] at hi;have H4:=zI h4;clear h4;go_wp2_with fail;refine (hi.out _ H4.out).mono ?_;rintro e w5 ⟨rfl,q5,rfl⟩;go_wp2_with fail;go_ret;exact ⟨by (rw [HE.out]<;>rfl),(hO.out.trans H4.out).drewN q5⟩
    ·have HE:=zI (hI.out.trans (ipZ (by unfold Pn.tenIs;rw [hr,hq];rfl)))
     rw [hq] at hi;clear hq;have H4:=zI h4;clear h4;go_wp2_with fail;refine (hi.out _ H4.out).mono ?_;rintro e w5 ⟨rfl,q5,rfl⟩;go_wp2_with fail;go_ret;exact ⟨by (rw [HE.out]<;>rfl),(hO.out.trans H4.out).drewN q5⟩
def RowT (w:Zp1) (vs:List Value) (ts:List Ten):Prop:=
 vs.length=ts.length*2/\∀j (hj:j<ts.length),∃S c C d,vs[j*2]? = some (sQ S ts[j].s.length c)/\vs[j*2+1]? = some (sQ C ts[j].c.length d)/\TenIn w S C c d ts[j]
theorem RowT.nil (w:Zp1):RowT w [] []:=⟨rfl,λj hj=>absurd hj sZ⟩
theorem RowT.one {w:Zp1} {S C:Option Addr} {c d:Nat} {t:Ten} (h:TenIn w S C c d t):RowT w [sQ S t.s.length c,sQ C t.c.length d] [t]:=by
 refine ⟨rfl,λj hj=>?_⟩;obtain rfl:j=0:=by simp at hj;omega
 exact ⟨S,c,C,d,rfl,rfl,h⟩
theorem RowT.below {w w':Zp1} {vs:List Value} {ts:List Ten} {B:Nat} (h:RowT w vs ts) (hb:Below B w w') (hB:w.heap.size<=B):RowT w' vs ts:=
 ⟨h.1,λj hj=>by obtain ⟨S,c,C,d,e1,e2,e3⟩:=h.2 j hj;exact ⟨S,c,C,d,e1,e2,e3.below hb hB⟩⟩
theorem RowT.append {w:Zp1} {vs us:List Value} {p x:List Ten} (h:RowT w vs p) (k:RowT w us x):RowT w (vs++us) (p++x):=by
 have hl:=h.1;refine ⟨by simp [h.1,k.1,Nat.add_mul],λj hj=>?_⟩
 by_cases e:j<p.length
 ·obtain ⟨S,c,C,d,e1,e2,e3⟩:=h.2 j e
  refine ⟨S,c,C,d,?_,?_,?_⟩
  ·rw [Zm oZ,e1];simp [e]
  ·rw [Zm oZ,e2];simp [e]
  ·simpa [e] using e3
 ·have ha:j-p.length<x.length:=by simp at hj;omega
  obtain ⟨S,c,C,d,e1,e2,e3⟩:=k.2 (j-p.length) ha;refine ⟨S,c,C,d,?_,?_,?_⟩
  ·rw [Zl oZ,show j*2-vs.length=(j-p.length)*2 by omega,e1,List.getElem_append_right oZ]
  ·rw [Zl oZ,show j*2+1-vs.length=(j-p.length)*2+1 by omega,e2,List.getElem_append_right oZ]
  ·rw [List.getElem_append_right oZ];exact e3
theorem RowT.cell {w:Zp1} {vs:List Value} {ts:List Ten} (h:RowT w vs ts):∀u∈vs,∃A n c,u=sQ A n c:=λu hu=>by
 obtain ⟨k,hk,rfl⟩:=List.getElem_of_mem hu;have hl:=h.1;obtain ⟨S,c,C,d,e1,e2,-⟩:=h.2 (k / 2) oZ;rcases Nat.mod_two_eq_zero_or_one k with e|e
 ·have ha:k / 2*2=k:=by omega
  rw [ha,geZ hk] at e1;injection e1 with e1
  exact ⟨_,_,_,e1⟩
 ·have ha:k / 2*2+1=k:=by omega
  rw [ha,geZ hk] at e2;injection e2 with e2
  exact ⟨_,_,_,e2⟩
def qaz (w:Zp1) (ad:Addr) (n:Nat):List Value:=(List.range n).map λj=>(w.cell? (ad.add j)).getD undef
theorem qbA {w:Zp1} {ad:Addr} {n j:Nat} (hj:j<n):(qaz w ad n)[j]? = some ((w.cell? (ad.add j)).getD undef):=by simp [qaz,hj]
theorem qaV (b off k:Nat):(⟨b,off,none⟩:Addr).add k=⟨b,off+k,none⟩:=by simp [Addr.add]
theorem Tns.rowT {w:Zp1} {ad:Addr} {ts:List Ten} (h:Tns w (some ad) ts):RowT w (qaz w ad (ts.length*2)) ts/\∀j u,(qaz w ad (ts.length*2))[j]? = some u->w.cell? (ad.add j)=some u:=by
 refine ⟨⟨by simp [qaz],λj hj=>?_⟩,λj u hu=>?_⟩
 ·obtain ⟨b,off,S,c,C,d,e,hl,c0,c1,hT⟩:=h j hj
  injection e with e
  subst e;refine ⟨S,c,C,d,?_,?_,hT⟩
  ·rw [qbA oZ,qaV,c0];rfl
  ·rw [qbA oZ,qaV,←Nat.add_assoc,c1];rfl
 ·have hj:j<ts.length*2:=by
   rcases Nat.lt_or_ge j (ts.length*2) with hk|hk
   ·exact hk
   ·rw [Zi (by simpa [qaz] using hk)] at hu;cases hu
  rw [qbA hj] at hu;obtain ⟨b,off,S,c,C,d,e,hl,c0,c1,hT⟩:=h (j / 2) oZ;injection e with e
  subst e;rw [qaV] at hu ⊢;rcases Nat.mod_two_eq_zero_or_one j with e|e
  ·rw [show j / 2*2=j by omega] at c0
   rw [c0] at hu ⊢;exact hu
  ·rw [Nat.add_assoc,show j / 2*2+1=j by omega] at c1
   rw [c1] at hu ⊢;exact hu
theorem Tns.nil (w:Zp1) (A:Option Addr):Tns w A []:=λj hj=>absurd hj sZ
theorem RowT.tns {w w':Zp1} {vs:List Value} {ts:List Ten} {B n:Nat} {t:TypeId} {v:Value} (h:RowT w vs ts) (hown:w'.ownsRow B t 2 v n vs) (hb:Below w.heap.size w w'):
  ∃A c,v=sQ A ts.length c/\n=ts.length/\Tns w' A ts/\ts.length<=c/\c<=9223372036854775807:=by
 have hn:n=ts.length:=by have:=hown.1;have:=h.1;omega
 subst hn;rcases hown.2 with ⟨rfl,h0⟩|⟨g,cap,cur,rfl,hB,hh,r1,r2,r3,r4⟩
 ·have:ts=[]:=List.eq_nil_of_length_eq_zero h0
  subst this;exact ⟨none,0,rfl,rfl,Tns.nil _ _,by simp,by omega⟩
 ·refine ⟨_,cap,rfl,rfl,λj hj=>?_,r1,by unfold maxLen at r2;omega⟩
  obtain ⟨S,c,C,d,e1,e2,e3⟩:=h.2 j hj;refine ⟨g,0,S,c,C,d,rfl,lt_of_block hh,?_,?_,e3.below hb (lrZ _)⟩
  ·rw [Zw,hown.cellAt (j*2) oZ]
   exact e1
  ·rw [Zw,hown.cellAt (j*2+1) oZ]
   exact e2
theorem qe1:(Tryz.prog.info? 30).map (λi=>(i.zero,i.size,i.bytes))=some (some (.agg #[sQ none 0 0,sQ none 0 0]),2,48):=by kernel_rfl
def TnsO (B:Nat) (w:Zp1) (A:Option Addr) (ts:List Ten):Prop:=
 (∀a,A=some a->∃b,a=⟨b,0,none⟩/\B<=b/\b<w.heap.size/\∀k,w.frozen? ⟨b,k,none⟩=false)/\
 ∀j (hj:j<ts.length),∃b S c C d,A=some ⟨b,0,none⟩/\w.cell? ⟨b,j*2,none⟩=some (sQ S ts[j].s.length c)/\w.cell? ⟨b,j*2+1,none⟩=some (sQ C ts[j].c.length d)/\TenO B w (.agg #[sQ S ts[j].s.length c,sQ C ts[j].c.length d]) ts[j]
def GoL (r:List Ten × Int) (w:Zp1) (e:Ending) (w':Zp1):Prop:=
 (r.2≠0/\e=.returned (.tuple #[sQ none 0 0,nQ iQ r.2])∨r.2=0/\∃A,e=.returned (.tuple #[sQ A r.1.length r.1.length,nQ iQ 0])/\TnsO w.heap.size w' A r.1)/\Below w.heap.size w w'
theorem GoL.fail {n:Int} {r:List Ten × Int} {w w':Zp1} (hr:r=([],n)) (hn:n≠0) (hb:Below w.heap.size w w'):GoL r w (.returned (.tuple #[sQ none 0 0,nQ iQ n])) w':=by
 subst hr;exact ⟨.inl ⟨hn,rfl⟩,hb⟩
theorem TnsO.tns {B:Nat} {w:Zp1} {A:Option Addr} {ts:List Ten} (h:TnsO B w A ts):Tns w A ts:=λj hj=>by
 obtain ⟨b,S,c,C,d,e,c0,c1,hO⟩:=h.2 j hj;obtain ⟨S',c',C',d',e',hT,-,-⟩:=hO;simp at e';obtain ⟨⟨rfl,rfl⟩,rfl,rfl⟩:=e';obtain ⟨b',e3,-,hb,-⟩:=h.1 _ e;injection e3 with e3 _ _
 subst e3;exact ⟨b,0,S,c,C,d,e,hb,by rw [Zw];exact c0,by rw [Zw];exact c1,hT⟩
theorem GoL.ok {ts:List Ten} {r:List Ten × Int} {A:Option Addr} {w w':Zp1} (hr:r=(ts,0)) (h:TnsO w.heap.size w' A ts) (hb:Below w.heap.size w w'):GoL r w (.returned (.tuple #[sQ A ts.length ts.length,nQ iQ 0])) w':=by
 subst hr;exact ⟨.inr ⟨rfl,A,rfl,h⟩,hb⟩
theorem qbB {B:Nat} {w:Zp1} {g h n:Nat} {s c:List Int} (hg:Blk w g 3 (s.map (Za1 iQ)).toArray) (hh:Blk w h 42 (c.map (Za1 iQ)).toArray) (b1:B<=g) (b2:B<=h) (l1:s.length<=1048576) (l2:c.length<=1048576) (hin:∀z∈c,Fx.In z) (hn:c.length=n):
  TenO B w (.agg #[sQ (some ⟨g,0,none⟩) s.length s.length,sQ (some ⟨h,0,none⟩) c.length n]) ⟨s,c⟩:=by
 subst hn;refine ⟨some ⟨g,0,none⟩,s.length,some ⟨h,0,none⟩,c.length,rfl,⟨⟨hg.intsL,hh.intsL⟩,lrZ _,by omega,lrZ _,by omega,l1,l2,hin⟩,λa e=>?_,λa e=>?_⟩
 ·injection e with e;subst e;exact b1
 ·injection e with e;subst e;exact ⟨b2,hh.lt,λj=>hh.frozen j⟩
theorem qgp {w:Zp1} {B e size n g:Nat} {xs:List Value} (h:w.ownsRow B e size (sQ (some ⟨g,0,none⟩) n n) n xs):Blk w g e xs.toArray:=by
 rcases h.2 with ⟨h1,_⟩|⟨g',cap,cur,e1,_,hh,_,_,hs,ht⟩
 ·cases h1
 ·injection e1 with e1 _ e2
  injection e1 with e1
  injection e1 with e1 _ _
  subst e1 e2;have:cur.toList=xs:=by rw [←ht,List.take_of_length_le soZ]
  rw [←this];exact hh
namespace Ly
theorem pointBack_err {kind k:Int} {g:Ten} {x:List Ten} (h:ptAgree kind x≠0):pointBack kind k g x=([],ptAgree kind x):=by unfold pointBack;rw [inZ h]
theorem pointBack_bad {kind k:Int} {g:Ten} {x:List Ten} (h:ptAgree kind x=0) (hg:(Tn.right g&&(g.s==(got x 0).s))=false):pointBack kind k g x=([],20):=by
 unfold pointBack;rw [ipZ h,inZ];intro hh;rw [Zz,decide_eq_true_eq] at hh;rw [hh.1,hh.2] at hg;simp at hg
theorem pointBack_ok1 {kind k:Int} {g:Ten} {x:List Ten} (h:ptAgree kind x=0) (hr:Tn.right g=true) (hs:g.s=(got x 0).s) (hn:x.length=1):
  pointBack kind k g x=([⟨(got x 0).s,tab (got x 0).c.length λi=>(slopes kind k x g i).1⟩],0):=by
 unfold pointBack;rw [ipZ h,ipZ (by rw [hr,hs];simp),ipZ oZ]
theorem pointBack_ok2 {kind k:Int} {g:Ten} {x:List Ten} (h:ptAgree kind x=0) (hr:Tn.right g=true) (hs:g.s=(got x 0).s) (hn:x.length=2):
  pointBack kind k g x=([⟨(got x 0).s,tab (got x 0).c.length λi=>(slopes kind k x g i).1⟩,⟨(got x 1).s,tab (got x 0).c.length λi=>(slopes kind k x g i).2⟩],0):=by
 unfold pointBack;rw [ipZ h,ipZ (by rw [hr,hs];simp),inZ oZ]
end Ly
theorem qeA (kind k0:Int) (A GS GC:Option Addr) (f gc gd:Nat) (g:Ten) (x:List Ten) (w:Zp1) (hn:x.length=1) (hT:Tns w A x) (hG:TenIn w GS GC gc gd g) (hk0:Fx.In k0):
  Calls Tryz.prog 53 #[nQ iQ kind,nQ iQ k0,.agg #[sQ GS g.s.length gc,sQ GC g.c.length gd],sQ A x.length f] w (GoL (Ly.pointBack kind k0 g x) w):=by
 have HI:Later w (w.alloc (.cells #[sQ GS g.s.length gc,sQ GC g.c.length gd] 30)):=(Later.refl w).alloc _;have hk:=Blk.new w 30 #[sQ GS g.s.length gc,sQ GC g.c.length gd];have gh:1<=x.length:=by omega
 have gi:x.length<=1:=by omega
 have H9:0<x.length:=by omega
 obtain ⟨HT,Hl,Hk,HY,HG,Hn⟩:=zd6 hT HI hk hk0 hG hn;clear hT HI hk hk0 hG hn;go_enter Tryz.func53,Tryz.ntmps53;go_wp2_with fail;generalize w.alloc (.cells #[sQ GS g.s.length gc,sQ GC g.c.length gd] 30)=w1 at *;refine (qbz kind A f x w1 oZ (HT.out.later Hl.out)).mono ?_;rintro e w2 ⟨rfl,Hs⟩;have hx:=Hl.out.call Hs;have hH:=(show Later w1 w2 from Hs).blk Hk.out;clear Hs Hk Hl
 by_cases hg:Ly.ptAgree kind x=0
 case neg=>
  have HE:=zI (Ly.pointBack_err (k:=k0) (g:=g) hg);have d1:(Ly.ptAgree kind x==0)=false:=by simpa using hg
  have d2:(Ly.ptAgree kind x != 0)=true:=by simpa using hg
  have Hg:=zI hg;clear hg;generalize Ly.ptAgree kind x=ge at *;obtain ⟨hF,Ho⟩:=zd2 hx hH;clear hx hH;go_wp2_with fail;refine Zk1 (v:=.tuple #[sQ none 0 0,nQ iQ ge]) (by simp [results,Tryz.results53,go_sem]) rfl ?_;exact GoL.fail HE.out Hg.out hF.out
 obtain ⟨k1,k7,-,l1,l2,h3⟩:=Ly.agree_yes hg;rw [hg];obtain ⟨HK,-⟩:=Ly.ok_right (h3 _ (by rw [qaj (show 0<x.length by omega)];exact gmZ _):Ly.okTo x (Ly.got x 0)=true);have h9:=zI hg;clear hg h3;obtain ⟨b,off,S,sc,C,cd,rfl,gj,z0,z1,ht⟩:=(HT.out.later hx).first oZ
 obtain ⟨r1,r2⟩:=Ly.right_ok HK;have u0:=hH.cell 0;have u1:=hH.cell 1;simp at u0 u1;have lg1:=HG.out.l1;have lg2:=HG.out.l2;have HJ:=λ(V:Zp1) (h:Later w2 V)=>qa5 GS GC gc gd g V oZ oZ (HG.out.later (hx.trans h)).r.1
 have HC:=λ(V:Zp1) (h:Later w2 V)=>qac GS S gc sc g.s (Ly.got x 0).s V oZ oZ (HG.out.later (hx.trans h)).r.1 (ht.later h).r.1
 have hE:(Tn.right g&&(g.s==(Ly.got x 0).s))=false->Ly.pointBack kind k0 g x=([],20):=Ly.pointBack_bad (h9.out);obtain ⟨hF,Ho,Ht,hD,hM,HE⟩:=zd6 hx hH ht HJ HC hE;clear hx hH ht HJ HC hE;cases hgr:Tn.right g
 ·have HE:=zI (HE.out (by rw [hgr];rfl))
  rw [hgr] at hD;clear HE;have HE:=zI (Ly.pointBack_bad (k:=k0) h9.out (by rw [hgr];rfl:(Tn.right g&&(g.s==(Ly.got x 0).s))=false));go_wp2_with fail;have KF:=zI (show ∀Xw,Later w2 Xw->Xw.cell? ⟨w.heap.size,0,none⟩=some (sQ GS g.s.length gc)/\Xw.cell? ⟨w.heap.size,1,none⟩=some (sQ GC g.c.length gd) from λXw h=>⟨h.cell u0,h.cell u1⟩);refine Zm1 ?_;refine Zl1 (S:=λXw=>Xw.cell? ⟨w.heap.size,0,none⟩=some (sQ GS g.s.length gc)/\Xw.cell? ⟨w.heap.size,1,none⟩=some (sQ GC g.c.length gd)) krZ (KF.out _ Lau) (λhHeld=>?_);refine tk 0 ?_;refine rd 1 λK hK=>?_
  simp only [ga,gs,gz]
  go_simp
  go_at_call 36;(with_reducible refine (hD.out _ (Lau:Later w2 _)).mono ?_);rintro e wa ⟨rfl,hQ⟩
  try go_wp2_with fail
  refine hK.out _ _ (KF.out _ Lau) (λhHeld=>?_);clear hK K
  try simp only [ga,gs,gz,Act.put,sa,sz,ss]
  refine tk 2 ?_;refine tk 3 ?_;refine tn 4 ?_;refine tn 5 ?_;refine tn 6 ?_;refine tn 7 ?_;refine tn 8 ?_;refine tn 9 ?_;refine rd 10 λK hK=>?_
  simp only [ga,gs,gz]
  go_simp
  refine hK.out _ _ (KF.out _ Lau) (λhHeld=>?_);clear hK K
  try simp only [ga,gs,gz,Act.put,sa,sz,ss]
  refine tn 11 ?_;refine tk 12 ?_;clear KF;refine Zn1 krZ ?_ _;refine Zd1 ?_;have hb:Later w2 wa:=(Lau:Later w2 wa)
  have hh:=hF.out.trans hb;clear hQ hHeld u0 u1 z0 z1;obtain ⟨HL,he⟩:=zd2 hb hh;clear hb hh;go_wp2_with fail;refine Zk1 (v:=.tuple #[sQ none 0 0,nQ iQ 20]) (by simp [results,Tryz.results53,go_sem]) rfl ?_;exact GoL.fail HE.out dZ he.out
 rw [hgr] at hD;cases hge:(g.s==(Ly.got x 0).s)
 ·rw [hge] at hM
  clear HE;have HE:=zI (Ly.pointBack_bad (k:=k0) h9.out (by rw [hge,Bool.and_false]:(Tn.right g&&(g.s==(Ly.got x 0).s))=false));go_wp2_with fail;have KF:=zI (show ∀Xw,Later w2 Xw->Xw.cell? ⟨w.heap.size,0,none⟩=some (sQ GS g.s.length gc)/\Xw.cell? ⟨w.heap.size,1,none⟩=some (sQ GC g.c.length gd)/\Xw.cell? ⟨b,off,none⟩=some (sQ S (Ly.got x 0).s.length sc) from λXw h=>⟨h.cell u0,h.cell u1,h.cell z0⟩);refine Zm1 ?_;refine Zl1 (S:=λXw=>Xw.cell? ⟨w.heap.size,0,none⟩=some (sQ GS g.s.length gc)/\Xw.cell? ⟨w.heap.size,1,none⟩=some (sQ GC g.c.length gd)/\Xw.cell? ⟨b,off,none⟩=some (sQ S (Ly.got x 0).s.length sc)) krZ (KF.out _ Lau) (λhHeld=>?_);refine tk 0 ?_;refine rd 1 λK hK=>?_
  simp only [ga,gs,gz]
  go_simp
  go_at_call 36;(with_reducible refine (hD.out _ (Lau:Later w2 _)).mono ?_);rintro e wa ⟨rfl,hQ⟩
  try go_wp2_with fail
  refine hK.out _ _ (KF.out _ Lau) (λhHeld=>?_);clear hK K
  try simp only [ga,gs,gz,Act.put,sa,sz,ss]
  refine tk 2 ?_;refine tk 3 ?_;refine tk 4 ?_;refine tk 5 ?_;refine tk 6 ?_;refine tk 7 ?_;refine tk 8 ?_;refine tk 9 ?_;refine rd 10 λK hK=>?_
  simp only [ga,gs,gz]
  go_simp
  go_at_call 69;(with_reducible refine (hM.out _ (Lau:Later w2 _)).mono ?_);rintro e wb ⟨rfl,nb,rfl⟩
  try go_wp2_with fail
  refine hK.out _ _ (KF.out _ Lau) (λhHeld=>?_);clear hK K
  try simp only [ga,gs,gz,Act.put,sa,sz,ss]
  refine tk 11 ?_;refine tk 12 ?_;clear KF;refine Zn1 krZ ?_ _;refine Zd1 ?_;have hb:Later w2 (wa.drewN nb):=(Lau:Later w2 (wa.drewN nb))
  have hh:=hF.out.trans hb;clear hQ hHeld u0 u1 z0 z1;obtain ⟨HL,he⟩:=zd2 hb hh;clear hb hh;go_wp2_with fail;refine Zk1 (v:=.tuple #[sQ none 0 0,nQ iQ 20]) (by simp [results,Tryz.results53,go_sem]) rfl ?_;exact GoL.fail HE.out dZ he.out
 rw [hge] at hM;have h8:g.s=(Ly.got x 0).s:=by simpa using hge
 have HN:=Ly.same_len hgr HK h8;clear HE;have HE:=zI (Ly.pointBack_ok1 (k:=k0) h9.out hgr h8 Hn.out);obtain ⟨gf,H6⟩:=zd2 h8 HN;clear h8 HN;clear hge;go_wp2_with fail;have KF:=zI (show ∀Xw,Later w2 Xw->Xw.cell? ⟨w.heap.size,0,none⟩=some (sQ GS g.s.length gc)/\Xw.cell? ⟨w.heap.size,1,none⟩=some (sQ GC g.c.length gd)/\Xw.cell? ⟨b,off,none⟩=some (sQ S (Ly.got x 0).s.length sc) from λXw h=>⟨h.cell u0,h.cell u1,h.cell z0⟩);refine Zm1 ?_;refine Zl1 (S:=λXw=>Xw.cell? ⟨w.heap.size,0,none⟩=some (sQ GS g.s.length gc)/\Xw.cell? ⟨w.heap.size,1,none⟩=some (sQ GC g.c.length gd)/\Xw.cell? ⟨b,off,none⟩=some (sQ S (Ly.got x 0).s.length sc)) krZ (KF.out _ Lau) (λhHeld=>?_);refine tk 0 ?_;refine rd 1 λK hK=>?_
 simp only [ga,gs,gz]
 go_simp
 go_at_call 36;(with_reducible refine (hD.out _ (Lau:Later w2 _)).mono ?_);rintro e wa ⟨rfl,hQ⟩
 try go_wp2_with fail
 refine hK.out _ _ (KF.out _ Lau) (λhHeld=>?_);clear hK K
 try simp only [ga,gs,gz,Act.put,sa,sz,ss]
 refine tk 2 ?_;refine tk 3 ?_;refine tk 4 ?_;refine tk 5 ?_;refine tk 6 ?_;refine tk 7 ?_;refine tk 8 ?_;refine tk 9 ?_;refine rd 10 λK hK=>?_
 simp only [ga,gs,gz]
 go_simp
 go_at_call 69;(with_reducible refine (hM.out _ (Lau:Later w2 _)).mono ?_);rintro e wb ⟨rfl,nb,rfl⟩
 try go_wp2_with fail
 refine hK.out _ _ (KF.out _ Lau) (λhHeld=>?_);clear hK K
 try simp only [ga,gs,gz,Act.put,sa,sz,ss]
 refine tk 11 ?_;refine tk 12 ?_;clear KF;refine Zn1 krZ ?_ _;refine Zd1 ?_;have hb:Later w2 (wa.drewN nb):=(Lau:Later w2 (wa.drewN nb))
 have hh:=hF.out.trans hb;have HF:=hb.blk Ho.out;have Hv:=Ht.out.later hb;have z0a:=hb.cell z0;have z1a:=hb.cell z1
 skip
 skip
 skip
 clear hQ hHeld u0 u1 z0 z1 Ht Ho hF hD hM;generalize wa.drewN nb=w3 at *;rw [Hn.out];have HB:∀i,Ly.slopes kind k0 x g i=Ly.slope kind k0 (Ly.at_ (Ly.got x 0).c i) (Ly.second x i) (Ly.at_ g.c i):=λ_=>rfl
 have h4:=Hv.num
 have hd:∀i,Fx.In (Ly.second x i):=λi=>by
  unfold Ly.second
  split
  ·exact Fx.in_zero
  ·exact Ly.at_in (Ly.got_in HT.out.in_ 1) i
 have He:2<=x.length->(Ly.got x 1).c.length=(Ly.got x 0).c.length:=λh=>by omega
 have hZ:(Ly.tab (Ly.got x 0).c.length λi=>(Ly.slopes kind k0 x g i).1).length=(Ly.got x 0).c.length:=by rw [Ly.tab_len]
 have h5:∀i (hi:i<(Ly.tab (Ly.got x 0).c.length λi=>(Ly.slopes kind k0 x g i).1).length),(Ly.tab (Ly.got x 0).c.length λi=>(Ly.slopes kind k0 x g i).1)[i]=(Ly.slopes kind k0 x g i).1:=λi hi=>Ly.tab_get hi
 have hp:∀z∈(Ly.tab (Ly.got x 0).c.length λi=>(Ly.slopes kind k0 x g i).1),Fx.In z:=Ly.tab_in λi _=>(Ly.slope_in (Ly.at_in HG.out.num i)).1
 generalize (Ly.tab (Ly.got x 0).c.length λi=>(Ly.slopes kind k0 x g i).1)=R0 at *;have hO:=zI (λ(k:Nat) (hk:k<(Ly.got x 0).c.length) (h2:2<=x.length)=>(show k<(Ly.got x 1).c.length by omega));clear He;generalize htq0:Ly.got x 0=t0 at *;have HX:=zI htq0;clear htq0;clear hHeld;obtain ⟨HW,Hi,hy,he,HV,HL,ha,Hx,hL⟩:=zd9 HB h4 hd hh HF hb hZ h5 hp;obtain ⟨HA,hN,hS⟩:=zd3 Hv z0a z1a;clear HB h4 hd hh HF hb hZ h5 hp Hv z0a z1a;obtain ⟨i0,hi,Hz,HP,HM⟩:=info_parts qe1;go_wp2_with (at_make;refine wpList_make_full _ rfl _ _ 27 rfl w.heap.size 30 i0 (.agg #[sQ none 0 0,sQ none 0 0]) 2 Tryz.underlying27 hi Hz HP _ _ _ _ 1 rfl rfl (by first|rfl|simp) (by first|rfl|simp) ?b2 ?b3 he.out.size ?_)
 case b2=>rw [HM];omega
 case b3=>unfold maxLen;omega
 intro v0 hown hgrow;clear hi Hz HP HM;have hq:Blk v0 w3.heap.size 30 #[sQ none 0 0,sQ none 0 0]:=by have h:=qgp hown;simpa [madeCells,List.range_succ] using h
 have HO:Later w3 v0:=(Ze1 _ w3).grown hgrow (lrZ _) sZ;have H2:=he.out.size;have gm:=HV.out.lt;clear hown hgrow;obtain ⟨hJ,Hd⟩:=zd2 hq HO;clear hq HO;go_wp2_with fail;refine wp_loop_rounds 2 ?_;rw [rounds_succ];have y0:=Hd.out.cell hN.out;have y1:=Hd.out.cell hS.out;go_wp2_with fail;have Ha:=Hd.out.alloc (.cells #[sQ S t0.s.length sc,sQ C t0.c.length cd] 30);have Hw:=(hJ.out).alloc (.cells #[sQ S t0.s.length sc,sQ C t0.c.length cd] 30);clear y0 y1;generalize v0.alloc (.cells #[sQ S t0.s.length sc,sQ C t0.c.length cd] 30)=vb at *;refine (qab S C sc cd t0 vb oZ oZ (HA.out.later Ha).r).mono ?_;rintro e vc ⟨v,rfl,⟨g0,h0,rfl,gg,gn,Hc,h7⟩,HU⟩;have hw:Later vb vc:=HU;have HS:=Ha.trans hw;have hA:=hw.blk Hw;have H4:=Hw.lt;have gb:=Ha.size;have H1:=Hc.lt;have H3:=h7.lt;have x0:=hA.cell 0;have x1:=hA.cell 1;have fr0:=hA.frozen 0;have fr1:=hA.frozen 1;simp at x0 x1
 have Hu:g0≠h0:=λe=>by
  subst e;have:=Hc.symm.trans h7;simp at this
 have H0:w3.heap.size<=g0:=by omega
 have Hp:w3.heap.size<=h0:=by omega
 have hI:g0≠w3.heap.size:=by omega
 have hz:h0≠w3.heap.size:=by omega
 have hl:Blk ((vc.setCell ⟨w3.heap.size,0,none⟩ (sQ (some ⟨g0,0,none⟩) t0.s.length t0.s.length)).setCell ⟨w3.heap.size,1,none⟩ (sQ (some ⟨h0,0,none⟩) t0.c.length t0.c.length)) w3.heap.size 30 #[sQ (some ⟨g0,0,none⟩) t0.s.length t0.s.length,sQ (some ⟨h0,0,none⟩) t0.c.length t0.c.length]:=by
  have:=(hA.set_ 0 (sQ (some ⟨g0,0,none⟩) t0.s.length t0.s.length)).set_ 1 (sQ (some ⟨h0,0,none⟩) t0.c.length t0.c.length);simpa using this
 have HQ:Later w3 ((vc.setCell ⟨w3.heap.size,0,none⟩ (sQ (some ⟨g0,0,none⟩) t0.s.length t0.s.length)).setCell ⟨w3.heap.size,1,none⟩ (sQ (some ⟨h0,0,none⟩) t0.c.length t0.c.length)):=(HS.set (p:=⟨w3.heap.size,0,none⟩) (lrZ _) _).set (p:=⟨w3.heap.size,1,none⟩) (lrZ _) _;have hY:=(Hc.far (p:=⟨w3.heap.size,0,none⟩) hI (sQ (some ⟨g0,0,none⟩) t0.s.length t0.s.length)).far (p:=⟨w3.heap.size,1,none⟩) hI (sQ (some ⟨h0,0,none⟩) t0.c.length t0.c.length);have h6:=(h7.far (p:=⟨w3.heap.size,0,none⟩) hz (sQ (some ⟨g0,0,none⟩) t0.s.length t0.s.length)).far (p:=⟨w3.heap.size,1,none⟩) hz (sQ (some ⟨h0,0,none⟩) t0.c.length t0.c.length);obtain ⟨hr,Hf,h1,hX⟩:=zd4 hl HQ hY h6;clear hl HQ hY h6;clear HU hw HS hA Hc h7 Ha Hw;go_wp2_with fail;generalize (vc.setCell ⟨w3.heap.size,0,none⟩ (sQ (some ⟨g0,0,none⟩) t0.s.length t0.s.length)).setCell ⟨w3.heap.size,1,none⟩ (sQ (some ⟨h0,0,none⟩) t0.c.length t0.c.length)=v1 at *;clear x0 x1 fr0 fr1;rw [rounds_succ];have y0:=Hf.out.cell hN.out;have y1:=Hf.out.cell hS.out;go_wp2_with fail;clear y0 y1;have HD:Blk v1 h0 42 ((R0.take 0++t0.c.drop 0).map (Za1 iQ)).toArray:=by simpa using hX.out
 have HH:=zI HD;clear HD
 go_loopw [58] (λi wx=>∃k:Nat,k<=t0.c.length/\i=nQ iQ (k:Int)/\Blk wx h0 42 ((R0.take k++t0.c.drop k).map (Za1 iQ)).toArray/\Blk wx g0 3 (t0.s.map (Za1 iQ)).toArray/\Blk wx w3.heap.size 30 #[sQ (some ⟨g0,0,none⟩) t0.s.length t0.s.length,sQ (some ⟨h0,0,none⟩) t0.c.length t0.c.length]/\Later w3 wx) (λi _=>t0.c.length-(intOf i).toNat)
 case atStart=>exact ⟨0,Zt _,rfl,HH.out,h1.out,hr.out,Hf.out⟩
 case round=>
  obtain ⟨k,hk,rfl,hs,hf,hC,ho⟩:=hrel;clear HH h1 hX hr
  by_cases Hb:k<t0.c.length
  ·obtain ⟨bc,oc,rfl,-,gl⟩:=(HA.out.later ho).cell Hb
   have Hr:k<g.c.length:=by rw [H6.out];exact Hb
   obtain ⟨bg,og,rfl,-,H8⟩:=(HG.out.later (he.out.trans ho)).cell Hr;have u1:wr.cell? ⟨w.heap.size,1,none⟩=some (sQ (some ⟨bg,og,none⟩) g.c.length gd):=by rw [(ho.blk HV.out).cell];rfl
   have hU:=Ly.at_in Hi.out k;have hR:=hy.out k;have hW:=Ly.at_in HG.out.num k;have Hh:=λ(V:Zp1) (hV:Later w V)=>qbc (some ⟨b,off,none⟩) f x k V oZ (HT.out.later hV) (hO.out k Hb)
   have Hj:=λ(V:Zp1)=>qcw kind k0 (Ly.at_ t0.c k) (Ly.second x k) (Ly.at_ g.c k) V k1 k7 HY.out hU hR hW
   rw [Hn.out] at Hh;rw [←HW.out k] at Hj;have rr1:=r1;have rr2:=r2;have hc:k<R0.length:=by rw [ha.out];exact Hb
   have hv:=Ly.mid_step R0 t0.c hc ha.out;have hm:=Ly.mid_len R0 t0.c k oZ ha.out;have hP:=Hx.out k hc;rw [hP] at hv;obtain ⟨p0,hp0⟩:∃u,wr.cell? ⟨h0,k,none⟩=some u:=⟨_,hs.row_get (by rw [hm];exact hc)⟩
   have fp0:=hs.frozen k;have q0:wr.cell? ⟨w3.heap.size,0,none⟩=some (sQ (some ⟨g0,0,none⟩) t0.s.length t0.s.length):=by rw [hC.cell];rfl
   have q1:wr.cell? ⟨w3.heap.size,1,none⟩=some (sQ (some ⟨h0,0,none⟩) t0.c.length t0.c.length):=by rw [hC.cell];rfl
   generalize Ly.slopes kind k0 x g k=sl at *;generalize Ly.at_ t0.c k=xk at *;generalize Ly.second x k=sk at *;generalize Ly.at_ g.c k=gk at *;have kk1:(k:Int)<(t0.c.length:Int):=by omega
   have kk3:(k:Int)<(g.c.length:Int):=by omega
   have kk2:(0:Int)<=(k:Int):=by omega
   skip
   clear hm hP hc hU hR hW;obtain ⟨Hy,hu,Hq,hB,Hm,H5,H7⟩:=zd7 hs hf hv hC ho Hh Hj;clear hs hf hv hC ho Hh Hj;go_wp2_with fail;have KF:=zI (show ∀Xw,Later wr Xw->Xw.cell? ⟨w.heap.size,1,none⟩=some (sQ (some ⟨bg,og,none⟩) g.c.length gd)/\Xw.cell? ⟨bg,og+k,none⟩=some (nQ iQ gk) from λXw h=>⟨h.cell u1,h.cell H8⟩);refine Zm1 ?_;refine Zl1 (S:=λXw=>Xw.cell? ⟨w.heap.size,1,none⟩=some (sQ (some ⟨bg,og,none⟩) g.c.length gd)/\Xw.cell? ⟨bg,og+k,none⟩=some (nQ iQ gk)) krZ (KF.out _ Lau) (λhHeld=>?_);refine tk 0 ?_;refine tk 1 ?_;refine tk 2 ?_;refine tk 3 ?_;refine tk 4 ?_;refine tk 6 ?_;refine tk 7 ?_;refine tk 8 ?_;refine tk 9 ?_;refine tk 10 ?_;refine rd 5 λK hK=>?_
   simp only [ga,gs,gz]
   go_simp
   go_at_call 102;(with_reducible refine (H5.out _ (he.out.trans (Hm.out.trans (Lau:Later wr _)))).mono ?_);rintro e wa ⟨rfl,rfl⟩
   try go_wp2_with fail
   refine hK.out _ _ (KF.out _ Lau) (λhHeld=>?_);clear hK K
   try simp only [ga,gs,gz,Act.put,sa,sz,ss]
   refine rd 11 λK hK=>?_
   simp only [ga,gs,gz]
   go_simp
   go_at_call 101;(with_reducible refine (H7.out _).mono ?_);rintro e wb ⟨rfl,rfl⟩
   try go_wp2_with fail
   refine hK.out _ _ (KF.out _ Lau) (λhHeld=>?_);clear hK K
   try simp only [ga,gs,gz,Act.put,sa,sz,ss]
   refine tk 12 ?_;refine tk 13 ?_;refine tk 14 ?_;refine tk 15 ?_;refine tk 16 ?_;clear KF;refine Zn1 krZ ?_ _;refine Zd1 ?_;clear hHeld;go_wp2_with fail;have k1:=Hy.out.set_ k (nQ iQ sl.1)
   have m0:Blk (wr.setCell ⟨h0,k,none⟩ (nQ iQ sl.1)) h0 42 ((R0.take (k+1)++t0.c.drop (k+1)).map (Za1 iQ)).toArray:=by
    rw [←Hq.out,List.map_set];simpa using k1
   have m1:=hu.out.far (p:=⟨h0,k,none⟩) Hu (nQ iQ sl.1);have m2:=hB.out.far (p:=⟨h0,k,none⟩) hz.symm (nQ iQ sl.1);have m3:=Hm.out.set (p:=⟨h0,k,none⟩) Hp (nQ iQ sl.1);go_roundw
   case rel=>exact ⟨k+1,by omega,by go_num,m0.drew,m1.drew,m2.drew,m3.drew⟩
   case measure=>simp [intOf];omega
  ·obtain rfl:k=t0.c.length:=by omega
   rw [Ly.mid_end R0 t0.c _ ha.out.symm ha.out] at hs;have HR:=he.out.trans ho;obtain ⟨Hy,hu,hB,Hm,HZ⟩:=zd5 hs hf hC ho HR;clear hs hf hC ho HR;go_wp2_with fail;refine Zk1 (v:=.tuple #[sQ (some ⟨w3.heap.size,0,none⟩) 1 1,nQ iQ 0]) (by simp [results,Tryz.results53,go_sem]) rfl ?_;refine GoL.ok (A:=some ⟨w3.heap.size,0,none⟩) HE.out ⟨λa e=>?_,λj hj=>?_⟩ HZ.out
   ·injection e with e
    subst e;exact ⟨_,rfl,H2,hB.out.lt,λk=>hB.out.frozen k⟩
   ·obtain rfl:j=0:=by simp at hj;omega
    refine ⟨w3.heap.size,some ⟨g0,0,none⟩,t0.s.length,some ⟨h0,0,none⟩,t0.c.length,rfl,by rw [hB.out.cell];rfl,by rw [hB.out.cell];simp [ha.out],?_⟩
    show TenO w.heap.size wr (.agg #[sQ (some ⟨g0,0,none⟩) t0.s.length t0.s.length,sQ (some ⟨h0,0,none⟩) R0.length t0.c.length]) ⟨t0.s,R0⟩
    exact qbB hu.out Hy.out oZ oZ oZ (by rw [ha.out];omega) hL.out (by rw [ha.out])
theorem qeB (kind k0:Int) (A GS GC:Option Addr) (f gc gd:Nat) (g:Ten) (x:List Ten) (w:Zp1) (hn:x.length=2) (hT:Tns w A x) (hG:TenIn w GS GC gc gd g) (hk0:Fx.In k0):
  Calls Tryz.prog 53 #[nQ iQ kind,nQ iQ k0,.agg #[sQ GS g.s.length gc,sQ GC g.c.length gd],sQ A x.length f] w (GoL (Ly.pointBack kind k0 g x) w):=by
 have gI:Later w (w.alloc (.cells #[sQ GS g.s.length gc,sQ GC g.c.length gd] 30)):=(Later.refl w).alloc _;have hk:=Blk.new w 30 #[sQ GS g.s.length gc,sQ GC g.c.length gd];have Gf:2<=x.length:=by omega
 have Gg:x.length<=2:=by omega
 have Gb:0<x.length:=by omega
 obtain ⟨HT,H2,Hk,gW,HG,Hn⟩:=zd6 hT gI hk hk0 hG hn;clear hT gI hk hk0 hG hn;go_enter Tryz.func53,Tryz.ntmps53;go_wp2_with fail;generalize w.alloc (.cells #[sQ GS g.s.length gc,sQ GC g.c.length gd] 30)=w1 at *;refine (qbz kind A f x w1 oZ (HT.out.later H2.out)).mono ?_;rintro e w2 ⟨rfl,gj⟩;have hC:=H2.out.call gj;have h3:=(show Later w1 w2 from gj).blk Hk.out;clear gj Hk H2
 by_cases hg:Ly.ptAgree kind x=0
 case neg=>
  have HE:=zI (Ly.pointBack_err (k:=k0) (g:=g) hg);have d1:(Ly.ptAgree kind x==0)=false:=by simpa using hg
  have d2:(Ly.ptAgree kind x != 0)=true:=by simpa using hg
  have Hg:=zI hg;clear hg;generalize Ly.ptAgree kind x=ge at *;obtain ⟨hZ,H9⟩:=zd2 hC h3;clear hC h3;go_wp2_with fail;refine Zk1 (v:=.tuple #[sQ none 0 0,nQ iQ ge]) (by simp [results,Tryz.results53,go_sem]) rfl ?_;exact GoL.fail HE.out Hg.out hZ.out
 obtain ⟨k1,k7,-,l1,l2,hX⟩:=Ly.agree_yes hg;rw [hg];obtain ⟨gq,-⟩:=Ly.ok_right (hX _ (by rw [qaj (show 0<x.length by omega)];exact gmZ _):Ly.okTo x (Ly.got x 0)=true);obtain ⟨HZ,gA⟩:=Ly.ok_right (hX _ (by rw [qaj (show 1<x.length by omega)];exact gmZ _):Ly.okTo x (Ly.got x 1)=true);have HP:=zI (Ly.same_len HZ gq gA);clear gA;have HO:=zI hg;clear hg hX;obtain ⟨b,off,S,sc,C,cd,rfl,Gh,z0,z1,ht⟩:=(HT.out.later hC).first oZ
 obtain ⟨r1,r2⟩:=Ly.right_ok gq;have u0:=h3.cell 0;have u1:=h3.cell 1;simp at u0 u1;have lg1:=HG.out.l1;have lg2:=HG.out.l2;obtain ⟨b',off',S1,sc1,C1,cd1,e1,-,z2,z3,gv⟩:=(HT.out.later hC).at_ (j:=1) oZ;injection e1 with e1;injection e1 with e1 e2;subst e1 e2
 have z2:w2.cell? ⟨b,off+2,none⟩=some (sQ S1 (Ly.got x 1).s.length sc1):=by simpa using z2
 have z3:w2.cell? ⟨b,off+3,none⟩=some (sQ C1 (Ly.got x 1).c.length cd1):=by simpa using z3
 have lx1:=(Ly.right_ok HZ).1;have lx2:=(Ly.right_ok HZ).2;have gJ:=λ(V:Zp1) (h:Later w2 V)=>qa5 GS GC gc gd g V oZ oZ (HG.out.later (hC.trans h)).r.1
 have gD:=λ(V:Zp1) (h:Later w2 V)=>qac GS S gc sc g.s (Ly.got x 0).s V oZ oZ (HG.out.later (hC.trans h)).r.1 (ht.later h).r.1
 have hE:(Tn.right g&&(g.s==(Ly.got x 0).s))=false->Ly.pointBack kind k0 g x=([],20):=Ly.pointBack_bad (HO.out);obtain ⟨hZ,H9,Ht,hY,Hi,HE⟩:=zd6 hC h3 ht gJ gD hE;clear hC h3 ht gJ gD hE;cases hgr:Tn.right g
 ·have HE:=zI (HE.out (by rw [hgr];rfl))
  rw [hgr] at hY;clear HE;have HE:=zI (Ly.pointBack_bad (k:=k0) HO.out (by rw [hgr];rfl:(Tn.right g&&(g.s==(Ly.got x 0).s))=false));go_wp2_with fail;have KF:=zI (show ∀Xw,Later w2 Xw->Xw.cell? ⟨w.heap.size,0,none⟩=some (sQ GS g.s.length gc)/\Xw.cell? ⟨w.heap.size,1,none⟩=some (sQ GC g.c.length gd) from λXw h=>⟨h.cell u0,h.cell u1⟩);refine Zm1 ?_;refine Zl1 (S:=λXw=>Xw.cell? ⟨w.heap.size,0,none⟩=some (sQ GS g.s.length gc)/\Xw.cell? ⟨w.heap.size,1,none⟩=some (sQ GC g.c.length gd)) krZ (KF.out _ Lau) (λhHeld=>?_);refine tk 0 ?_;refine rd 1 λK hK=>?_
  simp only [ga,gs,gz]
  go_simp
  go_at_call 36;(with_reducible refine (hY.out _ (Lau:Later w2 _)).mono ?_);rintro e wa ⟨rfl,Ho⟩
  try go_wp2_with fail
  refine hK.out _ _ (KF.out _ Lau) (λhHeld=>?_);clear hK K
  try simp only [ga,gs,gz,Act.put,sa,sz,ss]
  refine tk 2 ?_;refine tk 3 ?_;refine tn 4 ?_;refine tn 5 ?_;refine tn 6 ?_;refine tn 7 ?_;refine tn 8 ?_;refine tn 9 ?_;refine rd 10 λK hK=>?_
  simp only [ga,gs,gz]
  go_simp
  refine hK.out _ _ (KF.out _ Lau) (λhHeld=>?_);clear hK K
  try simp only [ga,gs,gz,Act.put,sa,sz,ss]
  refine tn 11 ?_;refine tk 12 ?_;clear KF;refine Zn1 krZ ?_ _;refine Zd1 ?_;have hc:Later w2 wa:=(Lau:Later w2 wa)
  have hv:=hZ.out.trans hc;clear Ho hHeld u0 u1 z0 z1 z2 z3;obtain ⟨gK,hr⟩:=zd2 hc hv;clear hc hv;go_wp2_with fail;refine Zk1 (v:=.tuple #[sQ none 0 0,nQ iQ 20]) (by simp [results,Tryz.results53,go_sem]) rfl ?_;exact GoL.fail HE.out dZ hr.out
 rw [hgr] at hY;cases hge:(g.s==(Ly.got x 0).s)
 ·rw [hge] at Hi
  clear HE;have HE:=zI (Ly.pointBack_bad (k:=k0) HO.out (by rw [hge,Bool.and_false]:(Tn.right g&&(g.s==(Ly.got x 0).s))=false));go_wp2_with fail;have KF:=zI (show ∀Xw,Later w2 Xw->Xw.cell? ⟨w.heap.size,0,none⟩=some (sQ GS g.s.length gc)/\Xw.cell? ⟨w.heap.size,1,none⟩=some (sQ GC g.c.length gd)/\Xw.cell? ⟨b,off,none⟩=some (sQ S (Ly.got x 0).s.length sc) from λXw h=>⟨h.cell u0,h.cell u1,h.cell z0⟩);refine Zm1 ?_;refine Zl1 (S:=λXw=>Xw.cell? ⟨w.heap.size,0,none⟩=some (sQ GS g.s.length gc)/\Xw.cell? ⟨w.heap.size,1,none⟩=some (sQ GC g.c.length gd)/\Xw.cell? ⟨b,off,none⟩=some (sQ S (Ly.got x 0).s.length sc)) krZ (KF.out _ Lau) (λhHeld=>?_);refine tk 0 ?_;refine rd 1 λK hK=>?_
  simp only [ga,gs,gz]
  go_simp
  go_at_call 36;(with_reducible refine (hY.out _ (Lau:Later w2 _)).mono ?_);rintro e wa ⟨rfl,Ho⟩
  try go_wp2_with fail
  refine hK.out _ _ (KF.out _ Lau) (λhHeld=>?_);clear hK K
  try simp only [ga,gs,gz,Act.put,sa,sz,ss]
  refine tk 2 ?_;refine tk 3 ?_;refine tk 4 ?_;refine tk 5 ?_;refine tk 6 ?_;refine tk 7 ?_;refine tk 8 ?_;refine tk 9 ?_;refine rd 10 λK hK=>?_
  simp only [ga,gs,gz]
  go_simp
  go_at_call 69;(with_reducible refine (Hi.out _ (Lau:Later w2 _)).mono ?_);rintro e wb ⟨rfl,nb,rfl⟩
  try go_wp2_with fail
  refine hK.out _ _ (KF.out _ Lau) (λhHeld=>?_);clear hK K
  try simp only [ga,gs,gz,Act.put,sa,sz,ss]
  refine tk 11 ?_;refine tk 12 ?_;clear KF;refine Zn1 krZ ?_ _;refine Zd1 ?_;have hc:Later w2 (wa.drewN nb):=(Lau:Later w2 (wa.drewN nb))
  have hv:=hZ.out.trans hc;clear Ho hHeld u0 u1 z0 z1 z2 z3;obtain ⟨gK,hr⟩:=zd2 hc hv;clear hc hv;go_wp2_with fail;refine Zk1 (v:=.tuple #[sQ none 0 0,nQ iQ 20]) (by simp [results,Tryz.results53,go_sem]) rfl ?_;exact GoL.fail HE.out dZ hr.out
 rw [hge] at Hi;have HN:g.s=(Ly.got x 0).s:=by simpa using hge
 have gM:=Ly.same_len hgr gq HN;clear HE;have HE:=zI (Ly.pointBack_ok2 (k:=k0) HO.out hgr HN Hn.out);obtain ⟨Gd,g8⟩:=zd2 HN gM;clear HN gM;clear hge;go_wp2_with fail;have KF:=zI (show ∀Xw,Later w2 Xw->Xw.cell? ⟨w.heap.size,0,none⟩=some (sQ GS g.s.length gc)/\Xw.cell? ⟨w.heap.size,1,none⟩=some (sQ GC g.c.length gd)/\Xw.cell? ⟨b,off,none⟩=some (sQ S (Ly.got x 0).s.length sc) from λXw h=>⟨h.cell u0,h.cell u1,h.cell z0⟩);refine Zm1 ?_;refine Zl1 (S:=λXw=>Xw.cell? ⟨w.heap.size,0,none⟩=some (sQ GS g.s.length gc)/\Xw.cell? ⟨w.heap.size,1,none⟩=some (sQ GC g.c.length gd)/\Xw.cell? ⟨b,off,none⟩=some (sQ S (Ly.got x 0).s.length sc)) krZ (KF.out _ Lau) (λhHeld=>?_);refine tk 0 ?_;refine rd 1 λK hK=>?_
 simp only [ga,gs,gz]
 go_simp
 go_at_call 36;(with_reducible refine (hY.out _ (Lau:Later w2 _)).mono ?_);rintro e wa ⟨rfl,Ho⟩
 try go_wp2_with fail
 refine hK.out _ _ (KF.out _ Lau) (λhHeld=>?_);clear hK K
 try simp only [ga,gs,gz,Act.put,sa,sz,ss]
 refine tk 2 ?_;refine tk 3 ?_;refine tk 4 ?_;refine tk 5 ?_;refine tk 6 ?_;refine tk 7 ?_;refine tk 8 ?_;refine tk 9 ?_;refine rd 10 λK hK=>?_
 simp only [ga,gs,gz]
 go_simp
 go_at_call 69;(with_reducible refine (Hi.out _ (Lau:Later w2 _)).mono ?_);rintro e wb ⟨rfl,nb,rfl⟩
 try go_wp2_with fail
 refine hK.out _ _ (KF.out _ Lau) (λhHeld=>?_);clear hK K
 try simp only [ga,gs,gz,Act.put,sa,sz,ss]
 refine tk 11 ?_;refine tk 12 ?_;clear KF;refine Zn1 krZ ?_ _;refine Zd1 ?_;have hc:Later w2 (wa.drewN nb):=(Lau:Later w2 (wa.drewN nb))
 have hv:=hZ.out.trans hc;have gF:=hc.blk H9.out;have gm:=Ht.out.later hc;have z0a:=hc.cell z0;have z1a:=hc.cell z1;have z2a:=hc.cell z2;have z3a:=hc.cell z3;have h8:=gv.later hc;clear Ho hHeld u0 u1 z0 z1 z2 z3 gv Ht H9 hZ hY Hi;generalize wa.drewN nb=w3 at *;rw [Hn.out];have gy:∀i,Ly.slopes kind k0 x g i=Ly.slope kind k0 (Ly.at_ (Ly.got x 0).c i) (Ly.second x i) (Ly.at_ g.c i):=λ_=>rfl
 have HA:=gm.num
 have hl:∀i,Fx.In (Ly.second x i):=λi=>by
  unfold Ly.second
  split
  ·exact Fx.in_zero
  ·exact Ly.at_in (Ly.got_in HT.out.in_ 1) i
 have h5:2<=x.length->(Ly.got x 1).c.length=(Ly.got x 0).c.length:=λ_=>HP.out
 have Hx:(Ly.tab (Ly.got x 0).c.length λi=>(Ly.slopes kind k0 x g i).1).length=(Ly.got x 0).c.length:=by rw [Ly.tab_len]
 have HC:∀i (hi:i<(Ly.tab (Ly.got x 0).c.length λi=>(Ly.slopes kind k0 x g i).1).length),(Ly.tab (Ly.got x 0).c.length λi=>(Ly.slopes kind k0 x g i).1)[i]=(Ly.slopes kind k0 x g i).1:=λi hi=>Ly.tab_get hi
 have hH:∀z∈(Ly.tab (Ly.got x 0).c.length λi=>(Ly.slopes kind k0 x g i).1),Fx.In z:=Ly.tab_in λi _=>(Ly.slope_in (Ly.at_in HG.out.num i)).1
 generalize (Ly.tab (Ly.got x 0).c.length λi=>(Ly.slopes kind k0 x g i).1)=R0 at *;have Ha:(Ly.tab (Ly.got x 0).c.length λi=>(Ly.slopes kind k0 x g i).2).length=(Ly.got x 1).c.length:=by rw [Ly.tab_len];exact HP.out.symm
 have Hd:∀i (hi:i<(Ly.tab (Ly.got x 0).c.length λi=>(Ly.slopes kind k0 x g i).2).length),(Ly.tab (Ly.got x 0).c.length λi=>(Ly.slopes kind k0 x g i).2)[i]=(Ly.slopes kind k0 x g i).2:=λi hi=>Ly.tab_get hi
 have hI:∀z∈(Ly.tab (Ly.got x 0).c.length λi=>(Ly.slopes kind k0 x g i).2),Fx.In z:=Ly.tab_in λi _=>(Ly.slope_in (Ly.at_in HG.out.num i)).2
 generalize (Ly.tab (Ly.got x 0).c.length λi=>(Ly.slopes kind k0 x g i).2)=R1 at *;have Hl:=zI (λ(k:Nat) (hk:k<(Ly.got x 0).c.length) (h2:2<=x.length)=>(show k<(Ly.got x 1).c.length by rw [h5 h2];exact hk));clear h5;generalize htq0:Ly.got x 0=t0 at *;have gU:=zI htq0;clear htq0;generalize htq1:Ly.got x 1=t1 at *;have H6:=zI htq1;clear htq1;clear hHeld;obtain ⟨gS,H0,hU,hr,gR,gK,he,gr,Hf⟩:=zd9 gy HA hl hv gF hc Hx HC hH;obtain ⟨hb,H3,Hz,gx,HS,Hj,Hq,gt,H8⟩:=zd9 Ha Hd hI gm h8 z0a z1a z2a z3a;clear gy HA hl hv gF hc Hx HC hH Ha Hd hI gm h8 z0a z1a z2a z3a;obtain ⟨i0,hi,gw,gO,gL⟩:=info_parts qe1;go_wp2_with (at_make;refine wpList_make_full _ rfl _ _ 27 rfl w.heap.size 30 i0 (.agg #[sQ none 0 0,sQ none 0 0]) 2 Tryz.underlying27 hi gw gO _ _ _ _ 2 rfl rfl (by first|rfl|simp) (by first|rfl|simp) ?b2 ?b3 hr.out.size ?_)
 case b2=>rw [gL];omega
 case b3=>unfold maxLen;omega
 intro v0 hown hgrow;clear hi gw gO gL;have hJ:Blk v0 w3.heap.size 30 #[sQ none 0 0,sQ none 0 0,sQ none 0 0,sQ none 0 0]:=by have h:=qgp hown;simpa [madeCells,List.range_succ] using h
 have gN:Later w3 v0:=(Ze1 _ w3).grown hgrow (lrZ _) sZ;have g3:=hr.out.size;have Gj:=gR.out.lt;clear hown hgrow;obtain ⟨h4,HU⟩:=zd2 hJ gN;clear hJ gN;go_wp2_with fail;refine wp_loop_rounds 3 ?_;rw [rounds_succ];have y0:=HU.out.cell Hj.out;have y1:=HU.out.cell Hq.out;go_wp2_with fail;have hq:=HU.out.alloc (.cells #[sQ S t0.s.length sc,sQ C t0.c.length cd] 30);have hW:=(h4.out).alloc (.cells #[sQ S t0.s.length sc,sQ C t0.c.length cd] 30);clear y0 y1;generalize v0.alloc (.cells #[sQ S t0.s.length sc,sQ C t0.c.length cd] 30)=vb at *;refine (qab S C sc cd t0 vb oZ oZ (gx.out.later hq).r).mono ?_;rintro e vc ⟨v,rfl,⟨g0,h0,rfl,Ge,Gl,HQ,HL⟩,HI⟩;have ha:Later vb vc:=HI;have HF:=hq.trans ha;have hh:=ha.blk hW;have gp:=hW.lt;have gT:=hq.size;have g2:=HQ.lt;have g4:=HL.lt;have x0:=hh.cell 0;have x1:=hh.cell 1;have fr0:=hh.frozen 0;have fr1:=hh.frozen 1;simp at x0 x1
 have gl:g0≠h0:=λe=>by
  subst e;have:=HQ.symm.trans HL;simp at this
 have gZ:w3.heap.size<=g0:=by omega
 have gb:w3.heap.size<=h0:=by omega
 have ho:g0≠w3.heap.size:=by omega
 have hm:h0≠w3.heap.size:=by omega
 have hx:Blk ((vc.setCell ⟨w3.heap.size,0,none⟩ (sQ (some ⟨g0,0,none⟩) t0.s.length t0.s.length)).setCell ⟨w3.heap.size,1,none⟩ (sQ (some ⟨h0,0,none⟩) t0.c.length t0.c.length)) w3.heap.size 30 #[sQ (some ⟨g0,0,none⟩) t0.s.length t0.s.length,sQ (some ⟨h0,0,none⟩) t0.c.length t0.c.length,sQ none 0 0,sQ none 0 0]:=by
  have:=(hh.set_ 0 (sQ (some ⟨g0,0,none⟩) t0.s.length t0.s.length)).set_ 1 (sQ (some ⟨h0,0,none⟩) t0.c.length t0.c.length);simpa using this
 have gP:Later w3 ((vc.setCell ⟨w3.heap.size,0,none⟩ (sQ (some ⟨g0,0,none⟩) t0.s.length t0.s.length)).setCell ⟨w3.heap.size,1,none⟩ (sQ (some ⟨h0,0,none⟩) t0.c.length t0.c.length)):=(HF.set (p:=⟨w3.heap.size,0,none⟩) (lrZ _) _).set (p:=⟨w3.heap.size,1,none⟩) (lrZ _) _;have Hw:=(HQ.far (p:=⟨w3.heap.size,0,none⟩) ho (sQ (some ⟨g0,0,none⟩) t0.s.length t0.s.length)).far (p:=⟨w3.heap.size,1,none⟩) ho (sQ (some ⟨h0,0,none⟩) t0.c.length t0.c.length);have HD:=(HL.far (p:=⟨w3.heap.size,0,none⟩) hm (sQ (some ⟨g0,0,none⟩) t0.s.length t0.s.length)).far (p:=⟨w3.heap.size,1,none⟩) hm (sQ (some ⟨h0,0,none⟩) t0.c.length t0.c.length);obtain ⟨HB,HW,go,gn⟩:=zd4 hx gP Hw HD;clear hx gP Hw HD;clear HI ha HF hh HQ HL hq hW;go_wp2_with fail;generalize (vc.setCell ⟨w3.heap.size,0,none⟩ (sQ (some ⟨g0,0,none⟩) t0.s.length t0.s.length)).setCell ⟨w3.heap.size,1,none⟩ (sQ (some ⟨h0,0,none⟩) t0.c.length t0.c.length)=v1 at *;clear x0 x1 fr0 fr1;rw [rounds_succ];have y0:=HW.out.cell gt.out;have y1:=HW.out.cell H8.out;go_wp2_with fail;have hq:=HW.out.alloc (.cells #[sQ S1 t1.s.length sc1,sQ C1 t1.c.length cd1] 30);have hW:=(HB.out).alloc (.cells #[sQ S1 t1.s.length sc1,sQ C1 t1.c.length cd1] 30);have hR:=(go.out).alloc (.cells #[sQ S1 t1.s.length sc1,sQ C1 t1.c.length cd1] 30);have hp:=(gn.out).alloc (.cells #[sQ S1 t1.s.length sc1,sQ C1 t1.c.length cd1] 30);clear y0 y1;generalize v1.alloc (.cells #[sQ S1 t1.s.length sc1,sQ C1 t1.c.length cd1] 30)=vb at *;refine (qab S1 C1 sc1 cd1 t1 vb oZ oZ (HS.out.later hq).r).mono ?_;rintro e vc ⟨v,rfl,⟨g1,h1,rfl,Gk,Gc,HK,HM⟩,HI⟩;have ha:Later vb vc:=HI;have HF:=hq.trans ha;have hh:=ha.blk hW;have gp:=hW.lt;have gT:=hq.size;have gX:=HK.lt;have g5:=HM.lt;have x0:=hh.cell 2;have x1:=hh.cell 3;have fr0:=hh.frozen 2;have fr1:=hh.frozen 3;simp at x0 x1
 have H4:g1≠h1:=λe=>by
  subst e;have:=HK.symm.trans HM;simp at this
 have g6:w3.heap.size<=g1:=by omega
 have gh:w3.heap.size<=h1:=by omega
 have Hh:g1≠w3.heap.size:=by omega
 have hS:h1≠w3.heap.size:=by omega
 have hy:Blk ((vc.setCell ⟨w3.heap.size,2,none⟩ (sQ (some ⟨g1,0,none⟩) t1.s.length t1.s.length)).setCell ⟨w3.heap.size,3,none⟩ (sQ (some ⟨h1,0,none⟩) t1.c.length t1.c.length)) w3.heap.size 30 #[sQ (some ⟨g0,0,none⟩) t0.s.length t0.s.length,sQ (some ⟨h0,0,none⟩) t0.c.length t0.c.length,sQ (some ⟨g1,0,none⟩) t1.s.length t1.s.length,sQ (some ⟨h1,0,none⟩) t1.c.length t1.c.length]:=by
  have:=(hh.set_ 2 (sQ (some ⟨g1,0,none⟩) t1.s.length t1.s.length)).set_ 3 (sQ (some ⟨h1,0,none⟩) t1.c.length t1.c.length);simpa using this
 have gG:Later w3 ((vc.setCell ⟨w3.heap.size,2,none⟩ (sQ (some ⟨g1,0,none⟩) t1.s.length t1.s.length)).setCell ⟨w3.heap.size,3,none⟩ (sQ (some ⟨h1,0,none⟩) t1.c.length t1.c.length)):=(HF.set (p:=⟨w3.heap.size,2,none⟩) (lrZ _) _).set (p:=⟨w3.heap.size,3,none⟩) (lrZ _) _;have Hc:=(HK.far (p:=⟨w3.heap.size,2,none⟩) Hh (sQ (some ⟨g1,0,none⟩) t1.s.length t1.s.length)).far (p:=⟨w3.heap.size,3,none⟩) Hh (sQ (some ⟨h1,0,none⟩) t1.c.length t1.c.length);have Hr:=(HM.far (p:=⟨w3.heap.size,2,none⟩) hS (sQ (some ⟨g1,0,none⟩) t1.s.length t1.s.length)).far (p:=⟨w3.heap.size,3,none⟩) hS (sQ (some ⟨h1,0,none⟩) t1.c.length t1.c.length);have h9:=(((ha.blk hR)).far (p:=⟨w3.heap.size,2,none⟩) ho (sQ (some ⟨g1,0,none⟩) t1.s.length t1.s.length)).far (p:=⟨w3.heap.size,3,none⟩) ho (sQ (some ⟨h1,0,none⟩) t1.c.length t1.c.length);have HJ:=(((ha.blk hp)).far (p:=⟨w3.heap.size,2,none⟩) hm (sQ (some ⟨g1,0,none⟩) t1.s.length t1.s.length)).far (p:=⟨w3.heap.size,3,none⟩) hm (sQ (some ⟨h1,0,none⟩) t1.c.length t1.c.length);have HR:g0≠h1:=by have:=hR.lt;omega
 have Hu:h0≠h1:=by have:=hp.lt;omega
 have H5:g1≠h0:=by have:=hp.lt;omega
 obtain ⟨hA,HY,He,Hb,h7,h6⟩:=zd6 hy gG Hc Hr h9 HJ;clear hy gG Hc Hr h9 HJ;clear HI ha HF hh HK HM hq hW hR hp;go_wp2_with fail;generalize (vc.setCell ⟨w3.heap.size,2,none⟩ (sQ (some ⟨g1,0,none⟩) t1.s.length t1.s.length)).setCell ⟨w3.heap.size,3,none⟩ (sQ (some ⟨h1,0,none⟩) t1.c.length t1.c.length)=v2 at *;clear x0 x1 fr0 fr1;rw [rounds_succ];have y0:=HY.out.cell Hj.out;have y1:=HY.out.cell Hq.out;go_wp2_with fail;clear y0 y1;have gE:Blk v2 h0 42 ((R0.take 0++t0.c.drop 0).map (Za1 iQ)).toArray:=by simpa using h6.out
 have gC:Blk v2 h1 42 ((R1.take 0++t1.c.drop 0).map (Za1 iQ)).toArray:=by simpa using Hb.out
 obtain ⟨gH,gB⟩:=zd2 gE gC;clear gE gC
 go_loopw [58] (λi wx=>∃k:Nat,k<=t0.c.length/\i=nQ iQ (k:Int)/\Blk wx h0 42 ((R0.take k++t0.c.drop k).map (Za1 iQ)).toArray/\Blk wx g0 3 (t0.s.map (Za1 iQ)).toArray/\Blk wx h1 42 ((R1.take k++t1.c.drop k).map (Za1 iQ)).toArray/\Blk wx g1 3 (t1.s.map (Za1 iQ)).toArray/\Blk wx w3.heap.size 30 #[sQ (some ⟨g0,0,none⟩) t0.s.length t0.s.length,sQ (some ⟨h0,0,none⟩) t0.c.length t0.c.length,sQ (some ⟨g1,0,none⟩) t1.s.length t1.s.length,sQ (some ⟨h1,0,none⟩) t1.c.length t1.c.length]/\Later w3 wx) (λi _=>t0.c.length-(intOf i).toNat)
 case atStart=>exact ⟨0,Zt _,rfl,gH.out,h7.out,gB.out,He.out,hA.out,HY.out⟩
 case round=>
  obtain ⟨k,hk,rfl,hL,hu,hO,hs,hz,hF⟩:=hrel;clear gH h7 h6 gB He Hb hA
  by_cases Hy:k<t0.c.length
  ·obtain ⟨bc,oc,rfl,-,Gi⟩:=(gx.out.later hF).cell Hy
   have gi:k<g.c.length:=by rw [g8.out];exact Hy
   obtain ⟨bg,og,rfl,-,Ga⟩:=(HG.out.later (hr.out.trans hF)).cell gi;have u1:wr.cell? ⟨w.heap.size,1,none⟩=some (sQ (some ⟨bg,og,none⟩) g.c.length gd):=by rw [(hF.blk gR.out).cell];rfl
   have Hs:=Ly.at_in H0.out k;have Hp:=hU.out k;have Hv:=Ly.at_in HG.out.num k;have HX:=λ(V:Zp1) (hV:Later w V)=>qbc (some ⟨b,off,none⟩) f x k V oZ (HT.out.later hV) (λh2=>by rw [H6.out];exact Hl.out k Hy h2)
   have H1:=λ(V:Zp1)=>qcw kind k0 (Ly.at_ t0.c k) (Ly.second x k) (Ly.at_ g.c k) V k1 k7 gW.out Hs Hp Hv
   rw [Hn.out] at HX;rw [←gS.out k] at H1;have rr1:=r1;have rr2:=r2;have hf:k<R0.length:=by rw [he.out];exact Hy
   have hN:=Ly.mid_step R0 t0.c hf he.out;have hB:=Ly.mid_len R0 t0.c k oZ he.out;have Hm:=gr.out k hf;rw [Hm] at hN;obtain ⟨p0,hp0⟩:∃u,wr.cell? ⟨h0,k,none⟩=some u:=⟨_,hL.row_get (by rw [hB];exact hf)⟩
   have fp0:=hL.frozen k;have q0:wr.cell? ⟨w3.heap.size,0,none⟩=some (sQ (some ⟨g0,0,none⟩) t0.s.length t0.s.length):=by rw [hz.cell];rfl
   have q1:wr.cell? ⟨w3.heap.size,1,none⟩=some (sQ (some ⟨h0,0,none⟩) t0.c.length t0.c.length):=by rw [hz.cell];rfl
   have hd:k<R1.length:=by rw [hb.out];rw [HP.out];exact Hy
   have hQ:=Ly.mid_step R1 t1.c hd hb.out;have hD:=Ly.mid_len R1 t1.c k oZ hb.out;have HH:=H3.out k hd;rw [HH] at hQ;obtain ⟨p1,hp1⟩:∃u,wr.cell? ⟨h1,k,none⟩=some u:=⟨_,hO.row_get (by rw [hD];exact hd)⟩
   have fp1:=hO.frozen k;have q2:wr.cell? ⟨w3.heap.size,2,none⟩=some (sQ (some ⟨g1,0,none⟩) t1.s.length t1.s.length):=by rw [hz.cell];rfl
   have q3:wr.cell? ⟨w3.heap.size,3,none⟩=some (sQ (some ⟨h1,0,none⟩) t1.c.length t1.c.length):=by rw [hz.cell];rfl
   generalize Ly.slopes kind k0 x g k=sl at *;generalize Ly.at_ t0.c k=xk at *;generalize Ly.second x k=sk at *;generalize Ly.at_ g.c k=gk at *;have kk1:(k:Int)<(t0.c.length:Int):=by omega
   have kk3:(k:Int)<(g.c.length:Int):=by omega
   have kk2:(0:Int)<=(k:Int):=by omega
   have kk4:(k:Int)<(t1.c.length:Int):=by have:=hd;rw [hb.out] at this;omega
   clear hB Hm hf hD HH hd Hs Hp Hv;obtain ⟨gu,hM,gf,HV,hP,gg,hw,H7,g7⟩:=zd9 hL hu hN hO hs hQ hz hF HX;have g9:=zI H1;clear hL hu hN hO hs hQ hz hF HX H1;go_wp2_with fail;have KF:=zI (show ∀Xw,Later wr Xw->Xw.cell? ⟨w.heap.size,1,none⟩=some (sQ (some ⟨bg,og,none⟩) g.c.length gd)/\Xw.cell? ⟨bg,og+k,none⟩=some (nQ iQ gk) from λXw h=>⟨h.cell u1,h.cell Ga⟩);refine Zm1 ?_;refine Zl1 (S:=λXw=>Xw.cell? ⟨w.heap.size,1,none⟩=some (sQ (some ⟨bg,og,none⟩) g.c.length gd)/\Xw.cell? ⟨bg,og+k,none⟩=some (nQ iQ gk)) krZ (KF.out _ Lau) (λhHeld=>?_);refine tk 0 ?_;refine tk 1 ?_;refine tk 2 ?_;refine tk 3 ?_;refine tk 4 ?_;refine tk 6 ?_;refine tk 7 ?_;refine tk 8 ?_;refine tk 9 ?_;refine tk 10 ?_;refine rd 5 λK hK=>?_
   simp only [ga,gs,gz]
   go_simp
   go_at_call 102;(with_reducible refine (g7.out _ (hr.out.trans (H7.out.trans (Lau:Later wr _)))).mono ?_);rintro e wa ⟨rfl,rfl⟩
   try go_wp2_with fail
   refine hK.out _ _ (KF.out _ Lau) (λhHeld=>?_);clear hK K
   try simp only [ga,gs,gz,Act.put,sa,sz,ss]
   refine rd 11 λK hK=>?_
   simp only [ga,gs,gz]
   go_simp
   go_at_call 101;(with_reducible refine (g9.out _).mono ?_);rintro e wb ⟨rfl,rfl⟩
   try go_wp2_with fail
   refine hK.out _ _ (KF.out _ Lau) (λhHeld=>?_);clear hK K
   try simp only [ga,gs,gz,Act.put,sa,sz,ss]
   refine tk 12 ?_;refine tk 13 ?_;refine tk 14 ?_;refine tk 15 ?_;refine tk 16 ?_;clear KF;refine Zn1 krZ ?_ _;refine Zd1 ?_;clear hHeld;go_wp2_with fail;have k1:=gu.out.set_ k (nQ iQ sl.1);have k2:=(HV.out.far (p:=⟨h0,k,none⟩) Hu.symm (nQ iQ sl.1)).set_ k (nQ iQ sl.2)
   have m0:Blk ((wr.setCell ⟨h0,k,none⟩ (nQ iQ sl.1)).setCell ⟨h1,k,none⟩ (nQ iQ sl.2)) h0 42 ((R0.take (k+1)++t0.c.drop (k+1)).map (Za1 iQ)).toArray:=by
    refine Blk.far ?_ (p:=⟨h1,k,none⟩) Hu _;rw [←gf.out,List.map_set];simpa using k1
   have n0:Blk ((wr.setCell ⟨h0,k,none⟩ (nQ iQ sl.1)).setCell ⟨h1,k,none⟩ (nQ iQ sl.2)) h1 42 ((R1.take (k+1)++t1.c.drop (k+1)).map (Za1 iQ)).toArray:=by
    rw [←gg.out,List.map_set];simpa using k2
   have m1:=(hM.out.far (p:=⟨h0,k,none⟩) gl (nQ iQ sl.1)).far (p:=⟨h1,k,none⟩) HR (nQ iQ sl.2);have n1:=(hP.out.far (p:=⟨h0,k,none⟩) H5 (nQ iQ sl.1)).far (p:=⟨h1,k,none⟩) H4 (nQ iQ sl.2);have m2:=(hw.out.far (p:=⟨h0,k,none⟩) hm.symm (nQ iQ sl.1)).far (p:=⟨h1,k,none⟩) hS.symm (nQ iQ sl.2);have m3:=(H7.out.set (p:=⟨h0,k,none⟩) gb (nQ iQ sl.1)).set (p:=⟨h1,k,none⟩) gh (nQ iQ sl.2);go_roundw
   case rel=>exact ⟨k+1,by omega,by go_num,m0.drew,m1.drew,n0.drew,n1.drew,m2.drew,m3.drew⟩
   case measure=>simp [intOf];omega
  ·obtain rfl:k=t0.c.length:=by omega
   rw [Ly.mid_end R0 t0.c _ he.out.symm he.out] at hL;rw [Ly.mid_end R1 t1.c _ (by rw [hb.out];exact HP.out.symm) hb.out] at hO;have gQ:=hr.out.trans hF;obtain ⟨gu,hM,HV,hP,hw,H7,gY⟩:=zd7 hL hu hO hs hz hF gQ;clear hL hu hO hs hz hF gQ;go_wp2_with fail;refine Zk1 (v:=.tuple #[sQ (some ⟨w3.heap.size,0,none⟩) 2 2,nQ iQ 0]) (by simp [results,Tryz.results53,go_sem]) rfl ?_;refine GoL.ok (A:=some ⟨w3.heap.size,0,none⟩) HE.out ⟨λa e=>?_,λj hj=>?_⟩ gY.out
   ·injection e with e
    subst e;exact ⟨_,rfl,g3,hw.out.lt,λk=>hw.out.frozen k⟩
   ·have gV:j=0∨j=1:=by simp at hj;omega
    rcases gV with rfl|rfl
    ·refine ⟨w3.heap.size,some ⟨g0,0,none⟩,t0.s.length,some ⟨h0,0,none⟩,t0.c.length,rfl,by rw [hw.out.cell];rfl,by rw [hw.out.cell];simp [he.out],?_⟩
     show TenO w.heap.size wr (.agg #[sQ (some ⟨g0,0,none⟩) t0.s.length t0.s.length,sQ (some ⟨h0,0,none⟩) R0.length t0.c.length]) ⟨t0.s,R0⟩
     exact qbB hM.out gu.out oZ oZ oZ (by rw [he.out];omega) Hf.out (by rw [he.out])
    ·refine ⟨w3.heap.size,some ⟨g1,0,none⟩,t1.s.length,some ⟨h1,0,none⟩,t1.c.length,rfl,by rw [hw.out.cell];rfl,by rw [hw.out.cell];simp [hb.out],?_⟩
     show TenO w.heap.size wr (.agg #[sQ (some ⟨g1,0,none⟩) t1.s.length t1.s.length,sQ (some ⟨h1,0,none⟩) R1.length t1.c.length]) ⟨t1.s,R1⟩
     exact qbB hP.out HV.out oZ oZ oZ (by rw [hb.out];omega) Hz.out (by rw [hb.out])
namespace Ly
theorem counts_ok {o:OpD} {p x:Int} (h:Od.counts o p x=0):Od.right o=true/\Od.least o<=x/\x<=Od.most o/\p=Od.params o:=by
 unfold Od.counts at h;cases hr:Od.right o
 ·simp [hr] at h
 ·rw [hr] at h
  simp only [if_true] at h
  split at h
  ·simp at h
  ·rename_i hc;simp only [not_or] at hc;exact ⟨rfl,by omega,by omega,by omega⟩
theorem right_s {t:Ten} (h:Tn.right t=true):Sh.right t.s=true/\(t.c.length:Int)=Safe.prod t.s:=by simpa [Tn.right] using h
theorem qaO {o:OpD} {p x:List Ten} (hc:Od.counts o p.length x.length=0) (hp:∀t∈p,Sh.right t.s=true) (hx:∀t∈x,Sh.right t.s=true):
  Od.shape o (p.map Ten.s) (x.map Ten.s)=Od.byKind o (p.map Ten.s) (x.map Ten.s):=by
 unfold Od.shape;rw [List.length_map,List.length_map,inZ (by simp [hc]),ipZ];simp only [Zz,Zf,List.mem_map];exact ⟨by rintro s ⟨t,ht,rfl⟩;exact hp t ht,by rintro s ⟨t,ht,rfl⟩;exact hx t ht⟩
theorem qd3 {sd:Int}:∀ {r:List Ten} {s:List Int},(qaG sd s r).2=0->Od.joinAll sd s (r.map Ten.s)=qaG sd s r/\∀t∈r,Sh.right t.s=true
 | [],_,_=>⟨rfl,by simp⟩
 | t::r,s,h=>by
  simp only [qaG,List.map_cons,Od.joinAll] at h ⊢
  split at h
  ·rename_i ht
   rw [ipZ ht]
   split at h
   ·rename_i hj
    rw [ipZ hj,ipZ hj];obtain ⟨h1,h2⟩:=qd3 h;refine ⟨h1,λu hu=>?_⟩;rcases List.mem_cons.1 hu with rfl|hu
    ·exact (right_s ht).1
    ·exact h2 u hu
   ·rename_i hj;exact absurd h hj
  ·simp at h
theorem qe2 {sd:Int} {x:List Ten} (h:(joined sd x).2=0):Od.joined sd (x.map Ten.s)=joined sd x/\∀t∈x,Sh.right t.s=true:=by
 cases x with
 | nil=>simp [joined] at h
 | cons t r=>
  simp only [joined] at h ⊢
  split at h
  ·rename_i ht
   rw [ipZ ht]
   split at h
   ·simp at h
   ·rename_i hc
    rw [inZ hc];obtain ⟨h1,h2⟩:=qd3 h;refine ⟨?_,λu hu=>?_⟩
    ·unfold Od.joined
     rw [inZ]
     ·exact h1
     ·rintro ⟨hl,hi⟩
      refine hc ⟨by simpa using hl,?_⟩;simp [Od.inR] at hi;omega
    ·rcases List.mem_cons.1 hu with rfl|hu
     ·exact (right_s ht).1
     ·exact h2 u hu
  ·simp at h
theorem qai {l:List Ten} (h:l.length=1):∃a,l=[a]:=List.length_eq_one_iff.1 h
theorem qe3 {l:List Ten} (h:l.length=2):∃a b,l=[a,b]:=by
 match l,h with
 | [a,b],_=>exact ⟨a,b,rfl⟩
theorem qaq {l:List Ten} (h:l.length=0):l=[]:=List.length_eq_zero_iff.1 h
theorem lay_shape {o:OpD} {p x:List Ten} (hc:Od.counts o p.length x.length=0) (h:(lay o p x).2=0):Od.shape o (p.map Ten.s) (x.map Ten.s)=((lay o p x).1.s,0):=by
 obtain ⟨hr,h1,h2,h3⟩:=counts_ok hc;have hk:=Od.right_kind hr;unfold Od.least Od.most at *;unfold Od.params at h3;rw [ipZ hr] at h1 h2 h3;have hd:o.kind<=7∨o.kind=8∨o.kind=9∨o.kind=10∨o.kind=11∨o.kind=12∨o.kind=13∨o.kind=14∨o.kind=15:=by omega
 rcases hd with hb|hb|hb|hb|hb|hb|hb|hb|hb
 ·have e:lay o p x=point o.kind o.k x:=by unfold lay;rw [inZ oZ,inZ oZ,inZ oZ,inZ oZ,inZ oZ,inZ oZ,inZ oZ,inZ oZ]
  have he:p=[]:=qaq (by rw [inZ oZ,inZ oZ] at h3;omega);rw [e] at h ⊢;unfold point at h ⊢
  split at h
  ·rename_i ha
   rw [ipZ ha];unfold ptAgree at ha
   split at ha
   ·simp at ha
   ·split at ha
    ·simp at ha
    ·split at ha
     ·rename_i hall
      simp only [Zf,Zz,decide_eq_true_eq] at hall;rw [qaO hc (by rw [he];simp) (λt ht=>(right_s (hall t ht).1).1)];unfold Od.byKind;rw [inZ oZ,inZ oZ,inZ oZ,inZ oZ,inZ oZ,inZ oZ,inZ oZ]
      have hf:0<x.length:=by
       rcases Nat.eq_zero_or_pos x.length with h0|h0
       ·rename_i hn0 hn1;simp [h0] at hn1;omega
       ·exact h0
      have e0:(x.map Ten.s).getD 0 []=(got x 0).s:=by
       cases x with
       | nil=>simp at hf
       | cons a r=>rfl
      unfold Od.same;rw [e0,ipZ];simp only [Zf,List.mem_map,decide_eq_true_eq];rintro s ⟨t,ht,rfl⟩;exact (hall t ht).2
     ·simp at ha
  ·rename_i ha;exact absurd h ha
 ·obtain ⟨a,b,rfl⟩:=qe3 (l:=p) (by simp [hb] at h3;omega)
  obtain ⟨t,rfl⟩:=qai (l:=x) (by simp [hb] at h1 h2;omega);have e:lay o [a,b] [t]=dense a b t:=by unfold lay;rw [ipZ hb];rfl
  rw [e] at h ⊢;unfold dense at h ⊢
  split at h
  ·rename_i ha
   rw [ipZ ha];simp only [denseOk,Zz,decide_eq_true_eq] at ha;obtain ⟨⟨⟨⟨⟨a1,a2⟩,a3⟩,a4⟩,a5⟩,a6⟩:=ha;rw [qaO hc (by simp [(right_s a1).1,(right_s a3).1]) (by simp [(right_s a4).1])];have h6:=(right_s a4).2;have h7:=(right_s a4).1;unfold Od.byKind Od.dense;rw [ipZ hb];simp only [List.map_cons,List.map_nil,List.getD_cons_zero,List.getD_cons_succ];rw [ipZ ⟨a2,by rw [a5];rfl,by rw [a5];rfl,h7,by rw [←h6,a6];rfl⟩,a5]
   rfl
  ·simp at h
 ·obtain ⟨b,rfl⟩:=qai (l:=p) (by simp [hb] at h3;omega)
  obtain ⟨t,rfl⟩:=qai (l:=x) (by simp [hb] at h1 h2;omega);have e:lay o [b] [t]=add t b:=by unfold lay;rw [inZ oZ,ipZ hb];rfl
  rw [e] at h ⊢;unfold add at h ⊢
  split at h
  ·rename_i ha
   rw [ipZ ha];simp only [alike,Zz,decide_eq_true_eq] at ha;obtain ⟨⟨a1,a2⟩,a3⟩:=ha;rw [qaO hc (by simp [(right_s a2).1]) (by simp [(right_s a1).1])];unfold Od.byKind Od.same;rw [inZ oZ,ipZ hb];simp [a3]
  ·simp at h
 ·obtain ⟨b,rfl⟩:=qai (l:=p) (by simp [hb] at h3;omega)
  obtain ⟨t,rfl⟩:=qai (l:=x) (by simp [hb] at h1 h2;omega);have e:lay o [b] [t]=conv b t o.step:=by unfold lay;rw [inZ oZ,inZ oZ,ipZ hb];rfl
  rw [e] at h ⊢;unfold conv at h ⊢
  split at h
  ·rename_i ha
   rw [ipZ ha];unfold qby at ha
   split at ha
   ·rename_i hrr
    simp only [Zz] at hrr;rw [qaO hc (by simp [(right_s hrr.1).1]) (by simp [(right_s hrr.2).1])];unfold Od.byKind;rw [inZ oZ,inZ oZ,ipZ hb];simp only [List.map_cons,List.map_nil,List.getD_cons_zero];exact Prod.ext rfl ha
   ·simp at ha
  ·rename_i ha;exact absurd h ha
 ·obtain rfl:=qaq (l:=p) (by rw [inZ oZ,inZ oZ] at h3;omega)
  obtain ⟨t,rfl⟩:=qai (l:=x) (by simp [hb] at h1 h2;omega);have e:lay o [] [t]=pool true t o.width o.step:=by unfold lay;rw [inZ oZ,inZ oZ,inZ oZ,ipZ hb];rfl
  rw [e] at h ⊢;unfold pool at h ⊢
  split at h
  ·rename_i ha
   rw [ipZ ha];unfold poolErr at ha
   split at ha
   ·rename_i hrr
    rw [qaO hc sZ (by simp [(right_s hrr).1])];unfold Od.byKind;rw [inZ oZ,inZ oZ,inZ oZ,ipZ oZ];simp only [List.map_cons,List.map_nil,List.getD_cons_zero];exact Prod.ext rfl ha
   ·simp at ha
  ·rename_i ha;exact absurd h ha
 ·obtain rfl:=qaq (l:=p) (by rw [inZ oZ,inZ oZ] at h3;omega)
  obtain ⟨t,rfl⟩:=qai (l:=x) (by simp [hb] at h1 h2;omega);have e:lay o [] [t]=pool false t o.width o.step:=by unfold lay;rw [inZ oZ,inZ oZ,inZ oZ,inZ oZ,ipZ hb];rfl
  rw [e] at h ⊢;unfold pool at h ⊢
  split at h
  ·rename_i ha
   rw [ipZ ha];unfold poolErr at ha
   split at ha
   ·rename_i hrr
    rw [qaO hc sZ (by simp [(right_s hrr).1])];unfold Od.byKind;rw [inZ oZ,inZ oZ,inZ oZ,ipZ oZ];simp only [List.map_cons,List.map_nil,List.getD_cons_zero];exact Prod.ext rfl ha
   ·simp at ha
  ·rename_i ha;exact absurd h ha
 ·obtain rfl:=qaq (l:=p) (by rw [inZ oZ,inZ oZ] at h3;omega)
  have e:lay o [] x=join o.side x:=by unfold lay;rw [inZ oZ,inZ oZ,inZ oZ,inZ oZ,inZ oZ,ipZ hb]
  rw [e] at h ⊢;unfold join at h ⊢
  split at h
  ·rename_i ha
   rw [ipZ ha];obtain ⟨j1,j2⟩:=qe2 ha;rw [qaO hc sZ j2];unfold Od.byKind;rw [inZ oZ,inZ oZ,inZ oZ,inZ oZ,ipZ oZ,j1];exact Prod.ext rfl ha
  ·rename_i ha;exact absurd h ha
 ·obtain rfl:=qaq (l:=p) (by rw [inZ oZ,inZ oZ] at h3;omega)
  obtain ⟨t,rfl⟩:=qai (l:=x) (by simp [hb] at h1 h2;omega);have e:lay o [] [t]=cut t o.side o.frm o.to:=by unfold lay;rw [inZ oZ,inZ oZ,inZ oZ,inZ oZ,inZ oZ,inZ oZ,ipZ hb];rfl
  rw [e] at h ⊢;unfold cut at h ⊢
  split at h
  ·rename_i hrr
   rw [ipZ hrr]
   split at h
   ·rename_i ha
    rw [ipZ ha];rw [qaO hc sZ (by simp [(right_s hrr).1])];unfold Od.byKind;rw [inZ oZ,inZ oZ,inZ oZ,inZ oZ,inZ oZ,ipZ oZ];simp only [List.map_cons,List.map_nil,List.getD_cons_zero];exact Prod.ext rfl ha
   ·rename_i ha;exact absurd h ha
  ·simp at h
 ·obtain rfl:=qaq (l:=p) (by rw [inZ oZ,inZ oZ] at h3;omega)
  obtain ⟨t,rfl⟩:=qai (l:=x) (by simp [hb] at h1 h2;omega);have e:lay o [] [t]=turn t o.s:=by unfold lay;rw [inZ oZ,inZ oZ,inZ oZ,inZ oZ,inZ oZ,inZ oZ,inZ oZ,ipZ hb];rfl
  rw [e] at h ⊢;unfold turn of_ at h ⊢
  split at h
  ·rename_i hrr
   rw [ipZ hrr]
   split at h
   ·rename_i ha
    rw [ipZ ha];rw [qaO hc sZ (by simp [(right_s hrr).1])];unfold Od.byKind Od.turned;rw [inZ oZ,inZ oZ,inZ oZ,inZ oZ,inZ oZ,inZ oZ,ipZ oZ];have a1:=right_s hrr;have a2:=right_s ha;simp only [List.map_cons,List.map_nil,List.getD_cons_zero];rw [ipZ (by simp [a1.1,a2.1,←a2.2,←a1.2])]
   ·simp at h
  ·simp at h
theorem go_err {o:OpD} {p x:List Ten} (h:Od.counts o p.length x.length≠0):go o p x=(none_,Od.counts o p.length x.length):=by unfold go;rw [inZ h]
theorem go_lay {o:OpD} {p x:List Ten} (h:Od.counts o p.length x.length=0):go o p x=lay o p x:=by unfold go;rw [ipZ h]
end Ly
namespace Ly
theorem dense_none {w b x:Ten} (h:(dense w b x).2≠0):(dense w b x).1=none_:=by
 unfold dense at h ⊢;split at h
 ·simp at h
 ·rename_i hc;rw [inZ hc]
theorem add_none {a b:Ten} (h:(add a b).2≠0):(add a b).1=none_:=by
 unfold add at h ⊢;split at h
 ·simp at h
 ·rename_i hc;rw [inZ hc]
theorem qgq {w x:Ten} {st:Int} (h:(conv w x st).2≠0):(conv w x st).1=none_:=by
 unfold conv at h ⊢;split at h
 ·simp at h
 ·rename_i hc;rw [inZ hc]
theorem pool_none {t:Bool} {x:Ten} {wd st:Int} (h:(pool t x wd st).2≠0):(pool t x wd st).1=none_:=by
 unfold pool at h ⊢;split at h
 ·simp at h
 ·rename_i hc;rw [inZ hc]
theorem qgr {sd:Int} {x:List Ten} (h:(join sd x).2≠0):(join sd x).1=none_:=by
 unfold join at h ⊢;split at h
 ·simp at h
 ·rename_i hc;rw [inZ hc]
theorem cut_none {x:Ten} {sd f t:Int} (h:(cut x sd f t).2≠0):(cut x sd f t).1=none_:=by
 unfold cut at h ⊢
 split at h
 ·rename_i h1
  rw [ipZ h1]
  split at h
  ·simp at h
  ·rename_i hc;rw [inZ hc]
 ·rename_i hc;rw [inZ hc]
theorem turn_none {x:Ten} {s:List Int} (h:(turn x s).2≠0):(turn x s).1=none_:=by
 unfold turn of_ at h ⊢
 split at h
 ·rename_i h1
  rw [ipZ h1]
  split at h
  ·simp at h
  ·rename_i hc;rw [inZ hc]
 ·rename_i hc;rw [inZ hc]
theorem point_none {k k0:Int} {x:List Ten} (h:(point k k0 x).2≠0):(point k k0 x).1=none_:=by
 unfold point at h ⊢;split at h
 ·simp at h
 ·rename_i hc;rw [inZ hc]
theorem lay8 {o:OpD} {p x:List Ten} (h:o.kind=8):lay o p x=dense (got p 0) (got p 1) (got x 0):=by unfold lay;rw [ipZ h]
theorem lay9 {o:OpD} {p x:List Ten} (h:o.kind=9):lay o p x=add (got x 0) (got p 0):=by unfold lay;rw [inZ oZ,ipZ h]
theorem lay10 {o:OpD} {p x:List Ten} (h:o.kind=10):lay o p x=conv (got p 0) (got x 0) o.step:=by unfold lay;rw [inZ oZ,inZ oZ,ipZ h]
theorem lay11 {o:OpD} {p x:List Ten} (h:o.kind=11):lay o p x=pool true (got x 0) o.width o.step:=by unfold lay;rw [inZ oZ,inZ oZ,inZ oZ,ipZ h]
theorem lay12 {o:OpD} {p x:List Ten} (h:o.kind=12):lay o p x=pool false (got x 0) o.width o.step:=by unfold lay;rw [inZ oZ,inZ oZ,inZ oZ,inZ oZ,ipZ h]
theorem lay13 {o:OpD} {p x:List Ten} (h:o.kind=13):lay o p x=join o.side x:=by unfold lay;rw [inZ oZ,inZ oZ,inZ oZ,inZ oZ,inZ oZ,ipZ h]
theorem lay14 {o:OpD} {p x:List Ten} (h:o.kind=14):lay o p x=cut (got x 0) o.side o.frm o.to:=by unfold lay;rw [inZ oZ,inZ oZ,inZ oZ,inZ oZ,inZ oZ,inZ oZ,ipZ h]
theorem lay15 {o:OpD} {p x:List Ten} (h:o.kind=15):lay o p x=turn (got x 0) o.s:=by unfold lay;rw [inZ oZ,inZ oZ,inZ oZ,inZ oZ,inZ oZ,inZ oZ,inZ oZ,ipZ h]
theorem lay7 {o:OpD} {p x:List Ten} (h:o.kind<=7):lay o p x=point o.kind o.k x:=by unfold lay;rw [inZ oZ,inZ oZ,inZ oZ,inZ oZ,inZ oZ,inZ oZ,inZ oZ,inZ oZ]
theorem lay_none {o:OpD} {p x:List Ten} (hk:o.kind<=15) (h:(lay o p x).2≠0):(lay o p x).1=none_:=by
 have hb:o.kind<=7∨o.kind=8∨o.kind=9∨o.kind=10∨o.kind=11∨o.kind=12∨o.kind=13∨o.kind=14∨o.kind=15:=by omega
 rcases hb with ha|ha|ha|ha|ha|ha|ha|ha|ha
 ·rw [lay7 ha] at h ⊢;exact point_none h
 ·rw [lay8 ha] at h ⊢;exact dense_none h
 ·rw [lay9 ha] at h ⊢;exact add_none h
 ·rw [lay10 ha] at h ⊢;exact qgq h
 ·rw [lay11 ha] at h ⊢;exact pool_none h
 ·rw [lay12 ha] at h ⊢;exact pool_none h
 ·rw [lay13 ha] at h ⊢;exact qgr h
 ·rw [lay14 ha] at h ⊢;exact cut_none h
 ·rw [lay15 ha] at h ⊢;exact turn_none h
end Ly
def GoU (r:Ten × Int) (w:Zp1) (e:Ending) (w':Zp1):Prop:=
 ∃S c C d,e=.returned (.tuple #[.agg #[sQ S r.1.s.length c,sQ C r.1.c.length d],nQ iQ r.2])/\
  (r.2≠0->.agg #[sQ S r.1.s.length c,sQ C r.1.c.length d]=Value.agg #[sQ none 0 0,sQ none 0 0])/\(r.2=0->TenO w.heap.size w' (.agg #[sQ S r.1.s.length c,sQ C r.1.c.length d]) r.1)/\Below w.heap.size w w'
theorem GoP.u {r:Ten × Int} {w w':Zp1} {e:Ending} (h:GoP r w e w') (hn:r.2≠0->r.1=Ly.none_):GoU r w e w':=by
 obtain ⟨h1|⟨h1,v,rfl,h3⟩,h2⟩:=h
 ·obtain ⟨h1,rfl⟩:=h1
  have e1:=hn h1;refine ⟨none,0,none,0,by rw [e1];rfl,λ_=>by rw [e1];rfl,λh=>absurd h h1,h2⟩
 ·have ha:=h3
  obtain ⟨S,c,C,d,rfl,_,_,_⟩:=h3;exact ⟨S,c,C,d,by rw [h1],λh=>absurd h1 h,λ_=>ha,h2⟩
theorem qan {P:Program} {f:FuncId} {args:Array Value} {r:Ten × Int} {w:Zp1} (h:Calls P f args w (GoP r w)) (hn:r.2≠0->r.1=Ly.none_):Calls P f args w (GoU r w):=h.mono λ_ _ hq=>hq.u hn
def GoB (r:Ly.Bk × Int) (w:Zp1) (e:Ending) (w':Zp1):Prop:=
 (r.2≠0/\e=.returned (.tuple #[.agg #[sQ none 0 0,sQ none 0 0],nQ iQ r.2])∨
  r.2=0/\∃A B,e=.returned (.tuple #[.agg #[sQ A r.1.p.length r.1.p.length,sQ B r.1.x.length r.1.x.length],nQ iQ 0])/\TnsO w.heap.size w' A r.1.p/\TnsO w.heap.size w' B r.1.x)/\Below w.heap.size w w'
theorem GoB.fail {n:Int} {r:Ly.Bk × Int} {w w':Zp1} (hr:r=(Ly.bnone,n)) (hn:n≠0) (hb:Below w.heap.size w w'):GoB r w (.returned (.tuple #[.agg #[sQ none 0 0,sQ none 0 0],nQ iQ n])) w':=by
 subst hr;exact ⟨.inl ⟨hn,rfl⟩,hb⟩
theorem TnsO.nil (B:Nat) (w:Zp1):TnsO B w none []:=⟨λa e=>(by cases e),λj hj=>absurd hj sZ⟩
theorem TnsO.base {B B':Nat} {w:Zp1} {A:Option Addr} {ts:List Ten} (h:TnsO B w A ts) (hB:B'<=B):TnsO B' w A ts:=
 ⟨λa e=>by obtain ⟨b,h1,h2,h3,h4⟩:=h.1 a e;exact ⟨b,h1,by omega,h3,h4⟩,λj hj=>by obtain ⟨b,S,c,C,d,e,c0,c1,hO⟩:=h.2 j hj;exact ⟨b,S,c,C,d,e,c0,c1,hO.base hB⟩⟩
theorem TnsO.later {B:Nat} {w w':Zp1} {A:Option Addr} {ts:List Ten} (h:TnsO B w A ts) (hl:Later w w'):TnsO B w' A ts:=
 ⟨λa e=>by obtain ⟨b,h1,h2,h3,h4⟩:=h.1 a e;exact ⟨b,h1,h2,ltZ h3 hl.size,λk=>(Below.frozen hl (p:=⟨b,k,none⟩) h3).trans (h4 k)⟩,
  λj hj=>by obtain ⟨b,S,c,C,d,e,c0,c1,hO⟩:=h.2 j hj;exact ⟨b,S,c,C,d,e,hl.cell c0,hl.cell c1,hO.later hl⟩⟩
theorem qaC {w w':Zp1} {b:Nat} (h:w'.heap[b]? = w.heap[b]?) (k:Nat):w'.cell? ⟨b,k,none⟩=w.cell? ⟨b,k,none⟩:=Zi1 h
theorem TnsO.box {B p:Nat} {w:Zp1} {A:Option Addr} {ts:List Ten} {T:TypeId} (h:TnsO B w A ts) (hz:Blk w p T #[sQ none 0 0,sQ none 0 0]) (hA:∀a,A=some a->a.block≠p) (u u2:Value):
  TnsO B ((w.setCell ⟨p,0,none⟩ u).setCell ⟨p,1,none⟩ u2) A ts:=by
 refine ⟨λa e=>?_,λj hj=>?_⟩
 ·obtain ⟨b,h1,h2,h3,h4⟩:=h.1 a e
  exact ⟨b,h1,h2,by simpa using h3,λk=>by rw [World.frozen?_setCell,World.frozen?_setCell];exact h4 k⟩
 ·obtain ⟨b,S,c,C,d,e,c0,c1,hO⟩:=h.2 j hj
  have hb:=hA _ e;have e0:=qaC (w:=w) (w':=(w.setCell ⟨p,0,none⟩ u).setCell ⟨p,1,none⟩ u2) (b:=b) (qcx hb u u2);exact ⟨b,S,c,C,d,e,(e0 _).trans c0,(e0 _).trans c1,hO.box hz⟩
namespace Ly
theorem back_err {o:OpD} {p x:List Ten} {g:Ten} (h:Od.counts o p.length x.length≠0):back o p x g=(bnone,Od.counts o p.length x.length):=by unfold back;rw [inZ h]
theorem back_lay {o:OpD} {p x:List Ten} {g:Ten} (h:Od.counts o p.length x.length=0):back o p x g=layBack o p x g:=by unfold back;rw [ipZ h]
theorem layBack7 {o:OpD} {p x:List Ten} {g:Ten} (h:o.kind<=7):layBack o p x g=bseveral (pointBack o.kind o.k g x):=by
 unfold layBack;rw [inZ oZ,inZ oZ,inZ oZ,inZ oZ,inZ oZ,inZ oZ,inZ oZ,inZ oZ]
end Ly
theorem qfv (kind k0:Int) (A GS GC:Option Addr) (f gc gd:Nat) (g:Ten) (x:List Ten) (w:Zp1) (hn:x.length=1∨x.length=2) (hT:Tns w A x) (hG:TenIn w GS GC gc gd g) (hk0:Fx.In k0):
  Calls Tryz.prog 53 #[nQ iQ kind,nQ iQ k0,.agg #[sQ GS g.s.length gc,sQ GC g.c.length gd],sQ A x.length f] w (GoL (Ly.pointBack kind k0 g x) w):=by
 rcases hn with h|h
 ·exact qeA kind k0 A GS GC f gc gd g x w h hT hG hk0
 ·exact qeB kind k0 A GS GC f gc gd g x w h hT hG hk0
theorem qdo (A:Option Addr) (n c:Nat) (w:Zp1):
  Calls Tryz.prog 49 #[sQ A n c,nQ iQ 0] w λe w'=>e=.returned (.tuple #[.agg #[sQ none 0 0,sQ A n c],nQ iQ 0])/\Below w.heap.size w w':=by
 have hz:=Blk.new w 81 #[sQ none 0 0,sQ none 0 0];have hb:Later w (w.alloc (.cells #[sQ none 0 0,sQ none 0 0] 81)):=(Later.refl w).alloc _;obtain ⟨Hz,hc⟩:=zd2 hz hb;clear hz hb;go_enter Tryz.func49,Tryz.ntmps49;go_upto_region 1 with fail;generalize w.alloc (.cells #[sQ none 0 0,sQ none 0 0] 81)=w1 at *;have c0:=Hz.out.cell 0;have c1:=Hz.out.cell 1;have f0:=Hz.out.frozen 0;have f1:=Hz.out.frozen 1;have ha:=(Hz.out.set_ 0 (sQ none 0 0)).set_ 1 (sQ A n c);have d0:=ha.cell 0;have d1:=ha.cell 1;simp at c0 c1 d0 d1;go_wp2_with fail;refine Zk1 (v:=.tuple #[.agg #[sQ none 0 0,sQ A n c],nQ iQ 0]) (by simp [results,Tryz.results49,go_sem,d0,d1]) rfl ?_;exact ⟨rfl,(hc.out.set (p:=⟨w.heap.size,0,none⟩) (lrZ _) _).set (p:=⟨w.heap.size,1,none⟩) (lrZ _) _⟩
theorem qdp (A:Option Addr) (n c:Nat) (er:Int) (w:Zp1) (he:er≠0):
  Calls Tryz.prog 49 #[sQ A n c,nQ iQ er] w λe w'=>e=.returned (.tuple #[.agg #[sQ none 0 0,sQ none 0 0],nQ iQ er])/\Below w.heap.size w w':=by
 have hz:=Blk.new w 81 #[sQ none 0 0,sQ none 0 0];have hb:Later w (w.alloc (.cells #[sQ none 0 0,sQ none 0 0] 81)):=(Later.refl w).alloc _;have e1:(er != 0)=true:=by simpa using he
 have e2:(er==0)=false:=by simpa using he
 obtain ⟨Hz,hc⟩:=zd2 hz hb;clear hz hb;go_enter Tryz.func49,Tryz.ntmps49;go_upto_region 1 with fail;generalize w.alloc (.cells #[sQ none 0 0,sQ none 0 0] 81)=w1 at *;have c0:=Hz.out.cell 0;have c1:=Hz.out.cell 1;have f0:=Hz.out.frozen 0;have f1:=Hz.out.frozen 1;have ha:=(Hz.out.set_ 0 (sQ none 0 0)).set_ 1 (sQ none 0 0);have d0:=ha.cell 0;have d1:=ha.cell 1;simp at c0 c1 d0 d1;go_wp2_with fail;refine Zk1 (v:=.tuple #[.agg #[sQ none 0 0,sQ none 0 0],nQ iQ er]) (by simp [results,Tryz.results49,go_sem,d0,d1]) rfl ?_;exact ⟨rfl,(hc.out.set (p:=⟨w.heap.size,0,none⟩) (lrZ _) _).set (p:=⟨w.heap.size,1,none⟩) (lrZ _) _⟩
theorem qaP (w:Zp1) (o:OpD) (S:Option Addr) (c:Nat) (GS GC:Option Addr) (gc gd:Nat) (g:Ten):
  ∃w1,((w.alloc (.cells #[nQ iQ o.kind,nQ iQ o.k,nQ iQ o.width,nQ iQ o.step,nQ iQ o.side,nQ iQ o.frm,nQ iQ o.to,sQ S o.s.length c] 56)).alloc (.cells #[sQ GS g.s.length gc,sQ GC g.c.length gd] 30)).alloc (.cells #[sQ none 0 0,sQ none 0 0] 81)=w1/\Blk w1 w.heap.size 56 #[nQ iQ o.kind,nQ iQ o.k,nQ iQ o.width,nQ iQ o.step,nQ iQ o.side,nQ iQ o.frm,nQ iQ o.to,sQ S o.s.length c]/\Blk w1 (w.heap.size+1) 30 #[sQ GS g.s.length gc,sQ GC g.c.length gd]/\Blk w1 (w.heap.size+1+1) 81 #[sQ none 0 0,sQ none 0 0]/\Later w w1:=by
 have h2:=(Blk.new (w.alloc (.cells #[nQ iQ o.kind,nQ iQ o.k,nQ iQ o.width,nQ iQ o.step,nQ iQ o.side,nQ iQ o.frm,nQ iQ o.to,sQ S o.s.length c] 56)) 30 #[sQ GS g.s.length gc,sQ GC g.c.length gd]).alloc (.cells #[sQ none 0 0,sQ none 0 0] 81);have h3:=Blk.new ((w.alloc (.cells #[nQ iQ o.kind,nQ iQ o.k,nQ iQ o.width,nQ iQ o.step,nQ iQ o.side,nQ iQ o.frm,nQ iQ o.to,sQ S o.s.length c] 56)).alloc (.cells #[sQ GS g.s.length gc,sQ GC g.c.length gd] 30)) 81 #[sQ none 0 0,sQ none 0 0];simp only [Zh1] at h2 h3;exact ⟨_,rfl,((Blk.new w 56 #[nQ iQ o.kind,nQ iQ o.k,nQ iQ o.width,nQ iQ o.step,nQ iQ o.side,nQ iQ o.frm,nQ iQ o.to,sQ S o.s.length c]).alloc _).alloc _,h2,h3,(((Later.refl w).alloc _).alloc _).alloc _⟩
theorem op_back7 (o:OpD) (S P X GS GC:Option Addr) (c cp cx gc gd:Nat) (p x:List Ten) (g:Ten) (w:Zp1) (hk:o.kind<=7) (ho:o.s.length<=1048576) (hI:Ints iQ w S o.s) (hk0:Fx.In o.k) (hX:Tns w X x) (lX:x.length<=1048576) (hG:TenIn w GS GC gc gd g):
  Calls Tryz.prog 23 #[.agg #[nQ iQ o.kind,nQ iQ o.k,nQ iQ o.width,nQ iQ o.step,nQ iQ o.side,nQ iQ o.frm,nQ iQ o.to,sQ S o.s.length c],sQ P p.length cp,sQ X x.length cx,.agg #[sQ GS g.s.length gc,sQ GC g.c.length gd]] w (GoB (Ly.back o p x g) w):=by
 obtain ⟨w1,e1,hq,hp,hM,hL⟩:=qaP w o S c GS GC gc gd g;obtain ⟨HI,HX,HG,hF,hu,hm,hQ,h5,hP⟩:=zd9 hI hX hG hL hq hp hM hk0 e1;clear hI hX hG hL hq hp hM hk0 e1;go_enter Tryz.func23,Tryz.ntmps23;go_wp2_with fail;rw [hP.out];clear hP;refine (qaL o S c p.length x.length w1 oZ (HI.out.below hF.out (lrZ _))).mono ?_;rintro e w2 ⟨rfl,hK⟩;have hv:Later w1 w2:=hK;have hH:=hF.out.trans hv;have hz:=hv.blk hQ.out;have hi:=hv.blk hu.out;have hg:=hv.blk hm.out;clear hK hv hF hQ hu hm
 by_cases hc:Od.counts o p.length x.length=0
 case neg=>
  have HE:=zI (Ly.back_err (g:=g) hc);have Hc:=zI hc;have d2:(Od.counts o p.length x.length != 0)=true:=by simpa using hc
  clear hc;generalize Od.counts o p.length x.length=ge at *;have c0':=hz.cell 0;have c1':=hz.cell 1;have f0:=hz.frozen 0;have f1:=hz.frozen 1;have ha:=(hz.set_ 0 (sQ none 0 0)).set_ 1 (sQ none 0 0);have d0:=ha.cell 0;have d1:=ha.cell 1;simp at c0' c1' d0 d1;obtain ⟨HH,Hz,hY,hZ,hB⟩:=zd5 hH hz hi hg ha;clear hH hz hi hg ha;go_wp2_with fail;refine Zk1 (v:=.tuple #[.agg #[sQ none 0 0,sQ none 0 0],nQ iQ ge]) (by simp [results,Tryz.results23,go_sem,d0,d1]) rfl ?_;exact GoB.fail HE.out Hc.out ((HH.out.set (p:=⟨w.heap.size+2,0,none⟩) sZ _).set (p:=⟨w.heap.size+2,1,none⟩) sZ _)
 have hs:=Ly.counts_ok hc;have h9:=Od.right_kind hs.1
 have hA:x.length=1∨x.length=2:=by
  have h1:=hs.2.1;have h2:=hs.2.2.1;unfold Od.least Od.ptIns at h1;unfold Od.most Od.ptIns at h2;rw [ipZ hs.1,ipZ hk] at h1 h2
  split at h1
  ·rename_i hh;rw [ipZ hh] at h2;omega
  ·rename_i hh
   rw [inZ hh] at h2
   split at h1
   ·rename_i h3;rw [ipZ h3] at h2;omega
   ·omega
 have HE:=zI ((Ly.back_lay (g:=g) hc).trans (Ly.layBack7 hk));rw [hc];clear hs hc;have x0:w2.cell? ⟨w.heap.size,0,none⟩=some (nQ iQ o.kind):=by rw [hi.cell];rfl
 have x1:w2.cell? ⟨w.heap.size,1,none⟩=some (nQ iQ o.k):=by rw [hi.cell];rfl
 have g0:=hg.cell 0;have g1:=hg.cell 1;simp at g0 g1;have k8:(o.kind==8)=false:=by rw [beq_eq_false_iff_ne];omega
 have k9:(o.kind==9)=false:=by rw [beq_eq_false_iff_ne];omega
 have k10:(o.kind==10)=false:=by rw [beq_eq_false_iff_ne];omega
 have k11:(o.kind==11)=false:=by rw [beq_eq_false_iff_ne];omega
 have k12:(o.kind==12)=false:=by rw [beq_eq_false_iff_ne];omega
 have k13:(o.kind==13)=false:=by rw [beq_eq_false_iff_ne];omega
 have k14:(o.kind==14)=false:=by rw [beq_eq_false_iff_ne];omega
 have k15:(o.kind==15)=false:=by rw [beq_eq_false_iff_ne];omega
 have hb:=qfv o.kind o.k X GS GC cx gc gd g x w2 hA (HX.out.later hH) (HG.out.later hH) h5.out;obtain ⟨R,hR⟩:∃R,Ly.pointBack o.kind o.k g x=R:=⟨_,rfl⟩
 rw [hR] at hb HE;obtain ⟨HH,Hz,hY,hZ,hl,h8,HR⟩:=zd7 hH hz hi hg hb hA hR;clear hH hz hi hg hb hA hR;go_wp2_with fail;refine (hl.out).mono ?_;rintro e w3 ⟨⟨hC,rfl⟩|⟨h0,A,rfl,hO⟩,hx⟩
 ·have he:Later w2 w3:=hx
  have ht:Ly.bseveral R=(Ly.bnone,R.2):=by unfold Ly.bseveral;rw [inZ hC]
  rw [ht] at HE;have hj:=HH.out.trans he;have hw:=he.blk Hz.out;have hN:=zI hC;clear hx x0 x1 g0 g1 k8 k9 k10 k11 k12 k13 k14 k15 hC ht;generalize R.2=ge at *;obtain ⟨hT,hy,hD⟩:=zd3 he hj hw;clear he hj hw;go_wp2_with fail;refine (qdp none 0 0 ge w3 hN.out).mono ?_;rintro e w4 ⟨rfl,hr⟩;have hd:Later w3 w4:=hr;have hn:=hy.out.trans hd;have ha:=hd.blk hD.out;have c0':=ha.cell 0;have c1':=ha.cell 1;have f0:=ha.frozen 0;have f1:=ha.frozen 1;have hf:=(ha.set_ 0 (sQ none 0 0)).set_ 1 (sQ none 0 0);have d0:=hf.cell 0;have d1:=hf.cell 1;simp at c0' c1' d0 d1;clear hr;obtain ⟨hU,hJ,hB,h4⟩:=zd4 hd hn ha hf;clear hd hn ha hf;go_wp2_with fail;refine Zk1 (v:=.tuple #[.agg #[sQ none 0 0,sQ none 0 0],nQ iQ ge]) (by simp [results,Tryz.results23,go_sem,d0,d1]) rfl ?_;exact GoB.fail HE.out hN.out ((hJ.out.set (p:=⟨w.heap.size+2,0,none⟩) sZ _).set (p:=⟨w.heap.size+2,1,none⟩) sZ _)
 ·have he:Later w2 w3:=hx
  have ht:Ly.bseveral R=(⟨[],R.1⟩,0):=by unfold Ly.bseveral;rw [ipZ h0]
  rw [ht] at HE;have hj:=HH.out.trans he;have hw:=he.blk Hz.out;have h7:=Hz.out.lt;have h6:=HH.out.size;clear hx x0 x1 g0 g1 k8 k9 k10 k11 k12 k13 k14 k15 ht h0;obtain ⟨hT,hy,hD,HO⟩:=zd4 he hj hw hO;clear he hj hw hO;go_wp2_with fail;refine (qdo A R.1.length R.1.length w3).mono ?_;rintro e w4 ⟨rfl,hr⟩;have hd:Later w3 w4:=hr;have hn:=hy.out.trans hd;have ha:=hd.blk hD.out;have hE:=HO.out.later hd
  have hS:∀a,A=some a->a.block≠w.heap.size+2:=λa e=>by
   obtain ⟨b,h1,h2,-,-⟩:=hE.1 a e;rw [h1]
   show b≠_
   omega
  have c0':=ha.cell 0;have c1':=ha.cell 1;have f0:=ha.frozen 0;have f1:=ha.frozen 1;have hf:=(ha.set_ 0 (sQ none 0 0)).set_ 1 (sQ A R.1.length R.1.length);have d0:=hf.cell 0;have d1:=hf.cell 1;simp at c0' c1' d0 d1;clear hr;obtain ⟨hU,hJ,hB,h4,hW,hV⟩:=zd6 hd hn ha hf hE hS;clear hd hn ha hf hE hS;go_wp2_with fail;refine Zk1 (v:=.tuple #[.agg #[sQ none 0 0,sQ A R.1.length R.1.length],nQ iQ 0]) (by simp [results,Tryz.results23,go_sem,d0,d1]) rfl ?_;rw [HE.out];exact ⟨.inr ⟨rfl,none,A,rfl,TnsO.nil _ _,(hW.out.base h6).box hB.out hV.out _ _⟩,(hJ.out.set (p:=⟨w.heap.size+2,0,none⟩) sZ _).set (p:=⟨w.heap.size+2,1,none⟩) sZ _⟩
theorem qbe:(Tryz.prog.info? 30).map (λi=>(i.zero,i.size,i.bytes))=some (some (.agg #[sQ none 0 0,sQ none 0 0]),2,48):=by kernel_rfl
theorem qbf (k:Nat):(madeCells #[Zb1 none 0 0,Zb1 none 0 0] k).toList=Zc k (Zb1 none 0 0):=by
 unfold madeCells;rw [Array.toList_map,Array.toList_range];apply List.ext_getElem
 ·simp
 ·intro i h1 h2
  simp only [List.getElem_map,List.getElem_range,List.getElem_replicate];rcases Nat.mod_two_eq_zero_or_one i with e|e
  ·simp [e]
  ·simp [e]
theorem qcy {w:Zp1} {B e size n g:Nat} {xs:List Value} (h:w.ownsRow B e size (sQ (some ⟨g,0,none⟩) n n) n xs):Blk w g e xs.toArray:=by
 rcases h.2 with ⟨h1,_⟩|⟨g',cap,cur,e1,_,hh,_,_,hs,ht⟩
 ·cases h1
 ·injection e1 with e1 _ e2
  injection e1 with e1
  injection e1 with e1 _ _
  subst e1 e2;have:cur.toList=xs:=by rw [←ht,List.take_of_length_le soZ]
  rw [←this];exact hh
theorem RowT.tnsB {w w':Zp1} {vs:List Value} {ts:List Ten} {G:Nat} {t:TypeId} (h:RowT w vs ts) (hb:Below w.heap.size w w') (hG:Blk w' G t vs.toArray):Tns w' (some ⟨G,0,none⟩) ts:=λj hj=>by
 obtain ⟨S,c,C,d,e1,e2,e3⟩:=h.2 j hj;refine ⟨G,0,S,c,C,d,rfl,hG.lt,?_,?_,e3.below hb (lrZ _)⟩
 ·rw [Zw,hG.cell];simpa using e1
 ·rw [Zw,hG.cell];simpa using e2
theorem fill_two {vs:List Value} {m k:Nat} {a b z:Value} (hl:vs.length=k*2) (hk:k<m):
  (((vs++Zc ((m-k)*2) z).set (k*2) a).set (k*2+1) b)=(vs++[a,b])++Zc ((m-(k+1))*2) z:=by
 have e:(m-k)*2=(m-(k+1))*2+1+1:=by omega
 rw [e,List.replicate_succ,List.replicate_succ,List.set_append_right _ _ oZ,hl,Nat.sub_self,List.set_cons_zero,List.set_append_right _ _ oZ,hl,Nat.add_sub_cancel_left,List.set_cons_succ,List.set_cons_zero,List.append_assoc]
 rfl
def RowO (B:Nat) (w:Zp1) (vs:List Value) (ts:List Ten):Prop:=
 vs.length=ts.length*2/\∀j (hj:j<ts.length),∃S c C d,vs[j*2]? = some (sQ S ts[j].s.length c)/\vs[j*2+1]? = some (sQ C ts[j].c.length d)/\TenO B w (.agg #[sQ S ts[j].s.length c,sQ C ts[j].c.length d]) ts[j]
theorem RowO.later {B:Nat} {w w':Zp1} {vs:List Value} {ts:List Ten} (h:RowO B w vs ts) (hl:Later w w'):RowO B w' vs ts:=
 ⟨h.1,λj hj=>by obtain ⟨S,c,C,d,e1,e2,e3⟩:=h.2 j hj;exact ⟨S,c,C,d,e1,e2,e3.later hl⟩⟩
theorem TenO.ten {B:Nat} {w:Zp1} {S C:Option Addr} {c d:Nat} {t:Ten} (h:TenO B w (.agg #[sQ S t.s.length c,sQ C t.c.length d]) t):TenIn w S C c d t:=by
 obtain ⟨S',c',C',d',e,hT,-,-⟩:=h;simp at e;obtain ⟨⟨rfl,rfl⟩,rfl,rfl⟩:=e;exact hT
theorem RowO.rowT {B:Nat} {w:Zp1} {vs:List Value} {ts:List Ten} (h:RowO B w vs ts):RowT w vs ts:=
 ⟨h.1,λj hj=>by obtain ⟨S,c,C,d,e1,e2,e3⟩:=h.2 j hj;exact ⟨S,c,C,d,e1,e2,e3.ten⟩⟩
theorem RowO.set {B:Nat} {w:Zp1} {vs:List Value} {ts:List Ten} {S C:Option Addr} {c d k:Nat} {t:Ten} (h:RowO B w vs ts) (hk:k<ts.length) (ht:TenO B w (.agg #[sQ S t.s.length c,sQ C t.c.length d]) t):
  RowO B w ((vs.set (k*2) (sQ S t.s.length c)).set (k*2+1) (sQ C t.c.length d)) (ts.set k t):=by
 have hl:=h.1;refine ⟨by simp [hl],λj hj=>?_⟩;rw [List.length_set] at hj
 by_cases e:j=k
 ·subst e
  refine ⟨S,c,C,d,?_,?_,?_⟩
  ·rw [Zs oZ,Zr oZ];simp
  ·rw [Zr soZ];simp
  ·simpa using ht
 ·obtain ⟨S',c',C',d',e1,e2,e3⟩:=h.2 j hj
  have e4:(ts.set k t)[j]'(by simpa using hj)=ts[j]:=by rw [List.getElem_set_ne (λq=>e q.symm)]
  refine ⟨S',c',C',d',?_,?_,?_⟩
  ·rw [e4,Zs oZ,Zs oZ];exact e1
  ·rw [e4,Zs oZ,Zs oZ];exact e2
  ·rw [e4];exact e3
theorem qgs (B:Nat) (w:Zp1):TenO B w (.agg #[sQ none Ly.none_.s.length 0,sQ none Ly.none_.c.length 0]) Ly.none_:=
 ⟨none,0,none,0,rfl,⟨⟨Ints.nil,Ints.nil⟩,lrZ _,by omega,lrZ _,by omega,by simp [Ly.none_],by simp [Ly.none_],by intro z hz;simp [Ly.none_] at hz⟩,λa e=>(by cases e),λa e=>(by cases e)⟩
theorem RowO.zeros (B:Nat) (w:Zp1) (m:Nat):RowO B w (Zc (m*2) (Zb1 none 0 0)) (Zc m Ly.none_):=by
 refine ⟨by simp,λj hj=>?_⟩;rw [List.length_replicate] at hj;refine ⟨none,0,none,0,?_,?_,?_⟩
 ·rw [List.getElem?_replicate,ipZ oZ];simp [Ly.none_]
 ·rw [List.getElem?_replicate,ipZ oZ];simp [Ly.none_]
 ·rw [List.getElem_replicate];exact qgs B w
theorem RowO.tnsO {B G:Nat} {w:Zp1} {vs:List Value} {ts:List Ten} {t:TypeId} (h:RowO B w vs ts) (hG:Blk w G t vs.toArray) (hB:B<=G):TnsO B w (some ⟨G,0,none⟩) ts:=by
 refine ⟨λa e=>?_,λj hj=>?_⟩
 ·injection e with e;subst e;exact ⟨G,rfl,hB,hG.lt,λk=>hG.frozen k⟩
 ·obtain ⟨S,c,C,d,e1,e2,e3⟩:=h.2 j hj
  exact ⟨G,S,c,C,d,rfl,by rw [hG.cell];simpa using e1,by rw [hG.cell];simpa using e2,e3⟩
theorem Tns.part {w:Zp1} {b off:Nat} {ts:List Ten} (h:Tns w (some ⟨b,off,none⟩) ts) (k m:Nat):Tns w (some ⟨b,off+k*2,none⟩) ((ts.drop k).take m):=λj hj=>by
 have ha:k+j<ts.length:=by simp at hj;omega
 obtain ⟨b',off',S,c,C,d,e,hl,c0,c1,hT⟩:=h (k+j) ha;injection e with e
 injection e with e1 e2
 subst e1 e2;have eg:((ts.drop k).take m)[j]=ts[k+j]:=by simp
 refine ⟨b,off+k*2,S,c,C,d,rfl,hl,?_,?_,?_⟩
 ·rw [eg,show off+k*2+j*2=off+(k+j)*2 by omega];exact c0
 ·rw [eg,show off+k*2+j*2+1=off+(k+j)*2+1 by omega];exact c1
 ·rw [eg];exact hT
theorem TenO.far2 {B:Nat} {w:Zp1} {S C:Option Addr} {c d p:Nat} {u u2:Value} {t:Ten} (h:TenO B w (.agg #[sQ S t.s.length c,sQ C t.c.length d]) t) (hS:∀a,S=some a->a.block≠p) (hC:∀a,C=some a->a.block≠p):
  TenO B ((w.setCell ⟨p,0,none⟩ u).setCell ⟨p,1,none⟩ u2) (.agg #[sQ S t.s.length c,sQ C t.c.length d]) t:=by
 obtain ⟨S',c',C',d',e,hT,h1,h2⟩:=h;simp at e;obtain ⟨⟨rfl,rfl⟩,rfl,rfl⟩:=e
 have hi:∀ {A:Option Addr} {l:List Int},(∀a,A=some a->a.block≠p)->Ints iQ w A l->Ints iQ ((w.setCell ⟨p,0,none⟩ u).setCell ⟨p,1,none⟩ u2) A l:=fun {A l} hA hI j hj=>by
  obtain ⟨b,off,e,hl,hc⟩:=hI j hj;exact ⟨b,off,e,by simpa using hl,(qaC (qcx (hA _ e) u u2) _).trans hc⟩
 refine ⟨S,c,C,d,rfl,{ hT with r:=⟨hi hS hT.r.1,hi hC hT.r.2⟩ },h1,λa e=>?_⟩;obtain ⟨k1,k2,k3⟩:=h2 a e;exact ⟨k1,by simpa using k2,λj=>by rw [World.frozen?_setCell,World.frozen?_setCell];exact k3 j⟩
theorem Ints.off {w:Zp1} {A:Option Addr} {l:List Int} {p i k:Nat} {T:TypeId} {vs:List Value} (h:Ints iQ w A l) (hz:Blk w p T vs.toArray) (hv:∀u∈vs,∃A n c,u=Zb1 A n c) (u u2:Value):Ints iQ ((w.setCell ⟨p,i,none⟩ u).setCell ⟨p,k,none⟩ u2) A l:=λj hj=>by
 obtain ⟨b,off,e,hl,hc⟩:=h j hj
 have ha:b≠p:=by
  rintro rfl;rw [hz.cell,Zk] at hc;obtain ⟨_,_,_,e2⟩:=hv _ (List.mem_of_getElem? hc);cases e2
 exact ⟨b,off,e,by simpa using hl,(qaC ((Below.heap_setCell _ ⟨p,k,none⟩ u2 b ha).trans (Below.heap_setCell w ⟨p,i,none⟩ u b ha)) _).trans hc⟩
theorem TenO.off {B p i k:Nat} {w:Zp1} {v:Value} {t:Ten} {T:TypeId} {vs:List Value} (h:TenO B w v t) (hz:Blk w p T vs.toArray) (hv:∀u∈vs,∃A n c,u=Zb1 A n c) (u u2:Value):TenO B ((w.setCell ⟨p,i,none⟩ u).setCell ⟨p,k,none⟩ u2) v t:=by
 obtain ⟨S,c,C,d,h1,h2,h3,h4⟩:=h;refine ⟨S,c,C,d,h1,{ h2 with r:=⟨h2.r.1.off hz hv u u2,h2.r.2.off hz hv u u2⟩ },h3,λa e=>?_⟩;obtain ⟨k1,k2,k3⟩:=h4 a e;exact ⟨k1,by simpa using k2,λj=>by rw [World.frozen?_setCell,World.frozen?_setCell];exact k3 j⟩
theorem RowO.off {B p i k:Nat} {w:Zp1} {us:List Value} {ts:List Ten} {T:TypeId} {vs:List Value} (h:RowO B w us ts) (hz:Blk w p T vs.toArray) (hv:∀u∈vs,∃A n c,u=Zb1 A n c) (u u2:Value):RowO B ((w.setCell ⟨p,i,none⟩ u).setCell ⟨p,k,none⟩ u2) us ts:=
 ⟨h.1,λj hj=>by obtain ⟨S,c,C,d,e1,e2,e3⟩:=h.2 j hj;exact ⟨S,c,C,d,e1,e2,e3.off hz hv u u2⟩⟩
theorem qaT {P:Program} {ρ:Operand->Value} {o:Oper} {w:Zp1} {t e:TypeId} {x lo hi:Operand} {A:Option Addr} {n c l m:Nat} (ho:o.op=.slice t x (some lo) (some hi) none)
  (hu:P.underlying t=some (.slice e)) (hs:(P.info? e).map (·.size)=some 2) (hx:ρ x=sQ A n c) (hl:ρ lo=nQ iQ (l:Int)) (hh:ρ hi=nQ iQ ((l:Int)+(m:Int))) (hc:l+m<=c):
  (execOp ρ o).run P w=.ok (.value (.slice (if c=l then A else A.map λa=>a.add (l*2)) m (c-l))) w:=by
 cases hq:P.info? e with
 | none=>simp [hq] at hs
 | some i=>
  have hb:i.size=2:=by simpa [hq] using hs
  have e1:(0:Int)<=(l:Int):=by omega
  have e2:(0:Int)<=(l:Int)+(m:Int):=by omega
  have e3:(l:Int)+(m:Int)<=(c:Int):=by omega
  have e4:(l:Int)<=(((l:Int)+(m:Int)).toNat:Int):=by omega
  have e5:((l:Int)+(m:Int)).toNat-l=m:=by omega
  have he:P.elem t=e:=by simp [Program.elem,hu]
  have ha:P.underlying t=some (.slice (P.elem t)):=by rw [he];exact hu
  have hr:(Instr.sliceAt t (Zb1 A n c) (some (Za1 iQ (l:Int))) (some (Za1 iQ ((l:Int)+(m:Int)))) none).run P w=.ok (.slice (if c=l then A else A.map λa=>a.add (l*2)) m (c-l)) w:=by
   rw [run_sliceAt_slice (h:=ha),run_slice_lh (ht:=ha) (h0:=e1) (h1:=by omega) (h2:=e3),he];simp [sizeOf,typeInfo,hq,hb,sliced,Result.andThen,e5]
  unfold execOp;simp [ho,hx,hl,hh,hr,Result.andThen]
theorem qd4 {w:Zp1} {P:Option Addr} {ps:List Ten} {cp fr tl:Nat} (hP:Tns w P ps) (kP:ps.length<=cp) (nP:P=none->cp=0) (h1:fr<=tl) (h2:tl<=ps.length):
  Tns w (if cp=fr then P else P.map λa=>a.add (fr*2)) ((ps.drop fr).take (tl-fr)):=by
 by_cases he:fr=tl
 ·subst he
  rw [Nat.sub_self,List.take_zero];exact Tns.nil _ _
 ·rw [inZ oZ]
  obtain ⟨b,off,S,c,C,d,rfl,-⟩:=hP 0 oZ;have:=hP.part fr (tl-fr);simpa [qaV] using this
def FwCut (w0:Zp1) (B:Nat) (R:Ten × Int) (a b:Value) (wx:Zp1):Prop:=
 ∃S c C d tb,a=.pointer (some ⟨tb,0,none⟩)/\b=nQ iQ R.2/\Blk wx tb 30 #[sQ S R.1.s.length c,sQ C R.1.c.length d]/\(R.2=0->TenO B wx (.agg #[sQ S R.1.s.length c,sQ C R.1.c.length d]) R.1)/\Later w0 wx
namespace Pn
def from_ (ns:List NodeD) (k:Nat):Nat:=((ns.take k).flatMap (·.p)).length
def part (n:NetD) (id:Int):Int × Int:=if id<1∨(n.nodes.length:Int)<id then (0,0) else ((from_ n.nodes (id.toNat-1):Int),(from_ n.nodes id.toNat:Int))
def pickT (vals:List Ten) (ins:List Int):List Ten:=ins.map λi=>Ly.got vals i.toNat
theorem from_succ {ns:List NodeD} {k:Nat} (h:k<ns.length):from_ ns (k+1)=from_ ns k+ns[k].p.length:=by
 unfold from_;rw [Zb h,Zj,Ze];simp
end Pn
theorem qd5 (A N:Option Addr) (c d:Nat) (n:NetD) (id:Int) (w:Zp1) (hok:n.ok) (hR:NetR w A N n) (hd:n.nodes.length<=d) (hi1 : -9223372036854775808<=id) (hi2:id<=9223372036854775807):
  Calls Tryz.prog 22 #[.agg #[sQ A n.inn.length c,sQ N n.nodes.length d],nQ iQ id] w λe w'=>e=.returned (.tuple #[nQ iQ (Pn.part n id).1,nQ iQ (Pn.part n id).2])/\Below w.heap.size w w':=by
 have hi:=Blk.new w 26 #[sQ A n.inn.length c,sQ N n.nodes.length d];have hj:Later w (w.alloc (.cells #[sQ A n.inn.length c,sQ N n.nodes.length d] 26)):=(Later.refl w).alloc _;have hz:=hok.2.1;have hq:∀k,Pn.from_ n.nodes k<=k*1048576:=λk=>qcX hok k
 obtain ⟨hp,HR,hv,he,hn⟩:=zd5 hok hR hi hj hq;clear hok hR hi hj hq;go_enter Tryz.func22,Tryz.ntmps22;go_upto_region 1 with fail;generalize w.alloc (.cells #[sQ A n.inn.length c,sQ N n.nodes.length d] 26)=w1 at *;have a1:=hv.out.cell 1;simp at a1
 by_cases h1:id<1
 ·have HE:=zI (show Pn.part n id=(0,0) by unfold Pn.part;rw [ipZ (.inl h1)])
  have d1:decide (id<1)=true:=by simpa using h1
  go_wp2_with fail;refine Zk1 (v:=.tuple #[nQ iQ 0,nQ iQ 0]) (by simp [results,Tryz.results22,go_sem]) rfl ?_;rw [HE.out];exact ⟨rfl,he.out⟩
 have d1:decide (id<1)=false:=by simpa using h1
 by_cases h2:(n.nodes.length:Int)<id
 ·have HE:=zI (show Pn.part n id=(0,0) by unfold Pn.part;rw [ipZ (.inr h2)])
  have d2:decide ((n.nodes.length:Int)<id)=true:=by simpa using h2
  go_wp2_with fail;refine Zk1 (v:=.tuple #[nQ iQ 0,nQ iQ 0]) (by simp [results,Tryz.results22,go_sem]) rfl ?_;rw [HE.out];exact ⟨rfl,he.out⟩
 have d2:decide ((n.nodes.length:Int)<id)=false:=by simpa using h2
 obtain ⟨m,rfl⟩:∃m:Nat,id=(m:Int)+1:=⟨(id-1).toNat,by omega⟩
 have HE:=zI (show Pn.part n ((m:Int)+1)=((Pn.from_ n.nodes m:Int),(Pn.from_ n.nodes (m+1):Int)) by
  unfold Pn.part;rw [inZ oZ,show ((m:Int)+1).toNat=m+1 by omega]
  rfl)
 have hm:m<n.nodes.length:=by omega
 have q0:iQ.wrap ((m:Int)+1-1)=(m:Int):=by rw [show (m:Int)+1-1=(m:Int) by omega];exact Zc1 _ oZ
 have q1:(m:Int)+1-1=(m:Int):=by omega
 have q2:(m:Int)<=(d:Int):=by omega
 have q3:(m:Int)<(n.nodes.length:Int):=by omega
 clear h1 h2;have hl:=Pn.from_succ hm;have hh:=zI hl;clear hl;go_upto_region 3 with fail;clear d1 d2;go_wp2_with fail
 go_loopw [4,23] (λf i wx=>∃k:Nat,k<=m/\i=nQ iQ (k:Int)/\f=nQ iQ (Pn.from_ n.nodes k:Int)/\Later w1 wx) (λ_ i _=>m-(intOf i).toNat)
 case atStart=>exact ⟨0,Zt _,rfl,rfl,Later.refl _⟩
 case round=>
  obtain ⟨k,hk,rfl,rfl,hb⟩:=hrel
  by_cases hy:k<m
  ·have ha:k<n.nodes.length:=by omega
   obtain ⟨b,off,S,sc,J,ic,Q,qc,rfl,hc,-,-,-⟩:=HR.out.2.at_ ha;have hs:=Pn.from_succ ha;have hr:=hn.out k;have hx:=(hp.out.2.2 _ (gmZ ha)).2.2.2.1;have ht:k*1048576<=1048576*1048576:=mlZ _ oZ;generalize n.nodes[k]=v at *;obtain ⟨⟨y0,y1,y2,y3,y4,y5,y6,y7,y8,y9⟩,-⟩:=hc.below (he.out.trans hb);generalize Pn.from_ n.nodes k=fk at *;have Hs:=zI hs;clear hs;have r1:iQ.wrap ((fk:Int)+(v.p.length:Int))=(fk:Int)+(v.p.length:Int):=Zc1 _ oZ;have r2:(k:Int)<(m:Int):=by omega
   have ho:=zI hb;clear hb;clear hc;go_wp2_with fail;go_roundw
   case rel=>exact ⟨k+1,by omega,by go_num,by rw [Hs.out];simp,ho.out.alloc _⟩
   case measure=>simp [intOf];omega
  ·obtain rfl:k=m:=by omega
   obtain ⟨b,off,S,sc,J,ic,Q,qc,rfl,hc,-,-,-⟩:=HR.out.2.at_ hm;have hr:=hn.out k;have hx:=(hp.out.2.2 _ (gmZ hm)).2.2.2.1;have ht:k*1048576<=1048576*1048576:=mlZ _ oZ;have hf:=HE.out;have hg:=he.out.trans hb;obtain ⟨⟨y0,y1,y2,y3,y4,y5,y6,y7,y8,y9⟩,-⟩:=hc.below hg;have a1':=hb.cell a1;rw [hh.out] at hf;have hu:=zI hf;clear hf HE hh;generalize n.nodes[k]=v at *;generalize Pn.from_ n.nodes k=fk at *;have r1:iQ.wrap ((fk:Int)+(v.p.length:Int))=(fk:Int)+(v.p.length:Int):=Zc1 _ oZ;have r3:iQ.wrap (k:Int)=(k:Int):=Zc1 _ oZ;obtain ⟨ho,hw⟩:=zd2 hb hg;clear hb hg;clear hc y0 y1 y2 y3 y4 y5 y6 y7 y8 a1;go_wp2_with fail;have KF:=zI (show ∀Xw,Later wr Xw->Xw.cell? ⟨w.heap.size,1,none⟩=some (sQ (some ⟨b,off,none⟩) n.nodes.length d)/\Xw.cell? ⟨b,off+k*10+9,none⟩=some (sQ Q v.p.length qc) from λXw h=>⟨h.cell a1',h.cell y9⟩);refine Zm1 ?_;refine Zl1 (S:=λXw=>Xw.cell? ⟨w.heap.size,1,none⟩=some (sQ (some ⟨b,off,none⟩) n.nodes.length d)/\Xw.cell? ⟨b,off+k*10+9,none⟩=some (sQ Q v.p.length qc)) krZ (KF.out _ Lau) (λhHeld=>?_);refine tk 0 ?_;refine tk 1 ?_;refine tk 2 ?_;refine tk 3 ?_;refine tk 4 ?_;refine tk 5 ?_;refine tk 6 ?_;refine tk 7 ?_;refine tk 8 ?_;refine tk 9 ?_;refine tk 10 ?_;refine tk 11 ?_;refine tk 12 ?_;clear KF;refine Zn1 krZ ?_ _;refine Zd1 ?_;go_wp2_with fail;refine Zk1 (v:=.tuple #[nQ iQ (fk:Int),nQ iQ ((fk:Int)+(v.p.length:Int))]) (by simp [results,Tryz.results22,go_sem]) rfl ?_;rw [hu.out];exact ⟨by simp,hw.out.drew⟩
def PickP (ts:List Ten) (w:Zp1) (e:Ending) (w':Zp1):Prop:=∃G,e=.returned (sQ (some ⟨G,0,none⟩) ts.length ts.length)/\w.heap.size<=G/\Tns w' (some ⟨G,0,none⟩) ts/\Below w.heap.size w w'
theorem qd6 (V I:Option Addr) (vc ic:Nat) (vals:List Ten) (ins:List Int) (w:Zp1) (hV:Tns w V vals) (lV:vals.length<=1048577) (hI:Ints iQ w I ins) (lI:ins.length<=1048576) (hr:∀i∈ins,0<=i/\i<vals.length):
  Calls Tryz.prog 24 #[sQ V vals.length vc,sQ I ins.length ic] w (PickP (Pn.pickT vals ins) w):=by
 obtain ⟨HV,HI,Hr⟩:=zd3 hV hI hr;clear hV hI hr;go_enter Tryz.func24,Tryz.ntmps24;obtain ⟨i0,hi,hA,ht,hn⟩:=info_parts qbe;go_wp2_with (at_make;refine wpList_make_full _ rfl _ _ 27 rfl w.heap.size 30 i0 (.agg #[sQ none 0 0,sQ none 0 0]) 2 Tryz.underlying27 hi hA ht _ _ _ _ ins.length rfl rfl (by first|rfl|simp) (by first|rfl|simp) ?b2 ?b3 (lrZ _) ?_)
 case b2=>rw [hn];omega
 case b3=>unfold maxLen;omega
 intro w1 hown hgrow;clear hi hA ht hn
 have hd:Blk w1 w.heap.size 30 (([]:List Value)++Zc ((ins.length-0)*2) (Zb1 none 0 0)).toArray:=by
  have h:=qcy hown;rw [qbf] at h;simpa using h
 have hs:Later w w1:=(Ze1 _ w).grown hgrow (lrZ _) sZ;clear hown hgrow;obtain ⟨hf,hw⟩:=zd2 hd hs;clear hd hs;go_wp2_with fail
 go_loopw [13] (λi wx=>∃(k:Nat) (vs:List Value),k<=ins.length/\i=nQ iQ (k:Int)/\Blk wx w.heap.size 30 (vs++Zc ((ins.length-k)*2) (Zb1 none 0 0)).toArray/\RowT w vs (Pn.pickT vals (ins.take k))/\Later w wx) (λi _=>ins.length-(intOf i).toNat)
 case atStart=>exact ⟨0,[],Zt _,rfl,hf.out,RowT.nil w,hw.out⟩
 case round=>
  obtain ⟨k,vs,hk,rfl,hG,hb,ha⟩:=hrel;clear hf hw
  by_cases he:k<ins.length
  ·obtain ⟨b,off,rfl,-,hF⟩:=(HI.out.below ha (lrZ _)) k he
   have hl:=Hr.out _ (gmZ he);obtain ⟨j,hj⟩:=ezZ hl.1;have hq:ins.getD k 0=(j:Int):=by rw [gdZ,geZ he,←hj];rfl
   rw [hq] at hF;have hu:j<vals.length:=by omega
   have hV:=HV.out;obtain ⟨b',off',S',sc,C',cc,rfl,-,p0,p1,hT⟩:=(HV.out.later ha).at_ hu;obtain ⟨b2,off2,S2,sc2,C2,cc2,e2,-,p2,p3,hx⟩:=HV.out.at_ hu;have hS:=(ha.cell p2).symm.trans (by injection e2 with e2;injection e2 with e3 e4;subst e3 e4;exact p0);have hC:=(ha.cell p3).symm.trans (by injection e2 with e2;injection e2 with e3 e4;subst e3 e4;exact p1);simp at hS hC;obtain ⟨rfl,rfl⟩:=hS;obtain ⟨rfl,rfl⟩:=hC
   have hz:Pn.pickT vals (ins.take (k+1))=Pn.pickT vals (ins.take k)++[Ly.got vals j]:=by
    unfold Pn.pickT;rw [Zb he,List.map_append,hj]
    rfl
   have hm:vs.length=k*2:=by have:=hb.1;simp [Pn.pickT] at this;omega
   have hc:=hb.append (RowT.one hx);rw [←hz] at hc;have ho:=fill_two (m:=ins.length) (a:=sQ S2 (Ly.got vals j).s.length sc2) (b:=sQ C2 (Ly.got vals j).c.length cc2) (z:=Zb1 none 0 0) hm he;have q0:∃u,wr.cell? ⟨w.heap.size,k*2,none⟩=some u:=by rw [hG.cell];exact ⟨_,by rw [Zk,geZ soZ]⟩
   have q1:∃u,wr.cell? ⟨w.heap.size,k*2+1,none⟩=some u:=by rw [hG.cell];exact ⟨_,by rw [Zk,geZ soZ]⟩
   obtain ⟨u0,q0⟩:=q0;obtain ⟨u1,q1⟩:=q1;have f0:=hG.frozen (k*2);have f1:=hG.frozen (k*2+1);have r1:(k:Int)<(ins.length:Int):=by omega
   have r2:(j:Int)<(vals.length:Int):=by omega
   generalize Ly.got vals j=t at *
   have hv:Blk ((wr.setCell ⟨w.heap.size,k*2,none⟩ (sQ S2 t.s.length sc2)).setCell ⟨w.heap.size,k*2+1,none⟩ (sQ C2 t.c.length cc2)) w.heap.size 30 ((vs++[Zb1 S2 t.s.length sc2,Zb1 C2 t.c.length cc2])++Zc ((ins.length-(k+1))*2) (Zb1 none 0 0)).toArray:=by
    have:=(hG.set_ (k*2) (sQ S2 t.s.length sc2)).set_ (k*2+1) (sQ C2 t.c.length cc2);rw [←ho];simpa using this
   have hy:=(ha.set (p:=⟨w.heap.size,k*2,none⟩) (lrZ _) (sQ S2 t.s.length sc2)).set (p:=⟨w.heap.size,k*2+1,none⟩) (lrZ _) (sQ C2 t.c.length cc2);clear hq hl hj hV hT hx p2 p3 e2 hz hm ho;obtain ⟨HG,hp,hh,hg,hH,hD⟩:=zd6 hG hb ha hc hv hy;clear hG hb ha hc hv hy;go_wp2_with fail;go_roundw
   case rel=>exact ⟨k+1,_,by omega,by go_num,hH.out,hg.out,hD.out⟩
   case measure=>simp [intOf];omega
  ·obtain rfl:k=ins.length:=by omega
   rw [Nat.sub_self,Nat.zero_mul,List.replicate_zero,List.append_nil] at hG;rw [Zg] at hb;have hB:(Pn.pickT vals ins).length=ins.length:=by simp [Pn.pickT]
   obtain ⟨HG,hp,hh,hE⟩:=zd4 hG hb ha hB;clear hG hb ha hB;go_wp2_with fail;go_ret;exact ⟨w.heap.size,by (rw [hE.out]<;>rfl),lrZ _,hp.out.tnsB hh.out HG.out,hh.out⟩
namespace Ly
def flat (w:Ten):Bool:=Tn.right w&&decide (w.s.length=2)
theorem flat_yes {w:Ten} (h:flat w=true):Tn.right w=true/\w.s.length=2:=by simpa [flat] using h
theorem dense_w {w b x:Ten} (h:flat w=false):denseOk w b x=false:=by unfold flat at h;unfold denseOk;rw [h];simp
theorem dense_b {w b x:Ten} (h:Tn.right b=false):denseOk w b x=false:=by unfold denseOk;rw [h];simp
theorem dense_x {w b x:Ten} (h:Tn.right x=false):denseOk w b x=false:=by unfold denseOk;rw [h];simp
theorem dense_s {w b x:Ten} (h:(b.s==[at_ w.s 0])=false):denseOk w b x=false:=by
 have:¬b.s=[at_ w.s 0]:=by simpa using h
 unfold denseOk;simp [this]
theorem dense_all {w b x:Ten} (h1:flat w=true) (h2:Tn.right b=true) (h3:Tn.right x=true) (h4:(b.s==[at_ w.s 0])=true):denseOk w b x=((x.c.length:Int)==at_ w.s 1):=by
 obtain ⟨a,c⟩:=flat_yes h1;have:b.s=[at_ w.s 0]:=by simpa using h4
 unfold denseOk;rw [a,h2,h3,decide_eq_true c,decide_eq_true this];simp;rw [Bool.eq_iff_iff];simp
theorem dense_yes {w b x:Ten} (h:denseOk w b x=true):Tn.right w=true/\w.s.length=2/\Tn.right b=true/\Tn.right x=true/\b.s=[at_ w.s 0]/\(x.c.length:Int)=at_ w.s 1:=by simpa [denseOk,and_assoc] using h
end Ly
theorem qfw (S C:Option Addr) (c d:Nat) (t:Ten) (w:Zp1) (ht:TenIn w S C c d t):
  Calls Tryz.prog 127 #[.agg #[sQ S t.s.length c,sQ C t.c.length d]] w λe w'=>e=.returned (.bool (Ly.flat t))/\Below w.heap.size w w':=by
 have hf:Later w (w.alloc (.cells #[sQ S t.s.length c,sQ C t.c.length d] 30)):=(Later.refl w).alloc _;have hk:=Blk.new w 30 #[sQ S t.s.length c,sQ C t.c.length d];have l1:=ht.l1;have l2:=ht.l2;obtain ⟨hd,Hk,Ht⟩:=zd3 hf hk ht;clear hf hk ht;go_enter Tryz.func127,Tryz.ntmps127;go_wp2_with fail;generalize w.alloc (.cells #[sQ S t.s.length c,sQ C t.c.length d] 30)=w1 at *;refine (qa5 S C c d t w1 oZ oZ (Ht.out.later hd.out).r.1).mono ?_;rintro e w2 ⟨rfl,hg⟩;have hb:Later w1 w2:=hg;have ha:=hb.blk Hk.out;have c0:=ha.cell 0;simp at c0;clear hg;cases hr:Tn.right t
 ·have HE:=zI (show Ly.flat t=false by simp [Ly.flat,hr])
  clear hr;obtain ⟨hc,he⟩:=zd2 hb ha;clear hb ha;go_wp2_with fail;go_ret;exact ⟨by rw [HE.out];rfl,hd.out.trans hc.out⟩
 ·by_cases h:t.s.length=2
  ·have HE:=zI (show Ly.flat t=true by simp [Ly.flat,hr,h])
   have d1:((t.s.length:Int)==2)=true:=by simp;omega
   clear hr h;obtain ⟨hc,he⟩:=zd2 hb ha;clear hb ha;go_wp2_with fail;go_ret;exact ⟨by rw [HE.out];rfl,hd.out.trans hc.out⟩
  ·have HE:=zI (show Ly.flat t=false by simp [Ly.flat,h])
   have d1:((t.s.length:Int)==2)=false:=by simp;omega
   clear hr h;obtain ⟨hc,he⟩:=zd2 hb ha;clear hb ha;go_wp2_with fail;go_ret;exact ⟨by rw [HE.out];rfl,hd.out.trans hc.out⟩
theorem qcz (S C S' C' S2 C2:Option Addr) (c d c' d' c2 d2:Nat) (t b x:Ten) (w:Zp1) (ht:TenIn w S C c d t) (hb:TenIn w S' C' c' d' b) (hx:TenIn w S2 C2 c2 d2 x):
  Calls Tryz.prog 86 #[.agg #[sQ S t.s.length c,sQ C t.c.length d],.agg #[sQ S' b.s.length c',sQ C' b.c.length d'],.agg #[sQ S2 x.s.length c2,sQ C2 x.c.length d2]] w λe w'=>e=.returned (.bool (Ly.denseOk t b x))/\Below w.heap.size w w':=by
 obtain ⟨hy,hF,hE,hG⟩:=qav w 30 30 30 #[sQ S t.s.length c,sQ C t.c.length d] #[sQ S' b.s.length c',sQ C' b.c.length d'] #[sQ S2 x.s.length c2,sQ C2 x.c.length d2];have lt1:=ht.l1;have lb1:=hb.l1;have lx1:=hx.l1;have lt2:=ht.l2;have lb2:=hb.l2;have lx2:=hx.l2;obtain ⟨hC,hz,hv,hh,Ht,Hb,Hx⟩:=zd7 hy hF hE hG ht hb hx;clear hy hF hE hG ht hb hx;go_enter Tryz.func86,Tryz.ntmps86;go_wp2_with fail;generalize ((w.alloc (.cells #[sQ S t.s.length c,sQ C t.c.length d] 30)).alloc (.cells #[sQ S' b.s.length c',sQ C' b.c.length d'] 30)).alloc (.cells #[sQ S2 x.s.length c2,sQ C2 x.c.length d2] 30)=w2 at *;have x0:w2.cell? ⟨w.heap.size,0,none⟩=some (sQ S t.s.length c):=by rw [hC.out.cell];rfl
 have x1:w2.cell? ⟨w.heap.size,1,none⟩=some (sQ C t.c.length d):=by rw [hC.out.cell];rfl
 have x2:w2.cell? ⟨w.heap.size+1,0,none⟩=some (sQ S' b.s.length c'):=by rw [hz.out.cell];rfl
 have x3:w2.cell? ⟨w.heap.size+1,1,none⟩=some (sQ C' b.c.length d'):=by rw [hz.out.cell];rfl
 have x4:w2.cell? ⟨w.heap.size+2,0,none⟩=some (sQ S2 x.s.length c2):=by rw [hv.out.cell];rfl
 have x5:w2.cell? ⟨w.heap.size+2,1,none⟩=some (sQ C2 x.c.length d2):=by rw [hv.out.cell];rfl
 have hT:=(Ht.out.later hh.out)
 have hB:=(Hb.out.later hh.out)
 have hX:=(Hx.out.later hh.out)
 have hc:=λ(V:Zp1) (h:Later w2 V)=>qfw S C c d t V (hT.later h)
 have hd:=λ(V:Zp1) (h:Later w2 V)=>qa5 S' C' c' d' b V oZ oZ (hB.later h).r.1
 have he:=λ(V:Zp1) (h:Later w2 V)=>qa5 S2 C2 c2 d2 x V oZ oZ (hX.later h).r.1
 obtain ⟨hA,hD,hw⟩:=zd3 hc hd he;clear hc hd he;cases hf:Ly.flat t
 ·have HE:=zI (Ly.dense_w (b:=b) (x:=x) hf)
  have hc:=hA.out;rw [hf] at hc;have hj:=zI hc;clear hf hc;have KF:=zI (show ∀Xw,Later w2 Xw->Xw.cell? ⟨w.heap.size,0,none⟩=some (sQ S t.s.length c)/\Xw.cell? ⟨w.heap.size,1,none⟩=some (sQ C t.c.length d)/\Xw.cell? ⟨w.heap.size+1,0,none⟩=some (sQ S' b.s.length c')/\Xw.cell? ⟨w.heap.size+1,1,none⟩=some (sQ C' b.c.length d')/\Xw.cell? ⟨w.heap.size+2,0,none⟩=some (sQ S2 x.s.length c2)/\Xw.cell? ⟨w.heap.size+2,1,none⟩=some (sQ C2 x.c.length d2) from λXw h=>⟨h.cell x0,h.cell x1,h.cell x2,h.cell x3,h.cell x4,h.cell x5⟩);refine Zm1 ?_;refine Zl1 (S:=λXw=>Xw.cell? ⟨w.heap.size,0,none⟩=some (sQ S t.s.length c)/\Xw.cell? ⟨w.heap.size,1,none⟩=some (sQ C t.c.length d)/\Xw.cell? ⟨w.heap.size+1,0,none⟩=some (sQ S' b.s.length c')/\Xw.cell? ⟨w.heap.size+1,1,none⟩=some (sQ C' b.c.length d')/\Xw.cell? ⟨w.heap.size+2,0,none⟩=some (sQ S2 x.s.length c2)/\Xw.cell? ⟨w.heap.size+2,1,none⟩=some (sQ C2 x.c.length d2)) krZ (KF.out _ Lau) (λhHeld=>?_);refine tk 0 ?_;refine rd 1 λK hK=>?_
  simp only [ga,gs,gz]
  go_simp
  go_at_call 127;(with_reducible refine (hj.out _ (Lau:Later w2 _)).mono ?_);rintro e wa ⟨rfl,hn⟩
  try go_wp2_with fail
  refine hK.out _ _ (KF.out _ Lau) (λhHeld=>?_);clear hK K
  try simp only [ga,gs,gz,Act.put,sa,sz,ss]
  refine tk 2 ?_;refine tn 3 ?_;refine tn 4 ?_;refine tk 5 ?_;refine tk 6 ?_;refine tn 7 ?_;refine tn 8 ?_;refine tk 9 ?_;refine tk 10 ?_;refine tn 11 ?_;refine tn 12 ?_;refine tn 13 ?_;refine tn 14 ?_;refine tn 15 ?_;refine tn 16 ?_;refine tn 17 ?_;refine tn 18 ?_;refine tk 19 ?_;refine tk 20 ?_;refine tn 21 ?_;refine tn 22 ?_;refine tn 23 ?_;refine tn 24 ?_;refine tn 25 ?_;refine tn 26 ?_;refine tn 27 ?_;refine tn 28 ?_;refine tk 29 ?_;refine tk 30 ?_;clear KF;refine Zn1 krZ ?_ _;refine Zd1 ?_;have ha:=hh.out.trans (Lau:Later w2 wa);have hg:=zI ha;clear ha;go_wp2_with fail;go_ret;exact ⟨by rw [HE.out];rfl,hg.out⟩
 obtain ⟨hp,hl⟩:=Ly.flat_yes hf;have hc:=hA.out;rw [hf] at hc;have hj:=zI hc;clear hc;cases hrb:Tn.right b
 ·have HE:=zI (Ly.dense_b (w:=t) (x:=x) hrb)
  have hd:=hD.out;rw [hrb] at hd;have hm:=zI hd;clear hf hd hp hl hrb;have KF:=zI (show ∀Xw,Later w2 Xw->Xw.cell? ⟨w.heap.size,0,none⟩=some (sQ S t.s.length c)/\Xw.cell? ⟨w.heap.size,1,none⟩=some (sQ C t.c.length d)/\Xw.cell? ⟨w.heap.size+1,0,none⟩=some (sQ S' b.s.length c')/\Xw.cell? ⟨w.heap.size+1,1,none⟩=some (sQ C' b.c.length d')/\Xw.cell? ⟨w.heap.size+2,0,none⟩=some (sQ S2 x.s.length c2)/\Xw.cell? ⟨w.heap.size+2,1,none⟩=some (sQ C2 x.c.length d2) from λXw h=>⟨h.cell x0,h.cell x1,h.cell x2,h.cell x3,h.cell x4,h.cell x5⟩);refine Zm1 ?_;refine Zl1 (S:=λXw=>Xw.cell? ⟨w.heap.size,0,none⟩=some (sQ S t.s.length c)/\Xw.cell? ⟨w.heap.size,1,none⟩=some (sQ C t.c.length d)/\Xw.cell? ⟨w.heap.size+1,0,none⟩=some (sQ S' b.s.length c')/\Xw.cell? ⟨w.heap.size+1,1,none⟩=some (sQ C' b.c.length d')/\Xw.cell? ⟨w.heap.size+2,0,none⟩=some (sQ S2 x.s.length c2)/\Xw.cell? ⟨w.heap.size+2,1,none⟩=some (sQ C2 x.c.length d2)) krZ (KF.out _ Lau) (λhHeld=>?_);refine tk 0 ?_;refine rd 1 λK hK=>?_
  simp only [ga,gs,gz]
  go_simp
  go_at_call 127;(with_reducible refine (hj.out _ (Lau:Later w2 _)).mono ?_);rintro e wa ⟨rfl,hn⟩
  try go_wp2_with fail
  refine hK.out _ _ (KF.out _ Lau) (λhHeld=>?_);clear hK K
  try simp only [ga,gs,gz,Act.put,sa,sz,ss]
  refine tk 2 ?_;refine tk 3 ?_;refine rd 4 λK hK=>?_
  simp only [ga,gs,gz]
  go_simp
  go_at_call 36;(with_reducible refine (hm.out _ (Lau:Later w2 _)).mono ?_);rintro e wb ⟨rfl,hu⟩
  try go_wp2_with fail
  refine hK.out _ _ (KF.out _ Lau) (λhHeld=>?_);clear hK K
  try simp only [ga,gs,gz,Act.put,sa,sz,ss]
  refine tk 5 ?_;refine tk 6 ?_;refine tn 7 ?_;refine tn 8 ?_;refine tk 9 ?_;refine tk 10 ?_;refine tn 11 ?_;refine tn 12 ?_;refine tn 13 ?_;refine tn 14 ?_;refine tn 15 ?_;refine tn 16 ?_;refine tn 17 ?_;refine tn 18 ?_;refine tk 19 ?_;refine tk 20 ?_;refine tn 21 ?_;refine tn 22 ?_;refine tn 23 ?_;refine tn 24 ?_;refine tn 25 ?_;refine tn 26 ?_;refine tn 27 ?_;refine tn 28 ?_;refine tk 29 ?_;refine tk 30 ?_;clear KF;refine Zn1 krZ ?_ _;refine Zd1 ?_;have ha:=hh.out.trans (Lau:Later w2 wb);have hg:=zI ha;clear ha;go_wp2_with fail;go_ret;exact ⟨by rw [HE.out];rfl,hg.out⟩
 have hd:=hD.out;rw [hrb] at hd;have hm:=zI hd;clear hd;cases hrx:Tn.right x
 ·have HE:=zI (Ly.dense_x (w:=t) (b:=b) hrx)
  have he:=hw.out;rw [hrx] at he;have ho:=zI he;clear hf he hp hl hrb hrx;have KF:=zI (show ∀Xw,Later w2 Xw->Xw.cell? ⟨w.heap.size,0,none⟩=some (sQ S t.s.length c)/\Xw.cell? ⟨w.heap.size,1,none⟩=some (sQ C t.c.length d)/\Xw.cell? ⟨w.heap.size+1,0,none⟩=some (sQ S' b.s.length c')/\Xw.cell? ⟨w.heap.size+1,1,none⟩=some (sQ C' b.c.length d')/\Xw.cell? ⟨w.heap.size+2,0,none⟩=some (sQ S2 x.s.length c2)/\Xw.cell? ⟨w.heap.size+2,1,none⟩=some (sQ C2 x.c.length d2) from λXw h=>⟨h.cell x0,h.cell x1,h.cell x2,h.cell x3,h.cell x4,h.cell x5⟩);refine Zm1 ?_;refine Zl1 (S:=λXw=>Xw.cell? ⟨w.heap.size,0,none⟩=some (sQ S t.s.length c)/\Xw.cell? ⟨w.heap.size,1,none⟩=some (sQ C t.c.length d)/\Xw.cell? ⟨w.heap.size+1,0,none⟩=some (sQ S' b.s.length c')/\Xw.cell? ⟨w.heap.size+1,1,none⟩=some (sQ C' b.c.length d')/\Xw.cell? ⟨w.heap.size+2,0,none⟩=some (sQ S2 x.s.length c2)/\Xw.cell? ⟨w.heap.size+2,1,none⟩=some (sQ C2 x.c.length d2)) krZ (KF.out _ Lau) (λhHeld=>?_);refine tk 0 ?_;refine rd 1 λK hK=>?_
  simp only [ga,gs,gz]
  go_simp
  go_at_call 127;(with_reducible refine (hj.out _ (Lau:Later w2 _)).mono ?_);rintro e wa ⟨rfl,hn⟩
  try go_wp2_with fail
  refine hK.out _ _ (KF.out _ Lau) (λhHeld=>?_);clear hK K
  try simp only [ga,gs,gz,Act.put,sa,sz,ss]
  refine tk 2 ?_;refine tk 3 ?_;refine rd 4 λK hK=>?_
  simp only [ga,gs,gz]
  go_simp
  go_at_call 36;(with_reducible refine (hm.out _ (Lau:Later w2 _)).mono ?_);rintro e wb ⟨rfl,hu⟩
  try go_wp2_with fail
  refine hK.out _ _ (KF.out _ Lau) (λhHeld=>?_);clear hK K
  try simp only [ga,gs,gz,Act.put,sa,sz,ss]
  refine tk 5 ?_;refine tk 6 ?_;refine tk 7 ?_;refine rd 8 λK hK=>?_
  simp only [ga,gs,gz]
  go_simp
  go_at_call 36;(with_reducible refine (ho.out _ (Lau:Later w2 _)).mono ?_);rintro e wc ⟨rfl,hH⟩
  try go_wp2_with fail
  refine hK.out _ _ (KF.out _ Lau) (λhHeld=>?_);clear hK K
  try simp only [ga,gs,gz,Act.put,sa,sz,ss]
  refine tk 9 ?_;refine tk 10 ?_;refine tn 11 ?_;refine tn 12 ?_;refine tn 13 ?_;refine tn 14 ?_;refine tn 15 ?_;refine tn 16 ?_;refine tn 17 ?_;refine tn 18 ?_;refine tk 19 ?_;refine tk 20 ?_;refine tn 21 ?_;refine tn 22 ?_;refine tn 23 ?_;refine tn 24 ?_;refine tn 25 ?_;refine tn 26 ?_;refine tn 27 ?_;refine tn 28 ?_;refine tk 29 ?_;refine tk 30 ?_;clear KF;refine Zn1 krZ ?_ _;refine Zd1 ?_;have ha:=hh.out.trans (Lau:Later w2 wc);have hg:=zI ha;clear ha;go_wp2_with fail;go_ret;exact ⟨by rw [HE.out];rfl,hg.out⟩
 have he:=hw.out;rw [hrx] at he;have ho:=zI he;clear he;obtain ⟨bs,os,rfl,-,y0⟩:=hT.r.1 0 oZ;obtain ⟨bs',os',e',-,y1⟩:=hT.r.1 1 oZ;injection e' with e'
 injection e' with e1 e2
 subst e1 e2;have x6:w2.cell? ⟨bs,os,none⟩=some (nQ iQ (Ly.at_ t.s 0)):=y0;have x7:w2.cell? ⟨bs,os+1,none⟩=some (nQ iQ (Ly.at_ t.s 1)):=y1;have k1:(0:Int)<(t.s.length:Int):=by omega
 have k2:(1:Int)<(t.s.length:Int):=by omega
 have k3:0<t.s.length:=by omega
 have k4:1<t.s.length:=by omega
 have hi:=λ(V:Zp1) (g:Nat) (hk:Blk V g 3 #[nQ iQ (Ly.at_ t.s 0)]) (h:Later w2 V)=>(show Calls Tryz.prog 69 #[sQ S' b.s.length c',sQ (some ⟨g,0,none⟩) 1 1] V λe w'=>e=.returned (.bool (b.s==[Ly.at_ t.s 0]))/\∃n,w'=V.drewN n from qac S' (some ⟨g,0,none⟩) c' 1 b.s [Ly.at_ t.s 0] V oZ sZ (hB.later h).r.1 (Blk.intsL [Ly.at_ t.s 0] hk))
 clear y0 y1;cases hs:(b.s==[Ly.at_ t.s 0])
 ·have HE:=zI (Ly.dense_s (w:=t) (x:=x) hs)
  rw [hs] at hi;have hr:=zI hi;clear hf hi hp hl hrb hrx hs hT hB hX;have KF:=zI (show ∀Xw,Later w2 Xw->Xw.cell? ⟨w.heap.size,0,none⟩=some (sQ (some ⟨bs,os,none⟩) t.s.length c)/\Xw.cell? ⟨w.heap.size,1,none⟩=some (sQ C t.c.length d)/\Xw.cell? ⟨w.heap.size+1,0,none⟩=some (sQ S' b.s.length c')/\Xw.cell? ⟨w.heap.size+1,1,none⟩=some (sQ C' b.c.length d')/\Xw.cell? ⟨w.heap.size+2,0,none⟩=some (sQ S2 x.s.length c2)/\Xw.cell? ⟨w.heap.size+2,1,none⟩=some (sQ C2 x.c.length d2)/\Xw.cell? ⟨bs,os,none⟩=some (nQ iQ (Ly.at_ t.s 0))/\Xw.cell? ⟨bs,os+1,none⟩=some (nQ iQ (Ly.at_ t.s 1)) from λXw h=>⟨h.cell x0,h.cell x1,h.cell x2,h.cell x3,h.cell x4,h.cell x5,h.cell x6,h.cell x7⟩);refine Zm1 ?_;refine Zl1 (S:=λXw=>Xw.cell? ⟨w.heap.size,0,none⟩=some (sQ (some ⟨bs,os,none⟩) t.s.length c)/\Xw.cell? ⟨w.heap.size,1,none⟩=some (sQ C t.c.length d)/\Xw.cell? ⟨w.heap.size+1,0,none⟩=some (sQ S' b.s.length c')/\Xw.cell? ⟨w.heap.size+1,1,none⟩=some (sQ C' b.c.length d')/\Xw.cell? ⟨w.heap.size+2,0,none⟩=some (sQ S2 x.s.length c2)/\Xw.cell? ⟨w.heap.size+2,1,none⟩=some (sQ C2 x.c.length d2)/\Xw.cell? ⟨bs,os,none⟩=some (nQ iQ (Ly.at_ t.s 0))/\Xw.cell? ⟨bs,os+1,none⟩=some (nQ iQ (Ly.at_ t.s 1))) krZ (KF.out _ Lau) (λhHeld=>?_);refine tk 0 ?_;refine rd 1 λK hK=>?_
  simp only [ga,gs,gz]
  go_simp
  go_at_call 127;(with_reducible refine (hj.out _ (Lau:Later w2 _)).mono ?_);rintro e wa ⟨rfl,hn⟩
  try go_wp2_with fail
  refine hK.out _ _ (KF.out _ Lau) (λhHeld=>?_);clear hK K
  try simp only [ga,gs,gz,Act.put,sa,sz,ss]
  refine tk 2 ?_;refine tk 3 ?_;refine rd 4 λK hK=>?_
  simp only [ga,gs,gz]
  go_simp
  go_at_call 36;(with_reducible refine (hm.out _ (Lau:Later w2 _)).mono ?_);rintro e wb ⟨rfl,hu⟩
  try go_wp2_with fail
  refine hK.out _ _ (KF.out _ Lau) (λhHeld=>?_);clear hK K
  try simp only [ga,gs,gz,Act.put,sa,sz,ss]
  refine tk 5 ?_;refine tk 6 ?_;refine tk 7 ?_;refine rd 8 λK hK=>?_
  simp only [ga,gs,gz]
  go_simp
  go_at_call 36;(with_reducible refine (ho.out _ (Lau:Later w2 _)).mono ?_);rintro e wc ⟨rfl,hH⟩
  try go_wp2_with fail
  refine hK.out _ _ (KF.out _ Lau) (λhHeld=>?_);clear hK K
  try simp only [ga,gs,gz,Act.put,sa,sz,ss]
  refine tk 9 ?_;refine tk 10 ?_;refine tk 11 ?_;refine tk 12 ?_;refine tk 13 ?_;refine tk 14 ?_;refine tk 15 ?_;refine tk 16 ?_;refine rd 17 λK hK=>?_
  simp only [ga,gs,gz]
  go_simp
  refine hK.out _ _ (KF.out _ Lau) (λhHeld=>?_);clear hK K
  try simp only [ga,gs,gz,Act.put,sa,sz,ss]
  refine rd 18 λK hK=>?_
  simp only [ga,gs,gz]
  go_simp
  go_at_call 69;(with_reducible refine (hr.out _ _ (Blk.new wc 3 #[nQ iQ (Ly.at_ t.s 0)]) (Lau:Later w2 _)).mono ?_);rintro e we ⟨rfl,qd,rfl⟩
  try go_wp2_with fail
  refine hK.out _ _ (KF.out _ Lau) (λhHeld=>?_);clear hK K
  try simp only [ga,gs,gz,Act.put,sa,sz,ss]
  refine tk 19 ?_;refine tk 20 ?_;refine tn 21 ?_;refine tn 22 ?_;refine tn 23 ?_;refine tn 24 ?_;refine tn 25 ?_;refine tn 26 ?_;refine tn 27 ?_;refine tn 28 ?_;refine tk 29 ?_;refine tk 30 ?_;clear KF;refine Zn1 krZ ?_ _;refine Zd1 ?_;have ha:=hh.out.trans (Lau:Later w2 ((wc.alloc (.cells #[nQ iQ (Ly.at_ t.s 0)] 3)).drewN qd));have hg:=zI ha;clear ha;go_wp2_with fail;go_ret;exact ⟨by rw [HE.out];rfl,hg.out⟩
 ·have HE:=zI (Ly.dense_all hf hrb hrx hs)
  rw [hs] at hi;have hr:=zI hi;clear hf hi hp hl hrb hrx hs hT hB hX;generalize hq:((x.c.length:Int)==Ly.at_ t.s 1)=q at HE;have hI:((x.c.length:Int)==Ly.at_ t.s 1)=q:=hq;clear hq;have KF:=zI (show ∀Xw,Later w2 Xw->Xw.cell? ⟨w.heap.size,0,none⟩=some (sQ (some ⟨bs,os,none⟩) t.s.length c)/\Xw.cell? ⟨w.heap.size,1,none⟩=some (sQ C t.c.length d)/\Xw.cell? ⟨w.heap.size+1,0,none⟩=some (sQ S' b.s.length c')/\Xw.cell? ⟨w.heap.size+1,1,none⟩=some (sQ C' b.c.length d')/\Xw.cell? ⟨w.heap.size+2,0,none⟩=some (sQ S2 x.s.length c2)/\Xw.cell? ⟨w.heap.size+2,1,none⟩=some (sQ C2 x.c.length d2)/\Xw.cell? ⟨bs,os,none⟩=some (nQ iQ (Ly.at_ t.s 0))/\Xw.cell? ⟨bs,os+1,none⟩=some (nQ iQ (Ly.at_ t.s 1)) from λXw h=>⟨h.cell x0,h.cell x1,h.cell x2,h.cell x3,h.cell x4,h.cell x5,h.cell x6,h.cell x7⟩);refine Zm1 ?_;refine Zl1 (S:=λXw=>Xw.cell? ⟨w.heap.size,0,none⟩=some (sQ (some ⟨bs,os,none⟩) t.s.length c)/\Xw.cell? ⟨w.heap.size,1,none⟩=some (sQ C t.c.length d)/\Xw.cell? ⟨w.heap.size+1,0,none⟩=some (sQ S' b.s.length c')/\Xw.cell? ⟨w.heap.size+1,1,none⟩=some (sQ C' b.c.length d')/\Xw.cell? ⟨w.heap.size+2,0,none⟩=some (sQ S2 x.s.length c2)/\Xw.cell? ⟨w.heap.size+2,1,none⟩=some (sQ C2 x.c.length d2)/\Xw.cell? ⟨bs,os,none⟩=some (nQ iQ (Ly.at_ t.s 0))/\Xw.cell? ⟨bs,os+1,none⟩=some (nQ iQ (Ly.at_ t.s 1))) krZ (KF.out _ Lau) (λhHeld=>?_);refine tk 0 ?_;refine rd 1 λK hK=>?_
  simp only [ga,gs,gz]
  go_simp
  go_at_call 127;(with_reducible refine (hj.out _ (Lau:Later w2 _)).mono ?_);rintro e wa ⟨rfl,hn⟩
  try go_wp2_with fail
  refine hK.out _ _ (KF.out _ Lau) (λhHeld=>?_);clear hK K
  try simp only [ga,gs,gz,Act.put,sa,sz,ss]
  refine tk 2 ?_;refine tk 3 ?_;refine rd 4 λK hK=>?_
  simp only [ga,gs,gz]
  go_simp
  go_at_call 36;(with_reducible refine (hm.out _ (Lau:Later w2 _)).mono ?_);rintro e wb ⟨rfl,hu⟩
  try go_wp2_with fail
  refine hK.out _ _ (KF.out _ Lau) (λhHeld=>?_);clear hK K
  try simp only [ga,gs,gz,Act.put,sa,sz,ss]
  refine tk 5 ?_;refine tk 6 ?_;refine tk 7 ?_;refine rd 8 λK hK=>?_
  simp only [ga,gs,gz]
  go_simp
  go_at_call 36;(with_reducible refine (ho.out _ (Lau:Later w2 _)).mono ?_);rintro e wc ⟨rfl,hH⟩
  try go_wp2_with fail
  refine hK.out _ _ (KF.out _ Lau) (λhHeld=>?_);clear hK K
  try simp only [ga,gs,gz,Act.put,sa,sz,ss]
  refine tk 9 ?_;refine tk 10 ?_;refine tk 11 ?_;refine tk 12 ?_;refine tk 13 ?_;refine tk 14 ?_;refine tk 15 ?_;refine tk 16 ?_;refine rd 17 λK hK=>?_
  simp only [ga,gs,gz]
  go_simp
  refine hK.out _ _ (KF.out _ Lau) (λhHeld=>?_);clear hK K
  try simp only [ga,gs,gz,Act.put,sa,sz,ss]
  refine rd 18 λK hK=>?_
  simp only [ga,gs,gz]
  go_simp
  go_at_call 69;(with_reducible refine (hr.out _ _ (Blk.new wc 3 #[nQ iQ (Ly.at_ t.s 0)]) (Lau:Later w2 _)).mono ?_);rintro e we ⟨rfl,qd,rfl⟩
  try go_wp2_with fail
  refine hK.out _ _ (KF.out _ Lau) (λhHeld=>?_);clear hK K
  try simp only [ga,gs,gz,Act.put,sa,sz,ss]
  refine tk 19 ?_;refine tk 20 ?_;refine tk 21 ?_;refine tk 22 ?_;refine tk 23 ?_;refine tk 24 ?_;refine tk 25 ?_;refine tk 26 ?_;refine tk 27 ?_;refine tk 28 ?_;refine tk 29 ?_;refine tk 30 ?_;clear KF;refine Zn1 krZ ?_ _;refine Zd1 ?_;have ha:=hh.out.trans (Lau:Later w2 ((wc.alloc (.cells #[nQ iQ (Ly.at_ t.s 0)] 3)).drewN qd));have hg:=zI ha;clear ha;go_wp2_with fail;go_ret;exact ⟨by rw [HE.out];rfl,hg.out⟩
theorem qe4 {t:Ten} (h:Tn.right t=true) (h2:t.s.length=2):∃m n:Nat,Ly.at_ t.s 0=(m:Int)/\Ly.at_ t.s 1=(n:Int)/\1<=m/\1<=n/\m<=1024/\n<=1024/\t.c.length=m*n/\m*n<=65536:=by
 obtain ⟨s,c⟩:=t;simp only at h2
 match s,h2 with
 | [a,b],_=>
  simp only [Tn.right,Zz,decide_eq_true_eq] at h;obtain ⟨_,_,_,hc,_,hp⟩:=Sh.right_mul h.1;have ha:=hc a sZ;have hb:=hc b sZ;simp only [Safe.prod,Int.mul_one] at hp h;have e:(a.toNat * b.toNat:Nat)=a*b:=by rw [Int.natCast_mul];rw [Int.toNat_of_nonneg oZ,Int.toNat_of_nonneg oZ]
  refine ⟨a.toNat,b.toNat,by show a=_;omega,by show b=_;omega,by omega,by omega,by omega,by omega,?_,?_⟩
  ·show c.length=_;omega
  ·omega
theorem qbZ (S:Option Addr) (b off:Nat) (c d:Nat) (t:Ten) (m n i:Nat) (w:Zp1) (ht:TenIn w S (some ⟨b,off,none⟩) c d t) (h2:2<=t.s.length) (hn:Ly.at_ t.s 1=(n:Int)) (hc:t.c.length=m*n) (hi:i<m) (hn1:1<=n) (hm:m*n<=65536):
  Calls Tryz.prog 87 #[.agg #[sQ S t.s.length c,sQ (some ⟨b,off,none⟩) t.c.length d],nQ iQ i] w λe w'=>e=.returned (sQ (some ⟨b,off+i*n,none⟩) n n)/\Below w.heap.size w w':=by
 have ha:Later w (w.alloc (.cells #[sQ S t.s.length c,sQ (some ⟨b,off,none⟩) t.c.length d] 30)):=(Later.refl w).alloc _;have hk:=Blk.new w 30 #[sQ S t.s.length c,sQ (some ⟨b,off,none⟩) t.c.length d];have hT:=ht.later ha;have hf:=ht.c1;have he:=ht.c2;have hb:(i+1)*n<=m*n:=mlZ _ hi;rw [Zu] at hb;obtain ⟨p,hp⟩:∃p,p=i*n:=⟨_,rfl⟩
 rw [←hp] at hb ⊢;have e1:(i:Int)*(n:Int)=(p:Int):=by rw [hp];simp
 have e2:((i:Int)+1)*(n:Int)=(p:Int)+(n:Int):=by rw [hp,Int.add_mul];simp
 have b1:p+n<=t.c.length:=by omega
 have k2:(1:Int)<(t.s.length:Int):=by omega
 have k4:1<t.s.length:=by omega
 have q1:(0:Int)<=(p:Int):=by omega
 have q2:(p:Int)<=65536:=by omega
 have q3:(p:Int)+(n:Int)<=(d:Int):=by omega
 have q4:(p:Int)+(n:Int)<=65536:=by omega
 have q5:(n:Int)<=65536:=by omega
 have q6:(i:Int)<=65536:=by
  have:i*1<=i*n:=Nat.mul_le_mul_left _ hn1;omega
 obtain ⟨HT,HN⟩:=zd2 hT hn;clear ht hn hc hp hb hT;obtain ⟨hd,Hk⟩:=zd2 ha hk;clear ha hk;go_enter Tryz.func87,Tryz.ntmps87;go_upto_region 1 with fail;generalize w.alloc (.cells #[sQ S t.s.length c,sQ (some ⟨b,off,none⟩) t.c.length d] 30)=w1 at *;have c0:w1.cell? ⟨w.heap.size,0,none⟩=some (sQ S t.s.length c):=by rw [Hk.out.cell];rfl
 have c1:w1.cell? ⟨w.heap.size,1,none⟩=some (sQ (some ⟨b,off,none⟩) t.c.length d):=by rw [Hk.out.cell];rfl
 obtain ⟨bs,os,rfl,-,y0⟩:=HT.out.r.1 1 oZ;have y1:w1.cell? ⟨bs,os+1,none⟩=some (nQ iQ n):=by rw [y0];exact congrArg (λz=>some (Za1 iQ z)) HN.out
 clear y0;go_upto_region 2 with fail;go_wp2_with fail;rw [Nat.add_sub_cancel_left];go_ret;exact ⟨rfl,hd.out⟩
namespace Ly
theorem dense_err {w b x:Ten} (h:denseOk w b x=false):dense w b x=(none_,20):=by simp [dense,h]
theorem dense_ok {w b x:Ten} (h:denseOk w b x=true):dense w b x=(⟨b.s,tab b.c.length λi=>Fx.add (Fx.dot (rowOf w.c x.c.length i) x.c) (at_ b.c i)⟩,0):=by simp [dense,h]
theorem row_len {w:List Int} {m n i:Nat} (h:w.length=m*n) (hi:i<m):(rowOf w n i).length=n:=by
 have:(i+1)*n<=m*n:=mlZ _ hi;rw [Zu] at this;unfold rowOf;rw [Zo,Zq];omega
theorem row_in {w:List Int} {n i:Nat} (h:∀z∈w,Fx.In z):∀z∈rowOf w n i,Fx.In z:=λz hz=>h z (Zp (Zh hz))
theorem row_at {w:List Int} {n i j:Nat} (hj:j<n):(rowOf w n i).getD j 0=w.getD (i*n+j) 0:=by
 unfold rowOf;simp only [gdZ];rw [List.getElem?_take,ipZ hj,List.getElem?_drop]
end Ly
theorem TenIn.row {w:Zp1} {S:Option Addr} {b off c d:Nat} {t:Ten} (h:TenIn w S (some ⟨b,off,none⟩) c d t) {m n i:Nat} (hc:t.c.length=m*n) (hi:i<m):Ints iQ w (some ⟨b,off+i*n,none⟩) (Ly.rowOf t.c n i):=Ints.of_row λj hj=>by
 rw [Ly.row_len hc hi] at hj;have h1:(i+1)*n<=m*n:=mlZ _ hi;rw [Zu] at h1;obtain ⟨b',off',e,-,ha⟩:=h.r.2 (i*n+j) oZ;injection e with e;injection e with e1 e2;subst e1 e2
 rw [Nat.add_assoc,ha,Ly.row_at hj]
theorem qf1 {b:Ten} {m:Int} (h:Tn.right b=true) (hs:b.s=[m]):(b.c.length:Int)=m:=by
 simp only [Tn.right,Zz,decide_eq_true_eq] at h;rw [h.2,hs];simp [Safe.prod]
theorem qc0 (w:Zp1) (t t' t2 t3:TypeId) (a b z y:Array Value):Blk ((((w.alloc (.cells a t)).alloc (.cells b t')).alloc (.cells z t2)).alloc (.cells y t3)) w.heap.size t a/\Blk ((((w.alloc (.cells a t)).alloc (.cells b t')).alloc (.cells z t2)).alloc (.cells y t3)) (w.heap.size+1) t' b/\Blk ((((w.alloc (.cells a t)).alloc (.cells b t')).alloc (.cells z t2)).alloc (.cells y t3)) (w.heap.size+2) t2 z/\Blk ((((w.alloc (.cells a t)).alloc (.cells b t')).alloc (.cells z t2)).alloc (.cells y t3)) (w.heap.size+3) t3 y/\Later w ((((w.alloc (.cells a t)).alloc (.cells b t')).alloc (.cells z t2)).alloc (.cells y t3)):=by
 obtain ⟨h1,h2,h3,h4⟩:=qav w t t' t2 a b z;refine ⟨h1.alloc _,h2.alloc _,h3.alloc _,?_,h4.alloc _⟩;have:=Blk.new (((w.alloc (.cells a t)).alloc (.cells b t')).alloc (.cells z t2)) t3 y
 rwa [Zh1,Zh1,Zh1] at this
theorem dense_go (S C S' C' S2 C2:Option Addr) (c d c' d' c2 d2:Nat) (t b x:Ten) (w:Zp1) (ht:TenIn w S C c d t) (hb:TenIn w S' C' c' d' b) (hx:TenIn w S2 C2 c2 d2 x):
  Calls Tryz.prog 70 #[.agg #[sQ S t.s.length c,sQ C t.c.length d],.agg #[sQ S' b.s.length c',sQ C' b.c.length d'],.agg #[sQ S2 x.s.length c2,sQ C2 x.c.length d2]] w (GoP (Ly.dense t b x) w):=by
 obtain ⟨Hv,HG,HY,hz,HT⟩:=qc0 w 30 30 30 30 #[sQ S t.s.length c,sQ C t.c.length d] #[sQ S' b.s.length c',sQ C' b.c.length d'] #[sQ S2 x.s.length c2,sQ C2 x.c.length d2] #[sQ none 0 0,sQ none 0 0];obtain ⟨HD,HA,HJ,Hz,hA,Ht,Hb,Hx⟩:=zd8 Hv HG HY hz HT ht hb hx;clear Hv HG HY hz HT ht hb hx;go_enter Tryz.func70,Tryz.ntmps70;go_wp2_with fail;generalize (((w.alloc (.cells #[sQ S t.s.length c,sQ C t.c.length d] 30)).alloc (.cells #[sQ S' b.s.length c',sQ C' b.c.length d'] 30)).alloc (.cells #[sQ S2 x.s.length c2,sQ C2 x.c.length d2] 30)).alloc (.cells #[sQ none 0 0,sQ none 0 0] 30)=w1 at *;refine (qcz S C S' C' S2 C2 c d c' d' c2 d2 t b x w1 (Ht.out.later hA.out) (Hb.out.later hA.out) (Hx.out.later hA.out)).mono ?_;rintro e w2 ⟨rfl,HP⟩;have hs:Later w1 w2:=HP;have hT:=hA.out.trans hs;have he:=hs.blk Hz.out;have hW:=hs.blk HD.out;have hq:=hs.blk HA.out;have hP:=hs.blk HJ.out;clear HP Hz hA HD HA HJ hs;cases hg:Ly.denseOk t b x
 ·have HE:=zI (Ly.dense_err hg)
  clear hg;have c0:=he.cell 0;have c1:=he.cell 1;have f0:=he.frozen 0;have f1:=he.frozen 1;simp at c0 c1;obtain ⟨hJ,hU,Hk,HW,Hd⟩:=zd5 hT he hW hq hP;clear hT he hW hq hP;go_wp2_with fail;refine Zk1 (v:=.tuple #[.agg #[sQ none 0 0,sQ none 0 0],nQ iQ 20]) (by simp [results,Tryz.results70,go_sem,c0,c1]) rfl ?_;exact GoP.fail HE.out dZ ((hJ.out.set (p:=⟨w.heap.size+3,0,none⟩) sZ _).set (p:=⟨w.heap.size+3,1,none⟩) sZ _)
 obtain ⟨Hq,h6,Hh,H6,Hy,gf⟩:=Ly.dense_yes hg;obtain ⟨m,n,H4,Hl,H5,HB,h4,gv,HS,gl⟩:=qe4 Hq h6;have HE:=zI (Ly.dense_ok hg);have Hs:b.c.length=m:=by have:=qf1 Hh Hy;omega
 have h9:x.c.length=n:=by omega
 obtain ⟨r1,r2⟩:=Ly.right_ok Hh;rw [h9] at HE;generalize hR:(Ly.tab b.c.length λi=>Fx.add (Fx.dot (Ly.rowOf t.c n i) x.c) (Ly.at_ b.c i))=R at *;have HV:R.length=b.c.length:=by rw [←hR,Ly.tab_len]
 have HM:∀i (hi:i<R.length),R[i]=Fx.add (Fx.dot (Ly.rowOf t.c n i) x.c) (Ly.at_ b.c i):=λi hi=>by subst hR;exact Ly.tab_get hi
 have hN:∀z∈R,Fx.In z:=by rw [←hR];exact Ly.tab_in λi _=>Fx.add_in _ _
 have x2:=hq.cell 0;have x3:=hq.cell 1;simp at x2 x3;obtain ⟨hp,gk,Hn,hS,H2,gd⟩:=zd6 HV Hs h9 HS Hl h6;clear hR hg Hq Hh H6 Hy gf H4 Hl Hs h9 HS h6 HV;obtain ⟨hJ,hU,Hk,HW,Hd,H3,h8⟩:=zd7 hT he hW hq hP HM hN;clear hT he hW hq hP HM hN;go_wp2_with fail;have X3:=zI x3;clear x2 x3;refine (qab S' C' c' d' b w2 oZ oZ (Hb.out.later hJ.out).r).mono ?_;rintro e w3 ⟨v,rfl,⟨g,h,rfl,hg,hh,hG,hH⟩,HR⟩;have hQ:Later w2 w3:=HR;have hF:Later w3 (w3.alloc (.cells #[sQ (some ⟨g,0,none⟩) b.s.length b.s.length,sQ (some ⟨h,0,none⟩) b.c.length b.c.length] 30)):=(Later.refl w3).alloc _;have ho:=Blk.new w3 30 #[sQ (some ⟨g,0,none⟩) b.s.length b.s.length,sQ (some ⟨h,0,none⟩) b.c.length b.c.length];have hn:=hQ.trans hF;have Hr:=hJ.out.trans hn;have HK:=hn.blk hU.out;have hD:=hn.blk Hk.out;have hC:=hn.blk Hd.out;have HO:=hF.blk hG;have H0:=hF.blk hH;have gq:=hJ.out.size;have gw:=hQ.size;have gr:=hH.lt;have go:=hG.lt;have gB:=hU.out.lt;have h2:=qbp hG hH;have x3:=hn.cell X3.out;clear HR hU Hk HW Hd hG hH X3;have X3:=zI x3;clear x3;obtain ⟨gc,H7,Ho,gt,H8,gg,Hf,Hc,gb⟩:=zd9 hQ hF ho hn Hr HK hD hC HO;have H9:=zI H0;clear hQ hF ho hn Hr HK hD hC HO H0;go_upto_region 4 with fail;generalize w3.alloc (.cells #[sQ (some ⟨g,0,none⟩) b.s.length b.s.length,sQ (some ⟨h,0,none⟩) b.c.length b.c.length] 30)=w4 at *;generalize hpe:w3.heap.size=p at *;have gn:h<p:=by omega
 have gp:w.heap.size+3<p:=by omega
 have Ha:w.heap.size+3<h:=by omega
 have x3:=X3.out;clear X3 H7 gc hpe;go_wp2_with fail;clear x3;have HI:Blk w4 h 42 ((R.take 0++b.c.drop 0).map (Za1 iQ)).toArray:=by simpa using H9.out
 have HQ:=zI HI;clear HI
 go_loopw [22] (λi wx=>∃k:Nat,k<=b.c.length/\i=nQ iQ (k:Int)/\Blk wx h 42 ((R.take k++b.c.drop k).map (Za1 iQ)).toArray/\Blk wx p 30 #[sQ (some ⟨g,0,none⟩) b.s.length b.s.length,sQ (some ⟨h,0,none⟩) b.c.length b.c.length]/\Blk wx (w.heap.size+3) 30 #[sQ none 0 0,sQ none 0 0]/\Blk wx w.heap.size 30 #[sQ S t.s.length c,sQ C t.c.length d]/\Blk wx (w.heap.size+2) 30 #[sQ S2 x.s.length c2,sQ C2 x.c.length d2]/\Blk wx g 3 (b.s.map (Za1 iQ)).toArray/\Later w wx) (λi _=>b.c.length-(intOf i).toNat)
 case atStart=>exact ⟨0,Zt _,rfl,HQ.out,Ho.out,gg.out,Hf.out,Hc.out,gb.out,H8.out⟩
 case round=>
  obtain ⟨k,hk,rfl,hm,hj,ha,hr,hM,hX,hf⟩:=hrel;clear HQ
  by_cases gi:k<b.c.length
  ·have hZ:k<m:=by have:=gk.out;omega
   have hc:k<R.length:=by have:=hp.out;omega
   obtain ⟨b2,off2,rfl,-,gu⟩:=(Hb.out.later hf).cell gi;obtain ⟨bt,ot,rfl,-,-⟩:=Ht.out.cell (k:=0) (by have:=hS.out;have:1*1<=m*n:=Nat.mul_le_mul H5 HB;omega);have h3:=Ly.mid_step R b.c hc hp.out;have hE:=Ly.mid_len R b.c k oZ hp.out;have HC:=H3.out k hc;have hv:=Ly.at_in Hb.out.num k;have HN:=Ly.row_len hS.out hZ;have HL:=Ly.row_in (n:=n) (i:=k) Ht.out.num;have Hu:=λ(V:Zp1) (hV:Later wr V)=>qbZ S bt ot c d t m n k V (Ht.out.later (hf.trans hV)) (by have:=gd.out;omega) H2.out hS.out hZ HB gl
   have HU:=λ(V:Zp1) (hV:Later wr V)=>(show Calls Tryz.prog 113 #[sQ (some ⟨bt,ot+k*n,none⟩) n n,sQ C2 x.c.length d2] V λe w'=>e=.returned (nQ iQ (Fx.dot (Ly.rowOf t.c n k) x.c))/\∃q,w'=V.drewN q from by
    have hd:=fix_dot (some ⟨bt,ot+k*n,none⟩) C2 n d2 (Ly.rowOf t.c n k) x.c V oZ (by have:=Hn.out;omega) ((Ht.out.later (hf.trans hV)).row hS.out hZ) (Hx.out.later (hf.trans hV)).r.2 HL Hx.out.num;rw [HN] at hd;rw [show x.c.length=n from Hn.out];exact hd)
   have HF:=λ(V:Zp1)=>qb2 (Fx.dot (Ly.rowOf t.c n k) x.c) (Ly.at_ b.c k) V (Fx.dot_in _ _) hv
   rw [HC] at h3;generalize Fx.dot (Ly.rowOf t.c n k) x.c=dk at *;generalize Ly.at_ b.c k=bk at *;have o1:wr.cell? ⟨p,1,none⟩=some (sQ (some ⟨h,0,none⟩) b.c.length b.c.length):=by rw [hj.cell];rfl
   have t0:wr.cell? ⟨w.heap.size,0,none⟩=some (sQ S t.s.length c):=by rw [hr.cell];rfl
   have t1:wr.cell? ⟨w.heap.size,1,none⟩=some (sQ (some ⟨bt,ot,none⟩) t.c.length d):=by rw [hr.cell];rfl
   have xx1:wr.cell? ⟨w.heap.size+2,1,none⟩=some (sQ C2 x.c.length d2):=by rw [hM.cell];rfl
   obtain ⟨u,hu⟩:∃u,wr.cell? ⟨h,k,none⟩=some u:=⟨_,hm.row_get (by rw [hE];exact hc)⟩
   have kk1:(k:Int)<(b.c.length:Int):=by omega
   have kk2:(0:Int)<=(k:Int):=by omega
   clear hE HC hv hc HN HL;obtain ⟨Hm,Hw,Hp,HX,HH,Hi,gm,gj,H1⟩:=zd9 hm hj ha hr hM hX h3 Hu HU;obtain ⟨gh,h5⟩:=zd2 HF hf;clear hm hj ha hr hM hX h3 Hu HU HF hf;go_wp2_with fail;have KF:=zI (show ∀Xw,Later wr Xw->Xw.cell? ⟨p,1,none⟩=some (sQ (some ⟨h,0,none⟩) b.c.length b.c.length)/\Xw.cell? ⟨w.heap.size,0,none⟩=some (sQ S t.s.length c)/\Xw.cell? ⟨w.heap.size,1,none⟩=some (sQ (some ⟨bt,ot,none⟩) t.c.length d)/\Xw.cell? ⟨w.heap.size+2,1,none⟩=some (sQ C2 x.c.length d2) from λXw h=>⟨h.cell o1,h.cell t0,h.cell t1,h.cell xx1⟩);refine Zm1 ?_;refine Zl1 (S:=λXw=>Xw.cell? ⟨p,1,none⟩=some (sQ (some ⟨h,0,none⟩) b.c.length b.c.length)/\Xw.cell? ⟨w.heap.size,0,none⟩=some (sQ S t.s.length c)/\Xw.cell? ⟨w.heap.size,1,none⟩=some (sQ (some ⟨bt,ot,none⟩) t.c.length d)/\Xw.cell? ⟨w.heap.size+2,1,none⟩=some (sQ C2 x.c.length d2)) krZ (KF.out _ Lau) (λhHeld=>?_);refine tk 0 ?_;refine tk 1 ?_;refine tk 2 ?_;refine tk 3 ?_;refine tk 4 ?_;refine tk 6 ?_;refine tk 7 ?_;refine tk 9 ?_;refine rd 5 λK hK=>?_
   simp only [ga,gs,gz]
   go_simp
   go_at_call 87;(with_reducible refine (gj.out _ (Lau:Later wr _)).mono ?_);rintro e wa ⟨rfl,gx⟩
   try go_wp2_with fail
   refine hK.out _ _ (KF.out _ Lau) (λhHeld=>?_);clear hK K
   try simp only [ga,gs,gz,Act.put,sa,sz,ss]
   refine rd 8 λK hK=>?_
   simp only [ga,gs,gz]
   go_simp
   go_at_call 113;(with_reducible refine (H1.out _ (Lau:Later wr _)).mono ?_);rintro e wb ⟨rfl,qd,rfl⟩
   try go_wp2_with fail
   refine hK.out _ _ (KF.out _ Lau) (λhHeld=>?_);clear hK K
   try simp only [ga,gs,gz,Act.put,sa,sz,ss]
   refine rd 10 λK hK=>?_
   simp only [ga,gs,gz]
   go_simp
   go_at_call 89;(with_reducible refine (gh.out _).mono ?_);rintro e wc ⟨rfl,rfl⟩;have gy:=Later.cell (Lau:Later wr (wa.drewN qd)) hu;have fu2:=(Later.blk (Lau:Later wr (wa.drewN qd)) Hm.out).frozen k
   try go_wp2_with fail
   refine hK.out _ _ (KF.out _ Lau) (λhHeld=>?_);clear hK K
   try simp only [ga,gs,gz,Act.put,sa,sz,ss]
   refine tk 11 ?_;refine rd 12 λK hK=>?_
   simp only [ga,gs,gz]
   go_simp
   refine hK.out _ _ ?_ (λhHeld=>?_)
   ·(try dsimp only);(refine ⟨?_,?_,?_,?_⟩<;>(repeat (refine qa0 ?_ (by first|omega|(simp;done)|(simp;omega))))<;>(refine Later.cell (Lau:Later wr _) ?_)<;>assumption)
   clear hK K
   try simp only [ga,gs,gz,Act.put,sa,sz,ss]
   clear KF;refine Zn1 krZ ?_ _;refine Zd1 ?_;have hl:Later wr (wa.drewN qd):=(Lau:Later wr (wa.drewN qd))
   have h4:Blk ((wa.drewN qd).setCell ⟨h,k,none⟩ (nQ iQ (Fx.add dk bk))) h 42 ((R.take (k+1)++b.c.drop (k+1)).map (Za1 iQ)).toArray:=by
    have:=(hl.blk Hm.out).set_ k (nQ iQ (Fx.add dk bk));rw [←gm.out,List.map_set];simpa using this
   have hO:=(hl.blk Hw.out).far (p:=⟨h,k,none⟩) soZ (nQ iQ (Fx.add dk bk));have hB:=(hl.blk Hp.out).far (p:=⟨h,k,none⟩) soZ (nQ iQ (Fx.add dk bk));have hI:=(hl.blk HX.out).far (p:=⟨h,k,none⟩) soZ (nQ iQ (Fx.add dk bk));have hL:=(hl.blk HH.out).far (p:=⟨h,k,none⟩) soZ (nQ iQ (Fx.add dk bk));have hy:Blk ((wa.drewN qd).setCell ⟨h,k,none⟩ (nQ iQ (Fx.add dk bk))) g 3 (b.s.map (Za1 iQ)).toArray:=(hl.blk Hi.out).far (p:=⟨h,k,none⟩) h2 (nQ iQ (Fx.add dk bk));have hw:=(h5.out.trans hl).set (p:=⟨h,k,none⟩) soZ (nQ iQ (Fx.add dk bk));obtain ⟨ge,h0,Hg,He,h1,h7,Hj⟩:=zd7 h4 hO hB hI hL hy hw;clear h4 hO hB hI hL hy hw;go_wp2_with fail;go_roundw
   case rel=>exact ⟨k+1,by omega,by go_num,ge.out,h0.out,Hg.out,He.out,h1.out,h7.out,Hj.out⟩
   case measure=>simp [intOf];omega
  ·obtain rfl:k=b.c.length:=by omega
   rw [Ly.mid_end R b.c _ hp.out.symm hp.out] at hm;have o0:wr.cell? ⟨p,0,none⟩=some (sQ (some ⟨g,0,none⟩) b.s.length b.s.length):=by rw [hj.cell];rfl
   have o1:wr.cell? ⟨p,1,none⟩=some (sQ (some ⟨h,0,none⟩) b.c.length b.c.length):=by rw [hj.cell];rfl
   have c0:=ha.cell 0;have c1:=ha.cell 1;have f0:=ha.frozen 0;have f1:=ha.frozen 1;simp at c0 c1;have hY:=(ha.set_ 0 (sQ (some ⟨g,0,none⟩) b.s.length b.s.length)).set_ 1 (sQ (some ⟨h,0,none⟩) b.c.length b.c.length);have d0:=hY.cell 0;have d1:=hY.cell 1;simp at d0 d1;have HZ:g≠w.heap.size+3:=by omega
   have Ha:h≠w.heap.size+3:=by omega
   obtain ⟨Hm,Hw,Hp,HX,HH,Hi,h5,gA⟩:=zd8 hm hj ha hr hM hX hf hY;clear hm hj ha hr hM hX hf hY;go_wp2_with fail;refine Zk1 (v:=.tuple #[.agg #[sQ (some ⟨g,0,none⟩) b.s.length b.s.length,sQ (some ⟨h,0,none⟩) b.c.length b.c.length],nQ iQ 0]) (by simp [results,Tryz.results70,go_sem,d0,d1]) rfl ?_;refine GoP.ok HE.out (TenN.o ⟨g,h,by simp [hp.out],by omega,by omega,(Hi.out.far (p:=⟨w.heap.size+3,0,none⟩) HZ _).far (p:=⟨w.heap.size+3,1,none⟩) HZ _,(Hm.out.far (p:=⟨w.heap.size+3,0,none⟩) Ha _).far (p:=⟨w.heap.size+3,1,none⟩) Ha _⟩ (by show b.s.length<=_;omega) (by have:=hp.out;show R.length<=_;omega) h8.out) ((h5.out.set (p:=⟨w.heap.size+3,0,none⟩) sZ _).set (p:=⟨w.heap.size+3,1,none⟩) sZ _)
namespace Ly
theorem prod_append (a b:List Int):Safe.prod (a++b)=Safe.prod a*Safe.prod b:=by
 induction a with
 | nil=>simp [Safe.prod]
 | cons x r ih=>simp only [List.cons_append,Safe.prod,ih,Int.mul_assoc]
def poolR (x:Ten) (width step:Int):List Int × Int:=if Tn.right x then Od.pool x.s width step else ([],20)
theorem poolR_err (x:Ten) (width step:Int):(poolR x width step).2=poolErr x width step:=by unfold poolR poolErr;split<;>rfl
theorem qgt {l:List Int} (h:1<=l.length):∃r a,l=r++[a]:=⟨l.dropLast,l.getLast (by intro e;subst e;simp at h),(List.dropLast_concat_getLast _).symm⟩
theorem pool_facts {x:Ten} {width step:Int} (h:poolErr x width step=0):
  ∃sd n wd st pre:Nat,lastOf x.s=sd/\x.s.getD (x.s.length-1) 0=(sd:Int)/\lastOf (poolS x width step)=n/\(poolS x width step).getD (x.s.length-1) 0=(n:Int)/\width=(wd:Int)/\step=(st:Int)/\1<=wd/\wd<=sd/\1<=st/\1<=n/\(n-1)*st+wd<=sd/\x.c.length=pre*sd/\span (poolS x width step)=pre*n/\(poolS x width step).length=x.s.length/\1<=x.s.length/\x.s.length<=4/\Sh.right (poolS x width step)=true/\x.c.length<=65536/\pre*n<=65536/\sd<=1024/\n<=1024/\st<=1024/\poolR x width step=(poolS x width step,0)/\(Safe.prod (poolS x width step))=((pre*n:Nat):Int):=by
 unfold poolErr at h
 by_cases hr:Tn.right x=true
 case neg=>rw [inZ hr] at h;omega
 rw [ipZ hr] at h;have hq:=hr;simp only [Tn.right,Zz,decide_eq_true_eq] at hr;obtain ⟨_,l4,l1,hm,hB,hC⟩:=Sh.right_mul hr.1;obtain ⟨r,a,hl⟩:=qgt l1;have hR:poolR x width step=Od.pool x.s width step:=by unfold poolR;rw [ipZ hq]
 have hf:x.s.length=r.length+1:=by rw [hl];simp
 have hd:x.s.getD (x.s.length-1) 0=a:=by rw [hf,hl];simp [gdZ]
 have ha:=hm a (by rw [hl];simp);unfold Od.pool at h hR;rw [ipZ hr.1] at h hR
 by_cases hw:(Od.window (x.s.getD (x.s.length-1) 0) width step).2=0
 case neg=>rw [inZ hw] at h;simp at h
 rw [ipZ hw] at hR
 have hS:poolS x width step=x.s.set (x.s.length-1) (Od.window (x.s.getD (x.s.length-1) 0) width step).1:=by
  unfold poolS Od.pool;rw [ipZ hr.1,ipZ hw]
 have ho:=Od.window_ok hw
 have hj:poolS x width step=r++[(Od.window a width step).1]:=by
  rw [hS,hd,hf,hl,Nat.add_sub_cancel];simp
 have hk:Sh.right (poolS x width step)=true:=by
  rw [hS];have hi:x.s.length-1<x.s.length:=by omega
  refine Od.right_set hr.1 hi ho.1 ?_;have:x.s[x.s.length-1]=x.s.getD (x.s.length-1) 0:=by rw [gdZ,geZ hi];rfl
  rw [this];exact ho.2
 rw [hd] at hw ho;generalize hv:(Od.window a width step).1=v at *
 have hn:Sh.side a/\Sh.side width/\Sh.side step/\width<=a/\v=1+(a-width).tdiv step:=by
  unfold Od.window at hw hv
  split at hw
  ·rename_i hc
   rw [ipZ hc] at hv;exact ⟨hc.1,hc.2.1,hc.2.2.1,hc.2.2.2,hv.symm⟩
  ·simp at hw
 obtain ⟨q1,q2,q3,q4,q5⟩:=hn;have q1:=(Sh.side_iff _).1 q1;have q2:=(Sh.side_iff _).1 q2;have q3:=(Sh.side_iff _).1 q3;have hA:1<=v/\v<=a:=ho;have hp:1<=Safe.prod r:=Safe.prod_pos r (λz hz=>(hm z (by rw [hl];simp [hz])).1);have hx:Safe.prod [a]=a:=by simp [Safe.prod]
 have hu:Safe.prod [v]=v:=by simp [Safe.prod]
 have hg:Safe.prod x.s=Safe.prod r*a:=by rw [hl,prod_append,hx]
 have hb:Safe.prod (poolS x width step)=Safe.prod r*v:=by rw [hj,prod_append,hu]
 obtain ⟨sd,rfl⟩:=ezZ (show 0<=a by omega);obtain ⟨n,rfl⟩:=ezZ (show 0<=v by omega);obtain ⟨wd,rfl⟩:=ezZ (show 0<=width by omega);obtain ⟨st,rfl⟩:=ezZ (show 0<=step by omega);obtain ⟨pre,ht⟩:=ezZ (show 0<=Safe.prod r by omega);rw [ht] at hg hb hp;rw [←Int.natCast_mul] at hg hb
 have hs:(n-1)*st+wd<=sd:=by
  have h3:(n:Int)-1=((sd:Int)-(wd:Int)) / (st:Int):=by rw [q5,Int.tdiv_eq_ediv_of_nonneg oZ];omega
  have h4:=Int.ediv_mul_le ((sd:Int)-(wd:Int)) (show (st:Int)≠0 by omega);rw [←h3] at h4;have h5:(((n-1)*st:Nat):Int)=((n:Int)-1)*(st:Int):=by rw [Int.natCast_mul];congr 1;omega
  omega
 have hy:pre*n<=pre*sd:=Nat.mul_le_mul_left _ oZ;have he:(poolS x wd st).getD (x.s.length-1) 0=(n:Int):=by rw [hj,hf,Nat.add_sub_cancel];simp [gdZ]
 have hh:(poolS x wd st).length=x.s.length:=by rw [hj,hf];simp
 refine ⟨sd,n,wd,st,pre,?_,hd,?_,he,rfl,rfl,by omega,by omega,by omega,by omega,hs,by omega,?_,hh,l1,l4,hk,by omega,by omega,by omega,by omega,by omega,?_,hb⟩
 ·show (x.s.getD (x.s.length-1) 0).toNat=sd
  rw [hd];simp
 ·show ((poolS x wd st).getD ((poolS x wd st).length-1) 0).toNat=n
  rw [hh,he];simp
 ·unfold span;rw [hb];exact tnZ _
 ·rw [hS];exact hR
theorem from_bd {sd n wd st pre i:Nat} (hn:1<=n) (hns:(n-1)*st+wd<=sd) (hi:i<pre*n):from_ sd n st i+wd<=pre*sd:=by
 unfold from_;have h1:i / n<pre:=by rw [Nat.div_lt_iff_lt_mul oZ];exact hi
 have h2:i % n<=n-1:=by have:=Nat.mod_lt i (show 0<n by omega);omega
 have h3:i % n*st<=(n-1)*st:=mlZ _ h2;have h4:(i / n+1)*sd<=pre*sd:=mlZ _ h1;rw [Zu] at h4;omega
end Ly
theorem qd7 (kind:Int) (S C:Option Addr) (c d:Nat) (x:Ten) (width step:Int) (w:Zp1) (hk:kind=1∨kind=2) (hx:TenIn w S C c d x):
  Calls Tryz.prog 92 #[nQ iQ kind,.agg #[sQ S x.s.length c,sQ C x.c.length d],nQ iQ width,nQ iQ step] w (ShPost (Ly.poolR x width step) w):=by
 have hg:Later w (w.alloc (.cells #[sQ S x.s.length c,sQ C x.c.length d] 30)):=(Later.refl w).alloc _;have hi:=Blk.new w 30 #[sQ S x.s.length c,sQ C x.c.length d];have l1:=hx.l1;have l2:=hx.l2;obtain ⟨hj,hm,Hx⟩:=zd3 hg hi hx;clear hg hi hx;rcases hk with rfl|rfl
 all_goals
  go_enter Tryz.func92,Tryz.ntmps92;go_wp2_with fail;generalize w.alloc (.cells #[sQ S x.s.length c,sQ C x.c.length d] 30)=w1 at *;refine (qa5 S C c d x w1 oZ oZ (Hx.out.later hj.out).r.1).mono ?_;rintro e w2 ⟨rfl,hh⟩;have he:Later w1 w2:=hh;have ha:=he.blk hm.out;have c0:=ha.cell 0;simp at c0;have hd:=hj.out.trans he;clear hh he;cases hr:Tn.right x
  ·have HE:=zI (show Ly.poolR x width step=([],20) by unfold Ly.poolR;rw [hr];rfl)
   clear hr;obtain ⟨hc,hl⟩:=zd2 hd ha;clear hd ha;go_wp2_with fail
   go_ret2
   exact ShPost.fail HE.out hc.out
  ·have HE:=zI (show Ly.poolR x width step=Od.pool x.s width step by unfold Ly.poolR;rw [hr];rfl)
   clear hr;obtain ⟨hc,hl⟩:=zd2 hd ha;clear hd ha;go_wp2_with fail;refine (qcW S c x.s width step w2 oZ (Hx.out.later hc.out).r.1).mono ?_;rintro e w3 ⟨A,ac,rfl,hI,hn,ho,hf,hb⟩;obtain ⟨HI,HF,HB⟩:=zd3 hI hf hb;clear hI hf hb;go_wp2_with fail
   go_ret2
   exact ShPost.pass HE.out hc.out HI.out hn ho HF.out HB.out
theorem qbC (b off d len:Nat) (sd n wd st pre i:Nat) (w:Zp1) (hd:len<=d) (hd2:d<=9223372036854775807) (hlen:len=pre*sd) (hl:len<=65536) (hn:1<=n) (hw:1<=wd) (hns:(n-1)*st+wd<=sd) (hi:i<pre*n) (hpn:pre*n<=65536) (hst:st<=1024) (hn2:n<=1024):
  Calls Tryz.prog 93 #[sQ (some ⟨b,off,none⟩) len d,nQ iQ i,nQ iQ sd,nQ iQ n,nQ iQ wd,nQ iQ st] w λe w'=>e=.returned (sQ (some ⟨b,off+Ly.from_ sd n st i,none⟩) wd (d-Ly.from_ sd n st i))/\∃q,w'=w.drewN q:=by
 have hb:=Ly.from_bd hn hns hi;rw [←hlen] at hb;have hf:Ly.from_ sd n st i=i / n*sd+i % n*st:=rfl;have q1:i / n<=i:=Nat.div_le_self _ _;have q2:=Nat.mod_lt i (show 0<n by omega);have e0:(i:Int) / (n:Int)=((i / n:Nat):Int):=by simp
 have e1:(i:Int) % (n:Int)=((i % n:Nat):Int):=by simp
 rw [hf] at hb ⊢;clear hf;generalize i / n=q at *;generalize i % n=r at *;obtain ⟨a,ha⟩:∃a,a=q*sd:=⟨_,rfl⟩
 obtain ⟨z,hz⟩:∃z,z=r*st:=⟨_,rfl⟩
 rw [←ha,←hz] at hb ⊢;have e2:(q:Int)*(sd:Int)=(a:Int):=by rw [ha];simp
 have e3:(r:Int)*(st:Int)=(z:Int):=by rw [hz];simp
 have k0:(q:Int)<=65536:=by omega
 have kr:(r:Int)<=1024:=by omega
 have k1:(0:Int)<=(i:Int):=by omega
 have k2:(1:Int)<=(n:Int):=by omega
 have k3:(0:Int)<=(a:Int)+(z:Int):=by omega
 have k4:(a:Int)+(z:Int)<=131072:=by omega
 have ka:(a:Int)<=65536:=by omega
 have kz:(z:Int)<=65536:=by omega
 have k5:(a:Int)+(z:Int)+(wd:Int)<=(d:Int):=by omega
 have k6:(wd:Int)<=65536:=by omega
 have k7:a+z+wd<=d:=by omega
 have k8:a+z<d:=by omega
 clear ha hz hlen hns hi hpn;go_enter Tryz.func93,Tryz.ntmps93;go_wp2_with fail
 go_quiet (fail)
 go_wp2_with fail;rw [Nat.add_sub_cancel_left];go_ret;exact ⟨rfl,nq,rfl⟩
theorem qbD {l:List Int}:∀ {k:Nat},1<=k->0<=Ly.best l k/\Ly.best l k<k
 | 0,h=>by omega
 | k+1,_=>by
  unfold Ly.best
  split
  ·omega
  ·rename_i h
   by_cases hk:1<=k
   ·have:=qbD (l:=l) hk
    omega
   ·have:k=0:=by omega
    subst this;exact absurd (.inl (show (-1:Int)<0 by decide)) h
theorem qe5 (A:Option Addr) (c:Nat) (l:List Int) (w:Zp1) (hl:l.length<=1048576) (hI:Ints iQ w A l):
  Calls Tryz.prog 94 #[sQ A l.length c] w λe w'=>e=.returned (nQ iQ (Ly.best l l.length))/\w=w':=by
 have HI:=zI hI;clear hI;go_enter Tryz.func94,Tryz.ntmps94;go_wp2_with fail
 go_loop [3,8] (λs i=>∃k:Nat,k<=l.length/\i=nQ iQ k/\s=nQ iQ (Ly.best l k)) (λ_ i=>l.length-(intOf i).toNat)
 case atStart=>exact ⟨0,Zt _,rfl,rfl⟩
 case round=>
  obtain ⟨k,hk,rfl,rfl⟩:=hrel
  by_cases hh:k<l.length
  ·obtain ⟨b,off,rfl,-,hc⟩:=HI.out k hh
   rw [show l.getD k 0=Ly.at_ l k from rfl] at hc
   by_cases hg:k=0
   ·subst hg
    have E:=zI (show Ly.best l (0+1)=0 by simp [Ly.best]);rw [show Ly.best l 0 = -1 from rfl];simp only [Zx] at hc;go_wp2_with fail
    go_round
    case rel=>exact ⟨0+1,by omega,by go_num,by rw [E.out];rfl⟩
    case measure=>simp [intOf];omega
   ·have hb:=qbD (l:=l) (show 1<=k by omega)
    obtain ⟨m,hm⟩:∃m:Nat,Ly.best l k=(m:Int):=⟨_,(Int.toNat_of_nonneg hb.1).symm⟩
    have ha:Ly.best l (k+1)=if Ly.at_ l m<Ly.at_ l k then (k:Int) else (m:Int):=by
     unfold Ly.best;rw [hm]
     by_cases h2:Ly.at_ l m<Ly.at_ l k
     ·rw [ipZ (.inr (by simpa using h2)),ipZ h2]
     ·rw [inZ (by simp only [tnZ];omega),inZ h2]
    have he:m<l.length:=by omega
    obtain ⟨b',off',e',-,hf⟩:=HI.out m he;injection e' with e';injection e' with e1 e2;subst e1 e2
    rw [show l.getD m 0=Ly.at_ l m from rfl] at hf;have km:(m:Int)<(l.length:Int):=by omega
    have km0:(0:Int)<=(m:Int):=by omega
    rw [hm];generalize Ly.at_ l k=x at *;generalize Ly.at_ l m=y at *;have HS:=zI ha;clear ha hm hb
    by_cases hd:y<x
    ·have E:=zI (HS.out.trans (ipZ hd))
     go_wp2_with fail
     go_round
     case rel=>exact ⟨k+1,by omega,by go_num,by rw [E.out]⟩
     case measure=>simp [intOf];omega
    ·have E:=zI (HS.out.trans (inZ hd))
     go_wp2_with fail
     go_round
     case rel=>exact ⟨k+1,by omega,by go_num,by rw [E.out]⟩
     case measure=>simp [intOf];omega
  ·obtain rfl:k=l.length:=by omega
   go_wp2_with fail;go_ret;exact ⟨rfl,rfl⟩
namespace Ly
theorem pool_err {top:Bool} {x:Ten} {width step:Int} (h:poolErr x width step≠0):pool top x width step=(none_,poolErr x width step):=by unfold pool;rw [inZ h]
theorem pool_ok {top:Bool} {x:Ten} {width step:Int} (h:poolErr x width step=0):pool top x width step=(⟨poolS x width step,tab (span (poolS x width step)) λi=>poolCell top (win x.c (lastOf x.s) (lastOf (poolS x width step)) width.toNat step.toNat i) width⟩,0):=by unfold pool;rw [ipZ h]
theorem win_len {c:List Int} {sd n wd st i:Nat} (h:from_ sd n st i+wd<=c.length):(win c sd n wd st i).length=wd:=by unfold win;rw [Zo,Zq];omega
theorem win_in {c:List Int} {sd n wd st i:Nat} (h:∀z∈c,Fx.In z):∀z∈win c sd n wd st i,Fx.In z:=λz hz=>h z (Zp (Zh hz))
theorem win_at {c:List Int} {sd n wd st i j:Nat} (hj:j<wd):(win c sd n wd st i).getD j 0=c.getD (from_ sd n st i+j) 0:=by
 unfold win;simp only [gdZ];rw [List.getElem?_take,ipZ hj,List.getElem?_drop]
theorem poolCell_in {top:Bool} {l:List Int} {width:Int} (h:∀z∈l,Fx.In z):Fx.In (poolCell top l width):=by
 unfold poolCell
 split
 ·exact at_in h _
 ·exact Fx.div_in _ _
theorem poolCell_top (l:List Int) (width:Int):poolCell true l width=at_ l (best l l.length).toNat:=rfl
theorem poolCell_mean (l:List Int) (width:Int):poolCell false l width=Fx.div (Fx.sum l) (width*4294967296):=rfl
theorem zeros_len (n:Nat):(zeros n).length=n:=by simp [zeros]
end Ly
theorem TenIn.win {w:Zp1} {S:Option Addr} {b off c d:Nat} {t:Ten} (h:TenIn w S (some ⟨b,off,none⟩) c d t) {sd n wd st i:Nat} (hb:Ly.from_ sd n st i+wd<=t.c.length):Ints iQ w (some ⟨b,off+Ly.from_ sd n st i,none⟩) (Ly.win t.c sd n wd st i):=Ints.of_row λj hj=>by
 rw [Ly.win_len hb] at hj;obtain ⟨b',off',e,-,ha⟩:=h.r.2 (Ly.from_ sd n st i+j) oZ;injection e with e;injection e with e1 e2;subst e1 e2
 rw [Nat.add_assoc,ha,Ly.win_at hj]
theorem qgu (top:Bool) (kind:Int) (S C:Option Addr) (c d:Nat) (x:Ten) (width step:Int) (w:Zp1) (hkt:(kind=1/\top=true)∨(kind=2/\top=false)) (hx:TenIn w S C c d x):
  Calls Tryz.prog 73 #[nQ iQ kind,.agg #[sQ S x.s.length c,sQ C x.c.length d],nQ iQ width,nQ iQ step] w (GoP (Ly.pool top x width step) w):=by
 obtain ⟨hv,hz,gt⟩:=qbd w 30 30 #[sQ S x.s.length c,sQ C x.c.length d] #[sQ none 0 0,sQ none 0 0];obtain ⟨hM,Hz,HM,Hx,H1⟩:=zd5 hv hz gt hx hkt;clear hv hz gt hx hkt;go_enter Tryz.func73,Tryz.ntmps73;go_wp2_with fail;generalize (w.alloc (.cells #[sQ S x.s.length c,sQ C x.c.length d] 30)).alloc (.cells #[sQ none 0 0,sQ none 0 0] 30)=w1 at *;refine (qd7 kind S C c d x width step w1 (by rcases H1.out with h|h<;>omega) (Hx.out.later HM.out)).mono ?_;rintro e w2 ⟨A,ac,rfl,hI,gG,g3,hf,gn⟩;have hL:Later w1 w2:=gn;have Hd:=HM.out.trans hL;have ht:=hL.blk Hz.out;have ha:=hL.blk hM.out;clear gn Hz HM hM hL hf;rw [Ly.poolR_err]
 by_cases hg:Ly.poolErr x width step=0
 case neg=>
  have HE:=zI (Ly.pool_err (top:=top) hg);have d1:(Ly.poolErr x width step==0)=false:=by simpa using hg
  have d2:(Ly.poolErr x width step != 0)=true:=by simpa using hg
  have Hg:=zI hg;clear hg;generalize Ly.poolErr x width step=g at *;generalize (Ly.poolR x width step).1.length=sl at *;have c0:=ht.cell 0;have c1:=ht.cell 1;have f0:=ht.frozen 0;have f1:=ht.frozen 1;simp at c0 c1;obtain ⟨HA,Hv,he,HI⟩:=zd4 Hd ht ha hI;clear Hd ht ha hI;go_wp2_with fail;refine Zk1 (v:=.tuple #[.agg #[sQ none 0 0,sQ none 0 0],nQ iQ g]) (by simp [results,Tryz.results73,go_sem,c0,c1]) rfl ?_;exact GoP.fail HE.out Hg.out ((HA.out.set (p:=⟨w.heap.size+1,0,none⟩) sZ _).set (p:=⟨w.heap.size+1,1,none⟩) sZ _)
 have HE:=zI (Ly.pool_ok (top:=top) hg);obtain ⟨sd,n,wd,st,pre,h1,h2,h3,h4,rfl,rfl,h5,h6,h7,h8,h9,gf,gh,hL,Gd,g7,H9,gV,gT,g4,gO,gH,gb,gm⟩:=Ly.pool_facts hg;rw [hg];rw [gb] at hI gG ⊢;rw [h1,h3,gh,tnZ,tnZ] at HE;generalize Ly.poolS x wd st=os at *;generalize hR:(Ly.tab (pre*n) λi=>Ly.poolCell top (Ly.win x.c sd n wd st i) wd)=R at *;have gv:R.length=pre*n:=by rw [←hR,Ly.tab_len]
 have gi:∀i (hi:i<R.length),R[i]=Ly.poolCell top (Ly.win x.c sd n wd st i) wd:=λi hi=>by subst hR;exact Ly.tab_get hi
 have hE:=Hx.out.num;have Hp:∀z∈R,Fx.In z:=by rw [←hR];exact Ly.tab_in λi _=>Ly.poolCell_in (Ly.win_in hE)
 have gq:(Safe.prod os).toNat=pre*n:=by rw [gm];exact tnZ _
 have g8:os.length<=4:=by omega
 obtain ⟨bs,os',rfl,-,y0⟩:=(Hx.out.later Hd).r.1 (x.s.length-1) oZ;obtain ⟨ba,oa,rfl,-,y1⟩:=hI (x.s.length-1) (by show _<os.length;omega);obtain ⟨gU,H7,gw,gI,H2,H4,gW⟩:=zd7 gv gq gf H9 h2 h4 hL;have y0:w2.cell? ⟨bs,os'+(x.s.length-1),none⟩=some (nQ iQ sd):=by rw [y0,h2]
 have y1:w2.cell? ⟨ba,oa+(x.s.length-1),none⟩=some (nQ iQ n):=by rw [y1];exact congrArg (λz=>some (Za1 iQ z)) h4
 obtain ⟨Y0,Y1⟩:=zd2 y0 y1;clear hR hg h1 h2 h3 h4 gf gh hL H9 gb gm gv gq y0 y1;obtain ⟨HA,Hv,he,gE,HO,HI,HC⟩:=zd7 Hd ht ha gi Hp hI hE;clear Hd ht ha gi Hp hI hE;go_wp2_with fail;refine (qct (some ⟨ba,oa,none⟩) ac os 0 w2 oZ HI.out).mono ?_;rintro e w3 ⟨gC,gp⟩;rcases gC with ⟨HG,-⟩|⟨-,v,rfl,g,h,rfl,hg,hh,hG,hH⟩
 ·exact absurd gI.out (by rw [HG];decide)
 have Hs:Later w2 w3:=gp;have Hr:Blk w3 h 42 ((Ly.zeros (pre*n)).map (Za1 iQ)).toArray:=by have:=hH;rw [H7.out] at this;exact this
 have H3:(Zc (Safe.prod os).toNat (0:Int)).length=pre*n:=by rw [H7.out,List.length_replicate]
 rw [show ((⟨os,Zc (Safe.prod os).toNat 0⟩:Ten).c.length)=pre*n from H3];have Hh:Later w3 (w3.alloc (.cells #[sQ (some ⟨g,0,none⟩) os.length os.length,sQ (some ⟨h,0,none⟩) (pre*n) (pre*n)] 30)):=(Later.refl w3).alloc _;have ho:=Blk.new w3 30 #[sQ (some ⟨g,0,none⟩) os.length os.length,sQ (some ⟨h,0,none⟩) (pre*n) (pre*n)];have hC:=Hs.trans Hh;have HY:=HA.out.trans hC;have gg:=hC.blk Hv.out;have Hj:=hC.blk he.out;have gl:=Hh.blk hG;have gB:=Hh.blk Hr;have g0:=HA.out.size;have g5:=Hs.size;have g1:=Hr.lt;have gY:=hG.lt;have Gb:=Hv.out.lt;have hU:=qbp hG Hr;have y0:=hC.cell Y0.out;have y1:=hC.cell Y1.out;clear gp Hv he hG hH Hr H3 Y0 Y1;obtain ⟨Y0,Y1⟩:=zd2 y0 y1;clear y0 y1;obtain ⟨gP,gJ,Ho,g2,gK,gQ,hY,gN,gM⟩:=zd9 Hs Hh ho hC HY gg Hj gl gB;clear Hs Hh ho hC HY gg Hj gl gB;go_upto_region 5 with fail;generalize w3.alloc (.cells #[sQ (some ⟨g,0,none⟩) os.length os.length,sQ (some ⟨h,0,none⟩) (pre*n) (pre*n)] 30)=w4 at *;generalize hpe:w3.heap.size=p at *;have gX:h<p:=by omega
 have gZ:w.heap.size+1<p:=by omega
 have HS:w.heap.size+1<h:=by omega
 clear gJ gP hpe;rw [show (⟨os,Zc (Safe.prod os).toNat 0⟩:Ten).s.length=os.length from rfl];rw [gW.out];go_upto_region 7 with fail;have b0:w4.cell? ⟨w.heap.size,0,none⟩=some (sQ (some ⟨bs,os',none⟩) x.s.length c):=by rw [hY.out.cell];rfl
 have y0:=Y0.out;have y1:=Y1.out;have e1:iQ.wrap ((x.s.length:Int)-1)=(x.s.length:Int)-1:=Zc1 _ oZ;have e2:(0:Int)<=(x.s.length:Int)-1:=by omega
 have e3:(x.s.length:Int)-1<(x.s.length:Int):=by omega
 have e4:((x.s.length:Int)-1).toNat=x.s.length-1:=by omega
 clear Y0 Y1
 go_quiet (fail)
 clear e1 e2 e3 e4 b0 y0 y1;have o1:(w4.drewN nq).cell? ⟨p,1,none⟩=some (sQ (some ⟨h,0,none⟩) (pre*n) (pre*n)):=by rw [(Ho.out.drewN nq).cell];rfl
 have HQ:Blk w4 h 42 ((R.take 0++(Ly.zeros (pre*n)).drop 0).map (Za1 iQ)).toArray:=by simpa using gM.out
 have HP:x.c.length<=d:=Hx.out.c1;have gL:d<=9223372036854775807:=Hx.out.c2;obtain ⟨N,hN⟩:∃N,N=pre*n:=⟨_,rfl⟩
 have gd:=zI hN;rw [←hN] at o1 gT HQ ⊢;have Hk:R.length=N:=by rw [hN];exact gU.out
 have hb:=zI Hk;have HF:=zI (Ly.zeros_len N);have gj:Blk w4 p 30 #[sQ (some ⟨g,0,none⟩) os.length os.length,sQ (some ⟨h,0,none⟩) N N]:=by rw [hN];exact Ho.out
 clear hN Hk;obtain ⟨go,H6⟩:=zd2 HQ gj;clear HQ gj;go_wp2_with fail;clear o1
 go_loopw [54] (λi wx=>∃k:Nat,k<=N/\i=nQ iQ (k:Int)/\Blk wx h 42 ((R.take k++(Ly.zeros N).drop k).map (Za1 iQ)).toArray/\Blk wx p 30 #[sQ (some ⟨g,0,none⟩) os.length os.length,sQ (some ⟨h,0,none⟩) N N]/\Blk wx (w.heap.size+1) 30 #[sQ none 0 0,sQ none 0 0]/\Blk wx w.heap.size 30 #[sQ (some ⟨bs,os',none⟩) x.s.length c,sQ C x.c.length d]/\Blk wx g 3 (os.map (Za1 iQ)).toArray/\Later w wx) (λi _=>N-(intOf i).toNat)
 case atStart=>exact ⟨0,Zt _,rfl,go.out.drewN _,H6.out.drewN _,gQ.out.drewN _,hY.out.drewN _,gN.out.drewN _,gK.out.drewN _⟩
 case round=>
  obtain ⟨k,hk,rfl,hm,hy,hr,hv,Hw,Hl⟩:=hrel;clear go H6
  by_cases Ga:k<N
  ·have hs:k<R.length:=by have:=hb.out;omega
   have gk:k<pre*n:=by have:=gd.out;omega
   have HJ:=Ly.mid_step R (Ly.zeros N) hs (hb.out.trans HF.out.symm);have Hf:=Ly.mid_len R (Ly.zeros N) k oZ (hb.out.trans HF.out.symm);have H5:=gE.out k hs;have Ht:=Ly.from_bd (pre:=pre) (sd:=sd) h8 h9 gk;rw [←gw.out] at Ht;have ge:=Ly.win_len (c:=x.c) (sd:=sd) (n:=n) (wd:=wd) (st:=st) (i:=k) Ht;have HT:=Ly.win_in (sd:=sd) (n:=n) (wd:=wd) (st:=st) (i:=k) HC.out;obtain ⟨bc,oc,rfl,Gc,-⟩:=Hx.out.cell (k:=0) oZ;have H8:=λ(V:Zp1) (hV:Later wr V)=>(Hx.out.later (Hl.trans hV)).win (sd:=sd) (n:=n) (st:=st) (i:=k) (wd:=wd) Ht
   have HX:=λ(V:Zp1)=>qbC bc oc d x.c.length sd n wd st pre k V HP gL gw.out gV h8 h5 h9 gk (by have:=gd.out;omega) gH gO
   rw [H5] at HJ;have hO:Fx.In (Ly.poolCell top (Ly.win x.c sd n wd st k) wd):=Ly.poolCell_in HT;have c0:wr.cell? ⟨w.heap.size,1,none⟩=some (sQ (some ⟨bc,oc,none⟩) x.c.length d):=by rw [hv.cell];rfl
   have o1:wr.cell? ⟨p,1,none⟩=some (sQ (some ⟨h,0,none⟩) N N):=by rw [hy.cell];rfl
   obtain ⟨u,hu⟩:∃u,wr.cell? ⟨h,k,none⟩=some u:=⟨_,hm.row_get (by rw [Hf];exact hs)⟩
   have Ge:Ly.from_ sd n st k+wd<=d:=by omega
   generalize Ly.from_ sd n st k=fr at *;generalize Ly.win x.c sd n wd st k=wn at *;have kk1:(k:Int)<(N:Int):=by omega
   have kk2:(0:Int)<=(k:Int):=by omega
   obtain ⟨HU,gr,hB⟩:=zd3 hu o1 ge;clear Hf H5 hs Ht hu o1 ge;obtain ⟨Hm,HH,HD,hM,HB,gA,gR,Hu,gu⟩:=zd9 hm hy hr hv Hw HJ HX Hl H8;obtain ⟨gD,gF⟩:=zd2 HT hO;clear hm hy hr hv Hw HJ HX Hl H8 HT hO;go_wp2_with fail;refine (gR.out _).mono ?_;rintro e wa ⟨rfl,q,rfl⟩;have hp:Later wr (wr.drewN q):=(Later.refl wr).drewN q;have o1:=hp.cell gr.out;have hu:=hp.cell HU.out;have H0:=gu.out _ hp;have fu:=(hp.blk Hm.out).frozen k;have gc:=hp.blk Hm.out;have hX:=hp.blk HH.out;have Hq:=hp.blk HD.out;have hS:=hp.blk hM.out;have Ha:=hp.blk HB.out;have hT:=Hu.out.trans hp;clear c0 hp gr HU gu Hm HH HD hM HB Hu;generalize wr.drewN q=wq at *;obtain ⟨HN,hP,Hb,hQ,Hi,Hc,HW⟩:=zd7 gc hX Hq hS Ha hT H0;clear gc hX Hq hS Ha hT H0;rcases H1.out with ⟨rfl,rfl⟩|⟨rfl,rfl⟩
   ·have HZ:=qbD (l:=wn) (k:=wn.length) (by have:=hB.out;omega)
    obtain ⟨m,hm⟩:∃m:Nat,Ly.best wn wn.length=(m:Int):=⟨_,(Int.toNat_of_nonneg HZ.1).symm⟩
    have g6:m<wd:=by have:=hB.out;omega
    have gx:=λ(V:Zp1) (hV:Later wq V)=>(show Calls Tryz.prog 94 #[sQ (some ⟨bc,oc+fr,none⟩) wd (d-fr)] V λe w'=>e=.returned (nQ iQ (m:Int))/\V=w' from by
     have hd:=qe5 (some ⟨bc,oc+fr,none⟩) (d-fr) wn V (by have:=hB.out;omega) (HW.out.below hV (lrZ _));rw [hm,hB.out] at hd;exact hd)
    obtain ⟨bb,ob,e',-,yv⟩:=HW.out m (by have:=hB.out;omega);injection e' with e';injection e' with e1 e2;subst e1 e2
    have hc:=gA.out;rw [Ly.poolCell_top,hm,tnZ] at hc;rw [show wn.getD m 0=Ly.at_ wn m from rfl] at yv;generalize Ly.at_ wn m=y at *;have k3:(m:Int)<(wd:Int):=by omega
    have k4:(0:Int)<=(m:Int):=by omega
    have hD:=zI hc;clear hc hm HZ;have gS:=zI gx;clear gx;go_wp2_with fail;have KF:=zI (show ∀Xw,Later wq Xw->Xw.cell? ⟨p,1,none⟩=some (sQ (some ⟨h,0,none⟩) N N)/\Xw.cell? ⟨bc,oc+fr+m,none⟩=some (nQ iQ y) from λXw h=>⟨h.cell o1,h.cell yv⟩);refine Zm1 ?_;refine Zl1 (S:=λXw=>Xw.cell? ⟨p,1,none⟩=some (sQ (some ⟨h,0,none⟩) N N)/\Xw.cell? ⟨bc,oc+fr+m,none⟩=some (nQ iQ y)) krZ (KF.out _ Lau) (λhHeld=>?_);refine tk 0 ?_;refine tk 1 ?_;refine tk 2 ?_;refine tk 3 ?_;refine tk 4 ?_;refine rd 5 λK hK=>?_
    simp only [ga,gs,gz]
    go_simp
    go_at_call 94;(with_reducible refine (gS.out _ (Lau:Later wq _)).mono ?_);rintro e wb ⟨rfl,rfl⟩
    try go_wp2_with fail
    refine hK.out _ _ (KF.out _ Lau) (λhHeld=>?_);clear hK K
    try simp only [ga,gs,gz,Act.put,sa,sz,ss]
    refine tk 6 ?_;refine tk 7 ?_;refine tk 8 ?_;refine rd 9 λK hK=>?_
    simp only [ga,gs,gz]
    go_simp
    refine hK.out _ _ ?_ (λhHeld=>?_)
    ·(try dsimp only);(refine ⟨?_,?_⟩<;>(repeat (refine qa0 ?_ (by first|omega|(simp;done)|(simp;omega))))<;>(refine Later.cell (Lau:Later wq _) ?_)<;>assumption)
    clear hK K
    try simp only [ga,gs,gz,Act.put,sa,sz,ss]
    clear KF;refine Zn1 krZ ?_ _;refine Zd1 ?_
    have hZ:Blk (wq.drew.setCell ⟨h,k,none⟩ (nQ iQ y)) h 42 ((R.take (k+1)++(Ly.zeros N).drop (k+1)).map (Za1 iQ)).toArray:=by
     have:=(((Later.refl wq).drew).blk HN.out).set_ k (nQ iQ y);rw [←hD.out,List.map_set];simpa using this
    have hq:=(((Later.refl wq).drew).blk hP.out).far (p:=⟨h,k,none⟩) soZ (nQ iQ y);have hn:=(((Later.refl wq).drew).blk Hb.out).far (p:=⟨h,k,none⟩) soZ (nQ iQ y);have ha:=(((Later.refl wq).drew).blk hQ.out).far (p:=⟨h,k,none⟩) soZ (nQ iQ y);have hl:Blk (wq.drew.setCell ⟨h,k,none⟩ (nQ iQ y)) g 3 (os.map (Za1 iQ)).toArray:=(((Later.refl wq).drew).blk Hi.out).far (p:=⟨h,k,none⟩) hU (nQ iQ y);have hj:=(Hc.out.trans ((Later.refl wq).drew)).set (p:=⟨h,k,none⟩) soZ (nQ iQ y);obtain ⟨HR,hw,hF,he,hA,hJ⟩:=zd6 hZ hq hn ha hl hj;clear hZ hq hn ha hl hj;go_wp2_with fail;go_roundw
    case rel=>exact ⟨k+1,by omega,by go_num,HR.out,hw.out,hF.out,he.out,hA.out,hJ.out⟩
    case measure=>simp [intOf];omega
   ·have Hn:=λ(V:Zp1) (hV:Later wq V)=>(show Calls Tryz.prog 114 #[sQ (some ⟨bc,oc+fr,none⟩) wd (d-fr)] V λe w'=>e=.returned (nQ iQ (Fx.sum wn))/\V=w' from by
     have hd:=fix_sum (some ⟨bc,oc+fr,none⟩) (d-fr) wn V (by have:=hB.out;omega) (HW.out.below hV (lrZ _)) gD.out;rw [hB.out] at hd;exact hd)
    have He:=λ(V:Zp1)=>qbY (wd:Int) V oZ oZ
    have hW:Fx.In ((wd:Int)*4294967296):=by unfold Fx.In;omega
    have h0:=λ(V:Zp1)=>qgm (Fx.sum wn) ((wd:Int)*4294967296) V (Fx.sum_in _) hW
    have hc:=gA.out;rw [Ly.poolCell_mean] at hc;generalize Fx.sum wn=sm at *;generalize Fx.div sm ((wd:Int)*4294967296)=y at *;have hD:=zI hc;clear hc hW;obtain ⟨HL,HK,HV⟩:=zd3 Hn He h0;clear Hn He h0;go_wp2_with fail;have KF:=zI (show ∀Xw,Later wq Xw->Xw.cell? ⟨p,1,none⟩=some (sQ (some ⟨h,0,none⟩) N N) from λXw h=>h.cell o1);refine Zm1 ?_;refine Zl1 (S:=λXw=>Xw.cell? ⟨p,1,none⟩=some (sQ (some ⟨h,0,none⟩) N N)) krZ (KF.out _ Lau) (λhHeld=>?_);refine tk 0 ?_;refine tk 1 ?_;refine tk 2 ?_;refine tk 3 ?_;refine tk 5 ?_;refine rd 4 λK hK=>?_
    simp only [ga,gs,gz]
    go_simp
    go_at_call 114;(with_reducible refine (HL.out _ (Lau:Later wq _)).mono ?_);rintro e wb ⟨rfl,rfl⟩
    try go_wp2_with fail
    refine hK.out _ _ (KF.out _ Lau) (λhHeld=>?_);clear hK K
    try simp only [ga,gs,gz,Act.put,sa,sz,ss]
    refine rd 6 λK hK=>?_
    simp only [ga,gs,gz]
    go_simp
    go_at_call 16;(with_reducible refine (HK.out _).mono ?_);rintro e wb2 ⟨rfl,rfl⟩
    try go_wp2_with fail
    refine hK.out _ _ (KF.out _ Lau) (λhHeld=>?_);clear hK K
    try simp only [ga,gs,gz,Act.put,sa,sz,ss]
    refine rd 7 λK hK=>?_
    simp only [ga,gs,gz]
    go_simp
    go_at_call 95;(with_reducible refine (HV.out _).mono ?_);rintro e wc ⟨rfl,qd,rfl⟩;have hu:=Later.cell (Lau:Later wq (wq.drew.drewN qd)) hu;have fu:=(Later.blk (Lau:Later wq (wq.drew.drewN qd)) HN.out).frozen k
    try go_wp2_with fail
    refine hK.out _ _ (KF.out _ Lau) (λhHeld=>?_);clear hK K
    try simp only [ga,gs,gz,Act.put,sa,sz,ss]
    refine tk 8 ?_;refine rd 9 λK hK=>?_
    simp only [ga,gs,gz]
    go_simp
    refine hK.out _ _ ?_ (λhHeld=>?_)
    ·(try dsimp only);((repeat (refine qa0 ?_ (by first|omega|(simp;done)|(simp;omega))))<;>(refine Later.cell (Lau:Later wq _) ?_)<;>assumption)
    clear hK K
    try simp only [ga,gs,gz,Act.put,sa,sz,ss]
    clear KF;refine Zn1 krZ ?_ _;refine Zd1 ?_
    have hZ:Blk ((wq.drewN (1+qd)).setCell ⟨h,k,none⟩ (nQ iQ y)) h 42 ((R.take (k+1)++(Ly.zeros N).drop (k+1)).map (Za1 iQ)).toArray:=by
     have:=(((Later.refl wq).drewN (1+qd)).blk HN.out).set_ k (nQ iQ y);rw [←hD.out,List.map_set];simpa using this
    have hq:=(((Later.refl wq).drewN (1+qd)).blk hP.out).far (p:=⟨h,k,none⟩) soZ (nQ iQ y);have hn:=(((Later.refl wq).drewN (1+qd)).blk Hb.out).far (p:=⟨h,k,none⟩) soZ (nQ iQ y);have ha:=(((Later.refl wq).drewN (1+qd)).blk hQ.out).far (p:=⟨h,k,none⟩) soZ (nQ iQ y);have hl:Blk ((wq.drewN (1+qd)).setCell ⟨h,k,none⟩ (nQ iQ y)) g 3 (os.map (Za1 iQ)).toArray:=(((Later.refl wq).drewN (1+qd)).blk Hi.out).far (p:=⟨h,k,none⟩) hU (nQ iQ y);have hj:=(Hc.out.trans ((Later.refl wq).drewN (1+qd))).set (p:=⟨h,k,none⟩) soZ (nQ iQ y);obtain ⟨HR,hw,hF,he,hA,hJ⟩:=zd6 hZ hq hn ha hl hj;clear hZ hq hn ha hl hj;go_wp2_with fail;go_roundw
    case rel=>exact ⟨k+1,by omega,by go_num,HR.out,hw.out,hF.out,he.out,hA.out,hJ.out⟩
    case measure=>simp [intOf];omega
  ·obtain rfl:k=N:=by omega
   rw [Ly.mid_end R (Ly.zeros k) k hb.out.symm (hb.out.trans HF.out.symm)] at hm;have o0:wr.cell? ⟨p,0,none⟩=some (sQ (some ⟨g,0,none⟩) os.length os.length):=by rw [hy.cell];rfl
   have o1:wr.cell? ⟨p,1,none⟩=some (sQ (some ⟨h,0,none⟩) k k):=by rw [hy.cell];rfl
   have c0:=hr.cell 0;have c1:=hr.cell 1;have f0:=hr.frozen 0;have f1:=hr.frozen 1;simp at c0 c1;have Hy:=(hr.set_ 0 (sQ (some ⟨g,0,none⟩) os.length os.length)).set_ 1 (sQ (some ⟨h,0,none⟩) k k);have d0:=Hy.cell 0;have d1:=Hy.cell 1;simp at d0 d1;have gy:g≠w.heap.size+1:=by omega
   have HS:h≠w.heap.size+1:=by omega
   obtain ⟨Hm,HH,HD,hM,HB,Hu,g9⟩:=zd7 hm hy hr hv Hw Hl Hy;clear hm hy hr hv Hw Hl Hy;go_wp2_with fail;refine Zk1 (v:=.tuple #[.agg #[sQ (some ⟨g,0,none⟩) os.length os.length,sQ (some ⟨h,0,none⟩) k k],nQ iQ 0]) (by simp [results,Tryz.results73,go_sem,d0,d1]) rfl ?_;refine GoP.ok HE.out (TenN.o ⟨g,h,by simp [hb.out],by omega,by omega,(HB.out.far (p:=⟨w.heap.size+1,0,none⟩) gy _).far (p:=⟨w.heap.size+1,1,none⟩) gy _,(Hm.out.far (p:=⟨w.heap.size+1,0,none⟩) HS _).far (p:=⟨w.heap.size+1,1,none⟩) HS _⟩ (by show os.length<=_;omega) (by have:=hb.out;show R.length<=_;omega) HO.out) ((Hu.out.set (p:=⟨w.heap.size+1,0,none⟩) sZ _).set (p:=⟨w.heap.size+1,1,none⟩) sZ _)
theorem of_gop {t:Ten} {w w':Zp1} {e:Ending} (h:OfP t w e w') (hn:Ly.In t):GoP (Ly.of_ t.s t.c) w e w':=by
 obtain ⟨h1,h2⟩:=h;refine ⟨?_,h2⟩;rcases h1 with ⟨h3,rfl⟩|⟨h3,v,rfl,h4⟩
 ·left
  have:Ly.of_ t.s t.c=(Ly.none_,20):=by unfold Ly.of_;rw [show (⟨t.s,t.c⟩:Ten)=t from rfl,inZ (by rw [h3];simp)]
  rw [this];exact ⟨by decide,rfl⟩
 ·right
  have:Ly.of_ t.s t.c=(t,0):=by unfold Ly.of_;rw [show (⟨t.s,t.c⟩:Ten)=t from rfl,ipZ h3]
  rw [this];obtain ⟨q1,q2⟩:=Ly.right_ok h3;exact ⟨rfl,v,rfl,h4.o oZ oZ hn⟩
theorem qe6 (S C A:Option Addr) (c d ac:Nat) (x:Ten) (s:List Int) (w:Zp1) (hx:TenIn w S C c d x) (hA:Ints iQ w A s) (hs:s.length<=1048576):
  Calls Tryz.prog 76 #[.agg #[sQ S x.s.length c,sQ C x.c.length d],sQ A s.length ac] w (GoP (Ly.turn x s) w):=by
 obtain ⟨hB,hz,hv⟩:=qbd w 30 30 #[sQ S x.s.length c,sQ C x.c.length d] #[sQ none 0 0,sQ none 0 0];have l1:=hx.l1;have l2:=hx.l2;obtain ⟨hF,Hz,ht,Hx,HA⟩:=zd5 hB hz hv hx hA;clear hB hz hv hx hA;go_enter Tryz.func76,Tryz.ntmps76;go_wp2_with fail;generalize (w.alloc (.cells #[sQ S x.s.length c,sQ C x.c.length d] 30)).alloc (.cells #[sQ none 0 0,sQ none 0 0] 30)=w1 at *;refine (qa5 S C c d x w1 oZ oZ (Hx.out.later ht.out).r.1).mono ?_;rintro e w2 ⟨rfl,hE⟩;have ho:Later w1 w2:=hE;have he:=ht.out.trans ho;have hd:=ho.blk Hz.out;have hc:=ho.blk hF.out;clear hE Hz ht hF ho;cases hr:Tn.right x
 ·have HE:=zI (show Ly.turn x s=(Ly.none_,20) by unfold Ly.turn;rw [hr];rfl)
  clear hr;have c0:=hd.cell 0;have c1:=hd.cell 1;have f0:=hd.frozen 0;have f1:=hd.frozen 1;simp at c0 c1;obtain ⟨hj,hJ,hq⟩:=zd3 he hd hc;clear he hd hc;go_wp2_with fail;refine Zk1 (v:=.tuple #[.agg #[sQ none 0 0,sQ none 0 0],nQ iQ 20]) (by simp [results,Tryz.results76,go_sem,c0,c1]) rfl ?_;exact GoP.fail HE.out dZ ((hj.out.set (p:=⟨w.heap.size+1,0,none⟩) sZ _).set (p:=⟨w.heap.size+1,1,none⟩) sZ _)
 ·have HE:=zI (show Ly.turn x s=Ly.of_ s x.c by unfold Ly.turn;rw [hr];rfl)
  clear hr;have x1:=hc.cell 1;simp at x1;have hn:=Hx.out.num;have hI:TenR w2 A C ⟨s,x.c⟩:=⟨HA.out.below he (lrZ _),(Hx.out.later he).r.2⟩
  have hb:=(qcu A C ac d ⟨s,x.c⟩ w2 hs l2 hI).mono (λe w' h=>of_gop h hn);rw [←show Ly.turn x s=Ly.of_ s x.c from HE.out] at hb;obtain ⟨hJ,hq,hj,hh⟩:=zd4 hd hc he hb;clear hd hc he hb hI hn;go_wp2_with fail;clear x1;refine (hh.out).mono ?_;rintro e wf hk;have hg:Later w2 wf:=hk.2;have ha:=hg.blk hJ.out;have hm:=hj.out.trans hg;have f0:=ha.frozen 0;have f1:=ha.frozen 1;have hl:w.heap.size<=w.heap.size+1:=by first|exact lrZ _|simp|omega
  rcases hk.1 with ⟨hG,rfl⟩|⟨hw,v,rfl,hi⟩
  ·have c0:=ha.cell 0
   have c1:=ha.cell 1;simp at c0 c1;have hf:=hG;generalize hge:(Ly.turn x s).2=ge at *;obtain ⟨hK,hM⟩:=zd2 hge hf;clear hf;clear hk hG hg hge;obtain ⟨hD,hu⟩:=zd2 ha hm;clear ha hm;go_wp2_with fail;refine Zk1 (v:=.tuple #[.agg #[sQ none 0 0,sQ none 0 0],nQ iQ ge]) (by simp [results,Tryz.results76,go_sem,c0,c1]) rfl ?_;exact GoP.fail2 hK.out hM.out ((hu.out.set (p:=⟨w.heap.size+1,0,none⟩) hl _).set (p:=⟨w.heap.size+1,1,none⟩) hl _)
  ·have hP:=hi.base (hj.out.size)
   clear hk hi;obtain ⟨S2,c2,C2,d2,rfl,hC,hH,hy⟩:=hP;have hp:=(ha.set_ 0 (sQ S2 (Ly.turn x s).1.s.length c2)).set_ 1 (sQ C2 (Ly.turn x s).1.c.length d2);have d0:=hp.cell 0;have d1:=hp.cell 1;simp at d0 d1;have c0:=ha.cell 0;have c1:=ha.cell 1;simp at c0 c1;obtain ⟨hL,hR,hD,hu,hS,hQ,hO,hN⟩:=zd8 hw hp ha hm hg hC hH hy;clear hp ha hm hg hC hH hy hw;go_wp2_with fail;refine Zk1 (v:=.tuple #[.agg #[sQ S2 (Ly.turn x s).1.s.length c2,sQ C2 (Ly.turn x s).1.c.length d2],nQ iQ 0]) (by simp [results,Tryz.results76,go_sem,d0,d1]) rfl ?_;exact ⟨.inr ⟨hL.out,_,rfl,TenO.box ⟨S2,c2,C2,d2,rfl,hQ.out,hO.out,hN.out⟩ hD.out⟩,(hu.out.set (p:=⟨w.heap.size+1,0,none⟩) hl _).set (p:=⟨w.heap.size+1,1,none⟩) hl _⟩
theorem qc1 {r:Ten × Int} {w w1 wf:Zp1} {v u u2:Value} {p:Nat} {T:TypeId} (hne:r.2≠0->v=Value.agg #[sQ none 0 0,sQ none 0 0]) (hok:r.2=0->TenO w1.heap.size wf v r.1) (hL:Later w wf) (hz:Blk wf p T #[sQ none 0 0,sQ none 0 0]) (hp:w.heap.size<=p) (hs:w.heap.size<=w1.heap.size):
  GoP r w (.returned (.tuple #[v,nQ iQ r.2])) ((wf.setCell ⟨p,0,none⟩ u).setCell ⟨p,1,none⟩ u2):=by
 refine ⟨?_,(hL.set (p:=⟨p,0,none⟩) hp _).set (p:=⟨p,1,none⟩) hp _⟩
 by_cases h:r.2=0
 ·exact .inr ⟨h,v,by rw [h],((hok h).base hs).box hz⟩
 ·exact .inl ⟨h,by rw [hne h]⟩
theorem op_go (o:OpD) (hkn:o.kind≠10/\o.kind≠13/\o.kind≠14) (S P X:Option Addr) (c cp cx:Nat) (p x:List Ten) (w:Zp1) (ho:o.s.length<=1048576) (hI:Ints iQ w S o.s) (hk0:Fx.In o.k) (hP:Tns w P p) (hX:Tns w X x) (lX:x.length<=1048576) (kX:x.length<=cx) (mX:cx<=9223372036854775807):
  Calls Tryz.prog 39 #[.agg #[nQ iQ o.kind,nQ iQ o.k,nQ iQ o.width,nQ iQ o.step,nQ iQ o.side,nQ iQ o.frm,nQ iQ o.to,sQ S o.s.length c],sQ P p.length cp,sQ X x.length cx] w (GoP (Ly.go o p x) w):=by
 have hM:Later w ((w.alloc (.cells #[nQ iQ o.kind,nQ iQ o.k,nQ iQ o.width,nQ iQ o.step,nQ iQ o.side,nQ iQ o.frm,nQ iQ o.to,sQ S o.s.length c] 56)).alloc (.cells #[sQ none 0 0,sQ none 0 0] 30)):=((Later.refl w).alloc _).alloc _;have hB:=(Blk.new w 56 #[nQ iQ o.kind,nQ iQ o.k,nQ iQ o.width,nQ iQ o.step,nQ iQ o.side,nQ iQ o.frm,nQ iQ o.to,sQ S o.s.length c]).alloc (.cells #[sQ none 0 0,sQ none 0 0] 30);have hF:=Blk.new (w.alloc (.cells #[nQ iQ o.kind,nQ iQ o.k,nQ iQ o.width,nQ iQ o.step,nQ iQ o.side,nQ iQ o.frm,nQ iQ o.to,sQ S o.s.length c] 56)) 30 #[sQ none 0 0,sQ none 0 0];rw [Zh1] at hF;obtain ⟨HI,HP,HX,hG,hC,hN⟩:=zd6 hI hP hX hM hB hF;clear hI hP hX hM hB hF;go_enter Tryz.func39,Tryz.ntmps39;go_wp2_with fail;generalize (w.alloc (.cells #[nQ iQ o.kind,nQ iQ o.k,nQ iQ o.width,nQ iQ o.step,nQ iQ o.side,nQ iQ o.frm,nQ iQ o.to,sQ S o.s.length c] 56)).alloc (.cells #[sQ none 0 0,sQ none 0 0] 30)=w1 at *;refine (qaL o S c p.length x.length w1 oZ (HI.out.below hG.out (lrZ _))).mono ?_;rintro e w2 ⟨rfl,hL⟩;have hE:Later w1 w2:=hL;have hH:=hG.out.trans hE;have hz:=hE.blk hN.out;have hD:=hE.blk hC.out;clear hL hE hG hN hC
 by_cases hc:Od.counts o p.length x.length=0
 case neg=>
  have HE:=zI (Ly.go_err hc);have Hc:=zI hc;have d2:(Od.counts o p.length x.length != 0)=true:=by simpa using hc
  clear hc;generalize Od.counts o p.length x.length=ge at *;have c0':=hz.cell 0;have c1':=hz.cell 1;have f0:=hz.frozen 0;have f1:=hz.frozen 1;simp at c0' c1';obtain ⟨HH,Hz,hn⟩:=zd3 hH hz hD;clear hH hz hD;go_wp2_with fail;refine Zk1 (v:=.tuple #[.agg #[sQ none 0 0,sQ none 0 0],nQ iQ ge]) (by simp [results,Tryz.results39,go_sem,c0',c1']) rfl ?_;exact GoP.fail HE.out Hc.out ((HH.out.set (p:=⟨w.heap.size+1,0,none⟩) sZ _).set (p:=⟨w.heap.size+1,1,none⟩) sZ _)
 have hO:=Od.right_kind (Ly.counts_ok hc).1;have hw:Ly.go o p x=Ly.lay o p x:=Ly.go_lay hc;rw [hc];obtain ⟨HH,Hz,hn⟩:=zd3 hH hz hD;clear hH hz hD;have hv:o.kind<=7∨o.kind=8∨o.kind=9∨o.kind=10∨o.kind=11∨o.kind=12∨o.kind=13∨o.kind=14∨o.kind=15:=by omega
 rcases hv with hk|hk|hk|hk|hk|hk|hk|hk|hk
 ·have hh:Ly.lay o p x=Ly.point o.kind o.k x:=Ly.lay7 hk
  have hj:(Ly.point o.kind o.k x).2≠0->(Ly.point o.kind o.k x).1=Ly.none_:=Ly.point_none;have hb:=(Ly.counts_ok hc)
  unfold Od.least Od.most Od.params at hb;clear hb hc;have ha:=λ(W:Zp1) (h:Later w2 W)=>qan (point_go o.kind o.k X cx x W lX (HX.out.later (HH.out.trans h)) hk0) hj
  obtain ⟨R,hR⟩:∃R,Ly.point o.kind o.k x=R:=⟨_,rfl⟩
  rw [hR] at ha;rw [hR] at hh;have HE:=zI (hw.trans hh);clear hj;have q1:w2.cell? ⟨w.heap.size,0,none⟩=some (nQ iQ o.kind):=by rw [hn.out.cell];rfl
  have q2:w2.cell? ⟨w.heap.size,1,none⟩=some (nQ iQ o.k):=by rw [hn.out.cell];rfl
  have x0:w2.cell? ⟨w.heap.size,0,none⟩=some (nQ iQ o.kind):=by rw [hn.out.cell];rfl
  have k8:(o.kind==8)=false:=by rw [beq_eq_false_iff_ne];omega
  have k9:(o.kind==9)=false:=by rw [beq_eq_false_iff_ne];omega
  have k10:(o.kind==10)=false:=by rw [beq_eq_false_iff_ne];omega
  have k11:(o.kind==11)=false:=by rw [beq_eq_false_iff_ne];omega
  have k12:(o.kind==12)=false:=by rw [beq_eq_false_iff_ne];omega
  have k13:(o.kind==13)=false:=by rw [beq_eq_false_iff_ne];omega
  have k14:(o.kind==14)=false:=by rw [beq_eq_false_iff_ne];omega
  have k15:(o.kind==15)=false:=by rw [beq_eq_false_iff_ne];omega
  obtain ⟨he,HR⟩:=zd2 ha hR;clear ha hR hh;go_wp2_with fail;refine (he.out _ (Later.refl _)).mono ?_;rintro e wf ⟨S3,c3,C3,d3,rfl,hi,hl,hs⟩;have hg:Later w2 wf:=hs;have hd:=hg.blk Hz.out;have c0':=hd.cell 0;have c1':=hd.cell 1;have f0':=hd.frozen 0;have f1':=hd.frozen 1;simp at c0' c1';obtain ⟨ht,hr,hm,hq⟩:=zd4 hi hl hd hg;clear hi hl hd hg;have hf:=(hm.out.set_ 0 (sQ S3 R.1.s.length c3)).set_ 1 (sQ C3 R.1.c.length d3);have e0:=hf.cell 0;have e1:=hf.cell 1;simp at e0 e1;have hy:=zI hf;clear hf;go_wp2_with fail;refine Zk1 (v:=.tuple #[.agg #[sQ S3 R.1.s.length c3,sQ C3 R.1.c.length d3],nQ iQ R.2]) (by simp [results,Tryz.results39,go_sem,e0,e1]) rfl ?_;rw [HE.out];exact qc1 ht.out hr.out (HH.out.trans hq.out) hm.out sZ (by have:=HH.out.size;simp;omega)
 ·have hh:Ly.lay o p x=Ly.dense (Ly.got p 0) (Ly.got p 1) (Ly.got x 0):=Ly.lay8 hk
  have hj:(Ly.dense (Ly.got p 0) (Ly.got p 1) (Ly.got x 0)).2≠0->(Ly.dense (Ly.got p 0) (Ly.got p 1) (Ly.got x 0)).1=Ly.none_:=Ly.dense_none;have hb:=(Ly.counts_ok hc)
  unfold Od.least Od.most Od.params at hb;have hx:p.length=2:=by have:=hb.1;have h3:=hb.2.2.2;rw [ipZ this] at h3;simp [hk] at h3;omega
  have hu:x.length=1:=by have:=hb.1;have h1:=hb.2.1;have h2:=hb.2.2.1;rw [ipZ this] at h1 h2;simp [hk] at h1 h2;omega
  clear hb hc;obtain ⟨bp,po,S0,c0,C0,d0,rfl,lbp,p00,p01,hA⟩:=HP.out.at_ (j:=0) oZ;obtain ⟨bp2,po2,S1,c1,C1,d1,ep,-,p10,p11,hJ⟩:=HP.out.at_ (j:=1) oZ;injection ep with ep;injection ep with ep1 ep2;subst ep1 ep2
  obtain ⟨bx,xo,S2,c2,C2,d2,rfl,lbx,x00,x01,hp⟩:=HX.out.at_ (j:=0) oZ;have ha:=λ(W:Zp1) (h:Later w2 W)=>qan (dense_go S0 C0 S1 C1 S2 C2 c0 d0 c1 d1 c2 d2 (Ly.got p 0) (Ly.got p 1) (Ly.got x 0) W (hA.later (HH.out.trans h)) (hJ.later (HH.out.trans h)) (hp.later (HH.out.trans h))) hj
  obtain ⟨R,hR⟩:∃R,Ly.dense (Ly.got p 0) (Ly.got p 1) (Ly.got x 0)=R:=⟨_,rfl⟩
  rw [hR] at ha;rw [hR] at hh;have HE:=zI (hw.trans hh);clear hj;have q1:w2.cell? ⟨bp,po,none⟩=some (sQ S0 (Ly.got p 0).s.length c0):=HH.out.cell (by simpa using p00);have q2:w2.cell? ⟨bp,po+1,none⟩=some (sQ C0 (Ly.got p 0).c.length d0):=HH.out.cell (by simpa using p01);have q3:w2.cell? ⟨bp,po+2,none⟩=some (sQ S1 (Ly.got p 1).s.length c1):=HH.out.cell (by simpa using p10);have q4:w2.cell? ⟨bp,po+2+1,none⟩=some (sQ C1 (Ly.got p 1).c.length d1):=HH.out.cell (by simpa using p11);have q5:w2.cell? ⟨bx,xo,none⟩=some (sQ S2 (Ly.got x 0).s.length c2):=HH.out.cell (by simpa using x00);have q6:w2.cell? ⟨bx,xo+1,none⟩=some (sQ C2 (Ly.got x 0).c.length d2):=HH.out.cell (by simpa using x01);have x0:w2.cell? ⟨w.heap.size,0,none⟩=some (nQ iQ 8):=by rw [hn.out.cell,←hk];rfl
  rw [hx];rw [hu];obtain ⟨he,HR⟩:=zd2 ha hR;clear ha hR hh hA hJ hp;have lp1:bp<w2.heap.size:=ltZ lbp HH.out.size;have lx1:bx<w2.heap.size:=ltZ lbx HH.out.size;go_upto_region 6 with fail;clear x0 hk;have KF:=zI (show ∀Xw,Later w2 Xw->Xw.cell? ⟨bp,po,none⟩=some (sQ S0 (Ly.got p 0).s.length c0)/\Xw.cell? ⟨bp,po+1,none⟩=some (sQ C0 (Ly.got p 0).c.length d0)/\Xw.cell? ⟨bp,po+2,none⟩=some (sQ S1 (Ly.got p 1).s.length c1)/\Xw.cell? ⟨bp,po+2+1,none⟩=some (sQ C1 (Ly.got p 1).c.length d1)/\Xw.cell? ⟨bx,xo,none⟩=some (sQ S2 (Ly.got x 0).s.length c2)/\Xw.cell? ⟨bx,xo+1,none⟩=some (sQ C2 (Ly.got x 0).c.length d2) from λXw h=>⟨h.cell q1,h.cell q2,h.cell q3,h.cell q4,h.cell q5,h.cell q6⟩);refine Zm1 ?_;refine Zl1 (S:=λXw=>Xw.cell? ⟨bp,po,none⟩=some (sQ S0 (Ly.got p 0).s.length c0)/\Xw.cell? ⟨bp,po+1,none⟩=some (sQ C0 (Ly.got p 0).c.length d0)/\Xw.cell? ⟨bp,po+2,none⟩=some (sQ S1 (Ly.got p 1).s.length c1)/\Xw.cell? ⟨bp,po+2+1,none⟩=some (sQ C1 (Ly.got p 1).c.length d1)/\Xw.cell? ⟨bx,xo,none⟩=some (sQ S2 (Ly.got x 0).s.length c2)/\Xw.cell? ⟨bx,xo+1,none⟩=some (sQ C2 (Ly.got x 0).c.length d2)) krZ (KF.out _ Lau) (λhHeld=>?_);refine tk 0 ?_;refine tk 1 ?_;refine tk 2 ?_;refine tk 3 ?_;refine tk 4 ?_;refine tk 5 ?_;refine tk 6 ?_;refine tk 7 ?_;refine tk 8 ?_;refine rd 9 λK hK=>?_
  simp only [ga,gs,gz]
  go_simp
  go_at_call 70
  (with_reducible refine (he.out _ (Lau:Later w2 _)).mono ?_)
  rintro e wf ⟨S3,c3,C3,d3,rfl,hi,hl,hs⟩;have hg:Later w2 wf:=Later.trans (Lau:Later w2 (World.drew w2)) hs;have hd:=hg.blk Hz.out;have c0':=hd.cell 0;have c1':=hd.cell 1;have f0':=hd.frozen 0;have f1':=hd.frozen 1;simp at c0' c1';obtain ⟨ht,hr,hm,hq⟩:=zd4 hi hl hd hg;clear hi hl hd hg
  try go_wp2_with fail
  refine hK.out _ _ (KF.out _ Lau) (λhHeld=>?_);clear hK K
  try simp only [ga,gs,gz,Act.put,sa,sz,ss]
  refine tk 10 ?_;refine tk 11 ?_;refine rd 12 λK hK=>?_
  simp only [ga,gs,gz]
  go_simp
  refine hK.out _ _ ?_ (λhHeld=>?_)
  ·(try dsimp only);(refine ⟨?_,?_,?_,?_,?_,?_⟩<;>(repeat (refine qa0 ?_ (by first|omega|(simp;done)|(simp;omega))))<;>(refine Later.cell (Lau:Later w2 _) ?_)<;>assumption)
  clear hK K
  try simp only [ga,gs,gz,Act.put,sa,sz,ss]
  refine tk 13 ?_;clear KF;refine Zn1 krZ ?_ _;refine Zd1 ?_;have hf:=(hm.out.set_ 0 (sQ S3 R.1.s.length c3)).set_ 1 (sQ C3 R.1.c.length d3);have e0:=hf.cell 0;have e1:=hf.cell 1;simp at e0 e1;have hy:=zI hf;clear hf;go_wp2_with fail;refine Zk1 (v:=.tuple #[.agg #[sQ S3 R.1.s.length c3,sQ C3 R.1.c.length d3],nQ iQ R.2]) (by simp [results,Tryz.results39,go_sem,e0,e1]) rfl ?_;rw [HE.out];exact qc1 ht.out hr.out (HH.out.trans hq.out) hm.out sZ (by have:=HH.out.size;simp;omega)
 ·have hh:Ly.lay o p x=Ly.add (Ly.got x 0) (Ly.got p 0):=Ly.lay9 hk
  have hj:(Ly.add (Ly.got x 0) (Ly.got p 0)).2≠0->(Ly.add (Ly.got x 0) (Ly.got p 0)).1=Ly.none_:=Ly.add_none;have hb:=(Ly.counts_ok hc)
  unfold Od.least Od.most Od.params at hb;have hx:p.length=1:=by have:=hb.1;have h3:=hb.2.2.2;rw [ipZ this] at h3;simp [hk] at h3;omega
  have hu:x.length=1:=by have:=hb.1;have h1:=hb.2.1;have h2:=hb.2.2.1;rw [ipZ this] at h1 h2;simp [hk] at h1 h2;omega
  clear hb hc;obtain ⟨bp,po,S0,c0,C0,d0,rfl,lbp,p00,p01,hA⟩:=HP.out.at_ (j:=0) oZ;obtain ⟨bx,xo,S2,c2,C2,d2,rfl,lbx,x00,x01,hp⟩:=HX.out.at_ (j:=0) oZ;have ha:=λ(W:Zp1) (h:Later w2 W)=>qan (qd2 S0 C0 S2 C2 c0 d0 c2 d2 (Ly.got p 0) (Ly.got x 0) W (hA.later (HH.out.trans h)) (hp.later (HH.out.trans h))) hj
  obtain ⟨R,hR⟩:∃R,Ly.add (Ly.got x 0) (Ly.got p 0)=R:=⟨_,rfl⟩
  rw [hR] at ha;rw [hR] at hh;have HE:=zI (hw.trans hh);clear hj;have q1:w2.cell? ⟨bp,po,none⟩=some (sQ S0 (Ly.got p 0).s.length c0):=HH.out.cell (by simpa using p00);have q2:w2.cell? ⟨bp,po+1,none⟩=some (sQ C0 (Ly.got p 0).c.length d0):=HH.out.cell (by simpa using p01);have q3:w2.cell? ⟨bx,xo,none⟩=some (sQ S2 (Ly.got x 0).s.length c2):=HH.out.cell (by simpa using x00);have q4:w2.cell? ⟨bx,xo+1,none⟩=some (sQ C2 (Ly.got x 0).c.length d2):=HH.out.cell (by simpa using x01);have x0:w2.cell? ⟨w.heap.size,0,none⟩=some (nQ iQ 9):=by rw [hn.out.cell,←hk];rfl
  rw [hx];rw [hu];obtain ⟨he,HR⟩:=zd2 ha hR;clear ha hR hh hA hp;have lp1:bp<w2.heap.size:=ltZ lbp HH.out.size;have lx1:bx<w2.heap.size:=ltZ lbx HH.out.size;go_upto_region 8 with fail;clear x0 hk;have KF:=zI (show ∀Xw,Later w2 Xw->Xw.cell? ⟨bp,po,none⟩=some (sQ S0 (Ly.got p 0).s.length c0)/\Xw.cell? ⟨bp,po+1,none⟩=some (sQ C0 (Ly.got p 0).c.length d0)/\Xw.cell? ⟨bx,xo,none⟩=some (sQ S2 (Ly.got x 0).s.length c2)/\Xw.cell? ⟨bx,xo+1,none⟩=some (sQ C2 (Ly.got x 0).c.length d2) from λXw h=>⟨h.cell q1,h.cell q2,h.cell q3,h.cell q4⟩);refine Zm1 ?_;refine Zl1 (S:=λXw=>Xw.cell? ⟨bp,po,none⟩=some (sQ S0 (Ly.got p 0).s.length c0)/\Xw.cell? ⟨bp,po+1,none⟩=some (sQ C0 (Ly.got p 0).c.length d0)/\Xw.cell? ⟨bx,xo,none⟩=some (sQ S2 (Ly.got x 0).s.length c2)/\Xw.cell? ⟨bx,xo+1,none⟩=some (sQ C2 (Ly.got x 0).c.length d2)) krZ (KF.out _ Lau) (λhHeld=>?_);refine tk 0 ?_;refine tk 1 ?_;refine tk 2 ?_;refine tk 3 ?_;refine tk 4 ?_;refine tk 5 ?_;refine rd 6 λK hK=>?_
  simp only [ga,gs,gz]
  go_simp
  go_at_call 71
  (with_reducible refine (he.out _ (Lau:Later w2 _)).mono ?_)
  rintro e wf ⟨S3,c3,C3,d3,rfl,hi,hl,hs⟩;have hg:Later w2 wf:=Later.trans (Lau:Later w2 (World.drew w2)) hs;have hd:=hg.blk Hz.out;have c0':=hd.cell 0;have c1':=hd.cell 1;have f0':=hd.frozen 0;have f1':=hd.frozen 1;simp at c0' c1';obtain ⟨ht,hr,hm,hq⟩:=zd4 hi hl hd hg;clear hi hl hd hg
  try go_wp2_with fail
  refine hK.out _ _ (KF.out _ Lau) (λhHeld=>?_);clear hK K
  try simp only [ga,gs,gz,Act.put,sa,sz,ss]
  refine tk 7 ?_;refine tk 8 ?_;refine rd 9 λK hK=>?_
  simp only [ga,gs,gz]
  go_simp
  refine hK.out _ _ ?_ (λhHeld=>?_)
  ·(try dsimp only);(refine ⟨?_,?_,?_,?_⟩<;>(repeat (refine qa0 ?_ (by first|omega|(simp;done)|(simp;omega))))<;>(refine Later.cell (Lau:Later w2 _) ?_)<;>assumption)
  clear hK K
  try simp only [ga,gs,gz,Act.put,sa,sz,ss]
  refine tk 10 ?_;clear KF;refine Zn1 krZ ?_ _;refine Zd1 ?_;have hf:=(hm.out.set_ 0 (sQ S3 R.1.s.length c3)).set_ 1 (sQ C3 R.1.c.length d3);have e0:=hf.cell 0;have e1:=hf.cell 1;simp at e0 e1;have hy:=zI hf;clear hf;go_wp2_with fail;refine Zk1 (v:=.tuple #[.agg #[sQ S3 R.1.s.length c3,sQ C3 R.1.c.length d3],nQ iQ R.2]) (by simp [results,Tryz.results39,go_sem,e0,e1]) rfl ?_;rw [HE.out];exact qc1 ht.out hr.out (HH.out.trans hq.out) hm.out sZ (by have:=HH.out.size;simp;omega)
 ·exact absurd hk hkn.1
 ·have hh:Ly.lay o p x=Ly.pool true (Ly.got x 0) o.width o.step:=Ly.lay11 hk
  have hj:(Ly.pool true (Ly.got x 0) o.width o.step).2≠0->(Ly.pool true (Ly.got x 0) o.width o.step).1=Ly.none_:=Ly.pool_none;have hb:=(Ly.counts_ok hc)
  unfold Od.least Od.most Od.params at hb;have hx:p.length=0:=by have:=hb.1;have h3:=hb.2.2.2;rw [ipZ this] at h3;simp [hk] at h3;omega
  have hu:x.length=1:=by have:=hb.1;have h1:=hb.2.1;have h2:=hb.2.2.1;rw [ipZ this] at h1 h2;simp [hk] at h1 h2;omega
  clear hb hc;obtain ⟨bx,xo,S2,c2,C2,d2,rfl,lbx,x00,x01,hp⟩:=HX.out.at_ (j:=0) oZ;have ha:=λ(W:Zp1) (h:Later w2 W)=>qan (qgu true 1 S2 C2 c2 d2 (Ly.got x 0) o.width o.step W (.inl ⟨rfl,rfl⟩) (hp.later (HH.out.trans h))) hj
  obtain ⟨R,hR⟩:∃R,Ly.pool true (Ly.got x 0) o.width o.step=R:=⟨_,rfl⟩
  rw [hR] at ha;rw [hR] at hh;have HE:=zI (hw.trans hh);clear hj;have q1:w2.cell? ⟨bx,xo,none⟩=some (sQ S2 (Ly.got x 0).s.length c2):=HH.out.cell (by simpa using x00);have q2:w2.cell? ⟨bx,xo+1,none⟩=some (sQ C2 (Ly.got x 0).c.length d2):=HH.out.cell (by simpa using x01);have q3:w2.cell? ⟨w.heap.size,2,none⟩=some (nQ iQ o.width):=by rw [hn.out.cell];rfl
  have q4:w2.cell? ⟨w.heap.size,3,none⟩=some (nQ iQ o.step):=by rw [hn.out.cell];rfl
  have x0:w2.cell? ⟨w.heap.size,0,none⟩=some (nQ iQ 11):=by rw [hn.out.cell,←hk];rfl
  rw [hu];obtain ⟨he,HR⟩:=zd2 ha hR;clear ha hR hh hp;have lx1:bx<w2.heap.size:=ltZ lbx HH.out.size;go_upto_region 12 with fail;clear x0 hk;have KF:=zI (show ∀Xw,Later w2 Xw->Xw.cell? ⟨bx,xo,none⟩=some (sQ S2 (Ly.got x 0).s.length c2)/\Xw.cell? ⟨bx,xo+1,none⟩=some (sQ C2 (Ly.got x 0).c.length d2)/\Xw.cell? ⟨w.heap.size,2,none⟩=some (nQ iQ o.width)/\Xw.cell? ⟨w.heap.size,3,none⟩=some (nQ iQ o.step) from λXw h=>⟨h.cell q1,h.cell q2,h.cell q3,h.cell q4⟩);refine Zm1 ?_;refine Zl1 (S:=λXw=>Xw.cell? ⟨bx,xo,none⟩=some (sQ S2 (Ly.got x 0).s.length c2)/\Xw.cell? ⟨bx,xo+1,none⟩=some (sQ C2 (Ly.got x 0).c.length d2)/\Xw.cell? ⟨w.heap.size,2,none⟩=some (nQ iQ o.width)/\Xw.cell? ⟨w.heap.size,3,none⟩=some (nQ iQ o.step)) krZ (KF.out _ Lau) (λhHeld=>?_);refine tk 0 ?_;refine tk 1 ?_;refine tk 2 ?_;refine tk 3 ?_;refine tk 4 ?_;refine tk 5 ?_;refine tk 6 ?_;refine rd 7 λK hK=>?_
  simp only [ga,gs,gz]
  go_simp
  go_at_call 73
  (with_reducible refine (he.out _ (Lau:Later w2 _)).mono ?_)
  rintro e wf ⟨S3,c3,C3,d3,rfl,hi,hl,hs⟩;have hg:Later w2 wf:=Later.trans (Lau:Later w2 (World.drew w2)) hs;have hd:=hg.blk Hz.out;have c0':=hd.cell 0;have c1':=hd.cell 1;have f0':=hd.frozen 0;have f1':=hd.frozen 1;simp at c0' c1';obtain ⟨ht,hr,hm,hq⟩:=zd4 hi hl hd hg;clear hi hl hd hg
  try go_wp2_with fail
  refine hK.out _ _ (KF.out _ Lau) (λhHeld=>?_);clear hK K
  try simp only [ga,gs,gz,Act.put,sa,sz,ss]
  refine tk 8 ?_;refine tk 9 ?_;refine rd 10 λK hK=>?_
  simp only [ga,gs,gz]
  go_simp
  refine hK.out _ _ ?_ (λhHeld=>?_)
  ·(try dsimp only);(refine ⟨?_,?_,?_,?_⟩<;>(repeat (refine qa0 ?_ (by first|omega|(simp;done)|(simp;omega))))<;>(refine Later.cell (Lau:Later w2 _) ?_)<;>assumption)
  clear hK K
  try simp only [ga,gs,gz,Act.put,sa,sz,ss]
  refine tk 11 ?_;clear KF;refine Zn1 krZ ?_ _;refine Zd1 ?_;have hf:=(hm.out.set_ 0 (sQ S3 R.1.s.length c3)).set_ 1 (sQ C3 R.1.c.length d3);have e0:=hf.cell 0;have e1:=hf.cell 1;simp at e0 e1;have hy:=zI hf;clear hf;go_wp2_with fail;refine Zk1 (v:=.tuple #[.agg #[sQ S3 R.1.s.length c3,sQ C3 R.1.c.length d3],nQ iQ R.2]) (by simp [results,Tryz.results39,go_sem,e0,e1]) rfl ?_;rw [HE.out];exact qc1 ht.out hr.out (HH.out.trans hq.out) hm.out sZ (by have:=HH.out.size;simp;omega)
 ·have hh:Ly.lay o p x=Ly.pool false (Ly.got x 0) o.width o.step:=Ly.lay12 hk
  have hj:(Ly.pool false (Ly.got x 0) o.width o.step).2≠0->(Ly.pool false (Ly.got x 0) o.width o.step).1=Ly.none_:=Ly.pool_none;have hb:=(Ly.counts_ok hc)
  unfold Od.least Od.most Od.params at hb;have hx:p.length=0:=by have:=hb.1;have h3:=hb.2.2.2;rw [ipZ this] at h3;simp [hk] at h3;omega
  have hu:x.length=1:=by have:=hb.1;have h1:=hb.2.1;have h2:=hb.2.2.1;rw [ipZ this] at h1 h2;simp [hk] at h1 h2;omega
  clear hb hc;obtain ⟨bx,xo,S2,c2,C2,d2,rfl,lbx,x00,x01,hp⟩:=HX.out.at_ (j:=0) oZ;have ha:=λ(W:Zp1) (h:Later w2 W)=>qan (qgu false 2 S2 C2 c2 d2 (Ly.got x 0) o.width o.step W (.inr ⟨rfl,rfl⟩) (hp.later (HH.out.trans h))) hj
  obtain ⟨R,hR⟩:∃R,Ly.pool false (Ly.got x 0) o.width o.step=R:=⟨_,rfl⟩
  rw [hR] at ha;rw [hR] at hh;have HE:=zI (hw.trans hh);clear hj;have q1:w2.cell? ⟨bx,xo,none⟩=some (sQ S2 (Ly.got x 0).s.length c2):=HH.out.cell (by simpa using x00);have q2:w2.cell? ⟨bx,xo+1,none⟩=some (sQ C2 (Ly.got x 0).c.length d2):=HH.out.cell (by simpa using x01);have q3:w2.cell? ⟨w.heap.size,2,none⟩=some (nQ iQ o.width):=by rw [hn.out.cell];rfl
  have q4:w2.cell? ⟨w.heap.size,3,none⟩=some (nQ iQ o.step):=by rw [hn.out.cell];rfl
  have x0:w2.cell? ⟨w.heap.size,0,none⟩=some (nQ iQ 12):=by rw [hn.out.cell,←hk];rfl
  rw [hu];obtain ⟨he,HR⟩:=zd2 ha hR;clear ha hR hh hp;have lx1:bx<w2.heap.size:=ltZ lbx HH.out.size;go_upto_region 14 with fail;clear x0 hk;have KF:=zI (show ∀Xw,Later w2 Xw->Xw.cell? ⟨bx,xo,none⟩=some (sQ S2 (Ly.got x 0).s.length c2)/\Xw.cell? ⟨bx,xo+1,none⟩=some (sQ C2 (Ly.got x 0).c.length d2)/\Xw.cell? ⟨w.heap.size,2,none⟩=some (nQ iQ o.width)/\Xw.cell? ⟨w.heap.size,3,none⟩=some (nQ iQ o.step) from λXw h=>⟨h.cell q1,h.cell q2,h.cell q3,h.cell q4⟩);refine Zm1 ?_;refine Zl1 (S:=λXw=>Xw.cell? ⟨bx,xo,none⟩=some (sQ S2 (Ly.got x 0).s.length c2)/\Xw.cell? ⟨bx,xo+1,none⟩=some (sQ C2 (Ly.got x 0).c.length d2)/\Xw.cell? ⟨w.heap.size,2,none⟩=some (nQ iQ o.width)/\Xw.cell? ⟨w.heap.size,3,none⟩=some (nQ iQ o.step)) krZ (KF.out _ Lau) (λhHeld=>?_);refine tk 0 ?_;refine tk 1 ?_;refine tk 2 ?_;refine tk 3 ?_;refine tk 4 ?_;refine tk 5 ?_;refine tk 6 ?_;refine rd 7 λK hK=>?_
  simp only [ga,gs,gz]
  go_simp
  go_at_call 73
  (with_reducible refine (he.out _ (Lau:Later w2 _)).mono ?_)
  rintro e wf ⟨S3,c3,C3,d3,rfl,hi,hl,hs⟩;have hg:Later w2 wf:=Later.trans (Lau:Later w2 (World.drew w2)) hs;have hd:=hg.blk Hz.out;have c0':=hd.cell 0;have c1':=hd.cell 1;have f0':=hd.frozen 0;have f1':=hd.frozen 1;simp at c0' c1';obtain ⟨ht,hr,hm,hq⟩:=zd4 hi hl hd hg;clear hi hl hd hg
  try go_wp2_with fail
  refine hK.out _ _ (KF.out _ Lau) (λhHeld=>?_);clear hK K
  try simp only [ga,gs,gz,Act.put,sa,sz,ss]
  refine tk 8 ?_;refine tk 9 ?_;refine rd 10 λK hK=>?_
  simp only [ga,gs,gz]
  go_simp
  refine hK.out _ _ ?_ (λhHeld=>?_)
  ·(try dsimp only);(refine ⟨?_,?_,?_,?_⟩<;>(repeat (refine qa0 ?_ (by first|omega|(simp;done)|(simp;omega))))<;>(refine Later.cell (Lau:Later w2 _) ?_)<;>assumption)
  clear hK K
  try simp only [ga,gs,gz,Act.put,sa,sz,ss]
  refine tk 11 ?_;clear KF;refine Zn1 krZ ?_ _;refine Zd1 ?_;have hf:=(hm.out.set_ 0 (sQ S3 R.1.s.length c3)).set_ 1 (sQ C3 R.1.c.length d3);have e0:=hf.cell 0;have e1:=hf.cell 1;simp at e0 e1;have hy:=zI hf;clear hf;go_wp2_with fail;refine Zk1 (v:=.tuple #[.agg #[sQ S3 R.1.s.length c3,sQ C3 R.1.c.length d3],nQ iQ R.2]) (by simp [results,Tryz.results39,go_sem,e0,e1]) rfl ?_;rw [HE.out];exact qc1 ht.out hr.out (HH.out.trans hq.out) hm.out sZ (by have:=HH.out.size;simp;omega)
 ·exact absurd hk hkn.2.1
 ·exact absurd hk hkn.2.2
 ·have hh:Ly.lay o p x=Ly.turn (Ly.got x 0) o.s:=Ly.lay15 hk
  have hj:(Ly.turn (Ly.got x 0) o.s).2≠0->(Ly.turn (Ly.got x 0) o.s).1=Ly.none_:=Ly.turn_none;have hb:=(Ly.counts_ok hc)
  unfold Od.least Od.most Od.params at hb;have hx:p.length=0:=by have:=hb.1;have h3:=hb.2.2.2;rw [ipZ this] at h3;simp [hk] at h3;omega
  have hu:x.length=1:=by have:=hb.1;have h1:=hb.2.1;have h2:=hb.2.2.1;rw [ipZ this] at h1 h2;simp [hk] at h1 h2;omega
  clear hb hc;obtain ⟨bx,xo,S2,c2,C2,d2,rfl,lbx,x00,x01,hp⟩:=HX.out.at_ (j:=0) oZ;have ha:=λ(W:Zp1) (h:Later w2 W)=>qan (qe6 S2 C2 S c2 d2 c (Ly.got x 0) o.s W (hp.later (HH.out.trans h)) (HI.out.below (HH.out.trans h) (lrZ _)) ho) hj
  obtain ⟨R,hR⟩:∃R,Ly.turn (Ly.got x 0) o.s=R:=⟨_,rfl⟩
  rw [hR] at ha;rw [hR] at hh;have HE:=zI (hw.trans hh);clear hj;have q1:w2.cell? ⟨bx,xo,none⟩=some (sQ S2 (Ly.got x 0).s.length c2):=HH.out.cell (by simpa using x00);have q2:w2.cell? ⟨bx,xo+1,none⟩=some (sQ C2 (Ly.got x 0).c.length d2):=HH.out.cell (by simpa using x01);have q3:w2.cell? ⟨w.heap.size,7,none⟩=some (sQ S o.s.length c):=by rw [hn.out.cell];rfl
  have x0:w2.cell? ⟨w.heap.size,0,none⟩=some (nQ iQ 15):=by rw [hn.out.cell,←hk];rfl
  rw [hu];obtain ⟨he,HR⟩:=zd2 ha hR;clear ha hR hh hp;have lx1:bx<w2.heap.size:=ltZ lbx HH.out.size;go_upto_region 20 with fail;clear x0 hk;have KF:=zI (show ∀Xw,Later w2 Xw->Xw.cell? ⟨bx,xo,none⟩=some (sQ S2 (Ly.got x 0).s.length c2)/\Xw.cell? ⟨bx,xo+1,none⟩=some (sQ C2 (Ly.got x 0).c.length d2)/\Xw.cell? ⟨w.heap.size,7,none⟩=some (sQ S o.s.length c) from λXw h=>⟨h.cell q1,h.cell q2,h.cell q3⟩);refine Zm1 ?_;refine Zl1 (S:=λXw=>Xw.cell? ⟨bx,xo,none⟩=some (sQ S2 (Ly.got x 0).s.length c2)/\Xw.cell? ⟨bx,xo+1,none⟩=some (sQ C2 (Ly.got x 0).c.length d2)/\Xw.cell? ⟨w.heap.size,7,none⟩=some (sQ S o.s.length c)) krZ (KF.out _ Lau) (λhHeld=>?_);refine tk 0 ?_;refine tk 1 ?_;refine tk 2 ?_;refine tk 3 ?_;refine tk 4 ?_;refine rd 5 λK hK=>?_
  simp only [ga,gs,gz]
  go_simp
  go_at_call 76
  (with_reducible refine (he.out _ (Lau:Later w2 _)).mono ?_)
  rintro e wf ⟨S3,c3,C3,d3,rfl,hi,hl,hs⟩;have hg:Later w2 wf:=Later.trans (Lau:Later w2 (World.drew w2)) hs;have hd:=hg.blk Hz.out;have c0':=hd.cell 0;have c1':=hd.cell 1;have f0':=hd.frozen 0;have f1':=hd.frozen 1;simp at c0' c1';obtain ⟨ht,hr,hm,hq⟩:=zd4 hi hl hd hg;clear hi hl hd hg
  try go_wp2_with fail
  refine hK.out _ _ (KF.out _ Lau) (λhHeld=>?_);clear hK K
  try simp only [ga,gs,gz,Act.put,sa,sz,ss]
  refine tk 6 ?_;refine tk 7 ?_;refine rd 8 λK hK=>?_
  simp only [ga,gs,gz]
  go_simp
  refine hK.out _ _ ?_ (λhHeld=>?_)
  ·(try dsimp only);(refine ⟨?_,?_,?_⟩<;>(repeat (refine qa0 ?_ (by first|omega|(simp;done)|(simp;omega))))<;>(refine Later.cell (Lau:Later w2 _) ?_)<;>assumption)
  clear hK K
  try simp only [ga,gs,gz,Act.put,sa,sz,ss]
  refine tk 9 ?_;clear KF;refine Zn1 krZ ?_ _;refine Zd1 ?_;have hf:=(hm.out.set_ 0 (sQ S3 R.1.s.length c3)).set_ 1 (sQ C3 R.1.c.length d3);have e0:=hf.cell 0;have e1:=hf.cell 1;simp at e0 e1;have hy:=zI hf;clear hf;go_wp2_with fail;refine Zk1 (v:=.tuple #[.agg #[sQ S3 R.1.s.length c3,sQ C3 R.1.c.length d3],nQ iQ R.2]) (by simp [results,Tryz.results39,go_sem,e0,e1]) rfl ?_;rw [HE.out];exact qc1 ht.out hr.out (HH.out.trans hq.out) hm.out sZ (by have:=HH.out.size;simp;omega)
namespace Pn
def parts (n:NetD) (ps:List Ten) (id:Int):List Ten:=(ps.drop (from_ n.nodes (id.toNat-1))).take ((Nt.node n.nodes id).p.length)
def step (n:NetD) (ps vals:List Ten) (id:Int):Ten × Int:=Ly.go (Nt.node n.nodes id).op (parts n ps id) (pickT vals (Nt.node n.nodes id).ins)
def fwd (n:NetD) (ps:List Ten):List Ten->List Int->List Ten × Int
 | vals,[]=>(vals,0)
 | vals,id::r=>if (step n ps vals id).2=0 then fwd n ps (vals.set id.toNat (step n ps vals id).1) r else ([],(step n ps vals id).2)
def forward (n:NetD) (ps:List Ten) (x:Ten):List Ten × Int:=
 if fits n ps x≠0 then ([],fits n ps x) else fwd n ps (x::Zc n.nodes.length Ly.none_) (Nt.sorted n.nodes)
theorem fits_ok {n:NetD} {ps:List Ten} {x:Ten} (h:fits n ps x=0):Nt.check n=0/\ps.length=(Nt.params n).length/\parOk ps (Nt.params n) (Nt.params n).length=true/\tenIs x n.inn=true:=by
 unfold fits at h
 split at h
 ·rename_i hc;exact absurd h hc
 ·rename_i hc
  split at h
  ·simp at h
  ·rename_i hl
   split at h
   ·simp at h
   ·rename_i hp
    split at h
    ·rename_i hx;exact ⟨by omega,by omega,by simpa using hp,hx⟩
    ·simp at h
theorem go_bad {o:OpD} {p x:List Ten} (h:(Ly.go o p x).2≠0):(Ly.go o p x).1=Ly.none_:=by
 unfold Ly.go at h ⊢
 split at h
 ·rename_i hc
  rw [ipZ hc];exact Ly.lay_none (Od.right_kind (Ly.counts_ok hc).1).2 h
 ·rename_i hc;rw [inZ hc]
theorem from_le {ns:List NodeD} {k:Nat}:from_ ns k<=(ns.flatMap (·.p)).length:=by
 unfold from_;have:ns.flatMap (·.p)=(ns.take k).flatMap (·.p)++(ns.drop k).flatMap (·.p):=by rw [←Zj,Zn]
 rw [this,Ze];omega
theorem tenIs_ok {t:Ten} {s:List Int} (h:tenIs t s=true):Tn.right t=true/\t.s=s:=by
 unfold tenIs at h;rw [Zz] at h;exact ⟨h.1,by simpa using h.2⟩
end Pn
def FwdP (r:List Ten × Int) (w:Zp1) (e:Ending) (w':Zp1):Prop:=
 (r.2≠0/\e=.returned (.tuple #[sQ none 0 0,nQ iQ r.2])∨r.2=0/\∃G,e=.returned (.tuple #[sQ (some ⟨G,0,none⟩) r.1.length r.1.length,nQ iQ 0])/\TnsO w.heap.size w' (some ⟨G,0,none⟩) r.1)/\Below w.heap.size w w'
theorem FwdP.fail {n:Int} {r:List Ten × Int} {w w':Zp1} (hr:r.2=n) (hn:n≠0) (hb:Below w.heap.size w w'):FwdP r w (.returned (.tuple #[sQ none 0 0,nQ iQ n])) w':=by
 subst hr;exact ⟨.inl ⟨hn,rfl⟩,hb⟩
theorem qbN (A N P XS XC:Option Addr) (c d cp xc xd:Nat) (n:NetD) (ps:List Ten) (x:Ten) (w:Zp1) (hok:n.ok) (hR:NetR w A N n) (hd:n.nodes.length<=d) (hP:Tns w P ps) (lP:ps.length<=1048576) (kP:ps.length<=cp) (mP:cp<=9223372036854775807) (nP:P=none->cp=0) (hX:TenIn w XS XC xc xd x) (hK0:∀v∈n.nodes,v.op.kind≠10/\v.op.kind≠13/\v.op.kind≠14):
  Calls Tryz.prog 18 #[.agg #[sQ A n.inn.length c,sQ N n.nodes.length d],sQ P ps.length cp,.agg #[sQ XS x.s.length xc,sQ XC x.c.length xd]] w (FwdP (Pn.forward n ps x) w):=by
 have Gc:=zI hK0;clear hK0;have gT:=(Blk.new w 26 #[sQ A n.inn.length c,sQ N n.nodes.length d]).alloc (.cells #[sQ XS x.s.length xc,sQ XC x.c.length xd] 30);have HY:=Blk.new (w.alloc (.cells #[sQ A n.inn.length c,sQ N n.nodes.length d] 26)) 30 #[sQ XS x.s.length xc,sQ XC x.c.length xd];rw [Zh1] at HY;have g0:Later w ((w.alloc (.cells #[sQ A n.inn.length c,sQ N n.nodes.length d] 26)).alloc (.cells #[sQ XS x.s.length xc,sQ XC x.c.length xd] 30)):=((Later.refl w).alloc _).alloc _;obtain ⟨Hv,HR,HP,HX,H4,HZ,HD,GF⟩:=zd8 hok hR hP hX gT HY g0 nP;clear hok hR hP hX gT HY g0 nP;go_enter Tryz.func18,Tryz.ntmps18;go_upto_region 1 with fail;generalize (w.alloc (.cells #[sQ A n.inn.length c,sQ N n.nodes.length d] 26)).alloc (.cells #[sQ XS x.s.length xc,sQ XC x.c.length xd] 30)=w1 at *;have a0:=H4.out.cell 0;have a1:=H4.out.cell 1;have b0:=HZ.out.cell 0;have b1:=HZ.out.cell 1;simp at a0 a1 b0 b1;go_wp2_with fail;refine (qfu A N P XS XC c d cp xc xd n ps x w1 Hv.out (HR.out.below HD.out (lrZ _)) hd (HP.out.later HD.out) lP (HX.out.later HD.out)).mono ?_;rintro e w2 ⟨rfl,gW⟩;have hB:Later w1 w2:=gW;have HF:=HD.out.trans hB;have hL:=hB.blk H4.out;have HH:=hB.blk HZ.out;clear gW a0 a1 b0 b1
 by_cases hf:Pn.fits n ps x=0
 case neg=>
  have HE:=zI (show (Pn.forward n ps x).2=Pn.fits n ps x by unfold Pn.forward;rw [ipZ hf]);have d2:(Pn.fits n ps x != 0)=true:=by simpa using hf
  have Hf:=zI hf;clear hf;generalize Pn.fits n ps x=ge at *;obtain ⟨GG,Hy,gQ,gD⟩:=zd4 hB HF hL HH;clear hB HF hL HH;go_wp2_with fail;refine Zk1 (v:=.tuple #[sQ none 0 0,nQ iQ ge]) (by simp [results,Tryz.results18,go_sem]) rfl ?_;exact FwdP.fail HE.out Hf.out Hy.out
 have he:Pn.forward n ps x=Pn.fwd n ps (x::Zc n.nodes.length Ly.none_) (Nt.sorted n.nodes):=by unfold Pn.forward;rw [inZ oZ]
 obtain ⟨hc,gP,-,gR⟩:=Pn.fits_ok hf;obtain ⟨n1,n5,-,hn,hU,-,-,-⟩:=Nt.check_ok hc;obtain ⟨gu,Gp⟩:=Pn.tenIs_ok gR;obtain ⟨x4,x6⟩:=Ly.right_ok gu;have Ha:=Nt.bads_all hn;rw [hf];clear hf gR Gp gu hn;have a0:=hL.cell 0;have a1:=hL.cell 1;simp at a0 a1;obtain ⟨GG,Hy,gQ,gD,He,H8,Gs,Hz⟩:=zd8 hB HF hL HH he Ha gP hU;clear hB HF hL HH he Ha gP hU;go_wp2_with fail;refine (qdL A N c d n w2 Hv.out (HR.out.below Hy.out (lrZ _)) hd).mono ?_;rintro e w3 ⟨gZ,⟨-,O,oc,rfl,hO,GN,GY⟩|⟨hn,-⟩⟩
 rotate_left
 ·exact absurd hc hn
 have hS:Later w2 w3:=gZ;have H5:=Hy.out.trans hS;have H6:=hS.blk gQ.out;have gX:=hS.blk gD.out;clear gZ a0 a1 hc;have a1:=H6.cell 1;simp at a1;have q1:iQ.wrap ((n.nodes.length:Int)+1)=(n.nodes.length:Int)+1:=Zc1 _ oZ;have gA:=H5.size;obtain ⟨GU,Hw,Hc,Go,HO⟩:=zd5 hS H5 H6 gX hO;clear hS H5 H6 gX hO;obtain ⟨i0,hi,g9,gB,gE⟩:=info_parts qbe;go_wp2_with (at_make;refine wpList_make_full _ rfl _ _ 27 rfl w.heap.size 30 i0 (.agg #[sQ none 0 0,sQ none 0 0]) 2 Tryz.underlying27 hi g9 gB _ _ _ _ (n.nodes.length+1) rfl rfl (by first|rfl|simp) (by first|rfl|simp) ?b2 ?b3 gA ?_)
 case b2=>rw [gE];omega
 case b3=>unfold maxLen;omega
 intro w4 hown hgrow;clear hi g9 gB gE
 have Hk:Blk w4 w3.heap.size 30 (Zc ((n.nodes.length+1)*2) (Zb1 none 0 0)).toArray:=by
  have h:=qcy hown;rw [qbf] at h;exact h
 have hQ:Later w3 w4:=(Ze1 _ w3).grown hgrow (lrZ _) sZ;clear hown hgrow a1;have gk:=Hw.out.trans hQ;have gt:=hQ.blk Hc.out;have HB:=hQ.blk Go.out;have b0:=HB.cell 0;have b1:=HB.cell 1;simp at b0 b1;obtain ⟨hw,gh,HU,GT,GO⟩:=zd5 Hk hQ gk gt HB;clear Hk hQ gk gt HB;go_wp2_with fail;refine (qab XS XC xc xd x w4 oZ oZ (HX.out.later HU.out).r).mono ?_;rintro e w5 ⟨v,rfl,hN,hJ⟩;have HQ:Later w4 w5:=hJ;have Hs:=hN.o (B:=w4.heap.size) oZ oZ HX.out.num;obtain ⟨gx,hx,rfl,-,-,-,-⟩:=hN;have hb:=HQ.blk hw.out;have r0:=hb.cell 0;have r1:=hb.cell 1;have f0:=hb.frozen 0;have f1:=hb.frozen 1;have e0:w5.cell? ⟨w3.heap.size,0,none⟩=some (sQ none 0 0):=by rw [r0,Zk,List.getElem?_replicate,ipZ oZ]
 have e1:w5.cell? ⟨w3.heap.size,1,none⟩=some (sQ none 0 0):=by rw [r1,Zk,List.getElem?_replicate,ipZ oZ]
 have HM:w.heap.size<=w4.heap.size:=HU.out.size;have GD:w3.heap.size<w4.heap.size:=hw.out.lt;have Hh:TenO w.heap.size w5 (.agg #[sQ (some ⟨gx,0,none⟩) x.s.length x.s.length,sQ (some ⟨hx,0,none⟩) x.c.length x.c.length]) x:=Hs.base HM
 have Gz:gx≠w3.heap.size:=by
  obtain ⟨S',c',C',d',e,-,h1,-⟩:=Hs;simp at e;have:=h1 _ e.1.1.symm;simp at this;omega
 have Gg:hx≠w3.heap.size:=by
  obtain ⟨S',c',C',d',e,-,-,h1⟩:=Hs;simp at e;have:=(h1 _ e.2.1.symm).1;simp at this;omega
 clear hJ r0 r1 b0 b1 Hs;have ht:=(hb.set_ 0 (sQ (some ⟨gx,0,none⟩) x.s.length x.s.length)).set_ 1 (sQ (some ⟨hx,0,none⟩) x.c.length x.c.length);obtain ⟨gO,Hq,h0,hp⟩:=zd4 HQ hb Hh ht;clear HQ hb Hh ht;go_wp2_with fail;have GJ:(w5.setCell ⟨w3.heap.size,0,none⟩ (sQ (some ⟨gx,0,none⟩) x.s.length x.s.length)).setCell ⟨w3.heap.size,1,none⟩ (sQ (some ⟨hx,0,none⟩) x.c.length x.c.length)=(w5.setCell ⟨w3.heap.size,0,none⟩ (sQ (some ⟨gx,0,none⟩) x.s.length x.s.length)).setCell ⟨w3.heap.size,1,none⟩ (sQ (some ⟨hx,0,none⟩) x.c.length x.c.length):=rfl
 have Hm:TenO w.heap.size ((w5.setCell ⟨w3.heap.size,0,none⟩ (sQ (some ⟨gx,0,none⟩) x.s.length x.s.length)).setCell ⟨w3.heap.size,1,none⟩ (sQ (some ⟨hx,0,none⟩) x.c.length x.c.length)) (.agg #[sQ (some ⟨gx,0,none⟩) x.s.length x.s.length,sQ (some ⟨hx,0,none⟩) x.c.length x.c.length]) x:=by
  refine TenO.far2 h0.out (λa e=>?_) (λa e=>?_)
  ·injection e with e;subst e;exact Gz
  ·injection e with e;subst e;exact Gg
 have gl:Later w3 ((w5.setCell ⟨w3.heap.size,0,none⟩ (sQ (some ⟨gx,0,none⟩) x.s.length x.s.length)).setCell ⟨w3.heap.size,1,none⟩ (sQ (some ⟨hx,0,none⟩) x.c.length x.c.length)):=((gh.out.trans gO.out).set (p:=⟨w3.heap.size,0,none⟩) (lrZ _) _).set (p:=⟨w3.heap.size,1,none⟩) (lrZ _) _
 have gI:RowO w.heap.size ((w5.setCell ⟨w3.heap.size,0,none⟩ (sQ (some ⟨gx,0,none⟩) x.s.length x.s.length)).setCell ⟨w3.heap.size,1,none⟩ (sQ (some ⟨hx,0,none⟩) x.c.length x.c.length)) (((Zc ((n.nodes.length+1)*2) (Zb1 none 0 0)).set (0*2) (sQ (some ⟨gx,0,none⟩) x.s.length x.s.length)).set (0*2+1) (sQ (some ⟨hx,0,none⟩) x.c.length x.c.length)) (x::Zc n.nodes.length Ly.none_):=by
  have:=(RowO.zeros w.heap.size ((w5.setCell ⟨w3.heap.size,0,none⟩ (sQ (some ⟨gx,0,none⟩) x.s.length x.s.length)).setCell ⟨w3.heap.size,1,none⟩ (sQ (some ⟨hx,0,none⟩) x.c.length x.c.length)) (n.nodes.length+1)).set (k:=0) sZ Hm
  rwa [List.replicate_succ,List.set_cons_zero] at this
 have Hn:Blk ((w5.setCell ⟨w3.heap.size,0,none⟩ (sQ (some ⟨gx,0,none⟩) x.s.length x.s.length)).setCell ⟨w3.heap.size,1,none⟩ (sQ (some ⟨hx,0,none⟩) x.c.length x.c.length)) w3.heap.size 30 (((Zc ((n.nodes.length+1)*2) (Zb1 none 0 0)).set (0*2) (sQ (some ⟨gx,0,none⟩) x.s.length x.s.length)).set (0*2+1) (sQ (some ⟨hx,0,none⟩) x.c.length x.c.length)).toArray:=by
  have:=hp.out;rw [List.setIfInBounds_toArray,List.setIfInBounds_toArray] at this;exact this
 clear GJ hp Hq h0 Hm gO gh HU hw;obtain ⟨gJ,gL,gi⟩:=zd3 gI Hn gl;clear gI Hn gl;generalize (w5.setCell ⟨w3.heap.size,0,none⟩ (sQ (some ⟨gx,0,none⟩) x.s.length x.s.length)).setCell ⟨w3.heap.size,1,none⟩ (sQ (some ⟨hx,0,none⟩) x.c.length x.c.length)=w6 at *
 go_loopw [45] (λi wx=>∃(k:Nat) (vs:List Value) (vals:List Ten),k<=n.nodes.length/\i=nQ iQ (k:Int)/\Blk wx w3.heap.size 30 vs.toArray/\RowO w.heap.size wx vs vals/\vals.length=n.nodes.length+1/\Later w3 wx/\Pn.forward n ps x=Pn.fwd n ps vals ((Nt.sorted n.nodes).drop k)) (λi _=>n.nodes.length-(intOf i).toNat)
 case atStart=>exact ⟨0,_,_,Zt _,rfl,gL.out,gJ.out,by simp,gi.out,He.out⟩
 case round=>
  obtain ⟨k,vs,vals,hk,rfl,hG,HA,hu,hl,hH⟩:=hrel;clear gL gJ gi
  by_cases GB:k<n.nodes.length
  ·have HJ:k<(Nt.sorted n.nodes).length:=by rw [Hz.out];exact GB
   obtain ⟨bo,oo,rfl,-,HV⟩:=(HO.out.below hl (lrZ _)) k HJ;have Ho:=Kn.order_rng (Nt.insF n.nodes) n.nodes.length _ (gmZ HJ);have gn:(Nt.sorted n.nodes).getD k 0=(Nt.sorted n.nodes)[k]:=by rw [gdZ,geZ HJ];rfl
   rw [gn] at HV;rw [Zd HJ] at hH;have ho:1<=(Nt.sorted n.nodes)[k]/\(Nt.sorted n.nodes)[k]<=n.nodes.length:=Ho;clear Ho gn;obtain ⟨j,hj⟩:∃j:Nat,(Nt.sorted n.nodes)[k]=(j:Int)+1:=⟨((Nt.sorted n.nodes)[k]-1).toNat,by omega⟩
   rw [hj] at HV hH ho;have hI:j<n.nodes.length:=by omega
   clear hj;obtain ⟨b,off,S,sc,J,ic,Q,qc,rfl,HW,GQ,GP,GA⟩:=HR.out.2.at_ hI;have g7:=Nt.node_at hI;have h9:=Hv.out.2.2 _ (gmZ hI);have Gf:=zI (Gc.out _ (gmZ hI));have Hp:=(H8.out _ (gmZ hI)).2;have gp:=Pn.from_succ hI;have hM:Pn.from_ n.nodes (j+1)<=ps.length:=by rw [Gs.out];exact Pn.from_le
   have gq:Pn.step n ps vals ((j:Int)+1)=Ly.go n.nodes[j].op ((ps.drop (Pn.from_ n.nodes j)).take n.nodes[j].p.length) (Pn.pickT vals n.nodes[j].ins):=by
    unfold Pn.step Pn.parts;rw [g7,show ((j:Int)+1).toNat-1=j by omega]
   have gc:Pn.part n ((j:Int)+1)=((Pn.from_ n.nodes j:Int),(Pn.from_ n.nodes (j+1):Int)):=by
    unfold Pn.part;rw [inZ oZ,show ((j:Int)+1).toNat=j+1 by omega]
    rfl
   rw [gp] at gc hM;clear gp g7;generalize n.nodes[j]=v at *;generalize Pn.from_ n.nodes j=fr at *;have gd:=Hw.out.trans hl;have GK:=HW.below gd;obtain ⟨⟨y0,y1,y2,y3,y4,y5,y6,y7,y8,y9⟩,gF,gU,gv⟩:=GK;have a0:=(hl.blk Hc.out).cell 0;have a1:=(hl.blk Hc.out).cell 1;simp at a0 a1;have g1:(k:Int)<(n.nodes.length:Int):=by omega
   have g2:(j:Int)<(n.nodes.length:Int):=by omega
   have g3:iQ.wrap ((j:Int)+1-1)=(j:Int):=by rw [show (j:Int)+1-1=(j:Int) by omega];exact Zc1 _ oZ
   have g4:(j:Int)+1-1=(j:Int):=by omega
   have g5:iQ.wrap (j:Int)=(j:Int):=Zc1 _ oZ;have gj:=hl.alloc (.cells #[nQ iQ v.op.kind,nQ iQ v.op.k,nQ iQ v.op.width,nQ iQ v.op.step,nQ iQ v.op.side,nQ iQ v.op.frm,nQ iQ v.op.to,sQ S v.op.s.length sc,sQ J v.ins.length ic,sQ Q v.p.length qc] 59);have hY:=(Later.refl wr).alloc (.cells #[nQ iQ v.op.kind,nQ iQ v.op.k,nQ iQ v.op.width,nQ iQ v.op.step,nQ iQ v.op.side,nQ iQ v.op.frm,nQ iQ v.op.to,sQ S v.op.s.length sc,sQ J v.ins.length ic,sQ Q v.p.length qc] 59);have gy:=Blk.new wr 59 #[nQ iQ v.op.kind,nQ iQ v.op.k,nQ iQ v.op.width,nQ iQ v.op.step,nQ iQ v.op.side,nQ iQ v.op.frm,nQ iQ v.op.to,sQ S v.op.s.length sc,sQ J v.ins.length ic,sQ Q v.p.length qc];have g8:=hG.alloc (.cells #[nQ iQ v.op.kind,nQ iQ v.op.k,nQ iQ v.op.width,nQ iQ v.op.step,nQ iQ v.op.side,nQ iQ v.op.frm,nQ iQ v.op.to,sQ S v.op.s.length sc,sQ J v.ins.length ic,sQ Q v.p.length qc] 59);obtain ⟨HG,hC,hE,gM,Gq,GW,H1,H7,GI⟩:=zd9 hG HA hu hl hH HW h9 Hp gq;obtain ⟨GE,gw,Gk,Gn,GS,H3,Gx,GR,H0⟩:=zd9 gc gd gF gU gv gj gy g8 hY;clear hG HA hu hl hH HW h9 Hp gq gc gd gF gU gv gj gy g8 hY;clear ho;go_upto_region 13 with fail;generalize hwb:wr.alloc (.cells #[nQ iQ v.op.kind,nQ iQ v.op.k,nQ iQ v.op.width,nQ iQ v.op.step,nQ iQ v.op.side,nQ iQ v.op.frm,nQ iQ v.op.to,sQ S v.op.s.length sc,sQ J v.ins.length ic,sQ Q v.p.length qc] 59)=wb at *;have a0b:=(H3.out.blk Hc.out).cell 0;have a1b:=(H3.out.blk Hc.out).cell 1;simp at a0b a1b;have gm:=HR.out.below (Hw.out.trans H3.out) (lrZ _);clear hwb a0 a1 y0 y1 y2 y3 y4 y5 y6 y7 y8 y9 g1 g3 g4 g5 HV;have Gj:=zI gm;clear gm;go_wp2_with fail;refine (qd5 A (some ⟨b,off,none⟩) c d n ((j:Int)+1) wb Hv.out Gj.out hd oZ oZ).mono ?_;rintro e wp ⟨rfl,gC⟩
   rw [GE.out];have HI:Later wb wp:=gC;have gb:Later wr wb:=H0.out;have hz:=gb.trans HI;have HN:=gw.out.trans hz;have ha:=HI.blk Gx.out;have HS:=hz.blk HG.out;have gG:=hC.out.rowT.tnsB hz HS;have hu:=hE.out
   have h8:∀i∈v.ins,0<=i/\i<vals.length:=λi hi=>by
    have:=H7.out i hi;rw [hu];omega
   obtain ⟨vo1,vo2,vo3,vo4,-,-⟩:=H1.out;have hh:=λ(W:Zp1) (h:Later wp W)=>qd6 (some ⟨w3.heap.size,0,none⟩) J (n.nodes.length+1) ic vals v.ins W (gG.later h) oZ (Gn.out.below (hz.trans h) (lrZ _)) vo3 h8
   rw [hu] at hh;have hA:((ps.drop fr).take v.p.length).length=v.p.length:=by simp;omega
   have HK:(Pn.pickT vals v.ins).length=v.ins.length:=by simp [Pn.pickT]
   have HL:=λ(W:Zp1) (h:Later wp W) (PP K:Option Addr) (pc:Nat) (hPP:Tns W PP ((ps.drop fr).take v.p.length)) (hK:Tns W K (Pn.pickT vals v.ins))=>qan (op_go v.op Gf.out S PP K sc pc (Pn.pickT vals v.ins).length ((ps.drop fr).take v.p.length) (Pn.pickT vals v.ins) W vo2 (Gk.out.below (hz.trans h) (lrZ _)) (vo1 _ sZ) hPP hK (by rw [HK];exact vo3) (lrZ _) (by rw [HK];omega)) Pn.go_bad
   rw [←GI.out,hA] at HL;have x0:=ha.cell 0;have x1:=ha.cell 1;have x2:=ha.cell 2;have x3:=ha.cell 3;have x4:=ha.cell 4;have x5:=ha.cell 5;have x6:=ha.cell 6;have x7:=ha.cell 7;have x8:=ha.cell 8;simp at x0 x1 x2 x3 x4 x5 x6 x7 x8
   have Hl:Pn.forward n ps x=if (Pn.step n ps vals ((j:Int)+1)).2=0 then Pn.fwd n ps (vals.set (j+1) (Pn.step n ps vals ((j:Int)+1)).1) ((Nt.sorted n.nodes).drop (k+1)) else ([],(Pn.step n ps vals ((j:Int)+1)).2):=by
    have:=Gq.out;rw [Pn.fwd,show ((j:Int)+1).toNat=j+1 by omega] at this;exact this
   generalize Pn.step n ps vals ((j:Int)+1)=R at *;have Gr:=HN.size;clear gC h8 gG a0b a1b;have u1:(fr:Int)<=(fr:Int)+(v.p.length:Int):=by omega
   have u2:(fr:Int)+(v.p.length:Int)<=(cp:Int):=by omega
   have u6:((fr:Int)+(v.p.length:Int)).toNat-fr=v.p.length:=by omega
   have GM:wr.heap.size<wp.heap.size:=ha.lt;obtain ⟨gS,Gb,GX,Gv,Gt,hq,GC,Gl,GL⟩:=zd9 ha HS gb hz HN hh HL hA HK;obtain ⟨GZ,hZ⟩:=zd2 HI Hl;clear ha HS gb hz HN hh HL hA HK HI Hl;go_upto_region 14 with fail
   go_cut [17,18] (FwCut wp w.heap.size R)
   case first=>
    obtain ⟨PP,hPP⟩:∃PP,(if cp=fr then P else P.map λa=>a.add (fr*2))=PP:=⟨_,rfl⟩
    have g6:∀W,Tns W P ps->Tns W PP ((ps.drop fr).take v.p.length):=λW h=>by
     have:=qd4 (fr:=fr) (tl:=fr+v.p.length) h kP GF.out oZ hM;rw [hPP,Nat.add_sub_cancel_left] at this;exact this
    have hU:∀(ρ:Operand->Value) (W:Zp1) (o:Oper) (x lo hi:Operand),o.op=.slice 27 x (some lo) (some hi) none->ρ x=sQ P ps.length cp->ρ lo=nQ iQ (fr:Int)->ρ hi=nQ iQ ((fr:Int)+(v.p.length:Int))->(execOp ρ o).run Tryz.prog W=.ok (.value (sQ PP v.p.length (cp-fr))) W:=λρ W o x lo hi h1 h2 h3 h4=>by
     rw [←hPP];exact qaT h1 Tryz.underlying27 krZ h2 h3 h4 oZ
    have gY:=λ(W:Zp1) (h:Later wp W) (V:Zp1) (Kp:Nat) (hK:Tns V (some ⟨Kp,0,none⟩) (Pn.pickT vals v.ins)) (hV:Later V W) (pc:Nat)=>GC.out W h PP (some ⟨Kp,0,none⟩) pc (g6 W (HP.out.later (Gt.out.trans h))) (hK.later hV)
    clear hPP g6;obtain ⟨H2,Hz⟩:=zd2 gY hU;clear gY hU;go_wp2_with fail;have KF:=zI (show ∀Xw,Later wp Xw->Xw.cell? ⟨wr.heap.size,0,none⟩=some (nQ iQ v.op.kind)/\Xw.cell? ⟨wr.heap.size,1,none⟩=some (nQ iQ v.op.k)/\Xw.cell? ⟨wr.heap.size,2,none⟩=some (nQ iQ v.op.width)/\Xw.cell? ⟨wr.heap.size,3,none⟩=some (nQ iQ v.op.step)/\Xw.cell? ⟨wr.heap.size,4,none⟩=some (nQ iQ v.op.side)/\Xw.cell? ⟨wr.heap.size,5,none⟩=some (nQ iQ v.op.frm)/\Xw.cell? ⟨wr.heap.size,6,none⟩=some (nQ iQ v.op.to)/\Xw.cell? ⟨wr.heap.size,7,none⟩=some (sQ S v.op.s.length sc)/\Xw.cell? ⟨wr.heap.size,8,none⟩=some (sQ J v.ins.length ic) from λXw h=>⟨h.cell x0,h.cell x1,h.cell x2,h.cell x3,h.cell x4,h.cell x5,h.cell x6,h.cell x7,h.cell x8⟩);refine Zm1 ?_;refine Zl1 (S:=λXw=>Xw.cell? ⟨wr.heap.size,0,none⟩=some (nQ iQ v.op.kind)/\Xw.cell? ⟨wr.heap.size,1,none⟩=some (nQ iQ v.op.k)/\Xw.cell? ⟨wr.heap.size,2,none⟩=some (nQ iQ v.op.width)/\Xw.cell? ⟨wr.heap.size,3,none⟩=some (nQ iQ v.op.step)/\Xw.cell? ⟨wr.heap.size,4,none⟩=some (nQ iQ v.op.side)/\Xw.cell? ⟨wr.heap.size,5,none⟩=some (nQ iQ v.op.frm)/\Xw.cell? ⟨wr.heap.size,6,none⟩=some (nQ iQ v.op.to)/\Xw.cell? ⟨wr.heap.size,7,none⟩=some (sQ S v.op.s.length sc)/\Xw.cell? ⟨wr.heap.size,8,none⟩=some (sQ J v.ins.length ic)) krZ (KF.out _ Lau) (λhHeld=>?_);refine tk 0 ?_;refine tk 1 ?_;refine tk 2 ?_;refine tk 3 ?_;refine tk 4 ?_;refine tk 5 ?_ (hy:=λW _=>Hz.out _ _ _ _ _ _ rfl rfl rfl rfl)
    try simp only [ga,gs,gz,Act.put,sa,sz,ss]
    refine tk 6 ?_;refine tk 7 ?_;refine tk 8 ?_;refine Zo1 (rs:=[9,14]) krZ sZ ?_;refine Zf1 (o:=_) rfl (λK hK=>?_) (Zf1 (o:=_) rfl (λK hK=>?_) (Zg1))
    ·simp only [ga,gs,gz]
     go_simp
     go_at_call 24;(with_reducible refine (hq.out _ (Lau:Later wp _)).mono ?_);rintro e wk ⟨Kp,rfl,-,h5,Hn⟩
     have Ht:=zI h5;clear h5;have Hb:Later wp wk:=(Lau:Later wp wk)
     have Hx:=zI Hb;clear Hb
     try go_wp2_with fail
     refine hK.out _ _ (KF.out _ Lau) (λhHeld=>?_);clear hK K
     try simp only [ga,gs,gz,Act.put,sa,sz,ss]
     refine Zo1 (rs:=[10,14]) krZ sZ ?_;refine Zf1 (o:=_) rfl (λK hK=>?_) (Zf1 (o:=_) rfl (λK hK=>?_) (Zg1))
     ·simp only [ga,gs,gz]
      go_simp
      go_at_call 39;(with_reducible refine (H2.out _ (Lau:Later wp _) wk Kp Ht.out (Lau:Later wk _) _).mono ?_);rintro e wg ⟨S3,c3,C3,d3,rfl,hT,hs,Hu⟩
      have Hj:=zI hs;clear hs hT;have gV:=Hx.out.size
      try go_wp2_with fail
      refine hK.out _ _ (KF.out _ Lau) (λhHeld=>?_);clear hK K
      try simp only [ga,gs,gz,Act.put,sa,sz,ss]
      refine tk 11 ?_;refine tk 12 ?_;refine tk 13 ?_;refine rd 14 λK hK=>?_
      simp only [ga,gs,gz]
      go_simp
      refine hK.out _ _ (KF.out _ Lau) (λhHeld=>?_);clear hK K
      try simp only [ga,gs,gz,Act.put,sa,sz,ss]
      refine rd 15 λK hK=>?_
      simp only [ga,gs,gz]
      go_simp
      refine hK.out _ _ ?_ (λhHeld=>?_)
      ·(try dsimp only);(refine ⟨?_,?_,?_,?_,?_,?_,?_,?_,?_⟩<;>(repeat (refine qa0 ?_ (by first|omega|(simp;done)|(simp;omega))))<;>(refine Later.cell (Lau:Later wp _) ?_)<;>assumption)
      clear hK K
      try simp only [ga,gs,gz,Act.put,sa,sz,ss]
      refine tk 16 ?_;clear KF;refine Zn1 krZ ?_ _;refine Zd1 ?_;go_wp2_with fail;have hW:Later wp wg:=(Lau:Later wp wg)
      go_meet
      exact ⟨S3,c3,C3,d3,wg.heap.size,rfl,rfl,Blk.new wg _ _,λh=>((Hj.out h).base oZ).later ((Later.refl wg).alloc _),hW.alloc _⟩
     ·simp only [ga,gs,gz]
      go_simp
      refine hK.out _ _ (KF.out _ Lau) (λhHeld=>?_);clear hK K
      try simp only [ga,gs,gz,Act.put,sa,sz,ss]
      refine rd 10 λK hK=>?_
      simp only [ga,gs,gz]
      go_simp
      go_at_call 39;(with_reducible refine (H2.out _ (Lau:Later wp _) wk Kp Ht.out (Lau:Later wk _) _).mono ?_);rintro e wg ⟨S3,c3,C3,d3,rfl,hT,hs,Hu⟩
      have Hj:=zI hs;clear hs hT;have gV:=Hx.out.size;have hg:=(show Later (wk.alloc (.cells #[sQ none 0 0,sQ none 0 0] 30)) wg from Hu).blk (Blk.new wk _ _);have b0':=hg.cell 0;have b1':=hg.cell 1;have bf0:=hg.frozen 0;have bf1:=hg.frozen 1;simp at b0' b1';have Hg:=zI hg;clear hg
      try go_wp2_with fail
      refine hK.out _ _ (KF.out _ Lau) (λhHeld=>?_);clear hK K
      try simp only [ga,gs,gz,Act.put,sa,sz,ss]
      refine tk 11 ?_;refine tk 12 ?_;refine tk 13 ?_;refine rd 15 λK hK=>?_
      simp only [ga,gs,gz]
      go_simp
      refine hK.out _ _ ?_ (λhHeld=>?_)
      ·(try dsimp only);(refine ⟨?_,?_,?_,?_,?_,?_,?_,?_,?_⟩<;>(repeat (refine qa0 ?_ (by first|omega|(simp;done)|(simp;omega))))<;>(refine Later.cell (Lau:Later wp _) ?_)<;>assumption)
      clear hK K
      try simp only [ga,gs,gz,Act.put,sa,sz,ss]
      refine tk 16 ?_;clear KF;refine Zn1 krZ ?_ _;refine Zd1 ?_;go_wp2_with fail;have hW:Later wp wg:=(Lau:Later wp wg)
      have hJ:=(Hg.out.set_ 0 (sQ S3 R.1.s.length c3)).set_ 1 (sQ C3 R.1.c.length d3)
      go_meet
      exact ⟨S3,c3,C3,d3,wk.heap.size,rfl,rfl,(by simpa using hJ),λh=>((Hj.out h).base (by first|omega|(simp;omega))).box Hg.out,(hW.set (p:=⟨wk.heap.size,0,none⟩) (by first|omega|(simp;done)|(simp;omega)) _).set (p:=⟨wk.heap.size,1,none⟩) (by first|omega|(simp;done)|(simp;omega)) _⟩
    ·simp only [ga,gs,gz]
     go_simp
     refine hK.out _ _ (KF.out _ Lau) (λhHeld=>?_);clear hK K
     try simp only [ga,gs,gz,Act.put,sa,sz,ss]
     refine rd 9 λK hK=>?_
     simp only [ga,gs,gz]
     go_simp
     go_at_call 24;(with_reducible refine (hq.out _ (Lau:Later wp _)).mono ?_);rintro e wk ⟨Kp,rfl,-,h5,Hn⟩
     have Ht:=zI h5;clear h5;have Hb:Later wp wk:=(Lau:Later wp wk)
     have Hx:=zI Hb;clear Hb
     try go_wp2_with fail
     refine hK.out _ _ (KF.out _ Lau) (λhHeld=>?_);clear hK K
     try simp only [ga,gs,gz,Act.put,sa,sz,ss]
     refine rd 10 λK hK=>?_
     simp only [ga,gs,gz]
     go_simp
     go_at_call 39;(with_reducible refine (H2.out _ (Lau:Later wp _) wk Kp Ht.out (Lau:Later wk _) _).mono ?_);rintro e wg ⟨S3,c3,C3,d3,rfl,hT,hs,Hu⟩
     have Hj:=zI hs;clear hs hT;have gV:=Hx.out.size;have hg:=(show Later wk wg from Hu).blk ((show Later _ wk from Hn).blk ((Blk.new wp 30 #[sQ none 0 0,sQ none 0 0]).drew));have b0':=hg.cell 0;have b1':=hg.cell 1;have bf0:=hg.frozen 0;have bf1:=hg.frozen 1;simp at b0' b1';have Hg:=zI hg;clear hg
     try go_wp2_with fail
     refine hK.out _ _ (KF.out _ Lau) (λhHeld=>?_);clear hK K
     try simp only [ga,gs,gz,Act.put,sa,sz,ss]
     refine tk 11 ?_;refine tk 12 ?_;refine tk 13 ?_;refine rd 15 λK hK=>?_
     simp only [ga,gs,gz]
     go_simp
     refine hK.out _ _ ?_ (λhHeld=>?_)
     ·(try dsimp only);(refine ⟨?_,?_,?_,?_,?_,?_,?_,?_,?_⟩<;>(repeat (refine qa0 ?_ (by first|omega|(simp;done)|(simp;omega))))<;>(refine Later.cell (Lau:Later wp _) ?_)<;>assumption)
     clear hK K
     try simp only [ga,gs,gz,Act.put,sa,sz,ss]
     refine tk 16 ?_;clear KF;refine Zn1 krZ ?_ _;refine Zd1 ?_;go_wp2_with fail;have hW:Later wp wg:=(Lau:Later wp wg)
     have hJ:=(Hg.out.set_ 0 (sQ S3 R.1.s.length c3)).set_ 1 (sQ C3 R.1.c.length d3)
     go_meet
     exact ⟨S3,c3,C3,d3,wp.heap.size,rfl,rfl,(by simpa using hJ),λh=>((Hj.out h).base (by first|omega|(simp;omega))).box Hg.out,(hW.set (p:=⟨wp.heap.size,0,none⟩) (by first|omega|(simp;done)|(simp;omega)) _).set (p:=⟨wp.heap.size,1,none⟩) (by first|omega|(simp;done)|(simp;omega)) _⟩
   case rest=>
    obtain ⟨S3,c3,C3,d3,tb,rfl,rfl,hD,Hi,hF⟩:=hcut;have hv:=Gv.out.trans hF;have HC:=gw.out.trans hv;have hm:=hF.blk Gb.out;have l0:=hD.cell 0;have l1:=hD.cell 1;simp at l0 l1
    by_cases hr:R.2=0
    case neg=>
     have HE:=zI (show (Pn.forward n ps x).2=R.2 by rw [hZ.out,inZ hr]);have d2:(R.2 != 0)=true:=by simpa using hr
     have Hr:=zI hr;clear hr;generalize R.2=ge at *;obtain ⟨Gu,gH,Gw,Gm,Gh,Gd⟩:=zd6 hv HC hm hD Hi hF;clear hv HC hm hD Hi hF;go_wp2_with fail;refine Zk1 (v:=.tuple #[sQ none 0 0,nQ iQ ge]) (by simp [results,Tryz.results18,go_sem]) rfl ?_;exact FwdP.fail HE.out Hr.out gH.out
    have h6:=hZ.out.trans (ipZ hr);have gf:=(hC.out.later hv).set (k:=j+1) (by rw [hE.out];omega) (Hi hr);have h7:vs.length=(n.nodes.length+1)*2:=by rw [hC.out.1,hE.out]
    obtain ⟨p0,e0⟩:∃u,wc.cell? ⟨w3.heap.size,(j+1)*2,none⟩=some u:=by rw [hm.cell];exact ⟨_,by rw [Zk,geZ oZ]⟩
    obtain ⟨p1,e1⟩:∃u,wc.cell? ⟨w3.heap.size,(j+1)*2+1,none⟩=some u:=by rw [hm.cell];exact ⟨_,by rw [Zk,geZ oZ]⟩
    have f0:=hm.frozen ((j+1)*2);have f1:=hm.frozen ((j+1)*2+1);rw [hr];have g2':(j:Int)+1<(n.nodes.length:Int)+1:=by omega
    clear hr;have Hd:=gf.off (i:=(j+1)*2) (k:=(j+1)*2+1) hm hC.out.rowT.cell (sQ S3 R.1.s.length c3) (sQ C3 R.1.c.length d3);have H9:=(hm.set_ ((j+1)*2) (sQ S3 R.1.s.length c3)).set_ ((j+1)*2+1) (sQ C3 R.1.c.length d3);rw [List.setIfInBounds_toArray,List.setIfInBounds_toArray] at H9;have gN:=((gM.out.trans hv).set (p:=⟨w3.heap.size,(j+1)*2,none⟩) (lrZ _) (sQ S3 R.1.s.length c3)).set (p:=⟨w3.heap.size,(j+1)*2+1,none⟩) (lrZ _) (sQ C3 R.1.c.length d3);obtain ⟨Gu,gH,Gw,Gm,Gh,Gd,gg,GV,Ga⟩:=zd9 hv HC hm hD Hi hF h6 gf h7;obtain ⟨HT,GH,Ge⟩:=zd3 Hd H9 gN;clear hv HC hm hD Hi hF h6 gf h7 Hd H9 gN;go_wp2_with fail;go_roundw
    case rel=>exact ⟨k+1,_,_,by omega,by go_num,GH.out,HT.out,by rw [List.length_set];exact hE.out,Ge.out,gg.out⟩
    case measure=>simp [intOf];omega
  ·obtain rfl:k=n.nodes.length:=by omega
   have gK:Pn.forward n ps x=(vals,0):=by rw [hH,List.drop_eq_nil_of_le (by rw [Hz.out];exact lrZ _),Pn.fwd]
   have gr:=Hw.out.trans hl;obtain ⟨HG,hC,hE,gM,Gy,Gi⟩:=zd6 hG HA hu hl gK gr;clear hG HA hu hl gK gr;clear hH;go_wp2_with fail;refine Zk1 (v:=.tuple #[sQ (some ⟨w3.heap.size,0,none⟩) (n.nodes.length+1) (n.nodes.length+1),nQ iQ 0]) (by simp [results,Tryz.results18,go_sem]) rfl ?_;rw [Gy.out];exact ⟨.inr ⟨rfl,w3.heap.size,by rw [hE.out],hC.out.tnsO HG.out gA⟩,Gi.out⟩
theorem run_bad (A N P XS XC:Option Addr) (c d cp xc xd:Nat) (n:NetD) (ps:List Ten) (x:Ten) (w:Zp1) (hok:n.ok) (hR:NetR w A N n) (hd:n.nodes.length<=d) (hP:Tns w P ps) (lP:ps.length<=1048576) (kP:ps.length<=cp) (mP:cp<=9223372036854775807) (nP:P=none->cp=0) (hX:TenIn w XS XC xc xd x) (hne:(Pn.forward n ps x).2≠0) (hK0:∀v∈n.nodes,v.op.kind≠10/\v.op.kind≠13/\v.op.kind≠14):
  Calls Tryz.prog 9 #[.agg #[sQ A n.inn.length c,sQ N n.nodes.length d],sQ P ps.length cp,.agg #[sQ XS x.s.length xc,sQ XC x.c.length xd]] w λe w'=>e=.returned (.tuple #[.agg #[nQ iQ 0,sQ none 0 0,sQ none 0 0,sQ none 0 0],nQ iQ (Pn.forward n ps x).2])/\Below w.heap.size w w':=by
 have hs:=zI hK0;clear hK0;have hk:=((Blk.new w 26 #[sQ A n.inn.length c,sQ N n.nodes.length d]).alloc (.cells #[sQ XS x.s.length xc,sQ XC x.c.length xd] 30)).alloc (.cells #[nQ iQ 0,sQ none 0 0,sQ none 0 0,sQ none 0 0] 44);have hg:=(Blk.new (w.alloc (.cells #[sQ A n.inn.length c,sQ N n.nodes.length d] 26)) 30 #[sQ XS x.s.length xc,sQ XC x.c.length xd]).alloc (.cells #[nQ iQ 0,sQ none 0 0,sQ none 0 0,sQ none 0 0] 44);have hz:=Blk.new ((w.alloc (.cells #[sQ A n.inn.length c,sQ N n.nodes.length d] 26)).alloc (.cells #[sQ XS x.s.length xc,sQ XC x.c.length xd] 30)) 44 #[nQ iQ 0,sQ none 0 0,sQ none 0 0,sQ none 0 0];simp only [Zh1] at hg hz;have hi:Later w (((w.alloc (.cells #[sQ A n.inn.length c,sQ N n.nodes.length d] 26)).alloc (.cells #[sQ XS x.s.length xc,sQ XC x.c.length xd] 30)).alloc (.cells #[nQ iQ 0,sQ none 0 0,sQ none 0 0,sQ none 0 0] 44)):=(((Later.refl w).alloc _).alloc _).alloc _;obtain ⟨hu,HR,HP,HX,hj,hm,Hz,hc,hq⟩:=zd9 hok hR hP hX hk hg hz hi nP;clear hok hR hP hX hk hg hz hi nP;go_enter Tryz.func9,Tryz.ntmps9;go_upto_region 1 with fail;generalize ((w.alloc (.cells #[sQ A n.inn.length c,sQ N n.nodes.length d] 26)).alloc (.cells #[sQ XS x.s.length xc,sQ XC x.c.length xd] 30)).alloc (.cells #[nQ iQ 0,sQ none 0 0,sQ none 0 0,sQ none 0 0] 44)=w1 at *;have a0:=hj.out.cell 0;have a1:=hj.out.cell 1;have b0:=hm.out.cell 0;have b1:=hm.out.cell 1;simp at a0 a1 b0 b1;have hf:=qbN A N P XS XC c d cp xc xd n ps x w1 hu.out (HR.out.below hc.out (lrZ _)) hd (HP.out.later hc.out) lP kP mP hq.out (HX.out.later hc.out) hs.out;obtain ⟨r,hr⟩:∃r,Pn.forward n ps x=r:=⟨_,rfl⟩
 rw [hr] at hf hne;have HE:=zI hr;clear hr;have d2:(r.2 != 0)=true:=by simpa using hne
 have hp:=zI hne;clear hne;have ht:=zI hf;clear hf;go_wp2_with fail;refine (ht.out).mono ?_;rintro e w2 ⟨⟨-,rfl⟩|⟨hh,-⟩,hl⟩
 rotate_left
 ·exact absurd hh hp.out
 have he:Later w1 w2:=hl;have hn:=hc.out.trans he;have ha:=he.blk Hz.out;have m0:=ha.cell 0;have m1:=ha.cell 1;have m2:=ha.cell 2;have m3:=ha.cell 3;have mf0:=ha.frozen 0;have mf1:=ha.frozen 1;have mf2:=ha.frozen 2;have mf3:=ha.frozen 3;have hb:=(((ha.set_ 0 (nQ iQ 0)).set_ 1 (sQ none 0 0)).set_ 2 (sQ none 0 0)).set_ 3 (sQ none 0 0);have e0:=hb.cell 0;have e1:=hb.cell 1;have e2:=hb.cell 2;have e3:=hb.cell 3;simp at m0 m1 m2 m3 e0 e1 e2 e3;clear hl a0 a1 b0 b1;obtain ⟨hv,ho,hx,hw⟩:=zd4 he hn ha hb;clear he hn ha hb;go_wp2_with fail;refine Zk1 (v:=.tuple #[.agg #[nQ iQ 0,sQ none 0 0,sQ none 0 0,sQ none 0 0],nQ iQ r.2]) (by simp [results,Tryz.results9,go_sem,e0,e1,e2,e3]) rfl ?_;exact ⟨by rw [HE.out],(((ho.out.set (p:=⟨w.heap.size+2,0,none⟩) sZ _).set (p:=⟨w.heap.size+2,1,none⟩) sZ _).set (p:=⟨w.heap.size+2,2,none⟩) sZ _).set (p:=⟨w.heap.size+2,3,none⟩) sZ _⟩
end Go.Proofs.YtimfcikmpllbpaaGreat
