/- Lemmas for the statements of this seat: contracts of functions and the plain laws. -/
import Derived.BigQuiet
import Derived.Deep.AppendLies
import Derived.Deep.DeepCutAuto
import Derived.Deep.RegionHeld3
import Derived.Deep.RegionLaw
import Derived.Maps.AppendAt
import Derived.Test.YtbnnpkcfifejmaaGreatZ03
set_option linter.unusedVariables false
open List renaming take_succ_eq_append_getElem → Zb, replicate → Zc, drop_eq_getElem_cons → Zd, length_append → Ze, all_eq_true → Zf, take_length → Zg, mem_of_mem_take → Zh, getElem?_eq_none → Zi, flatMap_append → Zj, getElem?_toArray → Zk, getElem?_append_right → Zl, getElem?_append_left → Zm, take_append_drop → Zn, length_take → Zo, mem_of_mem_drop → Zp, length_drop → Zq, getElem?_set_self → Zr, getElem?_set_ne → Zs
open Nat renaming zero_le → Zt, succ_mul → Zu, le_trans → Zv, zero_add → Zw, add_zero → Zx, le_succ → Zy
open Bool renaming and_eq_true → Zz
open Go.Value renaming int → Za1, slice → Zb1
open Go.IntWalk renaming i64_in → Zc1
open Go.NoPanic renaming normal → Zd1
open Go.RowKit.Below renaming refl → Ze1
open Go.AllReadyH renaming cons → Zf1, nil → Zg1
open Go.World renaming size_alloc → Zh1, cell?_of_block → Zi1, block_lt_of_cell? → Zj1
open Go renaming bodyPost_ret → Zk1, wp_region_held_drew → Zl1, wp_region_noPanic → Zm1, wpAnyH_done → Zn1, wpAnyH_ready → Zo1, World → Zp1
namespace Go.Proofs.YtbnnpkcfifejmaaGreat
set_option maxHeartbeats 16000000
open Go.RowKit
namespace Ly
def In (t:Ten):Prop:=∀z∈t.c,Fx.In z
def none_:Ten:=⟨[],[]⟩
def got (l:List Ten) (i:Nat):Ten:=l.getD i none_
def tab (n:Nat) (f:Nat->Int):List Int:=(List.range n).map f
def at_ (l:List Int) (i:Nat):Int:=l.getD i 0
def zeros (n:Nat):List Int:=Zc n 0
def side (s:List Int) (i:Nat):Nat:=(at_ s i).toNat
def span (l:List Int):Nat:=(Safe.prod l).toNat
def alike (a b:Ten):Bool:=Tn.right a&&Tn.right b&&decide (a.s=b.s)
def add (a b:Ten):Ten × Int:=if alike a b then (⟨a.s,tab a.c.length λi=>Fx.add (at_ a.c i) (at_ b.c i)⟩,0) else (none_,20)
def cutRows (c:List Int) (row a n:Nat) (k:Nat):List Int:=(List.range k).flatMap λi=>(c.drop (i*row+a)).take n
def cut (x:Ten) (sd frm til:Int):Ten × Int:=
 if Tn.right x then
  if (Od.cut x.s sd frm til).2=0 then
   let inner:=span ((Od.cut x.s sd frm til).1.drop (sd.toNat+1))
   let row:=side x.s sd.toNat * inner
   (⟨(Od.cut x.s sd frm til).1,cutRows x.c row (frm.toNat * inner) ((til.toNat-frm.toNat)*inner) (x.c.length / row)⟩,0)
  else (none_,(Od.cut x.s sd frm til).2)
 else (none_,20)
def of_ (s c:List Int):Ten × Int:=if Tn.right ⟨s,c⟩ then (⟨s,c⟩,0) else (none_,20)
def one:Int:=4294967296
def line (x:Int):Int:=Fx.add (Fx.mul x 1073741824) 2147483648
def cell (kind k x y:Int):Int:=
 if kind=1 then (if x<0 then 0 else x)
 else if kind=2 then (if 0<x then x else Fx.mul x k)
 else if kind=3 then Fx.held x (-4294967296) 4294967296
 else if kind=4 then Fx.held (line x) 0 4294967296
 else if kind=5 then Fx.mul x k
 else if kind=6 then Fx.add x y
 else if kind=7 then Fx.mul x y
 else 0
def slope (kind k x y g:Int):Int × Int:=
 if kind=1 then (if 0<x then (g,0) else (0,0))
 else if kind=2 then (if 0<x then (g,0) else (Fx.mul g k,0))
 else if kind=3 then (if -4294967296<x/\x<4294967296 then (g,0) else (0,0))
 else if kind=4 then (if 0<line x/\line x<4294967296 then (Fx.mul g 1073741824,0) else (0,0))
 else if kind=5 then (Fx.mul g k,0)
 else if kind=6 then (g,g)
 else if kind=7 then (Fx.mul g y,Fx.mul g x)
 else (0,0)
def second (x:List Ten) (i:Nat):Int:=if x.length<2 then 0 else at_ (got x 1).c i
def ptAgree (kind:Int) (x:List Ten):Int:=
 if Od.ptIns kind=0 then 21 else if (x.length:Int)≠Od.ptIns kind then 20 else if x.all (λt=>Tn.right t&&decide (t.s=(got x 0).s)) then 0 else 20
def point (kind k:Int) (x:List Ten):Ten × Int:=
 if ptAgree kind x=0 then (⟨(got x 0).s,tab (got x 0).c.length λi=>cell kind k (at_ (got x 0).c i) (second x i)⟩,0) else (none_,ptAgree kind x)
def slopes (kind k:Int) (x:List Ten) (g:Ten) (i:Nat):Int × Int:=slope kind k (at_ (got x 0).c i) (second x i) (at_ g.c i)
def pointBack (kind k:Int) (g:Ten) (x:List Ten):List Ten × Int:=
 if ptAgree kind x=0 then
  if Tn.right g&&decide (g.s=(got x 0).s) then
   (if x.length<2 then [⟨(got x 0).s,tab (got x 0).c.length λi=>(slopes kind k x g i).1⟩]
    else [⟨(got x 0).s,tab (got x 0).c.length λi=>(slopes kind k x g i).1⟩,⟨(got x 1).s,tab (got x 0).c.length λi=>(slopes kind k x g i).2⟩],0)
  else ([],20)
 else ([],ptAgree kind x)
def denseOk (w b x:Ten):Bool:=Tn.right w&&decide (w.s.length=2)&&Tn.right b&&Tn.right x&&decide (b.s=[at_ w.s 0])&&decide ((x.c.length:Int)=at_ w.s 1)
def rowOf (w:List Int) (n i:Nat):List Int:=(w.drop (i*n)).take n
def dense (w b x:Ten):Ten × Int:=
 if denseOk w b x then (⟨b.s,tab b.c.length λi=>Fx.add (Fx.dot (rowOf w.c x.c.length i) x.c) (at_ b.c i)⟩,0) else (none_,20)
def denseX (w g x:List Int):Nat->List Int
 | 0=>zeros x.length
 | i+1=>tab x.length λj=>Fx.add (at_ (denseX w g x i) j) (Fx.mul (at_ w (i*x.length+j)) (at_ g i))
def denseW (g x:List Int):List Int:=tab (g.length*x.length) λk=>Fx.mul (at_ g (k / x.length)) (at_ x (k % x.length))
def denseBack (w b x g:Ten):(Ten × Ten × Ten) × Int:=
 if denseOk w b x&&Tn.right g&&decide (g.s=b.s) then ((⟨w.s,denseW g.c x.c⟩,g,⟨x.s,denseX w.c g.c x.c g.c.length⟩),0) else ((none_,none_,none_),20)
structure Frame where
 outs:Nat
 ins:Nat
 k0:Nat
 k1:Nat
 i0:Nat
 i1:Nat
 o0:Nat
 o1:Nat
 step:Nat
def last2 (l:List Int):Nat × Nat:=if l.length=1 then (1,side l 0) else (side l 0,side l 1)
def frame (w x out:List Int) (step:Int):Frame:=
 ⟨side w 0,side w 1,(last2 (w.drop 2)).1,(last2 (w.drop 2)).2,(last2 (x.drop 1)).1,(last2 (x.drop 1)).2,(last2 (out.drop 1)).1,(last2 (out.drop 1)).2,step.toNat⟩
structure Touch where
 o:Nat
 w:Nat
 x:Nat
def Frame.rowT (f:Frame) (p i j q t:Nat):List Touch:=
 (List.range f.k1).map λu=>⟨(p*f.o0+i)*f.o1+j,(p*f.ins+q)*(f.k0*f.k1)+t * f.k1+u,q*(f.i0*f.i1)+(i*f.step*f.i1+j*f.step)+t * f.i1+u⟩
def Frame.cellT (f:Frame) (p i j:Nat):List Touch:=(List.range f.ins).flatMap λq=>(List.range f.k0).flatMap λt=>f.rowT p i j q t
def Frame.all (f:Frame):List Touch:=(List.range f.outs).flatMap λp=>(List.range f.o0).flatMap λi=>(List.range f.o1).flatMap λj=>f.cellT p i j
def addAt (l:List Int) (i:Nat) (v:Int):List Int:=l.set i (Fx.add (at_ l i) v)
def convC (w x:List Int) (ts:List Touch) (n:Nat):List Int:=ts.foldl (λo t=>addAt o t.o (Fx.mul (at_ w t.w) (at_ x t.x))) (zeros n)
def convW (g x:List Int) (ts:List Touch) (n:Nat):List Int:=ts.foldl (λo t=>addAt o t.w (Fx.mul (at_ g t.o) (at_ x t.x))) (zeros n)
def convX (g w:List Int) (ts:List Touch) (n:Nat):List Int:=ts.foldl (λo t=>addAt o t.x (Fx.mul (at_ g t.o) (at_ w t.w))) (zeros n)
def convErr (w x:Ten) (step:Int):Int:=if Tn.right w&&Tn.right x then (Od.conv w.s x.s step).2 else 20
def convT (w x:Ten) (step:Int):List Touch:=(frame w.s x.s (Od.conv w.s x.s step).1 step).all
def conv (w x:Ten) (step:Int):Ten × Int:=
 if convErr w x step=0 then (⟨(Od.conv w.s x.s step).1,convC w.c x.c (convT w x step) (span (Od.conv w.s x.s step).1)⟩,0) else (none_,convErr w x step)
def convBack (w x g:Ten) (step:Int):(Ten × Ten) × Int:=
 if convErr w x step=0 then
  if Tn.right g&&decide (g.s=(Od.conv w.s x.s step).1) then
   ((⟨w.s,convW g.c x.c (convT w x step) w.c.length⟩,⟨x.s,convX g.c w.c (convT w x step) x.c.length⟩),0)
  else ((none_,none_),20)
 else ((none_,none_),convErr w x step)
def best (l:List Int):Nat->Int
 | 0=>-1
 | k+1=>if best l k<0∨at_ l (best l k).toNat<at_ l k then k else best l k
def poolErr (x:Ten) (width step:Int):Int:=if Tn.right x then (Od.pool x.s width step).2 else 20
def from_ (sd n step i:Nat):Nat:=i / n*sd+i % n*step
def win (c:List Int) (sd n width step i:Nat):List Int:=(c.drop (from_ sd n step i)).take width
def poolCell (top:Bool) (l:List Int) (width:Int):Int:=if top then at_ l (best l l.length).toNat else Fx.div (Fx.sum l) (width*4294967296)
def qby (s:List Int):Nat:=side s (s.length-1)
def poolS (x:Ten) (width step:Int):List Int:=(Od.pool x.s width step).1
def pool (top:Bool) (x:Ten) (width step:Int):Ten × Int:=
 if poolErr x width step=0 then
  (⟨poolS x width step,tab (span (poolS x width step)) λi=>poolCell top (win x.c (qby x.s) (qby (poolS x width step)) width.toNat step.toNat i) width⟩,0)
 else (none_,poolErr x width step)
def addRow (l:List Int) (a:Nat) (v:Int):Nat->List Int
 | 0=>l
 | j+1=>addAt (addRow l a v j) (a+j) v
def poolStep (top:Bool) (x:List Int) (sd n:Nat) (width:Int) (step:Nat) (acc:List Int) (i:Nat) (v:Int):List Int:=
 if top then addAt acc (from_ sd n step i+(best (win x sd n width.toNat step i) width.toNat).toNat) v
 else addRow acc (from_ sd n step i) (Fx.div v (width*4294967296)) width.toNat
def poolX (top:Bool) (x g:List Int) (sd n:Nat) (width:Int) (step:Nat):Nat->List Int
 | 0=>zeros x.length
 | i+1=>poolStep top x sd n width step (poolX top x g sd n width step i) i (at_ g i)
def poolBack (top:Bool) (x g:Ten) (width step:Int):Ten × Int:=
 if poolErr x width step=0 then
  if Tn.right g&&decide (g.s=poolS x width step) then
   (⟨x.s,poolX top x.c g.c (qby x.s) (qby (poolS x width step)) width step.toNat g.c.length⟩,0)
  else (none_,20)
 else (none_,poolErr x width step)
def joinedS (sd:Int) (s:List Int):List Ten->List Int × Int
 | []=>(s,0)
 | t::r=>if Tn.right t then (if (Od.join s t.s sd).2=0 then joinedS sd (Od.join s t.s sd).1 r else ([],(Od.join s t.s sd).2)) else ([],20)
def joined (sd:Int) (x:List Ten):List Int × Int:=
 match x with
 | []=>([],20)
 | t::r=>if Tn.right t then (if r.length=0/\(sd<0∨(t.s.length:Int)<=sd) then ([],11) else joinedS sd t.s r) else ([],20)
def joinRow (rows:Nat) (i:Nat) (t:Ten):List Int:=(t.c.drop (i*(t.c.length / rows))).take (t.c.length / rows)
def joinC (rows:Nat) (x:List Ten) (k:Nat):List Int:=(List.range k).flatMap λi=>x.flatMap (joinRow rows i)
def join (sd:Int) (x:List Ten):Ten × Int:=
 if (joined sd x).2=0 then
  let rows:=span ((joined sd x).1.take sd.toNat)
  (⟨(joined sd x).1,joinC rows x rows⟩,0)
 else (none_,(joined sd x).2)
def qb0 (sd:Int) (g:Ten) (frm:Int):List Ten->List Ten × Int
 | []=>([],0)
 | t::r=>
  if (cut g sd frm (frm+at_ t.s sd.toNat)).2=0 then
   (if (qb0 sd g (frm+at_ t.s sd.toNat) r).2=0 then ((cut g sd frm (frm+at_ t.s sd.toNat)).1::(qb0 sd g (frm+at_ t.s sd.toNat) r).1,0) else ([],(qb0 sd g (frm+at_ t.s sd.toNat) r).2))
  else ([],(cut g sd frm (frm+at_ t.s sd.toNat)).2)
def joinBack (sd:Int) (g:Ten) (x:List Ten):List Ten × Int:=
 if (joined sd x).2=0 then (if Tn.right g&&decide (g.s=(joined sd x).1) then qb0 sd g 0 x else ([],20)) else ([],(joined sd x).2)
def cutX (n row a part:Nat) (g:List Int):Nat->List Int
 | 0=>zeros n
 | i+1=>splice (cutX n row a part g i) (i*row+a) ((g.drop (i*part)).take part)
def cutBack (x g:Ten) (sd frm til:Int):Ten × Int:=
 if Tn.right x then
  if (Od.cut x.s sd frm til).2=0 then
   if Tn.right g&&decide (g.s=(Od.cut x.s sd frm til).1) then
    let inner:=span ((Od.cut x.s sd frm til).1.drop (sd.toNat+1))
    let row:=side x.s sd.toNat * inner
    (⟨x.s,cutX x.c.length row (frm.toNat * inner) ((til.toNat-frm.toNat)*inner) g.c (x.c.length / row)⟩,0)
   else (none_,20)
  else (none_,(Od.cut x.s sd frm til).2)
 else (none_,20)
def turn (x:Ten) (s:List Int):Ten × Int:=if Tn.right x then of_ s x.c else (none_,20)
def turnBack (x g:Ten):Ten × Int:=if Tn.right x&&Tn.right g then of_ x.s g.c else (none_,20)
def lay (o:OpD) (p x:List Ten):Ten × Int:=
 if o.kind=8 then dense (got p 0) (got p 1) (got x 0)
 else if o.kind=9 then add (got x 0) (got p 0)
 else if o.kind=10 then conv (got p 0) (got x 0) o.step
 else if o.kind=11 then pool true (got x 0) o.width o.step
 else if o.kind=12 then pool false (got x 0) o.width o.step
 else if o.kind=13 then join o.side x
 else if o.kind=14 then cut (got x 0) o.side o.frm o.to
 else if o.kind=15 then turn (got x 0) o.s
 else point o.kind o.k x
def go (o:OpD) (p x:List Ten):Ten × Int:=if Od.counts o p.length x.length=0 then lay o p x else (none_,Od.counts o p.length x.length)
structure Bk where
 p:List Ten
 x:List Ten
def bnone:Bk:=⟨[],[]⟩
def bsingle (r:Ten × Int):Bk × Int:=if r.2=0 then (⟨[],[r.1]⟩,0) else (bnone,r.2)
def bseveral (r:List Ten × Int):Bk × Int:=if r.2=0 then (⟨[],r.1⟩,0) else (bnone,r.2)
def bbias (b x g:Ten):Bk × Int:=
 if (add x b).2=0 then (if Tn.right g&&decide (g.s=(add x b).1.s) then (⟨[g],[g]⟩,0) else (bnone,20)) else (bnone,(add x b).2)
def bturn (x g:Ten) (s:List Int):Bk × Int:=
 if (turn x s).2=0 then (if Tn.right g&&decide (g.s=s) then bsingle (turnBack x g) else (bnone,20)) else (bnone,(turn x s).2)
def layBack (o:OpD) (p x:List Ten) (g:Ten):Bk × Int:=
 if o.kind=8 then (if (denseBack (got p 0) (got p 1) (got x 0) g).2=0 then (⟨[(denseBack (got p 0) (got p 1) (got x 0) g).1.1,(denseBack (got p 0) (got p 1) (got x 0) g).1.2.1],[(denseBack (got p 0) (got p 1) (got x 0) g).1.2.2]⟩,0) else (bnone,(denseBack (got p 0) (got p 1) (got x 0) g).2))
 else if o.kind=9 then bbias (got p 0) (got x 0) g
 else if o.kind=10 then (if (convBack (got p 0) (got x 0) g o.step).2=0 then (⟨[(convBack (got p 0) (got x 0) g o.step).1.1],[(convBack (got p 0) (got x 0) g o.step).1.2]⟩,0) else (bnone,(convBack (got p 0) (got x 0) g o.step).2))
 else if o.kind=11 then bsingle (poolBack true (got x 0) g o.width o.step)
 else if o.kind=12 then bsingle (poolBack false (got x 0) g o.width o.step)
 else if o.kind=13 then bseveral (joinBack o.side g x)
 else if o.kind=14 then bsingle (cutBack (got x 0) g o.side o.frm o.to)
 else if o.kind=15 then bturn (got x 0) g o.s
 else bseveral (pointBack o.kind o.k g x)
def back (o:OpD) (p x:List Ten) (g:Ten):Bk × Int:=if Od.counts o p.length x.length=0 then layBack o p x g else (bnone,Od.counts o p.length x.length)
end Ly
def Tens (w:Zp1) (A:Option Addr) (ts:List Ten):Prop:=
 ∀j (hj:j<ts.length),∃b off S c C d,A=some ⟨b,off,none⟩/\b<w.heap.size/\w.cell? ⟨b,off+j*2,none⟩=some (.slice S ts[j].s.length c)/\w.cell? ⟨b,off+j*2+1,none⟩=some (.slice C ts[j].c.length d)/\TenR w S C ts[j]/\ts[j].s.length<=9223372036854775807/\ts[j].c.length<=9223372036854775807
theorem TenR.below {B:Nat} {w w':Zp1} {S C:Option Addr} {t:Ten} (h:TenR w S C t) (hb:Below B w w') (hB:w.heap.size<=B):TenR w' S C t:=⟨h.1.below hb hB,h.2.below hb hB⟩
theorem TenR.drew {w:Zp1} {S C:Option Addr} {t:Ten} (h:TenR w S C t):TenR w.drew S C t:=h
theorem Tens.below {B:Nat} {w w':Zp1} {A:Option Addr} {ts:List Ten} (h:Tens w A ts) (hb:Below B w w') (hB:w.heap.size<=B):Tens w' A ts:=λj hj=>by
 obtain ⟨b,off,S,c,C,d,e,hl,c0,c1,hT,h2⟩:=h j hj;exact ⟨b,off,S,c,C,d,e,ltZ hl hb.size,(hb.cell (p:=⟨b,off+j*2,none⟩) (ltZ hl hB)).trans c0,(hb.cell (p:=⟨b,off+j*2+1,none⟩) (ltZ hl hB)).trans c1,hT.below hb hB,h2⟩
theorem qdq {α:Type} {p:α->Bool} {l:List α} {k:Nat} (hk:k<l.length) (h:(l.take k).all p=true) (hp:p l[k]=true):(l.take (k+1)).all p=true:=by
 rw [Zb hk,List.all_append,h];simp [hp]
theorem qe2 {α:Type} {p:α->Bool} {l:List α} {k:Nat} (hk:k<l.length) (hp:p l[k]=false):l.all p=false:=by
 rw [List.all_eq_false];exact ⟨l[k],gmZ hk,by simp [hp]⟩
namespace Tn
def alike (a b:List Ten):Bool:=decide (a.length=b.length)&&a.all right&&b.all right&&(a.map (·.s)==b.map (·.s))
theorem alike_a {a b:List Ten} (h:a.all right=false):alike a b=false:=by simp [alike,h]
theorem alike_b {a b:List Ten} (h:b.all right=false):alike a b=false:=by simp [alike,h]
theorem right_len {t:Ten} (h:right t=true):t.s.length<=4/\1<=t.s.length/\t.c.length<=65536:=by
 simp [right] at h;obtain ⟨_,h1,h2,_,_,h3⟩:=Sh.right_mul h.1;omega
end Tn
namespace Tn
def small (a:List Ten):Prop:=∀t∈a,t.s.length<=1000000/\t.c.length<=1000000
end Tn
theorem kinds7 {k:Int} (h1:1<=k) (h7:k<=7):k=1∨k=2∨k=3∨k=4∨k=5∨k=6∨k=7:=by omega
theorem qbt (x:Int) (w:Zp1) (hx:Fx.In x):Calls Tryz.prog 121 #[.int .i64 x] w λe w'=>e=.returned (.int .i64 (Ly.line x))/\w=w':=by
 have Hx:=zI hx;clear hx;go_enter Tryz.func121,Tryz.ntmps121;go_wp2_with fail;refine (qaA x 1073741824 _ Hx.out (by unfold Fx.In;omega)).mono ?_;rintro e w1 ⟨rfl,rfl⟩;go_wp2_with fail;refine (qaM (Fx.mul x 1073741824) 2147483648 _ (Fx.mul_in _ _) (by unfold Fx.In;omega)).mono ?_;rintro e w1 ⟨rfl,rfl⟩;go_wp2_with fail;go_ret;exact ⟨rfl,rfl⟩
namespace Ly
theorem cell_in {kind k x y:Int} (hx:Fx.In x):Fx.In (cell kind k x y):=by
 unfold cell;have o1:Fx.In 4294967296:=by unfold Fx.In;omega
 have o2:Fx.In (-4294967296):=by unfold Fx.In;omega
 repeat' split
 all_goals first|exact hx|exact Fx.in_zero|exact Fx.mul_in _ _|exact Fx.add_in _ _|exact Fx.held_in hx o2 o1|exact Fx.held_in (Fx.add_in _ _) Fx.in_zero o1
theorem slope_in {kind k x y g:Int} (hg:Fx.In g):Fx.In (slope kind k x y g).1/\Fx.In (slope kind k x y g).2:=by
 unfold slope
 repeat' split
 all_goals refine ⟨?_,?_⟩
 all_goals first|exact hg|exact Fx.in_zero|exact Fx.mul_in _ _
theorem cell1 (k x y:Int):cell 1 k x y=if x<0 then 0 else x:=by unfold cell;rw [ipZ dZ]
theorem cell2 (k x y:Int):cell 2 k x y=if 0<x then x else Fx.mul x k:=by unfold cell;rw [inZ dZ];rw [ipZ dZ]
theorem cell3 (k x y:Int):cell 3 k x y=Fx.held x (-4294967296) 4294967296:=by unfold cell;rw [inZ dZ];rw [inZ dZ];rw [ipZ dZ]
theorem cell4 (k x y:Int):cell 4 k x y=Fx.held (line x) 0 4294967296:=by unfold cell;rw [inZ dZ];rw [inZ dZ];rw [inZ dZ];rw [ipZ dZ]
theorem cell5 (k x y:Int):cell 5 k x y=Fx.mul x k:=by unfold cell;rw [inZ dZ];rw [inZ dZ];rw [inZ dZ];rw [inZ dZ];rw [ipZ dZ]
theorem cell6 (k x y:Int):cell 6 k x y=Fx.add x y:=by unfold cell;rw [inZ dZ];rw [inZ dZ];rw [inZ dZ];rw [inZ dZ];rw [inZ dZ];rw [ipZ dZ]
theorem cell7 (k x y:Int):cell 7 k x y=Fx.mul x y:=by unfold cell;rw [inZ dZ];rw [inZ dZ];rw [inZ dZ];rw [inZ dZ];rw [inZ dZ];rw [inZ dZ];rw [ipZ dZ]
theorem slope1 (k x y g:Int):slope 1 k x y g=if 0<x then (g,0) else (0,0):=by unfold slope;rw [ipZ dZ]
theorem slope2 (k x y g:Int):slope 2 k x y g=if 0<x then (g,0) else (Fx.mul g k,0):=by unfold slope;rw [inZ dZ];rw [ipZ dZ]
theorem slope3 (k x y g:Int):slope 3 k x y g=if -4294967296<x/\x<4294967296 then (g,0) else (0,0):=by unfold slope;rw [inZ dZ];rw [inZ dZ];rw [ipZ dZ]
theorem slope4 (k x y g:Int):slope 4 k x y g=if 0<line x/\line x<4294967296 then (Fx.mul g 1073741824,0) else (0,0):=by unfold slope;rw [inZ dZ];rw [inZ dZ];rw [inZ dZ];rw [ipZ dZ]
theorem slope5 (k x y g:Int):slope 5 k x y g=(Fx.mul g k,0):=by unfold slope;rw [inZ dZ];rw [inZ dZ];rw [inZ dZ];rw [inZ dZ];rw [ipZ dZ]
theorem slope6 (k x y g:Int):slope 6 k x y g=(g,g):=by unfold slope;rw [inZ dZ];rw [inZ dZ];rw [inZ dZ];rw [inZ dZ];rw [inZ dZ];rw [ipZ dZ]
theorem slope7 (k x y g:Int):slope 7 k x y g=(Fx.mul g y,Fx.mul g x):=by unfold slope;rw [inZ dZ];rw [inZ dZ];rw [inZ dZ];rw [inZ dZ];rw [inZ dZ];rw [inZ dZ];rw [ipZ dZ]
end Ly
theorem qff (kind k x y:Int) (w:Zp1) (h1:1<=kind) (h7:kind<=7) (hk:Fx.In k) (hx:Fx.In x) (hy:Fx.In y):
  Calls Tryz.prog 144 #[.int .i64 kind,.int .i64 k,.int .i64 x,.int .i64 y] w λe w'=>e=.returned (.int .i64 (Ly.cell kind k x y))/\w=w':=by
 obtain ⟨Hk,Hx,Hy⟩:=zd3 hk hx hy;clear hk hx hy;rcases kinds7 h1 h7 with rfl|rfl|rfl|rfl|rfl|rfl|rfl
 all_goals clear h1 h7
 ·by_cases h:x<0
  ·have hm:=zI (show Ly.cell 1 k x y=0 by rw [Ly.cell1,ipZ h])
   have d1:decide (x<0)=true:=by simpa using h
   have d2:decide (0<x)=false:=by simp;omega
   have d3:decide (x<=0)=true:=by simp;omega
   have d4:decide (0<=x)=false:=by simp;omega
   go_enter Tryz.func144,Tryz.ntmps144;go_wp2_with fail;go_ret;exact ⟨by (rw [hm.out]<;>simp<;>omega),rfl⟩
  ·have hm:=zI (show Ly.cell 1 k x y=x by rw [Ly.cell1,inZ h])
   have d1:decide (x<0)=false:=by simpa using h
   have d4:decide (0<=x)=true:=by simp;omega
   go_enter Tryz.func144,Tryz.ntmps144;go_wp2_with fail;go_ret;exact ⟨by (rw [hm.out]<;>simp<;>omega),rfl⟩
 ·by_cases h:0<x
  ·have hm:=zI (show x=Ly.cell 2 k x y by rw [Ly.cell2,ipZ h])
   go_enter Tryz.func144,Tryz.ntmps144;go_wp2_with fail;go_ret;exact ⟨qaa hm.out,rfl⟩
  ·have hm:=zI (show Fx.mul x k=Ly.cell 2 k x y by rw [Ly.cell2,inZ h])
   go_enter Tryz.func144,Tryz.ntmps144;go_wp2_with fail;refine (qaA x k _ Hx.out Hk.out).mono ?_;rintro e w1 ⟨rfl,rfl⟩;go_wp2_with fail;go_ret;exact ⟨qaa hm.out,rfl⟩
 ·go_enter Tryz.func144,Tryz.ntmps144
  go_wp2_with fail;refine (qb5 _).mono ?_;rintro e w1 ⟨rfl,rfl⟩;go_wp2_with fail;refine (qe0 _ _ _ _).mono ?_;rintro e w1 ⟨rfl,rfl⟩;go_wp2_with fail;go_ret;exact ⟨qaa (Ly.cell3 k x y).symm,rfl⟩
 ·go_enter Tryz.func144,Tryz.ntmps144
  go_wp2_with fail;refine (qbt x _ Hx.out).mono ?_;rintro e w1 ⟨rfl,rfl⟩;go_wp2_with fail;refine (qe0 _ _ _ _).mono ?_;rintro e w1 ⟨rfl,rfl⟩;go_wp2_with fail;go_ret;exact ⟨qaa (Ly.cell4 k x y).symm,rfl⟩
 ·go_enter Tryz.func144,Tryz.ntmps144
  go_wp2_with fail;refine (qaA x k _ Hx.out Hk.out).mono ?_;rintro e w1 ⟨rfl,rfl⟩;go_wp2_with fail;go_ret;exact ⟨qaa (Ly.cell5 k x y).symm,rfl⟩
 ·go_enter Tryz.func144,Tryz.ntmps144
  go_wp2_with fail;refine (qaM x y _ Hx.out Hy.out).mono ?_;rintro e w1 ⟨rfl,rfl⟩;go_wp2_with fail;go_ret;exact ⟨qaa (Ly.cell6 k x y).symm,rfl⟩
 ·go_enter Tryz.func144,Tryz.ntmps144
  go_wp2_with fail;refine (qaA x y _ Hx.out Hy.out).mono ?_;rintro e w1 ⟨rfl,rfl⟩;go_wp2_with fail;go_ret;exact ⟨qaa (Ly.cell7 k x y).symm,rfl⟩
theorem qaw {a b a' b':Int} (h:(a,b)=(a',b')):Ending.returned (.tuple #[.int .i64 a,.int .i64 b])=.returned (.tuple #[.int .i64 a',.int .i64 b']):=by injection h with h1 h2;rw [h1,h2]
theorem qcD (kind k x y g:Int) (w:Zp1) (h1:1<=kind) (h7:kind<=7) (hk:Fx.In k) (hx:Fx.In x) (hy:Fx.In y) (hg:Fx.In g):
  Calls Tryz.prog 67 #[.int .i64 kind,.int .i64 k,.int .i64 x,.int .i64 y,.int .i64 g] w λe w'=>e=.returned (.tuple #[.int .i64 (Ly.slope kind k x y g).1,.int .i64 (Ly.slope kind k x y g).2])/\w=w':=by
 obtain ⟨Hk,Hx,Hy,Hg⟩:=zd4 hk hx hy hg;clear hk hx hy hg;rcases kinds7 h1 h7 with rfl|rfl|rfl|rfl|rfl|rfl|rfl
 all_goals clear h1 h7
 ·by_cases h:0<x
  ·have hm:=zI (show (g,0)=Ly.slope 1 k x y g by rw [Ly.slope1,ipZ h])
   go_enter Tryz.func67,Tryz.ntmps67;go_wp2_with fail
   go_ret2
   exact ⟨qaw hm.out,rfl⟩
  ·have hm:=zI (show (0,0)=Ly.slope 1 k x y g by rw [Ly.slope1,inZ h])
   go_enter Tryz.func67,Tryz.ntmps67;go_wp2_with fail
   go_ret2
   exact ⟨qaw hm.out,rfl⟩
 ·by_cases h:0<x
  ·have hm:=zI (show (g,0)=Ly.slope 2 k x y g by rw [Ly.slope2,ipZ h])
   go_enter Tryz.func67,Tryz.ntmps67;go_wp2_with fail
   go_ret2
   exact ⟨qaw hm.out,rfl⟩
  ·have hm:=zI (show (Fx.mul g k,0)=Ly.slope 2 k x y g by rw [Ly.slope2,inZ h])
   go_enter Tryz.func67,Tryz.ntmps67;go_wp2_with fail;refine (qaA g k _ Hg.out Hk.out).mono ?_;rintro e w1 ⟨rfl,rfl⟩;go_wp2_with fail
   go_ret2
   exact ⟨qaw hm.out,rfl⟩
 ·by_cases h : -4294967296<x
  ·by_cases h2:x<4294967296
   ·have hm:=zI (show (g,0)=Ly.slope 3 k x y g by rw [Ly.slope3,ipZ ⟨h,h2⟩])
    go_enter Tryz.func67,Tryz.ntmps67;go_wp2_with fail;refine (qb5 _).mono ?_;rintro e w1 ⟨rfl,rfl⟩;go_wp2_with fail
    go_ret2
    exact ⟨qaw hm.out,rfl⟩
   ·have hm:=zI (show (0,0)=Ly.slope 3 k x y g by rw [Ly.slope3,inZ (λk=>h2 k.2)])
    go_enter Tryz.func67,Tryz.ntmps67;go_wp2_with fail;refine (qb5 _).mono ?_;rintro e w1 ⟨rfl,rfl⟩;go_wp2_with fail
    go_ret2
    exact ⟨qaw hm.out,rfl⟩
  ·have hm:=zI (show (0,0)=Ly.slope 3 k x y g by rw [Ly.slope3,inZ (λk=>h k.1)])
   go_enter Tryz.func67,Tryz.ntmps67;go_wp2_with fail;refine (qb5 _).mono ?_;rintro e w1 ⟨rfl,rfl⟩;go_wp2_with fail
   go_ret2
   exact ⟨qaw hm.out,rfl⟩
 ·by_cases h:0<Ly.line x
  ·by_cases h2:Ly.line x<4294967296
   ·have hm:=zI (show (Fx.mul g 1073741824,0)=Ly.slope 4 k x y g by rw [Ly.slope4,ipZ ⟨h,h2⟩])
    go_enter Tryz.func67,Tryz.ntmps67;go_wp2_with fail;refine (qbt x _ Hx.out).mono ?_;rintro e w1 ⟨rfl,rfl⟩;go_wp2_with fail;refine (qaA g 1073741824 _ Hg.out (by unfold Fx.In;omega)).mono ?_;rintro e w1 ⟨rfl,rfl⟩;go_wp2_with fail
    go_ret2
    exact ⟨qaw hm.out,rfl⟩
   ·have hm:=zI (show (0,0)=Ly.slope 4 k x y g by rw [Ly.slope4,inZ (λk=>h2 k.2)])
    go_enter Tryz.func67,Tryz.ntmps67;go_wp2_with fail;refine (qbt x _ Hx.out).mono ?_;rintro e w1 ⟨rfl,rfl⟩;go_wp2_with fail
    go_ret2
    exact ⟨qaw hm.out,rfl⟩
  ·have hm:=zI (show (0,0)=Ly.slope 4 k x y g by rw [Ly.slope4,inZ (λk=>h k.1)])
   go_enter Tryz.func67,Tryz.ntmps67;go_wp2_with fail;refine (qbt x _ Hx.out).mono ?_;rintro e w1 ⟨rfl,rfl⟩;go_wp2_with fail
   go_ret2
   exact ⟨qaw hm.out,rfl⟩
 ·go_enter Tryz.func67,Tryz.ntmps67
  go_wp2_with fail;refine (qaA g k _ Hg.out Hk.out).mono ?_;rintro e w1 ⟨rfl,rfl⟩;go_wp2_with fail
  go_ret2
  exact ⟨qaw (Ly.slope5 k x y g).symm,rfl⟩
 ·go_enter Tryz.func67,Tryz.ntmps67
  go_wp2_with fail
  go_ret2
  exact ⟨qaw (Ly.slope6 k x y g).symm,rfl⟩
 ·go_enter Tryz.func67,Tryz.ntmps67
  go_wp2_with fail;refine (qaA g y _ Hg.out Hy.out).mono ?_;rintro e w1 ⟨rfl,rfl⟩;go_wp2_with fail;refine (qaA g x _ Hg.out Hx.out).mono ?_;rintro e w1 ⟨rfl,rfl⟩;go_wp2_with fail
  go_ret2
  exact ⟨qaw (Ly.slope7 k x y g).symm,rfl⟩
structure TenIn (w:Zp1) (S C:Option Addr) (c d:Nat) (t:Ten):Prop where
 r:TenR w S C t
 s1:t.s.length<=c
 s2:c<=9223372036854775807
 c1:t.c.length<=d
 c2:d<=9223372036854775807
 l1:t.s.length<=1048576
 l2:t.c.length<=1048576
 num:Ly.In t
theorem TenIn.below {B:Nat} {w w':Zp1} {S C:Option Addr} {c d:Nat} {t:Ten} (h:TenIn w S C c d t) (hb:Below B w w') (hB:w.heap.size<=B):TenIn w' S C c d t:={ h with r:=h.r.below hb hB }
theorem TenIn.later {w w':Zp1} {S C:Option Addr} {c d:Nat} {t:Ten} (h:TenIn w S C c d t) (hb:Later w w'):TenIn w' S C c d t:=h.below hb (lrZ _)
theorem TenIn.cell {w:Zp1} {S C:Option Addr} {c d:Nat} {t:Ten} (h:TenIn w S C c d t) {k:Nat} (hk:k<t.c.length):∃b off,C=some ⟨b,off,none⟩/\b<w.heap.size/\w.cell? ⟨b,off+k,none⟩=some (.int .i64 (Ly.at_ t.c k)):=h.r.2 k hk
def Tns (w:Zp1) (A:Option Addr) (ts:List Ten):Prop:=
 ∀j (hj:j<ts.length),∃b off S c C d,A=some ⟨b,off,none⟩/\b<w.heap.size/\w.cell? ⟨b,off+j*2,none⟩=some (.slice S ts[j].s.length c)/\w.cell? ⟨b,off+j*2+1,none⟩=some (.slice C ts[j].c.length d)/\TenIn w S C c d ts[j]
theorem Tns.below {B:Nat} {w w':Zp1} {A:Option Addr} {ts:List Ten} (h:Tns w A ts) (hb:Below B w w') (hB:w.heap.size<=B):Tns w' A ts:=λj hj=>by
 obtain ⟨b,off,S,c,C,d,e,hl,c0,c1,hT⟩:=h j hj;exact ⟨b,off,S,c,C,d,e,ltZ hl hb.size,(hb.cell (p:=⟨b,off+j*2,none⟩) (ltZ hl hB)).trans c0,(hb.cell (p:=⟨b,off+j*2+1,none⟩) (ltZ hl hB)).trans c1,hT.below hb hB⟩
theorem Tns.later {w w':Zp1} {A:Option Addr} {ts:List Ten} (h:Tns w A ts) (hb:Later w w'):Tns w' A ts:=h.below hb (lrZ _)
theorem qan {l:List Ten} {k:Nat} (h:k<l.length):Ly.got l k=l[k]:=by unfold Ly.got;rw [gdZ,geZ h];rfl
theorem Tns.at_ {w:Zp1} {A:Option Addr} {ts:List Ten} (h:Tns w A ts) {j:Nat} (hj:j<ts.length):
  ∃b off S c C d,A=some ⟨b,off,none⟩/\b<w.heap.size/\w.cell? ⟨b,off+j*2,none⟩=some (.slice S (Ly.got ts j).s.length c)/\w.cell? ⟨b,off+j*2+1,none⟩=some (.slice C (Ly.got ts j).c.length d)/\TenIn w S C c d (Ly.got ts j):=by
 rw [qan hj];exact h j hj
theorem Tns.first {w:Zp1} {A:Option Addr} {ts:List Ten} (h:Tns w A ts) (hj:0<ts.length):
  ∃b off S c C d,A=some ⟨b,off,none⟩/\b<w.heap.size/\w.cell? ⟨b,off,none⟩=some (.slice S (Ly.got ts 0).s.length c)/\w.cell? ⟨b,off+1,none⟩=some (.slice C (Ly.got ts 0).c.length d)/\TenIn w S C c d (Ly.got ts 0):=by
 obtain ⟨b,off,S,c,C,d,h1,h2,h3,h4,h5⟩:=h.at_ hj;exact ⟨b,off,S,c,C,d,h1,h2,by simpa using h3,by simpa using h4,h5⟩
def TenO (B:Nat) (w:Zp1) (v:Value) (t:Ten):Prop:=
 ∃S c C d,v=.agg #[.slice S t.s.length c,.slice C t.c.length d]/\TenIn w S C c d t/\(∀a,S=some a->B<=a.block)/\(∀a,C=some a->B<=a.block/\a.block<w.heap.size/\∀j,w.frozen? ⟨a.block,j,none⟩=false)
theorem TenO.later {B:Nat} {w w':Zp1} {v:Value} {t:Ten} (h:TenO B w v t) (hb:Later w w'):TenO B w' v t:=by
 obtain ⟨S,c,C,d,h1,h2,h3,h4⟩:=h;refine ⟨S,c,C,d,h1,h2.later hb,h3,λa e=>?_⟩;obtain ⟨k1,k2,k3⟩:=h4 a e;exact ⟨k1,ltZ k2 hb.size,λj=>(Below.frozen hb (p:=⟨a.block,j,none⟩) k2).trans (k3 j)⟩
theorem TenO.base {B B':Nat} {w:Zp1} {v:Value} {t:Ten} (h:TenO B w v t) (hB:B'<=B):TenO B' w v t:=by
 obtain ⟨S,c,C,d,h1,h2,h3,h4⟩:=h;exact ⟨S,c,C,d,h1,h2,λa e=>Zv hB (h3 a e),λa e=>⟨Zv hB (h4 a e).1,(h4 a e).2⟩⟩
theorem TenN.o {B:Nat} {w:Zp1} {v:Value} {t:Ten} (h:TenN B w v t) (h1:t.s.length<=1048576) (h2:t.c.length<=1048576) (hn:Ly.In t):TenO B w v t:=by
 obtain ⟨g,i,rfl,hg,hi,kg,ki⟩:=h;refine ⟨_,_,_,_,rfl,⟨⟨kg.ints,ki.ints⟩,lrZ _,by omega,lrZ _,by omega,h1,h2,hn⟩,λa e=>?_,λa e=>?_⟩
 ·injection e with e;subst e;exact hg
 ·injection e with e;subst e;exact ⟨hi,ki.lt,λj=>ki.frozen j⟩
theorem Blk.intsL {w:Zp1} {g:Nat} {t:TypeId} (l:List Int) (h:Blk w g t (l.map (Za1 .i64)).toArray):Ints .i64 w (some ⟨g,0,none⟩) l:=Ints.of_row λj hj=>by
 rw [Zw,h.cell];simp [hj]
theorem qa0 {w:Zp1} {p q:Addr} {u v:Value} (h:w.cell? q=some v) (hne:q.block≠p.block):(w.setCell p u).cell? q=some v:=(Zi1 (Below.heap_setCell w p u q.block hne)).trans h
theorem qcE {w:Zp1} {p b:Nat} (hne:b≠p) (u u2:Value):((w.setCell ⟨p,0,none⟩ u).setCell ⟨p,1,none⟩ u2).heap[b]? = w.heap[b]?:=
 (Below.heap_setCell _ ⟨p,1,none⟩ u2 b hne).trans (Below.heap_setCell w ⟨p,0,none⟩ u b hne)
theorem Ints.box {w:Zp1} {A:Option Addr} {zs:List Int} {p:Nat} {T:TypeId} (h:Ints .i64 w A zs) (hz:Blk w p T #[.slice none 0 0,.slice none 0 0]) (u u2:Value):Ints .i64 ((w.setCell ⟨p,0,none⟩ u).setCell ⟨p,1,none⟩ u2) A zs:=λj hj=>by
 obtain ⟨b,off,e,hl,hc⟩:=h j hj
 have ha:b≠p:=by
  rintro rfl;rw [hz.cell] at hc
  match h:off+j with
  | 0=>rw [h] at hc;simp at hc
  | 1=>rw [h] at hc;simp at hc
  | n+2=>rw [h] at hc;simp at hc
 exact ⟨b,off,e,by simpa using hl,(Zi1 (qcE ha u u2)).trans hc⟩
theorem TenO.box {B:Nat} {w:Zp1} {v u u2:Value} {t:Ten} {p:Nat} {T:TypeId} (h:TenO B w v t) (hz:Blk w p T #[.slice none 0 0,.slice none 0 0]):TenO B ((w.setCell ⟨p,0,none⟩ u).setCell ⟨p,1,none⟩ u2) v t:=by
 obtain ⟨S,c,C,d,h1,h2,h3,h4⟩:=h;refine ⟨S,c,C,d,h1,{ h2 with r:=⟨h2.r.1.box hz u u2,h2.r.2.box hz u u2⟩ },h3,λa e=>?_⟩;obtain ⟨k1,k2,k3⟩:=h4 a e;exact ⟨k1,by simpa using k2,λj=>by rw [World.frozen?_setCell,World.frozen?_setCell];exact k3 j⟩
def GoP (r:Ten × Int) (w:Zp1) (e:Ending) (w':Zp1):Prop:=
 (r.2≠0/\e=.returned (.tuple #[.agg #[.slice none 0 0,.slice none 0 0],.int .i64 r.2])∨r.2=0/\∃v,e=.returned (.tuple #[v,.int .i64 0])/\TenO w.heap.size w' v r.1)/\Below w.heap.size w w'
theorem GoP.fail {n:Int} {r:Ten × Int} {w w':Zp1} (hr:r=(Ly.none_,n)) (hn:n≠0) (hb:Below w.heap.size w w'):GoP r w (.returned (.tuple #[.agg #[.slice none 0 0,.slice none 0 0],.int .i64 n])) w':=by
 subst hr;exact ⟨.inl ⟨hn,rfl⟩,hb⟩
theorem GoP.fail2 {n:Int} {r:Ten × Int} {w w':Zp1} (hr:r.2=n) (hn:n≠0) (hb:Below w.heap.size w w'):GoP r w (.returned (.tuple #[.agg #[.slice none 0 0,.slice none 0 0],.int .i64 n])) w':=by
 subst hr;exact ⟨.inl ⟨hn,rfl⟩,hb⟩
theorem GoP.ok {t:Ten} {r:Ten × Int} {v:Value} {w w':Zp1} (hr:r=(t,0)) (hv:TenO w.heap.size w' v t) (hb:Below w.heap.size w w'):GoP r w (.returned (.tuple #[v,.int .i64 0])) w':=by
 subst hr;exact ⟨.inr ⟨rfl,v,rfl,hv⟩,hb⟩
theorem GoP.from_ {r:Ten × Int} {w w1 w':Zp1} {e:Ending} (h:GoP r w1 e w') (hb:Below w.heap.size w w1):GoP r w e w':=by
 refine ⟨?_,hb.trans (h.2.mono hb.size)⟩;rcases h.1 with h1|⟨h1,v,h2,h3⟩
 ·exact .inl h1
 ·exact .inr ⟨h1,v,h2,h3.base hb.size⟩
namespace Ly
theorem tab_len (n:Nat) (f:Nat->Int):(tab n f).length=n:=by simp [tab]
theorem tab_get {n:Nat} {f:Nat->Int} {k:Nat} (hk:k<(tab n f).length):(tab n f)[k]=f k:=by simp [tab]
theorem tab_in {n:Nat} {f:Nat->Int} (h:∀i,i<n->Fx.In (f i)):∀z∈tab n f,Fx.In z:=λz hz=>by
 unfold tab at hz;obtain ⟨i,hi,rfl⟩:=List.mem_map.1 hz;exact h i (List.mem_range.1 hi)
theorem at_in {l:List Int} (h:∀z∈l,Fx.In z) (i:Nat):Fx.In (at_ l i):=by
 unfold at_;rw [gdZ];rcases Nat.lt_or_ge i l.length with hi|hi
 ·rw [geZ hi];exact h _ (gmZ hi)
 ·rw [Zi hi];exact Fx.in_zero
theorem at_get {l:List Int} {i:Nat} (hi:i<l.length):at_ l i=l[i]:=by unfold at_;rw [gdZ,geZ hi];rfl
theorem got_in {l:List Ten} (h:∀t∈l,In t) (i:Nat):In (got l i):=by
 unfold got;rw [gdZ];rcases Nat.lt_or_ge i l.length with hi|hi
 ·rw [geZ hi];exact h _ (gmZ hi)
 ·rw [Zi hi];intro z hz;simp [none_] at hz
theorem mid_step (C L:List Int) {k:Nat} (hk:k<C.length) (hn:C.length=L.length):(C.take k++L.drop k).set k C[k]=C.take (k+1)++L.drop (k+1):=by
 have h1:(C.take k).length=k:=by simp;omega
 rw [List.set_append_right _ _ oZ,h1,Nat.sub_self,Zd oZ,List.set_cons_zero,Zb hk,List.append_assoc]
 rfl
theorem mid_len (C L:List Int) (k:Nat) (hk:k<=C.length) (hn:C.length=L.length):(C.take k++L.drop k).length=C.length:=by simp;omega
theorem mid_end (C L:List Int) (k:Nat) (hk:k=C.length) (hn:C.length=L.length):C.take k++L.drop k=C:=by subst hk;rw [Zg,hn,List.drop_length,List.append_nil]
end Ly
theorem Tns.in_ {w:Zp1} {A:Option Addr} {ts:List Ten} (h:Tns w A ts):∀t∈ts,Ly.In t:=λt ht=>by
 obtain ⟨j,hj,rfl⟩:=List.getElem_of_mem ht;obtain ⟨b,off,S,c,C,d,h1,h2,h3,h4,h5⟩:=h j hj;exact h5.num
theorem Lau {w w1:Zp1} (h:Later w w1:=by with_reducible repeat (first|exact Later.refl _|apply Later.drew|apply Later.drewN|apply Later.alloc|refine Later.call ?_ (by assumption))):Later w w1:=h
theorem ga {α:Type} {xs:List α} {i:Nat} (h:i<xs.toArray.size):xs.toArray[i]=xs[i]:=List.getElem_toArray h
theorem gs {α:Type} (a:α) (al:List α) (i:Nat) (h:i+1<(a::al).length):(a::al)[i+1]=al[i]'(by simpa using h):=List.getElem_cons_succ ..
theorem gz {α:Type} (a:α) (al:List α) (h:0<(a::al).length):(a::al)[0]=a:=List.getElem_cons_zero ..
theorem sa {α:Type} (l:List α) (i:Nat) (a:α):l.toArray.setIfInBounds i a=(l.set i a).toArray:=List.setIfInBounds_toArray ..
theorem sz {α:Type} {x:α} {xs:List α} {a:α}:(x::xs).set 0 a=a::xs:=List.set_cons_zero
theorem ss {α:Type} {x:α} {xs:List α} {i:Nat} {a:α}:(x::xs).set (i+1) a=x::xs.set i a:=List.set_cons_succ
section
variable {P:Program} {ops:Array Oper} {Q:Exit->Act->Zp1->Prop} {md:Region.Mode} {S:Zp1->Prop} {fuel:Nat} {listed:Array Bool} {a:Act} {w:Zp1}
theorem tk (i:Nat) {oi:Oper} {v:Value} {a2:Act} (h:wpAnyH P md ops Q S fuel (listed.setIfInBounds i true) a2 w)
  (hi:ops[i]? = some oi:=by rfl) (hs:Region.noSelect ops=true:=by kernel_rfl) (hf:Region.free md ops listed i=true:=by kernel_rfl) (hr:(Region.ready md ops listed).contains i=true:=by kernel_rfl)
  (hg:Region.wanted oi (yielded ops a.tmps)=true:=by rfl)
  (hy:∀w,S w->(execOp a.eval oi).run P w=.ok (.value v) w:=by (simp only [List.getElem_toArray,List.getElem_cons_succ,List.getElem_cons_zero];intro w hb;(try dsimp only at hb);go_simp;first|done|with_reducible rfl))
  (hS:S w:=by assumption)
  (ha:a.put oi.dst v=a2:=by ((try simp only [List.getElem_toArray,List.getElem_cons_succ,List.getElem_cons_zero,Act.put,List.setIfInBounds_toArray,List.set_cons_zero,List.set_cons_succ])<;>rfl))
  (hQ:∀c a w,Q (.panic c) (a.put oi.dst v) w->Q (.panic c) a w:=by exact λ_ _ _ h=>h):wpAnyH P md ops Q S (fuel+1) listed a w:=
 wpAnyH_take hi hs hf hr hQ (.inl ⟨hg,hy⟩) hS (ha▸h)
theorem tn (i:Nat) {oi:Oper} {a2:Act} (h:wpAnyH P md ops Q S fuel (listed.setIfInBounds i true) a2 w)
  (hi:ops[i]? = some oi:=by rfl) (hs:Region.noSelect ops=true:=by kernel_rfl) (hf:Region.free md ops listed i=true:=by kernel_rfl) (hr:(Region.ready md ops listed).contains i=true:=by kernel_rfl)
  (hg:Region.wanted oi (yielded ops a.tmps)=false:=by rfl)
  (hS:S w:=by assumption)
  (ha:a.put oi.dst undef=a2:=by ((try simp only [List.getElem_toArray,List.getElem_cons_succ,List.getElem_cons_zero,Act.put,List.setIfInBounds_toArray,List.set_cons_zero,List.set_cons_succ])<;>rfl))
  (hQ:∀c a w,Q (.panic c) (a.put oi.dst undef) w->Q (.panic c) a w:=by exact λ_ _ _ h=>h):wpAnyH P md ops Q S (fuel+1) listed a w:=
 wpAnyH_take hi hs hf hr hQ (.inr ⟨hg,rfl⟩) hS (ha▸h)
theorem rd (i:Nat) {oi:Oper}
  (h:∀K':Act->Zp1->Prop,Shut (∀a w,S w->(S w->wpAnyH P md ops Q S fuel (listed.setIfInBounds i true) a w)->K' a w)->if Region.wanted oi (yielded ops a.tmps)=true then Oper.wp P oi a w K' Q else K' (a.put oi.dst undef) w)
  (hr:Region.ready md ops listed=[i]:=by kernel_rfl) (hi:ops[i]? = some oi:=by rfl):wpAnyH P md ops Q S (fuel+1) listed a w:=
 Zo1 hr sZ (Zf1 hi h Zg1)
end
theorem qgd {x:List Ten} (h:¬x.length<2) (i:Nat):Ly.second x i=Ly.at_ (Ly.got x 1).c i:=by unfold Ly.second;rw [inZ h]
theorem qbg (A:Option Addr) (c:Nat) (x:List Ten) (i:Nat) (w:Zp1) (hl:x.length<=1048576) (hT:Tns w A x) (hi:2<=x.length->i<(Ly.got x 1).c.length):
  Calls Tryz.prog 68 #[.slice A x.length c,.int .i64 i] w λe w'=>e=.returned (.int .i64 (Ly.second x i))/\w=w':=by
 by_cases h:x.length<2
 ·have E:=zI (show (0:Int)=Ly.second x i by unfold Ly.second;rw [ipZ h])
  go_enter Tryz.func68,Tryz.ntmps68;go_wp2_with fail;go_ret;exact ⟨qaa E.out,rfl⟩
 ·obtain ⟨b,off,S,sc,C,d,rfl,hb,c0,c1,ha⟩:=hT.at_ (j:=1) oZ
  have hi:=hi oZ;have hd:=ha.l2;have he:=ha.c1;obtain ⟨b2,off2,rfl,-,hc⟩:=ha.cell hi;have E:=zI (qgd h i).symm;have k1:(i:Int)<((Ly.got x 1).c.length:Int):=by omega
  have k2:(0:Int)<=(i:Int):=by omega
  simp only [Nat.one_mul] at c0 c1;generalize (Ly.got x 1).c.length=m at *;generalize Ly.at_ (Ly.got x 1).c i=z at *;clear hT ha;go_enter Tryz.func68,Tryz.ntmps68;go_wp2_with fail;go_ret;exact ⟨qaa E.out,rfl⟩
namespace Ly
def okTo (x:List Ten) (t:Ten):Bool:=Tn.right t&&decide (t.s=(got x 0).s)
theorem agree_op {kind:Int} {x:List Ten} (h:Od.ptIns kind=0):ptAgree kind x=21:=by unfold ptAgree;rw [ipZ h]
theorem agree_len {kind:Int} {x:List Ten} (h:Od.ptIns kind≠0) (h2:(x.length:Int)≠Od.ptIns kind):ptAgree kind x=20:=by unfold ptAgree;rw [inZ h,ipZ h2]
theorem agree_all {kind:Int} {x:List Ten} (h:Od.ptIns kind≠0) (h2:(x.length:Int)=Od.ptIns kind):ptAgree kind x=if x.all (okTo x) then 0 else 20:=by unfold ptAgree okTo;rw [inZ h,inZ (λk=>k h2)]
theorem ptIns_cases (k:Int):(Od.ptIns k=0)∨(Od.ptIns k=1/\1<=k/\k<=5)∨(Od.ptIns k=2/\6<=k/\k<=7):=by
 unfold Od.ptIns
 split
 ·right;left;omega
 ·split
  ·right;right;omega
  ·left;rfl
theorem agree_yes {kind:Int} {x:List Ten} (h:ptAgree kind x=0):1<=kind/\kind<=7/\(x.length:Int)=Od.ptIns kind/\1<=x.length/\x.length<=2/\∀t∈x,okTo x t=true:=by
 by_cases h1:Od.ptIns kind=0
 ·rw [agree_op h1] at h;omega
 by_cases h2:(x.length:Int)=Od.ptIns kind
 ·rw [agree_all h1 h2] at h
  by_cases h3:x.all (okTo x)=true
  ·have h4:=ptIns_cases kind
   exact ⟨by omega,by omega,h2,by omega,by omega,List.all_eq_true.1 h3⟩
  ·rw [inZ h3] at h;omega
 ·rw [agree_len h1 h2] at h;omega
theorem ok_right {x:List Ten} {t:Ten} (h:okTo x t=true):Tn.right t=true/\t.s=(got x 0).s:=by simpa [okTo] using h
end Ly
theorem qbF (kind:Int) (A:Option Addr) (f:Nat) (x:List Ten) (w:Zp1) (hl:x.length<=1048576) (hT:Tns w A x):
  Calls Tryz.prog 66 #[.int .i64 kind,.slice A x.length f] w λe w'=>e=.returned (.int .i64 (Ly.ptAgree kind x))/\Below w.heap.size w w':=by
 by_cases h1:Od.ptIns kind=0
 ·have E:=zI (Ly.agree_op (x:=x) h1).symm
  clear hT;go_enter Tryz.func66,Tryz.ntmps66;go_wp2_with fail;refine (qbP kind _).mono ?_;rintro e w1 ⟨rfl,rfl⟩;rw [h1];clear h1;go_wp2_with fail;go_ret;exact ⟨qaa E.out,Ze1 _ _⟩
 by_cases h2:(x.length:Int)=Od.ptIns kind
 case neg=>
  have E:=zI (Ly.agree_len h1 h2).symm;have d1:(Od.ptIns kind==0)=false:=by simpa using h1
  have d2:((x.length:Int)==Od.ptIns kind)=false:=by simpa using h2
  have d3:((x.length:Int) != Od.ptIns kind)=true:=by simpa using h2
  clear h1 h2 hT;go_enter Tryz.func66,Tryz.ntmps66;go_wp2_with fail;refine (qbP kind _).mono ?_;rintro e w1 ⟨rfl,rfl⟩;generalize Od.ptIns kind=n at *;go_wp2_with fail;go_ret;exact ⟨qaa E.out,Ze1 _ _⟩
 have HA:=zI (Ly.agree_all h1 h2)
 have hi:1<=x.length:=by
  have:=Ly.ptIns_cases kind;omega
 obtain ⟨b,off,S0,sc0,C0,cd0,rfl,hI,z0,z1,hn⟩:=hT.first hi
 have hE:=hn.r.1;have hJ:=hn.l1;obtain ⟨H2,HT,hH,hN⟩:=zd4 h2 hT hE hn;clear hT hE hn;clear h1 h2 z1
 have d1:((x.length:Int)==0)=false:=by
                                                 have h3:(x.length:Int)≠0:=by omega
                                                 simpa using h3
 have k1:(0:Int)<(x.length:Int):=by omega
 have k2:0<x.length:=hi;go_enter Tryz.func66,Tryz.ntmps66;go_wp2_with fail;refine (qbP kind _).mono ?_;rintro e w1 ⟨rfl,rfl⟩;rw [←H2.out];go_wp2_with fail;generalize hs0:(Ly.got x 0).s=s0 at *
 go_loopw [18] (λi wx=>∃k:Nat,k<=x.length/\i=.int .i64 (k:Int)/\(x.take k).all (Ly.okTo x)=true/\Later w wx) (λi _=>x.length-(intOf i).toNat)
 case atStart=>exact ⟨0,by omega,rfl,rfl,Later.refl _⟩
 case round=>
  obtain ⟨k,hk,rfl,ha,hd⟩:=hrel
  by_cases hj:k<x.length
  ·obtain ⟨b',off',S,sc,C,cd,e,-,y0,y1,ht⟩:=(HT.out.later hd).at_ hj
   injection e with e;injection e with e1 e2;subst e1 e2
   have y2:wr.cell? ⟨b,off,none⟩=some (.slice S0 s0.length sc0):=hd.cell z0;have hx:Ly.got x k=x[k]:=qan hj;have hp:=qdq (p:=Ly.okTo x) hj ha;have hs:=qe2 (p:=Ly.okTo x) hj;have hw:Ly.okTo x x[k]=(Tn.right (Ly.got x k)&&((Ly.got x k).s==s0)):=by rw [←hx];unfold Ly.okTo;rw [hs0];congr 1;rw [Bool.eq_iff_iff];simp
   rw [hw] at hp hs;have hK:=ht.l1;have hM:=ht.l2;have hv:=ht.r.1;have h2:Later wr (wr.alloc (.cells #[.slice S (Ly.got x k).s.length sc,.slice C (Ly.got x k).c.length cd] 30)):=(Later.refl wr).alloc _;have hy:=Blk.new wr 30 #[.slice S (Ly.got x k).s.length sc,.slice C (Ly.got x k).c.length cd];have hB:=hd.trans h2;have hL:=zI hs0;clear hx hs0 hw ha;generalize Ly.got x k=t at *;have ho:=zI h2;clear h2;obtain ⟨hD,Ht,hF,hA,hm,hG,hz⟩:=zd7 hd ht hv hy hB hp hs;clear hd ht hv hy hB hp hs;go_wp2_with fail;clear y0 y1;generalize wr.alloc (.cells #[.slice S t.s.length sc,.slice C t.c.length cd] 30)=w2 at *;have x0:w2.cell? ⟨wr.heap.size,0,none⟩=some (.slice S t.s.length sc):=by rw [hA.out.cell];rfl
   have x1:w2.cell? ⟨wr.heap.size,1,none⟩=some (.slice C t.c.length cd):=by rw [hA.out.cell];rfl
   have x2:w2.cell? ⟨b,off,none⟩=some (.slice S0 s0.length sc0):=ho.out.cell y2;clear y2;have hb:=λ(V:Zp1) (h:Later w2 V)=>qa2 S C sc cd t V oZ oZ (hF.out.below (ho.out.trans h) (lrZ _))
   cases hr:Tn.right t
   ·rw [hr] at hb
    have HN:=zI (hz.out (by rw [hr];rfl));clear hr;have hg:=zI hb;clear hb
    first
     | (go_region_with ((go_at_call 51;(with_reducible refine (hg.out _ (Lau:Later w2 _)).mono ?_);rintro e wa ⟨rfl,hC⟩)))
     | skip
    all_goals
     have hc:=hm.out.trans (Lau:Later w2 wa);have hh:=zI hc;clear hc;go_wp2_with fail;go_ret;exact ⟨qaa (by rw [HA.out,HN.out];rfl),hh.out⟩
   ·have hf:=λ(V:Zp1) (h:Later w2 V)=>qa7 S S0 sc sc0 t.s s0 V oZ oZ (hF.out.below (ho.out.trans h) (lrZ _)) (hH.out.below (hm.out.trans h) (lrZ _))
    rw [hr] at hb;cases he:(t.s==s0)
    ·have HN:=zI (hz.out (by rw [hr,he];rfl))
     rw [he] at hf;clear hr he;obtain ⟨hg,hu⟩:=zd2 hb hf;clear hb hf
     go_region_held3 (λW=>W.cell? ⟨wr.heap.size,0,none⟩=some (.slice S t.s.length sc)/\W.cell? ⟨wr.heap.size,1,none⟩=some (.slice C t.c.length cd)/\W.cell? ⟨b,off,none⟩=some (.slice S0 s0.length sc0)) (first|(with_reducible exact ⟨x0,x1,x2⟩)|exact ⟨Later.cell (Lau:Later w2 _) x0,Later.cell (Lau:Later w2 _) x1,Later.cell (Lau:Later w2 _) x2⟩)
      (first
       | (go_at_call 51;(with_reducible refine (hg.out _ (Lau:Later w2 _)).mono ?_);rintro e wa ⟨rfl,hC⟩)
       | (go_at_call 43;(with_reducible refine (hu.out _ (Lau:Later w2 _)).mono ?_);rintro e wd ⟨rfl,qd,rfl⟩))
     all_goals
      have hc:=hm.out.trans (Lau:Later w2 (wa.drewN qd));have hh:=zI hc;clear hc;go_wp2_with fail;go_ret;exact ⟨qaa (by rw [HA.out,HN.out];rfl),hh.out⟩
    ·have HN:=zI (hG.out (by rw [hr,he];rfl))
     rw [he] at hf;clear hr he;obtain ⟨hg,hu⟩:=zd2 hb hf;clear hb hf
     go_region_held3 (λW=>W.cell? ⟨wr.heap.size,0,none⟩=some (.slice S t.s.length sc)/\W.cell? ⟨wr.heap.size,1,none⟩=some (.slice C t.c.length cd)/\W.cell? ⟨b,off,none⟩=some (.slice S0 s0.length sc0)) (first|(with_reducible exact ⟨x0,x1,x2⟩)|exact ⟨Later.cell (Lau:Later w2 _) x0,Later.cell (Lau:Later w2 _) x1,Later.cell (Lau:Later w2 _) x2⟩)
      (first
       | (go_at_call 51;(with_reducible refine (hg.out _ (Lau:Later w2 _)).mono ?_);rintro e wa ⟨rfl,hC⟩)
       | (go_at_call 43;(with_reducible refine (hu.out _ (Lau:Later w2 _)).mono ?_);rintro e wd ⟨rfl,qd,rfl⟩))
     all_goals
      have hc:=hm.out.trans (Lau:Later w2 (wa.drewN qd));have hh:=zI hc;clear hc;go_wp2_with fail;go_roundw
      case rel=>exact ⟨k+1,by omega,by go_num,HN.out,hh.out⟩
      case measure=>simp [intOf];omega
  ·obtain rfl:k=x.length:=by omega
   rw [Zg] at ha;obtain ⟨hq,hD⟩:=zd2 ha hd;clear ha hd;go_wp2_with fail;go_ret;exact ⟨qaa (by rw [HA.out,ipZ hq.out]),hD.out⟩
namespace Ly
theorem point_err {kind k:Int} {x:List Ten} (h:ptAgree kind x≠0):point kind k x=(none_,ptAgree kind x):=by unfold point;rw [inZ h]
theorem point_ok {kind k:Int} {x:List Ten} (h:ptAgree kind x=0):point kind k x=(⟨(got x 0).s,tab (got x 0).c.length λi=>cell kind k (at_ (got x 0).c i) (second x i)⟩,0):=by unfold point;rw [ipZ h]
theorem right_ok {t:Ten} (h:Tn.right t=true):t.s.length<=4/\t.c.length<=65536:=by have:=Tn.right_len h;omega
theorem same_len {a b:Ten} (ha:Tn.right a=true) (hb:Tn.right b=true) (h:a.s=b.s):a.c.length=b.c.length:=by
 simp [Tn.right] at ha hb;rw [h] at ha;omega
end Ly
theorem Blk.row_get {w:Zp1} {h:Nat} {t:TypeId} {l:List Int} {k:Nat} (hb:Blk w h t (l.map (Za1 .i64)).toArray) (hk:k<l.length):w.cell? ⟨h,k,none⟩=some (.int .i64 l[k]):=by
 rw [hb.cell,Zk,geZ (by simpa using hk)];simp
theorem point_go (kind k0:Int) (A:Option Addr) (f:Nat) (x:List Ten) (w:Zp1) (hl:x.length<=1048576) (hT:Tns w A x) (hk0:Fx.In k0):
  Calls Tryz.prog 101 #[.int .i64 kind,.int .i64 k0,.slice A x.length f] w (GoP (Ly.point kind k0 x) w):=by
 have HA:Later w (w.alloc (.cells #[.slice none 0 0,.slice none 0 0] 30)):=(Later.refl w).alloc _;have hz:=Blk.new w 30 #[.slice none 0 0,.slice none 0 0];obtain ⟨HT,h4,Hz,HJ⟩:=zd4 hT HA hz hk0;clear hT HA hz hk0;go_enter Tryz.func101,Tryz.ntmps101;go_wp2_with fail;generalize w.alloc (.cells #[.slice none 0 0,.slice none 0 0] 30)=w1 at *;refine (qbF kind A f x w1 hl (HT.out.later h4.out)).mono ?_;rintro e w2 ⟨rfl,hY⟩;have hI:=h4.out.call hY;have hf:=(show Later w1 w2 from hY).blk Hz.out;clear hY Hz h4
 by_cases hg:Ly.ptAgree kind x=0
 case neg=>
  have HE:=zI (Ly.point_err (k:=k0) hg);have d1:(Ly.ptAgree kind x==0)=false:=by simpa using hg
  have d2:(Ly.ptAgree kind x != 0)=true:=by simpa using hg
  have Hg:=zI hg;clear hg;generalize Ly.ptAgree kind x=g at *;have c0:=hf.cell 0;have c1:=hf.cell 1;have f0:=hf.frozen 0;have f1:=hf.frozen 1;simp at c0 c1;obtain ⟨hX,hW⟩:=zd2 hI hf;clear hI hf;go_wp2_with fail;refine Zk1 (v:=.tuple #[.agg #[.slice none 0 0,.slice none 0 0],.int .i64 g]) (by simp [results,Tryz.results101,go_sem,c0,c1]) rfl ?_;exact GoP.fail HE.out Hg.out ((hX.out.set (p:=⟨w.heap.size,0,none⟩) (lrZ _) _).set (p:=⟨w.heap.size,1,none⟩) (lrZ _) _)
 have HE:=zI (Ly.point_ok (k:=k0) hg);obtain ⟨k1,k7,-,l1,l2,hn⟩:=Ly.agree_yes hg;rw [hg];obtain ⟨hU,-⟩:=Ly.ok_right (hn _ (by rw [qan (show 0<x.length by omega)];exact gmZ _):Ly.okTo x (Ly.got x 0)=true)
 have hC:2<=x.length->(Ly.got x 1).c.length=(Ly.got x 0).c.length:=λh=>by
  obtain ⟨a,b⟩:=Ly.ok_right (hn _ (by rw [qan (show 1<x.length by omega)];exact gmZ _):Ly.okTo x (Ly.got x 1)=true);exact Ly.same_len a hU b
 obtain ⟨h0,Hg⟩:=zd2 hC hg;clear hg hn hC;obtain ⟨b,off,S,sc,C,cd,rfl,HX,z0,z1,ht⟩:=(HT.out.later hI).first oZ
 obtain ⟨r1,r2⟩:=Ly.right_ok hU;have Hl:=ht.r;have hr:=ht.num
 have hc:∀i,Fx.In (Ly.second x i):=λi=>by
  unfold Ly.second
  split
  ·exact Fx.in_zero
  ·exact Ly.at_in (Ly.got_in HT.out.in_ 1) i
 generalize hR:(Ly.tab (Ly.got x 0).c.length λi=>Ly.cell kind k0 (Ly.at_ (Ly.got x 0).c i) (Ly.second x i))=R at *;have Hq:R.length=(Ly.got x 0).c.length:=by rw [←hR,Ly.tab_len]
 have Hk:∀i (hi:i<R.length),R[i]=Ly.cell kind k0 (Ly.at_ (Ly.got x 0).c i) (Ly.second x i):=λi hi=>by subst hR;exact Ly.tab_get hi
 have hB:∀z∈R,Fx.In z:=by rw [←hR];exact Ly.tab_in λi _=>Ly.cell_in (Ly.at_in hr i)
 clear hR;generalize ht0:Ly.got x 0=t at *;obtain ⟨H7,H5,hp⟩:=zd3 ht0 hU Hq;clear ht0 hU Hq;obtain ⟨y0,y1,hX,hW,Ht,Hb,Hc,hq,HQ⟩:=zd9 z0 z1 hI hf ht Hl hr hc Hk;have hZ:=zI hB;clear hI hf ht Hl hr hc Hk hB;go_wp2_with fail;clear z0 z1;refine (qa9 S C sc cd t w2 oZ oZ Hb.out).mono ?_;rintro e w3 ⟨v,rfl,⟨g,h,rfl,hg,hh,hG,hH⟩,Hh⟩;have hQ:Later w2 w3:=Hh;have hN:Later w3 (w3.alloc (.cells #[.slice (some ⟨g,0,none⟩) t.s.length t.s.length,.slice (some ⟨h,0,none⟩) t.c.length t.c.length] 30)):=(Later.refl w3).alloc _;have ho:=Blk.new w3 30 #[.slice (some ⟨g,0,none⟩) t.s.length t.s.length,.slice (some ⟨h,0,none⟩) t.c.length t.c.length];have hv:=hQ.trans hN;have Hn:=hX.out.trans hv;have Hv:=hv.blk hW.out;have HC:=hN.blk hG;have Hs:=hN.blk hH;have H2:=hX.out.size;have H0:=hQ.size;have H4:=hH.lt;have H6:=hG.lt;have HV:=hW.out.lt
 have h6:g≠h:=by
  intro e;subst e;have h1:(Obj.cells (t.s.map (Za1 .i64)).toArray 3 (0,0))=_:=Option.some.inj (hG.symm.trans hH);injection h1 with _ h2 _
  exact absurd h2 dZ
 have z1:=hv.cell y1.out;clear Hh hW hG hH y0 y1;have Z1:=zI z1;clear z1;obtain ⟨HH,HR,Ho,Hx,HO,HL,HP,HI⟩:=zd8 hQ hN ho hv Hn Hv HC Hs;clear hQ hN ho hv Hn Hv HC Hs;go_upto_region 5 with fail;generalize w3.alloc (.cells #[.slice (some ⟨g,0,none⟩) t.s.length t.s.length,.slice (some ⟨h,0,none⟩) t.c.length t.c.length] 30)=w4 at *;generalize hpe:w3.heap.size=p at *;have HY:h<p:=by omega
 have HW:w.heap.size<p:=by omega
 have z1:=Z1.out;have HZ:=zI (Hb.out.2.below Hx.out (lrZ _));clear Z1 HR HH hpe;go_wp2_with fail;clear z1;have Hr:Blk w4 h 22 ((R.take 0++t.c.drop 0).map (Za1 .i64)).toArray:=by simpa using HI.out
 have HB:=zI Hr;clear Hr
 go_loopw [28] (λi wx=>∃k:Nat,k<=t.c.length/\i=.int .i64 (k:Int)/\Blk wx h 22 ((R.take k++t.c.drop k).map (Za1 .i64)).toArray/\Blk wx p 30 #[.slice (some ⟨g,0,none⟩) t.s.length t.s.length,.slice (some ⟨h,0,none⟩) t.c.length t.c.length]/\Blk wx w.heap.size 30 #[.slice none 0 0,.slice none 0 0]/\Blk wx g 3 (t.s.map (Za1 .i64)).toArray/\Later w wx/\Later w2 wx) (λi _=>t.c.length-(intOf i).toNat)
 case atStart=>exact ⟨0,Zt _,rfl,HB.out,Ho.out,HL.out,HP.out,HO.out,Hx.out⟩
 case round=>
  obtain ⟨k,hk,rfl,hm,hj,hd,hK,hs,ha⟩:=hrel;clear HB
  by_cases Hf:k<t.c.length
  ·obtain ⟨b2,off2,rfl,-,HN⟩:=(Hb.out.2.below ha (lrZ _)) k Hf
   rw [show t.c.getD k 0=Ly.at_ t.c k from rfl] at HN;have he:k<R.length:=by have:=hp.out;omega
   have hM:=Ly.mid_step R t.c he hp.out;have hJ:=Ly.mid_len R t.c k oZ hp.out;have h9:=HQ.out k he;have hE:=Ly.at_in Hc.out k;have hw:=hq.out k;have Hu:=HT.out.later hs;have hb:2<=x.length->k<(Ly.got x 1).c.length:=λh=>by rw [h0.out h];exact Hf
   have Hi:=λ(V:Zp1) (hV:Later w V)=>qbg (some ⟨b,off,none⟩) f x k V hl (HT.out.later hV) hb
   have Ha:=λ(V:Zp1)=>qff kind k0 (Ly.at_ t.c k) (Ly.second x k) V k1 k7 HJ.out hE hw
   rw [h9] at hM;rw [←h9] at Ha hM;have hP:∀(V:Zp1),Calls Tryz.prog 144 #[.int .i64 kind,.int .i64 k0,.int .i64 (Ly.at_ t.c k),.int .i64 (Ly.second x k)] V λe w'=>e=.returned (.int .i64 R[k])/\V=w':=Ha
   generalize hy:R[k]=y at *;generalize Ly.at_ t.c k=xk at *;generalize Ly.second x k=sk at *;have o1:wr.cell? ⟨p,1,none⟩=some (.slice (some ⟨h,0,none⟩) t.c.length t.c.length):=by rw [hj.cell];rfl
   obtain ⟨u,hu⟩:∃u,wr.cell? ⟨h,k,none⟩=some u:=⟨_,hm.row_get (by rw [hJ];exact he)⟩
   have fu:=hm.frozen k
   have Hy:Blk (wr.setCell ⟨h,k,none⟩ (.int .i64 y)) h 22 ((R.take (k+1)++t.c.drop (k+1)).map (Za1 .i64)).toArray:=by
    have:=hm.set_ k (.int .i64 y);rw [←hM,List.map_set];simpa using this
   have hF:=hj.far (p:=⟨h,k,none⟩) soZ (.int .i64 y);have hA:=hd.far (p:=⟨h,k,none⟩) soZ (.int .i64 y);have hx:Blk (wr.setCell ⟨h,k,none⟩ (.int .i64 y)) g 3 (t.s.map (Za1 .i64)).toArray:=hK.far (p:=⟨h,k,none⟩) h6 (.int .i64 y);have hL:=hs.set (p:=⟨h,k,none⟩) soZ (.int .i64 y);have hO:=ha.set (p:=⟨h,k,none⟩) hh (.int .i64 y);have kk1:(k:Int)<(t.c.length:Int):=by omega
   have kk2:(0:Int)<=(k:Int):=by omega
   clear hy hJ h9 hE hw he Ha;obtain ⟨Hm,HG,HM,HD,HS,Hd,h7,h3,He⟩:=zd9 hm hj hd hK Hy hF hA hx hL;obtain ⟨h8,H1,HK⟩:=zd3 hO hM Hi;have h5:=zI hP;obtain ⟨H3,Hp⟩:=zd2 Hu hb;have Hw:=zI ha;have hD:=zI hs;clear hm hj hd hK Hy hF hA hx hL hO hM Hi hP Hu hb ha hs;go_wp2_with fail
   go_region_law ((first
    | (go_simp;go_at_call 68;(with_reducible refine (HK.out _ (by first|exact hD.out|exact hD.out.drew|exact hD.out.drewN _)).mono ?_);rintro e wa ⟨rfl,rfl⟩)
    | (go_simp;go_at_call 144;(with_reducible refine (h5.out _).mono ?_);rintro e wb ⟨rfl,rfl⟩)))
   all_goals
    go_wp2_with fail;go_roundw
    case rel=>exact ⟨k+1,by omega,by go_num,HS.out.drew,Hd.out.drew,h7.out.drew,h3.out.drew,He.out.drew,h8.out.drew⟩
    case measure=>simp [intOf];omega
  ·obtain rfl:k=t.c.length:=by omega
   rw [Ly.mid_end R t.c _ hp.out.symm hp.out] at hm;have o0:wr.cell? ⟨p,0,none⟩=some (.slice (some ⟨g,0,none⟩) t.s.length t.s.length):=by rw [hj.cell];rfl
   have o1:wr.cell? ⟨p,1,none⟩=some (.slice (some ⟨h,0,none⟩) t.c.length t.c.length):=by rw [hj.cell];rfl
   have c0:=hd.cell 0;have c1:=hd.cell 1;have f0:=hd.frozen 0;have f1:=hd.frozen 1;simp at c0 c1;have hS:=(hd.set_ 0 (.slice (some ⟨g,0,none⟩) t.s.length t.s.length)).set_ 1 (.slice (some ⟨h,0,none⟩) t.c.length t.c.length);have d0:=hS.cell 0;have d1:=hS.cell 1;simp at d0 d1;have Hj:g≠w.heap.size:=by omega
   have HF:h≠w.heap.size:=by omega
   obtain ⟨Hm,HG,HM,HD,hD,HU⟩:=zd6 hm hj hd hK hs hS;clear hm hj hd hK hs hS;go_wp2_with fail;refine Zk1 (v:=.tuple #[.agg #[.slice (some ⟨g,0,none⟩) t.s.length t.s.length,.slice (some ⟨h,0,none⟩) t.c.length t.c.length],.int .i64 0]) (by simp [results,Tryz.results101,go_sem,d0,d1]) rfl ?_;refine GoP.ok HE.out (TenN.o ⟨g,h,by simp [hp.out],by omega,by omega,(HD.out.far (p:=⟨w.heap.size,0,none⟩) Hj _).far (p:=⟨w.heap.size,1,none⟩) Hj _,(Hm.out.far (p:=⟨w.heap.size,0,none⟩) HF _).far (p:=⟨w.heap.size,1,none⟩) HF _⟩ (by show t.s.length<=_;omega) (by have:=hp.out;show R.length<=_;omega) hZ.out) ((hD.out.set (p:=⟨w.heap.size,0,none⟩) (lrZ _) _).set (p:=⟨w.heap.size,1,none⟩) (lrZ _) _)
namespace Ly
theorem alike_a {a b:Ten} (h:Tn.right a=false):alike a b=false:=by simp [alike,h]
theorem alike_b {a b:Ten} (h:Tn.right b=false):alike a b=false:=by simp [alike,h]
theorem alike_s {a b:Ten} (h:Tn.right a=true) (h2:Tn.right b=true):alike a b=(a.s==b.s):=by simp [alike,h,h2];rw [Bool.eq_iff_iff];simp
theorem alike_yes {a b:Ten} (h:alike a b=true):Tn.right a=true/\Tn.right b=true/\a.s=b.s:=by simpa [alike,and_assoc] using h
theorem add_err {a b:Ten} (h:alike a b=false):add a b=(none_,20):=by simp [add,h]
theorem add_ok {a b:Ten} (h:alike a b=true):add a b=(⟨a.s,tab a.c.length λi=>Fx.add (at_ a.c i) (at_ b.c i)⟩,0):=by simp [add,h]
end Ly
theorem qaU (w:Zp1) (t t':TypeId) (a b:Array Value):Blk ((w.alloc (.cells a t)).alloc (.cells b t')) w.heap.size t a/\Blk ((w.alloc (.cells a t)).alloc (.cells b t')) (w.heap.size+1) t' b/\Later w ((w.alloc (.cells a t)).alloc (.cells b t')):=by
 refine ⟨(Blk.new w t a).alloc _,?_,((Later.refl w).alloc _).alloc _⟩;have:=Blk.new (w.alloc (.cells a t)) t' b
 rwa [Zh1] at this
theorem qe3 (S C S' C':Option Addr) (c d c' d':Nat) (a b:Ten) (w:Zp1) (ha:TenIn w S C c d a) (hb:TenIn w S' C' c' d' b):
  Calls Tryz.prog 84 #[.agg #[.slice S a.s.length c,.slice C a.c.length d],.agg #[.slice S' b.s.length c',.slice C' b.c.length d']] w λe w'=>e=.returned (.bool (Ly.alike a b))/\Below w.heap.size w w':=by
 obtain ⟨ho,hj,he⟩:=qaU w 30 30 #[.slice S a.s.length c,.slice C a.c.length d] #[.slice S' b.s.length c',.slice C' b.c.length d'];have la:=ha.l1;have lb:=hb.l1;have la2:=ha.l2;have lb2:=hb.l2;obtain ⟨hq,hn,hf,Ha,Hb⟩:=zd5 ho hj he ha hb;clear ho hj he ha hb;go_enter Tryz.func84,Tryz.ntmps84;go_wp2_with fail;generalize (w.alloc (.cells #[.slice S a.s.length c,.slice C a.c.length d] 30)).alloc (.cells #[.slice S' b.s.length c',.slice C' b.c.length d'] 30)=w2 at *;have x0:w2.cell? ⟨w.heap.size,0,none⟩=some (.slice S a.s.length c):=by rw [hq.out.cell];rfl
 have x1:w2.cell? ⟨w.heap.size,1,none⟩=some (.slice C a.c.length d):=by rw [hq.out.cell];rfl
 have x2:w2.cell? ⟨w.heap.size+1,0,none⟩=some (.slice S' b.s.length c'):=by rw [hn.out.cell];rfl
 have x3:w2.cell? ⟨w.heap.size+1,1,none⟩=some (.slice C' b.c.length d'):=by rw [hn.out.cell];rfl
 have hA:=(Ha.out.later hf.out)
 have hB:=(Hb.out.later hf.out)
 have hm:=λ(V:Zp1) (h:Later w2 V)=>qa2 S C c d a V oZ oZ (hA.later h).r.1
 have hk:=λ(V:Zp1) (h:Later w2 V)=>qa2 S' C' c' d' b V oZ oZ (hB.later h).r.1
 have hg:=λ(V:Zp1) (h:Later w2 V)=>qa7 S S' c c' a.s b.s V oZ oZ (hA.later h).r.1 (hB.later h).r.1
 clear hA hB;obtain ⟨hv,hs,hu⟩:=zd3 hm hk hg;clear hm hk hg;refine (hv.out w2 (Later.refl _)).mono ?_;rintro e w3 ⟨rfl,hl⟩;have hc:Later w2 w3:=hl;have y2:=hc.cell x2;have y0:=hc.cell x0;have y3:=hc.cell x3;clear x0 x1 x2 x3 hl;cases hr:Tn.right a
 ·have HE:=zI (Ly.alike_a (b:=b) hr)
  clear hr;have hh:=zI hc;clear hc;go_wp2_with fail;go_ret;exact ⟨by rw [HE.out];rfl,hf.out.trans hh.out⟩
 ·have he:=hs.out w3 hc
  have hg:=hu.out;obtain ⟨hh,Hq,ht⟩:=zd3 hc he hg;clear hc he hg;go_wp2_with fail;refine (Hq.out).mono ?_;rintro e w4 ⟨rfl,hp⟩;have hd:Later w3 w4:=hp;have z2:=hd.cell y2;have z0:=hd.cell y0;clear y0 y2 y3 hp;cases hr2:Tn.right b
  ·have HE:=zI (Ly.alike_b (a:=a) hr2)
   clear hr hr2;have hi:=zI hd;clear hd;go_wp2_with fail;go_ret;exact ⟨by rw [HE.out];rfl,(hf.out.trans hh.out).trans hi.out⟩
  ·have HE:=zI (Ly.alike_s hr hr2)
   clear hr hr2;have hi:=zI hd;clear hd;go_wp2_with fail;refine (ht.out w4 (hh.out.trans hi.out)).mono ?_;rintro e w5 ⟨rfl,q,rfl⟩;go_wp2_with fail;go_ret;exact ⟨by rw [HE.out];rfl,((hf.out.trans hh.out).trans hi.out).drewN q⟩
namespace Ly
theorem mid_at (C L:List Int) {k:Nat} (hk:k<L.length) (hn:C.length=L.length):∃h:k<(C.take k++L.drop k).length,(C.take k++L.drop k)[k]=L[k]:=by
 have h1:(C.take k).length=k:=by simp;omega
 refine ⟨by simp;omega,?_⟩;rw [List.getElem_append_right oZ];simp [h1]
end Ly
theorem qam (w:Zp1) (t t' t2:TypeId) (a b z:Array Value):Blk (((w.alloc (.cells a t)).alloc (.cells b t')).alloc (.cells z t2)) w.heap.size t a/\Blk (((w.alloc (.cells a t)).alloc (.cells b t')).alloc (.cells z t2)) (w.heap.size+1) t' b/\Blk (((w.alloc (.cells a t)).alloc (.cells b t')).alloc (.cells z t2)) (w.heap.size+2) t2 z/\Later w (((w.alloc (.cells a t)).alloc (.cells b t')).alloc (.cells z t2)):=by
 obtain ⟨h1,h2,h3⟩:=qaU w t t' a b;refine ⟨h1.alloc _,h2.alloc _,?_,h3.alloc _⟩;have:=Blk.new ((w.alloc (.cells a t)).alloc (.cells b t')) t2 z
 rwa [Zh1,Zh1] at this
theorem qb1 {w:Zp1} {g h:Nat} {s c:List Int} (hG:Blk w g 3 (s.map (Za1 .i64)).toArray) (hH:Blk w h 22 (c.map (Za1 .i64)).toArray):g≠h:=by
 intro e;subst e;have h1:(Obj.cells (s.map (Za1 .i64)).toArray 3 (0,0))=_:=Option.some.inj (hG.symm.trans hH);injection h1 with _ h2 _
 exact absurd h2 dZ
theorem qd3 (S C S' C':Option Addr) (c d c' d':Nat) (a b:Ten) (w:Zp1) (ha:TenIn w S C c d a) (hb:TenIn w S' C' c' d' b):
  Calls Tryz.prog 34 #[.agg #[.slice S a.s.length c,.slice C a.c.length d],.agg #[.slice S' b.s.length c',.slice C' b.c.length d']] w (GoP (Ly.add a b) w):=by
 obtain ⟨He,Hk,hz,h1⟩:=qam w 30 30 30 #[.slice S a.s.length c,.slice C a.c.length d] #[.slice S' b.s.length c',.slice C' b.c.length d'] #[.slice none 0 0,.slice none 0 0];obtain ⟨Hh,Hl,Hz,hK,Ha,Hb⟩:=zd6 He Hk hz h1 ha hb;clear He Hk hz h1 ha hb;go_enter Tryz.func34,Tryz.ntmps34;go_wp2_with fail;generalize ((w.alloc (.cells #[.slice S a.s.length c,.slice C a.c.length d] 30)).alloc (.cells #[.slice S' b.s.length c',.slice C' b.c.length d'] 30)).alloc (.cells #[.slice none 0 0,.slice none 0 0] 30)=w1 at *;refine (qe3 S C S' C' c d c' d' a b w1 (Ha.out.later hK.out) (Hb.out.later hK.out)).mono ?_;rintro e w2 ⟨rfl,hY⟩;have ht:Later w1 w2:=hY;have hI:=hK.out.trans ht;have hj:=ht.blk Hz.out;have hq:=ht.blk Hh.out;have hc:=ht.blk Hl.out;clear hY Hz hK Hh Hl ht;cases hg:Ly.alike a b
 ·have HE:=zI (Ly.add_err hg)
  clear hg;have c0:=hj.cell 0;have c1:=hj.cell 1;have f0:=hj.frozen 0;have f1:=hj.frozen 1;simp at c0 c1;obtain ⟨hC,hJ,Hy⟩:=zd3 hI hj hq;have hQ:=zI hc;clear hI hj hq hc;go_wp2_with fail;refine Zk1 (v:=.tuple #[.agg #[.slice none 0 0,.slice none 0 0],.int .i64 20]) (by simp [results,Tryz.results34,go_sem,c0,c1]) rfl ?_;exact GoP.fail HE.out dZ ((hC.out.set (p:=⟨w.heap.size+2,0,none⟩) sZ _).set (p:=⟨w.heap.size+2,1,none⟩) sZ _)
 obtain ⟨hS,hZ,hs⟩:=Ly.alike_yes hg;have HE:=zI (Ly.add_ok hg);have he:b.c.length=a.c.length:=(Ly.same_len hS hZ hs).symm;obtain ⟨r1,r2⟩:=Ly.right_ok hS;generalize hR:(Ly.tab a.c.length λi=>Fx.add (Ly.at_ a.c i) (Ly.at_ b.c i))=R at *;have Hf:R.length=a.c.length:=by rw [←hR,Ly.tab_len]
 have h5:∀i (hi:i<R.length),R[i]=Fx.add (Ly.at_ a.c i) (Ly.at_ b.c i):=λi hi=>by subst hR;exact Ly.tab_get hi
 have hB:∀z∈R,Fx.In z:=by rw [←hR];exact Ly.tab_in λi _=>Fx.add_in _ _
 have x0:=hq.cell 0;have x1:=hq.cell 1;have x2:=hc.cell 0;have x3:=hc.cell 1;simp at x0 x1 x2 x3;obtain ⟨HL,hf⟩:=zd2 he Hf;have Hj:=Ha.out.num;have h9:=Hb.out.num;clear hR hg hS hZ hs he Hf;obtain ⟨hC,hJ,Hy⟩:=zd3 hI hj hq;have hQ:=zI hc;obtain ⟨HH,hN,HD,Hw⟩:=zd4 h5 hB Hj h9;clear hI hj hq hc h5 hB Hj h9;go_wp2_with fail;have X3:=zI x3;clear x0 x1 x2 x3;refine (qa9 S C c d a w2 oZ oZ (Ha.out.later hC.out).r).mono ?_;rintro e w3 ⟨v,rfl,⟨g,h,rfl,hg,hh,hG,hH⟩,h2⟩;have hF:Later w2 w3:=h2;have hD:Later w3 (w3.alloc (.cells #[.slice (some ⟨g,0,none⟩) a.s.length a.s.length,.slice (some ⟨h,0,none⟩) a.c.length a.c.length] 30)):=(Later.refl w3).alloc _;have ho:=Blk.new w3 30 #[.slice (some ⟨g,0,none⟩) a.s.length a.s.length,.slice (some ⟨h,0,none⟩) a.c.length a.c.length];have hr:=hF.trans hD;have h8:=hC.out.trans hr;have Hs:=hr.blk hJ.out;have Hd:=hD.blk hG;have Hn:=hD.blk hH;have HS:=hC.out.size;have HK:=hF.size;have HU:=hH.lt;have HW:=hG.lt;have HO:=hJ.out.lt;have hT:=qb1 hG hH;have x3:=hr.cell X3.out;clear h2 hJ hG hH X3;have X3:=zI x3;clear x3;obtain ⟨HA,HI,Ho,HN,HF,Hu,HG,HB⟩:=zd8 hF hD ho hr h8 Hs Hd Hn;clear hF hD ho hr h8 Hs Hd Hn;go_upto_region 4 with fail;generalize w3.alloc (.cells #[.slice (some ⟨g,0,none⟩) a.s.length a.s.length,.slice (some ⟨h,0,none⟩) a.c.length a.c.length] 30)=w4 at *;generalize hpe:w3.heap.size=p at *;have HV:h<p:=by omega
 have HT:w.heap.size+2<p:=by omega
 have x3:=X3.out;clear X3 HI HA hpe;go_wp2_with fail;clear x3;have Hi:Blk w4 h 22 ((R.take 0++a.c.drop 0).map (Za1 .i64)).toArray:=by simpa using HB.out
 have Hc:=zI Hi;clear Hi
 go_loopw [19] (λi wx=>∃k:Nat,k<=b.c.length/\i=.int .i64 (k:Int)/\Blk wx h 22 ((R.take k++a.c.drop k).map (Za1 .i64)).toArray/\Blk wx p 30 #[.slice (some ⟨g,0,none⟩) a.s.length a.s.length,.slice (some ⟨h,0,none⟩) a.c.length a.c.length]/\Blk wx (w.heap.size+2) 30 #[.slice none 0 0,.slice none 0 0]/\Blk wx g 3 (a.s.map (Za1 .i64)).toArray/\Later w wx) (λi _=>b.c.length-(intOf i).toNat)
 case atStart=>exact ⟨0,Zt _,rfl,Hc.out,Ho.out,Hu.out,HG.out,HF.out⟩
 case round=>
  obtain ⟨k,hk,rfl,hm,hl,hd,hx,hp⟩:=hrel;clear Hc;have HR:b.c.length<=a.c.length:=Nat.le_of_eq HL.out
  by_cases Ht:k<b.c.length
  ·obtain ⟨b2,off2,rfl,-,HP⟩:=(Hb.out.later hp).cell Ht
   have hn:k<R.length:=by have:=hf.out;omega
   have hM:=Ly.mid_step R a.c hn hf.out;have he:=Ly.mid_len R a.c k oZ hf.out;obtain ⟨h7,Hp⟩:=Ly.mid_at R a.c (k:=k) oZ hf.out;have hO:=hm.row_get h7;rw [Hp,←Ly.at_get (show k<a.c.length by omega)] at hO;have h6:=HH.out k hn;have hE:=Ly.at_in HD.out k;have hA:=Ly.at_in Hw.out k;have h3:=λ(V:Zp1)=>qaM (Ly.at_ a.c k) (Ly.at_ b.c k) V hE hA
   rw [h6] at hM;generalize Ly.at_ a.c k=xk at *;generalize Ly.at_ b.c k=yk at *;have o1:wr.cell? ⟨p,1,none⟩=some (.slice (some ⟨h,0,none⟩) a.c.length a.c.length):=by rw [hl.cell];rfl
   have fu:=hm.frozen k
   have h0:Blk (wr.setCell ⟨h,k,none⟩ (.int .i64 (Fx.add xk yk))) h 22 ((R.take (k+1)++a.c.drop (k+1)).map (Za1 .i64)).toArray:=by
    have:=hm.set_ k (.int .i64 (Fx.add xk yk));rw [←hM,List.map_set];simpa using this
   have hu:=hl.far (p:=⟨h,k,none⟩) soZ (.int .i64 (Fx.add xk yk));have hw:=hd.far (p:=⟨h,k,none⟩) soZ (.int .i64 (Fx.add xk yk));have hv:Blk (wr.setCell ⟨h,k,none⟩ (.int .i64 (Fx.add xk yk))) g 3 (a.s.map (Za1 .i64)).toArray:=hx.far (p:=⟨h,k,none⟩) hT (.int .i64 (Fx.add xk yk));have hy:=hp.set (p:=⟨h,k,none⟩) soZ (.int .i64 (Fx.add xk yk));have kk1:(k:Int)<(a.c.length:Int):=by omega
   have kk2:(0:Int)<=(k:Int):=by omega
   have kk3:(k:Int)<(b.c.length:Int):=by omega
   clear he h6 hE hA hn h7 Hp;obtain ⟨Hm,Hx,Hv,Hg,HJ,hV,hU,hP,hX⟩:=zd9 hm hl hd hx h0 hu hw hv hy;obtain ⟨HQ,HC,Hq⟩:=zd3 hM h3 hp;clear hm hl hd hx h0 hu hw hv hy hM h3 hp;go_wp2_with fail
   go_region_law ((first
    | (go_simp;go_at_call 55;(with_reducible refine (HC.out _).mono ?_);rintro e wa ⟨rfl,rfl⟩)))
   all_goals
    go_wp2_with fail;go_roundw
    case rel=>exact ⟨k+1,by omega,by go_num,HJ.out.drew,hV.out.drew,hU.out.drew,hP.out.drew,hX.out.drew⟩
    case measure=>simp [intOf];omega
  ·have hW:k=a.c.length:=by have:=HL.out;omega
   rw [Ly.mid_end R a.c _ (by rw [hW];exact hf.out.symm) hf.out] at hm;obtain rfl:k=b.c.length:=by omega
   have HX:=zI hW;clear hW;have o0:wr.cell? ⟨p,0,none⟩=some (.slice (some ⟨g,0,none⟩) a.s.length a.s.length):=by rw [hl.cell];rfl
   have o1:wr.cell? ⟨p,1,none⟩=some (.slice (some ⟨h,0,none⟩) a.c.length a.c.length):=by rw [hl.cell];rfl
   have c0:=hd.cell 0;have c1:=hd.cell 1;have f0:=hd.frozen 0;have f1:=hd.frozen 1;simp at c0 c1;have hL:=(hd.set_ 0 (.slice (some ⟨g,0,none⟩) a.s.length a.s.length)).set_ 1 (.slice (some ⟨h,0,none⟩) a.c.length a.c.length);have d0:=hL.cell 0;have d1:=hL.cell 1;simp at d0 d1;have h4:g≠w.heap.size+2:=by omega
   have Hr:h≠w.heap.size+2:=by omega
   obtain ⟨Hm,Hx,Hv,Hg,Hq,HM⟩:=zd6 hm hl hd hx hp hL;clear hm hl hd hx hp hL;go_wp2_with fail;refine Zk1 (v:=.tuple #[.agg #[.slice (some ⟨g,0,none⟩) a.s.length a.s.length,.slice (some ⟨h,0,none⟩) a.c.length a.c.length],.int .i64 0]) (by simp [results,Tryz.results34,go_sem,d0,d1]) rfl ?_;refine GoP.ok HE.out (TenN.o ⟨g,h,by simp [hf.out],by omega,by omega,(Hg.out.far (p:=⟨w.heap.size+2,0,none⟩) h4 _).far (p:=⟨w.heap.size+2,1,none⟩) h4 _,(Hm.out.far (p:=⟨w.heap.size+2,0,none⟩) Hr _).far (p:=⟨w.heap.size+2,1,none⟩) Hr _⟩ (by show a.s.length<=_;omega) (by have:=hf.out;show R.length<=_;omega) hN.out) ((Hq.out.set (p:=⟨w.heap.size+2,0,none⟩) sZ _).set (p:=⟨w.heap.size+2,1,none⟩) sZ _)
theorem qd4 (S C S' C':Option Addr) (c d c' d':Nat) (b x:Ten) (w:Zp1) (hb:TenIn w S C c d b) (hx:TenIn w S' C' c' d' x):
  Calls Tryz.prog 95 #[.agg #[.slice S b.s.length c,.slice C b.c.length d],.agg #[.slice S' x.s.length c',.slice C' x.c.length d']] w (GoP (Ly.add x b) w):=by
 obtain ⟨ht,hn,hz,hp⟩:=qam w 30 30 30 #[.slice S b.s.length c,.slice C b.c.length d] #[.slice S' x.s.length c',.slice C' x.c.length d'] #[.slice none 0 0,.slice none 0 0];obtain ⟨hG,hE,Hz,hh,Hb,Hx⟩:=zd6 ht hn hz hp hb hx;clear ht hn hz hp hb hx;go_enter Tryz.func95,Tryz.ntmps95;go_wp2_with fail;generalize ((w.alloc (.cells #[.slice S b.s.length c,.slice C b.c.length d] 30)).alloc (.cells #[.slice S' x.s.length c',.slice C' x.c.length d'] 30)).alloc (.cells #[.slice none 0 0,.slice none 0 0] 30)=w1 at *;refine (qd3 S' C' S C c' d' c d x b w1 (Hx.out.later hh.out) (Hb.out.later hh.out)).mono ?_;rintro e wf hi;have hd:Later w1 wf:=hi.2;have ha:=hd.blk Hz.out;have hg:=hh.out.trans hd;have f0:=ha.frozen 0;have f1:=ha.frozen 1;have hj:w.heap.size<=w.heap.size+2:=by first|exact lrZ _|simp|omega
 rcases hi.1 with ⟨hl,rfl⟩|⟨hq,v,rfl,hc⟩
 ·have c0:=ha.cell 0
  have c1:=ha.cell 1;simp at c0 c1;have he:=hl;generalize hge:(Ly.add x b).2=ge at *;obtain ⟨hA,hu⟩:=zd2 hge he;clear he;clear hi hl hd hge;obtain ⟨hs,hk⟩:=zd2 ha hg;clear ha hg;go_wp2_with fail;refine Zk1 (v:=.tuple #[.agg #[.slice none 0 0,.slice none 0 0],.int .i64 ge]) (by simp [results,Tryz.results95,go_sem,c0,c1]) rfl ?_;exact GoP.fail2 hA.out hu.out ((hk.out.set (p:=⟨w.heap.size+2,0,none⟩) hj _).set (p:=⟨w.heap.size+2,1,none⟩) hj _)
 ·have hy:=hc.base (hh.out.size)
  clear hi hc;obtain ⟨S2,c2,C2,d2,rfl,hm,hr,ho⟩:=hy;have hf:=(ha.set_ 0 (.slice S2 (Ly.add x b).1.s.length c2)).set_ 1 (.slice C2 (Ly.add x b).1.c.length d2);have d0:=hf.cell 0;have d1:=hf.cell 1;simp at d0 d1;have c0:=ha.cell 0;have c1:=ha.cell 1;simp at c0 c1;obtain ⟨hB,hF,hs,hk,hD,hv,hw,hC⟩:=zd8 hq hf ha hg hd hm hr ho;clear hf ha hg hd hm hr ho hq;go_wp2_with fail;refine Zk1 (v:=.tuple #[.agg #[.slice S2 (Ly.add x b).1.s.length c2,.slice C2 (Ly.add x b).1.c.length d2],.int .i64 0]) (by simp [results,Tryz.results95,go_sem,d0,d1]) rfl ?_;exact ⟨.inr ⟨hB.out,_,rfl,TenO.box ⟨S2,c2,C2,d2,rfl,hv.out,hw.out,hC.out⟩ hs.out⟩,(hk.out.set (p:=⟨w.heap.size+2,0,none⟩) hj _).set (p:=⟨w.heap.size+2,1,none⟩) hj _⟩
namespace Pn
def tenIs (t:Ten) (s:List Int):Bool:=Tn.right t&&(t.s==s)
def parOk (ps:List Ten) (ss:List (List Int)) (k:Nat):Bool:=(List.range k).all λi=>tenIs (Ly.got ps i) (ss.getD i [])
def fits (n:NetD) (ps:List Ten) (x:Ten):Int:=
 if Nt.check n≠0 then Nt.check n else if ps.length≠(Nt.params n).length then 20 else if parOk ps (Nt.params n) (Nt.params n).length=false then 20 else if tenIs x n.inn then 0 else 20
theorem parOk_succ {ps:List Ten} {ss:List (List Int)} {k:Nat} (h:parOk ps ss k=true) (h2:tenIs (Ly.got ps k) (ss.getD k [])=true):parOk ps ss (k+1)=true:=by
 unfold parOk at h ⊢;rw [List.range_succ,List.all_append,h,List.all_cons,h2]
 rfl
theorem parOk_bad {ps:List Ten} {ss:List (List Int)} {k m:Nat} (hk:k<m) (h2:tenIs (Ly.got ps k) (ss.getD k [])=false):parOk ps ss m=false:=by
 unfold parOk;rw [List.all_eq_false];exact ⟨k,by simpa using hk,by rw [h2];simp⟩
end Pn
set_option maxRecDepth 20000 in
theorem qfg (A N P XS XC:Option Addr) (c d cp xc xd:Nat) (n:NetD) (ps:List Ten) (x:Ten) (w:Zp1) (hok:n.ok) (hR:NetR w A N n) (hd:n.nodes.length<=d) (hP:Tns w P ps) (lP:ps.length<=1048576) (hX:TenIn w XS XC xc xd x):
  Calls Tryz.prog 25 #[.agg #[.slice A n.inn.length c,.slice N n.nodes.length d],.slice P ps.length cp,.agg #[.slice XS x.s.length xc,.slice XC x.c.length xd]] w λe w'=>e=.returned (.int .i64 (Pn.fits n ps x))/\Below w.heap.size w w':=by
 have h2:=(Blk.new w 59 #[.slice A n.inn.length c,.slice N n.nodes.length d]).alloc (.cells #[.slice XS x.s.length xc,.slice XC x.c.length xd] 30);have hK:=Blk.new (w.alloc (.cells #[.slice A n.inn.length c,.slice N n.nodes.length d] 59)) 30 #[.slice XS x.s.length xc,.slice XC x.c.length xd];rw [Zh1] at hK;have hU:Later w ((w.alloc (.cells #[.slice A n.inn.length c,.slice N n.nodes.length d] 59)).alloc (.cells #[.slice XS x.s.length xc,.slice XC x.c.length xd] 30)):=((Later.refl w).alloc _).alloc _;have Hj:=hok.1;have lx1:=hX.l1;have lx2:=hX.l2;obtain ⟨hJ,HR,HP,HX,hN,Hc,hZ⟩:=zd7 hok hR hP hX h2 hK hU;clear hok hR hP hX h2 hK hU;go_enter Tryz.func25,Tryz.ntmps25;go_upto_region 1 with fail;generalize (w.alloc (.cells #[.slice A n.inn.length c,.slice N n.nodes.length d] 59)).alloc (.cells #[.slice XS x.s.length xc,.slice XC x.c.length xd] 30)=w1 at *;have a0:=hN.out.cell 0;have a1:=hN.out.cell 1;simp at a0 a1;go_wp2_with fail;refine (qfY A N c d n w1 hJ.out (HR.out.below hZ.out (lrZ _)) hd).mono ?_;rintro e w2 ⟨rfl,hQ⟩;have hj:Later w1 w2:=hQ;have hA:=hZ.out.trans hj;have hn:=hj.blk hN.out;have hD:=hj.blk Hc.out;clear hQ a0 a1
 by_cases hc:Nt.check n=0
 case neg=>
  have HE:=zI (show Pn.fits n ps x=Nt.check n by unfold Pn.fits;rw [ipZ hc]);have d2:(Nt.check n != 0)=true:=by simpa using hc
  clear hc;generalize Nt.check n=ge at *;obtain ⟨Hg,hF,h8,hV⟩:=zd4 hj hA hn hD;clear hj hA hn hD;go_wp2_with fail;go_ret;exact ⟨by (rw [HE.out]<;>rfl),hF.out⟩
 have he:=show Pn.fits n ps x=(if ps.length≠(Nt.params n).length then 20 else if Pn.parOk ps (Nt.params n) (Nt.params n).length=false then 20 else if Pn.tenIs x n.inn then 0 else 20) by unfold Pn.fits;rw [inZ oZ]
 rw [hc];clear hc;have a0:=hn.cell 0;have a1:=hn.cell 1;simp at a0 a1;obtain ⟨Hg,hF,h8,hV,He⟩:=zd5 hj hA hn hD he;clear hj hA hn hD he;go_wp2_with fail;refine (qfc A N c d n w2 hJ.out (HR.out.below hF.out (lrZ _))).mono ?_;rintro e w3 ⟨B,bc,rfl,hB,Hk,Hn,hW⟩;have ht:Later w2 w3:=hW;have h0:=hF.out.trans ht;have h7:=ht.blk h8.out;have h6:=ht.blk hV.out
 have h5:∀s∈Nt.params n,s.length<=1048576:=λs hs=>by
  unfold Nt.params at hs;obtain ⟨v,hv,Hf⟩:=List.mem_flatMap.1 hs;exact (hJ.out.2.2 v hv).2.2.2.2.1 s Hf
 clear hW a0 a1;generalize Nt.params n=ss at *;obtain ⟨Ho,hu,h9,Ha,HB,Hh⟩:=zd6 ht h0 h7 h6 hB h5;clear ht h0 h7 h6 hB h5
 by_cases hl:ps.length=ss.length
 case neg=>
  have HE:=zI (He.out.trans (ipZ hl));have d2:((ps.length:Int) != (ss.length:Int))=true:=by simp;omega
  clear hl;go_wp2_with fail;go_ret;exact ⟨by (rw [HE.out]<;>rfl),hu.out⟩
 have h1:=He.out.trans (inZ oZ);have d2:((ps.length:Int) != (ss.length:Int))=false:=by simp;omega
 have Hq:ss.length<=1048576:=by omega
 have Hl:=zI hl;clear hl;have hI:=zI h1;clear h1;go_wp2_with fail;clear d2
 go_loopw [25] (λi wx=>∃k:Nat,k<=ss.length/\i=.int .i64 (k:Int)/\Pn.parOk ps ss k=true/\Later w3 wx) (λi _=>ss.length-(intOf i).toNat)
 case atStart=>exact ⟨0,Zt _,rfl,rfl,Later.refl _⟩
 case round=>
  obtain ⟨k,hk,rfl,ha,hh⟩:=hrel
  by_cases ho:k<ss.length
  ·obtain ⟨b,off,T,tc,rfl,-,Hb,hY,Hp,Hm⟩:=(HB.out.below hh (lrZ _)) k ho
   have hL:k<ps.length:=by rw [Hl.out];exact ho
   obtain ⟨b',off',S',sc,C',cc,rfl,-,p0,p1,hT⟩:=(HP.out.later (hu.out.trans hh)).at_ hL;have Ht:=Hh.out _ (gmZ ho);have hS:ss.getD k []=ss[k]:=by rw [gdZ,geZ ho];rfl
   have hm:=λh=>Pn.parOk_bad (ps:=ps) (ss:=ss) (m:=ss.length) ho h
   have hb:=λh=>Pn.parOk_succ ha h
   rw [hS] at hm hb;have t1:=hT.l1;have t2:=hT.l2;have kk1:(k:Int)<(ss.length:Int):=by omega
   have kk2:(k:Int)<(ps.length:Int):=by omega
   generalize ss[k]=s at *;generalize Ly.got ps k=t at *;have hx:=λ(V:Zp1) (h:Later wr V)=>qa2 S' C' sc cc t V oZ oZ (hT.later h).r.1
   have hw:=λ(V:Zp1) (h:Later wr V)=>qa7 S' T sc tc t.s s V oZ oZ (hT.later h).r.1 (hY.below h (lrZ _))
   obtain ⟨Hd,hH,hp,hy,hg,hf⟩:=zd6 ha hh hm hb hx hw;clear ha hh hm hb hx hw;clear hY hT hS;cases hr:Tn.right t
   ·have HE:=zI (hI.out.trans (ipZ (hp.out (by unfold Pn.tenIs;rw [hr];rfl))))
    rw [hr] at hg;go_wp2_with fail;refine (hg.out _ (Later.refl _)).mono ?_;rintro e w4 ⟨rfl,hi⟩;go_wp2_with fail;go_ret;exact ⟨by (rw [HE.out]<;>rfl),(hu.out.trans hH.out).call hi⟩
   ·rw [hr] at hg
    go_wp2_with fail;refine (hg.out _ (Later.refl _)).mono ?_;rintro e w4 ⟨rfl,hi⟩;have h4:Later wr w4:=hi;have p0':=h4.cell p0;have p1':=h4.cell p1;clear p0 p1 Hb hi;cases hq:(t.s==s)
    ·have HE:=zI (hI.out.trans (ipZ (hp.out (by unfold Pn.tenIs;rw [hr,hq];rfl))))
     rw [hq] at hf;have H4:=zI h4;clear h4;go_wp2_with fail;refine (hf.out _ H4.out).mono ?_;rintro e w5 ⟨rfl,q5,rfl⟩;go_wp2_with fail;go_ret;exact ⟨by (rw [HE.out]<;>rfl),((hu.out.trans hH.out).trans H4.out).drewN q5⟩
    ·have HN:=zI (hy.out (by unfold Pn.tenIs;rw [hr,hq];rfl))
     rw [hq] at hf;clear hq;have H4:=zI h4;clear h4;go_wp2_with fail;refine (hf.out _ H4.out).mono ?_;rintro e w5 ⟨rfl,q5,rfl⟩;go_wp2_with fail;go_roundw
     case rel=>exact ⟨k+1,by omega,by go_num,HN.out,(hH.out.trans H4.out).drewN q5⟩
     case measure=>simp [intOf];omega
  ·obtain rfl:k=ss.length:=by omega
   have h3:=hI.out.trans (inZ (by show ¬Pn.parOk ps ss ss.length=false;rw [ha];simp));have hG:=hh.blk h9.out;have hE:=hh.blk Ha.out;have a0:=hG.cell 0;have a1:=hG.cell 1;have b0:=hE.cell 0;have b1:=hE.cell 1;simp at a0 a1 b0 b1;have hz:=hu.out.trans hh;have hC:=HX.out.later hz;have hx:=qa2 XS XC xc xd x wr oZ oZ hC.r.1;have hw:=λ(V:Zp1) (h:Later wr V)=>qa7 XS A xc c x.s n.inn V oZ oZ (hC.later h).r.1 (HR.out.1.below (hz.trans h) (lrZ _))
   clear ha;obtain ⟨hH,hO,Hr,Hi,hM,Hs,hg,hf⟩:=zd8 hh h3 hG hE hz hC hx hw;clear hh h3 hG hE hz hC hx hw;cases hr:Tn.right x
   ·have HE:=zI (hO.out.trans (inZ (by unfold Pn.tenIs;rw [hr];simp)))
    rw [hr] at hg;go_wp2_with fail;refine (hg.out).mono ?_;rintro e w4 ⟨rfl,hi⟩;go_wp2_with fail;go_ret;exact ⟨by (rw [HE.out]<;>rfl),hM.out.call hi⟩
   ·rw [hr] at hg
    go_wp2_with fail;refine (hg.out).mono ?_;rintro e w4 ⟨rfl,hi⟩;have h4:Later wr w4:=hi;have a0':=h4.cell a0;have b0':=h4.cell b0;clear a0 a1 b0 b1 hi;cases hq:(x.s==n.inn)
    ·have HE:=zI (hO.out.trans (inZ (by unfold Pn.tenIs;rw [hr,hq];simp)))
     rw [hq] at hf;have H4:=zI h4;clear h4;go_wp2_with fail;refine (hf.out _ H4.out).mono ?_;rintro e w5 ⟨rfl,q5,rfl⟩;go_wp2_with fail;go_ret;exact ⟨by (rw [HE.out]<;>rfl),(hM.out.trans H4.out).drewN q5⟩
    ·have HE:=zI (hO.out.trans (ipZ (by unfold Pn.tenIs;rw [hr,hq];rfl)))
     rw [hq] at hf;clear hq;have H4:=zI h4;clear h4;go_wp2_with fail;refine (hf.out _ H4.out).mono ?_;rintro e w5 ⟨rfl,q5,rfl⟩;go_wp2_with fail;go_ret;exact ⟨by (rw [HE.out]<;>rfl),(hM.out.trans H4.out).drewN q5⟩
theorem qcO {P:Program} (w:Zp1) (t ty e:TypeId) (i:TypeInfo) (ht:P.underlying t=some (.slice e)) (hi:P.info? e=some i) (g n cap c:Nat) (hn:n<=cap):
  (Builtin.append_ #[t,t] ty #[.slice (some ⟨g,0,none⟩) n cap,.slice none 0 c]).run P w=.ok (.slice (some ⟨g,0,none⟩) n cap) w:=by
 simp [Builtin.append_,run_underlying ht,sizeOf,typeInfo,hi,Builtin.lenOf,Builtin.firstCells,loadCells,storeCells,hn]
def RowT (w:Zp1) (vs:List Value) (ts:List Ten):Prop:=
 vs.length=ts.length*2/\∀j (hj:j<ts.length),∃S c C d,vs[j*2]? = some (.slice S ts[j].s.length c)/\vs[j*2+1]? = some (.slice C ts[j].c.length d)/\TenIn w S C c d ts[j]
theorem RowT.nil (w:Zp1):RowT w [] []:=⟨rfl,λj hj=>absurd hj sZ⟩
theorem RowT.one {w:Zp1} {S C:Option Addr} {c d:Nat} {t:Ten} (h:TenIn w S C c d t):RowT w [.slice S t.s.length c,.slice C t.c.length d] [t]:=by
 refine ⟨rfl,λj hj=>?_⟩;obtain rfl:j=0:=by simp at hj;omega
 exact ⟨S,c,C,d,rfl,rfl,h⟩
theorem RowT.below {w w':Zp1} {vs:List Value} {ts:List Ten} {B:Nat} (h:RowT w vs ts) (hb:Below B w w') (hB:w.heap.size<=B):RowT w' vs ts:=
 ⟨h.1,λj hj=>by obtain ⟨S,c,C,d,e1,e2,e3⟩:=h.2 j hj;exact ⟨S,c,C,d,e1,e2,e3.below hb hB⟩⟩
theorem RowT.append {w:Zp1} {vs us:List Value} {p x:List Ten} (h:RowT w vs p) (k:RowT w us x):RowT w (vs++us) (p++x):=by
 have hl:=h.1;refine ⟨by simp [h.1,k.1,Nat.add_mul],λj hj=>?_⟩
 by_cases e:j<p.length
 ·obtain ⟨S,c,C,d,e1,e2,e3⟩:=h.2 j e
  refine ⟨S,c,C,d,?_,?_,?_⟩
  ·rw [Zm oZ,e1];simp [e]
  ·rw [Zm oZ,e2];simp [e]
  ·simpa [e] using e3
 ·have ha:j-p.length<x.length:=by simp at hj;omega
  obtain ⟨S,c,C,d,e1,e2,e3⟩:=k.2 (j-p.length) ha;refine ⟨S,c,C,d,?_,?_,?_⟩
  ·rw [Zl oZ,show j*2-vs.length=(j-p.length)*2 by omega,e1,List.getElem_append_right oZ]
  ·rw [Zl oZ,show j*2+1-vs.length=(j-p.length)*2+1 by omega,e2,List.getElem_append_right oZ]
  ·rw [List.getElem_append_right oZ];exact e3
theorem RowT.cell {w:Zp1} {vs:List Value} {ts:List Ten} (h:RowT w vs ts):∀u∈vs,∃A n c,u=.slice A n c:=λu hu=>by
 obtain ⟨k,hk,rfl⟩:=List.getElem_of_mem hu;have hl:=h.1;obtain ⟨S,c,C,d,e1,e2,-⟩:=h.2 (k / 2) oZ;rcases Nat.mod_two_eq_zero_or_one k with e|e
 ·have ha:k / 2*2=k:=by omega
  rw [ha,geZ hk] at e1;injection e1 with e1
  exact ⟨_,_,_,e1⟩
 ·have ha:k / 2*2+1=k:=by omega
  rw [ha,geZ hk] at e2;injection e2 with e2
  exact ⟨_,_,_,e2⟩
theorem RowT.slices {w:Zp1} {vs:List Value} {ts:List Ten} (h:RowT w vs ts):∀u∈vs,u.oneCell'=true:=λu hu=>by
 obtain ⟨A,n,c,rfl⟩:=h.cell u hu
 rfl
def qac (w:Zp1) (ad:Addr) (n:Nat):List Value:=(List.range n).map λj=>(w.cell? (ad.add j)).getD undef
theorem qbG {w:Zp1} {ad:Addr} {n j:Nat} (hj:j<n):(qac w ad n)[j]? = some ((w.cell? (ad.add j)).getD undef):=by simp [qac,hj]
theorem qaN (b off k:Nat):(⟨b,off,none⟩:Addr).add k=⟨b,off+k,none⟩:=by simp [Addr.add]
theorem Tns.rowT {w:Zp1} {ad:Addr} {ts:List Ten} (h:Tns w (some ad) ts):RowT w (qac w ad (ts.length*2)) ts/\∀j u,(qac w ad (ts.length*2))[j]? = some u->w.cell? (ad.add j)=some u:=by
 refine ⟨⟨by simp [qac],λj hj=>?_⟩,λj u hu=>?_⟩
 ·obtain ⟨b,off,S,c,C,d,e,hl,c0,c1,hT⟩:=h j hj
  injection e with e
  subst e;refine ⟨S,c,C,d,?_,?_,hT⟩
  ·rw [qbG oZ,qaN,c0];rfl
  ·rw [qbG oZ,qaN,←Nat.add_assoc,c1];rfl
 ·have hj:j<ts.length*2:=by
   rcases Nat.lt_or_ge j (ts.length*2) with hk|hk
   ·exact hk
   ·rw [Zi (by simpa [qac] using hk)] at hu;cases hu
  rw [qbG hj] at hu;obtain ⟨b,off,S,c,C,d,e,hl,c0,c1,hT⟩:=h (j / 2) oZ;injection e with e
  subst e;rw [qaN] at hu ⊢;rcases Nat.mod_two_eq_zero_or_one j with e|e
  ·rw [show j / 2*2=j by omega] at c0
   rw [c0] at hu ⊢;exact hu
  ·rw [Nat.add_assoc,show j / 2*2+1=j by omega] at c1
   rw [c1] at hu ⊢;exact hu
theorem Tns.nil_of {w:Zp1} {ts:List Ten} (h:Tns w none ts):ts=[]:=by
 rcases ts with _|⟨t,r⟩
 ·rfl
 ·obtain ⟨_,_,_,_,_,_,e,_⟩:=h 0 sZ
  cases e
theorem Tns.nil (w:Zp1) (A:Option Addr):Tns w A []:=λj hj=>absurd hj sZ
theorem RowT.tns {w w':Zp1} {vs:List Value} {ts:List Ten} {B n:Nat} {t:TypeId} {v:Value} (h:RowT w vs ts) (hown:w'.ownsRow B t 2 v n vs) (hb:Below w.heap.size w w'):
  ∃A c,v=.slice A ts.length c/\n=ts.length/\Tns w' A ts/\ts.length<=c/\c<=9223372036854775807:=by
 have hn:n=ts.length:=by have:=hown.1;have:=h.1;omega
 subst hn;rcases hown.2 with ⟨rfl,h0⟩|⟨g,cap,cur,rfl,hB,hh,r1,r2,r3,r4⟩
 ·have:ts=[]:=List.eq_nil_of_length_eq_zero h0
  subst this;exact ⟨none,0,rfl,rfl,Tns.nil _ _,by simp,by omega⟩
 ·refine ⟨_,cap,rfl,rfl,λj hj=>?_,r1,by unfold maxLen at r2;omega⟩
  obtain ⟨S,c,C,d,e1,e2,e3⟩:=h.2 j hj;refine ⟨g,0,S,c,C,d,rfl,lt_of_block hh,?_,?_,e3.below hb (lrZ _)⟩
  ·rw [Zw,hown.cellAt (j*2) oZ]
   exact e1
  ·rw [Zw,hown.cellAt (j*2+1) oZ]
   exact e2
theorem qcF:(Tryz.prog.info? 30).map (λi=>(i.zero,i.size,i.bytes))=some (some (.agg #[.slice none 0 0,.slice none 0 0]),2,48):=by kernel_rfl
def TnsO (B:Nat) (w:Zp1) (A:Option Addr) (ts:List Ten):Prop:=
 (∀a,A=some a->∃b,a=⟨b,0,none⟩/\B<=b/\b<w.heap.size/\∀k,w.frozen? ⟨b,k,none⟩=false)/\
 ∀j (hj:j<ts.length),∃b S c C d,A=some ⟨b,0,none⟩/\w.cell? ⟨b,j*2,none⟩=some (.slice S ts[j].s.length c)/\w.cell? ⟨b,j*2+1,none⟩=some (.slice C ts[j].c.length d)/\TenO B w (.agg #[.slice S ts[j].s.length c,.slice C ts[j].c.length d]) ts[j]
def GoL (r:List Ten × Int) (w:Zp1) (e:Ending) (w':Zp1):Prop:=
 (r.2≠0/\e=.returned (.tuple #[.slice none 0 0,.int .i64 r.2])∨r.2=0/\∃A,e=.returned (.tuple #[.slice A r.1.length r.1.length,.int .i64 0])/\TnsO w.heap.size w' A r.1)/\Below w.heap.size w w'
theorem GoL.fail {n:Int} {r:List Ten × Int} {w w':Zp1} (hr:r=([],n)) (hn:n≠0) (hb:Below w.heap.size w w'):GoL r w (.returned (.tuple #[.slice none 0 0,.int .i64 n])) w':=by
 subst hr;exact ⟨.inl ⟨hn,rfl⟩,hb⟩
theorem TnsO.tns {B:Nat} {w:Zp1} {A:Option Addr} {ts:List Ten} (h:TnsO B w A ts):Tns w A ts:=λj hj=>by
 obtain ⟨b,S,c,C,d,e,c0,c1,hO⟩:=h.2 j hj;obtain ⟨S',c',C',d',e',hT,-,-⟩:=hO;simp at e';obtain ⟨⟨rfl,rfl⟩,rfl,rfl⟩:=e';obtain ⟨b',e3,-,hb,-⟩:=h.1 _ e;injection e3 with e3 _ _
 subst e3;exact ⟨b,0,S,c,C,d,e,hb,by rw [Zw];exact c0,by rw [Zw];exact c1,hT⟩
theorem GoL.ok {ts:List Ten} {r:List Ten × Int} {A:Option Addr} {w w':Zp1} (hr:r=(ts,0)) (h:TnsO w.heap.size w' A ts) (hb:Below w.heap.size w w'):GoL r w (.returned (.tuple #[.slice A ts.length ts.length,.int .i64 0])) w':=by
 subst hr;exact ⟨.inr ⟨rfl,A,rfl,h⟩,hb⟩
theorem qb6 {B:Nat} {w:Zp1} {g h n:Nat} {s c:List Int} (hg:Blk w g 3 (s.map (Za1 .i64)).toArray) (hh:Blk w h 22 (c.map (Za1 .i64)).toArray) (b1:B<=g) (b2:B<=h) (l1:s.length<=1048576) (l2:c.length<=1048576) (hin:∀z∈c,Fx.In z) (hn:c.length=n):
  TenO B w (.agg #[.slice (some ⟨g,0,none⟩) s.length s.length,.slice (some ⟨h,0,none⟩) c.length n]) ⟨s,c⟩:=by
 subst hn;refine ⟨some ⟨g,0,none⟩,s.length,some ⟨h,0,none⟩,c.length,rfl,⟨⟨hg.intsL,hh.intsL⟩,lrZ _,by omega,lrZ _,by omega,l1,l2,hin⟩,λa e=>?_,λa e=>?_⟩
 ·injection e with e;subst e;exact b1
 ·injection e with e;subst e;exact ⟨b2,hh.lt,λj=>hh.frozen j⟩
theorem qge {w:Zp1} {B e size n g:Nat} {xs:List Value} (h:w.ownsRow B e size (.slice (some ⟨g,0,none⟩) n n) n xs):Blk w g e xs.toArray:=by
 rcases h.2 with ⟨h1,_⟩|⟨g',cap,cur,e1,_,hh,_,_,hs,ht⟩
 ·cases h1
 ·injection e1 with e1 _ e2
  injection e1 with e1
  injection e1 with e1 _ _
  subst e1 e2;have:cur.toList=xs:=by rw [←ht,List.take_of_length_le soZ]
  rw [←this];exact hh
namespace Ly
theorem pointBack_err {kind k:Int} {g:Ten} {x:List Ten} (h:ptAgree kind x≠0):pointBack kind k g x=([],ptAgree kind x):=by unfold pointBack;rw [inZ h]
theorem pointBack_bad {kind k:Int} {g:Ten} {x:List Ten} (h:ptAgree kind x=0) (hg:(Tn.right g&&(g.s==(got x 0).s))=false):pointBack kind k g x=([],20):=by
 unfold pointBack;rw [ipZ h,inZ];intro hh;rw [Zz,decide_eq_true_eq] at hh;rw [hh.1,hh.2] at hg;simp at hg
theorem pointBack_ok1 {kind k:Int} {g:Ten} {x:List Ten} (h:ptAgree kind x=0) (hr:Tn.right g=true) (hs:g.s=(got x 0).s) (hn:x.length=1):
  pointBack kind k g x=([⟨(got x 0).s,tab (got x 0).c.length λi=>(slopes kind k x g i).1⟩],0):=by
 unfold pointBack;rw [ipZ h,ipZ (by rw [hr,hs];simp),ipZ oZ]
theorem pointBack_ok2 {kind k:Int} {g:Ten} {x:List Ten} (h:ptAgree kind x=0) (hr:Tn.right g=true) (hs:g.s=(got x 0).s) (hn:x.length=2):
  pointBack kind k g x=([⟨(got x 0).s,tab (got x 0).c.length λi=>(slopes kind k x g i).1⟩,⟨(got x 1).s,tab (got x 0).c.length λi=>(slopes kind k x g i).2⟩],0):=by
 unfold pointBack;rw [ipZ h,ipZ (by rw [hr,hs];simp),inZ oZ]
end Ly
set_option maxRecDepth 20000 in
theorem qev (kind k0:Int) (A GS GC:Option Addr) (f gc gd:Nat) (g:Ten) (x:List Ten) (w:Zp1) (hn:x.length=1) (hT:Tns w A x) (hG:TenIn w GS GC gc gd g) (hk0:Fx.In k0):
  Calls Tryz.prog 18 #[.int .i64 kind,.int .i64 k0,.agg #[.slice GS g.s.length gc,.slice GC g.c.length gd],.slice A x.length f] w (GoL (Ly.pointBack kind k0 g x) w):=by
 have HQ:Later w (w.alloc (.cells #[.slice GS g.s.length gc,.slice GC g.c.length gd] 30)):=(Later.refl w).alloc _;have hk:=Blk.new w 30 #[.slice GS g.s.length gc,.slice GC g.c.length gd];have gj:1<=x.length:=by omega
 have gf:x.length<=1:=by omega
 have gb:0<x.length:=by omega
 obtain ⟨HT,Hi,Hk,HW,HG,Hn⟩:=zd6 hT HQ hk hk0 hG hn;clear hT HQ hk hk0 hG hn;go_enter Tryz.func18,Tryz.ntmps18;go_wp2_with fail;generalize w.alloc (.cells #[.slice GS g.s.length gc,.slice GC g.c.length gd] 30)=w1 at *;refine (qbF kind A f x w1 oZ (HT.out.later Hi.out)).mono ?_;rintro e w2 ⟨rfl,Hd⟩;have hx:=Hi.out.call Hd;have hF:=(show Later w1 w2 from Hd).blk Hk.out;clear Hd Hk Hi
 by_cases hg:Ly.ptAgree kind x=0
 case neg=>
  have HE:=zI (Ly.pointBack_err (k:=k0) (g:=g) hg);have d1:(Ly.ptAgree kind x==0)=false:=by simpa using hg
  have d2:(Ly.ptAgree kind x != 0)=true:=by simpa using hg
  have Hg:=zI hg;clear hg;generalize Ly.ptAgree kind x=ge at *;obtain ⟨hH,Hm⟩:=zd2 hx hF;clear hx hF;go_wp2_with fail;refine Zk1 (v:=.tuple #[.slice none 0 0,.int .i64 ge]) (by simp [results,Tryz.results18,go_sem]) rfl ?_;exact GoL.fail HE.out Hg.out hH.out
 obtain ⟨k1,k7,-,l1,l2,hZ⟩:=Ly.agree_yes hg;rw [hg];obtain ⟨HJ,-⟩:=Ly.ok_right (hZ _ (by rw [qan (show 0<x.length by omega)];exact gmZ _):Ly.okTo x (Ly.got x 0)=true);have h8:=zI hg;clear hg hZ;obtain ⟨b,off,S,sc,C,cd,rfl,gg,z0,z1,ht⟩:=(HT.out.later hx).first oZ
 obtain ⟨r1,r2⟩:=Ly.right_ok HJ;have u0:=hF.cell 0;have u1:=hF.cell 1;simp at u0 u1;have lg1:=HG.out.l1;have lg2:=HG.out.l2;have HI:=λ(V:Zp1) (h:Later w2 V)=>qa2 GS GC gc gd g V oZ oZ (HG.out.later (hx.trans h)).r.1
 have HH:=λ(V:Zp1) (h:Later w2 V)=>qa7 GS S gc sc g.s (Ly.got x 0).s V oZ oZ (HG.out.later (hx.trans h)).r.1 (ht.later h).r.1
 have hE:(Tn.right g&&(g.s==(Ly.got x 0).s))=false->Ly.pointBack kind k0 g x=([],20):=Ly.pointBack_bad (h8.out);obtain ⟨hH,Hm,Ht,hB,hX,HE⟩:=zd6 hx hF ht HI HH hE;clear hx hF ht HI HH hE;cases hgr:Tn.right g
 ·have HE:=zI (HE.out (by rw [hgr];rfl))
  rw [hgr] at hB;clear HE;have HE:=zI (Ly.pointBack_bad (k:=k0) h8.out (by rw [hgr];rfl:(Tn.right g&&(g.s==(Ly.got x 0).s))=false));go_wp2_with fail;have KF:=zI (show ∀Xw,Later w2 Xw->Xw.cell? ⟨w.heap.size,0,none⟩=some (.slice GS g.s.length gc)/\Xw.cell? ⟨w.heap.size,1,none⟩=some (.slice GC g.c.length gd) from λXw h=>⟨h.cell u0,h.cell u1⟩);refine Zm1 ?_;refine Zl1 (S:=λXw=>Xw.cell? ⟨w.heap.size,0,none⟩=some (.slice GS g.s.length gc)/\Xw.cell? ⟨w.heap.size,1,none⟩=some (.slice GC g.c.length gd)) krZ (KF.out _ Lau) (λhHeld=>?_);refine tk 0 ?_;refine rd 1 λK hK=>?_
  simp only [ga,gs,gz]
  go_simp
  go_at_call 51;(with_reducible refine (hB.out _ (Lau:Later w2 _)).mono ?_);rintro e wa ⟨rfl,hJ⟩
  try go_wp2_with fail
  refine hK.out _ _ (KF.out _ Lau) (λhHeld=>?_);clear hK K
  try simp only [ga,gs,gz,Act.put,sa,sz,ss]
  refine tk 2 ?_;refine tk 3 ?_;refine tn 4 ?_;refine tn 5 ?_;refine tn 6 ?_;refine tn 7 ?_;refine tn 8 ?_;refine tn 9 ?_;refine rd 10 λK hK=>?_
  simp only [ga,gs,gz]
  go_simp
  refine hK.out _ _ (KF.out _ Lau) (λhHeld=>?_);clear hK K
  try simp only [ga,gs,gz,Act.put,sa,sz,ss]
  refine tn 11 ?_;refine tk 12 ?_;clear KF;refine Zn1 krZ ?_ _;refine Zd1 ?_;have hb:Later w2 wa:=(Lau:Later w2 wa)
  have hh:=hH.out.trans hb;clear hJ hHeld u0 u1 z0 z1;obtain ⟨HM,hf⟩:=zd2 hb hh;clear hb hh;go_wp2_with fail;refine Zk1 (v:=.tuple #[.slice none 0 0,.int .i64 20]) (by simp [results,Tryz.results18,go_sem]) rfl ?_;exact GoL.fail HE.out dZ hf.out
 rw [hgr] at hB;cases hge:(g.s==(Ly.got x 0).s)
 ·rw [hge] at hX
  clear HE;have HE:=zI (Ly.pointBack_bad (k:=k0) h8.out (by rw [hge,Bool.and_false]:(Tn.right g&&(g.s==(Ly.got x 0).s))=false));go_wp2_with fail;have KF:=zI (show ∀Xw,Later w2 Xw->Xw.cell? ⟨w.heap.size,0,none⟩=some (.slice GS g.s.length gc)/\Xw.cell? ⟨w.heap.size,1,none⟩=some (.slice GC g.c.length gd)/\Xw.cell? ⟨b,off,none⟩=some (.slice S (Ly.got x 0).s.length sc) from λXw h=>⟨h.cell u0,h.cell u1,h.cell z0⟩);refine Zm1 ?_;refine Zl1 (S:=λXw=>Xw.cell? ⟨w.heap.size,0,none⟩=some (.slice GS g.s.length gc)/\Xw.cell? ⟨w.heap.size,1,none⟩=some (.slice GC g.c.length gd)/\Xw.cell? ⟨b,off,none⟩=some (.slice S (Ly.got x 0).s.length sc)) krZ (KF.out _ Lau) (λhHeld=>?_);refine tk 0 ?_;refine rd 1 λK hK=>?_
  simp only [ga,gs,gz]
  go_simp
  go_at_call 51;(with_reducible refine (hB.out _ (Lau:Later w2 _)).mono ?_);rintro e wa ⟨rfl,hJ⟩
  try go_wp2_with fail
  refine hK.out _ _ (KF.out _ Lau) (λhHeld=>?_);clear hK K
  try simp only [ga,gs,gz,Act.put,sa,sz,ss]
  refine tk 2 ?_;refine tk 3 ?_;refine tk 4 ?_;refine tk 5 ?_;refine tk 6 ?_;refine tk 7 ?_;refine tk 8 ?_;refine tk 9 ?_;refine rd 10 λK hK=>?_
  simp only [ga,gs,gz]
  go_simp
  go_at_call 43;(with_reducible refine (hX.out _ (Lau:Later w2 _)).mono ?_);rintro e wb ⟨rfl,nb,rfl⟩
  try go_wp2_with fail
  refine hK.out _ _ (KF.out _ Lau) (λhHeld=>?_);clear hK K
  try simp only [ga,gs,gz,Act.put,sa,sz,ss]
  refine tk 11 ?_;refine tk 12 ?_;clear KF;refine Zn1 krZ ?_ _;refine Zd1 ?_;have hb:Later w2 (wa.drewN nb):=(Lau:Later w2 (wa.drewN nb))
  have hh:=hH.out.trans hb;clear hJ hHeld u0 u1 z0 z1;obtain ⟨HM,hf⟩:=zd2 hb hh;clear hb hh;go_wp2_with fail;refine Zk1 (v:=.tuple #[.slice none 0 0,.int .i64 20]) (by simp [results,Tryz.results18,go_sem]) rfl ?_;exact GoL.fail HE.out dZ hf.out
 rw [hge] at hX;have Hb:g.s=(Ly.got x 0).s:=by simpa using hge
 have HC:=Ly.same_len hgr HJ Hb;clear HE;have HE:=zI (Ly.pointBack_ok1 (k:=k0) h8.out hgr Hb Hn.out);obtain ⟨gh,H2⟩:=zd2 Hb HC;clear Hb HC;clear hge;go_wp2_with fail;have KF:=zI (show ∀Xw,Later w2 Xw->Xw.cell? ⟨w.heap.size,0,none⟩=some (.slice GS g.s.length gc)/\Xw.cell? ⟨w.heap.size,1,none⟩=some (.slice GC g.c.length gd)/\Xw.cell? ⟨b,off,none⟩=some (.slice S (Ly.got x 0).s.length sc) from λXw h=>⟨h.cell u0,h.cell u1,h.cell z0⟩);refine Zm1 ?_;refine Zl1 (S:=λXw=>Xw.cell? ⟨w.heap.size,0,none⟩=some (.slice GS g.s.length gc)/\Xw.cell? ⟨w.heap.size,1,none⟩=some (.slice GC g.c.length gd)/\Xw.cell? ⟨b,off,none⟩=some (.slice S (Ly.got x 0).s.length sc)) krZ (KF.out _ Lau) (λhHeld=>?_);refine tk 0 ?_;refine rd 1 λK hK=>?_
 simp only [ga,gs,gz]
 go_simp
 go_at_call 51;(with_reducible refine (hB.out _ (Lau:Later w2 _)).mono ?_);rintro e wa ⟨rfl,hJ⟩
 try go_wp2_with fail
 refine hK.out _ _ (KF.out _ Lau) (λhHeld=>?_);clear hK K
 try simp only [ga,gs,gz,Act.put,sa,sz,ss]
 refine tk 2 ?_;refine tk 3 ?_;refine tk 4 ?_;refine tk 5 ?_;refine tk 6 ?_;refine tk 7 ?_;refine tk 8 ?_;refine tk 9 ?_;refine rd 10 λK hK=>?_
 simp only [ga,gs,gz]
 go_simp
 go_at_call 43;(with_reducible refine (hX.out _ (Lau:Later w2 _)).mono ?_);rintro e wb ⟨rfl,nb,rfl⟩
 try go_wp2_with fail
 refine hK.out _ _ (KF.out _ Lau) (λhHeld=>?_);clear hK K
 try simp only [ga,gs,gz,Act.put,sa,sz,ss]
 refine tk 11 ?_;refine tk 12 ?_;clear KF;refine Zn1 krZ ?_ _;refine Zd1 ?_;have hb:Later w2 (wa.drewN nb):=(Lau:Later w2 (wa.drewN nb))
 have hh:=hH.out.trans hb;have HR:=hb.blk Hm.out;have Hu:=Ht.out.later hb;have z0a:=hb.cell z0;have z1a:=hb.cell z1
 skip
 skip
 skip
 clear hJ hHeld u0 u1 z0 z1 Ht Hm hH hB hX;generalize wa.drewN nb=w3 at *;rw [Hn.out];have HL:∀i,Ly.slopes kind k0 x g i=Ly.slope kind k0 (Ly.at_ (Ly.got x 0).c i) (Ly.second x i) (Ly.at_ g.c i):=λ_=>rfl
 have h5:=Hu.num
 have hd:∀i,Fx.In (Ly.second x i):=λi=>by
  unfold Ly.second
  split
  ·exact Fx.in_zero
  ·exact Ly.at_in (Ly.got_in HT.out.in_ 1) i
 have Hj:2<=x.length->(Ly.got x 1).c.length=(Ly.got x 0).c.length:=λh=>by omega
 have hR:(Ly.tab (Ly.got x 0).c.length λi=>(Ly.slopes kind k0 x g i).1).length=(Ly.got x 0).c.length:=by rw [Ly.tab_len]
 have h6:∀i (hi:i<(Ly.tab (Ly.got x 0).c.length λi=>(Ly.slopes kind k0 x g i).1).length),(Ly.tab (Ly.got x 0).c.length λi=>(Ly.slopes kind k0 x g i).1)[i]=(Ly.slopes kind k0 x g i).1:=λi hi=>Ly.tab_get hi
 have ho:∀z∈(Ly.tab (Ly.got x 0).c.length λi=>(Ly.slopes kind k0 x g i).1),Fx.In z:=Ly.tab_in λi _=>(Ly.slope_in (Ly.at_in HG.out.num i)).1
 generalize (Ly.tab (Ly.got x 0).c.length λi=>(Ly.slopes kind k0 x g i).1)=R0 at *;have hW:=zI (λ(k:Nat) (hk:k<(Ly.got x 0).c.length) (h2:2<=x.length)=>(show k<(Ly.got x 1).c.length by omega));clear Hj;generalize htq0:Ly.got x 0=t0 at *;have H7:=zI htq0;clear htq0;clear hHeld;obtain ⟨H8,Hs,hz,hf,HF,HM,ha,Hp,h3⟩:=zd9 HL h5 hd hh HR hb hR h6 ho;obtain ⟨HK,hO,hM⟩:=zd3 Hu z0a z1a;clear HL h5 hd hh HR hb hR h6 ho Hu z0a z1a;obtain ⟨i0,hi,HO,HN,HB⟩:=info_parts qcF;go_wp2_with (at_make;refine wpList_make_full _ rfl _ _ 27 rfl w.heap.size 30 i0 (.agg #[.slice none 0 0,.slice none 0 0]) 2 Tryz.underlying27 hi HO HN _ _ _ _ 1 rfl rfl (by first|rfl|simp) (by first|rfl|simp) ?b2 ?b3 hf.out.size ?_)
 case b2=>rw [HB];omega
 case b3=>unfold maxLen;omega
 intro v0 hown hgrow;clear hi HO HN HB;have hp:Blk v0 w3.heap.size 30 #[.slice none 0 0,.slice none 0 0]:=by have h:=qge hown;simpa [madeCells,List.range_succ] using h
 have HA:Later w3 v0:=(Ze1 _ w3).grown hgrow (lrZ _) sZ;have H5:=hf.out.size;have gi:=HF.out.lt;clear hown hgrow;obtain ⟨hY,Hv⟩:=zd2 hp HA;clear hp HA;go_wp2_with fail;refine wp_loop_rounds 2 ?_;rw [rounds_succ];have y0:=Hv.out.cell hO.out;have y1:=Hv.out.cell hM.out;go_wp2_with fail;have Hc:=Hv.out.alloc (.cells #[.slice S t0.s.length sc,.slice C t0.c.length cd] 30);have He:=(hY.out).alloc (.cells #[.slice S t0.s.length sc,.slice C t0.c.length cd] 30);clear y0 y1;generalize v0.alloc (.cells #[.slice S t0.s.length sc,.slice C t0.c.length cd] 30)=vb at *;refine (qa9 S C sc cd t0 vb oZ oZ (HK.out.later Hc).r).mono ?_;rintro e vc ⟨v,rfl,⟨g0,h0,rfl,gn,gl,h9,Ha⟩,HU⟩;have hs:Later vb vc:=HU;have HP:=Hc.trans hs;have hD:=hs.blk He;have H6:=He.lt;have H9:=Hc.size;have H1:=h9.lt;have H3:=Ha.lt;have x0:=hD.cell 0;have x1:=hD.cell 1;have fr0:=hD.frozen 0;have fr1:=hD.frozen 1;simp at x0 x1
 have Hr:g0≠h0:=λe=>by
  subst e;have:=h9.symm.trans Ha;simp at this
 have HY:w3.heap.size<=g0:=by omega
 have Hh:w3.heap.size<=h0:=by omega
 have hL:g0≠w3.heap.size:=by omega
 have hy:h0≠w3.heap.size:=by omega
 have hm:Blk ((vc.setCell ⟨w3.heap.size,0,none⟩ (.slice (some ⟨g0,0,none⟩) t0.s.length t0.s.length)).setCell ⟨w3.heap.size,1,none⟩ (.slice (some ⟨h0,0,none⟩) t0.c.length t0.c.length)) w3.heap.size 30 #[.slice (some ⟨g0,0,none⟩) t0.s.length t0.s.length,.slice (some ⟨h0,0,none⟩) t0.c.length t0.c.length]:=by
  have:=(hD.set_ 0 (.slice (some ⟨g0,0,none⟩) t0.s.length t0.s.length)).set_ 1 (.slice (some ⟨h0,0,none⟩) t0.c.length t0.c.length);simpa using this
 have HV:Later w3 ((vc.setCell ⟨w3.heap.size,0,none⟩ (.slice (some ⟨g0,0,none⟩) t0.s.length t0.s.length)).setCell ⟨w3.heap.size,1,none⟩ (.slice (some ⟨h0,0,none⟩) t0.c.length t0.c.length)):=(HP.set (p:=⟨w3.heap.size,0,none⟩) (lrZ _) _).set (p:=⟨w3.heap.size,1,none⟩) (lrZ _) _;have h1:=(h9.far (p:=⟨w3.heap.size,0,none⟩) hL (.slice (some ⟨g0,0,none⟩) t0.s.length t0.s.length)).far (p:=⟨w3.heap.size,1,none⟩) hL (.slice (some ⟨h0,0,none⟩) t0.c.length t0.c.length);have h4:=(Ha.far (p:=⟨w3.heap.size,0,none⟩) hy (.slice (some ⟨g0,0,none⟩) t0.s.length t0.s.length)).far (p:=⟨w3.heap.size,1,none⟩) hy (.slice (some ⟨h0,0,none⟩) t0.c.length t0.c.length);obtain ⟨hl,Hl,hS,hN⟩:=zd4 hm HV h1 h4;clear hm HV h1 h4;clear HU hs HP hD h9 Ha Hc He;go_wp2_with fail;generalize (vc.setCell ⟨w3.heap.size,0,none⟩ (.slice (some ⟨g0,0,none⟩) t0.s.length t0.s.length)).setCell ⟨w3.heap.size,1,none⟩ (.slice (some ⟨h0,0,none⟩) t0.c.length t0.c.length)=v1 at *;clear x0 x1 fr0 fr1;rw [rounds_succ];have y0:=Hl.out.cell hO.out;have y1:=Hl.out.cell hM.out;go_wp2_with fail;clear y0 y1;have HD:Blk v1 h0 22 ((R0.take 0++t0.c.drop 0).map (Za1 .i64)).toArray:=by simpa using hN.out
 have HS:=zI HD;clear HD
 go_loopw [58] (λi wx=>∃k:Nat,k<=t0.c.length/\i=.int .i64 (k:Int)/\Blk wx h0 22 ((R0.take k++t0.c.drop k).map (Za1 .i64)).toArray/\Blk wx g0 3 (t0.s.map (Za1 .i64)).toArray/\Blk wx w3.heap.size 30 #[.slice (some ⟨g0,0,none⟩) t0.s.length t0.s.length,.slice (some ⟨h0,0,none⟩) t0.c.length t0.c.length]/\Later w3 wx) (λi _=>t0.c.length-(intOf i).toNat)
 case atStart=>exact ⟨0,Zt _,rfl,HS.out,hS.out,hl.out,Hl.out⟩
 case round=>
  obtain ⟨k,hk,rfl,hv,he,hA,hr⟩:=hrel;clear HS hS hN hl
  by_cases h7:k<t0.c.length
  ·obtain ⟨bc,oc,rfl,-,gm⟩:=(HK.out.later hr).cell h7
   have Ho:k<g.c.length:=by rw [H2.out];exact h7
   obtain ⟨bg,og,rfl,-,H4⟩:=(HG.out.later (hf.out.trans hr)).cell Ho;have u1:wr.cell? ⟨w.heap.size,1,none⟩=some (.slice (some ⟨bg,og,none⟩) g.c.length gd):=by rw [(hr.blk HF.out).cell];rfl
   have hU:=Ly.at_in Hs.out k;have hI:=hz.out k;have hQ:=Ly.at_in HG.out.num k;have Hf:=λ(V:Zp1) (hV:Later w V)=>qbg (some ⟨b,off,none⟩) f x k V oZ (HT.out.later hV) (hW.out k h7)
   have Hq:=λ(V:Zp1)=>qcD kind k0 (Ly.at_ t0.c k) (Ly.second x k) (Ly.at_ g.c k) V k1 k7 HW.out hU hI hQ
   rw [Hn.out] at Hf;rw [←H8.out k] at Hq;have rr1:=r1;have rr2:=r2;have hc:k<R0.length:=by rw [ha.out];exact h7
   have hw:=Ly.mid_step R0 t0.c hc ha.out;have hq:=Ly.mid_len R0 t0.c k oZ ha.out;have hP:=Hp.out k hc;rw [hP] at hw;obtain ⟨p0,hp0⟩:∃u,wr.cell? ⟨h0,k,none⟩=some u:=⟨_,hv.row_get (by rw [hq];exact hc)⟩
   have fp0:=hv.frozen k;have q0:wr.cell? ⟨w3.heap.size,0,none⟩=some (.slice (some ⟨g0,0,none⟩) t0.s.length t0.s.length):=by rw [hA.cell];rfl
   have q1:wr.cell? ⟨w3.heap.size,1,none⟩=some (.slice (some ⟨h0,0,none⟩) t0.c.length t0.c.length):=by rw [hA.cell];rfl
   generalize Ly.slopes kind k0 x g k=sl at *;generalize Ly.at_ t0.c k=xk at *;generalize Ly.second x k=sk at *;generalize Ly.at_ g.c k=gk at *;have kk1:(k:Int)<(t0.c.length:Int):=by omega
   have kk3:(k:Int)<(g.c.length:Int):=by omega
   have kk2:(0:Int)<=(k:Int):=by omega
   skip
   clear hq hP hc hU hI hQ;obtain ⟨Hw,hu,Hx,hC,Hy,HX,HZ⟩:=zd7 hv he hw hA hr Hf Hq;clear hv he hw hA hr Hf Hq;go_wp2_with fail;have KF:=zI (show ∀Xw,Later wr Xw->Xw.cell? ⟨w.heap.size,1,none⟩=some (.slice (some ⟨bg,og,none⟩) g.c.length gd)/\Xw.cell? ⟨bg,og+k,none⟩=some (.int .i64 gk) from λXw h=>⟨h.cell u1,h.cell H4⟩);refine Zm1 ?_;refine Zl1 (S:=λXw=>Xw.cell? ⟨w.heap.size,1,none⟩=some (.slice (some ⟨bg,og,none⟩) g.c.length gd)/\Xw.cell? ⟨bg,og+k,none⟩=some (.int .i64 gk)) krZ (KF.out _ Lau) (λhHeld=>?_);refine tk 0 ?_;refine tk 1 ?_;refine tk 2 ?_;refine tk 3 ?_;refine tk 4 ?_;refine tk 6 ?_;refine tk 7 ?_;refine tk 8 ?_;refine tk 9 ?_;refine tk 10 ?_;refine rd 5 λK hK=>?_
   simp only [ga,gs,gz]
   go_simp
   go_at_call 68;(with_reducible refine (HX.out _ (hf.out.trans (Hy.out.trans (Lau:Later wr _)))).mono ?_);rintro e wa ⟨rfl,rfl⟩
   try go_wp2_with fail
   refine hK.out _ _ (KF.out _ Lau) (λhHeld=>?_);clear hK K
   try simp only [ga,gs,gz,Act.put,sa,sz,ss]
   refine rd 11 λK hK=>?_
   simp only [ga,gs,gz]
   go_simp
   go_at_call 67;(with_reducible refine (HZ.out _).mono ?_);rintro e wb ⟨rfl,rfl⟩
   try go_wp2_with fail
   refine hK.out _ _ (KF.out _ Lau) (λhHeld=>?_);clear hK K
   try simp only [ga,gs,gz,Act.put,sa,sz,ss]
   refine tk 12 ?_;refine tk 13 ?_;refine tk 14 ?_;refine tk 15 ?_;refine tk 16 ?_;clear KF;refine Zn1 krZ ?_ _;refine Zd1 ?_;clear hHeld;go_wp2_with fail;have k1:=Hw.out.set_ k (.int .i64 sl.1)
   have m0:Blk (wr.setCell ⟨h0,k,none⟩ (.int .i64 sl.1)) h0 22 ((R0.take (k+1)++t0.c.drop (k+1)).map (Za1 .i64)).toArray:=by
    rw [←Hx.out,List.map_set];simpa using k1
   have m1:=hu.out.far (p:=⟨h0,k,none⟩) Hr (.int .i64 sl.1);have m2:=hC.out.far (p:=⟨h0,k,none⟩) hy.symm (.int .i64 sl.1);have m3:=Hy.out.set (p:=⟨h0,k,none⟩) Hh (.int .i64 sl.1);go_roundw
   case rel=>exact ⟨k+1,by omega,by go_num,m0.drew,m1.drew,m2.drew,m3.drew⟩
   case measure=>simp [intOf];omega
  ·obtain rfl:k=t0.c.length:=by omega
   rw [Ly.mid_end R0 t0.c _ ha.out.symm ha.out] at hv;have Hz:=hf.out.trans hr;obtain ⟨Hw,hu,hC,Hy,H0⟩:=zd5 hv he hA hr Hz;clear hv he hA hr Hz;go_wp2_with fail;refine Zk1 (v:=.tuple #[.slice (some ⟨w3.heap.size,0,none⟩) 1 1,.int .i64 0]) (by simp [results,Tryz.results18,go_sem]) rfl ?_;refine GoL.ok (A:=some ⟨w3.heap.size,0,none⟩) HE.out ⟨λa e=>?_,λj hj=>?_⟩ H0.out
   ·injection e with e
    subst e;exact ⟨_,rfl,H5,hC.out.lt,λk=>hC.out.frozen k⟩
   ·obtain rfl:j=0:=by simp at hj;omega
    refine ⟨w3.heap.size,some ⟨g0,0,none⟩,t0.s.length,some ⟨h0,0,none⟩,t0.c.length,rfl,by rw [hC.out.cell];rfl,by rw [hC.out.cell];simp [ha.out],?_⟩
    show TenO w.heap.size wr (.agg #[.slice (some ⟨g0,0,none⟩) t0.s.length t0.s.length,.slice (some ⟨h0,0,none⟩) R0.length t0.c.length]) ⟨t0.s,R0⟩
    exact qb6 hu.out Hw.out oZ oZ oZ (by rw [ha.out];omega) h3.out (by rw [ha.out])
set_option maxRecDepth 20000 in
theorem qew (kind k0:Int) (A GS GC:Option Addr) (f gc gd:Nat) (g:Ten) (x:List Ten) (w:Zp1) (hn:x.length=2) (hT:Tns w A x) (hG:TenIn w GS GC gc gd g) (hk0:Fx.In k0):
  Calls Tryz.prog 18 #[.int .i64 kind,.int .i64 k0,.agg #[.slice GS g.s.length gc,.slice GC g.c.length gd],.slice A x.length f] w (GoL (Ly.pointBack kind k0 g x) w):=by
 have gL:Later w (w.alloc (.cells #[.slice GS g.s.length gc,.slice GC g.c.length gd] 30)):=(Later.refl w).alloc _;have hk:=Blk.new w 30 #[.slice GS g.s.length gc,.slice GC g.c.length gd];have Gg:2<=x.length:=by omega
 have Gc:x.length<=2:=by omega
 have Gb:0<x.length:=by omega
 obtain ⟨HT,HV,Hk,gU,HG,Hn⟩:=zd6 hT gL hk hk0 hG hn;clear hT gL hk hk0 hG hn;go_enter Tryz.func18,Tryz.ntmps18;go_wp2_with fail;generalize w.alloc (.cells #[.slice GS g.s.length gc,.slice GC g.c.length gd] 30)=w1 at *;refine (qbF kind A f x w1 oZ (HT.out.later HV.out)).mono ?_;rintro e w2 ⟨rfl,HR⟩;have hB:=HV.out.call HR;have hZ:=(show Later w1 w2 from HR).blk Hk.out;clear HR Hk HV
 by_cases hg:Ly.ptAgree kind x=0
 case neg=>
  have HE:=zI (Ly.pointBack_err (k:=k0) (g:=g) hg);have d1:(Ly.ptAgree kind x==0)=false:=by simpa using hg
  have d2:(Ly.ptAgree kind x != 0)=true:=by simpa using hg
  have Hg:=zI hg;clear hg;generalize Ly.ptAgree kind x=ge at *;obtain ⟨h3,H5⟩:=zd2 hB hZ;clear hB hZ;go_wp2_with fail;refine Zk1 (v:=.tuple #[.slice none 0 0,.int .i64 ge]) (by simp [results,Tryz.results18,go_sem]) rfl ?_;exact GoL.fail HE.out Hg.out h3.out
 obtain ⟨k1,k7,-,l1,l2,hU⟩:=Ly.agree_yes hg;rw [hg];obtain ⟨HY,-⟩:=Ly.ok_right (hU _ (by rw [qan (show 0<x.length by omega)];exact gmZ _):Ly.okTo x (Ly.got x 0)=true);obtain ⟨gh,gQ⟩:=Ly.ok_right (hU _ (by rw [qan (show 1<x.length by omega)];exact gmZ _):Ly.okTo x (Ly.got x 1)=true);have HM:=zI (Ly.same_len gh HY gQ);clear gQ;have HK:=zI hg;clear hg hU;obtain ⟨b,off,S,sc,C,cd,rfl,Gd,z0,z1,ht⟩:=(HT.out.later hB).first oZ
 obtain ⟨r1,r2⟩:=Ly.right_ok HY;have u0:=hZ.cell 0;have u1:=hZ.cell 1;simp at u0 u1;have lg1:=HG.out.l1;have lg2:=HG.out.l2;obtain ⟨b',off',S1,sc1,C1,cd1,e1,-,z2,z3,gH⟩:=(HT.out.later hB).at_ (j:=1) oZ;injection e1 with e1;injection e1 with e1 e2;subst e1 e2
 have z2:w2.cell? ⟨b,off+2,none⟩=some (.slice S1 (Ly.got x 1).s.length sc1):=by simpa using z2
 have z3:w2.cell? ⟨b,off+3,none⟩=some (.slice C1 (Ly.got x 1).c.length cd1):=by simpa using z3
 have lx1:=(Ly.right_ok gh).1;have lx2:=(Ly.right_ok gh).2;have gE:=λ(V:Zp1) (h:Later w2 V)=>qa2 GS GC gc gd g V oZ oZ (HG.out.later (hB.trans h)).r.1
 have gD:=λ(V:Zp1) (h:Later w2 V)=>qa7 GS S gc sc g.s (Ly.got x 0).s V oZ oZ (HG.out.later (hB.trans h)).r.1 (ht.later h).r.1
 have hE:(Tn.right g&&(g.s==(Ly.got x 0).s))=false->Ly.pointBack kind k0 g x=([],20):=Ly.pointBack_bad (HK.out);obtain ⟨h3,H5,Ht,hY,Hs,HE⟩:=zd6 hB hZ ht gE gD hE;clear hB hZ ht gE gD hE;cases hgr:Tn.right g
 ·have HE:=zI (HE.out (by rw [hgr];rfl))
  rw [hgr] at hY;clear HE;have HE:=zI (Ly.pointBack_bad (k:=k0) HK.out (by rw [hgr];rfl:(Tn.right g&&(g.s==(Ly.got x 0).s))=false));go_wp2_with fail;have KF:=zI (show ∀Xw,Later w2 Xw->Xw.cell? ⟨w.heap.size,0,none⟩=some (.slice GS g.s.length gc)/\Xw.cell? ⟨w.heap.size,1,none⟩=some (.slice GC g.c.length gd) from λXw h=>⟨h.cell u0,h.cell u1⟩);refine Zm1 ?_;refine Zl1 (S:=λXw=>Xw.cell? ⟨w.heap.size,0,none⟩=some (.slice GS g.s.length gc)/\Xw.cell? ⟨w.heap.size,1,none⟩=some (.slice GC g.c.length gd)) krZ (KF.out _ Lau) (λhHeld=>?_);refine tk 0 ?_;refine rd 1 λK hK=>?_
  simp only [ga,gs,gz]
  go_simp
  go_at_call 51;(with_reducible refine (hY.out _ (Lau:Later w2 _)).mono ?_);rintro e wa ⟨rfl,Hb⟩
  try go_wp2_with fail
  refine hK.out _ _ (KF.out _ Lau) (λhHeld=>?_);clear hK K
  try simp only [ga,gs,gz,Act.put,sa,sz,ss]
  refine tk 2 ?_;refine tk 3 ?_;refine tn 4 ?_;refine tn 5 ?_;refine tn 6 ?_;refine tn 7 ?_;refine tn 8 ?_;refine tn 9 ?_;refine rd 10 λK hK=>?_
  simp only [ga,gs,gz]
  go_simp
  refine hK.out _ _ (KF.out _ Lau) (λhHeld=>?_);clear hK K
  try simp only [ga,gs,gz,Act.put,sa,sz,ss]
  refine tn 11 ?_;refine tk 12 ?_;clear KF;refine Zn1 krZ ?_ _;refine Zd1 ?_;have hc:Later w2 wa:=(Lau:Later w2 wa)
  have hx:=h3.out.trans hc;clear Hb hHeld u0 u1 z0 z1 z2 z3;obtain ⟨gI,hs⟩:=zd2 hc hx;clear hc hx;go_wp2_with fail;refine Zk1 (v:=.tuple #[.slice none 0 0,.int .i64 20]) (by simp [results,Tryz.results18,go_sem]) rfl ?_;exact GoL.fail HE.out dZ hs.out
 rw [hgr] at hY;cases hge:(g.s==(Ly.got x 0).s)
 ·rw [hge] at Hs
  clear HE;have HE:=zI (Ly.pointBack_bad (k:=k0) HK.out (by rw [hge,Bool.and_false]:(Tn.right g&&(g.s==(Ly.got x 0).s))=false));go_wp2_with fail;have KF:=zI (show ∀Xw,Later w2 Xw->Xw.cell? ⟨w.heap.size,0,none⟩=some (.slice GS g.s.length gc)/\Xw.cell? ⟨w.heap.size,1,none⟩=some (.slice GC g.c.length gd)/\Xw.cell? ⟨b,off,none⟩=some (.slice S (Ly.got x 0).s.length sc) from λXw h=>⟨h.cell u0,h.cell u1,h.cell z0⟩);refine Zm1 ?_;refine Zl1 (S:=λXw=>Xw.cell? ⟨w.heap.size,0,none⟩=some (.slice GS g.s.length gc)/\Xw.cell? ⟨w.heap.size,1,none⟩=some (.slice GC g.c.length gd)/\Xw.cell? ⟨b,off,none⟩=some (.slice S (Ly.got x 0).s.length sc)) krZ (KF.out _ Lau) (λhHeld=>?_);refine tk 0 ?_;refine rd 1 λK hK=>?_
  simp only [ga,gs,gz]
  go_simp
  go_at_call 51;(with_reducible refine (hY.out _ (Lau:Later w2 _)).mono ?_);rintro e wa ⟨rfl,Hb⟩
  try go_wp2_with fail
  refine hK.out _ _ (KF.out _ Lau) (λhHeld=>?_);clear hK K
  try simp only [ga,gs,gz,Act.put,sa,sz,ss]
  refine tk 2 ?_;refine tk 3 ?_;refine tk 4 ?_;refine tk 5 ?_;refine tk 6 ?_;refine tk 7 ?_;refine tk 8 ?_;refine tk 9 ?_;refine rd 10 λK hK=>?_
  simp only [ga,gs,gz]
  go_simp
  go_at_call 43;(with_reducible refine (Hs.out _ (Lau:Later w2 _)).mono ?_);rintro e wb ⟨rfl,nb,rfl⟩
  try go_wp2_with fail
  refine hK.out _ _ (KF.out _ Lau) (λhHeld=>?_);clear hK K
  try simp only [ga,gs,gz,Act.put,sa,sz,ss]
  refine tk 11 ?_;refine tk 12 ?_;clear KF;refine Zn1 krZ ?_ _;refine Zd1 ?_;have hc:Later w2 (wa.drewN nb):=(Lau:Later w2 (wa.drewN nb))
  have hx:=h3.out.trans hc;clear Hb hHeld u0 u1 z0 z1 z2 z3;obtain ⟨gI,hs⟩:=zd2 hc hx;clear hc hx;go_wp2_with fail;refine Zk1 (v:=.tuple #[.slice none 0 0,.int .i64 20]) (by simp [results,Tryz.results18,go_sem]) rfl ?_;exact GoL.fail HE.out dZ hs.out
 rw [hge] at Hs;have HQ:g.s=(Ly.got x 0).s:=by simpa using hge
 have gA:=Ly.same_len hgr HY HQ;clear HE;have HE:=zI (Ly.pointBack_ok2 (k:=k0) HK.out hgr HQ Hn.out);obtain ⟨Ge,g3⟩:=zd2 HQ gA;clear HQ gA;clear hge;go_wp2_with fail;have KF:=zI (show ∀Xw,Later w2 Xw->Xw.cell? ⟨w.heap.size,0,none⟩=some (.slice GS g.s.length gc)/\Xw.cell? ⟨w.heap.size,1,none⟩=some (.slice GC g.c.length gd)/\Xw.cell? ⟨b,off,none⟩=some (.slice S (Ly.got x 0).s.length sc) from λXw h=>⟨h.cell u0,h.cell u1,h.cell z0⟩);refine Zm1 ?_;refine Zl1 (S:=λXw=>Xw.cell? ⟨w.heap.size,0,none⟩=some (.slice GS g.s.length gc)/\Xw.cell? ⟨w.heap.size,1,none⟩=some (.slice GC g.c.length gd)/\Xw.cell? ⟨b,off,none⟩=some (.slice S (Ly.got x 0).s.length sc)) krZ (KF.out _ Lau) (λhHeld=>?_);refine tk 0 ?_;refine rd 1 λK hK=>?_
 simp only [ga,gs,gz]
 go_simp
 go_at_call 51;(with_reducible refine (hY.out _ (Lau:Later w2 _)).mono ?_);rintro e wa ⟨rfl,Hb⟩
 try go_wp2_with fail
 refine hK.out _ _ (KF.out _ Lau) (λhHeld=>?_);clear hK K
 try simp only [ga,gs,gz,Act.put,sa,sz,ss]
 refine tk 2 ?_;refine tk 3 ?_;refine tk 4 ?_;refine tk 5 ?_;refine tk 6 ?_;refine tk 7 ?_;refine tk 8 ?_;refine tk 9 ?_;refine rd 10 λK hK=>?_
 simp only [ga,gs,gz]
 go_simp
 go_at_call 43;(with_reducible refine (Hs.out _ (Lau:Later w2 _)).mono ?_);rintro e wb ⟨rfl,nb,rfl⟩
 try go_wp2_with fail
 refine hK.out _ _ (KF.out _ Lau) (λhHeld=>?_);clear hK K
 try simp only [ga,gs,gz,Act.put,sa,sz,ss]
 refine tk 11 ?_;refine tk 12 ?_;clear KF;refine Zn1 krZ ?_ _;refine Zd1 ?_;have hc:Later w2 (wa.drewN nb):=(Lau:Later w2 (wa.drewN nb))
 have hx:=h3.out.trans hc;have gN:=hc.blk H5.out;have gm:=Ht.out.later hc;have z0a:=hc.cell z0;have z1a:=hc.cell z1;have z2a:=hc.cell z2;have z3a:=hc.cell z3;have Hh:=gH.later hc;clear Hb hHeld u0 u1 z0 z1 z2 z3 gH Ht H5 h3 hY Hs;generalize wa.drewN nb=w3 at *;rw [Hn.out];have gG:∀i,Ly.slopes kind k0 x g i=Ly.slope kind k0 (Ly.at_ (Ly.got x 0).c i) (Ly.second x i) (Ly.at_ g.c i):=λ_=>rfl
 have HH:=gm.num
 have hl:∀i,Fx.In (Ly.second x i):=λi=>by
  unfold Ly.second
  split
  ·exact Fx.in_zero
  ·exact Ly.at_in (Ly.got_in HT.out.in_ 1) i
 have Ha:2<=x.length->(Ly.got x 1).c.length=(Ly.got x 0).c.length:=λ_=>HM.out
 have Hj:(Ly.tab (Ly.got x 0).c.length λi=>(Ly.slopes kind k0 x g i).1).length=(Ly.got x 0).c.length:=by rw [Ly.tab_len]
 have HJ:∀i (hi:i<(Ly.tab (Ly.got x 0).c.length λi=>(Ly.slopes kind k0 x g i).1).length),(Ly.tab (Ly.got x 0).c.length λi=>(Ly.slopes kind k0 x g i).1)[i]=(Ly.slopes kind k0 x g i).1:=λi hi=>Ly.tab_get hi
 have hA:∀z∈(Ly.tab (Ly.got x 0).c.length λi=>(Ly.slopes kind k0 x g i).1),Fx.In z:=Ly.tab_in λi _=>(Ly.slope_in (Ly.at_in HG.out.num i)).1
 generalize (Ly.tab (Ly.got x 0).c.length λi=>(Ly.slopes kind k0 x g i).1)=R0 at *;have HC:(Ly.tab (Ly.got x 0).c.length λi=>(Ly.slopes kind k0 x g i).2).length=(Ly.got x 1).c.length:=by rw [Ly.tab_len];exact HM.out.symm
 have h8:∀i (hi:i<(Ly.tab (Ly.got x 0).c.length λi=>(Ly.slopes kind k0 x g i).2).length),(Ly.tab (Ly.got x 0).c.length λi=>(Ly.slopes kind k0 x g i).2)[i]=(Ly.slopes kind k0 x g i).2:=λi hi=>Ly.tab_get hi
 have hD:∀z∈(Ly.tab (Ly.got x 0).c.length λi=>(Ly.slopes kind k0 x g i).2),Fx.In z:=Ly.tab_in λi _=>(Ly.slope_in (Ly.at_in HG.out.num i)).2
 generalize (Ly.tab (Ly.got x 0).c.length λi=>(Ly.slopes kind k0 x g i).2)=R1 at *;have Hp:=zI (λ(k:Nat) (hk:k<(Ly.got x 0).c.length) (h2:2<=x.length)=>(show k<(Ly.got x 1).c.length by rw [Ha h2];exact hk));clear Ha;generalize htq0:Ly.got x 0=t0 at *;have g8:=zI htq0;clear htq0;generalize htq1:Ly.got x 1=t1 at *;have HW:=zI htq1;clear htq1;clear hHeld;obtain ⟨g9,gj,hX,hs,gC,gI,he,H7,HA⟩:=zd9 gG HH hl hx gN hc Hj HJ hA;obtain ⟨hb,H2,HF,gF,HZ,Hd,Hc,gg,H4⟩:=zd9 HC h8 hD gm Hh z0a z1a z2a z3a;clear gG HH hl hx gN hc Hj HJ hA HC h8 hD gm Hh z0a z1a z2a z3a;obtain ⟨i0,hi,gK,gJ,gy⟩:=info_parts qcF;go_wp2_with (at_make;refine wpList_make_full _ rfl _ _ 27 rfl w.heap.size 30 i0 (.agg #[.slice none 0 0,.slice none 0 0]) 2 Tryz.underlying27 hi gK gJ _ _ _ _ 2 rfl rfl (by first|rfl|simp) (by first|rfl|simp) ?b2 ?b3 hs.out.size ?_)
 case b2=>rw [gy];omega
 case b3=>unfold maxLen;omega
 intro v0 hown hgrow;clear hi gK gJ gy;have hC:Blk v0 w3.heap.size 30 #[.slice none 0 0,.slice none 0 0,.slice none 0 0,.slice none 0 0]:=by have h:=qge hown;simpa [madeCells,List.range_succ] using h
 have gx:Later w3 v0:=(Ze1 _ w3).grown hgrow (lrZ _) sZ;have g7:=hs.out.size;have Gf:=gC.out.lt;clear hown hgrow;obtain ⟨Hw,go⟩:=zd2 hC gx;clear hC gx;go_wp2_with fail;refine wp_loop_rounds 3 ?_;rw [rounds_succ];have y0:=go.out.cell Hd.out;have y1:=go.out.cell Hc.out;go_wp2_with fail;have hu:=go.out.alloc (.cells #[.slice S t0.s.length sc,.slice C t0.c.length cd] 30);have hL:=(Hw.out).alloc (.cells #[.slice S t0.s.length sc,.slice C t0.c.length cd] 30);clear y0 y1;generalize v0.alloc (.cells #[.slice S t0.s.length sc,.slice C t0.c.length cd] 30)=vb at *;refine (qa9 S C sc cd t0 vb oZ oZ (gF.out.later hu).r).mono ?_;rintro e vc ⟨v,rfl,⟨g0,h0,rfl,Gl,Gi,HL,HP⟩,Hy⟩;have ha:Later vb vc:=Hy;have Hq:=hu.trans ha;have hh:=ha.blk hL;have gp:=hL.lt;have gT:=hu.size;have g2:=HL.lt;have g4:=HP.lt;have x0:=hh.cell 0;have x1:=hh.cell 1;have fr0:=hh.frozen 0;have fr1:=hh.frozen 1;simp at x0 x1
 have gb:g0≠h0:=λe=>by
  subst e;have:=HL.symm.trans HP;simp at this
 have gW:w3.heap.size<=g0:=by omega
 have HU:w3.heap.size<=h0:=by omega
 have hq:g0≠w3.heap.size:=by omega
 have hm:h0≠w3.heap.size:=by omega
 have hz:Blk ((vc.setCell ⟨w3.heap.size,0,none⟩ (.slice (some ⟨g0,0,none⟩) t0.s.length t0.s.length)).setCell ⟨w3.heap.size,1,none⟩ (.slice (some ⟨h0,0,none⟩) t0.c.length t0.c.length)) w3.heap.size 30 #[.slice (some ⟨g0,0,none⟩) t0.s.length t0.s.length,.slice (some ⟨h0,0,none⟩) t0.c.length t0.c.length,.slice none 0 0,.slice none 0 0]:=by
  have:=(hh.set_ 0 (.slice (some ⟨g0,0,none⟩) t0.s.length t0.s.length)).set_ 1 (.slice (some ⟨h0,0,none⟩) t0.c.length t0.c.length);simpa using this
 have gR:Later w3 ((vc.setCell ⟨w3.heap.size,0,none⟩ (.slice (some ⟨g0,0,none⟩) t0.s.length t0.s.length)).setCell ⟨w3.heap.size,1,none⟩ (.slice (some ⟨h0,0,none⟩) t0.c.length t0.c.length)):=(Hq.set (p:=⟨w3.heap.size,0,none⟩) (lrZ _) _).set (p:=⟨w3.heap.size,1,none⟩) (lrZ _) _;have Hz:=(HL.far (p:=⟨w3.heap.size,0,none⟩) hq (.slice (some ⟨g0,0,none⟩) t0.s.length t0.s.length)).far (p:=⟨w3.heap.size,1,none⟩) hq (.slice (some ⟨h0,0,none⟩) t0.c.length t0.c.length);have HD:=(HP.far (p:=⟨w3.heap.size,0,none⟩) hm (.slice (some ⟨g0,0,none⟩) t0.s.length t0.s.length)).far (p:=⟨w3.heap.size,1,none⟩) hm (.slice (some ⟨h0,0,none⟩) t0.c.length t0.c.length);obtain ⟨Ho,H0,H1,HX⟩:=zd4 hz gR Hz HD;clear hz gR Hz HD;clear Hy ha Hq hh HL HP hu hL;go_wp2_with fail;generalize (vc.setCell ⟨w3.heap.size,0,none⟩ (.slice (some ⟨g0,0,none⟩) t0.s.length t0.s.length)).setCell ⟨w3.heap.size,1,none⟩ (.slice (some ⟨h0,0,none⟩) t0.c.length t0.c.length)=v1 at *;clear x0 x1 fr0 fr1;rw [rounds_succ];have y0:=H0.out.cell gg.out;have y1:=H0.out.cell H4.out;go_wp2_with fail;have hu:=H0.out.alloc (.cells #[.slice S1 t1.s.length sc1,.slice C1 t1.c.length cd1] 30);have hL:=(Ho.out).alloc (.cells #[.slice S1 t1.s.length sc1,.slice C1 t1.c.length cd1] 30);have hP:=(H1.out).alloc (.cells #[.slice S1 t1.s.length sc1,.slice C1 t1.c.length cd1] 30);have ho:=(HX.out).alloc (.cells #[.slice S1 t1.s.length sc1,.slice C1 t1.c.length cd1] 30);clear y0 y1;generalize v1.alloc (.cells #[.slice S1 t1.s.length sc1,.slice C1 t1.c.length cd1] 30)=vb at *;refine (qa9 S1 C1 sc1 cd1 t1 vb oZ oZ (HZ.out.later hu).r).mono ?_;rintro e vc ⟨v,rfl,⟨g1,h1,rfl,Gk,Gh,HN,HO⟩,Hy⟩;have ha:Later vb vc:=Hy;have Hq:=hu.trans ha;have hh:=ha.blk hL;have gp:=hL.lt;have gT:=hu.size;have gZ:=HN.lt;have gS:=HO.lt;have x0:=hh.cell 2;have x1:=hh.cell 3;have fr0:=hh.frozen 2;have fr1:=hh.frozen 3;simp at x0 x1
 have gf:g1≠h1:=λe=>by
  subst e;have:=HN.symm.trans HO;simp at this
 have Ga:w3.heap.size<=g1:=by omega
 have gi:w3.heap.size<=h1:=by omega
 have He:g1≠w3.heap.size:=by omega
 have hR:h1≠w3.heap.size:=by omega
 have hI:Blk ((vc.setCell ⟨w3.heap.size,2,none⟩ (.slice (some ⟨g1,0,none⟩) t1.s.length t1.s.length)).setCell ⟨w3.heap.size,3,none⟩ (.slice (some ⟨h1,0,none⟩) t1.c.length t1.c.length)) w3.heap.size 30 #[.slice (some ⟨g0,0,none⟩) t0.s.length t0.s.length,.slice (some ⟨h0,0,none⟩) t0.c.length t0.c.length,.slice (some ⟨g1,0,none⟩) t1.s.length t1.s.length,.slice (some ⟨h1,0,none⟩) t1.c.length t1.c.length]:=by
  have:=(hh.set_ 2 (.slice (some ⟨g1,0,none⟩) t1.s.length t1.s.length)).set_ 3 (.slice (some ⟨h1,0,none⟩) t1.c.length t1.c.length);simpa using this
 have gM:Later w3 ((vc.setCell ⟨w3.heap.size,2,none⟩ (.slice (some ⟨g1,0,none⟩) t1.s.length t1.s.length)).setCell ⟨w3.heap.size,3,none⟩ (.slice (some ⟨h1,0,none⟩) t1.c.length t1.c.length)):=(Hq.set (p:=⟨w3.heap.size,2,none⟩) (lrZ _) _).set (p:=⟨w3.heap.size,3,none⟩) (lrZ _) _;have Hv:=(HN.far (p:=⟨w3.heap.size,2,none⟩) He (.slice (some ⟨g1,0,none⟩) t1.s.length t1.s.length)).far (p:=⟨w3.heap.size,3,none⟩) He (.slice (some ⟨h1,0,none⟩) t1.c.length t1.c.length);have h9:=(HO.far (p:=⟨w3.heap.size,2,none⟩) hR (.slice (some ⟨g1,0,none⟩) t1.s.length t1.s.length)).far (p:=⟨w3.heap.size,3,none⟩) hR (.slice (some ⟨h1,0,none⟩) t1.c.length t1.c.length);have Hu:=(((ha.blk hP)).far (p:=⟨w3.heap.size,2,none⟩) hq (.slice (some ⟨g1,0,none⟩) t1.s.length t1.s.length)).far (p:=⟨w3.heap.size,3,none⟩) hq (.slice (some ⟨h1,0,none⟩) t1.c.length t1.c.length);have HB:=(((ha.blk ho)).far (p:=⟨w3.heap.size,2,none⟩) hm (.slice (some ⟨g1,0,none⟩) t1.s.length t1.s.length)).far (p:=⟨w3.heap.size,3,none⟩) hm (.slice (some ⟨h1,0,none⟩) t1.c.length t1.c.length);have gt:g0≠h1:=by have:=hP.lt;omega
 have Hx:h0≠h1:=by have:=ho.lt;omega
 have H8:g1≠h0:=by have:=ho.lt;omega
 obtain ⟨hy,gn,HI,Hr,h6,Hl⟩:=zd6 hI gM Hv h9 Hu HB;clear hI gM Hv h9 Hu HB;clear Hy ha Hq hh HN HO hu hL hP ho;go_wp2_with fail;generalize (vc.setCell ⟨w3.heap.size,2,none⟩ (.slice (some ⟨g1,0,none⟩) t1.s.length t1.s.length)).setCell ⟨w3.heap.size,3,none⟩ (.slice (some ⟨h1,0,none⟩) t1.c.length t1.c.length)=v2 at *;clear x0 x1 fr0 fr1;rw [rounds_succ];have y0:=gn.out.cell Hd.out;have y1:=gn.out.cell Hc.out;go_wp2_with fail;clear y0 y1;have gB:Blk v2 h0 22 ((R0.take 0++t0.c.drop 0).map (Za1 .i64)).toArray:=by simpa using Hl.out
 have gO:Blk v2 h1 22 ((R1.take 0++t1.c.drop 0).map (Za1 .i64)).toArray:=by simpa using Hr.out
 obtain ⟨gP,gw⟩:=zd2 gB gO;clear gB gO
 go_loopw [58] (λi wx=>∃k:Nat,k<=t0.c.length/\i=.int .i64 (k:Int)/\Blk wx h0 22 ((R0.take k++t0.c.drop k).map (Za1 .i64)).toArray/\Blk wx g0 3 (t0.s.map (Za1 .i64)).toArray/\Blk wx h1 22 ((R1.take k++t1.c.drop k).map (Za1 .i64)).toArray/\Blk wx g1 3 (t1.s.map (Za1 .i64)).toArray/\Blk wx w3.heap.size 30 #[.slice (some ⟨g0,0,none⟩) t0.s.length t0.s.length,.slice (some ⟨h0,0,none⟩) t0.c.length t0.c.length,.slice (some ⟨g1,0,none⟩) t1.s.length t1.s.length,.slice (some ⟨h1,0,none⟩) t1.c.length t1.c.length]/\Later w3 wx) (λi _=>t0.c.length-(intOf i).toNat)
 case atStart=>exact ⟨0,Zt _,rfl,gP.out,h6.out,gw.out,HI.out,hy.out,gn.out⟩
 case round=>
  obtain ⟨k,hk,rfl,hO,hp,hW,hr,hv,hJ⟩:=hrel;clear gP h6 Hl gw HI Hr hy
  by_cases h4:k<t0.c.length
  ·obtain ⟨bc,oc,rfl,-,Gj⟩:=(gF.out.later hJ).cell h4
   have H6:k<g.c.length:=by rw [g3.out];exact h4
   obtain ⟨bg,og,rfl,-,g6⟩:=(HG.out.later (hs.out.trans hJ)).cell H6;have u1:wr.cell? ⟨w.heap.size,1,none⟩=some (.slice (some ⟨bg,og,none⟩) g.c.length gd):=by rw [(hJ.blk gC.out).cell];rfl
   have Hm:=Ly.at_in gj.out k;have h5:=hX.out k;have Hi:=Ly.at_in HG.out.num k;have HS:=λ(V:Zp1) (hV:Later w V)=>qbg (some ⟨b,off,none⟩) f x k V oZ (HT.out.later hV) (λh2=>by rw [HW.out];exact Hp.out k h4 h2)
   have H9:=λ(V:Zp1)=>qcD kind k0 (Ly.at_ t0.c k) (Ly.second x k) (Ly.at_ g.c k) V k1 k7 gU.out Hm h5 Hi
   rw [Hn.out] at HS;rw [←g9.out k] at H9;have rr1:=r1;have rr2:=r2;have hf:k<R0.length:=by rw [he.out];exact h4
   have hQ:=Ly.mid_step R0 t0.c hf he.out;have hH:=Ly.mid_len R0 t0.c k oZ he.out;have Hf:=H7.out k hf;rw [Hf] at hQ;obtain ⟨p0,hp0⟩:∃u,wr.cell? ⟨h0,k,none⟩=some u:=⟨_,hO.row_get (by rw [hH];exact hf)⟩
   have fp0:=hO.frozen k;have q0:wr.cell? ⟨w3.heap.size,0,none⟩=some (.slice (some ⟨g0,0,none⟩) t0.s.length t0.s.length):=by rw [hv.cell];rfl
   have q1:wr.cell? ⟨w3.heap.size,1,none⟩=some (.slice (some ⟨h0,0,none⟩) t0.c.length t0.c.length):=by rw [hv.cell];rfl
   have hd:k<R1.length:=by rw [hb.out];rw [HM.out];exact h4
   have hS:=Ly.mid_step R1 t1.c hd hb.out;have hw:=Ly.mid_len R1 t1.c k oZ hb.out;have h7:=H2.out k hd;rw [h7] at hS;obtain ⟨p1,hp1⟩:∃u,wr.cell? ⟨h1,k,none⟩=some u:=⟨_,hW.row_get (by rw [hw];exact hd)⟩
   have fp1:=hW.frozen k;have q2:wr.cell? ⟨w3.heap.size,2,none⟩=some (.slice (some ⟨g1,0,none⟩) t1.s.length t1.s.length):=by rw [hv.cell];rfl
   have q3:wr.cell? ⟨w3.heap.size,3,none⟩=some (.slice (some ⟨h1,0,none⟩) t1.c.length t1.c.length):=by rw [hv.cell];rfl
   generalize Ly.slopes kind k0 x g k=sl at *;generalize Ly.at_ t0.c k=xk at *;generalize Ly.second x k=sk at *;generalize Ly.at_ g.c k=gk at *;have kk1:(k:Int)<(t0.c.length:Int):=by omega
   have kk3:(k:Int)<(g.c.length:Int):=by omega
   have kk2:(0:Int)<=(k:Int):=by omega
   have kk4:(k:Int)<(t1.c.length:Int):=by have:=hd;rw [hb.out] at this;omega
   clear hH Hf hf hw h7 hd Hm h5 Hi;obtain ⟨gq,hN,gr,gl,hM,H3,hF,gu,gV⟩:=zd9 hO hp hQ hW hr hS hv hJ HS;have gX:=zI H9;clear hO hp hQ hW hr hS hv hJ HS H9;go_wp2_with fail;have KF:=zI (show ∀Xw,Later wr Xw->Xw.cell? ⟨w.heap.size,1,none⟩=some (.slice (some ⟨bg,og,none⟩) g.c.length gd)/\Xw.cell? ⟨bg,og+k,none⟩=some (.int .i64 gk) from λXw h=>⟨h.cell u1,h.cell g6⟩);refine Zm1 ?_;refine Zl1 (S:=λXw=>Xw.cell? ⟨w.heap.size,1,none⟩=some (.slice (some ⟨bg,og,none⟩) g.c.length gd)/\Xw.cell? ⟨bg,og+k,none⟩=some (.int .i64 gk)) krZ (KF.out _ Lau) (λhHeld=>?_);refine tk 0 ?_;refine tk 1 ?_;refine tk 2 ?_;refine tk 3 ?_;refine tk 4 ?_;refine tk 6 ?_;refine tk 7 ?_;refine tk 8 ?_;refine tk 9 ?_;refine tk 10 ?_;refine rd 5 λK hK=>?_
   simp only [ga,gs,gz]
   go_simp
   go_at_call 68;(with_reducible refine (gV.out _ (hs.out.trans (gu.out.trans (Lau:Later wr _)))).mono ?_);rintro e wa ⟨rfl,rfl⟩
   try go_wp2_with fail
   refine hK.out _ _ (KF.out _ Lau) (λhHeld=>?_);clear hK K
   try simp only [ga,gs,gz,Act.put,sa,sz,ss]
   refine rd 11 λK hK=>?_
   simp only [ga,gs,gz]
   go_simp
   go_at_call 67;(with_reducible refine (gX.out _).mono ?_);rintro e wb ⟨rfl,rfl⟩
   try go_wp2_with fail
   refine hK.out _ _ (KF.out _ Lau) (λhHeld=>?_);clear hK K
   try simp only [ga,gs,gz,Act.put,sa,sz,ss]
   refine tk 12 ?_;refine tk 13 ?_;refine tk 14 ?_;refine tk 15 ?_;refine tk 16 ?_;clear KF;refine Zn1 krZ ?_ _;refine Zd1 ?_;clear hHeld;go_wp2_with fail;have k1:=gq.out.set_ k (.int .i64 sl.1);have k2:=(gl.out.far (p:=⟨h0,k,none⟩) Hx.symm (.int .i64 sl.1)).set_ k (.int .i64 sl.2)
   have m0:Blk ((wr.setCell ⟨h0,k,none⟩ (.int .i64 sl.1)).setCell ⟨h1,k,none⟩ (.int .i64 sl.2)) h0 22 ((R0.take (k+1)++t0.c.drop (k+1)).map (Za1 .i64)).toArray:=by
    refine Blk.far ?_ (p:=⟨h1,k,none⟩) Hx _;rw [←gr.out,List.map_set];simpa using k1
   have n0:Blk ((wr.setCell ⟨h0,k,none⟩ (.int .i64 sl.1)).setCell ⟨h1,k,none⟩ (.int .i64 sl.2)) h1 22 ((R1.take (k+1)++t1.c.drop (k+1)).map (Za1 .i64)).toArray:=by
    rw [←H3.out,List.map_set];simpa using k2
   have m1:=(hN.out.far (p:=⟨h0,k,none⟩) gb (.int .i64 sl.1)).far (p:=⟨h1,k,none⟩) gt (.int .i64 sl.2);have n1:=(hM.out.far (p:=⟨h0,k,none⟩) H8 (.int .i64 sl.1)).far (p:=⟨h1,k,none⟩) gf (.int .i64 sl.2);have m2:=(hF.out.far (p:=⟨h0,k,none⟩) hm.symm (.int .i64 sl.1)).far (p:=⟨h1,k,none⟩) hR.symm (.int .i64 sl.2);have m3:=(gu.out.set (p:=⟨h0,k,none⟩) HU (.int .i64 sl.1)).set (p:=⟨h1,k,none⟩) gi (.int .i64 sl.2);go_roundw
   case rel=>exact ⟨k+1,by omega,by go_num,m0.drew,m1.drew,n0.drew,n1.drew,m2.drew,m3.drew⟩
   case measure=>simp [intOf];omega
  ·obtain rfl:k=t0.c.length:=by omega
   rw [Ly.mid_end R0 t0.c _ he.out.symm he.out] at hO;rw [Ly.mid_end R1 t1.c _ (by rw [hb.out];exact HM.out.symm) hb.out] at hW;have gv:=hs.out.trans hJ;obtain ⟨gq,hN,gl,hM,hF,gu,gY⟩:=zd7 hO hp hW hr hv hJ gv;clear hO hp hW hr hv hJ gv;go_wp2_with fail;refine Zk1 (v:=.tuple #[.slice (some ⟨w3.heap.size,0,none⟩) 2 2,.int .i64 0]) (by simp [results,Tryz.results18,go_sem]) rfl ?_;refine GoL.ok (A:=some ⟨w3.heap.size,0,none⟩) HE.out ⟨λa e=>?_,λj hj=>?_⟩ gY.out
   ·injection e with e
    subst e;exact ⟨_,rfl,g7,hF.out.lt,λk=>hF.out.frozen k⟩
   ·have g5:j=0∨j=1:=by simp at hj;omega
    rcases g5 with rfl|rfl
    ·refine ⟨w3.heap.size,some ⟨g0,0,none⟩,t0.s.length,some ⟨h0,0,none⟩,t0.c.length,rfl,by rw [hF.out.cell];rfl,by rw [hF.out.cell];simp [he.out],?_⟩
     show TenO w.heap.size wr (.agg #[.slice (some ⟨g0,0,none⟩) t0.s.length t0.s.length,.slice (some ⟨h0,0,none⟩) R0.length t0.c.length]) ⟨t0.s,R0⟩
     exact qb6 hN.out gq.out oZ oZ oZ (by rw [he.out];omega) HA.out (by rw [he.out])
    ·refine ⟨w3.heap.size,some ⟨g1,0,none⟩,t1.s.length,some ⟨h1,0,none⟩,t1.c.length,rfl,by rw [hF.out.cell];rfl,by rw [hF.out.cell];simp [hb.out],?_⟩
     show TenO w.heap.size wr (.agg #[.slice (some ⟨g1,0,none⟩) t1.s.length t1.s.length,.slice (some ⟨h1,0,none⟩) R1.length t1.c.length]) ⟨t1.s,R1⟩
     exact qb6 hM.out gl.out oZ oZ oZ (by rw [hb.out];omega) HF.out (by rw [hb.out])
namespace Ly
theorem counts_ok {o:OpD} {p x:Int} (h:Od.counts o p x=0):Od.right o=true/\Od.least o<=x/\x<=Od.most o/\p=Od.params o:=by
 unfold Od.counts at h;cases hr:Od.right o
 ·simp [hr] at h
 ·rw [hr] at h
  simp only [if_true] at h
  split at h
  ·simp at h
  ·rename_i hc;simp only [not_or] at hc;exact ⟨rfl,by omega,by omega,by omega⟩
theorem right_s {t:Ten} (h:Tn.right t=true):Sh.right t.s=true/\(t.c.length:Int)=Safe.prod t.s:=by simpa [Tn.right] using h
theorem qaO {o:OpD} {p x:List Ten} (hc:Od.counts o p.length x.length=0) (hp:∀t∈p,Sh.right t.s=true) (hx:∀t∈x,Sh.right t.s=true):
  Od.shape o (p.map Ten.s) (x.map Ten.s)=Od.byKind o (p.map Ten.s) (x.map Ten.s):=by
 unfold Od.shape;rw [List.length_map,List.length_map,inZ (by simp [hc]),ipZ];simp only [Zz,Zf,List.mem_map];exact ⟨by rintro s ⟨t,ht,rfl⟩;exact hp t ht,by rintro s ⟨t,ht,rfl⟩;exact hx t ht⟩
theorem qd5 {sd:Int}:∀ {r:List Ten} {s:List Int},(joinedS sd s r).2=0->Od.joinAll sd s (r.map Ten.s)=joinedS sd s r/\∀t∈r,Sh.right t.s=true
 | [],_,_=>⟨rfl,by simp⟩
 | t::r,s,h=>by
  simp only [joinedS,List.map_cons,Od.joinAll] at h ⊢
  split at h
  ·rename_i ht
   rw [ipZ ht]
   split at h
   ·rename_i hj
    rw [ipZ hj,ipZ hj];obtain ⟨h1,h2⟩:=qd5 h;refine ⟨h1,λu hu=>?_⟩;rcases List.mem_cons.1 hu with rfl|hu
    ·exact (right_s ht).1
    ·exact h2 u hu
   ·rename_i hj;exact absurd h hj
  ·simp at h
theorem qe4 {sd:Int} {x:List Ten} (h:(joined sd x).2=0):Od.joined sd (x.map Ten.s)=joined sd x/\∀t∈x,Sh.right t.s=true:=by
 cases x with
 | nil=>simp [joined] at h
 | cons t r=>
  simp only [joined] at h ⊢
  split at h
  ·rename_i ht
   rw [ipZ ht]
   split at h
   ·simp at h
   ·rename_i hc
    rw [inZ hc];obtain ⟨h1,h2⟩:=qd5 h;refine ⟨?_,λu hu=>?_⟩
    ·unfold Od.joined
     rw [inZ]
     ·exact h1
     ·rintro ⟨hl,hi⟩
      refine hc ⟨by simpa using hl,?_⟩;simp [Od.inR] at hi;omega
    ·rcases List.mem_cons.1 hu with rfl|hu
     ·exact (right_s ht).1
     ·exact h2 u hu
  ·simp at h
theorem qap {l:List Ten} (h:l.length=1):∃a,l=[a]:=List.length_eq_one_iff.1 h
theorem qgf {l:List Ten} (h:l.length=2):∃a b,l=[a,b]:=by
 match l,h with
 | [a,b],_=>exact ⟨a,b,rfl⟩
theorem qau {l:List Ten} (h:l.length=0):l=[]:=List.length_eq_zero_iff.1 h
theorem lay_shape {o:OpD} {p x:List Ten} (hc:Od.counts o p.length x.length=0) (h:(lay o p x).2=0):Od.shape o (p.map Ten.s) (x.map Ten.s)=((lay o p x).1.s,0):=by
 obtain ⟨hr,h1,h2,h3⟩:=counts_ok hc;have hk:=Od.right_kind hr;unfold Od.least Od.most at *;unfold Od.params at h3;rw [ipZ hr] at h1 h2 h3;have hd:o.kind<=7∨o.kind=8∨o.kind=9∨o.kind=10∨o.kind=11∨o.kind=12∨o.kind=13∨o.kind=14∨o.kind=15:=by omega
 rcases hd with hb|hb|hb|hb|hb|hb|hb|hb|hb
 ·have e:lay o p x=point o.kind o.k x:=by unfold lay;rw [inZ oZ,inZ oZ,inZ oZ,inZ oZ,inZ oZ,inZ oZ,inZ oZ,inZ oZ]
  have hf:p=[]:=qau (by rw [inZ oZ,inZ oZ] at h3;omega);rw [e] at h ⊢;unfold point at h ⊢
  split at h
  ·rename_i ha
   rw [ipZ ha];unfold ptAgree at ha
   split at ha
   ·simp at ha
   ·split at ha
    ·simp at ha
    ·split at ha
     ·rename_i hall
      simp only [Zf,Zz,decide_eq_true_eq] at hall;rw [qaO hc (by rw [hf];simp) (λt ht=>(right_s (hall t ht).1).1)];unfold Od.byKind;rw [inZ oZ,inZ oZ,inZ oZ,inZ oZ,inZ oZ,inZ oZ,inZ oZ]
      have he:0<x.length:=by
       rcases Nat.eq_zero_or_pos x.length with h0|h0
       ·rename_i hn0 hn1;simp [h0] at hn1;omega
       ·exact h0
      have e0:(x.map Ten.s).getD 0 []=(got x 0).s:=by
       cases x with
       | nil=>simp at he
       | cons a r=>rfl
      unfold Od.same;rw [e0,ipZ];simp only [Zf,List.mem_map,decide_eq_true_eq];rintro s ⟨t,ht,rfl⟩;exact (hall t ht).2
     ·simp at ha
  ·rename_i ha;exact absurd h ha
 ·obtain ⟨a,b,rfl⟩:=qgf (l:=p) (by simp [hb] at h3;omega)
  obtain ⟨t,rfl⟩:=qap (l:=x) (by simp [hb] at h1 h2;omega);have e:lay o [a,b] [t]=dense a b t:=by unfold lay;rw [ipZ hb];rfl
  rw [e] at h ⊢;unfold dense at h ⊢
  split at h
  ·rename_i ha
   rw [ipZ ha];simp only [denseOk,Zz,decide_eq_true_eq] at ha;obtain ⟨⟨⟨⟨⟨a1,a2⟩,a3⟩,a4⟩,a5⟩,a6⟩:=ha;rw [qaO hc (by simp [(right_s a1).1,(right_s a3).1]) (by simp [(right_s a4).1])];have h6:=(right_s a4).2;have h7:=(right_s a4).1;unfold Od.byKind Od.dense;rw [ipZ hb];simp only [List.map_cons,List.map_nil,List.getD_cons_zero,List.getD_cons_succ];rw [ipZ ⟨a2,by rw [a5];rfl,by rw [a5];rfl,h7,by rw [←h6,a6];rfl⟩,a5]
   rfl
  ·simp at h
 ·obtain ⟨b,rfl⟩:=qap (l:=p) (by simp [hb] at h3;omega)
  obtain ⟨t,rfl⟩:=qap (l:=x) (by simp [hb] at h1 h2;omega);have e:lay o [b] [t]=add t b:=by unfold lay;rw [inZ oZ,ipZ hb];rfl
  rw [e] at h ⊢;unfold add at h ⊢
  split at h
  ·rename_i ha
   rw [ipZ ha];simp only [alike,Zz,decide_eq_true_eq] at ha;obtain ⟨⟨a1,a2⟩,a3⟩:=ha;rw [qaO hc (by simp [(right_s a2).1]) (by simp [(right_s a1).1])];unfold Od.byKind Od.same;rw [inZ oZ,ipZ hb];simp [a3]
  ·simp at h
 ·obtain ⟨b,rfl⟩:=qap (l:=p) (by simp [hb] at h3;omega)
  obtain ⟨t,rfl⟩:=qap (l:=x) (by simp [hb] at h1 h2;omega);have e:lay o [b] [t]=conv b t o.step:=by unfold lay;rw [inZ oZ,inZ oZ,ipZ hb];rfl
  rw [e] at h ⊢;unfold conv at h ⊢
  split at h
  ·rename_i ha
   rw [ipZ ha];unfold convErr at ha
   split at ha
   ·rename_i hrr
    simp only [Zz] at hrr;rw [qaO hc (by simp [(right_s hrr.1).1]) (by simp [(right_s hrr.2).1])];unfold Od.byKind;rw [inZ oZ,inZ oZ,ipZ hb];simp only [List.map_cons,List.map_nil,List.getD_cons_zero];exact Prod.ext rfl ha
   ·simp at ha
  ·rename_i ha;exact absurd h ha
 ·obtain rfl:=qau (l:=p) (by rw [inZ oZ,inZ oZ] at h3;omega)
  obtain ⟨t,rfl⟩:=qap (l:=x) (by simp [hb] at h1 h2;omega);have e:lay o [] [t]=pool true t o.width o.step:=by unfold lay;rw [inZ oZ,inZ oZ,inZ oZ,ipZ hb];rfl
  rw [e] at h ⊢;unfold pool at h ⊢
  split at h
  ·rename_i ha
   rw [ipZ ha];unfold poolErr at ha
   split at ha
   ·rename_i hrr
    rw [qaO hc sZ (by simp [(right_s hrr).1])];unfold Od.byKind;rw [inZ oZ,inZ oZ,inZ oZ,ipZ oZ];simp only [List.map_cons,List.map_nil,List.getD_cons_zero];exact Prod.ext rfl ha
   ·simp at ha
  ·rename_i ha;exact absurd h ha
 ·obtain rfl:=qau (l:=p) (by rw [inZ oZ,inZ oZ] at h3;omega)
  obtain ⟨t,rfl⟩:=qap (l:=x) (by simp [hb] at h1 h2;omega);have e:lay o [] [t]=pool false t o.width o.step:=by unfold lay;rw [inZ oZ,inZ oZ,inZ oZ,inZ oZ,ipZ hb];rfl
  rw [e] at h ⊢;unfold pool at h ⊢
  split at h
  ·rename_i ha
   rw [ipZ ha];unfold poolErr at ha
   split at ha
   ·rename_i hrr
    rw [qaO hc sZ (by simp [(right_s hrr).1])];unfold Od.byKind;rw [inZ oZ,inZ oZ,inZ oZ,ipZ oZ];simp only [List.map_cons,List.map_nil,List.getD_cons_zero];exact Prod.ext rfl ha
   ·simp at ha
  ·rename_i ha;exact absurd h ha
 ·obtain rfl:=qau (l:=p) (by rw [inZ oZ,inZ oZ] at h3;omega)
  have e:lay o [] x=join o.side x:=by unfold lay;rw [inZ oZ,inZ oZ,inZ oZ,inZ oZ,inZ oZ,ipZ hb]
  rw [e] at h ⊢;unfold join at h ⊢
  split at h
  ·rename_i ha
   rw [ipZ ha];obtain ⟨j1,j2⟩:=qe4 ha;rw [qaO hc sZ j2];unfold Od.byKind;rw [inZ oZ,inZ oZ,inZ oZ,inZ oZ,ipZ oZ,j1];exact Prod.ext rfl ha
  ·rename_i ha;exact absurd h ha
 ·obtain rfl:=qau (l:=p) (by rw [inZ oZ,inZ oZ] at h3;omega)
  obtain ⟨t,rfl⟩:=qap (l:=x) (by simp [hb] at h1 h2;omega);have e:lay o [] [t]=cut t o.side o.frm o.to:=by unfold lay;rw [inZ oZ,inZ oZ,inZ oZ,inZ oZ,inZ oZ,inZ oZ,ipZ hb];rfl
  rw [e] at h ⊢;unfold cut at h ⊢
  split at h
  ·rename_i hrr
   rw [ipZ hrr]
   split at h
   ·rename_i ha
    rw [ipZ ha];rw [qaO hc sZ (by simp [(right_s hrr).1])];unfold Od.byKind;rw [inZ oZ,inZ oZ,inZ oZ,inZ oZ,inZ oZ,ipZ oZ];simp only [List.map_cons,List.map_nil,List.getD_cons_zero];exact Prod.ext rfl ha
   ·rename_i ha;exact absurd h ha
  ·simp at h
 ·obtain rfl:=qau (l:=p) (by rw [inZ oZ,inZ oZ] at h3;omega)
  obtain ⟨t,rfl⟩:=qap (l:=x) (by simp [hb] at h1 h2;omega);have e:lay o [] [t]=turn t o.s:=by unfold lay;rw [inZ oZ,inZ oZ,inZ oZ,inZ oZ,inZ oZ,inZ oZ,inZ oZ,ipZ hb];rfl
  rw [e] at h ⊢;unfold turn of_ at h ⊢
  split at h
  ·rename_i hrr
   rw [ipZ hrr]
   split at h
   ·rename_i ha
    rw [ipZ ha];rw [qaO hc sZ (by simp [(right_s hrr).1])];unfold Od.byKind Od.turned;rw [inZ oZ,inZ oZ,inZ oZ,inZ oZ,inZ oZ,inZ oZ,ipZ oZ];have a1:=right_s hrr;have a2:=right_s ha;simp only [List.map_cons,List.map_nil,List.getD_cons_zero];rw [ipZ (by simp [a1.1,a2.1,←a2.2,←a1.2])]
   ·simp at h
  ·simp at h
theorem go_err {o:OpD} {p x:List Ten} (h:Od.counts o p.length x.length≠0):go o p x=(none_,Od.counts o p.length x.length):=by unfold go;rw [inZ h]
theorem go_lay {o:OpD} {p x:List Ten} (h:Od.counts o p.length x.length=0):go o p x=lay o p x:=by unfold go;rw [ipZ h]
end Ly
namespace Ly
theorem dense_none {w b x:Ten} (h:(dense w b x).2≠0):(dense w b x).1=none_:=by
 unfold dense at h ⊢;split at h
 ·simp at h
 ·rename_i hc;rw [inZ hc]
theorem add_none {a b:Ten} (h:(add a b).2≠0):(add a b).1=none_:=by
 unfold add at h ⊢;split at h
 ·simp at h
 ·rename_i hc;rw [inZ hc]
theorem conv_none {w x:Ten} {st:Int} (h:(conv w x st).2≠0):(conv w x st).1=none_:=by
 unfold conv at h ⊢;split at h
 ·simp at h
 ·rename_i hc;rw [inZ hc]
theorem pool_none {t:Bool} {x:Ten} {wd st:Int} (h:(pool t x wd st).2≠0):(pool t x wd st).1=none_:=by
 unfold pool at h ⊢;split at h
 ·simp at h
 ·rename_i hc;rw [inZ hc]
theorem join_none {sd:Int} {x:List Ten} (h:(join sd x).2≠0):(join sd x).1=none_:=by
 unfold join at h ⊢;split at h
 ·simp at h
 ·rename_i hc;rw [inZ hc]
theorem cut_none {x:Ten} {sd f t:Int} (h:(cut x sd f t).2≠0):(cut x sd f t).1=none_:=by
 unfold cut at h ⊢
 split at h
 ·rename_i h1
  rw [ipZ h1]
  split at h
  ·simp at h
  ·rename_i hc;rw [inZ hc]
 ·rename_i hc;rw [inZ hc]
theorem turn_none {x:Ten} {s:List Int} (h:(turn x s).2≠0):(turn x s).1=none_:=by
 unfold turn of_ at h ⊢
 split at h
 ·rename_i h1
  rw [ipZ h1]
  split at h
  ·simp at h
  ·rename_i hc;rw [inZ hc]
 ·rename_i hc;rw [inZ hc]
theorem point_none {k k0:Int} {x:List Ten} (h:(point k k0 x).2≠0):(point k k0 x).1=none_:=by
 unfold point at h ⊢;split at h
 ·simp at h
 ·rename_i hc;rw [inZ hc]
theorem lay8 {o:OpD} {p x:List Ten} (h:o.kind=8):lay o p x=dense (got p 0) (got p 1) (got x 0):=by unfold lay;rw [ipZ h]
theorem lay9 {o:OpD} {p x:List Ten} (h:o.kind=9):lay o p x=add (got x 0) (got p 0):=by unfold lay;rw [inZ oZ,ipZ h]
theorem lay10 {o:OpD} {p x:List Ten} (h:o.kind=10):lay o p x=conv (got p 0) (got x 0) o.step:=by unfold lay;rw [inZ oZ,inZ oZ,ipZ h]
theorem lay11 {o:OpD} {p x:List Ten} (h:o.kind=11):lay o p x=pool true (got x 0) o.width o.step:=by unfold lay;rw [inZ oZ,inZ oZ,inZ oZ,ipZ h]
theorem lay12 {o:OpD} {p x:List Ten} (h:o.kind=12):lay o p x=pool false (got x 0) o.width o.step:=by unfold lay;rw [inZ oZ,inZ oZ,inZ oZ,inZ oZ,ipZ h]
theorem lay13 {o:OpD} {p x:List Ten} (h:o.kind=13):lay o p x=join o.side x:=by unfold lay;rw [inZ oZ,inZ oZ,inZ oZ,inZ oZ,inZ oZ,ipZ h]
theorem lay14 {o:OpD} {p x:List Ten} (h:o.kind=14):lay o p x=cut (got x 0) o.side o.frm o.to:=by unfold lay;rw [inZ oZ,inZ oZ,inZ oZ,inZ oZ,inZ oZ,inZ oZ,ipZ h]
theorem lay15 {o:OpD} {p x:List Ten} (h:o.kind=15):lay o p x=turn (got x 0) o.s:=by unfold lay;rw [inZ oZ,inZ oZ,inZ oZ,inZ oZ,inZ oZ,inZ oZ,inZ oZ,ipZ h]
theorem lay7 {o:OpD} {p x:List Ten} (h:o.kind<=7):lay o p x=point o.kind o.k x:=by unfold lay;rw [inZ oZ,inZ oZ,inZ oZ,inZ oZ,inZ oZ,inZ oZ,inZ oZ,inZ oZ]
theorem lay_none {o:OpD} {p x:List Ten} (hk:o.kind<=15) (h:(lay o p x).2≠0):(lay o p x).1=none_:=by
 have hb:o.kind<=7∨o.kind=8∨o.kind=9∨o.kind=10∨o.kind=11∨o.kind=12∨o.kind=13∨o.kind=14∨o.kind=15:=by omega
 rcases hb with ha|ha|ha|ha|ha|ha|ha|ha|ha
 ·rw [lay7 ha] at h ⊢;exact point_none h
 ·rw [lay8 ha] at h ⊢;exact dense_none h
 ·rw [lay9 ha] at h ⊢;exact add_none h
 ·rw [lay10 ha] at h ⊢;exact conv_none h
 ·rw [lay11 ha] at h ⊢;exact pool_none h
 ·rw [lay12 ha] at h ⊢;exact pool_none h
 ·rw [lay13 ha] at h ⊢;exact join_none h
 ·rw [lay14 ha] at h ⊢;exact cut_none h
 ·rw [lay15 ha] at h ⊢;exact turn_none h
end Ly
def GoU (r:Ten × Int) (w:Zp1) (e:Ending) (w':Zp1):Prop:=
 ∃S c C d,e=.returned (.tuple #[.agg #[.slice S r.1.s.length c,.slice C r.1.c.length d],.int .i64 r.2])/\
  (r.2≠0->.agg #[.slice S r.1.s.length c,.slice C r.1.c.length d]=Value.agg #[.slice none 0 0,.slice none 0 0])/\(r.2=0->TenO w.heap.size w' (.agg #[.slice S r.1.s.length c,.slice C r.1.c.length d]) r.1)/\Below w.heap.size w w'
theorem GoP.u {r:Ten × Int} {w w':Zp1} {e:Ending} (h:GoP r w e w') (hn:r.2≠0->r.1=Ly.none_):GoU r w e w':=by
 obtain ⟨h1|⟨h1,v,rfl,h3⟩,h2⟩:=h
 ·obtain ⟨h1,rfl⟩:=h1
  have e1:=hn h1;refine ⟨none,0,none,0,by rw [e1];rfl,λ_=>by rw [e1];rfl,λh=>absurd h h1,h2⟩
 ·have ha:=h3
  obtain ⟨S,c,C,d,rfl,_,_,_⟩:=h3;exact ⟨S,c,C,d,by rw [h1],λh=>absurd h1 h,λ_=>ha,h2⟩
theorem qad {P:Program} {f:FuncId} {args:Array Value} {r:Ten × Int} {w:Zp1} (h:Calls P f args w (GoP r w)) (hn:r.2≠0->r.1=Ly.none_):Calls P f args w (GoU r w):=h.mono λ_ _ hq=>hq.u hn
def GoB (r:Ly.Bk × Int) (w:Zp1) (e:Ending) (w':Zp1):Prop:=
 (r.2≠0/\e=.returned (.tuple #[.agg #[.slice none 0 0,.slice none 0 0],.int .i64 r.2])∨
  r.2=0/\∃A B,e=.returned (.tuple #[.agg #[.slice A r.1.p.length r.1.p.length,.slice B r.1.x.length r.1.x.length],.int .i64 0])/\TnsO w.heap.size w' A r.1.p/\TnsO w.heap.size w' B r.1.x)/\Below w.heap.size w w'
theorem GoB.fail {n:Int} {r:Ly.Bk × Int} {w w':Zp1} (hr:r=(Ly.bnone,n)) (hn:n≠0) (hb:Below w.heap.size w w'):GoB r w (.returned (.tuple #[.agg #[.slice none 0 0,.slice none 0 0],.int .i64 n])) w':=by
 subst hr;exact ⟨.inl ⟨hn,rfl⟩,hb⟩
theorem TnsO.nil (B:Nat) (w:Zp1):TnsO B w none []:=⟨λa e=>(by cases e),λj hj=>absurd hj sZ⟩
theorem TnsO.base {B B':Nat} {w:Zp1} {A:Option Addr} {ts:List Ten} (h:TnsO B w A ts) (hB:B'<=B):TnsO B' w A ts:=
 ⟨λa e=>by obtain ⟨b,h1,h2,h3,h4⟩:=h.1 a e;exact ⟨b,h1,by omega,h3,h4⟩,λj hj=>by obtain ⟨b,S,c,C,d,e,c0,c1,hO⟩:=h.2 j hj;exact ⟨b,S,c,C,d,e,c0,c1,hO.base hB⟩⟩
theorem TnsO.later {B:Nat} {w w':Zp1} {A:Option Addr} {ts:List Ten} (h:TnsO B w A ts) (hl:Later w w'):TnsO B w' A ts:=
 ⟨λa e=>by obtain ⟨b,h1,h2,h3,h4⟩:=h.1 a e;exact ⟨b,h1,h2,ltZ h3 hl.size,λk=>(Below.frozen hl (p:=⟨b,k,none⟩) h3).trans (h4 k)⟩,
  λj hj=>by obtain ⟨b,S,c,C,d,e,c0,c1,hO⟩:=h.2 j hj;exact ⟨b,S,c,C,d,e,hl.cell c0,hl.cell c1,hO.later hl⟩⟩
theorem qaD {w w':Zp1} {b:Nat} (h:w'.heap[b]? = w.heap[b]?) (k:Nat):w'.cell? ⟨b,k,none⟩=w.cell? ⟨b,k,none⟩:=Zi1 h
theorem TnsO.box {B p:Nat} {w:Zp1} {A:Option Addr} {ts:List Ten} {T:TypeId} (h:TnsO B w A ts) (hz:Blk w p T #[.slice none 0 0,.slice none 0 0]) (hA:∀a,A=some a->a.block≠p) (u u2:Value):
  TnsO B ((w.setCell ⟨p,0,none⟩ u).setCell ⟨p,1,none⟩ u2) A ts:=by
 refine ⟨λa e=>?_,λj hj=>?_⟩
 ·obtain ⟨b,h1,h2,h3,h4⟩:=h.1 a e
  exact ⟨b,h1,h2,by simpa using h3,λk=>by rw [World.frozen?_setCell,World.frozen?_setCell];exact h4 k⟩
 ·obtain ⟨b,S,c,C,d,e,c0,c1,hO⟩:=h.2 j hj
  have hb:=hA _ e;have e0:=qaD (w:=w) (w':=(w.setCell ⟨p,0,none⟩ u).setCell ⟨p,1,none⟩ u2) (b:=b) (qcE hb u u2);exact ⟨b,S,c,C,d,e,(e0 _).trans c0,(e0 _).trans c1,hO.box hz⟩
namespace Ly
theorem back_err {o:OpD} {p x:List Ten} {g:Ten} (h:Od.counts o p.length x.length≠0):back o p x g=(bnone,Od.counts o p.length x.length):=by unfold back;rw [inZ h]
theorem back_lay {o:OpD} {p x:List Ten} {g:Ten} (h:Od.counts o p.length x.length=0):back o p x g=layBack o p x g:=by unfold back;rw [ipZ h]
theorem layBack7 {o:OpD} {p x:List Ten} {g:Ten} (h:o.kind<=7):layBack o p x g=bseveral (pointBack o.kind o.k g x):=by
 unfold layBack;rw [inZ oZ,inZ oZ,inZ oZ,inZ oZ,inZ oZ,inZ oZ,inZ oZ,inZ oZ]
end Ly
theorem qfh (kind k0:Int) (A GS GC:Option Addr) (f gc gd:Nat) (g:Ten) (x:List Ten) (w:Zp1) (hn:x.length=1∨x.length=2) (hT:Tns w A x) (hG:TenIn w GS GC gc gd g) (hk0:Fx.In k0):
  Calls Tryz.prog 18 #[.int .i64 kind,.int .i64 k0,.agg #[.slice GS g.s.length gc,.slice GC g.c.length gd],.slice A x.length f] w (GoL (Ly.pointBack kind k0 g x) w):=by
 rcases hn with h|h
 ·exact qev kind k0 A GS GC f gc gd g x w h hT hG hk0
 ·exact qew kind k0 A GS GC f gc gd g x w h hT hG hk0
theorem qbR (A:Option Addr) (n c:Nat) (w:Zp1):
  Calls Tryz.prog 48 #[.slice A n c,.int .i64 0] w λe w'=>e=.returned (.tuple #[.agg #[.slice none 0 0,.slice A n c],.int .i64 0])/\Below w.heap.size w w':=by
 have hz:=Blk.new w 38 #[.slice none 0 0,.slice none 0 0];have ha:Later w (w.alloc (.cells #[.slice none 0 0,.slice none 0 0] 38)):=(Later.refl w).alloc _;obtain ⟨Hz,hc⟩:=zd2 hz ha;clear hz ha;go_enter Tryz.func48,Tryz.ntmps48;go_upto_region 1 with fail;generalize w.alloc (.cells #[.slice none 0 0,.slice none 0 0] 38)=w1 at *;have c0:=Hz.out.cell 0;have c1:=Hz.out.cell 1;have f0:=Hz.out.frozen 0;have f1:=Hz.out.frozen 1;have hb:=(Hz.out.set_ 0 (.slice none 0 0)).set_ 1 (.slice A n c);have d0:=hb.cell 0;have d1:=hb.cell 1;simp at c0 c1 d0 d1;go_wp2_with fail;refine Zk1 (v:=.tuple #[.agg #[.slice none 0 0,.slice A n c],.int .i64 0]) (by simp [results,Tryz.results48,go_sem,d0,d1]) rfl ?_;exact ⟨rfl,(hc.out.set (p:=⟨w.heap.size,0,none⟩) (lrZ _) _).set (p:=⟨w.heap.size,1,none⟩) (lrZ _) _⟩
theorem qbS (A:Option Addr) (n c:Nat) (er:Int) (w:Zp1) (he:er≠0):
  Calls Tryz.prog 48 #[.slice A n c,.int .i64 er] w λe w'=>e=.returned (.tuple #[.agg #[.slice none 0 0,.slice none 0 0],.int .i64 er])/\Below w.heap.size w w':=by
 have hz:=Blk.new w 38 #[.slice none 0 0,.slice none 0 0];have ha:Later w (w.alloc (.cells #[.slice none 0 0,.slice none 0 0] 38)):=(Later.refl w).alloc _;have e1:(er != 0)=true:=by simpa using he
 have e2:(er==0)=false:=by simpa using he
 obtain ⟨Hz,hc⟩:=zd2 hz ha;clear hz ha;go_enter Tryz.func48,Tryz.ntmps48;go_upto_region 1 with fail;generalize w.alloc (.cells #[.slice none 0 0,.slice none 0 0] 38)=w1 at *;have c0:=Hz.out.cell 0;have c1:=Hz.out.cell 1;have f0:=Hz.out.frozen 0;have f1:=Hz.out.frozen 1;have hb:=(Hz.out.set_ 0 (.slice none 0 0)).set_ 1 (.slice none 0 0);have d0:=hb.cell 0;have d1:=hb.cell 1;simp at c0 c1 d0 d1;go_wp2_with fail;refine Zk1 (v:=.tuple #[.agg #[.slice none 0 0,.slice none 0 0],.int .i64 er]) (by simp [results,Tryz.results48,go_sem,d0,d1]) rfl ?_;exact ⟨rfl,(hc.out.set (p:=⟨w.heap.size,0,none⟩) (lrZ _) _).set (p:=⟨w.heap.size,1,none⟩) (lrZ _) _⟩
theorem qax (w:Zp1) (o:OpD) (S:Option Addr) (c:Nat) (GS GC:Option Addr) (gc gd:Nat) (g:Ten):
  ∃w1,((w.alloc (.cells #[.int .i64 o.kind,.int .i64 o.k,.int .i64 o.width,.int .i64 o.step,.int .i64 o.side,.int .i64 o.frm,.int .i64 o.to,.slice S o.s.length c] 26)).alloc (.cells #[.slice GS g.s.length gc,.slice GC g.c.length gd] 30)).alloc (.cells #[.slice none 0 0,.slice none 0 0] 38)=w1/\Blk w1 w.heap.size 26 #[.int .i64 o.kind,.int .i64 o.k,.int .i64 o.width,.int .i64 o.step,.int .i64 o.side,.int .i64 o.frm,.int .i64 o.to,.slice S o.s.length c]/\Blk w1 (w.heap.size+1) 30 #[.slice GS g.s.length gc,.slice GC g.c.length gd]/\Blk w1 (w.heap.size+1+1) 38 #[.slice none 0 0,.slice none 0 0]/\Later w w1:=by
 have h2:=(Blk.new (w.alloc (.cells #[.int .i64 o.kind,.int .i64 o.k,.int .i64 o.width,.int .i64 o.step,.int .i64 o.side,.int .i64 o.frm,.int .i64 o.to,.slice S o.s.length c] 26)) 30 #[.slice GS g.s.length gc,.slice GC g.c.length gd]).alloc (.cells #[.slice none 0 0,.slice none 0 0] 38);have h3:=Blk.new ((w.alloc (.cells #[.int .i64 o.kind,.int .i64 o.k,.int .i64 o.width,.int .i64 o.step,.int .i64 o.side,.int .i64 o.frm,.int .i64 o.to,.slice S o.s.length c] 26)).alloc (.cells #[.slice GS g.s.length gc,.slice GC g.c.length gd] 30)) 38 #[.slice none 0 0,.slice none 0 0];simp only [Zh1] at h2 h3;exact ⟨_,rfl,((Blk.new w 26 #[.int .i64 o.kind,.int .i64 o.k,.int .i64 o.width,.int .i64 o.step,.int .i64 o.side,.int .i64 o.frm,.int .i64 o.to,.slice S o.s.length c]).alloc _).alloc _,h2,h3,(((Later.refl w).alloc _).alloc _).alloc _⟩
set_option maxRecDepth 20000 in
theorem op_back7 (o:OpD) (S P X GS GC:Option Addr) (c cp cx gc gd:Nat) (p x:List Ten) (g:Ten) (w:Zp1) (hk:o.kind<=7) (ho:o.s.length<=1048576) (hI:Ints .i64 w S o.s) (hk0:Fx.In o.k) (hX:Tns w X x) (lX:x.length<=1048576) (hG:TenIn w GS GC gc gd g):
  Calls Tryz.prog 11 #[.agg #[.int .i64 o.kind,.int .i64 o.k,.int .i64 o.width,.int .i64 o.step,.int .i64 o.side,.int .i64 o.frm,.int .i64 o.to,.slice S o.s.length c],.slice P p.length cp,.slice X x.length cx,.agg #[.slice GS g.s.length gc,.slice GC g.c.length gd]] w (GoB (Ly.back o p x g) w):=by
 obtain ⟨w1,e1,hu,hv,hS,hL⟩:=qax w o S c GS GC gc gd g;obtain ⟨HI,HX,HG,hC,hm,hq,hN,hY,hM⟩:=zd9 hI hX hG hL hu hv hS hk0 e1;clear hI hX hG hL hu hv hS hk0 e1;go_enter Tryz.func11,Tryz.ntmps11;go_wp2_with fail;rw [hM.out];clear hM;refine (qat o S c p.length x.length w1 oZ (HI.out.below hC.out (lrZ _))).mono ?_;rintro e w2 ⟨rfl,hK⟩;have hj:Later w1 w2:=hK;have hH:=hC.out.trans hj;have hz:=hj.blk hN.out;have hg:=hj.blk hm.out;have hi:=hj.blk hq.out;clear hK hj hC hN hm hq
 by_cases hc:Od.counts o p.length x.length=0
 case neg=>
  have HE:=zI (Ly.back_err (g:=g) hc);have Hc:=zI hc;have d2:(Od.counts o p.length x.length != 0)=true:=by simpa using hc
  clear hc;generalize Od.counts o p.length x.length=ge at *;have c0':=hz.cell 0;have c1':=hz.cell 1;have f0:=hz.frozen 0;have f1:=hz.frozen 1;have ha:=(hz.set_ 0 (.slice none 0 0)).set_ 1 (.slice none 0 0);have d0:=ha.cell 0;have d1:=ha.cell 1;simp at c0' c1' d0 d1;obtain ⟨HH,Hz,hU,h4,hy⟩:=zd5 hH hz hg hi ha;clear hH hz hg hi ha;go_wp2_with fail;refine Zk1 (v:=.tuple #[.agg #[.slice none 0 0,.slice none 0 0],.int .i64 ge]) (by simp [results,Tryz.results11,go_sem,d0,d1]) rfl ?_;exact GoB.fail HE.out Hc.out ((HH.out.set (p:=⟨w.heap.size+2,0,none⟩) sZ _).set (p:=⟨w.heap.size+2,1,none⟩) sZ _)
 have hl:=Ly.counts_ok hc;have h9:=Od.right_kind hl.1
 have hD:x.length=1∨x.length=2:=by
  have h1:=hl.2.1;have h2:=hl.2.2.1;unfold Od.least Od.ptIns at h1;unfold Od.most Od.ptIns at h2;rw [ipZ hl.1,ipZ hk] at h1 h2
  split at h1
  ·rename_i hh;rw [ipZ hh] at h2;omega
  ·rename_i hh
   rw [inZ hh] at h2
   split at h1
   ·rename_i h3;rw [ipZ h3] at h2;omega
   ·omega
 have HE:=zI ((Ly.back_lay (g:=g) hc).trans (Ly.layBack7 hk));rw [hc];clear hl hc;have x0:w2.cell? ⟨w.heap.size,0,none⟩=some (.int .i64 o.kind):=by rw [hg.cell];rfl
 have x1:w2.cell? ⟨w.heap.size,1,none⟩=some (.int .i64 o.k):=by rw [hg.cell];rfl
 have g0:=hi.cell 0;have g1:=hi.cell 1;simp at g0 g1;have k8:(o.kind==8)=false:=by rw [beq_eq_false_iff_ne];omega
 have k9:(o.kind==9)=false:=by rw [beq_eq_false_iff_ne];omega
 have k10:(o.kind==10)=false:=by rw [beq_eq_false_iff_ne];omega
 have k11:(o.kind==11)=false:=by rw [beq_eq_false_iff_ne];omega
 have k12:(o.kind==12)=false:=by rw [beq_eq_false_iff_ne];omega
 have k13:(o.kind==13)=false:=by rw [beq_eq_false_iff_ne];omega
 have k14:(o.kind==14)=false:=by rw [beq_eq_false_iff_ne];omega
 have k15:(o.kind==15)=false:=by rw [beq_eq_false_iff_ne];omega
 have hb:=qfh o.kind o.k X GS GC cx gc gd g x w2 hD (HX.out.later hH) (HG.out.later hH) hY.out;obtain ⟨R,hR⟩:∃R,Ly.pointBack o.kind o.k g x=R:=⟨_,rfl⟩
 rw [hR] at hb HE;obtain ⟨HH,Hz,hU,h4,ht,h7,HR⟩:=zd7 hH hz hg hi hb hD hR;clear hH hz hg hi hb hD hR;go_wp2_with fail;refine (ht.out).mono ?_;rintro e w3 ⟨⟨hE,rfl⟩|⟨h0,A,rfl,hO⟩,hx⟩
 ·have he:Later w2 w3:=hx
  have hn:Ly.bseveral R=(Ly.bnone,R.2):=by unfold Ly.bseveral;rw [inZ hE]
  rw [hn] at HE;have hr:=HH.out.trans he;have hs:=he.blk Hz.out;have hQ:=zI hE;clear hx x0 x1 g0 g1 k8 k9 k10 k11 k12 k13 k14 k15 hE hn;generalize R.2=ge at *;obtain ⟨hW,hB,hA⟩:=zd3 he hr hs;clear he hr hs;go_wp2_with fail;refine (qbS none 0 0 ge w3 hQ.out).mono ?_;rintro e w4 ⟨rfl,hw⟩;have hd:Later w3 w4:=hw;have hp:=hB.out.trans hd;have ha:=hd.blk hA.out;have c0':=ha.cell 0;have c1':=ha.cell 1;have f0:=ha.frozen 0;have f1:=ha.frozen 1;have hf:=(ha.set_ 0 (.slice none 0 0)).set_ 1 (.slice none 0 0);have d0:=hf.cell 0;have d1:=hf.cell 1;simp at c0' c1' d0 d1;clear hw;obtain ⟨hV,hF,hy,h5⟩:=zd4 hd hp ha hf;clear hd hp ha hf;go_wp2_with fail;refine Zk1 (v:=.tuple #[.agg #[.slice none 0 0,.slice none 0 0],.int .i64 ge]) (by simp [results,Tryz.results11,go_sem,d0,d1]) rfl ?_;exact GoB.fail HE.out hQ.out ((hF.out.set (p:=⟨w.heap.size+2,0,none⟩) sZ _).set (p:=⟨w.heap.size+2,1,none⟩) sZ _)
 ·have he:Later w2 w3:=hx
  have hn:Ly.bseveral R=(⟨[],R.1⟩,0):=by unfold Ly.bseveral;rw [ipZ h0]
  rw [hn] at HE;have hr:=HH.out.trans he;have hs:=he.blk Hz.out;have h8:=Hz.out.lt;have hZ:=HH.out.size;clear hx x0 x1 g0 g1 k8 k9 k10 k11 k12 k13 k14 k15 hn h0;obtain ⟨hW,hB,hA,HO⟩:=zd4 he hr hs hO;clear he hr hs hO;go_wp2_with fail;refine (qbR A R.1.length R.1.length w3).mono ?_;rintro e w4 ⟨rfl,hw⟩;have hd:Later w3 w4:=hw;have hp:=hB.out.trans hd;have ha:=hd.blk hA.out;have hJ:=HO.out.later hd
  have hP:∀a,A=some a->a.block≠w.heap.size+2:=λa e=>by
   obtain ⟨b,h1,h2,-,-⟩:=hJ.1 a e;rw [h1]
   show b≠_
   omega
  have c0':=ha.cell 0;have c1':=ha.cell 1;have f0:=ha.frozen 0;have f1:=ha.frozen 1;have hf:=(ha.set_ 0 (.slice none 0 0)).set_ 1 (.slice A R.1.length R.1.length);have d0:=hf.cell 0;have d1:=hf.cell 1;simp at c0' c1' d0 d1;clear hw;obtain ⟨hV,hF,hy,h5,h6,hT⟩:=zd6 hd hp ha hf hJ hP;clear hd hp ha hf hJ hP;go_wp2_with fail;refine Zk1 (v:=.tuple #[.agg #[.slice none 0 0,.slice A R.1.length R.1.length],.int .i64 0]) (by simp [results,Tryz.results11,go_sem,d0,d1]) rfl ?_;rw [HE.out];exact ⟨.inr ⟨rfl,none,A,rfl,TnsO.nil _ _,(h6.out.base hZ).box hy.out hT.out _ _⟩,(hF.out.set (p:=⟨w.heap.size+2,0,none⟩) sZ _).set (p:=⟨w.heap.size+2,1,none⟩) sZ _⟩
theorem qb2:(Tryz.prog.info? 30).map (λi=>(i.zero,i.size,i.bytes))=some (some (.agg #[.slice none 0 0,.slice none 0 0]),2,48):=by kernel_rfl
theorem qb3 (k:Nat):(madeCells #[Zb1 none 0 0,Zb1 none 0 0] k).toList=Zc k (Zb1 none 0 0):=by
 unfold madeCells;rw [Array.toList_map,Array.toList_range];apply List.ext_getElem
 ·simp
 ·intro i h1 h2
  simp only [List.getElem_map,List.getElem_range,List.getElem_replicate];rcases Nat.mod_two_eq_zero_or_one i with e|e
  ·simp [e]
  ·simp [e]
theorem qc8 {w:Zp1} {B e size n g:Nat} {xs:List Value} (h:w.ownsRow B e size (.slice (some ⟨g,0,none⟩) n n) n xs):Blk w g e xs.toArray:=by
 rcases h.2 with ⟨h1,_⟩|⟨g',cap,cur,e1,_,hh,_,_,hs,ht⟩
 ·cases h1
 ·injection e1 with e1 _ e2
  injection e1 with e1
  injection e1 with e1 _ _
  subst e1 e2;have:cur.toList=xs:=by rw [←ht,List.take_of_length_le soZ]
  rw [←this];exact hh
theorem RowT.tnsB {w w':Zp1} {vs:List Value} {ts:List Ten} {G:Nat} {t:TypeId} (h:RowT w vs ts) (hb:Below w.heap.size w w') (hG:Blk w' G t vs.toArray):Tns w' (some ⟨G,0,none⟩) ts:=λj hj=>by
 obtain ⟨S,c,C,d,e1,e2,e3⟩:=h.2 j hj;refine ⟨G,0,S,c,C,d,rfl,hG.lt,?_,?_,e3.below hb (lrZ _)⟩
 ·rw [Zw,hG.cell];simpa using e1
 ·rw [Zw,hG.cell];simpa using e2
theorem fill_two {vs:List Value} {m k:Nat} {a b z:Value} (hl:vs.length=k*2) (hk:k<m):
  (((vs++Zc ((m-k)*2) z).set (k*2) a).set (k*2+1) b)=(vs++[a,b])++Zc ((m-(k+1))*2) z:=by
 have e:(m-k)*2=(m-(k+1))*2+1+1:=by omega
 rw [e,List.replicate_succ,List.replicate_succ,List.set_append_right _ _ oZ,hl,Nat.sub_self,List.set_cons_zero,List.set_append_right _ _ oZ,hl,Nat.add_sub_cancel_left,List.set_cons_succ,List.set_cons_zero,List.append_assoc]
 rfl
def RowO (B:Nat) (w:Zp1) (vs:List Value) (ts:List Ten):Prop:=
 vs.length=ts.length*2/\∀j (hj:j<ts.length),∃S c C d,vs[j*2]? = some (.slice S ts[j].s.length c)/\vs[j*2+1]? = some (.slice C ts[j].c.length d)/\TenO B w (.agg #[.slice S ts[j].s.length c,.slice C ts[j].c.length d]) ts[j]
theorem RowO.later {B:Nat} {w w':Zp1} {vs:List Value} {ts:List Ten} (h:RowO B w vs ts) (hl:Later w w'):RowO B w' vs ts:=
 ⟨h.1,λj hj=>by obtain ⟨S,c,C,d,e1,e2,e3⟩:=h.2 j hj;exact ⟨S,c,C,d,e1,e2,e3.later hl⟩⟩
theorem TenO.ten {B:Nat} {w:Zp1} {S C:Option Addr} {c d:Nat} {t:Ten} (h:TenO B w (.agg #[.slice S t.s.length c,.slice C t.c.length d]) t):TenIn w S C c d t:=by
 obtain ⟨S',c',C',d',e,hT,-,-⟩:=h;simp at e;obtain ⟨⟨rfl,rfl⟩,rfl,rfl⟩:=e;exact hT
theorem RowO.rowT {B:Nat} {w:Zp1} {vs:List Value} {ts:List Ten} (h:RowO B w vs ts):RowT w vs ts:=
 ⟨h.1,λj hj=>by obtain ⟨S,c,C,d,e1,e2,e3⟩:=h.2 j hj;exact ⟨S,c,C,d,e1,e2,e3.ten⟩⟩
theorem RowO.set {B:Nat} {w:Zp1} {vs:List Value} {ts:List Ten} {S C:Option Addr} {c d k:Nat} {t:Ten} (h:RowO B w vs ts) (hk:k<ts.length) (ht:TenO B w (.agg #[.slice S t.s.length c,.slice C t.c.length d]) t):
  RowO B w ((vs.set (k*2) (.slice S t.s.length c)).set (k*2+1) (.slice C t.c.length d)) (ts.set k t):=by
 have hl:=h.1;refine ⟨by simp [hl],λj hj=>?_⟩;rw [List.length_set] at hj
 by_cases e:j=k
 ·subst e
  refine ⟨S,c,C,d,?_,?_,?_⟩
  ·rw [Zs oZ,Zr oZ];simp
  ·rw [Zr soZ];simp
  ·simpa using ht
 ·obtain ⟨S',c',C',d',e1,e2,e3⟩:=h.2 j hj
  have e4:(ts.set k t)[j]'(by simpa using hj)=ts[j]:=by rw [List.getElem_set_ne (λq=>e q.symm)]
  refine ⟨S',c',C',d',?_,?_,?_⟩
  ·rw [e4,Zs oZ,Zs oZ];exact e1
  ·rw [e4,Zs oZ,Zs oZ];exact e2
  ·rw [e4];exact e3
theorem qgg (B:Nat) (w:Zp1):TenO B w (.agg #[.slice none Ly.none_.s.length 0,.slice none Ly.none_.c.length 0]) Ly.none_:=
 ⟨none,0,none,0,rfl,⟨⟨Ints.nil,Ints.nil⟩,lrZ _,by omega,lrZ _,by omega,by simp [Ly.none_],by simp [Ly.none_],by intro z hz;simp [Ly.none_] at hz⟩,λa e=>(by cases e),λa e=>(by cases e)⟩
theorem RowO.zeros (B:Nat) (w:Zp1) (m:Nat):RowO B w (Zc (m*2) (Zb1 none 0 0)) (Zc m Ly.none_):=by
 refine ⟨by simp,λj hj=>?_⟩;rw [List.length_replicate] at hj;refine ⟨none,0,none,0,?_,?_,?_⟩
 ·rw [List.getElem?_replicate,ipZ oZ];simp [Ly.none_]
 ·rw [List.getElem?_replicate,ipZ oZ];simp [Ly.none_]
 ·rw [List.getElem_replicate];exact qgg B w
theorem RowO.tnsO {B G:Nat} {w:Zp1} {vs:List Value} {ts:List Ten} {t:TypeId} (h:RowO B w vs ts) (hG:Blk w G t vs.toArray) (hB:B<=G):TnsO B w (some ⟨G,0,none⟩) ts:=by
 refine ⟨λa e=>?_,λj hj=>?_⟩
 ·injection e with e;subst e;exact ⟨G,rfl,hB,hG.lt,λk=>hG.frozen k⟩
 ·obtain ⟨S,c,C,d,e1,e2,e3⟩:=h.2 j hj
  exact ⟨G,S,c,C,d,rfl,by rw [hG.cell];simpa using e1,by rw [hG.cell];simpa using e2,e3⟩
theorem Tns.part {w:Zp1} {b off:Nat} {ts:List Ten} (h:Tns w (some ⟨b,off,none⟩) ts) (k m:Nat):Tns w (some ⟨b,off+k*2,none⟩) ((ts.drop k).take m):=λj hj=>by
 have ha:k+j<ts.length:=by simp at hj;omega
 obtain ⟨b',off',S,c,C,d,e,hl,c0,c1,hT⟩:=h (k+j) ha;injection e with e
 injection e with e1 e2
 subst e1 e2;have eg:((ts.drop k).take m)[j]=ts[k+j]:=by simp
 refine ⟨b,off+k*2,S,c,C,d,rfl,hl,?_,?_,?_⟩
 ·rw [eg,show off+k*2+j*2=off+(k+j)*2 by omega];exact c0
 ·rw [eg,show off+k*2+j*2+1=off+(k+j)*2+1 by omega];exact c1
 ·rw [eg];exact hT
theorem TenO.far2 {B:Nat} {w:Zp1} {S C:Option Addr} {c d p:Nat} {u u2:Value} {t:Ten} (h:TenO B w (.agg #[.slice S t.s.length c,.slice C t.c.length d]) t) (hS:∀a,S=some a->a.block≠p) (hC:∀a,C=some a->a.block≠p):
  TenO B ((w.setCell ⟨p,0,none⟩ u).setCell ⟨p,1,none⟩ u2) (.agg #[.slice S t.s.length c,.slice C t.c.length d]) t:=by
 obtain ⟨S',c',C',d',e,hT,h1,h2⟩:=h;simp at e;obtain ⟨⟨rfl,rfl⟩,rfl,rfl⟩:=e
 have hi:∀ {A:Option Addr} {l:List Int},(∀a,A=some a->a.block≠p)->Ints .i64 w A l->Ints .i64 ((w.setCell ⟨p,0,none⟩ u).setCell ⟨p,1,none⟩ u2) A l:=fun {A l} hA hI j hj=>by
  obtain ⟨b,off,e,hl,hc⟩:=hI j hj;exact ⟨b,off,e,by simpa using hl,(qaD (qcE (hA _ e) u u2) _).trans hc⟩
 refine ⟨S,c,C,d,rfl,{ hT with r:=⟨hi hS hT.r.1,hi hC hT.r.2⟩ },h1,λa e=>?_⟩;obtain ⟨k1,k2,k3⟩:=h2 a e;exact ⟨k1,by simpa using k2,λj=>by rw [World.frozen?_setCell,World.frozen?_setCell];exact k3 j⟩
theorem Ints.off {w:Zp1} {A:Option Addr} {l:List Int} {p i k:Nat} {T:TypeId} {vs:List Value} (h:Ints .i64 w A l) (hz:Blk w p T vs.toArray) (hv:∀u∈vs,∃A n c,u=Zb1 A n c) (u u2:Value):Ints .i64 ((w.setCell ⟨p,i,none⟩ u).setCell ⟨p,k,none⟩ u2) A l:=λj hj=>by
 obtain ⟨b,off,e,hl,hc⟩:=h j hj
 have ha:b≠p:=by
  rintro rfl;rw [hz.cell,Zk] at hc;obtain ⟨_,_,_,e2⟩:=hv _ (List.mem_of_getElem? hc);cases e2
 exact ⟨b,off,e,by simpa using hl,(qaD ((Below.heap_setCell _ ⟨p,k,none⟩ u2 b ha).trans (Below.heap_setCell w ⟨p,i,none⟩ u b ha)) _).trans hc⟩
theorem TenO.off {B p i k:Nat} {w:Zp1} {v:Value} {t:Ten} {T:TypeId} {vs:List Value} (h:TenO B w v t) (hz:Blk w p T vs.toArray) (hv:∀u∈vs,∃A n c,u=Zb1 A n c) (u u2:Value):TenO B ((w.setCell ⟨p,i,none⟩ u).setCell ⟨p,k,none⟩ u2) v t:=by
 obtain ⟨S,c,C,d,h1,h2,h3,h4⟩:=h;refine ⟨S,c,C,d,h1,{ h2 with r:=⟨h2.r.1.off hz hv u u2,h2.r.2.off hz hv u u2⟩ },h3,λa e=>?_⟩;obtain ⟨k1,k2,k3⟩:=h4 a e;exact ⟨k1,by simpa using k2,λj=>by rw [World.frozen?_setCell,World.frozen?_setCell];exact k3 j⟩
theorem RowO.off {B p i k:Nat} {w:Zp1} {us:List Value} {ts:List Ten} {T:TypeId} {vs:List Value} (h:RowO B w us ts) (hz:Blk w p T vs.toArray) (hv:∀u∈vs,∃A n c,u=Zb1 A n c) (u u2:Value):RowO B ((w.setCell ⟨p,i,none⟩ u).setCell ⟨p,k,none⟩ u2) us ts:=
 ⟨h.1,λj hj=>by obtain ⟨S,c,C,d,e1,e2,e3⟩:=h.2 j hj;exact ⟨S,c,C,d,e1,e2,e3.off hz hv u u2⟩⟩
theorem qaV {P:Program} {ρ:Operand->Value} {o:Oper} {w:Zp1} {t e:TypeId} {x lo hi:Operand} {A:Option Addr} {n c l m:Nat} (ho:o.op=.slice t x (some lo) (some hi) none)
  (hu:P.underlying t=some (.slice e)) (hs:(P.info? e).map (·.size)=some 2) (hx:ρ x=.slice A n c) (hl:ρ lo=.int .i64 (l:Int)) (hh:ρ hi=.int .i64 ((l:Int)+(m:Int))) (hc:l+m<=c):
  (execOp ρ o).run P w=.ok (.value (.slice (if c=l then A else A.map λa=>a.add (l*2)) m (c-l))) w:=by
 cases hq:P.info? e with
 | none=>simp [hq] at hs
 | some i=>
  have hb:i.size=2:=by simpa [hq] using hs
  have e1:(0:Int)<=(l:Int):=by omega
  have e2:(0:Int)<=(l:Int)+(m:Int):=by omega
  have e3:(l:Int)+(m:Int)<=(c:Int):=by omega
  have e4:(l:Int)<=(((l:Int)+(m:Int)).toNat:Int):=by omega
  have e5:((l:Int)+(m:Int)).toNat-l=m:=by omega
  have he:P.elem t=e:=by simp [Program.elem,hu]
  have ha:P.underlying t=some (.slice (P.elem t)):=by rw [he];exact hu
  have hr:(Instr.sliceAt t (Zb1 A n c) (some (Za1 .i64 (l:Int))) (some (Za1 .i64 ((l:Int)+(m:Int)))) none).run P w=.ok (.slice (if c=l then A else A.map λa=>a.add (l*2)) m (c-l)) w:=by
   rw [run_sliceAt_slice (h:=ha),run_slice_lh (ht:=ha) (h0:=e1) (h1:=by omega) (h2:=e3),he];simp [sizeOf,typeInfo,hq,hb,sliced,Result.andThen,e5]
  unfold execOp;simp [ho,hx,hl,hh,hr,Result.andThen]
theorem qd6 {w:Zp1} {P:Option Addr} {ps:List Ten} {cp fr tl:Nat} (hP:Tns w P ps) (kP:ps.length<=cp) (nP:P=none->cp=0) (h1:fr<=tl) (h2:tl<=ps.length):
  Tns w (if cp=fr then P else P.map λa=>a.add (fr*2)) ((ps.drop fr).take (tl-fr)):=by
 by_cases he:fr=tl
 ·subst he
  rw [Nat.sub_self,List.take_zero];exact Tns.nil _ _
 ·rw [inZ oZ]
  obtain ⟨b,off,S,c,C,d,rfl,-⟩:=hP 0 oZ;have:=hP.part fr (tl-fr);simpa [qaN] using this
def FwCut (w0:Zp1) (B:Nat) (R:Ten × Int) (a b:Value) (wx:Zp1):Prop:=
 ∃S c C d tb,a=.pointer (some ⟨tb,0,none⟩)/\b=.int .i64 R.2/\Blk wx tb 30 #[.slice S R.1.s.length c,.slice C R.1.c.length d]/\(R.2=0->TenO B wx (.agg #[.slice S R.1.s.length c,.slice C R.1.c.length d]) R.1)/\Later w0 wx
namespace Pn
def from_ (ns:List NodeD) (k:Nat):Nat:=((ns.take k).flatMap (·.p)).length
def part (n:NetD) (id:Int):Int × Int:=if id<1∨(n.nodes.length:Int)<id then (0,0) else ((from_ n.nodes (id.toNat-1):Int),(from_ n.nodes id.toNat:Int))
def pickT (vals:List Ten) (ins:List Int):List Ten:=ins.map λi=>Ly.got vals i.toNat
theorem from_succ {ns:List NodeD} {k:Nat} (h:k<ns.length):from_ ns (k+1)=from_ ns k+ns[k].p.length:=by
 unfold from_;rw [Zb h,Zj,Ze];simp
end Pn
set_option maxRecDepth 20000 in
theorem qd7 (A N:Option Addr) (c d:Nat) (n:NetD) (id:Int) (w:Zp1) (hok:n.ok) (hR:NetR w A N n) (hd:n.nodes.length<=d) (hi1 : -9223372036854775808<=id) (hi2:id<=9223372036854775807):
  Calls Tryz.prog 72 #[.agg #[.slice A n.inn.length c,.slice N n.nodes.length d],.int .i64 id] w λe w'=>e=.returned (.tuple #[.int .i64 (Pn.part n id).1,.int .i64 (Pn.part n id).2])/\Below w.heap.size w w':=by
 have hl:=Blk.new w 59 #[.slice A n.inn.length c,.slice N n.nodes.length d];have hh:Later w (w.alloc (.cells #[.slice A n.inn.length c,.slice N n.nodes.length d] 59)):=(Later.refl w).alloc _;have hz:=hok.2.1;have hq:∀k,Pn.from_ n.nodes k<=k*1048576:=λk=>qcZ hok k
 obtain ⟨hi,HR,hv,he,ho⟩:=zd5 hok hR hl hh hq;clear hok hR hl hh hq;go_enter Tryz.func72,Tryz.ntmps72;go_upto_region 1 with fail;generalize w.alloc (.cells #[.slice A n.inn.length c,.slice N n.nodes.length d] 59)=w1 at *;have a1:=hv.out.cell 1;simp at a1
 by_cases h1:id<1
 ·have HE:=zI (show Pn.part n id=(0,0) by unfold Pn.part;rw [ipZ (.inl h1)])
  have d1:decide (id<1)=true:=by simpa using h1
  go_wp2_with fail;refine Zk1 (v:=.tuple #[.int .i64 0,.int .i64 0]) (by simp [results,Tryz.results72,go_sem]) rfl ?_;rw [HE.out];exact ⟨rfl,he.out⟩
 have d1:decide (id<1)=false:=by simpa using h1
 by_cases h2:(n.nodes.length:Int)<id
 ·have HE:=zI (show Pn.part n id=(0,0) by unfold Pn.part;rw [ipZ (.inr h2)])
  have d2:decide ((n.nodes.length:Int)<id)=true:=by simpa using h2
  go_wp2_with fail;refine Zk1 (v:=.tuple #[.int .i64 0,.int .i64 0]) (by simp [results,Tryz.results72,go_sem]) rfl ?_;rw [HE.out];exact ⟨rfl,he.out⟩
 have d2:decide ((n.nodes.length:Int)<id)=false:=by simpa using h2
 obtain ⟨m,rfl⟩:∃m:Nat,id=(m:Int)+1:=⟨(id-1).toNat,by omega⟩
 have HE:=zI (show Pn.part n ((m:Int)+1)=((Pn.from_ n.nodes m:Int),(Pn.from_ n.nodes (m+1):Int)) by
  unfold Pn.part;rw [inZ oZ,show ((m:Int)+1).toNat=m+1 by omega]
  rfl)
 have hm:m<n.nodes.length:=by omega
 have q0:IntKind.i64.wrap ((m:Int)+1-1)=(m:Int):=by rw [show (m:Int)+1-1=(m:Int) by omega];exact Zc1 _ oZ
 have q1:(m:Int)+1-1=(m:Int):=by omega
 have q2:(m:Int)<=(d:Int):=by omega
 have q3:(m:Int)<(n.nodes.length:Int):=by omega
 clear h1 h2;have hj:=Pn.from_succ hm;have hn:=zI hj;clear hj;go_upto_region 3 with fail;clear d1 d2;go_wp2_with fail
 go_loopw [4,23] (λf i wx=>∃k:Nat,k<=m/\i=.int .i64 (k:Int)/\f=.int .i64 (Pn.from_ n.nodes k:Int)/\Later w1 wx) (λ_ i _=>m-(intOf i).toNat)
 case atStart=>exact ⟨0,Zt _,rfl,rfl,Later.refl _⟩
 case round=>
  obtain ⟨k,hk,rfl,rfl,hb⟩:=hrel
  by_cases hy:k<m
  ·have ha:k<n.nodes.length:=by omega
   obtain ⟨b,off,S,sc,J,ic,Q,qc,rfl,hc,-,-,-⟩:=HR.out.2.at_ ha;have hs:=Pn.from_succ ha;have hw:=ho.out k;have ht:=(hi.out.2.2 _ (gmZ ha)).2.2.2.1;have hr:k*1048576<=1048576*1048576:=mlZ _ oZ;generalize n.nodes[k]=v at *;obtain ⟨⟨y0,y1,y2,y3,y4,y5,y6,y7,y8,y9⟩,-⟩:=hc.below (he.out.trans hb);generalize Pn.from_ n.nodes k=fk at *;have Hs:=zI hs;clear hs;have r1:IntKind.i64.wrap ((fk:Int)+(v.p.length:Int))=(fk:Int)+(v.p.length:Int):=Zc1 _ oZ;have r2:(k:Int)<(m:Int):=by omega
   have hp:=zI hb;clear hb;clear hc;go_wp2_with fail;go_roundw
   case rel=>exact ⟨k+1,by omega,by go_num,by rw [Hs.out];simp,hp.out.alloc _⟩
   case measure=>simp [intOf];omega
  ·obtain rfl:k=m:=by omega
   obtain ⟨b,off,S,sc,J,ic,Q,qc,rfl,hc,-,-,-⟩:=HR.out.2.at_ hm;have hw:=ho.out k;have ht:=(hi.out.2.2 _ (gmZ hm)).2.2.2.1;have hr:k*1048576<=1048576*1048576:=mlZ _ oZ;have hg:=HE.out;have hf:=he.out.trans hb;obtain ⟨⟨y0,y1,y2,y3,y4,y5,y6,y7,y8,y9⟩,-⟩:=hc.below hf;have a1':=hb.cell a1;rw [hn.out] at hg;have hu:=zI hg;clear hg HE hn;generalize n.nodes[k]=v at *;generalize Pn.from_ n.nodes k=fk at *;have r1:IntKind.i64.wrap ((fk:Int)+(v.p.length:Int))=(fk:Int)+(v.p.length:Int):=Zc1 _ oZ;have r3:IntKind.i64.wrap (k:Int)=(k:Int):=Zc1 _ oZ;obtain ⟨hp,hx⟩:=zd2 hb hf;clear hb hf;clear hc y0 y1 y2 y3 y4 y5 y6 y7 y8 a1;go_wp2_with fail;have KF:=zI (show ∀Xw,Later wr Xw->Xw.cell? ⟨w.heap.size,1,none⟩=some (.slice (some ⟨b,off,none⟩) n.nodes.length d)/\Xw.cell? ⟨b,off+k*10+9,none⟩=some (.slice Q v.p.length qc) from λXw h=>⟨h.cell a1',h.cell y9⟩);refine Zm1 ?_;refine Zl1 (S:=λXw=>Xw.cell? ⟨w.heap.size,1,none⟩=some (.slice (some ⟨b,off,none⟩) n.nodes.length d)/\Xw.cell? ⟨b,off+k*10+9,none⟩=some (.slice Q v.p.length qc)) krZ (KF.out _ Lau) (λhHeld=>?_);refine tk 0 ?_;refine tk 1 ?_;refine tk 2 ?_;refine tk 3 ?_;refine tk 4 ?_;refine tk 5 ?_;refine tk 6 ?_;refine tk 7 ?_;refine tk 8 ?_;refine tk 9 ?_;refine tk 10 ?_;refine tk 11 ?_;refine tk 12 ?_;clear KF;refine Zn1 krZ ?_ _;refine Zd1 ?_;go_wp2_with fail;refine Zk1 (v:=.tuple #[.int .i64 (fk:Int),.int .i64 ((fk:Int)+(v.p.length:Int))]) (by simp [results,Tryz.results72,go_sem]) rfl ?_;rw [hu.out];exact ⟨by simp,hx.out.drew⟩
def PickP (ts:List Ten) (w:Zp1) (e:Ending) (w':Zp1):Prop:=∃G,e=.returned (.slice (some ⟨G,0,none⟩) ts.length ts.length)/\w.heap.size<=G/\Tns w' (some ⟨G,0,none⟩) ts/\Below w.heap.size w w'
set_option maxRecDepth 20000 in
theorem qd8 (V I:Option Addr) (vc ic:Nat) (vals:List Ten) (ins:List Int) (w:Zp1) (hV:Tns w V vals) (lV:vals.length<=1048577) (hI:Ints .i64 w I ins) (lI:ins.length<=1048576) (hr:∀i∈ins,0<=i/\i<vals.length):
  Calls Tryz.prog 73 #[.slice V vals.length vc,.slice I ins.length ic] w (PickP (Pn.pickT vals ins) w):=by
 obtain ⟨HV,HI,Hr⟩:=zd3 hV hI hr;clear hV hI hr;go_enter Tryz.func73,Tryz.ntmps73;obtain ⟨i0,hi,hz,hw,hA⟩:=info_parts qb2;go_wp2_with (at_make;refine wpList_make_full _ rfl _ _ 27 rfl w.heap.size 30 i0 (.agg #[.slice none 0 0,.slice none 0 0]) 2 Tryz.underlying27 hi hz hw _ _ _ _ ins.length rfl rfl (by first|rfl|simp) (by first|rfl|simp) ?b2 ?b3 (lrZ _) ?_)
 case b2=>rw [hA];omega
 case b3=>unfold maxLen;omega
 intro w1 hown hgrow;clear hi hz hw hA
 have he:Blk w1 w.heap.size 30 (([]:List Value)++Zc ((ins.length-0)*2) (Zb1 none 0 0)).toArray:=by
  have h:=qc8 hown;rw [qb3] at h;simpa using h
 have hl:Later w w1:=(Ze1 _ w).grown hgrow (lrZ _) sZ;clear hown hgrow;obtain ⟨hf,ho⟩:=zd2 he hl;clear he hl;go_wp2_with fail
 go_loopw [13] (λi wx=>∃(k:Nat) (vs:List Value),k<=ins.length/\i=.int .i64 (k:Int)/\Blk wx w.heap.size 30 (vs++Zc ((ins.length-k)*2) (Zb1 none 0 0)).toArray/\RowT w vs (Pn.pickT vals (ins.take k))/\Later w wx) (λi _=>ins.length-(intOf i).toNat)
 case atStart=>exact ⟨0,[],Zt _,rfl,hf.out,RowT.nil w,ho.out⟩
 case round=>
  obtain ⟨k,vs,hk,rfl,hG,hb,ha⟩:=hrel;clear hf ho
  by_cases hd:k<ins.length
  ·obtain ⟨b,off,rfl,-,hH⟩:=(HI.out.below ha (lrZ _)) k hd
   have hq:=Hr.out _ (gmZ hd);obtain ⟨j,hj⟩:=ezZ hq.1;have hn:ins.getD k 0=(j:Int):=by rw [gdZ,geZ hd,←hj];rfl
   rw [hn] at hH;have hm:j<vals.length:=by omega
   have hV:=HV.out;obtain ⟨b',off',S',sc,C',cc,rfl,-,p0,p1,hT⟩:=(HV.out.later ha).at_ hm;obtain ⟨b2,off2,S2,sc2,C2,cc2,e2,-,p2,p3,hx⟩:=HV.out.at_ hm;have hS:=(ha.cell p2).symm.trans (by injection e2 with e2;injection e2 with e3 e4;subst e3 e4;exact p0);have hC:=(ha.cell p3).symm.trans (by injection e2 with e2;injection e2 with e3 e4;subst e3 e4;exact p1);simp at hS hC;obtain ⟨rfl,rfl⟩:=hS;obtain ⟨rfl,rfl⟩:=hC
   have hp:Pn.pickT vals (ins.take (k+1))=Pn.pickT vals (ins.take k)++[Ly.got vals j]:=by
    unfold Pn.pickT;rw [Zb hd,List.map_append,hj]
    rfl
   have hy:vs.length=k*2:=by have:=hb.1;simp [Pn.pickT] at this;omega
   have hc:=hb.append (RowT.one hx);rw [←hp] at hc;have hu:=fill_two (m:=ins.length) (a:=.slice S2 (Ly.got vals j).s.length sc2) (b:=.slice C2 (Ly.got vals j).c.length cc2) (z:=Zb1 none 0 0) hy hd;have q0:∃u,wr.cell? ⟨w.heap.size,k*2,none⟩=some u:=by rw [hG.cell];exact ⟨_,by rw [Zk,geZ soZ]⟩
   have q1:∃u,wr.cell? ⟨w.heap.size,k*2+1,none⟩=some u:=by rw [hG.cell];exact ⟨_,by rw [Zk,geZ soZ]⟩
   obtain ⟨u0,q0⟩:=q0;obtain ⟨u1,q1⟩:=q1;have f0:=hG.frozen (k*2);have f1:=hG.frozen (k*2+1);have r1:(k:Int)<(ins.length:Int):=by omega
   have r2:(j:Int)<(vals.length:Int):=by omega
   generalize Ly.got vals j=t at *
   have hs:Blk ((wr.setCell ⟨w.heap.size,k*2,none⟩ (.slice S2 t.s.length sc2)).setCell ⟨w.heap.size,k*2+1,none⟩ (.slice C2 t.c.length cc2)) w.heap.size 30 ((vs++[Zb1 S2 t.s.length sc2,Zb1 C2 t.c.length cc2])++Zc ((ins.length-(k+1))*2) (Zb1 none 0 0)).toArray:=by
    have:=(hG.set_ (k*2) (.slice S2 t.s.length sc2)).set_ (k*2+1) (.slice C2 t.c.length cc2);rw [←hu];simpa using this
   have ht:=(ha.set (p:=⟨w.heap.size,k*2,none⟩) (lrZ _) (.slice S2 t.s.length sc2)).set (p:=⟨w.heap.size,k*2+1,none⟩) (lrZ _) (.slice C2 t.c.length cc2);clear hn hq hj hV hT hx p2 p3 e2 hp hy hu;obtain ⟨HG,hv,hh,hg,hE,hD⟩:=zd6 hG hb ha hc hs ht;clear hG hb ha hc hs ht;go_wp2_with fail;go_roundw
   case rel=>exact ⟨k+1,_,by omega,by go_num,hE.out,hg.out,hD.out⟩
   case measure=>simp [intOf];omega
  ·obtain rfl:k=ins.length:=by omega
   rw [Nat.sub_self,Nat.zero_mul,List.replicate_zero,List.append_nil] at hG;rw [Zg] at hb;have hB:(Pn.pickT vals ins).length=ins.length:=by simp [Pn.pickT]
   obtain ⟨HG,hv,hh,hF⟩:=zd4 hG hb ha hB;clear hG hb ha hB;go_wp2_with fail;go_ret;exact ⟨w.heap.size,by (rw [hF.out]<;>rfl),lrZ _,hv.out.tnsB hh.out HG.out,hh.out⟩
namespace Ly
def flat (w:Ten):Bool:=Tn.right w&&decide (w.s.length=2)
theorem flat_yes {w:Ten} (h:flat w=true):Tn.right w=true/\w.s.length=2:=by simpa [flat] using h
theorem dense_w {w b x:Ten} (h:flat w=false):denseOk w b x=false:=by unfold flat at h;unfold denseOk;rw [h];simp
theorem dense_b {w b x:Ten} (h:Tn.right b=false):denseOk w b x=false:=by unfold denseOk;rw [h];simp
theorem dense_x {w b x:Ten} (h:Tn.right x=false):denseOk w b x=false:=by unfold denseOk;rw [h];simp
theorem dense_s {w b x:Ten} (h:(b.s==[at_ w.s 0])=false):denseOk w b x=false:=by
 have:¬b.s=[at_ w.s 0]:=by simpa using h
 unfold denseOk;simp [this]
theorem dense_all {w b x:Ten} (h1:flat w=true) (h2:Tn.right b=true) (h3:Tn.right x=true) (h4:(b.s==[at_ w.s 0])=true):denseOk w b x=((x.c.length:Int)==at_ w.s 1):=by
 obtain ⟨a,c⟩:=flat_yes h1;have:b.s=[at_ w.s 0]:=by simpa using h4
 unfold denseOk;rw [a,h2,h3,decide_eq_true c,decide_eq_true this];simp;rw [Bool.eq_iff_iff];simp
theorem dense_yes {w b x:Ten} (h:denseOk w b x=true):Tn.right w=true/\w.s.length=2/\Tn.right b=true/\Tn.right x=true/\b.s=[at_ w.s 0]/\(x.c.length:Int)=at_ w.s 1:=by simpa [denseOk,and_assoc] using h
end Ly
theorem qfi (S C:Option Addr) (c d:Nat) (t:Ten) (w:Zp1) (ht:TenIn w S C c d t):
  Calls Tryz.prog 106 #[.agg #[.slice S t.s.length c,.slice C t.c.length d]] w λe w'=>e=.returned (.bool (Ly.flat t))/\Below w.heap.size w w':=by
 have hf:Later w (w.alloc (.cells #[.slice S t.s.length c,.slice C t.c.length d] 30)):=(Later.refl w).alloc _;have hk:=Blk.new w 30 #[.slice S t.s.length c,.slice C t.c.length d];have l1:=ht.l1;have l2:=ht.l2;obtain ⟨hd,Hk,Ht⟩:=zd3 hf hk ht;clear hf hk ht;go_enter Tryz.func106,Tryz.ntmps106;go_wp2_with fail;generalize w.alloc (.cells #[.slice S t.s.length c,.slice C t.c.length d] 30)=w1 at *;refine (qa2 S C c d t w1 oZ oZ (Ht.out.later hd.out).r.1).mono ?_;rintro e w2 ⟨rfl,he⟩;have ha:Later w1 w2:=he;have hb:=ha.blk Hk.out;have c0:=hb.cell 0;simp at c0;clear he;cases hr:Tn.right t
 ·have HE:=zI (show Ly.flat t=false by simp [Ly.flat,hr])
  clear hr;obtain ⟨hc,hg⟩:=zd2 ha hb;clear ha hb;go_wp2_with fail;go_ret;exact ⟨by rw [HE.out];rfl,hd.out.trans hc.out⟩
 ·by_cases h:t.s.length=2
  ·have HE:=zI (show Ly.flat t=true by simp [Ly.flat,hr,h])
   have d1:((t.s.length:Int)==2)=true:=by simp;omega
   clear hr h;obtain ⟨hc,hg⟩:=zd2 ha hb;clear ha hb;go_wp2_with fail;go_ret;exact ⟨by rw [HE.out];rfl,hd.out.trans hc.out⟩
  ·have HE:=zI (show Ly.flat t=false by simp [Ly.flat,h])
   have d1:((t.s.length:Int)==2)=false:=by simp;omega
   clear hr h;obtain ⟨hc,hg⟩:=zd2 ha hb;clear ha hb;go_wp2_with fail;go_ret;exact ⟨by rw [HE.out];rfl,hd.out.trans hc.out⟩
theorem qcG (S C S' C' S2 C2:Option Addr) (c d c' d' c2 d2:Nat) (t b x:Ten) (w:Zp1) (ht:TenIn w S C c d t) (hb:TenIn w S' C' c' d' b) (hx:TenIn w S2 C2 c2 d2 x):
  Calls Tryz.prog 50 #[.agg #[.slice S t.s.length c,.slice C t.c.length d],.agg #[.slice S' b.s.length c',.slice C' b.c.length d'],.agg #[.slice S2 x.s.length c2,.slice C2 x.c.length d2]] w λe w'=>e=.returned (.bool (Ly.denseOk t b x))/\Below w.heap.size w w':=by
 obtain ⟨hy,hD,hG,hv⟩:=qam w 30 30 30 #[.slice S t.s.length c,.slice C t.c.length d] #[.slice S' b.s.length c',.slice C' b.c.length d'] #[.slice S2 x.s.length c2,.slice C2 x.c.length d2];have lt1:=ht.l1;have lb1:=hb.l1;have lx1:=hx.l1;have lt2:=ht.l2;have lb2:=hb.l2;have lx2:=hx.l2;obtain ⟨hz,hF,hH,hh,Ht,Hb,Hx⟩:=zd7 hy hD hG hv ht hb hx;clear hy hD hG hv ht hb hx;go_enter Tryz.func50,Tryz.ntmps50;go_wp2_with fail;generalize ((w.alloc (.cells #[.slice S t.s.length c,.slice C t.c.length d] 30)).alloc (.cells #[.slice S' b.s.length c',.slice C' b.c.length d'] 30)).alloc (.cells #[.slice S2 x.s.length c2,.slice C2 x.c.length d2] 30)=w2 at *;have x0:w2.cell? ⟨w.heap.size,0,none⟩=some (.slice S t.s.length c):=by rw [hz.out.cell];rfl
 have x1:w2.cell? ⟨w.heap.size,1,none⟩=some (.slice C t.c.length d):=by rw [hz.out.cell];rfl
 have x2:w2.cell? ⟨w.heap.size+1,0,none⟩=some (.slice S' b.s.length c'):=by rw [hF.out.cell];rfl
 have x3:w2.cell? ⟨w.heap.size+1,1,none⟩=some (.slice C' b.c.length d'):=by rw [hF.out.cell];rfl
 have x4:w2.cell? ⟨w.heap.size+2,0,none⟩=some (.slice S2 x.s.length c2):=by rw [hH.out.cell];rfl
 have x5:w2.cell? ⟨w.heap.size+2,1,none⟩=some (.slice C2 x.c.length d2):=by rw [hH.out.cell];rfl
 have hT:=(Ht.out.later hh.out)
 have hB:=(Hb.out.later hh.out)
 have hX:=(Hx.out.later hh.out)
 have hd:=λ(V:Zp1) (h:Later w2 V)=>qfi S C c d t V (hT.later h)
 have hc:=λ(V:Zp1) (h:Later w2 V)=>qa2 S' C' c' d' b V oZ oZ (hB.later h).r.1
 have he:=λ(V:Zp1) (h:Later w2 V)=>qa2 S2 C2 c2 d2 x V oZ oZ (hX.later h).r.1
 obtain ⟨hA,hE,hw⟩:=zd3 hd hc he;clear hd hc he;cases hf:Ly.flat t
 ·have HE:=zI (Ly.dense_w (b:=b) (x:=x) hf)
  have hd:=hA.out;rw [hf] at hd;have hj:=zI hd;clear hf hd;have KF:=zI (show ∀Xw,Later w2 Xw->Xw.cell? ⟨w.heap.size,0,none⟩=some (.slice S t.s.length c)/\Xw.cell? ⟨w.heap.size,1,none⟩=some (.slice C t.c.length d)/\Xw.cell? ⟨w.heap.size+1,0,none⟩=some (.slice S' b.s.length c')/\Xw.cell? ⟨w.heap.size+1,1,none⟩=some (.slice C' b.c.length d')/\Xw.cell? ⟨w.heap.size+2,0,none⟩=some (.slice S2 x.s.length c2)/\Xw.cell? ⟨w.heap.size+2,1,none⟩=some (.slice C2 x.c.length d2) from λXw h=>⟨h.cell x0,h.cell x1,h.cell x2,h.cell x3,h.cell x4,h.cell x5⟩);refine Zm1 ?_;refine Zl1 (S:=λXw=>Xw.cell? ⟨w.heap.size,0,none⟩=some (.slice S t.s.length c)/\Xw.cell? ⟨w.heap.size,1,none⟩=some (.slice C t.c.length d)/\Xw.cell? ⟨w.heap.size+1,0,none⟩=some (.slice S' b.s.length c')/\Xw.cell? ⟨w.heap.size+1,1,none⟩=some (.slice C' b.c.length d')/\Xw.cell? ⟨w.heap.size+2,0,none⟩=some (.slice S2 x.s.length c2)/\Xw.cell? ⟨w.heap.size+2,1,none⟩=some (.slice C2 x.c.length d2)) krZ (KF.out _ Lau) (λhHeld=>?_);refine tk 0 ?_;refine rd 1 λK hK=>?_
  simp only [ga,gs,gz]
  go_simp
  go_at_call 106;(with_reducible refine (hj.out _ (Lau:Later w2 _)).mono ?_);rintro e wa ⟨rfl,hp⟩
  try go_wp2_with fail
  refine hK.out _ _ (KF.out _ Lau) (λhHeld=>?_);clear hK K
  try simp only [ga,gs,gz,Act.put,sa,sz,ss]
  refine tk 2 ?_;refine tn 3 ?_;refine tn 4 ?_;refine tk 5 ?_;refine tk 6 ?_;refine tn 7 ?_;refine tn 8 ?_;refine tk 9 ?_;refine tk 10 ?_;refine tn 11 ?_;refine tn 12 ?_;refine tn 13 ?_;refine tn 14 ?_;refine tn 15 ?_;refine tn 16 ?_;refine tn 17 ?_;refine tn 18 ?_;refine tk 19 ?_;refine tk 20 ?_;refine tn 21 ?_;refine tn 22 ?_;refine tn 23 ?_;refine tn 24 ?_;refine tn 25 ?_;refine tn 26 ?_;refine tn 27 ?_;refine tn 28 ?_;refine tk 29 ?_;refine tk 30 ?_;clear KF;refine Zn1 krZ ?_ _;refine Zd1 ?_;have ha:=hh.out.trans (Lau:Later w2 wa);have hg:=zI ha;clear ha;go_wp2_with fail;go_ret;exact ⟨by rw [HE.out];rfl,hg.out⟩
 obtain ⟨hn,hl⟩:=Ly.flat_yes hf;have hd:=hA.out;rw [hf] at hd;have hj:=zI hd;clear hd;cases hrb:Tn.right b
 ·have HE:=zI (Ly.dense_b (w:=t) (x:=x) hrb)
  have hc:=hE.out;rw [hrb] at hc;have hm:=zI hc;clear hf hc hn hl hrb;have KF:=zI (show ∀Xw,Later w2 Xw->Xw.cell? ⟨w.heap.size,0,none⟩=some (.slice S t.s.length c)/\Xw.cell? ⟨w.heap.size,1,none⟩=some (.slice C t.c.length d)/\Xw.cell? ⟨w.heap.size+1,0,none⟩=some (.slice S' b.s.length c')/\Xw.cell? ⟨w.heap.size+1,1,none⟩=some (.slice C' b.c.length d')/\Xw.cell? ⟨w.heap.size+2,0,none⟩=some (.slice S2 x.s.length c2)/\Xw.cell? ⟨w.heap.size+2,1,none⟩=some (.slice C2 x.c.length d2) from λXw h=>⟨h.cell x0,h.cell x1,h.cell x2,h.cell x3,h.cell x4,h.cell x5⟩);refine Zm1 ?_;refine Zl1 (S:=λXw=>Xw.cell? ⟨w.heap.size,0,none⟩=some (.slice S t.s.length c)/\Xw.cell? ⟨w.heap.size,1,none⟩=some (.slice C t.c.length d)/\Xw.cell? ⟨w.heap.size+1,0,none⟩=some (.slice S' b.s.length c')/\Xw.cell? ⟨w.heap.size+1,1,none⟩=some (.slice C' b.c.length d')/\Xw.cell? ⟨w.heap.size+2,0,none⟩=some (.slice S2 x.s.length c2)/\Xw.cell? ⟨w.heap.size+2,1,none⟩=some (.slice C2 x.c.length d2)) krZ (KF.out _ Lau) (λhHeld=>?_);refine tk 0 ?_;refine rd 1 λK hK=>?_
  simp only [ga,gs,gz]
  go_simp
  go_at_call 106;(with_reducible refine (hj.out _ (Lau:Later w2 _)).mono ?_);rintro e wa ⟨rfl,hp⟩
  try go_wp2_with fail
  refine hK.out _ _ (KF.out _ Lau) (λhHeld=>?_);clear hK K
  try simp only [ga,gs,gz,Act.put,sa,sz,ss]
  refine tk 2 ?_;refine tk 3 ?_;refine rd 4 λK hK=>?_
  simp only [ga,gs,gz]
  go_simp
  go_at_call 51;(with_reducible refine (hm.out _ (Lau:Later w2 _)).mono ?_);rintro e wb ⟨rfl,hr⟩
  try go_wp2_with fail
  refine hK.out _ _ (KF.out _ Lau) (λhHeld=>?_);clear hK K
  try simp only [ga,gs,gz,Act.put,sa,sz,ss]
  refine tk 5 ?_;refine tk 6 ?_;refine tn 7 ?_;refine tn 8 ?_;refine tk 9 ?_;refine tk 10 ?_;refine tn 11 ?_;refine tn 12 ?_;refine tn 13 ?_;refine tn 14 ?_;refine tn 15 ?_;refine tn 16 ?_;refine tn 17 ?_;refine tn 18 ?_;refine tk 19 ?_;refine tk 20 ?_;refine tn 21 ?_;refine tn 22 ?_;refine tn 23 ?_;refine tn 24 ?_;refine tn 25 ?_;refine tn 26 ?_;refine tn 27 ?_;refine tn 28 ?_;refine tk 29 ?_;refine tk 30 ?_;clear KF;refine Zn1 krZ ?_ _;refine Zd1 ?_;have ha:=hh.out.trans (Lau:Later w2 wb);have hg:=zI ha;clear ha;go_wp2_with fail;go_ret;exact ⟨by rw [HE.out];rfl,hg.out⟩
 have hc:=hE.out;rw [hrb] at hc;have hm:=zI hc;clear hc;cases hrx:Tn.right x
 ·have HE:=zI (Ly.dense_x (w:=t) (b:=b) hrx)
  have he:=hw.out;rw [hrx] at he;have ho:=zI he;clear hf he hn hl hrb hrx;have KF:=zI (show ∀Xw,Later w2 Xw->Xw.cell? ⟨w.heap.size,0,none⟩=some (.slice S t.s.length c)/\Xw.cell? ⟨w.heap.size,1,none⟩=some (.slice C t.c.length d)/\Xw.cell? ⟨w.heap.size+1,0,none⟩=some (.slice S' b.s.length c')/\Xw.cell? ⟨w.heap.size+1,1,none⟩=some (.slice C' b.c.length d')/\Xw.cell? ⟨w.heap.size+2,0,none⟩=some (.slice S2 x.s.length c2)/\Xw.cell? ⟨w.heap.size+2,1,none⟩=some (.slice C2 x.c.length d2) from λXw h=>⟨h.cell x0,h.cell x1,h.cell x2,h.cell x3,h.cell x4,h.cell x5⟩);refine Zm1 ?_;refine Zl1 (S:=λXw=>Xw.cell? ⟨w.heap.size,0,none⟩=some (.slice S t.s.length c)/\Xw.cell? ⟨w.heap.size,1,none⟩=some (.slice C t.c.length d)/\Xw.cell? ⟨w.heap.size+1,0,none⟩=some (.slice S' b.s.length c')/\Xw.cell? ⟨w.heap.size+1,1,none⟩=some (.slice C' b.c.length d')/\Xw.cell? ⟨w.heap.size+2,0,none⟩=some (.slice S2 x.s.length c2)/\Xw.cell? ⟨w.heap.size+2,1,none⟩=some (.slice C2 x.c.length d2)) krZ (KF.out _ Lau) (λhHeld=>?_);refine tk 0 ?_;refine rd 1 λK hK=>?_
  simp only [ga,gs,gz]
  go_simp
  go_at_call 106;(with_reducible refine (hj.out _ (Lau:Later w2 _)).mono ?_);rintro e wa ⟨rfl,hp⟩
  try go_wp2_with fail
  refine hK.out _ _ (KF.out _ Lau) (λhHeld=>?_);clear hK K
  try simp only [ga,gs,gz,Act.put,sa,sz,ss]
  refine tk 2 ?_;refine tk 3 ?_;refine rd 4 λK hK=>?_
  simp only [ga,gs,gz]
  go_simp
  go_at_call 51;(with_reducible refine (hm.out _ (Lau:Later w2 _)).mono ?_);rintro e wb ⟨rfl,hr⟩
  try go_wp2_with fail
  refine hK.out _ _ (KF.out _ Lau) (λhHeld=>?_);clear hK K
  try simp only [ga,gs,gz,Act.put,sa,sz,ss]
  refine tk 5 ?_;refine tk 6 ?_;refine tk 7 ?_;refine rd 8 λK hK=>?_
  simp only [ga,gs,gz]
  go_simp
  go_at_call 51;(with_reducible refine (ho.out _ (Lau:Later w2 _)).mono ?_);rintro e wc ⟨rfl,hC⟩
  try go_wp2_with fail
  refine hK.out _ _ (KF.out _ Lau) (λhHeld=>?_);clear hK K
  try simp only [ga,gs,gz,Act.put,sa,sz,ss]
  refine tk 9 ?_;refine tk 10 ?_;refine tn 11 ?_;refine tn 12 ?_;refine tn 13 ?_;refine tn 14 ?_;refine tn 15 ?_;refine tn 16 ?_;refine tn 17 ?_;refine tn 18 ?_;refine tk 19 ?_;refine tk 20 ?_;refine tn 21 ?_;refine tn 22 ?_;refine tn 23 ?_;refine tn 24 ?_;refine tn 25 ?_;refine tn 26 ?_;refine tn 27 ?_;refine tn 28 ?_;refine tk 29 ?_;refine tk 30 ?_;clear KF;refine Zn1 krZ ?_ _;refine Zd1 ?_;have ha:=hh.out.trans (Lau:Later w2 wc);have hg:=zI ha;clear ha;go_wp2_with fail;go_ret;exact ⟨by rw [HE.out];rfl,hg.out⟩
 have he:=hw.out;rw [hrx] at he;have ho:=zI he;clear he;obtain ⟨bs,os,rfl,-,y0⟩:=hT.r.1 0 oZ;obtain ⟨bs',os',e',-,y1⟩:=hT.r.1 1 oZ;injection e' with e'
 injection e' with e1 e2
 subst e1 e2;have x6:w2.cell? ⟨bs,os,none⟩=some (.int .i64 (Ly.at_ t.s 0)):=y0;have x7:w2.cell? ⟨bs,os+1,none⟩=some (.int .i64 (Ly.at_ t.s 1)):=y1;have k1:(0:Int)<(t.s.length:Int):=by omega
 have k2:(1:Int)<(t.s.length:Int):=by omega
 have k3:0<t.s.length:=by omega
 have k4:1<t.s.length:=by omega
 have hi:=λ(V:Zp1) (g:Nat) (hk:Blk V g 3 #[.int .i64 (Ly.at_ t.s 0)]) (h:Later w2 V)=>(show Calls Tryz.prog 43 #[.slice S' b.s.length c',.slice (some ⟨g,0,none⟩) 1 1] V λe w'=>e=.returned (.bool (b.s==[Ly.at_ t.s 0]))/\∃n,w'=V.drewN n from qa7 S' (some ⟨g,0,none⟩) c' 1 b.s [Ly.at_ t.s 0] V oZ sZ (hB.later h).r.1 (Blk.intsL [Ly.at_ t.s 0] hk))
 clear y0 y1;cases hs:(b.s==[Ly.at_ t.s 0])
 ·have HE:=zI (Ly.dense_s (w:=t) (x:=x) hs)
  rw [hs] at hi;have hu:=zI hi;clear hf hi hn hl hrb hrx hs hT hB hX;have KF:=zI (show ∀Xw,Later w2 Xw->Xw.cell? ⟨w.heap.size,0,none⟩=some (.slice (some ⟨bs,os,none⟩) t.s.length c)/\Xw.cell? ⟨w.heap.size,1,none⟩=some (.slice C t.c.length d)/\Xw.cell? ⟨w.heap.size+1,0,none⟩=some (.slice S' b.s.length c')/\Xw.cell? ⟨w.heap.size+1,1,none⟩=some (.slice C' b.c.length d')/\Xw.cell? ⟨w.heap.size+2,0,none⟩=some (.slice S2 x.s.length c2)/\Xw.cell? ⟨w.heap.size+2,1,none⟩=some (.slice C2 x.c.length d2)/\Xw.cell? ⟨bs,os,none⟩=some (.int .i64 (Ly.at_ t.s 0))/\Xw.cell? ⟨bs,os+1,none⟩=some (.int .i64 (Ly.at_ t.s 1)) from λXw h=>⟨h.cell x0,h.cell x1,h.cell x2,h.cell x3,h.cell x4,h.cell x5,h.cell x6,h.cell x7⟩);refine Zm1 ?_;refine Zl1 (S:=λXw=>Xw.cell? ⟨w.heap.size,0,none⟩=some (.slice (some ⟨bs,os,none⟩) t.s.length c)/\Xw.cell? ⟨w.heap.size,1,none⟩=some (.slice C t.c.length d)/\Xw.cell? ⟨w.heap.size+1,0,none⟩=some (.slice S' b.s.length c')/\Xw.cell? ⟨w.heap.size+1,1,none⟩=some (.slice C' b.c.length d')/\Xw.cell? ⟨w.heap.size+2,0,none⟩=some (.slice S2 x.s.length c2)/\Xw.cell? ⟨w.heap.size+2,1,none⟩=some (.slice C2 x.c.length d2)/\Xw.cell? ⟨bs,os,none⟩=some (.int .i64 (Ly.at_ t.s 0))/\Xw.cell? ⟨bs,os+1,none⟩=some (.int .i64 (Ly.at_ t.s 1))) krZ (KF.out _ Lau) (λhHeld=>?_);refine tk 0 ?_;refine rd 1 λK hK=>?_
  simp only [ga,gs,gz]
  go_simp
  go_at_call 106;(with_reducible refine (hj.out _ (Lau:Later w2 _)).mono ?_);rintro e wa ⟨rfl,hp⟩
  try go_wp2_with fail
  refine hK.out _ _ (KF.out _ Lau) (λhHeld=>?_);clear hK K
  try simp only [ga,gs,gz,Act.put,sa,sz,ss]
  refine tk 2 ?_;refine tk 3 ?_;refine rd 4 λK hK=>?_
  simp only [ga,gs,gz]
  go_simp
  go_at_call 51;(with_reducible refine (hm.out _ (Lau:Later w2 _)).mono ?_);rintro e wb ⟨rfl,hr⟩
  try go_wp2_with fail
  refine hK.out _ _ (KF.out _ Lau) (λhHeld=>?_);clear hK K
  try simp only [ga,gs,gz,Act.put,sa,sz,ss]
  refine tk 5 ?_;refine tk 6 ?_;refine tk 7 ?_;refine rd 8 λK hK=>?_
  simp only [ga,gs,gz]
  go_simp
  go_at_call 51;(with_reducible refine (ho.out _ (Lau:Later w2 _)).mono ?_);rintro e wc ⟨rfl,hC⟩
  try go_wp2_with fail
  refine hK.out _ _ (KF.out _ Lau) (λhHeld=>?_);clear hK K
  try simp only [ga,gs,gz,Act.put,sa,sz,ss]
  refine tk 9 ?_;refine tk 10 ?_;refine tk 11 ?_;refine tk 12 ?_;refine tk 13 ?_;refine tk 14 ?_;refine tk 15 ?_;refine tk 16 ?_;refine rd 17 λK hK=>?_
  simp only [ga,gs,gz]
  go_simp
  refine hK.out _ _ (KF.out _ Lau) (λhHeld=>?_);clear hK K
  try simp only [ga,gs,gz,Act.put,sa,sz,ss]
  refine rd 18 λK hK=>?_
  simp only [ga,gs,gz]
  go_simp
  go_at_call 43;(with_reducible refine (hu.out _ _ (Blk.new wc 3 #[.int .i64 (Ly.at_ t.s 0)]) (Lau:Later w2 _)).mono ?_);rintro e we ⟨rfl,qd,rfl⟩
  try go_wp2_with fail
  refine hK.out _ _ (KF.out _ Lau) (λhHeld=>?_);clear hK K
  try simp only [ga,gs,gz,Act.put,sa,sz,ss]
  refine tk 19 ?_;refine tk 20 ?_;refine tn 21 ?_;refine tn 22 ?_;refine tn 23 ?_;refine tn 24 ?_;refine tn 25 ?_;refine tn 26 ?_;refine tn 27 ?_;refine tn 28 ?_;refine tk 29 ?_;refine tk 30 ?_;clear KF;refine Zn1 krZ ?_ _;refine Zd1 ?_;have ha:=hh.out.trans (Lau:Later w2 ((wc.alloc (.cells #[.int .i64 (Ly.at_ t.s 0)] 3)).drewN qd));have hg:=zI ha;clear ha;go_wp2_with fail;go_ret;exact ⟨by rw [HE.out];rfl,hg.out⟩
 ·have HE:=zI (Ly.dense_all hf hrb hrx hs)
  rw [hs] at hi;have hu:=zI hi;clear hf hi hn hl hrb hrx hs hT hB hX;generalize hq:((x.c.length:Int)==Ly.at_ t.s 1)=q at HE;have hI:((x.c.length:Int)==Ly.at_ t.s 1)=q:=hq;clear hq;have KF:=zI (show ∀Xw,Later w2 Xw->Xw.cell? ⟨w.heap.size,0,none⟩=some (.slice (some ⟨bs,os,none⟩) t.s.length c)/\Xw.cell? ⟨w.heap.size,1,none⟩=some (.slice C t.c.length d)/\Xw.cell? ⟨w.heap.size+1,0,none⟩=some (.slice S' b.s.length c')/\Xw.cell? ⟨w.heap.size+1,1,none⟩=some (.slice C' b.c.length d')/\Xw.cell? ⟨w.heap.size+2,0,none⟩=some (.slice S2 x.s.length c2)/\Xw.cell? ⟨w.heap.size+2,1,none⟩=some (.slice C2 x.c.length d2)/\Xw.cell? ⟨bs,os,none⟩=some (.int .i64 (Ly.at_ t.s 0))/\Xw.cell? ⟨bs,os+1,none⟩=some (.int .i64 (Ly.at_ t.s 1)) from λXw h=>⟨h.cell x0,h.cell x1,h.cell x2,h.cell x3,h.cell x4,h.cell x5,h.cell x6,h.cell x7⟩);refine Zm1 ?_;refine Zl1 (S:=λXw=>Xw.cell? ⟨w.heap.size,0,none⟩=some (.slice (some ⟨bs,os,none⟩) t.s.length c)/\Xw.cell? ⟨w.heap.size,1,none⟩=some (.slice C t.c.length d)/\Xw.cell? ⟨w.heap.size+1,0,none⟩=some (.slice S' b.s.length c')/\Xw.cell? ⟨w.heap.size+1,1,none⟩=some (.slice C' b.c.length d')/\Xw.cell? ⟨w.heap.size+2,0,none⟩=some (.slice S2 x.s.length c2)/\Xw.cell? ⟨w.heap.size+2,1,none⟩=some (.slice C2 x.c.length d2)/\Xw.cell? ⟨bs,os,none⟩=some (.int .i64 (Ly.at_ t.s 0))/\Xw.cell? ⟨bs,os+1,none⟩=some (.int .i64 (Ly.at_ t.s 1))) krZ (KF.out _ Lau) (λhHeld=>?_);refine tk 0 ?_;refine rd 1 λK hK=>?_
  simp only [ga,gs,gz]
  go_simp
  go_at_call 106;(with_reducible refine (hj.out _ (Lau:Later w2 _)).mono ?_);rintro e wa ⟨rfl,hp⟩
  try go_wp2_with fail
  refine hK.out _ _ (KF.out _ Lau) (λhHeld=>?_);clear hK K
  try simp only [ga,gs,gz,Act.put,sa,sz,ss]
  refine tk 2 ?_;refine tk 3 ?_;refine rd 4 λK hK=>?_
  simp only [ga,gs,gz]
  go_simp
  go_at_call 51;(with_reducible refine (hm.out _ (Lau:Later w2 _)).mono ?_);rintro e wb ⟨rfl,hr⟩
  try go_wp2_with fail
  refine hK.out _ _ (KF.out _ Lau) (λhHeld=>?_);clear hK K
  try simp only [ga,gs,gz,Act.put,sa,sz,ss]
  refine tk 5 ?_;refine tk 6 ?_;refine tk 7 ?_;refine rd 8 λK hK=>?_
  simp only [ga,gs,gz]
  go_simp
  go_at_call 51;(with_reducible refine (ho.out _ (Lau:Later w2 _)).mono ?_);rintro e wc ⟨rfl,hC⟩
  try go_wp2_with fail
  refine hK.out _ _ (KF.out _ Lau) (λhHeld=>?_);clear hK K
  try simp only [ga,gs,gz,Act.put,sa,sz,ss]
  refine tk 9 ?_;refine tk 10 ?_;refine tk 11 ?_;refine tk 12 ?_;refine tk 13 ?_;refine tk 14 ?_;refine tk 15 ?_;refine tk 16 ?_;refine rd 17 λK hK=>?_
  simp only [ga,gs,gz]
  go_simp
  refine hK.out _ _ (KF.out _ Lau) (λhHeld=>?_);clear hK K
  try simp only [ga,gs,gz,Act.put,sa,sz,ss]
  refine rd 18 λK hK=>?_
  simp only [ga,gs,gz]
  go_simp
  go_at_call 43;(with_reducible refine (hu.out _ _ (Blk.new wc 3 #[.int .i64 (Ly.at_ t.s 0)]) (Lau:Later w2 _)).mono ?_);rintro e we ⟨rfl,qd,rfl⟩
  try go_wp2_with fail
  refine hK.out _ _ (KF.out _ Lau) (λhHeld=>?_);clear hK K
  try simp only [ga,gs,gz,Act.put,sa,sz,ss]
  refine tk 19 ?_;refine tk 20 ?_;refine tk 21 ?_;refine tk 22 ?_;refine tk 23 ?_;refine tk 24 ?_;refine tk 25 ?_;refine tk 26 ?_;refine tk 27 ?_;refine tk 28 ?_;refine tk 29 ?_;refine tk 30 ?_;clear KF;refine Zn1 krZ ?_ _;refine Zd1 ?_;have ha:=hh.out.trans (Lau:Later w2 ((wc.alloc (.cells #[.int .i64 (Ly.at_ t.s 0)] 3)).drewN qd));have hg:=zI ha;clear ha;go_wp2_with fail;go_ret;exact ⟨by rw [HE.out];rfl,hg.out⟩
theorem qe5 {t:Ten} (h:Tn.right t=true) (h2:t.s.length=2):∃m n:Nat,Ly.at_ t.s 0=(m:Int)/\Ly.at_ t.s 1=(n:Int)/\1<=m/\1<=n/\m<=1024/\n<=1024/\t.c.length=m*n/\m*n<=65536:=by
 obtain ⟨s,c⟩:=t;simp only at h2
 match s,h2 with
 | [a,b],_=>
  simp only [Tn.right,Zz,decide_eq_true_eq] at h;obtain ⟨_,_,_,hc,_,hp⟩:=Sh.right_mul h.1;have ha:=hc a sZ;have hb:=hc b sZ;simp only [Safe.prod,Int.mul_one] at hp h;have e:(a.toNat * b.toNat:Nat)=a*b:=by rw [Int.natCast_mul];rw [Int.toNat_of_nonneg oZ,Int.toNat_of_nonneg oZ]
  refine ⟨a.toNat,b.toNat,by show a=_;omega,by show b=_;omega,by omega,by omega,by omega,by omega,?_,?_⟩
  ·show c.length=_;omega
  ·omega
theorem qc9 (S:Option Addr) (b off:Nat) (c d:Nat) (t:Ten) (m n i:Nat) (w:Zp1) (ht:TenIn w S (some ⟨b,off,none⟩) c d t) (h2:2<=t.s.length) (hn:Ly.at_ t.s 1=(n:Int)) (hc:t.c.length=m*n) (hi:i<m) (hn1:1<=n) (hm:m*n<=65536):
  Calls Tryz.prog 53 #[.agg #[.slice S t.s.length c,.slice (some ⟨b,off,none⟩) t.c.length d],.int .i64 i] w λe w'=>e=.returned (.slice (some ⟨b,off+i*n,none⟩) n n)/\Below w.heap.size w w':=by
 have ha:Later w (w.alloc (.cells #[.slice S t.s.length c,.slice (some ⟨b,off,none⟩) t.c.length d] 30)):=(Later.refl w).alloc _;have hk:=Blk.new w 30 #[.slice S t.s.length c,.slice (some ⟨b,off,none⟩) t.c.length d];have hT:=ht.later ha;have he:=ht.c1;have hf:=ht.c2;have hb:(i+1)*n<=m*n:=mlZ _ hi;rw [Zu] at hb;obtain ⟨p,hp⟩:∃p,p=i*n:=⟨_,rfl⟩
 rw [←hp] at hb ⊢;have e1:(i:Int)*(n:Int)=(p:Int):=by rw [hp];simp
 have e2:((i:Int)+1)*(n:Int)=(p:Int)+(n:Int):=by rw [hp,Int.add_mul];simp
 have b1:p+n<=t.c.length:=by omega
 have k2:(1:Int)<(t.s.length:Int):=by omega
 have k4:1<t.s.length:=by omega
 have q1:(0:Int)<=(p:Int):=by omega
 have q2:(p:Int)<=65536:=by omega
 have q3:(p:Int)+(n:Int)<=(d:Int):=by omega
 have q4:(p:Int)+(n:Int)<=65536:=by omega
 have q5:(n:Int)<=65536:=by omega
 have q6:(i:Int)<=65536:=by
  have:i*1<=i*n:=Nat.mul_le_mul_left _ hn1;omega
 obtain ⟨HT,HN⟩:=zd2 hT hn;clear ht hn hc hp hb hT;obtain ⟨hd,Hk⟩:=zd2 ha hk;clear ha hk;go_enter Tryz.func53,Tryz.ntmps53;go_upto_region 1 with fail;generalize w.alloc (.cells #[.slice S t.s.length c,.slice (some ⟨b,off,none⟩) t.c.length d] 30)=w1 at *;have c0:w1.cell? ⟨w.heap.size,0,none⟩=some (.slice S t.s.length c):=by rw [Hk.out.cell];rfl
 have c1:w1.cell? ⟨w.heap.size,1,none⟩=some (.slice (some ⟨b,off,none⟩) t.c.length d):=by rw [Hk.out.cell];rfl
 obtain ⟨bs,os,rfl,-,y0⟩:=HT.out.r.1 1 oZ;have y1:w1.cell? ⟨bs,os+1,none⟩=some (.int .i64 n):=by rw [y0];exact congrArg (λz=>some (Za1 .i64 z)) HN.out
 clear y0;go_upto_region 2 with fail;go_wp2_with fail;rw [Nat.add_sub_cancel_left];go_ret;exact ⟨rfl,hd.out⟩
namespace Ly
theorem dense_err {w b x:Ten} (h:denseOk w b x=false):dense w b x=(none_,20):=by simp [dense,h]
theorem dense_ok {w b x:Ten} (h:denseOk w b x=true):dense w b x=(⟨b.s,tab b.c.length λi=>Fx.add (Fx.dot (rowOf w.c x.c.length i) x.c) (at_ b.c i)⟩,0):=by simp [dense,h]
theorem row_len {w:List Int} {m n i:Nat} (h:w.length=m*n) (hi:i<m):(rowOf w n i).length=n:=by
 have:(i+1)*n<=m*n:=mlZ _ hi;rw [Zu] at this;unfold rowOf;rw [Zo,Zq];omega
theorem row_in {w:List Int} {n i:Nat} (h:∀z∈w,Fx.In z):∀z∈rowOf w n i,Fx.In z:=λz hz=>h z (Zp (Zh hz))
theorem row_at {w:List Int} {n i j:Nat} (hj:j<n):(rowOf w n i).getD j 0=w.getD (i*n+j) 0:=by
 unfold rowOf;simp only [gdZ];rw [List.getElem?_take,ipZ hj,List.getElem?_drop]
end Ly
theorem TenIn.row {w:Zp1} {S:Option Addr} {b off c d:Nat} {t:Ten} (h:TenIn w S (some ⟨b,off,none⟩) c d t) {m n i:Nat} (hc:t.c.length=m*n) (hi:i<m):Ints .i64 w (some ⟨b,off+i*n,none⟩) (Ly.rowOf t.c n i):=Ints.of_row λj hj=>by
 rw [Ly.row_len hc hi] at hj;have h1:(i+1)*n<=m*n:=mlZ _ hi;rw [Zu] at h1;obtain ⟨b',off',e,-,ha⟩:=h.r.2 (i*n+j) oZ;injection e with e;injection e with e1 e2;subst e1 e2
 rw [Nat.add_assoc,ha,Ly.row_at hj]
theorem qeU {b:Ten} {m:Int} (h:Tn.right b=true) (hs:b.s=[m]):(b.c.length:Int)=m:=by
 simp only [Tn.right,Zz,decide_eq_true_eq] at h;rw [h.2,hs];simp [Safe.prod]
theorem qbu (w:Zp1) (t t' t2 t3:TypeId) (a b z y:Array Value):Blk ((((w.alloc (.cells a t)).alloc (.cells b t')).alloc (.cells z t2)).alloc (.cells y t3)) w.heap.size t a/\Blk ((((w.alloc (.cells a t)).alloc (.cells b t')).alloc (.cells z t2)).alloc (.cells y t3)) (w.heap.size+1) t' b/\Blk ((((w.alloc (.cells a t)).alloc (.cells b t')).alloc (.cells z t2)).alloc (.cells y t3)) (w.heap.size+2) t2 z/\Blk ((((w.alloc (.cells a t)).alloc (.cells b t')).alloc (.cells z t2)).alloc (.cells y t3)) (w.heap.size+3) t3 y/\Later w ((((w.alloc (.cells a t)).alloc (.cells b t')).alloc (.cells z t2)).alloc (.cells y t3)):=by
 obtain ⟨h1,h2,h3,h4⟩:=qam w t t' t2 a b z;refine ⟨h1.alloc _,h2.alloc _,h3.alloc _,?_,h4.alloc _⟩;have:=Blk.new (((w.alloc (.cells a t)).alloc (.cells b t')).alloc (.cells z t2)) t3 y
 rwa [Zh1,Zh1,Zh1] at this
theorem dense_go (S C S' C' S2 C2:Option Addr) (c d c' d' c2 d2:Nat) (t b x:Ten) (w:Zp1) (ht:TenIn w S C c d t) (hb:TenIn w S' C' c' d' b) (hx:TenIn w S2 C2 c2 d2 x):
  Calls Tryz.prog 94 #[.agg #[.slice S t.s.length c,.slice C t.c.length d],.agg #[.slice S' b.s.length c',.slice C' b.c.length d'],.agg #[.slice S2 x.s.length c2,.slice C2 x.c.length d2]] w (GoP (Ly.dense t b x) w):=by
 obtain ⟨HG,HY,H0,hz,HQ⟩:=qbu w 30 30 30 30 #[.slice S t.s.length c,.slice C t.c.length d] #[.slice S' b.s.length c',.slice C' b.c.length d'] #[.slice S2 x.s.length c2,.slice C2 x.c.length d2] #[.slice none 0 0,.slice none 0 0];obtain ⟨HI,HK,HO,Hz,hy,Ht,Hb,Hx⟩:=zd8 HG HY H0 hz HQ ht hb hx;clear HG HY H0 hz HQ ht hb hx;go_enter Tryz.func94,Tryz.ntmps94;go_wp2_with fail;generalize (((w.alloc (.cells #[.slice S t.s.length c,.slice C t.c.length d] 30)).alloc (.cells #[.slice S' b.s.length c',.slice C' b.c.length d'] 30)).alloc (.cells #[.slice S2 x.s.length c2,.slice C2 x.c.length d2] 30)).alloc (.cells #[.slice none 0 0,.slice none 0 0] 30)=w1 at *;refine (qcG S C S' C' S2 C2 c d c' d' c2 d2 t b x w1 (Ht.out.later hy.out) (Hb.out.later hy.out) (Hx.out.later hy.out)).mono ?_;rintro e w2 ⟨rfl,Hl⟩;have hr:Later w1 w2:=Hl;have hS:=hy.out.trans hr;have hf:=hr.blk Hz.out;have hT:=hr.blk HI.out;have hs:=hr.blk HK.out;have hY:=hr.blk HO.out;clear Hl Hz hy HI HK HO hr;cases hg:Ly.denseOk t b x
 ·have HE:=zI (Ly.dense_err hg)
  clear hg;have c0:=hf.cell 0;have c1:=hf.cell 1;have f0:=hf.frozen 0;have f1:=hf.frozen 1;simp at c0 c1;obtain ⟨hM,hU,h7,HZ,h8⟩:=zd5 hS hf hT hs hY;clear hS hf hT hs hY;go_wp2_with fail;refine Zk1 (v:=.tuple #[.agg #[.slice none 0 0,.slice none 0 0],.int .i64 20]) (by simp [results,Tryz.results94,go_sem,c0,c1]) rfl ?_;exact GoP.fail HE.out dZ ((hM.out.set (p:=⟨w.heap.size+3,0,none⟩) sZ _).set (p:=⟨w.heap.size+3,1,none⟩) sZ _)
 obtain ⟨Hp,Hg,h1,H2,HA,H4⟩:=Ly.dense_yes hg;obtain ⟨m,n,H9,Hv,gh,HS,Hc,gq,HC,gg⟩:=qe5 Hp Hg;have HE:=zI (Ly.dense_ok hg);have HL:b.c.length=m:=by have:=qeU h1 HA;omega
 have Ha:x.c.length=n:=by omega
 obtain ⟨r1,r2⟩:=Ly.right_ok h1;rw [Ha] at HE;generalize hR:(Ly.tab b.c.length λi=>Fx.add (Fx.dot (Ly.rowOf t.c n i) x.c) (Ly.at_ b.c i))=R at *;have HH:R.length=b.c.length:=by rw [←hR,Ly.tab_len]
 have Hw:∀i (hi:i<R.length),R[i]=Fx.add (Fx.dot (Ly.rowOf t.c n i) x.c) (Ly.at_ b.c i):=λi hi=>by subst hR;exact Ly.tab_get hi
 have hB:∀z∈R,Fx.In z:=by rw [←hR];exact Ly.tab_in λi _=>Fx.add_in _ _
 have x2:=hs.cell 0;have x3:=hs.cell 1;simp at x2 x3;obtain ⟨hn,gb,HX,hW,H5,gf⟩:=zd6 HH HL Ha HC Hv Hg;clear hR hg Hp h1 H2 HA H4 H9 Hv HL Ha HC Hg HH;obtain ⟨hM,hU,h7,HZ,h8,gk,hZ⟩:=zd7 hS hf hT hs hY Hw hB;clear hS hf hT hs hY Hw hB;go_wp2_with fail;have X3:=zI x3;clear x2 x3;refine (qa9 S' C' c' d' b w2 oZ oZ (Hb.out.later hM.out).r).mono ?_;rintro e w3 ⟨v,rfl,⟨g,h,rfl,hg,hh,hG,hH⟩,Hr⟩;have hP:Later w2 w3:=Hr;have hN:Later w3 (w3.alloc (.cells #[.slice (some ⟨g,0,none⟩) b.s.length b.s.length,.slice (some ⟨h,0,none⟩) b.c.length b.c.length] 30)):=(Later.refl w3).alloc _;have ho:=Blk.new w3 30 #[.slice (some ⟨g,0,none⟩) b.s.length b.s.length,.slice (some ⟨h,0,none⟩) b.c.length b.c.length];have hj:=hP.trans hN;have HB:=hM.out.trans hj;have HN:=hj.blk hU.out;have hE:=hj.blk h7.out;have hO:=hj.blk h8.out;have HW:=hN.blk hG;have HM:=hN.blk hH;have gx:=hM.out.size;have gu:=hP.size;have gy:=hH.lt;have gA:=hG.lt;have go:=hU.out.lt;have h5:=qb1 hG hH;have x3:=hj.cell X3.out;clear Hr hU h7 HZ h8 hG hH X3;have X3:=zI x3;clear x3;obtain ⟨H6,gl,Ho,gv,gi,gc,h4,He,gj⟩:=zd9 hP hN ho hj HB HN hE hO HW;have H7:=zI HM;clear hP hN ho hj HB HN hE hO HW HM;go_upto_region 4 with fail;generalize w3.alloc (.cells #[.slice (some ⟨g,0,none⟩) b.s.length b.s.length,.slice (some ⟨h,0,none⟩) b.c.length b.c.length] 30)=w4 at *;generalize hpe:w3.heap.size=p at *;have gt:h<p:=by omega
 have gp:w.heap.size+3<p:=by omega
 have Hj:w.heap.size+3<h:=by omega
 have x3:=X3.out;clear X3 gl H6 hpe;go_wp2_with fail;clear x3;have HJ:Blk w4 h 22 ((R.take 0++b.c.drop 0).map (Za1 .i64)).toArray:=by simpa using H7.out
 have HU:=zI HJ;clear HJ
 go_loopw [22] (λi wx=>∃k:Nat,k<=b.c.length/\i=.int .i64 (k:Int)/\Blk wx h 22 ((R.take k++b.c.drop k).map (Za1 .i64)).toArray/\Blk wx p 30 #[.slice (some ⟨g,0,none⟩) b.s.length b.s.length,.slice (some ⟨h,0,none⟩) b.c.length b.c.length]/\Blk wx (w.heap.size+3) 30 #[.slice none 0 0,.slice none 0 0]/\Blk wx w.heap.size 30 #[.slice S t.s.length c,.slice C t.c.length d]/\Blk wx (w.heap.size+2) 30 #[.slice S2 x.s.length c2,.slice C2 x.c.length d2]/\Blk wx g 3 (b.s.map (Za1 .i64)).toArray/\Later w wx) (λi _=>b.c.length-(intOf i).toNat)
 case atStart=>exact ⟨0,Zt _,rfl,HU.out,Ho.out,gc.out,h4.out,He.out,gj.out,gi.out⟩
 case round=>
  obtain ⟨k,hk,rfl,hm,hl,hc,hq,hD,hX,he⟩:=hrel;clear HU
  by_cases H1:k<b.c.length
  ·have h3:k<m:=by have:=gb.out;omega
   have ha:k<R.length:=by have:=hn.out;omega
   obtain ⟨b2,off2,rfl,-,gw⟩:=(Hb.out.later he).cell H1;obtain ⟨bt,ot,rfl,-,-⟩:=Ht.out.cell (k:=0) (by have:=hW.out;have:1*1<=m*n:=Nat.mul_le_mul gh HS;omega);have Hh:=Ly.mid_step R b.c ha hn.out;have hI:=Ly.mid_len R b.c k oZ hn.out;have HT:=gk.out k ha;have hC:=Ly.at_in Hb.out.num k;have Hn:=Ly.row_len hW.out h3;have HF:=Ly.row_in (n:=n) (i:=k) Ht.out.num;have Hs:=λ(V:Zp1) (hV:Later wr V)=>qc9 S bt ot c d t m n k V (Ht.out.later (he.trans hV)) (by have:=gf.out;omega) H5.out hW.out h3 HS gg
   have HR:=λ(V:Zp1) (hV:Later wr V)=>(show Calls Tryz.prog 142 #[.slice (some ⟨bt,ot+k*n,none⟩) n n,.slice C2 x.c.length d2] V λe w'=>e=.returned (.int .i64 (Fx.dot (Ly.rowOf t.c n k) x.c))/\∃q,w'=V.drewN q from by
    have hd:=fix_dot (some ⟨bt,ot+k*n,none⟩) C2 n d2 (Ly.rowOf t.c n k) x.c V oZ (by have:=HX.out;omega) ((Ht.out.later (he.trans hV)).row hW.out h3) (Hx.out.later (he.trans hV)).r.2 HF Hx.out.num;rw [Hn] at hd;rw [show x.c.length=n from HX.out];exact hd)
   have HV:=λ(V:Zp1)=>qaM (Fx.dot (Ly.rowOf t.c n k) x.c) (Ly.at_ b.c k) V (Fx.dot_in _ _) hC
   rw [HT] at Hh;generalize Fx.dot (Ly.rowOf t.c n k) x.c=dk at *;generalize Ly.at_ b.c k=bk at *;have o1:wr.cell? ⟨p,1,none⟩=some (.slice (some ⟨h,0,none⟩) b.c.length b.c.length):=by rw [hl.cell];rfl
   have t0:wr.cell? ⟨w.heap.size,0,none⟩=some (.slice S t.s.length c):=by rw [hq.cell];rfl
   have t1:wr.cell? ⟨w.heap.size,1,none⟩=some (.slice (some ⟨bt,ot,none⟩) t.c.length d):=by rw [hq.cell];rfl
   have xx1:wr.cell? ⟨w.heap.size+2,1,none⟩=some (.slice C2 x.c.length d2):=by rw [hD.cell];rfl
   obtain ⟨u,hu⟩:∃u,wr.cell? ⟨h,k,none⟩=some u:=⟨_,hm.row_get (by rw [hI];exact ha)⟩
   have kk1:(k:Int)<(b.c.length:Int):=by omega
   have kk2:(0:Int)<=(k:Int):=by omega
   clear hI HT hC ha Hn HF;obtain ⟨Hm,Hy,HP,HD,Hq,Hf,ge,H8,gd⟩:=zd9 hm hl hc hq hD hX Hh Hs HR;obtain ⟨H3,h9⟩:=zd2 HV he;clear hm hl hc hq hD hX Hh Hs HR HV he;go_wp2_with fail;have KF:=zI (show ∀Xw,Later wr Xw->Xw.cell? ⟨p,1,none⟩=some (.slice (some ⟨h,0,none⟩) b.c.length b.c.length)/\Xw.cell? ⟨w.heap.size,0,none⟩=some (.slice S t.s.length c)/\Xw.cell? ⟨w.heap.size,1,none⟩=some (.slice (some ⟨bt,ot,none⟩) t.c.length d)/\Xw.cell? ⟨w.heap.size+2,1,none⟩=some (.slice C2 x.c.length d2) from λXw h=>⟨h.cell o1,h.cell t0,h.cell t1,h.cell xx1⟩);refine Zm1 ?_;refine Zl1 (S:=λXw=>Xw.cell? ⟨p,1,none⟩=some (.slice (some ⟨h,0,none⟩) b.c.length b.c.length)/\Xw.cell? ⟨w.heap.size,0,none⟩=some (.slice S t.s.length c)/\Xw.cell? ⟨w.heap.size,1,none⟩=some (.slice (some ⟨bt,ot,none⟩) t.c.length d)/\Xw.cell? ⟨w.heap.size+2,1,none⟩=some (.slice C2 x.c.length d2)) krZ (KF.out _ Lau) (λhHeld=>?_);refine tk 0 ?_;refine tk 1 ?_;refine tk 2 ?_;refine tk 3 ?_;refine tk 4 ?_;refine tk 6 ?_;refine tk 7 ?_;refine tk 9 ?_;refine rd 5 λK hK=>?_
   simp only [ga,gs,gz]
   go_simp
   go_at_call 53;(with_reducible refine (H8.out _ (Lau:Later wr _)).mono ?_);rintro e wa ⟨rfl,gr⟩
   try go_wp2_with fail
   refine hK.out _ _ (KF.out _ Lau) (λhHeld=>?_);clear hK K
   try simp only [ga,gs,gz,Act.put,sa,sz,ss]
   refine rd 8 λK hK=>?_
   simp only [ga,gs,gz]
   go_simp
   go_at_call 142;(with_reducible refine (gd.out _ (Lau:Later wr _)).mono ?_);rintro e wb ⟨rfl,qd,rfl⟩
   try go_wp2_with fail
   refine hK.out _ _ (KF.out _ Lau) (λhHeld=>?_);clear hK K
   try simp only [ga,gs,gz,Act.put,sa,sz,ss]
   refine rd 10 λK hK=>?_
   simp only [ga,gs,gz]
   go_simp
   go_at_call 55;(with_reducible refine (H3.out _).mono ?_);rintro e wc ⟨rfl,rfl⟩;have gB:=Later.cell (Lau:Later wr (wa.drewN qd)) hu;have fu2:=(Later.blk (Lau:Later wr (wa.drewN qd)) Hm.out).frozen k
   try go_wp2_with fail
   refine hK.out _ _ (KF.out _ Lau) (λhHeld=>?_);clear hK K
   try simp only [ga,gs,gz,Act.put,sa,sz,ss]
   refine tk 11 ?_;refine rd 12 λK hK=>?_
   simp only [ga,gs,gz]
   go_simp
   refine hK.out _ _ ?_ (λhHeld=>?_)
   ·(try dsimp only);(refine ⟨?_,?_,?_,?_⟩<;>(repeat (refine qa0 ?_ (by first|omega|(simp;done)|(simp;omega))))<;>(refine Later.cell (Lau:Later wr _) ?_)<;>assumption)
   clear hK K
   try simp only [ga,gs,gz,Act.put,sa,sz,ss]
   clear KF;refine Zn1 krZ ?_ _;refine Zd1 ?_;have hp:Later wr (wa.drewN qd):=(Lau:Later wr (wa.drewN qd))
   have Hc:Blk ((wa.drewN qd).setCell ⟨h,k,none⟩ (.int .i64 (Fx.add dk bk))) h 22 ((R.take (k+1)++b.c.drop (k+1)).map (Za1 .i64)).toArray:=by
    have:=(hp.blk Hm.out).set_ k (.int .i64 (Fx.add dk bk));rw [←ge.out,List.map_set];simpa using this
   have hF:=(hp.blk Hy.out).far (p:=⟨h,k,none⟩) soZ (.int .i64 (Fx.add dk bk));have hw:=(hp.blk HP.out).far (p:=⟨h,k,none⟩) soZ (.int .i64 (Fx.add dk bk));have hJ:=(hp.blk HD.out).far (p:=⟨h,k,none⟩) soZ (.int .i64 (Fx.add dk bk));have hA:=(hp.blk Hq.out).far (p:=⟨h,k,none⟩) soZ (.int .i64 (Fx.add dk bk));have hv:Blk ((wa.drewN qd).setCell ⟨h,k,none⟩ (.int .i64 (Fx.add dk bk))) g 3 (b.s.map (Za1 .i64)).toArray:=(hp.blk Hf.out).far (p:=⟨h,k,none⟩) h5 (.int .i64 (Fx.add dk bk));have hL:=(h9.out.trans hp).set (p:=⟨h,k,none⟩) soZ (.int .i64 (Fx.add dk bk));obtain ⟨gm,Hi,h6,Hd,h0,h2,Hk⟩:=zd7 Hc hF hw hJ hA hv hL;clear Hc hF hw hJ hA hv hL;go_wp2_with fail;go_roundw
   case rel=>exact ⟨k+1,by omega,by go_num,gm.out,Hi.out,h6.out,Hd.out,h0.out,h2.out,Hk.out⟩
   case measure=>simp [intOf];omega
  ·obtain rfl:k=b.c.length:=by omega
   rw [Ly.mid_end R b.c _ hn.out.symm hn.out] at hm;have o0:wr.cell? ⟨p,0,none⟩=some (.slice (some ⟨g,0,none⟩) b.s.length b.s.length):=by rw [hl.cell];rfl
   have o1:wr.cell? ⟨p,1,none⟩=some (.slice (some ⟨h,0,none⟩) b.c.length b.c.length):=by rw [hl.cell];rfl
   have c0:=hc.cell 0;have c1:=hc.cell 1;have f0:=hc.frozen 0;have f1:=hc.frozen 1;simp at c0 c1;have hQ:=(hc.set_ 0 (.slice (some ⟨g,0,none⟩) b.s.length b.s.length)).set_ 1 (.slice (some ⟨h,0,none⟩) b.c.length b.c.length);have d0:=hQ.cell 0;have d1:=hQ.cell 1;simp at d0 d1;have Hu:g≠w.heap.size+3:=by omega
   have Hj:h≠w.heap.size+3:=by omega
   obtain ⟨Hm,Hy,HP,HD,Hq,Hf,h9,gn⟩:=zd8 hm hl hc hq hD hX he hQ;clear hm hl hc hq hD hX he hQ;go_wp2_with fail;refine Zk1 (v:=.tuple #[.agg #[.slice (some ⟨g,0,none⟩) b.s.length b.s.length,.slice (some ⟨h,0,none⟩) b.c.length b.c.length],.int .i64 0]) (by simp [results,Tryz.results94,go_sem,d0,d1]) rfl ?_;refine GoP.ok HE.out (TenN.o ⟨g,h,by simp [hn.out],by omega,by omega,(Hf.out.far (p:=⟨w.heap.size+3,0,none⟩) Hu _).far (p:=⟨w.heap.size+3,1,none⟩) Hu _,(Hm.out.far (p:=⟨w.heap.size+3,0,none⟩) Hj _).far (p:=⟨w.heap.size+3,1,none⟩) Hj _⟩ (by show b.s.length<=_;omega) (by have:=hn.out;show R.length<=_;omega) hZ.out) ((h9.out.set (p:=⟨w.heap.size+3,0,none⟩) sZ _).set (p:=⟨w.heap.size+3,1,none⟩) sZ _)
namespace Ly
theorem prod_append (a b:List Int):Safe.prod (a++b)=Safe.prod a*Safe.prod b:=by
 induction a with
 | nil=>simp [Safe.prod]
 | cons x r ih=>simp only [List.cons_append,Safe.prod,ih,Int.mul_assoc]
def poolR (x:Ten) (width step:Int):List Int × Int:=if Tn.right x then Od.pool x.s width step else ([],20)
theorem poolR_err (x:Ten) (width step:Int):(poolR x width step).2=poolErr x width step:=by unfold poolR poolErr;split<;>rfl
theorem qgh {l:List Int} (h:1<=l.length):∃r a,l=r++[a]:=⟨l.dropLast,l.getLast (by intro e;subst e;simp at h),(List.dropLast_concat_getLast _).symm⟩
theorem pool_facts {x:Ten} {width step:Int} (h:poolErr x width step=0):
  ∃sd n wd st pre:Nat,qby x.s=sd/\x.s.getD (x.s.length-1) 0=(sd:Int)/\qby (poolS x width step)=n/\(poolS x width step).getD (x.s.length-1) 0=(n:Int)/\width=(wd:Int)/\step=(st:Int)/\1<=wd/\wd<=sd/\1<=st/\1<=n/\(n-1)*st+wd<=sd/\x.c.length=pre*sd/\span (poolS x width step)=pre*n/\(poolS x width step).length=x.s.length/\1<=x.s.length/\x.s.length<=4/\Sh.right (poolS x width step)=true/\x.c.length<=65536/\pre*n<=65536/\sd<=1024/\n<=1024/\st<=1024/\poolR x width step=(poolS x width step,0)/\(Safe.prod (poolS x width step))=((pre*n:Nat):Int):=by
 unfold poolErr at h
 by_cases hr:Tn.right x=true
 case neg=>rw [inZ hr] at h;omega
 rw [ipZ hr] at h;have hs:=hr;simp only [Tn.right,Zz,decide_eq_true_eq] at hr;obtain ⟨_,l4,l1,hn,hC,hA⟩:=Sh.right_mul hr.1;obtain ⟨r,a,hl⟩:=qgh l1;have hR:poolR x width step=Od.pool x.s width step:=by unfold poolR;rw [ipZ hs]
 have hf:x.s.length=r.length+1:=by rw [hl];simp
 have hd:x.s.getD (x.s.length-1) 0=a:=by rw [hf,hl];simp [gdZ]
 have ha:=hn a (by rw [hl];simp);unfold Od.pool at h hR;rw [ipZ hr.1] at h hR
 by_cases hw:(Od.window (x.s.getD (x.s.length-1) 0) width step).2=0
 case neg=>rw [inZ hw] at h;simp at h
 rw [ipZ hw] at hR
 have hS:poolS x width step=x.s.set (x.s.length-1) (Od.window (x.s.getD (x.s.length-1) 0) width step).1:=by
  unfold poolS Od.pool;rw [ipZ hr.1,ipZ hw]
 have ho:=Od.window_ok hw
 have hk:poolS x width step=r++[(Od.window a width step).1]:=by
  rw [hS,hd,hf,hl,Nat.add_sub_cancel];simp
 have hj:Sh.right (poolS x width step)=true:=by
  rw [hS];have hi:x.s.length-1<x.s.length:=by omega
  refine Od.right_set hr.1 hi ho.1 ?_;have:x.s[x.s.length-1]=x.s.getD (x.s.length-1) 0:=by rw [gdZ,geZ hi];rfl
  rw [this];exact ho.2
 rw [hd] at hw ho;generalize hv:(Od.window a width step).1=v at *
 have hm:Sh.side a/\Sh.side width/\Sh.side step/\width<=a/\v=1+(a-width).tdiv step:=by
  unfold Od.window at hw hv
  split at hw
  ·rename_i hc
   rw [ipZ hc] at hv;exact ⟨hc.1,hc.2.1,hc.2.2.1,hc.2.2.2,hv.symm⟩
  ·simp at hw
 obtain ⟨q1,q2,q3,q4,q5⟩:=hm;have q1:=(Sh.side_iff _).1 q1;have q2:=(Sh.side_iff _).1 q2;have q3:=(Sh.side_iff _).1 q3;have hy:1<=v/\v<=a:=ho;have hp:1<=Safe.prod r:=Safe.prod_pos r (λz hz=>(hn z (by rw [hl];simp [hz])).1);have hx:Safe.prod [a]=a:=by simp [Safe.prod]
 have hu:Safe.prod [v]=v:=by simp [Safe.prod]
 have hg:Safe.prod x.s=Safe.prod r*a:=by rw [hl,prod_append,hx]
 have hb:Safe.prod (poolS x width step)=Safe.prod r*v:=by rw [hk,prod_append,hu]
 obtain ⟨sd,rfl⟩:=ezZ (show 0<=a by omega);obtain ⟨n,rfl⟩:=ezZ (show 0<=v by omega);obtain ⟨wd,rfl⟩:=ezZ (show 0<=width by omega);obtain ⟨st,rfl⟩:=ezZ (show 0<=step by omega);obtain ⟨pre,hq⟩:=ezZ (show 0<=Safe.prod r by omega);rw [hq] at hg hb hp;rw [←Int.natCast_mul] at hg hb
 have ht:(n-1)*st+wd<=sd:=by
  have h3:(n:Int)-1=((sd:Int)-(wd:Int)) / (st:Int):=by rw [q5,Int.tdiv_eq_ediv_of_nonneg oZ];omega
  have h4:=Int.ediv_mul_le ((sd:Int)-(wd:Int)) (show (st:Int)≠0 by omega);rw [←h3] at h4;have h5:(((n-1)*st:Nat):Int)=((n:Int)-1)*(st:Int):=by rw [Int.natCast_mul];congr 1;omega
  omega
 have hB:pre*n<=pre*sd:=Nat.mul_le_mul_left _ oZ;have he:(poolS x wd st).getD (x.s.length-1) 0=(n:Int):=by rw [hk,hf,Nat.add_sub_cancel];simp [gdZ]
 have hh:(poolS x wd st).length=x.s.length:=by rw [hk,hf];simp
 refine ⟨sd,n,wd,st,pre,?_,hd,?_,he,rfl,rfl,by omega,by omega,by omega,by omega,ht,by omega,?_,hh,l1,l4,hj,by omega,by omega,by omega,by omega,by omega,?_,hb⟩
 ·show (x.s.getD (x.s.length-1) 0).toNat=sd
  rw [hd];simp
 ·show ((poolS x wd st).getD ((poolS x wd st).length-1) 0).toNat=n
  rw [hh,he];simp
 ·unfold span;rw [hb];exact tnZ _
 ·rw [hS];exact hR
theorem from_bd {sd n wd st pre i:Nat} (hn:1<=n) (hns:(n-1)*st+wd<=sd) (hi:i<pre*n):from_ sd n st i+wd<=pre*sd:=by
 unfold from_;have h1:i / n<pre:=by rw [Nat.div_lt_iff_lt_mul oZ];exact hi
 have h2:i % n<=n-1:=by have:=Nat.mod_lt i (show 0<n by omega);omega
 have h3:i % n*st<=(n-1)*st:=mlZ _ h2;have h4:(i / n+1)*sd<=pre*sd:=mlZ _ h1;rw [Zu] at h4;omega
end Ly
theorem qd9 (kind:Int) (S C:Option Addr) (c d:Nat) (x:Ten) (width step:Int) (w:Zp1) (hk:kind=1∨kind=2) (hx:TenIn w S C c d x):
  Calls Tryz.prog 58 #[.int .i64 kind,.agg #[.slice S x.s.length c,.slice C x.c.length d],.int .i64 width,.int .i64 step] w (ShPost (Ly.poolR x width step) w):=by
 have hi:Later w (w.alloc (.cells #[.slice S x.s.length c,.slice C x.c.length d] 30)):=(Later.refl w).alloc _;have hj:=Blk.new w 30 #[.slice S x.s.length c,.slice C x.c.length d];have l1:=hx.l1;have l2:=hx.l2;obtain ⟨hh,hm,Hx⟩:=zd3 hi hj hx;clear hi hj hx;rcases hk with rfl|rfl
 all_goals
  go_enter Tryz.func58,Tryz.ntmps58;go_wp2_with fail;generalize w.alloc (.cells #[.slice S x.s.length c,.slice C x.c.length d] 30)=w1 at *;refine (qa2 S C c d x w1 oZ oZ (Hx.out.later hh.out).r.1).mono ?_;rintro e w2 ⟨rfl,hg⟩;have he:Later w1 w2:=hg;have ha:=he.blk hm.out;have c0:=ha.cell 0;simp at c0;have hd:=hh.out.trans he;clear hg he;cases hr:Tn.right x
  ·have HE:=zI (show Ly.poolR x width step=([],20) by unfold Ly.poolR;rw [hr];rfl)
   clear hr;obtain ⟨hc,ho⟩:=zd2 hd ha;clear hd ha;go_wp2_with fail
   go_ret2
   exact ShPost.fail HE.out hc.out
  ·have HE:=zI (show Ly.poolR x width step=Od.pool x.s width step by unfold Ly.poolR;rw [hr];rfl)
   clear hr;obtain ⟨hc,ho⟩:=zd2 hd ha;clear hd ha;go_wp2_with fail;refine (qcX S c x.s width step w2 oZ (Hx.out.later hc.out).r.1).mono ?_;rintro e w3 ⟨A,ac,rfl,hI,hn,hl,hf,hb⟩;obtain ⟨HI,HF,HB⟩:=zd3 hI hf hb;clear hI hf hb;go_wp2_with fail
   go_ret2
   exact ShPost.pass HE.out hc.out HI.out hn hl HF.out HB.out
theorem qbH (b off d len:Nat) (sd n wd st pre i:Nat) (w:Zp1) (hd:len<=d) (hd2:d<=9223372036854775807) (hlen:len=pre*sd) (hl:len<=65536) (hn:1<=n) (hw:1<=wd) (hns:(n-1)*st+wd<=sd) (hi:i<pre*n) (hpn:pre*n<=65536) (hst:st<=1024) (hn2:n<=1024):
  Calls Tryz.prog 59 #[.slice (some ⟨b,off,none⟩) len d,.int .i64 i,.int .i64 sd,.int .i64 n,.int .i64 wd,.int .i64 st] w λe w'=>e=.returned (.slice (some ⟨b,off+Ly.from_ sd n st i,none⟩) wd (d-Ly.from_ sd n st i))/\∃q,w'=w.drewN q:=by
 have hb:=Ly.from_bd hn hns hi;rw [←hlen] at hb;have hf:Ly.from_ sd n st i=i / n*sd+i % n*st:=rfl;have q1:i / n<=i:=Nat.div_le_self _ _;have q2:=Nat.mod_lt i (show 0<n by omega);have e0:(i:Int) / (n:Int)=((i / n:Nat):Int):=by simp
 have e1:(i:Int) % (n:Int)=((i % n:Nat):Int):=by simp
 rw [hf] at hb ⊢;clear hf;generalize i / n=q at *;generalize i % n=r at *;obtain ⟨a,ha⟩:∃a,a=q*sd:=⟨_,rfl⟩
 obtain ⟨z,hz⟩:∃z,z=r*st:=⟨_,rfl⟩
 rw [←ha,←hz] at hb ⊢;have e2:(q:Int)*(sd:Int)=(a:Int):=by rw [ha];simp
 have e3:(r:Int)*(st:Int)=(z:Int):=by rw [hz];simp
 have k0:(q:Int)<=65536:=by omega
 have kr:(r:Int)<=1024:=by omega
 have k1:(0:Int)<=(i:Int):=by omega
 have k2:(1:Int)<=(n:Int):=by omega
 have k3:(0:Int)<=(a:Int)+(z:Int):=by omega
 have k4:(a:Int)+(z:Int)<=131072:=by omega
 have ka:(a:Int)<=65536:=by omega
 have kz:(z:Int)<=65536:=by omega
 have k5:(a:Int)+(z:Int)+(wd:Int)<=(d:Int):=by omega
 have k6:(wd:Int)<=65536:=by omega
 have k7:a+z+wd<=d:=by omega
 have k8:a+z<d:=by omega
 clear ha hz hlen hns hi hpn;go_enter Tryz.func59,Tryz.ntmps59;go_wp2_with fail
 go_quiet (fail)
 go_wp2_with fail;rw [Nat.add_sub_cancel_left];go_ret;exact ⟨rfl,nq,rfl⟩
theorem qdr {l:List Int}:∀ {k:Nat},1<=k->0<=Ly.best l k/\Ly.best l k<k
 | 0,h=>by omega
 | k+1,_=>by
  unfold Ly.best
  split
  ·omega
  ·rename_i h
   by_cases hk:1<=k
   ·have:=qdr (l:=l) hk
    omega
   ·have:k=0:=by omega
    subst this;exact absurd (.inl (show (-1:Int)<0 by decide)) h
theorem qe6 (A:Option Addr) (c:Nat) (l:List Int) (w:Zp1) (hl:l.length<=1048576) (hI:Ints .i64 w A l):
  Calls Tryz.prog 60 #[.slice A l.length c] w λe w'=>e=.returned (.int .i64 (Ly.best l l.length))/\w=w':=by
 have HI:=zI hI;clear hI;go_enter Tryz.func60,Tryz.ntmps60;go_wp2_with fail
 go_loop [3,8] (λs i=>∃k:Nat,k<=l.length/\i=.int .i64 k/\s=.int .i64 (Ly.best l k)) (λ_ i=>l.length-(intOf i).toNat)
 case atStart=>exact ⟨0,Zt _,rfl,rfl⟩
 case round=>
  obtain ⟨k,hk,rfl,rfl⟩:=hrel
  by_cases he:k<l.length
  ·obtain ⟨b,off,rfl,-,hc⟩:=HI.out k he
   rw [show l.getD k 0=Ly.at_ l k from rfl] at hc
   by_cases hg:k=0
   ·subst hg
    have E:=zI (show Ly.best l (0+1)=0 by simp [Ly.best]);rw [show Ly.best l 0 = -1 from rfl];simp only [Zx] at hc;go_wp2_with fail
    go_round
    case rel=>exact ⟨0+1,by omega,by go_num,by rw [E.out];rfl⟩
    case measure=>simp [intOf];omega
   ·have hb:=qdr (l:=l) (show 1<=k by omega)
    obtain ⟨m,hm⟩:∃m:Nat,Ly.best l k=(m:Int):=⟨_,(Int.toNat_of_nonneg hb.1).symm⟩
    have ha:Ly.best l (k+1)=if Ly.at_ l m<Ly.at_ l k then (k:Int) else (m:Int):=by
     unfold Ly.best;rw [hm]
     by_cases h2:Ly.at_ l m<Ly.at_ l k
     ·rw [ipZ (.inr (by simpa using h2)),ipZ h2]
     ·rw [inZ (by simp only [tnZ];omega),inZ h2]
    have hh:m<l.length:=by omega
    obtain ⟨b',off',e',-,hf⟩:=HI.out m hh;injection e' with e';injection e' with e1 e2;subst e1 e2
    rw [show l.getD m 0=Ly.at_ l m from rfl] at hf;have km:(m:Int)<(l.length:Int):=by omega
    have km0:(0:Int)<=(m:Int):=by omega
    rw [hm];generalize Ly.at_ l k=x at *;generalize Ly.at_ l m=y at *;have HS:=zI ha;clear ha hm hb
    by_cases hd:y<x
    ·have E:=zI (HS.out.trans (ipZ hd))
     go_wp2_with fail
     go_round
     case rel=>exact ⟨k+1,by omega,by go_num,by rw [E.out]⟩
     case measure=>simp [intOf];omega
    ·have E:=zI (HS.out.trans (inZ hd))
     go_wp2_with fail
     go_round
     case rel=>exact ⟨k+1,by omega,by go_num,by rw [E.out]⟩
     case measure=>simp [intOf];omega
  ·obtain rfl:k=l.length:=by omega
   go_wp2_with fail;go_ret;exact ⟨rfl,rfl⟩
namespace Ly
theorem pool_err {top:Bool} {x:Ten} {width step:Int} (h:poolErr x width step≠0):pool top x width step=(none_,poolErr x width step):=by unfold pool;rw [inZ h]
theorem pool_ok {top:Bool} {x:Ten} {width step:Int} (h:poolErr x width step=0):pool top x width step=(⟨poolS x width step,tab (span (poolS x width step)) λi=>poolCell top (win x.c (qby x.s) (qby (poolS x width step)) width.toNat step.toNat i) width⟩,0):=by unfold pool;rw [ipZ h]
theorem win_len {c:List Int} {sd n wd st i:Nat} (h:from_ sd n st i+wd<=c.length):(win c sd n wd st i).length=wd:=by unfold win;rw [Zo,Zq];omega
theorem win_in {c:List Int} {sd n wd st i:Nat} (h:∀z∈c,Fx.In z):∀z∈win c sd n wd st i,Fx.In z:=λz hz=>h z (Zp (Zh hz))
theorem win_at {c:List Int} {sd n wd st i j:Nat} (hj:j<wd):(win c sd n wd st i).getD j 0=c.getD (from_ sd n st i+j) 0:=by
 unfold win;simp only [gdZ];rw [List.getElem?_take,ipZ hj,List.getElem?_drop]
theorem poolCell_in {top:Bool} {l:List Int} {width:Int} (h:∀z∈l,Fx.In z):Fx.In (poolCell top l width):=by
 unfold poolCell
 split
 ·exact at_in h _
 ·exact Fx.div_in _ _
theorem poolCell_top (l:List Int) (width:Int):poolCell true l width=at_ l (best l l.length).toNat:=rfl
theorem poolCell_mean (l:List Int) (width:Int):poolCell false l width=Fx.div (Fx.sum l) (width*4294967296):=rfl
theorem zeros_len (n:Nat):(zeros n).length=n:=by simp [zeros]
end Ly
theorem TenIn.win {w:Zp1} {S:Option Addr} {b off c d:Nat} {t:Ten} (h:TenIn w S (some ⟨b,off,none⟩) c d t) {sd n wd st i:Nat} (hb:Ly.from_ sd n st i+wd<=t.c.length):Ints .i64 w (some ⟨b,off+Ly.from_ sd n st i,none⟩) (Ly.win t.c sd n wd st i):=Ints.of_row λj hj=>by
 rw [Ly.win_len hb] at hj;obtain ⟨b',off',e,-,ha⟩:=h.r.2 (Ly.from_ sd n st i+j) oZ;injection e with e;injection e with e1 e2;subst e1 e2
 rw [Nat.add_assoc,ha,Ly.win_at hj]
theorem qgi (top:Bool) (kind:Int) (S C:Option Addr) (c d:Nat) (x:Ten) (width step:Int) (w:Zp1) (hkt:(kind=1/\top=true)∨(kind=2/\top=false)) (hx:TenIn w S C c d x):
  Calls Tryz.prog 97 #[.int .i64 kind,.agg #[.slice S x.s.length c,.slice C x.c.length d],.int .i64 width,.int .i64 step] w (GoP (Ly.pool top x width step) w):=by
 obtain ⟨ht,hz,gk⟩:=qaU w 30 30 #[.slice S x.s.length c,.slice C x.c.length d] #[.slice none 0 0,.slice none 0 0];obtain ⟨hM,Hz,HH,Hx,gv⟩:=zd5 ht hz gk hx hkt;clear ht hz gk hx hkt;go_enter Tryz.func97,Tryz.ntmps97;go_wp2_with fail;generalize (w.alloc (.cells #[.slice S x.s.length c,.slice C x.c.length d] 30)).alloc (.cells #[.slice none 0 0,.slice none 0 0] 30)=w1 at *;refine (qd9 kind S C c d x width step w1 (by rcases gv.out with h|h<;>omega) (Hx.out.later HH.out)).mono ?_;rintro e w2 ⟨A,ac,rfl,hI,gD,g7,hf,HX⟩;have hE:Later w1 w2:=HX;have Ha:=HH.out.trans hE;have hv:=hE.blk Hz.out;have ha:=hE.blk hM.out;clear HX Hz HH hM hE hf;rw [Ly.poolR_err]
 by_cases hg:Ly.poolErr x width step=0
 case neg=>
  have HE:=zI (Ly.pool_err (top:=top) hg);have d1:(Ly.poolErr x width step==0)=false:=by simpa using hg
  have d2:(Ly.poolErr x width step != 0)=true:=by simpa using hg
  have Hg:=zI hg;clear hg;generalize Ly.poolErr x width step=g at *;generalize (Ly.poolR x width step).1.length=sl at *;have c0:=hv.cell 0;have c1:=hv.cell 1;have f0:=hv.frozen 0;have f1:=hv.frozen 1;simp at c0 c1;obtain ⟨HB,Hw,hc,HI⟩:=zd4 Ha hv ha hI;clear Ha hv ha hI;go_wp2_with fail;refine Zk1 (v:=.tuple #[.agg #[.slice none 0 0,.slice none 0 0],.int .i64 g]) (by simp [results,Tryz.results97,go_sem,c0,c1]) rfl ?_;exact GoP.fail HE.out Hg.out ((HB.out.set (p:=⟨w.heap.size+1,0,none⟩) sZ _).set (p:=⟨w.heap.size+1,1,none⟩) sZ _)
 have HE:=zI (Ly.pool_ok (top:=top) hg);obtain ⟨sd,n,wd,st,pre,h1,h2,h3,h4,rfl,rfl,h5,h6,h7,h8,h9,ge,H3,hE,g5,Gd,gB,gE,gK,Ge,gH,gJ,gw,gj⟩:=Ly.pool_facts hg;rw [hg];rw [gw] at hI gD ⊢;rw [h1,h3,H3,tnZ,tnZ] at HE;generalize Ly.poolS x wd st=os at *;generalize hR:(Ly.tab (pre*n) λi=>Ly.poolCell top (Ly.win x.c sd n wd st i) wd)=R at *;have H6:R.length=pre*n:=by rw [←hR,Ly.tab_len]
 have H1:∀i (hi:i<R.length),R[i]=Ly.poolCell top (Ly.win x.c sd n wd st i) wd:=λi hi=>by subst hR;exact Ly.tab_get hi
 have hD:=Hx.out.num;have hU:∀z∈R,Fx.In z:=by rw [←hR];exact Ly.tab_in λi _=>Ly.poolCell_in (Ly.win_in hD)
 have gc:(Safe.prod os).toNat=pre*n:=by rw [gj];exact tnZ _
 have Gb:os.length<=4:=by omega
 obtain ⟨bs,os',rfl,-,y0⟩:=(Hx.out.later Ha).r.1 (x.s.length-1) oZ;obtain ⟨ba,oa,rfl,-,y1⟩:=hI (x.s.length-1) (by show _<os.length;omega);obtain ⟨gT,gu,gA,gP,H2,H4,gI⟩:=zd7 H6 gc ge gB h2 h4 hE;have y0:w2.cell? ⟨bs,os'+(x.s.length-1),none⟩=some (.int .i64 sd):=by rw [y0,h2]
 have y1:w2.cell? ⟨ba,oa+(x.s.length-1),none⟩=some (.int .i64 n):=by rw [y1];exact congrArg (λz=>some (Za1 .i64 z)) h4
 obtain ⟨Y0,Y1⟩:=zd2 y0 y1;clear hR hg h1 h2 h3 h4 ge H3 hE gB gw gj H6 gc y0 y1;obtain ⟨HB,Hw,hc,gU,HC,HI,HR⟩:=zd7 Ha hv ha H1 hU hI hD;clear Ha hv ha H1 hU hI hD;go_wp2_with fail;refine (qbE (some ⟨ba,oa,none⟩) ac os 0 w2 oZ HI.out).mono ?_;rintro e w3 ⟨gC,HZ⟩;rcases gC with ⟨HW,-⟩|⟨-,v,rfl,g,h,rfl,hg,hh,hG,hH⟩
 ·exact absurd gP.out (by rw [HW];decide)
 have Hr:Later w2 w3:=HZ;have Hs:Blk w3 h 22 ((Ly.zeros (pre*n)).map (Za1 .i64)).toArray:=by have:=hH;rw [gu.out] at this;exact this
 have gt:(Zc (Safe.prod os).toNat (0:Int)).length=pre*n:=by rw [gu.out,List.length_replicate]
 rw [show ((⟨os,Zc (Safe.prod os).toNat 0⟩:Ten).c.length)=pre*n from gt];have Hp:Later w3 (w3.alloc (.cells #[.slice (some ⟨g,0,none⟩) os.length os.length,.slice (some ⟨h,0,none⟩) (pre*n) (pre*n)] 30)):=(Later.refl w3).alloc _;have ho:=Blk.new w3 30 #[.slice (some ⟨g,0,none⟩) os.length os.length,.slice (some ⟨h,0,none⟩) (pre*n) (pre*n)];have hw:=Hr.trans Hp;have H5:=HB.out.trans hw;have gg:=hw.blk Hw.out;have He:=hw.blk hc.out;have gr:=Hp.blk hG;have H9:=Hp.blk Hs;have g8:=HB.out.size;have g4:=Hr.size;have g9:=Hs.lt;have Gc:=hG.lt;have gZ:=Hw.out.lt;have hT:=qb1 hG Hs;have y0:=hw.cell Y0.out;have y1:=hw.cell Y1.out;clear HZ Hw hc hG hH Hs gt Y0 Y1;obtain ⟨Y0,Y1⟩:=zd2 y0 y1;clear y0 y1;obtain ⟨gF,gV,Ho,g6,gQ,gN,hY,gR,gG⟩:=zd9 Hr Hp ho hw H5 gg He gr H9;clear Hr Hp ho hw H5 gg He gr H9;go_upto_region 5 with fail;generalize w3.alloc (.cells #[.slice (some ⟨g,0,none⟩) os.length os.length,.slice (some ⟨h,0,none⟩) (pre*n) (pre*n)] 30)=w4 at *;generalize hpe:w3.heap.size=p at *;have g3:h<p:=by omega
 have g0:w.heap.size+1<p:=by omega
 have HV:w.heap.size+1<h:=by omega
 clear gV gF hpe;rw [show (⟨os,Zc (Safe.prod os).toNat 0⟩:Ten).s.length=os.length from rfl];rw [gI.out];go_upto_region 7 with fail;have b0:w4.cell? ⟨w.heap.size,0,none⟩=some (.slice (some ⟨bs,os',none⟩) x.s.length c):=by rw [hY.out.cell];rfl
 have y0:=Y0.out;have y1:=Y1.out;have e1:IntKind.i64.wrap ((x.s.length:Int)-1)=(x.s.length:Int)-1:=Zc1 _ oZ;have e2:(0:Int)<=(x.s.length:Int)-1:=by omega
 have e3:(x.s.length:Int)-1<(x.s.length:Int):=by omega
 have e4:((x.s.length:Int)-1).toNat=x.s.length-1:=by omega
 clear Y0 Y1
 go_quiet (fail)
 clear e1 e2 e3 e4 b0 y0 y1;have o1:(w4.drewN nq).cell? ⟨p,1,none⟩=some (.slice (some ⟨h,0,none⟩) (pre*n) (pre*n)):=by rw [(Ho.out.drewN nq).cell];rfl
 have HK:Blk w4 h 22 ((R.take 0++(Ly.zeros (pre*n)).drop 0).map (Za1 .i64)).toArray:=by simpa using gG.out
 have HT:x.c.length<=d:=Hx.out.c1;have gL:d<=9223372036854775807:=Hx.out.c2;obtain ⟨N,hN⟩:∃N,N=pre*n:=⟨_,rfl⟩
 have HY:=zI hN;rw [←hN] at o1 gK HK ⊢;have hQ:R.length=N:=by rw [hN];exact gT.out
 have he:=zI hQ;have HF:=zI (Ly.zeros_len N);have gn:Blk w4 p 30 #[.slice (some ⟨g,0,none⟩) os.length os.length,.slice (some ⟨h,0,none⟩) N N]:=by rw [hN];exact Ho.out
 clear hN hQ;obtain ⟨gq,gm⟩:=zd2 HK gn;clear HK gn;go_wp2_with fail;clear o1
 go_loopw [54] (λi wx=>∃k:Nat,k<=N/\i=.int .i64 (k:Int)/\Blk wx h 22 ((R.take k++(Ly.zeros N).drop k).map (Za1 .i64)).toArray/\Blk wx p 30 #[.slice (some ⟨g,0,none⟩) os.length os.length,.slice (some ⟨h,0,none⟩) N N]/\Blk wx (w.heap.size+1) 30 #[.slice none 0 0,.slice none 0 0]/\Blk wx w.heap.size 30 #[.slice (some ⟨bs,os',none⟩) x.s.length c,.slice C x.c.length d]/\Blk wx g 3 (os.map (Za1 .i64)).toArray/\Later w wx) (λi _=>N-(intOf i).toNat)
 case atStart=>exact ⟨0,Zt _,rfl,gq.out.drewN _,gm.out.drewN _,gN.out.drewN _,hY.out.drewN _,gR.out.drewN _,gQ.out.drewN _⟩
 case round=>
  obtain ⟨k,hk,rfl,hm,hC,hs,ht,Hy,hO⟩:=hrel;clear gq gm
  by_cases gX:k<N
  ·have hr:k<R.length:=by have:=he.out;omega
   have gx:k<pre*n:=by have:=HY.out;omega
   have HS:=Ly.mid_step R (Ly.zeros N) hr (he.out.trans HF.out.symm);have Hb:=Ly.mid_len R (Ly.zeros N) k oZ (he.out.trans HF.out.symm);have gp:=gU.out k hr;have Ht:=Ly.from_bd (pre:=pre) (sd:=sd) h8 h9 gx;rw [←gA.out] at Ht;have gi:=Ly.win_len (c:=x.c) (sd:=sd) (n:=n) (wd:=wd) (st:=st) (i:=k) Ht;have HM:=Ly.win_in (sd:=sd) (n:=n) (wd:=wd) (st:=st) (i:=k) HR.out;obtain ⟨bc,oc,rfl,Ga,-⟩:=Hx.out.cell (k:=0) oZ;have H7:=λ(V:Zp1) (hV:Later wr V)=>(Hx.out.later (hO.trans hV)).win (sd:=sd) (n:=n) (st:=st) (i:=k) (wd:=wd) Ht
   have gh:=λ(V:Zp1)=>qbH bc oc d x.c.length sd n wd st pre k V HT gL gA.out gE h8 h5 h9 gx (by have:=HY.out;omega) gJ gH
   rw [gp] at HS;have hS:Fx.In (Ly.poolCell top (Ly.win x.c sd n wd st k) wd):=Ly.poolCell_in HM;have c0:wr.cell? ⟨w.heap.size,1,none⟩=some (.slice (some ⟨bc,oc,none⟩) x.c.length d):=by rw [ht.cell];rfl
   have o1:wr.cell? ⟨p,1,none⟩=some (.slice (some ⟨h,0,none⟩) N N):=by rw [hC.cell];rfl
   obtain ⟨u,hu⟩:∃u,wr.cell? ⟨h,k,none⟩=some u:=⟨_,hm.row_get (by rw [Hb];exact hr)⟩
   have g2:Ly.from_ sd n st k+wd<=d:=by omega
   generalize Ly.from_ sd n st k=fr at *;generalize Ly.win x.c sd n wd st k=wn at *;have kk1:(k:Int)<(N:Int):=by omega
   have kk2:(0:Int)<=(k:Int):=by omega
   obtain ⟨HU,go,hF⟩:=zd3 hu o1 gi;clear Hb gp hr Ht hu o1 gi;obtain ⟨Hm,HG,HN,hM,HA,gl,gO,Hv,gd⟩:=zd9 hm hC hs ht Hy HS gh hO H7;obtain ⟨gW,gS⟩:=zd2 HM hS;clear hm hC hs ht Hy HS gh hO H7 HM hS;go_wp2_with fail;refine (gO.out _).mono ?_;rintro e wa ⟨rfl,q,rfl⟩;have hq:Later wr (wr.drewN q):=(Later.refl wr).drewN q;have o1:=hq.cell go.out;have hu:=hq.cell HU.out;have gb:=gd.out _ hq;have fu:=(hq.blk Hm.out).frozen k;have gf:=hq.blk Hm.out;have hX:=hq.blk HG.out;have Hd:=hq.blk HN.out;have Hf:=hq.blk hM.out;have Hi:=hq.blk HA.out;have hW:=Hv.out.trans hq;clear c0 hq go HU gd Hm HG HN hM HA Hv;generalize wr.drewN q=wq at *;obtain ⟨HQ,hZ,Hj,Hc,Hk,Hq,HJ⟩:=zd7 gf hX Hd Hf Hi hW gb;clear gf hX Hd Hf Hi hW gb;rcases gv.out with ⟨rfl,rfl⟩|⟨rfl,rfl⟩
   ·have H8:=qdr (l:=wn) (k:=wn.length) (by have:=hF.out;omega)
    obtain ⟨m,hm⟩:∃m:Nat,Ly.best wn wn.length=(m:Int):=⟨_,(Int.toNat_of_nonneg H8.1).symm⟩
    have g1:m<wd:=by have:=hF.out;omega
    have gy:=λ(V:Zp1) (hV:Later wq V)=>(show Calls Tryz.prog 60 #[.slice (some ⟨bc,oc+fr,none⟩) wd (d-fr)] V λe w'=>e=.returned (.int .i64 (m:Int))/\V=w' from by
     have hd:=qe6 (some ⟨bc,oc+fr,none⟩) (d-fr) wn V (by have:=hF.out;omega) (HJ.out.below hV (lrZ _));rw [hm,hF.out] at hd;exact hd)
    obtain ⟨bb,ob,e',-,yv⟩:=HJ.out m (by have:=hF.out;omega);injection e' with e';injection e' with e1 e2;subst e1 e2
    have hb:=gl.out;rw [Ly.poolCell_top,hm,tnZ] at hb;rw [show wn.getD m 0=Ly.at_ wn m from rfl] at yv;generalize Ly.at_ wn m=y at *;have k3:(m:Int)<(wd:Int):=by omega
    have k4:(0:Int)<=(m:Int):=by omega
    have hy:=zI hb;clear hb hm H8;have gM:=zI gy;clear gy;go_wp2_with fail;have KF:=zI (show ∀Xw,Later wq Xw->Xw.cell? ⟨p,1,none⟩=some (.slice (some ⟨h,0,none⟩) N N)/\Xw.cell? ⟨bc,oc+fr+m,none⟩=some (.int .i64 y) from λXw h=>⟨h.cell o1,h.cell yv⟩);refine Zm1 ?_;refine Zl1 (S:=λXw=>Xw.cell? ⟨p,1,none⟩=some (.slice (some ⟨h,0,none⟩) N N)/\Xw.cell? ⟨bc,oc+fr+m,none⟩=some (.int .i64 y)) krZ (KF.out _ Lau) (λhHeld=>?_);refine tk 0 ?_;refine tk 1 ?_;refine tk 2 ?_;refine tk 3 ?_;refine tk 4 ?_;refine rd 5 λK hK=>?_
    simp only [ga,gs,gz]
    go_simp
    go_at_call 60;(with_reducible refine (gM.out _ (Lau:Later wq _)).mono ?_);rintro e wb ⟨rfl,rfl⟩
    try go_wp2_with fail
    refine hK.out _ _ (KF.out _ Lau) (λhHeld=>?_);clear hK K
    try simp only [ga,gs,gz,Act.put,sa,sz,ss]
    refine tk 6 ?_;refine tk 7 ?_;refine tk 8 ?_;refine rd 9 λK hK=>?_
    simp only [ga,gs,gz]
    go_simp
    refine hK.out _ _ ?_ (λhHeld=>?_)
    ·(try dsimp only);(refine ⟨?_,?_⟩<;>(repeat (refine qa0 ?_ (by first|omega|(simp;done)|(simp;omega))))<;>(refine Later.cell (Lau:Later wq _) ?_)<;>assumption)
    clear hK K
    try simp only [ga,gs,gz,Act.put,sa,sz,ss]
    clear KF;refine Zn1 krZ ?_ _;refine Zd1 ?_
    have h0:Blk (wq.drew.setCell ⟨h,k,none⟩ (.int .i64 y)) h 22 ((R.take (k+1)++(Ly.zeros N).drop (k+1)).map (Za1 .i64)).toArray:=by
     have:=(((Later.refl wq).drew).blk HQ.out).set_ k (.int .i64 y);rw [←hy.out,List.map_set];simpa using this
    have hn:=(((Later.refl wq).drew).blk hZ.out).far (p:=⟨h,k,none⟩) soZ (.int .i64 y);have hl:=(((Later.refl wq).drew).blk Hj.out).far (p:=⟨h,k,none⟩) soZ (.int .i64 y);have ha:=(((Later.refl wq).drew).blk Hc.out).far (p:=⟨h,k,none⟩) soZ (.int .i64 y);have hj:Blk (wq.drew.setCell ⟨h,k,none⟩ (.int .i64 y)) g 3 (os.map (Za1 .i64)).toArray:=(((Later.refl wq).drew).blk Hk.out).far (p:=⟨h,k,none⟩) hT (.int .i64 y);have hp:=(Hq.out.trans ((Later.refl wq).drew)).set (p:=⟨h,k,none⟩) soZ (.int .i64 y);obtain ⟨HO,hJ,hB,hc,hA,hL⟩:=zd6 h0 hn hl ha hj hp;clear h0 hn hl ha hj hp;go_wp2_with fail;go_roundw
    case rel=>exact ⟨k+1,by omega,by go_num,HO.out,hJ.out,hB.out,hc.out,hA.out,hL.out⟩
    case measure=>simp [intOf];omega
   ·have Hh:=λ(V:Zp1) (hV:Later wq V)=>(show Calls Tryz.prog 143 #[.slice (some ⟨bc,oc+fr,none⟩) wd (d-fr)] V λe w'=>e=.returned (.int .i64 (Fx.sum wn))/\V=w' from by
     have hd:=fix_sum (some ⟨bc,oc+fr,none⟩) (d-fr) wn V (by have:=hF.out;omega) (HJ.out.below hV (lrZ _)) gW.out;rw [hF.out] at hd;exact hd)
    have hP:=λ(V:Zp1)=>qc7 (wd:Int) V oZ oZ
    have Hl:Fx.In ((wd:Int)*4294967296):=by unfold Fx.In;omega
    have Hn:=λ(V:Zp1)=>qgb (Fx.sum wn) ((wd:Int)*4294967296) V (Fx.sum_in _) Hl
    have hb:=gl.out;rw [Ly.poolCell_mean] at hb;generalize Fx.sum wn=sm at *;generalize Fx.div sm ((wd:Int)*4294967296)=y at *;have hy:=zI hb;clear hb Hl;obtain ⟨HP,HL,HD⟩:=zd3 Hh hP Hn;clear Hh hP Hn;go_wp2_with fail;have KF:=zI (show ∀Xw,Later wq Xw->Xw.cell? ⟨p,1,none⟩=some (.slice (some ⟨h,0,none⟩) N N) from λXw h=>h.cell o1);refine Zm1 ?_;refine Zl1 (S:=λXw=>Xw.cell? ⟨p,1,none⟩=some (.slice (some ⟨h,0,none⟩) N N)) krZ (KF.out _ Lau) (λhHeld=>?_);refine tk 0 ?_;refine tk 1 ?_;refine tk 2 ?_;refine tk 3 ?_;refine tk 5 ?_;refine rd 4 λK hK=>?_
    simp only [ga,gs,gz]
    go_simp
    go_at_call 143;(with_reducible refine (HP.out _ (Lau:Later wq _)).mono ?_);rintro e wb ⟨rfl,rfl⟩
    try go_wp2_with fail
    refine hK.out _ _ (KF.out _ Lau) (λhHeld=>?_);clear hK K
    try simp only [ga,gs,gz,Act.put,sa,sz,ss]
    refine rd 6 λK hK=>?_
    simp only [ga,gs,gz]
    go_simp
    go_at_call 62;(with_reducible refine (HL.out _).mono ?_);rintro e wb2 ⟨rfl,rfl⟩
    try go_wp2_with fail
    refine hK.out _ _ (KF.out _ Lau) (λhHeld=>?_);clear hK K
    try simp only [ga,gs,gz,Act.put,sa,sz,ss]
    refine rd 7 λK hK=>?_
    simp only [ga,gs,gz]
    go_simp
    go_at_call 61;(with_reducible refine (HD.out _).mono ?_);rintro e wc ⟨rfl,qd,rfl⟩;have hu:=Later.cell (Lau:Later wq (wq.drew.drewN qd)) hu;have fu:=(Later.blk (Lau:Later wq (wq.drew.drewN qd)) HQ.out).frozen k
    try go_wp2_with fail
    refine hK.out _ _ (KF.out _ Lau) (λhHeld=>?_);clear hK K
    try simp only [ga,gs,gz,Act.put,sa,sz,ss]
    refine tk 8 ?_;refine rd 9 λK hK=>?_
    simp only [ga,gs,gz]
    go_simp
    refine hK.out _ _ ?_ (λhHeld=>?_)
    ·(try dsimp only);((repeat (refine qa0 ?_ (by first|omega|(simp;done)|(simp;omega))))<;>(refine Later.cell (Lau:Later wq _) ?_)<;>assumption)
    clear hK K
    try simp only [ga,gs,gz,Act.put,sa,sz,ss]
    clear KF;refine Zn1 krZ ?_ _;refine Zd1 ?_
    have h0:Blk ((wq.drewN (1+qd)).setCell ⟨h,k,none⟩ (.int .i64 y)) h 22 ((R.take (k+1)++(Ly.zeros N).drop (k+1)).map (Za1 .i64)).toArray:=by
     have:=(((Later.refl wq).drewN (1+qd)).blk HQ.out).set_ k (.int .i64 y);rw [←hy.out,List.map_set];simpa using this
    have hn:=(((Later.refl wq).drewN (1+qd)).blk hZ.out).far (p:=⟨h,k,none⟩) soZ (.int .i64 y);have hl:=(((Later.refl wq).drewN (1+qd)).blk Hj.out).far (p:=⟨h,k,none⟩) soZ (.int .i64 y);have ha:=(((Later.refl wq).drewN (1+qd)).blk Hc.out).far (p:=⟨h,k,none⟩) soZ (.int .i64 y);have hj:Blk ((wq.drewN (1+qd)).setCell ⟨h,k,none⟩ (.int .i64 y)) g 3 (os.map (Za1 .i64)).toArray:=(((Later.refl wq).drewN (1+qd)).blk Hk.out).far (p:=⟨h,k,none⟩) hT (.int .i64 y);have hp:=(Hq.out.trans ((Later.refl wq).drewN (1+qd))).set (p:=⟨h,k,none⟩) soZ (.int .i64 y);obtain ⟨HO,hJ,hB,hc,hA,hL⟩:=zd6 h0 hn hl ha hj hp;clear h0 hn hl ha hj hp;go_wp2_with fail;go_roundw
    case rel=>exact ⟨k+1,by omega,by go_num,HO.out,hJ.out,hB.out,hc.out,hA.out,hL.out⟩
    case measure=>simp [intOf];omega
  ·obtain rfl:k=N:=by omega
   rw [Ly.mid_end R (Ly.zeros k) k he.out.symm (he.out.trans HF.out.symm)] at hm;have o0:wr.cell? ⟨p,0,none⟩=some (.slice (some ⟨g,0,none⟩) os.length os.length):=by rw [hC.cell];rfl
   have o1:wr.cell? ⟨p,1,none⟩=some (.slice (some ⟨h,0,none⟩) k k):=by rw [hC.cell];rfl
   have c0:=hs.cell 0;have c1:=hs.cell 1;have f0:=hs.frozen 0;have f1:=hs.frozen 1;simp at c0 c1;have Hu:=(hs.set_ 0 (.slice (some ⟨g,0,none⟩) os.length os.length)).set_ 1 (.slice (some ⟨h,0,none⟩) k k);have d0:=Hu.cell 0;have d1:=Hu.cell 1;simp at d0 d1;have H0:g≠w.heap.size+1:=by omega
   have HV:h≠w.heap.size+1:=by omega
   obtain ⟨Hm,HG,HN,hM,HA,Hv,gY⟩:=zd7 hm hC hs ht Hy hO Hu;clear hm hC hs ht Hy hO Hu;go_wp2_with fail;refine Zk1 (v:=.tuple #[.agg #[.slice (some ⟨g,0,none⟩) os.length os.length,.slice (some ⟨h,0,none⟩) k k],.int .i64 0]) (by simp [results,Tryz.results97,go_sem,d0,d1]) rfl ?_;refine GoP.ok HE.out (TenN.o ⟨g,h,by simp [he.out],by omega,by omega,(HA.out.far (p:=⟨w.heap.size+1,0,none⟩) H0 _).far (p:=⟨w.heap.size+1,1,none⟩) H0 _,(Hm.out.far (p:=⟨w.heap.size+1,0,none⟩) HV _).far (p:=⟨w.heap.size+1,1,none⟩) HV _⟩ (by show os.length<=_;omega) (by have:=he.out;show R.length<=_;omega) HC.out) ((Hv.out.set (p:=⟨w.heap.size+1,0,none⟩) sZ _).set (p:=⟨w.heap.size+1,1,none⟩) sZ _)
theorem of_gop {t:Ten} {w w':Zp1} {e:Ending} (h:OfP t w e w') (hn:Ly.In t):GoP (Ly.of_ t.s t.c) w e w':=by
 obtain ⟨h1,h2⟩:=h;refine ⟨?_,h2⟩;rcases h1 with ⟨h3,rfl⟩|⟨h3,v,rfl,h4⟩
 ·left
  have:Ly.of_ t.s t.c=(Ly.none_,20):=by unfold Ly.of_;rw [show (⟨t.s,t.c⟩:Ten)=t from rfl,inZ (by rw [h3];simp)]
  rw [this];exact ⟨by decide,rfl⟩
 ·right
  have:Ly.of_ t.s t.c=(t,0):=by unfold Ly.of_;rw [show (⟨t.s,t.c⟩:Ten)=t from rfl,ipZ h3]
  rw [this];obtain ⟨q1,q2⟩:=Ly.right_ok h3;exact ⟨rfl,v,rfl,h4.o oZ oZ hn⟩
theorem qe7 (S C A:Option Addr) (c d ac:Nat) (x:Ten) (s:List Int) (w:Zp1) (hx:TenIn w S C c d x) (hA:Ints .i64 w A s) (hs:s.length<=1048576):
  Calls Tryz.prog 100 #[.agg #[.slice S x.s.length c,.slice C x.c.length d],.slice A s.length ac] w (GoP (Ly.turn x s) w):=by
 obtain ⟨hF,hz,hC⟩:=qaU w 30 30 #[.slice S x.s.length c,.slice C x.c.length d] #[.slice none 0 0,.slice none 0 0];have l1:=hx.l1;have l2:=hx.l2;obtain ⟨hJ,Hz,hu,Hx,HA⟩:=zd5 hF hz hC hx hA;clear hF hz hC hx hA;go_enter Tryz.func100,Tryz.ntmps100;go_wp2_with fail;generalize (w.alloc (.cells #[.slice S x.s.length c,.slice C x.c.length d] 30)).alloc (.cells #[.slice none 0 0,.slice none 0 0] 30)=w1 at *;refine (qa2 S C c d x w1 oZ oZ (Hx.out.later hu.out).r.1).mono ?_;rintro e w2 ⟨rfl,hv⟩;have hl:Later w1 w2:=hv;have he:=hu.out.trans hl;have hd:=hl.blk Hz.out;have hc:=hl.blk hJ.out;clear hv Hz hu hJ hl;cases hr:Tn.right x
 ·have HE:=zI (show Ly.turn x s=(Ly.none_,20) by unfold Ly.turn;rw [hr];rfl)
  clear hr;have c0:=hd.cell 0;have c1:=hd.cell 1;have f0:=hd.frozen 0;have f1:=hd.frozen 1;simp at c0 c1;obtain ⟨hm,hE,ht⟩:=zd3 he hd hc;clear he hd hc;go_wp2_with fail;refine Zk1 (v:=.tuple #[.agg #[.slice none 0 0,.slice none 0 0],.int .i64 20]) (by simp [results,Tryz.results100,go_sem,c0,c1]) rfl ?_;exact GoP.fail HE.out dZ ((hm.out.set (p:=⟨w.heap.size+1,0,none⟩) sZ _).set (p:=⟨w.heap.size+1,1,none⟩) sZ _)
 ·have HE:=zI (show Ly.turn x s=Ly.of_ s x.c by unfold Ly.turn;rw [hr];rfl)
  clear hr;have x1:=hc.cell 1;simp at x1;have hn:=Hx.out.num;have hG:TenR w2 A C ⟨s,x.c⟩:=⟨HA.out.below he (lrZ _),(Hx.out.later he).r.2⟩
  have hb:=(qcC A C ac d ⟨s,x.c⟩ w2 hs l2 hG).mono (λe w' h=>of_gop h hn);rw [←show Ly.turn x s=Ly.of_ s x.c from HE.out] at hb;obtain ⟨hE,ht,hm,hg⟩:=zd4 hd hc he hb;clear hd hc he hb hG hn;go_wp2_with fail;clear x1;refine (hg.out).mono ?_;rintro e wf ho;have hh:Later w2 wf:=ho.2;have ha:=hh.blk hE.out;have hk:=hm.out.trans hh;have f0:=ha.frozen 0;have f1:=ha.frozen 1;have hp:w.heap.size<=w.heap.size+1:=by first|exact lrZ _|simp|omega
  rcases ho.1 with ⟨hw,rfl⟩|⟨hD,v,rfl,hf⟩
  ·have c0:=ha.cell 0
   have c1:=ha.cell 1;simp at c0 c1;have hi:=hw;generalize hge:(Ly.turn x s).2=ge at *;obtain ⟨hO,hK⟩:=zd2 hge hi;clear hi;clear ho hw hh hge;obtain ⟨hI,hq⟩:=zd2 ha hk;clear ha hk;go_wp2_with fail;refine Zk1 (v:=.tuple #[.agg #[.slice none 0 0,.slice none 0 0],.int .i64 ge]) (by simp [results,Tryz.results100,go_sem,c0,c1]) rfl ?_;exact GoP.fail2 hO.out hK.out ((hq.out.set (p:=⟨w.heap.size+1,0,none⟩) hp _).set (p:=⟨w.heap.size+1,1,none⟩) hp _)
  ·have hN:=hf.base (hm.out.size)
   clear ho hf;obtain ⟨S2,c2,C2,d2,rfl,hy,hH,hB⟩:=hN;have hj:=(ha.set_ 0 (.slice S2 (Ly.turn x s).1.s.length c2)).set_ 1 (.slice C2 (Ly.turn x s).1.c.length d2);have d0:=hj.cell 0;have d1:=hj.cell 1;simp at d0 d1;have c0:=ha.cell 0;have c1:=ha.cell 1;simp at c0 c1;obtain ⟨hP,hS,hI,hq,hR,hL,hM,hQ⟩:=zd8 hD hj ha hk hh hy hH hB;clear hj ha hk hh hy hH hB hD;go_wp2_with fail;refine Zk1 (v:=.tuple #[.agg #[.slice S2 (Ly.turn x s).1.s.length c2,.slice C2 (Ly.turn x s).1.c.length d2],.int .i64 0]) (by simp [results,Tryz.results100,go_sem,d0,d1]) rfl ?_;exact ⟨.inr ⟨hP.out,_,rfl,TenO.box ⟨S2,c2,C2,d2,rfl,hL.out,hM.out,hQ.out⟩ hI.out⟩,(hq.out.set (p:=⟨w.heap.size+1,0,none⟩) hp _).set (p:=⟨w.heap.size+1,1,none⟩) hp _⟩
namespace Ly
theorem cut_facts {x:Ten} {sd frm til:Int} (hr:Tn.right x=true) (h:(Od.cut x.s sd frm til).2=0):
  ∃k S f t inner pre:Nat,sd=(k:Int)/\frm=(f:Int)/\til=(t:Int)/\k<x.s.length/\x.s.getD k 0=(S:Int)/\f<t/\t<=S/\S<=1024/\1<=inner/\1<=pre/\(Od.cut x.s sd frm til).1=x.s.set k ((t-f:Nat):Int)/\Safe.prod ((x.s.set k ((t-f:Nat):Int)).drop (k+1))=(inner:Int)/\Safe.prod (x.s.set k ((t-f:Nat):Int))=((pre*((t-f)*inner):Nat):Int)/\x.c.length=pre*(S*inner)/\x.c.length<=65536/\x.s.length<=4/\(∀z∈x.s.set k ((t-f:Nat):Int),1<=z/\z<=1024):=by
 simp only [Tn.right,Zz,decide_eq_true_eq] at hr;obtain ⟨_,l4,l1,ha,ho,hn⟩:=Sh.right_mul hr.1;unfold Od.cut at h ⊢;rw [ipZ hr.1] at h ⊢
 by_cases hc:(Od.inR sd x.s&&decide (0<=frm/\til<=Od.at_ x.s sd/\frm<til))=true
 case neg=>rw [inZ hc] at h;simp at h
 rw [ipZ hc];simp only [Od.inR,Zz,decide_eq_true_eq] at hc;obtain ⟨⟨h1,h2⟩,h3,h4,h5⟩:=hc;obtain ⟨k,rfl⟩:=ezZ h1;obtain ⟨f,rfl⟩:=ezZ h3;obtain ⟨t,rfl⟩:=ezZ (show 0<=til by omega);have hk:k<x.s.length:=by omega
 have hj:Od.at_ x.s (k:Int)=x.s[k]:=by unfold Od.at_;rw [tnZ,gdZ,geZ hk];rfl
 have hm:=ha _ (gmZ hk);rw [hj] at h4;obtain ⟨S,hS⟩:=ezZ (show 0<=x.s[k] by omega);have hd:x.s=x.s.take k++(x.s[k]::x.s.drop (k+1)):=by rw [←Zd hk,Zn]
 have hb:∀v:Int,x.s.set k v=x.s.take k++(v::x.s.drop (k+1)):=λv=>by rw [List.set_eq_take_append_cons_drop,ipZ hk]
 have hi:1<=Safe.prod (x.s.take k):=Safe.prod_pos _ (λz hz=>(ha z (Zh hz)).1);have hl:1<=Safe.prod (x.s.drop (k+1)):=Safe.prod_pos _ (λz hz=>(ha z (Zp hz)).1);obtain ⟨pre,hh⟩:=ezZ (show 0<=Safe.prod (x.s.take k) by omega);obtain ⟨inner,hf⟩:=ezZ (show 0<=Safe.prod (x.s.drop (k+1)) by omega);have hg:∀v:Int,Safe.prod (x.s.set k v)=(pre:Int)*(v*(inner:Int)):=λv=>by rw [hb,prod_append,hh];simp only [Safe.prod,hf]
 have he:(t:Int)-(f:Int)=((t-f:Nat):Int):=by omega
 have hx:Safe.prod x.s=(pre:Int)*((S:Int)*(inner:Int)):=by
  have h7:=hg x.s[k];rw [List.set_getElem_self,hS] at h7;exact h7
 refine ⟨k,S,f,t,inner,pre,rfl,rfl,rfl,hk,?_,by omega,by omega,by omega,by omega,by omega,?_,?_,?_,?_,by omega,l4,?_⟩
 ·rw [gdZ,geZ hk];exact hS
 ·rw [tnZ,he]
 ·rw [List.drop_set_of_lt oZ];exact hf
 ·rw [hg,Int.natCast_mul,Int.natCast_mul]
 ·have:((pre*(S*inner):Nat):Int)=Safe.prod x.s:=by rw [hx,Int.natCast_mul,Int.natCast_mul]
  omega
 ·intro z hz
  rcases List.mem_or_eq_of_mem_set hz with h|h
  ·exact ha z h
  ·omega
theorem cut_right {x:Ten} {sd frm til:Int} (h:Tn.right x=false):cut x sd frm til=(none_,20):=by unfold cut;rw [h];rfl
theorem cut_err {x:Ten} {sd frm til:Int} (h:Tn.right x=true) (h2:(Od.cut x.s sd frm til).2≠0):cut x sd frm til=(none_,(Od.cut x.s sd frm til).2):=by unfold cut;rw [ipZ h,inZ h2]
theorem cut_ok {x:Ten} {sd frm til:Int} (h:Tn.right x=true) (h2:(Od.cut x.s sd frm til).2=0):cut x sd frm til=(⟨(Od.cut x.s sd frm til).1,cutRows x.c (side x.s sd.toNat * span ((Od.cut x.s sd frm til).1.drop (sd.toNat+1))) (frm.toNat * span ((Od.cut x.s sd frm til).1.drop (sd.toNat+1))) ((til.toNat-frm.toNat)*span ((Od.cut x.s sd frm til).1.drop (sd.toNat+1))) (x.c.length / (side x.s sd.toNat * span ((Od.cut x.s sd frm til).1.drop (sd.toNat+1))))⟩,0):=by unfold cut;rw [ipZ h,ipZ h2]
theorem rows_succ (c:List Int) (row a n k:Nat):cutRows c row a n (k+1)=cutRows c row a n k++(c.drop (k*row+a)).take n:=by
 unfold cutRows;rw [List.range_succ,Zj];simp
theorem rows_len {c:List Int} {row a n k:Nat} (h:∀i,i<k->i*row+a+n<=c.length):(cutRows c row a n k).length=k*n:=by
 induction k with
 | zero=>simp [cutRows]
 | succ k ih=>
  rw [rows_succ,Ze,ih (λi hi=>h i oZ),Zo,Zq,Zu];have:=h k oZ;omega
theorem rows_in {c:List Int} {row a n k:Nat} (h:∀z∈c,Fx.In z):∀z∈cutRows c row a n k,Fx.In z:=λz hz=>by
 unfold cutRows at hz;obtain ⟨i,_,hz⟩:=List.mem_flatMap.1 hz;exact h z (Zp (Zh hz))
end Ly
theorem qbI (A:Option Addr) (c:Nat) (l:List Int) (w:Zp1) (hl:l.length<=1048576) (hI:Ints .i64 w A l) (h1:∀z∈l,1<=z/\z<=1024) (hp:Safe.prod l<=65536):
  Calls Tryz.prog 118 #[.slice A l.length c] w λe w'=>e=.returned (.int .i64 (Safe.prod l))/\w=w':=by
 have ha:=λk=>Safe.prod_pos (l.take k) (λz hz=>(h1 z (Zh hz)).1)
 have he:=λk=>Safe.prod_take_le l k (λz hz=>(h1 z hz).1)
 have hg:=λk hk=>Safe.prod_take_succ l k hk
 obtain ⟨HI,hb,hf,hh⟩:=zd4 hI ha he hg;clear hI ha he hg;clear h1;go_enter Tryz.func118,Tryz.ntmps118;go_wp2_with fail
 go_loop [3,8] (λs i=>∃k:Nat,k<=l.length/\i=.int .i64 k/\s=.int .i64 (Safe.prod (l.take k))) (λ_ i=>l.length-(intOf i).toNat)
 case atStart=>exact ⟨0,Zt _,rfl,rfl⟩
 case round=>
  obtain ⟨k,hk,rfl,rfl⟩:=hrel
  by_cases hd:k<l.length
  ·obtain ⟨b,off,rfl,-,hc⟩:=HI.out k hd
   rw [qaX hd] at hc;have q1:=hb.out k;have q2:=hf.out k;have q3:=hb.out (k+1);have q4:=hf.out (k+1);have q5:=hh.out k hd;obtain ⟨P',hP⟩:∃P',P'=Safe.prod (l.take (k+1)):=⟨_,rfl⟩
   rw [←hP] at q3 q4 q5;have HP:=zI hP;clear hP;generalize Safe.prod (l.take k)=P at *;have e1:P*l[k]=P':=q5.symm;generalize l[k]=z at *;clear q5;go_wp2_with fail
   go_round
   case rel=>exact ⟨k+1,by omega,by go_num,by rw [←HP.out]⟩
   case measure=>simp [intOf];omega
  ·obtain rfl:k=l.length:=by omega
   rw [Zg];go_wp2_with fail;go_ret;exact ⟨rfl,rfl⟩
theorem Later.grown {w w1 w2:Zp1} {row:Option Nat} (h:Later w w1) (hg:w1.grownBy w2 row) (hs:w.heap.size<=w1.heap.size) (hr:∀b,row=some b->w.heap.size<=b):Later w w2:=Below.grown h hg hs hr
theorem TenO.of_row {B:Nat} {w:Zp1} {S:Option Addr} {c:Nat} {v:Value} {s l:List Int} {e:TypeId} (hown:w.ownsRow B e 1 v l.length (l.map (Za1 .i64))) (hS:Ints .i64 w S s) (h1:s.length<=c) (h2:c<=9223372036854775807) (hb:∀a,S=some a->B<=a.block) (l1:s.length<=1048576) (l2:l.length<=1048576) (hpos:0<l.length) (hin:∀z∈l,Fx.In z):
  ∃C d,v=.slice C l.length d/\TenO B w (.agg #[.slice S s.length c,v]) ⟨s,l⟩:=by
 rcases hown.2 with ⟨_,h0⟩|⟨g,cap,cur,rfl,hg,hh,hc,hm,hr⟩
 ·omega
 ·obtain ⟨A,c',hv,-,hI⟩:=Ints.of_own hown
  injection hv with e1 e2 e3
  subst e1 e3;refine ⟨_,_,rfl,S,c,_,_,rfl,⟨⟨hS,hI⟩,h1,h2,hc,by unfold maxLen at hm;omega,l1,l2,hin⟩,hb,λa e=>?_⟩;injection e with e
  subst e;exact ⟨hg,lt_of_block hh,λj=>by simp [World.frozen?,hh]⟩
theorem Ints.drop_ {w:Zp1} {b off:Nat} {l:List Int} (h:Ints .i64 w (some ⟨b,off,none⟩) l) (k:Nat):Ints .i64 w (some ⟨b,off+k,none⟩) (l.drop k):=Ints.of_row λj hj=>by
 rw [Zq] at hj;obtain ⟨b',o',e',-,hc⟩:=h (k+j) oZ;injection e' with e';injection e' with e1 e2;subst e1 e2
 rw [Nat.add_assoc,hc];simp [gdZ]
set_option maxRecDepth 4000 in
theorem qda (S C:Option Addr) (c d:Nat) (x:Ten) (sd frm til:Int) (w:Zp1) (hx:TenIn w S C c d x):
  Calls Tryz.prog 64 #[.agg #[.slice S x.s.length c,.slice C x.c.length d],.int .i64 sd,.int .i64 frm,.int .i64 til] w (GoP (Ly.cut x sd frm til) w):=by
 obtain ⟨i0,hi,H1,HJ,hm⟩:=info_parts qbM;obtain ⟨Hw,hz,HP⟩:=qaU w 30 30 #[.slice S x.s.length c,.slice C x.c.length d] #[.slice none 0 0,.slice none 0 0];have l1:=hx.l1;have l2:=hx.l2;obtain ⟨HC,Hz,Hb,Hx⟩:=zd4 Hw hz HP hx;clear Hw hz HP hx;go_enter Tryz.func64,Tryz.ntmps64;go_wp2_with fail;generalize (w.alloc (.cells #[.slice S x.s.length c,.slice C x.c.length d] 30)).alloc (.cells #[.slice none 0 0,.slice none 0 0] 30)=w1 at *;refine (qa2 S C c d x w1 oZ oZ (Hx.out.later Hb.out).r.1).mono ?_;rintro e w2 ⟨rfl,Hr⟩;have h2:Later w1 w2:=Hr;have h5:=Hb.out.trans h2;have hm:=h2.blk Hz.out;have ho:=h2.blk HC.out;clear Hr Hz Hb HC h2;cases hr:Tn.right x
 ·have HE:=zI (Ly.cut_right (sd:=sd) (frm:=frm) (til:=til) hr)
  clear hr;have c0:=hm.cell 0;have c1:=hm.cell 1;have f0:=hm.frozen 0;have f1:=hm.frozen 1;simp at c0 c1;obtain ⟨hX,Hj,hJ⟩:=zd3 h5 hm ho;clear h5 hm ho;go_wp2_with fail;refine Zk1 (v:=.tuple #[.agg #[.slice none 0 0,.slice none 0 0],.int .i64 20]) (by simp [results,Tryz.results64,go_sem,c0,c1]) rfl ?_;exact GoP.fail HE.out dZ ((hX.out.set (p:=⟨w.heap.size+1,0,none⟩) sZ _).set (p:=⟨w.heap.size+1,1,none⟩) sZ _)
 have x0:=ho.cell 0;simp at x0;obtain ⟨hX,Hj,hJ⟩:=zd3 h5 hm ho;clear h5 hm ho;go_wp2_with fail;clear x0;refine (qcv S c x.s sd frm til w2 oZ (Hx.out.later hX.out).r.1).mono ?_;rintro e w3 ⟨A,ac,rfl,hI,Ha,gk,hf,Hu⟩;have hG:Later w2 w3:=Hu;have hU:=hX.out.trans hG;have hy:=hG.blk Hj.out;have hw:=hG.blk hJ.out;clear Hu Hj hJ
 by_cases hg:(Od.cut x.s sd frm til).2=0
 case neg=>
  have HE:=zI (Ly.cut_err hr hg);have Hg:=zI hg;have d1:((Od.cut x.s sd frm til).2==0)=false:=by simpa using hg
  have d2:((Od.cut x.s sd frm til).2 != 0)=true:=by simpa using hg
  clear hg hr hf;generalize (Od.cut x.s sd frm til).2=ge at *;generalize (Od.cut x.s sd frm til).1=os at *;have c0:=hy.cell 0;have c1:=hy.cell 1;have f0:=hy.frozen 0;have f1:=hy.frozen 1;simp at c0 c1;obtain ⟨h3,h8,hH,HI,H6⟩:=zd5 hU hy hw hI hG;clear hU hy hw hI hG;go_wp2_with fail;refine Zk1 (v:=.tuple #[.agg #[.slice none 0 0,.slice none 0 0],.int .i64 ge]) (by simp [results,Tryz.results64,go_sem,c0,c1]) rfl ?_;exact GoP.fail HE.out Hg.out ((h3.out.set (p:=⟨w.heap.size+1,0,none⟩) sZ _).set (p:=⟨w.heap.size+1,1,none⟩) sZ _)
 have HE:=zI (Ly.cut_ok hr hg);obtain ⟨k,S',f,t,inner,pre,rfl,rfl,rfl,hk,hS,gi,gl,gH,gq,hQ,HB,He,Hm,h4,gv,gC,Hq⟩:=Ly.cut_facts hr hg;rw [hg];rw [HB] at hI Ha HE ⊢;have HY:(x.s.set k ((t-f:Nat):Int)).length=x.s.length:=List.length_set;rw [tnZ,tnZ,tnZ] at HE;have HA:Ly.side x.s k=S':=by show (x.s.getD k 0).toNat=S';rw [hS];exact tnZ _
 have hZ:Ly.span ((x.s.set k ((t-f:Nat):Int)).drop (k+1))=inner:=by unfold Ly.span;rw [He];exact tnZ _
 rw [HA,hZ] at HE;obtain ⟨bs,os',rfl,-,y00⟩:=(Hx.out.later hU).r.1 k hk;have y0:w3.cell? ⟨bs,os'+k,none⟩=some (.int .i64 S'):=by rw [y00,hS]
 clear y00;generalize x.s.set k ((t-f:Nat):Int)=os at *;obtain ⟨row,hrow⟩:∃row,row=S'*inner:=⟨_,rfl⟩
 obtain ⟨a,ha⟩:∃a,a=f*inner:=⟨_,rfl⟩
 obtain ⟨b,hb⟩:∃b,b=t * inner:=⟨_,rfl⟩
 have he:(t-f)*inner=b-a:=by rw [ha,hb,Nat.sub_mul]
 have gM:a<b:=by rw [ha,hb];exact Nat.mul_lt_mul_of_pos_right gi gq
 have gy:b<=row:=by rw [hb,hrow];exact mlZ _ gl
 have hA:1<=row:=by omega
 rw [he,←hrow,←ha] at HE;rw [←hrow] at h4;rw [he] at Hm;have hW:x.c.length / row=pre:=by rw [h4];exact Nat.mul_div_cancel _ hA
 rw [hW] at HE
 have hM:pre*(b-a)<=65536:=by
  have:pre*(b-a)<=pre*row:=Nat.mul_le_mul_left _ oZ;omega
 have Ho:row<=65536:=by
  have:1*row<=pre*row:=mlZ _ hQ;omega
 have e1:(S':Int)*(inner:Int)=(row:Int):=by rw [hrow];simp
 have e2:(f:Int)*(inner:Int)=(a:Int):=by rw [ha];simp
 have e3:(t:Int)*(inner:Int)=(b:Int):=by rw [hb];simp
 have gf:inner<=65536:=by
  have:1*inner<=S'*inner:=mlZ _ oZ;omega
 have HN:pre<=65536:=by
  have:pre*1<=pre*row:=Nat.mul_le_mul_left _ hA;omega
 have HR:=hI;obtain ⟨ba,oa,rfl,gA,-⟩:=HR 0 oZ;have gE:os.length<=4:=by omega
 have hB:=hI.drop_ (k+1);have HH:(os.drop (k+1)).length=os.length-(k+1):=Zq;have hO:ac=k+1->os.drop (k+1)=[]:=λh=>List.drop_eq_nil_of_le (h▸Ha)
 have HZ:∀z∈os.drop (k+1),1<=z/\z<=1024:=λz hz=>Hq z (Zp hz)
 have gb:=hf;obtain ⟨E1,E2,E3,Hi,HX,Hn,HD,Hd,H4⟩:=zd9 e1 e2 e3 He Hm h4 HY HH y0;obtain ⟨hT,HS,H8,Hf,HO⟩:=zd5 hO HZ Hq hf he;clear gb hf HB HA hZ hrow ha hb he hW e1 e2 e3 He Hm h4 HY HH y0 hO HZ Hq hS hr hg;obtain ⟨h3,h8,hH,HI,H6,hD⟩:=zd6 hU hy hw hI hG hB;clear hU hy hw hI hG hB;go_upto_region 6 with fail
 go_cut [12] (λv wx=>w3=wx/\v=.int .i64 (inner:Int))
 case first=>
  have q1:(k:Int)+1<=(os.length:Int):=by have:=HD.out;omega
  have q2:(os.length:Int)<=(ac:Int):=by omega
  have Hp:Safe.prod (os.drop (k+1))<=65536:=by rw [Hi.out];omega
  by_cases H0:ac=k+1
  ·subst H0
   have hn:=hT.out rfl;have Ht:Safe.prod []=(inner:Int):=by rw [←hn];exact Hi.out
   have hd:=λ(B:Option Addr) (cc:Nat)=>qbI B cc [] w3 sZ Ints.nil sZ dZ
   rw [Ht] at hd;have hh:∀(B:Option Addr) (cc:Nat),Calls Tryz.prog 118 #[.slice B 0 cc] w3 λe w'=>e=.returned (.int .i64 inner)/\w3=w':=hd
   have hK:=zI hh;clear hn Hp Ht hd hh;go_wp2_with fail
   with_reducible refine (hK.out _ _).mono ?_
   rintro e wz ⟨rfl,rfl⟩;go_wp2_with fail
   go_meet
   exact ⟨rfl,rfl⟩
  ·have q3:k+1<ac:=by have:=HD.out;omega
   have hd:=qbI (some ⟨ba,oa+(k+1),none⟩) (ac-(k+1)) (os.drop (k+1)) w3 (by rw [Hd.out];omega) hD.out HS.out Hp;rw [Hd.out,Hi.out] at hd;clear Hp H0;have hV:=zI hd;clear hd;go_wp2_with fail
   with_reducible refine (hV.out).mono ?_
   rintro e wz ⟨rfl,rfl⟩;go_wp2_with fail
   go_meet
   exact ⟨rfl,rfl⟩
 case rest=>
  obtain ⟨rfl,rfl⟩:=hcut;clear hD hT HS Hd;have b0:w3.cell? ⟨w.heap.size,0,none⟩=some (.slice (some ⟨bs,os',none⟩) x.s.length c):=by rw [hH.out.cell];rfl
  have y0:=H4.out;have e1:=E1.out;have k1:(k:Int)<(x.s.length:Int):=by omega
  have k2:(row:Int)<=65536:=by omega
  go_upto_region 8 with fail;clear b0 y0 e1 k1 k2;have Hh:=qbI (some ⟨ba,oa,none⟩) ac os w3 oZ HI.out H8.out (by rw [HX.out];omega);rw [HX.out] at Hh;have HW:=zI Hh;clear Hh;obtain ⟨M,hMe⟩:∃M,M=pre*(b-a):=⟨_,rfl⟩
  rw [←hMe] at hM;rw [←hMe] at HW;have HM:=zI hMe;clear hMe;have gJ:w.heap.size+1<w3.heap.size:=h8.out.lt;have Hk:w.heap.size<=w3.heap.size:=by omega
  go_wp2_with fail
  with_reducible refine (HW.out).mono ?_
  rintro e wz ⟨rfl,rfl⟩;go_wp2_with (at_make;refine wpList_make_own _ rfl _ _ 28 rfl w3.heap.size 22 i0 (.int .i64 0) 1 Tryz.underlying28 hi H1 HJ _ _ _ M rfl rfl rfl ?b2 ?b3 ?b4 ?_)
  case b2=>rw [hm];omega
  case b3=>unfold maxLen;omega
  case b4=>exact lrZ _
  intro w4 hown hgrow;have HK:Later w3 w4:=(Later.refl w3).grown hgrow (lrZ _) sZ
  have hF:∀i,i<pre->i*row+a+(b-a)<=x.c.length:=λi hi=>by
   have h9:(i+1)*row<=pre*row:=mlZ _ hi;rw [Zu] at h9;have:=Hn.out;omega
  have hE:=zI hF;have hC:w4.ownsRow w3.heap.size 22 1 (.slice (some ⟨w3.heap.size,0,none⟩) 0 M) 0 ((Ly.cutRows x.c row a (b-a) 0).map (Za1 .i64)):=by simpa [Ly.cutRows] using hown
  have gL:=Hx.out.c1;have gt:=Hx.out.c2;clear hown hgrow hF;obtain ⟨H5,hR⟩:=zd2 HK hC;clear HK hC;go_wp2_with fail
  go_loopw [14,15] (λv st wr=>∃i:Nat,i<=pre/\st=.int .i64 ((i*row:Nat):Int)/\wr.ownsRow w3.heap.size 22 1 v (i*(b-a)) ((Ly.cutRows x.c row a (b-a) i).map (Za1 .i64))/\Later w3 wr) (λ_ st _=>x.c.length-(intOf st).toNat)
  case atStart=>exact ⟨0,Zt _,by rw [Nat.zero_mul];rfl,by rw [Nat.zero_mul];exact hR.out,H5.out⟩
  case round=>
   obtain ⟨i,gd,rfl,hown,ht⟩:=hrel;obtain ⟨Ao,co,rfl⟩:=qak hown;have x0:wr.cell? ⟨w.heap.size,1,none⟩=some (.slice C x.c.length d):=ht.cell (by rw [hH.out.cell];rfl);have h9:i*row<=pre*row:=mlZ _ gd;rw [←Hn.out] at h9
   by_cases h6:i<pre
   ·have gw:=hE.out i h6
    have hl:=Ly.rows_succ x.c row a (b-a) i
    have gm:i*(b-a)+(b-a)<=M:=by
     have h7:(i+1)*(b-a)<=pre*(b-a):=mlZ _ h6;rw [Zu] at h7;rw [HM.out];exact h7
    obtain ⟨p,hp⟩:∃p,p=i*row:=⟨_,rfl⟩
    obtain ⟨nn,hnn⟩:∃nn,nn=i*(b-a):=⟨_,rfl⟩
    rw [←hp] at gw hl h9 ⊢;rw [←hnn] at hown gm ⊢;have Hc:((x.c.drop (p+a)).take (b-a)).length=b-a:=by rw [Zo,Zq];omega
    obtain ⟨bc,oc,rfl,gK,-⟩:=Hx.out.cell (k:=0) oZ
    have HG:Ints .i64 wr (some ⟨bc,oc+(p+a),none⟩) ((x.c.drop (p+a)).take (b-a)):=Ints.of_row λj hj=>by
     rw [Hc] at hj;obtain ⟨b',o',e',-,hc⟩:=(Hx.out.later (h3.out.trans ht)).r.2 (p+a+j) oZ;injection e' with e';injection e' with e1 e2;subst e1 e2
     rw [Nat.add_assoc,hc];simp only [gdZ];rw [List.getElem?_take,ipZ hj,List.getElem?_drop]
    have HV:(i+1)*row=p+row:=by rw [hp,Zu]
    have HU:(i+1)*(b-a)=nn+(b-a):=by rw [hnn,Zu]
    generalize (x.c.drop (p+a)).take (b-a)=nw at *;obtain ⟨gp,H9,hP,gu,gF,hN,go,gg⟩:=zd8 HV HU hl Hc hnn hown ht HG;have HT:=λb (hb:(Zb1 Ao nn co).ownBlock=some b)=>(hown.lt b hb).1
    have gr:=zI HT;have H3:w3.heap.size<=wr.heap.size:=ht.size;have e2:=E2.out;have e3:=E3.out;have k1:(p:Int)+(b:Int)<=(d:Int):=by omega
    have k2:(p:Int)+(b:Int)<=65536:=by omega
    have k3:(a:Int)<(b:Int):=by omega
    have k4:(p:Int)<(x.c.length:Int):=by omega
    have k5:(p:Int)+(row:Int)<=131072:=by omega
    clear HV HU hl Hc hown ht HG hp hnn HT h9;go_wp2_with (at_builtin;refine wpList_append_own_at _ rfl _ _ 28 rfl w3.heap.size 22 i0 (.int .i64 0) 1 8 Tryz.underlying28 hi H1 HJ hm rfl dZ _ _ _ rfl hN.out ⟨bc,oc+(p+a),none⟩ _ _ (nw.map (Za1 .i64)) rfl ?c0 ?c1 ?c2 ?c3 ?c4 ?c5 ?_)
    case c0=>rw [List.length_map,gu.out];omega
    case c1=>
     intro j u hj;rw [List.getElem?_map] at hj;cases hq:nw[j]? with
     | none=>rw [hq] at hj;simp at hj
     | some z=>
      rw [hq] at hj;simp at hj;subst hj;obtain ⟨HQ,hz⟩:=List.getElem?_eq_some_iff.1 hq;obtain ⟨b',o',e',-,hc⟩:=gg.out j HQ;injection e' with e';injection e' with e1 e2;subst e1 e2
      rw [qaX HQ,hz] at hc
      by_cases Hy:j=0
      ·subst Hy;simpa [Addr.add] using hc
      ·simpa [Addr.add,Hy] using hc
    case c2=>intro u hu;obtain ⟨z,_,rfl⟩:=List.mem_map.1 hu;rfl
    case c3=>unfold maxLen;omega
    case c4=>omega
    case c5=>exact H3
    intro v' w5 hs hgrow _ gh;have H2:Later w3 w5:=go.out.grown hgrow H3 (λb hb=>gr.out b hb);have HL:nn+(p+b-(p+a))=nn+(b-a):=by omega
    rw [HL,←List.map_append,←hP.out] at hs;have gx:=zI hs;have gc:=zI H2;clear hs hgrow gh H2 HL;go_wp2_with fail;go_roundw
    case rel=>exact ⟨i+1,h6,by rw [gp.out];go_num,by rw [H9.out];exact gx.out,gc.out⟩
    case measure=>simp [intOf];omega
   ·obtain rfl:i=pre:=by omega
    have Hl:i*row=x.c.length:=Hn.out.symm;have h0:=Ly.rows_len hE.out;have HF:=Ly.rows_in (row:=row) (a:=a) (n:=b-a) (k:=i) Hx.out.num;rw [←h0] at hown ⊢
    have hY:0<(Ly.cutRows x.c row a (b-a) i).length:=by
     rw [h0];exact Nat.mul_pos hQ oZ
    have gN:(Ly.cutRows x.c row a (b-a) i).length<=65536:=by rw [h0,←HM.out];exact hM
    obtain ⟨C2,d2,hv,Hv⟩:=TenO.of_row (qdh hown Hk) (HI.out.below ht (lrZ _)) Ha gk (λa e=>Zv hX.out.size (Hf.out a e)) oZ oZ hY HF;injection hv with e1 e2 e3
    subst e1 e3;have hL:=ht.blk h8.out;have Hs:=h3.out.trans ht;generalize Ly.cutRows x.c row a (b-a) i=L at *;generalize hLl:L.length=ll at *;have c0:=hL.cell 0;have c1:=hL.cell 1;have f0:=hL.frozen 0;have f1:=hL.frozen 1;simp at c0 c1;have h1:=(hL.set_ 0 (.slice (some ⟨ba,oa,none⟩) os.length ac)).set_ 1 (.slice Ao ll co);have d0:=h1.cell 0;have d1:=h1.cell 1;simp at d0 d1;obtain ⟨gI,gD⟩:=zd2 Hl hLl;rw [Hl];clear Hl h0 HF hY hLl HR;obtain ⟨hN,gB,gn,gj,H7,gG⟩:=zd6 hown ht Hv hL Hs h1;clear hown ht Hv hL Hs h1;go_wp2_with fail;refine Zk1 (v:=.tuple #[.agg #[.slice (some ⟨ba,oa,none⟩) os.length ac,.slice Ao ll co],.int .i64 0]) (by simp [results,Tryz.results64,go_sem,d0,d1]) rfl ?_;exact GoP.ok HE.out (TenO.box gn.out gj.out) ((H7.out.set (p:=⟨w.heap.size+1,0,none⟩) sZ _).set (p:=⟨w.heap.size+1,1,none⟩) sZ _)
theorem move_cut (S C:Option Addr) (c d:Nat) (x:Ten) (sd frm til:Int) (w:Zp1) (hx:TenIn w S C c d x):
  Calls Tryz.prog 99 #[.agg #[.slice S x.s.length c,.slice C x.c.length d],.int .i64 sd,.int .i64 frm,.int .i64 til] w (GoP (Ly.cut x sd frm til) w):=by
 obtain ⟨hp,hz,hn⟩:=qaU w 30 30 #[.slice S x.s.length c,.slice C x.c.length d] #[.slice none 0 0,.slice none 0 0];obtain ⟨hD,Hz,hj,Hx⟩:=zd4 hp hz hn hx;clear hp hz hn hx;go_enter Tryz.func99,Tryz.ntmps99;go_wp2_with fail;generalize (w.alloc (.cells #[.slice S x.s.length c,.slice C x.c.length d] 30)).alloc (.cells #[.slice none 0 0,.slice none 0 0] 30)=w1 at *;refine (qda S C c d x sd frm til w1 (Hx.out.later hj.out)).mono ?_;rintro e wf hg;have hc:Later w1 wf:=hg.2;have ha:=hc.blk Hz.out;have hf:=hj.out.trans hc;have f0:=ha.frozen 0;have f1:=ha.frozen 1;have hh:w.heap.size<=w.heap.size+1:=by first|exact lrZ _|simp|omega
 rcases hg.1 with ⟨hk,rfl⟩|⟨ho,v,rfl,hb⟩
 ·have c0:=ha.cell 0
  have c1:=ha.cell 1;simp at c0 c1;have hd:=hk;generalize hge:(Ly.cut x sd frm til).2=ge at *;obtain ⟨hw,hs⟩:=zd2 hge hd;clear hd;clear hg hk hc hge;obtain ⟨hr,hi⟩:=zd2 ha hf;clear ha hf;go_wp2_with fail;refine Zk1 (v:=.tuple #[.agg #[.slice none 0 0,.slice none 0 0],.int .i64 ge]) (by simp [results,Tryz.results99,go_sem,c0,c1]) rfl ?_;exact GoP.fail2 hw.out hs.out ((hi.out.set (p:=⟨w.heap.size+1,0,none⟩) hh _).set (p:=⟨w.heap.size+1,1,none⟩) hh _)
 ·have hv:=hb.base (hj.out.size)
  clear hg hb;obtain ⟨S2,c2,C2,d2,rfl,hl,hq,hm⟩:=hv;have he:=(ha.set_ 0 (.slice S2 (Ly.cut x sd frm til).1.s.length c2)).set_ 1 (.slice C2 (Ly.cut x sd frm til).1.c.length d2);have d0:=he.cell 0;have d1:=he.cell 1;simp at d0 d1;have c0:=ha.cell 0;have c1:=ha.cell 1;simp at c0 c1;obtain ⟨hy,hC,hr,hi,hB,ht,hu,hA⟩:=zd8 ho he ha hf hc hl hq hm;clear he ha hf hc hl hq hm ho;go_wp2_with fail;refine Zk1 (v:=.tuple #[.agg #[.slice S2 (Ly.cut x sd frm til).1.s.length c2,.slice C2 (Ly.cut x sd frm til).1.c.length d2],.int .i64 0]) (by simp [results,Tryz.results99,go_sem,d0,d1]) rfl ?_;exact ⟨.inr ⟨hy.out,_,rfl,TenO.box ⟨S2,c2,C2,d2,rfl,ht.out,hu.out,hA.out⟩ hr.out⟩,(hi.out.set (p:=⟨w.heap.size+1,0,none⟩) hh _).set (p:=⟨w.heap.size+1,1,none⟩) hh _⟩
namespace Ly
theorem joined_nil (sd:Int):joined sd []=([],20):=rfl
theorem joined_cons (sd:Int) {x:List Ten} (h:0<x.length):joined sd x=if Tn.right (got x 0) then (if (x.drop 1).length=0/\(sd<0∨((got x 0).s.length:Int)<=sd) then ([],11) else joinedS sd (got x 0).s (x.drop 1)) else ([],20):=by
 match x,h with
 | t::r,_=>rfl
theorem joinedS_succ (sd:Int) (s:List Int) {x:List Ten} {j:Nat} (h:j<x.length):joinedS sd s (x.drop j)=if Tn.right (got x j) then (if (Od.join s (got x j).s sd).2=0 then joinedS sd (Od.join s (got x j).s sd).1 (x.drop (j+1)) else ([],(Od.join s (got x j).s sd).2)) else ([],20):=by
 rw [Zd h,qan h]
 rfl
theorem joinedS_end (sd:Int) (s:List Int) {x:List Ten} {j:Nat} (h:x.length<=j):joinedS sd s (x.drop j)=(s,0):=by rw [List.drop_eq_nil_of_le h];rfl
end Ly
theorem qcH (sd:Int) (A:Option Addr) (f:Nat) (x:List Ten) (w:Zp1) (hl:x.length<=1048576) (hf:x.length<=f) (hf2:f<=9223372036854775807) (hT:Tns w A x):
  Calls Tryz.prog 63 #[.int .i64 sd,.slice A x.length f] w (ShPost (Ly.joined sd x) w):=by
 by_cases h0:x.length=0
 ·obtain rfl:x=[]:=List.eq_nil_of_length_eq_zero h0
  clear hT h0;go_enter Tryz.func63,Tryz.ntmps63;go_wp2_with fail
  go_ret2
  exact ShPost.fail (Ly.joined_nil sd) (Ze1 _ _)
 have he:0<x.length:=by omega
 obtain ⟨b,off,S0,sc0,C0,cd0,rfl,Ho,z0,z1,hC⟩:=hT.first he
 have HJ:=zI (Ly.joined_cons sd he)
 have d1:((x.length:Int)==0)=false:=by
                                                 have h3:(x.length:Int)≠0:=by omega
                                                 simpa using h3
 have k1:(0:Int)<(x.length:Int):=by omega
 have k2:0<x.length:=he;have l1:=hC.l1;have l2:=hC.l2;clear h0;obtain ⟨HT,Hb⟩:=zd2 hT hC;clear hT hC;generalize ht:Ly.got x 0=t at *;have Ht:=zI ht;clear ht;go_enter Tryz.func63,Tryz.ntmps63;go_wp2_with fail;refine (qa2 S0 C0 sc0 cd0 t w oZ oZ Hb.out.r.1).mono ?_;rintro e w1 ⟨rfl,hX⟩;have hm:Later w w1:=hX;have z0:=hm.cell z0;clear hX z1;cases hr:Tn.right t
 ·have HE:=zI (show Ly.joined sd x=([],20) by rw [HJ.out,hr];rfl)
  clear hr;have hn:=zI hm;clear hm;go_wp2_with fail
  go_ret2
  exact ShPost.fail HE.out hn.out
 have Hl:=Ly.right_ok hr;obtain ⟨Hs,-⟩:=Hl;have Hr:=zI hr;clear hr;have hn:=zI hm;clear hm;go_wp2_with fail;refine (qaf S0 sc0 t.s w1 oZ (Hb.out.later hn.out).r.1).mono ?_;rintro e w2 ⟨g,rfl,hg,hY,hP⟩;have hS:Later w1 w2:=hP;have hh:=hn.out.trans hS;have hi:Ints .i64 w2 (some ⟨g,0,none⟩) t.s:=Blk.ints hY;have hU:w.heap.size<=g:=Zv hn.out.size hg;clear hP z0 hY hS
 by_cases h1:x.length=1
 ·by_cases h2:sd<0∨(t.s.length:Int)<=sd
  ·have HE:=zI (show Ly.joined sd x=([],11) by rw [HJ.out,ipZ Hr.out,ipZ ⟨by rw [Zq];omega,h2⟩])
   have e1:((x.length:Int)==1)=true:=by
                                                  have h3:(x.length:Int)=1:=by omega
                                                  simpa using h3
   clear h1 HJ
   by_cases h3:sd<0
   all_goals
    have Hm:=h2;clear h2;have h4:¬sd<0->(t.s.length:Int)<=sd:=λk=>by omega
    have H4:=zI h4;clear h4 Hm
    try (have h5:=H4.out h3)
    obtain ⟨hp,hz⟩:=zd2 hh hi;clear hh hi;go_wp2_with fail
    go_ret2
    exact ShPost.fail HE.out hp.out
  ·have HE:=zI (show Ly.joined sd x=(t.s,0) by rw [HJ.out,ipZ Hr.out,inZ (λk=>h2 k.2)];exact Ly.joinedS_end sd t.s oZ)
   have h3:¬sd<0:=by omega
   have h4:¬(t.s.length:Int)<=sd:=by omega
   have e1:((x.length:Int)==1)=true:=by
                                                  have h3:(x.length:Int)=1:=by omega
                                                  simpa using h3
   have Hq:(x.length:Int)-1=0:=by omega
   have Hp:x.length-1=0:=by omega
   have q1:(1:Int)<=(x.length:Int):=by omega
   have q2:(x.length:Int)<=(f:Int):=by omega
   have q3:(1:Int)<=(f:Int):=by omega
   clear h1 h2 HJ;obtain ⟨hp,hz⟩:=zd2 hh hi;clear hh hi
   by_cases Hf:f=1
   all_goals
    try (subst Hf)
    go_wp2_with fail
    go_loopw [6,42] (λv i wr=>v=.slice (some ⟨g,0,none⟩) t.s.length t.s.length/\i=.int .i64 0/\w2=wr) (λ_ _ _=>0)
    case atStart=>exact ⟨rfl,rfl,rfl⟩
    case round=>
     obtain ⟨rfl,rfl,rfl⟩:=hrel;go_wp2_with fail
     go_ret2
     exact ShPost.mk' HE.out rfl hz.out (lrZ _) oZ (λa e=>by injection e with e;subst e;exact hU) hp.out
 ·have e1:((x.length:Int)==1)=false:=by
                                                  have h3:(x.length:Int)≠1:=by omega
                                                  simpa using h3
  have HE:=zI (show Ly.joined sd x=Ly.joinedS sd t.s (x.drop 1) by rw [HJ.out,ipZ Hr.out,inZ (λk=>by have:=k.1;rw [Zq] at this;omega)]);have q1:(1:Int)<=(x.length:Int):=by omega
  have q2:(x.length:Int)<=(f:Int):=by omega
  have q4:(1:Int)<(f:Int):=by omega
  have q5:1<f:=by omega
  have h6:Sh.right t.s=true:=by have:=Hr.out;simp only [Tn.right,Zz] at this;exact this.1
  have Hd:=zI h6;clear h1 HJ h6;obtain ⟨hp,hz⟩:=zd2 hh hi;clear hh hi;go_wp2_with fail
  go_loopw [6,42] (λv i wr=>∃(j:Nat) (B:Option Addr) (bc:Nat) (s:List Int),j+1<=x.length/\i=.int .i64 (j:Int)/\v=.slice B s.length bc/\Ints .i64 wr B s/\s.length<=bc/\bc<=9223372036854775807/\(∀a,B=some a->w.heap.size<=a.block)/\Sh.right s=true/\Ly.joined sd x=Ly.joinedS sd s (x.drop (j+1))/\Later w wr) (λ_ i _=>x.length-1-(intOf i).toNat)
  case atStart=>exact ⟨0,_,_,t.s,by omega,rfl,rfl,hz.out,lrZ _,by omega,(λa e=>by injection e with e;subst e;exact hU),Hd.out,HE.out,hp.out⟩
  case round=>
   obtain ⟨j,B,bc,s,hj,rfl,rfl,hI,Hh,hG,hB,hq,hA,hk⟩:=hrel;have Hc:=(Sh.right_mul hq).2.1
   by_cases hQ:j+1<x.length
   ·obtain ⟨b',off',S,sc,C,cd,e',-,y0,y1,hw⟩:=(HT.out.later hk).at_ hQ
    injection e' with e';injection e' with e1 e2;subst e1 e2
    have ha:=Ly.joinedS_succ sd s hQ;rw [show off+(j+1)*2=off+2+j*2 by omega] at y0 y1;have m1:=hw.l1;have m2:=hw.l2;have Hi:(j:Int)<(x.length:Int)-1:=by omega
    have h9:Later wr (wr.alloc (.cells #[.slice S (Ly.got x (j+1)).s.length sc,.slice C (Ly.got x (j+1)).c.length cd] 30)):=(Later.refl wr).alloc _;have hZ:=Blk.new wr 30 #[.slice S (Ly.got x (j+1)).s.length sc,.slice C (Ly.got x (j+1)).c.length cd];have ha:=hA.trans ha;clear hA;generalize Ly.got x (j+1)=u at *;obtain ⟨HI,HB,Hg,hM,hc,h7,hN,h8⟩:=zd8 hI hB hq hk ha hw h9 hZ;clear hI hB hq hk ha hw h9 hZ;go_wp2_with fail;clear y0 y1;generalize wr.alloc (.cells #[.slice S u.s.length sc,.slice C u.c.length cd] 30)=w3 at *;generalize wr.heap.size=pb at *;refine (qa2 S C sc cd u w3 oZ oZ (h7.out.later hN.out).r.1).mono ?_;rintro e w4 ⟨rfl,Ha⟩;have hy:Later w3 w4:=Ha;have hb:=hy.blk h8.out;have hv:=(hM.out.trans hN.out).trans hy;have hu:=hN.out.trans hy;have c0:=hb.cell 0;simp at c0;clear Ha hy h8;cases hru:Tn.right u
    ·have HN:=zI (show Ly.joined sd x=([],20) by rw [hc.out,hru];rfl)
     clear hru;obtain ⟨hx,hL,hO⟩:=zd3 hv hu hb;clear hv hu hb;go_wp2_with fail
     go_ret2
     exact ShPost.fail HN.out hx.out
    ·have hV:=zI hru
     clear hru;obtain ⟨hx,hL,hO⟩:=zd3 hv hu hb;clear hv hu hb;go_wp2_with fail;refine (qcY B S bc sc s u.s sd w4 oZ oZ (HI.out.below hL.out (lrZ _)) (h7.out.later hL.out).r.1).mono ?_;rintro e w5 ⟨B',bc',rfl,hD,hE,hH,hJ,hW⟩;have ho:Later w4 w5:=hW;have hs:=hx.out.trans ho;have hF:=hx.out.size;clear hW
     by_cases hd:(Od.join s u.s sd).2=0
     ·have HN:=zI (show Ly.joined sd x=Ly.joinedS sd (Od.join s u.s sd).1 (x.drop (j+1+1)) by rw [hc.out,ipZ hV.out,ipZ hd])
      have hR:=Od.join_right hd;have He:=zI hR;rw [hd];clear hd hR;generalize (Od.join s u.s sd).1=s' at *;have Hn:=zI hD;have Hj:=zI hJ;obtain ⟨Hk,hK⟩:=zd2 ho hs;clear ho hs;clear hD hJ;go_wp2_with fail;go_roundw
      case rel=>exact ⟨j+1,B',bc',s',by omega,by go_num,rfl,Hn.out,hE,hH,(λa e=>Zv hF (Hj.out a e)),He.out,HN.out,hK.out⟩
      case measure=>simp [intOf];omega
     ·have HN:=zI (show Ly.joined sd x=([],(Od.join s u.s sd).2) by rw [hc.out,ipZ hV.out,inZ hd])
      have e1:((Od.join s u.s sd).2==0)=false:=by simpa using hd
      have e2:((Od.join s u.s sd).2 != 0)=true:=by simpa using hd
      clear hd hJ hD;generalize (Od.join s u.s sd).2=er at *;generalize (Od.join s u.s sd).1.length=sl at *;obtain ⟨Hk,hK⟩:=zd2 ho hs;clear ho hs;go_wp2_with fail
      go_ret2
      exact ShPost.fail HN.out hK.out
   ·have HN:=zI (hA.trans (Ly.joinedS_end sd s (show x.length<=j+1 by omega)))
    have Hi:¬(j:Int)<(x.length:Int)-1:=by omega
    clear hA;obtain ⟨HI,HB,Hg,hM⟩:=zd4 hI hB hq hk;clear hI hB hq hk;go_wp2_with fail
    go_ret2
    exact ShPost.mk' HN.out rfl HI.out Hh hG HB.out hM.out
namespace Ly
theorem qfj {s t:List Int} {sd:Int} (h:(Od.join s t sd).2=0):
  ∃k:Nat,sd=(k:Int)/\k<s.length/\t.length=s.length/\(∀i,i≠k->t.getD i 0=s.getD i 0)/\(Od.join s t sd).1=s.set k (s.getD k 0+t.getD k 0)/\Sh.right s=true/\Sh.right t=true/\Sh.right (Od.join s t sd).1=true:=by
 have hj:=Od.join_right h;unfold Od.join at h hj ⊢
 split at h
 ·rename_i h1
  rw [ipZ h1] at hj ⊢;simp only [Zz,decide_eq_true_eq] at h1
  split at h
  ·rename_i h2
   rw [ipZ h2] at hj ⊢;simp only [Od.inR,decide_eq_true_eq] at h2
   split at h
   ·rename_i h3
    rw [ipZ h3] at hj ⊢;simp only [Zz] at h3;obtain ⟨k,rfl⟩:=ezZ h2.1;refine ⟨k,rfl,by omega,h1.2.symm,λi hi=>?_,?_,h1.1.1,h1.1.2,hj⟩
    ·by_cases ha:i<s.length
     ·have:=List.all_eq_true.1 h3.1 i (List.mem_range.2 ha)
      simp only [Bool.or_eq_true,decide_eq_true_eq] at this;rcases this with h4|h4
      ·omega
      ·exact h4.symm
     ·rw [gdZ,gdZ,Zi oZ,Zi oZ]
    ·unfold Od.joinL Od.at_
     rw [tnZ]
   ·simp at h
  ·simp at h
 ·simp at h
structure Near (k:Nat) (s t:List Int):Prop where
 len:t.length=s.length
 same:∀i,i≠k->t.getD i 0=s.getD i 0
theorem Near.take {k:Nat} {s t:List Int} (h:Near k s t):t.take k=s.take k:=by
 apply List.ext_getElem?;intro i;rw [List.getElem?_take,List.getElem?_take]
 split
 ·rename_i hi
  have h1:=h.same i oZ;simp only [gdZ] at h1
  by_cases hl:i<s.length
  ·rw [geZ hl,geZ (by have:=h.len;omega)] at h1 ⊢
   simpa using h1
  ·rw [Zi (by have:=h.len;omega),Zi oZ]
 ·rfl
theorem Near.drop {k:Nat} {s t:List Int} (h:Near k s t):t.drop (k+1)=s.drop (k+1):=by
 apply List.ext_getElem?;intro i;rw [List.getElem?_drop,List.getElem?_drop];have h1:=h.same (k+1+i) oZ;simp only [gdZ] at h1
 by_cases hl:k+1+i<s.length
 ·rw [geZ hl,geZ (by have:=h.len;omega)] at h1 ⊢
  simpa using h1
 ·rw [Zi (by have:=h.len;omega),Zi oZ]
theorem Near.set {k:Nat} {s t:List Int} {v:Int} (h:Near k (s.set k v) t):Near k s t:=by
 refine ⟨by rw [h.len,List.length_set],λi hi=>?_⟩;rw [h.same i hi,gdZ,gdZ,Zs (Ne.symm hi)]
def sumAt (k:Nat) (l:List Ten):Int:=l.foldr (λt z=>t.s.getD k 0+z) 0
theorem qbT {sd:Int}:∀ {r:List Ten} {s:List Int},Sh.right s=true->(joinedS sd s r).2=0->r≠[]->∃k:Nat,sd=(k:Int)/\k<s.length/\(∀t∈r,Tn.right t=true/\Near k s t.s)/\(joinedS sd s r).1=s.set k (s.getD k 0+sumAt k r)/\Sh.right (joinedS sd s r).1=true
 | [],s,_,_,h=>absurd rfl h
 | t::r,s,hs,h,_=>by
  unfold joinedS at h ⊢
  by_cases ht:Tn.right t=true
  case neg=>rw [inZ ht] at h;simp at h
  rw [ipZ ht] at h ⊢
  by_cases hj:(Od.join s t.s sd).2=0
  case neg=>rw [inZ hj] at h;exact absurd h hj
  rw [ipZ hj] at h ⊢;obtain ⟨k,rfl,hk,hl,hd,hr,h1,h2,h3⟩:=qfj hj;have hn:Near k s t.s:=⟨hl,hd⟩
  by_cases he:r=[]
  ·subst he
   refine ⟨k,rfl,hk,?_,?_,?_⟩
   ·intro u hu
    rw [List.mem_singleton] at hu;subst hu;exact ⟨ht,hn⟩
   ·show (Od.join s t.s k).1=_
    rw [hr];simp [sumAt]
   ·exact h3
  ·obtain ⟨k',hg,hf,hb,hc,ha⟩:=qbT h3 h he
   have:k'=k:=by omega
   subst this;rw [hr] at hb hc hf;refine ⟨k',rfl,hk,?_,?_,ha⟩
   ·intro u hu
    rcases List.mem_cons.1 hu with rfl|hu
    ·exact ⟨ht,hn⟩
    ·exact ⟨(hb u hu).1,(hb u hu).2.set⟩
   ·rw [hr,hc,List.set_set]
    congr 1
    have:(s.set k' (s.getD k' 0+t.s.getD k' 0)).getD k' 0=s.getD k' 0+t.s.getD k' 0:=by
     rw [gdZ,Zr hk];rfl
    rw [this];simp only [sumAt,List.foldr_cons];omega
theorem joined_facts {sd:Int} {x:List Ten} (h:(joined sd x).2=0):
  ∃k:Nat,sd=(k:Int)/\0<x.length/\k<(joined sd x).1.length/\(∀t∈x,Tn.right t=true/\Near k (joined sd x).1 t.s)/\Sh.right (joined sd x).1=true/\(joined sd x).1.getD k 0=sumAt k x:=by
 match x,h with
 | [],h=>simp [joined] at h
 | t::r,h=>
  unfold joined at h ⊢;simp only at h ⊢
  by_cases ht:Tn.right t=true
  case neg=>rw [inZ ht] at h;simp at h
  rw [ipZ ht] at h ⊢;have hg:Sh.right t.s=true:=by simp only [Tn.right,Zz] at ht;exact ht.1
  by_cases hc:r.length=0/\(sd<0∨(t.s.length:Int)<=sd)
  case pos=>rw [ipZ hc] at h;simp at h
  rw [inZ hc] at h ⊢
  by_cases he:r=[]
  ·subst he
   have h3:¬(sd<0∨(t.s.length:Int)<=sd):=λk=>hc ⟨rfl,k⟩
   obtain ⟨k,rfl⟩:=ezZ (show 0<=sd by omega);refine ⟨k,rfl,by simp,by show k<t.s.length;omega,?_,hg,by simp [sumAt,joinedS]⟩;intro u hu;rw [List.mem_singleton] at hu;subst hu;exact ⟨ht,rfl,λ_ _=>rfl⟩
  ·obtain ⟨k,rfl,hk,hf,ha,hb⟩:=qbT hg h he
   have hd:∀ {u:List Int},Near k t.s u->Near k ((joinedS (k:Int) t.s r).1) u:=fun {u} hn=>by
    rw [ha];refine ⟨by rw [hn.len,List.length_set],λi hi=>?_⟩;rw [hn.same i hi,gdZ,gdZ,Zs (Ne.symm hi)]
   refine ⟨k,rfl,by simp,by rw [ha,List.length_set];exact hk,?_,hb,?_⟩
   ·intro u hu
    rcases List.mem_cons.1 hu with rfl|hu
    ·exact ⟨ht,hd ⟨rfl,λ_ _=>rfl⟩⟩
    ·exact ⟨(hf u hu).1,hd (hf u hu).2⟩
   ·rw [ha,gdZ,Zr hk]
    simp [sumAt]
theorem qcI {sd:Int} {x:List Ten} (h:(joined sd x).2=0):
  ∃k rows inner:Nat,sd=(k:Int)/\0<x.length/\k<(joined sd x).1.length/\Sh.right (joined sd x).1=true/\span ((joined sd x).1.take k)=rows/\Safe.prod ((joined sd x).1.take k)=(rows:Int)/\1<=rows/\1<=inner/\rows<=65536/\
   (∀t∈x,Tn.right t=true/\∃m:Nat,t.s.getD k 0=(m:Int)/\t.c.length=rows*(m*inner))/\Safe.prod (joined sd x).1=(rows:Int)*(sumAt k x*(inner:Int)):=by
 obtain ⟨k,hq,hg,hk,hh,hr,hf⟩:=joined_facts h;generalize (joined sd x).1=s at *;obtain ⟨_,l4,l1,hb,hx,hw⟩:=Sh.right_mul hr
 have ha:∀u:List Int,k<u.length->Safe.prod u=Safe.prod (u.take k)*(u.getD k 0*Safe.prod (u.drop (k+1))):=λu hu=>by
  have e:u=u.take k++(u[k]::u.drop (k+1)):=by rw [←Zd hu,Zn]
  have e2:u.getD k 0=u[k]:=qaX hu;have e3:Safe.prod u=Safe.prod (u.take k++(u[k]::u.drop (k+1))):=congrArg Safe.prod e;rw [e3,prod_append,e2];rfl
 have hp:1<=Safe.prod (s.take k):=Safe.prod_pos _ (λz hz=>(hb z (Zh hz)).1);have hv:1<=Safe.prod (s.drop (k+1)):=Safe.prod_pos _ (λz hz=>(hb z (Zp hz)).1);have hs:=Safe.prod_take_le s k (λz hz=>(hb z hz).1);obtain ⟨rows,he⟩:=ezZ (show 0<=Safe.prod (s.take k) by omega);obtain ⟨inner,hj⟩:=ezZ (show 0<=Safe.prod (s.drop (k+1)) by omega);refine ⟨k,rows,inner,hq,hg,hk,hr,by unfold span;rw [he];exact tnZ _,he,by omega,by omega,by omega,λt ht=>?_,by rw [ha s hk,he,hj,hf]⟩;obtain ⟨hl,hn⟩:=hh t ht;refine ⟨hl,?_⟩;have hc:=hl;simp only [Tn.right,Zz,decide_eq_true_eq] at hc;obtain ⟨_,_,_,ho,_,_⟩:=Sh.right_mul hc.1;have hd:k<t.s.length:=by rw [hn.len];exact hk
 have hm:=ho _ (gmZ hd);obtain ⟨m,hi⟩:=ezZ (show 0<=t.s[k] by omega);refine ⟨m,by rw [qaX hd];exact hi,?_⟩;have h5:=hc.2;rw [ha t.s hd,hn.take,hn.drop,he,hj,qaX hd,hi,←Int.natCast_mul,←Int.natCast_mul] at h5;exact Int.ofNat.inj h5
end Ly
namespace Ly
theorem join_err {sd:Int} {x:List Ten} (h:(joined sd x).2≠0):join sd x=(none_,(joined sd x).2):=by unfold join;rw [inZ h]
theorem join_ok {sd:Int} {x:List Ten} (h:(joined sd x).2=0):join sd x=(⟨(joined sd x).1,joinC (span ((joined sd x).1.take sd.toNat)) x (span ((joined sd x).1.take sd.toNat))⟩,0):=by unfold join;rw [ipZ h]
def wsum (rows:Nat):List Ten->Nat
 | []=>0
 | t::r=>t.c.length / rows+wsum rows r
theorem wsum_take_succ {rows:Nat}:∀ {x:List Ten} {j:Nat},j<x.length->wsum rows (x.take (j+1))=wsum rows (x.take j)+(got x j).c.length / rows
 | [],j,h=>by simp at h
 | t::r,0,_=>by simp [wsum,got]
 | t::r,j+1,h=>by
  have:=wsum_take_succ (rows:=rows) (x:=r) (j:=j) (by simpa using h);simp only [List.take_succ_cons,wsum];rw [this];have e:got (t::r) (j+1)=got r j:=by simp [got]
  rw [e];omega
theorem wsum_take_le {rows:Nat}:∀ {x:List Ten} {j:Nat},wsum rows (x.take j)<=wsum rows x
 | [],j=>by simp [wsum]
 | t::r,0=>by simp [wsum]
 | t::r,j+1=>by
  have:=wsum_take_le (rows:=rows) (x:=r) (j:=j);simp only [List.take_succ_cons,wsum];omega
theorem row_fit {rows i n:Nat} (h:i<rows):i*(n / rows)+n / rows<=n:=by
 have h1:(i+1)*(n / rows)<=rows*(n / rows):=mlZ _ h;rw [Zu] at h1;have h2:=Nat.mul_div_le n rows;omega
theorem joinRow_len {rows i:Nat} {t:Ten} (h:i<rows):(joinRow rows i t).length=t.c.length / rows:=by
 have:=row_fit (n:=t.c.length) h;unfold joinRow;rw [Zo,Zq];omega
theorem flat_len {rows i:Nat} (h:i<rows):∀x:List Ten,(x.flatMap (joinRow rows i)).length=wsum rows x
 | []=>by simp [wsum]
 | t::r=>by rw [List.flatMap_cons,Ze,joinRow_len h,flat_len h r];rfl
theorem joinC_succ (rows:Nat) (x:List Ten) (i:Nat):joinC rows x (i+1)=joinC rows x i++x.flatMap (joinRow rows i):=by
 unfold joinC;rw [List.range_succ,Zj];simp
theorem joinC_len {rows:Nat} {x:List Ten}:∀ {i:Nat},i<=rows->(joinC rows x i).length=i*wsum rows x
 | 0,_=>by simp [joinC]
 | i+1,h=>by rw [joinC_succ,Ze,joinC_len oZ,flat_len oZ,Zu]
theorem joinC_in {rows i:Nat} {x:List Ten} (h:∀t∈x,In t):∀z∈joinC rows x i,Fx.In z:=λz hz=>by
 unfold joinC at hz;obtain ⟨_,_,hz⟩:=List.mem_flatMap.1 hz;obtain ⟨t,ht,hz⟩:=List.mem_flatMap.1 hz;exact h t ht z (Zp (Zh hz))
theorem flat_take_succ (rows i:Nat) {x:List Ten} {j:Nat} (h:j<x.length):(x.take (j+1)).flatMap (joinRow rows i)=(x.take j).flatMap (joinRow rows i)++joinRow rows i (got x j):=by
 rw [Zb h,Zj,qan h];simp
theorem qex {rows inner k:Nat} (hr:1<=rows):∀ {x:List Ten},(∀t∈x,Tn.right t=true/\∃m:Nat,t.s.getD k 0=(m:Int)/\t.c.length=rows*(m*inner))->((wsum rows x:Nat):Int)=sumAt k x*(inner:Int)
 | [],_=>by simp [wsum,sumAt]
 | t::r,h=>by
  obtain ⟨_,m,hm,hl⟩:=h t sZ;have ih:=qex hr (x:=r) (λu hu=>h u (by simp [hu]));have e:t.c.length / rows=m*inner:=by rw [hl];exact Nat.mul_div_cancel_left _ hr
  simp only [wsum,sumAt,List.foldr_cons];rw [e,hm,Int.natCast_add,ih,Int.natCast_mul,Int.add_mul]
  rfl
theorem join_facts2 {sd:Int} {x:List Ten} (h:(joined sd x).2=0):
  ∃k rows:Nat,sd=(k:Int)/\0<x.length/\k<(joined sd x).1.length/\(joined sd x).1.length<=4/\Sh.right (joined sd x).1=true/\span ((joined sd x).1.take k)=rows/\Safe.prod ((joined sd x).1.take k)=(rows:Int)/\1<=rows/\rows<=65536/\
   (∀t∈x,t.c.length<=65536/\1<=t.c.length / rows)/\Safe.prod (joined sd x).1=((rows*wsum rows x:Nat):Int)/\rows*wsum rows x<=65536/\1<=wsum rows x/\(∀z∈(joined sd x).1,1<=z/\z<=1024):=by
 obtain ⟨k,rows,inner,h1,h2,h3,h4,h5,h6,h7,h8,h9,hd,hf⟩:=qcI h;obtain ⟨_,l4,l1,hb,hg,hh⟩:=Sh.right_mul h4;have hw:=qex h7 hd;have ha:Safe.prod (joined sd x).1=((rows*wsum rows x:Nat):Int):=by rw [hf,Int.natCast_mul,hw]
 have hc:∀t∈x,t.c.length<=65536/\1<=t.c.length / rows:=λt ht=>by
  obtain ⟨hr,m,hm,hl⟩:=hd t ht;have he:=(right_ok hr).2;refine ⟨he,?_⟩;have:t.c.length / rows=m*inner:=by rw [hl];exact Nat.mul_div_cancel_left _ h7
  rw [this];simp only [Tn.right,Zz,decide_eq_true_eq] at hr;have hp:=(Sh.right_mul hr.1).2.2.2.2.1;rcases Nat.eq_zero_or_pos (m*inner) with h0|h0
  ·rw [h0,Nat.mul_zero] at hl;omega
  ·exact h0
 refine ⟨k,rows,h1,h2,h3,l4,h4,h5,h6,h7,h9,hc,ha,by omega,?_,hb⟩;rcases Nat.eq_zero_or_pos (wsum rows x) with h0|h0
 ·rw [h0,Nat.mul_zero] at ha;omega
 ·exact h0
end Ly
set_option maxRecDepth 4000 in
theorem qgj (sd:Int) (A:Option Addr) (f:Nat) (x:List Ten) (w:Zp1) (hl:x.length<=1048576) (hf:x.length<=f) (hf2:f<=9223372036854775807) (hT:Tns w A x):
  Calls Tryz.prog 98 #[.int .i64 sd,.slice A x.length f] w (GoP (Ly.join sd x) w):=by
 obtain ⟨i0,hi,HY,Hw,HD⟩:=info_parts qbM;have HJ:Later w (w.alloc (.cells #[.slice none 0 0,.slice none 0 0] 30)):=(Later.refl w).alloc _;have hz:=Blk.new w 30 #[.slice none 0 0,.slice none 0 0];obtain ⟨hW,Hz,HT⟩:=zd3 HJ hz hT;clear HJ hz hT;go_enter Tryz.func98,Tryz.ntmps98;go_wp2_with fail;generalize w.alloc (.cells #[.slice none 0 0,.slice none 0 0] 30)=w1 at *;refine (qcH sd A f x w1 hl hf hf2 (HT.out.later hW.out)).mono ?_;rintro e w2 ⟨B,bc,rfl,hI,H2,gk,He,Hd⟩;have h7:Later w1 w2:=Hd;have hZ:=hW.out.trans h7;have ha:=h7.blk Hz.out;have hD:∀a,B=some a->w.heap.size<=a.block:=λa e=>Zv hW.out.size (He a e)
 clear Hd Hz hW h7 He
 by_cases hg:(Ly.joined sd x).2=0
 case neg=>
  have HE:=zI (Ly.join_err hg);have Hg:=zI hg;have d1:((Ly.joined sd x).2==0)=false:=by simpa using hg
  have d2:((Ly.joined sd x).2 != 0)=true:=by simpa using hg
  clear hg hI hD;generalize (Ly.joined sd x).2=ge at *;generalize (Ly.joined sd x).1.length=sl at *;have c0:=ha.cell 0;have c1:=ha.cell 1;have f0:=ha.frozen 0;have f1:=ha.frozen 1;simp at c0 c1;have h0:=zI hZ;have hE:=zI ha;clear hZ ha;go_wp2_with fail;refine Zk1 (v:=.tuple #[.agg #[.slice none 0 0,.slice none 0 0],.int .i64 ge]) (by simp [results,Tryz.results98,go_sem,c0,c1]) rfl ?_;exact GoP.fail HE.out Hg.out ((h0.out.set (p:=⟨w.heap.size,0,none⟩) (lrZ _) _).set (p:=⟨w.heap.size,1,none⟩) (lrZ _) _)
 have HE:=zI (Ly.join_ok hg);obtain ⟨k,rows,rfl,gr,hk,gF,HA,hw,hp,gm,gK,hL,hh,hN,gp,h4⟩:=Ly.join_facts2 hg;rw [hg];rw [tnZ,hw] at HE;generalize (Ly.joined (k:Int) x).1=s at *;have h5:Sh.size s=(((rows*Ly.wsum rows x:Nat):Int),0):=by unfold Sh.size;rw [ipZ HA,hh]
 have Hv:=λj=>Safe.prod_take_le s j (λz hz=>(h4 z hz).1)
 have Hu:=λj=>Safe.prod_pos (s.take j) (λz hz=>(h4 z (Zh hz)).1)
 have HX:=λj hj=>Safe.prod_take_succ s j hj
 have HK:Safe.prod s<=65536:=by rw [hh];omega
 obtain ⟨M,hM⟩:∃M,M=rows*Ly.wsum rows x:=⟨_,rfl⟩
 rw [←hM] at h5 hN;obtain ⟨HM,gu,hV,h2⟩:=zd4 hM h5 hp hL;have gv:k<s.length:=hk;clear hg hw hp hh hL hM h5 h4 HA;have h0:=zI hZ;have hE:=zI ha;obtain ⟨HI,h6,h3,h9,HW⟩:=zd5 hI hD Hv Hu HX;clear hZ ha hI hD Hv Hu HX;go_wp2_with fail;refine (qae B bc s w2 oZ HI.out).mono ?_;rintro e w3 ⟨rfl,Hk⟩;rw [gu.out];have hJ:Later w2 w3:=Hk;have HS:=h0.out.trans hJ;have Ht:=hJ.blk hE.out;have Hl:=HI.out.below hJ (lrZ _);clear Hk HI hE h0;have q1:(0:Int)<=(k:Int):=by omega
 have q2:(k:Int)<=(bc:Int):=by omega
 obtain ⟨gx,HH,Hh,HC⟩:=zd4 hJ HS Ht Hl;clear hJ HS Ht Hl;go_wp2_with fail
 go_loop [9,40] (λv i=>∃j:Nat,j<=k/\i=.int .i64 j/\v=.int .i64 (Safe.prod (s.take j))) (λ_ i=>k-(intOf i).toNat)
 case atStart=>exact ⟨0,Zt _,rfl,rfl⟩
 case round=>
  obtain ⟨j,hj,rfl,rfl⟩:=hrel
  by_cases hB:j<k
  ·obtain ⟨bb,ob,rfl,-,hc⟩:=HC.out j oZ
   rw [qaX (show j<s.length by omega)] at hc;have p1:=h9.out j;have p2:=h3.out j;have p3:=h9.out (j+1);have p4:=h3.out (j+1);have p5:=HW.out j oZ;obtain ⟨P',hP⟩:∃P',P'=Safe.prod (s.take (j+1)):=⟨_,rfl⟩
   rw [←hP] at p3 p4 p5;have HP:=zI hP;clear hP;generalize Safe.prod (s.take j)=P at *;have e1:P*s[j]=P':=p5.symm;generalize s[j]=z at *;clear p5;go_wp2_with fail
   go_round
   case rel=>exact ⟨j+1,by omega,by go_num,by rw [←HP.out]⟩
   case measure=>simp [intOf];omega
  ·obtain rfl:j=k:=by omega
   rw [hV.out];clear q1 q2 h3 h9 HW;go_wp2_with (at_make;refine wpList_make_own _ rfl _ _ 28 rfl w3.heap.size 22 i0 (.int .i64 0) 1 Tryz.underlying28 hi HY Hw _ _ _ M rfl rfl rfl ?b2 ?b3 ?b4 ?_)
   case b2=>first|omega|(rw [HD];omega)
   case b3=>unfold maxLen;omega
   first|(case b4=>exact lrZ _)|skip
   intro w4 hown hgrow;have Hy:Later w3 w4:=(Later.refl w3).grown hgrow (lrZ _) sZ;have hx:w4.ownsRow w3.heap.size 22 1 (.slice (some ⟨w3.heap.size,0,none⟩) 0 M) (Ly.joinC rows x 0).length ((Ly.joinC rows x 0).map (Za1 .i64)):=by simpa [Ly.joinC] using hown
   have Hn:(Ly.joinC rows x 0).length=0:=rfl;clear hown hgrow;obtain ⟨H5,hQ,gw⟩:=zd3 Hy hx Hn;clear Hy hx Hn;have gN:w.heap.size<w3.heap.size:=Hh.out.lt;go_wp2_with fail
   go_loopw [12,51] (λv iv wr=>∃(i:Nat) (ll:Nat),i<=rows/\iv=.int .i64 (i:Int)/\ll=(Ly.joinC rows x i).length/\wr.ownsRow w3.heap.size 22 1 v ll ((Ly.joinC rows x i).map (Za1 .i64))/\Later w3 wr) (λ_ iv _=>rows-(intOf iv).toNat)
   case atStart=>exact ⟨0,0,Zt _,rfl,rfl,hQ.out,H5.out⟩
   case round=>
    obtain ⟨i,ll,gC,rfl,Hc,hown,he⟩:=hrel;obtain ⟨Ao,co,rfl⟩:=qak hown
    by_cases hB:i<rows
    ·have Hf:=Ly.joinC_len (x:=x) (Nat.le_of_lt hB)
     have H3:=he.size;have H4:=zI Hf;clear Hf;obtain ⟨gd,hC,hO⟩:=zd3 Hc hown he;clear Hc hown he;go_wp2_with fail
     go_loopw [12,56] (λv jv wr'=>∃(jj:Nat) (nn:Nat),jj<=x.length/\jv=.int .i64 (jj:Int)/\nn=(Ly.joinC rows x i++(x.take jj).flatMap (Ly.joinRow rows i)).length/\wr'.ownsRow w3.heap.size 22 1 v nn ((Ly.joinC rows x i++(x.take jj).flatMap (Ly.joinRow rows i)).map (Za1 .i64))/\Later w3 wr') (λ_ jv _=>x.length-(intOf jv).toNat)
     case atStart=>exact ⟨0,ll,Zt _,rfl,by rw [List.take_zero,List.flatMap_nil,List.append_nil];exact gd.out,by rw [List.take_zero,List.flatMap_nil,List.append_nil];exact hC.out,hO.out⟩
     case round=>
      obtain ⟨jj,nn,gR,rfl,hH,hown,he⟩:=hrel;obtain ⟨Ao,co,rfl⟩:=qak hown;clear hC hO
      by_cases hX:jj<x.length
      ·obtain ⟨bx,ox,S,sc,C,cd,rfl,gB,y0,y1,ht⟩:=(HT.out.later (HH.out.trans he)).at_ hX
       obtain ⟨gJ,gD⟩:=h2.out (Ly.got x jj) (by rw [qan hX];exact gmZ _);have gl:=Ly.row_fit (n:=(Ly.got x jj).c.length) hB;have HQ:=Ly.flat_take_succ rows i hX;have hG:=Ly.joinRow_len (t:=Ly.got x jj) hB;have go:=Ly.wsum_take_succ (rows:=rows) hX;have gh:=Ly.wsum_take_le (rows:=rows) (x:=x) (j:=jj+1)
       have HF:nn+(Ly.got x jj).c.length / rows<=M:=by
        rw [hH,Ze,Ly.flat_len hB,H4.out];have h8:(i+1)*Ly.wsum rows x<=rows*Ly.wsum rows x:=mlZ _ hB;rw [Zu] at h8;rw [HM.out];omega
       have hS:(Ly.joinC rows x i++(x.take (jj+1)).flatMap (Ly.joinRow rows i))=(Ly.joinC rows x i++(x.take jj).flatMap (Ly.joinRow rows i))++Ly.joinRow rows i (Ly.got x jj):=by rw [HQ,List.append_assoc]
       have Ha:=ht.num;have gO:=ht.c1;have H0:=ht.c2;have HG:=ht.r.2;have Hx:=ht;obtain ⟨bc',oc',rfl,H1,-⟩:=Hx.cell (k:=0) oZ;have HZ:Ly.joinRow rows i (Ly.got x jj)=((Ly.got x jj).c.drop (i*((Ly.got x jj).c.length / rows))).take ((Ly.got x jj).c.length / rows):=rfl;generalize Ly.got x jj=u at *;have e0:(u.c.length:Int) / (rows:Int)=((u.c.length / rows:Nat):Int):=by simp
       have e1:(i:Int)*((u.c.length / rows:Nat):Int)=((i*(u.c.length / rows):Nat):Int):=by simp
       have e2:((i:Int)+1)*((u.c.length / rows:Nat):Int)=((i*(u.c.length / rows):Nat):Int)+((u.c.length / rows:Nat):Int):=by rw [Int.add_mul,e1];simp
       generalize u.c.length / rows=q at *;generalize i*q=p at *
       have Hs:Ints .i64 wr (some ⟨bc',oc'+p,none⟩) (Ly.joinRow rows i u):=Ints.of_row λj2 hn=>by
        rw [hG] at hn;obtain ⟨b',o',e',-,hc⟩:=HG (p+j2) oZ;injection e' with e';injection e' with e1 e2;subst e1 e2
        rw [Nat.add_assoc,hc,HZ];simp only [gdZ];rw [List.getElem?_take,ipZ hn,List.getElem?_drop]
       have Hj:(Ly.joinRow rows i u).length=q:=hG;generalize Ly.joinRow rows i u=nw at *;have gA:(q:Int)<=65536:=by omega
       have gy:(p:Int)+(q:Int)<=(cd:Int):=by omega
       have gL:(p:Int)+(q:Int)<=65536:=by omega
       have gG:(i:Int)<=65536:=by omega
       have gP:(1:Int)<=(rows:Int):=by omega
       have gI:0<q:=by omega
       have HU:Later wr (wr.alloc (.cells #[.slice S u.s.length sc,.slice (some ⟨bc',oc',none⟩) u.c.length cd] 30)):=(Later.refl wr).alloc _;have Hp:=Blk.new wr 30 #[.slice S u.s.length sc,.slice (some ⟨bc',oc',none⟩) u.c.length cd];have H9:(jj:Int)<(x.length:Int):=by omega
       have gS:w3.heap.size<=wr.heap.size:=he.size;have hy:=qaz hown (.cells #[.slice S u.s.length sc,.slice (some ⟨bc',oc',none⟩) u.c.length cd] 30);obtain ⟨hU,gg,Hm⟩:=zd3 hS hH Hj;clear hS hH Hj HZ hG HQ go gh HG Ha ht hown Hx;obtain ⟨hO,H8,HV,H6,ho⟩:=zd5 he Hs HU Hp hy;clear he Hs HU Hp hy;go_upto_region 20 with fail;clear y0 y1;generalize wr.alloc (.cells #[.slice S u.s.length sc,.slice (some ⟨bc',oc',none⟩) u.c.length cd] 30)=w5 at *;generalize hpb:wr.heap.size=pb at *;have c1:w5.cell? ⟨pb,1,none⟩=some (.slice (some ⟨bc',oc',none⟩) u.c.length cd):=by rw [H6.out.cell];rfl
       have Hb:=hO.out.trans HV.out;have hR:w3.heap.size<=w5.heap.size:=Hb.size;have HR:=λb (hb:(Zb1 Ao nn co).ownBlock=some b)=>(ho.out.lt b hb).1
       obtain ⟨gq,gQ⟩:=zd2 HR hpb;clear HR hpb;have gc:=zI Hb;clear Hb;go_wp2_with (at_builtin;refine wpList_append_own_at _ rfl _ _ 28 rfl w3.heap.size 22 i0 (.int .i64 0) 1 8 Tryz.underlying28 hi HY Hw HD rfl dZ _ _ _ rfl ho.out ⟨bc',oc'+p,none⟩ _ _ (nw.map (Za1 .i64)) rfl ?c0 ?c1 ?c2 ?c3 ?c4 ?c5 ?_)
       case c0=>rw [List.length_map,Hm.out];omega
       case c1=>
        intro j2 u2 hn;rw [List.getElem?_map] at hn;cases hq:nw[j2]? with
        | none=>rw [hq] at hn;simp at hn
        | some z=>
         rw [hq] at hn;simp at hn;subst hn;obtain ⟨hG,hz⟩:=List.getElem?_eq_some_iff.1 hq;obtain ⟨b',o',e',-,hc⟩:=(H8.out.below HV.out (lrZ _)) j2 hG;injection e' with e';injection e' with e1 e2;subst e1 e2
         rw [qaX hG,hz] at hc
         by_cases Hq:j2=0
         ·subst Hq;simpa [Addr.add] using hc
         ·simpa [Addr.add,Hq] using hc
       case c2=>intro u2 hu;obtain ⟨z,_,rfl⟩:=List.mem_map.1 hu;rfl
       case c3=>unfold maxLen;omega
       case c4=>omega
       case c5=>exact hR
       intro v' w6 hd hgrow _ gb;have HB:Later w3 w6:=gc.out.grown hgrow hR (λb hb=>gq.out b hb)
       have hm:w6.ownsRow w3.heap.size 22 1 v' (nn+q) (((Ly.joinC rows x i++(x.take jj).flatMap (Ly.joinRow rows i))++nw).map (Za1 .i64)):=by
        have gf:p+q-p=q:=by omega
        simp only [List.map_append,List.append_assoc] at hd ⊢
        first|exact hd | (rw [gf] at hd;exact hd)
       rw [←hU.out] at hm;have hs:nn+q=(Ly.joinC rows x i++(x.take (jj+1)).flatMap (Ly.joinRow rows i)).length:=by rw [hU.out,Ze,←gg.out,Hm.out]
       obtain ⟨gi,gt,hK⟩:=zd3 hm HB hs;clear hd hm hgrow gb HB hs;go_wp2_with fail;go_roundw
       case rel=>exact ⟨jj+1,nn+q,by omega,by go_num,hK.out,gi.out,gt.out⟩
       case measure=>simp [intOf];omega
      ·obtain rfl:jj=x.length:=by omega
       have hr:=Ly.joinC_succ rows x i;rw [Zg,←hr] at hown hH;obtain ⟨HO,HL,HN⟩:=zd3 hown he hH;clear hown he hH hr;go_wp2_with fail;go_roundw
       case rel=>exact ⟨i+1,nn,hB,by go_num,HN.out,HO.out,HL.out⟩
       case measure=>simp [intOf];omega
    ·obtain rfl:i=rows:=by omega
     have h1:=Ly.joinC_len (x:=x) (lrZ i);have Hr:=Ly.joinC_in (rows:=i) (i:=i) (x:=x) HT.out.in_;subst Hc;have hA:0<(Ly.joinC i x i).length:=by rw [h1];exact Nat.mul_pos gm gp
     have gM:(Ly.joinC i x i).length<=65536:=by rw [h1,←HM.out];exact hN
     obtain ⟨C2,d2,hv,Ho⟩:=TenO.of_row (qdh hown (show w.heap.size<=w3.heap.size by omega)) (HC.out.below he (lrZ _)) H2 gk h6.out oZ oZ hA Hr;injection hv with e1 e2 e3
     subst e1 e3;have hF:=he.blk Hh.out;have Hi:=HH.out.trans he;generalize Ly.joinC i x i=L at *;generalize hLl:L.length=ll at *;have c0:=hF.cell 0;have c1:=hF.cell 1;have f0:=hF.frozen 0;have f1:=hF.frozen 1;simp at c0 c1;have hY:=(hF.set_ 0 (.slice B s.length bc)).set_ 1 (.slice Ao ll co);have d0:=hY.cell 0;have d1:=hY.cell 1;simp at d0 d1;have gE:=zI hLl;clear h1 Hr hA hLl;obtain ⟨hC,hO,gn,gj,H7,gH⟩:=zd6 hown he Ho hF Hi hY;clear hown he Ho hF Hi hY;go_wp2_with fail;refine Zk1 (v:=.tuple #[.agg #[.slice B s.length bc,.slice Ao ll co],.int .i64 0]) (by simp [results,Tryz.results98,go_sem,d0,d1]) rfl ?_;exact GoP.ok HE.out (TenO.box gn.out gj.out) ((H7.out.set (p:=⟨w.heap.size,0,none⟩) (lrZ _) _).set (p:=⟨w.heap.size,1,none⟩) (lrZ _) _)
end Go.Proofs.YtbnnpkcfifejmaaGreat
