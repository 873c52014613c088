/- Lemmas for the statements of this seat: contracts of functions and the plain laws. -/
import Derived.Deep.AppendLies
import Derived.Deep.DeepCutAuto
import Derived.Deep.OwnRows
import Derived.Deep.RegionHeld3
import Derived.KernelRfl
import Derived.Test.YtddkenhemnkkeaaGreatRows
import Derived.Test.YtddkenhemnkkeaaGreatK06
set_option linter.unusedVariables false
open Go.IntKind renaming i64 → iQ
open Go.Value renaming int → nQ, slice → sQ
open List renaming take_succ_eq_append_getElem → Zb, replicate → Zc, drop_eq_getElem_cons → Zd, length_append → Ze, all_eq_true → Zf, take_length → Zg, mem_of_mem_take → Zh, getElem?_eq_none → Zi, flatMap_append → Zj, getElem?_toArray → Zk, getElem?_append_right → Zl, getElem?_append_left → Zm, take_append_drop → Zn, length_take → Zo, mem_of_mem_drop → Zp, length_drop → Zq, getElem?_set_self → Zr, getElem?_set_ne → Zs
open Nat renaming zero_le → Zt, succ_mul → Zu, le_trans → Zv, zero_add → Zw, add_zero → Zx, le_succ → Zy
open Bool renaming and_eq_true → Zz
open Go.Value renaming int → Za1, slice → Zb1
open Go.IntWalk renaming i64_in → Zc1
open Go.NoPanic renaming normal → Zd1
open Go.RowKit.Below renaming refl → Ze1
open Go.AllReadyH renaming cons → Zf1, nil → Zg1
open Go.World renaming size_alloc → Zh1, cell?_of_block → Zi1, block_lt_of_cell? → Zj1
open Go renaming bodyPost_ret → Zk1, wp_region_held_drew → Zl1, wp_region_noPanic → Zm1, wpAnyH_done → Zn1, wpAnyH_ready → Zo1, World → Zp1
open Go.Proofs.Tryz
namespace Go.Proofs.YtddkenhemnkkeaaGreat
set_option maxHeartbeats 16000000
set_option maxRecDepth 20000
open Go.RowKit
structure wF (p g1 g2 g3 L:Nat) (cs:Value->Value->Value->Array Value) (W4 w:Zp1):Prop where
 later:Later W4 w
 hp:W4.heap.size<=p
 h1:p<g1
 h2:p<g2
 h3:p<g3
 n12:g1≠g2
 n13:g1≠g3
 n23:g2≠g3
 box:Blk w p 186 (cs (sQ (some ⟨g1,0,none⟩) L L) (sQ (some ⟨g2,0,none⟩) L L) (sQ (some ⟨g3,0,none⟩) L L))
 first:Blk w g1 3 (madeCells #[nQ iQ 0] L)
 kept:Blk w g2 4 (madeCells #[.bool false] L)
 aG:Blk w g3 4 (madeCells #[.bool false] L)
structure Bg (W0:Zp1) (p:Nat) (cs:Array Value) (ts:List (Nat × TypeId × Array Value)) (w:Zp1):Prop where
 hl:Later W0 w
 hp:W0.heap.size<=p
 box:Blk w p 186 cs
 all:∀x∈ts,Blk w x.1 x.2.1 x.2.2/\p<x.1
 nd:(ts.map (·.1)).Nodup
section
variable {W0 w:Zp1} {p:Nat} {cs:Array Value} {ts:List (Nat × TypeId × Array Value)}
theorem Bg.start (hl:Later W0 w) (hp:W0.heap.size<=p) (hb:Blk w p 186 cs):Bg W0 p cs [] w:=⟨hl,hp,hb,(λ_ h=>nomatch h),List.nodup_nil⟩
theorem Bg.mk_ (h:Bg W0 p cs ts w) (t:TypeId) (c:Array Value):Bg W0 p cs ((w.heap.size,t,c)::ts) (w.alloc (.cells c t)):=by
 refine ⟨h.hl.alloc _,h.hp,h.box.alloc _,λx hx=>?_,?_⟩
 ·rcases List.mem_cons.1 hx with rfl|hx
  ·exact ⟨Blk.new w t c,h.box.lt⟩
  ·exact ⟨(h.all x hx).1.alloc _,(h.all x hx).2⟩
 ·rw [List.map_cons,List.nodup_cons]
  refine ⟨λhx=>?_,h.nd⟩;obtain ⟨x,h1,h2⟩:=List.mem_map.1 hx;have h3:=(h.all x h1).1.lt;simp only at h2;omega
theorem Bg.put (h:Bg W0 p cs ts w) (i:Nat) (v:Value):Bg W0 p (cs.setIfInBounds i v) ts (w.setCell ⟨p,i,none⟩ v):=
 ⟨h.hl.set (p:=⟨p,i,none⟩) h.hp v,h.hp,h.box.aO i v,λx hx=>⟨(h.all x hx).1.far (p:=⟨p,i,none⟩) (by have:=(h.all x hx).2;show x.1≠p;omega) v,(h.all x hx).2⟩,h.nd⟩
theorem Bg.fin {g1 g2 g3 L:Nat} {f:Value->Value->Value->Array Value} (h:Bg W0 p (f (sQ (some ⟨g1,0,none⟩) L L) (sQ (some ⟨g2,0,none⟩) L L) (sQ (some ⟨g3,0,none⟩) L L)) ts w) (m1:(g1,3,madeCells #[nQ iQ 0] L)∈ts) (m2:(g2,4,madeCells #[.bool false] L)∈ts) (m3:(g3,4,madeCells #[.bool false] L)∈ts)
  (hd:g1≠g2/\g1≠g3/\g2≠g3):wF p g1 g2 g3 L f W0 w:=
 ⟨h.hl,h.hp,(h.all _ m1).2,(h.all _ m2).2,(h.all _ m3).2,hd.1,hd.2.1,hd.2.2,h.box,(h.all _ m1).1,(h.all _ m2).1,(h.all _ m3).1⟩
end
structure lZ (n:aA) (p g1 g2 g3:Nat) (bx:Array Value) (W4:Zp1) (f:List Int) (w:Zp1):Prop where
 later:Later W4 w
 box:Blk w p 186 bx
 first:Blk w g1 3 (qae f).toArray
 kept:Blk w g2 4 ((Zc (n.o.length+1) false).map Value.bool).toArray
 aG:Blk w g3 4 ((Zc (n.o.length+1) false).map Value.bool).toArray
theorem made_arr (v:Value) (n:Nat):madeCells #[v] n=(Zc n v).toArray:=by
 have h:=qao v n;rw [←h]
theorem lZ.to_later {n:aA} {p g1 g2 g3:Nat} {bx:Array Value} {W4 w w':Zp1} {f:List Int} (h:lZ n p g1 g2 g3 bx W4 f w) (hl:Later w w'):lZ n p g1 g2 g3 bx W4 f w':=⟨h.later.trans hl,hl.blk h.box,hl.blk h.first,hl.blk h.kept,hl.blk h.aG⟩
theorem lZ.put {n:aA} {p g1 g2 g3:Nat} {bx:Array Value} {W4 w:Zp1} {f:List Int} (h:lZ n p g1 g2 g3 bx W4 f w) (hg:W4.heap.size<=g1) (h1:p≠g1) (h2:g2≠g1) (h3:g3≠g1) (u:Nat) (z:Int):lZ n p g1 g2 g3 bx W4 (f.set u z) (w.setCell ⟨g1,u,none⟩ (nQ iQ z)):=by
 refine ⟨h.later.set (p:=⟨g1,u,none⟩) hg _,h.box.far (p:=⟨g1,u,none⟩) h1 _,?_,h.kept.far (p:=⟨g1,u,none⟩) h2 _,h.aG.far (p:=⟨g1,u,none⟩) h3 _⟩;have hb:=h.first.aO u (nQ iQ z)
 simpa [qae,List.map_set] using hb
def BeginP (n:aA) (A N:Option Addr) (c d:Nat) (W:Zp1) (e:Ending) (w':Zp1):Prop:=
 (Nt.check n≠0/\e=.returned (.tuple #[.pointer none,nQ iQ (Nt.check n)])∨Nt.check n=0/\∃a W0,RtA.Still a n W0/\Later W W0/\e=.returned (.tuple #[.pointer (some ⟨a.p,0,none⟩),nQ iQ 0])/\RtM a n (Zc (n.o.length+1) false) W0 (Rt.start (n.o.length+1)) w')/\Later W w'
set_option maxRecDepth 100000 in
theorem qfA (A N:Option Addr) (c d:Nat) (n:aA) (W:Zp1) (hok:n.ok) (hR:bC W A N n) (hd:n.o.length<=d) (h12:n.o.length<=12):
  Calls prog 113 #[.agg #[sQ A n.inn.length c,sQ N n.o.length d]] W (BeginP n A N c d W):=by
 have Hy:=Blk.new W 26 #[sQ A n.inn.length c,sQ N n.o.length d];have HP:Later W (W.alloc (.cells #[sQ A n.inn.length c,sQ N n.o.length d] 26)):=(Later.refl W).alloc _;obtain ⟨HR,hx,HX,HI⟩:=zd4 hR hok Hy HP;clear hR hok Hy HP;go_in;go_wp2_with fail;generalize W.alloc (.cells #[sQ A n.inn.length c,sQ N n.o.length d] 26)=W1 at *;refine (qba A N c d n W1 hx.out (HR.out.below HI.out (lrZ _)) hd).mono ?_;rintro e W2 ⟨Hn,⟨ho,O,oc,rfl,hO,-,-⟩|⟨ho,rfl⟩⟩
 all_goals
  have hg:Later W1 W2:=Hn;have hL:=HI.out.trans hg;have hv:=hg.blk HX.out;clear Hn
 rotate_left
 ·have gh:(Nt.check n != 0)=true:=by simp [ho]
  obtain ⟨hh,hE⟩:=zd2 ho hL;clear ho hL;clear hg hv;go_wp2_with fail
  go_ret2
  exact ⟨.inl ⟨hh.out,rfl⟩,hE.out⟩
 have x0:=hv.cell 0;have x1:=hv.cell 1;simp at x0 x1;obtain ⟨hh,hE,HA,HO⟩:=zd4 ho hL hv hO;clear ho hL hv hO;clear hg;go_wp2_with fail;refine (qgA A N c d n W2 hx.out (HR.out.below hE.out (lrZ _)) hd).mono ?_;rintro e W3 ⟨HD,⟨-,gl,rfl,Hr⟩|⟨ho,-⟩⟩
 rotate_left
 ·exact absurd hh.out ho
 have hl:Later W2 W3:=HD;have hC:=hE.out.trans hl;have hs:=hl.blk HA.out;have Hs:=HO.out.below hl (lrZ _);clear x0 x1;have x0:=hs.cell 0;have x1:=hs.cell 1;simp at x0 x1;obtain ⟨ht,hS,HL,Ht⟩:=zd4 hC hs Hs Hr;clear hC hs Hs Hr;clear HD hl HO HA hE;go_wp2_with fail;refine (qfY A N c d n W3 hx.out (HR.out.below ht.out (lrZ _)) hd).mono ?_;rintro e W4 ⟨rfl,Hk⟩;rw [hh.out,show qcJ n=Nt.aH n.o by unfold qcJ;rw [ipZ hh.out]];have hf:Later W3 W4:=Hk;have HG:=ht.out.trans hf;have hP:=hf.blk hS.out;have Hw:=HL.out.below hf (lrZ _);have hw:=hf.blk Ht.out;clear x0 x1;have x0:=hP.cell 0;have x1:=hP.cell 1;simp at x0 x1;obtain ⟨hQ,H7,Hu,Hh⟩:=zd4 HG hP Hw hw;clear HG hP Hw hw;clear Hk hf HL hS ht Ht
 have h4:∀w:Zp1,(Instr.makeSlice 22 (nQ iQ ((n.o.length:Int)+1)) (nQ iQ ((n.o.length:Int)+1))).run prog w=.ok (sQ (some ⟨w.heap.size,0,none⟩) (n.o.length+1) (n.o.length+1)) (w.alloc (.cells (madeCells #[nQ iQ 0] (n.o.length+1)) 3)):=λw=>by
  have h:=run_make_row' (P:=prog) 22 3 (nQ iQ 0) 8 underlying22 qag rfl iQ iQ (n.o.length+1) oZ oZ w;rw [Int.natCast_succ] at h;exact h
 have Ha:∀w:Zp1,(Instr.makeSlice 112 (nQ iQ ((n.o.length:Int)+1)) (nQ iQ ((n.o.length:Int)+1))).run prog w=.ok (sQ (some ⟨w.heap.size,0,none⟩) (n.o.length+1) (n.o.length+1)) (w.alloc (.cells (madeCells #[.bool false] (n.o.length+1)) 4)):=λw=>by
  have h:=run_make_row' (P:=prog) 112 4 (.bool false) 1 underlying112 qbE rfl iQ iQ (n.o.length+1) oZ oZ w;rw [Int.natCast_succ] at h;exact h
 obtain ⟨Hb,hY⟩:=zd2 h4 Ha;clear h4 Ha;generalize hLo:Nt.aH n.o=lo at *;have H2:=zI hLo;clear hLo;go_upto_region 12 with fail;have ha:=Blk.new W4 186 #[sQ A n.inn.length c,sQ N n.o.length d,sQ O n.o.length oc,sQ (some ⟨gl,0,none⟩) (n.o.length+1) (n.o.length+1),sQ none 0 0,nQ iQ lo,sQ none 0 0,sQ none 0 0,sQ none 0 0];have he:Later W4 (W4.alloc (.cells #[sQ A n.inn.length c,sQ N n.o.length d,sQ O n.o.length oc,sQ (some ⟨gl,0,none⟩) (n.o.length+1) (n.o.length+1),sQ none 0 0,nQ iQ lo,sQ none 0 0,sQ none 0 0,sQ none 0 0] 186)):=(Later.refl W4).alloc _;have Hz:W4.heap.size<(W4.alloc (.cells #[sQ A n.inn.length c,sQ N n.o.length d,sQ O n.o.length oc,sQ (some ⟨gl,0,none⟩) (n.o.length+1) (n.o.length+1),sQ none 0 0,nQ iQ lo,sQ none 0 0,sQ none 0 0,sQ none 0 0] 186)).heap.size:=ha.lt;generalize W4.alloc (.cells #[sQ A n.inn.length c,sQ N n.o.length d,sQ O n.o.length oc,sQ (some ⟨gl,0,none⟩) (n.o.length+1) (n.o.length+1),sQ none 0 0,nQ iQ lo,sQ none 0 0,sQ none 0 0,sQ none 0 0] 186)=W5 at *;generalize hp:W4.heap.size=p at *;have b4:W5.cell? ⟨p,4,none⟩=some (sQ none 0 0):=ha.cell 4;have b6:W5.cell? ⟨p,6,none⟩=some (sQ none 0 0):=ha.cell 6;have b7:W5.cell? ⟨p,7,none⟩=some (sQ none 0 0):=ha.cell 7;have f4:=ha.frozen 4;have f6:=ha.frozen 6;have f7:=ha.frozen 7;obtain ⟨h8,hr,Hp⟩:=zd3 ha he hp;clear ha he hp
 go_cut [61] (λ_ wx=>∃g1 g2 g3,wF p g1 g2 g3 (n.o.length+1) (λv1 v2 v3=>#[sQ A n.inn.length c,sQ N n.o.length d,sQ O n.o.length oc,sQ (some ⟨gl,0,none⟩) (n.o.length+1) (n.o.length+1),v1,nQ iQ lo,v2,v3,sQ none 0 0]) W4 wx)
 case first=>
  have h4:=Hb.out;have Ha:=hY.out;have ha:=h8.out;have he:=hr.out;have ge:W4.heap.size<=p:=Nat.le_of_eq Hp.out;clear Hb hY x0 x1 b4 b6 b7 f4 f6 f7 h8 hr Hz;refine Zm1 ?_;refine Zl1 (S:=λ_=>True) krZ trivial (λ_=>?_);have hT:True:=trivial;refine tk 0 ?_;refine tk 1 ?_;refine tk 2 ?_;refine tk 3 ?_;refine tk 5 ?_;refine tk 7 ?_;have hb:=Bg.start he.drew ge ha.drew;clear he ha;generalize W5.drew=w0 at *;refine Zo1 (rs:=[4,6,8]) krZ sZ ?_;refine Zf1 (o:=_) rfl (λK hK=>?_) (Zf1 (o:=_) rfl (λK hK=>?_) (Zf1 (o:=_) rfl (λK hK=>?_) (Zg1)))
  ·simp only [ga,gs,gz]
   go_simp
   refine hK.out _ _ trivial (λ_=>?_);clear hK K
   try simp only [ga,gs,gz,Act.put,sa,sz,ss]
   replace hb:=hb.mk_ 3 (madeCells #[nQ iQ 0] (n.o.length+1));generalize w0.alloc (.cells (madeCells #[nQ iQ 0] (n.o.length+1)) 3)=w1 at *;generalize w0.heap.size=g1 at *;refine tk 9 ?_;refine tk 10 ?_;refine Zo1 (rs:=[6,8,11]) krZ sZ ?_;refine Zf1 (o:=_) rfl (λK hK=>?_) (Zf1 (o:=_) rfl (λK hK=>?_) (Zf1 (o:=_) rfl (λK hK=>?_) (Zg1)))
   ·simp only [ga,gs,gz]
    go_simp
    refine hK.out _ _ trivial (λ_=>?_);clear hK K
    try simp only [ga,gs,gz,Act.put,sa,sz,ss]
    replace hb:=hb.mk_ 4 (madeCells #[.bool false] (n.o.length+1));generalize w1.alloc (.cells (madeCells #[.bool false] (n.o.length+1)) 4)=w2 at *;generalize w1.heap.size=g2 at *;refine Zo1 (rs:=[8,11]) krZ sZ ?_;refine Zf1 (o:=_) rfl (λK hK=>?_) (Zf1 (o:=_) rfl (λK hK=>?_) (Zg1))
    ·simp only [ga,gs,gz]
     go_simp
     refine hK.out _ _ trivial (λ_=>?_);clear hK K
     try simp only [ga,gs,gz,Act.put,sa,sz,ss]
     replace hb:=hb.mk_ 4 (madeCells #[.bool false] (n.o.length+1));generalize w2.alloc (.cells (madeCells #[.bool false] (n.o.length+1)) 4)=w3 at *;generalize w2.heap.size=g3 at *;refine rd 11 λK hK=>?_
     simp only [ga,gs,gz];have yc:w3.cell? ⟨p,4,none⟩=some (sQ none 0 0):=hb.box.cell 4;have fc:=hb.box.frozen 4
     go_simp
     clear yc fc;refine hK.out _ _ trivial (λ_=>?_);clear hK K
     try simp only [ga,gs,gz,Act.put,sa,sz,ss]
     replace hb:=hb.put 4 (sQ (some ⟨g1,0,none⟩) (n.o.length+1) (n.o.length+1));generalize w3.setCell ⟨p,4,none⟩ (sQ (some ⟨g1,0,none⟩) (n.o.length+1) (n.o.length+1))=w4 at *;refine tk 12 ?_;refine tk 13 ?_;refine rd 14 λK hK=>?_
     simp only [ga,gs,gz];have yc:w4.cell? ⟨p,6,none⟩=some (sQ none 0 0):=hb.box.cell 6;have fc:=hb.box.frozen 6
     go_simp
     clear yc fc;refine hK.out _ _ trivial (λ_=>?_);clear hK K
     try simp only [ga,gs,gz,Act.put,sa,sz,ss]
     replace hb:=hb.put 6 (sQ (some ⟨g2,0,none⟩) (n.o.length+1) (n.o.length+1));generalize w4.setCell ⟨p,6,none⟩ (sQ (some ⟨g2,0,none⟩) (n.o.length+1) (n.o.length+1))=w5 at *;refine tk 15 ?_;refine tk 16 ?_;refine rd 17 λK hK=>?_
     simp only [ga,gs,gz];have yc:w5.cell? ⟨p,7,none⟩=some (sQ none 0 0):=hb.box.cell 7;have fc:=hb.box.frozen 7
     go_simp
     clear yc fc;refine hK.out _ _ trivial (λ_=>?_);clear hK K
     try simp only [ga,gs,gz,Act.put,sa,sz,ss]
     replace hb:=hb.put 7 (sQ (some ⟨g3,0,none⟩) (n.o.length+1) (n.o.length+1));generalize w5.setCell ⟨p,7,none⟩ (sQ (some ⟨g3,0,none⟩) (n.o.length+1) (n.o.length+1))=w6 at *;refine Zn1 krZ ?_ _;refine Zd1 ?_;go_wp2_with fail
     go_meet
     exact ⟨g1,g2,g3,hb.fin (.tail _ (.tail _ (.head _))) (.tail _ (.head _)) (.head _) (by have h:=hb.nd;simp at h;omega)⟩
    ·simp only [ga,gs,gz]
     have yc:w2.cell? ⟨p,4,none⟩=some (sQ none 0 0):=hb.box.cell 4;have fc:=hb.box.frozen 4
     go_simp
     clear yc fc;refine hK.out _ _ trivial (λ_=>?_);clear hK K
     try simp only [ga,gs,gz,Act.put,sa,sz,ss]
     replace hb:=hb.put 4 (sQ (some ⟨g1,0,none⟩) (n.o.length+1) (n.o.length+1));generalize w2.setCell ⟨p,4,none⟩ (sQ (some ⟨g1,0,none⟩) (n.o.length+1) (n.o.length+1))=w3 at *;refine tk 12 ?_;refine tk 13 ?_;refine Zo1 (rs:=[8,14]) krZ sZ ?_;refine Zf1 (o:=_) rfl (λK hK=>?_) (Zf1 (o:=_) rfl (λK hK=>?_) (Zg1))
     ·simp only [ga,gs,gz]
      go_simp
      refine hK.out _ _ trivial (λ_=>?_);clear hK K
      try simp only [ga,gs,gz,Act.put,sa,sz,ss]
      replace hb:=hb.mk_ 4 (madeCells #[.bool false] (n.o.length+1));generalize w3.alloc (.cells (madeCells #[.bool false] (n.o.length+1)) 4)=w4 at *;generalize w3.heap.size=g3 at *;refine rd 14 λK hK=>?_
      simp only [ga,gs,gz];have yc:w4.cell? ⟨p,6,none⟩=some (sQ none 0 0):=hb.box.cell 6;have fc:=hb.box.frozen 6
      go_simp
      clear yc fc;refine hK.out _ _ trivial (λ_=>?_);clear hK K
      try simp only [ga,gs,gz,Act.put,sa,sz,ss]
      replace hb:=hb.put 6 (sQ (some ⟨g2,0,none⟩) (n.o.length+1) (n.o.length+1));generalize w4.setCell ⟨p,6,none⟩ (sQ (some ⟨g2,0,none⟩) (n.o.length+1) (n.o.length+1))=w5 at *;refine tk 15 ?_;refine tk 16 ?_;refine rd 17 λK hK=>?_
      simp only [ga,gs,gz];have yc:w5.cell? ⟨p,7,none⟩=some (sQ none 0 0):=hb.box.cell 7;have fc:=hb.box.frozen 7
      go_simp
      clear yc fc;refine hK.out _ _ trivial (λ_=>?_);clear hK K
      try simp only [ga,gs,gz,Act.put,sa,sz,ss]
      replace hb:=hb.put 7 (sQ (some ⟨g3,0,none⟩) (n.o.length+1) (n.o.length+1));generalize w5.setCell ⟨p,7,none⟩ (sQ (some ⟨g3,0,none⟩) (n.o.length+1) (n.o.length+1))=w6 at *;refine Zn1 krZ ?_ _;refine Zd1 ?_;go_wp2_with fail
      go_meet
      exact ⟨g1,g2,g3,hb.fin (.tail _ (.tail _ (.head _))) (.tail _ (.head _)) (.head _) (by have h:=hb.nd;simp at h;omega)⟩
     ·simp only [ga,gs,gz]
      have yc:w3.cell? ⟨p,6,none⟩=some (sQ none 0 0):=hb.box.cell 6;have fc:=hb.box.frozen 6
      go_simp
      clear yc fc;refine hK.out _ _ trivial (λ_=>?_);clear hK K
      try simp only [ga,gs,gz,Act.put,sa,sz,ss]
      replace hb:=hb.put 6 (sQ (some ⟨g2,0,none⟩) (n.o.length+1) (n.o.length+1));generalize w3.setCell ⟨p,6,none⟩ (sQ (some ⟨g2,0,none⟩) (n.o.length+1) (n.o.length+1))=w4 at *;refine rd 8 λK hK=>?_
      simp only [ga,gs,gz]
      go_simp
      refine hK.out _ _ trivial (λ_=>?_);clear hK K
      try simp only [ga,gs,gz,Act.put,sa,sz,ss]
      replace hb:=hb.mk_ 4 (madeCells #[.bool false] (n.o.length+1));generalize w4.alloc (.cells (madeCells #[.bool false] (n.o.length+1)) 4)=w5 at *;generalize w4.heap.size=g3 at *;refine tk 15 ?_;refine tk 16 ?_;refine rd 17 λK hK=>?_
      simp only [ga,gs,gz];have yc:w5.cell? ⟨p,7,none⟩=some (sQ none 0 0):=hb.box.cell 7;have fc:=hb.box.frozen 7
      go_simp
      clear yc fc;refine hK.out _ _ trivial (λ_=>?_);clear hK K
      try simp only [ga,gs,gz,Act.put,sa,sz,ss]
      replace hb:=hb.put 7 (sQ (some ⟨g3,0,none⟩) (n.o.length+1) (n.o.length+1));generalize w5.setCell ⟨p,7,none⟩ (sQ (some ⟨g3,0,none⟩) (n.o.length+1) (n.o.length+1))=w6 at *;refine Zn1 krZ ?_ _;refine Zd1 ?_;go_wp2_with fail
      go_meet
      exact ⟨g1,g2,g3,hb.fin (.tail _ (.tail _ (.head _))) (.tail _ (.head _)) (.head _) (by have h:=hb.nd;simp at h;omega)⟩
   ·simp only [ga,gs,gz]
    go_simp
    refine hK.out _ _ trivial (λ_=>?_);clear hK K
    try simp only [ga,gs,gz,Act.put,sa,sz,ss]
    replace hb:=hb.mk_ 4 (madeCells #[.bool false] (n.o.length+1));generalize w1.alloc (.cells (madeCells #[.bool false] (n.o.length+1)) 4)=w2 at *;generalize w1.heap.size=g3 at *;refine Zo1 (rs:=[6,11]) krZ sZ ?_;refine Zf1 (o:=_) rfl (λK hK=>?_) (Zf1 (o:=_) rfl (λK hK=>?_) (Zg1))
    ·simp only [ga,gs,gz]
     go_simp
     refine hK.out _ _ trivial (λ_=>?_);clear hK K
     try simp only [ga,gs,gz,Act.put,sa,sz,ss]
     replace hb:=hb.mk_ 4 (madeCells #[.bool false] (n.o.length+1));generalize w2.alloc (.cells (madeCells #[.bool false] (n.o.length+1)) 4)=w3 at *;generalize w2.heap.size=g2 at *;refine rd 11 λK hK=>?_
     simp only [ga,gs,gz];have yc:w3.cell? ⟨p,4,none⟩=some (sQ none 0 0):=hb.box.cell 4;have fc:=hb.box.frozen 4
     go_simp
     clear yc fc;refine hK.out _ _ trivial (λ_=>?_);clear hK K
     try simp only [ga,gs,gz,Act.put,sa,sz,ss]
     replace hb:=hb.put 4 (sQ (some ⟨g1,0,none⟩) (n.o.length+1) (n.o.length+1));generalize w3.setCell ⟨p,4,none⟩ (sQ (some ⟨g1,0,none⟩) (n.o.length+1) (n.o.length+1))=w4 at *;refine tk 12 ?_;refine tk 13 ?_;refine rd 14 λK hK=>?_
     simp only [ga,gs,gz];have yc:w4.cell? ⟨p,6,none⟩=some (sQ none 0 0):=hb.box.cell 6;have fc:=hb.box.frozen 6
     go_simp
     clear yc fc;refine hK.out _ _ trivial (λ_=>?_);clear hK K
     try simp only [ga,gs,gz,Act.put,sa,sz,ss]
     replace hb:=hb.put 6 (sQ (some ⟨g2,0,none⟩) (n.o.length+1) (n.o.length+1));generalize w4.setCell ⟨p,6,none⟩ (sQ (some ⟨g2,0,none⟩) (n.o.length+1) (n.o.length+1))=w5 at *;refine tk 15 ?_;refine tk 16 ?_;refine rd 17 λK hK=>?_
     simp only [ga,gs,gz];have yc:w5.cell? ⟨p,7,none⟩=some (sQ none 0 0):=hb.box.cell 7;have fc:=hb.box.frozen 7
     go_simp
     clear yc fc;refine hK.out _ _ trivial (λ_=>?_);clear hK K
     try simp only [ga,gs,gz,Act.put,sa,sz,ss]
     replace hb:=hb.put 7 (sQ (some ⟨g3,0,none⟩) (n.o.length+1) (n.o.length+1));generalize w5.setCell ⟨p,7,none⟩ (sQ (some ⟨g3,0,none⟩) (n.o.length+1) (n.o.length+1))=w6 at *;refine Zn1 krZ ?_ _;refine Zd1 ?_;go_wp2_with fail
     go_meet
     exact ⟨g1,g2,g3,hb.fin (.tail _ (.tail _ (.head _))) (.head _) (.tail _ (.head _)) (by have h:=hb.nd;simp at h;omega)⟩
    ·simp only [ga,gs,gz]
     have yc:w2.cell? ⟨p,4,none⟩=some (sQ none 0 0):=hb.box.cell 4;have fc:=hb.box.frozen 4
     go_simp
     clear yc fc;refine hK.out _ _ trivial (λ_=>?_);clear hK K
     try simp only [ga,gs,gz,Act.put,sa,sz,ss]
     replace hb:=hb.put 4 (sQ (some ⟨g1,0,none⟩) (n.o.length+1) (n.o.length+1));generalize w2.setCell ⟨p,4,none⟩ (sQ (some ⟨g1,0,none⟩) (n.o.length+1) (n.o.length+1))=w3 at *;refine rd 6 λK hK=>?_
     simp only [ga,gs,gz]
     go_simp
     refine hK.out _ _ trivial (λ_=>?_);clear hK K
     try simp only [ga,gs,gz,Act.put,sa,sz,ss]
     replace hb:=hb.mk_ 4 (madeCells #[.bool false] (n.o.length+1));generalize w3.alloc (.cells (madeCells #[.bool false] (n.o.length+1)) 4)=w4 at *;generalize w3.heap.size=g2 at *;refine tk 12 ?_;refine tk 13 ?_;refine rd 14 λK hK=>?_
     simp only [ga,gs,gz];have yc:w4.cell? ⟨p,6,none⟩=some (sQ none 0 0):=hb.box.cell 6;have fc:=hb.box.frozen 6
     go_simp
     clear yc fc;refine hK.out _ _ trivial (λ_=>?_);clear hK K
     try simp only [ga,gs,gz,Act.put,sa,sz,ss]
     replace hb:=hb.put 6 (sQ (some ⟨g2,0,none⟩) (n.o.length+1) (n.o.length+1));generalize w4.setCell ⟨p,6,none⟩ (sQ (some ⟨g2,0,none⟩) (n.o.length+1) (n.o.length+1))=w5 at *;refine tk 15 ?_;refine tk 16 ?_;refine rd 17 λK hK=>?_
     simp only [ga,gs,gz];have yc:w5.cell? ⟨p,7,none⟩=some (sQ none 0 0):=hb.box.cell 7;have fc:=hb.box.frozen 7
     go_simp
     clear yc fc;refine hK.out _ _ trivial (λ_=>?_);clear hK K
     try simp only [ga,gs,gz,Act.put,sa,sz,ss]
     replace hb:=hb.put 7 (sQ (some ⟨g3,0,none⟩) (n.o.length+1) (n.o.length+1));generalize w5.setCell ⟨p,7,none⟩ (sQ (some ⟨g3,0,none⟩) (n.o.length+1) (n.o.length+1))=w6 at *;refine Zn1 krZ ?_ _;refine Zd1 ?_;go_wp2_with fail
     go_meet
     exact ⟨g1,g2,g3,hb.fin (.tail _ (.tail _ (.head _))) (.head _) (.tail _ (.head _)) (by have h:=hb.nd;simp at h;omega)⟩
   ·simp only [ga,gs,gz]
    have yc:w1.cell? ⟨p,4,none⟩=some (sQ none 0 0):=hb.box.cell 4;have fc:=hb.box.frozen 4
    go_simp
    clear yc fc;refine hK.out _ _ trivial (λ_=>?_);clear hK K
    try simp only [ga,gs,gz,Act.put,sa,sz,ss]
    replace hb:=hb.put 4 (sQ (some ⟨g1,0,none⟩) (n.o.length+1) (n.o.length+1));generalize w1.setCell ⟨p,4,none⟩ (sQ (some ⟨g1,0,none⟩) (n.o.length+1) (n.o.length+1))=w2 at *;refine Zo1 (rs:=[6,8]) krZ sZ ?_;refine Zf1 (o:=_) rfl (λK hK=>?_) (Zf1 (o:=_) rfl (λK hK=>?_) (Zg1))
    ·simp only [ga,gs,gz]
     go_simp
     refine hK.out _ _ trivial (λ_=>?_);clear hK K
     try simp only [ga,gs,gz,Act.put,sa,sz,ss]
     replace hb:=hb.mk_ 4 (madeCells #[.bool false] (n.o.length+1));generalize w2.alloc (.cells (madeCells #[.bool false] (n.o.length+1)) 4)=w3 at *;generalize w2.heap.size=g2 at *;refine tk 12 ?_;refine tk 13 ?_;refine Zo1 (rs:=[8,14]) krZ sZ ?_;refine Zf1 (o:=_) rfl (λK hK=>?_) (Zf1 (o:=_) rfl (λK hK=>?_) (Zg1))
     ·simp only [ga,gs,gz]
      go_simp
      refine hK.out _ _ trivial (λ_=>?_);clear hK K
      try simp only [ga,gs,gz,Act.put,sa,sz,ss]
      replace hb:=hb.mk_ 4 (madeCells #[.bool false] (n.o.length+1));generalize w3.alloc (.cells (madeCells #[.bool false] (n.o.length+1)) 4)=w4 at *;generalize w3.heap.size=g3 at *;refine rd 14 λK hK=>?_
      simp only [ga,gs,gz];have yc:w4.cell? ⟨p,6,none⟩=some (sQ none 0 0):=hb.box.cell 6;have fc:=hb.box.frozen 6
      go_simp
      clear yc fc;refine hK.out _ _ trivial (λ_=>?_);clear hK K
      try simp only [ga,gs,gz,Act.put,sa,sz,ss]
      replace hb:=hb.put 6 (sQ (some ⟨g2,0,none⟩) (n.o.length+1) (n.o.length+1));generalize w4.setCell ⟨p,6,none⟩ (sQ (some ⟨g2,0,none⟩) (n.o.length+1) (n.o.length+1))=w5 at *;refine tk 15 ?_;refine tk 16 ?_;refine rd 17 λK hK=>?_
      simp only [ga,gs,gz];have yc:w5.cell? ⟨p,7,none⟩=some (sQ none 0 0):=hb.box.cell 7;have fc:=hb.box.frozen 7
      go_simp
      clear yc fc;refine hK.out _ _ trivial (λ_=>?_);clear hK K
      try simp only [ga,gs,gz,Act.put,sa,sz,ss]
      replace hb:=hb.put 7 (sQ (some ⟨g3,0,none⟩) (n.o.length+1) (n.o.length+1));generalize w5.setCell ⟨p,7,none⟩ (sQ (some ⟨g3,0,none⟩) (n.o.length+1) (n.o.length+1))=w6 at *;refine Zn1 krZ ?_ _;refine Zd1 ?_;go_wp2_with fail
      go_meet
      exact ⟨g1,g2,g3,hb.fin (.tail _ (.tail _ (.head _))) (.tail _ (.head _)) (.head _) (by have h:=hb.nd;simp at h;omega)⟩
     ·simp only [ga,gs,gz]
      have yc:w3.cell? ⟨p,6,none⟩=some (sQ none 0 0):=hb.box.cell 6;have fc:=hb.box.frozen 6
      go_simp
      clear yc fc;refine hK.out _ _ trivial (λ_=>?_);clear hK K
      try simp only [ga,gs,gz,Act.put,sa,sz,ss]
      replace hb:=hb.put 6 (sQ (some ⟨g2,0,none⟩) (n.o.length+1) (n.o.length+1));generalize w3.setCell ⟨p,6,none⟩ (sQ (some ⟨g2,0,none⟩) (n.o.length+1) (n.o.length+1))=w4 at *;refine rd 8 λK hK=>?_
      simp only [ga,gs,gz]
      go_simp
      refine hK.out _ _ trivial (λ_=>?_);clear hK K
      try simp only [ga,gs,gz,Act.put,sa,sz,ss]
      replace hb:=hb.mk_ 4 (madeCells #[.bool false] (n.o.length+1));generalize w4.alloc (.cells (madeCells #[.bool false] (n.o.length+1)) 4)=w5 at *;generalize w4.heap.size=g3 at *;refine tk 15 ?_;refine tk 16 ?_;refine rd 17 λK hK=>?_
      simp only [ga,gs,gz];have yc:w5.cell? ⟨p,7,none⟩=some (sQ none 0 0):=hb.box.cell 7;have fc:=hb.box.frozen 7
      go_simp
      clear yc fc;refine hK.out _ _ trivial (λ_=>?_);clear hK K
      try simp only [ga,gs,gz,Act.put,sa,sz,ss]
      replace hb:=hb.put 7 (sQ (some ⟨g3,0,none⟩) (n.o.length+1) (n.o.length+1));generalize w5.setCell ⟨p,7,none⟩ (sQ (some ⟨g3,0,none⟩) (n.o.length+1) (n.o.length+1))=w6 at *;refine Zn1 krZ ?_ _;refine Zd1 ?_;go_wp2_with fail
      go_meet
      exact ⟨g1,g2,g3,hb.fin (.tail _ (.tail _ (.head _))) (.tail _ (.head _)) (.head _) (by have h:=hb.nd;simp at h;omega)⟩
    ·simp only [ga,gs,gz]
     go_simp
     refine hK.out _ _ trivial (λ_=>?_);clear hK K
     try simp only [ga,gs,gz,Act.put,sa,sz,ss]
     replace hb:=hb.mk_ 4 (madeCells #[.bool false] (n.o.length+1));generalize w2.alloc (.cells (madeCells #[.bool false] (n.o.length+1)) 4)=w3 at *;generalize w2.heap.size=g3 at *;refine rd 6 λK hK=>?_
     simp only [ga,gs,gz]
     go_simp
     refine hK.out _ _ trivial (λ_=>?_);clear hK K
     try simp only [ga,gs,gz,Act.put,sa,sz,ss]
     replace hb:=hb.mk_ 4 (madeCells #[.bool false] (n.o.length+1));generalize w3.alloc (.cells (madeCells #[.bool false] (n.o.length+1)) 4)=w4 at *;generalize w3.heap.size=g2 at *;refine tk 12 ?_;refine tk 13 ?_;refine rd 14 λK hK=>?_
     simp only [ga,gs,gz];have yc:w4.cell? ⟨p,6,none⟩=some (sQ none 0 0):=hb.box.cell 6;have fc:=hb.box.frozen 6
     go_simp
     clear yc fc;refine hK.out _ _ trivial (λ_=>?_);clear hK K
     try simp only [ga,gs,gz,Act.put,sa,sz,ss]
     replace hb:=hb.put 6 (sQ (some ⟨g2,0,none⟩) (n.o.length+1) (n.o.length+1));generalize w4.setCell ⟨p,6,none⟩ (sQ (some ⟨g2,0,none⟩) (n.o.length+1) (n.o.length+1))=w5 at *;refine tk 15 ?_;refine tk 16 ?_;refine rd 17 λK hK=>?_
     simp only [ga,gs,gz];have yc:w5.cell? ⟨p,7,none⟩=some (sQ none 0 0):=hb.box.cell 7;have fc:=hb.box.frozen 7
     go_simp
     clear yc fc;refine hK.out _ _ trivial (λ_=>?_);clear hK K
     try simp only [ga,gs,gz,Act.put,sa,sz,ss]
     replace hb:=hb.put 7 (sQ (some ⟨g3,0,none⟩) (n.o.length+1) (n.o.length+1));generalize w5.setCell ⟨p,7,none⟩ (sQ (some ⟨g3,0,none⟩) (n.o.length+1) (n.o.length+1))=w6 at *;refine Zn1 krZ ?_ _;refine Zd1 ?_;go_wp2_with fail
     go_meet
     exact ⟨g1,g2,g3,hb.fin (.tail _ (.tail _ (.head _))) (.head _) (.tail _ (.head _)) (by have h:=hb.nd;simp at h;omega)⟩
  ·simp only [ga,gs,gz]
   go_simp
   refine hK.out _ _ trivial (λ_=>?_);clear hK K
   try simp only [ga,gs,gz,Act.put,sa,sz,ss]
   replace hb:=hb.mk_ 4 (madeCells #[.bool false] (n.o.length+1));generalize w0.alloc (.cells (madeCells #[.bool false] (n.o.length+1)) 4)=w1 at *;generalize w0.heap.size=g2 at *;refine Zo1 (rs:=[4,8]) krZ sZ ?_;refine Zf1 (o:=_) rfl (λK hK=>?_) (Zf1 (o:=_) rfl (λK hK=>?_) (Zg1))
   ·simp only [ga,gs,gz]
    go_simp
    refine hK.out _ _ trivial (λ_=>?_);clear hK K
    try simp only [ga,gs,gz,Act.put,sa,sz,ss]
    replace hb:=hb.mk_ 3 (madeCells #[nQ iQ 0] (n.o.length+1));generalize w1.alloc (.cells (madeCells #[nQ iQ 0] (n.o.length+1)) 3)=w2 at *;generalize w1.heap.size=g1 at *;refine tk 9 ?_;refine tk 10 ?_;refine Zo1 (rs:=[8,11]) krZ sZ ?_;refine Zf1 (o:=_) rfl (λK hK=>?_) (Zf1 (o:=_) rfl (λK hK=>?_) (Zg1))
    ·simp only [ga,gs,gz]
     go_simp
     refine hK.out _ _ trivial (λ_=>?_);clear hK K
     try simp only [ga,gs,gz,Act.put,sa,sz,ss]
     replace hb:=hb.mk_ 4 (madeCells #[.bool false] (n.o.length+1));generalize w2.alloc (.cells (madeCells #[.bool false] (n.o.length+1)) 4)=w3 at *;generalize w2.heap.size=g3 at *;refine rd 11 λK hK=>?_
     simp only [ga,gs,gz];have yc:w3.cell? ⟨p,4,none⟩=some (sQ none 0 0):=hb.box.cell 4;have fc:=hb.box.frozen 4
     go_simp
     clear yc fc;refine hK.out _ _ trivial (λ_=>?_);clear hK K
     try simp only [ga,gs,gz,Act.put,sa,sz,ss]
     replace hb:=hb.put 4 (sQ (some ⟨g1,0,none⟩) (n.o.length+1) (n.o.length+1));generalize w3.setCell ⟨p,4,none⟩ (sQ (some ⟨g1,0,none⟩) (n.o.length+1) (n.o.length+1))=w4 at *;refine tk 12 ?_;refine tk 13 ?_;refine rd 14 λK hK=>?_
     simp only [ga,gs,gz];have yc:w4.cell? ⟨p,6,none⟩=some (sQ none 0 0):=hb.box.cell 6;have fc:=hb.box.frozen 6
     go_simp
     clear yc fc;refine hK.out _ _ trivial (λ_=>?_);clear hK K
     try simp only [ga,gs,gz,Act.put,sa,sz,ss]
     replace hb:=hb.put 6 (sQ (some ⟨g2,0,none⟩) (n.o.length+1) (n.o.length+1));generalize w4.setCell ⟨p,6,none⟩ (sQ (some ⟨g2,0,none⟩) (n.o.length+1) (n.o.length+1))=w5 at *;refine tk 15 ?_;refine tk 16 ?_;refine rd 17 λK hK=>?_
     simp only [ga,gs,gz];have yc:w5.cell? ⟨p,7,none⟩=some (sQ none 0 0):=hb.box.cell 7;have fc:=hb.box.frozen 7
     go_simp
     clear yc fc;refine hK.out _ _ trivial (λ_=>?_);clear hK K
     try simp only [ga,gs,gz,Act.put,sa,sz,ss]
     replace hb:=hb.put 7 (sQ (some ⟨g3,0,none⟩) (n.o.length+1) (n.o.length+1));generalize w5.setCell ⟨p,7,none⟩ (sQ (some ⟨g3,0,none⟩) (n.o.length+1) (n.o.length+1))=w6 at *;refine Zn1 krZ ?_ _;refine Zd1 ?_;go_wp2_with fail
     go_meet
     exact ⟨g1,g2,g3,hb.fin (.tail _ (.head _)) (.tail _ (.tail _ (.head _))) (.head _) (by have h:=hb.nd;simp at h;omega)⟩
    ·simp only [ga,gs,gz]
     have yc:w2.cell? ⟨p,4,none⟩=some (sQ none 0 0):=hb.box.cell 4;have fc:=hb.box.frozen 4
     go_simp
     clear yc fc;refine hK.out _ _ trivial (λ_=>?_);clear hK K
     try simp only [ga,gs,gz,Act.put,sa,sz,ss]
     replace hb:=hb.put 4 (sQ (some ⟨g1,0,none⟩) (n.o.length+1) (n.o.length+1));generalize w2.setCell ⟨p,4,none⟩ (sQ (some ⟨g1,0,none⟩) (n.o.length+1) (n.o.length+1))=w3 at *;refine tk 12 ?_;refine tk 13 ?_;refine Zo1 (rs:=[8,14]) krZ sZ ?_;refine Zf1 (o:=_) rfl (λK hK=>?_) (Zf1 (o:=_) rfl (λK hK=>?_) (Zg1))
     ·simp only [ga,gs,gz]
      go_simp
      refine hK.out _ _ trivial (λ_=>?_);clear hK K
      try simp only [ga,gs,gz,Act.put,sa,sz,ss]
      replace hb:=hb.mk_ 4 (madeCells #[.bool false] (n.o.length+1));generalize w3.alloc (.cells (madeCells #[.bool false] (n.o.length+1)) 4)=w4 at *;generalize w3.heap.size=g3 at *;refine rd 14 λK hK=>?_
      simp only [ga,gs,gz];have yc:w4.cell? ⟨p,6,none⟩=some (sQ none 0 0):=hb.box.cell 6;have fc:=hb.box.frozen 6
      go_simp
      clear yc fc;refine hK.out _ _ trivial (λ_=>?_);clear hK K
      try simp only [ga,gs,gz,Act.put,sa,sz,ss]
      replace hb:=hb.put 6 (sQ (some ⟨g2,0,none⟩) (n.o.length+1) (n.o.length+1));generalize w4.setCell ⟨p,6,none⟩ (sQ (some ⟨g2,0,none⟩) (n.o.length+1) (n.o.length+1))=w5 at *;refine tk 15 ?_;refine tk 16 ?_;refine rd 17 λK hK=>?_
      simp only [ga,gs,gz];have yc:w5.cell? ⟨p,7,none⟩=some (sQ none 0 0):=hb.box.cell 7;have fc:=hb.box.frozen 7
      go_simp
      clear yc fc;refine hK.out _ _ trivial (λ_=>?_);clear hK K
      try simp only [ga,gs,gz,Act.put,sa,sz,ss]
      replace hb:=hb.put 7 (sQ (some ⟨g3,0,none⟩) (n.o.length+1) (n.o.length+1));generalize w5.setCell ⟨p,7,none⟩ (sQ (some ⟨g3,0,none⟩) (n.o.length+1) (n.o.length+1))=w6 at *;refine Zn1 krZ ?_ _;refine Zd1 ?_;go_wp2_with fail
      go_meet
      exact ⟨g1,g2,g3,hb.fin (.tail _ (.head _)) (.tail _ (.tail _ (.head _))) (.head _) (by have h:=hb.nd;simp at h;omega)⟩
     ·simp only [ga,gs,gz]
      have yc:w3.cell? ⟨p,6,none⟩=some (sQ none 0 0):=hb.box.cell 6;have fc:=hb.box.frozen 6
      go_simp
      clear yc fc;refine hK.out _ _ trivial (λ_=>?_);clear hK K
      try simp only [ga,gs,gz,Act.put,sa,sz,ss]
      replace hb:=hb.put 6 (sQ (some ⟨g2,0,none⟩) (n.o.length+1) (n.o.length+1));generalize w3.setCell ⟨p,6,none⟩ (sQ (some ⟨g2,0,none⟩) (n.o.length+1) (n.o.length+1))=w4 at *;refine rd 8 λK hK=>?_
      simp only [ga,gs,gz]
      go_simp
      refine hK.out _ _ trivial (λ_=>?_);clear hK K
      try simp only [ga,gs,gz,Act.put,sa,sz,ss]
      replace hb:=hb.mk_ 4 (madeCells #[.bool false] (n.o.length+1));generalize w4.alloc (.cells (madeCells #[.bool false] (n.o.length+1)) 4)=w5 at *;generalize w4.heap.size=g3 at *;refine tk 15 ?_;refine tk 16 ?_;refine rd 17 λK hK=>?_
      simp only [ga,gs,gz];have yc:w5.cell? ⟨p,7,none⟩=some (sQ none 0 0):=hb.box.cell 7;have fc:=hb.box.frozen 7
      go_simp
      clear yc fc;refine hK.out _ _ trivial (λ_=>?_);clear hK K
      try simp only [ga,gs,gz,Act.put,sa,sz,ss]
      replace hb:=hb.put 7 (sQ (some ⟨g3,0,none⟩) (n.o.length+1) (n.o.length+1));generalize w5.setCell ⟨p,7,none⟩ (sQ (some ⟨g3,0,none⟩) (n.o.length+1) (n.o.length+1))=w6 at *;refine Zn1 krZ ?_ _;refine Zd1 ?_;go_wp2_with fail
      go_meet
      exact ⟨g1,g2,g3,hb.fin (.tail _ (.head _)) (.tail _ (.tail _ (.head _))) (.head _) (by have h:=hb.nd;simp at h;omega)⟩
   ·simp only [ga,gs,gz]
    go_simp
    refine hK.out _ _ trivial (λ_=>?_);clear hK K
    try simp only [ga,gs,gz,Act.put,sa,sz,ss]
    replace hb:=hb.mk_ 4 (madeCells #[.bool false] (n.o.length+1));generalize w1.alloc (.cells (madeCells #[.bool false] (n.o.length+1)) 4)=w2 at *;generalize w1.heap.size=g3 at *;refine rd 4 λK hK=>?_
    simp only [ga,gs,gz]
    go_simp
    refine hK.out _ _ trivial (λ_=>?_);clear hK K
    try simp only [ga,gs,gz,Act.put,sa,sz,ss]
    replace hb:=hb.mk_ 3 (madeCells #[nQ iQ 0] (n.o.length+1));generalize w2.alloc (.cells (madeCells #[nQ iQ 0] (n.o.length+1)) 3)=w3 at *;generalize w2.heap.size=g1 at *;refine tk 9 ?_;refine tk 10 ?_;refine rd 11 λK hK=>?_
    simp only [ga,gs,gz];have yc:w3.cell? ⟨p,4,none⟩=some (sQ none 0 0):=hb.box.cell 4;have fc:=hb.box.frozen 4
    go_simp
    clear yc fc;refine hK.out _ _ trivial (λ_=>?_);clear hK K
    try simp only [ga,gs,gz,Act.put,sa,sz,ss]
    replace hb:=hb.put 4 (sQ (some ⟨g1,0,none⟩) (n.o.length+1) (n.o.length+1));generalize w3.setCell ⟨p,4,none⟩ (sQ (some ⟨g1,0,none⟩) (n.o.length+1) (n.o.length+1))=w4 at *;refine tk 12 ?_;refine tk 13 ?_;refine rd 14 λK hK=>?_
    simp only [ga,gs,gz];have yc:w4.cell? ⟨p,6,none⟩=some (sQ none 0 0):=hb.box.cell 6;have fc:=hb.box.frozen 6
    go_simp
    clear yc fc;refine hK.out _ _ trivial (λ_=>?_);clear hK K
    try simp only [ga,gs,gz,Act.put,sa,sz,ss]
    replace hb:=hb.put 6 (sQ (some ⟨g2,0,none⟩) (n.o.length+1) (n.o.length+1));generalize w4.setCell ⟨p,6,none⟩ (sQ (some ⟨g2,0,none⟩) (n.o.length+1) (n.o.length+1))=w5 at *;refine tk 15 ?_;refine tk 16 ?_;refine rd 17 λK hK=>?_
    simp only [ga,gs,gz];have yc:w5.cell? ⟨p,7,none⟩=some (sQ none 0 0):=hb.box.cell 7;have fc:=hb.box.frozen 7
    go_simp
    clear yc fc;refine hK.out _ _ trivial (λ_=>?_);clear hK K
    try simp only [ga,gs,gz,Act.put,sa,sz,ss]
    replace hb:=hb.put 7 (sQ (some ⟨g3,0,none⟩) (n.o.length+1) (n.o.length+1));generalize w5.setCell ⟨p,7,none⟩ (sQ (some ⟨g3,0,none⟩) (n.o.length+1) (n.o.length+1))=w6 at *;refine Zn1 krZ ?_ _;refine Zd1 ?_;go_wp2_with fail
    go_meet
    exact ⟨g1,g2,g3,hb.fin (.head _) (.tail _ (.tail _ (.head _))) (.tail _ (.head _)) (by have h:=hb.nd;simp at h;omega)⟩
  ·simp only [ga,gs,gz]
   go_simp
   refine hK.out _ _ trivial (λ_=>?_);clear hK K
   try simp only [ga,gs,gz,Act.put,sa,sz,ss]
   replace hb:=hb.mk_ 4 (madeCells #[.bool false] (n.o.length+1));generalize w0.alloc (.cells (madeCells #[.bool false] (n.o.length+1)) 4)=w1 at *;generalize w0.heap.size=g3 at *;refine Zo1 (rs:=[4,6]) krZ sZ ?_;refine Zf1 (o:=_) rfl (λK hK=>?_) (Zf1 (o:=_) rfl (λK hK=>?_) (Zg1))
   ·simp only [ga,gs,gz]
    go_simp
    refine hK.out _ _ trivial (λ_=>?_);clear hK K
    try simp only [ga,gs,gz,Act.put,sa,sz,ss]
    replace hb:=hb.mk_ 3 (madeCells #[nQ iQ 0] (n.o.length+1));generalize w1.alloc (.cells (madeCells #[nQ iQ 0] (n.o.length+1)) 3)=w2 at *;generalize w1.heap.size=g1 at *;refine tk 9 ?_;refine tk 10 ?_;refine Zo1 (rs:=[6,11]) krZ sZ ?_;refine Zf1 (o:=_) rfl (λK hK=>?_) (Zf1 (o:=_) rfl (λK hK=>?_) (Zg1))
    ·simp only [ga,gs,gz]
     go_simp
     refine hK.out _ _ trivial (λ_=>?_);clear hK K
     try simp only [ga,gs,gz,Act.put,sa,sz,ss]
     replace hb:=hb.mk_ 4 (madeCells #[.bool false] (n.o.length+1));generalize w2.alloc (.cells (madeCells #[.bool false] (n.o.length+1)) 4)=w3 at *;generalize w2.heap.size=g2 at *;refine rd 11 λK hK=>?_
     simp only [ga,gs,gz];have yc:w3.cell? ⟨p,4,none⟩=some (sQ none 0 0):=hb.box.cell 4;have fc:=hb.box.frozen 4
     go_simp
     clear yc fc;refine hK.out _ _ trivial (λ_=>?_);clear hK K
     try simp only [ga,gs,gz,Act.put,sa,sz,ss]
     replace hb:=hb.put 4 (sQ (some ⟨g1,0,none⟩) (n.o.length+1) (n.o.length+1));generalize w3.setCell ⟨p,4,none⟩ (sQ (some ⟨g1,0,none⟩) (n.o.length+1) (n.o.length+1))=w4 at *;refine tk 12 ?_;refine tk 13 ?_;refine rd 14 λK hK=>?_
     simp only [ga,gs,gz];have yc:w4.cell? ⟨p,6,none⟩=some (sQ none 0 0):=hb.box.cell 6;have fc:=hb.box.frozen 6
     go_simp
     clear yc fc;refine hK.out _ _ trivial (λ_=>?_);clear hK K
     try simp only [ga,gs,gz,Act.put,sa,sz,ss]
     replace hb:=hb.put 6 (sQ (some ⟨g2,0,none⟩) (n.o.length+1) (n.o.length+1));generalize w4.setCell ⟨p,6,none⟩ (sQ (some ⟨g2,0,none⟩) (n.o.length+1) (n.o.length+1))=w5 at *;refine tk 15 ?_;refine tk 16 ?_;refine rd 17 λK hK=>?_
     simp only [ga,gs,gz];have yc:w5.cell? ⟨p,7,none⟩=some (sQ none 0 0):=hb.box.cell 7;have fc:=hb.box.frozen 7
     go_simp
     clear yc fc;refine hK.out _ _ trivial (λ_=>?_);clear hK K
     try simp only [ga,gs,gz,Act.put,sa,sz,ss]
     replace hb:=hb.put 7 (sQ (some ⟨g3,0,none⟩) (n.o.length+1) (n.o.length+1));generalize w5.setCell ⟨p,7,none⟩ (sQ (some ⟨g3,0,none⟩) (n.o.length+1) (n.o.length+1))=w6 at *;refine Zn1 krZ ?_ _;refine Zd1 ?_;go_wp2_with fail
     go_meet
     exact ⟨g1,g2,g3,hb.fin (.tail _ (.head _)) (.head _) (.tail _ (.tail _ (.head _))) (by have h:=hb.nd;simp at h;omega)⟩
    ·simp only [ga,gs,gz]
     have yc:w2.cell? ⟨p,4,none⟩=some (sQ none 0 0):=hb.box.cell 4;have fc:=hb.box.frozen 4
     go_simp
     clear yc fc;refine hK.out _ _ trivial (λ_=>?_);clear hK K
     try simp only [ga,gs,gz,Act.put,sa,sz,ss]
     replace hb:=hb.put 4 (sQ (some ⟨g1,0,none⟩) (n.o.length+1) (n.o.length+1));generalize w2.setCell ⟨p,4,none⟩ (sQ (some ⟨g1,0,none⟩) (n.o.length+1) (n.o.length+1))=w3 at *;refine rd 6 λK hK=>?_
     simp only [ga,gs,gz]
     go_simp
     refine hK.out _ _ trivial (λ_=>?_);clear hK K
     try simp only [ga,gs,gz,Act.put,sa,sz,ss]
     replace hb:=hb.mk_ 4 (madeCells #[.bool false] (n.o.length+1));generalize w3.alloc (.cells (madeCells #[.bool false] (n.o.length+1)) 4)=w4 at *;generalize w3.heap.size=g2 at *;refine tk 12 ?_;refine tk 13 ?_;refine rd 14 λK hK=>?_
     simp only [ga,gs,gz];have yc:w4.cell? ⟨p,6,none⟩=some (sQ none 0 0):=hb.box.cell 6;have fc:=hb.box.frozen 6
     go_simp
     clear yc fc;refine hK.out _ _ trivial (λ_=>?_);clear hK K
     try simp only [ga,gs,gz,Act.put,sa,sz,ss]
     replace hb:=hb.put 6 (sQ (some ⟨g2,0,none⟩) (n.o.length+1) (n.o.length+1));generalize w4.setCell ⟨p,6,none⟩ (sQ (some ⟨g2,0,none⟩) (n.o.length+1) (n.o.length+1))=w5 at *;refine tk 15 ?_;refine tk 16 ?_;refine rd 17 λK hK=>?_
     simp only [ga,gs,gz];have yc:w5.cell? ⟨p,7,none⟩=some (sQ none 0 0):=hb.box.cell 7;have fc:=hb.box.frozen 7
     go_simp
     clear yc fc;refine hK.out _ _ trivial (λ_=>?_);clear hK K
     try simp only [ga,gs,gz,Act.put,sa,sz,ss]
     replace hb:=hb.put 7 (sQ (some ⟨g3,0,none⟩) (n.o.length+1) (n.o.length+1));generalize w5.setCell ⟨p,7,none⟩ (sQ (some ⟨g3,0,none⟩) (n.o.length+1) (n.o.length+1))=w6 at *;refine Zn1 krZ ?_ _;refine Zd1 ?_;go_wp2_with fail
     go_meet
     exact ⟨g1,g2,g3,hb.fin (.tail _ (.head _)) (.head _) (.tail _ (.tail _ (.head _))) (by have h:=hb.nd;simp at h;omega)⟩
   ·simp only [ga,gs,gz]
    go_simp
    refine hK.out _ _ trivial (λ_=>?_);clear hK K
    try simp only [ga,gs,gz,Act.put,sa,sz,ss]
    replace hb:=hb.mk_ 4 (madeCells #[.bool false] (n.o.length+1));generalize w1.alloc (.cells (madeCells #[.bool false] (n.o.length+1)) 4)=w2 at *;generalize w1.heap.size=g2 at *;refine rd 4 λK hK=>?_
    simp only [ga,gs,gz]
    go_simp
    refine hK.out _ _ trivial (λ_=>?_);clear hK K
    try simp only [ga,gs,gz,Act.put,sa,sz,ss]
    replace hb:=hb.mk_ 3 (madeCells #[nQ iQ 0] (n.o.length+1));generalize w2.alloc (.cells (madeCells #[nQ iQ 0] (n.o.length+1)) 3)=w3 at *;generalize w2.heap.size=g1 at *;refine tk 9 ?_;refine tk 10 ?_;refine rd 11 λK hK=>?_
    simp only [ga,gs,gz];have yc:w3.cell? ⟨p,4,none⟩=some (sQ none 0 0):=hb.box.cell 4;have fc:=hb.box.frozen 4
    go_simp
    clear yc fc;refine hK.out _ _ trivial (λ_=>?_);clear hK K
    try simp only [ga,gs,gz,Act.put,sa,sz,ss]
    replace hb:=hb.put 4 (sQ (some ⟨g1,0,none⟩) (n.o.length+1) (n.o.length+1));generalize w3.setCell ⟨p,4,none⟩ (sQ (some ⟨g1,0,none⟩) (n.o.length+1) (n.o.length+1))=w4 at *;refine tk 12 ?_;refine tk 13 ?_;refine rd 14 λK hK=>?_
    simp only [ga,gs,gz];have yc:w4.cell? ⟨p,6,none⟩=some (sQ none 0 0):=hb.box.cell 6;have fc:=hb.box.frozen 6
    go_simp
    clear yc fc;refine hK.out _ _ trivial (λ_=>?_);clear hK K
    try simp only [ga,gs,gz,Act.put,sa,sz,ss]
    replace hb:=hb.put 6 (sQ (some ⟨g2,0,none⟩) (n.o.length+1) (n.o.length+1));generalize w4.setCell ⟨p,6,none⟩ (sQ (some ⟨g2,0,none⟩) (n.o.length+1) (n.o.length+1))=w5 at *;refine tk 15 ?_;refine tk 16 ?_;refine rd 17 λK hK=>?_
    simp only [ga,gs,gz];have yc:w5.cell? ⟨p,7,none⟩=some (sQ none 0 0):=hb.box.cell 7;have fc:=hb.box.frozen 7
    go_simp
    clear yc fc;refine hK.out _ _ trivial (λ_=>?_);clear hK K
    try simp only [ga,gs,gz,Act.put,sa,sz,ss]
    replace hb:=hb.put 7 (sQ (some ⟨g3,0,none⟩) (n.o.length+1) (n.o.length+1));generalize w5.setCell ⟨p,7,none⟩ (sQ (some ⟨g3,0,none⟩) (n.o.length+1) (n.o.length+1))=w6 at *;refine Zn1 krZ ?_ _;refine Zd1 ?_;go_wp2_with fail
    go_meet
    exact ⟨g1,g2,g3,hb.fin (.head _) (.tail _ (.head _)) (.tail _ (.tail _ (.head _))) (by have h:=hb.nd;simp at h;omega)⟩
 case rest=>
  clear Hb hY x0 x1 b4 b6 b7 f4 f6 f7 h8 hr Hz;obtain ⟨g1,g2,g3,hN⟩:=hcut;obtain ⟨Hv,gd,gc,HY,H0,HT,HV,HU,HN,h2,h7,h5⟩:=hN;rw [made_arr] at h2 h7 h5;have hV:=Rt.bW hh.out
  have HB:lZ n p g1 g2 g3 #[sQ A n.inn.length c,sQ N n.o.length d,sQ O n.o.length oc,sQ (some ⟨gl,0,none⟩) (n.o.length+1) (n.o.length+1),sQ (some ⟨g1,0,none⟩) (n.o.length+1) (n.o.length+1),nQ iQ lo,sQ (some ⟨g2,0,none⟩) (n.o.length+1) (n.o.length+1),sQ (some ⟨g3,0,none⟩) (n.o.length+1) (n.o.length+1),sQ none 0 0] W4 (Rt.bV n 0 []) wc:=
   ⟨Hv,HN,by rw [Rt.firstMid_zero,qae,List.map_replicate];exact h2,by rw [List.map_replicate];exact h7,by rw [List.map_replicate];exact h5⟩
  have hI:∀u∈Nt.sO n.o,1<=u/\u<=n.o.length:=Kn.dQ _ _;have h9:=λk=>@Rt.firstMid_next n k
  have He:=λk l id h0 h1=>@Rt.firstMid_in n k l id h0 h1
  have Hx:=λk l=>Rt.firstMid_len n k l
  rw [hV] at h9 He;clear Hv HN h2 h7 h5;generalize hbxv:#[Zb1 A n.inn.length c,sQ N n.o.length d,sQ O n.o.length oc,sQ (some ⟨gl,0,none⟩) (n.o.length+1) (n.o.length+1),sQ (some ⟨g1,0,none⟩) (n.o.length+1) (n.o.length+1),nQ iQ lo,sQ (some ⟨g2,0,none⟩) (n.o.length+1) (n.o.length+1),sQ (some ⟨g3,0,none⟩) (n.o.length+1) (n.o.length+1),sQ none 0 0]=bx at *;have hX:=zI (show bx[4]? = some (sQ (some ⟨g1,0,none⟩) (n.o.length+1) (n.o.length+1)) by rw [←hbxv];rfl);obtain ⟨HE,hW,HW,H3,gf,Hi,hG⟩:=zd7 HB hI h9 He Hx hV hbxv;clear HB hI h9 He Hx hV hbxv;go_wp2_with fail
  go_loopw [10] (λt wx=>∃(k q:Nat),k<=n.o.length/\q=n.o.length-k/\t=nQ iQ (q:Int)/\lZ n p g1 g2 g3 bx W4 (Rt.bV n k []) wx) (λt _=>(intOf t).toNat)
  case atStart=>exact ⟨0,_,Zt _,rfl,by simp,HE.out⟩
  case round=>
   obtain ⟨k,q,hk,hq,rfl,hF⟩:=hrel;clear HE
   by_cases gg:k<n.o.length
   ·obtain ⟨i,rfl⟩:∃i,q=i+1:=⟨q-1,by omega⟩
    have HH:i<n.o.length:=by omega
    have hi:n.o.length-1-k=i:=by omega
    have hz:=HW.out k;rw [hi] at hz;obtain ⟨bo,oo,H5,-,hc⟩:=Hu.out.below hF.later (lrZ _) i (by rw [Hi.out];exact HH);have HZ:=hW.out ((Nt.sO n.o).getD i 0) (by rw [qa2 (show i<(Nt.sO n.o).length by rw [Hi.out];exact HH)];exact gmZ _);obtain ⟨j,hj⟩:∃j:Nat,(Nt.sO n.o).getD i 0=(j:Int)+1:=⟨((Nt.sO n.o).getD i 0-1).toNat,by omega⟩
    have hM:j<n.o.length:=by omega
    have HC:Nt.iF n.o ((j:Int)+1)=n.o[j].ins:=by unfold Nt.iF;rw [Nt.dI hM]
    rw [hj] at hz hc;rw [HC] at hz;obtain ⟨b1,o1,J,jc,Hq,y8,hJ⟩:=(HR.out.below hQ.out (lrZ _)).nK hM;have H4:=(hx.out.2.2 _ (gmZ hM)).2.2.1;have hn:=Rt.mZ hh.out hM;have x8:=hF.later.cell y8;have x1:=(hF.later.blk H7.out).cell 1;simp at x1;rw [Hq] at x1;generalize n.o[j].ins=il at *;have j1:iQ.wrap ((j:Int)+1-1)=(j:Int):=by rw [Zc1 _ oZ];omega
    have j3:(0:Int)<=(j:Int):=by omega
    have j4:(j:Int)<n.o.length:=by omega
    have i1:iQ.wrap ((i:Int)+1-1)=(i:Int):=by rw [Zc1 _ oZ];omega
    have i3:(0:Int)<=(i:Int):=by omega
    have i4:(i:Int)<n.o.length:=by omega
    subst H5;have Hl:=zI (λm=>hF.to_later (Later.drewN (Later.refl wr) m));obtain ⟨HQ,H8,hD,HJ⟩:=zd4 hq hz hn hJ;clear hz hn hJ;clear hF hi hj HC Hq y8 HZ hq;go_wp2_with fail
    go_quiet (fail)
    have Ho:=zI (Hl.out nq);generalize wr.drewN nq=wd at *;clear Hl hc x8 x1 j1 i1;go_wp2_with fail;obtain ⟨wo,rfl⟩:∃wo,wo=wr:=⟨wr,rfl⟩
    go_loopw [80] (λt wx=>∃m:Nat,m<=il.length/\t=nQ iQ (m:Int)/\lZ n p g1 g2 g3 bx W4 (Rt.bV n k (il.take m)) wx) (λt _=>il.length-(intOf t).toNat)
    case atStart=>exact ⟨0,Zt _,rfl,Ho.out⟩
    case round=>
     clear Ho;obtain ⟨m,hm,rfl,hF⟩:=hrel
     by_cases hU:m<il.length
     ·obtain ⟨b2,o2,gb,-,Hm⟩:=HJ.out.below hF.later (lrZ _) m hU
      rw [qa2 hU] at Hm;have hB:=hD.out _ (gmZ hU);obtain ⟨u,hu⟩:=ezZ hB.1
      have HM:=zI (show Rt.bV n k (il.take (m+1))=(Rt.bV n k (il.take m)).set u ((i+1:Nat):Int) by
       rw [Zb hU,H3.out _ _ _ hB.1 hB.2,hu,tnZ,HQ.out])
      rw [hu] at Hm hB;have HK:=gf.out k (il.take m);have H1:u<n.o.length+1:=by omega
      obtain ⟨y,hy⟩:=hF.first.has (j:=u) (by rw [qaI,HK];exact H1)
      have fy:=hF.first.frozen u
      have x4:wr.cell? ⟨p,4,none⟩=some (sQ (some ⟨g1,0,none⟩) (n.o.length+1) (n.o.length+1)):=by rw [hF.box.cell,hX.out]
      have Hg:=hF.put oZ oZ oZ oZ u ((i+1:Nat):Int);rw [←HM.out] at Hg;have m1:(m:Int)<il.length:=by omega
      have u0:(0:Int)<=(u:Int):=by omega
      have u1:(u:Int)<(n.o.length:Int)+1:=by omega
      have u2:(u:Int)<((n.o.length+1:Nat):Int):=by omega
      subst gb;have H6:=zI Hg;clear Hg;clear hF hB hu HK HM;go_wp2_with fail;go_roundw
      case rel=>exact ⟨m+1,by omega,by go_num,H6.out⟩
      case measure=>simp [intOf];omega
     ·obtain rfl:m=il.length:=by omega
      rw [Zg,H8.out] at hF;have q1:iQ.wrap ((i:Int)+1-1)=(i:Int):=by rw [Zc1 _ oZ];omega
      have HF:=zI hF;clear hF;go_wp2_with fail;clear q1;go_roundw
      case rel=>exact ⟨k+1,i,by omega,by have:=HQ.out;omega,rfl,HF.out⟩
      case measure=>first|(simp [intOf];done)|(simp [intOf];omega)
   ·obtain rfl:k=n.o.length:=by omega
    obtain rfl:q=0:=by omega
    clear hq;have x7:wr.cell? ⟨p,7,none⟩=some (sQ (some ⟨g3,0,none⟩) (n.o.length+1) (n.o.length+1)):=by rw [hF.box.cell,←hG.out];rfl
    obtain ⟨y,hy⟩:=hF.aG.has (j:=0) sZ;have fy:=hF.aG.frozen 0;have q0:(0:Int)<(n.o.length:Int)+1:=by omega
    have Hd:=hF.aG.aO 0 (.bool true);rw [qaM] at Hd;have hH:=hF.box.far (p:=⟨g3,0,none⟩) (show p≠g3 by omega) (.bool true);have Hj:=hF.first.far (p:=⟨g3,0,none⟩) (show g1≠g3 by omega) (.bool true)
    have hs:=hF.kept.far (p:=⟨g3,0,none⟩) (show g2≠g3 by omega) (.bool true);have hC:=hF.later.set (p:=⟨g3,0,none⟩) (show W4.heap.size<=g3 by omega) (.bool true);have hA:(wr.setCell ⟨g3,0,none⟩ (.bool true)).heap.size=wr.heap.size:=by simp
    have h6:=hF.first.lt
    have Hf:=hF.kept.lt;have hZ:=hF.aG.lt;obtain ⟨H9,h3,HS,hS,ht,Hc⟩:=zd6 Hd hH Hj hs hC hA;clear Hd hH Hj hs hC hA;clear hF;go_wp2_with fail
    go_ret2
    refine ⟨.inr ⟨hh.out,⟨A,N,O,c,d,oc,gl,p,g1,g2,g3,wr.heap.size⟩,W4,⟨hx.out,hh.out,h12,HR.out.below hQ.out (lrZ _),hd,Hu.out,Hh.out,gd,gc,HY,H0,HT,HV,HU,h6,Hf,hZ⟩,hQ.out,rfl,?_⟩,hQ.out.trans ht.out⟩;refine ⟨ht.out,⟨sQ none 0 0,?_,World.ownsRow_nil _ _ _ _⟩,?_,hS.out,H9.out,by simp,by simp [Rt.start],by rw [Hc.out];exact lrZ _⟩
    ·have:=h3.out
     rw [←hG.out,←H2.out] at this;exact this
    ·rw [Hi.out];exact HS.out
def qi5 (N:Nat) (l:List Int):List Bool:=l.foldl (λkb id=>kb.set id.toNat true) (Zc (N+1) false)
theorem qi6 (N:Nat) (l:List Int) (id:Int):qi5 N (l++[id])=(qi5 N l).set id.toNat true:=by simp [qi5]
theorem kbTo_at (N:Nat) {l:List Int} (hl:∀z∈l,1<=z/\z<=N) {id:Nat} (hid:id<=N):Ck.at_ (qi5 N l) id=l.contains (id:Int):=by
 have key:∀(l:List Int) (kb:List Bool),(∀z∈l,1<=z/\z<=N)->kb.length=N+1->(l.foldl (λkb id=>kb.set id.toNat true) kb).getD id false=(kb.getD id false || l.contains (id:Int)):=by
  intro l
  induction l with
  | nil=>intro kb _ _;simp
  | cons x r ih=>
   intro kb h hk;have hx:=h x sZ;rw [List.foldl_cons,ih _ (λz hz=>h z (by simp [hz])) (by rw [List.length_set];exact hk)];rw [gdZ,gdZ,List.getElem?_set]
   by_cases e:x.toNat=id
   ·have e2:(id:Int)=x:=by omega
    rw [ipZ e,ipZ (show x.toNat<kb.length by omega),e2];simp
   ·have e2:¬(id:Int)=x:=by omega
    simp [e,e2]
 unfold Ck.at_ qi5;rw [tnZ,key l _ hl sZ]
 have h0:(Zc (N+1) false).getD id false=false:=by
  rw [gdZ,List.getElem?_replicate]
  split<;>rfl
 rw [h0]
 rfl
theorem tJ.of {n:aA} {keep:List Int} (h:∀z∈keep,1<=z/\z<=n.o.length):tJ n keep (qi5 n.o.length keep):=λid ha=>kbTo_at n.o.length h ha
theorem RtM.set_kept {a:RtA} {n:aA} {kb:List Bool} {W0 W:Zp1} {s:RtS} (hS:a.Still n W0) (h:RtM a n kb W0 s W) (i:Nat) (b:Bool):RtM a n (kb.set i b) W0 s (W.setCell ⟨a.g2,i,none⟩ (.bool b)):=by
 have i1:=hS.hp;have i2:=hS.h1;have i3:=hS.h2;have i4:=hS.h3;have i5:=hS.n12;have i6:=hS.n23;have i7:=hS.b2;have i8:=h.hB;obtain ⟨v,hb,ho⟩:=h.box;have hk:=h.kept.aO i (.bool b);rw [qaM] at hk;have ha:=Below.heap_setCell W ⟨a.g2,i,none⟩ (.bool b);exact ⟨h.later.set (p:=⟨a.g2,i,none⟩) soZ _,⟨v,hb.far (p:=⟨a.g2,i,none⟩) soZ _,qaa ho λg hg=>ha g (by have:=(ho.lt g hg).1;show g≠a.g2;omega)⟩,h.first.far (p:=⟨a.g2,i,none⟩) soZ _,hk,h.aG.far (p:=⟨a.g2,i,none⟩) soZ _,by rw [List.length_set];exact h.lk,h.lp,by simpa using h.hB⟩
theorem Rt.bwdN_zero {n:aA} (h:Nt.check n=0) (keep:List Int) {k:Nat} (hk:k<=n.o.length):Ck.at_ (eF n keep k).aG 0=true:=(qbP h keep (k:=k) (by rw [Rt.bW h];exact hk)).zero
def qbr (N:Nat) (keep:List Int):Bool:=keep.all λz=>decide (1<=z)&&decide (z<=(N:Int))
theorem nO {N:Nat} {keep:List Int}:qbr N keep=true↔∀z∈keep,1<=z/\z<=N:=by simp [qbr]
theorem qgV {N:Nat} {keep:List Int} {k:Nat} (hk:k<keep.length) (h:¬(1<=keep[k]/\keep[k]<=N)):qbr N keep=false:=by
 cases hb:qbr N keep
 ·rfl
 ·exact absurd (nO.1 hb _ (gmZ hk)) h
def LowerP (n:aA) (keep:List Int) (W:Zp1) (e:Ending) (w':Zp1):Prop:=
 Later W w'/\((Nt.check n≠0/\e=.returned (.tuple #[sQ none 0 0,nQ iQ (Nt.check n)]))∨(Nt.check n=0/\qbr n.o.length keep=false/\e=.returned (.tuple #[sQ none 0 0,nQ iQ 11]))∨
  (Nt.check n=0/\qbr n.o.length keep=true/\∃C cc,e=.returned (.tuple #[sQ C (Rt.lW n keep).code.length cc,nQ iQ 0])/\aW w' C (Rt.lW n keep).code))
def tQ (n:aA) (keep:List Int) (W:Zp1) (e:Ending) (w':Zp1):Prop:=
 Later W w'/\((Nt.check n≠0/\e=.returned (.tuple #[sQ none 0 0,nQ iQ (Nt.check n)]))∨(Nt.check n=0/\qbr n.o.length keep=false/\e=.returned (.tuple #[sQ none 0 0,nQ iQ 11]))∨
  (Nt.check n=0/\qbr n.o.length keep=true/\∃C cc,e=.returned (.tuple #[sQ C (Rt.lW n keep).code.length cc,nQ iQ 0])/\aW w' C (Rt.lW n keep).code/\∀a,C=some a->W.heap.size<=a.block))
theorem tQ.p {n:aA} {keep:List Int} {W:Zp1} {e:Ending} {w':Zp1} (h:tQ n keep W e w'):LowerP n keep W e w':=by
 obtain ⟨h1,h2|h2|⟨a,b,C,cc,c,d,-⟩⟩:=h
 ·exact ⟨h1,.inl h2⟩
 ·exact ⟨h1,.inr (.inl h2)⟩
 ·exact ⟨h1,.inr (.inr ⟨a,b,C,cc,c,d⟩)⟩
set_option maxRecDepth 100000 in
theorem qcj (A N K:Option Addr) (c d ck:Nat) (n:aA) (keep:List Int) (W:Zp1) (hok:n.ok) (hR:bC W A N n) (hd:n.o.length<=d) (h12:n.o.length<=12) (hK:Ints iQ W K keep) (hkl:keep.length<=9223372036854775807):
  Calls prog 78 #[.agg #[sQ A n.inn.length c,sQ N n.o.length d],sQ K keep.length ck] W (tQ n keep W):=by
 have h8:=Blk.new W 26 #[sQ A n.inn.length c,sQ N n.o.length d];have Hi:Later W (W.alloc (.cells #[sQ A n.inn.length c,sQ N n.o.length d] 26)):=(Later.refl W).alloc _;obtain ⟨HR,Hq,hJ,hC,HK⟩:=zd5 hR hok h8 Hi hK;clear hR hok h8 Hi hK;go_in;go_wp2_with fail;generalize W.alloc (.cells #[sQ A n.inn.length c,sQ N n.o.length d] 26)=W1 at *;refine (qfA A N c d n W1 Hq.out (HR.out.below hC.out (lrZ _)) hd h12).mono ?_;rintro e W2 ⟨⟨hb,rfl⟩|⟨hb,a,W0,hS,hg,rfl,hM⟩,he⟩
 ·have HE:(Nt.check n != 0)=true:=by simp [hb]
  have hn:=hC.out.trans he;obtain ⟨hq,hF⟩:=zd2 hb hn;clear hb hn;clear he;go_wp2_with fail
  go_ret2
  exact ⟨hF.out,.inl ⟨hq.out,rfl⟩⟩
 have h0:=he.blk hJ.out;have HF:W.heap.size<a.p:=by have h1:=hJ.out.lt;have h2:=Below.size hg;have h3:=hS.hp;omega
 have hn:=hC.out.trans he;have hs:=hC.out.trans hg;have hl:=(Nt.dD (Nt.aL hb).2.2.2.2.2.2.1).2;obtain ⟨lu,hT⟩:=ezZ (show 0<=Nt.aH n.o by omega);rw [hT] at hl;have h6:=Rt.mY hb;have Hj:=λk h=>Rt.iM hb h12 keep k h
 have h7:=Rt.mW hb keep;have hZ:=Rt.bW hb;have hz:=λk (h:k<=n.o.length)=>Rt.bwdN_zero hb keep h
 obtain ⟨hq,Hp,hF,hv,HS,HM,Ha,Hw,Hm⟩:=zd9 hb h0 hn hs hS hM hT h6 Hj;obtain ⟨HD,hE,Hz⟩:=zd3 h7 hZ hz;clear hb h0 hn hs hS hM hT h6 Hj h7 hZ hz;clear hg he hJ;go_wp2_with fail
 go_loopw [9,20] (λ_ t wx=>∃k:Nat,k<=keep.length/\t=nQ iQ (k:Int)/\(∀z∈keep.take k,1<=z/\z<=n.o.length)/\RtM a n (qi5 n.o.length (keep.take k)) W0 (Rt.start (n.o.length+1)) wx/\Later W wx/\Blk wx W.heap.size 26 #[sQ A n.inn.length c,sQ N n.o.length d]) (λ_ t _=>keep.length-(intOf t).toNat)
 case atStart=>exact ⟨0,Zt _,rfl,by simp,HM.out,hF.out,Hp.out⟩
 case round=>
  obtain ⟨k,hk,rfl,ha,hf,hi,hr⟩:=hrel;clear HM
  by_cases hD:k<keep.length
  ·obtain ⟨b,off,Hn,-,hc⟩:=HK.out.below hi (lrZ _) k hD
   rw [qa2 hD] at hc;have x1:=hr.cell 1;simp at x1;have hh:=@qgV n.o.length keep k hD;have HT:=zI (Zb hD);obtain ⟨v,-,-,-,-,-,-,-,-,c6,-,-⟩:=hf.eO;have k0:(k:Int)<keep.length:=by omega
   subst Hn;generalize keep[k]=z at *
   by_cases hA:1<=z/\z<=n.o.length
   ·obtain ⟨u,hu⟩:=ezZ (show 0<=z by omega)
    have Hr:u<=n.o.length:=by omega
    have x0:=hf.jN Hr;have f0:wr.frozen? ⟨a.g2,u,none⟩=false:=hf.kept.frozen u;have hH:=hf.set_kept HS.out u true;have Hg:=hr.far (p:=⟨a.g2,u,none⟩) (by have:=HS.out.h2;show W.heap.size≠a.g2;omega) (.bool true);have hY:=hi.set (p:=⟨a.g2,u,none⟩) (by have:=HS.out.h2;show W.heap.size<=a.g2;omega) (.bool true);have ht:qi5 n.o.length (keep.take (k+1))=(qi5 n.o.length (keep.take k)).set u true:=by rw [HT.out,qi6,hu,tnZ]
    rw [←ht] at hH
    have hj:∀y∈keep.take (k+1),1<=y/\y<=n.o.length:=λy hy=>by
     rw [HT.out] at hy;rcases List.mem_append.1 hy with h|h
     ·exact ha y h
     ·simp at h;subst h;exact hA
    have e1:decide (z<1)=false:=by simp;omega
    have e2:decide ((n.o.length:Int)<z)=false:=by simp;omega
    have e3:¬z<1:=by omega
    have e4:¬(n.o.length:Int)<z:=by omega
    subst hu;have q1:(0:Int)<=(u:Int):=by omega
    have q2:(u:Int)<((n.o.length+1:Nat):Int):=by omega
    obtain ⟨HB,Hs,Hv,hV⟩:=zd4 hH Hg hY hj;clear hH Hg hY hj;clear hf hi hr ha hh HT ht hA;go_wp2_with fail;go_roundw
    case rel=>exact ⟨k+1,by omega,by go_num,hV.out,HB.out,Hv.out,Hs.out⟩
    case measure=>simp [intOf];omega
   ·have HN:=zI (hh hA)
    have hI:=zI hi;clear hi;clear hf hr ha hh HT
    by_cases h1:z<1
    ·have e1:decide (z<1)=true:=by simp [h1]
     clear hA;go_wp2_with fail
     go_ret2
     exact ⟨hI.out,.inr (.inl ⟨hq.out,HN.out,rfl⟩)⟩
    ·have e1:decide (z<1)=false:=by simp;omega
     have e2:decide ((n.o.length:Int)<z)=true:=by simp;omega
     have e4:(n.o.length:Int)<z:=by omega
     clear hA;go_wp2_with fail
     go_ret2
     exact ⟨hI.out,.inr (.inl ⟨hq.out,HN.out,rfl⟩)⟩
  ·obtain rfl:k=keep.length:=by omega
   rw [Zg] at ha hf;have ht:=tJ.of ha;have He:=nO.2 ha;have Hh:RtM a n (qi5 n.o.length keep) W0 (Rt.fA n keep 0) wr:=hf;generalize qi5 n.o.length keep=kb at *;obtain ⟨hX,Ho,Hl,hI⟩:=zd4 ht He Hh hi;clear ht He Hh hi;clear hf hr ha;go_wp2_with fail;refine (qdR a n keep kb W0 wr HS.out hX.out Hl.out).mono ?_;rintro e w3 ⟨rfl,Hd,-⟩;have hN:n.o.length*(n.o.length+3)<=12*15:=Nat.mul_le_mul oZ oZ;have Hx:=Hw.out keep n.o.length (by rw [hE.out];exact lrZ _);have HA:=zI (qbe a n kb W0 _ w3 HS.out Hd 4 0 oZ);clear Hd;go_wp2_with fail;refine HA.out.mono ?_;rintro e w4 ⟨rfl,hG,-⟩;obtain ⟨v4,-,-,-,-,-,-,-,c5,-,-,-⟩:=hG.eO;rw [Ha.out] at c5;have Hu:(Rt.add 4 0 (Rt.fA n keep n.o.length)).code.length<=200:=by unfold Rt.add;simp;omega
   have Hc:=zI (qc5 a n kb W0 _ w4 HS.out hG lu oZ oZ);clear HA hG;go_wp2_with fail;refine Hc.out.mono ?_;rintro e w5 ⟨rfl,Hk,-⟩;have Ht:(Rt.drop (lu:Int) (Rt.add 4 0 (Rt.fA n keep n.o.length))).code.length<=201:=by unfold Rt.drop;simp;omega
   have Hb:=zI (qbe a n kb W0 _ w5 HS.out Hk 5 0 oZ);clear Hc Hk c5;go_wp2_with fail;refine Hb.out.mono ?_;rintro e w6 ⟨rfl,hQ,-⟩
   have hm:Rt.add 5 0 (Rt.drop (lu:Int) (Rt.add 4 0 (Rt.fA n keep n.o.length)))=Rt.eF n keep 0:=by
    show _=Rt.kD n keep
    unfold Rt.kD;rw [Ha.out,hE.out]
   rw [hm] at hQ;have Hf:=zI (qd8 a n keep kb W0 w6 HS.out hX.out hQ Hz.out);clear Hb hQ hm Hu Ht Hx hN;go_wp2_with fail;refine Hf.out.mono ?_;rintro e w7 ⟨rfl,hU,-⟩;have HC:=Hm.out n.o.length (by rw [hE.out];exact lrZ _);have h9:=zI (qc4 a n kb W0 _ w7 hU oZ);have Hy:Hid (Rt.lW n keep=Rt.eF n keep n.o.length):=zI (by rw [Rt.jK,hE.out]);generalize Rt.eF n keep n.o.length=s at *;have hW:=zI hU;clear hU;clear Hf;go_wp2_with fail;refine h9.out.mono ?_;rintro e w8 ⟨rfl,rfl⟩;obtain ⟨v,-,ho,-,-,-,-,-,-,-,-,c8⟩:=hW.out.eO;obtain ⟨C,cc,rfl⟩:=qa6 ho
   have hP:aW w7 C s.code:=by
    obtain ⟨A',c',e',_,hp⟩:=aW.jB ho;injection e' with e';subst e';exact hp
   have hw:=hv.out.trans hW.out.later
   have hB:∀x,C=some x->W.heap.size<=x.block:=λx hx=>by
    subst hx;have h1:=(ho.lt x.block rfl).1;have h2:=HS.out.hp;have h3:=HS.out.h1;have h4:=HS.out.b1;have h5:=Below.size hv.out;omega
   obtain ⟨HP,hO,hL⟩:=zd3 hP hw hB;clear hP hw hB;clear ho h9;go_wp2_with fail
   go_ret2
   refine ⟨hO.out,.inr (.inr ⟨hq.out,Ho.out,?_⟩)⟩;rw [Hy.out];exact ⟨C,cc,rfl,HP.out,hL.out⟩
theorem qdS {m:Nat}:∀z∈ones m,1<=z/\z<=(m:Int):=λz hz=>by
 unfold ones at hz;obtain ⟨i,hi,rfl⟩:=List.mem_map.1 hz;have:=List.mem_range.1 hi;omega
theorem qgW (m:Nat):(ones m).Nodup:=by
 unfold ones;exact List.Pairwise.map _ (λa b h e=>h oZ) List.nodup_range
theorem qck {m:Nat} {kept:List Int} (h:∀z∈kept,1<=z/\z<=(m:Int)):qbr m kept=true:=by
 exact nO.2 h
def Gr.kL (n:aA) (cap:Int):Option (List Int):=Gr.fit (Gr.aB n) (Nt.words n) cap (n.o.length+1) (ones n.o.length)
def Gr.jZ (p:Nat) (W:Zp1):Nat:=match W.cell? ⟨p,3,none⟩ with|some (.slice _ l _)=>l|_=>0
theorem GrM.jZ {A N:Option Addr} {c d g k p:Nat} {n:aA} {W0 W:Zp1} {kept:List Int} (h:GrM A N c d n W0 g k p kept W):Gr.jZ p W=kept.length:=by
 have h3:W.cell? ⟨p,3,none⟩=some (sQ (some ⟨k,0,none⟩) kept.length n.o.length):=h.box.cell 3;unfold Gr.jZ;rw [h3]
theorem Rt.eT {n:aA} (h:Nt.check n=0) (h12:n.o.length<=12) (keep:List Int):(Rt.lW n keep).code.length<=1000:=by
 rw [Rt.jK];exact Rt.iM h h12 keep _ (lrZ _)
theorem qd9 (A N K:Option Addr) (c d ck:Nat) (n:aA) (keep:List Int) (W:Zp1) (hok:n.ok) (hch:Nt.check n=0) (hR:bC W A N n) (hd:n.o.length<=d) (h12:n.o.length<=12) (hK:Ints iQ W K keep) (hkl:keep.length<=9223372036854775807) (hk:∀z∈keep,1<=z/\z<=(n.o.length:Int)):
  Calls prog 78 #[.agg #[sQ A n.inn.length c,sQ N n.o.length d],sQ K keep.length ck] W λe w'=>∃C cc,e=.returned (.tuple #[sQ C (Rt.lW n keep).code.length cc,nQ iQ 0])/\aW w' C (Rt.lW n keep).code/\Later W w'/\∀a,C=some a->W.heap.size<=a.block:=by
 refine (qcj A N K c d ck n keep W hok hR hd h12 hK hkl).mono ?_;rintro e w' ⟨hl,⟨hx,-⟩|⟨-,hx,-⟩|⟨-,-,C,cc,he,hC,ha⟩⟩
 ·exact absurd hch hx
 ·rw [qck hk] at hx;cases hx
 ·exact ⟨C,cc,he,hC,hl,ha⟩
set_option maxRecDepth 100000 in
theorem qcZ (A N:Option Addr) (c d g k p:Nat) (n:aA) (W0:Zp1) (kept:List Int) (W:Zp1) (hok:n.ok) (hch:Nt.check n=0) (hR:bC W0 A N n) (hd:n.o.length<=d) (h12:n.o.length<=12) (hM:GrM A N c d n W0 g k p kept W):
  Calls prog 66 #[.pointer (some ⟨p,0,none⟩)] W λe w'=>∃C cc,e=.returned (.tuple #[sQ C (Rt.lW n kept).code.length cc,nQ iQ (Gr.aB n kept),nQ iQ 0])/\aW w' C (Rt.lW n kept).code/\Later W w'/\∀a,C=some a->W.heap.size<=a.block:=by
 obtain ⟨hh,-⟩:=Gr.sP hch hok h12 kept;have hj:Gr.mH n (Rt.lW n kept).code=(Gr.aB n kept,0):=by unfold Gr.mH;rw [ipZ hh];rfl
 have ho:=Rt.eT hch h12 kept;have hl:=λ(X:Zp1) (h:Later W X)=>qd9 A N (some ⟨k,0,none⟩) c d n.o.length n kept X hok hch (hR.below (hM.later.trans h) (lrZ _)) hd h12 (hM.ints.below h (lrZ _)) (by obtain ⟨r,-,hr⟩:=hM.row;omega) hM.rng
 have hb:=λ(X:Zp1) (h:Later W X) (C:Option Addr) (cc:Nat) (hC:aW X C (Rt.lW n kept).code)=>qfv A N C c d cc n (Rt.lW n kept).code X hok hch (hR.below (hM.later.trans h) (lrZ _)) hd oZ oZ hC
 rw [hj] at hb;have x0:W.cell? ⟨p,0,none⟩=some (sQ A n.inn.length c):=hM.box.cell 0;have x1:W.cell? ⟨p,1,none⟩=some (sQ N n.o.length d):=hM.box.cell 1;have x3:W.cell? ⟨p,3,none⟩=some (sQ (some ⟨k,0,none⟩) kept.length n.o.length):=hM.box.cell 3;generalize Gr.aB n kept=pk at *;generalize (Rt.lW n kept).code=cd at *;obtain ⟨Hl,hf⟩:=zd2 hl hb;clear hl hb;clear hh hj ho hM hR hok hch;go_in;go_wp2_with fail;have KF:=zI (show ∀Xw,Later W Xw->Xw.cell? ⟨p,0,none⟩=some (sQ A n.inn.length c)/\Xw.cell? ⟨p,1,none⟩=some (sQ N n.o.length d)/\Xw.cell? ⟨p,3,none⟩=some (sQ (some ⟨k,0,none⟩) kept.length n.o.length) from λXw h=>⟨h.cell x0,h.cell x1,h.cell x3⟩);refine Zm1 ?_;refine Zl1 (S:=λXw=>Xw.cell? ⟨p,0,none⟩=some (sQ A n.inn.length c)/\Xw.cell? ⟨p,1,none⟩=some (sQ N n.o.length d)/\Xw.cell? ⟨p,3,none⟩=some (sQ (some ⟨k,0,none⟩) kept.length n.o.length)) krZ (KF.out _ Lau) (λhHeld=>?_);refine tk 0 ?_;refine tk 1 ?_;refine tk 2 ?_;refine tk 3 ?_;refine tk 4 ?_;refine tk 5 ?_;refine tk 6 ?_;refine tk 7 ?_;refine rd 8 λK hK=>?_
 simp only [ga,gs,gz]
 go_simp
 go_at_call 78;(with_reducible refine (Hl.out _ (Lau:Later W _)).mono ?_);rintro e wa ⟨C,cc,rfl,hC,hg,hm⟩
 replace hg:Below _ _ wa:=hg;have hs:=zI hm;clear hm;have HC:=zI hC;clear hC
 try go_wp2_with fail
 refine hK.out _ _ (KF.out _ Lau) (λhHeld=>?_);clear hK K
 try simp only [ga,gs,gz,Act.put,sa,sz,ss]
 refine tk 9 ?_;refine tk 10 ?_;refine tk 11 ?_;refine tk 12 ?_;refine tk 13 ?_;clear KF;refine Zn1 krZ ?_ _;refine Zd1 ?_;have hc:Later W wa:=Lau;have x0':=hc.cell x0;have x1':=hc.cell x1;have hn:=zI (hf.out wa hc C cc HC.out);have ht:=zI hc;clear hc;clear hg x0 x1 x3;go_wp2_with fail;refine hn.out.mono ?_;rintro e wb ⟨rfl,he⟩;have hi:=ht.out.trans he;have hk:=HC.out.below he (lrZ _);obtain ⟨hp,hq⟩:=zd2 hi hk;clear hi hk;clear he;go_wp2_with fail
 go_ret3
 exact ⟨C,cc,rfl,hq.out,hp.out,λa ha=>by have:=hs.out a ha;rwa [World.size_drew] at this⟩
set_option maxRecDepth 100000 in
theorem qcl (A N:Option Addr) (c d:Nat) (n:aA) (W:Zp1) (hok:n.ok) (hR:bC W A N n) (hd:n.o.length<=d) (h12:n.o.length<=12):
  Calls prog 65 #[.agg #[sQ A n.inn.length c,sQ N n.o.length d]] W λe w'=>
   (Nt.check n≠0/\e=.returned (.tuple #[.pointer none,nQ iQ (Nt.check n)])/\Later W w')∨(Nt.check n=0/\∃g k p,e=.returned (.tuple #[.pointer (some ⟨p,0,none⟩),nQ iQ 0])/\GrM A N c d n W g k p (ones n.o.length) w'):=by
 have hr:=Blk.new W 26 #[sQ A n.inn.length c,sQ N n.o.length d];have hx:Later W (W.alloc (.cells #[sQ A n.inn.length c,sQ N n.o.length d] 26)):=(Later.refl W).alloc _;obtain ⟨HR,hu,hD,hF⟩:=zd4 hR hok hr hx;clear hR hok hr hx;go_in;go_wp2_with fail;generalize W.alloc (.cells #[sQ A n.inn.length c,sQ N n.o.length d] 26)=W1 at *;refine (qbJ A N c d n W1 hu.out (HR.out.below hF.out (lrZ _)) hd).mono ?_;rintro e W2 ⟨rfl,h2⟩;have ha:Later W1 W2:=h2;have hf:=hF.out.trans ha;have he:=ha.blk hD.out;clear h2 ha hD
 by_cases hb:Nt.check n=0
 rotate_left
 ·have hN:(Nt.check n != 0)=true:=by simp [hb]
  obtain ⟨hh,hc⟩:=zd2 hb hf;clear hb hf;clear he;go_wp2_with fail
  go_ret2
  exact .inl ⟨hh.out,rfl,hc.out⟩
 rw [hb];have e0:=he.cell 0;have e1:=he.cell 1;simp at e0 e1;obtain ⟨hc,ht,hh⟩:=zd3 hf he hb;clear hf he hb;go_wp2_with fail;refine (qcw A N c d n W2 hu.out (HR.out.below hc.out (lrZ _)) hd oZ).mono ?_;rintro e W3 ⟨h3,⟨_,g,g2,rfl,hG,-⟩|⟨h0,-⟩⟩
 rotate_left
 ·exact absurd hh.out h0
 have hn:Later W2 W3:=h3;have hy:=Blk.new W3 55 #[sQ (some ⟨g,0,none⟩) (n.o.length+1) (n.o.length+1),sQ (some ⟨g2,0,none⟩) (n.o.length+1) (n.o.length+1),nQ iQ (Nt.total n)];have hk:Later W3 (W3.alloc (.cells #[sQ (some ⟨g,0,none⟩) (n.o.length+1) (n.o.length+1),sQ (some ⟨g2,0,none⟩) (n.o.length+1) (n.o.length+1),nQ iQ (Nt.total n)] 55)):=(Later.refl W3).alloc _;have hA:=(hn.trans hk).blk ht.out;have hE:=(hc.out.trans hn).trans hk;have hw:=hk.blk hG;obtain ⟨hL,hz,hp,hq⟩:=zd4 hy hA hE hw;clear hy hA hE hw;clear h3 hn hk hG ht hc e0 e1;go_wp2_with fail;generalize W3.alloc (.cells #[sQ (some ⟨g,0,none⟩) (n.o.length+1) (n.o.length+1),sQ (some ⟨g2,0,none⟩) (n.o.length+1) (n.o.length+1),nQ iQ (Nt.total n)] 55)=W4 at *;generalize W3.heap.size=pb at *;have e0:W4.cell? ⟨W.heap.size,0,none⟩=some (sQ A n.inn.length c):=hz.out.cell 0;have e1:W4.cell? ⟨W.heap.size,1,none⟩=some (sQ N n.o.length d):=hz.out.cell 1;have p0:W4.cell? ⟨pb,0,none⟩=some (sQ (some ⟨g,0,none⟩) (n.o.length+1) (n.o.length+1)):=hL.out.cell 0;have hl:=qaJ n.o.length;have hM:=zI λ(X:Zp1)=>(qdx A N c d n X oZ).mono λe w' ⟨h1,h2,h3⟩=>(⟨by rw [h1,hl],h2,h3⟩:e=Ending.returned (Zb1 (some ⟨X.heap.size+1,0,none⟩) n.o.length n.o.length)/\Blk w' (X.heap.size+1) 3 (qae (ones n.o.length)).toArray/\Later X w')
 have hv:=zI hl;clear hl;have KF:=zI (show ∀Xw,Later W4 Xw->Xw.cell? ⟨W.heap.size,0,none⟩=some (sQ A n.inn.length c)/\Xw.cell? ⟨W.heap.size,1,none⟩=some (sQ N n.o.length d)/\Xw.cell? ⟨pb,0,none⟩=some (sQ (some ⟨g,0,none⟩) (n.o.length+1) (n.o.length+1)) from λXw h=>⟨h.cell e0,h.cell e1,h.cell p0⟩);refine Zm1 ?_;refine Zl1 (S:=λXw=>Xw.cell? ⟨W.heap.size,0,none⟩=some (sQ A n.inn.length c)/\Xw.cell? ⟨W.heap.size,1,none⟩=some (sQ N n.o.length d)/\Xw.cell? ⟨pb,0,none⟩=some (sQ (some ⟨g,0,none⟩) (n.o.length+1) (n.o.length+1))) krZ (KF.out _ Lau) (λhHeld=>?_);refine tk 0 ?_;refine tk 1 ?_;refine tk 2 ?_;refine tk 3 ?_;refine rd 4 λK hK=>?_
 simp only [ga,gs,gz]
 go_simp
 go_at_call 22;(with_reducible refine (hM.out _).mono ?_);rintro e wa ⟨rfl,hB,hm⟩
 replace hm:Below _ _ wa:=hm;have HB:=zI hB;clear hB
 try go_wp2_with fail
 refine hK.out _ _ (KF.out _ Lau) (λhHeld=>?_);clear hK K
 try simp only [ga,gs,gz,Act.put,sa,sz,ss]
 refine tk 5 ?_;refine rd 6 λK hK=>?_
 simp only [ga,gs,gz]
 go_simp
 refine hK.out _ _ (KF.out _ Lau) (λhHeld=>?_);clear hK K
 try simp only [ga,gs,gz,Act.put,sa,sz,ss]
 refine tk 7 ?_;refine tk 8 ?_;clear KF;refine Zn1 krZ ?_ _;refine Zd1 ?_;have hj:Later W4 wa:=Lau;have hg:=HB.out;rw [World.size_drew] at hg;have ho:=hj.blk hq.out;have hJ:=hg.lt;have hI:=hq.out.lt;have hs:=hj.size;have hH:=hp.out.size;have hC:=Blk.new wa 136 #[sQ A n.inn.length c,sQ N n.o.length d,sQ (some ⟨g,0,none⟩) (n.o.length+1) (n.o.length+1),sQ (some ⟨W4.heap.size+1,0,none⟩) n.o.length n.o.length];have hi:=(Later.refl wa).alloc (.cells #[sQ A n.inn.length c,sQ N n.o.length d,sQ (some ⟨g,0,none⟩) (n.o.length+1) (n.o.length+1),sQ (some ⟨W4.heap.size+1,0,none⟩) n.o.length n.o.length] 136)
 have hR:=zI (show GrM A N c d n W g (W4.heap.size+1) wa.heap.size (ones n.o.length) (wa.alloc (.cells #[sQ A n.inn.length c,sQ N n.o.length d,sQ (some ⟨g,0,none⟩) (n.o.length+1) (n.o.length+1),sQ (some ⟨W4.heap.size+1,0,none⟩) n.o.length n.o.length] 136)) from
  ⟨(hp.out.trans hj).trans hi,by rw [hv.out];exact hC,hi.blk ho,⟨[],by rw [List.append_nil];exact hi.blk hg,by rw [hv.out];rfl⟩,qdS,by omega,by omega,by omega,by omega,by omega⟩)
 clear hj hg ho hJ hI hs hH hC hi hm;go_wp2_with fail
 go_ret2
 exact .inr ⟨hh.out,_,_,_,rfl,hR.out⟩
def wH (n:aA) (cap:Int) (W:Zp1) (e:Ending) (w':Zp1):Prop:=
 Later W w'/\((Nt.check n≠0/\e=.returned (.tuple #[sQ none 0 0,sQ none 0 0,nQ iQ (Nt.check n)]))∨(Nt.check n=0/\Gr.kL n cap=none/\e=.returned (.tuple #[sQ none 0 0,sQ none 0 0,nQ iQ 26]))∨
  (Nt.check n=0/\∃kept K kc C cc,Gr.kL n cap=some kept/\e=.returned (.tuple #[sQ K kept.length kc,sQ C (Rt.lW n kept).code.length cc,nQ iQ 0])/\Ints iQ w' K kept/\aW w' C (Rt.lW n kept).code/\∀a,C=some a->W.heap.size<=a.block))
set_option maxRecDepth 100000 in
theorem qdy (A N:Option Addr) (c d:Nat) (n:aA) (cap:Int) (W:Zp1) (hok:n.ok) (hR:bC W A N n) (hd:n.o.length<=d) (h12:n.o.length<=12):
  Calls prog 28 #[.agg #[sQ A n.inn.length c,sQ N n.o.length d],nQ iQ cap] W (wH n cap W):=by
 have hL:Later W (W.alloc (.cells #[sQ A n.inn.length c,sQ N n.o.length d] 26)):=(Later.refl W).alloc _;obtain ⟨HR,hG,ht⟩:=zd3 hR hok hL;clear hR hok hL;go_in;go_wp2_with fail;generalize W.alloc (.cells #[sQ A n.inn.length c,sQ N n.o.length d] 26)=W1 at *;have hw:=HR.out.below ht.out (lrZ _);refine (qcl A N c d n W1 hG.out hw hd h12).mono ?_;rintro e W2 (⟨hf,rfl,hA⟩|⟨hf,g,k,p,rfl,hM⟩)
 ·have h2:(Nt.check n != 0)=true:=by simp [hf]
  have hb:=ht.out.trans hA;obtain ⟨ho,hl⟩:=zd2 hf hb;clear hf hb;clear hA hw;go_wp2_with fail
  go_ret3
  exact ⟨hl.out,.inl ⟨ho.out,rfl⟩⟩
 obtain ⟨R,hRf⟩:∃R,Gr.kL n cap=R:=⟨_,rfl⟩
 have hz:=Nt.bX hf;have hs:∀e w',wH n cap W e w'↔wH n cap W e w':=λ_ _=>Iff.rfl
 have hD:Gr.fit (Gr.aB n) (Nt.words n) cap (n.o.length+1) (ones n.o.length)=R:=hRf;have hE:=qaJ n.o.length;obtain ⟨HM,hS,ho,hT,hB,hV,hW⟩:=zd7 hM hw hf hz hRf hD hE;clear hM hw hf hz hRf hD hE;clear hs;go_wp2_with fail
 go_loopw [9,10,11,20] (λ_ _ _ _ wr=>∃(m:Nat) (kept:List Int),kept.length<m/\Gr.fit (Gr.aB n) (Nt.words n) cap m kept=R/\GrM A N c d n W1 g k p kept wr) (λ_ _ _ _ wr=>Gr.jZ p wr)
 case atStart=>exact ⟨n.o.length+1,_,by rw [hW.out];omega,hV.out,HM.out⟩
 case round=>
  obtain ⟨m,kept,hm,he,hu⟩:=hrel;clear HM;have hQ:=hu.jZ;have hO:=qcZ A N c d g k p n W1 kept wr hG.out ho.out hS.out hd h12 hu;obtain ⟨hK,hP,hY⟩:=zd3 hu hO hQ;clear hu hO hQ;go_wp2_with fail;refine hP.out.mono ?_;rintro e w3 ⟨C,cc,rfl,hC,hF,hN⟩;have hn:∀a,C=some a->W.heap.size<=a.block:=λa ha=>Zv (Below.size (ht.out.trans hK.out.later)) (hN a ha)
  have hX:=zI hn;clear hN hn;have hh:=hK.out.to_later hF;have p3:w3.cell? ⟨p,3,none⟩=some (sQ (some ⟨k,0,none⟩) kept.length n.o.length):=hh.box.cell 3;obtain ⟨m',rfl⟩:∃m',m=m'+1:=⟨m-1,by omega⟩
  rw [Gr.fit] at he;clear hF hP
  by_cases hc:Gr.aB n kept<=cap
  ·rw [ipZ hc] at he
   have hv:=zI he;have hI:=hh.ints;have hb:=ht.out.trans hh.later;generalize hk:(Rt.lW n kept).code=cd at *;have hg:=zI hk;generalize Gr.aB n kept=pk at *;obtain ⟨HI,HC,hl⟩:=zd3 hI hC hb;clear hI hC hb;clear he hh hk;go_wp2_with fail
   go_ret3
   exact ⟨hl.out,.inr (.inr ⟨ho.out,kept,_,_,C,cc,by rw [hB.out,hv.out],by rw [hg.out];rfl,HI.out,(by rw [hg.out];exact HC.out),hX.out⟩)⟩
  ·rw [inZ hc] at he
   have hk:=qfw A N c d g k p n W1 kept w3 hT.out oZ hh;have h1:¬Gr.aB n kept<=cap:=hc;generalize (Rt.lW n kept).code.length=cl at *;have hv:=zI he;generalize hpk:Gr.aB n kept=pk at *;have hg:=zI hk;clear he hh hC p3 hk hpk h1;go_wp2_with fail;refine hg.out.mono ?_;rintro e w4 (⟨h0,rfl,hi⟩|⟨h0,rfl,hi⟩)
   ·have hb:=ht.out.trans hi.later
    have hH:R=none:=by
     have h:=hv.out;rw [ipZ (by rw [h0];rfl)] at h;exact h.symm
    obtain ⟨hl,hU⟩:=zd2 hb hH;clear hb hH;clear hi hg h0;go_wp2_with fail
    go_ret3
    exact ⟨hl.out,.inr (.inl ⟨ho.out,by rw [hB.out,hU.out],rfl⟩)⟩
   ·have hJ:¬kept.length=0:=λe=>h0 (List.length_eq_zero_iff.1 e)
    have hp:=Gr.iU (ws:=Nt.words n) (kept:=kept) oZ
    have hr:Gr.fit (Gr.aB n) (Nt.words n) cap m' (Gr.less (Nt.words n) kept)=R:=by
     have h:=hv.out
     rwa [inZ hJ] at h
    have hj:=hi.jZ;obtain ⟨hZ,hx,hq,hy⟩:=zd4 hi hr hp hj;clear hi hr hp hj;clear hg h0 hJ;go_wp2_with fail;go_roundw
    case rel=>exact ⟨m',_,by have:=hq.out;omega,hx.out,hZ.out⟩
    case measure=>rw [hY.out,hy.out];have:=hq.out;omega
def KeptP (n:aA) (cap:Int) (W:Zp1) (e:Ending) (w':Zp1):Prop:=
 Later W w'/\((Nt.check n≠0/\e=.returned (.tuple #[sQ none 0 0,nQ iQ (Nt.check n)]))∨(Nt.check n=0/\Gr.kL n cap=none/\e=.returned (.tuple #[sQ none 0 0,nQ iQ 26]))∨
  (Nt.check n=0/\∃kept K kc,Gr.kL n cap=some kept/\e=.returned (.tuple #[sQ K kept.length kc,nQ iQ 0])/\Ints iQ w' K kept))
theorem qbz (A N:Option Addr) (c d:Nat) (n:aA) (cap:Int) (W:Zp1) (hok:n.ok) (hR:bC W A N n) (hd:n.o.length<=d) (h12:n.o.length<=12):
  Calls prog 10 #[.agg #[sQ A n.inn.length c,sQ N n.o.length d],nQ iQ cap] W (KeptP n cap W):=by
 have hh:Later W (W.alloc (.cells #[sQ A n.inn.length c,sQ N n.o.length d] 26)):=(Later.refl W).alloc _;obtain ⟨HR,hi,hg⟩:=zd3 hR hok hh;clear hR hok hh;go_in;go_wp2_with fail;generalize W.alloc (.cells #[sQ A n.inn.length c,sQ N n.o.length d] 26)=W1 at *;refine (qdy A N c d n cap W1 hi.out (HR.out.below hg.out (lrZ _)) hd h12).mono ?_;rintro e W2 ⟨hl,⟨hb,rfl⟩|⟨hb,hf,rfl⟩|⟨hb,kept,K,kc,C,cc,hf,rfl,hI,-,-⟩⟩
 ·have ha:=hg.out.trans hl
  obtain ⟨he,hc⟩:=zd2 hb ha;clear hb ha;clear hl;go_wp2_with fail
  go_ret2
  exact ⟨hc.out,.inl ⟨he.out,rfl⟩⟩
 ·have ha:=hg.out.trans hl
  obtain ⟨he,hc,Hf⟩:=zd3 hb ha hf;clear hb ha hf;clear hl;go_wp2_with fail
  go_ret2
  exact ⟨hc.out,.inr (.inl ⟨he.out,Hf.out,rfl⟩)⟩
 ·have ha:=hg.out.trans hl
  obtain ⟨he,hc,Hf,HI⟩:=zd4 hb ha hf hI;clear hb ha hf hI;clear hl;go_wp2_with fail
  go_ret2
  exact ⟨hc.out,.inr (.inr ⟨he.out,kept,K,kc,Hf.out,rfl,HI.out⟩)⟩
namespace Gr
def re (os:List Int) (p:Int × Int):Int × Int:=(p.1,if 0<p.2 then os.getD (p.2-1).toNat 0 else p.2)
def fF (os:List Int) (ps:List (Int × Int)) (j:Nat):List (Int × Int):=(ps.take j).map (re os)++ps.drop j
theorem nI (os:List Int) (ps:List (Int × Int)) (j:Nat):(fF os ps j).length=ps.length:=by
 unfold fF;rw [Ze,List.length_map,Zo,Zq];omega
theorem mapTo_zero (os:List Int) (ps:List (Int × Int)):fF os ps 0=ps:=by simp [fF]
theorem mapTo_all (os:List Int) (ps:List (Int × Int)):fF os ps ps.length=ps.map (re os):=by simp [fF]
theorem mapTo_at (os:List Int) (ps:List (Int × Int)) (j:Nat) (h:j<ps.length):(fF os ps j)[j]'(by rw [nI];exact h)=ps[j]:=by
 unfold fF;rw [List.getElem_append_right soZ];simp
 congr 1
 omega
theorem mapTo_succ (os:List Int) (ps:List (Int × Int)) (j:Nat) (h:j<ps.length):fF os ps (j+1)=(fF os ps j).set j (re os ps[j]):=by
 unfold fF;rw [Zb h,List.map_append,List.set_append_right _ _ soZ,List.append_assoc]
 congr 1
 rw [List.length_map,Zo,Nat.min_eq_left (Nat.le_of_lt h),Nat.sub_self,Zd h]
 rfl
def cK (n:aA) (cap:Int):List (Int × Int) × Int:=if Nt.chain n=false then ([],27) else
 if (Ch.plan (Nt.aU n) (Nt.aR n) cap).2≠0 then ([],(Ch.plan (Nt.aU n) (Nt.aR n) cap).2) else ((Ch.plan (Nt.aU n) (Nt.aR n) cap).1.map (re (Nt.sO n.o)),0)
end Gr
theorem qdT (ps:List (Int × Int)) (rest:List Value):∀(j:Nat) (h:j<ps.length) (i:Int),(qa4 ps++rest).set (j*2+1) (nQ iQ i)=qa4 (ps.set j (ps[j].1,i))++rest:=by
 induction ps with
 | nil=>intro j h;simp at h
 | cons x r ih=>
  intro j h i;rcases j with _|j
  ·simp [qa4]
  ·have:=ih j (by simpa using h) i
   rw [show (j+1)*2+1=j*2+1+1+1 by omega];simpa [qa4] using this
def tY (B M:Nat) (C:Option Addr) (ps:List (Int × Int)) (W:Zp1):Prop:=ps=[]∨∃g rest,C=some ⟨g,0,none⟩/\B<=g/\g<M/\Blk W g 106 (qa4 ps++rest).toArray
theorem tY.jB {B:Nat} {C:Option Addr} {d:Nat} {ps:List (Int × Int)} {W:Zp1} (h:W.ownsRow B 106 2 (sQ C ps.length d) ps.length (qa4 ps)):tY B W.heap.size C ps W:=by
 rcases h.2 with ⟨-,h0⟩|⟨g,cap,cur,e,hb,hh,r1,r2,r3,r4⟩
 ·exact .inl (List.eq_nil_of_length_eq_zero h0)
 ·injection e with e1 e2 e3
  refine .inr ⟨g,cur.toList.drop (ps.length*2),e1,hb,lt_of_block hh,?_⟩;rw [←r4,Zn];exact hh
theorem tY.pairs {B M:Nat} {C:Option Addr} {ps:List (Int × Int)} {W:Zp1} (h:tY B M C ps W):aW W C ps:=by
 rcases h with rfl|⟨g,rest,rfl,-,-,hb⟩
 ·exact aW.nil
 ·intro k hk
  have ⟨e1,e2⟩:=qaS ps k hk;have hl:=qas ps;refine ⟨g,0,rfl,hb.lt,?_,?_⟩
  ·rw [Zw,hb.cell]
   simp;rw [Zm oZ];exact e1
  ·rw [Zw,hb.cell]
   simp;rw [Zm oZ];exact e2
theorem Ints.setfar {W:Zp1} {A:Option Addr} {zs:List Int} (h:Ints iQ W A zs) {g:Nat} (hg:∀a,A=some a->a.block≠g) (o:Nat) (v:Value):Ints iQ (W.setCell ⟨g,o,none⟩ v) A zs:=λj hj=>by
 obtain ⟨b,off,e,hl,hc⟩:=h j hj;exact ⟨b,off,e,by simpa using hl,qaA hc (show b≠g from hg ⟨b,off,none⟩ e)⟩
set_option maxRecDepth 100000 in
theorem qda (A N:Option Addr) (c d:Nat) (n:aA) (cap:Int) (W:Zp1) (hok:n.ok) (hch:Nt.check n=0) (hR:bC W A N n) (hd:n.o.length<=d) (h12:n.o.length<=12):
  Calls prog 79 #[.agg #[sQ A n.inn.length c,sQ N n.o.length d],nQ iQ cap] W λe w'=>∃C cc,e=.returned (.tuple #[sQ C (Gr.cK n cap).1.length cc,nQ iQ (Gr.cK n cap).2])/\aW w' C (Gr.cK n cap).1/\Later W w'/\∀a,C=some a->W.heap.size<=a.block:=by
 have h9:=Blk.new W 26 #[sQ A n.inn.length c,sQ N n.o.length d];have Hh:Later W (W.alloc (.cells #[sQ A n.inn.length c,sQ N n.o.length d] 26)):=(Later.refl W).alloc _;have hk:=Rt.bW hch
 have hE:Gr.cK n cap=if Nt.chain n=false then ([],27) else
  if (Ch.plan (Nt.aU n) (Nt.aR n) cap).2≠0 then ([],(Ch.plan (Nt.aU n) (Nt.aR n) cap).2) else ((Ch.plan (Nt.aU n) (Nt.aR n) cap).1.map (Gr.re (Nt.sO n.o)),0):=rfl
 have l1:(Nt.aU n).length=n.o.length+1:=by unfold Nt.aU;rw [List.length_cons,List.length_map,hk]
 have l2:(Nt.aR n).length=n.o.length:=by unfold Nt.aR;rw [List.length_map,hk]
 have hv:∀(er:Int) (w':Zp1),Later W w'->Gr.cK n cap=([],er)->(∃C cc,Ending.returned (.tuple #[sQ none 0 0,nQ iQ er])=.returned (.tuple #[sQ C (Gr.cK n cap).1.length cc,nQ iQ (Gr.cK n cap).2])/\aW w' C (Gr.cK n cap).1/\Later W w'/\∀a,C=some a->W.heap.size<=a.block):=λer w' hl he=>⟨none,0,by rw [he];rfl,by rw [he];exact aW.nil,hl,λa ha=>by cases ha⟩
 obtain ⟨HR,Hb,Hf,hS,hy,hX,h8⟩:=zd7 hR hok h9 Hh hv hk hch;clear hR hok h9 Hh hv hk hch;go_in;go_wp2_with fail;generalize W.alloc (.cells #[sQ A n.inn.length c,sQ N n.o.length d] 26)=W1 at *;refine (qcc A N c d n W1 Hb.out (HR.out.below hS.out (lrZ _)) hd oZ).mono ?_;rintro e W2 ⟨hc,⟨-,hi,A1,c1,A2,c2,rfl,h7,Hd,hM,-⟩|⟨-,hi,rfl⟩|⟨h0,-⟩⟩
 rotate_left
 ·have hH:=hS.out.trans hc
  rw [ipZ hi] at hE;obtain ⟨hD,HE,Hn⟩:=zd3 hH hE hi;clear hH hE hi;clear hc;go_wp2_with fail
  go_ret2
  exact hy.out _ _ hD.out HE.out
 ·exact absurd h8.out h0
 have ho:Later W1 W2:=hc;have hH:=hS.out.trans ho;have h6:=ho.blk Hf.out;rw [hi,inZ sZ] at hE;have hh:=qgF A1 A2 c1 c2 n.o.length (Nt.aU n) (Nt.aR n) cap W2 l2 l1 oZ hM h7 Hd;have hn:=Ch.plan_ids (cap:=cap) (show (Nt.aU n).length=(Nt.aR n).length+1 by omega);have hP:=Ch.pP (cap:=cap) (show (Nt.aU n).length=(Nt.aR n).length+1 by omega);unfold uS at hh;rw [l2] at hn;generalize Ch.plan (Nt.aU n) (Nt.aR n) cap=pl at *;obtain ⟨ps,er⟩:=pl;simp only at hE hh hn hP;obtain ⟨hD,Ha,He,Hn⟩:=zd4 hH h6 hh hi;clear hH h6 hh hi;clear hc ho Hf h7 Hd l1 l2;go_wp2_with fail;refine He.out.mono ?_;rintro e W3 ⟨hL,C,dd,B,rfl,hB,hown⟩;have hg:=hD.out.trans hL;have hJ:=hL.blk Ha.out;clear He Ha
 by_cases hF:er=0
 rotate_left
 ·rw [ipZ hF] at hE
  have Hu:(er != 0)=true:=by simp [hF]
  obtain ⟨hf,HE,Ht⟩:=zd3 hg hE hF;clear hg hE hF;clear hown hJ hL;go_wp2_with fail
  go_ret2
  exact hy.out _ _ hf.out HE.out
 subst hF;rw [inZ sZ] at hE;have Ho:=Zv (Below.size hD.out) hB;have Hc:=tY.jB hown;have Hm:=zI (λ(a:Addr) (ha:C=some a)=>(hown.lt a.block (by rw [ha];rfl)).1);have u0:W3.cell? ⟨W.heap.size,0,none⟩=some (sQ A n.inn.length c):=hJ.cell 0;have u1:W3.cell? ⟨W.heap.size,1,none⟩=some (sQ N n.o.length d):=hJ.cell 1;obtain ⟨hf,Hj,HE⟩:=zd3 hg Hc hE;clear hg Hc hE;clear hown hJ hL hD;go_wp2_with fail;refine (qgw A N c d n W3 Hb.out (HR.out.below hf.out (lrZ _)) hd).mono ?_;rintro e W4 ⟨Hk,⟨-,O,oc,rfl,hO,hI⟩|⟨h0,-⟩⟩
 rotate_left
 ·exact absurd h8.out h0
 have hm:Later W3 W4:=Hk;have hw:=hf.out.trans hm
 have hx:tY B W3.heap.size C ps W4:=by
  rcases Hj.out with h|⟨g,rest,h1,h2,h3,h4⟩
  ·exact .inl h
  ·exact .inr ⟨g,rest,h1,h2,h3,hm.blk h4⟩
 have hk:=hX.out;generalize Nt.sO n.o=os at *;obtain ⟨hG,hA,HO,hT,hX⟩:=zd5 hx hw hO hI hk;clear hx hw hO hI hk;clear Hk hm Hj u0 u1;go_wp2_with fail
 go_loopw [11,12,43] (λ_ _ i wr=>∃j:Nat,j<=ps.length/\i=nQ iQ (j:Int)/\tY B W3.heap.size C (Gr.fF os ps j) wr/\Later W wr/\Ints iQ wr O os) (λ_ _ i _=>ps.length-(intOf i).toNat)
 case atStart=>exact ⟨0,Zt _,rfl,by rw [Gr.mapTo_zero];exact hG.out,hA.out,HO.out⟩
 case round=>
  obtain ⟨j,hj,rfl,hK,hs,hr⟩:=hrel;clear hG hA HO
  by_cases hV:j<ps.length
  ·rcases hK with h|⟨g,rest,rfl,Hi,hY,hq⟩
   ·have:=Gr.nI os ps j
    rw [h] at this;simp at this;omega
   have hC:=Gr.mapTo_at os ps j hV;have hp:=Gr.mapTo_succ os ps j hV;have hZ:=Gr.nI os ps j;have hid:=hn _ (gmZ hV);have ⟨e1,e2⟩:=qaS (Gr.fF os ps j) j oZ;have hh:=qas (Gr.fF os ps j)
   have y1:wr.cell? ⟨g,j*2+1,none⟩=some (nQ iQ ps[j].2):=by
    rw [hq.cell];simp;rw [Zm oZ,e2,hC]
   have f1:=hq.frozen (j*2+1);have hb:=qdT (Gr.fF os ps j) rest j oZ;rw [hC] at hb;have hW:∀a,O=some a->a.block≠g:=λa ha=>by have:=hT.out a ha;omega
   generalize hpj:ps[j]=pj at *;obtain ⟨kd,id⟩:=pj;simp only at y1 hid hb;have k1:(j:Int)<(ps.length:Int):=by omega
   have k2:(0:Int)<=(j:Int):=by omega
   by_cases hz:0<id
   ·obtain ⟨t,ht⟩:∃t:Nat,id=(t:Int)+1:=⟨(id-1).toNat,by omega⟩
    subst ht;obtain ⟨bo,oo,Hp,-,yo⟩:=hr t (by have:=hX.out;omega)
    have hu:Gr.re os (kd,(t:Int)+1)=(kd,os.getD t 0):=by
     unfold Gr.re;simp only;rw [ipZ hz,Int.add_sub_cancel,tnZ]
    rw [hu] at hp;have hc:=hq.aO (j*2+1) (nQ iQ (os.getD t 0));rw [List.setIfInBounds_toArray,hb (os.getD t 0),←hp] at hc;have h5:=hs.set (p:=⟨g,j*2+1,none⟩) (by show W.heap.size<=g;omega) (nQ iQ (os.getD t 0));have Hg:=hr.setfar hW (j*2+1) (nQ iQ (os.getD t 0));subst Hp;have k3:(t:Int)<(n.o.length:Int):=by omega
    have k4:(0:Int)<=(t:Int):=by omega
    have w1:iQ.wrap (t:Int)=(t:Int):=Zc1 _ oZ;generalize os.getD t 0=z at *;obtain ⟨hQ,Hl,Hq⟩:=zd3 hc h5 Hg;clear hc h5 Hg;clear hq hs hr hb hp hu e1 e2 hC hZ hh hpj hW;go_wp2_with fail;go_roundw
    case rel=>exact ⟨j+1,by omega,by go_num,.inr ⟨g,rest,rfl,Hi,hY,hQ.out⟩,Hl.out,Hq.out⟩
    case measure=>simp [intOf];omega
   ·have hU:id=0:=by omega
    subst hU;have hu:Gr.re os (kd,0)=(kd,0):=rfl;rw [hu] at hp
    have hc:Blk wr g 106 (qa4 (Gr.fF os ps (j+1))++rest).toArray:=by
     rw [hp,show (Gr.fF os ps j).set j (kd,0)=Gr.fF os ps j from by
      have h:(Gr.fF os ps j)[j]'oZ=(kd,0):=hC;rw [←h];exact List.set_getElem_self _]
     exact hq
    obtain ⟨hQ,Hs,Hr⟩:=zd3 hc hs hr;clear hc hs hr;clear hq hb hp hu e1 e2 hC hZ hh hpj hW;go_wp2_with fail;go_roundw
    case rel=>exact ⟨j+1,by omega,by go_num,.inr ⟨g,rest,rfl,Hi,hY,hQ.out⟩,Hs.out,Hr.out⟩
    case measure=>simp [intOf];omega
  ·obtain rfl:j=ps.length:=by omega
   rw [Gr.mapTo_all] at hK;have hN:=zI (show ∃C' cc,Ending.returned (.tuple #[sQ C ps.length dd,nQ iQ 0])=.returned (.tuple #[sQ C' (Gr.cK n cap).1.length cc,nQ iQ (Gr.cK n cap).2])/\aW wr C' (Gr.cK n cap).1/\Later W wr/\∀a,C'=some a->W.heap.size<=a.block from ⟨C,dd,by rw [HE.out];simp,by rw [HE.out];exact hK.pairs,hs,λa ha=>Zv Ho (Hm.out a ha)⟩);clear hK hs hr;go_wp2_with fail
   go_ret2
   exact hN.out
namespace Gr
def low (n:aA) (keep:List Int):List (Int × Int) × Int:=if qbr n.o.length keep=true then ((Rt.lW n keep).code,0) else ([],11)
def bF (n:aA) (planner cap:Int):List (Int × Int) × Int:=
 if planner=1 then low n (ones n.o.length) else
 if planner=2 then (if qaE n (Safe.bK n.o.length)≠0 then ([],qaE n (Safe.bK n.o.length)) else low n (qaw n (Safe.bK n.o.length))) else
 if planner=3 then (match kL n cap with|none=>([],26)|some kept=>((Rt.lW n kept).code,0)) else
 if planner=4 then cK n cap else ([],11)
end Gr
def fH (r:List (Int × Int) × Int) (W:Zp1) (e:Ending) (w':Zp1):Prop:=
 ∃C cc,e=.returned (.tuple #[sQ C r.1.length cc,nQ iQ r.2])/\aW w' C r.1/\Later W w'/\∀a,C=some a->W.heap.size<=a.block
theorem fH.bad (er:Int) {W w':Zp1} (hl:Later W w'):fH ([],er) W (.returned (.tuple #[sQ none 0 0,nQ iQ er])) w':=⟨none,0,rfl,aW.nil,hl,λa ha=>by cases ha⟩
theorem qeT (A N K:Option Addr) (c d ck:Nat) (n:aA) (keep:List Int) (W:Zp1) (hok:n.ok) (hch:Nt.check n=0) (hR:bC W A N n) (hd:n.o.length<=d) (h12:n.o.length<=12) (hK:Ints iQ W K keep) (hkl:keep.length<=9223372036854775807):
  Calls prog 78 #[.agg #[sQ A n.inn.length c,sQ N n.o.length d],sQ K keep.length ck] W (fH (Gr.low n keep) W):=by
 refine (qcj A N K c d ck n keep W hok hR hd h12 hK hkl).mono ?_;rintro e w' ⟨hl,⟨hx,-⟩|⟨-,hx,he⟩|⟨-,hx,C,cc,he,hC,ha⟩⟩
 ·exact absurd hch hx
 ·unfold Gr.low
  rw [inZ (by rw [hx];simp),he];exact fH.bad 11 hl
 ·unfold Gr.low
  rw [ipZ hx,he];exact ⟨C,cc,rfl,hC,hl,ha⟩
theorem fH.mono_ {r:List (Int × Int) × Int} {W W1 w':Zp1} {e:Ending} (h:fH r W1 e w') (hl:Later W W1):fH r W e w':=by
 obtain ⟨C,cc,he,hp,h2,hn⟩:=h;exact ⟨C,cc,he,hp,hl.trans h2,λa ha=>Zv (Below.size hl) (hn a ha)⟩
set_option maxRecDepth 100000 in
theorem qeU (A N:Option Addr) (c d:Nat) (n:aA) (planner cap:Int) (W:Zp1) (hok:n.ok) (hch:Nt.check n=0) (hR:bC W A N n) (hd:n.o.length<=d) (h12:n.o.length<=12):
  Calls prog 40 #[.agg #[sQ A n.inn.length c,sQ N n.o.length d],nQ iQ planner,nQ iQ cap] W (fH (Gr.bF n planner cap) W):=by
 have hk:=Blk.new W 26 #[sQ A n.inn.length c,sQ N n.o.length d];have hI:Later W (W.alloc (.cells #[sQ A n.inn.length c,sQ N n.o.length d] 26)):=(Later.refl W).alloc _;have u0:(W.alloc (.cells #[sQ A n.inn.length c,sQ N n.o.length d] 26)).cell? ⟨W.heap.size,0,none⟩=some (sQ A n.inn.length c):=hk.cell 0;have u1:(W.alloc (.cells #[sQ A n.inn.length c,sQ N n.o.length d] 26)).cell? ⟨W.heap.size,1,none⟩=some (sQ N n.o.length d):=hk.cell 1
 have hE:Gr.bF n planner cap=if planner=1 then Gr.low n (ones n.o.length) else
  if planner=2 then (if qaE n (Safe.bK n.o.length)≠0 then ([],qaE n (Safe.bK n.o.length)) else Gr.low n (qaw n (Safe.bK n.o.length))) else
  if planner=3 then (match Gr.kL n cap with|none=>([],26)|some kept=>((Rt.lW n kept).code,0)) else
  if planner=4 then Gr.cK n cap else ([],11):=rfl
 have hu:=λ(Y:Zp1) (h:Later W Y)=>hR.below h (lrZ _)
 obtain ⟨hc,hl⟩:=zd2 hI hu;clear hI hu;clear hk hR
 by_cases p1:planner=1
 ·rw [ipZ p1] at hE
  subst p1;have hO:=zI λ(X:Zp1)=>qeR A N c d n X oZ
  have hs:=zI λ(X:Zp1) (h:Later W X) (K:Option Addr) (ck:Nat) (hK:Ints iQ X K (ones n.o.length))=>qeT A N K c d ck n (ones n.o.length) X hok hch (hl.out X h) hd h12 hK (by rw [qaJ];omega)
  have HE:=zI hE;clear hE;go_in;go_wp2_with fail;generalize W.alloc (.cells #[sQ A n.inn.length c,sQ N n.o.length d] 26)=W1 at *;have KF:=zI (show ∀Xw,Later W1 Xw->Xw.cell? ⟨W.heap.size,0,none⟩=some (sQ A n.inn.length c)/\Xw.cell? ⟨W.heap.size,1,none⟩=some (sQ N n.o.length d) from λXw h=>⟨h.cell u0,h.cell u1⟩);refine Zm1 ?_;refine Zl1 (S:=λXw=>Xw.cell? ⟨W.heap.size,0,none⟩=some (sQ A n.inn.length c)/\Xw.cell? ⟨W.heap.size,1,none⟩=some (sQ N n.o.length d)) krZ (KF.out _ Lau) (λhHeld=>?_);refine tk 0 ?_;refine tk 1 ?_;refine rd 2 λK hK=>?_
  simp only [ga,gs,gz]
  go_simp
  go_at_call 22;(with_reducible refine (hO.out _).mono ?_);rintro e wa ⟨Kq,ckq,rfl,hH,hq⟩
  replace hq:Below _ _ wa:=hq;have hN:=zI hH;clear hH
  try go_wp2_with fail
  refine hK.out _ _ (KF.out _ Lau) (λhHeld=>?_);clear hK K
  try simp only [ga,gs,gz,Act.put,sa,sz,ss]
  refine rd 3 λK hK=>?_
  simp only [ga,gs,gz]
  go_simp
  go_at_call 78;(with_reducible refine (hs.out _ (hc.out.trans (Lau:Later W1 _)) Kq ckq hN.out).mono ?_);rintro e wb ⟨C,cc,rfl,hC,ht,hh⟩
  replace ht:Below _ _ wb:=ht;obtain ⟨HC,hM⟩:=zd2 hC hh;clear hC hh
  try go_wp2_with fail
  refine hK.out _ _ (KF.out _ Lau) (λhHeld=>?_);clear hK K
  try simp only [ga,gs,gz,Act.put,sa,sz,ss]
  refine tk 4 ?_;refine tk 5 ?_;refine tk 6 ?_;refine tk 7 ?_;clear KF;refine Zn1 krZ ?_ _;refine Zd1 ?_;have hF:Later W1 wb:=Lau;have hL:Later W1 wa:=Lau
  have he:=zI (show fH (Gr.bF n 1 cap) W (.returned (.tuple #[sQ C (Gr.low n (ones n.o.length)).1.length cc,nQ iQ (Gr.low n (ones n.o.length)).2])) wb from by
   rw [HE.out];exact ⟨C,cc,rfl,HC.out,hc.out.trans hF,λa ha=>Zv (Below.size (hc.out.trans hL)) (hM.out a ha)⟩)
  clear hF hL hq ht;go_wp2_with fail
  go_ret2
  exact he.out
 rw [inZ p1] at hE
 by_cases p2:planner=2
 ·rw [ipZ p2] at hE
  subst p2;clear p1;have hw:=qdw A N c d n (W.alloc (.cells #[sQ A n.inn.length c,sQ N n.o.length d] 26)) hok (hl.out _ hc.out) hd h12
  have hD:(qaw n (Safe.bK n.o.length)).length<=9223372036854775807:=by
   unfold qaw
   split
   ·have:=Rt.nP (Nt.sO n.o) (Safe.bK n.o.length).toNat
    have:=Rt.bW hch;have:=Nat.div_le_self (Nt.sO n.o).length (Safe.bK n.o.length).toNat;omega
   ·simp
  have hs:=zI λ(X:Zp1) (h:Later W X) (K:Option Addr) (ck:Nat) (hK:Ints iQ X K (qaw n (Safe.bK n.o.length)))=>qeT A N K c d ck n (qaw n (Safe.bK n.o.length)) X hok hch (hl.out X h) hd h12 hK hD
  generalize qaE n (Safe.bK n.o.length)=eE at *;generalize qaw n (Safe.bK n.o.length)=eL at *;have hk:Blk (W.alloc (.cells #[sQ A n.inn.length c,sQ N n.o.length d] 26)) W.heap.size 26 #[sQ A n.inn.length c,sQ N n.o.length d]:=Blk.new W _ _;obtain ⟨HE,hy,hA⟩:=zd3 hE hw hk;clear hE hw hk;clear hD;go_in;go_wp2_with fail;generalize W.alloc (.cells #[sQ A n.inn.length c,sQ N n.o.length d] 26)=W1 at *;refine hy.out.mono ?_;rintro e W2 ⟨K,ck,rfl,hK,hg⟩;have hi:=hc.out.trans hg;have hp:=hg.blk hA.out;clear u0 u1;have u0:W2.cell? ⟨W.heap.size,0,none⟩=some (sQ A n.inn.length c):=hp.cell 0;have u1:W2.cell? ⟨W.heap.size,1,none⟩=some (sQ N n.o.length d):=hp.cell 1;clear hy hg hp hA
  by_cases h0:eE=0
  ·have hb:=HE.out
   rw [h0,inZ sZ] at hb;have hG:=hs.out W2 hi K ck hK;subst h0;obtain ⟨hn,hB,hm⟩:=zd3 hb hG hi;clear hb hG hi;clear HE hK;go_wp2_with fail;refine hB.out.mono ?_;rintro e W3 hx;have hj:=hx.mono_ hm.out;obtain ⟨C,cc,rfl,-,-,-⟩:=hx;rw [←hn.out] at hj ⊢;have ho:=zI hj;clear hj;clear hB;go_wp2_with fail
   go_ret2
   exact ho.out
  ·have hb:=HE.out
   rw [ipZ h0] at hb;have hP:(eE != 0)=true:=by simp [h0]
   obtain ⟨hn,hm⟩:=zd2 hb hi;clear hb hi;clear HE hK h0;go_wp2_with fail
   go_ret2
   rw [hn.out];exact fH.bad eE hm.out
 rw [inZ p2] at hE
 by_cases p3:planner=3
 ·rw [ipZ p3] at hE
  subst p3;clear p1 p2;have hv:=qdy A N c d n cap (W.alloc (.cells #[sQ A n.inn.length c,sQ N n.o.length d] 26)) hok (hl.out _ hc.out) hd h12;obtain ⟨HE,hr⟩:=zd2 hE hv;clear hE hv;go_in;go_wp2_with fail;generalize W.alloc (.cells #[sQ A n.inn.length c,sQ N n.o.length d] 26)=W1 at *;refine hr.out.mono ?_;rintro e W2 ⟨hg,⟨h0,-⟩|⟨-,hf,rfl⟩|⟨-,kept,K,kc,C,cc,hf,rfl,-,hC,hh⟩⟩
  ·exact absurd hch h0
  ·have hi:=hc.out.trans hg
   have hb:=HE.out;rw [hf] at hb;obtain ⟨hn,hm⟩:=zd2 hb hi;clear hb hi;clear HE hg hr;go_wp2_with fail
   go_ret2
   rw [hn.out];exact fH.bad 26 hm.out
  ·have hb:=HE.out
   rw [hf] at hb
   have he:=zI (show fH (Gr.bF n 3 cap) W (.returned (.tuple #[sQ C (Rt.lW n kept).code.length cc,nQ iQ 0])) W2 from by
    rw [hb];exact ⟨C,cc,rfl,hC,hc.out.trans hg,λa ha=>Zv (Below.size hc.out) (hh a ha)⟩)
   clear hb hC hh hg HE hr hf;go_wp2_with fail
   go_ret2
   exact he.out
 rw [inZ p3] at hE
 by_cases p4:planner=4
 ·rw [ipZ p4] at hE
  subst p4;clear p1 p2 p3;have hz:=qda A N c d n cap (W.alloc (.cells #[sQ A n.inn.length c,sQ N n.o.length d] 26)) hok hch (hl.out _ hc.out) hd h12;obtain ⟨HE,hJ⟩:=zd2 hE hz;clear hE hz;go_in;go_wp2_with fail;generalize W.alloc (.cells #[sQ A n.inn.length c,sQ N n.o.length d] 26)=W1 at *;refine hJ.out.mono ?_;rintro e W2 ⟨C,cc,rfl,hC,hg,hh⟩
  have he:=zI (show fH (Gr.bF n 4 cap) W (.returned (.tuple #[sQ C (Gr.cK n cap).1.length cc,nQ iQ (Gr.cK n cap).2])) W2 from by
   rw [HE.out];exact ⟨C,cc,rfl,hC,hc.out.trans hg,λa ha=>Zv (Below.size hc.out) (hh a ha)⟩)
  clear hC hh hg hJ;go_wp2_with fail
  go_ret2
  exact he.out
 ·rw [inZ p4] at hE
  have d1:(planner==1)=false:=by simp [p1]
  have d2:(planner==2)=false:=by simp [p2]
  have d3:(planner==3)=false:=by simp [p3]
  have d4:(planner==4)=false:=by simp [p4]
  have HE:=zI hE;clear hE;clear p1 p2 p3 p4;go_in;go_wp2_with fail
  go_ret2
  rw [HE.out];exact fH.bad 11 hc.out
theorem qaU {w:Zp1} {g:Nat} {t:TypeId} {a0 a1 a2 a3 a4 a5:Value} (h:Blk w g t #[a0,a1,a2,a3,a4,a5]) (b0 b1 b2 b3 b4 b5:Value):
  Blk ((((((w.setCell ⟨g,0,none⟩ b0).setCell ⟨g,1,none⟩ b1).setCell ⟨g,2,none⟩ b2).setCell ⟨g,3,none⟩ b3).setCell ⟨g,4,none⟩ b4).setCell ⟨g,5,none⟩ b5) g t #[b0,b1,b2,b3,b4,b5]:=
 (((((h.aO 0 b0).aO 1 b1).aO 2 b2).aO 3 b3).aO 4 b4).aO 5 b5
theorem qaD {W w:Zp1} {g:Nat} (h:Later W w) (hg:W.heap.size<=g) (b0 b1 b2 b3 b4 b5:Value):
  Later W ((((((w.setCell ⟨g,0,none⟩ b0).setCell ⟨g,1,none⟩ b1).setCell ⟨g,2,none⟩ b2).setCell ⟨g,3,none⟩ b3).setCell ⟨g,4,none⟩ b4).setCell ⟨g,5,none⟩ b5):=
 (((((h.set (p:=⟨g,0,none⟩) hg b0).set (p:=⟨g,1,none⟩) hg b1).set (p:=⟨g,2,none⟩) hg b2).set (p:=⟨g,3,none⟩) hg b3).set (p:=⟨g,4,none⟩) hg b4).set (p:=⟨g,5,none⟩) hg b5
theorem qdU {w:Zp1} {g k:Nat} (hk:k≠g) (b0 b1 b2 b3 b4 b5:Value):
  ((((((w.setCell ⟨g,0,none⟩ b0).setCell ⟨g,1,none⟩ b1).setCell ⟨g,2,none⟩ b2).setCell ⟨g,3,none⟩ b3).setCell ⟨g,4,none⟩ b4).setCell ⟨g,5,none⟩ b5).heap[k]? = w.heap[k]?:=by
 rw [Below.heap_setCell _ ⟨g,5,none⟩ b5 k hk,Below.heap_setCell _ ⟨g,4,none⟩ b4 k hk,Below.heap_setCell _ ⟨g,3,none⟩ b3 k hk,Below.heap_setCell _ ⟨g,2,none⟩ b2 k hk,Below.heap_setCell _ ⟨g,1,none⟩ b1 k hk,Below.heap_setCell _ ⟨g,0,none⟩ b0 k hk]
theorem qc6 {w:Zp1} {g:Nat} {C:Option Addr} {ps:List (Int × Int)} (h:aW w C ps) (hC:∀a,C=some a->a.block≠g) (b0 b1 b2 b3 b4 b5:Value):
  aW ((((((w.setCell ⟨g,0,none⟩ b0).setCell ⟨g,1,none⟩ b1).setCell ⟨g,2,none⟩ b2).setCell ⟨g,3,none⟩ b3).setCell ⟨g,4,none⟩ b4).setCell ⟨g,5,none⟩ b5) C ps:=λk hk=>by
 obtain ⟨b,off,e,hl,h1,h2⟩:=h k hk;have ha:b≠g:=hC ⟨b,off,none⟩ e;have hh:=λ(o:Nat)=>Zi1 (w:=w) (a:=⟨b,o,none⟩) (qdU ha b0 b1 b2 b3 b4 b5)
 exact ⟨b,off,e,by simpa using hl,(hh _).trans h1,(hh _).trans h2⟩
theorem qah {w:Zp1} {g:Nat} {t:TypeId} {a b c d e f:Value} (h:Blk w g t #[a,b,c,d,e,f]):
  (w.cell? ⟨g,0,none⟩=some a/\w.cell? ⟨g,1,none⟩=some b/\w.cell? ⟨g,2,none⟩=some c/\w.cell? ⟨g,3,none⟩=some d/\w.cell? ⟨g,4,none⟩=some e/\w.cell? ⟨g,5,none⟩=some f)/\
   w.frozen? ⟨g,0,none⟩=false/\w.frozen? ⟨g,1,none⟩=false/\w.frozen? ⟨g,2,none⟩=false/\w.frozen? ⟨g,3,none⟩=false/\w.frozen? ⟨g,4,none⟩=false/\w.frozen? ⟨g,5,none⟩=false:=
 ⟨⟨h.cell 0,h.cell 1,h.cell 2,h.cell 3,h.cell 4,h.cell 5⟩,h.frozen 0,h.frozen 1,h.frozen 2,h.frozen 3,h.frozen 4,h.frozen 5⟩
structure Gr.Pl where
 pl:Int
 code:List (Int × Int)
 pk:Int
 co:Int
 ag:Int
 hi:Int
def Gr.fK:Gr.Pl:=⟨0,[],0,0,0,0⟩
def Gr.aM (n:aA) (planner cap:Int):Gr.Pl × Int:=
 if Nt.check n≠0 then (Gr.fK,Nt.check n) else
 if (Gr.bF n planner cap).2≠0 then (Gr.fK,(Gr.bF n planner cap).2) else
 if (Ck.run n (Gr.bF n planner cap).1 cap).2≠0 then (Gr.fK,26) else
 (⟨planner,(Gr.bF n planner cap).1,(Ck.run n (Gr.bF n planner cap).1 cap).1.1,(Ck.run n (Gr.bF n planner cap).1 cap).1.2.1,(Ck.run n (Gr.bF n planner cap).1 cap).1.2.2.1,(Ck.run n (Gr.bF n planner cap).1 cap).1.2.2.2⟩,0)
namespace Gr
theorem qT {n:aA} (h:Nt.check n=0) (h12:n.o.length<=12) (planner cap:Int):(bF n planner cap).1.length<=60000:=by
 have hl:=λkeep=>Rt.eT h h12 keep
 have ha:∀keep,(low n keep).1.length<=60000:=λkeep=>by
  have:=hl keep;unfold low
  split
  ·show (Rt.lW n keep).code.length<=_;omega
  ·simp
 unfold bF
 split
 ·exact ha _
 ·split
  ·split
   ·simp
   ·exact ha _
  ·split
   ·cases kL n cap with
    | none=>simp
    | some kept=>have:=hl kept;show (Rt.lW n kept).code.length<=_;omega
   ·split
    ·unfold cK
     split
     ·simp
     ·split
      ·simp
      ·have hb:=Rt.bW h
       have:=Ch.pP (ws:=Nt.aU n) (cs:=Nt.aR n) (cap:=cap) (by unfold Nt.aU Nt.aR;rw [List.length_cons,List.length_map,List.length_map]);simpa using this
    ·simp
end Gr
def fI (r:Gr.Pl × Int) (W:Zp1) (e:Ending) (w':Zp1):Prop:=
 ∃C cc,e=.returned (.tuple #[.agg #[nQ iQ r.1.pl,sQ C r.1.code.length cc,nQ iQ r.1.pk,nQ iQ r.1.co,nQ iQ r.1.ag,nQ iQ r.1.hi],nQ iQ r.2])/\aW w' C r.1.code/\Later W w'/\∀a,C=some a->W.heap.size<=a.block
theorem fI.bad (er:Int) {W w':Zp1} (hl:Later W w'):fI (Gr.fK,er) W (.returned (.tuple #[.agg #[nQ iQ 0,sQ none 0 0,nQ iQ 0,nQ iQ 0,nQ iQ 0,nQ iQ 0],nQ iQ er])) w':=⟨none,0,rfl,aW.nil,hl,λa ha=>by cases ha⟩
set_option maxRecDepth 100000 in
theorem qb4 (A N:Option Addr) (c d:Nat) (n:aA) (planner cap:Int) (W:Zp1) (hok:n.ok) (hR:bC W A N n) (hd:n.o.length<=d) (h12:n.o.length<=12) (hcap : -9223372036854775808<=cap/\cap<=9223372036854775807):
  Calls prog 16 #[.agg #[sQ A n.inn.length c,sQ N n.o.length d],nQ iQ planner,nQ iQ cap] W (fI (Gr.aM n planner cap) W):=by
 have hY:Later W ((W.alloc (.cells #[sQ A n.inn.length c,sQ N n.o.length d] 26)).alloc (.cells #[nQ iQ 0,sQ none 0 0,nQ iQ 0,nQ iQ 0,nQ iQ 0,nQ iQ 0] 50)):=((Later.refl W).alloc _).alloc _;have hL:=(Blk.new W 26 #[sQ A n.inn.length c,sQ N n.o.length d]).alloc (.cells #[nQ iQ 0,sQ none 0 0,nQ iQ 0,nQ iQ 0,nQ iQ 0,nQ iQ 0] 50);have hJ:=Blk.new (W.alloc (.cells #[sQ A n.inn.length c,sQ N n.o.length d] 26)) 50 #[nQ iQ 0,sQ none 0 0,nQ iQ 0,nQ iQ 0,nQ iQ 0,nQ iQ 0];rw [Zh1] at hJ;obtain ⟨rm,hrm⟩:∃r,Gr.aM n planner cap=r:=⟨_,rfl⟩
 have hb:rm=if Nt.check n≠0 then (Gr.fK,Nt.check n) else
  if (Gr.bF n planner cap).2≠0 then (Gr.fK,(Gr.bF n planner cap).2) else
  if (Ck.run n (Gr.bF n planner cap).1 cap).2≠0 then (Gr.fK,26) else
  (⟨planner,(Gr.bF n planner cap).1,(Ck.run n (Gr.bF n planner cap).1 cap).1.1,(Ck.run n (Gr.bF n planner cap).1 cap).1.2.1,(Ck.run n (Gr.bF n planner cap).1 cap).1.2.2.1,(Ck.run n (Gr.bF n planner cap).1 cap).1.2.2.2⟩,0):=by rw [←hrm];rfl
 rw [hrm];obtain ⟨HR,hF,hQ,hN,hX,he⟩:=zd6 hR hok hY hL hJ hb;clear hR hok hY hL hJ hb;clear hrm;go_in;go_wp2_with fail;generalize (W.alloc (.cells #[sQ A n.inn.length c,sQ N n.o.length d] 26)).alloc (.cells #[nQ iQ 0,sQ none 0 0,nQ iQ 0,nQ iQ 0,nQ iQ 0,nQ iQ 0] 50)=W1 at *;refine (qbJ A N c d n W1 hF.out (HR.out.below hQ.out (lrZ _)) hd).mono ?_;rintro e W2 ⟨rfl,h2⟩;have hh:Later W1 W2:=h2;have hm:=hQ.out.trans hh;have hn:=hh.blk hN.out;have ht:=hh.blk hX.out;clear h2 hh hN hX;have hv:W.heap.size<=W.heap.size+1:=Zy _
 by_cases hk:Nt.check n=0
 rotate_left
 ·have hS:(Nt.check n != 0)=true:=by simp [hk]
  have hb:=he.out;rw [ipZ hk] at hb;clear he;have hg:=qaD hm hv (nQ iQ 0) (sQ none 0 0) (nQ iQ 0) (nQ iQ 0) (nQ iQ 0) (nQ iQ 0);have hf:=qaU ht (nQ iQ 0) (sQ none 0 0) (nQ iQ 0) (nQ iQ 0) (nQ iQ 0) (nQ iQ 0);obtain ⟨⟨y0,y1,y2,y3,y4,y5⟩,f0,f1,f2,f3,f4,f5⟩:=qah ht;have hj:=zI hf;subst hb;have hc:=zI (fI.bad (Nt.check n) hg);generalize Nt.check n=er at *;clear ht hn hm hg hf hk;go_wp2_with fail;obtain ⟨⟨z0,z1,z2,z3,z4,z5⟩,-⟩:=qah hj.out;refine Zk1 (v:=.tuple #[.agg #[nQ iQ 0,sQ none 0 0,nQ iQ 0,nQ iQ 0,nQ iQ 0,nQ iQ 0],nQ iQ er]) (by simp [results,results16,go_sem,z0,z1,z2,z3,z4,z5]) rfl ?_;exact hc.out
 have hb:=he.out;rw [inZ (by simp [hk])] at hb;clear he;rw [hk];have u0:W2.cell? ⟨W.heap.size,0,none⟩=some (sQ A n.inn.length c):=hn.cell 0;have u1:W2.cell? ⟨W.heap.size,1,none⟩=some (sQ N n.o.length d):=hn.cell 1;have hT:=qeU A N c d n planner cap W2 hF.out hk (HR.out.below hm (lrZ _)) hd h12;have hP:=λ(Y:Zp1) (h:Later W Y) (C:Option Addr) (cc:Nat) (hC:aW Y C (Gr.bF n planner cap).1)=>qeL A N C c d cc n (Gr.bF n planner cap).1 cap Y hF.out (HR.out.below h (lrZ _)) hd oZ hcap (by have:=Gr.qT hk h12 planner cap;omega) hC
 generalize Gr.bF n planner cap=cr at *;obtain ⟨hw,hE,hA,hV,hI,he⟩:=zd6 hm hn ht hT hP hb;clear hm hn ht hT hP hb;go_wp2_with fail;refine hV.out.mono ?_;rintro e W3 ⟨C,cc,rfl,hC,hp,hq⟩;have hu:=hw.out.trans hp;have hy:=hp.blk hE.out;have hr:=hp.blk hA.out;clear hV u0 u1
 by_cases hs:cr.2=0
 rotate_left
 ·have hS:(cr.2 != 0)=true:=by simp [hs]
  have hb:=he.out;rw [ipZ hs] at hb;clear he;have hg:=qaD hu hv (nQ iQ 0) (sQ none 0 0) (nQ iQ 0) (nQ iQ 0) (nQ iQ 0) (nQ iQ 0);have hf:=qaU hr (nQ iQ 0) (sQ none 0 0) (nQ iQ 0) (nQ iQ 0) (nQ iQ 0) (nQ iQ 0);obtain ⟨⟨y0,y1,y2,y3,y4,y5⟩,f0,f1,f2,f3,f4,f5⟩:=qah hr;have hj:=zI hf;subst hb;have hc:=zI (fI.bad cr.2 hg);generalize cr.2=er at *;clear hr hy hu hg hf hs hC hp hq hw hE hA hI;go_wp2_with fail;obtain ⟨⟨z0,z1,z2,z3,z4,z5⟩,-⟩:=qah hj.out;refine Zk1 (v:=.tuple #[.agg #[nQ iQ 0,sQ none 0 0,nQ iQ 0,nQ iQ 0,nQ iQ 0,nQ iQ 0],nQ iQ er]) (by simp [results,results16,go_sem,z0,z1,z2,z3,z4,z5]) rfl ?_;exact hc.out
 have hb:=he.out;rw [inZ (by simp [hs])] at hb;clear he;rw [hs];have hz:=hI.out W3 hu C cc hC;have hH:∀a,C=some a->W2.heap.size<=a.block:=hq
 have hK:∀a,C=some a->a.block≠W.heap.size+1:=λa ha=>by
  have h1:=hq a ha;have h2:=hA.out.lt;omega
 have hO:∀a,C=some a->W.heap.size<=a.block:=λa ha=>Zv (Below.size hw.out) (hq a ha)
 have u0:W3.cell? ⟨W.heap.size,0,none⟩=some (sQ A n.inn.length c):=hy.cell 0;have u1:W3.cell? ⟨W.heap.size,1,none⟩=some (sQ N n.o.length d):=hy.cell 1;unfold wG qi3 at hz;generalize Ck.run n cr.1 cap=rr at *;obtain ⟨⟨pk,co,ag,hi⟩,rer⟩:=rr;simp only at hb hz;obtain ⟨hM,hZ,HC,h3,h4,hW,he⟩:=zd7 hu hr hC hK hO hz hb;clear hu hr hC hK hO hz hb;clear hp hq hH hw hE hA hy hI;go_wp2_with fail;refine hW.out.mono ?_;rintro e W4 ⟨rfl,h0⟩;have hx:=h0.alloc (.cells #[nQ iQ pk,nQ iQ co,nQ iQ ag,nQ iQ hi] 48);have hD:=Blk.new W4 48 #[nQ iQ pk,nQ iQ co,nQ iQ ag,nQ iQ hi];have hB:=hM.out.trans hx;have ho:=hx.blk hZ.out;have hG:=HC.out.below hx (lrZ _);obtain ⟨⟨y0,y1,y2,y3,y4,y5⟩,f0,f1,f2,f3,f4,f5⟩:=qah ho;clear hW u0 u1 h0 hx hM hZ HC
 by_cases hl:rer=0
 rotate_left
 ·have hS:(rer != 0)=true:=by simp [hl]
  have hb:=he.out;rw [ipZ hl] at hb;clear he;have hg:=qaD hB hv (nQ iQ 0) (sQ none 0 0) (nQ iQ 0) (nQ iQ 0) (nQ iQ 0) (nQ iQ 0);have hf:=qaU ho (nQ iQ 0) (sQ none 0 0) (nQ iQ 0) (nQ iQ 0) (nQ iQ 0) (nQ iQ 0);have hj:=zI hf;subst hb;have hc:=zI (fI.bad 26 hg);clear ho hB hg hf hl hD hG;go_wp2_with fail;obtain ⟨⟨z0,z1,z2,z3,z4,z5⟩,-⟩:=qah hj.out;refine Zk1 (v:=.tuple #[.agg #[nQ iQ 0,sQ none 0 0,nQ iQ 0,nQ iQ 0,nQ iQ 0,nQ iQ 0],nQ iQ 26]) (by simp [results,results16,go_sem,z0,z1,z2,z3,z4,z5]) rfl ?_;exact hc.out
 ·have hb:=he.out
  rw [inZ (by simp [hl])] at hb;clear he;subst hl;obtain ⟨s0,s1,s2,s3⟩:=(qaC hD).1;have hg:=qaD hB hv (nQ iQ planner) (sQ C cr.1.length cc) (nQ iQ pk) (nQ iQ co) (nQ iQ ag) (nQ iQ hi);have hf:=qaU ho (nQ iQ planner) (sQ C cr.1.length cc) (nQ iQ pk) (nQ iQ co) (nQ iQ ag) (nQ iQ hi);have hU:=qc6 hG h3.out (nQ iQ planner) (sQ C cr.1.length cc) (nQ iQ pk) (nQ iQ co) (nQ iQ ag) (nQ iQ hi);have hj:=zI hf;subst hb;have hc:=zI (show fI (⟨planner,cr.1,pk,co,ag,hi⟩,0) W (.returned (.tuple #[.agg #[nQ iQ planner,sQ C cr.1.length cc,nQ iQ pk,nQ iQ co,nQ iQ ag,nQ iQ hi],nQ iQ 0])) _ from ⟨C,cc,rfl,hU,hg,h4.out⟩);clear ho hB hg hf hD hG hU;go_wp2_with fail;obtain ⟨⟨z0,z1,z2,z3,z4,z5⟩,-⟩:=qah hj.out;refine Zk1 (v:=.tuple #[.agg #[nQ iQ planner,sQ C cr.1.length cc,nQ iQ pk,nQ iQ co,nQ iQ ag,nQ iQ hi],nQ iQ 0]) (by simp [results,results16,go_sem,z0,z1,z2,z3,z4,z5]) rfl ?_;exact hc.out
namespace Gr
def better (n:aA) (cap:Int) (b:Pl) (p:Int):Pl:=if (aM n p cap).2≠0 then b else if b.pl=0∨(aM n p cap).1.co<b.co then (aM n p cap).1 else b
def bL (n:aA) (cap:Int):Nat->Pl
 | 0=>fK
 | k+1=>better n cap (bL n cap k) ((k:Int)+1)
def dM (n:aA) (cap:Int):Pl × Int:=if Nt.check n≠0 then (fK,Nt.check n) else if (bL n cap 4).pl=0 then (fK,26) else (bL n cap 4,0)
end Gr
def plCells (r:Gr.Pl) (C:Option Addr) (cc:Nat):Array Value:=#[nQ iQ r.pl,sQ C r.code.length cc,nQ iQ r.pk,nQ iQ r.co,nQ iQ r.ag,nQ iQ r.hi]
structure PlM (b:Nat) (r:Gr.Pl) (C:Option Addr) (cc:Nat) (w:Zp1):Prop where
 box:Blk w b 50 (plCells r C cc)
 code:aW w C r.code
theorem PlM.to_later {b:Nat} {r:Gr.Pl} {C:Option Addr} {cc:Nat} {w w':Zp1} (h:PlM b r C cc w) (hl:Later w w'):PlM b r C cc w':=⟨hl.blk h.box,h.code.below hl (lrZ _)⟩
set_option maxRecDepth 100000 in
theorem qfB (A N:Option Addr) (c d:Nat) (n:aA) (cap:Int) (W:Zp1) (hok:n.ok) (hR:bC W A N n) (hd:n.o.length<=d) (h12:n.o.length<=12) (hcap : -9223372036854775808<=cap/\cap<=9223372036854775807):
  Calls prog 18 #[.agg #[sQ A n.inn.length c,sQ N n.o.length d],nQ iQ cap] W (fI (Gr.dM n cap) W):=by
 have Hp:Later W ((W.alloc (.cells #[sQ A n.inn.length c,sQ N n.o.length d] 26)).alloc (.cells #[nQ iQ 0,sQ none 0 0,nQ iQ 0,nQ iQ 0,nQ iQ 0,nQ iQ 0] 50)):=((Later.refl W).alloc _).alloc _;have He:=(Blk.new W 26 #[sQ A n.inn.length c,sQ N n.o.length d]).alloc (.cells #[nQ iQ 0,sQ none 0 0,nQ iQ 0,nQ iQ 0,nQ iQ 0,nQ iQ 0] 50);have hS:=Blk.new (W.alloc (.cells #[sQ A n.inn.length c,sQ N n.o.length d] 26)) 50 #[nQ iQ 0,sQ none 0 0,nQ iQ 0,nQ iQ 0,nQ iQ 0,nQ iQ 0];rw [Zh1] at hS;obtain ⟨rb,hrb⟩:∃r,Gr.dM n cap=r:=⟨_,rfl⟩
 have hE:rb=if Nt.check n≠0 then (Gr.fK,Nt.check n) else if (Gr.bL n cap 4).pl=0 then (Gr.fK,26) else (Gr.bL n cap 4,0):=by rw [←hrb];rfl
 rw [hrb];clear hrb;have hT:W.heap.size<=W.heap.size+1:=Zy _;obtain ⟨HR,h0,Hi,h4,h8,HE⟩:=zd6 hR hok Hp He hS hE;clear hR hok Hp He hS hE;go_in;go_wp2_with fail;generalize (W.alloc (.cells #[sQ A n.inn.length c,sQ N n.o.length d] 26)).alloc (.cells #[nQ iQ 0,sQ none 0 0,nQ iQ 0,nQ iQ 0,nQ iQ 0,nQ iQ 0] 50)=W1 at *;refine (qbJ A N c d n W1 h0.out (HR.out.below Hi.out (lrZ _)) hd).mono ?_;rintro e W2 ⟨rfl,h2⟩;have hr:Later W1 W2:=h2;have hw:=Hi.out.trans hr;have hQ:=hr.blk h4.out;have hz:=hr.blk h8.out;clear h2 hr h4 h8
 by_cases hK:Nt.check n=0
 rotate_left
 ·have Ht:(Nt.check n != 0)=true:=by simp [hK]
  have hE:=HE.out;rw [ipZ hK] at hE;clear HE;subst hE;have ht:=qaD hw hT (nQ iQ 0) (sQ none 0 0) (nQ iQ 0) (nQ iQ 0) (nQ iQ 0) (nQ iQ 0);have hu:=qaU hz (nQ iQ 0) (sQ none 0 0) (nQ iQ 0) (nQ iQ 0) (nQ iQ 0) (nQ iQ 0);obtain ⟨⟨y0,y1,y2,y3,y4,y5⟩,f0,f1,f2,f3,f4,f5⟩:=qah hz;have hI:=zI hu;have ho:=zI (fI.bad (Nt.check n) ht);generalize Nt.check n=er at *;clear hz hQ hw ht hu hK;go_wp2_with fail;obtain ⟨⟨z0,z1,z2,z3,z4,z5⟩,-⟩:=qah hI.out;refine Zk1 (v:=.tuple #[.agg #[nQ iQ 0,sQ none 0 0,nQ iQ 0,nQ iQ 0,nQ iQ 0,nQ iQ 0],nQ iQ er]) (by simp [results,results18,go_sem,z0,z1,z2,z3,z4,z5]) rfl ?_;exact ho.out
 have hE:=HE.out;rw [inZ (by simp [hK])] at hE;clear HE;rw [hK];have Hl:=λ(p:Int) (Y:Zp1) (h:Later W Y)=>qb4 A N c d n p cap Y h0.out (HR.out.below h (lrZ _)) hd h12 hcap
 have Hd:∀k,Gr.bL n cap (k+1)=if (Gr.aM n ((k:Int)+1) cap).2≠0 then Gr.bL n cap k else if (Gr.bL n cap k).pl=0∨(Gr.aM n ((k:Int)+1) cap).1.co<(Gr.bL n cap k).co then (Gr.aM n ((k:Int)+1) cap).1 else Gr.bL n cap k:=λ_=>rfl
 have Ho:=Blk.new W2 50 #[nQ iQ 0,sQ none 0 0,nQ iQ 0,nQ iQ 0,nQ iQ 0,nQ iQ 0];have hL:Later W2 (W2.alloc (.cells #[nQ iQ 0,sQ none 0 0,nQ iQ 0,nQ iQ 0,nQ iQ 0,nQ iQ 0] 50)):=(Later.refl W2).alloc _;have hq:=hw.trans hL;have hX:=hL.blk hQ;have Hg:=hL.blk hz;have Hv:=hz.lt;obtain ⟨HE,Hr,Hq,Hk,hO,h6,h9⟩:=zd7 hE Hl Hd Ho hq hX Hg;clear hE Hl Hd Ho hq hX Hg;clear hQ hz hw hL;go_wp2_with fail;generalize W2.alloc (.cells #[nQ iQ 0,sQ none 0 0,nQ iQ 0,nQ iQ 0,nQ iQ 0,nQ iQ 0] 50)=W3 at *;generalize W2.heap.size=bb at *
 go_loopw [8,9,10] (λpl _ _ wr=>∃(k:Nat) (C:Option Addr) (cc:Nat),k<=4/\pl=nQ iQ ((k:Int)+1)/\PlM bb (Gr.bL n cap k) C cc wr/\(∀a,C=some a->bb<a.block)/\Later W wr/\Blk wr W.heap.size 26 #[sQ A n.inn.length c,sQ N n.o.length d]/\Blk wr (W.heap.size+1) 50 #[nQ iQ 0,sQ none 0 0,nQ iQ 0,nQ iQ 0,nQ iQ 0,nQ iQ 0]) (λpl _ _ _=>5-(intOf pl).toNat)
 case atStart=>exact ⟨0,none,0,by omega,rfl,⟨Hk.out,aW.nil⟩,(λa ha=>nomatch ha),hO.out,h6.out,h9.out⟩
 case round=>
  obtain ⟨k,C,cc,hk,rfl,hM,hC,hv,hB,hx⟩:=hrel;clear Hk hO h6 h9
  by_cases Hx:k<4
  ·have u0:wr.cell? ⟨W.heap.size,0,none⟩=some (sQ A n.inn.length c):=hB.cell 0
   have u1:wr.cell? ⟨W.heap.size,1,none⟩=some (sQ N n.o.length d):=hB.cell 1;have hs:=Hq.out k;have hm:=Hr.out ((k:Int)+1) wr hv;have Hw:=hM.box.lt;have k1:(k:Int)+1<=4:=by omega
   have w1:iQ.wrap ((k:Int)+1+1)=(k:Int)+1+1:=Zc1 _ oZ;generalize hB0:Gr.bL n cap k=b0 at *;generalize hB1:Gr.bL n cap (k+1)=b1 at *;unfold fI at hm;generalize Gr.aM n ((k:Int)+1) cap=mr at *;obtain ⟨r,er⟩:=mr;simp only at hs hm;obtain ⟨HM,HC,hZ,Hb,Hn,Hm,Hu,hN⟩:=zd8 hM hC hv hB hx hm hB0 hB1;clear hM hC hv hB hx hm hB0 hB1;go_wp2_with fail;refine Hm.out.mono ?_;rintro e w2 ⟨D,dd,rfl,hD,hw,Hj⟩;have hP:=Blk.new w2 50 #[nQ iQ r.pl,sQ D r.code.length dd,nQ iQ r.pk,nQ iQ r.co,nQ iQ r.ag,nQ iQ r.hi];have hq:=hw.alloc (.cells #[nQ iQ r.pl,sQ D r.code.length dd,nQ iQ r.pk,nQ iQ r.co,nQ iQ r.ag,nQ iQ r.hi] 50);have hy:=hD.below (show Later w2 _ from (Later.refl w2).alloc (.cells #[nQ iQ r.pl,sQ D r.code.length dd,nQ iQ r.pk,nQ iQ r.co,nQ iQ r.ag,nQ iQ r.hi] 50)) (lrZ _);have hn:=HM.out.to_later hq;have hg:=hZ.out.trans hq;have hc:=hq.blk Hb.out;have hf:=hq.blk Hn.out;have hF:∀a,D=some a->bb<a.block:=λa ha=>by have:=Hj a ha;omega
   obtain ⟨⟨m0,m1,m2,m3,m4,m5⟩,n0,n1,n2,n3,n4,n5⟩:=qah hn.box;obtain ⟨⟨q0,q1,q2,q3,q4,q5⟩,-⟩:=qah hP;clear Hm u0 u1 HM hZ Hb Hn hw hD Hj
   by_cases he:er=0
   rotate_left
   ·have Ht:(er != 0)=true:=by simp [he]
    rw [ipZ he] at hs;rw [←hs] at hn;obtain ⟨hA,hj,hl,hh,Hs⟩:=zd5 hn hg hc hf hs;clear hn hg hc hf hs;clear he hP hq hy m0 m1 m2 m3 m4 m5 q0 q1 q2 q3 q4 q5 n0 n1 n2 n3 n4 n5;go_wp2_with fail;go_roundw
    case rel=>exact ⟨k+1,C,cc,by omega,by go_num,by rw [hN.out];exact hA.out,HC.out,hj.out,hl.out,hh.out⟩
    case measure=>simp [intOf];omega
   rw [inZ (by simp [he])] at hs;subst he;have hJ:(w2.alloc (.cells #[nQ iQ r.pl,sQ D r.code.length dd,nQ iQ r.pk,nQ iQ r.co,nQ iQ r.ag,nQ iQ r.hi] 50)).heap.size=w2.heap.size+1:=Zh1 _ _;clear hP;obtain ⟨hA,hY,hj,hl,hh,hO,hU,Hs,hH⟩:=zd9 hn hy hg hc hf hq hJ hs hF;clear hn hy hg hc hf hq hJ hs hF;go_upto_region 10 with fail;generalize w2.alloc (.cells #[nQ iQ r.pl,sQ D r.code.length dd,nQ iQ r.pk,nQ iQ r.co,nQ iQ r.ag,nQ iQ r.hi] 50)=w3 at *;generalize w2.heap.size=pb at *;have hn:=hA.out;have hy:=hY.out;have hg:=hj.out;have hc:=hl.out;have hf:=hh.out;have hs:=Hs.out;have hF:=hH.out;clear hA hY hj hl hh hO hU Hs hH
   by_cases hb:b0.pl=0∨r.co<b0.co
   ·rw [ipZ hb] at hs
    have Hc:PlM bb r D dd _:=⟨qaU hn.box (nQ iQ r.pl) (sQ D r.code.length dd) (nQ iQ r.pk) (nQ iQ r.co) (nQ iQ r.ag) (nQ iQ r.hi),qc6 hy (λa ha=>by have:=hF a ha;omega) (nQ iQ r.pl) (sQ D r.code.length dd) (nQ iQ r.pk) (nQ iQ r.co) (nQ iQ r.ag) (nQ iQ r.hi)⟩
    have Hh:=qaD hg (show W.heap.size<=bb by omega) (nQ iQ r.pl) (sQ D r.code.length dd) (nQ iQ r.pk) (nQ iQ r.co) (nQ iQ r.ag) (nQ iQ r.hi);have h3:Blk _ W.heap.size 26 #[sQ A n.inn.length c,sQ N n.o.length d]:=(qdU (show W.heap.size≠bb by omega) (nQ iQ r.pl) (sQ D r.code.length dd) (nQ iQ r.pk) (nQ iQ r.co) (nQ iQ r.ag) (nQ iQ r.hi)).trans hc;have hW:Blk _ (W.heap.size+1) 50 #[nQ iQ 0,sQ none 0 0,nQ iQ 0,nQ iQ 0,nQ iQ 0,nQ iQ 0]:=(qdU (show W.heap.size+1≠bb by omega) (nQ iQ r.pl) (sQ D r.code.length dd) (nQ iQ r.pk) (nQ iQ r.co) (nQ iQ r.ag) (nQ iQ r.hi)).trans hf;obtain ⟨h1,h5,Hf,Ha,Hs,hH⟩:=zd6 Hc Hh h3 hW hs hF;clear Hc Hh h3 hW hs hF;clear hn hg hc hf hy
    by_cases hp:b0.pl=0
    ·have e1:(b0.pl==0)=true:=by simp [hp]
     clear hb;go_wp2_with fail;go_roundw
     case rel=>exact ⟨k+1,D,dd,by omega,by go_num,by rw [hN.out,Hs.out];exact h1.out,hH.out,h5.out,Hf.out,Ha.out⟩
     case measure=>simp [intOf];omega
    ·have e1:(b0.pl==0)=false:=by simp [hp]
     have e2:r.co<b0.co:=by rcases hb with h|h<;>first|exact absurd h hp|exact h
     clear hb hp;go_wp2_with fail;go_roundw
     case rel=>exact ⟨k+1,D,dd,by omega,by go_num,by rw [hN.out,Hs.out];exact h1.out,hH.out,h5.out,Hf.out,Ha.out⟩
     case measure=>simp [intOf];omega
   ·rw [inZ hb] at hs
    rw [←hs] at hn;have e1:(b0.pl==0)=false:=by simp;exact λh=>hb (.inl h)
    have e2:¬r.co<b0.co:=λh=>hb (.inr h)
    obtain ⟨hA,hj,hl,hh,Hs⟩:=zd5 hn hg hc hf hs;clear hn hg hc hf hs;clear hb hy;go_wp2_with fail;go_roundw
    case rel=>exact ⟨k+1,C,cc,by omega,by go_num,by rw [hN.out];exact hA.out,HC.out,hj.out,hl.out,hh.out⟩
    case measure=>simp [intOf];omega
  ·obtain rfl:k=4:=by omega
   have hG:=HE.out;obtain ⟨⟨m0,m1,m2,m3,m4,m5⟩,-⟩:=qah hM.box;obtain ⟨⟨y0,y1,y2,y3,y4,y5⟩,f0,f1,f2,f3,f4,f5⟩:=qah hx;have Hy:bb>W.heap.size+1:=by omega
   generalize Gr.bL n cap 4=b at *
   by_cases hp:b.pl=0
   ·rw [ipZ hp] at hG
    have hV:=zI hG;clear hG HE;have e1:(b.pl==0)=true:=by simp [hp]
    have ht:=qaD hv hT (nQ iQ 0) (sQ none 0 0) (nQ iQ 0) (nQ iQ 0) (nQ iQ 0) (nQ iQ 0);have hu:=qaU hx (nQ iQ 0) (sQ none 0 0) (nQ iQ 0) (nQ iQ 0) (nQ iQ 0) (nQ iQ 0);have hI:=zI hu;have ho:=zI (fI.bad 26 ht);clear ht hu hM hC hv hB hx hp;go_wp2_with fail;obtain ⟨⟨z0,z1,z2,z3,z4,z5⟩,-⟩:=qah hI.out;refine Zk1 (v:=.tuple #[.agg #[nQ iQ 0,sQ none 0 0,nQ iQ 0,nQ iQ 0,nQ iQ 0,nQ iQ 0],nQ iQ 26]) (by simp [results,results18,go_sem,z0,z1,z2,z3,z4,z5]) rfl ?_;rw [hV.out];exact ho.out
   ·rw [inZ hp] at hG
    have hV:=zI hG;clear hG HE;have e1:(b.pl==0)=false:=by simp [hp]
    have ht:=qaD hv hT (nQ iQ b.pl) (sQ C b.code.length cc) (nQ iQ b.pk) (nQ iQ b.co) (nQ iQ b.ag) (nQ iQ b.hi);have hu:=qaU hx (nQ iQ b.pl) (sQ C b.code.length cc) (nQ iQ b.pk) (nQ iQ b.co) (nQ iQ b.ag) (nQ iQ b.hi);have h7:=qc6 (g:=W.heap.size+1) hM.code (λa ha=>by have:=hC a ha;omega) (nQ iQ b.pl) (sQ C b.code.length cc) (nQ iQ b.pk) (nQ iQ b.co) (nQ iQ b.ag) (nQ iQ b.hi);have hI:=zI hu;have ho:=zI (show fI (b,0) W (.returned (.tuple #[.agg #[nQ iQ b.pl,sQ C b.code.length cc,nQ iQ b.pk,nQ iQ b.co,nQ iQ b.ag,nQ iQ b.hi],nQ iQ 0])) _ from ⟨C,cc,rfl,h7,ht,λa ha=>by have:=hC a ha;omega⟩);clear ht hu hM hC hv hB hx hp h7;go_wp2_with fail;obtain ⟨⟨z0,z1,z2,z3,z4,z5⟩,-⟩:=qah hI.out;refine Zk1 (v:=.tuple #[.agg #[nQ iQ b.pl,sQ C b.code.length cc,nQ iQ b.pk,nQ iQ b.co,nQ iQ b.ag,nQ iQ b.hi],nQ iQ 0]) (by simp [results,results18,go_sem,z0,z1,z2,z3,z4,z5]) rfl ?_;rw [hV.out];exact ho.out
namespace Gr
structure Lo where
 low:Int
 fnd:Bool
 good:Int
def look (n:aA) (kept:List Int) (s:Lo):Lo:=if aB n kept<s.low then (if (Cd.aD (Rt.lW n kept).code (Nt.aD n)).2=0 then ⟨aB n kept,true,aB n kept⟩ else ⟨aB n kept,s.fnd,s.good⟩) else s
def mE (n:aA):Nat->List Int->Lo->Lo
 | 0,_,s=>s
 | m+1,kept,s=>if kept.length=0 then look n kept s else mE n m (less (Nt.words n) kept) (look n kept s)
def vL (n:aA):Int × Int:=if (mE n (n.o.length+1) (ones n.o.length) ⟨1073741825,false,0⟩).fnd=false then (0,26) else ((mE n (n.o.length+1) (ones n.o.length) ⟨1073741825,false,0⟩).good,0)
end Gr
set_option maxRecDepth 100000 in
theorem qfC (A N:Option Addr) (c d:Nat) (n:aA) (W:Zp1) (hok:n.ok) (hch:Nt.check n=0) (hR:bC W A N n) (hd:n.o.length<=d) (h12:n.o.length<=12):
  Calls prog 37 #[.agg #[sQ A n.inn.length c,sQ N n.o.length d]] W λe w'=>e=.returned (.tuple #[nQ iQ (Gr.vL n).1,nQ iQ (Gr.vL n).2])/\Later W w':=by
 have HK:Later W (W.alloc (.cells #[sQ A n.inn.length c,sQ N n.o.length d] 26)):=(Later.refl W).alloc _;have HB:=Blk.new W 26 #[sQ A n.inn.length c,sQ N n.o.length d];have Hr:=qaJ n.o.length;obtain ⟨lr,hlr⟩:∃r,Gr.vL n=r:=⟨_,rfl⟩
 have hE:lr=if (Gr.mE n (n.o.length+1) (ones n.o.length) ⟨1073741825,false,0⟩).fnd=false then (0,26) else ((Gr.mE n (n.o.length+1) (ones n.o.length) ⟨1073741825,false,0⟩).good,0):=by rw [←hlr];rfl
 rw [hlr];have Hj:=Nt.bX hch;have Hp:(Nt.aD n).length=n.o.length+1:=by simp [Nt.aD,Nt.bH]
 obtain ⟨z,hz⟩:∃z,Gr.mE n (n.o.length+1) (ones n.o.length) ⟨1073741825,false,0⟩=z:=⟨_,rfl⟩
 rw [hz] at hE;obtain ⟨HR,Hb,h7,HL,HE,HN,HQ,Hy,Hz⟩:=zd9 hR hok HK HB hE Hr Hj Hp hz;have hW:=zI hch;clear hR hok HK HB hE Hr Hj Hp hz hch;clear hlr;go_in;go_wp2_with fail;generalize W.alloc (.cells #[sQ A n.inn.length c,sQ N n.o.length d] 26)=W1 at *;refine (qcl A N c d n W1 Hb.out (HR.out.below h7.out (lrZ _)) hd h12).mono ?_;rintro e W2 (⟨h0,-⟩|⟨-,g,k,p,rfl,hM⟩)
 ·exact absurd hW.out h0
 have Ha:=hM.later.blk HL.out;have u0:W2.cell? ⟨W.heap.size,0,none⟩=some (sQ A n.inn.length c):=Ha.cell 0;have u1:W2.cell? ⟨W.heap.size,1,none⟩=some (sQ N n.o.length d):=Ha.cell 1;have HC:=qcw A N c d n W2 Hb.out (HR.out.below (h7.out.trans hM.later) (lrZ _)) hd oZ;obtain ⟨HM,Hk⟩:=zd2 hM HC;clear hM HC;clear Ha;go_wp2_with fail;refine Hk.out.mono ?_;rintro e W3 ⟨Hl,⟨-,g1,g2,rfl,-,h6⟩|⟨h0,-⟩⟩
 rotate_left
 ·exact absurd hW.out h0
 have hN:Later W2 W3:=Hl;have ho:=HM.out.to_later hN;have h8:=Blk.new W3 55 #[sQ (some ⟨g1,0,none⟩) (n.o.length+1) (n.o.length+1),sQ (some ⟨g2,0,none⟩) (n.o.length+1) (n.o.length+1),nQ iQ (Nt.total n)];have hK:Later W3 (W3.alloc (.cells #[sQ (some ⟨g1,0,none⟩) (n.o.length+1) (n.o.length+1),sQ (some ⟨g2,0,none⟩) (n.o.length+1) (n.o.length+1),nQ iQ (Nt.total n)] 55)):=(Later.refl W3).alloc _;have HA:=ho.to_later hK;have HI:=hK.blk h6;have HF:1<=n.o.length:=(Nt.aL hW.out).1
 have hT:k≠g2:=λe=>by
  obtain ⟨r,hr,-⟩:=ho.row;rw [e] at hr;have h1:=hr.cell 0;have h2:=h6.cell 0;rw [h1] at h2
  have e1:(qae (ones n.o.length++r)).toArray[0]? = some (nQ iQ 1):=by
   obtain ⟨m,hm⟩:∃m,n.o.length=m+1:=⟨n.o.length-1,by omega⟩
   rw [hm];simp [qae,ones,List.range_succ_eq_map]
  have e2:(qae (Nt.aD n)).toArray[0]? = some (nQ iQ 0):=by simp [qae,Nt.aD]
  rw [e1,e2] at h2;simp at h2
 have hO:p≠g2:=Blk.ne ho.box h6 dZ;have HU:=h8.lt;have HO:p≠W3.heap.size:=by have:=ho.box.lt;omega
 have HP:k≠W3.heap.size:=by obtain ⟨r,hr,-⟩:=ho.row;have:=hr.lt;omega
 obtain ⟨Ho,HG,Hu,Hd,Hg,HS⟩:=zd6 HA HI h8 hO hT HF;clear HA HI h8 hO hT HF;clear Hl hN ho h6 hK HM Hk u0 u1;go_wp2_with fail;generalize W3.alloc (.cells #[sQ (some ⟨g1,0,none⟩) (n.o.length+1) (n.o.length+1),sQ (some ⟨g2,0,none⟩) (n.o.length+1) (n.o.length+1),nQ iQ (Nt.total n)] 55)=W4 at *;generalize W3.heap.size=pb at *
 go_loopw [7,8,9,10,11,12,13,14,31,43] (λlo fd gd _ _ _ _ _ _ _ wr=>∃(m:Nat) (kept:List Int) (s:Gr.Lo),kept.length<m/\Gr.mE n m kept s=z/\lo=nQ iQ s.low/\fd=.bool s.fnd/\gd=nQ iQ s.good/\GrM A N c d n W1 g k p kept wr/\Blk wr g2 3 (qae (Nt.aD n)).toArray/\Blk wr pb 55 #[sQ (some ⟨g1,0,none⟩) (n.o.length+1) (n.o.length+1),sQ (some ⟨g2,0,none⟩) (n.o.length+1) (n.o.length+1),nQ iQ (Nt.total n)]) (λ_ _ _ _ _ _ _ _ _ _ wr=>Gr.jZ p wr)
 case atStart=>exact ⟨n.o.length+1,_,_,by rw [HN.out];omega,Hz.out,rfl,rfl,rfl,Ho.out,HG.out,Hu.out⟩
 case round=>
  obtain ⟨m,kept,s,hm,Hv,rfl,rfl,rfl,hZ,Hx,hJ⟩:=hrel;clear Ho HG Hu;have Hw:=hZ.jZ;have Hh:=HR.out.below h7.out (lrZ _);have Hn:=qcZ A N c d g k p n W1 kept wr Hb.out hW.out Hh hd h12 hZ;have h9:=λ(Y:Zp1) (C:Option Addr) (cc:Nat) (hC:aW Y C (Rt.lW n kept).code) (hI:Ints iQ Y (some ⟨g2,0,none⟩) (Nt.aD n))=>qeA C cc (Rt.lW n kept).code (some ⟨g2,0,none⟩) (n.o.length+1) (Nt.aD n) Y (by have:=Rt.eT hW.out h12 kept;omega) hC (by rw [Hy.out];omega) hI
  rw [Hy.out] at h9;have hF:Gr.look n kept s=if Gr.aB n kept<s.low then (if (Cd.aD (Rt.lW n kept).code (Nt.aD n)).2=0 then ⟨Gr.aB n kept,true,Gr.aB n kept⟩ else ⟨Gr.aB n kept,s.fnd,s.good⟩) else s:=rfl
  obtain ⟨m',rfl⟩:∃m',m=m'+1:=⟨m-1,by omega⟩
  have hP:(if kept.length=0 then Gr.look n kept s else Gr.mE n m' (Gr.less (Nt.words n) kept) (Gr.look n kept s))=z:=Hv;clear Hv;obtain ⟨HJ,Hs,h4,Hm,Hc,Hf,HT,hi⟩:=zd8 hZ Hn Hw Hx hJ h9 Hh hP;clear hZ Hn Hw Hx hJ h9 Hh hP;go_wp2_with fail;refine Hs.out.mono ?_;rintro e w3 ⟨C,cc,rfl,hC,h5,-⟩;have ho:=HJ.out.to_later h5;have hS:=h5.blk Hm.out;have hX:=h5.blk Hc.out;have He:Gr.jZ p wr=kept.length:=h4.out;clear h5 Hs HJ Hm Hc;generalize hq:Gr.look n kept s=s2 at *;obtain ⟨lo2,fd2,gd2⟩:=s2;obtain ⟨lo,fd,gd⟩:=s
  have tail:∀(w4:Zp1),GrM A N c d n W1 g k p kept w4->Blk w4 g2 3 (qae (Nt.aD n)).toArray->Blk w4 pb 55 #[sQ (some ⟨g1,0,none⟩) (n.o.length+1) (n.o.length+1),sQ (some ⟨g2,0,none⟩) (n.o.length+1) (n.o.length+1),nQ iQ (Nt.total n)]->
    Calls prog 67 #[.pointer (some ⟨p,0,none⟩)] w4 λe w'=>(kept=[]/\e=.returned (.bool false)/\Later W w')∨(kept≠[]/\e=.returned (.bool true)/\GrM A N c d n W1 g k p (Gr.less (Nt.words n) kept) w'/\Blk w' g2 3 (qae (Nt.aD n)).toArray/\Blk w' pb 55 #[sQ (some ⟨g1,0,none⟩) (n.o.length+1) (n.o.length+1),sQ (some ⟨g2,0,none⟩) (n.o.length+1) (n.o.length+1),nQ iQ (Nt.total n)]):=λw4 h1 h2 h3=>(qch A N c d g k p n W1 kept w4 HQ.out oZ h1).mono λe w' ⟨h,hk⟩=>by
   rcases h with ⟨a1,a2,a3⟩|⟨a1,a2,a3⟩
   ·exact .inl ⟨a1,a2,h7.out.trans a3.later⟩
   ·exact .inr ⟨a1,a2,a3,hk.blk h2 (by simp;exact ⟨λe=>Hg.out e.symm,λe=>Hd.out e.symm⟩),hk.blk h3 (by simp;exact ⟨λe=>HP e.symm,λe=>HO e.symm⟩)⟩
  clear He
  by_cases hc:Gr.aB n kept<lo
  ·rw [ipZ hc] at hF
   have Hi:Ints iQ w3 (some ⟨g2,0,none⟩) (Nt.aD n):=vM _ hS;have hH:=Hf.out w3 C cc hC Hi;have p1:w3.cell? ⟨pb,1,none⟩=some (sQ (some ⟨g2,0,none⟩) (n.o.length+1) (n.o.length+1)):=hX.cell 1;generalize hcs:Cd.aD (Rt.lW n kept).code (Nt.aD n)=cs at *;obtain ⟨cv,cer⟩:=cs;simp only at hF hH;generalize hJ:Gr.aB n kept=pk at *;generalize (Rt.lW n kept).code=cd at *;have HV:pk<lo:=hc;obtain ⟨hV,Hq,HH,HD,Hc,HW⟩:=zd6 hH ho hS hX hJ hcs;clear hH ho hS hX hJ hcs;clear Hf Hi hC hc;go_wp2_with fail;refine hV.out.mono ?_;rintro e w4 ⟨rfl,hK⟩;have hu:Later w3 w4:=hK;have hM:=Hq.out.to_later hu;have hG:=hu.blk HH.out;have hp:=hu.blk HD.out;clear hK hu hV Hq HH HD p1
   by_cases hL:cer=0
   ·rw [ipZ hL] at hF
    injection hF with q1 q2 q3
    replace q1:=q1.symm;replace q2:=q2.symm;replace q3:=q3.symm;subst q1 q2 q3;have e1:(cer==0)=true:=by simp [hL]
    clear hq hL;have ht:=tail w4 hM hG hp;have hx:(if kept.length=0 then (⟨pk,true,pk⟩:Gr.Lo) else Gr.mE n m' (Gr.less (Nt.words n) kept) ⟨pk,true,pk⟩)=z:=hi.out;clear hM hG hp tail hi;obtain ⟨Ht,hh⟩:=zd2 ht hx;clear ht hx;go_wp2_with fail;refine Ht.out.mono ?_;rintro e w5 (⟨h0,rfl,hj⟩|⟨h0,rfl,hs,hy,hA⟩)
    ·have hB:(⟨pk,true,pk⟩:Gr.Lo)=z:=by
      have h:=hh.out;rw [ipZ (by rw [h0];rfl)] at h;exact h
     have ha:=HE.out;rw [←hB] at ha;clear Ht hh h0 hB;rw [inZ sZ] at ha;obtain ⟨hv,hw⟩:=zd2 ha hj;clear ha hj;go_wp2_with fail
     go_ret2
     exact ⟨by rw [hv.out];rfl,hw.out⟩
    ·have hD:¬kept.length=0:=λe=>h0 (List.length_eq_zero_iff.1 e)
     have hb:=Gr.iU (ws:=Nt.words n) (kept:=kept) oZ
     have he:Gr.mE n m' (Gr.less (Nt.words n) kept) ⟨pk,true,pk⟩=z:=by
      have h:=hh.out
      rwa [inZ hD] at h
     have hf:=hs.jZ;obtain ⟨hY,hQ,hU,hl,hg,hn⟩:=zd6 hs hy hA he hb hf;clear hs hy hA he hb hf;clear Ht hh h0 hD;go_wp2_with fail;go_roundw
     case rel=>exact ⟨m',_,⟨pk,true,pk⟩,by have:=hg.out;omega,hl.out,rfl,rfl,rfl,hY.out,hQ.out,hU.out⟩
     case measure=>rw [h4.out,hn.out];have:=hg.out;omega
   ·rw [inZ hL] at hF
    injection hF with q1 q2 q3
    replace q1:=q1.symm;replace q2:=q2.symm;replace q3:=q3.symm;subst q1 q2 q3;have e1:(cer==0)=false:=by simp [hL]
    clear hq hL;have ht:=tail w4 hM hG hp;have hx:(if kept.length=0 then (⟨pk,fd,gd⟩:Gr.Lo) else Gr.mE n m' (Gr.less (Nt.words n) kept) ⟨pk,fd,gd⟩)=z:=hi.out;clear hM hG hp tail hi;obtain ⟨Ht,hh⟩:=zd2 ht hx;clear ht hx;go_wp2_with fail;refine Ht.out.mono ?_;rintro e w5 (⟨h0,rfl,hj⟩|⟨h0,rfl,hs,hy,hA⟩)
    ·have hB:(⟨pk,fd,gd⟩:Gr.Lo)=z:=by
      have h:=hh.out;rw [ipZ (by rw [h0];rfl)] at h;exact h
     have ha:=HE.out;rw [←hB] at ha;clear Ht hh h0 hB;cases fd
     ·rw [ipZ rfl] at ha
      obtain ⟨hv,hw⟩:=zd2 ha hj;clear ha hj;go_wp2_with fail
      go_ret2
      exact ⟨by rw [hv.out];rfl,hw.out⟩
     ·rw [inZ sZ] at ha
      obtain ⟨hv,hw⟩:=zd2 ha hj;clear ha hj;go_wp2_with fail
      go_ret2
      exact ⟨by rw [hv.out];rfl,hw.out⟩
    ·have hD:¬kept.length=0:=λe=>h0 (List.length_eq_zero_iff.1 e)
     have hb:=Gr.iU (ws:=Nt.words n) (kept:=kept) oZ
     have he:Gr.mE n m' (Gr.less (Nt.words n) kept) ⟨pk,fd,gd⟩=z:=by
      have h:=hh.out
      rwa [inZ hD] at h
     have hf:=hs.jZ;obtain ⟨hY,hQ,hU,hl,hg,hn⟩:=zd6 hs hy hA he hb hf;clear hs hy hA he hb hf;clear Ht hh h0 hD;go_wp2_with fail;go_roundw
     case rel=>exact ⟨m',_,⟨pk,fd,gd⟩,by have:=hg.out;omega,hl.out,rfl,rfl,rfl,hY.out,hQ.out,hU.out⟩
     case measure=>rw [h4.out,hn.out];have:=hg.out;omega
  ·rw [inZ hc] at hF
   injection hF with q1 q2 q3
   replace q1:=q1.symm;replace q2:=q2.symm;replace q3:=q3.symm;subst q1 q2 q3;have hM:=ho;have hG:=hS;have hp:=hX;generalize hJ:Gr.aB n kept=pk at *;generalize (Rt.lW n kept).code=cd at *;clear hq ho hS hX hC Hf hJ;have ht:=tail w3 hM hG hp;have hx:(if kept.length=0 then (⟨lo,fd,gd⟩:Gr.Lo) else Gr.mE n m' (Gr.less (Nt.words n) kept) ⟨lo,fd,gd⟩)=z:=hi.out;clear hM hG hp tail hi;obtain ⟨Ht,hh⟩:=zd2 ht hx;clear ht hx;go_wp2_with fail;refine Ht.out.mono ?_;rintro e w5 (⟨h0,rfl,hj⟩|⟨h0,rfl,hs,hy,hA⟩)
   ·have hB:(⟨lo,fd,gd⟩:Gr.Lo)=z:=by
     have h:=hh.out;rw [ipZ (by rw [h0];rfl)] at h;exact h
    have ha:=HE.out;rw [←hB] at ha;clear Ht hh h0 hB;cases fd
    ·rw [ipZ rfl] at ha
     obtain ⟨hv,hw⟩:=zd2 ha hj;clear ha hj;go_wp2_with fail
     go_ret2
     exact ⟨by rw [hv.out];rfl,hw.out⟩
    ·rw [inZ sZ] at ha
     obtain ⟨hv,hw⟩:=zd2 ha hj;clear ha hj;go_wp2_with fail
     go_ret2
     exact ⟨by rw [hv.out];rfl,hw.out⟩
   ·have hD:¬kept.length=0:=λe=>h0 (List.length_eq_zero_iff.1 e)
    have hb:=Gr.iU (ws:=Nt.words n) (kept:=kept) oZ
    have he:Gr.mE n m' (Gr.less (Nt.words n) kept) ⟨lo,fd,gd⟩=z:=by
     have h:=hh.out
     rwa [inZ hD] at h
    have hf:=hs.jZ;obtain ⟨hY,hQ,hU,hl,hg,hn⟩:=zd6 hs hy hA he hb hf;clear hs hy hA he hb hf;clear Ht hh h0 hD;go_wp2_with fail;go_roundw
    case rel=>exact ⟨m',_,⟨lo,fd,gd⟩,by have:=hg.out;omega,hl.out,rfl,rfl,rfl,hY.out,hQ.out,hU.out⟩
    case measure=>rw [h4.out,hn.out];have:=hg.out;omega
def Gr.oO (n:aA):Int × Int:=if Nt.check n≠0 then (0,Nt.check n) else if (Gr.aM n 3 1073741824).2≠0 then (0,(Gr.aM n 3 1073741824).2) else Gr.vL n
set_option maxRecDepth 100000 in
theorem qdb (A N:Option Addr) (c d:Nat) (n:aA) (W:Zp1) (hok:n.ok) (hR:bC W A N n) (hd:n.o.length<=d) (h12:n.o.length<=12):
  Calls prog 15 #[.agg #[sQ A n.inn.length c,sQ N n.o.length d],nQ iQ 3] W λe w'=>e=.returned (.tuple #[nQ iQ (Gr.oO n).1,nQ iQ (Gr.oO n).2])/\Later W w':=by
 have hu:Later W (W.alloc (.cells #[sQ A n.inn.length c,sQ N n.o.length d] 26)):=(Later.refl W).alloc _;have hr:=Blk.new W 26 #[sQ A n.inn.length c,sQ N n.o.length d];obtain ⟨lr,hlr⟩:∃r,Gr.oO n=r:=⟨_,rfl⟩
 have hE:lr=if Nt.check n≠0 then (0,Nt.check n) else if (Gr.aM n 3 1073741824).2≠0 then (0,(Gr.aM n 3 1073741824).2) else Gr.vL n:=by rw [←hlr];rfl
 rw [hlr];obtain ⟨HR,hm,hx,hw,HE⟩:=zd5 hR hok hu hr hE;clear hR hok hu hr hE;clear hlr;go_in;go_wp2_with fail;generalize W.alloc (.cells #[sQ A n.inn.length c,sQ N n.o.length d] 26)=W1 at *;refine (qbJ A N c d n W1 hm.out (HR.out.below hx.out (lrZ _)) hd).mono ?_;rintro e W2 ⟨rfl,h2⟩;have ha:Later W1 W2:=h2;have hc:=hx.out.trans ha;have hf:=ha.blk hw.out;clear h2 ha hw;have hE:=HE.out;clear HE
 by_cases hb:Nt.check n=0
 rotate_left
 ·have hy:(Nt.check n != 0)=true:=by simp [hb]
  rw [ipZ hb] at hE;generalize Nt.check n=er at *;obtain ⟨HE,hk⟩:=zd2 hE hc;clear hE hc;clear hb hf;go_wp2_with fail
  go_ret2
  exact ⟨by rw [HE.out];rfl,hk.out⟩
 rw [inZ (by simp [hb])] at hE;rw [hb];have u0:W2.cell? ⟨W.heap.size,0,none⟩=some (sQ A n.inn.length c):=hf.cell 0;have u1:W2.cell? ⟨W.heap.size,1,none⟩=some (sQ N n.o.length d):=hf.cell 1;have hh:=qb4 A N c d n 3 1073741824 W2 hm.out (HR.out.below hc (lrZ _)) hd h12 oZ;unfold fI at hh;generalize Gr.aM n 3 1073741824=mr at *;obtain ⟨r,er⟩:=mr;simp only at hE hh;obtain ⟨hk,hA,hp,HE⟩:=zd4 hc hf hh hE;clear hc hf hh hE;go_wp2_with fail;refine hp.out.mono ?_;rintro e W3 ⟨C,cc,rfl,-,hn,-⟩;have ho:Later W3 (W3.alloc (.cells #[nQ iQ r.pl,sQ C r.code.length cc,nQ iQ r.pk,nQ iQ r.co,nQ iQ r.ag,nQ iQ r.hi] 50)):=(Later.refl W3).alloc _;have hg:=(hk.out.trans hn).trans ho;have hj:=(hn.trans ho).blk hA.out;clear u0 u1 hp hn ho;have hE:=HE.out;clear HE
 by_cases he:er=0
 rotate_left
 ·have hy:(er != 0)=true:=by simp [he]
  rw [ipZ he] at hE;obtain ⟨HE,hl⟩:=zd2 hE hg;clear hE hg;clear he hj;go_wp2_with fail
  go_ret2
  exact ⟨by rw [HE.out];rfl,hl.out⟩
 rw [inZ (by simp [he])] at hE;subst he;have u0:(W3.alloc (.cells #[nQ iQ r.pl,sQ C r.code.length cc,nQ iQ r.pk,nQ iQ r.co,nQ iQ r.ag,nQ iQ r.hi] 50)).cell? ⟨W.heap.size,0,none⟩=some (sQ A n.inn.length c):=hj.cell 0;have u1:(W3.alloc (.cells #[nQ iQ r.pl,sQ C r.code.length cc,nQ iQ r.pk,nQ iQ r.co,nQ iQ r.ag,nQ iQ r.hi] 50)).cell? ⟨W.heap.size,1,none⟩=some (sQ N n.o.length d):=hj.cell 1;have hv:=qfC A N c d n _ hm.out hb (HR.out.below hg (lrZ _)) hd h12;obtain ⟨HE,hl,hq⟩:=zd3 hE hg hv;clear hE hg hv;clear hj;go_wp2_with fail;refine hq.out.mono ?_;rintro e W5 ⟨rfl,ht⟩;have hs:=hl.out.trans ht;have hz:=zI hs;clear hs;clear hq ht u0 u1;go_wp2_with fail
 go_ret2
 exact ⟨by rw [HE.out];rfl,hz.out⟩
namespace Gr
open Rt (an)
theorem iP:Nt.check an=0:=Rt.iP
theorem qi7:Nt.sO an.o=[1,2]:=by decide +kernel
theorem qgb:Safe.bK an.o.length=1:=by decide +kernel
theorem qi8:qaw an (Safe.bK an.o.length)=[1,2]:=by
 rw [qgb];unfold qaw;rw [ipZ ⟨iP,by decide,by decide⟩,qi7]
 show Rt.every [1,2] 1=[1,2]
 unfold Rt.every;rw [show Rt.picks ([1,2]:List Int) 1 (([1,2]:List Int).length / 1)=[1,2] by decide];exact List.mergeSort_of_pairwise dZ
theorem qi9:qaE an (Safe.bK an.o.length)=0:=by
 rw [qgb];unfold qaE;rw [inZ (by simp [iP]),ipZ dZ]
theorem uY:kL an 100=some [1,2]:=by decide +kernel
theorem an_low:oO an=(5,0):=by decide +kernel
theorem an_code2 (cap:Int):bF an 2 cap=bF an 1 cap:=by
 show (if (2:Int)=1 then _ else if (2:Int)=2 then _ else _)=_
 rw [inZ dZ,ipZ rfl,qi9,qi8,inZ sZ]
 rfl
theorem qdV (cap:Int):(aM an 2 cap).2=(aM an 1 cap).2/\(aM an 2 cap).1.co=(aM an 1 cap).1.co:=by
 unfold aM;rw [an_code2]
 constructor
 ·split
  ·rfl
  ·split
   ·rfl
   ·split<;>rfl
 ·split
  ·rfl
  ·split
   ·rfl
   ·split<;>rfl
theorem lJ:(aM an 1 100).2=0/\(aM an 1 100).1.pl=1/\(aM an 1 100).1.co=4:=by decide +kernel
theorem vV:(aM an 3 100).2=0/\(aM an 3 100).1.co=4:=by decide +kernel
theorem wE:(aM an 4 100).2=0/\(aM an 4 100).1.co=4:=by decide +kernel
theorem vR:(aM an 1 1).2≠0:=by decide +kernel
theorem an_n3:(aM an 3 1).2≠0:=by decide +kernel
theorem an_n4:(aM an 4 1).2≠0:=by decide +kernel
theorem an_m5:(aM an 5 100).2=11:=by decide +kernel
theorem an_best100:(dM an 100).2=0/\(dM an 100).1.pl=1/\(dM an 100).1.co=4:=by
 have h1:bL an 100 1=(aM an 1 100).1:=by
  show better an 100 fK 1=_
  unfold better;rw [inZ (by rw [lJ.1];simp),ipZ (.inl rfl)]
 have h2:bL an 100 2=(aM an 1 100).1:=by
  show better an 100 (bL an 100 1) 2=_
  unfold better;rw [inZ (by rw [(qdV 100).1,lJ.1];simp),inZ (by rw [h1,(qdV 100).2,lJ.2.1];omega),h1]
 have h3:bL an 100 3=(aM an 1 100).1:=by
  show better an 100 (bL an 100 2) 3=_
  unfold better;rw [inZ (by rw [vV.1];simp),inZ (by rw [h2,vV.2,lJ.2.1,lJ.2.2];omega),h2]
 have h4:bL an 100 4=(aM an 1 100).1:=by
  show better an 100 (bL an 100 3) 4=_
  unfold better;rw [inZ (by rw [wE.1];simp),inZ (by rw [h3,wE.2,lJ.2.1,lJ.2.2];omega),h3]
 unfold dM;rw [inZ (by simp [iP]),h4,inZ (by rw [lJ.2.1];decide)];exact ⟨rfl,lJ.2.1,lJ.2.2⟩
theorem an_best1:(dM an 1).2=26:=by
 have h:∀b p,(aM an p 1).2≠0->better an 1 b p=b:=λb p hp=>by unfold better;rw [ipZ hp]
 have h4:bL an 1 4=fK:=by
  show better an 1 (better an 1 (better an 1 (better an 1 fK 1) 2) 3) 4=_
  rw [h _ 1 vR,h _ 2 (by rw [(qdV 1).1];exact vR),h _ 3 an_n3,h _ 4 an_n4]
 unfold dM;rw [inZ (by simp [iP]),h4,ipZ (show fK.pl=0 from rfl)]
end Gr
set_option maxRecDepth 100000 in
theorem qia (w:Zp1):Calls prog 9 #[] w λe w'=>e=.returned (.bool true)/\Below w.heap.size w w':=by
 obtain ⟨hR,hk,hl⟩:=qhF w;have hS:∀(W:Zp1) (cap:Int),bC W (some ⟨w.heap.size,0,none⟩) (some ⟨w.heap.size+1+1+1,0,none⟩) Rt.an->-9223372036854775808<=cap/\cap<=9223372036854775807->Calls prog 18 #[.agg #[sQ (some ⟨w.heap.size,0,none⟩) 1 1,sQ (some ⟨w.heap.size+1+1+1,0,none⟩) 2 2],nQ iQ cap] W (fI (Gr.dM Rt.an cap) W):=λW cap h1 h2=>qfB (some ⟨w.heap.size,0,none⟩) (some ⟨w.heap.size+1+1+1,0,none⟩) 1 2 Rt.an cap W uD h1 dZ dZ h2
 have hT:∀(W:Zp1),bC W (some ⟨w.heap.size,0,none⟩) (some ⟨w.heap.size+1+1+1,0,none⟩) Rt.an->Calls prog 16 #[.agg #[sQ (some ⟨w.heap.size,0,none⟩) 1 1,sQ (some ⟨w.heap.size+1+1+1,0,none⟩) 2 2],nQ iQ 5,nQ iQ 100] W (fI (Gr.aM Rt.an 5 100) W):=λW h1=>qb4 (some ⟨w.heap.size,0,none⟩) (some ⟨w.heap.size+1+1+1,0,none⟩) 1 2 Rt.an 5 100 W uD h1 dZ dZ oZ
 have hQ:∀(W:Zp1),bC W (some ⟨w.heap.size,0,none⟩) (some ⟨w.heap.size+1+1+1,0,none⟩) Rt.an->Calls prog 15 #[.agg #[sQ (some ⟨w.heap.size,0,none⟩) 1 1,sQ (some ⟨w.heap.size+1+1+1,0,none⟩) 2 2],nQ iQ 3] W (λe w'=>e=.returned (.tuple #[nQ iQ 5,nQ iQ 0])/\Later W w'):=λW h1=>(qdb (some ⟨w.heap.size,0,none⟩) (some ⟨w.heap.size+1+1+1,0,none⟩) 1 2 Rt.an W uD h1 dZ dZ).mono λe w' ⟨h1,h2⟩=>⟨by rw [h1,Gr.an_low],h2⟩
 have hN:∀(W:Zp1),bC W (some ⟨w.heap.size,0,none⟩) (some ⟨w.heap.size+1+1+1,0,none⟩) Rt.an->Calls prog 10 #[.agg #[sQ (some ⟨w.heap.size,0,none⟩) 1 1,sQ (some ⟨w.heap.size+1+1+1,0,none⟩) 2 2],nQ iQ 100] W (λe w'=>(∃K kc,e=.returned (.tuple #[sQ K 2 kc,nQ iQ 0]))/\Later W w'):=λW h1=>(qbz (some ⟨w.heap.size,0,none⟩) (some ⟨w.heap.size+1+1+1,0,none⟩) 1 2 Rt.an 100 W uD h1 dZ dZ).mono λe w' ⟨hl,h⟩=>by
  rcases h with ⟨h0,-⟩|⟨-,hf,-⟩|⟨-,kept,K,kc,hf,he,-⟩
  ·exact absurd Rt.iP h0
  ·rw [Gr.uY] at hf;cases hf
  ·rw [Gr.uY] at hf
   injection hf with hf
   subst hf;exact ⟨⟨K,kc,he⟩,hl⟩
 obtain ⟨HR,Hk,Hl,h3,h4,h6,h5⟩:=zd7 hR hk hl hS hT hQ hN;clear hR hk hl hS hT hQ hN;go_in;go_upto_region 2 with fail
 change Code.wp _ _ _ _ (anW w)
 have x0:=Hk.out.cell 0;have x1:=Hk.out.cell 1;simp only [Zk,List.getElem?_cons_succ,List.getElem?_cons_zero] at x0 x1;generalize anW w=w1 at *;generalize hq:w.heap.size=q at *;have HQ:=zI hq;clear hq;go_wp2_with fail;have h1:=h3.out w1 100 HR.out oZ;obtain ⟨g1,g2,g3⟩:=Gr.an_best100;unfold fI at h1;generalize Gr.dM Rt.an 100=r1 at *;obtain ⟨⟨rpl,rcode,rpk,rco,rag,rhi⟩,er⟩:=r1;simp only at h1 g1 g2 g3;subst g1 g2 g3;have H1:=zI h1;clear h1;refine H1.out.mono ?_;rintro e w2 ⟨C,cc,rfl,-,hb,-⟩;have hB:=Blk.new w2 50 #[nQ iQ 1,sQ C rcode.length cc,nQ iQ rpk,nQ iQ 4,nQ iQ rag,nQ iQ rhi];have ha:=hb.alloc (.cells #[nQ iQ 1,sQ C rcode.length cc,nQ iQ rpk,nQ iQ 4,nQ iQ rag,nQ iQ rhi] 50);have hr:=ha.blk Hk.out;have hE:=HR.out.below ha (lrZ _);have hW:=Hl.out.trans ha;clear x0 x1 H1 Hk HR Hl hb ha;have x0:=hr.cell 0;have x1:=hr.cell 1;simp only [Zk,List.getElem?_cons_succ,List.getElem?_cons_zero] at x0 x1;obtain ⟨hP,hw,hH,hZ⟩:=zd4 hr hE hW hB;clear hr hE hW hB;go_wp2_with fail;generalize w2.alloc (.cells #[nQ iQ 1,sQ C rcode.length cc,nQ iQ rpk,nQ iQ 4,nQ iQ rag,nQ iQ rhi] 50)=w3 at *;generalize w2.heap.size=b3 at *;have hd:=hZ;clear hZ;have h1:=h3.out w3 1 hw.out oZ;have g4:=Gr.an_best1;unfold fI at h1;generalize Gr.dM Rt.an 1=r1 at *;obtain ⟨s4,er⟩:=r1;simp only at h1 g4;subst g4;have H1:=zI h1;clear h1;refine H1.out.mono ?_;rintro e v4 ⟨C4,cc4,rfl,-,hb,-⟩;have ha:=hb.alloc (.cells #[nQ iQ s4.pl,sQ C4 s4.code.length cc4,nQ iQ s4.pk,nQ iQ s4.co,nQ iQ s4.ag,nQ iQ s4.hi] 50);have hs:=ha.blk hP.out;have hX:=hw.out.below ha (lrZ _);have hM:=hH.out.trans ha;have ho:=ha.blk hd.out;clear x0 x1 H1 hP hw hH hd hb ha;have x0:=hs.cell 0;have x1:=hs.cell 1;simp only [Zk,List.getElem?_cons_succ,List.getElem?_cons_zero] at x0 x1
 obtain ⟨hK,hz,hO,hc⟩:=zd4 hs hX hM ho;clear hs hX hM ho;go_wp2_with fail;generalize v4.alloc (.cells #[nQ iQ s4.pl,sQ C4 s4.code.length cc4,nQ iQ s4.pk,nQ iQ s4.co,nQ iQ s4.ag,nQ iQ s4.hi] 50)=w4 at *;generalize v4.heap.size=b4 at *;have h1:=h4.out w4 hz.out;have g4:=Gr.an_m5;unfold fI at h1;generalize Gr.aM Rt.an 5 100=r1 at *;obtain ⟨s5,er⟩:=r1;simp only at h1 g4;subst g4;have H1:=zI h1;clear h1;refine H1.out.mono ?_;rintro e v5 ⟨C5,cc5,rfl,-,hb,-⟩;have ha:=hb.alloc (.cells #[nQ iQ s5.pl,sQ C5 s5.code.length cc5,nQ iQ s5.pk,nQ iQ s5.co,nQ iQ s5.ag,nQ iQ s5.hi] 50);have hv:=ha.blk hK.out;have hI:=hz.out.below ha (lrZ _);have hL:=hO.out.trans ha;have hh:=ha.blk hc.out;clear x0 x1 H1 hK hz hO hc hb ha;have x0:=hv.cell 0;have x1:=hv.cell 1;simp only [Zk,List.getElem?_cons_succ,List.getElem?_cons_zero] at x0 x1;obtain ⟨hA,hy,hY,hm⟩:=zd4 hv hI hL hh;clear hv hI hL hh;go_wp2_with fail;generalize v5.alloc (.cells #[nQ iQ s5.pl,sQ C5 s5.code.length cc5,nQ iQ s5.pk,nQ iQ s5.co,nQ iQ s5.ag,nQ iQ s5.hi] 50)=w5 at *;generalize v5.heap.size=b5 at *;have h1:=h6.out w5 hy.out;have H1:=zI h1;clear h1;refine H1.out.mono ?_;rintro e w6 ⟨rfl,ha⟩;have hb:=ha;have ht:=ha.blk hA.out;have hF:=hy.out.below ha (lrZ _);have hJ:=hY.out.trans ha;have hp:=ha.blk hm.out;clear x0 x1 H1 hA hy hY hm hb ha;have x0:=ht.cell 0;have x1:=ht.cell 1;simp only [Zk,List.getElem?_cons_succ,List.getElem?_cons_zero] at x0 x1;obtain ⟨hD,hx,hU,hj⟩:=zd4 ht hF hJ hp;clear ht hF hJ hp;go_wp2_with fail;have h1:=h5.out w6 hx.out;have H1:=zI h1;clear h1;refine H1.out.mono ?_;rintro e w7 ⟨⟨K,kc,rfl⟩,ha⟩;have hb:=ha;have hu:=ha.blk hD.out;have hV:=hx.out.below ha (lrZ _);have hC:=hU.out.trans ha;have hg:=ha.blk hj.out;clear x0 x1 H1 hD hx hU hj hb ha
 have x0:=hu.cell 0;have x1:=hu.cell 1;simp only [Zk,List.getElem?_cons_succ,List.getElem?_cons_zero] at x0 x1;obtain ⟨h8,h7,hG,hn⟩:=zd4 hu hV hC hg;clear hu hV hC hg;have y0:w7.cell? ⟨b3,0,none⟩=some (nQ iQ 1):=hn.out.cell 0;have y3:w7.cell? ⟨b3,3,none⟩=some (nQ iQ 4):=hn.out.cell 3;clear x0 x1;go_wp2_with fail;go_ret;exact ⟨rfl,by first|exact hG.out|(rw [←HQ.out];exact hG.out)⟩
theorem qgc (A N:Option Addr) (c d:Nat) (n:aA) (w:Zp1) (hok:n.ok) (hR:bC w A N n):
  Calls prog 8 #[.agg #[sQ A n.inn.length c,sQ N n.o.length d]] w λe w'=>∃b,e=.returned (.bool b)/\(b=true->n.o.length<=9)/\Below w.heap.size w w':=by
 have hr:=hok.2.1;have hd:Below w.heap.size w (w.alloc (.cells #[sQ A n.inn.length c,sQ N n.o.length d] 26)):=(Ze1 _ _).alloc (lrZ _) _
 by_cases h9:9<n.o.length
 ·have e1:decide ((9:Int)<(n.o.length:Int))=true:=by simp;omega
  have e2:(9:Int)<(n.o.length:Int):=by omega
  obtain ⟨hf,HR⟩:=zd2 hok hR;clear hok hR;go_in;go_wp2_with fail;go_ret;exact ⟨_,rfl,by simp,hd⟩
 have e1:decide ((9:Int)<(n.o.length:Int))=false:=by simp;omega
 have e2:¬(9:Int)<(n.o.length:Int):=by omega
 obtain ⟨hf,HR⟩:=zd2 hok hR;clear hok hR;go_in;go_wp2_with fail;generalize w.alloc (.cells #[sQ A n.inn.length c,sQ N n.o.length d] 26)=w1 at *;clear e1 e2
 go_loopw [3,18] (λt i wx=>∃(k:Nat) (z:Int),k<=n.o.length/\i=nQ iQ (k:Int)/\t=nQ iQ z/\Below w.heap.size w wx) (λ_ i _=>n.o.length-(intOf i).toNat)
 case atStart=>exact ⟨0,_,Zt _,rfl,rfl,hd⟩
 case round=>
  obtain ⟨k,z,hk,rfl,rfl,hc⟩:=hrel;clear hd
  by_cases hi:k<n.o.length
  ·obtain ⟨b,off,S,sc,J,ic,Q,qc,rfl,hb,-,-,-⟩:=HR.out.2.at_ hi
   have ha:=hf.out.2.2 _ (gmZ hi);have hp:=ha.2.2.2.1;have hg:=hb.2.2.2;generalize n.o[k]=v at *;obtain ⟨⟨y0,y1,y2,y3,y4,y5,y6,y7,y8,y9⟩,-⟩:=hb.below hc;have he:=hc.alloc hc.size (.cells #[nQ iQ v.op.kind,nQ iQ v.op.k,nQ iQ v.op.width,nQ iQ v.op.step,nQ iQ v.op.side,nQ iQ v.op.frm,nQ iQ v.op.to,sQ S v.op.s.length sc,sQ J v.ins.length ic,sQ Q v.p.length qc] 77);obtain ⟨hq,hl,hn⟩:=zd3 hb ha hg;clear hb ha hg;go_wp2_with fail;clear y0 y1 y2 y3 y4 y5 y6 y7 y8 y9;generalize wr.alloc (.cells #[nQ iQ v.op.kind,nQ iQ v.op.k,nQ iQ v.op.width,nQ iQ v.op.step,nQ iQ v.op.side,nQ iQ v.op.frm,nQ iQ v.op.to,sQ S v.op.s.length sc,sQ J v.ins.length ic,sQ Q v.p.length qc] 77)=w2 at *
   go_loop [3,36] (λt i=>∃(mm:Nat) (z2:Int),mm<=v.p.length/\i=nQ iQ (mm:Int)/\t=nQ iQ z2) (λ_ i=>v.p.length-(intOf i).toNat)
   case atStart=>exact ⟨0,_,Zt _,rfl,rfl⟩
   case round=>
    obtain ⟨mm,z2,hm,rfl,rfl⟩:=hrel
    by_cases hj:mm<v.p.length
    ·obtain ⟨b5,o5,Ss,cs,rfl,-,hh,-⟩:=hn.out mm hj
     have ho:=qa1 he hh;generalize v.p[mm]=s at *;clear hh;go_wp2_with fail
     go_round
     case rel=>exact ⟨mm+1,_,by omega,by go_num,rfl⟩
     case measure=>simp [intOf];omega
    ·obtain rfl:mm=v.p.length:=by omega
     go_wp2_with fail;go_roundw
     case rel=>exact ⟨k+1,_,by omega,by go_num,rfl,he⟩
     case measure=>simp [intOf];omega
  ·obtain rfl:k=n.o.length:=by omega
   go_wp2_with fail;go_ret;exact ⟨_,rfl,λ_=>by omega,hc⟩
open Go.ChangeShapes Go.WideShapes Go.Deep Go.RowKit
section
variable {H:Type} {enc:TypeId × Value->H} {P:Program} {W:Zp1} {base:Nat} {spare:Nat->Bool} {held:Bool}
theorem bulk_one (d:DataW H):1<=Rows.uptoBulk d:=by
 cases d with
 | lit l=>cases l<;>simp [Rows.uptoBulk]
 | nil=>simp [Rows.uptoBulk]
 | ptr d=>simp [Rows.uptoBulk]
 | slice elems spare=>simp [Rows.uptoBulk]
 | agg parts=>simp [Rows.uptoBulk]
 | iface t d=>simp [Rows.uptoBulk]
 | map entries=>simp [Rows.uptoBulk]
 | held h=>simp [Rows.uptoBulk]
theorem qd0 {d:DataW H} {l:List (DataW H)} (h:d∈l):Rows.uptoBulk d<=Rows.uptoBulkAll l:=by
 induction l with
 | nil=>cases h
 | cons x r ih=>
  simp only [Rows.uptoBulkAll];cases List.mem_cons.1 h with
  | inl e=>subst e;omega
  | inr e=>have:=ih e;omega
theorem bulk_len (l:List (DataW H)):l.length<=Rows.uptoBulkAll l:=by
 induction l with
 | nil=>simp [Rows.uptoBulkAll]
 | cons x r ih=>have:=bulk_one x;simp only [Rows.uptoBulkAll,List.length_cons];omega
theorem qbp {t e:TypeId} {fuel:Nat} {v:Value} {x:DataW H × List MemPlace} (ht:P.underlying t=some (.slice e)) (h:DataW.trod enc P W base spare held fuel t [v]=some x) (hz:Rows.uptoBulk x.1<=1048576):
  v=sQ none 0 0∨∃a len cap,v=sQ (some a) len cap/\len<=cap/\cap<=maxLen/\len<=1048576/\
   ∀i,i<len->∃cs' m y,W.cells? base (a.add (i*P.cellsOf e)) (P.cellsOf e)=some cs'/\DataW.trod enc P W base spare held m e cs'=some y/\Rows.uptoBulk y.1<=1048576:=by
 rcases open_slice ht h with ⟨ha,_⟩|⟨a,len,cap,m,n,D,Pl,ha,_,hl,hm,hb,hx,hi⟩
 ·simp at ha;exact .inl ha
 ·simp at ha;subst ha
  right
  have hd:len<=m:=by rw [hb];split<;>omega
  rw [hx] at hz;simp only [Rows.uptoBulk] at hz;refine ⟨a,len,cap,rfl,hl,hm,?_,λi hc=>?_⟩
  ·have:=bulk_len ((List.range len).map D)
   simp at this;omega
  ·obtain ⟨cs',h1,h2⟩:=hi i oZ
   refine ⟨cs',n,_,h1,h2,?_⟩;have:=qd0 (d:=D i) (l:=(List.range len).map D) (List.mem_map.2 ⟨i,by simpa using hc,rfl⟩)
   show Rows.uptoBulk (D i)<=_
   omega
end
theorem int_one':prog.cellsOf 3=1:=by kernel_rfl
theorem shp_one:prog.cellsOf 23=1:=by kernel_rfl
theorem qgX:prog.cellsOf 77=10:=by kernel_rfl
theorem qbS {H:Type} {enc:TypeId × Value->H} {W:Zp1} {base:Nat} {spare:Nat->Bool} {held:Bool} {t:TypeId} {fuel:Nat} {v:Value} {x:DataW H × List MemPlace} (ht:prog.underlying t=some (.slice 3))
  (h:DataW.trod enc prog W base spare held fuel t [v]=some x) (hz:Rows.uptoBulk x.1<=1048576):
  ∃A c zs,v=sQ A zs.length c/\Ints iQ W A zs/\zs.length<=c/\c<=9223372036854775807/\zs.length<=1048576/\∀z∈zs,-9223372036854775808<=z/\z<=9223372036854775807:=by
 obtain ⟨A,c,zs,rfl,hl,hc,hI,hw⟩:=qhZ ht underlying3 int_one' h;refine ⟨A,c,zs,rfl,hI,hc,?_,?_,λz hz=>qdF (hw z hz)⟩
 ·rcases qbp ht h hz with e|⟨a,len,cap,e,_,hm,_⟩
  ·injection e with _ _ e;omega
  ·injection e with _ _ e;unfold maxLen at hm;omega
 ·rcases qbp ht h hz with e|⟨a,len,cap,e,_,_,hb,_⟩
  ·injection e with _ e _;rw [e];exact Zt _
  ·have e2:zs.length=len:=by simp at e;exact e.2.1
   rw [e2];exact hb
theorem one_list {l:List Value} (h:l.length=1):∃v,l=[v]:=by
 match l,h with
 | [v],_=>exact ⟨v,rfl⟩
theorem qd1 {α:Type} [Inhabited α] {n:Nat} {Q:Nat->α->Prop} (h:∀i,i<n->∃a,Q i a):∃l:List α,l.length=n/\∀i (hi:i<l.length),Q i l[i]:=by
 obtain ⟨f,hf⟩:=@choose_lt α _ _ _ h;exact ⟨(List.range n).map f,by simp,λi hi=>by simp at hi;simpa using hf i hi⟩
theorem qgd {W:Zp1} {a:Addr} {v:Value} (h:W.cell? a=some v):∃b off,a=⟨b,off,none⟩:=by
 obtain ⟨b,off,spot⟩:=a;have hs:spot=none:=by simpa using World.cell?_spot h
 subst hs;exact ⟨b,off,rfl⟩
theorem qib {H:Type} {enc:TypeId × Value->H} {W:Zp1} {base:Nat} {spare:Nat->Bool} {held:Bool} {fuel:Nat} {v:Value} {x:DataW H × List MemPlace}
  (h:DataW.trod enc prog W base spare held fuel 75 [v]=some x) (hz:Rows.uptoBulk x.1<=1048576):
  ∃A c ss,v=sQ A ss.length c/\bQ W A ss/\ss.length<=c/\c<=9223372036854775807/\ss.length<=1048576/\∀s∈ss,s.length<=1048576/\∀z∈s,-9223372036854775808<=z/\z<=9223372036854775807:=by
 rcases qbp underlying75 h hz with rfl|⟨a,len,cap,rfl,hl,hm,hb,hi⟩
 ·exact ⟨none,0,[],rfl,bQ.nil,by simp,by omega,by simp,by simp⟩
 ·rw [shp_one] at hi
  have key:∀i,i<len->∃q:(List Int) × (Option Addr) × Nat,W.cell? (a.add i)=some (.slice q.2.1 q.1.length q.2.2)/\Ints iQ W q.2.1 q.1/\q.1.length<=q.2.2/\q.2.2<=9223372036854775807/\q.1.length<=1048576/\∀z∈q.1,-9223372036854775808<=z/\z<=9223372036854775807:=λi hf=>by
   obtain ⟨cs',m,y,hc,ht,hw⟩:=hi i hf;obtain ⟨_,ha,hd⟩:=World.cells?_some hc;obtain ⟨v,rfl⟩:=one_list ha;obtain ⟨A,c,zs,rfl,h1,h2⟩:=qbS underlying23 ht hw;refine ⟨(zs,A,c),?_,h1,h2⟩;have:=hd 0 oZ;rw [Nat.mul_one] at this;simpa [Addr.add] using this
  obtain ⟨L,hL,hq⟩:=qd1 key;refine ⟨some a,cap,L.map (·.1),by simp [hL],λj hj=>?_,by simpa [hL] using hl,by unfold maxLen at hm;omega,by simp [hL];exact hb,λs hs=>?_⟩
  ·rw [List.length_map] at hj
   obtain ⟨h1,h2,h3,h4,_⟩:=hq j hj;obtain ⟨h0,_⟩:=hq 0 oZ;obtain ⟨b,off,rfl⟩:=qgd (show W.cell? a=_ by simpa [Addr.add] using h0);rw [qaY] at h1;rw [List.getElem_map];exact ⟨b,off,_,_,rfl,Zj1 _ _ h1,h1,h2,h3,h4⟩
  ·obtain ⟨q,he,rfl⟩:=List.mem_map.1 hs
   obtain ⟨i,hi,rfl⟩:=List.getElem_of_mem he;exact (hq i hi).2.2.2.2
def OpD.inR (o:OpD):Prop:=o.wide/\∀z∈o.s,-9223372036854775808<=z/\z<=9223372036854775807
def aS.fits (v:aS):Prop:=v.op.wide/\v.op.s.length<=1048576/\v.ins.length<=1048576/\v.p.length<=1048576/\(∀s∈v.p,s.length<=1048576)/\
 (∀z∈v.op.s,-9223372036854775808<=z/\z<=9223372036854775807)/\(∀z∈v.ins,-9223372036854775808<=z/\z<=9223372036854775807)/\∀s∈v.p,∀z∈s,-9223372036854775808<=z/\z<=9223372036854775807
def aA.fits (n:aA):Prop:=n.inn.length<=1048576/\n.o.length<=1048576/\(∀z∈n.inn,-9223372036854775808<=z/\z<=9223372036854775807)/\∀v∈n.o,v.fits
theorem qgY:prog.underlying 77=some (.struct (prog.fieldsOf 77)):=by kernel_rfl
theorem qgZ:(prog.fieldsOf 77).size=3:=by kernel_rfl
theorem node_f0:((prog.fieldsOf 77)[0]?).map (λf=>(f.type,f.offset,prog.cellsOf f.type))=some (74,0,8):=by kernel_rfl
theorem node_f1:((prog.fieldsOf 77)[1]?).map (λf=>(f.type,f.offset,prog.cellsOf f.type))=some (22,8,1):=by kernel_rfl
theorem node_f2:((prog.fieldsOf 77)[2]?).map (λf=>(f.type,f.offset,prog.cellsOf f.type))=some (75,9,1):=by kernel_rfl
theorem op_under:prog.underlying 74=some (.struct (prog.fieldsOf 74)):=by kernel_rfl
theorem op_eight:(prog.fieldsOf 74).size=8:=by kernel_rfl
theorem op_f0:((prog.fieldsOf 74)[0]?).map (λf=>(f.type,f.offset,prog.cellsOf f.type))=some (3,0,1):=by kernel_rfl
theorem op_f1:((prog.fieldsOf 74)[1]?).map (λf=>(f.type,f.offset,prog.cellsOf f.type))=some (72,1,1):=by kernel_rfl
theorem op_f2:((prog.fieldsOf 74)[2]?).map (λf=>(f.type,f.offset,prog.cellsOf f.type))=some (3,2,1):=by kernel_rfl
theorem op_f3:((prog.fieldsOf 74)[3]?).map (λf=>(f.type,f.offset,prog.cellsOf f.type))=some (3,3,1):=by kernel_rfl
theorem op_f4:((prog.fieldsOf 74)[4]?).map (λf=>(f.type,f.offset,prog.cellsOf f.type))=some (3,4,1):=by kernel_rfl
theorem op_f5:((prog.fieldsOf 74)[5]?).map (λf=>(f.type,f.offset,prog.cellsOf f.type))=some (3,5,1):=by kernel_rfl
theorem op_f6:((prog.fieldsOf 74)[6]?).map (λf=>(f.type,f.offset,prog.cellsOf f.type))=some (3,6,1):=by kernel_rfl
theorem op_f7:((prog.fieldsOf 74)[7]?).map (λf=>(f.type,f.offset,prog.cellsOf f.type))=some (23,7,1):=by kernel_rfl
theorem list3 {α:Type} {l:List α} (h:l.length=3):∃a b c,l=[a,b,c]:=by
 match l,h with
 | [a,b,c],_=>exact ⟨a,b,c,rfl⟩
theorem list8 {α:Type} {l:List α} (h:l.length=8):∃a b c d e f g i,l=[a,b,c,d,e,f,g,i]:=by
 match l,h with
 | [a,b,c,d,e,f,g,i],_=>exact ⟨a,b,c,d,e,f,g,i,rfl⟩
theorem list10 {α:Type} {l:List α} (h:l.length=10):∃a b c d e f g i j k,l=[a,b,c,d,e,f,g,i,j,k]:=by
 match l,h with
 | [a,b,c,d,e,f,g,i,j,k],_=>exact ⟨a,b,c,d,e,f,g,i,j,k,rfl⟩
set_option maxRecDepth 100000 in
theorem op_open {H:Type} {enc:TypeId × Value->H} {W:Zp1} {base:Nat} {spare:Nat->Bool} {held:Bool} {fuel:Nat} {v0 v1 v2 v3 v4 v5 v6 v7:Value} {x:DataW H × List MemPlace}
  (h:DataW.trod enc prog W base spare held fuel 74 [v0,v1,v2,v3,v4,v5,v6,v7]=some x) (hz:Rows.uptoBulk x.1<=1048576):
  ∃(o:OpD) (S:Option Addr) (c:Nat),v0=nQ iQ o.kind/\v1=nQ iQ o.k/\v2=nQ iQ o.width/\v3=nQ iQ o.step/\v4=nQ iQ o.side/\v5=nQ iQ o.frm/\v6=nQ iQ o.to/\v7=sQ S o.s.length c/\
   Ints iQ W S o.s/\o.s.length<=c/\c<=9223372036854775807/\o.s.length<=1048576/\o.wide/\∀z∈o.s,-9223372036854775808<=z/\z<=9223372036854775807:=by
 obtain ⟨ys,n,_,hx,_,ha,hg⟩:=DataW.trod_struct op_under h;rw [op_eight] at ha;obtain ⟨y0,y1,y2,y3,y4,y5,y6,y7,rfl⟩:=list8 ha;rw [hx] at hz;obtain ⟨f0,e0,t0⟩:=Option.map_eq_some_iff.1 op_f0;simp only [Prod.mk.injEq] at t0;have h0:=hg 0 f0 e0;rw [t0.2.2,t0.2.1,t0.1] at h0;simp at h0;obtain ⟨f1,e1,t1⟩:=Option.map_eq_some_iff.1 op_f1;simp only [Prod.mk.injEq] at t1;have h1:=hg 1 f1 e1;rw [t1.2.2,t1.2.1,t1.1] at h1;simp at h1;obtain ⟨f2,e2,t2⟩:=Option.map_eq_some_iff.1 op_f2;simp only [Prod.mk.injEq] at t2;have h2:=hg 2 f2 e2;rw [t2.2.2,t2.2.1,t2.1] at h2;simp at h2;obtain ⟨f3,e3,t3⟩:=Option.map_eq_some_iff.1 op_f3;simp only [Prod.mk.injEq] at t3;have h3:=hg 3 f3 e3;rw [t3.2.2,t3.2.1,t3.1] at h3;simp at h3;obtain ⟨f4,e4,t4⟩:=Option.map_eq_some_iff.1 op_f4;simp only [Prod.mk.injEq] at t4;have h4:=hg 4 f4 e4;rw [t4.2.2,t4.2.1,t4.1] at h4;simp at h4;obtain ⟨f5,e5,t5⟩:=Option.map_eq_some_iff.1 op_f5;simp only [Prod.mk.injEq] at t5;have h5:=hg 5 f5 e5;rw [t5.2.2,t5.2.1,t5.1] at h5;simp at h5;obtain ⟨f6,e6,t6⟩:=Option.map_eq_some_iff.1 op_f6;simp only [Prod.mk.injEq] at t6;have h6:=hg 6 f6 e6;rw [t6.2.2,t6.2.1,t6.1] at h6;simp at h6;obtain ⟨f7,e7,t7⟩:=Option.map_eq_some_iff.1 op_f7;simp only [Prod.mk.injEq] at t7;have h7:=hg 7 f7 e7;rw [t7.2.2,t7.2.1,t7.1] at h7;simp at h7;have hb:Rows.uptoBulk y7.1<=1048576:=by simp [Rows.uptoBulk,Rows.uptoBulkAll] at hz;omega
 obtain ⟨x0,q0,_,w0⟩:=DataW.trod_int underlying3 h0;simp at q0;subst q0;obtain ⟨x1,q1,_,w1⟩:=DataW.trod_int underlying72 h1;simp at q1;subst q1;obtain ⟨x2,q2,_,w2⟩:=DataW.trod_int underlying3 h2;simp at q2;subst q2;obtain ⟨x3,q3,_,w3⟩:=DataW.trod_int underlying3 h3;simp at q3;subst q3;obtain ⟨x4,q4,_,w4⟩:=DataW.trod_int underlying3 h4;simp at q4;subst q4;obtain ⟨x5,q5,_,w5⟩:=DataW.trod_int underlying3 h5;simp at q5;subst q5;obtain ⟨x6,q6,_,w6⟩:=DataW.trod_int underlying3 h6;simp at q6;subst q6;obtain ⟨S,c,zs,rfl,hI,h1,h2,h3,h4⟩:=qbS underlying23 h7 hb;refine ⟨⟨x0,x1,x2,x3,x4,x5,x6,zs⟩,S,c,rfl,rfl,rfl,rfl,rfl,rfl,rfl,rfl,hI,h1,h2,h3,λz hz=>?_,h4⟩;simp at hz;rcases hz with rfl|rfl|rfl|rfl|rfl|rfl|rfl
 ·exact qdF w0
 ·exact qdF w1
 ·exact qdF w2
 ·exact qdF w3
 ·exact qdF w4
 ·exact qdF w5
 ·exact qdF w6
structure dG where
 v:aS
 S:Option Addr
 c:Nat
 I:Option Addr
 d:Nat
 Q:Option Addr
 q:Nat
instance:Inhabited dG:=⟨⟨Nt.none_,none,0,none,0,none,0⟩⟩
def dG.cells (x:dG):List Value:=[nQ iQ x.v.op.kind,nQ iQ x.v.op.k,nQ iQ x.v.op.width,nQ iQ x.v.op.step,nQ iQ x.v.op.side,nQ iQ x.v.op.frm,nQ iQ x.v.op.to,.slice x.S x.v.op.s.length x.c,.slice x.I x.v.ins.length x.d,.slice x.Q x.v.p.length x.q]
def dG.R (x:dG) (W:Zp1):Prop:=(Ints iQ W x.S x.v.op.s/\x.v.op.s.length<=x.c/\x.c<=9223372036854775807)/\(Ints iQ W x.I x.v.ins/\x.v.ins.length<=x.d/\x.d<=9223372036854775807)/\(bQ W x.Q x.v.p/\x.v.p.length<=x.q/\x.q<=9223372036854775807)
set_option maxRecDepth 100000 in
theorem qic {H:Type} {enc:TypeId × Value->H} {W:Zp1} {base:Nat} {spare:Nat->Bool} {held:Bool} {fuel:Nat} {cs:List Value} {x:DataW H × List MemPlace} (hcs:cs.length=10)
  (h:DataW.trod enc prog W base spare held fuel 77 cs=some x) (hz:Rows.uptoBulk x.1<=1048576):
  ∃q:dG,cs=q.cells/\q.R W/\q.v.fits:=by
 obtain ⟨v0,v1,v2,v3,v4,v5,v6,v7,v8,v9,rfl⟩:=list10 hcs;obtain ⟨ys,n,_,hx,_,ha,hg⟩:=DataW.trod_struct qgY h;rw [qgZ] at ha;obtain ⟨y0,y1,y2,rfl⟩:=list3 ha;rw [hx] at hz;obtain ⟨f0,e0,t0⟩:=Option.map_eq_some_iff.1 node_f0;simp only [Prod.mk.injEq] at t0;have h0:=hg 0 f0 e0;rw [t0.2.2,t0.2.1,t0.1] at h0;simp at h0;obtain ⟨f1,e1,t1⟩:=Option.map_eq_some_iff.1 node_f1;simp only [Prod.mk.injEq] at t1;have h1:=hg 1 f1 e1;rw [t1.2.2,t1.2.1,t1.1] at h1;simp at h1;obtain ⟨f2,e2,t2⟩:=Option.map_eq_some_iff.1 node_f2;simp only [Prod.mk.injEq] at t2;have h2:=hg 2 f2 e2;rw [t2.2.2,t2.2.1,t2.1] at h2;simp at h2;have hc:Rows.uptoBulk y0.1<=1048576:=by simp [Rows.uptoBulk,Rows.uptoBulkAll] at hz;omega
 have hd:Rows.uptoBulk y1.1<=1048576:=by simp [Rows.uptoBulk,Rows.uptoBulkAll] at hz;omega
 have hb:Rows.uptoBulk y2.1<=1048576:=by simp [Rows.uptoBulk,Rows.uptoBulkAll] at hz;omega
 obtain ⟨o,S,c,rfl,rfl,rfl,rfl,rfl,rfl,rfl,rfl,a1,a2,a3,a4,a5,a6⟩:=op_open h0 hc;obtain ⟨I,d,is,rfl,b1,b2,b3,b4,b5⟩:=qbS underlying22 h1 hd;obtain ⟨Q,q,ps,rfl,c1,c2,c3,c4,c5⟩:=qib h2 hb;exact ⟨⟨⟨o,is,ps⟩,S,c,I,d,Q,q⟩,rfl,⟨⟨a1,a2,a3⟩,⟨b1,b2,b3⟩,c1,c2,c3⟩,a5,a4,b4,c4,λs hs=>(c5 s hs).1,a6,b5,λs hs=>(c5 s hs).2⟩
theorem qh0 {H:Type} {enc:TypeId × Value->H} {W:Zp1} {base:Nat} {spare:Nat->Bool} {held:Bool} {fuel:Nat} {v:Value} {x:DataW H × List MemPlace}
  (h:DataW.trod enc prog W base spare held fuel 24 [v]=some x) (hz:Rows.uptoBulk x.1<=1048576):
  ∃A c ns,v=sQ A ns.length c/\jY W A ns/\ns.length<=c/\c<=9223372036854775807/\ns.length<=1048576/\∀v∈ns,v.fits:=by
 rcases qbp underlying24 h hz with rfl|⟨a,len,cap,rfl,hl,hm,hb,hi⟩
 ·exact ⟨none,0,[],rfl,λj hj=>absurd hj sZ,by simp,by omega,by simp,by simp⟩
 ·rw [qgX] at hi
  have key:∀i,i<len->∃q:dG,(∀j,j<10->W.cell? ((a.add (i*10)).add j)=q.cells[j]?)/\q.R W/\q.v.fits:=λi hd=>by
   obtain ⟨cs',m,y,hc,ht,hw⟩:=hi i hd;obtain ⟨_,ha,he⟩:=World.cells?_some hc;obtain ⟨q,rfl,h1,h2⟩:=qic ha ht hw;exact ⟨q,he,h1,h2⟩
  obtain ⟨L,hL,hq⟩:=qd1 key;refine ⟨some a,cap,L.map (·.v),by simp [hL],λj hj=>?_,by simpa [hL] using hl,by unfold maxLen at hm;omega,by simp [hL];exact hb,λs hs=>?_⟩
  ·rw [List.length_map] at hj
   obtain ⟨h1,⟨r1,r2,r3⟩,_⟩:=hq j hj;obtain ⟨h0,_⟩:=hq 0 oZ;have hg:=h0 0 oZ;obtain ⟨b,off,rfl⟩:=qgd (v:=nQ iQ L[0].v.op.kind) (show W.cell? a=_ by simpa [Addr.add,dG.cells] using hg);simp only [qaY] at h1;rw [List.getElem_map];refine ⟨b,off,_,_,_,_,_,_,rfl,Zj1 _ _ (h1 0 oZ),h1 0 oZ,h1 1 oZ,h1 2 oZ,h1 3 oZ,h1 4 oZ,h1 5 oZ,h1 6 oZ,h1 7 oZ,h1 8 oZ,h1 9 oZ,r1,r2,r3⟩
  ·obtain ⟨q,hf,rfl⟩:=List.mem_map.1 hs
   obtain ⟨i,hi,rfl⟩:=List.getElem_of_mem hf;exact (hq i hi).2.2
theorem qid:prog.cellsOf 26=2:=by kernel_rfl
theorem qeV:prog.underlying 26=some (.struct (prog.fieldsOf 26)):=by kernel_rfl
theorem net_two:(prog.fieldsOf 26).size=2:=by kernel_rfl
theorem net_f0:((prog.fieldsOf 26)[0]?).map (λf=>(f.type,f.offset,prog.cellsOf f.type))=some (23,0,1):=by kernel_rfl
theorem net_f1:((prog.fieldsOf 26)[1]?).map (λf=>(f.type,f.offset,prog.cellsOf f.type))=some (24,1,1):=by kernel_rfl
theorem list2 {α:Type} {l:List α} (h:l.length=2):∃a b,l=[a,b]:=by
 match l,h with
 | [a,b],_=>exact ⟨a,b,rfl⟩
set_option maxRecDepth 100000 in
theorem qge {H:Type} {enc:TypeId × Value->H} {W:Zp1} {r:Reach} {b0 base:Nat} {spare:Nat->Bool} {held:Bool} {v:Value} {d:DataW H} {p:List MemPlace}
  (hv:Value.okWide prog W r b0 26 v) (h:DataW.Trod enc prog W base spare held 26 v d p) (hz:Rows.uptoBulk d<=1048576):
  ∃A N c1 c2 n,v=.agg #[sQ A n.inn.length c1,sQ N n.o.length c2]/\n.inn.length<=c1/\c1<=9223372036854775807/\n.o.length<=c2/\c2<=9223372036854775807/\bC W A N n/\n.fits:=by
 obtain ⟨cs,rfl,hb⟩:=okWide_struct qeV hv;obtain ⟨l⟩:=cs
 match l,hb.trans qid with
 | [v0,v1],_=>
  obtain ⟨fuel,hf⟩:=h;obtain ⟨ys,n,_,hx,_,ha,hg⟩:=DataW.trod_struct qeV hf;rw [net_two] at ha;obtain ⟨y0,y1,rfl⟩:=list2 ha;simp only [Prod.mk.injEq,List.map_cons,List.map_nil] at hx;obtain ⟨rfl,_⟩:=hx;obtain ⟨f0,e0,t0⟩:=Option.map_eq_some_iff.1 net_f0;simp only [Prod.mk.injEq] at t0;have h0:=hg 0 f0 e0;rw [t0.2.2,t0.2.1,t0.1] at h0;simp [Value.cells] at h0;obtain ⟨f1,e1,t1⟩:=Option.map_eq_some_iff.1 net_f1;simp only [Prod.mk.injEq] at t1;have h1:=hg 1 f1 e1;rw [t1.2.2,t1.2.1,t1.1] at h1;simp [Value.cells] at h1;have hc:Rows.uptoBulk y0.1<=1048576:=by simp [Rows.uptoBulk,Rows.uptoBulkAll] at hz;omega
  have hd:Rows.uptoBulk y1.1<=1048576:=by simp [Rows.uptoBulk,Rows.uptoBulkAll] at hz;omega
  obtain ⟨A,c1,zs,rfl,a1,a2,a3,a4,a5⟩:=qbS underlying23 h0 hc;obtain ⟨N,c2,ns,rfl,b1,b2,b3,b4,b5⟩:=qh0 h1 hd;exact ⟨A,N,c1,c2,⟨zs,ns⟩,rfl,a2,a3,b2,b3,⟨a1,b1⟩,a4,b4,a5,b5⟩
theorem aA.fits.ok {n:aA} (h:n.fits):n.ok:=
 ⟨h.1,h.2.1,λv hv=>by
  obtain ⟨h1,h2,h3,h4,h5,h6,h7,h8⟩:=h.2.2.2 v hv;exact ⟨h1,h2,h3,h4,h5,h7⟩⟩
theorem qeW {w:Zp1} {B B' e s n:Nat} {v:Value} {xs:List Value} (h:w.ownsRow B e s v n xs) (hB:B'<=B):w.ownsRow B' e s v n xs:=by
 refine ⟨h.1,?_⟩;rcases h.2 with h|⟨g,cap,cur,h1,h2,h3⟩
 ·exact .inl h
 ·exact .inr ⟨g,cap,cur,h1,Zv hB h2,h3⟩
abbrev RQ:=dG × List Value
def RQ.cells (x:RQ):List Value:=x.1.cells
def RQ.Phi (B:Nat) (x:RQ) (W:Zp1):Prop:=W.ownsRow B 22 1 (.slice x.1.Q x.1.v.p.length x.1.q) x.1.v.p.length x.2
def RQ.Good (w:Zp1) (x:RQ):Prop:=(Ints iQ w x.1.S x.1.v.op.s/\x.1.v.op.s.length<=x.1.c/\x.1.c<=9223372036854775807)/\(Ints iQ w x.1.I x.1.v.ins/\x.1.v.ins.length<=x.1.d/\x.1.d<=9223372036854775807)/\iI w x.2 x.1.v.p
def dL (t:TypeId) (B C:Nat) (w W:Zp1) (v:Value) (ns:List aS):Prop:=
 ∃L:List RQ,L.map (λx=>x.1.v)=ns/\dP B C W t 10 v RQ.cells (RQ.Phi B) L/\∀x∈L,RQ.Good w x
theorem RQ.len (x:RQ):(RQ.cells x).length=10:=rfl
theorem dL.nil (t:TypeId) (B:Nat) (w W:Zp1):dL t B W.heap.size w W (sQ none 0 0) []:=⟨[],rfl,dP.nil _ _ _ _ _ _,by simp⟩
theorem dL.form {t:TypeId} {B C:Nat} {w W:Zp1} {v:Value} {ns:List aS} (h:dL t B C w W v ns):∃A c,v=sQ A ns.length c/\ns.length<=c/\(∀b,v.ownBlock=some b->B<=b/\b<C):=by
 obtain ⟨L,hL,hO,_⟩:=h;obtain ⟨A,c,e,hc⟩:=hO.form;have hl:L.length=ns.length:=by rw [←hL];simp
 rw [hl] at e hc;exact ⟨A,c,e,hc,λb hb=>⟨(hO.1.lt b hb).1,hO.2.1 b hb⟩⟩
theorem dL.fr {t:TypeId} {B C:Nat} {w W W':Zp1} {v:Value} {ns:List aS} {S:Nat->Prop} (h:dL t B C w W v ns) (hf:Fr S W W') (hS:∀b,B<=b->b<C->¬S b):dL t B C w W' v ns:=by
 obtain ⟨L,hL,hO,hG⟩:=h;exact ⟨L,hL,hO.fr hf hS,hG⟩
theorem dL.o {t:TypeId} {B C:Nat} {w W:Zp1} {v:Value} {ns:List aS} (h:dL t B C w W v ns) (hb:Below w.heap.size w W):
  ∃A c,v=sQ A ns.length c/\ns.length<=c/\c<=9223372036854775807/\jY W A ns:=by
 obtain ⟨L,rfl,hO,hG⟩:=h;rw [List.length_map];rcases hO.1.2 with ⟨rfl,h0⟩|⟨g,cap,cur,rfl,_,hh,ha,he,_⟩
 ·have:L=[]:=List.eq_nil_of_length_eq_zero h0
  subst this;exact ⟨none,0,rfl,by simp,by omega,λj hj=>absurd hj sZ⟩
 ·refine ⟨_,cap,rfl,ha,by unfold maxLen at he;omega,λj hj=>?_⟩
  rw [List.length_map] at hj;obtain ⟨b,cap',e,_,_,_,hc⟩:=hO.at_ (λx=>RQ.len x) hj;injection e with e _ _
  injection e with e
  injection e with e
  subst e;obtain ⟨⟨s1,s2,s3⟩,⟨i1,i2,i3⟩,hd⟩:=hG L[j] (gmZ hj);have hf:=hO.now L[j] (gmZ hj);obtain ⟨AQ,cQ,eQ,_,hQ,q1,q2⟩:=hd.qG hf hb;injection eQ with e1 _ e2
  rw [List.getElem_map];refine ⟨g,0,L[j].1.S,L[j].1.c,L[j].1.I,L[j].1.d,L[j].1.Q,L[j].1.q,rfl,lt_of_block hh,?_,?_,?_,?_,?_,?_,?_,?_,?_,?_,⟨s1.below hb (lrZ _),s2,s3⟩,⟨i1.below hb (lrZ _),i2,i3⟩,by rw [e1];exact hQ,by rw [e2];exact q1,by rw [e2];exact q2⟩
  ·have:=hc 0 oZ;first|(simp [RQ.cells,dG.cells];done)|simpa [RQ.cells,dG.cells] using this
  ·have:=hc 1 oZ;first|(simp [RQ.cells,dG.cells];done)|simpa [RQ.cells,dG.cells] using this
  ·have:=hc 2 oZ;first|(simp [RQ.cells,dG.cells];done)|simpa [RQ.cells,dG.cells] using this
  ·have:=hc 3 oZ;first|(simp [RQ.cells,dG.cells];done)|simpa [RQ.cells,dG.cells] using this
  ·have:=hc 4 oZ;first|(simp [RQ.cells,dG.cells];done)|simpa [RQ.cells,dG.cells] using this
  ·have:=hc 5 oZ;first|(simp [RQ.cells,dG.cells];done)|simpa [RQ.cells,dG.cells] using this
  ·have:=hc 6 oZ;first|(simp [RQ.cells,dG.cells];done)|simpa [RQ.cells,dG.cells] using this
  ·have:=hc 7 oZ;first|(simp [RQ.cells,dG.cells];done)|simpa [RQ.cells,dG.cells] using this
  ·have:=hc 8 oZ;first|(simp [RQ.cells,dG.cells];done)|simpa [RQ.cells,dG.cells] using this
  ·have:=hc 9 oZ;first|(simp [RQ.cells,dG.cells];done)|simpa [RQ.cells,dG.cells] using this
theorem qfD {t:TypeId} {B C:Nat} {w W W':Zp1} {v v':Value} {L:List RQ} {x:dG} {vs:List Value} {C2:Nat} (hO:dP B C W t 10 v RQ.cells (RQ.Phi B) L) (hGL:∀x∈L,RQ.Good w x) (hC:C<=C2) (hB:B<=C2)
  (hown:W'.ownsRow B t 10 v' (L.length+1) (L.flatMap RQ.cells++x.cells)) (hg:W.grownBy W' v.ownBlock) (hat:v'.ownBlock=v.ownBlock∨v'.ownBlock=some W.heap.size)
  (hx:W.ownsRow C2 22 1 (.slice x.Q x.v.p.length x.q) x.v.p.length vs) (hG:RQ.Good w (x,vs)):dL t B W'.heap.size w W' v' (L.map (λx=>x.1.v)++[x.v]):=by
 refine ⟨L++[(x,vs)],by simp,?_,λy hy=>?_⟩
 ·refine hO.push (x:=((x,vs):RQ)) hown hg hat (F:=λb=>(Zb1 x.Q x.v.p.length x.q).ownBlock=some b) (λW2 h2=>?_) (λb hb=>?_)
  ·exact qaa (qeW hx hB) h2
  ·obtain ⟨h1,h2⟩:=hx.lt b hb
   exact ⟨by omega,h2,λe=>by have:=hO.2.1 b e.symm;omega⟩
 ·rcases List.mem_append.1 hy with hy|hy
  ·exact hGL y hy
  ·simp at hy;subst hy;exact hG
def qie (n:aA) (A:Option Addr) (c:Nat) (w:Zp1) (e:Ending) (w':Zp1):Prop:=
 ∃N' d',e=.returned (.agg #[sQ A n.inn.length c,sQ N' n.o.length d'])/\bC w' A N' n/\n.o.length<=d'/\d'<=9223372036854775807/\Below w.heap.size w w'
def RInv (tN tR tE:TypeId) (n:aA) (A N:Option Addr) (c d:Nat) (w0 w:Zp1) (k:Nat) (wx:Zp1):Prop:=
 Blk wx w.heap.size tN #[sQ A n.inn.length c,sQ N n.o.length d]/\Blk wx (w.heap.size+1) tR #[sQ none 0 0,sQ none 0 0]/\Below w.heap.size w wx/\
  ∃v,Blk wx (w.heap.size+2) tR #[sQ A n.inn.length c,v]/\dL tE (w.heap.size+3) wx.heap.size w0 wx v (n.o.take k)
def sD (t:TypeId) (n:aA) (A:Option Addr) (c:Nat) (w0 w:Zp1) (e:Ending) (w':Zp1):Prop:=
 ∃N' d' C,e=.returned (.agg #[sQ A n.inn.length c,sQ N' n.o.length d'])/\n.o.length<=d'/\d'<=9223372036854775807/\Below w.heap.size w w'/\dL t (w.heap.size+3) C w0 w' (sQ N' n.o.length d') n.o
theorem dL.net {t:TypeId} {B C:Nat} {w W:Zp1} {A N N':Option Addr} {d':Nat} {n:aA} (h:dL t B C w W (sQ N' n.o.length d') n.o) (hb:Later w W) (hR:bC w A N n):bC W A N' n:=by
 obtain ⟨N2,d2,e2,-,-,ha⟩:=h.o hb;injection e2 with e3 _ _
 subst e3;exact ⟨hR.1.below hb (lrZ _),ha⟩
theorem sD.netp {t:TypeId} {n:aA} {A N:Option Addr} {c:Nat} {w w':Zp1} {e:Ending} (h:sD t n A c w w e w') (hR:bC w A N n):qie n A c w e w':=by
 obtain ⟨N',d',C,rfl,h1,h2,hb,hr⟩:=h;exact ⟨N',d',rfl,hr.net hb hR,h1,h2,hb⟩
theorem qeX:(prog.info? 85).map (λi=>(i.zero,i.size,i.bytes))=some (some (.agg #[nQ iQ 0,nQ iQ 0,nQ iQ 0,nQ iQ 0,nQ iQ 0,nQ iQ 0,nQ iQ 0,sQ none 0 0,sQ none 0 0,sQ none 0 0]),10,128):=by kernel_rfl
theorem ref_22s (A N:Option Addr) (c d:Nat) (n:aA) (w0 w:Zp1) (hok:n.ok) (hl0:Later w0 w) (hR:bC w0 A N n):
  Calls prog 12 #[.agg #[sQ A n.inn.length c,sQ N n.o.length d]] w (sD 85 n A c w0 w):=by
 obtain ⟨i1,hj,HQ,HO,HT⟩:=info_parts qc0;obtain ⟨i2,hn,gj,gf,gm⟩:=info_parts qeX;have gv:=hok.2.1;have hi:=qhe w (.cells #[sQ A n.inn.length c,sQ N n.o.length d] 26) (.cells #[sQ none 0 0,sQ none 0 0] 37) (.cells #[sQ A n.inn.length c,sQ none 0 0] 37);have Hs:=((Blk.new w 26 #[sQ A n.inn.length c,sQ N n.o.length d]).alloc (.cells #[sQ none 0 0,sQ none 0 0] 37)).alloc (.cells #[sQ A n.inn.length c,sQ none 0 0] 37);have Hb:=(Blk.new (w.alloc (.cells #[sQ A n.inn.length c,sQ N n.o.length d] 26)) 37 #[sQ none 0 0,sQ none 0 0]).alloc (.cells #[sQ A n.inn.length c,sQ none 0 0] 37);have Hc:=Blk.new ((w.alloc (.cells #[sQ A n.inn.length c,sQ N n.o.length d] 26)).alloc (.cells #[sQ none 0 0,sQ none 0 0] 37)) 37 #[sQ A n.inn.length c,sQ none 0 0];rw [Zh1] at Hb;rw [Zh1,Zh1] at Hc;obtain ⟨HN,HR,HC,HA,Ht⟩:=zd5 hok hR Hs Hb Hc;clear hok hR Hs Hb Hc;go_in;go_wp2_with fail;generalize ((w.alloc (.cells #[sQ A n.inn.length c,sQ N n.o.length d] 26)).alloc (.cells #[sQ none 0 0,sQ none 0 0] 37)).alloc (.cells #[sQ A n.inn.length c,sQ none 0 0] 37)=w1 at *;have Hz:=zI (show RInv 26 37 85 n A N c d w0 w 0 w1 from ⟨HC.out,HA.out,hi,_,Ht.out,by rw [List.take_zero];exact dL.nil _ _ _ _⟩);clear HC HA Ht hi
 go_loopw [15] (λi wx=>∃k:Nat,k<=n.o.length/\i=nQ iQ (k:Int)/\RInv 26 37 85 n A N c d w0 w k wx) (λi _=>n.o.length-(intOf i).toNat)
 case atStart=>exact ⟨0,Zt _,rfl,Hz.out⟩
 case round=>
  obtain ⟨k,hk,rfl,h9,hw,hE,v0,ht,hd⟩:=hrel;clear Hz;have gr:=ht.lt
  by_cases Hh:k<n.o.length
  ·obtain ⟨b,off,S,sc,J,ic,Q,qc,rfl,hH,H6,H8,gp⟩:=HR.out.2.at_ Hh
   have hB:=HN.out.2.2 _ (gmZ Hh);have Hx:=Zb Hh;have gu:=hB.2.2.2.1;have Ho:=hH.2.1;have Hv:=hH.2.2.1;have Hr:=hH.2.2.2;generalize n.o[k]=v at *;obtain ⟨⟨y0,y1,y2,y3,y4,y5,y6,y7,y8,y9⟩,-⟩:=hH.below (hl0.call hE);have hy:=(Blk.new wr 77 #[nQ iQ v.op.kind,nQ iQ v.op.k,nQ iQ v.op.width,nQ iQ v.op.step,nQ iQ v.op.side,nQ iQ v.op.frm,nQ iQ v.op.to,sQ S v.op.s.length sc,sQ J v.ins.length ic,sQ Q v.p.length qc]).alloc (.cells #[nQ iQ v.op.kind,nQ iQ v.op.k,nQ iQ v.op.width,nQ iQ v.op.step,nQ iQ v.op.side,nQ iQ v.op.frm,nQ iQ v.op.to,sQ S v.op.s.length sc,sQ J v.ins.length ic,sQ none 0 0] 85);have hc:=Blk.new (wr.alloc (.cells #[nQ iQ v.op.kind,nQ iQ v.op.k,nQ iQ v.op.width,nQ iQ v.op.step,nQ iQ v.op.side,nQ iQ v.op.frm,nQ iQ v.op.to,sQ S v.op.s.length sc,sQ J v.ins.length ic,sQ Q v.p.length qc] 77)) 85 #[nQ iQ v.op.kind,nQ iQ v.op.k,nQ iQ v.op.width,nQ iQ v.op.step,nQ iQ v.op.side,nQ iQ v.op.frm,nQ iQ v.op.to,sQ S v.op.s.length sc,sQ J v.ins.length ic,sQ none 0 0];rw [Zh1] at hc;have H5:Below wr.heap.size wr ((wr.alloc (.cells #[nQ iQ v.op.kind,nQ iQ v.op.k,nQ iQ v.op.width,nQ iQ v.op.step,nQ iQ v.op.side,nQ iQ v.op.frm,nQ iQ v.op.to,sQ S v.op.s.length sc,sQ J v.ins.length ic,sQ Q v.p.length qc] 77)).alloc (.cells #[nQ iQ v.op.kind,nQ iQ v.op.k,nQ iQ v.op.width,nQ iQ v.op.step,nQ iQ v.op.side,nQ iQ v.op.frm,nQ iQ v.op.to,sQ S v.op.s.length sc,sQ J v.ins.length ic,sQ none 0 0] 85)):=qea wr _ _;obtain ⟨h7,h8,Hi,hF,go,HS,HM,HX,HW⟩:=zd9 h9 hw ht hd hH hB Hx Ho Hv;obtain ⟨H7,h6,hY⟩:=zd3 Hr hy hc;clear h9 hw ht hd hH hB Hx Ho Hv Hr hy hc;go_wp2_with fail;clear y0 y1 y2 y3 y4 y5 y6 y7 y8 y9;generalize ((wr.alloc (.cells #[nQ iQ v.op.kind,nQ iQ v.op.k,nQ iQ v.op.width,nQ iQ v.op.step,nQ iQ v.op.side,nQ iQ v.op.frm,nQ iQ v.op.to,sQ S v.op.s.length sc,sQ J v.ins.length ic,sQ Q v.p.length qc] 77)).alloc (.cells #[nQ iQ v.op.kind,nQ iQ v.op.k,nQ iQ v.op.width,nQ iQ v.op.step,nQ iQ v.op.side,nQ iQ v.op.frm,nQ iQ v.op.to,sQ S v.op.s.length sc,sQ J v.ins.length ic,sQ none 0 0] 85))=w2 at *
   obtain ⟨wo,rfl⟩:∃wo,wo=wr:=⟨wr,rfl⟩
   go_loopw [50] (λi wx=>∃(m:Nat) (vs:List Value) (u:Value),m<=v.p.length/\i=nQ iQ (m:Int)/\Blk wx wo.heap.size 77 #[nQ iQ v.op.kind,nQ iQ v.op.k,nQ iQ v.op.width,nQ iQ v.op.step,nQ iQ v.op.side,nQ iQ v.op.frm,nQ iQ v.op.to,sQ S v.op.s.length sc,sQ J v.ins.length ic,sQ Q v.p.length qc]/\Blk wx (wo.heap.size+1) 85 #[nQ iQ v.op.kind,nQ iQ v.op.k,nQ iQ v.op.width,nQ iQ v.op.step,nQ iQ v.op.side,nQ iQ v.op.frm,nQ iQ v.op.to,sQ S v.op.s.length sc,sQ J v.ins.length ic,u]/\wx.ownsRow (wo.heap.size+2) 22 1 u m vs/\iI w0 vs (v.p.take m)/\Below wo.heap.size wo wx/\wo.heap.size+2<=wx.heap.size) (λi _=>v.p.length-(intOf i).toNat)
   case atStart=>exact ⟨0,[],_,Zt _,rfl,h6.out,hY.out,World.ownsRow_nil _ _ _ _,iI.nil _,H5,by have:=hY.out.lt;omega⟩
   case round=>
    obtain ⟨m,vs,u,hm,rfl,hy,hc,hown,hG,hi,gn⟩:=hrel;clear h6 hY;obtain ⟨A9,c9,rfl⟩:=qa6 hown
    by_cases Hu:m<v.p.length
    ·have hh:=hE.trans (hi.mono hE.size)
     obtain ⟨b5,o5,Ss,cs,rfl,-,HD,Hn,H9,HI⟩:=H7.out m Hu;have gi:=qa1 (hl0.call hh) HD;have ha:=hG.push Hn H9 HI;rw [←Zb Hu] at ha;have y9:wr.cell? ⟨wo.heap.size+1,9,none⟩=some (sQ A9 m c9):=by rw [hc.cell];rfl
     have f9:=hc.frozen 9;generalize v.p[m]=t at *;have ho:=qa8 hown (.cells #[sQ Ss t.length cs] 22);have hC:=hi.alloc hi.size (.cells #[sQ Ss t.length cs] 22);have h0:=hy.alloc (.cells #[sQ Ss t.length cs] 22);have hO:=hc.alloc (.cells #[sQ Ss t.length cs] 22);have hI:∀b,(Zb1 A9 m c9).ownBlock=some b->wo.heap.size+2<=b:=λb hb=>(hown.lt b hb).1
     obtain ⟨h6,hY,HB,hX,Hg,Hl,hx,gq⟩:=zd8 hy hc hG ha h0 hO hI Hn;clear hy hc hG ha h0 hO hI Hn;clear hown HD;go_wp2_with (at_builtin;refine wpList_append_own_at _ rfl _ _ 32 rfl (wo.heap.size+2) 22 i1 (sQ none 0 0) 1 24 underlying32 hj HQ HO HT rfl dZ _ _ _ rfl ho ⟨wr.heap.size,0,none⟩ 1 1 [sQ Ss t.length cs] rfl rfl ?c1 (by intro u hu;simp at hu;subst hu;rfl) (by unfold maxLen;omega) oZ ?c2 ?_)
     first|(case c1=>exact qap wr _ _)|skip
     case c2=>first|(simp;omega)|omega
     intro v' w3 hf hgrow _ HJ;obtain ⟨A8,c8,rfl⟩:=qa6 hf;have ht:Below wo.heap.size wo w3:=hC.grown hgrow hC.size (λb hb=>by have:=hx.out b hb;omega);have HV:=hgrow.size;simp at HV;have hP:=Hg.out.grown hgrow (λe=>by have:=hx.out _ e.symm;omega);have hr:=Hl.out.grown hgrow (λe=>by have:=hx.out _ e.symm;omega);have y9':w3.cell? ⟨wo.heap.size+1,9,none⟩=some (sQ A9 m c9):=by rw [hr.cell];rfl
     have f9':=hr.frozen 9;have HK:=zI (hP.far (p:=⟨wo.heap.size+1,9,none⟩) sZ (sQ A8 (m+1) c8));have h4:=hr.aO 9 (sQ A8 (m+1) c8);have HY:=zI (show Blk (w3.setCell ⟨wo.heap.size+1,9,none⟩ (sQ A8 (m+1) c8)) (wo.heap.size+1) 85 #[nQ iQ v.op.kind,nQ iQ v.op.k,nQ iQ v.op.width,nQ iQ v.op.step,nQ iQ v.op.side,nQ iQ v.op.frm,nQ iQ v.op.to,sQ S v.op.s.length sc,sQ J v.ins.length ic,sQ A8 (m+1) c8] from h4);have HG:=ht.setCell (p:=⟨wo.heap.size+1,9,none⟩) sZ (sQ A8 (m+1) c8);have ge:=zI (qaa (w':=w3.setCell ⟨wo.heap.size+1,9,none⟩ (sQ A8 (m+1) c8)) hf (λg hg=>Below.heap_setCell w3 _ _ g (by have:=(hf.lt g hg).1;simp;omega)));clear hf hgrow HJ ho hC hP hr h4 y9 f9;go_wp2_with fail;go_roundw
     case rel=>exact ⟨m+1,_,_,by omega,by go_num,HK.out,HY.out,ge.out,hX.out,HG,by simp;omega⟩
     case measure=>simp [intOf];omega
    ·obtain rfl:m=v.p.length:=by omega
     rw [Zg] at hG;have hh:=hE.trans (hi.mono hE.size);obtain ⟨y0,y1,y2,y3,y4,y5,y6,y7,y8,y9⟩:wr.cell? ⟨wo.heap.size+1,0,none⟩=some (nQ iQ v.op.kind)/\wr.cell? ⟨wo.heap.size+1,1,none⟩=some (nQ iQ v.op.k)/\wr.cell? ⟨wo.heap.size+1,2,none⟩=some (nQ iQ v.op.width)/\wr.cell? ⟨wo.heap.size+1,3,none⟩=some (nQ iQ v.op.step)/\wr.cell? ⟨wo.heap.size+1,4,none⟩=some (nQ iQ v.op.side)/\wr.cell? ⟨wo.heap.size+1,5,none⟩=some (nQ iQ v.op.frm)/\wr.cell? ⟨wo.heap.size+1,6,none⟩=some (nQ iQ v.op.to)/\wr.cell? ⟨wo.heap.size+1,7,none⟩=some (sQ S v.op.s.length sc)/\wr.cell? ⟨wo.heap.size+1,8,none⟩=some (sQ J v.ins.length ic)/\wr.cell? ⟨wo.heap.size+1,9,none⟩=some (sQ A9 v.p.length c9):=⟨hc.cell 0,hc.cell 1,hc.cell 2,hc.cell 3,hc.cell 4,hc.cell 5,hc.cell 6,hc.cell 7,hc.cell 8,hc.cell 9⟩
     obtain ⟨L,hL,hK,Hw⟩:=hF.out;obtain ⟨A0,c0,rfl,gl⟩:=hK.form;have hp:L.length=k:=by have:=congrArg List.length hL;simp at this;omega
     have hq:=Hi.out.below hi oZ;have hD:=h7.out.below hi (by have:=h7.out.lt;omega);have hz:=h8.out.below hi (by have:=h8.out.lt;omega);rw [hp] at gl;have hN:Fr (λb=>wo.heap.size<=b) wo wr:=Fr.of_below hi (λb hb hS=>by omega);have Hk:=(hK.fr hN (λb h1 h2 h3=>by omega)).fr ((Fr.refl (λ_=>False) wr).alloc (.cells #[nQ iQ v.op.kind,nQ iQ v.op.k,nQ iQ v.op.width,nQ iQ v.op.step,nQ iQ v.op.side,nQ iQ v.op.frm,nQ iQ v.op.to,sQ S v.op.s.length sc,sQ J v.ins.length ic,sQ A9 v.p.length c9] 85)) (λb h1 h2 h3=>h3);have hv:=qa8 hown (.cells #[nQ iQ v.op.kind,nQ iQ v.op.k,nQ iQ v.op.width,nQ iQ v.op.step,nQ iQ v.op.side,nQ iQ v.op.frm,nQ iQ v.op.to,sQ S v.op.s.length sc,sQ J v.ins.length ic,sQ A9 v.p.length c9] 85);have hV:=hq.alloc (.cells #[nQ iQ v.op.kind,nQ iQ v.op.k,nQ iQ v.op.width,nQ iQ v.op.step,nQ iQ v.op.side,nQ iQ v.op.frm,nQ iQ v.op.to,sQ S v.op.s.length sc,sQ J v.ins.length ic,sQ A9 v.p.length c9] 85);have hU:=hD.alloc (.cells #[nQ iQ v.op.kind,nQ iQ v.op.k,nQ iQ v.op.width,nQ iQ v.op.step,nQ iQ v.op.side,nQ iQ v.op.frm,nQ iQ v.op.to,sQ S v.op.s.length sc,sQ J v.ins.length ic,sQ A9 v.p.length c9] 85);have hM:=hz.alloc (.cells #[nQ iQ v.op.kind,nQ iQ v.op.k,nQ iQ v.op.width,nQ iQ v.op.step,nQ iQ v.op.side,nQ iQ v.op.frm,nQ iQ v.op.to,sQ S v.op.s.length sc,sQ J v.ins.length ic,sQ A9 v.p.length c9] 85);have hA:=hh.alloc hh.size (.cells #[nQ iQ v.op.kind,nQ iQ v.op.k,nQ iQ v.op.width,nQ iQ v.op.step,nQ iQ v.op.side,nQ iQ v.op.frm,nQ iQ v.op.to,sQ S v.op.s.length sc,sQ J v.ins.length ic,sQ A9 v.p.length c9] 85);have Hp:=Blk.new wr 85 #[nQ iQ v.op.kind,nQ iQ v.op.k,nQ iQ v.op.width,nQ iQ v.op.step,nQ iQ v.op.side,nQ iQ v.op.frm,nQ iQ v.op.to,sQ S v.op.s.length sc,sQ J v.ins.length ic,sQ A9 v.p.length c9]
     have hI:∀b,(Zb1 A0 L.length c0).ownBlock=some b->w.heap.size+3<=b:=λb hb=>(hK.1.lt b hb).1
     rw [hp] at hI;have z1:wr.cell? ⟨w.heap.size+2,1,none⟩=some (sQ A0 k c0):=by rw [hq.cell,hp];rfl
     have Hf:=Hk.1;rw [hp] at Hf;obtain ⟨h6,hY,HF,HB,HE,gk,gd,gc,hT⟩:=zd9 hy hc hown hG hq hD hz Hk hv;obtain ⟨He,Hj,Hd,HU,hx,HL,gb,gt,HH⟩:=zd9 hV hU hM Hp hI hL Hw hK hp;have gg:=zI Hf;clear hy hc hown hG hq hD hz Hk hv hV hU hM Hp hI hL Hw hK hp Hf;clear hF h7 h8 Hi hN;go_wp2_with (at_builtin;refine wpList_append_own_at _ rfl _ _ 35 rfl (w.heap.size+3) 85 i2 (.agg #[nQ iQ 0,nQ iQ 0,nQ iQ 0,nQ iQ 0,nQ iQ 0,nQ iQ 0,nQ iQ 0,sQ none 0 0,sQ none 0 0,sQ none 0 0]) 10 128 underlying35 hn gj gf gm rfl dZ _ k (L.flatMap RQ.cells) rfl gg.out ⟨wr.heap.size,0,none⟩ 1 1 [nQ iQ v.op.kind,nQ iQ v.op.k,nQ iQ v.op.width,nQ iQ v.op.step,nQ iQ v.op.side,nQ iQ v.op.frm,nQ iQ v.op.to,sQ S v.op.s.length sc,sQ J v.ins.length ic,sQ A9 v.p.length c9] rfl rfl ?c1 ?c2 ?c3 ?c4 ?c5 ?_)
     case c1=>exact World.news_of_block (cs:=#[nQ iQ v.op.kind,nQ iQ v.op.k,nQ iQ v.op.width,nQ iQ v.op.step,nQ iQ v.op.side,nQ iQ v.op.frm,nQ iQ v.op.to,sQ S v.op.s.length sc,sQ J v.ins.length ic,sQ A9 v.p.length c9]) HU.out
     case c2=>intro u hu;simp at hu;rcases hu with rfl|rfl|rfl|rfl|rfl|rfl|rfl|rfl|rfl|rfl<;>rfl
     case c3=>unfold maxLen;omega
     case c4=>omega
     case c5=>simp;omega
     intro v7 w7 he hJ _ hs;obtain ⟨A7,c7,rfl⟩:=qa6 he;have Hq:wr.heap.size+1=(wr.alloc (.cells #[nQ iQ v.op.kind,nQ iQ v.op.k,nQ iQ v.op.width,nQ iQ v.op.step,nQ iQ v.op.side,nQ iQ v.op.frm,nQ iQ v.op.to,sQ S v.op.s.length sc,sQ J v.ins.length ic,sQ A9 v.p.length c9] 85)).heap.size:=by simp
     rw [Hq] at hs;clear Hq;have hp:=HH.out;generalize (wr.alloc (.cells #[nQ iQ v.op.kind,nQ iQ v.op.k,nQ iQ v.op.width,nQ iQ v.op.step,nQ iQ v.op.side,nQ iQ v.op.frm,nQ iQ v.op.to,sQ S v.op.s.length sc,sQ J v.ins.length ic,sQ A9 v.p.length c9] 85))=w6 at *;have Hm:=hJ;rw [←hp] at he Hm hs;have ha:=qfD (x:=(⟨v,S,sc,J,ic,A9,c9⟩:dG)) (vs:=vs) gc.out gb.out (C2:=wo.heap.size+2) oZ oZ he Hm hs hT.out ⟨⟨HX.out,H6⟩,⟨HW.out,H8⟩,HB.out⟩;rw [HL.out] at ha;have ha:dL 85 (w.heap.size+3) w7.heap.size w0 w7 (sQ A7 (L.length+1) c7) (n.o.take (k+1)):=by rw [HM.out];exact ha
     rw [hp] at ha;have hl:=He.out.grown hJ (λe=>by have:=hx.out _ e.symm;omega);have hZ:=Hj.out.grown hJ (λe=>by have:=hx.out _ e.symm;omega);have hQ:=Hd.out.grown hJ (λe=>by have:=hx.out _ e.symm;omega);rw [hp] at hl;have hW:Below w.heap.size w w7:=hA.grown hJ hA.size (λb hb=>by have:=hx.out b hb;omega);have z1':w7.cell? ⟨w.heap.size+2,1,none⟩=some (sQ A0 k c0):=by rw [hl.cell];rfl
     have f1':=hl.frozen 1;have h5:Fr (λb=>b=w.heap.size+2) w7 (w7.setCell ⟨w.heap.size+2,1,none⟩ (sQ A7 (k+1) c7)):=(Fr.refl (λb=>b=w.heap.size+2) w7).setCell (p:=⟨w.heap.size+2,1,none⟩) (λ_=>rfl) (sQ A7 (k+1) c7);have HP:=zI (ha.fr h5 (λb h1 h2 h3=>by omega));have H1:=zI (h5.blk hZ oZ);have H2:=zI (h5.blk hQ oZ);have h3:=hl.aO 1 (sQ A7 (k+1) c7);have H3:=zI (show Blk (w7.setCell ⟨w.heap.size+2,1,none⟩ (sQ A7 (k+1) c7)) (w.heap.size+2) 37 #[sQ A n.inn.length c,sQ A7 (k+1) c7] from h3);have H4:=zI (hW.setCell (p:=⟨w.heap.size+2,1,none⟩) sZ (sQ A7 (k+1) c7));clear he hJ Hm hs ha hl hZ hQ hW h5 h3 hp hA hh;go_wp2_with fail;go_roundw
     case rel=>exact ⟨k+1,by omega,by go_num,H1.out,H2.out,H4.out,_,H3.out,by simpa using HP.out⟩
     case measure=>simp [intOf];omega
  ·obtain rfl:k=n.o.length:=by omega
   rw [Zg] at hd;obtain ⟨N',d',rfl,H0,gh,-⟩:=hd.o (hl0.call hE);have Hy:Fr (λb=>b=w.heap.size+1) wr ((wr.setCell ⟨w.heap.size+1,0,none⟩ (sQ A n.inn.length c)).setCell ⟨w.heap.size+1,1,none⟩ (sQ N' n.o.length d')):=((Fr.refl (λb=>b=w.heap.size+1) wr).setCell (p:=⟨w.heap.size+1,0,none⟩) (λ_=>rfl) _).setCell (p:=⟨w.heap.size+1,1,none⟩) (λ_=>rfl) _;have Ha:Below w.heap.size w ((wr.setCell ⟨w.heap.size+1,0,none⟩ (sQ A n.inn.length c)).setCell ⟨w.heap.size+1,1,none⟩ (sQ N' n.o.length d')):=(hE.setCell (p:=⟨w.heap.size+1,0,none⟩) sZ _).setCell (p:=⟨w.heap.size+1,1,none⟩) sZ _;have HZ:=zI (hd.fr Hy (λb h1 h2 h3=>by omega));have z0:wr.cell? ⟨w.heap.size+2,0,none⟩=some (sQ A n.inn.length c):=by rw [ht.cell];rfl
   have z1:wr.cell? ⟨w.heap.size+2,1,none⟩=some (sQ N' n.o.length d'):=by rw [ht.cell];rfl
   have r0:wr.cell? ⟨w.heap.size+1,0,none⟩=some (sQ none 0 0):=by rw [hw.cell];rfl
   have r1:wr.cell? ⟨w.heap.size+1,1,none⟩=some (sQ none 0 0):=by rw [hw.cell];rfl
   have f0:=hw.frozen 0;have f1:=hw.frozen 1;clear Hy;obtain ⟨h7,h8,Hi,hF⟩:=zd4 h9 hw ht hd;clear h9 hw ht hd;go_wp2_with fail;exact Zk1 (v:=.agg #[sQ A n.inn.length c,sQ N' n.o.length d']) (by simp [results,results12,go_sem,r0,r1]) rfl ⟨N',d',_,rfl,H0,gh,Ha,HZ.out⟩
theorem qd2 (A N:Option Addr) (c d:Nat) (n:aA) (w:Zp1) (hok:n.ok) (hR:bC w A N n):
  Calls prog 12 #[.agg #[sQ A n.inn.length c,sQ N n.o.length d]] w (qie n A c w):=
 (ref_22s A N c d n w w hok (Later.refl _) hR).mono λ_ _ h=>h.netp hR
def dA (n:aA) (w:Zp1) (e:Ending) (w':Zp1):Prop:=
 Below w.heap.size w w'/\((Nt.check n=0/\∃g,e=.returned (.tuple #[sQ (some ⟨g,0,none⟩) (n.o.length+1) (n.o.length+1),nQ iQ (Nt.aH n.o),nQ iQ 0])/\w.heap.size<=g/\aX w' g 22 (Nt.shapes n))∨
  (Nt.check n≠0/\e=.returned (.tuple #[sQ none 0 0,nQ iQ 0,nQ iQ (Nt.check n)])))
theorem dA.err {n:aA} {w w':Zp1} {k:Int} (h:Nt.check n=k) (hk:k≠0) (hb:Below w.heap.size w w'):dA n w (.returned (.tuple #[sQ none 0 0,nQ iQ 0,nQ iQ k])) w':=
 ⟨hb,.inr (by rw [h];exact ⟨hk,rfl⟩)⟩
theorem aX.apart {w:Zp1} {g:Nat} {t:TypeId} {sh:List (List Int)} {S:Option Addr} {s:List Int} (h:aX w g t sh) (hI:Ints iQ w S s) (hs:0<s.length):∀a,S=some a->a.block≠g:=by
 intro a ha hg;obtain ⟨b,off,e,hl,hc⟩:=hI 0 hs;rw [ha] at e;injection e with e
 subst e;simp at hg;subst hg;obtain ⟨vs,hb,hk,hv⟩:=h;rw [Zx,hk.cell off] at hc
 by_cases ho:off<sh.length
 ·obtain ⟨S',c',e1,_⟩:=hv off ho
  simp at hc;rw [e1] at hc;simp at hc
 ·rw [Array.getElem?_eq_none soZ] at hc
  cases hc
theorem Nt.count_used (ns:List aS) (id:Int):(Nt.count ns id=0)↔Nt.isUsed ns id=false:=by
 unfold Nt.count Nt.isUsed;rw [List.length_eq_zero_iff,List.filter_eq_nil_iff,List.any_eq_false]
theorem qax (A N:Option Addr) (c d:Nat) (n:aA) (w:Zp1) (hok:n.ok) (hR:bC w A N n) (hd:n.o.length<=d) (hc:n.inn.length<=c) (hcm:c<=9223372036854775807):
  Calls prog 11 #[.agg #[sQ A n.inn.length c,sQ N n.o.length d]] w (dA n w):=by
 obtain ⟨i1,hj,Ge,Gb,Gh⟩:=info_parts qc0;have GI:=hok.2.1;have Gz:=hok.1;have hV:Below w.heap.size w (w.alloc (.cells #[sQ A n.inn.length c,sQ N n.o.length d] 37)):=(Ze1 _ _).alloc (lrZ _) _;have gj:=Blk.new w 37 #[sQ A n.inn.length c,sQ N n.o.length d];have ge:=hR.below hV (lrZ _)
 by_cases hQ:n.o.length<1∨512<n.o.length
 ·have HC:=zI (Nt.jO hQ)
  obtain ⟨HR,HD,gE,gf⟩:=zd4 hR hok ge gj;clear hR hok ge gj;rcases hQ with h|h
  ·have d1:decide ((n.o.length:Int)<1)=true:=by simp;omega
   go_in;go_wp2_with fail
   go_ret3
   exact dA.err HC.out oZ hV
  ·have d1:decide ((n.o.length:Int)<1)=false:=by simp;omega
   have d2:decide ((512:Int)<(n.o.length:Int))=true:=by simp;omega
   go_in;go_wp2_with fail
   go_ret3
   exact dA.err HC.out oZ hV
 ·have d1:decide ((n.o.length:Int)<1)=false:=by simp;omega
  have d2:decide ((512:Int)<(n.o.length:Int))=false:=by simp;omega
  have Gx:n.o.length<=512:=by omega
  have Gc:1<=n.o.length:=by omega
  obtain ⟨HR,HD,gE,gf,ho⟩:=zd5 hR hok ge gj hQ;clear hR hok ge gj hQ;go_in;go_wp2_with fail;have hx:=gf.out;generalize w.alloc (.cells #[sQ A n.inn.length c,sQ N n.o.length d] 37)=w1 at *;have he:=gf.out;refine (qaO A c n.inn _ oZ gE.out.1).mono ?_;rintro e w2 ⟨rfl,rfl⟩;have x1:w1.cell? ⟨w.heap.size,1,none⟩=some (sQ N n.o.length d):=by rw [he.cell];rfl
  clear d1 d2 hx
  by_cases H9:Sh.right n.inn=true
  rotate_left
  ·have Hk:Sh.right n.inn=false:=by simpa using H9
   have HC:=zI (Nt.sG ho.out Hk);rw [Hk];have hf:=zI he;clear he;clear H9 Hk;go_wp2_with fail
   go_ret3
   exact dA.err HC.out oZ hV
  ·have Ha:=zI H9
   rw [H9];have hf:=zI he;clear he;clear H9;go_wp2_with fail;clear x1 gE gf
   go_loopw [5] (λi wr=>∃k:Nat,k<=n.o.length/\i=nQ iQ k/\Blk wr w.heap.size 37 #[sQ A n.inn.length c,sQ N n.o.length d]/\Below w.heap.size w wr/\qdJ n k) (λi _=>n.o.length-(intOf i).toNat)
   case atStart=>exact ⟨0,Zt _,rfl,hf.out,hV,λj hj h=>by omega⟩
   case round=>
    clear hf hV;obtain ⟨k,hk,rfl,he,hK,hB⟩:=hrel;have Gr:=he.lt;have x1:wr.cell? ⟨w.heap.size,1,none⟩=some (sQ N n.o.length d):=by rw [he.cell];rfl
    by_cases hT:k<n.o.length
    ·obtain ⟨b,off,S,sc,J,ic,Q,qc,rfl,Hc,-,hI,-⟩:=HR.out.2.at_ hT
     have hJ:=HD.out.2.2 _ (gmZ hT);have HA:=λh=>Nt.uT (n:=n.o.length) hT hB h
     have H3:=λh m (hm:m<n.o[k].ins.length) h2=>Nt.uR (n:=n.o.length) hT hB h (m:=m) hm h2
     have Hd:Od.right n.o[k].op=true->n.o[k].ins.all (λi=>decide (0<=i/\i<=n.o.length))=true->qdJ n (k+1):=λh1 h2 j hj GL=>by
      by_cases e:j=k
      ·subst e;exact ⟨h1,h2⟩
      ·exact hB j hj oZ
     have Gz:=hJ.2.2.1;have Gs:=hJ.2.1;generalize n.o[k]=v at *;have Hq:=Hc.below hK;obtain ⟨⟨y0,y1,y2,y3,y4,y5,y6,y7,y8,y9⟩,-⟩:=Hc.below hK;have hh:=qff v.op S sc wr oZ;rw [Od.ref_right] at hh;obtain ⟨hf,GB,Gt,gk,gq,HX,g9,gC,hN⟩:=zd9 he Hc hJ HA H3 Hd Hq hB hh;clear he Hc hJ HA H3 Hd Hq hB hh;go_wp2_with fail;refine (hN.out).mono ?_;rintro e w2 ⟨rfl,Ht⟩;have hS:=hK.trans (Ht.mono hK.size);have hb:=hf.out.below Ht Gr;clear x1;have x1:w2.cell? ⟨w.heap.size,1,none⟩=some (sQ (some ⟨b,off,none⟩) n.o.length d):=by rw [hb.cell];rfl
     have Gq:=g9.out.below Ht;obtain ⟨⟨-,-,-,-,-,-,-,-,z8,-⟩,-,gi,-⟩:=Gq;clear y0 y1 y2 y3 y4 y5 y6 y7 y8 y9 hf hN
     by_cases HK:Od.right v.op=true
     rotate_left
     ·have Hj:Od.right v.op=false:=by simpa using HK
      have hc:=gk.out Hj;have HC:=zI ((Nt.jS ho.out Ha.out (by rw [hc];omega)).trans hc);rw [Hj];obtain ⟨hC,gX⟩:=zd2 hb gi;clear hb gi;clear HK hc Hj;go_wp2_with fail
      go_ret3
      exact dA.err HC.out oZ hS
     ·have gY:=zI HK
      rw [HK];obtain ⟨hC,gX⟩:=zd2 hb gi;clear hb gi;clear HK;go_wp2_with fail
      go_loopw [6] (λi wx=>∃m q:Nat,m<=v.ins.length/\i=nQ iQ m/\(∀j (hj:j<v.ins.length),j<m->0<=v.ins[j]/\v.ins[j]<=n.o.length)/\wx=w2.drewN q) (λi _=>v.ins.length-(intOf i).toNat)
      case atStart=>exact ⟨0,0,Zt _,rfl,(λj hj h=>by omega),rfl⟩
      case round=>
       obtain ⟨m,q,hm,rfl,hF,rfl⟩:=hrel
       by_cases HI:m<v.ins.length
       ·obtain ⟨b1,off1,rfl,-,hc⟩:=gX.out m HI
        rw [qa2 HI] at hc;have gv:=gq.out gY.out m HI
        have HW:(0<=v.ins[m]/\v.ins[m]<=n.o.length)->∀j (hj:j<v.ins.length),j<m+1->0<=v.ins[j]/\v.ins[j]<=n.o.length:=λh j hj GE=>by
         by_cases e:j=m
         ·subst e;exact h
         ·exact hF j hj oZ
        generalize v.ins[m]=u at *;have m0:(0:Int)<=(m:Int):=by omega
        have m1:(m:Int)<(v.ins.length:Int):=by omega
        have k0:(0:Int)<=(k:Int):=by omega
        have k1:(k:Int)<(n.o.length:Int):=by omega
        by_cases hu:0<=u/\u<=n.o.length
        ·have HN:=zI (HW hu)
         have e1:decide (u<0)=false:=by simp;omega
         have e2:decide ((n.o.length:Int)<u)=false:=by simp;omega
         clear hu gv;obtain ⟨GoX,HG⟩:=zd2 HW hF;clear HW hF;go_wp2_with fail
         go_quiet (fail)
         go_wp2_with fail;go_roundw
         case rel=>exact ⟨m+1,_,by omega,by go_num,HN.out,by first|rfl|exact World.drewN_drewN _ _ _⟩
         case measure=>simp [intOf];omega
        ·have gB:=gv hu
         have HC:=zI ((Nt.jS ho.out Ha.out (by rw [gB];omega)).trans gB);clear gB gv;obtain ⟨GoX,HG⟩:=zd2 HW hF;clear HW hF
         by_cases HM:u<0
         ·have e1:decide (u<0)=true:=by simpa using HM
          clear hu;go_wp2_with fail
          go_quiet (fail)
          go_wp2_with fail
          go_ret3
          exact dA.err HC.out oZ (by first|exact qdK hS _ _|exact qac hS _)
         ·have e1:decide (u<0)=false:=by simpa using HM
          have e2:decide ((n.o.length:Int)<u)=true:=by simp;omega
          clear hu;go_wp2_with fail
          go_quiet (fail)
          go_wp2_with fail
          go_ret3
          exact dA.err HC.out oZ (by first|exact qdK hS _ _|exact qac hS _)
       ·obtain rfl:m=v.ins.length:=by omega
        have HN:=zI (HX.out gY.out (List.all_eq_true.2 λi hi=>by obtain ⟨j,hj,rfl⟩:=List.getElem_of_mem hi;simpa using hF j hj hj));have HG:=zI hF;clear hF;go_wp2_with fail;go_roundw
        case rel=>exact ⟨k+1,by omega,by go_num,hC.out.drewN q,qac hS q,HN.out⟩
        case measure=>simp [intOf];omega
    ·obtain rfl:k=n.o.length:=by omega
     have hV:Nt.iN n.o.length n.o=0:=Nt.rD hB;have HH:∀v∈n.o,∀i∈v.ins,0<=i/\i<=n.o.length:=λv hv=>(Nt.fD hV v hv).2
     have H5:∀v∈n.o,Od.right v.op=true:=λv hv=>(Nt.fD hV v hv).1
     have x0:wr.cell? ⟨w.heap.size,0,none⟩=some (sQ A n.inn.length c):=by rw [he.cell];rfl
     obtain ⟨gC,hf,gc,gF,gu⟩:=zd5 hB he hV HH H5;clear hB he hV HH H5;go_wp2_with fail;refine (qbw A N c d n _ HD.out (HR.out.below hK (lrZ _))).mono ?_;rintro e w2 ⟨O,oc,rfl,hO,g1,Gw,Ht⟩;have hZ:=hK.trans (Ht.mono hK.size);have hb:=hf.out.below Ht hf.out.lt;have gx:w.heap.size<w2.heap.size:=hb.lt;clear x0 x1;have x0:w2.cell? ⟨w.heap.size,0,none⟩=some (sQ A n.inn.length c):=by rw [hb.cell];rfl
     have x1:w2.cell? ⟨w.heap.size,1,none⟩=some (sQ N n.o.length d):=by rw [hb.cell];rfl
     clear hf;have gG:(Nt.sO n.o).length<=n.o.length:=Kn.mF _ _
     by_cases hU:(Nt.sO n.o).length=n.o.length
     rotate_left
     ·have HC:=zI (Nt.qR ho.out Ha.out gc.out hU)
      have e1:decide (((Nt.sO n.o).length:Int)<(n.o.length:Int))=true:=by simp;omega
      have e2:decide ((Nt.sO n.o).length<n.o.length)=true:=by simp;omega
      generalize Nt.sO n.o=os at *;obtain ⟨hC,gw,HO⟩:=zd3 hb hU hO;clear hb hU hO;go_wp2_with fail
      go_ret3
      exact dA.err HC.out oZ hZ
     ·have hH:=λh5=>Nt.qM ho.out Ha.out gc.out hU h5
      have ht:=λh5 h6=>Nt.pG ho.out Ha.out gc.out hU h5 h6
      have hy:=λh5 h6=>Nt.oW ho.out Ha.out gc.out hU h5 h6
      have hw:=λh5:(Nt.lay n.o (Nt.start n) (Nt.sO n.o)).2=0=>Nt.kJ Ha.out (Nt.sO n.o).length (lrZ _) (by rw [Zg];exact h5)
      rw [Zg] at hw;have hX:∀u,u∈Nt.sO n.o↔1<=u/\u<=n.o.length:=Kn.bU (I:=Nt.iF n.o) (n:=n.o.length) hU;have Hw:(Nt.lay n.o (Nt.start n) (Nt.sO n.o)).1=Nt.shapes n:=rfl;have Hn:∀u∈Nt.sO n.o,1<=u/\u<=n.o.length:=Kn.dQ _ _;have Hi:∀a b u,Nt.sO n.o=a++u::b->∀i∈Nt.iF n.o u,i=0∨i∈a:=λa b u h=>Kn.fE _ _ h
      rw [hU];obtain ⟨os,hos⟩:∃os,Nt.sO n.o=os:=⟨_,rfl⟩
      have h0:∀k,k<=os.length->∀sh,Nt.lay n.o (Nt.start n) (os.take k)=(sh,0)->Nt.Good (os.take k) sh/\sh.length=n.o.length+1:=λk hk sh h=>by
       have:=qeg (n:=n) Ha.out (k:=k) (by rw [hos];exact hk) (sh:=sh) (by rw [hos];exact h);rw [hos] at this;exact this
      rw [hos] at hH ht hy hw hX Hw hO hU g1 gG Hn Hi;rw [hU] at g1
      have g2:∀a,A=some a->a.block<w.heap.size:=λa ha=>by
       obtain ⟨b,off,e,hl,-⟩:=HR.out.1 0 (qa9 Ha.out).1;rw [ha] at e;injection e with e;subst e;exact hl
      have H2:=HR.out.1.below hZ (lrZ _);have e1:iQ.wrap ((n.o.length:Int)+1)=((n.o.length+1:Nat):Int):=by rw [Zc1 _ oZ];omega
      obtain ⟨Hs,h8,h7,Ho,HJ,gm,gw,GD,HO⟩:=zd9 hH ht hy hw hX Hw hU hos hO;obtain ⟨hC,gl,gy,Hv,Gj,HE⟩:=zd6 hb Hn Hi h0 g2 H2;clear hH ht hy hw hX Hw hU hos hO hb Hn Hi h0 g2 H2;go_wp2_with (at_make;refine wpList_make_full _ rfl _ _ 32 rfl w2.heap.size 22 i1 (sQ none 0 0) 1 underlying32 hj Ge Gb _ _ _ _ (n.o.length+1) rfl rfl (by first|rfl|simp|(go_simp;rfl)) (by first|rfl|simp|(go_simp;rfl)) ?b2 ?b3 ?b4 ?_)
      case b2=>rw [Gh];omega
      case b3=>unfold maxLen;omega
      case b4=>exact lrZ _
      intro w3 hown hgrow;have Hh:=qau hown;rw [qao] at Hh;obtain ⟨g,hg⟩:∃g,w2.heap.size=g:=⟨_,rfl⟩
      have hq:aX w3 g 22 (Zc (n.o.length+1) []):=by rw [←hg];exact aX.new (by simpa [Blk] using Hh)
      have H7:Below w2.heap.size w2 w3:=(Ze1 _ w2).grown hgrow (lrZ _) sZ;have HZ:=hZ.trans (H7.mono hZ.size);have hE:=hC.out.below H7 gx;have h4:=hq.aO (i:=0) (HE.out.below H7 (lrZ _)) hc hcm (λa ha=>by have:=Gj.out a ha;omega);rw [show (Zc (n.o.length+1) ([]:List Int)).set 0 n.inn=Nt.start n from rfl] at h4;have Hf:=hE.far (p:=⟨g,0,none⟩) soZ (sQ A n.inn.length c);have HQ:=HZ.setCell (p:=⟨g,0,none⟩) soZ (sQ A n.inn.length c);have g3:=(HO.out.below H7 (lrZ _))
      obtain ⟨S0,c0,z0,-⟩:=hq.at_ (j:=0) sZ;have f0:w3.frozen? ⟨g,0,none⟩=false:=by obtain ⟨vs,_,hk,_⟩:=hq;exact hk.frozen 0
      have go:∀a,O=some a->a.block≠g:=λa ha=>by
       obtain ⟨b,off,e,hl,-⟩:=HO.out 0 (by have:=gw.out;omega);rw [ha] at e;injection e with e;subst e;simp;omega
      have g5:=g3.mK (p:=⟨g,0,none⟩) go (sQ A n.inn.length c);clear x0 x1;have x0:w3.cell? ⟨w.heap.size,0,none⟩=some (sQ A n.inn.length c):=by rw [hE.cell];rfl
      have x1:w3.cell? ⟨w.heap.size,1,none⟩=some (sQ N n.o.length d):=by rw [hE.cell];rfl
      rw [hg];have GJ:w.heap.size<g:=by omega
      have gr:¬w.heap.size=g:=by omega
      clear Hh hown hgrow hq g3 hZ Ht hK hg;obtain ⟨He,H6,Hb,gb,Gd⟩:=zd5 h4 hE Hf g5 go;clear h4 hE Hf g5 go;clear HO HE;go_wp2_with fail;clear z0 f0 x0 x1 H7 HZ
      go_loopw [9] (λi wr=>∃k:Nat,k<=os.length/\i=nQ iQ k/\Blk wr w.heap.size 37 #[sQ A n.inn.length c,sQ N n.o.length d]/\Below w.heap.size w wr/\Ints iQ wr O os/\∃sh,Nt.lay n.o (Nt.start n) (os.take k)=(sh,0)/\aX wr g 22 sh) (λi _=>os.length-(intOf i).toNat)
      case atStart=>exact ⟨0,Zt _,rfl,Hb.out,HQ,gb.out,Nt.start n,rfl,He.out⟩
      case round=>
       obtain ⟨k,hk,rfl,he,hK,hO,sh,hn,hq⟩:=hrel;clear He H6 Hb gb HQ;obtain ⟨hW,gJ⟩:=Hv.out k hk sh hn;have x1:wr.cell? ⟨w.heap.size,1,none⟩=some (sQ N n.o.length d):=by rw [he.cell];rfl
       have g0:=gw.out
       by_cases hT:k<os.length
       ·obtain ⟨b,off,rfl,-,hc⟩:=hO k hT
        rw [qa2 hT] at hc;have hr:=gl.out _ (gmZ hT);have hL:os=os.take k++os[k]::os.drop (k+1):=by rw [←Zd hT,Zn]
        have gn:=gy.out _ _ _ hL;obtain ⟨j,hj'⟩:∃j:Nat,os[k]=(j:Int)+1:=⟨(os[k]-1).toNat,by omega⟩
        have Hx:j<n.o.length:=by omega
        have hs:=λh:(Nt.bP n.o sh os[k]).2=0=>Nt.pM (id:=os[k]) hn h
        have hP:=λh:(Nt.bP n.o sh os[k]).2≠0=>Nt.sW (b:=os.drop (k+1)) (id:=os[k]) hn h
        rw [←Zb hT] at hs;rw [←hL] at hP;have g4:Nt.bP n.o sh os[k]=Od.shape n.o[j].op n.o[j].p (Nt.pick sh n.o[j].ins):=by unfold Nt.bP;rw [hj',Nt.dI Hx]
        have gW:Nt.iF n.o os[k]=n.o[j].ins:=by unfold Nt.iF;rw [hj',Nt.dI Hx]
        rw [g4] at hs hP;rw [gW] at gn;rw [hj'] at hc hs;rw [show ((j:Int)+1).toNat=j+1 by omega] at hs;have hJ:=HD.out.2.2 _ (gmZ Hx);have gV:=gu.out _ (gmZ Hx);have Hu:=gF.out _ (gmZ Hx);obtain ⟨b1,off1,S,sc,J,ic,Q,qc,rfl,Hc,gH,GH,GC⟩:=HR.out.2.at_ Hx;have g8:∀i∈n.o[j].ins,0<=i/\i.toNat<sh.length/\Sh.right (sh.getD i.toNat [])=true:=λi hi=>⟨(Hu i hi).1,by have:=Hu i hi;omega,hW i (gn i hi)⟩
        generalize n.o[j]=v at *;have Hq:=Hc.below hK;obtain ⟨⟨y0,y1,y2,y3,y4,y5,y6,y7,y8,y9⟩,-⟩:=Hc.below hK;have j1:iQ.wrap ((j:Int)+1-1)=(j:Int):=by rw [Zc1 _ oZ];omega
        have j2:(j:Int)<n.o.length:=by omega
        have j0:(0:Int)<=(j:Int):=by omega
        have k0:(0:Int)<=(k:Int):=by omega
        have k1:(k:Int)<(n.o.length:Int):=by omega
        have j4:(0:Int)<=(j:Int)+1:=by omega
        have j5:iQ.wrap (j:Int)=(j:Int):=Zc1 _ oZ
        have hh:∀W:Zp1,Ints iQ W S v.op.s->Ints iQ W J v.ins->bQ W Q v.p->bQ W (some ⟨g,0,none⟩) sh->Calls prog 32 #[.agg #[nQ iQ v.op.kind,nQ iQ v.op.k,nQ iQ v.op.width,nQ iQ v.op.step,nQ iQ v.op.side,nQ iQ v.op.frm,nQ iQ v.op.to,sQ S v.op.s.length sc,sQ J v.ins.length ic,sQ Q v.p.length qc],sQ (some ⟨g,0,none⟩) (n.o.length+1) (n.o.length+1)] W (dJ (Od.shape v.op v.p (Nt.pick sh v.ins)) W):=λW q1 q2 q3 q4=>by
         rw [←gJ];exact qfh v S J Q sc ic qc g sh.length sh W hJ gV gH.1 gH.2 q1 q2 q3 q4 g8
        have HB:=λh:(Od.shape v.op v.p (Nt.pick sh v.ins)).2=0=>qa9 (Od.aV h)
        generalize Od.shape v.op v.p (Nt.pick sh v.ins)=r at *;have Hp:=hh;have F1:=zI Hq.2.1;have F2:=zI Hq.2.2.1;have F3:=zI Hq.2.2.2;have F4:=zI hq.qG;obtain ⟨gZ,HT⟩:=zd2 hh HB;have HL:=zI hs;have GA:=zI hP;clear hh Hp HB hs hP Hq Hc g8 Hu hJ gV g4 gW gn hL hj' hW;obtain ⟨hf,HO,gA,Hr⟩:=zd4 he hO hn hq;clear he hO hn hq;have kn:k<n.o.length:=by omega
        go_wp2_with fail
        go_region_held3 (λw'=>w'.cell? ⟨w.heap.size,1,none⟩=some (sQ (some ⟨b1,off1,none⟩) n.o.length d)/\w'.cell? ⟨b,off+k,none⟩=some (nQ iQ ((j:Int)+1))/\w'.cell? ⟨b1,off1+j*10,none⟩=some (nQ iQ v.op.kind)/\w'.cell? ⟨b1,off1+j*10+1,none⟩=some (nQ iQ v.op.k)/\w'.cell? ⟨b1,off1+j*10+2,none⟩=some (nQ iQ v.op.width)/\w'.cell? ⟨b1,off1+j*10+3,none⟩=some (nQ iQ v.op.step)/\w'.cell? ⟨b1,off1+j*10+4,none⟩=some (nQ iQ v.op.side)/\w'.cell? ⟨b1,off1+j*10+5,none⟩=some (nQ iQ v.op.frm)/\w'.cell? ⟨b1,off1+j*10+6,none⟩=some (nQ iQ v.op.to)/\w'.cell? ⟨b1,off1+j*10+7,none⟩=some (sQ S v.op.s.length sc)/\w'.cell? ⟨b1,off1+j*10+8,none⟩=some (sQ J v.ins.length ic)/\w'.cell? ⟨b1,off1+j*10+9,none⟩=some (sQ Q v.p.length qc)) (first|go_keep|(exact ⟨qa1 hA x1,qa1 hA hc,qa1 hA y0,qa1 hA y1,qa1 hA y2,qa1 hA y3,qa1 hA y4,qa1 hA y5,qa1 hA y6,qa1 hA y7,qa1 hA y8,qa1 hA y9⟩))
         ((go_at_call 32;refine (gZ.out _ (by exact F1.out) (by exact F2.out) (by exact F3.out) (by exact F4.out)).mono ?_;rintro e w9 ⟨S9,c9,rfl,Hz,Gl,Gv,hA⟩))
        have HY:Below wr.heap.size wr w9:=⟨hA.os,hA.tape,hA.output,hA.size,hA.block⟩
        have H1:=hK.trans (HY.mono hK.size);clear y0 y1 y2 y3 y4 y5 y6 y7 y8 y9 hA x1 gZ F1 F2 F3 F4
        by_cases h9:r.2=0
        ·have q1:(r.2 != 0)=false:=by simp [h9]
         have hG:=Hr.out.below HY (lrZ _);have Hg:=hf.out.below HY hf.out.lt;have gU:=HO.out.below HY (lrZ _);have GK:=qa1 HY hc;have Gg:j+1<sh.length:=by omega
         obtain ⟨Sm,cm,ym,-⟩:=hG.at_ Gg;have fm:w9.frozen? ⟨g,j+1,none⟩=false:=by obtain ⟨vs,_,hk,_⟩:=hG;exact hk.frozen (j+1)
         have H4:=hG.aO (i:=j+1) Hz Gl Gv (hG.apart Hz (HT.out h9).1);have HS:=zI H4;have Gm:=zI (Hg.far (p:=⟨g,j+1,none⟩) gr (sQ S9 r.1.length c9));have gK:=H1.setCell (p:=⟨g,j+1,none⟩) soZ (sQ S9 r.1.length c9);have gb:=zI (gU.mK (p:=⟨g,j+1,none⟩) Gd.out (sQ S9 r.1.length c9));have Gn:=zI (HL.out h9);have j3:((j:Int)+1)<((n.o.length+1:Nat):Int):=by omega
         have j6:((j:Int)+1).toNat=j+1:=by omega
         clear H4 hG Hg gU h9 hc;have Ga:=zI Hz;clear Hz;go_wp2_with fail;go_roundw
         case rel=>exact ⟨k+1,by omega,by go_num,Gm.out,gK,gb.out,_,Gn.out,HS.out⟩
         case measure=>simp [intOf];omega
        ·have q1:(r.2 != 0)=true:=by simp [h9]
         have gD:=Hs.out;rw [GA.out h9] at gD;have HC:=zI (gD h9);obtain ⟨Gy,Ga⟩:=zd2 h9 Hz;clear Hz;clear h9 gD;go_wp2_with fail
         go_ret3
         exact dA.err HC.out Gy.out H1
       ·obtain rfl:k=os.length:=by omega
        rw [Zg] at hn;have gO:=λh6=>h8.out (by rw [hn]) h6
        have gQ:=λh6=>h7.out (by rw [hn]) h6
        have HP:=Ho.out (by rw [hn]);have gh:=gm.out;rw [hn] at HP gh;have gh:sh=Nt.shapes n:=gh;subst gh;have HP:Nt.Good os (Nt.shapes n):=HP;have i2:¬((os.length:Int)<(n.o.length:Int)):=by omega
        have i3:¬(os.length<n.o.length):=by omega
        clear hW hk hT;obtain ⟨gT,Gk,Gf,gA,Hr,hf,HO⟩:=zd7 gO gQ HP hn hq he hO;clear gO gQ HP hn hq he hO;have GF:=zI g0;clear g0;go_wp2_with fail;clear x1;obtain ⟨w5,rfl⟩:∃w5,w5=wr:=⟨wr,rfl⟩
        go_loopw [12,13,14] (λl m i wx=>∃k:Nat,k<=n.o.length+1/\i=nQ iQ k/\l=nQ iQ ((Nt.dF n.o k).getLastD 0)/\m=nQ iQ ((Nt.dF n.o k).length:Nat)/\Below w5.heap.size w5 wx) (λ_ _ i _=>n.o.length+1-(intOf i).toNat)
        case atStart=>exact ⟨0,Zt _,rfl,rfl,rfl,Ze1 _ _⟩
        case round=>
         obtain ⟨k,hk,rfl,rfl,rfl,HF⟩:=hrel;have hM:=hf.out.below HF hf.out.lt;have hY:=hK.trans (HF.mono hK.size);have x0:wr.cell? ⟨w.heap.size,0,none⟩=some (sQ A n.inn.length c):=by rw [hM.cell];rfl
         have x1:wr.cell? ⟨w.heap.size,1,none⟩=some (sQ N n.o.length d):=by rw [hM.cell];rfl
         have gP:=Nt.nE n.o k
         by_cases hT:k<=n.o.length
         ·have HS:=zI (Nt.lH n.o k)
          obtain ⟨L0,hL0⟩:∃L0,(Nt.dF n.o k).getLastD 0=L0:=⟨_,rfl⟩
          obtain ⟨c0,hc0⟩:∃c0,(Nt.dF n.o k).length=c0:=⟨_,rfl⟩
          rw [hc0] at gP;rw [hL0,hc0];have gN:=Nt.count_used n.o (k:Int);have hh:=qfd A N c d n (k:Int) wr HD.out (HR.out.below hY (lrZ _));generalize Nt.count n.o (k:Int)=cn at *;obtain ⟨Gi,gR,g6,hN,g7⟩:=zd5 hL0 hc0 gN hh hM;clear hL0 hc0 gN hh hM;go_wp2_with fail;refine (hN.out).mono ?_;rintro e w6 ⟨rfl,Gu⟩;have HV:=HF.trans (Gu.mono HF.size);clear x0 x1
          by_cases hz:cn=0
          ·have HU:=zI (g6.out.1 hz)
           have e1:((cn:Int)==0)=true:=by simp [hz]
           have e2:(cn==0)=true:=by simp [hz]
           subst hz;go_wp2_with fail;go_roundw
           case rel=>exact ⟨k+1,by omega,by go_num,by rw [HS.out,HU.out];simp,by rw [HS.out,HU.out,inZ sZ,Ze,gR.out];go_num,HV⟩
           case measure=>simp [intOf];omega
          ·have HU:=zI (show Nt.isUsed n.o (k:Int)=true by
            cases h:Nt.isUsed n.o (k:Int)
            ·exact absurd (g6.out.2 h) hz
            ·rfl)
           have e1:((cn:Int)==0)=false:=by simp;omega
           have e2:(cn==0)=false:=by simp;omega
           clear hz;go_wp2_with fail;go_roundw
           case rel=>exact ⟨k+1,by omega,by go_num,by rw [HS.out,HU.out,ipZ rfl,Gi.out],by rw [HS.out,HU.out,ipZ rfl,gR.out],HV⟩
           case measure=>simp [intOf];omega
         ·obtain rfl:k=n.o.length+1:=by omega
          rw [Nt.jL];have i4:¬(((n.o.length+1:Nat):Int)<=(n.o.length:Int)):=by omega
          have gL:(Nt.unused n.o).getLastD 0=Nt.aH n.o:=rfl;rw [gL];have hD:Nt.fQ n.o=decide ((Nt.unused n.o).length=1/\Nt.aH n.o≠0):=rfl;rw [Nt.jL] at gP;clear gL
          by_cases Hm:(Nt.unused n.o).length=1
          rotate_left
          ·have HC:=zI (gT.out (by rw [hD];simp [Hm]))
           have e1:(((Nt.unused n.o).length:Int) != 1)=true:=by rw [bne_iff_ne];omega
           have e2:((Nt.unused n.o).length != 1)=true:=by rw [bne_iff_ne];omega
           generalize (Nt.unused n.o).length=ul at *;have gI:=zI hD;clear hD;clear Hm;go_wp2_with fail
           go_ret3
           exact dA.err HC.out oZ hY
          ·by_cases Hy:Nt.aH n.o=0
           ·have HC:=zI (gT.out (by rw [hD];simp [Hy]))
            rw [Hm,Hy];clear Hm Hy hD;go_wp2_with fail
            go_ret3
            exact dA.err HC.out oZ hY
           ·have gd:Nt.fQ n.o=true:=by rw [hD];simp [Hm,Hy]
            have HI:=(Nt.dD gd).2;have H0:=Gk.out gd;obtain ⟨l,hl⟩:∃l:Nat,Nt.aH n.o=(l:Int):=⟨(Nt.aH n.o).toNat,by omega⟩
            have Hl:=zI hl;rw [Hm];rw [hl] at HI H0 Hy ⊢;rw [tnZ] at H0;have gt:l<(Nt.shapes n).length:=by omega
            have gg:=Gf.out (l:Int) (.inr ((HJ.out _).2 oZ));rw [tnZ,qad gt] at gg;rw [qad gt] at H0;have h3:=Hr.out.below HF (lrZ _);obtain ⟨Sl,sc,GP,gp,gH,GM,-⟩:=h3.at_ gt;have gM:=qal Sl sc _ wr gg gp;have e1:((l:Int)==0)=false:=by simp;omega
            have e1':(l==0)=false:=by simp;omega
            have l0:(0:Int)<=(l:Int):=by omega
            have l1:(l:Int)<((n.o.length+1:Nat):Int):=by omega
            generalize (Nt.shapes n)[l]=s at *;obtain ⟨H8,gS,Hl,Gp,GO,GG,GN,gI⟩:=zd8 h3 H0 hl gM gp gg gd hD;clear h3 H0 hl gM gp gg gd hD;clear Hm Hy;go_wp2_with fail;refine (Gp.out).mono ?_;rintro e w7 ⟨rfl,rfl⟩
            by_cases hp:Safe.prod s=1
            ·have HC:=zI (show Nt.check n=0 by rw [gS.out,inZ (by simp [hp])])
             have e2:(Safe.prod s != 1)=false:=by simp [hp]
             clear hp;go_wp2_with fail
             go_ret3
             exact ⟨hY,.inl ⟨HC.out,g,by rw [Hl.out];rfl,by omega,H8.out⟩⟩
            ·have HC:=zI (show Nt.check n=23 by rw [gS.out,ipZ hp])
             have e2:(Safe.prod s != 1)=true:=by simp [hp]
             clear hp;go_wp2_with fail
             go_ret3
             exact dA.err HC.out oZ hY
namespace Ch
theorem qif {n m:Nat} (h:m<n) (x:Int):(Zc n x).getD m 0=x:=by simp [h]
theorem qig (c:C) (l r m:Nat) (h:m<len c l):(one c l r (len c l)).getD m 0=if single c l r<=(m:Int) then own c r else inf:=by
 unfold one;rw [oV _ _ _ _ _ (by simpa using h),qif h]
 by_cases e:single c l r<=(m:Int)
 ·rw [ipZ ⟨e,h⟩,ipZ e]
 ·rw [inZ (λq=>e q.1),inZ e]
theorem qeY (c:C) (R:Nat->Nat->List Int) (l r m:Nat) (h:m<len c l):(fold c R l r 0).2.2.getD m 0=inf:=qif h _
def nd (c:C) (l r:Nat):Nat->Int
 | 0=>0
 | j+1=>max (nd c l r j) (step c l r (l+1+j))
theorem qdW (c:C) (R:Nat->Nat->List Int) (l r:Nat):∀j,(fold c R l r j).1=nd c l r j
 | 0=>rfl
 | j+1=>by
  rw [show (fold c R l r (j+1)).1=max (fold c R l r j).1 (step c l r (l+1+j)) from rfl,qdW c R l r j]
  rfl
def cs (c:C) (l:Nat):Nat->Int
 | 0=>0
 | j+1=>cs c l j+c.cost.getD (l+j) 0
theorem qdX (c:C) (R:Nat->Nat->List Int) (l r:Nat):∀j,(fold c R l r j).2.1=cs c l j
 | 0=>rfl
 | j+1=>by
  rw [show (fold c R l r (j+1)).2.1=(fold c R l r j).2.1+c.cost.getD (l+j) 0 from rfl,qdX c R l r j]
  rfl
theorem nd_W {c:C} (h:Ok c) {l r:Nat} (hr:r<=c.n) {j:Nat} (hj:l+1+j<r):W c (l+1+j)<=nd c l r (j+1):=by
 have:=lC h (Rw c) (l:=l) hr j hj
 rwa [qdW] at this
theorem right_lt {c:C} {l k m:Nat} (hk:1<=k) (h0:0<=kept c l) (hm:m<len c l) (hw:W c k<=(m:Int)):((m:Int)-W c k).toNat<len c k:=by
 have ha:(m:Int)<(len c l:Nat):=by omega
 unfold len at ha ⊢;rw [show kept c k=W c k from inZ oZ];omega
theorem fold_at (c:C) (l r m:Nat) (hm:m<len c l) (j:Nat):
  (fold c (Rw c) l r (j+1)).2.2.getD m 0=if nd c l r (j+1)<=(m:Int) then min ((fold c (Rw c) l r j).2.2.getD m 0) (cs c l (j+1)+(Rw c (l+1+j) r).getD ((m:Int)-W c (l+1+j)).toNat 0+(Rw c l (l+1+j)).getD m 0) else (fold c (Rw c) l r j).2.2.getD m 0:=by
 rw [qbK c (Rw c) l r m hm j,qdW,qdX]
 rfl
theorem qih {c:C} (h:Ok c) {B:Int} (hB:∀k,c.cost.getD k 0<=B) (hB0:0<=B):∀(f l r m:Nat),l<r->r<=c.n->r-l<=f->m<len c l->(Rw c l r).getD m 0<inf->(Rw c l r).getD m 0<=((r-l:Nat):Int)*((r-l:Nat):Int)*B
 | 0,l,r,_,h1,_,h3,_,_=>absurd h3 oZ
 | f+1,l,r,m,h1,h2,h3,h4,h5=>by
  by_cases e:r=l+1
  ·subst e
   rw [rM,qig _ _ _ _ h4] at h5 ⊢;have hb:=hB (l+1-1);rw [show l+1-l=1 by omega]
   split at h5
   ·rename_i hs
    rw [ipZ hs];unfold own
    split<;>simp only [Int.natCast_one,Int.one_mul]<;>omega
   ·omega
  ·rw [mR c l r oZ] at h5 ⊢
   have hk:=iE h (l:=l) oZ
   have hc:∀j,cs c l j<=(j:Int)*B:=λj=>by
    induction j with
    | zero=>simp [cs]
    | succ j ih=>
     unfold cs;have:=hB (l+j);rw [Int.natCast_succ,Int.add_mul,Int.one_mul];omega
   have key:∀j,l+1+j<=r->(fold c (Rw c) l r j).2.2.getD m 0<inf->(fold c (Rw c) l r j).2.2.getD m 0<=((r-l:Nat):Int)*((r-l:Nat):Int)*B:=λj=>by
    induction j with
    | zero=>intro _ hf;rw [qeY _ _ _ _ _ h4] at hf;omega
    | succ j ih=>
     intro hj hf;rw [fold_at c l r m h4] at hf ⊢
     by_cases hx:nd c l r (j+1)<=(m:Int)
     ·rw [ipZ hx] at hf ⊢
      by_cases hy:(fold c (Rw c) l r j).2.2.getD m 0<inf
      ·have:=ih oZ hy
       omega
      ·have hw:=nd_W h (l:=l) h2 (j:=j) oZ
       have a1:=dO (fV h (l:=l+1+j) (r:=r) h2) ((m:Int)-W c (l+1+j)).toNat;have a2:=dO (fV h (l:=l) (r:=l+1+j) oZ) m
       have a3:0<=cs c l (j+1):=by
        have:=(jG h (Rw c) (l:=l) h2 (j+1) oZ).2.2.1
        rwa [qdX] at this
       have b1:=qih h hB hB0 f (l+1+j) r ((m:Int)-W c (l+1+j)).toNat oZ h2 oZ (right_lt oZ hk.1 h4 oZ) oZ;have b2:=qih h hB hB0 f l (l+1+j) m oZ oZ oZ h4 oZ;have b3:=hc (j+1);obtain ⟨a,ha⟩:∃a:Nat,r-(l+1+j)=a+1:=⟨r-(l+1+j)-1,by omega⟩
       have hs:((r-l:Nat):Int)=((j+1:Nat):Int)+((a+1:Nat):Int):=by omega
       have hl:l+1+j-l=j+1:=by omega
       rw [ha] at b1;rw [hl] at b2;rw [hs];clear hs hl ha
       have e1:(((j+1:Nat):Int)+((a+1:Nat):Int))*(((j+1:Nat):Int)+((a+1:Nat):Int))*B=
        ((j+1:Nat):Int)*B+((a+1:Nat):Int)*((a+1:Nat):Int)*B+((j+1:Nat):Int)*((j+1:Nat):Int)*B+(((j+1:Nat):Int)*(2*((a+1:Nat):Int)-1))*B:=by
        generalize ((j+1:Nat):Int)=x;generalize ((a+1:Nat):Int)=y;rw [←Int.add_mul,←Int.add_mul,←Int.add_mul]
        congr 1
        rw [Int.add_mul,Int.mul_add,Int.mul_add,Int.mul_sub,Int.mul_one,Int.mul_comm y x,show x*(2*y)=2*(x*y) from Int.mul_left_comm _ _ _];omega
       have e2:0<=(((j+1:Nat):Int)*(2*((a+1:Nat):Int)-1))*B:=Int.mul_nonneg (Int.mul_nonneg oZ oZ) hB0;omega
     ·rw [inZ hx] at hf ⊢
      exact ih oZ hf
   exact key _ oZ h5
def vT (c:C) (N:Nat->Nat->Int) (l r:Nat):Nat->Int
 | 0=>inf
 | j+1=>min (vT c N l r j) (max (nd c l r (j+1)) (max (W c (l+1+j)+N (l+1+j) r) (N l (l+1+j))))
def vY (c:C):Nat->Nat->Nat->Int
 | 0,_,_=>0
 | f+1,l,r=>if r=l+1 then single c l r else vT c (vY c f) l r (r-l-1)
def need (c:C) (l r:Nat):Int:=vY c (r-l) l r
theorem best_eq {c:C} (h:Ok c) {l r m:Nat} (hr:r<=c.n) (hlr:l+1<r) (hm:m<len c l) (hf:(Rw c l r).getD m 0<inf):
  ∃i,i<r-l-1/\best c l r m=l+1+i/\nd c l r (i+1)<=(m:Int)/\cs c l (i+1)+(Rw c (l+1+i) r).getD ((m:Int)-W c (l+1+i)).toNat 0+(Rw c l (l+1+i)).getD m 0=(Rw c l r).getD m 0:=by
 have he:=mR c l r hlr;obtain ⟨i,hi,h1,h2,h3⟩:=qfl c l r m hm ((Rw c l r).getD m 0) (r-l-1) 0 oZ (by rw [he]) (by rw [qeY _ _ _ _ _ hm];exact hf);rw [qdW] at h2;rw [qdX] at h3;exact ⟨i,hi,h1,h2,h3⟩
end Ch
namespace Ck
theorem uL {n:aA} {ps:List (Int × Int)} {cap:Int} (h:(run n ps cap).2=0):0<=cap:=by
 unfold run at h
 split at h
 ·rename_i h0;exact absurd h h0
 rename_i h0;have h0:Nt.check n=0:=by simpa using h0
 split at h
 ·rename_i h1;exact absurd h h1
 split at h
 ·rename_i h2;exact absurd h h2
 rename_i h2
 split at h
 ·simp at h
 rename_i h3
 match ps with
 | []=>simp [go,whole,start] at h3
 | i::r=>
  have h2:(go (base n cap) (start (n.o.length+1)) (i::r)).2=0:=by simpa using h2
  simp only [go] at h2
  split at h2
  ·rename_i hd
   unfold do_ at hd
   split at hd
   ·simp at hd
   ·split at hd
    ·simp at hd
    ·split at hd
     ·simp at hd
     ·rename_i hc
      have hm:=qg8 (c:=base n cap) (λz hz=>by have:=(Nt.iA h0 z hz).1;omega) (start (n.o.length+1)) i.1 i.2;have:(start (n.o.length+1)).now=0:=rfl;have:(base n cap).cap=cap:=rfl;omega
  ·rename_i hd;exact absurd h2 hd
end Ck
namespace Gr
theorem oP {n:aA} {p cap:Int} (h:(aM n p cap).2=0):Nt.check n=0/\(aM n p cap).1.pl=p/\(bF n p cap).2=0/\(aM n p cap).1.code=(bF n p cap).1/\0<=cap/\
  (aM n p cap).1.pk<=cap/\Ck.run n (aM n p cap).1.code cap=(((aM n p cap).1.pk,(aM n p cap).1.co,(aM n p cap).1.ag,(aM n p cap).1.hi),0):=by
 unfold aM at h
 split at h
 ·rename_i h0;exact absurd h h0
 rename_i h0
 split at h
 ·rename_i h1;exact absurd h h1
 rename_i h1
 split at h
 ·simp at h
 rename_i h2
 have e:aM n p cap=(⟨p,(bF n p cap).1,(Ck.run n (bF n p cap).1 cap).1.1,(Ck.run n (bF n p cap).1 cap).1.2.1,(Ck.run n (bF n p cap).1 cap).1.2.2.1,(Ck.run n (bF n p cap).1 cap).1.2.2.2⟩,0):=by
  unfold aM;rw [inZ h0,inZ h1,inZ h2]
 have h2:(Ck.run n (bF n p cap).1 cap).2=0:=by simpa using h2
 have hc:=Ck.uL h2;rw [e];refine ⟨by simpa using h0,rfl,by simpa using h1,rfl,hc,(Ck.pR hc h2).1,?_⟩
 show Ck.run n (bF n p cap).1 cap=_
 rw [←h2]
theorem make_bad {n:aA} {p cap:Int} (h:(aM n p cap).2≠0):(aM n p cap).1=fK:=by
 unfold aM at h ⊢
 split
 ·rfl
 ·split
  ·rfl
  ·split
   ·rfl
   ·rename_i h0 h1 h2
    rw [inZ h0,inZ h1,inZ h2] at h;exact absurd rfl h
theorem qgf (n:aA) (cap:Int):∀k:Nat,((∀i:Nat,i<k->(aM n ((i:Int)+1) cap).2≠0)/\bL n cap k=fK)∨
  ∃j:Nat,j<k/\aM n ((j:Int)+1) cap=(bL n cap k,0)/\∀i:Nat,i<k->(aM n ((i:Int)+1) cap).2=0->(bL n cap k).co<=(aM n ((i:Int)+1) cap).1.co/\(i<j->(bL n cap k).co<(aM n ((i:Int)+1) cap).1.co)
 | 0=>.inl ⟨λi h=>absurd h oZ,rfl⟩
 | k+1=>by
  have ih:=qgf n cap k;have ha:bL n cap (k+1)=better n cap (bL n cap k) ((k:Int)+1):=rfl;unfold better at ha
  by_cases hm:(aM n ((k:Int)+1) cap).2=0
  ·rw [inZ (by simp [hm])] at ha
   have he:=(oP hm).2.1;have hb:aM n ((k:Int)+1) cap=((aM n ((k:Int)+1) cap).1,0):=by rw [←hm]
   rcases ih with ⟨i1,i2⟩|⟨j,hj,i1,i2⟩
   ·rw [i2] at ha
    rw [ipZ (.inl rfl)] at ha;refine .inr ⟨k,by omega,by rw [ha];exact hb,λi hi h0=>?_⟩;rcases Nat.lt_or_ge i k with h|h
    ·exact absurd h0 (i1 i h)
    ·obtain rfl:i=k:=by omega
     rw [ha];exact ⟨Int.le_refl _,λh=>absurd h oZ⟩
   ·have hd:(bL n cap k).pl≠0:=by
     have h1:=(oP (n:=n) (p:=(j:Int)+1) (cap:=cap) (by rw [i1])).2.1;rw [i1] at h1;simp only at h1;omega
    by_cases hc:(aM n ((k:Int)+1) cap).1.co<(bL n cap k).co
    ·rw [ipZ (.inr hc)] at ha
     refine .inr ⟨k,by omega,by rw [ha];exact hb,λi hi h0=>?_⟩;rw [ha];rcases Nat.lt_or_ge i k with h|h
     ·have:=(i2 i h h0).1
      exact ⟨by omega,λ_=>by omega⟩
     ·obtain rfl:i=k:=by omega
      exact ⟨Int.le_refl _,λh=>absurd h oZ⟩
    ·rw [inZ (by simp [hd,hc])] at ha
     refine .inr ⟨j,by omega,by rw [ha];exact i1,λi hi h0=>?_⟩;rw [ha];rcases Nat.lt_or_ge i k with h|h
     ·exact i2 i h h0
     ·obtain rfl:i=k:=by omega
      exact ⟨by omega,λh=>absurd h oZ⟩
  ·rw [ipZ (by simpa using hm)] at ha
   rcases ih with ⟨i1,i2⟩|⟨j,hj,i1,i2⟩
   ·refine .inl ⟨λi hi=>?_,by rw [ha];exact i2⟩
    rcases Nat.lt_or_ge i k with h|h
    ·exact i1 i h
    ·obtain rfl:i=k:=by omega
     exact hm
   ·refine .inr ⟨j,by omega,by rw [ha];exact i1,λi hi h0=>?_⟩
    rw [ha];rcases Nat.lt_or_ge i k with h|h
    ·exact i2 i h h0
    ·obtain rfl:i=k:=by omega
     exact absurd h0 hm
theorem mM {n:aA} (h:Nt.check n=0) (cap:Int):
  ((∀i:Nat,i<4->(aM n ((i:Int)+1) cap).2≠0)/\dM n cap=(fK,26))∨
  (dM n cap).2=0/\∃j:Nat,j<4/\aM n ((j:Int)+1) cap=((dM n cap).1,0)/\(dM n cap).1.pl=(j:Int)+1/\(dM n cap).1.pk<=cap/\
   Ck.run n (dM n cap).1.code cap=(((dM n cap).1.pk,(dM n cap).1.co,(dM n cap).1.ag,(dM n cap).1.hi),0)/\
   ∀i:Nat,i<4->(aM n ((i:Int)+1) cap).2=0->¬(aM n ((i:Int)+1) cap).1.co<(dM n cap).1.co/\((aM n ((i:Int)+1) cap).1.co=(dM n cap).1.co->¬(i:Int)+1<(dM n cap).1.pl)/\((i:Int)+1=(dM n cap).1.pl->(dM n cap).1.code=(aM n ((i:Int)+1) cap).1.code):=by
 have hb:dM n cap=if (bL n cap 4).pl=0 then (fK,26) else (bL n cap 4,0):=by unfold dM;rw [inZ (by simp [h])]
 rcases qgf n cap 4 with ⟨i1,i2⟩|⟨j,hj,i1,i2⟩
 ·rw [i2] at hb
  exact .inl ⟨i1,hb.trans (ipZ rfl)⟩
 ·obtain ⟨-,h1,-,-,-,h5,h6⟩:=oP (n:=n) (p:=(j:Int)+1) (cap:=cap) (by rw [i1])
  rw [i1] at h1 h5 h6;simp only at h1 h5 h6;rw [inZ oZ] at hb;rw [hb];refine .inr ⟨rfl,j,hj,i1,h1,h5,h6,λi hi h0=>?_⟩;obtain ⟨a1,a2⟩:=i2 i hi h0;refine ⟨by simp only;omega,λhe ha=>?_,λhe=>?_⟩
  ·simp only at he ha
   have:=a2 oZ;omega
  ·simp only at he ⊢
   obtain rfl:i=j:=by omega
   rw [i1]
end Gr
end Go.Proofs.YtddkenhemnkkeaaGreat
