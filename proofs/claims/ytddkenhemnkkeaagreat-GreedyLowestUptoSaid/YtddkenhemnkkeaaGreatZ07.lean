/- Lemmas for the statements of this seat: contracts of functions and the plain laws. -/
import Derived.Deep.AppendLies
import Derived.Deep.DeepCutAuto
import Derived.Deep.OwnRows
import Derived.Deep.RegionHeld3
import Derived.KernelRfl
import Derived.Test.YtddkenhemnkkeaaGreatRows
import Derived.Test.YtddkenhemnkkeaaGreatZ06
set_option linter.unusedVariables false
open Go.IntKind renaming i64 → iQ
open Go.Value renaming int → nQ, slice → sQ
open List renaming take_succ_eq_append_getElem → Zb, replicate → Zc, drop_eq_getElem_cons → Zd, length_append → Ze, all_eq_true → Zf, take_length → Zg, mem_of_mem_take → Zh, getElem?_eq_none → Zi, flatMap_append → Zj, getElem?_toArray → Zk, getElem?_append_right → Zl, getElem?_append_left → Zm, take_append_drop → Zn, length_take → Zo, mem_of_mem_drop → Zp, length_drop → Zq, getElem?_set_self → Zr, getElem?_set_ne → Zs
open Nat renaming zero_le → Zt, succ_mul → Zu, le_trans → Zv, zero_add → Zw, add_zero → Zx, le_succ → Zy
open Bool renaming and_eq_true → Zz
open Go.Value renaming int → Za1, slice → Zb1
open Go.IntWalk renaming i64_in → Zc1
open Go.NoPanic renaming normal → Zd1
open Go.RowKit.Below renaming refl → Ze1
open Go.AllReadyH renaming cons → Zf1, nil → Zg1
open Go.World renaming size_alloc → Zh1, cell?_of_block → Zi1, block_lt_of_cell? → Zj1
open Go renaming bodyPost_ret → Zk1, wp_region_held_drew → Zl1, wp_region_noPanic → Zm1, wpAnyH_done → Zn1, wpAnyH_ready → Zo1, World → Zp1
open Go.Proofs.Tryz
namespace Go.Proofs.YtddkenhemnkkeaaGreat
set_option maxHeartbeats 16000000
set_option maxRecDepth 20000
open Go.RowKit
structure uJ (p g1 g2 g3 L:Nat) (cs:Value->Value->Value->Array Value) (W4 w:Zp1):Prop where
 later:Later W4 w
 hp:W4.heap.size<=p
 h1:p<g1
 h2:p<g2
 h3:p<g3
 n12:g1≠g2
 n13:g1≠g3
 n23:g2≠g3
 box:Blk w p 186 (cs (sQ (some ⟨g1,0,none⟩) L L) (sQ (some ⟨g2,0,none⟩) L L) (sQ (some ⟨g3,0,none⟩) L L))
 first:Blk w g1 3 (madeCells #[nQ iQ 0] L)
 kept:Blk w g2 4 (madeCells #[.bool false] L)
 aC:Blk w g3 4 (madeCells #[.bool false] L)
structure Bg (W0:Zp1) (p:Nat) (cs:Array Value) (ts:List (Nat × TypeId × Array Value)) (w:Zp1):Prop where
 hl:Later W0 w
 hp:W0.heap.size<=p
 box:Blk w p 186 cs
 all:∀x∈ts,Blk w x.1 x.2.1 x.2.2/\p<x.1
 nd:(ts.map (·.1)).Nodup
section
variable {W0 w:Zp1} {p:Nat} {cs:Array Value} {ts:List (Nat × TypeId × Array Value)}
theorem Bg.start (hl:Later W0 w) (hp:W0.heap.size<=p) (hb:Blk w p 186 cs):Bg W0 p cs [] w:=⟨hl,hp,hb,(λ_ h=>nomatch h),List.nodup_nil⟩
theorem Bg.mk_ (h:Bg W0 p cs ts w) (t:TypeId) (c:Array Value):Bg W0 p cs ((w.heap.size,t,c)::ts) (w.alloc (.cells c t)):=by
 refine ⟨h.hl.alloc _,h.hp,h.box.alloc _,λx hx=>?_,?_⟩
 ·rcases List.mem_cons.1 hx with rfl|hx
  ·exact ⟨Blk.new w t c,h.box.lt⟩
  ·exact ⟨(h.all x hx).1.alloc _,(h.all x hx).2⟩
 ·rw [List.map_cons,List.nodup_cons]
  refine ⟨λhx=>?_,h.nd⟩;obtain ⟨x,h1,h2⟩:=List.mem_map.1 hx;have h3:=(h.all x h1).1.lt;simp only at h2;omega
theorem Bg.put (h:Bg W0 p cs ts w) (i:Nat) (v:Value):Bg W0 p (cs.setIfInBounds i v) ts (w.setCell ⟨p,i,none⟩ v):=
 ⟨h.hl.set (p:=⟨p,i,none⟩) h.hp v,h.hp,h.box.aU i v,λx hx=>⟨(h.all x hx).1.far (p:=⟨p,i,none⟩) (by have:=(h.all x hx).2;show x.1≠p;omega) v,(h.all x hx).2⟩,h.nd⟩
theorem Bg.fin {g1 g2 g3 L:Nat} {f:Value->Value->Value->Array Value} (h:Bg W0 p (f (sQ (some ⟨g1,0,none⟩) L L) (sQ (some ⟨g2,0,none⟩) L L) (sQ (some ⟨g3,0,none⟩) L L)) ts w) (m1:(g1,3,madeCells #[nQ iQ 0] L)∈ts) (m2:(g2,4,madeCells #[.bool false] L)∈ts) (m3:(g3,4,madeCells #[.bool false] L)∈ts)
  (hd:g1≠g2/\g1≠g3/\g2≠g3):uJ p g1 g2 g3 L f W0 w:=
 ⟨h.hl,h.hp,(h.all _ m1).2,(h.all _ m2).2,(h.all _ m3).2,hd.1,hd.2.1,hd.2.2,h.box,(h.all _ m1).1,(h.all _ m2).1,(h.all _ m3).1⟩
end
structure lD (n:aA) (p g1 g2 g3:Nat) (bx:Array Value) (W4:Zp1) (f:List Int) (w:Zp1):Prop where
 later:Later W4 w
 box:Blk w p 186 bx
 first:Blk w g1 3 (qa9 f).toArray
 kept:Blk w g2 4 ((Zc (n.o.length+1) false).map Value.bool).toArray
 aC:Blk w g3 4 ((Zc (n.o.length+1) false).map Value.bool).toArray
theorem made_arr (v:Value) (n:Nat):madeCells #[v] n=(Zc n v).toArray:=by
 have h:=qae v n;rw [←h]
theorem lD.to_later {n:aA} {p g1 g2 g3:Nat} {bx:Array Value} {W4 w w':Zp1} {f:List Int} (h:lD n p g1 g2 g3 bx W4 f w) (hl:Later w w'):lD n p g1 g2 g3 bx W4 f w':=⟨h.later.trans hl,hl.blk h.box,hl.blk h.first,hl.blk h.kept,hl.blk h.aC⟩
theorem lD.put {n:aA} {p g1 g2 g3:Nat} {bx:Array Value} {W4 w:Zp1} {f:List Int} (h:lD n p g1 g2 g3 bx W4 f w) (hg:W4.heap.size<=g1) (h1:p≠g1) (h2:g2≠g1) (h3:g3≠g1) (u:Nat) (z:Int):lD n p g1 g2 g3 bx W4 (f.set u z) (w.setCell ⟨g1,u,none⟩ (nQ iQ z)):=by
 refine ⟨h.later.set (p:=⟨g1,u,none⟩) hg _,h.box.far (p:=⟨g1,u,none⟩) h1 _,?_,h.kept.far (p:=⟨g1,u,none⟩) h2 _,h.aC.far (p:=⟨g1,u,none⟩) h3 _⟩;have hb:=h.first.aU u (nQ iQ z)
 simpa [qa9,List.map_set] using hb
def BeginP (n:aA) (A N:Option Addr) (c d:Nat) (W:Zp1) (e:Ending) (w':Zp1):Prop:=
 (Nt.check n≠0/\e=.returned (.tuple #[.pointer none,nQ iQ (Nt.check n)])∨Nt.check n=0/\∃a W0,RtA.Still a n W0/\Later W W0/\e=.returned (.tuple #[.pointer (some ⟨a.p,0,none⟩),nQ iQ 0])/\RtM a n (Zc (n.o.length+1) false) W0 (Rt.start (n.o.length+1)) w')/\Later W w'
set_option maxRecDepth 100000 in
theorem qfg (A N:Option Addr) (c d:Nat) (n:aA) (W:Zp1) (hok:n.ok) (hR:bH W A N n) (hd:n.o.length<=d) (h12:n.o.length<=12):
  Calls prog 113 #[.agg #[sQ A n.inn.length c,sQ N n.o.length d]] W (BeginP n A N c d W):=by
 have Hx:=Blk.new W 26 #[sQ A n.inn.length c,sQ N n.o.length d];have Hj:Later W (W.alloc (.cells #[sQ A n.inn.length c,sQ N n.o.length d] 26)):=(Later.refl W).alloc _;obtain ⟨HR,hH,H6,Hk⟩:=zd4 hR hok Hx Hj;clear hR hok Hx Hj;go_in;go_wp2_with fail;generalize W.alloc (.cells #[sQ A n.inn.length c,sQ N n.o.length d] 26)=W1 at *;refine (qb2 A N c d n W1 hH.out (HR.out.below Hk.out (lrZ _)) hd).mono ?_;rintro e W2 ⟨HA,⟨hn,O,oc,rfl,hO,-,-⟩|⟨hn,rfl⟩⟩
 all_goals
  have hh:Later W1 W2:=HA;have hU:=Hk.out.trans hh;have hC:=hh.blk H6.out;clear HA
 rotate_left
 ·have gg:(Nt.check n != 0)=true:=by simp [hn]
  obtain ⟨hl,hA⟩:=zd2 hn hU;clear hn hU;clear hh hC;go_wp2_with fail
  go_ret2
  exact ⟨.inl ⟨hl.out,rfl⟩,hA.out⟩
 have x0:=hC.cell 0;have x1:=hC.cell 1;simp at x0 x1;obtain ⟨hl,hA,Hw,HO⟩:=zd4 hn hU hC hO;clear hn hU hC hO;clear hh;go_wp2_with fail;refine (qg9 A N c d n W2 hH.out (HR.out.below hA.out (lrZ _)) hd).mono ?_;rintro e W3 ⟨Hq,⟨-,gl,rfl,HN⟩|⟨hn,-⟩⟩
 rotate_left
 ·exact absurd hl.out hn
 have hg:Later W2 W3:=Hq;have hD:=hA.out.trans hg;have hs:=hg.blk Hw.out;have HG:=HO.out.below hg (lrZ _);clear x0 x1;have x0:=hs.cell 0;have x1:=hs.cell 1;simp at x0 x1;obtain ⟨ht,hP,Hs,HK⟩:=zd4 hD hs HG HN;clear hD hs HG HN;clear Hq hg HO Hw hA;go_wp2_with fail;refine (qfy A N c d n W3 hH.out (HR.out.below ht.out (lrZ _)) hd).mono ?_;rintro e W4 ⟨rfl,Hv⟩;rw [hl.out,show qcH n=Nt.aI n.o by unfold qcH;rw [ipZ hl.out]];have hf:Later W3 W4:=Hv;have HE:=ht.out.trans hf;have hS:=hf.blk hP.out;have Hn:=Hs.out.below hf (lrZ _);have hw:=hf.blk HK.out;clear x0 x1;have x0:=hS.cell 0;have x1:=hS.cell 1;simp at x0 x1;obtain ⟨hL,HW,HP,h6⟩:=zd4 HE hS Hn hw;clear HE hS Hn hw;clear Hv hf Hs hP ht HK
 have hZ:∀w:Zp1,(Instr.makeSlice 22 (nQ iQ ((n.o.length:Int)+1)) (nQ iQ ((n.o.length:Int)+1))).run prog w=.ok (sQ (some ⟨w.heap.size,0,none⟩) (n.o.length+1) (n.o.length+1)) (w.alloc (.cells (madeCells #[nQ iQ 0] (n.o.length+1)) 3)):=λw=>by
  have h:=run_make_row' (P:=prog) 22 3 (nQ iQ 0) 8 underlying22 qag rfl iQ iQ (n.o.length+1) oZ oZ w;rw [Int.natCast_succ] at h;exact h
 have hX:∀w:Zp1,(Instr.makeSlice 112 (nQ iQ ((n.o.length:Int)+1)) (nQ iQ ((n.o.length:Int)+1))).run prog w=.ok (sQ (some ⟨w.heap.size,0,none⟩) (n.o.length+1) (n.o.length+1)) (w.alloc (.cells (madeCells #[.bool false] (n.o.length+1)) 4)):=λw=>by
  have h:=run_make_row' (P:=prog) 112 4 (.bool false) 1 underlying112 qbs rfl iQ iQ (n.o.length+1) oZ oZ w;rw [Int.natCast_succ] at h;exact h
 obtain ⟨hW,Ha⟩:=zd2 hZ hX;clear hZ hX;generalize hLo:Nt.aI n.o=lo at *;have HV:=zI hLo;clear hLo;go_upto_region 12 with fail;have ha:=Blk.new W4 186 #[sQ A n.inn.length c,sQ N n.o.length d,sQ O n.o.length oc,sQ (some ⟨gl,0,none⟩) (n.o.length+1) (n.o.length+1),sQ none 0 0,nQ iQ lo,sQ none 0 0,sQ none 0 0,sQ none 0 0];have he:Later W4 (W4.alloc (.cells #[sQ A n.inn.length c,sQ N n.o.length d,sQ O n.o.length oc,sQ (some ⟨gl,0,none⟩) (n.o.length+1) (n.o.length+1),sQ none 0 0,nQ iQ lo,sQ none 0 0,sQ none 0 0,sQ none 0 0] 186)):=(Later.refl W4).alloc _;have Ht:W4.heap.size<(W4.alloc (.cells #[sQ A n.inn.length c,sQ N n.o.length d,sQ O n.o.length oc,sQ (some ⟨gl,0,none⟩) (n.o.length+1) (n.o.length+1),sQ none 0 0,nQ iQ lo,sQ none 0 0,sQ none 0 0,sQ none 0 0] 186)).heap.size:=ha.lt;generalize W4.alloc (.cells #[sQ A n.inn.length c,sQ N n.o.length d,sQ O n.o.length oc,sQ (some ⟨gl,0,none⟩) (n.o.length+1) (n.o.length+1),sQ none 0 0,nQ iQ lo,sQ none 0 0,sQ none 0 0,sQ none 0 0] 186)=W5 at *;generalize hp:W4.heap.size=p at *;have b4:W5.cell? ⟨p,4,none⟩=some (sQ none 0 0):=ha.cell 4;have b6:W5.cell? ⟨p,6,none⟩=some (sQ none 0 0):=ha.cell 6;have b7:W5.cell? ⟨p,7,none⟩=some (sQ none 0 0):=ha.cell 7;have f4:=ha.frozen 4;have f6:=ha.frozen 6;have f7:=ha.frozen 7;obtain ⟨h8,hr,Hp⟩:=zd3 ha he hp;clear ha he hp
 go_cut [61] (λ_ wx=>∃g1 g2 g3,uJ p g1 g2 g3 (n.o.length+1) (λv1 v2 v3=>#[sQ A n.inn.length c,sQ N n.o.length d,sQ O n.o.length oc,sQ (some ⟨gl,0,none⟩) (n.o.length+1) (n.o.length+1),v1,nQ iQ lo,v2,v3,sQ none 0 0]) W4 wx)
 case first=>
  have hZ:=hW.out;have hX:=Ha.out;have ha:=h8.out;have he:=hr.out;have gd:W4.heap.size<=p:=Nat.le_of_eq Hp.out;clear hW Ha x0 x1 b4 b6 b7 f4 f6 f7 h8 hr Ht;refine Zm1 ?_;refine Zl1 (S:=λ_=>True) krZ trivial (λ_=>?_);have hT:True:=trivial;refine tk 0 ?_;refine tk 1 ?_;refine tk 2 ?_;refine tk 3 ?_;refine tk 5 ?_;refine tk 7 ?_;have hb:=Bg.start he.drew gd ha.drew;clear he ha;generalize W5.drew=w0 at *;refine Zo1 (rs:=[4,6,8]) krZ sZ ?_;refine Zf1 (o:=_) rfl (λK hK=>?_) (Zf1 (o:=_) rfl (λK hK=>?_) (Zf1 (o:=_) rfl (λK hK=>?_) (Zg1)))
  ·simp only [ga,gs,gz]
   go_simp
   refine hK.out _ _ trivial (λ_=>?_);clear hK K
   try simp only [ga,gs,gz,Act.put,sa,sz,ss]
   replace hb:=hb.mk_ 3 (madeCells #[nQ iQ 0] (n.o.length+1));generalize w0.alloc (.cells (madeCells #[nQ iQ 0] (n.o.length+1)) 3)=w1 at *;generalize w0.heap.size=g1 at *;refine tk 9 ?_;refine tk 10 ?_;refine Zo1 (rs:=[6,8,11]) krZ sZ ?_;refine Zf1 (o:=_) rfl (λK hK=>?_) (Zf1 (o:=_) rfl (λK hK=>?_) (Zf1 (o:=_) rfl (λK hK=>?_) (Zg1)))
   ·simp only [ga,gs,gz]
    go_simp
    refine hK.out _ _ trivial (λ_=>?_);clear hK K
    try simp only [ga,gs,gz,Act.put,sa,sz,ss]
    replace hb:=hb.mk_ 4 (madeCells #[.bool false] (n.o.length+1));generalize w1.alloc (.cells (madeCells #[.bool false] (n.o.length+1)) 4)=w2 at *;generalize w1.heap.size=g2 at *;refine Zo1 (rs:=[8,11]) krZ sZ ?_;refine Zf1 (o:=_) rfl (λK hK=>?_) (Zf1 (o:=_) rfl (λK hK=>?_) (Zg1))
    ·simp only [ga,gs,gz]
     go_simp
     refine hK.out _ _ trivial (λ_=>?_);clear hK K
     try simp only [ga,gs,gz,Act.put,sa,sz,ss]
     replace hb:=hb.mk_ 4 (madeCells #[.bool false] (n.o.length+1));generalize w2.alloc (.cells (madeCells #[.bool false] (n.o.length+1)) 4)=w3 at *;generalize w2.heap.size=g3 at *;refine rd 11 λK hK=>?_
     simp only [ga,gs,gz];have yc:w3.cell? ⟨p,4,none⟩=some (sQ none 0 0):=hb.box.cell 4;have fc:=hb.box.frozen 4
     go_simp
     clear yc fc;refine hK.out _ _ trivial (λ_=>?_);clear hK K
     try simp only [ga,gs,gz,Act.put,sa,sz,ss]
     replace hb:=hb.put 4 (sQ (some ⟨g1,0,none⟩) (n.o.length+1) (n.o.length+1));generalize w3.setCell ⟨p,4,none⟩ (sQ (some ⟨g1,0,none⟩) (n.o.length+1) (n.o.length+1))=w4 at *;refine tk 12 ?_;refine tk 13 ?_;refine rd 14 λK hK=>?_
     simp only [ga,gs,gz];have yc:w4.cell? ⟨p,6,none⟩=some (sQ none 0 0):=hb.box.cell 6;have fc:=hb.box.frozen 6
     go_simp
     clear yc fc;refine hK.out _ _ trivial (λ_=>?_);clear hK K
     try simp only [ga,gs,gz,Act.put,sa,sz,ss]
     replace hb:=hb.put 6 (sQ (some ⟨g2,0,none⟩) (n.o.length+1) (n.o.length+1));generalize w4.setCell ⟨p,6,none⟩ (sQ (some ⟨g2,0,none⟩) (n.o.length+1) (n.o.length+1))=w5 at *;refine tk 15 ?_;refine tk 16 ?_;refine rd 17 λK hK=>?_
     simp only [ga,gs,gz];have yc:w5.cell? ⟨p,7,none⟩=some (sQ none 0 0):=hb.box.cell 7;have fc:=hb.box.frozen 7
     go_simp
     clear yc fc;refine hK.out _ _ trivial (λ_=>?_);clear hK K
     try simp only [ga,gs,gz,Act.put,sa,sz,ss]
     replace hb:=hb.put 7 (sQ (some ⟨g3,0,none⟩) (n.o.length+1) (n.o.length+1));generalize w5.setCell ⟨p,7,none⟩ (sQ (some ⟨g3,0,none⟩) (n.o.length+1) (n.o.length+1))=w6 at *;refine Zn1 krZ ?_ _;refine Zd1 ?_;go_wp2_with fail
     go_meet
     exact ⟨g1,g2,g3,hb.fin (.tail _ (.tail _ (.head _))) (.tail _ (.head _)) (.head _) (by have h:=hb.nd;simp at h;omega)⟩
    ·simp only [ga,gs,gz]
     have yc:w2.cell? ⟨p,4,none⟩=some (sQ none 0 0):=hb.box.cell 4;have fc:=hb.box.frozen 4
     go_simp
     clear yc fc;refine hK.out _ _ trivial (λ_=>?_);clear hK K
     try simp only [ga,gs,gz,Act.put,sa,sz,ss]
     replace hb:=hb.put 4 (sQ (some ⟨g1,0,none⟩) (n.o.length+1) (n.o.length+1));generalize w2.setCell ⟨p,4,none⟩ (sQ (some ⟨g1,0,none⟩) (n.o.length+1) (n.o.length+1))=w3 at *;refine tk 12 ?_;refine tk 13 ?_;refine Zo1 (rs:=[8,14]) krZ sZ ?_;refine Zf1 (o:=_) rfl (λK hK=>?_) (Zf1 (o:=_) rfl (λK hK=>?_) (Zg1))
     ·simp only [ga,gs,gz]
      go_simp
      refine hK.out _ _ trivial (λ_=>?_);clear hK K
      try simp only [ga,gs,gz,Act.put,sa,sz,ss]
      replace hb:=hb.mk_ 4 (madeCells #[.bool false] (n.o.length+1));generalize w3.alloc (.cells (madeCells #[.bool false] (n.o.length+1)) 4)=w4 at *;generalize w3.heap.size=g3 at *;refine rd 14 λK hK=>?_
      simp only [ga,gs,gz];have yc:w4.cell? ⟨p,6,none⟩=some (sQ none 0 0):=hb.box.cell 6;have fc:=hb.box.frozen 6
      go_simp
      clear yc fc;refine hK.out _ _ trivial (λ_=>?_);clear hK K
      try simp only [ga,gs,gz,Act.put,sa,sz,ss]
      replace hb:=hb.put 6 (sQ (some ⟨g2,0,none⟩) (n.o.length+1) (n.o.length+1));generalize w4.setCell ⟨p,6,none⟩ (sQ (some ⟨g2,0,none⟩) (n.o.length+1) (n.o.length+1))=w5 at *;refine tk 15 ?_;refine tk 16 ?_;refine rd 17 λK hK=>?_
      simp only [ga,gs,gz];have yc:w5.cell? ⟨p,7,none⟩=some (sQ none 0 0):=hb.box.cell 7;have fc:=hb.box.frozen 7
      go_simp
      clear yc fc;refine hK.out _ _ trivial (λ_=>?_);clear hK K
      try simp only [ga,gs,gz,Act.put,sa,sz,ss]
      replace hb:=hb.put 7 (sQ (some ⟨g3,0,none⟩) (n.o.length+1) (n.o.length+1));generalize w5.setCell ⟨p,7,none⟩ (sQ (some ⟨g3,0,none⟩) (n.o.length+1) (n.o.length+1))=w6 at *;refine Zn1 krZ ?_ _;refine Zd1 ?_;go_wp2_with fail
      go_meet
      exact ⟨g1,g2,g3,hb.fin (.tail _ (.tail _ (.head _))) (.tail _ (.head _)) (.head _) (by have h:=hb.nd;simp at h;omega)⟩
     ·simp only [ga,gs,gz]
      have yc:w3.cell? ⟨p,6,none⟩=some (sQ none 0 0):=hb.box.cell 6;have fc:=hb.box.frozen 6
      go_simp
      clear yc fc;refine hK.out _ _ trivial (λ_=>?_);clear hK K
      try simp only [ga,gs,gz,Act.put,sa,sz,ss]
      replace hb:=hb.put 6 (sQ (some ⟨g2,0,none⟩) (n.o.length+1) (n.o.length+1));generalize w3.setCell ⟨p,6,none⟩ (sQ (some ⟨g2,0,none⟩) (n.o.length+1) (n.o.length+1))=w4 at *;refine rd 8 λK hK=>?_
      simp only [ga,gs,gz]
      go_simp
      refine hK.out _ _ trivial (λ_=>?_);clear hK K
      try simp only [ga,gs,gz,Act.put,sa,sz,ss]
      replace hb:=hb.mk_ 4 (madeCells #[.bool false] (n.o.length+1));generalize w4.alloc (.cells (madeCells #[.bool false] (n.o.length+1)) 4)=w5 at *;generalize w4.heap.size=g3 at *;refine tk 15 ?_;refine tk 16 ?_;refine rd 17 λK hK=>?_
      simp only [ga,gs,gz];have yc:w5.cell? ⟨p,7,none⟩=some (sQ none 0 0):=hb.box.cell 7;have fc:=hb.box.frozen 7
      go_simp
      clear yc fc;refine hK.out _ _ trivial (λ_=>?_);clear hK K
      try simp only [ga,gs,gz,Act.put,sa,sz,ss]
      replace hb:=hb.put 7 (sQ (some ⟨g3,0,none⟩) (n.o.length+1) (n.o.length+1));generalize w5.setCell ⟨p,7,none⟩ (sQ (some ⟨g3,0,none⟩) (n.o.length+1) (n.o.length+1))=w6 at *;refine Zn1 krZ ?_ _;refine Zd1 ?_;go_wp2_with fail
      go_meet
      exact ⟨g1,g2,g3,hb.fin (.tail _ (.tail _ (.head _))) (.tail _ (.head _)) (.head _) (by have h:=hb.nd;simp at h;omega)⟩
   ·simp only [ga,gs,gz]
    go_simp
    refine hK.out _ _ trivial (λ_=>?_);clear hK K
    try simp only [ga,gs,gz,Act.put,sa,sz,ss]
    replace hb:=hb.mk_ 4 (madeCells #[.bool false] (n.o.length+1));generalize w1.alloc (.cells (madeCells #[.bool false] (n.o.length+1)) 4)=w2 at *;generalize w1.heap.size=g3 at *;refine Zo1 (rs:=[6,11]) krZ sZ ?_;refine Zf1 (o:=_) rfl (λK hK=>?_) (Zf1 (o:=_) rfl (λK hK=>?_) (Zg1))
    ·simp only [ga,gs,gz]
     go_simp
     refine hK.out _ _ trivial (λ_=>?_);clear hK K
     try simp only [ga,gs,gz,Act.put,sa,sz,ss]
     replace hb:=hb.mk_ 4 (madeCells #[.bool false] (n.o.length+1));generalize w2.alloc (.cells (madeCells #[.bool false] (n.o.length+1)) 4)=w3 at *;generalize w2.heap.size=g2 at *;refine rd 11 λK hK=>?_
     simp only [ga,gs,gz];have yc:w3.cell? ⟨p,4,none⟩=some (sQ none 0 0):=hb.box.cell 4;have fc:=hb.box.frozen 4
     go_simp
     clear yc fc;refine hK.out _ _ trivial (λ_=>?_);clear hK K
     try simp only [ga,gs,gz,Act.put,sa,sz,ss]
     replace hb:=hb.put 4 (sQ (some ⟨g1,0,none⟩) (n.o.length+1) (n.o.length+1));generalize w3.setCell ⟨p,4,none⟩ (sQ (some ⟨g1,0,none⟩) (n.o.length+1) (n.o.length+1))=w4 at *;refine tk 12 ?_;refine tk 13 ?_;refine rd 14 λK hK=>?_
     simp only [ga,gs,gz];have yc:w4.cell? ⟨p,6,none⟩=some (sQ none 0 0):=hb.box.cell 6;have fc:=hb.box.frozen 6
     go_simp
     clear yc fc;refine hK.out _ _ trivial (λ_=>?_);clear hK K
     try simp only [ga,gs,gz,Act.put,sa,sz,ss]
     replace hb:=hb.put 6 (sQ (some ⟨g2,0,none⟩) (n.o.length+1) (n.o.length+1));generalize w4.setCell ⟨p,6,none⟩ (sQ (some ⟨g2,0,none⟩) (n.o.length+1) (n.o.length+1))=w5 at *;refine tk 15 ?_;refine tk 16 ?_;refine rd 17 λK hK=>?_
     simp only [ga,gs,gz];have yc:w5.cell? ⟨p,7,none⟩=some (sQ none 0 0):=hb.box.cell 7;have fc:=hb.box.frozen 7
     go_simp
     clear yc fc;refine hK.out _ _ trivial (λ_=>?_);clear hK K
     try simp only [ga,gs,gz,Act.put,sa,sz,ss]
     replace hb:=hb.put 7 (sQ (some ⟨g3,0,none⟩) (n.o.length+1) (n.o.length+1));generalize w5.setCell ⟨p,7,none⟩ (sQ (some ⟨g3,0,none⟩) (n.o.length+1) (n.o.length+1))=w6 at *;refine Zn1 krZ ?_ _;refine Zd1 ?_;go_wp2_with fail
     go_meet
     exact ⟨g1,g2,g3,hb.fin (.tail _ (.tail _ (.head _))) (.head _) (.tail _ (.head _)) (by have h:=hb.nd;simp at h;omega)⟩
    ·simp only [ga,gs,gz]
     have yc:w2.cell? ⟨p,4,none⟩=some (sQ none 0 0):=hb.box.cell 4;have fc:=hb.box.frozen 4
     go_simp
     clear yc fc;refine hK.out _ _ trivial (λ_=>?_);clear hK K
     try simp only [ga,gs,gz,Act.put,sa,sz,ss]
     replace hb:=hb.put 4 (sQ (some ⟨g1,0,none⟩) (n.o.length+1) (n.o.length+1));generalize w2.setCell ⟨p,4,none⟩ (sQ (some ⟨g1,0,none⟩) (n.o.length+1) (n.o.length+1))=w3 at *;refine rd 6 λK hK=>?_
     simp only [ga,gs,gz]
     go_simp
     refine hK.out _ _ trivial (λ_=>?_);clear hK K
     try simp only [ga,gs,gz,Act.put,sa,sz,ss]
     replace hb:=hb.mk_ 4 (madeCells #[.bool false] (n.o.length+1));generalize w3.alloc (.cells (madeCells #[.bool false] (n.o.length+1)) 4)=w4 at *;generalize w3.heap.size=g2 at *;refine tk 12 ?_;refine tk 13 ?_;refine rd 14 λK hK=>?_
     simp only [ga,gs,gz];have yc:w4.cell? ⟨p,6,none⟩=some (sQ none 0 0):=hb.box.cell 6;have fc:=hb.box.frozen 6
     go_simp
     clear yc fc;refine hK.out _ _ trivial (λ_=>?_);clear hK K
     try simp only [ga,gs,gz,Act.put,sa,sz,ss]
     replace hb:=hb.put 6 (sQ (some ⟨g2,0,none⟩) (n.o.length+1) (n.o.length+1));generalize w4.setCell ⟨p,6,none⟩ (sQ (some ⟨g2,0,none⟩) (n.o.length+1) (n.o.length+1))=w5 at *;refine tk 15 ?_;refine tk 16 ?_;refine rd 17 λK hK=>?_
     simp only [ga,gs,gz];have yc:w5.cell? ⟨p,7,none⟩=some (sQ none 0 0):=hb.box.cell 7;have fc:=hb.box.frozen 7
     go_simp
     clear yc fc;refine hK.out _ _ trivial (λ_=>?_);clear hK K
     try simp only [ga,gs,gz,Act.put,sa,sz,ss]
     replace hb:=hb.put 7 (sQ (some ⟨g3,0,none⟩) (n.o.length+1) (n.o.length+1));generalize w5.setCell ⟨p,7,none⟩ (sQ (some ⟨g3,0,none⟩) (n.o.length+1) (n.o.length+1))=w6 at *;refine Zn1 krZ ?_ _;refine Zd1 ?_;go_wp2_with fail
     go_meet
     exact ⟨g1,g2,g3,hb.fin (.tail _ (.tail _ (.head _))) (.head _) (.tail _ (.head _)) (by have h:=hb.nd;simp at h;omega)⟩
   ·simp only [ga,gs,gz]
    have yc:w1.cell? ⟨p,4,none⟩=some (sQ none 0 0):=hb.box.cell 4;have fc:=hb.box.frozen 4
    go_simp
    clear yc fc;refine hK.out _ _ trivial (λ_=>?_);clear hK K
    try simp only [ga,gs,gz,Act.put,sa,sz,ss]
    replace hb:=hb.put 4 (sQ (some ⟨g1,0,none⟩) (n.o.length+1) (n.o.length+1));generalize w1.setCell ⟨p,4,none⟩ (sQ (some ⟨g1,0,none⟩) (n.o.length+1) (n.o.length+1))=w2 at *;refine Zo1 (rs:=[6,8]) krZ sZ ?_;refine Zf1 (o:=_) rfl (λK hK=>?_) (Zf1 (o:=_) rfl (λK hK=>?_) (Zg1))
    ·simp only [ga,gs,gz]
     go_simp
     refine hK.out _ _ trivial (λ_=>?_);clear hK K
     try simp only [ga,gs,gz,Act.put,sa,sz,ss]
     replace hb:=hb.mk_ 4 (madeCells #[.bool false] (n.o.length+1));generalize w2.alloc (.cells (madeCells #[.bool false] (n.o.length+1)) 4)=w3 at *;generalize w2.heap.size=g2 at *;refine tk 12 ?_;refine tk 13 ?_;refine Zo1 (rs:=[8,14]) krZ sZ ?_;refine Zf1 (o:=_) rfl (λK hK=>?_) (Zf1 (o:=_) rfl (λK hK=>?_) (Zg1))
     ·simp only [ga,gs,gz]
      go_simp
      refine hK.out _ _ trivial (λ_=>?_);clear hK K
      try simp only [ga,gs,gz,Act.put,sa,sz,ss]
      replace hb:=hb.mk_ 4 (madeCells #[.bool false] (n.o.length+1));generalize w3.alloc (.cells (madeCells #[.bool false] (n.o.length+1)) 4)=w4 at *;generalize w3.heap.size=g3 at *;refine rd 14 λK hK=>?_
      simp only [ga,gs,gz];have yc:w4.cell? ⟨p,6,none⟩=some (sQ none 0 0):=hb.box.cell 6;have fc:=hb.box.frozen 6
      go_simp
      clear yc fc;refine hK.out _ _ trivial (λ_=>?_);clear hK K
      try simp only [ga,gs,gz,Act.put,sa,sz,ss]
      replace hb:=hb.put 6 (sQ (some ⟨g2,0,none⟩) (n.o.length+1) (n.o.length+1));generalize w4.setCell ⟨p,6,none⟩ (sQ (some ⟨g2,0,none⟩) (n.o.length+1) (n.o.length+1))=w5 at *;refine tk 15 ?_;refine tk 16 ?_;refine rd 17 λK hK=>?_
      simp only [ga,gs,gz];have yc:w5.cell? ⟨p,7,none⟩=some (sQ none 0 0):=hb.box.cell 7;have fc:=hb.box.frozen 7
      go_simp
      clear yc fc;refine hK.out _ _ trivial (λ_=>?_);clear hK K
      try simp only [ga,gs,gz,Act.put,sa,sz,ss]
      replace hb:=hb.put 7 (sQ (some ⟨g3,0,none⟩) (n.o.length+1) (n.o.length+1));generalize w5.setCell ⟨p,7,none⟩ (sQ (some ⟨g3,0,none⟩) (n.o.length+1) (n.o.length+1))=w6 at *;refine Zn1 krZ ?_ _;refine Zd1 ?_;go_wp2_with fail
      go_meet
      exact ⟨g1,g2,g3,hb.fin (.tail _ (.tail _ (.head _))) (.tail _ (.head _)) (.head _) (by have h:=hb.nd;simp at h;omega)⟩
     ·simp only [ga,gs,gz]
      have yc:w3.cell? ⟨p,6,none⟩=some (sQ none 0 0):=hb.box.cell 6;have fc:=hb.box.frozen 6
      go_simp
      clear yc fc;refine hK.out _ _ trivial (λ_=>?_);clear hK K
      try simp only [ga,gs,gz,Act.put,sa,sz,ss]
      replace hb:=hb.put 6 (sQ (some ⟨g2,0,none⟩) (n.o.length+1) (n.o.length+1));generalize w3.setCell ⟨p,6,none⟩ (sQ (some ⟨g2,0,none⟩) (n.o.length+1) (n.o.length+1))=w4 at *;refine rd 8 λK hK=>?_
      simp only [ga,gs,gz]
      go_simp
      refine hK.out _ _ trivial (λ_=>?_);clear hK K
      try simp only [ga,gs,gz,Act.put,sa,sz,ss]
      replace hb:=hb.mk_ 4 (madeCells #[.bool false] (n.o.length+1));generalize w4.alloc (.cells (madeCells #[.bool false] (n.o.length+1)) 4)=w5 at *;generalize w4.heap.size=g3 at *;refine tk 15 ?_;refine tk 16 ?_;refine rd 17 λK hK=>?_
      simp only [ga,gs,gz];have yc:w5.cell? ⟨p,7,none⟩=some (sQ none 0 0):=hb.box.cell 7;have fc:=hb.box.frozen 7
      go_simp
      clear yc fc;refine hK.out _ _ trivial (λ_=>?_);clear hK K
      try simp only [ga,gs,gz,Act.put,sa,sz,ss]
      replace hb:=hb.put 7 (sQ (some ⟨g3,0,none⟩) (n.o.length+1) (n.o.length+1));generalize w5.setCell ⟨p,7,none⟩ (sQ (some ⟨g3,0,none⟩) (n.o.length+1) (n.o.length+1))=w6 at *;refine Zn1 krZ ?_ _;refine Zd1 ?_;go_wp2_with fail
      go_meet
      exact ⟨g1,g2,g3,hb.fin (.tail _ (.tail _ (.head _))) (.tail _ (.head _)) (.head _) (by have h:=hb.nd;simp at h;omega)⟩
    ·simp only [ga,gs,gz]
     go_simp
     refine hK.out _ _ trivial (λ_=>?_);clear hK K
     try simp only [ga,gs,gz,Act.put,sa,sz,ss]
     replace hb:=hb.mk_ 4 (madeCells #[.bool false] (n.o.length+1));generalize w2.alloc (.cells (madeCells #[.bool false] (n.o.length+1)) 4)=w3 at *;generalize w2.heap.size=g3 at *;refine rd 6 λK hK=>?_
     simp only [ga,gs,gz]
     go_simp
     refine hK.out _ _ trivial (λ_=>?_);clear hK K
     try simp only [ga,gs,gz,Act.put,sa,sz,ss]
     replace hb:=hb.mk_ 4 (madeCells #[.bool false] (n.o.length+1));generalize w3.alloc (.cells (madeCells #[.bool false] (n.o.length+1)) 4)=w4 at *;generalize w3.heap.size=g2 at *;refine tk 12 ?_;refine tk 13 ?_;refine rd 14 λK hK=>?_
     simp only [ga,gs,gz];have yc:w4.cell? ⟨p,6,none⟩=some (sQ none 0 0):=hb.box.cell 6;have fc:=hb.box.frozen 6
     go_simp
     clear yc fc;refine hK.out _ _ trivial (λ_=>?_);clear hK K
     try simp only [ga,gs,gz,Act.put,sa,sz,ss]
     replace hb:=hb.put 6 (sQ (some ⟨g2,0,none⟩) (n.o.length+1) (n.o.length+1));generalize w4.setCell ⟨p,6,none⟩ (sQ (some ⟨g2,0,none⟩) (n.o.length+1) (n.o.length+1))=w5 at *;refine tk 15 ?_;refine tk 16 ?_;refine rd 17 λK hK=>?_
     simp only [ga,gs,gz];have yc:w5.cell? ⟨p,7,none⟩=some (sQ none 0 0):=hb.box.cell 7;have fc:=hb.box.frozen 7
     go_simp
     clear yc fc;refine hK.out _ _ trivial (λ_=>?_);clear hK K
     try simp only [ga,gs,gz,Act.put,sa,sz,ss]
     replace hb:=hb.put 7 (sQ (some ⟨g3,0,none⟩) (n.o.length+1) (n.o.length+1));generalize w5.setCell ⟨p,7,none⟩ (sQ (some ⟨g3,0,none⟩) (n.o.length+1) (n.o.length+1))=w6 at *;refine Zn1 krZ ?_ _;refine Zd1 ?_;go_wp2_with fail
     go_meet
     exact ⟨g1,g2,g3,hb.fin (.tail _ (.tail _ (.head _))) (.head _) (.tail _ (.head _)) (by have h:=hb.nd;simp at h;omega)⟩
  ·simp only [ga,gs,gz]
   go_simp
   refine hK.out _ _ trivial (λ_=>?_);clear hK K
   try simp only [ga,gs,gz,Act.put,sa,sz,ss]
   replace hb:=hb.mk_ 4 (madeCells #[.bool false] (n.o.length+1));generalize w0.alloc (.cells (madeCells #[.bool false] (n.o.length+1)) 4)=w1 at *;generalize w0.heap.size=g2 at *;refine Zo1 (rs:=[4,8]) krZ sZ ?_;refine Zf1 (o:=_) rfl (λK hK=>?_) (Zf1 (o:=_) rfl (λK hK=>?_) (Zg1))
   ·simp only [ga,gs,gz]
    go_simp
    refine hK.out _ _ trivial (λ_=>?_);clear hK K
    try simp only [ga,gs,gz,Act.put,sa,sz,ss]
    replace hb:=hb.mk_ 3 (madeCells #[nQ iQ 0] (n.o.length+1));generalize w1.alloc (.cells (madeCells #[nQ iQ 0] (n.o.length+1)) 3)=w2 at *;generalize w1.heap.size=g1 at *;refine tk 9 ?_;refine tk 10 ?_;refine Zo1 (rs:=[8,11]) krZ sZ ?_;refine Zf1 (o:=_) rfl (λK hK=>?_) (Zf1 (o:=_) rfl (λK hK=>?_) (Zg1))
    ·simp only [ga,gs,gz]
     go_simp
     refine hK.out _ _ trivial (λ_=>?_);clear hK K
     try simp only [ga,gs,gz,Act.put,sa,sz,ss]
     replace hb:=hb.mk_ 4 (madeCells #[.bool false] (n.o.length+1));generalize w2.alloc (.cells (madeCells #[.bool false] (n.o.length+1)) 4)=w3 at *;generalize w2.heap.size=g3 at *;refine rd 11 λK hK=>?_
     simp only [ga,gs,gz];have yc:w3.cell? ⟨p,4,none⟩=some (sQ none 0 0):=hb.box.cell 4;have fc:=hb.box.frozen 4
     go_simp
     clear yc fc;refine hK.out _ _ trivial (λ_=>?_);clear hK K
     try simp only [ga,gs,gz,Act.put,sa,sz,ss]
     replace hb:=hb.put 4 (sQ (some ⟨g1,0,none⟩) (n.o.length+1) (n.o.length+1));generalize w3.setCell ⟨p,4,none⟩ (sQ (some ⟨g1,0,none⟩) (n.o.length+1) (n.o.length+1))=w4 at *;refine tk 12 ?_;refine tk 13 ?_;refine rd 14 λK hK=>?_
     simp only [ga,gs,gz];have yc:w4.cell? ⟨p,6,none⟩=some (sQ none 0 0):=hb.box.cell 6;have fc:=hb.box.frozen 6
     go_simp
     clear yc fc;refine hK.out _ _ trivial (λ_=>?_);clear hK K
     try simp only [ga,gs,gz,Act.put,sa,sz,ss]
     replace hb:=hb.put 6 (sQ (some ⟨g2,0,none⟩) (n.o.length+1) (n.o.length+1));generalize w4.setCell ⟨p,6,none⟩ (sQ (some ⟨g2,0,none⟩) (n.o.length+1) (n.o.length+1))=w5 at *;refine tk 15 ?_;refine tk 16 ?_;refine rd 17 λK hK=>?_
     simp only [ga,gs,gz];have yc:w5.cell? ⟨p,7,none⟩=some (sQ none 0 0):=hb.box.cell 7;have fc:=hb.box.frozen 7
     go_simp
     clear yc fc;refine hK.out _ _ trivial (λ_=>?_);clear hK K
     try simp only [ga,gs,gz,Act.put,sa,sz,ss]
     replace hb:=hb.put 7 (sQ (some ⟨g3,0,none⟩) (n.o.length+1) (n.o.length+1));generalize w5.setCell ⟨p,7,none⟩ (sQ (some ⟨g3,0,none⟩) (n.o.length+1) (n.o.length+1))=w6 at *;refine Zn1 krZ ?_ _;refine Zd1 ?_;go_wp2_with fail
     go_meet
     exact ⟨g1,g2,g3,hb.fin (.tail _ (.head _)) (.tail _ (.tail _ (.head _))) (.head _) (by have h:=hb.nd;simp at h;omega)⟩
    ·simp only [ga,gs,gz]
     have yc:w2.cell? ⟨p,4,none⟩=some (sQ none 0 0):=hb.box.cell 4;have fc:=hb.box.frozen 4
     go_simp
     clear yc fc;refine hK.out _ _ trivial (λ_=>?_);clear hK K
     try simp only [ga,gs,gz,Act.put,sa,sz,ss]
     replace hb:=hb.put 4 (sQ (some ⟨g1,0,none⟩) (n.o.length+1) (n.o.length+1));generalize w2.setCell ⟨p,4,none⟩ (sQ (some ⟨g1,0,none⟩) (n.o.length+1) (n.o.length+1))=w3 at *;refine tk 12 ?_;refine tk 13 ?_;refine Zo1 (rs:=[8,14]) krZ sZ ?_;refine Zf1 (o:=_) rfl (λK hK=>?_) (Zf1 (o:=_) rfl (λK hK=>?_) (Zg1))
     ·simp only [ga,gs,gz]
      go_simp
      refine hK.out _ _ trivial (λ_=>?_);clear hK K
      try simp only [ga,gs,gz,Act.put,sa,sz,ss]
      replace hb:=hb.mk_ 4 (madeCells #[.bool false] (n.o.length+1));generalize w3.alloc (.cells (madeCells #[.bool false] (n.o.length+1)) 4)=w4 at *;generalize w3.heap.size=g3 at *;refine rd 14 λK hK=>?_
      simp only [ga,gs,gz];have yc:w4.cell? ⟨p,6,none⟩=some (sQ none 0 0):=hb.box.cell 6;have fc:=hb.box.frozen 6
      go_simp
      clear yc fc;refine hK.out _ _ trivial (λ_=>?_);clear hK K
      try simp only [ga,gs,gz,Act.put,sa,sz,ss]
      replace hb:=hb.put 6 (sQ (some ⟨g2,0,none⟩) (n.o.length+1) (n.o.length+1));generalize w4.setCell ⟨p,6,none⟩ (sQ (some ⟨g2,0,none⟩) (n.o.length+1) (n.o.length+1))=w5 at *;refine tk 15 ?_;refine tk 16 ?_;refine rd 17 λK hK=>?_
      simp only [ga,gs,gz];have yc:w5.cell? ⟨p,7,none⟩=some (sQ none 0 0):=hb.box.cell 7;have fc:=hb.box.frozen 7
      go_simp
      clear yc fc;refine hK.out _ _ trivial (λ_=>?_);clear hK K
      try simp only [ga,gs,gz,Act.put,sa,sz,ss]
      replace hb:=hb.put 7 (sQ (some ⟨g3,0,none⟩) (n.o.length+1) (n.o.length+1));generalize w5.setCell ⟨p,7,none⟩ (sQ (some ⟨g3,0,none⟩) (n.o.length+1) (n.o.length+1))=w6 at *;refine Zn1 krZ ?_ _;refine Zd1 ?_;go_wp2_with fail
      go_meet
      exact ⟨g1,g2,g3,hb.fin (.tail _ (.head _)) (.tail _ (.tail _ (.head _))) (.head _) (by have h:=hb.nd;simp at h;omega)⟩
     ·simp only [ga,gs,gz]
      have yc:w3.cell? ⟨p,6,none⟩=some (sQ none 0 0):=hb.box.cell 6;have fc:=hb.box.frozen 6
      go_simp
      clear yc fc;refine hK.out _ _ trivial (λ_=>?_);clear hK K
      try simp only [ga,gs,gz,Act.put,sa,sz,ss]
      replace hb:=hb.put 6 (sQ (some ⟨g2,0,none⟩) (n.o.length+1) (n.o.length+1));generalize w3.setCell ⟨p,6,none⟩ (sQ (some ⟨g2,0,none⟩) (n.o.length+1) (n.o.length+1))=w4 at *;refine rd 8 λK hK=>?_
      simp only [ga,gs,gz]
      go_simp
      refine hK.out _ _ trivial (λ_=>?_);clear hK K
      try simp only [ga,gs,gz,Act.put,sa,sz,ss]
      replace hb:=hb.mk_ 4 (madeCells #[.bool false] (n.o.length+1));generalize w4.alloc (.cells (madeCells #[.bool false] (n.o.length+1)) 4)=w5 at *;generalize w4.heap.size=g3 at *;refine tk 15 ?_;refine tk 16 ?_;refine rd 17 λK hK=>?_
      simp only [ga,gs,gz];have yc:w5.cell? ⟨p,7,none⟩=some (sQ none 0 0):=hb.box.cell 7;have fc:=hb.box.frozen 7
      go_simp
      clear yc fc;refine hK.out _ _ trivial (λ_=>?_);clear hK K
      try simp only [ga,gs,gz,Act.put,sa,sz,ss]
      replace hb:=hb.put 7 (sQ (some ⟨g3,0,none⟩) (n.o.length+1) (n.o.length+1));generalize w5.setCell ⟨p,7,none⟩ (sQ (some ⟨g3,0,none⟩) (n.o.length+1) (n.o.length+1))=w6 at *;refine Zn1 krZ ?_ _;refine Zd1 ?_;go_wp2_with fail
      go_meet
      exact ⟨g1,g2,g3,hb.fin (.tail _ (.head _)) (.tail _ (.tail _ (.head _))) (.head _) (by have h:=hb.nd;simp at h;omega)⟩
   ·simp only [ga,gs,gz]
    go_simp
    refine hK.out _ _ trivial (λ_=>?_);clear hK K
    try simp only [ga,gs,gz,Act.put,sa,sz,ss]
    replace hb:=hb.mk_ 4 (madeCells #[.bool false] (n.o.length+1));generalize w1.alloc (.cells (madeCells #[.bool false] (n.o.length+1)) 4)=w2 at *;generalize w1.heap.size=g3 at *;refine rd 4 λK hK=>?_
    simp only [ga,gs,gz]
    go_simp
    refine hK.out _ _ trivial (λ_=>?_);clear hK K
    try simp only [ga,gs,gz,Act.put,sa,sz,ss]
    replace hb:=hb.mk_ 3 (madeCells #[nQ iQ 0] (n.o.length+1));generalize w2.alloc (.cells (madeCells #[nQ iQ 0] (n.o.length+1)) 3)=w3 at *;generalize w2.heap.size=g1 at *;refine tk 9 ?_;refine tk 10 ?_;refine rd 11 λK hK=>?_
    simp only [ga,gs,gz];have yc:w3.cell? ⟨p,4,none⟩=some (sQ none 0 0):=hb.box.cell 4;have fc:=hb.box.frozen 4
    go_simp
    clear yc fc;refine hK.out _ _ trivial (λ_=>?_);clear hK K
    try simp only [ga,gs,gz,Act.put,sa,sz,ss]
    replace hb:=hb.put 4 (sQ (some ⟨g1,0,none⟩) (n.o.length+1) (n.o.length+1));generalize w3.setCell ⟨p,4,none⟩ (sQ (some ⟨g1,0,none⟩) (n.o.length+1) (n.o.length+1))=w4 at *;refine tk 12 ?_;refine tk 13 ?_;refine rd 14 λK hK=>?_
    simp only [ga,gs,gz];have yc:w4.cell? ⟨p,6,none⟩=some (sQ none 0 0):=hb.box.cell 6;have fc:=hb.box.frozen 6
    go_simp
    clear yc fc;refine hK.out _ _ trivial (λ_=>?_);clear hK K
    try simp only [ga,gs,gz,Act.put,sa,sz,ss]
    replace hb:=hb.put 6 (sQ (some ⟨g2,0,none⟩) (n.o.length+1) (n.o.length+1));generalize w4.setCell ⟨p,6,none⟩ (sQ (some ⟨g2,0,none⟩) (n.o.length+1) (n.o.length+1))=w5 at *;refine tk 15 ?_;refine tk 16 ?_;refine rd 17 λK hK=>?_
    simp only [ga,gs,gz];have yc:w5.cell? ⟨p,7,none⟩=some (sQ none 0 0):=hb.box.cell 7;have fc:=hb.box.frozen 7
    go_simp
    clear yc fc;refine hK.out _ _ trivial (λ_=>?_);clear hK K
    try simp only [ga,gs,gz,Act.put,sa,sz,ss]
    replace hb:=hb.put 7 (sQ (some ⟨g3,0,none⟩) (n.o.length+1) (n.o.length+1));generalize w5.setCell ⟨p,7,none⟩ (sQ (some ⟨g3,0,none⟩) (n.o.length+1) (n.o.length+1))=w6 at *;refine Zn1 krZ ?_ _;refine Zd1 ?_;go_wp2_with fail
    go_meet
    exact ⟨g1,g2,g3,hb.fin (.head _) (.tail _ (.tail _ (.head _))) (.tail _ (.head _)) (by have h:=hb.nd;simp at h;omega)⟩
  ·simp only [ga,gs,gz]
   go_simp
   refine hK.out _ _ trivial (λ_=>?_);clear hK K
   try simp only [ga,gs,gz,Act.put,sa,sz,ss]
   replace hb:=hb.mk_ 4 (madeCells #[.bool false] (n.o.length+1));generalize w0.alloc (.cells (madeCells #[.bool false] (n.o.length+1)) 4)=w1 at *;generalize w0.heap.size=g3 at *;refine Zo1 (rs:=[4,6]) krZ sZ ?_;refine Zf1 (o:=_) rfl (λK hK=>?_) (Zf1 (o:=_) rfl (λK hK=>?_) (Zg1))
   ·simp only [ga,gs,gz]
    go_simp
    refine hK.out _ _ trivial (λ_=>?_);clear hK K
    try simp only [ga,gs,gz,Act.put,sa,sz,ss]
    replace hb:=hb.mk_ 3 (madeCells #[nQ iQ 0] (n.o.length+1));generalize w1.alloc (.cells (madeCells #[nQ iQ 0] (n.o.length+1)) 3)=w2 at *;generalize w1.heap.size=g1 at *;refine tk 9 ?_;refine tk 10 ?_;refine Zo1 (rs:=[6,11]) krZ sZ ?_;refine Zf1 (o:=_) rfl (λK hK=>?_) (Zf1 (o:=_) rfl (λK hK=>?_) (Zg1))
    ·simp only [ga,gs,gz]
     go_simp
     refine hK.out _ _ trivial (λ_=>?_);clear hK K
     try simp only [ga,gs,gz,Act.put,sa,sz,ss]
     replace hb:=hb.mk_ 4 (madeCells #[.bool false] (n.o.length+1));generalize w2.alloc (.cells (madeCells #[.bool false] (n.o.length+1)) 4)=w3 at *;generalize w2.heap.size=g2 at *;refine rd 11 λK hK=>?_
     simp only [ga,gs,gz];have yc:w3.cell? ⟨p,4,none⟩=some (sQ none 0 0):=hb.box.cell 4;have fc:=hb.box.frozen 4
     go_simp
     clear yc fc;refine hK.out _ _ trivial (λ_=>?_);clear hK K
     try simp only [ga,gs,gz,Act.put,sa,sz,ss]
     replace hb:=hb.put 4 (sQ (some ⟨g1,0,none⟩) (n.o.length+1) (n.o.length+1));generalize w3.setCell ⟨p,4,none⟩ (sQ (some ⟨g1,0,none⟩) (n.o.length+1) (n.o.length+1))=w4 at *;refine tk 12 ?_;refine tk 13 ?_;refine rd 14 λK hK=>?_
     simp only [ga,gs,gz];have yc:w4.cell? ⟨p,6,none⟩=some (sQ none 0 0):=hb.box.cell 6;have fc:=hb.box.frozen 6
     go_simp
     clear yc fc;refine hK.out _ _ trivial (λ_=>?_);clear hK K
     try simp only [ga,gs,gz,Act.put,sa,sz,ss]
     replace hb:=hb.put 6 (sQ (some ⟨g2,0,none⟩) (n.o.length+1) (n.o.length+1));generalize w4.setCell ⟨p,6,none⟩ (sQ (some ⟨g2,0,none⟩) (n.o.length+1) (n.o.length+1))=w5 at *;refine tk 15 ?_;refine tk 16 ?_;refine rd 17 λK hK=>?_
     simp only [ga,gs,gz];have yc:w5.cell? ⟨p,7,none⟩=some (sQ none 0 0):=hb.box.cell 7;have fc:=hb.box.frozen 7
     go_simp
     clear yc fc;refine hK.out _ _ trivial (λ_=>?_);clear hK K
     try simp only [ga,gs,gz,Act.put,sa,sz,ss]
     replace hb:=hb.put 7 (sQ (some ⟨g3,0,none⟩) (n.o.length+1) (n.o.length+1));generalize w5.setCell ⟨p,7,none⟩ (sQ (some ⟨g3,0,none⟩) (n.o.length+1) (n.o.length+1))=w6 at *;refine Zn1 krZ ?_ _;refine Zd1 ?_;go_wp2_with fail
     go_meet
     exact ⟨g1,g2,g3,hb.fin (.tail _ (.head _)) (.head _) (.tail _ (.tail _ (.head _))) (by have h:=hb.nd;simp at h;omega)⟩
    ·simp only [ga,gs,gz]
     have yc:w2.cell? ⟨p,4,none⟩=some (sQ none 0 0):=hb.box.cell 4;have fc:=hb.box.frozen 4
     go_simp
     clear yc fc;refine hK.out _ _ trivial (λ_=>?_);clear hK K
     try simp only [ga,gs,gz,Act.put,sa,sz,ss]
     replace hb:=hb.put 4 (sQ (some ⟨g1,0,none⟩) (n.o.length+1) (n.o.length+1));generalize w2.setCell ⟨p,4,none⟩ (sQ (some ⟨g1,0,none⟩) (n.o.length+1) (n.o.length+1))=w3 at *;refine rd 6 λK hK=>?_
     simp only [ga,gs,gz]
     go_simp
     refine hK.out _ _ trivial (λ_=>?_);clear hK K
     try simp only [ga,gs,gz,Act.put,sa,sz,ss]
     replace hb:=hb.mk_ 4 (madeCells #[.bool false] (n.o.length+1));generalize w3.alloc (.cells (madeCells #[.bool false] (n.o.length+1)) 4)=w4 at *;generalize w3.heap.size=g2 at *;refine tk 12 ?_;refine tk 13 ?_;refine rd 14 λK hK=>?_
     simp only [ga,gs,gz];have yc:w4.cell? ⟨p,6,none⟩=some (sQ none 0 0):=hb.box.cell 6;have fc:=hb.box.frozen 6
     go_simp
     clear yc fc;refine hK.out _ _ trivial (λ_=>?_);clear hK K
     try simp only [ga,gs,gz,Act.put,sa,sz,ss]
     replace hb:=hb.put 6 (sQ (some ⟨g2,0,none⟩) (n.o.length+1) (n.o.length+1));generalize w4.setCell ⟨p,6,none⟩ (sQ (some ⟨g2,0,none⟩) (n.o.length+1) (n.o.length+1))=w5 at *;refine tk 15 ?_;refine tk 16 ?_;refine rd 17 λK hK=>?_
     simp only [ga,gs,gz];have yc:w5.cell? ⟨p,7,none⟩=some (sQ none 0 0):=hb.box.cell 7;have fc:=hb.box.frozen 7
     go_simp
     clear yc fc;refine hK.out _ _ trivial (λ_=>?_);clear hK K
     try simp only [ga,gs,gz,Act.put,sa,sz,ss]
     replace hb:=hb.put 7 (sQ (some ⟨g3,0,none⟩) (n.o.length+1) (n.o.length+1));generalize w5.setCell ⟨p,7,none⟩ (sQ (some ⟨g3,0,none⟩) (n.o.length+1) (n.o.length+1))=w6 at *;refine Zn1 krZ ?_ _;refine Zd1 ?_;go_wp2_with fail
     go_meet
     exact ⟨g1,g2,g3,hb.fin (.tail _ (.head _)) (.head _) (.tail _ (.tail _ (.head _))) (by have h:=hb.nd;simp at h;omega)⟩
   ·simp only [ga,gs,gz]
    go_simp
    refine hK.out _ _ trivial (λ_=>?_);clear hK K
    try simp only [ga,gs,gz,Act.put,sa,sz,ss]
    replace hb:=hb.mk_ 4 (madeCells #[.bool false] (n.o.length+1));generalize w1.alloc (.cells (madeCells #[.bool false] (n.o.length+1)) 4)=w2 at *;generalize w1.heap.size=g2 at *;refine rd 4 λK hK=>?_
    simp only [ga,gs,gz]
    go_simp
    refine hK.out _ _ trivial (λ_=>?_);clear hK K
    try simp only [ga,gs,gz,Act.put,sa,sz,ss]
    replace hb:=hb.mk_ 3 (madeCells #[nQ iQ 0] (n.o.length+1));generalize w2.alloc (.cells (madeCells #[nQ iQ 0] (n.o.length+1)) 3)=w3 at *;generalize w2.heap.size=g1 at *;refine tk 9 ?_;refine tk 10 ?_;refine rd 11 λK hK=>?_
    simp only [ga,gs,gz];have yc:w3.cell? ⟨p,4,none⟩=some (sQ none 0 0):=hb.box.cell 4;have fc:=hb.box.frozen 4
    go_simp
    clear yc fc;refine hK.out _ _ trivial (λ_=>?_);clear hK K
    try simp only [ga,gs,gz,Act.put,sa,sz,ss]
    replace hb:=hb.put 4 (sQ (some ⟨g1,0,none⟩) (n.o.length+1) (n.o.length+1));generalize w3.setCell ⟨p,4,none⟩ (sQ (some ⟨g1,0,none⟩) (n.o.length+1) (n.o.length+1))=w4 at *;refine tk 12 ?_;refine tk 13 ?_;refine rd 14 λK hK=>?_
    simp only [ga,gs,gz];have yc:w4.cell? ⟨p,6,none⟩=some (sQ none 0 0):=hb.box.cell 6;have fc:=hb.box.frozen 6
    go_simp
    clear yc fc;refine hK.out _ _ trivial (λ_=>?_);clear hK K
    try simp only [ga,gs,gz,Act.put,sa,sz,ss]
    replace hb:=hb.put 6 (sQ (some ⟨g2,0,none⟩) (n.o.length+1) (n.o.length+1));generalize w4.setCell ⟨p,6,none⟩ (sQ (some ⟨g2,0,none⟩) (n.o.length+1) (n.o.length+1))=w5 at *;refine tk 15 ?_;refine tk 16 ?_;refine rd 17 λK hK=>?_
    simp only [ga,gs,gz];have yc:w5.cell? ⟨p,7,none⟩=some (sQ none 0 0):=hb.box.cell 7;have fc:=hb.box.frozen 7
    go_simp
    clear yc fc;refine hK.out _ _ trivial (λ_=>?_);clear hK K
    try simp only [ga,gs,gz,Act.put,sa,sz,ss]
    replace hb:=hb.put 7 (sQ (some ⟨g3,0,none⟩) (n.o.length+1) (n.o.length+1));generalize w5.setCell ⟨p,7,none⟩ (sQ (some ⟨g3,0,none⟩) (n.o.length+1) (n.o.length+1))=w6 at *;refine Zn1 krZ ?_ _;refine Zd1 ?_;go_wp2_with fail
    go_meet
    exact ⟨g1,g2,g3,hb.fin (.head _) (.tail _ (.head _)) (.tail _ (.tail _ (.head _))) (by have h:=hb.nd;simp at h;omega)⟩
 case rest=>
  clear hW Ha x0 x1 b4 b6 b7 f4 f6 f7 h8 hr Ht;obtain ⟨g1,g2,g3,hN⟩:=hcut;obtain ⟨HL,H1,H0,H3,H2,HX,ge,H9,HB,hV,Hb,h9⟩:=hN;rw [made_arr] at hV Hb h9;have Hi:=Rt.bX hl.out
  have HD:lD n p g1 g2 g3 #[sQ A n.inn.length c,sQ N n.o.length d,sQ O n.o.length oc,sQ (some ⟨gl,0,none⟩) (n.o.length+1) (n.o.length+1),sQ (some ⟨g1,0,none⟩) (n.o.length+1) (n.o.length+1),nQ iQ lo,sQ (some ⟨g2,0,none⟩) (n.o.length+1) (n.o.length+1),sQ (some ⟨g3,0,none⟩) (n.o.length+1) (n.o.length+1),sQ none 0 0] W4 (Rt.bL n 0 []) wc:=
   ⟨HL,HB,by rw [Rt.firstMid_zero,qa9,List.map_replicate];exact hV,by rw [List.map_replicate];exact Hb,by rw [List.map_replicate];exact h9⟩
  have hv:∀u∈Nt.sO n.o,1<=u/\u<=n.o.length:=Kn.dX _ _;have h2:=λk=>@Rt.firstMid_next n k
  have h4:=λk l id h0 h1=>@Rt.firstMid_in n k l id h0 h1
  have Ho:=λk l=>Rt.firstMid_len n k l
  rw [Hi] at h2 h4;clear HL HB hV Hb h9;generalize hbxv:#[Zb1 A n.inn.length c,sQ N n.o.length d,sQ O n.o.length oc,sQ (some ⟨gl,0,none⟩) (n.o.length+1) (n.o.length+1),sQ (some ⟨g1,0,none⟩) (n.o.length+1) (n.o.length+1),nQ iQ lo,sQ (some ⟨g2,0,none⟩) (n.o.length+1) (n.o.length+1),sQ (some ⟨g3,0,none⟩) (n.o.length+1) (n.o.length+1),sQ none 0 0]=bx at *;have h5:=zI (show bx[4]? = some (sQ (some ⟨g1,0,none⟩) (n.o.length+1) (n.o.length+1)) by rw [←hbxv];rfl);obtain ⟨Hy,Hd,H4,HT,H7,Hc,hx⟩:=zd7 HD hv h2 h4 Ho Hi hbxv;clear HD hv h2 h4 Ho Hi hbxv;go_wp2_with fail
  go_loopw [10] (λt wx=>∃(k q:Nat),k<=n.o.length/\q=n.o.length-k/\t=nQ iQ (q:Int)/\lD n p g1 g2 g3 bx W4 (Rt.bL n k []) wx) (λt _=>(intOf t).toNat)
  case atStart=>exact ⟨0,_,Zt _,rfl,by simp,Hy.out⟩
  case round=>
   obtain ⟨k,q,hk,hq,rfl,hF⟩:=hrel;clear Hy
   by_cases gh:k<n.o.length
   ·obtain ⟨i,rfl⟩:∃i,q=i+1:=⟨q-1,by omega⟩
    have HH:i<n.o.length:=by omega
    have hi:n.o.length-1-k=i:=by omega
    have hz:=H4.out k;rw [hi] at hz;obtain ⟨bo,oo,H8,-,hc⟩:=HP.out.below hF.later (lrZ _) i (by rw [Hc.out];exact HH);have H5:=Hd.out ((Nt.sO n.o).getD i 0) (by rw [qa1 (show i<(Nt.sO n.o).length by rw [Hc.out];exact HH)];exact gmZ _);obtain ⟨j,hj⟩:∃j:Nat,(Nt.sO n.o).getD i 0=(j:Int)+1:=⟨((Nt.sO n.o).getD i 0-1).toNat,by omega⟩
    have hM:j<n.o.length:=by omega
    have Hu:Nt.iF n.o ((j:Int)+1)=n.o[j].ins:=by unfold Nt.iF;rw [Nt.dH hM]
    rw [hj] at hz hc;rw [Hu] at hz;obtain ⟨b1,o1,J,jc,HI,y8,hJ⟩:=(HR.out.below hL.out (lrZ _)).rD hM;have gc:=(hH.out.2.2 _ (gmZ hM)).2.2.1;have ho:=Rt.qL hl.out hM;have x8:=hF.later.cell y8;have x1:=(hF.later.blk HW.out).cell 1;simp at x1;rw [HI] at x1;generalize n.o[j].ins=il at *;have j1:iQ.wrap ((j:Int)+1-1)=(j:Int):=by rw [Zc1 _ oZ];omega
    have j3:(0:Int)<=(j:Int):=by omega
    have j4:(j:Int)<n.o.length:=by omega
    have i1:iQ.wrap ((i:Int)+1-1)=(i:Int):=by rw [Zc1 _ oZ];omega
    have i3:(0:Int)<=(i:Int):=by omega
    have i4:(i:Int)<n.o.length:=by omega
    subst H8;have Hm:=zI (λm=>hF.to_later (Later.drewN (Later.refl wr) m));obtain ⟨HQ,gf,hG,HJ⟩:=zd4 hq hz ho hJ;clear hz ho hJ;clear hF hi hj Hu HI y8 H5 hq;go_wp2_with fail
    go_quiet (fail)
    have Hz:=zI (Hm.out nq);generalize wr.drewN nq=wd at *;clear Hm hc x8 x1 j1 i1;go_wp2_with fail;obtain ⟨wo,rfl⟩:∃wo,wo=wr:=⟨wr,rfl⟩
    go_loopw [80] (λt wx=>∃m:Nat,m<=il.length/\t=nQ iQ (m:Int)/\lD n p g1 g2 g3 bx W4 (Rt.bL n k (il.take m)) wx) (λt _=>il.length-(intOf t).toNat)
    case atStart=>exact ⟨0,Zt _,rfl,Hz.out⟩
    case round=>
     clear Hz;obtain ⟨m,hm,rfl,hF⟩:=hrel
     by_cases hQ:m<il.length
     ·obtain ⟨b2,o2,HU,-,HC⟩:=HJ.out.below hF.later (lrZ _) m hQ
      rw [qa1 hQ] at HC;have hI:=hG.out _ (gmZ hQ);obtain ⟨u,hu⟩:=ezZ hI.1
      have HM:=zI (show Rt.bL n k (il.take (m+1))=(Rt.bL n k (il.take m)).set u ((i+1:Nat):Int) by
       rw [Zb hQ,HT.out _ _ _ hI.1 hI.2,hu,tnZ,HQ.out])
      rw [hu] at HC hI;have Hr:=H7.out k (il.take m);have HY:u<n.o.length+1:=by omega
      obtain ⟨y,hy⟩:=hF.first.has (j:=u) (by rw [qat,Hr];exact HY)
      have fy:=hF.first.frozen u
      have x4:wr.cell? ⟨p,4,none⟩=some (sQ (some ⟨g1,0,none⟩) (n.o.length+1) (n.o.length+1)):=by rw [hF.box.cell,h5.out]
      have hY:=hF.put oZ oZ oZ oZ u ((i+1:Nat):Int);rw [←HM.out] at hY;have m1:(m:Int)<il.length:=by omega
      have u0:(0:Int)<=(u:Int):=by omega
      have u1:(u:Int)<(n.o.length:Int)+1:=by omega
      have u2:(u:Int)<((n.o.length+1:Nat):Int):=by omega
      subst HU;have HS:=zI hY;clear hY;clear hF hI hu Hr HM;go_wp2_with fail;go_roundw
      case rel=>exact ⟨m+1,by omega,by go_num,HS.out⟩
      case measure=>simp [intOf];omega
     ·obtain rfl:m=il.length:=by omega
      rw [Zg,gf.out] at hF;have q1:iQ.wrap ((i:Int)+1-1)=(i:Int):=by rw [Zc1 _ oZ];omega
      have HF:=zI hF;clear hF;go_wp2_with fail;clear q1;go_roundw
      case rel=>exact ⟨k+1,i,by omega,by have:=HQ.out;omega,rfl,HF.out⟩
      case measure=>first|(simp [intOf];done)|(simp [intOf];omega)
   ·obtain rfl:k=n.o.length:=by omega
    obtain rfl:q=0:=by omega
    clear hq;have x7:wr.cell? ⟨p,7,none⟩=some (sQ (some ⟨g3,0,none⟩) (n.o.length+1) (n.o.length+1)):=by rw [hF.box.cell,←hx.out];rfl
    obtain ⟨y,hy⟩:=hF.aC.has (j:=0) sZ;have fy:=hF.aC.frozen 0;have q0:(0:Int)<(n.o.length:Int)+1:=by omega
    have He:=hF.aC.aU 0 (.bool true);rw [qaE] at He;have hB:=hF.box.far (p:=⟨g3,0,none⟩) (show p≠g3 by omega) (.bool true);have Hl:=hF.first.far (p:=⟨g3,0,none⟩) (show g1≠g3 by omega) (.bool true)
    have hs:=hF.kept.far (p:=⟨g3,0,none⟩) (show g2≠g3 by omega) (.bool true);have hD:=hF.later.set (p:=⟨g3,0,none⟩) (show W4.heap.size<=g3 by omega) (.bool true);have hE:(wr.setCell ⟨g3,0,none⟩ (.bool true)).heap.size=wr.heap.size:=by simp
    have h3:=hF.first.lt
    have Hh:=hF.kept.lt;have h7:=hF.aC.lt;obtain ⟨HZ,Hg,gb,hP,ht,Hf⟩:=zd6 He hB Hl hs hD hE;clear He hB Hl hs hD hE;clear hF;go_wp2_with fail
    go_ret2
    refine ⟨.inr ⟨hl.out,⟨A,N,O,c,d,oc,gl,p,g1,g2,g3,wr.heap.size⟩,W4,⟨hH.out,hl.out,h12,HR.out.below hL.out (lrZ _),hd,HP.out,h6.out,H1,H0,H3,H2,HX,ge,H9,h3,Hh,h7⟩,hL.out,rfl,?_⟩,hL.out.trans ht.out⟩;refine ⟨ht.out,⟨sQ none 0 0,?_,World.ownsRow_nil _ _ _ _⟩,?_,hP.out,HZ.out,by simp,by simp [Rt.start],by rw [Hf.out];exact lrZ _⟩
    ·have:=Hg.out
     rw [←hx.out,←HV.out] at this;exact this
    ·rw [Hc.out];exact gb.out
def qhI (N:Nat) (l:List Int):List Bool:=l.foldl (λkb id=>kb.set id.toNat true) (Zc (N+1) false)
theorem qhJ (N:Nat) (l:List Int) (id:Int):qhI N (l++[id])=(qhI N l).set id.toNat true:=by simp [qhI]
theorem kbTo_at (N:Nat) {l:List Int} (hl:∀z∈l,1<=z/\z<=N) {id:Nat} (hid:id<=N):Ck.at_ (qhI N l) id=l.contains (id:Int):=by
 have key:∀(l:List Int) (kb:List Bool),(∀z∈l,1<=z/\z<=N)->kb.length=N+1->(l.foldl (λkb id=>kb.set id.toNat true) kb).getD id false=(kb.getD id false || l.contains (id:Int)):=by
  intro l
  induction l with
  | nil=>intro kb _ _;simp
  | cons x r ih=>
   intro kb h hk;have hx:=h x sZ;rw [List.foldl_cons,ih _ (λz hz=>h z (by simp [hz])) (by rw [List.length_set];exact hk)];rw [gdZ,gdZ,List.getElem?_set]
   by_cases e:x.toNat=id
   ·have e2:(id:Int)=x:=by omega
    rw [ipZ e,ipZ (show x.toNat<kb.length by omega),e2];simp
   ·have e2:¬(id:Int)=x:=by omega
    simp [e,e2]
 unfold Ck.at_ qhI;rw [tnZ,key l _ hl sZ]
 have h0:(Zc (N+1) false).getD id false=false:=by
  rw [gdZ,List.getElem?_replicate]
  split<;>rfl
 rw [h0]
 rfl
theorem rH.of {n:aA} {keep:List Int} (h:∀z∈keep,1<=z/\z<=n.o.length):rH n keep (qhI n.o.length keep):=λid ha=>kbTo_at n.o.length h ha
theorem RtM.set_kept {a:RtA} {n:aA} {kb:List Bool} {W0 W:Zp1} {s:RtS} (hS:a.Still n W0) (h:RtM a n kb W0 s W) (i:Nat) (b:Bool):RtM a n (kb.set i b) W0 s (W.setCell ⟨a.g2,i,none⟩ (.bool b)):=by
 have i1:=hS.hp;have i2:=hS.h1;have i3:=hS.h2;have i4:=hS.h3;have i5:=hS.n12;have i6:=hS.n23;have i7:=hS.b2;have i8:=h.hB;obtain ⟨v,hb,ho⟩:=h.box;have hk:=h.kept.aU i (.bool b);rw [qaE] at hk;have ha:=Below.heap_setCell W ⟨a.g2,i,none⟩ (.bool b);exact ⟨h.later.set (p:=⟨a.g2,i,none⟩) soZ _,⟨v,hb.far (p:=⟨a.g2,i,none⟩) soZ _,qa5 ho λg hg=>ha g (by have:=(ho.lt g hg).1;show g≠a.g2;omega)⟩,h.first.far (p:=⟨a.g2,i,none⟩) soZ _,hk,h.aC.far (p:=⟨a.g2,i,none⟩) soZ _,by rw [List.length_set];exact h.lk,h.lp,by simpa using h.hB⟩
theorem Rt.bwdN_zero {n:aA} (h:Nt.check n=0) (keep:List Int) {k:Nat} (hk:k<=n.o.length):Ck.at_ (dV n keep k).aC 0=true:=(qeq h keep (k:=k) (by rw [Rt.bX h];exact hk)).zero
def qbh (N:Nat) (keep:List Int):Bool:=keep.all λz=>decide (1<=z)&&decide (z<=(N:Int))
theorem mE {N:Nat} {keep:List Int}:qbh N keep=true↔∀z∈keep,1<=z/\z<=N:=by simp [qbh]
theorem qgt {N:Nat} {keep:List Int} {k:Nat} (hk:k<keep.length) (h:¬(1<=keep[k]/\keep[k]<=N)):qbh N keep=false:=by
 cases hb:qbh N keep
 ·rfl
 ·exact absurd (mE.1 hb _ (gmZ hk)) h
def LowerP (n:aA) (keep:List Int) (W:Zp1) (e:Ending) (w':Zp1):Prop:=
 Later W w'/\((Nt.check n≠0/\e=.returned (.tuple #[sQ none 0 0,nQ iQ (Nt.check n)]))∨(Nt.check n=0/\qbh n.o.length keep=false/\e=.returned (.tuple #[sQ none 0 0,nQ iQ 11]))∨
  (Nt.check n=0/\qbh n.o.length keep=true/\∃C cc,e=.returned (.tuple #[sQ C (Rt.lW n keep).code.length cc,nQ iQ 0])/\bE w' C (Rt.lW n keep).code))
def rM (n:aA) (keep:List Int) (W:Zp1) (e:Ending) (w':Zp1):Prop:=
 Later W w'/\((Nt.check n≠0/\e=.returned (.tuple #[sQ none 0 0,nQ iQ (Nt.check n)]))∨(Nt.check n=0/\qbh n.o.length keep=false/\e=.returned (.tuple #[sQ none 0 0,nQ iQ 11]))∨
  (Nt.check n=0/\qbh n.o.length keep=true/\∃C cc,e=.returned (.tuple #[sQ C (Rt.lW n keep).code.length cc,nQ iQ 0])/\bE w' C (Rt.lW n keep).code/\∀a,C=some a->W.heap.size<=a.block))
theorem rM.p {n:aA} {keep:List Int} {W:Zp1} {e:Ending} {w':Zp1} (h:rM n keep W e w'):LowerP n keep W e w':=by
 obtain ⟨h1,h2|h2|⟨a,b,C,cc,c,d,-⟩⟩:=h
 ·exact ⟨h1,.inl h2⟩
 ·exact ⟨h1,.inr (.inl h2)⟩
 ·exact ⟨h1,.inr (.inr ⟨a,b,C,cc,c,d⟩)⟩
set_option maxRecDepth 100000 in
theorem qce (A N K:Option Addr) (c d ck:Nat) (n:aA) (keep:List Int) (W:Zp1) (hok:n.ok) (hR:bH W A N n) (hd:n.o.length<=d) (h12:n.o.length<=12) (hK:Ints iQ W K keep) (hkl:keep.length<=9223372036854775807):
  Calls prog 78 #[.agg #[sQ A n.inn.length c,sQ N n.o.length d],sQ K keep.length ck] W (rM n keep W):=by
 have Hb:=Blk.new W 26 #[sQ A n.inn.length c,sQ N n.o.length d];have hX:Later W (W.alloc (.cells #[sQ A n.inn.length c,sQ N n.o.length d] 26)):=(Later.refl W).alloc _;obtain ⟨HR,HB,hF,hC,HK⟩:=zd5 hR hok Hb hX hK;clear hR hok Hb hX hK;go_in;go_wp2_with fail;generalize W.alloc (.cells #[sQ A n.inn.length c,sQ N n.o.length d] 26)=W1 at *;refine (qfg A N c d n W1 HB.out (HR.out.below hC.out (lrZ _)) hd h12).mono ?_;rintro e W2 ⟨⟨hb,rfl⟩|⟨hb,a,W0,hS,hi,rfl,hM⟩,he⟩
 ·have HC:(Nt.check n != 0)=true:=by simp [hb]
  have hv:=hC.out.trans he;obtain ⟨ht,hO⟩:=zd2 hb hv;clear hb hv;clear he;go_wp2_with fail
  go_ret2
  exact ⟨hO.out,.inl ⟨ht.out,rfl⟩⟩
 have Hc:=he.blk hF.out;have HF:W.heap.size<a.p:=by have h1:=hF.out.lt;have h2:=Below.size hi;have h3:=hS.hp;omega
 have hv:=hC.out.trans he;have hB:=hC.out.trans hi;have hr:=(Nt.dD (Nt.aK hb).2.2.2.2.2.2.1).2;obtain ⟨lu,hT⟩:=ezZ (show 0<=Nt.aI n.o by omega);rw [hT] at hr;have h6:=Rt.oD hb;have Hd:=λk h=>Rt.iV hb h12 keep k h
 have h8:=Rt.nH hb keep;have Hk:=Rt.bX hb;have hz:=λk (h:k<=n.o.length)=>Rt.bwdN_zero hb keep h
 obtain ⟨ht,Hy,hO,hl,HS,HM,Hg,Hn,Ht⟩:=zd9 hb Hc hv hB hS hM hT h6 Hd;obtain ⟨HE,hD,Hz⟩:=zd3 h8 Hk hz;clear hb Hc hv hB hS hM hT h6 Hd h8 Hk hz;clear hi he hF;go_wp2_with fail
 go_loopw [9,20] (λ_ t wx=>∃k:Nat,k<=keep.length/\t=nQ iQ (k:Int)/\(∀z∈keep.take k,1<=z/\z<=n.o.length)/\RtM a n (qhI n.o.length (keep.take k)) W0 (Rt.start (n.o.length+1)) wx/\Later W wx/\Blk wx W.heap.size 26 #[sQ A n.inn.length c,sQ N n.o.length d]) (λ_ t _=>keep.length-(intOf t).toNat)
 case atStart=>exact ⟨0,Zt _,rfl,by simp,HM.out,hO.out,Hy.out⟩
 case round=>
  obtain ⟨k,hk,rfl,ha,hf,hg,hj⟩:=hrel;clear HM
  by_cases hE:k<keep.length
  ·obtain ⟨b,off,Hl,-,hc⟩:=HK.out.below hg (lrZ _) k hE
   rw [qa1 hE] at hc;have x1:=hj.cell 1;simp at x1;have hh:=@qgt n.o.length keep k hE;have HT:=zI (Zb hE);obtain ⟨v,-,-,-,-,-,-,-,-,c6,-,-⟩:=hf.eB;have k0:(k:Int)<keep.length:=by omega
   subst Hl;generalize keep[k]=z at *
   by_cases hw:1<=z/\z<=n.o.length
   ·obtain ⟨u,hu⟩:=ezZ (show 0<=z by omega)
    have Hw:u<=n.o.length:=by omega
    have x0:=hf.jH Hw;have f0:wr.frozen? ⟨a.g2,u,none⟩=false:=hf.kept.frozen u;have hV:=hf.set_kept HS.out u true;have Hj:=hj.far (p:=⟨a.g2,u,none⟩) (by have:=HS.out.h2;show W.heap.size≠a.g2;omega) (.bool true);have hY:=hg.set (p:=⟨a.g2,u,none⟩) (by have:=HS.out.h2;show W.heap.size<=a.g2;omega) (.bool true);have hA:qhI n.o.length (keep.take (k+1))=(qhI n.o.length (keep.take k)).set u true:=by rw [HT.out,qhJ,hu,tnZ]
    rw [←hA] at hV
    have hq:∀y∈keep.take (k+1),1<=y/\y<=n.o.length:=λy hy=>by
     rw [HT.out] at hy;rcases List.mem_append.1 hy with h|h
     ·exact ha y h
     ·simp at h;subst h;exact hw
    have e1:decide (z<1)=false:=by simp;omega
    have e2:decide ((n.o.length:Int)<z)=false:=by simp;omega
    have e3:¬z<1:=by omega
    have e4:¬(n.o.length:Int)<z:=by omega
    subst hu;have q1:(0:Int)<=(u:Int):=by omega
    have q2:(u:Int)<((n.o.length+1:Nat):Int):=by omega
    obtain ⟨Ho,Hm,Hv,hL⟩:=zd4 hV Hj hY hq;clear hV Hj hY hq;clear hf hg hj ha hh HT hA hw;go_wp2_with fail;go_roundw
    case rel=>exact ⟨k+1,by omega,by go_num,hL.out,Ho.out,Hv.out,Hm.out⟩
    case measure=>simp [intOf];omega
   ·have HN:=zI (hh hw)
    have hU:=zI hg;clear hg;clear hf hj ha hh HT
    by_cases h1:z<1
    ·have e1:decide (z<1)=true:=by simp [h1]
     clear hw;go_wp2_with fail
     go_ret2
     exact ⟨hU.out,.inr (.inl ⟨ht.out,HN.out,rfl⟩)⟩
    ·have e1:decide (z<1)=false:=by simp;omega
     have e2:decide ((n.o.length:Int)<z)=true:=by simp;omega
     have e4:(n.o.length:Int)<z:=by omega
     clear hw;go_wp2_with fail
     go_ret2
     exact ⟨hU.out,.inr (.inl ⟨ht.out,HN.out,rfl⟩)⟩
  ·obtain rfl:k=keep.length:=by omega
   rw [Zg] at ha hf;have hA:=rH.of ha;have Hf:=mE.2 ha;have h9:RtM a n (qhI n.o.length keep) W0 (Rt.eH n keep 0) wr:=hf;generalize qhI n.o.length keep=kb at *;obtain ⟨He,Hs,Hq,hU⟩:=zd4 hA Hf h9 hg;clear hA Hf h9 hg;clear hf hj ha;go_wp2_with fail;refine (qdD a n keep kb W0 wr HS.out He.out Hq.out).mono ?_;rintro e w3 ⟨rfl,h0,-⟩;have hI:n.o.length*(n.o.length+3)<=12*15:=Nat.mul_le_mul oZ oZ;have Hu:=Hn.out keep n.o.length (by rw [hD.out];exact lrZ _);have HA:=zI (qb5 a n kb W0 _ w3 HS.out h0 4 0 oZ);clear h0;go_wp2_with fail;refine HA.out.mono ?_;rintro e w4 ⟨rfl,hG,-⟩;obtain ⟨v4,-,-,-,-,-,-,-,c5,-,-,-⟩:=hG.eB;rw [Hg.out] at c5;have Hr:(Rt.add 4 0 (Rt.eH n keep n.o.length)).code.length<=200:=by unfold Rt.add;simp;omega
   have Hi:=zI (qbW a n kb W0 _ w4 HS.out hG lu oZ oZ);clear HA hG;go_wp2_with fail;refine Hi.out.mono ?_;rintro e w5 ⟨rfl,Ha,-⟩;have Hx:(Rt.drop (lu:Int) (Rt.add 4 0 (Rt.eH n keep n.o.length))).code.length<=201:=by unfold Rt.drop;simp;omega
   have hZ:=zI (qb5 a n kb W0 _ w5 HS.out Ha 5 0 oZ);clear Hi Ha c5;go_wp2_with fail;refine hZ.out.mono ?_;rintro e w6 ⟨rfl,hN,-⟩
   have hn:Rt.add 5 0 (Rt.drop (lu:Int) (Rt.add 4 0 (Rt.eH n keep n.o.length)))=Rt.dV n keep 0:=by
    show _=Rt.jP n keep
    unfold Rt.jP;rw [Hg.out,hD.out]
   rw [hn] at hN;have h7:=zI (qd6 a n keep kb W0 w6 HS.out He.out hN Hz.out);clear hZ hN hn Hr Hx Hu hI;go_wp2_with fail;refine h7.out.mono ?_;rintro e w7 ⟨rfl,hQ,-⟩;have HD:=Ht.out n.o.length (by rw [hD.out];exact lrZ _);have Hh:=zI (qbV a n kb W0 _ w7 hQ oZ);have Hp:Hid (Rt.lW n keep=Rt.dV n keep n.o.length):=zI (by rw [Rt.jB,hD.out]);generalize Rt.dV n keep n.o.length=s at *;have hW:=zI hQ;clear hQ;clear h7;go_wp2_with fail;refine Hh.out.mono ?_;rintro e w8 ⟨rfl,rfl⟩;obtain ⟨v,-,ho,-,-,-,-,-,-,-,-,c8⟩:=hW.out.eB;obtain ⟨C,cc,rfl⟩:=qa8 ho
   have hP:bE w7 C s.code:=by
    obtain ⟨A',c',e',_,hp⟩:=bE.kE ho;injection e' with e';subst e';exact hp
   have hs:=hl.out.trans hW.out.later
   have hm:∀x,C=some x->W.heap.size<=x.block:=λx hx=>by
    subst hx;have h1:=(ho.lt x.block rfl).1;have h2:=HS.out.hp;have h3:=HS.out.h1;have h4:=HS.out.b1;have h5:=Below.size hl.out;omega
   obtain ⟨HP,hJ,hH⟩:=zd3 hP hs hm;clear hP hs hm;clear ho Hh;go_wp2_with fail
   go_ret2
   refine ⟨hJ.out,.inr (.inr ⟨ht.out,Hs.out,?_⟩)⟩;rw [Hp.out];exact ⟨C,cc,rfl,HP.out,hH.out⟩
theorem qfN {m:Nat}:∀z∈ones m,1<=z/\z<=(m:Int):=λz hz=>by
 unfold ones at hz;obtain ⟨i,hi,rfl⟩:=List.mem_map.1 hz;have:=List.mem_range.1 hi;omega
theorem qcf {m:Nat} {kept:List Int} (h:∀z∈kept,1<=z/\z<=(m:Int)):qbh m kept=true:=by
 exact mE.2 h
def Gr.kK (n:aA) (cap:Int):Option (List Int):=Gr.fit (Gr.aB n) (Nt.words n) cap (n.o.length+1) (ones n.o.length)
def Gr.jO (p:Nat) (W:Zp1):Nat:=match W.cell? ⟨p,3,none⟩ with|some (.slice _ l _)=>l|_=>0
theorem GrM.jO {A N:Option Addr} {c d g k p:Nat} {n:aA} {W0 W:Zp1} {kept:List Int} (h:GrM A N c d n W0 g k p kept W):Gr.jO p W=kept.length:=by
 have h3:W.cell? ⟨p,3,none⟩=some (sQ (some ⟨k,0,none⟩) kept.length n.o.length):=h.box.cell 3;unfold Gr.jO;rw [h3]
theorem Rt.iI {n:aA} (h:Nt.check n=0) (h12:n.o.length<=12) (keep:List Int):(Rt.lW n keep).code.length<=1000:=by
 rw [Rt.jB];exact Rt.iV h h12 keep _ (lrZ _)
theorem qd7 (A N K:Option Addr) (c d ck:Nat) (n:aA) (keep:List Int) (W:Zp1) (hok:n.ok) (hch:Nt.check n=0) (hR:bH W A N n) (hd:n.o.length<=d) (h12:n.o.length<=12) (hK:Ints iQ W K keep) (hkl:keep.length<=9223372036854775807) (hk:∀z∈keep,1<=z/\z<=(n.o.length:Int)):
  Calls prog 78 #[.agg #[sQ A n.inn.length c,sQ N n.o.length d],sQ K keep.length ck] W λe w'=>∃C cc,e=.returned (.tuple #[sQ C (Rt.lW n keep).code.length cc,nQ iQ 0])/\bE w' C (Rt.lW n keep).code/\Later W w'/\∀a,C=some a->W.heap.size<=a.block:=by
 refine (qce A N K c d ck n keep W hok hR hd h12 hK hkl).mono ?_;rintro e w' ⟨hl,⟨hx,-⟩|⟨-,hx,-⟩|⟨-,-,C,cc,he,hC,ha⟩⟩
 ·exact absurd hch hx
 ·rw [qcf hk] at hx;cases hx
 ·exact ⟨C,cc,he,hC,hl,ha⟩
set_option maxRecDepth 100000 in
theorem qcY (A N:Option Addr) (c d g k p:Nat) (n:aA) (W0:Zp1) (kept:List Int) (W:Zp1) (hok:n.ok) (hch:Nt.check n=0) (hR:bH W0 A N n) (hd:n.o.length<=d) (h12:n.o.length<=12) (hM:GrM A N c d n W0 g k p kept W):
  Calls prog 66 #[.pointer (some ⟨p,0,none⟩)] W λe w'=>∃C cc,e=.returned (.tuple #[sQ C (Rt.lW n kept).code.length cc,nQ iQ (Gr.aB n kept),nQ iQ 0])/\bE w' C (Rt.lW n kept).code/\Later W w'/\∀a,C=some a->W.heap.size<=a.block:=by
 obtain ⟨hk,-⟩:=Gr.peak_all hch hok h12 kept;have hi:Gr.lK n (Rt.lW n kept).code=(Gr.aB n kept,0):=by unfold Gr.lK;rw [ipZ hk];rfl
 have ho:=Rt.iI hch h12 kept;have hl:=λ(X:Zp1) (h:Later W X)=>qd7 A N (some ⟨k,0,none⟩) c d n.o.length n kept X hok hch (hR.below (hM.later.trans h) (lrZ _)) hd h12 (hM.ints.below h (lrZ _)) (by obtain ⟨r,-,hr⟩:=hM.row;omega) hM.rng
 have hb:=λ(X:Zp1) (h:Later W X) (C:Option Addr) (cc:Nat) (hC:bE X C (Rt.lW n kept).code)=>qfb A N C c d cc n (Rt.lW n kept).code X hok hch (hR.below (hM.later.trans h) (lrZ _)) hd oZ oZ hC
 rw [hi] at hb;have x0:W.cell? ⟨p,0,none⟩=some (sQ A n.inn.length c):=hM.box.cell 0;have x1:W.cell? ⟨p,1,none⟩=some (sQ N n.o.length d):=hM.box.cell 1;have x3:W.cell? ⟨p,3,none⟩=some (sQ (some ⟨k,0,none⟩) kept.length n.o.length):=hM.box.cell 3;generalize Gr.aB n kept=pk at *;generalize (Rt.lW n kept).code=cd at *;obtain ⟨Hl,hf⟩:=zd2 hl hb;clear hl hb;clear hk hi ho hM hR hok hch;go_in;go_wp2_with fail;have KF:=zI (show ∀Xw,Later W Xw->Xw.cell? ⟨p,0,none⟩=some (sQ A n.inn.length c)/\Xw.cell? ⟨p,1,none⟩=some (sQ N n.o.length d)/\Xw.cell? ⟨p,3,none⟩=some (sQ (some ⟨k,0,none⟩) kept.length n.o.length) from λXw h=>⟨h.cell x0,h.cell x1,h.cell x3⟩);refine Zm1 ?_;refine Zl1 (S:=λXw=>Xw.cell? ⟨p,0,none⟩=some (sQ A n.inn.length c)/\Xw.cell? ⟨p,1,none⟩=some (sQ N n.o.length d)/\Xw.cell? ⟨p,3,none⟩=some (sQ (some ⟨k,0,none⟩) kept.length n.o.length)) krZ (KF.out _ Lau) (λhHeld=>?_);refine tk 0 ?_;refine tk 1 ?_;refine tk 2 ?_;refine tk 3 ?_;refine tk 4 ?_;refine tk 5 ?_;refine tk 6 ?_;refine tk 7 ?_;refine rd 8 λK hK=>?_
 simp only [ga,gs,gz]
 go_simp
 go_at_call 78;(with_reducible refine (Hl.out _ (Lau:Later W _)).mono ?_);rintro e wa ⟨C,cc,rfl,hC,hg,hh⟩
 replace hg:Below _ _ wa:=hg;have hs:=zI hh;clear hh;have HC:=zI hC;clear hC
 try go_wp2_with fail
 refine hK.out _ _ (KF.out _ Lau) (λhHeld=>?_);clear hK K
 try simp only [ga,gs,gz,Act.put,sa,sz,ss]
 refine tk 9 ?_;refine tk 10 ?_;refine tk 11 ?_;refine tk 12 ?_;refine tk 13 ?_;clear KF;refine Zn1 krZ ?_ _;refine Zd1 ?_;have hc:Later W wa:=Lau;have x0':=hc.cell x0;have x1':=hc.cell x1;have hn:=zI (hf.out wa hc C cc HC.out);have hp:=zI hc;clear hc;clear hg x0 x1 x3;go_wp2_with fail;refine hn.out.mono ?_;rintro e wb ⟨rfl,he⟩;have hm:=hp.out.trans he;have hj:=HC.out.below he (lrZ _);obtain ⟨ht,hq⟩:=zd2 hm hj;clear hm hj;clear he;go_wp2_with fail
 go_ret3
 exact ⟨C,cc,rfl,hq.out,ht.out,λa ha=>by have:=hs.out a ha;rwa [World.size_drew] at this⟩
set_option maxRecDepth 100000 in
theorem qcg (A N:Option Addr) (c d:Nat) (n:aA) (W:Zp1) (hok:n.ok) (hR:bH W A N n) (hd:n.o.length<=d) (h12:n.o.length<=12):
  Calls prog 65 #[.agg #[sQ A n.inn.length c,sQ N n.o.length d]] W λe w'=>
   (Nt.check n≠0/\e=.returned (.tuple #[.pointer none,nQ iQ (Nt.check n)])/\Later W w')∨(Nt.check n=0/\∃g k p,e=.returned (.tuple #[.pointer (some ⟨p,0,none⟩),nQ iQ 0])/\GrM A N c d n W g k p (ones n.o.length) w'):=by
 have hv:=Blk.new W 26 #[sQ A n.inn.length c,sQ N n.o.length d];have hq:Later W (W.alloc (.cells #[sQ A n.inn.length c,sQ N n.o.length d] 26)):=(Later.refl W).alloc _;obtain ⟨HR,hD,hw,ht⟩:=zd4 hR hok hv hq;clear hR hok hv hq;go_in;go_wp2_with fail;generalize W.alloc (.cells #[sQ A n.inn.length c,sQ N n.o.length d] 26)=W1 at *;refine (qb1 A N c d n W1 hD.out (HR.out.below ht.out (lrZ _)) hd).mono ?_;rintro e W2 ⟨rfl,h2⟩;have ha:Later W1 W2:=h2;have hi:=ht.out.trans ha;have he:=ha.blk hw.out;clear h2 ha hw
 by_cases hb:Nt.check n=0
 rotate_left
 ·have hN:(Nt.check n != 0)=true:=by simp [hb]
  obtain ⟨hh,hc⟩:=zd2 hb hi;clear hb hi;clear he;go_wp2_with fail
  go_ret2
  exact .inl ⟨hh.out,rfl,hc.out⟩
 rw [hb];have e0:=he.cell 0;have e1:=he.cell 1;simp at e0 e1;obtain ⟨hc,hC,hh⟩:=zd3 hi he hb;clear hi he hb;go_wp2_with fail;refine (qby A N c d n W2 hD.out (HR.out.below hc.out (lrZ _)) hd oZ).mono ?_;rintro e W3 ⟨h3,⟨_,g,g2,rfl,hG,-⟩|⟨h0,-⟩⟩
 rotate_left
 ·exact absurd hh.out h0
 have hn:Later W2 W3:=h3;have hz:=Blk.new W3 55 #[sQ (some ⟨g,0,none⟩) (n.o.length+1) (n.o.length+1),sQ (some ⟨g2,0,none⟩) (n.o.length+1) (n.o.length+1),nQ iQ (Nt.total n)];have hg:Later W3 (W3.alloc (.cells #[sQ (some ⟨g,0,none⟩) (n.o.length+1) (n.o.length+1),sQ (some ⟨g2,0,none⟩) (n.o.length+1) (n.o.length+1),nQ iQ (Nt.total n)] 55)):=(Later.refl W3).alloc _;have hp:=(hn.trans hg).blk hC.out;have hr:=(hc.out.trans hn).trans hg;have hF:=hg.blk hG;obtain ⟨hJ,hE,hy,hu⟩:=zd4 hz hp hr hF;clear hz hp hr hF;clear h3 hn hg hG hC hc e0 e1;go_wp2_with fail;generalize W3.alloc (.cells #[sQ (some ⟨g,0,none⟩) (n.o.length+1) (n.o.length+1),sQ (some ⟨g2,0,none⟩) (n.o.length+1) (n.o.length+1),nQ iQ (Nt.total n)] 55)=W4 at *;generalize W3.heap.size=pb at *;have e0:W4.cell? ⟨W.heap.size,0,none⟩=some (sQ A n.inn.length c):=hE.out.cell 0;have e1:W4.cell? ⟨W.heap.size,1,none⟩=some (sQ N n.o.length d):=hE.out.cell 1;have p0:W4.cell? ⟨pb,0,none⟩=some (sQ (some ⟨g,0,none⟩) (n.o.length+1) (n.o.length+1)):=hJ.out.cell 0;have hl:=qaO n.o.length;have hH:=zI λ(X:Zp1)=>(qds A N c d n X oZ).mono λe w' ⟨h1,h2,h3⟩=>(⟨by rw [h1,hl],h2,h3⟩:e=Ending.returned (Zb1 (some ⟨X.heap.size+1,0,none⟩) n.o.length n.o.length)/\Blk w' (X.heap.size+1) 3 (qa9 (ones n.o.length)).toArray/\Later X w')
 have hx:=zI hl;clear hl;have KF:=zI (show ∀Xw,Later W4 Xw->Xw.cell? ⟨W.heap.size,0,none⟩=some (sQ A n.inn.length c)/\Xw.cell? ⟨W.heap.size,1,none⟩=some (sQ N n.o.length d)/\Xw.cell? ⟨pb,0,none⟩=some (sQ (some ⟨g,0,none⟩) (n.o.length+1) (n.o.length+1)) from λXw h=>⟨h.cell e0,h.cell e1,h.cell p0⟩);refine Zm1 ?_;refine Zl1 (S:=λXw=>Xw.cell? ⟨W.heap.size,0,none⟩=some (sQ A n.inn.length c)/\Xw.cell? ⟨W.heap.size,1,none⟩=some (sQ N n.o.length d)/\Xw.cell? ⟨pb,0,none⟩=some (sQ (some ⟨g,0,none⟩) (n.o.length+1) (n.o.length+1))) krZ (KF.out _ Lau) (λhHeld=>?_);refine tk 0 ?_;refine tk 1 ?_;refine tk 2 ?_;refine tk 3 ?_;refine rd 4 λK hK=>?_
 simp only [ga,gs,gz]
 go_simp
 go_at_call 22;(with_reducible refine (hH.out _).mono ?_);rintro e wa ⟨rfl,hB,hm⟩
 replace hm:Below _ _ wa:=hm;have HB:=zI hB;clear hB
 try go_wp2_with fail
 refine hK.out _ _ (KF.out _ Lau) (λhHeld=>?_);clear hK K
 try simp only [ga,gs,gz,Act.put,sa,sz,ss]
 refine tk 5 ?_;refine rd 6 λK hK=>?_
 simp only [ga,gs,gz]
 go_simp
 refine hK.out _ _ (KF.out _ Lau) (λhHeld=>?_);clear hK K
 try simp only [ga,gs,gz,Act.put,sa,sz,ss]
 refine tk 7 ?_;refine tk 8 ?_;clear KF;refine Zn1 krZ ?_ _;refine Zd1 ?_;have hj:Later W4 wa:=Lau;have hk:=HB.out;rw [World.size_drew] at hk;have ho:=hj.blk hu.out;have hM:=hk.lt;have hL:=hu.out.lt;have hs:=hj.size;have hI:=hy.out.size;have hA:=Blk.new wa 136 #[sQ A n.inn.length c,sQ N n.o.length d,sQ (some ⟨g,0,none⟩) (n.o.length+1) (n.o.length+1),sQ (some ⟨W4.heap.size+1,0,none⟩) n.o.length n.o.length];have hf:=(Later.refl wa).alloc (.cells #[sQ A n.inn.length c,sQ N n.o.length d,sQ (some ⟨g,0,none⟩) (n.o.length+1) (n.o.length+1),sQ (some ⟨W4.heap.size+1,0,none⟩) n.o.length n.o.length] 136)
 have hR:=zI (show GrM A N c d n W g (W4.heap.size+1) wa.heap.size (ones n.o.length) (wa.alloc (.cells #[sQ A n.inn.length c,sQ N n.o.length d,sQ (some ⟨g,0,none⟩) (n.o.length+1) (n.o.length+1),sQ (some ⟨W4.heap.size+1,0,none⟩) n.o.length n.o.length] 136)) from
  ⟨(hy.out.trans hj).trans hf,by rw [hx.out];exact hA,hf.blk ho,⟨[],by rw [List.append_nil];exact hf.blk hk,by rw [hx.out];rfl⟩,qfN,by omega,by omega,by omega,by omega,by omega⟩)
 clear hj hk ho hM hL hs hI hA hf hm;go_wp2_with fail
 go_ret2
 exact .inr ⟨hh.out,_,_,_,rfl,hR.out⟩
def uT (n:aA) (cap:Int) (W:Zp1) (e:Ending) (w':Zp1):Prop:=
 Later W w'/\((Nt.check n≠0/\e=.returned (.tuple #[sQ none 0 0,sQ none 0 0,nQ iQ (Nt.check n)]))∨(Nt.check n=0/\Gr.kK n cap=none/\e=.returned (.tuple #[sQ none 0 0,sQ none 0 0,nQ iQ 26]))∨
  (Nt.check n=0/\∃kept K kc C cc,Gr.kK n cap=some kept/\e=.returned (.tuple #[sQ K kept.length kc,sQ C (Rt.lW n kept).code.length cc,nQ iQ 0])/\Ints iQ w' K kept/\bE w' C (Rt.lW n kept).code/\∀a,C=some a->W.heap.size<=a.block))
set_option maxRecDepth 100000 in
theorem qdt (A N:Option Addr) (c d:Nat) (n:aA) (cap:Int) (W:Zp1) (hok:n.ok) (hR:bH W A N n) (hd:n.o.length<=d) (h12:n.o.length<=12):
  Calls prog 28 #[.agg #[sQ A n.inn.length c,sQ N n.o.length d],nQ iQ cap] W (uT n cap W):=by
 have hA:Later W (W.alloc (.cells #[sQ A n.inn.length c,sQ N n.o.length d] 26)):=(Later.refl W).alloc _;obtain ⟨HR,hQ,hl⟩:=zd3 hR hok hA;clear hR hok hA;go_in;go_wp2_with fail;generalize W.alloc (.cells #[sQ A n.inn.length c,sQ N n.o.length d] 26)=W1 at *;have hv:=HR.out.below hl.out (lrZ _);refine (qcg A N c d n W1 hQ.out hv hd h12).mono ?_;rintro e W2 (⟨he,rfl,hB⟩|⟨he,g,k,p,rfl,hM⟩)
 ·have h2:(Nt.check n != 0)=true:=by simp [he]
  have hb:=hl.out.trans hB;obtain ⟨hj,hn⟩:=zd2 he hb;clear he hb;clear hB hv;go_wp2_with fail
  go_ret3
  exact ⟨hn.out,.inl ⟨hj.out,rfl⟩⟩
 obtain ⟨R,hRf⟩:∃R,Gr.kK n cap=R:=⟨_,rfl⟩
 have hF:=Nt.dB he;have ho:∀e w',uT n cap W e w'↔uT n cap W e w':=λ_ _=>Iff.rfl
 have hO:Gr.fit (Gr.aB n) (Nt.words n) cap (n.o.length+1) (ones n.o.length)=R:=hRf;have hD:=qaO n.o.length;obtain ⟨HM,hS,hj,hT,hG,hZ,hX⟩:=zd7 hM hv he hF hRf hO hD;clear hM hv he hF hRf hO hD;clear ho;go_wp2_with fail
 go_loopw [9,10,11,20] (λ_ _ _ _ wr=>∃(m:Nat) (kept:List Int),kept.length<m/\Gr.fit (Gr.aB n) (Nt.words n) cap m kept=R/\GrM A N c d n W1 g k p kept wr) (λ_ _ _ _ wr=>Gr.jO p wr)
 case atStart=>exact ⟨n.o.length+1,_,by rw [hX.out];omega,hZ.out,HM.out⟩
 case round=>
  obtain ⟨m,kept,hm,hf,hw⟩:=hrel;clear HM;have hK:=hw.jO;have hz:=qcY A N c d g k p n W1 kept wr hQ.out hj.out hS.out hd h12 hw;obtain ⟨hN,hP,hU⟩:=zd3 hw hz hK;clear hw hz hK;go_wp2_with fail;refine hP.out.mono ?_;rintro e w3 ⟨C,cc,rfl,hC,hJ,hE⟩;have hr:∀a,C=some a->W.heap.size<=a.block:=λa ha=>Zv (Below.size (hl.out.trans hN.out.later)) (hE a ha)
  have hW:=zI hr;clear hE hr;have hh:=hN.out.to_later hJ;have p3:w3.cell? ⟨p,3,none⟩=some (sQ (some ⟨k,0,none⟩) kept.length n.o.length):=hh.box.cell 3;obtain ⟨m',rfl⟩:∃m',m=m'+1:=⟨m-1,by omega⟩
  rw [Gr.fit] at hf;clear hJ hP
  by_cases hc:Gr.aB n kept<=cap
  ·rw [ipZ hc] at hf
   have hu:=zI hf;have hI:=hh.ints;have hb:=hl.out.trans hh.later;generalize hk:(Rt.lW n kept).code=cd at *;have hg:=zI hk;generalize Gr.aB n kept=pk at *;obtain ⟨HI,HC,hn⟩:=zd3 hI hC hb;clear hI hC hb;clear hf hh hk;go_wp2_with fail
   go_ret3
   exact ⟨hn.out,.inr (.inr ⟨hj.out,kept,_,_,C,cc,by rw [hG.out,hu.out],by rw [hg.out];rfl,HI.out,(by rw [hg.out];exact HC.out),hW.out⟩)⟩
  ·rw [inZ hc] at hf
   have hk:=qfc A N c d g k p n W1 kept w3 hT.out oZ hh;have hY:¬Gr.aB n kept<=cap:=hc;generalize (Rt.lW n kept).code.length=cl at *;have hu:=zI hf;generalize hpk:Gr.aB n kept=pk at *;have hg:=zI hk;clear hf hh hC p3 hk hpk hY;go_wp2_with fail;refine hg.out.mono ?_;rintro e w4 (⟨h0,rfl,hi⟩|⟨h0,rfl,hi⟩)
   ·have hb:=hl.out.trans hi.later
    have hH:R=none:=by
     have h:=hu.out;rw [ipZ (by rw [h0];rfl)] at h;exact h.symm
    obtain ⟨hn,h1⟩:=zd2 hb hH;clear hb hH;clear hi hg h0;go_wp2_with fail
    go_ret3
    exact ⟨hn.out,.inr (.inl ⟨hj.out,by rw [hG.out,h1.out],rfl⟩)⟩
   ·have hL:¬kept.length=0:=λe=>h0 (List.length_eq_zero_iff.1 e)
    have hq:=Gr.iR (ws:=Nt.words n) (kept:=kept) oZ
    have hs:Gr.fit (Gr.aB n) (Nt.words n) cap m' (Gr.less (Nt.words n) kept)=R:=by
     have h:=hu.out
     rwa [inZ hL] at h
    have ht:=hi.jO;obtain ⟨hV,hx,hp,hy⟩:=zd4 hi hs hq ht;clear hi hs hq ht;clear hg h0 hL;go_wp2_with fail;go_roundw
    case rel=>exact ⟨m',_,by have:=hp.out;omega,hx.out,hV.out⟩
    case measure=>rw [hU.out,hy.out];have:=hp.out;omega
def KeptP (n:aA) (cap:Int) (W:Zp1) (e:Ending) (w':Zp1):Prop:=
 Later W w'/\((Nt.check n≠0/\e=.returned (.tuple #[sQ none 0 0,nQ iQ (Nt.check n)]))∨(Nt.check n=0/\Gr.kK n cap=none/\e=.returned (.tuple #[sQ none 0 0,nQ iQ 26]))∨
  (Nt.check n=0/\∃kept K kc,Gr.kK n cap=some kept/\e=.returned (.tuple #[sQ K kept.length kc,nQ iQ 0])/\Ints iQ w' K kept))
theorem qfh (A N:Option Addr) (c d:Nat) (n:aA) (cap:Int) (W:Zp1) (hok:n.ok) (hR:bH W A N n) (hd:n.o.length<=d) (h12:n.o.length<=12):
  Calls prog 10 #[.agg #[sQ A n.inn.length c,sQ N n.o.length d],nQ iQ cap] W (KeptP n cap W):=by
 have hh:Later W (W.alloc (.cells #[sQ A n.inn.length c,sQ N n.o.length d] 26)):=(Later.refl W).alloc _;obtain ⟨HR,hi,hg⟩:=zd3 hR hok hh;clear hR hok hh;go_in;go_wp2_with fail;generalize W.alloc (.cells #[sQ A n.inn.length c,sQ N n.o.length d] 26)=W1 at *;refine (qdt A N c d n cap W1 hi.out (HR.out.below hg.out (lrZ _)) hd h12).mono ?_;rintro e W2 ⟨hl,⟨ha,rfl⟩|⟨ha,hf,rfl⟩|⟨ha,kept,K,kc,C,cc,hf,rfl,hI,-,-⟩⟩
 ·have hb:=hg.out.trans hl
  obtain ⟨hc,he⟩:=zd2 ha hb;clear ha hb;clear hl;go_wp2_with fail
  go_ret2
  exact ⟨he.out,.inl ⟨hc.out,rfl⟩⟩
 ·have hb:=hg.out.trans hl
  obtain ⟨hc,he,Hf⟩:=zd3 ha hb hf;clear ha hb hf;clear hl;go_wp2_with fail
  go_ret2
  exact ⟨he.out,.inr (.inl ⟨hc.out,Hf.out,rfl⟩)⟩
 ·have hb:=hg.out.trans hl
  obtain ⟨hc,he,Hf,HI⟩:=zd4 ha hb hf hI;clear ha hb hf hI;clear hl;go_wp2_with fail
  go_ret2
  exact ⟨he.out,.inr (.inr ⟨hc.out,kept,K,kc,Hf.out,rfl,HI.out⟩)⟩
namespace Gr
def re (os:List Int) (p:Int × Int):Int × Int:=(p.1,if 0<p.2 then os.getD (p.2-1).toNat 0 else p.2)
def eT (os:List Int) (ps:List (Int × Int)) (j:Nat):List (Int × Int):=(ps.take j).map (re os)++ps.drop j
theorem mG (os:List Int) (ps:List (Int × Int)) (j:Nat):(eT os ps j).length=ps.length:=by
 unfold eT;rw [Ze,List.length_map,Zo,Zq];omega
theorem mapTo_zero (os:List Int) (ps:List (Int × Int)):eT os ps 0=ps:=by simp [eT]
theorem mapTo_all (os:List Int) (ps:List (Int × Int)):eT os ps ps.length=ps.map (re os):=by simp [eT]
theorem mapTo_at (os:List Int) (ps:List (Int × Int)) (j:Nat) (h:j<ps.length):(eT os ps j)[j]'(by rw [mG];exact h)=ps[j]:=by
 unfold eT;rw [List.getElem_append_right soZ];simp
 congr 1
 omega
theorem mapTo_succ (os:List Int) (ps:List (Int × Int)) (j:Nat) (h:j<ps.length):eT os ps (j+1)=(eT os ps j).set j (re os ps[j]):=by
 unfold eT;rw [Zb h,List.map_append,List.set_append_right _ _ soZ,List.append_assoc]
 congr 1
 rw [List.length_map,Zo,Nat.min_eq_left (Nat.le_of_lt h),Nat.sub_self,Zd h]
 rfl
def bP (n:aA) (cap:Int):List (Int × Int) × Int:=if Nt.chain n=false then ([],27) else
 if (Ch.plan (Nt.aJ n) (Nt.aH n) cap).2≠0 then ([],(Ch.plan (Nt.aJ n) (Nt.aH n) cap).2) else ((Ch.plan (Nt.aJ n) (Nt.aH n) cap).1.map (re (Nt.sO n.o)),0)
end Gr
theorem qdE (ps:List (Int × Int)) (rest:List Value):∀(j:Nat) (h:j<ps.length) (i:Int),(qa3 ps++rest).set (j*2+1) (nQ iQ i)=qa3 (ps.set j (ps[j].1,i))++rest:=by
 induction ps with
 | nil=>intro j h;simp at h
 | cons x r ih=>
  intro j h i;rcases j with _|j
  ·simp [qa3]
  ·have:=ih j (by simpa using h) i
   rw [show (j+1)*2+1=j*2+1+1+1 by omega];simpa [qa3] using this
def rF (B M:Nat) (C:Option Addr) (ps:List (Int × Int)) (W:Zp1):Prop:=ps=[]∨∃g rest,C=some ⟨g,0,none⟩/\B<=g/\g<M/\Blk W g 106 (qa3 ps++rest).toArray
theorem rF.kE {B:Nat} {C:Option Addr} {d:Nat} {ps:List (Int × Int)} {W:Zp1} (h:W.ownsRow B 106 2 (sQ C ps.length d) ps.length (qa3 ps)):rF B W.heap.size C ps W:=by
 rcases h.2 with ⟨-,h0⟩|⟨g,cap,cur,e,hb,hh,r1,r2,r3,r4⟩
 ·exact .inl (List.eq_nil_of_length_eq_zero h0)
 ·injection e with e1 e2 e3
  refine .inr ⟨g,cur.toList.drop (ps.length*2),e1,hb,lt_of_block hh,?_⟩;rw [←r4,Zn];exact hh
theorem rF.pairs {B M:Nat} {C:Option Addr} {ps:List (Int × Int)} {W:Zp1} (h:rF B M C ps W):bE W C ps:=by
 rcases h with rfl|⟨g,rest,rfl,-,-,hb⟩
 ·exact bE.nil
 ·intro k hk
  have ⟨e1,e2⟩:=qb4 ps k hk;have hl:=qaG ps;refine ⟨g,0,rfl,hb.lt,?_,?_⟩
  ·rw [Zw,hb.cell]
   simp;rw [Zm oZ];exact e1
  ·rw [Zw,hb.cell]
   simp;rw [Zm oZ];exact e2
theorem Ints.setfar {W:Zp1} {A:Option Addr} {zs:List Int} (h:Ints iQ W A zs) {g:Nat} (hg:∀a,A=some a->a.block≠g) (o:Nat) (v:Value):Ints iQ (W.setCell ⟨g,o,none⟩ v) A zs:=λj hj=>by
 obtain ⟨b,off,e,hl,hc⟩:=h j hj;exact ⟨b,off,e,by simpa using hl,qau hc (show b≠g from hg ⟨b,off,none⟩ e)⟩
set_option maxRecDepth 100000 in
theorem qd8 (A N:Option Addr) (c d:Nat) (n:aA) (cap:Int) (W:Zp1) (hok:n.ok) (hch:Nt.check n=0) (hR:bH W A N n) (hd:n.o.length<=d) (h12:n.o.length<=12):
  Calls prog 79 #[.agg #[sQ A n.inn.length c,sQ N n.o.length d],nQ iQ cap] W λe w'=>∃C cc,e=.returned (.tuple #[sQ C (Gr.bP n cap).1.length cc,nQ iQ (Gr.bP n cap).2])/\bE w' C (Gr.bP n cap).1/\Later W w'/\∀a,C=some a->W.heap.size<=a.block:=by
 have Hk:=Blk.new W 26 #[sQ A n.inn.length c,sQ N n.o.length d];have hZ:Later W (W.alloc (.cells #[sQ A n.inn.length c,sQ N n.o.length d] 26)):=(Later.refl W).alloc _;have ho:=Rt.bX hch
 have hE:Gr.bP n cap=if Nt.chain n=false then ([],27) else
  if (Ch.plan (Nt.aJ n) (Nt.aH n) cap).2≠0 then ([],(Ch.plan (Nt.aJ n) (Nt.aH n) cap).2) else ((Ch.plan (Nt.aJ n) (Nt.aH n) cap).1.map (Gr.re (Nt.sO n.o)),0):=rfl
 have l1:(Nt.aJ n).length=n.o.length+1:=by unfold Nt.aJ;rw [List.length_cons,List.length_map,ho]
 have l2:(Nt.aH n).length=n.o.length:=by unfold Nt.aH;rw [List.length_map,ho]
 have hF:∀(er:Int) (w':Zp1),Later W w'->Gr.bP n cap=([],er)->(∃C cc,Ending.returned (.tuple #[sQ none 0 0,nQ iQ er])=.returned (.tuple #[sQ C (Gr.bP n cap).1.length cc,nQ iQ (Gr.bP n cap).2])/\bE w' C (Gr.bP n cap).1/\Later W w'/\∀a,C=some a->W.heap.size<=a.block):=λer w' hl he=>⟨none,0,by rw [he];rfl,by rw [he];exact bE.nil,hl,λa ha=>by cases ha⟩
 obtain ⟨HR,Hj,h6,hM,hx,hU,Ha⟩:=zd7 hR hok Hk hZ hF ho hch;clear hR hok Hk hZ hF ho hch;go_in;go_wp2_with fail;generalize W.alloc (.cells #[sQ A n.inn.length c,sQ N n.o.length d] 26)=W1 at *;refine (qc6 A N c d n W1 Hj.out (HR.out.below hM.out (lrZ _)) hd oZ).mono ?_;rintro e W2 ⟨hc,⟨-,hi,A1,c1,A2,c2,rfl,Hb,h8,hQ,-⟩|⟨-,hi,rfl⟩|⟨h0,-⟩⟩
 rotate_left
 ·have hy:=hM.out.trans hc
  rw [ipZ hi] at hE;obtain ⟨hC,HE,Hp⟩:=zd3 hy hE hi;clear hy hE hi;clear hc;go_wp2_with fail
  go_ret2
  exact hx.out _ _ hC.out HE.out
 ·exact absurd Ha.out h0
 have hm:Later W1 W2:=hc;have hy:=hM.out.trans hm;have Hf:=hm.blk h6.out;rw [hi,inZ sZ] at hE;have hk:=qge A1 A2 c1 c2 n.o.length (Nt.aJ n) (Nt.aH n) cap W2 l2 l1 oZ hQ Hb h8;have hh:=Ch.plan_ids (cap:=cap) (show (Nt.aJ n).length=(Nt.aH n).length+1 by omega);have hP:=Ch.nW (cap:=cap) (show (Nt.aJ n).length=(Nt.aH n).length+1 by omega);unfold sG at hk;rw [l2] at hh;generalize Ch.plan (Nt.aJ n) (Nt.aH n) cap=pl at *;obtain ⟨ps,er⟩:=pl;simp only at hE hk hh hP;obtain ⟨hC,Hi,Hg,Hp⟩:=zd4 hy Hf hk hi;clear hy Hf hk hi;clear hc hm h6 Hb h8 l1 l2;go_wp2_with fail;refine Hg.out.mono ?_;rintro e W3 ⟨hL,C,dd,B,rfl,hB,hown⟩;have hg:=hC.out.trans hL;have hK:=hL.blk Hi.out;clear Hg Hi
 by_cases hI:er=0
 rotate_left
 ·rw [ipZ hI] at hE
  have Ht:(er != 0)=true:=by simp [hI]
  obtain ⟨hf,HE,Hu⟩:=zd3 hg hE hI;clear hg hE hI;clear hown hK hL;go_wp2_with fail
  go_ret2
  exact hx.out _ _ hf.out HE.out
 subst hI;rw [inZ sZ] at hE;have Ho:=Zv (Below.size hC.out) hB;have hY:=rF.kE hown;have Hn:=zI (λ(a:Addr) (ha:C=some a)=>(hown.lt a.block (by rw [ha];rfl)).1);have u0:W3.cell? ⟨W.heap.size,0,none⟩=some (sQ A n.inn.length c):=hK.cell 0;have u1:W3.cell? ⟨W.heap.size,1,none⟩=some (sQ N n.o.length d):=hK.cell 1;obtain ⟨hf,Hh,HE⟩:=zd3 hg hY hE;clear hg hY hE;clear hown hK hL hC;go_wp2_with fail;refine (qg5 A N c d n W3 Hj.out (HR.out.below hf.out (lrZ _)) hd).mono ?_;rintro e W4 ⟨h9,⟨-,O,oc,rfl,hO,hv⟩|⟨h0,-⟩⟩
 rotate_left
 ·exact absurd Ha.out h0
 have hn:Later W3 W4:=h9;have hu:=hf.out.trans hn
 have hw:rF B W3.heap.size C ps W4:=by
  rcases Hh.out with h|⟨g,rest,h1,h2,h3,h4⟩
  ·exact .inl h
  ·exact .inr ⟨g,rest,h1,h2,h3,hn.blk h4⟩
 have ho:=hU.out;generalize Nt.sO n.o=os at *;obtain ⟨hH,hD,HO,hS,hU⟩:=zd5 hw hu hO hv ho;clear hw hu hO hv ho;clear h9 hn Hh u0 u1;go_wp2_with fail
 go_loopw [11,12,43] (λ_ _ i wr=>∃j:Nat,j<=ps.length/\i=nQ iQ (j:Int)/\rF B W3.heap.size C (Gr.eT os ps j) wr/\Later W wr/\Ints iQ wr O os) (λ_ _ i _=>ps.length-(intOf i).toNat)
 case atStart=>exact ⟨0,Zt _,rfl,by rw [Gr.mapTo_zero];exact hH.out,hD.out,HO.out⟩
 case round=>
  obtain ⟨j,hj,rfl,hJ,hs,hq⟩:=hrel;clear hH hD HO
  by_cases hV:j<ps.length
  ·rcases hJ with h|⟨g,rest,rfl,Hd,He,hr⟩
   ·have:=Gr.mG os ps j
    rw [h] at this;simp at this;omega
   have hG:=Gr.mapTo_at os ps j hV;have hp:=Gr.mapTo_succ os ps j hV;have h5:=Gr.mG os ps j;have hid:=hh _ (gmZ hV);have ⟨e1,e2⟩:=qb4 (Gr.eT os ps j) j oZ;have hk:=qaG (Gr.eT os ps j)
   have y1:wr.cell? ⟨g,j*2+1,none⟩=some (nQ iQ ps[j].2):=by
    rw [hr.cell];simp;rw [Zm oZ,e2,hG]
   have f1:=hr.frozen (j*2+1);have hb:=qdE (Gr.eT os ps j) rest j oZ;rw [hG] at hb;have hT:∀a,O=some a->a.block≠g:=λa ha=>by have:=hS.out a ha;omega
   generalize hpj:ps[j]=pj at *;obtain ⟨kd,id⟩:=pj;simp only at y1 hid hb;have k1:(j:Int)<(ps.length:Int):=by omega
   have k2:(0:Int)<=(j:Int):=by omega
   by_cases hz:0<id
   ·obtain ⟨t,ht⟩:∃t:Nat,id=(t:Int)+1:=⟨(id-1).toNat,by omega⟩
    subst ht;obtain ⟨bo,oo,Hs,-,yo⟩:=hq t (by have:=hU.out;omega)
    have hA:Gr.re os (kd,(t:Int)+1)=(kd,os.getD t 0):=by
     unfold Gr.re;simp only;rw [ipZ hz,Int.add_sub_cancel,tnZ]
    rw [hA] at hp;have hc:=hr.aU (j*2+1) (nQ iQ (os.getD t 0));rw [List.setIfInBounds_toArray,hb (os.getD t 0),←hp] at hc;have Hc:=hs.set (p:=⟨g,j*2+1,none⟩) (by show W.heap.size<=g;omega) (nQ iQ (os.getD t 0));have h7:=hq.setfar hT (j*2+1) (nQ iQ (os.getD t 0));subst Hs;have k3:(t:Int)<(n.o.length:Int):=by omega
    have k4:(0:Int)<=(t:Int):=by omega
    have w1:iQ.wrap (t:Int)=(t:Int):=Zc1 _ oZ;generalize os.getD t 0=z at *;obtain ⟨hW,Hq,Hm⟩:=zd3 hc Hc h7;clear hc Hc h7;clear hr hs hq hb hp hA e1 e2 hG h5 hk hpj hT;go_wp2_with fail;go_roundw
    case rel=>exact ⟨j+1,by omega,by go_num,.inr ⟨g,rest,rfl,Hd,He,hW.out⟩,Hq.out,Hm.out⟩
    case measure=>simp [intOf];omega
   ·have hX:id=0:=by omega
    subst hX;have hA:Gr.re os (kd,0)=(kd,0):=rfl;rw [hA] at hp
    have hc:Blk wr g 106 (qa3 (Gr.eT os ps (j+1))++rest).toArray:=by
     rw [hp,show (Gr.eT os ps j).set j (kd,0)=Gr.eT os ps j from by
      have h:(Gr.eT os ps j)[j]'oZ=(kd,0):=hG;rw [←h];exact List.set_getElem_self _]
     exact hr
    obtain ⟨hW,Hr,Hl⟩:=zd3 hc hs hq;clear hc hs hq;clear hr hb hp hA e1 e2 hG h5 hk hpj hT;go_wp2_with fail;go_roundw
    case rel=>exact ⟨j+1,by omega,by go_num,.inr ⟨g,rest,rfl,Hd,He,hW.out⟩,Hr.out,Hl.out⟩
    case measure=>simp [intOf];omega
  ·obtain rfl:j=ps.length:=by omega
   rw [Gr.mapTo_all] at hJ;have hN:=zI (show ∃C' cc,Ending.returned (.tuple #[sQ C ps.length dd,nQ iQ 0])=.returned (.tuple #[sQ C' (Gr.bP n cap).1.length cc,nQ iQ (Gr.bP n cap).2])/\bE wr C' (Gr.bP n cap).1/\Later W wr/\∀a,C'=some a->W.heap.size<=a.block from ⟨C,dd,by rw [HE.out];simp,by rw [HE.out];exact hJ.pairs,hs,λa ha=>Zv Ho (Hn.out a ha)⟩);clear hJ hs hq;go_wp2_with fail
   go_ret2
   exact hN.out
namespace Gr
def low (n:aA) (keep:List Int):List (Int × Int) × Int:=if qbh n.o.length keep=true then ((Rt.lW n keep).code,0) else ([],11)
def aY (n:aA) (planner cap:Int):List (Int × Int) × Int:=
 if planner=1 then low n (ones n.o.length) else
 if planner=2 then (if qay n (Safe.bC n.o.length)≠0 then ([],qay n (Safe.bC n.o.length)) else low n (qaq n (Safe.bC n.o.length))) else
 if planner=3 then (match kK n cap with|none=>([],26)|some kept=>((Rt.lW n kept).code,0)) else
 if planner=4 then bP n cap else ([],11)
end Gr
def fB (r:List (Int × Int) × Int) (W:Zp1) (e:Ending) (w':Zp1):Prop:=
 ∃C cc,e=.returned (.tuple #[sQ C r.1.length cc,nQ iQ r.2])/\bE w' C r.1/\Later W w'/\∀a,C=some a->W.heap.size<=a.block
theorem fB.bad (er:Int) {W w':Zp1} (hl:Later W w'):fB ([],er) W (.returned (.tuple #[sQ none 0 0,nQ iQ er])) w':=⟨none,0,rfl,bE.nil,hl,λa ha=>by cases ha⟩
theorem qez (A N K:Option Addr) (c d ck:Nat) (n:aA) (keep:List Int) (W:Zp1) (hok:n.ok) (hch:Nt.check n=0) (hR:bH W A N n) (hd:n.o.length<=d) (h12:n.o.length<=12) (hK:Ints iQ W K keep) (hkl:keep.length<=9223372036854775807):
  Calls prog 78 #[.agg #[sQ A n.inn.length c,sQ N n.o.length d],sQ K keep.length ck] W (fB (Gr.low n keep) W):=by
 refine (qce A N K c d ck n keep W hok hR hd h12 hK hkl).mono ?_;rintro e w' ⟨hl,⟨hx,-⟩|⟨-,hx,he⟩|⟨-,hx,C,cc,he,hC,ha⟩⟩
 ·exact absurd hch hx
 ·unfold Gr.low
  rw [inZ (by rw [hx];simp),he];exact fB.bad 11 hl
 ·unfold Gr.low
  rw [ipZ hx,he];exact ⟨C,cc,rfl,hC,hl,ha⟩
theorem fB.mono_ {r:List (Int × Int) × Int} {W W1 w':Zp1} {e:Ending} (h:fB r W1 e w') (hl:Later W W1):fB r W e w':=by
 obtain ⟨C,cc,he,hp,h2,hn⟩:=h;exact ⟨C,cc,he,hp,hl.trans h2,λa ha=>Zv (Below.size hl) (hn a ha)⟩
set_option maxRecDepth 100000 in
theorem qeA (A N:Option Addr) (c d:Nat) (n:aA) (planner cap:Int) (W:Zp1) (hok:n.ok) (hch:Nt.check n=0) (hR:bH W A N n) (hd:n.o.length<=d) (h12:n.o.length<=12):
  Calls prog 40 #[.agg #[sQ A n.inn.length c,sQ N n.o.length d],nQ iQ planner,nQ iQ cap] W (fB (Gr.aY n planner cap) W):=by
 have hk:=Blk.new W 26 #[sQ A n.inn.length c,sQ N n.o.length d];have hw:Later W (W.alloc (.cells #[sQ A n.inn.length c,sQ N n.o.length d] 26)):=(Later.refl W).alloc _;have u0:(W.alloc (.cells #[sQ A n.inn.length c,sQ N n.o.length d] 26)).cell? ⟨W.heap.size,0,none⟩=some (sQ A n.inn.length c):=hk.cell 0;have u1:(W.alloc (.cells #[sQ A n.inn.length c,sQ N n.o.length d] 26)).cell? ⟨W.heap.size,1,none⟩=some (sQ N n.o.length d):=hk.cell 1
 have hE:Gr.aY n planner cap=if planner=1 then Gr.low n (ones n.o.length) else
  if planner=2 then (if qay n (Safe.bC n.o.length)≠0 then ([],qay n (Safe.bC n.o.length)) else Gr.low n (qaq n (Safe.bC n.o.length))) else
  if planner=3 then (match Gr.kK n cap with|none=>([],26)|some kept=>((Rt.lW n kept).code,0)) else
  if planner=4 then Gr.bP n cap else ([],11):=rfl
 have hv:=λ(Y:Zp1) (h:Later W Y)=>hR.below h (lrZ _)
 obtain ⟨hc,hn⟩:=zd2 hw hv;clear hw hv;clear hk hR
 by_cases p1:planner=1
 ·rw [ipZ p1] at hE
  subst p1;have hN:=zI λ(X:Zp1)=>qhH A N c d n X oZ
  have hr:=zI λ(X:Zp1) (h:Later W X) (K:Option Addr) (ck:Nat) (hK:Ints iQ X K (ones n.o.length))=>qez A N K c d ck n (ones n.o.length) X hok hch (hn.out X h) hd h12 hK (by rw [qaO];omega)
  have HE:=zI hE;clear hE;go_in;go_wp2_with fail;generalize W.alloc (.cells #[sQ A n.inn.length c,sQ N n.o.length d] 26)=W1 at *;have KF:=zI (show ∀Xw,Later W1 Xw->Xw.cell? ⟨W.heap.size,0,none⟩=some (sQ A n.inn.length c)/\Xw.cell? ⟨W.heap.size,1,none⟩=some (sQ N n.o.length d) from λXw h=>⟨h.cell u0,h.cell u1⟩);refine Zm1 ?_;refine Zl1 (S:=λXw=>Xw.cell? ⟨W.heap.size,0,none⟩=some (sQ A n.inn.length c)/\Xw.cell? ⟨W.heap.size,1,none⟩=some (sQ N n.o.length d)) krZ (KF.out _ Lau) (λhHeld=>?_);refine tk 0 ?_;refine tk 1 ?_;refine rd 2 λK hK=>?_
  simp only [ga,gs,gz]
  go_simp
  go_at_call 22;(with_reducible refine (hN.out _).mono ?_);rintro e wa ⟨Kq,ckq,rfl,hF,ho⟩
  replace ho:Below _ _ wa:=ho;have hO:=zI hF;clear hF
  try go_wp2_with fail
  refine hK.out _ _ (KF.out _ Lau) (λhHeld=>?_);clear hK K
  try simp only [ga,gs,gz,Act.put,sa,sz,ss]
  refine rd 3 λK hK=>?_
  simp only [ga,gs,gz]
  go_simp
  go_at_call 78;(with_reducible refine (hr.out _ (hc.out.trans (Lau:Later W1 _)) Kq ckq hO.out).mono ?_);rintro e wb ⟨C,cc,rfl,hC,hs,hi⟩
  replace hs:Below _ _ wb:=hs;obtain ⟨HC,hM⟩:=zd2 hC hi;clear hC hi
  try go_wp2_with fail
  refine hK.out _ _ (KF.out _ Lau) (λhHeld=>?_);clear hK K
  try simp only [ga,gs,gz,Act.put,sa,sz,ss]
  refine tk 4 ?_;refine tk 5 ?_;refine tk 6 ?_;refine tk 7 ?_;clear KF;refine Zn1 krZ ?_ _;refine Zd1 ?_;have hx:Later W1 wb:=Lau;have hD:Later W1 wa:=Lau
  have he:=zI (show fB (Gr.aY n 1 cap) W (.returned (.tuple #[sQ C (Gr.low n (ones n.o.length)).1.length cc,nQ iQ (Gr.low n (ones n.o.length)).2])) wb from by
   rw [HE.out];exact ⟨C,cc,rfl,HC.out,hc.out.trans hx,λa ha=>Zv (Below.size (hc.out.trans hD)) (hM.out a ha)⟩)
  clear hx hD ho hs;go_wp2_with fail
  go_ret2
  exact he.out
 rw [inZ p1] at hE
 by_cases p2:planner=2
 ·rw [ipZ p2] at hE
  subst p2;clear p1;have hJ:=qgp A N c d n (W.alloc (.cells #[sQ A n.inn.length c,sQ N n.o.length d] 26)) hok (hn.out _ hc.out) hd h12
  have hz:(qaq n (Safe.bC n.o.length)).length<=9223372036854775807:=by
   unfold qaq
   split
   ·have:=Rt.pX (Nt.sO n.o) (Safe.bC n.o.length).toNat
    have:=Rt.bX hch;have:=Nat.div_le_self (Nt.sO n.o).length (Safe.bC n.o.length).toNat;omega
   ·simp
  have hr:=zI λ(X:Zp1) (h:Later W X) (K:Option Addr) (ck:Nat) (hK:Ints iQ X K (qaq n (Safe.bC n.o.length)))=>qez A N K c d ck n (qaq n (Safe.bC n.o.length)) X hok hch (hn.out X h) hd h12 hK hz
  generalize qay n (Safe.bC n.o.length)=eE at *;generalize qaq n (Safe.bC n.o.length)=eL at *;have hk:Blk (W.alloc (.cells #[sQ A n.inn.length c,sQ N n.o.length d] 26)) W.heap.size 26 #[sQ A n.inn.length c,sQ N n.o.length d]:=Blk.new W _ _;obtain ⟨HE,hI,hy⟩:=zd3 hE hJ hk;clear hE hJ hk;clear hz;go_in;go_wp2_with fail;generalize W.alloc (.cells #[sQ A n.inn.length c,sQ N n.o.length d] 26)=W1 at *;refine hI.out.mono ?_;rintro e W2 ⟨K,ck,rfl,hK,hg⟩;have hh:=hc.out.trans hg;have ht:=hg.blk hy.out;clear u0 u1;have u0:W2.cell? ⟨W.heap.size,0,none⟩=some (sQ A n.inn.length c):=ht.cell 0;have u1:W2.cell? ⟨W.heap.size,1,none⟩=some (sQ N n.o.length d):=ht.cell 1;clear hI hg ht hy
  by_cases h0:eE=0
  ·have hb:=HE.out
   rw [h0,inZ sZ] at hb;have hB:=hr.out W2 hh K ck hK;subst h0;obtain ⟨hl,hH,hm⟩:=zd3 hb hB hh;clear hb hB hh;clear HE hK;go_wp2_with fail;refine hH.out.mono ?_;rintro e W3 hA;have hj:=hA.mono_ hm.out;obtain ⟨C,cc,rfl,-,-,-⟩:=hA;rw [←hl.out] at hj ⊢;have hp:=zI hj;clear hj;clear hH;go_wp2_with fail
   go_ret2
   exact hp.out
  ·have hb:=HE.out
   rw [ipZ h0] at hb;have hP:(eE != 0)=true:=by simp [h0]
   obtain ⟨hl,hm⟩:=zd2 hb hh;clear hb hh;clear HE hK h0;go_wp2_with fail
   go_ret2
   rw [hl.out];exact fB.bad eE hm.out
 rw [inZ p2] at hE
 by_cases p3:planner=3
 ·rw [ipZ p3] at hE
  subst p3;clear p1 p2;have hG:=qdt A N c d n cap (W.alloc (.cells #[sQ A n.inn.length c,sQ N n.o.length d] 26)) hok (hn.out _ hc.out) hd h12;obtain ⟨HE,hq⟩:=zd2 hE hG;clear hE hG;go_in;go_wp2_with fail;generalize W.alloc (.cells #[sQ A n.inn.length c,sQ N n.o.length d] 26)=W1 at *;refine hq.out.mono ?_;rintro e W2 ⟨hg,⟨h0,-⟩|⟨-,hf,rfl⟩|⟨-,kept,K,kc,C,cc,hf,rfl,-,hC,hi⟩⟩
  ·exact absurd hch h0
  ·have hh:=hc.out.trans hg
   have hb:=HE.out;rw [hf] at hb;obtain ⟨hl,hm⟩:=zd2 hb hh;clear hb hh;clear HE hg hq;go_wp2_with fail
   go_ret2
   rw [hl.out];exact fB.bad 26 hm.out
  ·have hb:=HE.out
   rw [hf] at hb
   have he:=zI (show fB (Gr.aY n 3 cap) W (.returned (.tuple #[sQ C (Rt.lW n kept).code.length cc,nQ iQ 0])) W2 from by
    rw [hb];exact ⟨C,cc,rfl,hC,hc.out.trans hg,λa ha=>Zv (Below.size hc.out) (hi a ha)⟩)
   clear hb hC hi hg HE hq hf;go_wp2_with fail
   go_ret2
   exact he.out
 rw [inZ p3] at hE
 by_cases p4:planner=4
 ·rw [ipZ p4] at hE
  subst p4;clear p1 p2 p3;have hu:=qd8 A N c d n cap (W.alloc (.cells #[sQ A n.inn.length c,sQ N n.o.length d] 26)) hok hch (hn.out _ hc.out) hd h12;obtain ⟨HE,hL⟩:=zd2 hE hu;clear hE hu;go_in;go_wp2_with fail;generalize W.alloc (.cells #[sQ A n.inn.length c,sQ N n.o.length d] 26)=W1 at *;refine hL.out.mono ?_;rintro e W2 ⟨C,cc,rfl,hC,hg,hi⟩
  have he:=zI (show fB (Gr.aY n 4 cap) W (.returned (.tuple #[sQ C (Gr.bP n cap).1.length cc,nQ iQ (Gr.bP n cap).2])) W2 from by
   rw [HE.out];exact ⟨C,cc,rfl,hC,hc.out.trans hg,λa ha=>Zv (Below.size hc.out) (hi a ha)⟩)
  clear hC hi hg hL;go_wp2_with fail
  go_ret2
  exact he.out
 ·rw [inZ p4] at hE
  have d1:(planner==1)=false:=by simp [p1]
  have d2:(planner==2)=false:=by simp [p2]
  have d3:(planner==3)=false:=by simp [p3]
  have d4:(planner==4)=false:=by simp [p4]
  have HE:=zI hE;clear hE;clear p1 p2 p3 p4;go_in;go_wp2_with fail
  go_ret2
  rw [HE.out];exact fB.bad 11 hc.out
theorem qaP {w:Zp1} {g:Nat} {t:TypeId} {a0 a1 a2 a3 a4 a5:Value} (h:Blk w g t #[a0,a1,a2,a3,a4,a5]) (b0 b1 b2 b3 b4 b5:Value):
  Blk ((((((w.setCell ⟨g,0,none⟩ b0).setCell ⟨g,1,none⟩ b1).setCell ⟨g,2,none⟩ b2).setCell ⟨g,3,none⟩ b3).setCell ⟨g,4,none⟩ b4).setCell ⟨g,5,none⟩ b5) g t #[b0,b1,b2,b3,b4,b5]:=
 (((((h.aU 0 b0).aU 1 b1).aU 2 b2).aU 3 b3).aU 4 b4).aU 5 b5
theorem qax {W w:Zp1} {g:Nat} (h:Later W w) (hg:W.heap.size<=g) (b0 b1 b2 b3 b4 b5:Value):
  Later W ((((((w.setCell ⟨g,0,none⟩ b0).setCell ⟨g,1,none⟩ b1).setCell ⟨g,2,none⟩ b2).setCell ⟨g,3,none⟩ b3).setCell ⟨g,4,none⟩ b4).setCell ⟨g,5,none⟩ b5):=
 (((((h.set (p:=⟨g,0,none⟩) hg b0).set (p:=⟨g,1,none⟩) hg b1).set (p:=⟨g,2,none⟩) hg b2).set (p:=⟨g,3,none⟩) hg b3).set (p:=⟨g,4,none⟩) hg b4).set (p:=⟨g,5,none⟩) hg b5
theorem qdF {w:Zp1} {g k:Nat} (hk:k≠g) (b0 b1 b2 b3 b4 b5:Value):
  ((((((w.setCell ⟨g,0,none⟩ b0).setCell ⟨g,1,none⟩ b1).setCell ⟨g,2,none⟩ b2).setCell ⟨g,3,none⟩ b3).setCell ⟨g,4,none⟩ b4).setCell ⟨g,5,none⟩ b5).heap[k]? = w.heap[k]?:=by
 rw [Below.heap_setCell _ ⟨g,5,none⟩ b5 k hk,Below.heap_setCell _ ⟨g,4,none⟩ b4 k hk,Below.heap_setCell _ ⟨g,3,none⟩ b3 k hk,Below.heap_setCell _ ⟨g,2,none⟩ b2 k hk,Below.heap_setCell _ ⟨g,1,none⟩ b1 k hk,Below.heap_setCell _ ⟨g,0,none⟩ b0 k hk]
theorem qbX {w:Zp1} {g:Nat} {C:Option Addr} {ps:List (Int × Int)} (h:bE w C ps) (hC:∀a,C=some a->a.block≠g) (b0 b1 b2 b3 b4 b5:Value):
  bE ((((((w.setCell ⟨g,0,none⟩ b0).setCell ⟨g,1,none⟩ b1).setCell ⟨g,2,none⟩ b2).setCell ⟨g,3,none⟩ b3).setCell ⟨g,4,none⟩ b4).setCell ⟨g,5,none⟩ b5) C ps:=λk hk=>by
 obtain ⟨b,off,e,hl,h1,h2⟩:=h k hk;have ha:b≠g:=hC ⟨b,off,none⟩ e;have hh:=λ(o:Nat)=>Zi1 (w:=w) (a:=⟨b,o,none⟩) (qdF ha b0 b1 b2 b3 b4 b5)
 exact ⟨b,off,e,by simpa using hl,(hh _).trans h1,(hh _).trans h2⟩
theorem qaa {w:Zp1} {g:Nat} {t:TypeId} {a b c d e f:Value} (h:Blk w g t #[a,b,c,d,e,f]):
  (w.cell? ⟨g,0,none⟩=some a/\w.cell? ⟨g,1,none⟩=some b/\w.cell? ⟨g,2,none⟩=some c/\w.cell? ⟨g,3,none⟩=some d/\w.cell? ⟨g,4,none⟩=some e/\w.cell? ⟨g,5,none⟩=some f)/\
   w.frozen? ⟨g,0,none⟩=false/\w.frozen? ⟨g,1,none⟩=false/\w.frozen? ⟨g,2,none⟩=false/\w.frozen? ⟨g,3,none⟩=false/\w.frozen? ⟨g,4,none⟩=false/\w.frozen? ⟨g,5,none⟩=false:=
 ⟨⟨h.cell 0,h.cell 1,h.cell 2,h.cell 3,h.cell 4,h.cell 5⟩,h.frozen 0,h.frozen 1,h.frozen 2,h.frozen 3,h.frozen 4,h.frozen 5⟩
structure Gr.Pl where
 pl:Int
 code:List (Int × Int)
 pk:Int
 co:Int
 ag:Int
 hi:Int
def Gr.fE:Gr.Pl:=⟨0,[],0,0,0,0⟩
def Gr.aF (n:aA) (planner cap:Int):Gr.Pl × Int:=
 if Nt.check n≠0 then (Gr.fE,Nt.check n) else
 if (Gr.aY n planner cap).2≠0 then (Gr.fE,(Gr.aY n planner cap).2) else
 if (Ck.run n (Gr.aY n planner cap).1 cap).2≠0 then (Gr.fE,26) else
 (⟨planner,(Gr.aY n planner cap).1,(Ck.run n (Gr.aY n planner cap).1 cap).1.1,(Ck.run n (Gr.aY n planner cap).1 cap).1.2.1,(Ck.run n (Gr.aY n planner cap).1 cap).1.2.2.1,(Ck.run n (Gr.aY n planner cap).1 cap).1.2.2.2⟩,0)
namespace Gr
theorem pQ {n:aA} (h:Nt.check n=0) (h12:n.o.length<=12) (planner cap:Int):(aY n planner cap).1.length<=60000:=by
 have hl:=λkeep=>Rt.iI h h12 keep
 have ha:∀keep,(low n keep).1.length<=60000:=λkeep=>by
  have:=hl keep;unfold low
  split
  ·show (Rt.lW n keep).code.length<=_;omega
  ·simp
 unfold aY
 split
 ·exact ha _
 ·split
  ·split
   ·simp
   ·exact ha _
  ·split
   ·cases kK n cap with
    | none=>simp
    | some kept=>have:=hl kept;show (Rt.lW n kept).code.length<=_;omega
   ·split
    ·unfold bP
     split
     ·simp
     ·split
      ·simp
      ·have hb:=Rt.bX h
       have:=Ch.nW (ws:=Nt.aJ n) (cs:=Nt.aH n) (cap:=cap) (by unfold Nt.aJ Nt.aH;rw [List.length_cons,List.length_map,List.length_map]);simpa using this
    ·simp
end Gr
def dR (r:Gr.Pl × Int) (W:Zp1) (e:Ending) (w':Zp1):Prop:=
 ∃C cc,e=.returned (.tuple #[.agg #[nQ iQ r.1.pl,sQ C r.1.code.length cc,nQ iQ r.1.pk,nQ iQ r.1.co,nQ iQ r.1.ag,nQ iQ r.1.hi],nQ iQ r.2])/\bE w' C r.1.code/\Later W w'/\∀a,C=some a->W.heap.size<=a.block
theorem dR.bad (er:Int) {W w':Zp1} (hl:Later W w'):dR (Gr.fE,er) W (.returned (.tuple #[.agg #[nQ iQ 0,sQ none 0 0,nQ iQ 0,nQ iQ 0,nQ iQ 0,nQ iQ 0],nQ iQ er])) w':=⟨none,0,rfl,bE.nil,hl,λa ha=>by cases ha⟩
set_option maxRecDepth 100000 in
theorem qao (A N:Option Addr) (c d:Nat) (n:aA) (planner cap:Int) (W:Zp1) (hok:n.ok) (hR:bH W A N n) (hd:n.o.length<=d) (h12:n.o.length<=12) (hcap : -9223372036854775808<=cap/\cap<=9223372036854775807):
  Calls prog 16 #[.agg #[sQ A n.inn.length c,sQ N n.o.length d],nQ iQ planner,nQ iQ cap] W (dR (Gr.aF n planner cap) W):=by
 have hM:Later W ((W.alloc (.cells #[sQ A n.inn.length c,sQ N n.o.length d] 26)).alloc (.cells #[nQ iQ 0,sQ none 0 0,nQ iQ 0,nQ iQ 0,nQ iQ 0,nQ iQ 0] 50)):=((Later.refl W).alloc _).alloc _;have h0:=(Blk.new W 26 #[sQ A n.inn.length c,sQ N n.o.length d]).alloc (.cells #[nQ iQ 0,sQ none 0 0,nQ iQ 0,nQ iQ 0,nQ iQ 0,nQ iQ 0] 50);have hE:=Blk.new (W.alloc (.cells #[sQ A n.inn.length c,sQ N n.o.length d] 26)) 50 #[nQ iQ 0,sQ none 0 0,nQ iQ 0,nQ iQ 0,nQ iQ 0,nQ iQ 0];rw [Zh1] at hE;obtain ⟨rm,hrm⟩:∃r,Gr.aF n planner cap=r:=⟨_,rfl⟩
 have hb:rm=if Nt.check n≠0 then (Gr.fE,Nt.check n) else
  if (Gr.aY n planner cap).2≠0 then (Gr.fE,(Gr.aY n planner cap).2) else
  if (Ck.run n (Gr.aY n planner cap).1 cap).2≠0 then (Gr.fE,26) else
  (⟨planner,(Gr.aY n planner cap).1,(Ck.run n (Gr.aY n planner cap).1 cap).1.1,(Ck.run n (Gr.aY n planner cap).1 cap).1.2.1,(Ck.run n (Gr.aY n planner cap).1 cap).1.2.2.1,(Ck.run n (Gr.aY n planner cap).1 cap).1.2.2.2⟩,0):=by rw [←hrm];rfl
 rw [hrm];obtain ⟨HR,hJ,hN,hS,hV,he⟩:=zd6 hR hok hM h0 hE hb;clear hR hok hM h0 hE hb;clear hrm;go_in;go_wp2_with fail;generalize (W.alloc (.cells #[sQ A n.inn.length c,sQ N n.o.length d] 26)).alloc (.cells #[nQ iQ 0,sQ none 0 0,nQ iQ 0,nQ iQ 0,nQ iQ 0,nQ iQ 0] 50)=W1 at *;refine (qb1 A N c d n W1 hJ.out (HR.out.below hN.out (lrZ _)) hd).mono ?_;rintro e W2 ⟨rfl,h2⟩;have hh:Later W1 W2:=h2;have ho:=hN.out.trans hh;have hs:=hh.blk hS.out;have hm:=hh.blk hV.out;clear h2 hh hS hV;have hz:W.heap.size<=W.heap.size+1:=Zy _
 by_cases hj:Nt.check n=0
 rotate_left
 ·have hK:(Nt.check n != 0)=true:=by simp [hj]
  have hb:=he.out;rw [ipZ hj] at hb;clear he;have hg:=qax ho hz (nQ iQ 0) (sQ none 0 0) (nQ iQ 0) (nQ iQ 0) (nQ iQ 0) (nQ iQ 0);have hf:=qaP hm (nQ iQ 0) (sQ none 0 0) (nQ iQ 0) (nQ iQ 0) (nQ iQ 0) (nQ iQ 0);obtain ⟨⟨y0,y1,y2,y3,y4,y5⟩,f0,f1,f2,f3,f4,f5⟩:=qaa hm;have hk:=zI hf;subst hb;have hc:=zI (dR.bad (Nt.check n) hg);generalize Nt.check n=er at *;clear hm hs ho hg hf hj;go_wp2_with fail;obtain ⟨⟨z0,z1,z2,z3,z4,z5⟩,-⟩:=qaa hk.out;refine Zk1 (v:=.tuple #[.agg #[nQ iQ 0,sQ none 0 0,nQ iQ 0,nQ iQ 0,nQ iQ 0,nQ iQ 0],nQ iQ er]) (by simp [results,results16,go_sem,z0,z1,z2,z3,z4,z5]) rfl ?_;exact hc.out
 have hb:=he.out;rw [inZ (by simp [hj])] at hb;clear he;rw [hj];have u0:W2.cell? ⟨W.heap.size,0,none⟩=some (sQ A n.inn.length c):=hs.cell 0;have u1:W2.cell? ⟨W.heap.size,1,none⟩=some (sQ N n.o.length d):=hs.cell 1;have hZ:=qeA A N c d n planner cap W2 hJ.out hj (HR.out.below ho (lrZ _)) hd h12;have hP:=λ(Y:Zp1) (h:Later W Y) (C:Option Addr) (cc:Nat) (hC:bE Y C (Gr.aY n planner cap).1)=>qet A N C c d cc n (Gr.aY n planner cap).1 cap Y hJ.out (HR.out.below h (lrZ _)) hd oZ hcap (by have:=Gr.pQ hj h12 planner cap;omega) hC
 generalize Gr.aY n planner cap=cr at *;obtain ⟨hw,hI,hy,hT,hH,he⟩:=zd6 ho hs hm hZ hP hb;clear ho hs hm hZ hP hb;go_wp2_with fail;refine hT.out.mono ?_;rintro e W3 ⟨C,cc,rfl,hC,hq,ht⟩;have hu:=hw.out.trans hq;have hx:=hq.blk hI.out;have hn:=hq.blk hy.out;clear hT u0 u1
 by_cases hp:cr.2=0
 rotate_left
 ·have hK:(cr.2 != 0)=true:=by simp [hp]
  have hb:=he.out;rw [ipZ hp] at hb;clear he;have hg:=qax hu hz (nQ iQ 0) (sQ none 0 0) (nQ iQ 0) (nQ iQ 0) (nQ iQ 0) (nQ iQ 0);have hf:=qaP hn (nQ iQ 0) (sQ none 0 0) (nQ iQ 0) (nQ iQ 0) (nQ iQ 0) (nQ iQ 0);obtain ⟨⟨y0,y1,y2,y3,y4,y5⟩,f0,f1,f2,f3,f4,f5⟩:=qaa hn;have hk:=zI hf;subst hb;have hc:=zI (dR.bad cr.2 hg);generalize cr.2=er at *;clear hn hx hu hg hf hp hC hq ht hw hI hy hH;go_wp2_with fail;obtain ⟨⟨z0,z1,z2,z3,z4,z5⟩,-⟩:=qaa hk.out;refine Zk1 (v:=.tuple #[.agg #[nQ iQ 0,sQ none 0 0,nQ iQ 0,nQ iQ 0,nQ iQ 0,nQ iQ 0],nQ iQ er]) (by simp [results,results16,go_sem,z0,z1,z2,z3,z4,z5]) rfl ?_;exact hc.out
 have hb:=he.out;rw [inZ (by simp [hp])] at hb;clear he;rw [hp];have hv:=hH.out W3 hu C cc hC;have hG:∀a,C=some a->W2.heap.size<=a.block:=ht
 have hW:∀a,C=some a->a.block≠W.heap.size+1:=λa ha=>by
  have h1:=ht a ha;have h2:=hy.out.lt;omega
 have hQ:∀a,C=some a->W.heap.size<=a.block:=λa ha=>Zv (Below.size hw.out) (ht a ha)
 have u0:W3.cell? ⟨W.heap.size,0,none⟩=some (sQ A n.inn.length c):=hx.cell 0;have u1:W3.cell? ⟨W.heap.size,1,none⟩=some (sQ N n.o.length d):=hx.cell 1;unfold uU qhE at hv;generalize Ck.run n cr.1 cap=rr at *;obtain ⟨⟨pk,co,ag,hi⟩,rer⟩:=rr;simp only at hb hv;obtain ⟨hL,hO,HC,h3,h4,hX,he⟩:=zd7 hu hn hC hW hQ hv hb;clear hu hn hC hW hQ hv hb;clear hq ht hG hw hI hy hx hH;go_wp2_with fail;refine hX.out.mono ?_;rintro e W4 ⟨rfl,hU⟩;have hB:=hU.alloc (.cells #[nQ iQ pk,nQ iQ co,nQ iQ ag,nQ iQ hi] 48);have hD:=Blk.new W4 48 #[nQ iQ pk,nQ iQ co,nQ iQ ag,nQ iQ hi];have hA:=hL.out.trans hB;have hl:=hB.blk hO.out;have hF:=HC.out.below hB (lrZ _);obtain ⟨⟨y0,y1,y2,y3,y4,y5⟩,f0,f1,f2,f3,f4,f5⟩:=qaa hl;clear hX u0 u1 hU hB hL hO HC
 by_cases hr:rer=0
 rotate_left
 ·have hK:(rer != 0)=true:=by simp [hr]
  have hb:=he.out;rw [ipZ hr] at hb;clear he;have hg:=qax hA hz (nQ iQ 0) (sQ none 0 0) (nQ iQ 0) (nQ iQ 0) (nQ iQ 0) (nQ iQ 0);have hf:=qaP hl (nQ iQ 0) (sQ none 0 0) (nQ iQ 0) (nQ iQ 0) (nQ iQ 0) (nQ iQ 0);have hk:=zI hf;subst hb;have hc:=zI (dR.bad 26 hg);clear hl hA hg hf hr hD hF;go_wp2_with fail;obtain ⟨⟨z0,z1,z2,z3,z4,z5⟩,-⟩:=qaa hk.out;refine Zk1 (v:=.tuple #[.agg #[nQ iQ 0,sQ none 0 0,nQ iQ 0,nQ iQ 0,nQ iQ 0,nQ iQ 0],nQ iQ 26]) (by simp [results,results16,go_sem,z0,z1,z2,z3,z4,z5]) rfl ?_;exact hc.out
 ·have hb:=he.out
  rw [inZ (by simp [hr])] at hb;clear he;subst hr;obtain ⟨s0,s1,s2,s3⟩:=(qaw hD).1;have hg:=qax hA hz (nQ iQ planner) (sQ C cr.1.length cc) (nQ iQ pk) (nQ iQ co) (nQ iQ ag) (nQ iQ hi);have hf:=qaP hl (nQ iQ planner) (sQ C cr.1.length cc) (nQ iQ pk) (nQ iQ co) (nQ iQ ag) (nQ iQ hi);have hY:=qbX hF h3.out (nQ iQ planner) (sQ C cr.1.length cc) (nQ iQ pk) (nQ iQ co) (nQ iQ ag) (nQ iQ hi);have hk:=zI hf;subst hb;have hc:=zI (show dR (⟨planner,cr.1,pk,co,ag,hi⟩,0) W (.returned (.tuple #[.agg #[nQ iQ planner,sQ C cr.1.length cc,nQ iQ pk,nQ iQ co,nQ iQ ag,nQ iQ hi],nQ iQ 0])) _ from ⟨C,cc,rfl,hY,hg,h4.out⟩);clear hl hA hg hf hD hF hY;go_wp2_with fail;obtain ⟨⟨z0,z1,z2,z3,z4,z5⟩,-⟩:=qaa hk.out;refine Zk1 (v:=.tuple #[.agg #[nQ iQ planner,sQ C cr.1.length cc,nQ iQ pk,nQ iQ co,nQ iQ ag,nQ iQ hi],nQ iQ 0]) (by simp [results,results16,go_sem,z0,z1,z2,z3,z4,z5]) rfl ?_;exact hc.out
namespace Gr
def better (n:aA) (cap:Int) (b:Pl) (p:Int):Pl:=if (aF n p cap).2≠0 then b else if b.pl=0∨(aF n p cap).1.co<b.co then (aF n p cap).1 else b
def bB (n:aA) (cap:Int):Nat->Pl
 | 0=>fE
 | k+1=>better n cap (bB n cap k) ((k:Int)+1)
def bK (n:aA) (cap:Int):Pl × Int:=if Nt.check n≠0 then (fE,Nt.check n) else if (bB n cap 4).pl=0 then (fE,26) else (bB n cap 4,0)
end Gr
def plCells (r:Gr.Pl) (C:Option Addr) (cc:Nat):Array Value:=#[nQ iQ r.pl,sQ C r.code.length cc,nQ iQ r.pk,nQ iQ r.co,nQ iQ r.ag,nQ iQ r.hi]
structure PlM (b:Nat) (r:Gr.Pl) (C:Option Addr) (cc:Nat) (w:Zp1):Prop where
 box:Blk w b 50 (plCells r C cc)
 code:bE w C r.code
theorem PlM.to_later {b:Nat} {r:Gr.Pl} {C:Option Addr} {cc:Nat} {w w':Zp1} (h:PlM b r C cc w) (hl:Later w w'):PlM b r C cc w':=⟨hl.blk h.box,h.code.below hl (lrZ _)⟩
set_option maxRecDepth 100000 in
theorem qbm (A N:Option Addr) (c d:Nat) (n:aA) (cap:Int) (W:Zp1) (hok:n.ok) (hR:bH W A N n) (hd:n.o.length<=d) (h12:n.o.length<=12) (hcap : -9223372036854775808<=cap/\cap<=9223372036854775807):
  Calls prog 18 #[.agg #[sQ A n.inn.length c,sQ N n.o.length d],nQ iQ cap] W (dR (Gr.bK n cap) W):=by
 have hW:Later W ((W.alloc (.cells #[sQ A n.inn.length c,sQ N n.o.length d] 26)).alloc (.cells #[nQ iQ 0,sQ none 0 0,nQ iQ 0,nQ iQ 0,nQ iQ 0,nQ iQ 0] 50)):=((Later.refl W).alloc _).alloc _;have h8:=(Blk.new W 26 #[sQ A n.inn.length c,sQ N n.o.length d]).alloc (.cells #[nQ iQ 0,sQ none 0 0,nQ iQ 0,nQ iQ 0,nQ iQ 0,nQ iQ 0] 50);have hT:=Blk.new (W.alloc (.cells #[sQ A n.inn.length c,sQ N n.o.length d] 26)) 50 #[nQ iQ 0,sQ none 0 0,nQ iQ 0,nQ iQ 0,nQ iQ 0,nQ iQ 0];rw [Zh1] at hT;obtain ⟨rb,hrb⟩:∃r,Gr.bK n cap=r:=⟨_,rfl⟩
 have hE:rb=if Nt.check n≠0 then (Gr.fE,Nt.check n) else if (Gr.bB n cap 4).pl=0 then (Gr.fE,26) else (Gr.bB n cap 4,0):=by rw [←hrb];rfl
 rw [hrb];clear hrb;have hV:W.heap.size<=W.heap.size+1:=Zy _;obtain ⟨HR,Hl,hX,Hf,h4,HE⟩:=zd6 hR hok hW h8 hT hE;clear hR hok hW h8 hT hE;go_in;go_wp2_with fail;generalize (W.alloc (.cells #[sQ A n.inn.length c,sQ N n.o.length d] 26)).alloc (.cells #[nQ iQ 0,sQ none 0 0,nQ iQ 0,nQ iQ 0,nQ iQ 0,nQ iQ 0] 50)=W1 at *;refine (qb1 A N c d n W1 Hl.out (HR.out.below hX.out (lrZ _)) hd).mono ?_;rintro e W2 ⟨rfl,h2⟩;have hr:Later W1 W2:=h2;have hy:=hX.out.trans hr;have hQ:=hr.blk Hf.out;have hF:=hr.blk h4.out;clear h2 hr Hf h4
 by_cases hH:Nt.check n=0
 rotate_left
 ·have Hq:(Nt.check n != 0)=true:=by simp [hH]
  have hE:=HE.out;rw [ipZ hH] at hE;clear HE;subst hE;have hu:=qax hy hV (nQ iQ 0) (sQ none 0 0) (nQ iQ 0) (nQ iQ 0) (nQ iQ 0) (nQ iQ 0);have ht:=qaP hF (nQ iQ 0) (sQ none 0 0) (nQ iQ 0) (nQ iQ 0) (nQ iQ 0) (nQ iQ 0);obtain ⟨⟨y0,y1,y2,y3,y4,y5⟩,f0,f1,f2,f3,f4,f5⟩:=qaa hF;have hK:=zI ht;have ho:=zI (dR.bad (Nt.check n) hu);generalize Nt.check n=er at *;clear hF hQ hy hu ht hH;go_wp2_with fail;obtain ⟨⟨z0,z1,z2,z3,z4,z5⟩,-⟩:=qaa hK.out;refine Zk1 (v:=.tuple #[.agg #[nQ iQ 0,sQ none 0 0,nQ iQ 0,nQ iQ 0,nQ iQ 0,nQ iQ 0],nQ iQ er]) (by simp [results,results18,go_sem,z0,z1,z2,z3,z4,z5]) rfl ?_;exact ho.out
 have hE:=HE.out;rw [inZ (by simp [hH])] at hE;clear HE;rw [hH];have Hd:=λ(p:Int) (Y:Zp1) (h:Later W Y)=>qao A N c d n p cap Y Hl.out (HR.out.below h (lrZ _)) hd h12 hcap
 have Hh:∀k,Gr.bB n cap (k+1)=if (Gr.aF n ((k:Int)+1) cap).2≠0 then Gr.bB n cap k else if (Gr.bB n cap k).pl=0∨(Gr.aF n ((k:Int)+1) cap).1.co<(Gr.bB n cap k).co then (Gr.aF n ((k:Int)+1) cap).1 else Gr.bB n cap k:=λ_=>rfl
 have Hj:=Blk.new W2 50 #[nQ iQ 0,sQ none 0 0,nQ iQ 0,nQ iQ 0,nQ iQ 0,nQ iQ 0];have hO:Later W2 (W2.alloc (.cells #[nQ iQ 0,sQ none 0 0,nQ iQ 0,nQ iQ 0,nQ iQ 0,nQ iQ 0] 50)):=(Later.refl W2).alloc _;have hq:=hy.trans hO;have h5:=hO.blk hQ;have h1:=hO.blk hF;have Hu:=hF.lt;obtain ⟨HE,Ht,Hr,hY,hL,Hb,Hc⟩:=zd7 hE Hd Hh Hj hq h5 h1;clear hE Hd Hh Hj hq h5 h1;clear hQ hF hy hO;go_wp2_with fail;generalize W2.alloc (.cells #[nQ iQ 0,sQ none 0 0,nQ iQ 0,nQ iQ 0,nQ iQ 0,nQ iQ 0] 50)=W3 at *;generalize W2.heap.size=bb at *
 go_loopw [8,9,10] (λpl _ _ wr=>∃(k:Nat) (C:Option Addr) (cc:Nat),k<=4/\pl=nQ iQ ((k:Int)+1)/\PlM bb (Gr.bB n cap k) C cc wr/\(∀a,C=some a->bb<a.block)/\Later W wr/\Blk wr W.heap.size 26 #[sQ A n.inn.length c,sQ N n.o.length d]/\Blk wr (W.heap.size+1) 50 #[nQ iQ 0,sQ none 0 0,nQ iQ 0,nQ iQ 0,nQ iQ 0,nQ iQ 0]) (λpl _ _ _=>5-(intOf pl).toNat)
 case atStart=>exact ⟨0,none,0,by omega,rfl,⟨hY.out,bE.nil⟩,(λa ha=>nomatch ha),hL.out,Hb.out,Hc.out⟩
 case round=>
  obtain ⟨k,C,cc,hk,rfl,hM,hC,hx,hz,hw⟩:=hrel;clear hY hL Hb Hc
  by_cases Hw:k<4
  ·have u0:wr.cell? ⟨W.heap.size,0,none⟩=some (sQ A n.inn.length c):=hz.cell 0
   have u1:wr.cell? ⟨W.heap.size,1,none⟩=some (sQ N n.o.length d):=hz.cell 1;have hs:=Hr.out k;have hm:=Ht.out ((k:Int)+1) wr hx;have Hv:=hM.box.lt;have k1:(k:Int)+1<=4:=by omega
   have w1:iQ.wrap ((k:Int)+1+1)=(k:Int)+1+1:=Zc1 _ oZ;generalize hB0:Gr.bB n cap k=b0 at *;generalize hB1:Gr.bB n cap (k+1)=b1 at *;unfold dR at hm;generalize Gr.aF n ((k:Int)+1) cap=mr at *;obtain ⟨r,er⟩:=mr;simp only at hs hm;obtain ⟨HM,HC,h7,He,Ho,Hm,Hy,hN⟩:=zd8 hM hC hx hz hw hm hB0 hB1;clear hM hC hx hz hw hm hB0 hB1;go_wp2_with fail;refine Hm.out.mono ?_;rintro e w2 ⟨D,dd,rfl,hD,hy,h9⟩;have hU:=Blk.new w2 50 #[nQ iQ r.pl,sQ D r.code.length dd,nQ iQ r.pk,nQ iQ r.co,nQ iQ r.ag,nQ iQ r.hi];have hq:=hy.alloc (.cells #[nQ iQ r.pl,sQ D r.code.length dd,nQ iQ r.pk,nQ iQ r.co,nQ iQ r.ag,nQ iQ r.hi] 50);have hv:=hD.below (show Later w2 _ from (Later.refl w2).alloc (.cells #[nQ iQ r.pl,sQ D r.code.length dd,nQ iQ r.pk,nQ iQ r.co,nQ iQ r.ag,nQ iQ r.hi] 50)) (lrZ _);have hn:=HM.out.to_later hq;have hc:=h7.out.trans hq;have hg:=hq.blk He.out;have hf:=hq.blk Ho.out;have hA:∀a,D=some a->bb<a.block:=λa ha=>by have:=h9 a ha;omega
   obtain ⟨⟨m0,m1,m2,m3,m4,m5⟩,n0,n1,n2,n3,n4,n5⟩:=qaa hn.box;obtain ⟨⟨q0,q1,q2,q3,q4,q5⟩,-⟩:=qaa hU;clear Hm u0 u1 HM h7 He Ho hy hD h9
   by_cases he:er=0
   rotate_left
   ·have Hq:(er != 0)=true:=by simp [he]
    rw [ipZ he] at hs;rw [←hs] at hn;obtain ⟨hB,hh,hl,hj,Hs⟩:=zd5 hn hc hg hf hs;clear hn hc hg hf hs;clear he hU hq hv m0 m1 m2 m3 m4 m5 q0 q1 q2 q3 q4 q5 n0 n1 n2 n3 n4 n5;go_wp2_with fail;go_roundw
    case rel=>exact ⟨k+1,C,cc,by omega,by go_num,by rw [hN.out];exact hB.out,HC.out,hh.out,hl.out,hj.out⟩
    case measure=>simp [intOf];omega
   rw [inZ (by simp [he])] at hs;subst he;have hJ:(w2.alloc (.cells #[nQ iQ r.pl,sQ D r.code.length dd,nQ iQ r.pk,nQ iQ r.co,nQ iQ r.ag,nQ iQ r.hi] 50)).heap.size=w2.heap.size+1:=Zh1 _ _;clear hU;obtain ⟨hB,Hi,hh,hl,hj,hL,hS,Hs,hI⟩:=zd9 hn hv hc hg hf hq hJ hs hA;clear hn hv hc hg hf hq hJ hs hA;go_upto_region 10 with fail;generalize w2.alloc (.cells #[nQ iQ r.pl,sQ D r.code.length dd,nQ iQ r.pk,nQ iQ r.co,nQ iQ r.ag,nQ iQ r.hi] 50)=w3 at *;generalize w2.heap.size=pb at *;have hn:=hB.out;have hv:=Hi.out;have hc:=hh.out;have hg:=hl.out;have hf:=hj.out;have hs:=Hs.out;have hA:=hI.out;clear hB Hi hh hl hj hL hS Hs hI
   by_cases hb:b0.pl=0∨r.co<b0.co
   ·rw [ipZ hb] at hs
    have h0:PlM bb r D dd _:=⟨qaP hn.box (nQ iQ r.pl) (sQ D r.code.length dd) (nQ iQ r.pk) (nQ iQ r.co) (nQ iQ r.ag) (nQ iQ r.hi),qbX hv (λa ha=>by have:=hA a ha;omega) (nQ iQ r.pl) (sQ D r.code.length dd) (nQ iQ r.pk) (nQ iQ r.co) (nQ iQ r.ag) (nQ iQ r.hi)⟩
    have Hn:=qax hc (show W.heap.size<=bb by omega) (nQ iQ r.pl) (sQ D r.code.length dd) (nQ iQ r.pk) (nQ iQ r.co) (nQ iQ r.ag) (nQ iQ r.hi);have Hk:Blk _ W.heap.size 26 #[sQ A n.inn.length c,sQ N n.o.length d]:=(qdF (show W.heap.size≠bb by omega) (nQ iQ r.pl) (sQ D r.code.length dd) (nQ iQ r.pk) (nQ iQ r.co) (nQ iQ r.ag) (nQ iQ r.hi)).trans hg;have h6:Blk _ (W.heap.size+1) 50 #[nQ iQ 0,sQ none 0 0,nQ iQ 0,nQ iQ 0,nQ iQ 0,nQ iQ 0]:=(qdF (show W.heap.size+1≠bb by omega) (nQ iQ r.pl) (sQ D r.code.length dd) (nQ iQ r.pk) (nQ iQ r.co) (nQ iQ r.ag) (nQ iQ r.hi)).trans hf;obtain ⟨Ha,hZ,h3,Hg,Hs,hI⟩:=zd6 h0 Hn Hk h6 hs hA;clear h0 Hn Hk h6 hs hA;clear hn hc hg hf hv
    by_cases hp:b0.pl=0
    ·have e1:(b0.pl==0)=true:=by simp [hp]
     clear hb;go_wp2_with fail;go_roundw
     case rel=>exact ⟨k+1,D,dd,by omega,by go_num,by rw [hN.out,Hs.out];exact Ha.out,hI.out,hZ.out,h3.out,Hg.out⟩
     case measure=>simp [intOf];omega
    ·have e1:(b0.pl==0)=false:=by simp [hp]
     have e2:r.co<b0.co:=by rcases hb with h|h<;>first|exact absurd h hp|exact h
     clear hb hp;go_wp2_with fail;go_roundw
     case rel=>exact ⟨k+1,D,dd,by omega,by go_num,by rw [hN.out,Hs.out];exact Ha.out,hI.out,hZ.out,h3.out,Hg.out⟩
     case measure=>simp [intOf];omega
   ·rw [inZ hb] at hs
    rw [←hs] at hn;have e1:(b0.pl==0)=false:=by simp;exact λh=>hb (.inl h)
    have e2:¬r.co<b0.co:=λh=>hb (.inr h)
    obtain ⟨hB,hh,hl,hj,Hs⟩:=zd5 hn hc hg hf hs;clear hn hc hg hf hs;clear hb hv;go_wp2_with fail;go_roundw
    case rel=>exact ⟨k+1,C,cc,by omega,by go_num,by rw [hN.out];exact hB.out,HC.out,hh.out,hl.out,hj.out⟩
    case measure=>simp [intOf];omega
  ·obtain rfl:k=4:=by omega
   have hG:=HE.out;obtain ⟨⟨m0,m1,m2,m3,m4,m5⟩,-⟩:=qaa hM.box;obtain ⟨⟨y0,y1,y2,y3,y4,y5⟩,f0,f1,f2,f3,f4,f5⟩:=qaa hw;have Hx:bb>W.heap.size+1:=by omega
   generalize Gr.bB n cap 4=b at *
   by_cases hp:b.pl=0
   ·rw [ipZ hp] at hG
    have hP:=zI hG;clear hG HE;have e1:(b.pl==0)=true:=by simp [hp]
    have hu:=qax hx hV (nQ iQ 0) (sQ none 0 0) (nQ iQ 0) (nQ iQ 0) (nQ iQ 0) (nQ iQ 0);have ht:=qaP hw (nQ iQ 0) (sQ none 0 0) (nQ iQ 0) (nQ iQ 0) (nQ iQ 0) (nQ iQ 0);have hK:=zI ht;have ho:=zI (dR.bad 26 hu);clear hu ht hM hC hx hz hw hp;go_wp2_with fail;obtain ⟨⟨z0,z1,z2,z3,z4,z5⟩,-⟩:=qaa hK.out;refine Zk1 (v:=.tuple #[.agg #[nQ iQ 0,sQ none 0 0,nQ iQ 0,nQ iQ 0,nQ iQ 0,nQ iQ 0],nQ iQ 26]) (by simp [results,results18,go_sem,z0,z1,z2,z3,z4,z5]) rfl ?_;rw [hP.out];exact ho.out
   ·rw [inZ hp] at hG
    have hP:=zI hG;clear hG HE;have e1:(b.pl==0)=false:=by simp [hp]
    have hu:=qax hx hV (nQ iQ b.pl) (sQ C b.code.length cc) (nQ iQ b.pk) (nQ iQ b.co) (nQ iQ b.ag) (nQ iQ b.hi);have ht:=qaP hw (nQ iQ b.pl) (sQ C b.code.length cc) (nQ iQ b.pk) (nQ iQ b.co) (nQ iQ b.ag) (nQ iQ b.hi);have Hp:=qbX (g:=W.heap.size+1) hM.code (λa ha=>by have:=hC a ha;omega) (nQ iQ b.pl) (sQ C b.code.length cc) (nQ iQ b.pk) (nQ iQ b.co) (nQ iQ b.ag) (nQ iQ b.hi);have hK:=zI ht;have ho:=zI (show dR (b,0) W (.returned (.tuple #[.agg #[nQ iQ b.pl,sQ C b.code.length cc,nQ iQ b.pk,nQ iQ b.co,nQ iQ b.ag,nQ iQ b.hi],nQ iQ 0])) _ from ⟨C,cc,rfl,Hp,hu,λa ha=>by have:=hC a ha;omega⟩);clear hu ht hM hC hx hz hw hp Hp;go_wp2_with fail;obtain ⟨⟨z0,z1,z2,z3,z4,z5⟩,-⟩:=qaa hK.out;refine Zk1 (v:=.tuple #[.agg #[nQ iQ b.pl,sQ C b.code.length cc,nQ iQ b.pk,nQ iQ b.co,nQ iQ b.ag,nQ iQ b.hi],nQ iQ 0]) (by simp [results,results18,go_sem,z0,z1,z2,z3,z4,z5]) rfl ?_;rw [hP.out];exact ho.out
namespace Gr
structure Lo where
 low:Int
 fnd:Bool
 good:Int
def look (n:aA) (kept:List Int) (s:Lo):Lo:=if aB n kept<s.low then (if (Cd.aD (Rt.lW n kept).code (Nt.aD n)).2=0 then ⟨aB n kept,true,aB n kept⟩ else ⟨aB n kept,s.fnd,s.good⟩) else s
def eP (n:aA):Nat->List Int->Lo->Lo
 | 0,_,s=>s
 | m+1,kept,s=>if kept.length=0 then look n kept s else eP n m (less (Nt.words n) kept) (look n kept s)
def iH (n:aA):Int × Int:=if (eP n (n.o.length+1) (ones n.o.length) ⟨1073741825,false,0⟩).fnd=false then (0,26) else ((eP n (n.o.length+1) (ones n.o.length) ⟨1073741825,false,0⟩).good,0)
end Gr
set_option maxRecDepth 100000 in
theorem qcZ (A N:Option Addr) (c d:Nat) (n:aA) (W:Zp1) (hok:n.ok) (hch:Nt.check n=0) (hR:bH W A N n) (hd:n.o.length<=d) (h12:n.o.length<=12):
  Calls prog 37 #[.agg #[sQ A n.inn.length c,sQ N n.o.length d]] W λe w'=>e=.returned (.tuple #[nQ iQ (Gr.iH n).1,nQ iQ (Gr.iH n).2])/\Later W w':=by
 have Hj:Later W (W.alloc (.cells #[sQ A n.inn.length c,sQ N n.o.length d] 26)):=(Later.refl W).alloc _;have Hy:=Blk.new W 26 #[sQ A n.inn.length c,sQ N n.o.length d];have HF:=qaO n.o.length;obtain ⟨lr,hlr⟩:∃r,Gr.iH n=r:=⟨_,rfl⟩
 have hE:lr=if (Gr.eP n (n.o.length+1) (ones n.o.length) ⟨1073741825,false,0⟩).fnd=false then (0,26) else ((Gr.eP n (n.o.length+1) (ones n.o.length) ⟨1073741825,false,0⟩).good,0):=by rw [←hlr];rfl
 rw [hlr];have Hl:=Nt.dB hch;have HB:(Nt.aD n).length=n.o.length+1:=by simp [Nt.aD,Nt.bJ]
 obtain ⟨z,hz⟩:∃z,Gr.eP n (n.o.length+1) (ones n.o.length) ⟨1073741825,false,0⟩=z:=⟨_,rfl⟩
 rw [hz] at hE;obtain ⟨HR,Hh,hZ,HO,HE,HN,HL,HA,Hz⟩:=zd9 hR hok Hj Hy hE HF Hl HB hz;have hT:=zI hch;clear hR hok Hj Hy hE HF Hl HB hz hch;clear hlr;go_in;go_wp2_with fail;generalize W.alloc (.cells #[sQ A n.inn.length c,sQ N n.o.length d] 26)=W1 at *;refine (qcg A N c d n W1 Hh.out (HR.out.below hZ.out (lrZ _)) hd h12).mono ?_;rintro e W2 (⟨h0,-⟩|⟨-,g,k,p,rfl,hM⟩)
 ·exact absurd hT.out h0
 have Hb:=hM.later.blk HO.out;have u0:W2.cell? ⟨W.heap.size,0,none⟩=some (sQ A n.inn.length c):=Hb.cell 0;have u1:W2.cell? ⟨W.heap.size,1,none⟩=some (sQ N n.o.length d):=Hb.cell 1;have HI:=qby A N c d n W2 Hh.out (HR.out.below (hZ.out.trans hM.later) (lrZ _)) hd oZ;obtain ⟨HM,Hv⟩:=zd2 hM HI;clear hM HI;clear Hb;go_wp2_with fail;refine Hv.out.mono ?_;rintro e W3 ⟨Ho,⟨-,g1,g2,rfl,-,h5⟩|⟨h0,-⟩⟩
 rotate_left
 ·exact absurd hT.out h0
 have hQ:Later W2 W3:=Ho;have hn:=HM.out.to_later hQ;have Hf:=Blk.new W3 55 #[sQ (some ⟨g1,0,none⟩) (n.o.length+1) (n.o.length+1),sQ (some ⟨g2,0,none⟩) (n.o.length+1) (n.o.length+1),nQ iQ (Nt.total n)];have hL:Later W3 (W3.alloc (.cells #[sQ (some ⟨g1,0,none⟩) (n.o.length+1) (n.o.length+1),sQ (some ⟨g2,0,none⟩) (n.o.length+1) (n.o.length+1),nQ iQ (Nt.total n)] 55)):=(Later.refl W3).alloc _;have Hm:=hn.to_later hL;have HK:=hL.blk h5;have Hr:1<=n.o.length:=(Nt.aK hT.out).1
 have hU:k≠g2:=λe=>by
  obtain ⟨r,hr,-⟩:=hn.row;rw [e] at hr;have h1:=hr.cell 0;have h2:=h5.cell 0;rw [h1] at h2
  have e1:(qa9 (ones n.o.length++r)).toArray[0]? = some (nQ iQ 1):=by
   obtain ⟨m,hm⟩:∃m,n.o.length=m+1:=⟨n.o.length-1,by omega⟩
   rw [hm];simp [qa9,ones,List.range_succ_eq_map]
  have e2:(qa9 (Nt.aD n)).toArray[0]? = some (nQ iQ 0):=by simp [qa9,Nt.aD]
  rw [e1,e2] at h2;simp at h2
 have hY:p≠g2:=Blk.ne hn.box h5 dZ;have HW:=Hf.lt;have HQ:p≠W3.heap.size:=by have:=hn.box.lt;omega
 have HP:k≠W3.heap.size:=by obtain ⟨r,hr,-⟩:=hn.row;have:=hr.lt;omega
 obtain ⟨HC,Hn,HH,Ha,h8,HT⟩:=zd6 Hm HK Hf hY hU Hr;clear Hm HK Hf hY hU Hr;clear Ho hQ hn h5 hL HM Hv u0 u1;go_wp2_with fail;generalize W3.alloc (.cells #[sQ (some ⟨g1,0,none⟩) (n.o.length+1) (n.o.length+1),sQ (some ⟨g2,0,none⟩) (n.o.length+1) (n.o.length+1),nQ iQ (Nt.total n)] 55)=W4 at *;generalize W3.heap.size=pb at *
 go_loopw [7,8,9,10,11,12,13,14,31,43] (λlo fd gd _ _ _ _ _ _ _ wr=>∃(m:Nat) (kept:List Int) (s:Gr.Lo),kept.length<m/\Gr.eP n m kept s=z/\lo=nQ iQ s.low/\fd=.bool s.fnd/\gd=nQ iQ s.good/\GrM A N c d n W1 g k p kept wr/\Blk wr g2 3 (qa9 (Nt.aD n)).toArray/\Blk wr pb 55 #[sQ (some ⟨g1,0,none⟩) (n.o.length+1) (n.o.length+1),sQ (some ⟨g2,0,none⟩) (n.o.length+1) (n.o.length+1),nQ iQ (Nt.total n)]) (λ_ _ _ _ _ _ _ _ _ _ wr=>Gr.jO p wr)
 case atStart=>exact ⟨n.o.length+1,_,_,by rw [HN.out];omega,Hz.out,rfl,rfl,rfl,HC.out,Hn.out,HH.out⟩
 case round=>
  obtain ⟨m,kept,s,hm,Hp,rfl,rfl,rfl,h7,Hw,hH⟩:=hrel;clear HC Hn HH;have HD:=h7.jO;have Hg:=HR.out.below hZ.out (lrZ _);have Hi:=qcY A N c d g k p n W1 kept wr Hh.out hT.out Hg hd h12 h7;have He:=λ(Y:Zp1) (C:Option Addr) (cc:Nat) (hC:bE Y C (Rt.lW n kept).code) (hI:Ints iQ Y (some ⟨g2,0,none⟩) (Nt.aD n))=>qek C cc (Rt.lW n kept).code (some ⟨g2,0,none⟩) (n.o.length+1) (Nt.aD n) Y (by have:=Rt.iI hT.out h12 kept;omega) hC (by rw [HA.out];omega) hI
  rw [HA.out] at He;have hA:Gr.look n kept s=if Gr.aB n kept<s.low then (if (Cd.aD (Rt.lW n kept).code (Nt.aD n)).2=0 then ⟨Gr.aB n kept,true,Gr.aB n kept⟩ else ⟨Gr.aB n kept,s.fnd,s.good⟩) else s:=rfl
  obtain ⟨m',rfl⟩:∃m',m=m'+1:=⟨m-1,by omega⟩
  have hW:(if kept.length=0 then Gr.look n kept s else Gr.eP n m' (Gr.less (Nt.words n) kept) (Gr.look n kept s))=z:=Hp;clear Hp;obtain ⟨HJ,Hx,h6,HG,h9,Hc,HV,hi⟩:=zd8 h7 Hi HD Hw hH He Hg hW;clear h7 Hi HD Hw hH He Hg hW;go_wp2_with fail;refine Hx.out.mono ?_;rintro e w3 ⟨C,cc,rfl,hC,h4,-⟩;have hn:=HJ.out.to_later h4;have hS:=h4.blk HG.out;have hV:=h4.blk h9.out;have Hd:Gr.jO p wr=kept.length:=h6.out;clear h4 Hx HJ HG h9;generalize hq:Gr.look n kept s=s2 at *;obtain ⟨lo2,fd2,gd2⟩:=s2;obtain ⟨lo,fd,gd⟩:=s
  have tail:∀(w4:Zp1),GrM A N c d n W1 g k p kept w4->Blk w4 g2 3 (qa9 (Nt.aD n)).toArray->Blk w4 pb 55 #[sQ (some ⟨g1,0,none⟩) (n.o.length+1) (n.o.length+1),sQ (some ⟨g2,0,none⟩) (n.o.length+1) (n.o.length+1),nQ iQ (Nt.total n)]->
    Calls prog 67 #[.pointer (some ⟨p,0,none⟩)] w4 λe w'=>(kept=[]/\e=.returned (.bool false)/\Later W w')∨(kept≠[]/\e=.returned (.bool true)/\GrM A N c d n W1 g k p (Gr.less (Nt.words n) kept) w'/\Blk w' g2 3 (qa9 (Nt.aD n)).toArray/\Blk w' pb 55 #[sQ (some ⟨g1,0,none⟩) (n.o.length+1) (n.o.length+1),sQ (some ⟨g2,0,none⟩) (n.o.length+1) (n.o.length+1),nQ iQ (Nt.total n)]):=λw4 h1 h2 h3=>(qcc A N c d g k p n W1 kept w4 HL.out oZ h1).mono λe w' ⟨h,hk⟩=>by
   rcases h with ⟨a1,a2,a3⟩|⟨a1,a2,a3⟩
   ·exact .inl ⟨a1,a2,hZ.out.trans a3.later⟩
   ·exact .inr ⟨a1,a2,a3,hk.blk h2 (by simp;exact ⟨λe=>h8.out e.symm,λe=>Ha.out e.symm⟩),hk.blk h3 (by simp;exact ⟨λe=>HP e.symm,λe=>HQ e.symm⟩)⟩
  clear Hd
  by_cases hc:Gr.aB n kept<lo
  ·rw [ipZ hc] at hA
   have Hq:Ints iQ w3 (some ⟨g2,0,none⟩) (Nt.aD n):=tQ _ hS;have hJ:=Hc.out w3 C cc hC Hq;have p1:w3.cell? ⟨pb,1,none⟩=some (sQ (some ⟨g2,0,none⟩) (n.o.length+1) (n.o.length+1)):=hV.cell 1;generalize hcs:Cd.aD (Rt.lW n kept).code (Nt.aD n)=cs at *;obtain ⟨cv,cer⟩:=cs;simp only at hA hJ;generalize hH:Gr.aB n kept=pk at *;generalize (Rt.lW n kept).code=cd at *;have HS:pk<lo:=hc;obtain ⟨hX,Hs,Hk,Hu,h9,HU⟩:=zd6 hJ hn hS hV hH hcs;clear hJ hn hS hV hH hcs;clear Hc Hq hC hc;go_wp2_with fail;refine hX.out.mono ?_;rintro e w4 ⟨rfl,hL⟩;have hv:Later w3 w4:=hL;have hM:=Hs.out.to_later hv;have hG:=hv.blk Hk.out;have hp:=hv.blk Hu.out;clear hL hv hX Hs Hk Hu p1
   by_cases hK:cer=0
   ·rw [ipZ hK] at hA
    injection hA with q1 q2 q3
    replace q1:=q1.symm;replace q2:=q2.symm;replace q3:=q3.symm;subst q1 q2 q3;have e1:(cer==0)=true:=by simp [hK]
    clear hq hK;have ht:=tail w4 hM hG hp;have hy:(if kept.length=0 then (⟨pk,true,pk⟩:Gr.Lo) else Gr.eP n m' (Gr.less (Nt.words n) kept) ⟨pk,true,pk⟩)=z:=hi.out;clear hM hG hp tail hi;obtain ⟨Ht,hh⟩:=zd2 ht hy;clear ht hy;go_wp2_with fail;refine Ht.out.mono ?_;rintro e w5 (⟨h0,rfl,hj⟩|⟨h0,rfl,ho,hx,hB⟩)
    ·have hF:(⟨pk,true,pk⟩:Gr.Lo)=z:=by
      have h:=hh.out;rw [ipZ (by rw [h0];rfl)] at h;exact h
     have ha:=HE.out;rw [←hF] at ha;clear Ht hh h0 hF;rw [inZ sZ] at ha;obtain ⟨hu,hw⟩:=zd2 ha hj;clear ha hj;go_wp2_with fail
     go_ret2
     exact ⟨by rw [hu.out];rfl,hw.out⟩
    ·have hD:¬kept.length=0:=λe=>h0 (List.length_eq_zero_iff.1 e)
     have hb:=Gr.iR (ws:=Nt.words n) (kept:=kept) oZ
     have hg:Gr.eP n m' (Gr.less (Nt.words n) kept) ⟨pk,true,pk⟩=z:=by
      have h:=hh.out
      rwa [inZ hD] at h
     have he:=ho.jO;obtain ⟨hN,hP,hO,hl,hf,hs⟩:=zd6 ho hx hB hg hb he;clear ho hx hB hg hb he;clear Ht hh h0 hD;go_wp2_with fail;go_roundw
     case rel=>exact ⟨m',_,⟨pk,true,pk⟩,by have:=hf.out;omega,hl.out,rfl,rfl,rfl,hN.out,hP.out,hO.out⟩
     case measure=>rw [h6.out,hs.out];have:=hf.out;omega
   ·rw [inZ hK] at hA
    injection hA with q1 q2 q3
    replace q1:=q1.symm;replace q2:=q2.symm;replace q3:=q3.symm;subst q1 q2 q3;have e1:(cer==0)=false:=by simp [hK]
    clear hq hK;have ht:=tail w4 hM hG hp;have hy:(if kept.length=0 then (⟨pk,fd,gd⟩:Gr.Lo) else Gr.eP n m' (Gr.less (Nt.words n) kept) ⟨pk,fd,gd⟩)=z:=hi.out;clear hM hG hp tail hi;obtain ⟨Ht,hh⟩:=zd2 ht hy;clear ht hy;go_wp2_with fail;refine Ht.out.mono ?_;rintro e w5 (⟨h0,rfl,hj⟩|⟨h0,rfl,ho,hx,hB⟩)
    ·have hF:(⟨pk,fd,gd⟩:Gr.Lo)=z:=by
      have h:=hh.out;rw [ipZ (by rw [h0];rfl)] at h;exact h
     have ha:=HE.out;rw [←hF] at ha;clear Ht hh h0 hF;cases fd
     ·rw [ipZ rfl] at ha
      obtain ⟨hu,hw⟩:=zd2 ha hj;clear ha hj;go_wp2_with fail
      go_ret2
      exact ⟨by rw [hu.out];rfl,hw.out⟩
     ·rw [inZ sZ] at ha
      obtain ⟨hu,hw⟩:=zd2 ha hj;clear ha hj;go_wp2_with fail
      go_ret2
      exact ⟨by rw [hu.out];rfl,hw.out⟩
    ·have hD:¬kept.length=0:=λe=>h0 (List.length_eq_zero_iff.1 e)
     have hb:=Gr.iR (ws:=Nt.words n) (kept:=kept) oZ
     have hg:Gr.eP n m' (Gr.less (Nt.words n) kept) ⟨pk,fd,gd⟩=z:=by
      have h:=hh.out
      rwa [inZ hD] at h
     have he:=ho.jO;obtain ⟨hN,hP,hO,hl,hf,hs⟩:=zd6 ho hx hB hg hb he;clear ho hx hB hg hb he;clear Ht hh h0 hD;go_wp2_with fail;go_roundw
     case rel=>exact ⟨m',_,⟨pk,fd,gd⟩,by have:=hf.out;omega,hl.out,rfl,rfl,rfl,hN.out,hP.out,hO.out⟩
     case measure=>rw [h6.out,hs.out];have:=hf.out;omega
  ·rw [inZ hc] at hA
   injection hA with q1 q2 q3
   replace q1:=q1.symm;replace q2:=q2.symm;replace q3:=q3.symm;subst q1 q2 q3;have hM:=hn;have hG:=hS;have hp:=hV;generalize hH:Gr.aB n kept=pk at *;generalize (Rt.lW n kept).code=cd at *;clear hq hn hS hV hC Hc hH;have ht:=tail w3 hM hG hp;have hy:(if kept.length=0 then (⟨lo,fd,gd⟩:Gr.Lo) else Gr.eP n m' (Gr.less (Nt.words n) kept) ⟨lo,fd,gd⟩)=z:=hi.out;clear hM hG hp tail hi;obtain ⟨Ht,hh⟩:=zd2 ht hy;clear ht hy;go_wp2_with fail;refine Ht.out.mono ?_;rintro e w5 (⟨h0,rfl,hj⟩|⟨h0,rfl,ho,hx,hB⟩)
   ·have hF:(⟨lo,fd,gd⟩:Gr.Lo)=z:=by
     have h:=hh.out;rw [ipZ (by rw [h0];rfl)] at h;exact h
    have ha:=HE.out;rw [←hF] at ha;clear Ht hh h0 hF;cases fd
    ·rw [ipZ rfl] at ha
     obtain ⟨hu,hw⟩:=zd2 ha hj;clear ha hj;go_wp2_with fail
     go_ret2
     exact ⟨by rw [hu.out];rfl,hw.out⟩
    ·rw [inZ sZ] at ha
     obtain ⟨hu,hw⟩:=zd2 ha hj;clear ha hj;go_wp2_with fail
     go_ret2
     exact ⟨by rw [hu.out];rfl,hw.out⟩
   ·have hD:¬kept.length=0:=λe=>h0 (List.length_eq_zero_iff.1 e)
    have hb:=Gr.iR (ws:=Nt.words n) (kept:=kept) oZ
    have hg:Gr.eP n m' (Gr.less (Nt.words n) kept) ⟨lo,fd,gd⟩=z:=by
     have h:=hh.out
     rwa [inZ hD] at h
    have he:=ho.jO;obtain ⟨hN,hP,hO,hl,hf,hs⟩:=zd6 ho hx hB hg hb he;clear ho hx hB hg hb he;clear Ht hh h0 hD;go_wp2_with fail;go_roundw
    case rel=>exact ⟨m',_,⟨lo,fd,gd⟩,by have:=hf.out;omega,hl.out,rfl,rfl,rfl,hN.out,hP.out,hO.out⟩
    case measure=>rw [h6.out,hs.out];have:=hf.out;omega
def Gr.nC (n:aA):Int × Int:=if Nt.check n≠0 then (0,Nt.check n) else if (Gr.aF n 3 1073741824).2≠0 then (0,(Gr.aF n 3 1073741824).2) else Gr.iH n
set_option maxRecDepth 100000 in
theorem qd9 (A N:Option Addr) (c d:Nat) (n:aA) (W:Zp1) (hok:n.ok) (hR:bH W A N n) (hd:n.o.length<=d) (h12:n.o.length<=12):
  Calls prog 15 #[.agg #[sQ A n.inn.length c,sQ N n.o.length d],nQ iQ 3] W λe w'=>e=.returned (.tuple #[nQ iQ (Gr.nC n).1,nQ iQ (Gr.nC n).2])/\Later W w':=by
 have hp:Later W (W.alloc (.cells #[sQ A n.inn.length c,sQ N n.o.length d] 26)):=(Later.refl W).alloc _;have hx:=Blk.new W 26 #[sQ A n.inn.length c,sQ N n.o.length d];obtain ⟨lr,hlr⟩:∃r,Gr.nC n=r:=⟨_,rfl⟩
 have hE:lr=if Nt.check n≠0 then (0,Nt.check n) else if (Gr.aF n 3 1073741824).2≠0 then (0,(Gr.aF n 3 1073741824).2) else Gr.iH n:=by rw [←hlr];rfl
 rw [hlr];obtain ⟨HR,ho,hq,hr,HE⟩:=zd5 hR hok hp hx hE;clear hR hok hp hx hE;clear hlr;go_in;go_wp2_with fail;generalize W.alloc (.cells #[sQ A n.inn.length c,sQ N n.o.length d] 26)=W1 at *;refine (qb1 A N c d n W1 ho.out (HR.out.below hq.out (lrZ _)) hd).mono ?_;rintro e W2 ⟨rfl,h2⟩;have ha:Later W1 W2:=h2;have hc:=hq.out.trans ha;have hg:=ha.blk hr.out;clear h2 ha hr;have hE:=HE.out;clear HE
 by_cases hb:Nt.check n=0
 rotate_left
 ·have hy:(Nt.check n != 0)=true:=by simp [hb]
  rw [ipZ hb] at hE;generalize Nt.check n=er at *;obtain ⟨HE,hl⟩:=zd2 hE hc;clear hE hc;clear hb hg;go_wp2_with fail
  go_ret2
  exact ⟨by rw [HE.out];rfl,hl.out⟩
 rw [inZ (by simp [hb])] at hE;rw [hb];have u0:W2.cell? ⟨W.heap.size,0,none⟩=some (sQ A n.inn.length c):=hg.cell 0;have u1:W2.cell? ⟨W.heap.size,1,none⟩=some (sQ N n.o.length d):=hg.cell 1;have hj:=qao A N c d n 3 1073741824 W2 ho.out (HR.out.below hc (lrZ _)) hd h12 oZ;unfold dR at hj;generalize Gr.aF n 3 1073741824=mr at *;obtain ⟨r,er⟩:=mr;simp only at hE hj;obtain ⟨hl,hA,ht,HE⟩:=zd4 hc hg hj hE;clear hc hg hj hE;go_wp2_with fail;refine ht.out.mono ?_;rintro e W3 ⟨C,cc,rfl,-,hm,-⟩;have hk:Later W3 (W3.alloc (.cells #[nQ iQ r.pl,sQ C r.code.length cc,nQ iQ r.pk,nQ iQ r.co,nQ iQ r.ag,nQ iQ r.hi] 50)):=(Later.refl W3).alloc _;have hf:=(hl.out.trans hm).trans hk;have hh:=(hm.trans hk).blk hA.out;clear u0 u1 ht hm hk;have hE:=HE.out;clear HE
 by_cases he:er=0
 rotate_left
 ·have hy:(er != 0)=true:=by simp [he]
  rw [ipZ he] at hE;obtain ⟨HE,hn⟩:=zd2 hE hf;clear hE hf;clear he hh;go_wp2_with fail
  go_ret2
  exact ⟨by rw [HE.out];rfl,hn.out⟩
 rw [inZ (by simp [he])] at hE;subst he;have u0:(W3.alloc (.cells #[nQ iQ r.pl,sQ C r.code.length cc,nQ iQ r.pk,nQ iQ r.co,nQ iQ r.ag,nQ iQ r.hi] 50)).cell? ⟨W.heap.size,0,none⟩=some (sQ A n.inn.length c):=hh.cell 0;have u1:(W3.alloc (.cells #[nQ iQ r.pl,sQ C r.code.length cc,nQ iQ r.pk,nQ iQ r.co,nQ iQ r.ag,nQ iQ r.hi] 50)).cell? ⟨W.heap.size,1,none⟩=some (sQ N n.o.length d):=hh.cell 1;have hs:=qcZ A N c d n _ ho.out hb (HR.out.below hf (lrZ _)) hd h12;obtain ⟨HE,hn,hv⟩:=zd3 hE hf hs;clear hE hf hs;clear hh;go_wp2_with fail;refine hv.out.mono ?_;rintro e W5 ⟨rfl,hu⟩;have hw:=hn.out.trans hu;have hz:=zI hw;clear hw;clear hv hu u0 u1;go_wp2_with fail
 go_ret2
 exact ⟨by rw [HE.out];rfl,hz.out⟩
namespace Gr
open Rt (an)
theorem fU:Nt.check an=0:=Rt.fU
theorem qhK:Nt.sO an.o=[1,2]:=by decide +kernel
theorem qfO:Safe.bC an.o.length=1:=by decide +kernel
theorem qhL:qaq an (Safe.bC an.o.length)=[1,2]:=by
 rw [qfO];unfold qaq;rw [ipZ ⟨fU,by decide,by decide⟩,qhK]
 show Rt.every [1,2] 1=[1,2]
 unfold Rt.every;rw [show Rt.picks ([1,2]:List Int) 1 (([1,2]:List Int).length / 1)=[1,2] by decide];exact List.mergeSort_of_pairwise dZ
theorem qhM:qay an (Safe.bC an.o.length)=0:=by
 rw [qfO];unfold qay;rw [inZ (by simp [fU]),ipZ dZ]
theorem tH:kK an 100=some [1,2]:=by decide +kernel
theorem an_low:nC an=(5,0):=by decide +kernel
theorem an_code2 (cap:Int):aY an 2 cap=aY an 1 cap:=by
 show (if (2:Int)=1 then _ else if (2:Int)=2 then _ else _)=_
 rw [inZ dZ,ipZ rfl,qhM,qhL,inZ sZ]
 rfl
theorem qdG (cap:Int):(aF an 2 cap).2=(aF an 1 cap).2/\(aF an 2 cap).1.co=(aF an 1 cap).1.co:=by
 unfold aF;rw [an_code2]
 constructor
 ·split
  ·rfl
  ·split
   ·rfl
   ·split<;>rfl
 ·split
  ·rfl
  ·split
   ·rfl
   ·split<;>rfl
theorem kP:(aF an 1 100).2=0/\(aF an 1 100).1.pl=1/\(aF an 1 100).1.co=4:=by decide +kernel
theorem uS:(aF an 3 100).2=0/\(aF an 3 100).1.co=4:=by decide +kernel
theorem uP:(aF an 4 100).2=0/\(aF an 4 100).1.co=4:=by decide +kernel
theorem uM:(aF an 1 1).2≠0:=by decide +kernel
theorem an_n3:(aF an 3 1).2≠0:=by decide +kernel
theorem an_n4:(aF an 4 1).2≠0:=by decide +kernel
theorem an_m5:(aF an 5 100).2=11:=by decide +kernel
theorem an_best100:(bK an 100).2=0/\(bK an 100).1.pl=1/\(bK an 100).1.co=4:=by
 have h1:bB an 100 1=(aF an 1 100).1:=by
  show better an 100 fE 1=_
  unfold better;rw [inZ (by rw [kP.1];simp),ipZ (.inl rfl)]
 have h2:bB an 100 2=(aF an 1 100).1:=by
  show better an 100 (bB an 100 1) 2=_
  unfold better;rw [inZ (by rw [(qdG 100).1,kP.1];simp),inZ (by rw [h1,(qdG 100).2,kP.2.1];omega),h1]
 have h3:bB an 100 3=(aF an 1 100).1:=by
  show better an 100 (bB an 100 2) 3=_
  unfold better;rw [inZ (by rw [uS.1];simp),inZ (by rw [h2,uS.2,kP.2.1,kP.2.2];omega),h2]
 have h4:bB an 100 4=(aF an 1 100).1:=by
  show better an 100 (bB an 100 3) 4=_
  unfold better;rw [inZ (by rw [uP.1];simp),inZ (by rw [h3,uP.2,kP.2.1,kP.2.2];omega),h3]
 unfold bK;rw [inZ (by simp [fU]),h4,inZ (by rw [kP.2.1];decide)];exact ⟨rfl,kP.2.1,kP.2.2⟩
theorem an_best1:(bK an 1).2=26:=by
 have h:∀b p,(aF an p 1).2≠0->better an 1 b p=b:=λb p hp=>by unfold better;rw [ipZ hp]
 have h4:bB an 1 4=fE:=by
  show better an 1 (better an 1 (better an 1 (better an 1 fE 1) 2) 3) 4=_
  rw [h _ 1 uM,h _ 2 (by rw [(qdG 1).1];exact uM),h _ 3 an_n3,h _ 4 an_n4]
 unfold bK;rw [inZ (by simp [fU]),h4,ipZ (show fE.pl=0 from rfl)]
end Gr
set_option maxRecDepth 100000 in
theorem qfi (w:Zp1):Calls prog 9 #[] w λe w'=>e=.returned (.bool true)/\Below w.heap.size w w':=by
 obtain ⟨hR,hk,hl⟩:=qhd w;have hM:∀(W:Zp1) (cap:Int),bH W (some ⟨w.heap.size,0,none⟩) (some ⟨w.heap.size+1+1+1,0,none⟩) Rt.an->-9223372036854775808<=cap/\cap<=9223372036854775807->Calls prog 18 #[.agg #[sQ (some ⟨w.heap.size,0,none⟩) 1 1,sQ (some ⟨w.heap.size+1+1+1,0,none⟩) 2 2],nQ iQ cap] W (dR (Gr.bK Rt.an cap) W):=λW cap h1 h2=>qbm (some ⟨w.heap.size,0,none⟩) (some ⟨w.heap.size+1+1+1,0,none⟩) 1 2 Rt.an cap W sF h1 dZ dZ h2
 have hF:∀(W:Zp1),bH W (some ⟨w.heap.size,0,none⟩) (some ⟨w.heap.size+1+1+1,0,none⟩) Rt.an->Calls prog 16 #[.agg #[sQ (some ⟨w.heap.size,0,none⟩) 1 1,sQ (some ⟨w.heap.size+1+1+1,0,none⟩) 2 2],nQ iQ 5,nQ iQ 100] W (dR (Gr.aF Rt.an 5 100) W):=λW h1=>qao (some ⟨w.heap.size,0,none⟩) (some ⟨w.heap.size+1+1+1,0,none⟩) 1 2 Rt.an 5 100 W sF h1 dZ dZ oZ
 have hX:∀(W:Zp1),bH W (some ⟨w.heap.size,0,none⟩) (some ⟨w.heap.size+1+1+1,0,none⟩) Rt.an->Calls prog 15 #[.agg #[sQ (some ⟨w.heap.size,0,none⟩) 1 1,sQ (some ⟨w.heap.size+1+1+1,0,none⟩) 2 2],nQ iQ 3] W (λe w'=>e=.returned (.tuple #[nQ iQ 5,nQ iQ 0])/\Later W w'):=λW h1=>(qd9 (some ⟨w.heap.size,0,none⟩) (some ⟨w.heap.size+1+1+1,0,none⟩) 1 2 Rt.an W sF h1 dZ dZ).mono λe w' ⟨h1,h2⟩=>⟨by rw [h1,Gr.an_low],h2⟩
 have hY:∀(W:Zp1),bH W (some ⟨w.heap.size,0,none⟩) (some ⟨w.heap.size+1+1+1,0,none⟩) Rt.an->Calls prog 10 #[.agg #[sQ (some ⟨w.heap.size,0,none⟩) 1 1,sQ (some ⟨w.heap.size+1+1+1,0,none⟩) 2 2],nQ iQ 100] W (λe w'=>(∃K kc,e=.returned (.tuple #[sQ K 2 kc,nQ iQ 0]))/\Later W w'):=λW h1=>(qfh (some ⟨w.heap.size,0,none⟩) (some ⟨w.heap.size+1+1+1,0,none⟩) 1 2 Rt.an 100 W sF h1 dZ dZ).mono λe w' ⟨hl,h⟩=>by
  rcases h with ⟨h0,-⟩|⟨-,hf,-⟩|⟨-,kept,K,kc,hf,he,-⟩
  ·exact absurd Rt.fU h0
  ·rw [Gr.tH] at hf;cases hf
  ·rw [Gr.tH] at hf
   injection hf with hf
   subst hf;exact ⟨⟨K,kc,he⟩,hl⟩
 obtain ⟨HR,Hk,Hl,hC,h6,h5,h4⟩:=zd7 hR hk hl hM hF hX hY;clear hR hk hl hM hF hX hY;go_in;go_upto_region 2 with fail
 change Code.wp _ _ _ _ (anW w)
 have x0:=Hk.out.cell 0;have x1:=Hk.out.cell 1;simp only [Zk,List.getElem?_cons_succ,List.getElem?_cons_zero] at x0 x1;generalize anW w=w1 at *;generalize hq:w.heap.size=q at *;have HQ:=zI hq;clear hq;go_wp2_with fail;have h1:=hC.out w1 100 HR.out oZ;obtain ⟨g1,g2,g3⟩:=Gr.an_best100;unfold dR at h1;generalize Gr.bK Rt.an 100=r1 at *;obtain ⟨⟨rpl,rcode,rpk,rco,rag,rhi⟩,er⟩:=r1;simp only at h1 g1 g2 g3;subst g1 g2 g3;have H1:=zI h1;clear h1;refine H1.out.mono ?_;rintro e w2 ⟨C,cc,rfl,-,hb,-⟩;have hV:=Blk.new w2 50 #[nQ iQ 1,sQ C rcode.length cc,nQ iQ rpk,nQ iQ 4,nQ iQ rag,nQ iQ rhi];have ha:=hb.alloc (.cells #[nQ iQ 1,sQ C rcode.length cc,nQ iQ rpk,nQ iQ 4,nQ iQ rag,nQ iQ rhi] 50);have hs:=ha.blk Hk.out;have hB:=HR.out.below ha (lrZ _);have hW:=Hl.out.trans ha;clear x0 x1 H1 Hk HR Hl hb ha;have x0:=hs.cell 0;have x1:=hs.cell 1;simp only [Zk,List.getElem?_cons_succ,List.getElem?_cons_zero] at x0 x1;obtain ⟨hE,hx,hA,hT⟩:=zd4 hs hB hW hV;clear hs hB hW hV;go_wp2_with fail;generalize w2.alloc (.cells #[nQ iQ 1,sQ C rcode.length cc,nQ iQ rpk,nQ iQ 4,nQ iQ rag,nQ iQ rhi] 50)=w3 at *;generalize w2.heap.size=b3 at *;have hh:=hT;clear hT;have h1:=hC.out w3 1 hx.out oZ;have g4:=Gr.an_best1;unfold dR at h1;generalize Gr.bK Rt.an 1=r1 at *;obtain ⟨s4,er⟩:=r1;simp only at h1 g4;subst g4;have H1:=zI h1;clear h1;refine H1.out.mono ?_;rintro e v4 ⟨C4,cc4,rfl,-,hb,-⟩;have ha:=hb.alloc (.cells #[nQ iQ s4.pl,sQ C4 s4.code.length cc4,nQ iQ s4.pk,nQ iQ s4.co,nQ iQ s4.ag,nQ iQ s4.hi] 50);have hr:=ha.blk hE.out;have h3:=hx.out.below ha (lrZ _);have hO:=hA.out.trans ha;have hc:=ha.blk hh.out;clear x0 x1 H1 hE hx hA hh hb ha;have x0:=hr.cell 0;have x1:=hr.cell 1;simp only [Zk,List.getElem?_cons_succ,List.getElem?_cons_zero] at x0 x1
 obtain ⟨hL,hy,hI,hn⟩:=zd4 hr h3 hO hc;clear hr h3 hO hc;go_wp2_with fail;generalize v4.alloc (.cells #[nQ iQ s4.pl,sQ C4 s4.code.length cc4,nQ iQ s4.pk,nQ iQ s4.co,nQ iQ s4.ag,nQ iQ s4.hi] 50)=w4 at *;generalize v4.heap.size=b4 at *;have h1:=h6.out w4 hy.out;have g4:=Gr.an_m5;unfold dR at h1;generalize Gr.aF Rt.an 5 100=r1 at *;obtain ⟨s5,er⟩:=r1;simp only at h1 g4;subst g4;have H1:=zI h1;clear h1;refine H1.out.mono ?_;rintro e v5 ⟨C5,cc5,rfl,-,hb,-⟩;have ha:=hb.alloc (.cells #[nQ iQ s5.pl,sQ C5 s5.code.length cc5,nQ iQ s5.pk,nQ iQ s5.co,nQ iQ s5.ag,nQ iQ s5.hi] 50);have hu:=ha.blk hL.out;have hK:=hy.out.below ha (lrZ _);have hZ:=hI.out.trans ha;have hd:=ha.blk hn.out;clear x0 x1 H1 hL hy hI hn hb ha;have x0:=hu.cell 0;have x1:=hu.cell 1;simp only [Zk,List.getElem?_cons_succ,List.getElem?_cons_zero] at x0 x1;obtain ⟨hD,hz,hU,hp⟩:=zd4 hu hK hZ hd;clear hu hK hZ hd;go_wp2_with fail;generalize v5.alloc (.cells #[nQ iQ s5.pl,sQ C5 s5.code.length cc5,nQ iQ s5.pk,nQ iQ s5.co,nQ iQ s5.ag,nQ iQ s5.hi] 50)=w5 at *;generalize v5.heap.size=b5 at *;have h1:=h5.out w5 hz.out;have H1:=zI h1;clear h1;refine H1.out.mono ?_;rintro e w6 ⟨rfl,ha⟩;have hb:=ha;have ht:=ha.blk hD.out;have hJ:=hz.out.below ha (lrZ _);have hS:=hU.out.trans ha;have hg:=ha.blk hp.out;clear x0 x1 H1 hD hz hU hp hb ha;have x0:=ht.cell 0;have x1:=ht.cell 1;simp only [Zk,List.getElem?_cons_succ,List.getElem?_cons_zero] at x0 x1;obtain ⟨hN,hw,hP,hm⟩:=zd4 ht hJ hS hg;clear ht hJ hS hg;go_wp2_with fail;have h1:=h4.out w6 hw.out;have H1:=zI h1;clear h1;refine H1.out.mono ?_;rintro e w7 ⟨⟨K,kc,rfl⟩,ha⟩;have hb:=ha;have hv:=ha.blk hN.out;have hQ:=hw.out.below ha (lrZ _);have hH:=hP.out.trans ha;have hj:=ha.blk hm.out;clear x0 x1 H1 hN hw hP hm hb ha
 have x0:=hv.cell 0;have x1:=hv.cell 1;simp only [Zk,List.getElem?_cons_succ,List.getElem?_cons_zero] at x0 x1;obtain ⟨h8,h7,hG,ho⟩:=zd4 hv hQ hH hj;clear hv hQ hH hj;have y0:w7.cell? ⟨b3,0,none⟩=some (nQ iQ 1):=ho.out.cell 0;have y3:w7.cell? ⟨b3,3,none⟩=some (nQ iQ 4):=ho.out.cell 3;clear x0 x1;go_wp2_with fail;go_ret;exact ⟨rfl,by first|exact hG.out|(rw [←HQ.out];exact hG.out)⟩
theorem qdH (A N:Option Addr) (c d:Nat) (n:aA) (w:Zp1) (hok:n.ok) (hR:bH w A N n):
  Calls prog 8 #[.agg #[sQ A n.inn.length c,sQ N n.o.length d]] w λe w'=>∃b,e=.returned (.bool b)/\(b=true->n.o.length<=9)/\Below w.heap.size w w':=by
 have hr:=hok.2.1;have hd:Below w.heap.size w (w.alloc (.cells #[sQ A n.inn.length c,sQ N n.o.length d] 26)):=(Ze1 _ _).alloc (lrZ _) _
 by_cases h9:9<n.o.length
 ·have e1:decide ((9:Int)<(n.o.length:Int))=true:=by simp;omega
  have e2:(9:Int)<(n.o.length:Int):=by omega
  obtain ⟨hi,HR⟩:=zd2 hok hR;clear hok hR;go_in;go_wp2_with fail;go_ret;exact ⟨_,rfl,by simp,hd⟩
 have e1:decide ((9:Int)<(n.o.length:Int))=false:=by simp;omega
 have e2:¬(9:Int)<(n.o.length:Int):=by omega
 obtain ⟨hi,HR⟩:=zd2 hok hR;clear hok hR;go_in;go_wp2_with fail;generalize w.alloc (.cells #[sQ A n.inn.length c,sQ N n.o.length d] 26)=w1 at *;clear e1 e2
 go_loopw [3,18] (λt i wx=>∃(k:Nat) (z:Int),k<=n.o.length/\i=nQ iQ (k:Int)/\t=nQ iQ z/\Below w.heap.size w wx) (λ_ i _=>n.o.length-(intOf i).toNat)
 case atStart=>exact ⟨0,_,Zt _,rfl,rfl,hd⟩
 case round=>
  obtain ⟨k,z,hk,rfl,rfl,hc⟩:=hrel;clear hd
  by_cases hg:k<n.o.length
  ·obtain ⟨b,off,S,sc,J,ic,Q,qc,rfl,hb,-,-,-⟩:=HR.out.2.at_ hg
   have ha:=hi.out.2.2 _ (gmZ hg);have hq:=ha.2.2.2.1;have hf:=hb.2.2.2;generalize n.o[k]=v at *;obtain ⟨⟨y0,y1,y2,y3,y4,y5,y6,y7,y8,y9⟩,-⟩:=hb.below hc;have he:=hc.alloc hc.size (.cells #[nQ iQ v.op.kind,nQ iQ v.op.k,nQ iQ v.op.width,nQ iQ v.op.step,nQ iQ v.op.side,nQ iQ v.op.frm,nQ iQ v.op.to,sQ S v.op.s.length sc,sQ J v.ins.length ic,sQ Q v.p.length qc] 77);obtain ⟨hp,hl,hj⟩:=zd3 hb ha hf;clear hb ha hf;go_wp2_with fail;clear y0 y1 y2 y3 y4 y5 y6 y7 y8 y9;generalize wr.alloc (.cells #[nQ iQ v.op.kind,nQ iQ v.op.k,nQ iQ v.op.width,nQ iQ v.op.step,nQ iQ v.op.side,nQ iQ v.op.frm,nQ iQ v.op.to,sQ S v.op.s.length sc,sQ J v.ins.length ic,sQ Q v.p.length qc] 77)=w2 at *
   go_loop [3,36] (λt i=>∃(mm:Nat) (z2:Int),mm<=v.p.length/\i=nQ iQ (mm:Int)/\t=nQ iQ z2) (λ_ i=>v.p.length-(intOf i).toNat)
   case atStart=>exact ⟨0,_,Zt _,rfl,rfl⟩
   case round=>
    obtain ⟨mm,z2,hm,rfl,rfl⟩:=hrel
    by_cases ho:mm<v.p.length
    ·obtain ⟨b5,o5,Ss,cs,rfl,-,hh,-⟩:=hj.out mm ho
     have hn:=qa0 he hh;generalize v.p[mm]=s at *;clear hh;go_wp2_with fail
     go_round
     case rel=>exact ⟨mm+1,_,by omega,by go_num,rfl⟩
     case measure=>simp [intOf];omega
    ·obtain rfl:mm=v.p.length:=by omega
     go_wp2_with fail;go_roundw
     case rel=>exact ⟨k+1,_,by omega,by go_num,rfl,he⟩
     case measure=>simp [intOf];omega
  ·obtain rfl:k=n.o.length:=by omega
   go_wp2_with fail;go_ret;exact ⟨_,rfl,λ_=>by omega,hc⟩
open Go.ChangeShapes Go.WideShapes Go.Deep Go.RowKit
section
variable {H:Type} {enc:TypeId × Value->H} {P:Program} {W:Zp1} {base:Nat} {spare:Nat->Bool} {held:Bool}
theorem bulk_one (d:DataW H):1<=Rows.uptoBulk d:=by
 cases d with
 | lit l=>cases l<;>simp [Rows.uptoBulk]
 | nil=>simp [Rows.uptoBulk]
 | ptr d=>simp [Rows.uptoBulk]
 | slice elems spare=>simp [Rows.uptoBulk]
 | agg parts=>simp [Rows.uptoBulk]
 | iface t d=>simp [Rows.uptoBulk]
 | map entries=>simp [Rows.uptoBulk]
 | held h=>simp [Rows.uptoBulk]
theorem qbF {d:DataW H} {l:List (DataW H)} (h:d∈l):Rows.uptoBulk d<=Rows.uptoBulkAll l:=by
 induction l with
 | nil=>cases h
 | cons x r ih=>
  simp only [Rows.uptoBulkAll];cases List.mem_cons.1 h with
  | inl e=>subst e;omega
  | inr e=>have:=ih e;omega
theorem bulk_len (l:List (DataW H)):l.length<=Rows.uptoBulkAll l:=by
 induction l with
 | nil=>simp [Rows.uptoBulkAll]
 | cons x r ih=>have:=bulk_one x;simp only [Rows.uptoBulkAll,List.length_cons];omega
theorem qbd {t e:TypeId} {fuel:Nat} {v:Value} {x:DataW H × List MemPlace} (ht:P.underlying t=some (.slice e)) (h:DataW.trod enc P W base spare held fuel t [v]=some x) (hz:Rows.uptoBulk x.1<=1048576):
  v=sQ none 0 0∨∃a len cap,v=sQ (some a) len cap/\len<=cap/\cap<=maxLen/\len<=1048576/\
   ∀i,i<len->∃cs' m y,W.cells? base (a.add (i*P.cellsOf e)) (P.cellsOf e)=some cs'/\DataW.trod enc P W base spare held m e cs'=some y/\Rows.uptoBulk y.1<=1048576:=by
 rcases open_slice ht h with ⟨ha,_⟩|⟨a,len,cap,m,n,D,Pl,ha,_,hl,hm,hb,hx,hi⟩
 ·simp at ha;exact .inl ha
 ·simp at ha;subst ha
  right
  have hd:len<=m:=by rw [hb];split<;>omega
  rw [hx] at hz;simp only [Rows.uptoBulk] at hz;refine ⟨a,len,cap,rfl,hl,hm,?_,λi hc=>?_⟩
  ·have:=bulk_len ((List.range len).map D)
   simp at this;omega
  ·obtain ⟨cs',h1,h2⟩:=hi i oZ
   refine ⟨cs',n,_,h1,h2,?_⟩;have:=qbF (d:=D i) (l:=(List.range len).map D) (List.mem_map.2 ⟨i,by simpa using hc,rfl⟩)
   show Rows.uptoBulk (D i)<=_
   omega
end
theorem int_one':prog.cellsOf 3=1:=by kernel_rfl
theorem shp_one:prog.cellsOf 23=1:=by kernel_rfl
theorem qgu:prog.cellsOf 77=10:=by kernel_rfl
theorem qbG {H:Type} {enc:TypeId × Value->H} {W:Zp1} {base:Nat} {spare:Nat->Bool} {held:Bool} {t:TypeId} {fuel:Nat} {v:Value} {x:DataW H × List MemPlace} (ht:prog.underlying t=some (.slice 3))
  (h:DataW.trod enc prog W base spare held fuel t [v]=some x) (hz:Rows.uptoBulk x.1<=1048576):
  ∃A c zs,v=sQ A zs.length c/\Ints iQ W A zs/\zs.length<=c/\c<=9223372036854775807/\zs.length<=1048576/\∀z∈zs,-9223372036854775808<=z/\z<=9223372036854775807:=by
 obtain ⟨A,c,zs,rfl,hl,hc,hI,hw⟩:=qhA ht underlying3 int_one' h;refine ⟨A,c,zs,rfl,hI,hc,?_,?_,λz hz=>qcw (hw z hz)⟩
 ·rcases qbd ht h hz with e|⟨a,len,cap,e,_,hm,_⟩
  ·injection e with _ _ e;omega
  ·injection e with _ _ e;unfold maxLen at hm;omega
 ·rcases qbd ht h hz with e|⟨a,len,cap,e,_,_,hb,_⟩
  ·injection e with _ e _;rw [e];exact Zt _
  ·have e2:zs.length=len:=by simp at e;exact e.2.1
   rw [e2];exact hb
theorem one_list {l:List Value} (h:l.length=1):∃v,l=[v]:=by
 match l,h with
 | [v],_=>exact ⟨v,rfl⟩
theorem qd0 {α:Type} [Inhabited α] {n:Nat} {Q:Nat->α->Prop} (h:∀i,i<n->∃a,Q i a):∃l:List α,l.length=n/\∀i (hi:i<l.length),Q i l[i]:=by
 obtain ⟨f,hf⟩:=@choose_lt α _ _ _ h;exact ⟨(List.range n).map f,by simp,λi hi=>by simp at hi;simpa using hf i hi⟩
theorem qfP {W:Zp1} {a:Addr} {v:Value} (h:W.cell? a=some v):∃b off,a=⟨b,off,none⟩:=by
 obtain ⟨b,off,spot⟩:=a;have hs:spot=none:=by simpa using World.cell?_spot h
 subst hs;exact ⟨b,off,rfl⟩
theorem qhN {H:Type} {enc:TypeId × Value->H} {W:Zp1} {base:Nat} {spare:Nat->Bool} {held:Bool} {fuel:Nat} {v:Value} {x:DataW H × List MemPlace}
  (h:DataW.trod enc prog W base spare held fuel 75 [v]=some x) (hz:Rows.uptoBulk x.1<=1048576):
  ∃A c ss,v=sQ A ss.length c/\bI W A ss/\ss.length<=c/\c<=9223372036854775807/\ss.length<=1048576/\∀s∈ss,s.length<=1048576/\∀z∈s,-9223372036854775808<=z/\z<=9223372036854775807:=by
 rcases qbd underlying75 h hz with rfl|⟨a,len,cap,rfl,hl,hm,hb,hi⟩
 ·exact ⟨none,0,[],rfl,bI.nil,by simp,by omega,by simp,by simp⟩
 ·rw [shp_one] at hi
  have key:∀i,i<len->∃q:(List Int) × (Option Addr) × Nat,W.cell? (a.add i)=some (.slice q.2.1 q.1.length q.2.2)/\Ints iQ W q.2.1 q.1/\q.1.length<=q.2.2/\q.2.2<=9223372036854775807/\q.1.length<=1048576/\∀z∈q.1,-9223372036854775808<=z/\z<=9223372036854775807:=λi hf=>by
   obtain ⟨cs',m,y,hc,ht,hw⟩:=hi i hf;obtain ⟨_,ha,he⟩:=World.cells?_some hc;obtain ⟨v,rfl⟩:=one_list ha;obtain ⟨A,c,zs,rfl,h1,h2⟩:=qbG underlying23 ht hw;refine ⟨(zs,A,c),?_,h1,h2⟩;have:=he 0 oZ;rw [Nat.mul_one] at this;simpa [Addr.add] using this
  obtain ⟨L,hL,hq⟩:=qd0 key;refine ⟨some a,cap,L.map (·.1),by simp [hL],λj hj=>?_,by simpa [hL] using hl,by unfold maxLen at hm;omega,by simp [hL];exact hb,λs hs=>?_⟩
  ·rw [List.length_map] at hj
   obtain ⟨h1,h2,h3,h4,_⟩:=hq j hj;obtain ⟨h0,_⟩:=hq 0 oZ;obtain ⟨b,off,rfl⟩:=qfP (show W.cell? a=_ by simpa [Addr.add] using h0);rw [qbU] at h1;rw [List.getElem_map];exact ⟨b,off,_,_,rfl,Zj1 _ _ h1,h1,h2,h3,h4⟩
  ·obtain ⟨q,hd,rfl⟩:=List.mem_map.1 hs
   obtain ⟨i,hi,rfl⟩:=List.getElem_of_mem hd;exact (hq i hi).2.2.2.2
def OpD.inR (o:OpD):Prop:=o.wide/\∀z∈o.s,-9223372036854775808<=z/\z<=9223372036854775807
def aP.fits (v:aP):Prop:=v.op.wide/\v.op.s.length<=1048576/\v.ins.length<=1048576/\v.p.length<=1048576/\(∀s∈v.p,s.length<=1048576)/\
 (∀z∈v.op.s,-9223372036854775808<=z/\z<=9223372036854775807)/\(∀z∈v.ins,-9223372036854775808<=z/\z<=9223372036854775807)/\∀s∈v.p,∀z∈s,-9223372036854775808<=z/\z<=9223372036854775807
def aA.fits (n:aA):Prop:=n.inn.length<=1048576/\n.o.length<=1048576/\(∀z∈n.inn,-9223372036854775808<=z/\z<=9223372036854775807)/\∀v∈n.o,v.fits
theorem qgv:prog.underlying 77=some (.struct (prog.fieldsOf 77)):=by kernel_rfl
theorem qgw:(prog.fieldsOf 77).size=3:=by kernel_rfl
theorem node_f0:((prog.fieldsOf 77)[0]?).map (λf=>(f.type,f.offset,prog.cellsOf f.type))=some (74,0,8):=by kernel_rfl
theorem node_f1:((prog.fieldsOf 77)[1]?).map (λf=>(f.type,f.offset,prog.cellsOf f.type))=some (22,8,1):=by kernel_rfl
theorem node_f2:((prog.fieldsOf 77)[2]?).map (λf=>(f.type,f.offset,prog.cellsOf f.type))=some (75,9,1):=by kernel_rfl
theorem op_under:prog.underlying 74=some (.struct (prog.fieldsOf 74)):=by kernel_rfl
theorem op_eight:(prog.fieldsOf 74).size=8:=by kernel_rfl
theorem op_f0:((prog.fieldsOf 74)[0]?).map (λf=>(f.type,f.offset,prog.cellsOf f.type))=some (3,0,1):=by kernel_rfl
theorem op_f1:((prog.fieldsOf 74)[1]?).map (λf=>(f.type,f.offset,prog.cellsOf f.type))=some (72,1,1):=by kernel_rfl
theorem op_f2:((prog.fieldsOf 74)[2]?).map (λf=>(f.type,f.offset,prog.cellsOf f.type))=some (3,2,1):=by kernel_rfl
theorem op_f3:((prog.fieldsOf 74)[3]?).map (λf=>(f.type,f.offset,prog.cellsOf f.type))=some (3,3,1):=by kernel_rfl
theorem op_f4:((prog.fieldsOf 74)[4]?).map (λf=>(f.type,f.offset,prog.cellsOf f.type))=some (3,4,1):=by kernel_rfl
theorem op_f5:((prog.fieldsOf 74)[5]?).map (λf=>(f.type,f.offset,prog.cellsOf f.type))=some (3,5,1):=by kernel_rfl
theorem op_f6:((prog.fieldsOf 74)[6]?).map (λf=>(f.type,f.offset,prog.cellsOf f.type))=some (3,6,1):=by kernel_rfl
theorem op_f7:((prog.fieldsOf 74)[7]?).map (λf=>(f.type,f.offset,prog.cellsOf f.type))=some (23,7,1):=by kernel_rfl
theorem list3 {α:Type} {l:List α} (h:l.length=3):∃a b c,l=[a,b,c]:=by
 match l,h with
 | [a,b,c],_=>exact ⟨a,b,c,rfl⟩
theorem list8 {α:Type} {l:List α} (h:l.length=8):∃a b c d e f g i,l=[a,b,c,d,e,f,g,i]:=by
 match l,h with
 | [a,b,c,d,e,f,g,i],_=>exact ⟨a,b,c,d,e,f,g,i,rfl⟩
theorem list10 {α:Type} {l:List α} (h:l.length=10):∃a b c d e f g i j k,l=[a,b,c,d,e,f,g,i,j,k]:=by
 match l,h with
 | [a,b,c,d,e,f,g,i,j,k],_=>exact ⟨a,b,c,d,e,f,g,i,j,k,rfl⟩
set_option maxRecDepth 100000 in
theorem op_open {H:Type} {enc:TypeId × Value->H} {W:Zp1} {base:Nat} {spare:Nat->Bool} {held:Bool} {fuel:Nat} {v0 v1 v2 v3 v4 v5 v6 v7:Value} {x:DataW H × List MemPlace}
  (h:DataW.trod enc prog W base spare held fuel 74 [v0,v1,v2,v3,v4,v5,v6,v7]=some x) (hz:Rows.uptoBulk x.1<=1048576):
  ∃(o:OpD) (S:Option Addr) (c:Nat),v0=nQ iQ o.kind/\v1=nQ iQ o.k/\v2=nQ iQ o.width/\v3=nQ iQ o.step/\v4=nQ iQ o.side/\v5=nQ iQ o.frm/\v6=nQ iQ o.to/\v7=sQ S o.s.length c/\
   Ints iQ W S o.s/\o.s.length<=c/\c<=9223372036854775807/\o.s.length<=1048576/\o.wide/\∀z∈o.s,-9223372036854775808<=z/\z<=9223372036854775807:=by
 obtain ⟨ys,n,_,hx,_,ha,hg⟩:=DataW.trod_struct op_under h;rw [op_eight] at ha;obtain ⟨y0,y1,y2,y3,y4,y5,y6,y7,rfl⟩:=list8 ha;rw [hx] at hz;obtain ⟨f0,e0,t0⟩:=Option.map_eq_some_iff.1 op_f0;simp only [Prod.mk.injEq] at t0;have h0:=hg 0 f0 e0;rw [t0.2.2,t0.2.1,t0.1] at h0;simp at h0;obtain ⟨f1,e1,t1⟩:=Option.map_eq_some_iff.1 op_f1;simp only [Prod.mk.injEq] at t1;have h1:=hg 1 f1 e1;rw [t1.2.2,t1.2.1,t1.1] at h1;simp at h1;obtain ⟨f2,e2,t2⟩:=Option.map_eq_some_iff.1 op_f2;simp only [Prod.mk.injEq] at t2;have h2:=hg 2 f2 e2;rw [t2.2.2,t2.2.1,t2.1] at h2;simp at h2;obtain ⟨f3,e3,t3⟩:=Option.map_eq_some_iff.1 op_f3;simp only [Prod.mk.injEq] at t3;have h3:=hg 3 f3 e3;rw [t3.2.2,t3.2.1,t3.1] at h3;simp at h3;obtain ⟨f4,e4,t4⟩:=Option.map_eq_some_iff.1 op_f4;simp only [Prod.mk.injEq] at t4;have h4:=hg 4 f4 e4;rw [t4.2.2,t4.2.1,t4.1] at h4;simp at h4;obtain ⟨f5,e5,t5⟩:=Option.map_eq_some_iff.1 op_f5;simp only [Prod.mk.injEq] at t5;have h5:=hg 5 f5 e5;rw [t5.2.2,t5.2.1,t5.1] at h5;simp at h5;obtain ⟨f6,e6,t6⟩:=Option.map_eq_some_iff.1 op_f6;simp only [Prod.mk.injEq] at t6;have h6:=hg 6 f6 e6;rw [t6.2.2,t6.2.1,t6.1] at h6;simp at h6;obtain ⟨f7,e7,t7⟩:=Option.map_eq_some_iff.1 op_f7;simp only [Prod.mk.injEq] at t7;have h7:=hg 7 f7 e7;rw [t7.2.2,t7.2.1,t7.1] at h7;simp at h7;have hb:Rows.uptoBulk y7.1<=1048576:=by simp [Rows.uptoBulk,Rows.uptoBulkAll] at hz;omega
 obtain ⟨x0,q0,_,w0⟩:=DataW.trod_int underlying3 h0;simp at q0;subst q0;obtain ⟨x1,q1,_,w1⟩:=DataW.trod_int underlying72 h1;simp at q1;subst q1;obtain ⟨x2,q2,_,w2⟩:=DataW.trod_int underlying3 h2;simp at q2;subst q2;obtain ⟨x3,q3,_,w3⟩:=DataW.trod_int underlying3 h3;simp at q3;subst q3;obtain ⟨x4,q4,_,w4⟩:=DataW.trod_int underlying3 h4;simp at q4;subst q4;obtain ⟨x5,q5,_,w5⟩:=DataW.trod_int underlying3 h5;simp at q5;subst q5;obtain ⟨x6,q6,_,w6⟩:=DataW.trod_int underlying3 h6;simp at q6;subst q6;obtain ⟨S,c,zs,rfl,hI,h1,h2,h3,h4⟩:=qbG underlying23 h7 hb;refine ⟨⟨x0,x1,x2,x3,x4,x5,x6,zs⟩,S,c,rfl,rfl,rfl,rfl,rfl,rfl,rfl,rfl,hI,h1,h2,h3,λz hz=>?_,h4⟩;simp at hz;rcases hz with rfl|rfl|rfl|rfl|rfl|rfl|rfl
 ·exact qcw w0
 ·exact qcw w1
 ·exact qcw w2
 ·exact qcw w3
 ·exact qcw w4
 ·exact qcw w5
 ·exact qcw w6
structure cB where
 v:aP
 S:Option Addr
 c:Nat
 I:Option Addr
 d:Nat
 Q:Option Addr
 q:Nat
instance:Inhabited cB:=⟨⟨Nt.none_,none,0,none,0,none,0⟩⟩
def cB.cells (x:cB):List Value:=[nQ iQ x.v.op.kind,nQ iQ x.v.op.k,nQ iQ x.v.op.width,nQ iQ x.v.op.step,nQ iQ x.v.op.side,nQ iQ x.v.op.frm,nQ iQ x.v.op.to,.slice x.S x.v.op.s.length x.c,.slice x.I x.v.ins.length x.d,.slice x.Q x.v.p.length x.q]
def cB.R (x:cB) (W:Zp1):Prop:=(Ints iQ W x.S x.v.op.s/\x.v.op.s.length<=x.c/\x.c<=9223372036854775807)/\(Ints iQ W x.I x.v.ins/\x.v.ins.length<=x.d/\x.d<=9223372036854775807)/\(bI W x.Q x.v.p/\x.v.p.length<=x.q/\x.q<=9223372036854775807)
set_option maxRecDepth 100000 in
theorem qhO {H:Type} {enc:TypeId × Value->H} {W:Zp1} {base:Nat} {spare:Nat->Bool} {held:Bool} {fuel:Nat} {cs:List Value} {x:DataW H × List MemPlace} (hcs:cs.length=10)
  (h:DataW.trod enc prog W base spare held fuel 77 cs=some x) (hz:Rows.uptoBulk x.1<=1048576):
  ∃q:cB,cs=q.cells/\q.R W/\q.v.fits:=by
 obtain ⟨v0,v1,v2,v3,v4,v5,v6,v7,v8,v9,rfl⟩:=list10 hcs;obtain ⟨ys,n,_,hx,_,ha,hg⟩:=DataW.trod_struct qgv h;rw [qgw] at ha;obtain ⟨y0,y1,y2,rfl⟩:=list3 ha;rw [hx] at hz;obtain ⟨f0,e0,t0⟩:=Option.map_eq_some_iff.1 node_f0;simp only [Prod.mk.injEq] at t0;have h0:=hg 0 f0 e0;rw [t0.2.2,t0.2.1,t0.1] at h0;simp at h0;obtain ⟨f1,e1,t1⟩:=Option.map_eq_some_iff.1 node_f1;simp only [Prod.mk.injEq] at t1;have h1:=hg 1 f1 e1;rw [t1.2.2,t1.2.1,t1.1] at h1;simp at h1;obtain ⟨f2,e2,t2⟩:=Option.map_eq_some_iff.1 node_f2;simp only [Prod.mk.injEq] at t2;have h2:=hg 2 f2 e2;rw [t2.2.2,t2.2.1,t2.1] at h2;simp at h2;have hd:Rows.uptoBulk y0.1<=1048576:=by simp [Rows.uptoBulk,Rows.uptoBulkAll] at hz;omega
 have hc:Rows.uptoBulk y1.1<=1048576:=by simp [Rows.uptoBulk,Rows.uptoBulkAll] at hz;omega
 have hb:Rows.uptoBulk y2.1<=1048576:=by simp [Rows.uptoBulk,Rows.uptoBulkAll] at hz;omega
 obtain ⟨o,S,c,rfl,rfl,rfl,rfl,rfl,rfl,rfl,rfl,a1,a2,a3,a4,a5,a6⟩:=op_open h0 hd;obtain ⟨I,d,is,rfl,b1,b2,b3,b4,b5⟩:=qbG underlying22 h1 hc;obtain ⟨Q,q,ps,rfl,c1,c2,c3,c4,c5⟩:=qhN h2 hb;exact ⟨⟨⟨o,is,ps⟩,S,c,I,d,Q,q⟩,rfl,⟨⟨a1,a2,a3⟩,⟨b1,b2,b3⟩,c1,c2,c3⟩,a5,a4,b4,c4,λs hs=>(c5 s hs).1,a6,b5,λs hs=>(c5 s hs).2⟩
theorem qgx {H:Type} {enc:TypeId × Value->H} {W:Zp1} {base:Nat} {spare:Nat->Bool} {held:Bool} {fuel:Nat} {v:Value} {x:DataW H × List MemPlace}
  (h:DataW.trod enc prog W base spare held fuel 24 [v]=some x) (hz:Rows.uptoBulk x.1<=1048576):
  ∃A c ns,v=sQ A ns.length c/\jN W A ns/\ns.length<=c/\c<=9223372036854775807/\ns.length<=1048576/\∀v∈ns,v.fits:=by
 rcases qbd underlying24 h hz with rfl|⟨a,len,cap,rfl,hl,hm,hb,hi⟩
 ·exact ⟨none,0,[],rfl,λj hj=>absurd hj sZ,by simp,by omega,by simp,by simp⟩
 ·rw [qgu] at hi
  have key:∀i,i<len->∃q:cB,(∀j,j<10->W.cell? ((a.add (i*10)).add j)=q.cells[j]?)/\q.R W/\q.v.fits:=λi hg=>by
   obtain ⟨cs',m,y,hc,ht,hw⟩:=hi i hg;obtain ⟨_,ha,hf⟩:=World.cells?_some hc;obtain ⟨q,rfl,h1,h2⟩:=qhO ha ht hw;exact ⟨q,hf,h1,h2⟩
  obtain ⟨L,hL,hq⟩:=qd0 key;refine ⟨some a,cap,L.map (·.v),by simp [hL],λj hj=>?_,by simpa [hL] using hl,by unfold maxLen at hm;omega,by simp [hL];exact hb,λs hs=>?_⟩
  ·rw [List.length_map] at hj
   obtain ⟨h1,⟨r1,r2,r3⟩,_⟩:=hq j hj;obtain ⟨h0,_⟩:=hq 0 oZ;have hd:=h0 0 oZ;obtain ⟨b,off,rfl⟩:=qfP (v:=nQ iQ L[0].v.op.kind) (show W.cell? a=_ by simpa [Addr.add,cB.cells] using hd);simp only [qbU] at h1;rw [List.getElem_map];refine ⟨b,off,_,_,_,_,_,_,rfl,Zj1 _ _ (h1 0 oZ),h1 0 oZ,h1 1 oZ,h1 2 oZ,h1 3 oZ,h1 4 oZ,h1 5 oZ,h1 6 oZ,h1 7 oZ,h1 8 oZ,h1 9 oZ,r1,r2,r3⟩
  ·obtain ⟨q,he,rfl⟩:=List.mem_map.1 hs
   obtain ⟨i,hi,rfl⟩:=List.getElem_of_mem he;exact (hq i hi).2.2
theorem qhP:prog.cellsOf 26=2:=by kernel_rfl
theorem qeB:prog.underlying 26=some (.struct (prog.fieldsOf 26)):=by kernel_rfl
theorem net_two:(prog.fieldsOf 26).size=2:=by kernel_rfl
theorem net_f0:((prog.fieldsOf 26)[0]?).map (λf=>(f.type,f.offset,prog.cellsOf f.type))=some (23,0,1):=by kernel_rfl
theorem net_f1:((prog.fieldsOf 26)[1]?).map (λf=>(f.type,f.offset,prog.cellsOf f.type))=some (24,1,1):=by kernel_rfl
theorem list2 {α:Type} {l:List α} (h:l.length=2):∃a b,l=[a,b]:=by
 match l,h with
 | [a,b],_=>exact ⟨a,b,rfl⟩
set_option maxRecDepth 100000 in
theorem qdI {H:Type} {enc:TypeId × Value->H} {W:Zp1} {r:Reach} {b0 base:Nat} {spare:Nat->Bool} {held:Bool} {v:Value} {d:DataW H} {p:List MemPlace}
  (hv:Value.okWide prog W r b0 26 v) (h:DataW.Trod enc prog W base spare held 26 v d p) (hz:Rows.uptoBulk d<=1048576):
  ∃A N c1 c2 n,v=.agg #[sQ A n.inn.length c1,sQ N n.o.length c2]/\n.inn.length<=c1/\c1<=9223372036854775807/\n.o.length<=c2/\c2<=9223372036854775807/\bH W A N n/\n.fits:=by
 obtain ⟨cs,rfl,hb⟩:=okWide_struct qeB hv;obtain ⟨l⟩:=cs
 match l,hb.trans qhP with
 | [v0,v1],_=>
  obtain ⟨fuel,hf⟩:=h;obtain ⟨ys,n,_,hx,_,ha,hg⟩:=DataW.trod_struct qeB hf;rw [net_two] at ha;obtain ⟨y0,y1,rfl⟩:=list2 ha;simp only [Prod.mk.injEq,List.map_cons,List.map_nil] at hx;obtain ⟨rfl,_⟩:=hx;obtain ⟨f0,e0,t0⟩:=Option.map_eq_some_iff.1 net_f0;simp only [Prod.mk.injEq] at t0;have h0:=hg 0 f0 e0;rw [t0.2.2,t0.2.1,t0.1] at h0;simp [Value.cells] at h0;obtain ⟨f1,e1,t1⟩:=Option.map_eq_some_iff.1 net_f1;simp only [Prod.mk.injEq] at t1;have h1:=hg 1 f1 e1;rw [t1.2.2,t1.2.1,t1.1] at h1;simp [Value.cells] at h1;have hd:Rows.uptoBulk y0.1<=1048576:=by simp [Rows.uptoBulk,Rows.uptoBulkAll] at hz;omega
  have hc:Rows.uptoBulk y1.1<=1048576:=by simp [Rows.uptoBulk,Rows.uptoBulkAll] at hz;omega
  obtain ⟨A,c1,zs,rfl,a1,a2,a3,a4,a5⟩:=qbG underlying23 h0 hd;obtain ⟨N,c2,ns,rfl,b1,b2,b3,b4,b5⟩:=qgx h1 hc;exact ⟨A,N,c1,c2,⟨zs,ns⟩,rfl,a2,a3,b2,b3,⟨a1,b1⟩,a4,b4,a5,b5⟩
theorem aA.fits.ok {n:aA} (h:n.fits):n.ok:=
 ⟨h.1,h.2.1,λv hv=>by
  obtain ⟨h1,h2,h3,h4,h5,h6,h7,h8⟩:=h.2.2.2 v hv;exact ⟨h1,h2,h3,h4,h5,h7⟩⟩
theorem qeC {w:Zp1} {B B' e s n:Nat} {v:Value} {xs:List Value} (h:w.ownsRow B e s v n xs) (hB:B'<=B):w.ownsRow B' e s v n xs:=by
 refine ⟨h.1,?_⟩;rcases h.2 with h|⟨g,cap,cur,h1,h2,h3⟩
 ·exact .inl h
 ·exact .inr ⟨g,cap,cur,h1,Zv hB h2,h3⟩
abbrev RQ:=cB × List Value
def RQ.cells (x:RQ):List Value:=x.1.cells
def RQ.Phi (B:Nat) (x:RQ) (W:Zp1):Prop:=W.ownsRow B 22 1 (.slice x.1.Q x.1.v.p.length x.1.q) x.1.v.p.length x.2
def RQ.Good (w:Zp1) (x:RQ):Prop:=(Ints iQ w x.1.S x.1.v.op.s/\x.1.v.op.s.length<=x.1.c/\x.1.c<=9223372036854775807)/\(Ints iQ w x.1.I x.1.v.ins/\x.1.v.ins.length<=x.1.d/\x.1.d<=9223372036854775807)/\fM w x.2 x.1.v.p
def dY (t:TypeId) (B C:Nat) (w W:Zp1) (v:Value) (ns:List aP):Prop:=
 ∃L:List RQ,L.map (λx=>x.1.v)=ns/\dK B C W t 10 v RQ.cells (RQ.Phi B) L/\∀x∈L,RQ.Good w x
theorem RQ.len (x:RQ):(RQ.cells x).length=10:=rfl
theorem dY.nil (t:TypeId) (B:Nat) (w W:Zp1):dY t B W.heap.size w W (sQ none 0 0) []:=⟨[],rfl,dK.nil _ _ _ _ _ _,by simp⟩
theorem dY.form {t:TypeId} {B C:Nat} {w W:Zp1} {v:Value} {ns:List aP} (h:dY t B C w W v ns):∃A c,v=sQ A ns.length c/\ns.length<=c/\(∀b,v.ownBlock=some b->B<=b/\b<C):=by
 obtain ⟨L,hL,hO,_⟩:=h;obtain ⟨A,c,e,hc⟩:=hO.form;have hl:L.length=ns.length:=by rw [←hL];simp
 rw [hl] at e hc;exact ⟨A,c,e,hc,λb hb=>⟨(hO.1.lt b hb).1,hO.2.1 b hb⟩⟩
theorem dY.fr {t:TypeId} {B C:Nat} {w W W':Zp1} {v:Value} {ns:List aP} {S:Nat->Prop} (h:dY t B C w W v ns) (hf:Fr S W W') (hS:∀b,B<=b->b<C->¬S b):dY t B C w W' v ns:=by
 obtain ⟨L,hL,hO,hG⟩:=h;exact ⟨L,hL,hO.fr hf hS,hG⟩
theorem dY.o {t:TypeId} {B C:Nat} {w W:Zp1} {v:Value} {ns:List aP} (h:dY t B C w W v ns) (hb:Below w.heap.size w W):
  ∃A c,v=sQ A ns.length c/\ns.length<=c/\c<=9223372036854775807/\jN W A ns:=by
 obtain ⟨L,rfl,hO,hG⟩:=h;rw [List.length_map];rcases hO.1.2 with ⟨rfl,h0⟩|⟨g,cap,cur,rfl,_,hh,he,ha,_⟩
 ·have:L=[]:=List.eq_nil_of_length_eq_zero h0
  subst this;exact ⟨none,0,rfl,by simp,by omega,λj hj=>absurd hj sZ⟩
 ·refine ⟨_,cap,rfl,he,by unfold maxLen at ha;omega,λj hj=>?_⟩
  rw [List.length_map] at hj;obtain ⟨b,cap',e,_,_,_,hc⟩:=hO.at_ (λx=>RQ.len x) hj;injection e with e _ _
  injection e with e
  injection e with e
  subst e;obtain ⟨⟨s1,s2,s3⟩,⟨i1,i2,i3⟩,hd⟩:=hG L[j] (gmZ hj);have hf:=hO.now L[j] (gmZ hj);obtain ⟨AQ,cQ,eQ,_,hQ,q1,q2⟩:=hd.nJ hf hb;injection eQ with e1 _ e2
  rw [List.getElem_map];refine ⟨g,0,L[j].1.S,L[j].1.c,L[j].1.I,L[j].1.d,L[j].1.Q,L[j].1.q,rfl,lt_of_block hh,?_,?_,?_,?_,?_,?_,?_,?_,?_,?_,⟨s1.below hb (lrZ _),s2,s3⟩,⟨i1.below hb (lrZ _),i2,i3⟩,by rw [e1];exact hQ,by rw [e2];exact q1,by rw [e2];exact q2⟩
  ·have:=hc 0 oZ;first|(simp [RQ.cells,cB.cells];done)|simpa [RQ.cells,cB.cells] using this
  ·have:=hc 1 oZ;first|(simp [RQ.cells,cB.cells];done)|simpa [RQ.cells,cB.cells] using this
  ·have:=hc 2 oZ;first|(simp [RQ.cells,cB.cells];done)|simpa [RQ.cells,cB.cells] using this
  ·have:=hc 3 oZ;first|(simp [RQ.cells,cB.cells];done)|simpa [RQ.cells,cB.cells] using this
  ·have:=hc 4 oZ;first|(simp [RQ.cells,cB.cells];done)|simpa [RQ.cells,cB.cells] using this
  ·have:=hc 5 oZ;first|(simp [RQ.cells,cB.cells];done)|simpa [RQ.cells,cB.cells] using this
  ·have:=hc 6 oZ;first|(simp [RQ.cells,cB.cells];done)|simpa [RQ.cells,cB.cells] using this
  ·have:=hc 7 oZ;first|(simp [RQ.cells,cB.cells];done)|simpa [RQ.cells,cB.cells] using this
  ·have:=hc 8 oZ;first|(simp [RQ.cells,cB.cells];done)|simpa [RQ.cells,cB.cells] using this
  ·have:=hc 9 oZ;first|(simp [RQ.cells,cB.cells];done)|simpa [RQ.cells,cB.cells] using this
theorem qfj {t:TypeId} {B C:Nat} {w W W':Zp1} {v v':Value} {L:List RQ} {x:cB} {vs:List Value} {C2:Nat} (hO:dK B C W t 10 v RQ.cells (RQ.Phi B) L) (hGL:∀x∈L,RQ.Good w x) (hC:C<=C2) (hB:B<=C2)
  (hown:W'.ownsRow B t 10 v' (L.length+1) (L.flatMap RQ.cells++x.cells)) (hg:W.grownBy W' v.ownBlock) (hat:v'.ownBlock=v.ownBlock∨v'.ownBlock=some W.heap.size)
  (hx:W.ownsRow C2 22 1 (.slice x.Q x.v.p.length x.q) x.v.p.length vs) (hG:RQ.Good w (x,vs)):dY t B W'.heap.size w W' v' (L.map (λx=>x.1.v)++[x.v]):=by
 refine ⟨L++[(x,vs)],by simp,?_,λy hy=>?_⟩
 ·refine hO.push (x:=((x,vs):RQ)) hown hg hat (F:=λb=>(Zb1 x.Q x.v.p.length x.q).ownBlock=some b) (λW2 h2=>?_) (λb hb=>?_)
  ·exact qa5 (qeC hx hB) h2
  ·obtain ⟨h1,h2⟩:=hx.lt b hb
   exact ⟨by omega,h2,λe=>by have:=hO.2.1 b e.symm;omega⟩
 ·rcases List.mem_append.1 hy with hy|hy
  ·exact hGL y hy
  ·simp at hy;subst hy;exact hG
def qhQ (n:aA) (A:Option Addr) (c:Nat) (w:Zp1) (e:Ending) (w':Zp1):Prop:=
 ∃N' d',e=.returned (.agg #[sQ A n.inn.length c,sQ N' n.o.length d'])/\bH w' A N' n/\n.o.length<=d'/\d'<=9223372036854775807/\Below w.heap.size w w'
def RInv (tN tR tE:TypeId) (n:aA) (A N:Option Addr) (c d:Nat) (w0 w:Zp1) (k:Nat) (wx:Zp1):Prop:=
 Blk wx w.heap.size tN #[sQ A n.inn.length c,sQ N n.o.length d]/\Blk wx (w.heap.size+1) tR #[sQ none 0 0,sQ none 0 0]/\Below w.heap.size w wx/\
  ∃v,Blk wx (w.heap.size+2) tR #[sQ A n.inn.length c,v]/\dY tE (w.heap.size+3) wx.heap.size w0 wx v (n.o.take k)
def qE (t:TypeId) (n:aA) (A:Option Addr) (c:Nat) (w0 w:Zp1) (e:Ending) (w':Zp1):Prop:=
 ∃N' d' C,e=.returned (.agg #[sQ A n.inn.length c,sQ N' n.o.length d'])/\n.o.length<=d'/\d'<=9223372036854775807/\Below w.heap.size w w'/\dY t (w.heap.size+3) C w0 w' (sQ N' n.o.length d') n.o
theorem dY.net {t:TypeId} {B C:Nat} {w W:Zp1} {A N N':Option Addr} {d':Nat} {n:aA} (h:dY t B C w W (sQ N' n.o.length d') n.o) (hb:Later w W) (hR:bH w A N n):bH W A N' n:=by
 obtain ⟨N2,d2,e2,-,-,ha⟩:=h.o hb;injection e2 with e3 _ _
 subst e3;exact ⟨hR.1.below hb (lrZ _),ha⟩
theorem qE.netp {t:TypeId} {n:aA} {A N:Option Addr} {c:Nat} {w w':Zp1} {e:Ending} (h:qE t n A c w w e w') (hR:bH w A N n):qhQ n A c w e w':=by
 obtain ⟨N',d',C,rfl,h1,h2,hb,hr⟩:=h;exact ⟨N',d',rfl,hr.net hb hR,h1,h2,hb⟩
theorem qeD:(prog.info? 85).map (λi=>(i.zero,i.size,i.bytes))=some (some (.agg #[nQ iQ 0,nQ iQ 0,nQ iQ 0,nQ iQ 0,nQ iQ 0,nQ iQ 0,nQ iQ 0,sQ none 0 0,sQ none 0 0,sQ none 0 0]),10,128):=by kernel_rfl
theorem ref_22s (A N:Option Addr) (c d:Nat) (n:aA) (w0 w:Zp1) (hok:n.ok) (hl0:Later w0 w) (hR:bH w0 A N n):
  Calls prog 12 #[.agg #[sQ A n.inn.length c,sQ N n.o.length d]] w (qE 85 n A c w0 w):=by
 obtain ⟨i1,hj,HS,gg,gc⟩:=info_parts qbP;obtain ⟨i2,hn,ge,HX,gf⟩:=info_parts qeD;have gu:=hok.2.1;have hl:=qgK w (.cells #[sQ A n.inn.length c,sQ N n.o.length d] 26) (.cells #[sQ none 0 0,sQ none 0 0] 37) (.cells #[sQ A n.inn.length c,sQ none 0 0] 37);have Hp:=((Blk.new w 26 #[sQ A n.inn.length c,sQ N n.o.length d]).alloc (.cells #[sQ none 0 0,sQ none 0 0] 37)).alloc (.cells #[sQ A n.inn.length c,sQ none 0 0] 37);have He:=(Blk.new (w.alloc (.cells #[sQ A n.inn.length c,sQ N n.o.length d] 26)) 37 #[sQ none 0 0,sQ none 0 0]).alloc (.cells #[sQ A n.inn.length c,sQ none 0 0] 37);have Hf:=Blk.new ((w.alloc (.cells #[sQ A n.inn.length c,sQ N n.o.length d] 26)).alloc (.cells #[sQ none 0 0,sQ none 0 0] 37)) 37 #[sQ A n.inn.length c,sQ none 0 0];rw [Zh1] at He;rw [Zh1,Zh1] at Hf;obtain ⟨gm,HR,Ho,Hv,Hw⟩:=zd5 hok hR Hp He Hf;clear hok hR Hp He Hf;go_in;go_wp2_with fail;generalize ((w.alloc (.cells #[sQ A n.inn.length c,sQ N n.o.length d] 26)).alloc (.cells #[sQ none 0 0,sQ none 0 0] 37)).alloc (.cells #[sQ A n.inn.length c,sQ none 0 0] 37)=w1 at *;have Hq:=zI (show RInv 26 37 85 n A N c d w0 w 0 w1 from ⟨Ho.out,Hv.out,hl,_,Hw.out,by rw [List.take_zero];exact dY.nil _ _ _ _⟩);clear Ho Hv Hw hl
 go_loopw [15] (λi wx=>∃k:Nat,k<=n.o.length/\i=nQ iQ (k:Int)/\RInv 26 37 85 n A N c d w0 w k wx) (λi _=>n.o.length-(intOf i).toNat)
 case atStart=>exact ⟨0,Zt _,rfl,Hq.out⟩
 case round=>
  obtain ⟨k,hk,rfl,h5,hx,hF,v0,hq,hd⟩:=hrel;clear Hq;have gr:=hq.lt
  by_cases Hm:k<n.o.length
  ·obtain ⟨b,off,S,sc,J,ic,Q,qc,rfl,hH,HG,gh,gt⟩:=HR.out.2.at_ Hm
   have hC:=gm.out.2.2 _ (gmZ Hm);have HC:=Zb Hm;have gq:=hC.2.2.2.1;have HD:=hH.2.1;have Hx:=hH.2.2.1;have Hr:=hH.2.2.2;generalize n.o[k]=v at *;obtain ⟨⟨y0,y1,y2,y3,y4,y5,y6,y7,y8,y9⟩,-⟩:=hH.below (hl0.call hF);have hw:=(Blk.new wr 77 #[nQ iQ v.op.kind,nQ iQ v.op.k,nQ iQ v.op.width,nQ iQ v.op.step,nQ iQ v.op.side,nQ iQ v.op.frm,nQ iQ v.op.to,sQ S v.op.s.length sc,sQ J v.ins.length ic,sQ Q v.p.length qc]).alloc (.cells #[nQ iQ v.op.kind,nQ iQ v.op.k,nQ iQ v.op.width,nQ iQ v.op.step,nQ iQ v.op.side,nQ iQ v.op.frm,nQ iQ v.op.to,sQ S v.op.s.length sc,sQ J v.ins.length ic,sQ none 0 0] 85);have hc:=Blk.new (wr.alloc (.cells #[nQ iQ v.op.kind,nQ iQ v.op.k,nQ iQ v.op.width,nQ iQ v.op.step,nQ iQ v.op.side,nQ iQ v.op.frm,nQ iQ v.op.to,sQ S v.op.s.length sc,sQ J v.ins.length ic,sQ Q v.p.length qc] 77)) 85 #[nQ iQ v.op.kind,nQ iQ v.op.k,nQ iQ v.op.width,nQ iQ v.op.step,nQ iQ v.op.side,nQ iQ v.op.frm,nQ iQ v.op.to,sQ S v.op.s.length sc,sQ J v.ins.length ic,sQ none 0 0];rw [Zh1] at hc;have HQ:Below wr.heap.size wr ((wr.alloc (.cells #[nQ iQ v.op.kind,nQ iQ v.op.k,nQ iQ v.op.width,nQ iQ v.op.step,nQ iQ v.op.side,nQ iQ v.op.frm,nQ iQ v.op.to,sQ S v.op.s.length sc,sQ J v.ins.length ic,sQ Q v.p.length qc] 77)).alloc (.cells #[nQ iQ v.op.kind,nQ iQ v.op.k,nQ iQ v.op.width,nQ iQ v.op.step,nQ iQ v.op.side,nQ iQ v.op.frm,nQ iQ v.op.to,sQ S v.op.s.length sc,sQ J v.ins.length ic,sQ none 0 0] 85)):=qdX wr _ _;obtain ⟨h7,h9,Hg,hA,gp,HW,gd,gj,H5⟩:=zd9 h5 hx hq hd hH hC HC HD Hx;obtain ⟨HU,h6,hP⟩:=zd3 Hr hw hc;clear h5 hx hq hd hH hC HC HD Hx Hr hw hc;go_wp2_with fail;clear y0 y1 y2 y3 y4 y5 y6 y7 y8 y9;generalize ((wr.alloc (.cells #[nQ iQ v.op.kind,nQ iQ v.op.k,nQ iQ v.op.width,nQ iQ v.op.step,nQ iQ v.op.side,nQ iQ v.op.frm,nQ iQ v.op.to,sQ S v.op.s.length sc,sQ J v.ins.length ic,sQ Q v.p.length qc] 77)).alloc (.cells #[nQ iQ v.op.kind,nQ iQ v.op.k,nQ iQ v.op.width,nQ iQ v.op.step,nQ iQ v.op.side,nQ iQ v.op.frm,nQ iQ v.op.to,sQ S v.op.s.length sc,sQ J v.ins.length ic,sQ none 0 0] 85))=w2 at *
   obtain ⟨wo,rfl⟩:∃wo,wo=wr:=⟨wr,rfl⟩
   go_loopw [50] (λi wx=>∃(m:Nat) (vs:List Value) (u:Value),m<=v.p.length/\i=nQ iQ (m:Int)/\Blk wx wo.heap.size 77 #[nQ iQ v.op.kind,nQ iQ v.op.k,nQ iQ v.op.width,nQ iQ v.op.step,nQ iQ v.op.side,nQ iQ v.op.frm,nQ iQ v.op.to,sQ S v.op.s.length sc,sQ J v.ins.length ic,sQ Q v.p.length qc]/\Blk wx (wo.heap.size+1) 85 #[nQ iQ v.op.kind,nQ iQ v.op.k,nQ iQ v.op.width,nQ iQ v.op.step,nQ iQ v.op.side,nQ iQ v.op.frm,nQ iQ v.op.to,sQ S v.op.s.length sc,sQ J v.ins.length ic,u]/\wx.ownsRow (wo.heap.size+2) 22 1 u m vs/\fM w0 vs (v.p.take m)/\Below wo.heap.size wo wx/\wo.heap.size+2<=wx.heap.size) (λi _=>v.p.length-(intOf i).toNat)
   case atStart=>exact ⟨0,[],_,Zt _,rfl,h6.out,hP.out,World.ownsRow_nil _ _ _ _,fM.nil _,HQ,by have:=hP.out.lt;omega⟩
   case round=>
    obtain ⟨m,vs,u,hm,rfl,hw,hc,hown,hI,hl,gn⟩:=hrel;clear h6 hP;obtain ⟨A9,c9,rfl⟩:=qa8 hown
    by_cases HA:m<v.p.length
    ·have hh:=hF.trans (hl.mono hF.size)
     obtain ⟨b5,o5,Ss,cs,rfl,-,Ht,Hd,HN,HH⟩:=HU.out m HA;have H0:=qa0 (hl0.call hh) Ht;have ha:=hI.push Hd HN HH;rw [←Zb HA] at ha;have y9:wr.cell? ⟨wo.heap.size+1,9,none⟩=some (sQ A9 m c9):=by rw [hc.cell];rfl
     have f9:=hc.frozen 9;generalize v.p[m]=t at *;have ho:=qad hown (.cells #[sQ Ss t.length cs] 22);have hB:=hl.alloc hl.size (.cells #[sQ Ss t.length cs] 22);have hQ:=hw.alloc (.cells #[sQ Ss t.length cs] 22);have h4:=hc.alloc (.cells #[sQ Ss t.length cs] 22);have hG:∀b,(Zb1 A9 m c9).ownBlock=some b->wo.heap.size+2<=b:=λb hb=>(hown.lt b hb).1
     obtain ⟨h6,hP,Hu,hW,Hj,Hk,hy,go⟩:=zd8 hw hc hI ha hQ h4 hG Hd;clear hw hc hI ha hQ h4 hG Hd;clear hown Ht;go_wp2_with (at_builtin;refine wpList_append_own_at _ rfl _ _ 32 rfl (wo.heap.size+2) 22 i1 (sQ none 0 0) 1 24 underlying32 hj HS gg gc rfl dZ _ _ _ rfl ho ⟨wr.heap.size,0,none⟩ 1 1 [sQ Ss t.length cs] rfl rfl ?c1 (by intro u hu;simp at hu;subst hu;rfl) (by unfold maxLen;omega) oZ ?c2 ?_)
     first|(case c1=>exact qaF wr _ _)|skip
     case c2=>first|(simp;omega)|omega
     intro v' w3 he hgrow _ gi;obtain ⟨A8,c8,rfl⟩:=qa8 he;have hq:Below wo.heap.size wo w3:=hB.grown hgrow hB.size (λb hb=>by have:=hy.out b hb;omega);have H6:=hgrow.size;simp at H6;have h0:=Hj.out.grown hgrow (λe=>by have:=hy.out _ e.symm;omega);have hr:=Hk.out.grown hgrow (λe=>by have:=hy.out _ e.symm;omega);have y9':w3.cell? ⟨wo.heap.size+1,9,none⟩=some (sQ A9 m c9):=by rw [hr.cell];rfl
     have f9':=hr.frozen 9;have HK:=zI (h0.far (p:=⟨wo.heap.size+1,9,none⟩) sZ (sQ A8 (m+1) c8));have hN:=hr.aU 9 (sQ A8 (m+1) c8);have HY:=zI (show Blk (w3.setCell ⟨wo.heap.size+1,9,none⟩ (sQ A8 (m+1) c8)) (wo.heap.size+1) 85 #[nQ iQ v.op.kind,nQ iQ v.op.k,nQ iQ v.op.width,nQ iQ v.op.step,nQ iQ v.op.side,nQ iQ v.op.frm,nQ iQ v.op.to,sQ S v.op.s.length sc,sQ J v.ins.length ic,sQ A8 (m+1) c8] from hN);have HZ:=hq.setCell (p:=⟨wo.heap.size+1,9,none⟩) sZ (sQ A8 (m+1) c8);have HJ:=zI (qa5 (w':=w3.setCell ⟨wo.heap.size+1,9,none⟩ (sQ A8 (m+1) c8)) he (λg hg=>Below.heap_setCell w3 _ _ g (by have:=(he.lt g hg).1;simp;omega)));clear he hgrow gi ho hB h0 hr hN y9 f9;go_wp2_with fail;go_roundw
     case rel=>exact ⟨m+1,_,_,by omega,by go_num,HK.out,HY.out,HJ.out,hW.out,HZ,by simp;omega⟩
     case measure=>simp [intOf];omega
    ·obtain rfl:m=v.p.length:=by omega
     rw [Zg] at hI;have hh:=hF.trans (hl.mono hF.size);obtain ⟨y0,y1,y2,y3,y4,y5,y6,y7,y8,y9⟩:wr.cell? ⟨wo.heap.size+1,0,none⟩=some (nQ iQ v.op.kind)/\wr.cell? ⟨wo.heap.size+1,1,none⟩=some (nQ iQ v.op.k)/\wr.cell? ⟨wo.heap.size+1,2,none⟩=some (nQ iQ v.op.width)/\wr.cell? ⟨wo.heap.size+1,3,none⟩=some (nQ iQ v.op.step)/\wr.cell? ⟨wo.heap.size+1,4,none⟩=some (nQ iQ v.op.side)/\wr.cell? ⟨wo.heap.size+1,5,none⟩=some (nQ iQ v.op.frm)/\wr.cell? ⟨wo.heap.size+1,6,none⟩=some (nQ iQ v.op.to)/\wr.cell? ⟨wo.heap.size+1,7,none⟩=some (sQ S v.op.s.length sc)/\wr.cell? ⟨wo.heap.size+1,8,none⟩=some (sQ J v.ins.length ic)/\wr.cell? ⟨wo.heap.size+1,9,none⟩=some (sQ A9 v.p.length c9):=⟨hc.cell 0,hc.cell 1,hc.cell 2,hc.cell 3,hc.cell 4,hc.cell 5,hc.cell 6,hc.cell 7,hc.cell 8,hc.cell 9⟩
     obtain ⟨L,hL,hY,Hy⟩:=hA.out;obtain ⟨A0,c0,rfl,HE⟩:=hY.form;have hi:L.length=k:=by have:=congrArg List.length hL;simp at this;omega
     have hs:=Hg.out.below hl oZ;have hE:=h7.out.below hl (by have:=h7.out.lt;omega);have hD:=h9.out.below hl (by have:=h9.out.lt;omega);rw [hi] at HE;have hK:Fr (λb=>wo.heap.size<=b) wo wr:=Fr.of_below hl (λb hb hS=>by omega);have Hi:=(hY.fr hK (λb h1 h2 h3=>by omega)).fr ((Fr.refl (λ_=>False) wr).alloc (.cells #[nQ iQ v.op.kind,nQ iQ v.op.k,nQ iQ v.op.width,nQ iQ v.op.step,nQ iQ v.op.side,nQ iQ v.op.frm,nQ iQ v.op.to,sQ S v.op.s.length sc,sQ J v.ins.length ic,sQ A9 v.p.length c9] 85)) (λb h1 h2 h3=>h3);have hv:=qad hown (.cells #[nQ iQ v.op.kind,nQ iQ v.op.k,nQ iQ v.op.width,nQ iQ v.op.step,nQ iQ v.op.side,nQ iQ v.op.frm,nQ iQ v.op.to,sQ S v.op.s.length sc,sQ J v.ins.length ic,sQ A9 v.p.length c9] 85);have hT:=hs.alloc (.cells #[nQ iQ v.op.kind,nQ iQ v.op.k,nQ iQ v.op.width,nQ iQ v.op.step,nQ iQ v.op.side,nQ iQ v.op.frm,nQ iQ v.op.to,sQ S v.op.s.length sc,sQ J v.ins.length ic,sQ A9 v.p.length c9] 85);have hV:=hE.alloc (.cells #[nQ iQ v.op.kind,nQ iQ v.op.k,nQ iQ v.op.width,nQ iQ v.op.step,nQ iQ v.op.side,nQ iQ v.op.frm,nQ iQ v.op.to,sQ S v.op.s.length sc,sQ J v.ins.length ic,sQ A9 v.p.length c9] 85);have hX:=hD.alloc (.cells #[nQ iQ v.op.kind,nQ iQ v.op.k,nQ iQ v.op.width,nQ iQ v.op.step,nQ iQ v.op.side,nQ iQ v.op.frm,nQ iQ v.op.to,sQ S v.op.s.length sc,sQ J v.ins.length ic,sQ A9 v.p.length c9] 85);have hz:=hh.alloc hh.size (.cells #[nQ iQ v.op.kind,nQ iQ v.op.k,nQ iQ v.op.width,nQ iQ v.op.step,nQ iQ v.op.side,nQ iQ v.op.frm,nQ iQ v.op.to,sQ S v.op.s.length sc,sQ J v.ins.length ic,sQ A9 v.p.length c9] 85);have HB:=Blk.new wr 85 #[nQ iQ v.op.kind,nQ iQ v.op.k,nQ iQ v.op.width,nQ iQ v.op.step,nQ iQ v.op.side,nQ iQ v.op.frm,nQ iQ v.op.to,sQ S v.op.s.length sc,sQ J v.ins.length ic,sQ A9 v.p.length c9]
     have hG:∀b,(Zb1 A0 L.length c0).ownBlock=some b->w.heap.size+3<=b:=λb hb=>(hY.1.lt b hb).1
     rw [hi] at hG;have z1:wr.cell? ⟨w.heap.size+2,1,none⟩=some (sQ A0 k c0):=by rw [hs.cell,hi];rfl
     have Hc:=Hi.1;rw [hi] at Hc;obtain ⟨h6,hP,HV,Hu,H8,gb,HM,H7,hM⟩:=zd9 hw hc hown hI hs hE hD Hi hv;obtain ⟨Ha,Hb,Hn,H9,hy,HL,gl,gv,HT⟩:=zd9 hT hV hX HB hG hL Hy hY hi;have HO:=zI Hc;clear hw hc hown hI hs hE hD Hi hv hT hV hX HB hG hL Hy hY hi Hc;clear hA h7 h9 Hg hK;go_wp2_with (at_builtin;refine wpList_append_own_at _ rfl _ _ 35 rfl (w.heap.size+3) 85 i2 (.agg #[nQ iQ 0,nQ iQ 0,nQ iQ 0,nQ iQ 0,nQ iQ 0,nQ iQ 0,nQ iQ 0,sQ none 0 0,sQ none 0 0,sQ none 0 0]) 10 128 underlying35 hn ge HX gf rfl dZ _ k (L.flatMap RQ.cells) rfl HO.out ⟨wr.heap.size,0,none⟩ 1 1 [nQ iQ v.op.kind,nQ iQ v.op.k,nQ iQ v.op.width,nQ iQ v.op.step,nQ iQ v.op.side,nQ iQ v.op.frm,nQ iQ v.op.to,sQ S v.op.s.length sc,sQ J v.ins.length ic,sQ A9 v.p.length c9] rfl rfl ?c1 ?c2 ?c3 ?c4 ?c5 ?_)
     case c1=>exact World.news_of_block (cs:=#[nQ iQ v.op.kind,nQ iQ v.op.k,nQ iQ v.op.width,nQ iQ v.op.step,nQ iQ v.op.side,nQ iQ v.op.frm,nQ iQ v.op.to,sQ S v.op.s.length sc,sQ J v.ins.length ic,sQ A9 v.p.length c9]) H9.out
     case c2=>intro u hu;simp at hu;rcases hu with rfl|rfl|rfl|rfl|rfl|rfl|rfl|rfl|rfl|rfl<;>rfl
     case c3=>unfold maxLen;omega
     case c4=>omega
     case c5=>simp;omega
     intro v7 w7 hf hJ _ ht;obtain ⟨A7,c7,rfl⟩:=qa8 hf;have Hs:wr.heap.size+1=(wr.alloc (.cells #[nQ iQ v.op.kind,nQ iQ v.op.k,nQ iQ v.op.width,nQ iQ v.op.step,nQ iQ v.op.side,nQ iQ v.op.frm,nQ iQ v.op.to,sQ S v.op.s.length sc,sQ J v.ins.length ic,sQ A9 v.p.length c9] 85)).heap.size:=by simp
     rw [Hs] at ht;clear Hs;have hi:=HT.out;generalize (wr.alloc (.cells #[nQ iQ v.op.kind,nQ iQ v.op.k,nQ iQ v.op.width,nQ iQ v.op.step,nQ iQ v.op.side,nQ iQ v.op.frm,nQ iQ v.op.to,sQ S v.op.s.length sc,sQ J v.ins.length ic,sQ A9 v.p.length c9] 85))=w6 at *;have Hl:=hJ;rw [←hi] at hf Hl ht;have ha:=qfj (x:=(⟨v,S,sc,J,ic,A9,c9⟩:cB)) (vs:=vs) H7.out gl.out (C2:=wo.heap.size+2) oZ oZ hf Hl ht hM.out ⟨⟨gj.out,HG⟩,⟨H5.out,gh⟩,Hu.out⟩;rw [HL.out] at ha;have ha:dY 85 (w.heap.size+3) w7.heap.size w0 w7 (sQ A7 (L.length+1) c7) (n.o.take (k+1)):=by rw [gd.out];exact ha
     rw [hi] at ha;have hp:=Ha.out.grown hJ (λe=>by have:=hy.out _ e.symm;omega);have hZ:=Hb.out.grown hJ (λe=>by have:=hy.out _ e.symm;omega);have hU:=Hn.out.grown hJ (λe=>by have:=hy.out _ e.symm;omega);rw [hi] at hp;have hO:Below w.heap.size w w7:=hz.grown hJ hz.size (λb hb=>by have:=hy.out b hb;omega);have z1':w7.cell? ⟨w.heap.size+2,1,none⟩=some (sQ A0 k c0):=by rw [hp.cell];rfl
     have f1':=hp.frozen 1;have h8:Fr (λb=>b=w.heap.size+2) w7 (w7.setCell ⟨w.heap.size+2,1,none⟩ (sQ A7 (k+1) c7)):=(Fr.refl (λb=>b=w.heap.size+2) w7).setCell (p:=⟨w.heap.size+2,1,none⟩) (λ_=>rfl) (sQ A7 (k+1) c7);have HP:=zI (ha.fr h8 (λb h1 h2 h3=>by omega));have H1:=zI (h8.blk hZ oZ);have H2:=zI (h8.blk hU oZ);have h3:=hp.aU 1 (sQ A7 (k+1) c7);have H3:=zI (show Blk (w7.setCell ⟨w.heap.size+2,1,none⟩ (sQ A7 (k+1) c7)) (w.heap.size+2) 37 #[sQ A n.inn.length c,sQ A7 (k+1) c7] from h3);have H4:=zI (hO.setCell (p:=⟨w.heap.size+2,1,none⟩) sZ (sQ A7 (k+1) c7));clear hf hJ Hl ht ha hp hZ hU hO h8 h3 hi hz hh;go_wp2_with fail;go_roundw
     case rel=>exact ⟨k+1,by omega,by go_num,H1.out,H2.out,H4.out,_,H3.out,by simpa using HP.out⟩
     case measure=>simp [intOf];omega
  ·obtain rfl:k=n.o.length:=by omega
   rw [Zg] at hd;obtain ⟨N',d',rfl,HF,gk,-⟩:=hd.o (hl0.call hF);have Hz:Fr (λb=>b=w.heap.size+1) wr ((wr.setCell ⟨w.heap.size+1,0,none⟩ (sQ A n.inn.length c)).setCell ⟨w.heap.size+1,1,none⟩ (sQ N' n.o.length d')):=((Fr.refl (λb=>b=w.heap.size+1) wr).setCell (p:=⟨w.heap.size+1,0,none⟩) (λ_=>rfl) _).setCell (p:=⟨w.heap.size+1,1,none⟩) (λ_=>rfl) _;have Hh:Below w.heap.size w ((wr.setCell ⟨w.heap.size+1,0,none⟩ (sQ A n.inn.length c)).setCell ⟨w.heap.size+1,1,none⟩ (sQ N' n.o.length d')):=(hF.setCell (p:=⟨w.heap.size+1,0,none⟩) sZ _).setCell (p:=⟨w.heap.size+1,1,none⟩) sZ _;have HI:=zI (hd.fr Hz (λb h1 h2 h3=>by omega));have z0:wr.cell? ⟨w.heap.size+2,0,none⟩=some (sQ A n.inn.length c):=by rw [hq.cell];rfl
   have z1:wr.cell? ⟨w.heap.size+2,1,none⟩=some (sQ N' n.o.length d'):=by rw [hq.cell];rfl
   have r0:wr.cell? ⟨w.heap.size+1,0,none⟩=some (sQ none 0 0):=by rw [hx.cell];rfl
   have r1:wr.cell? ⟨w.heap.size+1,1,none⟩=some (sQ none 0 0):=by rw [hx.cell];rfl
   have f0:=hx.frozen 0;have f1:=hx.frozen 1;clear Hz;obtain ⟨h7,h9,Hg,hA⟩:=zd4 h5 hx hq hd;clear h5 hx hq hd;go_wp2_with fail;exact Zk1 (v:=.agg #[sQ A n.inn.length c,sQ N' n.o.length d']) (by simp [results,results12,go_sem,r0,r1]) rfl ⟨N',d',_,rfl,HF,gk,Hh,HI.out⟩
theorem tK (A N:Option Addr) (c d:Nat) (n:aA) (w:Zp1) (hok:n.ok) (hR:bH w A N n):
  Calls prog 12 #[.agg #[sQ A n.inn.length c,sQ N n.o.length d]] w (qhQ n A c w):=
 (ref_22s A N c d n w w hok (Later.refl _) hR).mono λ_ _ h=>h.netp hR
def bU (n:aA) (w:Zp1) (e:Ending) (w':Zp1):Prop:=
 Below w.heap.size w w'/\((Nt.check n=0/\∃g,e=.returned (.tuple #[sQ (some ⟨g,0,none⟩) (n.o.length+1) (n.o.length+1),nQ iQ (Nt.aI n.o),nQ iQ 0])/\w.heap.size<=g/\aQ w' g 22 (Nt.shapes n))∨
  (Nt.check n≠0/\e=.returned (.tuple #[sQ none 0 0,nQ iQ 0,nQ iQ (Nt.check n)])))
theorem bU.err {n:aA} {w w':Zp1} {k:Int} (h:Nt.check n=k) (hk:k≠0) (hb:Below w.heap.size w w'):bU n w (.returned (.tuple #[sQ none 0 0,nQ iQ 0,nQ iQ k])) w':=
 ⟨hb,.inr (by rw [h];exact ⟨hk,rfl⟩)⟩
theorem aQ.apart {w:Zp1} {g:Nat} {t:TypeId} {sh:List (List Int)} {S:Option Addr} {s:List Int} (h:aQ w g t sh) (hI:Ints iQ w S s) (hs:0<s.length):∀a,S=some a->a.block≠g:=by
 intro a ha hg;obtain ⟨b,off,e,hl,hc⟩:=hI 0 hs;rw [ha] at e;injection e with e
 subst e;simp at hg;subst hg;obtain ⟨vs,hb,hk,hv⟩:=h;rw [Zx,hk.cell off] at hc
 by_cases ho:off<sh.length
 ·obtain ⟨S',c',e1,_⟩:=hv off ho
  simp at hc;rw [e1] at hc;simp at hc
 ·rw [Array.getElem?_eq_none soZ] at hc
  cases hc
theorem Nt.count_used (ns:List aP) (id:Int):(Nt.count ns id=0)↔Nt.isUsed ns id=false:=by
 unfold Nt.count Nt.isUsed;rw [List.length_eq_zero_iff,List.filter_eq_nil_iff,List.any_eq_false]
theorem qd1 (A N:Option Addr) (c d:Nat) (n:aA) (w:Zp1) (hok:n.ok) (hR:bH w A N n) (hd:n.o.length<=d) (hc:n.inn.length<=c) (hcm:c<=9223372036854775807):
  Calls prog 11 #[.agg #[sQ A n.inn.length c,sQ N n.o.length d]] w (bU n w):=by
 obtain ⟨i1,hj,Gb,Gj,Gh⟩:=info_parts qbP;have GF:=hok.2.1;have GA:=hok.1;have h0:Below w.heap.size w (w.alloc (.cells #[sQ A n.inn.length c,sQ N n.o.length d] 37)):=(Ze1 _ _).alloc (lrZ _) _;have gf:=Blk.new w 37 #[sQ A n.inn.length c,sQ N n.o.length d];have gc:=hR.below h0 (lrZ _)
 by_cases hM:n.o.length<1∨512<n.o.length
 ·have HC:=zI (Nt.jA hM)
  obtain ⟨HR,H9,gK,gg⟩:=zd4 hR hok gc gf;clear hR hok gc gf;rcases hM with h|h
  ·have d1:decide ((n.o.length:Int)<1)=true:=by simp;omega
   go_in;go_wp2_with fail
   go_ret3
   exact bU.err HC.out oZ h0
  ·have d1:decide ((n.o.length:Int)<1)=false:=by simp;omega
   have d2:decide ((512:Int)<(n.o.length:Int))=true:=by simp;omega
   go_in;go_wp2_with fail
   go_ret3
   exact bU.err HC.out oZ h0
 ·have d1:decide ((n.o.length:Int)<1)=false:=by simp;omega
  have d2:decide ((512:Int)<(n.o.length:Int))=false:=by simp;omega
  have Gz:n.o.length<=512:=by omega
  have Gr:1<=n.o.length:=by omega
  obtain ⟨HR,H9,gK,gg,ho⟩:=zd5 hR hok gc gf hM;clear hR hok gc gf hM;go_in;go_wp2_with fail;have hx:=gg.out;generalize w.alloc (.cells #[sQ A n.inn.length c,sQ N n.o.length d] 37)=w1 at *;have he:=gg.out;refine (qaK A c n.inn _ oZ gK.out.1).mono ?_;rintro e w2 ⟨rfl,rfl⟩;have x1:w1.cell? ⟨w.heap.size,1,none⟩=some (sQ N n.o.length d):=by rw [he.cell];rfl
  clear d1 d2 hx
  by_cases HG:Sh.right n.inn=true
  rotate_left
  ·have Hn:Sh.right n.inn=false:=by simpa using HG
   have HC:=zI (Nt.qT ho.out Hn);rw [Hn];have hf:=zI he;clear he;clear HG Hn;go_wp2_with fail
   go_ret3
   exact bU.err HC.out oZ h0
  ·have h7:=zI HG
   rw [HG];have hf:=zI he;clear he;clear HG;go_wp2_with fail;clear x1 gK gg
   go_loopw [5] (λi wr=>∃k:Nat,k<=n.o.length/\i=nQ iQ k/\Blk wr w.heap.size 37 #[sQ A n.inn.length c,sQ N n.o.length d]/\Below w.heap.size w wr/\qdx n k) (λi _=>n.o.length-(intOf i).toNat)
   case atStart=>exact ⟨0,Zt _,rfl,hf.out,h0,λj hj h=>by omega⟩
   case round=>
    clear hf h0;obtain ⟨k,hk,rfl,he,hL,hG⟩:=hrel;have g9:=he.lt;have x1:wr.cell? ⟨w.heap.size,1,none⟩=some (sQ N n.o.length d):=by rw [he.cell];rfl
    by_cases hU:k<n.o.length
    ·obtain ⟨b,off,S,sc,J,ic,Q,qc,rfl,He,-,hI,-⟩:=HR.out.2.at_ hU
     have hH:=H9.out.2.2 _ (gmZ hU);have H5:=λh=>Nt.rT (n:=n.o.length) hU hG h
     have H8:=λh m (hm:m<n.o[k].ins.length) h2=>Nt.sI (n:=n.o.length) hU hG h (m:=m) hm h2
     have Hf:Od.right n.o[k].op=true->n.o[k].ins.all (λi=>decide (0<=i/\i<=n.o.length))=true->qdx n (k+1):=λh1 h2 j hj GI=>by
      by_cases e:j=k
      ·subst e;exact ⟨h1,h2⟩
      ·exact hG j hj oZ
     have GA:=hH.2.2.1;have Gw:=hH.2.1;generalize n.o[k]=v at *;have Hh:=He.below hL;obtain ⟨⟨y0,y1,y2,y3,y4,y5,y6,y7,y8,y9⟩,-⟩:=He.below hL;have hh:=qeW v.op S sc wr oZ;rw [Od.ref_right] at hh;obtain ⟨hf,GE,Gu,gJ,gr,HW,Ga,gB,hP⟩:=zd9 he He hH H5 H8 Hf Hh hG hh;clear he He hH H5 H8 Hf Hh hG hh;go_wp2_with fail;refine (hP.out).mono ?_;rintro e w2 ⟨rfl,Hm⟩;have hS:=hL.trans (Hm.mono hL.size);have hb:=hf.out.below Hm g9;clear x1;have x1:w2.cell? ⟨w.heap.size,1,none⟩=some (sQ (some ⟨b,off,none⟩) n.o.length d):=by rw [hb.cell];rfl
     have Gd:=Ga.out.below Hm;obtain ⟨⟨-,-,-,-,-,-,-,-,z8,-⟩,-,gb,-⟩:=Gd;clear y0 y1 y2 y3 y4 y5 y6 y7 y8 y9 hf hP
     by_cases H6:Od.right v.op=true
     rotate_left
     ·have Hs:Od.right v.op=false:=by simpa using H6
      have hc:=gJ.out Hs;have HC:=zI ((Nt.jJ ho.out h7.out (by rw [hc];omega)).trans hc);rw [Hs];obtain ⟨hE,gZ⟩:=zd2 hb gb;clear hb gb;clear H6 hc Hs;go_wp2_with fail
      go_ret3
      exact bU.err HC.out oZ hS
     ·have gY:=zI H6
      rw [H6];obtain ⟨hE,gZ⟩:=zd2 hb gb;clear hb gb;clear H6;go_wp2_with fail
      go_loopw [6] (λi wx=>∃m q:Nat,m<=v.ins.length/\i=nQ iQ m/\(∀j (hj:j<v.ins.length),j<m->0<=v.ins[j]/\v.ins[j]<=n.o.length)/\wx=w2.drewN q) (λi _=>v.ins.length-(intOf i).toNat)
      case atStart=>exact ⟨0,0,Zt _,rfl,(λj hj h=>by omega),rfl⟩
      case round=>
       obtain ⟨m,q,hm,rfl,hB,rfl⟩:=hrel
       by_cases HV:m<v.ins.length
       ·obtain ⟨b1,off1,rfl,-,hc⟩:=gZ.out m HV
        rw [qa1 HV] at hc;have gC:=gr.out gY.out m HV
        have HE:(0<=v.ins[m]/\v.ins[m]<=n.o.length)->∀j (hj:j<v.ins.length),j<m+1->0<=v.ins[j]/\v.ins[j]<=n.o.length:=λh j hj GJ=>by
         by_cases e:j=m
         ·subst e;exact h
         ·exact hB j hj oZ
        generalize v.ins[m]=u at *;have m0:(0:Int)<=(m:Int):=by omega
        have m1:(m:Int)<(v.ins.length:Int):=by omega
        have k0:(0:Int)<=(k:Int):=by omega
        have k1:(k:Int)<(n.o.length:Int):=by omega
        by_cases hu:0<=u/\u<=n.o.length
        ·have HN:=zI (HE hu)
         have e1:decide (u<0)=false:=by simp;omega
         have e2:decide ((n.o.length:Int)<u)=false:=by simp;omega
         clear hu gC;obtain ⟨Gx,HD⟩:=zd2 HE hB;clear HE hB;go_wp2_with fail
         go_quiet (fail)
         go_wp2_with fail;go_roundw
         case rel=>exact ⟨m+1,_,by omega,by go_num,HN.out,by first|rfl|exact World.drewN_drewN _ _ _⟩
         case measure=>simp [intOf];omega
        ·have gw:=gC hu
         have HC:=zI ((Nt.jJ ho.out h7.out (by rw [gw];omega)).trans gw);clear gw gC;obtain ⟨Gx,HD⟩:=zd2 HE hB;clear HE hB
         by_cases HX:u<0
         ·have e1:decide (u<0)=true:=by simpa using HX
          clear hu;go_wp2_with fail
          go_quiet (fail)
          go_wp2_with fail
          go_ret3
          exact bU.err HC.out oZ (by first|exact qdy hS _ _|exact qa6 hS _)
         ·have e1:decide (u<0)=false:=by simpa using HX
          have e2:decide ((n.o.length:Int)<u)=true:=by simp;omega
          clear hu;go_wp2_with fail
          go_quiet (fail)
          go_wp2_with fail
          go_ret3
          exact bU.err HC.out oZ (by first|exact qdy hS _ _|exact qa6 hS _)
       ·obtain rfl:m=v.ins.length:=by omega
        have HN:=zI (HW.out gY.out (List.all_eq_true.2 λi hi=>by obtain ⟨j,hj,rfl⟩:=List.getElem_of_mem hi;simpa using hB j hj hj));have HD:=zI hB;clear hB;go_wp2_with fail;go_roundw
        case rel=>exact ⟨k+1,by omega,by go_num,hE.out.drewN q,qa6 hS q,HN.out⟩
        case measure=>simp [intOf];omega
    ·obtain rfl:k=n.o.length:=by omega
     have h0:Nt.iA n.o.length n.o=0:=Nt.pI hG;have HY:∀v∈n.o,∀i∈v.ins,0<=i/\i<=n.o.length:=λv hv=>(Nt.eU h0 v hv).2
     have HJ:∀v∈n.o,Od.right v.op=true:=λv hv=>(Nt.eU h0 v hv).1
     have x0:wr.cell? ⟨w.heap.size,0,none⟩=some (sQ A n.inn.length c):=by rw [he.cell];rfl
     obtain ⟨gB,hf,gd,gI,gm⟩:=zd5 hG he h0 HY HJ;clear hG he h0 HY HJ;go_wp2_with fail;refine (qeV A N c d n _ H9.out (HR.out.below hL (lrZ _))).mono ?_;rintro e w2 ⟨O,oc,rfl,hO,g6,Gp,Hm⟩;have hZ:=hL.trans (Hm.mono hL.size);have hb:=hf.out.below Hm hf.out.lt;have gD:w.heap.size<w2.heap.size:=hb.lt;clear x0 x1;have x0:w2.cell? ⟨w.heap.size,0,none⟩=some (sQ A n.inn.length c):=by rw [hb.cell];rfl
     have x1:w2.cell? ⟨w.heap.size,1,none⟩=some (sQ N n.o.length d):=by rw [hb.cell];rfl
     clear hf;have gk:(Nt.sO n.o).length<=n.o.length:=Kn.lX _ _
     by_cases hT:(Nt.sO n.o).length=n.o.length
     rotate_left
     ·have HC:=zI (Nt.pW ho.out h7.out gd.out hT)
      have e1:decide (((Nt.sO n.o).length:Int)<(n.o.length:Int))=true:=by simp;omega
      have e2:decide ((Nt.sO n.o).length<n.o.length)=true:=by simp;omega
      generalize Nt.sO n.o=os at *;obtain ⟨hE,gp,HO⟩:=zd3 hb hT hO;clear hb hT hO;go_wp2_with fail
      go_ret3
      exact bU.err HC.out oZ hZ
     ·have hK:=λh5=>Nt.pK ho.out h7.out gd.out hT h5
      have hy:=λh5 h6=>Nt.oG ho.out h7.out gd.out hT h5 h6
      have hw:=λh5 h6=>Nt.nY ho.out h7.out gd.out hT h5 h6
      have ht:=λh5:(Nt.lay n.o (Nt.start n) (Nt.sO n.o)).2=0=>Nt.kD h7.out (Nt.sO n.o).length (lrZ _) (by rw [Zg];exact h5)
      rw [Zg] at ht;have hW:∀u,u∈Nt.sO n.o↔1<=u/\u<=n.o.length:=Kn.bM (I:=Nt.iF n.o) (n:=n.o.length) hT;have Hq:(Nt.lay n.o (Nt.start n) (Nt.sO n.o)).1=Nt.shapes n:=rfl;have Hp:∀u∈Nt.sO n.o,1<=u/\u<=n.o.length:=Kn.dX _ _;have Ho:∀a b u,Nt.sO n.o=a++u::b->∀i∈Nt.iF n.o u,i=0∨i∈a:=λa b u h=>Kn.eY _ _ h
      rw [hT];obtain ⟨os,hos⟩:∃os,Nt.sO n.o=os:=⟨_,rfl⟩
      have hX:∀k,k<=os.length->∀sh,Nt.lay n.o (Nt.start n) (os.take k)=(sh,0)->Nt.Good (os.take k) sh/\sh.length=n.o.length+1:=λk hk sh h=>by
       have:=qe0 (n:=n) h7.out (k:=k) (by rw [hos];exact hk) (sh:=sh) (by rw [hos];exact h);rw [hos] at this;exact this
      rw [hos] at hK hy hw ht hW Hq hO hT g6 gk Hp Ho;rw [hT] at g6
      have gN:∀a,A=some a->a.block<w.heap.size:=λa ha=>by
       obtain ⟨b,off,e,hl,-⟩:=HR.out.1 0 (qa4 h7.out).1;rw [ha] at e;injection e with e;subst e;exact hl
      have HK:=HR.out.1.below hZ (lrZ _);have e1:iQ.wrap ((n.o.length:Int)+1)=((n.o.length+1:Nat):Int):=by rw [Zc1 _ oZ];omega
      obtain ⟨Hr,h9,h8,Hw,H4,gx,gp,GD,HO⟩:=zd9 hK hy hw ht hW Hq hT hos hO;obtain ⟨hE,gH,gu,Hv,Gm,HQ⟩:=zd6 hb Hp Ho hX gN HK;clear hK hy hw ht hW Hq hT hos hO hb Hp Ho hX gN HK;go_wp2_with (at_make;refine wpList_make_full _ rfl _ _ 32 rfl w2.heap.size 22 i1 (sQ none 0 0) 1 underlying32 hj Gb Gj _ _ _ _ (n.o.length+1) rfl rfl (by first|rfl|simp|(go_simp;rfl)) (by first|rfl|simp|(go_simp;rfl)) ?b2 ?b3 ?b4 ?_)
      case b2=>rw [Gh];omega
      case b3=>unfold maxLen;omega
      case b4=>exact lrZ _
      intro w3 hown hgrow;have Ht:=qam hown;rw [qae] at Ht;obtain ⟨g,hg⟩:∃g,w2.heap.size=g:=⟨_,rfl⟩
      have hq:aQ w3 g 22 (Zc (n.o.length+1) []):=by rw [←hg];exact aQ.new (by simpa [Blk] using Ht)
      have H0:Below w2.heap.size w2 w3:=(Ze1 _ w2).grown hgrow (lrZ _) sZ;have HB:=hZ.trans (H0.mono hZ.size);have hD:=hE.out.below H0 gD;have h4:=hq.aU (i:=0) (HQ.out.below H0 (lrZ _)) hc hcm (λa ha=>by have:=Gm.out a ha;omega);rw [show (Zc (n.o.length+1) ([]:List Int)).set 0 n.inn=Nt.start n from rfl] at h4;have Hd:=hD.far (p:=⟨g,0,none⟩) soZ (sQ A n.inn.length c);have HH:=HB.setCell (p:=⟨g,0,none⟩) soZ (sQ A n.inn.length c);have gL:=(HO.out.below H0 (lrZ _))
      obtain ⟨S0,c0,z0,-⟩:=hq.at_ (j:=0) sZ;have f0:w3.frozen? ⟨g,0,none⟩=false:=by obtain ⟨vs,_,hk,_⟩:=hq;exact hk.frozen 0
      have gF:∀a,O=some a->a.block≠g:=λa ha=>by
       obtain ⟨b,off,e,hl,-⟩:=HO.out 0 (by have:=gp.out;omega);rw [ha] at e;injection e with e;subst e;simp;omega
      have g2:=gL.lJ (p:=⟨g,0,none⟩) gF (sQ A n.inn.length c);clear x0 x1;have x0:w3.cell? ⟨w.heap.size,0,none⟩=some (sQ A n.inn.length c):=by rw [hD.cell];rfl
      have x1:w3.cell? ⟨w.heap.size,1,none⟩=some (sQ N n.o.length d):=by rw [hD.cell];rfl
      rw [hg];have GH:w.heap.size<g:=by omega
      have gv:¬w.heap.size=g:=by omega
      clear Ht hown hgrow hq gL hZ Hm hL hg;obtain ⟨Hc,HP,Hg,gh,Gq⟩:=zd5 h4 hD Hd g2 gF;clear h4 hD Hd g2 gF;clear HO HQ;go_wp2_with fail;clear z0 f0 x0 x1 H0 HB
      go_loopw [9] (λi wr=>∃k:Nat,k<=os.length/\i=nQ iQ k/\Blk wr w.heap.size 37 #[sQ A n.inn.length c,sQ N n.o.length d]/\Below w.heap.size w wr/\Ints iQ wr O os/\∃sh,Nt.lay n.o (Nt.start n) (os.take k)=(sh,0)/\aQ wr g 22 sh) (λi _=>os.length-(intOf i).toNat)
      case atStart=>exact ⟨0,Zt _,rfl,Hg.out,HH,gh.out,Nt.start n,rfl,Hc.out⟩
      case round=>
       obtain ⟨k,hk,rfl,he,hL,hO,sh,hn,hq⟩:=hrel;clear Hc HP Hg gh HH;obtain ⟨hY,gt⟩:=Hv.out k hk sh hn;have x1:wr.cell? ⟨w.heap.size,1,none⟩=some (sQ N n.o.length d):=by rw [he.cell];rfl
       have g5:=gp.out
       by_cases hU:k<os.length
       ·obtain ⟨b,off,rfl,-,hc⟩:=hO k hU
        rw [qa1 hU] at hc;have hr:=gH.out _ (gmZ hU);have hJ:os=os.take k++os[k]::os.drop (k+1):=by rw [←Zd hU,Zn]
        have gq:=gu.out _ _ _ hJ;obtain ⟨j,hj'⟩:∃j:Nat,os[k]=(j:Int)+1:=⟨(os[k]-1).toNat,by omega⟩
        have Hz:j<n.o.length:=by omega
        have hs:=λh:(Nt.bF n.o sh os[k]).2=0=>Nt.oF (id:=os[k]) hn h
        have hQ:=λh:(Nt.bF n.o sh os[k]).2≠0=>Nt.qP (b:=os.drop (k+1)) (id:=os[k]) hn h
        rw [←Zb hU] at hs;rw [←hJ] at hQ;have g3:Nt.bF n.o sh os[k]=Od.shape n.o[j].op n.o[j].p (Nt.pick sh n.o[j].ins):=by unfold Nt.bF;rw [hj',Nt.dH Hz]
        have g1:Nt.iF n.o os[k]=n.o[j].ins:=by unfold Nt.iF;rw [hj',Nt.dH Hz]
        rw [g3] at hs hQ;rw [g1] at gq;rw [hj'] at hc hs;rw [show ((j:Int)+1).toNat=j+1 by omega] at hs;have hH:=H9.out.2.2 _ (gmZ Hz);have gS:=gm.out _ (gmZ Hz);have Hk:=gI.out _ (gmZ Hz);obtain ⟨b1,off1,S,sc,J,ic,Q,qc,rfl,He,gA,GO,GM⟩:=HR.out.2.at_ Hz;have gX:∀i∈n.o[j].ins,0<=i/\i.toNat<sh.length/\Sh.right (sh.getD i.toNat [])=true:=λi hi=>⟨(Hk i hi).1,by have:=Hk i hi;omega,hY i (gq i hi)⟩
        generalize n.o[j]=v at *;have Hh:=He.below hL;obtain ⟨⟨y0,y1,y2,y3,y4,y5,y6,y7,y8,y9⟩,-⟩:=He.below hL;have j1:iQ.wrap ((j:Int)+1-1)=(j:Int):=by rw [Zc1 _ oZ];omega
        have j2:(j:Int)<n.o.length:=by omega
        have j0:(0:Int)<=(j:Int):=by omega
        have k0:(0:Int)<=(k:Int):=by omega
        have k1:(k:Int)<(n.o.length:Int):=by omega
        have j4:(0:Int)<=(j:Int)+1:=by omega
        have j5:iQ.wrap (j:Int)=(j:Int):=Zc1 _ oZ
        have hh:∀W:Zp1,Ints iQ W S v.op.s->Ints iQ W J v.ins->bI W Q v.p->bI W (some ⟨g,0,none⟩) sh->Calls prog 32 #[.agg #[nQ iQ v.op.kind,nQ iQ v.op.k,nQ iQ v.op.width,nQ iQ v.op.step,nQ iQ v.op.side,nQ iQ v.op.frm,nQ iQ v.op.to,sQ S v.op.s.length sc,sQ J v.ins.length ic,sQ Q v.p.length qc],sQ (some ⟨g,0,none⟩) (n.o.length+1) (n.o.length+1)] W (cZ (Od.shape v.op v.p (Nt.pick sh v.ins)) W):=λW q1 q2 q3 q4=>by
         rw [←gt];exact qeY v S J Q sc ic qc g sh.length sh W hH gS gA.1 gA.2 q1 q2 q3 q4 gX
        have H2:=λh:(Od.shape v.op v.p (Nt.pick sh v.ins)).2=0=>qa4 (Od.aS h)
        generalize Od.shape v.op v.p (Nt.pick sh v.ins)=r at *;have Hi:=hh;have F1:=zI Hh.2.1;have F2:=zI Hh.2.2.1;have F3:=zI Hh.2.2.2;have F4:=zI hq.nJ;obtain ⟨g0,HT⟩:=zd2 hh H2;have HL:=zI hs;have Gt:=zI hQ;clear hh Hi H2 hs hQ Hh He gX Hk hH gS g3 g1 gq hJ hj' hY;obtain ⟨hf,HO,gG,Hj⟩:=zd4 he hO hn hq;clear he hO hn hq;have kn:k<n.o.length:=by omega
        go_wp2_with fail
        go_region_held3 (λw'=>w'.cell? ⟨w.heap.size,1,none⟩=some (sQ (some ⟨b1,off1,none⟩) n.o.length d)/\w'.cell? ⟨b,off+k,none⟩=some (nQ iQ ((j:Int)+1))/\w'.cell? ⟨b1,off1+j*10,none⟩=some (nQ iQ v.op.kind)/\w'.cell? ⟨b1,off1+j*10+1,none⟩=some (nQ iQ v.op.k)/\w'.cell? ⟨b1,off1+j*10+2,none⟩=some (nQ iQ v.op.width)/\w'.cell? ⟨b1,off1+j*10+3,none⟩=some (nQ iQ v.op.step)/\w'.cell? ⟨b1,off1+j*10+4,none⟩=some (nQ iQ v.op.side)/\w'.cell? ⟨b1,off1+j*10+5,none⟩=some (nQ iQ v.op.frm)/\w'.cell? ⟨b1,off1+j*10+6,none⟩=some (nQ iQ v.op.to)/\w'.cell? ⟨b1,off1+j*10+7,none⟩=some (sQ S v.op.s.length sc)/\w'.cell? ⟨b1,off1+j*10+8,none⟩=some (sQ J v.ins.length ic)/\w'.cell? ⟨b1,off1+j*10+9,none⟩=some (sQ Q v.p.length qc)) (first|go_keep|(exact ⟨qa0 hA x1,qa0 hA hc,qa0 hA y0,qa0 hA y1,qa0 hA y2,qa0 hA y3,qa0 hA y4,qa0 hA y5,qa0 hA y6,qa0 hA y7,qa0 hA y8,qa0 hA y9⟩))
         ((go_at_call 32;refine (g0.out _ (by exact F1.out) (by exact F2.out) (by exact F3.out) (by exact F4.out)).mono ?_;rintro e w9 ⟨S9,c9,rfl,Hx,Gl,Gf,hA⟩))
        have H1:Below wr.heap.size wr w9:=⟨hA.os,hA.tape,hA.output,hA.size,hA.block⟩
        have HI:=hL.trans (H1.mono hL.size);clear y0 y1 y2 y3 y4 y5 y6 y7 y8 y9 hA x1 g0 F1 F2 F3 F4
        by_cases Ha:r.2=0
        ·have q1:(r.2 != 0)=false:=by simp [Ha]
         have hF:=Hj.out.below H1 (lrZ _);have Hb:=hf.out.below H1 hf.out.lt;have gO:=HO.out.below H1 (lrZ _);have GL:=qa0 H1 hc;have Gs:j+1<sh.length:=by omega
         obtain ⟨Sm,cm,ym,-⟩:=hF.at_ Gs;have fm:w9.frozen? ⟨g,j+1,none⟩=false:=by obtain ⟨vs,_,hk,_⟩:=hF;exact hk.frozen (j+1)
         have HA:=hF.aU (i:=j+1) Hx Gl Gf (hF.apart Hx (HT.out Ha).1);have HS:=zI HA;have Gy:=zI (Hb.far (p:=⟨g,j+1,none⟩) gv (sQ S9 r.1.length c9));have go:=HI.setCell (p:=⟨g,j+1,none⟩) soZ (sQ S9 r.1.length c9);have gh:=zI (gO.lJ (p:=⟨g,j+1,none⟩) Gq.out (sQ S9 r.1.length c9));have Gc:=zI (HL.out Ha);have j3:((j:Int)+1)<((n.o.length+1:Nat):Int):=by omega
         have j6:((j:Int)+1).toNat=j+1:=by omega
         clear HA hF Hb gO Ha hc;have Gn:=zI Hx;clear Hx;go_wp2_with fail;go_roundw
         case rel=>exact ⟨k+1,by omega,by go_num,Gy.out,go,gh.out,_,Gc.out,HS.out⟩
         case measure=>simp [intOf];omega
        ·have q1:(r.2 != 0)=true:=by simp [Ha]
         have gn:=Hr.out;rw [Gt.out Ha] at gn;have HC:=zI (gn Ha);obtain ⟨GoX,Gn⟩:=zd2 Ha Hx;clear Hx;clear Ha gn;go_wp2_with fail
         go_ret3
         exact bU.err HC.out GoX.out HI
       ·obtain rfl:k=os.length:=by omega
        rw [Zg] at hn;have gV:=λh6=>h9.out (by rw [hn]) h6
        have gM:=λh6=>h8.out (by rw [hn]) h6
        have HF:=Hw.out (by rw [hn]);have gi:=gx.out;rw [hn] at HF gi;have gi:sh=Nt.shapes n:=gi;subst gi;have HF:Nt.Good os (Nt.shapes n):=HF;have i2:¬((os.length:Int)<(n.o.length:Int)):=by omega
        have i3:¬(os.length<n.o.length):=by omega
        clear hY hk hU;obtain ⟨gT,Gg,Gi,gG,Hj,hf,HO⟩:=zd7 gV gM HF hn hq he hO;clear gV gM HF hn hq he hO;have GC:=zI g5;clear g5;go_wp2_with fail;clear x1;obtain ⟨w5,rfl⟩:∃w5,w5=wr:=⟨wr,rfl⟩
        go_loopw [12,13,14] (λl m i wx=>∃k:Nat,k<=n.o.length+1/\i=nQ iQ k/\l=nQ iQ ((Nt.bZ n.o k).getLastD 0)/\m=nQ iQ ((Nt.bZ n.o k).length:Nat)/\Below w5.heap.size w5 wx) (λ_ _ i _=>n.o.length+1-(intOf i).toNat)
        case atStart=>exact ⟨0,Zt _,rfl,rfl,rfl,Ze1 _ _⟩
        case round=>
         obtain ⟨k,hk,rfl,rfl,rfl,HM⟩:=hrel;have hN:=hf.out.below HM hf.out.lt;have hV:=hL.trans (HM.mono hL.size);have x0:wr.cell? ⟨w.heap.size,0,none⟩=some (sQ A n.inn.length c):=by rw [hN.cell];rfl
         have x1:wr.cell? ⟨w.heap.size,1,none⟩=some (sQ N n.o.length d):=by rw [hN.cell];rfl
         have gR:=Nt.lF n.o k
         by_cases hU:k<=n.o.length
         ·have HS:=zI (Nt.kN n.o k)
          obtain ⟨L0,hL0⟩:∃L0,(Nt.bZ n.o k).getLastD 0=L0:=⟨_,rfl⟩
          obtain ⟨c0,hc0⟩:∃c0,(Nt.bZ n.o k).length=c0:=⟨_,rfl⟩
          rw [hc0] at gR;rw [hL0,hc0];have g4:=Nt.count_used n.o (k:Int);have hh:=qeT A N c d n (k:Int) wr H9.out (HR.out.below hV (lrZ _));generalize Nt.count n.o (k:Int)=cn at *;obtain ⟨Ge,g7,gU,hP,gQ⟩:=zd5 hL0 hc0 g4 hh hN;clear hL0 hc0 g4 hh hN;go_wp2_with fail;refine (hP.out).mono ?_;rintro e w6 ⟨rfl,Gv⟩;have H3:=HM.trans (Gv.mono HM.size);clear x0 x1
          by_cases hz:cn=0
          ·have HU:=zI (gU.out.1 hz)
           have e1:((cn:Int)==0)=true:=by simp [hz]
           have e2:(cn==0)=true:=by simp [hz]
           subst hz;go_wp2_with fail;go_roundw
           case rel=>exact ⟨k+1,by omega,by go_num,by rw [HS.out,HU.out];simp,by rw [HS.out,HU.out,inZ sZ,Ze,g7.out];go_num,H3⟩
           case measure=>simp [intOf];omega
          ·have HU:=zI (show Nt.isUsed n.o (k:Int)=true by
            cases h:Nt.isUsed n.o (k:Int)
            ·exact absurd (gU.out.2 h) hz
            ·rfl)
           have e1:((cn:Int)==0)=false:=by simp;omega
           have e2:(cn==0)=false:=by simp;omega
           clear hz;go_wp2_with fail;go_roundw
           case rel=>exact ⟨k+1,by omega,by go_num,by rw [HS.out,HU.out,ipZ rfl,Ge.out],by rw [HS.out,HU.out,ipZ rfl,g7.out],H3⟩
           case measure=>simp [intOf];omega
         ·obtain rfl:k=n.o.length+1:=by omega
          rw [Nt.jG];have i4:¬(((n.o.length+1:Nat):Int)<=(n.o.length:Int)):=by omega
          have g8:(Nt.unused n.o).getLastD 0=Nt.aI n.o:=rfl;rw [g8];have hC:Nt.fC n.o=decide ((Nt.unused n.o).length=1/\Nt.aI n.o≠0):=rfl;rw [Nt.jG] at gR;clear g8
          by_cases Hu:(Nt.unused n.o).length=1
          rotate_left
          ·have HC:=zI (gT.out (by rw [hC];simp [Hu]))
           have e1:(((Nt.unused n.o).length:Int) != 1)=true:=by rw [bne_iff_ne];omega
           have e2:((Nt.unused n.o).length != 1)=true:=by rw [bne_iff_ne];omega
           generalize (Nt.unused n.o).length=ul at *;have gE:=zI hC;clear hC;clear Hu;go_wp2_with fail
           go_ret3
           exact bU.err HC.out oZ hV
          ·by_cases Hy:Nt.aI n.o=0
           ·have HC:=zI (gT.out (by rw [hC];simp [Hy]))
            rw [Hu,Hy];clear Hu Hy hC;go_wp2_with fail
            go_ret3
            exact bU.err HC.out oZ hV
           ·have ge:Nt.fC n.o=true:=by rw [hC];simp [Hu,Hy]
            have HV:=(Nt.dD ge).2;have HZ:=Gg.out ge;obtain ⟨l,hl⟩:∃l:Nat,Nt.aI n.o=(l:Int):=⟨(Nt.aI n.o).toNat,by omega⟩
            have Hl:=zI hl;rw [Hu];rw [hl] at HV HZ Hy ⊢;rw [tnZ] at HZ;have gl:l<(Nt.shapes n).length:=by omega
            have gj:=Gi.out (l:Int) (.inr ((H4.out _).2 oZ));rw [tnZ,qa7 gl] at gj;rw [qa7 gl] at HZ;have h3:=Hj.out.below HM (lrZ _);obtain ⟨Sl,sc,GB,gy,gA,GK,-⟩:=h3.at_ gl;have gP:=qal Sl sc _ wr gj gy;have e1:((l:Int)==0)=false:=by simp;omega
            have e1':(l==0)=false:=by simp;omega
            have l0:(0:Int)<=(l:Int):=by omega
            have l1:(l:Int)<((n.o.length+1:Nat):Int):=by omega
            generalize (Nt.shapes n)[l]=s at *;obtain ⟨H7,gW,Hl,Gk,GP,GG,GN,gE⟩:=zd8 h3 HZ hl gP gy gj ge hC;clear h3 HZ hl gP gy gj ge hC;clear Hu Hy;go_wp2_with fail;refine (Gk.out).mono ?_;rintro e w7 ⟨rfl,rfl⟩
            by_cases hp:Safe.prod s=1
            ·have HC:=zI (show Nt.check n=0 by rw [gW.out,inZ (by simp [hp])])
             have e2:(Safe.prod s != 1)=false:=by simp [hp]
             clear hp;go_wp2_with fail
             go_ret3
             exact ⟨hV,.inl ⟨HC.out,g,by rw [Hl.out];rfl,by omega,H7.out⟩⟩
            ·have HC:=zI (show Nt.check n=23 by rw [gW.out,ipZ hp])
             have e2:(Safe.prod s != 1)=true:=by simp [hp]
             clear hp;go_wp2_with fail
             go_ret3
             exact bU.err HC.out oZ hV
theorem qhR:prog.stoodInHeld 48=false:=by kernel_rfl
theorem qhS:prog.eqGuardType prog.depth 48=false:=by kernel_rfl
theorem qdJ (a b c d:Int) (w:Zp1):(binOp .eql 48 (.agg #[nQ iQ a,nQ iQ b,nQ iQ c,nQ iQ d]) (.agg #[nQ iQ a,nQ iQ b,nQ iQ c,nQ iQ d])).run prog w=.ok (.bool true) w:=by
 have g1:=qhR;have g2:=qhS;simp [go_sem,g1]
theorem qhT:prog.stoodInHeld 106=false:=by kernel_rfl
theorem qhU:prog.eqGuardType prog.depth 106=false:=by kernel_rfl
theorem qeE {α:Type} (ps qs:List α) (k:Nat) (h1:k<ps.length) (h2:k<qs.length):ps.take k=qs.take k->ps[k]=qs[k]->ps.take (k+1)=qs.take (k+1):=by
 intro h h';rw [Zb h1,Zb h2,h,h']
theorem qcm (A:Option Addr) (c:Nat) (ps:List (Int × Int)) (B:Option Addr) (d:Nat) (qs:List (Int × Int)) (w:Zp1) (hl:ps.length<=9223372036854775807) (hI:bE w A ps) (hJ:bE w B qs):
  Calls prog 45 #[sQ A ps.length c,sQ B qs.length d] w λe w'=>e=.returned (.bool (decide (ps=qs)))/\Below w.heap.size w w':=by
 obtain ⟨HI,HJ⟩:=zd2 hI hJ;have g1:=qhT;have g2:=qhU;clear hI hJ
 by_cases hf:ps.length=qs.length
 ·have hg:((ps.length:Int) != (qs.length:Int))=false:=by simp [hf]
  have HL:=zI hf;have hq:qs.length<=9223372036854775807:=by omega
  clear hf;go_in;go_wp2_with fail
  go_loopw [5,13] (λ_ i wr=>∃k:Nat,k<=ps.length/\i=nQ iQ k/\Below w.heap.size w wr/\ps.take k=qs.take k) (λ_ i _=>ps.length-(intOf i).toNat)
  case atStart=>exact ⟨0,Zt _,rfl,Ze1 _ _,rfl⟩
  case round=>
   obtain ⟨k,hk,rfl,he,hh⟩:=hrel;have HO:=zI hh;clear hh
   by_cases hi:k<ps.length
   ·have hj:k<qs.length:=by have:=HL.out;omega
    obtain ⟨b,off,rfl,hb,hc,hd⟩:=HI.out.below he (lrZ _) k hi;obtain ⟨b2,off2,rfl,hm,ho,hn⟩:=HJ.out.below he (lrZ _) k hj;have HQ:=zI (qeE ps qs k hi hj);cases he1:(ps[k].1==qs[k].1)
    ·have hg:ps≠qs:=λh=>by subst h;simp at he1
     have ha:=zI (decide_eq_false hg);clear hg;go_wp2_with fail
     go_quiet (fail)
     go_wp2_with fail;go_ret;exact ⟨qaI (by rw [ha.out]),qa6 he _⟩
    ·cases he2:(ps[k].2==qs[k].2)
     ·have hg:ps≠qs:=λh=>by subst h;simp at he2
      have ha:=zI (decide_eq_false hg);clear hg;go_wp2_with fail
      go_quiet (fail)
      go_wp2_with fail;go_ret;exact ⟨qaI (by rw [ha.out]),qa6 he _⟩
     ·have HE:=zI (show ps[k]=qs[k] from Prod.ext (by simpa using he1) (by simpa using he2))
      go_wp2_with fail
      go_quiet (fail)
      go_wp2_with fail;go_roundw
      case rel=>exact ⟨k+1,by omega,by go_num,qa6 he _,HQ.out HO.out HE.out⟩
      case measure=>simp [intOf];omega
   ·obtain rfl:k=ps.length:=by omega
    have ha:=zI (decide_eq_true (show ps=qs by have h:=HO.out;rw [Zg,HL.out,Zg] at h;exact h));go_wp2_with fail;go_ret;exact ⟨qaI (by rw [ha.out]),he⟩
 ·have hg:((ps.length:Int) != (qs.length:Int))=true:=by simp;omega
  have ha:=zI (decide_eq_false (show ps≠qs from λh=>hf (by rw [h])));clear hf;go_in;go_wp2_with fail;go_ret;exact ⟨qaI (by rw [ha.out]),Ze1 _ _⟩
theorem qgy (A:Option Addr) (c:Nat) (ps:List (Int × Int)) (B:Option Addr) (d:Nat) (qs:List (Int × Int)) (w:Zp1) (hl:ps.length<=9223372036854775807) (hI:bE w A ps) (hJ:bE w B qs):
  Calls prog 19 #[sQ A ps.length c,sQ B qs.length d] w λe w'=>e=.returned (.bool (decide (ps=qs)))/\Below w.heap.size w w':=by
 obtain ⟨HI,HJ⟩:=zd2 hI hJ;clear hI hJ;go_in;go_wp2_with fail;refine (qcm A c ps B d qs _ hl HI.out HJ.out).mono ?_;rintro e w1 ⟨rfl,h1⟩;go_wp2_with fail;go_ret;exact ⟨rfl,h1⟩
namespace Ck
theorem rW {n:aA} {ps:List (Int × Int)} {cap:Int} (h:(run n ps cap).2=0):0<=cap:=by
 unfold run at h
 split at h
 ·rename_i h0;exact absurd h h0
 rename_i h0;have h0:Nt.check n=0:=by simpa using h0
 split at h
 ·rename_i h1;exact absurd h h1
 split at h
 ·rename_i h2;exact absurd h h2
 rename_i h2
 split at h
 ·simp at h
 rename_i h3
 match ps with
 | []=>simp [go,whole,start] at h3
 | i::r=>
  have h2:(go (base n cap) (start (n.o.length+1)) (i::r)).2=0:=by simpa using h2
  simp only [go] at h2
  split at h2
  ·rename_i hd
   unfold do_ at hd
   split at hd
   ·simp at hd
   ·split at hd
    ·simp at hd
    ·split at hd
     ·simp at hd
     ·rename_i hc
      have hm:=qfJ (c:=base n cap) (λz hz=>by have:=(Nt.iD h0 z hz).1;omega) (start (n.o.length+1)) i.1 i.2;have:(start (n.o.length+1)).now=0:=rfl;have:(base n cap).cap=cap:=rfl;omega
  ·rename_i hd;exact absurd h2 hd
end Ck
namespace Gr
theorem nA {n:aA} {p cap:Int} (h:(aF n p cap).2=0):Nt.check n=0/\(aF n p cap).1.pl=p/\(aY n p cap).2=0/\(aF n p cap).1.code=(aY n p cap).1/\0<=cap/\
  (aF n p cap).1.pk<=cap/\Ck.run n (aF n p cap).1.code cap=(((aF n p cap).1.pk,(aF n p cap).1.co,(aF n p cap).1.ag,(aF n p cap).1.hi),0):=by
 unfold aF at h
 split at h
 ·rename_i h0;exact absurd h h0
 rename_i h0
 split at h
 ·rename_i h1;exact absurd h h1
 rename_i h1
 split at h
 ·simp at h
 rename_i h2
 have e:aF n p cap=(⟨p,(aY n p cap).1,(Ck.run n (aY n p cap).1 cap).1.1,(Ck.run n (aY n p cap).1 cap).1.2.1,(Ck.run n (aY n p cap).1 cap).1.2.2.1,(Ck.run n (aY n p cap).1 cap).1.2.2.2⟩,0):=by
  unfold aF;rw [inZ h0,inZ h1,inZ h2]
 have h2:(Ck.run n (aY n p cap).1 cap).2=0:=by simpa using h2
 have hc:=Ck.rW h2;rw [e];refine ⟨by simpa using h0,rfl,by simpa using h1,rfl,hc,(Ck.oC hc h2).1,?_⟩
 show Ck.run n (aY n p cap).1 cap=_
 rw [←h2]
theorem qfQ (n:aA) (cap:Int):∀k:Nat,((∀i:Nat,i<k->(aF n ((i:Int)+1) cap).2≠0)/\bB n cap k=fE)∨
  ∃j:Nat,j<k/\aF n ((j:Int)+1) cap=(bB n cap k,0)/\∀i:Nat,i<k->(aF n ((i:Int)+1) cap).2=0->(bB n cap k).co<=(aF n ((i:Int)+1) cap).1.co/\(i<j->(bB n cap k).co<(aF n ((i:Int)+1) cap).1.co)
 | 0=>.inl ⟨λi h=>absurd h oZ,rfl⟩
 | k+1=>by
  have ih:=qfQ n cap k;have ha:bB n cap (k+1)=better n cap (bB n cap k) ((k:Int)+1):=rfl;unfold better at ha
  by_cases hm:(aF n ((k:Int)+1) cap).2=0
  ·rw [inZ (by simp [hm])] at ha
   have he:=(nA hm).2.1;have hb:aF n ((k:Int)+1) cap=((aF n ((k:Int)+1) cap).1,0):=by rw [←hm]
   rcases ih with ⟨i1,i2⟩|⟨j,hj,i1,i2⟩
   ·rw [i2] at ha
    rw [ipZ (.inl rfl)] at ha;refine .inr ⟨k,by omega,by rw [ha];exact hb,λi hi h0=>?_⟩;rcases Nat.lt_or_ge i k with h|h
    ·exact absurd h0 (i1 i h)
    ·obtain rfl:i=k:=by omega
     rw [ha];exact ⟨Int.le_refl _,λh=>absurd h oZ⟩
   ·have hd:(bB n cap k).pl≠0:=by
     have h1:=(nA (n:=n) (p:=(j:Int)+1) (cap:=cap) (by rw [i1])).2.1;rw [i1] at h1;simp only at h1;omega
    by_cases hc:(aF n ((k:Int)+1) cap).1.co<(bB n cap k).co
    ·rw [ipZ (.inr hc)] at ha
     refine .inr ⟨k,by omega,by rw [ha];exact hb,λi hi h0=>?_⟩;rw [ha];rcases Nat.lt_or_ge i k with h|h
     ·have:=(i2 i h h0).1
      exact ⟨by omega,λ_=>by omega⟩
     ·obtain rfl:i=k:=by omega
      exact ⟨Int.le_refl _,λh=>absurd h oZ⟩
    ·rw [inZ (by simp [hd,hc])] at ha
     refine .inr ⟨j,by omega,by rw [ha];exact i1,λi hi h0=>?_⟩;rw [ha];rcases Nat.lt_or_ge i k with h|h
     ·exact i2 i h h0
     ·obtain rfl:i=k:=by omega
      exact ⟨by omega,λh=>absurd h oZ⟩
  ·rw [ipZ (by simpa using hm)] at ha
   rcases ih with ⟨i1,i2⟩|⟨j,hj,i1,i2⟩
   ·refine .inl ⟨λi hi=>?_,by rw [ha];exact i2⟩
    rcases Nat.lt_or_ge i k with h|h
    ·exact i1 i h
    ·obtain rfl:i=k:=by omega
     exact hm
   ·refine .inr ⟨j,by omega,by rw [ha];exact i1,λi hi h0=>?_⟩
    rw [ha];rcases Nat.lt_or_ge i k with h|h
    ·exact i2 i h h0
    ·obtain rfl:i=k:=by omega
     exact absurd h0 hm
theorem iW {n:aA} (h:Nt.check n=0) (cap:Int):
  ((∀i:Nat,i<4->(aF n ((i:Int)+1) cap).2≠0)/\bK n cap=(fE,26))∨
  (bK n cap).2=0/\∃j:Nat,j<4/\aF n ((j:Int)+1) cap=((bK n cap).1,0)/\(bK n cap).1.pl=(j:Int)+1/\(bK n cap).1.pk<=cap/\
   Ck.run n (bK n cap).1.code cap=(((bK n cap).1.pk,(bK n cap).1.co,(bK n cap).1.ag,(bK n cap).1.hi),0)/\
   ∀i:Nat,i<4->(aF n ((i:Int)+1) cap).2=0->¬(aF n ((i:Int)+1) cap).1.co<(bK n cap).1.co/\((aF n ((i:Int)+1) cap).1.co=(bK n cap).1.co->¬(i:Int)+1<(bK n cap).1.pl)/\((i:Int)+1=(bK n cap).1.pl->(bK n cap).1.code=(aF n ((i:Int)+1) cap).1.code):=by
 have hb:bK n cap=if (bB n cap 4).pl=0 then (fE,26) else (bB n cap 4,0):=by unfold bK;rw [inZ (by simp [h])]
 rcases qfQ n cap 4 with ⟨i1,i2⟩|⟨j,hj,i1,i2⟩
 ·rw [i2] at hb
  exact .inl ⟨i1,hb.trans (ipZ rfl)⟩
 ·obtain ⟨-,h1,-,-,-,h5,h6⟩:=nA (n:=n) (p:=(j:Int)+1) (cap:=cap) (by rw [i1])
  rw [i1] at h1 h5 h6;simp only at h1 h5 h6;rw [inZ oZ] at hb;rw [hb];refine .inr ⟨rfl,j,hj,i1,h1,h5,h6,λi hi h0=>?_⟩;obtain ⟨a1,a2⟩:=i2 i hi h0;refine ⟨by simp only;omega,λhe ha=>?_,λhe=>?_⟩
  ·simp only at he ha
   have:=a2 oZ;omega
  ·simp only at he ⊢
   obtain rfl:i=j:=by omega
   rw [i1]
end Gr
namespace Ch
theorem qhV {n m:Nat} (h:m<n) (x:Int):(Zc n x).getD m 0=x:=by simp [h]
theorem qbn (c:C) (l r m:Nat) (h:m<len c l):(one c l r (len c l)).getD m 0=if single c l r<=(m:Int) then own c r else inf:=by
 unfold one;rw [nU _ _ _ _ _ (by simpa using h),qhV h]
 by_cases e:single c l r<=(m:Int)
 ·rw [ipZ ⟨e,h⟩,ipZ e]
 ·rw [inZ (λq=>e q.1),inZ e]
theorem qaN (c:C) (R:Nat->Nat->List Int) (l r m:Nat) (h:m<len c l):(fold c R l r 0).2.2.getD m 0=inf:=qhV h _
def nd (c:C) (l r:Nat):Nat->Int
 | 0=>0
 | j+1=>max (nd c l r j) (step c l r (l+1+j))
theorem qd2 (c:C) (R:Nat->Nat->List Int) (l r:Nat):∀j,(fold c R l r j).1=nd c l r j
 | 0=>rfl
 | j+1=>by
  rw [show (fold c R l r (j+1)).1=max (fold c R l r j).1 (step c l r (l+1+j)) from rfl,qd2 c R l r j]
  rfl
def cs (c:C) (l:Nat):Nat->Int
 | 0=>0
 | j+1=>cs c l j+c.cost.getD (l+j) 0
theorem qdK (c:C) (R:Nat->Nat->List Int) (l r:Nat):∀j,(fold c R l r j).2.1=cs c l j
 | 0=>rfl
 | j+1=>by
  rw [show (fold c R l r (j+1)).2.1=(fold c R l r j).2.1+c.cost.getD (l+j) 0 from rfl,qdK c R l r j]
  rfl
theorem uD {c:C} (h:Ok c) {l r:Nat} (hr:r<=c.n) {j:Nat} (hj:l+1+j<r):W c (l+1+j)<=nd c l r (j+1):=by
 have:=kH h (Rw c) (l:=l) hr j hj
 rwa [qd2] at this
theorem qbe {c:C} {l k m:Nat} (hk:1<=k) (h0:0<=kept c l) (hm:m<len c l) (hw:W c k<=(m:Int)):((m:Int)-W c k).toNat<len c k:=by
 have ha:(m:Int)<(len c l:Nat):=by omega
 unfold len at ha ⊢;rw [show kept c k=W c k from inZ oZ];omega
theorem qbY (c:C) (l r m:Nat) (hm:m<len c l) (j:Nat):
  (fold c (Rw c) l r (j+1)).2.2.getD m 0=if nd c l r (j+1)<=(m:Int) then min ((fold c (Rw c) l r j).2.2.getD m 0) (cs c l (j+1)+(Rw c (l+1+j) r).getD ((m:Int)-W c (l+1+j)).toNat 0+(Rw c l (l+1+j)).getD m 0) else (fold c (Rw c) l r j).2.2.getD m 0:=by
 rw [qbz c (Rw c) l r m hm j,qd2,qdK]
 rfl
theorem qhW {c:C} (h:Ok c) (cap:Int):∀(f l r m:Nat),l<r->r<=c.n->r-l<=f->m<len c l->m<len { c with cap:=cap } l->(Rw c l r).getD m 0=(Rw { c with cap:=cap } l r).getD m 0
 | 0,l,r,_,h1,_,h3,_,_=>absurd h3 oZ
 | f+1,l,r,m,h1,h2,h3,h4,h5=>by
  by_cases e:r=l+1
  ·subst e
   rw [jY,jY,qbn _ _ _ _ h4,qbn _ _ _ _ h5]
   rfl
  ·rw [fJ c l r oZ,fJ _ l r oZ]
   have ha:∀j,nd { c with cap:=cap } l r j=nd c l r j:=λj=>by
    induction j with
    | zero=>rfl
    | succ j ih=>unfold nd;rw [ih];rfl
   have hb:∀j,cs { c with cap:=cap } l j=cs c l j:=λj=>by
    induction j with
    | zero=>rfl
    | succ j ih=>unfold cs;rw [ih]
   have hk:=dO h (l:=l) oZ
   have key:∀j,l+1+j<=r->(fold c (Rw c) l r j).2.2.getD m 0=(fold { c with cap:=cap } (Rw { c with cap:=cap }) l r j).2.2.getD m 0:=λj=>by
    induction j with
    | zero=>intro _;rw [qaN _ _ _ _ _ h4,qaN _ _ _ _ _ h5]
    | succ j ih=>
     intro hj;rw [qbY c l r m h4,qbY _ l r m h5,ha,hb,ih oZ];have hW:W { c with cap:=cap } (l+1+j)=W c (l+1+j):=rfl;rw [hW]
     by_cases hx:nd c l r (j+1)<=(m:Int)
     ·have hw:=uD h (l:=l) h2 (j:=j) oZ
      have e1:=qhW h cap f (l+1+j) r ((m:Int)-W c (l+1+j)).toNat oZ h2 oZ (qbe oZ hk.1 h4 oZ) (qbe (c:={ c with cap:=cap }) oZ hk.1 h5 (by rw [hW];omega));have e2:=qhW h cap f l (l+1+j) m oZ oZ oZ h4 h5;rw [ipZ hx,ipZ hx,e1,e2]
     ·rw [inZ hx,inZ hx]
   exact key _ oZ
theorem qfk {c:C} (h:Ok c):∀(f l r m m':Nat),l<r->r<=c.n->r-l<=f->m<=m'->m'<len c l->(Rw c l r).getD m' 0<=(Rw c l r).getD m 0
 | 0,l,r,_,_,h1,_,h3,_,_=>absurd h3 oZ
 | f+1,l,r,m,m',h1,h2,h3,h4,h5=>by
  have h6:m<len c l:=by omega
  by_cases e:r=l+1
  ·subst e
   have ho:=tF h (l+1);rw [jY,qbn _ _ _ _ h5,qbn _ _ _ _ h6]
   split<;>split<;>omega
  ·rw [fJ c l r oZ]
   have hk:=dO h (l:=l) oZ
   have key:∀j,l+1+j<=r->(fold c (Rw c) l r j).2.2.getD m' 0<=(fold c (Rw c) l r j).2.2.getD m 0:=λj=>by
    induction j with
    | zero=>intro _;rw [qaN _ _ _ _ _ h5,qaN _ _ _ _ _ h6];omega
    | succ j ih=>
     intro hj;have ih:=ih oZ;rw [qbY c l r m h6,qbY c l r m' h5]
     by_cases hx:nd c l r (j+1)<=(m:Int)
     ·have hw:=uD h (l:=l) h2 (j:=j) oZ
      have e1:=qfk h f (l+1+j) r ((m:Int)-W c (l+1+j)).toNat ((m':Int)-W c (l+1+j)).toNat oZ h2 oZ oZ (qbe oZ hk.1 h5 oZ);have e2:=qfk h f l (l+1+j) m m' oZ oZ oZ h4 h5;rw [ipZ hx,ipZ oZ];omega
     ·rw [inZ hx]
      split<;>omega
   exact key _ oZ
theorem qeF {c:C} (h:Ok c) {B:Int} (hB:∀k,c.cost.getD k 0<=B) (hB0:0<=B):∀(f l r m:Nat),l<r->r<=c.n->r-l<=f->m<len c l->(Rw c l r).getD m 0<inf->(Rw c l r).getD m 0<=((r-l:Nat):Int)*((r-l:Nat):Int)*B
 | 0,l,r,_,h1,_,h3,_,_=>absurd h3 oZ
 | f+1,l,r,m,h1,h2,h3,h4,h5=>by
  by_cases e:r=l+1
  ·subst e
   rw [jY,qbn _ _ _ _ h4] at h5 ⊢;have hb:=hB (l+1-1);rw [show l+1-l=1 by omega]
   split at h5
   ·rename_i hs
    rw [ipZ hs];unfold own
    split<;>simp only [Int.natCast_one,Int.one_mul]<;>omega
   ·omega
  ·rw [fJ c l r oZ] at h5 ⊢
   have hk:=dO h (l:=l) oZ
   have hc:∀j,cs c l j<=(j:Int)*B:=λj=>by
    induction j with
    | zero=>simp [cs]
    | succ j ih=>
     unfold cs;have:=hB (l+j);rw [Int.natCast_succ,Int.add_mul,Int.one_mul];omega
   have key:∀j,l+1+j<=r->(fold c (Rw c) l r j).2.2.getD m 0<inf->(fold c (Rw c) l r j).2.2.getD m 0<=((r-l:Nat):Int)*((r-l:Nat):Int)*B:=λj=>by
    induction j with
    | zero=>intro _ hf;rw [qaN _ _ _ _ _ h4] at hf;omega
    | succ j ih=>
     intro hj hf;rw [qbY c l r m h4] at hf ⊢
     by_cases hx:nd c l r (j+1)<=(m:Int)
     ·rw [ipZ hx] at hf ⊢
      by_cases hy:(fold c (Rw c) l r j).2.2.getD m 0<inf
      ·have:=ih oZ hy
       omega
      ·have hw:=uD h (l:=l) h2 (j:=j) oZ
       have a1:=dF (eX h (l:=l+1+j) (r:=r) h2) ((m:Int)-W c (l+1+j)).toNat;have a2:=dF (eX h (l:=l) (r:=l+1+j) oZ) m
       have a3:0<=cs c l (j+1):=by
        have:=(fQ h (Rw c) (l:=l) h2 (j+1) oZ).2.2.1
        rwa [qdK] at this
       have b1:=qeF h hB hB0 f (l+1+j) r ((m:Int)-W c (l+1+j)).toNat oZ h2 oZ (qbe oZ hk.1 h4 oZ) oZ;have b2:=qeF h hB hB0 f l (l+1+j) m oZ oZ oZ h4 oZ;have b3:=hc (j+1);obtain ⟨a,ha⟩:∃a:Nat,r-(l+1+j)=a+1:=⟨r-(l+1+j)-1,by omega⟩
       have hs:((r-l:Nat):Int)=((j+1:Nat):Int)+((a+1:Nat):Int):=by omega
       have hl:l+1+j-l=j+1:=by omega
       rw [ha] at b1;rw [hl] at b2;rw [hs];clear hs hl ha
       have e1:(((j+1:Nat):Int)+((a+1:Nat):Int))*(((j+1:Nat):Int)+((a+1:Nat):Int))*B=
        ((j+1:Nat):Int)*B+((a+1:Nat):Int)*((a+1:Nat):Int)*B+((j+1:Nat):Int)*((j+1:Nat):Int)*B+(((j+1:Nat):Int)*(2*((a+1:Nat):Int)-1))*B:=by
        generalize ((j+1:Nat):Int)=x;generalize ((a+1:Nat):Int)=y;rw [←Int.add_mul,←Int.add_mul,←Int.add_mul]
        congr 1
        rw [Int.add_mul,Int.mul_add,Int.mul_add,Int.mul_sub,Int.mul_one,Int.mul_comm y x,show x*(2*y)=2*(x*y) from Int.mul_left_comm _ _ _];omega
       have e2:0<=(((j+1:Nat):Int)*(2*((a+1:Nat):Int)-1))*B:=Int.mul_nonneg (Int.mul_nonneg oZ oZ) hB0;omega
     ·rw [inZ hx] at hf ⊢
      exact ih oZ hf
   exact key _ oZ h5
def dJ (c:C) (N:Nat->Nat->Int) (l r:Nat):Nat->Int
 | 0=>inf
 | j+1=>min (dJ c N l r j) (max (nd c l r (j+1)) (max (W c (l+1+j)+N (l+1+j) r) (N l (l+1+j))))
def qbo (c:C):Nat->Nat->Nat->Int
 | 0,_,_=>0
 | f+1,l,r=>if r=l+1 then single c l r else dJ c (qbo c f) l r (r-l-1)
theorem qbp (c:C) {N M:Nat->Nat->Int} (l r:Nat):∀j,(∀i,i<j->N (l+1+i) r=M (l+1+i) r/\N l (l+1+i)=M l (l+1+i))->dJ c N l r j=dJ c M l r j
 | 0,_=>rfl
 | j+1,h=>by
  have ih:=qbp c l r j λi hi=>h i oZ
  obtain ⟨h1,h2⟩:=h j oZ;unfold dJ;rw [ih,h1,h2]
theorem qbf (c:C):∀(f g l r:Nat),l<r->r-l<=f->r-l<=g->qbo c f l r=qbo c g l r
 | 0,_,_,_,h,h1,_=>absurd h1 oZ
 | _+1,0,_,_,h,_,h2=>absurd h2 oZ
 | f+1,g+1,l,r,h,h1,h2=>by
  unfold qbo
  by_cases e:r=l+1
  ·rw [ipZ e,ipZ e]
  ·rw [inZ e,inZ e,qbp c l r (r-l-1) λi hi=>⟨qbf c f g _ _ oZ oZ oZ,qbf c f g _ _ oZ oZ oZ⟩]
def need (c:C) (l r:Nat):Int:=qbo c (r-l) l r
theorem jR (c:C) (l:Nat):need c l (l+1)=single c l (l+1):=by
 unfold need;rw [show l+1-l=0+1 by omega];unfold qbo;rw [ipZ rfl]
theorem kF (c:C) (l r:Nat) (h:l+1<r):need c l r=dJ c (need c) l r (r-l-1):=by
 have h1:qbo c (r-l-1+1) l r=dJ c (qbo c (r-l-1)) l r (r-l-1):=by rw [qbo,inZ oZ]
 have h2:=qbp c (N:=qbo c (r-l-1)) (M:=need c) l r (r-l-1) λi hi=>⟨qbf c (r-l-1) (r-(l+1+i)) _ _ oZ oZ oZ,qbf c (r-l-1) (l+1+i-l) _ _ oZ oZ oZ⟩
 rw [h2,show r-l-1+1=r-l by omega] at h1;exact h1
theorem qfl {c:C} (h:Ok c):∀(f l r m:Nat),l<r->r<=c.n->r-l<=f->m<len c l->((Rw c l r).getD m 0<inf↔need c l r<=(m:Int))
 | 0,l,r,_,h1,_,h3,_=>absurd h3 oZ
 | f+1,l,r,m,h1,h2,h3,h4=>by
  by_cases e:r=l+1
  ·subst e
   have hi:∀k,own c k<inf:=λk=>by
    have:=h.c0 (k-1);unfold own inf
    split<;>omega
   have:=hi (l+1);rw [jY,qbn _ _ _ _ h4,jR]
   split<;>omega
  ·rw [fJ c l r oZ,kF c l r oZ]
   have hk:=dO h (l:=l) oZ;have hb:=h.n64
   have ha:∀j:Nat,j<=64->0<=cs c l j/\cs c l j<=(j:Int)*1099511627776:=λj=>by
    induction j with
    | zero=>simp [cs]
    | succ j ih=>
     intro hj;unfold cs;have:=h.c0 (l+j);have:=ih oZ;omega
   have key:∀j,l+1+j<=r->((fold c (Rw c) l r j).2.2.getD m 0<inf↔dJ c (need c) l r j<=(m:Int)):=λj=>by
    induction j with
    | zero=>
     intro _;rw [qaN _ _ _ _ _ h4];have:=nG h (l:=l) oZ;unfold dJ inf;omega
    | succ j ih=>
     intro hj;have ih:=ih oZ;rw [qbY c l r m h4];unfold dJ
     by_cases hx:nd c l r (j+1)<=(m:Int)
     ·rw [ipZ hx]
      have hw:=uD h (l:=l) h2 (j:=j) oZ;have a1:=dF (eX h (l:=l+1+j) (r:=r) h2) ((m:Int)-W c (l+1+j)).toNat;have a2:=dF (eX h (l:=l) (r:=l+1+j) oZ) m;have a3:=ha (j+1) oZ;have b1:=qfl h f (l+1+j) r ((m:Int)-W c (l+1+j)).toNat oZ h2 oZ (qbe oZ hk.1 h4 oZ);have b2:=qfl h f l (l+1+j) m oZ oZ oZ h4;have c1:=qeF h (B:=1099511627776) (λk=>(h.c0 k).2) oZ f (l+1+j) r ((m:Int)-W c (l+1+j)).toNat oZ h2 oZ (qbe oZ hk.1 h4 oZ);have c2:=qeF h (B:=1099511627776) (λk=>(h.c0 k).2) oZ f l (l+1+j) m oZ oZ oZ h4
      have d1:∀q:Nat,q<=64->(q:Int)*(q:Int)*1099511627776<=4503599627370496:=λq hq=>by
       have:q*q<=64*64:=Nat.mul_le_mul hq hq;rw [←Int.natCast_mul];omega
      have d2:=d1 (r-(l+1+j)) oZ;have d3:=d1 (l+1+j-l) oZ;have d4:inf=1152921504606846976:=rfl;omega
     ·rw [inZ hx]
      omega
   exact key _ oZ
theorem qhX {c:C} (h:Ok c):∀(f l r:Nat),l<r->r<=c.n->r-l<=f->need c l r<=kept c l+(most c.words r-most c.words l)
 | 0,l,r,h1,_,h3=>absurd h3 oZ
 | f+1,l,r,h1,h2,h3=>by
  have hf:most c.words (l+1)=most c.words l+2*W c (l+1):=rfl;have he:=h.w0 (l+1) oZ;have hk:=dO h (l:=l) oZ
  by_cases e:r=l+1
  ·subst e
   rw [jR];unfold single;omega
  ·rw [kF c l r oZ]
   have hb:∀j,1<=j->dJ c (need c) l r j<=dJ c (need c) l r 1:=λj=>by
    induction j with
    | zero=>intro h;omega
    | succ j ih=>
     intro _
     by_cases hj:j=0
     ·subst hj;exact Int.le_refl _
     ·have:=ih oZ
      rw [show dJ c (need c) l r (j+1)=min (dJ c (need c) l r j) (max (nd c l r (j+1)) (max (W c (l+1+j)+need c (l+1+j) r) (need c l (l+1+j)))) from rfl];omega
   have h5:=hb (r-l-1) oZ;have h6:dJ c (need c) l r 1=min inf (max (max 0 (step c l r (l+1))) (max (W c (l+1)+need c (l+1) r) (need c l (l+1)))):=rfl;have h7:=qhX h f (l+1) r oZ h2 oZ;rw [jR] at h6;rw [show kept c (l+1)=W c (l+1) from inZ oZ] at h7
   have h8:∀j i,i<=j->j<=c.n->most c.words i<=most c.words j:=λj=>by
    induction j with
    | zero=>intro i hi _;rw [show i=0 by omega];exact Int.le_refl _
    | succ j ih=>
     intro i hi hj
     by_cases ha:i=j+1
     ·rw [ha];exact Int.le_refl _
     ·have:=ih i oZ oZ
      have:=h.w0 (j+1) oZ;rw [show most c.words (j+1)=most c.words j+2*W c (j+1) from rfl];omega
   have h9:step c l r (l+1)<=W c (l+1)+W c r:=by
    have:=h.w0 r h2;unfold step;rw [ipZ oZ]
    split<;>omega
   have hg:=h8 (r-1) (l+1) oZ oZ
   have hd:most c.words r=most c.words (r-1)+2*W c r:=by
    obtain ⟨q,rfl⟩:∃q,r=q+1:=⟨r-1,by omega⟩
    rfl
   have hh:=h.w0 r h2;have hc:single c l (l+1)=W c (l+1)+kept c l:=rfl;omega
theorem best_eq {c:C} (h:Ok c) {l r m:Nat} (hr:r<=c.n) (hlr:l+1<r) (hm:m<len c l) (hf:(Rw c l r).getD m 0<inf):
  ∃i,i<r-l-1/\best c l r m=l+1+i/\nd c l r (i+1)<=(m:Int)/\cs c l (i+1)+(Rw c (l+1+i) r).getD ((m:Int)-W c (l+1+i)).toNat 0+(Rw c l (l+1+i)).getD m 0=(Rw c l r).getD m 0:=by
 have he:=fJ c l r hlr;obtain ⟨i,hi,h1,h2,h3⟩:=qf2 c l r m hm ((Rw c l r).getD m 0) (r-l-1) 0 oZ (by rw [he]) (by rw [qaN _ _ _ _ _ hm];exact hf);rw [qd2] at h2;rw [qdK] at h3;exact ⟨i,hi,h1,h2,h3⟩
end Ch
end Go.Proofs.YtddkenhemnkkeaaGreat
