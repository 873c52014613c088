/- Lemmas for the statements of this seat: contracts of functions and the plain laws. -/
import Derived.BigQuiet
import Derived.ChangeSame
import Derived.Deep.DeepCutAuto
import Derived.Deep.Fields
import Derived.Deep.RegionHeld3
import Derived.Deep.RegionLaw
import Derived.Deep.Slices
import Derived.Maps.AppendAt
import Derived.OpenShut
import Derived.ProofKit
import Derived.Sort.OwnSortedInts
import Derived.Test.YtddkenhemnkkeaaGreatK05
set_option linter.unusedVariables false
open Go.IntKind renaming i64 → iQ
open Go.Value renaming int → nQ, slice → sQ
open List renaming take_succ_eq_append_getElem → Zb, replicate → Zc, drop_eq_getElem_cons → Zd, length_append → Ze, all_eq_true → Zf, take_length → Zg, mem_of_mem_take → Zh, getElem?_eq_none → Zi, flatMap_append → Zj, getElem?_toArray → Zk, getElem?_append_right → Zl, getElem?_append_left → Zm, take_append_drop → Zn, length_take → Zo, mem_of_mem_drop → Zp, length_drop → Zq, getElem?_set_self → Zr, getElem?_set_ne → Zs
open Nat renaming zero_le → Zt, succ_mul → Zu, le_trans → Zv, zero_add → Zw, add_zero → Zx, le_succ → Zy
open Bool renaming and_eq_true → Zz
open Go.Value renaming int → Za1, slice → Zb1
open Go.IntWalk renaming i64_in → Zc1
open Go.NoPanic renaming normal → Zd1
open Go.RowKit.Below renaming refl → Ze1
open Go.AllReadyH renaming cons → Zf1, nil → Zg1
open Go.World renaming size_alloc → Zh1, cell?_of_block → Zi1, block_lt_of_cell? → Zj1
open Go renaming bodyPost_ret → Zk1, wp_region_held_drew → Zl1, wp_region_noPanic → Zm1, wpAnyH_done → Zn1, wpAnyH_ready → Zo1, World → Zp1
open Go.Proofs.Tryz
namespace Go.Proofs.YtddkenhemnkkeaaGreat
set_option maxHeartbeats 16000000
set_option maxRecDepth 20000
open Go.RowKit
def CloneQ (zs:List Int) (w:Zp1) (e:Ending) (w':Zp1):Prop:=
 ∃J jc,e=.returned (sQ J zs.length jc)/\w'.ownsRow w.heap.size 3 1 (sQ J zs.length jc) zs.length (zs.map (Za1 iQ))/\Below w.heap.size w w'
theorem qhR (A:Option Addr) (c:Nat) (zs:List Int) (w:Zp1) (hl:zs.length<=1048576) (hI:Ints iQ w A zs):
  Calls prog 87 #[sQ A zs.length c] w (CloneQ zs w):=by
 by_cases h:zs=[]
 ·subst h
  rcases A with _|a
  ·refine (Tryz.slices_Clone_int_nil 0 c w).mono ?_
   rintro e w' ⟨rfl,rfl⟩;exact ⟨none,0,rfl,World.ownsRow_nil _ _ _ _,Ze1 _ _⟩
  ·refine (Tryz.slices_Clone_int_zero a c w).mono ?_
   rintro e w' ⟨v,rfl,ho,-,hb⟩;obtain ⟨J,jc,rfl⟩:=qa6 ho;exact ⟨J,jc,rfl,ho,hb⟩
 ·obtain ⟨b,off,rfl,-,-⟩:=hI 0 (List.length_pos_iff.2 h)
  refine (Tryz.slices_Clone_int b off zs.length c zs w (lrZ _) oZ (λj hj=>?_)).mono ?_
  ·obtain ⟨b',o',e,-,hc⟩:=hI j hj
   injection e with e;injection e with e1 e2;subst e1 e2
   exact hc
  ·rintro e w' ⟨v,rfl,ho,-,hb⟩
   rw [Zg] at ho;obtain ⟨J,jc,rfl⟩:=qa6 ho;exact ⟨J,jc,rfl,ho,hb⟩
theorem qhS {w:Zp1} {g:Nat} {t:TypeId} (l:List Int) (h:Blk w g t (l.map (Za1 iQ)).toArray):Ints iQ w (some ⟨g,0,none⟩) l:=Ints.dV λj hj=>by
 rw [Zw,h.cell];simp [hj]
theorem Ck.oH {n:aA} (h:Nt.check n=0) (hok:n.ok) {cap:Int} (hc : -9223372036854775808<=cap/\cap<=9223372036854775807):(Ck.base n cap).Ok:=by
 obtain ⟨h1,h2,h3,h4,h5,h6,h7,h8⟩:=Nt.aL h;have hw:=Nt.bX h;obtain ⟨-,l1,l2⟩:=Nt.dD h7;have hd:(Nt.aD n).length=n.o.length+1:=by rw [Nt.aD,List.length_cons,Nt.bH]
 refine ⟨by show 1<=(Nt.words n).length;omega,by show (Nt.words n).length<=513;omega,by show (Nt.aD n).length=(Nt.words n).length;omega,?_,?_,?_,?_,?_,hc⟩
 ·show ([]::n.o.map (·.ins)).length=(Nt.words n).length
  rw [hw];simp
 ·intro r hr
  rcases List.mem_cons.1 hr with rfl|hr
  ·simp
  ·obtain ⟨v,hv,rfl⟩:=List.mem_map.1 hr
   obtain ⟨-,hb⟩:=Nt.fD h4 v hv;have ha:=(hok.2.2 v hv).2.2.1;exact ⟨ha,λi hi=>by have:=hb i hi;show 0<=i/\i<((Nt.words n).length:Int);omega⟩
 ·show (Nt.sO n.o).length<=512;omega
 ·show 0<=Nt.aH n.o/\Nt.aH n.o<((Nt.words n).length:Int);omega
 ·intro z hz;have:=Nt.iA h z hz;omega
def Ck.rk (n:aA) (k:Nat):List (List Int):=[]::((n.o.take k).map (·.ins)++Zc (n.o.length-k) [])
theorem Ck.rk_zero (n:aA):Ck.rk n 0=Zc (n.o.length+1) []:=by simp [Ck.rk,List.replicate_succ]
theorem Ck.tO (n:aA) {k:Nat} (h:k<=n.o.length):(Ck.rk n k).length=n.o.length+1:=by simp [Ck.rk];omega
theorem Ck.rX (n:aA) {k:Nat} (h:k<n.o.length):(Ck.rk n k).set (k+1) n.o[k].ins=Ck.rk n (k+1):=by
 unfold Ck.rk;rw [List.set_cons_succ,Zb h,List.map_append]
 congr 1
 have hr:Zc (n.o.length-k) ([]:List Int)=[]::Zc (n.o.length-(k+1)) []:=by
  rw [←List.replicate_succ];congr 1;omega
 rw [hr,List.set_append_right _ _ soZ];simp [Nat.min_eq_left (Nat.le_of_lt h)]
theorem Ck.rU (n:aA):Ck.rk n n.o.length=[]::n.o.map (·.ins):=by simp [Ck.rk]
def NewP (n:aA) (cap:Int) (W:Zp1) (e:Ending) (w':Zp1):Prop:=
 (Nt.check n≠0/\e=.returned (.tuple #[.pointer none,nQ iQ (Nt.check n)])∨Nt.check n=0/\∃a W0,CkA.Still a (Ck.base n cap) W0/\Later W W0/\e=.returned (.tuple #[.pointer (some ⟨a.p,0,none⟩),nQ iQ 0])/\CkM a (Ck.base n cap) W0 (Ck.start (n.o.length+1)) w')/\Later W w'
set_option maxRecDepth 100000 in
theorem qeE (A N:Option Addr) (c d:Nat) (n:aA) (cap:Int) (W:Zp1) (hok:n.ok) (hR:bC W A N n) (hd:n.o.length<=d) (hsm:n.o.length<=200) (hcap : -9223372036854775808<=cap/\cap<=9223372036854775807):
  Calls prog 46 #[.agg #[sQ A n.inn.length c,sQ N n.o.length d],nQ iQ cap] W (NewP n cap W):=by
 have gq:=Blk.new W 26 #[sQ A n.inn.length c,sQ N n.o.length d];have gE:Later W (W.alloc (.cells #[sQ A n.inn.length c,sQ N n.o.length d] 26)):=(Later.refl W).alloc _;obtain ⟨HR,h3,H7,HJ⟩:=zd4 hR hok gq gE;clear hR hok gq gE;go_in;go_wp2_with fail;generalize W.alloc (.cells #[sQ A n.inn.length c,sQ N n.o.length d] 26)=W1 at *;refine (qcw A N c d n W1 h3.out (HR.out.below HJ.out (lrZ _)) hd hsm).mono ?_;rintro e W2 ⟨h2,hh⟩;have hZ:Later W1 W2:=h2
 by_cases hX:Nt.check n=0
 rotate_left
 ·rcases hh with ⟨h0,_⟩|⟨_,rfl⟩
  ·exact absurd h0 hX
  have gV:(Nt.check n != 0)=true:=by simp [hX]
  have H0:=HJ.out.trans hZ;have Hd:=H0.alloc (.cells #[sQ none 0 0,sQ none 0 0,nQ iQ 0] 55);obtain ⟨hx,Hn⟩:=zd2 hX Hd;clear hX Hd;clear h2 hZ H0;go_wp2_with fail
  go_ret2
  exact ⟨.inl ⟨hx.out,rfl⟩,Hn.out⟩
 rcases hh with ⟨_,g,g2,rfl,hG,gr⟩|⟨h0,_⟩
 rotate_left
 ·exact absurd hX h0
 have gt:=Blk.new W2 55 #[sQ (some ⟨g,0,none⟩) (n.o.length+1) (n.o.length+1),sQ (some ⟨g2,0,none⟩) (n.o.length+1) (n.o.length+1),nQ iQ (Nt.total n)];have h6:Later W2 (W2.alloc (.cells #[sQ (some ⟨g,0,none⟩) (n.o.length+1) (n.o.length+1),sQ (some ⟨g2,0,none⟩) (n.o.length+1) (n.o.length+1),nQ iQ (Nt.total n)] 55)):=(Later.refl W2).alloc _;have HD:=(hZ.trans h6).blk H7.out;have Hd:=(HJ.out.trans hZ).trans h6;have gj:=h6.blk hG;have Hv:=h6.blk gr;have e0:=HD.cell 0;have e1:=HD.cell 1;simp at e0 e1;obtain ⟨H1,ge,Hn,gy,Hz,hx⟩:=zd6 gt HD Hd gj Hv hX;clear gt HD Hd gj Hv hX;clear h2 hZ h6 hG gr H7 HJ;go_wp2_with fail;generalize W2.alloc (.cells #[sQ (some ⟨g,0,none⟩) (n.o.length+1) (n.o.length+1),sQ (some ⟨g2,0,none⟩) (n.o.length+1) (n.o.length+1),nQ iQ (Nt.total n)] 55)=W3 at *;generalize W2.heap.size=pb at *;refine (qba A N c d n W3 h3.out (HR.out.below Hn.out (lrZ _)) hd).mono ?_;rintro e W4 ⟨h4,hh⟩;rcases hh with ⟨_,O,oc,rfl,hO,-,-⟩|⟨h0,_⟩
 rotate_left
 ·exact absurd hx.out h0
 have HG:Later W3 W4:=h4;have gv:=Hn.out.trans HG;have HE:=HG.blk ge.out;have gn:=hO;clear e0 e1;have e0:=HE.cell 0;have e1:=HE.cell 1;simp at e0 e1;obtain ⟨HO,gu,gi,gw⟩:=zd4 gv HE gn HG;clear gv HE gn HG;clear h4 hO ge Hn;go_wp2_with fail;refine (qfY A N c d n W4 h3.out (HR.out.below HO.out (lrZ _)) hd).mono ?_;rintro e W5 ⟨rfl,h5⟩;rw [hx.out,show qcJ n=Nt.aH n.o by unfold qcJ;rw [ipZ hx.out]];have He:Later W4 W5:=h5;have HH:=gw.out.trans He;have gb:=HO.out.trans He;have HS:=He.blk gu.out;have gx:=gi.out.below He (lrZ _);have Hp:=HH.blk H1.out;have HZ:=HH.blk gy.out;have Hy:=HH.blk Hz.out;clear e0 e1;have e1:=HS.cell 1;simp at e1;obtain ⟨gC,HY,gc,Hj,gh,h9⟩:=zd6 gb HS gx Hp HZ Hy;clear gb HS gx Hp HZ Hy;clear h5 He HH gu HO gi H1 gy Hz gw;obtain ⟨i0,hi,gF,gO,gK⟩:=info_parts qdk;obtain ⟨i1,hj,HN,HL,HP⟩:=info_parts qbE;have w1:iQ.wrap ((n.o.length:Int)+1)=((n.o.length+1:Nat):Int):=by rw [Zc1 _ oZ];omega
 have w2:iQ.wrap ((n.o.length+1:Nat):Int)=((n.o.length+1:Nat):Int):=Zc1 _ oZ;go_wp2_with (at_make;refine wpList_make_full _ rfl _ _ 32 rfl W5.heap.size 22 i0 (sQ none 0 0) 1 underlying32 hi gF gO _ _ _ _ (n.o.length+1) rfl rfl (by first|rfl|simp|(go_simp;rfl)) (by first|rfl|simp|(go_simp;rfl)) ?b2 ?b3 ?b4 ?_)
 case b2=>rw [gK];omega
 case b3=>unfold maxLen;omega
 case b4=>simp
 intro W6 hown hgrow;have hT:=qau hown;rw [qao] at hT;have hc:aX W6 W5.heap.size 22 (Ck.rk n 0):=by rw [Ck.rk_zero];exact aX.new (by simpa [Blk] using hT)
 have hW:Later W5 W6:=(Ze1 _ W5).grown hgrow sZ sZ;clear e1;have e1:=(hW.blk HY.out).cell 1;simp at e1;obtain ⟨hA,Hh⟩:=zd2 hc hW;clear hc hW;clear hT hown hgrow;go_wp2_with fail;obtain ⟨wb,hwb⟩:∃wb:Zp1,wb=W5:=⟨W5,rfl⟩
 go_loopw [11,12,46] (λ_ _ i wr=>∃k:Nat,k<=n.o.length/\i=nQ iQ (k:Int)/\aX wr W5.heap.size 22 (Ck.rk n k)/\Later W5 wr) (λ_ _ i _=>n.o.length-(intOf i).toNat)
 case atStart=>exact ⟨0,Zt _,rfl,hA.out,Hh.out⟩
 case round=>
  clear hA Hh e1;obtain ⟨wo,rfl⟩:∃wo:Zp1,wo=wr:=⟨wr,rfl⟩
  obtain ⟨k,hk,rfl,hc,hv⟩:=hrel;have Hc:=gC.out.trans hv;have gP:=Below.size hv
  by_cases HF:k<n.o.length
  ·obtain ⟨b,off,S,sc,J,ic,Q,qc,rfl,HW,-,gS,-⟩:=HR.out.2.at_ HF
   have Ht:=h3.out.2.2 _ (gmZ HF);have gL:=zI (Ck.rX n HF);have gU:=Ck.tO n hk;generalize n.o[k]=v at *;obtain ⟨y0,y1,y2,y3,y4,y5,y6,y7,y8,y9⟩:=(HW.below Hc).1;have hJ:=HW.2.2.1.below Hc (lrZ _);have gJ:=Ht.2.2.1;have HI:Later wo (wo.alloc (.cells #[nQ iQ v.op.kind,nQ iQ v.op.k,nQ iQ v.op.width,nQ iQ v.op.step,nQ iQ v.op.side,nQ iQ v.op.frm,nQ iQ v.op.to,sQ S v.op.s.length sc,sQ J v.ins.length ic,sQ Q v.p.length qc] 77)):=(Later.refl wo).alloc _;have go:=hJ.below HI (lrZ _);have hL:=hc.below HI (lrZ _);have H3:=hv.trans HI;have p1:iQ.wrap ((k:Int)+1)=((k+1:Nat):Int):=by rw [Zc1 _ oZ];omega
   have p2:((k+1:Nat):Int)<((n.o.length+1:Nat):Int):=by omega
   have p3:(0:Int)<=((k+1:Nat):Int):=by omega
   have p4:((k+1:Nat):Int).toNat=k+1:=by omega
   obtain ⟨H8,ho,HK⟩:=zd3 go hL H3;clear go hL H3;clear HW hJ hc HI Hc Ht;go_wp2_with fail;clear y0 y1 y2 y3 y4 y5 y6 y7 y8 y9;generalize wo.alloc (.cells #[nQ iQ v.op.kind,nQ iQ v.op.k,nQ iQ v.op.width,nQ iQ v.op.step,nQ iQ v.op.side,nQ iQ v.op.frm,nQ iQ v.op.to,sQ S v.op.s.length sc,sQ J v.ins.length ic,sQ Q v.p.length qc] 77)=w7 at *;refine (qhR J ic v.ins _ gJ H8.out).mono ?_;rintro e w8 ⟨J8,jc8,rfl,hp,HT⟩;have H5:=HK.out.trans (show Later w7 w8 from HT);have hg:=ho.out.below HT (lrZ _);obtain ⟨gg,q1,q2⟩:=qak hp;obtain ⟨S0,cc,gA,-⟩:=hg.at_ (j:=k+1) oZ;have gT:w8.frozen? ⟨W5.heap.size,k+1,none⟩=false:=by obtain ⟨vs,_,hk,_⟩:=hg;exact hk.frozen (k+1)
   have gQ:=Below.size HK.out;have gR:=ho.out.lt
   have hr:=hg.aO (i:=k+1) gg q1 q2 (λad e=>by
    have:=(hp.lt ad.block (by rw [e];rfl)).1;omega)
   rw [gL.out] at hr;have gm:=Later.set H5 (p:=⟨W5.heap.size,k+1,none⟩) (lrZ _) (sQ J8 v.ins.length jc8);obtain ⟨Hm,gM⟩:=zd2 hr gm;clear hr gm;clear hp HT H5 hg gg H8 ho HK hv;go_wp2_with fail;go_roundw
   case rel=>exact ⟨k+1,by omega,by go_num,Hm.out,gM.out⟩
   case measure=>simp [intOf];omega
  ·obtain rfl:k=n.o.length:=by omega
   rw [Ck.rU] at hc;have hV:=hv.blk Hj.out;have gp:=Blk.new wo 114 #[sQ (some ⟨g,0,none⟩) (n.o.length+1) (n.o.length+1),sQ (some ⟨g2,0,none⟩) (n.o.length+1) (n.o.length+1),sQ (some ⟨W5.heap.size,0,none⟩) (n.o.length+1) (n.o.length+1),sQ O n.o.length oc,nQ iQ (Nt.aH n.o),nQ iQ cap,sQ none 0 0,sQ none 0 0,sQ none 0 0,.bool false,.bool false,nQ iQ 0,nQ iQ 0,nQ iQ 0];have H9:Later wo (wo.alloc (.cells #[sQ (some ⟨g,0,none⟩) (n.o.length+1) (n.o.length+1),sQ (some ⟨g2,0,none⟩) (n.o.length+1) (n.o.length+1),sQ (some ⟨W5.heap.size,0,none⟩) (n.o.length+1) (n.o.length+1),sQ O n.o.length oc,nQ iQ (Nt.aH n.o),nQ iQ cap,sQ none 0 0,sQ none 0 0,sQ none 0 0,.bool false,.bool false,nQ iQ 0,nQ iQ 0,nQ iQ 0] 114)):=(Later.refl wo).alloc _;have gB:=hv.blk gh.out;have Hx:=hv.blk h9.out;have H6:=gc.out.below hv (lrZ _);have x0:=hV.cell 0;have x1:=hV.cell 1;simp at x0 x1;have HC:=Nt.bX hx.out;obtain ⟨hA,H4,gl,gH,HM,gN,gf⟩:=zd7 hc gp H9 gB Hx H6 Hc;clear hc gp H9 gB Hx H6 Hc;clear hv hV gC HY gc Hj gh h9 hk HF;go_wp2_with (at_make;refine wpList_make_full _ rfl _ _ 112 rfl wo.heap.size 4 i1 (.bool false) 1 underlying112 hj HN HL _ _ _ _ (n.o.length+1) rfl rfl (by first|rfl|simp|(go_simp;rfl)) (by first|rfl|simp|(go_simp;rfl)) ?c2 ?c3 ?c4 ?_)
   case c2=>rw [HP];omega
   case c3=>unfold maxLen;omega
   case c4=>simp
   intro w7 hC he;have ht:=qau hC;rw [qao] at ht;have gk:Blk w7 (wo.heap.size+1) 4 ((Zc (n.o.length+1) false).map Value.bool).toArray:=by rw [List.map_replicate];simpa [Blk] using ht
   have hu:=H4.out.grown he sZ;have Hu:Later wo w7:=Below.grown gl.out he sZ sZ;have y6:w7.cell? ⟨wo.heap.size,6,none⟩=some (sQ none 0 0):=hu.cell 6;have f6:=hu.frozen 6;have h8:Blk (w7.setCell ⟨wo.heap.size,6,none⟩ (sQ (some ⟨wo.heap.size+1,0,none⟩) (n.o.length+1) (n.o.length+1))) wo.heap.size 114 #[sQ (some ⟨g,0,none⟩) (n.o.length+1) (n.o.length+1),sQ (some ⟨g2,0,none⟩) (n.o.length+1) (n.o.length+1),sQ (some ⟨W5.heap.size,0,none⟩) (n.o.length+1) (n.o.length+1),sQ O n.o.length oc,nQ iQ (Nt.aH n.o),nQ iQ cap,sQ (some ⟨wo.heap.size+1,0,none⟩) (n.o.length+1) (n.o.length+1),sQ none 0 0,sQ none 0 0,.bool false,.bool false,nQ iQ 0,nQ iQ 0,nQ iQ 0]:=hu.aO 6 _;have gD:=gk.far (p:=⟨wo.heap.size,6,none⟩) sZ (sQ (some ⟨wo.heap.size+1,0,none⟩) (n.o.length+1) (n.o.length+1));have Hf:=Hu.set (p:=⟨wo.heap.size,6,none⟩) (lrZ _) (sQ (some ⟨wo.heap.size+1,0,none⟩) (n.o.length+1) (n.o.length+1));obtain ⟨hz,HQ,hU⟩:=zd3 h8 gD Hf;clear h8 gD Hf;clear hC he ht gk hu Hu H4 gl x0 x1;go_upto_region 18 with fail;generalize w7.setCell ⟨wo.heap.size,6,none⟩ (sQ (some ⟨wo.heap.size+1,0,none⟩) (n.o.length+1) (n.o.length+1))=w8 at *;clear y6 f6;have s8:=HQ.out.lt;have t8:=Below.size hU.out;have y7:w8.cell? ⟨wo.heap.size,7,none⟩=some (sQ none 0 0):=hz.out.cell 7;have f7:=hz.out.frozen 7;clear y7 f7;go_wp2_with (at_make;refine wpList_make_full _ rfl _ _ 112 rfl wo.heap.size 4 i1 (.bool false) 1 underlying112 hj HN HL _ _ _ _ (n.o.length+1) rfl rfl (by first|rfl|simp|(go_simp;rfl)) (by first|rfl|simp|(go_simp;rfl)) ?d2 ?d3 ?d4 ?_)
   case d2=>rw [HP];omega
   case d3=>unfold maxLen;omega
   case d4=>first|omega|simp
   intro w9 hF hb;have hs:=qau hF;rw [qao] at hs;have H2:Blk w9 w8.heap.size 4 ((Zc (n.o.length+1) false).map Value.bool).toArray:=by rw [List.map_replicate];simpa [Blk] using hs
   have hy:=hz.out.grown hb sZ;have gd:=HQ.out.grown hb sZ;have Hb:Later wo w9:=Below.grown hU.out hb oZ sZ;have y7:w9.cell? ⟨wo.heap.size,7,none⟩=some (sQ none 0 0):=hy.cell 7;have f7:=hy.frozen 7;have hB:Blk (w9.setCell ⟨wo.heap.size,7,none⟩ (sQ (some ⟨w8.heap.size,0,none⟩) (n.o.length+1) (n.o.length+1))) wo.heap.size 114 #[sQ (some ⟨g,0,none⟩) (n.o.length+1) (n.o.length+1),sQ (some ⟨g2,0,none⟩) (n.o.length+1) (n.o.length+1),sQ (some ⟨W5.heap.size,0,none⟩) (n.o.length+1) (n.o.length+1),sQ O n.o.length oc,nQ iQ (Nt.aH n.o),nQ iQ cap,sQ (some ⟨wo.heap.size+1,0,none⟩) (n.o.length+1) (n.o.length+1),sQ (some ⟨w8.heap.size,0,none⟩) (n.o.length+1) (n.o.length+1),sQ none 0 0,.bool false,.bool false,nQ iQ 0,nQ iQ 0,nQ iQ 0]:=hy.aO 7 _;have HA:=gd.far (p:=⟨wo.heap.size,7,none⟩) sZ (sQ (some ⟨w8.heap.size,0,none⟩) (n.o.length+1) (n.o.length+1));have Hw:=H2.far (p:=⟨wo.heap.size,7,none⟩) soZ (sQ (some ⟨w8.heap.size,0,none⟩) (n.o.length+1) (n.o.length+1));have hM:=Hb.set (p:=⟨wo.heap.size,7,none⟩) (lrZ _) (sQ (some ⟨w8.heap.size,0,none⟩) (n.o.length+1) (n.o.length+1));obtain ⟨hK,Hk,hY,hm⟩:=zd4 hB HA Hw hM;clear hB HA Hw hM;clear hF hb hs gd H2 hy Hb hz HQ hU;go_upto_region 19 with fail;generalize w9.setCell ⟨wo.heap.size,7,none⟩ (sQ (some ⟨w8.heap.size,0,none⟩) (n.o.length+1) (n.o.length+1))=w10 at *;clear y7 f7;have s10:=hY.out.lt;have t10:=Below.size hm.out;go_wp2_with (at_make;refine wpList_make_full _ rfl _ _ 112 rfl wo.heap.size 4 i1 (.bool false) 1 underlying112 hj HN HL _ _ _ _ (n.o.length+1) rfl rfl (by first|rfl|simp|(go_simp;rfl)) (by first|rfl|simp|(go_simp;rfl)) ?f2 ?f3 ?f4 ?_)
   case f2=>rw [HP];omega
   case f3=>unfold maxLen;omega
   case f4=>first|omega|simp
   intro w11 hn ha;have hf:=qau hn;rw [qao] at hf;have Ha:Blk w11 w10.heap.size 4 ((Zc (n.o.length+1) false).map Value.bool).toArray:=by rw [List.map_replicate];simpa [Blk] using hf
   have hl:=hK.out.grown ha sZ;have h1:=Hk.out.grown ha sZ;have Ho:=hY.out.grown ha sZ;have hD:Later wo w11:=Below.grown hm.out ha oZ sZ;have y8:w11.cell? ⟨wo.heap.size,8,none⟩=some (sQ none 0 0):=hl.cell 8;have f8:=hl.frozen 8;have hQ:Blk (w11.setCell ⟨wo.heap.size,8,none⟩ (sQ (some ⟨w10.heap.size,0,none⟩) (n.o.length+1) (n.o.length+1))) wo.heap.size 114 #[sQ (some ⟨g,0,none⟩) (n.o.length+1) (n.o.length+1),sQ (some ⟨g2,0,none⟩) (n.o.length+1) (n.o.length+1),sQ (some ⟨W5.heap.size,0,none⟩) (n.o.length+1) (n.o.length+1),sQ O n.o.length oc,nQ iQ (Nt.aH n.o),nQ iQ cap,sQ (some ⟨wo.heap.size+1,0,none⟩) (n.o.length+1) (n.o.length+1),sQ (some ⟨w8.heap.size,0,none⟩) (n.o.length+1) (n.o.length+1),sQ (some ⟨w10.heap.size,0,none⟩) (n.o.length+1) (n.o.length+1),.bool false,.bool false,nQ iQ 0,nQ iQ 0,nQ iQ 0]:=hl.aO 8 _;have HB:=h1.far (p:=⟨wo.heap.size,8,none⟩) sZ (sQ (some ⟨w10.heap.size,0,none⟩) (n.o.length+1) (n.o.length+1));have Hq:=Ho.far (p:=⟨wo.heap.size,8,none⟩) soZ (sQ (some ⟨w10.heap.size,0,none⟩) (n.o.length+1) (n.o.length+1));have Hi:=Ha.far (p:=⟨wo.heap.size,8,none⟩) soZ (sQ (some ⟨w10.heap.size,0,none⟩) (n.o.length+1) (n.o.length+1));have hI:=hD.set (p:=⟨wo.heap.size,8,none⟩) (lrZ _) (sQ (some ⟨w10.heap.size,0,none⟩) (n.o.length+1) (n.o.length+1));obtain ⟨hq,hw,h7,Hr,hN⟩:=zd5 hQ HB Hq Hi hI;clear hQ HB Hq Hi hI;clear hn ha hf h1 Ho Ha hl hD hK Hk hY hm;go_upto_region 20 with fail;generalize w11.setCell ⟨wo.heap.size,8,none⟩ (sQ (some ⟨w10.heap.size,0,none⟩) (n.o.length+1) (n.o.length+1))=w12 at *;clear y8 f8;have y6:w12.cell? ⟨wo.heap.size,6,none⟩=some (sQ (some ⟨wo.heap.size+1,0,none⟩) (n.o.length+1) (n.o.length+1)):=hq.out.cell 6
   have z0:w12.cell? ⟨wo.heap.size+1,0,none⟩=some (.bool false):=by rw [hw.out.cell];simp
   have f0:=hw.out.frozen 0;have hS:=hw.out.aO 0 (.bool true);rw [qaM] at hS;have hH:=hq.out.far (p:=⟨wo.heap.size+1,0,none⟩) sZ (.bool true);have Hs:=h7.out.far (p:=⟨wo.heap.size+1,0,none⟩) soZ (.bool true);have Hl:=Hr.out.far (p:=⟨wo.heap.size+1,0,none⟩) soZ (.bool true);have hP:=hN.out.set (p:=⟨wo.heap.size+1,0,none⟩) sZ (.bool true);have q0:(0:Int)<((n.o.length+1:Nat):Int):=by omega
   obtain ⟨HU,Hg,HV,HX,hE⟩:=zd5 hS hH Hs Hl hP;clear hS hH Hs Hl hP;clear hw hq h7 Hr hN;go_wp2_with fail
   go_ret2
   refine ⟨.inr ⟨hx.out,⟨some ⟨g,0,none⟩,some ⟨g2,0,none⟩,some ⟨W5.heap.size,0,none⟩,O,n.o.length+1,n.o.length+1,n.o.length+1,oc,wo.heap.size,wo.heap.size+1,w8.heap.size,w10.heap.size⟩,wo,?_,gf.out,rfl,?_⟩,gf.out.trans hE.out⟩
   ·exact ⟨Ck.oH hx.out h3.out hcap,qhS _ gH.out,qhS _ HM.out,hA.out.qG,gN.out,lrZ _,by simp,by simp;omega,by simp;omega,by show (Nt.words n).length<=n.o.length+1;omega⟩
   ·have gI:(Nt.aD n).length=n.o.length+1:=by rw [Nt.aD,List.length_cons,Nt.bH]
    have gG:(Nt.sO n.o).length=n.o.length:=(Nt.aL hx.out).2.2.2.2.1;refine ⟨hE.out,?_,HU.out,HV.out,HX.out,?_,?_,?_⟩
    ·have:=Hg.out
     unfold CkA.cells Ck.base Ck.start;simp only [HC,gI,gG,List.length_cons,List.length_map];exact this
    ·show ((Zc (n.o.length+1) false).set 0 true).length=(Nt.words n).length
     rw [HC];simp
    ·show (Zc (n.o.length+1) false).length=(Nt.words n).length
     rw [HC];simp
    ·show (Zc (n.o.length+1) false).length=(Nt.words n).length
     rw [HC];simp
namespace Rw
open Rt
theorem base_net {n:aA} (h:Nt.check n=0) (cap:Int):Net (Ck.base n cap) (n.o.length+1):=by
 obtain ⟨_,ha,_,_,hl,_,hb,_⟩:=Nt.aL h;refine ⟨Nt.bX h,λz=>?_,by omega,λid h1 h2 i hi=>?_⟩
 ·show 0<=(Nt.words n).getD z.toNat 0/\(Nt.words n).getD z.toNat 0<=65536
  rw [gdZ];rcases Nat.lt_or_ge z.toNat (Nt.words n).length with q|q
  ·rw [geZ q]
   have:=Nt.iA h _ (gmZ q);rw [Option.getD_some];omega
  ·rw [Zi q];simp
 ·have hI:Ck.iF (Ck.base n cap) id=Nt.iF n.o id:=by
   show ([]::n.o.map (·.ins)).getD id.toNat []=_
   obtain ⟨m,rfl⟩:∃m:Nat,id=((m+1:Nat):Int):=⟨id.toNat-1,by omega⟩
   rw [tnZ,gdZ,List.getElem?_cons_succ,List.getElem?_map,geZ oZ,Nt.iF,Int.natCast_succ,Nt.dI oZ]
   rfl
  rw [hI] at hi;exact (fZ h).rng id h1 h2 i hi
theorem base_ord {n:aA} (h:Nt.check n=0) (cap:Int):Ord (Ck.base n cap) (n.o.length+1) (Nt.iF n.o) (lK n) (Nt.sO n.o):=by
 obtain ⟨_,hh,_,_,hl,_,hg,_⟩:=Nt.aL h;obtain ⟨_,l1,l2⟩:=Nt.dD hg;have he:(Nt.sO n.o).Nodup:=(Kn.go_ok _ _ _).nodup
 have hd:∀k,k<(Nt.sO n.o).length->∀i∈Nt.iF n.o ((Nt.sO n.o).getD k 0),i=0∨i∈(Nt.sO n.o).take k:=λk hk i hi=>by
  rw [Rt.get_at hk] at hi;refine Kn.fE (Nt.iF n.o) n.o.length (a:=(Nt.sO n.o).take k) (b:=(Nt.sO n.o).drop (k+1)) (u:=(Nt.sO n.o)[k]) ?_ i hi;rw [←Zd hk,Zn]
  rfl
 refine ⟨λid=>?_,rfl,cB,λu u1 u2=>(Kn.bU hl u).2 ⟨u1,by omega⟩,he,fZ h,hd,⟨l1,by show Nt.aH n.o<_;omega⟩,λk hk=>?_⟩
 ·by_cases q:1<=id/\id<((n.o.length+1:Nat):Int)
  ·left
   show ([]::n.o.map (·.ins)).getD id.toNat []=_
   obtain ⟨m,rfl⟩:∃m:Nat,id=((m+1:Nat):Int):=⟨id.toNat-1,by omega⟩
   rw [tnZ,gdZ,List.getElem?_cons_succ,List.getElem?_map,geZ oZ,Nt.iF,Int.natCast_succ,Nt.dI oZ]
   rfl
  ·exact .inr q
 ·by_cases e:(Nt.sO n.o).getD k 0=Nt.aH n.o
  ·exact .inl e
  ·right
   have hr:=cB (n:=n) _ (gmZ hk);rw [Rt.get_at hk] at e ⊢;obtain ⟨j,hj,hc⟩:=qbH h hr.1 oZ e;have ha:=hd j hj _ (by simpa using hc)
   have hm:k<j:=by
    rcases ha with ha|ha
    ·omega
    ·obtain ⟨i,hi,hb⟩:=List.getElem_of_mem ha
     rw [List.getElem_take] at hb;rw [Zo] at hi;have hf:=List.pairwise_iff_getElem.1 he;rcases Nat.lt_trichotomy i k with q|q|q
     ·exact absurd hb (hf i k _ hk q)
     ·omega
     ·exact absurd hb.symm (hf k i hk _ q)
   refine iW.2 ⟨(Nt.sO n.o)[j],?_,?_⟩
   ·rw [List.mem_iff_getElem]
    exact ⟨j-(k+1),by rw [Zq];omega,by rw [List.getElem_drop];congr 1;omega⟩
   ·rw [Rt.get_at hj] at hc;simpa using hc
theorem rank_lt {n:aA} (h:Nt.check n=0) (u:Int) (h1:1<=u) (h2:u<((n.o.length+1:Nat):Int)):lK n u<n.o.length+1:=by
 obtain ⟨_,_,_,_,hl,_⟩:=Nt.aL h;have:=List.idxOf_lt_length_of_mem ((Kn.bU hl u).2 ⟨h1,by omega⟩);unfold lK;have e:(Nt.sO n.o).length=n.o.length:=hl;unfold Nt.sO at e ⊢;omega
theorem qhT {n:aA} (cap:Int):Inv (Ck.base n cap) (n.o.length+1) (Rt.start (n.o.length+1)) (Ck.start (n.o.length+1)):=by
 refine ⟨by simp [Rt.start],rfl,by simp [Ck.start],by simp [Ck.start],by simp [Rt.start,Ck.at_],by simp [Ck.start,Rt.start],by simp [Ck.start,Rt.start],λ_ _=>rfl,rfl,λp hp=>by cases hp⟩
theorem qeF {n:aA} (h:Nt.check n=0) (keep:List Int) (cap:Int):∃t,Inv (Ck.base n cap) (n.o.length+1) (lW n keep) t/\t.em=true/\t.done=(Nt.sO n.o).length:=by
 have hN:=base_net h cap;have hO:=base_ord h cap;obtain ⟨_,_,_,_,hl,_,hb,_⟩:=Nt.aL h;obtain ⟨_,l1,l2⟩:=Nt.dD hb;have ha:Nt.aH n.o∈Nt.sO n.o:=(Kn.bU hl _).2 ⟨l1,by omega⟩
 obtain ⟨t1,i1,a1,a2,a3,a4,a5,a6⟩:=qhP hN hO (f:=fT n keep) (N:=n.o.length) oZ (qhT cap) rfl (λk z hf=>by
  unfold fT at hf;rw [Zz,Zz,qb9] at hf;refine ⟨of_decide_eq_true hf.2.1,?_⟩;have:=hf.2.2;simpa using this) _ (lrZ _)
 rw [Zg] at a5 a6;obtain ⟨t2,i2,b1,b2,b3,b4,b5⟩:=i1.emit hN oZ (a6 _ ha (.inl rfl)) (by rw [a2];rfl);obtain ⟨t3,i3,c1,c2,c3,c4,c5⟩:=i2.drop hN (id:=Nt.aH n.o) l1 oZ (a6 _ ha (.inl rfl));obtain ⟨t4,i4,d1,d2,d3,d4⟩:=i3.seed hN oZ (by rw [c5,b5,a4];rfl)
 obtain ⟨t5,i5,_,e2,e3,_⟩:=qhQ hN hO (b:=bT n keep) (M:=n.o.length+1) (N:=n.o.length) oZ (rank_lt h) i4 (λz z0 z1=>by
   rw [d1,c1,b1,a5 z oZ z1];exact hO.all z z0 z1) (by rw [d3,c3,b3]) (by rw [d4,c4,b4,a3];rfl) (by
   rw [d2,eB.dS i3.aN (by show 0<=Nt.aH n.o;omega) (by show Nt.aH n.o<_;omega) (by show 0<=Nt.aH n.o;omega),ipZ rfl]) _ (lrZ _)
 exact ⟨t5,i5,e2,e3⟩
def one (ps:List (Int × Int)):List Int:=(ps.filter λp=>p.1==1).map (·.2)
theorem qb2 (ps:List (Int × Int)) (k id:Int):one (ps++[(k,id)])=if k=1 then one ps++[id] else one ps:=by
 unfold one;rw [List.filter_append,List.map_append]
 by_cases e:k=1<;>simp [e]
theorem qbO (f:Int->Bool) (s:RtS):∀m,one (Rt.aQ f m s).code=one s.code
 | 0=>rfl
 | m+1=>by
  rw [qaG]
  split
  ·rw [show (Rt.drop ((m:Int)+1) (Rt.aQ f m s)).code=(Rt.aQ f m s).code++[(3,(m:Int)+1)] from rfl,qb2,inZ dZ,qbO f s m]
  ·exact qbO f s m
theorem qeG {I:Int->List Int}:∀(m:Nat) (id:Int) (s:RtS),one (Rt.fetch I m id s).code=one s.code
 | 0,_,_=>rfl
 | m+1,id,s=>by
  rw [eD]
  split
  ·rfl
  ·have fold:∀(l:List Int) (s:RtS),one (l.foldl (λs i=>Rt.fetch I m i s) s).code=one s.code:=by
    intro l
    induction l with
    | nil=>intro s;rfl
    | cons i l ih=>intro s;rw [List.foldl_cons,ih,qeG m i s]
   rw [show ∀s:RtS,(Rt.comp 2 id s).code=s.code++[(2,id)] from λ_=>rfl,qb2,inZ dZ,fold]
theorem qcT {I:Int->List Int} (m:Nat):∀(l:List Int) (s:RtS),one (l.foldl (λs i=>Rt.fetch I m i s) s).code=one s.code
 | [],_=>rfl
 | i::l,s=>by rw [List.foldl_cons,qcT m l,qeG m i s]
theorem qhU {order:List Int} {N:Nat} {f:Nat->Int->Bool} {s:RtS} (h:one s.code=[]):∀k,k<=order.length->one (Rt.fwd order N f k s).code=order.take k
 | 0,_=>h
 | k+1,hk=>by
  have ha:k<order.length:=by omega
  rw [show Rt.fwd order N f (k+1) s=Rt.aQ (f k) N (Rt.comp 1 (order.getD k 0) (Rt.fwd order N f k s)) from rfl,qbO,show ∀(s:RtS) (id:Int),(Rt.comp 1 id s).code=s.code++[(1,id)] from λ_ _=>rfl,qb2,ipZ rfl,qhU h k oZ,Rt.get_at ha,Zb ha]
theorem qhV {I:Int->List Int} {order:List Int} {M N:Nat} {b:Nat->Int->Bool} {s:RtS}:∀k,one (Rt.bwd I order M N b k s).code=one s.code
 | 0=>rfl
 | k+1=>by
  rw [show Rt.bwd I order M N b (k+1) s=Rt.aQ (b (order.length-k)) N (Rt.add 6 (order.getD (order.length-1-k) 0) ((I (order.getD (order.length-1-k) 0)).foldl (λs i=>Rt.fetch I M i s) (Rt.bwd I order M N b k s))) from rfl,qbO,show ∀(s:RtS) (id:Int),(Rt.add 6 id s).code=s.code++[(6,id)] from λ_ _=>rfl,qb2,inZ dZ,qcT,qhV k]
theorem qfr (n:aA) (keep:List Int):one (lW n keep).code=Nt.sO n.o:=by
 unfold lW Rt.lower;rw [qhV,show ∀s:RtS,(Rt.add 5 0 s).code=s.code++[(5,0)] from λ_=>rfl,qb2,inZ dZ,show ∀(s:RtS) (id:Int),(Rt.drop id s).code=s.code++[(3,id)] from λ_ _=>rfl,qb2,inZ dZ,show ∀s:RtS,(Rt.add 4 0 s).code=s.code++[(4,0)] from λ_=>rfl,qb2,inZ dZ,qhU rfl _ (lrZ _),Zg]
theorem qg5 {cost:List Int} (hc:∀k,0<=cost.getD k 0):∀ps:List (Int × Int),Safe.sum ((one ps).map λi=>cost.getD i.toNat 0)<=Safe.sum (Cd.aJ cost ps)/\(Cd.count 2 ps=0->Safe.sum ((one ps).map λi=>cost.getD i.toNat 0)=Safe.sum (Cd.aJ cost ps))
 | []=>⟨by simp [one,Cd.aJ],λ_=>by simp [one,Cd.aJ]⟩
 | p::r=>by
  obtain ⟨i1,i2⟩:=qg5 hc r;have hb:=Cd.tF 2 r;have hd:=hc p.2.toNat
  have ha:Cd.count 2 (p::r)=(if p.1==2 then 1 else 0)+Cd.count 2 r:=by
   have:=Cd.count_append 2 [p] r;rw [List.singleton_append] at this;rw [this];simp [Cd.count]
  rw [ha];unfold one Cd.aJ at i1 i2 ⊢;rw [List.filter_cons,List.filter_cons];have hk:Cd.lD p=decide (p.1=1∨p.1=2):=by unfold Cd.lD;rw [Bool.eq_iff_iff];simp
  rw [hk];rw [gdZ] at hd
  by_cases e1:p.1=1
  ·simp [e1,Safe.sum] at i1 i2 ⊢
   refine ⟨by omega,λq=>?_⟩;have:=i2 q;omega
  ·by_cases e2:p.1=2
   ·simp [e2,Safe.sum] at i1 i2 ⊢
    refine ⟨by omega,λq=>?_⟩;omega
   ·simp [e1,e2] at i1 i2 ⊢
    exact ⟨i1,i2⟩
theorem sum_perm {a b:List Int} (h:a.Perm b):Safe.sum a=Safe.sum b:=by
 induction h with
 | nil=>rfl
 | cons x _ ih=>simp [Safe.sum,ih]
 | swap x y l=>simp [Safe.sum];omega
 | trans _ _ ih1 ih2=>rw [ih1,ih2]
theorem qgH {n:aA} (h:Nt.check n=0):Safe.sum ((Nt.sO n.o).map λi=>(Nt.aD n).getD i.toNat 0)=Safe.sum (Nt.aD n):=by
 obtain ⟨_,_,_,_,hl,_⟩:=Nt.aL h
 have hp:(Nt.sO n.o).Perm (Kn.ids n.o.length):=by
  refine (List.perm_ext_iff_of_nodup (Kn.go_ok _ _ _).nodup (Kn.qP _)).2 λu=>?_
  show u∈Kn.order (Nt.iF n.o) n.o.length↔_
  rw [Kn.bU hl u];unfold Kn.ids;rw [List.mem_map]
  constructor
  ·intro q
   exact ⟨u.toNat-1,by rw [List.mem_range];omega,by omega⟩
  ·rintro ⟨i,hi,rfl⟩
   rw [List.mem_range] at hi;omega
 rw [sum_perm (hp.map _)];unfold Nt.aD;rw [Safe.sum,Int.zero_add]
 congr 1
 unfold Kn.ids;rw [List.map_map];refine List.ext_getElem (by simp [Nt.bH]) λi h1 h2=>?_
 rw [List.getElem_map,List.getElem_range];simp only [Function.comp];rw [gdZ,tnZ,List.getElem?_cons_succ,geZ h2]
 rfl
end Rw
namespace Rt
def lG (n:aA) (keep:List Int) (k:Nat):RtD:=qhs (Nt.sO n.o) n.o.length (gT n keep) k ⟨[],[]⟩
def rA (n:aA) (keep:List Int):RtD:=dN 5 0 (eP (Nt.aH n.o) (dN 4 0 (lG n keep (Nt.sO n.o).length)))
def fM (n:aA) (keep:List Int) (k:Nat):RtD:=qfS (Nt.iF n.o) (Nt.sO n.o) (n.o.length+1) n.o.length (dT n keep) k (rA n keep)
theorem loweredD_eq (n:aA) (keep:List Int):pE n keep=fM n keep (Nt.sO n.o).length:=rfl
theorem qeH {n:aA} (keep:List Int) {k:Nat} (hk:k<=(Nt.sO n.o).length):Rel (n.o.length+1) (fA n keep k) (lG n keep k):=
 (Rel.fwd (L:=n.o.length+1) (N:=n.o.length) (f:=fT n keep) (g:=gT n keep) oZ cB (Kn.go_ok (Nt.iF n.o) n.o.length n.o.length).nodup (iG n) rfl oZ (λk hk z z1 z2 _=>by unfold fT gT;rw [qb9]) k hk).1
theorem qeI {n:aA} (h:Nt.check n=0) (keep:List Int):Rel (n.o.length+1) (kD n keep) (rA n keep):=by
 obtain ⟨_,_,_,_,hl,_,ha,_⟩:=Nt.aL h;obtain ⟨_,l1,l2⟩:=Nt.dD ha;exact ((((qeH keep (lrZ _)).add 4 0).drop (id:=Nt.aH n.o) l1 oZ).add 5 0)
theorem qbP {n:aA} (h:Nt.check n=0) (keep:List Int) {k:Nat} (hk:k<=(Nt.sO n.o).length):Rel (n.o.length+1) (eF n keep k) (fM n keep k):=by
 refine (Rel.bwd (fZ h) (M:=n.o.length+1) (N:=n.o.length) (b:=bT n keep) (g:=dT n keep) oZ cB (qeI h keep) (λp p1 p2 z z1 z2 hz=>?_) k hk).1;unfold bT dT
 rw [qbk _ _ _ p1 p2 (qbH h z1 z2 (λe=>by
  subst e;rcases hz with hz|⟨u,hu⟩
  ·have:=(List.mem_filter.1 hz).2;simp at this
  ·exact iH h u hu))]
theorem fwdDN_bd {n:aA} (h:Nt.check n=0) (h12:n.o.length<=12) (keep:List Int) {k:Nat} (hk:k<=(Nt.sO n.o).length):(lG n keep k).code.length<=200/\(lG n keep k).there.length<=13:=by
 have hr:=qeH keep hk;have h1:=mY h keep k hk;have h2:=hr.iO;rw [hr.code] at h1;obtain ⟨_,_,_,_,hl,_⟩:=Nt.aL h;rw [hl] at hk;have h3:k*(n.o.length+3)<=12*15:=Nat.mul_le_mul oZ oZ;omega
theorem midDN_bd {n:aA} (h:Nt.check n=0) (h12:n.o.length<=12) (keep:List Int):(rA n keep).code.length<=1000/\(rA n keep).there.length<=13:=by
 have hr:=qeI h keep;have h1:=mW h keep;have h2:=hr.iO;rw [hr.code] at h1;have h3:n.o.length*(n.o.length+3)<=12*15:=Nat.mul_le_mul oZ oZ;omega
theorem sJ {n:aA} (h:Nt.check n=0) (h12:n.o.length<=12) (keep:List Int) {k:Nat} (hk:k<=(Nt.sO n.o).length):(fM n keep k).code.length<=1000/\(fM n keep k).there.length<=13:=by
 have hr:=qbP h keep hk;have h1:=iM h h12 keep k hk;have h2:=hr.iO;rw [hr.code] at h1;omega
theorem kW {g:Int->Bool}:∀(m:Nat) (x:RtD),(bB g m x).code.length<=x.code.length+m/\(bB g m x).there.length<=x.there.length/\x.code.length<=(bB g m x).code.length
 | 0,_=>⟨lrZ _,lrZ _,lrZ _⟩
 | m+1,x=>by
  obtain ⟨h1,h2,h3⟩:=kW (g:=g) m x;unfold bB
  split
  ·have h4:(Rf.without (bB g m x).there ((m:Int)+1)).length<=(bB g m x).there.length:=List.length_filter_le _ _
   unfold eP;simp only [Ze,List.length_singleton];omega
  ·omega
theorem nX (g:Int->Bool) (m:Nat) (x:RtD):bB g (m+1) x=if (bB g m x).there.contains ((m:Int)+1)&&g ((m:Int)+1) then eP ((m:Int)+1) (bB g m x) else bB g m x:=rfl
theorem fwdDN_step (n:aA) (keep:List Int) (k:Nat):lG n keep (k+1)=bB (gT n keep k) n.o.length (dW 1 ((Nt.sO n.o).getD k 0) (lG n keep k)):=rfl
theorem pY (n:aA) (keep:List Int) (k:Nat):fM n keep (k+1)=bB (dT n keep ((Nt.sO n.o).length-k)) n.o.length (dN 6 ((Nt.sO n.o).getD ((Nt.sO n.o).length-1-k) 0) ((Nt.iF n.o ((Nt.sO n.o).getD ((Nt.sO n.o).length-1-k) 0)).foldl (λx i=>aI (Nt.iF n.o) (n.o.length+1) i x) (fM n keep k))):=rfl
theorem bwdDN_fold {n:aA} (h:Nt.check n=0) (h12:n.o.length<=12) (keep:List Int) {k:Nat} (hk:k<(Nt.sO n.o).length) (j:Nat):
  (((Nt.iF n.o ((Nt.sO n.o).getD ((Nt.sO n.o).length-1-k) 0)).take j).foldl (λx i=>aI (Nt.iF n.o) (n.o.length+1) i x) (fM n keep k)).code.length<=1000/\
  (((Nt.iF n.o ((Nt.sO n.o).getD ((Nt.sO n.o).length-1-k) 0)).take j).foldl (λx i=>aI (Nt.iF n.o) (n.o.length+1) i x) (fM n keep k)).there.length<=13:=by
 have ha:(Nt.sO n.o).length-1-k<(Nt.sO n.o).length:=by omega
 have e:=get_at ha;have hu:=cB _ (gmZ ha);have hb:=(sJ h h12 keep (k:=k+1) hk).1;rw [pY] at hb;rw [e] at hb ⊢;generalize (Nt.sO n.o)[(Nt.sO n.o).length-1-k]=u at *;have hf:=Rel.mQ (fZ h) (n.o.length+1) ((Nt.iF n.o u).take j) (qbP h keep (k:=k) oZ) (λi hi=>(fZ h).rng u hu.1 hu.2 i (Zh hi));have h2:=hf.iO;have h3:=(kW (g:=dT n keep ((Nt.sO n.o).length-k)) n.o.length (dN 6 u ((Nt.iF n.o u).foldl (λx i=>aI (Nt.iF n.o) (n.o.length+1) i x) (fM n keep k)))).2.2;have h4:(dN 6 u ((Nt.iF n.o u).foldl (λx i=>aI (Nt.iF n.o) (n.o.length+1) i x) (fM n keep k))).code.length=((Nt.iF n.o u).foldl (λx i=>aI (Nt.iF n.o) (n.o.length+1) i x) (fM n keep k)).code.length+1:=by unfold dN;simp
 have h5:=(qdr (I:=Nt.iF n.o) (m:=n.o.length+1) (Nt.iF n.o u) j (fM n keep k)).1;omega
end Rt
namespace Rw
open Rt
theorem qfs {n:aA} (h:Nt.check n=0):(Nt.sO n.o).length=n.o.length:=(Nt.aL h).2.2.2.2.1
def rk (ps:List (Int × Int)):Nat:=(ps.filter Cd.lD).length
theorem qbx (ps:List (Int × Int)) (k id:Int):rk (ps++[(k,id)])=rk ps+if k=1∨k=2 then 1 else 0:=by
 unfold rk;rw [List.filter_append,Ze]
 congr 1
 have hk:Cd.lD (k,id)=decide (k=1∨k=2):=by unfold Cd.lD;rw [Bool.eq_iff_iff];simp
 rw [List.filter_cons,hk]
 by_cases e:k=1∨k=2
 ·rw [ipZ e,ipZ (by simpa using e)];rfl
 ·rw [inZ e,inZ (by simpa using e)];rfl
theorem qcz (f:Int->Bool) (s:RtS):∀m,rk (Rt.aQ f m s).code=rk s.code
 | 0=>rfl
 | m+1=>by
  rw [qaG]
  split
  ·rw [show (Rt.drop ((m:Int)+1) (Rt.aQ f m s)).code=(Rt.aQ f m s).code++[(3,(m:Int)+1)] from rfl,qbx,inZ dZ,qcz f s m];rfl
  ·exact qcz f s m
theorem qg6 {I:Int->List Int}:∀(m:Nat) (id:Int) (s:RtS),rk (Rt.fetch I m id s).code+s.code.length<=rk s.code+(Rt.fetch I m id s).code.length
 | 0,_,_=>lrZ _
 | m+1,id,s=>by
  rw [eD]
  split
  ·exact lrZ _
  ·have fold:∀(l:List Int) (s:RtS),rk (l.foldl (λs i=>Rt.fetch I m i s) s).code+s.code.length<=rk s.code+(l.foldl (λs i=>Rt.fetch I m i s) s).code.length:=by
    intro l
    induction l with
    | nil=>intro s;exact lrZ _
    | cons i l ih=>intro s;have:=ih (Rt.fetch I m i s);have:=qg6 (I:=I) m i s;rw [List.foldl_cons];omega
   have:=fold (I id) s;rw [show ∀s:RtS,(Rt.comp 2 id s).code=s.code++[(2,id)] from λ_=>rfl,qbx,ipZ (.inr rfl),Ze];simp only [List.length_cons,List.length_nil];omega
theorem qds {I:Int->List Int} (m:Nat):∀(l:List Int) (s:RtS),rk (l.foldl (λs i=>Rt.fetch I m i s) s).code+s.code.length<=rk s.code+(l.foldl (λs i=>Rt.fetch I m i s) s).code.length
 | [],_=>lrZ _
 | i::l,s=>by have:=qds (I:=I) m l (Rt.fetch I m i s);have:=qg6 (I:=I) m i s;rw [List.foldl_cons];omega
theorem vD (n:aA) (keep:List Int):∀k,rk (fA n keep k).code=k
 | 0=>rfl
 | k+1=>by
  rw [show fA n keep (k+1)=Rt.aQ (fT n keep k) n.o.length (Rt.comp 1 ((Nt.sO n.o).getD k 0) (fA n keep k)) from rfl,qcz,show ∀(s:RtS) (id:Int),(Rt.comp 1 id s).code=s.code++[(1,id)] from λ_ _=>rfl,qbx,ipZ (.inl rfl),vD n keep k]
theorem uZ {n:aA} (h:Nt.check n=0) (keep:List Int):∀k,k<=(Nt.sO n.o).length->rk (eF n keep k).code<=(Nt.sO n.o).length+k*(n.o.length+1)
 | 0,_=>by
  have e:rk (kD n keep).code=rk (fA n keep (Nt.sO n.o).length).code:=by
   unfold kD;rw [show ∀s:RtS,(Rt.add 5 0 s).code=s.code++[(5,0)] from λ_=>rfl,qbx,inZ dZ,show ∀(s:RtS) (id:Int),(Rt.drop id s).code=s.code++[(3,id)] from λ_ _=>rfl,qbx,inZ dZ,show ∀s:RtS,(Rt.add 4 0 s).code=s.code++[(4,0)] from λ_=>rfl,qbx,inZ dZ]
   rfl
  rw [vD] at e
  show rk (kD n keep).code<=_
  omega
 | k+1,hk=>by
  have ih:=uZ h keep k oZ;have hr:=qbP h keep (k:=k) oZ;have ha:(Nt.sO n.o).length-1-k<(Nt.sO n.o).length:=by omega
  have hu:=cB (n:=n) _ (gmZ ha);rw [show eF n keep (k+1)=Rt.aQ (bT n keep ((Nt.sO n.o).length-k)) n.o.length (Rt.add 6 ((Nt.sO n.o).getD ((Nt.sO n.o).length-1-k) 0) ((Nt.iF n.o ((Nt.sO n.o).getD ((Nt.sO n.o).length-1-k) 0)).foldl (λs i=>Rt.fetch (Nt.iF n.o) (n.o.length+1) i s) (eF n keep k))) from rfl,qcz,show ∀(s:RtS) (id:Int),(Rt.add 6 id s).code=s.code++[(6,id)] from λ_ _=>rfl,qbx,inZ dZ,Rt.get_at ha];generalize (Nt.sO n.o)[(Nt.sO n.o).length-1-k]=u at *;have h2:=qds (I:=Nt.iF n.o) (n.o.length+1) (Nt.iF n.o u) (eF n keep k);have hf:=Rel.mQ (fZ h) (n.o.length+1) (Nt.iF n.o u) hr (λi hi=>(fZ h).rng u hu.1 hu.2 i hi);have c1:=qcH (I:=Nt.iF n.o) (n.o.length+1) (Nt.iF n.o u) (fM n keep k);have c3:=hf.iO;rw [←hf.code,←hr.code] at c1;have hm:(k+1)*(n.o.length+1)=k*(n.o.length+1)+(n.o.length+1):=by rw [Nat.add_mul];omega
  omega
theorem qgI {n:aA} (h:Nt.check n=0) (h12:n.o.length<=12) (keep:List Int):rk (lW n keep).code<=168:=by
 have hl:=qfs h;have h1:=uZ h keep _ (lrZ _);rw [jK];rw [hl] at h1 ⊢;have:=Nat.mul_le_mul h12 (show n.o.length+1<=13 by omega);omega
theorem qaQ {l:List (Int × Int)} {x:Int × Int} (h:l.head? = some x) (y:Int × Int):(l++[y]).head? = some x:=by
 cases l with
 | nil=>cases h
 | cons a r=>exact h
theorem qaX {x:Int × Int} {f:Int->Bool} {s:RtS} (h:s.code.head? = some x):∀m,(Rt.aQ f m s).code.head? = some x
 | 0=>h
 | m+1=>by
  rw [qaG]
  split
  ·exact qaQ (qaX h m) _
  ·exact qaX h m
theorem qdt {x:Int × Int} {I:Int->List Int}:∀(m:Nat) (id:Int) (s:RtS),s.code.head? = some x->(Rt.fetch I m id s).code.head? = some x
 | 0,_,_,h=>h
 | m+1,id,s,h=>by
  rw [eD]
  split
  ·exact h
  ·have fold:∀(l:List Int) (s:RtS),s.code.head? = some x->(l.foldl (λs i=>Rt.fetch I m i s) s).code.head? = some x:=by
    intro l
    induction l with
    | nil=>intro s h;exact h
    | cons i l ih=>intro s h;exact ih _ (qdt m i s h)
   exact qaQ (fold _ _ h) _
theorem qcg {x:Int × Int} {I:Int->List Int} (m:Nat):∀(l:List Int) (s:RtS),s.code.head? = some x->(l.foldl (λs i=>Rt.fetch I m i s) s).code.head? = some x
 | [],_,h=>h
 | i::l,s,h=>qcg m l _ (qdt m i s h)
theorem qg7 (n:aA) (keep:List Int):∀k,(fA n keep (k+1)).code.head? = some (1,(Nt.sO n.o).getD 0 0)
 | 0=>qaX (s:=Rt.comp 1 ((Nt.sO n.o).getD 0 0) (fA n keep 0)) rfl _
 | k+1=>qaX (s:=Rt.comp 1 ((Nt.sO n.o).getD (k+1) 0) (fA n keep (k+1))) (qaQ (qg7 n keep k) _) _
theorem qeJ {n:aA} (h:Nt.check n=0) (keep:List Int):(lW n keep).code.head? = some (1,(Nt.sO n.o).getD 0 0):=by
 obtain ⟨h1,_⟩:=Nt.aL h;have hl:=qfs h
 have hm:(kD n keep).code.head? = some (1,(Nt.sO n.o).getD 0 0):=by
  unfold kD;obtain ⟨m,hm⟩:∃m,(Nt.sO n.o).length=m+1:=⟨(Nt.sO n.o).length-1,by omega⟩
  rw [hm];exact qaQ (qaQ (qaQ (qg7 n keep m) _) _) _
 have hb:∀k,(eF n keep k).code.head? = some (1,(Nt.sO n.o).getD 0 0):=by
  intro k
  induction k with
  | zero=>exact hm
  | succ k ih=>exact qaX (s:=Rt.add 6 ((Nt.sO n.o).getD ((Nt.sO n.o).length-1-k) 0) ((Nt.iF n.o ((Nt.sO n.o).getD ((Nt.sO n.o).length-1-k) 0)).foldl (λs i=>Rt.fetch (Nt.iF n.o) (n.o.length+1) i s) (eF n keep k))) (qaQ (qcg _ _ _ ih) _) _
 exact hb _
theorem qbo (ps:List (Int × Int)) (k id:Int) (h:k≠2):Cd.count 2 (ps++[(k,id)])=Cd.count 2 ps:=by
 rw [Cd.count_append];simp [Cd.count,h]
theorem qbQ (f:Int->Bool) (s:RtS):∀m,Cd.count 2 (Rt.aQ f m s).code=Cd.count 2 s.code
 | 0=>rfl
 | m+1=>by
  rw [qaG]
  split
  ·rw [show (Rt.drop ((m:Int)+1) (Rt.aQ f m s)).code=(Rt.aQ f m s).code++[(3,(m:Int)+1)] from rfl,qbo _ _ _ dZ,qbQ f s m]
  ·exact qbQ f s m
theorem qdu {I:Int->List Int} (m:Nat):∀(l:List Int) (s:RtS),(∀i∈l,Ck.at_ s.aG i=true)->l.foldl (λs i=>Rt.fetch I m i s) s=s
 | [],_,_=>rfl
 | i::l,s,h=>by
  have e:Rt.fetch I m i s=s:=by
   cases m with
   | zero=>rfl
   | succ m=>rw [eD,ipZ (h i sZ)]
  rw [List.foldl_cons,e];exact qdu m l s λj hj=>h j (by simp [hj])
theorem qhW {n:aA} (h:Nt.check n=0) {keep:List Int} (hk:∀z:Int,1<=z->z<=n.o.length->keep.contains z=true):∀k,k<=(Nt.sO n.o).length->
  (fA n keep k).aG.length=n.o.length+1/\Cd.count 2 (fA n keep k).code=0/\Ck.at_ (fA n keep k).aG 0=true/\∀z∈(Nt.sO n.o).take k,Ck.at_ (fA n keep k).aG z=true
 | 0,_=>⟨by simp [fA,Rt.fwd,Rt.start],rfl,by simp [fA,Rt.fwd,Rt.start,Ck.at_],λz hz=>by simp at hz⟩
 | k+1,hk1=>by
  obtain ⟨a1,a2,a3,a4⟩:=qhW h hk k oZ;have ha:k<(Nt.sO n.o).length:=by omega
  have hu:=cB (n:=n) _ (gmZ ha);have ht:=Zb ha;have hf:∀z:Int,1<=z->z<=n.o.length->fT n keep k z=false:=λz z0 z1=>by unfold fT;rw [hk z z0 z1];rfl
  rw [show fA n keep (k+1)=Rt.aQ (fT n keep k) n.o.length (Rt.comp 1 ((Nt.sO n.o).getD k 0) (fA n keep k)) from rfl,Rt.get_at ha,qbl,qbQ];generalize fA n keep k=s at *;have hb:(Rt.comp 1 (Nt.sO n.o)[k] s).aG.length=n.o.length+1:=dX a1 _ _;have hd:Ck.at_ (Rt.comp 1 (Nt.sO n.o)[k] s).aG 0=true:=qeC a3;refine ⟨hb,?_,qaW hd _,λz hz=>?_⟩
  ·rw [show ∀(s:RtS) (id:Int),(Rt.comp 1 id s).code=s.code++[(1,id)] from λ_ _=>rfl,qbo _ _ _ dZ,a2]
  ·have hc:=cB (n:=n) z (Zh hz)
   refine qbn (L:=n.o.length+1) hb oZ (hf z hc.1 oZ) ?_ _ oZ
   show Ck.at_ (Ck.bO s.aG (Nt.sO n.o)[k] true) z=true
   rw [eB.dS a1 oZ hu.2 oZ]
   by_cases e:z=(Nt.sO n.o)[k]
   ·rw [ipZ e]
   ·rw [inZ e]
    rw [ht,List.mem_append] at hz;exact a4 z (hz.resolve_right (by simp [e]))
theorem qhX {n:aA} (h:Nt.check n=0) {keep:List Int} (hk:∀z:Int,1<=z->z<=n.o.length->keep.contains z=true):∀k,k<=(Nt.sO n.o).length->
  (eF n keep k).aG.length=n.o.length+1/\Cd.count 2 (eF n keep k).code=0/\Ck.at_ (eF n keep k).aG 0=true/\∀q,q<(Nt.sO n.o).length-k->∀i∈Nt.iF n.o ((Nt.sO n.o).getD q 0),Ck.at_ (eF n keep k).aG i=true
 | 0,_=>by
  obtain ⟨_,_,_,_,hl,_,hd,_⟩:=Nt.aL h;obtain ⟨_,l1,l2⟩:=Nt.dD hd;obtain ⟨a1,a2,a3,a4⟩:=qhW h hk _ (lrZ _);rw [Zg] at a4
  show (kD n keep).aG.length=_/\Cd.count 2 (kD n keep).code=0/\Ck.at_ (kD n keep).aG 0=true/\∀q,q<(Nt.sO n.o).length-0->∀i∈Nt.iF n.o ((Nt.sO n.o).getD q 0),Ck.at_ (kD n keep).aG i=true
  unfold kD;generalize fA n keep (Nt.sO n.o).length=s at *;refine ⟨dX a1 _ _,?_,qdQ a1 a3 l1 oZ _,λq hq i hi=>?_⟩
  ·rw [show ∀s:RtS,(Rt.add 5 0 s).code=s.code++[(5,0)] from λ_=>rfl,qbo _ _ _ dZ,show ∀(s:RtS) (id:Int),(Rt.drop id s).code=s.code++[(3,id)] from λ_ _=>rfl,qbo _ _ _ dZ,show ∀s:RtS,(Rt.add 4 0 s).code=s.code++[(4,0)] from λ_=>rfl,qbo _ _ _ dZ,a2]
  ·have hr:=cB (n:=n) _ (gmZ (show q<(Nt.sO n.o).length by omega))
   rw [Rt.get_at (show q<(Nt.sO n.o).length by omega)] at hi;have hb:=(fZ h).rng _ hr.1 hr.2 i hi
   show Ck.at_ (Ck.bO s.aG (Nt.aH n.o) false) i=true
   rw [eB.dS a1 oZ oZ hb.1,inZ (λe=>iH h _ (e▸hi))]
   by_cases e:i=0
   ·rw [e];exact a3
   ·exact a4 i ((Kn.bU hl i).2 ⟨by omega,by omega⟩)
 | k+1,hk1=>by
  obtain ⟨_,_,_,_,hl,_,hd,_⟩:=Nt.aL h;obtain ⟨a1,a2,a3,a4⟩:=qhX h hk k oZ;have hg:(Nt.sO n.o).length-1-k<(Nt.sO n.o).length:=by omega
  rw [show eF n keep (k+1)=Rt.aQ (bT n keep ((Nt.sO n.o).length-k)) n.o.length (Rt.add 6 ((Nt.sO n.o).getD ((Nt.sO n.o).length-1-k) 0) ((Nt.iF n.o ((Nt.sO n.o).getD ((Nt.sO n.o).length-1-k) 0)).foldl (λs i=>Rt.fetch (Nt.iF n.o) (n.o.length+1) i s) (eF n keep k))) from rfl,qdu _ _ _ (a4 _ oZ),qbl,qbQ];generalize eF n keep k=s at *;generalize (Nt.sO n.o).getD ((Nt.sO n.o).length-1-k) 0=u;have hc:Ck.at_ (Rt.add 6 u s).aG 0=true:=a3;refine ⟨a1,?_,qaW hc _,λq hq i hi=>?_⟩
  ·rw [show ∀(s:RtS) (id:Int),(Rt.add 6 id s).code=s.code++[(6,id)] from λ_ _=>rfl,qbo _ _ _ dZ,a2]
  ·have he:q<(Nt.sO n.o).length:=by omega
   have ha:=hi;have hr:=cB (n:=n) _ (gmZ he);rw [Rt.get_at he] at ha;have hb:=(fZ h).rng _ hr.1 hr.2 i ha
   by_cases e:i=0
   ·rw [e];exact qaW hc _
   ·refine qbn (s:=Rt.add 6 u s) (L:=n.o.length+1) a1 hb.1 ?_ (a4 q oZ i hi) n.o.length oZ
    have hf:i≠Nt.aH n.o:=λe=>iH h _ (e▸ha)
    unfold bT;rw [hk i oZ oZ,qbk _ _ _ oZ oZ (qbH h oZ oZ hf)]
    have:pend (Nt.iF n.o) i ((Nt.sO n.o).take ((Nt.sO n.o).length-k-1))=true:=by
     refine iW.2 ⟨(Nt.sO n.o)[q],?_,ha⟩;rw [List.mem_iff_getElem];exact ⟨q,by rw [Zo];omega,by rw [List.getElem_take]⟩
    rw [this]
    rfl
theorem kG {n:aA} (h:Nt.check n=0) (h12:n.o.length<=12) (keep:List Int):∃aB cost again high:Int,Ck.run n (lW n keep).code 1073741824=((aB,cost,again,high),0)/\1<=aB/\aB<=1073741824/\Safe.sum (Nt.aD n)<=cost/\
  (Ck.run n (lW n keep).code (aB-1)).2=25/\((∀z:Int,1<=z->z<=n.o.length->keep.contains z=true)->cost=Safe.sum (Nt.aD n)/\again=0):=by
 have hl:=qfs h;have hd:=iM h h12 keep _ (lrZ _);rw [←jK] at hd;obtain ⟨t,i,e1,e2⟩:=qeF h keep 1073741824;have hr:=qgI h h12 keep;have hi:=qeJ h keep;have hh:=qfr n keep;obtain ⟨n1,_⟩:=Nt.aL h;have hf:(∀z:Int,1<=z->z<=n.o.length->keep.contains z=true)->Cd.count 2 (lW n keep).code=0:=λhk=>(qhX h hk _ (lrZ _)).2.1
 have hj:=i.go;have hc:=i.right;have hg:=i.ids;clear i;generalize (lW n keep).code=cd at *;have hm:=Nat.mul_le_mul (show n.o.length+1<=13 by omega) hd
 have hB:(65536*((n.o.length+1:Nat):Int)*(cd.length:Int))<=1073741824:=by
  rw [Int.mul_assoc,←Int.natCast_mul];omega
 have g:Ck.go (Ck.base n 1073741824) (Ck.start (n.o.length+1)) cd=(t,0):=hj _ hB;obtain ⟨_,_,p3,p4⟩:=Ck.jT (Ck.base n 1073741824) (t.aB-1) cd (Ck.start (n.o.length+1)) (by rw [g]);rw [g] at p3 p4;have q4:t.aB<=1073741824:=p4 (show (0:Int)<=1073741824 by decide)
 have q1:1<=t.aB:=by
  cases cd with
  | nil=>cases hi
  | cons x r=>
   have hx:x=(1,(Nt.sO n.o).getD 0 0):=by simpa using hi
   have hu:=cB (n:=n) _ (gmZ (show 0<(Nt.sO n.o).length by omega));rw [Rt.get_at (show 0<(Nt.sO n.o).length by omega)] at hx;generalize (Nt.sO n.o)[0]=u at hx hu;subst hx
   have hy:1<=Ck.wd (Ck.base n 1073741824) u:=by
    show 1<=(Nt.words n).getD u.toNat 0
    have hs:=Nt.bX h;rw [gdZ,geZ oZ,Option.getD_some];exact (Nt.iA h _ (gmZ _)).1
   simp only [Ck.go] at g
   split at g
   ·rename_i h0
    obtain ⟨p1,_⟩:=Ck.jT (Ck.base n 1073741824) 0 r _ (by rw [g]);rw [g] at p1;unfold Ck.do_ at h0 p1
    split at h0
    ·simp at h0
    ·rename_i c1
     rw [inZ c1] at p1
     split at h0
     ·simp at h0
     ·rename_i c2
      rw [inZ c2] at p1
      split at h0
      ·simp at h0
      ·rename_i c3
       rw [inZ c3] at p1;simp only [Ck.nD] at p1;have hq:Ck.more (Ck.base n 1073741824) (Ck.start (n.o.length+1)) 1 u=Ck.wd (Ck.base n 1073741824) u:=by unfold Ck.more;rw [ipZ (.inl rfl)]
       rw [hq] at p1;have hn:(Ck.start (n.o.length+1)).now=0:=rfl;rw [hn] at p1;omega
   ·rename_i h0
    rw [g] at h0;exact absurd rfl h0
 have q3:=p3 (show (0:Int)<=t.aB-1 by omega) (show t.aB-1<t.aB by omega);have hb:=Cd.aL (ps:=cd) oZ hc;have hA:(Nt.aD n).length=n.o.length+1:=by rw [Nt.aD,List.length_cons,Nt.bH]
 have he:∀k,0<=(Nt.aD n).getD k 0/\(Nt.aD n).getD k 0<=4294967296:=λk=>by
  rw [gdZ];rcases Nat.lt_or_ge k (Nt.aD n).length with hl|hl
  ·rw [geZ hl,Option.getD_some]
   rcases List.mem_cons.1 (gmZ hl) with e|hm
   ·rw [e];omega
   ·exact Nt.kQ h n.o.length (lrZ _) _ hm
  ·rw [Zi hl];simp
 have ht:=Nt.jA (B:=4294967296) (l:=Cd.aJ (Nt.aD n) cd) (λz hz=>by
  unfold Cd.aJ at hz;obtain ⟨p,_,rfl⟩:=List.mem_map.1 hz;exact he _)
 have hv:(Cd.aJ (Nt.aD n) cd).length<=168:=by unfold Cd.aJ;rw [List.length_map];exact hr
 have hC:((Cd.aJ (Nt.aD n) cd).length:Int)*4294967296<=168*4294967296:=Int.mul_le_mul_of_nonneg_right oZ oZ
 have ho:=Cd.nJ (ps:=cd) (cost:=Nt.aD n) hb (by
  rw [Zf];intro p hp;have hw:=hg p hp;have h1:=he p.2.toNat;have h2:Safe.ok ((Nt.aD n).getD p.2.toNat 0)=true:=by rw [Safe.jV];omega
  unfold Cd.fine Cd.lX;rw [h2,decide_eq_true oZ];simp) (by rw [Safe.kP];omega)
 obtain ⟨o1,o2⟩:=qg5 (cost:=Nt.aD n) (λk=>(he k).1) cd;rw [hh,qgH h] at o1 o2
 have ha:Ck.whole (Ck.base n 1073741824) t=true:=by
  unfold Ck.whole;rw [e1,e2]
  show (true&&decide ((Nt.sO n.o).length=(Nt.sO n.o).length))=true
  simp
 refine ⟨t.aB,Safe.sum (Cd.aJ (Nt.aD n) cd),Cd.count 2 cd,max t.aB (Safe.max ((Nt.words n).drop 1)),?_,q1,q4,o1,?_,λhk=>?_⟩
 ·unfold Ck.run
  rw [inZ (by simp [h]),inZ (by simp [hb]),g,inZ sZ,inZ (by rw [ha];decide),ho,inZ sZ]
 ·have q3':(Ck.go (Ck.base n (t.aB-1)) (Ck.start (n.o.length+1)) cd).2=25:=q3
  unfold Ck.run;rw [inZ (by simp [h]),inZ (by simp [hb]),ipZ (by rw [q3'];decide),q3']
 ·have:=hf hk
  exact ⟨(o2 this).symm,this⟩
end Rw
open Go.ChangeShapes Go.WideShapes Go.Deep Go.RowKit
section
variable {H:Type} {enc:TypeId × Value->H} {P:Program} {w:Zp1} {base:Nat} {spare:Nat->Bool} {held:Bool}
end
theorem qhY {w:Zp1} {a:Addr} {v:Value} (h:w.cell? (a.add 0)=some v):∃b off,a=⟨b,off,none⟩:=by
 obtain ⟨b,off,spot⟩:=a;have hs:spot=none:=by simpa [Addr.add] using World.cell?_spot h
 subst hs;exact ⟨b,off,rfl⟩
theorem qaY (b off j:Nat):(⟨b,off,none⟩:Addr).add j=⟨b,off+j,none⟩:=by
 unfold Addr.add;split<;>simp_all
section
variable {H:Type} {enc:TypeId × Value->H} {P:Program} {w:Zp1} {base:Nat} {spare:Nat->Bool} {held:Bool}
theorem qhZ {t e:TypeId} {k:IntKind} {fuel:Nat} {v:Value} {x:DataW H × List MemPlace} (ht:P.underlying t=some (.slice e)) (he:P.underlying e=some (.int k)) (hc:P.cellsOf e=1) (h:DataW.trod enc P w base spare held fuel t [v]=some x):
  ∃A cap zs,v=sQ A zs.length cap/\zs.length<=9223372036854775807/\zs.length<=cap/\Ints k w A zs/\∀n∈zs,(Lit.int k n).wf=true:=by
 rcases open_ints ht he hc h with ⟨hb,_⟩|⟨a,len,cap,zs,hb,_,hl,hm,hz,_,ha,hh⟩
 ·simp at hb;subst hb
  exact ⟨none,0,[],rfl,by simp,by simp,Ints.nil,by simp⟩
 ·simp at hb;subst hb
  have hi:len<=zs.length:=by rw [hz];split<;>omega
  have hf:(zs.take len).length=len:=by rw [Zo];omega
  refine ⟨some a,cap,zs.take len,by rw [hf],by rw [hf];unfold maxLen at hm;omega,by omega,λj hj=>?_,λn hn=>hh n (Zh hn)⟩;have hg:j<len:=by omega
  obtain ⟨b,off,rfl⟩:=qhY (w:=w) (a:=a) (v:=.int k (zs.getD 0 0)) (ha 0 oZ);have hd:=ha j oZ;rw [qaY] at hd;refine ⟨b,off,rfl,Zj1 _ _ hd,?_⟩;rw [hd];have e:(zs.take len).getD j 0=zs.getD j 0:=by simp [hg]
  rw [e]
end
theorem qbg {P:Program} (w:Zp1) (t ty e:TypeId) (i:TypeInfo) (ht:P.underlying t=some (.slice e)) (hi:P.info? e=some i) (c:Nat):
  (Builtin.append_ #[t,t] ty #[sQ none 0 0,sQ none 0 c]).run P w=.ok (sQ none 0 0) w:=by
 simp [Builtin.append_,run_underlying ht,sizeOf,typeInfo,hi,Builtin.lenOf,Builtin.firstCells]
theorem ints_src {w:Zp1} {A:Option Addr} {zs:List Int} (h:Ints iQ w A zs):(A=none/\zs=[])∨∃ad,A=some ad/\∀(j:Nat) (u:Value),(zs.map (Za1 iQ))[j]? = some u->w.cell? (ad.add j)=some u:=by
 rcases A with _|ad
 ·left
  refine ⟨rfl,?_⟩;rcases zs with _|⟨s,r⟩
  ·rfl
  ·obtain ⟨_,_,e,_⟩:=h 0 sZ
   cases e
 ·right
  refine ⟨ad,rfl,λj u hu=>?_⟩
  have hj:j<zs.length:=by
   rcases Nat.lt_or_ge j zs.length with h|h
   ·exact h
   ·rw [Zi (by simpa using h)] at hu;cases hu
  obtain ⟨b,off,e,_,hc⟩:=h j hj;injection e with e
  subst e;rw [qaY,hc];simp [hj] at hu ⊢;exact hu
theorem qaT {P:Program} {ops:Array Oper} {rest:List Oper} {o:Oper} {a:Act} {Q:Exit->Act->Zp1->Prop} {w:Zp1} (hgd:o.guard=none) (s x:Operand) (t:TypeId)
  (ho:o.op=.call { callee:=.builtin .append,args:=#[s,x],argTypes:=#[t,t] })
  (base:Nat) (e:TypeId) (i:TypeInfo) (ht:P.underlying t=some (.slice e)) (hi:P.info? e=some i) (hz:i.zero=some (nQ iQ 0)) (hsize:i.size=1) (hby:i.bytes=8)
  (hs:a.eval s=sQ none 0 0) (X:Option Addr) (f:Nat) (l:List Int) (hx:a.eval x=sQ X l.length f) (hX:Ints iQ w X l) (hbase:base<=w.heap.size) (hn:l.length<=1000000)
  (h:∀v' w',w'.ownsRow base e 1 v' l.length (l.map (Za1 iQ))->Below w.heap.size w w'->wpList P ops Q rest (a.put o.dst v') w'):
  wpList P ops Q (o::rest) a w:=by
 rcases ints_src hX with ⟨rfl,rfl⟩|⟨ad,rfl,hc⟩
 ·refine wpList_plain hgd λK hK=>?_
  unfold Oper.wp execOp;simp only [ho,resolve,invoke,builtin,Sem.run_bind,Sem.run_pure,Result.andThen_ok,List.map_toArray,List.map_cons,List.map_nil,hs,hx,List.length_nil,qbg w t o.type e i ht hi f];exact hK _ _ (h _ w (World.ownsRow_nil w base e 1) (Ze1 _ _))
 ·refine wpList_append_own_at w hgd s x t ho base e i (nQ iQ 0) 1 8 ht hi hz hsize hby rfl dZ (sQ none 0 0) 0 [] hs (World.ownsRow_nil w base e 1) ad l.length f (l.map (Za1 iQ)) hx sZ hc (λu hu=>?_) (by unfold maxLen;omega) oZ hbase λv' w' ha hgrow _ _=>?_
  ·obtain ⟨z,_,rfl⟩:=List.mem_map.1 hu
   rfl
  ·rw [Zw] at ha
   exact h v' w' ha ((Ze1 _ w).grown hgrow (lrZ _) (by simp [Value.ownBlock]))
def qi0 (os:List Int) (w:Zp1) (e:Ending) (w':Zp1):Prop:=
 ∃A c,e=.returned (sQ A os.length c)/\Ints iQ w' A os/\(∀a,A=some a->w.heap.size<=a.block)/\Below w.heap.size w w'
theorem qdv {w:Zp1} {B e s n m c:Nat} {A:Option Addr} {xs:List Value} (h:w.ownsRow B e s (sQ A m c) n xs):∀a,A=some a->B<=a.block:=λa q=>(h.lt a.block (by rw [q];rfl)).1
theorem qaf (A:Option Addr) (c:Nat) (zs:List Int) (x:Int) (w:Zp1) (hl:zs.length<=9223372036854775807) (hI:Ints iQ w A zs):
  Calls prog 57 #[sQ A zs.length c,nQ iQ x] w λe w'=>e=.returned (.bool (qaR zs x))/\w=w':=by
 have HI:=zI hI;clear hI;go_in;go_wp2_with fail
 go_loop [5] (λi=>∃k:Nat,k<=zs.length/\i=nQ iQ k/\(zs.take k).contains x=false) (λi=>zs.length-(intOf i).toNat)
 case atStart=>exact ⟨0,Zt _,rfl,rfl⟩
 case round=>
  obtain ⟨k,hk,rfl,ha⟩:=hrel
  by_cases hb:k<zs.length
  ·obtain ⟨b,off,rfl,-,hc⟩:=HI.out k hb
   rw [qa2 hb] at hc
   by_cases he:zs[k]=x
   ·have e1:(zs[k]==x)=true:=by simp [he]
    have HX:=zI (show qaR zs x=true by unfold qaR;rw [List.contains_iff_mem];rw [←he];exact gmZ hb);clear he ha;go_wp2_with fail;go_ret;exact ⟨by rw [HX.out];rfl,rfl⟩
   ·have e1:(zs[k]==x)=false:=by simp [he]
    have HX:=zI (show (zs.take (k+1)).contains x=false by
     rw [Zb hb];simp at ha;simp only [List.contains_eq_mem,List.mem_append,decide_eq_false_iff_not,List.mem_singleton];intro h;rcases h with h|h
     ·exact ha h
     ·exact he h.symm)
    clear he ha;go_wp2_with fail
    go_round
    case rel=>exact ⟨k+1,by omega,by go_num,HX.out⟩
    case measure=>simp [intOf];omega
  ·obtain rfl:k=zs.length:=by omega
   rw [Zg] at ha;have HX:=zI (show qaR zs x=false from ha);clear ha;go_wp2_with fail;go_ret;exact ⟨by rw [HX.out];rfl,rfl⟩
theorem qaN (A:Option Addr) (c:Nat) (l:List Int) (z:Int) (w:Zp1) (hl:l.length<=1000) (hI:Ints iQ w A l):
  Calls prog 99 #[sQ A l.length c,nQ iQ z] w (qi0 (Rf.with_ l z) w):=by
 obtain ⟨i0,hi,hp,ht,hn⟩:=info_parts qag;have HI:=zI hI;clear hI;go_in;go_wp2_with (at_builtin;refine qaT rfl _ _ 22 rfl w.heap.size 3 i0 underlying22 hi hp ht hn rfl A c l rfl HI.out (lrZ _) oZ ?_);intro v' w1 hown hg;obtain ⟨Ao,co,rfl⟩:=qa6 hown;have hr:=HI.out.below hg (lrZ _);obtain ⟨hc,hv,hk⟩:=zd3 hown hr hg;clear hown hr hg;go_wp2_with fail;refine (qaf A c l z w1 oZ hv.out).mono ?_;rintro e w2 ⟨rfl,rfl⟩
 by_cases hh:qaR l z=true
 ·have HW:=zI (show Rf.with_ l z=l by unfold Rf.with_;exact ipZ hh)
  obtain ⟨q1,-,-⟩:=qak hc.out;have q2:=qdv hc.out;rw [hh];obtain ⟨hm,hj⟩:=zd2 q1 q2;clear q1 q2;clear hh;go_wp2_with fail;go_ret;rw [HW.out];exact ⟨Ao,co,rfl,hm.out,hj.out,hk.out⟩
 ·have HW:=zI (show Rf.with_ l z=l++[z] by unfold Rf.with_;exact inZ hh)
  have hf:qaR l z=false:=by simpa using hh
  rw [hf];clear hh hf;have ho:=qa8 hc.out (.cells #[nQ iQ z] 3);have hd:Below w.heap.size w (w1.alloc (.cells #[nQ iQ z] 3)):=hk.out.alloc hk.out.size _;have hq:=zI (λb (hb:(Zb1 Ao l.length co).ownBlock=some b)=>(hc.out.lt b hb).1);go_wp2_with (at_builtin;refine wpList_append_own_at _ rfl _ _ 22 rfl w.heap.size 3 i0 (nQ iQ 0) 1 8 underlying22 hi hp ht hn rfl dZ _ _ _ rfl ho ⟨w1.heap.size,0,none⟩ 1 1 [nQ iQ z] rfl rfl ?c1 (by intro u hu;simp at hu;subst hu;rfl) (by unfold maxLen;omega) oZ ?c2 ?_)
  first|(case c1=>exact qap w1 _ _)|skip
  case c2=>exact hd.size
  intro v' w3 he hgrow _ hw;have hs:Below w.heap.size w w3:=hd.grown hgrow hd.size (λb hb=>hq.out b hb);have ha:w3.ownsRow w.heap.size 3 1 v' (l++[z]).length ((l++[z]).map (Za1 iQ)):=by simpa using he
  obtain ⟨A3,c3,rfl⟩:=qa6 ha;obtain ⟨q1,-,-⟩:=qak ha;have q2:=qdv ha;clear he hgrow hw ho hd hq ha;obtain ⟨hm,hj,hx⟩:=zd3 q1 q2 hs;clear q1 q2 hs;go_wp2_with fail;go_ret;rw [HW.out];exact ⟨A3,c3,rfl,hm.out,hj.out,hx.out⟩
theorem Rf.nA {l:List Int} {z:Int} {k:Nat} (h:k<l.length):Rf.without (l.take (k+1)) z=Rf.without (l.take k) z++if l[k]=z then [] else [l[k]]:=by
 unfold Rf.without;rw [Zb h,List.filter_append]
 split
 ·rename_i e;simp [e]
 ·rename_i e;simp [e]
theorem qb3 (A:Option Addr) (c:Nat) (l:List Int) (z:Int) (w:Zp1) (hl:l.length<=1000) (hI:Ints iQ w A l):
  Calls prog 100 #[sQ A l.length c,nQ iQ z] w (qi0 (Rf.without l z) w):=by
 obtain ⟨i0,hi,hv,hz,ht⟩:=info_parts qag;have HI:=zI hI;clear hI;go_in;go_wp2_with fail
 go_loopw [5,6] (λo i wx=>∃k:Nat,k<=l.length/\i=nQ iQ (k:Int)/\wx.ownsRow w.heap.size 3 1 o (Rf.without (l.take k) z).length ((Rf.without (l.take k) z).map (Za1 iQ))/\Below w.heap.size w wx) (λ_ i _=>l.length-(intOf i).toNat)
 case atStart=>exact ⟨0,Zt _,rfl,by simpa [Rf.without] using World.ownsRow_nil w w.heap.size 3 1,Ze1 _ _⟩
 case round=>
  obtain ⟨k,hk,rfl,hown,hf⟩:=hrel;obtain ⟨Ao,co,rfl⟩:=qa6 hown
  by_cases hq:k<l.length
  ·obtain ⟨b,off,rfl,-,hc⟩:=HI.out.below hf (lrZ _) k hq
   rw [qa2 hq] at hc;have hj:=Rf.nA (z:=z) hq
   have hB:(Rf.without (l.take k) z).length<=1000:=by
    have h1:(Rf.without (l.take k) z).length<=(l.take k).length:=List.length_filter_le _ _;simp at h1;omega
   generalize Rf.without (l.take k) z=r at *;generalize l[k]=x at *
   by_cases he:x=z
   ·have e1:(x != z)=false:=by simp [he]
    rw [ipZ he,List.append_nil] at hj;obtain ⟨hh,hn,hp⟩:=zd3 hown hf hj;clear hown hf hj;clear he;go_wp2_with fail;go_roundw
    case rel=>exact ⟨k+1,by omega,by go_num,by rw [hp.out];exact hh.out,hn.out⟩
    case measure=>simp [intOf];omega
   ·have e1:(x != z)=true:=by simp [he]
    rw [inZ he] at hj;have ho:=qa8 hown (.cells #[nQ iQ x] 3);have hd:Below w.heap.size w (wr.alloc (.cells #[nQ iQ x] 3)):=hf.alloc hf.size _;have hr:=zI (λb (hb:(Zb1 Ao r.length co).ownBlock=some b)=>(hown.lt b hb).1);obtain ⟨hh,hn,hp⟩:=zd3 hown hf hj;clear hown hf hj;clear he;go_wp2_with (at_builtin;refine wpList_append_own_at _ rfl _ _ 22 rfl w.heap.size 3 i0 (nQ iQ 0) 1 8 underlying22 hi hv hz ht rfl dZ _ _ _ rfl ho ⟨wr.heap.size,0,none⟩ 1 1 [nQ iQ x] rfl rfl ?c1 (by intro u hu;simp at hu;subst hu;rfl) (by unfold maxLen;omega) oZ ?c2 ?_)
    first|(case c1=>exact qap wr _ _)|skip
    case c2=>exact hd.size
    intro v' w3 hg hgrow _ hw;have hs:Below w.heap.size w w3:=hd.grown hgrow hd.size (λb hb=>hr.out b hb);have ha:w3.ownsRow w.heap.size 3 1 v' (r++[x]).length ((r++[x]).map (Za1 iQ)):=by simpa using hg
    rw [←hp.out] at ha;obtain ⟨hm,hy⟩:=zd2 ha hs;clear ha hs;clear hg hgrow hw ho hd hr;go_wp2_with fail;go_roundw
    case rel=>exact ⟨k+1,by omega,by go_num,hm.out,hy.out⟩
    case measure=>simp [intOf];omega
  ·obtain rfl:k=l.length:=by omega
   rw [Zg] at hown;obtain ⟨q1,-,-⟩:=qak hown;have q2:=qdv hown;obtain ⟨hh,hA,hx,hn⟩:=zd4 hown q1 q2 hf;clear hown q1 q2 hf;go_wp2_with fail;go_ret;rw [Zg];exact ⟨Ao,co,rfl,hA.out,hx.out,hn.out⟩
namespace Ck
theorem rP {c:CkN} (h:∀z∈c.words,0<=z) (z:Int):0<=wd c z:=by
 unfold wd;rw [gdZ];rcases Nat.lt_or_ge z.toNat c.words.length with hl|hl
 ·rw [geZ hl]
  exact h _ (gmZ hl)
 ·rw [Zi hl]
  exact Int.le_refl _
theorem qi1 {c:CkN} (h:∀z∈c.words,0<=z):∀l:List Int,0<=iC c l
 | []=>by simp [iC]
 | x::r=>by
  have h1:=rP h x;have h2:=qi1 h r;simp only [iC,List.map_cons,List.sum_cons] at h2 ⊢;omega
theorem qg8 {c:CkN} (h:∀z∈c.words,0<=z) (s:CkS) (k id:Int):0<=more c s k id:=by
 unfold more
 repeat' split
 ·exact rP h _
 ·exact rP h _
 ·exact qi1 h _
 ·exact Int.le_refl _
theorem go_less {c:CkN} (h:∀z∈c.words,0<=z) (i:Int × Int) (r:List (Int × Int)) (s:CkS) (hn:s.now=0) (hp:s.aB=0) (hg:(go c s (i::r)).2=0):
  (go (cp c ((go c s (i::r)).1.aB-1)) s (i::r)).2=25:=by
 have hd:(do_ c s i.1 i.2).2=0:=by
  simp only [go] at hg
  split at hg
  ·assumption
  ·rename_i h0;exact absurd hg h0
 have e:go c s (i::r)=go c (do_ c s i.1 i.2).1 r:=by simp only [go];rw [ipZ hd]
 rw [e] at hg ⊢;have hq:=hd;unfold do_ at hq
 split at hq
 ·simp at hq
 ·rename_i h1
  split at hq
  ·simp at hq
  ·rename_i h2
   split at hq
   ·simp at hq
   ·rename_i h3
    have ea:do_ c s i.1 i.2=(act c s i.1 i.2 (s.now+more c s i.1 i.2),0):=by unfold do_;rw [inZ h1,inZ h2,inZ h3]
    have hm:=qg8 h s i.1 i.2;rw [ea] at hg ⊢;generalize hP:(go c (act c s i.1 i.2 (s.now+more c s i.1 i.2),(0:Int)).1 r).1.aB=P at *
    by_cases hb:P-1<s.now+more c s i.1 i.2
    ·have ha:do_ (cp c (P-1)) s i.1 i.2=(s,25):=by
      rw [qN,inZ h1,inZ h2,ipZ hb]
     simp only [go];rw [ha,inZ sZ]
    ·have ha:do_ (cp c (P-1)) s i.1 i.2=(act c s i.1 i.2 (s.now+more c s i.1 i.2),0):=by
      rw [qN,inZ h1,inZ h2,inZ hb]
     simp only [go];rw [ha,ipZ rfl];obtain ⟨_,_,i3,_⟩:=jT c (P-1) r _ hg;rw [nD] at i3;exact i3 oZ oZ
theorem qi2 (n:aA) (a b:Int):base n b=cp (base n a) b:=rfl
theorem pR {n:aA} {ps:List (Int × Int)} {cap:Int} (hc:0<=cap) (h:(run n ps cap).2=0):
  (run n ps cap).1.1<=cap/\0<=(run n ps cap).1.1/\(∀b,(run n ps cap).1.1<=b->run n ps b=run n ps cap)/\(run n ps ((run n ps cap).1.1-1)).2=25:=by
 have hr:=h;unfold run at hr
 split at hr
 ·rename_i h0;exact absurd hr h0
 rename_i h0
 split at hr
 ·rename_i h1;exact absurd hr h1
 rename_i h1
 split at hr
 ·rename_i h2;exact absurd hr h2
 rename_i h2
 split at hr
 ·simp at hr
 rename_i h3
 split at hr
 ·rename_i h4;exact absurd hr h4
 rename_i h4
 have e:run n ps cap=(((go (base n cap) (start (n.o.length+1)) ps).1.aB,(Cd.aD ps (Nt.aD n)).1,Cd.count 2 ps,max (go (base n cap) (start (n.o.length+1)) ps).1.aB (Safe.max ((Nt.words n).drop 1))),0):=by
  unfold run;rw [inZ h0,inZ h1,inZ h2,inZ h3,inZ h4]
 have hd:(go (base n cap) (start (n.o.length+1)) ps).2=0:=by simpa using h2
 have hf:Nt.check n=0:=by simpa using h0
 obtain ⟨g1,_,_,g4⟩:=jT (base n cap) 0 ps _ hd;have g4:=g4 hc;have g1:0<=(go (base n cap) (start (n.o.length+1)) ps).1.aB:=g1;rw [e];refine ⟨g4,g1,λb hb=>?_,?_⟩
 ·have he:=(jT (base n cap) b ps _ hd).2.1 hb
  unfold run;rw [qi2 n cap b,he,inZ h0,inZ h1,inZ h2];have hw:whole (cp (base n cap) b) (go (base n cap) (start (n.o.length+1)) ps).1=whole (base n cap) (go (base n cap) (start (n.o.length+1)) ps).1:=rfl;rw [hw,inZ h3,inZ h4]
 ·have ha:∀z∈(base n cap).words,0<=z:=λz hz=>by have:=Nt.iA hf z hz;omega
  match ps,h1,hd,h3,ha with
  | [],_,_,h3,_=>simp [go,whole,start] at h3
  | i::r,h1,hd,_,ha=>
   have hl:=go_less ha i r (start (n.o.length+1)) rfl rfl hd
   show (run n (i::r) ((go (base n cap) (start (n.o.length+1)) (i::r)).1.aB-1)).2=25
   generalize (go (base n cap) (start (n.o.length+1)) (i::r)).1.aB-1=b at *;unfold run;rw [qi2 n cap b,inZ h0,inZ h1,ipZ (by rw [hl];decide)];exact hl
end Ck
structure POk (c:CkN):Prop where
 w:∀z∈c.words,1<=z
 aH:1<=c.aH/\c.aH<c.words.length
 ins:∀id:Int,0<=id->id<c.words.length->∀i∈Ck.iF c id,0<=i/\i<c.words.length
structure lF (c:CkN) (s:CkS) (x:RfS):Prop where
 there:eB c.words.length s.aG x.there
 saved:eB c.words.length s.sav x.saved
 aF:eB c.words.length s.aN x.aF
 sub:∀z∈x.there,z=0∨z∈x.saved
 gz:(0:Int)∉x.aF
 em:x.em=if s.em then 1 else 0
 sd:x.sd=if s.sd then 1 else 0
 none_:s.sd=false->x.aF=[]
 done:x.done=s.done
 dl:s.done<=c.order.length
 now:s.now=Rf.sum c x
 aB:s.aB=x.aB
 np:s.now<=s.aB
 cap:0<s.now->s.now<=c.cap
namespace Rf
variable {c:CkN} {s:CkS} {x:RfS}
theorem mV {l:List Int} {y z:Int}:z∈with_ l y↔z∈l∨z=y:=by
 unfold with_
 split
 ·rename_i h
  have:y∈l:=by simpa using h
  exact ⟨.inl,λh=>h.elim id λe=>e▸this⟩
 ·simp
theorem nR {l:List Int} {y z:Int}:z∈without l y↔z∈l/\z≠y:=by
 unfold without;simp
theorem wd_one (hc:POk c) {z:Int} (h0:0<=z) (h1:z<c.words.length):1<=Ck.wd c z:=by
 unfold Ck.wd;have:z.toNat<c.words.length:=by omega
 rw [gdZ,geZ this];exact hc.w _ (gmZ this)
theorem uO (hc:POk c) (z:Int):0<=Ck.wd c z:=Ck.rP (λz hz=>by have:=hc.w z hz;omega) z
theorem tw_nn (hc:POk c) (z:Int):0<=tw c z:=by
 unfold tw
 split
 ·exact Int.le_refl _
 ·exact uO hc z
theorem pK {z:Int} (h:z≠0):tw c z=Ck.wd c z:=by unfold tw;rw [inZ h]
theorem fU {k id:Int} (h:Cd.right (k,id)=true) (h4:k≠4) (h5:k≠5):1<=id:=by
 unfold Cd.right at h;simp [h4,h5] at h;exact h.2.1
theorem eX {k id:Int} (h:Cd.right (k,id)=true):0<=id/\(k=1∨k=2∨k=3∨k=4∨k=5∨k=6):=by
 obtain ⟨h1,h2,h3,-⟩:=Cd.kF h;simp only at h1 h2 h3;omega
theorem qgJ (hc:POk c) (hP:lF c s x) {id:Int} (h0:0<=id) (hid:id<c.words.length):Ck.ready c s id=ready c x id:=by
 have:∀l:List Int,(∀i∈l,0<=i/\i<c.words.length)->(l.all λi=>Ck.at_ s.aG i)=l.all λi=>x.there.contains i:=by
  intro l
  induction l with
  | nil=>intro _;rfl
  | cons a r ih=>intro h;rw [List.all_cons,List.all_cons,ih (λi hi=>h i (by simp [hi])),hP.there.at_ (h a sZ).1 (h a sZ).2]
 exact this _ (hc.ins id h0 hid)
theorem qeK (hP:lF c s x) (id:Int):Ck.back c s id=back c x id:=by
 unfold Ck.back back;rw [hP.done,Bool.eq_iff_iff];simp only [decide_eq_true_eq,Zz]
 by_cases hd:s.done<c.order.length
 ·have a1:((c.order.length:Int)-1-(s.done:Int)).toNat=c.order.length-1-s.done:=by omega
  rw [a1];exact ⟨λh=>⟨by omega,h.2⟩,λh=>⟨hd,h.2⟩⟩
 ·exact ⟨λh=>absurd h.1 hd,λh=>absurd h.1 oZ⟩
theorem qgK (hc:POk c) (hP:lF c s x) {k id:Int} (hr:Cd.right (k,id)=true) (hid:id<c.words.length):Ck.bI c s k id=bI c x k id:=by
 obtain ⟨h0,hk⟩:=eX hr;have e1:=hP.saved.at_ h0 hid;have e2:=hP.there.at_ h0 hid;have e3:=hP.aF.at_ h0 hid;have e4:=qgJ hc hP h0 hid;have e5:=qeK hP id
 have ha:id≠0->x.saved.contains id=false->x.there.contains id=false:=λhz h=>by
  rw [Bool.eq_false_iff] at h ⊢;intro ht;rcases hP.sub id (by simpa using ht) with e|e
  ·exact hz e
  ·exact h (by simpa using e)
 rcases hk with rfl|rfl|rfl|rfl|rfl|rfl
 ·have hz:=fU hr dZ dZ
  show (!Ck.at_ s.sav id&&Ck.ready c s id)=((x.saved.contains id==false)&&(!x.there.contains id&&ready c x id))
  rw [e1,e4];cases hb:x.saved.contains id
  ·rw [ha oZ hb];simp
  ·simp
 ·show (Ck.at_ s.sav id&&(!Ck.at_ s.aG id&&Ck.ready c s id))=((x.saved.contains id==true)&&(!x.there.contains id&&ready c x id))
  rw [e1,e2,e4];cases x.saved.contains id<;>simp
 ·show Ck.at_ s.aG id=x.there.contains id
  exact e2
 ·show (Ck.at_ s.aG c.aH&&!s.em)=(x.there.contains c.aH&&!decide (x.em=1))
  rw [hP.there.at_ (by have:=hc.aH.1;omega) hc.aH.2,hP.em];cases s.em<;>simp
 ·show (!s.sd) = !decide (x.sd=1)
  rw [hP.sd];cases s.sd<;>simp
 ·show (Ck.at_ s.aN id&&(Ck.ready c s id&&Ck.back c s id))=(x.aF.contains id&&(ready c x id&&back c x id))
  rw [e3,e4,e5]
theorem act_same (hc:POk c) (hP:lF c s x) {k id:Int} (hr:Cd.right (k,id)=true) (hid:id<c.words.length) (hl:bI c x k id=true):
  (c.cap<s.now+Ck.more c s k id↔c.cap<sum c (step c x k id))/\(s.now+Ck.more c s k id<=c.cap->lF c (Ck.act c s k id (s.now+Ck.more c s k id)) (fin c (step c x k id) k id)):=by
 obtain ⟨h0,hk⟩:=eX hr;have hh:=hP.now;unfold sum at hh;have mx:∀a b n:Int,a=b->max a n=if b<n then n else b:=λa b n e=>by subst e;split<;>omega
 have k12:(k=1∨k=2)->(c.cap<s.now+Ck.more c s k id↔c.cap<sum c (step c x k id))/\(s.now+Ck.more c s k id<=c.cap->lF c (Ck.act c s k id (s.now+Ck.more c s k id)) (fin c (step c x k id) k id)):=λhf=>by
  have hz:1<=id:=fU hr oZ oZ;have hw:=uO hc id
  have ho:id∉x.there:=by
   unfold bI at hl;rw [ipZ hf] at hl;simp at hl;exact hl.2.1
  have em:Ck.more c s k id=Ck.wd c id:=by unfold Ck.more;rw [ipZ hf]
  have es:step c x k id={ x with there:=with_ x.there id,saved:=with_ x.saved id }:=by unfold step;rw [ipZ hf]
  have esum:sum c (step c x k id)=s.now+Ck.wd c id:=by
   rw [es]
   show bR (tw c) (with_ x.there id)+bR (Ck.wd c) x.aF=_
   rw [qbF _ ho,pK oZ];omega
  have ea:∀n,Ck.act c s k id n={ s with aG:=Ck.bO s.aG id true,sav:=Ck.bO s.sav id true,now:=n,aB:=max s.aB n }:=λn=>by unfold Ck.act;rw [ipZ hf]
  have ef:fin c (step c x k id) k id={ x with there:=with_ x.there id,saved:=with_ x.saved id,aB:=if x.aB<s.now+Ck.wd c id then s.now+Ck.wd c id else x.aB }:=by
   unfold fin;rw [esum,es,inZ oZ]
  rw [em,esum];refine ⟨Iff.rfl,λha=>?_⟩;rw [ea,ef];refine ⟨hP.there.with_ h0 hid,hP.saved.with_ h0 hid,hP.aF,λz hj=>?_,hP.gz,hP.em,hP.sd,hP.none_,hP.done,hP.dl,?_,?_,?_,λ_=>ha⟩
  ·rcases mV.1 hj with h|h
   ·rcases hP.sub z h with e|e
    ·exact .inl e
    ·exact .inr (mV.2 (.inl e))
   ·exact .inr (mV.2 (.inr h))
  ·show s.now+Ck.wd c id=bR (tw c) (with_ x.there id)+bR (Ck.wd c) x.aF
   rw [qbF _ ho,pK oZ];omega
  ·exact mx _ _ _ hP.aB
  ·show s.now+Ck.wd c id<=max s.aB (s.now+Ck.wd c id)
   omega
 rcases hk with rfl|rfl|rfl|rfl|rfl|rfl
 ·exact k12 (.inl rfl)
 ·exact k12 (.inr rfl)
 ·have hz:1<=id:=fU hr dZ dZ
  have hb:id∈x.there:=by
   have:x.there.contains id=true:=hl;simpa using this
  have hw:=wd_one hc h0 hid;have h1:=sumF_one (tw_nn hc) hb;have h2:=qf9 (uO hc) x.aF;rw [pK oZ] at h1;have ha:=hP.cap oZ;have hv:=hP.np;have e1:bR (tw c) (without x.there id)=bR (tw c) x.there-Ck.wd c id:=by rw [qb8 _ hP.there.nod hb,pK oZ]
  have esum:sum c (step c x 3 id)=s.now-Ck.wd c id:=by
   show bR (tw c) (without x.there id)+bR (Ck.wd c) x.aF=_
   omega
  have em:Ck.more c s 3 id=0:=rfl;rw [em,esum];refine ⟨⟨λh=>by omega,λh=>by omega⟩,λ_=>?_⟩;have ea:Ck.act c s 3 id (s.now+0)={ s with aG:=Ck.bO s.aG id false,now:=s.now+0-Ck.wd c id,aB:=max s.aB (s.now+0) }:=rfl;have ef:fin c (step c x 3 id) 3 id={ x with there:=without x.there id,aB:=if x.aB<sum c (step c x 3 id) then sum c (step c x 3 id) else x.aB }:=rfl;rw [ea,ef,esum];refine ⟨hP.there.without h0 hid,hP.saved,hP.aF,λz hj=>hP.sub z (nR.1 hj).1,hP.gz,hP.em,hP.sd,hP.none_,hP.done,hP.dl,?_,?_,?_,λ_=>?_⟩
  ·show s.now+0-Ck.wd c id=bR (tw c) (without x.there id)+bR (Ck.wd c) x.aF
   omega
  ·show max s.aB (s.now+0)=if x.aB<s.now-Ck.wd c id then s.now-Ck.wd c id else x.aB
   have:=hP.aB;rw [inZ oZ];omega
  ·show s.now+0-Ck.wd c id<=max s.aB (s.now+0)
   omega
  ·show s.now+0-Ck.wd c id<=c.cap
   omega
 ·have em:Ck.more c s 4 id=0:=rfl
  have esum:sum c (step c x 4 id)=s.now:=by rw [hP.now];rfl
  have ef:fin c (step c x 4 id) 4 id={ x with em:=1,aB:=if x.aB<sum c (step c x 4 id) then sum c (step c x 4 id) else x.aB }:=rfl;rw [em,ef,esum,Int.add_zero];refine ⟨Iff.rfl,λha=>?_⟩;exact ⟨hP.there,hP.saved,hP.aF,hP.sub,hP.gz,rfl,hP.sd,hP.none_,hP.done,hP.dl,hP.now,mx _ _ _ hP.aB,show s.now<=max s.aB s.now by omega,λ_=>ha⟩
 ·have hn:s.sd=false:=by
   have:(!decide (x.sd=1))=true:=hl;rw [hP.sd] at this;cases h:s.sd
   ·rfl
   ·rw [h] at this;simp at this
  have hg:=hP.none_ hn;have em:Ck.more c s 5 id=Ck.wd c c.aH:=rfl;have hq:c.aH∉x.aF:=by rw [hg];simp
  have esum:sum c (step c x 5 id)=s.now+Ck.wd c c.aH:=by
   show bR (tw c) x.there+bR (Ck.wd c) (with_ x.aF c.aH)=_
   rw [qbF _ hq];omega
  have ea:∀n,Ck.act c s 5 id n={ s with sd:=true,aN:=Ck.bO s.aN c.aH true,now:=n,aB:=max s.aB n }:=λn=>rfl
  have ef:fin c (step c x 5 id) 5 id={ x with sd:=1,aF:=with_ x.aF c.aH,aB:=if x.aB<sum c (step c x 5 id) then sum c (step c x 5 id) else x.aB }:=rfl;have hs:0<=c.aH:=by have:=hc.aH.1;omega
  rw [em,ea,ef,esum];refine ⟨Iff.rfl,λha=>?_⟩;refine ⟨hP.there,hP.saved,hP.aF.with_ hs hc.aH.2,hP.sub,λhz=>?_,hP.em,rfl,(λh=>by cases h),hP.done,hP.dl,?_,mx _ _ _ hP.aB,show s.now+Ck.wd c c.aH<=max s.aB (s.now+Ck.wd c c.aH) by omega,λ_=>ha⟩
  ·rcases mV.1 hz with h|h
   ·exact hP.gz h
   ·have:=hc.aH.1;omega
  ·show s.now+Ck.wd c c.aH=bR (tw c) x.there+bR (Ck.wd c) (with_ x.aF c.aH)
   rw [qbF _ hq];omega
 ·have hz:1<=id:=fU hr dZ dZ
  have hp:(x.aF.contains id&&(ready c x id&&back c x id))=true:=hl;rw [Zz,Zz] at hp;obtain ⟨g1,-,g3⟩:=hp;have hb:id∈x.aF:=by simpa using g1
  have hx:s.done<c.order.length:=by
   rw [←qeK hP id] at g3;unfold Ck.back at g3;simp only [decide_eq_true_eq] at g3;exact g3.1
  have hn:s.sd=true:=by
   cases h:s.sd
   ·rw [hP.none_ h] at hb;cases hb
   ·rfl
  have hi:=hc.ins id h0 hid;have he:=qbG hP.aF (Ck.iF c id) [] hi;have hd:=iY hP.aF (Ck.iF c id) [] hi List.nodup_nil (λz h=>by cases h);rw [List.append_nil] at he;have ht:Ck.bD s.aN [] (Ck.iF c id)=Ck.fresh c s id:=rfl;rw [ht] at he hd;have hL:=eB.sets (Ck.fresh c s id) hP.aF hd.1 (λz h=>⟨(hd.2 z h).1,(hd.2 z h).2.1⟩);have em:Ck.more c s 6 id=bR (Ck.wd c) (Ck.fresh c s id):=rfl
  have esum:sum c (step c x 6 id)=s.now+bR (Ck.wd c) (Ck.fresh c s id):=by
   show bR (tw c) x.there+bR (Ck.wd c) (gr x.aF (Ck.iF c id))=_
   rw [he,qfR];omega
  have ea:∀n,Ck.act c s 6 id n={ s with aN:=Ck.bO (Ck.sets s.aN (Ck.fresh c s id)) id false,now:=n-Ck.wd c id,aB:=max s.aB n,done:=s.done+1 }:=λn=>rfl
  have ef:fin c (step c x 6 id) 6 id={ x with aF:=without (gr x.aF (Ck.iF c id)) id,done:=x.done+1,aB:=if x.aB<sum c (step c x 6 id) then sum c (step c x 6 id) else x.aB }:=rfl;rw [em,ea,ef,esum,he];have hm:id∈x.aF++Ck.fresh c s id:=by simp [hb]
  have hw:=uO hc id;refine ⟨Iff.rfl,λha=>?_⟩;refine ⟨hP.there,hP.saved,hL.without h0 hid,hP.sub,λhu=>?_,hP.em,hP.sd,(λh=>by rw [hn] at h;cases h),?_,?_,?_,mx _ _ _ hP.aB,?_,λ_=>?_⟩
  ·rcases List.mem_append.1 (nR.1 hu).1 with h|h
   ·exact hP.gz h
   ·exact (hd.2 0 h).2.2 rfl
  ·show x.done+1=((s.done+1:Nat):Int)
   rw [hP.done];omega
  ·show s.done+1<=c.order.length
   omega
  ·show s.now+bR (Ck.wd c) (Ck.fresh c s id)-Ck.wd c id=bR (tw c) x.there+bR (Ck.wd c) (without (x.aF++Ck.fresh c s id) id)
   rw [qb8 _ hL.nod hm,qfR];omega
  ·show s.now+bR (Ck.wd c) (Ck.fresh c s id)-Ck.wd c id<=max s.aB (s.now+bR (Ck.wd c) (Ck.fresh c s id))
   omega
  ·show s.now+bR (Ck.wd c) (Ck.fresh c s id)-Ck.wd c id<=c.cap
   omega
theorem do_same (hc:POk c) (hP:lF c s x) {k id:Int} (hr:Cd.right (k,id)=true):(Ck.do_ c s k id).2=(do_ c x k id).2/\lF c (Ck.do_ c s k id).1 (do_ c x k id).1:=by
 unfold Ck.do_ do_
 by_cases hd:(c.words.length:Int)<=id
 ·rw [ipZ (.inr hd),ipZ hd];exact ⟨rfl,hP⟩
 have hb:id<c.words.length:=by omega
 rw [inZ (by rw [hr];simp;omega),inZ hd,qgK hc hP hr hb];cases hl:bI c x k id
 ·simp;exact hP
 rw [inZ (show ¬(true=false) by decide),inZ (show ¬(true=false) by decide)];obtain ⟨h1,h2⟩:=act_same hc hP hr hb hl
 by_cases ha:c.cap<s.now+Ck.more c s k id
 ·rw [ipZ ha,ipZ (h1.1 ha)];exact ⟨rfl,hP⟩
 ·rw [inZ ha,inZ (λh=>ha (h1.2 h))];exact ⟨rfl,h2 oZ⟩
theorem rQ (hc:POk c):∀ {ps:List (Int × Int)} {s:CkS} {x:RfS},lF c s x->ps.all Cd.right=true->(Ck.go c s ps).2=(go c x ps).2/\lF c (Ck.go c s ps).1 (go c x ps).1
 | [],s,x,hP,_=>⟨rfl,hP⟩
 | i::r,s,x,hP,ha=>by
  rw [List.all_cons,Zz] at ha;obtain ⟨h1,h2⟩:=do_same hc hP (k:=i.1) (id:=i.2) ha.1;unfold Ck.go go;rw [←h1]
  by_cases he:(Ck.do_ c s i.1 i.2).2=0
  ·rw [ipZ he,ipZ he];exact rQ hc h2 ha.2
  ·rw [inZ he,inZ he];exact ⟨h1,h2⟩
theorem kZ (c:CkN) (x:RfS) (a:List (Int × Int)) (i:Int × Int) (h:(go c x a).2=0):go c x (a++[i])=do_ c (go c x a).1 i.1 i.2:=by
 induction a generalizing x with
 | nil=>
  simp only [List.nil_append,go]
  split
  ·rename_i h0;rw [←h0]
  ·rfl
 | cons y r ih=>
  simp only [List.cons_append,go] at h ⊢
  split
  ·rename_i h0;rw [ipZ h0] at h;exact ih _ h
  ·rename_i h0;rw [inZ h0] at h;exact absurd h h0
theorem oK (c:CkN) (x:RfS) (a b:List (Int × Int)) (h:(go c x a).2≠0):go c x (a++b)=go c x a:=by
 induction a generalizing x with
 | nil=>exact absurd rfl h
 | cons y r ih=>
  simp only [List.cons_append,go] at h ⊢
  split
  ·rename_i h0;rw [ipZ h0] at h;exact ih _ h
  ·rfl
theorem iG (hc:POk c) (hn:1<=c.words.length):lF c (Ck.start c.words.length) start:=by
 have ha:∀z:Int,Ck.at_ (Zc c.words.length false) z=false:=λz=>by
  unfold Ck.at_;rw [gdZ];rcases Nat.lt_or_ge z.toNat c.words.length with h|h
  ·simp [h]
  ·simp [h]
 have he:eB c.words.length (Zc c.words.length false) []:=⟨by simp,(λz h=>by cases h),List.nodup_nil,(λz _ _=>by rw [ha];simp)⟩
 have h0:=he.put (z:=0) oZ oZ sZ;refine ⟨h0,he,he,λz hz=>?_,by simp [start],rfl,rfl,λ_=>rfl,rfl,Zt _,rfl,rfl,Int.le_refl _,λh=>?_⟩
 ·exact .inl (by simpa [start] using hz)
 ·exact absurd h (by simp [Ck.start])
end Rf
structure RfF where
 A:Option Addr
 N:Option Addr
 Wd:Option Addr
 Or:Option Addr
 c:Nat
 d:Nat
 cw:Nat
 co:Nat
structure RfV where
 Th:Option Addr
 Sa:Option Addr
 Gr:Option Addr
 ct:Nat
 cs:Nat
 cg:Nat
def RfF.cells (F:RfF) (V:RfV) (n:aA) (c:CkN) (x:RfS):Array Value:=
 #[sQ F.A n.inn.length F.c,sQ F.N n.o.length F.d,sQ F.Wd c.words.length F.cw,sQ F.Or c.order.length F.co,nQ iQ c.aH,nQ iQ c.cap,sQ V.Th x.there.length V.ct,sQ V.Sa x.saved.length V.cs,sQ V.Gr x.aF.length V.cg,nQ iQ x.em,nQ iQ x.sd,nQ iQ x.done,nQ iQ x.aB]
structure RfF.Fix (F:RfF) (n:aA) (c:CkN) (w:Zp1):Prop where
 net:bC w F.A F.N n
 words:Ints iQ w F.Wd c.words
 ord:Ints iQ w F.Or c.order
structure RfV.At (V:RfV) (x:RfS) (w:Zp1):Prop where
 there:Ints iQ w V.Th x.there
 saved:Ints iQ w V.Sa x.saved
 aF:Ints iQ w V.Gr x.aF
theorem RfF.Fix.later {F:RfF} {n:aA} {c:CkN} {w w':Zp1} (h:F.Fix n c w) (hl:Later w w'):F.Fix n c w':=⟨h.net.below hl (lrZ _),h.words.below hl (lrZ _),h.ord.below hl (lrZ _)⟩
theorem RfV.At.later {V:RfV} {x:RfS} {w w':Zp1} (h:V.At x w) (hl:Later w w'):V.At x w':=⟨h.there.below hl (lrZ _),h.saved.below hl (lrZ _),h.aF.below hl (lrZ _)⟩
structure RfC (n:aA) (c:CkN):Prop where
 ok:n.ok
 nl:n.o.length<=512
 wl:c.words.length=n.o.length+1
 w:∀z∈c.words,1<=z/\z<=65536
 ins:∀k (h:k<n.o.length),Ck.iF c ((k+1:Nat):Int)=n.o[k].ins
 rng:∀k (h:k<n.o.length),∀i∈n.o[k].ins,0<=i/\i<c.words.length
 ol:c.order.length<=512
 aH:1<=c.aH/\c.aH<c.words.length
theorem RfC.pok {n:aA} {c:CkN} (h:RfC n c) (h0:Ck.iF c 0=[]):POk c:=by
 refine ⟨λz hz=>(h.w z hz).1,h.aH,λid i0 i1 i hi=>?_⟩;obtain ⟨m,rfl⟩:=ezZ i0;rcases m with _|m
 ·rw [show ((0:Nat):Int)=0 from rfl,h0] at hi;cases hi
 ·have hm:m<n.o.length:=by have:=h.wl;omega
  rw [h.ins m hm] at hi;exact h.rng m hm i hi
def Rf.Good (L:Nat) (l:List Int):Prop:=l.Nodup/\∀z∈l,0<=z/\z<L
theorem Rf.Good.len {L:Nat} {l:List Int} (h:Rf.Good L l):l.length<=L:=Rf.jH L l h.1 h.2
theorem Rf.Good.with_ {L:Nat} {l:List Int} (h:Rf.Good L l) {z:Int} (hz:0<=z/\z<L):Rf.Good L (Rf.with_ l z):=by
 unfold Rf.with_
 split
 ·exact h
 ·rename_i hc
  have hn:z∉l:=by simpa using hc
  refine ⟨?_,λy hy=>?_⟩
  ·rw [List.nodup_append]
   refine ⟨h.1,by simp,λa ha b hb e=>?_⟩;simp at hb;subst hb;subst e;exact hn ha
  ·rcases List.mem_append.1 hy with hy|hy
   ·exact h.2 y hy
   ·simp at hy;subst hy;exact hz
theorem Rf.Good.without {L:Nat} {l:List Int} (h:Rf.Good L l) (z:Int):Rf.Good L (Rf.without l z):=⟨h.1.filter _,λy hy=>h.2 y (List.mem_filter.1 hy).1⟩
theorem Rf.Good.gr {L:Nat}:∀(ins:List Int) {l:List Int},Rf.Good L l->(∀i∈ins,0<=i/\i<L)->Rf.Good L (Rf.gr l ins)
 | [],_,h,_=>h
 | i::r,l,h,hi=>by
  show Rf.Good L (Rf.gr (if i≠0 then Rf.with_ l i else l) r)
  split
  ·exact Rf.Good.gr r (h.with_ (hi i sZ)) λz hz=>hi z (by simp [hz])
  ·exact Rf.Good.gr r h λz hz=>hi z (by simp [hz])
structure Rf.GoodS (c:CkN) (x:RfS):Prop where
 there:Rf.Good c.words.length x.there
 saved:Rf.Good c.words.length x.saved
 aF:Rf.Good c.words.length x.aF
theorem lF.good {c:CkN} {s:CkS} {x:RfS} (h:lF c s x):Rf.GoodS c x:=⟨⟨h.there.nod,h.there.rng⟩,⟨h.saved.nod,h.saved.rng⟩,⟨h.aF.nod,h.aF.rng⟩⟩
theorem Rf.lS {f:Int->Int} {B:Int} (h:∀z,0<=f z/\f z<=B):∀l:List Int,0<=Rf.bR f l/\Rf.bR f l<=l.length*B
 | []=>by simp [Rf.bR]
 | x::r=>by
  have h1:=h x;have h2:=Rf.lS h r;simp only [Rf.bR,List.map_cons,List.sum_cons,List.length_cons] at h2 ⊢;rw [show ((r.length+1:Nat):Int)*B=r.length*B+B by rw [Int.natCast_add,Int.add_mul];simp];omega
theorem Rf.vK {c:CkN} (h:∀z∈c.words,1<=z/\z<=65536) (z:Int):0<=Ck.wd c z/\Ck.wd c z<=65536:=by
 unfold Ck.wd;rw [gdZ];rcases Nat.lt_or_ge z.toNat c.words.length with hl|hl
 ·rw [geZ hl]
  have:=h _ (gmZ hl);simp only [Option.getD_some];omega
 ·rw [Zi hl];simp
theorem Rf.vS {c:CkN} (h:∀z∈c.words,1<=z/\z<=65536) (z:Int):0<=Rf.tw c z/\Rf.tw c z<=65536:=by
 unfold Rf.tw
 split
 ·omega
 ·exact Rf.vK h z
theorem Rf.rH (f:Int->Int) {l:List Int} {k:Nat} (h:k<l.length):Rf.bR f (l.take (k+1))=Rf.bR f (l.take k)+f l[k]:=by
 rw [Zb h,Rf.qL]
theorem RfF.aC {F:RfF} {V:RfV} {n:aA} {c:CkN} {x:RfS} {w:Zp1} {g:Nat} {t:TypeId} (h:Blk w g t (F.cells V n c x)):
  w.cell? ⟨g,0,none⟩=some (sQ F.A n.inn.length F.c)/\w.cell? ⟨g,1,none⟩=some (sQ F.N n.o.length F.d)/\w.cell? ⟨g,2,none⟩=some (sQ F.Wd c.words.length F.cw)/\w.cell? ⟨g,3,none⟩=some (sQ F.Or c.order.length F.co)/\w.cell? ⟨g,4,none⟩=some (nQ iQ c.aH)/\w.cell? ⟨g,5,none⟩=some (nQ iQ c.cap)/\w.cell? ⟨g,6,none⟩=some (sQ V.Th x.there.length V.ct)/\w.cell? ⟨g,7,none⟩=some (sQ V.Sa x.saved.length V.cs)/\w.cell? ⟨g,8,none⟩=some (sQ V.Gr x.aF.length V.cg)/\w.cell? ⟨g,9,none⟩=some (nQ iQ x.em)/\w.cell? ⟨g,10,none⟩=some (nQ iQ x.sd)/\w.cell? ⟨g,11,none⟩=some (nQ iQ x.done)/\w.cell? ⟨g,12,none⟩=some (nQ iQ x.aB):=by
 refine ⟨?_,?_,?_,?_,?_,?_,?_,?_,?_,?_,?_,?_,?_⟩<;>rw [h.cell]<;>rfl
set_option maxRecDepth 100000 in
theorem qaZ (F:RfF) (V:RfV) (n:aA) (c:CkN) (x:RfS) (w:Zp1) (hC:RfC n c) (hG:Rf.GoodS c x) (hF:F.Fix n c w) (hV:V.At x w):
  Calls prog 101 #[.agg (F.cells V n c x)] w λe w'=>e=.returned (nQ iQ (Rf.sum c x))/\Later w w':=by
 have hj:Later w (w.alloc (.cells (F.cells V n c x) 125)):=(Later.refl w).alloc _;have hk:=Blk.new w 125 (F.cells V n c x);have hx:=hF.words.below hj (lrZ _);have hB:=hV.there.below hj (lrZ _);have hy:=hV.aF.below hj (lrZ _);have hT:=hG.there;have hs:=hG.aF;have hu:=hC.wl;have hX:=hC.nl;have hZ:x.there.length<=1000:=by have:=hT.len;omega
 have h0:x.aF.length<=1000:=by have:=hs.len;omega
 have hv:=λk=>Rf.lS (Rf.vS hC.w) (x.there.take k)
 have hw:=λk=>Rf.lS (Rf.vK hC.w) (x.aF.take k)
 have hD:=Rf.lS (Rf.vS hC.w) x.there;have hE:=Rf.vK hC.w;have hh:Rf.sum c x=Rf.bR (Rf.tw c) x.there+Rf.bR (Ck.wd c) x.aF:=rfl;obtain ⟨-,-,y2,-,-,-,y6,-,y8,-⟩:=RfF.aC hk;have hH:=And.intro y2 (And.intro y6 y8);clear y2 y6 y8 hC hG hF hV hk;generalize F.cells V n c x=cs at *;generalize F.Wd=Wd at *;generalize V.Th=Th at *;generalize V.Gr=Gr at *;generalize Rf.sum c x=sm at *;generalize x.there=th at *;generalize x.aF=gr at *;obtain ⟨hQ,hJ,hL,hM,hO,hU,hP,hA,HT⟩:=zd9 hj hx hB hy hv hw hD hE hT;obtain ⟨hN,hm,hW,hI⟩:=zd4 hs hh hu hH;clear hj hx hB hy hv hw hD hE hT hs hh hu hH;go_in;go_wp2_with fail;generalize w.alloc (.cells cs 125)=w1 at *
 go_loopw [3,4] (λt i wx=>∃k:Nat,k<=th.length/\i=nQ iQ (k:Int)/\t=nQ iQ (Rf.bR (Rf.tw c) (th.take k))/\Later w1 wx) (λ_ i _=>th.length-(intOf i).toNat)
 case atStart=>exact ⟨0,Zt _,rfl,rfl,Later.refl _⟩
 case round=>
  obtain ⟨k,hk,rfl,rfl,ha⟩:=hrel;obtain ⟨y2,y6,y8⟩:=hI.out;have z2:=ha.cell y2;have z6:=ha.cell y6;clear y2 y6 y8
  by_cases hd:k<th.length
  ·obtain ⟨b,off,hb,-,hc⟩:=hL.out.below ha (lrZ _) k hd
   rw [qa2 hd] at hc;have hr:=HT.out.2 _ (gmZ hd);have hf:=Rf.rH (Rf.tw c) hd;have hp:=hO.out k;have ht:((th.take k).length:Int)*65536<=1000*65536:=Int.mul_le_mul_of_nonneg_right soZ oZ;generalize th[k]=z at *;generalize Rf.bR (Rf.tw c) (th.take k)=t at *;subst hb;have k0:(k:Int)<(th.length:Int):=by omega
   by_cases hz:z=0
   ·have e1:(z != 0)=false:=by simp [hz]
    have HS:=zI (show Rf.bR (Rf.tw c) (th.take (k+1))=t by rw [hf,hz];simp [Rf.tw]);have hn:=zI ha;clear ha;clear hz hf;go_wp2_with fail;go_roundw
    case rel=>exact ⟨k+1,by omega,by go_num,by rw [HS.out],hn.out⟩
    case measure=>simp [intOf];omega
   ·have e1:(z != 0)=true:=by simp [hz]
    have HS:=zI (show Rf.bR (Rf.tw c) (th.take (k+1))=t+Ck.wd c z by rw [hf,Rf.pK hz]);obtain ⟨zn,rfl⟩:=ezZ hr.1;have hq:zn<c.words.length:=by omega
    obtain ⟨b2,o2,ho,-,hl⟩:=hJ.out.below ha (lrZ _) zn hq;subst ho;have hK:=hA.out zn
    change _=some (Za1 iQ (Ck.wd c zn)) at hl
    generalize Ck.wd c zn=wz at *;have hi:iQ.wrap (t+wz)=t+wz:=Zc1 _ oZ;have hg:=zI (λn=>ha.trans (Later.drewN (Later.refl _) n));have k1:(zn:Int)<(c.words.length:Int):=by omega
    clear hz hf ha hp ht;go_wp2_with fail
    go_quiet (fail)
    go_wp2_with fail;go_roundw
    case rel=>exact ⟨k+1,by omega,by go_num,by rw [HS.out],hg.out _⟩
    case measure=>simp [intOf];omega
  ·obtain rfl:k=th.length:=by omega
   rw [Zg];have h1:=hP.out;have hS:(th.length:Int)*65536<=1000*65536:=Int.mul_le_mul_of_nonneg_right oZ oZ;have hR:=zI hm.out;generalize Rf.bR (Rf.tw c) th=t0 at *;have hn:=zI ha;clear ha;go_wp2_with fail
   go_loopw [3,5] (λt i wx=>∃k:Nat,k<=gr.length/\i=nQ iQ (k:Int)/\t=nQ iQ (t0+Rf.bR (Ck.wd c) (gr.take k))/\Later w1 wx) (λ_ i _=>gr.length-(intOf i).toNat)
   case atStart=>exact ⟨0,Zt _,rfl,by simp [Rf.bR],hn.out⟩
   case round=>
    clear z2 z6;obtain ⟨k,hk,rfl,rfl,he⟩:=hrel;obtain ⟨y2,y6,y8⟩:=hI.out;have z2:=he.cell y2;have z8:=he.cell y8;clear y2 y6 y8
    by_cases hd:k<gr.length
    ·obtain ⟨b,off,hb,-,hc⟩:=hM.out.below he (lrZ _) k hd
     rw [qa2 hd] at hc;have hr:=hN.out.2 _ (gmZ hd);have hf:=Rf.rH (Ck.wd c) hd;have hp:=hU.out k;have ht:((gr.take k).length:Int)*65536<=1000*65536:=Int.mul_le_mul_of_nonneg_right soZ oZ;generalize gr[k]=z at *;generalize Rf.bR (Ck.wd c) (gr.take k)=t at *;subst hb;have k0:(k:Int)<(gr.length:Int):=by omega
     have HS:=zI hf;obtain ⟨zn,rfl⟩:=ezZ hr.1;have hq:zn<c.words.length:=by omega
     obtain ⟨b2,o2,ho,-,hl⟩:=hJ.out.below he (lrZ _) zn hq;subst ho;have hK:=hA.out zn
     change _=some (Za1 iQ (Ck.wd c zn)) at hl
     generalize Ck.wd c zn=wz at *;have hi:iQ.wrap (t0+t+wz)=t0+t+wz:=Zc1 _ oZ;have HE:=zI (show t0+(t+wz)=t0+t+wz by omega);have hg:=zI (λn=>he.trans (Later.drewN (Later.refl _) n));have k1:(zn:Int)<(c.words.length:Int):=by omega
     clear hf he hp ht;go_wp2_with fail
     go_quiet (fail)
     go_wp2_with fail;go_roundw
     case rel=>exact ⟨k+1,by omega,by go_num,by rw [HS.out,HE.out],hg.out _⟩
     case measure=>simp [intOf];omega
    ·obtain rfl:k=gr.length:=by omega
     rw [Zg];have HE:=zI (show sm=t0+Rf.bR (Ck.wd c) gr from hR.out);have HL:=zI (hQ.out.trans he);have hY:=zI he;clear he;go_wp2_with fail;go_ret;exact ⟨by rw [HE.out];rfl,HL.out⟩
set_option maxRecDepth 100000 in
theorem qby (F:RfF) (V:RfV) (n:aA) (c:CkN) (x:RfS) (w:Zp1) (hC:RfC n c) (hG:Rf.GoodS c x) (hF:F.Fix n c w) (hV:V.At x w) (m:Nat) (hm:m<n.o.length):
  Calls prog 98 #[.agg (F.cells V n c x),nQ iQ ((m+1:Nat):Int)] w λe w'=>e=.returned (.bool (Rf.ready c x ((m+1:Nat):Int)))/\Later w w':=by
 have hi:Later w (w.alloc (.cells (F.cells V n c x) 125)):=(Later.refl w).alloc _;have hk:=Blk.new w 125 (F.cells V n c x);have hq:=hV.there.below hi (lrZ _);have hJ:=hC.nl;have hl:=hC.wl;have hH:x.there.length<=1000:=by have:=hG.there.len;omega
 have ht:=(hF.later hi).net.2;have he:=hC.ins m hm;have hs:=hC.ok.2.2 _ (gmZ hm);obtain ⟨-,y1,-,-,-,-,y6,-⟩:=RfF.aC hk;obtain ⟨b,off,S,sc,J,ic,Q,qc,hw,hx,-,hI,-⟩:=ht.at_ hm;have hK:=hs.2.2.1;have hj:Rf.ready c x ((m+1:Nat):Int)=n.o[m].ins.all λi=>x.there.contains i:=by unfold Rf.ready;rw [he]
 have hn:((m+1:Nat):Int)=(m:Int)+1:=by omega
 rw [hn] at hj ⊢;generalize n.o[m]=v at *;obtain ⟨⟨-,-,-,-,-,-,-,-,y8,-⟩,-,hp,-⟩:=hx;have j1:iQ.wrap ((m:Int)+1-1)=(m:Int):=by rw [Zc1 _ oZ];omega
 have j2:(m:Int)<n.o.length:=by omega
 have j0:(0:Int)<=(m:Int):=by omega
 clear hC hG hF hV hk ht he hs hI hn;generalize F.cells V n c x=cs at *;generalize F.N=N at *;generalize V.Th=Th at *;generalize Rf.ready c x ((m:Int)+1)=rv at *;generalize x.there=th at *;subst hw;have hr:=y6;obtain ⟨hv,hy,hA,hu,hE,hD⟩:=zd6 hi hq hp hj hl hr;clear hi hq hp hj hl hr;go_in;go_wp2_with fail;generalize w.alloc (.cells cs 125)=w1 at *
 go_loopw [6] (λi wx=>∃k:Nat,k<=v.ins.length/\i=nQ iQ (k:Int)/\((v.ins.take k).all λi=>th.contains i)=true/\Later w1 wx) (λi _=>v.ins.length-(intOf i).toNat)
 case atStart=>exact ⟨0,Zt _,rfl,rfl,Later.refl _⟩
 case round=>
  clear y1 y6 y8;obtain ⟨k,hk,rfl,hd,hb⟩:=hrel
  by_cases hg:k<v.ins.length
  ·have z6:=hb.cell hD.out
   obtain ⟨b3,o3,hB,-,hz⟩:=hA.out.below hb (lrZ _) k hg;subst hB;rw [qa2 hg] at hz;have HT:=zI (Zb hg);have hc:v.ins[k]∈v.ins:=gmZ hg;generalize v.ins[k]=u at *;have ha:=zI (λn=>qaf Th V.ct th u (wr.drewN n) oZ ((hy.out.below hb (lrZ _)).drewN n));have k0:(k:Int)<(v.ins.length:Int):=by omega
   have ho:=zI (λn=>hb.trans (Later.drewN (Later.refl _) n))
   by_cases hh:qaR th u=true
   ·have HA:=zI (show ((v.ins.take (k+1)).all λi=>th.contains i)=true by rw [HT.out,List.all_append,hd];simpa [qaR] using hh)
    rw [hh] at ha;clear hh hd hb hc;go_wp2_with fail
    go_quiet ((go_at_call 57;exact qab (ha.out _)))
    go_wp2_with fail;go_roundw
    case rel=>exact ⟨k+1,by omega,by go_num,HA.out,ho.out _⟩
    case measure=>simp [intOf];omega
   ·have hf:qaR th u=false:=by simpa using hh
    have HE:=zI (show rv=false by
     rw [hu.out,List.all_eq_false];exact ⟨u,hc,by rw [show th.contains u=false from hf];simp⟩)
    rw [hf] at ha;clear hh hf hd hb hc;go_wp2_with fail
    go_quiet ((go_at_call 57;exact qab (ha.out _)))
    go_wp2_with fail;go_ret;exact ⟨by rw [HE.out];rfl,hv.out.trans (ho.out _)⟩
  ·obtain rfl:k=v.ins.length:=by omega
   rw [Zg] at hd;have HE:=zI (show rv=true by rw [hu.out,hd]);have HL:=zI (hv.out.trans hb);clear hd hb;go_wp2_with fail;go_ret;exact ⟨by rw [HE.out];rfl,HL.out⟩
namespace Rf
variable {c:CkN} {s:CkS} {x y:RfS}
theorem oH {n:aA} (h:Nt.check n=0) (hok:n.ok) (cap:Int):RfC n (Ck.base n cap):=by
 obtain ⟨h1,h2,h3,h4,h5,h6,h7,h8⟩:=Nt.aL h;have hw:=Nt.bX h;obtain ⟨-,l1,l2⟩:=Nt.dD h7;refine ⟨hok,h2,hw,Nt.iA h,λk hk=>?_,λk hk i hi=>?_,?_,?_⟩
 ·show ([]::n.o.map (·.ins)).getD ((k+1:Nat):Int).toNat []=_
  rw [tnZ,List.getD_cons_succ,gdZ,List.getElem?_map,geZ hk]
  rfl
 ·obtain ⟨-,hb⟩:=Nt.fD h4 _ (gmZ hk)
  have:=hb i hi
  show 0<=i/\i<((Nt.words n).length:Int)
  omega
 ·show (Nt.sO n.o).length<=512;omega
 ·show 1<=Nt.aH n.o/\Nt.aH n.o<((Nt.words n).length:Int);omega
theorem qF {n:aA} (h:Nt.check n=0) (hok:n.ok) (cap:Int):POk (Ck.base n cap):=(oH h hok cap).pok rfl
theorem qgL {n:aA} (h:Nt.check n=0) (hok:n.ok) (cap:Int):lF (Ck.base n cap) (Ck.start (n.o.length+1)) start:=by
 have hw:=Nt.bX h;have:=iG (qF h hok cap) (show 1<=(Nt.words n).length by omega);rw [show (Ck.base n cap).words.length=n.o.length+1 from hw] at this;exact this
theorem do_ok {k id:Int} (h:(do_ c x k id).2=0):id<c.words.length/\bI c x k id=true/\(do_ c x k id).1=fin c (step c x k id) k id:=by
 unfold do_ at h ⊢
 split at h
 ·simp at h
 ·rename_i h1
  split at h
  ·simp at h
  ·rename_i h2
   split at h
   ·simp at h
   ·rename_i h3
    rw [inZ h1,inZ h2,inZ h3];exact ⟨by omega,by simpa using h2,rfl⟩
theorem count_cons (kind:Int) (p:Int × Int) (r:List (Int × Int)):Cd.count kind (p::r)=(if p.1=kind then 1 else 0)+Cd.count kind r:=by
 show (if (p.1==kind)=true then 1 else 0)+Cd.count kind r=_
 simp only [beq_iff_eq]
theorem pU {n:aA} (h:Nt.check n=0) (k:Nat):0<=(Nt.aD n).getD k 0/\(Nt.aD n).getD k 0<=4294967296:=by
 rw [gdZ];rcases Nat.lt_or_ge k (Nt.aD n).length with hl|hl
 ·rw [geZ hl]
  have:=gmZ hl;rcases List.mem_cons.1 this with e|hm
  ·show 0<=(Nt.aD n)[k]/\(Nt.aD n)[k]<=_
   rw [e];omega
  ·exact Nt.kQ h n.o.length (lrZ _) _ hm
 ·rw [Zi hl];simp
theorem qft {n:aA} (h:Nt.check n=0) (ps:List (Int × Int)):∀z∈Cd.aJ (Nt.aD n) ps,0<=z/\z<=4294967296:=λz hz=>by
 unfold Cd.aJ at hz;obtain ⟨p,_,rfl⟩:=List.mem_map.1 hz;exact pU h _
theorem cost_part {n:aA} (h:Nt.check n=0) (ps:List (Int × Int)):0<=Safe.sum (Cd.aJ (Nt.aD n) ps)/\Safe.sum (Cd.aJ (Nt.aD n) ps)<=ps.length*4294967296:=by
 have h1:=Nt.jA (qft h ps);have h2:=Cd.nU (Nt.aD n) ps;have h3:((Cd.aJ (Nt.aD n) ps).length:Int)*4294967296<=ps.length*4294967296:=Int.mul_le_mul_of_nonneg_right oZ oZ;omega
theorem go_step {ps:List (Int × Int)} {k:Nat} (hk:k<ps.length) (h:go c x (ps.take k)=(y,0)):go c x (ps.take (k+1))=do_ c y ps[k].1 ps[k].2:=by
 rw [Zb hk,kZ c x (ps.take k) ps[k] (by rw [h]),h]
theorem go_stop {ps:List (Int × Int)} {k:Nat} (h:(go c x (ps.take k)).2≠0):go c x ps=go c x (ps.take k):=by
 have:=oK c x (ps.take k) (ps.drop k) h
 rwa [Zn] at this
theorem rel_at {n:aA} (h:Nt.check n=0) (hok:n.ok) {cap:Int} {ps:List (Int × Int)} (ha:ps.all Cd.right=true):lF (Ck.base n cap) (Ck.go (Ck.base n cap) (Ck.start (n.o.length+1)) ps).1 (go (Ck.base n cap) start ps).1:=
 (rQ (qF h hok cap) (qgL h hok cap) ha).2
end Rf
namespace Gr
def aB (n:aA) (keep:List Int):Int:=(Ck.go (Ck.base n 1073741824) (Ck.start (n.o.length+1)) (Rt.lW n keep).code).1.aB
def cost (n:aA) (keep:List Int):Int:=Safe.sum (Cd.aJ (Nt.aD n) (Rt.lW n keep).code)
theorem sP {n:aA} (h:Nt.check n=0) (hok:n.ok) (h12:n.o.length<=12) (keep:List Int):
  (Ck.go (Ck.base n 1073741824) (Ck.start (n.o.length+1)) (Rt.lW n keep).code).2=0/\(Rf.go (Ck.base n 1099511627776) Rf.start (Rt.lW n keep).code).2=0/\
   (Rf.go (Ck.base n 1099511627776) Rf.start (Rt.lW n keep).code).1.aB=aB n keep/\1<=aB n keep/\aB n keep<=1073741824:=by
 obtain ⟨pk,co,ag,hi,e,p1,p2,-⟩:=Rw.kG h h12 keep;unfold Ck.run at e;rw [inZ (by simp [h])] at e
 split at e
 ·rename_i hc;exact absurd (congrArg Prod.snd e) hc
 rename_i hc;have hc:Cd.check (Rt.lW n keep).code=0:=by simpa using hc
 split at e
 ·rename_i hg;exact absurd (congrArg Prod.snd e) hg
 rename_i hg;have hg:(Ck.go (Ck.base n 1073741824) (Ck.start (n.o.length+1)) (Rt.lW n keep).code).2=0:=by simpa using hg
 split at e
 ·simp at e
 split at e
 ·rename_i hk;exact absurd (congrArg Prod.snd e) hk
 have hp:aB n keep=pk:=congrArg (λz=>z.1.1) e
 have hf:(Ck.go (Ck.base n 1073741824) (Ck.start (n.o.length+1)) (Rt.lW n keep).code).1.aB<=1099511627776:=by
  show aB n keep<=_
  omega
 have hd:=(Ck.jT (Ck.base n 1073741824) 1099511627776 _ _ hg).2.1 hf;have hd:Ck.go (Ck.base n 1099511627776) (Ck.start (n.o.length+1)) (Rt.lW n keep).code=Ck.go (Ck.base n 1073741824) (Ck.start (n.o.length+1)) (Rt.lW n keep).code:=hd;have hb:=Rf.qF h hok 1099511627776;have he:(Ck.base n 1099511627776).words.length=n.o.length+1:=Nt.bX h;have hs:=Rf.iG hb (by rw [he];omega);rw [he] at hs
 have ha:(Rt.lW n keep).code.all Cd.right=true:=by
  unfold Cd.check at hc
  split at hc
  ·simp at hc
  ·split at hc
   ·assumption
   ·simp at hc
 obtain ⟨e1,e2⟩:=Rf.rQ hb hs ha;rw [hd] at e1 e2;exact ⟨hg,by rw [←e1];exact hg,e2.aB.symm,by omega,by omega⟩
end Gr
def DoP (a:CkA) (c:CkN) (W0:Zp1) (s:CkS) (k id:Int) (W:Zp1) (e:Ending) (w':Zp1):Prop:=
 e=.returned (nQ iQ (Ck.do_ c s k id).2)/\CkF a c W0 (Ck.do_ c s k id).1 W w'
theorem CkM.vZ {a:CkA} {c:CkN} {W0 W:Zp1} {s:CkS} (h:CkM a c W0 s W):a.g3<W.heap.size:=h.aN.lt
theorem CkF.base {a:CkA} {c:CkN} {W0 W W1 W':Zp1} {s:CkS} (h:CkF a c W0 s W1 W') (hl:Later W W1):CkF a c W0 s W W':=
 ⟨h.mem,(Fr.refl _ W).eZ hl (lrZ _) |>.trans' h.fr λ_ _ h=>h⟩
theorem qb0 {q:Nat} {W W':Zp1} {a:CkA} {c:CkN} {W0:Zp1} {s:CkS} {k id:Value} (hq:Blk W q 106 #[k,id]) (h:CkF a c W0 s W W') (hg:a.g3<q):W'.cell? ⟨q,0,none⟩=some k/\W'.cell? ⟨q,1,none⟩=some id:=by
 have:=h.fr.blk hq oZ;exact ⟨this.cell 0,this.cell 1⟩
theorem Ck.sets_take (g:List Bool) (l:List Int) (k:Nat) (h:k<l.length):Ck.sets g (l.take (k+1))=Ck.bO (Ck.sets g (l.take k)) l[k] true:=by
 unfold Ck.sets;rw [Zb h,List.foldl_append];rfl
theorem CkF.trans {a:CkA} {c:CkN} {W0 W W1 W2:Zp1} {s s':CkS} (h:CkF a c W0 s W W1) (k:CkF a c W0 s' W1 W2):CkF a c W0 s' W W2:=⟨k.mem,h.fr.trans k.fr⟩
theorem Ck.uM {a:CkA} {c:CkN} {W0:Zp1} (hS:a.Still c W0) (s:CkS) (k:Int) {n:Nat} (hn:n<c.words.length):0<=Ck.more c s k n/\Ck.more c s k n<=68719476736:=by
 have hw:∀z:Int,0<=Ck.wd c z/\Ck.wd c z<=65536:=λz=>by
  have:=Ck.jA c hS.ok.word [z];simp [Ck.iC] at this;exact this
 unfold Ck.more
 split
 ·have:=hw n;omega
 ·split
  ·have:=hw c.aH;omega
  ·split
   ·have h1:=Ck.jA c hS.ok.word (Ck.fresh c s n)
    have h2:=(Ck.pJ hS s hn).1;omega
   ·omega
set_option maxRecDepth 100000 in
theorem qg9 (a:CkA) (c:CkN) (W0:Zp1) (s:CkS) (W:Zp1) (hS:a.Still c W0) (hM:CkM a c W0 s W) (k id:Int) (hdn:s.done<=1048576) (hnow : -1152921504606846976<=s.now/\s.now<=1152921504606846976) (hpk : -1152921504606846976<=s.aB/\s.aB<=1152921504606846976):
  Calls prog 48 #[.pointer (some ⟨a.p,0,none⟩),.agg #[nQ iQ k,nQ iQ id]] W (DoP a c W0 s k id W):=by
 have hN:Later W (W.alloc (.cells #[nQ iQ k,nQ iQ id] 106)):=(Later.refl W).alloc _;have hL:=hM.to_later hN;have hq:=Blk.new W 106 #[nQ iQ k,nQ iQ id];have hh:=hM.vZ;have h8:=hS.ok.m2;obtain ⟨y0,-⟩:=hL.bE;have z0:(W.alloc (.cells #[nQ iQ k,nQ iQ id] 106)).cell? ⟨W.heap.size,0,none⟩=some (nQ iQ k):=hq.cell 0;have z1:(W.alloc (.cells #[nQ iQ k,nQ iQ id] 106)).cell? ⟨W.heap.size,1,none⟩=some (nQ iQ id):=hq.cell 1;have hp:=λV=>qdp k id V
 obtain ⟨HS,hO,Hq,hl⟩:=zd4 hS hL hq hN;clear hS hL hq hN;clear hM;cases hr:Cd.right (k,id) with
 | false=>
  rw [hr] at hp;have HD:=zI (show Ck.do_ c s k id=(s,10) by unfold Ck.do_;rw [ipZ (.inl hr)]);have hu:=zI hp;clear hp;clear hr;go_in;go_wp2_with fail;generalize W.alloc (.cells #[nQ iQ k,nQ iQ id] 106)=W1 at *;have ha:Later W1 W1.drew:=(Later.refl _).drew;have k0:=ha.cell y0;have k1:=ha.cell z0;have k2:=ha.cell z1
  first
   | (go_region_with (first
     | (go_at_call 88;refine (hu.out _).mono ?_;rintro e wr ⟨rfl,hw⟩;have hf:Later W1.drew wr:=hw)
     | fail))
   | fail
  all_goals
   have hm:=hl.out.trans (ha.trans hf);have hA:=hO.out.to_later (ha.trans hf);obtain ⟨hR,hP⟩:=zd2 hm hA;clear hm hA;clear k0 k1 k2 y0 z0 z1 hf ha;go_wp2_with fail;go_ret;exact ⟨by rw [HD.out];rfl,by rw [HD.out];exact ⟨hP.out,(Fr.refl _ W).eZ hR.out (lrZ _)⟩⟩
 | true=>
  obtain ⟨-,-,Hf,-⟩:=Cd.kF hr;obtain ⟨n,rfl⟩:=ezZ (show 0<=id from Hf);rw [hr] at hp
  by_cases hid:n<c.words.length
  rotate_left
  ·skip
   have HD:=zI (show Ck.do_ c s k n=(s,10) by unfold Ck.do_;rw [ipZ (.inr oZ)]);have d1:decide ((c.words.length:Int)<=n)=true:=by simp;omega
   have hu:=zI hp;clear hp;clear hr;go_in;go_wp2_with fail;generalize W.alloc (.cells #[nQ iQ k,nQ iQ n] 106)=W1 at *;have ha:Later W1 W1.drew:=(Later.refl _).drew;have k0:=ha.cell y0;have k1:=ha.cell z0;have k2:=ha.cell z1
   first
    | (go_region_held3 (λV=>V.cell? ⟨a.p,0,none⟩=some (.slice a.Wd c.words.length a.cW)/\V.cell? ⟨W.heap.size,0,none⟩=some (nQ iQ k)/\V.cell? ⟨W.heap.size,1,none⟩=some (nQ iQ n)) (first|exact ⟨hf.cell k0,hf.cell k1,hf.cell k2⟩|exact ⟨k0,k1,k2⟩|fail)
      (first
       | (go_at_call 88;refine (hu.out _).mono ?_;rintro e wr ⟨rfl,hw⟩;have hf:Later W1.drew wr:=hw)
       | fail))
    | fail
   have hm:=hl.out.trans (ha.trans hf);have hA:=hO.out.to_later (ha.trans hf);obtain ⟨hR,hP⟩:=zd2 hm hA;clear hm hA;clear k0 k1 k2 y0 z0 z1 hf ha;go_wp2_with fail;go_ret;exact ⟨by rw [HD.out];rfl,by rw [HD.out];exact ⟨hP.out,(Fr.refl _ W).eZ hR.out (lrZ _)⟩⟩
  have d1:decide ((c.words.length:Int)<=n)=false:=by simp;omega
  have hu:=zI hp;clear hp;go_in;go_wp2_with fail;generalize W.alloc (.cells #[nQ iQ k,nQ iQ n] 106)=W1 at *;have ha:Later W1 W1.drew:=(Later.refl _).drew;have k0:=ha.cell y0;have k1:=ha.cell z0;have k2:=ha.cell z1
  first
   | (go_region_held3 (λV=>V.cell? ⟨a.p,0,none⟩=some (.slice a.Wd c.words.length a.cW)/\V.cell? ⟨W.heap.size,0,none⟩=some (nQ iQ k)/\V.cell? ⟨W.heap.size,1,none⟩=some (nQ iQ n)) (first|exact ⟨hf.cell k0,hf.cell k1,hf.cell k2⟩|exact ⟨k0,k1,k2⟩|fail)
     (first
      | (go_at_call 88;refine (hu.out _).mono ?_;rintro e wr ⟨rfl,hw⟩;have hf:Later W1.drew wr:=hw)
      | fail))
   | fail
  have hm:=ha.trans hf;have hG:CkF a c W0 s W1 wr:=⟨hO.out.to_later hm,(Fr.refl _ W1).eZ hm (lrZ _)⟩
  clear k0 k1 k2 y0 z0 z1 hf ha hu d1 hm;obtain ⟨z0,z1⟩:=qb0 Hq.out hG hh;have h6:=zI (qfo a c W0 s wr HS.out hG.mem k n hr hid hdn);have h2:=zI hG;clear hG;go_wp2_with fail;refine h6.out.mono ?_;rintro e w3 ⟨rfl,hY⟩;have hs:=h2.out.later hY;clear z0 z1 h6 h2 hY;cases hlg:Ck.bI c s k n
  ·have HD:=zI (show Ck.do_ c s k n=(s,24) by unfold Ck.do_;rw [inZ (by rw [hr];simp;omega),ipZ hlg])
   have hE:=zI hs;clear hs;clear hlg hr;go_wp2_with fail;go_ret;exact ⟨by rw [HD.out];rfl,by rw [HD.out];exact hE.out.base hl.out⟩
  obtain ⟨z0,z1⟩:=qb0 Hq.out hs hh;obtain ⟨-,-,-,-,-,-,-,-,-,-,-,-,y12,-⟩:=hs.mem.bE;have h9:=Ck.uM HS.out s k hid;have hX:=zI (λV (h:Later w3 V)=>qgC a c W0 s V HS.out (hs.mem.to_later h) k n hr hid)
  have HD:=zI (show Ck.do_ c s k n=if c.cap<s.now+Ck.more c s k n then (s,25) else (Ck.act c s k n (s.now+Ck.more c s k n),0) by
   unfold Ck.do_;rw [inZ (by rw [hr];simp;omega),inZ (by rw [hlg];simp)])
  have hZ:=zI (Ck.right_id hr);have hE:=zI hs;clear hs;clear hlg hr;generalize hmv:Ck.more c s k n=mo at *;have Ha:iQ.wrap (s.now+mo)=s.now+mo:=Zc1 _ oZ;go_upto_region 5 with fail;have ha:Later w3 w3.drew:=(Later.refl _).drew;have k0:=ha.cell y12;have k1:=ha.cell z0;have k2:=ha.cell z1
  first
   | (go_region_held3 (λV=>V.cell? ⟨a.p,12,none⟩=some (nQ iQ s.now)/\V.cell? ⟨W.heap.size,0,none⟩=some (nQ iQ k)/\V.cell? ⟨W.heap.size,1,none⟩=some (nQ iQ n)) (first|exact ⟨hy.cell k0,hy.cell k1,hy.cell k2⟩|exact ⟨k0,k1,k2⟩|fail)
     (first
      | (go_at_call 90;refine (hX.out _ ha).mono ?_;rintro e w4 ⟨rfl,hy⟩)
      | fail))
   | fail
  have ht:=hE.out.later (ha.trans hy);clear k0 k1 k2 z0 z1 y12 hy ha hX hE;obtain ⟨-,-,-,-,-,y5,-,-,-,-,-,-,y12,y13⟩:=ht.mem.bE
  by_cases hi:c.cap<s.now+mo
  ·have hg:=zI (show Ck.do_ c s k n=(s,25) by rw [HD.out,ipZ hi])
   have d2:decide (c.cap<s.now+mo)=true:=by simp [hi]
   have Hc:=zI ht;clear ht;clear HD hi y12 y13;go_wp2_with fail;go_ret;exact ⟨by rw [hg.out];rfl,by rw [hg.out];exact Hc.out.base hl.out⟩
  have hg:=zI (show Ck.do_ c s k n=(Ck.act c s k n (s.now+mo),0) by rw [HD.out,inZ hi]);have d2:decide (c.cap<s.now+mo)=false:=by simp;omega
  have hn:=ht.now HS.out (s.now+mo);have hK:=hn.aB HS.out (max s.aB (s.now+mo));have f12:=(ht.lQ 12).1;have f13:=(hn.lQ 13).1;obtain ⟨-,-,-,-,-,-,-,-,-,-,-,-,-,y13a⟩:=hn.mem.bE;have q1:(0:Int)<=(n:Int):=by omega
  have q2:(n:Int)<c.words.length:=by omega
  obtain ⟨z0,z1⟩:=qb0 Hq.out ht hh;have y13a':(w4.setCell ⟨a.p,12,none⟩ (nQ iQ (s.now+mo))).cell? ⟨a.p,13,none⟩=some (nQ iQ s.aB):=y13a;obtain ⟨z0a,-⟩:=qb0 Hq.out hK hh;have hb:=zI hK;clear hK;clear HD hi ht hn y13a z0 z1 Ha;have He:=hZ.out;clear hZ;obtain ⟨l,hW⟩:=ezZ HS.out.ok.aH.1;have Hg:l<c.words.length:=by have:=HS.out.ok.aH.2;omega
  have q3:(0:Int)<=(l:Int):=by omega
  have q4:(l:Int)<c.words.length:=by omega
  obtain ⟨bw,ow,h4,h1,Hj,hw1⟩:=HS.out.word hid;have Hk:iQ.wrap (s.now+mo-Ck.wd c n)=s.now+mo-Ck.wd c n:=Zc1 _ oZ;rcases He with rfl|rfl|rfl|rfl|rfl|rfl
  case inl=>
   go_upto_region 13 with fail;clear y5 y12 y13 y13a' f12 f13 z0a;generalize (w4.setCell ⟨a.p,12,none⟩ (nQ iQ (s.now+mo))).setCell ⟨a.p,13,none⟩ (nQ iQ (max s.aB (s.now+mo)))=w5 at *;have hd:=hb.out.later (Later.drew (Later.refl w5));obtain ⟨-,-,-,-,-,-,k6,-⟩:=hd.mem.bE;have kz:=(qb0 Hq.out hd hh).2;have kf:=(hd.lQ n).2.1;have kb:=qav hd.mem.aG (i:=n) (by rw [hd.mem.l1];exact hid);have he:=(hb.out.aG HS.out n true).later (Later.drew (Later.refl _));have hc:=zI he;clear he;clear hd hb
   go_region
   clear k6 kf kb kz;go_upto_region 14 with fail;generalize (w5.setCell ⟨a.g1,n,none⟩ (.bool true)).drew=w6 at *;have hd:=hc.out.later (Later.drew (Later.refl w6));obtain ⟨-,-,-,-,-,-,-,k6,-⟩:=hd.mem.bE;have kz:=(qb0 Hq.out hd hh).2;have kf:=(hd.lQ n).2.2.1;have kb:=qav hd.mem.sav (i:=n) (by rw [hd.mem.l2];exact hid);have hk:=(hc.out.sav HS.out n true).later (Later.drew (Later.refl _));have ho:=zI hk;clear hk;clear hd hc
   go_region
   clear k6 kf kb kz;go_wp2_with fail;go_ret;exact ⟨by rw [hg.out];rfl,by rw [hg.out];exact ho.out.base hl.out⟩
  case inr.inl=>
   go_upto_region 13 with fail;clear y5 y12 y13 y13a' f12 f13 z0a;generalize (w4.setCell ⟨a.p,12,none⟩ (nQ iQ (s.now+mo))).setCell ⟨a.p,13,none⟩ (nQ iQ (max s.aB (s.now+mo)))=w5 at *;have hd:=hb.out.later (Later.drew (Later.refl w5));obtain ⟨-,-,-,-,-,-,k6,-⟩:=hd.mem.bE;have kz:=(qb0 Hq.out hd hh).2;have kf:=(hd.lQ n).2.1;have kb:=qav hd.mem.aG (i:=n) (by rw [hd.mem.l1];exact hid);have he:=(hb.out.aG HS.out n true).later (Later.drew (Later.refl _));have hc:=zI he;clear he;clear hd hb
   go_region
   clear k6 kf kb kz;go_upto_region 14 with fail;generalize (w5.setCell ⟨a.g1,n,none⟩ (.bool true)).drew=w6 at *;have hd:=hc.out.later (Later.drew (Later.refl w6));obtain ⟨-,-,-,-,-,-,-,k6,-⟩:=hd.mem.bE;have kz:=(qb0 Hq.out hd hh).2;have kf:=(hd.lQ n).2.2.1;have kb:=qav hd.mem.sav (i:=n) (by rw [hd.mem.l2];exact hid);have hk:=(hc.out.sav HS.out n true).later (Later.drew (Later.refl _));have ho:=zI hk;clear hk;clear hd hc
   go_region
   clear k6 kf kb kz;go_wp2_with fail;go_ret;exact ⟨by rw [hg.out];rfl,by rw [hg.out];exact ho.out.base hl.out⟩
  case inr.inr.inl=>
   go_upto_region 16 with fail;clear y5 y12 y13 y13a' f12 f13 z0a;generalize (w4.setCell ⟨a.p,12,none⟩ (nQ iQ (s.now+mo))).setCell ⟨a.p,13,none⟩ (nQ iQ (max s.aB (s.now+mo)))=w5 at *;have hd:=hb.out.later (Later.drew (Later.refl w5));obtain ⟨-,-,-,-,-,-,k6,-⟩:=hd.mem.bE;have kz:=(qb0 Hq.out hd hh).2;have kf:=(hd.lQ n).2.1;have kb:=qav hd.mem.aG (i:=n) (by rw [hd.mem.l1];exact hid);have he:=(hb.out.aG HS.out n false).later (Later.drew (Later.refl _));have hc:=zI he;clear he;clear hd hb
   go_region
   clear k6 kf kb kz;go_upto_region 17 with fail;generalize (w5.setCell ⟨a.g1,n,none⟩ (.bool false)).drew=w6 at *;have hd:=hc.out.later (Later.drew (Later.refl w6));obtain ⟨k0,-,-,-,-,-,-,-,-,-,-,-,k12,-⟩:=hd.mem.bE;rw [h4] at k0;have kz:=(qb0 Hq.out hd hh).2;have kf:=(hd.lQ 12).1;have kw:=hd.mem.later.cell h1;have hk:=(hc.out.now HS.out (s.now+mo-Ck.wd c n)).later (Later.drew (Later.refl _));have ho:=zI hk;clear hk;clear hd hc
   go_region
   clear k0 k12 kz kf kw;go_wp2_with fail;go_ret;exact ⟨by rw [hg.out];rfl,by rw [hg.out];exact ho.out.base hl.out⟩
  case inr.inr.inr.inl=>
   go_upto_region 19 with fail;clear y5 y12 y13 y13a' f12 f13 z0a;generalize (w4.setCell ⟨a.p,12,none⟩ (nQ iQ (s.now+mo))).setCell ⟨a.p,13,none⟩ (nQ iQ (max s.aB (s.now+mo)))=w5 at *;obtain ⟨-,-,-,-,-,-,-,-,-,k9,-⟩:=hb.out.mem.bE;have kf:=(hb.out.lQ 9).1;have he:=hb.out.em HS.out true;have hc:=zI he;clear he;clear hb;go_wp2_with fail;go_ret;exact ⟨by rw [hg.out];rfl,by rw [hg.out];exact hc.out.base hl.out⟩
  case inr.inr.inr.inr.inl=>
   go_upto_region 21 with fail;clear y5 y12 y13 y13a' f12 f13 z0a;generalize (w4.setCell ⟨a.p,12,none⟩ (nQ iQ (s.now+mo))).setCell ⟨a.p,13,none⟩ (nQ iQ (max s.aB (s.now+mo)))=w5 at *;obtain ⟨-,-,-,-,-,-,-,-,-,-,k10,-⟩:=hb.out.mem.bE;have kf:=(hb.out.lQ 10).1;have he:=hb.out.sd HS.out true;have hc:=zI he;clear he;clear hb;go_upto_region 22 with fail;generalize w5.setCell ⟨a.p,10,none⟩ (.bool true)=w6 at *;clear k10 kf;have hd:=hc.out.later (Later.drew (Later.refl w6));obtain ⟨-,-,-,-,-,-,-,-,k6,-⟩:=hd.mem.bE;obtain ⟨-,-,-,-,kl,-⟩:=hd.mem.bE;rw [hW] at kl;have kf:=(hd.lQ l).2.2.2;have kb:=qav hd.mem.aN (i:=l) (by rw [hd.mem.l3];exact Hg);have hk:=(hc.out.aN HS.out l true).later (Later.drew (Later.refl _));have ho:=zI hk;clear hk;clear hd hc
   go_region
   clear k6 kf kb kl;go_wp2_with fail;go_ret;exact ⟨by rw [hg.out];rfl,by rw [hg.out];have h7:=ho.out.base hl.out;unfold Ck.act Ck.bO;rw [hW];exact h7⟩
  case inr.inr.inr.inr.inr=>
   go_upto_region 24 with fail;clear y5 y12 y13 y13a' f12 f13 z0a;generalize (w4.setCell ⟨a.p,12,none⟩ (nQ iQ (s.now+mo))).setCell ⟨a.p,13,none⟩ (nQ iQ (max s.aB (s.now+mo)))=w5 at *;have kz:=(qb0 Hq.out hb.out hh).2;go_wp2_with fail;refine (qcM a c W0 _ w5 HS.out hb.out.mem n hid).mono ?_;rintro e w6 ⟨v,rfl,hown,hV⟩;obtain ⟨A,cp,rfl⟩:=qa6 hown;obtain ⟨hI,-⟩:=qak hown;have he:=hb.out.later hV;have Hl:=hb.out.mem.vZ
   have h0:∀ad,A=some ad->¬(a.p<=ad.block/\ad.block<=a.g3):=λad e=>by
    have:=(hown.lt ad.block (by rw [e];rfl)).1;omega
   have hx:=Ck.pJ HS.out s hid;have Hh:=zI (λk h=>Ck.sets_take s.aN (Ck.fresh c s n) k h);have hJ:=zI (show Ck.act c s 6 n (s.now+mo)={ s with aN:=(Ck.sets s.aN (Ck.fresh c s n)).set n false,now:=s.now+mo-Ck.wd c n,aB:=max s.aB (s.now+mo),done:=s.done+1 } from rfl)
   change Ints iQ w6 A (Ck.fresh c s n) at hI
   have hU:(Ck.fresh c { s with now:=s.now+mo,aB:=max s.aB (s.now+mo) } n).length=(Ck.fresh c s n).length:=rfl;rw [hU];clear hown hV hb hU h9 hmv kz;generalize Ck.fresh c s n=fr at *;obtain ⟨HI,hc,Hd,hB⟩:=zd4 hI he h0 hx;clear hI he h0 hx;go_wp2_with fail
   go_loopw [7,121] (λ_ i wr=>∃k:Nat,k<=fr.length/\i=nQ iQ (k:Int)/\CkF a c W0 { s with now:=s.now+mo,aB:=max s.aB (s.now+mo),aN:=Ck.sets s.aN (fr.take k) } w6 wr) (λ_ i _=>fr.length-(intOf i).toNat)
   case atStart=>exact ⟨0,Zt _,rfl,⟨hc.out.mem,Fr.refl _ _⟩⟩
   case round=>
    obtain ⟨j,hj,rfl,hF⟩:=hrel
    by_cases hC:j<fr.length
    ·obtain ⟨b3,o3,e3,-,Hi⟩:=(hF.fr.ints HI.out Hd.out) j hC
     rw [gdZ,geZ hC,Option.getD_some] at Hi;have hz:=hB.out.2 _ (gmZ hC);have Hm:=hB.out.1;have HT:=zI (Hh.out j hC);subst e3;generalize fr[j]=z at *;obtain ⟨zn,rfl⟩:=ezZ hz.1;have Hb:zn<c.words.length:=by omega
     obtain ⟨-,-,-,-,-,-,-,-,k8,-⟩:=hF.mem.bE;have kf:=(hF.lQ zn).2.2.2;have kb:=qav hF.mem.aN (i:=zn) (by rw [hF.mem.l3];exact Hb);have p1:(0:Int)<=(zn:Int):=by omega
     have p2:(zn:Int)<c.words.length:=by omega
     have ho:=zI (hF.aN HS.out zn true);clear hF;go_wp2_with fail;go_roundw
     case rel=>exact ⟨j+1,by omega,by go_num,by rw [HT.out];exact ho.out⟩
     case measure=>simp [intOf];omega
    ·obtain rfl:j=fr.length:=by omega
     rw [Zg] at hF;have hQ:=zI (hc.out.trans hF);clear hF;go_upto_region 29 with fail;have hd:=hQ.out.later (Later.drew (Later.refl wr));obtain ⟨-,-,-,-,-,-,-,-,k6,-⟩:=hd.mem.bE;have kz:=(qb0 Hq.out hd hh).2;have kf:=(hd.lQ n).2.2.2;have kb:=qav hd.mem.aN (i:=n) (by rw [hd.mem.l3];exact hid);have h5:=(hQ.out.aN HS.out n false).later (Later.drew (Later.refl _));have hH:=zI h5;clear h5;clear hd hQ
     go_region
     clear k6 kf kb kz;go_upto_region 30 with fail;generalize (wr.setCell ⟨a.g3,n,none⟩ (.bool false)).drew=w8 at *;have hd:=hH.out.later (Later.drew (Later.refl w8));obtain ⟨k0,-,-,-,-,-,-,-,-,-,-,-,k12,-⟩:=hd.mem.bE;rw [h4] at k0;have kz:=(qb0 Hq.out hd hh).2;have kf:=(hd.lQ 12).1;have kw:=hd.mem.later.cell h1;have h3:=(hH.out.now HS.out (s.now+mo-Ck.wd c n)).later (Later.drew (Later.refl _));have hD:=zI h3;clear h3;clear hd hH
     go_region
     clear k0 k12 kz kf kw;go_upto_region 31 with fail;generalize (w8.setCell ⟨a.p,12,none⟩ (nQ iQ (s.now+mo-Ck.wd c n))).drew=w9 at *;obtain ⟨-,-,-,-,-,-,-,-,-,-,-,k11,-⟩:=hD.out.mem.bE;have kf:=(hD.out.lQ 11).1;have v1:iQ.wrap ((s.done:Int)+1)=(s.done:Int)+1:=Zc1 _ oZ;have hv:=hD.out.done HS.out (s.done+1);have hT:=zI hv;clear hv;clear hD;go_wp2_with fail;go_ret;exact ⟨by rw [hg.out];rfl,by rw [hg.out,hJ.out];exact hT.out.base hl.out⟩
set_option maxRecDepth 100000 in
theorem qfu (a:CkA) (c:CkN) (W0:Zp1) (s:CkS) (W:Zp1) (hM:CkM a c W0 s W) (hdn:s.done<=1048576):
  Calls prog 49 #[.pointer (some ⟨a.p,0,none⟩)] W λe w'=>e=.returned (.bool (Ck.whole c s))/\Later W w':=by
 obtain ⟨-,-,-,y3,-,-,-,-,-,y9,-,y11,-⟩:=hM.bE;have HE:=zI (show Ck.whole c s=(s.em&&decide (s.done=c.order.length)) from rfl);clear hM;generalize s.em=em at *;cases em
 ·go_in
  go_wp2_with fail
  go_quiet (fail)
  go_wp2_with fail;go_ret;exact ⟨by rw [HE.out];rfl,by first|exact Later.refl _|exact (Later.refl _).drew|exact (Later.refl _).drewN _⟩
 ·by_cases hd:s.done=c.order.length
  ·have d1:decide (s.done=c.order.length)=true:=by simp [hd]
   have d2:((s.done:Int)==(c.order.length:Int))=true:=by simp [hd]
   rw [d1] at HE;rw [hd] at y11;clear d1 d2 hd;go_in;go_wp2_with fail
   go_quiet (fail)
   go_wp2_with fail;go_ret;exact ⟨by rw [HE.out];rfl,by first|exact Later.refl _|exact (Later.refl _).drew|exact (Later.refl _).drewN _⟩
  ·have d1:decide (s.done=c.order.length)=false:=by simp [hd]
   have d2:((s.done:Int)==(c.order.length:Int))=false:=by rw [beq_eq_false_iff_ne];omega
   rw [d1] at HE;go_in;go_wp2_with fail
   go_quiet (fail)
   go_wp2_with fail;go_ret;exact ⟨by rw [HE.out];first|rfl|(apply qbB;simp [hd]),by first|exact Later.refl _|exact (Later.refl _).drew|exact (Later.refl _).drewN _⟩
structure Ck.Bd (s:CkS) (k:Nat):Prop where
 done:s.done<=k
 n1 : -((k:Int)*68719542272)<=s.now
 n2:s.now<=(k:Int)*68719542272
 p1 : -((k:Int)*68719542272)<=s.aB
 p2:s.aB<=(k:Int)*68719542272
theorem Ck.wd_bd {a:CkA} {c:CkN} {W0:Zp1} (hS:a.Still c W0) (z:Int):0<=Ck.wd c z/\Ck.wd c z<=65536:=by
 have:=Ck.jA c hS.ok.word [z];simp [Ck.iC] at this;exact this
theorem Ck.vQ {a:CkA} {c:CkN} {W0:Zp1} (hS:a.Still c W0) {s:CkS} {k:Nat} (h:Ck.Bd s k) (kd id:Int):Ck.Bd (Ck.do_ c s kd id).1 (k+1):=by
 obtain ⟨h1,h2,h3,h4,h5⟩:=h;have he:((k+1:Nat):Int)*68719542272=(k:Int)*68719542272+68719542272:=by omega
 have triv:Ck.Bd s (k+1):=⟨by omega,by omega,by omega,by omega,by omega⟩
 unfold Ck.do_
 split
 ·exact triv
 ·rename_i hr
  split
  ·exact triv
  ·split
   ·exact triv
   ·have hb:(Cd.right (kd,id)=true)/\id<c.words.length:=by
     rcases Bool.eq_false_or_eq_true (Cd.right (kd,id)) with h|h
     ·exact ⟨h,by omega⟩
     ·exact absurd (.inl h) hr
    obtain ⟨-,-,ha,-⟩:=Cd.kF hb.1;obtain ⟨n,rfl⟩:=ezZ (show 0<=id from ha);have hm:=Ck.uM hS s kd (n:=n) oZ;have hw:=Ck.wd_bd hS n;generalize Ck.more c s kd n=m at *
    have key:∀(s':CkS),s'.done<=s.done+1->(s'.now=s.now+m∨s'.now=s.now+m-Ck.wd c n)->s'.aB=max s.aB (s.now+m)->Ck.Bd s' (k+1):=λs' q1 q2 q3=>by
     refine ⟨by omega,?_,?_,?_,?_⟩
     ·rcases q2 with q2|q2<;>rw [q2]<;>omega
     ·rcases q2 with q2|q2<;>rw [q2]<;>omega
     ·rw [q3];omega
     ·rw [q3];omega
    unfold Ck.act
    (repeat' split)<;>exact key _ sZ sZ rfl
theorem safe_max (A:Option Addr) (c:Nat) (zs:List Int) (w:Zp1) (hl:zs.length<=9223372036854775807) (hI:Ints iQ w A zs):
  Calls prog 51 #[sQ A zs.length c] w λe w'=>e=.returned (nQ iQ (Safe.max zs))/\w=w':=by
 have HI:=zI hI;clear hI;go_in;go_wp2_with fail
 go_loop [3,5,8] (λm x i=>∃k:Nat,k<=zs.length/\i=nQ iQ k/\m=nQ iQ (Safe.max (zs.take k))) (λ_ _ i=>zs.length-(intOf i).toNat)
 case atStart=>exact ⟨0,Zt _,rfl,rfl⟩
 case round=>
  obtain ⟨k,hk,rfl,rfl⟩:=hrel
  by_cases hd:k<zs.length
  ·obtain ⟨b,off,rfl,hb,hc⟩:=HI.out k hd
   have HS:=zI (Safe.max_take_succ zs k hd);generalize hm:Safe.max (zs.take k)=m;rw [hm] at HS;clear hm
   by_cases ha:m<zs[k]
   ·go_wp2_with fail
    go_round
    case rel=>exact ⟨k+1,by omega,by go_num,by first|(rw [HS.out,ipZ ha];done)|(rw [HS.out,ipZ ha];congr 1;omega)⟩
    case measure=>simp [intOf];omega
   ·go_wp2_with fail
    go_round
    case rel=>exact ⟨k+1,by omega,by go_num,by first|(rw [HS.out,inZ oZ];done)|(rw [HS.out,inZ oZ];congr 1;omega)⟩
    case measure=>simp [intOf];omega
  ·go_wp2_with fail
   go_ret;exact ⟨qbt (by rw [List.take_of_length_le oZ]),rfl⟩
def qi3 (r:(Int × Int × Int × Int) × Int):Value:=.tuple #[.agg #[nQ iQ r.1.1,nQ iQ r.1.2.1,nQ iQ r.1.2.2.1,nQ iQ r.1.2.2.2],nQ iQ r.2]
def wG (n:aA) (ps:List (Int × Int)) (cap:Int) (W:Zp1) (e:Ending) (w':Zp1):Prop:=e=.returned (qi3 (Ck.run n ps cap))/\Later W w'
theorem CkF.to_later {a:CkA} {c:CkN} {W0 W W':Zp1} {s:CkS} (h:CkF a c W0 s W W') (hS:a.Still c W0) (hl:Later W0 W):Later W0 W':=
 Below.trans hl (h.fr.below (B:=W0.heap.size) (λb hb=>Zv hS.hp hb.1) (Below.size hl))
theorem Ints.tail_ {k:IntKind} {w:Zp1} {b off:Nat} {zs:List Int} (h:Ints k w (some ⟨b,off,none⟩) zs) (n:Nat):Ints k w (some ⟨b,off+n,none⟩) (zs.drop n):=Ints.dV λj hj=>by
 rw [Zq] at hj;obtain ⟨b',o',e,-,hc⟩:=h (n+j) oZ;cases e;rw [Nat.add_assoc,hc];simp
theorem uW {W w:Zp1} {g:Nat} (h:Later W w) (hg:W.heap.size<=g) (a b c d:Value):Later W ((((w.setCell ⟨g,0,none⟩ a).setCell ⟨g,1,none⟩ b).setCell ⟨g,2,none⟩ c).setCell ⟨g,3,none⟩ d):=
 (((h.set (p:=⟨g,0,none⟩) hg a).set (p:=⟨g,1,none⟩) hg b).set (p:=⟨g,2,none⟩) hg c).set (p:=⟨g,3,none⟩) hg d
theorem qaC {w:Zp1} {g:Nat} {t:TypeId} {a b c d:Value} (h:Blk w g t #[a,b,c,d]):(w.cell? ⟨g,0,none⟩=some a/\w.cell? ⟨g,1,none⟩=some b/\w.cell? ⟨g,2,none⟩=some c/\w.cell? ⟨g,3,none⟩=some d)/\w.frozen? ⟨g,0,none⟩=false/\w.frozen? ⟨g,1,none⟩=false/\w.frozen? ⟨g,2,none⟩=false/\w.frozen? ⟨g,3,none⟩=false:=
 ⟨⟨h.cell 0,h.cell 1,h.cell 2,h.cell 3⟩,h.frozen 0,h.frozen 1,h.frozen 2,h.frozen 3⟩
set_option maxRecDepth 100000 in
theorem qeL (A N Q:Option Addr) (c d q:Nat) (n:aA) (ps:List (Int × Int)) (cap:Int) (W:Zp1) (hok:n.ok) (hR:bC W A N n) (hd:n.o.length<=d) (hsm:n.o.length<=200) (hcap : -9223372036854775808<=cap/\cap<=9223372036854775807) (hps:ps.length<=1048576) (hQ:aW W Q ps):
  Calls prog 20 #[.agg #[sQ A n.inn.length c,sQ N n.o.length d],sQ Q ps.length q,nQ iQ cap] W (wG n ps cap W):=by
 have HD:Later W ((W.alloc (.cells #[sQ A n.inn.length c,sQ N n.o.length d] 26)).alloc (.cells #[nQ iQ 0,nQ iQ 0,nQ iQ 0,nQ iQ 0] 48)):=((Later.refl W).alloc _).alloc _;have hY:=Blk.new (W.alloc (.cells #[sQ A n.inn.length c,sQ N n.o.length d] 26)) 48 #[nQ iQ 0,nQ iQ 0,nQ iQ 0,nQ iQ 0];rw [Zh1] at hY;obtain ⟨rn,hrn⟩:∃r,Ck.run n ps cap=r:=⟨_,rfl⟩
 obtain ⟨HR,HI,hK,hX,HQ⟩:=zd5 hR hok HD hY hQ;clear hR hok HD hY hQ;go_in;go_wp2_with fail;generalize (W.alloc (.cells #[sQ A n.inn.length c,sQ N n.o.length d] 26)).alloc (.cells #[nQ iQ 0,nQ iQ 0,nQ iQ 0,nQ iQ 0] 48)=W1 at *;refine (qeE A N c d n cap W1 HI.out (HR.out.below hK.out (lrZ _)) hd hsm hcap).mono ?_;rintro e W2 ⟨hC,hN⟩;have hO:=hK.out.trans hN;have Hi:=hN.blk hX.out;rcases hC with ⟨hj,rfl⟩|⟨hj,a,W0,hS,h5,rfl,hM⟩
 ·have HE:=zI (show Ck.run n ps cap=((0,0,0,0),Nt.check n) by unfold Ck.run;rw [ipZ hj])
  have h7:(Nt.check n != 0)=true:=by simp [hj]
  obtain ⟨⟨x0,x1,x2,x3⟩,f0,f1,f2,f3⟩:=qaC Hi;clear hj hrn;generalize Nt.check n=er at *;go_wp2_with fail;refine Zk1 (v:=.tuple #[.agg #[nQ iQ 0,nQ iQ 0,nQ iQ 0,nQ iQ 0],nQ iQ er]) (by simp [results,results20,go_sem,x0,x1,x2,x3]) rfl ?_;exact ⟨by rw [HE.out];rfl,uW hO oZ _ _ _ _⟩
 ·have hx:=h5.blk hX.out
  have hD:=hK.out.trans h5;have HG:=HQ.out.below hO (lrZ _);have hm:=Nt.bX hj;have hJ:=zI (show Ck.run n ps cap=_ by unfold Ck.run;rw [inZ (by simp [hj])]);obtain ⟨hb,ha,HS,HM,Hh,HX⟩:=zd6 hx hD hS hM HG hj;clear hx hD hS hM HG hj;clear hN hO Hi hX hK h5;go_wp2_with fail;refine (qc3 Q q ps W2 oZ Hh.out).mono ?_;rintro e W3 ⟨rfl,h3⟩;have hL:=HM.out.to_later h3;have Hw:=hL.later.blk hb.out;have Hm:=ha.out.trans hL.later
  by_cases ht:Cd.check ps=0
  rotate_left
  ·have HE:=zI (show Ck.run n ps cap=((0,0,0,0),Cd.check ps) by rw [hJ.out,ipZ ht])
   have h7:(Cd.check ps != 0)=true:=by simp [ht]
   obtain ⟨⟨x0,x1,x2,x3⟩,f0,f1,f2,f3⟩:=qaC Hw;clear ht hrn hJ;generalize Cd.check ps=er at *;go_wp2_with fail;refine Zk1 (v:=.tuple #[.agg #[nQ iQ 0,nQ iQ 0,nQ iQ 0,nQ iQ 0],nQ iQ er]) (by simp [results,results20,go_sem,x0,x1,x2,x3]) rfl ?_;exact ⟨by rw [HE.out];rfl,uW Hm oZ _ _ _ _⟩
  have hf:=zI (hJ.out.trans (inZ (by simp [ht])));have hy:=zI (show Ck.Bd (Ck.start (n.o.length+1)) 0 from ⟨lrZ _,by simp [Ck.start],by simp [Ck.start],by simp [Ck.start],by simp [Ck.start]⟩);rw [ht];have Hj:=zI hL;clear hL;clear hJ ht hrn h3 Hw Hm HM Hh;go_wp2_with fail
  go_loopw [12,13,34] (λ_ _ i wr=>∃(k:Nat) (s:CkS),k<=ps.length/\i=nQ iQ (k:Int)/\Ck.go (Ck.base n cap) (Ck.start (n.o.length+1)) (ps.take k)=(s,0)/\CkM a (Ck.base n cap) W0 s wr/\Ck.Bd s k) (λ_ _ i _=>ps.length-(intOf i).toNat)
  case atStart=>exact ⟨0,_,Zt _,rfl,rfl,Hj.out,hy.out⟩
  case round=>
   clear Hj hy;obtain ⟨k,s,hk,rfl,hl,hr,h6⟩:=hrel;have Hd:=ha.out.trans hr.later
   by_cases hW:k<ps.length
   ·obtain ⟨b3,o3,rfl,-,c0,c1⟩:=HQ.out.below Hd (lrZ _) k hW
    have HT:=zI (Zb hW);have HO:=zI (Zn (k+1) ps);generalize ps[k]=pk at *;obtain ⟨kd,id⟩:=pk;simp only at c0 c1;have Hu:Later wr (wr.alloc (.cells #[nQ iQ kd,nQ iQ id] 106)):=(Later.refl wr).alloc _;have hI:=hr.to_later Hu;have HJ:=Blk.new wr 106 #[nQ iQ kd,nQ iQ id];have hB:=h6;obtain ⟨HA,HB,Hg,Ht,Hq⟩:=h6;have H3:(k:Int)*68719542272<=1048576*68719542272:=by omega
    have Hs:=qg9 a _ W0 s _ HS.out hI kd id oZ oZ oZ;have Hl:=ha.out.trans hI.later;have hA:=hI.later;obtain ⟨HN,hP⟩:=zd2 Hs hA;clear Hs hA;clear Hu hI HJ hr Hd;go_wp2_with fail;generalize wr.alloc (.cells #[nQ iQ kd,nQ iQ id] 106)=w7 at *;refine HN.out.mono ?_;rintro e w8 ⟨rfl,hF⟩;have hi:=hF.to_later HS.out hP.out;have hs:=ha.out.trans hi;have hU:=Ck.vQ HS.out hB kd id;have hh:=Ck.kZ (Ck.base n cap) (Ck.start (n.o.length+1)) (ps.take k) (kd,id) (by rw [hl]);rw [hl] at hh;simp only at hh;rw [←HT.out] at hh
    by_cases hz:(Ck.do_ (Ck.base n cap) s kd id).2=0
    ·have Hk:Ck.do_ (Ck.base n cap) s kd id=((Ck.do_ (Ck.base n cap) s kd id).1,0):=by rw [←hz]
     rw [Hk] at hh;rw [hz];have hc:=hF.mem;generalize (Ck.do_ (Ck.base n cap) s kd id).1=s8 at *;obtain ⟨hE,HV,HH⟩:=zd3 hc hh hU;clear hc hh hU;clear hF hi hs hz Hk hl hB HA HB Hg Ht Hq c0 c1 Hl;go_wp2_with fail;go_roundw
     case rel=>exact ⟨k+1,s8,by omega,by go_num,HV.out,hE.out,HH.out⟩
     case measure=>simp [intOf];omega
    ·have h1:=Ck.oK (Ck.base n cap) (Ck.start (n.o.length+1)) (ps.take (k+1)) (ps.drop (k+1)) (by rw [hh];exact hz)
     rw [HO.out,hh] at h1;have HE:=zI (show Ck.run n ps cap=((0,0,0,0),(Ck.do_ (Ck.base n cap) s kd id).2) by rw [hf.out,h1,ipZ hz]);have h7:((Ck.do_ (Ck.base n cap) s kd id).2 != 0)=true:=by simp [hz]
     have hu:=hi.blk hb.out;obtain ⟨⟨x0,x1,x2,x3⟩,f0,f1,f2,f3⟩:=qaC hu;generalize (Ck.do_ (Ck.base n cap) s kd id).2=er at *;clear hF hi hz hl hB HA HB Hg Ht Hq c0 c1 Hl h1 hh hu hf hU;go_wp2_with fail;refine Zk1 (v:=.tuple #[.agg #[nQ iQ 0,nQ iQ 0,nQ iQ 0,nQ iQ 0],nQ iQ er]) (by simp [results,results20,go_sem,x0,x1,x2,x3]) rfl ?_;exact ⟨by rw [HE.out];rfl,uW hs oZ _ _ _ _⟩
   ·obtain rfl:k=ps.length:=by omega
    rw [Zg] at hl
    have hg:=zI (show Ck.run n ps cap=if Ck.whole (Ck.base n cap) s=false then ((0,0,0,0),28) else if (Cd.aD ps (Nt.aD n)).2≠0 then ((0,0,0,0),(Cd.aD ps (Nt.aD n)).2) else ((s.aB,(Cd.aD ps (Nt.aD n)).1,Cd.count 2 ps,max s.aB (Safe.max ((Nt.words n).drop 1))),0) by
     rw [hf.out,hl];simp)
    have HF:=qfu a _ W0 s wr hr (by have:=h6.done;omega);obtain ⟨Ha,Hb⟩:=zd2 HF hr;clear HF hr;clear hf hl hW Hd;go_wp2_with fail;refine Ha.out.mono ?_;rintro e w8 ⟨rfl,hs⟩;have hc:=Hb.out.to_later hs;have hp:=ha.out.trans hc.later;have hu:=hc.later.blk hb.out;cases hw:Ck.whole (Ck.base n cap) s
    ·have HE:=zI (show Ck.run n ps cap=((0,0,0,0),28) by rw [hg.out,ipZ hw])
     obtain ⟨⟨x0,x1,x2,x3⟩,f0,f1,f2,f3⟩:=qaC hu;clear hw hg hc hu hs Hb Ha;go_wp2_with fail;refine Zk1 (v:=.tuple #[.agg #[nQ iQ 0,nQ iQ 0,nQ iQ 0,nQ iQ 0],nQ iQ 28]) (by simp [results,results20,go_sem,x0,x1,x2,x3]) rfl ?_;exact ⟨by rw [HE.out];rfl,uW hp oZ _ _ _ _⟩
    have he:=zI (hg.out.trans (inZ (by simp [hw])));obtain ⟨-,y1,-⟩:=hc.bE;have He:=HQ.out.below hp (lrZ _);have Hv:=HS.out.cost.below hc.later (lrZ _);have H2:(Nt.aD n).length=n.o.length+1:=by rw [Nt.aD,List.length_cons,Nt.bH]
    obtain ⟨hE,HP,HW⟩:=zd3 hc He Hv;clear hc He Hv;clear hw hg hu hs Hb Ha hp;go_wp2_with fail;refine (qeA Q q ps a.Co a.cC (Nt.aD n) w8 oZ HP.out oZ HW.out).mono ?_;rintro e w9 ⟨rfl,h9⟩;have h0:Later w8 w9:=h9;have hn:=hE.out.to_later h0;have hq:=ha.out.trans hn.later;have hH:=hn.later.blk hb.out
    by_cases hv:(Cd.aD ps (Nt.aD n)).2=0
    rotate_left
    ·have HE:=zI (show Ck.run n ps cap=((0,0,0,0),(Cd.aD ps (Nt.aD n)).2) by rw [he.out,ipZ hv])
     have h7:((Cd.aD ps (Nt.aD n)).2 != 0)=true:=by simp [hv]
     obtain ⟨⟨x0,x1,x2,x3⟩,f0,f1,f2,f3⟩:=qaC hH;generalize (Cd.aD ps (Nt.aD n)).2=er at *;clear hv he hn hH h0 hE h9 y1;go_wp2_with fail;refine Zk1 (v:=.tuple #[.agg #[nQ iQ 0,nQ iQ 0,nQ iQ 0,nQ iQ 0],nQ iQ er]) (by simp [results,results20,go_sem,x0,x1,x2,x3]) rfl ?_;exact ⟨by rw [HE.out];rfl,uW hq oZ _ _ _ _⟩
    have HE:=zI (he.out.trans (inZ (by simp [hv])));rw [hv];have H4:=(Nt.aL HX.out).1;obtain ⟨bw,ow,h8,-⟩:=HS.out.word (k:=0) (by show 0<(Nt.words n).length;omega);have hcw:=HS.out.hcw
    change (Nt.words n).length<=a.cW at hcw
    obtain ⟨y0,-,-,-,-,-,-,-,-,-,-,-,-,y13⟩:=hn.bE
    change w9.cell? ⟨a.p,0,none⟩=some (.slice a.Wd (Nt.words n).length a.cW) at y0
    have Hr:Ints iQ w9 (some ⟨bw,ow,none⟩) (Nt.words n):=by rw [←h8];exact HS.out.words.below hn.later (lrZ _)
    rw [h8] at y0;rw [hm] at y0 hcw;have Hz:=Ints.tail_ Hr 1;have Hf:((Nt.words n).drop 1).length=n.o.length:=by rw [Zq,hm];omega
    have Hn:∀qn,Calls prog 51 #[sQ (some ⟨bw,ow+1,none⟩) n.o.length (a.cW-1)] (w9.drewN qn) λe w'=>e=.returned (nQ iQ (Safe.max ((Nt.words n).drop 1)))/\w9.drewN qn=w':=λqn=>by
     have:=safe_max (some ⟨bw,ow+1,none⟩) (a.cW-1) ((Nt.words n).drop 1) (w9.drewN qn) oZ (Hz.drewN qn)
     rwa [Hf] at this
    have k1:a.cW≠1:=by omega
    have k2:(1:Int)<=((n.o.length+1:Nat):Int):=by omega
    have k3:((n.o.length+1:Nat):Int)<=a.cW:=by omega
    have k4:1<=a.cW:=by omega
    have k5:n.o.length+1<=a.cW:=by omega
    generalize Safe.max ((Nt.words n).drop 1)=mx at *;obtain ⟨Hx,Hp,h2,HU⟩:=zd4 hn Hn hq hH;clear hn Hn hq hH;clear hv he h0 hE h9 y1 Hr Hz Hf h8;go_upto_region 19 with fail
    go_quiet ((go_at_call 51;exact qab (Hp.out _)))
    have HY:=zI (Hx.out.to_later (Later.drewN (Later.refl w9) nq));go_upto_region 20 with fail;generalize w9.drewN nq=w10 at *;have H0:Later w10 w10.drew:=(Later.refl _).drew;have hG:=HY.out.to_later H0;have ho:=ha.out.trans hG.later;have Hy:=hG.later.blk hb.out;obtain ⟨-,-,-,-,-,-,-,-,-,-,-,-,-,y13'⟩:=hG.bE;have Ho:∀V,Later w10.drew V->Calls prog 52 #[sQ Q ps.length q,nQ iQ 2] V λe w'=>e=.returned (nQ iQ (Cd.count 2 ps))/\Below V.heap.size V w':=λV hV=>qgD Q q ps 2 V oZ (HQ.out.below (ho.trans hV) (lrZ _))
    obtain ⟨HK,HZ,hZ,H1⟩:=zd4 Ho Hy ho hG;clear Ho Hy ho hG;clear y0 y13 Hp Hx HU h2
    go_region_law ((first
     | (go_simp;go_at_call 52;refine (HK.out _ (Later.refl _)).mono ?_;rintro e w11 ⟨rfl,h4⟩;have Hc:=hZ.out.trans (show Later w10.drew w11 from h4);have y13'':=(show Later w10.drew w11 from h4).cell y13';have hT:=(show Later w10.drew w11 from h4).blk HZ.out;obtain ⟨⟨x0,x1,x2,x3⟩,f0,f1,f2,f3⟩:=qaC hT)
     | fail))
    all_goals
     have HC:=uW Hc (Zy W.heap.size) (nQ iQ s.aB) (nQ iQ (Cd.aD ps (Nt.aD n)).1) (nQ iQ (Cd.count 2 ps)) (nQ iQ (max s.aB mx));have HL:=zI HC;clear HC;go_wp2_with fail;refine Zk1 (v:=.tuple #[.agg #[nQ iQ s.aB,nQ iQ (Cd.aD ps (Nt.aD n)).1,nQ iQ (Cd.count 2 ps),nQ iQ (max s.aB mx)],nQ iQ 0]) (by simp [results,results20,go_sem,x0,x1,x2,x3]) rfl ?_;exact ⟨by rw [HE.out];rfl,HL.out⟩
set_option maxRecDepth 100000 in
theorem qgM (a:CkA) (c:CkN) (W0:Zp1) (s:CkS) (W:Zp1) (hM:CkM a c W0 s W):
  Calls prog 137 #[.pointer (some ⟨a.p,0,none⟩)] W λe w'=>e=.returned (nQ iQ s.aB)/\W=w':=by
 have y:W.cell? ⟨a.p,13,none⟩=some (nQ iQ s.aB):=by obtain ⟨-,-,-,-,-,-,-,-,-,-,-,y11,y12,y13⟩:=hM.bE;assumption
 clear hM;go_in;go_wp2_with fail;go_ret;exact ⟨rfl,rfl⟩
def Gr.mH (n:aA) (ps:List (Int × Int)):Int × Int:=
 let r:=Ck.go (Ck.base n 1073741824) (Ck.start (n.o.length+1)) ps
 if r.2=0 then (r.1.aB,0) else (0,r.2)
set_option maxRecDepth 100000 in
theorem qfv (A N Q:Option Addr) (c d q:Nat) (n:aA) (ps:List (Int × Int)) (W:Zp1) (hok:n.ok) (hch:Nt.check n=0) (hR:bC W A N n) (hd:n.o.length<=d) (hsm:n.o.length<=200) (hps:ps.length<=1048576) (hQ:aW W Q ps):
  Calls prog 102 #[.agg #[sQ A n.inn.length c,sQ N n.o.length d],sQ Q ps.length q] W λe w'=>e=.returned (.tuple #[nQ iQ (Gr.mH n ps).1,nQ iQ (Gr.mH n ps).2])/\Later W w':=by
 have hH:Later W (W.alloc (.cells #[sQ A n.inn.length c,sQ N n.o.length d] 26)):=(Later.refl W).alloc _;obtain ⟨rn,hrn⟩:∃r,Gr.mH n ps=r:=⟨_,rfl⟩
 obtain ⟨HR,hU,hp,HQ⟩:=zd4 hR hok hH hQ;clear hR hok hH hQ;go_in;go_wp2_with fail;generalize W.alloc (.cells #[sQ A n.inn.length c,sQ N n.o.length d] 26)=W1 at *;refine (qeE A N c d n 1073741824 W1 hU.out (HR.out.below hp.out (lrZ _)) hd hsm oZ).mono ?_;rintro e W2 ⟨hi,hK⟩;rcases hi with ⟨hx,-⟩|⟨-,a,W0,hS,hA,rfl,hM⟩
 ·exact absurd hch hx
 have hj:=hp.out.trans hA;have hg:=zI (show Ck.Bd (Ck.start (n.o.length+1)) 0 from ⟨lrZ _,by simp [Ck.start],by simp [Ck.start],by simp [Ck.start],by simp [Ck.start]⟩);obtain ⟨he,HS,HM⟩:=zd3 hj hS hM;clear hj hS hM;clear hK hp hA;go_wp2_with fail
 go_loopw [9,10,21] (λ_ _ i wr=>∃(k:Nat) (s:CkS),k<=ps.length/\i=nQ iQ (k:Int)/\Ck.go (Ck.base n 1073741824) (Ck.start (n.o.length+1)) (ps.take k)=(s,0)/\CkM a (Ck.base n 1073741824) W0 s wr/\Ck.Bd s k) (λ_ _ i _=>ps.length-(intOf i).toNat)
 case atStart=>exact ⟨0,_,Zt _,rfl,rfl,HM.out,hg.out⟩
 case round=>
  clear HM hg;obtain ⟨k,s,hk,rfl,hb,hf,hq⟩:=hrel;have hl:=he.out.trans hf.later
  by_cases hs:k<ps.length
  ·obtain ⟨b3,o3,rfl,-,c0,c1⟩:=HQ.out.below hl (lrZ _) k hs
   have HT:=zI (Zb hs);have hN:=zI (Zn (k+1) ps);generalize ps[k]=pk at *;obtain ⟨kd,id⟩:=pk;simp only at c0 c1;have hJ:Later wr (wr.alloc (.cells #[nQ iQ kd,nQ iQ id] 106)):=(Later.refl wr).alloc _;have ht:=hf.to_later hJ;have hB:=hq;obtain ⟨hC,hD,hy,hv,hI⟩:=hq;have hY:(k:Int)*68719542272<=1048576*68719542272:=by omega
   have hu:=qg9 a _ W0 s _ HS.out ht kd id oZ oZ oZ;have hh:=ht.later;obtain ⟨hL,hm⟩:=zd2 hu hh;clear hu hh;clear hJ ht hf hl;go_wp2_with fail;generalize wr.alloc (.cells #[nQ iQ kd,nQ iQ id] 106)=w7 at *;refine hL.out.mono ?_;rintro e w8 ⟨rfl,hF⟩;have hc:=hF.to_later HS.out hm.out;have ho:=he.out.trans hc;have hr:=Ck.vQ HS.out hB kd id;have ha:=Ck.kZ (Ck.base n 1073741824) (Ck.start (n.o.length+1)) (ps.take k) (kd,id) (by rw [hb]);rw [hb] at ha;simp only at ha;rw [←HT.out] at ha
   by_cases hz:(Ck.do_ (Ck.base n 1073741824) s kd id).2=0
   ·have hE:Ck.do_ (Ck.base n 1073741824) s kd id=((Ck.do_ (Ck.base n 1073741824) s kd id).1,0):=by rw [←hz]
    rw [hE] at ha;rw [hz];have hw:=hF.mem;generalize (Ck.do_ (Ck.base n 1073741824) s kd id).1=s8 at *;obtain ⟨hV,hO,hP⟩:=zd3 hw ha hr;clear hw ha hr;clear hF hc ho hz hE hb hB hC hD hy hv hI c0 c1;go_wp2_with fail;go_roundw
    case rel=>exact ⟨k+1,s8,by omega,by go_num,hO.out,hV.out,hP.out⟩
    case measure=>simp [intOf];omega
   ·have hn:=Ck.oK (Ck.base n 1073741824) (Ck.start (n.o.length+1)) (ps.take (k+1)) (ps.drop (k+1)) (by rw [ha];exact hz)
    rw [hN.out,ha] at hn;have HE:=zI (show Gr.mH n ps=(0,(Ck.do_ (Ck.base n 1073741824) s kd id).2) by unfold Gr.mH;rw [hn];exact inZ hz);have hZ:((Ck.do_ (Ck.base n 1073741824) s kd id).2 != 0)=true:=by simp [hz]
    generalize (Ck.do_ (Ck.base n 1073741824) s kd id).2=er at *;have hX:=zI ho;clear ho;clear hF hc hz hb hB hC hD hy hv hI c0 c1 hn ha hr;go_wp2_with fail
    go_ret2
    exact ⟨by rw [HE.out];rfl,hX.out⟩
  ·obtain rfl:k=ps.length:=by omega
   rw [Zg] at hb;have HE:=zI (show Gr.mH n ps=(s.aB,0) by unfold Gr.mH;rw [hb];rfl);have hG:=qgM a _ W0 s wr hf;obtain ⟨hW,hT⟩:=zd2 hG hl;clear hG hl;clear hb hs hf hq;go_wp2_with fail;refine hW.out.mono ?_;rintro e w8 ⟨rfl,rfl⟩;go_wp2_with fail
   go_ret2
   exact ⟨by rw [HE.out];rfl,hT.out⟩
theorem qeM (kept rest:List Int) (i:Nat) (h:i<kept.length):splice (qae (kept++rest)) i (qae (kept.drop (i+1)))=qae (kept.eraseIdx i++(kept++rest).drop (kept.length-1)):=by
 unfold splice qae;rw [←List.map_take,List.length_map,Zq,←List.map_drop,←List.map_append,←List.map_append,List.eraseIdx_eq_take_drop_succ,List.take_append_of_le_length (Nat.le_of_lt h),List.append_assoc,show i+(kept.length-(i+1))=kept.length-1 by omega]
theorem qi4 {w:Zp1} {k:Nat} {t:TypeId} {kept rest:List Int} {i:Nat} (h:i<kept.length) (hb:Blk w k t (qae (kept++rest)).toArray):
  Blk (w.setCells k i (qae (kept.drop (i+1)))) k t (qae (kept.eraseIdx i++(kept++rest).drop (kept.length-1))).toArray:=by
 rw [←qeM kept rest i h];exact qaq _ _ _ _ hb (by simp [qae];omega)
theorem qcU {k g':Nat} (hne:g'≠k):∀(vs:List Value) (o:Nat) (w:Zp1),(w.setCells k o vs).heap[g']? = w.heap[g']?
 | [],_,_=>rfl
 | v::r,o,w=>(qcU hne r (o+1) (w.setCell ⟨k,o,none⟩ v)).trans (Below.heap_setCell w ⟨k,o,none⟩ v g' hne)
theorem qcV {W0:Zp1} {k:Nat} (hk:W0.heap.size<=k):∀(vs:List Value) (o:Nat) {w:Zp1},Later W0 w->Later W0 (w.setCells k o vs)
 | [],_,_,h=>h
 | v::r,o,_,h=>qcV hk r (o+1) (h.set (p:=⟨k,o,none⟩) hk v)
structure GrM (A N:Option Addr) (c d:Nat) (n:aA) (W0:Zp1) (g k p:Nat) (kept:List Int) (W:Zp1):Prop where
 later:Later W0 W
 box:Blk W p 136 #[sQ A n.inn.length c,sQ N n.o.length d,sQ (some ⟨g,0,none⟩) (n.o.length+1) (n.o.length+1),sQ (some ⟨k,0,none⟩) kept.length n.o.length]
 words:Blk W g 3 (qae (Nt.words n)).toArray
 row:∃rest,Blk W k 3 (qae (kept++rest)).toArray/\kept.length+rest.length=n.o.length
 rng:∀z∈kept,1<=z/\z<=n.o.length
 gk:g≠k
 gp:g≠p
 kp:k≠p
 hp:W0.heap.size<=p
 hk:W0.heap.size<=k
section
variable {A N:Option Addr} {c d g k p:Nat} {n:aA} {W0 W W':Zp1} {kept:List Int}
theorem GrM.to_later (h:GrM A N c d n W0 g k p kept W) (hl:Later W W'):GrM A N c d n W0 g k p kept W':=by
 obtain ⟨r,hr,ha⟩:=h.row;exact ⟨h.later.trans hl,hl.blk h.box,hl.blk h.words,⟨r,hl.blk hr,ha⟩,h.rng,h.gk,h.gp,h.kp,h.hp,h.hk⟩
theorem GrM.ints (h:GrM A N c d n W0 g k p kept W):Ints iQ W (some ⟨k,0,none⟩) kept:=by
 obtain ⟨r,hr,-⟩:=h.row
 exact Ints.dV λj hj=>by
  rw [Zw,hr.cell];simp [qae];rw [Zm (by simpa using hj)];simp [hj]
theorem GrM.jN (h:GrM A N c d n W0 g k p kept W) {i:Nat} (hi:i<kept.length):W.cell? ⟨k,i,none⟩=some (nQ iQ (kept.getD i 0)):=by
 obtain ⟨r,hr,-⟩:=h.row;rw [hr.cell];simp [qae];rw [Zm (by simpa using hi)];simp [hi]
theorem GrM.vH (h:GrM A N c d n W0 g k p kept W) {i:Nat} (hi:i<kept.length):∃u:Nat,kept.getD i 0=(u:Int)/\1<=u/\u<=n.o.length:=by
 have h1:=h.rng _ (gmZ hi);have e:kept.getD i 0=kept[i]:=by simp [hi]
 rw [e];exact ⟨kept[i].toNat,by omega,by omega,by omega⟩
theorem GrM.uN (h:GrM A N c d n W0 g k p kept W) (hw:(Nt.words n).length=n.o.length+1) {u:Nat} (hu:u<=n.o.length):W.cell? ⟨g,u,none⟩=some (nQ iQ (Gr.wd (Nt.words n) u)):=by
 rw [h.words.cell];unfold Gr.wd;simp [qae];rw [geZ oZ];simp
theorem GrM.erase (h:GrM A N c d n W0 g k p kept W) {i:Nat} (hi:i<kept.length):
  GrM A N c d n W0 g k p (kept.eraseIdx i) ((W.setCells k i (qae (kept.drop (i+1)))).setCell ⟨p,3,none⟩ (sQ (some ⟨k,0,none⟩) (kept.length-1) n.o.length)):=by
 obtain ⟨r,hr,hl⟩:=h.row;have e1:=qi4 hi hr;have hs:∀g' (t:TypeId) cs,g'≠k->Blk W g' t cs->Blk (W.setCells k i (qae (kept.drop (i+1)))) g' t cs:=λg' t cs hc hb=>(qcU hc _ _ _).trans hb
 have ha:(kept.eraseIdx i).length=kept.length-1:=by rw [List.length_eraseIdx,ipZ hi]
 refine ⟨?_,?_,(hs _ _ _ h.gk h.words).far (p:=⟨p,3,none⟩) h.gp _,⟨_,e1.far (p:=⟨p,3,none⟩) h.kp _,?_⟩,λz hz=>h.rng z (List.mem_of_mem_eraseIdx hz),h.gk,h.gp,h.kp,h.hp,h.hk⟩
 ·exact (qcV h.hk _ _ h.later).set (p:=⟨p,3,none⟩) h.hp _
 ·have:=(hs _ _ _ (Ne.symm h.kp) h.box).aO 3 (sQ (some ⟨k,0,none⟩) (kept.length-1) n.o.length)
  rw [ha];simpa using this
 ·rw [ha]
  simp;omega
end
theorem KpL.cells {L:List Nat} {w:Zp1} {k:Nat} (hk:k∈L):∀(vs:List Value) (o:Nat) {w':Zp1},KpL L w w'->KpL L w (w'.setCells k o vs)
 | [],_,_,h=>h
 | v::r,o,_,h=>KpL.cells hk r (o+1) (h.set (p:=⟨k,o,none⟩) hk v)
set_option maxRecDepth 100000 in
theorem qch (A N:Option Addr) (c d g k p:Nat) (n:aA) (W0:Zp1) (kept:List Int) (W:Zp1) (hw:(Nt.words n).length=n.o.length+1) (hn:n.o.length<=1000) (hM:GrM A N c d n W0 g k p kept W):
  Calls prog 67 #[.pointer (some ⟨p,0,none⟩)] W λe w'=>((kept=[]/\e=.returned (.bool false)/\GrM A N c d n W0 g k p kept w')∨(kept≠[]/\e=.returned (.bool true)/\GrM A N c d n W0 g k p (Gr.less (Nt.words n) kept) w'))/\KpL [k,p] W w':=by
 have p3:W.cell? ⟨p,3,none⟩=some (sQ (some ⟨k,0,none⟩) kept.length n.o.length):=hM.box.cell 3;obtain ⟨i0,hi,ht,hA,hs⟩:=info_parts qag
 by_cases h0:kept=[]
 ·subst h0
  rw [List.length_nil] at p3;have HM:=zI hM;clear hM;clear hi ht hA hs;go_in;go_wp2_with fail;go_ret;exact ⟨.inl ⟨by trivial,rfl,HM.out⟩,KpL.refl _ _⟩
 ·have hz:0<kept.length:=List.length_pos_iff.2 h0
  have e1:((kept.length:Int)==0)=false:=by simp [h0]
  have hL:kept.length<=n.o.length:=by obtain ⟨r,-,hr⟩:=hM.row;omega
  have hP:=zI λj (h:j<=kept.length)=>Gr.qO (Nt.words n) kept hz j h
  obtain ⟨HM,Hw,H0,Hi,hW,ho,hX⟩:=zd7 hM hw h0 hi ht hA hs;clear hM hw h0 hi ht hA hs;go_in;go_wp2_with fail;generalize hws:Nt.words n=ws at *;have hd:=zI hws;clear hws
  go_loopw [3,4,5,17] (λa _ _ i wr=>∃j:Nat,j<=kept.length/\i=nQ iQ (j:Int)/\a=nQ iQ ((Gr.at_ ws kept j:Nat):Int)/\GrM A N c d n W0 g k p kept wr/\Later W wr) (λ_ _ _ i _=>kept.length-(intOf i).toNat)
  case atStart=>exact ⟨0,Zt _,rfl,rfl,HM.out,Later.refl _⟩
  case round=>
   obtain ⟨j,hj,rfl,rfl,ha,hm⟩:=hrel;clear HM p3;have hx:=hP.out j hj;have p2:wr.cell? ⟨p,2,none⟩=some (sQ (some ⟨g,0,none⟩) (n.o.length+1) (n.o.length+1)):=ha.box.cell 2;have p3:wr.cell? ⟨p,3,none⟩=some (sQ (some ⟨k,0,none⟩) kept.length n.o.length):=ha.box.cell 3
   by_cases hJ:j<kept.length
   ·obtain ⟨u,hu,hT,hS⟩:=ha.vH hJ
    obtain ⟨v,hv,hU,hR⟩:=ha.vH hx;have y1:=ha.jN hJ;have y2:=ha.jN hx;have y3:=ha.uN (by rw [hd.out];exact Hw.out) hS;have y4:=ha.uN (by rw [hd.out];exact Hw.out) hR;rw [hd.out] at y3 y4;have he:Gr.at_ ws kept (j+1)=if Gr.wd ws v<Gr.wd ws u then j else Gr.at_ ws kept j:=by rw [Gr.at_,hv,hu]
    rw [hu] at y1;rw [hv] at y2;generalize Gr.at_ ws kept j=aj at *;generalize Gr.wd ws (v:Int)=wv at *;generalize Gr.wd ws (u:Int)=wu at *;have q1:(j:Int)<(kept.length:Int):=by omega
    have q2:(0:Int)<=(u:Int):=by omega
    have q3:(u:Int)<((n.o.length+1:Nat):Int):=by omega
    have q4:(0:Int)<=(v:Int):=by omega
    have q5:(v:Int)<((n.o.length+1:Nat):Int):=by omega
    have q6:(0:Int)<=(aj:Int):=by omega
    have q7:(aj:Int)<(kept.length:Int):=by omega
    have hO:∀m,GrM A N c d n W0 g k p kept (wr.drewN m):=λm=>ha.to_later (Later.drewN (Later.refl _) m)
    have hg:∀m,Later W (wr.drewN m):=λm=>hm.drewN m
    obtain ⟨hG,hh⟩:=zd2 hO hg;clear hO hg;clear ha hu hv hm
    by_cases hc:wv<wu
    ·rw [ipZ hc] at he
     have hy:=zI he;clear he;go_wp2_with fail
     go_quiet (fail)
     go_wp2_with fail;go_roundw
     case rel=>exact ⟨j+1,by omega,by go_num,by rw [hy.out],hG.out _,hh.out _⟩
     case measure=>simp [intOf];omega
    ·rw [inZ hc] at he
     have hy:=zI he;clear he;go_wp2_with fail
     go_quiet (fail)
     go_wp2_with fail;go_roundw
     case rel=>exact ⟨j+1,by omega,by go_num,by rw [hy.out],hG.out _,hh.out _⟩
     case measure=>simp [intOf];omega
   ·obtain rfl:j=kept.length:=by omega
    have hF:Gr.less ws kept=kept.eraseIdx (Gr.at_ ws kept kept.length):=rfl;generalize Gr.at_ ws kept kept.length=aj at *;have q6:(0:Int)<=(aj:Int):=by omega
    have q7:(aj:Int)<(kept.length:Int):=by omega
    have q8:iQ.wrap ((aj:Int)+1)=(aj:Int)+1:=Zc1 _ oZ;have q9:((aj:Int)+1).toNat=aj+1:=by omega
    have q10:(aj:Int)+1<=(kept.length:Int):=by omega
    have q11:(0:Int)<=(aj:Int)+1:=by omega
    have q12:(aj:Int)<=(kept.length:Int):=by omega
    have q13:(aj:Int)<=(n.o.length:Int):=by omega
    have q14:(aj:Int)+1<=(n.o.length:Int):=by omega
    have q15:(kept.length:Int)<=(n.o.length:Int):=by omega
    have hE:=λm=>(ha.to_later (Later.drewN (Later.refl wr) m)).erase hx
    have hC:∀m,KpL [k,p] W (((wr.drewN m).setCells k aj (qae (kept.drop (aj+1)))).setCell ⟨p,3,none⟩ (sQ (some ⟨k,0,none⟩) (kept.length-1) n.o.length)):=λm=>KpL.set (p:=⟨p,3,none⟩) (KpL.cells sZ _ _ (KpL.of_later (hm.drewN m))) sZ _
    have p0:wr.cell? ⟨p,0,none⟩=some (sQ A n.inn.length c):=ha.box.cell 0;have hH:=λj (h:j<kept.length-(aj+1))=>(ha.jN (i:=aj+1+j) oZ)
    have hI:Blk (wr.drew.setCells k aj (qae (kept.drop (aj+1)))) p 136 #[sQ A n.inn.length c,sQ N n.o.length d,sQ (some ⟨g,0,none⟩) (n.o.length+1) (n.o.length+1),sQ (some ⟨k,0,none⟩) kept.length n.o.length]:=(qcU (Ne.symm ha.kp) _ _ _).trans ha.box
    have hN:∀j,j<(qae (kept.drop (aj+1))).length->(wr.drew.cell? ⟨k,0+aj*1+j,none⟩).isSome=true/\wr.drew.frozen? ⟨k,0+aj*1+j,none⟩=false:=λj hj=>by
     obtain ⟨r,hr,hl⟩:=ha.row;simp [qae] at hj;obtain ⟨v,hv⟩:=hr.has (j:=0+aj*1+j) (by rw [qaI,Ze];omega);exact ⟨by rw [show wr.drew.cell? ⟨k,0+aj*1+j,none⟩=some v from hv];rfl,hr.frozen _⟩
    obtain ⟨HE,hV,hk,hD,hb,hp,hq⟩:=zd7 hE ha hF hH hI hN hC;clear hE ha hF hH hI hN hC;clear hm;clear p2
    by_cases hf:n.o.length=aj+1
    ·have hQ:(n.o.length=aj+1)=True:=eq_true hf
     have hB:=zI hf;clear hf;go_wp2_with fail;have KF:=zI (show ∀Xw,Later wr Xw->Xw.cell? ⟨p,0,none⟩=some (sQ A n.inn.length c) from λXw h=>h.cell p0);refine Zm1 ?_;refine Zl1 (S:=λXw=>Xw.cell? ⟨p,0,none⟩=some (sQ A n.inn.length c)) krZ (KF.out _ Lau) (λhHeld=>?_);refine tk 0 ?_;refine tk 1 ?_;refine tk 2 ?_;refine tk 3 ?_;refine tk 5 ?_;refine tk 7 ?_;refine tk 8 ?_;refine tk 9 ?_;refine tk 11 ?_;refine tk 12 ?_;refine Zo1 (rs:=[4,10]) krZ sZ ?_;refine Zf1 (o:=_) rfl (λK hK=>?_) (Zf1 (o:=_) rfl (λK hK=>?_) (Zg1))
     ·simp only [ga,gs,gz]
      go_simp
      refine hK.out _ _ (KF.out _ Lau) (λhHeld=>?_);clear hK K
      try simp only [ga,gs,gz,Act.put,sa,sz,ss]
      refine tk 6 ?_;refine rd 10 λK hK=>?_
      simp only [ga,gs,gz]
      go_simp
      refine hK.out _ _ (KF.out _ Lau) (λhHeld=>?_);clear hK K
      try simp only [ga,gs,gz,Act.put,sa,sz,ss]
      refine tk 13 ?_;refine rd 14 λK hK=>?_
      refine step_append_room rfl (.tmp 51) (.tmp 58) 22 rfl 3 i0 1 underlying22 Hi.out ho.out k 0 aj n.o.length rfl _ _ _ (qae (kept.drop (aj+1))) rfl (by simp [qae]) (λj u hu=>by have h1:=(List.getElem?_eq_some_iff.1 hu).1;simp [qae] at h1;have:=hB.out;omega) (λu hu=>by simp only [qae,List.mem_map] at hu;obtain ⟨z,-,rfl⟩:=hu;rfl) oZ hp.out ?_;rw [show aj+(kept.length-(aj+1))=kept.length-1 by omega,show 0+aj*1=aj by omega];replace p0:=hb.out.cell 0;have y3:=hb.out.cell 3;have f3:=hb.out.frozen 3;refine hK.out _ _ (by first|exact p0|exact KF.out _ Lau) (λhHeld=>?_);clear hK K
      try simp only [ga,gs,gz,Act.put,sa,sz,ss]
      refine tk 15 ?_;refine tk 16 ?_;refine rd 17 λK hK=>?_
      simp only [ga,gs,gz]
      go_simp
      replace p0:=(hb.out.aO 3 (sQ (some ⟨k,0,none⟩) (kept.length-1) n.o.length)).cell 0
      try go_wp2_with fail
      refine hK.out _ _ (by first|exact p0|exact KF.out _ Lau) (λhHeld=>?_);clear hK K
      try simp only [ga,gs,gz,Act.put,sa,sz,ss]
      clear KF;refine Zn1 krZ ?_ _;refine Zd1 ?_;go_wp2_with fail;go_ret;exact ⟨.inr ⟨H0.out,rfl,by rw [hd.out,hk.out];exact HE.out 1⟩,hq.out 1⟩
     ·simp only [ga,gs,gz]
      go_simp
      refine hK.out _ _ (KF.out _ Lau) (λhHeld=>?_);clear hK K
      try simp only [ga,gs,gz,Act.put,sa,sz,ss]
      refine tk 13 ?_;refine rd 4 λK hK=>?_
      simp only [ga,gs,gz]
      go_simp
      refine hK.out _ _ (KF.out _ Lau) (λhHeld=>?_);clear hK K
      try simp only [ga,gs,gz,Act.put,sa,sz,ss]
      refine tk 6 ?_;refine rd 14 λK hK=>?_
      refine step_append_room rfl (.tmp 51) (.tmp 58) 22 rfl 3 i0 1 underlying22 Hi.out ho.out k 0 aj n.o.length rfl _ _ _ (qae (kept.drop (aj+1))) rfl (by simp [qae]) (λj u hu=>by have h1:=(List.getElem?_eq_some_iff.1 hu).1;simp [qae] at h1;have:=hB.out;omega) (λu hu=>by simp only [qae,List.mem_map] at hu;obtain ⟨z,-,rfl⟩:=hu;rfl) oZ hp.out ?_;rw [show aj+(kept.length-(aj+1))=kept.length-1 by omega,show 0+aj*1=aj by omega];replace p0:=hb.out.cell 0;have y3:=hb.out.cell 3;have f3:=hb.out.frozen 3;refine hK.out _ _ (by first|exact p0|exact KF.out _ Lau) (λhHeld=>?_);clear hK K
      try simp only [ga,gs,gz,Act.put,sa,sz,ss]
      refine tk 15 ?_;refine tk 16 ?_;refine rd 17 λK hK=>?_
      simp only [ga,gs,gz]
      go_simp
      replace p0:=(hb.out.aO 3 (sQ (some ⟨k,0,none⟩) (kept.length-1) n.o.length)).cell 0
      try go_wp2_with fail
      refine hK.out _ _ (by first|exact p0|exact KF.out _ Lau) (λhHeld=>?_);clear hK K
      try simp only [ga,gs,gz,Act.put,sa,sz,ss]
      clear KF;refine Zn1 krZ ?_ _;refine Zd1 ?_;go_wp2_with fail;go_ret;exact ⟨.inr ⟨H0.out,rfl,by rw [hd.out,hk.out];exact HE.out 1⟩,hq.out 1⟩
    ·have hQ:(n.o.length=aj+1)=False:=eq_false hf
     clear hf;go_wp2_with fail;have KF:=zI (show ∀Xw,Later wr Xw->Xw.cell? ⟨p,0,none⟩=some (sQ A n.inn.length c) from λXw h=>h.cell p0);refine Zm1 ?_;refine Zl1 (S:=λXw=>Xw.cell? ⟨p,0,none⟩=some (sQ A n.inn.length c)) krZ (KF.out _ Lau) (λhHeld=>?_);refine tk 0 ?_;refine tk 1 ?_;refine tk 2 ?_;refine tk 3 ?_;refine tk 5 ?_;refine tk 7 ?_;refine tk 8 ?_;refine tk 9 ?_;refine tk 11 ?_;refine tk 12 ?_;refine Zo1 (rs:=[4,10]) krZ sZ ?_;refine Zf1 (o:=_) rfl (λK hK=>?_) (Zf1 (o:=_) rfl (λK hK=>?_) (Zg1))
     ·simp only [ga,gs,gz]
      go_simp
      refine hK.out _ _ (KF.out _ Lau) (λhHeld=>?_);clear hK K
      try simp only [ga,gs,gz,Act.put,sa,sz,ss]
      refine tk 6 ?_;refine rd 10 λK hK=>?_
      simp only [ga,gs,gz]
      go_simp
      refine hK.out _ _ (KF.out _ Lau) (λhHeld=>?_);clear hK K
      try simp only [ga,gs,gz,Act.put,sa,sz,ss]
      refine tk 13 ?_;refine rd 14 λK hK=>?_
      refine step_append_room rfl (.tmp 51) (.tmp 58) 22 rfl 3 i0 1 underlying22 Hi.out ho.out k 0 aj n.o.length rfl _ _ _ (qae (kept.drop (aj+1))) rfl (by simp [qae]) (λj u hu=>by have h1:=(List.getElem?_eq_some_iff.1 hu).1;simp [qae] at h1;have h2:=hD.out j h1;rw [show ∀(q:Nat),(⟨k,q,none⟩:Addr).add j=⟨k,q+j,none⟩ from λ_=>by simp [Addr.add]];refine Eq.trans (show wr.drew.cell? ⟨k,aj+1+j,none⟩=wr.cell? ⟨k,aj+1+j,none⟩ from rfl) ?_;rw [h2,←hu];simp [qae];rw [geZ oZ];simp) (λu hu=>by simp only [qae,List.mem_map] at hu;obtain ⟨z,-,rfl⟩:=hu;rfl) oZ hp.out ?_;rw [show aj+(kept.length-(aj+1))=kept.length-1 by omega,show 0+aj*1=aj by omega];replace p0:=hb.out.cell 0;have y3:=hb.out.cell 3;have f3:=hb.out.frozen 3;refine hK.out _ _ (by first|exact p0|exact KF.out _ Lau) (λhHeld=>?_);clear hK K
      try simp only [ga,gs,gz,Act.put,sa,sz,ss]
      refine tk 15 ?_;refine tk 16 ?_;refine rd 17 λK hK=>?_
      simp only [ga,gs,gz]
      go_simp
      replace p0:=(hb.out.aO 3 (sQ (some ⟨k,0,none⟩) (kept.length-1) n.o.length)).cell 0
      try go_wp2_with fail
      refine hK.out _ _ (by first|exact p0|exact KF.out _ Lau) (λhHeld=>?_);clear hK K
      try simp only [ga,gs,gz,Act.put,sa,sz,ss]
      clear KF;refine Zn1 krZ ?_ _;refine Zd1 ?_;go_wp2_with fail;go_ret;exact ⟨.inr ⟨H0.out,rfl,by rw [hd.out,hk.out];exact HE.out 1⟩,hq.out 1⟩
     ·simp only [ga,gs,gz]
      go_simp
      refine hK.out _ _ (KF.out _ Lau) (λhHeld=>?_);clear hK K
      try simp only [ga,gs,gz,Act.put,sa,sz,ss]
      refine tk 13 ?_;refine rd 4 λK hK=>?_
      simp only [ga,gs,gz]
      go_simp
      refine hK.out _ _ (KF.out _ Lau) (λhHeld=>?_);clear hK K
      try simp only [ga,gs,gz,Act.put,sa,sz,ss]
      refine tk 6 ?_;refine rd 14 λK hK=>?_
      refine step_append_room rfl (.tmp 51) (.tmp 58) 22 rfl 3 i0 1 underlying22 Hi.out ho.out k 0 aj n.o.length rfl _ _ _ (qae (kept.drop (aj+1))) rfl (by simp [qae]) (λj u hu=>by have h1:=(List.getElem?_eq_some_iff.1 hu).1;simp [qae] at h1;have h2:=hD.out j h1;rw [show ∀(q:Nat),(⟨k,q,none⟩:Addr).add j=⟨k,q+j,none⟩ from λ_=>by simp [Addr.add]];refine Eq.trans (show wr.drew.cell? ⟨k,aj+1+j,none⟩=wr.cell? ⟨k,aj+1+j,none⟩ from rfl) ?_;rw [h2,←hu];simp [qae];rw [geZ oZ];simp) (λu hu=>by simp only [qae,List.mem_map] at hu;obtain ⟨z,-,rfl⟩:=hu;rfl) oZ hp.out ?_;rw [show aj+(kept.length-(aj+1))=kept.length-1 by omega,show 0+aj*1=aj by omega];replace p0:=hb.out.cell 0;have y3:=hb.out.cell 3;have f3:=hb.out.frozen 3;refine hK.out _ _ (by first|exact p0|exact KF.out _ Lau) (λhHeld=>?_);clear hK K
      try simp only [ga,gs,gz,Act.put,sa,sz,ss]
      refine tk 15 ?_;refine tk 16 ?_;refine rd 17 λK hK=>?_
      simp only [ga,gs,gz]
      go_simp
      replace p0:=(hb.out.aO 3 (sQ (some ⟨k,0,none⟩) (kept.length-1) n.o.length)).cell 0
      try go_wp2_with fail
      refine hK.out _ _ (by first|exact p0|exact KF.out _ Lau) (λhHeld=>?_);clear hK K
      try simp only [ga,gs,gz,Act.put,sa,sz,ss]
      clear KF;refine Zn1 krZ ?_ _;refine Zd1 ?_;go_wp2_with fail;go_ret;exact ⟨.inr ⟨H0.out,rfl,by rw [hd.out,hk.out];exact HE.out 1⟩,hq.out 1⟩
theorem qfw (A N:Option Addr) (c d g k p:Nat) (n:aA) (W0:Zp1) (kept:List Int) (W:Zp1) (hw:(Nt.words n).length=n.o.length+1) (hn:n.o.length<=1000) (hM:GrM A N c d n W0 g k p kept W):
  Calls prog 67 #[.pointer (some ⟨p,0,none⟩)] W λe w'=>(kept=[]/\e=.returned (.bool false)/\GrM A N c d n W0 g k p kept w')∨(kept≠[]/\e=.returned (.bool true)/\GrM A N c d n W0 g k p (Gr.less (Nt.words n) kept) w'):=
 (qch A N c d g k p n W0 kept W hw hn hM).mono λ_ _ h=>h.1
namespace Rt
def picks (os:List Int) (s:Nat) (j:Nat):List Int:=(List.range j).map λi=>os.getD ((i+1)*s-1) 0
theorem picks_succ (os:List Int) (s j:Nat):picks os s (j+1)=picks os s j++[os.getD ((j+1)*s-1) 0]:=by simp [picks,List.range_succ]
theorem qU (os:List Int) (s j:Nat):(picks os s j).length=j:=by simp [picks]
def every (os:List Int) (s:Nat):List Int:=(picks os s (os.length / s)).mergeSort λx y=>decide (x<=y)
theorem nP (os:List Int) (s:Nat):(every os s).length=os.length / s:=by simp [every,qU]
theorem every_mem {os:List Int} {s:Nat} {z:Int}:z∈every os s↔z∈picks os s (os.length / s):=by unfold every;exact List.mem_mergeSort
theorem uQ {os:List Int} {s i:Nat} (hs:1<=s) (hi:i<os.length / s):(i+1)*s-1<os.length/\1<=(i+1)*s:=by
 have h1:(i+1)*s<=os.length / s*s:=mlZ s oZ;have h2:=Nat.div_mul_le_self os.length s;have h3:1*s<=(i+1)*s:=mlZ s oZ;omega
theorem nodup_at {l:List Int} (hn:l.Nodup) {i j:Nat} (hi:i<l.length) (hj:j<l.length) (h:l[i]=l[j]):i=j:=by
 have hp:=List.pairwise_iff_getElem.1 hn;rcases Nat.lt_trichotomy i j with h1|h1|h1
 ·exact absurd h (hp i j hi hj h1)
 ·exact h1
 ·exact absurd h.symm (hp j i hj hi h1)
end Rt
theorem qeN:∀(f x:Nat),x<2 ^ f->0<x->x<2 ^ Lib.bitLenAux f x/\1<=Lib.bitLenAux f x/\Lib.bitLenAux f x<=f
 | 0,x,h,h0=>by simp at h;omega
 | f+1,x,h,h0=>by
  rw [Lib.bitLenAux,inZ oZ]
  by_cases h1:x=1
  ·subst h1
   cases f<;>simp [Lib.bitLenAux]
  ·have ⟨a,b,c⟩:=qeN f (x / 2) (by rw [Nat.pow_succ] at h;omega) oZ
   refine ⟨?_,by omega,by omega⟩;rw [Nat.add_comm,Nat.pow_succ];omega
theorem qgN (x:Nat) (h0:0<x) (h:x<2 ^ 63):(Lib.bitLen x-1) / 2<=31/\(x:Int)<(0+2 ^ ((Lib.bitLen x-1) / 2+1))*(0+2 ^ ((Lib.bitLen x-1) / 2+1))/\1<=Lib.bitLen x/\Lib.bitLen x<=63:=by
 have e:Lib.bitLen x=Lib.bitLenAux 63 x:=Lib.bitLenAux_fuel 63 x h 64 oZ;have ⟨a,b,c⟩:=qeN 63 x h h0;rw [e];generalize Lib.bitLenAux 63 x=L at a b c;refine ⟨by omega,?_,b,c⟩;rw [Int.zero_add,←Int.pow_add];have:2 ^ L<=2 ^ ((L-1) / 2+1+((L-1) / 2+1)):=Nat.pow_le_pow_right oZ oZ;have h3:x<2 ^ ((L-1) / 2+1+((L-1) / 2+1)):=by omega
 exact_mod_cast h3
def qcW (j:Nat):Int:=2 ^ j / 2
theorem qeO:qcW 0=0:=by decide
theorem qci (j:Nat):qcW (j+1)=2 ^ j:=by
 unfold qcW;rw [Int.pow_succ];omega
theorem qeP (j:Nat):(2:Int) ^ j / 2=qcW j:=rfl
theorem vN (j:Nat) (h:j<=31):(1:Int)<=2 ^ j/\(2:Int) ^ j<=2147483648:=by
 have h1:2 ^ j<=2 ^ 31:=Nat.pow_le_pow_right oZ h;have h2:0<2 ^ j:=Nat.pow_pos oZ;have e:((2 ^ j:Nat):Int)=2 ^ j:=Int.natCast_pow 2 j;rw [←e];omega
theorem root_bd {r n:Int} (h0:0<=r) (h:r*r<=n) (hn:n<=9223372036854775807):r<=4294967296:=by
 rcases Int.lt_or_le 4294967296 r with h1|h1
 ·have:=Int.mul_le_mul (Int.le_of_lt h1) (Int.le_of_lt h1) oZ h0
  omega
 ·exact h1
theorem qgO (n:Int) (w:Zp1) (hl : -9223372036854775808<=n) (hh:n<=9223372036854775807):
  Calls prog 55 #[nQ iQ n] w λe w'=>e=.returned (nQ iQ (Safe.bK n))/\w=w':=by
 by_cases hn:n<=0
 ·have ha:=zI (Safe.mX hn)
  go_in;go_wp2_with fail;go_ret;exact ⟨qbt (by rw [ha.out]),rfl⟩
 ·have hi:1<=n:=by omega
  clear hn;obtain ⟨x,rfl⟩:=ezZ (show 0<=n by omega);obtain ⟨hm,hx,hc,he⟩:=qgN x oZ oZ;have HX:=zI hx;have HP:=zI (vN _ hm);clear hx;go_in;go_wp2_with fail;refine (Tryz.bits_Len (x:Int) _ oZ oZ).mono ?_;rintro e w' ⟨rfl,hw⟩;obtain rfl:=hw.symm;clear hw;rw [tnZ];generalize Lib.bitLen x=L at HX HP hm hc he;go_wp2_with fail
  go_loop [3,4,5] (λr b _=>∃(j:Nat) (q:Int),j<=32/\0<=q/\r=nQ iQ q/\b=nQ iQ (qcW j)/\q*q<=(x:Int)/\(x:Int)<(q+2 ^ j)*(q+2 ^ j)) (λ_ b _=>(intOf b).toNat)
  case atStart=>
   refine ⟨(L-1) / 2+1,0,by omega,by omega,rfl,?_,by omega,HX.out⟩;rw [qci,IntWalk.wrap64_in _ ⟨by have:=HP.out;omega,by have:=HP.out;omega⟩]
  case round=>
   obtain ⟨j,q,hj,hq,rfl,rfl,h1,h2⟩:=hrel;obtain ⟨H1,H2⟩:=zd2 h1 h2;have hg:=root_bd hq h1 hh;clear h1 h2;rcases j with _|j
   ·rw [qeO]
    have ha:=zI (Safe.isqrt_uniq hq H1.out (by simpa using H2.out));go_wp2_with fail;go_ret;exact ⟨qbt (by rw [←ha.out]),rfl⟩
   ·have ⟨hp1,hp2⟩:=vN j oZ
    have HB:=zI (qeP j);rw [qci];have e2:(2:Int) ^ (j+1)=2*2 ^ j:=by rw [Int.pow_succ,Int.mul_comm]
    rw [e2] at H2;clear e2;generalize hpe:(2:Int) ^ j=p at hp1 hp2 HB H2;have HE:=zI hpe;clear hpe;have hf:0<=(x:Int) / (q+p):=Int.ediv_nonneg oZ oZ;have hk:(x:Int) / (q+p)<=9223372036854775807:=Int.le_trans (Int.ediv_le_self _ oZ) hh
    by_cases hb:(q+p)*(q+p)<=(x:Int)
    ·have hd:q+p<=(x:Int) / (q+p):=(Int.le_ediv_iff_mul_le oZ).2 hb
     have HL:=zI hb;clear hb;go_wp2_with fail
     go_round
     case rel=>exact ⟨j,q+p,by omega,by omega,rfl,by rw [HB.out],HL.out,by rw [HE.out];have:=H2.out;rw [show q+p+p=q+2*p by omega];exact this⟩
     case measure=>simp [intOf];omega
    ·have hd:(x:Int) / (q+p)<q+p:=by
      rcases Int.lt_or_le ((x:Int) / (q+p)) (q+p) with h|h
      ·exact h
      ·exact absurd ((Int.le_ediv_iff_mul_le oZ).1 h) hb
     have HL:=zI hb;clear hb;go_wp2_with fail
     go_round
     case rel=>exact ⟨j,q,by omega,by omega,rfl,by rw [HB.out],H1.out,by rw [HE.out];have:=HL.out;omega⟩
     case measure=>simp [intOf];omega
theorem qc4 (a:RtA) (n:aA) (kb:List Bool) (W0:Zp1) (s:RtS) (W:Zp1) (hM:RtM a n kb W0 s W) (hlen:s.code.length<=60000):
  Calls prog 118 #[.pointer (some ⟨a.p,0,none⟩)] W λe w'=>e=.returned (.bool false)/\W=w':=by
 obtain ⟨v,hb,ho,-,-,-,-,-,-,-,-,c8⟩:=hM.eO;obtain ⟨A,c,rfl⟩:=qa6 ho;have h1:decide ((65536:Int)<(s.code.length:Int))=false:=by simp;omega
 clear ho hb hM;go_in;go_wp2_with fail;go_ret;exact ⟨rfl,rfl⟩
set_option maxRecDepth 100000 in
theorem qbR (a:RtA) (n:aA) (kb:List Bool) (W0:Zp1) (s:RtS) (W:Zp1) (hS:a.Still n W0) (hM:RtM a n kb W0 s W) (k:Int) (id:Nat) (hid:id<=n.o.length) (hlen:s.code.length<=60000):
  Calls prog 145 #[.pointer (some ⟨a.p,0,none⟩),nQ iQ k,nQ iQ id] W (RtP a n kb W0 (Rt.comp k id s) W):=by
 have hm:=hS.m12;have HS:=zI hS;clear hS;go_in;go_wp2_with fail;refine (qbe a n kb W0 s W HS.out hM k id oZ).mono ?_;rintro e w1 ⟨rfl,hb,hd⟩;obtain ⟨v,-,-,-,-,-,-,-,-,-,c7,-⟩:=hb.eO;have ha:=hb.nG HS.out id true;have he:Rt.comp k id s=⟨(Rt.add k id s).aG.set id true,(Rt.add k id s).code⟩:=by unfold Rt.comp Rt.add Ck.bO;rw [tnZ]
 rw [←he] at ha;have f0:w1.frozen? ⟨a.g3,id,none⟩=false:=hb.aG.frozen id;have x0:=hb.kX hid;have q1:(0:Int)<=(id:Int):=by omega
 have q2:(id:Int)<((n.o.length+1:Nat):Int):=by omega
 obtain ⟨hc,hf⟩:=zd2 ha hd;clear ha hd;clear hM hb he;go_wp2_with fail
 go_end0
 exact ⟨rfl,hc.out.1,hf.out.trans hc.out.2⟩
set_option maxRecDepth 100000 in
theorem qc5 (a:RtA) (n:aA) (kb:List Bool) (W0:Zp1) (s:RtS) (W:Zp1) (hS:a.Still n W0) (hM:RtM a n kb W0 s W) (id:Nat) (hid:id<=n.o.length) (hlen:s.code.length<=60000):
  Calls prog 116 #[.pointer (some ⟨a.p,0,none⟩),nQ iQ id] W (RtP a n kb W0 (Rt.drop id s) W):=by
 have hm:=hS.m12;have HS:=zI hS;clear hS;go_in;go_wp2_with fail;refine (qbe a n kb W0 s W HS.out hM 3 id oZ).mono ?_;rintro e w1 ⟨rfl,hb,hd⟩;obtain ⟨v,-,-,-,-,-,-,-,-,-,c7,-⟩:=hb.eO;have ha:=hb.nG HS.out id false;have he:Rt.drop id s=⟨(Rt.add 3 id s).aG.set id false,(Rt.add 3 id s).code⟩:=by unfold Rt.drop Rt.add Ck.bO;rw [tnZ]
 rw [←he] at ha;have f0:w1.frozen? ⟨a.g3,id,none⟩=false:=hb.aG.frozen id;have x0:=hb.kX hid;have q1:(0:Int)<=(id:Int):=by omega
 have q2:(id:Int)<((n.o.length+1:Nat):Int):=by omega
 obtain ⟨hc,hf⟩:=zd2 ha hd;clear ha hd;clear hM hb he;go_wp2_with fail
 go_end0
 exact ⟨rfl,hc.out.1,hf.out.trans hc.out.2⟩
theorem Rt.sV (f:Int->Bool) (s:RtS) {j:Nat} (h:1<=j):aQ f j s=if Ck.at_ (aQ f (j-1) s).aG j&&f j then drop j (aQ f (j-1) s) else aQ f (j-1) s:=by
 obtain ⟨m,rfl⟩:∃m,j=m+1:=⟨j-1,by omega⟩
 exact qaG f m s
theorem Rt.pN (f:Int->Bool):∀(m:Nat) (s:RtS),(aQ f m s).code.length<=s.code.length+m
 | 0,_=>lrZ _
 | m+1,s=>by
  have:=Rt.pN f m s;unfold aQ
  split
  ·show ((aQ f m s).code++_).length<=_
   rw [Ze,List.length_singleton];omega
  ·omega
set_option maxRecDepth 100000 in
theorem qcX (a:RtA) (n:aA) (kb:List Bool) (W0:Zp1) (s:RtS) (W:Zp1) (f:Int->Bool) (b1 b2:Nat) (hS:a.Still n W0) (hM:RtM a n kb W0 s W) (hlen:s.code.length<=50000)
  (hC:∀s' W',RtM a n kb W0 s' W'->RtK a W W'->∀id:Nat,1<=id->id<=n.o.length->Calls prog 147 #[nQ iQ id,.pointer (some ⟨b1,0,none⟩),.pointer (some ⟨b2,0,none⟩)] W' λe w'=>e=.returned (.bool (f id))/\Later W' w'):
  Calls prog 146 #[.pointer (some ⟨a.p,0,none⟩),.func (.func 147) #[] #[.pointer (some ⟨b1,0,none⟩),.pointer (some ⟨b2,0,none⟩)]] W (RtP a n kb W0 (Rt.aQ f n.o.length s) W):=by
 have hm:=hS.m12;obtain ⟨HS,HC,HM⟩:=zd3 hS hC hM;clear hS hC hM;go_in;go_wp2_with fail
 go_loopw [4] (λi wx=>∃j:Nat,1<=j/\j<=n.o.length+1/\i=nQ iQ (j:Int)/\RtM a n kb W0 (Rt.aQ f (j-1) s) wx/\RtK a W wx) (λi _=>n.o.length+1-(intOf i).toNat)
 case atStart=>exact ⟨1,lrZ _,by omega,rfl,HM.out,RtK.refl _ _⟩
 case round=>
  obtain ⟨j,hq,hz,rfl,hb,hd⟩:=hrel;clear HM;have ha:=Rt.sV f s hq;have ht:=Rt.pN f (j-1) s;obtain ⟨v,-,-,-,-,-,-,-,-,-,c7,-⟩:=hb.eO
  by_cases hn:j<=n.o.length
  ·have x0:=hb.kX hn
   have hr:(Rt.aQ f (j-1) s).code.length<=60000:=by omega
   generalize Rt.aQ f (j-1) s=s' at *;have hg:=zI (HC.out s' wr hb hd j hq hn);have hk:=zI (λW2 (h:RtM a n kb W0 s' W2)=>qc5 a n kb W0 s' W2 HS.out h j hn hr);have q1:(0:Int)<=(j:Int):=by omega
   have q2:(j:Int)<((n.o.length+1:Nat):Int):=by omega
   clear ht hr;cases hv:Ck.at_ s'.aG j
   ·rw [hv] at x0 ha
    have HE:=zI (show Rt.aQ f (j+1-1) s=s' by rw [show j+1-1=j by omega,ha];rfl);obtain ⟨hc,he⟩:=zd2 hb hd;clear hb hd;clear hv ha hg hk;go_wp2_with fail;go_roundw
    case rel=>exact ⟨j+1,by omega,by omega,by go_num,by rw [HE.out];exact hc.out,he.out⟩
    case measure=>simp [intOf];omega
   ·rw [hv] at x0 ha
    cases hf:f j
    ·rw [hf] at ha hg
     have HE:=zI (show Rt.aQ f (j+1-1) s=s' by rw [show j+1-1=j by omega,ha];rfl);obtain ⟨hc,he⟩:=zd2 hb hd;clear hb hd;clear hv hf ha hk;go_wp2_with fail;refine hg.out.mono ?_;rintro e w2 ⟨rfl,hh⟩;have hi:=hc.out.to_later hh;have hj:=he.out.trans (RtK.of_later hh);obtain ⟨hy,hl⟩:=zd2 hi hj;clear hi hj;clear hg hh x0 c7 hc he;go_wp2_with fail;go_roundw
     case rel=>exact ⟨j+1,by omega,by omega,by go_num,by rw [HE.out];exact hy.out,hl.out⟩
     case measure=>simp [intOf];omega
    ·rw [hf] at ha hg
     have HE:=zI (show Rt.aQ f (j+1-1) s=Rt.drop j s' by rw [show j+1-1=j by omega,ha];rfl);obtain ⟨hc,he⟩:=zd2 hb hd;clear hb hd;clear hv hf ha;go_wp2_with fail;refine hg.out.mono ?_;rintro e w2 ⟨rfl,hh⟩;have hi:=hc.out.to_later hh;have hj:=he.out.trans (RtK.of_later hh);have hs:=zI (hk.out w2 hi);have hl:=zI hj;clear hj;clear hg hk hh x0 c7 hc he hi;go_wp2_with fail;refine hs.out.mono ?_;rintro e w3 ⟨rfl,hp,ho⟩;have hu:=hl.out.trans ho;obtain ⟨hx,hw⟩:=zd2 hp hu;clear hp hu;clear hs hl ho;go_wp2_with fail;go_roundw
     case rel=>exact ⟨j+1,by omega,by omega,by go_num,by rw [HE.out];exact hx.out,hw.out⟩
     case measure=>simp [intOf];omega
  ·obtain rfl:j=n.o.length+1:=by omega
   rw [show n.o.length+1-1=n.o.length by omega] at hb;have hA:¬((n.o.length+1:Nat):Int)<((n.o.length+1:Nat):Int):=by omega
   obtain ⟨hc,he⟩:=zd2 hb hd;clear hb hd;clear ha ht;go_wp2_with fail
   go_end0
   exact ⟨rfl,hc.out,he.out⟩
set_option maxRecDepth 100000 in
theorem qcY (a:RtA) (n:aA) (kb:List Bool) (W0:Zp1) (s:RtS) (W:Zp1) (f:Int->Bool) (b1 b2:Nat) (hS:a.Still n W0) (hM:RtM a n kb W0 s W) (hlen:s.code.length<=50000)
  (hC:∀s' W',RtM a n kb W0 s' W'->RtK a W W'->∀id:Nat,1<=id->id<=n.o.length->Calls prog 149 #[nQ iQ id,.pointer (some ⟨b1,0,none⟩),.pointer (some ⟨b2,0,none⟩)] W' λe w'=>e=.returned (.bool (f id))/\Later W' w'):
  Calls prog 146 #[.pointer (some ⟨a.p,0,none⟩),.func (.func 149) #[] #[.pointer (some ⟨b1,0,none⟩),.pointer (some ⟨b2,0,none⟩)]] W (RtP a n kb W0 (Rt.aQ f n.o.length s) W):=by
 have hm:=hS.m12;obtain ⟨HS,HC,HM⟩:=zd3 hS hC hM;clear hS hC hM;go_in;go_wp2_with fail
 go_loopw [4] (λi wx=>∃j:Nat,1<=j/\j<=n.o.length+1/\i=nQ iQ (j:Int)/\RtM a n kb W0 (Rt.aQ f (j-1) s) wx/\RtK a W wx) (λi _=>n.o.length+1-(intOf i).toNat)
 case atStart=>exact ⟨1,lrZ _,by omega,rfl,HM.out,RtK.refl _ _⟩
 case round=>
  obtain ⟨j,hq,hz,rfl,hb,hd⟩:=hrel;clear HM;have ha:=Rt.sV f s hq;have ht:=Rt.pN f (j-1) s;obtain ⟨v,-,-,-,-,-,-,-,-,-,c7,-⟩:=hb.eO
  by_cases hn:j<=n.o.length
  ·have x0:=hb.kX hn
   have hr:(Rt.aQ f (j-1) s).code.length<=60000:=by omega
   generalize Rt.aQ f (j-1) s=s' at *;have hg:=zI (HC.out s' wr hb hd j hq hn);have hk:=zI (λW2 (h:RtM a n kb W0 s' W2)=>qc5 a n kb W0 s' W2 HS.out h j hn hr);have q1:(0:Int)<=(j:Int):=by omega
   have q2:(j:Int)<((n.o.length+1:Nat):Int):=by omega
   clear ht hr;cases hv:Ck.at_ s'.aG j
   ·rw [hv] at x0 ha
    have HE:=zI (show Rt.aQ f (j+1-1) s=s' by rw [show j+1-1=j by omega,ha];rfl);obtain ⟨hc,he⟩:=zd2 hb hd;clear hb hd;clear hv ha hg hk;go_wp2_with fail;go_roundw
    case rel=>exact ⟨j+1,by omega,by omega,by go_num,by rw [HE.out];exact hc.out,he.out⟩
    case measure=>simp [intOf];omega
   ·rw [hv] at x0 ha
    cases hf:f j
    ·rw [hf] at ha hg
     have HE:=zI (show Rt.aQ f (j+1-1) s=s' by rw [show j+1-1=j by omega,ha];rfl);obtain ⟨hc,he⟩:=zd2 hb hd;clear hb hd;clear hv hf ha hk;go_wp2_with fail;refine hg.out.mono ?_;rintro e w2 ⟨rfl,hh⟩;have hi:=hc.out.to_later hh;have hj:=he.out.trans (RtK.of_later hh);obtain ⟨hy,hl⟩:=zd2 hi hj;clear hi hj;clear hg hh x0 c7 hc he;go_wp2_with fail;go_roundw
     case rel=>exact ⟨j+1,by omega,by omega,by go_num,by rw [HE.out];exact hy.out,hl.out⟩
     case measure=>simp [intOf];omega
    ·rw [hf] at ha hg
     have HE:=zI (show Rt.aQ f (j+1-1) s=Rt.drop j s' by rw [show j+1-1=j by omega,ha];rfl);obtain ⟨hc,he⟩:=zd2 hb hd;clear hb hd;clear hv hf ha;go_wp2_with fail;refine hg.out.mono ?_;rintro e w2 ⟨rfl,hh⟩;have hi:=hc.out.to_later hh;have hj:=he.out.trans (RtK.of_later hh);have hs:=zI (hk.out w2 hi);have hl:=zI hj;clear hj;clear hg hk hh x0 c7 hc he hi;go_wp2_with fail;refine hs.out.mono ?_;rintro e w3 ⟨rfl,hp,ho⟩;have hu:=hl.out.trans ho;obtain ⟨hx,hw⟩:=zd2 hp hu;clear hp hu;clear hs hl ho;go_wp2_with fail;go_roundw
     case rel=>exact ⟨j+1,by omega,by omega,by go_num,by rw [HE.out];exact hx.out,hw.out⟩
     case measure=>simp [intOf];omega
  ·obtain rfl:j=n.o.length+1:=by omega
   rw [show n.o.length+1-1=n.o.length by omega] at hb;have hA:¬((n.o.length+1:Nat):Int)<((n.o.length+1:Nat):Int):=by omega
   obtain ⟨hc,he⟩:=zd2 hb hd;clear hb hd;clear ha ht;go_wp2_with fail
   go_end0
   exact ⟨rfl,hc.out,he.out⟩
def tJ (n:aA) (keep:List Int) (kb:List Bool):Prop:=∀id:Nat,id<=n.o.length->Ck.at_ kb id=keep.contains (id:Int)
theorem Rt.bW {n:aA} (h:Nt.check n=0):(Nt.sO n.o).length=n.o.length:=(Nt.aL h).2.2.2.2.1
set_option maxRecDepth 100000 in
theorem qgP (a:RtA) (n:aA) (keep:List Int) (kb:List Bool) (W0:Zp1) (s:RtS) (W:Zp1) (hS:a.Still n W0) (hM:RtM a n kb W0 s W) (hkb:tJ n keep kb) (k id b1 b2:Nat) (hk:k<=1000) (hid:id<=n.o.length)
  (c1:W.cell? ⟨b1,0,none⟩=some (.pointer (some ⟨a.p,0,none⟩))) (c2:W.cell? ⟨b2,0,none⟩=some (nQ iQ k)):
  Calls prog 147 #[nQ iQ id,.pointer (some ⟨b1,0,none⟩),.pointer (some ⟨b2,0,none⟩)] W λe w'=>e=.returned (.bool (Rt.fT n keep k id))/\Later W w':=by
 have hc:=Rt.bW hS.chk;have hm:=hS.m12;obtain ⟨v,-,-,-,-,-,c3,-,c5,c6,-,-⟩:=hM.eO;have x0:=hM.jN hid
 have xl:W.cell? ⟨a.gl,id,none⟩=some (nQ iQ (Rt.kM (Nt.iF n.o) (Nt.sO n.o) id n.o.length)):=by
  rw [(hM.later.blk hS.last).cell];simp [qae,Rt.lT hid]
 have hE:Rt.fT n keep k id=(!Ck.at_ kb id&&(decide ((id:Int)≠Nt.aH n.o)&&decide (Rt.kM (Nt.iF n.o) (Nt.sO n.o) id n.o.length<=(k:Int)+1))):=by
  unfold Rt.fT;rw [hkb id hid,hc];rfl
 have q1:(0:Int)<=(id:Int):=by omega
 have q2:(id:Int)<((n.o.length+1:Nat):Int):=by omega
 have w1:iQ.wrap ((k:Int)+1)=(k:Int)+1:=Zc1 _ oZ;generalize Rt.kM (Nt.iF n.o) (Nt.sO n.o) id n.o.length=lp at *;generalize Nt.aH n.o=lz at *;clear hS hM hkb hc;cases hv:Ck.at_ kb id
 rotate_left
 ·rw [hv] at x0 hE
  have HE:=zI hE;clear hE;clear hv;go_in;go_wp2_with fail
  go_quiet (fail)
  go_wp2_with fail;go_ret;exact ⟨by rw [HE.out];rfl,by first|exact Later.refl _|exact (Later.refl _).drew|exact (Later.refl _).drewN _⟩
 ·rw [hv] at x0 hE
  by_cases he:(id:Int)=lz
  ·subst he
   have ha:Rt.fT n keep k id=false:=by rw [hE];simp
   have hb:=zI ha;clear ha;clear hv hE;go_in;go_wp2_with fail
   go_quiet (fail)
   go_wp2_with fail;go_ret;exact ⟨by rw [hb.out];rfl,by first|exact Later.refl _|exact (Later.refl _).drew|exact (Later.refl _).drewN _⟩
  ·have e1:((id:Int) != lz)=true:=by simp [he]
   have ha:Rt.fT n keep k id=decide (lp<=(k:Int)+1):=by rw [hE];simp [he]
   have hb:=zI ha;clear ha;clear hv hE he;go_in;go_wp2_with fail
   go_quiet (fail)
   go_wp2_with fail;go_ret;exact ⟨by rw [hb.out];rfl,by first|exact Later.refl _|exact (Later.refl _).drew|exact (Later.refl _).drewN _⟩
set_option maxRecDepth 100000 in
theorem qgQ (a:RtA) (n:aA) (keep:List Int) (kb:List Bool) (W0:Zp1) (s:RtS) (W:Zp1) (hS:a.Still n W0) (hM:RtM a n kb W0 s W) (hkb:tJ n keep kb) (p id b1 b2:Nat) (hid:id<=n.o.length)
  (c1:W.cell? ⟨b1,0,none⟩=some (.pointer (some ⟨a.p,0,none⟩))) (c2:W.cell? ⟨b2,0,none⟩=some (nQ iQ p)):
  Calls prog 149 #[nQ iQ id,.pointer (some ⟨b1,0,none⟩),.pointer (some ⟨b2,0,none⟩)] W λe w'=>e=.returned (.bool (Rt.bT n keep p id))/\Later W w':=by
 have hm:=hS.m12;obtain ⟨v,-,-,-,-,-,-,c4,-,c6,-,-⟩:=hM.eO;have x0:=hM.jN hid
 have xl:W.cell? ⟨a.g1,id,none⟩=some (nQ iQ (Rt.iB (Nt.iF n.o) (Nt.sO n.o) id (Nt.sO n.o).length)):=by
  rw [hM.first.cell];simp [qae,Rt.firstMid_at n _ hid]
 have hE:Rt.bT n keep p id=(!Ck.at_ kb id || decide ((p:Int)<=Rt.iB (Nt.iF n.o) (Nt.sO n.o) id (Nt.sO n.o).length)):=by
  unfold Rt.bT;rw [hkb id hid]
 have q1:(0:Int)<=(id:Int):=by omega
 have q2:(id:Int)<((n.o.length+1:Nat):Int):=by omega
 generalize Rt.iB (Nt.iF n.o) (Nt.sO n.o) id (Nt.sO n.o).length=lp at *;clear hS hM hkb;cases hv:Ck.at_ kb id
 ·rw [hv] at x0 hE
  have HE:=zI hE;clear hE;clear hv;go_in;go_wp2_with fail
  go_quiet (fail)
  go_wp2_with fail;go_ret;exact ⟨by rw [HE.out];rfl,by first|exact Later.refl _|exact (Later.refl _).drew|exact (Later.refl _).drewN _⟩
 ·rw [hv] at x0 hE
  have ha:Rt.bT n keep p id=decide ((p:Int)<=lp):=by rw [hE];rfl
  have hb:=zI ha;clear ha;clear hv hE;go_in;go_wp2_with fail
  go_quiet (fail)
  go_wp2_with fail;go_ret;exact ⟨by rw [hb.out];rfl,by first|exact Later.refl _|exact (Later.refl _).drew|exact (Later.refl _).drewN _⟩
def qaE (n:aA) (step:Int):Int:=if Nt.check n≠0 then Nt.check n else if 1<=step/\step<=512 then 0 else 11
def qaw (n:aA) (step:Int):List Int:=if Nt.check n=0/\1<=step/\step<=512 then Rt.every (Nt.sO n.o) step.toNat else []
def wK (l:List Int) (er:Int) (w:Zp1) (e:Ending) (w':Zp1):Prop:=
 ∃A c,e=.returned (.tuple #[sQ A l.length c,nQ iQ er])/\Ints iQ w' A l/\Later w w'
theorem qgR {w:Zp1} {B g n cap m:Nat} {os:Array Obj} {l:List Int} (h:w.ownsRow B 3 1 (sQ (some ⟨g,0,none⟩) n cap) n (l.map (Za1 iQ))) (hl:l.length=n) {ts:List Int} (ht:ts.length=l.length):
  Ints iQ (Go.Sort.grow (Go.Sort.putRow (Za1 iQ) (Go.Sort.ahead w m) g 0 ts.toArray) os) (some ⟨g,0,none⟩) ts/\B<=g:=by
 subst hl;rcases h.2 with ⟨e,_⟩|⟨g',cap',cur,e,hb,hh,r1,r2,r3,r4⟩
 ·cases e
 ·injection e with e1 e2 e3
  injection e1 with e1
  injection e1 with e1 _ _
  subst e1 e3;have ho:=ownsRow_sortedI (w:=w) (n:=m) (os:=os) (ts:=ts) ht hb hh r1 r2 r3;rw [←ht] at ho;obtain ⟨A,c,e,_,hI⟩:=Ints.jB ho;injection e with e1 _ _
  subst e1;exact ⟨hI,hb⟩
set_option maxRecDepth 100000 in
theorem qfx (A N:Option Addr) (c d:Nat) (n:aA) (step:Int) (w:Zp1) (hok:n.ok) (hR:bC w A N n) (hd:n.o.length<=d) (h12:n.o.length<=12) (hst : -9223372036854775808<=step/\step<=9223372036854775807):
  Calls prog 54 #[.agg #[sQ A n.inn.length c,sQ N n.o.length d],nQ iQ step] w (wK (qaw n step) (qaE n step) w):=by
 obtain ⟨i0,hi,hV,Hb,hU⟩:=info_parts qag;have hQ:Later w (w.alloc (.cells #[sQ A n.inn.length c,sQ N n.o.length d] 26)):=(Later.refl w).alloc _;obtain ⟨HR,hZ,hL⟩:=zd3 hR hok hQ;clear hR hok hQ;go_in;go_wp2_with fail;generalize w.alloc (.cells #[sQ A n.inn.length c,sQ N n.o.length d] 26)=w1 at *;refine (qba A N c d n w1 hZ.out (HR.out.below hL.out (lrZ _)) hd).mono ?_;rintro e w2 ⟨hx,⟨ha,O,oc,rfl,hO,Hg,Hf⟩|⟨ha,rfl⟩⟩
 all_goals have hp:=hL.out.call hx
 rotate_left
 ·have q0:(Nt.check n != 0)=true:=by simp [ha]
  have HE:=zI (show qaE n step=Nt.check n by unfold qaE;rw [ipZ ha]);have HL:=zI (show qaw n step=[] by unfold qaw;rw [inZ (λh=>ha h.1)]);obtain ⟨hF,hk⟩:=zd2 ha hp;clear ha hp;clear hx;go_wp2_with fail
  go_ret2
  rw [HE.out,HL.out];exact ⟨none,0,rfl,Ints.nil,hk.out⟩
 have hl:=Rt.bW ha
 by_cases hs:1<=step/\step<=512
 rotate_left
 ·have HE:=zI (show qaE n step=11 by unfold qaE;rw [inZ (by simp [ha]),inZ hs])
  have HL:=zI (show qaw n step=[] by unfold qaw;rw [inZ (λh=>hs h.2)]);obtain ⟨hF,hk,hS,HO⟩:=zd4 ha hp hl hO;clear ha hp hl hO;clear hx
  by_cases h1:step<1
  ·clear hs
   go_wp2_with fail
   go_ret2
   rw [HE.out,HL.out];exact ⟨none,0,rfl,Ints.nil,hk.out⟩
  ·have h2:512<step:=by omega
   clear hs;go_wp2_with fail
   go_ret2
   rw [HE.out,HL.out];exact ⟨none,0,rfl,Ints.nil,hk.out⟩
 have HE:=zI (show qaE n step=0 by unfold qaE;rw [inZ (by simp [ha]),ipZ hs]);obtain ⟨s,rfl⟩:=ezZ (show 0<=step by omega);have HL:=zI (show qaw n (s:Int)=Rt.every (Nt.sO n.o) s by unfold qaw;rw [ipZ ⟨ha,hs⟩,tnZ]);generalize Nt.sO n.o=os at *;have h1:¬(s:Int)<1:=by omega
 have h2:¬(512:Int)<(s:Int):=by omega
 have hy:1<=s:=by omega
 have Hd:s<=512:=by omega
 obtain ⟨hF,hk,hS,HO⟩:=zd4 ha hp hl hO;clear ha hp hl hO;clear hx hs hst;go_wp2_with fail;clear h1 h2
 go_loopw [8,9] (λl t wx=>∃j:Nat,j<=os.length / s/\t=nQ iQ (((j+1)*s:Nat):Int)/\wx.ownsRow w2.heap.size 3 1 l (Rt.picks os s j).length ((Rt.picks os s j).map (Za1 iQ))/\Later w2 wx) (λ_ t _=>n.o.length+512+1-(intOf t).toNat)
 case atStart=>exact ⟨0,Zt _,by simp,by simpa [Rt.picks] using World.ownsRow_nil w2 w2.heap.size 3 1,Later.refl _⟩
 case round=>
  obtain ⟨j,hj,rfl,hown,hw⟩:=hrel;obtain ⟨Ao,co,rfl⟩:=qa6 hown;have hl:=hS.out
  have hG:j*s<=os.length:=by
   have h1:j*s<=os.length / s*s:=mlZ s hj;have h2:=Nat.div_mul_le_self os.length s;omega
  have hE:(j+1)*s=j*s+s:=Zu j s;have hn:=Rt.qU os s j
  by_cases hP:j<os.length / s
  ·obtain ⟨q1,q2⟩:=Rt.uQ (os:=os) hy hP
   obtain ⟨b,off,rfl,-,hc⟩:=HO.out.below hw (lrZ _) ((j+1)*s-1) q1;have h4:=zI (Rt.picks_succ os s j)
   have He:j<=12:=by
    have h1:j*1<=j*s:=Nat.mul_le_mul_left j hy;omega
   have HN:=zI (show (j+1+1)*s=(j+1)*s+s from Zu (j+1) s);generalize os.getD ((j+1)*s-1) 0=z at *;generalize (j+1)*s=p at *;generalize Rt.picks os s j=r at *;obtain ⟨p',rfl⟩:∃p',p=p'+1:=⟨p-1,by omega⟩
   rw [show p'+1-1=p' from rfl] at hc;have i1:iQ.wrap ((p':Int)+1-1)=(p':Int):=by rw [Zc1 _ oZ];omega
   have i2:(0:Int)<=(p':Int):=by omega
   have i3:(p':Int)<(n.o.length:Int):=by omega
   have i4:(p':Int)+1<=(n.o.length:Int):=by omega
   have ho:=qa8 hown (.cells #[nQ iQ z] 3);have hq:=hw.alloc (.cells #[nQ iQ z] 3);have Ha:=Below.size hw;have hD:=zI (λb (hb:(Zb1 Ao r.length co).ownBlock=some b)=>(hown.lt b hb).1);have Hh:r.length<=12:=by omega
   clear hn hE hG hown hl;go_wp2_with (at_builtin;refine wpList_append_own_at _ rfl _ _ 22 rfl w2.heap.size 3 i0 (nQ iQ 0) 1 8 underlying22 hi hV Hb hU rfl dZ _ _ _ rfl ho ⟨wr.heap.size,0,none⟩ 1 1 [nQ iQ z] rfl rfl ?c1 (by intro u hu;simp at hu;subst hu;rfl) (by unfold maxLen;omega) oZ ?c2 ?_)
   first|(case c1=>exact qap wr _ _)|skip
   case c2=>simp;omega
   intro v' w4 hg hgrow _ hX;have hv:Later w2 w4:=Below.grown hq hgrow soZ (λb hb=>hD.out b hb);have he:w4.ownsRow w2.heap.size 3 1 v' (r++[z]).length ((r++[z]).map (Za1 iQ)):=by simpa using hg
   rw [←h4.out] at he;have i5:iQ.wrap ((p':Int)+1+(s:Int))=(p':Int)+1+(s:Int):=Zc1 _ oZ;obtain ⟨hr,h5⟩:=zd2 he hv;clear he hv;clear hg hgrow hX ho hq hD i1;go_wp2_with fail;clear i5;go_roundw
   case rel=>exact ⟨j+1,by omega,by rw [HN.out];go_num,hr.out,h5.out⟩
   case measure=>simp [intOf];omega
  ·have hW:j=os.length / s:=by omega
   have h9:¬((j+1)*s:Nat)<=n.o.length:=λh=>by
    have:j+1<=os.length / s:=(Nat.le_div_iff_mul_le oZ).2 oZ;omega
   subst hW;have hH:Rt.every os s=(Rt.picks os s (os.length / s)).mergeSort λx y=>decide (x<=y):=rfl
   generalize (os.length / s+1)*s=p at *;have h3:¬(p:Int)<=(n.o.length:Int):=by omega
   have hM:=Rt.nP os s;generalize os.length / s=m at *
   have Hc:m<=12:=by
    have h1:m*1<=m*s:=Nat.mul_le_mul_left m hy;omega
   obtain ⟨hz,h7,hJ⟩:=zd3 hw hH hM;clear hw hH hM;clear hE hG hl h9 hj hP
   by_cases hN:m=0
   ·subst hN
    have HZ:=zI (show Rt.every os s=[] from List.eq_nil_of_length_eq_zero hJ.out);rw [hn];clear hown hn;go_wp2_with fail;refine (Tryz.slices_Sort_int_none Ao co wr).mono ?_;rintro e w4 ⟨rfl,rfl⟩;go_wp2_with fail
    go_ret2
    rw [HE.out,HL.out,HZ.out];exact ⟨Ao,co,rfl,Ints.nil,hk.out.trans hz.out⟩
   ·obtain ⟨g,rfl⟩:∃g,Ao=some ⟨g,0,none⟩:=by
     rcases hown.2 with ⟨e,h0⟩|⟨g,cap,cur,e,_⟩
     ·omega
     ·injection e with e1 _ _;exact ⟨g,e1⟩
    obtain ⟨cur,hcb,hct⟩:∃cur,wr.heap[g]? = some (.cells cur 3 (0,0))/\cur.toList.take (Rt.picks os s m).length=(Rt.picks os s m).map (Za1 iQ):=by
     rcases hown.2 with ⟨e,h0⟩|⟨g',cap',cur,e,hb,hh,r1,r2,r3,r4⟩
     ·cases e
     ·injection e with e1 _ _
      injection e1 with e1
      injection e1 with e1 _ _
      subst e1;exact ⟨cur,hh,by simpa using r4⟩
    have hf:=Tryz.slices_Sort_int g 0 co (Rt.picks os s m) wr (holds_of_blockI hcb hct) (lt_of_block hcb) (by rw [hn];omega);have hm:=λ(k:Nat) (obs:Array Obj)=>qgR (m:=k) (os:=obs) hown rfl (ts:=(Rt.picks os s m).mergeSort λx y=>decide (x<=y)) sZ
    have hC:=λ(k:Nat) (obs:Array Obj)=>grownBy_sortedI (w:=wr) (g:=g) (n:=k) (os:=obs) ((Rt.picks os s m).mergeSort λx y=>decide (x<=y)).toArray
    have hY:=hown.lt;rw [←h7.out] at hf hm hC;have hT:=zI (show (Rt.picks os s m).length=(Rt.every os s).length by rw [hn,hJ.out]);obtain ⟨ht,hA,h6⟩:=zd3 hf hm hC;clear hf hm hC;clear hown hcb hct hY hn hN;generalize Rt.every os s=ev at *;generalize Rt.picks os s m=pk at *;go_wp2_with fail;refine ht.out.mono ?_;rintro e w4 ⟨rfl,k,obs,rfl⟩;obtain ⟨hI,hB⟩:=hA.out k obs;have hv:=Below.grown hz.out (h6.out k obs) (Below.size hz.out) (λb hb=>by injection hb with hb;omega);have hK:=hk.out.trans (show Later w2 _ from hv);obtain ⟨HI,h8⟩:=zd2 hI hK;clear hI hK;clear hv hB;generalize Go.Sort.grow (Go.Sort.putRow (Za1 iQ) (Go.Sort.ahead wr k) g 0 ev.toArray) obs=w5 at *;go_wp2_with fail
    go_ret2
    rw [HE.out,HL.out,hT.out];exact ⟨some ⟨g,0,none⟩,co,rfl,HI.out,h8.out⟩
set_option maxRecDepth 100000 in
theorem qdw (A N:Option Addr) (c d:Nat) (n:aA) (w:Zp1) (hok:n.ok) (hR:bC w A N n) (hd:n.o.length<=d) (h12:n.o.length<=12):
  Calls prog 23 #[.agg #[sQ A n.inn.length c,sQ N n.o.length d]] w (wK (qaw n (Safe.bK n.o.length)) (qaE n (Safe.bK n.o.length)) w):=by
 have ha:=Blk.new w 26 #[sQ A n.inn.length c,sQ N n.o.length d];have hc:Later w (w.alloc (.cells #[sQ A n.inn.length c,sQ N n.o.length d] 26)):=(Later.refl w).alloc _
 have hh:0<=Safe.bK n.o.length/\Safe.bK n.o.length<=100:=by
  rcases Nat.eq_zero_or_pos n.o.length with h0|h0
  ·rw [h0,Safe.mX sZ];omega
  ·obtain ⟨h1,h2,-⟩:=Safe.pF (n:=(n.o.length:Int)) oZ
   refine ⟨by omega,?_⟩;rcases Int.lt_or_le 100 (Safe.bK n.o.length) with h3|h3
   ·have:=Int.mul_le_mul (Int.le_of_lt h3) (Int.le_of_lt h3) oZ oZ
    omega
   ·exact h3
 have x0:=ha.cell 0;have x1:=ha.cell 1;simp only [Zk,List.getElem?_cons_succ,List.getElem?_cons_zero] at x0 x1;have hk:=zI (λ(W:Zp1)=>qgO (n.o.length:Int) W oZ oZ);have hi:=zI (λ(W:Zp1) (h:Later w W)=>qfx A N c d n (Safe.bK n.o.length) W hok (hR.below h (lrZ _)) hd h12 oZ);generalize Safe.bK n.o.length=sq at *;generalize qaw n sq=l at *;generalize qaE n sq=er at *;have hg:=zI hc;clear hc;clear ha hok hR hh;go_in;go_wp2_with fail;generalize w.alloc (.cells #[sQ A n.inn.length c,sQ N n.o.length d] 26)=w1 at *;have hf:=zI (λ(W:Zp1) (h:Later w1 W)=>(⟨h.cell x0,h.cell x1⟩:W.cell? ⟨w.heap.size,0,none⟩=some (sQ A n.inn.length c)/\W.cell? ⟨w.heap.size,1,none⟩=some (sQ N n.o.length d)))
 go_region_held3 (λW=>W.cell? ⟨w.heap.size,0,none⟩=some (sQ A n.inn.length c)/\W.cell? ⟨w.heap.size,1,none⟩=some (sQ N n.o.length d)) (first|exact hf.out _ (show Later w1 _ by repeat (first|(with_reducible exact Later.refl _)|(with_reducible apply Later.drew)|(with_reducible refine Later.trans ?_ (by assumption))))|fail)
  (first
  | (go_at_call 55;refine (hk.out _).mono ?_;rintro e w' ⟨rfl,rfl⟩)
  | (go_at_call 54;refine (hi.out _ (show Later w _ by repeat (first|(with_reducible exact hg.out)|(with_reducible apply Later.drew)))).mono ?_;rintro e w7 ⟨L,lc,rfl,hI,he⟩)
  | fail)
 have hb:=hg.out.trans ((Later.refl w1).drew.trans he);obtain ⟨hj,HI⟩:=zd2 hb hI;clear hb hI;clear he x0 x1 hf;go_wp2_with fail
 go_ret2
 exact ⟨L,lc,rfl,HI.out,hj.out⟩
def ones (m:Nat):List Int:=(List.range m).map λ(i:Nat)=>((i:Nat):Int)+1
theorem qaJ (m:Nat):(ones m).length=m:=by simp [ones]
theorem qeQ (m:Nat):ones (m+1)=ones m++[(m:Int)+1]:=by simp [ones,List.range_succ]
def qb5 (m k:Nat):List Int:=ones k++Zc (m-k) 0
theorem qfy (m:Nat):qb5 m 0=Zc m 0:=by simp [qb5,ones]
theorem qgS {m k:Nat} (h:k<=m):(qb5 m k).length=m:=by simp [qb5,qaJ];omega
theorem qgT (m:Nat):qb5 m m=ones m:=by simp [qb5]
theorem qgU {m k:Nat} (h:k<m):(qb5 m k).set k ((k:Int)+1)=qb5 m (k+1):=by
 unfold qb5
 have hr:Zc (m-k) (0:Int)=0::Zc (m-(k+1)) 0:=by
  rw [←List.replicate_succ];congr 1;omega
 rw [hr,List.set_append_right _ _ (by rw [qaJ];exact lrZ _),qaJ,Nat.sub_self,List.set_cons_zero,qeQ,List.append_assoc]
 rfl
theorem vM {w:Zp1} {g:Nat} {t:TypeId} (l:List Int) (h:Blk w g t (qae l).toArray):Ints iQ w (some ⟨g,0,none⟩) l:=Ints.dV λj hj=>by
 rw [Zw,h.cell];simp [qae,hj]
def RowP (l:List Int) (w:Zp1) (e:Ending) (w':Zp1):Prop:=
 ∃A c,e=.returned (sQ A l.length c)/\Ints iQ w' A l/\Later w w'
def RowB (l:List Int) (w:Zp1) (e:Ending) (w':Zp1):Prop:=
 e=.returned (sQ (some ⟨w.heap.size+1,0,none⟩) l.length l.length)/\Blk w' (w.heap.size+1) 3 (qae l).toArray/\Later w w'
set_option maxRecDepth 100000 in
theorem qdx (A N:Option Addr) (c d:Nat) (n:aA) (w:Zp1) (hnl:n.o.length<=1000000):
  Calls prog 22 #[.agg #[sQ A n.inn.length c,sQ N n.o.length d]] w (RowB (ones n.o.length) w):=by
 obtain ⟨i0,hi,hu,hE,hs⟩:=info_parts qag;have hq:Later w (w.alloc (.cells #[sQ A n.inn.length c,sQ N n.o.length d] 26)):=(Later.refl w).alloc _;have hc:(w.alloc (.cells #[sQ A n.inn.length c,sQ N n.o.length d] 26)).heap.size=w.heap.size+1:=Zh1 _ _;obtain ⟨hF,hv⟩:=zd2 hq hc;clear hq hc;go_in;go_wp2_with (at_make;refine wpList_make_full _ rfl _ _ 22 rfl (w.heap.size+1) 3 i0 (nQ iQ 0) 1 underlying22 hi hu hE _ _ _ _ n.o.length rfl rfl (by first|rfl|simp|(go_simp;rfl)) (by first|rfl|simp|(go_simp;rfl)) ?b2 ?b3 ?b4 ?_)
 case b2=>rw [hs];omega
 case b3=>unfold maxLen;omega
 case b4=>simp
 intro w3 hown hgrow;have ha:=qau hown;rw [qao] at ha;generalize hw1:w.alloc (.cells #[sQ A n.inn.length c,sQ N n.o.length d] 26)=w1 at *
 have hj:Blk w3 (w.heap.size+1) 3 (qae (qb5 n.o.length 0)).toArray:=by
  rw [qfy,qae,List.map_replicate];exact ha
 have hh:Later w1 w3:=(Ze1 _ w1).grown hgrow (lrZ _) sZ;clear ha hown hgrow hw1;generalize n.o.length=m at *;have he:=hv.out;generalize hg:w.heap.size+1=g at *;obtain ⟨HG,hp⟩:=zd2 he hg;clear hg he;have hA:=zI (λk (h:k<=m)=>qgS h);have hw:=zI (λk (h:k<m)=>qgU h);have hC:=zI (qgT m);have hD:=zI (qaJ m);obtain ⟨hf,hz⟩:=zd2 hj hh;clear hj hh;go_wp2_with fail
 go_loopw [4,11] (λ_ i wx=>∃k:Nat,k<=m/\i=nQ iQ (k:Int)/\Blk wx g 3 (qae (qb5 m k)).toArray/\Later w1 wx) (λ_ i _=>m-(intOf i).toNat)
 case atStart=>exact ⟨0,Zt _,rfl,hf.out,hz.out⟩
 case round=>
  obtain ⟨k,hk,rfl,hm,hb⟩:=hrel;clear hf
  by_cases hn:k<m
  ·have HS:=zI (hw.out k hn)
   have hd:=hA.out k hk;obtain ⟨y,hy⟩:=hm.has (j:=k) (by rw [qaI,hd];exact hn);have fy:=hm.frozen k;have ho:=hm.aO k (nQ iQ ((k:Int)+1))
   have hx:=zI (show Blk (wr.setCell ⟨g,k,none⟩ (nQ iQ ((k:Int)+1))) g 3 (qae (qb5 m (k+1))).toArray by
    rw [←HS.out];simpa [qae,List.map_set] using ho)
   have ht:=zI (hb.set (p:=⟨g,k,none⟩) (by rw [HG.out];exact lrZ _) (nQ iQ ((k:Int)+1)));have k1:(k:Int)<(m:Int):=by omega
   clear ho hm hb hd;go_wp2_with fail;go_roundw
   case rel=>exact ⟨k+1,by omega,by go_num,hx.out,ht.out⟩
   case measure=>simp [intOf];omega
  ·obtain rfl:k=m:=by omega
   rw [hC.out] at hm;have hl:=hF.out.trans hb;have hr:=hm;obtain ⟨hB,Hl⟩:=zd2 hr hl;clear hr hl;clear hm hb;go_wp2_with fail;go_ret;refine ⟨?_,by rw [hp.out];exact hB.out,Hl.out⟩;rw [hD.out,hp.out]
   rfl
theorem qeR (A N:Option Addr) (c d:Nat) (n:aA) (w:Zp1) (hnl:n.o.length<=1000000):
  Calls prog 22 #[.agg #[sQ A n.inn.length c,sQ N n.o.length d]] w (RowP (ones n.o.length) w):=
 (qdx A N c d n w hnl).mono λ_ _ ⟨h1,h2,h3⟩=>⟨_,_,h1,vM _ h2,h3⟩
theorem bC.nK {w:Zp1} {A N:Option Addr} {n:aA} (h:bC w A N n) {k:Nat} (hk:k<n.o.length):∃b off J jc,N=some ⟨b,off,none⟩/\w.cell? ⟨b,off+k*10+8,none⟩=some (sQ J n.o[k].ins.length jc)/\Ints iQ w J n.o[k].ins:=by
 obtain ⟨b,off,S,sc,J,jc,Q,qc,e,hA,-⟩:=h.2.at_ hk;obtain ⟨⟨-,-,-,-,-,-,-,-,y8,-⟩,-,hI,-⟩:=hA;exact ⟨b,off,J,jc,e,y8,hI⟩
theorem Rt.mZ {n:aA} (h:Nt.check n=0) {k:Nat} (hk:k<n.o.length):∀i∈n.o[k].ins,0<=i/\i<=n.o.length:=λi hi=>by
 have:=(Nt.fD (Nt.aL h).2.2.2.1 _ (gmZ hk)).2 i hi;omega
set_option maxRecDepth 100000 in
theorem qfz (a:RtA) (n:aA) (kb:List Bool) (W0:Zp1) (hS:a.Still n W0):∀(m:Nat) (id:Nat) (s:RtS) (W:Zp1),RtM a n kb W0 s W->Ck.at_ s.aG 0=true->id<=n.o.length->(id=0∨Rt.lK n id<m)->(Rt.fetch (Nt.iF n.o) m id s).code.length<=50000->
  Calls prog 148 #[.pointer (some ⟨a.p,0,none⟩),nQ iQ id] W (RtP a n kb W0 (Rt.fetch (Nt.iF n.o) m id s) W):=by
 intro m
 induction m with
 | zero=>
  intro id s W hM hz hid hr _;obtain rfl:id=0:=by omega
  have x0:=hM.kX (i:=0) hid;rw [show ((0:Nat):Int)=0 from rfl,hz] at x0;obtain ⟨v,-,-,-,-,-,-,-,-,-,c7,-⟩:=hM.eO;have q2:(0:Int)<((n.o.length+1:Nat):Int):=by omega
  have hq:Rt.fetch (Nt.iF n.o) 0 ((0:Nat):Int) s=s:=rfl;rw [hq];have HM:=zI hM;clear hM;clear hz hr hS hq;go_in;go_wp2_with fail
  go_end0
  exact ⟨rfl,HM.out,RtK.refl _ _⟩
 | succ m ih=>
  intro id s W hM hz hid hr hh;have hZ:=hS.m12;have x0:=hM.kX hid;obtain ⟨v,-,-,-,c1,-,-,-,-,-,c7,-⟩:=hM.eO;have q1:(0:Int)<=(id:Int):=by omega
  have q2:(id:Int)<((n.o.length+1:Nat):Int):=by omega
  cases hv:Ck.at_ s.aG id
  rotate_left
  ·rw [hv] at x0
   have hq:Rt.fetch (Nt.iF n.o) (m+1) id s=s:=by rw [Rt.eD,ipZ hv]
   rw [hq];have HM:=zI hM;clear hM;clear hz hr hS hq hh hv ih c1;go_in;go_wp2_with fail
   go_end0
   exact ⟨rfl,HM.out,RtK.refl _ _⟩
  rw [hv] at x0
  have hV:1<=id:=by
   rcases Nat.eq_zero_or_pos id with h0|h0
   ·subst h0;rw [show ((0:Nat):Int)=0 from rfl,hz] at hv;cases hv
   ·exact h0
  obtain ⟨j,rfl⟩:∃j,id=j+1:=⟨id-1,by omega⟩
  have hj:j<n.o.length:=by omega
  have hy:Nt.iF n.o ((j+1:Nat):Int)=n.o[j].ins:=by unfold Nt.iF;rw [Int.natCast_succ,Nt.dI hj]
  have hq:Rt.fetch (Nt.iF n.o) (m+1) ((j+1:Nat):Int) s=Rt.comp 2 ((j+1:Nat):Int) (n.o[j].ins.foldl (λs i=>Rt.fetch (Nt.iF n.o) m i s) s):=by
   rw [Rt.eD,inZ (by rw [hv];simp),hy]
  rw [hq] at hh ⊢
  have hb:∀i∈n.o[j].ins,i≠0->Rt.lK n i<m:=λi hi h0=>by
   have h1:=(Rt.fZ hS.chk).lt ((j+1:Nat):Int) oZ oZ i (by rw [hy];exact hi) h0;have h2:Rt.lK n ((j+1:Nat):Int)<m+1:=by rcases hr with h|h<;>omega
   omega
  have hn:=Rt.mZ hS.chk hj;obtain ⟨b,off,J,jc,hN,y8,hJ⟩:=hS.net.nK hj;have hY:=(hS.ok.2.2 _ (gmZ hj)).2.2.1;have hH:=λ(W':Zp1) (h:Later W0 W')=>hJ.below h (lrZ _)
  have y8':=hM.later.cell y8;rw [hN] at c1;have hX:=hS.hN
  have ha:∀k,((n.o[j].ins.take k).foldl (λs i=>Rt.fetch (Nt.iF n.o) m i s) s).code.length<=49999:=λk=>by
   have h1:=Rt.rG (I:=Nt.iF n.o) (m:=m) n.o[j].ins k s;have h2:(Rt.comp 2 ((j+1:Nat):Int) (n.o[j].ins.foldl (λs i=>Rt.fetch (Nt.iF n.o) m i s) s)).code.length=(n.o[j].ins.foldl (λs i=>Rt.fetch (Nt.iF n.o) m i s) s).code.length+1:=by unfold Rt.comp;simp
   omega
  have hE:=λk (h:k<n.o[j].ins.length)=>Rt.rF (I:=Nt.iF n.o) (m:=m) h s
  have he:=qc4 a n kb W0 s W hM (by have:=ha 0;simp at this;omega);generalize n.o[j].ins=il at *;have j1:((j+1:Nat):Int)-1=(j:Int):=by omega
  have j2:iQ.wrap (j:Int)=j:=Zc1 _ oZ;have j3:(0:Int)<=(j:Int):=by omega
  have j4:(j:Int)<n.o.length:=by omega
  have hK:((j+1:Nat):Int)=(j:Int)+1:=by omega
  have hA:=λ(s2:RtS) (W2:Zp1) (h:RtM a n kb W0 s2 W2) (hl:s2.code.length<=60000)=>qbR a n kb W0 s2 W2 hS h 2 (j+1) hid hl
  rw [hK] at hq hA q1 q2 ⊢;have hO:=λ(l:List Int)=>Rt.jR (I:=Nt.iF n.o) (m:=m) l s hz
  obtain ⟨HM,hR,hP,hx,hd,hG,hf,hQ,hW⟩:=zd9 hM hH hb hn ha hE he hA ih;have hT:=zI hO;clear hM hH hb hn ha hE he hA ih hO;clear hz hr hS hq hh hv hy y8 hJ hN hK;go_in;go_wp2_with fail;refine hf.out.mono ?_;rintro e w2 ⟨rfl,rfl⟩;clear hf;go_wp2_with fail
  go_loopw [28] (λi wx=>∃k:Nat,k<=il.length/\i=nQ iQ (k:Int)/\RtM a n kb W0 ((il.take k).foldl (λs i=>Rt.fetch (Nt.iF n.o) m i s) s) wx/\RtK a W wx) (λi _=>il.length-(intOf i).toNat)
  case atStart=>exact ⟨0,Zt _,rfl,HM.out,RtK.refl _ _⟩
  case round=>
   obtain ⟨k,hk,rfl,hg,ht⟩:=hrel;clear HM x0 c7 c1 y8'
   by_cases hb:k<il.length
   ·obtain ⟨b2,off2,rfl,-,hc⟩:=hR.out wr hg.later k hb
    rw [qa2 hb] at hc;have hr:=hx.out _ (gmZ hb);obtain ⟨u,hu⟩:=ezZ hr.1
    have hw:=hW.out u _ wr hg (hT.out _) oZ (by
     rcases Nat.eq_zero_or_pos u with h0|h0
     ·exact .inl h0
     ·exact .inr (by rw [←hu];exact hP.out _ (gmZ hb) oZ)) (by
     have h1:=hd.out (k+1);rw [hG.out k hb,hu] at h1;omega)
    rw [←hu,←hG.out k hb] at hw;rw [hu] at hc hw;have m1:(k:Int)<il.length:=by omega
    obtain ⟨hU,hs,hF⟩:=zd3 hg ht hw;clear hg ht hw;clear hr hu;go_wp2_with fail;refine hF.out.mono ?_;rintro e w3 ⟨rfl,hp,ho⟩;have hm:=hs.out.trans ho;obtain ⟨hC,hB⟩:=zd2 hp hm;clear hp hm;clear hF ho hc hU hs;go_wp2_with fail;go_roundw
    case rel=>exact ⟨k+1,by omega,by go_num,hC.out,hB.out⟩
    case measure=>simp [intOf];omega
   ·obtain rfl:k=il.length:=by omega
    have hL:=hd.out il.length;rw [Zg] at hg hL;have hI:=hQ.out _ wr hg oZ;obtain ⟨hD,hs⟩:=zd2 hI ht;clear hI ht;clear hg hL;go_wp2_with fail;refine hD.out.mono ?_;rintro e w3 ⟨rfl,hp,ho⟩;have hm:=hs.out.trans ho;obtain ⟨hC,hB⟩:=zd2 hp hm;clear hp hm;clear hD ho hs;go_wp2_with fail
    go_end0
    exact ⟨rfl,hC.out,hB.out⟩
theorem RtA.Still.order {a:RtA} {n:aA} {W0:Zp1} (h:a.Still n W0) {k:Nat} (hk:k<n.o.length):∃b off u,a.O=some ⟨b,off,none⟩/\W0.cell? ⟨b,off+k,none⟩=some (nQ iQ ((u:Nat):Int))/\(Nt.sO n.o).getD k 0=((u:Nat):Int)/\1<=u/\u<=n.o.length:=by
 have hb:=Rt.bW h.chk;have ha:k<(Nt.sO n.o).length:=by omega
 obtain ⟨b,off,e,-,hc⟩:=h.ord k ha;have hr:=Kn.dQ (Nt.iF n.o) n.o.length _ (show (Nt.sO n.o)[k]∈Nt.sO n.o from gmZ ha);rw [qa2 ha] at hc ⊢;obtain ⟨u,hu⟩:=ezZ (show 0<=(Nt.sO n.o)[k] by omega);rw [hu] at hr hc;exact ⟨b,off,u,e,hc,hu,by omega,by omega⟩
theorem RtA.Still.orders {a:RtA} {n:aA} {W0:Zp1} (h:a.Still n W0):∃b off,a.O=some ⟨b,off,none⟩/\∀k,k<n.o.length->∃u:Nat,W0.cell? ⟨b,off+k,none⟩=some (nQ iQ ((u:Nat):Int))/\(Nt.sO n.o).getD k 0=((u:Nat):Int)/\1<=u/\u<=n.o.length:=by
 have h0:0<n.o.length:=by
  have:=Nt.dD (Nt.aL h.chk).2.2.2.2.2.2.1;omega
 obtain ⟨b,off,_,hO,-⟩:=h.order h0;refine ⟨b,off,hO,λk hk=>?_⟩;obtain ⟨b2,off2,u,ha,h2⟩:=h.order hk;rw [hO] at ha;cases ha;exact ⟨u,h2⟩
set_option maxRecDepth 100000 in
theorem qdR (a:RtA) (n:aA) (keep:List Int) (kb:List Bool) (W0:Zp1) (W:Zp1) (hS:a.Still n W0) (hkb:tJ n keep kb) (hM:RtM a n kb W0 (Rt.fA n keep 0) W):
  Calls prog 114 #[.pointer (some ⟨a.p,0,none⟩)] W (RtP a n kb W0 (Rt.fA n keep n.o.length) W):=by
 have h7:=hS.m12;have ho:=Rt.bW hS.chk;have h8:a.p<W.heap.size/\a.g3<W.heap.size:=⟨(by obtain ⟨v,hb,-⟩:=hM.box;exact hb.lt),hM.aG.lt⟩
 have hn:Later W (W.alloc (.cells #[.pointer (some ⟨a.p,0,none⟩)] 182)):=(Later.refl W).alloc _;have hG:=Blk.new W 182 #[.pointer (some ⟨a.p,0,none⟩)];have hq:=hM.to_later hn;have hg:=λk (hk:k<=n.o.length)=>Rt.mY hS.chk keep k (by rw [ho];exact hk)
 obtain ⟨b,off,hO,hf⟩:=hS.orders;obtain ⟨v,-,-,-,-,c2,-,-,-,-,-,-⟩:=hq.eO;rw [hO] at c2;obtain ⟨HS,hU,hy,hI,hW,hv,hp,h9⟩:=zd8 hS hkb hq hn hG hg hf ho;clear hS hkb hq hn hG hg hf ho;clear hO;clear hM;go_in;go_wp2_with fail;generalize W.alloc (.cells #[.pointer (some ⟨a.p,0,none⟩)] 182)=w1 at *
 go_loopw [9] (λi wx=>∃k:Nat,k<=n.o.length/\i=nQ iQ (k:Int)/\RtM a n kb W0 (Rt.fA n keep k) wx/\RtK a w1 wx) (λi _=>n.o.length-(intOf i).toNat)
 case atStart=>exact ⟨0,Zt _,rfl,hy.out,RtK.refl _ _⟩
 case round=>
  obtain ⟨k,hk,rfl,he,hd⟩:=hrel;clear hy c2
  by_cases h3:k<n.o.length
  ·obtain ⟨u,hQ,hu,h5,h4⟩:=hp.out k h3
   have hc:=he.later.cell hQ;have hJ:=hd.blk hW.out dZ oZ oZ;have hX:=hv.out k hk;have hr:k*(n.o.length+3)<=12*15:=Nat.mul_le_mul oZ oZ
   have hB:Rt.fA n keep (k+1)=Rt.aQ (Rt.fT n keep k) n.o.length (Rt.comp 1 (u:Int) (Rt.fA n keep k)):=by
    show Rt.aQ _ _ (Rt.comp 1 ((Nt.sO n.o).getD k 0) _)=_
    rw [hu];rfl
   generalize Rt.fA n keep k=s at *;have hl:Later wr (wr.alloc (.cells #[nQ iQ k] 3)):=(Later.refl wr).alloc _;have hF:=Blk.new wr 3 #[nQ iQ k];have hL:=he.to_later hl;have h6:wr.heap.size>a.p/\wr.heap.size>a.g3:=by have:=hd.1;have:=Below.size hI.out;omega
   have hT:=hd.trans (RtK.of_later hl);have ht:=hl.blk hJ;have z1:(wr.alloc (.cells #[nQ iQ k] 3)).cell? ⟨W.heap.size,0,none⟩=some (.pointer (some ⟨a.p,0,none⟩)):=ht.cell 0;have m1:(k:Int)<n.o.length:=by omega
   obtain ⟨hR,hD,hw,hC,hA⟩:=zd5 hL hT ht hF hB;clear hL hT ht hF hB;clear he hd hQ hu hl hJ;go_wp2_with fail;generalize wr.alloc (.cells #[nQ iQ k] 3)=w2 at *;generalize wr.heap.size=pi at *;refine (qbR a n kb W0 s w2 HS.out hR.out 1 u h4 oZ).mono ?_;rintro e w3 ⟨rfl,hH,hm⟩;have hP:(Rt.comp 1 (u:Int) s).code.length<=50000:=by unfold Rt.comp;simp;omega
   have ha:=hm.blk hw.out dZ oZ oZ;have hi:=hm.blk hC.out dZ oZ oZ;have z3:w3.cell? ⟨W.heap.size,0,none⟩=some (.pointer (some ⟨a.p,0,none⟩)):=ha.cell 0;have hh:=hD.out.trans hm
   have hs:=zI (qcX a n kb W0 _ w3 (Rt.fT n keep k) W.heap.size pi HS.out hH hP (λs' W' hV hx id h1 h2=>
    qgP a n keep kb W0 s' W' HS.out hV hU.out k id W.heap.size pi oZ h2 ((hx.blk ha dZ oZ oZ).cell 0) ((hx.blk hi dZ oZ oZ).cell 0)))
   rw [←hA.out] at hs;have hj:=zI hh;clear hh;clear hH hm hR hD hw hC z1 ha hi hX hr hP hA hc;go_wp2_with fail;refine hs.out.mono ?_;rintro e w4 ⟨rfl,hz,hE⟩;have hN:=hj.out.trans hE;obtain ⟨hZ,hY⟩:=zd2 hz hN;clear hz hN;clear hs hE hj z3;go_wp2_with fail;go_roundw
   case rel=>exact ⟨k+1,by omega,by go_num,hZ.out,hY.out⟩
   case measure=>simp [intOf];omega
  ·obtain rfl:k=n.o.length:=by omega
   have hK:=(RtK.of_later (a:=a) hI.out).trans hd;obtain ⟨h0,HK⟩:=zd2 he hK;clear he hK;clear hd;go_wp2_with fail
   go_end0
   exact ⟨rfl,h0.out,HK.out⟩
def qga (t:Value) (w:Zp1):Nat:=match t with
 | .pointer (some ad)=>(match w.cell? ad with
  | some v=>(intOf v).toNat
  | none=>0)
 | _=>0
theorem qeS {w:Zp1} {ad:Addr} {z:Int} (h:w.cell? ad=some (nQ iQ z)):qga (.pointer (some ad)) w=z.toNat:=by
 unfold qga;simp only [h];rfl
theorem Rt.kT {n:aA} {j:Nat} (hj:j<n.o.length):Nt.iF n.o ((j+1:Nat):Int)=n.o[j].ins:=by unfold Nt.iF;rw [Int.natCast_succ,Nt.dI hj]
set_option maxRecDepth 100000 in
theorem qd8 (a:RtA) (n:aA) (keep:List Int) (kb:List Bool) (W0:Zp1) (W:Zp1) (hS:a.Still n W0) (hkb:tJ n keep kb) (hM:RtM a n kb W0 (Rt.eF n keep 0) W) (hz0:∀k,k<=n.o.length->Ck.at_ (Rt.eF n keep k).aG 0=true):
  Calls prog 117 #[.pointer (some ⟨a.p,0,none⟩)] W (RtP a n kb W0 (Rt.eF n keep n.o.length) W):=by
 have HO:=hS.m12;have hw:=Rt.bW hS.chk;have gd:a.p<W.heap.size/\a.g3<W.heap.size:=⟨(by obtain ⟨v,hb,-⟩:=hM.box;exact hb.lt),hM.aG.lt⟩
 have Hd:Later W (W.alloc (.cells #[.pointer (some ⟨a.p,0,none⟩)] 182)):=(Later.refl W).alloc _;have h8:=Blk.new W 182 #[.pointer (some ⟨a.p,0,none⟩)];have hW:Later W ((W.alloc (.cells #[.pointer (some ⟨a.p,0,none⟩)] 182)).alloc (.cells #[nQ iQ (n.o.length:Int)] 3)):=Hd.alloc _;have HC:=h8.alloc (.cells #[nQ iQ (n.o.length:Int)] 3);have h4:=Blk.new (W.alloc (.cells #[.pointer (some ⟨a.p,0,none⟩)] 182)) 3 #[nQ iQ (n.o.length:Int)];rw [Zh1] at h4;have Ho:=hM.to_later Hd;obtain ⟨v,-,-,-,-,c2,-,-,-,-,-,-⟩:=Ho.eO;have z0:(W.alloc (.cells #[.pointer (some ⟨a.p,0,none⟩)] 182)).cell? ⟨W.heap.size,0,none⟩=some (.pointer (some ⟨a.p,0,none⟩)):=h8.cell 0;have Hl:=hM.to_later hW;have hx:=λk (hk:k<=n.o.length)=>Rt.iM hS.chk HO keep k (by rw [hw];exact hk)
 have hg:=λk (hk:k<=n.o.length)=>Rt.sS hS.chk keep k (by rw [hw];exact hk)
 have hD:=λk (hk:k<n.o.length)=>hS.order hk
 have hz:=λk (hk:k<n.o.length)=>hS.net.nK hk
 have HH:∀id:Nat,1<=id->id<=n.o.length->Rt.lK n id<n.o.length+1:=λid h1 h2=>by
  have hu:(id:Int)∈Nt.sO n.o:=(Kn.bU hw _).2 ⟨by omega,by omega⟩;have:=List.idxOf_lt_length_of_mem hu;unfold Rt.lK;omega
 have hC:(Rt.kD n keep).code.length<=n.o.length*(n.o.length+3)+3:=Rt.mW hS.chk keep;obtain ⟨HS,HV,Hv,H5,Hb,Hz,hL,HD,Ha⟩:=zd9 hS hkb Hl hW HC h4 hx hg hD;obtain ⟨H8,h5,HT,H6,H1⟩:=zd5 hw hz HH hz0 hC;clear hS hkb Hl hW HC h4 hx hg hD hw hz HH hz0 hC;clear hM Ho Hd h8;go_in;go_wp2_with fail;generalize (W.alloc (.cells #[.pointer (some ⟨a.p,0,none⟩)] 182)).alloc (.cells #[nQ iQ (n.o.length:Int)] 3)=w1 at *;clear c2 z0
 go_loopw [2] (λt wx=>∃(k pp:Nat),k<=n.o.length/\t=.pointer (some ⟨pp,0,none⟩)/\W.heap.size<pp/\Blk wx pp 3 #[nQ iQ ((n.o.length-k:Nat):Int)]/\RtM a n kb W0 (Rt.eF n keep k) wx/\RtK a w1 wx) (λt wx=>qga t wx)
 case atStart=>exact ⟨0,W.heap.size+1,Zt _,rfl,by omega,Hz.out,Hv.out,RtK.refl _ _⟩
 case round=>
  obtain ⟨k,pp,hk,rfl,gb,hs,hd,hF⟩:=hrel;clear Hv Hz;have ha:=hF.blk Hb.out dZ oZ oZ;have z1:wr.cell? ⟨W.heap.size,0,none⟩=some (.pointer (some ⟨a.p,0,none⟩)):=ha.cell 0
  by_cases hv:k<n.o.length
  ·obtain ⟨p,hp⟩:∃p,n.o.length-k=p:=⟨_,rfl⟩
   obtain ⟨i,hi⟩:∃i,n.o.length-1-k=i:=⟨_,rfl⟩
   have H3:i<n.o.length:=by omega
   have HR:p=i+1:=by omega
   have H2:=zI (show n.o.length-(k+1)=i by omega);subst HR;have HU:=hL.out k hk;have he:=qc4 a n kb W0 _ wr hd oZ;obtain ⟨bo,oo,u,hO,Hu,hu,ge,gc⟩:=Ha.out i H3;obtain ⟨j,rfl⟩:∃j,u=j+1:=⟨u-1,by omega⟩
   have hj:j<n.o.length:=by omega
   obtain ⟨bN,oN,J,jc,hN,y8,hJ⟩:=h5.out j hj;have hG:=Rt.mZ HS.out.chk hj
   have hT:Rt.eF n keep (k+1)=Rt.aQ (Rt.bT n keep (i+1)) n.o.length (Rt.add 6 ((j+1:Nat):Int) (n.o[j].ins.foldl (λs i=>Rt.fetch (Nt.iF n.o) (n.o.length+1) i s) (Rt.eF n keep k))):=by
    show Rt.aQ (Rt.bT n keep ((Nt.sO n.o).length-k)) _ (Rt.add 6 ((Nt.sO n.o).getD ((Nt.sO n.o).length-1-k) 0) ((Nt.iF n.o ((Nt.sO n.o).getD ((Nt.sO n.o).length-1-k) 0)).foldl _ _))=_
    rw [H8.out,hi,hp,hu,Rt.kT hj];rfl
   have HJ:=hL.out (k+1) oZ
   have hy:(Rt.add 6 ((j+1:Nat):Int) (n.o[j].ins.foldl (λs i=>Rt.fetch (Nt.iF n.o) (n.o.length+1) i s) (Rt.eF n keep k))).code.length<=1000:=by
    have h1:=Rt.qC (f:=Rt.bT n keep (i+1)) n.o.length (Rt.add 6 ((j+1:Nat):Int) (n.o[j].ins.foldl (λs i=>Rt.fetch (Nt.iF n.o) (n.o.length+1) i s) (Rt.eF n keep k)));rw [←hT] at h1;omega
   have hl:∀m,((n.o[j].ins.take m).foldl (λs i=>Rt.fetch (Nt.iF n.o) (n.o.length+1) i s) (Rt.eF n keep k)).code.length<=1000:=λm=>by
    have h1:=Rt.rG (I:=Nt.iF n.o) (m:=n.o.length+1) n.o[j].ins m (Rt.eF n keep k);have h2:(Rt.add 6 ((j+1:Nat):Int) (n.o[j].ins.foldl (λs i=>Rt.fetch (Nt.iF n.o) (n.o.length+1) i s) (Rt.eF n keep k))).code.length=(n.o[j].ins.foldl (λs i=>Rt.fetch (Nt.iF n.o) (n.o.length+1) i s) (Rt.eF n keep k)).code.length+1:=by unfold Rt.add;simp
    omega
   have Hq:=H6.out k hk;have Hr:=λ(l:List Int)=>Rt.jR (I:=Nt.iF n.o) (m:=n.o.length+1) l _ Hq
   have Ht:=λm (h:m<n.o[j].ins.length)=>Rt.rF (I:=Nt.iF n.o) (m:=n.o.length+1) h (Rt.eF n keep k)
   have HX:=(HS.out.ok.2.2 _ (gmZ hj)).2.2.1;have Hh:=λ(W':Zp1) (h:Later W0 W')=>hJ.below h (lrZ _)
   obtain ⟨v,-,-,-,c1,c2,-,-,-,-,-,-⟩:=hd.eO;have hE:=hd.later.cell Hu;have y8':=hd.later.cell y8;rw [hN] at c1;rw [hO] at c2;rw [hp] at hs;have x1:wr.cell? ⟨pp,0,none⟩=some (nQ iQ ((i+1:Nat):Int)):=hs.cell 0;generalize n.o[j].ins=il at *;generalize Rt.eF n keep k=s at *;have Hj:((j+1:Nat):Int)=(j:Int)+1:=by omega
   have HA:((i+1:Nat):Int)=(i:Int)+1:=by omega
   rw [Hj] at hE hT;rw [HA] at x1;have HW:=zI x1;have j1:(j:Int)+1-1=(j:Int):=by omega
   have j2:iQ.wrap (j:Int)=j:=Zc1 _ oZ;have j3:(0:Int)<=(j:Int):=by omega
   have j4:(j:Int)<n.o.length:=by omega
   have i1:(i:Int)+1-1=(i:Int):=by omega
   have i2:iQ.wrap (i:Int)=i:=Zc1 _ oZ;have i3:(0:Int)<=(i:Int):=by omega
   have i4:(i:Int)<n.o.length:=by omega
   have i5:decide ((1:Int)<=(i:Int)+1)=true:=by simp;omega
   have HF:=λ(m:Nat)=>hd.to_later ((Later.refl wr).drewN m)
   have HE:=λ(m:Nat)=>hF.trans (RtK.of_later ((Later.refl wr).drewN m))
   obtain ⟨hf,Hm,Hi,HG,HM,hX,hh,HN,Hg⟩:=zd9 he HF HE hs Hh hG hl Hr Ht;obtain ⟨HL,h3⟩:=zd2 hT hy;clear he HF HE hs Hh hG hl Hr Ht hT hy;clear hd hF ha Hu y8 hJ hu hO hN Hq HJ HU hi hp Hj HA;go_wp2_with fail;refine hf.out.mono ?_;rintro e w2 ⟨rfl,rfl⟩;clear hf;go_wp2_with fail
   go_quiet (fail)
   go_wp2_with fail;obtain ⟨wo,rfl⟩:∃wo,wo=wr:=⟨wr,rfl⟩
   go_loopw [39] (λt wx=>∃m:Nat,m<=il.length/\t=nQ iQ (m:Int)/\RtM a n kb W0 ((il.take m).foldl (λs i=>Rt.fetch (Nt.iF n.o) (n.o.length+1) i s) s) wx/\RtK a w1 wx/\Blk wx pp 3 #[nQ iQ ((i+1:Nat):Int)]) (λt _=>il.length-(intOf t).toNat)
   case atStart=>exact ⟨0,Zt _,rfl,Hm.out _,Hi.out _,HG.out.drewN _⟩
   case round=>
    obtain ⟨m,hm,rfl,ho,hB,hQ⟩:=hrel;clear Hm Hi HG x1 z1 hE y8' c1 c2;have ha:=hB.blk Hb.out dZ oZ oZ;have z1:wr.cell? ⟨W.heap.size,0,none⟩=some (.pointer (some ⟨a.p,0,none⟩)):=ha.cell 0
    by_cases hv:m<il.length
    ·obtain ⟨b2,off2,rfl,-,hc⟩:=HM.out wr ho.later m hv
     rw [qa2 hv] at hc;have hr:=hX.out _ (gmZ hv);obtain ⟨u,hu⟩:=ezZ hr.1
     have hU:=qfz a n kb W0 HS.out (n.o.length+1) u _ wr ho (HN.out _) oZ (by
      rcases Nat.eq_zero_or_pos u with h0|h0
      ·exact .inl h0
      ·exact .inr (HT.out u h0 oZ)) (by
      have h1:=hh.out (m+1);rw [Hg.out m hv,hu] at h1;omega)
     rw [←hu,←Hg.out m hv] at hU;rw [hu] at hc hU;have m1:(m:Int)<il.length:=by omega
     obtain ⟨H4,hH,Hw,hA⟩:=zd4 ho hB hU hQ;clear ho hB hU hQ;clear hr hu ha;go_wp2_with fail;refine Hw.out.mono ?_;rintro e w3 ⟨rfl,hI,hn⟩;have ht:=hH.out.trans hn;have hq:=hn.blk hA.out dZ oZ oZ;obtain ⟨HQ,hV,hR⟩:=zd3 hI ht hq;clear hI ht hq;clear Hw hn hc H4 hH hA z1;go_wp2_with fail;go_roundw
     case rel=>exact ⟨m+1,by omega,by go_num,HQ.out,hV.out,hR.out⟩
     case measure=>simp [intOf];omega
    ·obtain rfl:m=il.length:=by omega
     have Hk:=hh.out il.length;rw [Zg] at ho Hk;have hZ:=qbe a n kb W0 _ wr HS.out ho 6 ((j+1:Nat):Int) oZ;rw [Int.natCast_succ] at hZ;obtain ⟨Hf,hH,hA⟩:=zd3 hZ hB hQ;clear hZ hB hQ;clear ho Hk ha;go_wp2_with fail;refine Hf.out.mono ?_;rintro e w3 ⟨rfl,hI,hn⟩;have ht:=hH.out.trans hn;have hq:=hn.blk hA.out dZ oZ oZ;have ha:=ht.blk Hb.out dZ oZ oZ;have z3:w3.cell? ⟨W.heap.size,0,none⟩=some (.pointer (some ⟨a.p,0,none⟩)):=ha.cell 0
     have h6:=zI (qcY a n kb W0 _ w3 (Rt.bT n keep (i+1)) W.heap.size pp HS.out hI (by have:=h3.out;rw [Int.natCast_succ] at this;omega) (λs' W' HZ Hs id h1 h2=>
      qgQ a n keep kb W0 s' W' HS.out HZ HV.out (i+1) id W.heap.size pp h2 ((Hs.blk ha dZ oZ oZ).cell 0) ((Hs.blk hq dZ oZ oZ).cell 0)))
     rw [←HL.out] at h6;obtain ⟨hV,hR⟩:=zd2 ht hq;clear ht hq;clear Hf hI hn hH hA ha z1;go_wp2_with fail;refine h6.out.mono ?_;rintro e w4 ⟨rfl,Hx,Hc⟩;have HB:=hV.out.trans Hc;have h9:=Hc.blk hR.out dZ oZ oZ;have x4:w4.cell? ⟨pp,0,none⟩=some (nQ iQ ((i:Int)+1)):=by rw [h9.cell];rfl
     have hY:Later w4 (w4.alloc (.cells #[nQ iQ (i:Int)] 3)):=(Later.refl w4).alloc _;have Hp:=Hx.to_later hY;have Hn:=HB.trans (RtK.of_later hY);have He:=Blk.new w4 3 #[nQ iQ (i:Int)];have H0:W.heap.size<w4.heap.size:=by have:=h9.lt;omega
     have Hy:qga (.pointer (some ⟨pp,0,none⟩)) wo=i+1:=by rw [qeS HW.out];omega
     have hP:=qeS (w:=w4.alloc (.cells #[nQ iQ (i:Int)] 3)) (ad:=⟨w4.heap.size,0,none⟩) (z:=(i:Int)) (He.cell 0);obtain ⟨HI,HY,H9,HP,h7⟩:=zd5 Hp Hn He Hy hP;clear Hp Hn He Hy hP;clear h6 Hc hV Hx HB h9 hY hR z3;go_wp2_with fail;go_roundw
     case rel=>exact ⟨k+1,w4.heap.size,by omega,rfl,H0,by rw [H2.out];exact H9.out,HI.out,HY.out⟩
     case measure=>rw [HP.out,h7.out];omega
  ·obtain rfl:k=n.o.length:=by omega
   have hK:=(RtK.of_later (a:=a) H5.out).trans hF;have x1:wr.cell? ⟨pp,0,none⟩=some (nQ iQ 0):=by rw [hs.cell,Nat.sub_self];rfl
   obtain ⟨H7,HK⟩:=zd2 hd hK;clear hd hK;clear hF hs ha;go_wp2_with fail
   go_end0
   exact ⟨rfl,H7.out,HK.out⟩
end Go.Proofs.YtddkenhemnkkeaaGreat
