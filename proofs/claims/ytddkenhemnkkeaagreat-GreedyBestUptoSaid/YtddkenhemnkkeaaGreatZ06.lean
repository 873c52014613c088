/- Lemmas for the statements of this seat: contracts of functions and the plain laws. -/
import Derived.BigQuiet
import Derived.ChangeSame
import Derived.Deep.DeepCutAuto
import Derived.Deep.Fields
import Derived.Deep.RegionHeld3
import Derived.Deep.RegionLaw
import Derived.Deep.Slices
import Derived.Maps.AppendAt
import Derived.OpenShut
import Derived.ProofKit
import Derived.Sort.OwnSortedInts
import Derived.Test.YtddkenhemnkkeaaGreatZ05
set_option linter.unusedVariables false
open Go.IntKind renaming i64 → iQ
open Go.Value renaming int → nQ, slice → sQ
open List renaming take_succ_eq_append_getElem → Zb, replicate → Zc, drop_eq_getElem_cons → Zd, length_append → Ze, all_eq_true → Zf, take_length → Zg, mem_of_mem_take → Zh, getElem?_eq_none → Zi, flatMap_append → Zj, getElem?_toArray → Zk, getElem?_append_right → Zl, getElem?_append_left → Zm, take_append_drop → Zn, length_take → Zo, mem_of_mem_drop → Zp, length_drop → Zq, getElem?_set_self → Zr, getElem?_set_ne → Zs
open Nat renaming zero_le → Zt, succ_mul → Zu, le_trans → Zv, zero_add → Zw, add_zero → Zx, le_succ → Zy
open Bool renaming and_eq_true → Zz
open Go.Value renaming int → Za1, slice → Zb1
open Go.IntWalk renaming i64_in → Zc1
open Go.NoPanic renaming normal → Zd1
open Go.RowKit.Below renaming refl → Ze1
open Go.AllReadyH renaming cons → Zf1, nil → Zg1
open Go.World renaming size_alloc → Zh1, cell?_of_block → Zi1, block_lt_of_cell? → Zj1
open Go renaming bodyPost_ret → Zk1, wp_region_held_drew → Zl1, wp_region_noPanic → Zm1, wpAnyH_done → Zn1, wpAnyH_ready → Zo1, World → Zp1
open Go.Proofs.Tryz
namespace Go.Proofs.YtddkenhemnkkeaaGreat
set_option maxHeartbeats 16000000
set_option maxRecDepth 20000
open Go.RowKit
def CloneQ (zs:List Int) (w:Zp1) (e:Ending) (w':Zp1):Prop:=
 ∃J jc,e=.returned (sQ J zs.length jc)/\w'.ownsRow w.heap.size 3 1 (sQ J zs.length jc) zs.length (zs.map (Za1 iQ))/\Below w.heap.size w w'
theorem qhq (A:Option Addr) (c:Nat) (zs:List Int) (w:Zp1) (hl:zs.length<=1048576) (hI:Ints iQ w A zs):
  Calls prog 87 #[sQ A zs.length c] w (CloneQ zs w):=by
 by_cases h:zs=[]
 ·subst h
  rcases A with _|a
  ·refine (Tryz.slices_Clone_int_nil 0 c w).mono ?_
   rintro e w' ⟨rfl,rfl⟩;exact ⟨none,0,rfl,World.ownsRow_nil _ _ _ _,Ze1 _ _⟩
  ·refine (Tryz.slices_Clone_int_zero a c w).mono ?_
   rintro e w' ⟨v,rfl,ho,-,hb⟩;obtain ⟨J,jc,rfl⟩:=qa8 ho;exact ⟨J,jc,rfl,ho,hb⟩
 ·obtain ⟨b,off,rfl,-,-⟩:=hI 0 (List.length_pos_iff.2 h)
  refine (Tryz.slices_Clone_int b off zs.length c zs w (lrZ _) oZ (λj hj=>?_)).mono ?_
  ·obtain ⟨b',o',e,-,hc⟩:=hI j hj
   injection e with e;injection e with e1 e2;subst e1 e2
   exact hc
  ·rintro e w' ⟨v,rfl,ho,-,hb⟩
   rw [Zg] at ho;obtain ⟨J,jc,rfl⟩:=qa8 ho;exact ⟨J,jc,rfl,ho,hb⟩
theorem qhr {w:Zp1} {g:Nat} {t:TypeId} (l:List Int) (h:Blk w g t (l.map (Za1 iQ)).toArray):Ints iQ w (some ⟨g,0,none⟩) l:=Ints.dN λj hj=>by
 rw [Zw,h.cell];simp [hj]
theorem Ck.qH {n:aA} (h:Nt.check n=0) (hok:n.ok) {cap:Int} (hc : -9223372036854775808<=cap/\cap<=9223372036854775807):(Ck.base n cap).Ok:=by
 obtain ⟨h1,h2,h3,h4,h5,h6,h7,h8⟩:=Nt.aK h;have hw:=Nt.dB h;obtain ⟨-,l1,l2⟩:=Nt.dD h7;have hd:(Nt.aD n).length=n.o.length+1:=by rw [Nt.aD,List.length_cons,Nt.bJ]
 refine ⟨by show 1<=(Nt.words n).length;omega,by show (Nt.words n).length<=513;omega,by show (Nt.aD n).length=(Nt.words n).length;omega,?_,?_,?_,?_,?_,hc⟩
 ·show ([]::n.o.map (·.ins)).length=(Nt.words n).length
  rw [hw];simp
 ·intro r hr
  rcases List.mem_cons.1 hr with rfl|hr
  ·simp
  ·obtain ⟨v,hv,rfl⟩:=List.mem_map.1 hr
   obtain ⟨-,hb⟩:=Nt.eU h4 v hv;have ha:=(hok.2.2 v hv).2.2.1;exact ⟨ha,λi hi=>by have:=hb i hi;show 0<=i/\i<((Nt.words n).length:Int);omega⟩
 ·show (Nt.sO n.o).length<=512;omega
 ·show 0<=Nt.aI n.o/\Nt.aI n.o<((Nt.words n).length:Int);omega
 ·intro z hz;have:=Nt.iD h z hz;omega
def Ck.rk (n:aA) (k:Nat):List (List Int):=[]::((n.o.take k).map (·.ins)++Zc (n.o.length-k) [])
theorem Ck.rk_zero (n:aA):Ck.rk n 0=Zc (n.o.length+1) []:=by simp [Ck.rk,List.replicate_succ]
theorem Ck.rG (n:aA) {k:Nat} (h:k<=n.o.length):(Ck.rk n k).length=n.o.length+1:=by simp [Ck.rk];omega
theorem Ck.pZ (n:aA) {k:Nat} (h:k<n.o.length):(Ck.rk n k).set (k+1) n.o[k].ins=Ck.rk n (k+1):=by
 unfold Ck.rk;rw [List.set_cons_succ,Zb h,List.map_append]
 congr 1
 have hr:Zc (n.o.length-k) ([]:List Int)=[]::Zc (n.o.length-(k+1)) []:=by
  rw [←List.replicate_succ];congr 1;omega
 rw [hr,List.set_append_right _ _ soZ];simp [Nat.min_eq_left (Nat.le_of_lt h)]
theorem Ck.qK (n:aA):Ck.rk n n.o.length=[]::n.o.map (·.ins):=by simp [Ck.rk]
def NewP (n:aA) (cap:Int) (W:Zp1) (e:Ending) (w':Zp1):Prop:=
 (Nt.check n≠0/\e=.returned (.tuple #[.pointer none,nQ iQ (Nt.check n)])∨Nt.check n=0/\∃a W0,CkA.Still a (Ck.base n cap) W0/\Later W W0/\e=.returned (.tuple #[.pointer (some ⟨a.p,0,none⟩),nQ iQ 0])/\CkM a (Ck.base n cap) W0 (Ck.start (n.o.length+1)) w')/\Later W w'
set_option maxRecDepth 100000 in
theorem qen (A N:Option Addr) (c d:Nat) (n:aA) (cap:Int) (W:Zp1) (hok:n.ok) (hR:bH W A N n) (hd:n.o.length<=d) (hsm:n.o.length<=200) (hcap : -9223372036854775808<=cap/\cap<=9223372036854775807):
  Calls prog 46 #[.agg #[sQ A n.inn.length c,sQ N n.o.length d],nQ iQ cap] W (NewP n cap W):=by
 have gi:=Blk.new W 26 #[sQ A n.inn.length c,sQ N n.o.length d];have H0:Later W (W.alloc (.cells #[sQ A n.inn.length c,sQ N n.o.length d] 26)):=(Later.refl W).alloc _;obtain ⟨HR,Ht,gn,HC⟩:=zd4 hR hok gi H0;clear hR hok gi H0;go_in;go_wp2_with fail;generalize W.alloc (.cells #[sQ A n.inn.length c,sQ N n.o.length d] 26)=W1 at *;refine (qby A N c d n W1 Ht.out (HR.out.below HC.out (lrZ _)) hd hsm).mono ?_;rintro e W2 ⟨h2,hg⟩;have HA:Later W1 W2:=h2
 by_cases hS:Nt.check n=0
 rotate_left
 ·rcases hg with ⟨h0,_⟩|⟨_,rfl⟩
  ·exact absurd h0 hS
  have gT:(Nt.check n != 0)=true:=by simp [hS]
  have gx:=HC.out.trans HA;have Hg:=gx.alloc (.cells #[sQ none 0 0,sQ none 0 0,nQ iQ 0] 55);obtain ⟨hy,hZ⟩:=zd2 hS Hg;clear hS Hg;clear h2 HA gx;go_wp2_with fail
  go_ret2
  exact ⟨.inl ⟨hy.out,rfl⟩,hZ.out⟩
 rcases hg with ⟨_,g,g2,rfl,hG,go⟩|⟨h0,_⟩
 rotate_left
 ·exact absurd hS h0
 have gD:=Blk.new W2 55 #[sQ (some ⟨g,0,none⟩) (n.o.length+1) (n.o.length+1),sQ (some ⟨g2,0,none⟩) (n.o.length+1) (n.o.length+1),nQ iQ (Nt.total n)];have Hc:Later W2 (W2.alloc (.cells #[sQ (some ⟨g,0,none⟩) (n.o.length+1) (n.o.length+1),sQ (some ⟨g2,0,none⟩) (n.o.length+1) (n.o.length+1),nQ iQ (Nt.total n)] 55)):=(Later.refl W2).alloc _;have HE:=(HA.trans Hc).blk gn.out;have Hg:=(HC.out.trans HA).trans Hc;have gu:=Hc.blk hG;have Hl:=Hc.blk go;have e0:=HE.cell 0;have e1:=HE.cell 1;simp at e0 e1;obtain ⟨gg,gj,hZ,H6,h8,hy⟩:=zd6 gD HE Hg gu Hl hS;clear gD HE Hg gu Hl hS;clear h2 HA Hc hG go gn HC;go_wp2_with fail;generalize W2.alloc (.cells #[sQ (some ⟨g,0,none⟩) (n.o.length+1) (n.o.length+1),sQ (some ⟨g2,0,none⟩) (n.o.length+1) (n.o.length+1),nQ iQ (Nt.total n)] 55)=W3 at *;generalize W2.heap.size=pb at *;refine (qb2 A N c d n W3 Ht.out (HR.out.below hZ.out (lrZ _)) hd).mono ?_;rintro e W4 ⟨h4,hg⟩;rcases hg with ⟨_,O,oc,rfl,hO,-,-⟩|⟨h0,_⟩
 rotate_left
 ·exact absurd hy.out h0
 have HG:Later W3 W4:=h4;have gy:=hZ.out.trans HG;have HF:=HG.blk gj.out;have H4:=hO;clear e0 e1;have e0:=HF.cell 0;have e1:=HF.cell 1;simp at e0 e1;obtain ⟨HN,gd,gE,H2⟩:=zd4 gy HF H4 HG;clear gy HF H4 HG;clear h4 hO gj hZ;go_wp2_with fail;refine (qfy A N c d n W4 Ht.out (HR.out.below HN.out (lrZ _)) hd).mono ?_;rintro e W5 ⟨rfl,h5⟩;rw [hy.out,show qcH n=Nt.aI n.o by unfold qcH;rw [ipZ hy.out]];have Hi:Later W4 W5:=h5;have HJ:=H2.out.trans Hi;have gh:=HN.out.trans Hi;have HT:=Hi.blk gd.out;have gm:=gE.out.below Hi (lrZ _);have Hw:=HJ.blk gg.out;have HY:=HJ.blk H6.out;have Hz:=HJ.blk h8.out;clear e0 e1;have e1:=HT.cell 1;simp at e1;obtain ⟨gf,H1,gB,Hx,ge,Hs⟩:=zd6 gh HT gm Hw HY Hz;clear gh HT gm Hw HY Hz;clear h5 Hi HJ gd HN gE gg H6 h8 H2;obtain ⟨i0,hi,gH,gG,gK⟩:=info_parts qbL;obtain ⟨i1,hj,HS,HW,HV⟩:=info_parts qbs;have w1:iQ.wrap ((n.o.length:Int)+1)=((n.o.length+1:Nat):Int):=by rw [Zc1 _ oZ];omega
 have w2:iQ.wrap ((n.o.length+1:Nat):Int)=((n.o.length+1:Nat):Int):=Zc1 _ oZ;go_wp2_with (at_make;refine wpList_make_full _ rfl _ _ 32 rfl W5.heap.size 22 i0 (sQ none 0 0) 1 underlying32 hi gH gG _ _ _ _ (n.o.length+1) rfl rfl (by first|rfl|simp|(go_simp;rfl)) (by first|rfl|simp|(go_simp;rfl)) ?b2 ?b3 ?b4 ?_)
 case b2=>rw [gK];omega
 case b3=>unfold maxLen;omega
 case b4=>simp
 intro W6 hown hgrow;have hW:=qam hown;rw [qae] at hW;have hc:aQ W6 W5.heap.size 22 (Ck.rk n 0):=by rw [Ck.rk_zero];exact aQ.new (by simpa [Blk] using hW)
 have hT:Later W5 W6:=(Ze1 _ W5).grown hgrow sZ sZ;clear e1;have e1:=(hT.blk H1.out).cell 1;simp at e1;obtain ⟨hw,Ha⟩:=zd2 hc hT;clear hc hT;clear hW hown hgrow;go_wp2_with fail;obtain ⟨wb,hwb⟩:∃wb:Zp1,wb=W5:=⟨W5,rfl⟩
 go_loopw [11,12,46] (λ_ _ i wr=>∃k:Nat,k<=n.o.length/\i=nQ iQ (k:Int)/\aQ wr W5.heap.size 22 (Ck.rk n k)/\Later W5 wr) (λ_ _ i _=>n.o.length-(intOf i).toNat)
 case atStart=>exact ⟨0,Zt _,rfl,hw.out,Ha.out⟩
 case round=>
  clear hw Ha e1;obtain ⟨wo,rfl⟩:∃wo:Zp1,wo=wr:=⟨wr,rfl⟩
  obtain ⟨k,hk,rfl,hc,hx⟩:=hrel;have Hq:=gf.out.trans hx;have gQ:=Below.size hx
  by_cases HH:k<n.o.length
  ·obtain ⟨b,off,S,sc,J,ic,Q,qc,rfl,HU,-,gP,-⟩:=HR.out.2.at_ HH
   have Hv:=Ht.out.2.2 _ (gmZ HH);have gF:=zI (Ck.pZ n HH);have gS:=Ck.rG n hk;generalize n.o[k]=v at *;obtain ⟨y0,y1,y2,y3,y4,y5,y6,y7,y8,y9⟩:=(HU.below Hq).1;have hJ:=HU.2.2.1.below Hq (lrZ _);have gN:=Hv.2.2.1;have HI:Later wo (wo.alloc (.cells #[nQ iQ v.op.kind,nQ iQ v.op.k,nQ iQ v.op.width,nQ iQ v.op.step,nQ iQ v.op.side,nQ iQ v.op.frm,nQ iQ v.op.to,sQ S v.op.s.length sc,sQ J v.ins.length ic,sQ Q v.p.length qc] 77)):=(Later.refl wo).alloc _;have H9:=hJ.below HI (lrZ _);have hL:=hc.below HI (lrZ _);have gq:=hx.trans HI;have p1:iQ.wrap ((k:Int)+1)=((k+1:Nat):Int):=by rw [Zc1 _ oZ];omega
   have p2:((k+1:Nat):Int)<((n.o.length+1:Nat):Int):=by omega
   have p3:(0:Int)<=((k+1:Nat):Int):=by omega
   have p4:((k+1:Nat):Int).toNat=k+1:=by omega
   obtain ⟨H8,hn,HK⟩:=zd3 H9 hL gq;clear H9 hL gq;clear HU hJ hc HI Hq Hv;go_wp2_with fail;clear y0 y1 y2 y3 y4 y5 y6 y7 y8 y9;generalize wo.alloc (.cells #[nQ iQ v.op.kind,nQ iQ v.op.k,nQ iQ v.op.width,nQ iQ v.op.step,nQ iQ v.op.side,nQ iQ v.op.frm,nQ iQ v.op.to,sQ S v.op.s.length sc,sQ J v.ins.length ic,sQ Q v.p.length qc] 77)=w7 at *;refine (qhq J ic v.ins _ gN H8.out).mono ?_;rintro e w8 ⟨J8,jc8,rfl,hs,HO⟩;have gl:=HK.out.trans (show Later w7 w8 from HO);have hh:=hn.out.below HO (lrZ _);obtain ⟨H5,q1,q2⟩:=qas hs;obtain ⟨S0,cc,HZ,-⟩:=hh.at_ (j:=k+1) oZ;have gV:w8.frozen? ⟨W5.heap.size,k+1,none⟩=false:=by obtain ⟨vs,_,hk,_⟩:=hh;exact hk.frozen (k+1)
   have gR:=Below.size HK.out;have gU:=hn.out.lt
   have hq:=hh.aU (i:=k+1) H5 q1 q2 (λad e=>by
    have:=(hs.lt ad.block (by rw [e];rfl)).1;omega)
   rw [gF.out] at hq;have gb:=Later.set gl (p:=⟨W5.heap.size,k+1,none⟩) (lrZ _) (sQ J8 v.ins.length jc8);obtain ⟨h3,gM⟩:=zd2 hq gb;clear hq gb;clear hs HO gl hh H5 H8 hn HK hx;go_wp2_with fail;go_roundw
   case rel=>exact ⟨k+1,by omega,by go_num,h3.out,gM.out⟩
   case measure=>simp [intOf];omega
  ·obtain rfl:k=n.o.length:=by omega
   rw [Ck.qK] at hc;have hV:=hx.blk Hx.out;have gv:=Blk.new wo 114 #[sQ (some ⟨g,0,none⟩) (n.o.length+1) (n.o.length+1),sQ (some ⟨g2,0,none⟩) (n.o.length+1) (n.o.length+1),sQ (some ⟨W5.heap.size,0,none⟩) (n.o.length+1) (n.o.length+1),sQ O n.o.length oc,nQ iQ (Nt.aI n.o),nQ iQ cap,sQ none 0 0,sQ none 0 0,sQ none 0 0,.bool false,.bool false,nQ iQ 0,nQ iQ 0,nQ iQ 0];have H7:Later wo (wo.alloc (.cells #[sQ (some ⟨g,0,none⟩) (n.o.length+1) (n.o.length+1),sQ (some ⟨g2,0,none⟩) (n.o.length+1) (n.o.length+1),sQ (some ⟨W5.heap.size,0,none⟩) (n.o.length+1) (n.o.length+1),sQ O n.o.length oc,nQ iQ (Nt.aI n.o),nQ iQ cap,sQ none 0 0,sQ none 0 0,sQ none 0 0,.bool false,.bool false,nQ iQ 0,nQ iQ 0,nQ iQ 0] 114)):=(Later.refl wo).alloc _;have gp:=hx.blk ge.out;have h1:=hx.blk Hs.out;have gw:=gB.out.below hx (lrZ _);have x0:=hV.cell 0;have x1:=hV.cell 1;simp at x0 x1;have HD:=Nt.dB hy.out;obtain ⟨hw,gr,gk,gL,HL,gJ,gC⟩:=zd7 hc gv H7 gp h1 gw Hq;clear hc gv H7 gp h1 gw Hq;clear hx hV gf H1 gB Hx ge Hs hk HH;go_wp2_with (at_make;refine wpList_make_full _ rfl _ _ 112 rfl wo.heap.size 4 i1 (.bool false) 1 underlying112 hj HS HW _ _ _ _ (n.o.length+1) rfl rfl (by first|rfl|simp|(go_simp;rfl)) (by first|rfl|simp|(go_simp;rfl)) ?c2 ?c3 ?c4 ?_)
   case c2=>rw [HV];omega
   case c3=>unfold maxLen;omega
   case c4=>simp
   intro w7 hI hf;have ho:=qam hI;rw [qae] at ho;have gA:Blk w7 (wo.heap.size+1) 4 ((Zc (n.o.length+1) false).map Value.bool).toArray:=by rw [List.map_replicate];simpa [Blk] using ho
   have hu:=gr.out.grown hf sZ;have h6:Later wo w7:=Below.grown gk.out hf sZ sZ;have y6:w7.cell? ⟨wo.heap.size,6,none⟩=some (sQ none 0 0):=hu.cell 6;have f6:=hu.frozen 6;have Hu:Blk (w7.setCell ⟨wo.heap.size,6,none⟩ (sQ (some ⟨wo.heap.size+1,0,none⟩) (n.o.length+1) (n.o.length+1))) wo.heap.size 114 #[sQ (some ⟨g,0,none⟩) (n.o.length+1) (n.o.length+1),sQ (some ⟨g2,0,none⟩) (n.o.length+1) (n.o.length+1),sQ (some ⟨W5.heap.size,0,none⟩) (n.o.length+1) (n.o.length+1),sQ O n.o.length oc,nQ iQ (Nt.aI n.o),nQ iQ cap,sQ (some ⟨wo.heap.size+1,0,none⟩) (n.o.length+1) (n.o.length+1),sQ none 0 0,sQ none 0 0,.bool false,.bool false,nQ iQ 0,nQ iQ 0,nQ iQ 0]:=hu.aU 6 _;have gt:=gA.far (p:=⟨wo.heap.size,6,none⟩) sZ (sQ (some ⟨wo.heap.size+1,0,none⟩) (n.o.length+1) (n.o.length+1));have Hn:=h6.set (p:=⟨wo.heap.size,6,none⟩) (lrZ _) (sQ (some ⟨wo.heap.size+1,0,none⟩) (n.o.length+1) (n.o.length+1));obtain ⟨hz,HQ,hY⟩:=zd3 Hu gt Hn;clear Hu gt Hn;clear hI hf ho gA hu h6 gr gk x0 x1;go_upto_region 18 with fail;generalize w7.setCell ⟨wo.heap.size,6,none⟩ (sQ (some ⟨wo.heap.size+1,0,none⟩) (n.o.length+1) (n.o.length+1))=w8 at *;clear y6 f6;have s8:=HQ.out.lt;have t8:=Below.size hY.out;have y7:w8.cell? ⟨wo.heap.size,7,none⟩=some (sQ none 0 0):=hz.out.cell 7;have f7:=hz.out.frozen 7;clear y7 f7;go_wp2_with (at_make;refine wpList_make_full _ rfl _ _ 112 rfl wo.heap.size 4 i1 (.bool false) 1 underlying112 hj HS HW _ _ _ _ (n.o.length+1) rfl rfl (by first|rfl|simp|(go_simp;rfl)) (by first|rfl|simp|(go_simp;rfl)) ?d2 ?d3 ?d4 ?_)
   case d2=>rw [HV];omega
   case d3=>unfold maxLen;omega
   case d4=>first|omega|simp
   intro w9 hC hb;have hm:=qam hC;rw [qae] at hm;have gc:Blk w9 w8.heap.size 4 ((Zc (n.o.length+1) false).map Value.bool).toArray:=by rw [List.map_replicate];simpa [Blk] using hm
   have hv:=hz.out.grown hb sZ;have H3:=HQ.out.grown hb sZ;have Ho:Later wo w9:=Below.grown hY.out hb oZ sZ;have y7:w9.cell? ⟨wo.heap.size,7,none⟩=some (sQ none 0 0):=hv.cell 7;have f7:=hv.frozen 7;have hM:Blk (w9.setCell ⟨wo.heap.size,7,none⟩ (sQ (some ⟨w8.heap.size,0,none⟩) (n.o.length+1) (n.o.length+1))) wo.heap.size 114 #[sQ (some ⟨g,0,none⟩) (n.o.length+1) (n.o.length+1),sQ (some ⟨g2,0,none⟩) (n.o.length+1) (n.o.length+1),sQ (some ⟨W5.heap.size,0,none⟩) (n.o.length+1) (n.o.length+1),sQ O n.o.length oc,nQ iQ (Nt.aI n.o),nQ iQ cap,sQ (some ⟨wo.heap.size+1,0,none⟩) (n.o.length+1) (n.o.length+1),sQ (some ⟨w8.heap.size,0,none⟩) (n.o.length+1) (n.o.length+1),sQ none 0 0,.bool false,.bool false,nQ iQ 0,nQ iQ 0,nQ iQ 0]:=hv.aU 7 _;have He:=H3.far (p:=⟨wo.heap.size,7,none⟩) sZ (sQ (some ⟨w8.heap.size,0,none⟩) (n.o.length+1) (n.o.length+1));have HB:=gc.far (p:=⟨wo.heap.size,7,none⟩) soZ (sQ (some ⟨w8.heap.size,0,none⟩) (n.o.length+1) (n.o.length+1));have hD:=Ho.set (p:=⟨wo.heap.size,7,none⟩) (lrZ _) (sQ (some ⟨w8.heap.size,0,none⟩) (n.o.length+1) (n.o.length+1));obtain ⟨hB,Hh,hX,ht⟩:=zd4 hM He HB hD;clear hM He HB hD;clear hC hb hm H3 gc hv Ho hz HQ hY;go_upto_region 19 with fail;generalize w9.setCell ⟨wo.heap.size,7,none⟩ (sQ (some ⟨w8.heap.size,0,none⟩) (n.o.length+1) (n.o.length+1))=w10 at *;clear y7 f7;have s10:=hX.out.lt;have t10:=Below.size ht.out;go_wp2_with (at_make;refine wpList_make_full _ rfl _ _ 112 rfl wo.heap.size 4 i1 (.bool false) 1 underlying112 hj HS HW _ _ _ _ (n.o.length+1) rfl rfl (by first|rfl|simp|(go_simp;rfl)) (by first|rfl|simp|(go_simp;rfl)) ?f2 ?f3 ?f4 ?_)
   case f2=>rw [HV];omega
   case f3=>unfold maxLen;omega
   case f4=>first|omega|simp
   intro w11 hp ha;have he:=qam hp;rw [qae] at he;have Hb:Blk w11 w10.heap.size 4 ((Zc (n.o.length+1) false).map Value.bool).toArray:=by rw [List.map_replicate];simpa [Blk] using he
   have hl:=hB.out.grown ha sZ;have h9:=Hh.out.grown ha sZ;have Hr:=hX.out.grown ha sZ;have hN:Later wo w11:=Below.grown ht.out ha oZ sZ;have y8:w11.cell? ⟨wo.heap.size,8,none⟩=some (sQ none 0 0):=hl.cell 8;have f8:=hl.frozen 8;have hE:Blk (w11.setCell ⟨wo.heap.size,8,none⟩ (sQ (some ⟨w10.heap.size,0,none⟩) (n.o.length+1) (n.o.length+1))) wo.heap.size 114 #[sQ (some ⟨g,0,none⟩) (n.o.length+1) (n.o.length+1),sQ (some ⟨g2,0,none⟩) (n.o.length+1) (n.o.length+1),sQ (some ⟨W5.heap.size,0,none⟩) (n.o.length+1) (n.o.length+1),sQ O n.o.length oc,nQ iQ (Nt.aI n.o),nQ iQ cap,sQ (some ⟨wo.heap.size+1,0,none⟩) (n.o.length+1) (n.o.length+1),sQ (some ⟨w8.heap.size,0,none⟩) (n.o.length+1) (n.o.length+1),sQ (some ⟨w10.heap.size,0,none⟩) (n.o.length+1) (n.o.length+1),.bool false,.bool false,nQ iQ 0,nQ iQ 0,nQ iQ 0]:=hl.aU 8 _;have Hp:=h9.far (p:=⟨wo.heap.size,8,none⟩) sZ (sQ (some ⟨w10.heap.size,0,none⟩) (n.o.length+1) (n.o.length+1));have Hk:=Hr.far (p:=⟨wo.heap.size,8,none⟩) soZ (sQ (some ⟨w10.heap.size,0,none⟩) (n.o.length+1) (n.o.length+1));have Hy:=Hb.far (p:=⟨wo.heap.size,8,none⟩) soZ (sQ (some ⟨w10.heap.size,0,none⟩) (n.o.length+1) (n.o.length+1));have hH:=hN.set (p:=⟨wo.heap.size,8,none⟩) (lrZ _) (sQ (some ⟨w10.heap.size,0,none⟩) (n.o.length+1) (n.o.length+1));obtain ⟨hr,hA,Hm,Hj,hK⟩:=zd5 hE Hp Hk Hy hH;clear hE Hp Hk Hy hH;clear hp ha he h9 Hr Hb hl hN hB Hh hX ht;go_upto_region 20 with fail;generalize w11.setCell ⟨wo.heap.size,8,none⟩ (sQ (some ⟨w10.heap.size,0,none⟩) (n.o.length+1) (n.o.length+1))=w12 at *;clear y8 f8;have y6:w12.cell? ⟨wo.heap.size,6,none⟩=some (sQ (some ⟨wo.heap.size+1,0,none⟩) (n.o.length+1) (n.o.length+1)):=hr.out.cell 6
   have z0:w12.cell? ⟨wo.heap.size+1,0,none⟩=some (.bool false):=by rw [hA.out.cell];simp
   have f0:=hA.out.frozen 0;have hU:=hA.out.aU 0 (.bool true);rw [qaE] at hU;have hF:=hr.out.far (p:=⟨wo.heap.size+1,0,none⟩) sZ (.bool true);have Hf:=Hm.out.far (p:=⟨wo.heap.size+1,0,none⟩) soZ (.bool true);have Hd:=Hj.out.far (p:=⟨wo.heap.size+1,0,none⟩) soZ (.bool true);have hP:=hK.out.set (p:=⟨wo.heap.size+1,0,none⟩) sZ (.bool true);have q0:(0:Int)<((n.o.length+1:Nat):Int):=by omega
   obtain ⟨HP,h7,HX,HM,hQ⟩:=zd5 hU hF Hf Hd hP;clear hU hF Hf Hd hP;clear hA hr Hm Hj hK;go_wp2_with fail
   go_ret2
   refine ⟨.inr ⟨hy.out,⟨some ⟨g,0,none⟩,some ⟨g2,0,none⟩,some ⟨W5.heap.size,0,none⟩,O,n.o.length+1,n.o.length+1,n.o.length+1,oc,wo.heap.size,wo.heap.size+1,w8.heap.size,w10.heap.size⟩,wo,?_,gC.out,rfl,?_⟩,gC.out.trans hQ.out⟩
   ·exact ⟨Ck.qH hy.out Ht.out hcap,qhr _ gL.out,qhr _ HL.out,hw.out.nJ,gJ.out,lrZ _,by simp,by simp;omega,by simp;omega,by show (Nt.words n).length<=n.o.length+1;omega⟩
   ·have gI:(Nt.aD n).length=n.o.length+1:=by rw [Nt.aD,List.length_cons,Nt.bJ]
    have gO:(Nt.sO n.o).length=n.o.length:=(Nt.aK hy.out).2.2.2.2.1;refine ⟨hQ.out,?_,HP.out,HX.out,HM.out,?_,?_,?_⟩
    ·have:=h7.out
     unfold CkA.cells Ck.base Ck.start;simp only [HD,gI,gO,List.length_cons,List.length_map];exact this
    ·show ((Zc (n.o.length+1) false).set 0 true).length=(Nt.words n).length
     rw [HD];simp
    ·show (Zc (n.o.length+1) false).length=(Nt.words n).length
     rw [HD];simp
    ·show (Zc (n.o.length+1) false).length=(Nt.words n).length
     rw [HD];simp
namespace Rw
open Rt
theorem base_net {n:aA} (h:Nt.check n=0) (cap:Int):Net (Ck.base n cap) (n.o.length+1):=by
 obtain ⟨_,ha,_,_,hl,_,hb,_⟩:=Nt.aK h;refine ⟨Nt.dB h,λz=>?_,by omega,λid h1 h2 i hi=>?_⟩
 ·show 0<=(Nt.words n).getD z.toNat 0/\(Nt.words n).getD z.toNat 0<=65536
  rw [gdZ];rcases Nat.lt_or_ge z.toNat (Nt.words n).length with q|q
  ·rw [geZ q]
   have:=Nt.iD h _ (gmZ q);rw [Option.getD_some];omega
  ·rw [Zi q];simp
 ·have hI:Ck.iF (Ck.base n cap) id=Nt.iF n.o id:=by
   show ([]::n.o.map (·.ins)).getD id.toNat []=_
   obtain ⟨m,rfl⟩:∃m:Nat,id=((m+1:Nat):Int):=⟨id.toNat-1,by omega⟩
   rw [tnZ,gdZ,List.getElem?_cons_succ,List.getElem?_map,geZ oZ,Nt.iF,Int.natCast_succ,Nt.dH oZ]
   rfl
  rw [hI] at hi;exact (iZ h).rng id h1 h2 i hi
theorem base_ord {n:aA} (h:Nt.check n=0) (cap:Int):Ord (Ck.base n cap) (n.o.length+1) (Nt.iF n.o) (oV n) (Nt.sO n.o):=by
 obtain ⟨_,hh,_,_,hl,_,hg,_⟩:=Nt.aK h;obtain ⟨_,l1,l2⟩:=Nt.dD hg;have he:(Nt.sO n.o).Nodup:=(Kn.go_ok _ _ _).nodup
 have hd:∀k,k<(Nt.sO n.o).length->∀i∈Nt.iF n.o ((Nt.sO n.o).getD k 0),i=0∨i∈(Nt.sO n.o).take k:=λk hk i hi=>by
  rw [Rt.get_at hk] at hi;refine Kn.eY (Nt.iF n.o) n.o.length (a:=(Nt.sO n.o).take k) (b:=(Nt.sO n.o).drop (k+1)) (u:=(Nt.sO n.o)[k]) ?_ i hi;rw [←Zd hk,Zn]
  rfl
 refine ⟨λid=>?_,rfl,bY,λu u1 u2=>(Kn.bM hl u).2 ⟨u1,by omega⟩,he,iZ h,hd,⟨l1,by show Nt.aI n.o<_;omega⟩,λk hk=>?_⟩
 ·by_cases q:1<=id/\id<((n.o.length+1:Nat):Int)
  ·left
   show ([]::n.o.map (·.ins)).getD id.toNat []=_
   obtain ⟨m,rfl⟩:∃m:Nat,id=((m+1:Nat):Int):=⟨id.toNat-1,by omega⟩
   rw [tnZ,gdZ,List.getElem?_cons_succ,List.getElem?_map,geZ oZ,Nt.iF,Int.natCast_succ,Nt.dH oZ]
   rfl
  ·exact .inr q
 ·by_cases e:(Nt.sO n.o).getD k 0=Nt.aI n.o
  ·exact .inl e
  ·right
   have hr:=bY (n:=n) _ (gmZ hk);rw [Rt.get_at hk] at e ⊢;obtain ⟨j,hj,hc⟩:=qcr h hr.1 oZ e;have ha:=hd j hj _ (by simpa using hc)
   have hm:k<j:=by
    rcases ha with ha|ha
    ·omega
    ·obtain ⟨i,hi,hb⟩:=List.getElem_of_mem ha
     rw [List.getElem_take] at hb;rw [Zo] at hi;have hf:=List.pairwise_iff_getElem.1 he;rcases Nat.lt_trichotomy i k with q|q|q
     ·exact absurd hb (hf i k _ hk q)
     ·omega
     ·exact absurd hb.symm (hf k i hk _ q)
   refine iC.2 ⟨(Nt.sO n.o)[j],?_,?_⟩
   ·rw [List.mem_iff_getElem]
    exact ⟨j-(k+1),by rw [Zq];omega,by rw [List.getElem_drop];congr 1;omega⟩
   ·rw [Rt.get_at hj] at hc;simpa using hc
theorem rank_lt {n:aA} (h:Nt.check n=0) (u:Int) (h1:1<=u) (h2:u<((n.o.length+1:Nat):Int)):oV n u<n.o.length+1:=by
 obtain ⟨_,_,_,_,hl,_⟩:=Nt.aK h;have:=List.idxOf_lt_length_of_mem ((Kn.bM hl u).2 ⟨h1,by omega⟩);unfold oV;have e:(Nt.sO n.o).length=n.o.length:=hl;unfold Nt.sO at e ⊢;omega
theorem qhs {n:aA} (cap:Int):Inv (Ck.base n cap) (n.o.length+1) (Rt.start (n.o.length+1)) (Ck.start (n.o.length+1)):=by
 refine ⟨by simp [Rt.start],rfl,by simp [Ck.start],by simp [Ck.start],by simp [Rt.start,Ck.at_],by simp [Ck.start,Rt.start],by simp [Ck.start,Rt.start],λ_ _=>rfl,rfl,λp hp=>by cases hp⟩
theorem qeo {n:aA} (h:Nt.check n=0) (keep:List Int) (cap:Int):∃t,Inv (Ck.base n cap) (n.o.length+1) (lW n keep) t/\t.em=true/\t.done=(Nt.sO n.o).length:=by
 have hN:=base_net h cap;have hO:=base_ord h cap;obtain ⟨_,_,_,_,hl,_,hb,_⟩:=Nt.aK h;obtain ⟨_,l1,l2⟩:=Nt.dD hb;have ha:Nt.aI n.o∈Nt.sO n.o:=(Kn.bM hl _).2 ⟨l1,by omega⟩
 obtain ⟨t1,i1,a1,a2,a3,a4,a5,a6⟩:=qho hN hO (f:=fT n keep) (N:=n.o.length) oZ (qhs cap) rfl (λk z hf=>by
  unfold fT at hf;rw [Zz,Zz,qbv] at hf;refine ⟨of_decide_eq_true hf.2.1,?_⟩;have:=hf.2.2;simpa using this) _ (lrZ _)
 rw [Zg] at a5 a6;obtain ⟨t2,i2,b1,b2,b3,b4,b5⟩:=i1.emit hN oZ (a6 _ ha (.inl rfl)) (by rw [a2];rfl);obtain ⟨t3,i3,c1,c2,c3,c4,c5⟩:=i2.drop hN (id:=Nt.aI n.o) l1 oZ (a6 _ ha (.inl rfl));obtain ⟨t4,i4,d1,d2,d3,d4⟩:=i3.seed hN oZ (by rw [c5,b5,a4];rfl)
 obtain ⟨t5,i5,_,e2,e3,_⟩:=qhp hN hO (b:=bT n keep) (M:=n.o.length+1) (N:=n.o.length) oZ (rank_lt h) i4 (λz z0 z1=>by
   rw [d1,c1,b1,a5 z oZ z1];exact hO.all z z0 z1) (by rw [d3,c3,b3]) (by rw [d4,c4,b4,a3];rfl) (by
   rw [d2,dU.dM i3.aL (by show 0<=Nt.aI n.o;omega) (by show Nt.aI n.o<_;omega) (by show 0<=Nt.aI n.o;omega),ipZ rfl]) _ (lrZ _)
 exact ⟨t5,i5,e2,e3⟩
def one (ps:List (Int × Int)):List Int:=(ps.filter λp=>p.1==1).map (·.2)
theorem qaU (ps:List (Int × Int)) (k id:Int):one (ps++[(k,id)])=if k=1 then one ps++[id] else one ps:=by
 unfold one;rw [List.filter_append,List.map_append]
 by_cases e:k=1<;>simp [e]
theorem qbB (f:Int->Bool) (s:RtS):∀m,one (Rt.aN f m s).code=one s.code
 | 0=>rfl
 | m+1=>by
  rw [qaA]
  split
  ·rw [show (Rt.drop ((m:Int)+1) (Rt.aN f m s)).code=(Rt.aN f m s).code++[(3,(m:Int)+1)] from rfl,qaU,inZ dZ,qbB f s m]
  ·exact qbB f s m
theorem qep {I:Int->List Int}:∀(m:Nat) (id:Int) (s:RtS),one (Rt.fetch I m id s).code=one s.code
 | 0,_,_=>rfl
 | m+1,id,s=>by
  rw [dW]
  split
  ·rfl
  ·have fold:∀(l:List Int) (s:RtS),one (l.foldl (λs i=>Rt.fetch I m i s) s).code=one s.code:=by
    intro l
    induction l with
    | nil=>intro s;rfl
    | cons i l ih=>intro s;rw [List.foldl_cons,ih,qep m i s]
   rw [show ∀s:RtS,(Rt.comp 2 id s).code=s.code++[(2,id)] from λ_=>rfl,qaU,inZ dZ,fold]
theorem qcS {I:Int->List Int} (m:Nat):∀(l:List Int) (s:RtS),one (l.foldl (λs i=>Rt.fetch I m i s) s).code=one s.code
 | [],_=>rfl
 | i::l,s=>by rw [List.foldl_cons,qcS m l,qep m i s]
theorem qht {order:List Int} {N:Nat} {f:Nat->Int->Bool} {s:RtS} (h:one s.code=[]):∀k,k<=order.length->one (Rt.fwd order N f k s).code=order.take k
 | 0,_=>h
 | k+1,hk=>by
  have ha:k<order.length:=by omega
  rw [show Rt.fwd order N f (k+1) s=Rt.aN (f k) N (Rt.comp 1 (order.getD k 0) (Rt.fwd order N f k s)) from rfl,qbB,show ∀(s:RtS) (id:Int),(Rt.comp 1 id s).code=s.code++[(1,id)] from λ_ _=>rfl,qaU,ipZ rfl,qht h k oZ,Rt.get_at ha,Zb ha]
theorem qhu {I:Int->List Int} {order:List Int} {M N:Nat} {b:Nat->Int->Bool} {s:RtS}:∀k,one (Rt.bwd I order M N b k s).code=one s.code
 | 0=>rfl
 | k+1=>by
  rw [show Rt.bwd I order M N b (k+1) s=Rt.aN (b (order.length-k)) N (Rt.add 6 (order.getD (order.length-1-k) 0) ((I (order.getD (order.length-1-k) 0)).foldl (λs i=>Rt.fetch I M i s) (Rt.bwd I order M N b k s))) from rfl,qbB,show ∀(s:RtS) (id:Int),(Rt.add 6 id s).code=s.code++[(6,id)] from λ_ _=>rfl,qaU,inZ dZ,qcS,qhu k]
theorem qf8 (n:aA) (keep:List Int):one (lW n keep).code=Nt.sO n.o:=by
 unfold lW Rt.lower;rw [qhu,show ∀s:RtS,(Rt.add 5 0 s).code=s.code++[(5,0)] from λ_=>rfl,qaU,inZ dZ,show ∀(s:RtS) (id:Int),(Rt.drop id s).code=s.code++[(3,id)] from λ_ _=>rfl,qaU,inZ dZ,show ∀s:RtS,(Rt.add 4 0 s).code=s.code++[(4,0)] from λ_=>rfl,qaU,inZ dZ,qht rfl _ (lrZ _),Zg]
theorem qfG {cost:List Int} (hc:∀k,0<=cost.getD k 0):∀ps:List (Int × Int),Safe.sum ((one ps).map λi=>cost.getD i.toNat 0)<=Safe.sum (Cd.aM cost ps)/\(Cd.count 2 ps=0->Safe.sum ((one ps).map λi=>cost.getD i.toNat 0)=Safe.sum (Cd.aM cost ps))
 | []=>⟨by simp [one,Cd.aM],λ_=>by simp [one,Cd.aM]⟩
 | p::r=>by
  obtain ⟨i1,i2⟩:=qfG hc r;have hb:=Cd.qQ 2 r;have hd:=hc p.2.toNat
  have ha:Cd.count 2 (p::r)=(if p.1==2 then 1 else 0)+Cd.count 2 r:=by
   have:=Cd.count_append 2 [p] r;rw [List.singleton_append] at this;rw [this];simp [Cd.count]
  rw [ha];unfold one Cd.aM at i1 i2 ⊢;rw [List.filter_cons,List.filter_cons];have hk:Cd.kL p=decide (p.1=1∨p.1=2):=by unfold Cd.kL;rw [Bool.eq_iff_iff];simp
  rw [hk];rw [gdZ] at hd
  by_cases e1:p.1=1
  ·simp [e1,Safe.sum] at i1 i2 ⊢
   refine ⟨by omega,λq=>?_⟩;have:=i2 q;omega
  ·by_cases e2:p.1=2
   ·simp [e2,Safe.sum] at i1 i2 ⊢
    refine ⟨by omega,λq=>?_⟩;omega
   ·simp [e1,e2] at i1 i2 ⊢
    exact ⟨i1,i2⟩
theorem sum_perm {a b:List Int} (h:a.Perm b):Safe.sum a=Safe.sum b:=by
 induction h with
 | nil=>rfl
 | cons x _ ih=>simp [Safe.sum,ih]
 | swap x y l=>simp [Safe.sum];omega
 | trans _ _ ih1 ih2=>rw [ih1,ih2]
theorem qgf {n:aA} (h:Nt.check n=0):Safe.sum ((Nt.sO n.o).map λi=>(Nt.aD n).getD i.toNat 0)=Safe.sum (Nt.aD n):=by
 obtain ⟨_,_,_,_,hl,_⟩:=Nt.aK h
 have hp:(Nt.sO n.o).Perm (Kn.ids n.o.length):=by
  refine (List.perm_ext_iff_of_nodup (Kn.go_ok _ _ _).nodup (Kn.pM _)).2 λu=>?_
  show u∈Kn.order (Nt.iF n.o) n.o.length↔_
  rw [Kn.bM hl u];unfold Kn.ids;rw [List.mem_map]
  constructor
  ·intro q
   exact ⟨u.toNat-1,by rw [List.mem_range];omega,by omega⟩
  ·rintro ⟨i,hi,rfl⟩
   rw [List.mem_range] at hi;omega
 rw [sum_perm (hp.map _)];unfold Nt.aD;rw [Safe.sum,Int.zero_add]
 congr 1
 unfold Kn.ids;rw [List.map_map];refine List.ext_getElem (by simp [Nt.bJ]) λi h1 h2=>?_
 rw [List.getElem_map,List.getElem_range];simp only [Function.comp];rw [gdZ,tnZ,List.getElem?_cons_succ,geZ h2]
 rfl
end Rw
namespace Rt
def uR (n:aA) (keep:List Int) (k:Nat):RtD:=qh0 (Nt.sO n.o) n.o.length (gT n keep) k ⟨[],[]⟩
def uL (n:aA) (keep:List Int):RtD:=oQ 5 0 (qgZ (Nt.aI n.o) (oQ 4 0 (uR n keep (Nt.sO n.o).length)))
def uK (n:aA) (keep:List Int) (k:Nat):RtD:=qft (Nt.iF n.o) (Nt.sO n.o) (n.o.length+1) n.o.length (dT n keep) k (uL n keep)
theorem qhv {n:aA} (keep:List Int) {k:Nat} (hk:k<=(Nt.sO n.o).length):Rel (n.o.length+1) (eH n keep k) (uR n keep k):=
 (Rel.fwd (L:=n.o.length+1) (N:=n.o.length) (f:=fT n keep) (g:=gT n keep) oZ bY (Kn.go_ok (Nt.iF n.o) n.o.length n.o.length).nodup (iM n) rfl oZ (λk hk z z1 z2 _=>by unfold fT gT;rw [qbv]) k hk).1
theorem qhw {n:aA} (h:Nt.check n=0) (keep:List Int):Rel (n.o.length+1) (jP n keep) (uL n keep):=by
 obtain ⟨_,_,_,_,hl,_,ha,_⟩:=Nt.aK h;obtain ⟨_,l1,l2⟩:=Nt.dD ha;exact ((((qhv keep (lrZ _)).add 4 0).drop (id:=Nt.aI n.o) l1 oZ).add 5 0)
theorem qeq {n:aA} (h:Nt.check n=0) (keep:List Int) {k:Nat} (hk:k<=(Nt.sO n.o).length):Rel (n.o.length+1) (dV n keep k) (uK n keep k):=by
 refine (Rel.bwd (iZ h) (M:=n.o.length+1) (N:=n.o.length) (b:=bT n keep) (g:=dT n keep) oZ bY (qhw h keep) (λp p1 p2 z z1 z2 hz=>?_) k hk).1;unfold bT dT
 rw [qbI _ _ _ p1 p2 (qcr h z1 z2 (λe=>by
  subst e;rcases hz with hz|⟨u,hu⟩
  ·have:=(List.mem_filter.1 hz).2;simp at this
  ·exact iO h u hu))]
end Rt
namespace Rw
open Rt
theorem qf9 {n:aA} (h:Nt.check n=0):(Nt.sO n.o).length=n.o.length:=(Nt.aK h).2.2.2.2.1
def rk (ps:List (Int × Int)):Nat:=(ps.filter Cd.kL).length
theorem qbl (ps:List (Int × Int)) (k id:Int):rk (ps++[(k,id)])=rk ps+if k=1∨k=2 then 1 else 0:=by
 unfold rk;rw [List.filter_append,Ze]
 congr 1
 have hk:Cd.kL (k,id)=decide (k=1∨k=2):=by unfold Cd.kL;rw [Bool.eq_iff_iff];simp
 rw [List.filter_cons,hk]
 by_cases e:k=1∨k=2
 ·rw [ipZ e,ipZ (by simpa using e)];rfl
 ·rw [inZ e,inZ (by simpa using e)];rfl
theorem qcv (f:Int->Bool) (s:RtS):∀m,rk (Rt.aN f m s).code=rk s.code
 | 0=>rfl
 | m+1=>by
  rw [qaA]
  split
  ·rw [show (Rt.drop ((m:Int)+1) (Rt.aN f m s)).code=(Rt.aN f m s).code++[(3,(m:Int)+1)] from rfl,qbl,inZ dZ,qcv f s m];rfl
  ·exact qcv f s m
theorem qfH {I:Int->List Int}:∀(m:Nat) (id:Int) (s:RtS),rk (Rt.fetch I m id s).code+s.code.length<=rk s.code+(Rt.fetch I m id s).code.length
 | 0,_,_=>lrZ _
 | m+1,id,s=>by
  rw [dW]
  split
  ·exact lrZ _
  ·have fold:∀(l:List Int) (s:RtS),rk (l.foldl (λs i=>Rt.fetch I m i s) s).code+s.code.length<=rk s.code+(l.foldl (λs i=>Rt.fetch I m i s) s).code.length:=by
    intro l
    induction l with
    | nil=>intro s;exact lrZ _
    | cons i l ih=>intro s;have:=ih (Rt.fetch I m i s);have:=qfH (I:=I) m i s;rw [List.foldl_cons];omega
   have:=fold (I id) s;rw [show ∀s:RtS,(Rt.comp 2 id s).code=s.code++[(2,id)] from λ_=>rfl,qbl,ipZ (.inr rfl),Ze];simp only [List.length_cons,List.length_nil];omega
theorem qdp {I:Int->List Int} (m:Nat):∀(l:List Int) (s:RtS),rk (l.foldl (λs i=>Rt.fetch I m i s) s).code+s.code.length<=rk s.code+(l.foldl (λs i=>Rt.fetch I m i s) s).code.length
 | [],_=>lrZ _
 | i::l,s=>by have:=qdp (I:=I) m l (Rt.fetch I m i s);have:=qfH (I:=I) m i s;rw [List.foldl_cons];omega
theorem tO (n:aA) (keep:List Int):∀k,rk (eH n keep k).code=k
 | 0=>rfl
 | k+1=>by
  rw [show eH n keep (k+1)=Rt.aN (fT n keep k) n.o.length (Rt.comp 1 ((Nt.sO n.o).getD k 0) (eH n keep k)) from rfl,qcv,show ∀(s:RtS) (id:Int),(Rt.comp 1 id s).code=s.code++[(1,id)] from λ_ _=>rfl,qbl,ipZ (.inl rfl),tO n keep k]
theorem tX {n:aA} (h:Nt.check n=0) (keep:List Int):∀k,k<=(Nt.sO n.o).length->rk (dV n keep k).code<=(Nt.sO n.o).length+k*(n.o.length+1)
 | 0,_=>by
  have e:rk (jP n keep).code=rk (eH n keep (Nt.sO n.o).length).code:=by
   unfold jP;rw [show ∀s:RtS,(Rt.add 5 0 s).code=s.code++[(5,0)] from λ_=>rfl,qbl,inZ dZ,show ∀(s:RtS) (id:Int),(Rt.drop id s).code=s.code++[(3,id)] from λ_ _=>rfl,qbl,inZ dZ,show ∀s:RtS,(Rt.add 4 0 s).code=s.code++[(4,0)] from λ_=>rfl,qbl,inZ dZ]
   rfl
  rw [tO] at e
  show rk (jP n keep).code<=_
  omega
 | k+1,hk=>by
  have ih:=tX h keep k oZ;have hr:=qeq h keep (k:=k) oZ;have ha:(Nt.sO n.o).length-1-k<(Nt.sO n.o).length:=by omega
  have hu:=bY (n:=n) _ (gmZ ha);rw [show dV n keep (k+1)=Rt.aN (bT n keep ((Nt.sO n.o).length-k)) n.o.length (Rt.add 6 ((Nt.sO n.o).getD ((Nt.sO n.o).length-1-k) 0) ((Nt.iF n.o ((Nt.sO n.o).getD ((Nt.sO n.o).length-1-k) 0)).foldl (λs i=>Rt.fetch (Nt.iF n.o) (n.o.length+1) i s) (dV n keep k))) from rfl,qcv,show ∀(s:RtS) (id:Int),(Rt.add 6 id s).code=s.code++[(6,id)] from λ_ _=>rfl,qbl,inZ dZ,Rt.get_at ha];generalize (Nt.sO n.o)[(Nt.sO n.o).length-1-k]=u at *;have h2:=qdp (I:=Nt.iF n.o) (n.o.length+1) (Nt.iF n.o u) (dV n keep k);have hf:=Rel.nE (iZ h) (n.o.length+1) (Nt.iF n.o u) hr (λi hi=>(iZ h).rng u hu.1 hu.2 i hi);have c1:=qcF (I:=Nt.iF n.o) (n.o.length+1) (Nt.iF n.o u) (uK n keep k);have c3:=hf.oO;rw [←hf.code,←hr.code] at c1;have hm:(k+1)*(n.o.length+1)=k*(n.o.length+1)+(n.o.length+1):=by rw [Nat.add_mul];omega
  omega
theorem qgg {n:aA} (h:Nt.check n=0) (h12:n.o.length<=12) (keep:List Int):rk (lW n keep).code<=168:=by
 have hl:=qf9 h;have h1:=tX h keep _ (lrZ _);rw [jB];rw [hl] at h1 ⊢;have:=Nat.mul_le_mul h12 (show n.o.length+1<=13 by omega);omega
theorem qaM {l:List (Int × Int)} {x:Int × Int} (h:l.head? = some x) (y:Int × Int):(l++[y]).head? = some x:=by
 cases l with
 | nil=>cases h
 | cons a r=>exact h
theorem qaS {x:Int × Int} {f:Int->Bool} {s:RtS} (h:s.code.head? = some x):∀m,(Rt.aN f m s).code.head? = some x
 | 0=>h
 | m+1=>by
  rw [qaA]
  split
  ·exact qaM (qaS h m) _
  ·exact qaS h m
theorem qdq {x:Int × Int} {I:Int->List Int}:∀(m:Nat) (id:Int) (s:RtS),s.code.head? = some x->(Rt.fetch I m id s).code.head? = some x
 | 0,_,_,h=>h
 | m+1,id,s,h=>by
  rw [dW]
  split
  ·exact h
  ·have fold:∀(l:List Int) (s:RtS),s.code.head? = some x->(l.foldl (λs i=>Rt.fetch I m i s) s).code.head? = some x:=by
    intro l
    induction l with
    | nil=>intro s h;exact h
    | cons i l ih=>intro s h;exact ih _ (qdq m i s h)
   exact qaM (fold _ _ h) _
theorem qcb {x:Int × Int} {I:Int->List Int} (m:Nat):∀(l:List Int) (s:RtS),s.code.head? = some x->(l.foldl (λs i=>Rt.fetch I m i s) s).code.head? = some x
 | [],_,h=>h
 | i::l,s,h=>qcb m l _ (qdq m i s h)
theorem qfI (n:aA) (keep:List Int):∀k,(eH n keep (k+1)).code.head? = some (1,(Nt.sO n.o).getD 0 0)
 | 0=>qaS (s:=Rt.comp 1 ((Nt.sO n.o).getD 0 0) (eH n keep 0)) rfl _
 | k+1=>qaS (s:=Rt.comp 1 ((Nt.sO n.o).getD (k+1) 0) (eH n keep (k+1))) (qaM (qfI n keep k) _) _
theorem qer {n:aA} (h:Nt.check n=0) (keep:List Int):(lW n keep).code.head? = some (1,(Nt.sO n.o).getD 0 0):=by
 obtain ⟨h1,_⟩:=Nt.aK h;have hl:=qf9 h
 have hm:(jP n keep).code.head? = some (1,(Nt.sO n.o).getD 0 0):=by
  unfold jP;obtain ⟨m,hm⟩:∃m,(Nt.sO n.o).length=m+1:=⟨(Nt.sO n.o).length-1,by omega⟩
  rw [hm];exact qaM (qaM (qaM (qfI n keep m) _) _) _
 have hb:∀k,(dV n keep k).code.head? = some (1,(Nt.sO n.o).getD 0 0):=by
  intro k
  induction k with
  | zero=>exact hm
  | succ k ih=>exact qaS (s:=Rt.add 6 ((Nt.sO n.o).getD ((Nt.sO n.o).length-1-k) 0) ((Nt.iF n.o ((Nt.sO n.o).getD ((Nt.sO n.o).length-1-k) 0)).foldl (λs i=>Rt.fetch (Nt.iF n.o) (n.o.length+1) i s) (dV n keep k))) (qaM (qcb _ _ _ ih) _) _
 exact hb _
theorem qbc (ps:List (Int × Int)) (k id:Int) (h:k≠2):Cd.count 2 (ps++[(k,id)])=Cd.count 2 ps:=by
 rw [Cd.count_append];simp [Cd.count,h]
theorem qbC (f:Int->Bool) (s:RtS):∀m,Cd.count 2 (Rt.aN f m s).code=Cd.count 2 s.code
 | 0=>rfl
 | m+1=>by
  rw [qaA]
  split
  ·rw [show (Rt.drop ((m:Int)+1) (Rt.aN f m s)).code=(Rt.aN f m s).code++[(3,(m:Int)+1)] from rfl,qbc _ _ _ dZ,qbC f s m]
  ·exact qbC f s m
theorem qdr {I:Int->List Int} (m:Nat):∀(l:List Int) (s:RtS),(∀i∈l,Ck.at_ s.aC i=true)->l.foldl (λs i=>Rt.fetch I m i s) s=s
 | [],_,_=>rfl
 | i::l,s,h=>by
  have e:Rt.fetch I m i s=s:=by
   cases m with
   | zero=>rfl
   | succ m=>rw [dW,ipZ (h i sZ)]
  rw [List.foldl_cons,e];exact qdr m l s λj hj=>h j (by simp [hj])
theorem qhx {n:aA} (h:Nt.check n=0) {keep:List Int} (hk:∀z:Int,1<=z->z<=n.o.length->keep.contains z=true):∀k,k<=(Nt.sO n.o).length->
  (eH n keep k).aC.length=n.o.length+1/\Cd.count 2 (eH n keep k).code=0/\Ck.at_ (eH n keep k).aC 0=true/\∀z∈(Nt.sO n.o).take k,Ck.at_ (eH n keep k).aC z=true
 | 0,_=>⟨by simp [eH,Rt.fwd,Rt.start],rfl,by simp [eH,Rt.fwd,Rt.start,Ck.at_],λz hz=>by simp at hz⟩
 | k+1,hk1=>by
  obtain ⟨a1,a2,a3,a4⟩:=qhx h hk k oZ;have ha:k<(Nt.sO n.o).length:=by omega
  have hu:=bY (n:=n) _ (gmZ ha);have ht:=Zb ha;have hf:∀z:Int,1<=z->z<=n.o.length->fT n keep k z=false:=λz z0 z1=>by unfold fT;rw [hk z z0 z1];rfl
  rw [show eH n keep (k+1)=Rt.aN (fT n keep k) n.o.length (Rt.comp 1 ((Nt.sO n.o).getD k 0) (eH n keep k)) from rfl,Rt.get_at ha,qba,qbC];generalize eH n keep k=s at *;have hb:(Rt.comp 1 (Nt.sO n.o)[k] s).aC.length=n.o.length+1:=dQ a1 _ _;have hc:Ck.at_ (Rt.comp 1 (Nt.sO n.o)[k] s).aC 0=true:=qel a3;refine ⟨hb,?_,qaR hc _,λz hz=>?_⟩
  ·rw [show ∀(s:RtS) (id:Int),(Rt.comp 1 id s).code=s.code++[(1,id)] from λ_ _=>rfl,qbc _ _ _ dZ,a2]
  ·have hd:=bY (n:=n) z (Zh hz)
   refine qbb (L:=n.o.length+1) hb oZ (hf z hd.1 oZ) ?_ _ oZ
   show Ck.at_ (Ck.bD s.aC (Nt.sO n.o)[k] true) z=true
   rw [dU.dM a1 oZ hu.2 oZ]
   by_cases e:z=(Nt.sO n.o)[k]
   ·rw [ipZ e]
   ·rw [inZ e]
    rw [ht,List.mem_append] at hz;exact a4 z (hz.resolve_right (by simp [e]))
theorem qhy {n:aA} (h:Nt.check n=0) {keep:List Int} (hk:∀z:Int,1<=z->z<=n.o.length->keep.contains z=true):∀k,k<=(Nt.sO n.o).length->
  (dV n keep k).aC.length=n.o.length+1/\Cd.count 2 (dV n keep k).code=0/\Ck.at_ (dV n keep k).aC 0=true/\∀q,q<(Nt.sO n.o).length-k->∀i∈Nt.iF n.o ((Nt.sO n.o).getD q 0),Ck.at_ (dV n keep k).aC i=true
 | 0,_=>by
  obtain ⟨_,_,_,_,hl,_,hd,_⟩:=Nt.aK h;obtain ⟨_,l1,l2⟩:=Nt.dD hd;obtain ⟨a1,a2,a3,a4⟩:=qhx h hk _ (lrZ _);rw [Zg] at a4
  show (jP n keep).aC.length=_/\Cd.count 2 (jP n keep).code=0/\Ck.at_ (jP n keep).aC 0=true/\∀q,q<(Nt.sO n.o).length-0->∀i∈Nt.iF n.o ((Nt.sO n.o).getD q 0),Ck.at_ (jP n keep).aC i=true
  unfold jP;generalize eH n keep (Nt.sO n.o).length=s at *;refine ⟨dQ a1 _ _,?_,qdC a1 a3 l1 oZ _,λq hq i hi=>?_⟩
  ·rw [show ∀s:RtS,(Rt.add 5 0 s).code=s.code++[(5,0)] from λ_=>rfl,qbc _ _ _ dZ,show ∀(s:RtS) (id:Int),(Rt.drop id s).code=s.code++[(3,id)] from λ_ _=>rfl,qbc _ _ _ dZ,show ∀s:RtS,(Rt.add 4 0 s).code=s.code++[(4,0)] from λ_=>rfl,qbc _ _ _ dZ,a2]
  ·have hr:=bY (n:=n) _ (gmZ (show q<(Nt.sO n.o).length by omega))
   rw [Rt.get_at (show q<(Nt.sO n.o).length by omega)] at hi;have hb:=(iZ h).rng _ hr.1 hr.2 i hi
   show Ck.at_ (Ck.bD s.aC (Nt.aI n.o) false) i=true
   rw [dU.dM a1 oZ oZ hb.1,inZ (λe=>iO h _ (e▸hi))]
   by_cases e:i=0
   ·rw [e];exact a3
   ·exact a4 i ((Kn.bM hl i).2 ⟨by omega,by omega⟩)
 | k+1,hk1=>by
  obtain ⟨_,_,_,_,hl,_,hd,_⟩:=Nt.aK h;obtain ⟨a1,a2,a3,a4⟩:=qhy h hk k oZ;have hg:(Nt.sO n.o).length-1-k<(Nt.sO n.o).length:=by omega
  rw [show dV n keep (k+1)=Rt.aN (bT n keep ((Nt.sO n.o).length-k)) n.o.length (Rt.add 6 ((Nt.sO n.o).getD ((Nt.sO n.o).length-1-k) 0) ((Nt.iF n.o ((Nt.sO n.o).getD ((Nt.sO n.o).length-1-k) 0)).foldl (λs i=>Rt.fetch (Nt.iF n.o) (n.o.length+1) i s) (dV n keep k))) from rfl,qdr _ _ _ (a4 _ oZ),qba,qbC];generalize dV n keep k=s at *;generalize (Nt.sO n.o).getD ((Nt.sO n.o).length-1-k) 0=u;have he:Ck.at_ (Rt.add 6 u s).aC 0=true:=a3;refine ⟨a1,?_,qaR he _,λq hq i hi=>?_⟩
  ·rw [show ∀(s:RtS) (id:Int),(Rt.add 6 id s).code=s.code++[(6,id)] from λ_ _=>rfl,qbc _ _ _ dZ,a2]
  ·have hc:q<(Nt.sO n.o).length:=by omega
   have ha:=hi;have hr:=bY (n:=n) _ (gmZ hc);rw [Rt.get_at hc] at ha;have hb:=(iZ h).rng _ hr.1 hr.2 i ha
   by_cases e:i=0
   ·rw [e];exact qaR he _
   ·refine qbb (s:=Rt.add 6 u s) (L:=n.o.length+1) a1 hb.1 ?_ (a4 q oZ i hi) n.o.length oZ
    have hf:i≠Nt.aI n.o:=λe=>iO h _ (e▸ha)
    unfold bT;rw [hk i oZ oZ,qbI _ _ _ oZ oZ (qcr h oZ oZ hf)]
    have:pend (Nt.iF n.o) i ((Nt.sO n.o).take ((Nt.sO n.o).length-k-1))=true:=by
     refine iC.2 ⟨(Nt.sO n.o)[q],?_,ha⟩;rw [List.mem_iff_getElem];exact ⟨q,by rw [Zo];omega,by rw [List.getElem_take]⟩
    rw [this]
    rfl
theorem mV {n:aA} (h:Nt.check n=0) (h12:n.o.length<=12) (keep:List Int):∃aB cost again high:Int,Ck.run n (lW n keep).code 1073741824=((aB,cost,again,high),0)/\1<=aB/\aB<=1073741824/\Safe.sum (Nt.aD n)<=cost/\
  (Ck.run n (lW n keep).code (aB-1)).2=25/\((∀z:Int,1<=z->z<=n.o.length->keep.contains z=true)->cost=Safe.sum (Nt.aD n)/\again=0):=by
 have hl:=qf9 h;have hd:=iV h h12 keep _ (lrZ _);rw [←jB] at hd;obtain ⟨t,i,e1,e2⟩:=qeo h keep 1073741824;have hq:=qgg h h12 keep;have hi:=qer h keep;have hf:=qf8 n keep;obtain ⟨n1,_⟩:=Nt.aK h;have hh:(∀z:Int,1<=z->z<=n.o.length->keep.contains z=true)->Cd.count 2 (lW n keep).code=0:=λhk=>(qhy h hk _ (lrZ _)).2.1
 have hj:=i.go;have hb:=i.right;have he:=i.ids;clear i;generalize (lW n keep).code=cd at *;have hm:=Nat.mul_le_mul (show n.o.length+1<=13 by omega) hd
 have hB:(65536*((n.o.length+1:Nat):Int)*(cd.length:Int))<=1073741824:=by
  rw [Int.mul_assoc,←Int.natCast_mul];omega
 have g:Ck.go (Ck.base n 1073741824) (Ck.start (n.o.length+1)) cd=(t,0):=hj _ hB;obtain ⟨_,_,p3,p4⟩:=Ck.jL (Ck.base n 1073741824) (t.aB-1) cd (Ck.start (n.o.length+1)) (by rw [g]);rw [g] at p3 p4;have q4:t.aB<=1073741824:=p4 (show (0:Int)<=1073741824 by decide)
 have q1:1<=t.aB:=by
  cases cd with
  | nil=>cases hi
  | cons x r=>
   have hx:x=(1,(Nt.sO n.o).getD 0 0):=by simpa using hi
   have hu:=bY (n:=n) _ (gmZ (show 0<(Nt.sO n.o).length by omega));rw [Rt.get_at (show 0<(Nt.sO n.o).length by omega)] at hx;generalize (Nt.sO n.o)[0]=u at hx hu;subst hx
   have hy:1<=Ck.wd (Ck.base n 1073741824) u:=by
    show 1<=(Nt.words n).getD u.toNat 0
    have hv:=Nt.dB h;rw [gdZ,geZ oZ,Option.getD_some];exact (Nt.iD h _ (gmZ _)).1
   simp only [Ck.go] at g
   split at g
   ·rename_i h0
    obtain ⟨p1,_⟩:=Ck.jL (Ck.base n 1073741824) 0 r _ (by rw [g]);rw [g] at p1;unfold Ck.do_ at h0 p1
    split at h0
    ·simp at h0
    ·rename_i c1
     rw [inZ c1] at p1
     split at h0
     ·simp at h0
     ·rename_i c2
      rw [inZ c2] at p1
      split at h0
      ·simp at h0
      ·rename_i c3
       rw [inZ c3] at p1;simp only [Ck.kY] at p1;have ho:Ck.more (Ck.base n 1073741824) (Ck.start (n.o.length+1)) 1 u=Ck.wd (Ck.base n 1073741824) u:=by unfold Ck.more;rw [ipZ (.inl rfl)]
       rw [ho] at p1;have hr:(Ck.start (n.o.length+1)).now=0:=rfl;rw [hr] at p1;omega
   ·rename_i h0
    rw [g] at h0;exact absurd rfl h0
 have q3:=p3 (show (0:Int)<=t.aB-1 by omega) (show t.aB-1<t.aB by omega);have ha:=Cd.aK (ps:=cd) oZ hb;have ht:(Nt.aD n).length=n.o.length+1:=by rw [Nt.aD,List.length_cons,Nt.bJ]
 have hg:∀k,0<=(Nt.aD n).getD k 0/\(Nt.aD n).getD k 0<=4294967296:=λk=>by
  rw [gdZ];rcases Nat.lt_or_ge k (Nt.aD n).length with hl|hl
  ·rw [geZ hl,Option.getD_some]
   rcases List.mem_cons.1 (gmZ hl) with e|hm
   ·rw [e];omega
   ·exact Nt.lS h n.o.length (lrZ _) _ hm
  ·rw [Zi hl];simp
 have hw:=Nt.jI (B:=4294967296) (l:=Cd.aM (Nt.aD n) cd) (λz hz=>by
  unfold Cd.aM at hz;obtain ⟨p,_,rfl⟩:=List.mem_map.1 hz;exact hg _)
 have hC:(Cd.aM (Nt.aD n) cd).length<=168:=by unfold Cd.aM;rw [List.length_map];exact hq
 have hs:((Cd.aM (Nt.aD n) cd).length:Int)*4294967296<=168*4294967296:=Int.mul_le_mul_of_nonneg_right oZ oZ
 have hn:=Cd.mH (ps:=cd) (cost:=Nt.aD n) ha (by
  rw [Zf];intro p hp;have hA:=he p hp;have h1:=hg p.2.toNat;have h2:Safe.ok ((Nt.aD n).getD p.2.toNat 0)=true:=by rw [Safe.jF];omega
  unfold Cd.fine Cd.kQ;rw [h2,decide_eq_true oZ];simp) (by rw [Safe.jU];omega)
 obtain ⟨o1,o2⟩:=qfG (cost:=Nt.aD n) (λk=>(hg k).1) cd;rw [hf,qgf h] at o1 o2
 have hc:Ck.whole (Ck.base n 1073741824) t=true:=by
  unfold Ck.whole;rw [e1,e2]
  show (true&&decide ((Nt.sO n.o).length=(Nt.sO n.o).length))=true
  simp
 refine ⟨t.aB,Safe.sum (Cd.aM (Nt.aD n) cd),Cd.count 2 cd,max t.aB (Safe.max ((Nt.words n).drop 1)),?_,q1,q4,o1,?_,λhk=>?_⟩
 ·unfold Ck.run
  rw [inZ (by simp [h]),inZ (by simp [ha]),g,inZ sZ,inZ (by rw [hc];decide),hn,inZ sZ]
 ·have q3':(Ck.go (Ck.base n (t.aB-1)) (Ck.start (n.o.length+1)) cd).2=25:=q3
  unfold Ck.run;rw [inZ (by simp [h]),inZ (by simp [ha]),ipZ (by rw [q3'];decide),q3']
 ·have:=hh hk
  exact ⟨(o2 this).symm,this⟩
end Rw
open Go.ChangeShapes Go.WideShapes Go.Deep Go.RowKit
section
variable {H:Type} {enc:TypeId × Value->H} {P:Program} {w:Zp1} {base:Nat} {spare:Nat->Bool} {held:Bool}
end
theorem qhz {w:Zp1} {a:Addr} {v:Value} (h:w.cell? (a.add 0)=some v):∃b off,a=⟨b,off,none⟩:=by
 obtain ⟨b,off,spot⟩:=a;have hs:spot=none:=by simpa [Addr.add] using World.cell?_spot h
 subst hs;exact ⟨b,off,rfl⟩
theorem qbU (b off j:Nat):(⟨b,off,none⟩:Addr).add j=⟨b,off+j,none⟩:=by
 unfold Addr.add;split<;>simp_all
section
variable {H:Type} {enc:TypeId × Value->H} {P:Program} {w:Zp1} {base:Nat} {spare:Nat->Bool} {held:Bool}
theorem qhA {t e:TypeId} {k:IntKind} {fuel:Nat} {v:Value} {x:DataW H × List MemPlace} (ht:P.underlying t=some (.slice e)) (he:P.underlying e=some (.int k)) (hc:P.cellsOf e=1) (h:DataW.trod enc P w base spare held fuel t [v]=some x):
  ∃A cap zs,v=sQ A zs.length cap/\zs.length<=9223372036854775807/\zs.length<=cap/\Ints k w A zs/\∀n∈zs,(Lit.int k n).wf=true:=by
 rcases open_ints ht he hc h with ⟨hb,_⟩|⟨a,len,cap,zs,hb,_,hl,hm,hz,_,ha,hh⟩
 ·simp at hb;subst hb
  exact ⟨none,0,[],rfl,by simp,by simp,Ints.nil,by simp⟩
 ·simp at hb;subst hb
  have hi:len<=zs.length:=by rw [hz];split<;>omega
  have hf:(zs.take len).length=len:=by rw [Zo];omega
  refine ⟨some a,cap,zs.take len,by rw [hf],by rw [hf];unfold maxLen at hm;omega,by omega,λj hj=>?_,λn hn=>hh n (Zh hn)⟩;have hg:j<len:=by omega
  obtain ⟨b,off,rfl⟩:=qhz (w:=w) (a:=a) (v:=.int k (zs.getD 0 0)) (ha 0 oZ);have hd:=ha j oZ;rw [qbU] at hd;refine ⟨b,off,rfl,Zj1 _ _ hd,?_⟩;rw [hd];have e:(zs.take len).getD j 0=zs.getD j 0:=by simp [hg]
  rw [e]
end
namespace Ck
theorem qF {c:CkN} (h:∀z∈c.words,0<=z) (z:Int):0<=wd c z:=by
 unfold wd;rw [gdZ];rcases Nat.lt_or_ge z.toNat c.words.length with hl|hl
 ·rw [geZ hl]
  exact h _ (gmZ hl)
 ·rw [Zi hl]
  exact Int.le_refl _
theorem qhB {c:CkN} (h:∀z∈c.words,0<=z):∀l:List Int,0<=fH c l
 | []=>by simp [fH]
 | x::r=>by
  have h1:=qF h x;have h2:=qhB h r;simp only [fH,List.map_cons,List.sum_cons] at h2 ⊢;omega
theorem qfJ {c:CkN} (h:∀z∈c.words,0<=z) (s:CkS) (k id:Int):0<=more c s k id:=by
 unfold more
 repeat' split
 ·exact qF h _
 ·exact qF h _
 ·exact qhB h _
 ·exact Int.le_refl _
theorem go_less {c:CkN} (h:∀z∈c.words,0<=z) (i:Int × Int) (r:List (Int × Int)) (s:CkS) (hn:s.now=0) (hp:s.aB=0) (hg:(go c s (i::r)).2=0):
  (go (cp c ((go c s (i::r)).1.aB-1)) s (i::r)).2=25:=by
 have hd:(do_ c s i.1 i.2).2=0:=by
  simp only [go] at hg
  split at hg
  ·assumption
  ·rename_i h0;exact absurd hg h0
 have e:go c s (i::r)=go c (do_ c s i.1 i.2).1 r:=by simp only [go];rw [ipZ hd]
 rw [e] at hg ⊢;have hq:=hd;unfold do_ at hq
 split at hq
 ·simp at hq
 ·rename_i h1
  split at hq
  ·simp at hq
  ·rename_i h2
   split at hq
   ·simp at hq
   ·rename_i h3
    have ea:do_ c s i.1 i.2=(act c s i.1 i.2 (s.now+more c s i.1 i.2),0):=by unfold do_;rw [inZ h1,inZ h2,inZ h3]
    have hm:=qfJ h s i.1 i.2;rw [ea] at hg ⊢;generalize hP:(go c (act c s i.1 i.2 (s.now+more c s i.1 i.2),(0:Int)).1 r).1.aB=P at *
    by_cases hb:P-1<s.now+more c s i.1 i.2
    ·have ha:do_ (cp c (P-1)) s i.1 i.2=(s,25):=by
      rw [pN,inZ h1,inZ h2,ipZ hb]
     simp only [go];rw [ha,inZ sZ]
    ·have ha:do_ (cp c (P-1)) s i.1 i.2=(act c s i.1 i.2 (s.now+more c s i.1 i.2),0):=by
      rw [pN,inZ h1,inZ h2,inZ hb]
     simp only [go];rw [ha,ipZ rfl];obtain ⟨_,_,i3,_⟩:=jL c (P-1) r _ hg;rw [kY] at i3;exact i3 oZ oZ
theorem qhC (n:aA) (a b:Int):base n b=cp (base n a) b:=rfl
theorem oC {n:aA} {ps:List (Int × Int)} {cap:Int} (hc:0<=cap) (h:(run n ps cap).2=0):
  (run n ps cap).1.1<=cap/\0<=(run n ps cap).1.1/\(∀b,(run n ps cap).1.1<=b->run n ps b=run n ps cap)/\(run n ps ((run n ps cap).1.1-1)).2=25:=by
 have hr:=h;unfold run at hr
 split at hr
 ·rename_i h0;exact absurd hr h0
 rename_i h0
 split at hr
 ·rename_i h1;exact absurd hr h1
 rename_i h1
 split at hr
 ·rename_i h2;exact absurd hr h2
 rename_i h2
 split at hr
 ·simp at hr
 rename_i h3
 split at hr
 ·rename_i h4;exact absurd hr h4
 rename_i h4
 have e:run n ps cap=(((go (base n cap) (start (n.o.length+1)) ps).1.aB,(Cd.aD ps (Nt.aD n)).1,Cd.count 2 ps,max (go (base n cap) (start (n.o.length+1)) ps).1.aB (Safe.max ((Nt.words n).drop 1))),0):=by
  unfold run;rw [inZ h0,inZ h1,inZ h2,inZ h3,inZ h4]
 have hd:(go (base n cap) (start (n.o.length+1)) ps).2=0:=by simpa using h2
 have he:Nt.check n=0:=by simpa using h0
 obtain ⟨g1,_,_,g4⟩:=jL (base n cap) 0 ps _ hd;have g4:=g4 hc;have g1:0<=(go (base n cap) (start (n.o.length+1)) ps).1.aB:=g1;rw [e];refine ⟨g4,g1,λb hb=>?_,?_⟩
 ·have hf:=(jL (base n cap) b ps _ hd).2.1 hb
  unfold run;rw [qhC n cap b,hf,inZ h0,inZ h1,inZ h2];have hw:whole (cp (base n cap) b) (go (base n cap) (start (n.o.length+1)) ps).1=whole (base n cap) (go (base n cap) (start (n.o.length+1)) ps).1:=rfl;rw [hw,inZ h3,inZ h4]
 ·have ha:∀z∈(base n cap).words,0<=z:=λz hz=>by have:=Nt.iD he z hz;omega
  match ps,h1,hd,h3,ha with
  | [],_,_,h3,_=>simp [go,whole,start] at h3
  | i::r,h1,hd,_,ha=>
   have hl:=go_less ha i r (start (n.o.length+1)) rfl rfl hd
   show (run n (i::r) ((go (base n cap) (start (n.o.length+1)) (i::r)).1.aB-1)).2=25
   generalize (go (base n cap) (start (n.o.length+1)) (i::r)).1.aB-1=b at *;unfold run;rw [qhC n cap b,inZ h0,inZ h1,ipZ (by rw [hl];decide)];exact hl
end Ck
structure POk (c:CkN):Prop where
 w:∀z∈c.words,1<=z
 aI:1<=c.aI/\c.aI<c.words.length
 ins:∀id:Int,0<=id->id<c.words.length->∀i∈Ck.iF c id,0<=i/\i<c.words.length
structure mD (c:CkN) (s:CkS) (x:RfS):Prop where
 there:dU c.words.length s.aC x.there
 saved:dU c.words.length s.sav x.saved
 aZ:dU c.words.length s.aL x.aZ
 sub:∀z∈x.there,z=0∨z∈x.saved
 gz:(0:Int)∉x.aZ
 em:x.em=if s.em then 1 else 0
 sd:x.sd=if s.sd then 1 else 0
 none_:s.sd=false->x.aZ=[]
 done:x.done=s.done
 dl:s.done<=c.order.length
 now:s.now=Rf.sum c x
 aB:s.aB=x.aB
 np:s.now<=s.aB
 cap:0<s.now->s.now<=c.cap
namespace Rf
variable {c:CkN} {s:CkS} {x:RfS}
theorem lH {l:List Int} {y z:Int}:z∈with_ l y↔z∈l∨z=y:=by
 unfold with_
 split
 ·rename_i h
  have:y∈l:=by simpa using h
  exact ⟨.inl,λh=>h.elim id λe=>e▸this⟩
 ·simp
theorem mU {l:List Int} {y z:Int}:z∈without l y↔z∈l/\z≠y:=by
 unfold without;simp
theorem wd_one (hc:POk c) {z:Int} (h0:0<=z) (h1:z<c.words.length):1<=Ck.wd c z:=by
 unfold Ck.wd;have:z.toNat<c.words.length:=by omega
 rw [gdZ,geZ this];exact hc.w _ (gmZ this)
theorem sN (hc:POk c) (z:Int):0<=Ck.wd c z:=Ck.qF (λz hz=>by have:=hc.w z hz;omega) z
theorem tw_nn (hc:POk c) (z:Int):0<=tw c z:=by
 unfold tw
 split
 ·exact Int.le_refl _
 ·exact sN hc z
theorem qfK {z:Int} (h:z≠0):tw c z=Ck.wd c z:=by unfold tw;rw [inZ h]
theorem qbD {k id:Int} (h:Cd.right (k,id)=true) (h4:k≠4) (h5:k≠5):1<=id:=by
 unfold Cd.right at h;simp [h4,h5] at h;exact h.2.1
theorem qhD {k id:Int} (h:Cd.right (k,id)=true):0<=id/\(k=1∨k=2∨k=3∨k=4∨k=5∨k=6):=by
 obtain ⟨h1,h2,h3,-⟩:=Cd.jQ h;simp only at h1 h2 h3;omega
theorem qgh (hc:POk c) (hP:mD c s x) {id:Int} (h0:0<=id) (hid:id<c.words.length):Ck.ready c s id=ready c x id:=by
 have:∀l:List Int,(∀i∈l,0<=i/\i<c.words.length)->(l.all λi=>Ck.at_ s.aC i)=l.all λi=>x.there.contains i:=by
  intro l
  induction l with
  | nil=>intro _;rfl
  | cons a r ih=>intro h;rw [List.all_cons,List.all_cons,ih (λi hi=>h i (by simp [hi])),hP.there.at_ (h a sZ).1 (h a sZ).2]
 exact this _ (hc.ins id h0 hid)
theorem qes (hP:mD c s x) (id:Int):Ck.back c s id=back c x id:=by
 unfold Ck.back back;rw [hP.done,Bool.eq_iff_iff];simp only [decide_eq_true_eq,Zz]
 by_cases hd:s.done<c.order.length
 ·have a1:((c.order.length:Int)-1-(s.done:Int)).toNat=c.order.length-1-s.done:=by omega
  rw [a1];exact ⟨λh=>⟨by omega,h.2⟩,λh=>⟨hd,h.2⟩⟩
 ·exact ⟨λh=>absurd h.1 hd,λh=>absurd h.1 oZ⟩
theorem qgi (hc:POk c) (hP:mD c s x) {k id:Int} (hr:Cd.right (k,id)=true) (hid:id<c.words.length):Ck.dA c s k id=dA c x k id:=by
 obtain ⟨h0,hk⟩:=qhD hr;have e1:=hP.saved.at_ h0 hid;have e2:=hP.there.at_ h0 hid;have e3:=hP.aZ.at_ h0 hid;have e4:=qgh hc hP h0 hid;have e5:=qes hP id
 have ha:id≠0->x.saved.contains id=false->x.there.contains id=false:=λhz h=>by
  rw [Bool.eq_false_iff] at h ⊢;intro ht;rcases hP.sub id (by simpa using ht) with e|e
  ·exact hz e
  ·exact h (by simpa using e)
 rcases hk with rfl|rfl|rfl|rfl|rfl|rfl
 ·have hz:=qbD hr dZ dZ
  show (!Ck.at_ s.sav id&&Ck.ready c s id)=((x.saved.contains id==false)&&(!x.there.contains id&&ready c x id))
  rw [e1,e4];cases hb:x.saved.contains id
  ·rw [ha oZ hb];simp
  ·simp
 ·show (Ck.at_ s.sav id&&(!Ck.at_ s.aC id&&Ck.ready c s id))=((x.saved.contains id==true)&&(!x.there.contains id&&ready c x id))
  rw [e1,e2,e4];cases x.saved.contains id<;>simp
 ·show Ck.at_ s.aC id=x.there.contains id
  exact e2
 ·show (Ck.at_ s.aC c.aI&&!s.em)=(x.there.contains c.aI&&!decide (x.em=1))
  rw [hP.there.at_ (by have:=hc.aI.1;omega) hc.aI.2,hP.em];cases s.em<;>simp
 ·show (!s.sd) = !decide (x.sd=1)
  rw [hP.sd];cases s.sd<;>simp
 ·show (Ck.at_ s.aL id&&(Ck.ready c s id&&Ck.back c s id))=(x.aZ.contains id&&(ready c x id&&back c x id))
  rw [e3,e4,e5]
theorem act_same (hc:POk c) (hP:mD c s x) {k id:Int} (hr:Cd.right (k,id)=true) (hid:id<c.words.length) (hl:dA c x k id=true):
  (c.cap<s.now+Ck.more c s k id↔c.cap<sum c (step c x k id))/\(s.now+Ck.more c s k id<=c.cap->mD c (Ck.act c s k id (s.now+Ck.more c s k id)) (fin c (step c x k id) k id)):=by
 obtain ⟨h0,hk⟩:=qhD hr;have hj:=hP.now;unfold sum at hj;have mx:∀a b n:Int,a=b->max a n=if b<n then n else b:=λa b n e=>by subst e;split<;>omega
 have k12:(k=1∨k=2)->(c.cap<s.now+Ck.more c s k id↔c.cap<sum c (step c x k id))/\(s.now+Ck.more c s k id<=c.cap->mD c (Ck.act c s k id (s.now+Ck.more c s k id)) (fin c (step c x k id) k id)):=λhn=>by
  have hz:1<=id:=qbD hr oZ oZ;have hw:=sN hc id
  have hp:id∉x.there:=by
   unfold dA at hl;rw [ipZ hn] at hl;simp at hl;exact hl.2.1
  have em:Ck.more c s k id=Ck.wd c id:=by unfold Ck.more;rw [ipZ hn]
  have es:step c x k id={ x with there:=with_ x.there id,saved:=with_ x.saved id }:=by unfold step;rw [ipZ hn]
  have esum:sum c (step c x k id)=s.now+Ck.wd c id:=by
   rw [es]
   show bW (tw c) (with_ x.there id)+bW (Ck.wd c) x.aZ=_
   rw [qbt _ hp,qfK oZ];omega
  have ea:∀n,Ck.act c s k id n={ s with aC:=Ck.bD s.aC id true,sav:=Ck.bD s.sav id true,now:=n,aB:=max s.aB n }:=λn=>by unfold Ck.act;rw [ipZ hn]
  have ef:fin c (step c x k id) k id={ x with there:=with_ x.there id,saved:=with_ x.saved id,aB:=if x.aB<s.now+Ck.wd c id then s.now+Ck.wd c id else x.aB }:=by
   unfold fin;rw [esum,es,inZ oZ]
  rw [em,esum];refine ⟨Iff.rfl,λha=>?_⟩;rw [ea,ef];refine ⟨hP.there.with_ h0 hid,hP.saved.with_ h0 hid,hP.aZ,λz hh=>?_,hP.gz,hP.em,hP.sd,hP.none_,hP.done,hP.dl,?_,?_,?_,λ_=>ha⟩
  ·rcases lH.1 hh with h|h
   ·rcases hP.sub z h with e|e
    ·exact .inl e
    ·exact .inr (lH.2 (.inl e))
   ·exact .inr (lH.2 (.inr h))
  ·show s.now+Ck.wd c id=bW (tw c) (with_ x.there id)+bW (Ck.wd c) x.aZ
   rw [qbt _ hp,qfK oZ];omega
  ·exact mx _ _ _ hP.aB
  ·show s.now+Ck.wd c id<=max s.aB (s.now+Ck.wd c id)
   omega
 rcases hk with rfl|rfl|rfl|rfl|rfl|rfl
 ·exact k12 (.inl rfl)
 ·exact k12 (.inr rfl)
 ·have hz:1<=id:=qbD hr dZ dZ
  have hb:id∈x.there:=by
   have:x.there.contains id=true:=hl;simpa using this
  have hw:=wd_one hc h0 hid;have h1:=sumF_one (tw_nn hc) hb;have h2:=qeO (sN hc) x.aZ;rw [qfK oZ] at h1;have ha:=hP.cap oZ;have hu:=hP.np;have e1:bW (tw c) (without x.there id)=bW (tw c) x.there-Ck.wd c id:=by rw [qb0 _ hP.there.nod hb,qfK oZ]
  have esum:sum c (step c x 3 id)=s.now-Ck.wd c id:=by
   show bW (tw c) (without x.there id)+bW (Ck.wd c) x.aZ=_
   omega
  have em:Ck.more c s 3 id=0:=rfl;rw [em,esum];refine ⟨⟨λh=>by omega,λh=>by omega⟩,λ_=>?_⟩;have ea:Ck.act c s 3 id (s.now+0)={ s with aC:=Ck.bD s.aC id false,now:=s.now+0-Ck.wd c id,aB:=max s.aB (s.now+0) }:=rfl;have ef:fin c (step c x 3 id) 3 id={ x with there:=without x.there id,aB:=if x.aB<sum c (step c x 3 id) then sum c (step c x 3 id) else x.aB }:=rfl;rw [ea,ef,esum];refine ⟨hP.there.without h0 hid,hP.saved,hP.aZ,λz hh=>hP.sub z (mU.1 hh).1,hP.gz,hP.em,hP.sd,hP.none_,hP.done,hP.dl,?_,?_,?_,λ_=>?_⟩
  ·show s.now+0-Ck.wd c id=bW (tw c) (without x.there id)+bW (Ck.wd c) x.aZ
   omega
  ·show max s.aB (s.now+0)=if x.aB<s.now-Ck.wd c id then s.now-Ck.wd c id else x.aB
   have:=hP.aB;rw [inZ oZ];omega
  ·show s.now+0-Ck.wd c id<=max s.aB (s.now+0)
   omega
  ·show s.now+0-Ck.wd c id<=c.cap
   omega
 ·have em:Ck.more c s 4 id=0:=rfl
  have esum:sum c (step c x 4 id)=s.now:=by rw [hP.now];rfl
  have ef:fin c (step c x 4 id) 4 id={ x with em:=1,aB:=if x.aB<sum c (step c x 4 id) then sum c (step c x 4 id) else x.aB }:=rfl;rw [em,ef,esum,Int.add_zero];refine ⟨Iff.rfl,λha=>?_⟩;exact ⟨hP.there,hP.saved,hP.aZ,hP.sub,hP.gz,rfl,hP.sd,hP.none_,hP.done,hP.dl,hP.now,mx _ _ _ hP.aB,show s.now<=max s.aB s.now by omega,λ_=>ha⟩
 ·have hm:s.sd=false:=by
   have:(!decide (x.sd=1))=true:=hl;rw [hP.sd] at this;cases h:s.sd
   ·rfl
   ·rw [h] at this;simp at this
  have hg:=hP.none_ hm;have em:Ck.more c s 5 id=Ck.wd c c.aI:=rfl;have hq:c.aI∉x.aZ:=by rw [hg];simp
  have esum:sum c (step c x 5 id)=s.now+Ck.wd c c.aI:=by
   show bW (tw c) x.there+bW (Ck.wd c) (with_ x.aZ c.aI)=_
   rw [qbt _ hq];omega
  have ea:∀n,Ck.act c s 5 id n={ s with sd:=true,aL:=Ck.bD s.aL c.aI true,now:=n,aB:=max s.aB n }:=λn=>rfl
  have ef:fin c (step c x 5 id) 5 id={ x with sd:=1,aZ:=with_ x.aZ c.aI,aB:=if x.aB<sum c (step c x 5 id) then sum c (step c x 5 id) else x.aB }:=rfl;have hs:0<=c.aI:=by have:=hc.aI.1;omega
  rw [em,ea,ef,esum];refine ⟨Iff.rfl,λha=>?_⟩;refine ⟨hP.there,hP.saved,hP.aZ.with_ hs hc.aI.2,hP.sub,λhz=>?_,hP.em,rfl,(λh=>by cases h),hP.done,hP.dl,?_,mx _ _ _ hP.aB,show s.now+Ck.wd c c.aI<=max s.aB (s.now+Ck.wd c c.aI) by omega,λ_=>ha⟩
  ·rcases lH.1 hz with h|h
   ·exact hP.gz h
   ·have:=hc.aI.1;omega
  ·show s.now+Ck.wd c c.aI=bW (tw c) x.there+bW (Ck.wd c) (with_ x.aZ c.aI)
   rw [qbt _ hq];omega
 ·have hz:1<=id:=qbD hr dZ dZ
  have ho:(x.aZ.contains id&&(ready c x id&&back c x id))=true:=hl;rw [Zz,Zz] at ho;obtain ⟨g1,-,g3⟩:=ho;have hb:id∈x.aZ:=by simpa using g1
  have hv:s.done<c.order.length:=by
   rw [←qes hP id] at g3;unfold Ck.back at g3;simp only [decide_eq_true_eq] at g3;exact g3.1
  have hm:s.sd=true:=by
   cases h:s.sd
   ·rw [hP.none_ h] at hb;cases hb
   ·rfl
  have hi:=hc.ins id h0 hid;have he:=qbu hP.aZ (Ck.iF c id) [] hi;have hd:=iG hP.aZ (Ck.iF c id) [] hi List.nodup_nil (λz h=>by cases h);rw [List.append_nil] at he;have ht:Ck.aX s.aL [] (Ck.iF c id)=Ck.fresh c s id:=rfl;rw [ht] at he hd;have hL:=dU.sets (Ck.fresh c s id) hP.aZ hd.1 (λz h=>⟨(hd.2 z h).1,(hd.2 z h).2.1⟩);have em:Ck.more c s 6 id=bW (Ck.wd c) (Ck.fresh c s id):=rfl
  have esum:sum c (step c x 6 id)=s.now+bW (Ck.wd c) (Ck.fresh c s id):=by
   show bW (tw c) x.there+bW (Ck.wd c) (gr x.aZ (Ck.iF c id))=_
   rw [he,qfs];omega
  have ea:∀n,Ck.act c s 6 id n={ s with aL:=Ck.bD (Ck.sets s.aL (Ck.fresh c s id)) id false,now:=n-Ck.wd c id,aB:=max s.aB n,done:=s.done+1 }:=λn=>rfl
  have ef:fin c (step c x 6 id) 6 id={ x with aZ:=without (gr x.aZ (Ck.iF c id)) id,done:=x.done+1,aB:=if x.aB<sum c (step c x 6 id) then sum c (step c x 6 id) else x.aB }:=rfl;rw [em,ea,ef,esum,he];have hf:id∈x.aZ++Ck.fresh c s id:=by simp [hb]
  have hw:=sN hc id;refine ⟨Iff.rfl,λha=>?_⟩;refine ⟨hP.there,hP.saved,hL.without h0 hid,hP.sub,λhx=>?_,hP.em,hP.sd,(λh=>by rw [hm] at h;cases h),?_,?_,?_,mx _ _ _ hP.aB,?_,λ_=>?_⟩
  ·rcases List.mem_append.1 (mU.1 hx).1 with h|h
   ·exact hP.gz h
   ·exact (hd.2 0 h).2.2 rfl
  ·show x.done+1=((s.done+1:Nat):Int)
   rw [hP.done];omega
  ·show s.done+1<=c.order.length
   omega
  ·show s.now+bW (Ck.wd c) (Ck.fresh c s id)-Ck.wd c id=bW (tw c) x.there+bW (Ck.wd c) (without (x.aZ++Ck.fresh c s id) id)
   rw [qb0 _ hL.nod hf,qfs];omega
  ·show s.now+bW (Ck.wd c) (Ck.fresh c s id)-Ck.wd c id<=max s.aB (s.now+bW (Ck.wd c) (Ck.fresh c s id))
   omega
  ·show s.now+bW (Ck.wd c) (Ck.fresh c s id)-Ck.wd c id<=c.cap
   omega
theorem do_same (hc:POk c) (hP:mD c s x) {k id:Int} (hr:Cd.right (k,id)=true):(Ck.do_ c s k id).2=(do_ c x k id).2/\mD c (Ck.do_ c s k id).1 (do_ c x k id).1:=by
 unfold Ck.do_ do_
 by_cases hd:(c.words.length:Int)<=id
 ·rw [ipZ (.inr hd),ipZ hd];exact ⟨rfl,hP⟩
 have hb:id<c.words.length:=by omega
 rw [inZ (by rw [hr];simp;omega),inZ hd,qgi hc hP hr hb];cases hl:dA c x k id
 ·simp;exact hP
 rw [inZ (show ¬(true=false) by decide),inZ (show ¬(true=false) by decide)];obtain ⟨h1,h2⟩:=act_same hc hP hr hb hl
 by_cases ha:c.cap<s.now+Ck.more c s k id
 ·rw [ipZ ha,ipZ (h1.1 ha)];exact ⟨rfl,hP⟩
 ·rw [inZ ha,inZ (λh=>ha (h1.2 h))];exact ⟨rfl,h2 oZ⟩
theorem sJ (hc:POk c):∀ {ps:List (Int × Int)} {s:CkS} {x:RfS},mD c s x->ps.all Cd.right=true->(Ck.go c s ps).2=(go c x ps).2/\mD c (Ck.go c s ps).1 (go c x ps).1
 | [],s,x,hP,_=>⟨rfl,hP⟩
 | i::r,s,x,hP,ha=>by
  rw [List.all_cons,Zz] at ha;obtain ⟨h1,h2⟩:=do_same hc hP (k:=i.1) (id:=i.2) ha.1;unfold Ck.go go;rw [←h1]
  by_cases he:(Ck.do_ c s i.1 i.2).2=0
  ·rw [ipZ he,ipZ he];exact sJ hc h2 ha.2
  ·rw [inZ he,inZ he];exact ⟨h1,h2⟩
theorem lY (c:CkN) (x:RfS) (a:List (Int × Int)) (i:Int × Int) (h:(go c x a).2=0):go c x (a++[i])=do_ c (go c x a).1 i.1 i.2:=by
 induction a generalizing x with
 | nil=>
  simp only [List.nil_append,go]
  split
  ·rename_i h0;rw [←h0]
  ·rfl
 | cons y r ih=>
  simp only [List.cons_append,go] at h ⊢
  split
  ·rename_i h0;rw [ipZ h0] at h;exact ih _ h
  ·rename_i h0;rw [inZ h0] at h;exact absurd h h0
theorem qI (c:CkN) (x:RfS) (a b:List (Int × Int)) (h:(go c x a).2≠0):go c x (a++b)=go c x a:=by
 induction a generalizing x with
 | nil=>exact absurd rfl h
 | cons y r ih=>
  simp only [List.cons_append,go] at h ⊢
  split
  ·rename_i h0;rw [ipZ h0] at h;exact ih _ h
  ·rfl
theorem iM (hc:POk c) (hn:1<=c.words.length):mD c (Ck.start c.words.length) start:=by
 have ha:∀z:Int,Ck.at_ (Zc c.words.length false) z=false:=λz=>by
  unfold Ck.at_;rw [gdZ];rcases Nat.lt_or_ge z.toNat c.words.length with h|h
  ·simp [h]
  ·simp [h]
 have he:dU c.words.length (Zc c.words.length false) []:=⟨by simp,(λz h=>by cases h),List.nodup_nil,(λz _ _=>by rw [ha];simp)⟩
 have h0:=he.put (z:=0) oZ oZ sZ;refine ⟨h0,he,he,λz hz=>?_,by simp [start],rfl,rfl,λ_=>rfl,rfl,Zt _,rfl,rfl,Int.le_refl _,λh=>?_⟩
 ·exact .inl (by simpa [start] using hz)
 ·exact absurd h (by simp [Ck.start])
end Rf
structure RfF where
 A:Option Addr
 N:Option Addr
 Wd:Option Addr
 Or:Option Addr
 c:Nat
 d:Nat
 cw:Nat
 co:Nat
structure RfV where
 Th:Option Addr
 Sa:Option Addr
 Gr:Option Addr
 ct:Nat
 cs:Nat
 cg:Nat
def RfF.cells (F:RfF) (V:RfV) (n:aA) (c:CkN) (x:RfS):Array Value:=
 #[sQ F.A n.inn.length F.c,sQ F.N n.o.length F.d,sQ F.Wd c.words.length F.cw,sQ F.Or c.order.length F.co,nQ iQ c.aI,nQ iQ c.cap,sQ V.Th x.there.length V.ct,sQ V.Sa x.saved.length V.cs,sQ V.Gr x.aZ.length V.cg,nQ iQ x.em,nQ iQ x.sd,nQ iQ x.done,nQ iQ x.aB]
structure RfF.Fix (F:RfF) (n:aA) (c:CkN) (w:Zp1):Prop where
 net:bH w F.A F.N n
 words:Ints iQ w F.Wd c.words
 ord:Ints iQ w F.Or c.order
structure RfV.At (V:RfV) (x:RfS) (w:Zp1):Prop where
 there:Ints iQ w V.Th x.there
 saved:Ints iQ w V.Sa x.saved
 aZ:Ints iQ w V.Gr x.aZ
theorem RfF.Fix.later {F:RfF} {n:aA} {c:CkN} {w w':Zp1} (h:F.Fix n c w) (hl:Later w w'):F.Fix n c w':=⟨h.net.below hl (lrZ _),h.words.below hl (lrZ _),h.ord.below hl (lrZ _)⟩
theorem RfV.At.later {V:RfV} {x:RfS} {w w':Zp1} (h:V.At x w) (hl:Later w w'):V.At x w':=⟨h.there.below hl (lrZ _),h.saved.below hl (lrZ _),h.aZ.below hl (lrZ _)⟩
structure RfC (n:aA) (c:CkN):Prop where
 ok:n.ok
 nl:n.o.length<=512
 wl:c.words.length=n.o.length+1
 w:∀z∈c.words,1<=z/\z<=65536
 ins:∀k (h:k<n.o.length),Ck.iF c ((k+1:Nat):Int)=n.o[k].ins
 rng:∀k (h:k<n.o.length),∀i∈n.o[k].ins,0<=i/\i<c.words.length
 ol:c.order.length<=512
 aI:1<=c.aI/\c.aI<c.words.length
theorem RfC.pok {n:aA} {c:CkN} (h:RfC n c) (h0:Ck.iF c 0=[]):POk c:=by
 refine ⟨λz hz=>(h.w z hz).1,h.aI,λid i0 i1 i hi=>?_⟩;obtain ⟨m,rfl⟩:=ezZ i0;rcases m with _|m
 ·rw [show ((0:Nat):Int)=0 from rfl,h0] at hi;cases hi
 ·have hm:m<n.o.length:=by have:=h.wl;omega
  rw [h.ins m hm] at hi;exact h.rng m hm i hi
def Rf.Good (L:Nat) (l:List Int):Prop:=l.Nodup/\∀z∈l,0<=z/\z<L
theorem Rf.Good.len {L:Nat} {l:List Int} (h:Rf.Good L l):l.length<=L:=Rf.iN L l h.1 h.2
theorem Rf.Good.with_ {L:Nat} {l:List Int} (h:Rf.Good L l) {z:Int} (hz:0<=z/\z<L):Rf.Good L (Rf.with_ l z):=by
 unfold Rf.with_
 split
 ·exact h
 ·rename_i hc
  have hn:z∉l:=by simpa using hc
  refine ⟨?_,λy hy=>?_⟩
  ·rw [List.nodup_append]
   refine ⟨h.1,by simp,λa ha b hb e=>?_⟩;simp at hb;subst hb;subst e;exact hn ha
  ·rcases List.mem_append.1 hy with hy|hy
   ·exact h.2 y hy
   ·simp at hy;subst hy;exact hz
theorem Rf.Good.without {L:Nat} {l:List Int} (h:Rf.Good L l) (z:Int):Rf.Good L (Rf.without l z):=⟨h.1.filter _,λy hy=>h.2 y (List.mem_filter.1 hy).1⟩
theorem Rf.Good.gr {L:Nat}:∀(ins:List Int) {l:List Int},Rf.Good L l->(∀i∈ins,0<=i/\i<L)->Rf.Good L (Rf.gr l ins)
 | [],_,h,_=>h
 | i::r,l,h,hi=>by
  show Rf.Good L (Rf.gr (if i≠0 then Rf.with_ l i else l) r)
  split
  ·exact Rf.Good.gr r (h.with_ (hi i sZ)) λz hz=>hi z (by simp [hz])
  ·exact Rf.Good.gr r h λz hz=>hi z (by simp [hz])
structure Rf.GoodS (c:CkN) (x:RfS):Prop where
 there:Rf.Good c.words.length x.there
 saved:Rf.Good c.words.length x.saved
 aZ:Rf.Good c.words.length x.aZ
theorem mD.good {c:CkN} {s:CkS} {x:RfS} (h:mD c s x):Rf.GoodS c x:=⟨⟨h.there.nod,h.there.rng⟩,⟨h.saved.nod,h.saved.rng⟩,⟨h.aZ.nod,h.aZ.rng⟩⟩
theorem Rf.qA {f:Int->Int} {B:Int} (h:∀z,0<=f z/\f z<=B):∀l:List Int,0<=Rf.bW f l/\Rf.bW f l<=l.length*B
 | []=>by simp [Rf.bW]
 | x::r=>by
  have h1:=h x;have h2:=Rf.qA h r;simp only [Rf.bW,List.map_cons,List.sum_cons,List.length_cons] at h2 ⊢;rw [show ((r.length+1:Nat):Int)*B=r.length*B+B by rw [Int.natCast_add,Int.add_mul];simp];omega
namespace Rf
variable {c:CkN} {s:CkS} {x y:RfS}
theorem qH {n:aA} (h:Nt.check n=0) (hok:n.ok) (cap:Int):RfC n (Ck.base n cap):=by
 obtain ⟨h1,h2,h3,h4,h5,h6,h7,h8⟩:=Nt.aK h;have hw:=Nt.dB h;obtain ⟨-,l1,l2⟩:=Nt.dD h7;refine ⟨hok,h2,hw,Nt.iD h,λk hk=>?_,λk hk i hi=>?_,?_,?_⟩
 ·show ([]::n.o.map (·.ins)).getD ((k+1:Nat):Int).toNat []=_
  rw [tnZ,List.getD_cons_succ,gdZ,List.getElem?_map,geZ hk]
  rfl
 ·obtain ⟨-,hb⟩:=Nt.eU h4 _ (gmZ hk)
  have:=hb i hi
  show 0<=i/\i<((Nt.words n).length:Int)
  omega
 ·show (Nt.sO n.o).length<=512;omega
 ·show 1<=Nt.aI n.o/\Nt.aI n.o<((Nt.words n).length:Int);omega
theorem base_pok {n:aA} (h:Nt.check n=0) (hok:n.ok) (cap:Int):POk (Ck.base n cap):=(qH h hok cap).pok rfl
theorem count_cons (kind:Int) (p:Int × Int) (r:List (Int × Int)):Cd.count kind (p::r)=(if p.1=kind then 1 else 0)+Cd.count kind r:=by
 show (if (p.1==kind)=true then 1 else 0)+Cd.count kind r=_
 simp only [beq_iff_eq]
end Rf
namespace Gr
def aB (n:aA) (keep:List Int):Int:=(Ck.go (Ck.base n 1073741824) (Ck.start (n.o.length+1)) (Rt.lW n keep).code).1.aB
def cost (n:aA) (keep:List Int):Int:=Safe.sum (Cd.aM (Nt.aD n) (Rt.lW n keep).code)
theorem peak_all {n:aA} (h:Nt.check n=0) (hok:n.ok) (h12:n.o.length<=12) (keep:List Int):
  (Ck.go (Ck.base n 1073741824) (Ck.start (n.o.length+1)) (Rt.lW n keep).code).2=0/\(Rf.go (Ck.base n 1099511627776) Rf.start (Rt.lW n keep).code).2=0/\
   (Rf.go (Ck.base n 1099511627776) Rf.start (Rt.lW n keep).code).1.aB=aB n keep/\1<=aB n keep/\aB n keep<=1073741824:=by
 obtain ⟨pk,co,ag,hi,e,p1,p2,-⟩:=Rw.mV h h12 keep;unfold Ck.run at e;rw [inZ (by simp [h])] at e
 split at e
 ·rename_i hc;exact absurd (congrArg Prod.snd e) hc
 rename_i hc;have hc:Cd.check (Rt.lW n keep).code=0:=by simpa using hc
 split at e
 ·rename_i hg;exact absurd (congrArg Prod.snd e) hg
 rename_i hg;have hg:(Ck.go (Ck.base n 1073741824) (Ck.start (n.o.length+1)) (Rt.lW n keep).code).2=0:=by simpa using hg
 split at e
 ·simp at e
 split at e
 ·rename_i hk;exact absurd (congrArg Prod.snd e) hk
 have hp:aB n keep=pk:=congrArg (λz=>z.1.1) e
 have hf:(Ck.go (Ck.base n 1073741824) (Ck.start (n.o.length+1)) (Rt.lW n keep).code).1.aB<=1099511627776:=by
  show aB n keep<=_
  omega
 have hd:=(Ck.jL (Ck.base n 1073741824) 1099511627776 _ _ hg).2.1 hf;have hd:Ck.go (Ck.base n 1099511627776) (Ck.start (n.o.length+1)) (Rt.lW n keep).code=Ck.go (Ck.base n 1073741824) (Ck.start (n.o.length+1)) (Rt.lW n keep).code:=hd;have hb:=Rf.base_pok h hok 1099511627776;have he:(Ck.base n 1099511627776).words.length=n.o.length+1:=Nt.dB h;have hs:=Rf.iM hb (by rw [he];omega);rw [he] at hs
 have ha:(Rt.lW n keep).code.all Cd.right=true:=by
  unfold Cd.check at hc
  split at hc
  ·simp at hc
  ·split at hc
   ·assumption
   ·simp at hc
 obtain ⟨e1,e2⟩:=Rf.sJ hb hs ha;rw [hd] at e1 e2;exact ⟨hg,by rw [←e1];exact hg,e2.aB.symm,by omega,by omega⟩
end Gr
def DoP (a:CkA) (c:CkN) (W0:Zp1) (s:CkS) (k id:Int) (W:Zp1) (e:Ending) (w':Zp1):Prop:=
 e=.returned (nQ iQ (Ck.do_ c s k id).2)/\CkF a c W0 (Ck.do_ c s k id).1 W w'
theorem CkM.uG {a:CkA} {c:CkN} {W0 W:Zp1} {s:CkS} (h:CkM a c W0 s W):a.g3<W.heap.size:=h.aL.lt
theorem CkF.base {a:CkA} {c:CkN} {W0 W W1 W':Zp1} {s:CkS} (h:CkF a c W0 s W1 W') (hl:Later W W1):CkF a c W0 s W W':=
 ⟨h.mem,(Fr.refl _ W).fP hl (lrZ _) |>.trans' h.fr λ_ _ h=>h⟩
theorem qaT {q:Nat} {W W':Zp1} {a:CkA} {c:CkN} {W0:Zp1} {s:CkS} {k id:Value} (hq:Blk W q 106 #[k,id]) (h:CkF a c W0 s W W') (hg:a.g3<q):W'.cell? ⟨q,0,none⟩=some k/\W'.cell? ⟨q,1,none⟩=some id:=by
 have:=h.fr.blk hq oZ;exact ⟨this.cell 0,this.cell 1⟩
theorem Ck.sets_take (g:List Bool) (l:List Int) (k:Nat) (h:k<l.length):Ck.sets g (l.take (k+1))=Ck.bD (Ck.sets g (l.take k)) l[k] true:=by
 unfold Ck.sets;rw [Zb h,List.foldl_append];rfl
theorem CkF.trans {a:CkA} {c:CkN} {W0 W W1 W2:Zp1} {s s':CkS} (h:CkF a c W0 s W W1) (k:CkF a c W0 s' W1 W2):CkF a c W0 s' W W2:=⟨k.mem,h.fr.trans k.fr⟩
theorem Ck.sD {a:CkA} {c:CkN} {W0:Zp1} (hS:a.Still c W0) (s:CkS) (k:Int) {n:Nat} (hn:n<c.words.length):0<=Ck.more c s k n/\Ck.more c s k n<=68719476736:=by
 have hw:∀z:Int,0<=Ck.wd c z/\Ck.wd c z<=65536:=λz=>by
  have:=Ck.jI c hS.ok.word [z];simp [Ck.fH] at this;exact this
 unfold Ck.more
 split
 ·have:=hw n;omega
 ·split
  ·have:=hw c.aI;omega
  ·split
   ·have h1:=Ck.jI c hS.ok.word (Ck.fresh c s n)
    have h2:=(Ck.nX hS s hn).1;omega
   ·omega
set_option maxRecDepth 100000 in
theorem qfL (a:CkA) (c:CkN) (W0:Zp1) (s:CkS) (W:Zp1) (hS:a.Still c W0) (hM:CkM a c W0 s W) (k id:Int) (hdn:s.done<=1048576) (hnow : -1152921504606846976<=s.now/\s.now<=1152921504606846976) (hpk : -1152921504606846976<=s.aB/\s.aB<=1152921504606846976):
  Calls prog 48 #[.pointer (some ⟨a.p,0,none⟩),.agg #[nQ iQ k,nQ iQ id]] W (DoP a c W0 s k id W):=by
 have hO:Later W (W.alloc (.cells #[nQ iQ k,nQ iQ id] 106)):=(Later.refl W).alloc _;have hK:=hM.to_later hO;have hq:=Blk.new W 106 #[nQ iQ k,nQ iQ id];have hh:=hM.uG;have He:=hS.ok.m2;obtain ⟨y0,-⟩:=hK.aW;have z0:(W.alloc (.cells #[nQ iQ k,nQ iQ id] 106)).cell? ⟨W.heap.size,0,none⟩=some (nQ iQ k):=hq.cell 0;have z1:(W.alloc (.cells #[nQ iQ k,nQ iQ id] 106)).cell? ⟨W.heap.size,1,none⟩=some (nQ iQ id):=hq.cell 1;have hp:=λV=>qdn k id V
 obtain ⟨HS,hR,Hq,hl⟩:=zd4 hS hK hq hO;clear hS hK hq hO;clear hM;cases hr:Cd.right (k,id) with
 | false=>
  rw [hr] at hp;have HD:=zI (show Ck.do_ c s k id=(s,10) by unfold Ck.do_;rw [ipZ (.inl hr)]);have hu:=zI hp;clear hp;clear hr;go_in;go_wp2_with fail;generalize W.alloc (.cells #[nQ iQ k,nQ iQ id] 106)=W1 at *;have ha:Later W1 W1.drew:=(Later.refl _).drew;have k0:=ha.cell y0;have k1:=ha.cell z0;have k2:=ha.cell z1
  first
   | (go_region_with (first
     | (go_at_call 88;refine (hu.out _).mono ?_;rintro e wr ⟨rfl,hv⟩;have hf:Later W1.drew wr:=hv)
     | fail))
   | fail
  all_goals
   have ho:=hl.out.trans (ha.trans hf);have hy:=hR.out.to_later (ha.trans hf);obtain ⟨hH,hL⟩:=zd2 ho hy;clear ho hy;clear k0 k1 k2 y0 z0 z1 hf ha;go_wp2_with fail;go_ret;exact ⟨by rw [HD.out];rfl,by rw [HD.out];exact ⟨hL.out,(Fr.refl _ W).fP hH.out (lrZ _)⟩⟩
 | true=>
  obtain ⟨-,-,h9,-⟩:=Cd.jQ hr;obtain ⟨n,rfl⟩:=ezZ (show 0<=id from h9);rw [hr] at hp
  by_cases hid:n<c.words.length
  rotate_left
  ·skip
   have HD:=zI (show Ck.do_ c s k n=(s,10) by unfold Ck.do_;rw [ipZ (.inr oZ)]);have d1:decide ((c.words.length:Int)<=n)=true:=by simp;omega
   have hu:=zI hp;clear hp;clear hr;go_in;go_wp2_with fail;generalize W.alloc (.cells #[nQ iQ k,nQ iQ n] 106)=W1 at *;have ha:Later W1 W1.drew:=(Later.refl _).drew;have k0:=ha.cell y0;have k1:=ha.cell z0;have k2:=ha.cell z1
   first
    | (go_region_held3 (λV=>V.cell? ⟨a.p,0,none⟩=some (.slice a.Wd c.words.length a.cW)/\V.cell? ⟨W.heap.size,0,none⟩=some (nQ iQ k)/\V.cell? ⟨W.heap.size,1,none⟩=some (nQ iQ n)) (first|exact ⟨hf.cell k0,hf.cell k1,hf.cell k2⟩|exact ⟨k0,k1,k2⟩|fail)
      (first
       | (go_at_call 88;refine (hu.out _).mono ?_;rintro e wr ⟨rfl,hv⟩;have hf:Later W1.drew wr:=hv)
       | fail))
    | fail
   have ho:=hl.out.trans (ha.trans hf);have hy:=hR.out.to_later (ha.trans hf);obtain ⟨hH,hL⟩:=zd2 ho hy;clear ho hy;clear k0 k1 k2 y0 z0 z1 hf ha;go_wp2_with fail;go_ret;exact ⟨by rw [HD.out];rfl,by rw [HD.out];exact ⟨hL.out,(Fr.refl _ W).fP hH.out (lrZ _)⟩⟩
  have d1:decide ((c.words.length:Int)<=n)=false:=by simp;omega
  have hu:=zI hp;clear hp;go_in;go_wp2_with fail;generalize W.alloc (.cells #[nQ iQ k,nQ iQ n] 106)=W1 at *;have ha:Later W1 W1.drew:=(Later.refl _).drew;have k0:=ha.cell y0;have k1:=ha.cell z0;have k2:=ha.cell z1
  first
   | (go_region_held3 (λV=>V.cell? ⟨a.p,0,none⟩=some (.slice a.Wd c.words.length a.cW)/\V.cell? ⟨W.heap.size,0,none⟩=some (nQ iQ k)/\V.cell? ⟨W.heap.size,1,none⟩=some (nQ iQ n)) (first|exact ⟨hf.cell k0,hf.cell k1,hf.cell k2⟩|exact ⟨k0,k1,k2⟩|fail)
     (first
      | (go_at_call 88;refine (hu.out _).mono ?_;rintro e wr ⟨rfl,hv⟩;have hf:Later W1.drew wr:=hv)
      | fail))
   | fail
  have ho:=ha.trans hf;have hD:CkF a c W0 s W1 wr:=⟨hR.out.to_later ho,(Fr.refl _ W1).fP ho (lrZ _)⟩
  clear k0 k1 k2 y0 z0 z1 hf ha hu d1 ho;obtain ⟨z0,z1⟩:=qaT Hq.out hD hh;have h3:=zI (qf5 a c W0 s wr HS.out hD.mem k n hr hid hdn);have hU:=zI hD;clear hD;go_wp2_with fail;refine h3.out.mono ?_;rintro e w3 ⟨rfl,h1⟩;have ht:=hU.out.later h1;clear z0 z1 h3 hU h1;cases hlg:Ck.dA c s k n
  ·have HD:=zI (show Ck.do_ c s k n=(s,24) by unfold Ck.do_;rw [inZ (by rw [hr];simp;omega),ipZ hlg])
   have hE:=zI ht;clear ht;clear hlg hr;go_wp2_with fail;go_ret;exact ⟨by rw [HD.out];rfl,by rw [HD.out];exact hE.out.base hl.out⟩
  obtain ⟨z0,z1⟩:=qaT Hq.out ht hh;obtain ⟨-,-,-,-,-,-,-,-,-,-,-,-,y12,-⟩:=ht.mem.aW;have Ha:=Ck.sD HS.out s k hid;have hY:=zI (λV (h:Later w3 V)=>qgb a c W0 s V HS.out (ht.mem.to_later h) k n hr hid)
  have HD:=zI (show Ck.do_ c s k n=if c.cap<s.now+Ck.more c s k n then (s,25) else (Ck.act c s k n (s.now+Ck.more c s k n),0) by
   unfold Ck.do_;rw [inZ (by rw [hr];simp;omega),inZ (by rw [hlg];simp)])
  have hW:=zI (Ck.right_id hr);have hE:=zI ht;clear ht;clear hlg hr;generalize hmv:Ck.more c s k n=mo at *;have Hf:iQ.wrap (s.now+mo)=s.now+mo:=Zc1 _ oZ;go_upto_region 5 with fail;have ha:Later w3 w3.drew:=(Later.refl _).drew;have k0:=ha.cell y12;have k1:=ha.cell z0;have k2:=ha.cell z1
  first
   | (go_region_held3 (λV=>V.cell? ⟨a.p,12,none⟩=some (nQ iQ s.now)/\V.cell? ⟨W.heap.size,0,none⟩=some (nQ iQ k)/\V.cell? ⟨W.heap.size,1,none⟩=some (nQ iQ n)) (first|exact ⟨hA.cell k0,hA.cell k1,hA.cell k2⟩|exact ⟨k0,k1,k2⟩|fail)
     (first
      | (go_at_call 90;refine (hY.out _ ha).mono ?_;rintro e w4 ⟨rfl,hA⟩)
      | fail))
   | fail
  have hs:=hE.out.later (ha.trans hA);clear k0 k1 k2 z0 z1 y12 hA ha hY hE;obtain ⟨-,-,-,-,-,y5,-,-,-,-,-,-,y12,y13⟩:=hs.mem.aW
  by_cases hi:c.cap<s.now+mo
  ·have hg:=zI (show Ck.do_ c s k n=(s,25) by rw [HD.out,ipZ hi])
   have d2:decide (c.cap<s.now+mo)=true:=by simp [hi]
   have Hg:=zI hs;clear hs;clear HD hi y12 y13;go_wp2_with fail;go_ret;exact ⟨by rw [hg.out];rfl,by rw [hg.out];exact Hg.out.base hl.out⟩
  have hg:=zI (show Ck.do_ c s k n=(Ck.act c s k n (s.now+mo),0) by rw [HD.out,inZ hi]);have d2:decide (c.cap<s.now+mo)=false:=by simp;omega
  have hn:=hs.now HS.out (s.now+mo);have hQ:=hn.aB HS.out (max s.aB (s.now+mo));have f12:=(hs.kR 12).1;have f13:=(hn.kR 13).1;obtain ⟨-,-,-,-,-,-,-,-,-,-,-,-,-,y13a⟩:=hn.mem.aW;have q1:(0:Int)<=(n:Int):=by omega
  have q2:(n:Int)<c.words.length:=by omega
  obtain ⟨z0,z1⟩:=qaT Hq.out hs hh;have y13a':(w4.setCell ⟨a.p,12,none⟩ (nQ iQ (s.now+mo))).cell? ⟨a.p,13,none⟩=some (nQ iQ s.aB):=y13a;obtain ⟨z0a,-⟩:=qaT Hq.out hQ hh;have hb:=zI hQ;clear hQ;clear HD hi hs hn y13a z0 z1 Hf;have Hc:=hW.out;clear hW;obtain ⟨l,h0⟩:=ezZ HS.out.ok.aI.1;have Hb:l<c.words.length:=by have:=HS.out.ok.aI.2;omega
  have q3:(0:Int)<=(l:Int):=by omega
  have q4:(l:Int)<c.words.length:=by omega
  obtain ⟨bw,ow,h6,h2,Hl,Hk⟩:=HS.out.word hid;have Hm:iQ.wrap (s.now+mo-Ck.wd c n)=s.now+mo-Ck.wd c n:=Zc1 _ oZ;rcases Hc with rfl|rfl|rfl|rfl|rfl|rfl
  case inl=>
   go_upto_region 13 with fail;clear y5 y12 y13 y13a' f12 f13 z0a;generalize (w4.setCell ⟨a.p,12,none⟩ (nQ iQ (s.now+mo))).setCell ⟨a.p,13,none⟩ (nQ iQ (max s.aB (s.now+mo)))=w5 at *;have hd:=hb.out.later (Later.drew (Later.refl w5));obtain ⟨-,-,-,-,-,-,k6,-⟩:=hd.mem.aW;have kz:=(qaT Hq.out hd hh).2;have kf:=(hd.kR n).2.1;have kb:=qan hd.mem.aC (i:=n) (by rw [hd.mem.l1];exact hid);have he:=(hb.out.aC HS.out n true).later (Later.drew (Later.refl _));have hc:=zI he;clear he;clear hd hb
   go_region
   clear k6 kf kb kz;go_upto_region 14 with fail;generalize (w5.setCell ⟨a.g1,n,none⟩ (.bool true)).drew=w6 at *;have hd:=hc.out.later (Later.drew (Later.refl w6));obtain ⟨-,-,-,-,-,-,-,k6,-⟩:=hd.mem.aW;have kz:=(qaT Hq.out hd hh).2;have kf:=(hd.kR n).2.2.1;have kb:=qan hd.mem.sav (i:=n) (by rw [hd.mem.l2];exact hid);have hk:=(hc.out.sav HS.out n true).later (Later.drew (Later.refl _));have hm:=zI hk;clear hk;clear hd hc
   go_region
   clear k6 kf kb kz;go_wp2_with fail;go_ret;exact ⟨by rw [hg.out];rfl,by rw [hg.out];exact hm.out.base hl.out⟩
  case inr.inl=>
   go_upto_region 13 with fail;clear y5 y12 y13 y13a' f12 f13 z0a;generalize (w4.setCell ⟨a.p,12,none⟩ (nQ iQ (s.now+mo))).setCell ⟨a.p,13,none⟩ (nQ iQ (max s.aB (s.now+mo)))=w5 at *;have hd:=hb.out.later (Later.drew (Later.refl w5));obtain ⟨-,-,-,-,-,-,k6,-⟩:=hd.mem.aW;have kz:=(qaT Hq.out hd hh).2;have kf:=(hd.kR n).2.1;have kb:=qan hd.mem.aC (i:=n) (by rw [hd.mem.l1];exact hid);have he:=(hb.out.aC HS.out n true).later (Later.drew (Later.refl _));have hc:=zI he;clear he;clear hd hb
   go_region
   clear k6 kf kb kz;go_upto_region 14 with fail;generalize (w5.setCell ⟨a.g1,n,none⟩ (.bool true)).drew=w6 at *;have hd:=hc.out.later (Later.drew (Later.refl w6));obtain ⟨-,-,-,-,-,-,-,k6,-⟩:=hd.mem.aW;have kz:=(qaT Hq.out hd hh).2;have kf:=(hd.kR n).2.2.1;have kb:=qan hd.mem.sav (i:=n) (by rw [hd.mem.l2];exact hid);have hk:=(hc.out.sav HS.out n true).later (Later.drew (Later.refl _));have hm:=zI hk;clear hk;clear hd hc
   go_region
   clear k6 kf kb kz;go_wp2_with fail;go_ret;exact ⟨by rw [hg.out];rfl,by rw [hg.out];exact hm.out.base hl.out⟩
  case inr.inr.inl=>
   go_upto_region 16 with fail;clear y5 y12 y13 y13a' f12 f13 z0a;generalize (w4.setCell ⟨a.p,12,none⟩ (nQ iQ (s.now+mo))).setCell ⟨a.p,13,none⟩ (nQ iQ (max s.aB (s.now+mo)))=w5 at *;have hd:=hb.out.later (Later.drew (Later.refl w5));obtain ⟨-,-,-,-,-,-,k6,-⟩:=hd.mem.aW;have kz:=(qaT Hq.out hd hh).2;have kf:=(hd.kR n).2.1;have kb:=qan hd.mem.aC (i:=n) (by rw [hd.mem.l1];exact hid);have he:=(hb.out.aC HS.out n false).later (Later.drew (Later.refl _));have hc:=zI he;clear he;clear hd hb
   go_region
   clear k6 kf kb kz;go_upto_region 17 with fail;generalize (w5.setCell ⟨a.g1,n,none⟩ (.bool false)).drew=w6 at *;have hd:=hc.out.later (Later.drew (Later.refl w6));obtain ⟨k0,-,-,-,-,-,-,-,-,-,-,-,k12,-⟩:=hd.mem.aW;rw [h6] at k0;have kz:=(qaT Hq.out hd hh).2;have kf:=(hd.kR 12).1;have kw:=hd.mem.later.cell h2;have hk:=(hc.out.now HS.out (s.now+mo-Ck.wd c n)).later (Later.drew (Later.refl _));have hm:=zI hk;clear hk;clear hd hc
   go_region
   clear k0 k12 kz kf kw;go_wp2_with fail;go_ret;exact ⟨by rw [hg.out];rfl,by rw [hg.out];exact hm.out.base hl.out⟩
  case inr.inr.inr.inl=>
   go_upto_region 19 with fail;clear y5 y12 y13 y13a' f12 f13 z0a;generalize (w4.setCell ⟨a.p,12,none⟩ (nQ iQ (s.now+mo))).setCell ⟨a.p,13,none⟩ (nQ iQ (max s.aB (s.now+mo)))=w5 at *;obtain ⟨-,-,-,-,-,-,-,-,-,k9,-⟩:=hb.out.mem.aW;have kf:=(hb.out.kR 9).1;have he:=hb.out.em HS.out true;have hc:=zI he;clear he;clear hb;go_wp2_with fail;go_ret;exact ⟨by rw [hg.out];rfl,by rw [hg.out];exact hc.out.base hl.out⟩
  case inr.inr.inr.inr.inl=>
   go_upto_region 21 with fail;clear y5 y12 y13 y13a' f12 f13 z0a;generalize (w4.setCell ⟨a.p,12,none⟩ (nQ iQ (s.now+mo))).setCell ⟨a.p,13,none⟩ (nQ iQ (max s.aB (s.now+mo)))=w5 at *;obtain ⟨-,-,-,-,-,-,-,-,-,-,k10,-⟩:=hb.out.mem.aW;have kf:=(hb.out.kR 10).1;have he:=hb.out.sd HS.out true;have hc:=zI he;clear he;clear hb;go_upto_region 22 with fail;generalize w5.setCell ⟨a.p,10,none⟩ (.bool true)=w6 at *;clear k10 kf;have hd:=hc.out.later (Later.drew (Later.refl w6));obtain ⟨-,-,-,-,-,-,-,-,k6,-⟩:=hd.mem.aW;obtain ⟨-,-,-,-,kl,-⟩:=hd.mem.aW;rw [h0] at kl;have kf:=(hd.kR l).2.2.2;have kb:=qan hd.mem.aL (i:=l) (by rw [hd.mem.l3];exact Hb);have hk:=(hc.out.aL HS.out l true).later (Later.drew (Later.refl _));have hm:=zI hk;clear hk;clear hd hc
   go_region
   clear k6 kf kb kl;go_wp2_with fail;go_ret;exact ⟨by rw [hg.out];rfl,by rw [hg.out];have h7:=hm.out.base hl.out;unfold Ck.act Ck.bD;rw [h0];exact h7⟩
  case inr.inr.inr.inr.inr=>
   go_upto_region 24 with fail;clear y5 y12 y13 y13a' f12 f13 z0a;generalize (w4.setCell ⟨a.p,12,none⟩ (nQ iQ (s.now+mo))).setCell ⟨a.p,13,none⟩ (nQ iQ (max s.aB (s.now+mo)))=w5 at *;have kz:=(qaT Hq.out hb.out hh).2;go_wp2_with fail;refine (qcM a c W0 _ w5 HS.out hb.out.mem n hid).mono ?_;rintro e w6 ⟨v,rfl,hown,hZ⟩;obtain ⟨A,cp,rfl⟩:=qa8 hown;obtain ⟨hI,-⟩:=qas hown;have he:=hb.out.later hZ;have Hn:=hb.out.mem.uG
   have hV:∀ad,A=some ad->¬(a.p<=ad.block/\ad.block<=a.g3):=λad e=>by
    have:=(hown.lt ad.block (by rw [e];rfl)).1;omega
   have hw:=Ck.nX HS.out s hid;have Hi:=zI (λk h=>Ck.sets_take s.aL (Ck.fresh c s n) k h);have hN:=zI (show Ck.act c s 6 n (s.now+mo)={ s with aL:=(Ck.sets s.aL (Ck.fresh c s n)).set n false,now:=s.now+mo-Ck.wd c n,aB:=max s.aB (s.now+mo),done:=s.done+1 } from rfl)
   change Ints iQ w6 A (Ck.fresh c s n) at hI
   have hX:(Ck.fresh c { s with now:=s.now+mo,aB:=max s.aB (s.now+mo) } n).length=(Ck.fresh c s n).length:=rfl;rw [hX];clear hown hZ hb hX Ha hmv kz;generalize Ck.fresh c s n=fr at *;obtain ⟨HI,hc,Hh,hx⟩:=zd4 hI he hV hw;clear hI he hV hw;go_wp2_with fail
   go_loopw [7,121] (λ_ i wr=>∃k:Nat,k<=fr.length/\i=nQ iQ (k:Int)/\CkF a c W0 { s with now:=s.now+mo,aB:=max s.aB (s.now+mo),aL:=Ck.sets s.aL (fr.take k) } w6 wr) (λ_ i _=>fr.length-(intOf i).toNat)
   case atStart=>exact ⟨0,Zt _,rfl,⟨hc.out.mem,Fr.refl _ _⟩⟩
   case round=>
    obtain ⟨j,hj,rfl,hF⟩:=hrel
    by_cases hG:j<fr.length
    ·obtain ⟨b3,o3,e3,-,Hd⟩:=(hF.fr.ints HI.out Hh.out) j hG
     rw [gdZ,geZ hG,Option.getD_some] at Hd;have hz:=hx.out.2 _ (gmZ hG);have Hj:=hx.out.1;have HT:=zI (Hi.out j hG);subst e3;generalize fr[j]=z at *;obtain ⟨zn,rfl⟩:=ezZ hz.1;have h8:zn<c.words.length:=by omega
     obtain ⟨-,-,-,-,-,-,-,-,k8,-⟩:=hF.mem.aW;have kf:=(hF.kR zn).2.2.2;have kb:=qan hF.mem.aL (i:=zn) (by rw [hF.mem.l3];exact h8);have p1:(0:Int)<=(zn:Int):=by omega
     have p2:(zn:Int)<c.words.length:=by omega
     have hm:=zI (hF.aL HS.out zn true);clear hF;go_wp2_with fail;go_roundw
     case rel=>exact ⟨j+1,by omega,by go_num,by rw [HT.out];exact hm.out⟩
     case measure=>simp [intOf];omega
    ·obtain rfl:j=fr.length:=by omega
     rw [Zg] at hF;have hP:=zI (hc.out.trans hF);clear hF;go_upto_region 29 with fail;have hd:=hP.out.later (Later.drew (Later.refl wr));obtain ⟨-,-,-,-,-,-,-,-,k6,-⟩:=hd.mem.aW;have kz:=(qaT Hq.out hd hh).2;have kf:=(hd.kR n).2.2.2;have kb:=qan hd.mem.aL (i:=n) (by rw [hd.mem.l3];exact hid);have h5:=(hP.out.aL HS.out n false).later (Later.drew (Later.refl _));have hT:=zI h5;clear h5;clear hd hP
     go_region
     clear k6 kf kb kz;go_upto_region 30 with fail;generalize (wr.setCell ⟨a.g3,n,none⟩ (.bool false)).drew=w8 at *;have hd:=hT.out.later (Later.drew (Later.refl w8));obtain ⟨k0,-,-,-,-,-,-,-,-,-,-,-,k12,-⟩:=hd.mem.aW;rw [h6] at k0;have kz:=(qaT Hq.out hd hh).2;have kf:=(hd.kR 12).1;have kw:=hd.mem.later.cell h2;have h4:=(hT.out.now HS.out (s.now+mo-Ck.wd c n)).later (Later.drew (Later.refl _));have hC:=zI h4;clear h4;clear hd hT
     go_region
     clear k0 k12 kz kf kw;go_upto_region 31 with fail;generalize (w8.setCell ⟨a.p,12,none⟩ (nQ iQ (s.now+mo-Ck.wd c n))).drew=w9 at *;obtain ⟨-,-,-,-,-,-,-,-,-,-,-,k11,-⟩:=hC.out.mem.aW;have kf:=(hC.out.kR 11).1;have v1:iQ.wrap ((s.done:Int)+1)=(s.done:Int)+1:=Zc1 _ oZ;have hB:=hC.out.done HS.out (s.done+1);have hJ:=zI hB;clear hB;clear hC;go_wp2_with fail;go_ret;exact ⟨by rw [hg.out];rfl,by rw [hg.out,hN.out];exact hJ.out.base hl.out⟩
set_option maxRecDepth 100000 in
theorem qfa (a:CkA) (c:CkN) (W0:Zp1) (s:CkS) (W:Zp1) (hM:CkM a c W0 s W) (hdn:s.done<=1048576):
  Calls prog 49 #[.pointer (some ⟨a.p,0,none⟩)] W λe w'=>e=.returned (.bool (Ck.whole c s))/\Later W w':=by
 obtain ⟨-,-,-,y3,-,-,-,-,-,y9,-,y11,-⟩:=hM.aW;have HE:=zI (show Ck.whole c s=(s.em&&decide (s.done=c.order.length)) from rfl);clear hM;generalize s.em=em at *;cases em
 ·go_in
  go_wp2_with fail
  go_quiet (fail)
  go_wp2_with fail;go_ret;exact ⟨by rw [HE.out];rfl,by first|exact Later.refl _|exact (Later.refl _).drew|exact (Later.refl _).drewN _⟩
 ·by_cases hd:s.done=c.order.length
  ·have d1:decide (s.done=c.order.length)=true:=by simp [hd]
   have d2:((s.done:Int)==(c.order.length:Int))=true:=by simp [hd]
   rw [d1] at HE;rw [hd] at y11;clear d1 d2 hd;go_in;go_wp2_with fail
   go_quiet (fail)
   go_wp2_with fail;go_ret;exact ⟨by rw [HE.out];rfl,by first|exact Later.refl _|exact (Later.refl _).drew|exact (Later.refl _).drewN _⟩
  ·have d1:decide (s.done=c.order.length)=false:=by simp [hd]
   have d2:((s.done:Int)==(c.order.length:Int))=false:=by rw [beq_eq_false_iff_ne];omega
   rw [d1] at HE;go_in;go_wp2_with fail
   go_quiet (fail)
   go_wp2_with fail;go_ret;exact ⟨by rw [HE.out];first|rfl|(apply qaI;simp [hd]),by first|exact Later.refl _|exact (Later.refl _).drew|exact (Later.refl _).drewN _⟩
structure Ck.Bd (s:CkS) (k:Nat):Prop where
 done:s.done<=k
 n1 : -((k:Int)*68719542272)<=s.now
 n2:s.now<=(k:Int)*68719542272
 p1 : -((k:Int)*68719542272)<=s.aB
 p2:s.aB<=(k:Int)*68719542272
theorem Ck.wd_bd {a:CkA} {c:CkN} {W0:Zp1} (hS:a.Still c W0) (z:Int):0<=Ck.wd c z/\Ck.wd c z<=65536:=by
 have:=Ck.jI c hS.ok.word [z];simp [Ck.fH] at this;exact this
theorem Ck.uO {a:CkA} {c:CkN} {W0:Zp1} (hS:a.Still c W0) {s:CkS} {k:Nat} (h:Ck.Bd s k) (kd id:Int):Ck.Bd (Ck.do_ c s kd id).1 (k+1):=by
 obtain ⟨h1,h2,h3,h4,h5⟩:=h;have he:((k+1:Nat):Int)*68719542272=(k:Int)*68719542272+68719542272:=by omega
 have triv:Ck.Bd s (k+1):=⟨by omega,by omega,by omega,by omega,by omega⟩
 unfold Ck.do_
 split
 ·exact triv
 ·rename_i hr
  split
  ·exact triv
  ·split
   ·exact triv
   ·have ha:(Cd.right (kd,id)=true)/\id<c.words.length:=by
     rcases Bool.eq_false_or_eq_true (Cd.right (kd,id)) with h|h
     ·exact ⟨h,by omega⟩
     ·exact absurd (.inl h) hr
    obtain ⟨-,-,hb,-⟩:=Cd.jQ ha.1;obtain ⟨n,rfl⟩:=ezZ (show 0<=id from hb);have hm:=Ck.sD hS s kd (n:=n) oZ;have hw:=Ck.wd_bd hS n;generalize Ck.more c s kd n=m at *
    have key:∀(s':CkS),s'.done<=s.done+1->(s'.now=s.now+m∨s'.now=s.now+m-Ck.wd c n)->s'.aB=max s.aB (s.now+m)->Ck.Bd s' (k+1):=λs' q1 q2 q3=>by
     refine ⟨by omega,?_,?_,?_,?_⟩
     ·rcases q2 with q2|q2<;>rw [q2]<;>omega
     ·rcases q2 with q2|q2<;>rw [q2]<;>omega
     ·rw [q3];omega
     ·rw [q3];omega
    unfold Ck.act
    (repeat' split)<;>exact key _ sZ sZ rfl
theorem safe_max (A:Option Addr) (c:Nat) (zs:List Int) (w:Zp1) (hl:zs.length<=9223372036854775807) (hI:Ints iQ w A zs):
  Calls prog 51 #[sQ A zs.length c] w λe w'=>e=.returned (nQ iQ (Safe.max zs))/\w=w':=by
 have HI:=zI hI;clear hI;go_in;go_wp2_with fail
 go_loop [3,5,8] (λm x i=>∃k:Nat,k<=zs.length/\i=nQ iQ k/\m=nQ iQ (Safe.max (zs.take k))) (λ_ _ i=>zs.length-(intOf i).toNat)
 case atStart=>exact ⟨0,Zt _,rfl,rfl⟩
 case round=>
  obtain ⟨k,hk,rfl,rfl⟩:=hrel
  by_cases ha:k<zs.length
  ·obtain ⟨b,off,rfl,hb,hc⟩:=HI.out k ha
   have HS:=zI (Safe.max_take_succ zs k ha);generalize hm:Safe.max (zs.take k)=m;rw [hm] at HS;clear hm
   by_cases hd:m<zs[k]
   ·go_wp2_with fail
    go_round
    case rel=>exact ⟨k+1,by omega,by go_num,by first|(rw [HS.out,ipZ hd];done)|(rw [HS.out,ipZ hd];congr 1;omega)⟩
    case measure=>simp [intOf];omega
   ·go_wp2_with fail
    go_round
    case rel=>exact ⟨k+1,by omega,by go_num,by first|(rw [HS.out,inZ oZ];done)|(rw [HS.out,inZ oZ];congr 1;omega)⟩
    case measure=>simp [intOf];omega
  ·go_wp2_with fail
   go_ret;exact ⟨qbi (by rw [List.take_of_length_le oZ]),rfl⟩
def qhE (r:(Int × Int × Int × Int) × Int):Value:=.tuple #[.agg #[nQ iQ r.1.1,nQ iQ r.1.2.1,nQ iQ r.1.2.2.1,nQ iQ r.1.2.2.2],nQ iQ r.2]
def uU (n:aA) (ps:List (Int × Int)) (cap:Int) (W:Zp1) (e:Ending) (w':Zp1):Prop:=e=.returned (qhE (Ck.run n ps cap))/\Later W w'
theorem CkF.to_later {a:CkA} {c:CkN} {W0 W W':Zp1} {s:CkS} (h:CkF a c W0 s W W') (hS:a.Still c W0) (hl:Later W0 W):Later W0 W':=
 Below.trans hl (h.fr.below (B:=W0.heap.size) (λb hb=>Zv hS.hp hb.1) (Below.size hl))
theorem Ints.tail_ {k:IntKind} {w:Zp1} {b off:Nat} {zs:List Int} (h:Ints k w (some ⟨b,off,none⟩) zs) (n:Nat):Ints k w (some ⟨b,off+n,none⟩) (zs.drop n):=Ints.dN λj hj=>by
 rw [Zq] at hj;obtain ⟨b',o',e,-,hc⟩:=h (n+j) oZ;cases e;rw [Nat.add_assoc,hc];simp
theorem sP {W w:Zp1} {g:Nat} (h:Later W w) (hg:W.heap.size<=g) (a b c d:Value):Later W ((((w.setCell ⟨g,0,none⟩ a).setCell ⟨g,1,none⟩ b).setCell ⟨g,2,none⟩ c).setCell ⟨g,3,none⟩ d):=
 (((h.set (p:=⟨g,0,none⟩) hg a).set (p:=⟨g,1,none⟩) hg b).set (p:=⟨g,2,none⟩) hg c).set (p:=⟨g,3,none⟩) hg d
theorem qaw {w:Zp1} {g:Nat} {t:TypeId} {a b c d:Value} (h:Blk w g t #[a,b,c,d]):(w.cell? ⟨g,0,none⟩=some a/\w.cell? ⟨g,1,none⟩=some b/\w.cell? ⟨g,2,none⟩=some c/\w.cell? ⟨g,3,none⟩=some d)/\w.frozen? ⟨g,0,none⟩=false/\w.frozen? ⟨g,1,none⟩=false/\w.frozen? ⟨g,2,none⟩=false/\w.frozen? ⟨g,3,none⟩=false:=
 ⟨⟨h.cell 0,h.cell 1,h.cell 2,h.cell 3⟩,h.frozen 0,h.frozen 1,h.frozen 2,h.frozen 3⟩
set_option maxRecDepth 100000 in
theorem qet (A N Q:Option Addr) (c d q:Nat) (n:aA) (ps:List (Int × Int)) (cap:Int) (W:Zp1) (hok:n.ok) (hR:bH W A N n) (hd:n.o.length<=d) (hsm:n.o.length<=200) (hcap : -9223372036854775808<=cap/\cap<=9223372036854775807) (hps:ps.length<=1048576) (hQ:bE W Q ps):
  Calls prog 20 #[.agg #[sQ A n.inn.length c,sQ N n.o.length d],sQ Q ps.length q,nQ iQ cap] W (uU n ps cap W):=by
 have He:Later W ((W.alloc (.cells #[sQ A n.inn.length c,sQ N n.o.length d] 26)).alloc (.cells #[nQ iQ 0,nQ iQ 0,nQ iQ 0,nQ iQ 0] 48)):=((Later.refl W).alloc _).alloc _;have h7:=Blk.new (W.alloc (.cells #[sQ A n.inn.length c,sQ N n.o.length d] 26)) 48 #[nQ iQ 0,nQ iQ 0,nQ iQ 0,nQ iQ 0];rw [Zh1] at h7;obtain ⟨rn,hrn⟩:∃r,Ck.run n ps cap=r:=⟨_,rfl⟩
 obtain ⟨HR,H0,hH,hY,HQ⟩:=zd5 hR hok He h7 hQ;clear hR hok He h7 hQ;go_in;go_wp2_with fail;generalize (W.alloc (.cells #[sQ A n.inn.length c,sQ N n.o.length d] 26)).alloc (.cells #[nQ iQ 0,nQ iQ 0,nQ iQ 0,nQ iQ 0] 48)=W1 at *;refine (qen A N c d n cap W1 H0.out (HR.out.below hH.out (lrZ _)) hd hsm hcap).mono ?_;rintro e W2 ⟨hx,Hd⟩;have h6:=hH.out.trans Hd;have Hu:=Hd.blk hY.out;rcases hx with ⟨hj,rfl⟩|⟨hj,a,W0,hS,h8,rfl,hM⟩
 ·have HE:=zI (show Ck.run n ps cap=((0,0,0,0),Nt.check n) by unfold Ck.run;rw [ipZ hj])
  have h0:(Nt.check n != 0)=true:=by simp [hj]
  obtain ⟨⟨x0,x1,x2,x3⟩,f0,f1,f2,f3⟩:=qaw Hu;clear hj hrn;generalize Nt.check n=er at *;go_wp2_with fail;refine Zk1 (v:=.tuple #[.agg #[nQ iQ 0,nQ iQ 0,nQ iQ 0,nQ iQ 0],nQ iQ er]) (by simp [results,results20,go_sem,x0,x1,x2,x3]) rfl ?_;exact ⟨by rw [HE.out];rfl,sP h6 oZ _ _ _ _⟩
 ·have hy:=h8.blk hY.out
  have hG:=hH.out.trans h8;have HC:=HQ.out.below h6 (lrZ _);have hm:=Nt.dB hj;have hL:=zI (show Ck.run n ps cap=_ by unfold Ck.run;rw [inZ (by simp [hj])]);obtain ⟨hb,ha,HS,HM,Hr,HZ⟩:=zd6 hy hG hS hM HC hj;clear hy hG hS hM HC hj;clear Hd h6 Hu hY hH h8;go_wp2_with fail;refine (qbT Q q ps W2 oZ Hr.out).mono ?_;rintro e W3 ⟨rfl,h3⟩;have hI:=HM.out.to_later h3;have Hg:=hI.later.blk hb.out;have Hn:=ha.out.trans hI.later
  by_cases hs:Cd.check ps=0
  rotate_left
  ·have HE:=zI (show Ck.run n ps cap=((0,0,0,0),Cd.check ps) by rw [hL.out,ipZ hs])
   have h0:(Cd.check ps != 0)=true:=by simp [hs]
   obtain ⟨⟨x0,x1,x2,x3⟩,f0,f1,f2,f3⟩:=qaw Hg;clear hs hrn hL;generalize Cd.check ps=er at *;go_wp2_with fail;refine Zk1 (v:=.tuple #[.agg #[nQ iQ 0,nQ iQ 0,nQ iQ 0,nQ iQ 0],nQ iQ er]) (by simp [results,results20,go_sem,x0,x1,x2,x3]) rfl ?_;exact ⟨by rw [HE.out];rfl,sP Hn oZ _ _ _ _⟩
  have hi:=zI (hL.out.trans (inZ (by simp [hs])));have hD:=zI (show Ck.Bd (Ck.start (n.o.length+1)) 0 from ⟨lrZ _,by simp [Ck.start],by simp [Ck.start],by simp [Ck.start],by simp [Ck.start]⟩);rw [hs];have Hm:=zI hI;clear hI;clear hL hs hrn h3 Hg Hn HM Hr;go_wp2_with fail
  go_loopw [12,13,34] (λ_ _ i wr=>∃(k:Nat) (s:CkS),k<=ps.length/\i=nQ iQ (k:Int)/\Ck.go (Ck.base n cap) (Ck.start (n.o.length+1)) (ps.take k)=(s,0)/\CkM a (Ck.base n cap) W0 s wr/\Ck.Bd s k) (λ_ _ i _=>ps.length-(intOf i).toNat)
  case atStart=>exact ⟨0,_,Zt _,rfl,rfl,Hm.out,hD.out⟩
  case round=>
   clear Hm hD;obtain ⟨k,s,hk,rfl,hp,hv,hZ⟩:=hrel;have hO:=ha.out.trans hv.later
   by_cases Ha:k<ps.length
   ·obtain ⟨b3,o3,rfl,-,c0,c1⟩:=HQ.out.below hO (lrZ _) k Ha
    have HT:=zI (Zb Ha);have HI:=zI (Zn (k+1) ps);generalize ps[k]=pk at *;obtain ⟨kd,id⟩:=pk;simp only at c0 c1;have HD:Later wr (wr.alloc (.cells #[nQ iQ kd,nQ iQ id] 106)):=(Later.refl wr).alloc _;have hK:=hv.to_later HD;have HN:=Blk.new wr 106 #[nQ iQ kd,nQ iQ id];have hB:=hZ;obtain ⟨Hs,Ht,HB,Hp,Hx⟩:=hZ;have H1:(k:Int)*68719542272<=1048576*68719542272:=by omega
    have HA:=qfL a _ W0 s _ HS.out hK kd id oZ oZ oZ;have Hw:=ha.out.trans hK.later;have hC:=hK.later;obtain ⟨HK,h1⟩:=zd2 HA hC;clear HA hC;clear HD hK HN hv hO;go_wp2_with fail;generalize wr.alloc (.cells #[nQ iQ kd,nQ iQ id] 106)=w7 at *;refine HK.out.mono ?_;rintro e w8 ⟨rfl,hF⟩;have hg:=hF.to_later HS.out h1.out;have hu:=ha.out.trans hg;have hU:=Ck.uO HS.out hB kd id;have he:=Ck.lY (Ck.base n cap) (Ck.start (n.o.length+1)) (ps.take k) (kd,id) (by rw [hp]);rw [hp] at he;simp only at he;rw [←HT.out] at he
    by_cases hz:(Ck.do_ (Ck.base n cap) s kd id).2=0
    ·have Ho:Ck.do_ (Ck.base n cap) s kd id=((Ck.do_ (Ck.base n cap) s kd id).1,0):=by rw [←hz]
     rw [Ho] at he;rw [hz];have hc:=hF.mem;generalize (Ck.do_ (Ck.base n cap) s kd id).1=s8 at *;obtain ⟨hA,HP,HU⟩:=zd3 hc he hU;clear hc he hU;clear hF hg hu hz Ho hp hB Hs Ht HB Hp Hx c0 c1 Hw;go_wp2_with fail;go_roundw
     case rel=>exact ⟨k+1,s8,by omega,by go_num,HP.out,hA.out,HU.out⟩
     case measure=>simp [intOf];omega
    ·have hT:=Ck.qI (Ck.base n cap) (Ck.start (n.o.length+1)) (ps.take (k+1)) (ps.drop (k+1)) (by rw [he];exact hz)
     rw [HI.out,he] at hT;have HE:=zI (show Ck.run n ps cap=((0,0,0,0),(Ck.do_ (Ck.base n cap) s kd id).2) by rw [hi.out,hT,ipZ hz]);have h0:((Ck.do_ (Ck.base n cap) s kd id).2 != 0)=true:=by simp [hz]
     have hr:=hg.blk hb.out;obtain ⟨⟨x0,x1,x2,x3⟩,f0,f1,f2,f3⟩:=qaw hr;generalize (Ck.do_ (Ck.base n cap) s kd id).2=er at *;clear hF hg hz hp hB Hs Ht HB Hp Hx c0 c1 Hw hT he hr hi hU;go_wp2_with fail;refine Zk1 (v:=.tuple #[.agg #[nQ iQ 0,nQ iQ 0,nQ iQ 0,nQ iQ 0],nQ iQ er]) (by simp [results,results20,go_sem,x0,x1,x2,x3]) rfl ?_;exact ⟨by rw [HE.out];rfl,sP hu oZ _ _ _ _⟩
   ·obtain rfl:k=ps.length:=by omega
    rw [Zg] at hp
    have hf:=zI (show Ck.run n ps cap=if Ck.whole (Ck.base n cap) s=false then ((0,0,0,0),28) else if (Cd.aD ps (Nt.aD n)).2≠0 then ((0,0,0,0),(Cd.aD ps (Nt.aD n)).2) else ((s.aB,(Cd.aD ps (Nt.aD n)).1,Cd.count 2 ps,max s.aB (Safe.max ((Nt.words n).drop 1))),0) by
     rw [hi.out,hp];simp)
    have Hl:=qfa a _ W0 s wr hv (by have:=hZ.done;omega);obtain ⟨h4,Hb⟩:=zd2 Hl hv;clear Hl hv;clear hi hp Ha hO;go_wp2_with fail;refine h4.out.mono ?_;rintro e w8 ⟨rfl,hu⟩;have hc:=Hb.out.to_later hu;have hq:=ha.out.trans hc.later;have hr:=hc.later.blk hb.out;cases hw:Ck.whole (Ck.base n cap) s
    ·have HE:=zI (show Ck.run n ps cap=((0,0,0,0),28) by rw [hf.out,ipZ hw])
     obtain ⟨⟨x0,x1,x2,x3⟩,f0,f1,f2,f3⟩:=qaw hr;clear hw hf hc hr hu Hb h4;go_wp2_with fail;refine Zk1 (v:=.tuple #[.agg #[nQ iQ 0,nQ iQ 0,nQ iQ 0,nQ iQ 0],nQ iQ 28]) (by simp [results,results20,go_sem,x0,x1,x2,x3]) rfl ?_;exact ⟨by rw [HE.out];rfl,sP hq oZ _ _ _ _⟩
    have hh:=zI (hf.out.trans (inZ (by simp [hw])));obtain ⟨-,y1,-⟩:=hc.aW;have Hf:=HQ.out.below hq (lrZ _);have Hv:=HS.out.cost.below hc.later (lrZ _);have H3:(Nt.aD n).length=n.o.length+1:=by rw [Nt.aD,List.length_cons,Nt.bJ]
    obtain ⟨hA,HX,HV⟩:=zd3 hc Hf Hv;clear hc Hf Hv;clear hw hf hr hu Hb h4 hq;go_wp2_with fail;refine (qek Q q ps a.Co a.cC (Nt.aD n) w8 oZ HX.out oZ HV.out).mono ?_;rintro e w9 ⟨rfl,h9⟩;have hP:Later w8 w9:=h9;have hn:=hA.out.to_later hP;have hl:=ha.out.trans hn.later;have hJ:=hn.later.blk hb.out
    by_cases ht:(Cd.aD ps (Nt.aD n)).2=0
    rotate_left
    ·have HE:=zI (show Ck.run n ps cap=((0,0,0,0),(Cd.aD ps (Nt.aD n)).2) by rw [hh.out,ipZ ht])
     have h0:((Cd.aD ps (Nt.aD n)).2 != 0)=true:=by simp [ht]
     obtain ⟨⟨x0,x1,x2,x3⟩,f0,f1,f2,f3⟩:=qaw hJ;generalize (Cd.aD ps (Nt.aD n)).2=er at *;clear ht hh hn hJ hP hA h9 y1;go_wp2_with fail;refine Zk1 (v:=.tuple #[.agg #[nQ iQ 0,nQ iQ 0,nQ iQ 0,nQ iQ 0],nQ iQ er]) (by simp [results,results20,go_sem,x0,x1,x2,x3]) rfl ?_;exact ⟨by rw [HE.out];rfl,sP hl oZ _ _ _ _⟩
    have HE:=zI (hh.out.trans (inZ (by simp [ht])));rw [ht];have H2:=(Nt.aK HZ.out).1;obtain ⟨bw,ow,Hc,-⟩:=HS.out.word (k:=0) (by show 0<(Nt.words n).length;omega);have hcw:=HS.out.hcw
    change (Nt.words n).length<=a.cW at hcw
    obtain ⟨y0,-,-,-,-,-,-,-,-,-,-,-,-,y13⟩:=hn.aW
    change w9.cell? ⟨a.p,0,none⟩=some (.slice a.Wd (Nt.words n).length a.cW) at y0
    have Hi:Ints iQ w9 (some ⟨bw,ow,none⟩) (Nt.words n):=by rw [←Hc];exact HS.out.words.below hn.later (lrZ _)
    rw [Hc] at y0;rw [hm] at y0 hcw;have Hh:=Ints.tail_ Hi 1;have Hj:((Nt.words n).drop 1).length=n.o.length:=by rw [Zq,hm];omega
    have HF:∀qn,Calls prog 51 #[sQ (some ⟨bw,ow+1,none⟩) n.o.length (a.cW-1)] (w9.drewN qn) λe w'=>e=.returned (nQ iQ (Safe.max ((Nt.words n).drop 1)))/\w9.drewN qn=w':=λqn=>by
     have:=safe_max (some ⟨bw,ow+1,none⟩) (a.cW-1) ((Nt.words n).drop 1) (w9.drewN qn) oZ (Hh.drewN qn)
     rwa [Hj] at this
    have k1:a.cW≠1:=by omega
    have k2:(1:Int)<=((n.o.length+1:Nat):Int):=by omega
    have k3:((n.o.length+1:Nat):Int)<=a.cW:=by omega
    have k4:1<=a.cW:=by omega
    have k5:n.o.length+1<=a.cW:=by omega
    generalize Safe.max ((Nt.words n).drop 1)=mx at *;obtain ⟨Hz,Hq,hN,HJ⟩:=zd4 hn HF hl hJ;clear hn HF hl hJ;clear ht hh hP hA h9 y1 Hi Hh Hj Hc;go_upto_region 19 with fail
    go_quiet ((go_at_call 51;exact qai (Hq.out _)))
    have HW:=zI (Hz.out.to_later (Later.drewN (Later.refl w9) nq));go_upto_region 20 with fail;generalize w9.drewN nq=w10 at *;have HL:Later w10 w10.drew:=(Later.refl _).drew;have hE:=HW.out.to_later HL;have ho:=ha.out.trans hE.later;have Hk:=hE.later.blk hb.out;obtain ⟨-,-,-,-,-,-,-,-,-,-,-,-,-,y13'⟩:=hE.aW;have Hy:∀V,Later w10.drew V->Calls prog 52 #[sQ Q ps.length q,nQ iQ 2] V λe w'=>e=.returned (nQ iQ (Cd.count 2 ps))/\Below V.heap.size V w':=λV hV=>qgc Q q ps 2 V oZ (HQ.out.below (ho.trans hV) (lrZ _))
    obtain ⟨HO,HY,hW,H4⟩:=zd4 Hy Hk ho hE;clear Hy Hk ho hE;clear y0 y13 Hq Hz HJ hN
    go_region_law ((first
     | (go_simp;go_at_call 52;refine (HO.out _ (Later.refl _)).mono ?_;rintro e w11 ⟨rfl,hX⟩;have h2:=hW.out.trans (show Later w10.drew w11 from hX);have y13'':=(show Later w10.drew w11 from hX).cell y13';have h5:=(show Later w10.drew w11 from hX).blk HY.out;obtain ⟨⟨x0,x1,x2,x3⟩,f0,f1,f2,f3⟩:=qaw h5)
     | fail))
    all_goals
     have HG:=sP h2 (Zy W.heap.size) (nQ iQ s.aB) (nQ iQ (Cd.aD ps (Nt.aD n)).1) (nQ iQ (Cd.count 2 ps)) (nQ iQ (max s.aB mx));have HH:=zI HG;clear HG;go_wp2_with fail;refine Zk1 (v:=.tuple #[.agg #[nQ iQ s.aB,nQ iQ (Cd.aD ps (Nt.aD n)).1,nQ iQ (Cd.count 2 ps),nQ iQ (max s.aB mx)],nQ iQ 0]) (by simp [results,results20,go_sem,x0,x1,x2,x3]) rfl ?_;exact ⟨by rw [HE.out];rfl,HH.out⟩
set_option maxRecDepth 100000 in
theorem qgj (a:CkA) (c:CkN) (W0:Zp1) (s:CkS) (W:Zp1) (hM:CkM a c W0 s W):
  Calls prog 137 #[.pointer (some ⟨a.p,0,none⟩)] W λe w'=>e=.returned (nQ iQ s.aB)/\W=w':=by
 have y:W.cell? ⟨a.p,13,none⟩=some (nQ iQ s.aB):=by obtain ⟨-,-,-,-,-,-,-,-,-,-,-,y11,y12,y13⟩:=hM.aW;assumption
 clear hM;go_in;go_wp2_with fail;go_ret;exact ⟨rfl,rfl⟩
def Gr.lK (n:aA) (ps:List (Int × Int)):Int × Int:=
 let r:=Ck.go (Ck.base n 1073741824) (Ck.start (n.o.length+1)) ps
 if r.2=0 then (r.1.aB,0) else (0,r.2)
set_option maxRecDepth 100000 in
theorem qfb (A N Q:Option Addr) (c d q:Nat) (n:aA) (ps:List (Int × Int)) (W:Zp1) (hok:n.ok) (hch:Nt.check n=0) (hR:bH W A N n) (hd:n.o.length<=d) (hsm:n.o.length<=200) (hps:ps.length<=1048576) (hQ:bE W Q ps):
  Calls prog 102 #[.agg #[sQ A n.inn.length c,sQ N n.o.length d],sQ Q ps.length q] W λe w'=>e=.returned (.tuple #[nQ iQ (Gr.lK n ps).1,nQ iQ (Gr.lK n ps).2])/\Later W w':=by
 have hu:Later W (W.alloc (.cells #[sQ A n.inn.length c,sQ N n.o.length d] 26)):=(Later.refl W).alloc _;obtain ⟨rn,hrn⟩:∃r,Gr.lK n ps=r:=⟨_,rfl⟩
 obtain ⟨HR,hX,hm,HQ⟩:=zd4 hR hok hu hQ;clear hR hok hu hQ;go_in;go_wp2_with fail;generalize W.alloc (.cells #[sQ A n.inn.length c,sQ N n.o.length d] 26)=W1 at *;refine (qen A N c d n 1073741824 W1 hX.out (HR.out.below hm.out (lrZ _)) hd hsm oZ).mono ?_;rintro e W2 ⟨he,hW⟩;rcases he with ⟨hx,-⟩|⟨-,a,W0,hS,hA,rfl,hM⟩
 ·exact absurd hch hx
 have hi:=hm.out.trans hA;have hh:=zI (show Ck.Bd (Ck.start (n.o.length+1)) 0 from ⟨lrZ _,by simp [Ck.start],by simp [Ck.start],by simp [Ck.start],by simp [Ck.start]⟩);obtain ⟨hf,HS,HM⟩:=zd3 hi hS hM;clear hi hS hM;clear hW hm hA;go_wp2_with fail
 go_loopw [9,10,21] (λ_ _ i wr=>∃(k:Nat) (s:CkS),k<=ps.length/\i=nQ iQ (k:Int)/\Ck.go (Ck.base n 1073741824) (Ck.start (n.o.length+1)) (ps.take k)=(s,0)/\CkM a (Ck.base n 1073741824) W0 s wr/\Ck.Bd s k) (λ_ _ i _=>ps.length-(intOf i).toNat)
 case atStart=>exact ⟨0,_,Zt _,rfl,rfl,HM.out,hh.out⟩
 case round=>
  clear HM hh;obtain ⟨k,s,hk,rfl,hc,hj,ht⟩:=hrel;have hl:=hf.out.trans hj.later
  by_cases hs:k<ps.length
  ·obtain ⟨b3,o3,rfl,-,c0,c1⟩:=HQ.out.below hl (lrZ _) k hs
   have HT:=zI (Zb hs);have hO:=zI (Zn (k+1) ps);generalize ps[k]=pk at *;obtain ⟨kd,id⟩:=pk;simp only at c0 c1;have hH:Later wr (wr.alloc (.cells #[nQ iQ kd,nQ iQ id] 106)):=(Later.refl wr).alloc _;have hr:=hj.to_later hH;have hB:=ht;obtain ⟨hv,hw,hD,hI,hy⟩:=ht;have hZ:(k:Int)*68719542272<=1048576*68719542272:=by omega
   have hC:=qfL a _ W0 s _ HS.out hr kd id oZ oZ oZ;have hg:=hr.later;obtain ⟨hU,hn⟩:=zd2 hC hg;clear hC hg;clear hH hr hj hl;go_wp2_with fail;generalize wr.alloc (.cells #[nQ iQ kd,nQ iQ id] 106)=w7 at *;refine hU.out.mono ?_;rintro e w8 ⟨rfl,hF⟩;have hb:=hF.to_later HS.out hn.out;have ho:=hf.out.trans hb;have hq:=Ck.uO HS.out hB kd id;have ha:=Ck.lY (Ck.base n 1073741824) (Ck.start (n.o.length+1)) (ps.take k) (kd,id) (by rw [hc]);rw [hc] at ha;simp only at ha;rw [←HT.out] at ha
   by_cases hz:(Ck.do_ (Ck.base n 1073741824) s kd id).2=0
   ·have hE:Ck.do_ (Ck.base n 1073741824) s kd id=((Ck.do_ (Ck.base n 1073741824) s kd id).1,0):=by rw [←hz]
    rw [hE] at ha;rw [hz];have hJ:=hF.mem;generalize (Ck.do_ (Ck.base n 1073741824) s kd id).1=s8 at *;obtain ⟨hT,hK,hN⟩:=zd3 hJ ha hq;clear hJ ha hq;clear hF hb ho hz hE hc hB hv hw hD hI hy c0 c1;go_wp2_with fail;go_roundw
    case rel=>exact ⟨k+1,s8,by omega,by go_num,hK.out,hT.out,hN.out⟩
    case measure=>simp [intOf];omega
   ·have hp:=Ck.qI (Ck.base n 1073741824) (Ck.start (n.o.length+1)) (ps.take (k+1)) (ps.drop (k+1)) (by rw [ha];exact hz)
    rw [hO.out,ha] at hp;have HE:=zI (show Gr.lK n ps=(0,(Ck.do_ (Ck.base n 1073741824) s kd id).2) by unfold Gr.lK;rw [hp];exact inZ hz);have hY:((Ck.do_ (Ck.base n 1073741824) s kd id).2 != 0)=true:=by simp [hz]
    generalize (Ck.do_ (Ck.base n 1073741824) s kd id).2=er at *;have hP:=zI ho;clear ho;clear hF hb hz hc hB hv hw hD hI hy c0 c1 hp ha hq;go_wp2_with fail
    go_ret2
    exact ⟨by rw [HE.out];rfl,hP.out⟩
  ·obtain rfl:k=ps.length:=by omega
   rw [Zg] at hc;have HE:=zI (show Gr.lK n ps=(s.aB,0) by unfold Gr.lK;rw [hc];rfl);have hG:=qgj a _ W0 s wr hj;obtain ⟨hL,hV⟩:=zd2 hG hl;clear hG hl;clear hc hs hj ht;go_wp2_with fail;refine hL.out.mono ?_;rintro e w8 ⟨rfl,rfl⟩;go_wp2_with fail
   go_ret2
   exact ⟨by rw [HE.out];rfl,hV.out⟩
theorem qeu (kept rest:List Int) (i:Nat) (h:i<kept.length):splice (qa9 (kept++rest)) i (qa9 (kept.drop (i+1)))=qa9 (kept.eraseIdx i++(kept++rest).drop (kept.length-1)):=by
 unfold splice qa9;rw [←List.map_take,List.length_map,Zq,←List.map_drop,←List.map_append,←List.map_append,List.eraseIdx_eq_take_drop_succ,List.take_append_of_le_length (Nat.le_of_lt h),List.append_assoc,show i+(kept.length-(i+1))=kept.length-1 by omega]
theorem qhF {w:Zp1} {k:Nat} {t:TypeId} {kept rest:List Int} {i:Nat} (h:i<kept.length) (hb:Blk w k t (qa9 (kept++rest)).toArray):
  Blk (w.setCells k i (qa9 (kept.drop (i+1)))) k t (qa9 (kept.eraseIdx i++(kept++rest).drop (kept.length-1))).toArray:=by
 rw [←qeu kept rest i h];exact qaj _ _ _ _ hb (by simp [qa9];omega)
theorem qcT {k g':Nat} (hne:g'≠k):∀(vs:List Value) (o:Nat) (w:Zp1),(w.setCells k o vs).heap[g']? = w.heap[g']?
 | [],_,_=>rfl
 | v::r,o,w=>(qcT hne r (o+1) (w.setCell ⟨k,o,none⟩ v)).trans (Below.heap_setCell w ⟨k,o,none⟩ v g' hne)
theorem qcU {W0:Zp1} {k:Nat} (hk:W0.heap.size<=k):∀(vs:List Value) (o:Nat) {w:Zp1},Later W0 w->Later W0 (w.setCells k o vs)
 | [],_,_,h=>h
 | v::r,o,_,h=>qcU hk r (o+1) (h.set (p:=⟨k,o,none⟩) hk v)
structure GrM (A N:Option Addr) (c d:Nat) (n:aA) (W0:Zp1) (g k p:Nat) (kept:List Int) (W:Zp1):Prop where
 later:Later W0 W
 box:Blk W p 136 #[sQ A n.inn.length c,sQ N n.o.length d,sQ (some ⟨g,0,none⟩) (n.o.length+1) (n.o.length+1),sQ (some ⟨k,0,none⟩) kept.length n.o.length]
 words:Blk W g 3 (qa9 (Nt.words n)).toArray
 row:∃rest,Blk W k 3 (qa9 (kept++rest)).toArray/\kept.length+rest.length=n.o.length
 rng:∀z∈kept,1<=z/\z<=n.o.length
 gk:g≠k
 gp:g≠p
 kp:k≠p
 hp:W0.heap.size<=p
 hk:W0.heap.size<=k
section
variable {A N:Option Addr} {c d g k p:Nat} {n:aA} {W0 W W':Zp1} {kept:List Int}
theorem GrM.to_later (h:GrM A N c d n W0 g k p kept W) (hl:Later W W'):GrM A N c d n W0 g k p kept W':=by
 obtain ⟨r,hr,ha⟩:=h.row;exact ⟨h.later.trans hl,hl.blk h.box,hl.blk h.words,⟨r,hl.blk hr,ha⟩,h.rng,h.gk,h.gp,h.kp,h.hp,h.hk⟩
theorem GrM.ints (h:GrM A N c d n W0 g k p kept W):Ints iQ W (some ⟨k,0,none⟩) kept:=by
 obtain ⟨r,hr,-⟩:=h.row
 exact Ints.dN λj hj=>by
  rw [Zw,hr.cell];simp [qa9];rw [Zm (by simpa using hj)];simp [hj]
theorem GrM.jH (h:GrM A N c d n W0 g k p kept W) {i:Nat} (hi:i<kept.length):W.cell? ⟨k,i,none⟩=some (nQ iQ (kept.getD i 0)):=by
 obtain ⟨r,hr,-⟩:=h.row;rw [hr.cell];simp [qa9];rw [Zm (by simpa using hi)];simp [hi]
theorem GrM.tT (h:GrM A N c d n W0 g k p kept W) {i:Nat} (hi:i<kept.length):∃u:Nat,kept.getD i 0=(u:Int)/\1<=u/\u<=n.o.length:=by
 have h1:=h.rng _ (gmZ hi);have e:kept.getD i 0=kept[i]:=by simp [hi]
 rw [e];exact ⟨kept[i].toNat,by omega,by omega,by omega⟩
theorem GrM.rY (h:GrM A N c d n W0 g k p kept W) (hw:(Nt.words n).length=n.o.length+1) {u:Nat} (hu:u<=n.o.length):W.cell? ⟨g,u,none⟩=some (nQ iQ (Gr.wd (Nt.words n) u)):=by
 rw [h.words.cell];unfold Gr.wd;simp [qa9];rw [geZ oZ];simp
theorem GrM.erase (h:GrM A N c d n W0 g k p kept W) {i:Nat} (hi:i<kept.length):
  GrM A N c d n W0 g k p (kept.eraseIdx i) ((W.setCells k i (qa9 (kept.drop (i+1)))).setCell ⟨p,3,none⟩ (sQ (some ⟨k,0,none⟩) (kept.length-1) n.o.length)):=by
 obtain ⟨r,hr,hl⟩:=h.row;have e1:=qhF hi hr;have hs:∀g' (t:TypeId) cs,g'≠k->Blk W g' t cs->Blk (W.setCells k i (qa9 (kept.drop (i+1)))) g' t cs:=λg' t cs hc hb=>(qcT hc _ _ _).trans hb
 have ha:(kept.eraseIdx i).length=kept.length-1:=by rw [List.length_eraseIdx,ipZ hi]
 refine ⟨?_,?_,(hs _ _ _ h.gk h.words).far (p:=⟨p,3,none⟩) h.gp _,⟨_,e1.far (p:=⟨p,3,none⟩) h.kp _,?_⟩,λz hz=>h.rng z (List.mem_of_mem_eraseIdx hz),h.gk,h.gp,h.kp,h.hp,h.hk⟩
 ·exact (qcU h.hk _ _ h.later).set (p:=⟨p,3,none⟩) h.hp _
 ·have:=(hs _ _ _ (Ne.symm h.kp) h.box).aU 3 (sQ (some ⟨k,0,none⟩) (kept.length-1) n.o.length)
  rw [ha];simpa using this
 ·rw [ha]
  simp;omega
end
theorem KpL.cells {L:List Nat} {w:Zp1} {k:Nat} (hk:k∈L):∀(vs:List Value) (o:Nat) {w':Zp1},KpL L w w'->KpL L w (w'.setCells k o vs)
 | [],_,_,h=>h
 | v::r,o,_,h=>KpL.cells hk r (o+1) (h.set (p:=⟨k,o,none⟩) hk v)
set_option maxRecDepth 100000 in
theorem qcc (A N:Option Addr) (c d g k p:Nat) (n:aA) (W0:Zp1) (kept:List Int) (W:Zp1) (hw:(Nt.words n).length=n.o.length+1) (hn:n.o.length<=1000) (hM:GrM A N c d n W0 g k p kept W):
  Calls prog 67 #[.pointer (some ⟨p,0,none⟩)] W λe w'=>((kept=[]/\e=.returned (.bool false)/\GrM A N c d n W0 g k p kept w')∨(kept≠[]/\e=.returned (.bool true)/\GrM A N c d n W0 g k p (Gr.less (Nt.words n) kept) w'))/\KpL [k,p] W w':=by
 have p3:W.cell? ⟨p,3,none⟩=some (sQ (some ⟨k,0,none⟩) kept.length n.o.length):=hM.box.cell 3;obtain ⟨i0,hi,hA,hz,hy⟩:=info_parts qag
 by_cases h0:kept=[]
 ·subst h0
  rw [List.length_nil] at p3;have HM:=zI hM;clear hM;clear hi hA hz hy;go_in;go_wp2_with fail;go_ret;exact ⟨.inl ⟨by trivial,rfl,HM.out⟩,KpL.refl _ _⟩
 ·have hs:0<kept.length:=List.length_pos_iff.2 h0
  have e1:((kept.length:Int)==0)=false:=by simp [h0]
  have hL:kept.length<=n.o.length:=by obtain ⟨r,-,hr⟩:=hM.row;omega
  have hS:=zI λj (h:j<=kept.length)=>Gr.tJ (Nt.words n) kept hs j h
  obtain ⟨HM,Hw,H0,Hi,hW,hk,hX⟩:=zd7 hM hw h0 hi hA hz hy;clear hM hw h0 hi hA hz hy;go_in;go_wp2_with fail;generalize hws:Nt.words n=ws at *;have hd:=zI hws;clear hws
  go_loopw [3,4,5,17] (λa _ _ i wr=>∃j:Nat,j<=kept.length/\i=nQ iQ (j:Int)/\a=nQ iQ ((Gr.at_ ws kept j:Nat):Int)/\GrM A N c d n W0 g k p kept wr/\Later W wr) (λ_ _ _ i _=>kept.length-(intOf i).toNat)
  case atStart=>exact ⟨0,Zt _,rfl,rfl,HM.out,Later.refl _⟩
  case round=>
   obtain ⟨j,hj,rfl,rfl,ha,hp⟩:=hrel;clear HM p3;have hx:=hS.out j hj;have p2:wr.cell? ⟨p,2,none⟩=some (sQ (some ⟨g,0,none⟩) (n.o.length+1) (n.o.length+1)):=ha.box.cell 2;have p3:wr.cell? ⟨p,3,none⟩=some (sQ (some ⟨k,0,none⟩) kept.length n.o.length):=ha.box.cell 3
   by_cases hJ:j<kept.length
   ·obtain ⟨u,hu,hU,hQ⟩:=ha.tT hJ
    obtain ⟨v,hv,hV,hR⟩:=ha.tT hx;have y1:=ha.jH hJ;have y2:=ha.jH hx;have y3:=ha.rY (by rw [hd.out];exact Hw.out) hQ;have y4:=ha.rY (by rw [hd.out];exact Hw.out) hR;rw [hd.out] at y3 y4;have he:Gr.at_ ws kept (j+1)=if Gr.wd ws v<Gr.wd ws u then j else Gr.at_ ws kept j:=by rw [Gr.at_,hv,hu]
    rw [hu] at y1;rw [hv] at y2;generalize Gr.at_ ws kept j=aj at *;generalize Gr.wd ws (v:Int)=wv at *;generalize Gr.wd ws (u:Int)=wu at *;have q1:(j:Int)<(kept.length:Int):=by omega
    have q2:(0:Int)<=(u:Int):=by omega
    have q3:(u:Int)<((n.o.length+1:Nat):Int):=by omega
    have q4:(0:Int)<=(v:Int):=by omega
    have q5:(v:Int)<((n.o.length+1:Nat):Int):=by omega
    have q6:(0:Int)<=(aj:Int):=by omega
    have q7:(aj:Int)<(kept.length:Int):=by omega
    have hB:∀m,GrM A N c d n W0 g k p kept (wr.drewN m):=λm=>ha.to_later (Later.drewN (Later.refl _) m)
    have hg:∀m,Later W (wr.drewN m):=λm=>hp.drewN m
    obtain ⟨hH,hh⟩:=zd2 hB hg;clear hB hg;clear ha hu hv hp
    by_cases hc:wv<wu
    ·rw [ipZ hc] at he
     have ht:=zI he;clear he;go_wp2_with fail
     go_quiet (fail)
     go_wp2_with fail;go_roundw
     case rel=>exact ⟨j+1,by omega,by go_num,by rw [ht.out],hH.out _,hh.out _⟩
     case measure=>simp [intOf];omega
    ·rw [inZ hc] at he
     have ht:=zI he;clear he;go_wp2_with fail
     go_quiet (fail)
     go_wp2_with fail;go_roundw
     case rel=>exact ⟨j+1,by omega,by go_num,by rw [ht.out],hH.out _,hh.out _⟩
     case measure=>simp [intOf];omega
   ·obtain rfl:j=kept.length:=by omega
    have hN:Gr.less ws kept=kept.eraseIdx (Gr.at_ ws kept kept.length):=rfl;generalize Gr.at_ ws kept kept.length=aj at *;have q6:(0:Int)<=(aj:Int):=by omega
    have q7:(aj:Int)<(kept.length:Int):=by omega
    have q8:iQ.wrap ((aj:Int)+1)=(aj:Int)+1:=Zc1 _ oZ;have q9:((aj:Int)+1).toNat=aj+1:=by omega
    have q10:(aj:Int)+1<=(kept.length:Int):=by omega
    have q11:(0:Int)<=(aj:Int)+1:=by omega
    have q12:(aj:Int)<=(kept.length:Int):=by omega
    have q13:(aj:Int)<=(n.o.length:Int):=by omega
    have q14:(aj:Int)+1<=(n.o.length:Int):=by omega
    have q15:(kept.length:Int)<=(n.o.length:Int):=by omega
    have hE:=λm=>(ha.to_later (Later.drewN (Later.refl wr) m)).erase hx
    have hG:∀m,KpL [k,p] W (((wr.drewN m).setCells k aj (qa9 (kept.drop (aj+1)))).setCell ⟨p,3,none⟩ (sQ (some ⟨k,0,none⟩) (kept.length-1) n.o.length)):=λm=>KpL.set (p:=⟨p,3,none⟩) (KpL.cells sZ _ _ (KpL.of_later (hp.drewN m))) sZ _
    have p0:wr.cell? ⟨p,0,none⟩=some (sQ A n.inn.length c):=ha.box.cell 0;have hO:=λj (h:j<kept.length-(aj+1))=>(ha.jH (i:=aj+1+j) oZ)
    have hF:Blk (wr.drew.setCells k aj (qa9 (kept.drop (aj+1)))) p 136 #[sQ A n.inn.length c,sQ N n.o.length d,sQ (some ⟨g,0,none⟩) (n.o.length+1) (n.o.length+1),sQ (some ⟨k,0,none⟩) kept.length n.o.length]:=(qcT (Ne.symm ha.kp) _ _ _).trans ha.box
    have hD:∀j,j<(qa9 (kept.drop (aj+1))).length->(wr.drew.cell? ⟨k,0+aj*1+j,none⟩).isSome=true/\wr.drew.frozen? ⟨k,0+aj*1+j,none⟩=false:=λj hj=>by
     obtain ⟨r,hr,hl⟩:=ha.row;simp [qa9] at hj;obtain ⟨v,hv⟩:=hr.has (j:=0+aj*1+j) (by rw [qat,Ze];omega);exact ⟨by rw [show wr.drew.cell? ⟨k,0+aj*1+j,none⟩=some v from hv];rfl,hr.frozen _⟩
    obtain ⟨HE,hT,hm,hC,hb,ho,hq⟩:=zd7 hE ha hN hO hF hD hG;clear hE ha hN hO hF hD hG;clear hp;clear p2
    by_cases hf:n.o.length=aj+1
    ·have hP:(n.o.length=aj+1)=True:=eq_true hf
     have hI:=zI hf;clear hf;go_wp2_with fail;have KF:=zI (show ∀Xw,Later wr Xw->Xw.cell? ⟨p,0,none⟩=some (sQ A n.inn.length c) from λXw h=>h.cell p0);refine Zm1 ?_;refine Zl1 (S:=λXw=>Xw.cell? ⟨p,0,none⟩=some (sQ A n.inn.length c)) krZ (KF.out _ Lau) (λhHeld=>?_);refine tk 0 ?_;refine tk 1 ?_;refine tk 2 ?_;refine tk 3 ?_;refine tk 5 ?_;refine tk 7 ?_;refine tk 8 ?_;refine tk 9 ?_;refine tk 11 ?_;refine tk 12 ?_;refine Zo1 (rs:=[4,10]) krZ sZ ?_;refine Zf1 (o:=_) rfl (λK hK=>?_) (Zf1 (o:=_) rfl (λK hK=>?_) (Zg1))
     ·simp only [ga,gs,gz]
      go_simp
      refine hK.out _ _ (KF.out _ Lau) (λhHeld=>?_);clear hK K
      try simp only [ga,gs,gz,Act.put,sa,sz,ss]
      refine tk 6 ?_;refine rd 10 λK hK=>?_
      simp only [ga,gs,gz]
      go_simp
      refine hK.out _ _ (KF.out _ Lau) (λhHeld=>?_);clear hK K
      try simp only [ga,gs,gz,Act.put,sa,sz,ss]
      refine tk 13 ?_;refine rd 14 λK hK=>?_
      refine step_append_room rfl (.tmp 51) (.tmp 58) 22 rfl 3 i0 1 underlying22 Hi.out hk.out k 0 aj n.o.length rfl _ _ _ (qa9 (kept.drop (aj+1))) rfl (by simp [qa9]) (λj u hu=>by have h1:=(List.getElem?_eq_some_iff.1 hu).1;simp [qa9] at h1;have:=hI.out;omega) (λu hu=>by simp only [qa9,List.mem_map] at hu;obtain ⟨z,-,rfl⟩:=hu;rfl) oZ ho.out ?_;rw [show aj+(kept.length-(aj+1))=kept.length-1 by omega,show 0+aj*1=aj by omega];replace p0:=hb.out.cell 0;have y3:=hb.out.cell 3;have f3:=hb.out.frozen 3;refine hK.out _ _ (by first|exact p0|exact KF.out _ Lau) (λhHeld=>?_);clear hK K
      try simp only [ga,gs,gz,Act.put,sa,sz,ss]
      refine tk 15 ?_;refine tk 16 ?_;refine rd 17 λK hK=>?_
      simp only [ga,gs,gz]
      go_simp
      replace p0:=(hb.out.aU 3 (sQ (some ⟨k,0,none⟩) (kept.length-1) n.o.length)).cell 0
      try go_wp2_with fail
      refine hK.out _ _ (by first|exact p0|exact KF.out _ Lau) (λhHeld=>?_);clear hK K
      try simp only [ga,gs,gz,Act.put,sa,sz,ss]
      clear KF;refine Zn1 krZ ?_ _;refine Zd1 ?_;go_wp2_with fail;go_ret;exact ⟨.inr ⟨H0.out,rfl,by rw [hd.out,hm.out];exact HE.out 1⟩,hq.out 1⟩
     ·simp only [ga,gs,gz]
      go_simp
      refine hK.out _ _ (KF.out _ Lau) (λhHeld=>?_);clear hK K
      try simp only [ga,gs,gz,Act.put,sa,sz,ss]
      refine tk 13 ?_;refine rd 4 λK hK=>?_
      simp only [ga,gs,gz]
      go_simp
      refine hK.out _ _ (KF.out _ Lau) (λhHeld=>?_);clear hK K
      try simp only [ga,gs,gz,Act.put,sa,sz,ss]
      refine tk 6 ?_;refine rd 14 λK hK=>?_
      refine step_append_room rfl (.tmp 51) (.tmp 58) 22 rfl 3 i0 1 underlying22 Hi.out hk.out k 0 aj n.o.length rfl _ _ _ (qa9 (kept.drop (aj+1))) rfl (by simp [qa9]) (λj u hu=>by have h1:=(List.getElem?_eq_some_iff.1 hu).1;simp [qa9] at h1;have:=hI.out;omega) (λu hu=>by simp only [qa9,List.mem_map] at hu;obtain ⟨z,-,rfl⟩:=hu;rfl) oZ ho.out ?_;rw [show aj+(kept.length-(aj+1))=kept.length-1 by omega,show 0+aj*1=aj by omega];replace p0:=hb.out.cell 0;have y3:=hb.out.cell 3;have f3:=hb.out.frozen 3;refine hK.out _ _ (by first|exact p0|exact KF.out _ Lau) (λhHeld=>?_);clear hK K
      try simp only [ga,gs,gz,Act.put,sa,sz,ss]
      refine tk 15 ?_;refine tk 16 ?_;refine rd 17 λK hK=>?_
      simp only [ga,gs,gz]
      go_simp
      replace p0:=(hb.out.aU 3 (sQ (some ⟨k,0,none⟩) (kept.length-1) n.o.length)).cell 0
      try go_wp2_with fail
      refine hK.out _ _ (by first|exact p0|exact KF.out _ Lau) (λhHeld=>?_);clear hK K
      try simp only [ga,gs,gz,Act.put,sa,sz,ss]
      clear KF;refine Zn1 krZ ?_ _;refine Zd1 ?_;go_wp2_with fail;go_ret;exact ⟨.inr ⟨H0.out,rfl,by rw [hd.out,hm.out];exact HE.out 1⟩,hq.out 1⟩
    ·have hP:(n.o.length=aj+1)=False:=eq_false hf
     clear hf;go_wp2_with fail;have KF:=zI (show ∀Xw,Later wr Xw->Xw.cell? ⟨p,0,none⟩=some (sQ A n.inn.length c) from λXw h=>h.cell p0);refine Zm1 ?_;refine Zl1 (S:=λXw=>Xw.cell? ⟨p,0,none⟩=some (sQ A n.inn.length c)) krZ (KF.out _ Lau) (λhHeld=>?_);refine tk 0 ?_;refine tk 1 ?_;refine tk 2 ?_;refine tk 3 ?_;refine tk 5 ?_;refine tk 7 ?_;refine tk 8 ?_;refine tk 9 ?_;refine tk 11 ?_;refine tk 12 ?_;refine Zo1 (rs:=[4,10]) krZ sZ ?_;refine Zf1 (o:=_) rfl (λK hK=>?_) (Zf1 (o:=_) rfl (λK hK=>?_) (Zg1))
     ·simp only [ga,gs,gz]
      go_simp
      refine hK.out _ _ (KF.out _ Lau) (λhHeld=>?_);clear hK K
      try simp only [ga,gs,gz,Act.put,sa,sz,ss]
      refine tk 6 ?_;refine rd 10 λK hK=>?_
      simp only [ga,gs,gz]
      go_simp
      refine hK.out _ _ (KF.out _ Lau) (λhHeld=>?_);clear hK K
      try simp only [ga,gs,gz,Act.put,sa,sz,ss]
      refine tk 13 ?_;refine rd 14 λK hK=>?_
      refine step_append_room rfl (.tmp 51) (.tmp 58) 22 rfl 3 i0 1 underlying22 Hi.out hk.out k 0 aj n.o.length rfl _ _ _ (qa9 (kept.drop (aj+1))) rfl (by simp [qa9]) (λj u hu=>by have h1:=(List.getElem?_eq_some_iff.1 hu).1;simp [qa9] at h1;have h2:=hC.out j h1;rw [show ∀(q:Nat),(⟨k,q,none⟩:Addr).add j=⟨k,q+j,none⟩ from λ_=>by simp [Addr.add]];refine Eq.trans (show wr.drew.cell? ⟨k,aj+1+j,none⟩=wr.cell? ⟨k,aj+1+j,none⟩ from rfl) ?_;rw [h2,←hu];simp [qa9];rw [geZ oZ];simp) (λu hu=>by simp only [qa9,List.mem_map] at hu;obtain ⟨z,-,rfl⟩:=hu;rfl) oZ ho.out ?_;rw [show aj+(kept.length-(aj+1))=kept.length-1 by omega,show 0+aj*1=aj by omega];replace p0:=hb.out.cell 0;have y3:=hb.out.cell 3;have f3:=hb.out.frozen 3;refine hK.out _ _ (by first|exact p0|exact KF.out _ Lau) (λhHeld=>?_);clear hK K
      try simp only [ga,gs,gz,Act.put,sa,sz,ss]
      refine tk 15 ?_;refine tk 16 ?_;refine rd 17 λK hK=>?_
      simp only [ga,gs,gz]
      go_simp
      replace p0:=(hb.out.aU 3 (sQ (some ⟨k,0,none⟩) (kept.length-1) n.o.length)).cell 0
      try go_wp2_with fail
      refine hK.out _ _ (by first|exact p0|exact KF.out _ Lau) (λhHeld=>?_);clear hK K
      try simp only [ga,gs,gz,Act.put,sa,sz,ss]
      clear KF;refine Zn1 krZ ?_ _;refine Zd1 ?_;go_wp2_with fail;go_ret;exact ⟨.inr ⟨H0.out,rfl,by rw [hd.out,hm.out];exact HE.out 1⟩,hq.out 1⟩
     ·simp only [ga,gs,gz]
      go_simp
      refine hK.out _ _ (KF.out _ Lau) (λhHeld=>?_);clear hK K
      try simp only [ga,gs,gz,Act.put,sa,sz,ss]
      refine tk 13 ?_;refine rd 4 λK hK=>?_
      simp only [ga,gs,gz]
      go_simp
      refine hK.out _ _ (KF.out _ Lau) (λhHeld=>?_);clear hK K
      try simp only [ga,gs,gz,Act.put,sa,sz,ss]
      refine tk 6 ?_;refine rd 14 λK hK=>?_
      refine step_append_room rfl (.tmp 51) (.tmp 58) 22 rfl 3 i0 1 underlying22 Hi.out hk.out k 0 aj n.o.length rfl _ _ _ (qa9 (kept.drop (aj+1))) rfl (by simp [qa9]) (λj u hu=>by have h1:=(List.getElem?_eq_some_iff.1 hu).1;simp [qa9] at h1;have h2:=hC.out j h1;rw [show ∀(q:Nat),(⟨k,q,none⟩:Addr).add j=⟨k,q+j,none⟩ from λ_=>by simp [Addr.add]];refine Eq.trans (show wr.drew.cell? ⟨k,aj+1+j,none⟩=wr.cell? ⟨k,aj+1+j,none⟩ from rfl) ?_;rw [h2,←hu];simp [qa9];rw [geZ oZ];simp) (λu hu=>by simp only [qa9,List.mem_map] at hu;obtain ⟨z,-,rfl⟩:=hu;rfl) oZ ho.out ?_;rw [show aj+(kept.length-(aj+1))=kept.length-1 by omega,show 0+aj*1=aj by omega];replace p0:=hb.out.cell 0;have y3:=hb.out.cell 3;have f3:=hb.out.frozen 3;refine hK.out _ _ (by first|exact p0|exact KF.out _ Lau) (λhHeld=>?_);clear hK K
      try simp only [ga,gs,gz,Act.put,sa,sz,ss]
      refine tk 15 ?_;refine tk 16 ?_;refine rd 17 λK hK=>?_
      simp only [ga,gs,gz]
      go_simp
      replace p0:=(hb.out.aU 3 (sQ (some ⟨k,0,none⟩) (kept.length-1) n.o.length)).cell 0
      try go_wp2_with fail
      refine hK.out _ _ (by first|exact p0|exact KF.out _ Lau) (λhHeld=>?_);clear hK K
      try simp only [ga,gs,gz,Act.put,sa,sz,ss]
      clear KF;refine Zn1 krZ ?_ _;refine Zd1 ?_;go_wp2_with fail;go_ret;exact ⟨.inr ⟨H0.out,rfl,by rw [hd.out,hm.out];exact HE.out 1⟩,hq.out 1⟩
theorem qfc (A N:Option Addr) (c d g k p:Nat) (n:aA) (W0:Zp1) (kept:List Int) (W:Zp1) (hw:(Nt.words n).length=n.o.length+1) (hn:n.o.length<=1000) (hM:GrM A N c d n W0 g k p kept W):
  Calls prog 67 #[.pointer (some ⟨p,0,none⟩)] W λe w'=>(kept=[]/\e=.returned (.bool false)/\GrM A N c d n W0 g k p kept w')∨(kept≠[]/\e=.returned (.bool true)/\GrM A N c d n W0 g k p (Gr.less (Nt.words n) kept) w'):=
 (qcc A N c d g k p n W0 kept W hw hn hM).mono λ_ _ h=>h.1
namespace Rt
def picks (os:List Int) (s:Nat) (j:Nat):List Int:=(List.range j).map λi=>os.getD ((i+1)*s-1) 0
theorem picks_succ (os:List Int) (s j:Nat):picks os s (j+1)=picks os s j++[os.getD ((j+1)*s-1) 0]:=by simp [picks,List.range_succ]
theorem pE (os:List Int) (s j:Nat):(picks os s j).length=j:=by simp [picks]
def every (os:List Int) (s:Nat):List Int:=(picks os s (os.length / s)).mergeSort λx y=>decide (x<=y)
theorem pX (os:List Int) (s:Nat):(every os s).length=os.length / s:=by simp [every,pE]
theorem every_mem {os:List Int} {s:Nat} {z:Int}:z∈every os s↔z∈picks os s (os.length / s):=by unfold every;exact List.mem_mergeSort
theorem sM {os:List Int} {s i:Nat} (hs:1<=s) (hi:i<os.length / s):(i+1)*s-1<os.length/\1<=(i+1)*s:=by
 have h1:(i+1)*s<=os.length / s*s:=mlZ s oZ;have h2:=Nat.div_mul_le_self os.length s;have h3:1*s<=(i+1)*s:=mlZ s oZ;omega
theorem nodup_at {l:List Int} (hn:l.Nodup) {i j:Nat} (hi:i<l.length) (hj:j<l.length) (h:l[i]=l[j]):i=j:=by
 have hp:=List.pairwise_iff_getElem.1 hn;rcases Nat.lt_trichotomy i j with h1|h1|h1
 ·exact absurd h (hp i j hi hj h1)
 ·exact h1
 ·exact absurd h.symm (hp j i hj hi h1)
end Rt
theorem qev:∀(f x:Nat),x<2 ^ f->0<x->x<2 ^ Lib.bitLenAux f x/\1<=Lib.bitLenAux f x/\Lib.bitLenAux f x<=f
 | 0,x,h,h0=>by simp at h;omega
 | f+1,x,h,h0=>by
  rw [Lib.bitLenAux,inZ oZ]
  by_cases h1:x=1
  ·subst h1
   cases f<;>simp [Lib.bitLenAux]
  ·have ⟨a,b,c⟩:=qev f (x / 2) (by rw [Nat.pow_succ] at h;omega) oZ
   refine ⟨?_,by omega,by omega⟩;rw [Nat.add_comm,Nat.pow_succ];omega
theorem qgk (x:Nat) (h0:0<x) (h:x<2 ^ 63):(Lib.bitLen x-1) / 2<=31/\(x:Int)<(0+2 ^ ((Lib.bitLen x-1) / 2+1))*(0+2 ^ ((Lib.bitLen x-1) / 2+1))/\1<=Lib.bitLen x/\Lib.bitLen x<=63:=by
 have e:Lib.bitLen x=Lib.bitLenAux 63 x:=Lib.bitLenAux_fuel 63 x h 64 oZ;have ⟨a,b,c⟩:=qev 63 x h h0;rw [e];generalize Lib.bitLenAux 63 x=L at a b c;refine ⟨by omega,?_,b,c⟩;rw [Int.zero_add,←Int.pow_add];have:2 ^ L<=2 ^ ((L-1) / 2+1+((L-1) / 2+1)):=Nat.pow_le_pow_right oZ oZ;have h3:x<2 ^ ((L-1) / 2+1+((L-1) / 2+1)):=by omega
 exact_mod_cast h3
def qcV (j:Nat):Int:=2 ^ j / 2
theorem qew:qcV 0=0:=by decide
theorem qcd (j:Nat):qcV (j+1)=2 ^ j:=by
 unfold qcV;rw [Int.pow_succ];omega
theorem qex (j:Nat):(2:Int) ^ j / 2=qcV j:=rfl
theorem tC (j:Nat) (h:j<=31):(1:Int)<=2 ^ j/\(2:Int) ^ j<=2147483648:=by
 have h1:2 ^ j<=2 ^ 31:=Nat.pow_le_pow_right oZ h;have h2:0<2 ^ j:=Nat.pow_pos oZ;have e:((2 ^ j:Nat):Int)=2 ^ j:=Int.natCast_pow 2 j;rw [←e];omega
theorem root_bd {r n:Int} (h0:0<=r) (h:r*r<=n) (hn:n<=9223372036854775807):r<=4294967296:=by
 rcases Int.lt_or_le 4294967296 r with h1|h1
 ·have:=Int.mul_le_mul (Int.le_of_lt h1) (Int.le_of_lt h1) oZ h0
  omega
 ·exact h1
theorem qgl (n:Int) (w:Zp1) (hl : -9223372036854775808<=n) (hh:n<=9223372036854775807):
  Calls prog 55 #[nQ iQ n] w λe w'=>e=.returned (nQ iQ (Safe.bC n))/\w=w':=by
 by_cases hn:n<=0
 ·have ha:=zI (Safe.lQ hn)
  go_in;go_wp2_with fail;go_ret;exact ⟨qbi (by rw [ha.out]),rfl⟩
 ·have hi:1<=n:=by omega
  clear hn;obtain ⟨x,rfl⟩:=ezZ (show 0<=n by omega);obtain ⟨hm,hx,he,hc⟩:=qgk x oZ oZ;have HX:=zI hx;have HP:=zI (tC _ hm);clear hx;go_in;go_wp2_with fail;refine (Tryz.bits_Len (x:Int) _ oZ oZ).mono ?_;rintro e w' ⟨rfl,hw⟩;obtain rfl:=hw.symm;clear hw;rw [tnZ];generalize Lib.bitLen x=L at HX HP hm he hc;go_wp2_with fail
  go_loop [3,4,5] (λr b _=>∃(j:Nat) (q:Int),j<=32/\0<=q/\r=nQ iQ q/\b=nQ iQ (qcV j)/\q*q<=(x:Int)/\(x:Int)<(q+2 ^ j)*(q+2 ^ j)) (λ_ b _=>(intOf b).toNat)
  case atStart=>
   refine ⟨(L-1) / 2+1,0,by omega,by omega,rfl,?_,by omega,HX.out⟩;rw [qcd,IntWalk.wrap64_in _ ⟨by have:=HP.out;omega,by have:=HP.out;omega⟩]
  case round=>
   obtain ⟨j,q,hj,hq,rfl,rfl,h1,h2⟩:=hrel;obtain ⟨H1,H2⟩:=zd2 h1 h2;have hg:=root_bd hq h1 hh;clear h1 h2;rcases j with _|j
   ·rw [qew]
    have ha:=zI (Safe.isqrt_uniq hq H1.out (by simpa using H2.out));go_wp2_with fail;go_ret;exact ⟨qbi (by rw [←ha.out]),rfl⟩
   ·have ⟨hp1,hp2⟩:=tC j oZ
    have HB:=zI (qex j);rw [qcd];have e2:(2:Int) ^ (j+1)=2*2 ^ j:=by rw [Int.pow_succ,Int.mul_comm]
    rw [e2] at H2;clear e2;generalize hpe:(2:Int) ^ j=p at hp1 hp2 HB H2;have HE:=zI hpe;clear hpe;have hk:0<=(x:Int) / (q+p):=Int.ediv_nonneg oZ oZ;have hf:(x:Int) / (q+p)<=9223372036854775807:=Int.le_trans (Int.ediv_le_self _ oZ) hh
    by_cases hb:(q+p)*(q+p)<=(x:Int)
    ·have hd:q+p<=(x:Int) / (q+p):=(Int.le_ediv_iff_mul_le oZ).2 hb
     have HL:=zI hb;clear hb;go_wp2_with fail
     go_round
     case rel=>exact ⟨j,q+p,by omega,by omega,rfl,by rw [HB.out],HL.out,by rw [HE.out];have:=H2.out;rw [show q+p+p=q+2*p by omega];exact this⟩
     case measure=>simp [intOf];omega
    ·have hd:(x:Int) / (q+p)<q+p:=by
      rcases Int.lt_or_le ((x:Int) / (q+p)) (q+p) with h|h
      ·exact h
      ·exact absurd ((Int.le_ediv_iff_mul_le oZ).1 h) hb
     have HL:=zI hb;clear hb;go_wp2_with fail
     go_round
     case rel=>exact ⟨j,q,by omega,by omega,rfl,by rw [HB.out],H1.out,by rw [HE.out];have:=HL.out;omega⟩
     case measure=>simp [intOf];omega
theorem qbV (a:RtA) (n:aA) (kb:List Bool) (W0:Zp1) (s:RtS) (W:Zp1) (hM:RtM a n kb W0 s W) (hlen:s.code.length<=60000):
  Calls prog 118 #[.pointer (some ⟨a.p,0,none⟩)] W λe w'=>e=.returned (.bool false)/\W=w':=by
 obtain ⟨v,hb,ho,-,-,-,-,-,-,-,-,c8⟩:=hM.eB;obtain ⟨A,c,rfl⟩:=qa8 ho;have h1:decide ((65536:Int)<(s.code.length:Int))=false:=by simp;omega
 clear ho hb hM;go_in;go_wp2_with fail;go_ret;exact ⟨rfl,rfl⟩
set_option maxRecDepth 100000 in
theorem qbE (a:RtA) (n:aA) (kb:List Bool) (W0:Zp1) (s:RtS) (W:Zp1) (hS:a.Still n W0) (hM:RtM a n kb W0 s W) (k:Int) (id:Nat) (hid:id<=n.o.length) (hlen:s.code.length<=60000):
  Calls prog 145 #[.pointer (some ⟨a.p,0,none⟩),nQ iQ k,nQ iQ id] W (RtP a n kb W0 (Rt.comp k id s) W):=by
 have hm:=hS.m12;have HS:=zI hS;clear hS;go_in;go_wp2_with fail;refine (qb5 a n kb W0 s W HS.out hM k id oZ).mono ?_;rintro e w1 ⟨rfl,hb,hd⟩;obtain ⟨v,-,-,-,-,-,-,-,-,-,c7,-⟩:=hb.eB;have ha:=hb.lZ HS.out id true;have he:Rt.comp k id s=⟨(Rt.add k id s).aC.set id true,(Rt.add k id s).code⟩:=by unfold Rt.comp Rt.add Ck.bD;rw [tnZ]
 rw [←he] at ha;have f0:w1.frozen? ⟨a.g3,id,none⟩=false:=hb.aC.frozen id;have x0:=hb.kG hid;have q1:(0:Int)<=(id:Int):=by omega
 have q2:(id:Int)<((n.o.length+1:Nat):Int):=by omega
 obtain ⟨hc,hf⟩:=zd2 ha hd;clear ha hd;clear hM hb he;go_wp2_with fail
 go_end0
 exact ⟨rfl,hc.out.1,hf.out.trans hc.out.2⟩
set_option maxRecDepth 100000 in
theorem qbW (a:RtA) (n:aA) (kb:List Bool) (W0:Zp1) (s:RtS) (W:Zp1) (hS:a.Still n W0) (hM:RtM a n kb W0 s W) (id:Nat) (hid:id<=n.o.length) (hlen:s.code.length<=60000):
  Calls prog 116 #[.pointer (some ⟨a.p,0,none⟩),nQ iQ id] W (RtP a n kb W0 (Rt.drop id s) W):=by
 have hm:=hS.m12;have HS:=zI hS;clear hS;go_in;go_wp2_with fail;refine (qb5 a n kb W0 s W HS.out hM 3 id oZ).mono ?_;rintro e w1 ⟨rfl,hb,hd⟩;obtain ⟨v,-,-,-,-,-,-,-,-,-,c7,-⟩:=hb.eB;have ha:=hb.lZ HS.out id false;have he:Rt.drop id s=⟨(Rt.add 3 id s).aC.set id false,(Rt.add 3 id s).code⟩:=by unfold Rt.drop Rt.add Ck.bD;rw [tnZ]
 rw [←he] at ha;have f0:w1.frozen? ⟨a.g3,id,none⟩=false:=hb.aC.frozen id;have x0:=hb.kG hid;have q1:(0:Int)<=(id:Int):=by omega
 have q2:(id:Int)<((n.o.length+1:Nat):Int):=by omega
 obtain ⟨hc,hf⟩:=zd2 ha hd;clear ha hd;clear hM hb he;go_wp2_with fail
 go_end0
 exact ⟨rfl,hc.out.1,hf.out.trans hc.out.2⟩
theorem Rt.qV (f:Int->Bool) (s:RtS) {j:Nat} (h:1<=j):aN f j s=if Ck.at_ (aN f (j-1) s).aC j&&f j then drop j (aN f (j-1) s) else aN f (j-1) s:=by
 obtain ⟨m,rfl⟩:∃m,j=m+1:=⟨j-1,by omega⟩
 exact qaA f m s
theorem Rt.oL (f:Int->Bool):∀(m:Nat) (s:RtS),(aN f m s).code.length<=s.code.length+m
 | 0,_=>lrZ _
 | m+1,s=>by
  have:=Rt.oL f m s;unfold aN
  split
  ·show ((aN f m s).code++_).length<=_
   rw [Ze,List.length_singleton];omega
  ·omega
set_option maxRecDepth 100000 in
theorem qcW (a:RtA) (n:aA) (kb:List Bool) (W0:Zp1) (s:RtS) (W:Zp1) (f:Int->Bool) (b1 b2:Nat) (hS:a.Still n W0) (hM:RtM a n kb W0 s W) (hlen:s.code.length<=50000)
  (hC:∀s' W',RtM a n kb W0 s' W'->RtK a W W'->∀id:Nat,1<=id->id<=n.o.length->Calls prog 147 #[nQ iQ id,.pointer (some ⟨b1,0,none⟩),.pointer (some ⟨b2,0,none⟩)] W' λe w'=>e=.returned (.bool (f id))/\Later W' w'):
  Calls prog 146 #[.pointer (some ⟨a.p,0,none⟩),.func (.func 147) #[] #[.pointer (some ⟨b1,0,none⟩),.pointer (some ⟨b2,0,none⟩)]] W (RtP a n kb W0 (Rt.aN f n.o.length s) W):=by
 have hm:=hS.m12;obtain ⟨HS,HC,HM⟩:=zd3 hS hC hM;clear hS hC hM;go_in;go_wp2_with fail
 go_loopw [4] (λi wx=>∃j:Nat,1<=j/\j<=n.o.length+1/\i=nQ iQ (j:Int)/\RtM a n kb W0 (Rt.aN f (j-1) s) wx/\RtK a W wx) (λi _=>n.o.length+1-(intOf i).toNat)
 case atStart=>exact ⟨1,lrZ _,by omega,rfl,HM.out,RtK.refl _ _⟩
 case round=>
  obtain ⟨j,hu,hA,rfl,hb,he⟩:=hrel;clear HM;have ha:=Rt.qV f s hu;have hq:=Rt.oL f (j-1) s;obtain ⟨v,-,-,-,-,-,-,-,-,-,c7,-⟩:=hb.eB
  by_cases hn:j<=n.o.length
  ·have x0:=hb.kG hn
   have hr:(Rt.aN f (j-1) s).code.length<=60000:=by omega
   generalize Rt.aN f (j-1) s=s' at *;have hg:=zI (HC.out s' wr hb he j hu hn);have hl:=zI (λW2 (h:RtM a n kb W0 s' W2)=>qbW a n kb W0 s' W2 HS.out h j hn hr);have q1:(0:Int)<=(j:Int):=by omega
   have q2:(j:Int)<((n.o.length+1:Nat):Int):=by omega
   clear hq hr;cases hv:Ck.at_ s'.aC j
   ·rw [hv] at x0 ha
    have HE:=zI (show Rt.aN f (j+1-1) s=s' by rw [show j+1-1=j by omega,ha];rfl);obtain ⟨hd,hc⟩:=zd2 hb he;clear hb he;clear hv ha hg hl;go_wp2_with fail;go_roundw
    case rel=>exact ⟨j+1,by omega,by omega,by go_num,by rw [HE.out];exact hd.out,hc.out⟩
    case measure=>simp [intOf];omega
   ·rw [hv] at x0 ha
    cases hf:f j
    ·rw [hf] at ha hg
     have HE:=zI (show Rt.aN f (j+1-1) s=s' by rw [show j+1-1=j by omega,ha];rfl);obtain ⟨hd,hc⟩:=zd2 hb he;clear hb he;clear hv hf ha hl;go_wp2_with fail;refine hg.out.mono ?_;rintro e w2 ⟨rfl,hh⟩;have hi:=hd.out.to_later hh;have hj:=hc.out.trans (RtK.of_later hh);obtain ⟨hx,hk⟩:=zd2 hi hj;clear hi hj;clear hg hh x0 c7 hd hc;go_wp2_with fail;go_roundw
     case rel=>exact ⟨j+1,by omega,by omega,by go_num,by rw [HE.out];exact hx.out,hk.out⟩
     case measure=>simp [intOf];omega
    ·rw [hf] at ha hg
     have HE:=zI (show Rt.aN f (j+1-1) s=Rt.drop j s' by rw [show j+1-1=j by omega,ha];rfl);obtain ⟨hd,hc⟩:=zd2 hb he;clear hb he;clear hv hf ha;go_wp2_with fail;refine hg.out.mono ?_;rintro e w2 ⟨rfl,hh⟩;have hi:=hd.out.to_later hh;have hj:=hc.out.trans (RtK.of_later hh);have ho:=zI (hl.out w2 hi);have hk:=zI hj;clear hj;clear hg hl hh x0 c7 hd hc hi;go_wp2_with fail;refine ho.out.mono ?_;rintro e w3 ⟨rfl,ht,hs⟩;have hp:=hk.out.trans hs;obtain ⟨hy,hw⟩:=zd2 ht hp;clear ht hp;clear ho hk hs;go_wp2_with fail;go_roundw
     case rel=>exact ⟨j+1,by omega,by omega,by go_num,by rw [HE.out];exact hy.out,hw.out⟩
     case measure=>simp [intOf];omega
  ·obtain rfl:j=n.o.length+1:=by omega
   rw [show n.o.length+1-1=n.o.length by omega] at hb;have hz:¬((n.o.length+1:Nat):Int)<((n.o.length+1:Nat):Int):=by omega
   obtain ⟨hd,hc⟩:=zd2 hb he;clear hb he;clear ha hq;go_wp2_with fail
   go_end0
   exact ⟨rfl,hd.out,hc.out⟩
set_option maxRecDepth 100000 in
theorem qcX (a:RtA) (n:aA) (kb:List Bool) (W0:Zp1) (s:RtS) (W:Zp1) (f:Int->Bool) (b1 b2:Nat) (hS:a.Still n W0) (hM:RtM a n kb W0 s W) (hlen:s.code.length<=50000)
  (hC:∀s' W',RtM a n kb W0 s' W'->RtK a W W'->∀id:Nat,1<=id->id<=n.o.length->Calls prog 149 #[nQ iQ id,.pointer (some ⟨b1,0,none⟩),.pointer (some ⟨b2,0,none⟩)] W' λe w'=>e=.returned (.bool (f id))/\Later W' w'):
  Calls prog 146 #[.pointer (some ⟨a.p,0,none⟩),.func (.func 149) #[] #[.pointer (some ⟨b1,0,none⟩),.pointer (some ⟨b2,0,none⟩)]] W (RtP a n kb W0 (Rt.aN f n.o.length s) W):=by
 have hm:=hS.m12;obtain ⟨HS,HC,HM⟩:=zd3 hS hC hM;clear hS hC hM;go_in;go_wp2_with fail
 go_loopw [4] (λi wx=>∃j:Nat,1<=j/\j<=n.o.length+1/\i=nQ iQ (j:Int)/\RtM a n kb W0 (Rt.aN f (j-1) s) wx/\RtK a W wx) (λi _=>n.o.length+1-(intOf i).toNat)
 case atStart=>exact ⟨1,lrZ _,by omega,rfl,HM.out,RtK.refl _ _⟩
 case round=>
  obtain ⟨j,hu,hA,rfl,hb,he⟩:=hrel;clear HM;have ha:=Rt.qV f s hu;have hq:=Rt.oL f (j-1) s;obtain ⟨v,-,-,-,-,-,-,-,-,-,c7,-⟩:=hb.eB
  by_cases hn:j<=n.o.length
  ·have x0:=hb.kG hn
   have hr:(Rt.aN f (j-1) s).code.length<=60000:=by omega
   generalize Rt.aN f (j-1) s=s' at *;have hg:=zI (HC.out s' wr hb he j hu hn);have hl:=zI (λW2 (h:RtM a n kb W0 s' W2)=>qbW a n kb W0 s' W2 HS.out h j hn hr);have q1:(0:Int)<=(j:Int):=by omega
   have q2:(j:Int)<((n.o.length+1:Nat):Int):=by omega
   clear hq hr;cases hv:Ck.at_ s'.aC j
   ·rw [hv] at x0 ha
    have HE:=zI (show Rt.aN f (j+1-1) s=s' by rw [show j+1-1=j by omega,ha];rfl);obtain ⟨hd,hc⟩:=zd2 hb he;clear hb he;clear hv ha hg hl;go_wp2_with fail;go_roundw
    case rel=>exact ⟨j+1,by omega,by omega,by go_num,by rw [HE.out];exact hd.out,hc.out⟩
    case measure=>simp [intOf];omega
   ·rw [hv] at x0 ha
    cases hf:f j
    ·rw [hf] at ha hg
     have HE:=zI (show Rt.aN f (j+1-1) s=s' by rw [show j+1-1=j by omega,ha];rfl);obtain ⟨hd,hc⟩:=zd2 hb he;clear hb he;clear hv hf ha hl;go_wp2_with fail;refine hg.out.mono ?_;rintro e w2 ⟨rfl,hh⟩;have hi:=hd.out.to_later hh;have hj:=hc.out.trans (RtK.of_later hh);obtain ⟨hx,hk⟩:=zd2 hi hj;clear hi hj;clear hg hh x0 c7 hd hc;go_wp2_with fail;go_roundw
     case rel=>exact ⟨j+1,by omega,by omega,by go_num,by rw [HE.out];exact hx.out,hk.out⟩
     case measure=>simp [intOf];omega
    ·rw [hf] at ha hg
     have HE:=zI (show Rt.aN f (j+1-1) s=Rt.drop j s' by rw [show j+1-1=j by omega,ha];rfl);obtain ⟨hd,hc⟩:=zd2 hb he;clear hb he;clear hv hf ha;go_wp2_with fail;refine hg.out.mono ?_;rintro e w2 ⟨rfl,hh⟩;have hi:=hd.out.to_later hh;have hj:=hc.out.trans (RtK.of_later hh);have ho:=zI (hl.out w2 hi);have hk:=zI hj;clear hj;clear hg hl hh x0 c7 hd hc hi;go_wp2_with fail;refine ho.out.mono ?_;rintro e w3 ⟨rfl,ht,hs⟩;have hp:=hk.out.trans hs;obtain ⟨hy,hw⟩:=zd2 ht hp;clear ht hp;clear ho hk hs;go_wp2_with fail;go_roundw
     case rel=>exact ⟨j+1,by omega,by omega,by go_num,by rw [HE.out];exact hy.out,hw.out⟩
     case measure=>simp [intOf];omega
  ·obtain rfl:j=n.o.length+1:=by omega
   rw [show n.o.length+1-1=n.o.length by omega] at hb;have hz:¬((n.o.length+1:Nat):Int)<((n.o.length+1:Nat):Int):=by omega
   obtain ⟨hd,hc⟩:=zd2 hb he;clear hb he;clear ha hq;go_wp2_with fail
   go_end0
   exact ⟨rfl,hd.out,hc.out⟩
def rH (n:aA) (keep:List Int) (kb:List Bool):Prop:=∀id:Nat,id<=n.o.length->Ck.at_ kb id=keep.contains (id:Int)
theorem Rt.bX {n:aA} (h:Nt.check n=0):(Nt.sO n.o).length=n.o.length:=(Nt.aK h).2.2.2.2.1
set_option maxRecDepth 100000 in
theorem qgm (a:RtA) (n:aA) (keep:List Int) (kb:List Bool) (W0:Zp1) (s:RtS) (W:Zp1) (hS:a.Still n W0) (hM:RtM a n kb W0 s W) (hkb:rH n keep kb) (k id b1 b2:Nat) (hk:k<=1000) (hid:id<=n.o.length)
  (c1:W.cell? ⟨b1,0,none⟩=some (.pointer (some ⟨a.p,0,none⟩))) (c2:W.cell? ⟨b2,0,none⟩=some (nQ iQ k)):
  Calls prog 147 #[nQ iQ id,.pointer (some ⟨b1,0,none⟩),.pointer (some ⟨b2,0,none⟩)] W λe w'=>e=.returned (.bool (Rt.fT n keep k id))/\Later W w':=by
 have hc:=Rt.bX hS.chk;have hm:=hS.m12;obtain ⟨v,-,-,-,-,-,c3,-,c5,c6,-,-⟩:=hM.eB;have x0:=hM.jH hid
 have xl:W.cell? ⟨a.gl,id,none⟩=some (nQ iQ (Rt.jZ (Nt.iF n.o) (Nt.sO n.o) id n.o.length)):=by
  rw [(hM.later.blk hS.last).cell];simp [qa9,Rt.kS hid]
 have hE:Rt.fT n keep k id=(!Ck.at_ kb id&&(decide ((id:Int)≠Nt.aI n.o)&&decide (Rt.jZ (Nt.iF n.o) (Nt.sO n.o) id n.o.length<=(k:Int)+1))):=by
  unfold Rt.fT;rw [hkb id hid,hc];rfl
 have q1:(0:Int)<=(id:Int):=by omega
 have q2:(id:Int)<((n.o.length+1:Nat):Int):=by omega
 have w1:iQ.wrap ((k:Int)+1)=(k:Int)+1:=Zc1 _ oZ;generalize Rt.jZ (Nt.iF n.o) (Nt.sO n.o) id n.o.length=lp at *;generalize Nt.aI n.o=lz at *;clear hS hM hkb hc;cases hv:Ck.at_ kb id
 rotate_left
 ·rw [hv] at x0 hE
  have HE:=zI hE;clear hE;clear hv;go_in;go_wp2_with fail
  go_quiet (fail)
  go_wp2_with fail;go_ret;exact ⟨by rw [HE.out];rfl,by first|exact Later.refl _|exact (Later.refl _).drew|exact (Later.refl _).drewN _⟩
 ·rw [hv] at x0 hE
  by_cases he:(id:Int)=lz
  ·subst he
   have ha:Rt.fT n keep k id=false:=by rw [hE];simp
   have hb:=zI ha;clear ha;clear hv hE;go_in;go_wp2_with fail
   go_quiet (fail)
   go_wp2_with fail;go_ret;exact ⟨by rw [hb.out];rfl,by first|exact Later.refl _|exact (Later.refl _).drew|exact (Later.refl _).drewN _⟩
  ·have e1:((id:Int) != lz)=true:=by simp [he]
   have ha:Rt.fT n keep k id=decide (lp<=(k:Int)+1):=by rw [hE];simp [he]
   have hb:=zI ha;clear ha;clear hv hE he;go_in;go_wp2_with fail
   go_quiet (fail)
   go_wp2_with fail;go_ret;exact ⟨by rw [hb.out];rfl,by first|exact Later.refl _|exact (Later.refl _).drew|exact (Later.refl _).drewN _⟩
set_option maxRecDepth 100000 in
theorem qgn (a:RtA) (n:aA) (keep:List Int) (kb:List Bool) (W0:Zp1) (s:RtS) (W:Zp1) (hS:a.Still n W0) (hM:RtM a n kb W0 s W) (hkb:rH n keep kb) (p id b1 b2:Nat) (hid:id<=n.o.length)
  (c1:W.cell? ⟨b1,0,none⟩=some (.pointer (some ⟨a.p,0,none⟩))) (c2:W.cell? ⟨b2,0,none⟩=some (nQ iQ p)):
  Calls prog 149 #[nQ iQ id,.pointer (some ⟨b1,0,none⟩),.pointer (some ⟨b2,0,none⟩)] W λe w'=>e=.returned (.bool (Rt.bT n keep p id))/\Later W w':=by
 have hm:=hS.m12;obtain ⟨v,-,-,-,-,-,-,c4,-,c6,-,-⟩:=hM.eB;have x0:=hM.jH hid
 have xl:W.cell? ⟨a.g1,id,none⟩=some (nQ iQ (Rt.fI (Nt.iF n.o) (Nt.sO n.o) id (Nt.sO n.o).length)):=by
  rw [hM.first.cell];simp [qa9,Rt.firstMid_at n _ hid]
 have hE:Rt.bT n keep p id=(!Ck.at_ kb id || decide ((p:Int)<=Rt.fI (Nt.iF n.o) (Nt.sO n.o) id (Nt.sO n.o).length)):=by
  unfold Rt.bT;rw [hkb id hid]
 have q1:(0:Int)<=(id:Int):=by omega
 have q2:(id:Int)<((n.o.length+1:Nat):Int):=by omega
 generalize Rt.fI (Nt.iF n.o) (Nt.sO n.o) id (Nt.sO n.o).length=lp at *;clear hS hM hkb;cases hv:Ck.at_ kb id
 ·rw [hv] at x0 hE
  have HE:=zI hE;clear hE;clear hv;go_in;go_wp2_with fail
  go_quiet (fail)
  go_wp2_with fail;go_ret;exact ⟨by rw [HE.out];rfl,by first|exact Later.refl _|exact (Later.refl _).drew|exact (Later.refl _).drewN _⟩
 ·rw [hv] at x0 hE
  have ha:Rt.bT n keep p id=decide ((p:Int)<=lp):=by rw [hE];rfl
  have hb:=zI ha;clear ha;clear hv hE;go_in;go_wp2_with fail
  go_quiet (fail)
  go_wp2_with fail;go_ret;exact ⟨by rw [hb.out];rfl,by first|exact Later.refl _|exact (Later.refl _).drew|exact (Later.refl _).drewN _⟩
def qay (n:aA) (step:Int):Int:=if Nt.check n≠0 then Nt.check n else if 1<=step/\step<=512 then 0 else 11
def qaq (n:aA) (step:Int):List Int:=if Nt.check n=0/\1<=step/\step<=512 then Rt.every (Nt.sO n.o) step.toNat else []
def uY (l:List Int) (er:Int) (w:Zp1) (e:Ending) (w':Zp1):Prop:=
 ∃A c,e=.returned (.tuple #[sQ A l.length c,nQ iQ er])/\Ints iQ w' A l/\Later w w'
theorem qgo {w:Zp1} {B g n cap m:Nat} {os:Array Obj} {l:List Int} (h:w.ownsRow B 3 1 (sQ (some ⟨g,0,none⟩) n cap) n (l.map (Za1 iQ))) (hl:l.length=n) {ts:List Int} (ht:ts.length=l.length):
  Ints iQ (Go.Sort.grow (Go.Sort.putRow (Za1 iQ) (Go.Sort.ahead w m) g 0 ts.toArray) os) (some ⟨g,0,none⟩) ts/\B<=g:=by
 subst hl;rcases h.2 with ⟨e,_⟩|⟨g',cap',cur,e,hb,hh,r1,r2,r3,r4⟩
 ·cases e
 ·injection e with e1 e2 e3
  injection e1 with e1
  injection e1 with e1 _ _
  subst e1 e3;have ho:=ownsRow_sortedI (w:=w) (n:=m) (os:=os) (ts:=ts) ht hb hh r1 r2 r3;rw [←ht] at ho;obtain ⟨A,c,e,_,hI⟩:=Ints.kE ho;injection e with e1 _ _
  subst e1;exact ⟨hI,hb⟩
set_option maxRecDepth 100000 in
theorem qfd (A N:Option Addr) (c d:Nat) (n:aA) (step:Int) (w:Zp1) (hok:n.ok) (hR:bH w A N n) (hd:n.o.length<=d) (h12:n.o.length<=12) (hst : -9223372036854775808<=step/\step<=9223372036854775807):
  Calls prog 54 #[.agg #[sQ A n.inn.length c,sQ N n.o.length d],nQ iQ step] w (uY (qaq n step) (qay n step) w):=by
 obtain ⟨i0,hi,Hb,h8,h6⟩:=info_parts qag;have hF:Later w (w.alloc (.cells #[sQ A n.inn.length c,sQ N n.o.length d] 26)):=(Later.refl w).alloc _;obtain ⟨HR,h4,hH⟩:=zd3 hR hok hF;clear hR hok hF;go_in;go_wp2_with fail;generalize w.alloc (.cells #[sQ A n.inn.length c,sQ N n.o.length d] 26)=w1 at *;refine (qb2 A N c d n w1 h4.out (HR.out.below hH.out (lrZ _)) hd).mono ?_;rintro e w2 ⟨hx,⟨ha,O,oc,rfl,hO,He,Hh⟩|⟨ha,rfl⟩⟩
 all_goals have hn:=hH.out.call hx
 rotate_left
 ·have q0:(Nt.check n != 0)=true:=by simp [ha]
  have HE:=zI (show qay n step=Nt.check n by unfold qay;rw [ipZ ha]);have HL:=zI (show qaq n step=[] by unfold qaq;rw [inZ (λh=>ha h.1)]);obtain ⟨hN,hl⟩:=zd2 ha hn;clear ha hn;clear hx;go_wp2_with fail
  go_ret2
  rw [HE.out,HL.out];exact ⟨none,0,rfl,Ints.nil,hl.out⟩
 have hm:=Rt.bX ha
 by_cases hs:1<=step/\step<=512
 rotate_left
 ·have HE:=zI (show qay n step=11 by unfold qay;rw [inZ (by simp [ha]),inZ hs])
  have HL:=zI (show qaq n step=[] by unfold qaq;rw [inZ (λh=>hs h.2)]);obtain ⟨hN,hl,hL,HO⟩:=zd4 ha hn hm hO;clear ha hn hm hO;clear hx
  by_cases h1:step<1
  ·clear hs
   go_wp2_with fail
   go_ret2
   rw [HE.out,HL.out];exact ⟨none,0,rfl,Ints.nil,hl.out⟩
  ·have h2:512<step:=by omega
   clear hs;go_wp2_with fail
   go_ret2
   rw [HE.out,HL.out];exact ⟨none,0,rfl,Ints.nil,hl.out⟩
 have HE:=zI (show qay n step=0 by unfold qay;rw [inZ (by simp [ha]),ipZ hs]);obtain ⟨s,rfl⟩:=ezZ (show 0<=step by omega);have HL:=zI (show qaq n (s:Int)=Rt.every (Nt.sO n.o) s by unfold qaq;rw [ipZ ⟨ha,hs⟩,tnZ]);generalize Nt.sO n.o=os at *;have h1:¬(s:Int)<1:=by omega
 have h2:¬(512:Int)<(s:Int):=by omega
 have hy:1<=s:=by omega
 have Hf:s<=512:=by omega
 obtain ⟨hN,hl,hL,HO⟩:=zd4 ha hn hm hO;clear ha hn hm hO;clear hx hs hst;go_wp2_with fail;clear h1 h2
 go_loopw [8,9] (λl t wx=>∃j:Nat,j<=os.length / s/\t=nQ iQ (((j+1)*s:Nat):Int)/\wx.ownsRow w2.heap.size 3 1 l (Rt.picks os s j).length ((Rt.picks os s j).map (Za1 iQ))/\Later w2 wx) (λ_ t _=>n.o.length+512+1-(intOf t).toNat)
 case atStart=>exact ⟨0,Zt _,by simp,by simpa [Rt.picks] using World.ownsRow_nil w2 w2.heap.size 3 1,Later.refl _⟩
 case round=>
  obtain ⟨j,hj,rfl,hown,hq⟩:=hrel;obtain ⟨Ao,co,rfl⟩:=qa8 hown;have hm:=hL.out
  have hJ:j*s<=os.length:=by
   have h1:j*s<=os.length / s*s:=mlZ s hj;have h2:=Nat.div_mul_le_self os.length s;omega
  have hM:(j+1)*s=j*s+s:=Zu j s;have hp:=Rt.pE os s j
  by_cases hP:j<os.length / s
  ·obtain ⟨q1,q2⟩:=Rt.sM (os:=os) hy hP
   obtain ⟨b,off,rfl,-,hc⟩:=HO.out.below hq (lrZ _) ((j+1)*s-1) q1;have h7:=zI (Rt.picks_succ os s j)
   have Hg:j<=12:=by
    have h1:j*1<=j*s:=Nat.mul_le_mul_left j hy;omega
   have HN:=zI (show (j+1+1)*s=(j+1)*s+s from Zu (j+1) s);generalize os.getD ((j+1)*s-1) 0=z at *;generalize (j+1)*s=p at *;generalize Rt.picks os s j=r at *;obtain ⟨p',rfl⟩:∃p',p=p'+1:=⟨p-1,by omega⟩
   rw [show p'+1-1=p' from rfl] at hc;have i1:iQ.wrap ((p':Int)+1-1)=(p':Int):=by rw [Zc1 _ oZ];omega
   have i2:(0:Int)<=(p':Int):=by omega
   have i3:(p':Int)<(n.o.length:Int):=by omega
   have i4:(p':Int)+1<=(n.o.length:Int):=by omega
   have ho:=qad hown (.cells #[nQ iQ z] 3);have hv:=hq.alloc (.cells #[nQ iQ z] 3);have hZ:=Below.size hq;have hQ:=zI (λb (hb:(Zb1 Ao r.length co).ownBlock=some b)=>(hown.lt b hb).1);have Hc:r.length<=12:=by omega
   clear hp hM hJ hown hm;go_wp2_with (at_builtin;refine wpList_append_own_at _ rfl _ _ 22 rfl w2.heap.size 3 i0 (nQ iQ 0) 1 8 underlying22 hi Hb h8 h6 rfl dZ _ _ _ rfl ho ⟨wr.heap.size,0,none⟩ 1 1 [nQ iQ z] rfl rfl ?c1 (by intro u hu;simp at hu;subst hu;rfl) (by unfold maxLen;omega) oZ ?c2 ?_)
   first|(case c1=>exact qaF wr _ _)|skip
   case c2=>simp;omega
   intro v' w4 hg hgrow _ h5;have hw:Later w2 w4:=Below.grown hv hgrow soZ (λb hb=>hQ.out b hb);have hf:w4.ownsRow w2.heap.size 3 1 v' (r++[z]).length ((r++[z]).map (Za1 iQ)):=by simpa using hg
   rw [←h7.out] at hf;have i5:iQ.wrap ((p':Int)+1+(s:Int))=(p':Int)+1+(s:Int):=Zc1 _ oZ;obtain ⟨ht,hY⟩:=zd2 hf hw;clear hf hw;clear hg hgrow h5 ho hv hQ i1;go_wp2_with fail;clear i5;go_roundw
   case rel=>exact ⟨j+1,by omega,by rw [HN.out];go_num,ht.out,hY.out⟩
   case measure=>simp [intOf];omega
  ·have hX:j=os.length / s:=by omega
   have hU:¬((j+1)*s:Nat)<=n.o.length:=λh=>by
    have:j+1<=os.length / s:=(Nat.le_div_iff_mul_le oZ).2 oZ;omega
   subst hX;have hD:Rt.every os s=(Rt.picks os s (os.length / s)).mergeSort λx y=>decide (x<=y):=rfl
   generalize (os.length / s+1)*s=p at *;have hW:¬(p:Int)<=(n.o.length:Int):=by omega
   have hK:=Rt.pX os s;generalize os.length / s=m at *
   have Hd:m<=12:=by
    have h1:m*1<=m*s:=Nat.mul_le_mul_left m hy;omega
   obtain ⟨hC,hV,hG⟩:=zd3 hq hD hK;clear hq hD hK;clear hM hJ hm hU hj hP
   by_cases hE:m=0
   ·subst hE
    have HZ:=zI (show Rt.every os s=[] from List.eq_nil_of_length_eq_zero hG.out);rw [hp];clear hown hp;go_wp2_with fail;refine (Tryz.slices_Sort_int_none Ao co wr).mono ?_;rintro e w4 ⟨rfl,rfl⟩;go_wp2_with fail
    go_ret2
    rw [HE.out,HL.out,HZ.out];exact ⟨Ao,co,rfl,Ints.nil,hl.out.trans hC.out⟩
   ·obtain ⟨g,rfl⟩:∃g,Ao=some ⟨g,0,none⟩:=by
     rcases hown.2 with ⟨e,h0⟩|⟨g,cap,cur,e,_⟩
     ·omega
     ·injection e with e1 _ _;exact ⟨g,e1⟩
    obtain ⟨cur,hcb,hct⟩:∃cur,wr.heap[g]? = some (.cells cur 3 (0,0))/\cur.toList.take (Rt.picks os s m).length=(Rt.picks os s m).map (Za1 iQ):=by
     rcases hown.2 with ⟨e,h0⟩|⟨g',cap',cur,e,hb,hh,r1,r2,r3,r4⟩
     ·cases e
     ·injection e with e1 _ _
      injection e1 with e1
      injection e1 with e1 _ _
      subst e1;exact ⟨cur,hh,by simpa using r4⟩
    have he:=Tryz.slices_Sort_int g 0 co (Rt.picks os s m) wr (holds_of_blockI hcb hct) (lt_of_block hcb) (by rw [hp];omega);have hk:=λ(k:Nat) (obs:Array Obj)=>qgo (m:=k) (os:=obs) hown rfl (ts:=(Rt.picks os s m).mergeSort λx y=>decide (x<=y)) sZ
    have hA:=λ(k:Nat) (obs:Array Obj)=>grownBy_sortedI (w:=wr) (g:=g) (n:=k) (os:=obs) ((Rt.picks os s m).mergeSort λx y=>decide (x<=y)).toArray
    have h3:=hown.lt;rw [←hV.out] at he hk hA;have Ha:=zI (show (Rt.picks os s m).length=(Rt.every os s).length by rw [hp,hG.out]);obtain ⟨hr,hz,hT⟩:=zd3 he hk hA;clear he hk hA;clear hown hcb hct h3 hp hE;generalize Rt.every os s=ev at *;generalize Rt.picks os s m=pk at *;go_wp2_with fail;refine hr.out.mono ?_;rintro e w4 ⟨rfl,k,obs,rfl⟩;obtain ⟨hI,hB⟩:=hz.out k obs;have hw:=Below.grown hC.out (hT.out k obs) (Below.size hC.out) (λb hb=>by injection hb with hb;omega);have hS:=hl.out.trans (show Later w2 _ from hw);obtain ⟨HI,h9⟩:=zd2 hI hS;clear hI hS;clear hw hB;generalize Go.Sort.grow (Go.Sort.putRow (Za1 iQ) (Go.Sort.ahead wr k) g 0 ev.toArray) obs=w5 at *;go_wp2_with fail
    go_ret2
    rw [HE.out,HL.out,Ha.out];exact ⟨some ⟨g,0,none⟩,co,rfl,HI.out,h9.out⟩
set_option maxRecDepth 100000 in
theorem qgp (A N:Option Addr) (c d:Nat) (n:aA) (w:Zp1) (hok:n.ok) (hR:bH w A N n) (hd:n.o.length<=d) (h12:n.o.length<=12):
  Calls prog 23 #[.agg #[sQ A n.inn.length c,sQ N n.o.length d]] w (uY (qaq n (Safe.bC n.o.length)) (qay n (Safe.bC n.o.length)) w):=by
 have ha:=Blk.new w 26 #[sQ A n.inn.length c,sQ N n.o.length d];have hc:Later w (w.alloc (.cells #[sQ A n.inn.length c,sQ N n.o.length d] 26)):=(Later.refl w).alloc _
 have hk:0<=Safe.bC n.o.length/\Safe.bC n.o.length<=100:=by
  rcases Nat.eq_zero_or_pos n.o.length with h0|h0
  ·rw [h0,Safe.lQ sZ];omega
  ·obtain ⟨h1,h2,-⟩:=Safe.nP (n:=(n.o.length:Int)) oZ
   refine ⟨by omega,?_⟩;rcases Int.lt_or_le 100 (Safe.bC n.o.length) with h3|h3
   ·have:=Int.mul_le_mul (Int.le_of_lt h3) (Int.le_of_lt h3) oZ oZ
    omega
   ·exact h3
 have x0:=ha.cell 0;have x1:=ha.cell 1;simp only [Zk,List.getElem?_cons_succ,List.getElem?_cons_zero] at x0 x1;have hi:=zI (λ(W:Zp1)=>qgl (n.o.length:Int) W oZ oZ);have hh:=zI (λ(W:Zp1) (h:Later w W)=>qfd A N c d n (Safe.bC n.o.length) W hok (hR.below h (lrZ _)) hd h12 oZ);generalize Safe.bC n.o.length=sq at *;generalize qaq n sq=l at *;generalize qay n sq=er at *;have he:=zI hc;clear hc;clear ha hok hR hk;go_in;go_wp2_with fail;generalize w.alloc (.cells #[sQ A n.inn.length c,sQ N n.o.length d] 26)=w1 at *;have hf:=zI (λ(W:Zp1) (h:Later w1 W)=>(⟨h.cell x0,h.cell x1⟩:W.cell? ⟨w.heap.size,0,none⟩=some (sQ A n.inn.length c)/\W.cell? ⟨w.heap.size,1,none⟩=some (sQ N n.o.length d)))
 go_region_held3 (λW=>W.cell? ⟨w.heap.size,0,none⟩=some (sQ A n.inn.length c)/\W.cell? ⟨w.heap.size,1,none⟩=some (sQ N n.o.length d)) (first|exact hf.out _ (show Later w1 _ by repeat (first|(with_reducible exact Later.refl _)|(with_reducible apply Later.drew)|(with_reducible refine Later.trans ?_ (by assumption))))|fail)
  (first
  | (go_at_call 55;refine (hi.out _).mono ?_;rintro e w' ⟨rfl,rfl⟩)
  | (go_at_call 54;refine (hh.out _ (show Later w _ by repeat (first|(with_reducible exact he.out)|(with_reducible apply Later.drew)))).mono ?_;rintro e w7 ⟨L,lc,rfl,hI,hb⟩)
  | fail)
 have hg:=he.out.trans ((Later.refl w1).drew.trans hb);obtain ⟨hj,HI⟩:=zd2 hg hI;clear hg hI;clear hb x0 x1 hf;go_wp2_with fail
 go_ret2
 exact ⟨L,lc,rfl,HI.out,hj.out⟩
def ones (m:Nat):List Int:=(List.range m).map λ(i:Nat)=>((i:Nat):Int)+1
theorem qaO (m:Nat):(ones m).length=m:=by simp [ones]
theorem qhG (m:Nat):ones (m+1)=ones m++[(m:Int)+1]:=by simp [ones,List.range_succ]
def qaX (m k:Nat):List Int:=ones k++Zc (m-k) 0
theorem qfe (m:Nat):qaX m 0=Zc m 0:=by simp [qaX,ones]
theorem qgq {m k:Nat} (h:k<=m):(qaX m k).length=m:=by simp [qaX,qaO];omega
theorem qgr (m:Nat):qaX m m=ones m:=by simp [qaX]
theorem qgs {m k:Nat} (h:k<m):(qaX m k).set k ((k:Int)+1)=qaX m (k+1):=by
 unfold qaX
 have hr:Zc (m-k) (0:Int)=0::Zc (m-(k+1)) 0:=by
  rw [←List.replicate_succ];congr 1;omega
 rw [hr,List.set_append_right _ _ (by rw [qaO];exact lrZ _),qaO,Nat.sub_self,List.set_cons_zero,qhG,List.append_assoc]
 rfl
theorem tQ {w:Zp1} {g:Nat} {t:TypeId} (l:List Int) (h:Blk w g t (qa9 l).toArray):Ints iQ w (some ⟨g,0,none⟩) l:=Ints.dN λj hj=>by
 rw [Zw,h.cell];simp [qa9,hj]
def RowP (l:List Int) (w:Zp1) (e:Ending) (w':Zp1):Prop:=
 ∃A c,e=.returned (sQ A l.length c)/\Ints iQ w' A l/\Later w w'
def RowB (l:List Int) (w:Zp1) (e:Ending) (w':Zp1):Prop:=
 e=.returned (sQ (some ⟨w.heap.size+1,0,none⟩) l.length l.length)/\Blk w' (w.heap.size+1) 3 (qa9 l).toArray/\Later w w'
set_option maxRecDepth 100000 in
theorem qds (A N:Option Addr) (c d:Nat) (n:aA) (w:Zp1) (hnl:n.o.length<=1000000):
  Calls prog 22 #[.agg #[sQ A n.inn.length c,sQ N n.o.length d]] w (RowB (ones n.o.length) w):=by
 obtain ⟨i0,hi,hD,hA,hw⟩:=info_parts qag;have hd:Later w (w.alloc (.cells #[sQ A n.inn.length c,sQ N n.o.length d] 26)):=(Later.refl w).alloc _;have hf:(w.alloc (.cells #[sQ A n.inn.length c,sQ N n.o.length d] 26)).heap.size=w.heap.size+1:=Zh1 _ _;obtain ⟨hu,hx⟩:=zd2 hd hf;clear hd hf;go_in;go_wp2_with (at_make;refine wpList_make_full _ rfl _ _ 22 rfl (w.heap.size+1) 3 i0 (nQ iQ 0) 1 underlying22 hi hD hA _ _ _ _ n.o.length rfl rfl (by first|rfl|simp|(go_simp;rfl)) (by first|rfl|simp|(go_simp;rfl)) ?b2 ?b3 ?b4 ?_)
 case b2=>rw [hw];omega
 case b3=>unfold maxLen;omega
 case b4=>simp
 intro w3 hown hgrow;have ha:=qam hown;rw [qae] at ha;generalize hw1:w.alloc (.cells #[sQ A n.inn.length c,sQ N n.o.length d] 26)=w1 at *
 have hc:Blk w3 (w.heap.size+1) 3 (qa9 (qaX n.o.length 0)).toArray:=by
  rw [qfe,qa9,List.map_replicate];exact ha
 have hn:Later w1 w3:=(Ze1 _ w1).grown hgrow (lrZ _) sZ;clear ha hown hgrow hw1;generalize n.o.length=m at *;have hr:=hx.out;generalize hg:w.heap.size+1=g at *;obtain ⟨HG,he⟩:=zd2 hr hg;clear hg hr;have hC:=zI (λk (h:k<=m)=>qgq h);have hs:=zI (λk (h:k<m)=>qgs h);have hv:=zI (qgr m);have hF:=zI (qaO m);obtain ⟨hq,ht⟩:=zd2 hc hn;clear hc hn;go_wp2_with fail
 go_loopw [4,11] (λ_ i wx=>∃k:Nat,k<=m/\i=nQ iQ (k:Int)/\Blk wx g 3 (qa9 (qaX m k)).toArray/\Later w1 wx) (λ_ i _=>m-(intOf i).toNat)
 case atStart=>exact ⟨0,Zt _,rfl,hq.out,ht.out⟩
 case round=>
  obtain ⟨k,hk,rfl,hm,hb⟩:=hrel;clear hq
  by_cases hj:k<m
  ·have HS:=zI (hs.out k hj)
   have hp:=hC.out k hk;obtain ⟨y,hy⟩:=hm.has (j:=k) (by rw [qat,hp];exact hj);have fy:=hm.frozen k;have hh:=hm.aU k (nQ iQ ((k:Int)+1))
   have hz:=zI (show Blk (wr.setCell ⟨g,k,none⟩ (nQ iQ ((k:Int)+1))) g 3 (qa9 (qaX m (k+1))).toArray by
    rw [←HS.out];simpa [qa9,List.map_set] using hh)
   have hE:=zI (hb.set (p:=⟨g,k,none⟩) (by rw [HG.out];exact lrZ _) (nQ iQ ((k:Int)+1)));have k1:(k:Int)<(m:Int):=by omega
   clear hh hm hb hp;go_wp2_with fail;go_roundw
   case rel=>exact ⟨k+1,by omega,by go_num,hz.out,hE.out⟩
   case measure=>simp [intOf];omega
  ·obtain rfl:k=m:=by omega
   rw [hv.out] at hm;have hl:=hu.out.trans hb;have ho:=hm;obtain ⟨hB,Hl⟩:=zd2 ho hl;clear ho hl;clear hm hb;go_wp2_with fail;go_ret;refine ⟨?_,by rw [he.out];exact hB.out,Hl.out⟩;rw [hF.out,he.out]
   rfl
theorem qhH (A N:Option Addr) (c d:Nat) (n:aA) (w:Zp1) (hnl:n.o.length<=1000000):
  Calls prog 22 #[.agg #[sQ A n.inn.length c,sQ N n.o.length d]] w (RowP (ones n.o.length) w):=
 (qds A N c d n w hnl).mono λ_ _ ⟨h1,h2,h3⟩=>⟨_,_,h1,tQ _ h2,h3⟩
theorem bH.rD {w:Zp1} {A N:Option Addr} {n:aA} (h:bH w A N n) {k:Nat} (hk:k<n.o.length):∃b off J jc,N=some ⟨b,off,none⟩/\w.cell? ⟨b,off+k*10+8,none⟩=some (sQ J n.o[k].ins.length jc)/\Ints iQ w J n.o[k].ins:=by
 obtain ⟨b,off,S,sc,J,jc,Q,qc,e,hA,-⟩:=h.2.at_ hk;obtain ⟨⟨-,-,-,-,-,-,-,-,y8,-⟩,-,hI,-⟩:=hA;exact ⟨b,off,J,jc,e,y8,hI⟩
theorem Rt.qL {n:aA} (h:Nt.check n=0) {k:Nat} (hk:k<n.o.length):∀i∈n.o[k].ins,0<=i/\i<=n.o.length:=λi hi=>by
 have:=(Nt.eU (Nt.aK h).2.2.2.1 _ (gmZ hk)).2 i hi;omega
set_option maxRecDepth 100000 in
theorem qff (a:RtA) (n:aA) (kb:List Bool) (W0:Zp1) (hS:a.Still n W0):∀(m:Nat) (id:Nat) (s:RtS) (W:Zp1),RtM a n kb W0 s W->Ck.at_ s.aC 0=true->id<=n.o.length->(id=0∨Rt.oV n id<m)->(Rt.fetch (Nt.iF n.o) m id s).code.length<=50000->
  Calls prog 148 #[.pointer (some ⟨a.p,0,none⟩),nQ iQ id] W (RtP a n kb W0 (Rt.fetch (Nt.iF n.o) m id s) W):=by
 intro m
 induction m with
 | zero=>
  intro id s W hM hz hid hr _;obtain rfl:id=0:=by omega
  have x0:=hM.kG (i:=0) hid;rw [show ((0:Nat):Int)=0 from rfl,hz] at x0;obtain ⟨v,-,-,-,-,-,-,-,-,-,c7,-⟩:=hM.eB;have q2:(0:Int)<((n.o.length+1:Nat):Int):=by omega
  have hq:Rt.fetch (Nt.iF n.o) 0 ((0:Nat):Int) s=s:=rfl;rw [hq];have HM:=zI hM;clear hM;clear hz hr hS hq;go_in;go_wp2_with fail
  go_end0
  exact ⟨rfl,HM.out,RtK.refl _ _⟩
 | succ m ih=>
  intro id s W hM hz hid hr hg;have hZ:=hS.m12;have x0:=hM.kG hid;obtain ⟨v,-,-,-,c1,-,-,-,-,-,c7,-⟩:=hM.eB;have q1:(0:Int)<=(id:Int):=by omega
  have q2:(id:Int)<((n.o.length+1:Nat):Int):=by omega
  cases hv:Ck.at_ s.aC id
  rotate_left
  ·rw [hv] at x0
   have hq:Rt.fetch (Nt.iF n.o) (m+1) id s=s:=by rw [Rt.dW,ipZ hv]
   rw [hq];have HM:=zI hM;clear hM;clear hz hr hS hq hg hv ih c1;go_in;go_wp2_with fail
   go_end0
   exact ⟨rfl,HM.out,RtK.refl _ _⟩
  rw [hv] at x0
  have hU:1<=id:=by
   rcases Nat.eq_zero_or_pos id with h0|h0
   ·subst h0;rw [show ((0:Nat):Int)=0 from rfl,hz] at hv;cases hv
   ·exact h0
  obtain ⟨j,rfl⟩:∃j,id=j+1:=⟨id-1,by omega⟩
  have hj:j<n.o.length:=by omega
  have hB:Nt.iF n.o ((j+1:Nat):Int)=n.o[j].ins:=by unfold Nt.iF;rw [Int.natCast_succ,Nt.dH hj]
  have hq:Rt.fetch (Nt.iF n.o) (m+1) ((j+1:Nat):Int) s=Rt.comp 2 ((j+1:Nat):Int) (n.o[j].ins.foldl (λs i=>Rt.fetch (Nt.iF n.o) m i s) s):=by
   rw [Rt.dW,inZ (by rw [hv];simp),hB]
  rw [hq] at hg ⊢
  have hb:∀i∈n.o[j].ins,i≠0->Rt.oV n i<m:=λi hi h0=>by
   have h1:=(Rt.iZ hS.chk).lt ((j+1:Nat):Int) oZ oZ i (by rw [hB];exact hi) h0;have h2:Rt.oV n ((j+1:Nat):Int)<m+1:=by rcases hr with h|h<;>omega
   omega
  have hm:=Rt.qL hS.chk hj;obtain ⟨b,off,J,jc,hN,y8,hJ⟩:=hS.net.rD hj;have hY:=(hS.ok.2.2 _ (gmZ hj)).2.2.1;have hK:=λ(W':Zp1) (h:Later W0 W')=>hJ.below h (lrZ _)
  have y8':=hM.later.cell y8;rw [hN] at c1;have hX:=hS.hN
  have ha:∀k,((n.o[j].ins.take k).foldl (λs i=>Rt.fetch (Nt.iF n.o) m i s) s).code.length<=49999:=λk=>by
   have h1:=Rt.pO (I:=Nt.iF n.o) (m:=m) n.o[j].ins k s;have h2:(Rt.comp 2 ((j+1:Nat):Int) (n.o[j].ins.foldl (λs i=>Rt.fetch (Nt.iF n.o) m i s) s)).code.length=(n.o[j].ins.foldl (λs i=>Rt.fetch (Nt.iF n.o) m i s) s).code.length+1:=by unfold Rt.comp;simp
   omega
  have hO:=λk (h:k<n.o[j].ins.length)=>Rt.pJ (I:=Nt.iF n.o) (m:=m) h s
  have hd:=qbV a n kb W0 s W hM (by have:=ha 0;simp at this;omega);generalize n.o[j].ins=il at *;have j1:((j+1:Nat):Int)-1=(j:Int):=by omega
  have j2:iQ.wrap (j:Int)=j:=Zc1 _ oZ;have j3:(0:Int)<=(j:Int):=by omega
  have j4:(j:Int)<n.o.length:=by omega
  have hE:((j+1:Nat):Int)=(j:Int)+1:=by omega
  have hx:=λ(s2:RtS) (W2:Zp1) (h:RtM a n kb W0 s2 W2) (hl:s2.code.length<=60000)=>qbE a n kb W0 s2 W2 hS h 2 (j+1) hid hl
  rw [hE] at hq hx q1 q2 ⊢;have hH:=λ(l:List Int)=>Rt.jD (I:=Nt.iF n.o) (m:=m) l s hz
  obtain ⟨HM,hQ,hP,hA,hf,hF,he,hR,hV⟩:=zd9 hM hK hb hm ha hO hd hx ih;have hT:=zI hH;clear hM hK hb hm ha hO hd hx ih hH;clear hz hr hS hq hg hv hB y8 hJ hN hE;go_in;go_wp2_with fail;refine he.out.mono ?_;rintro e w2 ⟨rfl,rfl⟩;clear he;go_wp2_with fail
  go_loopw [28] (λi wx=>∃k:Nat,k<=il.length/\i=nQ iQ (k:Int)/\RtM a n kb W0 ((il.take k).foldl (λs i=>Rt.fetch (Nt.iF n.o) m i s) s) wx/\RtK a W wx) (λi _=>il.length-(intOf i).toNat)
  case atStart=>exact ⟨0,Zt _,rfl,HM.out,RtK.refl _ _⟩
  case round=>
   obtain ⟨k,hk,rfl,hh,ht⟩:=hrel;clear HM x0 c7 c1 y8'
   by_cases hb:k<il.length
   ·obtain ⟨b2,off2,rfl,-,hc⟩:=hQ.out wr hh.later k hb
    rw [qa1 hb] at hc;have hr:=hA.out _ (gmZ hb);obtain ⟨u,hu⟩:=ezZ hr.1
    have hw:=hV.out u _ wr hh (hT.out _) oZ (by
     rcases Nat.eq_zero_or_pos u with h0|h0
     ·exact .inl h0
     ·exact .inr (by rw [←hu];exact hP.out _ (gmZ hb) oZ)) (by
     have h1:=hf.out (k+1);rw [hF.out k hb,hu] at h1;omega)
    rw [←hu,←hF.out k hb] at hw;rw [hu] at hc hw;have m1:(k:Int)<il.length:=by omega
    obtain ⟨hW,hs,hL⟩:=zd3 hh ht hw;clear hh ht hw;clear hr hu;go_wp2_with fail;refine hL.out.mono ?_;rintro e w3 ⟨rfl,ho,hn⟩;have hp:=hs.out.trans hn;obtain ⟨hC,hy⟩:=zd2 ho hp;clear ho hp;clear hL hn hc hW hs;go_wp2_with fail;go_roundw
    case rel=>exact ⟨k+1,by omega,by go_num,hC.out,hy.out⟩
    case measure=>simp [intOf];omega
   ·obtain rfl:k=il.length:=by omega
    have hD:=hf.out il.length;rw [Zg] at hh hD;have hG:=hR.out _ wr hh oZ;obtain ⟨hI,hs⟩:=zd2 hG ht;clear hG ht;clear hh hD;go_wp2_with fail;refine hI.out.mono ?_;rintro e w3 ⟨rfl,ho,hn⟩;have hp:=hs.out.trans hn;obtain ⟨hC,hy⟩:=zd2 ho hp;clear ho hp;clear hI hn hs;go_wp2_with fail
    go_end0
    exact ⟨rfl,hC.out,hy.out⟩
theorem RtA.Still.order {a:RtA} {n:aA} {W0:Zp1} (h:a.Still n W0) {k:Nat} (hk:k<n.o.length):∃b off u,a.O=some ⟨b,off,none⟩/\W0.cell? ⟨b,off+k,none⟩=some (nQ iQ ((u:Nat):Int))/\(Nt.sO n.o).getD k 0=((u:Nat):Int)/\1<=u/\u<=n.o.length:=by
 have hb:=Rt.bX h.chk;have ha:k<(Nt.sO n.o).length:=by omega
 obtain ⟨b,off,e,-,hc⟩:=h.ord k ha;have hr:=Kn.dX (Nt.iF n.o) n.o.length _ (show (Nt.sO n.o)[k]∈Nt.sO n.o from gmZ ha);rw [qa1 ha] at hc ⊢;obtain ⟨u,hu⟩:=ezZ (show 0<=(Nt.sO n.o)[k] by omega);rw [hu] at hr hc;exact ⟨b,off,u,e,hc,hu,by omega,by omega⟩
theorem RtA.Still.orders {a:RtA} {n:aA} {W0:Zp1} (h:a.Still n W0):∃b off,a.O=some ⟨b,off,none⟩/\∀k,k<n.o.length->∃u:Nat,W0.cell? ⟨b,off+k,none⟩=some (nQ iQ ((u:Nat):Int))/\(Nt.sO n.o).getD k 0=((u:Nat):Int)/\1<=u/\u<=n.o.length:=by
 have h0:0<n.o.length:=by
  have:=Nt.dD (Nt.aK h.chk).2.2.2.2.2.2.1;omega
 obtain ⟨b,off,_,hO,-⟩:=h.order h0;refine ⟨b,off,hO,λk hk=>?_⟩;obtain ⟨b2,off2,u,ha,h2⟩:=h.order hk;rw [hO] at ha;cases ha;exact ⟨u,h2⟩
set_option maxRecDepth 100000 in
theorem qdD (a:RtA) (n:aA) (keep:List Int) (kb:List Bool) (W0:Zp1) (W:Zp1) (hS:a.Still n W0) (hkb:rH n keep kb) (hM:RtM a n kb W0 (Rt.eH n keep 0) W):
  Calls prog 114 #[.pointer (some ⟨a.p,0,none⟩)] W (RtP a n kb W0 (Rt.eH n keep n.o.length) W):=by
 have h9:=hS.m12;have hv:=Rt.bX hS.chk;have h5:a.p<W.heap.size/\a.g3<W.heap.size:=⟨(by obtain ⟨v,hb,-⟩:=hM.box;exact hb.lt),hM.aC.lt⟩
 have hs:Later W (W.alloc (.cells #[.pointer (some ⟨a.p,0,none⟩)] 182)):=(Later.refl W).alloc _;have hG:=Blk.new W 182 #[.pointer (some ⟨a.p,0,none⟩)];have hn:=hM.to_later hs;have hf:=λk (hk:k<=n.o.length)=>Rt.oD hS.chk keep k (by rw [hv];exact hk)
 obtain ⟨b,off,hO,he⟩:=hS.orders;obtain ⟨v,-,-,-,-,c2,-,-,-,-,-,-⟩:=hn.eB;rw [hO] at c2;obtain ⟨HS,h0,hN,hB,hV,hq,hr,h7⟩:=zd8 hS hkb hn hs hG hf he hv;clear hS hkb hn hs hG hf he hv;clear hO;clear hM;go_in;go_wp2_with fail;generalize W.alloc (.cells #[.pointer (some ⟨a.p,0,none⟩)] 182)=w1 at *
 go_loopw [9] (λi wx=>∃k:Nat,k<=n.o.length/\i=nQ iQ (k:Int)/\RtM a n kb W0 (Rt.eH n keep k) wx/\RtK a w1 wx) (λi _=>n.o.length-(intOf i).toNat)
 case atStart=>exact ⟨0,Zt _,rfl,hN.out,RtK.refl _ _⟩
 case round=>
  obtain ⟨k,hk,rfl,hj,hd⟩:=hrel;clear hN c2
  by_cases hZ:k<n.o.length
  ·obtain ⟨u,hJ,hu,h6,hX⟩:=hr.out k hZ
   have hc:=hj.later.cell hJ;have hQ:=hd.blk hV.out dZ oZ oZ;have h3:=hq.out k hk;have hp:k*(n.o.length+3)<=12*15:=Nat.mul_le_mul oZ oZ
   have hI:Rt.eH n keep (k+1)=Rt.aN (Rt.fT n keep k) n.o.length (Rt.comp 1 (u:Int) (Rt.eH n keep k)):=by
    show Rt.aN _ _ (Rt.comp 1 ((Nt.sO n.o).getD k 0) _)=_
    rw [hu];rfl
   generalize Rt.eH n keep k=s at *;have hm:Later wr (wr.alloc (.cells #[nQ iQ k] 3)):=(Later.refl wr).alloc _;have hC:=Blk.new wr 3 #[nQ iQ k];have hw:=hj.to_later hm;have h8:wr.heap.size>a.p/\wr.heap.size>a.g3:=by have:=hd.1;have:=Below.size hB.out;omega
   have hH:=hd.trans (RtK.of_later hm);have ht:=hm.blk hQ;have z1:(wr.alloc (.cells #[nQ iQ k] 3)).cell? ⟨W.heap.size,0,none⟩=some (.pointer (some ⟨a.p,0,none⟩)):=ht.cell 0;have m1:(k:Int)<n.o.length:=by omega
   obtain ⟨hA,hz,hy,hT,hD⟩:=zd5 hw hH ht hC hI;clear hw hH ht hC hI;clear hj hd hJ hu hm hQ;go_wp2_with fail;generalize wr.alloc (.cells #[nQ iQ k] 3)=w2 at *;generalize wr.heap.size=pi at *;refine (qbE a n kb W0 s w2 HS.out hA.out 1 u hX oZ).mono ?_;rintro e w3 ⟨rfl,hF,hl⟩;have hP:(Rt.comp 1 (u:Int) s).code.length<=50000:=by unfold Rt.comp;simp;omega
   have ha:=hl.blk hy.out dZ oZ oZ;have hg:=hl.blk hT.out dZ oZ oZ;have z3:w3.cell? ⟨W.heap.size,0,none⟩=some (.pointer (some ⟨a.p,0,none⟩)):=ha.cell 0;have hh:=hz.out.trans hl
   have ho:=zI (qcW a n kb W0 _ w3 (Rt.fT n keep k) W.heap.size pi HS.out hF hP (λs' W' hW hx id h1 h2=>
    qgm a n keep kb W0 s' W' HS.out hW h0.out k id W.heap.size pi oZ h2 ((hx.blk ha dZ oZ oZ).cell 0) ((hx.blk hg dZ oZ oZ).cell 0)))
   rw [←hD.out] at ho;have hi:=zI hh;clear hh;clear hF hl hA hz hy hT z1 ha hg h3 hp hP hD hc;go_wp2_with fail;refine ho.out.mono ?_;rintro e w4 ⟨rfl,hE,hL⟩;have hR:=hi.out.trans hL;obtain ⟨hU,hY⟩:=zd2 hE hR;clear hE hR;clear ho hL hi z3;go_wp2_with fail;go_roundw
   case rel=>exact ⟨k+1,by omega,by go_num,hU.out,hY.out⟩
   case measure=>simp [intOf];omega
  ·obtain rfl:k=n.o.length:=by omega
   have hK:=(RtK.of_later (a:=a) hB.out).trans hd;obtain ⟨h4,HK⟩:=zd2 hj hK;clear hj hK;clear hd;go_wp2_with fail
   go_end0
   exact ⟨rfl,h4.out,HK.out⟩
def qfM (t:Value) (w:Zp1):Nat:=match t with
 | .pointer (some ad)=>(match w.cell? ad with
  | some v=>(intOf v).toNat
  | none=>0)
 | _=>0
theorem qey {w:Zp1} {ad:Addr} {z:Int} (h:w.cell? ad=some (nQ iQ z)):qfM (.pointer (some ad)) w=z.toNat:=by
 unfold qfM;simp only [h];rfl
theorem Rt.lV {n:aA} {j:Nat} (hj:j<n.o.length):Nt.iF n.o ((j+1:Nat):Int)=n.o[j].ins:=by unfold Nt.iF;rw [Int.natCast_succ,Nt.dH hj]
set_option maxRecDepth 100000 in
theorem qd6 (a:RtA) (n:aA) (keep:List Int) (kb:List Bool) (W0:Zp1) (W:Zp1) (hS:a.Still n W0) (hkb:rH n keep kb) (hM:RtM a n kb W0 (Rt.dV n keep 0) W) (hz0:∀k,k<=n.o.length->Ck.at_ (Rt.dV n keep k).aC 0=true):
  Calls prog 117 #[.pointer (some ⟨a.p,0,none⟩)] W (RtP a n kb W0 (Rt.dV n keep n.o.length) W):=by
 have HT:=hS.m12;have hP:=Rt.bX hS.chk;have gb:a.p<W.heap.size/\a.g3<W.heap.size:=⟨(by obtain ⟨v,hb,-⟩:=hM.box;exact hb.lt),hM.aC.lt⟩
 have hW:Later W (W.alloc (.cells #[.pointer (some ⟨a.p,0,none⟩)] 182)):=(Later.refl W).alloc _;have Hb:=Blk.new W 182 #[.pointer (some ⟨a.p,0,none⟩)];have Hd:Later W ((W.alloc (.cells #[.pointer (some ⟨a.p,0,none⟩)] 182)).alloc (.cells #[nQ iQ (n.o.length:Int)] 3)):=hW.alloc _;have Hk:=Hb.alloc (.cells #[nQ iQ (n.o.length:Int)] 3);have h7:=Blk.new (W.alloc (.cells #[.pointer (some ⟨a.p,0,none⟩)] 182)) 3 #[nQ iQ (n.o.length:Int)];rw [Zh1] at h7;have Hy:=hM.to_later hW;obtain ⟨v,-,-,-,-,c2,-,-,-,-,-,-⟩:=Hy.eB;have z0:(W.alloc (.cells #[.pointer (some ⟨a.p,0,none⟩)] 182)).cell? ⟨W.heap.size,0,none⟩=some (.pointer (some ⟨a.p,0,none⟩)):=Hb.cell 0;have Hp:=hM.to_later Hd;have hB:=λk (hk:k<=n.o.length)=>Rt.iV hS.chk HT keep k (by rw [hP];exact hk)
 have hh:=λk (hk:k<=n.o.length)=>Rt.qZ hS.chk keep k (by rw [hP];exact hk)
 have hH:=λk (hk:k<n.o.length)=>hS.order hk
 have hw:=λk (hk:k<n.o.length)=>hS.net.rD hk
 have Ho:∀id:Nat,1<=id->id<=n.o.length->Rt.oV n id<n.o.length+1:=λid h1 h2=>by
  have hu:(id:Int)∈Nt.sO n.o:=(Kn.bM hP _).2 ⟨by omega,by omega⟩;have:=List.idxOf_lt_length_of_mem hu;unfold Rt.oV;omega
 have hI:(Rt.jP n keep).code.length<=n.o.length*(n.o.length+3)+3:=Rt.nH hS.chk keep;obtain ⟨HS,H7,HD,HM,h5,HF,hE,Hu,hX⟩:=zd9 hS hkb Hp Hd Hk h7 hB hh hH;obtain ⟨H1,Hc,HV,HO,HX⟩:=zd5 hP hw Ho hz0 hI;clear hS hkb Hp Hd Hk h7 hB hh hH hP hw Ho hz0 hI;clear hM Hy hW Hb;go_in;go_wp2_with fail;generalize (W.alloc (.cells #[.pointer (some ⟨a.p,0,none⟩)] 182)).alloc (.cells #[nQ iQ (n.o.length:Int)] 3)=w1 at *;clear c2 z0
 go_loopw [2] (λt wx=>∃(k pp:Nat),k<=n.o.length/\t=.pointer (some ⟨pp,0,none⟩)/\W.heap.size<pp/\Blk wx pp 3 #[nQ iQ ((n.o.length-k:Nat):Int)]/\RtM a n kb W0 (Rt.dV n keep k) wx/\RtK a w1 wx) (λt wx=>qfM t wx)
 case atStart=>exact ⟨0,W.heap.size+1,Zt _,rfl,by omega,HF.out,HD.out,RtK.refl _ _⟩
 case round=>
  obtain ⟨k,pp,hk,rfl,gc,hs,hl,hF⟩:=hrel;clear HD HF;have ha:=hF.blk h5.out dZ oZ oZ;have z1:wr.cell? ⟨W.heap.size,0,none⟩=some (.pointer (some ⟨a.p,0,none⟩)):=ha.cell 0
  by_cases ht:k<n.o.length
  ·obtain ⟨p,hp⟩:∃p,n.o.length-k=p:=⟨_,rfl⟩
   obtain ⟨i,hi⟩:∃i,n.o.length-1-k=i:=⟨_,rfl⟩
   have H6:i<n.o.length:=by omega
   have HJ:p=i+1:=by omega
   have HL:=zI (show n.o.length-(k+1)=i by omega);subst HJ;have H5:=hE.out k hk;have hd:=qbV a n kb W0 _ wr hl oZ;obtain ⟨bo,oo,u,hO,Hr,hu,ge,gd⟩:=hX.out i H6;obtain ⟨j,rfl⟩:∃j,u=j+1:=⟨u-1,by omega⟩
   have hj:j<n.o.length:=by omega
   obtain ⟨bN,oN,J,jc,hN,y8,hJ⟩:=Hc.out j hj;have hy:=Rt.qL HS.out.chk hj
   have hU:Rt.dV n keep (k+1)=Rt.aN (Rt.bT n keep (i+1)) n.o.length (Rt.add 6 ((j+1:Nat):Int) (n.o[j].ins.foldl (λs i=>Rt.fetch (Nt.iF n.o) (n.o.length+1) i s) (Rt.dV n keep k))):=by
    show Rt.aN (Rt.bT n keep ((Nt.sO n.o).length-k)) _ (Rt.add 6 ((Nt.sO n.o).getD ((Nt.sO n.o).length-1-k) 0) ((Nt.iF n.o ((Nt.sO n.o).getD ((Nt.sO n.o).length-1-k) 0)).foldl _ _))=_
    rw [H1.out,hi,hp,hu,Rt.lV hj];rfl
   have H2:=hE.out (k+1) oZ
   have hG:(Rt.add 6 ((j+1:Nat):Int) (n.o[j].ins.foldl (λs i=>Rt.fetch (Nt.iF n.o) (n.o.length+1) i s) (Rt.dV n keep k))).code.length<=1000:=by
    have h1:=Rt.oJ (f:=Rt.bT n keep (i+1)) n.o.length (Rt.add 6 ((j+1:Nat):Int) (n.o[j].ins.foldl (λs i=>Rt.fetch (Nt.iF n.o) (n.o.length+1) i s) (Rt.dV n keep k)));rw [←hU] at h1;omega
   have hg:∀m,((n.o[j].ins.take m).foldl (λs i=>Rt.fetch (Nt.iF n.o) (n.o.length+1) i s) (Rt.dV n keep k)).code.length<=1000:=λm=>by
    have h1:=Rt.pO (I:=Nt.iF n.o) (m:=n.o.length+1) n.o[j].ins m (Rt.dV n keep k);have h2:(Rt.add 6 ((j+1:Nat):Int) (n.o[j].ins.foldl (λs i=>Rt.fetch (Nt.iF n.o) (n.o.length+1) i s) (Rt.dV n keep k))).code.length=(n.o[j].ins.foldl (λs i=>Rt.fetch (Nt.iF n.o) (n.o.length+1) i s) (Rt.dV n keep k)).code.length+1:=by unfold Rt.add;simp
    omega
   have Hs:=HO.out k hk;have Hw:=λ(l:List Int)=>Rt.jD (I:=Nt.iF n.o) (m:=n.o.length+1) l _ Hs
   have HE:=λm (h:m<n.o[j].ins.length)=>Rt.pJ (I:=Nt.iF n.o) (m:=n.o.length+1) h (Rt.dV n keep k)
   have H4:=(HS.out.ok.2.2 _ (gmZ hj)).2.2.1;have Hz:=λ(W':Zp1) (h:Later W0 W')=>hJ.below h (lrZ _)
   obtain ⟨v,-,-,-,c1,c2,-,-,-,-,-,-⟩:=hl.eB;have hL:=hl.later.cell Hr;have y8':=hl.later.cell y8;rw [hN] at c1;rw [hO] at c2;rw [hp] at hs;have x1:wr.cell? ⟨pp,0,none⟩=some (nQ iQ ((i+1:Nat):Int)):=hs.cell 0;generalize n.o[j].ins=il at *;generalize Rt.dV n keep k=s at *;have Hi:((j+1:Nat):Int)=(j:Int)+1:=by omega
   have Hh:((i+1:Nat):Int)=(i:Int)+1:=by omega
   rw [Hi] at hL hU;rw [Hh] at x1;have H8:=zI x1;have j1:(j:Int)+1-1=(j:Int):=by omega
   have j2:iQ.wrap (j:Int)=j:=Zc1 _ oZ;have j3:(0:Int)<=(j:Int):=by omega
   have j4:(j:Int)<n.o.length:=by omega
   have i1:(i:Int)+1-1=(i:Int):=by omega
   have i2:iQ.wrap (i:Int)=i:=Zc1 _ oZ;have i3:(0:Int)<=(i:Int):=by omega
   have i4:(i:Int)<n.o.length:=by omega
   have i5:decide ((1:Int)<=(i:Int)+1)=true:=by simp;omega
   have Hq:=λ(m:Nat)=>hl.to_later ((Later.refl wr).drewN m)
   have HH:=λ(m:Nat)=>hF.trans (RtK.of_later ((Later.refl wr).drewN m))
   obtain ⟨he,Hv,HG,Hn,HY,Ha,hf,H3,Ht⟩:=zd9 hd Hq HH hs Hz hy hg Hw HE;obtain ⟨HZ,hY⟩:=zd2 hU hG;clear hd Hq HH hs Hz hy hg Hw HE hU hG;clear hl hF ha Hr y8 hJ hu hO hN Hs H2 H5 hi hp Hi Hh;go_wp2_with fail;refine he.out.mono ?_;rintro e w2 ⟨rfl,rfl⟩;clear he;go_wp2_with fail
   go_quiet (fail)
   go_wp2_with fail;obtain ⟨wo,rfl⟩:∃wo,wo=wr:=⟨wr,rfl⟩
   go_loopw [39] (λt wx=>∃m:Nat,m<=il.length/\t=nQ iQ (m:Int)/\RtM a n kb W0 ((il.take m).foldl (λs i=>Rt.fetch (Nt.iF n.o) (n.o.length+1) i s) s) wx/\RtK a w1 wx/\Blk wx pp 3 #[nQ iQ ((i+1:Nat):Int)]) (λt _=>il.length-(intOf t).toNat)
   case atStart=>exact ⟨0,Zt _,rfl,Hv.out _,HG.out _,Hn.out.drewN _⟩
   case round=>
    obtain ⟨m,hm,rfl,ho,hD,hT⟩:=hrel;clear Hv HG Hn x1 z1 hL y8' c1 c2;have ha:=hD.blk h5.out dZ oZ oZ;have z1:wr.cell? ⟨W.heap.size,0,none⟩=some (.pointer (some ⟨a.p,0,none⟩)):=ha.cell 0
    by_cases ht:m<il.length
    ·obtain ⟨b2,off2,rfl,-,hc⟩:=HY.out wr ho.later m ht
     rw [qa1 ht] at hc;have hr:=Ha.out _ (gmZ ht);obtain ⟨u,hu⟩:=ezZ hr.1
     have hV:=qff a n kb W0 HS.out (n.o.length+1) u _ wr ho (H3.out _) oZ (by
      rcases Nat.eq_zero_or_pos u with h0|h0
      ·exact .inl h0
      ·exact .inr (HV.out u h0 oZ)) (by
      have h1:=hf.out (m+1);rw [Ht.out m ht,hu] at h1;omega)
     rw [←hu,←Ht.out m ht] at hV;rw [hu] at hc hV;have m1:(m:Int)<il.length:=by omega
     obtain ⟨HN,hx,HC,hA⟩:=zd4 ho hD hV hT;clear ho hD hV hT;clear hr hu ha;go_wp2_with fail;refine HC.out.mono ?_;rintro e w3 ⟨rfl,hC,hn⟩;have hv:=hx.out.trans hn;have hq:=hn.blk hA.out dZ oZ oZ;obtain ⟨HP,hQ,hR⟩:=zd3 hC hv hq;clear hC hv hq;clear HC hn hc HN hx hA z1;go_wp2_with fail;go_roundw
     case rel=>exact ⟨m+1,by omega,by go_num,HP.out,hQ.out,hR.out⟩
     case measure=>simp [intOf];omega
    ·obtain rfl:m=il.length:=by omega
     have Hf:=hf.out il.length;rw [Zg] at ho Hf;have h9:=qb5 a n kb W0 _ wr HS.out ho 6 ((j+1:Nat):Int) oZ;rw [Int.natCast_succ] at h9;obtain ⟨Hx,hx,hA⟩:=zd3 h9 hD hT;clear h9 hD hT;clear ho Hf ha;go_wp2_with fail;refine Hx.out.mono ?_;rintro e w3 ⟨rfl,hC,hn⟩;have hv:=hx.out.trans hn;have hq:=hn.blk hA.out dZ oZ oZ;have ha:=hv.blk h5.out dZ oZ oZ;have z3:w3.cell? ⟨W.heap.size,0,none⟩=some (.pointer (some ⟨a.p,0,none⟩)):=ha.cell 0
     have h4:=zI (qcX a n kb W0 _ w3 (Rt.bT n keep (i+1)) W.heap.size pp HS.out hC (by have:=hY.out;rw [Int.natCast_succ] at this;omega) (λs' W' H0 Hg id h1 h2=>
      qgn a n keep kb W0 s' W' HS.out H0 H7.out (i+1) id W.heap.size pp h2 ((Hg.blk ha dZ oZ oZ).cell 0) ((Hg.blk hq dZ oZ oZ).cell 0)))
     rw [←HZ.out] at h4;obtain ⟨hQ,hR⟩:=zd2 hv hq;clear hv hq;clear Hx hC hn hx hA ha z1;go_wp2_with fail;refine h4.out.mono ?_;rintro e w4 ⟨rfl,Hj,h3⟩;have HB:=hQ.out.trans h3;have hZ:=h3.blk hR.out dZ oZ oZ;have x4:w4.cell? ⟨pp,0,none⟩=some (nQ iQ ((i:Int)+1)):=by rw [hZ.cell];rfl
     have h8:Later w4 (w4.alloc (.cells #[nQ iQ (i:Int)] 3)):=(Later.refl w4).alloc _;have Hm:=Hj.to_later h8;have HA:=HB.trans (RtK.of_later h8);have He:=Blk.new w4 3 #[nQ iQ (i:Int)];have HU:W.heap.size<w4.heap.size:=by have:=hZ.lt;omega
     have Hl:qfM (.pointer (some ⟨pp,0,none⟩)) wo=i+1:=by rw [qey H8.out];omega
     have hz:=qey (w:=w4.alloc (.cells #[nQ iQ (i:Int)] 3)) (ad:=⟨w4.heap.size,0,none⟩) (z:=(i:Int)) (He.cell 0);obtain ⟨HI,HR,HW,HQ,h6⟩:=zd5 Hm HA He Hl hz;clear Hm HA He Hl hz;clear h4 h3 hQ Hj HB hZ h8 hR z3;go_wp2_with fail;go_roundw
     case rel=>exact ⟨k+1,w4.heap.size,by omega,rfl,HU,by rw [HL.out];exact HW.out,HI.out,HR.out⟩
     case measure=>rw [HQ.out,h6.out];omega
  ·obtain rfl:k=n.o.length:=by omega
   have hK:=(RtK.of_later (a:=a) HM.out).trans hF;have x1:wr.cell? ⟨pp,0,none⟩=some (nQ iQ 0):=by rw [hs.cell,Nat.sub_self];rfl
   obtain ⟨H9,HK⟩:=zd2 hl hK;clear hl hK;clear hF hs ha;go_wp2_with fail
   go_end0
   exact ⟨rfl,H9.out,HK.out⟩
end Go.Proofs.YtddkenhemnkkeaaGreat
