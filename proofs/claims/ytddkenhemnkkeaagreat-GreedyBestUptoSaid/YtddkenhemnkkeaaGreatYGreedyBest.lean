/- The statement Rows.GreedyBestUptoSaid is proved: for every input the law 'athanorlaw22.GreedyBest' returns true, and each argument reads afterwards as it read before. Conditions: those of the row, no others. -/
import Derived.Below
import Derived.ChangeOld
import Derived.JoinedCond
import Derived.OpenShut
import Derived.ProofKit
import Derived.ShutString
import Derived.WalkKit
import Derived.Test.YtddkenhemnkkeaaGreatRows
import Derived.Test.YtddkenhemnkkeaaGreatZ08
set_option linter.unusedVariables false
open Go.IntKind renaming i64 → iQ
open Go.Value renaming int → nQ, slice → sQ
open List renaming take_succ_eq_append_getElem → Zb, replicate → Zc, drop_eq_getElem_cons → Zd, length_append → Ze, all_eq_true → Zf, take_length → Zg, mem_of_mem_take → Zh, getElem?_eq_none → Zi, flatMap_append → Zj, getElem?_toArray → Zk, getElem?_append_right → Zl, getElem?_append_left → Zm, take_append_drop → Zn, length_take → Zo, mem_of_mem_drop → Zp, length_drop → Zq, getElem?_set_self → Zr, getElem?_set_ne → Zs
open Nat renaming zero_le → Zt, succ_mul → Zu, le_trans → Zv, zero_add → Zw, add_zero → Zx, le_succ → Zy
open Bool renaming and_eq_true → Zz
open Go.Value renaming int → Za1, slice → Zb1
open Go.IntWalk renaming i64_in → Zc1
open Go.NoPanic renaming normal → Zd1
open Go.RowKit.Below renaming refl → Ze1
open Go.AllReadyH renaming cons → Zf1, nil → Zg1
open Go.World renaming size_alloc → Zh1, cell?_of_block → Zi1, block_lt_of_cell? → Zj1
open Go renaming bodyPost_ret → Zk1, wp_region_held_drew → Zl1, wp_region_noPanic → Zm1, wpAnyH_done → Zn1, wpAnyH_ready → Zo1, World → Zp1
open Go.Proofs.Tryz
namespace Go.Proofs.YtddkenhemnkkeaaGreat
set_option maxHeartbeats 16000000
set_option maxRecDepth 20000
open Go.RowKit
set_option maxRecDepth 100000 in
theorem qda (w:Zp1) (A N:Option Addr) (c d:Nat) (n:aA) (la:n.inn.length<=c) (lb:c<=9223372036854775807) (lc:n.o.length<=d) (ld:d<=9223372036854775807) (hR:bH w A N n) (hf:n.fits)
  (cap:Int) (hcapw:(Lit.int iQ cap).wf=true):
  Calls prog 6 #[.agg #[sQ A n.inn.length c,sQ N n.o.length d],nQ iQ cap] w λe w'=>e=.returned (.bool true)/\Below w.heap.size w w':=by
 have Hi:=hf.ok;have hu:=qcw hcapw;clear hcapw;have hk:=Blk.new w 26 #[sQ A n.inn.length c,sQ N n.o.length d];have Hh:Later w (w.alloc (.cells #[sQ A n.inn.length c,sQ N n.o.length d] 26)):=(Later.refl w).alloc _;obtain ⟨hy,HR,Hk,hY⟩:=zd4 Hi hR hk Hh;clear Hi hR hk Hh;go_in;go_wp2_with fail;generalize w.alloc (.cells #[sQ A n.inn.length c,sQ N n.o.length d] 26)=w1 at *;refine (qdH A N c d n w1 hy.out (HR.out.below hY.out (lrZ _))).mono ?_;rintro e w2 ⟨b,rfl,HI,Hb⟩;have hc:=hY.out.call Hb;have hx:=(show Later w1 w2 from Hb).blk Hk.out;clear Hb Hk hY;have aw:∀W,Later w W->Calls prog 9 #[] W λe w'=>e=.returned (.bool true)/\Later w w':=λW h=>(qfi W).mono λe w' hq=>⟨hq.1,h.call hq.2⟩
 cases b
 ·have Ha:=zI hx
  obtain ⟨hI,hL⟩:=zd2 hc aw;clear hx hc aw;clear HI;go_wp2_with fail;refine (hL.out _ hI.out).mono ?_;rintro e wz ⟨rfl,hw⟩;go_wp2_with fail;go_ret;exact ⟨rfl,hw⟩
 have h9:=HI rfl;have x0:w2.cell? ⟨w.heap.size,0,none⟩=some (sQ A n.inn.length c):=hx.cell 0;have x1:w2.cell? ⟨w.heap.size,1,none⟩=some (sQ N n.o.length d):=hx.cell 1;obtain ⟨Ha,hI,hL⟩:=zd3 hx hc aw;clear hx hc aw;go_wp2_with fail;have hP:=qbm A N c d n cap w2 hy.out (HR.out.below hI.out (lrZ _)) lc oZ hu;obtain ⟨⟨r,er⟩,hr⟩:∃z,Gr.bK n cap=z:=⟨_,rfl⟩
 rw [hr] at hP;unfold dR at hP;have Hr:=zI hr;clear hr;refine hP.mono ?_;rintro e w3 ⟨C,cc,rfl,hC,Hs,-⟩;clear hP;simp only at hC ⊢;have hp:=Blk.new w3 50 #[nQ iQ r.pl,sQ C r.code.length cc,nQ iQ r.pk,nQ iQ r.co,nQ iQ r.ag,nQ iQ r.hi];have hZ:=Hs.alloc (.cells #[nQ iQ r.pl,sQ C r.code.length cc,nQ iQ r.pk,nQ iQ r.co,nQ iQ r.ag,nQ iQ r.hi] 50);have HG:=hC.below (show Later w3 (w3.alloc (.cells #[nQ iQ r.pl,sQ C r.code.length cc,nQ iQ r.pk,nQ iQ r.co,nQ iQ r.ag,nQ iQ r.hi] 50)) from (Later.refl w3).alloc _) (lrZ _);have hV:=hZ.blk Ha.out;have HE:=hI.out.trans hZ;clear x0 x1 hC Hs hZ Ha hI;have x0:=hV.cell 0;have x1:=hV.cell 1;simp only [Zk,List.getElem?_cons_succ,List.getElem?_cons_zero] at x0 x1;obtain ⟨hW,Hc,h6,hO⟩:=zd4 hp HG hV HE;clear hp HG hV HE;go_upto_region 4 with fail;generalize w3.alloc (.cells #[nQ iQ r.pl,sQ C r.code.length cc,nQ iQ r.pk,nQ iQ r.co,nQ iQ r.ag,nQ iQ r.hi] 50)=w4 at *;generalize w3.heap.size=pb at *;go_wp2_with fail;refine (tK A N c d n w4 hy.out (HR.out.below hO.out (lrZ _))).mono ?_;rintro e w5 ⟨N1,d1,rfl,HH,HK,HT,HB⟩;have hB:Later w4 w5:=HB;obtain ⟨Hy,hv⟩:=zd2 HH hB;clear HH hB;clear HB x0 x1;go_wp2_with fail;refine (qd1 A N1 c d1 n w5 hy.out Hy.out HK la lb).mono ?_;rintro e w6 ⟨hT,⟨ht,gx,rfl,-,-⟩|⟨ht,rfl⟩⟩
 rotate_left
 ·have ha:=hv.out.trans (show Later w5 w6 from hT)
  have hA:=ha.blk hW.out;have hl:=hO.out.trans ha;have hE:=Hr.out;unfold Gr.bK at hE;rw [ipZ ht] at hE;injection hE with h1 h2
  subst h1 h2;have Hx:(Nt.check n != 0)=true:=by simp [ht]
  have p0:w6.cell? ⟨pb,0,none⟩=some (nQ iQ 0):=hA.cell 0;have hz:=zI hl;clear hl;clear ha hA hT ht Hr hW h6 Hc;generalize Nt.check n=er at *;go_wp2_with fail;refine (hL.out _ hz.out).mono ?_;rintro e wz ⟨rfl,hw⟩;go_wp2_with fail;go_ret;exact ⟨rfl,hw⟩
 have ha:=hv.out.trans (show Later w5 w6 from hT);have hA:=ha.blk hW.out;have h7:=Hc.out.below ha (lrZ _);have Hu:=ha.blk h6.out;have hl:=hO.out.trans ha;have hS:=Gr.iW ht cap;rw [Hr.out] at hS;simp only at hS;have HA:=λ(p:Int) (Y:Zp1) (h:Later w6 Y)=>qao A N c d n p cap Y hy.out (HR.out.below (hl.trans h) (lrZ _)) lc oZ hu
 have HM:r.code.length<=1048576:=by
  rcases hS with ⟨-,h⟩|⟨-,j,-,h,-⟩
  ·injection h with h _
   subst h;simp [Gr.fE]
  ·have h1:=Gr.pQ ht oZ ((j:Int)+1) cap
   have h2:=(Gr.nA (n:=n) (p:=(j:Int)+1) (cap:=cap) (by rw [h])).2.2.2.1;rw [h] at h2;simp only at h2;rw [h2];omega
 have hs:=λ(Y:Zp1) (h:Later w6 Y)=>qet A N C c d cc n r.code cap Y hy.out (HR.out.below (hl.trans h) (lrZ _)) lc oZ hu HM (h7.below h (lrZ _))
 unfold uU qhE at hs;obtain ⟨hQ,HO,h8,hz,Hf,hX⟩:=zd6 hA h7 Hu hl HA hs;clear hA h7 Hu hl HA hs;clear ha hT hW Hc h6 hO hv Hr Hy ht;go_wp2_with fail;rcases hS with ⟨hK,hE⟩|⟨rfl,j,hj,Ho,Hg,Hj,Hq,Hw⟩
 ·injection hE with h1 h2
  subst h1 h2;have h4:=zI hK;clear hK hX
  go_loopw [10,11,12,13,50] (λsm v _ _ _ wx=>∃k:Nat,k<=4/\v=nQ iQ ((k:Int)+1)/\sm=.bool false/\Later w6 wx) (λ_ v _ _ _ _=>5-(intOf v).toNat)
  case atStart=>exact ⟨0,by omega,rfl,rfl,Later.refl _⟩
  case round=>
   obtain ⟨k,hk,rfl,rfl,hG⟩:=hrel;have he:=zI hG;clear hG
   by_cases He:k<4
   ·have hg:=he.out.blk h8.out
    have u0:wr.cell? ⟨w.heap.size,0,none⟩=some (sQ A n.inn.length c):=hg.cell 0;have u1:wr.cell? ⟨w.heap.size,1,none⟩=some (sQ N n.o.length d):=hg.cell 1;have hm:=Hf.out ((k:Int)+1) wr he.out;have k1:(k:Int)+1<=4:=by omega
    have w1':iQ.wrap ((k:Int)+1+1)=(k:Int)+1+1:=Zc1 _ oZ;unfold dR at hm;have hd:=h4.out k He;generalize Gr.aF n ((k:Int)+1) cap=mr at *;obtain ⟨q,eq⟩:=mr;simp only at hm hd;have Hx:(eq != 0)=true:=by simp [hd]
    have Hm:=zI hm;clear hm;clear hg hd;go_wp2_with fail;refine Hm.out.mono ?_;rintro e v2 ⟨D,dd,rfl,hD,hc,-⟩;have hp:=Blk.new v2 50 #[nQ iQ q.pl,sQ D q.code.length dd,nQ iQ q.pk,nQ iQ q.co,nQ iQ q.ag,nQ iQ q.hi];have hh:=hc.alloc (.cells #[nQ iQ q.pl,sQ D q.code.length dd,nQ iQ q.pk,nQ iQ q.co,nQ iQ q.ag,nQ iQ q.hi] 50);have hb:=he.out.trans hh;have ho:=zI hb;clear hb;clear hp hh hc hD u0 u1 Hm;go_wp2_with fail;go_roundw
    case rel=>exact ⟨k+1,by omega,by go_num,rfl,ho.out⟩
    case measure=>simp [intOf];omega
   ·obtain rfl:k=4:=by omega
    have hb:=hz.out.trans he.out;have p0:wr.cell? ⟨pb,0,none⟩=some (nQ iQ 0):=(he.out.blk hQ.out).cell 0;have ho:=zI hb;clear hb;go_wp2_with fail;refine (hL.out _ ho.out).mono ?_;rintro e wz ⟨rfl,hw⟩;go_wp2_with fail;go_ret;exact ⟨rfl,hw⟩
 ·have Hn:=zI Hw
  obtain ⟨Ht,h5⟩:=zd2 Hq Ho;clear Hw Hq Ho;rw [←Hg] at h5;obtain ⟨HL,HN⟩:=zd2 Hg Hj;clear Hg Hj
  go_loopw [10,11,12,13,50] (λsm v _ _ _ wx=>∃(k:Nat) (b:Bool),k<=4/\v=nQ iQ ((k:Int)+1)/\sm=.bool b/\(j<k->b=true)/\Later w6 wx) (λ_ v _ _ _ _=>5-(intOf v).toNat)
  case atStart=>exact ⟨0,false,by omega,rfl,rfl,λh=>absurd h oZ,Later.refl _⟩
  case round=>
   obtain ⟨k,b,hk,rfl,rfl,HC,hG⟩:=hrel;obtain ⟨he,Hz⟩:=zd2 hG HC;clear hG HC
   by_cases He:k<4
   ·have hg:=he.out.blk h8.out
    have u0:wr.cell? ⟨w.heap.size,0,none⟩=some (sQ A n.inn.length c):=hg.cell 0;have u1:wr.cell? ⟨w.heap.size,1,none⟩=some (sQ N n.o.length d):=hg.cell 1;have hm:=Hf.out ((k:Int)+1) wr he.out;have k1:(k:Int)+1<=4:=by omega
    have w1':iQ.wrap ((k:Int)+1+1)=(k:Int)+1+1:=Zc1 _ oZ;unfold dR at hm;have hN:=Hn.out k He;have hM:j=k->(Gr.aF n ((k:Int)+1) cap).2=0:=λe=>by subst e;rw [←HL.out,h5.out]
    generalize Gr.aF n ((k:Int)+1) cap=mr at *;obtain ⟨q,eq⟩:=mr;simp only at hm hN hM;have Hm:=zI hm;clear hm;clear hg
    by_cases hd:eq=0
    rotate_left
    ·have Hx:(eq != 0)=true:=by simp [hd]
     have HJ:=zI (show j<k+1->b=true from λh=>Hz.out (by
      have:j≠k:=λe=>hd (hM e)
      omega))
     clear hN hM;go_wp2_with fail;refine Hm.out.mono ?_;rintro e v2 ⟨D,dd,rfl,hD,hc,-⟩;have hp:=Blk.new v2 50 #[nQ iQ q.pl,sQ D q.code.length dd,nQ iQ q.pk,nQ iQ q.co,nQ iQ q.ag,nQ iQ q.hi];have hh:=hc.alloc (.cells #[nQ iQ q.pl,sQ D q.code.length dd,nQ iQ q.pk,nQ iQ q.co,nQ iQ q.ag,nQ iQ q.hi] 50);have hb:=he.out.trans hh;have ho:=zI hb;clear hb;clear hp hh hc hD u0 u1 Hm;go_wp2_with fail;go_roundw
     case rel=>exact ⟨k+1,b,by omega,by go_num,rfl,HJ.out,ho.out⟩
     case measure=>simp [intOf];omega
    ·subst hd
     obtain ⟨f1,f2,f3⟩:=hN rfl;clear hM hN;go_wp2_with fail;refine Hm.out.mono ?_;rintro e v2 ⟨D,dd,rfl,hD,hc,-⟩;have hp:=Blk.new v2 50 #[nQ iQ q.pl,sQ D q.code.length dd,nQ iQ q.pk,nQ iQ q.co,nQ iQ q.ag,nQ iQ q.hi];have hh:=hc.alloc (.cells #[nQ iQ q.pl,sQ D q.code.length dd,nQ iQ q.pk,nQ iQ q.co,nQ iQ q.ag,nQ iQ q.hi] 50);have Hl:=hD.below (show Later v2 (v2.alloc (.cells #[nQ iQ q.pl,sQ D q.code.length dd,nQ iQ q.pk,nQ iQ q.co,nQ iQ q.ag,nQ iQ q.hi] 50)) from (Later.refl v2).alloc _) (lrZ _);have hb:=he.out.trans hh;have HF:=hb.blk hQ.out;have Hv:=HO.out.below hb (lrZ _);obtain ⟨⟨m0,m1,m2,m3,m4,m5⟩,-⟩:=qaa HF;obtain ⟨⟨q0,q1,q2,q3,q4,q5⟩,-⟩:=qaa hp;clear hp hh hc hD u0 u1 Hm HF;obtain ⟨ho,HP,HS⟩:=zd3 hb Hl Hv;clear hb Hl Hv;go_upto_region 12 with fail;generalize v2.alloc (.cells #[nQ iQ q.pl,sQ D q.code.length dd,nQ iQ q.pk,nQ iQ q.co,nQ iQ q.ag,nQ iQ q.hi] 50)=v3 at *;generalize v2.heap.size=qb at *
     by_cases hF:(k:Int)+1=r.pl
     ·have Hp:=f3 hF
      have Hd:=λ(Y:Zp1) (h:Later v3 Y)=>qgy C cc r.code D dd q.code Y oZ (HS.out.below h (lrZ _)) (HP.out.below h (lrZ _))
      have e2:(((k:Int)+1)==r.pl)=true:=by simp [hF]
      have f4:¬(k:Int)+1<r.pl:=by omega
      rw [Hp] at Hd m1;have hU:=zI Hd;clear Hd;clear Hp f3 f2 hF
      by_cases hn:q.co=r.co
      ·have e1:(q.co==r.co)=true:=by simp [hn]
       clear hn;go_wp2_with fail;refine (hU.out v3 (Later.refl v3)).mono ?_;rintro e v4 ⟨rfl,hJ⟩;rw [decide_eq_true trivial];have hH:=ho.out.trans (show Later v3 v4 from hJ);have h0:=zI hH;clear hH;clear hJ m0 m1 m2 m3 m4 m5 q0 q1 q2 q3 q4 q5 hU;go_wp2_with fail;go_roundw
       case rel=>exact ⟨k+1,true,by omega,by go_num,rfl,λ_=>rfl,h0.out⟩
       case measure=>simp [intOf];omega
      ·have e1:(q.co==r.co)=false:=by simp [hn]
       clear hn;go_wp2_with fail;refine (hU.out v3 (Later.refl v3)).mono ?_;rintro e v4 ⟨rfl,hJ⟩;rw [decide_eq_true trivial];have hH:=ho.out.trans (show Later v3 v4 from hJ);have h0:=zI hH;clear hH;clear hJ m0 m1 m2 m3 m4 m5 q0 q1 q2 q3 q4 q5 hU;go_wp2_with fail;go_roundw
       case rel=>exact ⟨k+1,true,by omega,by go_num,rfl,λ_=>rfl,h0.out⟩
       case measure=>simp [intOf];omega
     ·have e2:(((k:Int)+1)==r.pl)=false:=by simp [hF]
      clear hF f3
      by_cases hn:q.co=r.co
      ·have f2:=f2 hn
       have e1:(q.co==r.co)=true:=by simp [hn]
       clear hn;go_wp2_with fail;go_roundw
       case rel=>exact ⟨k+1,true,by omega,by go_num,rfl,λ_=>rfl,ho.out⟩
       case measure=>simp [intOf];omega
      ·have e1:(q.co==r.co)=false:=by simp [hn]
       clear hn f2;go_wp2_with fail;go_roundw
       case rel=>exact ⟨k+1,true,by omega,by go_num,rfl,λ_=>rfl,ho.out⟩
       case measure=>simp [intOf];omega
   ·obtain rfl:k=4:=by omega
    obtain rfl:b=true:=Hz.out hj;have hs:=hX.out wr he.out;rw [Ht.out] at hs;simp only at hs;have hg:=he.out.blk h8.out;have u0:wr.cell? ⟨w.heap.size,0,none⟩=some (sQ A n.inn.length c):=hg.cell 0;have u1:wr.cell? ⟨w.heap.size,1,none⟩=some (sQ N n.o.length d):=hg.cell 1;have p1:wr.cell? ⟨pb,1,none⟩=some (sQ C r.code.length cc):=(he.out.blk hQ.out).cell 1;have hX:=zI hs;clear hs;clear hg Hf Hn Ht h5;go_wp2_with fail;refine hX.out.mono ?_;rintro e v2 ⟨rfl,hc⟩;have HD:=Blk.new v2 48 #[nQ iQ r.pk,nQ iQ r.co,nQ iQ r.ag,nQ iQ r.hi];have hh:=hc.alloc (.cells #[nQ iQ r.pk,nQ iQ r.co,nQ iQ r.ag,nQ iQ r.hi] 48);have hb:=he.out.trans hh;have hl:=hz.out.trans hb;obtain ⟨⟨s0,s1,s2,s3⟩,-⟩:=qaw HD;obtain ⟨⟨m0,m1,m2,m3,m4,m5⟩,-⟩:=qaa (hb.blk hQ.out);have HQ:=qdJ r.pk r.co r.ag r.hi;have h3:=HN.out;have hz:=zI hl;clear hl;clear hb hh hc HD u0 u1 p1;go_upto_region 19 with fail;generalize v2.alloc (.cells #[nQ iQ r.pk,nQ iQ r.co,nQ iQ r.ag,nQ iQ r.hi] 48)=v3 at *;generalize v2.heap.size=sb at *;go_wp2_with fail;refine (hL.out _ hz.out).mono ?_;rintro e wz ⟨rfl,hw⟩;go_wp2_with fail;go_ret;exact ⟨rfl,hw⟩
end Go.Proofs.YtddkenhemnkkeaaGreat
namespace Go.Proofs.YtddkenhemnkkeaaGreat.greedyBest
set_option maxHeartbeats 16000000
set_option maxRecDepth 20000
open Go.ChangeShapes Go.WideShapes Go.ChangeAt Go.RowKit
open Go.ChangeMaps (open_string shut_string)
theorem own:ownKnob prog.godebug=none:=by kernel_rfl
theorem laidOut:laidOutB prog=true:=by kernel_rfl
set_option maxRecDepth 100000 in
theorem lifted (os:Os) (started:os.Started) (H:Type) (enc:TypeId × Value->H) (Fi:Stop.Interp):
  ReturnsInHanded {} Tryz.checked os 6 .any ((Rows.OpenSpec.upto Rows.greedyBestSpec).pre6 enc prog Tryz.f6 Rows.greedyBestUptoRow.domain false) (((Rows.OpenSpec.upto Rows.greedyBestSpec).at Fi).post enc prog Tryz.f6 false true false false):=by
 refine returnsInHanded_of_cond (C:=Tryz.checked) (s:=Rows.OpenSpec.upto Rows.greedyBestSpec) (k:=Rows.uptoSmall) rfl own started krZ func6
  (OpenSpec.witness (enc:=enc) (C:=Tryz.checked) (s:=Rows.OpenSpec.upto Rows.greedyBestSpec) (k:=Rows.uptoSmall) rfl false ⟨#[],#[.agg #[sQ none 0 0,sQ none 0 0],nQ iQ 0],[]⟩ 8 krZ krZ krZ
   (x:=([.agg [.nil,.nil],.lit (Lit.int iQ 0)],[],[])) krZ rfl krZ) ?_
 intro W base args ds gs before ha hW hi hc _;have hb:∀(j:Nat) t v,Tryz.f6.params[j]? = some t->args[j]? = some v->Value.okWide prog W .any base t v:=ha;have hk:=hW;obtain ⟨p,q,hd,hV,rfl,ho,hn⟩:=hW;have hA:DataW.TrodAll enc prog W 0 (λ_=>true) true Tryz.f6.params.toList args.toList ds p:=hd;rw [Tryz.params6] at hA hb;obtain ⟨v0,vs0,d0,ds0,p0,q0,hf,rfl,rfl,h0,r0⟩:=trodAll_cons hA;obtain ⟨v1,vs1,d1,ds1,p1,q1,rfl,rfl,rfl,h1,r1⟩:=trodAll_cons r0;obtain ⟨rfl,rfl,rfl⟩:=trodAll_nil r1;obtain rfl:args=#[v0,v1]:=by cases args;simp_all
 obtain ⟨rfl,rfl⟩:=trodVars_none hV;have hj:Rows.uptoBulkAll ([d0,d1]++[])<=1048576:=of_decide_eq_true hc;have hl:Rows.uptoBulk d0<=1048576:=Zv (qbF sZ) hj;have k0:=h0;have lt0:∀x∈p0,x.block<W.heap.size:=by obtain ⟨m,hm⟩:=k0;exact DataW.trod_lt m _ _ _ hm
 have k1:=h1;have lt1:∀x∈p1,x.block<W.heap.size:=by obtain ⟨m,hm⟩:=k1;exact DataW.trod_lt m _ _ _ hm
 obtain ⟨A0,N0,c10,c20,n0,rfl,la0,lb0,lc0,ld0,hh,hg⟩:=qdI (hb 0 26 v0 rfl rfl) h0 hl;obtain ⟨a1,rfl,rfl,rfl,w1⟩:=open_int underlying3 (hb 1 3 v1 rfl rfl) h1;clear hd ha;refine (qda W A0 N0 c10 c20 n0 la0 lb0 lc0 ld0 hh hg a1 w1).mono λe W' ⟨he,bel⟩=>?_
 subst he;exact ⟨_,rfl,_,_,_,[],_,[],hk,trodAll_mk1 (shut_bool underlying4 _),(trodAll_cons_mk (Below.trod laidOut krZ (of_decide_eq_true krZ) k0 bel lt0) (trodAll_cons_mk (Below.trod laidOut krZ (of_decide_eq_true krZ) k1 bel lt1) trodAll_mk0)),rfl,bel.frame _,λh=>by cases h⟩
theorem over:Rows.greedyBestUptoRow.holds Tryz.pinned (Rows.OpenSpec.upto Rows.greedyBestSpec):=
 OpenClaim.holds_of_cond 6 Tryz.f6 rfl rfl rfl rfl rfl rfl rfl ⟨rfl,rfl,rfl,rfl,rfl⟩ rfl rfl rfl rfl rfl krZ func6 krZ
  (of_decide_eq_true krZ) (by unfold Func.isWrapper;first|(rw [ipZ (by decide +kernel)];kernel_rfl)|(rw [inZ (by decide +kernel)];exact ⟨rfl,rfl⟩))
  (λos started H enc _ Fi=>lifted os started H enc Fi)
end Go.Proofs.YtddkenhemnkkeaaGreat.greedyBest
namespace Go.Proofs.YtddkenhemnkkeaaGreat
theorem greedyBest_holds:Rows.GreedyBestUptoSaid:=greedyBest.over
#print axioms greedyBest_holds
end Go.Proofs.YtddkenhemnkkeaaGreat
