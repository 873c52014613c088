/- The statement Rows.GreedyMoreUptoSaid is proved: for every input the law 'athanorlaw22.GreedyMore' returns true, and each argument reads afterwards as it read before. Conditions: those of the row, no others. -/
import Derived.Below
import Derived.ChangeOld
import Derived.JoinedCond
import Derived.OpenShut
import Derived.ProofKit
import Derived.ShutString
import Derived.WalkKit
import Derived.Test.YtddkenhemnkkeaaGreatRows
import Derived.Test.YtddkenhemnkkeaaGreatZ08
set_option linter.unusedVariables false
open Go.IntKind renaming i64 → iQ
open Go.Value renaming int → nQ, slice → sQ
open List renaming take_succ_eq_append_getElem → Zb, replicate → Zc, drop_eq_getElem_cons → Zd, length_append → Ze, all_eq_true → Zf, take_length → Zg, mem_of_mem_take → Zh, getElem?_eq_none → Zi, flatMap_append → Zj, getElem?_toArray → Zk, getElem?_append_right → Zl, getElem?_append_left → Zm, take_append_drop → Zn, length_take → Zo, mem_of_mem_drop → Zp, length_drop → Zq, getElem?_set_self → Zr, getElem?_set_ne → Zs
open Nat renaming zero_le → Zt, succ_mul → Zu, le_trans → Zv, zero_add → Zw, add_zero → Zx, le_succ → Zy
open Bool renaming and_eq_true → Zz
open Go.Value renaming int → Za1, slice → Zb1
open Go.IntWalk renaming i64_in → Zc1
open Go.NoPanic renaming normal → Zd1
open Go.RowKit.Below renaming refl → Ze1
open Go.AllReadyH renaming cons → Zf1, nil → Zg1
open Go.World renaming size_alloc → Zh1, cell?_of_block → Zi1, block_lt_of_cell? → Zj1
open Go renaming bodyPost_ret → Zk1, wp_region_held_drew → Zl1, wp_region_noPanic → Zm1, wpAnyH_done → Zn1, wpAnyH_ready → Zo1, World → Zp1
open Go.Proofs.Tryz
namespace Go.Proofs.YtddkenhemnkkeaaGreat
set_option maxHeartbeats 16000000
set_option maxRecDepth 20000
open Go.RowKit
theorem qi1 (i:Nat) (hi:i<3):∃p:Int,(p=1∨p=2∨p=4)/\∀w,(Instr.index 53 (.agg #[nQ iQ 1,nQ iQ 2,nQ iQ 4]) (nQ iQ (i:Int))).run prog w=.ok (nQ iQ p) w:=by
 obtain rfl|rfl|rfl:i=0∨i=1∨i=2:=by omega
 ·exact ⟨1,.inl rfl,λw=>qc0 w 1 2 4⟩
 ·exact ⟨2,.inr (.inl rfl),λw=>qc1 w 1 2 4⟩
 ·exact ⟨4,.inr (.inr rfl),λw=>qc2 w 1 2 4⟩
set_option maxRecDepth 100000 in
theorem qdb (w:Zp1) (A N:Option Addr) (c d:Nat) (n:aA) (la:n.inn.length<=c) (lb:c<=9223372036854775807) (lc:n.o.length<=d) (ld:d<=9223372036854775807) (hR:bH w A N n) (hf:n.fits)
  (cap:Int) (hcapw:(Lit.int iQ cap).wf=true) (more:Int) (hmorew:(Lit.int iQ more).wf=true):
  Calls prog 5 #[.agg #[sQ A n.inn.length c,sQ N n.o.length d],nQ iQ cap,nQ iQ more] w λe w'=>e=.returned (.bool true)/\Below w.heap.size w w':=by
 have hX:=hf.ok;have hI:=qcw hcapw;have Hi:=qcw hmorew;clear hcapw hmorew;have hk:=Blk.new w 26 #[sQ A n.inn.length c,sQ N n.o.length d];have hU:Later w (w.alloc (.cells #[sQ A n.inn.length c,sQ N n.o.length d] 26)):=(Later.refl w).alloc _;obtain ⟨hs,HR,Hk,hH⟩:=zd4 hX hR hk hU;clear hX hR hk hU;go_in;go_wp2_with fail;generalize w.alloc (.cells #[sQ A n.inn.length c,sQ N n.o.length d] 26)=w1 at *;refine (qdH A N c d n w1 hs.out (HR.out.below hH.out (lrZ _))).mono ?_;rintro e w2 ⟨b,rfl,ht,hO⟩;have hg:=hH.out.call hO;have hd:=(show Later w1 w2 from hO).blk Hk.out;clear hO Hk hH;have aw:∀W,Later w W->Calls prog 9 #[] W λe w'=>e=.returned (.bool true)/\Later w w':=λW h=>(qfi W).mono λe w' hq=>⟨hq.1,h.call hq.2⟩
 cases b
 ·have hh:=zI hd
  obtain ⟨hb,he⟩:=zd2 hg aw;clear hd hg aw;clear ht;go_wp2_with fail;refine (he.out _ hb.out).mono ?_;rintro e wz ⟨rfl,hc⟩;go_wp2_with fail;go_ret;exact ⟨rfl,hc⟩
 have h9:=ht rfl
 by_cases c1:cap<0
 ·have d1:decide (cap<0)=true:=by simp [c1]
  obtain ⟨hh,hb,he⟩:=zd3 hd hg aw;clear hd hg aw;clear ht;go_wp2_with fail;refine (he.out _ hb.out).mono ?_;rintro e wz ⟨rfl,hc⟩;go_wp2_with fail;go_ret;exact ⟨rfl,hc⟩
 have d1:decide (cap<0)=false:=by simp;omega
 by_cases c2:4096<cap
 ·have d2:decide (4096<cap)=true:=by simp [c2]
  obtain ⟨hh,hb,he⟩:=zd3 hd hg aw;clear hd hg aw;clear ht;go_wp2_with fail;refine (he.out _ hb.out).mono ?_;rintro e wz ⟨rfl,hc⟩;go_wp2_with fail;go_ret;exact ⟨rfl,hc⟩
 have d2:decide (4096<cap)=false:=by simp;omega
 by_cases c3:more<0
 ·have d3:decide (more<0)=true:=by simp [c3]
  obtain ⟨hh,hb,he⟩:=zd3 hd hg aw;clear hd hg aw;clear ht;go_wp2_with fail;refine (he.out _ hb.out).mono ?_;rintro e wz ⟨rfl,hc⟩;go_wp2_with fail;go_ret;exact ⟨rfl,hc⟩
 have d3:decide (more<0)=false:=by simp;omega
 have w1':iQ.wrap (4096-cap)=4096-cap:=Zc1 _ oZ
 by_cases c4:4096-cap<more
 ·have d4:decide (4096-cap<more)=true:=by simp [c4]
  obtain ⟨hh,hb,he⟩:=zd3 hd hg aw;clear hd hg aw;clear ht;go_wp2_with fail;refine (he.out _ hb.out).mono ?_;rintro e wz ⟨rfl,hc⟩;go_wp2_with fail;go_ret;exact ⟨rfl,hc⟩
 have d4:decide (4096-cap<more)=false:=by simp;omega
 have w2':iQ.wrap (cap+more)=cap+more:=Zc1 _ oZ;obtain ⟨hh,hb,he⟩:=zd3 hd hg aw;clear hd hg aw;clear ht;have x0:w2.cell? ⟨w.heap.size,0,none⟩=some (sQ A n.inn.length c):=hh.out.cell 0;have x1:w2.cell? ⟨w.heap.size,1,none⟩=some (sQ N n.o.length d):=hh.out.cell 1;go_wp2_with fail;refine (tK A N c d n w2 hs.out (HR.out.below hb.out (lrZ _))).mono ?_;rintro e w5 ⟨N1,d1',rfl,Hh,Hj,Hw,Ha⟩;have hD:Later w2 w5:=Ha;obtain ⟨h8,hl⟩:=zd2 Hh hD;clear Hh hD;clear Ha x0 x1;go_wp2_with fail;refine (qd1 A N1 c d1' n w5 hs.out h8.out Hj la lb).mono ?_;rintro e w6 ⟨hG,⟨hj,gx,rfl,-,-⟩|⟨hj,rfl⟩⟩
 rotate_left
 ·have hz:=hb.out.trans (hl.out.trans (show Later w5 w6 from hG))
  have Ht:(Nt.check n != 0)=true:=by simp [hj]
  have hQ:=zI hz;clear hz;clear hG hj hh;generalize Nt.check n=er at *;go_wp2_with fail;refine (he.out _ hQ.out).mono ?_;rintro e wz ⟨rfl,hc⟩;go_wp2_with fail;go_ret;exact ⟨rfl,hc⟩
 have hu:=hl.out.trans (show Later w5 w6 from hG);have h6:=hu.blk hh.out;have hz:=hb.out.trans hu;have hY:=λ(p:Int) (hp:p=1∨p=2∨p=4)=>Gr.more_ok (n:=n) hj oZ (k:=p) (cap:=cap) (more:=more) hp oZ oZ
 obtain ⟨bb1,bb2,bb3⟩:=Gr.best_big (n:=n) hj oZ;have hN:=λ(p:Int) (Y:Zp1) (h:Later w Y)=>qao A N c d n p cap Y hs.out (HR.out.below h (lrZ _)) lc oZ hI
 have hK:=λ(p:Int) (Y:Zp1) (h:Later w Y)=>qao A N c d n p (cap+more) Y hs.out (HR.out.below h (lrZ _)) lc oZ oZ
 have hF:=λ(Y:Zp1) (h:Later w Y)=>qbm A N c d n 1073741824 Y hs.out (HR.out.below h (lrZ _)) lc oZ oZ
 have hV:=λ(Y:Zp1) (h:Later w Y)=>qby A N c d n Y hs.out (HR.out.below h (lrZ _)) lc oZ
 unfold dR at hN hK hF;generalize Gr.bK n 1073741824=br at *;obtain ⟨bq,be⟩:=br;simp only at bb1 bb2 bb3 hF;subst bb1;have hA:=hj;obtain ⟨Hn,hQ,Hb,Hg,Hd,Hr,Ho,hL,hP⟩:=zd9 h6 hz hY hN hK hF hV bb2 bb3;have hS:=zI hA;clear h6 hz hY hN hK hF hV bb2 bb3 hA;clear hu hG hh hb hl h8 hj;go_wp2_with fail
 go_loopw [11,12,13,14,15,53] (λ_ _ _ _ _ t wx=>∃i:Nat,i<=3/\t=nQ iQ (i:Int)/\Later w6 wx) (λ_ _ _ _ _ t _=>3-(intOf t).toNat)
 case atStart=>exact ⟨0,by omega,rfl,Later.refl _⟩
 case round=>
  obtain ⟨i,hi,rfl,hy⟩:=hrel;have hv:=hy.blk Hn.out;have hw:=hQ.out.trans hy;have x0:wr.cell? ⟨w.heap.size,0,none⟩=some (sQ A n.inn.length c):=hv.cell 0;have x1:wr.cell? ⟨w.heap.size,1,none⟩=some (sQ N n.o.length d):=hv.cell 1
  by_cases Hs:i<3
  ·obtain ⟨p,hp,Hv⟩:=qi1 i Hs
   have k1:(i:Int)<3:=by omega
   have k0:(0:Int)<=(i:Int):=by omega
   have hm:=Hg.out p wr hw;have hM:=Hd.out p;have hq:=Hb.out p hp;generalize Gr.aF n p cap=r1 at *;generalize Gr.aF n p (cap+more)=r2 at *;obtain ⟨q1,e1⟩:=r1;obtain ⟨q2,e2⟩:=r2;simp only at hm hM hq;obtain ⟨Hm,h1,Hq,h7,hB,hC⟩:=zd6 hm hM hq hy hv hw;clear hm hM hq hy hv hw;clear hp;go_wp2_with fail;refine Hm.out.mono ?_;rintro e v3 ⟨D3,d3',rfl,-,h3,-⟩;have hx:=Blk.new v3 50 #[nQ iQ q1.pl,sQ D3 q1.code.length d3',nQ iQ q1.pk,nQ iQ q1.co,nQ iQ q1.ag,nQ iQ q1.hi];have ha:=h3.alloc (.cells #[nQ iQ q1.pl,sQ D3 q1.code.length d3',nQ iQ q1.pk,nQ iQ q1.co,nQ iQ q1.ag,nQ iQ q1.hi] 50);have hr:=hC.out.trans ha;have ho:=ha.blk hB.out;have h5:=h7.out.trans ha;clear Hm h3 ha x0 x1 hC hB h7;have x0:(v3.alloc (.cells #[nQ iQ q1.pl,sQ D3 q1.code.length d3',nQ iQ q1.pk,nQ iQ q1.co,nQ iQ q1.ag,nQ iQ q1.hi] 50)).cell? ⟨w.heap.size,0,none⟩=some (sQ A n.inn.length c):=ho.cell 0;have x1:(v3.alloc (.cells #[nQ iQ q1.pl,sQ D3 q1.code.length d3',nQ iQ q1.pk,nQ iQ q1.co,nQ iQ q1.ag,nQ iQ q1.hi] 50)).cell? ⟨w.heap.size,1,none⟩=some (sQ N n.o.length d):=ho.cell 1;have hm:=h1.out _ hr;obtain ⟨hE,Hm,h2⟩:=zd3 hx hm h5;clear hx hm h5;clear ho hr h1;go_wp2_with fail;refine Hm.out.mono ?_;rintro e v4 ⟨D4,d4',rfl,-,h4,-⟩;obtain ⟨⟨m0,m1,m2,m3,m4,m5⟩,-⟩:=qaa ((h4.alloc (.cells #[nQ iQ q2.pl,sQ D4 q2.code.length d4',nQ iQ q2.pk,nQ iQ q2.co,nQ iQ q2.ag,nQ iQ q2.hi] 50)).blk hE.out);obtain ⟨⟨q0,q1',q2',q3,q4,q5⟩,-⟩:=qaa (Blk.new v4 50 #[nQ iQ q2.pl,sQ D4 q2.code.length d4',nQ iQ q2.pk,nQ iQ q2.co,nQ iQ q2.ag,nQ iQ q2.hi]);have hW:=h2.out.trans (h4.alloc (.cells #[nQ iQ q2.pl,sQ D4 q2.code.length d4',nQ iQ q2.pk,nQ iQ q2.co,nQ iQ q2.ag,nQ iQ q2.hi] 50));have Hc:=Hq.out;have Hf:=zI hW;clear hW;clear Hm h4 x0 x1 hE h2 Hq;go_upto_region 11 with fail;generalize v4.alloc (.cells #[nQ iQ q2.pl,sQ D4 q2.code.length d4',nQ iQ q2.pk,nQ iQ q2.co,nQ iQ q2.ag,nQ iQ q2.hi] 50)=v5 at *
   generalize v4.heap.size=qb at *;generalize v3.heap.size=pb at *
   by_cases h0:e1=0
   ·obtain ⟨rfl,Hu⟩:=Hc h0
    subst h0;have n1:decide (q1.co<q2.co)=false:=by simp;omega
    go_wp2_with fail;go_roundw
    case rel=>exact ⟨i+1,by omega,by go_num,Hf.out⟩
    case measure=>simp [intOf];omega
   ·have n1:(e1==0)=false:=by simp [h0]
    clear Hc;go_wp2_with fail;go_roundw
    case rel=>exact ⟨i+1,by omega,by go_num,Hf.out⟩
    case measure=>simp [intOf];omega
  ·obtain rfl:i=3:=by omega
   have hp:=Ho.out wr hw;obtain ⟨Hp,hC,hB⟩:=zd3 hp hw hv;clear hp hw hv;clear hy Hg Hd Hb;go_wp2_with fail;refine Hp.out.mono ?_;rintro e v3 ⟨hZ,⟨-,g,g2,rfl,-,-⟩|⟨h0,-⟩⟩
   rotate_left
   ·exact absurd hS.out h0
   have ha:=(show Later wr v3 from hZ).alloc (.cells #[sQ (some ⟨g,0,none⟩) (n.o.length+1) (n.o.length+1),sQ (some ⟨g2,0,none⟩) (n.o.length+1) (n.o.length+1),nQ iQ (Nt.total n)] 55);have hx:=Blk.new v3 55 #[sQ (some ⟨g,0,none⟩) (n.o.length+1) (n.o.length+1),sQ (some ⟨g2,0,none⟩) (n.o.length+1) (n.o.length+1),nQ iQ (Nt.total n)];have ho:=ha.blk hB.out;have hr:=hC.out.trans ha;clear x0 x1 Hp hZ ha hC hB;have x0:(v3.alloc (.cells #[sQ (some ⟨g,0,none⟩) (n.o.length+1) (n.o.length+1),sQ (some ⟨g2,0,none⟩) (n.o.length+1) (n.o.length+1),nQ iQ (Nt.total n)] 55)).cell? ⟨w.heap.size,0,none⟩=some (sQ A n.inn.length c):=ho.cell 0;have x1:(v3.alloc (.cells #[sQ (some ⟨g,0,none⟩) (n.o.length+1) (n.o.length+1),sQ (some ⟨g2,0,none⟩) (n.o.length+1) (n.o.length+1),nQ iQ (Nt.total n)] 55)).cell? ⟨w.heap.size,1,none⟩=some (sQ N n.o.length d):=ho.cell 1;have hm:=Hr.out _ hr;have hJ:Nt.total n=bq.co:=hP.out.symm;rw [hJ] at hx hm x0 x1 hr;obtain ⟨Hm,hE,hT⟩:=zd3 hm hx hr;clear hm hx hr;clear ho;rw [hJ];clear hJ;go_wp2_with fail;refine Hm.out.mono ?_;rintro e v4 ⟨D4,d4',rfl,-,h4,-⟩;have hn:=h4.alloc (.cells #[nQ iQ bq.pl,sQ D4 bq.code.length d4',nQ iQ bq.pk,nQ iQ bq.co,nQ iQ bq.ag,nQ iQ bq.hi] 50);have p2:=(hn.blk hE.out).cell 2;simp only [Zk,List.getElem?_cons_succ,List.getElem?_cons_zero] at p2;obtain ⟨⟨q0,q1',q2',q3,q4,q5⟩,-⟩:=qaa (Blk.new v4 50 #[nQ iQ bq.pl,sQ D4 bq.code.length d4',nQ iQ bq.pk,nQ iQ bq.co,nQ iQ bq.ag,nQ iQ bq.hi]);have He:=hT.out.trans hn;have Hl:=zI He;clear He;clear Hm h4 x0 x1 hE hT hn;go_upto_region 16 with fail;generalize v4.alloc (.cells #[nQ iQ bq.pl,sQ D4 bq.code.length d4',nQ iQ bq.pk,nQ iQ bq.co,nQ iQ bq.ag,nQ iQ bq.hi] 50)=v5 at *;generalize v4.heap.size=qb at *;generalize v3.heap.size=pb at *
   rw [hL.out] at q0;go_wp2_with fail;refine (he.out _ Hl.out).mono ?_;rintro e wz ⟨rfl,hc⟩;go_wp2_with fail;go_ret;exact ⟨rfl,hc⟩
end Go.Proofs.YtddkenhemnkkeaaGreat
namespace Go.Proofs.YtddkenhemnkkeaaGreat.greedyMore
set_option maxHeartbeats 16000000
set_option maxRecDepth 20000
open Go.ChangeShapes Go.WideShapes Go.ChangeAt Go.RowKit
open Go.ChangeMaps (open_string shut_string)
theorem own:ownKnob prog.godebug=none:=by kernel_rfl
theorem laidOut:laidOutB prog=true:=by kernel_rfl
set_option maxRecDepth 100000 in
theorem lifted (os:Os) (started:os.Started) (H:Type) (enc:TypeId × Value->H) (Fi:Stop.Interp):
  ReturnsInHanded {} Tryz.checked os 5 .any ((Rows.OpenSpec.upto Rows.greedyMoreSpec).pre6 enc prog Tryz.f5 Rows.greedyMoreUptoRow.domain false) (((Rows.OpenSpec.upto Rows.greedyMoreSpec).at Fi).post enc prog Tryz.f5 false true false false):=by
 refine returnsInHanded_of_cond (C:=Tryz.checked) (s:=Rows.OpenSpec.upto Rows.greedyMoreSpec) (k:=Rows.uptoSmall) rfl own started krZ func5
  (OpenSpec.witness (enc:=enc) (C:=Tryz.checked) (s:=Rows.OpenSpec.upto Rows.greedyMoreSpec) (k:=Rows.uptoSmall) rfl false ⟨#[],#[.agg #[sQ none 0 0,sQ none 0 0],nQ iQ 0,nQ iQ 0],[]⟩ 8 krZ krZ krZ
   (x:=([.agg [.nil,.nil],.lit (Lit.int iQ 0),.lit (Lit.int iQ 0)],[],[])) krZ rfl krZ) ?_
 intro W base args ds gs before hb hW hj hc _;have ha:∀(j:Nat) t v,Tryz.f5.params[j]? = some t->args[j]? = some v->Value.okWide prog W .any base t v:=hb;have hh:=hW;obtain ⟨p,q,hd,hV,rfl,ho,hn⟩:=hW;have hA:DataW.TrodAll enc prog W 0 (λ_=>true) true Tryz.f5.params.toList args.toList ds p:=hd;rw [Tryz.params5] at hA ha;obtain ⟨v0,vs0,d0,ds0,p0,q0,hf,rfl,rfl,h0,r0⟩:=trodAll_cons hA;obtain ⟨v1,vs1,d1,ds1,p1,q1,rfl,rfl,rfl,h1,r1⟩:=trodAll_cons r0;obtain ⟨v2,vs2,d2,ds2,p2,q2,rfl,rfl,rfl,h2,r2⟩:=trodAll_cons r1;obtain ⟨rfl,rfl,rfl⟩:=trodAll_nil r2;obtain rfl:args=#[v0,v1,v2]:=by cases args;simp_all
 obtain ⟨rfl,rfl⟩:=trodVars_none hV;have hk:Rows.uptoBulkAll ([d0,d1,d2]++[])<=1048576:=of_decide_eq_true hc;have hl:Rows.uptoBulk d0<=1048576:=Zv (qbF sZ) hk;have k0:=h0;have lt0:∀x∈p0,x.block<W.heap.size:=by obtain ⟨m,hm⟩:=k0;exact DataW.trod_lt m _ _ _ hm
 have k1:=h1;have lt1:∀x∈p1,x.block<W.heap.size:=by obtain ⟨m,hm⟩:=k1;exact DataW.trod_lt m _ _ _ hm
 have k2:=h2;have lt2:∀x∈p2,x.block<W.heap.size:=by obtain ⟨m,hm⟩:=k2;exact DataW.trod_lt m _ _ _ hm
 obtain ⟨A0,N0,c10,c20,n0,rfl,la0,lb0,lc0,ld0,hg,hi⟩:=qdI (ha 0 26 v0 rfl rfl) h0 hl;obtain ⟨a1,rfl,rfl,rfl,w1⟩:=open_int underlying3 (ha 1 3 v1 rfl rfl) h1;obtain ⟨a2,rfl,rfl,rfl,w2⟩:=open_int underlying3 (ha 2 3 v2 rfl rfl) h2;clear hd hb;refine (qdb W A0 N0 c10 c20 n0 la0 lb0 lc0 ld0 hg hi a1 w1 a2 w2).mono λe W' ⟨he,bel⟩=>?_
 subst he;exact ⟨_,rfl,_,_,_,[],_,[],hh,trodAll_mk1 (shut_bool underlying4 _),(trodAll_cons_mk (Below.trod laidOut krZ (of_decide_eq_true krZ) k0 bel lt0) (trodAll_cons_mk (Below.trod laidOut krZ (of_decide_eq_true krZ) k1 bel lt1) (trodAll_cons_mk (Below.trod laidOut krZ (of_decide_eq_true krZ) k2 bel lt2) trodAll_mk0))),rfl,bel.frame _,λh=>by cases h⟩
theorem over:Rows.greedyMoreUptoRow.holds Tryz.pinned (Rows.OpenSpec.upto Rows.greedyMoreSpec):=
 OpenClaim.holds_of_cond 5 Tryz.f5 rfl rfl rfl rfl rfl rfl rfl ⟨rfl,rfl,rfl,rfl,rfl⟩ rfl rfl rfl rfl rfl krZ func5 krZ
  (of_decide_eq_true krZ) (by unfold Func.isWrapper;first|(rw [ipZ (by decide +kernel)];kernel_rfl)|(rw [inZ (by decide +kernel)];exact ⟨rfl,rfl⟩))
  (λos started H enc _ Fi=>lifted os started H enc Fi)
end Go.Proofs.YtddkenhemnkkeaaGreat.greedyMore
namespace Go.Proofs.YtddkenhemnkkeaaGreat
theorem greedyMore_holds:Rows.GreedyMoreUptoSaid:=greedyMore.over
#print axioms greedyMore_holds
end Go.Proofs.YtddkenhemnkkeaaGreat
