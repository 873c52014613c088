/- The statement Rows.GreedyLowestUptoSaid is proved: for every input the law 'athanorlaw22.GreedyLowest' returns true, and each argument reads afterwards as it read before. Conditions: those of the row, no others. -/
import Derived.Below
import Derived.ChangeOld
import Derived.JoinedCond
import Derived.OpenShut
import Derived.ProofKit
import Derived.ShutString
import Derived.WalkKit
import Derived.Test.YtddkenhemnkkeaaGreatRows
import Derived.Test.YtddkenhemnkkeaaGreatZ08
set_option linter.unusedVariables false
open Go.IntKind renaming i64 → iQ
open Go.Value renaming int → nQ, slice → sQ
open List renaming take_succ_eq_append_getElem → Zb, replicate → Zc, drop_eq_getElem_cons → Zd, length_append → Ze, all_eq_true → Zf, take_length → Zg, mem_of_mem_take → Zh, getElem?_eq_none → Zi, flatMap_append → Zj, getElem?_toArray → Zk, getElem?_append_right → Zl, getElem?_append_left → Zm, take_append_drop → Zn, length_take → Zo, mem_of_mem_drop → Zp, length_drop → Zq, getElem?_set_self → Zr, getElem?_set_ne → Zs
open Nat renaming zero_le → Zt, succ_mul → Zu, le_trans → Zv, zero_add → Zw, add_zero → Zx, le_succ → Zy
open Bool renaming and_eq_true → Zz
open Go.Value renaming int → Za1, slice → Zb1
open Go.IntWalk renaming i64_in → Zc1
open Go.NoPanic renaming normal → Zd1
open Go.RowKit.Below renaming refl → Ze1
open Go.AllReadyH renaming cons → Zf1, nil → Zg1
open Go.World renaming size_alloc → Zh1, cell?_of_block → Zi1, block_lt_of_cell? → Zj1
open Go renaming bodyPost_ret → Zk1, wp_region_held_drew → Zl1, wp_region_noPanic → Zm1, wpAnyH_done → Zn1, wpAnyH_ready → Zo1, World → Zp1
open Go.Proofs.Tryz
namespace Go.Proofs.YtddkenhemnkkeaaGreat
set_option maxHeartbeats 16000000
set_option maxRecDepth 20000
open Go.RowKit
set_option maxRecDepth 100000 in
theorem qcn (w:Zp1) (A N:Option Addr) (c d:Nat) (n:aA) (la:n.inn.length<=c) (lb:c<=9223372036854775807) (lc:n.o.length<=d) (ld:d<=9223372036854775807) (hR:bH w A N n) (hf:n.fits)
  (pl:Int) (_hplw:(Lit.int iQ pl).wf=true):
  Calls prog 4 #[.agg #[sQ A n.inn.length c,sQ N n.o.length d],nQ iQ pl] w λe w'=>e=.returned (.bool true)/\Below w.heap.size w w':=by
 have hN:=hf.ok;have hk:=Blk.new w 26 #[sQ A n.inn.length c,sQ N n.o.length d];have hK:Later w (w.alloc (.cells #[sQ A n.inn.length c,sQ N n.o.length d] 26)):=(Later.refl w).alloc _;obtain ⟨hJ,HR,Hk,hA⟩:=zd4 hN hR hk hK;clear hN hR hk hK;go_in;go_wp2_with fail;generalize w.alloc (.cells #[sQ A n.inn.length c,sQ N n.o.length d] 26)=w1 at *;refine (qdH A N c d n w1 hJ.out (HR.out.below hA.out (lrZ _))).mono ?_;rintro e w2 ⟨b,rfl,hI,hC⟩;have hh:=hA.out.call hC;have hm:=(show Later w1 w2 from hC).blk Hk.out;clear hC Hk hA;have aw:∀W,Later w W->Calls prog 9 #[] W λe w'=>e=.returned (.bool true)/\Later w w':=λW h=>(qfi W).mono λe w' hq=>⟨hq.1,h.call hq.2⟩
 cases b
 ·have hH:=zI hm
  obtain ⟨hs,hb⟩:=zd2 hh aw;clear hm hh aw;clear hI;go_wp2_with fail;refine (hb.out _ hs.out).mono ?_;rintro e wz ⟨rfl,ha⟩;go_wp2_with fail;go_ret;exact ⟨rfl,ha⟩
 have h9:=hI rfl;have x0:w2.cell? ⟨w.heap.size,0,none⟩=some (sQ A n.inn.length c):=hm.cell 0;have x1:w2.cell? ⟨w.heap.size,1,none⟩=some (sQ N n.o.length d):=hm.cell 1;have hz:=qdN A N c d n pl w2 hJ.out (HR.out.below hh (lrZ _)) lc oZ;obtain ⟨⟨lb0,lb1⟩,lk1,lk2⟩:=Gr.lowest_ok (n:=n) oZ pl;have hn:=λ(cap:Int) (hcap : -9223372036854775808<=cap/\cap<=9223372036854775807) (Y:Zp1) (h:Later w Y)=>qao A N c d n pl cap Y hJ.out (HR.out.below h (lrZ _)) lc oZ hcap
 unfold dR at hn;generalize Gr.bR n pl=lo at *;obtain ⟨low,er⟩:=lo;simp only at lb0 lb1 lk1 lk2 hz;have hy:=λ(Y:Zp1) (h:Later w Y)=>hn 4096 oZ Y h
 have hj:=λ(Y:Zp1) (h:Later w Y)=>hn low oZ Y h
 have hg:=λ(Y:Zp1) (h:Later w Y)=>hn (low-1) oZ Y h
 generalize Gr.aF n pl 4096=r1 at *;generalize Gr.aF n pl low=r2 at *;generalize Gr.aF n pl (low-1)=r3 at *;obtain ⟨q1,e1⟩:=r1;obtain ⟨q2,e2⟩:=r2;obtain ⟨q3,e3⟩:=r3;simp only at lk1 lk2 hy hj hg;have w1:iQ.wrap (low-1)=low-1:=Zc1 _ oZ;have hV:=hh;obtain ⟨hH,hs,hb,hS,hP,hu,hr,hD,hB⟩:=zd9 hm hh aw hz hy hj hg lk1 lk2;clear hm hh aw hz hy hj hg lk1 lk2;clear hn hI;go_wp2_with fail;refine hS.out.mono ?_;rintro e w3 ⟨rfl,hE⟩;have hT:=hs.out.trans hE;have hv:=hE.blk hH.out;clear x0 x1 hS hs hH hE;have x0:w3.cell? ⟨w.heap.size,0,none⟩=some (sQ A n.inn.length c):=hv.cell 0;have x1:w3.cell? ⟨w.heap.size,1,none⟩=some (sQ N n.o.length d):=hv.cell 1;obtain ⟨hx,hM⟩:=zd2 hT hv;clear hT hv;go_wp2_with fail;refine (hP.out w3 hx.out).mono ?_;rintro e v4 ⟨D4,d4,rfl,-,h4,-⟩;have hd:=h4.alloc (.cells #[nQ iQ q1.pl,sQ D4 q1.code.length d4,nQ iQ q1.pk,nQ iQ q1.co,nQ iQ q1.ag,nQ iQ q1.hi] 50);have ht:=hx.out.trans hd;have hp:=hd.blk hM.out;clear hP h4 hd x0 x1 hx hM;have x0:(v4.alloc (.cells #[nQ iQ q1.pl,sQ D4 q1.code.length d4,nQ iQ q1.pk,nQ iQ q1.co,nQ iQ q1.ag,nQ iQ q1.hi] 50)).cell? ⟨w.heap.size,0,none⟩=some (sQ A n.inn.length c):=hp.cell 0;have x1:(v4.alloc (.cells #[nQ iQ q1.pl,sQ D4 q1.code.length d4,nQ iQ q1.pk,nQ iQ q1.co,nQ iQ q1.ag,nQ iQ q1.hi] 50)).cell? ⟨w.heap.size,1,none⟩=some (sQ N n.o.length d):=hp.cell 1
 by_cases h0:er=0
 rotate_left
 ·obtain ⟨k1,k2⟩:=hD.out h0
  subst k1;have n1:(er != 0)=true:=by simp [h0]
  have n2:(e1 != 0)=true:=by simp [k2]
  have ho:=zI ht;clear ht;clear hp x0 x1 h0 k2;go_wp2_with fail;refine (hb.out _ ho.out).mono ?_;rintro e wz ⟨rfl,ha⟩;go_wp2_with fail;go_ret;exact ⟨rfl,ha⟩
 subst h0;obtain ⟨k1,k2,k3⟩:=hB.out rfl;subst k1;obtain ⟨ho,hO⟩:=zd2 ht hp;clear ht hp;have hj:=hu.out _ ho.out;have hu:=zI hj;clear hj;go_wp2_with fail;refine (hu.out).mono ?_;rintro e v5 ⟨D5,d5,rfl,-,h5,-⟩;have hc:=h5.alloc (.cells #[nQ iQ q2.pl,sQ D5 q2.code.length d5,nQ iQ q2.pk,nQ iQ q2.co,nQ iQ q2.ag,nQ iQ q2.hi] 50);have hU:=ho.out.trans hc;have hw:=hc.blk hO.out;clear hu h5 hc x0 x1 ho hO;have x0:(v5.alloc (.cells #[nQ iQ q2.pl,sQ D5 q2.code.length d5,nQ iQ q2.pk,nQ iQ q2.co,nQ iQ q2.ag,nQ iQ q2.hi] 50)).cell? ⟨w.heap.size,0,none⟩=some (sQ A n.inn.length c):=hw.cell 0;have x1:(v5.alloc (.cells #[nQ iQ q2.pl,sQ D5 q2.code.length d5,nQ iQ q2.pk,nQ iQ q2.co,nQ iQ q2.ag,nQ iQ q2.hi] 50)).cell? ⟨w.heap.size,1,none⟩=some (sQ N n.o.length d):=hw.cell 1;obtain ⟨hF,hL⟩:=zd2 hU hw;clear hU hw;have hg:=hr.out _ hF.out;have hr:=zI hg;clear hg;go_wp2_with fail;refine (hr.out).mono ?_;rintro e v6 ⟨D6,d6,rfl,-,h6,-⟩;have he:=h6.alloc (.cells #[nQ iQ q3.pl,sQ D6 q3.code.length d6,nQ iQ q3.pk,nQ iQ q3.co,nQ iQ q3.ag,nQ iQ q3.hi] 50);have hQ:=hF.out.trans he;have hG:=he.blk hL.out;clear hr h6 he x0 x1 hF hL;have x0:(v6.alloc (.cells #[nQ iQ q3.pl,sQ D6 q3.code.length d6,nQ iQ q3.pk,nQ iQ q3.co,nQ iQ q3.ag,nQ iQ q3.hi] 50)).cell? ⟨w.heap.size,0,none⟩=some (sQ A n.inn.length c):=hG.cell 0;have x1:(v6.alloc (.cells #[nQ iQ q3.pl,sQ D6 q3.code.length d6,nQ iQ q3.pk,nQ iQ q3.co,nQ iQ q3.ag,nQ iQ q3.hi] 50)).cell? ⟨w.heap.size,1,none⟩=some (sQ N n.o.length d):=hG.cell 1;have hl:=zI hQ;clear hQ;clear hG x0 x1;rcases k2 with rfl|rfl
 ·rcases k3 with k3|rfl
  ·have n3:decide (4096<low)=true:=by simp [k3]
   go_wp2_with fail;refine (hb.out _ hl.out).mono ?_;rintro e wz ⟨rfl,ha⟩;go_wp2_with fail;go_ret;exact ⟨rfl,ha⟩
  ·by_cases k4:4096<low
   ·have n3:decide (4096<low)=true:=by simp [k4]
    go_wp2_with fail;refine (hb.out _ hl.out).mono ?_;rintro e wz ⟨rfl,ha⟩;go_wp2_with fail;go_ret;exact ⟨rfl,ha⟩
   ·have n3:decide (4096<low)=false:=by simp [k4]
    go_wp2_with fail;refine (hb.out _ hl.out).mono ?_;rintro e wz ⟨rfl,ha⟩;go_wp2_with fail;go_ret;exact ⟨rfl,ha⟩
 ·rcases k3 with k3|rfl
  ·have n3:decide (4096<low)=true:=by simp [k3]
   go_wp2_with fail;refine (hb.out _ hl.out).mono ?_;rintro e wz ⟨rfl,ha⟩;go_wp2_with fail;go_ret;exact ⟨rfl,ha⟩
  ·by_cases k4:4096<low
   ·have n3:decide (4096<low)=true:=by simp [k4]
    go_wp2_with fail;refine (hb.out _ hl.out).mono ?_;rintro e wz ⟨rfl,ha⟩;go_wp2_with fail;go_ret;exact ⟨rfl,ha⟩
   ·have n3:decide (4096<low)=false:=by simp [k4]
    go_wp2_with fail;refine (hb.out _ hl.out).mono ?_;rintro e wz ⟨rfl,ha⟩;go_wp2_with fail;go_ret;exact ⟨rfl,ha⟩
end Go.Proofs.YtddkenhemnkkeaaGreat
namespace Go.Proofs.YtddkenhemnkkeaaGreat.greedyLowest
set_option maxHeartbeats 16000000
set_option maxRecDepth 20000
open Go.ChangeShapes Go.WideShapes Go.ChangeAt Go.RowKit
open Go.ChangeMaps (open_string shut_string)
theorem own:ownKnob prog.godebug=none:=by kernel_rfl
theorem laidOut:laidOutB prog=true:=by kernel_rfl
set_option maxRecDepth 100000 in
theorem lifted (os:Os) (started:os.Started) (H:Type) (enc:TypeId × Value->H) (Fi:Stop.Interp):
  ReturnsInHanded {} Tryz.checked os 4 .any ((Rows.OpenSpec.upto Rows.greedyLowestSpec).pre6 enc prog Tryz.f4 Rows.greedyLowestUptoRow.domain false) (((Rows.OpenSpec.upto Rows.greedyLowestSpec).at Fi).post enc prog Tryz.f4 false true false false):=by
 refine returnsInHanded_of_cond (C:=Tryz.checked) (s:=Rows.OpenSpec.upto Rows.greedyLowestSpec) (k:=Rows.uptoSmall) rfl own started krZ func4
  (OpenSpec.witness (enc:=enc) (C:=Tryz.checked) (s:=Rows.OpenSpec.upto Rows.greedyLowestSpec) (k:=Rows.uptoSmall) rfl false ⟨#[],#[.agg #[sQ none 0 0,sQ none 0 0],nQ iQ 0],[]⟩ 8 krZ krZ krZ
   (x:=([.agg [.nil,.nil],.lit (Lit.int iQ 0)],[],[])) krZ rfl krZ) ?_
 intro W base args ds gs before ha hW hi hc _;have hb:∀(j:Nat) t v,Tryz.f4.params[j]? = some t->args[j]? = some v->Value.okWide prog W .any base t v:=ha;have hk:=hW;obtain ⟨p,q,hd,hV,rfl,ho,hn⟩:=hW;have hA:DataW.TrodAll enc prog W 0 (λ_=>true) true Tryz.f4.params.toList args.toList ds p:=hd;rw [Tryz.params4] at hA hb;obtain ⟨v0,vs0,d0,ds0,p0,q0,hf,rfl,rfl,h0,r0⟩:=trodAll_cons hA;obtain ⟨v1,vs1,d1,ds1,p1,q1,rfl,rfl,rfl,h1,r1⟩:=trodAll_cons r0;obtain ⟨rfl,rfl,rfl⟩:=trodAll_nil r1;obtain rfl:args=#[v0,v1]:=by cases args;simp_all
 obtain ⟨rfl,rfl⟩:=trodVars_none hV;have hj:Rows.uptoBulkAll ([d0,d1]++[])<=1048576:=of_decide_eq_true hc;have hl:Rows.uptoBulk d0<=1048576:=Zv (qbF sZ) hj;have k0:=h0;have lt0:∀x∈p0,x.block<W.heap.size:=by obtain ⟨m,hm⟩:=k0;exact DataW.trod_lt m _ _ _ hm
 have k1:=h1;have lt1:∀x∈p1,x.block<W.heap.size:=by obtain ⟨m,hm⟩:=k1;exact DataW.trod_lt m _ _ _ hm
 obtain ⟨A0,N0,c10,c20,n0,rfl,la0,lb0,lc0,ld0,hh,hg⟩:=qdI (hb 0 26 v0 rfl rfl) h0 hl;obtain ⟨a1,rfl,rfl,rfl,w1⟩:=open_int underlying3 (hb 1 3 v1 rfl rfl) h1;clear hd ha;refine (qcn W A0 N0 c10 c20 n0 la0 lb0 lc0 ld0 hh hg a1 w1).mono λe W' ⟨he,bel⟩=>?_
 subst he;exact ⟨_,rfl,_,_,_,[],_,[],hk,trodAll_mk1 (shut_bool underlying4 _),(trodAll_cons_mk (Below.trod laidOut krZ (of_decide_eq_true krZ) k0 bel lt0) (trodAll_cons_mk (Below.trod laidOut krZ (of_decide_eq_true krZ) k1 bel lt1) trodAll_mk0)),rfl,bel.frame _,λh=>by cases h⟩
theorem over:Rows.greedyLowestUptoRow.holds Tryz.pinned (Rows.OpenSpec.upto Rows.greedyLowestSpec):=
 OpenClaim.holds_of_cond 4 Tryz.f4 rfl rfl rfl rfl rfl rfl rfl ⟨rfl,rfl,rfl,rfl,rfl⟩ rfl rfl rfl rfl rfl krZ func4 krZ
  (of_decide_eq_true krZ) (by unfold Func.isWrapper;first|(rw [ipZ (by decide +kernel)];kernel_rfl)|(rw [inZ (by decide +kernel)];exact ⟨rfl,rfl⟩))
  (λos started H enc _ Fi=>lifted os started H enc Fi)
end Go.Proofs.YtddkenhemnkkeaaGreat.greedyLowest
namespace Go.Proofs.YtddkenhemnkkeaaGreat
theorem greedyLowest_holds:Rows.GreedyLowestUptoSaid:=greedyLowest.over
#print axioms greedyLowest_holds
end Go.Proofs.YtddkenhemnkkeaaGreat
