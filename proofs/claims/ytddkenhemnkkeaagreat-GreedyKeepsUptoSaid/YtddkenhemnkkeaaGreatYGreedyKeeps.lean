/- The statement Rows.GreedyKeepsUptoSaid is proved: for every input the law 'athanorlaw22.GreedyKeeps' returns true, and each argument reads afterwards as it read before. Conditions: those of the row, no others. -/
import Derived.Below
import Derived.ChangeOld
import Derived.JoinedCond
import Derived.OpenShut
import Derived.ProofKit
import Derived.ShutString
import Derived.WalkKit
import Derived.Test.YtddkenhemnkkeaaGreatRows
import Derived.Test.YtddkenhemnkkeaaGreatK09
set_option linter.unusedVariables false
open Go.IntKind renaming i64 → iQ
open Go.Value renaming int → nQ, slice → sQ
open List renaming take_succ_eq_append_getElem → Zb, replicate → Zc, drop_eq_getElem_cons → Zd, length_append → Ze, all_eq_true → Zf, take_length → Zg, mem_of_mem_take → Zh, getElem?_eq_none → Zi, flatMap_append → Zj, getElem?_toArray → Zk, getElem?_append_right → Zl, getElem?_append_left → Zm, take_append_drop → Zn, length_take → Zo, mem_of_mem_drop → Zp, length_drop → Zq, getElem?_set_self → Zr, getElem?_set_ne → Zs
open Nat renaming zero_le → Zt, succ_mul → Zu, le_trans → Zv, zero_add → Zw, add_zero → Zx, le_succ → Zy
open Bool renaming and_eq_true → Zz
open Go.Value renaming int → Za1, slice → Zb1
open Go.IntWalk renaming i64_in → Zc1
open Go.NoPanic renaming normal → Zd1
open Go.RowKit.Below renaming refl → Ze1
open Go.AllReadyH renaming cons → Zf1, nil → Zg1
open Go.World renaming size_alloc → Zh1, cell?_of_block → Zi1, block_lt_of_cell? → Zj1
open Go renaming bodyPost_ret → Zk1, wp_region_held_drew → Zl1, wp_region_noPanic → Zm1, wpAnyH_done → Zn1, wpAnyH_ready → Zo1, World → Zp1
open Go.Proofs.Tryz
namespace Go.Proofs.YtddkenhemnkkeaaGreat
set_option maxHeartbeats 16000000
set_option maxRecDepth 20000
open Go.RowKit
theorem Gr.uH {aB:List Int->Int} {ws:List Int} {cap:Int}:∀ {m:Nat} {kept out:List Int},Gr.fit aB ws cap m kept=some out->out.length<=kept.length
 | 0,_,_,h=>by simp [Gr.fit] at h
 | m+1,kept,out,h=>by
  unfold Gr.fit at h
  split at h
  ·cases h
   exact lrZ _
  ·split at h
   ·cases h
   ·have h1:=Gr.uH h
    have h2:=Gr.iU (ws:=ws) (kept:=kept) oZ;omega
set_option maxRecDepth 100000 in
theorem qd5 (w:Zp1) (A N:Option Addr) (c d:Nat) (n:aA) (la:n.inn.length<=c) (lb:c<=9223372036854775807) (lc:n.o.length<=d) (ld:d<=9223372036854775807) (hR:bC w A N n) (hf:n.fits)
  (cap:Int) (_hcap:(Lit.int iQ cap).wf=true):
  Calls prog 3 #[.agg #[sQ A n.inn.length c,sQ N n.o.length d],nQ iQ cap] w λe w'=>e=.returned (.bool true)/\Below w.heap.size w w':=by
 have Ha:=hf.ok;have hk:=Blk.new w 26 #[sQ A n.inn.length c,sQ N n.o.length d];have Hb:Later w (w.alloc (.cells #[sQ A n.inn.length c,sQ N n.o.length d] 26)):=(Later.refl w).alloc _;obtain ⟨he,HR,Hk,hQ⟩:=zd4 Ha hR hk Hb;clear Ha hR hk Hb;go_in;go_wp2_with fail;generalize w.alloc (.cells #[sQ A n.inn.length c,sQ N n.o.length d] 26)=w1 at *;refine (qgc A N c d n w1 he.out (HR.out.below hQ.out (lrZ _))).mono ?_;rintro e w2 ⟨b,rfl,hY,hT⟩;have hH:=hQ.out.call hT;have hv:=(show Later w1 w2 from hT).blk Hk.out;clear hT Hk hQ;have aw:∀W,Later w W->Calls prog 9 #[] W λe w'=>e=.returned (.bool true)/\Later w w':=λW h=>(qia W).mono λe w' hq=>⟨hq.1,h.call hq.2⟩
 cases b
 ·have hM:=zI hv
  obtain ⟨hw,hz⟩:=zd2 hH aw;clear hv hH aw;clear hY;go_wp2_with fail;refine (hz.out _ hw.out).mono ?_;rintro e w3 ⟨rfl,Hh⟩;go_wp2_with fail;go_ret;exact ⟨rfl,Hh⟩
 have h9:=hY rfl;have x0:=hv.cell 0;have x1:=hv.cell 1;simp at x0 x1;obtain ⟨hM,hw,hz⟩:=zd3 hv hH aw;clear hv hH aw;go_wp2_with fail;refine (qbz A N c d n cap w2 he.out (HR.out.below hw.out (lrZ _)) lc oZ).mono ?_;rintro e w3 ⟨hO,hp⟩;have hJ:=hO.blk hM.out;have h8:=hw.out.trans hO;clear x0 x1 hM hw hO;have x0:=hJ.cell 0;have x1:=hJ.cell 1;simp at x0 x1;obtain ⟨hK,hj⟩:=zd2 hJ h8;clear hJ h8
 by_cases hr:Nt.check n=0
 rotate_left
 ·rcases hp with ⟨-,rfl⟩|⟨h0,-⟩|⟨h0,-⟩
  rotate_left
  ·exact absurd h0 hr
  ·exact absurd h0 hr
  have hi:=zI hr;clear hr;go_wp2_with fail;refine (qd2 A N c d n w3 he.out (HR.out.below hj.out (lrZ _))).mono ?_;rintro e w5 ⟨N1,d1,rfl,hn,hG,h7,hh⟩;have hm:=hj.out.call hh;obtain ⟨hs,hu⟩:=zd2 hn hm;clear hn hm;clear hh;go_wp2_with fail;refine (qax A N1 c d1 n w5 he.out hs.out hG la lb).mono ?_;rintro e w6 ⟨ho,⟨h0,-⟩|⟨-,rfl⟩⟩
  ·exact absurd h0 hi.out
  have hl:=hu.out.call ho;have Hl:(Nt.check n != 0)=true:=by simp [hi.out]
  have ht:=zI hl;clear hl;clear ho hi;generalize Nt.check n=er at *;go_wp2_with fail;refine (hz.out _ ht.out).mono ?_;rintro e wz ⟨rfl,hy⟩;go_wp2_with fail;go_ret;exact ⟨rfl,hy⟩
 have hi:=zI hr;rcases hp with ⟨h0,-⟩|⟨-,h6,rfl⟩|⟨-,kept,K,kc,h5,rfl,hI⟩
 ·exact absurd hr h0
 ·clear hr
  have Hg:=zI h6;clear h6;go_wp2_with fail;refine (qd2 A N c d n w3 he.out (HR.out.below hj.out (lrZ _))).mono ?_;rintro e w5 ⟨N1,d1,rfl,hn,hG,h7,hh⟩;have ha:Later w3 w5:=hh;have hm:=hj.out.trans ha;have hF:=ha.blk hK.out;obtain ⟨hs,hu,hx⟩:=zd3 hn hm hF;clear hn hm hF;clear hh ha;go_wp2_with fail;refine (qax A N1 c d1 n w5 he.out hs.out hG la lb).mono ?_;rintro e w6 ⟨ho,⟨-,gx,rfl,-,-⟩|⟨h0,-⟩⟩
  rotate_left
  ·exact absurd hi.out h0
  have hb:Later w5 w6:=ho;have hl:=hu.out.trans hb;have hg:=hb.blk hx.out;clear x0 x1 ho hb;have x0:=hg.cell 0;have x1:=hg.cell 1;simp at x0 x1;obtain ⟨ht,Hf⟩:=zd2 hl hg;clear hl hg;clear hx hu hs hK hj;go_wp2_with fail;refine (qd2 A N c d n w6 he.out (HR.out.below ht.out (lrZ _))).mono ?_;rintro e w7 ⟨N2,d2,rfl,hE,hV,He,hC⟩;have hc:Later w6 w7:=hC;have hA:=ht.out.trans hc;obtain ⟨hL,hN⟩:=zd2 hE hA;clear hE hA;clear hC hc x0 x1;go_wp2_with fail;refine (qdE A N2 c d2 n cap w7 he.out hi.out hL.out hV la lb oZ).mono ?_;rintro e w8 ⟨hd,⟨-,rfl⟩|⟨kept,K,kc,h0,-⟩⟩
  rotate_left
  ·rw [Hg.out] at h0;cases h0
  have hB:=hN.out.trans hd;have hU:=zI hB;clear hB;clear hd;go_wp2_with fail;refine (hz.out _ hU.out).mono ?_;rintro e wz ⟨rfl,hy⟩;go_wp2_with fail;go_ret;exact ⟨rfl,hy⟩
 ·clear hr
  obtain ⟨hP,HI⟩:=zd2 h5 hI;clear h5 hI;go_wp2_with fail;refine (qd2 A N c d n w3 he.out (HR.out.below hj.out (lrZ _))).mono ?_;rintro e w5 ⟨N1,d1,rfl,hn,hG,h7,hh⟩;have ha:Later w3 w5:=hh;have hm:=hj.out.trans ha;have hF:=ha.blk hK.out;have hX:=HI.out.below ha (lrZ _);obtain ⟨hs,hu,hx,h2⟩:=zd4 hn hm hF hX;clear hn hm hF hX;clear hh ha;go_wp2_with fail;refine (qax A N1 c d1 n w5 he.out hs.out hG la lb).mono ?_;rintro e w6 ⟨ho,⟨-,gx,rfl,-,-⟩|⟨h0,-⟩⟩
  rotate_left
  ·exact absurd hi.out h0
  have hb:Later w5 w6:=ho;have hl:=hu.out.trans hb;have hg:=hb.blk hx.out;have hZ:=h2.out.below hb (lrZ _);clear x0 x1 ho hb;have x0:=hg.cell 0;have x1:=hg.cell 1;simp at x0 x1;obtain ⟨ht,Hf,h3⟩:=zd3 hl hg hZ;clear hl hg hZ;clear hx hu hs hK hj HI h2;go_wp2_with fail;refine (qd2 A N c d n w6 he.out (HR.out.below ht.out (lrZ _))).mono ?_;rintro e w7 ⟨N2,d2,rfl,hE,hV,He,hC⟩;have hc:Later w6 w7:=hC;have hA:=ht.out.trans hc;have Hc:=h3.out.below hc (lrZ _);obtain ⟨hL,hN,Hd⟩:=zd3 hE hA Hc;clear hE hA Hc;clear hC hc x0 x1 h3;go_wp2_with fail;refine (qdE A N2 c d2 n cap w7 he.out hi.out hL.out hV la lb oZ).mono ?_;rintro e w8 ⟨hd,⟨h0,-⟩|⟨kept2,K2,kc2,h0,rfl,h4⟩⟩
  ·rw [hP.out] at h0;cases h0
  have Hj:kept2=kept:=by
   have h1:=hP.out.symm.trans h0;injection h1 with h1
   exact h1.symm
  subst Hj
  have Hm:kept2.length<=12:=by
   have h1:=Gr.uH hP.out;rw [qaJ] at h1;omega
  have hB:=hN.out.trans hd;have hD:=qbm K K2 kc kc2 kept2 kept2 w8 oZ oZ (Hd.out.below hd (lrZ _)) h4;obtain ⟨hU,hS⟩:=zd2 hB hD;clear hB hD;clear hd Hd h4;go_wp2_with fail;refine hS.out.mono ?_;rintro e w9 ⟨rfl,q,rfl⟩;simp only [decide_true];have hW:=Later.drewN hU.out q;have Hi:=zI hW;clear hW;go_wp2_with fail;refine (hz.out _ Hi.out).mono ?_;rintro e wz ⟨rfl,hy⟩;go_wp2_with fail;go_ret;exact ⟨rfl,hy⟩
end Go.Proofs.YtddkenhemnkkeaaGreat
namespace Go.Proofs.YtddkenhemnkkeaaGreat.greedyKeeps
set_option maxHeartbeats 16000000
set_option maxRecDepth 20000
open Go.ChangeShapes Go.WideShapes Go.ChangeAt Go.RowKit
open Go.ChangeMaps (open_string shut_string)
theorem own:ownKnob prog.godebug=none:=by kernel_rfl
theorem laidOut:laidOutB prog=true:=by kernel_rfl
set_option maxRecDepth 100000 in
theorem lifted (os:Os) (started:os.Started) (H:Type) (enc:TypeId × Value->H) (Fi:Stop.Interp):
  ReturnsInHanded {} Tryz.checked os 3 .any ((Rows.OpenSpec.upto Rows.greedyKeepsSpec).pre6 enc prog Tryz.f3 Rows.greedyKeepsUptoRow.domain false) (((Rows.OpenSpec.upto Rows.greedyKeepsSpec).at Fi).post enc prog Tryz.f3 false true false false):=by
 refine returnsInHanded_of_cond (C:=Tryz.checked) (s:=Rows.OpenSpec.upto Rows.greedyKeepsSpec) (k:=Rows.uptoSmall) rfl own started krZ func3
  (OpenSpec.witness (enc:=enc) (C:=Tryz.checked) (s:=Rows.OpenSpec.upto Rows.greedyKeepsSpec) (k:=Rows.uptoSmall) rfl false ⟨#[],#[.agg #[sQ none 0 0,sQ none 0 0],nQ iQ 0],[]⟩ 8 krZ krZ krZ
   (x:=([.agg [.nil,.nil],.lit (Lit.int iQ 0)],[],[])) krZ rfl krZ) ?_
 intro W base args ds gs before ha hW hl hc _;have hb:∀(j:Nat) t v,Tryz.f3.params[j]? = some t->args[j]? = some v->Value.okWide prog W .any base t v:=ha;have hg:=hW;obtain ⟨p,q,hd,hV,rfl,ho,hn⟩:=hW;have hA:DataW.TrodAll enc prog W 0 (λ_=>true) true Tryz.f3.params.toList args.toList ds p:=hd;rw [Tryz.params3] at hA hb;obtain ⟨v0,vs0,d0,ds0,p0,q0,hf,rfl,rfl,h0,r0⟩:=trodAll_cons hA;obtain ⟨v1,vs1,d1,ds1,p1,q1,rfl,rfl,rfl,h1,r1⟩:=trodAll_cons r0;obtain ⟨rfl,rfl,rfl⟩:=trodAll_nil r1;obtain rfl:args=#[v0,v1]:=by cases args;simp_all
 obtain ⟨rfl,rfl⟩:=trodVars_none hV;have hi:Rows.uptoBulkAll ([d0,d1]++[])<=1048576:=of_decide_eq_true hc;have hj:Rows.uptoBulk d0<=1048576:=Zv (qd0 sZ) hi;have k0:=h0;have lt0:∀x∈p0,x.block<W.heap.size:=by obtain ⟨m,hm⟩:=k0;exact DataW.trod_lt m _ _ _ hm
 have k1:=h1;have lt1:∀x∈p1,x.block<W.heap.size:=by obtain ⟨m,hm⟩:=k1;exact DataW.trod_lt m _ _ _ hm
 obtain ⟨A0,N0,c10,c20,n0,rfl,la0,lb0,lc0,ld0,hh,hk⟩:=qge (hb 0 26 v0 rfl rfl) h0 hj;obtain ⟨a1,rfl,rfl,rfl,w1⟩:=open_int underlying3 (hb 1 3 v1 rfl rfl) h1;clear hd ha;refine (qd5 W A0 N0 c10 c20 n0 la0 lb0 lc0 ld0 hh hk a1 w1).mono λe W' ⟨he,bel⟩=>?_
 subst he;exact ⟨_,rfl,_,_,_,[],_,[],hg,trodAll_mk1 (shut_bool underlying4 _),(trodAll_cons_mk (Below.trod laidOut krZ (of_decide_eq_true krZ) k0 bel lt0) (trodAll_cons_mk (Below.trod laidOut krZ (of_decide_eq_true krZ) k1 bel lt1) trodAll_mk0)),rfl,bel.frame _,λh=>by cases h⟩
theorem over:Rows.greedyKeepsUptoRow.holds Tryz.pinned (Rows.OpenSpec.upto Rows.greedyKeepsSpec):=
 OpenClaim.holds_of_cond 3 Tryz.f3 rfl rfl rfl rfl rfl rfl rfl ⟨rfl,rfl,rfl,rfl,rfl⟩ rfl rfl rfl rfl rfl krZ func3 krZ
  (of_decide_eq_true krZ) (by unfold Func.isWrapper;first|(rw [ipZ (by decide +kernel)];kernel_rfl)|(rw [inZ (by decide +kernel)];exact ⟨rfl,rfl⟩))
  (λos started H enc _ Fi=>lifted os started H enc Fi)
end Go.Proofs.YtddkenhemnkkeaaGreat.greedyKeeps
namespace Go.Proofs.YtddkenhemnkkeaaGreat
theorem greedyKeeps_holds:Rows.GreedyKeepsUptoSaid:=greedyKeeps.over
#print axioms greedyKeeps_holds
end Go.Proofs.YtddkenhemnkkeaaGreat
