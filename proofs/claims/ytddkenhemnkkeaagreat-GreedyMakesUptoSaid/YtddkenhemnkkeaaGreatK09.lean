/- Lemmas for the statements of this seat: contracts of functions and the plain laws. -/
import Derived.Test.YtddkenhemnkkeaaGreatK08
set_option linter.unusedVariables false
open Go.IntKind renaming i64 → iQ
open Go.Value renaming int → nQ, slice → sQ
open List renaming take_succ_eq_append_getElem → Zb, replicate → Zc, drop_eq_getElem_cons → Zd, length_append → Ze, all_eq_true → Zf, take_length → Zg, mem_of_mem_take → Zh, getElem?_eq_none → Zi, flatMap_append → Zj, getElem?_toArray → Zk, getElem?_append_right → Zl, getElem?_append_left → Zm, take_append_drop → Zn, length_take → Zo, mem_of_mem_drop → Zp, length_drop → Zq, getElem?_set_self → Zr, getElem?_set_ne → Zs
open Nat renaming zero_le → Zt, succ_mul → Zu, le_trans → Zv, zero_add → Zw, add_zero → Zx, le_succ → Zy
open Bool renaming and_eq_true → Zz
open Go.Value renaming int → Za1, slice → Zb1
open Go.IntWalk renaming i64_in → Zc1
open Go.NoPanic renaming normal → Zd1
open Go.RowKit.Below renaming refl → Ze1
open Go.AllReadyH renaming cons → Zf1, nil → Zg1
open Go.World renaming size_alloc → Zh1, cell?_of_block → Zi1, block_lt_of_cell? → Zj1
open Go renaming bodyPost_ret → Zk1, wp_region_held_drew → Zl1, wp_region_noPanic → Zm1, wpAnyH_done → Zn1, wpAnyH_ready → Zo1, World → Zp1
open Go.Proofs.Tryz
namespace Go.Proofs.YtddkenhemnkkeaaGreat
set_option maxHeartbeats 16000000
set_option maxRecDepth 20000
open Go.RowKit
theorem XB.startN {n:aA} {cap:Int} {g c d:Nat} {A N Wd Or:Option Addr} {cw co:Nat} {V:RfV} {W wb wf:Zp1} (hW:Later W wb) (hg:W.heap.size<=g) (hR:bC W A N n)
  (rW:aP g g wb Wd (Nt.words n)) (rO:aP g g wb Or (Nt.sO n.o)) (hA:V.At Rf.start wb) (ho:V.Off Rf.start g) (hf:Fr (λb=>b=g) wb wf) (hbox:Blk wf g 125 (RfF.cells ⟨A,N,Wd,Or,c,d,cw,co⟩ V n (Ck.base n cap) Rf.start)):
  XB n (Ck.base n cap) g ⟨A,N,Wd,Or,c,d,cw,co⟩ V Rf.start W wf:=by
 have hL:∀W',Fr (λb=>b=g) wb W'->Later W W':=λW' h=>Below.trans hW (h.below (B:=W.heap.size) (λb q=>by subst q;exact hg) hW.size)
 have ha:∀W',Fr (λb=>b=g) wb W'->RfF.Fix ⟨A,N,Wd,Or,c,d,cw,co⟩ n (Ck.base n cap) W':=λW' h=>
  ⟨hR.below (hL W' h) (lrZ _),rW.fr h,rO.fr h⟩
 exact ⟨hL wf hf,hg,hbox,ha wf hf,⟨wb,hf,ha⟩,⟨(aP.of hA.there ho.1).fr hf,(aP.of hA.saved ho.2.1).fr hf,(aP.of hA.aF ho.2.2).fr hf⟩,ho⟩
theorem Gr.lowered_right {n:aA} (h:Nt.check n=0) (h12:n.o.length<=12) (keep:List Int):(Rt.lW n keep).code.all Cd.right=true:=by
 obtain ⟨pk,co,ag,hi,e,-⟩:=Rw.kG h h12 keep;unfold Ck.run at e;rw [inZ (by simp [h])] at e
 split at e
 ·rename_i hc;exact absurd (congrArg Prod.snd e) hc
 rename_i hc;have hc:Cd.check (Rt.lW n keep).code=0:=by simpa using hc
 unfold Cd.check at hc
 split at hc
 ·simp at hc
 ·split at hc
  ·assumption
  ·simp at hc
set_option maxRecDepth 100000 in
theorem qdD (A N Q:Option Addr) (c d q:Nat) (n:aA) (keep:List Int) (W:Zp1) (hok:n.ok) (hch:Nt.check n=0) (hR:bC W A N n) (hd:n.o.length<=d) (la:n.inn.length<=c) (lb:c<=9223372036854775807) (h12:n.o.length<=12) (hQ:aW W Q (Rt.lW n keep).code):
  Calls prog 25 #[.agg #[sQ A n.inn.length c,sQ N n.o.length d],sQ Q (Rt.lW n keep).code.length q] W λe w'=>e=.returned (.tuple #[nQ iQ (Gr.aB n keep),nQ iQ (Gr.cost n keep)])/\Later W w':=by
 have Hf:Later W (W.alloc (.cells #[sQ A n.inn.length c,sQ N n.o.length d] 37)):=(Later.refl W).alloc _;have h8:=Blk.new W 37 #[sQ A n.inn.length c,sQ N n.o.length d];obtain ⟨-,hX,He,-,-⟩:=Gr.sP hch hok h12 keep;have HC:=Rt.eT hch h12 keep;have Hd:(Rt.lW n keep).code.all Cd.right=true:=Gr.lowered_right hch h12 keep;have hu:Gr.cost n keep=Safe.sum (Cd.aJ (Nt.aD n) (Rt.lW n keep).code):=rfl;generalize Gr.cost n keep=cst at *;generalize Gr.aB n keep=pk at *;generalize (Rt.lW n keep).code=ps at *;obtain ⟨HR,hC,Ha,hD,HQ,hj,Hi,Hn,h0⟩:=zd9 hR hok Hf h8 hQ hch hX He Hd;have hM:=zI hu;clear hR hok Hf h8 hQ hch hX He Hd hu;go_in;go_wp2_with fail;generalize W.alloc (.cells #[sQ A n.inn.length c,sQ N n.o.length d] 37)=W1 at *;have x0:W1.cell? ⟨W.heap.size,0,none⟩=some (sQ A n.inn.length c):=hD.out.cell 0;have x1:W1.cell? ⟨W.heap.size,1,none⟩=some (sQ N n.o.length d):=hD.out.cell 1;go_wp2_with fail;refine (qiw A N c d n 1099511627776 W1 hC.out (HR.out.below Ha.out (lrZ _)) hd la lb hj.out).mono ?_;rintro e W2 ⟨Wd,Or,cw,co,V,rfl,hO,hL,hI,hf,Hv,Hj⟩;rw [show RfF.cells ⟨A,N,Wd,Or,c,d,cw,co⟩ V n (Ck.base n 1099511627776) Rf.start=#[sQ A n.inn.length c,sQ N n.o.length d,sQ Wd (Ck.base n 1099511627776).words.length cw,sQ Or (Ck.base n 1099511627776).order.length co,nQ iQ (Ck.base n 1099511627776).aH,nQ iQ 1099511627776,sQ V.Th 1 V.ct,sQ V.Sa 0 V.cs,sQ V.Gr 0 V.cg,nQ iQ 0,nQ iQ 0,nQ iQ 0,nQ iQ 0] from rfl];have hn:=Ha.out.trans hI
 have HX:=zI (show XB n (Ck.base n 1099511627776) W2.heap.size ⟨A,N,Wd,Or,c,d,cw,co⟩ V Rf.start W (W2.alloc (.cells #[sQ A n.inn.length c,sQ N n.o.length d,sQ Wd (Ck.base n 1099511627776).words.length cw,sQ Or (Ck.base n 1099511627776).order.length co,nQ iQ (Ck.base n 1099511627776).aH,nQ iQ 1099511627776,sQ V.Th 1 V.ct,sQ V.Sa 0 V.cs,sQ V.Gr 0 V.cg,nQ iQ 0,nQ iQ 0,nQ iQ 0,nQ iQ 0] 125)) from
  XB.startN (hn.alloc _) hn.size HR.out ((aP.old hO.words (lrZ _)).later ((Later.refl W2).alloc _)) ((aP.old hO.ord (lrZ _)).later ((Later.refl W2).alloc _)) (hL.later ((Later.refl W2).alloc _)) (RfV.Off.old hL (lrZ _)) (Fr.refl _ _) (Blk.new W2 125 _))
 have hU:=zI ((hI.alloc (.cells #[sQ A n.inn.length c,sQ N n.o.length d,sQ Wd (Ck.base n 1099511627776).words.length cw,sQ Or (Ck.base n 1099511627776).order.length co,nQ iQ (Ck.base n 1099511627776).aH,nQ iQ 1099511627776,sQ V.Th 1 V.ct,sQ V.Sa 0 V.cs,sQ V.Gr 0 V.cg,nQ iQ 0,nQ iQ 0,nQ iQ 0,nQ iQ 0] 125)).blk hD.out);clear hO hL hI hf hn x0 x1 hD;go_upto_region 2 with fail;generalize W2.alloc (.cells #[sQ A n.inn.length c,sQ N n.o.length d,sQ Wd (Ck.base n 1099511627776).words.length cw,sQ Or (Ck.base n 1099511627776).order.length co,nQ iQ (Ck.base n 1099511627776).aH,nQ iQ 1099511627776,sQ V.Th 1 V.ct,sQ V.Sa 0 V.cs,sQ V.Gr 0 V.cg,nQ iQ 0,nQ iQ 0,nQ iQ 0,nQ iQ 0] 125)=W3 at *;generalize W2.heap.size=g at *;generalize (⟨A,N,Wd,Or,c,d,cw,co⟩:RfF)=F at *;have x0:W3.cell? ⟨W.heap.size,0,none⟩=some (sQ A n.inn.length c):=hU.out.cell 0;have x1:W3.cell? ⟨W.heap.size,1,none⟩=some (sQ N n.o.length d):=hU.out.cell 1;go_wp2_with fail;refine (qfJ A N c d n W3 hC.out (HR.out.below HX.out.later (lrZ _)) hd la lb hj.out).mono ?_;rintro e W4 ⟨Cs,cc,rfl,Hc,HA,Hy,Hb,hw⟩;have hY:=zI (HX.out.to_later (show Later W3 W4 from hw));have h4:=zI Hc
 have h6:=zI (λa (e:Cs=some a)=>(show ¬(a.block=g) from λq=>by
  have h1:=Hb a e;have h2:=HX.out.box.lt;omega))
 clear Hc Hb hw x0 x1 HX hU;have hG:=zI (Rf.oH hj.out hC.out 1099511627776)
 have hZ:=zI (λk=>(show (ps.take k).all Cd.right=true by
  have h:=h0.out;rw [Zf] at h ⊢;exact λz hz=>h z (Zh hz)))
 have Hs:=zI (Nt.bX hj.out);have Hg:=zI (show (Nt.aD n).length=n.o.length+1 by rw [Nt.aD,List.length_cons,Nt.bH]);have HE:=hG.out.nl;go_wp2_with fail
 go_loopw [8,9,20] (λco i _ wx=>∃(k:Nat) (x:RfS) (V:RfV),k<=ps.length/\i=nQ iQ (k:Int)/\co=nQ iQ (Safe.sum (Cd.aJ (Nt.aD n) (ps.take k)))/\Rf.go (Ck.base n 1099511627776) Rf.start (ps.take k)=(x,0)/\XB n (Ck.base n 1099511627776) g F V x W wx/\Fr (λb=>b=g) W4 wx) (λ_ i _ _=>ps.length-(intOf i).toNat)
 case atStart=>exact ⟨0,_,V,Zt _,rfl,rfl,rfl,hY.out,Fr.refl _ _⟩
 case round=>
  clear hY;obtain ⟨k,x,V,hk,rfl,rfl,hq,hc,hT⟩:=hrel;have hE:lF (Ck.base n 1099511627776) (Ck.go (Ck.base n 1099511627776) (Ck.start (n.o.length+1)) (ps.take k)).1 x:=by have:=Rf.rel_at hj.out hC.out (cap:=1099511627776) (hZ.out k);rw [hq] at this;exact this
  have h9:0<=x.done/\x.done<=1000:=by have h1:=hE.done;have h2:=hE.dl;have h3:=hG.out.ol;omega
  have hW:=zI hE.good;clear hE;have Hk:=Rf.cost_part hj.out (ps.take k);have Hx:((ps.take k).length:Int)*4294967296<=1000*4294967296:=Int.mul_le_mul_of_nonneg_right soZ oZ
  by_cases hh:k<ps.length
  ·obtain ⟨b3,o3,rfl,HF,c0,c1⟩:=(HQ.out.below hc.later (lrZ _)) k hh
   have HD:b3≠g:=by
    obtain ⟨b5,o5,e5,h5,-,-⟩:=HQ.out k hh;injection e5 with e5
    injection e5 with e5
    subst e5;have:=hc.hg;omega
   have hr:=Rf.go_step hh hq;have hF:=Cd.lV h0.out k hh;have hm:=λh=>(congrArg Safe.sum (Cd.iZ (Nt.aD n) ps k hh h)).trans (show _=Safe.sum (Cd.aJ (Nt.aD n) (ps.take k))+(Nt.aD n).getD ps[k].2.toNat 0 by rw [Safe.sum_append];simp [Safe.sum])
   have hi:=λh=>congrArg Safe.sum (Cd.iT (Nt.aD n) ps k hh h)
   generalize ps[k]=pk' at *;obtain ⟨kd,id⟩:=pk';simp only at c0 c1 hr hm;generalize Safe.sum (Cd.aJ (Nt.aD n) (ps.take k))=sm at *;have hs:=(Rf.eX hF).1;have Ht:=(Rf.eX hF).2;have Hu:=zI hF
   have hy:(Rf.do_ (Ck.base n 1099511627776) x kd id).2=0:=by
    by_cases h:(Rf.do_ (Ck.base n 1099511627776) x kd id).2=0
    ·exact h
    ·have h2:=Rf.go_stop (c:=Ck.base n 1099511627776) (x:=Rf.start) (ps:=ps) (k:=k+1) (by rw [hr];exact h)
     have h3:=Hi.out;rw [h2,hr] at h3;exact absurd h3 h
   have Hr:id<((Nt.words n).length:Int):=(Rf.do_ok hy).1;have hp:=zI (show Rf.go (Ck.base n 1099511627776) Rf.start (ps.take (k+1))=((Rf.do_ (Ck.base n 1099511627776) x kd id).1,0) by rw [hr,←hy]);have Hp:=zI (λ(w:Zp1) (h:Later wr w)=>(show Calls prog 64 #[.agg #[sQ F.A n.inn.length F.c,sQ F.N n.o.length F.d,sQ F.Wd (Ck.base n 1099511627776).words.length F.cw,sQ F.Or (Ck.base n 1099511627776).order.length F.co,nQ iQ (Ck.base n 1099511627776).aH,nQ iQ (Ck.base n 1099511627776).cap,sQ V.Th x.there.length V.ct,sQ V.Sa x.saved.length V.cs,sQ V.Gr x.aF.length V.cg,nQ iQ x.em,nQ iQ x.sd,nQ iQ x.done,nQ iQ x.aB],nQ iQ kd,nQ iQ id] w (bG F V n (Ck.base n 1099511627776) x kd id w) from ref18_do F V n (Ck.base n 1099511627776) x w hG.out hW.out (hc.to_later h).fix (hc.to_later h).at_ h9 kd id Hu.out));have k0:(k:Int)<(ps.length:Int):=by omega
   have kk:k<ps.length:=hh;obtain ⟨y0,y1,y2,y3,y4,y5,y6,y7,y8,y9,y10,y11,y12⟩:=RfF.aC hc.box;have Hq:=hG.out;obtain ⟨ht,ha,hN,h7⟩:=zd4 hm hi hc hT;clear hm hi hc hT;clear hr hq hF hh;have B0:=Hp;unfold bG at B0;generalize hB:Ck.base n 1099511627776=B at *;have Hz:=zI hB;clear hB Hq hW hZ;generalize Rf.do_ B x kd id=rr at *;obtain ⟨x',e'⟩:=rr;simp only at hy;subst hy;dsimp only at B0 hp;go_upto_region 7 with fail;have c0':wr.cell? ⟨b3,o3+k*2,none⟩=some (nQ iQ kd):=c0;have c1':wr.cell? ⟨b3,o3+k*2+1,none⟩=some (nQ iQ id):=c1
   go_cut [] (λwx=>∃V',XB n B g F V' x' W wx/\Fr (λb=>b=g) W4 wx/\(wx.cell? ⟨b3,o3+k*2,none⟩=some (nQ iQ kd)/\wx.cell? ⟨b3,o3+k*2+1,none⟩=some (nQ iQ id)))
   case first=>
    have KF:=zI (show ∀Xw,Later wr Xw->Xw.cell? ⟨b3,o3+k*2,none⟩=some (nQ iQ kd)/\Xw.cell? ⟨b3,o3+k*2+1,none⟩=some (nQ iQ id) from λXw h=>⟨h.cell c0,h.cell c1⟩);refine Zm1 ?_;refine Zl1 (S:=λXw=>Xw.cell? ⟨b3,o3+k*2,none⟩=some (nQ iQ kd)/\Xw.cell? ⟨b3,o3+k*2+1,none⟩=some (nQ iQ id)) krZ (KF.out _ Lau) (λhHeld=>?_);refine tk 1 ?_;refine tk 2 ?_;refine tk 3 ?_;refine tk 4 ?_;refine tk 5 ?_;refine tk 6 ?_;refine tk 7 ?_;refine tk 8 ?_;refine tk 9 ?_;refine tk 10 ?_;refine rd 0 λK hK=>?_
    simp only [ga,gz]
    go_simp
    refine hK.out _ _ (KF.out _ Lau) (λhHeld=>?_);clear hK K
    try simp only [ga,gs,gz,Act.put,sa,sz,ss]
    refine rd 11 λK hK=>?_
    simp only [ga,gs,gz]
    go_simp
    go_at_call 64;(with_reducible refine (B0.out _ Lau).mono ?_);rintro e wb ⟨V',rfl,hA,hV,hf⟩
    rw [show F.cells V' n B x'=#[sQ F.A n.inn.length F.c,sQ F.N n.o.length F.d,sQ F.Wd B.words.length F.cw,sQ F.Or B.order.length F.co,nQ iQ B.aH,nQ iQ B.cap,sQ V'.Th x'.there.length V'.ct,sQ V'.Sa x'.saved.length V'.cs,sQ V'.Gr x'.aF.length V'.cg,nQ iQ x'.em,nQ iQ x'.sd,nQ iQ x'.done,nQ iQ x'.aB] from rfl];have hJ:Later wr wb:=(Later.refl wr).drew.trans hV;have hH:=hN.out.to_later hJ;have hv:=hH.put hA (hf g hN.out.box.lt hN.out.off);have hx:=wJ (g:=g) (h7.out.eZ hJ h7.out.size) (sQ F.A n.inn.length F.c) (sQ F.N n.o.length F.d) (sQ F.Wd B.words.length F.cw) (sQ F.Or B.order.length F.co) (nQ iQ B.aH) (nQ iQ B.cap) (sQ V'.Th x'.there.length V'.ct) (sQ V'.Sa x'.saved.length V'.cs) (sQ V'.Gr x'.aF.length V'.cg) (nQ iQ x'.em) (nQ iQ x'.sd) (nQ iQ x'.done) (nQ iQ x'.aB);obtain ⟨z0,z1,z2,z3,z4,z5,z6,z7,z8,z9,z10,z11,z12⟩:=RfF.aC hH.box;obtain ⟨f0,f1,f2,f3,f4,f5,f6,f7,f8,f9,f10,f11,f12⟩:=qa0 hH.box;obtain ⟨hl,he⟩:=zd2 hv hx;replace hV:Below _ _ wb:=hV;clear hv hx hH hA hJ hf
    try go_wp2_with fail
    refine hK.out _ _ (KF.out _ Lau) (λhHeld=>?_);clear hK K
    try simp only [ga,gs,gz,Act.put,sa,sz,ss]
    refine tk 12 ?_;refine tk 13 ?_;refine tk 14 ?_;refine rd 15 λK hK=>?_
    simp only [ga,gs,gz]
    go_simp
    refine hK.out _ _ ?_ (λhHeld=>?_)
    ·(try dsimp only);(refine ⟨?_,?_⟩<;>(repeat (refine qaA ?_ (by first|omega|(simp;done)|(simp;omega))))<;>(refine Later.cell (Lau:Later wr _) ?_)<;>assumption)
    clear hK K
    try simp only [ga,gs,gz,Act.put,sa,sz,ss]
    clear KF;refine Zn1 krZ ?_ _;refine Zd1 ?_;go_wp2_with fail
    go_meet
    exact ⟨V',hl.out,he.out,hHeld⟩
   case rest=>
    obtain ⟨V',hv,hx,d0,d1⟩:=hcut;obtain ⟨hl,he⟩:=zd2 hv hx;have Hh:=Hs.out;have Hl:=Hg.out;have HB:id<((Nt.aD n).length:Int):=by omega
    clear hv hx c0 c1 Hh Hl;generalize wc=wd at *;rcases Ht with rfl|rfl|rfl|rfl|rfl|rfl
    ·obtain ⟨idn,rfl⟩:=ezZ hs
     have ho:idn<(Nt.aD n).length:=by omega
     obtain ⟨b4,o4,hS,-,hP⟩:=(he.out.ints h4.out h6.out) idn ho;subst hS
     change wd.cell? ⟨b4,o4+idn,none⟩=some (nQ iQ ((Nt.aD n).getD idn 0)) at hP
     have Ho:=Rf.pU hj.out idn;have hb:=zI (show Safe.sum (Cd.aJ (Nt.aD n) (ps.take (k+1)))=sm+(Nt.aD n).getD idn 0 from ht.out rfl);generalize (Nt.aD n).getD idn 0=cz at *;have Hm:iQ.wrap (sm+cz)=sm+cz:=Zc1 _ oZ;have k4:(0:Int)<=(idn:Int):=by omega
     have k5:(idn:Int)<((Nt.aD n).length:Int):=by omega
     go_wp2_with fail;go_roundw
     case rel=>exact ⟨k+1,x',V',by omega,by go_num,by rw [hb.out],hp.out,hl.out,he.out⟩
     case measure=>simp [intOf];omega
    ·obtain ⟨idn,rfl⟩:=ezZ hs
     have ho:idn<(Nt.aD n).length:=by omega
     obtain ⟨b4,o4,hS,-,hP⟩:=(he.out.ints h4.out h6.out) idn ho;subst hS
     change wd.cell? ⟨b4,o4+idn,none⟩=some (nQ iQ ((Nt.aD n).getD idn 0)) at hP
     have Ho:=Rf.pU hj.out idn;have hb:=zI (show Safe.sum (Cd.aJ (Nt.aD n) (ps.take (k+1)))=sm+(Nt.aD n).getD idn 0 from ht.out rfl);generalize (Nt.aD n).getD idn 0=cz at *;have Hm:iQ.wrap (sm+cz)=sm+cz:=Zc1 _ oZ;have k4:(0:Int)<=(idn:Int):=by omega
     have k5:(idn:Int)<((Nt.aD n).length:Int):=by omega
     go_wp2_with fail;go_roundw
     case rel=>exact ⟨k+1,x',V',by omega,by go_num,by rw [hb.out],hp.out,hl.out,he.out⟩
     case measure=>simp [intOf];omega
    ·have hb:=zI (show Safe.sum (Cd.aJ (Nt.aD n) (ps.take (k+1)))=sm from ha.out rfl)
     go_wp2_with fail;go_roundw
     case rel=>exact ⟨k+1,x',V',by omega,by go_num,by rw [hb.out],hp.out,hl.out,he.out⟩
     case measure=>simp [intOf];omega
    ·have hb:=zI (show Safe.sum (Cd.aJ (Nt.aD n) (ps.take (k+1)))=sm from ha.out rfl)
     go_wp2_with fail;go_roundw
     case rel=>exact ⟨k+1,x',V',by omega,by go_num,by rw [hb.out],hp.out,hl.out,he.out⟩
     case measure=>simp [intOf];omega
    ·have hb:=zI (show Safe.sum (Cd.aJ (Nt.aD n) (ps.take (k+1)))=sm from ha.out rfl)
     go_wp2_with fail;go_roundw
     case rel=>exact ⟨k+1,x',V',by omega,by go_num,by rw [hb.out],hp.out,hl.out,he.out⟩
     case measure=>simp [intOf];omega
    ·have hb:=zI (show Safe.sum (Cd.aJ (Nt.aD n) (ps.take (k+1)))=sm from ha.out rfl)
     go_wp2_with fail;go_roundw
     case rel=>exact ⟨k+1,x',V',by omega,by go_num,by rw [hb.out],hp.out,hl.out,he.out⟩
     case measure=>simp [intOf];omega
  ·obtain rfl:k=ps.length:=by omega
   have HL:=zI hc.later;rw [Zg] at hq ⊢;have Hw:x.aB=pk:=by have h:=Hn.out;rw [hq] at h;exact h
   have y12:=(RfF.aC hc.box).2.2.2.2.2.2.2.2.2.2.2.2;rw [Hw,] at y12;rw [←hM.out];clear hc hq hT Hk Hx h9 hW;go_wp2_with fail
   go_ret2
   exact ⟨rfl,HL.out⟩
theorem Gr.best_mem {ws kept:List Int} (h:0<kept.length):Gr.best ws kept kept.length∈kept:=by
 rw [Gr.oM,gdZ,geZ (Gr.qO ws kept h kept.length (lrZ _))];exact gmZ _
theorem Gr.best_in {ws kept:List Int} (h:0<kept.length) {j:Nat} (hj:j<=kept.length):Gr.best ws kept j∈kept:=by
 rw [Gr.oM,gdZ,geZ (Gr.qO ws kept h j hj)];exact gmZ _
theorem Gr.strike_lt {kept:List Int} {b:Int} (h:b∈kept):(kept.filter λz=>decide (z≠b)).length<kept.length:=
 List.length_filter_lt_length_iff_exists.2 ⟨b,h,by simp⟩
def vI:Value->Nat
 | .slice _ l _=>l
 | _=>0
def Kept22P (n:aA) (cap:Int) (W:Zp1) (e:Ending) (w':Zp1):Prop:=
 Later W w'/\((Gr.kL n cap=none/\e=.returned (.tuple #[sQ none 0 0,nQ iQ 0]))∨∃kept K kc,Gr.kL n cap=some kept/\e=.returned (.tuple #[sQ K kept.length kc,nQ iQ 1])/\Ints iQ w' K kept)
set_option maxRecDepth 100000 in
theorem qdE (A N:Option Addr) (c d:Nat) (n:aA) (cap:Int) (W:Zp1) (hok:n.ok) (hch:Nt.check n=0) (hR:bC W A N n) (hd:n.o.length<=d) (la:n.inn.length<=c) (lb:c<=9223372036854775807) (h12:n.o.length<=12):
  Calls prog 13 #[.agg #[sQ A n.inn.length c,sQ N n.o.length d],nQ iQ cap] W (Kept22P n cap W):=by
 obtain ⟨i0,hi,Hp,HM,Hz⟩:=info_parts qag;have hw:Later W (W.alloc (.cells #[sQ A n.inn.length c,sQ N n.o.length d] 37)):=(Later.refl W).alloc _;have hU:=Blk.new W 37 #[sQ A n.inn.length c,sQ N n.o.length d];obtain ⟨HR,Hb,hE,h0,hT⟩:=zd5 hR hok hw hU hch;clear hR hok hw hU hch;go_in;go_wp2_with fail;generalize W.alloc (.cells #[sQ A n.inn.length c,sQ N n.o.length d] 37)=W1 at *;generalize hb:W.heap.size=b at *;have HB:=zI hb;clear hb;have x0:W1.cell? ⟨b,0,none⟩=some (sQ A n.inn.length c):=h0.out.cell 0;have x1:W1.cell? ⟨b,1,none⟩=some (sQ N n.o.length d):=h0.out.cell 1;go_wp2_with fail;refine (qd4 A N c d n W1 Hb.out (HR.out.below hE.out (lrZ _)) hd la lb hT.out).mono ?_;rintro e W2 ⟨Wd,cw,rfl,HL,hw1,hw2,Hv⟩;have hA:Later W1 W2:=Hv;have Ho:=hE.out.trans hA;have h9:=hA.blk h0.out;have hx:=Nt.bX hT.out;have HG:Gr.rC (Gr.aB n) (Nt.words n) cap (n.o.length+1) (ones n.o.length)=Gr.kL n cap:=Gr.qV _ _ _ _ _ (qgW _);generalize Nt.words n=ws at *;obtain ⟨H0,h6,Hh,Hg,HE⟩:=zd5 HL Ho h9 hx HG;clear HL Ho h9 hx HG;clear Hv hA x0 x1 hE h0;go_wp2_with fail
 go_loopw [7,8] (λo i wx=>∃k:Nat,k<=n.o.length/\i=nQ iQ ((k:Int)+1)/\wx.ownsRow W2.heap.size 3 1 o (ones k).length ((ones k).map (Za1 iQ))/\Later W2 wx) (λ_ i _=>n.o.length+1-(intOf i).toNat)
 case atStart=>exact ⟨0,Zt _,rfl,by simpa [ones] using World.ownsRow_nil W2 W2.heap.size 3 1,Later.refl _⟩
 case round=>
  obtain ⟨k,hk,rfl,hown,he⟩:=hrel;obtain ⟨Ao,co,rfl⟩:=qa6 hown;have hJ:=qaJ k;have x1:wr.cell? ⟨b,1,none⟩=some (sQ N n.o.length d):=(he.blk Hh.out).cell 1
  by_cases hr:k<n.o.length
  ·have HS:=zI (qeQ k)
   generalize ones k=r at *;have ho:=qa8 hown (.cells #[nQ iQ ((k:Int)+1)] 3);have hn:=he.alloc (.cells #[nQ iQ ((k:Int)+1)] 3);have Hf:=Below.size he;have hG:=zI (λb (hb:(Zb1 Ao r.length co).ownBlock=some b)=>(hown.lt b hb).1);have k1:(k:Int)+1<=(n.o.length:Int):=by omega
   have H4:r.length<=1000000:=by omega
   clear hown hJ;go_wp2_with (at_builtin;refine wpList_append_own_at _ rfl _ _ 22 rfl W2.heap.size 3 i0 (nQ iQ 0) 1 8 underlying22 hi Hp HM Hz rfl dZ _ _ _ rfl ho ⟨wr.heap.size,0,none⟩ 1 1 [nQ iQ ((k:Int)+1)] rfl rfl ?c1 (by intro u hu;simp at hu;subst hu;rfl) (by unfold maxLen;omega) oZ ?c2 ?_)
   first|(case c1=>exact qap wr _ _)|skip
   case c2=>simp;omega
   intro v' w4 hf hgrow _ hy;have ht:Later W2 w4:=Below.grown hn hgrow soZ (λb hb=>hG.out b hb);have ha:w4.ownsRow W2.heap.size 3 1 v' (r++[(k:Int)+1]).length ((r++[(k:Int)+1]).map (Za1 iQ)):=by simpa using hf
   rw [←HS.out] at ha;have k2:iQ.wrap ((k:Int)+1+1)=(k:Int)+1+1:=Zc1 _ oZ;obtain ⟨hh,Hd⟩:=zd2 ha ht;clear ha ht;clear hf hgrow hy ho hn hG x1;go_wp2_with fail;go_roundw
   case rel=>exact ⟨k+1,by omega,by go_num,hh.out,Hd.out⟩
   case measure=>simp [intOf];omega
  ·obtain rfl:k=n.o.length:=by omega
   obtain ⟨q1,q2,q3⟩:=qak hown;have HK:∀z∈ones n.o.length,1<=z/\z<=(n.o.length:Int):=qdS;have hL:=he;obtain ⟨Ht,h3⟩:=zd2 HK q1;have hN:=zI hL;clear HK q1 hL;clear hown he;have hP:=zI hJ;rw [hJ] at q2;have hl:(Zb1 Ao (ones n.o.length).length co)=sQ Ao n.o.length co:=by rw [hJ]
   rw [hl];clear hl hJ;go_wp2_with fail;clear x1
   go_loopw [7,9,10,11,12,13,14,28] (λv _ _ _ _ _ _ _ wx=>∃(m:Nat) (kept:List Int) (K:Option Addr) (kc:Nat),kept.length<m/\kept.length<=n.o.length/\v=sQ K kept.length kc/\Gr.rC (Gr.aB n) (ws) cap m kept=Gr.kL n cap/\(∀z∈kept,1<=z/\z<=(n.o.length:Int))/\Ints iQ wx K kept/\kept.length<=kc/\kc<=9223372036854775807/\Later W2 wx) (λv _ _ _ _ _ _ _ _=>vI v)
   case atStart=>exact ⟨n.o.length+1,ones n.o.length,Ao,co,by rw [hP.out];omega,by rw [hP.out];omega,by rw [hP.out],HE.out,Ht.out,h3.out,by rw [hP.out];exact q2,q3,hN.out⟩
   case round=>
    clear hN h3 HE Ht q2 q3 hr hk hP;obtain ⟨m,kept,K,kc,hm,H3,rfl,hg,Hk,hI,H1,h9,he⟩:=hrel;have x0:wr.cell? ⟨b,0,none⟩=some (sQ A n.inn.length c):=(he.blk Hh.out).cell 0;have x1:wr.cell? ⟨b,1,none⟩=some (sQ N n.o.length d):=(he.blk Hh.out).cell 1;have h7:=λ(X:Zp1) (h:Later wr X)=>qd3 A N K c d kc n kept X Hb.out hT.out h12 (HR.out.below (h6.out.trans (he.trans h)) (lrZ _)) hd la lb (hI.below h (lrZ _)) oZ
    have Hu:=λ(X:Zp1) (Q:Option Addr) (q:Nat) (h:Later wr X) (hQ:aW X Q (Rt.lW n kept).code)=>qdD A N Q c d q n kept X Hb.out hT.out (HR.out.below (h6.out.trans (he.trans h)) (lrZ _)) hd la lb h12 hQ
    unfold RsL at h7;rw [←Rt.nH hT.out] at h7;generalize hcd:(Rt.lW n kept).code=cd at *;generalize hct:Gr.cost n kept=ct at *;generalize hpk:Gr.aB n kept=pk at *;have HQ:=zI hpk;clear hcd hct hpk;have hq:=Hk;obtain ⟨hs,H2,HI,h4,Hw,HJ⟩:=zd6 hg Hk hI he h7 Hu;clear hg Hk hI he h7 Hu;go_upto_region 7 with fail
    go_cut [9,10] (λv _ wx=>v=nQ iQ pk/\Later wr wx)
    case first=>
     have KF:=zI (show ∀Xw,Later wr Xw->Xw.cell? ⟨b,0,none⟩=some (sQ A n.inn.length c)/\Xw.cell? ⟨b,1,none⟩=some (sQ N n.o.length d) from λXw h=>⟨h.cell x0,h.cell x1⟩);refine Zm1 ?_;refine Zl1 (S:=λXw=>Xw.cell? ⟨b,0,none⟩=some (sQ A n.inn.length c)/\Xw.cell? ⟨b,1,none⟩=some (sQ N n.o.length d)) krZ (KF.out _ Lau) (λhHeld=>?_);refine tk 0 ?_;refine tk 1 ?_;refine tk 2 ?_;refine rd 3 λK hK=>?_
     simp only [ga,gs,gz]
     go_simp
     go_at_call 24;(with_reducible refine (Hw.out _ Lau).mono ?_);rintro e w3 ⟨C,cc,rfl,hC,Hx⟩
     have HC:=zI hC;clear hC;replace Hx:Below _ _ w3:=Hx
     try go_wp2_with fail
     refine hK.out _ _ (KF.out _ Lau) (λhHeld=>?_);clear hK K
     try simp only [ga,gs,gz,Act.put,sa,sz,ss]
     refine rd 4 λK hK=>?_
     simp only [ga,gs,gz]
     go_simp
     go_at_call 25;(with_reducible refine (HJ.out _ C cc Lau (HC.out.later Lau)).mono ?_);rintro e w4 ⟨rfl,ht⟩
     replace ht:Below _ _ w4:=ht
     try go_wp2_with fail
     refine hK.out _ _ (KF.out _ Lau) (λhHeld=>?_);clear hK K
     try simp only [ga,gs,gz,Act.put,sa,sz,ss]
     refine tk 5 ?_;refine tk 6 ?_;refine tk 7 ?_;refine tk 8 ?_;refine tk 9 ?_;clear KF;refine Zn1 krZ ?_ _;refine Zd1 ?_;have hp:Later wr w4:=Lau;have He:=zI hp;clear hp;go_wp2_with fail
     go_meet
     exact ⟨rfl,He.out⟩
    case rest=>
     obtain ⟨rfl,Hn⟩:=hcut;have hp:=h4.out.trans Hn;have hD:=HI.out.below Hn (lrZ _);clear x0 x1 Hn h4 HI Hw HJ;obtain ⟨m',rfl⟩:∃m',m=m'+1:=⟨m-1,by omega⟩
     have hg:=hs.out;rw [Gr.rC,HQ.out] at hg
     by_cases hc:pk<=cap
     ·rw [ipZ hc] at hg
      have hw:=h6.out.trans hp;clear hs;obtain ⟨hs,hE,HH⟩:=zd3 hg hw hD;clear hg hw hD;clear hp;go_wp2_with fail
      go_ret2
      exact ⟨hE.out,.inr ⟨kept,K,kc,hs.out.symm,rfl,HH.out⟩⟩
     rw [inZ hc] at hg
     by_cases hU:kept.length=0
     ·rw [ipZ hU] at hg
      have hw:=h6.out.trans hp;clear hs;obtain ⟨hs,hE⟩:=zd2 hg hw;clear hg hw;have e0:(kept.length:Int)=0:=by omega
      clear hp hD;go_wp2_with fail
      go_ret2
      exact ⟨hE.out,.inl ⟨hs.out.symm,rfl⟩⟩
     rw [inZ hU] at hg;obtain ⟨bk,ok,rfl,-,-⟩:=hD 0 oZ
     have hy:∀j,j<kept.length->wc.cell? ⟨bk,ok+j,none⟩=some (nQ iQ (kept.getD j 0)):=λj hj=>by
      obtain ⟨b5,o5,e5,-,h5⟩:=hD j hj;cases e5;rw [h5]
     have y0:wc.cell? ⟨bk,ok,none⟩=some (nQ iQ (Gr.best ws kept 0)):=hy 0 oZ
     have Hs:∀j,j<=kept.length->∃u:Nat,Gr.best (ws) kept j=(u:Int)/\u<=n.o.length:=λj hj=>by
      have h1:=hq _ (Gr.best_in (ws:=ws) oZ hj);exact ⟨(Gr.best (ws) kept j).toNat,by omega,by omega⟩
     have hB:=H0.out.below hp (lrZ _);have Hq:=Gr.best_mem (ws:=ws) (kept:=kept) oZ;have hV:∀z∈kept.filter (λz=>decide (z≠Gr.best (ws) kept kept.length)),1<=z/\z<=(n.o.length:Int):=λz hz=>hq z (List.mem_filter.1 hz).1
     have hO:∀j,Gr.best (ws) kept (j+1)=if Gr.wd (ws) (Gr.best (ws) kept j)<Gr.wd (ws) (kept.getD j 0) then kept.getD j 0 else Gr.best (ws) kept j:=λ_=>rfl
     have hx:=Hg.out
     have HA:∀j,j<kept.length->∃u:Nat,kept.getD j 0=(u:Int)/\u<=n.o.length:=λj hj=>by
      have h1:=hq _ (gmZ hj);exact ⟨kept[j].toNat,by simp [hj];omega,by omega⟩
     have hS:=zI hg;clear hg hs hq;obtain ⟨bw,ow,rfl,-,-⟩:=hB 0 oZ
     have hW:∀u,u<=n.o.length->wc.cell? ⟨bw,ow+u,none⟩=some (nQ iQ (Gr.wd ws u)):=λj hj=>by
      obtain ⟨b5,o5,e5,-,h5⟩:=hB j oZ;cases e5;rw [h5];simp [Gr.wd]
     have H6:0<kept.length:=by omega
     obtain ⟨Hr,hH,Hj,HU,HV,Hg,He,HY,Hl⟩:=zd9 hy hW hO Hs HA hx hp Hq hV;have HH:=zI hD;clear hy hW hO Hs HA hx hp Hq hV hD;clear hB;have e0:¬(kept.length:Int)=0:=by omega
     have e1:(0:Int)<(kept.length:Int):=by omega
     go_upto_region 13 with fail;clear y0 e0;go_wp2_with fail
     go_loopw [11,12] (λv i wx=>∃j:Nat,j<=kept.length/\i=nQ iQ (j:Int)/\v=nQ iQ (Gr.best ws kept j)/\Later wc wx) (λ_ i _=>kept.length-(intOf i).toNat)
     case atStart=>exact ⟨0,Zt _,rfl,rfl,Later.refl _⟩
     case round=>
      obtain ⟨j,hj,rfl,rfl,hF⟩:=hrel
      by_cases hr:j<kept.length
      ·obtain ⟨u,hu,HP⟩:=HV.out j hr
       obtain ⟨v,hv,HZ⟩:=HU.out j hj;have y1:=hF.cell (Hr.out j hr);have y3:=hF.cell (hH.out u HP);have y4:=hF.cell (hH.out v HZ);have hl:=Hj.out j;rw [hu] at y1 hl;rw [hv] at hl ⊢;generalize Gr.wd ws (v:Int)=wv at *;generalize Gr.wd ws (u:Int)=wu at *;have hx:=Hg.out;have q1:(j:Int)<(kept.length:Int):=by omega
       have q2:(0:Int)<=(u:Int):=by omega
       have q3:(u:Int)<(ws.length:Int):=by omega
       have q4:(0:Int)<=(v:Int):=by omega
       have q5:(v:Int)<(ws.length:Int):=by omega
       have hY:∀m,Later wc (wr.drewN m):=λm=>hF.drewN m
       have hZ:=zI hY;clear hY;clear hu hv hF hx
       by_cases hc:wv<wu
       ·rw [ipZ hc] at hl
        have Ha:=zI hl;clear hl;go_wp2_with fail
        go_quiet (fail)
        go_wp2_with fail;go_roundw
        case rel=>exact ⟨j+1,by omega,by go_num,by rw [Ha.out],hZ.out _⟩
        case measure=>simp [intOf];omega
       ·rw [inZ hc] at hl
        have Ha:=zI hl;clear hl;go_wp2_with fail
        go_quiet (fail)
        go_wp2_with fail;go_roundw
        case rel=>exact ⟨j+1,by omega,by go_num,by rw [Ha.out],hZ.out _⟩
        case measure=>simp [intOf];omega
      ·obtain rfl:j=kept.length:=by omega
       generalize Gr.best ws kept kept.length=bt at *;have Hm:=zI hF;clear hF hj hr;obtain ⟨w5,hw5⟩:∃v,v=wr:=⟨wr,rfl⟩
       rw [←hw5] at Hm ⊢;clear hw5;go_wp2_with fail
       go_loopw [13,14] (λo i wx=>∃j:Nat,j<=kept.length/\i=nQ iQ (j:Int)/\wx.ownsRow w5.heap.size 3 1 o ((kept.take j).filter λz=>decide (z≠bt)).length (((kept.take j).filter λz=>decide (z≠bt)).map (Za1 iQ))/\Later w5 wx) (λ_ i _=>kept.length-(intOf i).toNat)
       case atStart=>exact ⟨0,Zt _,rfl,by simpa using World.ownsRow_nil w5 w5.heap.size 3 1,Later.refl _⟩
       case round=>
        obtain ⟨j,hj,rfl,hown,he⟩:=hrel;obtain ⟨Af,cf,rfl⟩:=qa6 hown
        have HW:((kept.take j).filter λz=>decide (z≠bt)).length<=100:=by
         have h1:=List.length_filter_le (λz=>decide (z≠bt)) (kept.take j);have h2:(kept.take j).length<=12:=by rw [Zo];omega
         omega
        by_cases hr:j<kept.length
        ·have y1:=(Hm.out.trans he).cell (Hr.out j hr)
         have HT:=zI (Zb hr);have Hy:kept.getD j 0=kept[j]:=by simp [hr]
         rw [Hy] at y1;clear Hy;generalize kept[j]=z at *
         have HF:=zI (show (kept.take (j+1)).filter (λz=>decide (z≠bt))=if z=bt then (kept.take j).filter (λz=>decide (z≠bt)) else (kept.take j).filter (λz=>decide (z≠bt))++[z] by
          rw [HT.out,List.filter_append]
          by_cases h:z=bt<;>simp [h])
         have q1:(j:Int)<(kept.length:Int):=by omega
         generalize (kept.take j).filter (λz=>decide (z≠bt))=r at *
         by_cases hz:z=bt
         ·have Hi:=zI (HF.out.trans (ipZ hz))
          subst hz;obtain ⟨h8,h4⟩:=zd2 hown he;clear hown he;clear HF;go_wp2_with fail;go_roundw
          case rel=>exact ⟨j+1,by omega,by go_num,by rw [Hi.out];exact h8.out,h4.out⟩
          case measure=>simp [intOf];omega
         ·have Hi:=zI (HF.out.trans (inZ hz))
          clear HF;have H5:(z==bt)=false:=by simp [hz]
          have ho:=qa8 hown (.cells #[nQ iQ z] 3);have hn:=he.alloc (.cells #[nQ iQ z] 3);have Hf:=Below.size he;have hG:=zI (λb (hb:(Zb1 Af r.length cf).ownBlock=some b)=>(hown.lt b hb).1);clear hown;go_wp2_with (at_builtin;refine wpList_append_own_at _ rfl _ _ 22 rfl w5.heap.size 3 i0 (nQ iQ 0) 1 8 underlying22 hi Hp HM Hz rfl dZ _ _ _ rfl ho ⟨wr.heap.size,0,none⟩ 1 1 [nQ iQ z] rfl rfl ?c1 (by intro u hu;simp at hu;subst hu;rfl) (by unfold maxLen;omega) oZ ?c2 ?_)
          first|(case c1=>exact qap wr _ _)|skip
          case c2=>simp;omega
          intro v' w4 hf hgrow _ hy;have ht:Later w5 w4:=Below.grown hn hgrow soZ (λb hb=>hG.out b hb);have ha:w4.ownsRow w5.heap.size 3 1 v' (r++[z]).length ((r++[z]).map (Za1 iQ)):=by simpa using hf
          rw [←Hi.out] at ha;obtain ⟨hh,Hd⟩:=zd2 ha ht;clear ha ht;clear hf hgrow hy ho hn hG y1;go_wp2_with fail;go_roundw
          case rel=>exact ⟨j+1,by omega,by go_num,hh.out,Hd.out⟩
          case measure=>simp [intOf];omega
        ·obtain rfl:j=kept.length:=by omega
         rw [Zg] at hown HW;have HN:=Gr.strike_lt HY.out;have HD:=Hl.out;have hM:=hS.out;rw [Zg];generalize kept.filter (λz=>decide (z≠bt))=r at *;obtain ⟨q1,q2,q3⟩:=qak hown;have hX:=He.out.trans (Hm.out.trans he);obtain ⟨h3,Hc,HO⟩:=zd3 q1 hX HD;clear q1 hX HD;have HX:=zI hM;clear hown he hM hS;go_wp2_with fail;go_roundw
         case rel=>exact ⟨m',r,Af,cf,by omega,by omega,rfl,HX.out,HO.out,h3.out,q2,q3,Hc.out⟩
         case measure=>simp [vI];omega
end Go.Proofs.YtddkenhemnkkeaaGreat
