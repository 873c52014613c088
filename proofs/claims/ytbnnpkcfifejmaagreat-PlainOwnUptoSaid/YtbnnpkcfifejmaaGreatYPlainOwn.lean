/- The statement Rows.PlainOwnUptoSaid is proved: for every input the law 'athanorlaw14.PlainOwn' returns true, and each argument reads afterwards as it read before. Conditions: those of the row, no others. -/
import Derived.Below
import Derived.ChangeOld
import Derived.JoinedCond
import Derived.OpenShut
import Derived.ProofKit
import Derived.ShutString
import Derived.WalkKit
import Derived.Test.YtbnnpkcfifejmaaGreatRows
import Derived.Test.YtbnnpkcfifejmaaGreatZ07
set_option linter.unusedVariables false
open List renaming take_succ_eq_append_getElem → Zb, replicate → Zc, drop_eq_getElem_cons → Zd, length_append → Ze, all_eq_true → Zf, take_length → Zg, mem_of_mem_take → Zh, getElem?_eq_none → Zi, flatMap_append → Zj, getElem?_toArray → Zk, getElem?_append_right → Zl, getElem?_append_left → Zm, take_append_drop → Zn, length_take → Zo, mem_of_mem_drop → Zp, length_drop → Zq, getElem?_set_self → Zr, getElem?_set_ne → Zs
open Nat renaming zero_le → Zt, succ_mul → Zu, le_trans → Zv, zero_add → Zw, add_zero → Zx, le_succ → Zy
open Bool renaming and_eq_true → Zz
open Go.Value renaming int → Za1, slice → Zb1
open Go.IntWalk renaming i64_in → Zc1
open Go.NoPanic renaming normal → Zd1
open Go.RowKit.Below renaming refl → Ze1
open Go.AllReadyH renaming cons → Zf1, nil → Zg1
open Go.World renaming size_alloc → Zh1, cell?_of_block → Zi1, block_lt_of_cell? → Zj1
open Go renaming bodyPost_ret → Zk1, wp_region_held_drew → Zl1, wp_region_noPanic → Zm1, wpAnyH_done → Zn1, wpAnyH_ready → Zo1, World → Zp1
namespace Go.Proofs.YtbnnpkcfifejmaaGreat
set_option maxHeartbeats 16000000
open Go.RowKit
set_option maxRecDepth 20000 in
theorem qef (w:Zp1) (A N P XS XC:Option Addr) (c d cp xc xd:Nat) (n:NetD) (ps:List Ten) (x:Ten) (hok:n.ok) (hR:NetR w A N n) (hd:n.nodes.length<=d) (hc:n.inn.length<=c) (hcm:c<=9223372036854775807) (hP:Tns w P ps) (lP:ps.length<=1048576) (kP:ps.length<=cp) (mP:cp<=9223372036854775807) (nP:P=none->cp=0) (hX:TenIn w XS XC xc xd x):
  Calls Tryz.prog 7 #[.agg #[.slice A n.inn.length c,.slice N n.nodes.length d,.slice P ps.length cp,.slice XS x.s.length xc,.slice XC x.c.length xd]] w λe w'=>e=.returned (.bool true)/\Below w.heap.size w w':=by
 have hk:=Blk.new w 61 #[.slice A n.inn.length c,.slice N n.nodes.length d,.slice P ps.length cp,.slice XS x.s.length xc,.slice XC x.c.length xd];have Ga:Later w (w.alloc (.cells #[.slice A n.inn.length c,.slice N n.nodes.length d,.slice P ps.length cp,.slice XS x.s.length xc,.slice XC x.c.length xd] 61)):=(Later.refl w).alloc _;obtain ⟨i0,hi,gb,H1,HZ⟩:=info_parts qb2;obtain ⟨HF,HR,HP,Hk,HG,HX,gU⟩:=zd7 hok hR hP hk Ga hX nP;clear hok hR hP hk Ga hX nP;go_enter Tryz.func7,Tryz.ntmps7;go_upto_region 1 with fail;generalize w.alloc (.cells #[.slice A n.inn.length c,.slice N n.nodes.length d,.slice P ps.length cp,.slice XS x.s.length xc,.slice XC x.c.length xd] 61)=w1 at *;obtain ⟨y0,y1,y2,y3,y4⟩:=qay Hk.out;go_wp2_with fail;refine (small_14 A N P XS XC c d cp xc xd n ps x w1 HF.out (HR.out.below HG.out (lrZ _)) (HP.out.later HG.out) lP (HX.out.later HG.out)).mono ?_;rintro e w2 ⟨b,rfl,-,HO⟩;have HM:=HG.out.call HO;have HA:=(show Later w1 w2 from HO).blk Hk.out;clear HO y0 y1 y2 y3 y4;cases b
 ·have hT:=zI HM
  have H3:=zI HA;clear HM HA;go_wp2_with fail;refine (qeF _).mono ?_;rintro e w3 ⟨rfl,h4⟩;go_wp2_with fail;go_ret;exact ⟨rfl,hT.out.call h4⟩
 obtain ⟨y0,y1,y2,y3,y4⟩:=qay HA;obtain ⟨hT,H3⟩:=zd2 HM HA;clear HM HA;go_wp2_with fail;refine (fits_14 A N P XS XC c d cp xc xd n ps x w2 HF.out (HR.out.below hT.out (lrZ _)) hd hc hcm (HP.out.later hT.out) lP (HX.out.later hT.out)).mono ?_;rintro e w3 ⟨rfl,h4⟩;have HJ:=hT.out.call h4;have HB:=(show Later w2 w3 from h4).blk H3.out;clear h4 y0 y1 y2 y3 y4 Hk H3
 by_cases hf:Pn.fits n ps x=0
 case neg=>
  have d2:(Pn.fits n ps x != 0)=true:=by simpa using hf
  clear hf;generalize Pn.fits n ps x=e0 at *;obtain ⟨hS,gc⟩:=zd2 HJ HB;clear HJ HB;go_wp2_with fail;refine (qeF _).mono ?_;rintro e w4 ⟨rfl,HN⟩;go_wp2_with fail;go_ret;exact ⟨rfl,hS.out.call HN⟩
 rw [hf];obtain ⟨vals,HY,HH,-⟩:=Pn.ready_of hf;have gS:=λ(W:Zp1) (h:Later w W)=>qeb A N P XS XC c d cp xc xd n ps x W HF.out (HR.out.below h (lrZ _)) hd (HP.out.later h) lP kP mP gU.out (HX.out.later h) hf
 have gk:=λ(W:Zp1) (h:Later w W)=>qb8 A N P XS XC c d cp xc xd n ps x W HF.out (HR.out.below h (lrZ _)) hd (HP.out.later h) lP kP mP gU.out (HX.out.later h)
 rw [HY] at gk
 have Gl:(Pn.run n ps x).grads.length=ps.length:=by
  show (Pn.back n ps (Pn.forward n ps x).1).2.length=_
  rw [HY];exact (Pn.back_all HH).plen
 generalize Pn.run n ps x=rr at *;have gN:=HH.len;obtain ⟨c1,c2,-⟩:=Nt.check_ok HH.chk;clear hf HY HH;obtain ⟨y0,y1,y2,y3,y4⟩:=qay HB;obtain ⟨hS,gc,GK,H5,hY,H2⟩:=zd6 HJ HB gk gS Gl gN;clear HJ HB gk gS Gl gN;go_wp2_with fail;refine (H5.out _ hS.out).mono ?_;rintro e w4 ⟨GB,S,C,sc,cd,rfl,gp,Gd,HN⟩;rw [hY.out];have H0:Later w3 w4:=HN;obtain ⟨x1,hx1⟩:∃x1,rr.x.s.length=x1:=⟨_,rfl⟩
 obtain ⟨x2,hx2⟩:∃x2,rr.x.c.length=x2:=⟨_,rfl⟩
 rw [hx1,hx2];have hb:=H0.alloc (.cells #[.int .i64 rr.loss,.slice (some ⟨GB,0,none⟩) ps.length ps.length,.slice S x1 sc,.slice C x2 cd] 66);have gG:=(Later.refl w4).alloc (.cells #[.int .i64 rr.loss,.slice (some ⟨GB,0,none⟩) ps.length ps.length,.slice S x1 sc,.slice C x2 cd] 66);have gR:=hS.out.trans hb;have gu:=hb.blk gc.out;have g3:=Blk.new w4 66 #[.int .i64 rr.loss,.slice (some ⟨GB,0,none⟩) ps.length ps.length,.slice S x1 sc,.slice C x2 cd];clear HN y0 y1 y2 y3 y4;obtain ⟨go,hW,Gr,gr,Gc,g8,ge,GG,HE⟩:=zd9 H0 hb gG gR gu g3 gp Gd hx1;have HL:=zI hx2;clear H0 hb gG gR gu g3 gp Gd hx1 hx2;go_upto_region 4 with fail;generalize w4.alloc (.cells #[.int .i64 rr.loss,.slice (some ⟨GB,0,none⟩) ps.length ps.length,.slice S x1 sc,.slice C x2 cd] 66)=w5 at *;obtain ⟨y0,y1,y2,y3,y4⟩:=qay Gc.out;go_wp2_with fail;refine (GK.out _ gr.out).mono ?_;rintro e w6 ⟨⟨h0,-⟩|⟨-,G,rfl,hV⟩,gK⟩
 ·exact absurd rfl h0
 rw [show (vals,(0:Int)).1.length=n.nodes.length+1 from H2.out];have He:Later w5 w6:=gK;have hU:=Gr.out.trans He;have gY:=hW.out.trans He;have Gm:=gr.out.trans He;have gm:=He.blk Gc.out;have hn:=He.blk g8.out;have GT:w4.heap.size<w5.heap.size:=g8.out.lt;have Gx:=hW.out.size;have Gp:=go.out.size
 have g4:WrRow w3.heap.size w4.heap.size w6 [.slice S x1 sc,.slice C x2 cd] 1:=by
  have:=GG.out.wr (B2:=w3.heap.size) (ra:=w4.heap.size) hU (lrZ _) (.inr (lrZ _))
  rwa [HE.out,HL.out] at this
 have HD:=ge.out.wr (B2:=w3.heap.size) (ra:=w4.heap.size) hU (lrZ _) (.inr (lrZ _));have gi:=hV.wr (B2:=w3.heap.size) (ra:=w4.heap.size) (Later.refl w6) Gx (.inl GT);have gJ:=ge.out.tns.later hU;have gv:=hV.tns;rw [←qcU ge.out.tns hU] at HD;rw [hY.out] at HD;rw [H2.out] at gi;have b1:=hn.cell 1;have b2:=hn.cell 2;have b3:=hn.cell 3;simp at b1 b2 b3;clear gK hV y0 y1 y2 y3 y4;have hA:(w6.alloc (.cells #[.slice S x1 sc,.slice C x2 cd] 30)).ownsRow w6.heap.size 30 2 (.slice (some ⟨w6.heap.size,0,none⟩) 1 1) 1 [.slice S x1 sc,.slice C x2 cd]:=qgJ (heap_alloc_new w6 _) (lrZ _) rfl;have gP:Later w6 (w6.alloc (.cells #[.slice S x1 sc,.slice C x2 cd] 30)):=(Later.refl w6).alloc _;obtain ⟨G9,Gw,G0,G1,Hc,gO,gD,Gk,Ge⟩:=zd9 hU gY Gm gm hn g4 HD gi gJ;obtain ⟨gF,hD,gt⟩:=zd3 gv hA gP;clear hU gY Gm gm hn g4 HD gi gJ gv hA gP;have GL:w4.heap.size<w6.heap.size:=Hc.out.lt;have hy:=hY.out;have hz:=H2.out;go_wp2_with (at_builtin;refine qaW rfl _ _ 27 rfl w6.heap.size 30 i0 Tryz.underlying27 hi gb H1 HZ w6.heap.size 1 1 _ rfl hD.out w6 (some ⟨GB,0,none⟩) ps.length rr.grads (by rw [hy];rfl) Ge.out gt.out (lrZ _) sZ oZ ?_);intro g1 c1' w7 us1 hC Hf g6;have Gn:Later w6 w7:=g6
 have Gj:WrRow w3.heap.size w4.heap.size w6 (Zb1 S x1 sc::Zb1 C x2 cd::us1) (1+ps.length):=by
  have hu:WrRow w3.heap.size w4.heap.size w6 us1 ps.length:=by
   rcases Hf with ⟨h1,rfl⟩|rfl
   ·rw [h1] at hy
    rw [←hy];exact ⟨rfl,λj hj=>absurd hj sZ⟩
   ·exact gD.out
  exact gO.out.append hu
 clear Hf g6 b1 b2 b3;obtain ⟨hE,Gb,gf⟩:=zd3 hC Gj Gn;clear hC Gj Gn;go_wp2_with (at_builtin;refine qaW rfl _ _ 27 rfl w6.heap.size 30 i0 Tryz.underlying27 hi gb H1 HZ g1 (1+ps.length) c1' _ rfl hE.out w6 (some ⟨G,0,none⟩) (n.nodes.length+1) vals (by rw [hz];rfl) gF.out gf.out (lrZ _) gf.out.size oZ ?_);intro g2 c2' w8 us2 hF Hh gA;have h5:Later w6 w8:=gA;obtain ⟨L,hL⟩:∃L,Zb1 S x1 sc::Zb1 C x2 cd::(us1++us2)=L:=⟨_,rfl⟩
 have HK:WrRow w3.heap.size w4.heap.size w8 L (1+ps.length+(n.nodes.length+1)):=by
  have hu:WrRow w3.heap.size w4.heap.size w6 us2 (n.nodes.length+1):=by
   rcases Hh with ⟨h1,-⟩|rfl
   ·rw [h1] at hz;simp at hz
   ·exact Gk.out
  rw [←hL];exact (Gb.out.append hu).later h5
 have ha:∀(j:Nat) (u:Value),L[j]? = some u->w8.cell? ⟨g2,j,none⟩=some u:=λj u hu=>by
  have hl:=HK.1;have hj:j<L.length:=(List.getElem?_eq_some_iff.1 hu).1;have hO:w8.ownsRow w6.heap.size 30 2 (.slice (some ⟨g2,0,none⟩) (1+ps.length+(n.nodes.length+1)) c2') (1+ps.length+(n.nodes.length+1)) L:=by rw [←hL];exact hF
  rw [hO.cellAt j oZ];exact hu
 obtain ⟨m,hm⟩:∃m,1+ps.length+(n.nodes.length+1)=m:=⟨_,rfl⟩
 rw [hm] at HK ⊢;have G8:m<=2097152:=by omega
 have gM:=Gw.out.trans h5;have Hv:=h5.blk Hc.out;have gn:=hS.out.trans go.out;clear hF Hh gA hy hz hL hm hE Gb gf hD gt gO gD Gk Ge gF hi gb H1 HZ;obtain ⟨G4,Gf,hQ,gQ⟩:=zd4 h5 HK ha gM;have Hm:=zI Hv;have G7:=zI gn;clear h5 HK ha gM Hv gn;go_wp2_with fail
 go_loopw [59] (λi wx=>∃k:Nat,k<=m/\i=.int .i64 (k:Int)/\Later w3 wx/\WrRow w3.heap.size w4.heap.size wx L m/\(∀(j:Nat) (u:Value),L[j]? = some u->wx.cell? ⟨g2,j,none⟩=some u)/\Blk wx w4.heap.size 66 #[.int .i64 rr.loss,.slice (some ⟨GB,0,none⟩) ps.length ps.length,.slice S x1 sc,.slice C x2 cd]) (λi _=>m-(intOf i).toNat)
 case atStart=>exact ⟨0,Zt _,rfl,gQ.out,Gf.out,hQ.out,Hm.out⟩
 case round=>
  obtain ⟨k,hk,rfl,hh,hg,ha,hp⟩:=hrel;clear gQ Gf hQ Hm
  by_cases HQ:k<m
  ·obtain ⟨Sj,nj,cj,Cj,kj,dj,e1,e2,e3,e4⟩:=hg.2 k HQ
   have z0:=ha _ _ e1;have z1:=ha _ _ e2;have kk:(k:Int)<(m:Int):=by omega
   have G2:=Zj1 _ _ z0;have hs:=Blk.new wr 30 #[.slice Sj nj cj,.slice Cj kj dj];have hb:=(Later.refl wr).alloc (.cells #[.slice Sj nj cj,.slice Cj kj dj] 30);have Hr:=hh.trans hb;have Hi:=hg.later hb;have Hx:∀(j:Nat) (u:Value),L[j]? = some u->(wr.alloc (.cells #[.slice Sj nj cj,.slice Cj kj dj] 30)).cell? ⟨g2,j,none⟩=some u:=λj u h=>hb.cell (ha j u h)
   have hZ:=hb.blk hp;clear e4;obtain ⟨HI,HU,hQ,h7,Hd,hW,Hz,h8,Hs⟩:=zd9 hh hg ha hp hs hb Hr Hi Hx;obtain ⟨Hu,G5,Gz⟩:=zd3 hZ e1 e2;clear hh hg ha hp hs hb Hr Hi Hx hZ e1 e2;go_upto_region 10 with fail;clear z0 z1;generalize wr.alloc (.cells #[.slice Sj nj cj,.slice Cj kj dj] 30)=wa at *;generalize wr.heap.size=nb at *;have m1:=Hd.out.cell 1;simp at m1;go_wp2_with fail;clear m1;obtain ⟨wo,rfl⟩:∃wo:Zp1,wo=wr:=⟨wr,rfl⟩
   go_loopw [66] (λi wx=>∃q:Nat,q<=kj/\i=.int .i64 (q:Int)/\Later w3 wx/\WrRow w3.heap.size w4.heap.size wx L m/\(∀(j:Nat) (u:Value),L[j]? = some u->wx.cell? ⟨g2,j,none⟩=some u)/\Blk wx w4.heap.size 66 #[.int .i64 rr.loss,.slice (some ⟨GB,0,none⟩) ps.length ps.length,.slice S x1 sc,.slice C x2 cd]/\Blk wx nb 30 #[.slice Sj nj cj,.slice Cj kj dj]) (λi _=>kj-(intOf i).toNat)
   case atStart=>exact ⟨0,Zt _,rfl,Hz.out,h8.out,Hs.out,Hu.out,Hd.out⟩
   case round=>
    obtain ⟨q,hq,rfl,hh,hg,ha,hp,hs⟩:=hrel;clear Hz h8 Hs Hu Hd
    by_cases H9:q<kj
    ·obtain ⟨_,_,_,_,_,_,f1,f2,-,f4⟩:=hg.2 k HQ
     have f2:=Gz.out.symm.trans f2;injection f2 with f2
     injection f2 with f2 f3 f5
     subst f2 f3 f5;obtain ⟨b,off,z,rfl,hB,Hl,GY,gZ,HC⟩:=f4 q H9;have qq:(q:Int)<(kj:Int):=by omega
     have m1:=hs.cell 1;simp at m1;have GH:=gZ (off+q)
     have nbb:nb≠b:=by
      rintro rfl;rw [hs.cell] at HC
      match hk0:off+q,HC with
      | 0,h=>simp at h
      | 1,h=>simp at h
      | j+2,h=>simp at h
     have Ho:=hh.set (p:=⟨b,off+q,none⟩) hB (.int .i64 7);have Hw:=hg.set ⟨b,off+q,none⟩ 7
     have Hg:∀(j:Nat) (u:Value),L[j]? = some u->(wr.setCell ⟨b,off+q,none⟩ (.int .i64 7)).cell? ⟨g2,j,none⟩=some u:=λj u hu=>by
      rw [World.cell?_setCell_other]
      ·exact ha j u hu
      ·intro he
       have:=ha j u hu;rw [←he,HC] at this;injection this with this
       obtain ⟨_,_,_,h2⟩:=hg.cell u (List.mem_of_getElem? hu);rw [h2] at this;cases this
     have Hy:=hp.far (p:=⟨b,off+q,none⟩) (Ne.symm Hl) (.int .i64 7);have h6:=hs.far (p:=⟨b,off+q,none⟩) nbb (.int .i64 7);clear f1 f4 gZ hB Hl nbb;obtain ⟨HI,HU,hQ,h7,Hd,H6,HS,HT,gj⟩:=zd9 hh hg ha hp hs Ho Hw Hg Hy;have gl:=zI h6;clear hh hg ha hp hs Ho Hw Hg Hy h6;go_wp2_with fail;clear m1 GH HC;generalize wr.setCell ⟨b,off+q,none⟩ (.int .i64 7)=wz at *;go_roundw
     case rel=>exact ⟨q+1,by omega,by go_num,H6.out,HS.out,HT.out,gj.out,gl.out⟩
     case measure=>simp [intOf];omega
    ·obtain rfl:q=kj:=by omega
     obtain ⟨HI,HU,hQ,h7,Hd⟩:=zd5 hh hg ha hp hs;clear hh hg ha hp hs;go_wp2_with fail;go_roundw
     case rel=>exact ⟨k+1,by omega,by go_num,HI.out,HU.out,hQ.out,h7.out⟩
     case measure=>simp [intOf];omega
  ·obtain rfl:k=m:=by omega
   have gg:=hh.blk gc.out;obtain ⟨y0,y1,y2,y3,y4⟩:=qay gg;have gB:=hS.out.trans hh;clear hg ha HQ;obtain ⟨HI,h7,GX,Gi⟩:=zd4 hh hp gg gB;clear hh hp gg gB;go_wp2_with fail;refine (H5.out _ Gi.out).mono ?_;rintro e wa ⟨GA,SA,CA,ac,ad,rfl,gV,gE,g0⟩;rw [hY.out,HE.out,HL.out];have hN:Later wr wa:=g0;have Hp:=hN.alloc (.cells #[.int .i64 rr.loss,.slice (some ⟨GA,0,none⟩) ps.length ps.length,.slice SA x1 ac,.slice CA x2 ad] 66);have hb:=(Later.refl wa).alloc (.cells #[.int .i64 rr.loss,.slice (some ⟨GA,0,none⟩) ps.length ps.length,.slice SA x1 ac,.slice CA x2 ad] 66);have gy:=Gi.out.trans Hp;have gC:=Hp.blk GX.out;have gI:=Hp.blk h7.out;have gq:=Blk.new wa 66 #[.int .i64 rr.loss,.slice (some ⟨GA,0,none⟩) ps.length ps.length,.slice SA x1 ac,.slice CA x2 ad];clear g0 y0 y1 y2 y3 y4;have GS:=zI hN;obtain ⟨GZ,hW,g7,GD,GJ,GQ,Gs,GI⟩:=zd8 Hp hb gy gC gI gq gV gE;clear hN Hp hb gy gC gI gq gV gE;go_upto_region 17 with fail;generalize wa.alloc (.cells #[.int .i64 rr.loss,.slice (some ⟨GA,0,none⟩) ps.length ps.length,.slice SA x1 ac,.slice CA x2 ad] 66)=wb at *;generalize wa.heap.size=r9 at *;obtain ⟨y0,y1,y2,y3,y4⟩:=qay GD.out;go_wp2_with fail;refine (H5.out _ g7.out).mono ?_;rintro e wc ⟨GC,SC,CC,bc,bd,rfl,GP,GR,gH⟩;rw [hY.out,HE.out,HL.out];have hG:Later wb wc:=gH;have hM:=hG.alloc (.cells #[.int .i64 rr.loss,.slice (some ⟨GC,0,none⟩) ps.length ps.length,.slice SC x1 bc,.slice CC x2 bd] 66);have hw:=(Later.refl wc).alloc (.cells #[.int .i64 rr.loss,.slice (some ⟨GC,0,none⟩) ps.length ps.length,.slice SC x1 bc,.slice CC x2 bd] 66);have gX:=g7.out.trans hM;have Hn:=hM.blk GJ.out;have Hj:=hM.blk GQ.out;have h3:=Blk.new wc 66 #[.int .i64 rr.loss,.slice (some ⟨GC,0,none⟩) ps.length ps.length,.slice SC x1 bc,.slice CC x2 bd];have H8:=rr.x;have gW:=(Gs.out.tns.later (hW.out.trans hM))
   have gL:=GP.tns.later hw;have g5:=GI.out.ten.later (hW.out.trans hM);have Go:=GR.ten.later hw;clear gH y0 y1 y2 y3 y4 H8;have GF:=zI hG;obtain ⟨G3,Gt,GV,gd,ho,hx,Gu,Gy,h9⟩:=zd9 hM hw gX Hn Hj h3 gW gL g5;have GE:=zI Go;clear hG hM hw gX Hn Hj h3 gW gL g5 Go;go_upto_region 18 with fail;generalize wc.alloc (.cells #[.int .i64 rr.loss,.slice (some ⟨GC,0,none⟩) ps.length ps.length,.slice SC x1 bc,.slice CC x2 bd] 66)=wd at *;generalize wc.heap.size=r10 at *;have l0:=gd.out.cell 0;have m0:=ho.out.cell 0;have m1:=ho.out.cell 1;have m2:=ho.out.cell 2;have m3:=ho.out.cell 3;have n1:=hx.out.cell 1;have n2:=hx.out.cell 2;have n3:=hx.out.cell 3;simp at l0 m0 m1 m2 m3 n1 n2 n3;have hq:=qcf SA CA SC CC ac ad bc bd rr.x rr.x wd (by have:=h9.out.l1;omega) (by have:=h9.out.l2;omega) (by have:=h9.out.l1;omega) (by have:=h9.out.l2;omega) h9.out.r GE.out.r;rw [show Tn.eq rr.x rr.x=true from (Tn.eq_iff _ _).2 rfl,HE.out,HL.out] at hq;have d1:(rr.loss != rr.loss)=false:=by simp
   have d2:((ps.length:Int) != (ps.length:Int))=false:=by simp
   have Hq:=zI hq;clear hq;go_wp2_with fail;refine (Hq.out).mono ?_;rintro e we ⟨rfl,Gg⟩;have hI:Later wd we:=Gg;have hH:=hI.blk ho.out;have hr:=hI.blk hx.out;have gT:=GV.out.trans hI;have Hb:=Gu.out.later hI;have Ha:=Gy.out.later hI;clear Gg l0 m0 m1 m2 m3 n1 n2 n3;have m1:=hH.cell 1;have n1:=hr.cell 1;simp at m1 n1;obtain ⟨G6,H7,Ht,GN,gh,HW⟩:=zd6 hI hH hr gT Hb Ha;clear hI hH hr gT Hb Ha;go_wp2_with fail;clear m1 n1 d1 d2
   go_loopw [128] (λi wx=>∃q:Nat,q<=ps.length/\i=.int .i64 (q:Int)/\Later we wx) (λi _=>ps.length-(intOf i).toNat)
   case atStart=>exact ⟨0,Zt _,rfl,Later.refl _⟩
   case round=>
    obtain ⟨q,hq,rfl,hv⟩:=hrel
    by_cases H9:q<ps.length
    ·have HV:q<rr.grads.length:=by rw [hY.out];exact H9
     obtain ⟨ba,oa,Sq,c3,Cq,d3,ea,-,a0,a1,ht⟩:=(gh.out.later hv).at_ HV;obtain ⟨bb,ob,Sq',c4,Cq',d4,eb,-,z0,z1,g9⟩:=(HW.out.later hv).at_ HV;injection ea with ea
     injection ea with ea ea2 _
     subst ea ea2;injection eb with eb
     injection eb with eb eb2 _
     subst eb eb2;rw [Zw] at a0 a1 z0 z1;have H4:=λ(V:Zp1) (h:Later wr V)=>qcf Sq Cq Sq' Cq' c3 d3 c4 d4 (Ly.got rr.grads q) (Ly.got rr.grads q) V (by have:=ht.l1;omega) (by have:=ht.l2;omega) (by have:=ht.l1;omega) (by have:=ht.l2;omega) (ht.later h).r (g9.later h).r
     rw [show Tn.eq (Ly.got rr.grads q) (Ly.got rr.grads q)=true from (Tn.eq_iff _ _).2 rfl] at H4;generalize Ly.got rr.grads q=tq at *;have m1:=(hv.blk H7.out).cell 1;have n1:=(hv.blk Ht.out).cell 1;simp at m1 n1;have kk:(q:Int)<(ps.length:Int):=by omega
     clear ht g9 HV;obtain ⟨gx,GO⟩:=zd2 hv H4;clear hv H4;go_upto_region 23 with fail;have KF:=zI (show ∀Xw,Later wr Xw->Xw.cell? ⟨r9,1,none⟩=some (.slice (some ⟨GA,0,none⟩) ps.length ps.length)/\Xw.cell? ⟨r10,1,none⟩=some (.slice (some ⟨GC,0,none⟩) ps.length ps.length)/\Xw.cell? ⟨GA,q*2,none⟩=some (.slice Sq tq.s.length c3)/\Xw.cell? ⟨GA,q*2+1,none⟩=some (.slice Cq tq.c.length d3)/\Xw.cell? ⟨GC,q*2,none⟩=some (.slice Sq' tq.s.length c4)/\Xw.cell? ⟨GC,q*2+1,none⟩=some (.slice Cq' tq.c.length d4) from λXw h=>⟨h.cell m1,h.cell n1,h.cell a0,h.cell a1,h.cell z0,h.cell z1⟩);refine Zm1 ?_;refine Zl1 (S:=λXw=>Xw.cell? ⟨r9,1,none⟩=some (.slice (some ⟨GA,0,none⟩) ps.length ps.length)/\Xw.cell? ⟨r10,1,none⟩=some (.slice (some ⟨GC,0,none⟩) ps.length ps.length)/\Xw.cell? ⟨GA,q*2,none⟩=some (.slice Sq tq.s.length c3)/\Xw.cell? ⟨GA,q*2+1,none⟩=some (.slice Cq tq.c.length d3)/\Xw.cell? ⟨GC,q*2,none⟩=some (.slice Sq' tq.s.length c4)/\Xw.cell? ⟨GC,q*2+1,none⟩=some (.slice Cq' tq.c.length d4)) krZ (KF.out _ Lau) (λhHeld=>?_);refine tk 0 ?_;refine tk 1 ?_;refine tk 2 ?_;refine tk 3 ?_;refine tk 4 ?_;refine tk 5 ?_;refine tk 6 ?_;refine tk 7 ?_;refine tk 8 ?_;refine tk 9 ?_;refine rd 10 λK hK=>?_
     simp only [ga,gs,gz]
     go_simp
     go_at_call 33;(with_reducible refine (GO.out _ (Lau:Later wr _)).mono ?_);rintro e wq ⟨rfl,GM⟩
     try go_wp2_with fail
     refine hK.out _ _ (KF.out _ Lau) (λhHeld=>?_);clear hK K
     try simp only [ga,gs,gz,Act.put,sa,sz,ss]
     refine tk 11 ?_;clear KF;refine Zn1 krZ ?_ _;refine Zd1 ?_;have hJ:Later wr wq:=(Lau:Later wr wq)
     have gw:=gx.out.trans hJ;clear hHeld m1 n1 a0 a1 z0 z1 GM;obtain ⟨GW,Gv⟩:=zd2 hJ gw;clear hJ gw;go_wp2_with fail;go_roundw
     case rel=>exact ⟨q+1,by omega,by go_num,Gv.out⟩
     case measure=>simp [intOf];omega
    ·obtain rfl:q=ps.length:=by omega
     have Gh:=GN.out.trans hv;obtain ⟨gx,Gq⟩:=zd2 hv Gh;clear hv Gh;go_wp2_with fail;refine (qeF _).mono ?_;rintro e wf ⟨rfl,GU⟩;go_wp2_with fail;go_ret;exact ⟨rfl,Gq.out.call GU⟩
end Go.Proofs.YtbnnpkcfifejmaaGreat
namespace Go.Proofs.YtbnnpkcfifejmaaGreat.plainOwn
set_option maxHeartbeats 16000000
open Go.ChangeShapes Go.WideShapes Go.ChangeAt Go.RowKit
open Go.ChangeMaps (open_string shut_string)
theorem own:ownKnob Tryz.prog.godebug=none:=by kernel_rfl
theorem laidOut:laidOutB Tryz.prog=true:=by kernel_rfl
set_option maxRecDepth 100000 in
theorem lifted (os:Os) (started:os.Started) (H:Type) (enc:TypeId × Value->H) (Fi:Stop.Interp):
  ReturnsInHanded {} Tryz.checked os 7 .any ((Rows.OpenSpec.upto Rows.plainOwnSpec).pre6 enc Tryz.prog Tryz.f7 Rows.plainOwnUptoRow.domain false) (((Rows.OpenSpec.upto Rows.plainOwnSpec).at Fi).post enc Tryz.prog Tryz.f7 false true false false):=by
 refine returnsInHanded_of_cond (C:=Tryz.checked) (s:=Rows.OpenSpec.upto Rows.plainOwnSpec) (k:=Rows.uptoSmall) rfl own started krZ Tryz.func7
  (OpenSpec.witness (enc:=enc) (C:=Tryz.checked) (s:=Rows.OpenSpec.upto Rows.plainOwnSpec) (k:=Rows.uptoSmall) rfl false ⟨#[],#[.agg #[.slice none 0 0,.slice none 0 0,.slice none 0 0,.slice none 0 0,.slice none 0 0]],[]⟩ 8 krZ krZ krZ
   (x:=([.agg [.agg [.nil,.nil],.nil,.agg [.nil,.nil]]],[],[])) krZ rfl krZ) ?_
 intro W base args ds gs before ha hW hn hb _;have hc:∀(j:Nat) t v,Tryz.f7.params[j]? = some t->args[j]? = some v->Value.okWide Tryz.prog W .any base t v:=ha;have hl:=hW;obtain ⟨p,q,hh,hV,rfl,hs,ht⟩:=hW;have hA:DataW.TrodAll enc Tryz.prog W 0 (λ_=>true) true Tryz.f7.params.toList args.toList ds p:=hh;rw [Tryz.params7] at hA hc;obtain ⟨v0,vs0,d0,ds0,p0,q0,hg,rfl,rfl,h0,r0⟩:=trodAll_cons hA;obtain ⟨rfl,rfl,rfl⟩:=trodAll_nil r0;obtain rfl:args=#[v0]:=by cases args;simp_all
 obtain ⟨rfl,rfl⟩:=trodVars_none hV;have hr:Rows.uptoBulkAll ([d0]++[])<=1048576:=of_decide_eq_true hb;have hp:Rows.uptoBulk d0<=1048576:=Zv (qec sZ) hr;have k0:=h0;have lt0:∀x∈p0,x.block<W.heap.size:=by obtain ⟨m,hm⟩:=k0;exact DataW.trod_lt m _ _ _ hm
 obtain ⟨A0,N0,P0,S0,C0,c10,c20,cp0,xc0,xd0,n0,ps0,x0,rfl,hd,hq,hk,ho,hf,hj,lP0,kP0,mP0,nP0,hi⟩:=qfz (hc 0 61 v0 rfl rfl) h0 hp;clear hh ha;refine (qef W A0 N0 P0 S0 C0 c10 c20 cp0 xc0 xd0 n0 ps0 x0 hd hq hk ho hf hj lP0 kP0 mP0 nP0 hi).mono λe W' ⟨he,bel⟩=>?_
 subst he;exact ⟨_,rfl,_,_,_,[],_,[],hl,trodAll_mk1 (shut_bool Tryz.underlying4 _),(trodAll_cons_mk (Below.trod laidOut krZ (of_decide_eq_true krZ) k0 bel lt0) trodAll_mk0),rfl,bel.frame _,λh=>by cases h⟩
theorem over:Rows.plainOwnUptoRow.holds Tryz.pinned (Rows.OpenSpec.upto Rows.plainOwnSpec):=
 OpenClaim.holds_of_cond 7 Tryz.f7 rfl rfl rfl rfl rfl rfl rfl ⟨rfl,rfl,rfl,rfl,rfl⟩ rfl rfl rfl rfl rfl krZ Tryz.func7 krZ
  (of_decide_eq_true krZ) (by unfold Func.isWrapper;first|(rw [ipZ (by decide +kernel)];kernel_rfl)|(rw [inZ (by decide +kernel)];exact ⟨rfl,rfl⟩))
  (λos started H enc _ Fi=>lifted os started H enc Fi)
end Go.Proofs.YtbnnpkcfifejmaaGreat.plainOwn
namespace Go.Proofs.YtbnnpkcfifejmaaGreat
theorem plainOwn_holds:Rows.PlainOwnUptoSaid:=plainOwn.over
#print axioms plainOwn_holds
end Go.Proofs.YtbnnpkcfifejmaaGreat
