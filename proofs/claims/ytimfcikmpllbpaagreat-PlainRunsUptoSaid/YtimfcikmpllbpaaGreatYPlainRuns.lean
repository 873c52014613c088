/- The statement Rows.PlainRunsUptoSaid is proved: for every input the law 'athanorlaw14.PlainRuns' returns true, and each argument reads afterwards as it read before. Conditions: those of the row, no others. -/
import Derived.Below
import Derived.ChangeOld
import Derived.JoinedCond
import Derived.OpenShut
import Derived.ProofKit
import Derived.ShutString
import Derived.WalkKit
import Derived.Test.YtimfcikmpllbpaaGreatRows
import Derived.Test.YtimfcikmpllbpaaGreatZ07
set_option linter.unusedVariables false
open Go.IntKind renaming i64 → iQ
open Go.Value renaming int → nQ, slice → sQ
open List renaming take_succ_eq_append_getElem → Zb, replicate → Zc, drop_eq_getElem_cons → Zd, length_append → Ze, all_eq_true → Zf, take_length → Zg, mem_of_mem_take → Zh, getElem?_eq_none → Zi, flatMap_append → Zj, getElem?_toArray → Zk, getElem?_append_right → Zl, getElem?_append_left → Zm, take_append_drop → Zn, length_take → Zo, mem_of_mem_drop → Zp, length_drop → Zq, getElem?_set_self → Zr, getElem?_set_ne → Zs
open Nat renaming zero_le → Zt, succ_mul → Zu, le_trans → Zv, zero_add → Zw, add_zero → Zx, le_succ → Zy
open Bool renaming and_eq_true → Zz
open Go.Value renaming int → Za1, slice → Zb1
open Go.IntWalk renaming i64_in → Zc1
open Go.NoPanic renaming normal → Zd1
open Go.RowKit.Below renaming refl → Ze1
open Go.AllReadyH renaming cons → Zf1, nil → Zg1
open Go.World renaming size_alloc → Zh1, cell?_of_block → Zi1, block_lt_of_cell? → Zj1
open Go renaming bodyPost_ret → Zk1, wp_region_held_drew → Zl1, wp_region_noPanic → Zm1, wpAnyH_done → Zn1, wpAnyH_ready → Zo1, World → Zp1
namespace Go.Proofs.YtimfcikmpllbpaaGreat
set_option maxHeartbeats 16000000
set_option maxRecDepth 20000
open Go.RowKit
namespace Pn
theorem qh9 {ns:List NodeD} {k:Nat}:∀m,k<from_ ns m->∃i,i<m/\from_ ns i<=k/\k<from_ ns (i+1)
 | 0,h=>by simp [from_] at h
 | m+1,h=>by
  rcases Nat.lt_or_ge k (from_ ns m) with h1|h1
  ·obtain ⟨i,h2,h3⟩:=qh9 m h1
   exact ⟨i,by omega,h3⟩
  ·exact ⟨m,by omega,h1,h⟩
theorem grads_s {n:NetD} {ps vals:List Ten} (hR:Ready n ps vals) (k:Nat) (hk:k<ps.length):(Ly.got (back n ps vals).2 k).s=(Ly.got ps k).s:=by
 have hb:=back_all hR;obtain ⟨c1,c2,c3,c4,c5,c6,c7,c8⟩:=Nt.check_ok hR.chk;have hl:ps.length=(n.nodes.flatMap (·.p)).length:=by have:=congrArg List.length hR.pm;simpa [Nt.params] using this
 obtain ⟨i,h1,h2,h3⟩:=qh9 n.nodes.length (show k<from_ n.nodes n.nodes.length by rw [from_all];omega);have hc:((i:Int)+1)∈Nt.sorted n.nodes:=(Kn.order_full (I:=Nt.insF n.nodes) c5 _).2 ⟨by omega,by omega⟩;have ha:fr n ((i:Int)+1)=from_ n.nodes i:=by unfold fr;rw [show ((i:Int)+1).toNat-1=i by omega]
 rw [from_succ h1] at h3;have:=(hb.pgood _ hc (k-from_ n.nodes i) (by rw [Nt.node_at h1];omega)).1;rw [ha,show from_ n.nodes i+(k-from_ n.nodes i)=k by omega] at this;exact this
end Pn
def ApV (r:Option Nat) (B:Nat) (vs:List Value):Prop:=∀u∈vs,∀S n c,u=Zb1 S n c->∀a,S=some a->r≠some a.block/\a.block<B
theorem RowOf.grow {w w':Zp1} {vs:List Value} {ss:List (List Int)} {r:Option Nat} {B:Nat} (h:RowOf w vs ss) (hg:w.grownBy w' r) (ha:ApV r B vs):RowOf w' vs ss:=
 ⟨h.1,λj hj=>by
  obtain ⟨S,c,e,hI,h2⟩:=h.2 j hj;refine ⟨S,c,e,λi hi=>?_,h2⟩;obtain ⟨b,off,e2,hl,hc⟩:=hI i hi;have h3:=(ha _ (List.mem_of_getElem? e) S _ c rfl _ e2).1;have h4:=hg.block b hl (λe=>h3 e.symm);exact ⟨b,off,e2,ltZ hl hg.size,(Zi1 (w:=w) (a:=⟨b,off+i,none⟩) h4).trans hc⟩⟩
theorem Nt.known_all {n:NetD} (h:Nt.known n.nodes=true):∀v∈n.nodes,v.op.kind≠10/\v.op.kind≠13/\v.op.kind≠14:=λv hv=>by
 have:=List.all_eq_true.1 h v hv;unfold NodeD.knownK at this;simp at this;omega
def PrCut (w0:Zp1) (l:Int) (gs:List (List Int)) (xs:List Int) (a:Value) (wx:Zp1):Prop:=
 ∃rb GB C cd,a=.pointer (some ⟨rb,0,none⟩)/\Blk wx rb 51 #[nQ iQ l,sQ (some ⟨GB,0,none⟩) gs.length gs.length,sQ C xs.length cd]/\Shps wx (some ⟨GB,0,none⟩) gs/\Ints iQ wx C xs/\Later w0 wx
theorem PrCut.fill {w0 w:Zp1} {l:Int} {gs:List (List Int)} {xs:List Int} {GB rb B cd:Nat} {C:Option Addr} (hz:Blk w rb 51 #[nQ iQ 0,sQ none 0 0,sQ none 0 0]) (hrb:w0.heap.size<=rb) (hB:rb<B) (hl:Later w0 w) (hS:Shps w (some ⟨GB,0,none⟩) gs) (hI:Ints iQ w C xs) (hg:B<=GB) (ha:ApC (λz=>z<B) w (some ⟨GB,0,none⟩) gs.length) (hC:∀a,C=some a->B<=a.block):
  PrCut w0 l gs xs (.pointer (some ⟨rb,0,none⟩)) (((w.setCell ⟨rb,0,none⟩ (nQ iQ l)).setCell ⟨rb,1,none⟩ (sQ (some ⟨GB,0,none⟩) gs.length gs.length)).setCell ⟨rb,2,none⟩ (sQ C xs.length cd)):=by
 have key:∀ {S:Option Addr} {s:List Int},Ints iQ w S s->(∀a,S=some a->¬a.block<B)->Ints iQ (((w.setCell ⟨rb,0,none⟩ (nQ iQ l)).setCell ⟨rb,1,none⟩ (sQ (some ⟨GB,0,none⟩) gs.length gs.length)).setCell ⟨rb,2,none⟩ (sQ C xs.length cd)) S s:=λhI hS=>
  ((hI.set_far (p:=⟨rb,0,none⟩) (λa e h=>hS a e (h▸hB)) _).set_far (p:=⟨rb,1,none⟩) (λa e h=>hS a e (h▸hB)) _).set_far (p:=⟨rb,2,none⟩) (λa e h=>hS a e (h▸hB)) _
 have hb:GB≠rb:=by omega
 refine ⟨rb,GB,C,cd,rfl,by simpa using ((hz.set_ 0 (nQ iQ l)).set_ 1 (sQ (some ⟨GB,0,none⟩) gs.length gs.length)).set_ 2 (sQ C xs.length cd),λj hj=>?_,key hI (λa e h=>by have:=hC a e;omega),((hl.set (p:=⟨rb,0,none⟩) hrb _).set (p:=⟨rb,1,none⟩) hrb _).set (p:=⟨rb,2,none⟩) hrb _⟩;obtain ⟨b0,off,S',c',e,hf,hc,he,h2⟩:=hS j hj;have hd:=ha j hj b0 off S' _ c' e hc;injection e with e;injection e with e1 e2;subst e1 e2
 refine ⟨GB,0,S',c',rfl,by simpa using hf,?_,key he hd,h2⟩;rw [Zi1 (Below.heap_setCell _ ⟨rb,2,none⟩ _ GB hb),Zi1 (Below.heap_setCell _ ⟨rb,1,none⟩ _ GB hb),Zi1 (Below.heap_setCell _ ⟨rb,0,none⟩ _ GB hb)];exact hc
theorem qdx (w:Zp1) (A N P XS XC:Option Addr) (c d cp xc xd:Nat) (n:NetD) (ps:List Ten) (x:Ten) (hok:n.ok) (hR:NetR w A N n) (hd:n.nodes.length<=d) (hc:n.inn.length<=c) (hcm:c<=9223372036854775807) (hP:Tns w P ps) (lP:ps.length<=1048576) (kP:ps.length<=cp) (mP:cp<=9223372036854775807) (nP:P=none->cp=0) (hX:TenIn w XS XC xc xd x):
  Calls Tryz.prog 3 #[.agg #[sQ A n.inn.length c,sQ N n.nodes.length d,sQ P ps.length cp,sQ XS x.s.length xc,sQ XC x.c.length xd]] w λe w'=>e=.returned (.bool true)/\Below w.heap.size w w':=by
 have hk:=Blk.new w 32 #[sQ A n.inn.length c,sQ N n.nodes.length d,sQ P ps.length cp,sQ XS x.s.length xc,sQ XC x.c.length xd];have gR:Later w (w.alloc (.cells #[sQ A n.inn.length c,sQ N n.nodes.length d,sQ P ps.length cp,sQ XS x.s.length xc,sQ XC x.c.length xd] 32)):=(Later.refl w).alloc _;obtain ⟨i1,hj,g6,Gh,Gg⟩:=info_parts qcI;have Gw:=hok.2.1;obtain ⟨hV,HR,HP,Hk,Ht,HX,Gv⟩:=zd7 hok hR hP hk gR hX nP;clear hok hR hP hk gR hX nP;go_enter Tryz.func3,Tryz.ntmps3;go_upto_region 1 with fail;generalize w.alloc (.cells #[sQ A n.inn.length c,sQ N n.nodes.length d,sQ P ps.length cp,sQ XS x.s.length xc,sQ XC x.c.length xd] 32)=w1 at *;obtain ⟨y0,y1,y2,y3,y4⟩:=qaw Hk.out;go_wp2_with fail;refine (small_14 A N P XS XC c d cp xc xd n ps x w1 hV.out (HR.out.below Ht.out (lrZ _)) (HP.out.later Ht.out) lP (HX.out.later Ht.out)).mono ?_;rintro e w2 ⟨b,rfl,-,HZ⟩;have Hu:=Ht.out.call HZ;have Hj:=(show Later w1 w2 from HZ).blk Hk.out;clear HZ y0 y1 y2 y3 y4;cases b
 ·have hW:=zI Hu
  have HV:=zI Hj;clear Hu Hj;go_wp2_with fail;refine (qdu _).mono ?_;rintro e w3 ⟨rfl,Hh⟩;go_wp2_with fail;go_ret;exact ⟨rfl,hW.out.call Hh⟩
 obtain ⟨y0,y1,y2,y3,y4⟩:=qaw Hj;obtain ⟨hW,HV⟩:=zd2 Hu Hj;clear Hu Hj;go_wp2_with fail;refine (fits_14 A N P XS XC c d cp xc xd n ps x w2 hV.out (HR.out.below hW.out (lrZ _)) hd hc hcm (HP.out.later hW.out) lP (HX.out.later hW.out)).mono ?_;rintro e w3 ⟨rfl,Hh⟩;have Hv:=hW.out.call Hh;have Hf:=(show Later w2 w3 from Hh).blk HV.out;clear Hh y0 y1 y2 y3 y4 Hk HV
 by_cases hf:Pn.fits n ps x=0
 case neg=>
  have d2:(Pn.fits n ps x != 0)=true:=by simpa using hf
  clear hf;generalize Pn.fits n ps x=e0 at *;obtain ⟨Hp,HE⟩:=zd2 Hv Hf;clear Hv Hf;go_wp2_with fail;refine (qdu _).mono ?_;rintro e w4 ⟨rfl,Hn⟩;go_wp2_with fail;go_ret;exact ⟨rfl,Hp.out.call Hn⟩
 rw [hf];obtain ⟨y0,y1,y2,y3,y4⟩:=qaw Hf;have HF:=zI hf;clear hf;obtain ⟨Hp,HE⟩:=zd2 Hv Hf;clear Hv Hf;go_wp2_with fail;refine (qgO A N c d n w3 hV.out (HR.out.below Hp.out (lrZ _))).mono ?_;rintro e w4 ⟨N',d',rfl,H5,GA,Ho,Hn⟩;have Hm:Later w3 w4:=Hn;have gc:=Hp.out.trans Hm;have gi:=Hm.blk HE.out;clear Hn y0 y1 y2 y3 y4 HE;obtain ⟨Gy,g8,gJ,Ga⟩:=zd4 Hm gc gi H5;clear Hm gc gi H5;go_wp2_with fail;refine (qgV A N' c d' n w4 Gw Ga.out).mono ?_;rintro e w5 ⟨rfl,gY⟩;have hU:Later w4 w5:=gY;have hM:=g8.out.trans hU;have Ha:=hU.blk gJ.out;clear gY gJ;cases hkk:Nt.known n.nodes
 ·have HH:=zI hM
  obtain ⟨HJ,Gr,Gx⟩:=zd3 Ha hU hkk;clear hM Ha hU hkk;go_wp2_with fail;refine (qdu _).mono ?_;rintro e w6 ⟨rfl,Hw⟩;go_wp2_with fail;go_ret;exact ⟨rfl,HH.out.call Hw⟩
 have Hy:=Nt.known_all hkk;obtain ⟨vals,HM,hS,HB⟩:=Pn.ready_of Hy HF.out;obtain ⟨v2,q1,-,-,go,-⟩:=Pn.forward_good HF.out;obtain rfl:v2=vals:=congrArg Prod.fst (q1.symm.trans HM);have Hg:Pn.run n ps x=⟨Ly.at_ (Ly.got v2 (Nt.loss n.nodes).toNat).c 0,(Pn.back n ps v2).2,Ly.got (Pn.back n ps v2).1 0⟩:=by unfold Pn.run;rw [HM]
 have H0:=qed A N P XS XC c d cp xc xd n ps x w5 hV.out (HR.out.below hM (lrZ _)) hd (HP.out.later hM) lP kP mP Gv.out (HX.out.later hM) HF.out Hy;rw [Hg] at H0;have gC:=(Pn.back_all hS).plen;have gO:=hS.pr;have gj:Tn.right x=true:=by rw [←HB];exact hS.all 0 (by rw [hS.len];omega)
 have gF:=λk hk=>Pn.grads_s hS k hk
 have H6:=λ(W:Zp1) (h:Later w W) (N2 PP XX:Option Addr) (d2 c2 c3:Nat) (hC:NetR W A N2 n) (Ho:n.nodes.length<=d2) (hPP:Shps W PP (ps.map Ten.c)) (k1:ps.length<=c2) (hXX:Ints iQ W XX x.c) (k2:x.c.length<=c3) (k3:c3<=9223372036854775807)=>
  r14_run A N2 PP XX c d2 c2 c3 n ps x v2 W hV.out hC Ho hc hcm hS go HB hPP lP k1 hXX k2 k3 (λt ht=>by obtain ⟨i,hi,rfl⟩:=List.getElem_of_mem ht;obtain ⟨b,off,S,c,C,d,-,-,-,-,hT⟩:=HP.out i hi;exact hT.num) HX.out.num
 obtain ⟨y0,y1,y2,y3,y4⟩:=qaw Ha;generalize Ly.at_ (Ly.got v2 (Nt.loss n.nodes).toNat).c 0=lv at *;generalize (Pn.back n ps v2).2=gd at *;generalize Ly.got (Pn.back n ps v2).1 0=gx at *;clear q1 Hg go HB hS HM;obtain ⟨Gr,HH,HJ,Gx,Gz,Gn,Hx,g7,Gp⟩:=zd9 hU hM Ha hkk Hy H0 gC gF H6;obtain ⟨Gq,g1⟩:=zd2 gO gj;clear hU hM Ha hkk Hy H0 gC gF H6 gO gj;go_wp2_with fail;refine (Gn.out).mono ?_;rintro e w6 ⟨GB,S,C,sc,cd,rfl,hG,hx,Hw⟩;have HW:Later w5 w6:=Hw;obtain ⟨S9,c9,C9,d9,e9,gr,-⟩:=hx;injection e9 with e9
 simp at e9;obtain ⟨⟨rfl,-,rfl⟩,rfl,-,rfl⟩:=e9;rw [Hx.out];have hv:=HW.alloc (.cells #[nQ iQ lv,sQ (some ⟨GB,0,none⟩) ps.length ps.length,sQ S gx.s.length sc,sQ C gx.c.length cd] 44);have gl:=HH.out.trans hv;have H7:=hv.blk HJ.out;have h6:=Blk.new w6 44 #[nQ iQ lv,sQ (some ⟨GB,0,none⟩) ps.length ps.length,sQ S gx.s.length sc,sQ C gx.c.length cd];have gT:=hG.tns.later ((Later.refl w6).alloc (.cells #[nQ iQ lv,sQ (some ⟨GB,0,none⟩) ps.length ps.length,sQ S gx.s.length sc,sQ C gx.c.length cd] 44));have g0:=gr.later ((Later.refl w6).alloc (.cells #[nQ iQ lv,sQ (some ⟨GB,0,none⟩) ps.length ps.length,sQ S gx.s.length sc,sQ C gx.c.length cd] 44));clear Hw y0 y1 y2 y3 y4 hG gr;obtain ⟨GC,GL,gA,gQ,Gs,Gt,Gm⟩:=zd7 HW hv gl H7 h6 gT g0;clear HW hv gl H7 h6 gT g0;clear HJ;go_upto_region 4 with fail;generalize w6.alloc (.cells #[nQ iQ lv,sQ (some ⟨GB,0,none⟩) ps.length ps.length,sQ S gx.s.length sc,sQ C gx.c.length cd] 44)=w7 at *;generalize w6.heap.size=rb at *;obtain ⟨y0,y1,y2,y3,y4⟩:=qaw gQ.out;go_wp2_with fail
 go_loopw [5,39] (λo i wx=>∃(k:Nat) (vs:List Value),k<=ps.length/\i=nQ iQ (k:Int)/\wx.ownsRow w7.heap.size 48 1 o k vs/\RowOf wx vs ((ps.take k).map Ten.c)/\ApV o.ownBlock wx.heap.size vs/\Later w7 wx) (λ_ i _=>ps.length-(intOf i).toNat)
 case atStart=>exact ⟨0,[],Zt _,rfl,World.ownsRow_nil _ _ _ _,RowOf.nil _,λu hu=>absurd hu sZ,Later.refl _⟩
 case round=>
  clear y0 y1 y2 y3 y4;obtain ⟨k,vs,hk,rfl,hown,hq,HU,hg⟩:=hrel;obtain ⟨Ao,co,rfl⟩:=qa8 hown
  by_cases hz:k<ps.length
  ·skip
   have hA:=gA.out.trans hg;obtain ⟨b,off,S2,c2,C2,d2,rfl,-,p0,p1,hT⟩:=(HP.out.later hA).at_ hz;have t1:=hT.l2;have gV:(ps.take (k+1)).map Ten.c=(ps.take k).map Ten.c++[(Ly.got ps k).c]:=by rw [Zb hz,List.map_append,List.map_singleton,qaj hz]
   have HY:=Ly.right_long (Gq.out _ (gmZ hz));rw [←qaj hz] at HY;generalize Ly.got ps k=t at *;have gM:=(Later.refl wr).alloc (.cells #[sQ S2 t.s.length c2,sQ C2 t.c.length d2] 30);have ge:=Blk.new wr 30 #[sQ S2 t.s.length c2,sQ C2 t.c.length d2];have j1:(k:Int)<(ps.length:Int):=by omega
   have j2:(0:Int)<=(k:Int):=by omega
   obtain ⟨HK,gq,HT,hO,Hz,He,HS,Gu,Gd⟩:=zd9 gM ge hT hown hq hg hA gV HU;clear gM ge hT hown hq hg hA gV HU;go_upto_region 8 with fail;generalize wr.alloc (.cells #[sQ S2 t.s.length c2,sQ C2 t.c.length d2] 30)=wb at *;have x0:=gq.out.cell 0;have x1:=gq.out.cell 1;simp at x0 x1;clear p0 p1;go_wp2_with fail;refine (qcL S2 C2 c2 d2 t wb oZ (HT.out.later HK.out).r.2).mono ?_;rintro e wc ⟨Ac,ac,rfl,hh,r1,r2,hm,gn⟩;have hB:=HK.out.trans hm;have ho:=qa6 (qae hO.out hB) (.cells #[sQ Ac t.c.length ac] 48);have hL:=(He.out.trans hB).alloc (.cells #[sQ Ac t.c.length ac] 48);have Gf:=hL.size;rw [Zh1] at Gf;have hn:=(Hz.out.below hB (lrZ _)).push hh r1 r2;rw [←Gu.out] at hn;have gI:=zI (λb (hb:(Zb1 Ao k co).ownBlock=some b)=>(hO.out.lt b hb).1);have GH:=HK.out.size;have GG:=hm.size
   have h8:ApV (Zb1 Ao k co).ownBlock wc.heap.size (vs++[sQ Ac t.c.length ac]):=λu hu S n c e a ha=>by
    rcases List.mem_append.1 hu with hu|hu
    ·have:=Gd.out u hu S n c e a ha
     exact ⟨this.1,by omega⟩
    ·simp at hu
     rw [hu] at e;injection e with e
     rw [←e] at ha;refine ⟨λhb=>?_,?_⟩
     ·have h1:=(hO.out.lt _ hb).2
      have h2:=gn a ha;omega
     ·obtain ⟨b,off,e2,hl,-⟩:=hh 0 oZ
      rw [ha] at e2;injection e2 with e2;rw [e2];exact hl
   obtain ⟨h4,Hl⟩:=zd2 hn h8;clear hn h8;clear hh r1 r2 hm hB x0 x1 gn;go_wp2_with (at_builtin;refine wpList_append_own_at _ rfl _ _ 47 rfl w7.heap.size 48 i1 (sQ none 0 0) 1 24 Tryz.underlying47 hj g6 Gh Gg rfl dZ _ _ _ rfl ho ⟨wc.heap.size,0,none⟩ 1 1 [sQ Ac t.c.length ac] rfl rfl ?c1 (by intro u hu;simp at hu;subst hu;rfl) (by unfold maxLen;omega) oZ ?c2 ?_)
   first|(case c1=>exact qap wc _ _)|skip
   first|(case c2=>simp;omega)|skip
   intro v' w8 hE hgrow _ gU;have hy:Later w7 w8:=Below.grown hL hgrow soZ (λb hb=>gI.out b hb);have hH:RowOf w8 (vs++[sQ Ac t.c.length ac]) ((ps.take (k+1)).map Ten.c):=(h4.out.below ((Later.refl wc).alloc _) (lrZ _)).grow hgrow Hl.out;have Ge:=hgrow.size;rw [Zh1] at Ge
   have h5:ApV v'.ownBlock w8.heap.size (vs++[sQ Ac t.c.length ac]):=λu hu S n c e a ha=>by
    obtain ⟨h1,h2⟩:=Hl.out u hu S n c e a ha;refine ⟨?_,by omega⟩;rcases gU with h|h
    ·rw [h];exact h1
    ·rw [h];intro h3;injection h3 with h3;(try rw [Zh1] at h3);omega
   have h7:=zI hE;obtain ⟨Gl,Hb,HD⟩:=zd3 hy hH h5;clear hE hy hH h5;clear hgrow gU ho hL gI;go_wp2_with fail;go_roundw
   case rel=>exact ⟨k+1,_,by omega,by go_num,h7.out,Hb.out,HD.out,Gl.out⟩
   case measure=>simp [intOf];omega
  ·obtain rfl:k=ps.length:=by omega
   rw [Zg] at hq;obtain ⟨A',c',e1,e2,e3,e4,e5⟩:=hq.shps hown (Later.refl _);injection e1 with e1 e6 e7
   subst e1 e7;have e4:ps.length<=co:=by simpa using e4
   obtain ⟨w8,hw8⟩:∃w8,w8=wr:=⟨_,rfl⟩
   rw [←hw8] at e3 hg ⊢;clear hw8 hown hq HU hz hk e6 e2 e5;have h0:=gA.out.trans hg;have Hs:=hg.blk gQ.out;have GF:=h0.size;have GK:=Hs.lt;obtain ⟨y0,y1,y2,y3,y4⟩:=qaw Hs;have gK:=hg.blk Gs.out;have H3:=Gt.out.later hg;have gH:=Gm.out.later hg;have xlen:=Ly.right_long g1.out;have gD:=λV (h:Later w8 V)=>qgO A N c d n V hV.out (HR.out.below (h0.trans h) (lrZ _))
   have gb:=λV (h:Later w8 V)=>qcL XS XC xc xd x V oZ (HX.out.later (h0.trans h)).r.2
   have gy:=λV (h:Later w8 V) Va (ha:Later Va V) Vb (hb:Later Vb V) N2 d2 Ac ac (hC:NetR Va A N2 n) (Ho:n.nodes.length<=d2) (hI:Ints iQ Vb Ac x.c) r1 r2=>Gp.out V (h0.trans h) N2 _ Ac d2 _ ac (hC.below ha (lrZ _)) Ho (e3.below h (lrZ _)) e4 (hI.below hb (lrZ _)) r1 r2
   obtain ⟨GJ,He,Gc,gp,gu,gZ,gg,gW,H2⟩:=zd9 e3 hg h0 Hs gK H3 gH gD gb;have Hr:=zI gy;clear e3 hg h0 Hs gK H3 gH gD gb gy;go_upto_region 10 with fail
   go_cut [8] (PrCut w8 lv (gd.map Ten.c) gx.c)
   case first=>
    as_aux_lemma=>
     have KF:=zI (show ∀Xw,Later w8 Xw->Xw.cell? ⟨w.heap.size,0,none⟩=some (sQ A n.inn.length c)/\Xw.cell? ⟨w.heap.size,1,none⟩=some (sQ N n.nodes.length d)/\Xw.cell? ⟨w.heap.size,3,none⟩=some (sQ XS x.s.length xc)/\Xw.cell? ⟨w.heap.size,4,none⟩=some (sQ XC x.c.length xd) from λXw h=>⟨h.cell y0,h.cell y1,h.cell y3,h.cell y4⟩);refine Zm1 ?_;refine Zl1 (S:=λXw=>Xw.cell? ⟨w.heap.size,0,none⟩=some (sQ A n.inn.length c)/\Xw.cell? ⟨w.heap.size,1,none⟩=some (sQ N n.nodes.length d)/\Xw.cell? ⟨w.heap.size,3,none⟩=some (sQ XS x.s.length xc)/\Xw.cell? ⟨w.heap.size,4,none⟩=some (sQ XC x.c.length xd)) krZ (KF.out _ Lau) (λhHeld=>?_);refine tk 0 ?_;refine tk 1 ?_;refine tk 3 ?_;refine tk 4 ?_;refine tk 5 ?_;refine Zo1 (rs:=[2,8]) krZ sZ ?_;refine Zf1 (o:=_) rfl (λK hK=>?_) (Zf1 (o:=_) rfl (λK hK=>?_) (Zg1))
     ·simp only [ga,gs,gz]
      go_simp
      go_at_call 7;(with_reducible refine (gW.out _ (Lau:Later w8 _)).mono ?_);rintro e wa ⟨N2,d2,rfl,hC,hr,HN,gm⟩;have Hi:=zI hC;clear hC
      try go_wp2_with fail
      refine hK.out _ _ (KF.out _ Lau) (λhHeld=>?_);clear hK K
      try simp only [ga,gs,gz,Act.put,sa,sz,ss]
      refine Zo1 (rs:=[6,8]) krZ sZ ?_;refine Zf1 (o:=_) rfl (λK hK=>?_) (Zf1 (o:=_) rfl (λK hK=>?_) (Zg1))
      ·simp only [ga,gs,gz]
       go_simp
       go_at_call 10;(with_reducible refine (H2.out _ (Lau:Later w8 _)).mono ?_);rintro e wb ⟨Ac,ac,rfl,hh,r1,r2,hD,-⟩;have gk:Below _ _ wb:=hD;have hZ:=zI hh;clear hh hD
       try go_wp2_with fail
       refine hK.out _ _ (KF.out _ Lau) (λhHeld=>?_);clear hK K
       try simp only [ga,gs,gz,Act.put,sa,sz,ss]
       refine Zo1 (rs:=[7,8]) krZ sZ ?_;refine Zf1 (o:=_) rfl (λK hK=>?_) (Zf1 (o:=_) rfl (λK hK=>?_) (Zg1))
       ·simp only [ga,gs,gz]
        go_simp
        go_at_call 11;(with_reducible refine (Hr.out _ (Lau:Later w8 _) wa (Lau:Later wa _) wb (Lau:Later wb _) N2 d2 Ac ac Hi.out hr hZ.out r1 r2).mono ?_);rintro e wn ⟨GB2,C2,cd2,rfl,hw,hp,m1,m2,⟨m3,m4,m5⟩,hN⟩;have HA:Below _ _ wn:=hN
        try go_wp2_with fail
        refine hK.out _ _ (KF.out _ Lau) (λhHeld=>?_);clear hK K
        try simp only [ga,gs,gz,Act.put,sa,sz,ss]
        refine rd 8 λK hK=>?_
        simp only [ga,gs,gz]
        go_simp
        refine hK.out _ _ (KF.out _ Lau) (λhHeld=>?_);clear hK K
        try simp only [ga,gs,gz,Act.put,sa,sz,ss]
        refine rd 9 λK hK=>?_
        simp only [ga,gs,gz]
        go_simp
        refine hK.out _ _ ?_ (λhHeld=>?_)
        ·(try dsimp only);(refine ⟨?_,?_,?_,?_⟩<;>(repeat (refine qa0 ?_ (by first|omega|(simp;done)|(simp;omega))))<;>(refine Later.cell (Lau:Later w8 _) ?_)<;>assumption)
        clear hK K
        try simp only [ga,gs,gz,Act.put,sa,sz,ss]
        clear KF;refine Zn1 krZ ?_ _;refine Zd1 ?_;have hy:Later w8 wn:=(Lau:Later w8 wn)
        have g5:=Blk.new wn 51 #[nQ iQ lv,sQ (some ⟨GB2,0,none⟩) gd.length gd.length,sQ C2 gx.c.length cd2];have hv:=(Later.refl wn).alloc (.cells #[nQ iQ lv,sQ (some ⟨GB2,0,none⟩) gd.length gd.length,sQ C2 gx.c.length cd2] 51);go_wp2_with fail
        go_meet
        exact ⟨wn.heap.size,GB2,C2,cd2,rfl,(by simpa using g5),hw.below hv (lrZ _),hp.below hv (lrZ _),hy.trans hv⟩
       ·simp only [ga,gs,gz]
        go_simp
        refine hK.out _ _ (KF.out _ Lau) (λhHeld=>?_);clear hK K
        try simp only [ga,gs,gz,Act.put,sa,sz,ss]
        refine rd 7 λK hK=>?_
        simp only [ga,gs,gz]
        go_simp
        go_at_call 11;(with_reducible refine (Hr.out _ (Lau:Later w8 _) wa (Lau:Later wa _) wb (Lau:Later wb _) N2 d2 Ac ac Hi.out hr hZ.out r1 r2).mono ?_);rintro e wn ⟨GB2,C2,cd2,rfl,hw,hp,m1,m2,⟨m3,m4,m5⟩,hN⟩;have HA:Below _ _ wn:=hN
        have he:=(show Later (wb.alloc (.cells #[nQ iQ 0,sQ none 0 0,sQ none 0 0] 51)) wn from Lau).blk (Blk.new wb _ _);have k0:=he.cell 0;have k1:=he.cell 1;have k2:=he.cell 2;have kf0:=he.frozen 0;have kf1:=he.frozen 1;have kf2:=he.frozen 2;simp at k0 k1 k2;have Hd:=zI he;clear he;have sa:=(Lau:Later w8 wa).size;have sb:=(Lau:Later wa wb).size;have sn:w.heap.size≠wb.heap.size:=by omega
        try go_wp2_with fail
        refine hK.out _ _ (KF.out _ Lau) (λhHeld=>?_);clear hK K
        try simp only [ga,gs,gz,Act.put,sa,sz,ss]
        refine rd 9 λK hK=>?_
        simp only [ga,gs,gz]
        go_simp
        refine hK.out _ _ ?_ (λhHeld=>?_)
        ·(try dsimp only);(refine ⟨?_,?_,?_,?_⟩<;>(repeat (refine qa0 ?_ (by first|omega|(simp;done)|(simp;omega))))<;>(refine Later.cell (Lau:Later w8 _) ?_)<;>assumption)
        clear hK K
        try simp only [ga,gs,gz,Act.put,sa,sz,ss]
        clear KF;refine Zn1 krZ ?_ _;refine Zd1 ?_;have hy:Later w8 wn:=(Lau:Later w8 wn)
        have hf:=PrCut.fill (l:=lv) (cd:=cd2) Hd.out (show w8.heap.size<=wb.heap.size by omega) (show wb.heap.size<(wb.alloc (.cells #[nQ iQ 0,sQ none 0 0,sQ none 0 0] 51)).heap.size by (first|omega|(simp;omega)|(simp;done))) hy hw hp m3 m4 m5;rw [List.length_map] at hf;go_wp2_with fail
        go_meet
        exact hf
      ·simp only [ga,gs,gz]
       go_simp
       refine hK.out _ _ (KF.out _ Lau) (λhHeld=>?_);clear hK K
       try simp only [ga,gs,gz,Act.put,sa,sz,ss]
       refine rd 6 λK hK=>?_
       simp only [ga,gs,gz]
       go_simp
       go_at_call 10;(with_reducible refine (H2.out _ (Lau:Later w8 _)).mono ?_);rintro e wb ⟨Ac,ac,rfl,hh,r1,r2,hD,-⟩;have gk:Below _ _ wb:=hD;have hZ:=zI hh;clear hh hD
       try go_wp2_with fail
       refine hK.out _ _ (KF.out _ Lau) (λhHeld=>?_);clear hK K
       try simp only [ga,gs,gz,Act.put,sa,sz,ss]
       refine rd 7 λK hK=>?_
       simp only [ga,gs,gz]
       go_simp
       go_at_call 11;(with_reducible refine (Hr.out _ (Lau:Later w8 _) wa (Lau:Later wa _) wb (Lau:Later wb _) N2 d2 Ac ac Hi.out hr hZ.out r1 r2).mono ?_);rintro e wn ⟨GB2,C2,cd2,rfl,hw,hp,m1,m2,⟨m3,m4,m5⟩,hN⟩;have HA:Below _ _ wn:=hN
       have he:=(show Later (wa.alloc (.cells #[nQ iQ 0,sQ none 0 0,sQ none 0 0] 51)) wn from Lau).blk (Blk.new wa _ _);have k0:=he.cell 0;have k1:=he.cell 1;have k2:=he.cell 2;have kf0:=he.frozen 0;have kf1:=he.frozen 1;have kf2:=he.frozen 2;simp at k0 k1 k2;have Hd:=zI he;clear he;have sa:=(Lau:Later w8 wa).size;have sb:=(Lau:Later wa wb).size;have sn:w.heap.size≠wa.heap.size:=by omega
       try go_wp2_with fail
       refine hK.out _ _ (KF.out _ Lau) (λhHeld=>?_);clear hK K
       try simp only [ga,gs,gz,Act.put,sa,sz,ss]
       refine rd 9 λK hK=>?_
       simp only [ga,gs,gz]
       go_simp
       refine hK.out _ _ ?_ (λhHeld=>?_)
       ·(try dsimp only);(refine ⟨?_,?_,?_,?_⟩<;>(repeat (refine qa0 ?_ (by first|omega|(simp;done)|(simp;omega))))<;>(refine Later.cell (Lau:Later w8 _) ?_)<;>assumption)
       clear hK K
       try simp only [ga,gs,gz,Act.put,sa,sz,ss]
       clear KF;refine Zn1 krZ ?_ _;refine Zd1 ?_;have hy:Later w8 wn:=(Lau:Later w8 wn)
       have hf:=PrCut.fill (l:=lv) (cd:=cd2) Hd.out (show w8.heap.size<=wa.heap.size by omega) (show wa.heap.size<wb.heap.size by (have sc:=(show Later (wa.alloc (.cells #[nQ iQ 0,sQ none 0 0,sQ none 0 0] 51)) wb from Lau).size;rw [Zh1] at sc;omega)) hy hw hp m3 m4 m5;rw [List.length_map] at hf;go_wp2_with fail
       go_meet
       exact hf
     ·simp only [ga,gs,gz]
      go_simp
      refine hK.out _ _ (KF.out _ Lau) (λhHeld=>?_);clear hK K
      try simp only [ga,gs,gz,Act.put,sa,sz,ss]
      refine rd 2 λK hK=>?_
      simp only [ga,gs,gz]
      go_simp
      go_at_call 7;(with_reducible refine (gW.out _ (Lau:Later w8 _)).mono ?_);rintro e wa ⟨N2,d2,rfl,hC,hr,HN,gm⟩;have Hi:=zI hC;clear hC
      try go_wp2_with fail
      refine hK.out _ _ (KF.out _ Lau) (λhHeld=>?_);clear hK K
      try simp only [ga,gs,gz,Act.put,sa,sz,ss]
      refine rd 6 λK hK=>?_
      simp only [ga,gs,gz]
      go_simp
      go_at_call 10;(with_reducible refine (H2.out _ (Lau:Later w8 _)).mono ?_);rintro e wb ⟨Ac,ac,rfl,hh,r1,r2,hD,-⟩;have gk:Below _ _ wb:=hD;have hZ:=zI hh;clear hh hD
      try go_wp2_with fail
      refine hK.out _ _ (KF.out _ Lau) (λhHeld=>?_);clear hK K
      try simp only [ga,gs,gz,Act.put,sa,sz,ss]
      refine rd 7 λK hK=>?_
      simp only [ga,gs,gz]
      go_simp
      go_at_call 11;(with_reducible refine (Hr.out _ (Lau:Later w8 _) wa (Lau:Later wa _) wb (Lau:Later wb _) N2 d2 Ac ac Hi.out hr hZ.out r1 r2).mono ?_);rintro e wn ⟨GB2,C2,cd2,rfl,hw,hp,m1,m2,⟨m3,m4,m5⟩,hN⟩;have HA:Below _ _ wn:=hN
      have he:=(show Later ((w8.alloc (.cells #[nQ iQ 0,sQ none 0 0,sQ none 0 0] 51)).drew) wn from Lau).blk (Blk.drew (Blk.new w8 _ _));have k0:=he.cell 0;have k1:=he.cell 1;have k2:=he.cell 2;have kf0:=he.frozen 0;have kf1:=he.frozen 1;have kf2:=he.frozen 2;simp at k0 k1 k2;have Hd:=zI he;clear he;have sa:=(Lau:Later w8 wa).size;have sb:=(Lau:Later wa wb).size;have sn:w.heap.size≠w8.heap.size:=by omega
      try go_wp2_with fail
      refine hK.out _ _ (KF.out _ Lau) (λhHeld=>?_);clear hK K
      try simp only [ga,gs,gz,Act.put,sa,sz,ss]
      refine rd 9 λK hK=>?_
      simp only [ga,gs,gz]
      go_simp
      refine hK.out _ _ ?_ (λhHeld=>?_)
      ·(try dsimp only);(refine ⟨?_,?_,?_,?_⟩<;>(repeat (refine qa0 ?_ (by first|omega|(simp;done)|(simp;omega))))<;>(refine Later.cell (Lau:Later w8 _) ?_)<;>assumption)
      clear hK K
      try simp only [ga,gs,gz,Act.put,sa,sz,ss]
      clear KF;refine Zn1 krZ ?_ _;refine Zd1 ?_;have hy:Later w8 wn:=(Lau:Later w8 wn)
      have hf:=PrCut.fill (l:=lv) (cd:=cd2) Hd.out (show w8.heap.size<=w8.heap.size by omega) (show w8.heap.size<wb.heap.size by (have sc:=(show Later ((w8.alloc (.cells #[nQ iQ 0,sQ none 0 0,sQ none 0 0] 51)).drew) wb from Lau).size;have sd:w8.heap.size+1<=wb.heap.size:=(by simpa using sc);omega)) hy hw hp m3 m4 m5;rw [List.length_map] at hf;go_wp2_with fail
      go_meet
      exact hf
   case rest=>
    obtain ⟨qb,G2,C2,cd2,rfl,hQ,hw,hp,hm⟩:=hcut;clear y0 y1 y2 y3 y4;have gE:=Gc.out.trans hm;have H9:=hm.blk gp.out;have hY:=hm.blk gu.out;have gP:=gZ.out.later hm;have Hq:=gg.out.later hm;have z0:=hY.cell 0;have z1:=hY.cell 1;have z2:=hY.cell 2;have z3:=hY.cell 3;have q0:=hQ.cell 0;have q1:=hQ.cell 1;have q2:=hQ.cell 2;rw [List.length_map,Hx.out] at q1;simp at z0 z1 z2 z3 q0 q1 q2;have Hc:=λ(V:Zp1) (h:Later wc V)=>qdd S C C2 sc cd cd2 gx V Hq.l2 ((Hq.later h).r.2) (hp.below h (lrZ _))
    obtain ⟨Go,gS,gN,gL,GE,HQ,gv,GM,GD⟩:=zd9 gE H9 hY gP Hq hQ hw hp hm;have HO:=zI Hc;clear gE H9 hY gP Hq hQ hw hp hm Hc;clear gp gu gZ gg;go_wp2_with fail;refine (HO.out _ (Later.refl _)).mono ?_;rintro e wd ⟨rfl,hF⟩;have gw:=Go.out.trans hF;have gG:=hF.blk gS.out;have HL:=hF.blk gN.out;have H8:=gL.out.later hF;have gB:=hF.blk HQ.out;have H4:=gv.out.below hF (lrZ _);clear z0 z1 z2 z3 q0 q1 q2;have z1:=HL.cell 1;simp at z1;obtain ⟨GI,gh,g3,g2,g4,Gi,Gk⟩:=zd7 hF gw gG HL H8 gB H4;clear hF gw gG HL H8 gB H4;clear HQ gv gS gN gL;go_wp2_with fail;clear z1
    go_loopw [86] (λi wx=>∃k:Nat,k<=ps.length/\i=nQ iQ (k:Int)/\Later wd wx) (λi _=>ps.length-(intOf i).toNat)
    case atStart=>exact ⟨0,Zt _,rfl,Later.refl _⟩
    case round=>
     obtain ⟨k,hk,rfl,hg⟩:=hrel
     by_cases hz:k<ps.length
     ·as_aux_lemma=>
       have hA:=gh.out.trans hg;have h6:=hg.blk g2.out;have gf:=hg.blk Gi.out;have gt:=hg.blk g3.out;have z1:=h6.cell 1;have q1:=gf.cell 1;rw [List.length_map,Hx.out] at q1;simp at z1 q1;obtain ⟨-,-,y2,-,-⟩:=qaw gt;have H1:k<gd.length:=by rw [Hx.out];exact hz
       obtain ⟨b5,o5,S5,c5,C5,d5,e,-,t0,t1,h9⟩:=(g4.out.later hg).at_ H1;injection e with e;injection e with e3 e4;subst e3 e4
       rw [Zw] at t0 t1;have hJ:k<(gd.map Ten.c).length:=by rw [List.length_map];exact H1
       obtain ⟨b6,o6,S6,c6,e,-,r0,HC,-⟩:=(Gk.out.below hg (lrZ _)) k hJ;injection e with e;injection e with e3 e4;subst e3 e4
       rw [qbi hJ] at r0 HC;rw [Zw] at r0;obtain ⟨b7,o7,S7,c7,C7,d7,rfl,-,p0,p1,HI⟩:=(HP.out.later hA).at_ hz;have hs:=g7.out k hz;have Hc:=λ(V:Zp1) (h:Later wr V)=>qdd S5 C5 S6 c5 d5 c6 (Ly.got gd k) V h9.l2 ((h9.later h).r.2) (HC.below h (lrZ _))
       have HG:=λ(V:Zp1) (h:Later wr V)=>qaY S5 S7 c5 c7 (Ly.got gd k).s (Ly.got ps k).s V (by have:=h9.l1;omega) (by have:=HI.l1;omega) ((h9.later h).r.1) ((HI.later h).r.1)
       rw [decide_eq_true hs] at HG;have j1:(k:Int)<(ps.length:Int):=by omega
       have j2:(0:Int)<=(k:Int):=by omega
       generalize (Ly.got gd k).c.length=n1 at *;generalize (Ly.got gd k).s.length=n2 at *;generalize (Ly.got ps k).s.length=n3 at *;generalize (Ly.got ps k).c.length=n4 at *;obtain ⟨He,HO,Gb,HS⟩:=zd4 hg Hc HG hA;clear hg Hc HG hA;clear h6 gf gt h9 HC HI hs H1 hJ p1;go_wp2_with fail;have KF:=zI (show ∀Xw,Later wr Xw->Xw.cell? ⟨rb,1,none⟩=some (sQ (some ⟨GB,0,none⟩) ps.length ps.length)/\Xw.cell? ⟨GB,k*2,none⟩=some (sQ S5 n2 c5)/\Xw.cell? ⟨GB,k*2+1,none⟩=some (sQ C5 n1 d5)/\Xw.cell? ⟨qb,1,none⟩=some (sQ (some ⟨G2,0,none⟩) ps.length ps.length)/\Xw.cell? ⟨G2,k,none⟩=some (sQ S6 n1 c6)/\Xw.cell? ⟨w.heap.size,2,none⟩=some (sQ (some ⟨b7,o7,none⟩) ps.length cp)/\Xw.cell? ⟨b7,o7+k*2,none⟩=some (sQ S7 n3 c7) from λXw h=>⟨h.cell z1,h.cell t0,h.cell t1,h.cell q1,h.cell r0,h.cell y2,h.cell p0⟩);refine Zm1 ?_;refine Zl1 (S:=λXw=>Xw.cell? ⟨rb,1,none⟩=some (sQ (some ⟨GB,0,none⟩) ps.length ps.length)/\Xw.cell? ⟨GB,k*2,none⟩=some (sQ S5 n2 c5)/\Xw.cell? ⟨GB,k*2+1,none⟩=some (sQ C5 n1 d5)/\Xw.cell? ⟨qb,1,none⟩=some (sQ (some ⟨G2,0,none⟩) ps.length ps.length)/\Xw.cell? ⟨G2,k,none⟩=some (sQ S6 n1 c6)/\Xw.cell? ⟨w.heap.size,2,none⟩=some (sQ (some ⟨b7,o7,none⟩) ps.length cp)/\Xw.cell? ⟨b7,o7+k*2,none⟩=some (sQ S7 n3 c7)) krZ (KF.out _ Lau) (λhHeld=>?_);refine tk 0 ?_;refine tk 1 ?_;refine tk 2 ?_;refine tk 3 ?_;refine tk 4 ?_;refine tk 5 ?_;refine tk 6 ?_;refine tk 7 ?_;refine tk 8 ?_;refine tk 9 ?_;refine rd 10 λK hK=>?_
       simp only [ga,gs,gz]
       go_simp
       go_at_call 12;(with_reducible refine (HO.out _ (Lau:Later wr _)).mono ?_);rintro e wa ⟨rfl,hv⟩;have gm:Below _ _ wa:=hv
       try go_wp2_with fail
       refine hK.out _ _ (KF.out _ Lau) (λhHeld=>?_);clear hK K
       try simp only [ga,gs,gz,Act.put,sa,sz,ss]
       refine tk 11 ?_;refine tk 12 ?_;refine tk 13 ?_;refine tk 14 ?_;refine tk 15 ?_;refine tk 16 ?_;refine tk 17 ?_;refine tk 18 ?_;refine tk 19 ?_;refine tk 20 ?_;refine tk 21 ?_;refine tk 22 ?_;refine tk 23 ?_;refine tk 24 ?_;refine rd 25 λK hK=>?_
       simp only [ga,gs,gz]
       go_simp
       go_at_call 13;(with_reducible refine (Gb.out _ (Lau:Later wr _)).mono ?_);rintro e wb ⟨rfl,qn,rfl⟩
       try go_wp2_with fail
       refine hK.out _ _ (KF.out _ Lau) (λhHeld=>?_);clear hK K
       try simp only [ga,gs,gz,Act.put,sa,sz,ss]
       refine tk 26 ?_;refine tk 27 ?_;clear KF;refine Zn1 krZ ?_ _;refine Zd1 ?_;have gX:Later wr (wa.drewN qn):=Lau;clear z1 q1 y2 t0 t1 r0 p0;have g9:=zI gX;clear gX;go_wp2_with fail;go_roundw
       case rel=>exact ⟨k+1,by omega,by go_num,He.out.trans g9.out⟩
       case measure=>simp [intOf];omega
     ·obtain rfl:k=ps.length:=by omega
      have hA:=gh.out.trans hg;obtain ⟨HS,He⟩:=zd2 hA hg;clear hA hg;go_wp2_with fail;refine (qdu _).mono ?_;rintro e w9 ⟨rfl,Gj⟩;go_wp2_with fail;go_ret;exact ⟨rfl,HS.out.call Gj⟩
end Go.Proofs.YtimfcikmpllbpaaGreat
namespace Go.Proofs.YtimfcikmpllbpaaGreat.plainRuns
set_option maxHeartbeats 16000000
set_option maxRecDepth 20000
open Go.ChangeShapes Go.WideShapes Go.ChangeAt Go.RowKit
open Go.ChangeMaps (open_string shut_string)
theorem own:ownKnob Tryz.prog.godebug=none:=by kernel_rfl
theorem laidOut:laidOutB Tryz.prog=true:=by kernel_rfl
set_option maxRecDepth 100000 in
theorem lifted (os:Os) (started:os.Started) (H:Type) (enc:TypeId × Value->H) (Fi:Stop.Interp):
  ReturnsInHanded {} Tryz.checked os 3 .any ((Rows.OpenSpec.upto Rows.plainRunsSpec).pre6 enc Tryz.prog Tryz.f3 Rows.plainRunsUptoRow.domain false) (((Rows.OpenSpec.upto Rows.plainRunsSpec).at Fi).post enc Tryz.prog Tryz.f3 false true false false):=by
 refine returnsInHanded_of_cond (C:=Tryz.checked) (s:=Rows.OpenSpec.upto Rows.plainRunsSpec) (k:=Rows.uptoSmall) rfl own started krZ Tryz.func3
  (OpenSpec.witness (enc:=enc) (C:=Tryz.checked) (s:=Rows.OpenSpec.upto Rows.plainRunsSpec) (k:=Rows.uptoSmall) rfl false ⟨#[],#[.agg #[sQ none 0 0,sQ none 0 0,sQ none 0 0,sQ none 0 0,sQ none 0 0]],[]⟩ 8 krZ krZ krZ
   (x:=([.agg [.agg [.nil,.nil],.nil,.agg [.nil,.nil]]],[],[])) krZ rfl krZ) ?_
 intro W base args ds gs before ha hW hl hb _;have hc:∀(j:Nat) t v,Tryz.f3.params[j]? = some t->args[j]? = some v->Value.okWide Tryz.prog W .any base t v:=ha;have hk:=hW;obtain ⟨p,q,hg,hV,rfl,hs,ht⟩:=hW;have hA:DataW.TrodAll enc Tryz.prog W 0 (λ_=>true) true Tryz.f3.params.toList args.toList ds p:=hg;rw [Tryz.params3] at hA hc;obtain ⟨v0,vs0,d0,ds0,p0,q0,hh,rfl,rfl,h0,r0⟩:=trodAll_cons hA;obtain ⟨rfl,rfl,rfl⟩:=trodAll_nil r0;obtain rfl:args=#[v0]:=by cases args;simp_all
 obtain ⟨rfl,rfl⟩:=trodVars_none hV;have hn:Rows.uptoBulkAll ([d0]++[])<=1048576:=of_decide_eq_true hb;have hq:Rows.uptoBulk d0<=1048576:=Zv (qee sZ) hn;have k0:=h0;have lt0:∀x∈p0,x.block<W.heap.size:=by obtain ⟨m,hm⟩:=k0;exact DataW.trod_lt m _ _ _ hm
 obtain ⟨A0,N0,P0,S0,C0,c10,c20,cp0,xc0,xd0,n0,ps0,x0,rfl,hd,hj,hp,ho,hf,hr,lP0,kP0,mP0,nP0,hi⟩:=qfL (hc 0 32 v0 rfl rfl) h0 hq;clear hg ha;refine (qdx W A0 N0 P0 S0 C0 c10 c20 cp0 xc0 xd0 n0 ps0 x0 hd hj hp ho hf hr lP0 kP0 mP0 nP0 hi).mono λe W' ⟨he,bel⟩=>?_
 subst he;exact ⟨_,rfl,_,_,_,[],_,[],hk,trodAll_mk1 (shut_bool Tryz.underlying4 _),(trodAll_cons_mk (Below.trod laidOut krZ (of_decide_eq_true krZ) k0 bel lt0) trodAll_mk0),rfl,bel.frame _,λh=>by cases h⟩
theorem over:Rows.plainRunsUptoRow.holds Tryz.pinned (Rows.OpenSpec.upto Rows.plainRunsSpec):=
 OpenClaim.holds_of_cond 3 Tryz.f3 rfl rfl rfl rfl rfl rfl rfl ⟨rfl,rfl,rfl,rfl,rfl⟩ rfl rfl rfl rfl rfl krZ Tryz.func3 krZ
  (of_decide_eq_true krZ) (by unfold Func.isWrapper;first|(rw [ipZ (by decide +kernel)];kernel_rfl)|(rw [inZ (by decide +kernel)];exact ⟨rfl,rfl⟩))
  (λos started H enc _ Fi=>lifted os started H enc Fi)
end Go.Proofs.YtimfcikmpllbpaaGreat.plainRuns
namespace Go.Proofs.YtimfcikmpllbpaaGreat
theorem plainRuns_holds:Rows.PlainRunsUptoSaid:=plainRuns.over
#print axioms plainRuns_holds
end Go.Proofs.YtimfcikmpllbpaaGreat
