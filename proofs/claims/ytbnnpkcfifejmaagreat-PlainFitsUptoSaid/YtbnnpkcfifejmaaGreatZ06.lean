/- Lemmas for the statements of this seat: contracts of functions and the plain laws. -/
import Derived.Deep.DeepCutAuto
import Derived.Laws.CopyOwn
import Derived.Lib.SliceRun
import Derived.Test.YtbnnpkcfifejmaaGreatZ05
set_option linter.unusedVariables false
open List renaming take_succ_eq_append_getElem → Zb, replicate → Zc, drop_eq_getElem_cons → Zd, length_append → Ze, all_eq_true → Zf, take_length → Zg, mem_of_mem_take → Zh, getElem?_eq_none → Zi, flatMap_append → Zj, getElem?_toArray → Zk, getElem?_append_right → Zl, getElem?_append_left → Zm, take_append_drop → Zn, length_take → Zo, mem_of_mem_drop → Zp, length_drop → Zq, getElem?_set_self → Zr, getElem?_set_ne → Zs
open Nat renaming zero_le → Zt, succ_mul → Zu, le_trans → Zv, zero_add → Zw, add_zero → Zx, le_succ → Zy
open Bool renaming and_eq_true → Zz
open Go.Value renaming int → Za1, slice → Zb1
open Go.IntWalk renaming i64_in → Zc1
open Go.NoPanic renaming normal → Zd1
open Go.RowKit.Below renaming refl → Ze1
open Go.AllReadyH renaming cons → Zf1, nil → Zg1
open Go.World renaming size_alloc → Zh1, cell?_of_block → Zi1, block_lt_of_cell? → Zj1
open Go renaming bodyPost_ret → Zk1, wp_region_held_drew → Zl1, wp_region_noPanic → Zm1, wpAnyH_done → Zn1, wpAnyH_ready → Zo1, World → Zp1
namespace Go.Proofs.YtbnnpkcfifejmaaGreat
set_option maxHeartbeats 16000000
open Go.RowKit
namespace Pn
def parts (n:NetD) (ps:List Ten) (id:Int):List Ten:=(ps.drop (from_ n.nodes (id.toNat-1))).take ((Nt.node n.nodes id).p.length)
def step (n:NetD) (ps vals:List Ten) (id:Int):Ten × Int:=Ly.go (Nt.node n.nodes id).op (parts n ps id) (pickT vals (Nt.node n.nodes id).ins)
def fwd (n:NetD) (ps:List Ten):List Ten->List Int->List Ten × Int
 | vals,[]=>(vals,0)
 | vals,id::r=>if (step n ps vals id).2=0 then fwd n ps (vals.set id.toNat (step n ps vals id).1) r else ([],(step n ps vals id).2)
def forward (n:NetD) (ps:List Ten) (x:Ten):List Ten × Int:=
 if fits n ps x≠0 then ([],fits n ps x) else fwd n ps (x::Zc n.nodes.length Ly.none_) (Nt.sorted n.nodes)
theorem fits_ok {n:NetD} {ps:List Ten} {x:Ten} (h:fits n ps x=0):Nt.check n=0/\ps.length=(Nt.params n).length/\parOk ps (Nt.params n) (Nt.params n).length=true/\tenIs x n.inn=true:=by
 unfold fits at h
 split at h
 ·rename_i hc;exact absurd h hc
 ·rename_i hc
  split at h
  ·simp at h
  ·rename_i hl
   split at h
   ·simp at h
   ·rename_i hp
    split at h
    ·rename_i hx;exact ⟨by omega,by omega,by simpa using hp,hx⟩
    ·simp at h
theorem go_bad {o:OpD} {p x:List Ten} (h:(Ly.go o p x).2≠0):(Ly.go o p x).1=Ly.none_:=by
 unfold Ly.go at h ⊢
 split at h
 ·rename_i hc
  rw [if_pos hc];exact Ly.lay_none (Od.right_kind (Ly.counts_ok hc).1).2 h
 ·rename_i hc;rw [if_neg hc]
theorem from_le {ns:List NodeD} {k:Nat}:from_ ns k<=(ns.flatMap (·.p)).length:=by
 unfold from_;have:ns.flatMap (·.p)=(ns.take k).flatMap (·.p)++(ns.drop k).flatMap (·.p):=by rw [←Zj,Zn]
 rw [this,Ze];omega
theorem tenIs_ok {t:Ten} {s:List Int} (h:tenIs t s=true):Tn.right t=true/\t.s=s:=by
 unfold tenIs at h;rw [Zz] at h;exact ⟨h.1,by simpa using h.2⟩
end Pn
def FwdP (r:List Ten × Int) (w:Zp1) (e:Ending) (w':Zp1):Prop:=
 (r.2≠0/\e=.returned (.tuple #[.slice none 0 0,.int .i64 r.2])∨r.2=0/\∃G,e=.returned (.tuple #[.slice (some ⟨G,0,none⟩) r.1.length r.1.length,.int .i64 0])/\TnsO w.heap.size w' (some ⟨G,0,none⟩) r.1)/\Below w.heap.size w w'
theorem FwdP.fail {n:Int} {r:List Ten × Int} {w w':Zp1} (hr:r.2=n) (hn:n≠0) (hb:Below w.heap.size w w'):FwdP r w (.returned (.tuple #[.slice none 0 0,.int .i64 n])) w':=by
 subst hr;exact ⟨.inl ⟨hn,rfl⟩,hb⟩
set_option maxRecDepth 20000 in
theorem qaP (A N P XS XC:Option Addr) (c d cp xc xd:Nat) (n:NetD) (ps:List Ten) (x:Ten) (w:Zp1) (hok:n.ok) (hR:NetR w A N n) (hd:n.nodes.length<=d) (hP:Tns w P ps) (lP:ps.length<=1048576) (kP:ps.length<=cp) (mP:cp<=9223372036854775807) (nP:P=none->cp=0) (hX:TenIn w XS XC xc xd x):
  Calls Tryz.prog 23 #[.agg #[.slice A n.inn.length c,.slice N n.nodes.length d],.slice P ps.length cp,.agg #[.slice XS x.s.length xc,.slice XC x.c.length xd]] w (FwdP (Pn.forward n ps x) w):=by
 have gI:=(Blk.new w 59 #[.slice A n.inn.length c,.slice N n.nodes.length d]).alloc (.cells #[.slice XS x.s.length xc,.slice XC x.c.length xd] 30);have H0:=Blk.new (w.alloc (.cells #[.slice A n.inn.length c,.slice N n.nodes.length d] 59)) 30 #[.slice XS x.s.length xc,.slice XC x.c.length xd];rw [Zh1] at H0;have gN:Later w ((w.alloc (.cells #[.slice A n.inn.length c,.slice N n.nodes.length d] 59)).alloc (.cells #[.slice XS x.s.length xc,.slice XC x.c.length xd] 30)):=((Later.refl w).alloc _).alloc _;obtain ⟨Ht,HR,HP,HX,HU,HL,HC,Ga⟩:=zd8 hok hR hP hX gI H0 gN nP;clear hok hR hP hX gI H0 gN nP;go_enter Tryz.func23,Tryz.ntmps23;go_upto_region 1 with fail;generalize (w.alloc (.cells #[.slice A n.inn.length c,.slice N n.nodes.length d] 59)).alloc (.cells #[.slice XS x.s.length xc,.slice XC x.c.length xd] 30)=w1 at *;have a0:=HU.out.cell 0;have a1:=HU.out.cell 1;have b0:=HL.out.cell 0;have b1:=HL.out.cell 1;simp at a0 a1 b0 b1;go_wp2_with fail;refine (qd1 A N P XS XC c d cp xc xd n ps x w1 Ht.out (HR.out.below HC.out (lrZ _)) hd (HP.out.later HC.out) lP (HX.out.later HC.out)).mono ?_;rintro e w2 ⟨rfl,gW⟩;have hA:Later w1 w2:=gW;have Hu:=HC.out.trans hA;have hD:=hA.blk HU.out;have HA:=hA.blk HL.out;clear gW a0 a1 b0 b1
 by_cases hf:Pn.fits n ps x=0
 case neg=>
  have HE:=zI (show (Pn.forward n ps x).2=Pn.fits n ps x by unfold Pn.forward;rw [if_pos hf]);have d2:(Pn.fits n ps x != 0)=true:=by simpa using hf
  have Hf:=zI hf;clear hf;generalize Pn.fits n ps x=ge at *;obtain ⟨Gc,HK,gl,gC⟩:=zd4 hA Hu hD HA;clear hA Hu hD HA;go_wp2_with fail;refine Zk1 (v:=.tuple #[.slice none 0 0,.int .i64 ge]) (by simp [results,Tryz.results23,go_sem]) rfl ?_;exact FwdP.fail HE.out Hf.out HK.out
 have he:Pn.forward n ps x=Pn.fwd n ps (x::Zc n.nodes.length Ly.none_) (Nt.sorted n.nodes):=by unfold Pn.forward;rw [if_neg oZ]
 obtain ⟨hc,gj,-,gR⟩:=Pn.fits_ok hf;obtain ⟨n1,n5,-,hn,h7,-,-,-⟩:=Nt.check_ok hc;obtain ⟨gP,Gp⟩:=Pn.tenIs_ok gR;obtain ⟨x4,x6⟩:=Ly.right_ok gP;have Hm:=Nt.bads_all hn;rw [hf];clear hf gR Gp gP hn;have a0:=hD.cell 0;have a1:=hD.cell 1;simp at a0 a1;obtain ⟨Gc,HK,gl,gC,He,H1,Gb,Hv⟩:=zd8 hA Hu hD HA he Hm gj h7;clear hA Hu hD HA he Hm gj h7;go_wp2_with fail;refine (qdM A N c d n w2 Ht.out (HR.out.below HK.out (lrZ _)) hd).mono ?_;rintro e w3 ⟨gG,⟨-,O,oc,rfl,hO,GL,GK⟩|⟨hn,-⟩⟩
 rotate_left
 ·exact absurd hc hn
 have Hl:Later w2 w3:=gG;have H2:=HK.out.trans Hl;have HQ:=Hl.blk gl.out;have gV:=Hl.blk gC.out;clear gG a0 a1 hc;have a1:=HQ.cell 1;simp at a1;have q1:IntKind.i64.wrap ((n.nodes.length:Int)+1)=(n.nodes.length:Int)+1:=Zc1 _ oZ;have gM:=H2.size;obtain ⟨GP,HH,hM,Gx,HO⟩:=zd5 Hl H2 HQ gV hO;clear Hl H2 HQ gV hO;obtain ⟨i0,hi,g7,gJ,gT⟩:=info_parts qb2;go_wp2_with (at_make;refine wpList_make_full _ rfl _ _ 27 rfl w.heap.size 30 i0 (.agg #[.slice none 0 0,.slice none 0 0]) 2 Tryz.underlying27 hi g7 gJ _ _ _ _ (n.nodes.length+1) rfl rfl (by first|rfl|simp) (by first|rfl|simp) ?b2 ?b3 gM ?_)
 case b2=>rw [gT];omega
 case b3=>unfold maxLen;omega
 intro w4 hown hgrow;clear hi g7 gJ gT
 have h6:Blk w4 w3.heap.size 30 (Zc ((n.nodes.length+1)*2) (Zb1 none 0 0)).toArray:=by
  have h:=qc7 hown;rw [qb3] at h;exact h
 have Hj:Later w3 w4:=(Ze1 _ w3).grown hgrow (lrZ _) sZ;clear hown hgrow a1;have gt:=HH.out.trans Hj;have gy:=Hj.blk hM.out;have HJ:=Hj.blk Gx.out;have b0:=HJ.cell 0;have b1:=HJ.cell 1;simp at b0 b1;obtain ⟨hz,gu,HY,GV,GJ⟩:=zd5 h6 Hj gt gy HJ;clear h6 Hj gt gy HJ;go_wp2_with fail;refine (qa8 XS XC xc xd x w4 oZ oZ (HX.out.later HY.out).r).mono ?_;rintro e w5 ⟨v,rfl,hN,hE⟩;have H9:Later w4 w5:=hE;have Hz:=hN.o (B:=w4.heap.size) oZ oZ HX.out.num;obtain ⟨gx,hx,rfl,-,-,-,-⟩:=hN;have hb:=H9.blk hz.out;have r0:=hb.cell 0;have r1:=hb.cell 1;have f0:=hb.frozen 0;have f1:=hb.frozen 1;have e0:w5.cell? ⟨w3.heap.size,0,none⟩=some (.slice none 0 0):=by rw [r0,Zk,List.getElem?_replicate,if_pos oZ]
 have e1:w5.cell? ⟨w3.heap.size,1,none⟩=some (.slice none 0 0):=by rw [r1,Zk,List.getElem?_replicate,if_pos oZ]
 have HM:w.heap.size<=w4.heap.size:=HY.out.size;have Gq:w3.heap.size<w4.heap.size:=hz.out.lt;have h0:TenO w.heap.size w5 (.agg #[.slice (some ⟨gx,0,none⟩) x.s.length x.s.length,.slice (some ⟨hx,0,none⟩) x.c.length x.c.length]) x:=Hz.base HM
 have Gs:gx≠w3.heap.size:=by
  obtain ⟨S',c',C',d',e,-,h1,-⟩:=Hz;simp at e;have:=h1 _ e.1.1.symm;simp at this;omega
 have Gi:hx≠w3.heap.size:=by
  obtain ⟨S',c',C',d',e,-,-,h1⟩:=Hz;simp at e;have:=(h1 _ e.2.1.symm).1;simp at this;omega
 clear hE r0 r1 b0 b1 Hz;have hq:=(hb.set_ 0 (.slice (some ⟨gx,0,none⟩) x.s.length x.s.length)).set_ 1 (.slice (some ⟨hx,0,none⟩) x.c.length x.c.length);obtain ⟨gY,hY,Hg,hs⟩:=zd4 H9 hb h0 hq;clear H9 hb h0 hq;go_wp2_with fail;have Gg:(w5.setCell ⟨w3.heap.size,0,none⟩ (.slice (some ⟨gx,0,none⟩) x.s.length x.s.length)).setCell ⟨w3.heap.size,1,none⟩ (.slice (some ⟨hx,0,none⟩) x.c.length x.c.length)=(w5.setCell ⟨w3.heap.size,0,none⟩ (.slice (some ⟨gx,0,none⟩) x.s.length x.s.length)).setCell ⟨w3.heap.size,1,none⟩ (.slice (some ⟨hx,0,none⟩) x.c.length x.c.length):=rfl
 have hQ:TenO w.heap.size ((w5.setCell ⟨w3.heap.size,0,none⟩ (.slice (some ⟨gx,0,none⟩) x.s.length x.s.length)).setCell ⟨w3.heap.size,1,none⟩ (.slice (some ⟨hx,0,none⟩) x.c.length x.c.length)) (.agg #[.slice (some ⟨gx,0,none⟩) x.s.length x.s.length,.slice (some ⟨hx,0,none⟩) x.c.length x.c.length]) x:=by
  refine TenO.far2 Hg.out (λa e=>?_) (λa e=>?_)
  ·injection e with e;subst e;exact Gs
  ·injection e with e;subst e;exact Gi
 have gQ:Later w3 ((w5.setCell ⟨w3.heap.size,0,none⟩ (.slice (some ⟨gx,0,none⟩) x.s.length x.s.length)).setCell ⟨w3.heap.size,1,none⟩ (.slice (some ⟨hx,0,none⟩) x.c.length x.c.length)):=((gu.out.trans gY.out).set (p:=⟨w3.heap.size,0,none⟩) (lrZ _) _).set (p:=⟨w3.heap.size,1,none⟩) (lrZ _) _
 have gF:RowO w.heap.size ((w5.setCell ⟨w3.heap.size,0,none⟩ (.slice (some ⟨gx,0,none⟩) x.s.length x.s.length)).setCell ⟨w3.heap.size,1,none⟩ (.slice (some ⟨hx,0,none⟩) x.c.length x.c.length)) (((Zc ((n.nodes.length+1)*2) (Zb1 none 0 0)).set (0*2) (.slice (some ⟨gx,0,none⟩) x.s.length x.s.length)).set (0*2+1) (.slice (some ⟨hx,0,none⟩) x.c.length x.c.length)) (x::Zc n.nodes.length Ly.none_):=by
  have:=(RowO.zeros w.heap.size ((w5.setCell ⟨w3.heap.size,0,none⟩ (.slice (some ⟨gx,0,none⟩) x.s.length x.s.length)).setCell ⟨w3.heap.size,1,none⟩ (.slice (some ⟨hx,0,none⟩) x.c.length x.c.length)) (n.nodes.length+1)).set (k:=0) sZ hQ
  rwa [List.replicate_succ,List.set_cons_zero] at this
 have Hk:Blk ((w5.setCell ⟨w3.heap.size,0,none⟩ (.slice (some ⟨gx,0,none⟩) x.s.length x.s.length)).setCell ⟨w3.heap.size,1,none⟩ (.slice (some ⟨hx,0,none⟩) x.c.length x.c.length)) w3.heap.size 30 (((Zc ((n.nodes.length+1)*2) (Zb1 none 0 0)).set (0*2) (.slice (some ⟨gx,0,none⟩) x.s.length x.s.length)).set (0*2+1) (.slice (some ⟨hx,0,none⟩) x.c.length x.c.length)).toArray:=by
  have:=hs.out;rw [List.setIfInBounds_toArray,List.setIfInBounds_toArray] at this;exact this
 clear Gg hs hY Hg hQ gY gu HY hz;obtain ⟨gk,g6,gr⟩:=zd3 gF Hk gQ;clear gF Hk gQ;generalize (w5.setCell ⟨w3.heap.size,0,none⟩ (.slice (some ⟨gx,0,none⟩) x.s.length x.s.length)).setCell ⟨w3.heap.size,1,none⟩ (.slice (some ⟨hx,0,none⟩) x.c.length x.c.length)=w6 at *
 go_loopw [45] (λi wx=>∃(k:Nat) (vs:List Value) (vals:List Ten),k<=n.nodes.length/\i=.int .i64 (k:Int)/\Blk wx w3.heap.size 30 vs.toArray/\RowO w.heap.size wx vs vals/\vals.length=n.nodes.length+1/\Later w3 wx/\Pn.forward n ps x=Pn.fwd n ps vals ((Nt.sorted n.nodes).drop k)) (λi _=>n.nodes.length-(intOf i).toNat)
 case atStart=>exact ⟨0,_,_,Zt _,rfl,g6.out,gk.out,by simp,gr.out,He.out⟩
 case round=>
  obtain ⟨k,vs,vals,hk,rfl,hG,HB,hB,hl,hF⟩:=hrel;clear g6 gk gr
  by_cases Gu:k<n.nodes.length
  ·have HI:k<(Nt.sorted n.nodes).length:=by rw [Hv.out];exact Gu
   obtain ⟨bo,oo,rfl,-,H4⟩:=(HO.out.below hl (lrZ _)) k HI;have h5:=Kn.order_rng (Nt.insF n.nodes) n.nodes.length _ (gmZ HI);have gO:(Nt.sorted n.nodes).getD k 0=(Nt.sorted n.nodes)[k]:=by rw [gdZ,geZ HI];rfl
   rw [gO] at H4;rw [Zd HI] at hF;have ho:1<=(Nt.sorted n.nodes)[k]/\(Nt.sorted n.nodes)[k]<=n.nodes.length:=h5;clear h5 gO;obtain ⟨j,hj⟩:∃j:Nat,(Nt.sorted n.nodes)[k]=(j:Int)+1:=⟨((Nt.sorted n.nodes)[k]-1).toNat,by omega⟩
   rw [hj] at H4 hF ho;have Hn:j<n.nodes.length:=by omega
   clear hj;obtain ⟨b,off,S,sc,J,ic,Q,qc,rfl,HW,GU,GT,GE⟩:=HR.out.2.at_ Hn;have gh:=Nt.node_at Hn;have hU:=Ht.out.2.2 _ (gmZ Hn);have Ho:=(H1.out _ (gmZ Hn)).2;have gS:=Pn.from_succ Hn;have hL:Pn.from_ n.nodes (j+1)<=ps.length:=by rw [Gb.out];exact Pn.from_le
   have g9:Pn.step n ps vals ((j:Int)+1)=Ly.go n.nodes[j].op ((ps.drop (Pn.from_ n.nodes j)).take n.nodes[j].p.length) (Pn.pickT vals n.nodes[j].ins):=by
    unfold Pn.step Pn.parts;rw [gh,show ((j:Int)+1).toNat-1=j by omega]
   have H8:Pn.part n ((j:Int)+1)=((Pn.from_ n.nodes j:Int),(Pn.from_ n.nodes (j+1):Int)):=by
    unfold Pn.part;rw [if_neg oZ,show ((j:Int)+1).toNat=j+1 by omega]
    rfl
   rw [gS] at H8 hL;clear gS gh;generalize n.nodes[j]=v at *;generalize Pn.from_ n.nodes j=fr at *;have H3:=HH.out.trans hl;have GA:=HW.below H3;obtain ⟨⟨y0,y1,y2,y3,y4,y5,y6,y7,y8,y9⟩,gL,gK,gD⟩:=GA;have a0:=(hl.blk hM.out).cell 0;have a1:=(hl.blk hM.out).cell 1;simp at a0 a1;have g1:(k:Int)<(n.nodes.length:Int):=by omega
   have g2:(j:Int)<(n.nodes.length:Int):=by omega
   have g3:IntKind.i64.wrap ((j:Int)+1-1)=(j:Int):=by rw [show (j:Int)+1-1=(j:Int) by omega];exact Zc1 _ oZ
   have g4:(j:Int)+1-1=(j:Int):=by omega
   have g5:IntKind.i64.wrap (j:Int)=(j:Int):=Zc1 _ oZ;have gZ:=hl.alloc (.cells #[.int .i64 v.op.kind,.int .i64 v.op.k,.int .i64 v.op.width,.int .i64 v.op.step,.int .i64 v.op.side,.int .i64 v.op.frm,.int .i64 v.op.to,.slice S v.op.s.length sc,.slice J v.ins.length ic,.slice Q v.p.length qc] 127);have Hc:=(Later.refl wr).alloc (.cells #[.int .i64 v.op.kind,.int .i64 v.op.k,.int .i64 v.op.width,.int .i64 v.op.step,.int .i64 v.op.side,.int .i64 v.op.frm,.int .i64 v.op.to,.slice S v.op.s.length sc,.slice J v.ins.length ic,.slice Q v.p.length qc] 127);have gv:=Blk.new wr 127 #[.int .i64 v.op.kind,.int .i64 v.op.k,.int .i64 v.op.width,.int .i64 v.op.step,.int .i64 v.op.side,.int .i64 v.op.frm,.int .i64 v.op.to,.slice S v.op.s.length sc,.slice J v.ins.length ic,.slice Q v.p.length qc];have gE:=hG.alloc (.cells #[.int .i64 v.op.kind,.int .i64 v.op.k,.int .i64 v.op.width,.int .i64 v.op.step,.int .i64 v.op.side,.int .i64 v.op.frm,.int .i64 v.op.to,.slice S v.op.s.length sc,.slice J v.ins.length ic,.slice Q v.p.length qc] 127);obtain ⟨HG,hH,hI,gU,Ge,GO,gd,HV,Gy⟩:=zd9 hG HB hB hl hF HW hU Ho g9;obtain ⟨GD,gn,GH,Gn,GS,H5,Gw,GM,gf⟩:=zd9 H8 H3 gL gK gD gZ gv gE Hc;clear hG HB hB hl hF HW hU Ho g9 H8 H3 gL gK gD gZ gv gE Hc;clear ho;go_upto_region 13 with fail;generalize hwb:wr.alloc (.cells #[.int .i64 v.op.kind,.int .i64 v.op.k,.int .i64 v.op.width,.int .i64 v.op.step,.int .i64 v.op.side,.int .i64 v.op.frm,.int .i64 v.op.to,.slice S v.op.s.length sc,.slice J v.ins.length ic,.slice Q v.p.length qc] 127)=wb at *;have a0b:=(H5.out.blk hM.out).cell 0;have a1b:=(H5.out.blk hM.out).cell 1;simp at a0b a1b;have gH:=HR.out.below (HH.out.trans H5.out) (lrZ _);clear hwb a0 a1 y0 y1 y2 y3 y4 y5 y6 y7 y8 y9 g1 g3 g4 g5 H4;have Gl:=zI gH;clear gH;go_wp2_with fail;refine (qd4 A (some ⟨b,off,none⟩) c d n ((j:Int)+1) wb Ht.out Gl.out hd oZ oZ).mono ?_;rintro e wp ⟨rfl,gX⟩
   rw [GD.out];have Hx:Later wb wp:=gX;have HT:Later wr wb:=gf.out;have hv:=HT.trans Hx;have gg:=gn.out.trans hv;have ha:=Hx.blk Gw.out;have HZ:=hv.blk HG.out;have g0:=hH.out.rowT.tnsB hv HZ;have hB:=hI.out
   have Hb:∀i∈v.ins,0<=i/\i<vals.length:=λi hi=>by
    have:=HV.out i hi;rw [hB];omega
   obtain ⟨vo1,vo2,vo3,vo4,-,-⟩:=gd.out;have hh:=λ(W:Zp1) (h:Later wp W)=>qd5 (some ⟨w3.heap.size,0,none⟩) J (n.nodes.length+1) ic vals v.ins W (g0.later h) oZ (Gn.out.below (hv.trans h) (lrZ _)) vo3 Hb
   rw [hB] at hh;have hw:((ps.drop fr).take v.p.length).length=v.p.length:=by simp;omega
   have Hs:(Pn.pickT vals v.ins).length=v.ins.length:=by simp [Pn.pickT]
   have HN:=λ(W:Zp1) (h:Later wp W) (PP K:Option Addr) (pc:Nat) (hPP:Tns W PP ((ps.drop fr).take v.p.length)) (hK:Tns W K (Pn.pickT vals v.ins))=>qac (op_go v.op S PP K sc pc (Pn.pickT vals v.ins).length ((ps.drop fr).take v.p.length) (Pn.pickT vals v.ins) W vo2 (GH.out.below (hv.trans h) (lrZ _)) (vo1 _ sZ) hPP hK (by rw [Hs];exact vo3) (lrZ _) (by rw [Hs];omega)) Pn.go_bad
   rw [←Gy.out,hw] at HN;have x0:=ha.cell 0;have x1:=ha.cell 1;have x2:=ha.cell 2;have x3:=ha.cell 3;have x4:=ha.cell 4;have x5:=ha.cell 5;have x6:=ha.cell 6;have x7:=ha.cell 7;have x8:=ha.cell 8;simp at x0 x1 x2 x3 x4 x5 x6 x7 x8
   have h8:Pn.forward n ps x=if (Pn.step n ps vals ((j:Int)+1)).2=0 then Pn.fwd n ps (vals.set (j+1) (Pn.step n ps vals ((j:Int)+1)).1) ((Nt.sorted n.nodes).drop (k+1)) else ([],(Pn.step n ps vals ((j:Int)+1)).2):=by
    have:=Ge.out;rw [Pn.fwd,show ((j:Int)+1).toNat=j+1 by omega] at this;exact this
   generalize Pn.step n ps vals ((j:Int)+1)=R at *;have Gd:=gg.size;clear gX Hb g0 a0b a1b;have u1:(fr:Int)<=(fr:Int)+(v.p.length:Int):=by omega
   have u2:(fr:Int)+(v.p.length:Int)<=(cp:Int):=by omega
   have u6:((fr:Int)+(v.p.length:Int)).toNat-fr=v.p.length:=by omega
   have GR:wr.heap.size<wp.heap.size:=ha.lt;obtain ⟨g8,Gv,GN,GI,Gk,hp,Go,GG,GW⟩:=zd9 ha HZ HT hv gg hh HN hw Hs;obtain ⟨GX,hS⟩:=zd2 Hx h8;clear ha HZ HT hv gg hh HN hw Hs Hx h8;go_upto_region 14 with fail
   go_cut [17,18] (FwCut wp w.heap.size R)
   case first=>
    obtain ⟨PP,hPP⟩:∃PP,(if cp=fr then P else P.map λa=>a.add (fr*2))=PP:=⟨_,rfl⟩
    have gm:∀W,Tns W P ps->Tns W PP ((ps.drop fr).take v.p.length):=λW h=>by
     have:=qd3 (fr:=fr) (tl:=fr+v.p.length) h kP Ga.out oZ hL;rw [hPP,Nat.add_sub_cancel_left] at this;exact this
    have h7:∀(ρ:Operand->Value) (W:Zp1) (o:Oper) (x lo hi:Operand),o.op=.slice 27 x (some lo) (some hi) none->ρ x=.slice P ps.length cp->ρ lo=.int .i64 (fr:Int)->ρ hi=.int .i64 ((fr:Int)+(v.p.length:Int))->(execOp ρ o).run Tryz.prog W=.ok (.value (.slice PP v.p.length (cp-fr))) W:=λρ W o x lo hi h1 h2 h3 h4=>by
     rw [←hPP];exact qaW h1 Tryz.underlying27 krZ h2 h3 h4 oZ
    have gq:=λ(W:Zp1) (h:Later wp W) (V:Zp1) (Kp:Nat) (hK:Tns V (some ⟨Kp,0,none⟩) (Pn.pickT vals v.ins)) (hV:Later V W) (pc:Nat)=>Go.out W h PP (some ⟨Kp,0,none⟩) pc (gm W (HP.out.later (Gk.out.trans h))) (hK.later hV)
    clear hPP gm;obtain ⟨HS,Hv⟩:=zd2 gq h7;clear gq h7;go_wp2_with fail;have KF:=zI (show ∀Xw,Later wp Xw->Xw.cell? ⟨wr.heap.size,0,none⟩=some (.int .i64 v.op.kind)/\Xw.cell? ⟨wr.heap.size,1,none⟩=some (.int .i64 v.op.k)/\Xw.cell? ⟨wr.heap.size,2,none⟩=some (.int .i64 v.op.width)/\Xw.cell? ⟨wr.heap.size,3,none⟩=some (.int .i64 v.op.step)/\Xw.cell? ⟨wr.heap.size,4,none⟩=some (.int .i64 v.op.side)/\Xw.cell? ⟨wr.heap.size,5,none⟩=some (.int .i64 v.op.frm)/\Xw.cell? ⟨wr.heap.size,6,none⟩=some (.int .i64 v.op.to)/\Xw.cell? ⟨wr.heap.size,7,none⟩=some (.slice S v.op.s.length sc)/\Xw.cell? ⟨wr.heap.size,8,none⟩=some (.slice J v.ins.length ic) from λXw h=>⟨h.cell x0,h.cell x1,h.cell x2,h.cell x3,h.cell x4,h.cell x5,h.cell x6,h.cell x7,h.cell x8⟩);refine Zm1 ?_;refine Zl1 (S:=λXw=>Xw.cell? ⟨wr.heap.size,0,none⟩=some (.int .i64 v.op.kind)/\Xw.cell? ⟨wr.heap.size,1,none⟩=some (.int .i64 v.op.k)/\Xw.cell? ⟨wr.heap.size,2,none⟩=some (.int .i64 v.op.width)/\Xw.cell? ⟨wr.heap.size,3,none⟩=some (.int .i64 v.op.step)/\Xw.cell? ⟨wr.heap.size,4,none⟩=some (.int .i64 v.op.side)/\Xw.cell? ⟨wr.heap.size,5,none⟩=some (.int .i64 v.op.frm)/\Xw.cell? ⟨wr.heap.size,6,none⟩=some (.int .i64 v.op.to)/\Xw.cell? ⟨wr.heap.size,7,none⟩=some (.slice S v.op.s.length sc)/\Xw.cell? ⟨wr.heap.size,8,none⟩=some (.slice J v.ins.length ic)) krZ (KF.out _ Lau) (λhHeld=>?_);refine tk 0 ?_;refine tk 1 ?_;refine tk 2 ?_;refine tk 3 ?_;refine tk 4 ?_;refine tk 5 ?_ (hy:=λW _=>Hv.out _ _ _ _ _ _ rfl rfl rfl rfl)
    try simp only [ga,gs,gz,Act.put,sa,sz,ss]
    refine tk 6 ?_;refine tk 7 ?_;refine tk 8 ?_;refine Zo1 (rs:=[9,14]) krZ sZ ?_;refine Zf1 (o:=_) rfl (λK hK=>?_) (Zf1 (o:=_) rfl (λK hK=>?_) (Zg1))
    ·simp only [ga,gs,gz]
     go_simp
     go_at_call 73;(with_reducible refine (hp.out _ (Lau:Later wp _)).mono ?_);rintro e wk ⟨Kp,rfl,-,h9,Hk⟩
     have HD:=zI h9;clear h9;have hW:Later wp wk:=(Lau:Later wp wk)
     have Hy:=zI hW;clear hW
     try go_wp2_with fail
     refine hK.out _ _ (KF.out _ Lau) (λhHeld=>?_);clear hK K
     try simp only [ga,gs,gz,Act.put,sa,sz,ss]
     refine Zo1 (rs:=[10,14]) krZ sZ ?_;refine Zf1 (o:=_) rfl (λK hK=>?_) (Zf1 (o:=_) rfl (λK hK=>?_) (Zg1))
     ·simp only [ga,gs,gz]
      go_simp
      go_at_call 42;(with_reducible refine (HS.out _ (Lau:Later wp _) wk Kp HD.out (Lau:Later wk _) _).mono ?_);rintro e wg ⟨S3,c3,C3,d3,rfl,hZ,ht,Hw⟩
      have Ha:=zI ht;clear ht hZ;have gp:=Hy.out.size
      try go_wp2_with fail
      refine hK.out _ _ (KF.out _ Lau) (λhHeld=>?_);clear hK K
      try simp only [ga,gs,gz,Act.put,sa,sz,ss]
      refine tk 11 ?_;refine tk 12 ?_;refine tk 13 ?_;refine rd 14 λK hK=>?_
      simp only [ga,gs,gz]
      go_simp
      refine hK.out _ _ (KF.out _ Lau) (λhHeld=>?_);clear hK K
      try simp only [ga,gs,gz,Act.put,sa,sz,ss]
      refine rd 15 λK hK=>?_
      simp only [ga,gs,gz]
      go_simp
      refine hK.out _ _ ?_ (λhHeld=>?_)
      ·(try dsimp only);(refine ⟨?_,?_,?_,?_,?_,?_,?_,?_,?_⟩<;>(repeat (refine qa0 ?_ (by first|omega|(simp;done)|(simp;omega))))<;>(refine Later.cell (Lau:Later wp _) ?_)<;>assumption)
      clear hK K
      try simp only [ga,gs,gz,Act.put,sa,sz,ss]
      refine tk 16 ?_;clear KF;refine Zn1 krZ ?_ _;refine Zd1 ?_;go_wp2_with fail;have Hi:Later wp wg:=(Lau:Later wp wg)
      go_meet
      exact ⟨S3,c3,C3,d3,wg.heap.size,rfl,rfl,Blk.new wg _ _,λh=>((Ha.out h).base oZ).later ((Later.refl wg).alloc _),Hi.alloc _⟩
     ·simp only [ga,gs,gz]
      go_simp
      refine hK.out _ _ (KF.out _ Lau) (λhHeld=>?_);clear hK K
      try simp only [ga,gs,gz,Act.put,sa,sz,ss]
      refine rd 10 λK hK=>?_
      simp only [ga,gs,gz]
      go_simp
      go_at_call 42;(with_reducible refine (HS.out _ (Lau:Later wp _) wk Kp HD.out (Lau:Later wk _) _).mono ?_);rintro e wg ⟨S3,c3,C3,d3,rfl,hZ,ht,Hw⟩
      have Ha:=zI ht;clear ht hZ;have gp:=Hy.out.size;have hg:=(show Later (wk.alloc (.cells #[.slice none 0 0,.slice none 0 0] 30)) wg from Hw).blk (Blk.new wk _ _);have b0':=hg.cell 0;have b1':=hg.cell 1;have bf0:=hg.frozen 0;have bf1:=hg.frozen 1;simp at b0' b1';have hT:=zI hg;clear hg
      try go_wp2_with fail
      refine hK.out _ _ (KF.out _ Lau) (λhHeld=>?_);clear hK K
      try simp only [ga,gs,gz,Act.put,sa,sz,ss]
      refine tk 11 ?_;refine tk 12 ?_;refine tk 13 ?_;refine rd 15 λK hK=>?_
      simp only [ga,gs,gz]
      go_simp
      refine hK.out _ _ ?_ (λhHeld=>?_)
      ·(try dsimp only);(refine ⟨?_,?_,?_,?_,?_,?_,?_,?_,?_⟩<;>(repeat (refine qa0 ?_ (by first|omega|(simp;done)|(simp;omega))))<;>(refine Later.cell (Lau:Later wp _) ?_)<;>assumption)
      clear hK K
      try simp only [ga,gs,gz,Act.put,sa,sz,ss]
      refine tk 16 ?_;clear KF;refine Zn1 krZ ?_ _;refine Zd1 ?_;go_wp2_with fail;have Hi:Later wp wg:=(Lau:Later wp wg)
      have hE:=(hT.out.set_ 0 (.slice S3 R.1.s.length c3)).set_ 1 (.slice C3 R.1.c.length d3)
      go_meet
      exact ⟨S3,c3,C3,d3,wk.heap.size,rfl,rfl,(by simpa using hE),λh=>((Ha.out h).base (by first|omega|(simp;omega))).box hT.out,(Hi.set (p:=⟨wk.heap.size,0,none⟩) (by first|omega|(simp;done)|(simp;omega)) _).set (p:=⟨wk.heap.size,1,none⟩) (by first|omega|(simp;done)|(simp;omega)) _⟩
    ·simp only [ga,gs,gz]
     go_simp
     refine hK.out _ _ (KF.out _ Lau) (λhHeld=>?_);clear hK K
     try simp only [ga,gs,gz,Act.put,sa,sz,ss]
     refine rd 9 λK hK=>?_
     simp only [ga,gs,gz]
     go_simp
     go_at_call 73;(with_reducible refine (hp.out _ (Lau:Later wp _)).mono ?_);rintro e wk ⟨Kp,rfl,-,h9,Hk⟩
     have HD:=zI h9;clear h9;have hW:Later wp wk:=(Lau:Later wp wk)
     have Hy:=zI hW;clear hW
     try go_wp2_with fail
     refine hK.out _ _ (KF.out _ Lau) (λhHeld=>?_);clear hK K
     try simp only [ga,gs,gz,Act.put,sa,sz,ss]
     refine rd 10 λK hK=>?_
     simp only [ga,gs,gz]
     go_simp
     go_at_call 42;(with_reducible refine (HS.out _ (Lau:Later wp _) wk Kp HD.out (Lau:Later wk _) _).mono ?_);rintro e wg ⟨S3,c3,C3,d3,rfl,hZ,ht,Hw⟩
     have Ha:=zI ht;clear ht hZ;have gp:=Hy.out.size;have hg:=(show Later wk wg from Hw).blk ((show Later _ wk from Hk).blk ((Blk.new wp 30 #[.slice none 0 0,.slice none 0 0]).drew));have b0':=hg.cell 0;have b1':=hg.cell 1;have bf0:=hg.frozen 0;have bf1:=hg.frozen 1;simp at b0' b1';have hT:=zI hg;clear hg
     try go_wp2_with fail
     refine hK.out _ _ (KF.out _ Lau) (λhHeld=>?_);clear hK K
     try simp only [ga,gs,gz,Act.put,sa,sz,ss]
     refine tk 11 ?_;refine tk 12 ?_;refine tk 13 ?_;refine rd 15 λK hK=>?_
     simp only [ga,gs,gz]
     go_simp
     refine hK.out _ _ ?_ (λhHeld=>?_)
     ·(try dsimp only);(refine ⟨?_,?_,?_,?_,?_,?_,?_,?_,?_⟩<;>(repeat (refine qa0 ?_ (by first|omega|(simp;done)|(simp;omega))))<;>(refine Later.cell (Lau:Later wp _) ?_)<;>assumption)
     clear hK K
     try simp only [ga,gs,gz,Act.put,sa,sz,ss]
     refine tk 16 ?_;clear KF;refine Zn1 krZ ?_ _;refine Zd1 ?_;go_wp2_with fail;have Hi:Later wp wg:=(Lau:Later wp wg)
     have hE:=(hT.out.set_ 0 (.slice S3 R.1.s.length c3)).set_ 1 (.slice C3 R.1.c.length d3)
     go_meet
     exact ⟨S3,c3,C3,d3,wp.heap.size,rfl,rfl,(by simpa using hE),λh=>((Ha.out h).base (by first|omega|(simp;omega))).box hT.out,(Hi.set (p:=⟨wp.heap.size,0,none⟩) (by first|omega|(simp;done)|(simp;omega)) _).set (p:=⟨wp.heap.size,1,none⟩) (by first|omega|(simp;done)|(simp;omega)) _⟩
   case rest=>
    obtain ⟨S3,c3,C3,d3,tb,rfl,rfl,hJ,Hh,hC⟩:=hcut;have hu:=GI.out.trans hC;have HF:=gn.out.trans hu;have hm:=hC.blk Gv.out;have l0:=hJ.cell 0;have l1:=hJ.cell 1;simp at l0 l1
    by_cases hr:R.2=0
    case neg=>
     have HE:=zI (show (Pn.forward n ps x).2=R.2 by rw [hS.out,if_neg hr]);have d2:(R.2 != 0)=true:=by simpa using hr
     have Hr:=zI hr;clear hr;generalize R.2=ge at *;obtain ⟨Gr,gi,Gz,Gf,GF,Gm⟩:=zd6 hu HF hm hJ Hh hC;clear hu HF hm hJ Hh hC;go_wp2_with fail;refine Zk1 (v:=.tuple #[.slice none 0 0,.int .i64 ge]) (by simp [results,Tryz.results23,go_sem]) rfl ?_;exact FwdP.fail HE.out Hr.out gi.out
    have Hp:=hS.out.trans (if_pos hr);have gc:=(hH.out.later hu).set (k:=j+1) (by rw [hI.out];omega) (Hh hr);have Hd:vs.length=(n.nodes.length+1)*2:=by rw [hH.out.1,hI.out]
    obtain ⟨p0,e0⟩:∃u,wc.cell? ⟨w3.heap.size,(j+1)*2,none⟩=some u:=by rw [hm.cell];exact ⟨_,by rw [Zk,geZ oZ]⟩
    obtain ⟨p1,e1⟩:∃u,wc.cell? ⟨w3.heap.size,(j+1)*2+1,none⟩=some u:=by rw [hm.cell];exact ⟨_,by rw [Zk,geZ oZ]⟩
    have f0:=hm.frozen ((j+1)*2);have f1:=hm.frozen ((j+1)*2+1);rw [hr];have g2':(j:Int)+1<(n.nodes.length:Int)+1:=by omega
    clear hr;have Hq:=gc.off (i:=(j+1)*2) (k:=(j+1)*2+1) hm hH.out.rowT.cell (.slice S3 R.1.s.length c3) (.slice C3 R.1.c.length d3);have gb:=(hm.set_ ((j+1)*2) (.slice S3 R.1.s.length c3)).set_ ((j+1)*2+1) (.slice C3 R.1.c.length d3);rw [List.setIfInBounds_toArray,List.setIfInBounds_toArray] at gb;have gw:=((gU.out.trans hu).set (p:=⟨w3.heap.size,(j+1)*2,none⟩) (lrZ _) (.slice S3 R.1.s.length c3)).set (p:=⟨w3.heap.size,(j+1)*2+1,none⟩) (lrZ _) (.slice C3 R.1.c.length d3);obtain ⟨Gr,gi,Gz,Gf,GF,Gm,H7,GQ,Gj⟩:=zd9 hu HF hm hJ Hh hC Hp gc Hd;obtain ⟨H6,GC,Gh⟩:=zd3 Hq gb gw;clear hu HF hm hJ Hh hC Hp gc Hd Hq gb gw;go_wp2_with fail;go_roundw
    case rel=>exact ⟨k+1,_,_,by omega,by go_num,GC.out,H6.out,by rw [List.length_set];exact hI.out,Gh.out,H7.out⟩
    case measure=>simp [intOf];omega
  ·obtain rfl:k=n.nodes.length:=by omega
   have gA:Pn.forward n ps x=(vals,0):=by rw [hF,List.drop_eq_nil_of_le (by rw [Hv.out];exact lrZ _),Pn.fwd]
   have gB:=HH.out.trans hl;obtain ⟨HG,hH,hI,gU,Gt,GB⟩:=zd6 hG HB hB hl gA gB;clear hG HB hB hl gA gB;clear hF;go_wp2_with fail;refine Zk1 (v:=.tuple #[.slice (some ⟨w3.heap.size,0,none⟩) (n.nodes.length+1) (n.nodes.length+1),.int .i64 0]) (by simp [results,Tryz.results23,go_sem]) rfl ?_;rw [Gt.out];exact ⟨.inr ⟨rfl,w3.heap.size,by rw [hI.out],hH.out.tnsO HG.out gM⟩,GB.out⟩
set_option maxRecDepth 20000 in
theorem qgg (A N P XS XC:Option Addr) (c d cp xc xd:Nat) (n:NetD) (ps:List Ten) (x:Ten) (w:Zp1) (hok:n.ok) (hR:NetR w A N n) (hd:n.nodes.length<=d) (hP:Tns w P ps) (lP:ps.length<=1048576) (kP:ps.length<=cp) (mP:cp<=9223372036854775807) (nP:P=none->cp=0) (hX:TenIn w XS XC xc xd x) (hne:(Pn.forward n ps x).2≠0):
  Calls Tryz.prog 24 #[.agg #[.slice A n.inn.length c,.slice N n.nodes.length d],.slice P ps.length cp,.agg #[.slice XS x.s.length xc,.slice XC x.c.length xd]] w λe w'=>e=.returned (.tuple #[.agg #[.int .i64 0,.slice none 0 0,.slice none 0 0,.slice none 0 0],.int .i64 (Pn.forward n ps x).2])/\Below w.heap.size w w':=by
 have hl:=((Blk.new w 59 #[.slice A n.inn.length c,.slice N n.nodes.length d]).alloc (.cells #[.slice XS x.s.length xc,.slice XC x.c.length xd] 30)).alloc (.cells #[.int .i64 0,.slice none 0 0,.slice none 0 0,.slice none 0 0] 66);have hg:=(Blk.new (w.alloc (.cells #[.slice A n.inn.length c,.slice N n.nodes.length d] 59)) 30 #[.slice XS x.s.length xc,.slice XC x.c.length xd]).alloc (.cells #[.int .i64 0,.slice none 0 0,.slice none 0 0,.slice none 0 0] 66);have hz:=Blk.new ((w.alloc (.cells #[.slice A n.inn.length c,.slice N n.nodes.length d] 59)).alloc (.cells #[.slice XS x.s.length xc,.slice XC x.c.length xd] 30)) 66 #[.int .i64 0,.slice none 0 0,.slice none 0 0,.slice none 0 0];simp only [Zh1] at hg hz;have hm:Later w (((w.alloc (.cells #[.slice A n.inn.length c,.slice N n.nodes.length d] 59)).alloc (.cells #[.slice XS x.s.length xc,.slice XC x.c.length xd] 30)).alloc (.cells #[.int .i64 0,.slice none 0 0,.slice none 0 0,.slice none 0 0] 66)):=(((Later.refl w).alloc _).alloc _).alloc _;obtain ⟨ho,HR,HP,HX,hk,hj,Hz,hc,hs⟩:=zd9 hok hR hP hX hl hg hz hm nP;clear hok hR hP hX hl hg hz hm nP;go_enter Tryz.func24,Tryz.ntmps24;go_upto_region 1 with fail;generalize ((w.alloc (.cells #[.slice A n.inn.length c,.slice N n.nodes.length d] 59)).alloc (.cells #[.slice XS x.s.length xc,.slice XC x.c.length xd] 30)).alloc (.cells #[.int .i64 0,.slice none 0 0,.slice none 0 0,.slice none 0 0] 66)=w1 at *;have a0:=hk.out.cell 0;have a1:=hk.out.cell 1;have b0:=hj.out.cell 0;have b1:=hj.out.cell 1;simp at a0 a1 b0 b1;have hf:=qaP A N P XS XC c d cp xc xd n ps x w1 ho.out (HR.out.below hc.out (lrZ _)) hd (HP.out.later hc.out) lP kP mP hs.out (HX.out.later hc.out);obtain ⟨r,hr⟩:∃r,Pn.forward n ps x=r:=⟨_,rfl⟩
 rw [hr] at hf hne;have HE:=zI hr;clear hr;have d2:(r.2 != 0)=true:=by simpa using hne
 have hq:=zI hne;clear hne;have ht:=zI hf;clear hf;go_wp2_with fail;refine (ht.out).mono ?_;rintro e w2 ⟨⟨-,rfl⟩|⟨hh,-⟩,hn⟩
 rotate_left
 ·exact absurd hh hq.out
 have he:Later w1 w2:=hn;have hi:=hc.out.trans he;have ha:=he.blk Hz.out;have m0:=ha.cell 0;have m1:=ha.cell 1;have m2:=ha.cell 2;have m3:=ha.cell 3;have mf0:=ha.frozen 0;have mf1:=ha.frozen 1;have mf2:=ha.frozen 2;have mf3:=ha.frozen 3;have hb:=(((ha.set_ 0 (.int .i64 0)).set_ 1 (.slice none 0 0)).set_ 2 (.slice none 0 0)).set_ 3 (.slice none 0 0);have e0:=hb.cell 0;have e1:=hb.cell 1;have e2:=hb.cell 2;have e3:=hb.cell 3;simp at m0 m1 m2 m3 e0 e1 e2 e3;clear hn a0 a1 b0 b1;obtain ⟨hv,hp,hw,hu⟩:=zd4 he hi ha hb;clear he hi ha hb;go_wp2_with fail;refine Zk1 (v:=.tuple #[.agg #[.int .i64 0,.slice none 0 0,.slice none 0 0,.slice none 0 0],.int .i64 r.2]) (by simp [results,Tryz.results24,go_sem,e0,e1,e2,e3]) rfl ?_;exact ⟨by rw [HE.out],(((hp.out.set (p:=⟨w.heap.size+2,0,none⟩) sZ _).set (p:=⟨w.heap.size+2,1,none⟩) sZ _).set (p:=⟨w.heap.size+2,2,none⟩) sZ _).set (p:=⟨w.heap.size+2,3,none⟩) sZ _⟩
namespace Ly
theorem qbV {sd:Int}:∀ {r:List Ten} {s:List Int},(∀t∈r,Tn.right t=true)->joinedS sd s r=Od.joinAll sd s (r.map Ten.s)
 | [],_,_=>rfl
 | t::r,s,h=>by
  unfold joinedS;rw [if_pos (h t sZ),List.map_cons,Od.joinAll]
  split
  ·exact qbV λu hu=>h u (by simp [hu])
  ·rfl
theorem got_map {x:List Ten} (h:0<x.length):(x.map Ten.s).getD 0 []=(got x 0).s:=by
 cases x with
 | nil=>simp at h
 | cons a r=>rfl
theorem qeu {o:OpD} {p x:Int} (hr:Od.right o=true) (h1:Od.least o<=x) (h2:x<=Od.most o) (h3:p=Od.params o):Od.counts o p x=0:=by
 unfold Od.counts;rw [if_pos hr,if_neg];rintro (h|h|h)<;>omega
theorem go_good {o:OpD} {p x:List Ten} (hp:∀t∈p,Tn.right t=true) (hx:∀t∈x,Tn.right t=true) (h:(Od.shape o (p.map Ten.s) (x.map Ten.s)).2=0):Od.counts o p.length x.length=0/\(lay o p x).2=0:=by
 obtain ⟨hr,h1,h2,h3,hn,ho,e⟩:=Od.shape_ok h;rw [List.length_map] at h1 h2 h3;have hc:=qeu hr h1 h2 h3;refine ⟨hc,?_⟩;rw [e] at h;have hk:=Od.right_kind hr;have hl:=Od.least_pos hr;unfold Od.least Od.most at *;unfold Od.params at h3;rw [if_pos hr] at h1 h2 h3;unfold Od.byKind at h;have hf:o.kind<=7∨o.kind=8∨o.kind=9∨o.kind=10∨o.kind=11∨o.kind=12∨o.kind=13∨o.kind=14∨o.kind=15:=by omega
 rcases hf with he|he|he|he|he|he|he|he|he
 ·have e:lay o p x=point o.kind o.k x:=by unfold lay;rw [if_neg oZ,if_neg oZ,if_neg oZ,if_neg oZ,if_neg oZ,if_neg oZ,if_neg oZ,if_neg oZ]
  rw [if_neg oZ,if_neg oZ,if_neg oZ,if_neg oZ,if_neg oZ,if_neg oZ,if_neg oZ] at h;rw [if_pos he] at h1 h2;rw [if_pos hr,if_pos he] at hl;rw [e];unfold Od.same at h
  split at h
  ·rename_i hs
   have hm:0<x.length:=by omega
   rw [got_map hm] at hs;simp only [Zf,List.mem_map,decide_eq_true_eq] at hs
   have ha:ptAgree o.kind x=0:=by
    unfold ptAgree;rw [if_neg oZ,if_neg oZ,if_pos];simp only [Zf,Zz,decide_eq_true_eq];exact λt ht=>⟨hx t ht,hs _ ⟨t,ht,rfl⟩⟩
   unfold point;rw [if_pos ha]
  ·simp at h
 ·obtain ⟨a,b,rfl⟩:=qg9 (l:=p) (by simp [he] at h3;omega)
  obtain ⟨t,rfl⟩:=qao (l:=x) (by simp [he] at h1 h2;omega);have e:lay o [a,b] [t]=dense a b t:=by unfold lay;rw [if_pos he];rfl
  rw [if_pos he] at h;rw [e];unfold Od.dense at h;simp only [List.map_cons,List.map_nil,List.getD_cons_zero,List.getD_cons_succ] at h
  split at h
  ·rename_i hd
   obtain ⟨d1,d2,d3,d4,d5⟩:=hd;have ra:=hp a sZ;have rb:=hp b sZ;have rt:=hx t sZ;unfold dense;rw [if_pos];simp only [denseOk,Zz,decide_eq_true_eq];refine ⟨⟨⟨⟨⟨ra,d1⟩,rb⟩,rt⟩,?_⟩,?_⟩
   ·match hb:b.s,d2 with
    | [z],_=>rw [hb] at d3;simp at d3;unfold at_;rw [d3];simp
   ·rw [(right_s rt).2,d5];rfl
  ·simp at h
 ·obtain ⟨b,rfl⟩:=qao (l:=p) (by simp [he] at h3;omega)
  obtain ⟨t,rfl⟩:=qao (l:=x) (by simp [he] at h1 h2;omega);have e:lay o [b] [t]=add t b:=by unfold lay;rw [if_neg oZ,if_pos he];rfl
  rw [if_neg oZ,if_pos he] at h;rw [e];unfold Od.same at h
  split at h
  ·rename_i hs
   simp at hs;unfold add;rw [if_pos];simp only [alike,Zz,decide_eq_true_eq];exact ⟨⟨hx t sZ,hp b sZ⟩,hs⟩
  ·simp at h
 ·obtain ⟨b,rfl⟩:=qao (l:=p) (by simp [he] at h3;omega)
  obtain ⟨t,rfl⟩:=qao (l:=x) (by simp [he] at h1 h2;omega);have e:lay o [b] [t]=conv b t o.step:=by unfold lay;rw [if_neg oZ,if_neg oZ,if_pos he];rfl
  rw [if_neg oZ,if_neg oZ,if_pos he] at h;rw [e]
  have hg:convErr b t o.step=0:=by
   unfold convErr;rw [if_pos (by simp [hp b sZ,hx t sZ])];exact h
  unfold conv;rw [if_pos hg]
 ·obtain rfl:=qau (l:=p) (by rw [if_neg oZ,if_neg oZ] at h3;omega)
  obtain ⟨t,rfl⟩:=qao (l:=x) (by simp [he] at h1 h2;omega);have e:lay o [] [t]=pool true t o.width o.step:=by unfold lay;rw [if_neg oZ,if_neg oZ,if_neg oZ,if_pos he];rfl
  rw [if_neg oZ,if_neg oZ,if_neg oZ,if_pos oZ] at h;rw [e]
  have hg:poolErr t o.width o.step=0:=by
   unfold poolErr;rw [if_pos (hx t sZ)];exact h
  unfold pool;rw [if_pos hg]
 ·obtain rfl:=qau (l:=p) (by rw [if_neg oZ,if_neg oZ] at h3;omega)
  obtain ⟨t,rfl⟩:=qao (l:=x) (by simp [he] at h1 h2;omega);have e:lay o [] [t]=pool false t o.width o.step:=by unfold lay;rw [if_neg oZ,if_neg oZ,if_neg oZ,if_neg oZ,if_pos he];rfl
  rw [if_neg oZ,if_neg oZ,if_neg oZ,if_pos oZ] at h;rw [e]
  have hg:poolErr t o.width o.step=0:=by
   unfold poolErr;rw [if_pos (hx t sZ)];exact h
  unfold pool;rw [if_pos hg]
 ·obtain rfl:=qau (l:=p) (by rw [if_neg oZ,if_neg oZ] at h3;omega)
  have e:lay o [] x=join o.side x:=by unfold lay;rw [if_neg oZ,if_neg oZ,if_neg oZ,if_neg oZ,if_neg oZ,if_pos he]
  rw [if_neg oZ,if_neg oZ,if_neg oZ,if_neg oZ,if_pos oZ] at h;rw [e]
  have hj:(joined o.side x).2=0:=by
   match x,h1 with
   | t::r,_=>
    unfold joined;simp only;rw [if_pos (hx t sZ)];unfold Od.joined at h
    split at h
    ·simp at h
    ·rename_i hcn
     rw [if_neg,qbV λu hu=>hx u (by simp [hu])]
     ·exact h
     ·rintro ⟨hh,hi⟩
      refine hcn ⟨by simpa using hh,?_⟩;simp [Od.inR];omega
   | [],h1=>simp at h1;omega
  unfold join;rw [if_pos hj]
 ·obtain rfl:=qau (l:=p) (by rw [if_neg oZ,if_neg oZ] at h3;omega)
  obtain ⟨t,rfl⟩:=qao (l:=x) (by simp [he] at h1 h2;omega);have e:lay o [] [t]=cut t o.side o.frm o.to:=by unfold lay;rw [if_neg oZ,if_neg oZ,if_neg oZ,if_neg oZ,if_neg oZ,if_neg oZ,if_pos he];rfl
  rw [if_neg oZ,if_neg oZ,if_neg oZ,if_neg oZ,if_neg oZ,if_pos oZ] at h;rw [e];unfold cut;have h:(Od.cut t.s o.side o.frm o.to).2=0:=h;rw [if_pos (hx t sZ),if_pos h]
 ·obtain rfl:=qau (l:=p) (by rw [if_neg oZ,if_neg oZ] at h3;omega)
  obtain ⟨t,rfl⟩:=qao (l:=x) (by simp [he] at h1 h2;omega);have e:lay o [] [t]=turn t o.s:=by unfold lay;rw [if_neg oZ,if_neg oZ,if_neg oZ,if_neg oZ,if_neg oZ,if_neg oZ,if_neg oZ,if_pos he];rfl
  rw [if_neg oZ,if_neg oZ,if_neg oZ,if_neg oZ,if_neg oZ,if_neg oZ,if_pos oZ] at h;rw [e];unfold Od.turned at h
  split at h
  ·rename_i hs
   simp at hs;have rt:=hx t sZ;unfold turn of_;rw [if_pos rt,if_pos];simp only [Tn.right,Zz,decide_eq_true_eq];exact ⟨hs.1.2,by rw [(right_s rt).2,hs.2]⟩
  ·simp at h
theorem qaF (f:Touch->Nat) (g:Touch->Int):∀(ts:List Touch) (l:List Int),(ts.foldl (λo t=>addAt o (f t) (g t)) l).length=l.length
 | [],_=>rfl
 | t::ts,l=>by rw [List.foldl_cons,qaF f g ts,qaK]
theorem right_of {s c:List Int} (h1:Sh.right s=true) (h2:(c.length:Int)=Safe.prod s):Tn.right ⟨s,c⟩=true:=by simp [Tn.right,h1,h2]
theorem qcH {s:List Int} (h:Sh.right s=true):(span s:Int)=Safe.prod s:=by
 obtain ⟨_,_,_,_,h1,_⟩:=Sh.right_mul h;unfold span;omega
theorem qgh {x:Ten} {sd frm til:Int} (h:(cut x sd frm til).2=0) (hrs:Sh.right (cut x sd frm til).1.s=true):Tn.right (cut x sd frm til).1=true:=by
 by_cases hr:Tn.right x=true
 case neg=>rw [cut_right (by simpa using hr)] at h;simp at h
 by_cases hc:(Od.cut x.s sd frm til).2=0
 case neg=>rw [cut_err hr hc] at h;exact absurd h hc
 obtain ⟨k,S,f,t,inner,pre,e1,e2,e3,hk,hS,hj,hl,hm,hh,hf,hd,hg,hb,ha,-,-,-⟩:=cut_facts hr hc;rw [cut_ok hr hc] at hrs ⊢;refine right_of hrs ?_;have h1:side x.s sd.toNat=S:=by unfold side at_;rw [e1,tnZ,hS,tnZ]
 have h2:span ((Od.cut x.s sd frm til).1.drop (sd.toNat+1))=inner:=by unfold span;rw [hd,e1,tnZ,hg,tnZ]
 have he:0<S*inner:=Nat.mul_pos oZ oZ;rw [h1,h2,ha,Nat.mul_div_cancel _ he,rows_len,hd,hb,e2,e3,tnZ,tnZ];intro i hi;rw [e2,e3,tnZ,tnZ,ha];have a1:f*inner+(t-f)*inner<=S*inner:=by rw [←Nat.add_mul];exact mlZ _ oZ
 have a2:(i+1)*(S*inner)<=pre*(S*inner):=mlZ _ oZ;rw [Zu] at a2;omega
theorem lay_right {o:OpD} {p x:List Ten} (hc:Od.counts o p.length x.length=0) (h:(lay o p x).2=0):Tn.right (lay o p x).1=true:=by
 have hs:=lay_shape hc h
 have ha:Sh.right (lay o p x).1.s=true:=by
  have:=Od.shape_right (by rw [hs]);rw [hs] at this;exact this
 clear hs;obtain ⟨hr,h1,h2,h3⟩:=counts_ok hc;have hk:=Od.right_kind hr;unfold lay at h ha ⊢
 split at h
 ·rename_i hk1
  rw [if_pos hk1] at ha ⊢;unfold dense at h ha ⊢
  split at h
  ·rename_i hd
   rw [if_pos hd] at ha ⊢;simp only [denseOk,Zz,decide_eq_true_eq] at hd;refine right_of ha ?_;rw [tab_len];exact (right_s hd.1.1.1.2).2
  ·simp at h
 ·rename_i n8
  rw [if_neg n8] at ha ⊢
  split at h
  ·rename_i hk1
   rw [if_pos hk1] at ha ⊢;unfold add at h ha ⊢
   split at h
   ·rename_i hd
    rw [if_pos hd] at ha ⊢;simp only [alike,Zz,decide_eq_true_eq] at hd;refine right_of ha ?_;rw [tab_len];exact (right_s hd.1.1).2
   ·simp at h
  ·rename_i n9
   rw [if_neg n9] at ha ⊢
   split at h
   ·rename_i hk1
    rw [if_pos hk1] at ha ⊢;unfold conv at h ha ⊢
    split at h
    ·rename_i hd
     rw [if_pos hd] at ha ⊢;refine right_of ha ?_;unfold convC;rw [qaF,zeros_len];exact qcH ha
    ·rename_i hd;exact absurd h hd
   ·rename_i n10
    rw [if_neg n10] at ha ⊢
    split at h
    ·rename_i hk1
     rw [if_pos hk1] at ha ⊢;unfold pool at h ha ⊢
     split at h
     ·rename_i hd
      rw [if_pos hd] at ha ⊢;refine right_of ha ?_;rw [tab_len];exact qcH ha
     ·rename_i hd;exact absurd h hd
    ·rename_i n11
     rw [if_neg n11] at ha ⊢
     split at h
     ·rename_i hk1
      rw [if_pos hk1] at ha ⊢;unfold pool at h ha ⊢
      split at h
      ·rename_i hd
       rw [if_pos hd] at ha ⊢;refine right_of ha ?_;rw [tab_len];exact qcH ha
      ·rename_i hd;exact absurd h hd
     ·rename_i n12
      rw [if_neg n12] at ha ⊢
      split at h
      ·rename_i hk1
       rw [if_pos hk1] at ha ⊢
       by_cases hj:(joined o.side x).2=0
       case neg=>rw [join_err hj] at h;exact absurd h hj
       rw [join_ok hj] at ha ⊢;refine right_of ha ?_;obtain ⟨k,rows,inner,q0,q1,q2,q3,q4,q5,q6,q7,q8,q9,q10⟩:=qcG hj;have q11:o.side.toNat=k:=by omega
       show ((joinC _ _ _).length:Int)=Safe.prod (joined o.side x).1
       rw [q11,q4,joinC_len (lrZ _),q10,Int.natCast_mul,qes q6 q9]
      ·rename_i n13
       rw [if_neg n13] at ha ⊢
       split at h
       ·rename_i hk1
        rw [if_pos hk1] at ha ⊢;exact qgh h ha
       ·rename_i n14
        rw [if_neg n14] at ha ⊢
        split at h
        ·rename_i hk1
         rw [if_pos hk1] at ha ⊢;unfold turn of_ at h ⊢
         split at h
         ·rename_i hd
          rw [if_pos hd]
          split at h
          ·rename_i hd2;rw [if_pos hd2];exact hd2
          ·simp at h
         ·simp at h
        ·rename_i n15
         rw [if_neg n15] at ha ⊢;unfold point at h ha ⊢
         split at h
         ·rename_i hd
          rw [if_pos hd] at ha ⊢;refine right_of ha ?_;rw [tab_len];unfold ptAgree at hd
          split at hd
          ·simp at hd
          ·split at hd
           ·simp at hd
           ·split at hd
            ·rename_i g1 g2 hall
             simp only [Zf,Zz,decide_eq_true_eq] at hall
             have hb:0<x.length:=by
              rcases Nat.eq_zero_or_pos x.length with h0|h0
              ·simp [h0] at g2;omega
              ·exact h0
             have:got x 0∈x:=by rw [qam hb];exact gmZ hb
             exact (right_s (hall _ this).1).2
            ·simp at hd
         ·rename_i hd;exact absurd h hd
end Ly
namespace Pn
theorem par_map {ps:List Ten} {ss:List (List Int)} (hl:ps.length=ss.length) (h:parOk ps ss ss.length=true):ps.map Ten.s=ss/\∀t∈ps,Tn.right t=true:=by
 have key:∀i (hi:i<ps.length),Tn.right ps[i]=true/\ps[i].s=ss[i]'oZ:=λi hi=>by
  have:=List.all_eq_true.1 h i (List.mem_range.2 oZ);have h2:=tenIs_ok this;rw [qam hi,gdZ,geZ oZ] at h2;exact h2
 refine ⟨List.ext_getElem (by simp [hl]) λi h1 h2=>?_,λt ht=>?_⟩
 ·rw [List.getElem_map];exact (key i (by simpa using h1)).2
 ·obtain ⟨i,hi,rfl⟩:=List.getElem_of_mem ht
  exact (key i hi).1
theorem qev {ns:List NodeD} {k:Nat} (h:k<ns.length):((ns.flatMap (·.p)).drop (from_ ns k)).take ns[k].p.length=ns[k].p:=by
 have e:ns.flatMap (·.p)=(ns.take k).flatMap (·.p)++(ns[k].p++(ns.drop (k+1)).flatMap (·.p)):=by
  rw [←List.flatMap_cons,←Zd h,←Zj,Zn]
 rw [e];unfold from_;rw [List.drop_left,List.take_left]
theorem qda {n:NetD} {ps:List Ten} (hm:ps.map Ten.s=Nt.params n) (hr:∀t∈ps,Tn.right t=true) {id:Int} (h1:1<=id) (h2:id<=n.nodes.length):
  (parts n ps id).map Ten.s=(Nt.node n.nodes id).p/\(∀t∈parts n ps id,Tn.right t=true)/\(parts n ps id).length=(Nt.node n.nodes id).p.length:=by
 obtain ⟨hk,e⟩:=Nt.node_in ⟨h1,h2⟩;have ek:(id-1).toNat=id.toNat-1:=by omega
 have key:(parts n ps id).map Ten.s=(Nt.node n.nodes id).p:=by
  unfold parts;rw [List.map_take,List.map_drop,hm,e];simp only [ek];exact qev oZ
 refine ⟨key,λt ht=>hr t (Zp (Zh ht)),?_⟩;rw [←key,List.length_map]
theorem qbu {l:List Ten} {k:Nat} {t:Ten} (h:k<l.length):Ly.got (l.set k t) k=t:=by
 unfold Ly.got;rw [gdZ,Zr h];rfl
theorem qaQ {l:List Ten} {k j:Nat} {t:Ten} (h:k≠j):Ly.got (l.set k t) j=Ly.got l j:=by
 unfold Ly.got;rw [gdZ,gdZ,Zs h]
theorem qgi {l:List Ten} (i:Nat):(l.map Ten.s).getD i []=(Ly.got l i).s:=by
 unfold Ly.got;simp only [gdZ,List.getElem?_map];cases l[i]?<;>rfl
theorem pick_map (vals:List Ten) (ins:List Int):(pickT vals ins).map Ten.s=Nt.pick (vals.map Ten.s) ins:=by
 unfold pickT Nt.pick;rw [List.map_map];exact List.map_congr_left λi _=>(qgi i.toNat).symm
theorem pick_set {vals:List Ten} {ins:List Int} {u:Int} {t:Ten} (hu:1<=u) (h:∀i∈ins,i≠u/\0<=i):pickT (vals.set u.toNat t) ins=pickT vals ins:=by
 unfold pickT;refine List.map_congr_left λi hi=>qaQ ?_
 have:=h i hi;omega
structure Done (n:NetD) (ps:List Ten) (x:Ten) (a:List Int) (vals:List Ten):Prop where
 len:vals.length=n.nodes.length+1
 lay0:Nt.lay n.nodes (Nt.start n) a=(vals.map Ten.s,0)
 zero:Ly.got vals 0=x
 right:∀i:Int,i=0∨i∈a->Tn.right (Ly.got vals i.toNat)=true
 step:∀id∈a,Pn.step n ps vals id=(Ly.got vals id.toNat,0)
theorem qgj {n:NetD} {ps:List Ten} {x:Ten} (hc:Nt.check n=0) (hm:ps.map Ten.s=Nt.params n) (hr:∀t∈ps,Tn.right t=true) {a b:List Int} {u:Int} {vals:List Ten} (hs:Nt.sorted n.nodes=a++u::b) (h:Done n ps x a vals):
  (Pn.step n ps vals u).2=0/\Done n ps x (a++[u]) (vals.set u.toNat (Pn.step n ps vals u).1):=by
 obtain ⟨c1,c2,c3,c4,c5,c6,c7,c8⟩:=Nt.check_ok hc;have hd:∀v∈Nt.sorted n.nodes,1<=v/\v<=n.nodes.length:=Kn.order_rng _ _;have ho:(Nt.sorted n.nodes).Nodup:=(Kn.go_ok _ _ _).nodup;have hu:=hd u (by rw [hs];simp);have hx:∀i∈Nt.insF n.nodes u,i=0∨i∈a:=Kn.order_behind _ _ hs
 have hl:u∉a:=by
  rw [hs,List.nodup_append] at ho;intro hm;exact ho.2.2 u hm u sZ rfl
 have hh:∀i:Int,i=0∨i∈a->0<=i/\i≠u:=λi hi=>by
  rcases hi with rfl|hi
  ·omega
  ·have:=hd i (by rw [hs];simp [hi])
   exact ⟨by omega,λe=>hl (e▸hi)⟩
 obtain ⟨p1,p2,p3⟩:=qda hm hr hu.1 hu.2
 have hf:(Nt.layStep n.nodes (vals.map Ten.s) u).2=0:=by
  have c:=c6;rw [hs,Nt.lay_append,h.lay0] at c;simp only [if_true] at c;unfold Nt.lay at c
  split at c
  ·assumption
  ·rename_i hb;exact absurd c hb
 have he:∀t∈pickT vals (Nt.node n.nodes u).ins,Tn.right t=true:=λt ht=>by
  obtain ⟨i,hi,rfl⟩:=List.mem_map.1 ht;exact h.right i (hx i hi)
 have ha:Od.shape (Nt.node n.nodes u).op ((parts n ps u).map Ten.s) ((pickT vals (Nt.node n.nodes u).ins).map Ten.s)=Nt.layStep n.nodes (vals.map Ten.s) u:=by
  rw [p1,pick_map];rfl
 obtain ⟨g1,g2⟩:=Ly.go_good p2 he (by rw [ha];exact hf);have hg:Pn.step n ps vals u=Ly.lay (Nt.node n.nodes u).op (parts n ps u) (pickT vals (Nt.node n.nodes u).ins):=Ly.go_lay g1;have hn:=Ly.lay_shape g1 g2;have hq:=Ly.lay_right g1 g2;rw [←hg] at g2 hn hq;rw [ha] at hn;have hp:u.toNat<vals.length:=by rw [h.len];omega
 refine ⟨g2,by rw [List.length_set];exact h.len,?_,?_,?_,?_⟩
 ·rw [Nt.lay_snoc h.lay0 hf,hn,List.map_set]
 ·rw [qaQ oZ];exact h.zero
 ·intro i hi
  by_cases e:i=u
  ·subst e;rw [qbu hp];exact hq
  ·have hw:i=0∨i∈a:=by
    rcases hi with hi|hi
    ·exact .inl hi
    ·rcases List.mem_append.1 hi with hi|hi
     ·exact .inr hi
     ·simp at hi;exact absurd hi e
   have:=hh i hw;rw [qaQ oZ];exact h.right i hw
 ·intro v hv
  have hj:∀i∈(Nt.node n.nodes v).ins,i≠u/\0<=i:=λi hi=>by
   rcases List.mem_append.1 hv with hv|hv
   ·obtain ⟨a1,a2,ea⟩:=List.append_of_mem hv
    have hz:Kn.order (Nt.insF n.nodes) n.nodes.length=a1++v::(a2++u::b):=by
     show Nt.sorted n.nodes=_
     rw [hs,ea];simp
    have hy:∀i∈Nt.insF n.nodes v,i=0∨i∈a1:=Kn.order_behind _ _ hz
    have h3:i=0∨i∈a:=by
     rcases hy i hi with h4|h4
     ·exact .inl h4
     ·exact .inr (by rw [ea];simp [h4])
    exact (hh i h3).symm
   ·simp at hv;subst hv
    exact (hh i (hx i hi)).symm
  have e1:Pn.step n ps (vals.set u.toNat (Pn.step n ps vals u).1) v=Pn.step n ps vals v:=by
   show Ly.go _ _ (pickT _ _)=Ly.go _ _ (pickT _ _)
   rw [pick_set hu.1 hj]
  rw [e1]
  by_cases e:v=u
  ·subst e
   rw [qbu hp];exact Prod.ext rfl g2
  ·have hk:v∈a:=by
    rcases List.mem_append.1 hv with hv|hv
    ·exact hv
    ·simp at hv;exact absurd hv e
   have:=hh v (.inr hk);have h1:=hd v (by rw [hs];simp [hk]);rw [qaQ oZ];exact h.step v hk
theorem qeQ {n:NetD} {ps:List Ten} {x:Ten} (hc:Nt.check n=0) (hm:ps.map Ten.s=Nt.params n) (hr:∀t∈ps,Tn.right t=true):∀(b a:List Int) (vals:List Ten),Nt.sorted n.nodes=a++b->Done n ps x a vals->∃out,fwd n ps vals b=(out,0)/\Done n ps x (a++b) out
 | [],a,vals,_,h=>⟨vals,rfl,by rw [List.append_nil];exact h⟩
 | u::b,a,vals,hs,h=>by
  obtain ⟨h1,h2⟩:=qgj hc hm hr hs h;obtain ⟨out,h3,h4⟩:=qeQ hc hm hr b (a++[u]) _ (by rw [hs];simp) h2;refine ⟨out,?_,by rw [List.append_assoc] at h4;exact h4⟩;unfold fwd;rw [if_pos h1];exact h3
end Pn
namespace Pn
def add (g m:Ten):Ten:=if g.c.length=0 then m else if (Ly.add g m).2=0 then (Ly.add g m).1 else g
end Pn
def TenR1 (t:Ten) (w:Zp1) (e:Ending) (w':Zp1):Prop:=∃v,e=.returned v/\TenO w.heap.size w' v t/\Below w.heap.size w w'
theorem qew {t:Ten} {w w1 wf:Zp1} {v u u2:Value} {p:Nat} {T:TypeId} (ho:TenO w1.heap.size wf v t) (hL:Later w wf) (hz:Blk wf p T #[.slice none 0 0,.slice none 0 0]) (hp:w.heap.size<=p) (hs:w.heap.size<=w1.heap.size):
  TenR1 t w (.returned v) ((wf.setCell ⟨p,0,none⟩ u).setCell ⟨p,1,none⟩ u2):=
 ⟨v,rfl,(ho.base hs).box hz,(hL.set (p:=⟨p,0,none⟩) hp _).set (p:=⟨p,1,none⟩) hp _⟩
theorem qgk (GS GC MS MC:Option Addr) (c d c' d':Nat) (g m:Ten) (w:Zp1) (hG:TenIn w GS GC c d g) (hM:TenIn w MS MC c' d' m) (l1:g.s.length<=1000000) (l2:g.c.length<=1000000) (l3:m.s.length<=1000000) (l4:m.c.length<=1000000):
  Calls Tryz.prog 32 #[.agg #[.slice GS g.s.length c,.slice GC g.c.length d],.agg #[.slice MS m.s.length c',.slice MC m.c.length d']] w (TenR1 (Pn.add g m) w):=by
 obtain ⟨hA,ht,hz,hD⟩:=qal w 30 30 30 #[.slice GS g.s.length c,.slice GC g.c.length d] #[.slice MS m.s.length c',.slice MC m.c.length d'] #[.slice none 0 0,.slice none 0 0];obtain ⟨hn,hB,Hz,hd,HG,HM⟩:=zd6 hA ht hz hD hG hM;clear hA ht hz hD hG hM;go_enter Tryz.func32,Tryz.ntmps32;go_upto_region 1 with fail;generalize (((w.alloc (.cells #[.slice GS g.s.length c,.slice GC g.c.length d] 30)).alloc (.cells #[.slice MS m.s.length c',.slice MC m.c.length d'] 30)).alloc (.cells #[.slice none 0 0,.slice none 0 0] 30))=w1 at *;have a0:=hn.out.cell 0;have a1:=hn.out.cell 1;have b0:=hB.out.cell 0;have b1:=hB.out.cell 1;simp at a0 a1 b0 b1;have hC:=hd.out.size
 by_cases h0:g.c.length=0
 ·have HE:=zI (show Pn.add g m=m by unfold Pn.add;rw [if_pos h0])
  have d1:((g.c.length:Int)==0)=true:=by simp [h0]
  have q1:(g.c.length:Int)=0:=by omega
  clear h0;go_wp2_with fail;refine (qa8 MS MC c' d' m w1 l3 l4 (HM.out.later hd.out).r).mono ?_;rintro e w2 ⟨v,rfl,hN,hi⟩;have hg:Later w1 w2:=hi;have ha:=hg.blk Hz.out;have hO:=hN.o (B:=w1.heap.size) oZ oZ HM.out.num;obtain ⟨g1,h1,rfl,-,-,-,-⟩:=hN;have c0:=ha.cell 0;have c1:=ha.cell 1;have f0:=ha.frozen 0;have f1:=ha.frozen 1;have hb:=(ha.set_ 0 (.slice (some ⟨g1,0,none⟩) m.s.length m.s.length)).set_ 1 (.slice (some ⟨h1,0,none⟩) m.c.length m.c.length);have e0:=hb.cell 0;have e1:=hb.cell 1;simp at c0 c1 e0 e1;clear hi a0 a1 b0 b1;obtain ⟨hv,hq,hE,HO⟩:=zd4 hg ha hb hO;clear hg ha hb hO;go_wp2_with fail;refine Zk1 (v:=.agg #[.slice (some ⟨g1,0,none⟩) m.s.length m.s.length,.slice (some ⟨h1,0,none⟩) m.c.length m.c.length]) (by simp [results,Tryz.results32,go_sem,e0,e1]) rfl ?_;rw [HE.out];exact qew HO.out (hd.out.trans hv.out) hq.out oZ hC
 have d1:((g.c.length:Int)==0)=false:=by simpa using h0
 have q1:¬(g.c.length:Int)=0:=by omega
 obtain ⟨R,hR⟩:∃R,Ly.add g m=R:=⟨_,rfl⟩
 have hc:=qac (qcZ GS GC MS MC c d c' d' g m w1 (HG.out.later hd.out) (HM.out.later hd.out)) Ly.add_none;have he:=show Pn.add g m=if R.2=0 then R.1 else g by unfold Pn.add;rw [if_neg h0,hR]
 rw [hR] at hc;clear h0;obtain ⟨hj,HR,He⟩:=zd3 hc hR he;clear hc hR he;go_wp2_with fail;refine (hj.out).mono ?_;rintro e w2 ⟨S2,c2,C2,d2,rfl,hI,hH,hi⟩;have hg:Later w1 w2:=hi;have hm:Later w2 (w2.alloc (.cells #[.slice S2 R.1.s.length c2,.slice C2 R.1.c.length d2] 30)):=(Later.refl w2).alloc _;have hF:=Blk.new w2 30 #[.slice S2 R.1.s.length c2,.slice C2 R.1.c.length d2];have hl:=hg.trans hm;have hx:=hl.blk Hz.out;have hu:=hl.blk hn.out;have hh:=λh=>(hH h).later hm
 clear a0 a1 b0 b1 hi hH hI;obtain ⟨hv,hL,hw,hk,hf,hy,hp⟩:=zd7 hg hm hF hl hx hu hh;clear hg hm hF hl hx hu hh;go_upto_region 4 with fail;generalize w2.alloc (.cells #[.slice S2 R.1.s.length c2,.slice C2 R.1.c.length d2] 30)=w3 at *;generalize w2.heap.size=yb at *
 by_cases hr:R.2=0
 ·have HE:=zI (He.out.trans (if_pos hr))
  have d3:(R.2 != 0)=false:=by simp [hr]
  have hO:=hp.out hr;have y0:=hw.out.cell 0;have y1:=hw.out.cell 1;have c0:=hf.out.cell 0;have c1:=hf.out.cell 1;have f0:=hf.out.frozen 0;have f1:=hf.out.frozen 1;have hb:=(hf.out.set_ 0 (.slice S2 R.1.s.length c2)).set_ 1 (.slice C2 R.1.c.length d2);have e0:=hb.cell 0;have e1:=hb.cell 1;simp at c0 c1 e0 e1 y0 y1;obtain ⟨hE,HO⟩:=zd2 hb hO;clear hb hO;go_wp2_with fail;refine Zk1 (v:=.agg #[.slice S2 R.1.s.length c2,.slice C2 R.1.c.length d2]) (by simp [results,Tryz.results32,go_sem,e0,e1]) rfl ?_;rw [HE.out];exact qew HO.out (hd.out.trans hk.out) hf.out oZ hC
 ·have HE:=zI (He.out.trans (if_neg hr))
  have d3:(R.2 != 0)=true:=by simpa using hr
  have a0:=hy.out.cell 0;have a1:=hy.out.cell 1;simp at a0 a1;clear hr;go_wp2_with fail;refine (qa8 GS GC c d g w3 l1 l2 (HG.out.later (hd.out.trans hk.out)).r).mono ?_;rintro e w4 ⟨v,rfl,hN,hs⟩;have ho:Later w3 w4:=hs;have ha:=ho.blk hf.out;have hO:=hN.o (B:=w3.heap.size) oZ oZ HG.out.num;obtain ⟨g1,h1,rfl,-,-,-,-⟩:=hN;have c0:=ha.cell 0;have c1:=ha.cell 1;have f0:=ha.frozen 0;have f1:=ha.frozen 1;have hb:=(ha.set_ 0 (.slice (some ⟨g1,0,none⟩) g.s.length g.s.length)).set_ 1 (.slice (some ⟨h1,0,none⟩) g.c.length g.c.length);have e0:=hb.cell 0;have e1:=hb.cell 1;simp at c0 c1 e0 e1;have hK:=(hd.out.trans hk.out).size;clear hs a0 a1;obtain ⟨hJ,hq,hE,HO⟩:=zd4 ho ha hb hO;clear ho ha hb hO;go_wp2_with fail;refine Zk1 (v:=.agg #[.slice (some ⟨g1,0,none⟩) g.s.length g.s.length,.slice (some ⟨h1,0,none⟩) g.c.length g.c.length]) (by simp [results,Tryz.results32,go_sem,e0,e1]) rfl ?_;rw [HE.out];exact qew HO.out ((hd.out.trans hk.out).trans hJ.out) hq.out oZ hK
theorem qgl (S C GS GC:Option Addr) (c d gc gd:Nat) (x g:Ten) (w:Zp1) (hx:TenIn w S C c d x) (hg:TenIn w GS GC gc gd g):
  Calls Tryz.prog 105 #[.agg #[.slice S x.s.length c,.slice C x.c.length d],.agg #[.slice GS g.s.length gc,.slice GC g.c.length gd]] w (GoP (Ly.turnBack x g) w):=by
 obtain ⟨hP,hM,hz,hQ⟩:=qal w 30 30 30 #[.slice S x.s.length c,.slice C x.c.length d] #[.slice GS g.s.length gc,.slice GC g.c.length gd] #[.slice none 0 0,.slice none 0 0];have l1:=hx.l1;have l2:=hx.l2;have l3:=hg.l1;have l4:=hg.l2;obtain ⟨hH,hO,Hz,hD,Hx,Hg⟩:=zd6 hP hM hz hQ hx hg;clear hP hM hz hQ hx hg;go_enter Tryz.func105,Tryz.ntmps105;go_wp2_with fail;generalize ((w.alloc (.cells #[.slice S x.s.length c,.slice C x.c.length d] 30)).alloc (.cells #[.slice GS g.s.length gc,.slice GC g.c.length gd] 30)).alloc (.cells #[.slice none 0 0,.slice none 0 0] 30)=w1 at *;refine (qa2 S C c d x w1 oZ oZ (Hx.out.later hD.out).r.1).mono ?_;rintro e w2 ⟨rfl,hI⟩;have hp:Later w1 w2:=hI;have hC:=hD.out.trans hp;have hj:=hp.blk Hz.out;have hh:=hp.blk hH.out;have hb:=hp.blk hO.out;clear hI Hz hD hH hO hp;cases hr:Tn.right x
 ·have HE:=zI (show Ly.turnBack x g=(Ly.none_,20) by unfold Ly.turnBack;rw [hr];rfl)
  clear hr;have c0:=hj.cell 0;have c1:=hj.cell 1;have f0:=hj.frozen 0;have f1:=hj.frozen 1;simp at c0 c1;obtain ⟨hk,hw,hi,hl⟩:=zd4 hC hj hh hb;clear hC hj hh hb;go_wp2_with fail;refine Zk1 (v:=.tuple #[.agg #[.slice none 0 0,.slice none 0 0],.int .i64 20]) (by simp [results,Tryz.results105,go_sem,c0,c1]) rfl ?_;exact GoP.fail HE.out dZ ((hk.out.set (p:=⟨w.heap.size+2,0,none⟩) sZ _).set (p:=⟨w.heap.size+2,1,none⟩) sZ _)
 have g0:=hb.cell 0;have g1:=hb.cell 1;simp at g0 g1;obtain ⟨hk,hw,hi,hl⟩:=zd4 hC hj hh hb;clear hC hj hh hb;go_wp2_with fail;refine (qa2 GS GC gc gd g w2 oZ oZ (Hg.out.later hk.out).r.1).mono ?_;rintro e w3 ⟨rfl,hS⟩;have ht:Later w2 w3:=hS;have hm:=hk.out.trans ht;have ha:=ht.blk hw.out;have hd:=ht.blk hi.out;have hf:=ht.blk hl.out;clear hS hw hk hi hl ht g0 g1;cases hq:Tn.right g
 ·have HE:=zI (show Ly.turnBack x g=(Ly.none_,20) by unfold Ly.turnBack;rw [hr,hq];rfl)
  clear hr hq;have c0:=ha.cell 0;have c1:=ha.cell 1;have f0:=ha.frozen 0;have f1:=ha.frozen 1;simp at c0 c1;obtain ⟨hV,h5,h2,hW⟩:=zd4 hm ha hd hf;clear hm ha hd hf;go_wp2_with fail;refine Zk1 (v:=.tuple #[.agg #[.slice none 0 0,.slice none 0 0],.int .i64 20]) (by simp [results,Tryz.results105,go_sem,c0,c1]) rfl ?_;exact GoP.fail HE.out dZ ((hV.out.set (p:=⟨w.heap.size+2,0,none⟩) sZ _).set (p:=⟨w.heap.size+2,1,none⟩) sZ _)
 ·have HE:=zI (show Ly.turnBack x g=Ly.of_ x.s g.c by unfold Ly.turnBack;rw [hr,hq];rfl)
  clear hr hq;have x0:=hd.cell 0;have x1:=hf.cell 1;simp at x0 x1;have hn:=Hg.out.num;have hJ:TenR w3 S GC ⟨x.s,g.c⟩:=⟨(Hx.out.later hm).r.1,(Hg.out.later hm).r.2⟩
  have he:=(qcA S GC c gd ⟨x.s,g.c⟩ w3 l1 l4 hJ).mono (λe w' h=>of_gop h hn);rw [←show Ly.turnBack x g=Ly.of_ x.s g.c from HE.out] at he;obtain ⟨hw,hi,hk,hs⟩:=zd4 ha hd hm he;clear ha hd hm he hJ hn hf;go_wp2_with fail;clear x0 x1;refine (hs.out).mono ?_;rintro e wf hA;have hv:Later w3 wf:=hA.2;have hc:=hv.blk hw.out;have hy:=hk.out.trans hv;have f0:=hc.frozen 0;have f1:=hc.frozen 1;have hB:w.heap.size<=w.heap.size+2:=by first|exact lrZ _|simp|omega
  rcases hA.1 with ⟨hF,rfl⟩|⟨hL,v,rfl,hu⟩
  ·have c0:=hc.cell 0
   have c1:=hc.cell 1;simp at c0 c1;have ho:=hF;generalize hge:(Ly.turnBack x g).2=ge at *;obtain ⟨h0,hY⟩:=zd2 hge ho;clear ho;clear hA hF hv hge;obtain ⟨hG,hE⟩:=zd2 hc hy;clear hc hy;go_wp2_with fail;refine Zk1 (v:=.tuple #[.agg #[.slice none 0 0,.slice none 0 0],.int .i64 ge]) (by simp [results,Tryz.results105,go_sem,c0,c1]) rfl ?_;exact GoP.fail2 h0.out hY.out ((hE.out.set (p:=⟨w.heap.size+2,0,none⟩) hB _).set (p:=⟨w.heap.size+2,1,none⟩) hB _)
  ·have hU:=hu.base (hk.out.size)
   clear hA hu;obtain ⟨S2,c2,C2,d2,rfl,hK,hN,hR⟩:=hU;have ha:=(hc.set_ 0 (.slice S2 (Ly.turnBack x g).1.s.length c2)).set_ 1 (.slice C2 (Ly.turnBack x g).1.c.length d2);have d0:=ha.cell 0;have d1:=ha.cell 1;simp at d0 d1;have c0:=hc.cell 0;have c1:=hc.cell 1;simp at c0 c1;obtain ⟨h1,h4,hG,hE,h3,hZ,hT,hX⟩:=zd8 hL ha hc hy hv hK hN hR;clear ha hc hy hv hK hN hR hL;go_wp2_with fail;refine Zk1 (v:=.tuple #[.agg #[.slice S2 (Ly.turnBack x g).1.s.length c2,.slice C2 (Ly.turnBack x g).1.c.length d2],.int .i64 0]) (by simp [results,Tryz.results105,go_sem,d0,d1]) rfl ?_;exact ⟨.inr ⟨h1.out,_,rfl,TenO.box ⟨S2,c2,C2,d2,rfl,hZ.out,hT.out,hX.out⟩ hG.out⟩,(hE.out.set (p:=⟨w.heap.size+2,0,none⟩) hB _).set (p:=⟨w.heap.size+2,1,none⟩) hB _⟩
def Else (g:Nat) (w w':Zp1):Prop:=(∀k,k≠g->w'.heap[k]? = w.heap[k]?)/\w'.heap.size=w.heap.size/\Below g w w'
theorem Else.blk {g k:Nat} {w w':Zp1} {t:TypeId} {cs:Array Value} (h:Else g w w') (hk:k≠g) (hb:Blk w k t cs):Blk w' k t cs:=(h.1 k hk).trans hb
theorem Else.below {g B:Nat} {w0 w w':Zp1} (h:Else g w w') (hb:Below B w0 w) (hB:B<=g):Below B w0 w':=hb.trans (h.2.2.mono hB)
theorem Else.refl (g:Nat) (w:Zp1):Else g w w:=⟨λ_ _=>rfl,rfl,Ze1 _ _⟩
theorem Else.setCell {g:Nat} {w w':Zp1} (h:Else g w w') (i:Nat) (u:Value):Else g w (w'.setCell ⟨g,i,none⟩ u):=
 ⟨λk hk=>(Below.heap_setCell w' ⟨g,i,none⟩ u k hk).trans (h.1 k hk),by simpa using h.2.1,h.2.2.trans (Below.setCell (Ze1 g w') (p:=⟨g,i,none⟩) (lrZ _) u)⟩
theorem Else.setCells {g:Nat} {w:Zp1}:∀(vs:List Value) (o:Nat) (w':Zp1),Else g w w'->Else g w (w'.setCells g o vs)
 | [],_,_,h=>h
 | v::r,o,w',h=>Else.setCells r (o+1) _ (h.setCell o v)
theorem qdr {P:Program} (w:Zp1) (t e ty:TypeId) (ht:P.underlying t=some (.slice e)) (hv:∀w,(zeroValue e).run P w=.ok (.int .i64 0) w) (g:Nat) (T:TypeId) (l:List Int) (c:Nat) (hk:Blk w g T (l.map (Za1 .i64)).toArray) (h0:0<l.length):
  ∃w',(Builtin.clear_ #[t] ty #[.slice (some ⟨g,0,none⟩) l.length c]).run P w=.ok (.tuple #[]) w'/\Blk w' g T ((Ly.zeros l.length).map (Za1 .i64)).toArray/\Else g w w':=by
 refine ⟨_,Lib.run_clear_slice w t e ty (.int .i64 0) ht hv rfl rfl g 0 l.length c h0 (λj hj=>by rw [Zw,hk.cell];simp [hj]) (λj hj=>hk.frozen _),?_,Else.setCells _ _ _ (Else.refl g w)⟩;have:=qap (Zc l.length (Za1 .i64 0)) 0 w _ hk sZ;rw [show splice (l.map (Za1 .i64)) 0 (Zc l.length (Za1 .i64 0))=(Ly.zeros l.length).map (Za1 .i64) by simp [splice,Ly.zeros]] at this;exact this
theorem qaL {P:Program} {ops:Array Oper} {rest:List Oper} {o:Oper} {a:Act} {Q:Exit->Act->Zp1->Prop} {w:Zp1} (hgd:o.guard=none) (s:Operand) (t e:TypeId)
  (ho:o.op=.call { callee:=.builtin .clear,args:=#[s],argTypes:=#[t] }) (ht:P.underlying t=some (.slice e)) (hv:∀w,(zeroValue e).run P w=.ok (.int .i64 0) w)
  (g:Nat) (T:TypeId) (l:List Int) (c:Nat) (hs:a.eval s=.slice (some ⟨g,0,none⟩) l.length c) (hk:Blk w g T (l.map (Za1 .i64)).toArray) (h0:0<l.length)
  (h:∀w',Blk w' g T ((Ly.zeros l.length).map (Za1 .i64)).toArray->Else g w w'->wpList P ops Q rest (a.put o.dst (.tuple #[])) w'):
  wpList P ops Q (o::rest) a w:=by
 refine wpList_plain hgd λK hK=>?_
 obtain ⟨w',hr,h1,h2⟩:=qdr w t e o.type ht hv g T l c hk h0;unfold Oper.wp execOp;simp only [ho,resolve,invoke,builtin,Sem.run_bind,Sem.run_pure,Result.andThen_ok,List.map_toArray,List.map_cons,List.map_nil,hs,hr];exact hK _ _ (h w' h1 h2)
theorem Ints.else_ {w w':Zp1} {A:Option Addr} {zs:List Int} {p:Nat} (h:Ints .i64 w A zs) (hE:Else p w w') (hp:∀k z,w.cell? ⟨p,k,none⟩≠some (.int .i64 z)):Ints .i64 w' A zs:=λj hj=>by
 obtain ⟨b,off,e,hl,hc⟩:=h j hj;have ha:b≠p:=by rintro rfl;exact hp _ _ hc
 exact ⟨b,off,e,by rw [hE.2.1];exact hl,(Zi1 (hE.1 b ha)).trans hc⟩
theorem TenIn.else_ {w w':Zp1} {S C:Option Addr} {c d:Nat} {t:Ten} {p:Nat} (h:TenIn w S C c d t) (hE:Else p w w') (hp:∀k z,w.cell? ⟨p,k,none⟩≠some (.int .i64 z)):TenIn w' S C c d t:={ h with r:=⟨h.r.1.else_ hE hp,h.r.2.else_ hE hp⟩ }
theorem TenO.else_ {B:Nat} {w w':Zp1} {v:Value} {t:Ten} {p:Nat} (h:TenO B w v t) (hE:Else p w w') (hp:∀k z,w.cell? ⟨p,k,none⟩≠some (.int .i64 z)) (hf:∀j,w'.frozen? ⟨p,j,none⟩=false):TenO B w' v t:=by
 obtain ⟨S,c,C,d,h1,h2,h3,h4⟩:=h;refine ⟨S,c,C,d,h1,h2.else_ hE hp,h3,λa e=>?_⟩;obtain ⟨k1,k2,k3⟩:=h4 a e;refine ⟨k1,by rw [hE.2.1];exact k2,λj=>?_⟩
 by_cases ha:a.block=p
 ·rw [ha];exact hf j
 ·have:=k3 j
  unfold World.frozen? at this ⊢;rw [hE.1 a.block ha];exact this
theorem noint {w:Zp1} {p:Nat} {T:TypeId} {cs:Array Value} (h:Blk w p T cs) (hc:∀(k:Nat) (z:Int),cs[k]?≠some (.int .i64 z)):∀k z,w.cell? ⟨p,k,none⟩≠some (.int .i64 z):=λk z e=>by
 rw [h.cell] at e;exact hc k z e
namespace Ly
theorem qds (n:Nat):∀z∈zeros n,Fx.In z:=λz hz=>by
 have:z=0:=by unfold zeros at hz;exact (List.mem_replicate.1 hz).2
 subst this;exact Fx.in_zero
theorem qfi (n:Nat):(zeros n).length=n:=by simp [zeros]
theorem dback_bad {w b x g:Ten} (h:(denseOk w b x&&Tn.right g&&decide (g.s=b.s))=false):denseBack w b x g=((none_,none_,none_),20):=by unfold denseBack;rw [if_neg (by rw [h];decide)]
theorem dback_ok {w b x g:Ten} (h:(denseOk w b x&&Tn.right g&&decide (g.s=b.s))=true):denseBack w b x g=((⟨w.s,denseW g.c x.c⟩,g,⟨x.s,denseX w.c g.c x.c g.c.length⟩),0):=by unfold denseBack;rw [if_pos h]
theorem denseX_len (w g x:List Int):∀i,(denseX w g x i).length=x.length
 | 0=>qfi _
 | _+1=>tab_len _ _
theorem denseX_in (w g x:List Int):∀i,∀z∈denseX w g x i,Fx.In z
 | 0=>qds _
 | _+1=>tab_in λ_ _=>Fx.add_in _ _
theorem qfj (w g x:List Int) {i j:Nat} (hj:j<(denseX w g x (i+1)).length):(denseX w g x (i+1))[j]=Fx.add (at_ (denseX w g x i) j) (Fx.mul (at_ w (i*x.length+j)) (at_ g i)):=tab_get hj
theorem denseW_len (g x:List Int):(denseW g x).length=g.length*x.length:=tab_len _ _
theorem denseW_in (g x:List Int):∀z∈denseW g x,Fx.In z:=tab_in λ_ _=>Fx.mul_in _ _
theorem qfk (g x:List Int) {i j:Nat} (hj:j<x.length) (hk:i*x.length+j<(denseW g x).length):(denseW g x)[i*x.length+j]=Fx.mul (at_ g i) (at_ x j):=by
 unfold denseW at hk ⊢;rw [tab_get];have h1:(i*x.length+j) / x.length=i:=by rw [Nat.mul_comm,Nat.mul_add_div oZ,Nat.div_eq_of_lt hj,Zx]
 have h2:(i*x.length+j) % x.length=j:=by rw [Nat.mul_comm,Nat.mul_add_mod,Nat.mod_eq_of_lt hj]
 rw [h1,h2]
theorem denseW_at (g x:List Int) {i j:Nat} (hi:i<g.length) (hj:j<x.length):at_ (denseW g x) (i*x.length+j)=Fx.mul (at_ g i) (at_ x j):=by
 have hk:i*x.length+j<(denseW g x).length:=by
  rw [denseW_len];have:(i+1)*x.length<=g.length*x.length:=mlZ _ hi;rw [Zu] at this;omega
 rw [at_get hk,qfk g x hj hk]
theorem denseX_at (w g x:List Int) {i j:Nat} (hj:j<x.length):at_ (denseX w g x (i+1)) j=Fx.add (at_ (denseX w g x i) j) (Fx.mul (at_ w (i*x.length+j)) (at_ g i)):=by
 have hk:j<(denseX w g x (i+1)).length:=by rw [denseX_len];exact hj
 rw [at_get hk,qfj w g x hk]
theorem mid_put' (C L:List Int) {k:Nat} (hk:k<C.length) (hn:C.length=L.length):(C.take k++L.drop k).set k (at_ C k)=C.take (k+1)++L.drop (k+1):=by rw [at_get hk];exact mid_step C L hk hn
theorem mid_at2 (C L:List Int) {k:Nat} (hk:k<C.length) (hn:C.length=L.length):at_ (C.take k++L.drop k) k=at_ L k:=by
 unfold at_;rw [gdZ,gdZ,Zl soZ,Zo,Nat.min_eq_left oZ,Nat.sub_self,List.getElem?_drop,Zx]
theorem mid_in {C L:List Int} {k:Nat} (h1:∀z∈C,Fx.In z) (h2:∀z∈L,Fx.In z):∀z∈C.take k++L.drop k,Fx.In z:=λz hz=>by
 rcases List.mem_append.1 hz with h|h
 ·exact h1 z (Zh h)
 ·exact h2 z (Zp h)
end Ly
def GoD (r:(Ten × Ten × Ten) × Int) (w:Zp1) (e:Ending) (w':Zp1):Prop:=
 (r.2≠0/\e=.returned (.tuple #[.agg #[.slice none 0 0,.slice none 0 0,.slice none 0 0,.slice none 0 0,.slice none 0 0,.slice none 0 0],.int .i64 r.2])∨
  r.2=0/\∃S0 c0 C0 d0 S1 c1 C1 d1 S2 c2 C2 d2,e=.returned (.tuple #[.agg #[.slice S0 r.1.1.s.length c0,.slice C0 r.1.1.c.length d0,.slice S1 r.1.2.1.s.length c1,.slice C1 r.1.2.1.c.length d1,.slice S2 r.1.2.2.s.length c2,.slice C2 r.1.2.2.c.length d2],.int .i64 0])/\
   TenO w.heap.size w' (.agg #[.slice S0 r.1.1.s.length c0,.slice C0 r.1.1.c.length d0]) r.1.1/\TenO w.heap.size w' (.agg #[.slice S1 r.1.2.1.s.length c1,.slice C1 r.1.2.1.c.length d1]) r.1.2.1/\TenO w.heap.size w' (.agg #[.slice S2 r.1.2.2.s.length c2,.slice C2 r.1.2.2.c.length d2]) r.1.2.2)/\Below w.heap.size w w'
def GoC (r:(Ten × Ten) × Int) (w:Zp1) (e:Ending) (w':Zp1):Prop:=
 (r.2≠0/\e=.returned (.tuple #[.agg #[.slice none 0 0,.slice none 0 0,.slice none 0 0,.slice none 0 0],.int .i64 r.2])∨
  r.2=0/\∃S0 c0 C0 d0 S2 c2 C2 d2,e=.returned (.tuple #[.agg #[.slice S0 r.1.1.s.length c0,.slice C0 r.1.1.c.length d0,.slice S2 r.1.2.s.length c2,.slice C2 r.1.2.c.length d2],.int .i64 0])/\
   TenO w.heap.size w' (.agg #[.slice S0 r.1.1.s.length c0,.slice C0 r.1.1.c.length d0]) r.1.1/\TenO w.heap.size w' (.agg #[.slice S2 r.1.2.s.length c2,.slice C2 r.1.2.c.length d2]) r.1.2)/\Below w.heap.size w w'
theorem TnsO.one {B p:Nat} {w:Zp1} {S C:Option Addr} {c d:Nat} {t:Ten} {T:TypeId} (hb:Blk w p T #[.slice S t.s.length c,.slice C t.c.length d]) (hB:B<=p) (ht:TenO B w (.agg #[.slice S t.s.length c,.slice C t.c.length d]) t):TnsO B w (some ⟨p,0,none⟩) [t]:=by
 refine ⟨λa e=>?_,λj hj=>?_⟩
 ·injection e with e;subst e;exact ⟨p,rfl,hB,hb.lt,λk=>hb.frozen k⟩
 ·obtain rfl:j=0:=by simp at hj;omega
  exact ⟨p,S,c,C,d,rfl,hb.cell 0,hb.cell 1,ht⟩
def SgP (S C:Option Addr) (n c m d:Nat) (er:Int) (w:Zp1) (e:Ending) (w':Zp1):Prop:=
 ∃X k,e=.returned (.tuple #[.agg #[.slice none 0 0,.slice X k k],.int .i64 er])/\(er≠0->X=none/\k=0)/\(er=0->k=1/\∃p,X=some ⟨p,0,none⟩/\w.heap.size<=p/\Blk w' p 30 #[.slice S n c,.slice C m d])/\Below w.heap.size w w'
theorem qbW (S C:Option Addr) (n c m d:Nat) (er:Int) (w:Zp1):
  Calls Tryz.prog 47 #[.agg #[.slice S n c,.slice C m d],.int .i64 er] w (SgP S C n c m d er w):=by
 obtain ⟨hk,hz,hc⟩:=qaV w 30 38 #[.slice S n c,.slice C m d] #[.slice none 0 0,.slice none 0 0]
 by_cases he:er=0
 ·subst he
  obtain ⟨Hk,Hz,hd⟩:=zd3 hk hz hc;clear hk hz hc;go_enter Tryz.func47,Tryz.ntmps47;go_upto_region 1 with fail;generalize (w.alloc (.cells #[.slice S n c,.slice C m d] 30)).alloc (.cells #[.slice none 0 0,.slice none 0 0] 38)=w1 at *;have a0:w1.cell? ⟨w.heap.size,0,none⟩=some (.slice S n c):=Hk.out.cell 0;have a1:w1.cell? ⟨w.heap.size,1,none⟩=some (.slice C m d):=Hk.out.cell 1;have c0:=Hz.out.cell 0;have c1:=Hz.out.cell 1;have f0:=Hz.out.frozen 0;have f1:=Hz.out.frozen 1;have ha:=((Hz.out.set_ 0 (.slice none 0 0)).set_ 1 (.slice (some ⟨w1.heap.size,0,none⟩) 1 1)).alloc (.cells #[.slice S n c,.slice C m d] 30);have d0:=ha.cell 0;have d1:=ha.cell 1;simp at c0 c1 d0 d1;have hg:w.heap.size+1<w1.heap.size:=Hz.out.lt;have hb:=Blk.new ((w1.setCell ⟨w.heap.size+1,0,none⟩ (.slice none 0 0)).setCell ⟨w.heap.size+1,1,none⟩ (.slice (some ⟨w1.heap.size,0,none⟩) 1 1)) 30 #[.slice S n c,.slice C m d];simp only [World.size_setCell] at hb;have hl:=((hd.out.set (p:=⟨w.heap.size+1,0,none⟩) sZ (.slice none 0 0)).set (p:=⟨w.heap.size+1,1,none⟩) sZ (.slice (some ⟨w1.heap.size,0,none⟩) 1 1)).alloc (.cells #[.slice S n c,.slice C m d] 30);obtain ⟨hf,Hb,Hl⟩:=zd3 ha hb hl;clear ha hb hl;go_wp2_with fail;refine Zk1 (v:=.tuple #[.agg #[.slice none 0 0,.slice (some ⟨w1.heap.size,0,none⟩) 1 1],.int .i64 0]) (by simp [results,Tryz.results47,go_sem,d0,d1]) rfl ?_;exact ⟨some ⟨w1.heap.size,0,none⟩,1,rfl,λh=>absurd rfl h,λ_=>⟨rfl,w1.heap.size,rfl,by omega,Hb.out⟩,Hl.out⟩
 ·have e1:(er != 0)=true:=by simpa using he
  have He:=zI he;clear he;obtain ⟨Hk,Hz,hd⟩:=zd3 hk hz hc;clear hk hz hc;go_enter Tryz.func47,Tryz.ntmps47;go_upto_region 1 with fail;generalize (w.alloc (.cells #[.slice S n c,.slice C m d] 30)).alloc (.cells #[.slice none 0 0,.slice none 0 0] 38)=w1 at *;have c0:=Hz.out.cell 0;have c1:=Hz.out.cell 1;have f0:=Hz.out.frozen 0;have f1:=Hz.out.frozen 1;have ha:=(Hz.out.set_ 0 (.slice none 0 0)).set_ 1 (.slice none 0 0);have d0:=ha.cell 0;have d1:=ha.cell 1;simp at c0 c1 d0 d1;have hf:=zI ha;clear ha;go_wp2_with fail;refine Zk1 (v:=.tuple #[.agg #[.slice none 0 0,.slice none 0 0],.int .i64 er]) (by simp [results,Tryz.results47,go_sem,d0,d1]) rfl ?_;exact ⟨none,0,rfl,λ_=>⟨rfl,rfl⟩,λh=>absurd h He.out,(hd.out.set (p:=⟨w.heap.size+1,0,none⟩) sZ _).set (p:=⟨w.heap.size+1,1,none⟩) sZ _⟩
def GoBU (K:Nat) (r:Ly.Bk × Int) (w:Zp1) (e:Ending) (w':Zp1):Prop:=
 ∃A na B nb,e=.returned (.tuple #[.agg #[.slice A na na,.slice B nb nb],.int .i64 r.2])/\(r.2≠0->A=none/\na=0/\B=none/\nb=0)/\
  (r.2=0->na=r.1.p.length/\nb=r.1.x.length/\TnsO w.heap.size w' A r.1.p/\TnsO w.heap.size w' B r.1.x/\(∀a,A=some a->K<=a.block)/\∀a,B=some a->K<=a.block)/\Below w.heap.size w w'
theorem GoB.u {r:Ly.Bk × Int} {w0 w w':Zp1} {e:Ending} (h:GoB r w e w') (hb:Below w0.heap.size w0 w):GoBU w.heap.size r w0 e w':=by
 have hs:=hb.size;obtain ⟨⟨h1,rfl⟩|⟨h1,A,B,rfl,hA,hB⟩,h2⟩:=h
 ·exact ⟨none,0,none,0,rfl,λ_=>⟨rfl,rfl,rfl,rfl⟩,λh=>absurd h h1,hb.trans (h2.mono hs)⟩
 ·refine ⟨A,_,B,_,by rw [h1],λh=>absurd h1 h,λ_=>⟨rfl,rfl,hA.base hs,hB.base hs,λa e=>?_,λa e=>?_⟩,hb.trans (h2.mono hs)⟩
  ·obtain ⟨b,rfl,h3,-,-⟩:=hA.1 a e;exact h3
  ·obtain ⟨b,rfl,h3,-,-⟩:=hB.1 a e;exact h3
theorem GoBU.fin {K p:Nat} {r:Ly.Bk × Int} {w w':Zp1} {A B:Option Addr} {na nb:Nat} {T:TypeId} (h1:r.2≠0->A=none/\na=0/\B=none/\nb=0)
  (h2:r.2=0->na=r.1.p.length/\nb=r.1.x.length/\TnsO w.heap.size w' A r.1.p/\TnsO w.heap.size w' B r.1.x/\(∀a,A=some a->K<=a.block)/\∀a,B=some a->K<=a.block) (hb:Below w.heap.size w w')
  (hz:Blk w' p T #[.slice none 0 0,.slice none 0 0]) (hp:w.heap.size<=p) (hK:p<K) (u u2:Value):
  GoB r w (.returned (.tuple #[.agg #[.slice A na na,.slice B nb nb],.int .i64 r.2])) ((w'.setCell ⟨p,0,none⟩ u).setCell ⟨p,1,none⟩ u2):=by
 have hl:Below w.heap.size w ((w'.setCell ⟨p,0,none⟩ u).setCell ⟨p,1,none⟩ u2):=(Later.set (p:=⟨p,0,none⟩) hb hp _).set (p:=⟨p,1,none⟩) hp _
 by_cases he:r.2=0
 ·obtain ⟨rfl,rfl,hA,hB,k1,k2⟩:=h2 he
  refine ⟨.inr ⟨he,A,B,by rw [he],hA.box hz (λa e=>?_) _ _,hB.box hz (λa e=>?_) _ _⟩,hl⟩
  ·have:=k1 a e;omega
  ·have:=k2 a e;omega
 ·obtain ⟨rfl,rfl,rfl,rfl⟩:=h1 he
  exact ⟨.inl ⟨he,rfl⟩,hl⟩
theorem sg_u {r:Ten × Int} {w0 w w':Zp1} {S C:Option Addr} {c d:Nat} {e:Ending} (h:SgP S C r.1.s.length c r.1.c.length d r.2 w e w') (hr:r.2=0->TenO w0.heap.size w (.agg #[.slice S r.1.s.length c,.slice C r.1.c.length d]) r.1) (hb:Below w0.heap.size w0 w):GoBU w.heap.size (Ly.bsingle r) w0 e w':=by
 obtain ⟨X,k,rfl,h1,h2,h3⟩:=h;have hl:Later w w':=h3;have ha:Below w0.heap.size w0 w':=hb.trans (h3.mono hb.size)
 by_cases he:r.2=0
 ·obtain ⟨rfl,p,rfl,hp,hk⟩:=h2 he
  have e1:Ly.bsingle r=(⟨[],[r.1]⟩,0):=by unfold Ly.bsingle;rw [if_pos he]
  rw [e1,he];refine ⟨none,0,_,1,rfl,λh=>absurd rfl h,λ_=>⟨rfl,rfl,TnsO.nil _ _,TnsO.one hk (Zv hb.size hp) ((hr he).later hl),λa e=>(by cases e),λa e=>?_⟩,ha⟩;injection e with e;subst e;exact hp
 ·obtain ⟨rfl,rfl⟩:=h1 he
  have e1:Ly.bsingle r=(Ly.bnone,r.2):=by unfold Ly.bsingle;rw [if_neg he]
  rw [e1];exact ⟨none,0,none,0,rfl,λ_=>⟨rfl,rfl,rfl,rfl⟩,λh=>absurd h he,ha⟩
namespace Ly
theorem turnBack_none {x g:Ten} (h:(turnBack x g).2≠0):(turnBack x g).1=none_:=by
 unfold turnBack of_ at h ⊢
 split at h
 ·rename_i h1
  rw [if_pos h1]
  split at h
  ·exact absurd rfl h
  ·rename_i h2
   rw [if_neg h2]
 ·rename_i h1
  rw [if_neg h1]
theorem bturn_err {x g:Ten} {s:List Int} (h:(turn x s).2≠0):bturn x g s=(bnone,(turn x s).2):=by unfold bturn;rw [if_neg h]
theorem bturn_bad {x g:Ten} {s:List Int} (h:(turn x s).2=0) (hg:(Tn.right g&&(g.s==s))=false):bturn x g s=(bnone,20):=by
 unfold bturn;rw [if_pos h,if_neg];intro hh;rw [Zz,decide_eq_true_eq] at hh;rw [hh.1,hh.2] at hg;simp at hg
theorem bturn_ok {x g:Ten} {s:List Int} (h:(turn x s).2=0) (hr:Tn.right g=true) (hs:g.s=s):bturn x g s=bsingle (turnBack x g):=by unfold bturn;rw [if_pos h,if_pos (by rw [hr,hs];simp)]
end Ly
set_option maxRecDepth 20000 in
theorem qex (S C GS GC A:Option Addr) (c d gc gd ac:Nat) (x g:Ten) (s:List Int) (w:Zp1) (hx:TenIn w S C c d x) (hg:TenIn w GS GC gc gd g) (hA:Ints .i64 w A s) (hs:s.length<=1048576):
  Calls Tryz.prog 49 #[.agg #[.slice S x.s.length c,.slice C x.c.length d],.agg #[.slice GS g.s.length gc,.slice GC g.c.length gd],.slice A s.length ac] w (GoB (Ly.bturn x g s) w):=by
 obtain ⟨h9,h4,hz,Ha⟩:=qal w 30 30 38 #[.slice S x.s.length c,.slice C x.c.length d] #[.slice GS g.s.length gc,.slice GC g.c.length gd] #[.slice none 0 0,.slice none 0 0];have lg1:=hg.l1;have lg2:=hg.l2;obtain ⟨hY,h6,Hz,hN,Hx,Hg,HA⟩:=zd7 h9 h4 hz Ha hx hg hA;clear h9 h4 hz Ha hx hg hA;go_enter Tryz.func49,Tryz.ntmps49;go_wp2_with fail;generalize ((w.alloc (.cells #[.slice S x.s.length c,.slice C x.c.length d] 30)).alloc (.cells #[.slice GS g.s.length gc,.slice GC g.c.length gd] 30)).alloc (.cells #[.slice none 0 0,.slice none 0 0] 38)=w1 at *;have hb:=qac (qe4 S C A c d ac x s w1 (Hx.out.later hN.out) (HA.out.below hN.out (lrZ _)) hs) Ly.turn_none;have hL:=Ly.bturn_err (x:=x) (g:=g) (s:=s);have hJ:=Ly.bturn_bad (x:=x) (g:=g) (s:=s);have ho:=Ly.bturn_ok (x:=x) (g:=g) (s:=s);generalize Ly.turn x s=R at *;obtain ⟨ha,hM,hG,hn⟩:=zd4 hb hL hJ ho;clear hb hL hJ ho;refine (ha.out).mono ?_;rintro e w2 ⟨S3,c3,C3,d3,rfl,-,-,h2⟩;have hC:Later w1 (w2.alloc (.cells #[.slice S3 R.1.s.length c3,.slice C3 R.1.c.length d3] 30)):=Later.alloc h2 _;have h5:=hN.out.trans hC;have hI:=hC.blk hY.out;have hK:=hC.blk h6.out;have h1:=hC.blk Hz.out;clear h2 hY h6 Hz hN ha;obtain ⟨Hp,hu,hW,hw,hy⟩:=zd5 hC h5 hI hK h1;clear hC h5 hI hK h1;go_upto_region 2 with fail;generalize w2.alloc (.cells #[.slice S3 R.1.s.length c3,.slice C3 R.1.c.length d3] 30)=w3 at *
 by_cases hR:R.2=0
 case neg=>
  have HE:=zI (hM.out hR);have d2:(R.2 != 0)=true:=by simpa using hR
  have HR:=zI hR;clear hR;generalize R.2=ge at *;have c0:=hy.out.cell 0;have c1:=hy.out.cell 1;have f0:=hy.out.frozen 0;have f1:=hy.out.frozen 1;simp at c0 c1;go_wp2_with fail;refine Zk1 (v:=.tuple #[.agg #[.slice none 0 0,.slice none 0 0],.int .i64 ge]) (by simp [results,Tryz.results49,go_sem,c0,c1]) rfl ?_;exact GoB.fail HE.out HR.out ((hu.out.set (p:=⟨w.heap.size+2,0,none⟩) sZ _).set (p:=⟨w.heap.size+2,1,none⟩) sZ _)
 have hm:=hG.out hR;have hf:=hn.out hR;have d2:(R.2 != 0)=false:=by simpa using hR
 have d3':(R.2==0)=true:=by simpa using hR
 clear hM hG hn hR;generalize R.2=re at *;have g0:=hw.out.cell 0;have g1:=hw.out.cell 1;simp at g0 g1;have Hd:=qa2 GS GC gc gd g w3 oZ oZ (Hg.out.later hu.out).r.1;have hZ:=λ(V:Zp1) (h:Later w3 V)=>qaa GS A gc ac g.s s V oZ oZ (Hg.out.later (hu.out.trans h)).r.1 (HA.out.below (hu.out.trans h) (lrZ _))
 obtain ⟨hd,he,hF,h8⟩:=zd4 hm hf Hd hZ;clear hm hf Hd hZ;cases hr:Tn.right g
 ·have HE:=zI (hd.out (by rw [hr];rfl))
  rw [hr] at hF;clear hr;go_wp2_with fail;refine (hF.out).mono ?_;rintro e w4 ⟨rfl,hE⟩;have hh:Later w3 w4:=hE;have h0:=hu.out.trans hh;have hD:=hh.blk hy.out;have c0:=hD.cell 0;have c1:=hD.cell 1;have f0:=hD.frozen 0;have f1:=hD.frozen 1;simp at c0 c1;clear hE g0 g1;obtain ⟨hB,Hn,Hs⟩:=zd3 hh h0 hD;clear hh h0 hD;go_wp2_with fail;refine Zk1 (v:=.tuple #[.agg #[.slice none 0 0,.slice none 0 0],.int .i64 20]) (by simp [results,Tryz.results49,go_sem,c0,c1]) rfl ?_;exact GoB.fail HE.out dZ ((Hn.out.set (p:=⟨w.heap.size+2,0,none⟩) sZ _).set (p:=⟨w.heap.size+2,1,none⟩) sZ _)
 rw [hr] at hF;go_wp2_with fail;refine (hF.out).mono ?_;rintro e w4 ⟨rfl,hE⟩;have hh:Later w3 w4:=hE;have g0':=hh.cell g0;clear hE g0 g1;have hc:=h8.out _ hh;cases hq:(g.s==s)
 ·have HE:=zI (hd.out (by rw [hr,hq];rfl))
  rw [hq] at hc;clear hr hq;obtain ⟨hB,hj⟩:=zd2 hh hc;clear hh hc;go_wp2_with fail;refine (hj.out).mono ?_;rintro e w5 ⟨rfl,q5,rfl⟩;have hv:=(hu.out.trans hB.out).drewN q5;have hi:=(hB.out.drewN q5).blk hy.out;have c0:=hi.cell 0;have c1:=hi.cell 1;have f0:=hi.frozen 0;have f1:=hi.frozen 1;simp at c0 c1;clear g0';obtain ⟨hP,Hb⟩:=zd2 hv hi;clear hv hi;go_wp2_with fail;refine Zk1 (v:=.tuple #[.agg #[.slice none 0 0,.slice none 0 0],.int .i64 20]) (by simp [results,Tryz.results49,go_sem,c0,c1]) rfl ?_;exact GoB.fail HE.out dZ ((hP.out.set (p:=⟨w.heap.size+2,0,none⟩) sZ _).set (p:=⟨w.heap.size+2,1,none⟩) sZ _)
 rw [hq] at hc;have HE:=zI (he.out hr (by simpa using hq));clear hr hq;obtain ⟨hB,hj⟩:=zd2 hh hc;clear hh hc;go_wp2_with fail;refine (hj.out).mono ?_;rintro e w5 ⟨rfl,q5,rfl⟩;have hH:=hB.out.drewN q5;clear g0' hj h8 hF hB hd he;generalize w4.drewN q5=w5 at *;have hv:=hu.out.trans hH;have hi:=hH.blk hy.out;have hl:=hH.blk hW.out;have hk:=hH.blk hw.out;have a0:=hl.cell 0;have a1:=hl.cell 1;have g0:=hk.cell 0;have g1:=hk.cell 1;simp at a0 a1 g0 g1;have hb:=qac (qgl S C GS GC c d gc gd x g w5 (Hx.out.later hv) (Hg.out.later hv)) Ly.turnBack_none;generalize Ly.turnBack x g=Q at *;clear hH;obtain ⟨hP,Hb,Hi,Hm,ha⟩:=zd5 hv hi hl hk hb;clear hv hi hl hk hb;go_wp2_with fail;refine (ha.out).mono ?_;rintro e w6 ⟨S4,c4,C4,d4,rfl,-,Hf,h7⟩;have hO:Later w5 w6:=h7;have Hc:=hP.out.trans hO;have He:=hO.blk Hb.out;have Hh:=hP.out.size;clear h7 a0 a1 g0 g1 ha;obtain ⟨Hr,Hl,hX,Hk⟩:=zd4 hO Hc He Hf;clear hO Hc He Hf;go_wp2_with fail;refine (qbW S4 C4 _ _ _ _ _ w6).mono ?_;intro e w7 hV;obtain ⟨A7,na,B7,nb,rfl,k1,k2,h3⟩:=sg_u hV (λh=>(Hk.out h).base Hh) Hl.out;have hU:Later w6 w7:=by obtain ⟨_,_,_,_,_,h⟩:=hV;exact h
 have hp:=hU.blk hX.out;have Hj:=hX.out.lt;have hT:(Ly.bsingle Q).2=Q.2:=by unfold Ly.bsingle;split<;>simp_all
 rw [hT];have c0:=hp.cell 0;have c1:=hp.cell 1;have f0:=hp.frozen 0;have f1:=hp.frozen 1;have hQ:=(hp.set_ 0 (.slice A7 na na)).set_ 1 (.slice B7 nb nb);have d0:=hQ.cell 0;have d1:=hQ.cell 1;simp at c0 c1 d0 d1;have ht:=λ(u u2:Value)=>GoBU.fin k1 k2 h3 hp (show w.heap.size<=w.heap.size+2 by omega) Hj u u2
 rw [hT] at ht;clear hV k1 k2 h3 hT;obtain ⟨Ht,Hq,Ho,hS⟩:=zd4 hU hp hQ ht;clear hU hp hQ ht;go_wp2_with fail;refine Zk1 (v:=.tuple #[.agg #[.slice A7 na na,.slice B7 nb nb],.int .i64 Q.2]) (by simp [results,Tryz.results49,go_sem,d0,d1]) rfl ?_;rw [HE.out];exact hS.out _ _
namespace Ly
theorem bbias_err {b x g:Ten} (h:(add x b).2≠0):bbias b x g=(bnone,(add x b).2):=by unfold bbias;rw [if_neg h]
theorem bbias_bad {b x g:Ten} (h:(add x b).2=0) (hg:(Tn.right g&&(g.s==(add x b).1.s))=false):bbias b x g=(bnone,20):=by
 unfold bbias;rw [if_pos h,if_neg];intro hh;rw [Zz,decide_eq_true_eq] at hh;rw [hh.1,hh.2] at hg;simp at hg
theorem bbias_ok {b x g:Ten} (h:(add x b).2=0) (hr:Tn.right g=true) (hs:g.s=(add x b).1.s):bbias b x g=(⟨[g],[g]⟩,0):=by unfold bbias;rw [if_pos h,if_pos (by rw [hr,hs];simp)]
end Ly
theorem qgm {r:Ly.Bk × Int} {w W:Zp1} {S0 C0 S1 C1:Option Addr} {c0 d0 c1 d1 p1 p2 p:Nat} {g:Ten} {T T':TypeId} (hr:r=(⟨[g],[g]⟩,0)) (hw:Below w.heap.size w W)
  (t1:TenO w.heap.size W (.agg #[.slice S0 g.s.length c0,.slice C0 g.c.length d0]) g) (t2:TenO w.heap.size W (.agg #[.slice S1 g.s.length c1,.slice C1 g.c.length d1]) g)
  (b1:Blk W p1 T #[.slice S0 g.s.length c0,.slice C0 g.c.length d0]) (b2:Blk W p2 T #[.slice S1 g.s.length c1,.slice C1 g.c.length d1]) (hz:Blk W p T' #[.slice none 0 0,.slice none 0 0]) (q0:w.heap.size<=p) (q1:p<p1) (q2:p<p2) (u u2:Value):
  GoB r w (.returned (.tuple #[.agg #[.slice (some ⟨p1,0,none⟩) 1 1,.slice (some ⟨p2,0,none⟩) 1 1],.int .i64 0])) ((W.setCell ⟨p,0,none⟩ u).setCell ⟨p,1,none⟩ u2):=by
 subst hr;have n1:p1≠p:=by omega
 have n2:p2≠p:=by omega
 exact ⟨.inr ⟨rfl,_,_,rfl,TnsO.one ((b1.far (p:=⟨p,0,none⟩) n1 _).far (p:=⟨p,1,none⟩) n1 _) oZ (t1.box hz),TnsO.one ((b2.far (p:=⟨p,0,none⟩) n2 _).far (p:=⟨p,1,none⟩) n2 _) oZ (t2.box hz)⟩,(Later.set (p:=⟨p,0,none⟩) hw q0 _).set (p:=⟨p,1,none⟩) q0 _⟩
set_option maxRecDepth 20000 in
theorem qey (S' C' S C GS GC:Option Addr) (c' d' c d gc gd:Nat) (b x g:Ten) (w:Zp1) (hb:TenIn w S' C' c' d' b) (hx:TenIn w S C c d x) (hg:TenIn w GS GC gc gd g):
  Calls Tryz.prog 46 #[.agg #[.slice S' b.s.length c',.slice C' b.c.length d'],.agg #[.slice S x.s.length c,.slice C x.c.length d],.agg #[.slice GS g.s.length gc,.slice GC g.c.length gd]] w (GoB (Ly.bbias b x g) w):=by
 obtain ⟨h9,Hv,He,hz,Hj⟩:=qbt w 30 30 30 38 #[.slice S' b.s.length c',.slice C' b.c.length d'] #[.slice S x.s.length c,.slice C x.c.length d] #[.slice GS g.s.length gc,.slice GC g.c.length gd] #[.slice none 0 0,.slice none 0 0];have lg1:=hg.l1;have lg2:=hg.l2;obtain ⟨HA,Ha,Hh,Hz,hZ,Hb,Hx,Hg⟩:=zd8 h9 Hv He hz Hj hb hx hg;clear h9 Hv He hz Hj hb hx hg;go_enter Tryz.func46,Tryz.ntmps46;go_wp2_with fail;generalize (((w.alloc (.cells #[.slice S' b.s.length c',.slice C' b.c.length d'] 30)).alloc (.cells #[.slice S x.s.length c,.slice C x.c.length d] 30)).alloc (.cells #[.slice GS g.s.length gc,.slice GC g.c.length gd] 30)).alloc (.cells #[.slice none 0 0,.slice none 0 0] 38)=w1 at *;have hw:=qac (qd0 S' C' S C c' d' c d b x w1 (Hb.out.later hZ.out) (Hx.out.later hZ.out)) Ly.add_none;have hS:=Ly.bbias_err (b:=b) (x:=x) (g:=g);have hP:=Ly.bbias_bad (b:=b) (x:=x) (g:=g);have hv:=Ly.bbias_ok (b:=b) (x:=x) (g:=g);generalize Ly.add x b=R at *;obtain ⟨hu,hY,hJ,ht⟩:=zd4 hw hS hP hv;clear hw hS hP hv;refine (hu.out).mono ?_;rintro e w2 ⟨S3,c3,C3,d3,rfl,-,hO,Hq⟩;have Hd:=(Later.refl w2).alloc (.cells #[.slice S3 R.1.s.length c3,.slice C3 R.1.c.length d3] 30);have Hr:=Blk.new w2 30 #[.slice S3 R.1.s.length c3,.slice C3 R.1.c.length d3]
 have Hu:R.2=0->TenIn (w2.alloc (.cells #[.slice S3 R.1.s.length c3,.slice C3 R.1.c.length d3] 30)) S3 C3 c3 d3 R.1:=λh=>by
  obtain ⟨S',c',C',d',e',hT,-,-⟩:=hO h;simp at e';obtain ⟨⟨rfl,rfl⟩,rfl,rfl⟩:=e';exact hT.later Hd
 have hF:Later w1 (w2.alloc (.cells #[.slice S3 R.1.s.length c3,.slice C3 R.1.c.length d3] 30)):=Later.alloc Hq _;have Hf:=hZ.out.trans hF;have hW:=hF.blk Ha.out;have hQ:=hF.blk Hh.out;have Hp:=hF.blk Hz.out;clear Hq HA Ha Hh Hz hZ hu hO Hd;obtain ⟨HG,hI,HD,hC,hD,Hc,Hl⟩:=zd7 hF Hf hW hQ Hp Hr Hu;clear hF Hf hW hQ Hp Hr Hu;go_upto_region 2 with fail;generalize w2.alloc (.cells #[.slice S3 R.1.s.length c3,.slice C3 R.1.c.length d3] 30)=w3 at *;generalize w2.heap.size=ob at *
 by_cases hR:R.2=0
 case neg=>
  have HE:=zI (hY.out hR);have d2:(R.2 != 0)=true:=by simpa using hR
  have HR:=zI hR;clear hR;generalize R.2=ge at *;have c0:=hD.out.cell 0;have c1:=hD.out.cell 1;have f0:=hD.out.frozen 0;have f1:=hD.out.frozen 1;simp at c0 c1;go_wp2_with fail;refine Zk1 (v:=.tuple #[.agg #[.slice none 0 0,.slice none 0 0],.int .i64 ge]) (by simp [results,Tryz.results46,go_sem,c0,c1]) rfl ?_;exact GoB.fail HE.out HR.out ((hI.out.set (p:=⟨w.heap.size+3,0,none⟩) sZ _).set (p:=⟨w.heap.size+3,1,none⟩) sZ _)
 have h0:=Hl.out hR;have lo1:=h0.l1;have o0:=Hc.out.cell 0;simp at o0;have hs:=hJ.out hR;have hk:=ht.out hR;have d2:(R.2 != 0)=false:=by simpa using hR
 have d3':(R.2==0)=true:=by simpa using hR
 clear hY hJ ht hR Hl;generalize R.2=re at *;have g0:=hC.out.cell 0;have g1:=hC.out.cell 1;simp at g0 g1;have Hk:=qa2 GS GC gc gd g w3 oZ oZ (Hg.out.later hI.out).r.1;have Hn:=λ(V:Zp1) (h:Later w3 V)=>qaa GS S3 gc c3 g.s R.1.s V oZ oZ (Hg.out.later (hI.out.trans h)).r.1 (h0.later h).r.1
 obtain ⟨hf,hh,hV,Hi,Hw⟩:=zd5 hs hk Hk Hn h0;clear hs hk Hk Hn h0;cases hr:Tn.right g
 ·have HE:=zI (hf.out (by rw [hr];rfl))
  rw [hr] at hV;clear hr;go_wp2_with fail;refine (hV.out).mono ?_;rintro e w4 ⟨rfl,hU⟩;have he:Later w3 w4:=hU;have Ho:=hI.out.trans he;have hG:=he.blk hD.out;have c0:=hG.cell 0;have c1:=hG.cell 1;have f0:=hG.frozen 0;have f1:=hG.frozen 1;simp at c0 c1;clear hU g0 g1 o0;obtain ⟨hH,HC,HH⟩:=zd3 he Ho hG;clear he Ho hG;go_wp2_with fail;refine Zk1 (v:=.tuple #[.agg #[.slice none 0 0,.slice none 0 0],.int .i64 20]) (by simp [results,Tryz.results46,go_sem,c0,c1]) rfl ?_;exact GoB.fail HE.out dZ ((HC.out.set (p:=⟨w.heap.size+3,0,none⟩) sZ _).set (p:=⟨w.heap.size+3,1,none⟩) sZ _)
 rw [hr] at hV;go_wp2_with fail;refine (hV.out).mono ?_;rintro e w4 ⟨rfl,hU⟩;have he:Later w3 w4:=hU;have g0':=he.cell g0;have o0':=he.cell o0;clear hU g0 g1 o0;have hd:=Hi.out _ he;cases hq:(g.s==R.1.s)
 ·have HE:=zI (hf.out (by rw [hr,hq];rfl))
  rw [hq] at hd;clear hr hq;obtain ⟨hH,hp⟩:=zd2 he hd;clear he hd;go_wp2_with fail;refine (hp.out).mono ?_;rintro e w5 ⟨rfl,q5,rfl⟩;have hE:=(hI.out.trans hH.out).drewN q5;have hn:=(hH.out.drewN q5).blk hD.out;have c0:=hn.cell 0;have c1:=hn.cell 1;have f0:=hn.frozen 0;have f1:=hn.frozen 1;simp at c0 c1;clear g0' o0';obtain ⟨hL,h8⟩:=zd2 hE hn;clear hE hn;go_wp2_with fail;refine Zk1 (v:=.tuple #[.agg #[.slice none 0 0,.slice none 0 0],.int .i64 20]) (by simp [results,Tryz.results46,go_sem,c0,c1]) rfl ?_;exact GoB.fail HE.out dZ ((hL.out.set (p:=⟨w.heap.size+3,0,none⟩) sZ _).set (p:=⟨w.heap.size+3,1,none⟩) sZ _)
 rw [hq] at hd;have HE:=zI (hh.out hr (by simpa using hq));obtain ⟨r5,r6⟩:=Ly.right_ok hr;clear hr hq;obtain ⟨hH,hp⟩:=zd2 he hd;clear he hd;go_wp2_with fail;refine (hp.out).mono ?_;rintro e w5 ⟨rfl,q5,rfl⟩;have h3:=hH.out.drewN q5;clear g0' o0' hp Hi hV hH hf hh;generalize w4.drewN q5=w5 at *;have hE:=hI.out.trans h3;have hn:=h3.blk hD.out;have ho:=h3.blk hC.out;have g0:w5.cell? ⟨w.heap.size+2,0,none⟩=some (.slice GS g.s.length gc):=ho.cell 0;have g1:w5.cell? ⟨w.heap.size+2,1,none⟩=some (.slice GC g.c.length gd):=ho.cell 1;have Ht:=λ(V:Zp1) (h:Later w5 V)=>qa8 GS GC gc gd g V oZ oZ (Hg.out.later (hE.trans h)).r
 have h7:=hE.size;have HB:=hn.lt;clear h3 Hc Hw;obtain ⟨hL,h8,Hy,h5⟩:=zd4 hE hn ho Ht;clear hE hn ho Ht;go_wp2_with fail;have KF:=zI (show ∀Xw,Later w5 Xw->Xw.cell? ⟨w.heap.size+2,0,none⟩=some (.slice GS g.s.length gc)/\Xw.cell? ⟨w.heap.size+2,1,none⟩=some (.slice GC g.c.length gd) from λXw h=>⟨h.cell g0,h.cell g1⟩);refine Zm1 ?_;refine Zl1 (S:=λXw=>Xw.cell? ⟨w.heap.size+2,0,none⟩=some (.slice GS g.s.length gc)/\Xw.cell? ⟨w.heap.size+2,1,none⟩=some (.slice GC g.c.length gd)) krZ (KF.out _ Lau) (λhHeld=>?_);refine tk 0 ?_;refine tk 3 ?_;refine rd 1 λK hK=>?_
 simp only [ga,gs,gz]
 go_simp
 go_at_call 52;(with_reducible refine (h5.out _ (Lau:Later w5 _)).mono ?_);rintro e wa ⟨v,rfl,hN,HF⟩
 have Hs:=hN.o (B:=w5.heap.size) oZ oZ Hg.out.num;obtain ⟨g0',hA,rfl,-,-,-,-⟩:=hN;have h6:=zI Hs;clear Hs
 try go_wp2_with fail
 refine hK.out _ _ (KF.out _ Lau) (λhHeld=>?_);clear hK K
 try simp only [ga,gs,gz,Act.put,sa,sz,ss]
 refine Zo1 (rs:=[2,4]) krZ sZ ?_;refine Zf1 (o:=_) rfl (λK hK=>?_) (Zf1 (o:=_) rfl (λK hK=>?_) (Zg1))
 ·simp only [ga,gs,gz]
  go_simp
  refine hK.out _ _ (KF.out _ Lau) (λhHeld=>?_);clear hK K
  try simp only [ga,gs,gz,Act.put,sa,sz,ss]
  refine rd 4 λK hK=>?_
  simp only [ga,gs,gz]
  go_simp
  go_at_call 52;(with_reducible refine (h5.out _ (Lau:Later w5 _)).mono ?_);rintro e wb ⟨v,rfl,hN,Hm⟩
  have lA:Later w5 wa:=(Lau:Later w5 wa)
  have lB:Later wa wb:=(Lau:Later wa wb)
  have sA:=lA.size;have sB:=lB.size;have hM:=hN.o oZ oZ Hg.out.num;obtain ⟨g1',hm,rfl,-,-,-,-⟩:=hN;have h2:=zI hM;have ha:=(lA.trans lB).blk h8.out;have c0:=ha.cell 0;have c1:=ha.cell 1;have f0:=ha.frozen 0;have f1:=ha.frozen 1;simp at c0 c1;have ya:=ha.alloc (.cells #[.slice (some ⟨g1',0,none⟩) g.s.length g.s.length,.slice (some ⟨hm,0,none⟩) g.c.length g.c.length] 30);have ca0:=ya.cell 0;have ca1:=ya.cell 1;have fa0:=ya.frozen 0;have fa1:=ya.frozen 1;simp at ca0 ca1;clear ya;obtain ⟨h4,h1,hB⟩:=zd3 ha lA lB;clear hM ha lA lB
  try go_wp2_with fail
  refine hK.out _ _ (KF.out _ Lau) (λhHeld=>?_);clear hK K
  try simp only [ga,gs,gz,Act.put,sa,sz,ss]
  refine rd 5 λK hK=>?_
  simp only [ga,gs,gz]
  go_simp
  refine hK.out _ _ (KF.out _ Lau) (λhHeld=>?_);clear hK K
  try simp only [ga,gs,gz,Act.put,sa,sz,ss]
  refine tk 6 ?_;refine rd 7 λK hK=>?_
  simp only [ga,gs,gz]
  go_simp
  refine hK.out _ _ ?_ (λhHeld=>?_)
  ·(try dsimp only);(refine ⟨?_,?_⟩<;>(repeat (refine qa0 ?_ (by first|omega|(simp;done)|(simp;omega))))<;>(refine Later.cell (Lau:Later w5 _) ?_)<;>assumption)
  clear hK K
  try simp only [ga,gs,gz,Act.put,sa,sz,ss]
  refine tk 8 ?_;clear KF;refine Zn1 krZ ?_ _;refine Zd1 ?_;have hX:Later wb (wb.alloc (.cells #[.slice (some ⟨g1',0,none⟩) g.s.length g.s.length,.slice (some ⟨hm,0,none⟩) g.c.length g.c.length] 30)):=Lau;have hl:=hX.blk h4.out;have hy:=hL.out.trans (h1.out.trans (hB.out.trans hX));have hc:=λ(u u2:Value)=>qgm (p1:=wa.heap.size) (p2:=wb.heap.size) HE.out hy ((h6.out.base h7).later (hB.out.trans hX)) ((h2.out.base (by first|omega|(simp;omega))).later hX) (hX.blk ((show Later (wa.alloc (.cells #[.slice (some ⟨g0',0,none⟩) g.s.length g.s.length,.slice (some ⟨hA,0,none⟩) g.c.length g.c.length] 30)) wb from Hm).blk (Blk.new wa _ _))) (Blk.new wb _ _) hl oZ oZ oZ u u2
  have hj:=(hl.set_ 0 (.slice (some ⟨wa.heap.size,0,none⟩) 1 1)).set_ 1 (.slice (some ⟨wb.heap.size,0,none⟩) 1 1);have d0:=hj.cell 0;have d1:=hj.cell 1;simp at d0 d1;clear hHeld g0 g1 hX hl hy hj;have hi:=zI hc;clear hc;go_wp2_with fail;refine Zk1 (v:=.tuple #[.agg #[.slice (some ⟨wa.heap.size,0,none⟩) 1 1,.slice (some ⟨wb.heap.size,0,none⟩) 1 1],.int .i64 0]) (by simp [results,Tryz.results46,go_sem,d0,d1]) rfl ?_;exact hi.out _ _
 ·simp only [ga,gs,gz]
  go_simp
  go_at_call 52;(with_reducible refine (h5.out _ (Lau:Later w5 _)).mono ?_);rintro e wb ⟨v,rfl,hN,Hm⟩
  have lA:Later w5 wa:=(Lau:Later w5 wa)
  have lB:Later wa wb:=(Lau:Later wa wb)
  have sA:=lA.size;have sB:=lB.size;have hM:=hN.o oZ oZ Hg.out.num;obtain ⟨g1',hm,rfl,-,-,-,-⟩:=hN;have h2:=zI hM;have ha:=(lA.trans lB).blk h8.out;have c0:=ha.cell 0;have c1:=ha.cell 1;have f0:=ha.frozen 0;have f1:=ha.frozen 1;simp at c0 c1;have ya:=ha.alloc (.cells #[.slice (some ⟨g1',0,none⟩) g.s.length g.s.length,.slice (some ⟨hm,0,none⟩) g.c.length g.c.length] 30);have ca0:=ya.cell 0;have ca1:=ya.cell 1;have fa0:=ya.frozen 0;have fa1:=ya.frozen 1;simp at ca0 ca1;clear ya;have yb:=ha.alloc (.cells #[.slice (some ⟨g0',0,none⟩) g.s.length g.s.length,.slice (some ⟨hA,0,none⟩) g.c.length g.c.length] 30);have cb0:=yb.cell 0;have cb1:=yb.cell 1;have fb0:=yb.frozen 0;have fb1:=yb.frozen 1;simp at cb0 cb1;clear yb;have yc:=(ha.alloc (.cells #[.slice (some ⟨g0',0,none⟩) g.s.length g.s.length,.slice (some ⟨hA,0,none⟩) g.c.length g.c.length] 30)).alloc (.cells #[.slice (some ⟨g1',0,none⟩) g.s.length g.s.length,.slice (some ⟨hm,0,none⟩) g.c.length g.c.length] 30);have cc0:=yc.cell 0;have cc1:=yc.cell 1;have fc0:=yc.frozen 0;have fc1:=yc.frozen 1;simp at cc0 cc1;clear yc;have yd:=(ha.alloc (.cells #[.slice (some ⟨g1',0,none⟩) g.s.length g.s.length,.slice (some ⟨hm,0,none⟩) g.c.length g.c.length] 30)).alloc (.cells #[.slice (some ⟨g0',0,none⟩) g.s.length g.s.length,.slice (some ⟨hA,0,none⟩) g.c.length g.c.length] 30);have cd0:=yd.cell 0;have cd1:=yd.cell 1;have fd0:=yd.frozen 0;have fd1:=yd.frozen 1;simp at cd0 cd1;clear yd;obtain ⟨h4,h1,hB⟩:=zd3 ha lA lB;clear hM ha lA lB
  try go_wp2_with fail
  refine hK.out _ _ (KF.out _ Lau) (λhHeld=>?_);clear hK K
  try simp only [ga,gs,gz,Act.put,sa,sz,ss]
  refine Zo1 (rs:=[2,5]) krZ sZ ?_;refine Zf1 (o:=_) rfl (λK hK=>?_) (Zf1 (o:=_) rfl (λK hK=>?_) (Zg1))
  ·simp only [ga,gs,gz]
   go_simp
   refine hK.out _ _ (KF.out _ Lau) (λhHeld=>?_);clear hK K
   try simp only [ga,gs,gz,Act.put,sa,sz,ss]
   refine rd 5 λK hK=>?_
   simp only [ga,gs,gz]
   go_simp
   refine hK.out _ _ (KF.out _ Lau) (λhHeld=>?_);clear hK K
   try simp only [ga,gs,gz,Act.put,sa,sz,ss]
   refine tk 6 ?_;refine rd 7 λK hK=>?_
   simp only [ga,gs,gz]
   go_simp
   refine hK.out _ _ ?_ (λhHeld=>?_)
   ·(try dsimp only);(refine ⟨?_,?_⟩<;>(repeat (refine qa0 ?_ (by first|omega|(simp;done)|(simp;omega))))<;>(refine Later.cell (Lau:Later w5 _) ?_)<;>assumption)
   clear hK K
   try simp only [ga,gs,gz,Act.put,sa,sz,ss]
   refine tk 8 ?_;clear KF;refine Zn1 krZ ?_ _;refine Zd1 ?_;have hX:Later wb ((wb.alloc (.cells #[.slice (some ⟨g0',0,none⟩) g.s.length g.s.length,.slice (some ⟨hA,0,none⟩) g.c.length g.c.length] 30)).alloc (.cells #[.slice (some ⟨g1',0,none⟩) g.s.length g.s.length,.slice (some ⟨hm,0,none⟩) g.c.length g.c.length] 30)):=Lau;have hl:=hX.blk h4.out;have hy:=hL.out.trans (h1.out.trans (hB.out.trans hX));have hc:=λ(u u2:Value)=>qgm (p1:=wb.heap.size) (p2:=(wb.heap.size+1)) HE.out hy ((h6.out.base h7).later (hB.out.trans hX)) ((h2.out.base (by first|omega|(simp;omega))).later hX) ((Blk.new wb _ _).alloc _) (by have:=Blk.new (wb.alloc (.cells #[.slice (some ⟨g0',0,none⟩) g.s.length g.s.length,.slice (some ⟨hA,0,none⟩) g.c.length g.c.length] 30)) 30 #[.slice (some ⟨g1',0,none⟩) g.s.length g.s.length,.slice (some ⟨hm,0,none⟩) g.c.length g.c.length];rwa [Zh1] at this) hl oZ oZ oZ u u2
   have hj:=(hl.set_ 0 (.slice (some ⟨wb.heap.size,0,none⟩) 1 1)).set_ 1 (.slice (some ⟨(wb.heap.size+1),0,none⟩) 1 1);have d0:=hj.cell 0;have d1:=hj.cell 1;simp at d0 d1;clear hHeld g0 g1 hX hl hy hj;have hi:=zI hc;clear hc;go_wp2_with fail;refine Zk1 (v:=.tuple #[.agg #[.slice (some ⟨wb.heap.size,0,none⟩) 1 1,.slice (some ⟨(wb.heap.size+1),0,none⟩) 1 1],.int .i64 0]) (by simp [results,Tryz.results46,go_sem,d0,d1]) rfl ?_;exact hi.out _ _
  ·simp only [ga,gs,gz]
   go_simp
   refine hK.out _ _ (KF.out _ Lau) (λhHeld=>?_);clear hK K
   try simp only [ga,gs,gz,Act.put,sa,sz,ss]
   refine rd 2 λK hK=>?_
   simp only [ga,gs,gz]
   go_simp
   refine hK.out _ _ (KF.out _ Lau) (λhHeld=>?_);clear hK K
   try simp only [ga,gs,gz,Act.put,sa,sz,ss]
   refine tk 6 ?_;refine rd 7 λK hK=>?_
   simp only [ga,gs,gz]
   go_simp
   refine hK.out _ _ ?_ (λhHeld=>?_)
   ·(try dsimp only);(refine ⟨?_,?_⟩<;>(repeat (refine qa0 ?_ (by first|omega|(simp;done)|(simp;omega))))<;>(refine Later.cell (Lau:Later w5 _) ?_)<;>assumption)
   clear hK K
   try simp only [ga,gs,gz,Act.put,sa,sz,ss]
   refine tk 8 ?_;clear KF;refine Zn1 krZ ?_ _;refine Zd1 ?_;have hX:Later wb ((wb.alloc (.cells #[.slice (some ⟨g1',0,none⟩) g.s.length g.s.length,.slice (some ⟨hm,0,none⟩) g.c.length g.c.length] 30)).alloc (.cells #[.slice (some ⟨g0',0,none⟩) g.s.length g.s.length,.slice (some ⟨hA,0,none⟩) g.c.length g.c.length] 30)):=Lau;have hl:=hX.blk h4.out;have hy:=hL.out.trans (h1.out.trans (hB.out.trans hX));have hc:=λ(u u2:Value)=>qgm (p1:=(wb.heap.size+1)) (p2:=wb.heap.size) HE.out hy ((h6.out.base h7).later (hB.out.trans hX)) ((h2.out.base (by first|omega|(simp;omega))).later hX) (by have:=Blk.new (wb.alloc (.cells #[.slice (some ⟨g1',0,none⟩) g.s.length g.s.length,.slice (some ⟨hm,0,none⟩) g.c.length g.c.length] 30)) 30 #[.slice (some ⟨g0',0,none⟩) g.s.length g.s.length,.slice (some ⟨hA,0,none⟩) g.c.length g.c.length];rwa [Zh1] at this) ((Blk.new wb _ _).alloc _) hl oZ oZ oZ u u2
   have hj:=(hl.set_ 0 (.slice (some ⟨(wb.heap.size+1),0,none⟩) 1 1)).set_ 1 (.slice (some ⟨wb.heap.size,0,none⟩) 1 1);have d0:=hj.cell 0;have d1:=hj.cell 1;simp at d0 d1;clear hHeld g0 g1 hX hl hy hj;have hi:=zI hc;clear hc;go_wp2_with fail;refine Zk1 (v:=.tuple #[.agg #[.slice (some ⟨(wb.heap.size+1),0,none⟩) 1 1,.slice (some ⟨wb.heap.size,0,none⟩) 1 1],.int .i64 0]) (by simp [results,Tryz.results46,go_sem,d0,d1]) rfl ?_;exact hi.out _ _
theorem qfl (f:Int->Value) (L l:List Int) (o:Nat):splice (L.map f) o (l.map f)=(splice L o l).map f:=by
 simp [splice,List.map_append,List.map_take,List.map_drop]
theorem qby {P:Program} {ops:Array Oper} {o:Oper} {a:Act} {w:Zp1} {K:Act->Zp1->Prop} {Q:Exit->Act->Zp1->Prop} {E:Prop} (hgd:o.guard=none) (d s:Operand) (dT sT:TypeId)
  (ho:o.op=.call { callee:=.builtin .copy,args:=#[d,s],argTypes:=#[dT,sT] }) (elem:TypeId) (hu:P.underlying dT=some (.slice elem)) (hsz:(P.info? elem).map (·.size)=some 1)
  (g off dLen dCap:Nat) (ad:Addr) (sLen sCap:Nat) (hd:a.eval d=.slice (some ⟨g,off,none⟩) dLen dCap) (hs:a.eval s=.slice (some ad) sLen sCap)
  (cur l:List Int) (t:TypeId) (hk:Blk w g t (cur.map (Za1 .i64)).toArray) (hn:l.length=Nat.min sLen dLen)
  (hsrc:∀j (hj:j<l.length),w.cell? (ad.add j)=some (.int .i64 l[j])) (hfit:off+l.length<=cur.length)
  (h:∀w',Blk w' g t ((splice cur off l).map (Za1 .i64)).toArray->Else g w w'->K (a.put o.dst (goInt l.length)) w'):
  if Region.wanted o (yielded ops a.tmps)=true then Oper.wp P o a w K Q else E:=by
 have hw:Region.wanted o (yielded ops a.tmps)=true:=by simp [Region.wanted,hgd]
 rw [if_pos hw]
 have ha:=run_copy_row (P:=P) w dT sT o.type elem g off dLen dCap ad sLen sCap (cur.map (Za1 .i64)).toArray t (l.map (Za1 .i64)) hu hsz hk (by simpa using hn)
  (λj v hj=>by
   rw [List.getElem?_map] at hj;cases hq:l[j]? with
   | none=>rw [hq] at hj;simp at hj
   | some z=>
    rw [hq] at hj;simp at hj;subst hj;obtain ⟨hb,hz⟩:=List.getElem?_eq_some_iff.1 hq;rw [hsrc j hb,hz]) (by simpa using hfit) (λv hv=>by obtain ⟨z,_,rfl⟩:=List.mem_map.1 hv;rfl)
 unfold Oper.wp;simp [execOp,ho,resolve,invoke,builtin,hd,hs,ha,Result.andThen];refine h _ ?_ ⟨λk hc=>setRow_other w g k _ hc,by simp [World.setRow],below_setRow (Ze1 _ _) (lrZ _) _⟩;rw [←qfl]
 show _=_
 simpa [splice] using setRow_heap w g _ _ t _ hk
structure PbI (t:TypeId) (w:Zp1) (q h gg:Nat) (bx bg bb:Array Value) (sh acc:List Int) (wx:Zp1):Prop where
 own:Blk wx h 22 (acc.map (Za1 .i64)).toArray
 shp:Blk wx gg 3 (sh.map (Za1 .i64)).toArray
 box:Blk wx q t bb
 bx:Blk wx w.heap.size t bx
 bg:Blk wx (w.heap.size+1) t bg
 bz:Blk wx (w.heap.size+2) t #[.slice none 0 0,.slice none 0 0]
 lo:gg≠h/\q≠h/\w.heap.size+2<h/\w.heap.size<=gg
 later:Later w wx
theorem PbI.to {t:TypeId} {w wx wy:Zp1} {q h gg:Nat} {bx bg bb:Array Value} {sh acc:List Int} (H:PbI t w q h gg bx bg bb sh acc wx) (hl:Later wx wy):PbI t w q h gg bx bg bb sh acc wy:=
 ⟨hl.blk H.own,hl.blk H.shp,hl.blk H.box,hl.blk H.bx,hl.blk H.bg,hl.blk H.bz,H.lo,H.later.trans hl⟩
theorem PbI.else_ {t:TypeId} {w wx wy:Zp1} {q h gg:Nat} {bx bg bb:Array Value} {sh acc acc':List Int} (H:PbI t w q h gg bx bg bb sh acc wx) (hE:Else h wx wy) (hb:Blk wy h 22 (acc'.map (Za1 .i64)).toArray):PbI t w q h gg bx bg bb sh acc' wy:=by
 obtain ⟨l0,l1,l2,l3⟩:=H.lo;exact ⟨hb,hE.blk l0 H.shp,hE.blk l1 H.box,hE.blk oZ H.bx,hE.blk oZ H.bg,hE.blk oZ H.bz,H.lo,hE.below H.later oZ⟩
theorem PbI.put {t:TypeId} {w wx:Zp1} {q h gg:Nat} {bx bg bb:Array Value} {sh acc:List Int} (H:PbI t w q h gg bx bg bb sh acc wx) (k:Nat) (z:Int):PbI t w q h gg bx bg bb sh (acc.set k z) (wx.setCell ⟨h,k,none⟩ (.int .i64 z)):=
 H.else_ ((Else.refl _ _).setCell k _) (by have:=H.own.set_ k (.int .i64 z);rw [List.map_set];simpa using this)
theorem PbI.done {t:TypeId} {r:Ten × Int} {w wx:Zp1} {q h gg n:Nat} {bx bg bb:Array Value} {sh acc:List Int} (H:PbI t w q h gg bx bg bb sh acc wx) (hr:r=(⟨sh,acc⟩,0)) (hn:acc.length=n) (l1:sh.length<=1048576) (l2:acc.length<=1048576) (hi:∀z∈acc,Fx.In z) (u u2:Value):
  GoP r w (.returned (.tuple #[.agg #[.slice (some ⟨gg,0,none⟩) sh.length sh.length,.slice (some ⟨h,0,none⟩) n n],.int .i64 0])) ((wx.setCell ⟨w.heap.size+2,0,none⟩ u).setCell ⟨w.heap.size+2,1,none⟩ u2):=by
 subst hn;obtain ⟨m0,m1,m2,m3⟩:=H.lo;exact GoP.ok hr ((qb6 H.shp H.own m3 oZ l1 l2 hi rfl).box H.bz) ((H.later.set (p:=⟨w.heap.size+2,0,none⟩) sZ _).set (p:=⟨w.heap.size+2,1,none⟩) sZ _)
namespace Ly
theorem pback_err {top:Bool} {x g:Ten} {width step:Int} (h:poolErr x width step≠0):poolBack top x g width step=(none_,poolErr x width step):=by unfold poolBack;rw [if_neg h]
theorem pback_bad {top:Bool} {x g:Ten} {width step:Int} (h:poolErr x width step=0) (hg:(Tn.right g&&decide (g.s=poolS x width step))=false):poolBack top x g width step=(none_,20):=by unfold poolBack;rw [if_pos h,if_neg (by simp [hg])]
theorem pback_ok {top:Bool} {x g:Ten} {width step:Int} (h:poolErr x width step=0) (hg:(Tn.right g&&decide (g.s=poolS x width step))=true):poolBack top x g width step=(⟨x.s,poolX top x.c g.c (qbx x.s) (qbx (poolS x width step)) width step.toNat g.c.length⟩,0):=by unfold poolBack;rw [if_pos h,if_pos hg]
theorem addRow_facts {l:List Int} (hl:∀z∈l,Fx.In z) (a:Nat) {v:Int} (hv:Fx.In v):∀k,(addRow l a v k).length=l.length/\∀z∈addRow l a v k,Fx.In z
 | 0=>⟨rfl,hl⟩
 | k+1=>by
  obtain ⟨h1,h2⟩:=addRow_facts hl a hv k;exact ⟨by show (addAt _ _ _).length=_;rw [qaK,h1],qbU h2 hv⟩
theorem poolX_facts {top:Bool} {x g:List Int} (hg:∀z∈g,Fx.In z) (sd n:Nat) (width:Int) (st:Nat):∀k,(poolX top x g sd n width st k).length=x.length/\∀z∈poolX top x g sd n width st k,Fx.In z
 | 0=>⟨by simp [poolX,zeros],qds _⟩
 | k+1=>by
  obtain ⟨h1,h2⟩:=poolX_facts (top:=top) (x:=x) hg sd n width st k
  have hv:Fx.In (at_ g k):=by
   unfold at_;rw [gdZ];cases h:g[k]? with
   | none=>unfold Fx.In;simp
   | some z=>exact hg z (List.mem_of_getElem? h)
  show (poolStep _ _ _ _ _ _ _ _ _).length=_/\∀z∈poolStep _ _ _ _ _ _ _ _ _,Fx.In z
  unfold poolStep
  split
  ·exact ⟨by rw [qaK,h1],qbU h2 hv⟩
  ·have:=addRow_facts h2 (from_ sd n st k) (Fx.div_in (at_ g k) (width*4294967296)) width.toNat
   exact ⟨by rw [this.1,h1],this.2⟩
end Ly
set_option maxRecDepth 20000 in
theorem qe5 (top:Bool) (kind:Int) (S C GS GC:Option Addr) (c d gc gd:Nat) (x g:Ten) (width step:Int) (w:Zp1) (hkt:(kind=1/\top=true)∨(kind=2/\top=false)) (hx:TenIn w S C c d x) (hg:TenIn w GS GC gc gd g):
  Calls Tryz.prog 14 #[.int .i64 kind,.agg #[.slice S x.s.length c,.slice C x.c.length d],.agg #[.slice GS g.s.length gc,.slice GC g.c.length gd],.int .i64 width,.int .i64 step] w (GoP (Ly.poolBack top x g width step) w):=by
 obtain ⟨gZ,gr,hz,gB⟩:=qal w 30 30 30 #[.slice S x.s.length c,.slice C x.c.length d] #[.slice GS g.s.length gc,.slice GC g.c.length gd] #[.slice none 0 0,.slice none 0 0];obtain ⟨gm,gw,Hz,HG,Hx,Hg,gl⟩:=zd7 gZ gr hz gB hx hg hkt;clear gZ gr hz gB hx hg hkt;go_enter Tryz.func14,Tryz.ntmps14;go_wp2_with fail;generalize ((w.alloc (.cells #[.slice S x.s.length c,.slice C x.c.length d] 30)).alloc (.cells #[.slice GS g.s.length gc,.slice GC g.c.length gd] 30)).alloc (.cells #[.slice none 0 0,.slice none 0 0] 30)=w1 at *;refine (qd6 kind S C c d x width step w1 (by rcases gl.out with h|h<;>omega) (Hx.out.later HG.out)).mono ?_;rintro e w2 ⟨A,ac,rfl,hI,Gd,GI,hf,gQ⟩;have hE:Later w1 w2:=gQ;have hY:=HG.out.trans hE;have hL:=hE.blk Hz.out;have hC:=hE.blk gm.out;have hl:=hE.blk gw.out;clear gQ Hz HG gm gw hE hf;rw [Ly.poolR_err]
 by_cases hy:Ly.poolErr x width step=0
 case neg=>
  have HE:=zI (Ly.pback_err (top:=top) (g:=g) hy);have d1:(Ly.poolErr x width step==0)=false:=by simpa using hy
  have d2:(Ly.poolErr x width step != 0)=true:=by simpa using hy
  have Gh:=zI hy;clear hy;generalize Ly.poolErr x width step=er at *;generalize (Ly.poolR x width step).1.length=sl at *;have c0:=hL.cell 0;have c1:=hL.cell 1;have f0:=hL.frozen 0;have f1:=hL.frozen 1;simp at c0 c1;obtain ⟨Ha,Hk,hW,hS,HI⟩:=zd5 hY hL hC hl hI;clear hY hL hC hl hI;go_wp2_with fail;refine Zk1 (v:=.tuple #[.agg #[.slice none 0 0,.slice none 0 0],.int .i64 er]) (by simp [results,Tryz.results14,go_sem,c0,c1]) rfl ?_;exact GoP.fail HE.out Gh.out ((Ha.out.set (p:=⟨w.heap.size+2,0,none⟩) sZ _).set (p:=⟨w.heap.size+2,1,none⟩) sZ _)
 obtain ⟨sd,n,wd,st,pre,h1,h2,h3,h4,rfl,rfl,h5,h6,h7,h8,h9,go,gF,hE,GB,GM,Gb,gK,GF,GG,g3,gC,HY,gD⟩:=Ly.pool_facts hy;have Hh:=λh=>Ly.pback_bad (top:=top) (g:=g) hy h
 have hp:=λh=>Ly.pback_ok (top:=top) (g:=g) hy h
 rw [hy];rw [HY] at hI Gd ⊢;rw [h1,h3,tnZ] at hp;generalize Ly.poolS x wd st=os at *;have GJ:os.length<=4:=by omega
 have Gm:1<=os.length:=by omega
 obtain ⟨H1,H2,H3,H4,HB,GQ,gp,Gf,GN⟩:=zd9 h1 h2 h3 h4 go gF hE Gb HY;have gA:=zI gD;clear h1 h2 h3 h4 go gF hE Gb HY gD;have g0:w2.cell? ⟨w.heap.size+1,0,none⟩=_:=hl.cell 0;have g1:w2.cell? ⟨w.heap.size+1,1,none⟩=_:=hl.cell 1;simp at g0 g1;have Gv:=Hg.out.l1;have Gu:=Hg.out.l2;have gJ:=qa2 GS GC gc gd g w2 oZ oZ (Hg.out.later hY).r.1;have gN:=λ(V:Zp1) (h:Later w2 V)=>qaa GS A gc ac g.s os V oZ oZ (Hg.out.later (hY.trans h)).r.1 (hI.below h (lrZ _))
 clear hy;obtain ⟨Ha,Hk,hW,hS,HI,hR,hF,Hn,gx⟩:=zd9 hY hL hC hl hI Hh hp gJ gN;clear hY hL hC hl hI Hh hp gJ gN;have Hv:∀wf,Later w2 wf->(Tn.right g&&decide (g.s=os))=false->True:=λ_ _ _=>trivial
 clear Hv;cases hr:Tn.right g
 ·have HE:=zI (hR.out (by rw [hr];rfl))
  rw [hr] at Hn;go_wp2_with fail;refine (Hn.out).mono ?_;rintro e w3 ⟨rfl,Hw⟩;have hs:Later w2 w3:=Hw;have ha:=hs.blk Hk.out;have Hb:=Ha.out.trans hs;have c0:=ha.cell 0;have c1:=ha.cell 1;have f0:=ha.frozen 0;have f1:=ha.frozen 1;simp at c0 c1;clear g0 g1 Hw;obtain ⟨hZ,Gc,HO⟩:=zd3 hs ha Hb;clear hs ha Hb;go_wp2_with fail;refine Zk1 (v:=.tuple #[.agg #[.slice none 0 0,.slice none 0 0],.int .i64 20]) (by simp [results,Tryz.results14,go_sem,c0,c1]) rfl ?_;exact GoP.fail HE.out dZ ((HO.out.set (p:=⟨w.heap.size+2,0,none⟩) sZ _).set (p:=⟨w.heap.size+2,1,none⟩) sZ _)
 rw [hr] at Hn;go_wp2_with fail;refine (Hn.out).mono ?_;rintro e w3 ⟨rfl,Hw⟩;have hs:Later w2 w3:=Hw;have g0':=hs.cell g0;clear Hw g0 g1;have hn:=gx.out _ hs;cases hq:(g.s==os)
 ·have HE:=zI (hR.out (by rw [hr];simpa using hq))
  rw [hq] at hn;obtain ⟨hZ,hB⟩:=zd2 hs hn;clear hs hn;go_wp2_with fail;refine (hB.out).mono ?_;rintro e w4 ⟨rfl,q4,rfl⟩;have ha:=(hZ.out.drewN q4).blk Hk.out;have Hb:=(Ha.out.trans hZ.out).drewN q4;have c0:=ha.cell 0;have c1:=ha.cell 1;have f0:=ha.frozen 0;have f1:=ha.frozen 1;simp at c0 c1;clear g0';obtain ⟨Gc,HO⟩:=zd2 ha Hb;clear ha Hb;go_wp2_with fail;refine Zk1 (v:=.tuple #[.agg #[.slice none 0 0,.slice none 0 0],.int .i64 20]) (by simp [results,Tryz.results14,go_sem,c0,c1]) rfl ?_;exact GoP.fail HE.out dZ ((HO.out.set (p:=⟨w.heap.size+2,0,none⟩) sZ _).set (p:=⟨w.heap.size+2,1,none⟩) sZ _)
 have HE:=zI (hF.out (by rw [hr];simpa using hq));rw [hq] at hn;have H8:g.s=os:=by simpa using hq
 have gR:g.c.length=pre*n:=by
  have h0:(g.c.length:Int)=Safe.prod g.s:=by have:=hr;simp only [Tn.right,Zz,decide_eq_true_eq] at this;exact this.2
  rw [H8,gA.out] at h0;exact Int.ofNat.inj h0
 obtain ⟨hZ,hB,Gw,GO⟩:=zd4 hs hn gR H8;clear hs hn gR H8;clear hR hF hq hr;go_wp2_with fail;refine (hB.out).mono ?_;rintro e w4 ⟨rfl,q4,rfl⟩;have hX:=hZ.out.drewN q4;clear g0' hB gx Hn hZ;generalize w3.drewN q4=w4 at *;have gO:=Ha.out.trans hX;have hA:=hX.blk hW.out;have Hi:=hX.blk hS.out;have gt:=hX.blk Hk.out;have g6:=HI.out.below hX (lrZ _);clear hX Ha hW hS Hk HI;have b0:w4.cell? ⟨w.heap.size,0,none⟩=_:=hA.cell 0;have b1:w4.cell? ⟨w.heap.size,1,none⟩=_:=hA.cell 1;simp at b0 b1;obtain ⟨HD,Hy,He,ge,HV⟩:=zd5 gO hA Hi gt g6;clear gO hA Hi gt g6;go_wp2_with fail;refine (qa8 S C c d x w4 oZ oZ (Hx.out.later HD.out).r).mono ?_;rintro e w5 ⟨v,rfl,⟨gg,h,rfl,GP,hh,hG,hH⟩,gu⟩;have H5:Later w4 w5:=gu;have Hd:Later w5 (w5.alloc (.cells #[.slice (some ⟨gg,0,none⟩) x.s.length x.s.length,.slice (some ⟨h,0,none⟩) x.c.length x.c.length] 30)):=(Later.refl w5).alloc _;have ho:=Blk.new w5 30 #[.slice (some ⟨gg,0,none⟩) x.s.length x.s.length,.slice (some ⟨h,0,none⟩) x.c.length x.c.length];have hU:=H5.trans Hd;have gI:=HD.out.trans hU;have Hs:=hU.blk Hy.out;have Hc:=hU.blk He.out;have g9:=hU.blk ge.out;have gb:=HV;have gn:=HV.out.below hU (lrZ _);have Ga:=Hd.blk hG;have gX:=Hd.blk hH;have GE:=ge.out.lt;have HZ:=qb1 hG hH;have GL:=hH.lt;have Gx:=hG.lt;have Ge:=HD.out.size;clear gu b0 b1 hG hH HD Hy He ge HV;obtain ⟨Gy,Gp,Ho,Gt,Gj,HP,H7,Gq,GD⟩:=zd9 H5 Hd ho hU gI Hs Hc g9 gn;obtain ⟨Gz,gq⟩:=zd2 Ga gX;clear H5 Hd ho hU gI Hs Hc g9 gn Ga gX;go_upto_region 7 with fail;generalize w5.alloc (.cells #[.slice (some ⟨gg,0,none⟩) x.s.length x.s.length,.slice (some ⟨h,0,none⟩) x.c.length x.c.length] 30)=w6 at *;generalize hqe:w5.heap.size=q at *;have HT:gg≠h:=HZ;have HW:q≠h:=by omega
 have Gr:w.heap.size+2<h:=by omega
 have HH:0<x.c.length:=by
  have e1:=(Sh.right_mul Gf.out).2.2.2.2.1;rw [gA.out] at e1
  have e2:1<=pre:=by
   rcases Nat.eq_zero_or_pos pre with h0|h0
   ·rw [h0,Nat.zero_mul] at e1;simp at e1
   ·exact h0
  have e3:1*1<=pre*sd:=Nat.mul_le_mul e2 oZ;have:=HB.out;omega
 clear Gy Gp hqe;have o1:w6.cell? ⟨q,1,none⟩=_:=Ho.out.cell 1;simp at o1;go_wp2_with (refine qaL rfl (.tmp 48) 28 22 rfl Tryz.underlying28 Tryz.zeroValue22 h 22 x.c x.c.length rfl gq.out HH ?_);intro w7 g4 HS;have HF:PbI 30 w q h gg #[.slice S x.s.length c,.slice C x.c.length d] #[.slice GS g.s.length gc,.slice GC g.c.length gd] #[.slice (some ⟨gg,0,none⟩) x.s.length x.s.length,.slice (some ⟨h,0,none⟩) x.c.length x.c.length] x.s (Ly.zeros x.c.length) w7:=(PbI.mk (acc:=x.c) gq.out Gz.out Ho.out HP.out H7.out Gq.out ⟨HT,HW,Gr,by omega⟩ Gj.out).else_ HS g4;have gS:Later w4 w7:=Below.trans Gt.out (HS.2.2.mono hh);have g8:=gb.out.below gS (lrZ _);obtain ⟨bs,os',rfl,-,y0⟩:=(Hx.out.later HF.later).r.1 (x.s.length-1) oZ;obtain ⟨ba,oa,rfl,-,y1o⟩:=g8 (x.s.length-1) (by show _<os.length;have:=gp.out;omega);rw [H2.out] at y0;have y1:w7.cell? ⟨ba,oa+(x.s.length-1),none⟩=some (.int .i64 n):=by rw [y1o];exact congrArg (λz=>some (Za1 .i64 z)) H4.out
 clear y1o;have b0:w7.cell? ⟨w.heap.size,0,none⟩=some (.slice (some ⟨bs,os',none⟩) x.s.length c):=by rw [HF.bx.cell];rfl
 have e1:IntKind.i64.wrap ((x.s.length:Int)-1)=(x.s.length:Int)-1:=Zc1 _ oZ;have e2:(0:Int)<=(x.s.length:Int)-1:=by omega
 have e3:(x.s.length:Int)-1<(x.s.length:Int):=by omega
 have e4:((x.s.length:Int)-1).toNat=x.s.length-1:=by omega
 clear g4 HS o1 g8 gS;have HM:=zI HF;clear HF;rw [gp.out];go_upto_region 8 with fail
 go_quiet (fail)
 clear e1 e2 e3 e4 b0 y0 y1;have g1:(w7.drewN nq).cell? ⟨w.heap.size+1,1,none⟩=some (.slice GC g.c.length gd):=by rw [(HM.out.bg.drewN nq).cell];rfl
 obtain ⟨N,hN⟩:∃N,N=pre*n:=⟨_,rfl⟩
 have gh:g.c.length=N:=by rw [hN];exact Gw.out
 have gT:PbI 30 w q h gg #[.slice (some ⟨bs,os',none⟩) x.s.length c,.slice C x.c.length d] #[.slice GS g.s.length gc,.slice GC g.c.length gd] #[.slice (some ⟨gg,0,none⟩) x.s.length x.s.length,.slice (some ⟨h,0,none⟩) x.c.length x.c.length] x.s (Ly.poolX top x.c g.c sd n (wd:Int) st 0) (w7.drewN nq):=HM.out.to ((Later.refl w7).drewN nq);have HX:x.c.length<=d:=Hx.out.c1;have Gs:d<=9223372036854775807:=Hx.out.c2;have hu:=Ly.poolX_facts (top:=top) (x:=x.c) Hg.out.num sd n (wd:Int) st;rw [gh] at HE;obtain ⟨gV,H6,HN,hv⟩:=zd4 gT gh hN hu;clear gT gh hN hu;go_wp2_with fail;clear g1
 go_loopw [65] (λi wx=>∃k:Nat,k<=N/\i=.int .i64 (k:Int)/\PbI 30 w q h gg #[.slice (some ⟨bs,os',none⟩) x.s.length c,.slice C x.c.length d] #[.slice GS g.s.length gc,.slice GC g.c.length gd] #[.slice (some ⟨gg,0,none⟩) x.s.length x.s.length,.slice (some ⟨h,0,none⟩) x.c.length x.c.length] x.s (Ly.poolX top x.c g.c sd n (wd:Int) st k) wx) (λi _=>N-(intOf i).toNat)
 case atStart=>exact ⟨0,Zt _,rfl,gV.out⟩
 case round=>
  obtain ⟨k,hk,rfl,hJ⟩:=hrel;clear gV HM
  by_cases GH:k<N
  ·have HK:k<pre*n:=by have:=HN.out;omega
   have HU:=Ly.from_bd (pre:=pre) (sd:=sd) h8 h9 HK;rw [←HB.out] at HU;obtain ⟨hD,Hj⟩:=hv.out k;obtain ⟨bc,oc,rfl,Go,-⟩:=Hx.out.cell (k:=0) oZ;obtain ⟨bg,og,rfl,-,gk⟩:=(Hg.out.later hJ.later).cell (k:=k) (by have:=H6.out;omega);have Hr:=Ly.at_in Hg.out.num k;have g7:=Ly.win_len (c:=x.c) (sd:=sd) (n:=n) (wd:=wd) (st:=st) (i:=k) HU;have gv:=λ(V:Zp1)=>qbG bc oc d x.c.length sd n wd st pre k V HX Gs HB.out gK h8 h5 h9 HK (by have:=HN.out;omega) gC g3
   have gY:=λ(V:Zp1)=>(show Calls Tryz.prog 59 #[.slice (some ⟨h,0,none⟩) x.c.length x.c.length,.int .i64 k,.int .i64 sd,.int .i64 n,.int .i64 wd,.int .i64 st] V λe w'=>e=.returned (.slice (some ⟨h,Ly.from_ sd n st k,none⟩) wd (x.c.length-Ly.from_ sd n st k))/\∃q,w'=V.drewN q from by
    have:=qbG h 0 x.c.length x.c.length sd n wd st pre k V (lrZ _) oZ HB.out gK h8 h5 h9 HK (by have:=HN.out;omega) gC g3
    rwa [Zw] at this)
   have gy:=λ(V:Zp1) (hV:Later wr V)=>(Hx.out.later (hJ.later.trans hV)).win (sd:=sd) (n:=n) (st:=st) (i:=k) (wd:=wd) HU
   have hc:Ly.poolX top x.c g.c sd n (wd:Int) st (k+1)=Ly.poolStep top x.c sd n (wd:Int) st (Ly.poolX top x.c g.c sd n (wd:Int) st k) k (Ly.at_ g.c k):=rfl;unfold Ly.poolStep at hc;rw [tnZ] at hc;obtain ⟨acc',hacc⟩:∃acc',acc'=Ly.poolX top x.c g.c sd n (wd:Int) st (k+1):=⟨_,rfl⟩
   rw [←hacc] at hc;generalize Ly.poolX top x.c g.c sd n (wd:Int) st k=acc at *;generalize Ly.at_ g.c k=vk at *;generalize Ly.from_ sd n st k=fr at *;generalize Ly.win x.c sd n wd st k=wn at *;have b1:wr.cell? ⟨w.heap.size,1,none⟩=some (.slice (some ⟨bc,oc,none⟩) x.c.length d):=by rw [hJ.bx.cell];rfl
   have o1:wr.cell? ⟨q,1,none⟩=some (.slice (some ⟨h,0,none⟩) x.c.length x.c.length):=by rw [hJ.box.cell];rfl
   have kk1:(k:Int)<(g.c.length:Int):=by have:=H6.out;omega
   have B1:=zI b1;clear Go b1;obtain ⟨HJ,Gg,Gk,gP,hM,Hp,HC,Ht,HA⟩:=zd9 hJ gv gY gy hc g7 Hj Hr hD;have Hf:=zI hacc;clear hJ gv gY gy hc g7 Hj Hr hD hacc;go_wp2_with fail;clear gk;refine (Gk.out _).mono ?_;rintro e wa ⟨rfl,q1,rfl⟩;have hO:Later wr (wr.drewN q1):=(Later.refl wr).drewN q1;have gG:=HJ.out.to hO;have gL:=gP.out _ hO;have b1:=hO.cell B1.out;clear o1 HJ gP B1 hO;generalize wr.drewN q1=wq at *;obtain ⟨H9,gj⟩:=zd2 gG gL;clear gG gL;rcases gl.out with ⟨rfl,rfl⟩|⟨rfl,rfl⟩
   ·go_wp2_with fail
    refine (Gg.out _).mono ?_;rintro e wb ⟨rfl,q2,rfl⟩;clear b1;have hO:Later wq (wq.drewN q2):=(Later.refl wq).drewN q2;have hK:=H9.out.to hO;have gH:=gj.out.below hO (lrZ _);have g2:=qdo (l:=wn) (k:=wn.length) (by have:=Hp.out;omega);obtain ⟨m,hm⟩:∃m:Nat,Ly.best wn wn.length=(m:Int):=⟨_,(Int.toNat_of_nonneg g2.1).symm⟩
    have GA:m<wd:=by have:=Hp.out;omega
    have gU:=(show Calls Tryz.prog 60 #[.slice (some ⟨bc,oc+fr,none⟩) wd (d-fr)] (wq.drewN q2) λe w'=>e=.returned (.int .i64 (m:Int))/\(wq.drewN q2)=w' from by
     have hd:=qe3 (some ⟨bc,oc+fr,none⟩) (d-fr) wn (wq.drewN q2) (by have:=Hp.out;omega) gH;rw [hm,Hp.out] at hd;exact hd)
    have hD:=HA.out;have hb:=hM.out;rw [if_pos trivial] at hb;have gM:Ly.best wn wd=(m:Int):=by rw [←hm,Hp.out]
    rw [gM,tnZ] at hb;clear gM;generalize wq.drewN q2=wc at *
    have am:wc.cell? ⟨h,fr+m,none⟩=some (.int .i64 (Ly.at_ acc (fr+m))):=by
     have:=hK.own.row_get (k:=fr+m) (by show fr+m<acc.length;omega);rw [this];simp [Ly.at_get (show fr+m<acc.length by omega)]
    have af:=hK.own.frozen (fr+m);have Hm:=Ly.at_in HC.out (fr+m);have he:=λV=>qaM (Ly.at_ acc (fr+m)) vk V Hm Ht.out
    have hi:=hK.put (fr+m) (Fx.add (Ly.at_ acc (fr+m)) vk);rw [show acc.set (fr+m) (Fx.add (Ly.at_ acc (fr+m)) vk)=acc' from hb.symm,Hf.out] at hi;generalize Ly.at_ acc (fr+m)=av at *;have k3:(m:Int)<(wd:Int):=by omega
    have k4:(0:Int)<=(m:Int):=by omega
    clear hb hm g2 hO gH Hm hD;obtain ⟨HL,Gn,hw,hP⟩:=zd4 hK gU he hi;clear hK gU he hi;go_wp2_with fail;refine (Gn.out).mono ?_;rintro e w' ⟨rfl,rfl⟩;go_wp2_with fail;refine (hw.out _).mono ?_;rintro e w' ⟨rfl,rfl⟩;go_wp2_with fail;go_roundw
    case rel=>exact ⟨k+1,by omega,by go_num,hP.out⟩
    case measure=>simp [intOf];omega
   ·have Hl:Fx.In ((wd:Int)*4294967296):=by unfold Fx.In;omega
    have Hu:=λ(V:Zp1)=>qc6 (wd:Int) V oZ oZ
    have Hq:=λ(V:Zp1)=>qg5 vk ((wd:Int)*4294967296) V Ht.out Hl
    have hb:=hM.out;rw [if_neg sZ] at hb;have gE:=Fx.div_in vk ((wd:Int)*4294967296);generalize Fx.div vk ((wd:Int)*4294967296)=y at *;clear Hl;obtain ⟨gi,HR,H0,gW⟩:=zd4 Hu Hq hb gE;clear Hu Hq hb gE;go_wp2_with fail;refine (gi.out _).mono ?_;rintro e w' ⟨rfl,rfl⟩;go_wp2_with fail;refine (HR.out _).mono ?_;rintro e wc ⟨rfl,q3,rfl⟩;have hK:=H9.out.to ((Later.refl wq).drewN q3);clear b1 H9 gj;generalize wq.drewN q3=wc at *;have g5:=λj=>Ly.addRow_facts HC.out fr gW.out j
    obtain ⟨HL,Gi⟩:=zd2 hK g5;clear hK g5;go_upto_region 18 with fail
    go_loopw [104] (λi wx=>∃j:Nat,j<=wd/\i=.int .i64 (j:Int)/\PbI 30 w q h gg #[.slice (some ⟨bs,os',none⟩) x.s.length c,.slice (some ⟨bc,oc,none⟩) x.c.length d] #[.slice GS g.s.length gc,.slice (some ⟨bg,og,none⟩) g.c.length gd] #[.slice (some ⟨gg,0,none⟩) x.s.length x.s.length,.slice (some ⟨h,0,none⟩) x.c.length x.c.length] x.s (Ly.addRow acc fr y j) wx) (λi _=>wd-(intOf i).toNat)
    case atStart=>exact ⟨0,Zt _,rfl,HL.out⟩
    case round=>
     obtain ⟨j,hj,rfl,hQ⟩:=hrel;clear HL
     by_cases GK:j<wd
     ·obtain ⟨gf,hT⟩:=Gi.out j
      have hD:=HA.out;have ht:Ly.addRow acc fr y (j+1)=(Ly.addRow acc fr y j).set (fr+j) (Fx.add (Ly.at_ (Ly.addRow acc fr y j) (fr+j)) y):=rfl;obtain ⟨A1,hA1⟩:∃A1,A1=Ly.addRow acc fr y (j+1):=⟨_,rfl⟩
      rw [←hA1] at ht;generalize Ly.addRow acc fr y j=A0 at *
      have am:wr.cell? ⟨h,fr+j,none⟩=some (.int .i64 (Ly.at_ A0 (fr+j))):=by
       have:=hQ.own.row_get (k:=fr+j) oZ;rw [this,Ly.at_get (show fr+j<A0.length by omega)]
      have af:=hQ.own.frozen (fr+j);have he:=λV=>qaM (Ly.at_ A0 (fr+j)) y V (Ly.at_in hT (fr+j)) gW.out
      have hi:=hQ.put (fr+j) (Fx.add (Ly.at_ A0 (fr+j)) y);rw [←ht,hA1] at hi;generalize Ly.at_ A0 (fr+j)=av at *;have k3:(j:Int)<(wd:Int):=by omega
      clear ht gf hD hA1;obtain ⟨HQ,hw,hP,Gl⟩:=zd4 hQ he hi hT;clear hQ he hi hT;go_wp2_with fail;refine (hw.out _).mono ?_;rintro e w' ⟨rfl,rfl⟩;go_wp2_with fail;go_roundw
      case rel=>exact ⟨j+1,by omega,by go_num,hP.out⟩
      case measure=>simp [intOf];omega
     ·obtain rfl:j=wd:=by omega
      rw [←H0.out,Hf.out] at hQ;have HQ:=zI hQ;clear hQ;go_wp2_with fail;go_roundw
      case rel=>exact ⟨k+1,by omega,by go_num,HQ.out⟩
      case measure=>simp [intOf];omega
  ·obtain rfl:k=N:=by omega
   have kk2:¬(k:Int)<(g.c.length:Int):=by have:=H6.out;omega
   obtain ⟨hD,Hj⟩:=hv.out k;generalize Ly.poolX top x.c g.c sd n (wd:Int) st k=acc at *;have o0:wr.cell? ⟨q,0,none⟩=some (.slice (some ⟨gg,0,none⟩) x.s.length x.s.length):=by rw [hJ.box.cell];rfl
   have o1:wr.cell? ⟨q,1,none⟩=some (.slice (some ⟨h,0,none⟩) x.c.length x.c.length):=by rw [hJ.box.cell];rfl
   have c0:=hJ.bz.cell 0;have c1:=hJ.bz.cell 1;have f0:=hJ.bz.frozen 0;have f1:=hJ.bz.frozen 1;simp at c0 c1;have ha:=(hJ.bz.set_ 0 (.slice (some ⟨gg,0,none⟩) x.s.length x.s.length)).set_ 1 (.slice (some ⟨h,0,none⟩) x.c.length x.c.length);have d0:=ha.cell 0;have d1:=ha.cell 1;simp at d0 d1;obtain ⟨HJ,HC,Gc,HA⟩:=zd4 hJ Hj ha hD;clear hJ Hj ha hD;go_wp2_with fail;refine Zk1 (v:=.tuple #[.agg #[.slice (some ⟨gg,0,none⟩) x.s.length x.s.length,.slice (some ⟨h,0,none⟩) x.c.length x.c.length],.int .i64 0]) (by simp [results,Tryz.results14,go_sem,d0,d1]) rfl ?_;exact HJ.out.done HE.out HA.out oZ (by have:=HA.out;omega) HC.out _ _
namespace Ly
theorem sumAt_app (k:Nat):∀a b:List Ten,sumAt k (a++b)=sumAt k a+sumAt k b
 | [],b=>by simp [sumAt]
 | t::r,b=>by
  have:=sumAt_app k r b;simp only [sumAt,List.cons_append,List.foldr_cons] at this ⊢;omega
theorem sumAt_one (k:Nat) (t:Ten):sumAt k [t]=t.s.getD k 0:=by simp [sumAt]
theorem qdt {k:Nat}:∀ {l:List Ten},(∀t∈l,0<=t.s.getD k 0)->0<=sumAt k l
 | [],_=>by simp [sumAt]
 | t::r,h=>by
  have h1:=h t sZ;have h2:=qdt (k:=k) (l:=r) (λu hu=>h u (List.mem_cons_of_mem _ hu));simp only [sumAt,List.foldr_cons] at h2 ⊢;omega
def jcut (sd:Int) (g:Ten) (frm:Int) (t:Ten):Ten:=(cut g sd frm (frm+at_ t.s sd.toNat)).1
def jlist (sd:Int) (g:Ten):Int->List Ten->List Ten
 | _,[]=>[]
 | f,t::r=>jcut sd g f t::jlist sd g (f+at_ t.s sd.toNat) r
theorem jlist_len (sd:Int) (g:Ten):∀(l:List Ten) (f:Int),(jlist sd g f l).length=l.length
 | [],_=>rfl
 | _::r,f=>by simp [jlist,jlist_len sd g r]
theorem jlist_get (sd:Int) (g:Ten):∀(l:List Ten) (f:Int) (j:Nat),j<l.length->got (jlist sd g f l) j=jcut sd g (f+sumAt sd.toNat (l.take j)) (got l j)
 | [],_,_,h=>absurd h sZ
 | t::r,f,0,_=>by simp [jlist,got,sumAt]
 | t::r,f,j+1,h=>by
  have:=jlist_get sd g r (f+at_ t.s sd.toNat) j (by simpa using h);have e1:got (jlist sd g f (t::r)) (j+1)=got (jlist sd g (f+at_ t.s sd.toNat) r) j:=by simp [jlist,got]
  have e2:got (t::r) (j+1)=got r j:=by simp [got]
  rw [e1,this,e2]
  congr 1
  simp only [List.take_succ_cons,sumAt,List.foldr_cons,at_];omega
theorem jb_ok (sd:Int) (g:Ten):∀(l:List Ten) (f:Int),(∀j,j<l.length->(cut g sd (f+sumAt sd.toNat (l.take j)) (f+sumAt sd.toNat (l.take j)+at_ (got l j).s sd.toNat)).2=0)->qb0 sd g f l=(jlist sd g f l,0)
 | [],_,_=>rfl
 | t::r,f,h=>by
  have h0:=h 0 sZ;have e0:f+sumAt sd.toNat ((t::r).take 0)=f:=by simp [sumAt]
  rw [e0] at h0;have e1:got (t::r) 0=t:=rfl;rw [e1] at h0
  have ih:=jb_ok sd g r (f+at_ t.s sd.toNat) λj hj=>by
   have:=h (j+1) (by simpa using hj);have e2:got (t::r) (j+1)=got r j:=by simp [got]
   have e3:f+sumAt sd.toNat ((t::r).take (j+1))=f+at_ t.s sd.toNat+sumAt sd.toNat (r.take j):=by
    simp only [List.take_succ_cons,sumAt,List.foldr_cons,at_];omega
   rw [e2,e3] at this;exact this
  unfold qb0;rw [if_pos h0,ih]
  rfl
theorem joinBack_err {sd:Int} {g:Ten} {x:List Ten} (h:(joined sd x).2≠0):joinBack sd g x=([],(joined sd x).2):=by unfold joinBack;rw [if_neg h]
theorem joinBack_bad {sd:Int} {g:Ten} {x:List Ten} (h:(joined sd x).2=0) (hg:(Tn.right g&&(g.s==(joined sd x).1))=false):joinBack sd g x=([],20):=by
 unfold joinBack;rw [if_pos h,if_neg];intro hh;rw [Zz,decide_eq_true_eq] at hh;rw [hh.1,hh.2] at hg;simp at hg
theorem jb_each {sd:Int} {x:List Ten} {g:Ten} (h:(joined sd x).2=0) (hg:Tn.right g=true) (hs:g.s=(joined sd x).1) {j:Nat} (hj:j<x.length):
  (cut g sd (sumAt sd.toNat (x.take j)) (sumAt sd.toNat (x.take j)+at_ (got x j).s sd.toNat)).2=0/\(cut g sd (sumAt sd.toNat (x.take j)) (sumAt sd.toNat (x.take j)+at_ (got x j).s sd.toNat)).1.s=(got x j).s/\
  0<=sumAt sd.toNat (x.take j)/\1<=at_ (got x j).s sd.toNat/\sumAt sd.toNat (x.take j)+at_ (got x j).s sd.toNat<=1024/\sd.toNat<(got x j).s.length/\0<=sd:=by
 obtain ⟨k,rfl,hu,hk,ha,hr,hd⟩:=joined_facts h;rw [tnZ];rw [←hs] at hk ha hr hd;obtain ⟨hw,hn⟩:=ha (got x j) (by rw [qam hj];exact gmZ _);have hc:=hw;simp only [Tn.right,Zz,decide_eq_true_eq] at hc;obtain ⟨_,_,_,hq,_,_⟩:=Sh.right_mul hc.1;obtain ⟨_,_,_,hp,_,_⟩:=Sh.right_mul hr;have he:k<(got x j).s.length:=by rw [hn.len];exact hk
 have hm:=hq _ (gmZ he);have hy:=hp _ (gmZ hk);have ea:at_ (got x j).s k=(got x j).s[k]:=qaX he;have eg:g.s.getD k 0=g.s[k]:=qaX hk
 have hh:∀t∈x,0<=t.s.getD k 0:=λt ht=>by
  obtain ⟨h1,h2⟩:=ha t ht;simp only [Tn.right,Zz,decide_eq_true_eq] at h1;obtain ⟨_,_,_,hb,_,_⟩:=Sh.right_mul h1.1;have hf:k<t.s.length:=by rw [h2.len];exact hk
  have:=hb _ (gmZ hf);rw [qaX hf];omega
 have hF:=qdt (k:=k) (l:=x.take j) λt ht=>hh t (Zh ht)
 have hD:=qdt (k:=k) (l:=x.drop (j+1)) λt ht=>hh t (Zp ht)
 have hv:sumAt k x=sumAt k (x.take j)+(at_ (got x j).s k+sumAt k (x.drop (j+1))):=by
  have e:x=x.take j++([got x j]++x.drop (j+1)):=by rw [qam hj,List.singleton_append,←Zd hj,Zn]
  have:=congrArg (sumAt k) e;rw [sumAt_app,sumAt_app,sumAt_one] at this;exact this
 generalize sumAt k (x.take j)=F at *
 have hcut:Od.cut g.s (k:Int) F (F+at_ (got x j).s k)=(g.s.set k (at_ (got x j).s k),0):=by
  unfold Od.cut;rw [if_pos hr,if_pos]
  ·rw [tnZ,show F+at_ (got x j).s k-F=at_ (got x j).s k by omega]
  ·unfold Od.inR Od.at_
   rw [Zz,decide_eq_true_eq,decide_eq_true_eq,tnZ];refine ⟨⟨by omega,by omega⟩,hF,?_,by omega⟩;rw [hd,hv];omega
 have ho:(Od.cut g.s (k:Int) F (F+at_ (got x j).s k)).2=0:=by rw [hcut]
 rw [cut_ok hg ho];refine ⟨rfl,?_,hF,by omega,by omega,he,by omega⟩
 show (Od.cut g.s (k:Int) F (F+at_ (got x j).s k)).1=_
 rw [hcut]
 show g.s.set k _=_
 apply List.ext_getElem?;intro i
 by_cases hi:i=k
 ·subst hi
  rw [Zr hk,geZ he,ea]
 ·rw [Zs (Ne.symm hi)]
  have:=hn.same i hi;rw [gdZ,gdZ] at this
  by_cases hl:i<g.s.length
  ·have hx:i<(got x j).s.length:=by rw [hn.len];exact hl
   rw [geZ hl,geZ hx] at this ⊢;simpa using this.symm
  ·rw [Zi oZ,Zi (by rw [hn.len];omega)]
theorem joinBack_ok {sd:Int} {g:Ten} {x:List Ten} (h:(joined sd x).2=0) (hg:Tn.right g=true) (hs:g.s=(joined sd x).1):joinBack sd g x=(jlist sd g 0 x,0):=by
 unfold joinBack;rw [if_pos h,if_pos (by rw [hg,hs];simp)];exact jb_ok sd g x 0 λj hj=>by rw [Int.zero_add];exact (jb_each h hg hs hj).1
theorem cbk_right {x g:Ten} {sd frm til:Int} (h:Tn.right x=false):cutBack x g sd frm til=(none_,20):=by unfold cutBack;rw [h];rfl
theorem cbk_err {x g:Ten} {sd frm til:Int} (h:Tn.right x=true) (h2:(Od.cut x.s sd frm til).2≠0):cutBack x g sd frm til=(none_,(Od.cut x.s sd frm til).2):=by unfold cutBack;rw [if_pos h,if_neg h2]
theorem cbk_bad {x g:Ten} {sd frm til:Int} (h:Tn.right x=true) (h2:(Od.cut x.s sd frm til).2=0) (hg:(Tn.right g&&(g.s==(Od.cut x.s sd frm til).1))=false):cutBack x g sd frm til=(none_,20):=by
 unfold cutBack;rw [if_pos h,if_pos h2,if_neg];intro hh;rw [Zz,decide_eq_true_eq] at hh;rw [hh.1,hh.2] at hg;simp at hg
theorem cbk_ok {x g:Ten} {sd frm til:Int} (h:Tn.right x=true) (h2:(Od.cut x.s sd frm til).2=0) (hg:Tn.right g=true) (hs:g.s=(Od.cut x.s sd frm til).1):
  cutBack x g sd frm til=(⟨x.s,cutX x.c.length (side x.s sd.toNat * span ((Od.cut x.s sd frm til).1.drop (sd.toNat+1))) (frm.toNat * span ((Od.cut x.s sd frm til).1.drop (sd.toNat+1))) ((til.toNat-frm.toNat)*span ((Od.cut x.s sd frm til).1.drop (sd.toNat+1))) g.c (x.c.length / (side x.s sd.toNat * span ((Od.cut x.s sd frm til).1.drop (sd.toNat+1))))⟩,0):=by
 unfold cutBack;rw [if_pos h,if_pos h2,if_pos (by rw [hg,hs];simp)]
theorem cutX_facts {n row a part:Nat} {g:List Int} (hg:∀z∈g,Fx.In z):∀k,(∀i,i<k->i*row+a+part<=n/\i*part+part<=g.length)->(cutX n row a part g k).length=n/\∀z∈cutX n row a part g k,Fx.In z
 | 0,_=>⟨zeros_len _,qds _⟩
 | k+1,h=>by
  obtain ⟨h1,h2⟩:=cutX_facts hg k λi hi=>h i oZ
  obtain ⟨h3,h4⟩:=h k oZ;have hl:((g.drop (k*part)).take part).length=part:=by rw [Zo,Zq];omega
  refine ⟨?_,λz hz=>?_⟩
  ·show (splice _ _ _).length=n
   rw [length_splice _ _ _ (by rw [hl,h1];omega),h1]
  ·have hz:z∈splice (cutX n row a part g k) (k*row+a) ((g.drop (k*part)).take part):=hz
   unfold splice at hz;rcases List.mem_append.1 hz with hz|hz
   ·exact h2 z (Zh hz)
   ·rcases List.mem_append.1 hz with hz|hz
    ·exact hg z (Zp (Zh hz))
    ·exact h2 z (Zp hz)
end Ly
set_option maxRecDepth 20000 in
theorem cut_back (S C GS GC:Option Addr) (c d gc gd:Nat) (x g:Ten) (sd frm til:Int) (w:Zp1) (hx:TenIn w S C c d x) (hg:TenIn w GS GC gc gd g):
  Calls Tryz.prog 16 #[.agg #[.slice S x.s.length c,.slice C x.c.length d],.agg #[.slice GS g.s.length gc,.slice GC g.c.length gd],.int .i64 sd,.int .i64 frm,.int .i64 til] w (GoP (Ly.cutBack x g sd frm til) w):=by
 have gS:(Tryz.prog.info? 22).map (·.size)=some 1:=by
  obtain ⟨i0,hi,-,Gh,-⟩:=info_parts qbL;rw [hi];exact congrArg some Gh
 obtain ⟨gD,gN,hz,gQ⟩:=qal w 30 30 30 #[.slice S x.s.length c,.slice C x.c.length d] #[.slice GS g.s.length gc,.slice GC g.c.length gd] #[.slice none 0 0,.slice none 0 0];have lg1:=hg.l1;have lg2:=hg.l2;have lx1:=hx.l1;have lx2:=hx.l2;obtain ⟨gh,gk,Hz,H1,Hx,Hg⟩:=zd6 gD gN hz gQ hx hg;clear gD gN hz gQ hx hg;go_enter Tryz.func16,Tryz.ntmps16;go_wp2_with fail;generalize ((w.alloc (.cells #[.slice S x.s.length c,.slice C x.c.length d] 30)).alloc (.cells #[.slice GS g.s.length gc,.slice GC g.c.length gd] 30)).alloc (.cells #[.slice none 0 0,.slice none 0 0] 30)=w1 at *;refine (qa2 S C c d x w1 oZ oZ (Hx.out.later H1.out).r.1).mono ?_;rintro e w2 ⟨rfl,gU⟩;have Hu:Later w1 w2:=gU;have HK:=H1.out.trans Hu;have hX:=Hu.blk Hz.out;have hC:=Hu.blk gh.out;have hF:=Hu.blk gk.out;clear gU Hz H1 gh gk Hu;cases hr:Tn.right x
 ·have HE:=zI (Ly.cbk_right (g:=g) (sd:=sd) (frm:=frm) (til:=til) hr)
  clear hr;have c0:=hX.cell 0;have c1:=hX.cell 1;have f0:=hX.frozen 0;have f1:=hX.frozen 1;simp at c0 c1;obtain ⟨HF,H7,h1,h4⟩:=zd4 HK hX hC hF;clear HK hX hC hF;go_wp2_with fail;refine Zk1 (v:=.tuple #[.agg #[.slice none 0 0,.slice none 0 0],.int .i64 20]) (by simp [results,Tryz.results16,go_sem,c0,c1]) rfl ?_;exact GoP.fail HE.out dZ ((HF.out.set (p:=⟨w.heap.size+2,0,none⟩) sZ _).set (p:=⟨w.heap.size+2,1,none⟩) sZ _)
 have x0:=hC.cell 0;simp at x0;obtain ⟨HF,H7,h1,h4⟩:=zd4 HK hX hC hF;clear HK hX hC hF;go_wp2_with fail;clear x0;refine (qct S c x.s sd frm til w2 oZ (Hx.out.later HF.out).r.1).mono ?_;rintro e w3 ⟨A,ac,rfl,hI,gK,GG,hf,gG⟩;have Hv:Later w2 w3:=gG;have Hc:=HF.out.trans Hv;have hn:=Hv.blk H7.out;have hM:=Hv.blk h1.out;have ht:=Hv.blk h4.out;clear gG H7 h1 h4 Hv hf HF
 by_cases hD:(Od.cut x.s sd frm til).2=0
 case neg=>
  have HE:=zI (Ly.cbk_err (g:=g) hr hD);have Gb:=zI hD;have d1:((Od.cut x.s sd frm til).2==0)=false:=by simpa using hD
  have d2:((Od.cut x.s sd frm til).2 != 0)=true:=by simpa using hD
  clear hD hr;generalize (Od.cut x.s sd frm til).2=ge at *;generalize (Od.cut x.s sd frm til).1=os at *;have c0:=hn.cell 0;have c1:=hn.cell 1;have f0:=hn.frozen 0;have f1:=hn.frozen 1;simp at c0 c1;obtain ⟨Hh,Hb,h7,hZ,HI⟩:=zd5 Hc hn hM ht hI;clear Hc hn hM ht hI;go_wp2_with fail;refine Zk1 (v:=.tuple #[.agg #[.slice none 0 0,.slice none 0 0],.int .i64 ge]) (by simp [results,Tryz.results16,go_sem,c0,c1]) rfl ?_;exact GoP.fail HE.out Gb.out ((Hh.out.set (p:=⟨w.heap.size+2,0,none⟩) sZ _).set (p:=⟨w.heap.size+2,1,none⟩) sZ _)
 have h2:=λhh=>Ly.cbk_bad (g:=g) hr hD hh
 have hb:=λhh hs=>Ly.cbk_ok (g:=g) hr hD hh hs
 obtain ⟨k,S',f,t,inner,pre,rfl,rfl,rfl,hk,hS,GK,GE,GB,Gj,h5,g5,HW,gf,HH,Gi,Gx,g2⟩:=Ly.cut_facts hr hD;rw [hD];rw [g5] at hI gK h2 hb ⊢;have gp:(x.s.set k ((t-f:Nat):Int)).length=x.s.length:=List.length_set;have gu:Ly.side x.s k=S':=by show (x.s.getD k 0).toNat=S';rw [hS];exact tnZ _
 have Hl:Ly.span ((x.s.set k ((t-f:Nat):Int)).drop (k+1))=inner:=by unfold Ly.span;rw [HW];exact tnZ _
 simp only [tnZ,gu,Hl] at hb;have HX:0<(x.s.set k ((t-f:Nat):Int)).length:=by omega
 generalize x.s.set k ((t-f:Nat):Int)=os at *;obtain ⟨row,hrow⟩:∃row,row=S'*inner:=⟨_,rfl⟩
 obtain ⟨a,ha⟩:∃a,a=f*inner:=⟨_,rfl⟩
 obtain ⟨part,hpart⟩:∃part,part=(t-f)*inner:=⟨_,rfl⟩
 have Gk:a+part<=row:=by
  rw [ha,hpart,hrow,←Nat.add_mul];exact mlZ _ oZ
 have h3:1<=part:=by
  rw [hpart];have:1*1<=(t-f)*inner:=Nat.mul_le_mul oZ Gj;omega
 have hw:1<=row:=by omega
 rw [←hrow,←ha,←hpart] at hb;rw [←hrow] at HH;rw [←hpart] at gf;have hY:x.c.length / row=pre:=by rw [HH];exact Nat.mul_div_cancel _ hw
 rw [hY] at hb
 have gb:row<=65536:=by
  have:1*row<=pre*row:=mlZ _ h5;omega
 have gt:pre<=65536:=by
  have:pre*1<=pre*row:=Nat.mul_le_mul_left _ hw;omega
 have Ge:inner<=65536:=by
  have:1*inner<=S'*inner:=mlZ _ oZ;omega
 have e1:(S':Int)*(inner:Int)=(row:Int):=by rw [hrow];simp
 have e2:(f:Int)*(inner:Int)=(a:Int):=by rw [ha];simp
 have e3:((t:Int)-(f:Int))*(inner:Int)=(part:Int):=by rw [hpart,←Int.ofNat_sub oZ];simp
 have g8:os.length<=4:=by omega
 have Hp:=λ(V:Zp1) (hV:Ints .i64 V A os)=>(show Ints .i64 V A os from hV)
 clear Hp;obtain ⟨E1,E2,E3,Gn,Gw,g3,Go,gB,HS⟩:=zd9 e1 e2 e3 HW gf HH gp g2 hS;have HU:=zI hY;obtain ⟨ba,oa,g9,GD,-⟩:=hI 0 HX;subst g9;have g0:w3.cell? ⟨w.heap.size+1,0,none⟩=_:=ht.cell 0;have g1:w3.cell? ⟨w.heap.size+1,1,none⟩=_:=ht.cell 1;simp at g0 g1;have gR:=qa2 GS GC gc gd g w3 oZ oZ (Hg.out.later Hc).r.1;have gT:=λ(V:Zp1) (h:Later w3 V)=>qaa GS (some ⟨ba,oa,none⟩) gc ac g.s os V oZ oZ (Hg.out.later (Hc.trans h)).r.1 (hI.below h (lrZ _))
 clear gu Hl hrow ha hpart hY e1 e2 e3 HW gf HH gp g2 hS hr hD g5;obtain ⟨Hh,Hb,h7,hZ,HI,hv,hd,HC,gm⟩:=zd9 Hc hn hM ht hI h2 hb gR gT;clear Hc hn hM ht hI h2 hb gR gT;cases hr:Tn.right g
 ·have HE:=zI (hv.out (by rw [hr];rfl))
  rw [hr] at HC;clear hv hd hr;go_wp2_with fail;refine (HC.out).mono ?_;rintro e w4 ⟨rfl,hy⟩;have hB:Later w3 w4:=hy;have Hi:=hB.blk Hb.out;have gr:=Hh.out.trans hB;clear g0 g1 hy;have c0:=Hi.cell 0;have c1:=Hi.cell 1;have f0:=Hi.frozen 0;have f1:=Hi.frozen 1;simp at c0 c1;obtain ⟨Ha,GA,Gg⟩:=zd3 hB Hi gr;clear hB Hi gr;go_wp2_with fail;refine Zk1 (v:=.tuple #[.agg #[.slice none 0 0,.slice none 0 0],.int .i64 20]) (by simp [results,Tryz.results16,go_sem,c0,c1]) rfl ?_;exact GoP.fail HE.out dZ ((Gg.out.set (p:=⟨w.heap.size+2,0,none⟩) sZ _).set (p:=⟨w.heap.size+2,1,none⟩) sZ _)
 rw [hr] at HC;go_wp2_with fail;refine (HC.out).mono ?_;rintro e w4 ⟨rfl,hy⟩;have hB:Later w3 w4:=hy;have g0':=hB.cell g0;clear hy g0 g1;have hu:=gm.out _ hB;cases hq:(g.s==os)
 ·have HE:=zI (hv.out (by rw [hr,hq];rfl))
  rw [hq] at hu;clear hv hd hr hq;obtain ⟨Ha,hU⟩:=zd2 hB hu;clear hB hu;go_wp2_with fail;refine (hU.out).mono ?_;rintro e w5 ⟨rfl,q5,rfl⟩;have hL:=(Ha.out.drewN q5).blk Hb.out;have HG:=(Hh.out.trans Ha.out).drewN q5;clear g0';have c0:=hL.cell 0;have c1:=hL.cell 1;have f0:=hL.frozen 0;have f1:=hL.frozen 1;simp at c0 c1;obtain ⟨HL,He⟩:=zd2 hL HG;clear hL HG;go_wp2_with fail;refine Zk1 (v:=.tuple #[.agg #[.slice none 0 0,.slice none 0 0],.int .i64 20]) (by simp [results,Tryz.results16,go_sem,c0,c1]) rfl ?_;exact GoP.fail HE.out dZ ((He.out.set (p:=⟨w.heap.size+2,0,none⟩) sZ _).set (p:=⟨w.heap.size+2,1,none⟩) sZ _)
 rw [hq] at hu;have HN:g.s=os:=by simpa using hq
 have HE:=zI (hd.out hr HN)
 have gW:g.c.length=pre*part:=by
  have h0:(g.c.length:Int)=Safe.prod g.s:=by have:=hr;simp only [Tn.right,Zz,decide_eq_true_eq] at this;exact this.2
  rw [HN,Gw.out] at h0;exact Int.ofNat.inj h0
 obtain ⟨Ha,hU,gw,Gy⟩:=zd4 hB hu gW HN;clear hB hu gW HN;clear hv hd hq hr;go_wp2_with fail;refine (hU.out).mono ?_;rintro e w5 ⟨rfl,q5,rfl⟩;have Hf:=Ha.out.drewN q5;clear g0' hU gm HC Ha;generalize w4.drewN q5=w5 at *;have HG:=Hh.out.trans Hf;have hN:=Hf.blk h7.out;have HA:=Hf.blk hZ.out;have hL:=Hf.blk Hb.out;have go:=HI.out.below Hf (lrZ _);clear Hf Hh h7 hZ Hb HI;have b0:w5.cell? ⟨w.heap.size,0,none⟩=_:=hN.cell 0;have b1:w5.cell? ⟨w.heap.size,1,none⟩=_:=hN.cell 1;simp at b0 b1;obtain ⟨He,HD,Hw,HL,gJ⟩:=zd5 HG hN HA hL go;clear HG hN HA hL go;go_wp2_with fail;refine (qa8 S C c d x w5 oZ oZ (Hx.out.later He.out).r).mono ?_;rintro e w6 ⟨v,rfl,⟨gg,h,rfl,Gz,hh,hG,hH⟩,gP⟩;have H2:Later w5 w6:=gP;have Hs:Later w6 (w6.alloc (.cells #[.slice (some ⟨gg,0,none⟩) x.s.length x.s.length,.slice (some ⟨h,0,none⟩) x.c.length x.c.length] 30)):=(Later.refl w6).alloc _;have ho:=Blk.new w6 30 #[.slice (some ⟨gg,0,none⟩) x.s.length x.s.length,.slice (some ⟨h,0,none⟩) x.c.length x.c.length];have Hd:=H2.trans Hs;have gi:=He.out.trans Hd;have Hm:=Hd.blk HD.out;have Hk:=Hd.blk Hw.out;have gC:=Hd.blk HL.out;have gY:=Hs.blk hG;have gv:=Hs.blk hH;have GF:=HL.out.lt;have H8:=qb1 hG hH;have GI:=hH.lt;have Gf:=hG.lt;have Gc:=He.out.size;clear gP b0 b1 hG hH He HD Hw HL;obtain ⟨Gr,Gm,Ho,g4,gq,Hy,HB,gV,gn⟩:=zd9 H2 Hs ho Hd gi Hm Hk gC gY;have H3:=zI gv;clear H2 Hs ho Hd gi Hm Hk gC gY gv;go_upto_region 9 with fail;generalize w6.alloc (.cells #[.slice (some ⟨gg,0,none⟩) x.s.length x.s.length,.slice (some ⟨h,0,none⟩) x.c.length x.c.length] 30)=w7 at *;generalize hqe:w6.heap.size=q at *;have H4:gg≠h:=H8;have HV:q≠h:=by omega
 have Gq:w.heap.size+2<h:=by omega
 have HR:0<x.c.length:=by
  have:=g3.out;have:1*1<=pre*row:=Nat.mul_le_mul h5 hw;omega
 clear Gr Gm hqe;have o1:w7.cell? ⟨q,1,none⟩=_:=Ho.out.cell 1;simp at o1;go_wp2_with (refine qaL rfl (.tmp 52) 28 22 rfl Tryz.underlying28 Tryz.zeroValue22 h 22 x.c x.c.length rfl H3.out HR ?_);intro w8 gj HZ;have gH:PbI 30 w q h gg #[.slice S x.s.length c,.slice C x.c.length d] #[.slice GS g.s.length gc,.slice GC g.c.length gd] #[.slice (some ⟨gg,0,none⟩) x.s.length x.s.length,.slice (some ⟨h,0,none⟩) x.c.length x.c.length] x.s (Ly.zeros x.c.length) w8:=(PbI.mk (acc:=x.c) H3.out gn.out Ho.out Hy.out HB.out gV.out ⟨H4,HV,Gq,by omega⟩ gq.out).else_ HZ gj;have gL:Later w5 w8:=Below.trans g4.out (HZ.2.2.mono hh);have gI:=gJ.out.below gL (lrZ _)
 have hQ:Ints .i64 w8 (if ac=k+1 then some ⟨ba,oa,none⟩ else some ⟨ba,oa+(k+1),none⟩) (os.drop (k+1)):=by
  by_cases hO:ac=k+1
  ·rw [List.drop_eq_nil_of_le (hO▸gK)];exact Ints.nil
  ·rw [if_neg hO];exact gI.drop_ (k+1)
 have Gv:(os.drop (k+1)).length=os.length-(k+1):=Zq;have gF:=λj=>Safe.prod_take_le (os.drop (k+1)) j (λz hz=>(gB.out z (Zp hz)).1)
 have gZ:=λj=>Safe.prod_pos ((os.drop (k+1)).take j) (λz hz=>(gB.out z (Zp (Zh hz))).1)
 have gX:=λj hj=>Safe.prod_take_succ (os.drop (k+1)) j hj
 have Hj:Safe.prod (os.drop (k+1))=(inner:Int):=Gn.out;have GJ:k<os.length:=by have:=Go.out;omega
 clear gj HZ o1 gI gL gJ g4 gn H3 Ho Hy HB gV gq;obtain ⟨HM,HQ,H0,HY,gE,Hr⟩:=zd6 gH hQ gF gZ gX Hj;clear gH hQ gF gZ gX Hj;generalize os.drop (k+1)=dr at *;have q1:(k:Int)+1<=(os.length:Int):=by omega
 have q2:(os.length:Int)<=(ac:Int):=by omega
 go_upto_region 11 with fail
 go_cut [15,56,57,58] (λu v a b wx=>w8=wx/\u=.int .i64 1/\a=.int .i64 ((os.length-(k+1):Nat):Int)/\b=.int .i64 0/\∃Q cq,v=.slice Q (os.length-(k+1)) cq/\Ints .i64 w8 Q dr)
 case first=>
  have hQ:=HQ.out
  by_cases hO:ac=k+1
  ·have u9:(ac=k+1)=True:=eq_true hO
   rw [if_pos hO] at hQ;have HQ:=zI hQ;clear hQ;clear hO;go_wp2_with fail
   all_goals (go_meet;exact ⟨rfl,rfl,rfl,rfl,_,_,rfl,HQ.out⟩)
  ·have u9:(ac=k+1)=False:=eq_false hO
   rw [if_neg hO] at hQ;have u8:k+1<ac:=by omega
   have HQ:=zI hQ;clear hQ;clear hO;go_wp2_with fail
   all_goals (go_meet;exact ⟨rfl,rfl,rfl,rfl,_,_,rfl,HQ.out⟩)
 case rest=>
  obtain ⟨rfl,rfl,rfl,rfl,Qa,cq,rfl,gO⟩:=hcut;clear q1 q2 HQ;rw [←Gv];have g7:=zI gO;clear gO;go_upto_region 12 with fail
  go_loop [15,58] (λv i=>∃j:Nat,j<=dr.length/\i=.int .i64 (j:Int)/\v=.int .i64 (Safe.prod (dr.take j))) (λ_ i=>dr.length-(intOf i).toNat)
  case atStart=>exact ⟨0,Zt _,rfl,rfl⟩
  case round=>
   obtain ⟨j,hj,rfl,rfl⟩:=hrel
   by_cases H6:j<dr.length
   ·obtain ⟨bb,ob,Gs,-,hc⟩:=g7.out j H6
    subst Gs;rw [qaX H6] at hc;have p1:=HY.out j;have p2:=H0.out j;have p3:=HY.out (j+1);have p4:=H0.out (j+1);have p5:=gE.out j H6;rw [Hr.out] at p2 p4;obtain ⟨P',hP⟩:∃P',P'=Safe.prod (dr.take (j+1)):=⟨_,rfl⟩
    rw [←hP] at p3 p4 p5;have HP:=zI hP;clear hP;generalize Safe.prod (dr.take j)=P at *;have e1:P*dr[j]=P':=p5.symm;generalize dr[j]=z at *;clear p5;go_wp2_with fail
    go_round
    case rel=>exact ⟨j+1,by omega,by go_num,by rw [←HP.out]⟩
    case measure=>simp [intOf];omega
   ·obtain rfl:j=dr.length:=by omega
    rw [Zg,Hr.out];clear g7 H0 HY gE;obtain ⟨bs,os2,Gl,-,y0⟩:=(Hx.out.later HM.out.later).r.1 k hk;subst Gl;rw [HS.out] at y0;obtain ⟨bg,og,Gu,-,-⟩:=Hg.out.cell (k:=0) (by have:=gw.out;have:1*1<=pre*part:=Nat.mul_le_mul h5 h3;omega);subst Gu;have b0:w8.cell? ⟨w.heap.size,0,none⟩=some (.slice (some ⟨bs,os2,none⟩) x.s.length c):=by rw [HM.out.bx.cell];rfl
    have b1:w8.cell? ⟨w.heap.size,1,none⟩=some (.slice C x.c.length d):=by rw [HM.out.bx.cell];rfl
    have e1:=E1.out;have e3:=E3.out;have k1:(k:Int)<(x.s.length:Int):=by omega
    have z1:IntKind.i64.wrap ((S':Int)*(inner:Int))=(row:Int):=by rw [e1];exact Zc1 _ oZ
    have z2:IntKind.i64.wrap ((t:Int)-(f:Int))=(t:Int)-(f:Int):=Zc1 _ oZ;have z3:IntKind.i64.wrap (((t:Int)-(f:Int))*(inner:Int))=(part:Int):=by rw [e3];exact Zc1 _ oZ
    have z4:(x.c.length:Int) / (row:Int)=(pre:Int):=by
     rw [show (x.c.length:Int) / (row:Int)=((x.c.length / row:Nat):Int) by simp,HU.out]
    have z5:¬(row:Int)=0:=by omega
    clear e1 e3;go_upto_region 18 with fail;clear b0 b1 y0 z1 z2 z3 z4;have gx:PbI 30 w q h gg #[.slice (some ⟨bs,os2,none⟩) x.s.length c,.slice C x.c.length d] #[.slice GS g.s.length gc,.slice (some ⟨bg,og,none⟩) g.c.length gd] #[.slice (some ⟨gg,0,none⟩) x.s.length x.s.length,.slice (some ⟨h,0,none⟩) x.c.length x.c.length] x.s (Ly.cutX x.c.length row a part g.c 0) w8:=HM.out;have gA:=zI gx;clear gx
    go_loopw [83] (λi wx=>∃m:Nat,m<=pre/\i=.int .i64 (m:Int)/\PbI 30 w q h gg #[.slice (some ⟨bs,os2,none⟩) x.s.length c,.slice C x.c.length d] #[.slice GS g.s.length gc,.slice (some ⟨bg,og,none⟩) g.c.length gd] #[.slice (some ⟨gg,0,none⟩) x.s.length x.s.length,.slice (some ⟨h,0,none⟩) x.c.length x.c.length] x.s (Ly.cutX x.c.length row a part g.c m) wx) (λi _=>pre-(intOf i).toNat)
    case atStart=>exact ⟨0,Zt _,rfl,gA.out⟩
    case round=>
     obtain ⟨m,hm,rfl,hJ⟩:=hrel;clear gA
     have hR:∀i,i<pre->i*row+a+part<=x.c.length/\i*part+part<=g.c.length:=λi hi=>by
      have h9:(i+1)*row<=pre*row:=mlZ _ hi;have h8:(i+1)*part<=pre*part:=mlZ _ hi;rw [Zu] at h9 h8;have:=g3.out;have:=gw.out;exact ⟨by omega,by omega⟩
     have hA:=Ly.cutX_facts (n:=x.c.length) (row:=row) (a:=a) (part:=part) Hg.out.num m (λi hi=>hR i oZ)
     by_cases Gp:m<pre
     ·obtain ⟨H9,Hn⟩:=hA
      obtain ⟨Gt,Gd⟩:=hR m Gp;have H5:=hJ.lo;have he:Ly.cutX x.c.length row a part g.c (m+1)=splice (Ly.cutX x.c.length row a part g.c m) (m*row+a) ((g.c.drop (m*part)).take part):=rfl;have Ht:((g.c.drop (m*part)).take part).length=part:=by rw [Zo,Zq];omega
      have hT:∀(V:Zp1),Later wr V->∀i (hi:i<((g.c.drop (m*part)).take part).length),V.cell? ((⟨bg,og+m*part,none⟩:Addr).add i)=some (.int .i64 ((g.c.drop (m*part)).take part)[i]):=λV hV i hi=>by
       obtain ⟨b',o',e',-,hc⟩:=(Hg.out.later (hJ.later.trans hV)).cell (k:=m*part+i) (by rw [Ht] at hi;omega);injection e' with e';injection e' with e1 e2;subst e1 e2
       rw [qaN,Nat.add_assoc,hc,Ly.at_get (by rw [Ht] at hi;omega)];simp
      have o1:wr.cell? ⟨q,1,none⟩=some (.slice (some ⟨h,0,none⟩) x.c.length x.c.length):=by rw [hJ.box.cell];rfl
      have g1:wr.cell? ⟨w.heap.size+1,1,none⟩=some (.slice (some ⟨bg,og,none⟩) g.c.length gd):=by rw [hJ.bg.cell];rfl
      have GH:=Hg.out.c1;have Ga:=Hg.out.c2;obtain ⟨l,hl⟩:∃l,l=(g.c.drop (m*part)).take part:=⟨_,rfl⟩
      rw [←hl] at he Ht hT;obtain ⟨p,hp⟩:∃p,p=m*row:=⟨_,rfl⟩
      obtain ⟨pp,hpp⟩:∃pp,pp=m*part:=⟨_,rfl⟩
      have z1:IntKind.i64.wrap ((m:Int)*(row:Int))=(p:Int):=by rw [show (m:Int)*(row:Int)=((m*row:Nat):Int) by simp,←hp];exact Zc1 _ oZ
      have z2:IntKind.i64.wrap ((f:Int)*(inner:Int))=(a:Int):=by rw [E2.out];exact Zc1 _ oZ
      have z3:IntKind.i64.wrap ((p:Int)+(a:Int))=(p:Int)+(a:Int):=Zc1 _ oZ;have z4:IntKind.i64.wrap ((m:Int)*(part:Int))=(pp:Int):=by rw [show (m:Int)*(part:Int)=((m*part:Nat):Int) by simp,←hpp];exact Zc1 _ oZ
      have z5':IntKind.i64.wrap ((m:Int)+1)=(m:Int)+1:=Zc1 _ oZ;have z6:IntKind.i64.wrap (((m:Int)+1)*(part:Int))=(pp:Int)+(part:Int):=by rw [Int.add_mul,show (m:Int)*(part:Int)=((m*part:Nat):Int) by simp,←hpp,Int.one_mul];exact Zc1 _ oZ
      rw [←hp] at Gt he;rw [←hpp] at Gd hT;have u1:(0:Int)<=(p:Int)+(a:Int):=by omega
      have u2:(p:Int)+(a:Int)<=(x.c.length:Int):=by omega
      have u3:(pp:Int)+(part:Int)<=(gd:Int):=by omega
      have u4:(pp:Int)<=(pp:Int)+(part:Int):=by omega
      have u5:((p:Int)+(a:Int)).toNat=p+a:=by omega
      have u6:((pp:Int)+(part:Int)).toNat-pp=part:=by omega
      have u7:(x.c.length=p+a)=False:=eq_false oZ;have u8:(gd=pp)=False:=eq_false oZ;generalize Ly.cutX x.c.length row a part g.c m=acc at *;clear hR hl hp hpp;obtain ⟨HJ,hW,Hq,gy,HO⟩:=zd5 hJ he hT Hn Ht;clear hJ he hT Hn Ht;have gl:q≠h:=H5.2.1;have gM:w.heap.size+1≠h:=by omega
      go_wp2_with fail;have KF:=zI (show ∀Xw,Later wr Xw->Xw.cell? ⟨q,1,none⟩=some (.slice (some ⟨h,0,none⟩) x.c.length x.c.length)/\Xw.cell? ⟨w.heap.size+1,1,none⟩=some (.slice (some ⟨bg,og,none⟩) g.c.length gd) from λXw h=>⟨h.cell o1,h.cell g1⟩);refine Zm1 ?_;refine Zl1 (S:=λXw=>Xw.cell? ⟨q,1,none⟩=some (.slice (some ⟨h,0,none⟩) x.c.length x.c.length)/\Xw.cell? ⟨w.heap.size+1,1,none⟩=some (.slice (some ⟨bg,og,none⟩) g.c.length gd)) krZ (KF.out _ Lau) (λhHeld=>?_);refine tk 0 ?_;refine tk 1 ?_;refine tk 2 ?_;refine tk 3 ?_;refine tk 4 ?_;refine tk 5 ?_;refine tk 6 ?_;refine tk 7 ?_;refine tk 8 ?_;refine tk 10 ?_;refine tk 11 ?_;refine tk 12 ?_;refine tk 13 ?_;refine tk 14 ?_;refine tk 15 ?_;refine tk 16 ?_;refine tk 17 ?_;refine tk 18 ?_;refine Zo1 (rs:=[9,19]) krZ sZ ?_;refine Zf1 (o:=_) rfl (λK hK=>?_) (Zf1 (o:=_) rfl (λK hK=>?_) (Zg1))
      ·simp only [ga,gs,gz]
       go_simp
       refine hK.out _ _ (KF.out _ Lau) (λhHeld=>?_);clear hK K
       try simp only [ga,gs,gz,Act.put,sa,sz,ss]
       refine rd 19 λK hK=>?_
       simp only [ga,gs,gz]
       go_simp
       refine hK.out _ _ (KF.out _ Lau) (λhHeld=>?_);clear hK K
       try simp only [ga,gs,gz,Act.put,sa,sz,ss]
       refine rd 20 λK hK=>?_
       refine qby (by rfl) (.tmp 95) (.tmp 105) _ _ (by rfl) 22 Tryz.underlying28 gS h (p+a) _ _ ⟨bg,og+pp,none⟩ part _ (by rfl) (by rfl) acc l 22 ((HJ.out.to Lau).own) ?n1 (Hq.out _ Lau) ?n2 ?_
       case n1=>rw [HO.out];exact (Nat.min_eq_left oZ).symm
       case n2=>rw [HO.out];omega
       intro w4 hy hE;have h6:=(HJ.out.to (Lau:Later wr _)).else_ hE hy;rw [←hW.out] at h6;have o1:=(Zi1 (hE.1 q gl)).trans (Later.cell (Lau:Later wr _) o1);have g1:=(Zi1 (hE.1 (w.heap.size+1) gM)).trans (Later.cell (Lau:Later wr _) g1);have HT:=zI h6;clear h6 hy hE;refine hK.out _ _ (by first|exact ⟨o1,g1⟩|exact KF.out _ Lau) (λhHeld=>?_);clear hK K
       try simp only [ga,gs,gz,Act.put,sa,sz,ss]
       clear KF;refine Zn1 krZ ?_ _;refine Zd1 ?_;clear hHeld o1 g1;go_wp2_with fail;go_roundw
       case rel=>exact ⟨m+1,by omega,by go_num,HT.out.to Lau⟩
       case measure=>simp [intOf];omega
      ·simp only [ga,gs,gz]
       go_simp
       refine hK.out _ _ (KF.out _ Lau) (λhHeld=>?_);clear hK K
       try simp only [ga,gs,gz,Act.put,sa,sz,ss]
       refine rd 9 λK hK=>?_
       simp only [ga,gs,gz]
       go_simp
       refine hK.out _ _ (KF.out _ Lau) (λhHeld=>?_);clear hK K
       try simp only [ga,gs,gz,Act.put,sa,sz,ss]
       refine rd 20 λK hK=>?_
       refine qby (by rfl) (.tmp 95) (.tmp 105) _ _ (by rfl) 22 Tryz.underlying28 gS h (p+a) _ _ ⟨bg,og+pp,none⟩ part _ (by rfl) (by rfl) acc l 22 ((HJ.out.to Lau).own) ?n1 (Hq.out _ Lau) ?n2 ?_
       case n1=>rw [HO.out];exact (Nat.min_eq_left oZ).symm
       case n2=>rw [HO.out];omega
       intro w4 hy hE;have h6:=(HJ.out.to (Lau:Later wr _)).else_ hE hy;rw [←hW.out] at h6;have o1:=(Zi1 (hE.1 q gl)).trans (Later.cell (Lau:Later wr _) o1);have g1:=(Zi1 (hE.1 (w.heap.size+1) gM)).trans (Later.cell (Lau:Later wr _) g1);have HT:=zI h6;clear h6 hy hE;refine hK.out _ _ (by first|exact ⟨o1,g1⟩|exact KF.out _ Lau) (λhHeld=>?_);clear hK K
       try simp only [ga,gs,gz,Act.put,sa,sz,ss]
       clear KF;refine Zn1 krZ ?_ _;refine Zd1 ?_;clear hHeld o1 g1;go_wp2_with fail;go_roundw
       case rel=>exact ⟨m+1,by omega,by go_num,HT.out.to Lau⟩
       case measure=>simp [intOf];omega
     ·obtain rfl:m=pre:=by omega
      obtain ⟨H9,Hn⟩:=hA;generalize Ly.cutX x.c.length row a part g.c m=acc at *;have o0:wr.cell? ⟨q,0,none⟩=some (.slice (some ⟨gg,0,none⟩) x.s.length x.s.length):=by rw [hJ.box.cell];rfl
      have o1:wr.cell? ⟨q,1,none⟩=some (.slice (some ⟨h,0,none⟩) x.c.length x.c.length):=by rw [hJ.box.cell];rfl
      have c0:=hJ.bz.cell 0;have c1:=hJ.bz.cell 1;have f0:=hJ.bz.frozen 0;have f1:=hJ.bz.frozen 1;simp at c0 c1;have hn:=(hJ.bz.set_ 0 (.slice (some ⟨gg,0,none⟩) x.s.length x.s.length)).set_ 1 (.slice (some ⟨h,0,none⟩) x.c.length x.c.length);have d0:=hn.cell 0;have d1:=hn.cell 1;simp at d0 d1;clear hR;obtain ⟨HJ,gy,Hb,g6⟩:=zd4 hJ Hn hn H9;clear hJ Hn hn H9;go_wp2_with fail;refine Zk1 (v:=.tuple #[.agg #[.slice (some ⟨gg,0,none⟩) x.s.length x.s.length,.slice (some ⟨h,0,none⟩) x.c.length x.c.length],.int .i64 0]) (by simp [results,Tryz.results16,go_sem,d0,d1]) rfl ?_;exact HJ.out.done HE.out g6.out oZ (by have:=g6.out;omega) gy.out _ _
namespace Ly
theorem poolBack_none {top:Bool} {x g:Ten} {w s:Int} (h:(poolBack top x g w s).2≠0):(poolBack top x g w s).1=none_:=by
 unfold poolBack at h ⊢
 split at h
 ·rename_i h1
  rw [if_pos h1]
  split at h
  ·exact absurd rfl h
  ·rename_i h2
   rw [if_neg h2]
 ·rename_i h1
  rw [if_neg h1]
theorem cutBack_none {x g:Ten} {sd f t:Int} (h:(cutBack x g sd f t).2≠0):(cutBack x g sd f t).1=none_:=by
 unfold cutBack at h ⊢
 split at h
 ·rename_i h1
  rw [if_pos h1]
  split at h
  ·rename_i h2
   rw [if_pos h2]
   split at h
   ·exact absurd rfl h
   ·rename_i h3
    rw [if_neg h3]
  ·rename_i h2
   rw [if_neg h2]
 ·rename_i h1
  rw [if_neg h1]
theorem layBack9 {o:OpD} {p x:List Ten} {g:Ten} (h:o.kind=9):layBack o p x g=Ly.bbias (Ly.got p 0) (Ly.got x 0) g:=by
 unfold layBack;rw [if_neg oZ,if_pos h]
theorem layBack15 {o:OpD} {p x:List Ten} {g:Ten} (h:o.kind=15):layBack o p x g=Ly.bturn (Ly.got x 0) g o.s:=by
 unfold layBack;rw [if_neg oZ,if_neg oZ,if_neg oZ,if_neg oZ,if_neg oZ,if_neg oZ,if_neg oZ,if_pos h]
theorem layBack11 {o:OpD} {p x:List Ten} {g:Ten} (h:o.kind=11):layBack o p x g=Ly.bsingle (Ly.poolBack true (Ly.got x 0) g o.width o.step):=by
 unfold layBack;rw [if_neg oZ,if_neg oZ,if_neg oZ,if_pos h]
theorem layBack12 {o:OpD} {p x:List Ten} {g:Ten} (h:o.kind=12):layBack o p x g=Ly.bsingle (Ly.poolBack false (Ly.got x 0) g o.width o.step):=by
 unfold layBack;rw [if_neg oZ,if_neg oZ,if_neg oZ,if_neg oZ,if_pos h]
theorem layBack14 {o:OpD} {p x:List Ten} {g:Ten} (h:o.kind=14):layBack o p x g=Ly.bsingle (Ly.cutBack (Ly.got x 0) g o.side o.frm o.to):=by
 unfold layBack;rw [if_neg oZ,if_neg oZ,if_neg oZ,if_neg oZ,if_neg oZ,if_neg oZ,if_pos h]
end Ly
set_option maxRecDepth 20000 in
theorem op_back9 (o:OpD) (S P X GS GC:Option Addr) (c cp cx gc gd:Nat) (p x:List Ten) (g:Ten) (w:Zp1) (hk:o.kind=9) (ho:o.s.length<=1048576) (hI:Ints .i64 w S o.s) (hP:Tns w P p) (hX:Tns w X x) (hG:TenIn w GS GC gc gd g) (hc:Od.counts o p.length x.length=0):
  Calls Tryz.prog 11 #[.agg #[.int .i64 o.kind,.int .i64 o.k,.int .i64 o.width,.int .i64 o.step,.int .i64 o.side,.int .i64 o.frm,.int .i64 o.to,.slice S o.s.length c],.slice P p.length cp,.slice X x.length cx,.agg #[.slice GS g.s.length gc,.slice GC g.c.length gd]] w (GoB (Ly.layBack o p x g) w):=by
 obtain ⟨w1,e1,hi,hh,hr,hF⟩:=qay w o S c GS GC gc gd g;have hb:=Ly.counts_ok hc;unfold Od.least Od.most Od.params at hb;have hq:p.length=1:=by have:=hb.1;have h3:=hb.2.2.2;rw [if_pos this] at h3;simp [hk] at h3;omega
 have hx:x.length=1:=by have:=hb.1;have h1:=hb.2.1;have h2:=hb.2.2.1;rw [if_pos this] at h1 h2;simp [hk] at h1 h2;omega
 have HE:=zI (Ly.layBack9 (p:=p) (x:=x) (g:=g) hk);obtain ⟨HC,hs,hJ,Hk⟩:=zd4 hc hq hx hk;clear hb hc hq hx hk;obtain ⟨HI,HP,HX,HG,hl,hg,hj,hy,hv⟩:=zd9 hI hP hX hG hF hi hh hr e1;clear hI hP hX hG hF hi hh hr e1;go_enter Tryz.func11,Tryz.ntmps11;go_wp2_with fail;rw [hv.out];clear hv;refine (qat o S c p.length x.length w1 oZ (HI.out.below hl.out (lrZ _))).mono ?_;rintro e w2 ⟨rfl,ht⟩;rw [HC.out];have he:Later w1 w2:=ht;have hH:=hl.out.trans he;have hz:=he.blk hy.out;have hA:=he.blk hg.out;have hB:=he.blk hj.out;clear ht he hl hy hg hj;obtain ⟨HH,Hz,hN,hC⟩:=zd4 hH hz hA hB;clear hH hz hA hB;obtain ⟨bp,po,S0,c0,C0,d0,rfl,lbp,p00,p01,hM⟩:=HP.out.at_ (j:=0) (by have:=hs.out;omega);obtain ⟨bx,xo,S2,c2,C2,d2,rfl,lbx,x00,x01,hL⟩:=HX.out.at_ (j:=0) (by have:=hJ.out;omega);have ha:=λ(W:Zp1) (h:Later w2 W)=>(qey S0 C0 S2 C2 GS GC c0 d0 c2 d2 gc gd (Ly.got p 0) (Ly.got x 0) g W (hM.later (HH.out.trans h)) (hL.later (HH.out.trans h)) (HG.out.later (HH.out.trans h)))
 have hE:=HE.out;obtain ⟨R,hR⟩:∃R,Ly.bbias (Ly.got p 0) (Ly.got x 0) g=R:=⟨_,rfl⟩
 rw [hR] at ha hE;have q1:w2.cell? ⟨bp,po,none⟩=some (.slice S0 (Ly.got p 0).s.length c0):=HH.out.cell (by simpa using p00);have q2:w2.cell? ⟨bp,po+1,none⟩=some (.slice C0 (Ly.got p 0).c.length d0):=HH.out.cell (by simpa using p01);have q3:w2.cell? ⟨bx,xo,none⟩=some (.slice S2 (Ly.got x 0).s.length c2):=HH.out.cell (by simpa using x00);have q4:w2.cell? ⟨bx,xo+1,none⟩=some (.slice C2 (Ly.got x 0).c.length d2):=HH.out.cell (by simpa using x01);have q5:w2.cell? ⟨w.heap.size+1,0,none⟩=some (.slice GS g.s.length gc):=by rw [hC.out.cell];rfl
 have q6:w2.cell? ⟨w.heap.size+1,1,none⟩=some (.slice GC g.c.length gd):=by rw [hC.out.cell];rfl
 have x0:w2.cell? ⟨w.heap.size,0,none⟩=some (.int .i64 9):=by rw [hN.out.cell,←Hk.out];rfl
 have hS:=HH.out.size;have hT:=Hz.out.lt;rw [hJ.out,hs.out];clear hR p00 p01 hM x00 x01 hL HE;obtain ⟨hf,HE⟩:=zd2 ha hE;clear ha hE;go_upto_region 11 with fail;clear x0;have KF:=zI (show ∀Xw,Later w2 Xw->Xw.cell? ⟨bp,po,none⟩=some (.slice S0 (Ly.got p 0).s.length c0)/\Xw.cell? ⟨bp,po+1,none⟩=some (.slice C0 (Ly.got p 0).c.length d0)/\Xw.cell? ⟨bx,xo,none⟩=some (.slice S2 (Ly.got x 0).s.length c2)/\Xw.cell? ⟨bx,xo+1,none⟩=some (.slice C2 (Ly.got x 0).c.length d2)/\Xw.cell? ⟨w.heap.size+1,0,none⟩=some (.slice GS g.s.length gc)/\Xw.cell? ⟨w.heap.size+1,1,none⟩=some (.slice GC g.c.length gd) from λXw h=>⟨h.cell q1,h.cell q2,h.cell q3,h.cell q4,h.cell q5,h.cell q6⟩);refine Zm1 ?_;refine Zl1 (S:=λXw=>Xw.cell? ⟨bp,po,none⟩=some (.slice S0 (Ly.got p 0).s.length c0)/\Xw.cell? ⟨bp,po+1,none⟩=some (.slice C0 (Ly.got p 0).c.length d0)/\Xw.cell? ⟨bx,xo,none⟩=some (.slice S2 (Ly.got x 0).s.length c2)/\Xw.cell? ⟨bx,xo+1,none⟩=some (.slice C2 (Ly.got x 0).c.length d2)/\Xw.cell? ⟨w.heap.size+1,0,none⟩=some (.slice GS g.s.length gc)/\Xw.cell? ⟨w.heap.size+1,1,none⟩=some (.slice GC g.c.length gd)) krZ (KF.out _ Lau) (λhHeld=>?_);refine tk 0 ?_;refine tk 1 ?_;refine tk 2 ?_;refine tk 3 ?_;refine tk 4 ?_;refine tk 5 ?_;refine tk 6 ?_;refine rd 7 λK hK=>?_
 simp only [ga,gs,gz]
 go_simp
 go_at_call 46
 (with_reducible refine (hf.out _ (Lau:Later w2 _)).mono ?_)
 intro e w9 hm;have hu:=hm.u (w0:=w) (show Later w _ from HH.out.trans (Lau:Later w2 _));obtain ⟨A9,na,B9,nb,rfl,k1,k2,hw⟩:=hu;have hp:Later w2 w9:=Later.trans (Lau:Later w2 (World.drew w2)) hm.2;have hd:=hp.blk Hz.out;have c0':=hd.cell 0;have c1':=hd.cell 1;have f0':=hd.frozen 0;have f1':=hd.frozen 1;simp at c0' c1';have hD:=zI hd;clear hd;obtain ⟨K1,K2,hO⟩:=zd3 k1 k2 hw;have hQ:Below w2.heap.size w2 w9:=hp;clear k1 k2 hw hm hp
 try go_wp2_with fail
 refine hK.out _ _ (KF.out _ Lau) (λhHeld=>?_);clear hK K
 try simp only [ga,gs,gz,Act.put,sa,sz,ss]
 refine tk 8 ?_;refine tk 9 ?_;refine rd 10 λK hK=>?_
 simp only [ga,gs,gz]
 go_simp
 refine hK.out _ _ ?_ (λhHeld=>?_)
 ·(try dsimp only);(refine ⟨?_,?_,?_,?_,?_,?_⟩<;>(repeat (refine qa0 ?_ (by first|omega|(simp;done)|(simp;omega))))<;>(refine Later.cell (Lau:Later w2 _) ?_)<;>assumption)
 clear hK K
 try simp only [ga,gs,gz,Act.put,sa,sz,ss]
 refine tk 11 ?_;clear KF;refine Zn1 krZ ?_ _;refine Zd1 ?_;have hn:=(hD.out.set_ 0 (.slice A9 na na)).set_ 1 (.slice B9 nb nb);have e0:=hn.cell 0;have e1:=hn.cell 1;simp at e0 e1;clear hHeld hn;go_wp2_with fail;refine Zk1 (v:=.tuple #[.agg #[.slice A9 na na,.slice B9 nb nb],.int .i64 R.2]) (by simp [results,Tryz.results11,go_sem,e0,e1]) rfl ?_;rw [HE.out];exact GoBU.fin K1.out K2.out hO.out hD.out (show w.heap.size<=w.heap.size+2 by omega) (by first|omega|(simp;omega)) _ _
set_option maxRecDepth 20000 in
theorem qgn (o:OpD) (S P X GS GC:Option Addr) (c cp cx gc gd:Nat) (p x:List Ten) (g:Ten) (w:Zp1) (hk:o.kind=15) (ho:o.s.length<=1048576) (hI:Ints .i64 w S o.s) (hP:Tns w P p) (hX:Tns w X x) (hG:TenIn w GS GC gc gd g) (hc:Od.counts o p.length x.length=0):
  Calls Tryz.prog 11 #[.agg #[.int .i64 o.kind,.int .i64 o.k,.int .i64 o.width,.int .i64 o.step,.int .i64 o.side,.int .i64 o.frm,.int .i64 o.to,.slice S o.s.length c],.slice P p.length cp,.slice X x.length cx,.agg #[.slice GS g.s.length gc,.slice GC g.c.length gd]] w (GoB (Ly.layBack o p x g) w):=by
 obtain ⟨w1,e1,hi,hh,hs,hF⟩:=qay w o S c GS GC gc gd g;have hb:=Ly.counts_ok hc;unfold Od.least Od.most Od.params at hb;have hq:p.length=0:=by have:=hb.1;have h3:=hb.2.2.2;rw [if_pos this] at h3;simp [hk] at h3;omega
 have hx:x.length=1:=by have:=hb.1;have h1:=hb.2.1;have h2:=hb.2.2.1;rw [if_pos this] at h1 h2;simp [hk] at h1 h2;omega
 have HE:=zI (Ly.layBack15 (p:=p) (x:=x) (g:=g) hk);obtain ⟨HC,hO,hJ,Hk⟩:=zd4 hc hq hx hk;clear hb hc hq hx hk;obtain ⟨HI,HP,HX,HG,hl,hg,hj,hy,hv⟩:=zd9 hI hP hX hG hF hi hh hs e1;clear hI hP hX hG hF hi hh hs e1;go_enter Tryz.func11,Tryz.ntmps11;go_wp2_with fail;rw [hv.out];clear hv;refine (qat o S c p.length x.length w1 oZ (HI.out.below hl.out (lrZ _))).mono ?_;rintro e w2 ⟨rfl,ht⟩;rw [HC.out];have he:Later w1 w2:=ht;have hH:=hl.out.trans he;have hz:=he.blk hy.out;have hA:=he.blk hg.out;have hB:=he.blk hj.out;clear ht he hl hy hg hj;obtain ⟨HH,Hz,hr,hC⟩:=zd4 hH hz hA hB;clear hH hz hA hB;obtain ⟨bx,xo,S2,c2,C2,d2,rfl,lbx,x00,x01,hL⟩:=HX.out.at_ (j:=0) (by have:=hJ.out;omega);have ha:=λ(W:Zp1) (h:Later w2 W)=>(qex S2 C2 GS GC S c2 d2 gc gd c (Ly.got x 0) g o.s W (hL.later (HH.out.trans h)) (HG.out.later (HH.out.trans h)) (HI.out.below (HH.out.trans h) (lrZ _)) ho)
 have hE:=HE.out;obtain ⟨R,hR⟩:∃R,Ly.bturn (Ly.got x 0) g o.s=R:=⟨_,rfl⟩
 rw [hR] at ha hE;have q1:w2.cell? ⟨bx,xo,none⟩=some (.slice S2 (Ly.got x 0).s.length c2):=HH.out.cell (by simpa using x00);have q2:w2.cell? ⟨bx,xo+1,none⟩=some (.slice C2 (Ly.got x 0).c.length d2):=HH.out.cell (by simpa using x01);have q3:w2.cell? ⟨w.heap.size+1,0,none⟩=some (.slice GS g.s.length gc):=by rw [hC.out.cell];rfl
 have q4:w2.cell? ⟨w.heap.size+1,1,none⟩=some (.slice GC g.c.length gd):=by rw [hC.out.cell];rfl
 have q5:w2.cell? ⟨w.heap.size,7,none⟩=some (.slice S o.s.length c):=by rw [hr.out.cell];rfl
 have x0:w2.cell? ⟨w.heap.size,0,none⟩=some (.int .i64 15):=by rw [hr.out.cell,←Hk.out];rfl
 have hQ:=HH.out.size;have hS:=Hz.out.lt;rw [hJ.out];clear hR x00 x01 hL HE;obtain ⟨hf,HE⟩:=zd2 ha hE;clear ha hE;go_upto_region 26 with fail;clear x0;have KF:=zI (show ∀Xw,Later w2 Xw->Xw.cell? ⟨bx,xo,none⟩=some (.slice S2 (Ly.got x 0).s.length c2)/\Xw.cell? ⟨bx,xo+1,none⟩=some (.slice C2 (Ly.got x 0).c.length d2)/\Xw.cell? ⟨w.heap.size+1,0,none⟩=some (.slice GS g.s.length gc)/\Xw.cell? ⟨w.heap.size+1,1,none⟩=some (.slice GC g.c.length gd)/\Xw.cell? ⟨w.heap.size,7,none⟩=some (.slice S o.s.length c) from λXw h=>⟨h.cell q1,h.cell q2,h.cell q3,h.cell q4,h.cell q5⟩);refine Zm1 ?_;refine Zl1 (S:=λXw=>Xw.cell? ⟨bx,xo,none⟩=some (.slice S2 (Ly.got x 0).s.length c2)/\Xw.cell? ⟨bx,xo+1,none⟩=some (.slice C2 (Ly.got x 0).c.length d2)/\Xw.cell? ⟨w.heap.size+1,0,none⟩=some (.slice GS g.s.length gc)/\Xw.cell? ⟨w.heap.size+1,1,none⟩=some (.slice GC g.c.length gd)/\Xw.cell? ⟨w.heap.size,7,none⟩=some (.slice S o.s.length c)) krZ (KF.out _ Lau) (λhHeld=>?_);refine tk 0 ?_;refine tk 1 ?_;refine tk 2 ?_;refine tk 3 ?_;refine tk 4 ?_;refine tk 5 ?_;refine rd 6 λK hK=>?_
 simp only [ga,gs,gz]
 go_simp
 go_at_call 49
 (with_reducible refine (hf.out _ (Lau:Later w2 _)).mono ?_)
 intro e w9 hm;have hu:=hm.u (w0:=w) (show Later w _ from HH.out.trans (Lau:Later w2 _));obtain ⟨A9,na,B9,nb,rfl,k1,k2,hw⟩:=hu;have hp:Later w2 w9:=Later.trans (Lau:Later w2 (World.drew w2)) hm.2;have hd:=hp.blk Hz.out;have c0':=hd.cell 0;have c1':=hd.cell 1;have f0':=hd.frozen 0;have f1':=hd.frozen 1;simp at c0' c1';have hD:=zI hd;clear hd;obtain ⟨K1,K2,hM⟩:=zd3 k1 k2 hw;have hN:Below w2.heap.size w2 w9:=hp;clear k1 k2 hw hm hp
 try go_wp2_with fail
 refine hK.out _ _ (KF.out _ Lau) (λhHeld=>?_);clear hK K
 try simp only [ga,gs,gz,Act.put,sa,sz,ss]
 refine tk 7 ?_;refine tk 8 ?_;refine rd 9 λK hK=>?_
 simp only [ga,gs,gz]
 go_simp
 refine hK.out _ _ ?_ (λhHeld=>?_)
 ·(try dsimp only);(refine ⟨?_,?_,?_,?_,?_⟩<;>(repeat (refine qa0 ?_ (by first|omega|(simp;done)|(simp;omega))))<;>(refine Later.cell (Lau:Later w2 _) ?_)<;>assumption)
 clear hK K
 try simp only [ga,gs,gz,Act.put,sa,sz,ss]
 refine tk 10 ?_;clear KF;refine Zn1 krZ ?_ _;refine Zd1 ?_;have hn:=(hD.out.set_ 0 (.slice A9 na na)).set_ 1 (.slice B9 nb nb);have e0:=hn.cell 0;have e1:=hn.cell 1;simp at e0 e1;clear hHeld hn;go_wp2_with fail;refine Zk1 (v:=.tuple #[.agg #[.slice A9 na na,.slice B9 nb nb],.int .i64 R.2]) (by simp [results,Tryz.results11,go_sem,e0,e1]) rfl ?_;rw [HE.out];exact GoBU.fin K1.out K2.out hM.out hD.out (show w.heap.size<=w.heap.size+2 by omega) (by first|omega|(simp;omega)) _ _
set_option maxRecDepth 20000 in
theorem qgo (o:OpD) (S P X GS GC:Option Addr) (c cp cx gc gd:Nat) (p x:List Ten) (g:Ten) (w:Zp1) (hk:o.kind=11) (ho:o.s.length<=1048576) (hI:Ints .i64 w S o.s) (hP:Tns w P p) (hX:Tns w X x) (hG:TenIn w GS GC gc gd g) (hc:Od.counts o p.length x.length=0):
  Calls Tryz.prog 11 #[.agg #[.int .i64 o.kind,.int .i64 o.k,.int .i64 o.width,.int .i64 o.step,.int .i64 o.side,.int .i64 o.frm,.int .i64 o.to,.slice S o.s.length c],.slice P p.length cp,.slice X x.length cx,.agg #[.slice GS g.s.length gc,.slice GC g.c.length gd]] w (GoB (Ly.layBack o p x g) w):=by
 obtain ⟨w1,e1,hi,hh,ht,hM⟩:=qay w o S c GS GC gc gd g;have hb:=Ly.counts_ok hc;unfold Od.least Od.most Od.params at hb;have hs:p.length=0:=by have:=hb.1;have h3:=hb.2.2.2;rw [if_pos this] at h3;simp [hk] at h3;omega
 have hA:x.length=1:=by have:=hb.1;have h1:=hb.2.1;have h2:=hb.2.2.1;rw [if_pos this] at h1 h2;simp [hk] at h1 h2;omega
 have HE:=zI (Ly.layBack11 (p:=p) (x:=x) (g:=g) hk);obtain ⟨HC,hW,hN,Hk⟩:=zd4 hc hs hA hk;clear hb hc hs hA hk;obtain ⟨HI,HP,HX,HG,hl,hg,hj,hB,hx⟩:=zd9 hI hP hX hG hM hi hh ht e1;clear hI hP hX hG hM hi hh ht e1;go_enter Tryz.func11,Tryz.ntmps11;go_wp2_with fail;rw [hx.out];clear hx;refine (qat o S c p.length x.length w1 oZ (HI.out.below hl.out (lrZ _))).mono ?_;rintro e w2 ⟨rfl,hw⟩;rw [HC.out];have he:Later w1 w2:=hw;have hH:=hl.out.trans he;have hz:=he.blk hB.out;have hC:=he.blk hg.out;have hD:=he.blk hj.out;clear hw he hl hB hg hj;obtain ⟨HH,Hz,hm,hF⟩:=zd4 hH hz hC hD;clear hH hz hC hD;obtain ⟨bx,xo,S2,c2,C2,d2,rfl,lbx,x00,x01,hQ⟩:=HX.out.at_ (j:=0) (by have:=hN.out;omega);have ha:=λ(W:Zp1) (h:Later w2 W)=>qac (qe5 true 1 S2 C2 GS GC c2 d2 gc gd (Ly.got x 0) g o.width o.step W (.inl ⟨rfl,rfl⟩) (hQ.later (HH.out.trans h)) (HG.out.later (HH.out.trans h))) Ly.poolBack_none
 have hE:=HE.out;obtain ⟨R,hR⟩:∃R,Ly.poolBack true (Ly.got x 0) g o.width o.step=R:=⟨_,rfl⟩
 rw [hR] at ha hE;have q1:w2.cell? ⟨bx,xo,none⟩=some (.slice S2 (Ly.got x 0).s.length c2):=HH.out.cell (by simpa using x00);have q2:w2.cell? ⟨bx,xo+1,none⟩=some (.slice C2 (Ly.got x 0).c.length d2):=HH.out.cell (by simpa using x01);have q3:w2.cell? ⟨w.heap.size+1,0,none⟩=some (.slice GS g.s.length gc):=by rw [hF.out.cell];rfl
 have q4:w2.cell? ⟨w.heap.size+1,1,none⟩=some (.slice GC g.c.length gd):=by rw [hF.out.cell];rfl
 have q5:w2.cell? ⟨w.heap.size,2,none⟩=some (.int .i64 o.width):=by rw [hm.out.cell];rfl
 have q6:w2.cell? ⟨w.heap.size,3,none⟩=some (.int .i64 o.step):=by rw [hm.out.cell];rfl
 have x0:w2.cell? ⟨w.heap.size,0,none⟩=some (.int .i64 11):=by rw [hm.out.cell,←Hk.out];rfl
 have hZ:=HH.out.size;have h0:=Hz.out.lt;rw [hN.out];clear hR x00 x01 hQ HE;obtain ⟨hf,HE⟩:=zd2 ha hE;clear ha hE;go_upto_region 18 with fail;clear x0;have KF:=zI (show ∀Xw,Later w2 Xw->Xw.cell? ⟨bx,xo,none⟩=some (.slice S2 (Ly.got x 0).s.length c2)/\Xw.cell? ⟨bx,xo+1,none⟩=some (.slice C2 (Ly.got x 0).c.length d2)/\Xw.cell? ⟨w.heap.size+1,0,none⟩=some (.slice GS g.s.length gc)/\Xw.cell? ⟨w.heap.size+1,1,none⟩=some (.slice GC g.c.length gd)/\Xw.cell? ⟨w.heap.size,2,none⟩=some (.int .i64 o.width)/\Xw.cell? ⟨w.heap.size,3,none⟩=some (.int .i64 o.step) from λXw h=>⟨h.cell q1,h.cell q2,h.cell q3,h.cell q4,h.cell q5,h.cell q6⟩);refine Zm1 ?_;refine Zl1 (S:=λXw=>Xw.cell? ⟨bx,xo,none⟩=some (.slice S2 (Ly.got x 0).s.length c2)/\Xw.cell? ⟨bx,xo+1,none⟩=some (.slice C2 (Ly.got x 0).c.length d2)/\Xw.cell? ⟨w.heap.size+1,0,none⟩=some (.slice GS g.s.length gc)/\Xw.cell? ⟨w.heap.size+1,1,none⟩=some (.slice GC g.c.length gd)/\Xw.cell? ⟨w.heap.size,2,none⟩=some (.int .i64 o.width)/\Xw.cell? ⟨w.heap.size,3,none⟩=some (.int .i64 o.step)) krZ (KF.out _ Lau) (λhHeld=>?_);refine tk 0 ?_;refine tk 1 ?_;refine tk 2 ?_;refine tk 3 ?_;refine tk 4 ?_;refine tk 5 ?_;refine tk 6 ?_;refine tk 7 ?_;refine rd 8 λK hK=>?_
 simp only [ga,gs,gz]
 go_simp
 go_at_call 14
 (with_reducible refine (hf.out _ (Lau:Later w2 _)).mono ?_)
 rintro e wf ⟨S3,c3,C3,d3,rfl,-,hO,hU⟩;have hJ:Later w2 wf:=Later.trans (Lau:Later w2 (World.drew w2)) hU;obtain ⟨hS,hq⟩:=zd2 hO hJ;clear hO hJ
 try go_wp2_with fail
 refine hK.out _ _ (KF.out _ Lau) (λhHeld=>?_);clear hK K
 try simp only [ga,gs,gz,Act.put,sa,sz,ss]
 refine tk 9 ?_;refine tk 10 ?_;refine rd 11 λK hK=>?_
 simp only [ga,gs,gz]
 go_simp
 go_at_call 47
 (with_reducible refine (qbW S3 C3 _ _ _ _ _ _).mono ?_)
 intro e w9 hr;have hu:=sg_u (w0:=w) hr (λh=>(hS.out h).base (by first|omega|(simp;omega))) (HH.out.trans hq.out);have hp:Later w2 w9:=Later.trans hq.out (show Later wf w9 by obtain ⟨_,_,_,_,_,h⟩:=hr;exact h);have hv:(Ly.bsingle R).2=R.2:=by unfold Ly.bsingle;split<;>simp_all
 obtain ⟨A9,na,B9,nb,rfl,k1,k2,hy⟩:=hu;have hY:=hq.out.size;have hd:=hp.blk Hz.out;have c0':=hd.cell 0;have c1':=hd.cell 1;have f0':=hd.frozen 0;have f1':=hd.frozen 1;simp at c0' c1';have hL:=zI hd;clear hd;obtain ⟨K1,K2,hT,h4⟩:=zd4 k1 k2 hy hv;have hV:Below w2.heap.size w2 w9:=hp;clear k1 k2 hy hr hp hv
 try go_wp2_with fail
 refine hK.out _ _ (KF.out _ Lau) (λhHeld=>?_);clear hK K
 try simp only [ga,gs,gz,Act.put,sa,sz,ss]
 refine tk 12 ?_;refine tk 13 ?_;refine rd 14 λK hK=>?_
 simp only [ga,gs,gz]
 go_simp
 refine hK.out _ _ ?_ (λhHeld=>?_)
 ·(try dsimp only);(refine ⟨?_,?_,?_,?_,?_,?_⟩<;>(repeat (refine qa0 ?_ (by first|omega|(simp;done)|(simp;omega))))<;>(refine Later.cell (Lau:Later w2 _) ?_)<;>assumption)
 clear hK K
 try simp only [ga,gs,gz,Act.put,sa,sz,ss]
 refine tk 15 ?_;clear KF;refine Zn1 krZ ?_ _;refine Zd1 ?_;have hn:=(hL.out.set_ 0 (.slice A9 na na)).set_ 1 (.slice B9 nb nb);have e0:=hn.cell 0;have e1:=hn.cell 1;simp at e0 e1;clear hHeld hn;go_wp2_with fail;refine Zk1 (v:=.tuple #[.agg #[.slice A9 na na,.slice B9 nb nb],.int .i64 (Ly.bsingle R).2]) (by simp [results,Tryz.results11,go_sem,e0,e1]) rfl ?_;rw [HE.out];exact GoBU.fin K1.out K2.out hT.out hL.out (show w.heap.size<=w.heap.size+2 by omega) (by first|omega|(simp;omega)) _ _
set_option maxRecDepth 20000 in
theorem qgp (o:OpD) (S P X GS GC:Option Addr) (c cp cx gc gd:Nat) (p x:List Ten) (g:Ten) (w:Zp1) (hk:o.kind=12) (ho:o.s.length<=1048576) (hI:Ints .i64 w S o.s) (hP:Tns w P p) (hX:Tns w X x) (hG:TenIn w GS GC gc gd g) (hc:Od.counts o p.length x.length=0):
  Calls Tryz.prog 11 #[.agg #[.int .i64 o.kind,.int .i64 o.k,.int .i64 o.width,.int .i64 o.step,.int .i64 o.side,.int .i64 o.frm,.int .i64 o.to,.slice S o.s.length c],.slice P p.length cp,.slice X x.length cx,.agg #[.slice GS g.s.length gc,.slice GC g.c.length gd]] w (GoB (Ly.layBack o p x g) w):=by
 obtain ⟨w1,e1,hi,hh,ht,hM⟩:=qay w o S c GS GC gc gd g;have hb:=Ly.counts_ok hc;unfold Od.least Od.most Od.params at hb;have hs:p.length=0:=by have:=hb.1;have h3:=hb.2.2.2;rw [if_pos this] at h3;simp [hk] at h3;omega
 have hA:x.length=1:=by have:=hb.1;have h1:=hb.2.1;have h2:=hb.2.2.1;rw [if_pos this] at h1 h2;simp [hk] at h1 h2;omega
 have HE:=zI (Ly.layBack12 (p:=p) (x:=x) (g:=g) hk);obtain ⟨HC,hW,hN,Hk⟩:=zd4 hc hs hA hk;clear hb hc hs hA hk;obtain ⟨HI,HP,HX,HG,hl,hg,hj,hB,hx⟩:=zd9 hI hP hX hG hM hi hh ht e1;clear hI hP hX hG hM hi hh ht e1;go_enter Tryz.func11,Tryz.ntmps11;go_wp2_with fail;rw [hx.out];clear hx;refine (qat o S c p.length x.length w1 oZ (HI.out.below hl.out (lrZ _))).mono ?_;rintro e w2 ⟨rfl,hw⟩;rw [HC.out];have he:Later w1 w2:=hw;have hH:=hl.out.trans he;have hz:=he.blk hB.out;have hC:=he.blk hg.out;have hD:=he.blk hj.out;clear hw he hl hB hg hj;obtain ⟨HH,Hz,hm,hF⟩:=zd4 hH hz hC hD;clear hH hz hC hD;obtain ⟨bx,xo,S2,c2,C2,d2,rfl,lbx,x00,x01,hQ⟩:=HX.out.at_ (j:=0) (by have:=hN.out;omega);have ha:=λ(W:Zp1) (h:Later w2 W)=>qac (qe5 false 2 S2 C2 GS GC c2 d2 gc gd (Ly.got x 0) g o.width o.step W (.inr ⟨rfl,rfl⟩) (hQ.later (HH.out.trans h)) (HG.out.later (HH.out.trans h))) Ly.poolBack_none
 have hE:=HE.out;obtain ⟨R,hR⟩:∃R,Ly.poolBack false (Ly.got x 0) g o.width o.step=R:=⟨_,rfl⟩
 rw [hR] at ha hE;have q1:w2.cell? ⟨bx,xo,none⟩=some (.slice S2 (Ly.got x 0).s.length c2):=HH.out.cell (by simpa using x00);have q2:w2.cell? ⟨bx,xo+1,none⟩=some (.slice C2 (Ly.got x 0).c.length d2):=HH.out.cell (by simpa using x01);have q3:w2.cell? ⟨w.heap.size+1,0,none⟩=some (.slice GS g.s.length gc):=by rw [hF.out.cell];rfl
 have q4:w2.cell? ⟨w.heap.size+1,1,none⟩=some (.slice GC g.c.length gd):=by rw [hF.out.cell];rfl
 have q5:w2.cell? ⟨w.heap.size,2,none⟩=some (.int .i64 o.width):=by rw [hm.out.cell];rfl
 have q6:w2.cell? ⟨w.heap.size,3,none⟩=some (.int .i64 o.step):=by rw [hm.out.cell];rfl
 have x0:w2.cell? ⟨w.heap.size,0,none⟩=some (.int .i64 12):=by rw [hm.out.cell,←Hk.out];rfl
 have hZ:=HH.out.size;have h0:=Hz.out.lt;rw [hN.out];clear hR x00 x01 hQ HE;obtain ⟨hf,HE⟩:=zd2 ha hE;clear ha hE;go_upto_region 20 with fail;clear x0;have KF:=zI (show ∀Xw,Later w2 Xw->Xw.cell? ⟨bx,xo,none⟩=some (.slice S2 (Ly.got x 0).s.length c2)/\Xw.cell? ⟨bx,xo+1,none⟩=some (.slice C2 (Ly.got x 0).c.length d2)/\Xw.cell? ⟨w.heap.size+1,0,none⟩=some (.slice GS g.s.length gc)/\Xw.cell? ⟨w.heap.size+1,1,none⟩=some (.slice GC g.c.length gd)/\Xw.cell? ⟨w.heap.size,2,none⟩=some (.int .i64 o.width)/\Xw.cell? ⟨w.heap.size,3,none⟩=some (.int .i64 o.step) from λXw h=>⟨h.cell q1,h.cell q2,h.cell q3,h.cell q4,h.cell q5,h.cell q6⟩);refine Zm1 ?_;refine Zl1 (S:=λXw=>Xw.cell? ⟨bx,xo,none⟩=some (.slice S2 (Ly.got x 0).s.length c2)/\Xw.cell? ⟨bx,xo+1,none⟩=some (.slice C2 (Ly.got x 0).c.length d2)/\Xw.cell? ⟨w.heap.size+1,0,none⟩=some (.slice GS g.s.length gc)/\Xw.cell? ⟨w.heap.size+1,1,none⟩=some (.slice GC g.c.length gd)/\Xw.cell? ⟨w.heap.size,2,none⟩=some (.int .i64 o.width)/\Xw.cell? ⟨w.heap.size,3,none⟩=some (.int .i64 o.step)) krZ (KF.out _ Lau) (λhHeld=>?_);refine tk 0 ?_;refine tk 1 ?_;refine tk 2 ?_;refine tk 3 ?_;refine tk 4 ?_;refine tk 5 ?_;refine tk 6 ?_;refine tk 7 ?_;refine rd 8 λK hK=>?_
 simp only [ga,gs,gz]
 go_simp
 go_at_call 14
 (with_reducible refine (hf.out _ (Lau:Later w2 _)).mono ?_)
 rintro e wf ⟨S3,c3,C3,d3,rfl,-,hO,hU⟩;have hJ:Later w2 wf:=Later.trans (Lau:Later w2 (World.drew w2)) hU;obtain ⟨hS,hq⟩:=zd2 hO hJ;clear hO hJ
 try go_wp2_with fail
 refine hK.out _ _ (KF.out _ Lau) (λhHeld=>?_);clear hK K
 try simp only [ga,gs,gz,Act.put,sa,sz,ss]
 refine tk 9 ?_;refine tk 10 ?_;refine rd 11 λK hK=>?_
 simp only [ga,gs,gz]
 go_simp
 go_at_call 47
 (with_reducible refine (qbW S3 C3 _ _ _ _ _ _).mono ?_)
 intro e w9 hr;have hu:=sg_u (w0:=w) hr (λh=>(hS.out h).base (by first|omega|(simp;omega))) (HH.out.trans hq.out);have hp:Later w2 w9:=Later.trans hq.out (show Later wf w9 by obtain ⟨_,_,_,_,_,h⟩:=hr;exact h);have hv:(Ly.bsingle R).2=R.2:=by unfold Ly.bsingle;split<;>simp_all
 obtain ⟨A9,na,B9,nb,rfl,k1,k2,hy⟩:=hu;have hY:=hq.out.size;have hd:=hp.blk Hz.out;have c0':=hd.cell 0;have c1':=hd.cell 1;have f0':=hd.frozen 0;have f1':=hd.frozen 1;simp at c0' c1';have hL:=zI hd;clear hd;obtain ⟨K1,K2,hT,h4⟩:=zd4 k1 k2 hy hv;have hV:Below w2.heap.size w2 w9:=hp;clear k1 k2 hy hr hp hv
 try go_wp2_with fail
 refine hK.out _ _ (KF.out _ Lau) (λhHeld=>?_);clear hK K
 try simp only [ga,gs,gz,Act.put,sa,sz,ss]
 refine tk 12 ?_;refine tk 13 ?_;refine rd 14 λK hK=>?_
 simp only [ga,gs,gz]
 go_simp
 refine hK.out _ _ ?_ (λhHeld=>?_)
 ·(try dsimp only);(refine ⟨?_,?_,?_,?_,?_,?_⟩<;>(repeat (refine qa0 ?_ (by first|omega|(simp;done)|(simp;omega))))<;>(refine Later.cell (Lau:Later w2 _) ?_)<;>assumption)
 clear hK K
 try simp only [ga,gs,gz,Act.put,sa,sz,ss]
 refine tk 15 ?_;clear KF;refine Zn1 krZ ?_ _;refine Zd1 ?_;have hn:=(hL.out.set_ 0 (.slice A9 na na)).set_ 1 (.slice B9 nb nb);have e0:=hn.cell 0;have e1:=hn.cell 1;simp at e0 e1;clear hHeld hn;go_wp2_with fail;refine Zk1 (v:=.tuple #[.agg #[.slice A9 na na,.slice B9 nb nb],.int .i64 (Ly.bsingle R).2]) (by simp [results,Tryz.results11,go_sem,e0,e1]) rfl ?_;rw [HE.out];exact GoBU.fin K1.out K2.out hT.out hL.out (show w.heap.size<=w.heap.size+2 by omega) (by first|omega|(simp;omega)) _ _
set_option maxRecDepth 20000 in
theorem qgq (o:OpD) (S P X GS GC:Option Addr) (c cp cx gc gd:Nat) (p x:List Ten) (g:Ten) (w:Zp1) (hk:o.kind=14) (ho:o.s.length<=1048576) (hI:Ints .i64 w S o.s) (hP:Tns w P p) (hX:Tns w X x) (hG:TenIn w GS GC gc gd g) (hc:Od.counts o p.length x.length=0):
  Calls Tryz.prog 11 #[.agg #[.int .i64 o.kind,.int .i64 o.k,.int .i64 o.width,.int .i64 o.step,.int .i64 o.side,.int .i64 o.frm,.int .i64 o.to,.slice S o.s.length c],.slice P p.length cp,.slice X x.length cx,.agg #[.slice GS g.s.length gc,.slice GC g.c.length gd]] w (GoB (Ly.layBack o p x g) w):=by
 obtain ⟨w1,e1,hi,hh,ht,hM⟩:=qay w o S c GS GC gc gd g;have hb:=Ly.counts_ok hc;unfold Od.least Od.most Od.params at hb;have hs:p.length=0:=by have:=hb.1;have h3:=hb.2.2.2;rw [if_pos this] at h3;simp [hk] at h3;omega
 have hA:x.length=1:=by have:=hb.1;have h1:=hb.2.1;have h2:=hb.2.2.1;rw [if_pos this] at h1 h2;simp [hk] at h1 h2;omega
 have HE:=zI (Ly.layBack14 (p:=p) (x:=x) (g:=g) hk);obtain ⟨HC,hW,hN,Hk⟩:=zd4 hc hs hA hk;clear hb hc hs hA hk;obtain ⟨HI,HP,HX,HG,hm,hg,hj,hB,hx⟩:=zd9 hI hP hX hG hM hi hh ht e1;clear hI hP hX hG hM hi hh ht e1;go_enter Tryz.func11,Tryz.ntmps11;go_wp2_with fail;rw [hx.out];clear hx;refine (qat o S c p.length x.length w1 oZ (HI.out.below hm.out (lrZ _))).mono ?_;rintro e w2 ⟨rfl,hw⟩;rw [HC.out];have he:Later w1 w2:=hw;have hH:=hm.out.trans he;have hz:=he.blk hB.out;have hC:=he.blk hg.out;have hD:=he.blk hj.out;clear hw he hm hB hg hj;obtain ⟨HH,Hz,hl,hF⟩:=zd4 hH hz hC hD;clear hH hz hC hD;obtain ⟨bx,xo,S2,c2,C2,d2,rfl,lbx,x00,x01,hQ⟩:=HX.out.at_ (j:=0) (by have:=hN.out;omega);have ha:=λ(W:Zp1) (h:Later w2 W)=>qac (cut_back S2 C2 GS GC c2 d2 gc gd (Ly.got x 0) g o.side o.frm o.to W (hQ.later (HH.out.trans h)) (HG.out.later (HH.out.trans h))) Ly.cutBack_none
 have hE:=HE.out;obtain ⟨R,hR⟩:∃R,Ly.cutBack (Ly.got x 0) g o.side o.frm o.to=R:=⟨_,rfl⟩
 rw [hR] at ha hE;have q1:w2.cell? ⟨bx,xo,none⟩=some (.slice S2 (Ly.got x 0).s.length c2):=HH.out.cell (by simpa using x00);have q2:w2.cell? ⟨bx,xo+1,none⟩=some (.slice C2 (Ly.got x 0).c.length d2):=HH.out.cell (by simpa using x01);have q3:w2.cell? ⟨w.heap.size+1,0,none⟩=some (.slice GS g.s.length gc):=by rw [hF.out.cell];rfl
 have q4:w2.cell? ⟨w.heap.size+1,1,none⟩=some (.slice GC g.c.length gd):=by rw [hF.out.cell];rfl
 have q5:w2.cell? ⟨w.heap.size,4,none⟩=some (.int .i64 o.side):=by rw [hl.out.cell];rfl
 have q6:w2.cell? ⟨w.heap.size,5,none⟩=some (.int .i64 o.frm):=by rw [hl.out.cell];rfl
 have q7:w2.cell? ⟨w.heap.size,6,none⟩=some (.int .i64 o.to):=by rw [hl.out.cell];rfl
 have x0:w2.cell? ⟨w.heap.size,0,none⟩=some (.int .i64 14):=by rw [hl.out.cell,←Hk.out];rfl
 have hZ:=HH.out.size;have h0:=Hz.out.lt;rw [hN.out];clear hR x00 x01 hQ HE;obtain ⟨hf,HE⟩:=zd2 ha hE;clear ha hE;go_upto_region 24 with fail;clear x0;have KF:=zI (show ∀Xw,Later w2 Xw->Xw.cell? ⟨bx,xo,none⟩=some (.slice S2 (Ly.got x 0).s.length c2)/\Xw.cell? ⟨bx,xo+1,none⟩=some (.slice C2 (Ly.got x 0).c.length d2)/\Xw.cell? ⟨w.heap.size+1,0,none⟩=some (.slice GS g.s.length gc)/\Xw.cell? ⟨w.heap.size+1,1,none⟩=some (.slice GC g.c.length gd)/\Xw.cell? ⟨w.heap.size,4,none⟩=some (.int .i64 o.side)/\Xw.cell? ⟨w.heap.size,5,none⟩=some (.int .i64 o.frm)/\Xw.cell? ⟨w.heap.size,6,none⟩=some (.int .i64 o.to) from λXw h=>⟨h.cell q1,h.cell q2,h.cell q3,h.cell q4,h.cell q5,h.cell q6,h.cell q7⟩);refine Zm1 ?_;refine Zl1 (S:=λXw=>Xw.cell? ⟨bx,xo,none⟩=some (.slice S2 (Ly.got x 0).s.length c2)/\Xw.cell? ⟨bx,xo+1,none⟩=some (.slice C2 (Ly.got x 0).c.length d2)/\Xw.cell? ⟨w.heap.size+1,0,none⟩=some (.slice GS g.s.length gc)/\Xw.cell? ⟨w.heap.size+1,1,none⟩=some (.slice GC g.c.length gd)/\Xw.cell? ⟨w.heap.size,4,none⟩=some (.int .i64 o.side)/\Xw.cell? ⟨w.heap.size,5,none⟩=some (.int .i64 o.frm)/\Xw.cell? ⟨w.heap.size,6,none⟩=some (.int .i64 o.to)) krZ (KF.out _ Lau) (λhHeld=>?_);refine tk 0 ?_;refine tk 1 ?_;refine tk 2 ?_;refine tk 3 ?_;refine tk 4 ?_;refine tk 5 ?_;refine tk 6 ?_;refine tk 7 ?_;refine tk 8 ?_;refine tk 9 ?_;refine rd 10 λK hK=>?_
 simp only [ga,gs,gz]
 go_simp
 go_at_call 16
 (with_reducible refine (hf.out _ (Lau:Later w2 _)).mono ?_)
 rintro e wf ⟨S3,c3,C3,d3,rfl,-,hO,hU⟩;have hJ:Later w2 wf:=Later.trans (Lau:Later w2 (World.drew w2)) hU;obtain ⟨hS,hq⟩:=zd2 hO hJ;clear hO hJ
 try go_wp2_with fail
 refine hK.out _ _ (KF.out _ Lau) (λhHeld=>?_);clear hK K
 try simp only [ga,gs,gz,Act.put,sa,sz,ss]
 refine tk 11 ?_;refine tk 12 ?_;refine rd 13 λK hK=>?_
 simp only [ga,gs,gz]
 go_simp
 go_at_call 47
 (with_reducible refine (qbW S3 C3 _ _ _ _ _ _).mono ?_)
 intro e w9 hr;have hu:=sg_u (w0:=w) hr (λh=>(hS.out h).base (by first|omega|(simp;omega))) (HH.out.trans hq.out);have hp:Later w2 w9:=Later.trans hq.out (show Later wf w9 by obtain ⟨_,_,_,_,_,h⟩:=hr;exact h);have hv:(Ly.bsingle R).2=R.2:=by unfold Ly.bsingle;split<;>simp_all
 obtain ⟨A9,na,B9,nb,rfl,k1,k2,hy⟩:=hu;have hY:=hq.out.size;have hd:=hp.blk Hz.out;have c0':=hd.cell 0;have c1':=hd.cell 1;have f0':=hd.frozen 0;have f1':=hd.frozen 1;simp at c0' c1';have hL:=zI hd;clear hd;obtain ⟨K1,K2,hT,h4⟩:=zd4 k1 k2 hy hv;have hV:Below w2.heap.size w2 w9:=hp;clear k1 k2 hy hr hp hv
 try go_wp2_with fail
 refine hK.out _ _ (KF.out _ Lau) (λhHeld=>?_);clear hK K
 try simp only [ga,gs,gz,Act.put,sa,sz,ss]
 refine tk 14 ?_;refine tk 15 ?_;refine rd 16 λK hK=>?_
 simp only [ga,gs,gz]
 go_simp
 refine hK.out _ _ ?_ (λhHeld=>?_)
 ·(try dsimp only);(refine ⟨?_,?_,?_,?_,?_,?_,?_⟩<;>(repeat (refine qa0 ?_ (by first|omega|(simp;done)|(simp;omega))))<;>(refine Later.cell (Lau:Later w2 _) ?_)<;>assumption)
 clear hK K
 try simp only [ga,gs,gz,Act.put,sa,sz,ss]
 refine tk 17 ?_;clear KF;refine Zn1 krZ ?_ _;refine Zd1 ?_;have hn:=(hL.out.set_ 0 (.slice A9 na na)).set_ 1 (.slice B9 nb nb);have e0:=hn.cell 0;have e1:=hn.cell 1;simp at e0 e1;clear hHeld hn;go_wp2_with fail;refine Zk1 (v:=.tuple #[.agg #[.slice A9 na na,.slice B9 nb nb],.int .i64 (Ly.bsingle R).2]) (by simp [results,Tryz.results11,go_sem,e0,e1]) rfl ?_;rw [HE.out];exact GoBU.fin K1.out K2.out hT.out hL.out (show w.heap.size<=w.heap.size+2 by omega) (by first|omega|(simp;omega)) _ _
theorem qgr {α:Type} (C L:List α) {k:Nat} (hk:k<C.length) (hn:C.length=L.length):(C.take k++L.drop k).set k C[k]=C.take (k+1)++L.drop (k+1):=by
 have h1:(C.take k).length=k:=by simp;omega
 rw [List.set_append_right _ _ oZ,h1,Nat.sub_self,Zd oZ,List.set_cons_zero,Zb hk,List.append_assoc]
 rfl
theorem RowO.base {B B':Nat} {w:Zp1} {vs:List Value} {ts:List Ten} (h:RowO B w vs ts) (hB:B'<=B):RowO B' w vs ts:=
 ⟨h.1,λj hj=>by obtain ⟨S,c,C,d,e1,e2,e3⟩:=h.2 j hj;exact ⟨S,c,C,d,e1,e2,e3.base hB⟩⟩
set_option maxRecDepth 20000 in
theorem qgs (sd:Int) (A GS GC:Option Addr) (f gc gd:Nat) (x:List Ten) (g:Ten) (w:Zp1) (lx:x.length<=1048576) (hf:x.length<=f) (hf2:f<=9223372036854775807) (hT:Tns w A x) (hG:TenIn w GS GC gc gd g):
  Calls Tryz.prog 15 #[.int .i64 sd,.agg #[.slice GS g.s.length gc,.slice GC g.c.length gd],.slice A x.length f] w (GoL (Ly.joinBack sd g x) w):=by
 obtain ⟨i0,hi,HL,Hi,Hf⟩:=info_parts qcD;have Hn:Later w (w.alloc (.cells #[.slice GS g.s.length gc,.slice GC g.c.length gd] 30)):=(Later.refl w).alloc _;have hk:=Blk.new w 30 #[.slice GS g.s.length gc,.slice GC g.c.length gd];have lg1:=hG.l1;have lg2:=hG.l2;obtain ⟨HT,hY,Hk,HG⟩:=zd4 hT Hn hk hG;clear hT Hn hk hG;go_enter Tryz.func15,Tryz.ntmps15;go_wp2_with fail;generalize w.alloc (.cells #[.slice GS g.s.length gc,.slice GC g.c.length gd] 30)=w1 at *;refine (qcF sd A f x w1 lx hf hf2 (HT.out.later hY.out)).mono ?_;rintro e w2 ⟨B,bc,rfl,hI,H4,H8,H1,Ht⟩;have h0:Later w1 w2:=Ht;have hy:=hY.out.trans h0;have hx:=h0.blk Hk.out;clear Ht hY Hk h0 H1
 by_cases hj:(Ly.joined sd x).2=0
 case neg=>
  have HE:=zI (Ly.joinBack_err (g:=g) hj);have Hj:=zI hj;have d1:((Ly.joined sd x).2==0)=false:=by simpa using hj
  have d2:((Ly.joined sd x).2 != 0)=true:=by simpa using hj
  clear hj hI;generalize (Ly.joined sd x).2=ge at *;generalize (Ly.joined sd x).1.length=sl at *;obtain ⟨hA,h1⟩:=zd2 hy hx;clear hy hx;go_wp2_with fail;refine Zk1 (v:=.tuple #[.slice none 0 0,.int .i64 ge]) (by simp [results,Tryz.results15,go_sem]) rfl ?_;exact GoL.fail HE.out Hj.out hA.out
 have hg:=λhh=>Ly.joinBack_bad (g:=g) hj hh
 have hm:=λhh hs=>Ly.joinBack_ok (g:=g) hj hh hs
 have ho:=λhh hs (j:Nat) (hjl:j<x.length)=>Ly.jb_each (g:=g) hj hh hs hjl
 obtain ⟨k,rfl,Hh,H9,-,Hv,-⟩:=Ly.joined_facts hj;rw [hj];have HO:=(Sh.right_mul Hv).2.1;clear hj Hv;generalize (Ly.joined (k:Int) x).1=s at *;have g0:w2.cell? ⟨w.heap.size,0,none⟩=_:=hx.cell 0;have g1:w2.cell? ⟨w.heap.size,1,none⟩=_:=hx.cell 1;simp at g0 g1;have Ho:=qa2 GS GC gc gd g w2 oZ oZ (HG.out.later hy).r.1;have Hq:=λ(V:Zp1) (h:Later w2 V)=>qaa GS B gc bc g.s s V oZ oZ (HG.out.later (hy.trans h)).r.1 (hI.below h (lrZ _))
 obtain ⟨hA,h1,HI,hd,ha,hL,Hm,hp⟩:=zd8 hy hx hI hg hm Ho Hq ho;clear hy hx hI hg hm Ho Hq ho;cases hr:Tn.right g
 ·have HE:=zI (hd.out (by rw [hr];rfl))
  rw [hr] at hL;clear hd ha hr;go_wp2_with fail;refine (hL.out).mono ?_;rintro e w3 ⟨rfl,hS⟩;have he:Later w2 w3:=hS;have hD:=hA.out.trans he;clear g0 g1 hS;obtain ⟨hJ,h2⟩:=zd2 he hD;clear he hD;go_wp2_with fail;refine Zk1 (v:=.tuple #[.slice none 0 0,.int .i64 20]) (by simp [results,Tryz.results15,go_sem]) rfl ?_;exact GoL.fail HE.out dZ h2.out
 rw [hr] at hL;go_wp2_with fail;refine (hL.out).mono ?_;rintro e w3 ⟨rfl,hS⟩;have he:Later w2 w3:=hS;have g0':=he.cell g0;clear hS g0 g1;have hc:=Hm.out _ he;cases hq:(g.s==s)
 ·have HE:=zI (hd.out (by rw [hr,hq];rfl))
  rw [hq] at hc;clear hd ha hr hq;obtain ⟨hJ,hl⟩:=zd2 he hc;clear he hc;go_wp2_with fail;refine (hl.out).mono ?_;rintro e w4 ⟨rfl,q4,rfl⟩;have hD:=(hA.out.trans hJ.out).drewN q4;clear g0';have h2:=zI hD;clear hD;go_wp2_with fail;refine Zk1 (v:=.tuple #[.slice none 0 0,.int .i64 20]) (by simp [results,Tryz.results15,go_sem]) rfl ?_;exact GoL.fail HE.out dZ h2.out
 rw [hq] at hc;have Hb:g.s=s:=by simpa using hq
 have HE:=zI (ha.out hr Hb);have hv:=hp.out hr Hb;rw [tnZ] at hv;clear hd ha hr hq Hb hp;obtain ⟨hJ,hl,Hd⟩:=zd3 he hc hv;clear he hc hv;go_wp2_with fail;refine (hl.out).mono ?_;rintro e w4 ⟨rfl,q4,rfl⟩;have hZ:=hJ.out.drewN q4;clear g0' hl Hm hL hJ;generalize w3.drewN q4=w4 at *;have h5:=hA.out.trans hZ;have Hu:=hZ.blk h1.out;have He:=HG.out.later h5;clear hZ hA h1 HI;obtain ⟨Hc,HH,HN⟩:=zd3 h5 Hu He;clear h5 Hu He;go_wp2_with (at_make;refine wpList_make_full _ rfl _ _ 27 rfl w4.heap.size 30 i0 (.agg #[.slice none 0 0,.slice none 0 0]) 2 Tryz.underlying27 hi HL Hi _ _ _ _ x.length rfl rfl (by first|rfl|simp) (by first|rfl|simp) ?b2 ?b3 (lrZ _) ?_)
 case b2=>rw [Hf];omega
 case b3=>unfold maxLen;omega
 intro w5 hown hgrow
 have hQ:Blk w5 w4.heap.size 30 (Zc (x.length*2) (Zb1 none 0 0)).toArray:=by
  have h:=qc7 hown;rw [qb3] at h;exact h
 have Hy:Later w4 w5:=(Later.refl w4).grown hgrow (lrZ _) sZ;obtain ⟨JL,hJL⟩:∃JL,Ly.jlist (k:Int) g 0 x=JL:=⟨_,rfl⟩
 have HM:JL.length=x.length:=by rw [←hJL,Ly.jlist_len]
 have Hg:∀j (hj:j<JL.length),JL[j]=Ly.jcut (k:Int) g (Ly.sumAt k (x.take j)) (Ly.got x j):=λj hj=>by
  have:=Ly.jlist_get (k:Int) g x 0 j oZ;rw [hJL,qam hj,Int.zero_add,tnZ] at this;exact this
 rw [hJL] at HE;have HY:w.heap.size<=w4.heap.size:=Hc.out.size;have hR:RowO w.heap.size w5 (Zc (x.length*2) (Zb1 none 0 0)) (JL.take 0++(Zc x.length Ly.none_).drop 0):=by simpa using RowO.zeros w.heap.size w5 x.length
 clear hown hgrow hi HL Hi Hf hJL;obtain ⟨hE,HC,hw,HX,hK⟩:=zd5 hQ Hy HM Hg hR;clear hQ Hy HM Hg hR;go_wp2_with fail
 go_loopw [11,39] (λfv iv wx=>∃(j:Nat) (vs:List Value),j<=x.length/\iv=.int .i64 (j:Int)/\fv=.int .i64 (Ly.sumAt k (x.take j))/\Blk wx w4.heap.size 30 vs.toArray/\RowO w.heap.size wx vs (JL.take j++(Zc x.length Ly.none_).drop j)/\Later w4 wx) (λ_ iv _=>x.length-(intOf iv).toNat)
 case atStart=>exact ⟨0,_,Zt _,rfl,rfl,hE.out,hK.out,HC.out⟩
 case round=>
  obtain ⟨j,vs,hj,rfl,rfl,hB,hC,hH⟩:=hrel;clear hE hK HC
  by_cases hu:j<x.length
  ·obtain ⟨b,off,S,c,C,d,rfl,hb,y0,y1,ht⟩:=(HT.out.later (Hc.out.trans hH)).at_ hu
   obtain ⟨hcut,H2,gf,gb,H7,HZ,-⟩:=Hd.out j hu;have HA:=HX.out j (by rw [hw.out];exact hu);have hV:=qgr JL (Zc x.length Ly.none_) (k:=j) (by rw [hw.out];exact hu) (by rw [hw.out,List.length_replicate]);rw [HA] at hV
   have hO:Ly.sumAt k (x.take (j+1))=Ly.sumAt k (x.take j)+Ly.at_ (Ly.got x j).s k:=by
    rw [Zb hu,Ly.sumAt_app,Ly.sumAt_one,qam hu]
    rfl
   obtain ⟨bs,os,HQ,-,cs⟩:=ht.r.1 k HZ;subst HQ;have cs':wr.cell? ⟨bs,os+k,none⟩=some (.int .i64 (Ly.at_ (Ly.got x j).s k)):=cs;have HK:Ly.jcut (k:Int) g (Ly.sumAt k (x.take j)) (Ly.got x j)=(Ly.cut g (k:Int) (Ly.sumAt k (x.take j)) (Ly.sumAt k (x.take j)+Ly.at_ (Ly.got x j).s k)).1:=by unfold Ly.jcut;rw [tnZ]
   rw [HK] at hV;have Hx:vs.length=x.length*2:=by rw [hC.1,Ze,Zo,Zq,List.length_replicate,hw.out];omega
   have hM:(JL.take j++(Zc x.length Ly.none_).drop j).length=x.length:=by rw [Ze,Zo,Zq,List.length_replicate,hw.out];omega
   obtain ⟨M1,hM1⟩:∃M1,M1=JL.take (j+1)++(Zc x.length Ly.none_).drop (j+1):=⟨_,rfl⟩
   rw [←hM1] at hV;generalize JL.take j++(Zc x.length Ly.none_).drop j=M0 at *;generalize Ly.sumAt k (x.take j)=F at *;generalize Ly.at_ (Ly.got x j).s k=sk at *;generalize Ly.got x j=t at *;have HF:=λ(V:Zp1) (h:Later wr V)=>qd7 GS GC gc gd g (k:Int) F (F+sk) V (HN.out.later (hH.trans h))
   have HD:=(Later.refl wr).alloc (.cells #[.slice (some ⟨bs,os,none⟩) t.s.length c,.slice C t.c.length d] 30);have Hr:=Blk.new wr 30 #[.slice (some ⟨bs,os,none⟩) t.s.length c,.slice C t.c.length d];have k1:(j:Int)<(x.length:Int):=by omega
   have k2:(k:Int)<(t.s.length:Int):=by omega
   clear cs HA HK ht H2;obtain ⟨HB,hW,hX,h4,HU,h8,HP,hz,HS⟩:=zd9 hB hC hH hcut hV hO HF HD Hr;obtain ⟨Hp,hN,H0⟩:=zd3 Hx hM hM1;clear hB hC hH hcut hV hO HF HD Hr Hx hM hM1;go_upto_region 11 with fail;have cs:=hz.out.cell cs';generalize wr.alloc (.cells #[.slice (some ⟨bs,os,none⟩) t.s.length c,.slice C t.c.length d] 30)=wb at *;have x0:wb.cell? ⟨wr.heap.size,0,none⟩=_:=HS.out.cell 0;have gg0:wb.cell? ⟨w.heap.size,0,none⟩=_:=((hX.out.trans hz.out).blk HH.out).cell 0;have gg1:wb.cell? ⟨w.heap.size,1,none⟩=_:=((hX.out.trans hz.out).blk HH.out).cell 1;simp at x0 gg0 gg1;clear y0 y1 cs';go_wp2_with fail;refine (HP.out _ hz.out).mono ?_;rintro e w6 ⟨⟨hg,-⟩|⟨-,v,rfl,Hz⟩,Hl⟩
   ·exact absurd h4.out hg
   generalize (Ly.cut g (k:Int) F (F+sk)).1=u at *;have hP:=Hz;obtain ⟨S3,c3,C3,d3,rfl,-,-,-⟩:=Hz;have h6:Later wb w6:=Hl;have hF:=hz.out.trans h6;have hn:=hF.blk HB.out;have Ha:=(hW.out.later hF).set (k:=j) (by rw [hN.out];exact hu) (hP.base (by have:=hX.out.size;have:=hz.out.size;omega));rw [HU.out,H0.out] at Ha;have h7:=Hp.out;obtain ⟨p0,e0⟩:∃u,w6.cell? ⟨w4.heap.size,j*2,none⟩=some u:=by rw [hn.cell];exact ⟨_,by rw [Zk,geZ oZ]⟩
   obtain ⟨p1,e1⟩:∃u,w6.cell? ⟨w4.heap.size,j*2+1,none⟩=some u:=by rw [hn.cell];exact ⟨_,by rw [Zk,geZ oZ]⟩
   have f0:=hn.frozen (j*2);have f1:=hn.frozen (j*2+1);have hU:=Ha.off (i:=j*2) (k:=j*2+1) hn hW.out.rowT.cell (.slice S3 u.s.length c3) (.slice C3 u.c.length d3);have h9:=(hn.set_ (j*2) (.slice S3 u.s.length c3)).set_ (j*2+1) (.slice C3 u.c.length d3);rw [List.setIfInBounds_toArray,List.setIfInBounds_toArray] at h9;have Hs:=((hX.out.trans hF).set (p:=⟨w4.heap.size,j*2,none⟩) (lrZ _) (.slice S3 u.s.length c3)).set (p:=⟨w4.heap.size,j*2+1,none⟩) (lrZ _) (.slice C3 u.c.length d3);clear Hl x0 gg0 gg1 cs hP Ha Hp hN h7;obtain ⟨H6,H5,H3,h3,HW,HR⟩:=zd6 h6 hF hn hU h9 Hs;clear h6 hF hn hU h9 Hs;go_wp2_with fail;go_roundw
   case rel=>exact ⟨j+1,_,by omega,by go_num,by rw [h8.out],HW.out,h3.out,HR.out⟩
   case measure=>simp [intOf];omega
  ·obtain rfl:j=x.length:=by omega
   have HJ:JL.take x.length++(Zc x.length Ly.none_).drop x.length=JL:=by rw [←hw.out,Zg,List.drop_eq_nil_of_le (by rw [List.length_replicate];exact lrZ _),List.append_nil]
   rw [HJ] at hC;have Hw:=Hc.out.trans hH;obtain ⟨HB,hW,HV⟩:=zd3 hB hC Hw;clear hB hC Hw;clear HJ;go_wp2_with fail;refine Zk1 (v:=.tuple #[.slice (some ⟨w4.heap.size,0,none⟩) x.length x.length,.int .i64 0]) (by simp [results,Tryz.results15,go_sem]) rfl ?_;rw [HE.out];exact ⟨.inr ⟨rfl,some ⟨w4.heap.size,0,none⟩,by rw [show (JL,(0:Int)).1.length=x.length from hw.out],hW.out.tnsO HB.out HY⟩,HV.out⟩
namespace Ly
theorem layBack13 {o:OpD} {p x:List Ten} {g:Ten} (h:o.kind=13):layBack o p x g=bseveral (joinBack o.side g x):=by
 unfold layBack;rw [if_neg oZ,if_neg oZ,if_neg oZ,if_neg oZ,if_neg oZ,if_pos h]
end Ly
set_option maxRecDepth 20000 in
theorem qgt (o:OpD) (S P X GS GC:Option Addr) (c cp cx gc gd:Nat) (p x:List Ten) (g:Ten) (w:Zp1) (hk:o.kind=13) (ho:o.s.length<=1048576) (hI:Ints .i64 w S o.s) (hX:Tns w X x) (lX:x.length<=1048576) (kX:x.length<=cx) (mX:cx<=9223372036854775807) (hG:TenIn w GS GC gc gd g):
  Calls Tryz.prog 11 #[.agg #[.int .i64 o.kind,.int .i64 o.k,.int .i64 o.width,.int .i64 o.step,.int .i64 o.side,.int .i64 o.frm,.int .i64 o.to,.slice S o.s.length c],.slice P p.length cp,.slice X x.length cx,.agg #[.slice GS g.s.length gc,.slice GC g.c.length gd]] w (GoB (Ly.back o p x g) w):=by
 obtain ⟨w1,e1,ht,hs,hE,hM⟩:=qay w o S c GS GC gc gd g;obtain ⟨HI,HX,HG,hw,hr,hu,hK,Hk,hJ⟩:=zd9 hI hX hG hM ht hs hE hk e1;clear hI hX hG hM ht hs hE hk e1;go_enter Tryz.func11,Tryz.ntmps11;go_wp2_with fail;rw [hJ.out];clear hJ;refine (qat o S c p.length x.length w1 oZ (HI.out.below hw.out (lrZ _))).mono ?_;rintro e w2 ⟨rfl,hF⟩;have hp:Later w1 w2:=hF;have hH:=hw.out.trans hp;have hz:=hp.blk hK.out;have hg:=hp.blk hr.out;have hh:=hp.blk hu.out;clear hF hp hw hK hr hu
 by_cases hc:Od.counts o p.length x.length=0
 case neg=>
  have HE:=zI (Ly.back_err (g:=g) hc);have Hc:=zI hc;have d2:(Od.counts o p.length x.length != 0)=true:=by simpa using hc
  clear hc;generalize Od.counts o p.length x.length=ge at *;have c0':=hz.cell 0;have c1':=hz.cell 1;have f0:=hz.frozen 0;have f1:=hz.frozen 1;have ha:=(hz.set_ 0 (.slice none 0 0)).set_ 1 (.slice none 0 0);have d0:=ha.cell 0;have d1:=ha.cell 1;simp at c0' c1' d0 d1;obtain ⟨HH,Hz,hQ,hV,hB⟩:=zd5 hH hz hg hh ha;clear hH hz hg hh ha;go_wp2_with fail;refine Zk1 (v:=.tuple #[.agg #[.slice none 0 0,.slice none 0 0],.int .i64 ge]) (by simp [results,Tryz.results11,go_sem,d0,d1]) rfl ?_;exact GoB.fail HE.out Hc.out ((HH.out.set (p:=⟨w.heap.size+2,0,none⟩) sZ _).set (p:=⟨w.heap.size+2,1,none⟩) sZ _)
 have HE:=zI ((Ly.back_lay (g:=g) hc).trans (Ly.layBack13 Hk.out));rw [hc];clear hc;have x0:w2.cell? ⟨w.heap.size,0,none⟩=some (.int .i64 13):=by rw [hg.cell,←Hk.out];rfl
 have x1:w2.cell? ⟨w.heap.size,4,none⟩=some (.int .i64 o.side):=by rw [hg.cell];rfl
 have g0:=hh.cell 0;have g1:=hh.cell 1;simp at g0 g1;have hb:=qgs o.side X GS GC cx gc gd x g w2 lX kX mX (HX.out.later hH) (HG.out.later hH);obtain ⟨R,hR⟩:∃R,Ly.joinBack o.side g x=R:=⟨_,rfl⟩
 rw [hR] at hb HE;obtain ⟨HH,Hz,hQ,hV,hq,HR⟩:=zd6 hH hz hg hh hb hR;clear hH hz hg hh hb hR;go_wp2_with fail;refine (hq.out).mono ?_;rintro e w3 ⟨⟨hx,rfl⟩|⟨h0,A,rfl,hO⟩,hv⟩
 ·have hf:Later w2 w3:=hv
  have hn:Ly.bseveral R=(Ly.bnone,R.2):=by unfold Ly.bseveral;rw [if_neg hx]
  rw [hn] at HE;have hi:=HH.out.trans hf;have hj:=hf.blk Hz.out;have hL:=zI hx;clear hv x0 x1 g0 g1 hx hn;generalize R.2=ge at *;obtain ⟨hY,hy,hD⟩:=zd3 hf hi hj;clear hf hi hj;go_wp2_with fail;refine (qbR none 0 0 ge w3 hL.out).mono ?_;rintro e w4 ⟨rfl,hl⟩;have hd:Later w3 w4:=hl;have hm:=hy.out.trans hd;have ha:=hd.blk hD.out;have c0':=ha.cell 0;have c1':=ha.cell 1;have f0:=ha.frozen 0;have f1:=ha.frozen 1;have he:=(ha.set_ 0 (.slice none 0 0)).set_ 1 (.slice none 0 0);have d0:=he.cell 0;have d1:=he.cell 1;simp at c0' c1' d0 d1;clear hl;obtain ⟨hS,hA,hB,hW⟩:=zd4 hd hm ha he;clear hd hm ha he;go_wp2_with fail;refine Zk1 (v:=.tuple #[.agg #[.slice none 0 0,.slice none 0 0],.int .i64 ge]) (by simp [results,Tryz.results11,go_sem,d0,d1]) rfl ?_;exact GoB.fail HE.out hL.out ((hA.out.set (p:=⟨w.heap.size+2,0,none⟩) sZ _).set (p:=⟨w.heap.size+2,1,none⟩) sZ _)
 ·have hf:Later w2 w3:=hv
  have hn:Ly.bseveral R=(⟨[],R.1⟩,0):=by unfold Ly.bseveral;rw [if_pos h0]
  rw [hn] at HE;have hi:=HH.out.trans hf;have hj:=hf.blk Hz.out;have hZ:=Hz.out.lt;have hU:=HH.out.size;clear hv x0 x1 g0 g1 hn h0;obtain ⟨hY,hy,hD,HO⟩:=zd4 hf hi hj hO;clear hf hi hj hO;go_wp2_with fail;refine (qbQ A R.1.length R.1.length w3).mono ?_;rintro e w4 ⟨rfl,hl⟩;have hd:Later w3 w4:=hl;have hm:=hy.out.trans hd;have ha:=hd.blk hD.out;have hC:=HO.out.later hd
  have hN:∀a,A=some a->a.block≠w.heap.size+2:=λa e=>by
   obtain ⟨b,h1,h2,-,-⟩:=hC.1 a e;rw [h1]
   show b≠_
   omega
  have c0':=ha.cell 0;have c1':=ha.cell 1;have f0:=ha.frozen 0;have f1:=ha.frozen 1;have he:=(ha.set_ 0 (.slice none 0 0)).set_ 1 (.slice A R.1.length R.1.length);have d0:=he.cell 0;have d1:=he.cell 1;simp at c0' c1' d0 d1;clear hl;obtain ⟨hS,hA,hB,hW,hP,hT⟩:=zd6 hd hm ha he hC hN;clear hd hm ha he hC hN;go_wp2_with fail;refine Zk1 (v:=.tuple #[.agg #[.slice none 0 0,.slice A R.1.length R.1.length],.int .i64 0]) (by simp [results,Tryz.results11,go_sem,d0,d1]) rfl ?_;rw [HE.out];exact ⟨.inr ⟨rfl,none,A,rfl,TnsO.nil _ _,(hP.out.base hU).box hB.out hT.out _ _⟩,(hA.out.set (p:=⟨w.heap.size+2,0,none⟩) sZ _).set (p:=⟨w.heap.size+2,1,none⟩) sZ _⟩
theorem qa4 {w:Zp1} {a b:Nat} {t1 t2:TypeId} {c1 c2:Array Value} (h1:Blk w a t1 c1) (h2:Blk w b t2 c2) (ht:t1≠t2):a≠b:=by
 intro e;subst e;have e:=h1.symm.trans h2;injection e with e
 injection e with _ e2 _
 exact ht e2
def six (u0 u1 u2 u3 u4 u5:Value) (tb:Nat) (w:Zp1):Zp1:=(((((w.setCell ⟨tb,0,none⟩ u0).setCell ⟨tb,1,none⟩ u1).setCell ⟨tb,2,none⟩ u2).setCell ⟨tb,3,none⟩ u3).setCell ⟨tb,4,none⟩ u4).setCell ⟨tb,5,none⟩ u5
theorem qbv (u0 u1 u2 u3 u4 u5:Value) (tb:Nat) (w:Zp1):Else tb w (six u0 u1 u2 u3 u4 u5 tb w):=((((((Else.refl tb w).setCell 0 u0).setCell 1 u1).setCell 2 u2).setCell 3 u3).setCell 4 u4).setCell 5 u5
theorem qbJ {u0 u1 u2 u3 u4 u5 v0 v1 v2 v3 v4 v5:Value} {tb:Nat} {T:TypeId} {w:Zp1} (h:Blk w tb T #[v0,v1,v2,v3,v4,v5]):Blk (six u0 u1 u2 u3 u4 u5 tb w) tb T #[u0,u1,u2,u3,u4,u5]:=by
 have:=(((((h.set_ 0 u0).set_ 1 u1).set_ 2 u2).set_ 3 u3).set_ 4 u4).set_ 5 u5;simpa [six] using this
theorem qaq {w:Zp1} {p:Nat} {T:TypeId} {v0 v1 v2 v3 v4 v5:Value} (h:Blk w p T #[v0,v1,v2,v3,v4,v5]):w.cell? ⟨p,0,none⟩=some v0/\w.cell? ⟨p,1,none⟩=some v1/\w.cell? ⟨p,2,none⟩=some v2/\w.cell? ⟨p,3,none⟩=some v3/\w.cell? ⟨p,4,none⟩=some v4/\w.cell? ⟨p,5,none⟩=some v5/\
  w.frozen? ⟨p,0,none⟩=false/\w.frozen? ⟨p,1,none⟩=false/\w.frozen? ⟨p,2,none⟩=false/\w.frozen? ⟨p,3,none⟩=false/\w.frozen? ⟨p,4,none⟩=false/\w.frozen? ⟨p,5,none⟩=false:=
 ⟨h.cell 0,h.cell 1,h.cell 2,h.cell 3,h.cell 4,h.cell 5,h.frozen 0,h.frozen 1,h.frozen 2,h.frozen 3,h.frozen 4,h.frozen 5⟩
theorem qbX {w W:Zp1} {p:Nat} (h:Later w W) (hp:w.heap.size<=p) (u0 u1 u2 u3 u4 u5:Value):Later w (six u0 u1 u2 u3 u4 u5 p W):=(qbv u0 u1 u2 u3 u4 u5 p W).below h hp
structure DbI (w:Zp1) (tb g0 h0 g1 h1 g2 h2:Nat) (bw bx bg be:Array Value) (sw sg sx cg W X:List Int) (wx:Zp1):Prop where
 kw:Blk wx w.heap.size 30 bw
 kx:Blk wx (w.heap.size+2) 30 bx
 kg:Blk wx (w.heap.size+3) 30 bg
 kz:Blk wx (w.heap.size+4) 42 #[.slice none 0 0,.slice none 0 0,.slice none 0 0,.slice none 0 0,.slice none 0 0,.slice none 0 0]
 ke:Blk wx tb 42 be
 G0:Blk wx g0 3 (sw.map (Za1 .i64)).toArray
 H0:Blk wx h0 22 (W.map (Za1 .i64)).toArray
 G1:Blk wx g1 3 (sg.map (Za1 .i64)).toArray
 H1:Blk wx h1 22 (cg.map (Za1 .i64)).toArray
 G2:Blk wx g2 3 (sx.map (Za1 .i64)).toArray
 H2:Blk wx h2 22 (X.map (Za1 .i64)).toArray
 lo:w.heap.size<=g0/\w.heap.size<=g1/\w.heap.size<=g2/\w.heap.size+4<tb/\w.heap.size<=h0/\h0<h1/\h1<h2
 later:Later w wx
theorem DbI.to {w wx wy:Zp1} {tb g0 h0 g1 h1 g2 h2:Nat} {bw bx bg be:Array Value} {sw sg sx cg W X:List Int} (H:DbI w tb g0 h0 g1 h1 g2 h2 bw bx bg be sw sg sx cg W X wx) (hl:Later wx wy):DbI w tb g0 h0 g1 h1 g2 h2 bw bx bg be sw sg sx cg W X wy:=
 ⟨hl.blk H.kw,hl.blk H.kx,hl.blk H.kg,hl.blk H.kz,hl.blk H.ke,hl.blk H.G0,hl.blk H.H0,hl.blk H.G1,hl.blk H.H1,hl.blk H.G2,hl.blk H.H2,H.lo,H.later.trans hl⟩
theorem DbI.elseW {w wx wy:Zp1} {tb g0 h0 g1 h1 g2 h2:Nat} {bw bx bg be:Array Value} {sw sg sx cg W X W':List Int} (H:DbI w tb g0 h0 g1 h1 g2 h2 bw bx bg be sw sg sx cg W X wx) (hE:Else h0 wx wy) (hb:Blk wy h0 22 (W'.map (Za1 .i64)).toArray):DbI w tb g0 h0 g1 h1 g2 h2 bw bx bg be sw sg sx cg W' X wy:=by
 obtain ⟨l0,l1,l2,l3,l4,l5,l6⟩:=H.lo;exact ⟨hE.blk (qa4 H.kw H.H0 dZ) H.kw,hE.blk (qa4 H.kx H.H0 dZ) H.kx,hE.blk (qa4 H.kg H.H0 dZ) H.kg,hE.blk (qa4 H.kz H.H0 dZ) H.kz,hE.blk (qa4 H.ke H.H0 dZ) H.ke,hE.blk (qa4 H.G0 H.H0 dZ) H.G0,hb,hE.blk (qa4 H.G1 H.H0 dZ) H.G1,hE.blk oZ H.H1,hE.blk (qa4 H.G2 H.H0 dZ) H.G2,hE.blk oZ H.H2,H.lo,hE.below H.later oZ⟩
theorem DbI.elseX {w wx wy:Zp1} {tb g0 h0 g1 h1 g2 h2:Nat} {bw bx bg be:Array Value} {sw sg sx cg W X X':List Int} (H:DbI w tb g0 h0 g1 h1 g2 h2 bw bx bg be sw sg sx cg W X wx) (hE:Else h2 wx wy) (hb:Blk wy h2 22 (X'.map (Za1 .i64)).toArray):DbI w tb g0 h0 g1 h1 g2 h2 bw bx bg be sw sg sx cg W X' wy:=by
 obtain ⟨l0,l1,l2,l3,l4,l5,l6⟩:=H.lo;exact ⟨hE.blk (qa4 H.kw H.H2 dZ) H.kw,hE.blk (qa4 H.kx H.H2 dZ) H.kx,hE.blk (qa4 H.kg H.H2 dZ) H.kg,hE.blk (qa4 H.kz H.H2 dZ) H.kz,hE.blk (qa4 H.ke H.H2 dZ) H.ke,hE.blk (qa4 H.G0 H.H2 dZ) H.G0,hE.blk oZ H.H0,hE.blk (qa4 H.G1 H.H2 dZ) H.G1,hE.blk oZ H.H1,hE.blk (qa4 H.G2 H.H2 dZ) H.G2,hb,H.lo,hE.below H.later oZ⟩
theorem DbI.putW {w wx:Zp1} {tb g0 h0 g1 h1 g2 h2:Nat} {bw bx bg be:Array Value} {sw sg sx cg W X:List Int} (H:DbI w tb g0 h0 g1 h1 g2 h2 bw bx bg be sw sg sx cg W X wx) (k:Nat) (z:Int):DbI w tb g0 h0 g1 h1 g2 h2 bw bx bg be sw sg sx cg (W.set k z) X (wx.setCell ⟨h0,k,none⟩ (.int .i64 z)):=
 H.elseW ((Else.refl _ _).setCell k _) (by have:=H.H0.set_ k (.int .i64 z);rw [List.map_set];simpa using this)
theorem DbI.putX {w wx:Zp1} {tb g0 h0 g1 h1 g2 h2:Nat} {bw bx bg be:Array Value} {sw sg sx cg W X:List Int} (H:DbI w tb g0 h0 g1 h1 g2 h2 bw bx bg be sw sg sx cg W X wx) (k:Nat) (z:Int):DbI w tb g0 h0 g1 h1 g2 h2 bw bx bg be sw sg sx cg W (X.set k z) (wx.setCell ⟨h2,k,none⟩ (.int .i64 z)):=
 H.elseX ((Else.refl _ _).setCell k _) (by have:=H.H2.set_ k (.int .i64 z);rw [List.map_set];simpa using this)
theorem DbI.store {w wx:Zp1} {tb g0 h0 g1 h1 g2 h2:Nat} {bw bx bg:Array Value} {v0 v1 v2 v3 v4 v5 u0 u1 u2 u3 u4 u5:Value} {sw sg sx cg W X:List Int} (H:DbI w tb g0 h0 g1 h1 g2 h2 bw bx bg #[v0,v1,v2,v3,v4,v5] sw sg sx cg W X wx):DbI w tb g0 h0 g1 h1 g2 h2 bw bx bg #[u0,u1,u2,u3,u4,u5] sw sg sx cg W X (six u0 u1 u2 u3 u4 u5 tb wx):=by
 have hE:=qbv u0 u1 u2 u3 u4 u5 tb wx;obtain ⟨l0,l1,l2,l3,l4,l5,l6⟩:=H.lo;exact ⟨hE.blk oZ H.kw,hE.blk oZ H.kx,hE.blk oZ H.kg,hE.blk oZ H.kz,qbJ H.ke,hE.blk (qa4 H.G0 H.ke dZ) H.G0,hE.blk (qa4 H.H0 H.ke dZ) H.H0,hE.blk (qa4 H.G1 H.ke dZ) H.G1,hE.blk (qa4 H.H1 H.ke dZ) H.H1,hE.blk (qa4 H.G2 H.ke dZ) H.G2,hE.blk (qa4 H.H2 H.ke dZ) H.H2,H.lo,hE.below H.later oZ⟩
def DbCut (w:Zp1) (bw bx bg:Array Value) (t g x:Ten) (a:Value) (wx:Zp1):Prop:=
 ∃tb g0 h0 g1 h1 g2 h2,a=.pointer (some ⟨tb,0,none⟩)/\DbI w tb g0 h0 g1 h1 g2 h2 bw bx bg #[.slice (some ⟨g0,0,none⟩) t.s.length t.s.length,.slice (some ⟨h0,0,none⟩) t.c.length t.c.length,.slice (some ⟨g1,0,none⟩) g.s.length g.s.length,.slice (some ⟨h1,0,none⟩) g.c.length g.c.length,.slice (some ⟨g2,0,none⟩) x.s.length x.s.length,.slice (some ⟨h2,0,none⟩) x.c.length x.c.length] t.s g.s x.s g.c t.c x.c wx
theorem db_mk {w w3 wa wb wc:Zp1} {tb g0 h0 g1 h1 g2 h2:Nat} {bw bx bg be:Array Value} {sw sg sx cg W X:List Int} (hw:Later w w3) (kw:Blk w3 w.heap.size 30 bw) (kx:Blk w3 (w.heap.size+2) 30 bx) (kg:Blk w3 (w.heap.size+3) 30 bg)
  (kz:Blk w3 (w.heap.size+4) 42 #[.slice none 0 0,.slice none 0 0,.slice none 0 0,.slice none 0 0,.slice none 0 0,.slice none 0 0]) (G0:Blk wa g0 3 (sw.map (Za1 .i64)).toArray) (H0:Blk wa h0 22 (W.map (Za1 .i64)).toArray) (G1:Blk wb g1 3 (sg.map (Za1 .i64)).toArray) (H1:Blk wb h1 22 (cg.map (Za1 .i64)).toArray)
  (G2:Blk wc g2 3 (sx.map (Za1 .i64)).toArray) (H2:Blk wc h2 22 (X.map (Za1 .i64)).toArray) (ke:Blk wc tb 42 be) (l1:Later w3 wa) (l2:Later wa wb) (l3:Later wb wc)
  (q0:w3.heap.size<=g0/\w3.heap.size<=h0) (q1:wa.heap.size<=g1/\wa.heap.size<=h1) (q2:wb.heap.size<=g2/\wb.heap.size<=h2) (q3:w3.heap.size<=tb):DbI w tb g0 h0 g1 h1 g2 h2 bw bx bg be sw sg sx cg W X wc:=by
 have l13:=l1.trans (l2.trans l3);have s1:=l1.size;have s2:=l2.size;have s0:=hw.size;have e0:=H0.lt;have e1:=H1.lt;have ez:=kz.lt;exact ⟨l13.blk kw,l13.blk kx,l13.blk kg,l13.blk kz,ke,(l2.trans l3).blk G0,(l2.trans l3).blk H0,l3.blk G1,l3.blk H1,G2,H2,⟨by omega,by omega,by omega,by omega,by omega,by omega,by omega⟩,hw.trans l13⟩
theorem DbI.wt {w wx:Zp1} {tb g0 h0 g1 h1 g2 h2:Nat} {bw bx bg be:Array Value} {sw sg sx cg W X:List Int} (H:DbI w tb g0 h0 g1 h1 g2 h2 bw bx bg be sw sg sx cg W X wx) (b0:sw.length<=1048576) (b1:W.length<=1048576) (i:∀z∈W,Fx.In z):TenIn wx (some ⟨g0,0,none⟩) (some ⟨h0,0,none⟩) sw.length W.length ⟨sw,W⟩:=
 ⟨⟨H.G0.intsL,H.H0.intsL⟩,lrZ _,by omega,lrZ _,by omega,b0,b1,i⟩
theorem DbI.done {r:(Ten × Ten × Ten) × Int} {w wx:Zp1} {tb g0 h0 g1 h1 g2 h2 n0 n1 n2:Nat} {bw bx bg be:Array Value} {sw sg sx cg W X:List Int} (H:DbI w tb g0 h0 g1 h1 g2 h2 bw bx bg be sw sg sx cg W X wx) (hr:r=((⟨sw,W⟩,⟨sg,cg⟩,⟨sx,X⟩),0)) (e0:W.length=n0) (e1:cg.length=n1) (e2:X.length=n2)
  (b0:sw.length<=1048576/\sg.length<=1048576/\sx.length<=1048576/\W.length<=1048576/\cg.length<=1048576/\X.length<=1048576) (i0:∀z∈W,Fx.In z) (i1:∀z∈cg,Fx.In z) (i2:∀z∈X,Fx.In z) (u0 u1 u2 u3 u4 u5:Value):
  GoD r w (.returned (.tuple #[.agg #[.slice (some ⟨g0,0,none⟩) sw.length sw.length,.slice (some ⟨h0,0,none⟩) n0 n0,.slice (some ⟨g1,0,none⟩) sg.length sg.length,.slice (some ⟨h1,0,none⟩) n1 n1,.slice (some ⟨g2,0,none⟩) sx.length sx.length,.slice (some ⟨h2,0,none⟩) n2 n2],.int .i64 0])) (six u0 u1 u2 u3 u4 u5 (w.heap.size+4) wx):=by
 subst hr;obtain ⟨l0,l1,l2,l3,l4,l5,l6⟩:=H.lo;obtain ⟨c0,c1,c2,c3,c4,c5⟩:=b0;have hE:=qbv u0 u1 u2 u3 u4 u5 (w.heap.size+4) wx;have hz:=qbJ (u0:=u0) (u1:=u1) (u2:=u2) (u3:=u3) (u4:=u4) (u5:=u5) H.kz
 have ha:=noint H.kz (λk z=>by
  match k with
  | 0=>simp
  | 1=>simp
  | 2=>simp
  | 3=>simp
  | 4=>simp
  | 5=>simp
  | n+6=>simp)
 subst e0 e1 e2;refine ⟨.inr ⟨rfl,_,_,_,_,_,_,_,_,_,_,_,_,rfl,?_,?_,?_⟩,hE.below H.later oZ⟩
 ·exact (qb6 H.G0 H.H0 l0 oZ c0 c3 i0 rfl).else_ hE ha λj=>hz.frozen j
 ·exact (qb6 H.G1 H.H1 l1 oZ c1 c4 i1 rfl).else_ hE ha λj=>hz.frozen j
 ·exact (qb6 H.G2 H.H2 l2 oZ c2 c5 i2 rfl).else_ hE ha λj=>hz.frozen j
theorem GoD.fail {n:Int} {r:(Ten × Ten × Ten) × Int} {w w':Zp1} (hr:r=((Ly.none_,Ly.none_,Ly.none_),n)) (hn:n≠0) (hb:Below w.heap.size w w'):GoD r w (.returned (.tuple #[.agg #[.slice none 0 0,.slice none 0 0,.slice none 0 0,.slice none 0 0,.slice none 0 0,.slice none 0 0],.int .i64 n])) w':=by
 subst hr;exact ⟨.inl ⟨hn,rfl⟩,hb⟩
set_option maxRecDepth 20000 in
theorem qfm (S C S' C' S2 C2 GS GC:Option Addr) (c d c' d' c2 d2 gc gd:Nat) (t b x g:Ten) (w:Zp1) (ht:TenIn w S C c d t) (hb:TenIn w S' C' c' d' b) (hx:TenIn w S2 C2 c2 d2 x) (hg:TenIn w GS GC gc gd g):
  Calls Tryz.prog 12 #[.agg #[.slice S t.s.length c,.slice C t.c.length d],.agg #[.slice S' b.s.length c',.slice C' b.c.length d'],.agg #[.slice S2 x.s.length c2,.slice C2 x.c.length d2],.agg #[.slice GS g.s.length gc,.slice GC g.c.length gd]] w (GoD (Ly.denseBack t b x g) w):=by
 obtain ⟨HS,HH,HL,HM,HU⟩:=qbt w 30 30 30 30 #[.slice S t.s.length c,.slice C t.c.length d] #[.slice S' b.s.length c',.slice C' b.c.length d'] #[.slice S2 x.s.length c2,.slice C2 x.c.length d2] #[.slice GS g.s.length gc,.slice GC g.c.length gd];have hz:=Blk.new ((((w.alloc (.cells #[.slice S t.s.length c,.slice C t.c.length d] 30)).alloc (.cells #[.slice S' b.s.length c',.slice C' b.c.length d'] 30)).alloc (.cells #[.slice S2 x.s.length c2,.slice C2 x.c.length d2] 30)).alloc (.cells #[.slice GS g.s.length gc,.slice GC g.c.length gd] 30)) 42 #[.slice none 0 0,.slice none 0 0,.slice none 0 0,.slice none 0 0,.slice none 0 0,.slice none 0 0];replace HS:=HS.alloc (.cells #[.slice none 0 0,.slice none 0 0,.slice none 0 0,.slice none 0 0,.slice none 0 0,.slice none 0 0] 42);replace HH:=HH.alloc (.cells #[.slice none 0 0,.slice none 0 0,.slice none 0 0,.slice none 0 0,.slice none 0 0,.slice none 0 0] 42);replace HL:=HL.alloc (.cells #[.slice none 0 0,.slice none 0 0,.slice none 0 0,.slice none 0 0,.slice none 0 0,.slice none 0 0] 42);replace HM:=HM.alloc (.cells #[.slice none 0 0,.slice none 0 0,.slice none 0 0,.slice none 0 0,.slice none 0 0,.slice none 0 0] 42);replace HU:=HU.alloc (.cells #[.slice none 0 0,.slice none 0 0,.slice none 0 0,.slice none 0 0,.slice none 0 0,.slice none 0 0] 42);rw [Zh1,Zh1,Zh1,Zh1] at hz;obtain ⟨gN,Gb,gr,gp,Hz,Hu,Ht,Hb,Hx⟩:=zd9 HS HH HL HM hz HU ht hb hx;have Hg:=zI hg;clear HS HH HL HM hz HU ht hb hx hg;go_enter Tryz.func12,Tryz.ntmps12;go_wp2_with fail;generalize ((((w.alloc (.cells #[.slice S t.s.length c,.slice C t.c.length d] 30)).alloc (.cells #[.slice S' b.s.length c',.slice C' b.c.length d'] 30)).alloc (.cells #[.slice S2 x.s.length c2,.slice C2 x.c.length d2] 30)).alloc (.cells #[.slice GS g.s.length gc,.slice GC g.c.length gd] 30)).alloc (.cells #[.slice none 0 0,.slice none 0 0,.slice none 0 0,.slice none 0 0,.slice none 0 0,.slice none 0 0] 42)=w1 at *
 refine (qcE S C S' C' S2 C2 c d c' d' c2 d2 t b x w1 (Ht.out.later Hu.out) (Hb.out.later Hu.out) (Hx.out.later Hu.out)).mono ?_;rintro e w2 ⟨rfl,g5⟩;have hP:Later w1 w2:=g5;have hM:=Hu.out.trans hP;have HF:=hP.blk Hz.out;have HK:=hP.blk gN.out;have h8:=hP.blk Gb.out;have HO:=hP.blk gr.out;have h4:=hP.blk gp.out;clear g5 Hz Hu gN Gb gr gp hP;cases hg0:Ly.denseOk t b x
 ·have HE:=zI (Ly.dback_bad (g:=g) (by rw [hg0];rfl:(Ly.denseOk t b x&&Tn.right g&&decide (g.s=b.s))=false))
  clear hg0;obtain ⟨c0,c1,c2,c3,c4,c5,f0,f1,f2,f3,f4,f5⟩:=qaq HF;obtain ⟨h6,HC,gm,gY,gh,HY⟩:=zd6 hM HF HK h8 HO h4;clear hM HF HK h8 HO h4;go_wp2_with fail;refine Zk1 (v:=.tuple #[.agg #[.slice none 0 0,.slice none 0 0,.slice none 0 0,.slice none 0 0,.slice none 0 0,.slice none 0 0],.int .i64 20]) (by simp [results,Tryz.results12,go_sem,c0,c1,c2,c3,c4,c5]) rfl ?_;exact GoD.fail HE.out dZ (qbX (p:=w.heap.size+4) h6.out oZ _ _ _ _ _ _)
 obtain ⟨Hm,Hl,H7,HW,HN,gg⟩:=Ly.dense_yes hg0;have d0:=h4.cell 0;have d1:=h4.cell 1;have b0:=h8.cell 0;simp at d0 d1 b0;have lg1:=Hg.out.l1;have lg2:=Hg.out.l2;have lb1:=Hb.out.l1;have gW:=qa2 GS GC gc gd g w2 oZ oZ (Hg.out.later hM).r.1;have g4:=λ(V:Zp1) (h:Later w2 V)=>qaa GS S' gc c' g.s b.s V oZ oZ (Hg.out.later (hM.trans h)).r.1 (Hb.out.later (hM.trans h)).r.1
 have Hw:=λh=>Ly.dback_bad (w:=t) (b:=b) (x:=x) (g:=g) h
 obtain ⟨h6,HC,gm,gY,gh,HY,HG,gy,hn⟩:=zd9 hM HF HK h8 HO h4 gW g4 Hw;clear hM HF HK h8 HO h4 gW g4 Hw;cases hr:Tn.right g
 ·have HE:=zI (hn.out (by rw [hr,Bool.and_false,Bool.false_and]))
  rw [hr] at HG;clear hn hr hg0 Hm Hl H7 HW HN gg;go_wp2_with fail;refine (HG.out).mono ?_;rintro e w3 ⟨rfl,Hq⟩;have hh:Later w2 w3:=Hq;have hN:=hh.blk HC.out;have Hs:=h6.out.trans hh;clear d0 d1 b0 Hq;obtain ⟨c0,c1,c2,c3,c4,c5,f0,f1,f2,f3,f4,f5⟩:=qaq hN;obtain ⟨hY,Gn,ge⟩:=zd3 hh hN Hs;clear hh hN Hs;go_wp2_with fail;refine Zk1 (v:=.tuple #[.agg #[.slice none 0 0,.slice none 0 0,.slice none 0 0,.slice none 0 0,.slice none 0 0,.slice none 0 0],.int .i64 20]) (by simp [results,Tryz.results12,go_sem,c0,c1,c2,c3,c4,c5]) rfl ?_;exact GoD.fail HE.out dZ (qbX (p:=w.heap.size+4) ge.out oZ _ _ _ _ _ _)
 rw [hr] at HG;go_wp2_with fail;refine (HG.out).mono ?_;rintro e w3 ⟨rfl,Hq⟩;have hh:Later w2 w3:=Hq;have d0':=hh.cell d0;have b0':=hh.cell b0;clear Hq d0 d1 b0;have he:=gy.out _ hh;cases hq:(g.s==b.s)
 ·have HE:=zI (hn.out (by rw [show decide (g.s=b.s)=false by simpa using hq,Bool.and_false]))
  rw [hq] at he;clear hn hr hg0 Hm Hl H7 HW HN gg hq;obtain ⟨hY,hD⟩:=zd2 hh he;clear hh he;go_wp2_with fail;refine (hD.out).mono ?_;rintro e w4 ⟨rfl,q4,rfl⟩;have hN:=(hY.out.drewN q4).blk HC.out;have Hs:=(h6.out.trans hY.out).drewN q4;clear d0' b0';obtain ⟨c0,c1,c2,c3,c4,c5,f0,f1,f2,f3,f4,f5⟩:=qaq hN;obtain ⟨Gn,ge⟩:=zd2 hN Hs;clear hN Hs;go_wp2_with fail;refine Zk1 (v:=.tuple #[.agg #[.slice none 0 0,.slice none 0 0,.slice none 0 0,.slice none 0 0,.slice none 0 0,.slice none 0 0],.int .i64 20]) (by simp [results,Tryz.results12,go_sem,c0,c1,c2,c3,c4,c5]) rfl ?_;exact GoD.fail HE.out dZ (qbX (p:=w.heap.size+4) ge.out oZ _ _ _ _ _ _)
 rw [hq] at he;have g9:g.s=b.s:=by simpa using hq
 have HE:=zI (Ly.dback_ok (by rw [hg0,hr];simpa using hq:(Ly.denseOk t b x&&Tn.right g&&decide (g.s=b.s))=true));obtain ⟨m,n,Gx,gu,HX,gn,gl,GD,gH,H8⟩:=qe2 Hm Hl;have g8:g.c.length=m:=by have:=qeP hr (g9.trans HN);omega
 have gt:x.c.length=n:=by omega
 obtain ⟨r1,r2⟩:=Ly.right_ok Hm;obtain ⟨r3,r4⟩:=Ly.right_ok HW;obtain ⟨r5,r6⟩:=Ly.right_ok hr;clear hn hr hg0 Hm H7 HW HN gg hq g9 Gx;obtain ⟨hY,hD⟩:=zd2 hh he;clear hh he;go_wp2_with fail;refine (hD.out).mono ?_;rintro e w4 ⟨rfl,q4,rfl⟩;have hW:=hY.out.drewN q4;clear d0' b0' hD gy HG hY;generalize w3.drewN q4=w4 at *;have Hk:=h6.out.trans hW;have hy:=hW.blk gm.out;have hE:=hW.blk gh.out;have hA:=hW.blk HY.out;have gP:=hW.blk HC.out;clear hW h6 gm gY gh HY HC;have a0:w4.cell? ⟨w.heap.size,0,none⟩=some (.slice S t.s.length c):=hy.cell 0;have a1:w4.cell? ⟨w.heap.size,1,none⟩=some (.slice C t.c.length d):=hy.cell 1;have x0:w4.cell? ⟨w.heap.size+2,0,none⟩=some (.slice S2 x.s.length c2):=hE.cell 0;have x1:w4.cell? ⟨w.heap.size+2,1,none⟩=some (.slice C2 x.c.length d2):=hE.cell 1;have d0:w4.cell? ⟨w.heap.size+3,0,none⟩=some (.slice GS g.s.length gc):=hA.cell 0;have d1:w4.cell? ⟨w.heap.size+3,1,none⟩=some (.slice GC g.c.length gd):=hA.cell 1;have gw:=λ(V:Zp1) (h:Later w4 V)=>qa8 S C c d t V oZ oZ (Ht.out.later (Hk.trans h)).r
 have Ga:=λ(V:Zp1) (h:Later w4 V)=>qa8 GS GC gc gd g V oZ oZ (Hg.out.later (Hk.trans h)).r
 have gC:=λ(V:Zp1) (h:Later w4 V)=>qa8 S2 C2 c2 d2 x V oZ oZ (Hx.out.later (Hk.trans h)).r
 obtain ⟨HP,hv,hw,hu,hL,H1,HR,h9,hR⟩:=zd9 Hk hy hE hA gP gw Ga gC gH;obtain ⟨hU,hi,go,gJ,gx⟩:=zd5 g8 gt H8 gu Hl;clear Hk hy hE hA gP gw Ga gC gH g8 gt H8 gu Hl;go_upto_region 3 with fail
 go_cut [10] (DbCut w #[.slice S t.s.length c,.slice C t.c.length d] #[.slice S2 x.s.length c2,.slice C2 x.c.length d2] #[.slice GS g.s.length gc,.slice GC g.c.length gd] t g x)
 case first=>
  go_wp2_with fail;have KF:=zI (show ∀Xw,Later w4 Xw->Xw.cell? ⟨w.heap.size,0,none⟩=some (.slice S t.s.length c)/\Xw.cell? ⟨w.heap.size,1,none⟩=some (.slice C t.c.length d)/\Xw.cell? ⟨w.heap.size+2,0,none⟩=some (.slice S2 x.s.length c2)/\Xw.cell? ⟨w.heap.size+2,1,none⟩=some (.slice C2 x.c.length d2)/\Xw.cell? ⟨w.heap.size+3,0,none⟩=some (.slice GS g.s.length gc)/\Xw.cell? ⟨w.heap.size+3,1,none⟩=some (.slice GC g.c.length gd) from λXw h=>⟨h.cell a0,h.cell a1,h.cell x0,h.cell x1,h.cell d0,h.cell d1⟩);refine Zm1 ?_;refine Zl1 (S:=λXw=>Xw.cell? ⟨w.heap.size,0,none⟩=some (.slice S t.s.length c)/\Xw.cell? ⟨w.heap.size,1,none⟩=some (.slice C t.c.length d)/\Xw.cell? ⟨w.heap.size+2,0,none⟩=some (.slice S2 x.s.length c2)/\Xw.cell? ⟨w.heap.size+2,1,none⟩=some (.slice C2 x.c.length d2)/\Xw.cell? ⟨w.heap.size+3,0,none⟩=some (.slice GS g.s.length gc)/\Xw.cell? ⟨w.heap.size+3,1,none⟩=some (.slice GC g.c.length gd)) krZ (KF.out _ Lau) (λhHeld=>?_);refine tk 0 ?_;refine tk 2 ?_;refine tk 4 ?_;refine Zo1 (rs:=[1,7]) krZ sZ ?_;refine Zf1 (o:=_) rfl (λK hK=>?_) (Zf1 (o:=_) rfl (λK hK=>?_) (Zg1))
  ·simp only [ga,gs,gz]
   go_simp
   go_at_call 52;(with_reducible refine (H1.out _ (Lau:Later w4 _)).mono ?_);rintro e wa ⟨v,rfl,⟨g0,h0,rfl,q1,q2,hG,hH⟩,HB⟩
   have k0:w4.heap.size<=g0/\w4.heap.size<=h0:=by (constructor<;>first|assumption|(simp at q1 q2;omega))
   obtain ⟨He,Hp⟩:=zd2 hG hH;clear q1 q2 hG hH
   try go_wp2_with fail
   refine hK.out _ _ (KF.out _ Lau) (λhHeld=>?_);clear hK K
   try simp only [ga,gs,gz,Act.put,sa,sz,ss]
   refine Zo1 (rs:=[3,7]) krZ sZ ?_;refine Zf1 (o:=_) rfl (λK hK=>?_) (Zf1 (o:=_) rfl (λK hK=>?_) (Zg1))
   ·simp only [ga,gs,gz]
    go_simp
    go_at_call 52;(with_reducible refine (HR.out _ (Lau:Later w4 _)).mono ?_);rintro e wb ⟨v,rfl,⟨g1,h1,rfl,q1,q2,hG,hH⟩,hB⟩
    have k1:wa.heap.size<=g1/\wa.heap.size<=h1:=by (constructor<;>first|assumption|(simp at q1 q2;omega))
    obtain ⟨h7,h3⟩:=zd2 hG hH;clear q1 q2 hG hH
    try go_wp2_with fail
    refine hK.out _ _ (KF.out _ Lau) (λhHeld=>?_);clear hK K
    try simp only [ga,gs,gz,Act.put,sa,sz,ss]
    refine Zo1 (rs:=[5,7]) krZ sZ ?_;refine Zf1 (o:=_) rfl (λK hK=>?_) (Zf1 (o:=_) rfl (λK hK=>?_) (Zg1))
    ·simp only [ga,gs,gz]
     go_simp
     go_at_call 52;(with_reducible refine (h9.out _ (Lau:Later w4 _)).mono ?_);rintro e wc ⟨v,rfl,⟨g2,h2,rfl,q1,q2,hG,hH⟩,hf⟩
     have k2:wb.heap.size<=g2/\wb.heap.size<=h2:=by (constructor<;>first|assumption|(simp at q1 q2;omega))
     obtain ⟨hS,hT⟩:=zd2 hG hH;clear q1 q2 hG hH
     try go_wp2_with fail
     refine hK.out _ _ (KF.out _ Lau) (λhHeld=>?_);clear hK K
     try simp only [ga,gs,gz,Act.put,sa,sz,ss]
     refine tk 6 ?_;refine rd 7 λK hK=>?_
     simp only [ga,gs,gz]
     go_simp
     refine hK.out _ _ (KF.out _ Lau) (λhHeld=>?_);clear hK K
     try simp only [ga,gs,gz,Act.put,sa,sz,ss]
     refine rd 8 λK hK=>?_
     simp only [ga,gs,gz]
     go_simp
     refine hK.out _ _ ?_ (λhHeld=>?_)
     ·(try dsimp only);(refine ⟨?_,?_,?_,?_,?_,?_⟩<;>(repeat (refine qa0 ?_ (by first|omega|(simp;done)|(simp;omega))))<;>(refine Later.cell (Lau:Later w4 _) ?_)<;>assumption)
     clear hK K
     try simp only [ga,gs,gz,Act.put,sa,sz,ss]
     clear KF;refine Zn1 krZ ?_ _;refine Zd1 ?_;go_wp2_with fail;have l1:Later w4 wa:=(Lau:Later w4 wa)
     have l2:Later wa wb:=(Lau:Later wa wb)
     have l3:Later wb wc:=(Lau:Later wb wc)
     have l4:=l1.size;have l5:=l2.size;have l6:=l3.size
     go_meet
     exact ⟨wc.heap.size,g0,h0,g1,h1,g2,h2,rfl,db_mk HP.out hv.out hw.out hu.out hL.out He.out Hp.out h7.out h3.out (((Later.refl wc).alloc _).blk hS.out) (((Later.refl wc).alloc _).blk hT.out) (Blk.new wc _ _) l1 l2 (l3.alloc _) k0 k1 k2 oZ⟩
    ·simp only [ga,gs,gz]
     go_simp
     refine hK.out _ _ (KF.out _ Lau) (λhHeld=>?_);clear hK K
     try simp only [ga,gs,gz,Act.put,sa,sz,ss]
     refine rd 5 λK hK=>?_
     simp only [ga,gs,gz]
     go_simp
     go_at_call 52;(with_reducible refine (h9.out _ (Lau:Later w4 _)).mono ?_);rintro e wc ⟨v,rfl,⟨g2,h2,rfl,q1,q2,hG,hH⟩,hf⟩
     have k2:wb.heap.size<=g2/\wb.heap.size<=h2:=by (constructor<;>first|assumption|(simp at q1 q2;omega))
     obtain ⟨hS,hT⟩:=zd2 hG hH;clear q1 q2 hG hH;have ho:=(show Later (wb.alloc (.cells #[.slice none 0 0,.slice none 0 0,.slice none 0 0,.slice none 0 0,.slice none 0 0,.slice none 0 0] 42)) wc from hf).blk (Blk.new wb _ _);obtain ⟨z0,z1,z2,z3,z4,z5,y0,y1,y2,y3,y4,y5⟩:=qaq ho;have Hf:=zI ho;have lA:Later w4 wa:=(Lau:Later w4 wa)
     have lB:Later wa wb:=(Lau:Later wa wb)
     have sA:=lA.size;have sB:=lB.size;have sz:=hL.out.lt;clear ho lA lB
     try go_wp2_with fail
     refine hK.out _ _ (KF.out _ Lau) (λhHeld=>?_);clear hK K
     try simp only [ga,gs,gz,Act.put,sa,sz,ss]
     refine tk 6 ?_;refine rd 8 λK hK=>?_
     simp only [ga,gs,gz]
     go_simp
     refine hK.out _ _ ?_ (λhHeld=>?_)
     ·(try dsimp only);(refine ⟨?_,?_,?_,?_,?_,?_⟩<;>(repeat (refine qa0 ?_ (by first|omega|(simp;done)|(simp;omega))))<;>(refine Later.cell (Lau:Later w4 _) ?_)<;>assumption)
     clear hK K
     try simp only [ga,gs,gz,Act.put,sa,sz,ss]
     clear KF;refine Zn1 krZ ?_ _;refine Zd1 ?_;go_wp2_with fail;have l1:Later w4 wa:=(Lau:Later w4 wa)
     have l2:Later wa wb:=(Lau:Later wa wb)
     have l3:Later wb wc:=(Lau:Later wb wc)
     have l4:=l1.size;have l5:=l2.size;have l6:=l3.size
     go_meet
     exact ⟨wb.heap.size,g0,h0,g1,h1,g2,h2,rfl,(db_mk HP.out hv.out hw.out hu.out hL.out He.out Hp.out h7.out h3.out hS.out hT.out Hf.out l1 l2 l3 k0 k1 k2 oZ).store⟩
   ·simp only [ga,gs,gz]
    go_simp
    refine hK.out _ _ (KF.out _ Lau) (λhHeld=>?_);clear hK K
    try simp only [ga,gs,gz,Act.put,sa,sz,ss]
    refine rd 3 λK hK=>?_
    simp only [ga,gs,gz]
    go_simp
    go_at_call 52;(with_reducible refine (HR.out _ (Lau:Later w4 _)).mono ?_);rintro e wb ⟨v,rfl,⟨g1,h1,rfl,q1,q2,hG,hH⟩,hB⟩
    have k1:wa.heap.size<=g1/\wa.heap.size<=h1:=by (constructor<;>first|assumption|(simp at q1 q2;omega))
    obtain ⟨h7,h3⟩:=zd2 hG hH;clear q1 q2 hG hH
    try go_wp2_with fail
    refine hK.out _ _ (KF.out _ Lau) (λhHeld=>?_);clear hK K
    try simp only [ga,gs,gz,Act.put,sa,sz,ss]
    refine rd 5 λK hK=>?_
    simp only [ga,gs,gz]
    go_simp
    go_at_call 52;(with_reducible refine (h9.out _ (Lau:Later w4 _)).mono ?_);rintro e wc ⟨v,rfl,⟨g2,h2,rfl,q1,q2,hG,hH⟩,hf⟩
    have k2:wb.heap.size<=g2/\wb.heap.size<=h2:=by (constructor<;>first|assumption|(simp at q1 q2;omega))
    obtain ⟨hS,hT⟩:=zd2 hG hH;clear q1 q2 hG hH;have ho:=(show Later wb wc from hf).blk ((show Later _ wb from hB).blk (Blk.new wa 42 #[.slice none 0 0,.slice none 0 0,.slice none 0 0,.slice none 0 0,.slice none 0 0,.slice none 0 0]));obtain ⟨z0,z1,z2,z3,z4,z5,y0,y1,y2,y3,y4,y5⟩:=qaq ho;have Hf:=zI ho;have lA:Later w4 wa:=(Lau:Later w4 wa)
    have lB:Later wa wb:=(Lau:Later wa wb)
    have sA:=lA.size;have sB:=lB.size;have sz:=hL.out.lt;clear ho lA lB
    try go_wp2_with fail
    refine hK.out _ _ (KF.out _ Lau) (λhHeld=>?_);clear hK K
    try simp only [ga,gs,gz,Act.put,sa,sz,ss]
    refine tk 6 ?_;refine rd 8 λK hK=>?_
    simp only [ga,gs,gz]
    go_simp
    refine hK.out _ _ ?_ (λhHeld=>?_)
    ·(try dsimp only);(refine ⟨?_,?_,?_,?_,?_,?_⟩<;>(repeat (refine qa0 ?_ (by first|omega|(simp;done)|(simp;omega))))<;>(refine Later.cell (Lau:Later w4 _) ?_)<;>assumption)
    clear hK K
    try simp only [ga,gs,gz,Act.put,sa,sz,ss]
    clear KF;refine Zn1 krZ ?_ _;refine Zd1 ?_;go_wp2_with fail;have l1:Later w4 wa:=(Lau:Later w4 wa)
    have l2:Later wa wb:=(Lau:Later wa wb)
    have l3:Later wb wc:=(Lau:Later wb wc)
    have l4:=l1.size;have l5:=l2.size;have l6:=l3.size
    go_meet
    exact ⟨wa.heap.size,g0,h0,g1,h1,g2,h2,rfl,(db_mk HP.out hv.out hw.out hu.out hL.out He.out Hp.out h7.out h3.out hS.out hT.out Hf.out l1 l2 l3 k0 k1 k2 oZ).store⟩
  ·simp only [ga,gs,gz]
   go_simp
   refine hK.out _ _ (KF.out _ Lau) (λhHeld=>?_);clear hK K
   try simp only [ga,gs,gz,Act.put,sa,sz,ss]
   refine rd 1 λK hK=>?_
   simp only [ga,gs,gz]
   go_simp
   go_at_call 52;(with_reducible refine (H1.out _ (Lau:Later w4 _)).mono ?_);rintro e wa ⟨v,rfl,⟨g0,h0,rfl,q1,q2,hG,hH⟩,HB⟩
   have k0:w4.heap.size<=g0/\w4.heap.size<=h0:=by (constructor<;>first|assumption|(simp at q1 q2;omega))
   obtain ⟨He,Hp⟩:=zd2 hG hH;clear q1 q2 hG hH
   try go_wp2_with fail
   refine hK.out _ _ (KF.out _ Lau) (λhHeld=>?_);clear hK K
   try simp only [ga,gs,gz,Act.put,sa,sz,ss]
   refine rd 3 λK hK=>?_
   simp only [ga,gs,gz]
   go_simp
   go_at_call 52;(with_reducible refine (HR.out _ (Lau:Later w4 _)).mono ?_);rintro e wb ⟨v,rfl,⟨g1,h1,rfl,q1,q2,hG,hH⟩,hB⟩
   have k1:wa.heap.size<=g1/\wa.heap.size<=h1:=by (constructor<;>first|assumption|(simp at q1 q2;omega))
   obtain ⟨h7,h3⟩:=zd2 hG hH;clear q1 q2 hG hH
   try go_wp2_with fail
   refine hK.out _ _ (KF.out _ Lau) (λhHeld=>?_);clear hK K
   try simp only [ga,gs,gz,Act.put,sa,sz,ss]
   refine rd 5 λK hK=>?_
   simp only [ga,gs,gz]
   go_simp
   go_at_call 52;(with_reducible refine (h9.out _ (Lau:Later w4 _)).mono ?_);rintro e wc ⟨v,rfl,⟨g2,h2,rfl,q1,q2,hG,hH⟩,hf⟩
   have k2:wb.heap.size<=g2/\wb.heap.size<=h2:=by (constructor<;>first|assumption|(simp at q1 q2;omega))
   obtain ⟨hS,hT⟩:=zd2 hG hH;clear q1 q2 hG hH;have ho:=(show Later wb wc from hf).blk ((show Later wa wb from hB).blk ((show Later _ wa from HB).blk ((Blk.new w4 42 #[.slice none 0 0,.slice none 0 0,.slice none 0 0,.slice none 0 0,.slice none 0 0,.slice none 0 0]).drew)));obtain ⟨z0,z1,z2,z3,z4,z5,y0,y1,y2,y3,y4,y5⟩:=qaq ho;have Hf:=zI ho;have lA:Later w4 wa:=(Lau:Later w4 wa)
   have lB:Later wa wb:=(Lau:Later wa wb)
   have sA:=lA.size;have sB:=lB.size;have sz:=hL.out.lt;clear ho lA lB
   try go_wp2_with fail
   refine hK.out _ _ (KF.out _ Lau) (λhHeld=>?_);clear hK K
   try simp only [ga,gs,gz,Act.put,sa,sz,ss]
   refine tk 6 ?_;refine rd 8 λK hK=>?_
   simp only [ga,gs,gz]
   go_simp
   refine hK.out _ _ ?_ (λhHeld=>?_)
   ·(try dsimp only);(refine ⟨?_,?_,?_,?_,?_,?_⟩<;>(repeat (refine qa0 ?_ (by first|omega|(simp;done)|(simp;omega))))<;>(refine Later.cell (Lau:Later w4 _) ?_)<;>assumption)
   clear hK K
   try simp only [ga,gs,gz,Act.put,sa,sz,ss]
   clear KF;refine Zn1 krZ ?_ _;refine Zd1 ?_;go_wp2_with fail;have l1:Later w4 wa:=(Lau:Later w4 wa)
   have l2:Later wa wb:=(Lau:Later wa wb)
   have l3:Later wb wc:=(Lau:Later wb wc)
   have l4:=l1.size;have l5:=l2.size;have l6:=l3.size
   go_meet
   exact ⟨w4.heap.size,g0,h0,g1,h1,g2,h2,rfl,(db_mk HP.out hv.out hw.out hu.out hL.out He.out Hp.out h7.out h3.out hS.out hT.out Hf.out l1 l2 l3 k0 k1 k2 oZ).store⟩
 case rest=>
  obtain ⟨tb,g0,h0,g1,h1,g2,h2,rfl,hI⟩:=hcut;have e5:=hI.ke.cell 5;simp at e5;have Hy:0<x.c.length:=by have:=hi.out;omega
  clear a0 a1 x0 x1 d0 d1 hv hw hu hL H1 HR h9;have HI:=zI hI;clear hI;go_wp2_with (refine qaL rfl (.tmp 45) 28 22 rfl Tryz.underlying28 Tryz.zeroValue22 h2 22 x.c x.c.length rfl HI.out.H2 Hy ?_);intro w5 gF g6;have H6:DbI w tb g0 h0 g1 h1 g2 h2 #[.slice S t.s.length c,.slice C t.c.length d] #[.slice S2 x.s.length c2,.slice C2 x.c.length d2] #[.slice GS g.s.length gc,.slice GC g.c.length gd] #[.slice (some ⟨g0,0,none⟩) t.s.length t.s.length,.slice (some ⟨h0,0,none⟩) t.c.length t.c.length,.slice (some ⟨g1,0,none⟩) g.s.length g.s.length,.slice (some ⟨h1,0,none⟩) g.c.length g.c.length,.slice (some ⟨g2,0,none⟩) x.s.length x.s.length,.slice (some ⟨h2,0,none⟩) x.c.length x.c.length] t.s g.s x.s g.c t.c (Ly.denseX t.c g.c x.c 0) w5:=HI.out.elseX g6 gF;clear HI gF g6 e5;obtain ⟨DW,hDW⟩:∃DW,Ly.denseW g.c x.c=DW:=⟨_,rfl⟩
  have g3:DW.length=t.c.length:=by rw [←hDW,Ly.denseW_len,hU.out,hi.out,hR.out]
  have gB:∀z∈DW,Fx.In z:=by rw [←hDW];exact Ly.denseW_in _ _
  have gO:∀k j,k<m->j<n->Ly.at_ DW (k*n+j)=Fx.mul (Ly.at_ g.c k) (Ly.at_ x.c j):=λk j hk hj=>by
   have:=Ly.denseW_at g.c x.c (i:=k) (j:=j) (by have:=hU.out;omega) (by have:=hi.out;omega)
   rwa [hDW,hi.out] at this
  rw [hDW] at HE;have d1:w5.cell? ⟨w.heap.size+3,1,none⟩=some (.slice GC g.c.length gd):=by rw [H6.kg.cell];rfl
  clear hDW;obtain ⟨Gd,hm,gq,Gr⟩:=zd4 H6 g3 gB gO;clear H6 g3 gB gO;go_wp2_with fail;clear d1
  go_loopw [49] (λi wx=>∃k:Nat,k<=m/\i=.int .i64 (k:Int)/\DbI w tb g0 h0 g1 h1 g2 h2 #[.slice S t.s.length c,.slice C t.c.length d] #[.slice S2 x.s.length c2,.slice C2 x.c.length d2] #[.slice GS g.s.length gc,.slice GC g.c.length gd] #[.slice (some ⟨g0,0,none⟩) t.s.length t.s.length,.slice (some ⟨h0,0,none⟩) t.c.length t.c.length,.slice (some ⟨g1,0,none⟩) g.s.length g.s.length,.slice (some ⟨h1,0,none⟩) g.c.length g.c.length,.slice (some ⟨g2,0,none⟩) x.s.length x.s.length,.slice (some ⟨h2,0,none⟩) x.c.length x.c.length] t.s g.s x.s g.c (DW.take (k*n)++t.c.drop (k*n)) (Ly.denseX t.c g.c x.c k) wx) (λi _=>m-(intOf i).toNat)
  case atStart=>exact ⟨0,Zt _,rfl,by simpa using Gd.out⟩
  case round=>
   obtain ⟨k,hk,rfl,hJ⟩:=hrel;have H8:=go.out;clear Gd
   by_cases HV:k<m
   ·have Gq:k*n+n<=m*n:=by
     have:(k+1)*n<=m*n:=mlZ _ HV
     rwa [Zu] at this
    obtain ⟨bg,og,GB,-,Gv⟩:=(Hg.out.later hJ.later).cell (k:=k) (by have:=hU.out;omega);obtain ⟨bt,ot,hC,-,-⟩:=Ht.out.cell (k:=0) (by have:=hR.out;have:1*1<=m*n:=Nat.mul_le_mul HX gn;omega);obtain ⟨bx,ox,Gy,-,-⟩:=Hx.out.cell (k:=0) (by have:=hi.out;omega);subst GB hC Gy;have hX:(DW.take (k*n)++t.c.drop (k*n)).length=t.c.length:=by rw [Ly.mid_len DW t.c (k*n) (by rw [hm.out,hR.out];omega) hm.out,hm.out]
    have gi:∀z∈DW.take (k*n)++t.c.drop (k*n),Fx.In z:=Ly.mid_in gq.out Ht.out.num;have gM:=λ(V:Zp1) (hV:Later wr V)=>qc8 S bt ot c d t m n k V (Ht.out.later (hJ.later.trans hV)) (by have:=gx.out;omega) gJ.out hR.out HV gn go.out
    have gR:=λ(V:Zp1) (hV:Later wr V)=>(show Calls Tryz.prog 53 #[.agg #[.slice (some ⟨g0,0,none⟩) t.s.length t.s.length,.slice (some ⟨h0,0,none⟩) t.c.length t.c.length],.int .i64 k] V λe w'=>e=.returned (.slice (some ⟨h0,k*n,none⟩) n n)/\Below V.heap.size V w' from by
     have:=qc8 (some ⟨g0,0,none⟩) h0 0 t.s.length (DW.take (k*n)++t.c.drop (k*n)).length ⟨t.s,DW.take (k*n)++t.c.drop (k*n)⟩ m n k V ((hJ.to hV).wt oZ oZ gi) (by have:=gx.out;show 2<=t.s.length;omega) gJ.out (hX.trans hR.out) HV gn go.out;simp only [hX,Zw] at this;exact this)
    have a0:wr.cell? ⟨w.heap.size,0,none⟩=some (.slice S t.s.length c):=by rw [hJ.kw.cell];rfl
    have a1:wr.cell? ⟨w.heap.size,1,none⟩=some (.slice (some ⟨bt,ot,none⟩) t.c.length d):=by rw [hJ.kw.cell];rfl
    have e0:wr.cell? ⟨tb,0,none⟩=some (.slice (some ⟨g0,0,none⟩) t.s.length t.s.length):=by rw [hJ.ke.cell];rfl
    have e1:wr.cell? ⟨tb,1,none⟩=some (.slice (some ⟨h0,0,none⟩) t.c.length t.c.length):=by rw [hJ.ke.cell];rfl
    have kk1:(k:Int)<(g.c.length:Int):=by have:=hU.out;omega
    clear hX;obtain ⟨HJ,gX,gK,Gl⟩:=zd4 hJ gM gR gi;clear hJ gM gR gi;go_wp2_with fail;have KF:=zI (show ∀Xw,Later wr Xw->Xw.cell? ⟨w.heap.size,0,none⟩=some (.slice S t.s.length c)/\Xw.cell? ⟨w.heap.size,1,none⟩=some (.slice (some ⟨bt,ot,none⟩) t.c.length d)/\Xw.cell? ⟨tb,0,none⟩=some (.slice (some ⟨g0,0,none⟩) t.s.length t.s.length)/\Xw.cell? ⟨tb,1,none⟩=some (.slice (some ⟨h0,0,none⟩) t.c.length t.c.length) from λXw h=>⟨h.cell a0,h.cell a1,h.cell e0,h.cell e1⟩);refine Zm1 ?_;refine Zl1 (S:=λXw=>Xw.cell? ⟨w.heap.size,0,none⟩=some (.slice S t.s.length c)/\Xw.cell? ⟨w.heap.size,1,none⟩=some (.slice (some ⟨bt,ot,none⟩) t.c.length d)/\Xw.cell? ⟨tb,0,none⟩=some (.slice (some ⟨g0,0,none⟩) t.s.length t.s.length)/\Xw.cell? ⟨tb,1,none⟩=some (.slice (some ⟨h0,0,none⟩) t.c.length t.c.length)) krZ (KF.out _ Lau) (λhHeld=>?_);refine tk 0 ?_;refine tk 1 ?_;refine tk 3 ?_;refine tk 4 ?_;refine tk 5 ?_;refine rd 2 λK hK=>?_
    simp only [ga,gs,gz]
    go_simp
    go_at_call 53;(with_reducible refine (gX.out _ (Lau:Later wr _)).mono ?_);rintro e wa ⟨rfl,Gp⟩
    try go_wp2_with fail
    refine hK.out _ _ (KF.out _ Lau) (λhHeld=>?_);clear hK K
    try simp only [ga,gs,gz,Act.put,sa,sz,ss]
    refine rd 6 λK hK=>?_
    simp only [ga,gs,gz]
    go_simp
    go_at_call 53;(with_reducible refine (gK.out _ (Lau:Later wr _)).mono ?_);rintro e wb ⟨rfl,Gi⟩
    try go_wp2_with fail
    refine hK.out _ _ (KF.out _ Lau) (λhHeld=>?_);clear hK K
    try simp only [ga,gs,gz,Act.put,sa,sz,ss]
    refine tk 7 ?_;refine tk 8 ?_;clear KF;refine Zn1 krZ ?_ _;refine Zd1 ?_;have gT:Later wr wb:=(Lau:Later wr wb)
    have HT:=HJ.out.to gT;have x1:wb.cell? ⟨w.heap.size+2,1,none⟩=some (.slice (some ⟨bx,ox,none⟩) x.c.length d2):=by rw [HT.kx.cell];rfl
    have gb:(k+1)*n=k*n+n:=Zu k n;obtain ⟨p,hp⟩:∃p,p=k*n:=⟨_,rfl⟩
    have Gc:p+n<=t.c.length:=by have:=hR.out;omega
    rw [←hp] at HT gb ⊢;have gE:∀j,j<n->Ly.at_ DW (p+j)=Fx.mul (Ly.at_ g.c k) (Ly.at_ x.c j):=λj hj=>by rw [hp];exact Gr.out k j HV hj
    have gS:∀j,j<n->Ly.at_ (Ly.denseX t.c g.c x.c (k+1)) j=Fx.add (Ly.at_ (Ly.denseX t.c g.c x.c k) j) (Fx.mul (Ly.at_ t.c (p+j)) (Ly.at_ g.c k)):=λj hj=>by
     have:=Ly.denseX_at t.c g.c x.c (i:=k) (j:=j) (by have:=hi.out;omega);rw [this,hi.out,hp]
    have Hc:(Ly.denseX t.c g.c x.c k).length=n:=by rw [Ly.denseX_len];exact hi.out
    have Hh:(Ly.denseX t.c g.c x.c (k+1)).length=n:=by rw [Ly.denseX_len];exact hi.out
    have Hi:=Ly.denseX_in t.c g.c x.c k;have HD:=Ly.at_in Hg.out.num k;generalize hX0:Ly.denseX t.c g.c x.c k=X0 at *;generalize hX1:Ly.denseX t.c g.c x.c (k+1)=X1 at *;generalize Ly.at_ g.c k=gk at *;have gD:DbI w tb g0 h0 g1 h1 g2 h2 #[.slice S t.s.length c,.slice (some ⟨bt,ot,none⟩) t.c.length d] #[.slice S2 x.s.length c2,.slice (some ⟨bx,ox,none⟩) x.c.length d2] #[.slice GS g.s.length gc,.slice (some ⟨bg,og,none⟩) g.c.length gd] #[.slice (some ⟨g0,0,none⟩) t.s.length t.s.length,.slice (some ⟨h0,0,none⟩) t.c.length t.c.length,.slice (some ⟨g1,0,none⟩) g.s.length g.s.length,.slice (some ⟨h1,0,none⟩) g.c.length g.c.length,.slice (some ⟨g2,0,none⟩) x.s.length x.s.length,.slice (some ⟨h2,0,none⟩) x.c.length x.c.length] t.s g.s x.s g.c (DW.take (p+0)++t.c.drop (p+0)) (X1.take 0++X0.drop 0) wb:=by simpa using HT
    clear a0 a1 e0 e1 hp Gp Gi hHeld HJ gX gK Gl gT HT Gv Gq hX0;obtain ⟨gZ,Ge,Gk,Gu,Gf,hF,hc,H3,Hn⟩:=zd9 gD gb Gc gE gS Hc Hh Hi HD;have Gj:=zI hX1;clear gD gb Gc gE gS Hc Hh Hi HD hX1;go_wp2_with fail;clear x1
    go_loopw [64] (λi wx=>∃j:Nat,j<=n/\i=.int .i64 (j:Int)/\DbI w tb g0 h0 g1 h1 g2 h2 #[.slice S t.s.length c,.slice (some ⟨bt,ot,none⟩) t.c.length d] #[.slice S2 x.s.length c2,.slice (some ⟨bx,ox,none⟩) x.c.length d2] #[.slice GS g.s.length gc,.slice (some ⟨bg,og,none⟩) g.c.length gd] #[.slice (some ⟨g0,0,none⟩) t.s.length t.s.length,.slice (some ⟨h0,0,none⟩) t.c.length t.c.length,.slice (some ⟨g1,0,none⟩) g.s.length g.s.length,.slice (some ⟨h1,0,none⟩) g.c.length g.c.length,.slice (some ⟨g2,0,none⟩) x.s.length x.s.length,.slice (some ⟨h2,0,none⟩) x.c.length x.c.length] t.s g.s x.s g.c (DW.take (p+j)++t.c.drop (p+j)) (X1.take j++X0.drop j) wx) (λi _=>n-(intOf i).toNat)
    case atStart=>exact ⟨0,Zt _,rfl,gZ.out⟩
    case round=>
     obtain ⟨j,hj,rfl,hQ⟩:=hrel;clear gZ
     by_cases hZ:j<n
     ·have GE:=Gk.out
      obtain ⟨b',o',e',-,xj⟩:=(Hx.out.later hQ.later).cell (k:=j) (by have:=hi.out;omega);injection e' with e';injection e' with e1 e2;subst e1 e2
      obtain ⟨b',o',e',-,tj⟩:=(Ht.out.later hQ.later).cell (k:=p+j) oZ;injection e' with e';injection e' with e1 e2;subst e1 e2
      have hX:(DW.take (p+j)++t.c.drop (p+j)).length=t.c.length:=by rw [Ly.mid_len DW t.c (p+j) (by rw [hm.out];omega) hm.out,hm.out]
      have hs:=Ly.mid_put' DW t.c (k:=p+j) (by rw [hm.out];omega) hm.out;rw [Gu.out j hZ] at hs;have Hr:=Ly.mid_at2 X1 X0 (k:=j) (by rw [hc.out];exact hZ) (hc.out.trans hF.out.symm);have hO:(X1.take j++X0.drop j).length=n:=by rw [Ly.mid_len X1 X0 j (by rw [hc.out];omega) (hc.out.trans hF.out.symm),hc.out]
      have hd:=Ly.mid_put' X1 X0 (k:=j) (by rw [hc.out];exact hZ) (hc.out.trans hF.out.symm);rw [Gf.out j hZ] at hd;obtain ⟨wu,hwu⟩:∃u,wr.cell? ⟨h0,p+j,none⟩=some u:=⟨_,hQ.H0.row_get (by rw [hX];omega)⟩
      have GA:=hQ.H0.frozen (p+j)
      have gQ:wr.cell? ⟨h2,j,none⟩=some (.int .i64 (Ly.at_ X0 j)):=by
       have:=hQ.H2.row_get (k:=j) (by rw [hO];exact hZ);rw [this,←Hr,Ly.at_get (by rw [hO];exact hZ)]
      have Hj:=Ly.at_in Hx.out.num j;have Hv:=Ly.at_in Ht.out.num (p+j);have Hd:=Ly.at_in H3.out j;have Ho:p+(j+1)=p+j+1:=rfl;rw [←Ho] at hs;obtain ⟨W1,hW1⟩:∃W1,W1=DW.take (p+(j+1))++t.c.drop (p+(j+1)):=⟨_,rfl⟩
      obtain ⟨Y1,hY1⟩:∃Y1,Y1=X1.take (j+1)++X0.drop (j+1):=⟨_,rfl⟩
      rw [←hW1] at hs;rw [←hY1] at hd;generalize DW.take (p+j)++t.c.drop (p+j)=W0 at *;generalize X1.take j++X0.drop j=Y0 at *;generalize Ly.at_ X0 j=xo at *;generalize Ly.at_ x.c j=xv at *;generalize Ly.at_ t.c (p+j)=tv at *;have tj':wr.cell? ⟨bt,ot+p+j,none⟩=some (.int .i64 tv):=by rw [Nat.add_assoc];exact tj
      have e5:wr.cell? ⟨tb,5,none⟩=some (.slice (some ⟨h2,0,none⟩) x.c.length x.c.length):=by rw [hQ.ke.cell];rfl
      have gj:=hQ.putW (p+j) (Fx.mul gk xv);rw [hs] at gj;have gf:h2≠h0:=by have:=hQ.lo;omega
      have H5:bt≠h0:=λe=>by
       have h5:=Ht.out.cell (k:=0) oZ;obtain ⟨b',o',e',hl,-⟩:=h5;injection e' with e';injection e' with e1 e2;subst e1
       have:=hQ.lo;omega
      have H9:tb≠h0:=qa4 hQ.ke hQ.H0 dZ;have Gz:tb≠h2:=qa4 hQ.ke hQ.H2 dZ
      have Gw:bt≠h2:=λe=>by
       have h5:=Ht.out.cell (k:=0) oZ;obtain ⟨b',o',e',hl,-⟩:=h5;injection e' with e';injection e' with e1 e2;subst e1
       have:=hQ.lo;omega
      have jj1:(j:Int)<(x.c.length:Int):=by have:=hi.out;omega
      have jj2:(j:Int)<(n:Int):=by omega
      have HX:=λ(V:Zp1)=>qaA gk xv V Hn.out Hj
      have gl:=λ(V:Zp1)=>qaA tv gk V Hv Hn.out
      have ha:=λ(V:Zp1)=>qaM xo (Fx.mul tv gk) V Hd (Fx.mul_in _ _)
      clear tj hs Hr hO hX Hj Hv Hd Ho;obtain ⟨HQ,gL,HA,Gt,g7,Ha,Gg,Gm⟩:=zd8 hQ gj hd HX gl ha hW1 hY1;clear hQ gj hd HX gl ha hW1 hY1;go_wp2_with fail;refine (Gt.out _).mono ?_;rintro e w' ⟨rfl,rfl⟩;go_wp2_with fail;have Go:wr.setCell ⟨h0,p+j,none⟩ (.int .i64 (Fx.mul gk xv))=wr.setCell ⟨h0,p+j,none⟩ (.int .i64 (Fx.mul gk xv)):=rfl;have tq:(wr.setCell ⟨h0,p+j,none⟩ (.int .i64 (Fx.mul gk xv))).cell? ⟨bt,ot+p+j,none⟩=some (.int .i64 tv):=qa0 tj' H5;have xq:(wr.setCell ⟨h0,p+j,none⟩ (.int .i64 (Fx.mul gk xv))).cell? ⟨h2,j,none⟩=some (.int .i64 xo):=qa0 gQ gf;have eq5:(wr.setCell ⟨h0,p+j,none⟩ (.int .i64 (Fx.mul gk xv))).cell? ⟨tb,5,none⟩=some (.slice (some ⟨h2,0,none⟩) x.c.length x.c.length):=qa0 e5 H9;clear Go tj' gQ e5 wu hwu GA xj;generalize wr.setCell ⟨h0,p+j,none⟩ (.int .i64 (Fx.mul gk xv))=wq at *;have xf:=gL.out.H2.frozen j;have H4:=gL.out.putX j (Fx.add xo (Fx.mul tv gk));rw [HA.out,Gg.out,Gm.out] at H4;have gv:=zI H4;clear H4;have KF:=zI (show ∀Xw,Later wq Xw->Xw.cell? ⟨bt,ot+p+j,none⟩=some (.int .i64 tv)/\Xw.cell? ⟨tb,5,none⟩=some (.slice (some ⟨h2,0,none⟩) x.c.length x.c.length) from λXw h=>⟨h.cell tq,h.cell eq5⟩);refine Zm1 ?_;refine Zl1 (S:=λXw=>Xw.cell? ⟨bt,ot+p+j,none⟩=some (.int .i64 tv)/\Xw.cell? ⟨tb,5,none⟩=some (.slice (some ⟨h2,0,none⟩) x.c.length x.c.length)) krZ (KF.out _ Lau) (λhHeld=>?_);refine tk 0 ?_;refine tk 1 ?_;refine tk 2 ?_;refine tk 3 ?_;refine tk 4 ?_;refine tk 5 ?_;refine tk 6 ?_;refine tk 7 ?_;refine tk 8 ?_;refine tk 10 ?_;refine tk 11 ?_;refine tk 12 ?_;refine tk 13 ?_;refine tk 14 ?_;refine Zo1 (rs:=[9,15]) krZ sZ ?_;refine Zf1 (o:=_) rfl (λK hK=>?_) (Zf1 (o:=_) rfl (λK hK=>?_) (Zg1))
      ·simp only [ga,gs,gz]
       go_simp
       refine hK.out _ _ (KF.out _ Lau) (λhHeld=>?_);clear hK K
       try simp only [ga,gs,gz,Act.put,sa,sz,ss]
       refine rd 15 λK hK=>?_
       simp only [ga,gs,gz]
       go_simp
       go_at_call 54;(with_reducible refine (g7.out _).mono ?_);rintro e wb ⟨rfl,rfl⟩
       try go_wp2_with fail
       refine hK.out _ _ (KF.out _ Lau) (λhHeld=>?_);clear hK K
       try simp only [ga,gs,gz,Act.put,sa,sz,ss]
       refine rd 16 λK hK=>?_
       simp only [ga,gs,gz]
       go_simp
       go_at_call 55;(with_reducible refine (Ha.out _).mono ?_);rintro e wc ⟨rfl,rfl⟩
       try go_wp2_with fail
       refine hK.out _ _ (KF.out _ Lau) (λhHeld=>?_);clear hK K
       try simp only [ga,gs,gz,Act.put,sa,sz,ss]
       refine tk 17 ?_;refine rd 18 λK hK=>?_
       simp only [ga,gs,gz]
       go_simp
       refine hK.out _ _ ?_ (λhHeld=>?_)
       ·(try dsimp only);(refine ⟨?_,?_⟩<;>(repeat (refine qa0 ?_ (by first|omega|(simp;done)|(simp;omega))))<;>(refine Later.cell (Lau:Later wq _) ?_)<;>assumption)
       clear hK K
       try simp only [ga,gs,gz,Act.put,sa,sz,ss]
       clear KF;refine Zn1 krZ ?_ _;refine Zd1 ?_;clear hHeld tq xq eq5 xf;go_wp2_with fail;go_roundw
       case rel=>exact ⟨j+1,by omega,by go_num,gv.out.to Lau⟩
       case measure=>simp [intOf];omega
      ·simp only [ga,gs,gz]
       go_simp
       go_at_call 54;(with_reducible refine (g7.out _).mono ?_);rintro e wb ⟨rfl,rfl⟩
       try go_wp2_with fail
       refine hK.out _ _ (KF.out _ Lau) (λhHeld=>?_);clear hK K
       try simp only [ga,gs,gz,Act.put,sa,sz,ss]
       refine rd 9 λK hK=>?_
       simp only [ga,gs,gz]
       go_simp
       refine hK.out _ _ (KF.out _ Lau) (λhHeld=>?_);clear hK K
       try simp only [ga,gs,gz,Act.put,sa,sz,ss]
       refine rd 16 λK hK=>?_
       simp only [ga,gs,gz]
       go_simp
       go_at_call 55;(with_reducible refine (Ha.out _).mono ?_);rintro e wc ⟨rfl,rfl⟩
       try go_wp2_with fail
       refine hK.out _ _ (KF.out _ Lau) (λhHeld=>?_);clear hK K
       try simp only [ga,gs,gz,Act.put,sa,sz,ss]
       refine tk 17 ?_;refine rd 18 λK hK=>?_
       simp only [ga,gs,gz]
       go_simp
       refine hK.out _ _ ?_ (λhHeld=>?_)
       ·(try dsimp only);(refine ⟨?_,?_⟩<;>(repeat (refine qa0 ?_ (by first|omega|(simp;done)|(simp;omega))))<;>(refine Later.cell (Lau:Later wq _) ?_)<;>assumption)
       clear hK K
       try simp only [ga,gs,gz,Act.put,sa,sz,ss]
       clear KF;refine Zn1 krZ ?_ _;refine Zd1 ?_;clear hHeld tq xq eq5 xf;go_wp2_with fail;go_roundw
       case rel=>exact ⟨j+1,by omega,by go_num,gv.out.to Lau⟩
       case measure=>simp [intOf];omega
     ·obtain rfl:j=n:=by omega
      have gV:=Ly.mid_end X1 X0 j hc.out.symm (hc.out.trans hF.out.symm);rw [gV,←Ge.out,←Gj.out] at hQ;have kk3:¬(j:Int)<(x.c.length:Int):=by have:=hi.out;omega
      clear gV;have HQ:=zI hQ;clear hQ;go_wp2_with fail;go_roundw
      case rel=>exact ⟨k+1,by omega,by go_num,HQ.out⟩
      case measure=>simp [intOf];omega
   ·obtain rfl:k=m:=by omega
    have gI:=Ly.mid_end DW t.c (k*n) (by rw [hm.out,hR.out]) hm.out;rw [gI] at hJ;have gA:=Ly.denseX_len t.c g.c x.c k;have gU:=Ly.denseX_in t.c g.c x.c k;have HZ:=HE.out;rw [hU.out] at HZ;generalize Ly.denseX t.c g.c x.c k=XX at *;obtain ⟨e0,e1,e2,e3,e4,e5,-⟩:=qaq hJ.ke;obtain ⟨c0,c1,c2,c3,c4,c5,f0,f1,f2,f3,f4,f5⟩:=qaq hJ.kz;obtain ⟨d0,d1,d2,d3,d4,d5,-⟩:=qaq (qbJ (u0:=.slice (some ⟨g0,0,none⟩) t.s.length t.s.length) (u1:=.slice (some ⟨h0,0,none⟩) t.c.length t.c.length) (u2:=.slice (some ⟨g1,0,none⟩) g.s.length g.s.length) (u3:=.slice (some ⟨h1,0,none⟩) g.c.length g.c.length) (u4:=.slice (some ⟨g2,0,none⟩) x.s.length x.s.length) (u5:=.slice (some ⟨h2,0,none⟩) x.c.length x.c.length) hJ.kz);unfold six at d0 d1 d2 d3 d4 d5;have kk2:¬(k:Int)<(g.c.length:Int):=by have:=hU.out;omega
    clear gI;obtain ⟨HJ,gG,Gs,Gh⟩:=zd4 hJ gA gU HZ;clear hJ gA gU HZ;go_wp2_with fail;refine Zk1 (v:=.tuple #[.agg #[.slice (some ⟨g0,0,none⟩) t.s.length t.s.length,.slice (some ⟨h0,0,none⟩) t.c.length t.c.length,.slice (some ⟨g1,0,none⟩) g.s.length g.s.length,.slice (some ⟨h1,0,none⟩) g.c.length g.c.length,.slice (some ⟨g2,0,none⟩) x.s.length x.s.length,.slice (some ⟨h2,0,none⟩) x.c.length x.c.length],.int .i64 0]) (by simp [results,Tryz.results12,go_sem,d0,d1,d2,d3,d4,d5]) rfl ?_;exact HJ.out.done Gh.out hm.out rfl gG.out ⟨by omega,by omega,by omega,by rw [hm.out];omega,by omega,by rw [gG.out];omega⟩ gq.out Hg.out.num Gs.out _ _ _ _ _ _
end Go.Proofs.YtbnnpkcfifejmaaGreat
