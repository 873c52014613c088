/- Lemmas for the statements of this seat: contracts of functions and the plain laws. -/
import Derived.Test.YtbnnpkcfifejmaaGreatZ07
set_option linter.unusedVariables false
open List renaming take_succ_eq_append_getElem → Zb, replicate → Zc, drop_eq_getElem_cons → Zd, length_append → Ze, all_eq_true → Zf, take_length → Zg, mem_of_mem_take → Zh, getElem?_eq_none → Zi, flatMap_append → Zj, getElem?_toArray → Zk, getElem?_append_right → Zl, getElem?_append_left → Zm, take_append_drop → Zn, length_take → Zo, mem_of_mem_drop → Zp, length_drop → Zq, getElem?_set_self → Zr, getElem?_set_ne → Zs
open Nat renaming zero_le → Zt, succ_mul → Zu, le_trans → Zv, zero_add → Zw, add_zero → Zx, le_succ → Zy
open Bool renaming and_eq_true → Zz
open Go.Value renaming int → Za1, slice → Zb1
open Go.IntWalk renaming i64_in → Zc1
open Go.NoPanic renaming normal → Zd1
open Go.RowKit.Below renaming refl → Ze1
open Go.AllReadyH renaming cons → Zf1, nil → Zg1
open Go.World renaming size_alloc → Zh1, cell?_of_block → Zi1, block_lt_of_cell? → Zj1
open Go renaming bodyPost_ret → Zk1, wp_region_held_drew → Zl1, wp_region_noPanic → Zm1, wpAnyH_done → Zn1, wpAnyH_ready → Zo1, World → Zp1
namespace Go.Proofs.YtbnnpkcfifejmaaGreat
set_option maxHeartbeats 16000000
open Go.RowKit
def RefCheckP (n:NetD) (w:Zp1) (e:Ending) (w':Zp1):Prop:=
 Below w.heap.size w w'/\((Nt.check n=0/\∃g,e=.returned (.tuple #[.slice (some ⟨g,0,none⟩) (n.nodes.length+1) (n.nodes.length+1),.int .i64 (Nt.loss n.nodes),.int .i64 0])/\w.heap.size<=g/\ShpRow w' g 23 (Nt.shapes n))∨
  (Nt.check n≠0/\e=.returned (.tuple #[.slice none 0 0,.int .i64 0,.int .i64 (Nt.check n)])))
theorem RefCheckP.err {n:NetD} {w w':Zp1} {k:Int} (h:Nt.check n=k) (hk:k≠0) (hb:Below w.heap.size w w'):RefCheckP n w (.returned (.tuple #[.slice none 0 0,.int .i64 0,.int .i64 k])) w':=
 ⟨hb,.inr (by rw [h];exact ⟨hk,rfl⟩)⟩
theorem ShpRow.apart {w:Zp1} {g:Nat} {t:TypeId} {sh:List (List Int)} {S:Option Addr} {s:List Int} (h:ShpRow w g t sh) (hI:Ints .i64 w S s) (hs:0<s.length):∀a,S=some a->a.block≠g:=by
 intro a ha hg;obtain ⟨b,off,e,hl,hc⟩:=hI 0 hs;rw [ha] at e;injection e with e
 subst e;simp at hg;subst hg;obtain ⟨vs,hb,hk,hv⟩:=h;rw [Zx,hk.cell off] at hc
 by_cases ho:off<sh.length
 ·obtain ⟨S',c',e1,_⟩:=hv off ho
  simp at hc;rw [e1] at hc;simp at hc
 ·rw [Array.getElem?_eq_none soZ] at hc
  cases hc
theorem Nt.count_used (ns:List NodeD) (id:Int):(Nt.count ns id=0)↔Nt.isUsed ns id=false:=by
 unfold Nt.count Nt.isUsed;rw [List.length_eq_zero_iff,List.filter_eq_nil_iff,List.any_eq_false]
set_option maxRecDepth 20000 in
theorem qeC (A N:Option Addr) (c d:Nat) (n:NetD) (w:Zp1) (hok:n.ok) (hR:NetR w A N n) (hd:n.nodes.length<=d) (hc:n.inn.length<=c) (hcm:c<=9223372036854775807):
  Calls Tryz.prog 69 #[.agg #[.slice A n.inn.length c,.slice N n.nodes.length d]] w (RefCheckP n w):=by
 obtain ⟨i1,hj,Gl,Gq,g9⟩:=info_parts qc4;have GN:=hok.2.1;have Gj:=hok.1;have hW:Below w.heap.size w (w.alloc (.cells #[.slice A n.inn.length c,.slice N n.nodes.length d] 73)):=(Ze1 _ _).alloc (lrZ _) _;have gf:=Blk.new w 73 #[.slice A n.inn.length c,.slice N n.nodes.length d];have gj:=hR.below hW (lrZ _)
 by_cases hM:n.nodes.length<1∨512<n.nodes.length
 ·have HC:=zI (Nt.check_many hM)
  obtain ⟨HR,HG,gA,ge⟩:=zd4 hR hok gj gf;clear hR hok gj gf;rcases hM with h|h
  ·have d1:decide ((n.nodes.length:Int)<1)=true:=by simp;omega
   go_enter Tryz.func69,Tryz.ntmps69;go_wp2_with fail
   go_ret3
   exact RefCheckP.err HC.out oZ hW
  ·have d1:decide ((n.nodes.length:Int)<1)=false:=by simp;omega
   have d2:decide ((512:Int)<(n.nodes.length:Int))=true:=by simp;omega
   go_enter Tryz.func69,Tryz.ntmps69;go_wp2_with fail
   go_ret3
   exact RefCheckP.err HC.out oZ hW
 ·have d1:decide ((n.nodes.length:Int)<1)=false:=by simp;omega
  have d2:decide ((512:Int)<(n.nodes.length:Int))=false:=by simp;omega
  have Gh:n.nodes.length<=512:=by omega
  have Gv:1<=n.nodes.length:=by omega
  obtain ⟨HR,HG,gA,ge,ho⟩:=zd5 hR hok gj gf hM;clear hR hok gj gf hM;go_enter Tryz.func69,Tryz.ntmps69;go_wp2_with fail;have hx:=ge.out;generalize w.alloc (.cells #[.slice A n.inn.length c,.slice N n.nodes.length d] 73)=w1 at *;have he:=ge.out;refine (qaH A c n.inn _ oZ gA.out.1).mono ?_;rintro e w2 ⟨rfl,rfl⟩;have x1:w1.cell? ⟨w.heap.size,1,none⟩=some (.slice N n.nodes.length d):=by rw [he.cell];rfl
  clear d1 d2 hx
  by_cases HZ:Sh.right n.inn=true
  rotate_left
  ·have Hu:Sh.right n.inn=false:=by simpa using HZ
   have HC:=zI (Nt.check_in ho.out Hu);rw [Hu];have hf:=zI he;clear he;clear HZ Hu;go_wp2_with fail
   go_ret3
   exact RefCheckP.err HC.out oZ hW
  ·have h7:=zI HZ
   rw [HZ];have hf:=zI he;clear he;clear HZ;go_wp2_with fail;clear x1 gA ge
   go_loopw [5] (λi wr=>∃k:Nat,k<=n.nodes.length/\i=.int .i64 k/\Blk wr w.heap.size 73 #[.slice A n.inn.length c,.slice N n.nodes.length d]/\Below w.heap.size w wr/\qdh n k) (λi _=>n.nodes.length-(intOf i).toNat)
   case atStart=>exact ⟨0,Zt _,rfl,hf.out,hW,λj hj h=>by omega⟩
   case round=>
    clear hf hW;obtain ⟨k,hk,rfl,he,hK,hE⟩:=hrel;have Gk:=he.lt;have x1:wr.cell? ⟨w.heap.size,1,none⟩=some (.slice N n.nodes.length d):=by rw [he.cell];rfl
    by_cases hU:k<n.nodes.length
    ·obtain ⟨b,off,S,sc,J,ic,Q,qc,rfl,Hd,-,hI,-⟩:=HR.out.2.at_ hU
     have hJ:=HG.out.2.2 _ (gmZ hU);have HQ:=λh=>Nt.bads_op (n:=n.nodes.length) hU hE h
     have HF:=λh m (hm:m<n.nodes[k].ins.length) h2=>Nt.bads_in (n:=n.nodes.length) hU hE h (m:=m) hm h2
     have Hb:Od.right n.nodes[k].op=true->n.nodes[k].ins.all (λi=>decide (0<=i/\i<=n.nodes.length))=true->qdh n (k+1):=λh1 h2 j hj GC=>by
      by_cases e:j=k
      ·subst e;exact ⟨h1,h2⟩
      ·exact hE j hj oZ
     have Gj:=hJ.2.2.1;have Gg:=hJ.2.1;generalize n.nodes[k]=v at *;have Hp:=Hd.below hK;obtain ⟨⟨y0,y1,y2,y3,y4,y5,y6,y7,y8,y9⟩,-⟩:=Hd.below hK;have hh:=qek v.op S sc wr oZ;rw [Od.ref_right] at hh;obtain ⟨hf,GH,Gt,gJ,go,HA,Gx,gk,hQ⟩:=zd9 he Hd hJ HQ HF Hb Hp hE hh;clear he Hd hJ HQ HF Hb Hp hE hh;go_wp2_with fail;refine (hQ.out).mono ?_;rintro e w2 ⟨rfl,Hv⟩;have hS:=hK.trans (Hv.mono hK.size);have hb:=hf.out.below Hv Gk;clear x1;have x1:w2.cell? ⟨w.heap.size,1,none⟩=some (.slice (some ⟨b,off,none⟩) n.nodes.length d):=by rw [hb.cell];rfl
     have Gn:=Gx.out.below Hv;obtain ⟨⟨-,-,-,-,-,-,-,-,z8,-⟩,-,gi,-⟩:=Gn;clear y0 y1 y2 y3 y4 y5 y6 y7 y8 y9 hf hQ
     by_cases H6:Od.right v.op=true
     rotate_left
     ·have Hq:Od.right v.op=false:=by simpa using H6
      have hc:=gJ.out Hq;have HC:=zI ((Nt.check_bads ho.out h7.out (by rw [hc];omega)).trans hc);rw [Hq];obtain ⟨hG,g4⟩:=zd2 hb gi;clear hb gi;clear H6 hc Hq;go_wp2_with fail
      go_ret3
      exact RefCheckP.err HC.out oZ hS
     ·have gL:=zI H6
      rw [H6];obtain ⟨hG,g4⟩:=zd2 hb gi;clear hb gi;clear H6;go_wp2_with fail
      go_loopw [6] (λi wx=>∃m q:Nat,m<=v.ins.length/\i=.int .i64 m/\(∀j (hj:j<v.ins.length),j<m->0<=v.ins[j]/\v.ins[j]<=n.nodes.length)/\wx=w2.drewN q) (λi _=>v.ins.length-(intOf i).toNat)
      case atStart=>exact ⟨0,0,Zt _,rfl,(λj hj h=>by omega),rfl⟩
      case round=>
       obtain ⟨m,q,hm,rfl,hF,rfl⟩:=hrel
       by_cases H5:m<v.ins.length
       ·obtain ⟨b1,off1,rfl,-,hc⟩:=g4.out m H5
        rw [qa3 H5] at hc;have gy:=go.out gL.out m H5
        have H2:(0<=v.ins[m]/\v.ins[m]<=n.nodes.length)->∀j (hj:j<v.ins.length),j<m+1->0<=v.ins[j]/\v.ins[j]<=n.nodes.length:=λh j hj GI=>by
         by_cases e:j=m
         ·subst e;exact h
         ·exact hF j hj oZ
        generalize v.ins[m]=u at *;have m0:(0:Int)<=(m:Int):=by omega
        have m1:(m:Int)<(v.ins.length:Int):=by omega
        have k0:(0:Int)<=(k:Int):=by omega
        have k1:(k:Int)<(n.nodes.length:Int):=by omega
        by_cases hu:0<=u/\u<=n.nodes.length
        ·have HN:=zI (H2 hu)
         have e1:decide (u<0)=false:=by simp;omega
         have e2:decide ((n.nodes.length:Int)<u)=false:=by simp;omega
         clear hu gy;obtain ⟨Gy,HW⟩:=zd2 H2 hF;clear H2 hF;go_wp2_with fail
         go_quiet (fail)
         go_wp2_with fail;go_roundw
         case rel=>exact ⟨m+1,_,by omega,by go_num,HN.out,by first|rfl|exact World.drewN_drewN _ _ _⟩
         case measure=>simp [intOf];omega
        ·have gC:=gy hu
         have HC:=zI ((Nt.check_bads ho.out h7.out (by rw [gC];omega)).trans gC);clear gC gy;obtain ⟨Gy,HW⟩:=zd2 H2 hF;clear H2 hF
         by_cases H0:u<0
         ·have e1:decide (u<0)=true:=by simpa using H0
          clear hu;go_wp2_with fail
          go_quiet (fail)
          go_wp2_with fail
          go_ret3
          exact RefCheckP.err HC.out oZ (by first|exact qdj hS _ _|exact qa6 hS _)
         ·have e1:decide (u<0)=false:=by simpa using H0
          have e2:decide ((n.nodes.length:Int)<u)=true:=by simp;omega
          clear hu;go_wp2_with fail
          go_quiet (fail)
          go_wp2_with fail
          go_ret3
          exact RefCheckP.err HC.out oZ (by first|exact qdj hS _ _|exact qa6 hS _)
       ·obtain rfl:m=v.ins.length:=by omega
        have HN:=zI (HA.out gL.out (List.all_eq_true.2 λi hi=>by obtain ⟨j,hj,rfl⟩:=List.getElem_of_mem hi;simpa using hF j hj hj));have HW:=zI hF;clear hF;go_wp2_with fail;go_roundw
        case rel=>exact ⟨k+1,by omega,by go_num,hG.out.drewN q,qa6 hS q,HN.out⟩
        case measure=>simp [intOf];omega
    ·obtain rfl:k=n.nodes.length:=by omega
     have hW:Nt.bads n.nodes.length n.nodes=0:=Nt.bads_none hE;have HX:∀v∈n.nodes,∀i∈v.ins,0<=i/\i<=n.nodes.length:=λv hv=>(Nt.bads_all hW v hv).2
     have H1:∀v∈n.nodes,Od.right v.op=true:=λv hv=>(Nt.bads_all hW v hv).1
     have x0:wr.cell? ⟨w.heap.size,0,none⟩=some (.slice A n.inn.length c):=by rw [he.cell];rfl
     obtain ⟨gk,hf,gg,gB,gH⟩:=zd5 hE he hW HX H1;clear hE he hW HX H1;go_wp2_with fail;refine (qej A N c d n _ HG.out (HR.out.below hK (lrZ _))).mono ?_;rintro e w2 ⟨O,oc,rfl,hO,gW,Gd,Hv⟩;have h4:=hK.trans (Hv.mono hK.size);have hb:=hf.out.below Hv hf.out.lt;have gK:w.heap.size<w2.heap.size:=hb.lt;clear x0 x1;have x0:w2.cell? ⟨w.heap.size,0,none⟩=some (.slice A n.inn.length c):=by rw [hb.cell];rfl
     have x1:w2.cell? ⟨w.heap.size,1,none⟩=some (.slice N n.nodes.length d):=by rw [hb.cell];rfl
     clear hf;have gp:(Nt.sorted n.nodes).length<=n.nodes.length:=Kn.order_len_le _ _
     by_cases hT:(Nt.sorted n.nodes).length=n.nodes.length
     rotate_left
     ·have HC:=zI (Nt.check_cyc ho.out h7.out gg.out hT)
      have e1:decide (((Nt.sorted n.nodes).length:Int)<(n.nodes.length:Int))=true:=by simp;omega
      have e2:decide ((Nt.sorted n.nodes).length<n.nodes.length)=true:=by simp;omega
      generalize Nt.sorted n.nodes=os at *;obtain ⟨hG,gm,HO⟩:=zd3 hb hT hO;clear hb hT hO;go_wp2_with fail
      go_ret3
      exact RefCheckP.err HC.out oZ h4
     ·have hH:=λh5=>Nt.check_lay ho.out h7.out gg.out hT h5
      have ht:=λh5 h6=>Nt.check_loss ho.out h7.out gg.out hT h5 h6
      have hw:=λh5 h6=>Nt.check_last ho.out h7.out gg.out hT h5 h6
      have hy:=λh5:(Nt.lay n.nodes (Nt.start n) (Nt.sorted n.nodes)).2=0=>Nt.lay_good h7.out (Nt.sorted n.nodes).length (lrZ _) (by rw [Zg];exact h5)
      rw [Zg] at hy;have hY:∀u,u∈Nt.sorted n.nodes↔1<=u/\u<=n.nodes.length:=Kn.order_full (I:=Nt.insF n.nodes) (n:=n.nodes.length) hT;have Hn:(Nt.lay n.nodes (Nt.start n) (Nt.sorted n.nodes)).1=Nt.shapes n:=rfl;have Hk:∀u∈Nt.sorted n.nodes,1<=u/\u<=n.nodes.length:=Kn.order_rng _ _;have Hi:∀a b u,Nt.sorted n.nodes=a++u::b->∀i∈Nt.insF n.nodes u,i=0∨i∈a:=λa b u h=>Kn.order_behind _ _ h
      rw [hT];obtain ⟨os,hos⟩:∃os,Nt.sorted n.nodes=os:=⟨_,rfl⟩
      have h0:∀k,k<=os.length->∀sh,Nt.lay n.nodes (Nt.start n) (os.take k)=(sh,0)->Nt.Good (os.take k) sh/\sh.length=n.nodes.length+1:=λk hk sh h=>by
       have:=qdI (n:=n) h7.out (k:=k) (by rw [hos];exact hk) (sh:=sh) (by rw [hos];exact h);rw [hos] at this;exact this
      rw [hos] at hH ht hw hy hY Hn hO hT gW gp Hk Hi;rw [hT] at gW
      have g5:∀a,A=some a->a.block<w.heap.size:=λa ha=>by
       obtain ⟨b,off,e,hl,-⟩:=HR.out.1 0 (qa5 h7.out).1;rw [ha] at e;injection e with e;subst e;exact hl
      have H8:=HR.out.1.below h4 (lrZ _);have e1:IntKind.i64.wrap ((n.nodes.length:Int)+1)=((n.nodes.length+1:Nat):Int):=by rw [Zc1 _ oZ];omega
      obtain ⟨Hh,Ha,h9,Hr,HB,gr,gm,GP,HO⟩:=zd9 hH ht hw hy hY Hn hT hos hO;obtain ⟨hG,gt,gG,Hm,Ge,H9⟩:=zd6 hb Hk Hi h0 g5 H8;clear hH ht hw hy hY Hn hT hos hO hb Hk Hi h0 g5 H8;go_wp2_with (at_make;refine wpList_make_full _ rfl _ _ 128 rfl w2.heap.size 23 i1 (.slice none 0 0) 1 Tryz.underlying128 hj Gl Gq _ _ _ _ (n.nodes.length+1) rfl rfl (by first|rfl|simp|(go_simp;rfl)) (by first|rfl|simp|(go_simp;rfl)) ?b2 ?b3 ?b4 ?_)
      case b2=>rw [g9];omega
      case b3=>unfold maxLen;omega
      case b4=>exact lrZ _
      intro w3 hown hgrow;have Hs:=qaS hown;rw [qb4] at Hs;obtain ⟨g,hg⟩:∃g,w2.heap.size=g:=⟨_,rfl⟩
      have hq:ShpRow w3 g 23 (Zc (n.nodes.length+1) []):=by rw [←hg];exact ShpRow.new (by simpa [Blk] using Hs)
      have HP:Below w2.heap.size w2 w3:=(Ze1 _ w2).grown hgrow (lrZ _) sZ;have H3:=h4.trans (HP.mono h4.size);have hC:=hG.out.below HP gK;have hX:=hq.set_ (i:=0) (H9.out.below HP (lrZ _)) hc hcm (λa ha=>by have:=Ge.out a ha;omega);rw [show (Zc (n.nodes.length+1) ([]:List Int)).set 0 n.inn=Nt.start n from rfl] at hX;have Hc:=hC.far (p:=⟨g,0,none⟩) soZ (.slice A n.inn.length c);have HE:=H3.setCell (p:=⟨g,0,none⟩) soZ (.slice A n.inn.length c);have gX:=(HO.out.below HP (lrZ _))
      obtain ⟨S0,c0,z0,-⟩:=hq.at_ (j:=0) sZ;have f0:w3.frozen? ⟨g,0,none⟩=false:=by obtain ⟨vs,_,hk,_⟩:=hq;exact hk.frozen 0
      have gn:∀a,O=some a->a.block≠g:=λa ha=>by
       obtain ⟨b,off,e,hl,-⟩:=HO.out 0 (by have:=gm.out;omega);rw [ha] at e;injection e with e;subst e;simp;omega
      have gZ:=gX.set_far (p:=⟨g,0,none⟩) gn (.slice A n.inn.length c);clear x0 x1;have x0:w3.cell? ⟨w.heap.size,0,none⟩=some (.slice A n.inn.length c):=by rw [hC.cell];rfl
      have x1:w3.cell? ⟨w.heap.size,1,none⟩=some (.slice N n.nodes.length d):=by rw [hC.cell];rfl
      rw [hg];have GD:w.heap.size<g:=by omega
      have gE:¬w.heap.size=g:=by omega
      clear Hs hown hgrow hq gX h4 Hv hK hg;obtain ⟨Hf,HY,Hg,gb,GA⟩:=zd5 hX hC Hc gZ gn;clear hX hC Hc gZ gn;clear HO H9;go_wp2_with fail;clear z0 f0 x0 x1 HP H3
      go_loopw [9] (λi wr=>∃k:Nat,k<=os.length/\i=.int .i64 k/\Blk wr w.heap.size 73 #[.slice A n.inn.length c,.slice N n.nodes.length d]/\Below w.heap.size w wr/\Ints .i64 wr O os/\∃sh,Nt.lay n.nodes (Nt.start n) (os.take k)=(sh,0)/\ShpRow wr g 23 sh) (λi _=>os.length-(intOf i).toNat)
      case atStart=>exact ⟨0,Zt _,rfl,Hg.out,HE,gb.out,Nt.start n,rfl,Hf.out⟩
      case round=>
       obtain ⟨k,hk,rfl,he,hK,hO,sh,hn,hq⟩:=hrel;clear Hf HY Hg gb HE;obtain ⟨hV,gv⟩:=Hm.out k hk sh hn;have x1:wr.cell? ⟨w.heap.size,1,none⟩=some (.slice N n.nodes.length d):=by rw [he.cell];rfl
       have gS:=gm.out
       by_cases hU:k<os.length
       ·obtain ⟨b,off,rfl,-,hc⟩:=hO k hU
        rw [qa3 hU] at hc;have hr:=gt.out _ (gmZ hU);have hL:os=os.take k++os[k]::os.drop (k+1):=by rw [←Zd hU,Zn]
        have gD:=gG.out _ _ _ hL;obtain ⟨j,hj'⟩:∃j:Nat,os[k]=(j:Int)+1:=⟨(os[k]-1).toNat,by omega⟩
        have Hy:j<n.nodes.length:=by omega
        have hs:=λh:(Nt.layStep n.nodes sh os[k]).2=0=>Nt.lay_snoc (id:=os[k]) hn h
        have hN:=λh:(Nt.layStep n.nodes sh os[k]).2≠0=>Nt.lay_fail (b:=os.drop (k+1)) (id:=os[k]) hn h
        rw [←Zb hU] at hs;rw [←hL] at hN;have g8:Nt.layStep n.nodes sh os[k]=Od.shape n.nodes[j].op n.nodes[j].p (Nt.pick sh n.nodes[j].ins):=by unfold Nt.layStep;rw [hj',Nt.node_at Hy]
        have gU:Nt.insF n.nodes os[k]=n.nodes[j].ins:=by unfold Nt.insF;rw [hj',Nt.node_at Hy]
        rw [g8] at hs hN;rw [gU] at gD;rw [hj'] at hc hs;rw [show ((j:Int)+1).toNat=j+1 by omega] at hs;have hJ:=HG.out.2.2 _ (gmZ Hy);have gM:=gH.out _ (gmZ Hy);have Ho:=gB.out _ (gmZ Hy);obtain ⟨b1,off1,S,sc,J,ic,Q,qc,rfl,Hd,gI,GJ,GB⟩:=HR.out.2.at_ Hy;have gN:∀i∈n.nodes[j].ins,0<=i/\i.toNat<sh.length/\Sh.right (sh.getD i.toNat [])=true:=λi hi=>⟨(Ho i hi).1,by have:=Ho i hi;omega,hV i (gD i hi)⟩
        generalize n.nodes[j]=v at *;have Hp:=Hd.below hK;obtain ⟨⟨y0,y1,y2,y3,y4,y5,y6,y7,y8,y9⟩,-⟩:=Hd.below hK;have j1:IntKind.i64.wrap ((j:Int)+1-1)=(j:Int):=by rw [Zc1 _ oZ];omega
        have j2:(j:Int)<n.nodes.length:=by omega
        have j0:(0:Int)<=(j:Int):=by omega
        have k0:(0:Int)<=(k:Int):=by omega
        have k1:(k:Int)<(n.nodes.length:Int):=by omega
        have j4:(0:Int)<=(j:Int)+1:=by omega
        have j5:IntKind.i64.wrap (j:Int)=(j:Int):=Zc1 _ oZ
        have hh:∀W:Zp1,Ints .i64 W S v.op.s->Ints .i64 W J v.ins->Shps W Q v.p->Shps W (some ⟨g,0,none⟩) sh->Calls Tryz.prog 123 #[.agg #[.int .i64 v.op.kind,.int .i64 v.op.k,.int .i64 v.op.width,.int .i64 v.op.step,.int .i64 v.op.side,.int .i64 v.op.frm,.int .i64 v.op.to,.slice S v.op.s.length sc,.slice J v.ins.length ic,.slice Q v.p.length qc],.slice (some ⟨g,0,none⟩) (n.nodes.length+1) (n.nodes.length+1)] W (RefP (Od.shape v.op v.p (Nt.pick sh v.ins)) W):=λW q1 q2 q3 q4=>by
         rw [←gv];exact qem v S J Q sc ic qc g sh.length sh W hJ gM gI.1 gI.2 q1 q2 q3 q4 gN
        have HD:=λh:(Od.shape v.op v.p (Nt.pick sh v.ins)).2=0=>qa5 (Od.shape_right h)
        generalize Od.shape v.op v.p (Nt.pick sh v.ins)=r at *;have Hw:=hh;have F1:=zI Hp.2.1;have F2:=zI Hp.2.2.1;have F3:=zI Hp.2.2.2;have F4:=zI hq.shps;obtain ⟨g0,HT⟩:=zd2 hh HD;have HL:=zI hs;have Gz:=zI hN;clear hh Hw HD hs hN Hp Hd gN Ho hJ gM g8 gU gD hL hj' hV;obtain ⟨hf,HO,gx,Ht⟩:=zd4 he hO hn hq;clear he hO hn hq;have kn:k<n.nodes.length:=by omega
        go_wp2_with fail
        go_region_held3 (λw'=>w'.cell? ⟨w.heap.size,1,none⟩=some (.slice (some ⟨b1,off1,none⟩) n.nodes.length d)/\w'.cell? ⟨b,off+k,none⟩=some (.int .i64 ((j:Int)+1))/\w'.cell? ⟨b1,off1+j*10,none⟩=some (.int .i64 v.op.kind)/\w'.cell? ⟨b1,off1+j*10+1,none⟩=some (.int .i64 v.op.k)/\w'.cell? ⟨b1,off1+j*10+2,none⟩=some (.int .i64 v.op.width)/\w'.cell? ⟨b1,off1+j*10+3,none⟩=some (.int .i64 v.op.step)/\w'.cell? ⟨b1,off1+j*10+4,none⟩=some (.int .i64 v.op.side)/\w'.cell? ⟨b1,off1+j*10+5,none⟩=some (.int .i64 v.op.frm)/\w'.cell? ⟨b1,off1+j*10+6,none⟩=some (.int .i64 v.op.to)/\w'.cell? ⟨b1,off1+j*10+7,none⟩=some (.slice S v.op.s.length sc)/\w'.cell? ⟨b1,off1+j*10+8,none⟩=some (.slice J v.ins.length ic)/\w'.cell? ⟨b1,off1+j*10+9,none⟩=some (.slice Q v.p.length qc)) (first|go_keep|(exact ⟨qa1 hA x1,qa1 hA hc,qa1 hA y0,qa1 hA y1,qa1 hA y2,qa1 hA y3,qa1 hA y4,qa1 hA y5,qa1 hA y6,qa1 hA y7,qa1 hA y8,qa1 hA y9⟩))
         ((go_at_call 123;refine (g0.out _ (by exact F1.out) (by exact F2.out) (by exact F3.out) (by exact F4.out)).mono ?_;rintro e w9 ⟨S9,c9,rfl,Hz,Ga,Gs,hA⟩))
        have HV:Below wr.heap.size wr w9:=⟨hA.os,hA.tape,hA.output,hA.size,hA.block⟩
        have HH:=hK.trans (HV.mono hK.size);clear y0 y1 y2 y3 y4 y5 y6 y7 y8 y9 hA x1 g0 F1 F2 F3 F4
        by_cases h8:r.2=0
        ·have q1:(r.2 != 0)=false:=by simp [h8]
         have hD:=Ht.out.below HV (lrZ _);have He:=hf.out.below HV hf.out.lt;have gO:=HO.out.below HV (lrZ _);have GO:=qa1 HV hc;have Gi:j+1<sh.length:=by omega
         obtain ⟨Sm,cm,ym,-⟩:=hD.at_ Gi;have fm:w9.frozen? ⟨g,j+1,none⟩=false:=by obtain ⟨vs,_,hk,_⟩:=hD;exact hk.frozen (j+1)
         have H4:=hD.set_ (i:=j+1) Hz Ga Gs (hD.apart Hz (HT.out h8).1);have HS:=zI H4;have Gm:=zI (He.far (p:=⟨g,j+1,none⟩) gE (.slice S9 r.1.length c9));have gq:=HH.setCell (p:=⟨g,j+1,none⟩) soZ (.slice S9 r.1.length c9);have gb:=zI (gO.set_far (p:=⟨g,j+1,none⟩) GA.out (.slice S9 r.1.length c9));have Gc:=zI (HL.out h8);have j3:((j:Int)+1)<((n.nodes.length+1:Nat):Int):=by omega
         have j6:((j:Int)+1).toNat=j+1:=by omega
         clear H4 hD He gO h8 hc;have Gf:=zI Hz;clear Hz;go_wp2_with fail;go_roundw
         case rel=>exact ⟨k+1,by omega,by go_num,Gm.out,gq,gb.out,_,Gc.out,HS.out⟩
         case measure=>simp [intOf];omega
        ·have q1:(r.2 != 0)=true:=by simp [h8]
         have gu:=Hh.out;rw [Gz.out h8] at gu;have HC:=zI (gu h8);obtain ⟨Gb,Gf⟩:=zd2 h8 Hz;clear Hz;clear h8 gu;go_wp2_with fail
         go_ret3
         exact RefCheckP.err HC.out Gb.out HH
       ·obtain rfl:k=os.length:=by omega
        rw [Zg] at hn;have g2:=λh6=>Ha.out (by rw [hn]) h6
        have gT:=λh6=>h9.out (by rw [hn]) h6
        have H7:=Hr.out (by rw [hn]);have gc:=gr.out;rw [hn] at H7 gc;have gc:sh=Nt.shapes n:=gc;subst gc;have H7:Nt.Good os (Nt.shapes n):=H7;have i2:¬((os.length:Int)<(n.nodes.length:Int)):=by omega
        have i3:¬(os.length<n.nodes.length):=by omega
        clear hV hk hU;obtain ⟨gR,Go,Gu,gx,Ht,hf,HO⟩:=zd7 g2 gT H7 hn hq he hO;clear g2 gT H7 hn hq he hO;have GL:=zI gS;clear gS;go_wp2_with fail;clear x1;obtain ⟨w5,rfl⟩:∃w5,w5=wr:=⟨wr,rfl⟩
        go_loopw [12,13,14] (λl m i wx=>∃k:Nat,k<=n.nodes.length+1/\i=.int .i64 k/\l=.int .i64 ((Nt.unusedTo n.nodes k).getLastD 0)/\m=.int .i64 ((Nt.unusedTo n.nodes k).length:Nat)/\Below w5.heap.size w5 wx) (λ_ _ i _=>n.nodes.length+1-(intOf i).toNat)
        case atStart=>exact ⟨0,Zt _,rfl,rfl,rfl,Ze1 _ _⟩
        case round=>
         obtain ⟨k,hk,rfl,rfl,rfl,HM⟩:=hrel;have hP:=hf.out.below HM hf.out.lt;have hZ:=hK.trans (HM.mono hK.size);have x0:wr.cell? ⟨w.heap.size,0,none⟩=some (.slice A n.inn.length c):=by rw [hP.cell];rfl
         have x1:wr.cell? ⟨w.heap.size,1,none⟩=some (.slice N n.nodes.length d):=by rw [hP.cell];rfl
         have gV:=Nt.unusedTo_len n.nodes k
         by_cases hU:k<=n.nodes.length
         ·have HS:=zI (Nt.unusedTo_succ n.nodes k)
          obtain ⟨L0,hL0⟩:∃L0,(Nt.unusedTo n.nodes k).getLastD 0=L0:=⟨_,rfl⟩
          obtain ⟨c0,hc0⟩:∃c0,(Nt.unusedTo n.nodes k).length=c0:=⟨_,rfl⟩
          rw [hc0] at gV;rw [hL0,hc0];have g6:=Nt.count_used n.nodes (k:Int);have hh:=qeh A N c d n (k:Int) wr HG.out (HR.out.below hZ (lrZ _));generalize Nt.count n.nodes (k:Int)=cn at *;obtain ⟨Gw,gP,gY,hQ,g1⟩:=zd5 hL0 hc0 g6 hh hP;clear hL0 hc0 g6 hh hP;go_wp2_with fail;refine (hQ.out).mono ?_;rintro e w6 ⟨rfl,Gr⟩;have HI:=HM.trans (Gr.mono HM.size);clear x0 x1
          by_cases hz:cn=0
          ·have HU:=zI (gY.out.1 hz)
           have e1:((cn:Int)==0)=true:=by simp [hz]
           have e2:(cn==0)=true:=by simp [hz]
           subst hz;go_wp2_with fail;go_roundw
           case rel=>exact ⟨k+1,by omega,by go_num,by rw [HS.out,HU.out];simp,by rw [HS.out,HU.out,if_neg sZ,Ze,gP.out];go_num,HI⟩
           case measure=>simp [intOf];omega
          ·have HU:=zI (show Nt.isUsed n.nodes (k:Int)=true by
            cases h:Nt.isUsed n.nodes (k:Int)
            ·exact absurd (gY.out.2 h) hz
            ·rfl)
           have e1:((cn:Int)==0)=false:=by simp;omega
           have e2:(cn==0)=false:=by simp;omega
           clear hz;go_wp2_with fail;go_roundw
           case rel=>exact ⟨k+1,by omega,by go_num,by rw [HS.out,HU.out,if_pos rfl,Gw.out],by rw [HS.out,HU.out,if_pos rfl,gP.out],HI⟩
           case measure=>simp [intOf];omega
         ·obtain rfl:k=n.nodes.length+1:=by omega
          rw [Nt.unusedTo_all];have i4:¬(((n.nodes.length+1:Nat):Int)<=(n.nodes.length:Int)):=by omega
          have g7:(Nt.unused n.nodes).getLastD 0=Nt.loss n.nodes:=rfl;rw [g7];have hB:Nt.lossOk n.nodes=decide ((Nt.unused n.nodes).length=1/\Nt.loss n.nodes≠0):=rfl;rw [Nt.unusedTo_all] at gV;clear g7
          by_cases Hj:(Nt.unused n.nodes).length=1
          rotate_left
          ·have HC:=zI (gR.out (by rw [hB];simp [Hj]))
           have e1:(((Nt.unused n.nodes).length:Int) != 1)=true:=by rw [bne_iff_ne];omega
           have e2:((Nt.unused n.nodes).length != 1)=true:=by rw [bne_iff_ne];omega
           generalize (Nt.unused n.nodes).length=ul at *;have gl:=zI hB;clear hB;clear Hj;go_wp2_with fail
           go_ret3
           exact RefCheckP.err HC.out oZ hZ
          ·by_cases Hx:Nt.loss n.nodes=0
           ·have HC:=zI (gR.out (by rw [hB];simp [Hx]))
            rw [Hj,Hx];clear Hj Hx hB;go_wp2_with fail
            go_ret3
            exact RefCheckP.err HC.out oZ hZ
           ·have gd:Nt.lossOk n.nodes=true:=by rw [hB];simp [Hj,Hx]
            have H5:=(Nt.loss_mem gd).2;have HK:=Go.out gd;obtain ⟨l,hl⟩:∃l:Nat,Nt.loss n.nodes=(l:Int):=⟨(Nt.loss n.nodes).toNat,by omega⟩
            have Hl:=zI hl;rw [Hj];rw [hl] at H5 HK Hx ⊢;rw [tnZ] at HK;have gw:l<(Nt.shapes n).length:=by omega
            have gh:=Gu.out (l:Int) (.inr ((HB.out _).2 oZ));rw [tnZ,qa7 gw] at gh;rw [qa7 gw] at HK;have h3:=Ht.out.below HM (lrZ _);obtain ⟨Sl,sc,GG,gF,gI,GM,-⟩:=h3.at_ gw;have g3:=qan Sl sc _ wr gh gF;have e1:((l:Int)==0)=false:=by simp;omega
            have e1':(l==0)=false:=by simp;omega
            have l0:(0:Int)<=(l:Int):=by omega
            have l1:(l:Int)<((n.nodes.length+1:Nat):Int):=by omega
            generalize (Nt.shapes n)[l]=s at *;obtain ⟨HJ,gQ,Hl,Gp,GF,GE,GK,gl⟩:=zd8 h3 HK hl g3 gF gh gd hB;clear h3 HK hl g3 gF gh gd hB;clear Hj Hx;go_wp2_with fail;refine (Gp.out).mono ?_;rintro e w7 ⟨rfl,rfl⟩
            by_cases hp:Safe.prod s=1
            ·have HC:=zI (show Nt.check n=0 by rw [gQ.out,if_neg (by simp [hp])])
             have e2:(Safe.prod s != 1)=false:=by simp [hp]
             clear hp;go_wp2_with fail
             go_ret3
             exact ⟨hZ,.inl ⟨HC.out,g,by rw [Hl.out];rfl,by omega,HJ.out⟩⟩
            ·have HC:=zI (show Nt.check n=23 by rw [gQ.out,if_pos hp])
             have e2:(Safe.prod s != 1)=true:=by simp [hp]
             clear hp;go_wp2_with fail
             go_ret3
             exact RefCheckP.err HC.out oZ hZ
namespace Pn
theorem params_at {ns:List NodeD} {k m:Nat} (h:k<ns.length) (hm:m<ns[k].p.length):(ns.flatMap (·.p)).getD (from_ ns k+m) []=ns[k].p[m]:=by
 have e:ns.flatMap (·.p)=(ns.take k).flatMap (·.p)++(ns[k].p++(ns.drop (k+1)).flatMap (·.p)):=by
  rw [←List.flatMap_cons,←Zd h,←Zj,Zn]
 rw [e];unfold from_;rw [gdZ,Zl oZ,Nat.add_sub_cancel_left,Zm hm,geZ hm]
 rfl
theorem params_lt {ns:List NodeD} {k m:Nat} (h:k<ns.length) (hm:m<ns[k].p.length):from_ ns k+m<(ns.flatMap (·.p)).length:=by
 have e:ns.flatMap (·.p)=(ns.take k).flatMap (·.p)++(ns[k].p++(ns.drop (k+1)).flatMap (·.p)):=by
  rw [←List.flatMap_cons,←Zd h,←Zj,Zn]
 rw [e,Ze,Ze];unfold from_;omega
theorem from_all (ns:List NodeD):from_ ns ns.length=(ns.flatMap (·.p)).length:=by unfold from_;rw [Zg]
theorem fits_few {n:NetD} {ps:List Ten} {x:Ten} (hc:Nt.check n=0) (h:ps.length≠(Nt.params n).length):fits n ps x=20:=by
 unfold fits;rw [if_neg oZ,if_pos h]
theorem fits_bad {n:NetD} {ps:List Ten} {x:Ten} {k:Nat} (hc:Nt.check n=0) (hk:k<(Nt.params n).length) (h:tenIs (Ly.got ps k) ((Nt.params n).getD k [])=false):fits n ps x=20:=by
 unfold fits;rw [if_neg oZ]
 split
 ·rfl
 ·rw [if_pos (parOk_bad hk h)]
theorem fits_end {n:NetD} {ps:List Ten} {x:Ten} (hc:Nt.check n=0) (hl:ps.length=(Nt.params n).length) (hp:parOk ps (Nt.params n) (Nt.params n).length=true):fits n ps x=if tenIs x n.inn then 0 else 20:=by
 unfold fits;rw [if_neg oZ,if_neg oZ,if_neg (by simp [hp])]
end Pn
set_option maxRecDepth 20000 in
theorem qeT (S C:Option Addr) (c d:Nat) (T:Option Addr) (tc:Nat) (t:Ten) (s:List Int) (w:Zp1) (hT:TenIn w S C c d t) (hI:Ints .i64 w T s) (hs:s.length<=1048576):
  Calls Tryz.prog 70 #[.agg #[.slice S t.s.length c,.slice C t.c.length d],.slice T s.length tc] w λe w'=>e=.returned (.bool (Pn.tenIs t s))/\Below w.heap.size w w':=by
 have hk:=Blk.new w 30 #[.slice S t.s.length c,.slice C t.c.length d];have hb:Later w (w.alloc (.cells #[.slice S t.s.length c,.slice C t.c.length d] 30)):=(Later.refl w).alloc _;have l1:=hT.l1;have l2:=hT.l2;obtain ⟨Hk,ha,HT,HI⟩:=zd4 hk hb hT hI;clear hk hb hT hI;go_enter Tryz.func70,Tryz.ntmps70;go_upto_region 1 with fail;generalize w.alloc (.cells #[.slice S t.s.length c,.slice C t.c.length d] 30)=w1 at *;have x0:w1.cell? ⟨w.heap.size,0,none⟩=_:=Hk.out.cell 0;have x1:w1.cell? ⟨w.heap.size,1,none⟩=_:=Hk.out.cell 1;simp at x0 x1;have hr:=λ(W:Zp1) (h:Later w1 W)=>qaH S c t.s W oZ ((HT.out.later (ha.out.trans h)).r.1)
 have hz:=λ(W:Zp1) (h:Later w1 W) (hg:Sh.right t.s=true)=>qan S c t.s W hg ((HT.out.later (ha.out.trans h)).r.1)
 have hq:=λ(W:Zp1) (h:Later w1 W)=>qbp S T c tc t.s s W oZ oZ ((HT.out.later (ha.out.trans h)).r.1) (HI.out.below (ha.out.trans h) (lrZ _))
 by_cases g1:Sh.right t.s=true
 case neg=>
  have HE:=zI (show Pn.tenIs t s=false by unfold Pn.tenIs;rw [Tn.right_false (by simpa using g1)];rfl);rw [show Sh.right t.s=false by simpa using g1] at hr;have Hr:=zI hr;clear hr;clear g1 hz hq;have KF:=zI (show ∀Xw,Later w1 Xw->Xw.cell? ⟨w.heap.size,0,none⟩=some (.slice S t.s.length c)/\Xw.cell? ⟨w.heap.size,1,none⟩=some (.slice C t.c.length d) from λXw h=>⟨h.cell x0,h.cell x1⟩);refine Zm1 ?_;refine Zl1 (S:=λXw=>Xw.cell? ⟨w.heap.size,0,none⟩=some (.slice S t.s.length c)/\Xw.cell? ⟨w.heap.size,1,none⟩=some (.slice C t.c.length d)) krZ (KF.out _ Lau) (λhHeld=>?_);refine tk 0 ?_;refine tk 1 ?_;refine rd 2 λK hK=>?_
  simp only [ga,gs,gz]
  go_simp
  go_at_call 122;(with_reducible refine (Hr.out _ (Lau:Later w1 _)).mono ?_);rintro e wg ⟨rfl,rfl⟩
  try go_wp2_with fail
  refine hK.out _ _ (KF.out _ Lau) (λhHeld=>?_);clear hK K
  try simp only [ga,gs,gz,Act.put,sa,sz,ss]
  refine tk 3 ?_;refine tn 4 ?_;refine tn 5 ?_;refine tn 6 ?_;refine tn 7 ?_;refine tn 8 ?_;refine tn 9 ?_;refine tn 10 ?_;refine tk 11 ?_;refine tk 12 ?_;refine tn 13 ?_;refine tn 14 ?_;refine tn 15 ?_;refine tn 16 ?_;refine tk 17 ?_;refine tk 18 ?_;clear KF;refine Zn1 krZ ?_ _;refine Zd1 ?_;go_wp2_with fail;go_ret;exact ⟨by (rw [HE.out]<;>rfl),Later.drew ha.out⟩
 rw [g1] at hr;have hz:=λ(W:Zp1) (h:Later w1 W)=>hz W h g1
 by_cases g2:(t.c.length:Int)=Safe.prod t.s
 case neg=>
  have HE:=zI (show Pn.tenIs t s=false by unfold Pn.tenIs;rw [Tn.right_true g1,decide_eq_false g2];rfl);have q2:((t.c.length:Int)==Safe.prod t.s)=false:=by simpa using g2
  generalize Safe.prod t.s=pr at *;obtain ⟨Hr,Hz⟩:=zd2 hr hz;clear hr hz;clear g1 hq;have KF:=zI (show ∀Xw,Later w1 Xw->Xw.cell? ⟨w.heap.size,0,none⟩=some (.slice S t.s.length c)/\Xw.cell? ⟨w.heap.size,1,none⟩=some (.slice C t.c.length d) from λXw h=>⟨h.cell x0,h.cell x1⟩);refine Zm1 ?_;refine Zl1 (S:=λXw=>Xw.cell? ⟨w.heap.size,0,none⟩=some (.slice S t.s.length c)/\Xw.cell? ⟨w.heap.size,1,none⟩=some (.slice C t.c.length d)) krZ (KF.out _ Lau) (λhHeld=>?_);refine tk 0 ?_;refine tk 1 ?_;refine rd 2 λK hK=>?_
  simp only [ga,gs,gz]
  go_simp
  go_at_call 122;(with_reducible refine (Hr.out _ (Lau:Later w1 _)).mono ?_);rintro e wg ⟨rfl,rfl⟩
  try go_wp2_with fail
  refine hK.out _ _ (KF.out _ Lau) (λhHeld=>?_);clear hK K
  try simp only [ga,gs,gz,Act.put,sa,sz,ss]
  refine tk 3 ?_;refine tk 4 ?_;refine tk 5 ?_;refine tk 6 ?_;refine tk 7 ?_;refine tk 8 ?_;refine rd 9 λK hK=>?_
  simp only [ga,gs,gz]
  go_simp
  go_at_call 125;(with_reducible refine (Hz.out _ (Lau:Later w1 _)).mono ?_);rintro e wg ⟨rfl,rfl⟩
  try go_wp2_with fail
  refine hK.out _ _ (KF.out _ Lau) (λhHeld=>?_);clear hK K
  try simp only [ga,gs,gz,Act.put,sa,sz,ss]
  refine tk 10 ?_;refine tk 11 ?_;refine tk 12 ?_;refine tn 13 ?_;refine tn 14 ?_;refine tn 15 ?_;refine tn 16 ?_;refine tk 17 ?_;refine tk 18 ?_;clear KF;refine Zn1 krZ ?_ _;refine Zd1 ?_;go_wp2_with fail;go_ret;exact ⟨by (rw [HE.out]<;>rfl),Later.drew ha.out⟩
 have HE:=zI (show Pn.tenIs t s=decide (t.s=s) by unfold Pn.tenIs;rw [Tn.right_true g1,decide_eq_true g2,Bool.true_and];exact Bool.beq_eq_decide_eq ..);have q2:((t.c.length:Int)==Safe.prod t.s)=true:=by simpa using g2
 generalize Safe.prod t.s=pr at *;generalize decide (t.s=s)=bb at *;obtain ⟨Hr,Hz,Hq⟩:=zd3 hr hz hq;clear hr hz hq;clear g1;have KF:=zI (show ∀Xw,Later w1 Xw->Xw.cell? ⟨w.heap.size,0,none⟩=some (.slice S t.s.length c)/\Xw.cell? ⟨w.heap.size,1,none⟩=some (.slice C t.c.length d) from λXw h=>⟨h.cell x0,h.cell x1⟩);refine Zm1 ?_;refine Zl1 (S:=λXw=>Xw.cell? ⟨w.heap.size,0,none⟩=some (.slice S t.s.length c)/\Xw.cell? ⟨w.heap.size,1,none⟩=some (.slice C t.c.length d)) krZ (KF.out _ Lau) (λhHeld=>?_);refine tk 0 ?_;refine tk 1 ?_;refine rd 2 λK hK=>?_
 simp only [ga,gs,gz]
 go_simp
 go_at_call 122;(with_reducible refine (Hr.out _ (Lau:Later w1 _)).mono ?_);rintro e wg ⟨rfl,rfl⟩
 try go_wp2_with fail
 refine hK.out _ _ (KF.out _ Lau) (λhHeld=>?_);clear hK K
 try simp only [ga,gs,gz,Act.put,sa,sz,ss]
 refine tk 3 ?_;refine tk 4 ?_;refine tk 5 ?_;refine tk 6 ?_;refine tk 7 ?_;refine tk 8 ?_;refine rd 9 λK hK=>?_
 simp only [ga,gs,gz]
 go_simp
 go_at_call 125;(with_reducible refine (Hz.out _ (Lau:Later w1 _)).mono ?_);rintro e wg ⟨rfl,rfl⟩
 try go_wp2_with fail
 refine hK.out _ _ (KF.out _ Lau) (λhHeld=>?_);clear hK K
 try simp only [ga,gs,gz,Act.put,sa,sz,ss]
 refine tk 10 ?_;refine tk 11 ?_;refine tk 12 ?_;refine tk 13 ?_;refine tk 14 ?_;refine tk 15 ?_;refine rd 16 λK hK=>?_
 simp only [ga,gs,gz]
 go_simp
 go_at_call 31;(with_reducible refine (Hq.out _ (Lau:Later w1 _)).mono ?_);rintro e wg ⟨rfl,qn,rfl⟩
 try go_wp2_with fail
 refine hK.out _ _ (KF.out _ Lau) (λhHeld=>?_);clear hK K
 try simp only [ga,gs,gz,Act.put,sa,sz,ss]
 refine tk 17 ?_;refine tk 18 ?_;clear KF;refine Zn1 krZ ?_ _;refine Zd1 ?_;go_wp2_with fail;go_ret;exact ⟨by (rw [HE.out]<;>rfl),Later.drewN ha.out _⟩
def SmallC (n:NetD) (w:Zp1) (e:Ending) (w':Zp1):Prop:=∃b,e=.returned (.bool b)/\(b=true->n.nodes.length<=300)/\Below w.heap.size w w'
set_option maxRecDepth 20000 in
theorem small_14 (A N P XS XC:Option Addr) (c d cp xc xd:Nat) (n:NetD) (ps:List Ten) (x:Ten) (w:Zp1) (hok:n.ok) (hR:NetR w A N n) (hP:Tns w P ps) (lP:ps.length<=1048576) (hX:TenIn w XS XC xc xd x):
  Calls Tryz.prog 20 #[.agg #[.slice A n.inn.length c,.slice N n.nodes.length d,.slice P ps.length cp,.slice XS x.s.length xc,.slice XC x.c.length xd]] w (SmallC n w):=by
 have hU:=hok.2.1;have hV:=hok.1;have lx1:=hX.l1;have lx2:=hX.l2;have hk:=Blk.new w 61 #[.slice A n.inn.length c,.slice N n.nodes.length d,.slice P ps.length cp,.slice XS x.s.length xc,.slice XC x.c.length xd];have hw:Later w (w.alloc (.cells #[.slice A n.inn.length c,.slice N n.nodes.length d,.slice P ps.length cp,.slice XS x.s.length xc,.slice XC x.c.length xd] 61)):=(Later.refl w).alloc _;obtain ⟨hJ,HR,HP,Hk,ho⟩:=zd5 hok hR hP hk hw;clear hok hR hP hk hw;clear hX;go_enter Tryz.func20,Tryz.ntmps20;go_wp2_with fail;generalize w.alloc (.cells #[.slice A n.inn.length c,.slice N n.nodes.length d,.slice P ps.length cp,.slice XS x.s.length xc,.slice XC x.c.length xd] 61)=w1 at *
 go_loopw [3,27] (λt i wx=>∃(k:Nat) (z:Int),k<=ps.length/\i=.int .i64 (k:Int)/\t=.int .i64 z/\0<=z/\z<=3145728+(k:Int)*2097153/\Later w1 wx) (λ_ i _=>ps.length-(intOf i).toNat)
 case atStart=>exact ⟨0,_,Zt _,rfl,rfl,by omega,by omega,Later.refl _⟩
 case round=>
  obtain ⟨k,z,hk,rfl,rfl,hC,hh,ha⟩:=hrel;have hp:(k:Int)*2097153<=1048576*2097153:=Int.mul_le_mul_of_nonneg_right oZ oZ
  by_cases hg:k<ps.length
  ·obtain ⟨b,off,S',sc,C',cc,rfl,-,p0,p1,hT⟩:=(HP.out.later (ho.out.trans ha)).at_ hg
   have t1:=hT.l1;have t2:=hT.l2;generalize Ly.got ps k=t at *;have hc:z+(1+(t.s.length:Int)+(t.c.length:Int))<=3145728+((k:Int)+1)*2097153:=by rw [Int.add_mul];omega
   have hl:z<=2199030000000:=by omega
   have hz:=ha.alloc (.cells #[.slice S' t.s.length sc,.slice C' t.c.length cc] 30);clear hT hh hp;obtain ⟨hj,hq,hB⟩:=zd3 hc ha hz;clear hc ha hz;go_wp2_with fail;go_roundw
   case rel=>exact ⟨k+1,_,by omega,by go_num,rfl,by omega,hj.out,hB.out⟩
   case measure=>simp [intOf];omega
  ·obtain rfl:k=ps.length:=by omega
   have hf:=ha.blk Hk.out;have y0:wr.cell? ⟨w.heap.size,0,none⟩=_:=hf.cell 0;have y1:wr.cell? ⟨w.heap.size,1,none⟩=_:=hf.cell 1;simp at y0 y1;have hl:z<=2199030000000:=by omega
   clear hh hp;have hs:=ho.out.trans ha;obtain ⟨hN,hq,hr⟩:=zd3 hf ha hs;clear hf ha hs;go_wp2_with fail;obtain ⟨wo,rfl⟩:∃wo,wo=wr:=⟨wr,rfl⟩
   go_loopw [3,46] (λt i wx=>∃(k:Nat) (z:Int),k<=n.nodes.length/\i=.int .i64 (k:Int)/\t=.int .i64 z/\3*(k:Int)<=z/\z<=2199030000000/\Later wo wx) (λ_ i _=>n.nodes.length-(intOf i).toNat)
   case atStart=>exact ⟨0,_,Zt _,rfl,rfl,by omega,hl,Later.refl _⟩
   case round=>
    obtain ⟨k,z,hk,rfl,rfl,hC,hh,ha⟩:=hrel
    by_cases hg:k<n.nodes.length
    ·obtain ⟨b,off,S,sc,J,ic,Q,qc,rfl,hd,-,-,-⟩:=HR.out.2.at_ hg
     have hb:=hJ.out.2.2 _ (gmZ hg);have hW:=hb.2.1;have hQ:=hb.2.2.1;have hM:=hb.2.2.2.1;have hu:=hb.2.2.2.2.1;have hy:=hd.2.2.2;generalize n.nodes[k]=v at *;have he:=hr.out.trans ha;obtain ⟨⟨y0,y1,y2,y3,y4,y5,y6,y7,y8,y9⟩,-⟩:=hd.below he;have hv:=he.alloc (.cells #[.int .i64 v.op.kind,.int .i64 v.op.k,.int .i64 v.op.width,.int .i64 v.op.step,.int .i64 v.op.side,.int .i64 v.op.frm,.int .i64 v.op.to,.slice S v.op.s.length sc,.slice J v.ins.length ic,.slice Q v.p.length qc] 127);have hE:=ha.alloc (.cells #[.int .i64 v.op.kind,.int .i64 v.op.k,.int .i64 v.op.width,.int .i64 v.op.step,.int .i64 v.op.side,.int .i64 v.op.frm,.int .i64 v.op.to,.slice S v.op.s.length sc,.slice J v.ins.length ic,.slice Q v.p.length qc] 127);obtain ⟨hO,hF,hI,hD,hS,hq⟩:=zd6 hd hb hy hu he ha;clear hd hb hy hu he ha;go_wp2_with fail;clear y0 y1 y2 y3 y4 y5 y6 y7 y8 y9;generalize wr.alloc (.cells #[.int .i64 v.op.kind,.int .i64 v.op.k,.int .i64 v.op.width,.int .i64 v.op.step,.int .i64 v.op.side,.int .i64 v.op.frm,.int .i64 v.op.to,.slice S v.op.s.length sc,.slice J v.ins.length ic,.slice Q v.p.length qc] 127)=w2 at *
     go_loop [3,64] (λt i=>∃(m:Nat) (z2:Int),m<=v.p.length/\i=.int .i64 (m:Int)/\t=.int .i64 z2/\z+3<=z2/\z2<=z+3+2097152+(m:Int)*1048577) (λ_ i=>v.p.length-(intOf i).toNat)
     case atStart=>exact ⟨0,_,Zt _,rfl,rfl,by omega,by omega⟩
     case round=>
      obtain ⟨m,z2,hm,rfl,rfl,hL,hi⟩:=hrel;have hn:(m:Int)*1048577<=1048576*1048577:=Int.mul_le_mul_of_nonneg_right oZ oZ
      by_cases ht:m<v.p.length
      ·obtain ⟨b5,o5,Ss,cs,rfl,-,hx,-⟩:=hI.out m ht
       have hA:=qa1 hv hx;have hH:=hD.out _ (gmZ ht);generalize v.p[m]=s at *;have hc:z2+(1+(s.length:Int))<=z+3+2097152+((m:Int)+1)*1048577:=by rw [Int.add_mul];omega
       have hl:z2<=3399000000000:=by omega
       clear hx hi hn;have hj:=zI hc;clear hc;go_wp2_with fail
       go_round
       case rel=>exact ⟨m+1,_,by omega,by go_num,rfl,by omega,hj.out⟩
       case measure=>simp [intOf];omega
      ·obtain rfl:m=v.p.length:=by omega
       by_cases h3:800<z2
       ·have d3:decide (800<z2)=true:=by simpa using h3
        clear h3 hn hi;go_wp2_with fail;go_ret;exact ⟨_,rfl,by simp,hv⟩
       ·have d3:decide (800<z2)=false:=by simpa using h3
        have hK:3*((k:Int)+1)<=z2:=by omega
        have hG:z2<=2199030000000:=by omega
        clear h3 hn hi;go_wp2_with fail;go_roundw
        case rel=>exact ⟨k+1,_,by omega,by go_num,rfl,hK,hG,hE⟩
        case measure=>simp [intOf];omega
    ·obtain rfl:k=n.nodes.length:=by omega
     go_wp2_with fail;go_ret;refine ⟨_,rfl,λh=>?_,hr.out.trans ha⟩;have h:z<=800:=by simpa using h
     omega
theorem qar {W:Zp1} {g:Nat} {t:TypeId} {v0 v1 v2 v3 v4:Value} (h:Blk W g t #[v0,v1,v2,v3,v4]):W.cell? ⟨g,0,none⟩=some v0/\W.cell? ⟨g,1,none⟩=some v1/\W.cell? ⟨g,2,none⟩=some v2/\W.cell? ⟨g,3,none⟩=some v3/\W.cell? ⟨g,4,none⟩=some v4:=
 ⟨h.cell 0,h.cell 1,h.cell 2,h.cell 3,h.cell 4⟩
set_option maxRecDepth 20000 in
theorem fits_14 (A N P XS XC:Option Addr) (c d cp xc xd:Nat) (n:NetD) (ps:List Ten) (x:Ten) (w:Zp1) (hok:n.ok) (hR:NetR w A N n) (hd:n.nodes.length<=d) (hc:n.inn.length<=c) (hcm:c<=9223372036854775807) (hP:Tns w P ps) (lP:ps.length<=1048576) (hX:TenIn w XS XC xc xd x):
  Calls Tryz.prog 22 #[.agg #[.slice A n.inn.length c,.slice N n.nodes.length d,.slice P ps.length cp,.slice XS x.s.length xc,.slice XC x.c.length xd]] w λe w'=>e=.returned (.int .i64 (Pn.fits n ps x))/\Below w.heap.size w w':=by
 have HF:=hok.1;have hk:=Blk.new w 61 #[.slice A n.inn.length c,.slice N n.nodes.length d,.slice P ps.length cp,.slice XS x.s.length xc,.slice XC x.c.length xd];have h3:Later w (w.alloc (.cells #[.slice A n.inn.length c,.slice N n.nodes.length d,.slice P ps.length cp,.slice XS x.s.length xc,.slice XC x.c.length xd] 61)):=(Later.refl w).alloc _;obtain ⟨hE,HR,HP,Hk,hU,HX⟩:=zd6 hok hR hP hk h3 hX;clear hok hR hP hk h3 hX;go_enter Tryz.func22,Tryz.ntmps22;go_upto_region 1 with fail;generalize w.alloc (.cells #[.slice A n.inn.length c,.slice N n.nodes.length d,.slice P ps.length cp,.slice XS x.s.length xc,.slice XC x.c.length xd] 61)=w1 at *;obtain ⟨y0,y1,y2,y3,y4⟩:=qar Hk.out;go_wp2_with fail;refine (ref_14 A N c d n w1 hE.out (HR.out.below hU.out (lrZ _))).mono ?_;rintro e w2 ⟨N',d',rfl,h5,Hj,HB,hO⟩;have h1:=hU.out.call hO;have hZ:=(show Later w1 w2 from hO).blk Hk.out;clear hO y0 y1 y2 y3 y4;obtain ⟨Hc,hV,h0⟩:=zd3 h1 hZ h5;clear h1 hZ h5;go_wp2_with fail;refine (qeC A N' c d' n w2 hE.out h0.out Hj hc hcm).mono ?_;rintro e w3 ⟨Hd,hN⟩;have hu:Later w2 w3:=Hd;have hC:=Hc.out.trans hu;have hy:=hu.blk hV.out;clear Hd Hk hV Hc h0;rcases hN with ⟨hv,g,rfl,-,-⟩|⟨hv,rfl⟩
 rotate_left
 ·have HE:=zI (show Pn.fits n ps x=Nt.check n by unfold Pn.fits;rw [if_pos hv])
  have d2:(Nt.check n != 0)=true:=by simpa using hv
  clear hv;generalize Nt.check n=ge at *;obtain ⟨hD,hK,Hn⟩:=zd3 hC hy hu;clear hC hy hu;go_wp2_with fail;go_ret;exact ⟨by (rw [HE.out]<;>rfl),hD.out⟩
 have HC:=zI hv;clear hv;have hL:∀j (hj:j<n.nodes.length),n.nodes[j].p.length<=1048576:=λj hj=>(hE.out.2.2 _ (gmZ hj)).2.2.2.1
 obtain ⟨y0,y1,y2,y3,y4⟩:=qar hy;obtain ⟨hD,hK,Hn,Hy⟩:=zd4 hC hy hu hL;clear hC hy hu hL;go_wp2_with fail;clear y0 y1 y2 y3 y4
 go_loopw [6,26] (λt i wx=>∃k:Nat,k<=n.nodes.length/\i=.int .i64 (k:Int)/\t=.int .i64 (Pn.from_ n.nodes k:Int)/\Pn.from_ n.nodes k<=ps.length/\Pn.parOk ps (Nt.params n) (Pn.from_ n.nodes k)=true/\Later w3 wx) (λ_ i _=>n.nodes.length-(intOf i).toNat)
 case atStart=>exact ⟨0,Zt _,rfl,rfl,Zt _,rfl,Later.refl _⟩
 case round=>
  obtain ⟨k,hk,rfl,rfl,hF,hp,hh⟩:=hrel
  by_cases hz:k<n.nodes.length
  ·obtain ⟨b,off,S,sc,J,ic,Q,qc,rfl,hH,-,-,-⟩:=HR.out.2.at_ hz
   have hn:=hE.out.2.2 _ (gmZ hz);have hL:=hn.2.2.2.1;have hW:=hn.2.2.2.2.1;have h4:=hH.2.2.2;have Hh:=λm hm=>Pn.params_at (ns:=n.nodes) (m:=m) hz hm
   have Hg:=λm hm=>Pn.params_lt (ns:=n.nodes) (m:=m) hz hm
   have Hb:=Pn.from_succ hz;generalize n.nodes[k]=v at *;have hI:=hD.out.trans hh;obtain ⟨⟨y0,y1,y2,y3,y4,y5,y6,y7,y8,y9⟩,-⟩:=hH.below hI;have hY:=hI.alloc (.cells #[.int .i64 v.op.kind,.int .i64 v.op.k,.int .i64 v.op.width,.int .i64 v.op.step,.int .i64 v.op.side,.int .i64 v.op.frm,.int .i64 v.op.to,.slice S v.op.s.length sc,.slice J v.ins.length ic,.slice Q v.p.length qc] 127);have h9:=hh.alloc (.cells #[.int .i64 v.op.kind,.int .i64 v.op.k,.int .i64 v.op.width,.int .i64 v.op.step,.int .i64 v.op.side,.int .i64 v.op.frm,.int .i64 v.op.to,.slice S v.op.s.length sc,.slice J v.ins.length ic,.slice Q v.p.length qc] 127);obtain ⟨Hz,Hq,Hl,Hi,HA,h8,Ho,Hv,hQ⟩:=zd9 hH hn h4 hW hI hh Hh Hg Hb;obtain ⟨Hr,Hp,h7⟩:=zd3 hp hY h9;clear hH hn h4 hW hI hh Hh Hg Hb hp hY h9;go_wp2_with fail;clear y0 y1 y2 y3 y4 y5 y6 y7 y8 y9;generalize wr.alloc (.cells #[.int .i64 v.op.kind,.int .i64 v.op.k,.int .i64 v.op.width,.int .i64 v.op.step,.int .i64 v.op.side,.int .i64 v.op.frm,.int .i64 v.op.to,.slice S v.op.s.length sc,.slice J v.ins.length ic,.slice Q v.p.length qc] 127)=w4 at *;generalize Pn.from_ n.nodes k=fr at *;obtain ⟨wo,rfl⟩:∃wo,wo=wr:=⟨wr,rfl⟩
   go_loopw [6,33] (λt i wx=>∃m:Nat,m<=v.p.length/\i=.int .i64 (m:Int)/\t=.int .i64 ((fr+m:Nat):Int)/\fr+m<=ps.length/\Pn.parOk ps (Nt.params n) (fr+m)=true/\Later w4 wx) (λ_ i _=>v.p.length-(intOf i).toNat)
   case atStart=>exact ⟨0,Zt _,rfl,rfl,hF,Hr.out,Later.refl _⟩
   case round=>
    obtain ⟨m,hm,rfl,rfl,Hm,hs,ha⟩:=hrel;have hb:=Hp.out.trans ha;obtain ⟨y0,y1,y2,y3,y4⟩:=qar ((h7.out.trans ha).blk hK.out)
    by_cases hG:m<v.p.length
    ·obtain ⟨b5,o5,Ss,cs,rfl,-,HH,hx,HG,HD⟩:=(Hl.out.below hb (lrZ _)) m hG
     have Ht:=Hi.out _ (gmZ hG);have hS:=Ho.out m hG;have ht:=Hv.out m hG;generalize v.p[m]=s at *
     by_cases h6:ps.length<=fr+m
     ·have HE:=zI (Pn.fits_few (x:=x) HC.out (show ps.length≠(Nt.params n).length by unfold Nt.params;omega))
      have q1:((fr+m:Nat):Int)≥(ps.length:Int):=by omega
      have q2:decide (((fr+m:Nat):Int)≥(ps.length:Int))=true:=by simp;omega
      clear h6 hS ht;obtain ⟨hi,hA,hJ,Hs⟩:=zd4 hb ha hs hx;clear hb ha hs hx;go_wp2_with fail;go_ret;exact ⟨by (rw [HE.out]<;>rfl),hi.out⟩
     have q1:((fr+m:Nat):Int)<(ps.length:Int):=by omega
     have q0:fr+m<ps.length:=by omega
     have q2:decide ((ps.length:Int)<=((fr+m:Nat):Int))=false:=by simp;omega
     obtain ⟨b6,o6,T',tc,C',cc,rfl,-,p0,p1,hT⟩:=(HP.out.later hb).at_ q0;have hq:=λh=>Pn.fits_bad (ps:=ps) (x:=x) (k:=fr+m) HC.out ht h
     have hg:=λh=>Pn.parOk_succ hs h
     rw [show (Nt.params n).getD (fr+m) []=s from hS] at hq hg;clear hS ht h6;generalize Ly.got ps (fr+m)=t at *;have hf:=qeT T' C' tc cc Ss cs t s wr hT hx oZ;obtain ⟨hi,hA,hJ,Hs,hM,hw,HT⟩:=zd7 hb ha hs hx hq hg hT;clear hb ha hs hx hq hg hT;cases htr:Pn.tenIs t s
     ·have HE:=zI (hM.out htr)
      rw [htr] at hf;have hr:=zI hf;clear hf;clear htr;go_wp2_with fail;refine (hr.out).mono ?_;rintro e w5 ⟨rfl,ho⟩;go_wp2_with fail;go_ret;exact ⟨by (rw [HE.out]<;>rfl),hi.out.call ho⟩
     ·have h2:=hw.out htr
      rw [htr] at hf;obtain ⟨hr,Hx⟩:=zd2 hf h2;clear hf h2;clear htr;go_wp2_with fail;refine (hr.out).mono ?_;rintro e w5 ⟨rfl,ho⟩;have Ha:=hA.out.call ho;clear ho;have Hu:=zI Ha;clear Ha;go_wp2_with fail;go_roundw
      case rel=>exact ⟨m+1,by omega,by go_num,by go_num,by omega,Hx.out,Hu.out⟩
      case measure=>simp [intOf];omega
    ·obtain rfl:m=v.p.length:=by omega
     have Hf:=h7.out.trans ha;obtain ⟨Hw,hJ,hi⟩:=zd3 Hf hs hb;clear Hf hs hb;go_wp2_with fail;go_roundw
     case rel=>exact ⟨k+1,by omega,by go_num,by rw [hQ.out],by rw [hQ.out];exact Hm,by rw [hQ.out];exact hJ.out,Hw.out⟩
     case measure=>simp [intOf];omega
  ·obtain rfl:k=n.nodes.length:=by omega
   rw [Pn.from_all] at hF hp ⊢;have hb:=hD.out.trans hh;obtain ⟨y0,y1,y2,y3,y4⟩:=qar (hh.blk hK.out);have hB:(n.nodes.flatMap (·.p)).length=(Nt.params n).length:=rfl;have hp:Pn.parOk ps (Nt.params n) (Nt.params n).length=true:=hp;rw [hB] at hF ⊢;clear hB
   by_cases hl:ps.length=(Nt.params n).length
   case neg=>
    have HE:=zI (Pn.fits_few (x:=x) HC.out hl);generalize (Nt.params n).length=pl at *;have q2:((pl:Int) != (ps.length:Int))=true:=by simp;omega
    clear hl hp;obtain ⟨hi,h8⟩:=zd2 hb hh;clear hb hh;go_wp2_with fail;go_ret;exact ⟨by (rw [HE.out]<;>rfl),hi.out⟩
   have he:=Pn.fits_end (x:=x) HC.out hl hp;have q2:(((Nt.params n).length:Int) != (ps.length:Int))=false:=by simp;omega
   clear hp hF hl;generalize (Nt.params n).length=pl at *;have hf:=qeT XS XC xc xd A c x n.inn wr (HX.out.later hb) (HR.out.1.below hb (lrZ _)) oZ;obtain ⟨hi,h8,He⟩:=zd3 hb hh he;clear hb hh he;cases htr:Pn.tenIs x n.inn
   ·have HE:=zI (He.out.trans (by rw [htr]<;>rfl))
    rw [htr] at hf;have hr:=zI hf;clear hf;clear htr He;go_wp2_with fail;refine (hr.out).mono ?_;rintro e w5 ⟨rfl,ho⟩;go_wp2_with fail;go_ret;exact ⟨by (rw [HE.out]<;>rfl),hi.out.call ho⟩
   ·have HE:=zI (He.out.trans (by rw [htr]<;>rfl))
    rw [htr] at hf;have hr:=zI hf;clear hf;clear htr He;go_wp2_with fail;refine (hr.out).mono ?_;rintro e w5 ⟨rfl,ho⟩;go_wp2_with fail;go_ret;exact ⟨by (rw [HE.out]<;>rfl),hi.out.call ho⟩
open Go.ChangeShapes Go.WideShapes Go.Deep Go.RowKit
theorem fix_one:Tryz.prog.cellsOf 22=1:=by kernel_rfl
theorem qgE:Tryz.prog.cellsOf 30=2:=by kernel_rfl
theorem qgF:Tryz.prog.underlying 30=some (.struct (Tryz.prog.fieldsOf 30)):=by kernel_rfl
theorem ten_two:(Tryz.prog.fieldsOf 30).size=2:=by kernel_rfl
theorem ten_f0:((Tryz.prog.fieldsOf 30)[0]?).map (λf=>(f.type,f.offset,Tryz.prog.cellsOf f.type))=some (24,0,1):=by kernel_rfl
theorem ten_f1:((Tryz.prog.fieldsOf 30)[1]?).map (λf=>(f.type,f.offset,Tryz.prog.cellsOf f.type))=some (28,1,1):=by kernel_rfl
theorem qgG {H:Type} {enc:TypeId × Value->H} {W:Zp1} {base:Nat} {spare:Nat->Bool} {held:Bool} {fuel:Nat} {v:Value} {x:DataW H × List MemPlace}
  (h:DataW.trod enc Tryz.prog W base spare held fuel 28 [v]=some x) (hz:Rows.uptoBulk x.1<=1048576):
  ∃A c zs,v=.slice A zs.length c/\Ints .i64 W A zs/\zs.length<=c/\c<=9223372036854775807/\zs.length<=1048576/\∀z∈zs,Fx.In z:=by
 obtain ⟨A,c,zs,rfl,hl,hc,hI,hw⟩:=qdX Tryz.underlying28 Tryz.underlying22 fix_one h;refine ⟨A,c,zs,rfl,hI,hc,?_,?_,λz hz=>qdd (hw z hz)⟩
 ·rcases qaC Tryz.underlying28 h hz with e|⟨a,len,cap,e,_,hm,_⟩
  ·injection e with _ _ e;omega
  ·injection e with _ _ e;unfold maxLen at hm;omega
 ·rcases qaC Tryz.underlying28 h hz with e|⟨a,len,cap,e,_,_,hb,_⟩
  ·injection e with _ e _;rw [e];exact Zt _
  ·have e2:zs.length=len:=by simp at e;exact e.2.1
   rw [e2];exact hb
set_option maxRecDepth 100000 in
theorem qeU {H:Type} {enc:TypeId × Value->H} {W:Zp1} {base:Nat} {spare:Nat->Bool} {held:Bool} {fuel:Nat} {v0 v1:Value} {x:DataW H × List MemPlace}
  (hf:DataW.trod enc Tryz.prog W base spare held fuel 30 [v0,v1]=some x) (hz:Rows.uptoBulk x.1<=1048576):
  ∃(S C:Option Addr) (c d:Nat) (t:Ten),v0=.slice S t.s.length c/\v1=.slice C t.c.length d/\TenIn W S C c d t:=by
 obtain ⟨ys,n,_,hx,_,ha,hg⟩:=DataW.trod_struct qgF hf;rw [ten_two] at ha;obtain ⟨y0,y1,rfl⟩:=list2 ha;rw [hx] at hz;obtain ⟨f0,e0,t0⟩:=Option.map_eq_some_iff.1 ten_f0;simp only [Prod.mk.injEq] at t0;have h0:=hg 0 f0 e0;rw [t0.2.2,t0.2.1,t0.1] at h0;simp at h0;obtain ⟨f1,e1,t1⟩:=Option.map_eq_some_iff.1 ten_f1;simp only [Prod.mk.injEq] at t1;have h1:=hg 1 f1 e1;rw [t1.2.2,t1.2.1,t1.1] at h1;simp at h1;have hb:Rows.uptoBulk y0.1<=1048576:=by simp [Rows.uptoBulk,Rows.uptoBulkAll] at hz;omega
 have hc:Rows.uptoBulk y1.1<=1048576:=by simp [Rows.uptoBulk,Rows.uptoBulkAll] at hz;omega
 obtain ⟨S,c,zs,rfl,a1,a2,a3,a4,a5⟩:=qbi Tryz.underlying24 h0 hb;obtain ⟨C,d,cs,rfl,b1,b2,b3,b4,b5⟩:=qgG h1 hc;exact ⟨S,C,c,d,⟨zs,cs⟩,rfl,rfl,⟨⟨a1,b1⟩,a2,a3,b2,b3,a4,b4,b5⟩⟩
structure TenQ where
 t:Ten
 S:Option Addr
 c:Nat
 C:Option Addr
 d:Nat
instance:Inhabited TenQ:=⟨⟨Ly.none_,none,0,none,0⟩⟩
theorem qgH {H:Type} {enc:TypeId × Value->H} {W:Zp1} {base:Nat} {spare:Nat->Bool} {held:Bool} {fuel:Nat} {v:Value} {x:DataW H × List MemPlace}
  (h:DataW.trod enc Tryz.prog W base spare held fuel 27 [v]=some x) (hz:Rows.uptoBulk x.1<=1048576):
  ∃A c ts,v=.slice A ts.length c/\Tns W A ts/\ts.length<=c/\c<=9223372036854775807/\ts.length<=1048576:=by
 rcases qaC Tryz.underlying27 h hz with rfl|⟨a,len,cap,rfl,hl,hm,hb,hi⟩
 ·exact ⟨none,0,[],rfl,Tns.nil _ _,by simp,by omega,by simp⟩
 ·rw [qgE] at hi
  have key:∀i,i<len->∃q:TenQ,W.cell? ((a.add (i*2)).add 0)=some (.slice q.S q.t.s.length q.c)/\W.cell? ((a.add (i*2)).add 1)=some (.slice q.C q.t.c.length q.d)/\TenIn W q.S q.C q.c q.d q.t:=λi he=>by
   obtain ⟨cs',m,y,hc,ht,hw⟩:=hi i he;obtain ⟨_,ha,hd⟩:=World.cells?_some hc;obtain ⟨v0,v1,rfl⟩:=list2 ha;obtain ⟨S,C,c,d,t,rfl,rfl,hT⟩:=qeU ht hw;exact ⟨⟨t,S,c,C,d⟩,hd 0 oZ,hd 1 oZ,hT⟩
  obtain ⟨L,hL,hq⟩:=qbK key;refine ⟨some a,cap,L.map (·.t),by simp [hL],λj hj=>?_,by simpa [hL] using hl,by unfold maxLen at hm;omega,by simp [hL];exact hb⟩;rw [List.length_map] at hj;obtain ⟨h1,h2,h3⟩:=hq j hj;obtain ⟨h0,_,_⟩:=hq 0 oZ;obtain ⟨b,off,rfl⟩:=qdx (v:=.slice L[0].S L[0].t.s.length L[0].c) (show W.cell? a=_ by simpa [Addr.add] using h0);simp only [qaN,Zx] at h1 h2;rw [List.getElem_map];exact ⟨b,off,_,_,_,_,rfl,Zj1 _ _ h1,h1,h2,h3⟩
open Go.ChangeShapes Go.WideShapes Go.Deep Go.RowKit
theorem qeD:Tryz.prog.cellsOf 61=5:=by kernel_rfl
theorem qcK:Tryz.prog.underlying 61=some (.struct (Tryz.prog.fieldsOf 61)):=by kernel_rfl
theorem qeE:(Tryz.prog.fieldsOf 61).size=3:=by kernel_rfl
theorem pcase_f0:((Tryz.prog.fieldsOf 61)[0]?).map (λf=>(f.type,f.offset,Tryz.prog.cellsOf f.type))=some (59,0,2):=by kernel_rfl
theorem pcase_f1:((Tryz.prog.fieldsOf 61)[1]?).map (λf=>(f.type,f.offset,Tryz.prog.cellsOf f.type))=some (27,2,1):=by kernel_rfl
theorem pcase_f2:((Tryz.prog.fieldsOf 61)[2]?).map (λf=>(f.type,f.offset,Tryz.prog.cellsOf f.type))=some (30,3,2):=by kernel_rfl
theorem list5 {α:Type} {l:List α} (h:l.length=5):∃a b c d e,l=[a,b,c,d,e]:=by
 match l,h with
 | [a,b,c,d,e],_=>exact ⟨a,b,c,d,e,rfl⟩
theorem qgI {H:Type} {enc:TypeId × Value->H} {W:Zp1} {base:Nat} {spare:Nat->Bool} {held:Bool} {fuel:Nat} {v0 v1:Value} {x:DataW H × List MemPlace}
  (hf:DataW.trod enc Tryz.prog W base spare held fuel 59 [v0,v1]=some x) (hz:Rows.uptoBulk x.1<=1048576):
  ∃A N c1 c2 n,v0=.slice A (List.length (NetD.inn n)) c1/\v1=.slice N n.nodes.length c2/\n.inn.length<=c1/\c1<=9223372036854775807/\n.nodes.length<=c2/\c2<=9223372036854775807/\NetR W A N n/\n.fits:=by
 obtain ⟨ys,n,_,hx,_,ha,hg⟩:=DataW.trod_struct qgC hf;rw [net_two] at ha;obtain ⟨y0,y1,rfl⟩:=list2 ha;rw [hx] at hz;obtain ⟨f0,e0,t0⟩:=Option.map_eq_some_iff.1 net_f0;simp only [Prod.mk.injEq] at t0;have h0:=hg 0 f0 e0;rw [t0.2.2,t0.2.1,t0.1] at h0;simp at h0;obtain ⟨f1,e1,t1⟩:=Option.map_eq_some_iff.1 net_f1;simp only [Prod.mk.injEq] at t1;have h1:=hg 1 f1 e1;rw [t1.2.2,t1.2.1,t1.1] at h1;simp at h1;have hb:Rows.uptoBulk y0.1<=1048576:=by simp [Rows.uptoBulk,Rows.uptoBulkAll] at hz;omega
 have hc:Rows.uptoBulk y1.1<=1048576:=by simp [Rows.uptoBulk,Rows.uptoBulkAll] at hz;omega
 obtain ⟨A,c1,zs,rfl,a1,a2,a3,a4,a5⟩:=qbi Tryz.underlying24 h0 hb;obtain ⟨N,c2,ns,rfl,b1,b2,b3,b4,b5⟩:=qfs h1 hc;exact ⟨A,N,c1,c2,⟨zs,ns⟩,rfl,rfl,a2,a3,b2,b3,⟨a1,b1⟩,a4,b4,a5,b5⟩
set_option maxRecDepth 100000 in
theorem qft {H:Type} {enc:TypeId × Value->H} {W:Zp1} {r:Reach} {b0 base:Nat} {spare:Nat->Bool} {held:Bool} {v:Value} {d:DataW H} {p:List MemPlace}
  (hv:Value.okWide Tryz.prog W r b0 61 v) (h:DataW.Trod enc Tryz.prog W base spare held 61 v d p) (hz:Rows.uptoBulk d<=1048576):
  ∃A N P XS XC c d cp xc xd n ps x,v=.agg #[.slice A (List.length (NetD.inn n)) c,.slice N n.nodes.length d,.slice P (List.length ps) cp,.slice XS (List.length (Ten.s x)) xc,.slice XC x.c.length xd]/\
   n.ok/\NetR W A N n/\n.nodes.length<=d/\n.inn.length<=c/\c<=9223372036854775807/\Tns W P ps/\ps.length<=1048576/\ps.length<=cp/\cp<=9223372036854775807/\(P=none->cp=0)/\TenIn W XS XC xc xd x:=by
 obtain ⟨cs,rfl,he⟩:=okWide_struct qcK hv;obtain ⟨l⟩:=cs;obtain ⟨v0,v1,v2,v3,v4,rfl⟩:=list5 (he.trans qeD);obtain ⟨fuel,hf⟩:=h;obtain ⟨ys,n,_,hx,_,ha,hg⟩:=DataW.trod_struct qcK hf;rw [qeE] at ha;obtain ⟨y0,y1,y2,rfl⟩:=list3 ha;simp only [Prod.mk.injEq,List.map_cons,List.map_nil] at hx;obtain ⟨rfl,_⟩:=hx;obtain ⟨f0,e0,t0⟩:=Option.map_eq_some_iff.1 pcase_f0;simp only [Prod.mk.injEq] at t0;have h0:=hg 0 f0 e0;rw [t0.2.2,t0.2.1,t0.1] at h0;simp [Value.cells] at h0;have hd:Rows.uptoBulk y0.1<=1048576:=by simp [Rows.uptoBulk,Rows.uptoBulkAll] at hz;omega
 obtain ⟨f1,e1,t1⟩:=Option.map_eq_some_iff.1 pcase_f1;simp only [Prod.mk.injEq] at t1;have h1:=hg 1 f1 e1;rw [t1.2.2,t1.2.1,t1.1] at h1;simp [Value.cells] at h1;have hb:Rows.uptoBulk y1.1<=1048576:=by simp [Rows.uptoBulk,Rows.uptoBulkAll] at hz;omega
 obtain ⟨f2,e2,t2⟩:=Option.map_eq_some_iff.1 pcase_f2;simp only [Prod.mk.injEq] at t2;have h2:=hg 2 f2 e2;rw [t2.2.2,t2.2.1,t2.1] at h2;simp [Value.cells] at h2;have hc:Rows.uptoBulk y2.1<=1048576:=by simp [Rows.uptoBulk,Rows.uptoBulkAll] at hz;omega
 obtain ⟨A,N,c1,c2,n,rfl,rfl,a2,a3,a4,a5,a6,a7⟩:=qgI h0 hd;obtain ⟨P,cp,ps,rfl,p1,p2,p3,p4⟩:=qgH h1 hb
 have pn:P=none->cp=0:=by
  rcases qaC Tryz.underlying27 h1 hb with e|⟨a,len,cap,e,_⟩
  ·injection e with e1 e2 e3
   intro;exact e3
  ·injection e with e1 e2 e3
   intro e;rw [e1] at e;cases e
 obtain ⟨XS,XC,xc,xd,x,rfl,rfl,hT⟩:=qeU h2 hc;exact ⟨A,N,P,XS,XC,c1,c2,cp,xc,xd,n,ps,x,rfl,a7.ok,a6,a4,a2,a3,p1,p4,p2,p3,pn,hT⟩
end Go.Proofs.YtbnnpkcfifejmaaGreat
