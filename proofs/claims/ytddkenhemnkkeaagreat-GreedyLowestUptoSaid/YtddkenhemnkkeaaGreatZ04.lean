/- Lemmas for the statements of this seat: contracts of functions and the plain laws. -/
import Derived.Deep.DeepCutAuto
import Derived.Deep.RegionHeld3
import Derived.Maps.AppendAt
import Derived.Test.YtddkenhemnkkeaaGreatZ03
set_option linter.unusedVariables false
open Go.IntKind renaming i64 → iQ
open Go.Value renaming int → nQ, slice → sQ
open List renaming take_succ_eq_append_getElem → Zb, replicate → Zc, drop_eq_getElem_cons → Zd, length_append → Ze, all_eq_true → Zf, take_length → Zg, mem_of_mem_take → Zh, getElem?_eq_none → Zi, flatMap_append → Zj, getElem?_toArray → Zk, getElem?_append_right → Zl, getElem?_append_left → Zm, take_append_drop → Zn, length_take → Zo, mem_of_mem_drop → Zp, length_drop → Zq, getElem?_set_self → Zr, getElem?_set_ne → Zs
open Nat renaming zero_le → Zt, succ_mul → Zu, le_trans → Zv, zero_add → Zw, add_zero → Zx, le_succ → Zy
open Bool renaming and_eq_true → Zz
open Go.Value renaming int → Za1, slice → Zb1
open Go.IntWalk renaming i64_in → Zc1
open Go.NoPanic renaming normal → Zd1
open Go.RowKit.Below renaming refl → Ze1
open Go.AllReadyH renaming cons → Zf1, nil → Zg1
open Go.World renaming size_alloc → Zh1, cell?_of_block → Zi1, block_lt_of_cell? → Zj1
open Go renaming bodyPost_ret → Zk1, wp_region_held_drew → Zl1, wp_region_noPanic → Zm1, wpAnyH_done → Zn1, wpAnyH_ready → Zo1, World → Zp1
open Go.Proofs.Tryz
namespace Go.Proofs.YtddkenhemnkkeaaGreat
set_option maxHeartbeats 16000000
set_option maxRecDepth 20000
open Go.RowKit
theorem qeQ {L:List Value} {o:Nat} {v:Value} {r:List Value} (h:o+(v::r).length<=L.length):splice (L.set o v) (o+1) r=splice L o (v::r):=by
 simp only [List.length_cons] at h;unfold splice
 have e1:(L.set o v).take (o+1)=L.take o++[v]:=by
  rw [Zb soZ,List.take_set_of_le (lrZ _)];simp
 rw [e1,List.drop_set_of_lt oZ];simp [Nat.add_assoc,Nat.add_comm 1]
theorem qaj {g:Nat} {t:TypeId}:∀(vs:List Value) (o:Nat) (w:Zp1) (L:List Value),Blk w g t L.toArray->o+vs.length<=L.length->Blk (w.setCells g o vs) g t (splice L o vs).toArray
 | [],o,w,L,h,_=>by rw [qeM];exact h
 | v::r,o,w,L,h,hl=>by
  rw [←qeQ hl];refine qaj r (o+1) _ _ ?_ (by simp at hl ⊢;omega);have:=h.aU o v;simpa using this
theorem qaL {S:Nat->Prop} {g:Nat} (hg:S g):∀(vs:List Value) (o:Nat) (w0 w:Zp1),Fr S w0 w->Fr S w0 (w.setCells g o vs)
 | [],_,_,_,h=>h
 | v::r,o,w0,w,h=>qaL hg r (o+1) w0 _ (h.setCell (λ_=>hg) v)
theorem qh7 {S:Nat->Prop} {w w1:Zp1} (h:Fr S w w1):∀(vs:List Value) (o:Nat),Fr S w (w1.setCells w.heap.size o vs)
 | [],_=>h
 | v::r,o=>qh7 (h.setCell (p:=⟨w.heap.size,o,none⟩) (λq=>absurd q (Nat.lt_irrefl _)) v) r (o+1)
theorem Blk.shape {w:Zp1} {g:Nat} {t:TypeId} {cs:Array Value} (h:Blk w g t cs):w.shape? g=some (t,cs.size):=by
 unfold Blk at h;simp [World.shape?,h]
theorem Blk.own {w:Zp1} {B g n:Nat} {t:TypeId} {L:List Value} {xs:List Value} (h:Blk w g t L.toArray) (hB:B<=g) (hn:xs.length=n) (hl:n<=L.length) (hm:L.length<=maxLen) (ht:L.take n=xs) {c:Nat} (hc:c=L.length):
  w.ownsRow B t 1 (sQ (some ⟨g,0,none⟩) n c) n xs:=by
 subst hc;exact ⟨by omega,.inr ⟨g,_,_,rfl,hB,h,hl,hm,by simp,by simpa using ht⟩⟩
def qh8 (B:Nat) (t:TypeId) (v:Value) (zs:List Int) (w:Zp1) (e:Ending) (w':Zp1):Prop:=
 ∃v',e=.returned v'/\w'.ownsRow B t 1 v' zs.length (zs.map (Za1 iQ))/\Fr (λb=>v.ownBlock=some b) w w'/\(v'.ownBlock=v.ownBlock∨v'.ownBlock=some w.heap.size)
theorem qdw (A X Y B:List Value) (h:X.length=Y.length):splice (A++(X++B)) A.length Y=A++(Y++B):=by
 unfold splice;rw [List.take_append_of_le_length (lrZ _),Zg,←h,←Ze,←List.append_assoc A X B,List.drop_left]
theorem ins_a {Z D:List Value} {x:Value} {i:Nat} (hi:i<Z.length) (hD:1<=D.length):splice (splice (Z++D) (i+1) (Z.drop i)) i [x]=Z.take i++x::Z.drop i++D.drop 1:=by
 obtain ⟨d,D',rfl⟩:∃d D',D=d::D':=by cases D with|nil=>simp at hD|cons d D'=>exact ⟨d,D',rfl⟩
 obtain ⟨A,b,B,rfl,rfl⟩:∃A b B,Z=A++b::B/\i=A.length:=⟨Z.take i,Z[i],Z.drop (i+1),by rw [←Zd hi,Zn],by simp;omega⟩
 rw [List.drop_left,List.take_left];have e1:A++b::B++d::D'=(A++[b])++((B++[d])++D'):=by simp
 have e2:A.length+1=(A++[b]).length:=by simp
 rw [e1,e2,qdw _ _ (b::B) _ sZ];have e3:A++[b]++(b::B++D')=A++([b]++(b::B++D')):=by simp
 rw [e3,qdw _ [b] [x] _ rfl];simp
theorem ins_b {Z Z1 Z2:List Value} {x:Value} {i:Nat} (hi:i<Z.length) (h1:Z1.length=Z.length+1-i):splice (splice (Z.take i++Z1++Z2) i [x]) (i+1) (Z.drop i)=Z.take i++x::Z.drop i++Z2:=by
 obtain ⟨d,D,rfl⟩:∃d D,Z1=d::D:=by cases Z1 with|nil=>simp at h1;omega|cons d D=>exact ⟨d,D,rfl⟩
 obtain ⟨A,B,rfl,rfl⟩:∃A B,Z=A++B/\i=A.length:=⟨Z.take i,Z.drop i,(Zn _ _).symm,by simp;omega⟩
 rw [List.drop_left,List.take_left];have e1:A++d::D++Z2=A++([d]++(D++Z2)):=by simp
 rw [e1,qdw _ [d] [x] _ rfl];have e2:A++([x]++(D++Z2))=(A++[x])++(D++Z2):=by simp
 have e3:A.length+1=(A++[x]).length:=by simp
 rw [e2,e3,qdw _ _ B _ (by simp at h1;omega)];simp
theorem qcs {zs:List Int} {x:Int} {i:Nat} (h:i<=zs.length):(zs.take i++x::zs.drop i).length=zs.length+1:=by simp;omega
theorem Blk.mJ {w:Zp1} {g:Nat} {t:TypeId} {L xs:List Value} {n:Nat} (h:Blk w g t L.toArray) (ht:L.take n=xs):∀j v,xs[j]? = some v->w.cell? ⟨g,0+j,none⟩=some v:=λj v hj=>by
 rw [Zw,h.cell j];subst ht;rw [List.getElem?_take] at hj
 split at hj
 ·simpa using hj
 ·cases hj
theorem qea {zs:List Int}:∀v∈zs.map (Za1 iQ),v.oneCell'=true:=λv hv=>by
 obtain ⟨x,_,rfl⟩:=List.mem_map.1 hv
 rfl
theorem qg2 (B:Nat) (v:Value) (zs:List Int) (x:Int) (i vb:Nat) (w:Zp1) (hi:i<=zs.length) (hn:zs.length<=1099511627776) (hB:B<=w.heap.size) (hown:w.ownsRow B 3 1 v zs.length (zs.map (Za1 iQ))) (hv:Blk w vb 3 #[nQ iQ x]) (hvb:v.ownBlock≠some vb):
  Calls prog 142 #[v,nQ iQ i,sQ (some ⟨vb,0,none⟩) 1 1] w (qh8 B 3 v (zs.take i++x::zs.drop i) w):=by
 have hf:∀j u,[Za1 iQ x][j]? = some u->w.cell? ⟨vb,0+j,none⟩=some u:=λj u hj=>by
  match j,hj with
  | 0,hj=>simp at hj;subst hj;rw [hv.cell];rfl
 have hl:∀u∈[Za1 iQ x],u.oneCell'=true:=λu hu=>by simp at hu;subst hu;rfl
 have hH:maxLen=9223372036854775807:=rfl;rcases hown.2 with ⟨rfl,h0⟩|⟨g,cap,cur,rfl,hA,hh,hL,hy,hw,hI⟩
 ·have hz:zs=[]:=List.eq_nil_of_length_eq_zero h0
  subst hz;obtain rfl:i=0:=by simpa using hi
  refine (Any2.slices_Insert_int_end_grow qcG none 0 0 vb 0 1 1 [] [nQ iQ x] w oZ oZ oZ oZ rfl rfl (λ_=>rfl) (λa h=>by cases h) hf hl).mono ?_;rintro e w' ⟨rfl,rfl⟩;have hg:=grownCap_ge w (0+1) 0 3;have hr:=grownCap_le_maxLen w (0+1) 0 3 (by unfold maxLen;omega);refine ⟨_,rfl,?_,((Fr.refl _ w).drew).alloc _,.inr rfl⟩;have hk:=Blk.new w.drew 3 (([]++[Za1 iQ x]).toArray++Builtin.zeroCells (Za1 iQ 0).cells (grownCap w (0+1) 0 3-(0+1)))
  have hE:Blk (w.drew.alloc (.cells (([]++[Za1 iQ x]).toArray++Builtin.zeroCells (Za1 iQ 0).cells (grownCap w (0+1) 0 3-(0+1))) 3)) w.heap.size 3 (([Za1 iQ x]++(Builtin.zeroCells (Za1 iQ 0).cells (grownCap w (0+1) 0 3-(0+1))).toList).toArray):=by
   have e:(([Za1 iQ x]++(Builtin.zeroCells (Za1 iQ 0).cells (grownCap w (0+1) 0 3-(0+1))).toList).toArray)=([]++[Za1 iQ x]).toArray++Builtin.zeroCells (Za1 iQ 0).cells (grownCap w (0+1) 0 3-(0+1)):=by
    apply Array.ext';simp
   rw [e];exact hk
  have hx:(Builtin.zeroCells (Za1 iQ 0).cells (grownCap w (0+1) 0 3-(0+1))).toList.length=grownCap w (0+1) 0 3-(0+1):=by
   rw [Array.length_toList,size_zeroCells];simp [Value.cells]
  exact hE.own hB rfl sZ (by simp only [Ze,hx,List.length_singleton];omega) sZ (by simp only [Ze,hx,List.length_singleton];show grownCap w (0+1) 0 3=_;omega)
 ·have hk:Blk w g 3 cur.toList.toArray:=by simpa [Blk] using hh
  have hm:cur.toList.length=cap:=by simpa using hw
  have hc:cur.toList.take zs.length=zs.map (Za1 iQ):=by simpa using hI
  have hp:=hk.mJ hc;have hK:g≠vb:=λh=>hvb (by rw [h];rfl)
  have hq:(zs.map (Za1 iQ)).length=zs.length:=by simp
  by_cases hb:zs.length+1<=cap
  ·by_cases ho:i<zs.length
   ·refine (Any2.slices_Insert_int_shift qcG g 0 zs.length cap i vb 0 1 1 (zs.map (Za1 iQ)) [nQ iQ x] w ho oZ hb oZ (λh=>hK h.symm) hq rfl hp ?_ ?_ hf qea hl 3 3 1 cap ?_ ?_ oZ ?_ ?_).mono ?_
    ·intro j hj;rw [Zw,hk.cell];simp;omega
    ·intro j hj;exact hk.frozen _
    ·exact hv.shape
    ·rw [hk.shape];simp [hw]
    ·exact hv.frozen _
    ·exact hv.frozen _
    ·rintro e w' ⟨rfl,rfl⟩
     have hd:(List.drop i (zs.map (Za1 iQ))).length=zs.length-i:=by simp
     have k1:=qaj ((zs.map (Za1 iQ)).drop i) (0+(i+1)) w.drew _ hk.drew (by rw [hd,hm];omega);have k2:=qaj [Za1 iQ x] (0+i) _ _ k1 (by simp [splice];omega);refine ⟨_,rfl,?_,qaL (by rfl) _ _ _ _ (qaL (by rfl) _ _ _ _ (Fr.refl _ w).drew),.inl rfl⟩
     have ha:(splice (splice cur.toList (0+(i+1)) ((zs.map (Za1 iQ)).drop i)) (0+i) [Za1 iQ x]).length=cap:=by
      simp only [splice,Ze,Zo,Zq,List.length_singleton,hd,hm];omega
     rw [qcs hi];refine k2.own hA soZ (by rw [ha];omega) (by rw [ha];exact hy) ?_ ha.symm;rw [Zw,Zw];have e0:cur.toList=zs.map (Za1 iQ)++cur.toList.drop zs.length:=by rw [←hc];exact (Zn _ _).symm
     rw [e0];generalize cur.toList.drop zs.length=D at *;generalize hZ:zs.map (Za1 iQ)=Z at *;have hJ:i<Z.length:=by omega
     have hF:1<=D.length:=by rw [e0,Ze] at hm;omega
     rw [ins_a hJ hF];have:(Z.take i++Za1 iQ x::Z.drop i).length=zs.length+1:=by simp;omega
     rw [List.take_append_of_le_length oZ,List.take_of_length_le oZ];rw [←hZ];simp [List.map_take,List.map_drop]
   ·obtain rfl:i=zs.length:=by omega
    refine (Any2.slices_Insert_int_end_room qcG g 0 zs.length cap vb 0 1 1 [nQ iQ x] w oZ hb oZ rfl ?_ ?_ hf hl).mono ?_
    ·intro j hj;rw [Zw,hk.cell];simp;omega
    ·intro j hj;exact hk.frozen _
    ·rintro e w' ⟨rfl,rfl⟩
     have k1:=qaj [Za1 iQ x] (0+zs.length) w _ hk soZ;refine ⟨_,rfl,?_,qaL (by rfl) _ _ _ _ (Fr.refl _ w),.inl rfl⟩
     have ha:(splice cur.toList (0+zs.length) [Za1 iQ x]).length=cap:=by
      simp only [splice,Ze,Zo,Zq,List.length_singleton,hm];omega
     rw [qcs (lrZ _)];refine k1.own hA sZ (by rw [ha];omega) (by rw [ha];exact hy) ?_ ha.symm;rw [Zw];unfold splice;rw [hc,←List.append_assoc];rw [List.take_append_of_le_length sZ,List.take_of_length_le sZ];simp
  ·have hC:cap=zs.length:=by omega
   subst hC;have hg:=grownCap_ge w (zs.length+1) zs.length 3;have hr:=grownCap_le_maxLen w (zs.length+1) zs.length 3 (by unfold maxLen;omega)
   by_cases ho:i<zs.length
   ·refine (Any2.slices_Insert_int_grow qcG g 0 zs.length zs.length i vb 0 1 1 (zs.map (Za1 iQ)) [nQ iQ x] w ho oZ oZ oZ oZ hq rfl hp hf qea hl).mono ?_
    rintro e w' ⟨rfl,rfl⟩;have hs:(Builtin.zeroCells (Za1 iQ 0).cells (zs.length+1-i)).toList.length=zs.length+1-i:=by rw [Array.length_toList,size_zeroCells];simp [Value.cells]
    have he:(Builtin.zeroCells (Za1 iQ 0).cells (grownCap w (zs.length+1) zs.length 3-(zs.length+1))).toList.length=grownCap w (zs.length+1) zs.length 3-(zs.length+1):=by rw [Array.length_toList,size_zeroCells];simp [Value.cells]
    generalize hZ1:Builtin.zeroCells (Za1 iQ 0).cells (zs.length+1-i)=Z1 at *;have hT:rE.t 3=3:=rfl;rw [hT] at *;generalize hZ2:Builtin.zeroCells (Za1 iQ 0).cells (grownCap w (zs.length+1) zs.length 3-(zs.length+1))=Z2 at *;generalize hG:grownCap w (zs.length+1) zs.length 3=G at *
    have ht:Blk (w.alloc (.cells (((zs.map (Za1 iQ)).take i).toArray++Z1++Z2) 3)).drew w.heap.size 3 (((zs.map (Za1 iQ)).take i++Z1.toList++Z2.toList).toArray):=by
     have:=Blk.new w 3 (((zs.map (Za1 iQ)).take i).toArray++Z1++Z2)
     have e:(((zs.map (Za1 iQ)).take i++Z1.toList++Z2.toList).toArray)=((zs.map (Za1 iQ)).take i).toArray++Z1++Z2:=by
      apply Array.ext';simp
     rw [e];exact this.drew
    have hD:((zs.map (Za1 iQ)).take i).length=i:=by simp;omega
    have hd:((zs.map (Za1 iQ)).drop i).length=zs.length-i:=by simp
    have k1:=qaj [Za1 iQ x] i _ _ ht (by simp only [Ze,hD,hs,he,List.length_singleton];omega);have k2:=qaj ((zs.map (Za1 iQ)).drop i) (i+1) _ _ k1.drew (by simp only [splice,Ze,Zo,Zq,List.length_singleton,hs,he,List.length_map];omega);refine ⟨_,rfl,?_,?_,.inr rfl⟩
    ·have ha:(splice (splice ((zs.map (Za1 iQ)).take i++Z1.toList++Z2.toList) i [Za1 iQ x]) (i+1) ((zs.map (Za1 iQ)).drop i)).length=G:=by
      simp only [splice,Ze,Zo,Zq,List.length_singleton,hs,he,List.length_map];omega
     rw [qcs hi];refine k2.own hB soZ (by rw [ha];omega) (by rw [ha];exact hr) ?_ ha.symm;generalize hZ:zs.map (Za1 iQ)=Z at *;rw [ins_b oZ oZ];have:(Z.take i++Za1 iQ x::Z.drop i).length=zs.length+1:=by simp;omega
     rw [List.take_append_of_le_length oZ,List.take_of_length_le oZ];rw [←hZ];simp [List.map_take,List.map_drop]
    ·have f1:Fr (λb=>(Zb1 (some ⟨g,0,none⟩) zs.length zs.length).ownBlock=some b) w (w.alloc (.cells (((zs.map (Za1 iQ)).take i).toArray++Z1++Z2) 3)):=(Fr.refl _ w).alloc _
     exact qh7 (qh7 f1.drew _ _).drew _ _
   ·obtain rfl:i=zs.length:=by omega
    refine (Any2.slices_Insert_int_end_grow qcG (some ⟨g,0,none⟩) zs.length zs.length vb 0 1 1 (zs.map (Za1 iQ)) [nQ iQ x] w oZ (lrZ _) oZ oZ hq rfl (λh=>by cases h) (λa h=>by injection h with h;subst h;intro j u hj;have:=hp j u hj;rw [Addr.add_lit];simpa using this) hf hl).mono ?_;rintro e w' ⟨rfl,rfl⟩;have hT:rE.t 3=3:=rfl;rw [hT] at *;have he:(Builtin.zeroCells (Za1 iQ 0).cells (grownCap w (zs.length+1) zs.length 3-(zs.length+1))).toList.length=grownCap w (zs.length+1) zs.length 3-(zs.length+1):=by rw [Array.length_toList,size_zeroCells];simp [Value.cells]
    generalize hZ2:Builtin.zeroCells (Za1 iQ 0).cells (grownCap w (zs.length+1) zs.length 3-(zs.length+1))=Z2 at *;generalize hG:grownCap w (zs.length+1) zs.length 3=G at *;refine ⟨_,rfl,?_,((Fr.refl _ w).drew).alloc _,.inr rfl⟩
    have ht:Blk (w.drew.alloc (.cells ((zs.map (Za1 iQ)++[Za1 iQ x]).toArray++Z2) 3)) w.heap.size 3 ((zs.map (Za1 iQ)++[Za1 iQ x]++Z2.toList).toArray):=by
     have:=Blk.new w.drew 3 ((zs.map (Za1 iQ)++[Za1 iQ x]).toArray++Z2)
     have e:((zs.map (Za1 iQ)++[Za1 iQ x]++Z2.toList).toArray)=(zs.map (Za1 iQ)++[Za1 iQ x]).toArray++Z2:=by
      apply Array.ext';simp
     rw [e];exact this
    have ha:(zs.map (Za1 iQ)++[Za1 iQ x]++Z2.toList).length=G:=by simp only [Ze,List.length_map,List.length_singleton,he];omega
    rw [qcs (lrZ _)];refine ht.own hB sZ (by rw [ha];omega) (by rw [ha];exact hr) ?_ ha.symm;rw [List.take_append_of_le_length sZ,List.take_of_length_le sZ];simp
theorem qg3 (B:Nat) (v:Value) (x:Int) (zs:List Int) (w:Zp1) (hn:(x::zs).length<=1099511627776) (hown:w.ownsRow B 3 1 v (x::zs).length ((x::zs).map (Za1 iQ))):
  Calls prog 140 #[v,nQ iQ 0,nQ iQ 1] w (qh8 B 3 v zs w):=by
 have hf:maxLen=9223372036854775807:=rfl;rcases hown.2 with ⟨rfl,h0⟩|⟨g,cap,cur,rfl,ho,hh,hc,hi,hl,hg⟩
 ·simp at h0
 ·have hk:Blk w g 3 cur.toList.toArray:=by simpa [Blk] using hh
  have he:cur.toList.length=cap:=by simpa using hl
  have hd:cur.toList.take (x::zs).length=(x::zs).map (Za1 iQ):=by simpa using hg
  have hm:=hk.mJ hd;refine (Tryz.slices_Delete_int_cells g 0 (x::zs).length cap 0 1 (x::zs) w (lrZ _) hc oZ oZ sZ ?_ ?_).mono ?_
  ·intro j hj
   refine hm j _ ?_;rw [List.getElem?_map,geZ hj,gdZ,geZ hj]
   rfl
  ·intro j hj;exact hk.frozen _
  ·rintro e w' ⟨rfl,q,rfl⟩
   have hb:((((x::zs).take (x::zs).length).take 0++((x::zs).take (x::zs).length).drop 1++Zc (1-0) 0).map (Za1 iQ))=zs.map (Za1 iQ)++[Za1 iQ 0]:=by simp
   rw [hb];have k1:=qaj (zs.map (Za1 iQ)++[Za1 iQ 0]) 0 (w.drewN q) _ (hk.drewN q) (by rw [he];simp at hc ⊢;omega);refine ⟨_,rfl,?_,qaL (by rfl) _ _ _ _ ((Fr.refl _ w).drewN q),.inl rfl⟩
   have ha:(splice cur.toList 0 (zs.map (Za1 iQ)++[Za1 iQ 0])).length=cap:=by
    simp only [splice,Ze,Zo,Zq,List.length_singleton,List.length_map,he];simp at hc;omega
   refine k1.own ho sZ (by rw [ha];simp at hc ⊢;omega) (by rw [ha];exact hi) ?_ ha.symm;unfold splice;simp
theorem qg4 (B:Nat) (v:Value) (x:Int) (zs:List Int) (w:Zp1) (hn:zs.length<=1099511627776) (hs:zs.Pairwise (·<=·)) (hown:w.ownsRow B 3 1 v zs.length (zs.map (Za1 iQ))):
  Calls prog 141 #[v,nQ iQ x] w λe w'=>(∃b,e=.returned (.tuple #[nQ iQ (zs.countP (·<x):Nat),.bool b]))/\∃q,w'=w.drewN q:=by
 rcases hown.2 with ⟨rfl,h0⟩|⟨g,cap,cur,rfl,hg,hh,hf,he,hd,hb⟩
 ·have:zs=[]:=List.eq_nil_of_length_eq_zero h0
  subst this;refine (Tryz.slices_BinarySearch_int_empty none 0 x w).mono ?_;rintro e w' ⟨rfl,rfl⟩;exact ⟨⟨_,rfl⟩,0,rfl⟩
 ·have hk:Blk w g 3 cur.toList.toArray:=by simpa [Blk] using hh
  have ha:cur.toList.take zs.length=zs.map (Za1 iQ):=by simpa using hb
  have hc:=hk.mJ ha;refine (Tryz.slices_BinarySearch_int g 0 zs.length cap zs x w (lrZ _) oZ ?_ (by rw [Zg];exact hs)).mono ?_
  ·intro j hj
   refine hc j _ ?_;rw [List.getElem?_map,geZ hj,gdZ,geZ hj]
   rfl
  ·rintro e w' ⟨rfl,q,rfl⟩
   rw [Zg];exact ⟨⟨_,rfl⟩,q,rfl⟩
theorem qbL:(prog.info? 22).map (λi=>(i.zero,i.size,i.bytes))=some (some (sQ none 0 0),1,24):=by kernel_rfl
def Two (C:Nat) (t:TypeId) (w:Zp1) (r o:Value) (zr zo:List Int):Prop:=
 w.ownsRow C t 1 r zr.length (zr.map (Za1 iQ))/\w.ownsRow C t 1 o zo.length (zo.map (Za1 iQ))/\∀b,r.ownBlock=some b->o.ownBlock≠some b
section
variable {C:Nat} {t:TypeId} {w w':Zp1} {r o r' o':Value} {zr zo zr' zo':List Int} {S:Nat->Prop}
theorem Two.fr (h:Two C t w r o zr zo) (hf:Fr S w w') (hS:∀b,S b->¬C<=b):Two C t w' r o zr zo:=
 ⟨qb9 h.1 hf λb hb hs=>hS b hs (h.1.lt b hb).1,qb9 h.2.1 hf λb hb hs=>hS b hs (h.2.1.lt b hb).1,h.2.2⟩
theorem Two.new (h:Two C t w r o zr zo) (x:Obj):Two C t (w.alloc x) r o zr zo:=h.fr ((Fr.refl (λ_=>False) w).alloc x) λ_ h=>h.elim
theorem Two.left (h:Two C t w r o zr zo) (hf:Fr (λb=>r.ownBlock=some b) w w') (ho:w'.ownsRow C t 1 r' zr'.length (zr'.map (Za1 iQ))) (ha:r'.ownBlock=r.ownBlock∨r'.ownBlock=some w.heap.size):Two C t w' r' o zr' zo:=
 ⟨ho,qb9 h.2.1 hf λb hb hs=>h.2.2 b hs hb,λb hb ho=>by
  rcases ha with e|e
  ·exact h.2.2 b (e▸hb) ho
  ·rw [e] at hb;injection hb with hb;subst hb;have:=(h.2.1.lt _ ho).2;omega⟩
theorem Two.right (h:Two C t w r o zr zo) (hf:Fr (λb=>o.ownBlock=some b) w w') (ho:w'.ownsRow C t 1 o' zo'.length (zo'.map (Za1 iQ))) (ha:o'.ownBlock=o.ownBlock∨o'.ownBlock=some w.heap.size):Two C t w' r o' zr zo':=
 ⟨qb9 h.1 hf λb hb hs=>h.2.2 b hb hs,ho,λb hb ho=>by
  rcases ha with e|e
  ·exact h.2.2 b hb (e▸ho)
  ·rw [e] at ho;injection ho with ho;subst ho;have:=(h.1.lt _ hb).2;omega⟩
end
def SortPost (os:List Int) (w:Zp1) (e:Ending) (w':Zp1):Prop:=
 ∃A c,e=.returned (sQ A os.length c)/\Ints iQ w' A os/\os.length<=c/\c<=9223372036854775807/\Below w.heap.size w w'
def qh9 (os:List Int) (w:Zp1) (e:Ending) (w':Zp1):Prop:=
 ∃A c,e=.returned (sQ A os.length c)/\Ints iQ w' A os/\os.length<=c/\c<=9223372036854775807/\Below w.heap.size w w'/\∀a,A=some a->w.heap.size<=a.block
section
variable {X:Nat->Prop} {B:Nat} {w w':Zp1} {g:Nat} {t e:TypeId} {us:List (List Int)}
theorem iJ.at3 (h:iJ X B w g t e us) {j:Nat} (hj:j<us.length) (hlt:∀b,X b->b<w.heap.size):
  ∃v,w.cell? ⟨g,j,none⟩=some v/\(∀b,v.ownBlock=some b->¬X b)/\∀W:Zp1,(∀b,b<w.heap.size->(b=g∨¬X b)->W.heap[b]? = w.heap[b]?)->w.heap.size<=W.heap.size->
   W.ownsRow B e 1 v us[j].length (us[j].map (Za1 iQ))/\
   ∀(v':Value) (w1:Zp1) (x:Int),w1.ownsRow B e 1 v' (us[j].length+1) (us[j].map (Za1 iQ)++[nQ iQ x])->W.grownBy w1 v.ownBlock->(v'.ownBlock=v.ownBlock∨v'.ownBlock=some W.heap.size)->
    w1.cell? ⟨g,j,none⟩=some v/\w1.frozen? ⟨g,j,none⟩=false/\iJ X B (w1.setCell ⟨g,j,none⟩ v') g t e (us.set j (us[j]++[x])):=by
 obtain ⟨v,hc,ho,hx,-⟩:=h.at_ hlt hj;refine ⟨v,hc,hx,λW ha hs=>?_⟩;have hW:=h.agree ha;obtain ⟨v2,he,hh,hg,hf⟩:=hW.at_ (λb hb=>ltZ (hlt b hb) hs) hj
 have hv:v2=v:=by
  have e:=Zi1 (w:=w) (w':=W) (a:=⟨g,j,none⟩) (ha g h.lt (.inl rfl));rw [he,hc] at e;injection e
 subst hv;refine ⟨hh,λv' w1 x h1 h2 h3=>?_⟩;have hd:some g≠v2.ownBlock:=λq=>hg g q.symm h.1
 have hi:g<W.heap.size:=ltZ h.lt hs;refine ⟨h2.cell he hd,?_,hf v' w1 x h1 h2 h3⟩;obtain ⟨_,vs,_,hk,_⟩:=hW;exact (hk.grown h2 hd).frozen j
theorem iJ.shut (h:iJ (λb=>b<B) B w g t e us):iJ (λb=>b<B∨w.heap.size<=b) B w g t e us:=by
 obtain ⟨hg,vs,hl,hk,ho,hx,hd⟩:=h;refine ⟨.inl hg,vs,hl,hk,ho,λj v b hv hb=>?_,hd⟩;have h1:¬b<B:=hx j v b hv hb;have hj:j<us.length:=by rw [←hl];exact (List.getElem?_eq_some_iff.1 hv).1
 have h2:=((ho j hj v hv).lt b hb).2;omega
def mY (tN:TypeId) (box:Array Value) (B C g2:Nat) (tL tI:TypeId) (ws:List Int) (us:List (List Int)) (w wr:Zp1):Prop:=
 Blk wr w.heap.size tN box/\Below w.heap.size w wr/\C<=wr.heap.size/\Blk wr (w.heap.size+1) tI (ws.map (Za1 iQ)).toArray/\iJ (λb=>b<B∨C<=b) B wr g2 tL tI us
section
variable {tN:TypeId} {box:Array Value} {C g2:Nat} {tL tI:TypeId} {ws:List Int} {wr wr':Zp1} {S:Nat->Prop}
theorem mY.fr (h:mY tN box B C g2 tL tI ws us w wr) (hf:Fr S wr wr') (hS:∀b,S b->C<=b) (h1:w.heap.size+1<B) (h2:B<=C) (h3:g2<B):mY tN box B C g2 tL tI ws us w wr':=by
 obtain ⟨a1,a2,a3,a4,a5⟩:=h;have hn:∀b,b<C->¬S b:=λb hb hs=>by have:=hS b hs;omega
 refine ⟨hf.blk a1 (hn _ oZ),a2.trans (hf.below (λb hb=>by have:=hS b hb;omega) a2.size),Zv a3 hf.size,hf.blk a4 (hn _ oZ),a5.agree λb hb ho=>hf.2 b hb (hn b ?_)⟩;rcases ho with rfl|ho
 ·omega
 ·omega
theorem mY.wait (h:mY tN box B C g2 tL tI ws us w wr) (u:Nat) (z:Int) (h1:w.heap.size+1<B) (h2:B<=C) (h3:g2≠w.heap.size+1):mY tN box B C g2 tL tI (ws.set u z) us w (wr.setCell ⟨w.heap.size+1,u,none⟩ (nQ iQ z)):=by
 obtain ⟨a1,a2,a3,a4,a5⟩:=h;refine ⟨a1.far sZ _,a2.setCell (p:=⟨w.heap.size+1,u,none⟩) sZ _,by simpa using a3,?_,a5.agree λb hb ho=>Below.heap_setCell wr _ _ b ?_⟩
 ·have:=a4.aU u (nQ iQ z)
  simpa [List.map_set] using this
 ·rcases ho with rfl|ho
  ·exact h3
  ·simp;omega
theorem mY.read (h:mY tN box B C g2 tL tI ws us w wr) {j:Nat} (hj:j<us.length):∃A c,wr.cell? ⟨g2,j,none⟩=some (sQ A us[j].length c)/\Ints iQ wr A us[j]/\∀a,A=some a->B<=a.block/\a.block<C:=by
 obtain ⟨a1,a2,a3,a4,hg,vs,hl,hk,ho,hx,hd⟩:=h;have hv:vs[j]? = some vs[j]:=geZ oZ;obtain ⟨A,c,e,_,hI⟩:=Ints.kE (ho j hj _ hv);refine ⟨A,c,by rw [hk.cell j];simpa [e] using hv,hI,λa ha=>?_⟩;subst ha;rcases (ho j hj _ hv).2 with ⟨h1,_⟩|⟨g,cap,cur,h1,h2,_⟩
 ·rw [h1] at e;cases e
 ·rw [e] at h1
  injection h1 with h1
  injection h1 with h1
  subst h1;have:=hx j _ g hv (by rw [e];rfl);exact ⟨h2,by simp at this;simp;omega⟩
end
end
theorem Kn.mid_le (I:Int->List Int) (out a:List Int) (u:Int):Kn.mid I out a u<=(I u).length:=by
 unfold Kn.mid Kn.wt;have:=List.length_filter_le (λi=>!(i==0)&&!out.contains i) (I u);omega
def uZ:Value->Nat
 | .slice _ n _=>n
 | _=>0
theorem qeR (A N:Option Addr) (c d:Nat) (n:aA) (w:Zp1) (Hd:n.ok) (h512:n.o.length<=512) (hR:bH w A N n) (hd:n.o.length<=d) (hins:∀v∈n.o,∀i∈v.ins,0<=i/\i<=n.o.length):
  Calls prog 109 #[.agg #[sQ A n.inn.length c,sQ N n.o.length d]] w (qh9 (Nt.sO n.o) w):=by
 obtain ⟨i0,hi,H5,H4,H9⟩:=info_parts qag;obtain ⟨i1,hj,Gv,GC,GA⟩:=info_parts qbL;have HB:=Hd.2.2
 have He:∀u,(Nt.iF n.o u).length<=1048576:=λu=>by
  unfold Nt.iF Nt.node;rw [gdZ];cases h:n.o[u.toNat-1]? with
  | none=>simp [Nt.none_]
  | some v=>exact (HB v (List.mem_of_getElem? h)).2.2.1
 have HZ:∀k (h:k<n.o.length),Nt.iF n.o ((k:Int)+1)=n.o[k].ins:=λk h=>by unfold Nt.iF;rw [Nt.dH h]
 have Hc:Nt.sO n.o=Kn.order (Nt.iF n.o) n.o.length:=rfl;generalize Nt.iF n.o=I at *;generalize Nt.sO n.o=os at *;have Gg:=Blk.new w 26 #[sQ A n.inn.length c,sQ N n.o.length d];have Gk:Below w.heap.size w (w.alloc (.cells #[sQ A n.inn.length c,sQ N n.o.length d] 26)):=(Ze1 _ _).alloc (lrZ _) _;obtain ⟨HR,gP,gS,hH,gC,HY⟩:=zd6 hR hins HB He HZ Hc;clear hR hins HB He HZ Hc;clear Hd;have e1:iQ.wrap ((n.o.length:Int)+1)=((n.o.length+1:Nat):Int):=by rw [Zc1 _ oZ];omega
 go_in;go_wp2_with (at_make;refine wpList_make_full _ rfl _ _ 22 rfl w.heap.size 3 i0 (nQ iQ 0) 1 underlying22 hi H5 H4 _ _ _ _ (n.o.length+1) rfl rfl (by first|rfl|simp|(go_simp;rfl)) (by first|rfl|simp|(go_simp;rfl)) ?b2 ?b3 ?b4 ?_)
 case b2=>rw [H9];omega
 case b3=>unfold maxLen;omega
 case b4=>simp
 intro w1 hown hgrow;have hE:=qam hown;rw [qae] at hE;have GK:w.heap.size+2<=w1.heap.size:=by have:=lt_of_block hE;omega
 have gY:Blk w1 (w.heap.size+1) 3 ((Kn.wl I n.o.length 0 []).map (Za1 iQ)).toArray:=by
  rw [Kn.wl_zero,List.map_replicate];simpa [Blk] using hE
 have ge:Below w.heap.size w w1:=Gk.grown hgrow sZ sZ;have hf:Blk w1 w.heap.size 26 #[sQ A n.inn.length c,sQ N n.o.length d]:=Gg.grown hgrow sZ;have x1:w1.cell? ⟨w.heap.size,1,none⟩=some (sQ N n.o.length d):=by rw [hf.cell];rfl
 obtain ⟨hh,gU⟩:=zd2 hf gY;clear hf gY;clear hE hown hgrow Gg;go_wp2_with (at_make;refine wpList_make_full _ rfl _ _ 32 rfl w.heap.size 22 i1 (sQ none 0 0) 1 underlying32 hj Gv GC _ _ _ _ (n.o.length+1) rfl rfl (by first|rfl|simp|(go_simp;rfl)) (by first|rfl|simp|(go_simp;rfl)) ?b2 ?b3 ?b4 ?_)
 case b2=>rw [GA];omega
 case b3=>unfold maxLen;omega
 case b4=>exact ge.size
 intro w2 hown hgrow;have hE:=qam hown;rw [qae] at hE;obtain ⟨g2,hg2⟩:∃g2,w1.heap.size=g2:=⟨_,rfl⟩
 have gg:Below w.heap.size w w2:=ge.grown hgrow ge.size sZ;have hQ:=hh.out.grown hgrow sZ;have g0:=gU.out.grown hgrow sZ;have x1:w2.cell? ⟨w.heap.size,1,none⟩=some (sQ N n.o.length d):=by rw [hQ.cell];rfl
 have hK:Blk w2 g2 22 (Zc (n.o.length+1) (Zb1 none 0 0)).toArray:=by rw [←hg2];simpa [Blk] using hE
 have hU:iJ (λb=>b<w2.heap.size) w2.heap.size w2 g2 22 3 (Kn.ul I n.o.length 0 []):=by rw [Kn.ul_zero];exact iJ.new hK.lt hK
 have hy:g2<w2.heap.size:=hK.lt;have GL:w.heap.size+1<g2:=by omega
 rw [hg2];obtain ⟨Hr,g5,HU⟩:=zd3 hQ g0 hU;clear hQ g0 hU;clear hE hown hgrow hh gU hK ge;obtain ⟨B,hB⟩:∃B,w2.heap.size=B:=⟨_,rfl⟩
 rw [hB] at HU hy;go_wp2_with fail;clear x1;have gJ:¬g2=w.heap.size+1:=by omega
 have gq:¬w.heap.size+1=g2:=by omega
 have gx:¬w.heap.size=g2:=by omega
 have Gz:¬g2=w.heap.size:=by omega
 go_loopw [30] (λi wr=>∃k:Nat,k<=n.o.length/\i=nQ iQ k/\Blk wr w.heap.size 26 #[sQ A n.inn.length c,sQ N n.o.length d]/\Below w.heap.size w wr/\B<=wr.heap.size/\Blk wr (w.heap.size+1) 3 ((Kn.wl I n.o.length k []).map (Za1 iQ)).toArray/\iJ (λb=>b<B) B wr g2 22 3 (Kn.ul I n.o.length k [])) (λi _=>n.o.length-(intOf i).toNat)
 case atStart=>exact ⟨0,Zt _,rfl,Hr.out,gg,by omega,g5.out,HU.out⟩
 case round=>
  obtain ⟨k,hk,rfl,hf,HI,g4,HT,hU⟩:=hrel;clear Hr g5 HU gg hg2 hB
  by_cases HH:k<n.o.length
  ·
   obtain ⟨b,off,S,sc,J,ic,Q,qc,rfl,gM,-,hI,-⟩:=HR.out.2.at_ HH;have Hy:=gS.out _ (gmZ HH);have gZ:=gP.out _ (gmZ HH);have HG:=gC.out k HH;have G3:=Hy.2.2.1;generalize n.o[k]=v at *;obtain ⟨⟨y0,y1,y2,y3,y4,y5,y6,y7,y8,y9⟩,-⟩:=gM.below HI;have Ge:=HI.alloc HI.size (.cells #[nQ iQ v.op.kind,nQ iQ v.op.k,nQ iQ v.op.width,nQ iQ v.op.step,nQ iQ v.op.side,nQ iQ v.op.frm,nQ iQ v.op.to,sQ S v.op.s.length sc,sQ J v.ins.length ic,sQ Q v.p.length qc] 77);have Ho:=hf.alloc (.cells #[nQ iQ v.op.kind,nQ iQ v.op.k,nQ iQ v.op.width,nQ iQ v.op.step,nQ iQ v.op.side,nQ iQ v.op.frm,nQ iQ v.op.to,sQ S v.op.s.length sc,sQ J v.ins.length ic,sQ Q v.p.length qc] 77);have HM:=HT.alloc (.cells #[nQ iQ v.op.kind,nQ iQ v.op.k,nQ iQ v.op.width,nQ iQ v.op.step,nQ iQ v.op.side,nQ iQ v.op.frm,nQ iQ v.op.to,sQ S v.op.s.length sc,sQ J v.ins.length ic,sQ Q v.p.length qc] 77);have gW:=hU.agree (w':=wr.alloc (.cells #[nQ iQ v.op.kind,nQ iQ v.op.k,nQ iQ v.op.width,nQ iQ v.op.step,nQ iQ v.op.side,nQ iQ v.op.frm,nQ iQ v.op.to,sQ S v.op.s.length sc,sQ J v.ins.length ic,sQ Q v.p.length qc] 77)) (λb hb _=>Below.heap_alloc wr _ b hb);obtain ⟨Gw,GM,Gs,hh,GN,HU,Hg,HN,gT⟩:=zd9 gM Hy gZ hf HT hU Ho HM gW;have GO:=zI HG;clear gM Hy gZ hf HT hU Ho HM gW HG;go_wp2_with fail;clear y0 y1 y2 y3 y4 y5 y6 y7 y8 y9
   go_loopw [38] (λi wx=>∃m:Nat,m<=v.ins.length/\i=nQ iQ m/\Blk wx w.heap.size 26 #[sQ A n.inn.length c,sQ (some ⟨b,off,none⟩) n.o.length d]/\Below w.heap.size w wx/\B<=wx.heap.size/\Blk wx (w.heap.size+1) 3 ((Kn.wl I n.o.length k (v.ins.take m)).map (Za1 iQ)).toArray/\iJ (λb=>b<B) B wx g2 22 3 (Kn.ul I n.o.length k (v.ins.take m))) (λi _=>v.ins.length-(intOf i).toNat)
   case atStart=>exact ⟨0,Zt _,rfl,Hg.out,Ge,by simp;omega,by rw [List.take_zero];exact HN.out,by rw [List.take_zero];exact gT.out⟩
   case round=>
    obtain ⟨m,hm,rfl,hf,HF,gK,h4,Ha⟩:=hrel;clear hh GN HU Hg HN gT HI Ge g4
    by_cases h9:m<v.ins.length
    ·obtain ⟨b1,off1,rfl,-,hc⟩:=(Gw.out.below HF).2.2.1 m h9
     rw [qa1 h9] at hc;have hr:=Gs.out _ (gmZ h9);have hT:=Zb h9
     by_cases hz:v.ins[m]=0
     ·rw [hz] at hc hT
      have HW:=zI (show Kn.wl I n.o.length k (v.ins.take (m+1))=Kn.wl I n.o.length k (v.ins.take m) by rw [hT,Kn.wl_skip]);have HV:=zI (show Kn.ul I n.o.length k (v.ins.take (m+1))=Kn.ul I n.o.length k (v.ins.take m) by rw [hT,Kn.ul_skip]);obtain ⟨HL,gc,hh⟩:=zd3 h4 Ha hf;clear h4 Ha hf;clear hz hT hr;go_wp2_with fail;go_roundw
      case rel=>exact ⟨m+1,by omega,by go_num,hh.out,HF,gK,by rw [HW.out];exact HL.out,by rw [HV.out];exact gc.out⟩
      case measure=>simp [intOf];omega
     ·have HW:=zI (show Kn.wl I n.o.length k (v.ins.take (m+1))=_ by rw [hT,Kn.wl_in _ _ _ _ hz])
      have h7:=Kn.ul_in I n.o.length k (v.ins.take m) hz hr.1;rw [←hT] at h7;obtain ⟨u,hu⟩:∃u:Nat,v.ins[m]=u:=⟨v.ins[m].toNat,by omega⟩
      have GX:((u:Int) != 0)=true:=by rw [←hu];simp [hz]
      rw [hu] at hc hr h7;rw [show ((u:Int)).toNat=u by omega] at h7;have Gl:u<(Kn.ul I n.o.length k (v.ins.take m)).length:=by rw [Kn.tY];omega
      have gm:=Kn.uH I n.o.length k (v.ins.take m) Gl;rw [←gm] at h7;have HV:=zI h7;have Gp:(Kn.ul I n.o.length k (v.ins.take m))[u].length<=(k+1)*1048576:=by rw [gm];exact Kn.sH hH.out k soZ _
      have Gb:(k+1)*1048576<=536870912:=by
       have:(k+1)*1048576<=512*1048576:=mlZ _ oZ;omega
      have GF:=Kn.wMid_le hH.out k (l:=v.ins.take m) soZ ((k:Int)+1);obtain ⟨q,hq⟩:∃q,Kn.iK I k (v.ins.take m) ((k:Int)+1)=q:=⟨_,rfl⟩
      rw [hq] at GF HW
      have GU:wr.cell? ⟨w.heap.size+1,k+1,none⟩=some (nQ iQ (q:Int)):=by
       have e:=Kn.rR I n.o.length k (v.ins.take m) (u:=k+1) oZ;rw [h4.cell];simp only [Zk,List.getElem?_map,e];rw [show ((k+1:Nat):Int)=(k:Int)+1 by omega,hq]
       rfl
      have gn:=h4.frozen (k+1);obtain ⟨vv,GS,gR,gf⟩:=Ha.at3 Gl (λb hb=>by omega);have g7:wr.heap.size<=((wr.setCell ⟨w.heap.size+1,k+1,none⟩ (nQ iQ ((q:Int)+1))).alloc (.cells #[nQ iQ ((k:Int)+1)] 3)).heap.size:=by simp
      obtain ⟨ho,gf⟩:=gf ((wr.setCell ⟨w.heap.size+1,k+1,none⟩ (nQ iQ ((q:Int)+1))).alloc (.cells #[nQ iQ ((k:Int)+1)] 3)) (λb hb gg=>by
       rw [Below.heap_alloc _ _ b (by simpa using hb)];exact Below.heap_setCell wr _ _ b (by rcases gg with h|h<;>simp<;>omega)) g7
      generalize (Kn.ul I n.o.length k (v.ins.take m))[u]=uu at *;obtain ⟨Av,cv,rfl⟩:=qa8 ho;have gb:∀b,(Zb1 Av uu.length cv).ownBlock=some b->B<=b:=λb hb=>by have:=gR b hb;omega
      have w1:iQ.wrap ((k:Int)+1)=(k:Int)+1:=Zc1 _ oZ;have w2:iQ.wrap ((q:Int)+1)=(q:Int)+1:=Zc1 _ oZ;have t1:((k:Int)+1).toNat=k+1:=by omega
      have l1:((k:Int)+1)<((n.o.length+1:Nat):Int):=by omega
      have l2:(u:Int)<((n.o.length+1:Nat):Int):=by omega
      have u0:(0:Int)<=u:=by omega
      obtain ⟨HL,gc,hh,GP,GV,GW,G1,Hq,gI⟩:=zd9 h4 Ha hf gf gm h7 gR hq gb;clear h4 Ha hf gf gm h7 gR hq gb;clear hz hT hu;go_wp2_with (at_builtin;refine wpList_append_own_at _ rfl _ _ 22 rfl B 3 i0 (nQ iQ 0) 1 8 underlying22 hi H5 H4 H9 rfl dZ _ _ _ rfl ho ⟨wr.heap.size,0,none⟩ 1 1 [nQ iQ ((k:Int)+1)] rfl rfl ?c1 (by intro u hu;simp at hu;subst hu;rfl) (by unfold maxLen;omega) oZ soZ ?_)
      case c1=>
       intro j u hj
       match j,hj with
       | 0,hj=>
        simp at hj;subst hj;have e:=(Blk.new (wr.setCell ⟨w.heap.size+1,k+1,none⟩ (nQ iQ ((q:Int)+1))) 3 #[nQ iQ ((k:Int)+1)]).cell 0;simpa [Addr.add] using e
      intro v' w3 hn hgrow _ gi;obtain ⟨GY,gj,Gd⟩:=GP.out v' w3 _ hn hgrow (by simpa using gi);have gk:=gI.out;have H3:Below w.heap.size w w3:=((HF.setCell (p:=⟨w.heap.size+1,k+1,none⟩) sZ (nQ iQ ((q:Int)+1))).alloc (by simpa using HF.size) (.cells #[nQ iQ ((k:Int)+1)] 3)).grown hgrow (by simp;have:=HF.size;omega) (λb hb=>by have:=gk b hb;omega);have GR:B<=w3.heap.size:=Zv (Zv gK g7) hgrow.size;have hJ:=((hh.out.far (p:=⟨w.heap.size+1,k+1,none⟩) sZ (nQ iQ ((q:Int)+1))).alloc (.cells #[nQ iQ ((k:Int)+1)] 3)).grown hgrow (λe=>by have:=gk _ e.symm;omega);have hJ:=hJ.far (p:=⟨g2,u,none⟩) gx v';have gh:=((HL.out.aU (k+1) (nQ iQ ((q:Int)+1))).alloc (.cells #[nQ iQ ((k:Int)+1)] 3)).grown hgrow (λe=>by have:=gk _ e.symm;omega);have gh:=gh.far (p:=⟨g2,u,none⟩) gq v';have gN:=H3.setCell (p:=⟨g2,u,none⟩) soZ v';have HK:=zI (show Blk (w3.setCell ⟨g2,u,none⟩ v') (w.heap.size+1) 3 (((Kn.wl I n.o.length k (v.ins.take m)).set (k+1) ((q:Int)+1)).map (Za1 iQ)).toArray by simpa [List.map_set] using gh);obtain ⟨GH,H0⟩:=zd2 Gd hJ;clear Gd hJ;clear gh gk hgrow gi H3 GS;obtain ⟨A9,c9,rfl⟩:=qa8 hn;clear hn;go_wp2_with fail;go_roundw
      case rel=>exact ⟨m+1,by omega,by go_num,H0.out,gN,by simpa using GR,by rw [HW.out];exact HK.out,by rw [HV.out];exact GH.out⟩
      case measure=>simp [intOf];omega
    ·obtain rfl:m=v.ins.length:=by omega
     rw [Zg] at h4 Ha;have HG:=GO.out;rw [←HG,Kn.wl_next] at h4;rw [←HG,Kn.ul_next] at Ha;obtain ⟨HL,gc,hh⟩:=zd3 h4 Ha hf;clear h4 Ha hf;clear HG;go_wp2_with fail;go_roundw
     case rel=>exact ⟨k+1,by omega,by go_num,hh.out,HF,gK,HL.out,gc.out⟩
     case measure=>simp [intOf];omega
  ·obtain rfl:k=n.o.length:=by omega
   obtain ⟨C,hC⟩:∃C,wr.heap.size=C:=⟨_,rfl⟩
   have hinv:mY 26 #[sQ A n.inn.length c,sQ N n.o.length d] B C g2 22 3 (Kn.wl I n.o.length n.o.length []) (Kn.ul I n.o.length n.o.length []) w wr:=⟨hf,HI,by omega,HT,by rw [←hC];exact hU.shut⟩
   have Hb:B<=C:=by omega
   have h8:w.heap.size+1<B:=by omega
   have hg:=zI hinv;clear hinv;clear HT hU hf HI g4;go_wp2_with fail;clear hC
   go_loopw [9,10] (λr i wx=>∃k:Nat,k<=n.o.length/\i=nQ iQ ((k:Int)+1)/\mY 26 #[sQ A n.inn.length c,sQ N n.o.length d] B C g2 22 3 (Kn.wl I n.o.length n.o.length []) (Kn.ul I n.o.length n.o.length []) w wx/\wx.ownsRow C 3 1 r (Kn.rk I k).length ((Kn.rk I k).map (Za1 iQ))) (λ_ i _=>n.o.length+1-(intOf i).toNat)
   case atStart=>exact ⟨0,Zt _,rfl,hg.out,by simpa [Kn.rk,Kn.ids] using World.ownsRow_nil wr C 3 1⟩
   case round=>
    obtain ⟨k,hk,rfl,hinv,hown⟩:=hrel;clear hg;have hx:wr.cell? ⟨w.heap.size,1,none⟩=some (sQ N n.o.length d):=by rw [hinv.1.cell];rfl
    obtain ⟨Ar,cr,rfl⟩:=qa8 hown
    by_cases HH:k<n.o.length
    ·
     have GT:wr.cell? ⟨w.heap.size+1,k+1,none⟩=some (nQ iQ (Kn.wt I [] ((k:Int)+1):Nat)):=by
      have e:=Kn.rR I n.o.length n.o.length [] (u:=k+1) oZ;rw [hinv.2.2.2.1.cell];simp only [Zk,List.getElem?_map,e];rw [show ((k+1:Nat):Int)=(k:Int)+1 by omega,Kn.qU oZ oZ]
      rfl
     have hs:=Kn.pZ I k;have hl:=Kn.rG I k;generalize Kn.wt I [] ((k:Int)+1)=q at *;have t1:((k:Int)+1).toNat=k+1:=by omega
     have l0:(k:Int)+1<=(n.o.length:Int):=by omega
     have l1:((k:Int)+1)<((n.o.length+1:Nat):Int):=by omega
     by_cases hq:q=0
     ·subst hq
      rw [ipZ rfl] at hs;have Ht:=hinv.fr ((Fr.refl (λ_=>False) wr).alloc (.cells #[nQ iQ ((k:Int)+1)] 3)) (λb hb=>hb.elim) h8 Hb hy;have ho:=qad hown (.cells #[nQ iQ ((k:Int)+1)] 3);have gl:∀b,(Zb1 Ar (Kn.rk I k).length cr).ownBlock=some b->C<=b:=λb hb=>(hown.lt b hb).1
      obtain ⟨hg,Hs,Hn⟩:=zd3 hinv hs Ht;clear hinv hs Ht;clear hown;go_wp2_with (at_builtin;refine wpList_append_own_at _ rfl _ _ 22 rfl C 3 i0 (nQ iQ 0) 1 8 underlying22 hi H5 H4 H9 rfl dZ _ _ _ rfl ho ⟨wr.heap.size,0,none⟩ 1 1 [nQ iQ ((k:Int)+1)] rfl rfl ?c1 (by intro u hu;simp at hu;subst hu;rfl) (by unfold maxLen;omega) oZ ?c2 ?_)
      case c1=>exact qaF wr _ _
      case c2=>exact Hn.out.2.2.1
      intro v' w3 hn hgrow _ gi;have Gx:=zI (Hn.out.fr (Fr.lT (S:=λb=>C<=b) hgrow (λb hb _=>gl b hb)) (λb hb=>hb) h8 Hb hy);have Gr:=zI (show w3.ownsRow C 3 1 v' (Kn.rk I (k+1)).length ((Kn.rk I (k+1)).map (Za1 iQ)) by rw [Hs.out];simpa using hn);clear hn hgrow gi;go_wp2_with fail;go_roundw
      case rel=>exact ⟨k+1,by omega,by go_num,Gx.out,Gr.out⟩
      case measure=>simp [intOf];omega
     ·have GB:((q:Int)==0)=false:=by simp;omega
      rw [inZ hq] at hs;obtain ⟨hg,Hs,h6⟩:=zd3 hinv hs hown;clear hinv hs hown;go_wp2_with fail;go_roundw
      case rel=>exact ⟨k+1,by omega,by go_num,hg.out,by rw [Hs.out];exact h6.out⟩
      case measure=>simp [intOf];omega
    ·obtain rfl:k=n.o.length:=by omega
     rw [Kn.qK] at hown;have l0:¬((n.o.length:Int)+1<=(n.o.length:Int)):=by omega
     rw [Kn.wm_start] at hinv;have H6:(Kn.rk I n.o.length).length=(Kn.ready I n.o.length []).length:=by rw [Kn.qK]
     rw [H6];have gl:∀b,(Zb1 Ar (Kn.ready I n.o.length []).length cr).ownBlock=some b->C<=b/\b<wr.heap.size:=λb hb=>hown.lt b hb
     obtain ⟨hg,h6,g9⟩:=zd3 hinv hown gl;clear hinv hown gl;go_wp2_with (at_make;refine wpList_make_own _ rfl _ _ 22 rfl C 3 i0 (nQ iQ 0) 1 underlying22 hi H5 H4 _ _ _ n.o.length rfl (by first|rfl|simp|(go_simp;rfl)) (by first|rfl|simp|(go_simp;rfl)) ?b2 ?b3 ?b4 ?_)
     case b2=>first|omega|(rw [H9];omega)
     case b3=>unfold maxLen;omega
     case b4=>exact hg.out.2.2.1
     intro w4 h0 hgrow;have g8:=zI (hg.out.fr (Fr.lT (S:=λb=>C<=b) hgrow (λb hb _=>by cases hb)) (λb hb=>hb) h8 Hb hy);have Ga:=zI (show Two C 3 w4 (sQ Ar (Kn.ready I n.o.length []).length cr) (sQ (some ⟨wr.heap.size,0,none⟩) 0 n.o.length) (Kn.ready I n.o.length []) [] from ⟨qdu h6.out hgrow (λb _ h=>by cases h),h0,λb hb h=>by have:=(g9.out b hb).2;simp [Value.ownBlock] at h;omega⟩);clear hgrow;have HS:=zI h0;clear h0;go_wp2_with fail;clear hx l0 h6 hg g9;generalize hro:Zb1 Ar (Kn.ready I n.o.length []).length cr=r0 at *;generalize hoo:Zb1 (some ⟨wr.heap.size,0,none⟩) 0 n.o.length=o0 at *;clear hro hoo H6 hk HH x1 e1 Gk GK
     go_loopw [9,11] (λr o wx=>∃k:Nat,(Kn.go I n.o.length k).length=k/\mY 26 #[sQ A n.inn.length c,sQ N n.o.length d] B C g2 22 3 (Kn.wm I n.o.length (Kn.go I n.o.length k) []) (Kn.ul I n.o.length n.o.length []) w wx/\Two C 3 wx r o (Kn.ready I n.o.length (Kn.go I n.o.length k)) (Kn.go I n.o.length k)) (λ_ o _=>n.o.length+1-uZ o)
     case atStart=>exact ⟨0,rfl,g8.out,Ga.out⟩
     case round=>
      obtain ⟨k,H6,hinv,he⟩:=hrel;clear g8 Ga HS;obtain ⟨Ar,cr,rfl⟩:=qa8 he.1;obtain ⟨Ao,co,rfl⟩:=qa8 he.2.1;have Hd:=Kn.go_ok I n.o.length k;have hF:=@Kn.rQ I n.o.length k;have hw:=@Kn.order_of_stuck I n.o.length k H6;generalize Kn.go I n.o.length k=out at *;have hZ:=@Kn.mid_start I n.o.length out;have gL:=Kn.ready_len I n.o.length out;have G2:=Hd.len;subst H6;cases hrd:Kn.ready I n.o.length out with
      | nil=>
       rw [hrd] at he;have Gh:=hw hrd;rw [←HY.out] at Gh;subst Gh;clear hF hZ;obtain ⟨hg,hv,gp,gr,Gi⟩:=zd5 hinv he Hd hw hrd;clear hinv he Hd hw hrd;go_wp2_with fail;go_ret;obtain ⟨q1,q2,q3⟩:=qas hv.out.2.1;exact ⟨Ao,co,rfl,q1,q2,q3,hg.out.2.1,λa ha=>by subst ha;have h1:=(hv.out.2.1.lt a.block rfl).1;omega⟩
      | cons id rest=>
       have hid:id∈Kn.ready I n.o.length out:=by rw [hrd];simp
       have GI:=(Kn.mem_ready.1 hid).1;obtain ⟨j,rfl⟩:∃j:Nat,id=(j:Int):=⟨id.toNat,by omega⟩
       replace hF:=hF hrd;replace hZ:=hZ hrd;rw [hrd] at he gL;obtain ⟨Gj,-⟩:=qas he.1;obtain ⟨b1,off1,rfl,-,HC⟩:=Gj 0 sZ;rw [Zx] at HC;replace HC:wr.cell? ⟨b1,off1,none⟩=some (nQ iQ (j:Int)):=HC;have hz:0<rest.length+1:=by omega
       clear hw Gj;have Gm:rest.length+1<=512:=by simp at gL;omega
       clear gL hz;rw [List.length_cons] at he;have hX:=zI hid;clear hid;obtain ⟨hg,hv,gp,H8,HQ,Gi⟩:=zd6 hinv he Hd hZ hF hrd;clear hinv he Hd hZ hF hrd;go_wp2_with fail;refine (qg3 C _ _ rest _ soZ hv.out.1).mono ?_;rintro e w5 ⟨v5,rfl,gD,gH,H1⟩;have Hh:=hg.out.fr gH (λb hb=>(hv.out.1.lt b hb).1) h8 Hb hy;have Hl:=hv.out.left gH gD H1;have Hp:=Hh.fr ((Fr.refl (λ_=>False) w5).alloc (.cells #[nQ iQ (j:Int)] 3)) (λb hb=>hb.elim) h8 Hb hy;have Hf:=Hl.new (.cells #[nQ iQ (j:Int)] 3);obtain ⟨A5,c5,rfl⟩:=qa8 gD;clear hg hv gH H1 Hh Hl gD HC;obtain ⟨hN,hM⟩:=zd2 Hp Hf;clear Hp Hf;go_wp2_with (at_builtin;refine wpList_append_own_at _ rfl _ _ 22 rfl C 3 i0 (nQ iQ 0) 1 8 underlying22 hi H5 H4 H9 rfl dZ _ _ _ rfl hM.out.2.1 ⟨w5.heap.size,0,none⟩ 1 1 [nQ iQ (j:Int)] rfl rfl ?c1 (by intro u hu;simp at hu;subst hu;rfl) (by unfold maxLen;omega) oZ ?c2 ?_)
       case c1=>exact qaF w5 _ _
       case c2=>exact hN.out.2.2.1
       intro v7 w7 Hm h3 _ HX;have Hv:Fr (λb=>(Zb1 Ao out.length co).ownBlock=some b) _ w7:=Fr.lT h3 (λb hb _=>hb);have hW:=hN.out.fr Hv (λb hb=>(hM.out.2.1.lt b hb).1) h8 Hb hy;have hL:=hM.out.right (zo':=out++[(j:Int)]) Hv (by simpa using Hm) (by simpa using HX);clear hN hM Hm h3 HX Hv;have Gf:j<(Kn.ul I n.o.length n.o.length []).length:=by rw [Kn.tY];omega
       obtain ⟨Au,cu,gO,hY,gX⟩:=hW.read Gf;have gw:(Kn.ul I n.o.length n.o.length [])[j]=Kn.users I n.o.length (j:Int):=by rw [Kn.uH,Kn.qW oZ]
       rw [gw] at gO hY
       have h7:(Kn.users I n.o.length (j:Int)).length<=537919488:=by
        have h1:=Kn.sH hH.out n.o.length (l:=[]) sZ (j:Int);rw [Kn.qW oZ] at h1;have:(n.o.length+1)*1048576<=513*1048576:=mlZ _ oZ;omega
       have gG:=@Kn.mid_end_ready I n.o.length out (j:Int) hX.out;have gQ:=@Kn.wm_next I n.o.length out (j:Int) hX.out;have gu:=λa b u (h:Kn.users I n.o.length (j:Int)=a++u::b)=>Kn.qG gp.out hX.out h
       have gt:=λa b u (h:Kn.users I n.o.length (j:Int)=a++u::b)=>Kn.mid_stay gp.out hX.out h
       have gy:=λa b u (h:Kn.users I n.o.length (j:Int)=a++u::b)=>Kn.mid_put' gp.out hX.out h
       obtain ⟨us,husd⟩:∃us,Kn.users I n.o.length (j:Int)=us:=⟨_,rfl⟩
       rw [husd] at gO hY h7 gG gQ gu gt gy;obtain ⟨A7,c7,rfl⟩:=qa8 hL.2.1;generalize hro:Zb1 A5 rest.length c5=r5 at *;clear hro;rw [←H8.out] at hL;have j0:(0:Int)<=(j:Int):=by omega
       have j1:(j:Int)<((n.o.length+1:Nat):Int):=by omega
       obtain ⟨Hk,Hi,gF,g1,Gu,Gn,GG,Gt,GQ⟩:=zd9 hW hL hY gX gw husd gG gQ gu;obtain ⟨GD,Gy⟩:=zd2 gt gy;clear hW hL hY gX gw husd gG gQ gu gt gy;clear Gi H8;go_wp2_with fail;clear Gu;clear gO j0 j1 Gf
       go_loopw [9,101] (λr i wx=>∃m:Nat,m<=us.length/\i=nQ iQ m/\mY 26 #[sQ A n.inn.length c,sQ N n.o.length d] B C g2 22 3 (Kn.wm I n.o.length out (us.take m)) (Kn.ul I n.o.length n.o.length []) w wx/\Two C 3 wx r (sQ A7 (out++[(j:Int)]).length c7) (Kn.aR I n.o.length out (j:Int) (us.take m)) (out++[(j:Int)])/\Ints iQ wx Au us) (λ_ i _=>us.length-(intOf i).toNat)
       case atStart=>exact ⟨0,Zt _,rfl,Hk.out,Hi.out,gF.out⟩
       case round=>
        obtain ⟨m,hm,rfl,hinv,he,hY⟩:=hrel;clear Hk Hi gF
        by_cases h9:m<us.length
        ·have hO:us=us.take m++us[m]::us.drop (m+1):=by rw [←Zd h9,Zn]
         have hT:=Zb h9;obtain ⟨b1,off1,rfl,-,HC⟩:=hY m h9;rw [qa1 h9] at HC;obtain ⟨p1,p2,p3,p4,p5⟩:=GQ.out _ _ _ hO;have HD:=GD.out _ _ _ hO;have Hx:=Gy.out _ _ _ hO;have HE:=@Kn.wm_in I n.o.length out (us.take m) us[m] p3;rw [←hT] at HD Hx HE p5;obtain ⟨u,hu⟩:∃u:Nat,us[m]=(u:Int):=⟨us[m].toNat,by omega⟩
         rw [hu] at HC p1 p2 p3 p4 p5 HD Hx HE;rw [tnZ] at HE;have GE:Kn.mid I out (us.take m) (u:Int)<=1048576:=Zv (Kn.mid_le _ _ _ _) (hH.out _)
         have g3:wr.cell? ⟨w.heap.size+1,u,none⟩=some (nQ iQ ((Kn.mid I out (us.take m) (u:Int):Nat):Int)):=by
          rw [hinv.2.2.2.1.cell];simp only [Zk,List.getElem?_map];rw [Kn.uF _ _ _ _ oZ oZ]
          rfl
         have G4:=hinv.2.2.2.1.frozen u;generalize hq2:Kn.mid I out (us.take (m+1)) (u:Int)=q at *;rw [←p5] at g3 GE;have hp:=hinv.wait u (q:Int) h8 Hb gJ;rw [←HE] at hp;have gn:Fr (λb=>b=w.heap.size+1) wr (wr.setCell ⟨w.heap.size+1,u,none⟩ (nQ iQ (q:Int))):=(Fr.refl (λb=>b=w.heap.size+1) wr).setCell (p:=⟨w.heap.size+1,u,none⟩) (λ_=>rfl) (nQ iQ (q:Int));have ht:=he.fr gn (λb hb=>by omega);have H2:=hY.lJ (p:=⟨w.heap.size+1,u,none⟩) (λa ha=>by have:=g1.out a ha;simp;omega) (nQ iQ (q:Int));have u0:(0:Int)<=(u:Int):=by omega
         have u1:(u:Int)<((n.o.length+1:Nat):Int):=by omega
         have gE:((q+1:Nat):Int)=(q:Int)+1:=by omega
         rw [gE] at g3;have GZ:(q:Int)+1-1=(q:Int):=by omega
         have GJ:=Kn.midReady_len I n.o.length out (j:Int) (us.take m);have HA:=Kn.jM I n.o.length out (j:Int) (us.take m)
         by_cases hq:q=0
         ·subst hq
          replace Hx:=Hx rfl;generalize Kn.aR I n.o.length out (j:Int) (us.take m)=mr at *;have HP:mr.Pairwise (·<=·):=HA.imp λh=>Int.le_of_lt h
          clear HD HE hinv he hY hT hO p5 hq2 gE HA gn;rw [show ((0:Nat):Int)=0 from rfl] at hp ht H2;obtain ⟨hS,hD,gA,Hu,Go,gB⟩:=zd6 hp ht H2 hu Hx HP;clear hp ht H2 hu Hx HP;go_wp2_with fail;refine (qg4 C _ (u:Int) mr _ oZ gB.out hD.out.1).mono ?_;rintro e w8 ⟨⟨bb,rfl⟩,qq,rfl⟩;go_wp2_with fail;have g6:mr.countP (λx=>decide (x<(u:Int)))<=mr.length:=List.countP_le_length;have gj:=((Fr.refl (λ_=>False) (wr.setCell ⟨w.heap.size+1,u,none⟩ (nQ iQ 0))).drewN qq).alloc (.cells #[nQ iQ (u:Int)] 3);have hV:=hS.out.fr gj (λb hb=>hb.elim) h8 Hb hy;have hA:=hD.out.fr gj (λb hb=>hb.elim);have Gc:=(gA.out.drewN qq).alloc (.cells #[nQ iQ (u:Int)] 3)
          have H3:Blk (((wr.setCell ⟨w.heap.size+1,u,none⟩ (nQ iQ 0)).drewN qq).alloc (.cells #[nQ iQ (u:Int)] 3)) wr.heap.size 3 #[nQ iQ (u:Int)]:=by
           have:=Blk.new ((wr.setCell ⟨w.heap.size+1,u,none⟩ (nQ iQ 0)).drewN qq) 3 #[nQ iQ (u:Int)];simpa using this
          have H7:u9.ownBlock≠some wr.heap.size:=λe=>by have:=(hD.out.1.lt _ e).2;simp at this
          refine (qg2 C u9 mr (u:Int) _ wr.heap.size _ g6 oZ hV.2.2.1 hA.1 H3 H7).mono ?_;rintro e w10 ⟨v10,rfl,HO,h5,Hj⟩;have hP:=hV.fr h5 (λb hb=>(hA.1.lt b hb).1) h8 Hb hy;have hG:=hA.left h5 HO Hj;have HJ:=h5.ints Gc (λa ha hb=>by have h1:=(hA.1.lt _ hb).1;have h2:=(g1.out a ha).2;omega);rw [←Go.out] at hG;clear hV hA Gc H3 gj HO h5 Hj g6 H7;obtain ⟨Hw,Hz,gv⟩:=zd3 hP hG HJ;clear hP hG HJ;go_wp2_with fail;go_roundw
          case rel=>exact ⟨m+1,by omega,by go_num,Hw.out,Hz.out,gv.out⟩
          case measure=>simp [intOf];omega
         ·have GB:((q:Int)==0)=false:=by simp;omega
          replace HD:=HD hq;rw [←HD] at ht;clear HD Hx HE hinv he hY hT hO p5 hq2 gE HA gn;obtain ⟨hS,hD,gA,Hu⟩:=zd4 hp ht H2 hu;clear hp ht H2 hu;go_wp2_with fail;go_roundw
          case rel=>exact ⟨m+1,by omega,by go_num,hS.out,hD.out,gA.out⟩
          case measure=>simp [intOf];omega
        ·obtain rfl:m=us.length:=by omega
         rw [Zg] at hinv he;rw [Gt.out] at hinv;rw [GG.out,show (out++[(j:Int)]).length=out.length+1 by simp] at he;have gd:=HQ.out;rw [←gd] at hinv he;have gV:(Kn.go I n.o.length (out.length+1)).length=out.length+1:=by rw [gd];simp
         obtain ⟨hg,hv,gF,G0,Gq⟩:=zd5 hinv he hY gd gV;clear hinv he hY gd gV;go_wp2_with fail;exact ⟨⟨out.length+1,Gq.out,hg.out,hv.out⟩,by simp only [uZ];omega⟩
def tV (n:aA) (w:Zp1) (e:Ending) (w':Zp1):Prop:=
 Below w.heap.size w w'/\((Nt.check n=0/\∃O oc g,e=.returned (.tuple #[.agg #[sQ O n.o.length oc,sQ (some ⟨g,0,none⟩) (n.o.length+1) (n.o.length+1),nQ iQ (Nt.aI n.o)],nQ iQ 0])/\
   Ints iQ w' O (Nt.sO n.o)/\n.o.length<=oc/\oc<=9223372036854775807/\w.heap.size<=g/\aQ w' g 23 (Nt.shapes n))∨
  (Nt.check n≠0/\e=.returned (.tuple #[.agg #[sQ none 0 0,sQ none 0 0,nQ iQ 0],nQ iQ (Nt.check n)])))
def rO (n:aA) (w:Zp1) (e:Ending) (w':Zp1):Prop:=
 Below w.heap.size w w'/\((Nt.check n=0/\∃O oc g,e=.returned (.tuple #[.agg #[sQ O n.o.length oc,sQ (some ⟨g,0,none⟩) (n.o.length+1) (n.o.length+1),nQ iQ (Nt.aI n.o)],nQ iQ 0])/\
   Ints iQ w' O (Nt.sO n.o)/\n.o.length<=oc/\oc<=9223372036854775807/\w.heap.size<=g/\aQ w' g 23 (Nt.shapes n)/\∀a,O=some a->w.heap.size<=a.block)∨
  (Nt.check n≠0/\e=.returned (.tuple #[.agg #[sQ none 0 0,sQ none 0 0,nQ iQ 0],nQ iQ (Nt.check n)])))
theorem rO.p {n:aA} {w:Zp1} {e:Ending} {w':Zp1} (h:rO n w e w'):tV n w e w':=by
 obtain ⟨h1,⟨a,O,oc,g,b,c,d,e,f,k,-⟩|h2⟩:=h
 ·exact ⟨h1,.inl ⟨a,O,oc,g,b,c,d,e,f,k⟩⟩
 ·exact ⟨h1,.inr h2⟩
namespace Nt
theorem jA {n:aA} (h:n.o.length<1∨512<n.o.length):check n=12:=by unfold check;rw [ipZ h]
theorem qT {n:aA} (h:¬(n.o.length<1∨512<n.o.length)) (h2:Sh.right n.inn=false):check n=20:=by unfold check;rw [inZ h,ipZ h2]
theorem jJ {n:aA} (h:¬(n.o.length<1∨512<n.o.length)) (h2:Sh.right n.inn=true) (h3:iA n.o.length n.o≠0):check n=iA n.o.length n.o:=by
 unfold check;rw [inZ h,inZ (by simp [h2]),ipZ h3]
theorem pW {n:aA} (h:¬(n.o.length<1∨512<n.o.length)) (h2:Sh.right n.inn=true) (h3:iA n.o.length n.o=0) (h4:(sO n.o).length≠n.o.length):check n=22:=by
 unfold check;rw [inZ h,inZ (by simp [h2]),inZ (by simp [h3]),ipZ h4]
theorem pK {n:aA} (h:¬(n.o.length<1∨512<n.o.length)) (h2:Sh.right n.inn=true) (h3:iA n.o.length n.o=0) (h4:(sO n.o).length=n.o.length) (h5:(lay n.o (start n) (sO n.o)).2≠0):check n=(lay n.o (start n) (sO n.o)).2:=by
 unfold check;rw [inZ h,inZ (by simp [h2]),inZ (by simp [h3]),inZ (by simp [h4]),ipZ h5]
theorem oG {n:aA} (h:¬(n.o.length<1∨512<n.o.length)) (h2:Sh.right n.inn=true) (h3:iA n.o.length n.o=0) (h4:(sO n.o).length=n.o.length) (h5:(lay n.o (start n) (sO n.o)).2=0) (h6:fC n.o=false):check n=23:=by
 unfold check;rw [inZ h,inZ (by simp [h2]),inZ (by simp [h3]),inZ (by simp [h4]),inZ (by simp [h5]),ipZ h6]
theorem nY {n:aA} (h:¬(n.o.length<1∨512<n.o.length)) (h2:Sh.right n.inn=true) (h3:iA n.o.length n.o=0) (h4:(sO n.o).length=n.o.length) (h5:(lay n.o (start n) (sO n.o)).2=0) (h6:fC n.o=true):
  check n=if Safe.prod ((shapes n).getD (aI n.o).toNat [])≠1 then 23 else 0:=by
 unfold check;rw [inZ h,inZ (by simp [h2]),inZ (by simp [h3]),inZ (by simp [h4]),inZ (by simp [h5]),inZ (by simp [h6])]
theorem rT {n:Nat} {ns:List aP} {k:Nat} (hk:k<ns.length) (h:∀j (hj:j<ns.length),j<k->Od.right ns[j].op=true/\ns[j].ins.all (λi=>decide (0<=i/\i<=n))=true) (hr:Od.right ns[k].op=false):iA n ns=21:=by
 rw [qbr h,Zd hk,iA,inZ (by simp [hr])]
theorem sI {n:Nat} {ns:List aP} {k:Nat} (hk:k<ns.length) (h:∀j (hj:j<ns.length),j<k->Od.right ns[j].op=true/\ns[j].ins.all (λi=>decide (0<=i/\i<=n))=true) (hr:Od.right ns[k].op=true) {m:Nat} (hm:m<ns[k].ins.length) (hb:¬(0<=ns[k].ins[m]/\ns[k].ins[m]<=n)):iA n ns=11:=by
 rw [qbr h,Zd hk,iA,ipZ hr,inZ];intro ha;have:=List.all_eq_true.1 ha _ (gmZ hm);simp at this;exact hb this
theorem pI {n:Nat} {ns:List aP} (h:∀j (hj:j<ns.length),j<ns.length->Od.right ns[j].op=true/\ns[j].ins.all (λi=>decide (0<=i/\i<=n))=true):iA n ns=0:=by
 rw [qbr h,List.drop_length,iA]
end Nt
def qdx (n:aA) (k:Nat):Prop:=∀j (hj:j<n.o.length),j<k->Od.right n.o[j].op=true/\n.o[j].ins.all (λi=>decide (0<=i/\i<=n.o.length))=true
theorem qap {B g:Nat} {w w1:Zp1} (h:Below B w w1) (hg:B<=g) (a b c:Value):Below B w (((w1.setCell ⟨g,0,none⟩ a).setCell ⟨g,1,none⟩ b).setCell ⟨g,2,none⟩ c):=
 ((h.setCell (p:=⟨g,0,none⟩) hg a).setCell (p:=⟨g,1,none⟩) hg b).setCell (p:=⟨g,2,none⟩) hg c
theorem qeb {g k:Nat} {w:Zp1} (a b c:Value) (h:k≠g):(((w.setCell ⟨g,0,none⟩ a).setCell ⟨g,1,none⟩ b).setCell ⟨g,2,none⟩ c).heap[k]? = w.heap[k]?:=by
 rw [Below.heap_setCell _ ⟨g,2,none⟩ c k h,Below.heap_setCell _ ⟨g,1,none⟩ b k h,Below.heap_setCell _ ⟨g,0,none⟩ a k h]
theorem qec {g:Nat} {t:TypeId} {w:Zp1} {S:Option Addr} {zs:List Int} (hI:Ints iQ w S zs) (hb:Blk w g t #[sQ none 0 0,sQ none 0 0,nQ iQ 0]) (hz:∀z∈zs,z≠0) (a b c:Value):
  Ints iQ (((w.setCell ⟨g,0,none⟩ a).setCell ⟨g,1,none⟩ b).setCell ⟨g,2,none⟩ c) S zs:=λj hj=>by
 obtain ⟨b0,off,e,hl,hc⟩:=hI j hj
 have ha:b0≠g:=λq=>by
  subst q;rw [hb.cell] at hc;have hd:zs.getD j 0≠0:=by rw [qa1 hj];exact hz _ (gmZ hj)
  match h:off+j,hc with
  | 0,hc=>simp at hc
  | 1,hc=>simp at hc
  | 2,hc=>simp at hc;exact hd (by simpa using hc.symm)
  | q+3,hc=>simp at hc
 refine ⟨b0,off,e,by simpa using hl,?_⟩;exact (Zi1 (w:=w) (a:=⟨b0,off+j,none⟩) (qeb a b c ha)).trans hc
theorem qeS {g g':Nat} {t t':TypeId} {w:Zp1} {sh:List (List Int)} (h:aQ w g' t' sh) (hb:Blk w g t #[sQ none 0 0,sQ none 0 0,nQ iQ 0]) (hg:g'≠g) (hz:∀s∈sh,∀z∈s,z≠0) (a b c:Value):
  aQ (((w.setCell ⟨g,0,none⟩ a).setCell ⟨g,1,none⟩ b).setCell ⟨g,2,none⟩ c) g' t' sh:=by
 obtain ⟨vs,hl,hk,hv⟩:=h;refine ⟨vs,hl,(qeb a b c hg).trans hk,λj hj=>?_⟩;obtain ⟨S,d,e,hI,h2⟩:=hv j hj;exact ⟨S,d,e,qec hI hb (hz _ (gmZ hj)) a b c,h2⟩
theorem qaB {w:Zp1} {g:Nat} {t:TypeId} (h:Blk w g t #[sQ none 0 0,sQ none 0 0,nQ iQ 0]):
  w.cell? ⟨g,0,none⟩=some (sQ none 0 0)/\w.cell? ⟨g,1,none⟩=some (sQ none 0 0)/\w.cell? ⟨g,2,none⟩=some (nQ iQ 0)/\w.frozen? ⟨g,0,none⟩=false/\w.frozen? ⟨g,1,none⟩=false/\w.frozen? ⟨g,2,none⟩=false:=
 ⟨h.cell 0,h.cell 1,h.cell 2,h.frozen 0,h.frozen 1,h.frozen 2⟩
theorem qed (A N:Option Addr) (c d:Nat) (n:aA) (w:Zp1) (hok:n.ok) (hR:bH w A N n) (hd:n.o.length<=d):
  Calls prog 72 #[.agg #[sQ A n.inn.length c,sQ N n.o.length d]] w (rO n w):=by
 have gY:=hok.2.1;have gQ:=hok.1;have h3:=qdX w (.cells #[sQ A n.inn.length c,sQ N n.o.length d] 26) (.cells #[sQ none 0 0,sQ none 0 0,nQ iQ 0] 140);have H7:=(Blk.new w 26 #[sQ A n.inn.length c,sQ N n.o.length d]).alloc (.cells #[sQ none 0 0,sQ none 0 0,nQ iQ 0] 140);have HT:=Blk.new (w.alloc (.cells #[sQ A n.inn.length c,sQ N n.o.length d] 26)) 140 #[sQ none 0 0,sQ none 0 0,nQ iQ 0];rw [Zh1] at HT;have HS:=hR.below h3 (lrZ _)
 by_cases hE:n.o.length<1∨512<n.o.length
 ·have HC:=zI (Nt.jA hE)
  obtain ⟨HR,HD,gi⟩:=zd3 hR hok HS;clear hR hok HS;clear H7 HT;rcases hE with h|h
  ·have d1:decide ((n.o.length:Int)<1)=true:=by simp;omega
   go_in;go_wp2_with fail;exact Zk1 (v:=.tuple #[.agg #[sQ none 0 0,sQ none 0 0,nQ iQ 0],nQ iQ 12]) (by simp [results,results72,go_sem]) rfl ⟨h3,.inr (by rw [HC.out];exact ⟨by omega,rfl⟩)⟩
  ·have d1:decide ((n.o.length:Int)<1)=false:=by simp;omega
   have d2:decide ((512:Int)<(n.o.length:Int))=true:=by simp;omega
   go_in;go_wp2_with fail;exact Zk1 (v:=.tuple #[.agg #[sQ none 0 0,sQ none 0 0,nQ iQ 0],nQ iQ 12]) (by simp [results,results72,go_sem]) rfl ⟨h3,.inr (by rw [HC.out];exact ⟨by omega,rfl⟩)⟩
 ·have d1:decide ((n.o.length:Int)<1)=false:=by simp;omega
  have d2:decide ((512:Int)<(n.o.length:Int))=false:=by simp;omega
  have gf:n.o.length<=512:=by omega
  have gE:1<=n.o.length:=by omega
  obtain ⟨HR,HD,gi,gw,gr,hh⟩:=zd6 hR hok HS H7 HT hE;clear hR hok HS H7 HT hE;go_in;go_wp2_with fail;refine (aS A c n.inn _ oZ gi.out.1).mono ?_;rintro e w1 ⟨rfl,HG⟩;have hN:Below w.heap.size w w1:=h3.trans (HG.mono soZ);have he:=gw.out.below HG soZ;have hW:=gr.out.below HG sZ;obtain ⟨y0,y1,y2,f0,f1,f2⟩:=qaB hW;have x0:w1.cell? ⟨w.heap.size,0,none⟩=some (sQ A n.inn.length c):=by rw [he.cell];rfl
  have x1:w1.cell? ⟨w.heap.size,1,none⟩=some (sQ N n.o.length d):=by rw [he.cell];rfl
  clear gw gr gi h3 HG d1 d2
  by_cases HI:Sh.right n.inn=true
  rotate_left
  ·have gd:Sh.right n.inn=false:=by simpa using HI
   have HC:=zI (Nt.qT hh.out gd);obtain ⟨hq,hX⟩:=zd2 he hW;clear he hW;clear HI;go_wp2_with fail;exact Zk1 (v:=.tuple #[.agg #[sQ none 0 0,sQ none 0 0,nQ iQ 0],nQ iQ 20]) (by simp [results,results72,go_sem,y0,y1,y2]) rfl ⟨qap hN oZ _ _ _,.inr (by rw [HC.out];exact ⟨by omega,rfl⟩)⟩
  ·have hq:=zI he
   have hX:=zI hW;clear he hW;go_wp2_with fail;clear y0 y1 y2 f0 f1 f2 x0 x1;have h8:=zI HI;clear HI
   go_loopw [34] (λi wr=>∃k:Nat,k<=n.o.length/\i=nQ iQ k/\Blk wr w.heap.size 26 #[sQ A n.inn.length c,sQ N n.o.length d]/\Blk wr (w.heap.size+1) 140 #[sQ none 0 0,sQ none 0 0,nQ iQ 0]/\Below w.heap.size w wr/\qdx n k) (λi _=>n.o.length-(intOf i).toNat)
   case atStart=>exact ⟨0,Zt _,rfl,hq.out,hX.out,hN,λj hj h=>by omega⟩
   case round=>
    clear hq hX hN;obtain ⟨k,hk,rfl,he,hW,hN,hC⟩:=hrel;have gF:=hW.lt
    by_cases HU:k<n.o.length
    ·obtain ⟨b,off,S,sc,J,ic,Q,qc,rfl,HL,-,hI,-⟩:=HR.out.2.at_ HU
     have hZ:=HD.out.2.2 _ (gmZ HU);have Hw:=λh=>Nt.rT (n:=n.o.length) HU hC h
     have Hy:=λh m (hm:m<n.o[k].ins.length) h2=>Nt.sI (n:=n.o.length) HU hC h (m:=m) hm h2
     have Ha:Od.right n.o[k].op=true->n.o[k].ins.all (λi=>decide (0<=i/\i<=n.o.length))=true->qdx n (k+1):=λh1 h2 j hj gS=>by
      by_cases e:j=k
      ·subst e;exact ⟨h1,h2⟩
      ·exact hC j hj oZ
     have gQ:=hZ.2.2.1;have gK:=hZ.2.1;generalize n.o[k]=v at *;have gk:=HL.below hN;obtain ⟨⟨y0,y1,y2,y3,y4,y5,y6,y7,y8,y9⟩,-⟩:=HL.below hN;have gu:=Blk.new wr 77 (#[nQ iQ v.op.kind,nQ iQ v.op.k,nQ iQ v.op.width,nQ iQ v.op.step,nQ iQ v.op.side,nQ iQ v.op.frm,nQ iQ v.op.to,sQ S v.op.s.length sc,sQ J v.ins.length ic,sQ Q v.p.length qc]);have H1:Below wr.heap.size wr (wr.alloc (.cells #[nQ iQ v.op.kind,nQ iQ v.op.k,nQ iQ v.op.width,nQ iQ v.op.step,nQ iQ v.op.side,nQ iQ v.op.frm,nQ iQ v.op.to,sQ S v.op.s.length sc,sQ J v.ins.length ic,sQ Q v.p.length qc] 77)):=(Ze1 _ _).alloc (lrZ _) _;obtain ⟨hq,hX,gV,gI,gh,H4,Hz,gn,gv⟩:=zd9 he hW HL hZ Hw Hy Ha gk gu;have HY:=zI hC;clear he hW HL hZ Hw Hy Ha gk gu hC;go_wp2_with fail;refine (qcq v.op S sc _ oZ (gn.out.2.1.below H1 (lrZ _))).mono ?_;rintro e w2 ⟨rfl,Hh⟩;have hn:Below wr.heap.size wr w2:=H1.trans (Hh.mono sZ);have hY:=hN.trans (hn.mono hN.size);have hb:=hq.out.below hn oZ;have hf:=hX.out.below hn gF;have hV:=gv.out.below Hh sZ;obtain ⟨z0,z1,z2,f0,f1,f2⟩:=qaB hf;have z8:w2.cell? ⟨wr.heap.size,8,none⟩=some (sQ J v.ins.length ic):=by rw [hV.cell];rfl
     have x1:w2.cell? ⟨w.heap.size,1,none⟩=some (sQ (some ⟨b,off,none⟩) n.o.length d):=by rw [hb.cell];rfl
     have HF:=gn.out.2.2.1.below hn (lrZ _);clear y0 y1 y2 y3 y4 y5 y6 y7 y8 y9 H1 Hh hq hX gv
     by_cases HP:Od.right v.op=true
     rotate_left
     ·have H5:Od.right v.op=false:=by simpa using HP
      have hc:=gh.out H5;have HC:=zI ((Nt.jJ hh.out h8.out (by rw [hc];omega)).trans hc);obtain ⟨ho,ht,H9,gq⟩:=zd4 hb hf hV HF;clear hb hf hV HF;clear HP hc;go_wp2_with fail;exact Zk1 (v:=.tuple #[.agg #[sQ none 0 0,sQ none 0 0,nQ iQ 0],nQ iQ 21]) (by simp [results,results72,go_sem,z0,z1,z2]) rfl ⟨qap hY oZ _ _ _,.inr (by rw [HC.out];exact ⟨by omega,rfl⟩)⟩
     ·have gp:=zI HP
      obtain ⟨ho,ht,H9,gq⟩:=zd4 hb hf hV HF;clear hb hf hV HF;go_wp2_with fail;clear HP
      go_loop [46] (λi=>∃m:Nat,m<=v.ins.length/\i=nQ iQ m/\∀j (hj:j<v.ins.length),j<m->0<=v.ins[j]/\v.ins[j]<=n.o.length) (λi=>v.ins.length-(intOf i).toNat)
      case atStart=>exact ⟨0,Zt _,rfl,λj hj h=>by omega⟩
      case round=>
       obtain ⟨m,hm,rfl,hA⟩:=hrel
       by_cases Hx:m<v.ins.length
       ·obtain ⟨b1,off1,rfl,-,hc⟩:=gq.out m Hx
        rw [qa1 Hx] at hc;have H0:=H4.out gp.out m Hx
        have Hs:(0<=v.ins[m]/\v.ins[m]<=n.o.length)->∀j (hj:j<v.ins.length),j<m+1->0<=v.ins[j]/\v.ins[j]<=n.o.length:=λh j hj gU=>by
         by_cases e:j=m
         ·subst e;exact h
         ·exact hA j hj oZ
        generalize v.ins[m]=u at *
        by_cases hu:0<=u/\u<=n.o.length
        ·have HN:=zI (Hs hu)
         have e1:decide (u<0)=false:=by simp;omega
         have e2:decide ((n.o.length:Int)<u)=false:=by simp;omega
         clear hu H0;obtain ⟨gM,Hr⟩:=zd2 Hs hA;clear Hs hA;go_wp2_with fail
         go_round
         case rel=>exact ⟨m+1,by omega,by go_num,HN.out⟩
         case measure=>simp [intOf];omega
        ·have gc:=H0 hu
         have HC:=zI ((Nt.jJ hh.out h8.out (by rw [gc];omega)).trans gc);clear gc H0;obtain ⟨gM,Hr⟩:=zd2 Hs hA;clear Hs hA
         by_cases HB:u<0
         ·have e1:decide (u<0)=true:=by simpa using HB
          clear hu;go_wp2_with fail;exact Zk1 (v:=.tuple #[.agg #[sQ none 0 0,sQ none 0 0,nQ iQ 0],nQ iQ 11]) (by simp [results,results72,go_sem,z0,z1,z2]) rfl ⟨qap hY oZ _ _ _,.inr (by rw [HC.out];exact ⟨by omega,rfl⟩)⟩
         ·have e1:decide (u<0)=false:=by simpa using HB
          have e2:decide ((n.o.length:Int)<u)=true:=by simp;omega
          clear hu;go_wp2_with fail;exact Zk1 (v:=.tuple #[.agg #[sQ none 0 0,sQ none 0 0,nQ iQ 0],nQ iQ 11]) (by simp [results,results72,go_sem,z0,z1,z2]) rfl ⟨qap hY oZ _ _ _,.inr (by rw [HC.out];exact ⟨by omega,rfl⟩)⟩
       ·obtain rfl:m=v.ins.length:=by omega
        have HN:=zI (Hz.out gp.out (List.all_eq_true.2 λi hi=>by obtain ⟨j,hj,rfl⟩:=List.getElem_of_mem hi;simpa using hA j hj hj));have Hr:=zI hA;clear hA;go_wp2_with fail;go_roundw
        case rel=>exact ⟨k+1,by omega,by go_num,ho.out,ht.out,hY,HN.out⟩
        case measure=>simp [intOf];omega
    ·obtain rfl:k=n.o.length:=by omega
     have h3:Nt.iA n.o.length n.o=0:=Nt.pI hC;have Hn:∀v∈n.o,∀i∈v.ins,0<=i/\i<=n.o.length:=λv hv=>(Nt.eU h3 v hv).2
     have x0:wr.cell? ⟨w.heap.size,0,none⟩=some (sQ A n.inn.length c):=by rw [he.cell];rfl
     have x1:wr.cell? ⟨w.heap.size,1,none⟩=some (sQ N n.o.length d):=by rw [he.cell];rfl
     obtain ⟨HY,hq,hX,HH,Hj⟩:=zd5 hC he hW h3 Hn;clear hC he hW h3 Hn;go_wp2_with fail;refine (qeR A N c d n _ HD.out gf (HR.out.below hN (lrZ _)) hd Hj.out).mono ?_;rintro e w2 ⟨O,oc,rfl,hO,ge,gj,Hh,Hq⟩;have h7:∀a,O=some a->w.heap.size<=a.block:=λa ha=>Zv (Below.size hN) (Hq a ha)
     clear Hq;have gb:=zI h7;clear h7;have hn:=hN.trans (Hh.mono hN.size);have hb:=hq.out.below Hh hq.out.lt;have hf:=hX.out.below Hh hX.out.lt;have gJ:w.heap.size+1<w2.heap.size:=hf.lt;have x0:w2.cell? ⟨w.heap.size,0,none⟩=some (sQ A n.inn.length c):=by rw [hb.cell];rfl
     have x1:w2.cell? ⟨w.heap.size,1,none⟩=some (sQ N n.o.length d):=by rw [hb.cell];rfl
     clear hq hX
     by_cases hM:(Nt.sO n.o).length=n.o.length
     rotate_left
     ·have HC:=zI (Nt.pW hh.out h8.out HH.out hM)
      have e1:(((Nt.sO n.o).length:Int) != (n.o.length:Int))=true:=by rw [bne_iff_ne];omega
      have e2:((Nt.sO n.o).length != n.o.length)=true:=by rw [bne_iff_ne];omega
      obtain ⟨y0,y1,y2,f0,f1,f2⟩:=qaB hf;generalize Nt.sO n.o=os at *;obtain ⟨ho,ht,gG,HO⟩:=zd4 hb hf hM hO;clear hb hf hM hO;go_wp2_with fail;exact Zk1 (v:=.tuple #[.agg #[sQ none 0 0,sQ none 0 0,nQ iQ 0],nQ iQ 22]) (by simp [results,results72,go_sem,y0,y1,y2]) rfl ⟨qap hn oZ _ _ _,.inr (by rw [HC.out];exact ⟨by omega,rfl⟩)⟩
     ·have hK:=net_lay A N O c d oc n w2 HD.out (HR.out.below hn (lrZ _)) hd hO h8.out Hj.out
      have hD:=λh5=>Nt.pK hh.out h8.out HH.out hM h5
      have hx:=λh5 h6=>Nt.oG hh.out h8.out HH.out hM h5 h6
      have hw:=λh5 h6=>Nt.nY hh.out h8.out HH.out hM h5 h6
      have hG:=λh5:(Nt.lay n.o (Nt.start n) (Nt.sO n.o)).2=0=>Nt.kD h8.out (Nt.sO n.o).length (lrZ _) (by rw [Zg];exact h5)
      rw [Zg] at hG;have hy:=Kn.bM (I:=Nt.iF n.o) (n:=n.o.length) hM;have hy:∀u,u∈Nt.sO n.o↔1<=u/\u<=n.o.length:=hy;have Hd:(Nt.lay n.o (Nt.start n) (Nt.sO n.o)).1=Nt.shapes n:=rfl;rw [hM] at hK ⊢;obtain ⟨os,hos⟩:∃os,Nt.sO n.o=os:=⟨_,rfl⟩
      rw [hos] at hK hD hx hw hG hy Hd hO hM ge;rw [hM] at ge;obtain ⟨Hb,hS,hF,hH,Hc,hU,HA,gG,gH⟩:=zd9 hK hD hx hw hG hy Hd hM hos;obtain ⟨HO,ho,ht⟩:=zd3 hO hb hf;clear hK hD hx hw hG hy Hd hM hos hO hb hf;go_wp2_with fail;refine (Hb.out).mono ?_;rintro e w3 ⟨Hm,⟨hr,g,rfl,hg,He,gL⟩|⟨hr,rfl⟩⟩
      rotate_left
      ·have HC:=zI (hS.out hr)
       have hQ:=hn.trans (Hm.mono hn.size);obtain ⟨y0,y1,y2,f0,f1,f2⟩:=qaB (ht.out.below Hm ht.out.lt);generalize Nt.lay n.o (Nt.start n) os=r at *;have q1:(r.2 != 0)=true:=by simp [hr]
       have gR:=zI hr;clear hr;go_wp2_with fail;exact Zk1 (v:=.tuple #[.agg #[sQ none 0 0,sQ none 0 0,nQ iQ 0],nQ iQ r.2]) (by simp [results,results72,go_sem,y0,y1,y2]) rfl ⟨qap hQ oZ _ _ _,.inr (by rw [HC.out];exact ⟨gR.out,rfl⟩)⟩
      ·have H3:=Hc.out hr
       have gx:=λh6=>hF.out hr h6
       have gm:=λh6=>hH.out hr h6
       rw [HA.out] at He gL H3;have hQ:=hn.trans (Hm.mono hn.size);have hJ:=ho.out.below Hm ho.out.lt;have Ho:=ht.out.below Hm ht.out.lt;have x0:w3.cell? ⟨w.heap.size,0,none⟩=some (sQ A n.inn.length c):=by rw [hJ.cell];rfl
       have x1:w3.cell? ⟨w.heap.size,1,none⟩=some (sQ N n.o.length d):=by rw [hJ.cell];rfl
       have gC:=HO.out.below Hm (lrZ _);clear Hb hS hF hH Hc ho ht HO hr HA;obtain ⟨gy,gO,gN,Hu,Hv,Hi,go⟩:=zd7 H3 gx gm He hJ Ho gC;clear H3 gx gm He hJ Ho gC;go_wp2_with fail;refine (qfZ A N c d n _ HD.out (HR.out.below hQ (lrZ _)) hd Hj.out).mono ?_;rintro e w4 ⟨rfl,HJ⟩;have Hf:=hQ.trans (HJ.mono hQ.size);have hT:=Hi.out.below HJ Hi.out.lt;have hB:=Hu.out.below HJ (lrZ _);have HE:=go.out.below HJ (lrZ _);obtain ⟨y0,y1,y2,f0,f1,f2⟩:=qaB hT;clear Hv Hi Hu go
       by_cases HK:Nt.fC n.o=true
       rotate_left
       ·have gg:Nt.fC n.o=false:=by simpa using HK
        have HC:=zI (gO.out gg);obtain ⟨Hk,h4,gD⟩:=zd3 hT hB HE;clear hT hB HE;clear HK;go_wp2_with fail;exact Zk1 (v:=.tuple #[.agg #[sQ none 0 0,sQ none 0 0,nQ iQ 0],nQ iQ 23]) (by simp [results,results72,go_sem,y0,y1,y2]) rfl ⟨qap Hf oZ _ _ _,.inr (by rw [HC.out];exact ⟨by omega,rfl⟩)⟩
       ·have Hx:=(Nt.dD HK).2
        have Hp:=gN.out HK;obtain ⟨l,hl⟩:∃l:Nat,Nt.aI n.o=(l:Int):=⟨(Nt.aI n.o).toNat,by omega⟩
        have Hl:=zI hl;rw [hl] at Hx Hp ⊢;rw [tnZ] at Hp;have HZ:l<(Nt.shapes n).length:=by omega
        have HV:=gy.out (l:Int) (.inr ((hU.out _).2 oZ));rw [tnZ,qa7 HZ] at HV;rw [qa7 HZ] at Hp;obtain ⟨S,sc,gl,HX,gT,gW,-⟩:=hB.at_ HZ;have H2:=qac S sc _ w4 oZ HX;have H6:Sh.size (Nt.shapes n)[l]=(Safe.prod (Nt.shapes n)[l],0):=by unfold Sh.size;rw [ipZ HV]
        rw [H6] at H2;have l0:(0:Int)<=(l:Int):=by omega
        have l1:(l:Int)<((n.o.length+1:Nat):Int):=by omega
        generalize (Nt.shapes n)[l]=s at *;obtain ⟨Hk,h4,gD,gA,Hl,gP,gX,g0,gZ⟩:=zd9 hT hB HE Hp hl H2 H6 HX HV;clear hT hB HE Hp hl H2 H6 HX HV;go_wp2_with fail;refine (gP.out).mono ?_;rintro e w5 ⟨rfl,HQ⟩;have Ht:=Hf.trans (HQ.mono Hf.size);have hP:=Hk.out.below HQ Hk.out.lt;have hL:=h4.out.below HQ (lrZ _);have HM:=gD.out.below HQ (lrZ _);clear y0 y1 y2 f0 f1 f2;obtain ⟨y0,y1,y2,f0,f1,f2⟩:=qaB hP
        by_cases hp:Safe.prod s=1
        ·have HC:=zI (show Nt.check n=0 by rw [gA.out,inZ (by simp [hp])])
         have e1:(Safe.prod s != 1)=false:=by simp [hp]
         clear gl hp;obtain ⟨Hg,h9,gB⟩:=zd3 hP hL HM;clear hP hL HM;go_wp2_with fail;have H8:∀z∈os,z≠0:=λz hz=>by have:=(hU.out z).1 hz;omega
         have HW:∀s∈Nt.shapes n,∀z∈s,z≠0:=λs hs z hz=>by
          obtain ⟨i,hi,rfl⟩:=List.getElem_of_mem hs
          have gt:=gy.out (i:Int) (by
           by_cases h0:i=0
           ·exact .inl oZ
           ·exact .inr ((hU.out _).2 oZ))
          rw [tnZ,qa7 hi] at gt;have:=(Sh.aO gt).2.2.2.1 z hz;omega
         refine Zk1 (v:=.tuple #[.agg #[sQ O n.o.length oc,sQ (some ⟨g,0,none⟩) (n.o.length+1) (n.o.length+1),nQ iQ (l:Int)],nQ iQ 0]) (by simp [results,results72,go_sem,y0,y1,y2]) rfl ⟨qap Ht oZ _ _ _,.inl ⟨HC.out,O,oc,g,by rw [Hl.out],?_,ge,gj,by omega,?_,gb.out⟩⟩
         ·rw [gH.out];exact qec gB.out Hg.out H8 _ _ _
         ·exact qeS h9.out Hg.out oZ HW _ _ _
        ·have HC:=zI (show Nt.check n=23 by rw [gA.out,ipZ hp])
         have e1:(Safe.prod s != 1)=true:=by simp [hp]
         clear gl hp;obtain ⟨Hg,h9,gB⟩:=zd3 hP hL HM;clear hP hL HM;go_wp2_with fail;exact Zk1 (v:=.tuple #[.agg #[sQ none 0 0,sQ none 0 0,nQ iQ 0],nQ iQ 23]) (by simp [results,results72,go_sem,y0,y1,y2]) rfl ⟨qap Ht oZ _ _ _,.inr (by rw [HC.out];exact ⟨by omega,rfl⟩)⟩
theorem qbw (A N:Option Addr) (c d:Nat) (n:aA) (w:Zp1) (hok:n.ok) (hR:bH w A N n) (hd:n.o.length<=d):
  Calls prog 72 #[.agg #[sQ A n.inn.length c,sQ N n.o.length d]] w (tV n w):=(qed A N c d n w hok hR hd).mono λ_ _ h=>h.p
theorem qb1 (A N:Option Addr) (c d:Nat) (n:aA) (w:Zp1) (hok:n.ok) (hR:bH w A N n) (hd:n.o.length<=d):
  Calls prog 36 #[.agg #[sQ A n.inn.length c,sQ N n.o.length d]] w λe w'=>e=.returned (nQ iQ (Nt.check n))/\Below w.heap.size w w':=by
 have hb:Below w.heap.size w (w.alloc (.cells #[sQ A n.inn.length c,sQ N n.o.length d] 26)):=(Ze1 _ _).alloc (lrZ _) _;have he:=hR.below hb (lrZ _);obtain ⟨HR,hg,hf⟩:=zd3 hR hok he;clear hR hok he;go_in;go_wp2_with fail;refine (qbw A N c d n _ hg.out hf.out hd).mono ?_;rintro e w1 ⟨hh,⟨hc,O,oc,g,rfl,-,-,-,-,-⟩|⟨hc,rfl⟩⟩
 all_goals have ha:=hb.trans (hh.mono hb.size)
 ·have Hc:=zI hc
  clear hc;go_wp2_with fail;go_ret;exact ⟨by rw [Hc.out];rfl,ha.alloc ha.size _⟩
 ·have Hc:=zI hc
  clear hc;go_wp2_with fail;go_ret;exact ⟨rfl,ha.alloc ha.size _⟩
def OrderP (n:aA) (w:Zp1) (e:Ending) (w':Zp1):Prop:=
 Below w.heap.size w w'/\((Nt.check n=0/\∃O oc,e=.returned (.tuple #[sQ O n.o.length oc,nQ iQ 0])/\Ints iQ w' O (Nt.sO n.o)/\n.o.length<=oc/\oc<=9223372036854775807)∨
  (Nt.check n≠0/\e=.returned (.tuple #[sQ none 0 0,nQ iQ (Nt.check n)])))
def OrderQ (n:aA) (w:Zp1) (e:Ending) (w':Zp1):Prop:=
 Below w.heap.size w w'/\((Nt.check n=0/\∃O oc,e=.returned (.tuple #[sQ O n.o.length oc,nQ iQ 0])/\Ints iQ w' O (Nt.sO n.o)/\∀a,O=some a->w.heap.size<=a.block)∨
  (Nt.check n≠0/\e=.returned (.tuple #[sQ none 0 0,nQ iQ (Nt.check n)])))
theorem qg5 (A N:Option Addr) (c d:Nat) (n:aA) (w:Zp1) (hok:n.ok) (hR:bH w A N n) (hd:n.o.length<=d):
  Calls prog 74 #[.agg #[sQ A n.inn.length c,sQ N n.o.length d]] w (OrderQ n w):=by
 have hh:Below w.heap.size w (w.alloc (.cells #[sQ A n.inn.length c,sQ N n.o.length d] 26)):=(Ze1 _ _).alloc (lrZ _) _;have hj:=hR.below hh (lrZ _);obtain ⟨HR,hn,hm⟩:=zd3 hR hok hj;clear hR hok hj;go_in;go_wp2_with fail;refine (qed A N c d n _ hn.out hm.out hd).mono ?_;rintro e w1 ⟨hk,⟨hc,O,oc,g,rfl,hO,ho,hp,hg,he,hb⟩|⟨hc,rfl⟩⟩
 all_goals have hf:=hh.trans (hk.mono hh.size)
 ·rw [Zh1] at hg hb
  obtain ⟨Hc,HO,hl,hi⟩:=zd4 hc hO he hb;clear hc hO he hb;go_wp2_with fail
  go_ret2
  exact ⟨hf.alloc hf.size _,.inl ⟨Hc.out,O,oc,rfl,HO.out.alloc _,λa ha=>by have:=hi.out a ha;omega⟩⟩
 ·have Hc:=zI hc
  clear hc;go_wp2_with fail
  go_ret2
  exact ⟨hf.alloc hf.size _,.inr ⟨Hc.out,rfl⟩⟩
def ShapesP (n:aA) (w:Zp1) (e:Ending) (w':Zp1):Prop:=
 Below w.heap.size w w'/\((Nt.check n=0/\∃g,e=.returned (.tuple #[sQ (some ⟨g,0,none⟩) (n.o.length+1) (n.o.length+1),nQ iQ 0])/\w.heap.size<=g/\aQ w' g 23 (Nt.shapes n))∨
  (Nt.check n≠0/\e=.returned (.tuple #[sQ none 0 0,nQ iQ (Nt.check n)])))
def qcH (n:aA):Int:=if Nt.check n=0 then Nt.aI n.o else 0
theorem qb2 (A N:Option Addr) (c d:Nat) (n:aA) (w:Zp1) (hok:n.ok) (hR:bH w A N n) (hd:n.o.length<=d):
  Calls prog 74 #[.agg #[sQ A n.inn.length c,sQ N n.o.length d]] w (OrderP n w):=by
 have he:Below w.heap.size w (w.alloc (.cells #[sQ A n.inn.length c,sQ N n.o.length d] 26)):=(Ze1 _ _).alloc (lrZ _) _;have hh:=hR.below he (lrZ _);obtain ⟨HR,hm,hl⟩:=zd3 hR hok hh;clear hR hok hh;go_in;go_wp2_with fail;refine (qbw A N c d n _ hm.out hl.out hd).mono ?_;rintro e w1 ⟨hk,⟨hc,O,oc,g,rfl,hO,hi,hj,hg,hb⟩|⟨hc,rfl⟩⟩
 all_goals have ha:=he.trans (hk.mono he.size)
 ·rw [Zh1] at hg
  obtain ⟨Hc,HO,hf⟩:=zd3 hc hO hb;clear hc hO hb;go_wp2_with fail
  go_ret2
  first|exact ⟨ha.alloc ha.size _,.inl ⟨Hc.out,O,oc,rfl,HO.out.alloc _,hi,hj⟩⟩|exact ⟨ha.alloc ha.size _,.inl ⟨Hc.out,g,rfl,by omega,hf.out.alloc _⟩⟩|exact ⟨by unfold qcH;rw [Hc.out];rfl,ha.alloc ha.size _⟩
 ·have Hc:=zI hc
  clear hc;go_wp2_with fail
  go_ret2
  first|exact ⟨ha.alloc ha.size _,.inr ⟨Hc.out,rfl⟩⟩|exact ⟨by unfold qcH;rw [inZ Hc.out];rfl,ha.alloc ha.size _⟩
theorem qg6 (A N:Option Addr) (c d:Nat) (n:aA) (w:Zp1) (hok:n.ok) (hR:bH w A N n) (hd:n.o.length<=d):
  Calls prog 41 #[.agg #[sQ A n.inn.length c,sQ N n.o.length d]] w (ShapesP n w):=by
 have he:Below w.heap.size w (w.alloc (.cells #[sQ A n.inn.length c,sQ N n.o.length d] 26)):=(Ze1 _ _).alloc (lrZ _) _;have hh:=hR.below he (lrZ _);obtain ⟨HR,hm,hl⟩:=zd3 hR hok hh;clear hR hok hh;go_in;go_wp2_with fail;refine (qbw A N c d n _ hm.out hl.out hd).mono ?_;rintro e w1 ⟨hk,⟨hc,O,oc,g,rfl,hO,hi,hj,hg,hb⟩|⟨hc,rfl⟩⟩
 all_goals have ha:=he.trans (hk.mono he.size)
 ·rw [Zh1] at hg
  obtain ⟨Hc,HO,hf⟩:=zd3 hc hO hb;clear hc hO hb;go_wp2_with fail
  go_ret2
  first|exact ⟨ha.alloc ha.size _,.inl ⟨Hc.out,O,oc,rfl,HO.out.alloc _,hi,hj⟩⟩|exact ⟨ha.alloc ha.size _,.inl ⟨Hc.out,g,rfl,by omega,hf.out.alloc _⟩⟩|exact ⟨by unfold qcH;rw [Hc.out];rfl,ha.alloc ha.size _⟩
 ·have Hc:=zI hc
  clear hc;go_wp2_with fail
  go_ret2
  first|exact ⟨ha.alloc ha.size _,.inr ⟨Hc.out,rfl⟩⟩|exact ⟨by unfold qcH;rw [inZ Hc.out];rfl,ha.alloc ha.size _⟩
theorem qfy (A N:Option Addr) (c d:Nat) (n:aA) (w:Zp1) (hok:n.ok) (hR:bH w A N n) (hd:n.o.length<=d):
  Calls prog 86 #[.agg #[sQ A n.inn.length c,sQ N n.o.length d]] w λe w'=>e=.returned (.tuple #[nQ iQ (qcH n),nQ iQ (Nt.check n)])/\Below w.heap.size w w':=by
 have he:Below w.heap.size w (w.alloc (.cells #[sQ A n.inn.length c,sQ N n.o.length d] 26)):=(Ze1 _ _).alloc (lrZ _) _;have hh:=hR.below he (lrZ _);obtain ⟨HR,hm,hl⟩:=zd3 hR hok hh;clear hR hok hh;go_in;go_wp2_with fail;refine (qbw A N c d n _ hm.out hl.out hd).mono ?_;rintro e w1 ⟨hk,⟨hc,O,oc,g,rfl,hO,hi,hj,hg,hb⟩|⟨hc,rfl⟩⟩
 all_goals have ha:=he.trans (hk.mono he.size)
 ·rw [Zh1] at hg
  obtain ⟨Hc,HO,hf⟩:=zd3 hc hO hb;clear hc hO hb;go_wp2_with fail
  go_ret2
  first|exact ⟨ha.alloc ha.size _,.inl ⟨Hc.out,O,oc,rfl,HO.out.alloc _,hi,hj⟩⟩|exact ⟨ha.alloc ha.size _,.inl ⟨Hc.out,g,rfl,by omega,hf.out.alloc _⟩⟩|exact ⟨by unfold qcH;rw [Hc.out];rfl,ha.alloc ha.size _⟩
 ·have Hc:=zI hc
  clear hc;go_wp2_with fail
  go_ret2
  first|exact ⟨ha.alloc ha.size _,.inr ⟨Hc.out,rfl⟩⟩|exact ⟨by unfold qcH;rw [inZ Hc.out];rfl,ha.alloc ha.size _⟩
theorem list_one {l:List Int} (h:l.length=1):∃x,l=[x]:=by
 match l,h with
 | [x],_=>exact ⟨x,rfl⟩
theorem Nt.chainGo_step {ns:List aP} {os:List Int} {k:Nat} (hk:k<os.length) (h:Nt.cK ns 0 (os.take k)=true):
  (Nt.iF ns os[k]=[(os.take k).getLastD 0]->Nt.cK ns 0 (os.take (k+1))=true/\(os.take (k+1)).getLastD 0=os[k])/\(Nt.iF ns os[k]≠[(os.take k).getLastD 0]->Nt.cK ns 0 os=false):=by
 refine ⟨λe=>?_,λe=>?_⟩
 ·rw [Zb hk]
  refine ⟨?_,?_⟩
  ·rw [Nt.fZ,h,Nt.cK,decide_eq_true e];rfl
  ·simp only [List.getLastD_eq_getLast?,List.getLast?_concat,Option.getD_some]
 ·have:os=os.take k++os[k]::os.drop (k+1):=by rw [←Zd hk,Zn]
  rw [this,Nt.fZ,Nt.cK,decide_eq_false e,Bool.false_and,Bool.and_false]
theorem qha (A N:Option Addr) (c d:Nat) (n:aA) (w:Zp1) (hok:n.ok) (hR:bH w A N n) (hd:n.o.length<=d):
  Calls prog 73 #[.agg #[sQ A n.inn.length c,sQ N n.o.length d]] w λe w'=>e=.returned (.bool (Nt.chain n))/\Below w.heap.size w w':=by
 have hB:Below w.heap.size w (w.alloc (.cells #[sQ A n.inn.length c,sQ N n.o.length d] 26)):=(Ze1 _ _).alloc (lrZ _) _;have hK:=Blk.new w 26 #[sQ A n.inn.length c,sQ N n.o.length d];have hE:=hR.below hB (lrZ _);have hS:=hok.2.1;obtain ⟨HR,hQ,hJ,hD⟩:=zd4 hR hok hE hK;clear hR hok hE hK;go_in;go_wp2_with fail;refine (qbw A N c d n _ hQ.out hJ.out hd).mono ?_;rintro e w1 ⟨hF,⟨hc,O,oc,g,rfl,hO,hU,hX,hg,hw⟩|⟨hc,rfl⟩⟩
 all_goals have hv:=hB.trans (hF.mono hB.size)
 rotate_left
 ·have q:(Nt.check n != 0)=true:=by simp [hc]
  have HN:=zI (show Nt.chain n=false by simp [Nt.chain,hc]);clear hc;go_wp2_with fail;go_ret;exact ⟨by rw [HN.out];rfl,hv.alloc hv.size _⟩
 ·have hi:=(Nt.aK hc).2.2.2.2.1
  have hm:=hD.out.below hF sZ;have hC:Nt.chain n=Nt.cK n.o 0 (Nt.sO n.o):=by simp [Nt.chain,hc]
  have ho:∀u∈Nt.sO n.o,1<=u/\u<=n.o.length:=Kn.dX _ _;generalize Nt.sO n.o=os at *;have hb:=hv.alloc hv.size (.cells #[sQ O n.o.length oc,sQ (some ⟨g,0,none⟩) (n.o.length+1) (n.o.length+1),nQ iQ (Nt.aI n.o)] 140);have hG:=hO.alloc (.cells #[sQ O n.o.length oc,sQ (some ⟨g,0,none⟩) (n.o.length+1) (n.o.length+1),nQ iQ (Nt.aI n.o)] 140);have he:=hm.alloc (.cells #[sQ O n.o.length oc,sQ (some ⟨g,0,none⟩) (n.o.length+1) (n.o.length+1),nQ iQ (Nt.aI n.o)] 140);clear hO hm hD hJ hw hc;obtain ⟨hN,hq,hz,hA,hP⟩:=zd5 hG he hC ho hi;clear hG he hC ho hi;go_wp2_with fail;generalize w1.alloc (.cells #[sQ O n.o.length oc,sQ (some ⟨g,0,none⟩) (n.o.length+1) (n.o.length+1),nQ iQ (Nt.aI n.o)] 140)=w2 at *
  go_loop [5,19] (λbf i=>∃k:Nat,k<=os.length/\i=nQ iQ k/\bf=nQ iQ ((os.take k).getLastD 0)/\Nt.cK n.o 0 (os.take k)=true) (λ_ i=>os.length-(intOf i).toNat)
  case atStart=>exact ⟨0,Zt _,rfl,rfl,rfl⟩
  case round=>
   obtain ⟨k,hk,rfl,rfl,hf⟩:=hrel;have hi:=hP.out;have x1:w2.cell? ⟨w.heap.size,1,none⟩=some (sQ N n.o.length d):=by rw [hq.out.cell];rfl
   by_cases ht:k<os.length
   ·obtain ⟨b,off,rfl,-,hc⟩:=hN.out k ht
    rw [qa1 ht] at hc;have hr:=hA.out _ (gmZ ht);obtain ⟨ha,hh⟩:=Nt.chainGo_step ht hf;obtain ⟨j,hj⟩:∃j:Nat,os[k]=(j:Int)+1:=⟨(os[k]-1).toNat,by omega⟩
    have hI:j<n.o.length:=by omega
    have hu:Nt.iF n.o os[k]=n.o[j].ins:=by unfold Nt.iF;rw [hj,Nt.dH hI]
    rw [hu] at ha hh;rw [hj] at ha hc;obtain ⟨b1,off1,S,sc,I,ic,Q,qc,rfl,hs,-,hV,-⟩:=HR.out.2.at_ hI;obtain ⟨⟨-,-,-,-,-,-,-,-,y8,-⟩,-,hp,-⟩:=hs.below hb;generalize n.o[j]=v at *;have j1:iQ.wrap ((j:Int)+1-1)=(j:Int):=by rw [Zc1 _ oZ];omega
    have j2:(j:Int)<n.o.length:=by omega
    have hW:k<n.o.length:=by omega
    by_cases h1:v.ins.length=1
    ·obtain ⟨x,hx⟩:=list_one h1
     rw [hx] at hp ha hh y8;obtain ⟨b2,off2,rfl,-,hH⟩:=hp 0 sZ;replace hH:w2.cell? ⟨b2,off2,none⟩=some (nQ iQ x):=hH;replace y8:w2.cell? ⟨b1,off1+j*10+8,none⟩=some (sQ (some ⟨b2,off2,none⟩) 1 ic):=y8;generalize (os.take k).getLastD 0=last at *
     by_cases hl:x=last
     ·have hy:=ha (by rw [hl])
      have e1:(x != last)=false:=by simp [hl]
      clear ha hh hf hi hx hl h1 hp hs hu hj;have Hy:=zI hy;clear hy;go_wp2_with fail
      go_round
      case rel=>exact ⟨k+1,by omega,by go_num,by rw [Hy.out.2],Hy.out.1⟩
      case measure=>simp [intOf];omega
     ·have hn:=hh (by simp [hl])
      have e1:(x != last)=true:=by simp [hl]
      clear ha hh hf hi hx hl h1 hp hs hu hj;have Hn:=zI hn;clear hn;go_wp2_with fail;go_ret;exact ⟨by rw [hz.out,Hn.out];rfl,hb⟩
    ·have hn:=hh (λe=>h1 (by rw [e];rfl))
     have e1:((v.ins.length:Int) != 1)=true:=by rw [bne_iff_ne];omega
     have e2:(v.ins.length != 1)=true:=by rw [bne_iff_ne];omega
     clear ha hh hf hi h1 hp hs hu hj;have Hn:=zI hn;clear hn;go_wp2_with fail;go_ret;exact ⟨by rw [hz.out,Hn.out];rfl,hb⟩
   ·obtain rfl:k=os.length:=by omega
    rw [Zg] at hf;have hL:=zI hf;clear hf;have hT:¬(os.length:Int)<(n.o.length:Int):=by omega
    have hM:¬os.length<n.o.length:=by omega
    clear hi;go_wp2_with fail;go_ret;exact ⟨by rw [hz.out,hL.out];rfl,hb⟩
def hasB (zs:List Int) (x:Int):Bool:=zs.contains x
theorem qcI (A:Option Addr) (c:Nat) (zs:List Int) (x:Int) (w:Zp1) (hl:zs.length<=9223372036854775807) (hI:Ints iQ w A zs):
  Calls prog 68 #[sQ A zs.length c,nQ iQ x] w λe w'=>e=.returned (.bool (hasB zs x))/\w=w':=by
 have HI:=zI hI;clear hI;go_in;go_wp2_with fail
 go_loop [5] (λi=>∃k:Nat,k<=zs.length/\i=nQ iQ k/\(zs.take k).contains x=false) (λi=>zs.length-(intOf i).toNat)
 case atStart=>exact ⟨0,Zt _,rfl,rfl⟩
 case round=>
  obtain ⟨k,hk,rfl,ha⟩:=hrel
  by_cases hb:k<zs.length
  ·obtain ⟨b,off,rfl,-,hc⟩:=HI.out k hb
   rw [qa1 hb] at hc
   by_cases he:zs[k]=x
   ·have e1:(zs[k]==x)=true:=by simp [he]
    have HX:=zI (show hasB zs x=true by unfold hasB;rw [List.contains_iff_mem];rw [←he];exact gmZ hb);clear he ha;go_wp2_with fail;go_ret;exact ⟨by rw [HX.out];rfl,rfl⟩
   ·have e1:(zs[k]==x)=false:=by simp [he]
    have HX:=zI (show (zs.take (k+1)).contains x=false by
     rw [Zb hb];simp at ha;simp only [List.contains_eq_mem,List.mem_append,decide_eq_false_iff_not,List.mem_singleton];intro h;rcases h with h|h
     ·exact ha h
     ·exact he h.symm)
    clear he ha;go_wp2_with fail
    go_round
    case rel=>exact ⟨k+1,by omega,by go_num,HX.out⟩
    case measure=>simp [intOf];omega
  ·obtain rfl:k=zs.length:=by omega
   rw [Zg] at ha;have HX:=zI (show hasB zs x=false from ha);clear ha;go_wp2_with fail;go_ret;exact ⟨by rw [HX.out];rfl,rfl⟩
def Nt.count (ns:List aP) (id:Int):Nat:=(ns.filter λv=>v.ins.contains id).length
theorem qeT (A N:Option Addr) (c d:Nat) (n:aA) (id:Int) (w:Zp1) (hok:n.ok) (hR:bH w A N n):
  Calls prog 33 #[.agg #[sQ A n.inn.length c,sQ N n.o.length d],nQ iQ id] w λe w'=>e=.returned (nQ iQ (Nt.count n.o id:Nat))/\Below w.heap.size w w':=by
 have hc:Below w.heap.size w (w.alloc (.cells #[sQ A n.inn.length c,sQ N n.o.length d] 37)):=(Ze1 _ _).alloc (lrZ _) _;have hh:=Blk.new w 37 #[sQ A n.inn.length c,sQ N n.o.length d];have hf:=hR.below hc (lrZ _);have hr:=hok.2.1;obtain ⟨ho,HR,hl⟩:=zd3 hok hR hh;clear hok hR hh;go_in;go_upto_region 1 with fail;have x1:(w.alloc (.cells #[sQ A n.inn.length c,sQ N n.o.length d] 37)).cell? ⟨w.heap.size,1,none⟩=some (sQ N n.o.length d):=by rw [hl.out.cell];rfl
 generalize w.alloc (.cells #[sQ A n.inn.length c,sQ N n.o.length d] 37)=w1 at *;have hn:=zI hf;clear hf;go_wp2_with fail
 go_loop [5,6] (λt i=>∃k:Nat,k<=n.o.length/\i=nQ iQ (k:Int)/\t=nQ iQ ((Nt.count (n.o.take k) id:Nat):Int)) (λ_ i=>n.o.length-(intOf i).toNat)
 case atStart=>exact ⟨0,Zt _,rfl,rfl⟩
 case round=>
  obtain ⟨k,hk,rfl,rfl⟩:=hrel
  by_cases hb:k<n.o.length
  ·obtain ⟨b,off,S,sc,J,ic,Q,qc,rfl,hj,-,hI,-⟩:=hn.out.2.at_ hb
   have ha:=ho.out.2.2 _ (gmZ hb);have hq:=ha.2.2.1
   have hd:Nt.count (n.o.take (k+1)) id=Nt.count (n.o.take k) id+if n.o[k].ins.contains id then 1 else 0:=by
    unfold Nt.count;rw [Zb hb,List.filter_append]
    by_cases h:n.o[k].ins.contains id=true
    ·simp only [List.filter_cons,h,if_true,List.filter_nil,Ze,List.length_singleton]
    ·simp only [List.filter_cons,h,List.filter_nil,Ze];simp
   have hp:Nt.count (n.o.take k) id<=k:=by
    unfold Nt.count;refine Zv (List.length_filter_le _ _) ?_;simp;omega
   generalize n.o[k]=v at *;generalize Nt.count (n.o.take k) id=q at *;obtain ⟨⟨-,-,-,-,-,-,-,-,y8,-⟩,-,he,-⟩:=hj;obtain ⟨hi,hg,hm⟩:=zd3 he hd ha;clear he hd ha;go_wp2_with fail;refine (qcI J ic v.ins id _ oZ hi.out).mono ?_;rintro e w2 ⟨rfl,rfl⟩
   by_cases h:hasB v.ins id=true
   ·have HX:=zI (hg.out.trans (by rw [ipZ (show v.ins.contains id=true from h)]))
    rw [h];clear h;go_wp2_with fail
    go_round
    case rel=>exact ⟨k+1,by omega,by go_num,by rw [HX.out];go_num⟩
    case measure=>simp [intOf];omega
   ·have h':hasB v.ins id=false:=by simpa using h
    have HX:=zI (hg.out.trans (by rw [inZ (show ¬v.ins.contains id=true from h)]));rw [h'];clear h h';go_wp2_with fail
    go_round
    case rel=>exact ⟨k+1,by omega,by go_num,by rw [HX.out];rfl⟩
    case measure=>simp [intOf];omega
  ·obtain rfl:k=n.o.length:=by omega
   rw [Zg];go_wp2_with fail;go_ret;exact ⟨rfl,hc⟩
def qb3 (out ins:List Int) (b:Bool) (m:Nat):Bool:=b&&(ins.take m).all λi=>i==0 || out.contains i
theorem qeU {out ins:List Int} {b:Bool} {m:Nat} (hm:m<ins.length):qb3 out ins b (m+1)=(qb3 out ins b m&&(ins[m]==0 || out.contains ins[m])):=by
 unfold qb3;rw [Zb hm,List.all_append,Bool.and_assoc];simp
theorem qeV (A N:Option Addr) (c d:Nat) (n:aA) (w:Zp1) (hok:n.ok) (hR:bH w A N n):
  Calls prog 31 #[.agg #[sQ A n.inn.length c,sQ N n.o.length d]] w (SortPost (Nt.sO n.o) w):=by
 obtain ⟨i0,hi,h6,h4,hZ⟩:=info_parts qag;have hE:Below w.heap.size w (w.alloc (.cells #[sQ A n.inn.length c,sQ N n.o.length d] 37)):=(Ze1 _ _).alloc (lrZ _) _;have hT:=Blk.new w 37 #[sQ A n.inn.length c,sQ N n.o.length d];have hM:=hR.below hE (lrZ _);have Ha:=hok.2.1;have hn:Nt.sO n.o=Kn.order (Nt.iF n.o) n.o.length:=rfl;have hw:∀k (h:k<n.o.length),Nt.iF n.o ((k:Int)+1)=n.o[k].ins:=λk h=>by unfold Nt.iF;rw [Nt.dH h]
 generalize Nt.iF n.o=I at *;generalize Nt.sO n.o=os at *;obtain ⟨h8,HR,hK,hv,hH⟩:=zd5 hok hR hT hn hw;clear hok hR hT hn hw;go_in;go_upto_region 1 with fail;have x1:(w.alloc (.cells #[sQ A n.inn.length c,sQ N n.o.length d] 37)).cell? ⟨w.heap.size,1,none⟩=some (sQ N n.o.length d):=by rw [hK.out.cell];rfl
 have h9:w.heap.size<(w.alloc (.cells #[sQ A n.inn.length c,sQ N n.o.length d] 37)).heap.size:=hK.out.lt;generalize w.alloc (.cells #[sQ A n.inn.length c,sQ N n.o.length d] 37)=w1 at *;have h7:=zI hM;clear hM;go_wp2_with fail
 go_loopw [3,4] (λo i wx=>∃k:Nat,k<=n.o.length/\i=nQ iQ (k:Int)/\wx.ownsRow w1.heap.size 3 1 o (Kn.go I n.o.length k).length ((Kn.go I n.o.length k).map (Za1 iQ))/\Below w1.heap.size w1 wx) (λ_ i _=>n.o.length-(intOf i).toNat)
 case atStart=>exact ⟨0,Zt _,rfl,by simpa [Kn.go] using World.ownsRow_nil w1 w1.heap.size 3 1,Ze1 _ _⟩
 case round=>
  obtain ⟨k,hk,rfl,hown,hq⟩:=hrel;obtain ⟨Ao,co,rfl⟩:=qa8 hown;have x2:=qa0 hq x1
  by_cases Hd:k<n.o.length
  ·have hN:=λid r h=>@Kn.rQ I n.o.length k id r h
   have Hf:=Kn.pY I n.o.length k;have hd:Kn.ready I n.o.length (Kn.go I n.o.length k)=[]->Kn.go I n.o.length (k+1)=Kn.go I n.o.length k:=λh=>Kn.nO h 1
   have hO:=(qas hown).1;generalize Kn.go I n.o.length k=out at *;obtain ⟨hU,hs,hl,hP⟩:=zd4 hN hd hown hO;clear hN hd hown hO;go_wp2_with fail;clear x2
   go_loop [3,5] (λo i=>∃j:Nat,j<=n.o.length/\i=nQ iQ ((j:Int)+1)/\o=sQ Ao out.length co/\∀u:Int,1<=u->u<=j->Kn.free I out u=false) (λ_ i=>n.o.length+1-(intOf i).toNat)
   case atStart=>exact ⟨0,Zt _,rfl,rfl,λu h1 h2=>by omega⟩
   case round=>
    obtain ⟨j,hj,rfl,rfl,hy⟩:=hrel;have x2:=qa0 hq x1
    by_cases hG:j<n.o.length
    ·obtain ⟨b,off,S,sc,J,ic,Q,qc,rfl,hz,-,hI,-⟩:=h7.out.2.at_ hG
     have ht:=h8.out.2.2 _ (gmZ hG);have He:=ht.2.2.1;have hB:=hH.out j hG;generalize n.o[j]=v at *;obtain ⟨⟨-,-,-,-,-,-,-,-,y8,-⟩,-,hL,-⟩:=hz.below hq;have j1:iQ.wrap ((j:Int)+1-1)=(j:Int):=by rw [Zc1 _ oZ];omega
     have j2:(j:Int)<n.o.length:=by omega
     have j3:(j:Int)+1<=(n.o.length:Int):=by omega
     have ha:Kn.free I out ((j:Int)+1)=qb3 out v.ins (!hasB out ((j:Int)+1)) v.ins.length:=by
      unfold Kn.free qb3;rw [hB,Zg]
      rfl
     obtain ⟨Hc,hX,Hg,h3,he,hJ⟩:=zd6 hz hL hB ht ha hy;clear hz hL hB ht ha hy;go_wp2_with fail;refine (qcI Ao co out ((j:Int)+1) _ oZ hP.out).mono ?_;rintro e w3 ⟨rfl,rfl⟩;go_wp2_with fail;have ha:=he.out;generalize (!hasB out ((j:Int)+1))=bh at *;have he:=zI ha;clear ha;clear y8 x2
     go_loop [6,8] (λf i=>∃m:Nat,m<=v.ins.length/\i=nQ iQ (m:Int)/\f=.bool (qb3 out v.ins bh m)) (λ_ i=>v.ins.length-(intOf i).toNat)
     case atStart=>exact ⟨0,Zt _,rfl,by simp [qb3]⟩
     case round=>
      obtain ⟨m,hm,rfl,rfl⟩:=hrel
      by_cases hC:m<v.ins.length
      ·obtain ⟨b1,off1,rfl,-,hc⟩:=hX.out m hC
       rw [qa1 hC] at hc;have hx:=@qeU out v.ins bh m hC;generalize qb3 out v.ins bh m=fm at *;generalize v.ins[m]=u at *
       by_cases hu:u=0
       ·have e1:(u != 0)=false:=by simp [hu]
        have HF:=zI (show qb3 out v.ins bh (m+1)=fm by rw [hx,hu];simp);clear hu hx;go_wp2_with fail
        go_round
        case rel=>exact ⟨m+1,by omega,by go_num,by rw [HF.out]⟩
        case measure=>simp [intOf];omega
       ·have e1:(u != 0)=true:=by simp [hu]
        have e0:(u==0)=false:=by simp [hu]
        rw [e0,Bool.false_or] at hx;clear hu e0;have hS:=zI hx;clear hx;go_wp2_with fail;refine (qcI Ao co out u _ oZ hP.out).mono ?_;rintro e w3 ⟨rfl,rfl⟩
        by_cases hh:hasB out u=true
        ·have HF:=zI (show qb3 out v.ins bh (m+1)=fm by rw [hS.out,show out.contains u=true from hh,Bool.and_true])
         rw [hh];clear hh;go_wp2_with fail
         go_round
         case rel=>exact ⟨m+1,by omega,by go_num,by rw [HF.out]⟩
         case measure=>simp [intOf];omega
        ·have hF:hasB out u=false:=by simpa using hh
         have HF:=zI (show qb3 out v.ins bh (m+1)=false by rw [hS.out,show out.contains u=false from hF,Bool.and_false]);rw [hF];clear hh hF;go_wp2_with fail
         go_round
         case rel=>exact ⟨m+1,by omega,by go_num,by rw [HF.out]⟩
         case measure=>simp [intOf];omega
      ·obtain rfl:m=v.ins.length:=by omega
       rw [←he.out]
       by_cases hf:Kn.free I out ((j:Int)+1)=true
       ·obtain ⟨r,hr⟩:=Kn.ready_first (I:=I) (n:=n.o.length) (out:=out) (id:=(j:Int)+1) oZ oZ hf (λu h1 h2=>hJ.out u h1 oZ)
        have HG:=zI (hU.out _ _ hr);have ho:=qad hl.out (.cells #[nQ iQ ((j:Int)+1)] 3);have hg:=(hq.alloc hq.size (.cells #[nQ iQ ((j:Int)+1)] 3))
        have hQ:=zI (λb (hb:(Zb1 Ao out.length co).ownBlock=some b)=>(hl.out.lt b hb).1);rw [hf];clear hf hr;go_wp2_with (at_builtin;refine wpList_append_own_at _ rfl _ _ 22 rfl w1.heap.size 3 i0 (nQ iQ 0) 1 8 underlying22 hi h6 h4 hZ rfl dZ _ _ _ rfl ho ⟨wr.heap.size,0,none⟩ 1 1 [nQ iQ ((j:Int)+1)] rfl rfl ?c1 (by intro u hu;simp at hu;subst hu;rfl) (by unfold maxLen;omega) oZ ?c2 ?_)
        first|(case c1=>exact qaF wr _ _)|skip
        case c2=>first|exact hg.size|(have:=hq.size;omega)
        intro v' w3 hp hgrow _ hY;have hV:Below w1.heap.size w1 w3:=hg.grown hgrow hg.size (λb hb=>hQ.out b hb);have hW:=zI (show w3.ownsRow w1.heap.size 3 1 v' (Kn.go I n.o.length (k+1)).length ((Kn.go I n.o.length (k+1)).map (Za1 iQ)) by rw [HG.out];simpa using hp);clear hp hgrow hY ho hg hQ;go_wp2_with fail;go_roundw
        case rel=>exact ⟨k+1,by omega,by go_num,hW.out,hV⟩
        case measure=>simp [intOf];omega
       ·have hA:Kn.free I out ((j:Int)+1)=false:=by simpa using hf
        have h5:=zI (show ∀u:Int,1<=u->u<=((j+1:Nat):Int)->Kn.free I out u=false from λu h1 h2=>by
         by_cases e:u=(j:Int)+1
         ·rw [e];exact hA
         ·exact hJ.out u h1 oZ)
        rw [hA];clear hf hA;go_wp2_with fail
        go_round
        case rel=>exact ⟨j+1,by omega,by go_num,rfl,h5.out⟩
        case measure=>simp [intOf];omega
    ·obtain rfl:j=n.o.length:=by omega
     have HG:=zI (hs.out (Kn.ready_none (λu h1 h2=>hy u h1 h2)));have j3:¬(n.o.length:Int)+1<=(n.o.length:Int):=by omega
     clear hy;go_wp2_with fail;go_roundw
     case rel=>exact ⟨k+1,by omega,by go_num,by rw [HG.out];exact hl.out,hq⟩
     case measure=>simp [intOf];omega
  ·obtain rfl:k=n.o.length:=by omega
   have hD:os=Kn.go I n.o.length n.o.length:=hv.out;rw [←hD] at hown ⊢;obtain ⟨q1,q2,q3⟩:=qas hown;obtain ⟨hl,h0,Hb⟩:=zd3 hown q1 hD;clear hown q1 hD;go_wp2_with fail;go_ret;exact ⟨Ao,co,rfl,h0.out,q2,q3,hE.trans (hq.mono hE.size)⟩
theorem qeW (o:OpD) (S:Option Addr) (c:Nat) (w:Zp1) (hl:o.s.length<=9223372036854775807):
  Calls prog 30 #[.agg #[nQ iQ o.kind,nQ iQ o.k,nQ iQ o.width,nQ iQ o.step,nQ iQ o.side,nQ iQ o.frm,nQ iQ o.to,sQ S o.s.length c]] w λe w'=>e=.returned (.bool (Od.bQ o))/\Below w.heap.size w w':=by
 have ha:Below w.heap.size w (w.alloc (.cells #[nQ iQ o.kind,nQ iQ o.k,nQ iQ o.width,nQ iQ o.step,nQ iQ o.side,nQ iQ o.frm,nQ iQ o.to,sQ S o.s.length c] 83)):=(Ze1 _ _).alloc (lrZ _) _;have hb:=Blk.new w 83 #[nQ iQ o.kind,nQ iQ o.k,nQ iQ o.width,nQ iQ o.step,nQ iQ o.side,nQ iQ o.frm,nQ iQ o.to,sQ S o.s.length c];obtain ⟨y0,y1,y2,y3,y4,y5,y6,y7⟩:=qah hb;have HB:=zI ha;clear hb ha;go_in;go_upto_region 1 with fail;generalize (w.alloc (.cells #[nQ iQ o.kind,nQ iQ o.k,nQ iQ o.width,nQ iQ o.step,nQ iQ o.side,nQ iQ o.frm,nQ iQ o.to,sQ S o.s.length c] 83))=w1 at *
 go_cut [10] (λv wx=>v=.bool (decide (o.kind<1∨15<o.kind))/\w1=wx)
 case first=>
  by_cases c1:o.kind<1
  ·have e1:decide (o.kind<1)=true:=by simp;omega
   have HX:=zI (show decide (o.kind<1∨15<o.kind)=true by simp;omega);clear c1;go_wp2_with fail
   go_meet
   exact ⟨by rw [HX.out],rfl⟩
  ·have e1:decide (o.kind<1)=false:=by simp;omega
   by_cases c2:15<o.kind
   ·have e2:decide (15<o.kind)=true:=by simp;omega
    have HX:=zI (show decide (o.kind<1∨15<o.kind)=true by simp;omega);clear c1 c2;go_wp2_with fail
    go_meet
    exact ⟨by rw [HX.out],rfl⟩
   ·have e2:decide (15<o.kind)=false:=by simp;omega
    have HX:=zI (show decide (o.kind<1∨15<o.kind)=false by simp;omega);clear c1 c2;go_wp2_with fail
    go_meet
    exact ⟨by rw [HX.out],rfl⟩
 case rest=>
  obtain ⟨rfl,rfl⟩:=hcut
  by_cases f0:o.kind<1∨15<o.kind
  ·have q0:decide (o.kind<1∨15<o.kind)=true:=decide_eq_true f0
   have HX:=zI (show Od.bQ o=false by unfold Od.bQ;rw [ipZ f0]);clear f0;rw [q0];clear q0;go_wp2_with fail;go_ret;exact ⟨by rw [HX.out];rfl,HB.out⟩
  ·have q0:decide (o.kind<1∨15<o.kind)=false:=decide_eq_false f0
   rw [q0];clear q0;go_upto_region 3 with fail
   go_cut [23] (λv wx=>v=.bool (decide (o.k≠0/\o.kind≠2/\o.kind≠5))/\w1=wx)
   case first=>
    by_cases c1:o.k=0
    ·have e1:(o.k != 0)=false:=by simp;omega
     have HX:=zI (show decide (o.k≠0/\o.kind≠2/\o.kind≠5)=false by simp;omega);clear c1;go_wp2_with fail
     go_meet
     exact ⟨by rw [HX.out],rfl⟩
    ·have e1:(o.k != 0)=true:=by simp;omega
     by_cases c2:o.kind=2
     ·have e2:(o.kind != 2)=false:=by simp;omega
      have HX:=zI (show decide (o.k≠0/\o.kind≠2/\o.kind≠5)=false by simp;omega);clear c1 c2;go_wp2_with fail
      go_meet
      exact ⟨by rw [HX.out],rfl⟩
     ·have e2:(o.kind != 2)=true:=by simp;omega
      by_cases c3:o.kind=5
      ·have e3:(o.kind != 5)=false:=by simp;omega
       have HX:=zI (show decide (o.k≠0/\o.kind≠2/\o.kind≠5)=false by simp;omega);clear c1 c2 c3;go_wp2_with fail
       go_meet
       exact ⟨by rw [HX.out],rfl⟩
      ·have e3:(o.kind != 5)=true:=by simp;omega
       have HX:=zI (show decide (o.k≠0/\o.kind≠2/\o.kind≠5)=true by simp;omega);clear c1 c2 c3;go_wp2_with fail
       go_meet
       exact ⟨by rw [HX.out],rfl⟩
   case rest=>
    obtain ⟨rfl,rfl⟩:=hcut
    by_cases f1:o.k≠0/\o.kind≠2/\o.kind≠5
    ·have q1:decide (o.k≠0/\o.kind≠2/\o.kind≠5)=true:=decide_eq_true f1
     have HX:=zI (show Od.bQ o=false by unfold Od.bQ;rw [inZ f0,ipZ f1]);clear f0 f1;rw [q1];clear q1;go_wp2_with fail;go_ret;exact ⟨by rw [HX.out];rfl,HB.out⟩
    ·have q1:decide (o.k≠0/\o.kind≠2/\o.kind≠5)=false:=decide_eq_false f1
     rw [q1];clear q1;go_upto_region 5 with fail
     go_cut [36] (λv wx=>v=.bool (decide (o.width≠0/\o.kind≠11/\o.kind≠12))/\w1=wx)
     case first=>
      by_cases c1:o.width=0
      ·have e1:(o.width != 0)=false:=by simp;omega
       have HX:=zI (show decide (o.width≠0/\o.kind≠11/\o.kind≠12)=false by simp;omega);clear c1;go_wp2_with fail
       go_meet
       exact ⟨by rw [HX.out],rfl⟩
      ·have e1:(o.width != 0)=true:=by simp;omega
       by_cases c2:o.kind=11
       ·have e2:(o.kind != 11)=false:=by simp;omega
        have HX:=zI (show decide (o.width≠0/\o.kind≠11/\o.kind≠12)=false by simp;omega);clear c1 c2;go_wp2_with fail
        go_meet
        exact ⟨by rw [HX.out],rfl⟩
       ·have e2:(o.kind != 11)=true:=by simp;omega
        by_cases c3:o.kind=12
        ·have e3:(o.kind != 12)=false:=by simp;omega
         have HX:=zI (show decide (o.width≠0/\o.kind≠11/\o.kind≠12)=false by simp;omega);clear c1 c2 c3;go_wp2_with fail
         go_meet
         exact ⟨by rw [HX.out],rfl⟩
        ·have e3:(o.kind != 12)=true:=by simp;omega
         have HX:=zI (show decide (o.width≠0/\o.kind≠11/\o.kind≠12)=true by simp;omega);clear c1 c2 c3;go_wp2_with fail
         go_meet
         exact ⟨by rw [HX.out],rfl⟩
     case rest=>
      obtain ⟨rfl,rfl⟩:=hcut
      by_cases f2:o.width≠0/\o.kind≠11/\o.kind≠12
      ·have q2:decide (o.width≠0/\o.kind≠11/\o.kind≠12)=true:=decide_eq_true f2
       have HX:=zI (show Od.bQ o=false by unfold Od.bQ;rw [inZ f0,inZ f1,ipZ f2]);clear f0 f1 f2;rw [q2];clear q2;go_wp2_with fail;go_ret;exact ⟨by rw [HX.out];rfl,HB.out⟩
      ·have q2:decide (o.width≠0/\o.kind≠11/\o.kind≠12)=false:=decide_eq_false f2
       rw [q2];clear q2;go_upto_region 7 with fail
       go_cut [49] (λv wx=>v=.bool (decide (o.step≠0/\(o.kind<10∨12<o.kind)))/\w1=wx)
       case first=>
        by_cases c1:o.step=0
        ·have e1:(o.step != 0)=false:=by simp;omega
         have HX:=zI (show decide (o.step≠0/\(o.kind<10∨12<o.kind))=false by simp;omega);clear c1;go_wp2_with fail
         go_meet
         exact ⟨by rw [HX.out],rfl⟩
        ·have e1:(o.step != 0)=true:=by simp;omega
         by_cases c2:o.kind<10
         ·have e2:decide (o.kind<10)=true:=by simp;omega
          have HX:=zI (show decide (o.step≠0/\(o.kind<10∨12<o.kind))=true by simp;omega);clear c1 c2;go_wp2_with fail
          go_meet
          exact ⟨by rw [HX.out],rfl⟩
         ·have e2:decide (o.kind<10)=false:=by simp;omega
          by_cases c3:12<o.kind
          ·have e3:decide (12<o.kind)=true:=by simp;omega
           have HX:=zI (show decide (o.step≠0/\(o.kind<10∨12<o.kind))=true by simp;omega);clear c1 c2 c3;go_wp2_with fail
           go_meet
           exact ⟨by rw [HX.out],rfl⟩
          ·have e3:decide (12<o.kind)=false:=by simp;omega
           have HX:=zI (show decide (o.step≠0/\(o.kind<10∨12<o.kind))=false by simp;omega);clear c1 c2 c3;go_wp2_with fail
           go_meet
           exact ⟨by rw [HX.out],rfl⟩
       case rest=>
        obtain ⟨rfl,rfl⟩:=hcut
        by_cases f3:o.step≠0/\(o.kind<10∨12<o.kind)
        ·have q3:decide (o.step≠0/\(o.kind<10∨12<o.kind))=true:=decide_eq_true f3
         have HX:=zI (show Od.bQ o=false by unfold Od.bQ;rw [inZ f0,inZ f1,inZ f2,ipZ f3]);clear f0 f1 f2 f3;rw [q3];clear q3;go_wp2_with fail;go_ret;exact ⟨by rw [HX.out];rfl,HB.out⟩
        ·have q3:decide (o.step≠0/\(o.kind<10∨12<o.kind))=false:=decide_eq_false f3
         rw [q3];clear q3;go_upto_region 9 with fail
         go_cut [62] (λv wx=>v=.bool (decide (o.side≠0/\o.kind≠13/\o.kind≠14))/\w1=wx)
         case first=>
          by_cases c1:o.side=0
          ·have e1:(o.side != 0)=false:=by simp;omega
           have HX:=zI (show decide (o.side≠0/\o.kind≠13/\o.kind≠14)=false by simp;omega);clear c1;go_wp2_with fail
           go_meet
           exact ⟨by rw [HX.out],rfl⟩
          ·have e1:(o.side != 0)=true:=by simp;omega
           by_cases c2:o.kind=13
           ·have e2:(o.kind != 13)=false:=by simp;omega
            have HX:=zI (show decide (o.side≠0/\o.kind≠13/\o.kind≠14)=false by simp;omega);clear c1 c2;go_wp2_with fail
            go_meet
            exact ⟨by rw [HX.out],rfl⟩
           ·have e2:(o.kind != 13)=true:=by simp;omega
            by_cases c3:o.kind=14
            ·have e3:(o.kind != 14)=false:=by simp;omega
             have HX:=zI (show decide (o.side≠0/\o.kind≠13/\o.kind≠14)=false by simp;omega);clear c1 c2 c3;go_wp2_with fail
             go_meet
             exact ⟨by rw [HX.out],rfl⟩
            ·have e3:(o.kind != 14)=true:=by simp;omega
             have HX:=zI (show decide (o.side≠0/\o.kind≠13/\o.kind≠14)=true by simp;omega);clear c1 c2 c3;go_wp2_with fail
             go_meet
             exact ⟨by rw [HX.out],rfl⟩
         case rest=>
          obtain ⟨rfl,rfl⟩:=hcut
          by_cases f4:o.side≠0/\o.kind≠13/\o.kind≠14
          ·have q4:decide (o.side≠0/\o.kind≠13/\o.kind≠14)=true:=decide_eq_true f4
           have HX:=zI (show Od.bQ o=false by unfold Od.bQ;rw [inZ f0,inZ f1,inZ f2,inZ f3,ipZ f4]);clear f0 f1 f2 f3 f4;rw [q4];clear q4;go_wp2_with fail;go_ret;exact ⟨by rw [HX.out];rfl,HB.out⟩
          ·have q4:decide (o.side≠0/\o.kind≠13/\o.kind≠14)=false:=decide_eq_false f4
           rw [q4];clear q4;go_upto_region 11 with fail
           go_cut [75] (λv wx=>v=.bool (decide ((o.frm≠0∨o.to≠0)/\o.kind≠14))/\w1=wx)
           case first=>
            by_cases c1:o.frm=0
            ·have e1:(o.frm != 0)=false:=by simp;omega
             by_cases c2:o.to=0
             ·have e2:(o.to != 0)=false:=by simp;omega
              have HX:=zI (show decide ((o.frm≠0∨o.to≠0)/\o.kind≠14)=false by simp;omega);clear c1 c2;go_wp2_with fail
              go_meet
              exact ⟨by rw [HX.out],rfl⟩
             ·have e2:(o.to != 0)=true:=by simp;omega
              by_cases c3:o.kind=14
              ·have e3:(o.kind != 14)=false:=by simp;omega
               have HX:=zI (show decide ((o.frm≠0∨o.to≠0)/\o.kind≠14)=false by simp;omega);clear c1 c2 c3;go_wp2_with fail
               go_meet
               exact ⟨by rw [HX.out],rfl⟩
              ·have e3:(o.kind != 14)=true:=by simp;omega
               have HX:=zI (show decide ((o.frm≠0∨o.to≠0)/\o.kind≠14)=true by simp;omega);clear c1 c2 c3;go_wp2_with fail
               go_meet
               exact ⟨by rw [HX.out],rfl⟩
            ·have e1:(o.frm != 0)=true:=by simp;omega
             by_cases c2:o.kind=14
             ·have e2:(o.kind != 14)=false:=by simp;omega
              have HX:=zI (show decide ((o.frm≠0∨o.to≠0)/\o.kind≠14)=false by simp;omega);clear c1 c2;go_wp2_with fail
              go_meet
              exact ⟨by rw [HX.out],rfl⟩
             ·have e2:(o.kind != 14)=true:=by simp;omega
              have HX:=zI (show decide ((o.frm≠0∨o.to≠0)/\o.kind≠14)=true by simp;omega);clear c1 c2;go_wp2_with fail
              go_meet
              exact ⟨by rw [HX.out],rfl⟩
           case rest=>
            obtain ⟨rfl,rfl⟩:=hcut
            by_cases f5:(o.frm≠0∨o.to≠0)/\o.kind≠14
            ·have q5:decide ((o.frm≠0∨o.to≠0)/\o.kind≠14)=true:=decide_eq_true f5
             have HX:=zI (show Od.bQ o=false by unfold Od.bQ;rw [inZ f0,inZ f1,inZ f2,inZ f3,inZ f4,ipZ f5]);clear f0 f1 f2 f3 f4 f5;rw [q5];clear q5;go_wp2_with fail;go_ret;exact ⟨by rw [HX.out];rfl,HB.out⟩
            ·have q5:decide ((o.frm≠0∨o.to≠0)/\o.kind≠14)=false:=decide_eq_false f5
             rw [q5];clear q5;have HF:=zI (show Od.bQ o=decide (o.s=[]∨o.kind=15) by unfold Od.bQ;rw [inZ f0,inZ f1,inZ f2,inZ f3,inZ f4,inZ f5]);clear f0 f1 f2 f3 f4 f5
             by_cases h1:o.s=[]
             ·have HX:=zI (show decide (o.s=[]∨o.kind=15)=true by simp [h1])
              have e1:((o.s.length:Int)==0)=true:=by simp [h1]
              have e2:o.s.length=0:=by simp [h1]
              rw [e2] at *;clear h1;go_wp2_with fail;go_ret;exact ⟨by rw [HF.out,HX.out];rfl,HB.out⟩
             ·have e1:((o.s.length:Int)==0)=false:=by simp [h1]
              have e2:(o.s.length==0)=false:=by simp [h1]
              by_cases h2:o.kind=15
              ·have HX:=zI (show decide (o.s=[]∨o.kind=15)=true by simp [h2])
               have e3:(o.kind==15)=true:=by simp [h2]
               clear h1 h2;go_wp2_with fail;go_ret;exact ⟨by rw [HF.out,HX.out];rfl,HB.out⟩
              ·have HX:=zI (show decide (o.s=[]∨o.kind=15)=false by simp [h1,h2])
               have e3:(o.kind==15)=false:=by simp [h2]
               clear h1 h2;go_wp2_with fail;go_ret;exact ⟨by rw [HF.out,HX.out];rfl,HB.out⟩
def cZ (r:List Int × Int) (w:Zp1) (e:Ending) (w':Zp1):Prop:=
 ∃S c,e=.returned (.tuple #[sQ S r.1.length c,nQ iQ r.2])/\Ints iQ w' S r.1/\r.1.length<=c/\c<=9223372036854775807/\Below w.heap.size w w'
def WithP (zs:List Int) (w:Zp1) (e:Ending) (w':Zp1):Prop:=
 ∃g,e=.returned (sQ (some ⟨g,0,none⟩) zs.length zs.length)/\Ints iQ w' (some ⟨g,0,none⟩) zs/\w.heap.size<=g/\Below w.heap.size w w'
theorem qbM (A:Option Addr) (c:Nat) (zs:List Int) (i:Nat) (v:Int) (w:Zp1) (hl:zs.length<=17592186043904) (hI:Ints iQ w A zs) (hi':i<zs.length):
  Calls prog 105 #[sQ A zs.length c,nQ iQ (i:Int),nQ iQ v] w (WithP (zs.set i v) w):=by
 obtain ⟨i0,hi,hm,hg,hn⟩:=info_parts qag;have HI:=zI hI;clear hI;go_in;go_wp2_with (at_make;refine wpList_make_full _ rfl _ _ 22 rfl w.heap.size 3 i0 (nQ iQ 0) 1 underlying22 hi hm hg _ _ _ _ zs.length rfl rfl (by first|rfl|simp) (by first|rfl|simp) ?b2 ?b3 (lrZ _) ?_)
 case b2=>rw [hn];omega
 case b3=>unfold maxLen;omega
 intro w1 hown hgrow;have hb:=qam hown;have hc:Below w.heap.size w w1:=(Ze1 _ w).grown hgrow (lrZ _) sZ;have ha:=hown.1;have hf:=zI (HI.out.below hc (lrZ _));generalize (madeCells #[Za1 iQ 0] zs.length).toList=cur at *;clear hown hgrow HI;go_wp2_with (with_reducible refine wpList_copy_splice rfl (.tmp 11) (.tmp 12) 22 22 rfl 3 underlying22 ?d1 (some ⟨w.heap.size,0,none⟩) A zs.length zs.length zs.length c rfl rfl w.heap.size 0 cur 3 hb (zs.map (Za1 iQ)) ?d2 ?d3 ?d4 ?d5 w.heap.size w hc (lrZ _) ?_)
 case d1=>kernel_rfl
 case d2=>simp
 case d3=>intro hp;exact hf.out.uX (by simpa using hp)
 case d4=>simp at ha ⊢;omega
 case d5=>intro v hv;obtain ⟨x,_,rfl⟩:=List.mem_map.1 hv;rfl
 intro w2 hd hh;have hs:=qde (cur:=cur) (cs:=zs.map (Za1 iQ)) (by simp at ha ⊢;omega);have hk:Blk w2 w.heap.size 3 (zs.map (Za1 iQ)).toArray:=by unfold Blk;rw [←hs];exact hd.out
 have y:w2.cell? ⟨w.heap.size,i,none⟩=some (nQ iQ zs[i]):=by rw [hk.cell];simp [hi']
 have f:=hk.frozen i;have he:=hk.aU i (nQ iQ v);have l0:(0:Int)<=(i:Int):=by omega
 have l1:(i:Int)<(zs.length:Int):=by omega
 obtain ⟨Hk,ho⟩:=zd2 hk he;clear hk he;clear hd hc ha hs hb;go_wp2_with fail;go_ret;refine ⟨w.heap.size,by rw [List.length_set];rfl,Ints.dN λj hj=>?_,lrZ _,hh.setCell (lrZ _) _⟩;rw [Zw,ho.out.cell j];rw [qa1 hj];simp at hj;simp [List.getElem_set,hj]
 split<;>simp_all
theorem qaQ (side:Int):∀(a b:List (List Int)) (s:List Int),Od.bA side s (a++b)=if (Od.bA side s a).2=0 then Od.bA side (Od.bA side s a).1 b else ([],(Od.bA side s a).2)
 | [],b,s=>by simp [Od.bA]
 | t::a,b,s=>by
  rw [List.cons_append,Od.bA,Od.bA]
  split
  ·exact qaQ side a b _
  ·rename_i h;simp
theorem qee {side:Int} {l:List (List Int)} {s s1:List Int} {k:Nat} (hk:k<l.length) (h:Od.bA side s (l.take k)=(s1,0)):
  ((Od.join s1 l[k] side).2=0->Od.bA side s (l.take (k+1))=((Od.join s1 l[k] side).1,0))/\((Od.join s1 l[k] side).2≠0->Od.bA side s l=([],(Od.join s1 l[k] side).2)):=by
 refine ⟨λe=>?_,λe=>?_⟩
 ·rw [Zb hk,qaQ,h]
  simp [Od.bA,e]
 ·have:l=l.take k++l[k]::l.drop (k+1):=by rw [←Zd hk,Zn]
  have e2:=congrArg (Od.bA side s) this;rw [e2,qaQ,h];simp [Od.bA,e]
def qfz (s t:List Int) (side:Int) (m:Nat):Prop:=∀j,j<m->(j:Int)=side∨s.getD j 0=t.getD j 0
theorem qg7 {s t:List Int} {side:Int} (h:qfz s t side s.length):Od.fV s t side=true:=by
 unfold Od.fV;rw [Zf];intro i hi;have:=h i (List.mem_range.1 hi);simpa using this
theorem qg8 {s t:List Int} {side:Int} {m:Nat} (hm:m<s.length) (h1:(m:Int)≠side) (h2:s.getD m 0≠t.getD m 0):Od.fV s t side=false:=by
 unfold Od.fV;rw [List.all_eq_false];exact ⟨m,List.mem_range.2 hm,by simp [h1] ;simpa using h2⟩
theorem qef (side:Int) (X:Option Addr) (c:Nat) (xs:List (List Int)) (w:Zp1) (hX:bI w X xs) (hl:xs.length<=1048576) (h1:1<=xs.length) (hr:∀s∈xs,Sh.right s=true):
  Calls prog 106 #[nQ iQ side,sQ X xs.length c] w (cZ (Od.joined side xs) w):=by
 obtain ⟨b0,off0,S0,c0,rfl,-,y0,hR,Hp,Hi⟩:=hX 0 oZ;have hQ:=hr xs[0] (gmZ oZ);have hY:xs.getD 0 []=xs[0]:=qa7 oZ;have hx:xs.drop 1=xs.drop 1:=rfl;have hH:Od.joined side xs=if xs.length=1/\Od.inR side xs[0]=false then ([],11) else Od.bA side xs[0] (xs.drop 1):=by unfold Od.joined;rw [hY]
 have Hw:=(qa4 hQ).2;rw [Zx] at y0
 by_cases hd:xs.length=1/\Od.inR side xs[0]=false
 ·have HQ:=zI (show Od.joined side xs=([],11) by rw [hH,ipZ hd])
  have hb:=hd.2;have e1:((xs.length:Int)==1)=true:=by simp;omega
  have e1':(xs.length==1)=true:=by simp;omega
  simp [Od.inR] at hb;clear hH hx hY;generalize xs[0]=s at *;obtain ⟨HX,Hr,h6,Hv,Hs⟩:=zd5 hX hr hR hQ hd;clear hX hr hR hQ hd
  by_cases hn:side<0
  ·have e2:decide (side<0)=true:=by simpa using hn
   clear hb;go_in;go_wp2_with fail
   go_ret2
   exact ⟨none,0,by rw [HQ.out];rfl,by rw [HQ.out];exact Ints.nil,by rw [HQ.out];exact lrZ _,by omega,Ze1 _ _⟩
  ·have e2:decide (side<0)=false:=by simpa using hn
   have e3:decide ((s.length:Int)<=side)=true:=by simpa using hb oZ
   clear hb;go_in;go_wp2_with fail
   go_ret2
   exact ⟨none,0,by rw [HQ.out];rfl,by rw [HQ.out];exact Ints.nil,by rw [HQ.out];exact lrZ _,by omega,Ze1 _ _⟩
 ·rw [inZ hd] at hH
  have h3:∀t∈xs.drop 1,Sh.right t=true:=λt ht=>hr t (Zp ht)
  have Hk:(xs.drop 1).length=xs.length-1:=by simp
  have h4:∀k (h:k<(xs.drop 1).length),∃S c,w.cell? ⟨b0,off0+(k+1),none⟩=some (sQ S (xs.drop 1)[k].length c)/\Ints iQ w S (xs.drop 1)[k]:=λk h=>by
   obtain ⟨b,off,S,c,e,-,hc,hI,-⟩:=hX (k+1) oZ;injection e with e
   injection e with e1 e2
   subst e1 e2;rw [List.getElem_drop];simp only [Nat.add_comm 1 k];exact ⟨S,c,hc,hI⟩
  have he:xs.length=1->Od.inR side xs[0]=true:=λh=>by by_cases q:Od.inR side xs[0]=true;exact q;exact absurd ⟨h,by simpa using q⟩ hd
  generalize xs[0]=s0 at *;obtain ⟨l,hl'⟩:∃l,xs.drop 1=l:=⟨_,rfl⟩
  rw [hl'] at h3 Hk h4 hH;clear hx hY hd hl';obtain ⟨HX,Hr,h6,hJ,Ho,Hm⟩:=zd6 hX hr hR hH h3 h4;clear hX hr hR hH h3 h4;go_in;go_upto_region 2 with fail
  go_cut [24] (λv wx=>v=.bool false/\w=wx)
  case first=>
   by_cases hZ:xs.length=1
   ·have hg:=he hZ
    simp [Od.inR] at hg;obtain ⟨p1,p2⟩:=hg;have e1:((xs.length:Int)==1)=true:=by simp;omega
    have e1':(xs.length==1)=true:=by simp;omega
    have e2:decide (side<0)=false:=by simp;omega
    have e3:decide ((s0.length:Int)<=side)=false:=by simp;omega
    clear he hZ;go_wp2_with fail
    go_meet
    exact ⟨rfl,rfl⟩
   ·have e1:((xs.length:Int)==1)=false:=by simp;omega
    have e1':(xs.length==1)=false:=by simp;omega
    clear he hZ;go_wp2_with fail
    go_meet
    exact ⟨rfl,rfl⟩
  case rest=>
   obtain ⟨rfl,rfl⟩:=hcut;clear he;go_wp2_with fail
   go_loopw [6,7] (λo i wr=>∃(k:Nat) (S:Option Addr) (d:Nat) (s:List Int),k<=l.length/\i=nQ iQ ((k:Int)+1)/\o=sQ S s.length d/\Ints iQ wr S s/\s.length<=d/\d<=9223372036854775807/\Sh.right s=true/\Od.bA side s0 (l.take k)=(s,0)/\Below w.heap.size w wr) (λ_ i _=>l.length+1-(intOf i).toNat)
   case atStart=>exact ⟨0,S0,c0,s0,Zt _,rfl,rfl,h6.out,Hp,Hi,hQ,rfl,Ze1 _ _⟩
   case round=>
    obtain ⟨k,S,d,s,hk,rfl,rfl,hI,Hj,Hl,hf,hs,hq⟩:=hrel
    by_cases h5:k<l.length
    ·obtain ⟨St,ct,yt,hC⟩:=Hm.out k h5
     have ho:=Ho.out _ (gmZ h5);obtain ⟨hB,hu⟩:=qee h5 hs;generalize l[k]=t at *;have y1:=qa0 hq yt;have ha:=hC.below hq (lrZ _);obtain ⟨s3,s4⟩:=qa4 hf;obtain ⟨t3,t4⟩:=qa4 ho;have k1:((k:Int)+1)<(xs.length:Int):=by omega
     have k2:((k:Int)+1).toNat=k+1:=by omega
     have k0:(0:Int)<=(k:Int)+1:=by omega
     have k3:iQ.wrap ((k:Int)+1+1)=(k:Int)+1+1:=Zc1 _ oZ
     by_cases hv:t.length=s.length
     rotate_left
     ·have e1:((t.length:Int) != (s.length:Int))=true:=by rw [bne_iff_ne];omega
      have e2:(t.length != s.length)=true:=by rw [bne_iff_ne];omega
      have hj:Od.join s t side=([],20):=by unfold Od.join;rw [inZ];simp;intro _ _ h;exact absurd h.symm hv
      have HQ:=zI (hJ.out.trans (hu (by rw [hj];simp)));have HJ:=zI hj;clear hB hu hv hj hs;obtain ⟨HI,h8,hO,h0,Hd⟩:=zd5 hI hC ha hf ho;clear hI hC ha hf ho;go_wp2_with fail
      go_ret2
      exact ⟨none,0,by rw [HQ.out,HJ.out];rfl,by rw [HQ.out];exact Ints.nil,by rw [HQ.out];exact lrZ _,by omega,hq⟩
     ·by_cases hg:Od.inR side s=true
      rotate_left
      ·have hj:Od.join s t side=([],11):=by unfold Od.join;rw [ipZ (by simp [hf,ho,hv]),inZ hg]
       have HQ:=zI (hJ.out.trans (hu (by rw [hj];simp)));have HJ:=zI hj;simp [Od.inR] at hg;rw [hv] at y1;clear hB hu hv hj hs;obtain ⟨HI,h8,hO,h0,Hd⟩:=zd5 hI hC ha hf ho;clear hI hC ha hf ho
       by_cases hn:side<0
       ·have e2:decide (side<0)=true:=by simpa using hn
        clear hg;go_wp2_with fail
        go_ret2
        exact ⟨none,0,by rw [HQ.out,HJ.out];rfl,by rw [HQ.out];exact Ints.nil,by rw [HQ.out];exact lrZ _,by omega,hq⟩
       ·have e2:decide (side<0)=false:=by simpa using hn
        have e3:decide ((s.length:Int)<=side)=true:=by simpa using hg oZ
        clear hg;go_wp2_with fail
        go_ret2
        exact ⟨none,0,by rw [HQ.out,HJ.out];rfl,by rw [HQ.out];exact Ints.nil,by rw [HQ.out];exact lrZ _,by omega,hq⟩
      ·have hp:Od.join s t side=if Od.fV s t side&&Sh.right (Od.joinL s t side) then (Od.joinL s t side,0) else ([],20):=by unfold Od.join;rw [ipZ (by simp [hf,ho,hv]),ipZ hg]
       simp [Od.inR] at hg;obtain ⟨sd,rfl⟩:∃sd:Nat,side=(sd:Int):=⟨side.toNat,by omega⟩
       have hS:sd<s.length:=by omega
       have e2:decide ((sd:Int)<0)=false:=by simp
       have e3:decide ((s.length:Int)<=(sd:Int))=false:=by simp;omega
       have e3':decide (s.length<=sd)=false:=by simp;omega
       rw [hv] at y1;clear hg;obtain ⟨bS,offS,rfl,-,-⟩:=hI 0 s3;obtain ⟨bT,offT,rfl,-,-⟩:=ha 0 t3;have Hz:=(Sh.aO hf).2.2.2.1 s[sd] (gmZ hS);have hh:sd<t.length:=by omega
       have Hx:=(Sh.aO ho).2.2.2.1 (t[sd]'hh) (gmZ hh);have hF:Od.joinL s t (sd:Int)=s.set sd (s[sd]+t[sd]'hh):=by unfold Od.joinL Od.at_;rw [tnZ,qa1 hS,qa1 hh]
       have h7:∀m (h:m<s.length),wr.cell? ⟨bS,offS+m,none⟩=some (nQ iQ s[m]):=λm h=>by
        obtain ⟨b,o,e,-,hc⟩:=hI m h;injection e with e;injection e with e1 e2;subst e1 e2
        rw [hc,qa1 h]
       have Hg:∀m (h:m<t.length),wr.cell? ⟨bT,offT+m,none⟩=some (nQ iQ t[m]):=λm h=>by
        obtain ⟨b,o,e,-,hc⟩:=ha m h;injection e with e;injection e with e1 e2;subst e1 e2
        rw [hc,qa1 h]
       have hN:=λm (hm:m<s.length)=>@qg8 s t (sd:Int) m hm
       obtain ⟨HI,h8,hO,h0,Hd,h2,hU,hD,Hq⟩:=zd9 hI hC ha hf ho hB hu hp hs;obtain ⟨Hn,Hc,He,Ha,hW⟩:=zd5 hv hF h7 Hg hN;clear hI hC ha hf ho hB hu hp hs hv hF h7 Hg hN;go_wp2_with fail;obtain ⟨wo,rfl⟩:∃wo,wo=wr:=⟨wr,rfl⟩
       go_loopw [8] (λi wx=>∃m q:Nat,m<=s.length/\i=nQ iQ (m:Int)/\qfz s t (sd:Int) m/\wx=wo.drewN q) (λi _=>s.length-(intOf i).toNat)
       case atStart=>exact ⟨0,0,Zt _,rfl,λj hj=>by omega,rfl⟩
       case round=>
        obtain ⟨m,q,hm,rfl,hz,rfl⟩:=hrel
        by_cases hV:m<s.length
        ·have hy:m<t.length:=by have:=Hn.out;omega
         have z1:=He.out m hV;have z2:=Ha.out m hy;have m0:(0:Int)<=(m:Int):=by omega
         have m1:(m:Int)<(s.length:Int):=by omega
         by_cases hE:m=sd
         ·have e4:((m:Int) != (sd:Int))=false:=by simp [hE]
          have e4':(m != sd)=false:=by simp [hE]
          have HT:=zI (show qfz s t (sd:Int) (m+1) from λj hj=>by
           by_cases e:j=m
           ·left;omega
           ·exact hz j oZ)
          clear hz hE;go_wp2_with fail
          go_quiet (fail)
          go_wp2_with fail;go_roundw
          case rel=>exact ⟨m+1,_,by omega,by go_num,HT.out,by first|rfl|exact World.drewN_drewN _ _ _⟩
          case measure=>simp [intOf];omega
         ·have e4:((m:Int) != (sd:Int))=true:=by rw [bne_iff_ne];omega
          have e4':(m != sd)=true:=by rw [bne_iff_ne];exact hE
          by_cases hG:s[m]=t[m]
          ·have e5:(s[m] != t[m])=false:=by simp [hG]
           have HT:=zI (show qfz s t (sd:Int) (m+1) from λj hj=>by
            by_cases e:j=m
            ·right;subst e;rw [qa1 hV,qa1 hy,hG]
            ·exact hz j oZ)
           clear hz hE hG;generalize s[m]=x at *;generalize t[m]=y at *;go_wp2_with fail
           go_quiet (fail)
           go_wp2_with fail;go_roundw
           case rel=>exact ⟨m+1,_,by omega,by go_num,HT.out,by first|rfl|exact World.drewN_drewN _ _ _⟩
           case measure=>simp [intOf];omega
          ·have e5:(s[m] != t[m])=true:=by simp [hG]
           have Hb:=hW.out m hV oZ (by rw [qa1 hV,qa1 hy];exact hG);have hj:Od.join s t (sd:Int)=([],20):=by rw [hD.out,Hb];simp
           have HQ:=zI (hJ.out.trans (hU.out (by rw [hj];simp)));have HJ:=zI hj;clear hz hE hG Hb hj;generalize s[m]=x at *;generalize t[m]=y at *;go_wp2_with fail
           go_quiet (fail)
           go_wp2_with fail
           go_ret2
           exact ⟨none,0,by rw [HQ.out,HJ.out];rfl,by rw [HQ.out];exact Ints.nil,by rw [HQ.out];exact lrZ _,by omega,by first|exact qa6 hq _|(rw [World.drewN_drewN];exact qa6 hq _)⟩
        ·obtain rfl:m=s.length:=by omega
         have hL:=qg7 hz;have z1:=He.out sd hS;have z2:=Ha.out sd hh;have h9:=HI.out.drewN q;have m0:(0:Int)<=(sd:Int):=by omega
         have m1:(sd:Int)<(s.length:Int):=by omega
         have hF:=Hc.out;have hp:=hD.out;rw [hL,Bool.true_and,hF] at hp;have hB:=h2.out;have hu:=hU.out;generalize s[sd]=x at *;generalize t[sd]=y at *;have ww:iQ.wrap (x+y)=x+y:=Zc1 _ oZ;clear hz hL;obtain ⟨Ht,Hc,hD,h2,hU⟩:=zd5 h9 hF hp hB hu;clear h9 hF hp hB hu;go_upto_region 16 with fail
         go_region_held3 (λw'=>w'.cell? ⟨bS,offS+sd,none⟩=some (nQ iQ x)/\w'.cell? ⟨b0,off0+(k+1),none⟩=some (sQ (some ⟨bT,offT,none⟩) s.length ct)/\w'.cell? ⟨bT,offT+sd,none⟩=some (nQ iQ y)) (first|go_keep|(exact ⟨qa0 hw z1,qa0 hw y1,qa0 hw z2⟩))
          ((go_at_call 105;refine (qbM _ _ s sd (x+y) _ oZ (by exact Ht.out) hS).mono ?_;rintro e w9 ⟨g,rfl,hP,HA,hw⟩))
         have hK:=hq.trans ((show Below wo.heap.size wo w9 from ⟨hw.os,hw.tape,hw.output,hw.size,hw.block⟩).mono hq.size);have hT:(s.set sd (x+y)).length=s.length:=List.length_set;obtain ⟨s',hs'⟩:∃s',s.set sd (x+y)=s':=⟨_,rfl⟩
         have hp:=hD.out;rw [hs'] at hP hT hp;have hi:=qaK (some ⟨g,0,none⟩) s.length s' w9 oZ hP;rw [hT] at hi;obtain ⟨hM,Hu,Hf,hD⟩:=zd4 hi hP hT hp;have Hy:=zI hs';clear hi hP hT hp hs';go_wp2_with fail;refine (hM.out).mono ?_;rintro e w10 ⟨rfl,rfl⟩
         by_cases hA:Sh.right s'=true
         ·have hj:=hD.out
          rw [ipZ hA] at hj;have HS:=zI (h2.out (by rw [hj]));have HJ:=zI hj;have HR:=zI hA;rw [hA];clear hj hA z1 z2 y1;go_wp2_with fail;go_roundw
          case rel=>exact ⟨k+1,some ⟨g,0,none⟩,s.length,s',by omega,by go_num,by rw [Hf.out],Hu.out,by have:=Hf.out;omega,by omega,HR.out,by rw [HS.out,HJ.out],hK⟩
          case measure=>simp [intOf];omega
         ·have hj:=hD.out
          rw [inZ hA] at hj;have HQ:=zI (hJ.out.trans (hU.out (by rw [hj];simp)));have HJ:=zI hj;have Hh:Sh.right s'=false:=by simpa using hA
          rw [Hh];clear hj hA Hh z1 z2 y1;go_wp2_with fail
          go_ret2
          exact ⟨none,0,by rw [HQ.out,HJ.out];rfl,by rw [HQ.out];exact Ints.nil,by rw [HQ.out];exact lrZ _,by omega,hK⟩
    ·obtain rfl:k=l.length:=by omega
     rw [Zg] at hs;have HQ:=zI (hJ.out.trans hs);have k1:¬((l.length:Int)+1)<(xs.length:Int):=by omega
     obtain ⟨HI,Hq,h0⟩:=zd3 hI hs hf;clear hI hs hf;go_wp2_with fail
     go_ret2
     exact ⟨S,d,by rw [HQ.out];rfl,by rw [HQ.out];exact HI.out,by rw [HQ.out];exact Hj,Hl,hq⟩
theorem bI.each {w:Zp1} {b off:Nat} {xs:List (List Int)} (h:bI w (some ⟨b,off,none⟩) xs) {k:Nat} (hk:k<xs.length):
  ∃S c,w.cell? ⟨b,off+k,none⟩=some (sQ S xs[k].length c)/\Ints iQ w S xs[k]/\xs[k].length<=c/\c<=9223372036854775807:=by
 obtain ⟨b',o',S,c,e,-,hc,hI,h1,h2⟩:=h k hk;injection e with e
 injection e with e1 e2
 subst e1 e2;exact ⟨S,c,hc,hI,h1,h2⟩
theorem Ints.at_ {k:IntKind} {w:Zp1} {b off:Nat} {zs:List Int} (h:Ints k w (some ⟨b,off,none⟩) zs) {j:Nat} (hj:j<zs.length):w.cell? ⟨b,off+j,none⟩=some (.int k zs[j]):=by
 obtain ⟨b',o',e,-,hc⟩:=h j hj;injection e with e
 injection e with e1 e2
 subst e1 e2;rw [hc,qa1 hj]
theorem cZ.err {r:List Int × Int} {w w':Zp1} {n:Int} (h:r=([],n)) (hb:Below w.heap.size w w'):cZ r w (.returned (.tuple #[sQ none 0 0,nQ iQ n])) w':=
 ⟨none,0,by rw [h];rfl,by rw [h];exact Ints.nil,by rw [h];exact lrZ _,by omega,hb⟩
theorem cZ.ok {r:List Int × Int} {w w':Zp1} {S:Option Addr} {s:List Int} {c n:Nat} (h:r=(s,0)) (hn:s.length=n) (hI:Ints iQ w' S s) (h1:s.length<=c) (h2:c<=9223372036854775807) (hb:Below w.heap.size w w'):cZ r w (.returned (.tuple #[sQ S n c,nQ iQ 0])) w':=by
 subst hn;exact ⟨S,c,by rw [h],by rw [h];exact hI,by rw [h];exact h1,h2,hb⟩
theorem qdy {B:Nat} {a w:Zp1} (h:Below B a w) (n m:Nat):Below B a ((w.drewN n).drewN m):=qa6 (qa6 h n) m
theorem list_two {l:List Int} (h:l.length=2):∃a b,l=[a,b]:=by
 match l,h with
 | [a,b],_=>exact ⟨a,b,rfl⟩
theorem qhb {l:List Int} (h:l.length=1):∃x,l=[x]:=by
 match l,h with
 | [x],_=>exact ⟨x,rfl⟩
theorem qd5 (o:OpD) (S P X:Option Addr) (c d f:Nat) (p x:List (List Int)) (w:Zp1) (hk:o.kind<=7) (ho:o.s.length<=1099511627776) (hsc:o.s.length<=c) (hsm:c<=9223372036854775807) (hw:o.wide) (hS:Ints iQ w S o.s) (hP:bI w P p) (hX:bI w X x) (hxl:x.length<=1048576) (h1:1<=x.length) (hp:∀s∈p,Sh.right s=true) (hx:∀s∈x,Sh.right s=true):
  Calls prog 71 #[.agg #[nQ iQ o.kind,nQ iQ o.k,nQ iQ o.width,nQ iQ o.step,nQ iQ o.side,nQ iQ o.frm,nQ iQ o.to,sQ S o.s.length c],sQ P p.length d,sQ X x.length f] w (cZ (Od.aT o p x) w):=by
 have hq:Od.aT o p x=Od.same x:=by unfold Od.aT;rw [inZ oZ,inZ oZ,inZ oZ,inZ oZ,inZ oZ,inZ oZ,inZ oZ]
 obtain ⟨bx,ox,S0,c0,rfl,-⟩:=hX 0 h1;have hb:Below w.heap.size w (w.alloc (.cells #[nQ iQ o.kind,nQ iQ o.k,nQ iQ o.width,nQ iQ o.step,nQ iQ o.side,nQ iQ o.frm,nQ iQ o.to,sQ S o.s.length c] 83)):=(Ze1 _ _).alloc (lrZ _) _;have hl:=Blk.new w 83 #[nQ iQ o.kind,nQ iQ o.k,nQ iQ o.width,nQ iQ o.step,nQ iQ o.side,nQ iQ o.frm,nQ iQ o.to,sQ S o.s.length c];obtain ⟨z0,z1,z2,z3,z4,z5,z6,z7⟩:=qah hl;have hg:=hX.below hb (lrZ _);have hn:=hP.below hb (lrZ _);have hu:=hS.below hb (lrZ _);have hc:=hx x[0] (gmZ h1);have hd:x.getD 0 []=x[0]:=qa7 h1
 first|rw [hd] at hq|skip
 have e1:decide (o.kind<=7)=true:=by simpa using hk
 clear hk;obtain ⟨hL,HX,HP,HS,Hp,Hx⟩:=zd6 hl hX hP hS hp hx;clear hl hX hP hS hp hx;go_in;go_upto_region 1 with fail;generalize (w.alloc (.cells #[nQ iQ o.kind,nQ iQ o.k,nQ iQ o.width,nQ iQ o.step,nQ iQ o.side,nQ iQ o.frm,nQ iQ o.to,sQ S o.s.length c] 83))=w1 at *;obtain ⟨S0',c0',y0,hy,hG,hB⟩:=hg.each h1;rw [Zx] at y0;clear S0;generalize hs0:x[0]=s0 at *;have hs:=(Sh.aO hc).2.2.2.1;obtain ⟨s3,s4⟩:=qa4 hc;obtain ⟨hF,hQ,hI,hf,hC,Hq,hz,hR,hO⟩:=zd9 hg hn hu hy hc hq hd hs0 hs;have Hw:=zI hw;clear hg hn hu hy hc hq hd hs0 hs hw;go_wp2_with fail;refine (qal S0' c0' s0 w1 hC.out hf.out).mono ?_;rintro e w2 ⟨rfl,rfl⟩;go_wp2_with fail
 go_loopw [10] (λi wx=>∃k q:Nat,k<=x.length/\i=nQ iQ (k:Int)/\(∀j (hj:j<x.length),j<k->x[j]=s0)/\wx=w1.drewN q) (λi _=>x.length-(intOf i).toNat)
 case atStart=>exact ⟨0,0,Zt _,rfl,λj hj h=>by omega,rfl⟩
 case round=>
  obtain ⟨k,q,hk,rfl,ha,rfl⟩:=hrel
  by_cases hi:k<x.length
  ·obtain ⟨Sk,ck,yk,hm,hM,hK⟩:=hF.out.each hi
   have k0:(0:Int)<=(k:Int):=by omega
   have k1:(k:Int)<(x.length:Int):=by omega
   have hr:x[k]=s0->∀j (hj:j<x.length),j<k+1->x[j]=s0:=λe j hj hJ=>by
    by_cases h:j=k
    ·subst h;exact e
    ·exact ha j hj oZ
   have hv:x[k]≠s0->Od.same x=([],20):=λe=>by
    unfold Od.same;rw [inZ];rw [Zf];intro h;have:=h x[k] (gmZ hi);rw [hz.out] at this;exact e (by simpa using this)
   have hh:=Hx.out x[k] (gmZ hi);obtain ⟨a3,a4⟩:=qa4 hh;generalize x[k]=t at *;obtain ⟨hH,hE,hA,hD,hN⟩:=zd5 hm ha hr hv hh;clear hm ha hr hv hh;go_wp2_with fail;refine (qbK Sk S0' ck c0' t s0 _ oZ oZ (hH.out.drewN q) (hf.out.drewN q)).mono ?_;rintro e w3 ⟨rfl,q2,rfl⟩
   by_cases he:t=s0
   ·have e1:decide (t=s0)=true:=by simpa using he
    have HG:=zI (hA.out he);rw [e1];clear he e1;go_wp2_with fail;go_roundw
    case rel=>exact ⟨k+1,_,by omega,by go_num,HG.out,by first|rfl|exact World.drewN_drewN _ _ _⟩
    case measure=>simp [intOf];omega
   ·have e1:decide (t=s0)=false:=by simpa using he
    have HN:=zI (Hq.out.trans (hD.out he));rw [e1];clear he e1;go_wp2_with fail
    go_ret2
    exact cZ.err HN.out (by first|exact qdy hb _ _|exact qa6 hb _)
  ·obtain rfl:k=x.length:=by omega
   have HN:=zI (Hq.out.trans (show Od.same x=(s0,0) by
    unfold Od.same;rw [hz.out,ipZ];rw [Zf];intro t ht;obtain ⟨j,hj,rfl⟩:=List.getElem_of_mem ht;simpa using ha j hj hj))
   clear ha;go_wp2_with fail
   go_ret2
   exact cZ.ok HN.out rfl (hf.out.drewN q) hG hB (by first|exact qdy hb _ _|exact qa6 hb _)
theorem qbN (o:OpD) (S P X:Option Addr) (c d f:Nat) (p x:List (List Int)) (w:Zp1) (hk:o.kind=9) (hpl:p.length=1) (ho:o.s.length<=1099511627776) (hsc:o.s.length<=c) (hsm:c<=9223372036854775807) (hw:o.wide) (hS:Ints iQ w S o.s) (hP:bI w P p) (hX:bI w X x) (hxl:x.length<=1048576) (h1:1<=x.length) (hp:∀s∈p,Sh.right s=true) (hx:∀s∈x,Sh.right s=true):
  Calls prog 71 #[.agg #[nQ iQ o.kind,nQ iQ o.k,nQ iQ o.width,nQ iQ o.step,nQ iQ o.side,nQ iQ o.frm,nQ iQ o.to,sQ S o.s.length c],sQ P p.length d,sQ X x.length f] w (cZ (Od.aT o p x) w):=by
 have hq:Od.aT o p x=Od.same [p.getD 0 [],x.getD 0 []]:=by unfold Od.aT;simp [hk]
 obtain ⟨bx,ox,S0,c0,rfl,-⟩:=hX 0 h1;obtain ⟨bp,op,T0,d0,rfl,-⟩:=hP 0 oZ;have ha:Below w.heap.size w (w.alloc (.cells #[nQ iQ o.kind,nQ iQ o.k,nQ iQ o.width,nQ iQ o.step,nQ iQ o.side,nQ iQ o.frm,nQ iQ o.to,sQ S o.s.length c] 83)):=(Ze1 _ _).alloc (lrZ _) _;have hj:=Blk.new w 83 #[nQ iQ o.kind,nQ iQ o.k,nQ iQ o.width,nQ iQ o.step,nQ iQ o.side,nQ iQ o.frm,nQ iQ o.to,sQ S o.s.length c];obtain ⟨z0,z1,z2,z3,z4,z5,z6,z7⟩:=qah hj;have hc:=hX.below ha (lrZ _);have hi:=hP.below ha (lrZ _);have hn:=hS.below ha (lrZ _);have hb:=hx x[0] (gmZ h1);have hd:x.getD 0 []=x[0]:=qa7 h1
 first|rw [hd] at hq|skip
 have hg:=hp p[0] (gmZ oZ);have hh:p.getD 0 []=p[0]:=qa7 oZ
 first|rw [hh] at hq|skip
 have l7:decide (o.kind<=7)=false:=by simp;omega
 have e8:(o.kind==8)=false:=by simp;omega
 have e9:(o.kind==9)=true:=by simp;omega
 clear hk;obtain ⟨hE,HX,HP,HS,Hp,Hx⟩:=zd6 hj hX hP hS hp hx;clear hj hX hP hS hp hx;go_in;go_upto_region 1 with fail;generalize (w.alloc (.cells #[nQ iQ o.kind,nQ iQ o.k,nQ iQ o.width,nQ iQ o.step,nQ iQ o.side,nQ iQ o.frm,nQ iQ o.to,sQ S o.s.length c] 83))=w1 at *;obtain ⟨S0',c0',y0,hr,hs,ht⟩:=hc.each h1;rw [Zx] at y0;obtain ⟨T0',d0',v0,hm,hG,hH⟩:=hi.each (show 0<p.length by omega);rw [Zx] at v0;clear T0;clear S0;generalize hs0:x[0]=s0 at *;generalize hsp:p[0]=t0 at *;obtain ⟨q3,q4⟩:=qa4 hg;have hl:=(Sh.aO hb).2.2.2.1;obtain ⟨s3,s4⟩:=qa4 hb;obtain ⟨hB,hC,hz,hf,hu,Hq,hI,hD,hA⟩:=zd9 hc hi hn hr hb hq hd hs0 hl;obtain ⟨Hw,hv,hJ,hy,hF⟩:=zd5 hw hm hg hh hsp;clear hc hi hn hr hb hq hd hs0 hl hw hm hg hh hsp;go_wp2_with fail;refine (qal S0' c0' s0 w1 hu.out hf.out).mono ?_;rintro e w2 ⟨rfl,rfl⟩;go_wp2_with fail;refine (qbK T0' S0' d0' c0' t0 s0 _ oZ oZ hv.out hf.out).mono ?_;rintro e w3 ⟨rfl,q2,rfl⟩
 by_cases he:t0=s0
 ·have e1:decide (t0=s0)=true:=by simpa using he
  have HN:=zI (Hq.out.trans (show Od.same [t0,s0]=(s0,0) by simp [Od.same,he]));rw [e1];clear he e1;go_wp2_with fail
  go_ret2
  exact cZ.ok HN.out rfl (hf.out.drewN q2) hs ht (qa6 ha _)
 ·have e1:decide (t0=s0)=false:=by simpa using he
  have HN:=zI (Hq.out.trans (show Od.same [t0,s0]=([],20) by
   unfold Od.same;rw [inZ];simp;intro e;exact he e.symm))
  rw [e1];clear he e1;go_wp2_with fail
  go_ret2
  exact cZ.err HN.out (qa6 ha _)
theorem qch (o:OpD) (S P X:Option Addr) (c d f:Nat) (p x:List (List Int)) (w:Zp1) (hk:o.kind=13) (ho:o.s.length<=1099511627776) (hsc:o.s.length<=c) (hsm:c<=9223372036854775807) (hw:o.wide) (hS:Ints iQ w S o.s) (hP:bI w P p) (hX:bI w X x) (hxl:x.length<=1048576) (h1:1<=x.length) (hp:∀s∈p,Sh.right s=true) (hx:∀s∈x,Sh.right s=true):
  Calls prog 71 #[.agg #[nQ iQ o.kind,nQ iQ o.k,nQ iQ o.width,nQ iQ o.step,nQ iQ o.side,nQ iQ o.frm,nQ iQ o.to,sQ S o.s.length c],sQ P p.length d,sQ X x.length f] w (cZ (Od.aT o p x) w):=by
 have hq:Od.aT o p x=Od.joined o.side x:=by unfold Od.aT;simp [hk]
 obtain ⟨bx,ox,S0,c0,rfl,-⟩:=hX 0 h1;have ha:Below w.heap.size w (w.alloc (.cells #[nQ iQ o.kind,nQ iQ o.k,nQ iQ o.width,nQ iQ o.step,nQ iQ o.side,nQ iQ o.frm,nQ iQ o.to,sQ S o.s.length c] 83)):=(Ze1 _ _).alloc (lrZ _) _;have hg:=Blk.new w 83 #[nQ iQ o.kind,nQ iQ o.k,nQ iQ o.width,nQ iQ o.step,nQ iQ o.side,nQ iQ o.frm,nQ iQ o.to,sQ S o.s.length c];obtain ⟨z0,z1,z2,z3,z4,z5,z6,z7⟩:=qah hg;have hc:=hX.below ha (lrZ _);have hn:=hP.below ha (lrZ _);have hl:=hS.below ha (lrZ _);have hb:=hx x[0] (gmZ h1);have he:x.getD 0 []=x[0]:=qa7 h1
 first|rw [he] at hq|skip
 have l7:decide (o.kind<=7)=false:=by simp;omega
 have l12:decide (o.kind<=12)=false:=by simp;omega
 have e8:(o.kind==8)=false:=by simp;omega
 have e9:(o.kind==9)=false:=by simp;omega
 have e10:(o.kind==10)=false:=by simp;omega
 have e13:(o.kind==13)=true:=by simp;omega
 clear hk;obtain ⟨hG,HX,HP,HS,Hp,Hx⟩:=zd6 hg hX hP hS hp hx;clear hg hX hP hS hp hx;go_in;go_upto_region 1 with fail;generalize (w.alloc (.cells #[nQ iQ o.kind,nQ iQ o.k,nQ iQ o.width,nQ iQ o.step,nQ iQ o.side,nQ iQ o.frm,nQ iQ o.to,sQ S o.s.length c] 83))=w1 at *;obtain ⟨S0',c0',y0,hm,hA,hB⟩:=hc.each h1;rw [Zx] at y0;clear S0;generalize hs0:x[0]=s0 at *;have hi:=(Sh.aO hb).2.2.2.1;obtain ⟨s3,s4⟩:=qa4 hb;obtain ⟨hu,hE,hC,hv,hr,Hq,hH,hF,hD⟩:=zd9 hc hn hl hm hb hq he hs0 hi;have Hw:=zI hw;clear hc hn hl hm hb hq he hs0 hi hw;go_wp2_with fail;refine (qal S0' c0' s0 w1 hr.out hv.out).mono ?_;rintro e w2 ⟨rfl,rfl⟩;go_wp2_with fail;refine (qef o.side (some ⟨bx,ox,none⟩) f x _ hu.out hxl h1 Hx.out).mono ?_;rintro e w3 ⟨S9,c9,rfl,hh,ht,hz,hs⟩;have hd:=ha.trans (hs.mono ha.size);have hj:=Hq.out;generalize Od.joined o.side x=r at *;obtain ⟨hy,hf⟩:=zd2 hh hj;clear hh hj;go_wp2_with fail
 go_ret2
 exact ⟨S9,c9,by rw [hf.out];rfl,by rw [hf.out];exact hy.out,by rw [hf.out];exact ht,hz,hd⟩
theorem qci (o:OpD) (S P X:Option Addr) (c d f:Nat) (p x:List (List Int)) (w:Zp1) (hk:o.kind=15) (ho:o.s.length<=1099511627776) (hsc:o.s.length<=c) (hsm:c<=9223372036854775807) (hw:o.wide) (hS:Ints iQ w S o.s) (hP:bI w P p) (hX:bI w X x) (hxl:x.length<=1048576) (h1:1<=x.length) (hp:∀s∈p,Sh.right s=true) (hx:∀s∈x,Sh.right s=true):
  Calls prog 71 #[.agg #[nQ iQ o.kind,nQ iQ o.k,nQ iQ o.width,nQ iQ o.step,nQ iQ o.side,nQ iQ o.frm,nQ iQ o.to,sQ S o.s.length c],sQ P p.length d,sQ X x.length f] w (cZ (Od.aT o p x) w):=by
 have hq:Od.aT o p x=Od.turned (x.getD 0 []) o.s:=by unfold Od.aT;simp [hk]
 obtain ⟨bx,ox,S0,c0,rfl,-⟩:=hX 0 h1;have ha:Below w.heap.size w (w.alloc (.cells #[nQ iQ o.kind,nQ iQ o.k,nQ iQ o.width,nQ iQ o.step,nQ iQ o.side,nQ iQ o.frm,nQ iQ o.to,sQ S o.s.length c] 83)):=(Ze1 _ _).alloc (lrZ _) _;have hh:=Blk.new w 83 #[nQ iQ o.kind,nQ iQ o.k,nQ iQ o.width,nQ iQ o.step,nQ iQ o.side,nQ iQ o.frm,nQ iQ o.to,sQ S o.s.length c];obtain ⟨z0,z1,z2,z3,z4,z5,z6,z7⟩:=qah hh;have hc:=hX.below ha (lrZ _);have hs:=hP.below ha (lrZ _);have hl:=hS.below ha (lrZ _);have hb:=hx x[0] (gmZ h1);have hf:x.getD 0 []=x[0]:=qa7 h1
 first|rw [hf] at hq|skip
 have l7:decide (o.kind<=7)=false:=by simp;omega
 have l12:decide (o.kind<=12)=false:=by simp;omega
 have e8:(o.kind==8)=false:=by simp;omega
 have e9:(o.kind==9)=false:=by simp;omega
 have e10:(o.kind==10)=false:=by simp;omega
 have e13:(o.kind==13)=false:=by simp;omega
 have e14:(o.kind==14)=false:=by simp;omega
 clear hk;obtain ⟨hD,HX,HP,HS,Hp,Hx⟩:=zd6 hh hX hP hS hp hx;clear hh hX hP hS hp hx;go_in;go_upto_region 1 with fail;generalize (w.alloc (.cells #[nQ iQ o.kind,nQ iQ o.k,nQ iQ o.width,nQ iQ o.step,nQ iQ o.side,nQ iQ o.frm,nQ iQ o.to,sQ S o.s.length c] 83))=w1 at *;obtain ⟨S0',c0',y0,hm,hv,hy⟩:=hc.each h1;rw [Zx] at y0;clear S0;generalize hs0:x[0]=s0 at *;have hj:=(Sh.aO hb).2.2.2.1;obtain ⟨s3,s4⟩:=qa4 hb;obtain ⟨hA,hB,hd,ht,hi,Hq,hE,hC,hz⟩:=zd9 hc hs hl hm hb hq hf hs0 hj;have Hw:=zI hw;clear hc hs hl hm hb hq hf hs0 hj hw;go_wp2_with fail;refine (qal S0' c0' s0 w1 hi.out ht.out).mono ?_;rintro e w2 ⟨rfl,rfl⟩;go_wp2_with fail;refine (qaK S c o.s _ oZ hd.out).mono ?_;rintro e w3 ⟨rfl,rfl⟩
 by_cases hr:Sh.right o.s=true
 ·rw [hr]
  have hn:=Hq.out;unfold Od.turned at hn;rw [hi.out,hr,Bool.true_and,Bool.true_and] at hn;obtain ⟨hu,HN⟩:=zd2 hr hn;clear hr hn;go_wp2_with fail;refine (qal S c o.s _ hu.out hd.out).mono ?_;rintro e w3 ⟨rfl,rfl⟩
  by_cases he:Safe.prod o.s=Safe.prod s0
  ·have e1:(Safe.prod o.s != Safe.prod s0)=false:=by simp [he]
   have HM:=zI (HN.out.trans (ipZ (decide_eq_true he)));clear he;go_wp2_with fail
   go_ret2
   exact cZ.ok HM.out rfl hd.out hsc hsm ha
  ·have e1:(Safe.prod o.s != Safe.prod s0)=true:=by simp [he]
   have HM:=zI (HN.out.trans (inZ (by simpa using he)));clear he;go_wp2_with fail
   go_ret2
   exact cZ.err HM.out ha
 ·have hg:Sh.right o.s=false:=by simpa using hr
  rw [hg];have HM:=zI (Hq.out.trans (show Od.turned s0 o.s=([],20) by unfold Od.turned;rw [hg];simp));clear hr hg;go_wp2_with fail
  go_ret2
  exact cZ.err HM.out ha
theorem qcj (o:OpD) (S P X:Option Addr) (c d f:Nat) (p x:List (List Int)) (w:Zp1) (hk:o.kind=11∨o.kind=12) (ho:o.s.length<=1099511627776) (hsc:o.s.length<=c) (hsm:c<=9223372036854775807) (hw:o.wide) (hS:Ints iQ w S o.s) (hP:bI w P p) (hX:bI w X x) (hxl:x.length<=1048576) (h1:1<=x.length) (hp:∀s∈p,Sh.right s=true) (hx:∀s∈x,Sh.right s=true):
  Calls prog 71 #[.agg #[nQ iQ o.kind,nQ iQ o.k,nQ iQ o.width,nQ iQ o.step,nQ iQ o.side,nQ iQ o.frm,nQ iQ o.to,sQ S o.s.length c],sQ P p.length d,sQ X x.length f] w (cZ (Od.aT o p x) w):=by
 have hq:Od.aT o p x=Od.pool (x.getD 0 []) o.width o.step:=by unfold Od.aT;rw [inZ oZ,inZ oZ,inZ oZ,ipZ hk]
 obtain ⟨bx,ox,S0,c0,rfl,-⟩:=hX 0 h1;have hf:Below w.heap.size w (w.alloc (.cells #[nQ iQ o.kind,nQ iQ o.k,nQ iQ o.width,nQ iQ o.step,nQ iQ o.side,nQ iQ o.frm,nQ iQ o.to,sQ S o.s.length c] 83)):=(Ze1 _ _).alloc (lrZ _) _;have hy:=Blk.new w 83 #[nQ iQ o.kind,nQ iQ o.k,nQ iQ o.width,nQ iQ o.step,nQ iQ o.side,nQ iQ o.frm,nQ iQ o.to,sQ S o.s.length c];obtain ⟨z0,z1,z2,z3,z4,z5,z6,z7⟩:=qah hy;have hu:=hX.below hf (lrZ _);have hE:=hP.below hf (lrZ _);have hH:=hS.below hf (lrZ _);have hn:=hx x[0] (gmZ h1);have hs:x.getD 0 []=x[0]:=qa7 h1
 first|rw [hs] at hq|skip
 have l7:decide (o.kind<=7)=false:=by simp;omega
 have e8:(o.kind==8)=false:=by simp;omega
 have e9:(o.kind==9)=false:=by simp;omega
 have e10:(o.kind==10)=false:=by simp;omega
 have l12:decide (o.kind<=12)=true:=by simp;omega
 clear hk;obtain ⟨hV,HX,HP,HS,Hp,Hx⟩:=zd6 hy hX hP hS hp hx;clear hy hX hP hS hp hx;go_in;go_upto_region 1 with fail;generalize (w.alloc (.cells #[nQ iQ o.kind,nQ iQ o.k,nQ iQ o.width,nQ iQ o.step,nQ iQ o.side,nQ iQ o.frm,nQ iQ o.to,sQ S o.s.length c] 83))=w1 at *;obtain ⟨S0',c0',y0,hI,hY,hT⟩:=hu.each h1;rw [Zx] at y0;clear S0;generalize hs0:x[0]=s0 at *;have hG:=(Sh.aO hn).2.2.2.1;obtain ⟨s3,s4⟩:=qa4 hn;obtain ⟨hW,hZ,hU,hm,hA,Hq,h4,h0,hM⟩:=zd9 hu hE hH hI hn hq hs hs0 hG;have Hw:=zI hw;clear hu hE hH hI hn hq hs hs0 hG hw;go_wp2_with fail;refine (qal S0' c0' s0 w1 hA.out hm.out).mono ?_;rintro e w2 ⟨rfl,rfl⟩;have hj:s0.length-1<s0.length:=by omega
 have hc:=Hq.out;unfold Od.pool at hc;rw [ipZ hA.out,qa1 hj] at hc;obtain ⟨bs,os,rfl,-,-⟩:=hm.out 0 s3;have g0:=hm.out.at_ hj;have hR:=hM.out _ (gmZ hj);have i1:iQ.wrap ((s0.length:Int)-1)=((s0.length-1:Nat):Int):=by rw [Zc1 _ oZ];omega
 have i2:(0:Int)<=((s0.length-1:Nat):Int):=by omega
 have i3:((s0.length-1:Nat):Int)<(s0.length:Int):=by omega
 have hd:=λn:Nat=>qc4 s0[s0.length-1] o.width o.step (w1.drewN n)
 have hC:=@Od.mI s0[s0.length-1] o.width o.step;have hi:=@Od.iT s0[s0.length-1] o.width o.step;generalize s0[s0.length-1]=z at *;have he:∀v,(s0.set (s0.length-1) v).length=s0.length:=λv=>List.length_set
 have ha:=λ(n:Nat) (v:Int)=>qbM (some ⟨bs,os,none⟩) c0' s0 (s0.length-1) v (w1.drewN n) oZ (hm.out.drewN n) hj
 obtain ⟨l,hl⟩:∃l:Nat,s0.length-1=l:=⟨_,rfl⟩
 have hD:(s0.length:Int)-1=(l:Int):=by omega
 rw [hl] at g0 i1 i2 i3 ha hc he;have i4:l<s0.length:=by omega
 obtain ⟨hg,hh,hQ,ht,hr,Hl,h2⟩:=zd7 hc hd hC hi he hl hD;clear hc hd hC hi he hl hD;have hO:=zI ha;clear ha hj;go_wp2_with fail
 go_quiet ((go_at_call 104;exact qai (hh.out _)))
 rename_i nq;generalize hwv:Od.window z o.width o.step=wv at *
 by_cases hz:wv.2=0
 ·have hb:=hQ.out hz
  have e1:(wv.1==0)=false:=by simp;omega
  have HN:=zI (hg.out.trans (ipZ hz));have HC:=zI (hO.out nq wv.1);clear hz hb;have hJ:=zI hwv;clear hwv;go_wp2_with fail;refine (HC.out).mono ?_;rintro e w3 ⟨g,rfl,hB,h3,hK⟩;have hv:=(qa6 hf nq).trans (hK.mono hf.size);have hF:=hr.out wv.1;generalize s0.set l wv.1=s9 at *;obtain ⟨hN,hL⟩:=zd2 hB hF;clear hB hF;go_wp2_with fail
  go_ret2
  exact cZ.ok HN.out rfl hN.out (lrZ _) (by have:=hL.out;omega) hv
 ·have hb:=ht.out hz
  have e1:(wv.1==0)=true:=by rw [hb];rfl
  have HN:=zI (hg.out.trans (inZ hz));clear hz hb;have hJ:=zI hwv;clear hwv;go_wp2_with fail
  go_ret2
  exact cZ.err HN.out (qa6 hf _)
theorem qcJ (o:OpD) (S P X:Option Addr) (c d f:Nat) (p x:List (List Int)) (w:Zp1) (hk:o.kind=14) (ho:o.s.length<=1099511627776) (hsc:o.s.length<=c) (hsm:c<=9223372036854775807) (hw:o.wide) (hS:Ints iQ w S o.s) (hP:bI w P p) (hX:bI w X x) (hxl:x.length<=1048576) (h1:1<=x.length) (hp:∀s∈p,Sh.right s=true) (hx:∀s∈x,Sh.right s=true):
  Calls prog 71 #[.agg #[nQ iQ o.kind,nQ iQ o.k,nQ iQ o.width,nQ iQ o.step,nQ iQ o.side,nQ iQ o.frm,nQ iQ o.to,sQ S o.s.length c],sQ P p.length d,sQ X x.length f] w (cZ (Od.aT o p x) w):=by
 have hq:Od.aT o p x=Od.cut (x.getD 0 []) o.side o.frm o.to:=by unfold Od.aT;simp [hk]
 obtain ⟨bx,ox,S0,c0,rfl,-⟩:=hX 0 h1;have ha:Below w.heap.size w (w.alloc (.cells #[nQ iQ o.kind,nQ iQ o.k,nQ iQ o.width,nQ iQ o.step,nQ iQ o.side,nQ iQ o.frm,nQ iQ o.to,sQ S o.s.length c] 83)):=(Ze1 _ _).alloc (lrZ _) _;have hl:=Blk.new w 83 #[nQ iQ o.kind,nQ iQ o.k,nQ iQ o.width,nQ iQ o.step,nQ iQ o.side,nQ iQ o.frm,nQ iQ o.to,sQ S o.s.length c];obtain ⟨z0,z1,z2,z3,z4,z5,z6,z7⟩:=qah hl;have hi:=hX.below ha (lrZ _);have hr:=hP.below ha (lrZ _);have hy:=hS.below ha (lrZ _);have hf:=hx x[0] (gmZ h1);have hh:x.getD 0 []=x[0]:=qa7 h1
 first|rw [hh] at hq|skip
 have l7:decide (o.kind<=7)=false:=by simp;omega
 have l12:decide (o.kind<=12)=false:=by simp;omega
 have e8:(o.kind==8)=false:=by simp;omega
 have e9:(o.kind==9)=false:=by simp;omega
 have e10:(o.kind==10)=false:=by simp;omega
 have e13:(o.kind==13)=false:=by simp;omega
 have e14:(o.kind==14)=true:=by simp;omega
 clear hk;obtain ⟨hH,HX,HP,HS,Hp,Hx⟩:=zd6 hl hX hP hS hp hx;clear hl hX hP hS hp hx;go_in;go_upto_region 1 with fail;generalize (w.alloc (.cells #[nQ iQ o.kind,nQ iQ o.k,nQ iQ o.width,nQ iQ o.step,nQ iQ o.side,nQ iQ o.frm,nQ iQ o.to,sQ S o.s.length c] 83))=w1 at *;obtain ⟨S0',c0',y0,hz,hK,hF⟩:=hi.each h1;rw [Zx] at y0;clear S0;generalize hs0:x[0]=s0 at *;have hu:=(Sh.aO hf).2.2.2.1;obtain ⟨s3,s4⟩:=qa4 hf;obtain ⟨hJ,hM,hG,hd,hm,Hq,hQ,hN,hC⟩:=zd9 hi hr hy hz hf hq hh hs0 hu;have Hw:=zI hw;clear hi hr hy hz hf hq hh hs0 hu hw;go_wp2_with fail;refine (qal S0' c0' s0 w1 hm.out hd.out).mono ?_;rintro e w2 ⟨rfl,rfl⟩;have hcut:=Hq.out;unfold Od.cut at hcut;rw [ipZ hm.out] at hcut
 by_cases a1:o.side<0
 ·have d1:decide (o.side<0)=true:=by simpa using a1
  have HN:=zI (hcut.trans (inZ (by simp [Od.inR];omega)));clear hcut;go_wp2_with fail
  go_quiet (fail)
  go_wp2_with fail
  go_ret2
  exact cZ.err HN.out (qa6 ha _)
 ·have d1:decide (o.side<0)=false:=by simpa using a1
  by_cases a2:(s0.length:Int)<=o.side
  ·have d2:decide ((s0.length:Int)<=o.side)=true:=by simpa using a2
   have HN:=zI (hcut.trans (inZ (by simp [Od.inR];omega)));clear hcut;go_wp2_with fail
   go_quiet (fail)
   go_wp2_with fail
   go_ret2
   exact cZ.err HN.out (qa6 ha _)
  ·have d2:decide ((s0.length:Int)<=o.side)=false:=by simpa using a2
   obtain ⟨sd,hsd⟩:∃sd:Nat,o.side=(sd:Int):=⟨o.side.toNat,by omega⟩
   have he:sd<s0.length:=by omega
   have hv:Od.inR o.side s0=true:=by simp [Od.inR];omega
   have hs:Od.at_ s0 o.side=s0[sd]:=by unfold Od.at_;rw [hsd,tnZ,qa1 he]
   rw [hv,Bool.true_and,hs] at hcut;have hI:=hC.out _ (gmZ he);obtain ⟨bs,os,rfl,-,-⟩:=hd.out 0 s3;have g0:=hd.out.at_ he;have hb:=λ(n:Nat) (v:Int)=>qbM (some ⟨bs,os,none⟩) c0' s0 sd v (w1.drewN n) oZ (hd.out.drewN n) he
   have hc:∀v,(s0.set sd v).length=s0.length:=λv=>List.length_set
   have i1:(sd:Int)<(s0.length:Int):=by omega
   have d2':decide (s0.length<=sd)=false:=by simp;omega
   rw [hsd] at z4 d1 d2 hcut;generalize s0[sd]=z at *;rw [hsd];rw [tnZ] at hcut;clear a1 a2 hv hs;obtain ⟨hE,hg,hL⟩:=zd3 hb hc hsd;clear hc hsd;clear hb
   by_cases a3:o.frm<0
   ·have d3:decide (o.frm<0)=true:=by simpa using a3
    have HN:=zI (hcut.trans (inZ soZ));clear hcut a3;go_wp2_with fail
    go_quiet (fail)
    go_wp2_with fail
    go_ret2
    exact cZ.err HN.out (qa6 ha _)
   ·have d3:decide (o.frm<0)=false:=by simpa using a3
    by_cases a4:z<o.to
    ·have d4:decide (z<o.to)=true:=by simpa using a4
     have HN:=zI (hcut.trans (inZ soZ));clear hcut a3 a4;go_wp2_with fail
     go_quiet (fail)
     go_wp2_with fail
     go_ret2
     exact cZ.err HN.out (qa6 ha _)
    ·have d4:decide (z<o.to)=false:=by simpa using a4
     by_cases a5:o.to<=o.frm
     ·have d5:decide (o.to<=o.frm)=true:=by simpa using a5
      have HN:=zI (hcut.trans (inZ soZ));clear hcut a3 a4 a5;go_wp2_with fail
      go_quiet (fail)
      go_wp2_with fail
      go_ret2
      exact cZ.err HN.out (qa6 ha _)
     ·have d5:decide (o.to<=o.frm)=false:=by simpa using a5
      have HN:=zI (hcut.trans (ipZ soZ));have ww:iQ.wrap (o.to-o.frm)=o.to-o.frm:=Zc1 _ oZ;clear hcut;go_wp2_with fail
      go_quiet (fail)
      rename_i nq;clear d1 d2 d2' d3 d4 d5;go_wp2_with fail;refine (hE.out nq (o.to-o.frm)).mono ?_;rintro e w3 ⟨g,rfl,hn,hO,hA⟩;have hj:=(qa6 ha nq).trans (hA.mono ha.size);have ht:=hg.out (o.to-o.frm);generalize s0.set sd (o.to-o.frm)=s9 at *;obtain ⟨hD,hB⟩:=zd2 hn ht;clear hn ht;go_wp2_with fail
      go_ret2
      exact cZ.ok HN.out rfl hD.out (lrZ _) (by have:=hB.out;omega) hj
theorem qbO (o:OpD) (S P X:Option Addr) (c d f:Nat) (p x:List (List Int)) (w:Zp1) (hk:o.kind=8) (hpl:p.length=2) (ho:o.s.length<=1099511627776) (hsc:o.s.length<=c) (hsm:c<=9223372036854775807) (hw:o.wide) (hS:Ints iQ w S o.s) (hP:bI w P p) (hX:bI w X x) (hxl:x.length<=1048576) (h1:1<=x.length) (hp:∀s∈p,Sh.right s=true) (hx:∀s∈x,Sh.right s=true):
  Calls prog 71 #[.agg #[nQ iQ o.kind,nQ iQ o.k,nQ iQ o.width,nQ iQ o.step,nQ iQ o.side,nQ iQ o.frm,nQ iQ o.to,sQ S o.s.length c],sQ P p.length d,sQ X x.length f] w (cZ (Od.aT o p x) w):=by
 have hq:Od.aT o p x=Od.kM (p.getD 0 []) (p.getD 1 []) (x.getD 0 []):=by unfold Od.aT;simp [hk]
 obtain ⟨bx,ox,S0,c0,rfl,-⟩:=hX 0 h1;obtain ⟨bp,op,T0,d0,rfl,-⟩:=hP 0 oZ;have hg:Below w.heap.size w (w.alloc (.cells #[nQ iQ o.kind,nQ iQ o.k,nQ iQ o.width,nQ iQ o.step,nQ iQ o.side,nQ iQ o.frm,nQ iQ o.to,sQ S o.s.length c] 83)):=(Ze1 _ _).alloc (lrZ _) _;have hA:=Blk.new w 83 #[nQ iQ o.kind,nQ iQ o.k,nQ iQ o.width,nQ iQ o.step,nQ iQ o.side,nQ iQ o.frm,nQ iQ o.to,sQ S o.s.length c];obtain ⟨z0,z1,z2,z3,z4,z5,z6,z7⟩:=qah hA;have hy:=hX.below hg (lrZ _);have hv:=hP.below hg (lrZ _);have hI:=hS.below hg (lrZ _);have hn:=hx x[0] (gmZ h1);have hr:x.getD 0 []=x[0]:=qa7 h1
 first|rw [hr] at hq|skip
 have hu:=hp p[0] (gmZ oZ);have hz:p.getD 0 []=p[0]:=qa7 oZ
 first|rw [hz] at hq|skip
 have l7:decide (o.kind<=7)=false:=by simp;omega
 have e8:(o.kind==8)=true:=by simp;omega
 clear hk;obtain ⟨hY,HX,HP,HS,Hp,Hx⟩:=zd6 hA hX hP hS hp hx;clear hA hX hP hS hp hx;go_in;go_upto_region 1 with fail;generalize (w.alloc (.cells #[nQ iQ o.kind,nQ iQ o.k,nQ iQ o.width,nQ iQ o.step,nQ iQ o.side,nQ iQ o.frm,nQ iQ o.to,sQ S o.s.length c] 83))=w1 at *;obtain ⟨S0',c0',y0,hK,h5,hU⟩:=hy.each h1;rw [Zx] at y0;obtain ⟨T0',d0',v0,hE,hL,hO⟩:=hv.each (show 0<p.length by omega);rw [Zx] at v0;clear T0;clear S0;generalize hs0:x[0]=s0 at *;generalize hsp:p[0]=t0 at *;obtain ⟨q3,q4⟩:=qa4 hu;have hG:=(Sh.aO hn).2.2.2.1;obtain ⟨s3,s4⟩:=qa4 hn;obtain ⟨h4,hR,hW,hM,hB,Hq,Ha,h7,h6⟩:=zd9 hy hv hI hK hn hq hr hs0 hG;obtain ⟨Hw,ht,h0,hV,hZ⟩:=zd5 hw hE hu hz hsp;clear hy hv hI hK hn hq hr hs0 hG hw hE hu hz hsp;go_wp2_with fail;refine (qal S0' c0' s0 w1 hB.out hM.out).mono ?_;rintro e w2 ⟨rfl,rfl⟩;obtain ⟨T1,d1,v1,hf,hT,h8⟩:=hR.out.each (show 1<p.length by omega);have hb:=Hp.out p[1] (gmZ oZ);have he:p.getD 1 []=p[1]:=qa7 oZ;have hd:=Hq.out;rw [he] at hd;generalize hsp1:p[1]=t1 at *;obtain ⟨q5,q6⟩:=qa4 hb;obtain ⟨bt,ot,rfl,-,-⟩:=ht.out 0 q3;unfold Od.kM at hd
 by_cases hi:t0.length=2
 rotate_left
 ·have f1:((t0.length:Int) != 2)=true:=by rw [bne_iff_ne];omega
  have f2:(t0.length != 2)=true:=by rw [bne_iff_ne];omega
  have HN:=zI (hd.trans (inZ (by intro h;exact hi h.1)));obtain ⟨hH,hl,hF,hm⟩:=zd4 hf hb he hsp1;clear hf hb he hsp1;clear hd hi;go_wp2_with fail
  go_quiet (fail)
  go_wp2_with fail
  go_ret2
  exact cZ.err HN.out (qa6 hg _)
 ·obtain ⟨a,b,rfl⟩:=list_two hi
  have g1:=ht.out.at_ (show 1<[a,b].length by simp);have g1:w1.cell? ⟨bt,ot+1,none⟩=some (nQ iQ b):=g1
  have hh:Ints iQ w1 (some ⟨bt,ot,none⟩) [a]:=Ints.dN λj hj=>by
   have hN:j=0:=by simp at hj;exact hj
   subst hN;exact ht.out.at_ (show 0<[a,b].length by simp)
  have h9:(1:Int)<=(d0':Int):=by simp at hL;omega
  have ha:=λn:Nat=>qbK T1 (some ⟨bt,ot,none⟩) d1 d0' t1 [a] (w1.drewN n) oZ sZ (hf.drewN n) (hh.drewN n)
  have f1:((2:Int) != 2)=false:=rfl;have v0':w1.cell? ⟨bp,op,none⟩=some (sQ (some ⟨bt,ot,none⟩) 2 d0'):=v0;have hQ:(1:Int)<(p.length:Int):=by omega
  clear v0 hL q3 q4
  by_cases hs:t1=[a]
  ·rw [decide_eq_true hs] at ha
   have hJ:Od.aT o p x=if Safe.prod s0=b then ([a],0) else ([],20):=by
    rw [hd]
    by_cases e:Safe.prod s0=b
    ·rw [ipZ e,ipZ ⟨rfl,by rw [hs];rfl,by rw [hs];rfl,hB.out,e⟩];rfl
    ·rw [inZ e,inZ];rintro ⟨_,_,_,_,h⟩;exact e h
   obtain ⟨hH,hl,hF,hm,hc,hD,hC⟩:=zd7 hf hb he hsp1 ha hh hJ;clear hf hb he hsp1 ha hh hJ;clear hd hi hs
   by_cases e:Safe.prod s0=b
   ·have f3:(b != Safe.prod s0)=false:=by simp [e]
    have HN:=zI (hC.out.trans (ipZ e));clear e;go_wp2_with fail
    go_quiet ((go_at_call 14;exact qbj (hc.out _)))
    go_wp2_with fail
    go_ret2
    exact cZ.ok HN.out rfl (hD.out.drewN _) soZ hO (qa6 hg _)
   ·have f3:(b != Safe.prod s0)=true:=by rw [bne_iff_ne];exact λh=>e h.symm
    have HN:=zI (hC.out.trans (inZ e));clear e;go_wp2_with fail
    go_quiet ((go_at_call 14;exact qbj (hc.out _)))
    go_wp2_with fail
    go_ret2
    exact cZ.err HN.out (qa6 hg _)
  ·rw [decide_eq_false hs] at ha
   have HN:=zI (hd.trans (inZ (by
    rintro ⟨_,h2,h3,_⟩;obtain ⟨z,rfl⟩:=qhb h2;exact hs (by simp at h3;rw [h3]))))
   obtain ⟨hH,hl,hF,hm,hc,hD⟩:=zd6 hf hb he hsp1 ha hh;clear hf hb he hsp1 ha hh;clear hd hi hs;go_wp2_with fail
   go_quiet ((go_at_call 14;exact qbj (hc.out _)))
   go_wp2_with fail
   go_ret2
   exact cZ.err HN.out (qa6 hg _)
theorem qck (o:OpD) (S P X:Option Addr) (c d f:Nat) (p x:List (List Int)) (w:Zp1) (hk:o.kind=10) (hpl:p.length=1) (ho:o.s.length<=1099511627776) (hsc:o.s.length<=c) (hsm:c<=9223372036854775807) (hw:o.wide) (hS:Ints iQ w S o.s) (hP:bI w P p) (hX:bI w X x) (hxl:x.length<=1048576) (h1:1<=x.length) (hp:∀s∈p,Sh.right s=true) (hx:∀s∈x,Sh.right s=true):
  Calls prog 71 #[.agg #[nQ iQ o.kind,nQ iQ o.k,nQ iQ o.width,nQ iQ o.step,nQ iQ o.side,nQ iQ o.frm,nQ iQ o.to,sQ S o.s.length c],sQ P p.length d,sQ X x.length f] w (cZ (Od.aT o p x) w):=by
 have hq:Od.aT o p x=Od.conv (p.getD 0 []) (x.getD 0 []) o.step:=by unfold Od.aT;simp [hk]
 obtain ⟨bx,ox,S0,c0,rfl,-⟩:=hX 0 h1;obtain ⟨bp,op,T0,d0,rfl,-⟩:=hP 0 oZ;have he:Below w.heap.size w (w.alloc (.cells #[nQ iQ o.kind,nQ iQ o.k,nQ iQ o.width,nQ iQ o.step,nQ iQ o.side,nQ iQ o.frm,nQ iQ o.to,sQ S o.s.length c] 83)):=(Ze1 _ _).alloc (lrZ _) _;have hN:=Blk.new w 83 #[nQ iQ o.kind,nQ iQ o.k,nQ iQ o.width,nQ iQ o.step,nQ iQ o.side,nQ iQ o.frm,nQ iQ o.to,sQ S o.s.length c];obtain ⟨z0,z1,z2,z3,z4,z5,z6,z7⟩:=qah hN;have hL:=hX.below he (lrZ _);have hQ:=hP.below he (lrZ _);have Hd:=hS.below he (lrZ _);have hF:=hx x[0] (gmZ h1);have hI:x.getD 0 []=x[0]:=qa7 h1
 first|rw [hI] at hq|skip
 have hO:=hp p[0] (gmZ oZ);have hT:p.getD 0 []=p[0]:=qa7 oZ
 first|rw [hT] at hq|skip
 have l7:decide (o.kind<=7)=false:=by simp;omega
 have e8:(o.kind==8)=false:=by simp;omega
 have e9:(o.kind==9)=false:=by simp;omega
 have e10:(o.kind==10)=true:=by simp;omega
 clear hk;obtain ⟨HI,HX,HP,HS,Hp,Hx⟩:=zd6 hN hX hP hS hp hx;clear hN hX hP hS hp hx;go_in;go_upto_region 1 with fail;generalize (w.alloc (.cells #[nQ iQ o.kind,nQ iQ o.k,nQ iQ o.width,nQ iQ o.step,nQ iQ o.side,nQ iQ o.frm,nQ iQ o.to,sQ S o.s.length c] 83))=w1 at *;obtain ⟨S0',c0',y0,h5,HL,HA⟩:=hL.each h1;rw [Zx] at y0;obtain ⟨T0',d0',v0,hZ,HO,HK⟩:=hQ.each (show 0<p.length by omega);rw [Zx] at v0;clear T0;clear S0;generalize hs0:x[0]=s0 at *;generalize hsp:p[0]=t0 at *;obtain ⟨q3,q4⟩:=qa4 hO;have Hb:=(Sh.aO hF).2.2.2.1;obtain ⟨s3,s4⟩:=qa4 hF;obtain ⟨HC,HM,HH,hD,hU,Hq,HG,HE,HD⟩:=zd9 hL hQ Hd h5 hF hq hI hs0 Hb;obtain ⟨Hw,hG,Hi,HB,HJ⟩:=zd5 hw hZ hO hT hsp;clear hL hQ Hd h5 hF hq hI hs0 Hb hw hZ hO hT hsp;go_wp2_with fail;refine (qal S0' c0' s0 w1 hU.out hD.out).mono ?_;rintro e w2 ⟨rfl,rfl⟩;have hc:=Hq.out;unfold Od.conv at hc;rw [Hi.out,hU.out,Bool.true_and,Bool.true_and] at hc;obtain ⟨i0,hi,Hk,Hj,Hu⟩:=info_parts qag;obtain ⟨bs,os,rfl,-,-⟩:=hD.out 0 s3;obtain ⟨bt,ot,rfl,-,-⟩:=hG.out 0 q3;have g0:=hD.out.at_ s3;have g2:=hG.out.at_ q3;rw [Zx] at g0 g2;have hC:s0.getD 0 0=s0[0]:=qa1 s3;have hA:t0.getD 0 0=t0[0]:=qa1 q3
 by_cases a1:t0.length=s0.length+1
 rotate_left
 ·have f1:((t0.length:Int) != (s0.length:Int)+1)=true:=by rw [bne_iff_ne];omega
  have HN:=zI (hc.trans (inZ soZ));clear hc a1 hC hA g0 g2;go_wp2_with fail
  go_quiet (fail)
  go_wp2_with fail
  go_ret2
  exact cZ.err HN.out (qa6 he _)
 ·have f1:((t0.length:Int) != (s0.length:Int)+1)=false:=by simp;omega
  by_cases a2:s0.length<2
  ·have f2:decide ((s0.length:Int)<2)=true:=by simp;omega
   have HN:=zI (hc.trans (inZ soZ));clear hc a1 hC hA g0 g2;go_wp2_with fail
   go_quiet (fail)
   go_wp2_with fail
   go_ret2
   exact cZ.err HN.out (qa6 he _)
  ·have f2:decide ((s0.length:Int)<2)=false:=by simp;omega
   by_cases a3:3<s0.length
   ·have f3:decide ((3:Int)<(s0.length:Int))=true:=by simp;omega
    have HN:=zI (hc.trans (inZ soZ));clear hc a1 hC hA g0 g2;go_wp2_with fail
    go_quiet (fail)
    go_wp2_with fail
    go_ret2
    exact cZ.err HN.out (qa6 he _)
   ·have f3:decide ((3:Int)<(s0.length:Int))=false:=by simp;omega
    have h9:1<t0.length:=by omega
    have g1:=hG.out.at_ h9;have j1:(1:Int)<(t0.length:Int):=by omega
    rw [hC,qa1 h9] at hc
    by_cases a4:t0[1]=s0[0]
    rotate_left
    ·have f4:(t0[1] != s0[0])=true:=by simp [a4]
     have HN:=zI (hc.trans (inZ (by simp;intro _ _ _;exact a4)));generalize t0[1]=tb at *;generalize s0[0]=sa at *;clear hc a1 hC hA a4 g2;go_wp2_with fail
     go_quiet (fail)
     go_wp2_with fail
     go_ret2
     exact cZ.err HN.out (qa6 he _)
    ·have f4:(t0[1] != s0[0])=false:=by simp [a4]
     rw [ipZ soZ] at hc;have Ho:=zI a1;generalize t0[1]=tb at *;generalize s0[0]=sa at *;generalize t0[0]=ta at *;clear a4 a1 hC;obtain ⟨hY,Hy⟩:=zd2 hc hA;clear hc hA;have z3':w1.cell? ⟨w.heap.size,3,none⟩=some (nQ iQ o.step):=z3;go_wp2_with fail
     go_quiet (fail)
     rename_i nq;clear f1 f2 f3 f4 g0 g1 z0 z1 z2 z3 z4 z5 z6 z7;go_wp2_with fail;clear g2 y0 v0;have h2:Below w1.heap.size w1 (w1.drewN nq):=qa6 (Ze1 _ _) nq;have hR:=Blk.new (w1.drewN nq) 3 #[nQ iQ ta];have h3:Below w1.heap.size w1 ((w1.drewN nq).alloc (.cells #[nQ iQ ta] 3)):=h2.alloc (lrZ _) _
     have hn:((w1.drewN nq).alloc (.cells #[nQ iQ ta] 3)).ownsRow w1.heap.size 3 1 (sQ (some ⟨w1.heap.size,0,none⟩) 1 1) 1 ((Od.outs t0 s0 o.step 0).map (Za1 iQ)):=qfT (by
      have:Od.outs t0 s0 o.step 0=[ta]:=by simp only [Od.outs,Hy.out];rfl
      rw [this];exact hR) (lrZ _) (by simp [Od.outs]) (by unfold maxLen;omega)
     obtain ⟨Hn,hm⟩:=zd2 hR hn;clear hR hn
     go_loopw [12,13] (λv i wx=>∃k:Nat,k<=s0.length-1/\i=nQ iQ ((k:Int)+1)/\wx.ownsRow w1.heap.size 3 1 v (k+1) ((Od.outs t0 s0 o.step k).map (Za1 iQ))/\(∀j,j<k->(Od.wn t0 s0 o.step j).2=0)/\Below w1.heap.size w1 wx) (λ_ i _=>s0.length-(intOf i).toNat)
     case atStart=>exact ⟨0,Zt _,rfl,hm.out,λj hj=>by omega,h3⟩
     case round=>
      obtain ⟨k,hk,rfl,hown,hd,hr⟩:=hrel;clear hm Hn h3 h2;obtain ⟨Ao,co,rfl⟩:=qa8 hown
      by_cases Hc:k+1<s0.length
      ·have h8:k+2<t0.length:=by have:=Ho.out;omega
       have m1:=qa0 hr (hD.out.at_ Hc);have m2:=qa0 hr (hG.out.at_ h8);have m3:=qa0 hr z3';have hE:Od.wn t0 s0 o.step k=Od.window s0[k+1] t0[k+2] o.step:=by unfold Od.wn;rw [qa1 Hc,qa1 h8]
       have ha:=λn:Nat=>qc4 s0[k+1] t0[k+2] o.step (wr.drewN n)
       rw [←hE] at ha;have hH:=@Od.mI s0[k+1] t0[k+2] o.step;have hv:=@Od.iT s0[k+1] t0[k+2] o.step;rw [←hE] at hH hv;have i1:iQ.wrap ((k:Int)+1+1)=((k+2:Nat):Int):=by rw [Zc1 _ oZ];omega
       have i2:((k:Int)+1)<(s0.length:Int):=by omega
       have i3:((k+2:Nat):Int)<(t0.length:Int):=by omega
       have i4:(0:Int)<=(k:Int)+1:=by omega
       have i5:((k:Int)+1).toNat=k+1:=by omega
       have i6:(0:Int)<=((k+2:Nat):Int):=by omega
       have hf:Od.outs t0 s0 o.step (k+1)=Od.outs t0 s0 o.step k++[(Od.wn t0 s0 o.step k).1]:=by simp [Od.outs,List.range_succ]
       have hs:(Od.outs t0 s0 o.step k).length=k+1:=by simp [Od.outs]
       have h0:(Od.wn t0 s0 o.step k).2=0->∀j,j<k+1->(Od.wn t0 s0 o.step j).2=0:=λe j hj=>by
        by_cases h:j=k
        ·subst h;exact e
        ·exact hd j oZ
       have h4:(Od.wn t0 s0 o.step k).2≠0->Od.aT o p x=([],11):=λe=>by
        rw [hY.out,inZ];rw [Zf];intro h;have:=h k (List.mem_range.2 oZ);exact e (by simpa using this)
       generalize s0[k+1]=sk at *;generalize t0[k+2]=tk at *;generalize Od.wn t0 s0 o.step k=wv at *;obtain ⟨HF,hg,Hs,hJ,ht,hW,Hm,Hf,hK⟩:=zd9 hE ha hH hv hf hs h0 h4 hd;have hy:=zI hown;clear hE ha hH hv hf hs h0 h4 hd hown;go_wp2_with fail
       go_quiet ((go_at_call 104;exact qai (hg.out _)))
       clear m1 m2 m3 i1 i3 i6
       by_cases hz:wv.2=0
       ·have hb:=Hs.out hz
        have e1:(wv.1==0)=false:=by simp;omega
        have Hz:=zI (Hm.out hz);have ho:=qad (qa5 (w':=wr.drewN nq) hy.out (λg _=>rfl)) (.cells #[nQ iQ wv.1] 3);have hh:=((qa6 hr nq).alloc hr.size (.cells #[nQ iQ wv.1] 3))
        have h6:∀b,(Zb1 Ao (k+1) co).ownBlock=some b->w1.heap.size<=b:=λb hb=>(hy.out.lt b hb).1
        clear hz hb;have Ha:=zI h6;clear h6;go_wp2_with (at_builtin;refine wpList_append_own_at _ rfl _ _ 22 rfl w1.heap.size 3 i0 (nQ iQ 0) 1 8 underlying22 hi Hk Hj Hu rfl dZ _ _ _ rfl ho ⟨wr.heap.size,0,none⟩ 1 1 [nQ iQ wv.1] rfl rfl ?c1 (by intro u hu;simp at hu;subst hu;rfl) (by unfold maxLen;omega) oZ ?c2 ?_)
        case c1=>exact qaF (wr.drewN nq) _ _
        case c2=>exact hh.size
        intro v' w3 hl hgrow _ Ht;have Hg:Below w1.heap.size w1 w3:=hh.grown hgrow hh.size (λb hb=>Ha.out b hb);have Hh:=zI (show w3.ownsRow w1.heap.size 3 1 v' (k+1+1) ((Od.outs t0 s0 o.step (k+1)).map (Za1 iQ)) by rw [ht.out];simpa using hl);clear hl hgrow Ht ho hh Ha;go_wp2_with fail;go_roundw
        case rel=>exact ⟨k+1,by omega,by go_num,Hh.out,Hz.out,Hg⟩
        case measure=>simp [intOf];omega
       ·have hb:=hJ.out hz
        have e1:(wv.1==0)=true:=by rw [hb];rfl
        have HN:=zI (Hf.out hz);clear hz hb;go_wp2_with fail
        go_ret2
        exact cZ.err HN.out (qa6 (he.trans (hr.mono he.size)) _)
      ·obtain rfl:k=s0.length-1:=by omega
       have i2:¬((s0.length-1:Nat):Int)+1<(s0.length:Int):=by omega
       have hs:(Od.outs t0 s0 o.step (s0.length-1)).length=s0.length-1+1:=by simp [Od.outs]
       have He:Od.aT o p x=if Sh.right (Od.outs t0 s0 o.step (s0.length-1))=true then (Od.outs t0 s0 o.step (s0.length-1),0) else ([],20):=by
        rw [hY.out,ipZ];rw [Zf];intro j hj;simpa using hd j (List.mem_range.1 hj)
       generalize Od.outs t0 s0 o.step (s0.length-1)=os9 at *;generalize s0.length-1=m at *;rw [←hs] at hown;obtain ⟨hM,Hr,Hl⟩:=qas (by rw [hs] at hown ⊢;exact hown);have ha:=qaK Ao co os9 wr oZ hM;rw [hs] at ha;obtain ⟨hy,hK,hW,hV,Hv,hg⟩:=zd6 hown hd hs He hM ha;clear hown hd hs He hM ha;go_wp2_with fail;refine (hg.out).mono ?_;rintro e w9 ⟨rfl,rfl⟩
       by_cases hB:Sh.right os9=true
       ·have HN:=zI (hV.out.trans (ipZ hB))
        rw [hB];clear hB;go_wp2_with fail
        go_ret2
        exact cZ.ok HN.out hW.out Hv.out Hr Hl (he.trans (hr.mono he.size))
       ·have HN:=zI (hV.out.trans (inZ hB))
        have h7:Sh.right os9=false:=by simpa using hB
        rw [h7];clear hB h7;go_wp2_with fail
        go_ret2
        exact cZ.err HN.out (he.trans (hr.mono he.size))
theorem qeX (o:OpD) (S P X:Option Addr) (c d f:Nat) (p x:List (List Int)) (w:Zp1) (hr:Od.right o=true) (hcnt:Od.counts o p.length x.length=0) (ho:o.s.length<=1099511627776) (hsc:o.s.length<=c) (hsm:c<=9223372036854775807) (hw:o.wide) (hS:Ints iQ w S o.s) (hP:bI w P p) (hX:bI w X x) (hp:∀s∈p,Sh.right s=true) (hx:∀s∈x,Sh.right s=true):
  Calls prog 71 #[.agg #[nQ iQ o.kind,nQ iQ o.k,nQ iQ o.width,nQ iQ o.step,nQ iQ o.side,nQ iQ o.frm,nQ iQ o.to,sQ S o.s.length c],sQ P p.length d,sQ X x.length f] w (cZ (Od.aT o p x) w):=by
 have hk:=Od.fF hr;obtain ⟨-,c1,c2,c3⟩:=Od.pU hcnt;have c4:=Od.kJ hr;have c5:=Od.rX hr;have hb:Od.params o=if o.kind=8 then 2 else if o.kind=9∨o.kind=10 then 1 else 0:=by unfold Od.params;rw [ipZ hr]
 have h1:1<=x.length:=by omega
 have ha:x.length<=1048576:=by omega
 by_cases k7:o.kind<=7
 ·exact qd5 o S P X c d f p x w k7 ho hsc hsm hw hS hP hX ha h1 hp hx
 ·have hh:o.kind=8∨o.kind=9∨o.kind=10∨(o.kind=11∨o.kind=12)∨o.kind=13∨o.kind=14∨o.kind=15:=by omega
  rcases hh with k|k|k|k|k|k|k
  ·exact qbO o S P X c d f p x w k (by rw [hb,ipZ k] at c3;omega) ho hsc hsm hw hS hP hX ha h1 hp hx
  ·exact qbN o S P X c d f p x w k (by rw [hb,inZ oZ,ipZ oZ] at c3;omega) ho hsc hsm hw hS hP hX ha h1 hp hx
  ·exact qck o S P X c d f p x w k (by rw [hb,inZ oZ,ipZ oZ] at c3;omega) ho hsc hsm hw hS hP hX ha h1 hp hx
  ·exact qcj o S P X c d f p x w k ho hsc hsm hw hS hP hX ha h1 hp hx
  ·exact qch o S P X c d f p x w k ho hsc hsm hw hS hP hX ha h1 hp hx
  ·exact qcJ o S P X c d f p x w k ho hsc hsm hw hS hP hX ha h1 hp hx
  ·exact qci o S P X c d f p x w k ho hsc hsm hw hS hP hX ha h1 hp hx
theorem qc5 {W:Zp1} {g:Nat} {t:TypeId} {v:aP} {S J Q:Option Addr} {c ic qc:Nat} (h:Blk W g t #[nQ iQ v.op.kind,nQ iQ v.op.k,nQ iQ v.op.width,nQ iQ v.op.step,nQ iQ v.op.side,nQ iQ v.op.frm,nQ iQ v.op.to,sQ S v.op.s.length c,sQ J v.ins.length ic,sQ Q v.p.length qc]):
  W.cell? ⟨g,0,none⟩=some (nQ iQ v.op.kind)/\W.cell? ⟨g,1,none⟩=some (nQ iQ v.op.k)/\W.cell? ⟨g,2,none⟩=some (nQ iQ v.op.width)/\W.cell? ⟨g,3,none⟩=some (nQ iQ v.op.step)/\W.cell? ⟨g,4,none⟩=some (nQ iQ v.op.side)/\W.cell? ⟨g,5,none⟩=some (nQ iQ v.op.frm)/\W.cell? ⟨g,6,none⟩=some (nQ iQ v.op.to)/\W.cell? ⟨g,7,none⟩=some (sQ S v.op.s.length c)/\W.cell? ⟨g,8,none⟩=some (sQ J v.ins.length ic)/\W.cell? ⟨g,9,none⟩=some (sQ Q v.p.length qc):=
 ⟨h.cell 0,h.cell 1,h.cell 2,h.cell 3,h.cell 4,h.cell 5,h.cell 6,h.cell 7,h.cell 8,h.cell 9⟩
def fM (w:Zp1) (vs:List Value) (ss:List (List Int)):Prop:=
 vs.length=ss.length/\∀j (hj:j<ss.length),∃S c,vs[j]? = some (sQ S ss[j].length c)/\Ints iQ w S ss[j]/\ss[j].length<=c/\c<=9223372036854775807
theorem fM.nil (w:Zp1):fM w [] []:=⟨rfl,λj hj=>absurd hj sZ⟩
theorem fM.push {w:Zp1} {vs:List Value} {ss:List (List Int)} {S:Option Addr} {s:List Int} {c:Nat} (h:fM w vs ss) (hI:Ints iQ w S s) (h1:s.length<=c) (h2:c<=9223372036854775807):fM w (vs++[sQ S s.length c]) (ss++[s]):=by
 refine ⟨by simp [h.1],λj hj=>?_⟩;simp at hj
 by_cases e:j<ss.length
 ·obtain ⟨S',c',e1,e2⟩:=h.2 j e
  refine ⟨S',c',?_,?_⟩
  ·rw [Zm (by rw [h.1];exact e),e1];simp [e]
  ·simpa [e] using e2
 ·obtain rfl:j=ss.length:=by omega
  refine ⟨S,c,?_,?_⟩
  ·rw [Zl (by have:=h.1;omega)];simp [h.1]
  ·simp;exact ⟨hI,h1,h2⟩
theorem fM.below {w w':Zp1} {vs:List Value} {ss:List (List Int)} {B:Nat} (h:fM w vs ss) (hb:Below B w w') (hB:w.heap.size<=B):fM w' vs ss:=
 ⟨h.1,λj hj=>by obtain ⟨S,c,e1,e2,e3⟩:=h.2 j hj;exact ⟨S,c,e1,e2.below hb hB,e3⟩⟩
theorem fM.nJ {w w':Zp1} {vs:List Value} {ss:List (List Int)} {B n:Nat} {t:TypeId} {v:Value} (h:fM w vs ss) (hown:w'.ownsRow B t 1 v n vs) (hb:Below w.heap.size w w'):
  ∃A c,v=sQ A ss.length c/\n=ss.length/\bI w' A ss/\ss.length<=c/\c<=9223372036854775807:=by
 have hn:n=ss.length:=by have:=hown.1;have:=h.1;omega
 subst hn;rcases hown.2 with ⟨rfl,h0⟩|⟨g,cap,cur,rfl,hB,hh,r1,r2,r3,r4⟩
 ·have:ss=[]:=List.eq_nil_of_length_eq_zero h0
  subst this;exact ⟨none,0,rfl,rfl,bI.nil,by simp,by omega⟩
 ·refine ⟨_,cap,rfl,rfl,λj hj=>?_,r1,by unfold maxLen at r2;omega⟩
  obtain ⟨S,c,e1,e2,e3⟩:=h.2 j hj;refine ⟨g,0,S,c,rfl,lt_of_block hh,?_,e2.below hb (lrZ _),e3⟩;rw [Zw,hown.cellAt j oZ];exact e1
theorem qbP:(prog.info? 22).map (λi=>(i.zero,i.size,i.bytes))=some (some (sQ none 0 0),1,24):=by kernel_rfl
theorem qhc (sh:List (List Int)) (l:List Int) {k:Nat} (hk:k<l.length):Nt.pick sh (l.take (k+1))=Nt.pick sh (l.take k)++[sh.getD l[k].toNat []]:=by
 unfold Nt.pick;rw [Zb hk,List.map_append]
 rfl
theorem qeY (v:aP) (S J Q:Option Addr) (c ic qc g gc:Nat) (sh:List (List Int)) (w:Zp1) (hok:v.ok) (hr:Od.right v.op=true) (hsc:v.op.s.length<=c) (hsm:c<=9223372036854775807) (hS:Ints iQ w S v.op.s) (hJ:Ints iQ w J v.ins) (hQ:bI w Q v.p) (hX:bI w (some ⟨g,0,none⟩) sh)
  (hin:∀i∈v.ins,0<=i/\i.toNat<sh.length/\Sh.right (sh.getD i.toNat [])=true):
  Calls prog 32 #[.agg #[nQ iQ v.op.kind,nQ iQ v.op.k,nQ iQ v.op.width,nQ iQ v.op.step,nQ iQ v.op.side,nQ iQ v.op.frm,nQ iQ v.op.to,sQ S v.op.s.length c,sQ J v.ins.length ic,sQ Q v.p.length qc],sQ (some ⟨g,0,none⟩) sh.length gc] w (cZ (Od.shape v.op v.p (Nt.pick sh v.ins)) w):=by
 obtain ⟨i1,hj,HH,HV,HT⟩:=info_parts qbP;have hv:Below w.heap.size w (w.alloc (.cells #[nQ iQ v.op.kind,nQ iQ v.op.k,nQ iQ v.op.width,nQ iQ v.op.step,nQ iQ v.op.side,nQ iQ v.op.frm,nQ iQ v.op.to,sQ S v.op.s.length c,sQ J v.ins.length ic,sQ Q v.p.length qc] 85)):=(Ze1 _ _).alloc (lrZ _) _;have hW:=Blk.new w 85 #[nQ iQ v.op.kind,nQ iQ v.op.k,nQ iQ v.op.width,nQ iQ v.op.step,nQ iQ v.op.side,nQ iQ v.op.frm,nQ iQ v.op.to,sQ S v.op.s.length c,sQ J v.ins.length ic,sQ Q v.p.length qc];obtain ⟨y0,y1,y2,y3,y4,y5,y6,y7,y8,y9⟩:=qc5 hW;have Hy:=hS.below hv (lrZ _);have Hv:=hJ.below hv (lrZ _);have Hl:=hQ.below hv (lrZ _);have h9:=hX.below hv (lrZ _);have HG:=Od.fF hr;have gg:=hok.2.2.1;have H8:=hok.2.2.2.1;have hR:(Nt.pick sh v.ins).length=v.ins.length:=by simp [Nt.pick]
 have Hm:=qe5 hr;have Hk:=qe7 hr;have hh:Od.counts v.op v.p.length (Nt.pick sh v.ins).length=if ((v.ins.length:Int)<Od.least v.op∨Od.most v.op<(v.ins.length:Int)∨(v.p.length:Int)≠Od.params v.op) then 20 else 0:=by unfold Od.counts;rw [ipZ hr,hR]
 have hF:Od.counts v.op v.p.length (Nt.pick sh v.ins).length=20->Od.shape v.op v.p (Nt.pick sh v.ins)=([],20):=λh=>by unfold Od.shape;rw [ipZ (by rw [h];omega),h]
 obtain ⟨h1,Hr,HS,HJ,HQ,HX,h6,Hh,Ha⟩:=zd9 hok hr hS hJ hQ hX hin Hy Hv;obtain ⟨Hn,h8,Hj,H2,h5,h7,hA,hx⟩:=zd8 Hl h9 hW hR Hm Hk hh hF;clear hok hr hS hJ hQ hX hin Hy Hv Hl h9 hW hR Hm Hk hh hF;go_in;go_upto_region 1 with fail;generalize w.alloc (.cells #[nQ iQ v.op.kind,nQ iQ v.op.k,nQ iQ v.op.width,nQ iQ v.op.step,nQ iQ v.op.side,nQ iQ v.op.frm,nQ iQ v.op.to,sQ S v.op.s.length c,sQ J v.ins.length ic,sQ Q v.p.length qc] 85)=w1 at *;go_wp2_with fail;refine (qh5 v.op.kind _ HG).mono ?_;rintro e w2 ⟨rfl,rfl⟩;rw [h5.out];have ha:=λn:Nat=>qe8 v.op.kind (w1.drewN n)
 rw [h7.out] at ha;have hh:=hA.out;have h3:=Od.rX Hr.out;have hP:=Od.kJ Hr.out;generalize hL:Od.least v.op=L at *;generalize hM:Od.most v.op=M at *;generalize hPa:Od.params v.op=PA at *;obtain ⟨hd,HL,HM,gh⟩:=zd4 ha hL hM hPa;clear ha hL hM hPa;have hH:=zI hh;clear hh hA h5 h7
 by_cases a1:(v.p.length:Int)=PA
 rotate_left
 ·have d1:((v.p.length:Int) != PA)=true:=by rw [bne_iff_ne];exact a1
  have HN:=zI (hx.out (by rw [hH.out,ipZ oZ]));clear a1;go_wp2_with fail
  go_quiet ((go_at_call 70;exact qai (hd.out _)))
  go_wp2_with fail
  go_ret2
  exact cZ.err HN.out (qa6 hv _)
 ·have d1:((v.p.length:Int) != PA)=false:=by simp [a1]
  by_cases a2:(v.ins.length:Int)<L
  ·have d2:decide ((v.ins.length:Int)<L)=true:=by simpa using a2
   have HN:=zI (hx.out (by rw [hH.out,ipZ oZ]));have Hq:=zI a1;clear a1;go_wp2_with fail
   go_quiet ((go_at_call 70;exact qai (hd.out _)))
   go_wp2_with fail
   go_ret2
   exact cZ.err HN.out (qa6 hv _)
  ·have d2:decide ((v.ins.length:Int)<L)=false:=by simpa using a2
   by_cases a3:M<(v.ins.length:Int)
   ·have d3:decide (M<(v.ins.length:Int))=true:=by simpa using a3
    have HN:=zI (hx.out (by rw [hH.out,ipZ oZ]));have Hq:=zI a1;clear a1;go_wp2_with fail
    go_quiet ((go_at_call 70;exact qai (hd.out _)))
    go_wp2_with fail
    go_ret2
    exact cZ.err HN.out (qa6 hv _)
   ·have d3:decide (M<(v.ins.length:Int))=false:=by simpa using a3
    have Hu:Od.counts v.op v.p.length (Nt.pick sh v.ins).length=0:=by rw [hH.out,inZ oZ]
    have H5:v.ins.length<=8:=by omega
    have Hq:=zI a1;clear a1 a2 a3;have h0:=zI Hu;clear Hu;go_wp2_with fail
    go_quiet ((go_at_call 70;exact qai (hd.out _)))
    rename_i nq;clear d1 d2 d3;have hG:=qa6 hv nq;have Hi:=Hh.out.drewN nq;have Ho:=Ha.out.drewN nq;have Hz:=Hn.out.drewN nq;have Hs:=h8.out.drewN nq;obtain ⟨Hd,He,hY,HB⟩:=zd4 Hi Ho Hz Hs;clear Hi Ho Hz Hs;clear Hh Ha Hn h8 hd;go_wp2_with fail
    go_loop [8] (λi=>∃k:Nat,k<=v.p.length/\i=nQ iQ (k:Int)/\(v.p.take k).all Sh.right=true) (λi=>v.p.length-(intOf i).toNat)
    case atStart=>exact ⟨0,Zt _,rfl,rfl⟩
    case round=>
     obtain ⟨k,hk,rfl,he⟩:=hrel
     by_cases hp:k<v.p.length
     ·obtain ⟨b,off,Sk,ck,rfl,-,hc,Hp,H6,H7⟩:=hY.out k hp
      have HY:=h1.out.2.2.2.2.1 _ (gmZ hp);have ht:Sh.right v.p[k]=true->(v.p.take (k+1)).all Sh.right=true:=λh=>by rw [Zb hp,List.all_append,he];simp [h]
      have hE:Sh.right v.p[k]=false->Od.shape v.op v.p (Nt.pick sh v.ins)=([],20):=λh=>by
       unfold Od.shape;rw [inZ (by rw [h0.out];simp),inZ];intro h2;rw [Zz] at h2;have:=List.all_eq_true.1 h2.1 _ (gmZ hp);rw [h] at this;cases this
      generalize v.p[k]=s at *;obtain ⟨HP,hK,hC,hI⟩:=zd4 Hp he ht hE;clear Hp he ht hE;go_wp2_with fail;refine (qaK Sk ck s _ oZ HP.out).mono ?_;rintro e w3 ⟨rfl,rfl⟩
      by_cases hB:Sh.right s=true
      ·have HA:=zI (hC.out hB)
       rw [hB];clear hB;go_wp2_with fail
       go_round
       case rel=>exact ⟨k+1,by omega,by go_num,HA.out⟩
       case measure=>simp [intOf];omega
      ·have hy:Sh.right s=false:=by simpa using hB
       have HN:=zI (hI.out hy);rw [hy];clear hB hy;go_wp2_with fail
       go_ret2
       exact cZ.err HN.out hG
     ·obtain rfl:k=v.p.length:=by omega
      rw [Zg] at he;have HC:∀s∈v.p,Sh.right s=true:=List.all_eq_true.1 he
      have hU:∀s∈Nt.pick sh v.ins,Sh.right s=true:=λs hs=>by
       obtain ⟨i,hi,rfl⟩:=List.mem_map.1 hs;exact (h6.out i hi).2.2
      have Hx:Od.shape v.op v.p (Nt.pick sh v.ins)=Od.aT v.op v.p (Nt.pick sh v.ins):=Od.qR h0.out he (List.all_eq_true.2 hU);obtain ⟨hK,HO,HW,HK⟩:=zd4 he HC hU Hx;clear he HC hU Hx;go_wp2_with fail;clear y0 y1 y2 y3 y4 y5 y6 y7;obtain ⟨w2,hw2⟩:∃w2,w1.drewN nq=w2:=⟨_,rfl⟩
      have Hf:Blk w2 w.heap.size 85 #[nQ iQ v.op.kind,nQ iQ v.op.k,nQ iQ v.op.width,nQ iQ v.op.step,nQ iQ v.op.side,nQ iQ v.op.frm,nQ iQ v.op.to,sQ S v.op.s.length c,sQ J v.ins.length ic,sQ Q v.p.length qc]:=by rw [←hw2];exact Hj.out.drewN nq
      rw [hw2] at hG Hd He hY HB ⊢;clear hw2 y8 y9 Hj;have Hg:=zI Hf;clear Hf
      go_loopw [9,10] (λo i wx=>∃(k:Nat) (vs:List Value),k<=v.ins.length/\i=nQ iQ (k:Int)/\wx.ownsRow w2.heap.size 22 1 o k vs/\fM w2 vs (Nt.pick sh (v.ins.take k))/\Below w2.heap.size w2 wx) (λ_ i _=>v.ins.length-(intOf i).toNat)
      case atStart=>exact ⟨0,[],Zt _,rfl,World.ownsRow_nil _ _ _ _,fM.nil _,Ze1 _ _⟩
      case round=>
       obtain ⟨k,vs,hk,rfl,hown,hf,hm⟩:=hrel;have hg:=Hg.out.below hm Hg.out.lt;have y8:wr.cell? ⟨w.heap.size,8,none⟩=some (sQ J v.ins.length ic):=by rw [hg.cell];rfl
       by_cases hp:k<v.ins.length
       ·obtain ⟨Ao,co,rfl⟩:=qa8 hown
        obtain ⟨b1,off1,rfl,-,hc⟩:=He.out.below hm (lrZ _) k hp;rw [qa1 hp] at hc;obtain ⟨r1,r2,r3⟩:=h6.out _ (gmZ hp);have hz:=qhc sh v.ins hp;obtain ⟨u,hu⟩:∃u:Nat,v.ins[k]=(u:Int):=⟨v.ins[k].toNat,by omega⟩
        rw [hu] at hc hz r2;rw [tnZ] at hz r2;rw [qa7 r2] at hz;obtain ⟨Su,cu,yu,hN,u1,u2⟩:=HB.out.each r2;rw [Zw] at yu;have yu':=qa0 hm yu;have hl:=hf.push hN u1 u2;rw [←hz] at hl;generalize sh[u]=s at *;have j0:(0:Int)<=(u:Int):=by omega
        have j1:(u:Int)<(sh.length:Int):=by omega
        have ho:=qad hown (.cells #[sQ Su s.length cu] 22);have hn:=hm.alloc hm.size (.cells #[sQ Su s.length cu] 22);have Hc:∀b,(Zb1 Ao k co).ownBlock=some b->w2.heap.size<=b:=λb hb=>(hown.lt b hb).1
        obtain ⟨hZ,hV,hD,HU,gf,H4⟩:=zd6 hg hf hl Hc hN hz;clear hg hf hl Hc hN hz;clear hown r1 r3 hu yu;go_wp2_with (at_builtin;refine wpList_append_own_at _ rfl _ _ 32 rfl w2.heap.size 22 i1 (sQ none 0 0) 1 24 underlying32 hj HH HV HT rfl dZ _ _ _ rfl ho ⟨wr.heap.size,0,none⟩ 1 1 [sQ Su s.length cu] rfl rfl ?c1 (by intro u hu;simp at hu;subst hu;rfl) (by unfold maxLen;omega) oZ ?c2 ?_)
        first|(case c1=>exact qaF wr _ _)|skip
        case c2=>first|exact hn.size|(have:=hm.size;omega)
        intro v' w3 hq hgrow _ HZ;have HD:Below w2.heap.size w2 w3:=hn.grown hgrow hn.size (λb hb=>HU.out b hb);have HE:=zI hq;clear hq hgrow HZ ho hn;go_wp2_with fail;go_roundw
        case rel=>exact ⟨k+1,_,by omega,by go_num,HE.out,hD.out,HD⟩
        case measure=>simp [intOf];omega
       ·obtain rfl:k=v.ins.length:=by omega
        rw [Zg] at hf;obtain ⟨Ao,co,rfl,Hb,hT,gd,H9⟩:=hf.nJ hown hm;obtain ⟨y0,y1,y2,y3,y4,y5,y6,y7,-,y9⟩:=qc5 hg;have hw:=h1.out.1;have ge:=h1.out.2.1;have ha:=qeX v.op S Q Ao c qc co v.p (Nt.pick sh v.ins) wr Hr.out h0.out oZ hsc hsm hw (Hd.out.below hm (lrZ _)) (hY.out.below hm (lrZ _)) hT HO.out HW.out;have Ht:=hG.trans (hm.mono hG.size);rw [←HK.out] at ha;generalize Od.shape v.op v.p (Nt.pick sh v.ins)=r at *;obtain ⟨hd,hV,HI,gb,hZ,Hw,H3⟩:=zd7 ha hf hown hT hg hw Hb;clear ha hf hown hT hg hw Hb;go_wp2_with fail;clear y0 y1 y2 y3 y4 y5 y6 y7 y8 y9;refine (hd.out).mono ?_;rintro e w9 ⟨S9,c9,rfl,h4,H0,HR,HF⟩;have H1:=zI h4;clear h4;have hO:=Ht.trans (HF.mono Ht.size);go_wp2_with fail
        go_ret2
        exact ⟨S9,c9,rfl,H1.out,H0,HR,hO⟩
def mZ (B:Nat) (w:Zp1) (g:Nat) (t:TypeId) (ss:List (List Int)):Prop:=
 B<=g/\∃hs:List Nat,hs.length=ss.length/\(∃vs:List Value,vs.length=ss.length/\Blk w g t vs.toArray/\∀j (hj:j<ss.length) (hj2:j<hs.length),vs[j]? = some (sQ (some ⟨hs[j],0,none⟩) ss[j].length ss[j].length))/\
  ∀j (hj:j<ss.length) (hj2:j<hs.length),B<=hs[j]/\hs[j]≠g/\Blk w hs[j] 3 (ss[j].map (Za1 iQ)).toArray
theorem mZ.nJ {B:Nat} {w:Zp1} {g:Nat} {t:TypeId} {ss:List (List Int)} (h:mZ B w g t ss) (hm:∀s∈ss,s.length<=9223372036854775807):bI w (some ⟨g,0,none⟩) ss:=λj hj=>by
 obtain ⟨_,hs,hl,⟨vs,ha,hk,hv⟩,hb⟩:=h;have h1:=hv j hj oZ;obtain ⟨_,_,hB⟩:=hb j hj oZ;refine ⟨g,0,_,_,rfl,hk.lt,by rw [Zw,hk.cell j];simpa using h1,Ints.dN λi hi=>?_,lrZ _,hm _ (gmZ hj)⟩;rw [Zw,hB.cell i,qa1 hi];simp [hi]
theorem mZ.fr {B:Nat} {w w':Zp1} {g:Nat} {t:TypeId} {ss:List (List Int)} {S:Nat->Prop} (h:mZ B w g t ss) (hf:Fr S w w') (hS:∀b,B<=b->b<w.heap.size->¬S b):mZ B w' g t ss:=by
 obtain ⟨hg,hs,hl,⟨vs,ha,hk,hv⟩,hb⟩:=h;refine ⟨hg,hs,hl,⟨vs,ha,hf.blk hk (hS _ hg hk.lt),hv⟩,λj hj hc=>?_⟩;obtain ⟨h1,h2,h3⟩:=hb j hj hc;exact ⟨h1,h2,hf.blk h3 (hS _ h1 h3.lt)⟩
theorem mZ.base {B B':Nat} {w:Zp1} {g:Nat} {t:TypeId} {ss:List (List Int)} (h:mZ B w g t ss) (hB:B'<=B):mZ B' w g t ss:=by
 obtain ⟨hg,hs,hl,hv,hb⟩:=h;exact ⟨Zv hB hg,hs,hl,hv,λj hj ha=>⟨Zv hB (hb j hj ha).1,(hb j hj ha).2⟩⟩
def eD (T:TypeId) (w w':Zp1):Prop:=w.heap.size<=w'.heap.size/\∀(b:Nat) (cs:Array Value) (t:TypeId),w.heap[b]? = some (Obj.cells cs t (0,0))->t≠T->w'.heap[b]? = w.heap[b]?
section
variable {T t:TypeId} {w w' w2:Zp1} {g B:Nat} {cs:Array Value}
theorem eD.of_later (h:Later w w'):eD T w w':=⟨Below.size h,λb cs t hb _=>Below.block h b (lt_of_block hb)⟩
theorem eD.aU (hb:Blk w g T cs) (i:Nat) (u:Value):eD T w (w.setCell ⟨g,i,none⟩ u):=⟨by simp,λb cs' t h ht=>Below.heap_setCell w _ u b (λe=>by
 have e:b=g:=e;subst e;unfold Blk at hb;rw [hb] at h;injection h with h
 injection h with _ h _
 exact ht h.symm)⟩
theorem eD.refl (T:TypeId) (w:Zp1):eD T w w:=⟨lrZ _,λ_ _ _ _ _=>rfl⟩
theorem eD.trans (h:eD T w w') (k:eD T w' w2):eD T w w2:=⟨Zv h.1 k.1,λb cs t hb ht=>(k.2 b cs t ((h.2 b cs t hb ht).trans hb) ht).trans (h.2 b cs t hb ht)⟩
theorem Blk.keep (hb:Blk w g t cs) (ht:t≠T) (h:eD T w w'):Blk w' g t cs:=(h.2 g cs t hb ht).trans hb
theorem qeg {e:TypeId} {s n:Nat} {v:Value} {xs:List Value} (h:w.ownsRow B e s v n xs) (ht:e≠T) (hk:eD T w w'):w'.ownsRow B e s v n xs:=by
 refine ⟨h.1,?_⟩;rcases h.2 with h|⟨g,cap,cur,rfl,h1,h2,h3⟩
 ·exact .inl h
 ·exact .inr ⟨g,cap,cur,rfl,h1,(hk.2 g cur e h2 ht).trans h2,h3⟩
theorem mZ.keep {ss:List (List Int)} (h:mZ B w g t ss) (ht:t≠T) (hi:3≠T) (hk:eD T w w'):mZ B w' g t ss:=by
 obtain ⟨hg,hs,hl,⟨vs,hc,hb,hv⟩,hr⟩:=h;exact ⟨hg,hs,hl,⟨vs,hc,hb.keep ht hk,hv⟩,λj hj ha=>⟨(hr j hj ha).1,(hr j hj ha).2.1,(hr j hj ha).2.2.keep hi hk⟩⟩
end
structure CpQ where
 v:aP
 S:Nat
 J:Option Addr
 jc:Nat
 Q:Nat
def CpQ.cells (x:CpQ):List Value:=[nQ iQ x.v.op.kind,nQ iQ x.v.op.k,nQ iQ x.v.op.width,nQ iQ x.v.op.step,nQ iQ x.v.op.side,nQ iQ x.v.op.frm,nQ iQ x.v.op.to,sQ (some ⟨x.S,0,none⟩) x.v.op.s.length x.v.op.s.length,.slice x.J x.v.ins.length x.jc,sQ (some ⟨x.Q,0,none⟩) x.v.p.length x.v.p.length]
def CpQ.R (B:Nat) (w:Zp1) (x:CpQ):Prop:=B<=x.S/\Blk w x.S 3 (x.v.op.s.map (Za1 iQ)).toArray/\w.ownsRow B 3 1 (.slice x.J x.v.ins.length x.jc) x.v.ins.length (x.v.ins.map (Za1 iQ))/\mZ B w x.Q 23 x.v.p
theorem CpQ.len (x:CpQ):x.cells.length=10:=rfl
theorem CpQ.flat (L:List CpQ):(L.flatMap CpQ.cells).length=L.length*10:=by
 induction L with
 | nil=>rfl
 | cons x r ih=>rw [List.flatMap_cons,Ze,ih,CpQ.len,List.length_cons];omega
theorem CpQ.R.keep {B:Nat} {w w':Zp1} {x:CpQ} {T:TypeId} (h:CpQ.R B w x) (h1:3≠T) (h2:23≠T) (hk:eD T w w'):CpQ.R B w' x:=
 ⟨h.1,h.2.1.keep h1 hk,qeg h.2.2.1 h1 hk,h.2.2.2.keep h2 h1 hk⟩
theorem CpQ.R.later {B:Nat} {w w':Zp1} {x:CpQ} (h:CpQ.R B w x) (hk:Later w w'):CpQ.R B w' x:=h.keep (T:=77) dZ dZ (eD.of_later hk)
def iL (B:Nat) (wx:Zp1) (g:Nat) (zc:Array Value) (ns:List aP) (k:Nat):Prop:=
 ∃L:List CpQ,L.map (·.v)=ns.take k/\L.length=k/\Blk wx g 77 (L.flatMap CpQ.cells++zc.toList.drop (k*10)).toArray/\∀x∈L,CpQ.R B wx x
theorem iL.later {B:Nat} {w w':Zp1} {g:Nat} {zc:Array Value} {ns:List aP} {k:Nat} (h:iL B w g zc ns k) (hk:Later w w'):iL B w' g zc ns k:=by
 obtain ⟨L,h1,h2,h3,h4⟩:=h;exact ⟨L,h1,h2,hk.blk h3,λx hx=>(h4 x hx).later hk⟩
theorem iL.keep {B:Nat} {w w':Zp1} {g:Nat} {zc:Array Value} {ns:List aP} {k:Nat} {T:TypeId} (h:iL B w g zc ns k) (h1:3≠T) (h2:23≠T) (h3:77≠T) (hk:eD T w w'):iL B w' g zc ns k:=by
 obtain ⟨L,l1,l2,l3,l4⟩:=h;exact ⟨L,l1,l2,l3.keep h3 hk,λx hx=>(l4 x hx).keep h1 h2 hk⟩
theorem qeZ {w:Zp1} {B B' e s n:Nat} {v:Value} {xs:List Value} (h:w.ownsRow B e s v n xs) (hB:B'<=B):w.ownsRow B' e s v n xs:=by
 refine ⟨h.1,?_⟩;rcases h.2 with h|⟨g,cap,cur,h1,h2,h3⟩
 ·exact .inl h
 ·exact .inr ⟨g,cap,cur,h1,Zv hB h2,h3⟩
theorem CpQ.R.base {B B':Nat} {w:Zp1} {x:CpQ} (h:CpQ.R B w x) (hB:B'<=B):CpQ.R B' w x:=⟨Zv hB h.1,h.2.1,qeZ h.2.2.1 hB,h.2.2.2.base hB⟩
theorem iL.zero {B:Nat} {w:Zp1} {g:Nat} {zc:Array Value} {ns:List aP} (h:Blk w g 77 zc):iL B w g zc ns 0:=⟨[],by simp,rfl,by simpa using h,by simp⟩
def fO (w:Zp1) (g o:Nat) (l:List Value):Zp1:=((((((((((w.setCell ⟨g,o,none⟩ (l.getD 0 undef)).setCell ⟨g,o+1,none⟩ (l.getD 1 undef)).setCell ⟨g,o+2,none⟩ (l.getD 2 undef)).setCell ⟨g,o+3,none⟩ (l.getD 3 undef)).setCell ⟨g,o+4,none⟩ (l.getD 4 undef)).setCell ⟨g,o+5,none⟩ (l.getD 5 undef)).setCell ⟨g,o+6,none⟩ (l.getD 6 undef)).setCell ⟨g,o+7,none⟩ (l.getD 7 undef)).setCell ⟨g,o+8,none⟩ (l.getD 8 undef)).setCell ⟨g,o+9,none⟩ (l.getD 9 undef))
theorem Blk.fO {w:Zp1} {g:Nat} {t:TypeId} {P R:List Value} {z0 z1 z2 z3 z4 z5 z6 z7 z8 z9 a0 a1 a2 a3 a4 a5 a6 a7 a8 a9:Value} {o:Nat} (hP:P.length=o) (h:Blk w g t (P++z0::z1::z2::z3::z4::z5::z6::z7::z8::z9::R).toArray):
  Blk (Go.Proofs.YtddkenhemnkkeaaGreat.fO w g o [a0,a1,a2,a3,a4,a5,a6,a7,a8,a9]) g t (P++a0::a1::a2::a3::a4::a5::a6::a7::a8::a9::R).toArray:=by
 subst hP;have:=(((((((((h.aU P.length a0).aU (P.length+1) a1).aU (P.length+2) a2).aU (P.length+3) a3).aU (P.length+4) a4).aU (P.length+5) a5).aU (P.length+6) a6).aU (P.length+7) a7).aU (P.length+8) a8).aU (P.length+9) a9;simpa [Go.Proofs.YtddkenhemnkkeaaGreat.fO,List.set_append_right] using this
theorem eD.fO {w:Zp1} {g:Nat} {t:TypeId} {cs:Array Value} (h:Blk w g t cs) (o:Nat) (l:List Value):eD t w (Go.Proofs.YtddkenhemnkkeaaGreat.fO w g o l):=by
 unfold Go.Proofs.YtddkenhemnkkeaaGreat.fO;have s:∀ {W:Zp1} (hk:eD t w W) (hc:∃cs,Blk W g t cs) (i:Nat) (u:Value),eD t w (W.setCell ⟨g,i,none⟩ u)/\∃cs,Blk (W.setCell ⟨g,i,none⟩ u) g t cs:=λhk ⟨cs,hc⟩ i u=>⟨hk.trans (eD.aU hc i u),_,hc.aU i u⟩
 have s0:=s (eD.refl t w) ⟨_,h⟩ o (l.getD 0 undef);have s1:=s s0.1 s0.2 (o+1) (l.getD 1 undef);have s2:=s s1.1 s1.2 (o+2) (l.getD 2 undef);have s3:=s s2.1 s2.2 (o+3) (l.getD 3 undef);have s4:=s s3.1 s3.2 (o+4) (l.getD 4 undef);have s5:=s s4.1 s4.2 (o+5) (l.getD 5 undef);have s6:=s s5.1 s5.2 (o+6) (l.getD 6 undef);have s7:=s s6.1 s6.2 (o+7) (l.getD 7 undef);have s8:=s s7.1 s7.2 (o+8) (l.getD 8 undef);exact (s s8.1 s8.2 (o+9) (l.getD 9 undef)).1
theorem drop_ten {zs:List Value} {o:Nat} (h:o+10<=zs.length):∃z0 z1 z2 z3 z4 z5 z6 z7 z8 z9,zs.drop o=z0::z1::z2::z3::z4::z5::z6::z7::z8::z9::zs.drop (o+10):=by
 refine ⟨zs[o],zs[o+1],zs[o+2],zs[o+3],zs[o+4],zs[o+5],zs[o+6],zs[o+7],zs[o+8],zs[o+9],?_⟩
 iterate 10 rw [Zd oZ]
theorem iL.next {B:Nat} {w:Zp1} {g:Nat} {zc:Array Value} {ns:List aP} {k:Nat} (h:iL B w g zc ns k) (hk:k<ns.length) (hz:zc.size=ns.length*10):
  (∃z0 z1 z2 z3 z4 z5 z6 z7 z8 z9,w.cell? ⟨g,k*10,none⟩=some z0/\w.cell? ⟨g,k*10+1,none⟩=some z1/\w.cell? ⟨g,k*10+2,none⟩=some z2/\w.cell? ⟨g,k*10+3,none⟩=some z3/\w.cell? ⟨g,k*10+4,none⟩=some z4/\w.cell? ⟨g,k*10+5,none⟩=some z5/\w.cell? ⟨g,k*10+6,none⟩=some z6/\w.cell? ⟨g,k*10+7,none⟩=some z7/\w.cell? ⟨g,k*10+8,none⟩=some z8/\w.cell? ⟨g,k*10+9,none⟩=some z9)/\
  (∀i,w.frozen? ⟨g,i,none⟩=false)/\
  ∀x:CpQ,x.v=ns[k]->CpQ.R B w x->iL B (Go.Proofs.YtddkenhemnkkeaaGreat.fO w g (k*10) x.cells) g zc ns (k+1)/\eD 77 w (Go.Proofs.YtddkenhemnkkeaaGreat.fO w g (k*10) x.cells):=by
 obtain ⟨L,h1,h2,h3,h4⟩:=h;obtain ⟨z0,z1,z2,z3,z4,z5,z6,z7,z8,z9,e⟩:=drop_ten (zs:=zc.toList) (o:=k*10) soZ;rw [e] at h3;have hl:(L.flatMap CpQ.cells).length=k*10:=by rw [CpQ.flat,h2]
 refine ⟨⟨z0,z1,z2,z3,z4,z5,z6,z7,z8,z9,?_,?_,?_,?_,?_,?_,?_,?_,?_,?_⟩,λi=>h3.frozen i,λx hx hR=>⟨⟨L++[x],?_,by simp [h2],?_,λy hy=>?_⟩,eD.fO h3 _ _⟩⟩
 all_goals first|(rw [h3.cell];simp [←hl];done)|skip
 ·rw [List.map_append,h1,Zb hk,←hx];rfl
 ·have:=Blk.fO (a0:=nQ iQ x.v.op.kind) (a1:=nQ iQ x.v.op.k) (a2:=nQ iQ x.v.op.width) (a3:=nQ iQ x.v.op.step) (a4:=nQ iQ x.v.op.side) (a5:=nQ iQ x.v.op.frm) (a6:=nQ iQ x.v.op.to) (a7:=sQ (some ⟨x.S,0,none⟩) x.v.op.s.length x.v.op.s.length) (a8:=.slice x.J x.v.ins.length x.jc) (a9:=sQ (some ⟨x.Q,0,none⟩) x.v.p.length x.v.p.length) hl h3
  rw [Zj,List.append_assoc,show (k+1)*10=k*10+10 by omega];exact this
 ·have ha:eD 77 w (Go.Proofs.YtddkenhemnkkeaaGreat.fO w g (k*10) x.cells):=eD.fO h3 _ _
  rcases List.mem_append.1 hy with hy|hy
  ·exact (h4 y hy).keep dZ dZ ha
  ·simp at hy;subst hy;exact hR.keep dZ dZ ha
theorem Later.fO {w w1:Zp1} {g o:Nat} {l:List Value} (h:Later w w1) (hg:w.heap.size<=g):Later w (Go.Proofs.YtddkenhemnkkeaaGreat.fO w1 g o l):=by
 unfold Go.Proofs.YtddkenhemnkkeaaGreat.fO;exact (((((((((h.set (p:=⟨g,o,none⟩) hg _).set (p:=⟨g,o+1,none⟩) hg _).set (p:=⟨g,o+2,none⟩) hg _).set (p:=⟨g,o+3,none⟩) hg _).set (p:=⟨g,o+4,none⟩) hg _).set (p:=⟨g,o+5,none⟩) hg _).set (p:=⟨g,o+6,none⟩) hg _).set (p:=⟨g,o+7,none⟩) hg _).set (p:=⟨g,o+8,none⟩) hg _).set (p:=⟨g,o+9,none⟩) hg _
theorem iL.o {B:Nat} {w:Zp1} {g:Nat} {zc:Array Value} {ns:List aP} (h:iL B w g zc ns ns.length) (hs:∀v∈ns,v.op.s.length<=1048576/\v.p.length<=1048576/\∀s∈v.p,s.length<=1048576):jN w (some ⟨g,0,none⟩) ns:=λj hj=>by
 obtain ⟨L,h1,h2,h3,h4⟩:=h;rw [Zg] at h1;subst h1;rw [List.length_map] at hj;have hx:=h4 L[j] (gmZ hj);have hc:=hs L[j].v (List.mem_map.2 ⟨_,gmZ hj,rfl⟩);obtain ⟨q1,q2,q3,q4⟩:=hx;obtain ⟨r1,r2,r3⟩:=qas q3;have hb:L=L.take j++L[j]::L.drop (j+1):=by rw [←Zd hj,Zn]
 have hd:((L.take j).flatMap CpQ.cells).length=j*10:=by rw [CpQ.flat];simp;omega
 have ha:∀i,i<10->w.cell? ⟨g,j*10+i,none⟩=L[j].cells[i]?:=λi hi=>by
  rw [h3.cell]
  conv=>lhs;rw [hb,Zj,List.flatMap_cons,List.append_assoc,List.append_assoc]
  rw [Zk,Zl oZ,hd,show j*10+i-j*10=i by omega,Zm (by rw [CpQ.len];exact hi)]
 rw [List.getElem_map];refine ⟨g,0,some ⟨L[j].S,0,none⟩,L[j].v.op.s.length,L[j].J,L[j].jc,some ⟨L[j].Q,0,none⟩,L[j].v.p.length,rfl,h3.lt,?_,?_,?_,?_,?_,?_,?_,?_,?_,?_,⟨?_,lrZ _,by omega⟩,⟨r1,r2,r3⟩,⟨q4.nJ (λs h=>by have:=hc.2.2 s h;omega),lrZ _,by omega⟩⟩
 all_goals first|(rw [Zw];exact ha 0 oZ)|(rw [Zw];exact ha _ oZ)|skip
 exact Ints.dN λi hi=>by
  rw [Zw,q2.cell i,qa1 hi];simp [hi]
def qa9 (l:List Int):List Value:=l.map (Za1 iQ)
theorem qbx (l:List Int) (x:Int):qa9 (l++[x])=qa9 l++[nQ iQ x]:=by simp [qa9]
theorem qat (l:List Int):(qa9 l).length=l.length:=by simp [qa9]
def SizesP (ss:List (List Int)) (w:Zp1) (e:Ending) (w':Zp1):Prop:=
 ∃g,e=.returned (.tuple #[sQ (some ⟨g,0,none⟩) ss.length ss.length,nQ iQ 0])/\w.heap.size<=g/\Blk w' g 3 (qa9 (ss.map Safe.prod)).toArray/\Below w.heap.size w w'
theorem Blk.iU {w:Zp1} {g:Nat} {t:TypeId} {L l:List Value} {o:Nat} (h:Blk w g t (splice L o l).toArray) (hl:o+l.length<L.length) (v:Value):Blk (w.setCell ⟨g,o+l.length,none⟩ v) g t (splice L o (l++[v])).toArray:=by
 have:=h.aU (o+l.length) v;rw [←Go.Proofs.YtddkenhemnkkeaaGreat.iU L o l v hl];simpa using this
theorem Blk.has {w:Zp1} {g:Nat} {t:TypeId} {L:List Value} {j:Nat} (h:Blk w g t L.toArray) (hj:j<L.length):∃v,w.cell? ⟨g,j,none⟩=some v:=⟨L[j],by rw [h.cell];simp⟩
theorem qf0 (A:Option Addr) (c:Nat) (ss:List (List Int)) (w:Zp1) (hl:ss.length<=1099511627776) (hr:∀s∈ss,Sh.right s=true) (hS:bI w A ss):
  Calls prog 42 #[sQ A ss.length c] w (SizesP ss w):=by
 obtain ⟨i0,hi,hE,hC,hA⟩:=info_parts qag;obtain ⟨Hr,HS⟩:=zd2 hr hS;clear hr hS;go_in;go_wp2_with (at_make;refine wpList_make_full _ rfl _ _ 22 rfl w.heap.size 3 i0 (nQ iQ 0) 1 underlying22 hi hE hC _ _ _ _ ss.length rfl rfl (by first|rfl|simp|(go_simp;rfl)) (by first|rfl|simp|(go_simp;rfl)) ?b2 ?b3 ?b4 ?_)
 case b2=>rw [hA];omega
 case b3=>unfold maxLen;omega
 case b4=>exact lrZ _
 intro w1 hown hgrow;have ha:=qam hown;rw [qae] at ha;have hu:Below w.heap.size w w1:=(Ze1 _ w).grown hgrow (lrZ _) sZ;have hp:Blk w1 w.heap.size 3 (splice (Zc ss.length (Za1 iQ 0)) 0 (qa9 ((ss.take 0).map Safe.prod))).toArray:=by simpa [splice,qa9,Blk] using ha
 have hv:=zI hp;clear hp;clear ha hown hgrow;go_wp2_with fail
 go_loopw [14] (λi wx=>∃k:Nat,k<=ss.length/\i=nQ iQ (k:Int)/\Blk wx w.heap.size 3 (splice (Zc ss.length (Za1 iQ 0)) 0 (qa9 ((ss.take k).map Safe.prod))).toArray/\Below w.heap.size w wx) (λi _=>ss.length-(intOf i).toNat)
 case atStart=>exact ⟨0,Zt _,rfl,hv.out,hu⟩
 case round=>
  obtain ⟨k,hk,rfl,hm,hd⟩:=hrel;clear hv hu
  by_cases hg:k<ss.length
  ·obtain ⟨b,off,S,sc,rfl,-,hc,hI,-⟩:=HS.out k hg
   have he:=Hr.out _ (gmZ hg);have hG:=qa0 hd hc;have hs:(qa9 ((ss.take k).map Safe.prod)).length=k:=by rw [qat];simp;omega
   have ht:qa9 ((ss.take (k+1)).map Safe.prod)=qa9 ((ss.take k).map Safe.prod)++[nQ iQ (Safe.prod ss[k])]:=by rw [Zb hg,List.map_append,List.map_singleton,qbx]
   generalize ss[k]=s at *;have hq:=Sh.jK he;have hD:=(Sh.aO he).2.1;have hw:=hI.below hd (lrZ _);obtain ⟨Hm,HI,hB,hJ,hz,ho,hx⟩:=zd7 hm hI hw he hq hs ht;clear hm hI hw he hq hs ht;clear hc;go_wp2_with fail;refine (qac S sc s _ oZ hB.out).mono ?_;rintro e w2 ⟨rfl,hn⟩;rw [hz.out];have hb:=Hm.out.below hn Hm.out.lt;have hf:=hd.trans (hn.mono hd.size);have hh:=hb.iU (o:=0) (by rw [ho.out];simp;omega) (nQ iQ (Safe.prod s));rw [ho.out,Zw,←hx.out] at hh;obtain ⟨y,hy⟩:=hb.has (j:=k) (by rw [length_splice _ _ _ (by rw [ho.out];simp;omega)];simp;omega);have fy:=hb.frozen k;have hj:=hf.setCell (p:=⟨w.heap.size,k,none⟩) sZ (nQ iQ (Safe.prod s));obtain ⟨hH,hF⟩:=zd2 hb hh;clear hb hh;clear hG hn;go_wp2_with fail;go_roundw
   case rel=>exact ⟨k+1,by omega,by go_num,hF.out,hj⟩
   case measure=>simp [intOf];omega
  ·obtain rfl:k=ss.length:=by omega
   rw [Zg,qeN _ _ (by rw [qat];simp)] at hm;have Hm:=zI hm;clear hm;go_wp2_with fail
   go_ret2
   exact ⟨w.heap.size,rfl,lrZ _,Hm.out,hd⟩
def OfP (n:aA) (w:Zp1) (e:Ending) (w':Zp1):Prop:=
 Below w.heap.size w w'/\((Nt.check n=0/\∃g g2,e=.returned (.tuple #[.agg #[sQ (some ⟨g,0,none⟩) (n.o.length+1) (n.o.length+1),sQ (some ⟨g2,0,none⟩) (n.o.length+1) (n.o.length+1),nQ iQ (Nt.total n)],nQ iQ 0])/\Blk w' g 3 (qa9 (Nt.words n)).toArray/\Blk w' g2 3 (qa9 (Nt.aD n)).toArray)∨
  (Nt.check n≠0/\e=.returned (.tuple #[.agg #[sQ none 0 0,sQ none 0 0,nQ iQ 0],nQ iQ (Nt.check n)])))
theorem qeh (n:aA) (L:List Value) (hL:L.length=n.o.length+1) (h0:L[0]? = some (nQ iQ 0)):splice L 1 (qa9 (Nt.dI n n.o.length))=qa9 (Nt.aD n):=by
 unfold splice;have hd:L.drop (1+(qa9 (Nt.dI n n.o.length)).length)=[]:=List.drop_eq_nil_of_le (by rw [qat,Nt.bJ];omega);rw [hd,List.append_nil]
 match L,hL,h0 with
 | a::r,_,h0=>
  simp at h0;subst h0;simp [Nt.aD,qa9]
theorem qei (n:aA) (k:Nat):splice (Zc k (Za1 iQ 0)) 1 (qa9 (Nt.dI n 0))=Zc k (Za1 iQ 0):=by
 have e:qa9 (Nt.dI n 0)=[]:=rfl;rw [e];unfold splice;rw [List.nil_append,List.length_nil,Zx,Zn]
theorem qfA {sh:List (List Int)} {u:Nat} (h:u<sh.length):sh.getD u []=sh[u]:=by rw [gdZ,geZ h];rfl
theorem qby (A N:Option Addr) (c d:Nat) (n:aA) (w:Zp1) (hok:n.ok) (hR:bH w A N n) (hd:n.o.length<=d) (hsm:n.o.length<=200):
  Calls prog 17 #[.agg #[sQ A n.inn.length c,sQ N n.o.length d]] w (OfP n w):=by
 obtain ⟨i0,hi,gm,gl,gC⟩:=info_parts qdZ;obtain ⟨i1,hj,gi,gB,gy⟩:=info_parts qag;have H0:=(Blk.new w 26 #[sQ A n.inn.length c,sQ N n.o.length d]).alloc (.cells #[sQ none 0 0,sQ none 0 0,nQ iQ 0] 55);have Ho:=Blk.new (w.alloc (.cells #[sQ A n.inn.length c,sQ N n.o.length d] 26)) 55 #[sQ none 0 0,sQ none 0 0,nQ iQ 0];rw [Zh1] at Ho;have HD:Later w ((w.alloc (.cells #[sQ A n.inn.length c,sQ N n.o.length d] 26)).alloc (.cells #[sQ none 0 0,sQ none 0 0,nQ iQ 0] 55)):=((Later.refl w).alloc _).alloc _;obtain ⟨HR,gv,HE,gb,H7⟩:=zd5 hR H0 HD Ho hok;clear hR H0 HD Ho hok;go_in;go_wp2_with fail;generalize (w.alloc (.cells #[sQ A n.inn.length c,sQ N n.o.length d] 26)).alloc (.cells #[sQ none 0 0,sQ none 0 0,nQ iQ 0] 55)=w1 at *;refine (qg6 A N c d n w1 H7.out (HR.out.below HE.out (lrZ _)) hd).mono ?_;rintro e w2 ⟨h9,⟨hc,g,rfl,-,hC⟩|⟨hc,rfl⟩⟩
 all_goals
  have h0:=HE.out.call h9;have h7:=(show Later w1 w2 from h9).blk gv.out;have he:=(show Later w1 w2 from h9).blk gb.out;clear h9
 rotate_left
 ·have q0:(Nt.check n != 0)=true:=by simp [hc]
  have c0:=he.cell 0;have c1:=he.cell 1;have c2:=he.cell 2;have f0:=he.frozen 0;have f1:=he.frozen 1;have f2:=he.frozen 2;simp at c0 c1 c2;have hq:=((he.aU 0 (sQ none 0 0)).aU 1 (sQ none 0 0)).aU 2 (nQ iQ 0);have d0:=hq.cell 0;have d1:=hq.cell 1;have d2:=hq.cell 2;simp at d0 d1 d2;have hs:=h0.size;obtain ⟨Hc,Hn,HW,H2,HL⟩:=zd5 hc h0 h7 he hq;clear hc h0 h7 he hq;go_wp2_with fail;refine Zk1 (v:=.tuple #[.agg #[sQ none 0 0,sQ none 0 0,nQ iQ 0],nQ iQ (Nt.check n)]) (by simp [results,results17,go_sem,d0,d1,d2]) rfl ?_;exact ⟨((Hn.out.set (p:=⟨w.heap.size+1,0,none⟩) (Zy _) _).set (p:=⟨w.heap.size+1,1,none⟩) (Zy _) _).set (p:=⟨w.heap.size+1,2,none⟩) (Zy _) _,.inr ⟨Hc.out,rfl⟩⟩
 have He:=Nt.kU hc;have H4:=Nt.oM hc;have H3:=hC.nJ;have HG:=λk hk=>@Nt.cost_at n hc k hk
 have hS:=(Nt.total_bd hc hsm).2.2;have H9:(Nt.shapes n).map Safe.prod=Nt.words n:=rfl;have HF:=λk hk=>@Nt.costsTo_succ n k hk
 have HT:=Nt.lS hc;have h2:=Nt.eU (Nt.aK hc).2.2.2.1;generalize Nt.shapes n=sh at *;obtain ⟨Hc,Hn,HW,H2,Hw,Hz,ge,gD,Hb⟩:=zd9 hc h0 h7 he hC H4 H3 HG hS;obtain ⟨gE,gr,gx,Hh⟩:=zd4 H9 HF HT h2;clear hc h0 h7 he hC H4 H3 HG hS H9 HF HT h2;have gq:sh.length<=201:=by omega
 rw [←He];have hW:=zI He;clear He;go_wp2_with fail;refine (qf0 (some ⟨g,0,none⟩) sh.length sh w2 oZ Hz.out ge.out).mono ?_;rintro e w3 ⟨gw,rfl,gc,HA,hO⟩;rw [gE.out] at HA;have Hv:=Hn.out.call hO;have hn:Later w2 w3:=hO;have Hs:=hn.blk HW.out;have hq:=hn.blk H2.out;have hz:=Hw.out.below hO (lrZ _);have x1:w3.cell? ⟨w.heap.size,1,none⟩=some (sQ N n.o.length d):=by rw [Hs.cell];rfl
 have gK:=Hv.size;obtain ⟨HC,gM,HL,h4,gd,gt⟩:=zd6 Hv Hs hq hz HA hn;clear Hv Hs hq hz HA hn;clear hO gc;go_wp2_with (at_make;refine wpList_make_full _ rfl _ _ 22 rfl w3.heap.size 3 i1 (nQ iQ 0) 1 underlying22 hj gi gB _ _ _ _ sh.length rfl rfl (by first|rfl|simp|(go_simp;rfl)) (by first|rfl|simp|(go_simp;rfl)) ?b2 ?b3 ?b4 ?_)
 case b2=>rw [gy];omega
 case b3=>unfold maxLen;omega
 case b4=>exact lrZ _
 intro w4 hown hgrow;have hb:=qam hown;rw [qae] at hb;have HQ:Below w3.heap.size w3 w4:=(Ze1 _ w3).grown hgrow (lrZ _) sZ;have hD:Later w3 w4:=HQ
 have HB:Blk w4 w3.heap.size 3 (splice (Zc sh.length (Za1 iQ 0)) 1 (qa9 (Nt.dI n 0))).toArray:=by
  rw [qei];exact hb
 have x1':=hD.cell x1;obtain ⟨H5,hP⟩:=zd2 HB hD;clear HB hD;clear hb hown hgrow HQ x1;go_wp2_with fail
 go_loopw [40] (λi wx=>∃k:Nat,k<=n.o.length/\i=nQ iQ (k:Int)/\Blk wx w3.heap.size 3 (splice (Zc sh.length (Za1 iQ 0)) 1 (qa9 (Nt.dI n k))).toArray/\Later w3 wx) (λi _=>n.o.length-(intOf i).toNat)
 case atStart=>exact ⟨0,Zt _,rfl,H5.out,hP.out⟩
 case round=>
  obtain ⟨k,hk,rfl,hm,hJ⟩:=hrel;clear H5 hP x1'
  by_cases h1:k<n.o.length
  ·obtain ⟨b,off,S,sc,I,ic,Q,qc,rfl,Hx,gI,gQ,HX⟩:=HR.out.2.at_ h1
   have hG:=H7.out.2.2 _ (gmZ h1);have hV:=(Hh.out _ (gmZ h1)).2;have hv:=gD.out k h1;have hF:=gr.out k h1;have gh:0<=Od.fA n.o[k].op n.o[k].p (sh.getD (k+1) [])/\Od.fA n.o[k].op n.o[k].p (sh.getD (k+1) [])<=4294967296:=gx.out (k+1) oZ _ (by rw [hF];simp);have gR:=hG.2.2.1;have hI:=HC.out.trans hJ;have Hk:=Hx.below hI;generalize n.o[k]=v at *;generalize Od.fA v.op v.p (sh.getD (k+1) [])=cv at *;obtain ⟨⟨y0,y1,y2,y3,y4,y5,y6,y7,y8,y9⟩,-⟩:=Hk;have HV:=Blk.new wr 77 #[nQ iQ v.op.kind,nQ iQ v.op.k,nQ iQ v.op.width,nQ iQ v.op.step,nQ iQ v.op.side,nQ iQ v.op.frm,nQ iQ v.op.to,sQ S v.op.s.length sc,sQ I v.ins.length ic,sQ Q v.p.length qc];have HH:Later wr (wr.alloc (.cells #[nQ iQ v.op.kind,nQ iQ v.op.k,nQ iQ v.op.width,nQ iQ v.op.step,nQ iQ v.op.side,nQ iQ v.op.frm,nQ iQ v.op.to,sQ S v.op.s.length sc,sQ I v.ins.length ic,sQ Q v.p.length qc] 77)):=(Later.refl wr).alloc _;have HY:=hm.alloc (.cells #[nQ iQ v.op.kind,nQ iQ v.op.k,nQ iQ v.op.width,nQ iQ v.op.step,nQ iQ v.op.side,nQ iQ v.op.frm,nQ iQ v.op.to,sQ S v.op.s.length sc,sQ I v.ins.length ic,sQ Q v.p.length qc] 77);obtain ⟨Hm,h3,gj,Hr,hN,hZ,Hi⟩:=zd7 hm hJ Hx hG hV hv hF;have Ht:=zI hI;obtain ⟨HZ,HI,gg⟩:=zd3 HV HH HY;clear hm hJ Hx hG hV hv hF hI HV HH HY;go_wp2_with (at_make;refine wpList_make_full _ rfl _ _ 75 rfl wr.heap.size 23 i0 (sQ none 0 0) 1 underlying75 hi gm gl _ _ _ _ v.ins.length rfl rfl (by first|rfl|simp|(go_simp;rfl)) (by first|rfl|simp|(go_simp;rfl)) ?b2 ?b3 ?b4 ?_)
   case b2=>rw [gC];omega
   case b3=>unfold maxLen;omega
   case b4=>simp
   intro w5 hown hgrow;have hb:=qam hown;rw [qae] at hb;have hx:aQ w5 (wr.heap.size+1) 23 (Nt.eG sh v.ins 0):=by rw [Nt.mR];exact aQ.new (by simpa [Blk] using hb)
   have hT:Later wr w5:=Below.grown HI.out hgrow sZ sZ;have hB:Blk w5 wr.heap.size 77 #[nQ iQ v.op.kind,nQ iQ v.op.k,nQ iQ v.op.width,nQ iQ v.op.step,nQ iQ v.op.side,nQ iQ v.op.frm,nQ iQ v.op.to,sQ S v.op.s.length sc,sQ I v.ins.length ic,sQ Q v.p.length qc]:=HZ.out.grown hgrow sZ;have z8:w5.cell? ⟨wr.heap.size,8,none⟩=some (sQ I v.ins.length ic):=by rw [hB.cell];rfl
   obtain ⟨ht,hL,h8⟩:=zd3 hx hB hT;clear hx hB hT;clear hb hown hgrow y0 y1 y2 y3 y4 y5 y6 y7 y8 y9 HI HZ gg;go_wp2_with fail;clear z8;obtain ⟨wo,rfl⟩:∃wo,wo=wr:=⟨wr,rfl⟩
   go_loopw [52] (λi wx=>∃m:Nat,m<=v.ins.length/\i=nQ iQ m/\Blk wx wo.heap.size 77 #[nQ iQ v.op.kind,nQ iQ v.op.k,nQ iQ v.op.width,nQ iQ v.op.step,nQ iQ v.op.side,nQ iQ v.op.frm,nQ iQ v.op.to,sQ S v.op.s.length sc,sQ I v.ins.length ic,sQ Q v.p.length qc]/\Later wo wx/\aQ wx (wo.heap.size+1) 23 (Nt.eG sh v.ins m)) (λi _=>v.ins.length-(intOf i).toNat)
   case atStart=>exact ⟨0,Zt _,rfl,hL.out,h8.out,ht.out⟩
   case round=>
    obtain ⟨m,hm,rfl,hp,hE,hA⟩:=hrel;clear hL ht h8;have hU:=gj.out.below (Ht.out.trans hE);have gG:=Nt.oH sh v.ins hm
    by_cases Ha:m<v.ins.length
    ·obtain ⟨b2,off2,rfl,-,H6⟩:=hU.2.2.1 m Ha
     rw [qa1 Ha] at H6;have he:=hN.out _ (gmZ Ha);have HM:=zI (Nt.mP sh v.ins Ha);obtain ⟨u,hu⟩:∃u:Nat,v.ins[m]=u:=⟨v.ins[m].toNat,by omega⟩
     rw [hu] at H6 he;have Hq:u<sh.length:=by rw [hW.out];omega
     have HN:=Hz.out _ (gmZ Hq);obtain ⟨Su,cu,yu,Hl,lu1,lu2,-⟩:=(h4.out.below h3.out (lrZ _)).at_ Hq;obtain ⟨b3,off3,rfl,hO,-⟩:=Hl 0 (qa4 HN).1;have yu':=hE.cell yu;have hY:=Hl.below hE (lrZ _);have hK:=hA.aU (i:=m) hY lu1 lu2 (λa h=>by injection h with h;subst h;simp;omega);obtain ⟨Sm,cm,ym,-⟩:=hA.at_ (j:=m) oZ;have fm:wr.frozen? ⟨wo.heap.size+1,m,none⟩=false:=by obtain ⟨vs,_,hk,_⟩:=hA;exact hk.frozen m
     have HS:=zI (show aQ (wr.setCell ⟨wo.heap.size+1,m,none⟩ (sQ (some ⟨b3,off3,none⟩) sh[u].length cu)) (wo.heap.size+1) 23 (Nt.eG sh v.ins (m+1)) by
      rw [HM.out,hu,show ((u:Int)).toNat=u by omega,qfA Hq];exact hK)
     have gp:=zI (hp.far (p:=⟨wo.heap.size+1,m,none⟩) sZ (sQ (some ⟨b3,off3,none⟩) sh[u].length cu));have gA:=zI (hE.set (p:=⟨wo.heap.size+1,m,none⟩) (Zy _) (sQ (some ⟨b3,off3,none⟩) sh[u].length cu));have u0:(0:Int)<=u:=by omega
     have u1:(u:Int)<(sh.length:Int):=by omega
     have m1:(m:Int)<v.ins.length:=by omega
     clear hK Hl hY hp hA hU HN hu yu hE;go_wp2_with fail;go_roundw
     case rel=>exact ⟨m+1,by omega,by go_num,gp.out,gA.out,HS.out⟩
     case measure=>simp [intOf];omega
    ·obtain rfl:m=v.ins.length:=by omega
     have HO:(Nt.pick sh v.ins).length=v.ins.length:=by simp [Nt.pick]
     rw [Nt.nN] at hA
     obtain ⟨y0,y1,y2,y3,y4,y5,y6,y7,y9⟩:wr.cell? ⟨wo.heap.size,0,none⟩=some (nQ iQ v.op.kind)/\wr.cell? ⟨wo.heap.size,1,none⟩=some (nQ iQ v.op.k)/\wr.cell? ⟨wo.heap.size,2,none⟩=some (nQ iQ v.op.width)/\wr.cell? ⟨wo.heap.size,3,none⟩=some (nQ iQ v.op.step)/\wr.cell? ⟨wo.heap.size,4,none⟩=some (nQ iQ v.op.side)/\wr.cell? ⟨wo.heap.size,5,none⟩=some (nQ iQ v.op.frm)/\wr.cell? ⟨wo.heap.size,6,none⟩=some (nQ iQ v.op.to)/\wr.cell? ⟨wo.heap.size,7,none⟩=some (sQ S v.op.s.length sc)/\wr.cell? ⟨wo.heap.size,9,none⟩=some (sQ Q v.p.length qc):=by
      refine ⟨?_,?_,?_,?_,?_,?_,?_,?_,?_⟩
      all_goals (rw [hp.cell];rfl)
     have Hu:=Hr.out
     have HU:∀s∈Nt.pick sh v.ins,s.length<=17592186043904:=λs hs=>by
      obtain ⟨i,hi,rfl⟩:=List.mem_map.1 hs;have hr:=hN.out i hi;have hl:i.toNat<sh.length:=by rw [hW.out];omega
      rw [qfA hl];have:=(qa4 (Hz.out _ (gmZ hl))).2;omega
     have ha:=op_cost v.op S Q (some ⟨wo.heap.size+1,0,none⟩) sc qc v.ins.length v.p (Nt.pick sh v.ins) wr (by have:=Hu.2.1;omega) hU.2.1 ⟨hU.2.2.2,HX.1,HX.2,λs hs=>by have:=Hu.2.2.2.2.1 s hs;omega⟩ ⟨hA.nJ,by omega,by omega,HU⟩;rw [HO,hZ.out] at ha;obtain ⟨hh,gn⟩:=zd2 ha hE;clear ha hE;clear hU hA hp HO Hu HU;go_wp2_with fail;clear y0 y1 y2 y3 y4 y5 y6 y7 y9;refine (hh.out).mono ?_;rintro e w6 ⟨rfl,HP⟩;have ho:=gn.out.call HP;have hw:=ho.blk Hm.out;have hH:=h3.out.trans ho;have h5:(qa9 (Nt.dI n k)).length=k:=by rw [qat,Nt.bJ]
     have hg:=hW.out;have Hg:=hw.iU (by rw [h5,List.length_replicate];omega) (nQ iQ cv);rw [h5,←qbx,←Hi.out,show 1+k=k+1 by omega] at Hg;obtain ⟨y,hy⟩:=hw.has (j:=k+1) (by rw [length_splice _ _ _ (by rw [h5,List.length_replicate];omega),List.length_replicate];omega);have fy:=hw.frozen (k+1);have hM:=hH.set (p:=⟨w3.heap.size,k+1,none⟩) (lrZ _) (nQ iQ cv);have k1:(k:Int)+1<(sh.length:Int):=by omega
     have k2:((k:Int)+1).toNat=k+1:=by omega
     clear hg h5 HP;obtain ⟨gF,HK,gk,gu,Hd⟩:=zd5 ho hw hH Hg hM;clear ho hw hH Hg hM;go_wp2_with fail;go_roundw
     case rel=>exact ⟨k+1,by omega,by go_num,gu.out,Hd.out⟩
     case measure=>simp [intOf];omega
  ·obtain rfl:k=n.o.length:=by omega
   have hg:=hW.out;have H1:(Zc sh.length (Za1 iQ 0))[0]? = some (nQ iQ 0):=by rw [List.getElem?_replicate,ipZ oZ]
   rw [qeh n _ (by rw [List.length_replicate];exact hg) H1] at hm;have Hy:(Nt.aD n).length=sh.length:=by rw [hg];simp [Nt.aD,Nt.bJ]
   have Hj:Ints iQ wr (some ⟨w3.heap.size,0,none⟩) (Nt.aD n):=Ints.dN λj hj=>by
    rw [Zw,hm.cell];simp [qa9,hj]
   have HJ:=HC.out.trans hJ;have ha:=qfn (some ⟨w3.heap.size,0,none⟩) sh.length (Nt.aD n) wr (by rw [Hy];omega) Hj;rw [Hy,Hb.out] at ha;clear hg H1 Hy;obtain ⟨Hm,gO,go,hh,h3⟩:=zd5 hm Hj HJ ha hJ;clear hm Hj HJ ha hJ;go_wp2_with fail;refine (hh.out).mono ?_;rintro e w5 ⟨rfl,hX⟩;have hT:=go.out.call hX;have hf:=(h3.out.call hX).blk HL.out;have Hp:=(show Later wr w5 from hX).blk Hm.out;have Hf:=(h3.out.call hX).blk gd.out;have c0:=hf.cell 0;have c1:=hf.cell 1;have c2:=hf.cell 2;have f0:=hf.frozen 0;have f1:=hf.frozen 1;have f2:=hf.frozen 2;simp at c0 c1 c2;have hQ:=((hf.aU 0 (sQ (some ⟨gw,0,none⟩) sh.length sh.length)).aU 1 (sQ (some ⟨w3.heap.size,0,none⟩) sh.length sh.length)).aU 2 (nQ iQ (Nt.total n));have d0:=hQ.cell 0;have d1:=hQ.cell 1;have d2:=hQ.cell 2;simp at d0 d1 d2;have h6:eD 55 w5 (((w5.setCell ⟨w.heap.size+1,0,none⟩ (sQ (some ⟨gw,0,none⟩) sh.length sh.length)).setCell ⟨w.heap.size+1,1,none⟩ (sQ (some ⟨w3.heap.size,0,none⟩) sh.length sh.length)).setCell ⟨w.heap.size+1,2,none⟩ (nQ iQ (Nt.total n))):=((eD.aU hf 0 _).trans (eD.aU (hf.aU 0 _) 1 _)).trans (eD.aU ((hf.aU 0 _).aU 1 _) 2 _);have hw:=Hp.keep dZ h6;have H8:=Hf.keep dZ h6;clear hX;obtain ⟨h8,gH,gP,gN,gJ,gL,HK,gf⟩:=zd8 hT hf Hp Hf hQ h6 hw H8;clear hT hf Hp Hf hQ h6 hw H8;go_wp2_with fail;refine Zk1 (v:=.tuple #[.agg #[sQ (some ⟨gw,0,none⟩) sh.length sh.length,sQ (some ⟨w3.heap.size,0,none⟩) sh.length sh.length,nQ iQ (Nt.total n)],nQ iQ 0]) (by simp [results,results17,go_sem,d0,d1,d2]) rfl ?_;exact ⟨((h8.out.set (p:=⟨w.heap.size+1,0,none⟩) (Zy _) _).set (p:=⟨w.heap.size+1,1,none⟩) (Zy _) _).set (p:=⟨w.heap.size+1,2,none⟩) (Zy _) _,.inl ⟨Hc.out,gw,w3.heap.size,by rw [←hW.out],gf.out,HK.out⟩⟩
def lN (w:Zp1) (vs:List Value) (ss:List (List Int)):Prop:=
 vs.length=ss.length/\∀j (hj:j<ss.length),∃h,vs[j]? = some (sQ (some ⟨h,0,none⟩) ss[j].length ss[j].length)/\Blk w h 3 (ss[j].map (Za1 iQ)).toArray
theorem lN.nil (w:Zp1):lN w [] []:=⟨rfl,λj hj=>absurd hj sZ⟩
theorem lN.keep {w w':Zp1} {vs:List Value} {ss:List (List Int)} {T:TypeId} (h:lN w vs ss) (hT:3≠T) (hk:eD T w w'):lN w' vs ss:=
 ⟨h.1,λj hj=>by obtain ⟨g,e,hb⟩:=h.2 j hj;exact ⟨g,e,hb.keep hT hk⟩⟩
theorem lN.one {w:Zp1} {vs:List Value} {ss:List (List Int)} (h:lN w vs ss):∀u∈vs,u.oneCell'=true:=λu hu=>by
 obtain ⟨j,hj,rfl⟩:=List.getElem_of_mem hu;obtain ⟨g,e,_⟩:=h.2 j (by rw [←h.1];exact hj);rw [geZ hj] at e;injection e with e
 rw [e];rfl
theorem eD.lT {T:TypeId} {w w':Zp1} {B s n:Nat} {v:Value} {xs:List Value} (h:w.ownsRow B T s v n xs) (hg:w.grownBy w' v.ownBlock):eD T w w':=by
 refine ⟨hg.size,λb cs t hb ht=>hg.block b (lt_of_block hb) λe=>?_⟩;rcases h.2 with ⟨rfl,_⟩|⟨g,cap,cur,rfl,_,hh,_⟩
 ·simp [Value.ownBlock] at e
 ·simp [Value.ownBlock] at e
  subst e;rw [hh] at hb;injection hb with hb
  injection hb with _ hb _
  exact ht hb.symm
theorem lN.nJ {w:Zp1} {vs:List Value} {ss:List (List Int)} {B n:Nat} {t:TypeId} {v:Value} (h:lN w vs ss) (hown:w.ownsRow B t 1 v n vs) (hs:∀s∈ss,s.length<=1048576):
  ∃A c,v=sQ A ss.length c/\n=ss.length/\bI w A ss/\ss.length<=c/\c<=9223372036854775807:=by
 have hn:n=ss.length:=by have:=hown.1;have:=h.1;omega
 subst hn;rcases hown.2 with ⟨rfl,h0⟩|⟨g,cap,cur,rfl,hb,hh,r1,r2,r3,r4⟩
 ·have:ss=[]:=List.eq_nil_of_length_eq_zero h0
  subst this;exact ⟨none,0,rfl,rfl,bI.nil,by simp,by omega⟩
 ·refine ⟨_,cap,rfl,rfl,λj hj=>?_,r1,by unfold maxLen at r2;omega⟩
  obtain ⟨b,e,ha⟩:=h.2 j hj;refine ⟨g,0,_,_,rfl,lt_of_block hh,by rw [Zw,hown.cellAt j oZ];exact e,Ints.dN λi hi=>?_,lrZ _,by have:=hs _ (gmZ hj);omega⟩;rw [Zw,ha.cell i,qa1 hi];simp [hi]
namespace Nt
def aB (n:aA):Int:=if check n=0 then Safe.sum (words n)+(Safe.sum (words n)-(words n).getD 0 0) else 0
end Nt
namespace Nt
def wAt (n:aA) (u:Int):Int:=(words n).getD u.toNat 0
def cAt (n:aA) (u:Int):Int:=(aD n).getD u.toNat 0
def aJ (n:aA):List Int:=wAt n 0::(sO n.o).map (wAt n)
def aH (n:aA):List Int:=(sO n.o).map (cAt n)
end Nt
def ChainP (n:aA) (w:Zp1) (e:Ending) (w':Zp1):Prop:=
 Below w.heap.size w w'/\((Nt.check n=0/\Nt.chain n=true/\∃A c A2 c2,e=.returned (.tuple #[sQ A (n.o.length+1) c,sQ A2 n.o.length c2,nQ iQ 0])/\Ints iQ w' A (Nt.aJ n)/\Ints iQ w' A2 (Nt.aH n))∨
  (Nt.check n=0/\Nt.chain n=false/\e=.returned (.tuple #[sQ none 0 0,sQ none 0 0,nQ iQ 27]))∨
  (Nt.check n≠0/\e=.returned (.tuple #[sQ none 0 0,sQ none 0 0,nQ iQ (Nt.check n)])))
def rC (n:aA) (w:Zp1) (e:Ending) (w':Zp1):Prop:=
 Below w.heap.size w w'/\((Nt.check n=0/\Nt.chain n=true/\∃A c A2 c2,e=.returned (.tuple #[sQ A (n.o.length+1) c,sQ A2 n.o.length c2,nQ iQ 0])/\Ints iQ w' A (Nt.aJ n)/\Ints iQ w' A2 (Nt.aH n)/\n.o.length+1<=c/\c<=9223372036854775807)∨
  (Nt.check n=0/\Nt.chain n=false/\e=.returned (.tuple #[sQ none 0 0,sQ none 0 0,nQ iQ 27]))∨
  (Nt.check n≠0/\e=.returned (.tuple #[sQ none 0 0,sQ none 0 0,nQ iQ (Nt.check n)])))
theorem rC.p {n:aA} {w:Zp1} {e:Ending} {w':Zp1} (h:rC n w e w'):ChainP n w e w':=by
 obtain ⟨h1,⟨a,b,A,c,A2,c2,d,f,g,-⟩|h2⟩:=h
 ·exact ⟨h1,.inl ⟨a,b,A,c,A2,c2,d,f,g⟩⟩
 ·exact ⟨h1,.inr h2⟩
def Apart (v u:Value):Prop:=∀b,v.ownBlock=some b->u.ownBlock=some b->False
theorem Apart.symm {v u:Value} (h:Apart v u):Apart u v:=λb h1 h2=>h b h2 h1
theorem qej {w w':Zp1} {B:Nat} {e:TypeId} {s n:Nat} {v u:Value} {xs:List Value} (h:w.ownsRow B e s u n xs) (hg:w.grownBy w' v.ownBlock) (ha:Apart v u):w'.ownsRow B e s u n xs:=
 qa5 h λb hb=>hg.block b (h.lt b hb).2 λe=>ha b e.symm hb
theorem Apart.next {w:Zp1} {B:Nat} {e:TypeId} {s n:Nat} {v v' u:Value} {xs:List Value} (ha:Apart v u) (hu:w.ownsRow B e s u n xs) (hb:v'.ownBlock=v.ownBlock∨v'.ownBlock=some w.heap.size):Apart v' u:=λb h1 h2=>by
 rcases hb with h|h
 ·exact ha b (h▸h1) h2
 ·rw [h] at h1
  injection h1 with h1
  have:=(hu.lt b h2).2;omega
theorem qc6 (A N:Option Addr) (c d:Nat) (n:aA) (w:Zp1) (hok:n.ok) (hR:bH w A N n) (hd:n.o.length<=d) (hsm:n.o.length<=200):
  Calls prog 38 #[.agg #[sQ A n.inn.length c,sQ N n.o.length d]] w (rC n w):=by
 obtain ⟨i0,hi,HK,HG,H1⟩:=info_parts qag;have HS:=Blk.new w 26 #[sQ A n.inn.length c,sQ N n.o.length d];have Hv:Later w (w.alloc (.cells #[sQ A n.inn.length c,sQ N n.o.length d] 26)):=(Later.refl w).alloc _;obtain ⟨HR,Hx,Hu,gp⟩:=zd4 hR Hv hok HS;clear hR Hv hok HS;go_in;go_wp2_with fail;generalize w.alloc (.cells #[sQ A n.inn.length c,sQ N n.o.length d] 26)=w1 at *;refine (qby A N c d n w1 Hu.out (HR.out.below Hx.out (lrZ _)) hd hsm).mono ?_;rintro e w2 ⟨Hi,⟨hc,g,g2,rfl,hg,Hd⟩|⟨hc,rfl⟩⟩
 all_goals
  have hQ:=Hx.out.call Hi;have hH:=(show Later w1 w2 from Hi).blk gp.out;clear Hi
 rotate_left
 ·have q0:(Nt.check n != 0)=true:=by simp [hc]
  obtain ⟨Hb,HP,Hc⟩:=zd3 hQ hH hc;clear hQ hH hc;go_wp2_with fail
  go_ret3
  exact ⟨Hb.out.alloc _,.inr (.inr ⟨Hc.out,rfl⟩)⟩
 have HC:=Nt.dB hc;have HU:(Nt.aD n).length=n.o.length+1:=by simp [Nt.aD,Nt.bJ]
 have hy:Later w2 (w2.alloc (.cells #[sQ (some ⟨g,0,none⟩) (n.o.length+1) (n.o.length+1),sQ (some ⟨g2,0,none⟩) (n.o.length+1) (n.o.length+1),nQ iQ (Nt.total n)] 55)):=(Later.refl w2).alloc _;have HE:=Blk.new w2 55 #[sQ (some ⟨g,0,none⟩) (n.o.length+1) (n.o.length+1),sQ (some ⟨g2,0,none⟩) (n.o.length+1) (n.o.length+1),nQ iQ (Nt.total n)];have hZ:=hy.blk hH;have Hz:=hy.blk hg;have hM:=hy.blk Hd;have HH:=hQ.trans hy;have x0:(w2.alloc (.cells #[sQ (some ⟨g,0,none⟩) (n.o.length+1) (n.o.length+1),sQ (some ⟨g2,0,none⟩) (n.o.length+1) (n.o.length+1),nQ iQ (Nt.total n)] 55)).cell? ⟨w.heap.size,0,none⟩=some (sQ A n.inn.length c):=by rw [hZ.cell];rfl
 have x1:(w2.alloc (.cells #[sQ (some ⟨g,0,none⟩) (n.o.length+1) (n.o.length+1),sQ (some ⟨g2,0,none⟩) (n.o.length+1) (n.o.length+1),nQ iQ (Nt.total n)] 55)).cell? ⟨w.heap.size,1,none⟩=some (sQ N n.o.length d):=by rw [hZ.cell];rfl
 have q0:(Nt.check n != 0)=false:=by simp [hc]
 obtain ⟨Hy,HA⟩:=zd2 x0 x1;clear x0 x1;obtain ⟨Hb,HP,Hc,H5,gk,gt,gn,gm,H9⟩:=zd9 hQ hH hc HC HU hy HE hZ Hz;obtain ⟨Hm,h5,Hg,gq⟩:=zd4 hM HH hg Hd;clear hQ hH hc HC HU hy HE hZ Hz hM HH hg Hd;go_upto_region 4 with fail;generalize w2.alloc (.cells #[sQ (some ⟨g,0,none⟩) (n.o.length+1) (n.o.length+1),sQ (some ⟨g2,0,none⟩) (n.o.length+1) (n.o.length+1),nQ iQ (Nt.total n)] 55)=w3 at *;have x0:=Hy.out;have x1:=HA.out;generalize w2.heap.size=pb at *;clear Hy HA gt Hg gq HP;go_wp2_with fail;refine (qha A N c d n w3 Hu.out (HR.out.below h5.out (lrZ _)) hd).mono ?_;rintro e w4 ⟨rfl,HJ⟩;have hv:Later w3 w4:=HJ;have h2:=h5.out.trans hv;have h1:=hv.blk gm.out;have y0:=hv.cell x0;have y1:=hv.cell x1;clear HJ x0 x1
 by_cases hp:Nt.chain n=true
 rotate_left
 ·have hp:Nt.chain n=false:=by simpa using hp
  rw [hp];obtain ⟨Hp,HB,h7,gc⟩:=zd4 hp hv h2 h1;clear hp hv h2 h1;go_wp2_with fail
  go_ret3
  exact ⟨h7.out,.inr (.inl ⟨Hc.out,Hp.out,rfl⟩)⟩
 rw [hp];obtain ⟨Hp,HB,h7,gc⟩:=zd4 hp hv h2 h1;clear hp hv h2 h1;go_wp2_with fail;refine (qb2 A N c d n w4 Hu.out (HR.out.below h7.out (lrZ _)) hd).mono ?_;rintro e w5 ⟨HX,⟨-,O,oc,rfl,hO,-,-⟩|⟨H8,-⟩⟩
 rotate_left
 ·exact absurd Hc.out H8
 have hA:=HB.out.call HX;have HM:=h5.out.trans hA;have Ha:=hA.blk gn.out;have Ht:=hA.blk H9.out;have hw:=hA.blk Hm.out;have H4:(Nt.sO n.o).length=n.o.length:=(Nt.aK Hc.out).2.2.2.2.1;have hB:∀u∈Nt.sO n.o,1<=u/\u<=n.o.length:=Kn.dX _ _;have HI:Nt.aJ n=Nt.wAt n 0::(Nt.sO n.o).map (Nt.wAt n):=rfl;have HT:Nt.aH n=(Nt.sO n.o).map (Nt.cAt n):=rfl
 have hx:∀(W:Zp1),Later w5 W->∀u:Nat,u<=n.o.length->W.cell? ⟨g,u,none⟩=some (nQ iQ (Nt.wAt n u)):=λW h u hu=>by
  have e:(Nt.words n)[u]? = some (Nt.wAt n u):=by unfold Nt.wAt;rw [tnZ,gdZ,geZ (by rw [H5.out];omega)];rfl
  rw [(h.blk Ht).cell];simp [qa9,e]
 have hC:∀(W:Zp1),Later w5 W->∀u:Nat,u<=n.o.length->W.cell? ⟨g2,u,none⟩=some (nQ iQ (Nt.cAt n u)):=λW h u hu=>by
  have e:(Nt.aD n)[u]? = some (Nt.cAt n u):=by unfold Nt.cAt;rw [tnZ,gdZ,geZ (by rw [gk.out];omega)];rfl
  rw [(h.blk hw).cell];simp [qa9,e]
 have z0:w5.cell? ⟨pb,0,none⟩=some (sQ (some ⟨g,0,none⟩) (n.o.length+1) (n.o.length+1)):=by rw [Ha.cell];rfl
 have z1:w5.cell? ⟨g,0,none⟩=some (nQ iQ (Nt.wAt n 0)):=hx w5 (Later.refl _) 0 (Zt _);clear HX y0 y1;generalize Nt.sO n.o=os at *;have ht:(w5.alloc (.cells #[nQ iQ (Nt.wAt n 0)] 3)).ownsRow w5.heap.size 3 1 (sQ (some ⟨w5.heap.size,0,none⟩) 1 1) (0+1) (qa9 (Nt.wAt n 0::(os.take 0).map (Nt.wAt n))):=⟨rfl,.inr ⟨w5.heap.size,1,#[nQ iQ (Nt.wAt n 0)],rfl,lrZ _,heap_alloc_new w5 _,lrZ _,by decide,rfl,rfl⟩⟩
 have hF:Later w5 (w5.alloc (.cells #[nQ iQ (Nt.wAt n 0)] 3)):=(Later.refl w5).alloc _;have gf:(n.o.length:Int)=os.length:=by omega
 have gC:os.length<=200:=by omega
 rw [show n.o.length+1=os.length+1 by omega] at z0;have h8:n.o.length=os.length:=by omega
 clear gf;rw [h8];obtain ⟨gx,gh,gd,gA,gj,gD,Hr,Hw,HL⟩:=zd9 hA HM Ha Ht hw H4 hB HI HT;obtain ⟨Hj,Hh,hq,hP,HO,h0⟩:=zd6 hx hC ht hF hO h8;clear hA HM Ha Ht hw H4 hB HI HT hx hC ht hF hO h8;go_wp2_with fail
 go_loopw [2,3,35] (λv u i wx=>∃k:Nat,k<=os.length/\i=nQ iQ (k:Int)/\wx.ownsRow w5.heap.size 3 1 v (k+1) (qa9 (Nt.wAt n 0::(os.take k).map (Nt.wAt n)))/\wx.ownsRow w5.heap.size 3 1 u k (qa9 ((os.take k).map (Nt.cAt n)))/\Apart v u/\Later w5 wx) (λ_ _ i _=>os.length-(intOf i).toNat)
 case atStart=>exact ⟨0,Zt _,rfl,hq.out,by simpa [qa9] using World.ownsRow_nil _ w5.heap.size 3 1,λb _ h=>by simp [Value.ownBlock] at h,hP.out⟩
 case round=>
  obtain ⟨k,hk,rfl,hs,hn,hY,hm⟩:=hrel;obtain ⟨Av,cv,rfl⟩:=qa8 hs;obtain ⟨Au,cu,rfl⟩:=qa8 hn;clear hq hP z1
  by_cases hS:k<os.length
  ·obtain ⟨b,off,rfl,-,Ho⟩:=HO.out k hS
   rw [qa1 hS] at Ho;have gg:=hm.cell Ho;have hr:=Hr.out _ (gmZ hS);have h6:qa9 (Nt.wAt n 0::(os.take (k+1)).map (Nt.wAt n))=qa9 (Nt.wAt n 0::(os.take k).map (Nt.wAt n))++[nQ iQ (Nt.wAt n os[k])]:=by rw [Zb hS,List.map_append,List.map_singleton,←List.cons_append,qbx]
   have He:qa9 ((os.take (k+1)).map (Nt.cAt n))=qa9 ((os.take k).map (Nt.cAt n))++[nQ iQ (Nt.cAt n os[k])]:=by rw [Zb hS,List.map_append,List.map_singleton,qbx]
   obtain ⟨j,hj⟩:∃j:Nat,os[k]=(j:Int):=⟨os[k].toNat,by omega⟩
   rw [hj] at h6 He gg;have h3:j<=n.o.length:=by omega
   have q1:=Hj.out wr hm j h3;have p0:=hm.cell z0;have j0:(0:Int)<=(j:Int):=by omega
   have gB:j<=os.length:=by rw [←h0.out];exact h3
   have j1:(j:Int)<(os.length:Int)+1:=by omega
   generalize Nt.wAt n (j:Int)=wj at *;have HW:∀(W:Zp1),Later w5 W->W.cell? ⟨g2,j,none⟩=some (nQ iQ (Nt.cAt n j)):=λW h=>Hh.out W h j h3
   generalize Nt.cAt n (j:Int)=cj at *;generalize qa9 (Nt.wAt n 0::(os.take k).map (Nt.wAt n))=ws at *;generalize qa9 ((os.take k).map (Nt.cAt n))=cs at *;have gv:=hm.size;obtain ⟨h9,HV,Hf,H2,gu,gb,ge⟩:=zd7 hs hn hY hm h6 He HW;clear hs hn hY hm h6 He HW;clear Ho hr hj h3;have ho:=qad h9.out (.cells #[nQ iQ wj] 3);have HN:=H2.out.alloc (.cells #[nQ iQ wj] 3);have hG:=qad HV.out (.cells #[nQ iQ wj] 3);obtain ⟨go,hU⟩:=zd2 HN hG;clear HN hG;have H3:=zI (λb (hb:(Zb1 Av (k+1) cv).ownBlock=some b)=>(h9.out.lt b hb).1);go_wp2_with (at_builtin;refine wpList_append_own_at _ rfl _ _ 22 rfl w5.heap.size 3 i0 (nQ iQ 0) 1 8 underlying22 hi HK HG H1 rfl dZ _ _ _ rfl ho ⟨wr.heap.size,0,none⟩ 1 1 [nQ iQ wj] rfl rfl ?c1 (by intro u hu;simp at hu;subst hu;rfl) (by unfold maxLen;omega) oZ ?c2 ?_)
   first|(case c1=>exact qaF wr _ _)|skip
   case c2=>simp;omega
   intro v' w6 ha hgrow _ HZ;have hz:Later w5 w6:=Below.grown go.out hgrow soZ (λb hb=>H3.out b hb);have hh:=qej hU.out hgrow Hf.out;have hN:=Apart.next Hf.out hU.out (by rw [Zh1];exact HZ);rw [←gu.out] at ha;obtain ⟨A7,c7,rfl⟩:=qa8 ha;have q2:=ge.out w6 hz;have h4:=hz.blk gd.out;have p1:w6.cell? ⟨pb,1,none⟩=some (sQ (some ⟨g2,0,none⟩) (n.o.length+1) (n.o.length+1)):=by rw [h4.cell];rfl
   rw [h0.out] at p1;have gi:=hz.size;clear q1 p0 hgrow HZ ho H3;have HQ:=qad hh (.cells #[nQ iQ cj] 3);have hL:=hz.alloc (.cells #[nQ iQ cj] 3);have hT:=qad ha (.cells #[nQ iQ cj] 3);have hK:=zI (λb (hb:(Zb1 Au k cu).ownBlock=some b)=>(hh.lt b hb).1);obtain ⟨gE,hE⟩:=zd2 hz hN;have HF:=zI ha;obtain ⟨gy,Hs,hW,gr⟩:=zd4 h4 hL hT hh;clear hz hN ha h4 hL hT hh;go_wp2_with (at_builtin;refine wpList_append_own_at _ rfl _ _ 22 rfl w5.heap.size 3 i0 (nQ iQ 0) 1 8 underlying22 hi HK HG H1 rfl dZ _ _ _ rfl HQ ⟨w6.heap.size,0,none⟩ 1 1 [nQ iQ cj] rfl rfl ?c1 (by intro u hu;simp at hu;subst hu;rfl) (by unfold maxLen;omega) oZ ?c2 ?_)
   first|(case c1=>exact qaF w6 _ _)|skip
   case c2=>simp;omega
   intro u' w7 hf he _ hI;have HY:Later w5 w7:=Below.grown Hs.out he soZ (λb hb=>hK.out b hb);have hV:=qej hW.out he hE.out.symm;have hJ:=(Apart.next hE.out.symm hW.out (by rw [Zh1];exact hI)).symm;rw [←gb.out] at hf;obtain ⟨H6,Hn,Hk,hD⟩:=zd4 HY hV hJ hf;clear HY hV hJ hf;clear q2 p1 he hI HQ hK;go_wp2_with fail;go_roundw
   case rel=>exact ⟨k+1,by omega,by go_num,Hn.out,hD.out,Hk.out,H6.out⟩
   case measure=>simp [intOf];omega
  ·obtain rfl:k=os.length:=by omega
   rw [Zg] at hs hn;rw [←Hw.out] at hs;rw [←HL.out] at hn;have l1:(Nt.aJ n).length=os.length+1:=by rw [Hw.out];simp
   have l2:(Nt.aH n).length=os.length:=by rw [HL.out];simp
   have Hq:Ints iQ wr Av (Nt.aJ n)/\os.length+1<=cv/\cv<=9223372036854775807:=by
    have hX:=hs;rw [←l1] at hX ⊢;exact qas hX
   have r1:=Hq.1;have H0:=Hq.2;clear Hq
   have r2:Ints iQ wr Au (Nt.aH n):=by
    rw [←l2] at hn;exact (qas hn).1
   have hl:=gh.out.trans hm;obtain ⟨h9,HV,Hf,gw,Hb,H7,gl,Hl,H2⟩:=zd9 hs hn hY l1 l2 r1 r2 hl hm;have HD:=zI H0;clear hs hn hY l1 l2 r1 r2 hl hm H0;clear z0;go_wp2_with fail
   go_ret3
   exact ⟨Hl.out,.inl ⟨Hc.out,Hp.out,Av,cv,Au,cu,by (rw [h0.out]<;>rfl),H7.out,gl.out,(by rw [h0.out];exact HD.out.1),HD.out.2⟩⟩
namespace Nt
def nI (n:aA) (u:Int):Nat->Int
 | 0=>0
 | k+1=>if (iF n.o ((sO n.o).getD k 0)).contains u then (k:Int)+1 else nI n u k
def bO (n:aA) (k:Nat) (l:List Int):List Int:=(nums n.o.length).map λu=>if l.contains u then (k:Int)+1 else nI n u k
theorem lastMid_len (n:aA) (k:Nat) (l:List Int):(bO n k l).length=n.o.length+1:=by simp [bO,nums]
theorem lastMid_zero (n:aA):bO n 0 []=Zc (n.o.length+1) 0:=by
 unfold bO;rw [List.eq_replicate_iff];refine ⟨by simp [nums],λb hb=>?_⟩;obtain ⟨x,_,rfl⟩:=List.mem_map.1 hb;simp [nI]
theorem lastMid_next (n:aA) {k:Nat}:bO n k (iF n.o ((sO n.o).getD k 0))=bO n (k+1) []:=by
 unfold bO;apply List.map_congr_left;intro u _;simp [nI]
theorem lastMid_in (n:aA) (k:Nat) (l:List Int) {id:Int} (h0:0<=id) (h1:id<=n.o.length):bO n k (l++[id])=(bO n k l).set id.toNat ((k:Int)+1):=by
 apply List.ext_getElem?;intro j;rw [List.getElem?_set];unfold bO nums;simp only [List.map_map,List.getElem?_map,List.length_map,List.length_range]
 by_cases hj:j<n.o.length+1
 ·rw [List.getElem?_range hj]
  by_cases e:id.toNat=j
  ·subst e
   have:((id.toNat:Nat):Int)=id:=by omega
   simp [hj,this]
  ·have e2:(j:Int)≠id:=by omega
   simp [e,e2]
 ·rw [Zi soZ]
  simp;intro q;omega
theorem kS (n:aA) (k:Nat) {u:Nat} (hu:u<=n.o.length):(bO n k [])[u]? = some (nI n u k):=by
 unfold bO nums;simp [show u<n.o.length+1 by omega]
end Nt
def LastP (n:aA) (w:Zp1) (e:Ending) (w':Zp1):Prop:=
 Below w.heap.size w w'/\((Nt.check n=0/\∃g,e=.returned (.tuple #[sQ (some ⟨g,0,none⟩) (n.o.length+1) (n.o.length+1),nQ iQ 0])/\Blk w' g 3 (qa9 (Nt.bO n n.o.length [])).toArray)∨
  (Nt.check n≠0/\e=.returned (.tuple #[sQ none 0 0,nQ iQ (Nt.check n)])))
theorem qg9 (A N:Option Addr) (c d:Nat) (n:aA) (w:Zp1) (hok:n.ok) (hR:bH w A N n) (hd:n.o.length<=d):
  Calls prog 144 #[.agg #[sQ A n.inn.length c,sQ N n.o.length d]] w (LastP n w):=by
 obtain ⟨i0,hi,Hb,Ha,h7⟩:=info_parts qag;have Hg:=hok.2.1;have hZ:=Blk.new w 26 #[sQ A n.inn.length c,sQ N n.o.length d];have hI:Later w (w.alloc (.cells #[sQ A n.inn.length c,sQ N n.o.length d] 26)):=(Later.refl w).alloc _;obtain ⟨HR,hJ,hY,h3⟩:=zd4 hR hI hok hZ;clear hR hI hok hZ;go_in;go_wp2_with fail;generalize w.alloc (.cells #[sQ A n.inn.length c,sQ N n.o.length d] 26)=w1 at *;refine (qb2 A N c d n w1 hY.out (HR.out.below hJ.out (lrZ _)) hd).mono ?_;rintro e w2 ⟨hx,⟨hc,O,oc,rfl,hO,-,-⟩|⟨hc,rfl⟩⟩
 all_goals
  have hn:=hJ.out.call hx;have ho:=(show Later w1 w2 from hx).blk h3.out;clear hx
 rotate_left
 ·have q0:(Nt.check n != 0)=true:=by simp [hc]
  obtain ⟨Hc,hh,hX⟩:=zd3 hc hn ho;clear hc hn ho;go_wp2_with fail
  go_ret2
  exact ⟨hh.out,.inr ⟨Hc.out,rfl⟩⟩
 have hw:(Nt.sO n.o).length=n.o.length:=(Nt.aK hc).2.2.2.2.1;have hf:∀u∈Nt.sO n.o,1<=u/\u<=n.o.length:=Kn.dX _ _;have hp:=Nt.eU (Nt.aK hc).2.2.2.1;have hL:=λk=>@Nt.lastMid_next n k
 have x1:w2.cell? ⟨w.heap.size,1,none⟩=some (sQ N n.o.length d):=by rw [ho.cell];rfl
 have e1:iQ.wrap ((n.o.length:Int)+1)=((n.o.length+1:Nat):Int):=by rw [Zc1 _ oZ];omega
 generalize Nt.sO n.o=os at *;have h2:=hn.size;obtain ⟨Hc,hh,hX,hQ,hC,hz,h0,HO⟩:=zd8 hc hn ho hw hf hp hL hO;clear hc hn ho hw hf hp hL hO;go_wp2_with (at_make;refine wpList_make_full _ rfl _ _ 22 rfl w2.heap.size 3 i0 (nQ iQ 0) 1 underlying22 hi Hb Ha _ _ _ _ (n.o.length+1) rfl rfl (by first|rfl|simp|(go_simp;rfl)) (by first|rfl|simp|(go_simp;rfl)) ?b2 ?b3 ?b4 ?_)
 case b2=>rw [h7];omega
 case b3=>unfold maxLen;omega
 case b4=>exact lrZ _
 intro w3 hown hgrow;have hb:=qam hown;rw [qae] at hb
 have hG:Blk w3 w2.heap.size 3 (qa9 (Nt.bO n 0 [])).toArray:=by
  rw [Nt.lastMid_zero,qa9,List.map_replicate];exact hb
 have hE:Later w2 w3:=(Ze1 _ w2).grown hgrow (lrZ _) sZ;have x1':=hE.cell x1;obtain ⟨hN,hH⟩:=zd2 hG hE;clear hG hE;clear hb hown hgrow x1;go_wp2_with fail
 go_loopw [26] (λi wx=>∃k:Nat,k<=n.o.length/\i=nQ iQ (k:Int)/\Blk wx w2.heap.size 3 (qa9 (Nt.bO n k [])).toArray/\Later w2 wx) (λi _=>n.o.length-(intOf i).toNat)
 case atStart=>exact ⟨0,Zt _,rfl,hN.out,hH.out⟩
 case round=>
  obtain ⟨k,hk,rfl,hm,ha⟩:=hrel;clear hN hH x1'
  by_cases h8:k<n.o.length
  ·have ht:k<os.length:=by rw [hQ.out];exact h8
   obtain ⟨b,off,rfl,-,hB⟩:=HO.out k ht;rw [qa1 ht] at hB;have hV:=ha.cell hB;have hr:=hC.out _ (gmZ ht);obtain ⟨j,hj⟩:∃j:Nat,os[k]=(j:Int)+1:=⟨(os[k]-1).toNat,by omega⟩
   have hv:j<n.o.length:=by omega
   have eo:os.getD k 0=os[k]:=qa1 ht;have hA:=h0.out k;have hW:Nt.iF n.o os[k]=n.o[j].ins:=by unfold Nt.iF;rw [hj,Nt.dH hv]
   rw [eo,hW] at hA;have hT:=(hz.out _ (gmZ hv)).2;have Hi:=(hY.out.2.2 _ (gmZ hv)).2.2.1;obtain ⟨b1,off1,S,sc,I,ic,Q,qc,rfl,hq,-,-,-⟩:=HR.out.2.at_ hv;obtain ⟨⟨-,-,-,-,-,-,-,-,y8,-⟩,-,-,-⟩:=hq.below (hh.out.trans ha);have hK:=λ(W:Zp1) (h:Later w2 W)=>(hq.below (hh.out.trans h)).2.2.1
   have x1:wr.cell? ⟨w.heap.size,1,none⟩=some (sQ (some ⟨b1,off1,none⟩) n.o.length d):=by rw [(ha.blk hX.out).cell];rfl
   rw [hj] at hV;generalize n.o[j]=v at *;have j1:iQ.wrap ((j:Int)+1-1)=(j:Int):=by rw [Zc1 _ oZ];omega
   have j2:(j:Int)<n.o.length:=by omega
   have k1:(k:Int)<(n.o.length:Int):=by omega
   clear hB hr hj eo hW;obtain ⟨Hm,hD,He,h5,h6,Hh⟩:=zd6 hm ha hA hT hK hq;clear hm ha hA hT hK hq;go_wp2_with fail;clear y8 x1 hV
   go_loopw [39] (λi wx=>∃m:Nat,m<=v.ins.length/\i=nQ iQ (m:Int)/\Blk wx w2.heap.size 3 (qa9 (Nt.bO n k (v.ins.take m))).toArray/\Later w2 wx) (λi _=>v.ins.length-(intOf i).toNat)
   case atStart=>exact ⟨0,Zt _,rfl,by rw [List.take_zero];exact Hm.out,hD.out⟩
   case round=>
    obtain ⟨m,hm,rfl,he,hg⟩:=hrel;clear Hm hD
    by_cases hs:m<v.ins.length
    ·obtain ⟨b2,off2,rfl,-,hP⟩:=h6.out _ hg m hs
     rw [qa1 hs] at hP;have hF:=h5.out _ (gmZ hs);have HM:=zI (show Nt.bO n k (v.ins.take (m+1))=(Nt.bO n k (v.ins.take m)).set v.ins[m].toNat ((k:Int)+1) by rw [Zb hs,Nt.lastMid_in _ _ _ hF.1 hF.2]);obtain ⟨u,hu⟩:∃u:Nat,v.ins[m]=u:=⟨v.ins[m].toNat,by omega⟩
     rw [hu] at hP hF HM;have hM:=Nt.lastMid_len n k (v.ins.take m);have hU:u<n.o.length+1:=by omega
     obtain ⟨y,hy⟩:=he.has (j:=u) (by rw [qat,hM];exact hU);have fy:=he.frozen u;have hS:=he.aU u (nQ iQ ((k:Int)+1))
     have h9:=zI (show Blk (wr.setCell ⟨w2.heap.size,u,none⟩ (nQ iQ ((k:Int)+1))) w2.heap.size 3 (qa9 (Nt.bO n k (v.ins.take (m+1)))).toArray by
      rw [HM.out,tnZ];simpa [qa9,List.map_set] using hS)
     have h4:=zI (hg.set (p:=⟨w2.heap.size,u,none⟩) (lrZ _) (nQ iQ ((k:Int)+1)));have u0:(0:Int)<=u:=by omega
     have u1:(u:Int)<((n.o.length+1:Nat):Int):=by omega
     have m1:(m:Int)<v.ins.length:=by omega
     have k6:iQ.wrap ((k:Int)+1)=(k:Int)+1:=Zc1 _ oZ;clear hS he hg hu hM hU;go_wp2_with fail;clear k6;go_roundw
     case rel=>exact ⟨m+1,by omega,by go_num,h9.out,h4.out⟩
     case measure=>simp [intOf];omega
    ·obtain rfl:m=v.ins.length:=by omega
     rw [Zg] at he;obtain ⟨h1,Hd⟩:=zd2 he hg;clear he hg;go_wp2_with fail;go_roundw
     case rel=>exact ⟨k+1,by omega,by go_num,by rw [←He.out];exact h1.out,Hd.out⟩
     case measure=>simp [intOf];omega
  ·obtain rfl:k=n.o.length:=by omega
   have hw:=hQ.out;have Hf:¬(n.o.length:Int)<(n.o.length:Int):=by omega
   have hl:=hh.out.trans ha;clear hw;obtain ⟨Hm,hD,Hl⟩:=zd3 hm ha hl;clear hm ha hl;go_wp2_with fail
   go_ret2
   exact ⟨Hl.out,.inl ⟨Hc.out,w2.heap.size,rfl,Hm.out⟩⟩
namespace Rt
theorem qfB (n:aA) (u:Int):∀k,jZ (Nt.iF n.o) (Nt.sO n.o) u k=Nt.nI n u k
 | 0=>rfl
 | k+1=>by
  unfold jZ Nt.nI;rw [qfB n u k]
theorem kS {n:aA} {u:Nat} (hu:u<=n.o.length):(Nt.bO n n.o.length [])[u]? = some (jZ (Nt.iF n.o) (Nt.sO n.o) u n.o.length):=by
 rw [Nt.kS n n.o.length hu,qfB]
end Rt
namespace Rt
def an:aA:=⟨[2],[⟨⟨1,0,0,0,0,0,0,[]⟩,[0],[]⟩,⟨⟨12,0,2,1,0,0,0,[]⟩,[1],[]⟩]⟩
theorem fU:Nt.check an=0:=by decide
end Rt
end Go.Proofs.YtddkenhemnkkeaaGreat
