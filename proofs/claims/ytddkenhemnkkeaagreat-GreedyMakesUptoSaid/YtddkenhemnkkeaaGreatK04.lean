/- Lemmas for the statements of this seat: contracts of functions and the plain laws. -/
import Derived.Deep.DeepCutAuto
import Derived.Deep.RegionHeld3
import Derived.Maps.AppendAt
import Derived.Test.YtddkenhemnkkeaaGreatK03
set_option linter.unusedVariables false
open Go.IntKind renaming i64 → iQ
open Go.Value renaming int → nQ, slice → sQ
open List renaming take_succ_eq_append_getElem → Zb, replicate → Zc, drop_eq_getElem_cons → Zd, length_append → Ze, all_eq_true → Zf, take_length → Zg, mem_of_mem_take → Zh, getElem?_eq_none → Zi, flatMap_append → Zj, getElem?_toArray → Zk, getElem?_append_right → Zl, getElem?_append_left → Zm, take_append_drop → Zn, length_take → Zo, mem_of_mem_drop → Zp, length_drop → Zq, getElem?_set_self → Zr, getElem?_set_ne → Zs
open Nat renaming zero_le → Zt, succ_mul → Zu, le_trans → Zv, zero_add → Zw, add_zero → Zx, le_succ → Zy
open Bool renaming and_eq_true → Zz
open Go.Value renaming int → Za1, slice → Zb1
open Go.IntWalk renaming i64_in → Zc1
open Go.NoPanic renaming normal → Zd1
open Go.RowKit.Below renaming refl → Ze1
open Go.AllReadyH renaming cons → Zf1, nil → Zg1
open Go.World renaming size_alloc → Zh1, cell?_of_block → Zi1, block_lt_of_cell? → Zj1
open Go renaming bodyPost_ret → Zk1, wp_region_held_drew → Zl1, wp_region_noPanic → Zm1, wpAnyH_done → Zn1, wpAnyH_ready → Zo1, World → Zp1
open Go.Proofs.Tryz
namespace Go.Proofs.YtddkenhemnkkeaaGreat
set_option maxHeartbeats 16000000
set_option maxRecDepth 20000
open Go.RowKit
theorem qfa {L:List Value} {o:Nat} {v:Value} {r:List Value} (h:o+(v::r).length<=L.length):splice (L.set o v) (o+1) r=splice L o (v::r):=by
 simp only [List.length_cons] at h;unfold splice
 have e1:(L.set o v).take (o+1)=L.take o++[v]:=by
  rw [Zb soZ,List.take_set_of_le (lrZ _)];simp
 rw [e1,List.drop_set_of_lt oZ];simp [Nat.add_assoc,Nat.add_comm 1]
theorem qaq {g:Nat} {t:TypeId}:∀(vs:List Value) (o:Nat) (w:Zp1) (L:List Value),Blk w g t L.toArray->o+vs.length<=L.length->Blk (w.setCells g o vs) g t (splice L o vs).toArray
 | [],o,w,L,h,_=>by rw [qf7];exact h
 | v::r,o,w,L,h,hl=>by
  rw [←qfa hl];refine qaq r (o+1) _ _ ?_ (by simp at hl ⊢;omega);have:=h.aO o v;simpa using this
theorem qaP {S:Nat->Prop} {g:Nat} (hg:S g):∀(vs:List Value) (o:Nat) (w0 w:Zp1),Fr S w0 w->Fr S w0 (w.setCells g o vs)
 | [],_,_,_,h=>h
 | v::r,o,w0,w,h=>qaP hg r (o+1) w0 _ (h.setCell (λ_=>hg) v)
theorem qhz {S:Nat->Prop} {w w1:Zp1} (h:Fr S w w1):∀(vs:List Value) (o:Nat),Fr S w (w1.setCells w.heap.size o vs)
 | [],_=>h
 | v::r,o=>qhz (h.setCell (p:=⟨w.heap.size,o,none⟩) (λq=>absurd q (Nat.lt_irrefl _)) v) r (o+1)
theorem Blk.shape {w:Zp1} {g:Nat} {t:TypeId} {cs:Array Value} (h:Blk w g t cs):w.shape? g=some (t,cs.size):=by
 unfold Blk at h;simp [World.shape?,h]
theorem Blk.own {w:Zp1} {B g n:Nat} {t:TypeId} {L:List Value} {xs:List Value} (h:Blk w g t L.toArray) (hB:B<=g) (hn:xs.length=n) (hl:n<=L.length) (hm:L.length<=maxLen) (ht:L.take n=xs) {c:Nat} (hc:c=L.length):
  w.ownsRow B t 1 (sQ (some ⟨g,0,none⟩) n c) n xs:=by
 subst hc;exact ⟨by omega,.inr ⟨g,_,_,rfl,hB,h,hl,hm,by simp,by simpa using ht⟩⟩
def qhA (B:Nat) (t:TypeId) (v:Value) (zs:List Int) (w:Zp1) (e:Ending) (w':Zp1):Prop:=
 ∃v',e=.returned v'/\w'.ownsRow B t 1 v' zs.length (zs.map (Za1 iQ))/\Fr (λb=>v.ownBlock=some b) w w'/\(v'.ownBlock=v.ownBlock∨v'.ownBlock=some w.heap.size)
theorem qdI (A X Y B:List Value) (h:X.length=Y.length):splice (A++(X++B)) A.length Y=A++(Y++B):=by
 unfold splice;rw [List.take_append_of_le_length (lrZ _),Zg,←h,←Ze,←List.append_assoc A X B,List.drop_left]
theorem ins_a {Z D:List Value} {x:Value} {i:Nat} (hi:i<Z.length) (hD:1<=D.length):splice (splice (Z++D) (i+1) (Z.drop i)) i [x]=Z.take i++x::Z.drop i++D.drop 1:=by
 obtain ⟨d,D',rfl⟩:∃d D',D=d::D':=by cases D with|nil=>simp at hD|cons d D'=>exact ⟨d,D',rfl⟩
 obtain ⟨A,b,B,rfl,rfl⟩:∃A b B,Z=A++b::B/\i=A.length:=⟨Z.take i,Z[i],Z.drop (i+1),by rw [←Zd hi,Zn],by simp;omega⟩
 rw [List.drop_left,List.take_left];have e1:A++b::B++d::D'=(A++[b])++((B++[d])++D'):=by simp
 have e2:A.length+1=(A++[b]).length:=by simp
 rw [e1,e2,qdI _ _ (b::B) _ sZ];have e3:A++[b]++(b::B++D')=A++([b]++(b::B++D')):=by simp
 rw [e3,qdI _ [b] [x] _ rfl];simp
theorem ins_b {Z Z1 Z2:List Value} {x:Value} {i:Nat} (hi:i<Z.length) (h1:Z1.length=Z.length+1-i):splice (splice (Z.take i++Z1++Z2) i [x]) (i+1) (Z.drop i)=Z.take i++x::Z.drop i++Z2:=by
 obtain ⟨d,D,rfl⟩:∃d D,Z1=d::D:=by cases Z1 with|nil=>simp at h1;omega|cons d D=>exact ⟨d,D,rfl⟩
 obtain ⟨A,B,rfl,rfl⟩:∃A B,Z=A++B/\i=A.length:=⟨Z.take i,Z.drop i,(Zn _ _).symm,by simp;omega⟩
 rw [List.drop_left,List.take_left];have e1:A++d::D++Z2=A++([d]++(D++Z2)):=by simp
 rw [e1,qdI _ [d] [x] _ rfl];have e2:A++([x]++(D++Z2))=(A++[x])++(D++Z2):=by simp
 have e3:A.length+1=(A++[x]).length:=by simp
 rw [e2,e3,qdI _ _ B _ (by simp at h1;omega)];simp
theorem qcv {zs:List Int} {x:Int} {i:Nat} (h:i<=zs.length):(zs.take i++x::zs.drop i).length=zs.length+1:=by simp;omega
theorem Blk.nL {w:Zp1} {g:Nat} {t:TypeId} {L xs:List Value} {n:Nat} (h:Blk w g t L.toArray) (ht:L.take n=xs):∀j v,xs[j]? = some v->w.cell? ⟨g,0+j,none⟩=some v:=λj v hj=>by
 rw [Zw,h.cell j];subst ht;rw [List.getElem?_take] at hj
 split at hj
 ·simpa using hj
 ·cases hj
theorem qeq {zs:List Int}:∀v∈zs.map (Za1 iQ),v.oneCell'=true:=λv hv=>by
 obtain ⟨x,_,rfl⟩:=List.mem_map.1 hv
 rfl
theorem qgt (B:Nat) (v:Value) (zs:List Int) (x:Int) (i vb:Nat) (w:Zp1) (hi:i<=zs.length) (hn:zs.length<=1099511627776) (hB:B<=w.heap.size) (hown:w.ownsRow B 3 1 v zs.length (zs.map (Za1 iQ))) (hv:Blk w vb 3 #[nQ iQ x]) (hvb:v.ownBlock≠some vb):
  Calls prog 142 #[v,nQ iQ i,sQ (some ⟨vb,0,none⟩) 1 1] w (qhA B 3 v (zs.take i++x::zs.drop i) w):=by
 have hl:∀j u,[Za1 iQ x][j]? = some u->w.cell? ⟨vb,0+j,none⟩=some u:=λj u hj=>by
  match j,hj with
  | 0,hj=>simp at hj;subst hj;rw [hv.cell];rfl
 have hf:∀u∈[Za1 iQ x],u.oneCell'=true:=λu hu=>by simp at hu;subst hu;rfl
 have hD:maxLen=9223372036854775807:=rfl;rcases hown.2 with ⟨rfl,h0⟩|⟨g,cap,cur,rfl,hx,hh,hL,hA,hy,hC⟩
 ·have hz:zs=[]:=List.eq_nil_of_length_eq_zero h0
  subst hz;obtain rfl:i=0:=by simpa using hi
  refine (Any2.slices_Insert_int_end_grow qcI none 0 0 vb 0 1 1 [] [nQ iQ x] w oZ oZ oZ oZ rfl rfl (λ_=>rfl) (λa h=>by cases h) hl hf).mono ?_;rintro e w' ⟨rfl,rfl⟩;have hg:=grownCap_ge w (0+1) 0 3;have hp:=grownCap_le_maxLen w (0+1) 0 3 (by unfold maxLen;omega);refine ⟨_,rfl,?_,((Fr.refl _ w).drew).alloc _,.inr rfl⟩;have hk:=Blk.new w.drew 3 (([]++[Za1 iQ x]).toArray++Builtin.zeroCells (Za1 iQ 0).cells (grownCap w (0+1) 0 3-(0+1)))
  have hE:Blk (w.drew.alloc (.cells (([]++[Za1 iQ x]).toArray++Builtin.zeroCells (Za1 iQ 0).cells (grownCap w (0+1) 0 3-(0+1))) 3)) w.heap.size 3 (([Za1 iQ x]++(Builtin.zeroCells (Za1 iQ 0).cells (grownCap w (0+1) 0 3-(0+1))).toList).toArray):=by
   have e:(([Za1 iQ x]++(Builtin.zeroCells (Za1 iQ 0).cells (grownCap w (0+1) 0 3-(0+1))).toList).toArray)=([]++[Za1 iQ x]).toArray++Builtin.zeroCells (Za1 iQ 0).cells (grownCap w (0+1) 0 3-(0+1)):=by
    apply Array.ext';simp
   rw [e];exact hk
  have hw:(Builtin.zeroCells (Za1 iQ 0).cells (grownCap w (0+1) 0 3-(0+1))).toList.length=grownCap w (0+1) 0 3-(0+1):=by
   rw [Array.length_toList,size_zeroCells];simp [Value.cells]
  exact hE.own hB rfl sZ (by simp only [Ze,hw,List.length_singleton];omega) sZ (by simp only [Ze,hw,List.length_singleton];show grownCap w (0+1) 0 3=_;omega)
 ·have hk:Blk w g 3 cur.toList.toArray:=by simpa [Blk] using hh
  have hm:cur.toList.length=cap:=by simpa using hy
  have hc:cur.toList.take zs.length=zs.map (Za1 iQ):=by simpa using hC
  have hr:=hk.nL hc;have hJ:g≠vb:=λh=>hvb (by rw [h];rfl)
  have ho:(zs.map (Za1 iQ)).length=zs.length:=by simp
  by_cases hb:zs.length+1<=cap
  ·by_cases hs:i<zs.length
   ·refine (Any2.slices_Insert_int_shift qcI g 0 zs.length cap i vb 0 1 1 (zs.map (Za1 iQ)) [nQ iQ x] w hs oZ hb oZ (λh=>hJ h.symm) ho rfl hr ?_ ?_ hl qeq hf 3 3 1 cap ?_ ?_ oZ ?_ ?_).mono ?_
    ·intro j hj;rw [Zw,hk.cell];simp;omega
    ·intro j hj;exact hk.frozen _
    ·exact hv.shape
    ·rw [hk.shape];simp [hy]
    ·exact hv.frozen _
    ·exact hv.frozen _
    ·rintro e w' ⟨rfl,rfl⟩
     have hd:(List.drop i (zs.map (Za1 iQ))).length=zs.length-i:=by simp
     have k1:=qaq ((zs.map (Za1 iQ)).drop i) (0+(i+1)) w.drew _ hk.drew (by rw [hd,hm];omega);have k2:=qaq [Za1 iQ x] (0+i) _ _ k1 (by simp [splice];omega);refine ⟨_,rfl,?_,qaP (by rfl) _ _ _ _ (qaP (by rfl) _ _ _ _ (Fr.refl _ w).drew),.inl rfl⟩
     have ha:(splice (splice cur.toList (0+(i+1)) ((zs.map (Za1 iQ)).drop i)) (0+i) [Za1 iQ x]).length=cap:=by
      simp only [splice,Ze,Zo,Zq,List.length_singleton,hd,hm];omega
     rw [qcv hi];refine k2.own hx soZ (by rw [ha];omega) (by rw [ha];exact hA) ?_ ha.symm;rw [Zw,Zw];have e0:cur.toList=zs.map (Za1 iQ)++cur.toList.drop zs.length:=by rw [←hc];exact (Zn _ _).symm
     rw [e0];generalize cur.toList.drop zs.length=D at *;generalize hZ:zs.map (Za1 iQ)=Z at *;have hH:i<Z.length:=by omega
     have hF:1<=D.length:=by rw [e0,Ze] at hm;omega
     rw [ins_a hH hF];have:(Z.take i++Za1 iQ x::Z.drop i).length=zs.length+1:=by simp;omega
     rw [List.take_append_of_le_length oZ,List.take_of_length_le oZ];rw [←hZ];simp [List.map_take,List.map_drop]
   ·obtain rfl:i=zs.length:=by omega
    refine (Any2.slices_Insert_int_end_room qcI g 0 zs.length cap vb 0 1 1 [nQ iQ x] w oZ hb oZ rfl ?_ ?_ hl hf).mono ?_
    ·intro j hj;rw [Zw,hk.cell];simp;omega
    ·intro j hj;exact hk.frozen _
    ·rintro e w' ⟨rfl,rfl⟩
     have k1:=qaq [Za1 iQ x] (0+zs.length) w _ hk soZ;refine ⟨_,rfl,?_,qaP (by rfl) _ _ _ _ (Fr.refl _ w),.inl rfl⟩
     have ha:(splice cur.toList (0+zs.length) [Za1 iQ x]).length=cap:=by
      simp only [splice,Ze,Zo,Zq,List.length_singleton,hm];omega
     rw [qcv (lrZ _)];refine k1.own hx sZ (by rw [ha];omega) (by rw [ha];exact hA) ?_ ha.symm;rw [Zw];unfold splice;rw [hc,←List.append_assoc];rw [List.take_append_of_le_length sZ,List.take_of_length_le sZ];simp
  ·have hK:cap=zs.length:=by omega
   subst hK;have hg:=grownCap_ge w (zs.length+1) zs.length 3;have hp:=grownCap_le_maxLen w (zs.length+1) zs.length 3 (by unfold maxLen;omega)
   by_cases hs:i<zs.length
   ·refine (Any2.slices_Insert_int_grow qcI g 0 zs.length zs.length i vb 0 1 1 (zs.map (Za1 iQ)) [nQ iQ x] w hs oZ oZ oZ oZ ho rfl hr hl qeq hf).mono ?_
    rintro e w' ⟨rfl,rfl⟩;have ht:(Builtin.zeroCells (Za1 iQ 0).cells (zs.length+1-i)).toList.length=zs.length+1-i:=by rw [Array.length_toList,size_zeroCells];simp [Value.cells]
    have he:(Builtin.zeroCells (Za1 iQ 0).cells (grownCap w (zs.length+1) zs.length 3-(zs.length+1))).toList.length=grownCap w (zs.length+1) zs.length 3-(zs.length+1):=by rw [Array.length_toList,size_zeroCells];simp [Value.cells]
    generalize hZ1:Builtin.zeroCells (Za1 iQ 0).cells (zs.length+1-i)=Z1 at *;have hT:tZ.t 3=3:=rfl;rw [hT] at *;generalize hZ2:Builtin.zeroCells (Za1 iQ 0).cells (grownCap w (zs.length+1) zs.length 3-(zs.length+1))=Z2 at *;generalize hG:grownCap w (zs.length+1) zs.length 3=G at *
    have hq:Blk (w.alloc (.cells (((zs.map (Za1 iQ)).take i).toArray++Z1++Z2) 3)).drew w.heap.size 3 (((zs.map (Za1 iQ)).take i++Z1.toList++Z2.toList).toArray):=by
     have:=Blk.new w 3 (((zs.map (Za1 iQ)).take i).toArray++Z1++Z2)
     have e:(((zs.map (Za1 iQ)).take i++Z1.toList++Z2.toList).toArray)=((zs.map (Za1 iQ)).take i).toArray++Z1++Z2:=by
      apply Array.ext';simp
     rw [e];exact this.drew
    have hI:((zs.map (Za1 iQ)).take i).length=i:=by simp;omega
    have hd:((zs.map (Za1 iQ)).drop i).length=zs.length-i:=by simp
    have k1:=qaq [Za1 iQ x] i _ _ hq (by simp only [Ze,hI,ht,he,List.length_singleton];omega);have k2:=qaq ((zs.map (Za1 iQ)).drop i) (i+1) _ _ k1.drew (by simp only [splice,Ze,Zo,Zq,List.length_singleton,ht,he,List.length_map];omega);refine ⟨_,rfl,?_,?_,.inr rfl⟩
    ·have ha:(splice (splice ((zs.map (Za1 iQ)).take i++Z1.toList++Z2.toList) i [Za1 iQ x]) (i+1) ((zs.map (Za1 iQ)).drop i)).length=G:=by
      simp only [splice,Ze,Zo,Zq,List.length_singleton,ht,he,List.length_map];omega
     rw [qcv hi];refine k2.own hB soZ (by rw [ha];omega) (by rw [ha];exact hp) ?_ ha.symm;generalize hZ:zs.map (Za1 iQ)=Z at *;rw [ins_b oZ oZ];have:(Z.take i++Za1 iQ x::Z.drop i).length=zs.length+1:=by simp;omega
     rw [List.take_append_of_le_length oZ,List.take_of_length_le oZ];rw [←hZ];simp [List.map_take,List.map_drop]
    ·have f1:Fr (λb=>(Zb1 (some ⟨g,0,none⟩) zs.length zs.length).ownBlock=some b) w (w.alloc (.cells (((zs.map (Za1 iQ)).take i).toArray++Z1++Z2) 3)):=(Fr.refl _ w).alloc _
     exact qhz (qhz f1.drew _ _).drew _ _
   ·obtain rfl:i=zs.length:=by omega
    refine (Any2.slices_Insert_int_end_grow qcI (some ⟨g,0,none⟩) zs.length zs.length vb 0 1 1 (zs.map (Za1 iQ)) [nQ iQ x] w oZ (lrZ _) oZ oZ ho rfl (λh=>by cases h) (λa h=>by injection h with h;subst h;intro j u hj;have:=hr j u hj;rw [Addr.add_lit];simpa using this) hl hf).mono ?_;rintro e w' ⟨rfl,rfl⟩;have hT:tZ.t 3=3:=rfl;rw [hT] at *;have he:(Builtin.zeroCells (Za1 iQ 0).cells (grownCap w (zs.length+1) zs.length 3-(zs.length+1))).toList.length=grownCap w (zs.length+1) zs.length 3-(zs.length+1):=by rw [Array.length_toList,size_zeroCells];simp [Value.cells]
    generalize hZ2:Builtin.zeroCells (Za1 iQ 0).cells (grownCap w (zs.length+1) zs.length 3-(zs.length+1))=Z2 at *;generalize hG:grownCap w (zs.length+1) zs.length 3=G at *;refine ⟨_,rfl,?_,((Fr.refl _ w).drew).alloc _,.inr rfl⟩
    have hq:Blk (w.drew.alloc (.cells ((zs.map (Za1 iQ)++[Za1 iQ x]).toArray++Z2) 3)) w.heap.size 3 ((zs.map (Za1 iQ)++[Za1 iQ x]++Z2.toList).toArray):=by
     have:=Blk.new w.drew 3 ((zs.map (Za1 iQ)++[Za1 iQ x]).toArray++Z2)
     have e:((zs.map (Za1 iQ)++[Za1 iQ x]++Z2.toList).toArray)=(zs.map (Za1 iQ)++[Za1 iQ x]).toArray++Z2:=by
      apply Array.ext';simp
     rw [e];exact this
    have ha:(zs.map (Za1 iQ)++[Za1 iQ x]++Z2.toList).length=G:=by simp only [Ze,List.length_map,List.length_singleton,he];omega
    rw [qcv (lrZ _)];refine hq.own hB sZ (by rw [ha];omega) (by rw [ha];exact hp) ?_ ha.symm;rw [List.take_append_of_le_length sZ,List.take_of_length_le sZ];simp
theorem qgu (B:Nat) (v:Value) (x:Int) (zs:List Int) (w:Zp1) (hn:(x::zs).length<=1099511627776) (hown:w.ownsRow B 3 1 v (x::zs).length ((x::zs).map (Za1 iQ))):
  Calls prog 140 #[v,nQ iQ 0,nQ iQ 1] w (qhA B 3 v zs w):=by
 have hm:maxLen=9223372036854775807:=rfl;rcases hown.2 with ⟨rfl,h0⟩|⟨g,cap,cur,rfl,hf,hh,hc,ho,hl,hg⟩
 ·simp at h0
 ·have hk:Blk w g 3 cur.toList.toArray:=by simpa [Blk] using hh
  have he:cur.toList.length=cap:=by simpa using hl
  have hd:cur.toList.take (x::zs).length=(x::zs).map (Za1 iQ):=by simpa using hg
  have hi:=hk.nL hd;refine (Tryz.slices_Delete_int_cells g 0 (x::zs).length cap 0 1 (x::zs) w (lrZ _) hc oZ oZ sZ ?_ ?_).mono ?_
  ·intro j hj
   refine hi j _ ?_;rw [List.getElem?_map,geZ hj,gdZ,geZ hj]
   rfl
  ·intro j hj;exact hk.frozen _
  ·rintro e w' ⟨rfl,q,rfl⟩
   have hb:((((x::zs).take (x::zs).length).take 0++((x::zs).take (x::zs).length).drop 1++Zc (1-0) 0).map (Za1 iQ))=zs.map (Za1 iQ)++[Za1 iQ 0]:=by simp
   rw [hb];have k1:=qaq (zs.map (Za1 iQ)++[Za1 iQ 0]) 0 (w.drewN q) _ (hk.drewN q) (by rw [he];simp at hc ⊢;omega);refine ⟨_,rfl,?_,qaP (by rfl) _ _ _ _ ((Fr.refl _ w).drewN q),.inl rfl⟩
   have ha:(splice cur.toList 0 (zs.map (Za1 iQ)++[Za1 iQ 0])).length=cap:=by
    simp only [splice,Ze,Zo,Zq,List.length_singleton,List.length_map,he];simp at hc;omega
   refine k1.own hf sZ (by rw [ha];simp at hc ⊢;omega) (by rw [ha];exact ho) ?_ ha.symm;unfold splice;simp
theorem qgv (B:Nat) (v:Value) (x:Int) (zs:List Int) (w:Zp1) (hn:zs.length<=1099511627776) (hs:zs.Pairwise (·<=·)) (hown:w.ownsRow B 3 1 v zs.length (zs.map (Za1 iQ))):
  Calls prog 141 #[v,nQ iQ x] w λe w'=>(∃b,e=.returned (.tuple #[nQ iQ (zs.countP (·<x):Nat),.bool b]))/\∃q,w'=w.drewN q:=by
 rcases hown.2 with ⟨rfl,h0⟩|⟨g,cap,cur,rfl,hd,hh,hf,hg,he,hb⟩
 ·have:zs=[]:=List.eq_nil_of_length_eq_zero h0
  subst this;refine (Tryz.slices_BinarySearch_int_empty none 0 x w).mono ?_;rintro e w' ⟨rfl,rfl⟩;exact ⟨⟨_,rfl⟩,0,rfl⟩
 ·have hk:Blk w g 3 cur.toList.toArray:=by simpa [Blk] using hh
  have ha:cur.toList.take zs.length=zs.map (Za1 iQ):=by simpa using hb
  have hc:=hk.nL ha;refine (Tryz.slices_BinarySearch_int g 0 zs.length cap zs x w (lrZ _) oZ ?_ (by rw [Zg];exact hs)).mono ?_
  ·intro j hj
   refine hc j _ ?_;rw [List.getElem?_map,geZ hj,gdZ,geZ hj]
   rfl
  ·rintro e w' ⟨rfl,q,rfl⟩
   rw [Zg];exact ⟨⟨_,rfl⟩,q,rfl⟩
theorem qdk:(prog.info? 22).map (λi=>(i.zero,i.size,i.bytes))=some (some (sQ none 0 0),1,24):=by kernel_rfl
def Two (C:Nat) (t:TypeId) (w:Zp1) (r o:Value) (zr zo:List Int):Prop:=
 w.ownsRow C t 1 r zr.length (zr.map (Za1 iQ))/\w.ownsRow C t 1 o zo.length (zo.map (Za1 iQ))/\∀b,r.ownBlock=some b->o.ownBlock≠some b
section
variable {C:Nat} {t:TypeId} {w w':Zp1} {r o r' o':Value} {zr zo zr' zo':List Int} {S:Nat->Prop}
theorem Two.fr (h:Two C t w r o zr zo) (hf:Fr S w w') (hS:∀b,S b->¬C<=b):Two C t w' r o zr zo:=
 ⟨qbj h.1 hf λb hb hs=>hS b hs (h.1.lt b hb).1,qbj h.2.1 hf λb hb hs=>hS b hs (h.2.1.lt b hb).1,h.2.2⟩
theorem Two.new (h:Two C t w r o zr zo) (x:Obj):Two C t (w.alloc x) r o zr zo:=h.fr ((Fr.refl (λ_=>False) w).alloc x) λ_ h=>h.elim
theorem Two.left (h:Two C t w r o zr zo) (hf:Fr (λb=>r.ownBlock=some b) w w') (ho:w'.ownsRow C t 1 r' zr'.length (zr'.map (Za1 iQ))) (ha:r'.ownBlock=r.ownBlock∨r'.ownBlock=some w.heap.size):Two C t w' r' o zr' zo:=
 ⟨ho,qbj h.2.1 hf λb hb hs=>h.2.2 b hs hb,λb hb ho=>by
  rcases ha with e|e
  ·exact h.2.2 b (e▸hb) ho
  ·rw [e] at hb;injection hb with hb;subst hb;have:=(h.2.1.lt _ ho).2;omega⟩
theorem Two.right (h:Two C t w r o zr zo) (hf:Fr (λb=>o.ownBlock=some b) w w') (ho:w'.ownsRow C t 1 o' zo'.length (zo'.map (Za1 iQ))) (ha:o'.ownBlock=o.ownBlock∨o'.ownBlock=some w.heap.size):Two C t w' r o' zr zo':=
 ⟨qbj h.1 hf λb hb hs=>h.2.2 b hb hs,ho,λb hb ho=>by
  rcases ha with e|e
  ·exact h.2.2 b hb (e▸ho)
  ·rw [e] at ho;injection ho with ho;subst ho;have:=(h.1.lt _ hb).2;omega⟩
end
def qfX (os:List Int) (w:Zp1) (e:Ending) (w':Zp1):Prop:=
 ∃A c,e=.returned (sQ A os.length c)/\Ints iQ w' A os/\os.length<=c/\c<=9223372036854775807/\Below w.heap.size w w'
def qhB (os:List Int) (w:Zp1) (e:Ending) (w':Zp1):Prop:=
 ∃A c,e=.returned (sQ A os.length c)/\Ints iQ w' A os/\os.length<=c/\c<=9223372036854775807/\Below w.heap.size w w'/\∀a,A=some a->w.heap.size<=a.block
section
variable {X:Nat->Prop} {B:Nat} {w w':Zp1} {g:Nat} {t e:TypeId} {us:List (List Int)}
theorem jC.at3 (h:jC X B w g t e us) {j:Nat} (hj:j<us.length) (hlt:∀b,X b->b<w.heap.size):
  ∃v,w.cell? ⟨g,j,none⟩=some v/\(∀b,v.ownBlock=some b->¬X b)/\∀W:Zp1,(∀b,b<w.heap.size->(b=g∨¬X b)->W.heap[b]? = w.heap[b]?)->w.heap.size<=W.heap.size->
   W.ownsRow B e 1 v us[j].length (us[j].map (Za1 iQ))/\
   ∀(v':Value) (w1:Zp1) (x:Int),w1.ownsRow B e 1 v' (us[j].length+1) (us[j].map (Za1 iQ)++[nQ iQ x])->W.grownBy w1 v.ownBlock->(v'.ownBlock=v.ownBlock∨v'.ownBlock=some W.heap.size)->
    w1.cell? ⟨g,j,none⟩=some v/\w1.frozen? ⟨g,j,none⟩=false/\jC X B (w1.setCell ⟨g,j,none⟩ v') g t e (us.set j (us[j]++[x])):=by
 obtain ⟨v,hc,ho,hx,-⟩:=h.at_ hlt hj;refine ⟨v,hc,hx,λW ha hs=>?_⟩;have hW:=h.agree ha;obtain ⟨v2,he,hg,hf,hh⟩:=hW.at_ (λb hb=>ltZ (hlt b hb) hs) hj
 have hv:v2=v:=by
  have e:=Zi1 (w:=w) (w':=W) (a:=⟨g,j,none⟩) (ha g h.lt (.inl rfl));rw [he,hc] at e;injection e
 subst hv;refine ⟨hg,λv' w1 x h1 h2 h3=>?_⟩;have hd:some g≠v2.ownBlock:=λq=>hf g q.symm h.1
 have hi:g<W.heap.size:=ltZ h.lt hs;refine ⟨h2.cell he hd,?_,hh v' w1 x h1 h2 h3⟩;obtain ⟨_,vs,_,hk,_⟩:=hW;exact (hk.grown h2 hd).frozen j
theorem jC.shut (h:jC (λb=>b<B) B w g t e us):jC (λb=>b<B∨w.heap.size<=b) B w g t e us:=by
 obtain ⟨hg,vs,hl,hk,ho,hx,hd⟩:=h;refine ⟨.inl hg,vs,hl,hk,ho,λj v b hv hb=>?_,hd⟩;have h1:¬b<B:=hx j v b hv hb;have hj:j<us.length:=by rw [←hl];exact (List.getElem?_eq_some_iff.1 hv).1
 have h2:=((ho j hj v hv).lt b hb).2;omega
def oD (tN:TypeId) (box:Array Value) (B C g2:Nat) (tL tI:TypeId) (ws:List Int) (us:List (List Int)) (w wr:Zp1):Prop:=
 Blk wr w.heap.size tN box/\Below w.heap.size w wr/\C<=wr.heap.size/\Blk wr (w.heap.size+1) tI (ws.map (Za1 iQ)).toArray/\jC (λb=>b<B∨C<=b) B wr g2 tL tI us
section
variable {tN:TypeId} {box:Array Value} {C g2:Nat} {tL tI:TypeId} {ws:List Int} {wr wr':Zp1} {S:Nat->Prop}
theorem oD.fr (h:oD tN box B C g2 tL tI ws us w wr) (hf:Fr S wr wr') (hS:∀b,S b->C<=b) (h1:w.heap.size+1<B) (h2:B<=C) (h3:g2<B):oD tN box B C g2 tL tI ws us w wr':=by
 obtain ⟨a1,a2,a3,a4,a5⟩:=h;have hn:∀b,b<C->¬S b:=λb hb hs=>by have:=hS b hs;omega
 refine ⟨hf.blk a1 (hn _ oZ),a2.trans (hf.below (λb hb=>by have:=hS b hb;omega) a2.size),Zv a3 hf.size,hf.blk a4 (hn _ oZ),a5.agree λb hb ho=>hf.2 b hb (hn b ?_)⟩;rcases ho with rfl|ho
 ·omega
 ·omega
theorem oD.wait (h:oD tN box B C g2 tL tI ws us w wr) (u:Nat) (z:Int) (h1:w.heap.size+1<B) (h2:B<=C) (h3:g2≠w.heap.size+1):oD tN box B C g2 tL tI (ws.set u z) us w (wr.setCell ⟨w.heap.size+1,u,none⟩ (nQ iQ z)):=by
 obtain ⟨a1,a2,a3,a4,a5⟩:=h;refine ⟨a1.far sZ _,a2.setCell (p:=⟨w.heap.size+1,u,none⟩) sZ _,by simpa using a3,?_,a5.agree λb hb ho=>Below.heap_setCell wr _ _ b ?_⟩
 ·have:=a4.aO u (nQ iQ z)
  simpa [List.map_set] using this
 ·rcases ho with rfl|ho
  ·exact h3
  ·simp;omega
theorem oD.read (h:oD tN box B C g2 tL tI ws us w wr) {j:Nat} (hj:j<us.length):∃A c,wr.cell? ⟨g2,j,none⟩=some (sQ A us[j].length c)/\Ints iQ wr A us[j]/\∀a,A=some a->B<=a.block/\a.block<C:=by
 obtain ⟨a1,a2,a3,a4,hg,vs,hl,hk,ho,hx,hd⟩:=h;have hv:vs[j]? = some vs[j]:=geZ oZ;obtain ⟨A,c,e,_,hI⟩:=Ints.jB (ho j hj _ hv);refine ⟨A,c,by rw [hk.cell j];simpa [e] using hv,hI,λa ha=>?_⟩;subst ha;rcases (ho j hj _ hv).2 with ⟨h1,_⟩|⟨g,cap,cur,h1,h2,_⟩
 ·rw [h1] at e;cases e
 ·rw [e] at h1
  injection h1 with h1
  injection h1 with h1
  subst h1;have:=hx j _ g hv (by rw [e];rfl);exact ⟨h2,by simp at this;simp;omega⟩
end
end
theorem Kn.mid_le (I:Int->List Int) (out a:List Int) (u:Int):Kn.mid I out a u<=(I u).length:=by
 unfold Kn.mid Kn.wt;have:=List.length_filter_le (λi=>!(i==0)&&!out.contains i) (I u);omega
def wL:Value->Nat
 | .slice _ n _=>n
 | _=>0
theorem qfb (A N:Option Addr) (c d:Nat) (n:aA) (w:Zp1) (Hf:n.ok) (h512:n.o.length<=512) (hR:bC w A N n) (hd:n.o.length<=d) (hins:∀v∈n.o,∀i∈v.ins,0<=i/\i<=n.o.length):
  Calls prog 109 #[.agg #[sQ A n.inn.length c,sQ N n.o.length d]] w (qhB (Nt.sO n.o) w):=by
 obtain ⟨i0,hi,HJ,HZ,H9⟩:=info_parts qag;obtain ⟨i1,hj,Gt,Gr,Gu⟩:=info_parts qdk;have Hv:=Hf.2.2
 have He:∀u,(Nt.iF n.o u).length<=1048576:=λu=>by
  unfold Nt.iF Nt.node;rw [gdZ];cases h:n.o[u.toNat-1]? with
  | none=>simp [Nt.none_]
  | some v=>exact (Hv v (List.mem_of_getElem? h)).2.2.1
 have HM:∀k (h:k<n.o.length),Nt.iF n.o ((k:Int)+1)=n.o[k].ins:=λk h=>by unfold Nt.iF;rw [Nt.dI h]
 have Hl:Nt.sO n.o=Kn.order (Nt.iF n.o) n.o.length:=rfl;generalize Nt.iF n.o=I at *;generalize Nt.sO n.o=os at *;have Gg:=Blk.new w 26 #[sQ A n.inn.length c,sQ N n.o.length d];have g1:Below w.heap.size w (w.alloc (.cells #[sQ A n.inn.length c,sQ N n.o.length d] 26)):=(Ze1 _ _).alloc (lrZ _) _;obtain ⟨HR,gM,gK,hK,gA,HL⟩:=zd6 hR hins Hv He HM Hl;clear hR hins Hv He HM Hl;clear Hf;have e1:iQ.wrap ((n.o.length:Int)+1)=((n.o.length+1:Nat):Int):=by rw [Zc1 _ oZ];omega
 go_in;go_wp2_with (at_make;refine wpList_make_full _ rfl _ _ 22 rfl w.heap.size 3 i0 (nQ iQ 0) 1 underlying22 hi HJ HZ _ _ _ _ (n.o.length+1) rfl rfl (by first|rfl|simp|(go_simp;rfl)) (by first|rfl|simp|(go_simp;rfl)) ?b2 ?b3 ?b4 ?_)
 case b2=>rw [H9];omega
 case b3=>unfold maxLen;omega
 case b4=>simp
 intro w1 hown hgrow;have hA:=qau hown;rw [qao] at hA;have GL:w.heap.size+2<=w1.heap.size:=by have:=lt_of_block hA;omega
 have gV:Blk w1 (w.heap.size+1) 3 ((Kn.wl I n.o.length 0 []).map (Za1 iQ)).toArray:=by
  rw [Kn.wl_zero,List.map_replicate];simpa [Blk] using hA
 have gp:Below w.heap.size w w1:=g1.grown hgrow sZ sZ;have hf:Blk w1 w.heap.size 26 #[sQ A n.inn.length c,sQ N n.o.length d]:=Gg.grown hgrow sZ;have x1:w1.cell? ⟨w.heap.size,1,none⟩=some (sQ N n.o.length d):=by rw [hf.cell];rfl
 obtain ⟨hh,Gj⟩:=zd2 hf gV;clear hf gV;clear hA hown hgrow Gg;go_wp2_with (at_make;refine wpList_make_full _ rfl _ _ 32 rfl w.heap.size 22 i1 (sQ none 0 0) 1 underlying32 hj Gt Gr _ _ _ _ (n.o.length+1) rfl rfl (by first|rfl|simp|(go_simp;rfl)) (by first|rfl|simp|(go_simp;rfl)) ?b2 ?b3 ?b4 ?_)
 case b2=>rw [Gu];omega
 case b3=>unfold maxLen;omega
 case b4=>exact gp.size
 intro w2 hown hgrow;have hA:=qau hown;rw [qao] at hA;obtain ⟨g2,hg2⟩:∃g2,w1.heap.size=g2:=⟨_,rfl⟩
 have gn:Below w.heap.size w w2:=gp.grown hgrow gp.size sZ;have hS:=hh.out.grown hgrow sZ;have gT:=Gj.out.grown hgrow sZ;have x1:w2.cell? ⟨w.heap.size,1,none⟩=some (sQ N n.o.length d):=by rw [hS.cell];rfl
 have hL:Blk w2 g2 22 (Zc (n.o.length+1) (Zb1 none 0 0)).toArray:=by rw [←hg2];simpa [Blk] using hA
 have hU:jC (λb=>b<w2.heap.size) w2.heap.size w2 g2 22 3 (Kn.ul I n.o.length 0 []):=by rw [Kn.ul_zero];exact jC.new hL.lt hL
 have hw:g2<w2.heap.size:=hL.lt;have Gn:w.heap.size+1<g2:=by omega
 rw [hg2];obtain ⟨Hi,Gh,HU⟩:=zd3 hS gT hU;clear hS gT hU;clear hA hown hgrow hh Gj hL gp;obtain ⟨B,hB⟩:∃B,w2.heap.size=B:=⟨_,rfl⟩
 rw [hB] at HU hw;go_wp2_with fail;clear x1;have gt:¬g2=w.heap.size+1:=by omega
 have gH:¬w.heap.size+1=g2:=by omega
 have gq:¬w.heap.size=g2:=by omega
 have GI:¬g2=w.heap.size:=by omega
 go_loopw [30] (λi wr=>∃k:Nat,k<=n.o.length/\i=nQ iQ k/\Blk wr w.heap.size 26 #[sQ A n.inn.length c,sQ N n.o.length d]/\Below w.heap.size w wr/\B<=wr.heap.size/\Blk wr (w.heap.size+1) 3 ((Kn.wl I n.o.length k []).map (Za1 iQ)).toArray/\jC (λb=>b<B) B wr g2 22 3 (Kn.ul I n.o.length k [])) (λi _=>n.o.length-(intOf i).toNat)
 case atStart=>exact ⟨0,Zt _,rfl,Hi.out,gn,by omega,Gh.out,HU.out⟩
 case round=>
  obtain ⟨k,hk,rfl,hf,HH,g5,H8,hU⟩:=hrel;clear Hi Gh HU gn hg2 hB
  by_cases HG:k<n.o.length
  ·
   obtain ⟨b,off,S,sc,J,ic,Q,qc,rfl,gD,-,hI,-⟩:=HR.out.2.at_ HG;have Hx:=gK.out _ (gmZ HG);have Gk:=gM.out _ (gmZ HG);have HE:=gA.out k HG;have G4:=Hx.2.2.1;generalize n.o[k]=v at *;obtain ⟨⟨y0,y1,y2,y3,y4,y5,y6,y7,y8,y9⟩,-⟩:=gD.below HH;have Gi:=HH.alloc HH.size (.cells #[nQ iQ v.op.kind,nQ iQ v.op.k,nQ iQ v.op.width,nQ iQ v.op.step,nQ iQ v.op.side,nQ iQ v.op.frm,nQ iQ v.op.to,sQ S v.op.s.length sc,sQ J v.ins.length ic,sQ Q v.p.length qc] 77);have Hj:=hf.alloc (.cells #[nQ iQ v.op.kind,nQ iQ v.op.k,nQ iQ v.op.width,nQ iQ v.op.step,nQ iQ v.op.side,nQ iQ v.op.frm,nQ iQ v.op.to,sQ S v.op.s.length sc,sQ J v.ins.length ic,sQ Q v.p.length qc] 77);have H3:=H8.alloc (.cells #[nQ iQ v.op.kind,nQ iQ v.op.k,nQ iQ v.op.width,nQ iQ v.op.step,nQ iQ v.op.side,nQ iQ v.op.frm,nQ iQ v.op.to,sQ S v.op.s.length sc,sQ J v.ins.length ic,sQ Q v.p.length qc] 77);have gW:=hU.agree (w':=wr.alloc (.cells #[nQ iQ v.op.kind,nQ iQ v.op.k,nQ iQ v.op.width,nQ iQ v.op.step,nQ iQ v.op.side,nQ iQ v.op.frm,nQ iQ v.op.to,sQ S v.op.s.length sc,sQ J v.ins.length ic,sQ Q v.p.length qc] 77)) (λb hb _=>Below.heap_alloc wr _ b hb);obtain ⟨Gp,GF,GM,hh,GB,HU,Ht,H7,gZ⟩:=zd9 gD Hx Gk hf H8 hU Hj H3 gW;have GE:=zI HE;clear gD Hx Gk hf H8 hU Hj H3 gW HE;go_wp2_with fail;clear y0 y1 y2 y3 y4 y5 y6 y7 y8 y9
   go_loopw [38] (λi wx=>∃m:Nat,m<=v.ins.length/\i=nQ iQ m/\Blk wx w.heap.size 26 #[sQ A n.inn.length c,sQ (some ⟨b,off,none⟩) n.o.length d]/\Below w.heap.size w wx/\B<=wx.heap.size/\Blk wx (w.heap.size+1) 3 ((Kn.wl I n.o.length k (v.ins.take m)).map (Za1 iQ)).toArray/\jC (λb=>b<B) B wx g2 22 3 (Kn.ul I n.o.length k (v.ins.take m))) (λi _=>v.ins.length-(intOf i).toNat)
   case atStart=>exact ⟨0,Zt _,rfl,Ht.out,Gi,by simp;omega,by rw [List.take_zero];exact H7.out,by rw [List.take_zero];exact gZ.out⟩
   case round=>
    obtain ⟨m,hm,rfl,hf,HF,gP,h4,h5⟩:=hrel;clear hh GB HU Ht H7 gZ HH Gi g5
    by_cases h8:m<v.ins.length
    ·obtain ⟨b1,off1,rfl,-,hc⟩:=(Gp.out.below HF).2.2.1 m h8
     rw [qa2 h8] at hc;have hr:=GM.out _ (gmZ h8);have hX:=Zb h8
     by_cases hz:v.ins[m]=0
     ·rw [hz] at hc hX
      have HW:=zI (show Kn.wl I n.o.length k (v.ins.take (m+1))=Kn.wl I n.o.length k (v.ins.take m) by rw [hX,Kn.wl_skip]);have HV:=zI (show Kn.ul I n.o.length k (v.ins.take (m+1))=Kn.ul I n.o.length k (v.ins.take m) by rw [hX,Kn.ul_skip]);obtain ⟨H2,ge,hh⟩:=zd3 h4 h5 hf;clear h4 h5 hf;clear hz hX hr;go_wp2_with fail;go_roundw
      case rel=>exact ⟨m+1,by omega,by go_num,hh.out,HF,gP,by rw [HW.out];exact H2.out,by rw [HV.out];exact ge.out⟩
      case measure=>simp [intOf];omega
     ·have HW:=zI (show Kn.wl I n.o.length k (v.ins.take (m+1))=_ by rw [hX,Kn.wl_in _ _ _ _ hz])
      have h9:=Kn.ul_in I n.o.length k (v.ins.take m) hz hr.1;rw [←hX] at h9;obtain ⟨u,hu⟩:∃u:Nat,v.ins[m]=u:=⟨v.ins[m].toNat,by omega⟩
      have GV:((u:Int) != 0)=true:=by rw [←hu];simp [hz]
      rw [hu] at hc hr h9;rw [show ((u:Int)).toNat=u by omega] at h9;have g6:u<(Kn.ul I n.o.length k (v.ins.take m)).length:=by rw [Kn.vJ];omega
      have gj:=Kn.vX I n.o.length k (v.ins.take m) g6;rw [←gj] at h9;have HV:=zI h9;have Go:(Kn.ul I n.o.length k (v.ins.take m))[u].length<=(k+1)*1048576:=by rw [gj];exact Kn.uI hK.out k soZ _
      have Ge:(k+1)*1048576<=536870912:=by
       have:(k+1)*1048576<=512*1048576:=mlZ _ oZ;omega
      have Gv:=Kn.wMid_le hK.out k (l:=v.ins.take m) soZ ((k:Int)+1);obtain ⟨q,hq⟩:∃q,Kn.jD I k (v.ins.take m) ((k:Int)+1)=q:=⟨_,rfl⟩
      rw [hq] at Gv HW
      have G3:wr.cell? ⟨w.heap.size+1,k+1,none⟩=some (nQ iQ (q:Int)):=by
       have e:=Kn.uF I n.o.length k (v.ins.take m) (u:=k+1) oZ;rw [h4.cell];simp only [Zk,List.getElem?_map,e];rw [show ((k+1:Nat):Int)=(k:Int)+1 by omega,hq]
       rfl
      have gf:=h4.frozen (k+1);obtain ⟨vv,GN,gw,gh⟩:=h5.at3 g6 (λb hb=>by omega);have gX:wr.heap.size<=((wr.setCell ⟨w.heap.size+1,k+1,none⟩ (nQ iQ ((q:Int)+1))).alloc (.cells #[nQ iQ ((k:Int)+1)] 3)).heap.size:=by simp
      obtain ⟨ho,gh⟩:=gh ((wr.setCell ⟨w.heap.size+1,k+1,none⟩ (nQ iQ ((q:Int)+1))).alloc (.cells #[nQ iQ ((k:Int)+1)] 3)) (λb hb gn=>by
       rw [Below.heap_alloc _ _ b (by simpa using hb)];exact Below.heap_setCell wr _ _ b (by rcases gn with h|h<;>simp<;>omega)) gX
      generalize (Kn.ul I n.o.length k (v.ins.take m))[u]=uu at *;obtain ⟨Av,cv,rfl⟩:=qa6 ho;have gb:∀b,(Zb1 Av uu.length cv).ownBlock=some b->B<=b:=λb hb=>by have:=gw b hb;omega
      have w1:iQ.wrap ((k:Int)+1)=(k:Int)+1:=Zc1 _ oZ;have w2:iQ.wrap ((q:Int)+1)=(q:Int)+1:=Zc1 _ oZ;have t1:((k:Int)+1).toNat=k+1:=by omega
      have l1:((k:Int)+1)<((n.o.length+1:Nat):Int):=by omega
      have l2:(u:Int)<((n.o.length+1:Nat):Int):=by omega
      have u0:(0:Int)<=u:=by omega
      obtain ⟨H2,ge,hh,GD,GT,G2,GU,Hq,gC⟩:=zd9 h4 h5 hf gh gj h9 gw hq gb;clear h4 h5 hf gh gj h9 gw hq gb;clear hz hX hu;go_wp2_with (at_builtin;refine wpList_append_own_at _ rfl _ _ 22 rfl B 3 i0 (nQ iQ 0) 1 8 underlying22 hi HJ HZ H9 rfl dZ _ _ _ rfl ho ⟨wr.heap.size,0,none⟩ 1 1 [nQ iQ ((k:Int)+1)] rfl rfl ?c1 (by intro u hu;simp at hu;subst hu;rfl) (by unfold maxLen;omega) oZ soZ ?_)
      case c1=>
       intro j u hj
       match j,hj with
       | 0,hj=>
        simp at hj;subst hj;have e:=(Blk.new (wr.setCell ⟨w.heap.size+1,k+1,none⟩ (nQ iQ ((q:Int)+1))) 3 #[nQ iQ ((k:Int)+1)]).cell 0;simpa [Addr.add] using e
      intro v' w3 ht hgrow _ gm;obtain ⟨GZ,gk,g9⟩:=GD.out v' w3 _ ht hgrow (by simpa using gm);have gi:=gC.out;have H6:Below w.heap.size w w3:=((HF.setCell (p:=⟨w.heap.size+1,k+1,none⟩) sZ (nQ iQ ((q:Int)+1))).alloc (by simpa using HF.size) (.cells #[nQ iQ ((k:Int)+1)] 3)).grown hgrow (by simp;have:=HF.size;omega) (λb hb=>by have:=gi b hb;omega);have GS:B<=w3.heap.size:=Zv (Zv gP gX) hgrow.size;have hM:=((hh.out.far (p:=⟨w.heap.size+1,k+1,none⟩) sZ (nQ iQ ((q:Int)+1))).alloc (.cells #[nQ iQ ((k:Int)+1)] 3)).grown hgrow (λe=>by have:=gi _ e.symm;omega);have hM:=hM.far (p:=⟨g2,u,none⟩) gq v';have gl:=((H2.out.aO (k+1) (nQ iQ ((q:Int)+1))).alloc (.cells #[nQ iQ ((k:Int)+1)] 3)).grown hgrow (λe=>by have:=gi _ e.symm;omega);have gl:=gl.far (p:=⟨g2,u,none⟩) gH v';have gx:=H6.setCell (p:=⟨g2,u,none⟩) soZ v';have HK:=zI (show Blk (w3.setCell ⟨g2,u,none⟩ v') (w.heap.size+1) 3 (((Kn.wl I n.o.length k (v.ins.take m)).set (k+1) ((q:Int)+1)).map (Za1 iQ)).toArray by simpa [List.map_set] using gl);obtain ⟨GG,H0⟩:=zd2 g9 hM;clear g9 hM;clear gl gi hgrow gm H6 GN;obtain ⟨A9,c9,rfl⟩:=qa6 ht;clear ht;go_wp2_with fail;go_roundw
      case rel=>exact ⟨m+1,by omega,by go_num,H0.out,gx,by simpa using GS,by rw [HW.out];exact HK.out,by rw [HV.out];exact GG.out⟩
      case measure=>simp [intOf];omega
    ·obtain rfl:m=v.ins.length:=by omega
     rw [Zg] at h4 h5;have HE:=GE.out;rw [←HE,Kn.wl_next] at h4;rw [←HE,Kn.ul_next] at h5;obtain ⟨H2,ge,hh⟩:=zd3 h4 h5 hf;clear h4 h5 hf;clear HE;go_wp2_with fail;go_roundw
     case rel=>exact ⟨k+1,by omega,by go_num,hh.out,HF,gP,H2.out,ge.out⟩
     case measure=>simp [intOf];omega
  ·obtain rfl:k=n.o.length:=by omega
   obtain ⟨C,hC⟩:∃C,wr.heap.size=C:=⟨_,rfl⟩
   have hinv:oD 26 #[sQ A n.inn.length c,sQ N n.o.length d] B C g2 22 3 (Kn.wl I n.o.length n.o.length []) (Kn.ul I n.o.length n.o.length []) w wr:=⟨hf,HH,by omega,H8,by rw [←hC];exact hU.shut⟩
   have h6:B<=C:=by omega
   have Hb:w.heap.size+1<B:=by omega
   have hg:=zI hinv;clear hinv;clear H8 hU hf HH g5;go_wp2_with fail;clear hC
   go_loopw [9,10] (λr i wx=>∃k:Nat,k<=n.o.length/\i=nQ iQ ((k:Int)+1)/\oD 26 #[sQ A n.inn.length c,sQ N n.o.length d] B C g2 22 3 (Kn.wl I n.o.length n.o.length []) (Kn.ul I n.o.length n.o.length []) w wx/\wx.ownsRow C 3 1 r (Kn.rk I k).length ((Kn.rk I k).map (Za1 iQ))) (λ_ i _=>n.o.length+1-(intOf i).toNat)
   case atStart=>exact ⟨0,Zt _,rfl,hg.out,by simpa [Kn.rk,Kn.ids] using World.ownsRow_nil wr C 3 1⟩
   case round=>
    obtain ⟨k,hk,rfl,hinv,hown⟩:=hrel;clear hg;have hx:wr.cell? ⟨w.heap.size,1,none⟩=some (sQ N n.o.length d):=by rw [hinv.1.cell];rfl
    obtain ⟨Ar,cr,rfl⟩:=qa6 hown
    by_cases HG:k<n.o.length
    ·
     have GX:wr.cell? ⟨w.heap.size+1,k+1,none⟩=some (nQ iQ (Kn.wt I [] ((k:Int)+1):Nat)):=by
      have e:=Kn.uF I n.o.length n.o.length [] (u:=k+1) oZ;rw [hinv.2.2.2.1.cell];simp only [Zk,List.getElem?_map,e];rw [show ((k+1:Nat):Int)=(k:Int)+1 by omega,Kn.sN oZ oZ]
      rfl
     have hs:=Kn.rX I k;have hl:=Kn.tO I k;generalize Kn.wt I [] ((k:Int)+1)=q at *;have t1:((k:Int)+1).toNat=k+1:=by omega
     have l0:(k:Int)+1<=(n.o.length:Int):=by omega
     have l1:((k:Int)+1)<((n.o.length+1:Nat):Int):=by omega
     by_cases hq:q=0
     ·subst hq
      rw [ipZ rfl] at hs;have Hm:=hinv.fr ((Fr.refl (λ_=>False) wr).alloc (.cells #[nQ iQ ((k:Int)+1)] 3)) (λb hb=>hb.elim) Hb h6 hw;have ho:=qa8 hown (.cells #[nQ iQ ((k:Int)+1)] 3);have gg:∀b,(Zb1 Ar (Kn.rk I k).length cr).ownBlock=some b->C<=b:=λb hb=>(hown.lt b hb).1
      obtain ⟨hg,Hs,Hg⟩:=zd3 hinv hs Hm;clear hinv hs Hm;clear hown;go_wp2_with (at_builtin;refine wpList_append_own_at _ rfl _ _ 22 rfl C 3 i0 (nQ iQ 0) 1 8 underlying22 hi HJ HZ H9 rfl dZ _ _ _ rfl ho ⟨wr.heap.size,0,none⟩ 1 1 [nQ iQ ((k:Int)+1)] rfl rfl ?c1 (by intro u hu;simp at hu;subst hu;rfl) (by unfold maxLen;omega) oZ ?c2 ?_)
      case c1=>exact qap wr _ _
      case c2=>exact Hg.out.2.2.1
      intro v' w3 ht hgrow _ gm;have GP:=zI (Hg.out.fr (Fr.mI (S:=λb=>C<=b) hgrow (λb hb _=>gg b hb)) (λb hb=>hb) Hb h6 hw);have GR:=zI (show w3.ownsRow C 3 1 v' (Kn.rk I (k+1)).length ((Kn.rk I (k+1)).map (Za1 iQ)) by rw [Hs.out];simpa using ht);clear ht hgrow gm;go_wp2_with fail;go_roundw
      case rel=>exact ⟨k+1,by omega,by go_num,GP.out,GR.out⟩
      case measure=>simp [intOf];omega
     ·have GJ:((q:Int)==0)=false:=by simp;omega
      rw [inZ hq] at hs;obtain ⟨hg,Hs,Ha⟩:=zd3 hinv hs hown;clear hinv hs hown;go_wp2_with fail;go_roundw
      case rel=>exact ⟨k+1,by omega,by go_num,hg.out,by rw [Hs.out];exact Ha.out⟩
      case measure=>simp [intOf];omega
    ·obtain rfl:k=n.o.length:=by omega
     rw [Kn.rU] at hown;have l0:¬((n.o.length:Int)+1<=(n.o.length:Int)):=by omega
     rw [Kn.wm_start] at hinv;have HY:(Kn.rk I n.o.length).length=(Kn.ready I n.o.length []).length:=by rw [Kn.rU]
     rw [HY];have gg:∀b,(Zb1 Ar (Kn.ready I n.o.length []).length cr).ownBlock=some b->C<=b/\b<wr.heap.size:=λb hb=>hown.lt b hb
     obtain ⟨hg,Ha,g7⟩:=zd3 hinv hown gg;clear hinv hown gg;go_wp2_with (at_make;refine wpList_make_own _ rfl _ _ 22 rfl C 3 i0 (nQ iQ 0) 1 underlying22 hi HJ HZ _ _ _ n.o.length rfl (by first|rfl|simp|(go_simp;rfl)) (by first|rfl|simp|(go_simp;rfl)) ?b2 ?b3 ?b4 ?_)
     case b2=>first|omega|(rw [H9];omega)
     case b3=>unfold maxLen;omega
     case b4=>exact hg.out.2.2.1
     intro w4 h0 hgrow;have Gd:=zI (hg.out.fr (Fr.mI (S:=λb=>C<=b) hgrow (λb hb _=>by cases hb)) (λb hb=>hb) Hb h6 hw);have Gf:=zI (show Two C 3 w4 (sQ Ar (Kn.ready I n.o.length []).length cr) (sQ (some ⟨wr.heap.size,0,none⟩) 0 n.o.length) (Kn.ready I n.o.length []) [] from ⟨qdG Ha.out hgrow (λb _ h=>by cases h),h0,λb hb h=>by have:=(g7.out b hb).2;simp [Value.ownBlock] at h;omega⟩);clear hgrow;have HX:=zI h0;clear h0;go_wp2_with fail;clear hx l0 Ha hg g7;generalize hro:Zb1 Ar (Kn.ready I n.o.length []).length cr=r0 at *;generalize hoo:Zb1 (some ⟨wr.heap.size,0,none⟩) 0 n.o.length=o0 at *;clear hro hoo HY hk HG x1 e1 g1 GL
     go_loopw [9,11] (λr o wx=>∃k:Nat,(Kn.go I n.o.length k).length=k/\oD 26 #[sQ A n.inn.length c,sQ N n.o.length d] B C g2 22 3 (Kn.wm I n.o.length (Kn.go I n.o.length k) []) (Kn.ul I n.o.length n.o.length []) w wx/\Two C 3 wx r o (Kn.ready I n.o.length (Kn.go I n.o.length k)) (Kn.go I n.o.length k)) (λ_ o _=>n.o.length+1-wL o)
     case atStart=>exact ⟨0,rfl,Gd.out,Gf.out⟩
     case round=>
      obtain ⟨k,HY,hinv,he⟩:=hrel;clear Gd Gf HX;obtain ⟨Ar,cr,rfl⟩:=qa6 he.1;obtain ⟨Ao,co,rfl⟩:=qa6 he.2.1;have Hf:=Kn.go_ok I n.o.length k;have hE:=@Kn.uK I n.o.length k;have hy:=@Kn.order_of_stuck I n.o.length k HY;generalize Kn.go I n.o.length k=out at *;have hQ:=@Kn.mid_start I n.o.length out;have gy:=Kn.ready_len I n.o.length out;have G0:=Hf.len;subst HY;cases hrd:Kn.ready I n.o.length out with
      | nil=>
       rw [hrd] at he;have g0:=hy hrd;rw [←HL.out] at g0;subst g0;clear hE hQ;obtain ⟨hg,hv,gc,gv,Gl⟩:=zd5 hinv he Hf hy hrd;clear hinv he Hf hy hrd;go_wp2_with fail;go_ret;obtain ⟨q1,q2,q3⟩:=qak hv.out.2.1;exact ⟨Ao,co,rfl,q1,q2,q3,hg.out.2.1,λa ha=>by subst ha;have h1:=(hv.out.2.1.lt a.block rfl).1;omega⟩
      | cons id rest=>
       have hid:id∈Kn.ready I n.o.length out:=by rw [hrd];simp
       have Gy:=(Kn.mem_ready.1 hid).1;obtain ⟨j,rfl⟩:∃j:Nat,id=(j:Int):=⟨id.toNat,by omega⟩
       replace hE:=hE hrd;replace hQ:=hQ hrd;rw [hrd] at he gy;obtain ⟨g4,-⟩:=qak he.1;obtain ⟨b1,off1,rfl,-,Hy⟩:=g4 0 sZ;rw [Zx] at Hy;replace Hy:wr.cell? ⟨b1,off1,none⟩=some (nQ iQ (j:Int)):=Hy;have hz:0<rest.length+1:=by omega
       clear hy g4;have Gs:rest.length+1<=512:=by simp at gy;omega
       clear gy hz;rw [List.length_cons] at he;have hZ:=zI hid;clear hid;obtain ⟨hg,hv,gc,HS,HP,Gl⟩:=zd6 hinv he Hf hQ hE hrd;clear hinv he Hf hQ hE hrd;go_wp2_with fail;refine (qgu C _ _ rest _ soZ hv.out.1).mono ?_;rintro e w5 ⟨v5,rfl,gr,gN,H1⟩;have Hc:=hg.out.fr gN (λb hb=>(hv.out.1.lt b hb).1) Hb h6 hw;have Hn:=hv.out.left gN gr H1;have Ho:=Hc.fr ((Fr.refl (λ_=>False) w5).alloc (.cells #[nQ iQ (j:Int)] 3)) (λb hb=>hb.elim) Hb h6 hw;have Hh:=Hn.new (.cells #[nQ iQ (j:Int)] 3);obtain ⟨A5,c5,rfl⟩:=qa6 gr;clear hg hv gN H1 Hc Hn gr Hy;obtain ⟨hW,hJ⟩:=zd2 Ho Hh;clear Ho Hh;go_wp2_with (at_builtin;refine wpList_append_own_at _ rfl _ _ 22 rfl C 3 i0 (nQ iQ 0) 1 8 underlying22 hi HJ HZ H9 rfl dZ _ _ _ rfl hJ.out.2.1 ⟨w5.heap.size,0,none⟩ 1 1 [nQ iQ (j:Int)] rfl rfl ?c1 (by intro u hu;simp at hu;subst hu;rfl) (by unfold maxLen;omega) oZ ?c2 ?_)
       case c1=>exact qap w5 _ _
       case c2=>exact hW.out.2.2.1
       intro v7 w7 Hk h3 _ HN;have HC:Fr (λb=>(Zb1 Ao out.length co).ownBlock=some b) _ w7:=Fr.mI h3 (λb hb _=>hb);have hP:=hW.out.fr HC (λb hb=>(hJ.out.2.1.lt b hb).1) Hb h6 hw;have hH:=hJ.out.right (zo':=out++[(j:Int)]) HC (by simpa using Hk) (by simpa using HN);clear hW hJ Hk h3 HN HC;have gU:j<(Kn.ul I n.o.length n.o.length []).length:=by rw [Kn.vJ];omega
       obtain ⟨Au,cu,gu,hN,g3⟩:=hP.read gU;have gE:(Kn.ul I n.o.length n.o.length [])[j]=Kn.users I n.o.length (j:Int):=by rw [Kn.vX,Kn.sK oZ]
       rw [gE] at gu hN
       have h9:(Kn.users I n.o.length (j:Int)).length<=537919488:=by
        have h1:=Kn.uI hK.out n.o.length (l:=[]) sZ (j:Int);rw [Kn.sK oZ] at h1;have:(n.o.length+1)*1048576<=513*1048576:=mlZ _ oZ;omega
       have gS:=@Kn.mid_end_ready I n.o.length out (j:Int) hZ.out;have gQ:=@Kn.wm_next I n.o.length out (j:Int) hZ.out;have gF:=λa b u (h:Kn.users I n.o.length (j:Int)=a++u::b)=>Kn.rJ gc.out hZ.out h
       have gI:=λa b u (h:Kn.users I n.o.length (j:Int)=a++u::b)=>Kn.mid_stay gc.out hZ.out h
       have gL:=λa b u (h:Kn.users I n.o.length (j:Int)=a++u::b)=>Kn.mid_put' gc.out hZ.out h
       obtain ⟨us,husd⟩:∃us,Kn.users I n.o.length (j:Int)=us:=⟨_,rfl⟩
       rw [husd] at gu hN h9 gS gQ gF gI gL;obtain ⟨A7,c7,rfl⟩:=qa6 hH.2.1;generalize hro:Zb1 A5 rest.length c5=r5 at *;clear hro;rw [←HS.out] at hH;have j0:(0:Int)<=(j:Int):=by omega
       have j1:(j:Int)<((n.o.length+1:Nat):Int):=by omega
       obtain ⟨Hr,Hd,gJ,Gc,Gz,Gq,GA,GH,GK⟩:=zd9 hP hH hN g3 gE husd gS gQ gF;obtain ⟨GO,GC⟩:=zd2 gI gL;clear hP hH hN g3 gE husd gS gQ gF gI gL;clear Gl HS;go_wp2_with fail;clear Gz;clear gu j0 j1 gU
       go_loopw [9,101] (λr i wx=>∃m:Nat,m<=us.length/\i=nQ iQ m/\oD 26 #[sQ A n.inn.length c,sQ N n.o.length d] B C g2 22 3 (Kn.wm I n.o.length out (us.take m)) (Kn.ul I n.o.length n.o.length []) w wx/\Two C 3 wx r (sQ A7 (out++[(j:Int)]).length c7) (Kn.aY I n.o.length out (j:Int) (us.take m)) (out++[(j:Int)])/\Ints iQ wx Au us) (λ_ i _=>us.length-(intOf i).toNat)
       case atStart=>exact ⟨0,Zt _,rfl,Hr.out,Hd.out,gJ.out⟩
       case round=>
        obtain ⟨m,hm,rfl,hinv,he,hN⟩:=hrel;clear Hr Hd gJ
        by_cases h8:m<us.length
        ·have hY:us=us.take m++us[m]::us.drop (m+1):=by rw [←Zd h8,Zn]
         have hX:=Zb h8;obtain ⟨b1,off1,rfl,-,Hy⟩:=hN m h8;rw [qa2 h8] at Hy;obtain ⟨p1,p2,p3,p4,p5⟩:=GK.out _ _ _ hY;have Hz:=GO.out _ _ _ hY;have HA:=GC.out _ _ _ hY;have HI:=@Kn.wm_in I n.o.length out (us.take m) us[m] p3;rw [←hX] at Hz HA HI p5;obtain ⟨u,hu⟩:∃u:Nat,us[m]=(u:Int):=⟨us[m].toNat,by omega⟩
         rw [hu] at Hy p1 p2 p3 p4 p5 Hz HA HI;rw [tnZ] at HI;have GQ:Kn.mid I out (us.take m) (u:Int)<=1048576:=Zv (Kn.mid_le _ _ _ _) (hK.out _)
         have g8:wr.cell? ⟨w.heap.size+1,u,none⟩=some (nQ iQ ((Kn.mid I out (us.take m) (u:Int):Nat):Int)):=by
          rw [hinv.2.2.2.1.cell];simp only [Zk,List.getElem?_map];rw [Kn.wD _ _ _ _ oZ oZ]
          rfl
         have G1:=hinv.2.2.2.1.frozen u;generalize hq2:Kn.mid I out (us.take (m+1)) (u:Int)=q at *;rw [←p5] at g8 GQ;have hp:=hinv.wait u (q:Int) Hb h6 gt;rw [←HI] at hp;have gf:Fr (λb=>b=w.heap.size+1) wr (wr.setCell ⟨w.heap.size+1,u,none⟩ (nQ iQ (q:Int))):=(Fr.refl (λb=>b=w.heap.size+1) wr).setCell (p:=⟨w.heap.size+1,u,none⟩) (λ_=>rfl) (nQ iQ (q:Int));have hn:=he.fr gf (λb hb=>by omega);have HO:=hN.mK (p:=⟨w.heap.size+1,u,none⟩) (λa ha=>by have:=Gc.out a ha;simp;omega) (nQ iQ (q:Int));have u0:(0:Int)<=(u:Int):=by omega
         have u1:(u:Int)<((n.o.length+1:Nat):Int):=by omega
         have gB:((q+1:Nat):Int)=(q:Int)+1:=by omega
         rw [gB] at g8;have GW:(q:Int)+1-1=(q:Int):=by omega
         have Gx:=Kn.midReady_len I n.o.length out (j:Int) (us.take m);have Hw:=Kn.kC I n.o.length out (j:Int) (us.take m)
         by_cases hq:q=0
         ·subst hq
          replace HA:=HA rfl;generalize Kn.aY I n.o.length out (j:Int) (us.take m)=mr at *;have H4:mr.Pairwise (·<=·):=Hw.imp λh=>Int.le_of_lt h
          clear Hz HI hinv he hN hX hY p5 hq2 gB Hw gf;rw [show ((0:Nat):Int)=0 from rfl] at hp hn HO;obtain ⟨hO,hD,gG,Hu,Gm,gR⟩:=zd6 hp hn HO hu HA H4;clear hp hn HO hu HA H4;go_wp2_with fail;refine (qgv C _ (u:Int) mr _ oZ gR.out hD.out.1).mono ?_;rintro e w8 ⟨⟨bb,rfl⟩,qq,rfl⟩;go_wp2_with fail;have gY:mr.countP (λx=>decide (x<(u:Int)))<=mr.length:=List.countP_le_length;have gk:=((Fr.refl (λ_=>False) (wr.setCell ⟨w.heap.size+1,u,none⟩ (nQ iQ 0))).drewN qq).alloc (.cells #[nQ iQ (u:Int)] 3);have hT:=hO.out.fr gk (λb hb=>hb.elim) Hb h6 hw;have hF:=hD.out.fr gk (λb hb=>hb.elim);have Ga:=(gG.out.drewN qq).alloc (.cells #[nQ iQ (u:Int)] 3)
          have H6:Blk (((wr.setCell ⟨w.heap.size+1,u,none⟩ (nQ iQ 0)).drewN qq).alloc (.cells #[nQ iQ (u:Int)] 3)) wr.heap.size 3 #[nQ iQ (u:Int)]:=by
           have:=Blk.new ((wr.setCell ⟨w.heap.size+1,u,none⟩ (nQ iQ 0)).drewN qq) 3 #[nQ iQ (u:Int)];simpa using this
          have HT:u9.ownBlock≠some wr.heap.size:=λe=>by have:=(hD.out.1.lt _ e).2;simp at this
          refine (qgt C u9 mr (u:Int) _ wr.heap.size _ gY oZ hT.2.2.1 hF.1 H6 HT).mono ?_;rintro e w10 ⟨v10,rfl,HQ,h7,Hp⟩;have hV:=hT.fr h7 (λb hb=>(hF.1.lt b hb).1) Hb h6 hw;have hG:=hF.left h7 HQ Hp;have H5:=h7.ints Ga (λa ha hb=>by have h1:=(hF.1.lt _ hb).1;have h2:=(Gc.out a ha).2;omega);rw [←Gm.out] at hG;clear hT hF Ga H6 gk HQ h7 Hp gY HT;obtain ⟨HD,HB,gO⟩:=zd3 hV hG H5;clear hV hG H5;go_wp2_with fail;go_roundw
          case rel=>exact ⟨m+1,by omega,by go_num,HD.out,HB.out,gO.out⟩
          case measure=>simp [intOf];omega
         ·have GJ:((q:Int)==0)=false:=by simp;omega
          replace Hz:=Hz hq;rw [←Hz] at hn;clear Hz HA HI hinv he hN hX hY p5 hq2 gB Hw gf;obtain ⟨hO,hD,gG,Hu⟩:=zd4 hp hn HO hu;clear hp hn HO hu;go_wp2_with fail;go_roundw
          case rel=>exact ⟨m+1,by omega,by go_num,hO.out,hD.out,gG.out⟩
          case measure=>simp [intOf];omega
        ·obtain rfl:m=us.length:=by omega
         rw [Zg] at hinv he;rw [GH.out] at hinv;rw [GA.out,show (out++[(j:Int)]).length=out.length+1 by simp] at he;have gd:=HP.out;rw [←gd] at hinv he;have Gb:(Kn.go I n.o.length (out.length+1)).length=out.length+1:=by rw [gd];simp
         obtain ⟨hg,hv,gJ,GY,Gw⟩:=zd5 hinv he hN gd Gb;clear hinv he hN gd Gb;go_wp2_with fail;exact ⟨⟨out.length+1,Gw.out,hg.out,hv.out⟩,by simp only [wL];omega⟩
def vE (n:aA) (w:Zp1) (e:Ending) (w':Zp1):Prop:=
 Below w.heap.size w w'/\((Nt.check n=0/\∃O oc g,e=.returned (.tuple #[.agg #[sQ O n.o.length oc,sQ (some ⟨g,0,none⟩) (n.o.length+1) (n.o.length+1),nQ iQ (Nt.aH n.o)],nQ iQ 0])/\
   Ints iQ w' O (Nt.sO n.o)/\n.o.length<=oc/\oc<=9223372036854775807/\w.heap.size<=g/\aX w' g 23 (Nt.shapes n))∨
  (Nt.check n≠0/\e=.returned (.tuple #[.agg #[sQ none 0 0,sQ none 0 0,nQ iQ 0],nQ iQ (Nt.check n)])))
def tK (n:aA) (w:Zp1) (e:Ending) (w':Zp1):Prop:=
 Below w.heap.size w w'/\((Nt.check n=0/\∃O oc g,e=.returned (.tuple #[.agg #[sQ O n.o.length oc,sQ (some ⟨g,0,none⟩) (n.o.length+1) (n.o.length+1),nQ iQ (Nt.aH n.o)],nQ iQ 0])/\
   Ints iQ w' O (Nt.sO n.o)/\n.o.length<=oc/\oc<=9223372036854775807/\w.heap.size<=g/\aX w' g 23 (Nt.shapes n)/\∀a,O=some a->w.heap.size<=a.block)∨
  (Nt.check n≠0/\e=.returned (.tuple #[.agg #[sQ none 0 0,sQ none 0 0,nQ iQ 0],nQ iQ (Nt.check n)])))
theorem tK.p {n:aA} {w:Zp1} {e:Ending} {w':Zp1} (h:tK n w e w'):vE n w e w':=by
 obtain ⟨h1,⟨a,O,oc,g,b,c,d,e,f,k,-⟩|h2⟩:=h
 ·exact ⟨h1,.inl ⟨a,O,oc,g,b,c,d,e,f,k⟩⟩
 ·exact ⟨h1,.inr h2⟩
namespace Nt
theorem jO {n:aA} (h:n.o.length<1∨512<n.o.length):check n=12:=by unfold check;rw [ipZ h]
theorem sG {n:aA} (h:¬(n.o.length<1∨512<n.o.length)) (h2:Sh.right n.inn=false):check n=20:=by unfold check;rw [inZ h,ipZ h2]
theorem jS {n:aA} (h:¬(n.o.length<1∨512<n.o.length)) (h2:Sh.right n.inn=true) (h3:iN n.o.length n.o≠0):check n=iN n.o.length n.o:=by
 unfold check;rw [inZ h,inZ (by simp [h2]),ipZ h3]
theorem qR {n:aA} (h:¬(n.o.length<1∨512<n.o.length)) (h2:Sh.right n.inn=true) (h3:iN n.o.length n.o=0) (h4:(sO n.o).length≠n.o.length):check n=22:=by
 unfold check;rw [inZ h,inZ (by simp [h2]),inZ (by simp [h3]),ipZ h4]
theorem qM {n:aA} (h:¬(n.o.length<1∨512<n.o.length)) (h2:Sh.right n.inn=true) (h3:iN n.o.length n.o=0) (h4:(sO n.o).length=n.o.length) (h5:(lay n.o (start n) (sO n.o)).2≠0):check n=(lay n.o (start n) (sO n.o)).2:=by
 unfold check;rw [inZ h,inZ (by simp [h2]),inZ (by simp [h3]),inZ (by simp [h4]),ipZ h5]
theorem pG {n:aA} (h:¬(n.o.length<1∨512<n.o.length)) (h2:Sh.right n.inn=true) (h3:iN n.o.length n.o=0) (h4:(sO n.o).length=n.o.length) (h5:(lay n.o (start n) (sO n.o)).2=0) (h6:fQ n.o=false):check n=23:=by
 unfold check;rw [inZ h,inZ (by simp [h2]),inZ (by simp [h3]),inZ (by simp [h4]),inZ (by simp [h5]),ipZ h6]
theorem oW {n:aA} (h:¬(n.o.length<1∨512<n.o.length)) (h2:Sh.right n.inn=true) (h3:iN n.o.length n.o=0) (h4:(sO n.o).length=n.o.length) (h5:(lay n.o (start n) (sO n.o)).2=0) (h6:fQ n.o=true):
  check n=if Safe.prod ((shapes n).getD (aH n.o).toNat [])≠1 then 23 else 0:=by
 unfold check;rw [inZ h,inZ (by simp [h2]),inZ (by simp [h3]),inZ (by simp [h4]),inZ (by simp [h5]),inZ (by simp [h6])]
theorem uT {n:Nat} {ns:List aS} {k:Nat} (hk:k<ns.length) (h:∀j (hj:j<ns.length),j<k->Od.right ns[j].op=true/\ns[j].ins.all (λi=>decide (0<=i/\i<=n))=true) (hr:Od.right ns[k].op=false):iN n ns=21:=by
 rw [qbD h,Zd hk,iN,inZ (by simp [hr])]
theorem uR {n:Nat} {ns:List aS} {k:Nat} (hk:k<ns.length) (h:∀j (hj:j<ns.length),j<k->Od.right ns[j].op=true/\ns[j].ins.all (λi=>decide (0<=i/\i<=n))=true) (hr:Od.right ns[k].op=true) {m:Nat} (hm:m<ns[k].ins.length) (hb:¬(0<=ns[k].ins[m]/\ns[k].ins[m]<=n)):iN n ns=11:=by
 rw [qbD h,Zd hk,iN,ipZ hr,inZ];intro ha;have:=List.all_eq_true.1 ha _ (gmZ hm);simp at this;exact hb this
theorem rD {n:Nat} {ns:List aS} (h:∀j (hj:j<ns.length),j<ns.length->Od.right ns[j].op=true/\ns[j].ins.all (λi=>decide (0<=i/\i<=n))=true):iN n ns=0:=by
 rw [qbD h,List.drop_length,iN]
end Nt
def qdJ (n:aA) (k:Nat):Prop:=∀j (hj:j<n.o.length),j<k->Od.right n.o[j].op=true/\n.o[j].ins.all (λi=>decide (0<=i/\i<=n.o.length))=true
theorem qay {B g:Nat} {w w1:Zp1} (h:Below B w w1) (hg:B<=g) (a b c:Value):Below B w (((w1.setCell ⟨g,0,none⟩ a).setCell ⟨g,1,none⟩ b).setCell ⟨g,2,none⟩ c):=
 ((h.setCell (p:=⟨g,0,none⟩) hg a).setCell (p:=⟨g,1,none⟩) hg b).setCell (p:=⟨g,2,none⟩) hg c
theorem qer {g k:Nat} {w:Zp1} (a b c:Value) (h:k≠g):(((w.setCell ⟨g,0,none⟩ a).setCell ⟨g,1,none⟩ b).setCell ⟨g,2,none⟩ c).heap[k]? = w.heap[k]?:=by
 rw [Below.heap_setCell _ ⟨g,2,none⟩ c k h,Below.heap_setCell _ ⟨g,1,none⟩ b k h,Below.heap_setCell _ ⟨g,0,none⟩ a k h]
theorem qes {g:Nat} {t:TypeId} {w:Zp1} {S:Option Addr} {zs:List Int} (hI:Ints iQ w S zs) (hb:Blk w g t #[sQ none 0 0,sQ none 0 0,nQ iQ 0]) (hz:∀z∈zs,z≠0) (a b c:Value):
  Ints iQ (((w.setCell ⟨g,0,none⟩ a).setCell ⟨g,1,none⟩ b).setCell ⟨g,2,none⟩ c) S zs:=λj hj=>by
 obtain ⟨b0,off,e,hl,hc⟩:=hI j hj
 have hd:b0≠g:=λq=>by
  subst q;rw [hb.cell] at hc;have ha:zs.getD j 0≠0:=by rw [qa2 hj];exact hz _ (gmZ hj)
  match h:off+j,hc with
  | 0,hc=>simp at hc
  | 1,hc=>simp at hc
  | 2,hc=>simp at hc;exact ha (by simpa using hc.symm)
  | q+3,hc=>simp at hc
 refine ⟨b0,off,e,by simpa using hl,?_⟩;exact (Zi1 (w:=w) (a:=⟨b0,off+j,none⟩) (qer a b c hd)).trans hc
theorem qfc {g g':Nat} {t t':TypeId} {w:Zp1} {sh:List (List Int)} (h:aX w g' t' sh) (hb:Blk w g t #[sQ none 0 0,sQ none 0 0,nQ iQ 0]) (hg:g'≠g) (hz:∀s∈sh,∀z∈s,z≠0) (a b c:Value):
  aX (((w.setCell ⟨g,0,none⟩ a).setCell ⟨g,1,none⟩ b).setCell ⟨g,2,none⟩ c) g' t' sh:=by
 obtain ⟨vs,hl,hk,hv⟩:=h;refine ⟨vs,hl,(qer a b c hg).trans hk,λj hj=>?_⟩;obtain ⟨S,d,e,hI,h2⟩:=hv j hj;exact ⟨S,d,e,qes hI hb (hz _ (gmZ hj)) a b c,h2⟩
theorem qaH {w:Zp1} {g:Nat} {t:TypeId} (h:Blk w g t #[sQ none 0 0,sQ none 0 0,nQ iQ 0]):
  w.cell? ⟨g,0,none⟩=some (sQ none 0 0)/\w.cell? ⟨g,1,none⟩=some (sQ none 0 0)/\w.cell? ⟨g,2,none⟩=some (nQ iQ 0)/\w.frozen? ⟨g,0,none⟩=false/\w.frozen? ⟨g,1,none⟩=false/\w.frozen? ⟨g,2,none⟩=false:=
 ⟨h.cell 0,h.cell 1,h.cell 2,h.frozen 0,h.frozen 1,h.frozen 2⟩
theorem qet (A N:Option Addr) (c d:Nat) (n:aA) (w:Zp1) (hok:n.ok) (hR:bC w A N n) (hd:n.o.length<=d):
  Calls prog 72 #[.agg #[sQ A n.inn.length c,sQ N n.o.length d]] w (tK n w):=by
 have gY:=hok.2.1;have gO:=hok.1;have hY:=qea w (.cells #[sQ A n.inn.length c,sQ N n.o.length d] 26) (.cells #[sQ none 0 0,sQ none 0 0,nQ iQ 0] 140);have gd:=(Blk.new w 26 #[sQ A n.inn.length c,sQ N n.o.length d]).alloc (.cells #[sQ none 0 0,sQ none 0 0,nQ iQ 0] 140);have HF:=Blk.new (w.alloc (.cells #[sQ A n.inn.length c,sQ N n.o.length d] 26)) 140 #[sQ none 0 0,sQ none 0 0,nQ iQ 0];rw [Zh1] at HF;have HV:=hR.below hY (lrZ _)
 by_cases hH:n.o.length<1∨512<n.o.length
 ·have HC:=zI (Nt.jO hH)
  obtain ⟨HR,Ho,H3⟩:=zd3 hR hok HV;clear hR hok HV;clear gd HF;rcases hH with h|h
  ·have d1:decide ((n.o.length:Int)<1)=true:=by simp;omega
   go_in;go_wp2_with fail;exact Zk1 (v:=.tuple #[.agg #[sQ none 0 0,sQ none 0 0,nQ iQ 0],nQ iQ 12]) (by simp [results,results72,go_sem]) rfl ⟨hY,.inr (by rw [HC.out];exact ⟨by omega,rfl⟩)⟩
  ·have d1:decide ((n.o.length:Int)<1)=false:=by simp;omega
   have d2:decide ((512:Int)<(n.o.length:Int))=true:=by simp;omega
   go_in;go_wp2_with fail;exact Zk1 (v:=.tuple #[.agg #[sQ none 0 0,sQ none 0 0,nQ iQ 0],nQ iQ 12]) (by simp [results,results72,go_sem]) rfl ⟨hY,.inr (by rw [HC.out];exact ⟨by omega,rfl⟩)⟩
 ·have d1:decide ((n.o.length:Int)<1)=false:=by simp;omega
  have d2:decide ((512:Int)<(n.o.length:Int))=false:=by simp;omega
  have gc:n.o.length<=512:=by omega
  have gE:1<=n.o.length:=by omega
  obtain ⟨HR,Ho,H3,gn,gl,hn⟩:=zd6 hR hok HV gd HF hH;clear hR hok HV gd HF hH;go_in;go_wp2_with fail;refine (aV A c n.inn _ oZ H3.out.1).mono ?_;rintro e w1 ⟨rfl,HP⟩;have hN:Below w.heap.size w w1:=hY.trans (HP.mono soZ);have he:=gn.out.below HP soZ;have hS:=gl.out.below HP sZ;obtain ⟨y0,y1,y2,f0,f1,f2⟩:=qaH hS;have x0:w1.cell? ⟨w.heap.size,0,none⟩=some (sQ A n.inn.length c):=by rw [he.cell];rfl
  have x1:w1.cell? ⟨w.heap.size,1,none⟩=some (sQ N n.o.length d):=by rw [he.cell];rfl
  clear gn gl H3 hY HP d1 d2
  by_cases HU:Sh.right n.inn=true
  rotate_left
  ·have H6:Sh.right n.inn=false:=by simpa using HU
   have HC:=zI (Nt.sG hn.out H6);obtain ⟨hq,hX⟩:=zd2 he hS;clear he hS;clear HU;go_wp2_with fail;exact Zk1 (v:=.tuple #[.agg #[sQ none 0 0,sQ none 0 0,nQ iQ 0],nQ iQ 20]) (by simp [results,results72,go_sem,y0,y1,y2]) rfl ⟨qay hN oZ _ _ _,.inr (by rw [HC.out];exact ⟨by omega,rfl⟩)⟩
  ·have hq:=zI he
   have hX:=zI hS;clear he hS;go_wp2_with fail;clear y0 y1 y2 f0 f1 f2 x0 x1;have Ha:=zI HU;clear HU
   go_loopw [34] (λi wr=>∃k:Nat,k<=n.o.length/\i=nQ iQ k/\Blk wr w.heap.size 26 #[sQ A n.inn.length c,sQ N n.o.length d]/\Blk wr (w.heap.size+1) 140 #[sQ none 0 0,sQ none 0 0,nQ iQ 0]/\Below w.heap.size w wr/\qdJ n k) (λi _=>n.o.length-(intOf i).toNat)
   case atStart=>exact ⟨0,Zt _,rfl,hq.out,hX.out,hN,λj hj h=>by omega⟩
   case round=>
    clear hq hX hN;obtain ⟨k,hk,rfl,he,hS,hN,hA⟩:=hrel;have gH:=hS.lt
    by_cases HI:k<n.o.length
    ·obtain ⟨b,off,S,sc,J,ic,Q,qc,rfl,HQ,-,hI,-⟩:=HR.out.2.at_ HI
     have hZ:=Ho.out.2.2 _ (gmZ HI);have Hn:=λh=>Nt.uT (n:=n.o.length) HI hA h
     have Hs:=λh m (hm:m<n.o[k].ins.length) h2=>Nt.uR (n:=n.o.length) HI hA h (m:=m) hm h2
     have h8:Od.right n.o[k].op=true->n.o[k].ins.all (λi=>decide (0<=i/\i<=n.o.length))=true->qdJ n (k+1):=λh1 h2 j hj g0=>by
      by_cases e:j=k
      ·subst e;exact ⟨h1,h2⟩
      ·exact hA j hj oZ
     have gO:=hZ.2.2.1;have gI:=hZ.2.1;generalize n.o[k]=v at *;have gC:=HQ.below hN;obtain ⟨⟨y0,y1,y2,y3,y4,y5,y6,y7,y8,y9⟩,-⟩:=HQ.below hN;have gt:=Blk.new wr 77 (#[nQ iQ v.op.kind,nQ iQ v.op.k,nQ iQ v.op.width,nQ iQ v.op.step,nQ iQ v.op.side,nQ iQ v.op.frm,nQ iQ v.op.to,sQ S v.op.s.length sc,sQ J v.ins.length ic,sQ Q v.p.length qc]);have H7:Below wr.heap.size wr (wr.alloc (.cells #[nQ iQ v.op.kind,nQ iQ v.op.k,nQ iQ v.op.width,nQ iQ v.op.step,nQ iQ v.op.side,nQ iQ v.op.frm,nQ iQ v.op.to,sQ S v.op.s.length sc,sQ J v.ins.length ic,sQ Q v.p.length qc] 77)):=(Ze1 _ _).alloc (lrZ _) _;obtain ⟨hq,hX,gT,gJ,HY,gf,Hw,gk,gq⟩:=zd9 he hS HQ hZ Hn Hs h8 gC gt;have HZ:=zI hA;clear he hS HQ hZ Hn Hs h8 gC gt hA;go_wp2_with fail;refine (qcu v.op S sc _ oZ (gk.out.2.1.below H7 (lrZ _))).mono ?_;rintro e w2 ⟨rfl,Hd⟩;have hh:Below wr.heap.size wr w2:=H7.trans (Hd.mono sZ);have h3:=hN.trans (hh.mono hN.size);have hb:=hq.out.below hh oZ;have hf:=hX.out.below hh gH;have hT:=gq.out.below Hd sZ;obtain ⟨z0,z1,z2,f0,f1,f2⟩:=qaH hf;have z8:w2.cell? ⟨wr.heap.size,8,none⟩=some (sQ J v.ins.length ic):=by rw [hT.cell];rfl
     have x1:w2.cell? ⟨w.heap.size,1,none⟩=some (sQ (some ⟨b,off,none⟩) n.o.length d):=by rw [hb.cell];rfl
     have HK:=gk.out.2.2.1.below hh (lrZ _);clear y0 y1 y2 y3 y4 y5 y6 y7 y8 y9 H7 Hd hq hX gq
     by_cases HH:Od.right v.op=true
     rotate_left
     ·have H4:Od.right v.op=false:=by simpa using HH
      have hc:=HY.out H4;have HC:=zI ((Nt.jS hn.out Ha.out (by rw [hc];omega)).trans hc);obtain ⟨ho,hw,H2,gy⟩:=zd4 hb hf hT HK;clear hb hf hT HK;clear HH hc;go_wp2_with fail;exact Zk1 (v:=.tuple #[.agg #[sQ none 0 0,sQ none 0 0,nQ iQ 0],nQ iQ 21]) (by simp [results,results72,go_sem,z0,z1,z2]) rfl ⟨qay h3 oZ _ _ _,.inr (by rw [HC.out];exact ⟨by omega,rfl⟩)⟩
     ·have gB:=zI HH
      obtain ⟨ho,hw,H2,gy⟩:=zd4 hb hf hT HK;clear hb hf hT HK;go_wp2_with fail;clear HH
      go_loop [46] (λi=>∃m:Nat,m<=v.ins.length/\i=nQ iQ m/\∀j (hj:j<v.ins.length),j<m->0<=v.ins[j]/\v.ins[j]<=n.o.length) (λi=>v.ins.length-(intOf i).toNat)
      case atStart=>exact ⟨0,Zt _,rfl,λj hj h=>by omega⟩
      case round=>
       obtain ⟨m,hm,rfl,hB⟩:=hrel
       by_cases Hr:m<v.ins.length
       ·obtain ⟨b1,off1,rfl,-,hc⟩:=gy.out m Hr
        rw [qa2 Hr] at hc;have gi:=gf.out gB.out m Hr
        have Hv:(0<=v.ins[m]/\v.ins[m]<=n.o.length)->∀j (hj:j<v.ins.length),j<m+1->0<=v.ins[j]/\v.ins[j]<=n.o.length:=λh j hj gV=>by
         by_cases e:j=m
         ·subst e;exact h
         ·exact hB j hj oZ
        generalize v.ins[m]=u at *
        by_cases hu:0<=u/\u<=n.o.length
        ·have HN:=zI (Hv hu)
         have e1:decide (u<0)=false:=by simp;omega
         have e2:decide ((n.o.length:Int)<u)=false:=by simp;omega
         clear hu gi;obtain ⟨gF,Hp⟩:=zd2 Hv hB;clear Hv hB;go_wp2_with fail
         go_round
         case rel=>exact ⟨m+1,by omega,by go_num,HN.out⟩
         case measure=>simp [intOf];omega
        ·have H0:=gi hu
         have HC:=zI ((Nt.jS hn.out Ha.out (by rw [H0];omega)).trans H0);clear H0 gi;obtain ⟨gF,Hp⟩:=zd2 Hv hB;clear Hv hB
         by_cases Hu:u<0
         ·have e1:decide (u<0)=true:=by simpa using Hu
          clear hu;go_wp2_with fail;exact Zk1 (v:=.tuple #[.agg #[sQ none 0 0,sQ none 0 0,nQ iQ 0],nQ iQ 11]) (by simp [results,results72,go_sem,z0,z1,z2]) rfl ⟨qay h3 oZ _ _ _,.inr (by rw [HC.out];exact ⟨by omega,rfl⟩)⟩
         ·have e1:decide (u<0)=false:=by simpa using Hu
          have e2:decide ((n.o.length:Int)<u)=true:=by simp;omega
          clear hu;go_wp2_with fail;exact Zk1 (v:=.tuple #[.agg #[sQ none 0 0,sQ none 0 0,nQ iQ 0],nQ iQ 11]) (by simp [results,results72,go_sem,z0,z1,z2]) rfl ⟨qay h3 oZ _ _ _,.inr (by rw [HC.out];exact ⟨by omega,rfl⟩)⟩
       ·obtain rfl:m=v.ins.length:=by omega
        have HN:=zI (Hw.out gB.out (List.all_eq_true.2 λi hi=>by obtain ⟨j,hj,rfl⟩:=List.getElem_of_mem hi;simpa using hB j hj hj));have Hp:=zI hB;clear hB;go_wp2_with fail;go_roundw
        case rel=>exact ⟨k+1,by omega,by go_num,ho.out,hw.out,h3,HN.out⟩
        case measure=>simp [intOf];omega
    ·obtain rfl:k=n.o.length:=by omega
     have hY:Nt.iN n.o.length n.o=0:=Nt.rD hA;have Hq:∀v∈n.o,∀i∈v.ins,0<=i/\i<=n.o.length:=λv hv=>(Nt.fD hY v hv).2
     have x0:wr.cell? ⟨w.heap.size,0,none⟩=some (sQ A n.inn.length c):=by rw [he.cell];rfl
     have x1:wr.cell? ⟨w.heap.size,1,none⟩=some (sQ N n.o.length d):=by rw [he.cell];rfl
     obtain ⟨HZ,hq,hX,HJ,Hf⟩:=zd5 hA he hS hY Hq;clear hA he hS hY Hq;go_wp2_with fail;refine (qfb A N c d n _ Ho.out gc (HR.out.below hN (lrZ _)) hd Hf.out).mono ?_;rintro e w2 ⟨O,oc,rfl,hO,H9,gb,Hd,Hy⟩;have h9:∀a,O=some a->w.heap.size<=a.block:=λa ha=>Zv (Below.size hN) (Hy a ha)
     clear Hy;have H1:=zI h9;clear h9;have hh:=hN.trans (Hd.mono hN.size);have hb:=hq.out.below Hd hq.out.lt;have hf:=hX.out.below Hd hX.out.lt;have gR:w.heap.size+1<w2.heap.size:=hf.lt;have x0:w2.cell? ⟨w.heap.size,0,none⟩=some (sQ A n.inn.length c):=by rw [hb.cell];rfl
     have x1:w2.cell? ⟨w.heap.size,1,none⟩=some (sQ N n.o.length d):=by rw [hb.cell];rfl
     clear hq hX
     by_cases hM:(Nt.sO n.o).length=n.o.length
     rotate_left
     ·have HC:=zI (Nt.qR hn.out Ha.out HJ.out hM)
      have e1:(((Nt.sO n.o).length:Int) != (n.o.length:Int))=true:=by rw [bne_iff_ne];omega
      have e2:((Nt.sO n.o).length != n.o.length)=true:=by rw [bne_iff_ne];omega
      obtain ⟨y0,y1,y2,f0,f1,f2⟩:=qaH hf;generalize Nt.sO n.o=os at *;obtain ⟨ho,hw,gQ,HO⟩:=zd4 hb hf hM hO;clear hb hf hM hO;go_wp2_with fail;exact Zk1 (v:=.tuple #[.agg #[sQ none 0 0,sQ none 0 0,nQ iQ 0],nQ iQ 22]) (by simp [results,results72,go_sem,y0,y1,y2]) rfl ⟨qay hh oZ _ _ _,.inr (by rw [HC.out];exact ⟨by omega,rfl⟩)⟩
     ·have hK:=net_lay A N O c d oc n w2 Ho.out (HR.out.below hh (lrZ _)) hd hO Ha.out Hf.out
      have hD:=λh5=>Nt.qM hn.out Ha.out HJ.out hM h5
      have hx:=λh5 h6=>Nt.pG hn.out Ha.out HJ.out hM h5 h6
      have ht:=λh5 h6=>Nt.oW hn.out Ha.out HJ.out hM h5 h6
      have hJ:=λh5:(Nt.lay n.o (Nt.start n) (Nt.sO n.o)).2=0=>Nt.kJ Ha.out (Nt.sO n.o).length (lrZ _) (by rw [Zg];exact h5)
      rw [Zg] at hJ;have hC:=Kn.bU (I:=Nt.iF n.o) (n:=n.o.length) hM;have hC:∀u,u∈Nt.sO n.o↔1<=u/\u<=n.o.length:=hC;have Hh:(Nt.lay n.o (Nt.start n) (Nt.sO n.o)).1=Nt.shapes n:=rfl;rw [hM] at hK ⊢;obtain ⟨os,hos⟩:∃os,Nt.sO n.o=os:=⟨_,rfl⟩
      rw [hos] at hK hD hx ht hJ hC Hh hO hM H9;rw [hM] at H9;obtain ⟨h7,hP,hL,hE,h4,hQ,Ht,gQ,gK⟩:=zd9 hK hD hx ht hJ hC Hh hM hos;obtain ⟨HO,ho,hw⟩:=zd3 hO hb hf;clear hK hD hx ht hJ hC Hh hM hos hO hb hf;go_wp2_with fail;refine (h7.out).mono ?_;rintro e w3 ⟨Hm,⟨hr,g,rfl,hg,Hi,gL⟩|⟨hr,rfl⟩⟩
      rotate_left
      ·have HC:=zI (hP.out hr)
       have hV:=hh.trans (Hm.mono hh.size);obtain ⟨y0,y1,y2,f0,f1,f2⟩:=qaH (hw.out.below Hm hw.out.lt);generalize Nt.lay n.o (Nt.start n) os=r at *;have q1:(r.2 != 0)=true:=by simp [hr]
       have gN:=zI hr;clear hr;go_wp2_with fail;exact Zk1 (v:=.tuple #[.agg #[sQ none 0 0,sQ none 0 0,nQ iQ 0],nQ iQ r.2]) (by simp [results,results72,go_sem,y0,y1,y2]) rfl ⟨qay hV oZ _ _ _,.inr (by rw [HC.out];exact ⟨gN.out,rfl⟩)⟩
      ·have H8:=h4.out hr
       have gm:=λh6=>hL.out hr h6
       have gu:=λh6=>hE.out hr h6
       rw [Ht.out] at Hi gL H8;have hV:=hh.trans (Hm.mono hh.size);have hF:=ho.out.below Hm ho.out.lt;have HB:=hw.out.below Hm hw.out.lt;have x0:w3.cell? ⟨w.heap.size,0,none⟩=some (sQ A n.inn.length c):=by rw [hF.cell];rfl
       have x1:w3.cell? ⟨w.heap.size,1,none⟩=some (sQ N n.o.length d):=by rw [hF.cell];rfl
       have gr:=HO.out.below Hm (lrZ _);clear h7 hP hL hE h4 ho hw HO hr Ht;obtain ⟨go,gM,gP,HA,Hx,Hj,gA⟩:=zd7 H8 gm gu Hi hF HB gr;clear H8 gm gu Hi hF HB gr;go_wp2_with fail;refine (qgp A N c d n _ Ho.out (HR.out.below hV (lrZ _)) hd Hf.out).mono ?_;rintro e w4 ⟨rfl,HE⟩;have Hg:=hV.trans (HE.mono hV.size);have hW:=Hj.out.below HE Hj.out.lt;have hy:=HA.out.below HE (lrZ _);have HL:=gA.out.below HE (lrZ _);obtain ⟨y0,y1,y2,f0,f1,f2⟩:=qaH hW;clear Hx Hj HA gA
       by_cases HS:Nt.fQ n.o=true
       rotate_left
       ·have HW:Nt.fQ n.o=false:=by simpa using HS
        have HC:=zI (gM.out HW);obtain ⟨Hk,Hb,gw⟩:=zd3 hW hy HL;clear hW hy HL;clear HS;go_wp2_with fail;exact Zk1 (v:=.tuple #[.agg #[sQ none 0 0,sQ none 0 0,nQ iQ 0],nQ iQ 23]) (by simp [results,results72,go_sem,y0,y1,y2]) rfl ⟨qay Hg oZ _ _ _,.inr (by rw [HC.out];exact ⟨by omega,rfl⟩)⟩
       ·have Hr:=(Nt.dD HS).2
        have HD:=gP.out HS;obtain ⟨l,hl⟩:∃l:Nat,Nt.aH n.o=(l:Int):=⟨(Nt.aH n.o).toNat,by omega⟩
        have Hl:=zI hl;rw [hl] at Hr HD ⊢;rw [tnZ] at HD;have gh:l<(Nt.shapes n).length:=by omega
        have HG:=go.out (l:Int) (.inr ((hQ.out _).2 oZ));rw [tnZ,qad gh] at HG;rw [qad gh] at HD;obtain ⟨S,sc,gD,ge,gX,gS,-⟩:=hy.at_ gh;have HX:=qaj S sc _ w4 oZ ge;have H5:Sh.size (Nt.shapes n)[l]=(Safe.prod (Nt.shapes n)[l],0):=by unfold Sh.size;rw [ipZ HG]
        rw [H5] at HX;have l0:(0:Int)<=(l:Int):=by omega
        have l1:(l:Int)<((n.o.length+1:Nat):Int):=by omega
        generalize (Nt.shapes n)[l]=s at *;obtain ⟨Hk,Hb,gw,gx,Hl,gG,gU,gZ,gW⟩:=zd9 hW hy HL HD hl HX H5 ge HG;clear hW hy HL HD hl HX H5 ge HG;go_wp2_with fail;refine (gG.out).mono ?_;rintro e w5 ⟨rfl,HM⟩;have Hz:=Hg.trans (HM.mono Hg.size);have hU:=Hk.out.below HM Hk.out.lt;have hG:=Hb.out.below HM (lrZ _);have HT:=gw.out.below HM (lrZ _);clear y0 y1 y2 f0 f1 f2;obtain ⟨y0,y1,y2,f0,f1,f2⟩:=qaH hU
        by_cases hp:Safe.prod s=1
        ·have HC:=zI (show Nt.check n=0 by rw [gx.out,inZ (by simp [hp])])
         have e1:(Safe.prod s != 1)=false:=by simp [hp]
         clear gD hp;obtain ⟨He,Hc,gp⟩:=zd3 hU hG HT;clear hU hG HT;go_wp2_with fail;have gj:∀z∈os,z≠0:=λz hz=>by have:=(hQ.out z).1 hz;omega
         have gg:∀s∈Nt.shapes n,∀z∈s,z≠0:=λs hs z hz=>by
          obtain ⟨i,hi,rfl⟩:=List.getElem_of_mem hs
          have gv:=go.out (i:Int) (by
           by_cases h0:i=0
           ·exact .inl oZ
           ·exact .inr ((hQ.out _).2 oZ))
          rw [tnZ,qad hi] at gv;have:=(Sh.aT gv).2.2.2.1 z hz;omega
         refine Zk1 (v:=.tuple #[.agg #[sQ O n.o.length oc,sQ (some ⟨g,0,none⟩) (n.o.length+1) (n.o.length+1),nQ iQ (l:Int)],nQ iQ 0]) (by simp [results,results72,go_sem,y0,y1,y2]) rfl ⟨qay Hz oZ _ _ _,.inl ⟨HC.out,O,oc,g,by rw [Hl.out],?_,H9,gb,by omega,?_,H1.out⟩⟩
         ·rw [gK.out];exact qes gp.out He.out gj _ _ _
         ·exact qfc Hc.out He.out oZ gg _ _ _
        ·have HC:=zI (show Nt.check n=23 by rw [gx.out,ipZ hp])
         have e1:(Safe.prod s != 1)=true:=by simp [hp]
         clear gD hp;obtain ⟨He,Hc,gp⟩:=zd3 hU hG HT;clear hU hG HT;go_wp2_with fail;exact Zk1 (v:=.tuple #[.agg #[sQ none 0 0,sQ none 0 0,nQ iQ 0],nQ iQ 23]) (by simp [results,results72,go_sem,y0,y1,y2]) rfl ⟨qay Hz oZ _ _ _,.inr (by rw [HC.out];exact ⟨by omega,rfl⟩)⟩
theorem qbI (A N:Option Addr) (c d:Nat) (n:aA) (w:Zp1) (hok:n.ok) (hR:bC w A N n) (hd:n.o.length<=d):
  Calls prog 72 #[.agg #[sQ A n.inn.length c,sQ N n.o.length d]] w (vE n w):=(qet A N c d n w hok hR hd).mono λ_ _ h=>h.p
theorem qbJ (A N:Option Addr) (c d:Nat) (n:aA) (w:Zp1) (hok:n.ok) (hR:bC w A N n) (hd:n.o.length<=d):
  Calls prog 36 #[.agg #[sQ A n.inn.length c,sQ N n.o.length d]] w λe w'=>e=.returned (nQ iQ (Nt.check n))/\Below w.heap.size w w':=by
 have hb:Below w.heap.size w (w.alloc (.cells #[sQ A n.inn.length c,sQ N n.o.length d] 26)):=(Ze1 _ _).alloc (lrZ _) _;have he:=hR.below hb (lrZ _);obtain ⟨HR,hf,hg⟩:=zd3 hR hok he;clear hR hok he;go_in;go_wp2_with fail;refine (qbI A N c d n _ hf.out hg.out hd).mono ?_;rintro e w1 ⟨hh,⟨hc,O,oc,g,rfl,-,-,-,-,-⟩|⟨hc,rfl⟩⟩
 all_goals have ha:=hb.trans (hh.mono hb.size)
 ·have Hc:=zI hc
  clear hc;go_wp2_with fail;go_ret;exact ⟨by rw [Hc.out];rfl,ha.alloc ha.size _⟩
 ·have Hc:=zI hc
  clear hc;go_wp2_with fail;go_ret;exact ⟨rfl,ha.alloc ha.size _⟩
def OrderP (n:aA) (w:Zp1) (e:Ending) (w':Zp1):Prop:=
 Below w.heap.size w w'/\((Nt.check n=0/\∃O oc,e=.returned (.tuple #[sQ O n.o.length oc,nQ iQ 0])/\Ints iQ w' O (Nt.sO n.o)/\n.o.length<=oc/\oc<=9223372036854775807)∨
  (Nt.check n≠0/\e=.returned (.tuple #[sQ none 0 0,nQ iQ (Nt.check n)])))
def OrderQ (n:aA) (w:Zp1) (e:Ending) (w':Zp1):Prop:=
 Below w.heap.size w w'/\((Nt.check n=0/\∃O oc,e=.returned (.tuple #[sQ O n.o.length oc,nQ iQ 0])/\Ints iQ w' O (Nt.sO n.o)/\∀a,O=some a->w.heap.size<=a.block)∨
  (Nt.check n≠0/\e=.returned (.tuple #[sQ none 0 0,nQ iQ (Nt.check n)])))
theorem qgw (A N:Option Addr) (c d:Nat) (n:aA) (w:Zp1) (hok:n.ok) (hR:bC w A N n) (hd:n.o.length<=d):
  Calls prog 74 #[.agg #[sQ A n.inn.length c,sQ N n.o.length d]] w (OrderQ n w):=by
 have hi:Below w.heap.size w (w.alloc (.cells #[sQ A n.inn.length c,sQ N n.o.length d] 26)):=(Ze1 _ _).alloc (lrZ _) _;have hj:=hR.below hi (lrZ _);obtain ⟨HR,hk,hm⟩:=zd3 hR hok hj;clear hR hok hj;go_in;go_wp2_with fail;refine (qet A N c d n _ hk.out hm.out hd).mono ?_;rintro e w1 ⟨hl,⟨hc,O,oc,g,rfl,hO,ho,hp,hg,he,hb⟩|⟨hc,rfl⟩⟩
 all_goals have hf:=hi.trans (hl.mono hi.size)
 ·rw [Zh1] at hg hb
  obtain ⟨Hc,HO,hn,hh⟩:=zd4 hc hO he hb;clear hc hO he hb;go_wp2_with fail
  go_ret2
  exact ⟨hf.alloc hf.size _,.inl ⟨Hc.out,O,oc,rfl,HO.out.alloc _,λa ha=>by have:=hh.out a ha;omega⟩⟩
 ·have Hc:=zI hc
  clear hc;go_wp2_with fail
  go_ret2
  exact ⟨hf.alloc hf.size _,.inr ⟨Hc.out,rfl⟩⟩
def ShapesP (n:aA) (w:Zp1) (e:Ending) (w':Zp1):Prop:=
 Below w.heap.size w w'/\((Nt.check n=0/\∃g,e=.returned (.tuple #[sQ (some ⟨g,0,none⟩) (n.o.length+1) (n.o.length+1),nQ iQ 0])/\w.heap.size<=g/\aX w' g 23 (Nt.shapes n))∨
  (Nt.check n≠0/\e=.returned (.tuple #[sQ none 0 0,nQ iQ (Nt.check n)])))
def qcJ (n:aA):Int:=if Nt.check n=0 then Nt.aH n.o else 0
theorem qba (A N:Option Addr) (c d:Nat) (n:aA) (w:Zp1) (hok:n.ok) (hR:bC w A N n) (hd:n.o.length<=d):
  Calls prog 74 #[.agg #[sQ A n.inn.length c,sQ N n.o.length d]] w (OrderP n w):=by
 have he:Below w.heap.size w (w.alloc (.cells #[sQ A n.inn.length c,sQ N n.o.length d] 26)):=(Ze1 _ _).alloc (lrZ _) _;have hh:=hR.below he (lrZ _);obtain ⟨HR,hi,hm⟩:=zd3 hR hok hh;clear hR hok hh;go_in;go_wp2_with fail;refine (qbI A N c d n _ hi.out hm.out hd).mono ?_;rintro e w1 ⟨hj,⟨hc,O,oc,g,rfl,hO,hk,hl,hg,hb⟩|⟨hc,rfl⟩⟩
 all_goals have ha:=he.trans (hj.mono he.size)
 ·rw [Zh1] at hg
  obtain ⟨Hc,HO,hf⟩:=zd3 hc hO hb;clear hc hO hb;go_wp2_with fail
  go_ret2
  first|exact ⟨ha.alloc ha.size _,.inl ⟨Hc.out,O,oc,rfl,HO.out.alloc _,hk,hl⟩⟩|exact ⟨ha.alloc ha.size _,.inl ⟨Hc.out,g,rfl,by omega,hf.out.alloc _⟩⟩|exact ⟨by unfold qcJ;rw [Hc.out];rfl,ha.alloc ha.size _⟩
 ·have Hc:=zI hc
  clear hc;go_wp2_with fail
  go_ret2
  first|exact ⟨ha.alloc ha.size _,.inr ⟨Hc.out,rfl⟩⟩|exact ⟨by unfold qcJ;rw [inZ Hc.out];rfl,ha.alloc ha.size _⟩
theorem qgx (A N:Option Addr) (c d:Nat) (n:aA) (w:Zp1) (hok:n.ok) (hR:bC w A N n) (hd:n.o.length<=d):
  Calls prog 41 #[.agg #[sQ A n.inn.length c,sQ N n.o.length d]] w (ShapesP n w):=by
 have he:Below w.heap.size w (w.alloc (.cells #[sQ A n.inn.length c,sQ N n.o.length d] 26)):=(Ze1 _ _).alloc (lrZ _) _;have hh:=hR.below he (lrZ _);obtain ⟨HR,hi,hm⟩:=zd3 hR hok hh;clear hR hok hh;go_in;go_wp2_with fail;refine (qbI A N c d n _ hi.out hm.out hd).mono ?_;rintro e w1 ⟨hj,⟨hc,O,oc,g,rfl,hO,hk,hl,hg,hb⟩|⟨hc,rfl⟩⟩
 all_goals have ha:=he.trans (hj.mono he.size)
 ·rw [Zh1] at hg
  obtain ⟨Hc,HO,hf⟩:=zd3 hc hO hb;clear hc hO hb;go_wp2_with fail
  go_ret2
  first|exact ⟨ha.alloc ha.size _,.inl ⟨Hc.out,O,oc,rfl,HO.out.alloc _,hk,hl⟩⟩|exact ⟨ha.alloc ha.size _,.inl ⟨Hc.out,g,rfl,by omega,hf.out.alloc _⟩⟩|exact ⟨by unfold qcJ;rw [Hc.out];rfl,ha.alloc ha.size _⟩
 ·have Hc:=zI hc
  clear hc;go_wp2_with fail
  go_ret2
  first|exact ⟨ha.alloc ha.size _,.inr ⟨Hc.out,rfl⟩⟩|exact ⟨by unfold qcJ;rw [inZ Hc.out];rfl,ha.alloc ha.size _⟩
theorem qfY (A N:Option Addr) (c d:Nat) (n:aA) (w:Zp1) (hok:n.ok) (hR:bC w A N n) (hd:n.o.length<=d):
  Calls prog 86 #[.agg #[sQ A n.inn.length c,sQ N n.o.length d]] w λe w'=>e=.returned (.tuple #[nQ iQ (qcJ n),nQ iQ (Nt.check n)])/\Below w.heap.size w w':=by
 have he:Below w.heap.size w (w.alloc (.cells #[sQ A n.inn.length c,sQ N n.o.length d] 26)):=(Ze1 _ _).alloc (lrZ _) _;have hh:=hR.below he (lrZ _);obtain ⟨HR,hi,hm⟩:=zd3 hR hok hh;clear hR hok hh;go_in;go_wp2_with fail;refine (qbI A N c d n _ hi.out hm.out hd).mono ?_;rintro e w1 ⟨hj,⟨hc,O,oc,g,rfl,hO,hk,hl,hg,hb⟩|⟨hc,rfl⟩⟩
 all_goals have ha:=he.trans (hj.mono he.size)
 ·rw [Zh1] at hg
  obtain ⟨Hc,HO,hf⟩:=zd3 hc hO hb;clear hc hO hb;go_wp2_with fail
  go_ret2
  first|exact ⟨ha.alloc ha.size _,.inl ⟨Hc.out,O,oc,rfl,HO.out.alloc _,hk,hl⟩⟩|exact ⟨ha.alloc ha.size _,.inl ⟨Hc.out,g,rfl,by omega,hf.out.alloc _⟩⟩|exact ⟨by unfold qcJ;rw [Hc.out];rfl,ha.alloc ha.size _⟩
 ·have Hc:=zI hc
  clear hc;go_wp2_with fail
  go_ret2
  first|exact ⟨ha.alloc ha.size _,.inr ⟨Hc.out,rfl⟩⟩|exact ⟨by unfold qcJ;rw [inZ Hc.out];rfl,ha.alloc ha.size _⟩
theorem list_one {l:List Int} (h:l.length=1):∃x,l=[x]:=by
 match l,h with
 | [x],_=>exact ⟨x,rfl⟩
theorem Nt.chainGo_step {ns:List aS} {os:List Int} {k:Nat} (hk:k<os.length) (h:Nt.dH ns 0 (os.take k)=true):
  (Nt.iF ns os[k]=[(os.take k).getLastD 0]->Nt.dH ns 0 (os.take (k+1))=true/\(os.take (k+1)).getLastD 0=os[k])/\(Nt.iF ns os[k]≠[(os.take k).getLastD 0]->Nt.dH ns 0 os=false):=by
 refine ⟨λe=>?_,λe=>?_⟩
 ·rw [Zb hk]
  refine ⟨?_,?_⟩
  ·rw [Nt.iV,h,Nt.dH,decide_eq_true e];rfl
  ·simp only [List.getLastD_eq_getLast?,List.getLast?_concat,Option.getD_some]
 ·have:os=os.take k++os[k]::os.drop (k+1):=by rw [←Zd hk,Zn]
  rw [this,Nt.iV,Nt.dH,decide_eq_false e,Bool.false_and,Bool.and_false]
theorem qhC (A N:Option Addr) (c d:Nat) (n:aA) (w:Zp1) (hok:n.ok) (hR:bC w A N n) (hd:n.o.length<=d):
  Calls prog 73 #[.agg #[sQ A n.inn.length c,sQ N n.o.length d]] w λe w'=>e=.returned (.bool (Nt.chain n))/\Below w.heap.size w w':=by
 have hB:Below w.heap.size w (w.alloc (.cells #[sQ A n.inn.length c,sQ N n.o.length d] 26)):=(Ze1 _ _).alloc (lrZ _) _;have hC:=Blk.new w 26 #[sQ A n.inn.length c,sQ N n.o.length d];have hJ:=hR.below hB (lrZ _);have hU:=hok.2.1;obtain ⟨HR,hM,hI,hF⟩:=zd4 hR hok hJ hC;clear hR hok hJ hC;go_in;go_wp2_with fail;refine (qbI A N c d n _ hM.out hI.out hd).mono ?_;rintro e w1 ⟨hH,⟨hc,O,oc,g,rfl,hO,hW,hV,hg,hA⟩|⟨hc,rfl⟩⟩
 all_goals have hu:=hB.trans (hH.mono hB.size)
 rotate_left
 ·have q:(Nt.check n != 0)=true:=by simp [hc]
  have HN:=zI (show Nt.chain n=false by simp [Nt.chain,hc]);clear hc;go_wp2_with fail;go_ret;exact ⟨by rw [HN.out];rfl,hu.alloc hu.size _⟩
 ·have hf:=(Nt.aL hc).2.2.2.2.1
  have hq:=hF.out.below hH sZ;have hK:Nt.chain n=Nt.dH n.o 0 (Nt.sO n.o):=by simp [Nt.chain,hc]
  have ho:∀u∈Nt.sO n.o,1<=u/\u<=n.o.length:=Kn.dQ _ _;generalize Nt.sO n.o=os at *;have hb:=hu.alloc hu.size (.cells #[sQ O n.o.length oc,sQ (some ⟨g,0,none⟩) (n.o.length+1) (n.o.length+1),nQ iQ (Nt.aH n.o)] 140);have hG:=hO.alloc (.cells #[sQ O n.o.length oc,sQ (some ⟨g,0,none⟩) (n.o.length+1) (n.o.length+1),nQ iQ (Nt.aH n.o)] 140);have he:=hq.alloc (.cells #[sQ O n.o.length oc,sQ (some ⟨g,0,none⟩) (n.o.length+1) (n.o.length+1),nQ iQ (Nt.aH n.o)] 140);clear hO hq hF hI hA hc;obtain ⟨hN,hp,hz,hw,hQ⟩:=zd5 hG he hK ho hf;clear hG he hK ho hf;go_wp2_with fail;generalize w1.alloc (.cells #[sQ O n.o.length oc,sQ (some ⟨g,0,none⟩) (n.o.length+1) (n.o.length+1),nQ iQ (Nt.aH n.o)] 140)=w2 at *
  go_loop [5,19] (λbf i=>∃k:Nat,k<=os.length/\i=nQ iQ k/\bf=nQ iQ ((os.take k).getLastD 0)/\Nt.dH n.o 0 (os.take k)=true) (λ_ i=>os.length-(intOf i).toNat)
  case atStart=>exact ⟨0,Zt _,rfl,rfl,rfl⟩
  case round=>
   obtain ⟨k,hk,rfl,rfl,hh⟩:=hrel;have hf:=hQ.out;have x1:w2.cell? ⟨w.heap.size,1,none⟩=some (sQ N n.o.length d):=by rw [hp.out.cell];rfl
   by_cases hv:k<os.length
   ·obtain ⟨b,off,rfl,-,hc⟩:=hN.out k hv
    rw [qa2 hv] at hc;have hr:=hw.out _ (gmZ hv);obtain ⟨ha,hi⟩:=Nt.chainGo_step hv hh;obtain ⟨j,hj⟩:∃j:Nat,os[k]=(j:Int)+1:=⟨(os[k]-1).toNat,by omega⟩
    have hD:j<n.o.length:=by omega
    have hs:Nt.iF n.o os[k]=n.o[j].ins:=by unfold Nt.iF;rw [hj,Nt.dI hD]
    rw [hs] at ha hi;rw [hj] at ha hc;obtain ⟨b1,off1,S,sc,I,ic,Q,qc,rfl,ht,-,hS,-⟩:=HR.out.2.at_ hD;obtain ⟨⟨-,-,-,-,-,-,-,-,y8,-⟩,-,hm,-⟩:=ht.below hb;generalize n.o[j]=v at *;have j1:iQ.wrap ((j:Int)+1-1)=(j:Int):=by rw [Zc1 _ oZ];omega
    have j2:(j:Int)<n.o.length:=by omega
    have hX:k<n.o.length:=by omega
    by_cases h1:v.ins.length=1
    ·obtain ⟨x,hx⟩:=list_one h1
     rw [hx] at hm ha hi y8;obtain ⟨b2,off2,rfl,-,hE⟩:=hm 0 sZ;replace hE:w2.cell? ⟨b2,off2,none⟩=some (nQ iQ x):=hE;replace y8:w2.cell? ⟨b1,off1+j*10+8,none⟩=some (sQ (some ⟨b2,off2,none⟩) 1 ic):=y8;generalize (os.take k).getLastD 0=last at *
     by_cases hl:x=last
     ·have hy:=ha (by rw [hl])
      have e1:(x != last)=false:=by simp [hl]
      clear ha hi hh hf hx hl h1 hm ht hs hj;have Hy:=zI hy;clear hy;go_wp2_with fail
      go_round
      case rel=>exact ⟨k+1,by omega,by go_num,by rw [Hy.out.2],Hy.out.1⟩
      case measure=>simp [intOf];omega
     ·have hn:=hi (by simp [hl])
      have e1:(x != last)=true:=by simp [hl]
      clear ha hi hh hf hx hl h1 hm ht hs hj;have Hn:=zI hn;clear hn;go_wp2_with fail;go_ret;exact ⟨by rw [hz.out,Hn.out];rfl,hb⟩
    ·have hn:=hi (λe=>h1 (by rw [e];rfl))
     have e1:((v.ins.length:Int) != 1)=true:=by rw [bne_iff_ne];omega
     have e2:(v.ins.length != 1)=true:=by rw [bne_iff_ne];omega
     clear ha hi hh hf h1 hm ht hs hj;have Hn:=zI hn;clear hn;go_wp2_with fail;go_ret;exact ⟨by rw [hz.out,Hn.out];rfl,hb⟩
   ·obtain rfl:k=os.length:=by omega
    rw [Zg] at hh;have hL:=zI hh;clear hh;have hT:¬(os.length:Int)<(n.o.length:Int):=by omega
    have hP:¬os.length<n.o.length:=by omega
    clear hf;go_wp2_with fail;go_ret;exact ⟨by rw [hz.out,hL.out];rfl,hb⟩
def qaR (zs:List Int) (x:Int):Bool:=zs.contains x
theorem qcK (A:Option Addr) (c:Nat) (zs:List Int) (x:Int) (w:Zp1) (hl:zs.length<=9223372036854775807) (hI:Ints iQ w A zs):
  Calls prog 68 #[sQ A zs.length c,nQ iQ x] w λe w'=>e=.returned (.bool (qaR zs x))/\w=w':=by
 have HI:=zI hI;clear hI;go_in;go_wp2_with fail
 go_loop [5] (λi=>∃k:Nat,k<=zs.length/\i=nQ iQ k/\(zs.take k).contains x=false) (λi=>zs.length-(intOf i).toNat)
 case atStart=>exact ⟨0,Zt _,rfl,rfl⟩
 case round=>
  obtain ⟨k,hk,rfl,ha⟩:=hrel
  by_cases hb:k<zs.length
  ·obtain ⟨b,off,rfl,-,hc⟩:=HI.out k hb
   rw [qa2 hb] at hc
   by_cases he:zs[k]=x
   ·have e1:(zs[k]==x)=true:=by simp [he]
    have HX:=zI (show qaR zs x=true by unfold qaR;rw [List.contains_iff_mem];rw [←he];exact gmZ hb);clear he ha;go_wp2_with fail;go_ret;exact ⟨by rw [HX.out];rfl,rfl⟩
   ·have e1:(zs[k]==x)=false:=by simp [he]
    have HX:=zI (show (zs.take (k+1)).contains x=false by
     rw [Zb hb];simp at ha;simp only [List.contains_eq_mem,List.mem_append,decide_eq_false_iff_not,List.mem_singleton];intro h;rcases h with h|h
     ·exact ha h
     ·exact he h.symm)
    clear he ha;go_wp2_with fail
    go_round
    case rel=>exact ⟨k+1,by omega,by go_num,HX.out⟩
    case measure=>simp [intOf];omega
  ·obtain rfl:k=zs.length:=by omega
   rw [Zg] at ha;have HX:=zI (show qaR zs x=false from ha);clear ha;go_wp2_with fail;go_ret;exact ⟨by rw [HX.out];rfl,rfl⟩
def Nt.count (ns:List aS) (id:Int):Nat:=(ns.filter λv=>v.ins.contains id).length
theorem qfd (A N:Option Addr) (c d:Nat) (n:aA) (id:Int) (w:Zp1) (hok:n.ok) (hR:bC w A N n):
  Calls prog 33 #[.agg #[sQ A n.inn.length c,sQ N n.o.length d],nQ iQ id] w λe w'=>e=.returned (nQ iQ (Nt.count n.o id:Nat))/\Below w.heap.size w w':=by
 have hh:Below w.heap.size w (w.alloc (.cells #[sQ A n.inn.length c,sQ N n.o.length d] 37)):=(Ze1 _ _).alloc (lrZ _) _;have he:=Blk.new w 37 #[sQ A n.inn.length c,sQ N n.o.length d];have hf:=hR.below hh (lrZ _);have hr:=hok.2.1;obtain ⟨hm,HR,ho⟩:=zd3 hok hR he;clear hok hR he;go_in;go_upto_region 1 with fail;have x1:(w.alloc (.cells #[sQ A n.inn.length c,sQ N n.o.length d] 37)).cell? ⟨w.heap.size,1,none⟩=some (sQ N n.o.length d):=by rw [ho.out.cell];rfl
 generalize w.alloc (.cells #[sQ A n.inn.length c,sQ N n.o.length d] 37)=w1 at *;have hl:=zI hf;clear hf;go_wp2_with fail
 go_loop [5,6] (λt i=>∃k:Nat,k<=n.o.length/\i=nQ iQ (k:Int)/\t=nQ iQ ((Nt.count (n.o.take k) id:Nat):Int)) (λ_ i=>n.o.length-(intOf i).toNat)
 case atStart=>exact ⟨0,Zt _,rfl,rfl⟩
 case round=>
  obtain ⟨k,hk,rfl,rfl⟩:=hrel
  by_cases hb:k<n.o.length
  ·obtain ⟨b,off,S,sc,J,ic,Q,qc,rfl,hi,-,hI,-⟩:=hl.out.2.at_ hb
   have ha:=hm.out.2.2 _ (gmZ hb);have hp:=ha.2.2.1
   have hg:Nt.count (n.o.take (k+1)) id=Nt.count (n.o.take k) id+if n.o[k].ins.contains id then 1 else 0:=by
    unfold Nt.count;rw [Zb hb,List.filter_append]
    by_cases h:n.o[k].ins.contains id=true
    ·simp only [List.filter_cons,h,if_true,List.filter_nil,Ze,List.length_singleton]
    ·simp only [List.filter_cons,h,List.filter_nil,Ze];simp
   have hq:Nt.count (n.o.take k) id<=k:=by
    unfold Nt.count;refine Zv (List.length_filter_le _ _) ?_;simp;omega
   generalize n.o[k]=v at *;generalize Nt.count (n.o.take k) id=q at *;obtain ⟨⟨-,-,-,-,-,-,-,-,y8,-⟩,-,hc,-⟩:=hi;obtain ⟨hn,hd,hj⟩:=zd3 hc hg ha;clear hc hg ha;go_wp2_with fail;refine (qcK J ic v.ins id _ oZ hn.out).mono ?_;rintro e w2 ⟨rfl,rfl⟩
   by_cases h:qaR v.ins id=true
   ·have HX:=zI (hd.out.trans (by rw [ipZ (show v.ins.contains id=true from h)]))
    rw [h];clear h;go_wp2_with fail
    go_round
    case rel=>exact ⟨k+1,by omega,by go_num,by rw [HX.out];go_num⟩
    case measure=>simp [intOf];omega
   ·have h':qaR v.ins id=false:=by simpa using h
    have HX:=zI (hd.out.trans (by rw [inZ (show ¬v.ins.contains id=true from h)]));rw [h'];clear h h';go_wp2_with fail
    go_round
    case rel=>exact ⟨k+1,by omega,by go_num,by rw [HX.out];rfl⟩
    case measure=>simp [intOf];omega
  ·obtain rfl:k=n.o.length:=by omega
   rw [Zg];go_wp2_with fail;go_ret;exact ⟨rfl,hh⟩
def qbb (out ins:List Int) (b:Bool) (m:Nat):Bool:=b&&(ins.take m).all λi=>i==0 || out.contains i
theorem qfe {out ins:List Int} {b:Bool} {m:Nat} (hm:m<ins.length):qbb out ins b (m+1)=(qbb out ins b m&&(ins[m]==0 || out.contains ins[m])):=by
 unfold qbb;rw [Zb hm,List.all_append,Bool.and_assoc];simp
theorem qbw (A N:Option Addr) (c d:Nat) (n:aA) (w:Zp1) (hok:n.ok) (hR:bC w A N n):
  Calls prog 31 #[.agg #[sQ A n.inn.length c,sQ N n.o.length d]] w (qfX (Nt.sO n.o) w):=by
 obtain ⟨i0,hi,hW,h8,hU⟩:=info_parts qag;have hG:Below w.heap.size w (w.alloc (.cells #[sQ A n.inn.length c,sQ N n.o.length d] 37)):=(Ze1 _ _).alloc (lrZ _) _;have hM:=Blk.new w 37 #[sQ A n.inn.length c,sQ N n.o.length d];have hQ:=hR.below hG (lrZ _);have Hb:=hok.2.1;have hq:Nt.sO n.o=Kn.order (Nt.iF n.o) n.o.length:=rfl;have hw:∀k (h:k<n.o.length),Nt.iF n.o ((k:Int)+1)=n.o[k].ins:=λk h=>by unfold Nt.iF;rw [Nt.dI h]
 generalize Nt.iF n.o=I at *;generalize Nt.sO n.o=os at *;obtain ⟨hY,HR,hO,hv,hA⟩:=zd5 hok hR hM hq hw;clear hok hR hM hq hw;go_in;go_upto_region 1 with fail;have x1:(w.alloc (.cells #[sQ A n.inn.length c,sQ N n.o.length d] 37)).cell? ⟨w.heap.size,1,none⟩=some (sQ N n.o.length d):=by rw [hO.out.cell];rfl
 have h9:w.heap.size<(w.alloc (.cells #[sQ A n.inn.length c,sQ N n.o.length d] 37)).heap.size:=hO.out.lt;generalize w.alloc (.cells #[sQ A n.inn.length c,sQ N n.o.length d] 37)=w1 at *;have h6:=zI hQ;clear hQ;go_wp2_with fail
 go_loopw [3,4] (λo i wx=>∃k:Nat,k<=n.o.length/\i=nQ iQ (k:Int)/\wx.ownsRow w1.heap.size 3 1 o (Kn.go I n.o.length k).length ((Kn.go I n.o.length k).map (Za1 iQ))/\Below w1.heap.size w1 wx) (λ_ i _=>n.o.length-(intOf i).toNat)
 case atStart=>exact ⟨0,Zt _,rfl,by simpa [Kn.go] using World.ownsRow_nil w1 w1.heap.size 3 1,Ze1 _ _⟩
 case round=>
  obtain ⟨k,hk,rfl,hown,hp⟩:=hrel;obtain ⟨Ao,co,rfl⟩:=qa6 hown;have x2:=qa1 hp x1
  by_cases Hg:k<n.o.length
  ·have hK:=λid r h=>@Kn.uK I n.o.length k id r h
   have He:=Kn.qQ I n.o.length k;have hd:Kn.ready I n.o.length (Kn.go I n.o.length k)=[]->Kn.go I n.o.length (k+1)=Kn.go I n.o.length k:=λh=>Kn.qD h 1
   have hS:=(qak hown).1;generalize Kn.go I n.o.length k=out at *;obtain ⟨hV,hs,hg,hT⟩:=zd4 hK hd hown hS;clear hK hd hown hS;go_wp2_with fail;clear x2
   go_loop [3,5] (λo i=>∃j:Nat,j<=n.o.length/\i=nQ iQ ((j:Int)+1)/\o=sQ Ao out.length co/\∀u:Int,1<=u->u<=j->Kn.free I out u=false) (λ_ i=>n.o.length+1-(intOf i).toNat)
   case atStart=>exact ⟨0,Zt _,rfl,rfl,λu h1 h2=>by omega⟩
   case round=>
    obtain ⟨j,hj,rfl,rfl,hy⟩:=hrel;have x2:=qa1 hp x1
    by_cases hB:j<n.o.length
    ·obtain ⟨b,off,S,sc,J,ic,Q,qc,rfl,hD,-,hI,-⟩:=h6.out.2.at_ hB
     have ht:=hY.out.2.2 _ (gmZ hB);have Hd:=ht.2.2.1;have hz:=hA.out j hB;generalize n.o[j]=v at *;obtain ⟨⟨-,-,-,-,-,-,-,-,y8,-⟩,-,hJ,-⟩:=hD.below hp;have j1:iQ.wrap ((j:Int)+1-1)=(j:Int):=by rw [Zc1 _ oZ];omega
     have j2:(j:Int)<n.o.length:=by omega
     have j3:(j:Int)+1<=(n.o.length:Int):=by omega
     have ha:Kn.free I out ((j:Int)+1)=qbb out v.ins (!qaR out ((j:Int)+1)) v.ins.length:=by
      unfold Kn.free qbb;rw [hz,Zg]
      rfl
     obtain ⟨Ha,hZ,Hc,h5,he,hP⟩:=zd6 hD hJ hz ht ha hy;clear hD hJ hz ht ha hy;go_wp2_with fail;refine (qcK Ao co out ((j:Int)+1) _ oZ hT.out).mono ?_;rintro e w3 ⟨rfl,rfl⟩;go_wp2_with fail;have ha:=he.out;generalize (!qaR out ((j:Int)+1))=bh at *;have he:=zI ha;clear ha;clear y8 x2
     go_loop [6,8] (λf i=>∃m:Nat,m<=v.ins.length/\i=nQ iQ (m:Int)/\f=.bool (qbb out v.ins bh m)) (λ_ i=>v.ins.length-(intOf i).toNat)
     case atStart=>exact ⟨0,Zt _,rfl,by simp [qbb]⟩
     case round=>
      obtain ⟨m,hm,rfl,rfl⟩:=hrel
      by_cases hC:m<v.ins.length
      ·obtain ⟨b1,off1,rfl,-,hc⟩:=hZ.out m hC
       rw [qa2 hC] at hc;have hx:=@qfe out v.ins bh m hC;generalize qbb out v.ins bh m=fm at *;generalize v.ins[m]=u at *
       by_cases hu:u=0
       ·have e1:(u != 0)=false:=by simp [hu]
        have HF:=zI (show qbb out v.ins bh (m+1)=fm by rw [hx,hu];simp);clear hu hx;go_wp2_with fail
        go_round
        case rel=>exact ⟨m+1,by omega,by go_num,by rw [HF.out]⟩
        case measure=>simp [intOf];omega
       ·have e1:(u != 0)=true:=by simp [hu]
        have e0:(u==0)=false:=by simp [hu]
        rw [e0,Bool.false_or] at hx;clear hu e0;have hN:=zI hx;clear hx;go_wp2_with fail;refine (qcK Ao co out u _ oZ hT.out).mono ?_;rintro e w3 ⟨rfl,rfl⟩
        by_cases hh:qaR out u=true
        ·have HF:=zI (show qbb out v.ins bh (m+1)=fm by rw [hN.out,show out.contains u=true from hh,Bool.and_true])
         rw [hh];clear hh;go_wp2_with fail
         go_round
         case rel=>exact ⟨m+1,by omega,by go_num,by rw [HF.out]⟩
         case measure=>simp [intOf];omega
        ·have hF:qaR out u=false:=by simpa using hh
         have HF:=zI (show qbb out v.ins bh (m+1)=false by rw [hN.out,show out.contains u=false from hF,Bool.and_false]);rw [hF];clear hh hF;go_wp2_with fail
         go_round
         case rel=>exact ⟨m+1,by omega,by go_num,by rw [HF.out]⟩
         case measure=>simp [intOf];omega
      ·obtain rfl:m=v.ins.length:=by omega
       rw [←he.out]
       by_cases hf:Kn.free I out ((j:Int)+1)=true
       ·obtain ⟨r,hr⟩:=Kn.ready_first (I:=I) (n:=n.o.length) (out:=out) (id:=(j:Int)+1) oZ oZ hf (λu h1 h2=>hP.out u h1 oZ)
        have HG:=zI (hV.out _ _ hr);have ho:=qa8 hg.out (.cells #[nQ iQ ((j:Int)+1)] 3);have hl:=(hp.alloc hp.size (.cells #[nQ iQ ((j:Int)+1)] 3))
        have hL:=zI (λb (hb:(Zb1 Ao out.length co).ownBlock=some b)=>(hg.out.lt b hb).1);rw [hf];clear hf hr;go_wp2_with (at_builtin;refine wpList_append_own_at _ rfl _ _ 22 rfl w1.heap.size 3 i0 (nQ iQ 0) 1 8 underlying22 hi hW h8 hU rfl dZ _ _ _ rfl ho ⟨wr.heap.size,0,none⟩ 1 1 [nQ iQ ((j:Int)+1)] rfl rfl ?c1 (by intro u hu;simp at hu;subst hu;rfl) (by unfold maxLen;omega) oZ ?c2 ?_)
        first|(case c1=>exact qap wr _ _)|skip
        case c2=>first|exact hl.size|(have:=hp.size;omega)
        intro v' w3 hn hgrow _ hX;have h0:Below w1.heap.size w1 w3:=hl.grown hgrow hl.size (λb hb=>hL.out b hb);have h4:=zI (show w3.ownsRow w1.heap.size 3 1 v' (Kn.go I n.o.length (k+1)).length ((Kn.go I n.o.length (k+1)).map (Za1 iQ)) by rw [HG.out];simpa using hn);clear hn hgrow hX ho hl hL;go_wp2_with fail;go_roundw
        case rel=>exact ⟨k+1,by omega,by go_num,h4.out,h0⟩
        case measure=>simp [intOf];omega
       ·have hE:Kn.free I out ((j:Int)+1)=false:=by simpa using hf
        have h7:=zI (show ∀u:Int,1<=u->u<=((j+1:Nat):Int)->Kn.free I out u=false from λu h1 h2=>by
         by_cases e:u=(j:Int)+1
         ·rw [e];exact hE
         ·exact hP.out u h1 oZ)
        rw [hE];clear hf hE;go_wp2_with fail
        go_round
        case rel=>exact ⟨j+1,by omega,by go_num,rfl,h7.out⟩
        case measure=>simp [intOf];omega
    ·obtain rfl:j=n.o.length:=by omega
     have HG:=zI (hs.out (Kn.ready_none (λu h1 h2=>hy u h1 h2)));have j3:¬(n.o.length:Int)+1<=(n.o.length:Int):=by omega
     clear hy;go_wp2_with fail;go_roundw
     case rel=>exact ⟨k+1,by omega,by go_num,by rw [HG.out];exact hg.out,hp⟩
     case measure=>simp [intOf];omega
  ·obtain rfl:k=n.o.length:=by omega
   have hH:os=Kn.go I n.o.length n.o.length:=hv.out;rw [←hH] at hown ⊢;obtain ⟨q1,q2,q3⟩:=qak hown;obtain ⟨hg,h3,Hf⟩:=zd3 hown q1 hH;clear hown q1 hH;go_wp2_with fail;go_ret;exact ⟨Ao,co,rfl,h3.out,q2,q3,hG.trans (hp.mono hG.size)⟩
theorem qff (o:OpD) (S:Option Addr) (c:Nat) (w:Zp1) (hl:o.s.length<=9223372036854775807):
  Calls prog 30 #[.agg #[nQ iQ o.kind,nQ iQ o.k,nQ iQ o.width,nQ iQ o.step,nQ iQ o.side,nQ iQ o.frm,nQ iQ o.to,sQ S o.s.length c]] w λe w'=>e=.returned (.bool (Od.cZ o))/\Below w.heap.size w w':=by
 have hb:Below w.heap.size w (w.alloc (.cells #[nQ iQ o.kind,nQ iQ o.k,nQ iQ o.width,nQ iQ o.step,nQ iQ o.side,nQ iQ o.frm,nQ iQ o.to,sQ S o.s.length c] 83)):=(Ze1 _ _).alloc (lrZ _) _;have ha:=Blk.new w 83 #[nQ iQ o.kind,nQ iQ o.k,nQ iQ o.width,nQ iQ o.step,nQ iQ o.side,nQ iQ o.frm,nQ iQ o.to,sQ S o.s.length c];obtain ⟨y0,y1,y2,y3,y4,y5,y6,y7⟩:=qam ha;have HB:=zI hb;clear ha hb;go_in;go_upto_region 1 with fail;generalize (w.alloc (.cells #[nQ iQ o.kind,nQ iQ o.k,nQ iQ o.width,nQ iQ o.step,nQ iQ o.side,nQ iQ o.frm,nQ iQ o.to,sQ S o.s.length c] 83))=w1 at *
 go_cut [10] (λv wx=>v=.bool (decide (o.kind<1∨15<o.kind))/\w1=wx)
 case first=>
  by_cases c1:o.kind<1
  ·have e1:decide (o.kind<1)=true:=by simp;omega
   have HX:=zI (show decide (o.kind<1∨15<o.kind)=true by simp;omega);clear c1;go_wp2_with fail
   go_meet
   exact ⟨by rw [HX.out],rfl⟩
  ·have e1:decide (o.kind<1)=false:=by simp;omega
   by_cases c2:15<o.kind
   ·have e2:decide (15<o.kind)=true:=by simp;omega
    have HX:=zI (show decide (o.kind<1∨15<o.kind)=true by simp;omega);clear c1 c2;go_wp2_with fail
    go_meet
    exact ⟨by rw [HX.out],rfl⟩
   ·have e2:decide (15<o.kind)=false:=by simp;omega
    have HX:=zI (show decide (o.kind<1∨15<o.kind)=false by simp;omega);clear c1 c2;go_wp2_with fail
    go_meet
    exact ⟨by rw [HX.out],rfl⟩
 case rest=>
  obtain ⟨rfl,rfl⟩:=hcut
  by_cases f0:o.kind<1∨15<o.kind
  ·have q0:decide (o.kind<1∨15<o.kind)=true:=decide_eq_true f0
   have HX:=zI (show Od.cZ o=false by unfold Od.cZ;rw [ipZ f0]);clear f0;rw [q0];clear q0;go_wp2_with fail;go_ret;exact ⟨by rw [HX.out];rfl,HB.out⟩
  ·have q0:decide (o.kind<1∨15<o.kind)=false:=decide_eq_false f0
   rw [q0];clear q0;go_upto_region 3 with fail
   go_cut [23] (λv wx=>v=.bool (decide (o.k≠0/\o.kind≠2/\o.kind≠5))/\w1=wx)
   case first=>
    by_cases c1:o.k=0
    ·have e1:(o.k != 0)=false:=by simp;omega
     have HX:=zI (show decide (o.k≠0/\o.kind≠2/\o.kind≠5)=false by simp;omega);clear c1;go_wp2_with fail
     go_meet
     exact ⟨by rw [HX.out],rfl⟩
    ·have e1:(o.k != 0)=true:=by simp;omega
     by_cases c2:o.kind=2
     ·have e2:(o.kind != 2)=false:=by simp;omega
      have HX:=zI (show decide (o.k≠0/\o.kind≠2/\o.kind≠5)=false by simp;omega);clear c1 c2;go_wp2_with fail
      go_meet
      exact ⟨by rw [HX.out],rfl⟩
     ·have e2:(o.kind != 2)=true:=by simp;omega
      by_cases c3:o.kind=5
      ·have e3:(o.kind != 5)=false:=by simp;omega
       have HX:=zI (show decide (o.k≠0/\o.kind≠2/\o.kind≠5)=false by simp;omega);clear c1 c2 c3;go_wp2_with fail
       go_meet
       exact ⟨by rw [HX.out],rfl⟩
      ·have e3:(o.kind != 5)=true:=by simp;omega
       have HX:=zI (show decide (o.k≠0/\o.kind≠2/\o.kind≠5)=true by simp;omega);clear c1 c2 c3;go_wp2_with fail
       go_meet
       exact ⟨by rw [HX.out],rfl⟩
   case rest=>
    obtain ⟨rfl,rfl⟩:=hcut
    by_cases f1:o.k≠0/\o.kind≠2/\o.kind≠5
    ·have q1:decide (o.k≠0/\o.kind≠2/\o.kind≠5)=true:=decide_eq_true f1
     have HX:=zI (show Od.cZ o=false by unfold Od.cZ;rw [inZ f0,ipZ f1]);clear f0 f1;rw [q1];clear q1;go_wp2_with fail;go_ret;exact ⟨by rw [HX.out];rfl,HB.out⟩
    ·have q1:decide (o.k≠0/\o.kind≠2/\o.kind≠5)=false:=decide_eq_false f1
     rw [q1];clear q1;go_upto_region 5 with fail
     go_cut [36] (λv wx=>v=.bool (decide (o.width≠0/\o.kind≠11/\o.kind≠12))/\w1=wx)
     case first=>
      by_cases c1:o.width=0
      ·have e1:(o.width != 0)=false:=by simp;omega
       have HX:=zI (show decide (o.width≠0/\o.kind≠11/\o.kind≠12)=false by simp;omega);clear c1;go_wp2_with fail
       go_meet
       exact ⟨by rw [HX.out],rfl⟩
      ·have e1:(o.width != 0)=true:=by simp;omega
       by_cases c2:o.kind=11
       ·have e2:(o.kind != 11)=false:=by simp;omega
        have HX:=zI (show decide (o.width≠0/\o.kind≠11/\o.kind≠12)=false by simp;omega);clear c1 c2;go_wp2_with fail
        go_meet
        exact ⟨by rw [HX.out],rfl⟩
       ·have e2:(o.kind != 11)=true:=by simp;omega
        by_cases c3:o.kind=12
        ·have e3:(o.kind != 12)=false:=by simp;omega
         have HX:=zI (show decide (o.width≠0/\o.kind≠11/\o.kind≠12)=false by simp;omega);clear c1 c2 c3;go_wp2_with fail
         go_meet
         exact ⟨by rw [HX.out],rfl⟩
        ·have e3:(o.kind != 12)=true:=by simp;omega
         have HX:=zI (show decide (o.width≠0/\o.kind≠11/\o.kind≠12)=true by simp;omega);clear c1 c2 c3;go_wp2_with fail
         go_meet
         exact ⟨by rw [HX.out],rfl⟩
     case rest=>
      obtain ⟨rfl,rfl⟩:=hcut
      by_cases f2:o.width≠0/\o.kind≠11/\o.kind≠12
      ·have q2:decide (o.width≠0/\o.kind≠11/\o.kind≠12)=true:=decide_eq_true f2
       have HX:=zI (show Od.cZ o=false by unfold Od.cZ;rw [inZ f0,inZ f1,ipZ f2]);clear f0 f1 f2;rw [q2];clear q2;go_wp2_with fail;go_ret;exact ⟨by rw [HX.out];rfl,HB.out⟩
      ·have q2:decide (o.width≠0/\o.kind≠11/\o.kind≠12)=false:=decide_eq_false f2
       rw [q2];clear q2;go_upto_region 7 with fail
       go_cut [49] (λv wx=>v=.bool (decide (o.step≠0/\(o.kind<10∨12<o.kind)))/\w1=wx)
       case first=>
        by_cases c1:o.step=0
        ·have e1:(o.step != 0)=false:=by simp;omega
         have HX:=zI (show decide (o.step≠0/\(o.kind<10∨12<o.kind))=false by simp;omega);clear c1;go_wp2_with fail
         go_meet
         exact ⟨by rw [HX.out],rfl⟩
        ·have e1:(o.step != 0)=true:=by simp;omega
         by_cases c2:o.kind<10
         ·have e2:decide (o.kind<10)=true:=by simp;omega
          have HX:=zI (show decide (o.step≠0/\(o.kind<10∨12<o.kind))=true by simp;omega);clear c1 c2;go_wp2_with fail
          go_meet
          exact ⟨by rw [HX.out],rfl⟩
         ·have e2:decide (o.kind<10)=false:=by simp;omega
          by_cases c3:12<o.kind
          ·have e3:decide (12<o.kind)=true:=by simp;omega
           have HX:=zI (show decide (o.step≠0/\(o.kind<10∨12<o.kind))=true by simp;omega);clear c1 c2 c3;go_wp2_with fail
           go_meet
           exact ⟨by rw [HX.out],rfl⟩
          ·have e3:decide (12<o.kind)=false:=by simp;omega
           have HX:=zI (show decide (o.step≠0/\(o.kind<10∨12<o.kind))=false by simp;omega);clear c1 c2 c3;go_wp2_with fail
           go_meet
           exact ⟨by rw [HX.out],rfl⟩
       case rest=>
        obtain ⟨rfl,rfl⟩:=hcut
        by_cases f3:o.step≠0/\(o.kind<10∨12<o.kind)
        ·have q3:decide (o.step≠0/\(o.kind<10∨12<o.kind))=true:=decide_eq_true f3
         have HX:=zI (show Od.cZ o=false by unfold Od.cZ;rw [inZ f0,inZ f1,inZ f2,ipZ f3]);clear f0 f1 f2 f3;rw [q3];clear q3;go_wp2_with fail;go_ret;exact ⟨by rw [HX.out];rfl,HB.out⟩
        ·have q3:decide (o.step≠0/\(o.kind<10∨12<o.kind))=false:=decide_eq_false f3
         rw [q3];clear q3;go_upto_region 9 with fail
         go_cut [62] (λv wx=>v=.bool (decide (o.side≠0/\o.kind≠13/\o.kind≠14))/\w1=wx)
         case first=>
          by_cases c1:o.side=0
          ·have e1:(o.side != 0)=false:=by simp;omega
           have HX:=zI (show decide (o.side≠0/\o.kind≠13/\o.kind≠14)=false by simp;omega);clear c1;go_wp2_with fail
           go_meet
           exact ⟨by rw [HX.out],rfl⟩
          ·have e1:(o.side != 0)=true:=by simp;omega
           by_cases c2:o.kind=13
           ·have e2:(o.kind != 13)=false:=by simp;omega
            have HX:=zI (show decide (o.side≠0/\o.kind≠13/\o.kind≠14)=false by simp;omega);clear c1 c2;go_wp2_with fail
            go_meet
            exact ⟨by rw [HX.out],rfl⟩
           ·have e2:(o.kind != 13)=true:=by simp;omega
            by_cases c3:o.kind=14
            ·have e3:(o.kind != 14)=false:=by simp;omega
             have HX:=zI (show decide (o.side≠0/\o.kind≠13/\o.kind≠14)=false by simp;omega);clear c1 c2 c3;go_wp2_with fail
             go_meet
             exact ⟨by rw [HX.out],rfl⟩
            ·have e3:(o.kind != 14)=true:=by simp;omega
             have HX:=zI (show decide (o.side≠0/\o.kind≠13/\o.kind≠14)=true by simp;omega);clear c1 c2 c3;go_wp2_with fail
             go_meet
             exact ⟨by rw [HX.out],rfl⟩
         case rest=>
          obtain ⟨rfl,rfl⟩:=hcut
          by_cases f4:o.side≠0/\o.kind≠13/\o.kind≠14
          ·have q4:decide (o.side≠0/\o.kind≠13/\o.kind≠14)=true:=decide_eq_true f4
           have HX:=zI (show Od.cZ o=false by unfold Od.cZ;rw [inZ f0,inZ f1,inZ f2,inZ f3,ipZ f4]);clear f0 f1 f2 f3 f4;rw [q4];clear q4;go_wp2_with fail;go_ret;exact ⟨by rw [HX.out];rfl,HB.out⟩
          ·have q4:decide (o.side≠0/\o.kind≠13/\o.kind≠14)=false:=decide_eq_false f4
           rw [q4];clear q4;go_upto_region 11 with fail
           go_cut [75] (λv wx=>v=.bool (decide ((o.frm≠0∨o.to≠0)/\o.kind≠14))/\w1=wx)
           case first=>
            by_cases c1:o.frm=0
            ·have e1:(o.frm != 0)=false:=by simp;omega
             by_cases c2:o.to=0
             ·have e2:(o.to != 0)=false:=by simp;omega
              have HX:=zI (show decide ((o.frm≠0∨o.to≠0)/\o.kind≠14)=false by simp;omega);clear c1 c2;go_wp2_with fail
              go_meet
              exact ⟨by rw [HX.out],rfl⟩
             ·have e2:(o.to != 0)=true:=by simp;omega
              by_cases c3:o.kind=14
              ·have e3:(o.kind != 14)=false:=by simp;omega
               have HX:=zI (show decide ((o.frm≠0∨o.to≠0)/\o.kind≠14)=false by simp;omega);clear c1 c2 c3;go_wp2_with fail
               go_meet
               exact ⟨by rw [HX.out],rfl⟩
              ·have e3:(o.kind != 14)=true:=by simp;omega
               have HX:=zI (show decide ((o.frm≠0∨o.to≠0)/\o.kind≠14)=true by simp;omega);clear c1 c2 c3;go_wp2_with fail
               go_meet
               exact ⟨by rw [HX.out],rfl⟩
            ·have e1:(o.frm != 0)=true:=by simp;omega
             by_cases c2:o.kind=14
             ·have e2:(o.kind != 14)=false:=by simp;omega
              have HX:=zI (show decide ((o.frm≠0∨o.to≠0)/\o.kind≠14)=false by simp;omega);clear c1 c2;go_wp2_with fail
              go_meet
              exact ⟨by rw [HX.out],rfl⟩
             ·have e2:(o.kind != 14)=true:=by simp;omega
              have HX:=zI (show decide ((o.frm≠0∨o.to≠0)/\o.kind≠14)=true by simp;omega);clear c1 c2;go_wp2_with fail
              go_meet
              exact ⟨by rw [HX.out],rfl⟩
           case rest=>
            obtain ⟨rfl,rfl⟩:=hcut
            by_cases f5:(o.frm≠0∨o.to≠0)/\o.kind≠14
            ·have q5:decide ((o.frm≠0∨o.to≠0)/\o.kind≠14)=true:=decide_eq_true f5
             have HX:=zI (show Od.cZ o=false by unfold Od.cZ;rw [inZ f0,inZ f1,inZ f2,inZ f3,inZ f4,ipZ f5]);clear f0 f1 f2 f3 f4 f5;rw [q5];clear q5;go_wp2_with fail;go_ret;exact ⟨by rw [HX.out];rfl,HB.out⟩
            ·have q5:decide ((o.frm≠0∨o.to≠0)/\o.kind≠14)=false:=decide_eq_false f5
             rw [q5];clear q5;have HF:=zI (show Od.cZ o=decide (o.s=[]∨o.kind=15) by unfold Od.cZ;rw [inZ f0,inZ f1,inZ f2,inZ f3,inZ f4,inZ f5]);clear f0 f1 f2 f3 f4 f5
             by_cases h1:o.s=[]
             ·have HX:=zI (show decide (o.s=[]∨o.kind=15)=true by simp [h1])
              have e1:((o.s.length:Int)==0)=true:=by simp [h1]
              have e2:o.s.length=0:=by simp [h1]
              rw [e2] at *;clear h1;go_wp2_with fail;go_ret;exact ⟨by rw [HF.out,HX.out];rfl,HB.out⟩
             ·have e1:((o.s.length:Int)==0)=false:=by simp [h1]
              have e2:(o.s.length==0)=false:=by simp [h1]
              by_cases h2:o.kind=15
              ·have HX:=zI (show decide (o.s=[]∨o.kind=15)=true by simp [h2])
               have e3:(o.kind==15)=true:=by simp [h2]
               clear h1 h2;go_wp2_with fail;go_ret;exact ⟨by rw [HF.out,HX.out];rfl,HB.out⟩
              ·have HX:=zI (show decide (o.s=[]∨o.kind=15)=false by simp [h1,h2])
               have e3:(o.kind==15)=false:=by simp [h2]
               clear h1 h2;go_wp2_with fail;go_ret;exact ⟨by rw [HF.out,HX.out];rfl,HB.out⟩
def dJ (r:List Int × Int) (w:Zp1) (e:Ending) (w':Zp1):Prop:=
 ∃S c,e=.returned (.tuple #[sQ S r.1.length c,nQ iQ r.2])/\Ints iQ w' S r.1/\r.1.length<=c/\c<=9223372036854775807/\Below w.heap.size w w'
def WithP (zs:List Int) (w:Zp1) (e:Ending) (w':Zp1):Prop:=
 ∃g,e=.returned (sQ (some ⟨g,0,none⟩) zs.length zs.length)/\Ints iQ w' (some ⟨g,0,none⟩) zs/\w.heap.size<=g/\Below w.heap.size w w'
theorem qbX (A:Option Addr) (c:Nat) (zs:List Int) (i:Nat) (v:Int) (w:Zp1) (hl:zs.length<=17592186043904) (hI:Ints iQ w A zs) (hi':i<zs.length):
  Calls prog 105 #[sQ A zs.length c,nQ iQ (i:Int),nQ iQ v] w (WithP (zs.set i v) w):=by
 obtain ⟨i0,hi,hh,hn,hg⟩:=info_parts qag;have HI:=zI hI;clear hI;go_in;go_wp2_with (at_make;refine wpList_make_full _ rfl _ _ 22 rfl w.heap.size 3 i0 (nQ iQ 0) 1 underlying22 hi hh hn _ _ _ _ zs.length rfl rfl (by first|rfl|simp) (by first|rfl|simp) ?b2 ?b3 (lrZ _) ?_)
 case b2=>rw [hg];omega
 case b3=>unfold maxLen;omega
 intro w1 hown hgrow;have hb:=qau hown;have hc:Below w.heap.size w w1:=(Ze1 _ w).grown hgrow (lrZ _) sZ;have ha:=hown.1;have hm:=zI (HI.out.below hc (lrZ _));generalize (madeCells #[Za1 iQ 0] zs.length).toList=cur at *;clear hown hgrow HI;go_wp2_with (with_reducible refine wpList_copy_splice rfl (.tmp 11) (.tmp 12) 22 22 rfl 3 underlying22 ?d1 (some ⟨w.heap.size,0,none⟩) A zs.length zs.length zs.length c rfl rfl w.heap.size 0 cur 3 hb (zs.map (Za1 iQ)) ?d2 ?d3 ?d4 ?d5 w.heap.size w hc (lrZ _) ?_)
 case d1=>kernel_rfl
 case d2=>simp
 case d3=>intro hp;exact hm.out.wM (by simpa using hp)
 case d4=>simp at ha ⊢;omega
 case d5=>intro v hv;obtain ⟨x,_,rfl⟩:=List.mem_map.1 hv;rfl
 intro w2 hw2 hf;have hs:=qde (cur:=cur) (cs:=zs.map (Za1 iQ)) (by simp at ha ⊢;omega);have hk:Blk w2 w.heap.size 3 (zs.map (Za1 iQ)).toArray:=by unfold Blk;rw [←hs];exact hw2.out
 have y:w2.cell? ⟨w.heap.size,i,none⟩=some (nQ iQ zs[i]):=by rw [hk.cell];simp [hi']
 have f:=hk.frozen i;have hd:=hk.aO i (nQ iQ v);have l0:(0:Int)<=(i:Int):=by omega
 have l1:(i:Int)<(zs.length:Int):=by omega
 obtain ⟨Hk,he⟩:=zd2 hk hd;clear hk hd;clear hw2 hc ha hs hb;go_wp2_with fail;go_ret;refine ⟨w.heap.size,by rw [List.length_set];rfl,Ints.dV λj hj=>?_,lrZ _,hf.setCell (lrZ _) _⟩;rw [Zw,he.out.cell j];rw [qa2 hj];simp at hj;simp [List.getElem_set,hj]
 split<;>simp_all
theorem qaV (side:Int):∀(a b:List (List Int)) (s:List Int),Od.bJ side s (a++b)=if (Od.bJ side s a).2=0 then Od.bJ side (Od.bJ side s a).1 b else ([],(Od.bJ side s a).2)
 | [],b,s=>by simp [Od.bJ]
 | t::a,b,s=>by
  rw [List.cons_append,Od.bJ,Od.bJ]
  split
  ·exact qaV side a b _
  ·rename_i h;simp
theorem qeu {side:Int} {l:List (List Int)} {s s1:List Int} {k:Nat} (hk:k<l.length) (h:Od.bJ side s (l.take k)=(s1,0)):
  ((Od.join s1 l[k] side).2=0->Od.bJ side s (l.take (k+1))=((Od.join s1 l[k] side).1,0))/\((Od.join s1 l[k] side).2≠0->Od.bJ side s l=([],(Od.join s1 l[k] side).2)):=by
 refine ⟨λe=>?_,λe=>?_⟩
 ·rw [Zb hk,qaV,h]
  simp [Od.bJ,e]
 ·have:l=l.take k++l[k]::l.drop (k+1):=by rw [←Zd hk,Zn]
  have e2:=congrArg (Od.bJ side s) this;rw [e2,qaV,h];simp [Od.bJ,e]
def qfZ (s t:List Int) (side:Int) (m:Nat):Prop:=∀j,j<m->(j:Int)=side∨s.getD j 0=t.getD j 0
theorem qgy {s t:List Int} {side:Int} (h:qfZ s t side s.length):Od.iR s t side=true:=by
 unfold Od.iR;rw [Zf];intro i hi;have:=h i (List.mem_range.1 hi);simpa using this
theorem qgz {s t:List Int} {side:Int} {m:Nat} (hm:m<s.length) (h1:(m:Int)≠side) (h2:s.getD m 0≠t.getD m 0):Od.iR s t side=false:=by
 unfold Od.iR;rw [List.all_eq_false];exact ⟨m,List.mem_range.2 hm,by simp [h1] ;simpa using h2⟩
theorem qev (side:Int) (X:Option Addr) (c:Nat) (xs:List (List Int)) (w:Zp1) (hX:bQ w X xs) (hl:xs.length<=1048576) (h1:1<=xs.length) (hr:∀s∈xs,Sh.right s=true):
  Calls prog 106 #[nQ iQ side,sQ X xs.length c] w (dJ (Od.joined side xs) w):=by
 obtain ⟨b0,off0,S0,c0,rfl,-,y0,hS,Ho,Hn⟩:=hX 0 oZ;have hQ:=hr xs[0] (gmZ oZ);have hW:xs.getD 0 []=xs[0]:=qad oZ;have hw:xs.drop 1=xs.drop 1:=rfl;have hG:Od.joined side xs=if xs.length=1/\Od.inR side xs[0]=false then ([],11) else Od.bJ side xs[0] (xs.drop 1):=by unfold Od.joined;rw [hW]
 have Hw:=(qa9 hQ).2;rw [Zx] at y0
 by_cases hd:xs.length=1/\Od.inR side xs[0]=false
 ·have HQ:=zI (show Od.joined side xs=([],11) by rw [hG,ipZ hd])
  have hb:=hd.2;have e1:((xs.length:Int)==1)=true:=by simp;omega
  have e1':(xs.length==1)=true:=by simp;omega
  simp [Od.inR] at hb;clear hG hw hW;generalize xs[0]=s at *;obtain ⟨HX,Hr,Ha,Hz,Hq⟩:=zd5 hX hr hS hQ hd;clear hX hr hS hQ hd
  by_cases hh:side<0
  ·have e2:decide (side<0)=true:=by simpa using hh
   clear hb;go_in;go_wp2_with fail
   go_ret2
   exact ⟨none,0,by rw [HQ.out];rfl,by rw [HQ.out];exact Ints.nil,by rw [HQ.out];exact lrZ _,by omega,Ze1 _ _⟩
  ·have e2:decide (side<0)=false:=by simpa using hh
   have e3:decide ((s.length:Int)<=side)=true:=by simpa using hb oZ
   clear hb;go_in;go_wp2_with fail
   go_ret2
   exact ⟨none,0,by rw [HQ.out];rfl,by rw [HQ.out];exact Ints.nil,by rw [HQ.out];exact lrZ _,by omega,Ze1 _ _⟩
 ·rw [inZ hd] at hG
  have h5:∀t∈xs.drop 1,Sh.right t=true:=λt ht=>hr t (Zp ht)
  have Hk:(xs.drop 1).length=xs.length-1:=by simp
  have h0:∀k (h:k<(xs.drop 1).length),∃S c,w.cell? ⟨b0,off0+(k+1),none⟩=some (sQ S (xs.drop 1)[k].length c)/\Ints iQ w S (xs.drop 1)[k]:=λk h=>by
   obtain ⟨b,off,S,c,e,-,hc,hI,-⟩:=hX (k+1) oZ;injection e with e
   injection e with e1 e2
   subst e1 e2;rw [List.getElem_drop];simp only [Nat.add_comm 1 k];exact ⟨S,c,hc,hI⟩
  have he:xs.length=1->Od.inR side xs[0]=true:=λh=>by by_cases q:Od.inR side xs[0]=true;exact q;exact absurd ⟨h,by simpa using q⟩ hd
  generalize xs[0]=s0 at *;obtain ⟨l,hl'⟩:∃l,xs.drop 1=l:=⟨_,rfl⟩
  rw [hl'] at h5 Hk h0 hG;clear hw hW hd hl';obtain ⟨HX,Hr,Ha,hO,Ht,Hl⟩:=zd6 hX hr hS hG h5 h0;clear hX hr hS hG h5 h0;go_in;go_upto_region 2 with fail
  go_cut [24] (λv wx=>v=.bool false/\w=wx)
  case first=>
   by_cases hY:xs.length=1
   ·have hn:=he hY
    simp [Od.inR] at hn;obtain ⟨p1,p2⟩:=hn;have e1:((xs.length:Int)==1)=true:=by simp;omega
    have e1':(xs.length==1)=true:=by simp;omega
    have e2:decide (side<0)=false:=by simp;omega
    have e3:decide ((s0.length:Int)<=side)=false:=by simp;omega
    clear he hY;go_wp2_with fail
    go_meet
    exact ⟨rfl,rfl⟩
   ·have e1:((xs.length:Int)==1)=false:=by simp;omega
    have e1':(xs.length==1)=false:=by simp;omega
    clear he hY;go_wp2_with fail
    go_meet
    exact ⟨rfl,rfl⟩
  case rest=>
   obtain ⟨rfl,rfl⟩:=hcut;clear he;go_wp2_with fail
   go_loopw [6,7] (λo i wr=>∃(k:Nat) (S:Option Addr) (d:Nat) (s:List Int),k<=l.length/\i=nQ iQ ((k:Int)+1)/\o=sQ S s.length d/\Ints iQ wr S s/\s.length<=d/\d<=9223372036854775807/\Sh.right s=true/\Od.bJ side s0 (l.take k)=(s,0)/\Below w.heap.size w wr) (λ_ i _=>l.length+1-(intOf i).toNat)
   case atStart=>exact ⟨0,S0,c0,s0,Zt _,rfl,rfl,Ha.out,Ho,Hn,hQ,rfl,Ze1 _ _⟩
   case round=>
    obtain ⟨k,S,d,s,hk,rfl,rfl,hI,Hp,Hj,hf,hv,hq⟩:=hrel
    by_cases h4:k<l.length
    ·obtain ⟨St,ct,yt,hy⟩:=Hl.out k h4
     have ho:=Ht.out _ (gmZ h4);obtain ⟨hC,hu⟩:=qeu h4 hv;generalize l[k]=t at *;have y1:=qa1 hq yt;have ha:=hy.below hq (lrZ _);obtain ⟨s3,s4⟩:=qa9 hf;obtain ⟨t3,t4⟩:=qa9 ho;have k1:((k:Int)+1)<(xs.length:Int):=by omega
     have k2:((k:Int)+1).toNat=k+1:=by omega
     have k0:(0:Int)<=(k:Int)+1:=by omega
     have k3:iQ.wrap ((k:Int)+1+1)=(k:Int)+1+1:=Zc1 _ oZ
     by_cases hs:t.length=s.length
     rotate_left
     ·have e1:((t.length:Int) != (s.length:Int))=true:=by rw [bne_iff_ne];omega
      have e2:(t.length != s.length)=true:=by rw [bne_iff_ne];omega
      have hj:Od.join s t side=([],20):=by unfold Od.join;rw [inZ];simp;intro _ _ h;exact absurd h.symm hs
      have HQ:=zI (hO.out.trans (hu (by rw [hj];simp)));have HJ:=zI hj;clear hC hu hs hj hv;obtain ⟨HI,h9,hM,hZ,He⟩:=zd5 hI hy ha hf ho;clear hI hy ha hf ho;go_wp2_with fail
      go_ret2
      exact ⟨none,0,by rw [HQ.out,HJ.out];rfl,by rw [HQ.out];exact Ints.nil,by rw [HQ.out];exact lrZ _,by omega,hq⟩
     ·by_cases hn:Od.inR side s=true
      rotate_left
      ·have hj:Od.join s t side=([],11):=by unfold Od.join;rw [ipZ (by simp [hf,ho,hs]),inZ hn]
       have HQ:=zI (hO.out.trans (hu (by rw [hj];simp)));have HJ:=zI hj;simp [Od.inR] at hn;rw [hs] at y1;clear hC hu hs hj hv;obtain ⟨HI,h9,hM,hZ,He⟩:=zd5 hI hy ha hf ho;clear hI hy ha hf ho
       by_cases hh:side<0
       ·have e2:decide (side<0)=true:=by simpa using hh
        clear hn;go_wp2_with fail
        go_ret2
        exact ⟨none,0,by rw [HQ.out,HJ.out];rfl,by rw [HQ.out];exact Ints.nil,by rw [HQ.out];exact lrZ _,by omega,hq⟩
       ·have e2:decide (side<0)=false:=by simpa using hh
        have e3:decide ((s.length:Int)<=side)=true:=by simpa using hn oZ
        clear hn;go_wp2_with fail
        go_ret2
        exact ⟨none,0,by rw [HQ.out,HJ.out];rfl,by rw [HQ.out];exact Ints.nil,by rw [HQ.out];exact lrZ _,by omega,hq⟩
      ·have hp:Od.join s t side=if Od.iR s t side&&Sh.right (Od.joinL s t side) then (Od.joinL s t side,0) else ([],20):=by unfold Od.join;rw [ipZ (by simp [hf,ho,hs]),ipZ hn]
       simp [Od.inR] at hn;obtain ⟨sd,rfl⟩:∃sd:Nat,side=(sd:Int):=⟨side.toNat,by omega⟩
       have hU:sd<s.length:=by omega
       have e2:decide ((sd:Int)<0)=false:=by simp
       have e3:decide ((s.length:Int)<=(sd:Int))=false:=by simp;omega
       have e3':decide (s.length<=sd)=false:=by simp;omega
       rw [hs] at y1;clear hn;obtain ⟨bS,offS,rfl,-,-⟩:=hI 0 s3;obtain ⟨bT,offT,rfl,-,-⟩:=ha 0 t3;have Hy:=(Sh.aT hf).2.2.2.1 s[sd] (gmZ hU);have hg:sd<t.length:=by omega
       have HA:=(Sh.aT ho).2.2.2.1 (t[sd]'hg) (gmZ hg);have hF:Od.joinL s t (sd:Int)=s.set sd (s[sd]+t[sd]'hg):=by unfold Od.joinL Od.at_;rw [tnZ,qa2 hU,qa2 hg]
       have Hh:∀m (h:m<s.length),wr.cell? ⟨bS,offS+m,none⟩=some (nQ iQ s[m]):=λm h=>by
        obtain ⟨b,o,e,-,hc⟩:=hI m h;injection e with e;injection e with e1 e2;subst e1 e2
        rw [hc,qa2 h]
       have h8:∀m (h:m<t.length),wr.cell? ⟨bT,offT+m,none⟩=some (nQ iQ t[m]):=λm h=>by
        obtain ⟨b,o,e,-,hc⟩:=ha m h;injection e with e;injection e with e1 e2;subst e1 e2
        rw [hc,qa2 h]
       have hK:=λm (hm:m<s.length)=>@qgz s t (sd:Int) m hm
       obtain ⟨HI,h9,hM,hZ,He,h2,hV,hD,Hs⟩:=zd9 hI hy ha hf ho hC hu hp hv;obtain ⟨Hm,Hf,h7,h6,h3⟩:=zd5 hs hF Hh h8 hK;clear hI hy ha hf ho hC hu hp hv hs hF Hh h8 hK;go_wp2_with fail;obtain ⟨wo,rfl⟩:∃wo,wo=wr:=⟨wr,rfl⟩
       go_loopw [8] (λi wx=>∃m q:Nat,m<=s.length/\i=nQ iQ (m:Int)/\qfZ s t (sd:Int) m/\wx=wo.drewN q) (λi _=>s.length-(intOf i).toNat)
       case atStart=>exact ⟨0,0,Zt _,rfl,λj hj=>by omega,rfl⟩
       case round=>
        obtain ⟨m,q,hm,rfl,hB,rfl⟩:=hrel
        by_cases hR:m<s.length
        ·have hA:m<t.length:=by have:=Hm.out;omega
         have z1:=h7.out m hR;have z2:=h6.out m hA;have m0:(0:Int)<=(m:Int):=by omega
         have m1:(m:Int)<(s.length:Int):=by omega
         by_cases hE:m=sd
         ·have e4:((m:Int) != (sd:Int))=false:=by simp [hE]
          have e4':(m != sd)=false:=by simp [hE]
          have HT:=zI (show qfZ s t (sd:Int) (m+1) from λj hj=>by
           by_cases e:j=m
           ·left;omega
           ·exact hB j oZ)
          clear hB hE;go_wp2_with fail
          go_quiet (fail)
          go_wp2_with fail;go_roundw
          case rel=>exact ⟨m+1,_,by omega,by go_num,HT.out,by first|rfl|exact World.drewN_drewN _ _ _⟩
          case measure=>simp [intOf];omega
         ·have e4:((m:Int) != (sd:Int))=true:=by rw [bne_iff_ne];omega
          have e4':(m != sd)=true:=by rw [bne_iff_ne];exact hE
          by_cases hH:s[m]=t[m]
          ·have e5:(s[m] != t[m])=false:=by simp [hH]
           have HT:=zI (show qfZ s t (sd:Int) (m+1) from λj hj=>by
            by_cases e:j=m
            ·right;subst e;rw [qa2 hR,qa2 hA,hH]
            ·exact hB j oZ)
           clear hB hE hH;generalize s[m]=x at *;generalize t[m]=y at *;go_wp2_with fail
           go_quiet (fail)
           go_wp2_with fail;go_roundw
           case rel=>exact ⟨m+1,_,by omega,by go_num,HT.out,by first|rfl|exact World.drewN_drewN _ _ _⟩
           case measure=>simp [intOf];omega
          ·have e5:(s[m] != t[m])=true:=by simp [hH]
           have Hc:=h3.out m hR oZ (by rw [qa2 hR,qa2 hA];exact hH);have hj:Od.join s t (sd:Int)=([],20):=by rw [hD.out,Hc];simp
           have HQ:=zI (hO.out.trans (hV.out (by rw [hj];simp)));have HJ:=zI hj;clear hB hE hH Hc hj;generalize s[m]=x at *;generalize t[m]=y at *;go_wp2_with fail
           go_quiet (fail)
           go_wp2_with fail
           go_ret2
           exact ⟨none,0,by rw [HQ.out,HJ.out];rfl,by rw [HQ.out];exact Ints.nil,by rw [HQ.out];exact lrZ _,by omega,by first|exact qac hq _|(rw [World.drewN_drewN];exact qac hq _)⟩
        ·obtain rfl:m=s.length:=by omega
         have hL:=qgy hB;have z1:=h7.out sd hU;have z2:=h6.out sd hg;have Hg:=HI.out.drewN q;have m0:(0:Int)<=(sd:Int):=by omega
         have m1:(sd:Int)<(s.length:Int):=by omega
         have hF:=Hf.out;have hp:=hD.out;rw [hL,Bool.true_and,hF] at hp;have hC:=h2.out;have hu:=hV.out;generalize s[sd]=x at *;generalize t[sd]=y at *;have ww:iQ.wrap (x+y)=x+y:=Zc1 _ oZ;clear hB hL;obtain ⟨Hu,Hf,hD,h2,hV⟩:=zd5 Hg hF hp hC hu;clear Hg hF hp hC hu;go_upto_region 16 with fail
         go_region_held3 (λw'=>w'.cell? ⟨bS,offS+sd,none⟩=some (nQ iQ x)/\w'.cell? ⟨b0,off0+(k+1),none⟩=some (sQ (some ⟨bT,offT,none⟩) s.length ct)/\w'.cell? ⟨bT,offT+sd,none⟩=some (nQ iQ y)) (first|go_keep|(exact ⟨qa1 hx z1,qa1 hx y1,qa1 hx z2⟩))
          ((go_at_call 105;refine (qbX _ _ s sd (x+y) _ oZ (by exact Hu.out) hU).mono ?_;rintro e w9 ⟨g,rfl,hP,Hv,hx⟩))
         have hN:=hq.trans ((show Below wo.heap.size wo w9 from ⟨hx.os,hx.tape,hx.output,hx.size,hx.block⟩).mono hq.size);have hT:(s.set sd (x+y)).length=s.length:=List.length_set;obtain ⟨s',hs'⟩:∃s',s.set sd (x+y)=s':=⟨_,rfl⟩
         have hp:=hD.out;rw [hs'] at hP hT hp;have hi:=qaO (some ⟨g,0,none⟩) s.length s' w9 oZ hP;rw [hT] at hi;obtain ⟨hJ,Hi,Hd,hD⟩:=zd4 hi hP hT hp;have Hx:=zI hs';clear hi hP hT hp hs';go_wp2_with fail;refine (hJ.out).mono ?_;rintro e w10 ⟨rfl,rfl⟩
         by_cases hz:Sh.right s'=true
         ·have hj:=hD.out
          rw [ipZ hz] at hj;have HS:=zI (h2.out (by rw [hj]));have HJ:=zI hj;have HR:=zI hz;rw [hz];clear hj hz z1 z2 y1;go_wp2_with fail;go_roundw
          case rel=>exact ⟨k+1,some ⟨g,0,none⟩,s.length,s',by omega,by go_num,by rw [Hd.out],Hi.out,by have:=Hd.out;omega,by omega,HR.out,by rw [HS.out,HJ.out],hN⟩
          case measure=>simp [intOf];omega
         ·have hj:=hD.out
          rw [inZ hz] at hj;have HQ:=zI (hO.out.trans (hV.out (by rw [hj];simp)));have HJ:=zI hj;have Hb:Sh.right s'=false:=by simpa using hz
          rw [Hb];clear hj hz Hb z1 z2 y1;go_wp2_with fail
          go_ret2
          exact ⟨none,0,by rw [HQ.out,HJ.out];rfl,by rw [HQ.out];exact Ints.nil,by rw [HQ.out];exact lrZ _,by omega,hN⟩
    ·obtain rfl:k=l.length:=by omega
     rw [Zg] at hv;have HQ:=zI (hO.out.trans hv);have k1:¬((l.length:Int)+1)<(xs.length:Int):=by omega
     obtain ⟨HI,Hs,hZ⟩:=zd3 hI hv hf;clear hI hv hf;go_wp2_with fail
     go_ret2
     exact ⟨S,d,by rw [HQ.out];rfl,by rw [HQ.out];exact HI.out,by rw [HQ.out];exact Hp,Hj,hq⟩
theorem bQ.each {w:Zp1} {b off:Nat} {xs:List (List Int)} (h:bQ w (some ⟨b,off,none⟩) xs) {k:Nat} (hk:k<xs.length):
  ∃S c,w.cell? ⟨b,off+k,none⟩=some (sQ S xs[k].length c)/\Ints iQ w S xs[k]/\xs[k].length<=c/\c<=9223372036854775807:=by
 obtain ⟨b',o',S,c,e,-,hc,hI,h1,h2⟩:=h k hk;injection e with e
 injection e with e1 e2
 subst e1 e2;exact ⟨S,c,hc,hI,h1,h2⟩
theorem Ints.at_ {k:IntKind} {w:Zp1} {b off:Nat} {zs:List Int} (h:Ints k w (some ⟨b,off,none⟩) zs) {j:Nat} (hj:j<zs.length):w.cell? ⟨b,off+j,none⟩=some (.int k zs[j]):=by
 obtain ⟨b',o',e,-,hc⟩:=h j hj;injection e with e
 injection e with e1 e2
 subst e1 e2;rw [hc,qa2 hj]
theorem dJ.err {r:List Int × Int} {w w':Zp1} {n:Int} (h:r=([],n)) (hb:Below w.heap.size w w'):dJ r w (.returned (.tuple #[sQ none 0 0,nQ iQ n])) w':=
 ⟨none,0,by rw [h];rfl,by rw [h];exact Ints.nil,by rw [h];exact lrZ _,by omega,hb⟩
theorem dJ.ok {r:List Int × Int} {w w':Zp1} {S:Option Addr} {s:List Int} {c n:Nat} (h:r=(s,0)) (hn:s.length=n) (hI:Ints iQ w' S s) (h1:s.length<=c) (h2:c<=9223372036854775807) (hb:Below w.heap.size w w'):dJ r w (.returned (.tuple #[sQ S n c,nQ iQ 0])) w':=by
 subst hn;exact ⟨S,c,by rw [h],by rw [h];exact hI,by rw [h];exact h1,h2,hb⟩
theorem qdK {B:Nat} {a w:Zp1} (h:Below B a w) (n m:Nat):Below B a ((w.drewN n).drewN m):=qac (qac h n) m
theorem list_two {l:List Int} (h:l.length=2):∃a b,l=[a,b]:=by
 match l,h with
 | [a,b],_=>exact ⟨a,b,rfl⟩
theorem qhD {l:List Int} (h:l.length=1):∃x,l=[x]:=by
 match l,h with
 | [x],_=>exact ⟨x,rfl⟩
theorem qd7 (o:OpD) (S P X:Option Addr) (c d f:Nat) (p x:List (List Int)) (w:Zp1) (hk:o.kind<=7) (ho:o.s.length<=1099511627776) (hsc:o.s.length<=c) (hsm:c<=9223372036854775807) (hw:o.wide) (hS:Ints iQ w S o.s) (hP:bQ w P p) (hX:bQ w X x) (hxl:x.length<=1048576) (h1:1<=x.length) (hp:∀s∈p,Sh.right s=true) (hx:∀s∈x,Sh.right s=true):
  Calls prog 71 #[.agg #[nQ iQ o.kind,nQ iQ o.k,nQ iQ o.width,nQ iQ o.step,nQ iQ o.side,nQ iQ o.frm,nQ iQ o.to,sQ S o.s.length c],sQ P p.length d,sQ X x.length f] w (dJ (Od.aZ o p x) w):=by
 have hq:Od.aZ o p x=Od.same x:=by unfold Od.aZ;rw [inZ oZ,inZ oZ,inZ oZ,inZ oZ,inZ oZ,inZ oZ,inZ oZ]
 obtain ⟨bx,ox,S0,c0,rfl,-⟩:=hX 0 h1;have hb:Below w.heap.size w (w.alloc (.cells #[nQ iQ o.kind,nQ iQ o.k,nQ iQ o.width,nQ iQ o.step,nQ iQ o.side,nQ iQ o.frm,nQ iQ o.to,sQ S o.s.length c] 83)):=(Ze1 _ _).alloc (lrZ _) _;have hf:=Blk.new w 83 #[nQ iQ o.kind,nQ iQ o.k,nQ iQ o.width,nQ iQ o.step,nQ iQ o.side,nQ iQ o.frm,nQ iQ o.to,sQ S o.s.length c];obtain ⟨z0,z1,z2,z3,z4,z5,z6,z7⟩:=qam hf;have hg:=hX.below hb (lrZ _);have hs:=hP.below hb (lrZ _);have hn:=hS.below hb (lrZ _);have hc:=hx x[0] (gmZ h1);have hd:x.getD 0 []=x[0]:=qad h1
 first|rw [hd] at hq|skip
 have e1:decide (o.kind<=7)=true:=by simpa using hk
 clear hk;obtain ⟨hK,HX,HP,HS,Hp,Hx⟩:=zd6 hf hX hP hS hp hx;clear hf hX hP hS hp hx;go_in;go_upto_region 1 with fail;generalize (w.alloc (.cells #[nQ iQ o.kind,nQ iQ o.k,nQ iQ o.width,nQ iQ o.step,nQ iQ o.side,nQ iQ o.frm,nQ iQ o.to,sQ S o.s.length c] 83))=w1 at *;obtain ⟨S0',c0',y0,hv,hG,hF⟩:=hg.each h1;rw [Zx] at y0;clear S0;generalize hs0:x[0]=s0 at *;have hz:=(Sh.aT hc).2.2.2.1;obtain ⟨s3,s4⟩:=qa9 hc;obtain ⟨hD,hN,hJ,hh,hE,Hq,hy,hI,hQ⟩:=zd9 hg hs hn hv hc hq hd hs0 hz;have Hw:=zI hw;clear hg hs hn hv hc hq hd hs0 hz hw;go_wp2_with fail;refine (qal S0' c0' s0 w1 hE.out hh.out).mono ?_;rintro e w2 ⟨rfl,rfl⟩;go_wp2_with fail
 go_loopw [10] (λi wx=>∃k q:Nat,k<=x.length/\i=nQ iQ (k:Int)/\(∀j (hj:j<x.length),j<k->x[j]=s0)/\wx=w1.drewN q) (λi _=>x.length-(intOf i).toNat)
 case atStart=>exact ⟨0,0,Zt _,rfl,λj hj h=>by omega,rfl⟩
 case round=>
  obtain ⟨k,q,hk,rfl,ha,rfl⟩:=hrel
  by_cases hl:k<x.length
  ·obtain ⟨Sk,ck,yk,hm,hM,hO⟩:=hD.out.each hl
   have k0:(0:Int)<=(k:Int):=by omega
   have k1:(k:Int)<(x.length:Int):=by omega
   have hr:x[k]=s0->∀j (hj:j<x.length),j<k+1->x[j]=s0:=λe j hj hR=>by
    by_cases h:j=k
    ·subst h;exact e
    ·exact ha j hj oZ
   have hu:x[k]≠s0->Od.same x=([],20):=λe=>by
    unfold Od.same;rw [inZ];rw [Zf];intro h;have:=h x[k] (gmZ hl);rw [hy.out] at this;exact e (by simpa using this)
   have hi:=Hx.out x[k] (gmZ hl);obtain ⟨a3,a4⟩:=qa9 hi;generalize x[k]=t at *;obtain ⟨hB,hC,hA,hH,hL⟩:=zd5 hm ha hr hu hi;clear hm ha hr hu hi;go_wp2_with fail;refine (qbm Sk S0' ck c0' t s0 _ oZ oZ (hB.out.drewN q) (hh.out.drewN q)).mono ?_;rintro e w3 ⟨rfl,q2,rfl⟩
   by_cases he:t=s0
   ·have e1:decide (t=s0)=true:=by simpa using he
    have HG:=zI (hA.out he);rw [e1];clear he e1;go_wp2_with fail;go_roundw
    case rel=>exact ⟨k+1,_,by omega,by go_num,HG.out,by first|rfl|exact World.drewN_drewN _ _ _⟩
    case measure=>simp [intOf];omega
   ·have e1:decide (t=s0)=false:=by simpa using he
    have HN:=zI (Hq.out.trans (hH.out he));rw [e1];clear he e1;go_wp2_with fail
    go_ret2
    exact dJ.err HN.out (by first|exact qdK hb _ _|exact qac hb _)
  ·obtain rfl:k=x.length:=by omega
   have HN:=zI (Hq.out.trans (show Od.same x=(s0,0) by
    unfold Od.same;rw [hy.out,ipZ];rw [Zf];intro t ht;obtain ⟨j,hj,rfl⟩:=List.getElem_of_mem ht;simpa using ha j hj hj))
   clear ha;go_wp2_with fail
   go_ret2
   exact dJ.ok HN.out rfl (hh.out.drewN q) hG hF (by first|exact qdK hb _ _|exact qac hb _)
theorem qbY (o:OpD) (S P X:Option Addr) (c d f:Nat) (p x:List (List Int)) (w:Zp1) (hk:o.kind=9) (hpl:p.length=1) (ho:o.s.length<=1099511627776) (hsc:o.s.length<=c) (hsm:c<=9223372036854775807) (hw:o.wide) (hS:Ints iQ w S o.s) (hP:bQ w P p) (hX:bQ w X x) (hxl:x.length<=1048576) (h1:1<=x.length) (hp:∀s∈p,Sh.right s=true) (hx:∀s∈x,Sh.right s=true):
  Calls prog 71 #[.agg #[nQ iQ o.kind,nQ iQ o.k,nQ iQ o.width,nQ iQ o.step,nQ iQ o.side,nQ iQ o.frm,nQ iQ o.to,sQ S o.s.length c],sQ P p.length d,sQ X x.length f] w (dJ (Od.aZ o p x) w):=by
 have hq:Od.aZ o p x=Od.same [p.getD 0 [],x.getD 0 []]:=by unfold Od.aZ;simp [hk]
 obtain ⟨bx,ox,S0,c0,rfl,-⟩:=hX 0 h1;obtain ⟨bp,op,T0,d0,rfl,-⟩:=hP 0 oZ;have ha:Below w.heap.size w (w.alloc (.cells #[nQ iQ o.kind,nQ iQ o.k,nQ iQ o.width,nQ iQ o.step,nQ iQ o.side,nQ iQ o.frm,nQ iQ o.to,sQ S o.s.length c] 83)):=(Ze1 _ _).alloc (lrZ _) _;have hh:=Blk.new w 83 #[nQ iQ o.kind,nQ iQ o.k,nQ iQ o.width,nQ iQ o.step,nQ iQ o.side,nQ iQ o.frm,nQ iQ o.to,sQ S o.s.length c];obtain ⟨z0,z1,z2,z3,z4,z5,z6,z7⟩:=qam hh;have hj:=hX.below ha (lrZ _);have hi:=hP.below ha (lrZ _);have hl:=hS.below ha (lrZ _);have hb:=hx x[0] (gmZ h1);have hf:x.getD 0 []=x[0]:=qad h1
 first|rw [hf] at hq|skip
 have hc:=hp p[0] (gmZ oZ);have hg:p.getD 0 []=p[0]:=qad oZ
 first|rw [hg] at hq|skip
 have l7:decide (o.kind<=7)=false:=by simp;omega
 have e8:(o.kind==8)=false:=by simp;omega
 have e9:(o.kind==9)=true:=by simp;omega
 clear hk;obtain ⟨hJ,HX,HP,HS,Hp,Hx⟩:=zd6 hh hX hP hS hp hx;clear hh hX hP hS hp hx;go_in;go_upto_region 1 with fail;generalize (w.alloc (.cells #[nQ iQ o.kind,nQ iQ o.k,nQ iQ o.width,nQ iQ o.step,nQ iQ o.side,nQ iQ o.frm,nQ iQ o.to,sQ S o.s.length c] 83))=w1 at *;obtain ⟨S0',c0',y0,hm,hv,hu⟩:=hj.each h1;rw [Zx] at y0;obtain ⟨T0',d0',v0,hr,hy,hG⟩:=hi.each (show 0<p.length by omega);rw [Zx] at v0;clear T0;clear S0;generalize hs0:x[0]=s0 at *;generalize hsp:p[0]=t0 at *;obtain ⟨q3,q4⟩:=qa9 hc;have hn:=(Sh.aT hb).2.2.2.1;obtain ⟨s3,s4⟩:=qa9 hb;obtain ⟨hA,hE,hF,hd,hs,Hq,hH,hC,hI⟩:=zd9 hj hi hl hm hb hq hf hs0 hn;obtain ⟨Hw,ht,hD,hz,hB⟩:=zd5 hw hr hc hg hsp;clear hj hi hl hm hb hq hf hs0 hn hw hr hc hg hsp;go_wp2_with fail;refine (qal S0' c0' s0 w1 hs.out hd.out).mono ?_;rintro e w2 ⟨rfl,rfl⟩;go_wp2_with fail;refine (qbm T0' S0' d0' c0' t0 s0 _ oZ oZ ht.out hd.out).mono ?_;rintro e w3 ⟨rfl,q2,rfl⟩
 by_cases he:t0=s0
 ·have e1:decide (t0=s0)=true:=by simpa using he
  have HN:=zI (Hq.out.trans (show Od.same [t0,s0]=(s0,0) by simp [Od.same,he]));rw [e1];clear he e1;go_wp2_with fail
  go_ret2
  exact dJ.ok HN.out rfl (hd.out.drewN q2) hv hu (qac ha _)
 ·have e1:decide (t0=s0)=false:=by simpa using he
  have HN:=zI (Hq.out.trans (show Od.same [t0,s0]=([],20) by
   unfold Od.same;rw [inZ];simp;intro e;exact he e.symm))
  rw [e1];clear he e1;go_wp2_with fail
  go_ret2
  exact dJ.err HN.out (qac ha _)
theorem qcn (o:OpD) (S P X:Option Addr) (c d f:Nat) (p x:List (List Int)) (w:Zp1) (hk:o.kind=13) (ho:o.s.length<=1099511627776) (hsc:o.s.length<=c) (hsm:c<=9223372036854775807) (hw:o.wide) (hS:Ints iQ w S o.s) (hP:bQ w P p) (hX:bQ w X x) (hxl:x.length<=1048576) (h1:1<=x.length) (hp:∀s∈p,Sh.right s=true) (hx:∀s∈x,Sh.right s=true):
  Calls prog 71 #[.agg #[nQ iQ o.kind,nQ iQ o.k,nQ iQ o.width,nQ iQ o.step,nQ iQ o.side,nQ iQ o.frm,nQ iQ o.to,sQ S o.s.length c],sQ P p.length d,sQ X x.length f] w (dJ (Od.aZ o p x) w):=by
 have hq:Od.aZ o p x=Od.joined o.side x:=by unfold Od.aZ;simp [hk]
 obtain ⟨bx,ox,S0,c0,rfl,-⟩:=hX 0 h1;have ha:Below w.heap.size w (w.alloc (.cells #[nQ iQ o.kind,nQ iQ o.k,nQ iQ o.width,nQ iQ o.step,nQ iQ o.side,nQ iQ o.frm,nQ iQ o.to,sQ S o.s.length c] 83)):=(Ze1 _ _).alloc (lrZ _) _;have hf:=Blk.new w 83 #[nQ iQ o.kind,nQ iQ o.k,nQ iQ o.width,nQ iQ o.step,nQ iQ o.side,nQ iQ o.frm,nQ iQ o.to,sQ S o.s.length c];obtain ⟨z0,z1,z2,z3,z4,z5,z6,z7⟩:=qam hf;have hg:=hX.below ha (lrZ _);have hn:=hP.below ha (lrZ _);have hi:=hS.below ha (lrZ _);have hb:=hx x[0] (gmZ h1);have hd:x.getD 0 []=x[0]:=qad h1
 first|rw [hd] at hq|skip
 have l7:decide (o.kind<=7)=false:=by simp;omega
 have l12:decide (o.kind<=12)=false:=by simp;omega
 have e8:(o.kind==8)=false:=by simp;omega
 have e9:(o.kind==9)=false:=by simp;omega
 have e10:(o.kind==10)=false:=by simp;omega
 have e13:(o.kind==13)=true:=by simp;omega
 clear hk;obtain ⟨hG,HX,HP,HS,Hp,Hx⟩:=zd6 hf hX hP hS hp hx;clear hf hX hP hS hp hx;go_in;go_upto_region 1 with fail;generalize (w.alloc (.cells #[nQ iQ o.kind,nQ iQ o.k,nQ iQ o.width,nQ iQ o.step,nQ iQ o.side,nQ iQ o.frm,nQ iQ o.to,sQ S o.s.length c] 83))=w1 at *;obtain ⟨S0',c0',y0,hl,hH,hD⟩:=hg.each h1;rw [Zx] at y0;clear S0;generalize hs0:x[0]=s0 at *;have hm:=(Sh.aT hb).2.2.2.1;obtain ⟨s3,s4⟩:=qa9 hb;obtain ⟨ht,hB,hC,hs,hy,Hq,hE,hA,hF⟩:=zd9 hg hn hi hl hb hq hd hs0 hm;have Hw:=zI hw;clear hg hn hi hl hb hq hd hs0 hm hw;go_wp2_with fail;refine (qal S0' c0' s0 w1 hy.out hs.out).mono ?_;rintro e w2 ⟨rfl,rfl⟩;go_wp2_with fail;refine (qev o.side (some ⟨bx,ox,none⟩) f x _ ht.out hxl h1 Hx.out).mono ?_;rintro e w3 ⟨S9,c9,rfl,hj,hz,hr,hu⟩;have hc:=ha.trans (hu.mono ha.size);have hh:=Hq.out;generalize Od.joined o.side x=r at *;obtain ⟨hv,he⟩:=zd2 hj hh;clear hj hh;go_wp2_with fail
 go_ret2
 exact ⟨S9,c9,by rw [he.out];rfl,by rw [he.out];exact hv.out,by rw [he.out];exact hz,hr,hc⟩
theorem qco (o:OpD) (S P X:Option Addr) (c d f:Nat) (p x:List (List Int)) (w:Zp1) (hk:o.kind=15) (ho:o.s.length<=1099511627776) (hsc:o.s.length<=c) (hsm:c<=9223372036854775807) (hw:o.wide) (hS:Ints iQ w S o.s) (hP:bQ w P p) (hX:bQ w X x) (hxl:x.length<=1048576) (h1:1<=x.length) (hp:∀s∈p,Sh.right s=true) (hx:∀s∈x,Sh.right s=true):
  Calls prog 71 #[.agg #[nQ iQ o.kind,nQ iQ o.k,nQ iQ o.width,nQ iQ o.step,nQ iQ o.side,nQ iQ o.frm,nQ iQ o.to,sQ S o.s.length c],sQ P p.length d,sQ X x.length f] w (dJ (Od.aZ o p x) w):=by
 have hq:Od.aZ o p x=Od.turned (x.getD 0 []) o.s:=by unfold Od.aZ;simp [hk]
 obtain ⟨bx,ox,S0,c0,rfl,-⟩:=hX 0 h1;have ha:Below w.heap.size w (w.alloc (.cells #[nQ iQ o.kind,nQ iQ o.k,nQ iQ o.width,nQ iQ o.step,nQ iQ o.side,nQ iQ o.frm,nQ iQ o.to,sQ S o.s.length c] 83)):=(Ze1 _ _).alloc (lrZ _) _;have hg:=Blk.new w 83 #[nQ iQ o.kind,nQ iQ o.k,nQ iQ o.width,nQ iQ o.step,nQ iQ o.side,nQ iQ o.frm,nQ iQ o.to,sQ S o.s.length c];obtain ⟨z0,z1,z2,z3,z4,z5,z6,z7⟩:=qam hg;have hh:=hX.below ha (lrZ _);have hs:=hP.below ha (lrZ _);have hi:=hS.below ha (lrZ _);have hb:=hx x[0] (gmZ h1);have hd:x.getD 0 []=x[0]:=qad h1
 first|rw [hd] at hq|skip
 have l7:decide (o.kind<=7)=false:=by simp;omega
 have l12:decide (o.kind<=12)=false:=by simp;omega
 have e8:(o.kind==8)=false:=by simp;omega
 have e9:(o.kind==9)=false:=by simp;omega
 have e10:(o.kind==10)=false:=by simp;omega
 have e13:(o.kind==13)=false:=by simp;omega
 have e14:(o.kind==14)=false:=by simp;omega
 clear hk;obtain ⟨hD,HX,HP,HS,Hp,Hx⟩:=zd6 hg hX hP hS hp hx;clear hg hX hP hS hp hx;go_in;go_upto_region 1 with fail;generalize (w.alloc (.cells #[nQ iQ o.kind,nQ iQ o.k,nQ iQ o.width,nQ iQ o.step,nQ iQ o.side,nQ iQ o.frm,nQ iQ o.to,sQ S o.s.length c] 83))=w1 at *;obtain ⟨S0',c0',y0,hl,hE,hA⟩:=hh.each h1;rw [Zx] at y0;clear S0;generalize hs0:x[0]=s0 at *;have hm:=(Sh.aT hb).2.2.2.1;obtain ⟨s3,s4⟩:=qa9 hb;obtain ⟨hv,hz,hf,ht,hj,Hq,hB,hy,hC⟩:=zd9 hh hs hi hl hb hq hd hs0 hm;have Hw:=zI hw;clear hh hs hi hl hb hq hd hs0 hm hw;go_wp2_with fail;refine (qal S0' c0' s0 w1 hj.out ht.out).mono ?_;rintro e w2 ⟨rfl,rfl⟩;go_wp2_with fail;refine (qaO S c o.s _ oZ hf.out).mono ?_;rintro e w3 ⟨rfl,rfl⟩
 by_cases hr:Sh.right o.s=true
 ·rw [hr]
  have hn:=Hq.out;unfold Od.turned at hn;rw [hj.out,hr,Bool.true_and,Bool.true_and] at hn;obtain ⟨hu,HN⟩:=zd2 hr hn;clear hr hn;go_wp2_with fail;refine (qal S c o.s _ hu.out hf.out).mono ?_;rintro e w3 ⟨rfl,rfl⟩
  by_cases he:Safe.prod o.s=Safe.prod s0
  ·have e1:(Safe.prod o.s != Safe.prod s0)=false:=by simp [he]
   have HM:=zI (HN.out.trans (ipZ (decide_eq_true he)));clear he;go_wp2_with fail
   go_ret2
   exact dJ.ok HM.out rfl hf.out hsc hsm ha
  ·have e1:(Safe.prod o.s != Safe.prod s0)=true:=by simp [he]
   have HM:=zI (HN.out.trans (inZ (by simpa using he)));clear he;go_wp2_with fail
   go_ret2
   exact dJ.err HM.out ha
 ·have hc:Sh.right o.s=false:=by simpa using hr
  rw [hc];have HM:=zI (Hq.out.trans (show Od.turned s0 o.s=([],20) by unfold Od.turned;rw [hc];simp));clear hr hc;go_wp2_with fail
  go_ret2
  exact dJ.err HM.out ha
theorem qcp (o:OpD) (S P X:Option Addr) (c d f:Nat) (p x:List (List Int)) (w:Zp1) (hk:o.kind=11∨o.kind=12) (ho:o.s.length<=1099511627776) (hsc:o.s.length<=c) (hsm:c<=9223372036854775807) (hw:o.wide) (hS:Ints iQ w S o.s) (hP:bQ w P p) (hX:bQ w X x) (hxl:x.length<=1048576) (h1:1<=x.length) (hp:∀s∈p,Sh.right s=true) (hx:∀s∈x,Sh.right s=true):
  Calls prog 71 #[.agg #[nQ iQ o.kind,nQ iQ o.k,nQ iQ o.width,nQ iQ o.step,nQ iQ o.side,nQ iQ o.frm,nQ iQ o.to,sQ S o.s.length c],sQ P p.length d,sQ X x.length f] w (dJ (Od.aZ o p x) w):=by
 have hq:Od.aZ o p x=Od.pool (x.getD 0 []) o.width o.step:=by unfold Od.aZ;rw [inZ oZ,inZ oZ,inZ oZ,ipZ hk]
 obtain ⟨bx,ox,S0,c0,rfl,-⟩:=hX 0 h1;have hf:Below w.heap.size w (w.alloc (.cells #[nQ iQ o.kind,nQ iQ o.k,nQ iQ o.width,nQ iQ o.step,nQ iQ o.side,nQ iQ o.frm,nQ iQ o.to,sQ S o.s.length c] 83)):=(Ze1 _ _).alloc (lrZ _) _;have hs:=Blk.new w 83 #[nQ iQ o.kind,nQ iQ o.k,nQ iQ o.width,nQ iQ o.step,nQ iQ o.side,nQ iQ o.frm,nQ iQ o.to,sQ S o.s.length c];obtain ⟨z0,z1,z2,z3,z4,z5,z6,z7⟩:=qam hs;have ht:=hX.below hf (lrZ _);have hE:=hP.below hf (lrZ _);have hB:=hS.below hf (lrZ _);have hm:=hx x[0] (gmZ h1);have hr:x.getD 0 []=x[0]:=qad h1
 first|rw [hr] at hq|skip
 have l7:decide (o.kind<=7)=false:=by simp;omega
 have e8:(o.kind==8)=false:=by simp;omega
 have e9:(o.kind==9)=false:=by simp;omega
 have e10:(o.kind==10)=false:=by simp;omega
 have l12:decide (o.kind<=12)=true:=by simp;omega
 clear hk;obtain ⟨hW,HX,HP,HS,Hp,Hx⟩:=zd6 hs hX hP hS hp hx;clear hs hX hP hS hp hx;go_in;go_upto_region 1 with fail;generalize (w.alloc (.cells #[nQ iQ o.kind,nQ iQ o.k,nQ iQ o.width,nQ iQ o.step,nQ iQ o.side,nQ iQ o.frm,nQ iQ o.to,sQ S o.s.length c] 83))=w1 at *;obtain ⟨S0',c0',y0,hG,h4,h2⟩:=ht.each h1;rw [Zx] at y0;clear S0;generalize hs0:x[0]=s0 at *;have hI:=(Sh.aT hm).2.2.2.1;obtain ⟨s3,s4⟩:=qa9 hm;obtain ⟨hY,h0,hV,hn,hF,Hq,h3,hT,hQ⟩:=zd9 ht hE hB hG hm hq hr hs0 hI;have Hw:=zI hw;clear ht hE hB hG hm hq hr hs0 hI hw;go_wp2_with fail;refine (qal S0' c0' s0 w1 hF.out hn.out).mono ?_;rintro e w2 ⟨rfl,rfl⟩;have hg:s0.length-1<s0.length:=by omega
 have hc:=Hq.out;unfold Od.pool at hc;rw [ipZ hF.out,qa2 hg] at hc;obtain ⟨bs,os,rfl,-,-⟩:=hn.out 0 s3;have g0:=hn.out.at_ hg;have hU:=hQ.out _ (gmZ hg);have i1:iQ.wrap ((s0.length:Int)-1)=((s0.length-1:Nat):Int):=by rw [Zc1 _ oZ];omega
 have i2:(0:Int)<=((s0.length-1:Nat):Int):=by omega
 have i3:((s0.length-1:Nat):Int)<(s0.length:Int):=by omega
 have hd:=λn:Nat=>qc9 s0[s0.length-1] o.width o.step (w1.drewN n)
 have hH:=@Od.nM s0[s0.length-1] o.width o.step;have hj:=@Od.jX s0[s0.length-1] o.width o.step;generalize s0[s0.length-1]=z at *;have he:∀v,(s0.set (s0.length-1) v).length=s0.length:=λv=>List.length_set
 have ha:=λ(n:Nat) (v:Int)=>qbX (some ⟨bs,os,none⟩) c0' s0 (s0.length-1) v (w1.drewN n) oZ (hn.out.drewN n) hg
 obtain ⟨l,hl⟩:∃l:Nat,s0.length-1=l:=⟨_,rfl⟩
 have hA:(s0.length:Int)-1=(l:Int):=by omega
 rw [hl] at g0 i1 i2 i3 ha hc he;have i4:l<s0.length:=by omega
 obtain ⟨hi,hh,hK,hy,hu,Hl,hZ⟩:=zd7 hc hd hH hj he hl hA;clear hc hd hH hj he hl hA;have hO:=zI ha;clear ha hg;go_wp2_with fail
 go_quiet ((go_at_call 104;exact qab (hh.out _)))
 rename_i nq;generalize hwv:Od.window z o.width o.step=wv at *
 by_cases hz:wv.2=0
 ·have hb:=hK.out hz
  have e1:(wv.1==0)=false:=by simp;omega
  have HN:=zI (hi.out.trans (ipZ hz));have HC:=zI (hO.out nq wv.1);clear hz hb;have hM:=zI hwv;clear hwv;go_wp2_with fail;refine (HC.out).mono ?_;rintro e w3 ⟨g,rfl,hD,hR,hN⟩;have hv:=(qac hf nq).trans (hN.mono hf.size);have hC:=hu.out wv.1;generalize s0.set l wv.1=s9 at *;obtain ⟨hJ,hL⟩:=zd2 hD hC;clear hD hC;go_wp2_with fail
  go_ret2
  exact dJ.ok HN.out rfl hJ.out (lrZ _) (by have:=hL.out;omega) hv
 ·have hb:=hy.out hz
  have e1:(wv.1==0)=true:=by rw [hb];rfl
  have HN:=zI (hi.out.trans (inZ hz));clear hz hb;have hM:=zI hwv;clear hwv;go_wp2_with fail
  go_ret2
  exact dJ.err HN.out (qac hf _)
theorem qcL (o:OpD) (S P X:Option Addr) (c d f:Nat) (p x:List (List Int)) (w:Zp1) (hk:o.kind=14) (ho:o.s.length<=1099511627776) (hsc:o.s.length<=c) (hsm:c<=9223372036854775807) (hw:o.wide) (hS:Ints iQ w S o.s) (hP:bQ w P p) (hX:bQ w X x) (hxl:x.length<=1048576) (h1:1<=x.length) (hp:∀s∈p,Sh.right s=true) (hx:∀s∈x,Sh.right s=true):
  Calls prog 71 #[.agg #[nQ iQ o.kind,nQ iQ o.k,nQ iQ o.width,nQ iQ o.step,nQ iQ o.side,nQ iQ o.frm,nQ iQ o.to,sQ S o.s.length c],sQ P p.length d,sQ X x.length f] w (dJ (Od.aZ o p x) w):=by
 have hq:Od.aZ o p x=Od.cut (x.getD 0 []) o.side o.frm o.to:=by unfold Od.aZ;simp [hk]
 obtain ⟨bx,ox,S0,c0,rfl,-⟩:=hX 0 h1;have ha:Below w.heap.size w (w.alloc (.cells #[nQ iQ o.kind,nQ iQ o.k,nQ iQ o.width,nQ iQ o.step,nQ iQ o.side,nQ iQ o.frm,nQ iQ o.to,sQ S o.s.length c] 83)):=(Ze1 _ _).alloc (lrZ _) _;have hh:=Blk.new w 83 #[nQ iQ o.kind,nQ iQ o.k,nQ iQ o.width,nQ iQ o.step,nQ iQ o.side,nQ iQ o.frm,nQ iQ o.to,sQ S o.s.length c];obtain ⟨z0,z1,z2,z3,z4,z5,z6,z7⟩:=qam hh;have hi:=hX.below ha (lrZ _);have ht:=hP.below ha (lrZ _);have hm:=hS.below ha (lrZ _);have hd:=hx x[0] (gmZ h1);have hg:x.getD 0 []=x[0]:=qad h1
 first|rw [hg] at hq|skip
 have l7:decide (o.kind<=7)=false:=by simp;omega
 have l12:decide (o.kind<=12)=false:=by simp;omega
 have e8:(o.kind==8)=false:=by simp;omega
 have e9:(o.kind==9)=false:=by simp;omega
 have e10:(o.kind==10)=false:=by simp;omega
 have e13:(o.kind==13)=false:=by simp;omega
 have e14:(o.kind==14)=true:=by simp;omega
 clear hk;obtain ⟨hJ,HX,HP,HS,Hp,Hx⟩:=zd6 hh hX hP hS hp hx;clear hh hX hP hS hp hx;go_in;go_upto_region 1 with fail;generalize (w.alloc (.cells #[nQ iQ o.kind,nQ iQ o.k,nQ iQ o.width,nQ iQ o.step,nQ iQ o.side,nQ iQ o.frm,nQ iQ o.to,sQ S o.s.length c] 83))=w1 at *;obtain ⟨S0',c0',y0,hv,hQ,hN⟩:=hi.each h1;rw [Zx] at y0;clear S0;generalize hs0:x[0]=s0 at *;have hz:=(Sh.aT hd).2.2.2.1;obtain ⟨s3,s4⟩:=qa9 hd;obtain ⟨hL,hM,hI,hf,hu,Hq,hO,hH,hE⟩:=zd9 hi ht hm hv hd hq hg hs0 hz;have Hw:=zI hw;clear hi ht hm hv hd hq hg hs0 hz hw;go_wp2_with fail;refine (qal S0' c0' s0 w1 hu.out hf.out).mono ?_;rintro e w2 ⟨rfl,rfl⟩;have hcut:=Hq.out;unfold Od.cut at hcut;rw [ipZ hu.out] at hcut
 by_cases a1:o.side<0
 ·have d1:decide (o.side<0)=true:=by simpa using a1
  have HN:=zI (hcut.trans (inZ (by simp [Od.inR];omega)));clear hcut;go_wp2_with fail
  go_quiet (fail)
  go_wp2_with fail
  go_ret2
  exact dJ.err HN.out (qac ha _)
 ·have d1:decide (o.side<0)=false:=by simpa using a1
  by_cases a2:(s0.length:Int)<=o.side
  ·have d2:decide ((s0.length:Int)<=o.side)=true:=by simpa using a2
   have HN:=zI (hcut.trans (inZ (by simp [Od.inR];omega)));clear hcut;go_wp2_with fail
   go_quiet (fail)
   go_wp2_with fail
   go_ret2
   exact dJ.err HN.out (qac ha _)
  ·have d2:decide ((s0.length:Int)<=o.side)=false:=by simpa using a2
   obtain ⟨sd,hsd⟩:∃sd:Nat,o.side=(sd:Int):=⟨o.side.toNat,by omega⟩
   have he:sd<s0.length:=by omega
   have hy:Od.inR o.side s0=true:=by simp [Od.inR];omega
   have hs:Od.at_ s0 o.side=s0[sd]:=by unfold Od.at_;rw [hsd,tnZ,qa2 he]
   rw [hy,Bool.true_and,hs] at hcut;have hG:=hE.out _ (gmZ he);obtain ⟨bs,os,rfl,-,-⟩:=hf.out 0 s3;have g0:=hf.out.at_ he;have hb:=λ(n:Nat) (v:Int)=>qbX (some ⟨bs,os,none⟩) c0' s0 sd v (w1.drewN n) oZ (hf.out.drewN n) he
   have hc:∀v,(s0.set sd v).length=s0.length:=λv=>List.length_set
   have i1:(sd:Int)<(s0.length:Int):=by omega
   have d2':decide (s0.length<=sd)=false:=by simp;omega
   rw [hsd] at z4 d1 d2 hcut;generalize s0[sd]=z at *;rw [hsd];rw [tnZ] at hcut;clear a1 a2 hy hs;obtain ⟨hD,hj,hK⟩:=zd3 hb hc hsd;clear hc hsd;clear hb
   by_cases a3:o.frm<0
   ·have d3:decide (o.frm<0)=true:=by simpa using a3
    have HN:=zI (hcut.trans (inZ soZ));clear hcut a3;go_wp2_with fail
    go_quiet (fail)
    go_wp2_with fail
    go_ret2
    exact dJ.err HN.out (qac ha _)
   ·have d3:decide (o.frm<0)=false:=by simpa using a3
    by_cases a4:z<o.to
    ·have d4:decide (z<o.to)=true:=by simpa using a4
     have HN:=zI (hcut.trans (inZ soZ));clear hcut a3 a4;go_wp2_with fail
     go_quiet (fail)
     go_wp2_with fail
     go_ret2
     exact dJ.err HN.out (qac ha _)
    ·have d4:decide (z<o.to)=false:=by simpa using a4
     by_cases a5:o.to<=o.frm
     ·have d5:decide (o.to<=o.frm)=true:=by simpa using a5
      have HN:=zI (hcut.trans (inZ soZ));clear hcut a3 a4 a5;go_wp2_with fail
      go_quiet (fail)
      go_wp2_with fail
      go_ret2
      exact dJ.err HN.out (qac ha _)
     ·have d5:decide (o.to<=o.frm)=false:=by simpa using a5
      have HN:=zI (hcut.trans (ipZ soZ));have ww:iQ.wrap (o.to-o.frm)=o.to-o.frm:=Zc1 _ oZ;clear hcut;go_wp2_with fail
      go_quiet (fail)
      rename_i nq;clear d1 d2 d2' d3 d4 d5;go_wp2_with fail;refine (hD.out nq (o.to-o.frm)).mono ?_;rintro e w3 ⟨g,rfl,hr,hF,hC⟩;have hl:=(qac ha nq).trans (hC.mono ha.size);have hn:=hj.out (o.to-o.frm);generalize s0.set sd (o.to-o.frm)=s9 at *;obtain ⟨hA,hB⟩:=zd2 hr hn;clear hr hn;go_wp2_with fail
      go_ret2
      exact dJ.ok HN.out rfl hA.out (lrZ _) (by have:=hB.out;omega) hl
theorem qbZ (o:OpD) (S P X:Option Addr) (c d f:Nat) (p x:List (List Int)) (w:Zp1) (hk:o.kind=8) (hpl:p.length=2) (ho:o.s.length<=1099511627776) (hsc:o.s.length<=c) (hsm:c<=9223372036854775807) (hw:o.wide) (hS:Ints iQ w S o.s) (hP:bQ w P p) (hX:bQ w X x) (hxl:x.length<=1048576) (h1:1<=x.length) (hp:∀s∈p,Sh.right s=true) (hx:∀s∈x,Sh.right s=true):
  Calls prog 71 #[.agg #[nQ iQ o.kind,nQ iQ o.k,nQ iQ o.width,nQ iQ o.step,nQ iQ o.side,nQ iQ o.frm,nQ iQ o.to,sQ S o.s.length c],sQ P p.length d,sQ X x.length f] w (dJ (Od.aZ o p x) w):=by
 have hq:Od.aZ o p x=Od.lI (p.getD 0 []) (p.getD 1 []) (x.getD 0 []):=by unfold Od.aZ;simp [hk]
 obtain ⟨bx,ox,S0,c0,rfl,-⟩:=hX 0 h1;obtain ⟨bp,op,T0,d0,rfl,-⟩:=hP 0 oZ;have hg:Below w.heap.size w (w.alloc (.cells #[nQ iQ o.kind,nQ iQ o.k,nQ iQ o.width,nQ iQ o.step,nQ iQ o.side,nQ iQ o.frm,nQ iQ o.to,sQ S o.s.length c] 83)):=(Ze1 _ _).alloc (lrZ _) _;have hu:=Blk.new w 83 #[nQ iQ o.kind,nQ iQ o.k,nQ iQ o.width,nQ iQ o.step,nQ iQ o.side,nQ iQ o.frm,nQ iQ o.to,sQ S o.s.length c];obtain ⟨z0,z1,z2,z3,z4,z5,z6,z7⟩:=qam hu;have hy:=hX.below hg (lrZ _);have hv:=hP.below hg (lrZ _);have hD:=hS.below hg (lrZ _);have hn:=hx x[0] (gmZ h1);have ht:x.getD 0 []=x[0]:=qad h1
 first|rw [ht] at hq|skip
 have hr:=hp p[0] (gmZ oZ);have hz:p.getD 0 []=p[0]:=qad oZ
 first|rw [hz] at hq|skip
 have l7:decide (o.kind<=7)=false:=by simp;omega
 have e8:(o.kind==8)=true:=by simp;omega
 clear hk;obtain ⟨hW,HX,HP,HS,Hp,Hx⟩:=zd6 hu hX hP hS hp hx;clear hu hX hP hS hp hx;go_in;go_upto_region 1 with fail;generalize (w.alloc (.cells #[nQ iQ o.kind,nQ iQ o.k,nQ iQ o.width,nQ iQ o.step,nQ iQ o.side,nQ iQ o.frm,nQ iQ o.to,sQ S o.s.length c] 83))=w1 at *;obtain ⟨S0',c0',y0,hJ,h9,h6⟩:=hy.each h1;rw [Zx] at y0;obtain ⟨T0',d0',v0,hF,hB,hR⟩:=hv.each (show 0<p.length by omega);rw [Zx] at v0;clear T0;clear S0;generalize hs0:x[0]=s0 at *;generalize hsp:p[0]=t0 at *;obtain ⟨q3,q4⟩:=qa9 hr;have hK:=(Sh.aT hn).2.2.2.1;obtain ⟨s3,s4⟩:=qa9 hn;obtain ⟨h0,hQ,hV,hO,hI,Hq,h7,hT,h8⟩:=zd9 hy hv hD hJ hn hq ht hs0 hK;obtain ⟨Hw,hA,hU,hY,h4⟩:=zd5 hw hF hr hz hsp;clear hy hv hD hJ hn hq ht hs0 hK hw hF hr hz hsp;go_wp2_with fail;refine (qal S0' c0' s0 w1 hI.out hO.out).mono ?_;rintro e w2 ⟨rfl,rfl⟩;obtain ⟨T1,d1,v1,he,Ha,hZ⟩:=hQ.out.each (show 1<p.length by omega);have hb:=Hp.out p[1] (gmZ oZ);have hf:p.getD 1 []=p[1]:=qad oZ;have hd:=Hq.out;rw [hf] at hd;generalize hsp1:p[1]=t1 at *;obtain ⟨q5,q6⟩:=qa9 hb;obtain ⟨bt,ot,rfl,-,-⟩:=hA.out 0 q3;unfold Od.lI at hd
 by_cases hi:t0.length=2
 rotate_left
 ·have f1:((t0.length:Int) != 2)=true:=by rw [bne_iff_ne];omega
  have f2:(t0.length != 2)=true:=by rw [bne_iff_ne];omega
  have HN:=zI (hd.trans (inZ (by intro h;exact hi h.1)));obtain ⟨hL,hl,hH,hh⟩:=zd4 he hb hf hsp1;clear he hb hf hsp1;clear hd hi;go_wp2_with fail
  go_quiet (fail)
  go_wp2_with fail
  go_ret2
  exact dJ.err HN.out (qac hg _)
 ·obtain ⟨a,b,rfl⟩:=list_two hi
  have g1:=hA.out.at_ (show 1<[a,b].length by simp);have g1:w1.cell? ⟨bt,ot+1,none⟩=some (nQ iQ b):=g1
  have hm:Ints iQ w1 (some ⟨bt,ot,none⟩) [a]:=Ints.dV λj hj=>by
   have hM:j=0:=by simp at hj;exact hj
   subst hM;exact hA.out.at_ (show 0<[a,b].length by simp)
  have h5:(1:Int)<=(d0':Int):=by simp at hB;omega
  have ha:=λn:Nat=>qbm T1 (some ⟨bt,ot,none⟩) d1 d0' t1 [a] (w1.drewN n) oZ sZ (he.drewN n) (hm.drewN n)
  have f1:((2:Int) != 2)=false:=rfl;have v0':w1.cell? ⟨bp,op,none⟩=some (sQ (some ⟨bt,ot,none⟩) 2 d0'):=v0;have hN:(1:Int)<(p.length:Int):=by omega
  clear v0 hB q3 q4
  by_cases hs:t1=[a]
  ·rw [decide_eq_true hs] at ha
   have hG:Od.aZ o p x=if Safe.prod s0=b then ([a],0) else ([],20):=by
    rw [hd]
    by_cases e:Safe.prod s0=b
    ·rw [ipZ e,ipZ ⟨rfl,by rw [hs];rfl,by rw [hs];rfl,hI.out,e⟩];rfl
    ·rw [inZ e,inZ];rintro ⟨_,_,_,_,h⟩;exact e h
   obtain ⟨hL,hl,hH,hh,hc,hC,hE⟩:=zd7 he hb hf hsp1 ha hm hG;clear he hb hf hsp1 ha hm hG;clear hd hi hs
   by_cases e:Safe.prod s0=b
   ·have f3:(b != Safe.prod s0)=false:=by simp [e]
    have HN:=zI (hE.out.trans (ipZ e));clear e;go_wp2_with fail
    go_quiet ((go_at_call 14;exact qbu (hc.out _)))
    go_wp2_with fail
    go_ret2
    exact dJ.ok HN.out rfl (hC.out.drewN _) soZ hR (qac hg _)
   ·have f3:(b != Safe.prod s0)=true:=by rw [bne_iff_ne];exact λh=>e h.symm
    have HN:=zI (hE.out.trans (inZ e));clear e;go_wp2_with fail
    go_quiet ((go_at_call 14;exact qbu (hc.out _)))
    go_wp2_with fail
    go_ret2
    exact dJ.err HN.out (qac hg _)
  ·rw [decide_eq_false hs] at ha
   have HN:=zI (hd.trans (inZ (by
    rintro ⟨_,h2,h3,_⟩;obtain ⟨z,rfl⟩:=qhD h2;exact hs (by simp at h3;rw [h3]))))
   obtain ⟨hL,hl,hH,hh,hc,hC⟩:=zd6 he hb hf hsp1 ha hm;clear he hb hf hsp1 ha hm;clear hd hi hs;go_wp2_with fail
   go_quiet ((go_at_call 14;exact qbu (hc.out _)))
   go_wp2_with fail
   go_ret2
   exact dJ.err HN.out (qac hg _)
theorem qcq (o:OpD) (S P X:Option Addr) (c d f:Nat) (p x:List (List Int)) (w:Zp1) (hk:o.kind=10) (hpl:p.length=1) (ho:o.s.length<=1099511627776) (hsc:o.s.length<=c) (hsm:c<=9223372036854775807) (hw:o.wide) (hS:Ints iQ w S o.s) (hP:bQ w P p) (hX:bQ w X x) (hxl:x.length<=1048576) (h1:1<=x.length) (hp:∀s∈p,Sh.right s=true) (hx:∀s∈x,Sh.right s=true):
  Calls prog 71 #[.agg #[nQ iQ o.kind,nQ iQ o.k,nQ iQ o.width,nQ iQ o.step,nQ iQ o.side,nQ iQ o.frm,nQ iQ o.to,sQ S o.s.length c],sQ P p.length d,sQ X x.length f] w (dJ (Od.aZ o p x) w):=by
 have hq:Od.aZ o p x=Od.conv (p.getD 0 []) (x.getD 0 []) o.step:=by unfold Od.aZ;simp [hk]
 obtain ⟨bx,ox,S0,c0,rfl,-⟩:=hX 0 h1;obtain ⟨bp,op,T0,d0,rfl,-⟩:=hP 0 oZ;have hd:Below w.heap.size w (w.alloc (.cells #[nQ iQ o.kind,nQ iQ o.k,nQ iQ o.width,nQ iQ o.step,nQ iQ o.side,nQ iQ o.frm,nQ iQ o.to,sQ S o.s.length c] 83)):=(Ze1 _ _).alloc (lrZ _) _;have hN:=Blk.new w 83 #[nQ iQ o.kind,nQ iQ o.k,nQ iQ o.width,nQ iQ o.step,nQ iQ o.side,nQ iQ o.frm,nQ iQ o.to,sQ S o.s.length c];obtain ⟨z0,z1,z2,z3,z4,z5,z6,z7⟩:=qam hN;have hK:=hX.below hd (lrZ _);have hO:=hP.below hd (lrZ _);have hU:=hS.below hd (lrZ _);have hD:=hx x[0] (gmZ h1);have hI:x.getD 0 []=x[0]:=qad h1
 first|rw [hI] at hq|skip
 have hH:=hp p[0] (gmZ oZ);have hQ:p.getD 0 []=p[0]:=qad oZ
 first|rw [hQ] at hq|skip
 have l7:decide (o.kind<=7)=false:=by simp;omega
 have e8:(o.kind==8)=false:=by simp;omega
 have e9:(o.kind==9)=false:=by simp;omega
 have e10:(o.kind==10)=true:=by simp;omega
 clear hk;obtain ⟨HD,HX,HP,HS,Hp,Hx⟩:=zd6 hN hX hP hS hp hx;clear hN hX hP hS hp hx;go_in;go_upto_region 1 with fail;generalize (w.alloc (.cells #[nQ iQ o.kind,nQ iQ o.k,nQ iQ o.width,nQ iQ o.step,nQ iQ o.side,nQ iQ o.frm,nQ iQ o.to,sQ S o.s.length c] 83))=w1 at *;obtain ⟨S0',c0',y0,h2,HH,HG⟩:=hK.each h1;rw [Zx] at y0;obtain ⟨T0',d0',v0,hV,HI,HL⟩:=hO.each (show 0<p.length by omega);rw [Zx] at v0;clear T0;clear S0;generalize hs0:x[0]=s0 at *;generalize hsp:p[0]=t0 at *;obtain ⟨q3,q4⟩:=qa9 hH;have h5:=(Sh.aT hD).2.2.2.1;obtain ⟨s3,s4⟩:=qa9 hD;obtain ⟨HK,HF,HC,hE,Hd,Hq,HM,HA,HO⟩:=zd9 hK hO hU h2 hD hq hI hs0 h5;obtain ⟨Hw,hF,Ho,HJ,HE⟩:=zd5 hw hV hH hQ hsp;clear hK hO hU h2 hD hq hI hs0 h5 hw hV hH hQ hsp;go_wp2_with fail;refine (qal S0' c0' s0 w1 Hd.out hE.out).mono ?_;rintro e w2 ⟨rfl,rfl⟩;have hc:=Hq.out;unfold Od.conv at hc;rw [Ho.out,Hd.out,Bool.true_and,Bool.true_and] at hc;obtain ⟨i0,hi,Hf,Hz,Hn⟩:=info_parts qag;obtain ⟨bs,os,rfl,-,-⟩:=hE.out 0 s3;obtain ⟨bt,ot,rfl,-,-⟩:=hF.out 0 q3;have g0:=hE.out.at_ s3;have g2:=hF.out.at_ q3;rw [Zx] at g0 g2;have hA:s0.getD 0 0=s0[0]:=qa2 s3;have hC:t0.getD 0 0=t0[0]:=qa2 q3
 by_cases a1:t0.length=s0.length+1
 rotate_left
 ·have f1:((t0.length:Int) != (s0.length:Int)+1)=true:=by rw [bne_iff_ne];omega
  have HN:=zI (hc.trans (inZ soZ));clear hc a1 hA hC g0 g2;go_wp2_with fail
  go_quiet (fail)
  go_wp2_with fail
  go_ret2
  exact dJ.err HN.out (qac hd _)
 ·have f1:((t0.length:Int) != (s0.length:Int)+1)=false:=by simp;omega
  by_cases a2:s0.length<2
  ·have f2:decide ((s0.length:Int)<2)=true:=by simp;omega
   have HN:=zI (hc.trans (inZ soZ));clear hc a1 hA hC g0 g2;go_wp2_with fail
   go_quiet (fail)
   go_wp2_with fail
   go_ret2
   exact dJ.err HN.out (qac hd _)
  ·have f2:decide ((s0.length:Int)<2)=false:=by simp;omega
   by_cases a3:3<s0.length
   ·have f3:decide ((3:Int)<(s0.length:Int))=true:=by simp;omega
    have HN:=zI (hc.trans (inZ soZ));clear hc a1 hA hC g0 g2;go_wp2_with fail
    go_quiet (fail)
    go_wp2_with fail
    go_ret2
    exact dJ.err HN.out (qac hd _)
   ·have f3:decide ((3:Int)<(s0.length:Int))=false:=by simp;omega
    have h7:1<t0.length:=by omega
    have g1:=hF.out.at_ h7;have j1:(1:Int)<(t0.length:Int):=by omega
    rw [hA,qa2 h7] at hc
    by_cases a4:t0[1]=s0[0]
    rotate_left
    ·have f4:(t0[1] != s0[0])=true:=by simp [a4]
     have HN:=zI (hc.trans (inZ (by simp;intro _ _ _;exact a4)));generalize t0[1]=tb at *;generalize s0[0]=sa at *;clear hc a1 hA hC a4 g2;go_wp2_with fail
     go_quiet (fail)
     go_wp2_with fail
     go_ret2
     exact dJ.err HN.out (qac hd _)
    ·have f4:(t0[1] != s0[0])=false:=by simp [a4]
     rw [ipZ soZ] at hc;have Hv:=zI a1;generalize t0[1]=tb at *;generalize s0[0]=sa at *;generalize t0[0]=ta at *;clear a4 a1 hA;obtain ⟨He,Hm⟩:=zd2 hc hC;clear hc hC;have z3':w1.cell? ⟨w.heap.size,3,none⟩=some (nQ iQ o.step):=z3;go_wp2_with fail
     go_quiet (fail)
     rename_i nq;clear f1 f2 f3 f4 g0 g1 z0 z1 z2 z3 z4 z5 z6 z7;go_wp2_with fail;clear g2 y0 v0;have h6:Below w1.heap.size w1 (w1.drewN nq):=qac (Ze1 _ _) nq;have hJ:=Blk.new (w1.drewN nq) 3 #[nQ iQ ta];have hZ:Below w1.heap.size w1 ((w1.drewN nq).alloc (.cells #[nQ iQ ta] 3)):=h6.alloc (lrZ _) _
     have hn:((w1.drewN nq).alloc (.cells #[nQ iQ ta] 3)).ownsRow w1.heap.size 3 1 (sQ (some ⟨w1.heap.size,0,none⟩) 1 1) 1 ((Od.outs t0 s0 o.step 0).map (Za1 iQ)):=qgj (by
      have:Od.outs t0 s0 o.step 0=[ta]:=by simp only [Od.outs,Hm.out];rfl
      rw [this];exact hJ) (lrZ _) (by simp [Od.outs]) (by unfold maxLen;omega)
     obtain ⟨Hi,hs⟩:=zd2 hJ hn;clear hJ hn
     go_loopw [12,13] (λv i wx=>∃k:Nat,k<=s0.length-1/\i=nQ iQ ((k:Int)+1)/\wx.ownsRow w1.heap.size 3 1 v (k+1) ((Od.outs t0 s0 o.step k).map (Za1 iQ))/\(∀j,j<k->(Od.wn t0 s0 o.step j).2=0)/\Below w1.heap.size w1 wx) (λ_ i _=>s0.length-(intOf i).toNat)
     case atStart=>exact ⟨0,Zt _,rfl,hs.out,λj hj=>by omega,hZ⟩
     case round=>
      obtain ⟨k,hk,rfl,hown,he,hl⟩:=hrel;clear hs Hi hZ h6;obtain ⟨Ao,co,rfl⟩:=qa6 hown
      by_cases h4:k+1<s0.length
      ·have h8:k+2<t0.length:=by have:=Hv.out;omega
       have m1:=qa1 hl (hE.out.at_ h4);have m2:=qa1 hl (hF.out.at_ h8);have m3:=qa1 hl z3';have hG:Od.wn t0 s0 o.step k=Od.window s0[k+1] t0[k+2] o.step:=by unfold Od.wn;rw [qa2 h4,qa2 h8]
       have ha:=λn:Nat=>qc9 s0[k+1] t0[k+2] o.step (wr.drewN n)
       rw [←hG] at ha;have hM:=@Od.nM s0[k+1] t0[k+2] o.step;have hy:=@Od.jX s0[k+1] t0[k+2] o.step;rw [←hG] at hM hy;have i1:iQ.wrap ((k:Int)+1+1)=((k+2:Nat):Int):=by rw [Zc1 _ oZ];omega
       have i2:((k:Int)+1)<(s0.length:Int):=by omega
       have i3:((k+2:Nat):Int)<(t0.length:Int):=by omega
       have i4:(0:Int)<=(k:Int)+1:=by omega
       have i5:((k:Int)+1).toNat=k+1:=by omega
       have i6:(0:Int)<=((k+2:Nat):Int):=by omega
       have hg:Od.outs t0 s0 o.step (k+1)=Od.outs t0 s0 o.step k++[(Od.wn t0 s0 o.step k).1]:=by simp [Od.outs,List.range_succ]
       have hm:(Od.outs t0 s0 o.step k).length=k+1:=by simp [Od.outs]
       have Ha:(Od.wn t0 s0 o.step k).2=0->∀j,j<k+1->(Od.wn t0 s0 o.step j).2=0:=λe j hj=>by
        by_cases h:j=k
        ·subst h;exact e
        ·exact he j oZ
       have Hb:(Od.wn t0 s0 o.step k).2≠0->Od.aZ o p x=([],11):=λe=>by
        rw [He.out,inZ];rw [Zf];intro h;have:=h k (List.mem_range.2 oZ);exact e (by simpa using this)
       generalize s0[k+1]=sk at *;generalize t0[k+2]=tk at *;generalize Od.wn t0 s0 o.step k=wv at *;obtain ⟨HB,hf,Hh,hT,hv,h3,Hj,Hl,hL⟩:=zd9 hG ha hM hy hg hm Ha Hb he;have ht:=zI hown;clear hG ha hM hy hg hm Ha Hb he hown;go_wp2_with fail
       go_quiet ((go_at_call 104;exact qab (hf.out _)))
       clear m1 m2 m3 i1 i3 i6
       by_cases hz:wv.2=0
       ·have hb:=Hh.out hz
        have e1:(wv.1==0)=false:=by simp;omega
        have Hk:=zI (Hj.out hz);have ho:=qa8 (qaa (w':=wr.drewN nq) ht.out (λg _=>rfl)) (.cells #[nQ iQ wv.1] 3);have hh:=((qac hl nq).alloc hl.size (.cells #[nQ iQ wv.1] 3))
        have Hc:∀b,(Zb1 Ao (k+1) co).ownBlock=some b->w1.heap.size<=b:=λb hb=>(ht.out.lt b hb).1
        clear hz hb;have h0:=zI Hc;clear Hc;go_wp2_with (at_builtin;refine wpList_append_own_at _ rfl _ _ 22 rfl w1.heap.size 3 i0 (nQ iQ 0) 1 8 underlying22 hi Hf Hz Hn rfl dZ _ _ _ rfl ho ⟨wr.heap.size,0,none⟩ 1 1 [nQ iQ wv.1] rfl rfl ?c1 (by intro u hu;simp at hu;subst hu;rfl) (by unfold maxLen;omega) oZ ?c2 ?_)
        case c1=>exact qap (wr.drewN nq) _ _
        case c2=>exact hh.size
        intro v' w3 hr hgrow _ Hg;have Hs:Below w1.heap.size w1 w3:=hh.grown hgrow hh.size (λb hb=>h0.out b hb);have Ht:=zI (show w3.ownsRow w1.heap.size 3 1 v' (k+1+1) ((Od.outs t0 s0 o.step (k+1)).map (Za1 iQ)) by rw [hv.out];simpa using hr);clear hr hgrow Hg ho hh h0;go_wp2_with fail;go_roundw
        case rel=>exact ⟨k+1,by omega,by go_num,Ht.out,Hk.out,Hs⟩
        case measure=>simp [intOf];omega
       ·have hb:=hT.out hz
        have e1:(wv.1==0)=true:=by rw [hb];rfl
        have HN:=zI (Hl.out hz);clear hz hb;go_wp2_with fail
        go_ret2
        exact dJ.err HN.out (qac (hd.trans (hl.mono hd.size)) _)
      ·obtain rfl:k=s0.length-1:=by omega
       have i2:¬((s0.length-1:Nat):Int)+1<(s0.length:Int):=by omega
       have hm:(Od.outs t0 s0 o.step (s0.length-1)).length=s0.length-1+1:=by simp [Od.outs]
       have hW:Od.aZ o p x=if Sh.right (Od.outs t0 s0 o.step (s0.length-1))=true then (Od.outs t0 s0 o.step (s0.length-1),0) else ([],20):=by
        rw [He.out,ipZ];rw [Zf];intro j hj;simpa using he j (List.mem_range.1 hj)
       generalize Od.outs t0 s0 o.step (s0.length-1)=os9 at *;generalize s0.length-1=m at *;rw [←hm] at hown;obtain ⟨hR,Hu,Hr⟩:=qak (by rw [hm] at hown ⊢;exact hown);have ha:=qaO Ao co os9 wr oZ hR;rw [hm] at ha;obtain ⟨ht,hL,h3,h9,Hy,hf⟩:=zd6 hown he hm hW hR ha;clear hown he hm hW hR ha;go_wp2_with fail;refine (hf.out).mono ?_;rintro e w9 ⟨rfl,rfl⟩
       by_cases hB:Sh.right os9=true
       ·have HN:=zI (h9.out.trans (ipZ hB))
        rw [hB];clear hB;go_wp2_with fail
        go_ret2
        exact dJ.ok HN.out h3.out Hy.out Hu Hr (hd.trans (hl.mono hd.size))
       ·have HN:=zI (h9.out.trans (inZ hB))
        have hY:Sh.right os9=false:=by simpa using hB
        rw [hY];clear hB hY;go_wp2_with fail
        go_ret2
        exact dJ.err HN.out (hd.trans (hl.mono hd.size))
theorem qfg (o:OpD) (S P X:Option Addr) (c d f:Nat) (p x:List (List Int)) (w:Zp1) (hr:Od.right o=true) (hcnt:Od.counts o p.length x.length=0) (ho:o.s.length<=1099511627776) (hsc:o.s.length<=c) (hsm:c<=9223372036854775807) (hw:o.wide) (hS:Ints iQ w S o.s) (hP:bQ w P p) (hX:bQ w X x) (hp:∀s∈p,Sh.right s=true) (hx:∀s∈x,Sh.right s=true):
  Calls prog 71 #[.agg #[nQ iQ o.kind,nQ iQ o.k,nQ iQ o.width,nQ iQ o.step,nQ iQ o.side,nQ iQ o.frm,nQ iQ o.to,sQ S o.s.length c],sQ P p.length d,sQ X x.length f] w (dJ (Od.aZ o p x) w):=by
 have hk:=Od.fO hr;obtain ⟨-,c1,c2,c3⟩:=Od.qZ hcnt;have c4:=Od.kU hr;have c5:=Od.uV hr;have hb:Od.params o=if o.kind=8 then 2 else if o.kind=9∨o.kind=10 then 1 else 0:=by unfold Od.params;rw [ipZ hr]
 have h1:1<=x.length:=by omega
 have ha:x.length<=1048576:=by omega
 by_cases k7:o.kind<=7
 ·exact qd7 o S P X c d f p x w k7 ho hsc hsm hw hS hP hX ha h1 hp hx
 ·have hh:o.kind=8∨o.kind=9∨o.kind=10∨(o.kind=11∨o.kind=12)∨o.kind=13∨o.kind=14∨o.kind=15:=by omega
  rcases hh with k|k|k|k|k|k|k
  ·exact qbZ o S P X c d f p x w k (by rw [hb,ipZ k] at c3;omega) ho hsc hsm hw hS hP hX ha h1 hp hx
  ·exact qbY o S P X c d f p x w k (by rw [hb,inZ oZ,ipZ oZ] at c3;omega) ho hsc hsm hw hS hP hX ha h1 hp hx
  ·exact qcq o S P X c d f p x w k (by rw [hb,inZ oZ,ipZ oZ] at c3;omega) ho hsc hsm hw hS hP hX ha h1 hp hx
  ·exact qcp o S P X c d f p x w k ho hsc hsm hw hS hP hX ha h1 hp hx
  ·exact qcn o S P X c d f p x w k ho hsc hsm hw hS hP hX ha h1 hp hx
  ·exact qcL o S P X c d f p x w k ho hsc hsm hw hS hP hX ha h1 hp hx
  ·exact qco o S P X c d f p x w k ho hsc hsm hw hS hP hX ha h1 hp hx
theorem qca {W:Zp1} {g:Nat} {t:TypeId} {v:aS} {S J Q:Option Addr} {c ic qc:Nat} (h:Blk W g t #[nQ iQ v.op.kind,nQ iQ v.op.k,nQ iQ v.op.width,nQ iQ v.op.step,nQ iQ v.op.side,nQ iQ v.op.frm,nQ iQ v.op.to,sQ S v.op.s.length c,sQ J v.ins.length ic,sQ Q v.p.length qc]):
  W.cell? ⟨g,0,none⟩=some (nQ iQ v.op.kind)/\W.cell? ⟨g,1,none⟩=some (nQ iQ v.op.k)/\W.cell? ⟨g,2,none⟩=some (nQ iQ v.op.width)/\W.cell? ⟨g,3,none⟩=some (nQ iQ v.op.step)/\W.cell? ⟨g,4,none⟩=some (nQ iQ v.op.side)/\W.cell? ⟨g,5,none⟩=some (nQ iQ v.op.frm)/\W.cell? ⟨g,6,none⟩=some (nQ iQ v.op.to)/\W.cell? ⟨g,7,none⟩=some (sQ S v.op.s.length c)/\W.cell? ⟨g,8,none⟩=some (sQ J v.ins.length ic)/\W.cell? ⟨g,9,none⟩=some (sQ Q v.p.length qc):=
 ⟨h.cell 0,h.cell 1,h.cell 2,h.cell 3,h.cell 4,h.cell 5,h.cell 6,h.cell 7,h.cell 8,h.cell 9⟩
def iI (w:Zp1) (vs:List Value) (ss:List (List Int)):Prop:=
 vs.length=ss.length/\∀j (hj:j<ss.length),∃S c,vs[j]? = some (sQ S ss[j].length c)/\Ints iQ w S ss[j]/\ss[j].length<=c/\c<=9223372036854775807
theorem iI.nil (w:Zp1):iI w [] []:=⟨rfl,λj hj=>absurd hj sZ⟩
theorem iI.push {w:Zp1} {vs:List Value} {ss:List (List Int)} {S:Option Addr} {s:List Int} {c:Nat} (h:iI w vs ss) (hI:Ints iQ w S s) (h1:s.length<=c) (h2:c<=9223372036854775807):iI w (vs++[sQ S s.length c]) (ss++[s]):=by
 refine ⟨by simp [h.1],λj hj=>?_⟩;simp at hj
 by_cases e:j<ss.length
 ·obtain ⟨S',c',e1,e2⟩:=h.2 j e
  refine ⟨S',c',?_,?_⟩
  ·rw [Zm (by rw [h.1];exact e),e1];simp [e]
  ·simpa [e] using e2
 ·obtain rfl:j=ss.length:=by omega
  refine ⟨S,c,?_,?_⟩
  ·rw [Zl (by have:=h.1;omega)];simp [h.1]
  ·simp;exact ⟨hI,h1,h2⟩
theorem iI.below {w w':Zp1} {vs:List Value} {ss:List (List Int)} {B:Nat} (h:iI w vs ss) (hb:Below B w w') (hB:w.heap.size<=B):iI w' vs ss:=
 ⟨h.1,λj hj=>by obtain ⟨S,c,e1,e2,e3⟩:=h.2 j hj;exact ⟨S,c,e1,e2.below hb hB,e3⟩⟩
theorem iI.qG {w w':Zp1} {vs:List Value} {ss:List (List Int)} {B n:Nat} {t:TypeId} {v:Value} (h:iI w vs ss) (hown:w'.ownsRow B t 1 v n vs) (hb:Below w.heap.size w w'):
  ∃A c,v=sQ A ss.length c/\n=ss.length/\bQ w' A ss/\ss.length<=c/\c<=9223372036854775807:=by
 have hn:n=ss.length:=by have:=hown.1;have:=h.1;omega
 subst hn;rcases hown.2 with ⟨rfl,h0⟩|⟨g,cap,cur,rfl,hB,hh,r1,r2,r3,r4⟩
 ·have:ss=[]:=List.eq_nil_of_length_eq_zero h0
  subst this;exact ⟨none,0,rfl,rfl,bQ.nil,by simp,by omega⟩
 ·refine ⟨_,cap,rfl,rfl,λj hj=>?_,r1,by unfold maxLen at r2;omega⟩
  obtain ⟨S,c,e1,e2,e3⟩:=h.2 j hj;refine ⟨g,0,S,c,rfl,lt_of_block hh,?_,e2.below hb (lrZ _),e3⟩;rw [Zw,hown.cellAt j oZ];exact e1
theorem qc0:(prog.info? 22).map (λi=>(i.zero,i.size,i.bytes))=some (some (sQ none 0 0),1,24):=by kernel_rfl
theorem qhE (sh:List (List Int)) (l:List Int) {k:Nat} (hk:k<l.length):Nt.pick sh (l.take (k+1))=Nt.pick sh (l.take k)++[sh.getD l[k].toNat []]:=by
 unfold Nt.pick;rw [Zb hk,List.map_append]
 rfl
theorem qfh (v:aS) (S J Q:Option Addr) (c ic qc g gc:Nat) (sh:List (List Int)) (w:Zp1) (hok:v.ok) (hr:Od.right v.op=true) (hsc:v.op.s.length<=c) (hsm:c<=9223372036854775807) (hS:Ints iQ w S v.op.s) (hJ:Ints iQ w J v.ins) (hQ:bQ w Q v.p) (hX:bQ w (some ⟨g,0,none⟩) sh)
  (hin:∀i∈v.ins,0<=i/\i.toNat<sh.length/\Sh.right (sh.getD i.toNat [])=true):
  Calls prog 32 #[.agg #[nQ iQ v.op.kind,nQ iQ v.op.k,nQ iQ v.op.width,nQ iQ v.op.step,nQ iQ v.op.side,nQ iQ v.op.frm,nQ iQ v.op.to,sQ S v.op.s.length c,sQ J v.ins.length ic,sQ Q v.p.length qc],sQ (some ⟨g,0,none⟩) sh.length gc] w (dJ (Od.shape v.op v.p (Nt.pick sh v.ins)) w):=by
 obtain ⟨i1,hj,HP,HK,HT⟩:=info_parts qc0;have ht:Below w.heap.size w (w.alloc (.cells #[nQ iQ v.op.kind,nQ iQ v.op.k,nQ iQ v.op.width,nQ iQ v.op.step,nQ iQ v.op.side,nQ iQ v.op.frm,nQ iQ v.op.to,sQ S v.op.s.length c,sQ J v.ins.length ic,sQ Q v.p.length qc] 85)):=(Ze1 _ _).alloc (lrZ _) _;have hW:=Blk.new w 85 #[nQ iQ v.op.kind,nQ iQ v.op.k,nQ iQ v.op.width,nQ iQ v.op.step,nQ iQ v.op.side,nQ iQ v.op.frm,nQ iQ v.op.to,sQ S v.op.s.length c,sQ J v.ins.length ic,sQ Q v.p.length qc];obtain ⟨y0,y1,y2,y3,y4,y5,y6,y7,y8,y9⟩:=qca hW;have h6:=hS.below ht (lrZ _);have Hq:=hJ.below ht (lrZ _);have Ha:=hQ.below ht (lrZ _);have Hb:=hX.below ht (lrZ _);have HY:=Od.fO hr;have gg:=hok.2.2.1;have gd:=hok.2.2.2.1;have h0:(Nt.pick sh v.ins).length=v.ins.length:=by simp [Nt.pick]
 have He:=qel hr;have h4:=qen hr;have hh:Od.counts v.op v.p.length (Nt.pick sh v.ins).length=if ((v.ins.length:Int)<Od.least v.op∨Od.most v.op<(v.ins.length:Int)∨(v.p.length:Int)≠Od.params v.op) then 20 else 0:=by unfold Od.counts;rw [ipZ hr,h0]
 have hF:Od.counts v.op v.p.length (Nt.pick sh v.ins).length=20->Od.shape v.op v.p (Nt.pick sh v.ins)=([],20):=λh=>by unfold Od.shape;rw [ipZ (by rw [h];omega),h]
 obtain ⟨hK,Hr,HS,HJ,HQ,HX,Hk,h8,Hh⟩:=zd9 hok hr hS hJ hQ hX hin h6 Hq;obtain ⟨Hv,Hx,Hc,H7,Hz,Hm,hB,hx⟩:=zd8 Ha Hb hW h0 He h4 hh hF;clear hok hr hS hJ hQ hX hin h6 Hq Ha Hb hW h0 He h4 hh hF;go_in;go_upto_region 1 with fail;generalize w.alloc (.cells #[nQ iQ v.op.kind,nQ iQ v.op.k,nQ iQ v.op.width,nQ iQ v.op.step,nQ iQ v.op.side,nQ iQ v.op.frm,nQ iQ v.op.to,sQ S v.op.s.length c,sQ J v.ins.length ic,sQ Q v.p.length qc] 85)=w1 at *;go_wp2_with fail;refine (qhx v.op.kind _ HY).mono ?_;rintro e w2 ⟨rfl,rfl⟩;rw [Hz.out];have hd:=λn:Nat=>qeo v.op.kind (w1.drewN n)
 rw [Hm.out] at hd;have hh:=hB.out;have Hn:=Od.uV Hr.out;have hV:=Od.kU Hr.out;generalize hL:Od.least v.op=L at *;generalize hM:Od.most v.op=M at *;generalize hPa:Od.params v.op=PA at *;obtain ⟨ha,HL,HM,H3⟩:=zd4 hd hL hM hPa;clear hd hL hM hPa;have hH:=zI hh;clear hh hB Hz Hm
 by_cases a1:(v.p.length:Int)=PA
 rotate_left
 ·have d1:((v.p.length:Int) != PA)=true:=by rw [bne_iff_ne];exact a1
  have HN:=zI (hx.out (by rw [hH.out,ipZ oZ]));clear a1;go_wp2_with fail
  go_quiet ((go_at_call 70;exact qab (ha.out _)))
  go_wp2_with fail
  go_ret2
  exact dJ.err HN.out (qac ht _)
 ·have d1:((v.p.length:Int) != PA)=false:=by simp [a1]
  by_cases a2:(v.ins.length:Int)<L
  ·have d2:decide ((v.ins.length:Int)<L)=true:=by simpa using a2
   have HN:=zI (hx.out (by rw [hH.out,ipZ oZ]));have HB:=zI a1;clear a1;go_wp2_with fail
   go_quiet ((go_at_call 70;exact qab (ha.out _)))
   go_wp2_with fail
   go_ret2
   exact dJ.err HN.out (qac ht _)
  ·have d2:decide ((v.ins.length:Int)<L)=false:=by simpa using a2
   by_cases a3:M<(v.ins.length:Int)
   ·have d3:decide (M<(v.ins.length:Int))=true:=by simpa using a3
    have HN:=zI (hx.out (by rw [hH.out,ipZ oZ]));have HB:=zI a1;clear a1;go_wp2_with fail
    go_quiet ((go_at_call 70;exact qab (ha.out _)))
    go_wp2_with fail
    go_ret2
    exact dJ.err HN.out (qac ht _)
   ·have d3:decide (M<(v.ins.length:Int))=false:=by simpa using a3
    have Hi:Od.counts v.op v.p.length (Nt.pick sh v.ins).length=0:=by rw [hH.out,inZ oZ]
    have H9:v.ins.length<=8:=by omega
    have HB:=zI a1;clear a1 a2 a3;have hR:=zI Hi;clear Hi;go_wp2_with fail
    go_quiet ((go_at_call 70;exact qab (ha.out _)))
    rename_i nq;clear d1 d2 d3;have hG:=qac ht nq;have h5:=h8.out.drewN nq;have Hd:=Hh.out.drewN nq;have HC:=Hv.out.drewN nq;have Ho:=Hx.out.drewN nq;obtain ⟨Ht,h9,hN,Hs⟩:=zd4 h5 Hd HC Ho;clear h5 Hd HC Ho;clear h8 Hh Hv Hx ha;go_wp2_with fail
    go_loop [8] (λi=>∃k:Nat,k<=v.p.length/\i=nQ iQ (k:Int)/\(v.p.take k).all Sh.right=true) (λi=>v.p.length-(intOf i).toNat)
    case atStart=>exact ⟨0,Zt _,rfl,rfl⟩
    case round=>
     obtain ⟨k,hk,rfl,he⟩:=hrel
     by_cases hn:k<v.p.length
     ·obtain ⟨b,off,Sk,ck,rfl,-,hc,h3,H6,H4⟩:=hN.out k hn
      have HR:=hK.out.2.2.2.2.1 _ (gmZ hn);have hq:Sh.right v.p[k]=true->(v.p.take (k+1)).all Sh.right=true:=λh=>by rw [Zb hn,List.all_append,he];simp [h]
      have hE:Sh.right v.p[k]=false->Od.shape v.op v.p (Nt.pick sh v.ins)=([],20):=λh=>by
       unfold Od.shape;rw [inZ (by rw [hR.out];simp),inZ];intro h2;rw [Zz] at h2;have:=List.all_eq_true.1 h2.1 _ (gmZ hn);rw [h] at this;cases this
      generalize v.p[k]=s at *;obtain ⟨HO,hO,hA,hP⟩:=zd4 h3 he hq hE;clear h3 he hq hE;go_wp2_with fail;refine (qaO Sk ck s _ oZ HO.out).mono ?_;rintro e w3 ⟨rfl,rfl⟩
      by_cases hD:Sh.right s=true
      ·have HA:=zI (hA.out hD)
       rw [hD];clear hD;go_wp2_with fail
       go_round
       case rel=>exact ⟨k+1,by omega,by go_num,HA.out⟩
       case measure=>simp [intOf];omega
      ·have hy:Sh.right s=false:=by simpa using hD
       have HN:=zI (hP.out hy);rw [hy];clear hD hy;go_wp2_with fail
       go_ret2
       exact dJ.err HN.out hG
     ·obtain rfl:k=v.p.length:=by omega
      rw [Zg] at he;have Hp:∀s∈v.p,Sh.right s=true:=List.all_eq_true.1 he
      have hZ:∀s∈Nt.pick sh v.ins,Sh.right s=true:=λs hs=>by
       obtain ⟨i,hi,rfl⟩:=List.mem_map.1 hs;exact (Hk.out i hi).2.2
      have Hj:Od.shape v.op v.p (Nt.pick sh v.ins)=Od.aZ v.op v.p (Nt.pick sh v.ins):=Od.sI hR.out he (List.all_eq_true.2 hZ);obtain ⟨hO,HG,HD,HE⟩:=zd4 he Hp hZ Hj;clear he Hp hZ Hj;go_wp2_with fail;clear y0 y1 y2 y3 y4 y5 y6 y7;obtain ⟨w2,hw2⟩:∃w2,w1.drewN nq=w2:=⟨_,rfl⟩
      have Hg:Blk w2 w.heap.size 85 #[nQ iQ v.op.kind,nQ iQ v.op.k,nQ iQ v.op.width,nQ iQ v.op.step,nQ iQ v.op.side,nQ iQ v.op.frm,nQ iQ v.op.to,sQ S v.op.s.length c,sQ J v.ins.length ic,sQ Q v.p.length qc]:=by rw [←hw2];exact Hc.out.drewN nq
      rw [hw2] at hG Ht h9 hN Hs ⊢;clear hw2 y8 y9 Hc;have Hf:=zI Hg;clear Hg
      go_loopw [9,10] (λo i wx=>∃(k:Nat) (vs:List Value),k<=v.ins.length/\i=nQ iQ (k:Int)/\wx.ownsRow w2.heap.size 22 1 o k vs/\iI w2 vs (Nt.pick sh (v.ins.take k))/\Below w2.heap.size w2 wx) (λ_ i _=>v.ins.length-(intOf i).toNat)
      case atStart=>exact ⟨0,[],Zt _,rfl,World.ownsRow_nil _ _ _ _,iI.nil _,Ze1 _ _⟩
      case round=>
       obtain ⟨k,vs,hk,rfl,hown,hf,hm⟩:=hrel;have hg:=Hf.out.below hm Hf.out.lt;have y8:wr.cell? ⟨w.heap.size,8,none⟩=some (sQ J v.ins.length ic):=by rw [hg.cell];rfl
       by_cases hn:k<v.ins.length
       ·obtain ⟨Ao,co,rfl⟩:=qa6 hown
        obtain ⟨b1,off1,rfl,-,hc⟩:=h9.out.below hm (lrZ _) k hn;rw [qa2 hn] at hc;obtain ⟨r1,r2,r3⟩:=Hk.out _ (gmZ hn);have hz:=qhE sh v.ins hn;obtain ⟨u,hu⟩:∃u:Nat,v.ins[k]=(u:Int):=⟨v.ins[k].toNat,by omega⟩
        rw [hu] at hc hz r2;rw [tnZ] at hz r2;rw [qad r2] at hz;obtain ⟨Su,cu,yu,hI,u1,u2⟩:=Hs.out.each r2;rw [Zw] at yu;have yu':=qa1 hm yu;have hl:=hf.push hI u1 u2;rw [←hz] at hl;generalize sh[u]=s at *;have j0:(0:Int)<=(u:Int):=by omega
        have j1:(u:Int)<(sh.length:Int):=by omega
        have ho:=qa8 hown (.cells #[sQ Su s.length cu] 22);have hp:=hm.alloc hm.size (.cells #[sQ Su s.length cu] 22);have Hy:∀b,(Zb1 Ao k co).ownBlock=some b->w2.heap.size<=b:=λb hb=>(hown.lt b hb).1
        obtain ⟨hT,h1,hC,HV,H5,H2⟩:=zd6 hg hf hl Hy hI hz;clear hg hf hl Hy hI hz;clear hown r1 r3 hu yu;go_wp2_with (at_builtin;refine wpList_append_own_at _ rfl _ _ 32 rfl w2.heap.size 22 i1 (sQ none 0 0) 1 24 underlying32 hj HP HK HT rfl dZ _ _ _ rfl ho ⟨wr.heap.size,0,none⟩ 1 1 [sQ Su s.length cu] rfl rfl ?c1 (by intro u hu;simp at hu;subst hu;rfl) (by unfold maxLen;omega) oZ ?c2 ?_)
        first|(case c1=>exact qap wr _ _)|skip
        case c2=>first|exact hp.size|(have:=hm.size;omega)
        intro v' w3 hv hgrow _ HI;have HZ:Below w2.heap.size w2 w3:=hp.grown hgrow hp.size (λb hb=>HV.out b hb);have H0:=zI hv;clear hv hgrow HI ho hp;go_wp2_with fail;go_roundw
        case rel=>exact ⟨k+1,_,by omega,by go_num,H0.out,hC.out,HZ⟩
        case measure=>simp [intOf];omega
       ·obtain rfl:k=v.ins.length:=by omega
        rw [Zg] at hf;obtain ⟨Ao,co,rfl,Hu,hU,gh,gf⟩:=hf.qG hown hm;obtain ⟨y0,y1,y2,y3,y4,y5,y6,y7,-,y9⟩:=qca hg;have hw:=hK.out.1;have H8:=hK.out.2.1;have hd:=qfg v.op S Q Ao c qc co v.p (Nt.pick sh v.ins) wr Hr.out hR.out oZ hsc hsm hw (Ht.out.below hm (lrZ _)) (hN.out.below hm (lrZ _)) hU HG.out HD.out;have Hl:=hG.trans (hm.mono hG.size);rw [←HE.out] at hd;generalize Od.shape v.op v.p (Nt.pick sh v.ins)=r at *;obtain ⟨ha,h1,HF,ge,hT,Hw,gb⟩:=zd7 hd hf hown hU hg hw Hu;clear hd hf hown hU hg hw Hu;go_wp2_with fail;clear y0 y1 y2 y3 y4 y5 y6 y7 y8 y9;refine (ha.out).mono ?_;rintro e w9 ⟨S9,c9,rfl,h7,H1,HW,HU⟩;have HH:=zI h7;clear h7;have hY:=Hl.trans (HU.mono Hl.size);go_wp2_with fail
        go_ret2
        exact ⟨S9,c9,rfl,HH.out,H1,HW,hY⟩
def oG (B:Nat) (w:Zp1) (g:Nat) (t:TypeId) (ss:List (List Int)):Prop:=
 B<=g/\∃hs:List Nat,hs.length=ss.length/\(∃vs:List Value,vs.length=ss.length/\Blk w g t vs.toArray/\∀j (hj:j<ss.length) (hj2:j<hs.length),vs[j]? = some (sQ (some ⟨hs[j],0,none⟩) ss[j].length ss[j].length))/\
  ∀j (hj:j<ss.length) (hj2:j<hs.length),B<=hs[j]/\hs[j]≠g/\Blk w hs[j] 3 (ss[j].map (Za1 iQ)).toArray
theorem oG.qG {B:Nat} {w:Zp1} {g:Nat} {t:TypeId} {ss:List (List Int)} (h:oG B w g t ss) (hm:∀s∈ss,s.length<=9223372036854775807):bQ w (some ⟨g,0,none⟩) ss:=λj hj=>by
 obtain ⟨_,hs,hl,⟨vs,ha,hk,hv⟩,hb⟩:=h;have h1:=hv j hj oZ;obtain ⟨_,_,hB⟩:=hb j hj oZ;refine ⟨g,0,_,_,rfl,hk.lt,by rw [Zw,hk.cell j];simpa using h1,Ints.dV λi hi=>?_,lrZ _,hm _ (gmZ hj)⟩;rw [Zw,hB.cell i,qa2 hi];simp [hi]
theorem oG.fr {B:Nat} {w w':Zp1} {g:Nat} {t:TypeId} {ss:List (List Int)} {S:Nat->Prop} (h:oG B w g t ss) (hf:Fr S w w') (hS:∀b,B<=b->b<w.heap.size->¬S b):oG B w' g t ss:=by
 obtain ⟨hg,hs,hl,⟨vs,ha,hk,hv⟩,hb⟩:=h;refine ⟨hg,hs,hl,⟨vs,ha,hf.blk hk (hS _ hg hk.lt),hv⟩,λj hj hc=>?_⟩;obtain ⟨h1,h2,h3⟩:=hb j hj hc;exact ⟨h1,h2,hf.blk h3 (hS _ h1 h3.lt)⟩
theorem oG.base {B B':Nat} {w:Zp1} {g:Nat} {t:TypeId} {ss:List (List Int)} (h:oG B w g t ss) (hB:B'<=B):oG B' w g t ss:=by
 obtain ⟨hg,hs,hl,hv,hb⟩:=h;exact ⟨Zv hB hg,hs,hl,hv,λj hj ha=>⟨Zv hB (hb j hj ha).1,(hb j hj ha).2⟩⟩
def eH (T:TypeId) (w w':Zp1):Prop:=w.heap.size<=w'.heap.size/\∀(b:Nat) (cs:Array Value) (t:TypeId),w.heap[b]? = some (Obj.cells cs t (0,0))->t≠T->w'.heap[b]? = w.heap[b]?
section
variable {T t:TypeId} {w w' w2:Zp1} {g B:Nat} {cs:Array Value}
theorem eH.of_later (h:Later w w'):eH T w w':=⟨Below.size h,λb cs t hb _=>Below.block h b (lt_of_block hb)⟩
theorem eH.aO (hb:Blk w g T cs) (i:Nat) (u:Value):eH T w (w.setCell ⟨g,i,none⟩ u):=⟨by simp,λb cs' t h ht=>Below.heap_setCell w _ u b (λe=>by
 have e:b=g:=e;subst e;unfold Blk at hb;rw [hb] at h;injection h with h
 injection h with _ h _
 exact ht h.symm)⟩
theorem eH.refl (T:TypeId) (w:Zp1):eH T w w:=⟨lrZ _,λ_ _ _ _ _=>rfl⟩
theorem eH.trans (h:eH T w w') (k:eH T w' w2):eH T w w2:=⟨Zv h.1 k.1,λb cs t hb ht=>(k.2 b cs t ((h.2 b cs t hb ht).trans hb) ht).trans (h.2 b cs t hb ht)⟩
theorem Blk.keep (hb:Blk w g t cs) (ht:t≠T) (h:eH T w w'):Blk w' g t cs:=(h.2 g cs t hb ht).trans hb
theorem qcb {e:TypeId} {s n:Nat} {v:Value} {xs:List Value} (h:w.ownsRow B e s v n xs) (ht:e≠T) (hk:eH T w w'):w'.ownsRow B e s v n xs:=by
 refine ⟨h.1,?_⟩;rcases h.2 with h|⟨g,cap,cur,rfl,h1,h2,h3⟩
 ·exact .inl h
 ·exact .inr ⟨g,cap,cur,rfl,h1,(hk.2 g cur e h2 ht).trans h2,h3⟩
theorem oG.keep {ss:List (List Int)} (h:oG B w g t ss) (ht:t≠T) (hi:3≠T) (hk:eH T w w'):oG B w' g t ss:=by
 obtain ⟨hg,hs,hl,⟨vs,hc,hb,hv⟩,hr⟩:=h;exact ⟨hg,hs,hl,⟨vs,hc,hb.keep ht hk,hv⟩,λj hj ha=>⟨(hr j hj ha).1,(hr j hj ha).2.1,(hr j hj ha).2.2.keep hi hk⟩⟩
end
structure CpQ where
 v:aS
 S:Nat
 J:Option Addr
 jc:Nat
 Q:Nat
def CpQ.cells (x:CpQ):List Value:=[nQ iQ x.v.op.kind,nQ iQ x.v.op.k,nQ iQ x.v.op.width,nQ iQ x.v.op.step,nQ iQ x.v.op.side,nQ iQ x.v.op.frm,nQ iQ x.v.op.to,sQ (some ⟨x.S,0,none⟩) x.v.op.s.length x.v.op.s.length,.slice x.J x.v.ins.length x.jc,sQ (some ⟨x.Q,0,none⟩) x.v.p.length x.v.p.length]
def CpQ.R (B:Nat) (w:Zp1) (x:CpQ):Prop:=B<=x.S/\Blk w x.S 3 (x.v.op.s.map (Za1 iQ)).toArray/\w.ownsRow B 3 1 (.slice x.J x.v.ins.length x.jc) x.v.ins.length (x.v.ins.map (Za1 iQ))/\oG B w x.Q 23 x.v.p
theorem CpQ.len (x:CpQ):x.cells.length=10:=rfl
theorem CpQ.flat (L:List CpQ):(L.flatMap CpQ.cells).length=L.length*10:=by
 induction L with
 | nil=>rfl
 | cons x r ih=>rw [List.flatMap_cons,Ze,ih,CpQ.len,List.length_cons];omega
theorem CpQ.R.keep {B:Nat} {w w':Zp1} {x:CpQ} {T:TypeId} (h:CpQ.R B w x) (h1:3≠T) (h2:23≠T) (hk:eH T w w'):CpQ.R B w' x:=
 ⟨h.1,h.2.1.keep h1 hk,qcb h.2.2.1 h1 hk,h.2.2.2.keep h2 h1 hk⟩
theorem CpQ.R.later {B:Nat} {w w':Zp1} {x:CpQ} (h:CpQ.R B w x) (hk:Later w w'):CpQ.R B w' x:=h.keep (T:=77) dZ dZ (eH.of_later hk)
def jF (B:Nat) (wx:Zp1) (g:Nat) (zc:Array Value) (ns:List aS) (k:Nat):Prop:=
 ∃L:List CpQ,L.map (·.v)=ns.take k/\L.length=k/\Blk wx g 77 (L.flatMap CpQ.cells++zc.toList.drop (k*10)).toArray/\∀x∈L,CpQ.R B wx x
theorem jF.later {B:Nat} {w w':Zp1} {g:Nat} {zc:Array Value} {ns:List aS} {k:Nat} (h:jF B w g zc ns k) (hk:Later w w'):jF B w' g zc ns k:=by
 obtain ⟨L,h1,h2,h3,h4⟩:=h;exact ⟨L,h1,h2,hk.blk h3,λx hx=>(h4 x hx).later hk⟩
theorem jF.keep {B:Nat} {w w':Zp1} {g:Nat} {zc:Array Value} {ns:List aS} {k:Nat} {T:TypeId} (h:jF B w g zc ns k) (h1:3≠T) (h2:23≠T) (h3:77≠T) (hk:eH T w w'):jF B w' g zc ns k:=by
 obtain ⟨L,l1,l2,l3,l4⟩:=h;exact ⟨L,l1,l2,l3.keep h3 hk,λx hx=>(l4 x hx).keep h1 h2 hk⟩
theorem qfi {w:Zp1} {B B' e s n:Nat} {v:Value} {xs:List Value} (h:w.ownsRow B e s v n xs) (hB:B'<=B):w.ownsRow B' e s v n xs:=by
 refine ⟨h.1,?_⟩;rcases h.2 with h|⟨g,cap,cur,h1,h2,h3⟩
 ·exact .inl h
 ·exact .inr ⟨g,cap,cur,h1,Zv hB h2,h3⟩
theorem CpQ.R.base {B B':Nat} {w:Zp1} {x:CpQ} (h:CpQ.R B w x) (hB:B'<=B):CpQ.R B' w x:=⟨Zv hB h.1,h.2.1,qfi h.2.2.1 hB,h.2.2.2.base hB⟩
theorem jF.zero {B:Nat} {w:Zp1} {g:Nat} {zc:Array Value} {ns:List aS} (h:Blk w g 77 zc):jF B w g zc ns 0:=⟨[],by simp,rfl,by simpa using h,by simp⟩
def iJ (w:Zp1) (g o:Nat) (l:List Value):Zp1:=((((((((((w.setCell ⟨g,o,none⟩ (l.getD 0 undef)).setCell ⟨g,o+1,none⟩ (l.getD 1 undef)).setCell ⟨g,o+2,none⟩ (l.getD 2 undef)).setCell ⟨g,o+3,none⟩ (l.getD 3 undef)).setCell ⟨g,o+4,none⟩ (l.getD 4 undef)).setCell ⟨g,o+5,none⟩ (l.getD 5 undef)).setCell ⟨g,o+6,none⟩ (l.getD 6 undef)).setCell ⟨g,o+7,none⟩ (l.getD 7 undef)).setCell ⟨g,o+8,none⟩ (l.getD 8 undef)).setCell ⟨g,o+9,none⟩ (l.getD 9 undef))
theorem Blk.iJ {w:Zp1} {g:Nat} {t:TypeId} {P R:List Value} {z0 z1 z2 z3 z4 z5 z6 z7 z8 z9 a0 a1 a2 a3 a4 a5 a6 a7 a8 a9:Value} {o:Nat} (hP:P.length=o) (h:Blk w g t (P++z0::z1::z2::z3::z4::z5::z6::z7::z8::z9::R).toArray):
  Blk (Go.Proofs.YtddkenhemnkkeaaGreat.iJ w g o [a0,a1,a2,a3,a4,a5,a6,a7,a8,a9]) g t (P++a0::a1::a2::a3::a4::a5::a6::a7::a8::a9::R).toArray:=by
 subst hP;have:=(((((((((h.aO P.length a0).aO (P.length+1) a1).aO (P.length+2) a2).aO (P.length+3) a3).aO (P.length+4) a4).aO (P.length+5) a5).aO (P.length+6) a6).aO (P.length+7) a7).aO (P.length+8) a8).aO (P.length+9) a9;simpa [Go.Proofs.YtddkenhemnkkeaaGreat.iJ,List.set_append_right] using this
theorem eH.iJ {w:Zp1} {g:Nat} {t:TypeId} {cs:Array Value} (h:Blk w g t cs) (o:Nat) (l:List Value):eH t w (Go.Proofs.YtddkenhemnkkeaaGreat.iJ w g o l):=by
 unfold Go.Proofs.YtddkenhemnkkeaaGreat.iJ;have s:∀ {W:Zp1} (hk:eH t w W) (hc:∃cs,Blk W g t cs) (i:Nat) (u:Value),eH t w (W.setCell ⟨g,i,none⟩ u)/\∃cs,Blk (W.setCell ⟨g,i,none⟩ u) g t cs:=λhk ⟨cs,hc⟩ i u=>⟨hk.trans (eH.aO hc i u),_,hc.aO i u⟩
 have s0:=s (eH.refl t w) ⟨_,h⟩ o (l.getD 0 undef);have s1:=s s0.1 s0.2 (o+1) (l.getD 1 undef);have s2:=s s1.1 s1.2 (o+2) (l.getD 2 undef);have s3:=s s2.1 s2.2 (o+3) (l.getD 3 undef);have s4:=s s3.1 s3.2 (o+4) (l.getD 4 undef);have s5:=s s4.1 s4.2 (o+5) (l.getD 5 undef);have s6:=s s5.1 s5.2 (o+6) (l.getD 6 undef);have s7:=s s6.1 s6.2 (o+7) (l.getD 7 undef);have s8:=s s7.1 s7.2 (o+8) (l.getD 8 undef);exact (s s8.1 s8.2 (o+9) (l.getD 9 undef)).1
theorem drop_ten {zs:List Value} {o:Nat} (h:o+10<=zs.length):∃z0 z1 z2 z3 z4 z5 z6 z7 z8 z9,zs.drop o=z0::z1::z2::z3::z4::z5::z6::z7::z8::z9::zs.drop (o+10):=by
 refine ⟨zs[o],zs[o+1],zs[o+2],zs[o+3],zs[o+4],zs[o+5],zs[o+6],zs[o+7],zs[o+8],zs[o+9],?_⟩
 iterate 10 rw [Zd oZ]
theorem jF.next {B:Nat} {w:Zp1} {g:Nat} {zc:Array Value} {ns:List aS} {k:Nat} (h:jF B w g zc ns k) (hk:k<ns.length) (hz:zc.size=ns.length*10):
  (∃z0 z1 z2 z3 z4 z5 z6 z7 z8 z9,w.cell? ⟨g,k*10,none⟩=some z0/\w.cell? ⟨g,k*10+1,none⟩=some z1/\w.cell? ⟨g,k*10+2,none⟩=some z2/\w.cell? ⟨g,k*10+3,none⟩=some z3/\w.cell? ⟨g,k*10+4,none⟩=some z4/\w.cell? ⟨g,k*10+5,none⟩=some z5/\w.cell? ⟨g,k*10+6,none⟩=some z6/\w.cell? ⟨g,k*10+7,none⟩=some z7/\w.cell? ⟨g,k*10+8,none⟩=some z8/\w.cell? ⟨g,k*10+9,none⟩=some z9)/\
  (∀i,w.frozen? ⟨g,i,none⟩=false)/\
  ∀x:CpQ,x.v=ns[k]->CpQ.R B w x->jF B (Go.Proofs.YtddkenhemnkkeaaGreat.iJ w g (k*10) x.cells) g zc ns (k+1)/\eH 77 w (Go.Proofs.YtddkenhemnkkeaaGreat.iJ w g (k*10) x.cells):=by
 obtain ⟨L,h1,h2,h3,h4⟩:=h;obtain ⟨z0,z1,z2,z3,z4,z5,z6,z7,z8,z9,e⟩:=drop_ten (zs:=zc.toList) (o:=k*10) soZ;rw [e] at h3;have hl:(L.flatMap CpQ.cells).length=k*10:=by rw [CpQ.flat,h2]
 refine ⟨⟨z0,z1,z2,z3,z4,z5,z6,z7,z8,z9,?_,?_,?_,?_,?_,?_,?_,?_,?_,?_⟩,λi=>h3.frozen i,λx hx hR=>⟨⟨L++[x],?_,by simp [h2],?_,λy hy=>?_⟩,eH.iJ h3 _ _⟩⟩
 all_goals first|(rw [h3.cell];simp [←hl];done)|skip
 ·rw [List.map_append,h1,Zb hk,←hx];rfl
 ·have:=Blk.iJ (a0:=nQ iQ x.v.op.kind) (a1:=nQ iQ x.v.op.k) (a2:=nQ iQ x.v.op.width) (a3:=nQ iQ x.v.op.step) (a4:=nQ iQ x.v.op.side) (a5:=nQ iQ x.v.op.frm) (a6:=nQ iQ x.v.op.to) (a7:=sQ (some ⟨x.S,0,none⟩) x.v.op.s.length x.v.op.s.length) (a8:=.slice x.J x.v.ins.length x.jc) (a9:=sQ (some ⟨x.Q,0,none⟩) x.v.p.length x.v.p.length) hl h3
  rw [Zj,List.append_assoc,show (k+1)*10=k*10+10 by omega];exact this
 ·have ha:eH 77 w (Go.Proofs.YtddkenhemnkkeaaGreat.iJ w g (k*10) x.cells):=eH.iJ h3 _ _
  rcases List.mem_append.1 hy with hy|hy
  ·exact (h4 y hy).keep dZ dZ ha
  ·simp at hy;subst hy;exact hR.keep dZ dZ ha
theorem Later.iJ {w w1:Zp1} {g o:Nat} {l:List Value} (h:Later w w1) (hg:w.heap.size<=g):Later w (Go.Proofs.YtddkenhemnkkeaaGreat.iJ w1 g o l):=by
 unfold Go.Proofs.YtddkenhemnkkeaaGreat.iJ;exact (((((((((h.set (p:=⟨g,o,none⟩) hg _).set (p:=⟨g,o+1,none⟩) hg _).set (p:=⟨g,o+2,none⟩) hg _).set (p:=⟨g,o+3,none⟩) hg _).set (p:=⟨g,o+4,none⟩) hg _).set (p:=⟨g,o+5,none⟩) hg _).set (p:=⟨g,o+6,none⟩) hg _).set (p:=⟨g,o+7,none⟩) hg _).set (p:=⟨g,o+8,none⟩) hg _).set (p:=⟨g,o+9,none⟩) hg _
theorem jF.o {B:Nat} {w:Zp1} {g:Nat} {zc:Array Value} {ns:List aS} (h:jF B w g zc ns ns.length) (hs:∀v∈ns,v.op.s.length<=1048576/\v.p.length<=1048576/\∀s∈v.p,s.length<=1048576):jY w (some ⟨g,0,none⟩) ns:=λj hj=>by
 obtain ⟨L,h1,h2,h3,h4⟩:=h;rw [Zg] at h1;subst h1;rw [List.length_map] at hj;have hx:=h4 L[j] (gmZ hj);have hd:=hs L[j].v (List.mem_map.2 ⟨_,gmZ hj,rfl⟩);obtain ⟨q1,q2,q3,q4⟩:=hx;obtain ⟨r1,r2,r3⟩:=qak q3;have hb:L=L.take j++L[j]::L.drop (j+1):=by rw [←Zd hj,Zn]
 have hc:((L.take j).flatMap CpQ.cells).length=j*10:=by rw [CpQ.flat];simp;omega
 have ha:∀i,i<10->w.cell? ⟨g,j*10+i,none⟩=L[j].cells[i]?:=λi hi=>by
  rw [h3.cell]
  conv=>lhs;rw [hb,Zj,List.flatMap_cons,List.append_assoc,List.append_assoc]
  rw [Zk,Zl oZ,hc,show j*10+i-j*10=i by omega,Zm (by rw [CpQ.len];exact hi)]
 rw [List.getElem_map];refine ⟨g,0,some ⟨L[j].S,0,none⟩,L[j].v.op.s.length,L[j].J,L[j].jc,some ⟨L[j].Q,0,none⟩,L[j].v.p.length,rfl,h3.lt,?_,?_,?_,?_,?_,?_,?_,?_,?_,?_,⟨?_,lrZ _,by omega⟩,⟨r1,r2,r3⟩,⟨q4.qG (λs h=>by have:=hd.2.2 s h;omega),lrZ _,by omega⟩⟩
 all_goals first|(rw [Zw];exact ha 0 oZ)|(rw [Zw];exact ha _ oZ)|skip
 exact Ints.dV λi hi=>by
  rw [Zw,q2.cell i,qa2 hi];simp [hi]
def qae (l:List Int):List Value:=l.map (Za1 iQ)
theorem qbc (l:List Int) (x:Int):qae (l++[x])=qae l++[nQ iQ x]:=by simp [qae]
theorem qaI (l:List Int):(qae l).length=l.length:=by simp [qae]
def SizesP (ss:List (List Int)) (w:Zp1) (e:Ending) (w':Zp1):Prop:=
 ∃g,e=.returned (.tuple #[sQ (some ⟨g,0,none⟩) ss.length ss.length,nQ iQ 0])/\w.heap.size<=g/\Blk w' g 3 (qae (ss.map Safe.prod)).toArray/\Below w.heap.size w w'
theorem Blk.jU {w:Zp1} {g:Nat} {t:TypeId} {L l:List Value} {o:Nat} (h:Blk w g t (splice L o l).toArray) (hl:o+l.length<L.length) (v:Value):Blk (w.setCell ⟨g,o+l.length,none⟩ v) g t (splice L o (l++[v])).toArray:=by
 have:=h.aO (o+l.length) v;rw [←Go.Proofs.YtddkenhemnkkeaaGreat.jU L o l v hl];simpa using this
theorem Blk.has {w:Zp1} {g:Nat} {t:TypeId} {L:List Value} {j:Nat} (h:Blk w g t L.toArray) (hj:j<L.length):∃v,w.cell? ⟨g,j,none⟩=some v:=⟨L[j],by rw [h.cell];simp⟩
theorem qfj (A:Option Addr) (c:Nat) (ss:List (List Int)) (w:Zp1) (hl:ss.length<=1099511627776) (hr:∀s∈ss,Sh.right s=true) (hS:bQ w A ss):
  Calls prog 42 #[sQ A ss.length c] w (SizesP ss w):=by
 obtain ⟨i0,hi,hB,hG,hz⟩:=info_parts qag;obtain ⟨Hr,HS⟩:=zd2 hr hS;clear hr hS;go_in;go_wp2_with (at_make;refine wpList_make_full _ rfl _ _ 22 rfl w.heap.size 3 i0 (nQ iQ 0) 1 underlying22 hi hB hG _ _ _ _ ss.length rfl rfl (by first|rfl|simp|(go_simp;rfl)) (by first|rfl|simp|(go_simp;rfl)) ?b2 ?b3 ?b4 ?_)
 case b2=>rw [hz];omega
 case b3=>unfold maxLen;omega
 case b4=>exact lrZ _
 intro w1 hown hgrow;have ha:=qau hown;rw [qao] at ha;have hs:Below w.heap.size w w1:=(Ze1 _ w).grown hgrow (lrZ _) sZ;have hu:Blk w1 w.heap.size 3 (splice (Zc ss.length (Za1 iQ 0)) 0 (qae ((ss.take 0).map Safe.prod))).toArray:=by simpa [splice,qae,Blk] using ha
 have hq:=zI hu;clear hu;clear ha hown hgrow;go_wp2_with fail
 go_loopw [14] (λi wx=>∃k:Nat,k<=ss.length/\i=nQ iQ (k:Int)/\Blk wx w.heap.size 3 (splice (Zc ss.length (Za1 iQ 0)) 0 (qae ((ss.take k).map Safe.prod))).toArray/\Below w.heap.size w wx) (λi _=>ss.length-(intOf i).toNat)
 case atStart=>exact ⟨0,Zt _,rfl,hq.out,hs⟩
 case round=>
  obtain ⟨k,hk,rfl,hm,hb⟩:=hrel;clear hq hs
  by_cases hn:k<ss.length
  ·obtain ⟨b,off,S,sc,rfl,-,hc,hI,-⟩:=HS.out k hn
   have he:=Hr.out _ (gmZ hn);have hE:=qa1 hb hc;have hp:(qae ((ss.take k).map Safe.prod)).length=k:=by rw [qaI];simp;omega
   have hw:qae ((ss.take (k+1)).map Safe.prod)=qae ((ss.take k).map Safe.prod)++[nQ iQ (Safe.prod ss[k])]:=by rw [Zb hn,List.map_append,List.map_singleton,qbc]
   generalize ss[k]=s at *;have ht:=Sh.jJ he;have hC:=(Sh.aT he).2.1;have hv:=hI.below hb (lrZ _);obtain ⟨Hm,HI,hx,hJ,hF,hh,hA⟩:=zd7 hm hI hv he ht hp hw;clear hm hI hv he ht hp hw;clear hc;go_wp2_with fail;refine (qaj S sc s _ oZ hx.out).mono ?_;rintro e w2 ⟨rfl,hf⟩;rw [hF.out];have hd:=Hm.out.below hf Hm.out.lt;have hg:=hb.trans (hf.mono hb.size);have ho:=hd.jU (o:=0) (by rw [hh.out];simp;omega) (nQ iQ (Safe.prod s));rw [hh.out,Zw,←hA.out] at ho;obtain ⟨y,hy⟩:=hd.has (j:=k) (by rw [length_splice _ _ _ (by rw [hh.out];simp;omega)];simp;omega);have fy:=hd.frozen k;have hj:=hg.setCell (p:=⟨w.heap.size,k,none⟩) sZ (nQ iQ (Safe.prod s));obtain ⟨hH,hD⟩:=zd2 hd ho;clear hd ho;clear hE hf;go_wp2_with fail;go_roundw
   case rel=>exact ⟨k+1,by omega,by go_num,hD.out,hj⟩
   case measure=>simp [intOf];omega
  ·obtain rfl:k=ss.length:=by omega
   rw [Zg,qf8 _ _ (by rw [qaI];simp)] at hm;have Hm:=zI hm;clear hm;go_wp2_with fail
   go_ret2
   exact ⟨w.heap.size,rfl,lrZ _,Hm.out,hb⟩
def OfP (n:aA) (w:Zp1) (e:Ending) (w':Zp1):Prop:=
 Below w.heap.size w w'/\((Nt.check n=0/\∃g g2,e=.returned (.tuple #[.agg #[sQ (some ⟨g,0,none⟩) (n.o.length+1) (n.o.length+1),sQ (some ⟨g2,0,none⟩) (n.o.length+1) (n.o.length+1),nQ iQ (Nt.total n)],nQ iQ 0])/\Blk w' g 3 (qae (Nt.words n)).toArray/\Blk w' g2 3 (qae (Nt.aD n)).toArray)∨
  (Nt.check n≠0/\e=.returned (.tuple #[.agg #[sQ none 0 0,sQ none 0 0,nQ iQ 0],nQ iQ (Nt.check n)])))
theorem qew (n:aA) (L:List Value) (hL:L.length=n.o.length+1) (h0:L[0]? = some (nQ iQ 0)):splice L 1 (qae (Nt.bY n n.o.length))=qae (Nt.aD n):=by
 unfold splice;have hd:L.drop (1+(qae (Nt.bY n n.o.length)).length)=[]:=List.drop_eq_nil_of_le (by rw [qaI,Nt.bH];omega);rw [hd,List.append_nil]
 match L,hL,h0 with
 | a::r,_,h0=>
  simp at h0;subst h0;simp [Nt.aD,qae]
theorem qex (n:aA) (k:Nat):splice (Zc k (Za1 iQ 0)) 1 (qae (Nt.bY n 0))=Zc k (Za1 iQ 0):=by
 have e:qae (Nt.bY n 0)=[]:=rfl;rw [e];unfold splice;rw [List.nil_append,List.length_nil,Zx,Zn]
theorem qdL {sh:List (List Int)} {u:Nat} (h:u<sh.length):sh.getD u []=sh[u]:=by rw [gdZ,geZ h];rfl
theorem qcw (A N:Option Addr) (c d:Nat) (n:aA) (w:Zp1) (hok:n.ok) (hR:bC w A N n) (hd:n.o.length<=d) (hsm:n.o.length<=200):
  Calls prog 17 #[.agg #[sQ A n.inn.length c,sQ N n.o.length d]] w (OfP n w):=by
 obtain ⟨i0,hi,gd,gF,gr⟩:=info_parts qef;obtain ⟨i1,hj,gl,gj,gn⟩:=info_parts qag;have HZ:=(Blk.new w 26 #[sQ A n.inn.length c,sQ N n.o.length d]).alloc (.cells #[sQ none 0 0,sQ none 0 0,nQ iQ 0] 55);have Hf:=Blk.new (w.alloc (.cells #[sQ A n.inn.length c,sQ N n.o.length d] 26)) 55 #[sQ none 0 0,sQ none 0 0,nQ iQ 0];rw [Zh1] at Hf;have H8:Later w ((w.alloc (.cells #[sQ A n.inn.length c,sQ N n.o.length d] 26)).alloc (.cells #[sQ none 0 0,sQ none 0 0,nQ iQ 0] 55)):=((Later.refl w).alloc _).alloc _;obtain ⟨HR,gk,H4,gD,HF⟩:=zd5 hR HZ H8 Hf hok;clear hR HZ H8 Hf hok;go_in;go_wp2_with fail;generalize (w.alloc (.cells #[sQ A n.inn.length c,sQ N n.o.length d] 26)).alloc (.cells #[sQ none 0 0,sQ none 0 0,nQ iQ 0] 55)=w1 at *;refine (qgx A N c d n w1 HF.out (HR.out.below H4.out (lrZ _)) hd).mono ?_;rintro e w2 ⟨h6,⟨hc,g,rfl,-,hI⟩|⟨hc,rfl⟩⟩
 all_goals
  have hK:=H4.out.call h6;have h5:=(show Later w1 w2 from h6).blk gk.out;have he:=(show Later w1 w2 from h6).blk gD.out;clear h6
 rotate_left
 ·have q0:(Nt.check n != 0)=true:=by simp [hc]
  have c0:=he.cell 0;have c1:=he.cell 1;have c2:=he.cell 2;have f0:=he.frozen 0;have f1:=he.frozen 1;have f2:=he.frozen 2;simp at c0 c1 c2;have hv:=((he.aO 0 (sQ none 0 0)).aO 1 (sQ none 0 0)).aO 2 (nQ iQ 0);have d0:=hv.cell 0;have d1:=hv.cell 1;have d2:=hv.cell 2;simp at d0 d1 d2;have hs:=hK.size;obtain ⟨Hc,Hs,H0,HV,HJ⟩:=zd5 hc hK h5 he hv;clear hc hK h5 he hv;go_wp2_with fail;refine Zk1 (v:=.tuple #[.agg #[sQ none 0 0,sQ none 0 0,nQ iQ 0],nQ iQ (Nt.check n)]) (by simp [results,results17,go_sem,d0,d1,d2]) rfl ?_;exact ⟨((Hs.out.set (p:=⟨w.heap.size+1,0,none⟩) (Zy _) _).set (p:=⟨w.heap.size+1,1,none⟩) (Zy _) _).set (p:=⟨w.heap.size+1,2,none⟩) (Zy _) _,.inr ⟨Hc.out,rfl⟩⟩
 have Hj:=Nt.iL hc;have HG:=Nt.lU hc;have HO:=hI.qG;have HY:=λk hk=>@Nt.cost_at n hc k hk
 have h0:=(Nt.total_bd hc hsm).2.2;have HL:(Nt.shapes n).map Safe.prod=Nt.words n:=rfl;have H3:=λk hk=>@Nt.mU n k hk
 have H5:=Nt.kQ hc;have hS:=Nt.fD (Nt.aL hc).2.2.2.1;generalize Nt.shapes n=sh at *;obtain ⟨Hc,Hs,H0,HV,HA,Hd,gf,gp,Hk⟩:=zd9 hc hK h5 he hI HG HO HY h0;obtain ⟨gb,gt,go,Hi⟩:=zd4 HL H3 H5 hS;clear hc hK h5 he hI HG HO HY h0 HL H3 H5 hS;have gm:sh.length<=201:=by omega
 rw [←Hj];have hV:=zI Hj;clear Hj;go_wp2_with fail;refine (qfj (some ⟨g,0,none⟩) sh.length sh w2 oZ Hd.out gf.out).mono ?_;rintro e w3 ⟨gw,rfl,gC,Hx,h1⟩;rw [gb.out] at Hx;have Hq:=Hs.out.call h1;have hn:Later w2 w3:=h1;have Hg:=hn.blk H0.out;have hv:=hn.blk HV.out;have ht:=HA.out.below h1 (lrZ _);have x1:w3.cell? ⟨w.heap.size,1,none⟩=some (sQ N n.o.length d):=by rw [Hg.cell];rfl
 have gI:=Hq.size;obtain ⟨H1,gH,HJ,hN,gq,gx⟩:=zd6 Hq Hg hv ht Hx hn;clear Hq Hg hv ht Hx hn;clear h1 gC;go_wp2_with (at_make;refine wpList_make_full _ rfl _ _ 22 rfl w3.heap.size 3 i1 (nQ iQ 0) 1 underlying22 hj gl gj _ _ _ _ sh.length rfl rfl (by first|rfl|simp|(go_simp;rfl)) (by first|rfl|simp|(go_simp;rfl)) ?b2 ?b3 ?b4 ?_)
 case b2=>rw [gn];omega
 case b3=>unfold maxLen;omega
 case b4=>exact lrZ _
 intro w4 hown hgrow;have hb:=qau hown;rw [qao] at hb;have HD:Below w3.heap.size w3 w4:=(Ze1 _ w3).grown hgrow (lrZ _) sZ;have hH:Later w3 w4:=HD
 have HT:Blk w4 w3.heap.size 3 (splice (Zc sh.length (Za1 iQ 0)) 1 (qae (Nt.bY n 0))).toArray:=by
  rw [qex];exact hb
 have x1':=hH.cell x1;obtain ⟨HB,h3⟩:=zd2 HT hH;clear HT hH;clear hb hown hgrow HD x1;go_wp2_with fail
 go_loopw [40] (λi wx=>∃k:Nat,k<=n.o.length/\i=nQ iQ (k:Int)/\Blk wx w3.heap.size 3 (splice (Zc sh.length (Za1 iQ 0)) 1 (qae (Nt.bY n k))).toArray/\Later w3 wx) (λi _=>n.o.length-(intOf i).toNat)
 case atStart=>exact ⟨0,Zt _,rfl,HB.out,h3.out⟩
 case round=>
  obtain ⟨k,hk,rfl,hm,hJ⟩:=hrel;clear HB h3 x1'
  by_cases hQ:k<n.o.length
  ·obtain ⟨b,off,S,sc,I,ic,Q,qc,rfl,Hu,gL,gO,HI⟩:=HR.out.2.at_ hQ
   have hG:=HF.out.2.2 _ (gmZ hQ);have hP:=(Hi.out _ (gmZ hQ)).2;have hx:=gp.out k hQ;have hF:=gt.out k hQ;have gy:0<=Od.dK n.o[k].op n.o[k].p (sh.getD (k+1) [])/\Od.dK n.o[k].op n.o[k].p (sh.getD (k+1) [])<=4294967296:=go.out (k+1) oZ _ (by rw [hF];simp);have gN:=hG.2.2.1;have hB:=H1.out.trans hJ;have Hv:=Hu.below hB;generalize n.o[k]=v at *;generalize Od.dK v.op v.p (sh.getD (k+1) [])=cv at *;obtain ⟨⟨y0,y1,y2,y3,y4,y5,y6,y7,y8,y9⟩,-⟩:=Hv;have HQ:=Blk.new wr 77 #[nQ iQ v.op.kind,nQ iQ v.op.k,nQ iQ v.op.width,nQ iQ v.op.step,nQ iQ v.op.side,nQ iQ v.op.frm,nQ iQ v.op.to,sQ S v.op.s.length sc,sQ I v.ins.length ic,sQ Q v.p.length qc];have HE:Later wr (wr.alloc (.cells #[nQ iQ v.op.kind,nQ iQ v.op.k,nQ iQ v.op.width,nQ iQ v.op.step,nQ iQ v.op.side,nQ iQ v.op.frm,nQ iQ v.op.to,sQ S v.op.s.length sc,sQ I v.ins.length ic,sQ Q v.p.length qc] 77)):=(Later.refl wr).alloc _;have HK:=hm.alloc (.cells #[nQ iQ v.op.kind,nQ iQ v.op.k,nQ iQ v.op.width,nQ iQ v.op.step,nQ iQ v.op.side,nQ iQ v.op.frm,nQ iQ v.op.to,sQ S v.op.s.length sc,sQ I v.ins.length ic,sQ Q v.p.length qc] 77);obtain ⟨Hm,hO,gi,Hn,h4,h2,Hr⟩:=zd7 hm hJ Hu hG hP hx hF;have Hy:=zI hB;obtain ⟨HN,HP,gv⟩:=zd3 HQ HE HK;clear hm hJ Hu hG hP hx hF hB HQ HE HK;go_wp2_with (at_make;refine wpList_make_full _ rfl _ _ 75 rfl wr.heap.size 23 i0 (sQ none 0 0) 1 underlying75 hi gd gF _ _ _ _ v.ins.length rfl rfl (by first|rfl|simp|(go_simp;rfl)) (by first|rfl|simp|(go_simp;rfl)) ?b2 ?b3 ?b4 ?_)
   case b2=>rw [gr];omega
   case b3=>unfold maxLen;omega
   case b4=>simp
   intro w5 hown hgrow;have hb:=qau hown;rw [qao] at hb;have hq:aX w5 (wr.heap.size+1) 23 (Nt.eY sh v.ins 0):=by rw [Nt.nV];exact aX.new (by simpa [Blk] using hb)
   have hM:Later wr w5:=Below.grown HP.out hgrow sZ sZ;have hC:Blk w5 wr.heap.size 77 #[nQ iQ v.op.kind,nQ iQ v.op.k,nQ iQ v.op.width,nQ iQ v.op.step,nQ iQ v.op.side,nQ iQ v.op.frm,nQ iQ v.op.to,sQ S v.op.s.length sc,sQ I v.ins.length ic,sQ Q v.p.length qc]:=HN.out.grown hgrow sZ;have z8:w5.cell? ⟨wr.heap.size,8,none⟩=some (sQ I v.ins.length ic):=by rw [hC.cell];rfl
   obtain ⟨hz,hY,Ha⟩:=zd3 hq hC hM;clear hq hC hM;clear hb hown hgrow y0 y1 y2 y3 y4 y5 y6 y7 y8 y9 HP HN gv;go_wp2_with fail;clear z8;obtain ⟨wo,rfl⟩:∃wo,wo=wr:=⟨wr,rfl⟩
   go_loopw [52] (λi wx=>∃m:Nat,m<=v.ins.length/\i=nQ iQ m/\Blk wx wo.heap.size 77 #[nQ iQ v.op.kind,nQ iQ v.op.k,nQ iQ v.op.width,nQ iQ v.op.step,nQ iQ v.op.side,nQ iQ v.op.frm,nQ iQ v.op.to,sQ S v.op.s.length sc,sQ I v.ins.length ic,sQ Q v.p.length qc]/\Later wo wx/\aX wx (wo.heap.size+1) 23 (Nt.eY sh v.ins m)) (λi _=>v.ins.length-(intOf i).toNat)
   case atStart=>exact ⟨0,Zt _,rfl,hY.out,Ha.out,hz.out⟩
   case round=>
    obtain ⟨m,hm,rfl,ho,hE,hD⟩:=hrel;clear hY hz Ha;have hL:=gi.out.below (Hy.out.trans hE);have gK:=Nt.oU sh v.ins hm
    by_cases h7:m<v.ins.length
    ·obtain ⟨b2,off2,rfl,-,HH⟩:=hL.2.2.1 m h7
     rw [qa2 h7] at HH;have he:=h4.out _ (gmZ h7);have HM:=zI (Nt.nW sh v.ins h7);obtain ⟨u,hu⟩:∃u:Nat,v.ins[m]=u:=⟨v.ins[m].toNat,by omega⟩
     rw [hu] at HH he;have Hl:u<sh.length:=by rw [hV.out];omega
     have HW:=Hd.out _ (gmZ Hl);obtain ⟨Su,cu,yu,He,lu1,lu2,-⟩:=(hN.out.below hO.out (lrZ _)).at_ Hl;obtain ⟨b3,off3,rfl,h1,-⟩:=He 0 (qa9 HW).1;have yu':=hE.cell yu;have hZ:=He.below hE (lrZ _);have hU:=hD.aO (i:=m) hZ lu1 lu2 (λa h=>by injection h with h;subst h;simp;omega);obtain ⟨Sm,cm,ym,-⟩:=hD.at_ (j:=m) oZ;have fm:wr.frozen? ⟨wo.heap.size+1,m,none⟩=false:=by obtain ⟨vs,_,hk,_⟩:=hD;exact hk.frozen m
     have HS:=zI (show aX (wr.setCell ⟨wo.heap.size+1,m,none⟩ (sQ (some ⟨b3,off3,none⟩) sh[u].length cu)) (wo.heap.size+1) 23 (Nt.eY sh v.ins (m+1)) by
      rw [HM.out,hu,show ((u:Int)).toNat=u by omega,qdL Hl];exact hU)
     have ge:=zI (ho.far (p:=⟨wo.heap.size+1,m,none⟩) sZ (sQ (some ⟨b3,off3,none⟩) sh[u].length cu));have gc:=zI (hE.set (p:=⟨wo.heap.size+1,m,none⟩) (Zy _) (sQ (some ⟨b3,off3,none⟩) sh[u].length cu));have u0:(0:Int)<=u:=by omega
     have u1:(u:Int)<(sh.length:Int):=by omega
     have m1:(m:Int)<v.ins.length:=by omega
     clear hU He hZ ho hD hL HW hu yu hE;go_wp2_with fail;go_roundw
     case rel=>exact ⟨m+1,by omega,by go_num,ge.out,gc.out,HS.out⟩
     case measure=>simp [intOf];omega
    ·obtain rfl:m=v.ins.length:=by omega
     have HX:(Nt.pick sh v.ins).length=v.ins.length:=by simp [Nt.pick]
     rw [Nt.qH] at hD
     obtain ⟨y0,y1,y2,y3,y4,y5,y6,y7,y9⟩:wr.cell? ⟨wo.heap.size,0,none⟩=some (nQ iQ v.op.kind)/\wr.cell? ⟨wo.heap.size,1,none⟩=some (nQ iQ v.op.k)/\wr.cell? ⟨wo.heap.size,2,none⟩=some (nQ iQ v.op.width)/\wr.cell? ⟨wo.heap.size,3,none⟩=some (nQ iQ v.op.step)/\wr.cell? ⟨wo.heap.size,4,none⟩=some (nQ iQ v.op.side)/\wr.cell? ⟨wo.heap.size,5,none⟩=some (nQ iQ v.op.frm)/\wr.cell? ⟨wo.heap.size,6,none⟩=some (nQ iQ v.op.to)/\wr.cell? ⟨wo.heap.size,7,none⟩=some (sQ S v.op.s.length sc)/\wr.cell? ⟨wo.heap.size,9,none⟩=some (sQ Q v.p.length qc):=by
      refine ⟨?_,?_,?_,?_,?_,?_,?_,?_,?_⟩
      all_goals (rw [ho.cell];rfl)
     have Ht:=Hn.out
     have H7:∀s∈Nt.pick sh v.ins,s.length<=17592186043904:=λs hs=>by
      obtain ⟨i,hi,rfl⟩:=List.mem_map.1 hs;have hr:=h4.out i hi;have hl:i.toNat<sh.length:=by rw [hV.out];omega
      rw [qdL hl];have:=(qa9 (Hd.out _ (gmZ hl))).2;omega
     have ha:=op_cost v.op S Q (some ⟨wo.heap.size+1,0,none⟩) sc qc v.ins.length v.p (Nt.pick sh v.ins) wr (by have:=Ht.2.1;omega) hL.2.1 ⟨hL.2.2.2,HI.1,HI.2,λs hs=>by have:=Ht.2.2.2.2.1 s hs;omega⟩ ⟨hD.qG,by omega,by omega,H7⟩;rw [HX,h2.out] at ha;obtain ⟨hg,gB⟩:=zd2 ha hE;clear ha hE;clear hL hD ho HX Ht H7;go_wp2_with fail;clear y0 y1 y2 y3 y4 y5 y6 y7 y9;refine (hg.out).mono ?_;rintro e w6 ⟨rfl,HU⟩;have hp:=gB.out.call HU;have hw:=hp.blk Hm.out;have hA:=hO.out.trans hp;have h8:(qae (Nt.bY n k)).length=k:=by rw [qaI,Nt.bH]
     have hh:=hV.out;have Hb:=hw.jU (by rw [h8,List.length_replicate];omega) (nQ iQ cv);rw [h8,←qbc,←Hr.out,show 1+k=k+1 by omega] at Hb;obtain ⟨y,hy⟩:=hw.has (j:=k+1) (by rw [length_splice _ _ _ (by rw [h8,List.length_replicate];omega),List.length_replicate];omega);have fy:=hw.frozen (k+1);have hW:=hA.set (p:=⟨w3.heap.size,k+1,none⟩) (lrZ _) (nQ iQ cv);have k1:(k:Int)+1<(sh.length:Int):=by omega
     have k2:((k:Int)+1).toNat=k+1:=by omega
     clear hh h8 HU;obtain ⟨gA,H9,gg,gu,Hp⟩:=zd5 hp hw hA Hb hW;clear hp hw hA Hb hW;go_wp2_with fail;go_roundw
     case rel=>exact ⟨k+1,by omega,by go_num,gu.out,Hp.out⟩
     case measure=>simp [intOf];omega
  ·obtain rfl:k=n.o.length:=by omega
   have hh:=hV.out;have H6:(Zc sh.length (Za1 iQ 0))[0]? = some (nQ iQ 0):=by rw [List.getElem?_replicate,ipZ oZ]
   rw [qew n _ (by rw [List.length_replicate];exact hh) H6] at hm;have Ho:(Nt.aD n).length=sh.length:=by rw [hh];simp [Nt.aD,Nt.bH]
   have Hz:Ints iQ wr (some ⟨w3.heap.size,0,none⟩) (Nt.aD n):=Ints.dV λj hj=>by
    rw [Zw,hm.cell];simp [qae,hj]
   have HC:=H1.out.trans hJ;have ha:=qfM (some ⟨w3.heap.size,0,none⟩) sh.length (Nt.aD n) wr (by rw [Ho];omega) Hz;rw [Ho,Hk.out] at ha;clear hh H6 Ho;obtain ⟨Hm,gM,gh,hg,hO⟩:=zd5 hm Hz HC ha hJ;clear hm Hz HC ha hJ;go_wp2_with fail;refine (hg.out).mono ?_;rintro e w5 ⟨rfl,hX⟩;have hM:=gh.out.call hX;have hf:=(hO.out.call hX).blk HJ.out;have Hw:=(show Later wr w5 from hX).blk Hm.out;have Hh:=(hO.out.call hX).blk gq.out;have c0:=hf.cell 0;have c1:=hf.cell 1;have c2:=hf.cell 2;have f0:=hf.frozen 0;have f1:=hf.frozen 1;have f2:=hf.frozen 2;simp at c0 c1 c2;have hT:=((hf.aO 0 (sQ (some ⟨gw,0,none⟩) sh.length sh.length)).aO 1 (sQ (some ⟨w3.heap.size,0,none⟩) sh.length sh.length)).aO 2 (nQ iQ (Nt.total n));have d0:=hT.cell 0;have d1:=hT.cell 1;have d2:=hT.cell 2;simp at d0 d1 d2;have h9:eH 55 w5 (((w5.setCell ⟨w.heap.size+1,0,none⟩ (sQ (some ⟨gw,0,none⟩) sh.length sh.length)).setCell ⟨w.heap.size+1,1,none⟩ (sQ (some ⟨w3.heap.size,0,none⟩) sh.length sh.length)).setCell ⟨w.heap.size+1,2,none⟩ (nQ iQ (Nt.total n))):=((eH.aO hf 0 _).trans (eH.aO (hf.aO 0 _) 1 _)).trans (eH.aO ((hf.aO 0 _).aO 1 _) 2 _);have hw:=Hw.keep dZ h9;have H2:=Hh.keep dZ h9;clear hX;obtain ⟨Ha,gR,gQ,gP,gG,gJ,H9,gE⟩:=zd8 hM hf Hw Hh hT h9 hw H2;clear hM hf Hw Hh hT h9 hw H2;go_wp2_with fail;refine Zk1 (v:=.tuple #[.agg #[sQ (some ⟨gw,0,none⟩) sh.length sh.length,sQ (some ⟨w3.heap.size,0,none⟩) sh.length sh.length,nQ iQ (Nt.total n)],nQ iQ 0]) (by simp [results,results17,go_sem,d0,d1,d2]) rfl ?_;exact ⟨((Ha.out.set (p:=⟨w.heap.size+1,0,none⟩) (Zy _) _).set (p:=⟨w.heap.size+1,1,none⟩) (Zy _) _).set (p:=⟨w.heap.size+1,2,none⟩) (Zy _) _,.inl ⟨Hc.out,gw,w3.heap.size,by rw [←hV.out],gE.out,H9.out⟩⟩
def jE (w:Zp1) (vs:List Value) (ss:List (List Int)):Prop:=
 vs.length=ss.length/\∀j (hj:j<ss.length),∃h,vs[j]? = some (sQ (some ⟨h,0,none⟩) ss[j].length ss[j].length)/\Blk w h 3 (ss[j].map (Za1 iQ)).toArray
theorem jE.nil (w:Zp1):jE w [] []:=⟨rfl,λj hj=>absurd hj sZ⟩
theorem jE.append {w:Zp1} {vs vs':List Value} {ss ss':List (List Int)} (h:jE w vs ss) (h':jE w vs' ss'):jE w (vs++vs') (ss++ss'):=by
 refine ⟨by simp [h.1,h'.1],λj hj=>?_⟩
 by_cases hl:j<ss.length
 ·obtain ⟨g,e,hb⟩:=h.2 j hl
  have e2:(ss++ss')[j]=ss[j]:=by simp [hl]
  rw [e2];exact ⟨g,by rw [Zm (by rw [h.1];exact hl)];exact e,hb⟩
 ·have ha:j-ss.length<ss'.length:=by simp at hj;omega
  obtain ⟨g,e,hb⟩:=h'.2 (j-ss.length) ha;have e2:(ss++ss')[j]=ss'[j-ss.length]:=by rw [List.getElem_append_right oZ]
  rw [e2];exact ⟨g,by rw [Zl (by rw [h.1];omega),h.1];exact e,hb⟩
theorem jE.keep {w w':Zp1} {vs:List Value} {ss:List (List Int)} {T:TypeId} (h:jE w vs ss) (hT:3≠T) (hk:eH T w w'):jE w' vs ss:=
 ⟨h.1,λj hj=>by obtain ⟨g,e,hb⟩:=h.2 j hj;exact ⟨g,e,hb.keep hT hk⟩⟩
theorem jE.one {w:Zp1} {vs:List Value} {ss:List (List Int)} (h:jE w vs ss):∀u∈vs,u.oneCell'=true:=λu hu=>by
 obtain ⟨j,hj,rfl⟩:=List.getElem_of_mem hu;obtain ⟨g,e,_⟩:=h.2 j (by rw [←h.1];exact hj);rw [geZ hj] at e;injection e with e
 rw [e];rfl
theorem eH.mI {T:TypeId} {w w':Zp1} {B s n:Nat} {v:Value} {xs:List Value} (h:w.ownsRow B T s v n xs) (hg:w.grownBy w' v.ownBlock):eH T w w':=by
 refine ⟨hg.size,λb cs t hb ht=>hg.block b (lt_of_block hb) λe=>?_⟩;rcases h.2 with ⟨rfl,_⟩|⟨g,cap,cur,rfl,_,hh,_⟩
 ·simp [Value.ownBlock] at e
 ·simp [Value.ownBlock] at e
  subst e;rw [hh] at hb;injection hb with hb
  injection hb with _ hb _
  exact ht hb.symm
theorem jE.qG {w:Zp1} {vs:List Value} {ss:List (List Int)} {B n:Nat} {t:TypeId} {v:Value} (h:jE w vs ss) (hown:w.ownsRow B t 1 v n vs) (hs:∀s∈ss,s.length<=1048576):
  ∃A c,v=sQ A ss.length c/\n=ss.length/\bQ w A ss/\ss.length<=c/\c<=9223372036854775807:=by
 have hn:n=ss.length:=by have:=hown.1;have:=h.1;omega
 subst hn;rcases hown.2 with ⟨rfl,h0⟩|⟨g,cap,cur,rfl,hb,hh,r1,r2,r3,r4⟩
 ·have:ss=[]:=List.eq_nil_of_length_eq_zero h0
  subst this;exact ⟨none,0,rfl,rfl,bQ.nil,by simp,by omega⟩
 ·refine ⟨_,cap,rfl,rfl,λj hj=>?_,r1,by unfold maxLen at r2;omega⟩
  obtain ⟨b,e,ha⟩:=h.2 j hj;refine ⟨g,0,_,_,rfl,lt_of_block hh,by rw [Zw,hown.cellAt j oZ];exact e,Ints.dV λi hi=>?_,lrZ _,by have:=hs _ (gmZ hj);omega⟩;rw [Zw,ha.cell i,qa2 hi];simp [hi]
namespace Nt
def aB (n:aA):Int:=if check n=0 then Safe.sum (words n)+(Safe.sum (words n)-(words n).getD 0 0) else 0
end Nt
namespace Nt
def wAt (n:aA) (u:Int):Int:=(words n).getD u.toNat 0
def cAt (n:aA) (u:Int):Int:=(aD n).getD u.toNat 0
def aU (n:aA):List Int:=wAt n 0::(sO n.o).map (wAt n)
def aR (n:aA):List Int:=(sO n.o).map (cAt n)
end Nt
def ChainP (n:aA) (w:Zp1) (e:Ending) (w':Zp1):Prop:=
 Below w.heap.size w w'/\((Nt.check n=0/\Nt.chain n=true/\∃A c A2 c2,e=.returned (.tuple #[sQ A (n.o.length+1) c,sQ A2 n.o.length c2,nQ iQ 0])/\Ints iQ w' A (Nt.aU n)/\Ints iQ w' A2 (Nt.aR n))∨
  (Nt.check n=0/\Nt.chain n=false/\e=.returned (.tuple #[sQ none 0 0,sQ none 0 0,nQ iQ 27]))∨
  (Nt.check n≠0/\e=.returned (.tuple #[sQ none 0 0,sQ none 0 0,nQ iQ (Nt.check n)])))
def tT (n:aA) (w:Zp1) (e:Ending) (w':Zp1):Prop:=
 Below w.heap.size w w'/\((Nt.check n=0/\Nt.chain n=true/\∃A c A2 c2,e=.returned (.tuple #[sQ A (n.o.length+1) c,sQ A2 n.o.length c2,nQ iQ 0])/\Ints iQ w' A (Nt.aU n)/\Ints iQ w' A2 (Nt.aR n)/\n.o.length+1<=c/\c<=9223372036854775807)∨
  (Nt.check n=0/\Nt.chain n=false/\e=.returned (.tuple #[sQ none 0 0,sQ none 0 0,nQ iQ 27]))∨
  (Nt.check n≠0/\e=.returned (.tuple #[sQ none 0 0,sQ none 0 0,nQ iQ (Nt.check n)])))
theorem tT.p {n:aA} {w:Zp1} {e:Ending} {w':Zp1} (h:tT n w e w'):ChainP n w e w':=by
 obtain ⟨h1,⟨a,b,A,c,A2,c2,d,f,g,-⟩|h2⟩:=h
 ·exact ⟨h1,.inl ⟨a,b,A,c,A2,c2,d,f,g⟩⟩
 ·exact ⟨h1,.inr h2⟩
def Apart (v u:Value):Prop:=∀b,v.ownBlock=some b->u.ownBlock=some b->False
theorem Apart.symm {v u:Value} (h:Apart v u):Apart u v:=λb h1 h2=>h b h2 h1
theorem qey {w w':Zp1} {B:Nat} {e:TypeId} {s n:Nat} {v u:Value} {xs:List Value} (h:w.ownsRow B e s u n xs) (hg:w.grownBy w' v.ownBlock) (ha:Apart v u):w'.ownsRow B e s u n xs:=
 qaa h λb hb=>hg.block b (h.lt b hb).2 λe=>ha b e.symm hb
theorem Apart.next {w:Zp1} {B:Nat} {e:TypeId} {s n:Nat} {v v' u:Value} {xs:List Value} (ha:Apart v u) (hu:w.ownsRow B e s u n xs) (hb:v'.ownBlock=v.ownBlock∨v'.ownBlock=some w.heap.size):Apart v' u:=λb h1 h2=>by
 rcases hb with h|h
 ·exact ha b (h▸h1) h2
 ·rw [h] at h1
  injection h1 with h1
  have:=(hu.lt b h2).2;omega
theorem qcc (A N:Option Addr) (c d:Nat) (n:aA) (w:Zp1) (hok:n.ok) (hR:bC w A N n) (hd:n.o.length<=d) (hsm:n.o.length<=200):
  Calls prog 38 #[.agg #[sQ A n.inn.length c,sQ N n.o.length d]] w (tT n w):=by
 obtain ⟨i0,hi,Hz,H4,HQ⟩:=info_parts qag;have HU:=Blk.new w 26 #[sQ A n.inn.length c,sQ N n.o.length d];have H3:Later w (w.alloc (.cells #[sQ A n.inn.length c,sQ N n.o.length d] 26)):=(Later.refl w).alloc _;obtain ⟨HR,H0,h8,H7⟩:=zd4 hR H3 hok HU;clear hR H3 hok HU;go_in;go_wp2_with fail;generalize w.alloc (.cells #[sQ A n.inn.length c,sQ N n.o.length d] 26)=w1 at *;refine (qcw A N c d n w1 h8.out (HR.out.below H0.out (lrZ _)) hd hsm).mono ?_;rintro e w2 ⟨Ha,⟨hc,g,g2,rfl,hg,Hm⟩|⟨hc,rfl⟩⟩
 all_goals
  have hB:=H0.out.call Ha;have hC:=(show Later w1 w2 from Ha).blk H7.out;clear Ha
 rotate_left
 ·have q0:(Nt.check n != 0)=true:=by simp [hc]
  obtain ⟨Hk,HV,Hc⟩:=zd3 hB hC hc;clear hB hC hc;go_wp2_with fail
  go_ret3
  exact ⟨Hk.out.alloc _,.inr (.inr ⟨Hc.out,rfl⟩)⟩
 have Hv:=Nt.bX hc;have HK:(Nt.aD n).length=n.o.length+1:=by simp [Nt.aD,Nt.bH]
 have hA:Later w2 (w2.alloc (.cells #[sQ (some ⟨g,0,none⟩) (n.o.length+1) (n.o.length+1),sQ (some ⟨g2,0,none⟩) (n.o.length+1) (n.o.length+1),nQ iQ (Nt.total n)] 55)):=(Later.refl w2).alloc _;have HZ:=Blk.new w2 55 #[sQ (some ⟨g,0,none⟩) (n.o.length+1) (n.o.length+1),sQ (some ⟨g2,0,none⟩) (n.o.length+1) (n.o.length+1),nQ iQ (Nt.total n)];have hY:=hA.blk hC;have HP:=hA.blk hg;have hD:=hA.blk Hm;have HM:=hB.trans hA;have x0:(w2.alloc (.cells #[sQ (some ⟨g,0,none⟩) (n.o.length+1) (n.o.length+1),sQ (some ⟨g2,0,none⟩) (n.o.length+1) (n.o.length+1),nQ iQ (Nt.total n)] 55)).cell? ⟨w.heap.size,0,none⟩=some (sQ A n.inn.length c):=by rw [hY.cell];rfl
 have x1:(w2.alloc (.cells #[sQ (some ⟨g,0,none⟩) (n.o.length+1) (n.o.length+1),sQ (some ⟨g2,0,none⟩) (n.o.length+1) (n.o.length+1),nQ iQ (Nt.total n)] 55)).cell? ⟨w.heap.size,1,none⟩=some (sQ N n.o.length d):=by rw [hY.cell];rfl
 have q0:(Nt.check n != 0)=false:=by simp [hc]
 obtain ⟨Hx,HC⟩:=zd2 x0 x1;clear x0 x1;obtain ⟨Hk,HV,Hc,gj,gh,gk,gf,H9,gp⟩:=zd9 hB hC hc Hv HK hA HZ hY HP;obtain ⟨Hh,Hs,Hg,H8⟩:=zd4 hD HM hg Hm;clear hB hC hc Hv HK hA HZ hY HP hD HM hg Hm;go_upto_region 4 with fail;generalize w2.alloc (.cells #[sQ (some ⟨g,0,none⟩) (n.o.length+1) (n.o.length+1),sQ (some ⟨g2,0,none⟩) (n.o.length+1) (n.o.length+1),nQ iQ (Nt.total n)] 55)=w3 at *;have x0:=Hx.out;have x1:=HC.out;generalize w2.heap.size=pb at *;clear Hx HC gk Hg H8 HV;go_wp2_with fail;refine (qhC A N c d n w3 h8.out (HR.out.below Hs.out (lrZ _)) hd).mono ?_;rintro e w4 ⟨rfl,Hy⟩;have hs:Later w3 w4:=Hy;have h3:=Hs.out.trans hs;have h0:=hs.blk H9.out;have y0:=hs.cell x0;have y1:=hs.cell x1;clear Hy x0 x1
 by_cases hv:Nt.chain n=true
 rotate_left
 ·have hv:Nt.chain n=false:=by simpa using hv
  rw [hv];obtain ⟨Hr,H1,Hb,gn⟩:=zd4 hv hs h3 h0;clear hv hs h3 h0;go_wp2_with fail
  go_ret3
  exact ⟨Hb.out,.inr (.inl ⟨Hc.out,Hr.out,rfl⟩)⟩
 rw [hv];obtain ⟨Hr,H1,Hb,gn⟩:=zd4 hv hs h3 h0;clear hv hs h3 h0;go_wp2_with fail;refine (qba A N c d n w4 h8.out (HR.out.below Hb.out (lrZ _)) hd).mono ?_;rintro e w5 ⟨HT,⟨-,O,oc,rfl,hO,-,-⟩|⟨gc,-⟩⟩
 rotate_left
 ·exact absurd Hc.out gc
 have hz:=H1.out.call HT;have HH:=Hs.out.trans hz;have He:=hz.blk gf.out;have Hf:=hz.blk gp.out;have hx:=hz.blk Hh.out;have HA:(Nt.sO n.o).length=n.o.length:=(Nt.aL Hc.out).2.2.2.2.1;have hP:∀u∈Nt.sO n.o,1<=u/\u<=n.o.length:=Kn.dQ _ _;have HX:Nt.aU n=Nt.wAt n 0::(Nt.sO n.o).map (Nt.wAt n):=rfl;have Hw:Nt.aR n=(Nt.sO n.o).map (Nt.cAt n):=rfl
 have hw:∀(W:Zp1),Later w5 W->∀u:Nat,u<=n.o.length->W.cell? ⟨g,u,none⟩=some (nQ iQ (Nt.wAt n u)):=λW h u hu=>by
  have e:(Nt.words n)[u]? = some (Nt.wAt n u):=by unfold Nt.wAt;rw [tnZ,gdZ,geZ (by rw [gj.out];omega)];rfl
  rw [(h.blk Hf).cell];simp [qae,e]
 have hS:∀(W:Zp1),Later w5 W->∀u:Nat,u<=n.o.length->W.cell? ⟨g2,u,none⟩=some (nQ iQ (Nt.cAt n u)):=λW h u hu=>by
  have e:(Nt.aD n)[u]? = some (Nt.cAt n u):=by unfold Nt.cAt;rw [tnZ,gdZ,geZ (by rw [gh.out];omega)];rfl
  rw [(h.blk hx).cell];simp [qae,e]
 have z0:w5.cell? ⟨pb,0,none⟩=some (sQ (some ⟨g,0,none⟩) (n.o.length+1) (n.o.length+1)):=by rw [He.cell];rfl
 have z1:w5.cell? ⟨g,0,none⟩=some (nQ iQ (Nt.wAt n 0)):=hw w5 (Later.refl _) 0 (Zt _);clear HT y0 y1;generalize Nt.sO n.o=os at *;have ht:(w5.alloc (.cells #[nQ iQ (Nt.wAt n 0)] 3)).ownsRow w5.heap.size 3 1 (sQ (some ⟨w5.heap.size,0,none⟩) 1 1) (0+1) (qae (Nt.wAt n 0::(os.take 0).map (Nt.wAt n))):=⟨rfl,.inr ⟨w5.heap.size,1,#[nQ iQ (Nt.wAt n 0)],rfl,lrZ _,heap_alloc_new w5 _,lrZ _,by decide,rfl,rfl⟩⟩
 have hX:Later w5 (w5.alloc (.cells #[nQ iQ (Nt.wAt n 0)] 3)):=(Later.refl w5).alloc _;have H6:(n.o.length:Int)=os.length:=by omega
 have gE:os.length<=200:=by omega
 rw [show n.o.length+1=os.length+1 by omega] at z0;have h7:n.o.length=os.length:=by omega
 clear H6;rw [h7];obtain ⟨gx,gt,gi,gw,gq,gD,h6,HN,HW⟩:=zd9 hz HH He Hf hx HA hP HX Hw;obtain ⟨h4,Hi,hp,hM,HO,h1⟩:=zd6 hw hS ht hX hO h7;clear hz HH He Hf hx HA hP HX Hw hw hS ht hX hO h7;go_wp2_with fail
 go_loopw [2,3,35] (λv u i wx=>∃k:Nat,k<=os.length/\i=nQ iQ (k:Int)/\wx.ownsRow w5.heap.size 3 1 v (k+1) (qae (Nt.wAt n 0::(os.take k).map (Nt.wAt n)))/\wx.ownsRow w5.heap.size 3 1 u k (qae ((os.take k).map (Nt.cAt n)))/\Apart v u/\Later w5 wx) (λ_ _ i _=>os.length-(intOf i).toNat)
 case atStart=>exact ⟨0,Zt _,rfl,hp.out,by simpa [qae] using World.ownsRow_nil _ w5.heap.size 3 1,λb _ h=>by simp [Value.ownBlock] at h,hM.out⟩
 case round=>
  obtain ⟨k,hk,rfl,hq,hh,hZ,hm⟩:=hrel;obtain ⟨Av,cv,rfl⟩:=qa6 hq;obtain ⟨Au,cu,rfl⟩:=qa6 hh;clear hp hM z1
  by_cases hK:k<os.length
  ·obtain ⟨b,off,rfl,-,Hj⟩:=HO.out k hK
   rw [qa2 hK] at Hj;have gr:=hm.cell Hj;have hr:=h6.out _ (gmZ hK);have Hn:qae (Nt.wAt n 0::(os.take (k+1)).map (Nt.wAt n))=qae (Nt.wAt n 0::(os.take k).map (Nt.wAt n))++[nQ iQ (Nt.wAt n os[k])]:=by rw [Zb hK,List.map_append,List.map_singleton,←List.cons_append,qbc]
   have h5:qae ((os.take (k+1)).map (Nt.cAt n))=qae ((os.take k).map (Nt.cAt n))++[nQ iQ (Nt.cAt n os[k])]:=by rw [Zb hK,List.map_append,List.map_singleton,qbc]
   obtain ⟨j,hj⟩:∃j:Nat,os[k]=(j:Int):=⟨os[k].toNat,by omega⟩
   rw [hj] at Hn h5 gr;have h2:j<=n.o.length:=by omega
   have q1:=h4.out wr hm j h2;have p0:=hm.cell z0;have j0:(0:Int)<=(j:Int):=by omega
   have gB:j<=os.length:=by rw [←h1.out];exact h2
   have j1:(j:Int)<(os.length:Int)+1:=by omega
   generalize Nt.wAt n (j:Int)=wj at *;have HJ:∀(W:Zp1),Later w5 W->W.cell? ⟨g2,j,none⟩=some (nQ iQ (Nt.cAt n j)):=λW h=>Hi.out W h j h2
   generalize Nt.cAt n (j:Int)=cj at *;generalize qae (Nt.wAt n 0::(os.take k).map (Nt.wAt n))=ws at *;generalize qae ((os.take k).map (Nt.cAt n))=cs at *;have gb:=hm.size;obtain ⟨Hp,HL,Hu,HI,gm,gv,gu⟩:=zd7 hq hh hZ hm Hn h5 HJ;clear hq hh hZ hm Hn h5 HJ;clear Hj hr hj h2;have ho:=qa8 Hp.out (.cells #[nQ iQ wj] 3);have HG:=HI.out.alloc (.cells #[nQ iQ wj] 3);have hH:=qa8 HL.out (.cells #[nQ iQ wj] 3);obtain ⟨gl,hT⟩:=zd2 HG hH;clear HG hH;have HB:=zI (λb (hb:(Zb1 Av (k+1) cv).ownBlock=some b)=>(Hp.out.lt b hb).1);go_wp2_with (at_builtin;refine wpList_append_own_at _ rfl _ _ 22 rfl w5.heap.size 3 i0 (nQ iQ 0) 1 8 underlying22 hi Hz H4 HQ rfl dZ _ _ _ rfl ho ⟨wr.heap.size,0,none⟩ 1 1 [nQ iQ wj] rfl rfl ?c1 (by intro u hu;simp at hu;subst hu;rfl) (by unfold maxLen;omega) oZ ?c2 ?_)
   first|(case c1=>exact qap wr _ _)|skip
   case c2=>simp;omega
   intro v' w6 ha hgrow _ HD;have hy:Later w5 w6:=Below.grown gl.out hgrow soZ (λb hb=>HB.out b hb);have hn:=qey hT.out hgrow Hu.out;have hJ:=Apart.next Hu.out hT.out (by rw [Zh1];exact HD);rw [←gm.out] at ha;obtain ⟨A7,c7,rfl⟩:=qa6 ha;have q2:=gu.out w6 hy;have Ho:=hy.blk gi.out;have p1:w6.cell? ⟨pb,1,none⟩=some (sQ (some ⟨g2,0,none⟩) (n.o.length+1) (n.o.length+1)):=by rw [Ho.cell];rfl
   rw [h1.out] at p1;have gd:=hy.size;clear q1 p0 hgrow HD ho HB;have HY:=qa8 hn (.cells #[nQ iQ cj] 3);have hN:=hy.alloc (.cells #[nQ iQ cj] 3);have hF:=qa8 ha (.cells #[nQ iQ cj] 3);have hW:=zI (λb (hb:(Zb1 Au k cu).ownBlock=some b)=>(hn.lt b hb).1);obtain ⟨gC,hU⟩:=zd2 hy hJ;have HF:=zI ha;obtain ⟨gy,Ht,hE,ge⟩:=zd4 Ho hN hF hn;clear hy hJ ha Ho hN hF hn;go_wp2_with (at_builtin;refine wpList_append_own_at _ rfl _ _ 22 rfl w5.heap.size 3 i0 (nQ iQ 0) 1 8 underlying22 hi Hz H4 HQ rfl dZ _ _ _ rfl HY ⟨w6.heap.size,0,none⟩ 1 1 [nQ iQ cj] rfl rfl ?c1 (by intro u hu;simp at hu;subst hu;rfl) (by unfold maxLen;omega) oZ ?c2 ?_)
   first|(case c1=>exact qap w6 _ _)|skip
   case c2=>simp;omega
   intro u' w7 hf he _ hV;have HE:Later w5 w7:=Below.grown Ht.out he soZ (λb hb=>hW.out b hb);have hQ:=qey hE.out he hU.out.symm;have hI:=(Apart.next hU.out.symm hE.out (by rw [Zh1];exact hV)).symm;rw [←gv.out] at hf;obtain ⟨H5,Hd,Hq,hG⟩:=zd4 HE hQ hI hf;clear HE hQ hI hf;clear q2 p1 he hV HY hW;go_wp2_with fail;go_roundw
   case rel=>exact ⟨k+1,by omega,by go_num,Hd.out,hG.out,Hq.out,H5.out⟩
   case measure=>simp [intOf];omega
  ·obtain rfl:k=os.length:=by omega
   rw [Zg] at hq hh;rw [←HN.out] at hq;rw [←HW.out] at hh;have l1:(Nt.aU n).length=os.length+1:=by rw [HN.out];simp
   have l2:(Nt.aR n).length=os.length:=by rw [HW.out];simp
   have h9:Ints iQ wr Av (Nt.aU n)/\os.length+1<=cv/\cv<=9223372036854775807:=by
    have hL:=hq;rw [←l1] at hL ⊢;exact qak hL
   have r1:=h9.1;have HS:=h9.2;clear h9
   have r2:Ints iQ wr Au (Nt.aR n):=by
    rw [←l2] at hh;exact (qak hh).1
   have hl:=gt.out.trans hm;obtain ⟨Hp,HL,Hu,gA,Hk,go,gg,Hl,HI⟩:=zd9 hq hh hZ l1 l2 r1 r2 hl hm;have H2:=zI HS;clear hq hh hZ l1 l2 r1 r2 hl hm HS;clear z0;go_wp2_with fail
   go_ret3
   exact ⟨Hl.out,.inl ⟨Hc.out,Hr.out,Av,cv,Au,cu,by (rw [h1.out]<;>rfl),go.out,gg.out,(by rw [h1.out];exact H2.out.1),H2.out.2⟩⟩
namespace Nt
def pW (n:aA) (u:Int):Nat->Int
 | 0=>0
 | k+1=>if (iF n.o ((sO n.o).getD k 0)).contains u then (k:Int)+1 else pW n u k
def bZ (n:aA) (k:Nat) (l:List Int):List Int:=(nums n.o.length).map λu=>if l.contains u then (k:Int)+1 else pW n u k
theorem lastMid_len (n:aA) (k:Nat) (l:List Int):(bZ n k l).length=n.o.length+1:=by simp [bZ,nums]
theorem lastMid_zero (n:aA):bZ n 0 []=Zc (n.o.length+1) 0:=by
 unfold bZ;rw [List.eq_replicate_iff];refine ⟨by simp [nums],λb hb=>?_⟩;obtain ⟨x,_,rfl⟩:=List.mem_map.1 hb;simp [pW]
theorem lastMid_next (n:aA) {k:Nat}:bZ n k (iF n.o ((sO n.o).getD k 0))=bZ n (k+1) []:=by
 unfold bZ;apply List.map_congr_left;intro u _;simp [pW]
theorem lastMid_in (n:aA) (k:Nat) (l:List Int) {id:Int} (h0:0<=id) (h1:id<=n.o.length):bZ n k (l++[id])=(bZ n k l).set id.toNat ((k:Int)+1):=by
 apply List.ext_getElem?;intro j;rw [List.getElem?_set];unfold bZ nums;simp only [List.map_map,List.getElem?_map,List.length_map,List.length_range]
 by_cases hj:j<n.o.length+1
 ·rw [List.getElem?_range hj]
  by_cases e:id.toNat=j
  ·subst e
   have:((id.toNat:Nat):Int)=id:=by omega
   simp [hj,this]
  ·have e2:(j:Int)≠id:=by omega
   simp [e,e2]
 ·rw [Zi soZ]
  simp;intro q;omega
theorem lT (n:aA) (k:Nat) {u:Nat} (hu:u<=n.o.length):(bZ n k [])[u]? = some (pW n u k):=by
 unfold bZ nums;simp [show u<n.o.length+1 by omega]
end Nt
def LastP (n:aA) (w:Zp1) (e:Ending) (w':Zp1):Prop:=
 Below w.heap.size w w'/\((Nt.check n=0/\∃g,e=.returned (.tuple #[sQ (some ⟨g,0,none⟩) (n.o.length+1) (n.o.length+1),nQ iQ 0])/\Blk w' g 3 (qae (Nt.bZ n n.o.length [])).toArray)∨
  (Nt.check n≠0/\e=.returned (.tuple #[sQ none 0 0,nQ iQ (Nt.check n)])))
theorem qgA (A N:Option Addr) (c d:Nat) (n:aA) (w:Zp1) (hok:n.ok) (hR:bC w A N n) (hd:n.o.length<=d):
  Calls prog 144 #[.agg #[sQ A n.inn.length c,sQ N n.o.length d]] w (LastP n w):=by
 obtain ⟨i0,hi,h4,He,h0⟩:=info_parts qag;have Hg:=hok.2.1;have hI:=Blk.new w 26 #[sQ A n.inn.length c,sQ N n.o.length d];have hY:Later w (w.alloc (.cells #[sQ A n.inn.length c,sQ N n.o.length d] 26)):=(Later.refl w).alloc _;obtain ⟨HR,hQ,hL,h8⟩:=zd4 hR hY hok hI;clear hR hY hok hI;go_in;go_wp2_with fail;generalize w.alloc (.cells #[sQ A n.inn.length c,sQ N n.o.length d] 26)=w1 at *;refine (qba A N c d n w1 hL.out (HR.out.below hQ.out (lrZ _)) hd).mono ?_;rintro e w2 ⟨hB,⟨hc,O,oc,rfl,hO,-,-⟩|⟨hc,rfl⟩⟩
 all_goals
  have hh:=hQ.out.call hB;have hn:=(show Later w1 w2 from hB).blk h8.out;clear hB
 rotate_left
 ·have q0:(Nt.check n != 0)=true:=by simp [hc]
  obtain ⟨Hc,hf,hJ⟩:=zd3 hc hh hn;clear hc hh hn;go_wp2_with fail
  go_ret2
  exact ⟨hf.out,.inr ⟨Hc.out,rfl⟩⟩
 have hq:(Nt.sO n.o).length=n.o.length:=(Nt.aL hc).2.2.2.2.1;have hp:∀u∈Nt.sO n.o,1<=u/\u<=n.o.length:=Kn.dQ _ _;have hg:=Nt.fD (Nt.aL hc).2.2.2.1;have hM:=λk=>@Nt.lastMid_next n k
 have x1:w2.cell? ⟨w.heap.size,1,none⟩=some (sQ N n.o.length d):=by rw [hn.cell];rfl
 have e1:iQ.wrap ((n.o.length:Int)+1)=((n.o.length+1:Nat):Int):=by rw [Zc1 _ oZ];omega
 generalize Nt.sO n.o=os at *;have h2:=hh.size;obtain ⟨Hc,hf,hJ,hZ,hx,hz,h7,HO⟩:=zd8 hc hh hn hq hp hg hM hO;clear hc hh hn hq hp hg hM hO;go_wp2_with (at_make;refine wpList_make_full _ rfl _ _ 22 rfl w2.heap.size 3 i0 (nQ iQ 0) 1 underlying22 hi h4 He _ _ _ _ (n.o.length+1) rfl rfl (by first|rfl|simp|(go_simp;rfl)) (by first|rfl|simp|(go_simp;rfl)) ?b2 ?b3 ?b4 ?_)
 case b2=>rw [h0];omega
 case b3=>unfold maxLen;omega
 case b4=>exact lrZ _
 intro w3 hown hgrow;have hb:=qau hown;rw [qao] at hb
 have hW:Blk w3 w2.heap.size 3 (qae (Nt.bZ n 0 [])).toArray:=by
  rw [Nt.lastMid_zero,qae,List.map_replicate];exact hb
 have hE:Later w2 w3:=(Ze1 _ w2).grown hgrow (lrZ _) sZ;have x1':=hE.cell x1;obtain ⟨hG,hK⟩:=zd2 hW hE;clear hW hE;clear hb hown hgrow x1;go_wp2_with fail
 go_loopw [26] (λi wx=>∃k:Nat,k<=n.o.length/\i=nQ iQ (k:Int)/\Blk wx w2.heap.size 3 (qae (Nt.bZ n k [])).toArray/\Later w2 wx) (λi _=>n.o.length-(intOf i).toNat)
 case atStart=>exact ⟨0,Zt _,rfl,hG.out,hK.out⟩
 case round=>
  obtain ⟨k,hk,rfl,hm,ha⟩:=hrel;clear hG hK x1'
  by_cases Hd:k<n.o.length
  ·have hw:k<os.length:=by rw [hZ.out];exact Hd
   obtain ⟨b,off,rfl,-,hF⟩:=HO.out k hw;rw [qa2 hw] at hF;have hU:=ha.cell hF;have hr:=hx.out _ (gmZ hw);obtain ⟨j,hj⟩:∃j:Nat,os[k]=(j:Int)+1:=⟨(os[k]-1).toNat,by omega⟩
   have hs:j<n.o.length:=by omega
   have eo:os.getD k 0=os[k]:=qa2 hw;have hA:=h7.out k;have hP:Nt.iF n.o os[k]=n.o[j].ins:=by unfold Nt.iF;rw [hj,Nt.dI hs]
   rw [eo,hP] at hA;have hV:=(hz.out _ (gmZ hs)).2;have Hh:=(hL.out.2.2 _ (gmZ hs)).2.2.1;obtain ⟨b1,off1,S,sc,I,ic,Q,qc,rfl,hv,-,-,-⟩:=HR.out.2.at_ hs;obtain ⟨⟨-,-,-,-,-,-,-,-,y8,-⟩,-,-,-⟩:=hv.below (hf.out.trans ha);have hH:=λ(W:Zp1) (h:Later w2 W)=>(hv.below (hf.out.trans h)).2.2.1
   have x1:wr.cell? ⟨w.heap.size,1,none⟩=some (sQ (some ⟨b1,off1,none⟩) n.o.length d):=by rw [(ha.blk hJ.out).cell];rfl
   rw [hj] at hU;generalize n.o[j]=v at *;have j1:iQ.wrap ((j:Int)+1-1)=(j:Int):=by rw [Zc1 _ oZ];omega
   have j2:(j:Int)<n.o.length:=by omega
   have k1:(k:Int)<(n.o.length:Int):=by omega
   clear hF hr hj eo hP;obtain ⟨Hm,hC,h9,h1,h6,Hf⟩:=zd6 hm ha hA hV hH hv;clear hm ha hA hV hH hv;go_wp2_with fail;clear y8 x1 hU
   go_loopw [39] (λi wx=>∃m:Nat,m<=v.ins.length/\i=nQ iQ (m:Int)/\Blk wx w2.heap.size 3 (qae (Nt.bZ n k (v.ins.take m))).toArray/\Later w2 wx) (λi _=>v.ins.length-(intOf i).toNat)
   case atStart=>exact ⟨0,Zt _,rfl,by rw [List.take_zero];exact Hm.out,hC.out⟩
   case round=>
    obtain ⟨m,hm,rfl,he,ho⟩:=hrel;clear Hm hC
    by_cases ht:m<v.ins.length
    ·obtain ⟨b2,off2,rfl,-,hN⟩:=h6.out _ ho m ht
     rw [qa2 ht] at hN;have hD:=h1.out _ (gmZ ht);have HM:=zI (show Nt.bZ n k (v.ins.take (m+1))=(Nt.bZ n k (v.ins.take m)).set v.ins[m].toNat ((k:Int)+1) by rw [Zb ht,Nt.lastMid_in _ _ _ hD.1 hD.2]);obtain ⟨u,hu⟩:∃u:Nat,v.ins[m]=u:=⟨v.ins[m].toNat,by omega⟩
     rw [hu] at hN hD HM;have hS:=Nt.lastMid_len n k (v.ins.take m);have hT:u<n.o.length+1:=by omega
     obtain ⟨y,hy⟩:=he.has (j:=u) (by rw [qaI,hS];exact hT);have fy:=he.frozen u;have hX:=he.aO u (nQ iQ ((k:Int)+1))
     have Hb:=zI (show Blk (wr.setCell ⟨w2.heap.size,u,none⟩ (nQ iQ ((k:Int)+1))) w2.heap.size 3 (qae (Nt.bZ n k (v.ins.take (m+1)))).toArray by
      rw [HM.out,tnZ];simpa [qae,List.map_set] using hX)
     have h3:=zI (ho.set (p:=⟨w2.heap.size,u,none⟩) (lrZ _) (nQ iQ ((k:Int)+1)));have u0:(0:Int)<=u:=by omega
     have u1:(u:Int)<((n.o.length+1:Nat):Int):=by omega
     have m1:(m:Int)<v.ins.length:=by omega
     have k6:iQ.wrap ((k:Int)+1)=(k:Int)+1:=Zc1 _ oZ;clear hX he ho hu hS hT;go_wp2_with fail;clear k6;go_roundw
     case rel=>exact ⟨m+1,by omega,by go_num,Hb.out,h3.out⟩
     case measure=>simp [intOf];omega
    ·obtain rfl:m=v.ins.length:=by omega
     rw [Zg] at he;obtain ⟨h5,Ha⟩:=zd2 he ho;clear he ho;go_wp2_with fail;go_roundw
     case rel=>exact ⟨k+1,by omega,by go_num,by rw [←h9.out];exact h5.out,Ha.out⟩
     case measure=>simp [intOf];omega
  ·obtain rfl:k=n.o.length:=by omega
   have hq:=hZ.out;have Hi:¬(n.o.length:Int)<(n.o.length:Int):=by omega
   have hl:=hf.out.trans ha;clear hq;obtain ⟨Hm,hC,Hl⟩:=zd3 hm ha hl;clear hm ha hl;go_wp2_with fail
   go_ret2
   exact ⟨Hl.out,.inl ⟨Hc.out,w2.heap.size,rfl,Hm.out⟩⟩
namespace Rt
theorem qg0 (n:aA) (u:Int):∀k,kM (Nt.iF n.o) (Nt.sO n.o) u k=Nt.pW n u k
 | 0=>rfl
 | k+1=>by
  unfold kM Nt.pW;rw [qg0 n u k]
theorem lT {n:aA} {u:Nat} (hu:u<=n.o.length):(Nt.bZ n n.o.length [])[u]? = some (kM (Nt.iF n.o) (Nt.sO n.o) u n.o.length):=by
 rw [Nt.lT n n.o.length hu,qg0]
end Rt
namespace Rt
def an:aA:=⟨[2],[⟨⟨1,0,0,0,0,0,0,[]⟩,[0],[]⟩,⟨⟨12,0,2,1,0,0,0,[]⟩,[1],[]⟩]⟩
theorem iP:Nt.check an=0:=by decide
end Rt
end Go.Proofs.YtddkenhemnkkeaaGreat
