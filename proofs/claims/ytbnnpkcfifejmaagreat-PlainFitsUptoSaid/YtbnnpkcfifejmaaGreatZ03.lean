/- Lemmas for the statements of this seat: contracts of functions and the plain laws. -/
import Derived.BigQuiet
import Derived.Deep.DeepCutAuto
import Derived.Deep.RegionHeld3
import Derived.Laws.Bits64b
import Derived.Lib.Hide
import Derived.Maps.AppendAt
import Derived.WalkKit
import Derived.Test.YtbnnpkcfifejmaaGreatChecked
import Derived.Test.YtbnnpkcfifejmaaGreatZ02
set_option linter.unusedVariables false
open List renaming take_succ_eq_append_getElem → Zb, replicate → Zc, drop_eq_getElem_cons → Zd, length_append → Ze, all_eq_true → Zf, take_length → Zg, mem_of_mem_take → Zh, getElem?_eq_none → Zi, flatMap_append → Zj, getElem?_toArray → Zk, getElem?_append_right → Zl, getElem?_append_left → Zm, take_append_drop → Zn, length_take → Zo, mem_of_mem_drop → Zp, length_drop → Zq, getElem?_set_self → Zr, getElem?_set_ne → Zs
open Nat renaming zero_le → Zt, succ_mul → Zu, le_trans → Zv, zero_add → Zw, add_zero → Zx, le_succ → Zy
open Bool renaming and_eq_true → Zz
open Go.Value renaming int → Za1, slice → Zb1
open Go.IntWalk renaming i64_in → Zc1
open Go.NoPanic renaming normal → Zd1
open Go.RowKit.Below renaming refl → Ze1
open Go.AllReadyH renaming cons → Zf1, nil → Zg1
open Go.World renaming size_alloc → Zh1, cell?_of_block → Zi1, block_lt_of_cell? → Zj1
open Go renaming bodyPost_ret → Zk1, wp_region_held_drew → Zl1, wp_region_noPanic → Zm1, wpAnyH_done → Zn1, wpAnyH_ready → Zo1, World → Zp1
namespace Go.Proofs.YtbnnpkcfifejmaaGreat
set_option maxHeartbeats 16000000
open Go.RowKit
theorem qee {L:List Value} {o:Nat} {v:Value} {r:List Value} (h:o+(v::r).length<=L.length):splice (L.set o v) (o+1) r=splice L o (v::r):=by
 simp only [List.length_cons] at h;unfold splice
 have e1:(L.set o v).take (o+1)=L.take o++[v]:=by
  rw [Zb soZ,List.take_set_of_le (lrZ _)];simp
 rw [e1,List.drop_set_of_lt oZ];simp [Nat.add_assoc,Nat.add_comm 1]
theorem qap {g:Nat} {t:TypeId}:∀(vs:List Value) (o:Nat) (w:Zp1) (L:List Value),Blk w g t L.toArray->o+vs.length<=L.length->Blk (w.setCells g o vs) g t (splice L o vs).toArray
 | [],o,w,L,h,_=>by rw [qed];exact h
 | v::r,o,w,L,h,hl=>by
  rw [←qee hl];refine qap r (o+1) _ _ ?_ (by simp at hl ⊢;omega);have:=h.set_ o v;simpa using this
theorem qaT {S:Nat->Prop} {g:Nat} (hg:S g):∀(vs:List Value) (o:Nat) (w0 w:Zp1),Fr S w0 w->Fr S w0 (w.setCells g o vs)
 | [],_,_,_,h=>h
 | v::r,o,w0,w,h=>qaT hg r (o+1) w0 _ (h.setCell (λ_=>hg) v)
theorem qfQ {S:Nat->Prop} {w w1:Zp1} (h:Fr S w w1):∀(vs:List Value) (o:Nat),Fr S w (w1.setCells w.heap.size o vs)
 | [],_=>h
 | v::r,o=>qfQ (h.setCell (p:=⟨w.heap.size,o,none⟩) (λq=>absurd q (Nat.lt_irrefl _)) v) r (o+1)
theorem Blk.shape {w:Zp1} {g:Nat} {t:TypeId} {cs:Array Value} (h:Blk w g t cs):w.shape? g=some (t,cs.size):=by
 unfold Blk at h;simp [World.shape?,h]
theorem Blk.own {w:Zp1} {B g n:Nat} {t:TypeId} {L:List Value} {xs:List Value} (h:Blk w g t L.toArray) (hB:B<=g) (hn:xs.length=n) (hl:n<=L.length) (hm:L.length<=maxLen) (ht:L.take n=xs) {c:Nat} (hc:c=L.length):
  w.ownsRow B t 1 (.slice (some ⟨g,0,none⟩) n c) n xs:=by
 subst hc;exact ⟨by omega,.inr ⟨g,_,_,rfl,hB,h,hl,hm,by simp,by simpa using ht⟩⟩
def qfR (B:Nat) (t:TypeId) (v:Value) (zs:List Int) (w:Zp1) (e:Ending) (w':Zp1):Prop:=
 ∃v',e=.returned v'/\w'.ownsRow B t 1 v' zs.length (zs.map (Za1 .i64))/\Fr (λb=>v.ownBlock=some b) w w'/\(v'.ownBlock=v.ownBlock∨v'.ownBlock=some w.heap.size)
theorem qdg (A X Y B:List Value) (h:X.length=Y.length):splice (A++(X++B)) A.length Y=A++(Y++B):=by
 unfold splice;rw [List.take_append_of_le_length (lrZ _),Zg,←h,←Ze,←List.append_assoc A X B,List.drop_left]
theorem ins_a {Z D:List Value} {x:Value} {i:Nat} (hi:i<Z.length) (hD:1<=D.length):splice (splice (Z++D) (i+1) (Z.drop i)) i [x]=Z.take i++x::Z.drop i++D.drop 1:=by
 obtain ⟨d,D',rfl⟩:∃d D',D=d::D':=by cases D with|nil=>simp at hD|cons d D'=>exact ⟨d,D',rfl⟩
 obtain ⟨A,b,B,rfl,rfl⟩:∃A b B,Z=A++b::B/\i=A.length:=⟨Z.take i,Z[i],Z.drop (i+1),by rw [←Zd hi,Zn],by simp;omega⟩
 rw [List.drop_left,List.take_left];have e1:A++b::B++d::D'=(A++[b])++((B++[d])++D'):=by simp
 have e2:A.length+1=(A++[b]).length:=by simp
 rw [e1,e2,qdg _ _ (b::B) _ sZ];have e3:A++[b]++(b::B++D')=A++([b]++(b::B++D')):=by simp
 rw [e3,qdg _ [b] [x] _ rfl];simp
theorem ins_b {Z Z1 Z2:List Value} {x:Value} {i:Nat} (hi:i<Z.length) (h1:Z1.length=Z.length+1-i):splice (splice (Z.take i++Z1++Z2) i [x]) (i+1) (Z.drop i)=Z.take i++x::Z.drop i++Z2:=by
 obtain ⟨d,D,rfl⟩:∃d D,Z1=d::D:=by cases Z1 with|nil=>simp at h1;omega|cons d D=>exact ⟨d,D,rfl⟩
 obtain ⟨A,B,rfl,rfl⟩:∃A B,Z=A++B/\i=A.length:=⟨Z.take i,Z.drop i,(Zn _ _).symm,by simp;omega⟩
 rw [List.drop_left,List.take_left];have e1:A++d::D++Z2=A++([d]++(D++Z2)):=by simp
 rw [e1,qdg _ [d] [x] _ rfl];have e2:A++([x]++(D++Z2))=(A++[x])++(D++Z2):=by simp
 have e3:A.length+1=(A++[x]).length:=by simp
 rw [e2,e3,qdg _ _ B _ (by simp at h1;omega)];simp
theorem qcm {zs:List Int} {x:Int} {i:Nat} (h:i<=zs.length):(zs.take i++x::zs.drop i).length=zs.length+1:=by simp;omega
theorem Blk.cells_map {w:Zp1} {g:Nat} {t:TypeId} {L xs:List Value} {n:Nat} (h:Blk w g t L.toArray) (ht:L.take n=xs):∀j v,xs[j]? = some v->w.cell? ⟨g,0+j,none⟩=some v:=λj v hj=>by
 rw [Zw,h.cell j];subst ht;rw [List.getElem?_take] at hj
 split at hj
 ·simpa using hj
 ·cases hj
theorem qdJ {zs:List Int}:∀v∈zs.map (Za1 .i64),v.oneCell'=true:=λv hv=>by
 obtain ⟨x,_,rfl⟩:=List.mem_map.1 hv
 rfl
theorem qeZ (B:Nat) (v:Value) (zs:List Int) (x:Int) (i vb:Nat) (w:Zp1) (hi:i<=zs.length) (hn:zs.length<=1099511627776) (hB:B<=w.heap.size) (hown:w.ownsRow B 3 1 v zs.length (zs.map (Za1 .i64))) (hv:Blk w vb 3 #[.int .i64 x]) (hvb:v.ownBlock≠some vb):
  Calls Tryz.prog 164 #[v,.int .i64 i,.slice (some ⟨vb,0,none⟩) 1 1] w (qfR B 3 v (zs.take i++x::zs.drop i) w):=by
 have hl:∀j u,[Za1 .i64 x][j]? = some u->w.cell? ⟨vb,0+j,none⟩=some u:=λj u hj=>by
  match j,hj with
  | 0,hj=>simp at hj;subst hj;rw [hv.cell];rfl
 have he:∀u∈[Za1 .i64 x],u.oneCell'=true:=λu hu=>by simp at hu;subst hu;rfl
 have hF:maxLen=9223372036854775807:=rfl;rcases hown.2 with ⟨rfl,h0⟩|⟨g,cap,cur,rfl,hw,hh,hL,hx,hA,hE⟩
 ·have hz:zs=[]:=List.eq_nil_of_length_eq_zero h0
  subst hz;obtain rfl:i=0:=by simpa using hi
  refine (Any2.slices_Insert_int_end_grow qcv none 0 0 vb 0 1 1 [] [.int .i64 x] w oZ oZ oZ oZ rfl rfl (λ_=>rfl) (λa h=>by cases h) hl he).mono ?_;rintro e w' ⟨rfl,rfl⟩;have hg:=grownCap_ge w (0+1) 0 3;have ho:=grownCap_le_maxLen w (0+1) 0 3 (by unfold maxLen;omega);refine ⟨_,rfl,?_,((Fr.refl _ w).drew).alloc _,.inr rfl⟩;have hk:=Blk.new w.drew 3 (([]++[Za1 .i64 x]).toArray++Builtin.zeroCells (Za1 .i64 0).cells (grownCap w (0+1) 0 3-(0+1)))
  have hJ:Blk (w.drew.alloc (.cells (([]++[Za1 .i64 x]).toArray++Builtin.zeroCells (Za1 .i64 0).cells (grownCap w (0+1) 0 3-(0+1))) 3)) w.heap.size 3 (([Za1 .i64 x]++(Builtin.zeroCells (Za1 .i64 0).cells (grownCap w (0+1) 0 3-(0+1))).toList).toArray):=by
   have e:(([Za1 .i64 x]++(Builtin.zeroCells (Za1 .i64 0).cells (grownCap w (0+1) 0 3-(0+1))).toList).toArray)=([]++[Za1 .i64 x]).toArray++Builtin.zeroCells (Za1 .i64 0).cells (grownCap w (0+1) 0 3-(0+1)):=by
    apply Array.ext';simp
   rw [e];exact hk
  have hy:(Builtin.zeroCells (Za1 .i64 0).cells (grownCap w (0+1) 0 3-(0+1))).toList.length=grownCap w (0+1) 0 3-(0+1):=by
   rw [Array.length_toList,size_zeroCells];simp [Value.cells]
  exact hJ.own hB rfl sZ (by simp only [Ze,hy,List.length_singleton];omega) sZ (by simp only [Ze,hy,List.length_singleton];show grownCap w (0+1) 0 3=_;omega)
 ·have hk:Blk w g 3 cur.toList.toArray:=by simpa [Blk] using hh
  have hm:cur.toList.length=cap:=by simpa using hA
  have hc:cur.toList.take zs.length=zs.map (Za1 .i64):=by simpa using hE
  have ht:=hk.cells_map hc;have hK:g≠vb:=λh=>hvb (by rw [h];rfl)
  have hr:(zs.map (Za1 .i64)).length=zs.length:=by simp
  by_cases hb:zs.length+1<=cap
  ·by_cases hs:i<zs.length
   ·refine (Any2.slices_Insert_int_shift qcv g 0 zs.length cap i vb 0 1 1 (zs.map (Za1 .i64)) [.int .i64 x] w hs oZ hb oZ (λh=>hK h.symm) hr rfl ht ?_ ?_ hl qdJ he 3 3 1 cap ?_ ?_ oZ ?_ ?_).mono ?_
    ·intro j hj;rw [Zw,hk.cell];simp;omega
    ·intro j hj;exact hk.frozen _
    ·exact hv.shape
    ·rw [hk.shape];simp [hA]
    ·exact hv.frozen _
    ·exact hv.frozen _
    ·rintro e w' ⟨rfl,rfl⟩
     have hd:(List.drop i (zs.map (Za1 .i64))).length=zs.length-i:=by simp
     have k1:=qap ((zs.map (Za1 .i64)).drop i) (0+(i+1)) w.drew _ hk.drew (by rw [hd,hm];omega);have k2:=qap [Za1 .i64 x] (0+i) _ _ k1 (by simp [splice];omega);refine ⟨_,rfl,?_,qaT (by rfl) _ _ _ _ (qaT (by rfl) _ _ _ _ (Fr.refl _ w).drew),.inl rfl⟩
     have ha:(splice (splice cur.toList (0+(i+1)) ((zs.map (Za1 .i64)).drop i)) (0+i) [Za1 .i64 x]).length=cap:=by
      simp only [splice,Ze,Zo,Zq,List.length_singleton,hd,hm];omega
     rw [qcm hi];refine k2.own hw soZ (by rw [ha];omega) (by rw [ha];exact hx) ?_ ha.symm;rw [Zw,Zw];have e0:cur.toList=zs.map (Za1 .i64)++cur.toList.drop zs.length:=by rw [←hc];exact (Zn _ _).symm
     rw [e0];generalize cur.toList.drop zs.length=D at *;generalize hZ:zs.map (Za1 .i64)=Z at *;have hD:i<Z.length:=by omega
     have hC:1<=D.length:=by rw [e0,Ze] at hm;omega
     rw [ins_a hD hC];have:(Z.take i++Za1 .i64 x::Z.drop i).length=zs.length+1:=by simp;omega
     rw [List.take_append_of_le_length oZ,List.take_of_length_le oZ];rw [←hZ];simp [List.map_take,List.map_drop]
   ·obtain rfl:i=zs.length:=by omega
    refine (Any2.slices_Insert_int_end_room qcv g 0 zs.length cap vb 0 1 1 [.int .i64 x] w oZ hb oZ rfl ?_ ?_ hl he).mono ?_
    ·intro j hj;rw [Zw,hk.cell];simp;omega
    ·intro j hj;exact hk.frozen _
    ·rintro e w' ⟨rfl,rfl⟩
     have k1:=qap [Za1 .i64 x] (0+zs.length) w _ hk soZ;refine ⟨_,rfl,?_,qaT (by rfl) _ _ _ _ (Fr.refl _ w),.inl rfl⟩
     have ha:(splice cur.toList (0+zs.length) [Za1 .i64 x]).length=cap:=by
      simp only [splice,Ze,Zo,Zq,List.length_singleton,hm];omega
     rw [qcm (lrZ _)];refine k1.own hw sZ (by rw [ha];omega) (by rw [ha];exact hx) ?_ ha.symm;rw [Zw];unfold splice;rw [hc,←List.append_assoc];rw [List.take_append_of_le_length sZ,List.take_of_length_le sZ];simp
  ·have hI:cap=zs.length:=by omega
   subst hI;have hg:=grownCap_ge w (zs.length+1) zs.length 3;have ho:=grownCap_le_maxLen w (zs.length+1) zs.length 3 (by unfold maxLen;omega)
   by_cases hs:i<zs.length
   ·refine (Any2.slices_Insert_int_grow qcv g 0 zs.length zs.length i vb 0 1 1 (zs.map (Za1 .i64)) [.int .i64 x] w hs oZ oZ oZ oZ hr rfl ht hl qdJ he).mono ?_
    rintro e w' ⟨rfl,rfl⟩;have hq:(Builtin.zeroCells (Za1 .i64 0).cells (zs.length+1-i)).toList.length=zs.length+1-i:=by rw [Array.length_toList,size_zeroCells];simp [Value.cells]
    have hf:(Builtin.zeroCells (Za1 .i64 0).cells (grownCap w (zs.length+1) zs.length 3-(zs.length+1))).toList.length=grownCap w (zs.length+1) zs.length 3-(zs.length+1):=by rw [Array.length_toList,size_zeroCells];simp [Value.cells]
    generalize hZ1:Builtin.zeroCells (Za1 .i64 0).cells (zs.length+1-i)=Z1 at *;have hT:insRen.t 3=3:=rfl;rw [hT] at *;generalize hZ2:Builtin.zeroCells (Za1 .i64 0).cells (grownCap w (zs.length+1) zs.length 3-(zs.length+1))=Z2 at *;generalize hG:grownCap w (zs.length+1) zs.length 3=G at *
    have hp:Blk (w.alloc (.cells (((zs.map (Za1 .i64)).take i).toArray++Z1++Z2) 3)).drew w.heap.size 3 (((zs.map (Za1 .i64)).take i++Z1.toList++Z2.toList).toArray):=by
     have:=Blk.new w 3 (((zs.map (Za1 .i64)).take i).toArray++Z1++Z2)
     have e:(((zs.map (Za1 .i64)).take i++Z1.toList++Z2.toList).toArray)=((zs.map (Za1 .i64)).take i).toArray++Z1++Z2:=by
      apply Array.ext';simp
     rw [e];exact this.drew
    have hH:((zs.map (Za1 .i64)).take i).length=i:=by simp;omega
    have hd:((zs.map (Za1 .i64)).drop i).length=zs.length-i:=by simp
    have k1:=qap [Za1 .i64 x] i _ _ hp (by simp only [Ze,hH,hq,hf,List.length_singleton];omega);have k2:=qap ((zs.map (Za1 .i64)).drop i) (i+1) _ _ k1.drew (by simp only [splice,Ze,Zo,Zq,List.length_singleton,hq,hf,List.length_map];omega);refine ⟨_,rfl,?_,?_,.inr rfl⟩
    ·have ha:(splice (splice ((zs.map (Za1 .i64)).take i++Z1.toList++Z2.toList) i [Za1 .i64 x]) (i+1) ((zs.map (Za1 .i64)).drop i)).length=G:=by
      simp only [splice,Ze,Zo,Zq,List.length_singleton,hq,hf,List.length_map];omega
     rw [qcm hi];refine k2.own hB soZ (by rw [ha];omega) (by rw [ha];exact ho) ?_ ha.symm;generalize hZ:zs.map (Za1 .i64)=Z at *;rw [ins_b oZ oZ];have:(Z.take i++Za1 .i64 x::Z.drop i).length=zs.length+1:=by simp;omega
     rw [List.take_append_of_le_length oZ,List.take_of_length_le oZ];rw [←hZ];simp [List.map_take,List.map_drop]
    ·have f1:Fr (λb=>(Zb1 (some ⟨g,0,none⟩) zs.length zs.length).ownBlock=some b) w (w.alloc (.cells (((zs.map (Za1 .i64)).take i).toArray++Z1++Z2) 3)):=(Fr.refl _ w).alloc _
     exact qfQ (qfQ f1.drew _ _).drew _ _
   ·obtain rfl:i=zs.length:=by omega
    refine (Any2.slices_Insert_int_end_grow qcv (some ⟨g,0,none⟩) zs.length zs.length vb 0 1 1 (zs.map (Za1 .i64)) [.int .i64 x] w oZ (lrZ _) oZ oZ hr rfl (λh=>by cases h) (λa h=>by injection h with h;subst h;intro j u hj;have:=ht j u hj;rw [Addr.add_lit];simpa using this) hl he).mono ?_;rintro e w' ⟨rfl,rfl⟩;have hT:insRen.t 3=3:=rfl;rw [hT] at *;have hf:(Builtin.zeroCells (Za1 .i64 0).cells (grownCap w (zs.length+1) zs.length 3-(zs.length+1))).toList.length=grownCap w (zs.length+1) zs.length 3-(zs.length+1):=by rw [Array.length_toList,size_zeroCells];simp [Value.cells]
    generalize hZ2:Builtin.zeroCells (Za1 .i64 0).cells (grownCap w (zs.length+1) zs.length 3-(zs.length+1))=Z2 at *;generalize hG:grownCap w (zs.length+1) zs.length 3=G at *;refine ⟨_,rfl,?_,((Fr.refl _ w).drew).alloc _,.inr rfl⟩
    have hp:Blk (w.drew.alloc (.cells ((zs.map (Za1 .i64)++[Za1 .i64 x]).toArray++Z2) 3)) w.heap.size 3 ((zs.map (Za1 .i64)++[Za1 .i64 x]++Z2.toList).toArray):=by
     have:=Blk.new w.drew 3 ((zs.map (Za1 .i64)++[Za1 .i64 x]).toArray++Z2)
     have e:((zs.map (Za1 .i64)++[Za1 .i64 x]++Z2.toList).toArray)=(zs.map (Za1 .i64)++[Za1 .i64 x]).toArray++Z2:=by
      apply Array.ext';simp
     rw [e];exact this
    have ha:(zs.map (Za1 .i64)++[Za1 .i64 x]++Z2.toList).length=G:=by simp only [Ze,List.length_map,List.length_singleton,hf];omega
    rw [qcm (lrZ _)];refine hp.own hB sZ (by rw [ha];omega) (by rw [ha];exact ho) ?_ ha.symm;rw [List.take_append_of_le_length sZ,List.take_of_length_le sZ];simp
theorem qf0 (B:Nat) (v:Value) (x:Int) (zs:List Int) (w:Zp1) (hn:(x::zs).length<=1099511627776) (hown:w.ownsRow B 3 1 v (x::zs).length ((x::zs).map (Za1 .i64))):
  Calls Tryz.prog 162 #[v,.int .i64 0,.int .i64 1] w (qfR B 3 v zs w):=by
 have ho:maxLen=9223372036854775807:=rfl;rcases hown.2 with ⟨rfl,h0⟩|⟨g,cap,cur,rfl,hl,hh,hc,hg,hm,hi⟩
 ·simp at h0
 ·have hk:Blk w g 3 cur.toList.toArray:=by simpa [Blk] using hh
  have he:cur.toList.length=cap:=by simpa using hm
  have hd:cur.toList.take (x::zs).length=(x::zs).map (Za1 .i64):=by simpa using hi
  have hf:=hk.cells_map hd;refine (Tryz.slices_Delete_int_cells g 0 (x::zs).length cap 0 1 (x::zs) w (lrZ _) hc oZ oZ sZ ?_ ?_).mono ?_
  ·intro j hj
   refine hf j _ ?_;rw [List.getElem?_map,geZ hj,gdZ,geZ hj]
   rfl
  ·intro j hj;exact hk.frozen _
  ·rintro e w' ⟨rfl,q,rfl⟩
   have hb:((((x::zs).take (x::zs).length).take 0++((x::zs).take (x::zs).length).drop 1++Zc (1-0) 0).map (Za1 .i64))=zs.map (Za1 .i64)++[Za1 .i64 0]:=by simp
   rw [hb];have k1:=qap (zs.map (Za1 .i64)++[Za1 .i64 0]) 0 (w.drewN q) _ (hk.drewN q) (by rw [he];simp at hc ⊢;omega);refine ⟨_,rfl,?_,qaT (by rfl) _ _ _ _ ((Fr.refl _ w).drewN q),.inl rfl⟩
   have ha:(splice cur.toList 0 (zs.map (Za1 .i64)++[Za1 .i64 0])).length=cap:=by
    simp only [splice,Ze,Zo,Zq,List.length_singleton,List.length_map,he];simp at hc;omega
   refine k1.own hl sZ (by rw [ha];simp at hc ⊢;omega) (by rw [ha];exact hg) ?_ ha.symm;unfold splice;simp
theorem qf1 (B:Nat) (v:Value) (x:Int) (zs:List Int) (w:Zp1) (hn:zs.length<=1099511627776) (hs:zs.Pairwise (·<=·)) (hown:w.ownsRow B 3 1 v zs.length (zs.map (Za1 .i64))):
  Calls Tryz.prog 163 #[v,.int .i64 x] w λe w'=>(∃b,e=.returned (.tuple #[.int .i64 (zs.countP (·<x):Nat),.bool b]))/\∃q,w'=w.drewN q:=by
 rcases hown.2 with ⟨rfl,h0⟩|⟨g,cap,cur,rfl,hf,hh,hd,he,hg,hc⟩
 ·have:zs=[]:=List.eq_nil_of_length_eq_zero h0
  subst this;refine (Tryz.slices_BinarySearch_int_empty none 0 x w).mono ?_;rintro e w' ⟨rfl,rfl⟩;exact ⟨⟨_,rfl⟩,0,rfl⟩
 ·have hk:Blk w g 3 cur.toList.toArray:=by simpa [Blk] using hh
  have ha:cur.toList.take zs.length=zs.map (Za1 .i64):=by simpa using hc
  have hb:=hk.cells_map ha;refine (Tryz.slices_BinarySearch_int g 0 zs.length cap zs x w (lrZ _) oZ ?_ (by rw [Zg];exact hs)).mono ?_
  ·intro j hj
   refine hb j _ ?_;rw [List.getElem?_map,geZ hj,gdZ,geZ hj]
   rfl
  ·rintro e w' ⟨rfl,q,rfl⟩
   rw [Zg];exact ⟨⟨_,rfl⟩,q,rfl⟩
theorem qf2:(Tryz.prog.info? 23).map (λi=>(i.zero,i.size,i.bytes))=some (some (.slice none 0 0),1,24):=by kernel_rfl
def Two (C:Nat) (t:TypeId) (w:Zp1) (r o:Value) (zr zo:List Int):Prop:=
 w.ownsRow C t 1 r zr.length (zr.map (Za1 .i64))/\w.ownsRow C t 1 o zo.length (zo.map (Za1 .i64))/\∀b,r.ownBlock=some b->o.ownBlock≠some b
section
variable {C:Nat} {t:TypeId} {w w':Zp1} {r o r' o':Value} {zr zo zr' zo':List Int} {S:Nat->Prop}
theorem Two.fr (h:Two C t w r o zr zo) (hf:Fr S w w') (hS:∀b,S b->¬C<=b):Two C t w' r o zr zo:=
 ⟨qbo h.1 hf λb hb hs=>hS b hs (h.1.lt b hb).1,qbo h.2.1 hf λb hb hs=>hS b hs (h.2.1.lt b hb).1,h.2.2⟩
theorem Two.new (h:Two C t w r o zr zo) (x:Obj):Two C t (w.alloc x) r o zr zo:=h.fr ((Fr.refl (λ_=>False) w).alloc x) λ_ h=>h.elim
theorem Two.left (h:Two C t w r o zr zo) (hf:Fr (λb=>r.ownBlock=some b) w w') (ho:w'.ownsRow C t 1 r' zr'.length (zr'.map (Za1 .i64))) (ha:r'.ownBlock=r.ownBlock∨r'.ownBlock=some w.heap.size):Two C t w' r' o zr' zo:=
 ⟨ho,qbo h.2.1 hf λb hb hs=>h.2.2 b hs hb,λb hb ho=>by
  rcases ha with e|e
  ·exact h.2.2 b (e▸hb) ho
  ·rw [e] at hb;injection hb with hb;subst hb;have:=(h.2.1.lt _ ho).2;omega⟩
theorem Two.right (h:Two C t w r o zr zo) (hf:Fr (λb=>o.ownBlock=some b) w w') (ho:w'.ownsRow C t 1 o' zo'.length (zo'.map (Za1 .i64))) (ha:o'.ownBlock=o.ownBlock∨o'.ownBlock=some w.heap.size):Two C t w' r o' zr zo':=
 ⟨qbo h.1 hf λb hb hs=>h.2.2 b hb hs,ho,λb hb ho=>by
  rcases ha with e|e
  ·exact h.2.2 b hb (e▸ho)
  ·rw [e] at ho;injection ho with ho;subst ho;have:=(h.1.lt _ hb).2;omega⟩
end
def qeJ (os:List Int) (w:Zp1) (e:Ending) (w':Zp1):Prop:=
 ∃A c,e=.returned (.slice A os.length c)/\Ints .i64 w' A os/\os.length<=c/\c<=9223372036854775807/\Below w.heap.size w w'
section
variable {X:Nat->Prop} {B:Nat} {w w':Zp1} {g:Nat} {t e:TypeId} {us:List (List Int)}
theorem URow.at3 (h:URow X B w g t e us) {j:Nat} (hj:j<us.length) (hlt:∀b,X b->b<w.heap.size):
  ∃v,w.cell? ⟨g,j,none⟩=some v/\(∀b,v.ownBlock=some b->¬X b)/\∀W:Zp1,(∀b,b<w.heap.size->(b=g∨¬X b)->W.heap[b]? = w.heap[b]?)->w.heap.size<=W.heap.size->
   W.ownsRow B e 1 v us[j].length (us[j].map (Za1 .i64))/\
   ∀(v':Value) (w1:Zp1) (x:Int),w1.ownsRow B e 1 v' (us[j].length+1) (us[j].map (Za1 .i64)++[.int .i64 x])->W.grownBy w1 v.ownBlock->(v'.ownBlock=v.ownBlock∨v'.ownBlock=some W.heap.size)->
    w1.cell? ⟨g,j,none⟩=some v/\w1.frozen? ⟨g,j,none⟩=false/\URow X B (w1.setCell ⟨g,j,none⟩ v') g t e (us.set j (us[j]++[x])):=by
 obtain ⟨v,hc,ho,hx,-⟩:=h.at_ hlt hj;refine ⟨v,hc,hx,λW ha hs=>?_⟩;have hW:=h.agree ha;obtain ⟨v2,hd,hh,hg,hf⟩:=hW.at_ (λb hb=>ltZ (hlt b hb) hs) hj
 have hv:v2=v:=by
  have e:=Zi1 (w:=w) (w':=W) (a:=⟨g,j,none⟩) (ha g h.lt (.inl rfl));rw [hd,hc] at e;injection e
 subst hv;refine ⟨hh,λv' w1 x h1 h2 h3=>?_⟩;have he:some g≠v2.ownBlock:=λq=>hg g q.symm h.1
 have hi:g<W.heap.size:=ltZ h.lt hs;refine ⟨h2.cell hd he,?_,hf v' w1 x h1 h2 h3⟩;obtain ⟨_,vs,_,hk,_⟩:=hW;exact (hk.grown h2 he).frozen j
theorem URow.shut (h:URow (λb=>b<B) B w g t e us):URow (λb=>b<B∨w.heap.size<=b) B w g t e us:=by
 obtain ⟨hg,vs,hl,hk,ho,hx,hd⟩:=h;refine ⟨.inl hg,vs,hl,hk,ho,λj v b hv hb=>?_,hd⟩;have h1:¬b<B:=hx j v b hv hb;have hj:j<us.length:=by rw [←hl];exact (List.getElem?_eq_some_iff.1 hv).1
 have h2:=((ho j hj v hv).lt b hb).2;omega
def SInv (tN:TypeId) (box:Array Value) (B C g2:Nat) (tL tI:TypeId) (ws:List Int) (us:List (List Int)) (w wr:Zp1):Prop:=
 Blk wr w.heap.size tN box/\Below w.heap.size w wr/\C<=wr.heap.size/\Blk wr (w.heap.size+1) tI (ws.map (Za1 .i64)).toArray/\URow (λb=>b<B∨C<=b) B wr g2 tL tI us
section
variable {tN:TypeId} {box:Array Value} {C g2:Nat} {tL tI:TypeId} {ws:List Int} {wr wr':Zp1} {S:Nat->Prop}
theorem SInv.fr (h:SInv tN box B C g2 tL tI ws us w wr) (hf:Fr S wr wr') (hS:∀b,S b->C<=b) (h1:w.heap.size+1<B) (h2:B<=C) (h3:g2<B):SInv tN box B C g2 tL tI ws us w wr':=by
 obtain ⟨a1,a2,a3,a4,a5⟩:=h;have hn:∀b,b<C->¬S b:=λb hb hs=>by have:=hS b hs;omega
 refine ⟨hf.blk a1 (hn _ oZ),a2.trans (hf.below (λb hb=>by have:=hS b hb;omega) a2.size),Zv a3 hf.size,hf.blk a4 (hn _ oZ),a5.agree λb hb ho=>hf.2 b hb (hn b ?_)⟩;rcases ho with rfl|ho
 ·omega
 ·omega
theorem SInv.wait (h:SInv tN box B C g2 tL tI ws us w wr) (u:Nat) (z:Int) (h1:w.heap.size+1<B) (h2:B<=C) (h3:g2≠w.heap.size+1):SInv tN box B C g2 tL tI (ws.set u z) us w (wr.setCell ⟨w.heap.size+1,u,none⟩ (.int .i64 z)):=by
 obtain ⟨a1,a2,a3,a4,a5⟩:=h;refine ⟨a1.far sZ _,a2.setCell (p:=⟨w.heap.size+1,u,none⟩) sZ _,by simpa using a3,?_,a5.agree λb hb ho=>Below.heap_setCell wr _ _ b ?_⟩
 ·have:=a4.set_ u (.int .i64 z)
  simpa [List.map_set] using this
 ·rcases ho with rfl|ho
  ·exact h3
  ·simp;omega
theorem SInv.read (h:SInv tN box B C g2 tL tI ws us w wr) {j:Nat} (hj:j<us.length):∃A c,wr.cell? ⟨g2,j,none⟩=some (.slice A us[j].length c)/\Ints .i64 wr A us[j]/\∀a,A=some a->B<=a.block/\a.block<C:=by
 obtain ⟨a1,a2,a3,a4,hg,vs,hl,hk,ho,hx,hd⟩:=h;have hv:vs[j]? = some vs[j]:=geZ oZ;obtain ⟨A,c,e,_,hI⟩:=Ints.of_own (ho j hj _ hv);refine ⟨A,c,by rw [hk.cell j];simpa [e] using hv,hI,λa ha=>?_⟩;subst ha;rcases (ho j hj _ hv).2 with ⟨h1,_⟩|⟨g,cap,cur,h1,h2,_⟩
 ·rw [h1] at e;cases e
 ·rw [e] at h1
  injection h1 with h1
  injection h1 with h1
  subst h1;have:=hx j _ g hv (by rw [e];rfl);exact ⟨h2,by simp at this;simp;omega⟩
end
end
theorem Kn.mid_le (I:Int->List Int) (out a:List Int) (u:Int):Kn.mid I out a u<=(I u).length:=by
 unfold Kn.mid Kn.wt;have:=List.length_filter_le (λi=>!(i==0)&&!out.contains i) (I u);omega
def slen:Value->Nat
 | .slice _ n _=>n
 | _=>0
set_option maxRecDepth 20000 in
theorem qf3 (A N:Option Addr) (c d:Nat) (n:NetD) (w:Zp1) (Hp:n.ok) (h512:n.nodes.length<=512) (hR:NetR w A N n) (hd:n.nodes.length<=d) (hins:∀v∈n.nodes,∀i∈v.ins,0<=i/\i<=n.nodes.length):
  Calls Tryz.prog 150 #[.agg #[.slice A n.inn.length c,.slice N n.nodes.length d]] w (qeJ (Nt.sorted n.nodes) w):=by
 obtain ⟨i0,hi,gb,HT,H2⟩:=info_parts qbj;obtain ⟨i1,hj,GA,GI,Gm⟩:=info_parts qf2;have Hy:=Hp.2.2
 have He:∀u,(Nt.insF n.nodes u).length<=1048576:=λu=>by
  unfold Nt.insF Nt.node;rw [gdZ];cases h:n.nodes[u.toNat-1]? with
  | none=>simp [Nt.none_]
  | some v=>exact (Hy v (List.mem_of_getElem? h)).2.2.1
 have H7:∀k (h:k<n.nodes.length),Nt.insF n.nodes ((k:Int)+1)=n.nodes[k].ins:=λk h=>by unfold Nt.insF;rw [Nt.node_at h]
 have Hm:Nt.sorted n.nodes=Kn.order (Nt.insF n.nodes) n.nodes.length:=rfl;generalize Nt.insF n.nodes=I at *;generalize Nt.sorted n.nodes=os at *;have Gb:=Blk.new w 59 #[.slice A n.inn.length c,.slice N n.nodes.length d];have gY:Below w.heap.size w (w.alloc (.cells #[.slice A n.inn.length c,.slice N n.nodes.length d] 59)):=(Ze1 _ _).alloc (lrZ _) _;obtain ⟨HR,gK,gL,hL,gO,HM⟩:=zd6 hR hins Hy He H7 Hm;clear hR hins Hy He H7 Hm;clear Hp;have e1:IntKind.i64.wrap ((n.nodes.length:Int)+1)=((n.nodes.length+1:Nat):Int):=by rw [Zc1 _ oZ];omega
 go_enter Tryz.func150,Tryz.ntmps150;go_wp2_with (at_make;refine wpList_make_full _ rfl _ _ 23 rfl w.heap.size 3 i0 (.int .i64 0) 1 Tryz.underlying23 hi gb HT _ _ _ _ (n.nodes.length+1) rfl rfl (by first|rfl|simp|(go_simp;rfl)) (by first|rfl|simp|(go_simp;rfl)) ?b2 ?b3 ?b4 ?_)
 case b2=>rw [H2];omega
 case b3=>unfold maxLen;omega
 case b4=>simp
 intro w1 hown hgrow;have hD:=qaS hown;rw [qb4] at hD;have GP:w.heap.size+2<=w1.heap.size:=by have:=lt_of_block hD;omega
 have gU:Blk w1 (w.heap.size+1) 3 ((Kn.wl I n.nodes.length 0 []).map (Za1 .i64)).toArray:=by
  rw [Kn.wl_zero,List.map_replicate];simpa [Blk] using hD
 have gc:Below w.heap.size w w1:=gY.grown hgrow sZ sZ;have hg:Blk w1 w.heap.size 59 #[.slice A n.inn.length c,.slice N n.nodes.length d]:=Gb.grown hgrow sZ;have x1:w1.cell? ⟨w.heap.size,1,none⟩=some (.slice N n.nodes.length d):=by rw [hg.cell];rfl
 obtain ⟨hh,Gl⟩:=zd2 hg gU;clear hg gU;clear hD hown hgrow Gb;go_wp2_with (at_make;refine wpList_make_full _ rfl _ _ 128 rfl w.heap.size 23 i1 (.slice none 0 0) 1 Tryz.underlying128 hj GA GI _ _ _ _ (n.nodes.length+1) rfl rfl (by first|rfl|simp|(go_simp;rfl)) (by first|rfl|simp|(go_simp;rfl)) ?b2 ?b3 ?b4 ?_)
 case b2=>rw [Gm];omega
 case b3=>unfold maxLen;omega
 case b4=>exact gc.size
 intro w2 hown hgrow;have hD:=qaS hown;rw [qb4] at hD;obtain ⟨g2,hg2⟩:∃g2,w1.heap.size=g2:=⟨_,rfl⟩
 have gk:Below w.heap.size w w2:=gc.grown hgrow gc.size sZ;have hX:=hh.out.grown hgrow sZ;have gW:=Gl.out.grown hgrow sZ;have x1:w2.cell? ⟨w.heap.size,1,none⟩=some (.slice N n.nodes.length d):=by rw [hX.cell];rfl
 have hK:Blk w2 g2 23 (Zc (n.nodes.length+1) (Zb1 none 0 0)).toArray:=by rw [←hg2];simpa [Blk] using hD
 have hU:URow (λb=>b<w2.heap.size) w2.heap.size w2 g2 23 3 (Kn.ul I n.nodes.length 0 []):=by rw [Kn.ul_zero];exact URow.new hK.lt hK
 have hw:g2<w2.heap.size:=hK.lt;have GK:w.heap.size+1<g2:=by omega
 rw [hg2];obtain ⟨Ht,gV,HU⟩:=zd3 hX gW hU;clear hX gW hU;clear hD hown hgrow hh Gl hK gc;obtain ⟨B,hB⟩:∃B,w2.heap.size=B:=⟨_,rfl⟩
 rw [hB] at HU hw;go_wp2_with fail;clear x1;have gI:¬g2=w.heap.size+1:=by omega
 have gw:¬w.heap.size+1=g2:=by omega
 have gC:¬w.heap.size=g2:=by omega
 have GQ:¬g2=w.heap.size:=by omega
 go_loopw [30] (λi wr=>∃k:Nat,k<=n.nodes.length/\i=.int .i64 k/\Blk wr w.heap.size 59 #[.slice A n.inn.length c,.slice N n.nodes.length d]/\Below w.heap.size w wr/\B<=wr.heap.size/\Blk wr (w.heap.size+1) 3 ((Kn.wl I n.nodes.length k []).map (Za1 .i64)).toArray/\URow (λb=>b<B) B wr g2 23 3 (Kn.ul I n.nodes.length k [])) (λi _=>n.nodes.length-(intOf i).toNat)
 case atStart=>exact ⟨0,Zt _,rfl,Ht.out,gk,by omega,gV.out,HU.out⟩
 case round=>
  obtain ⟨k,hk,rfl,hg,HI,Gg,HQ,hU⟩:=hrel;clear Ht gV HU gk hg2 hB
  by_cases HH:k<n.nodes.length
  ·
   obtain ⟨b,off,S,sc,J,ic,Q,qc,rfl,gA,-,hI,-⟩:=HR.out.2.at_ HH;have HA:=gL.out _ (gmZ HH);have Ga:=gK.out _ (gmZ HH);have HF:=gO.out k HH;have G0:=HA.2.2.1;generalize n.nodes[k]=v at *;obtain ⟨⟨y0,y1,y2,y3,y4,y5,y6,y7,y8,y9⟩,-⟩:=gA.below HI;have g8:=HI.alloc HI.size (.cells #[.int .i64 v.op.kind,.int .i64 v.op.k,.int .i64 v.op.width,.int .i64 v.op.step,.int .i64 v.op.side,.int .i64 v.op.frm,.int .i64 v.op.to,.slice S v.op.s.length sc,.slice J v.ins.length ic,.slice Q v.p.length qc] 127);have Hh:=hg.alloc (.cells #[.int .i64 v.op.kind,.int .i64 v.op.k,.int .i64 v.op.width,.int .i64 v.op.step,.int .i64 v.op.side,.int .i64 v.op.frm,.int .i64 v.op.to,.slice S v.op.s.length sc,.slice J v.ins.length ic,.slice Q v.p.length qc] 127);have HX:=HQ.alloc (.cells #[.int .i64 v.op.kind,.int .i64 v.op.k,.int .i64 v.op.width,.int .i64 v.op.step,.int .i64 v.op.side,.int .i64 v.op.frm,.int .i64 v.op.to,.slice S v.op.s.length sc,.slice J v.ins.length ic,.slice Q v.p.length qc] 127);have Gi:=hU.agree (w':=wr.alloc (.cells #[.int .i64 v.op.kind,.int .i64 v.op.k,.int .i64 v.op.width,.int .i64 v.op.step,.int .i64 v.op.side,.int .i64 v.op.frm,.int .i64 v.op.to,.slice S v.op.s.length sc,.slice J v.ins.length ic,.slice Q v.p.length qc] 127)) (λb hb _=>Below.heap_alloc wr _ b hb);obtain ⟨GE,GO,Gs,hh,Gu,HU,Hn,HP,gZ⟩:=zd9 gA HA Ga hg HQ hU Hh HX Gi;have GR:=zI HF;clear gA HA Ga hg HQ hU Hh HX Gi HF;go_wp2_with fail;clear y0 y1 y2 y3 y4 y5 y6 y7 y8 y9
   go_loopw [38] (λi wx=>∃m:Nat,m<=v.ins.length/\i=.int .i64 m/\Blk wx w.heap.size 59 #[.slice A n.inn.length c,.slice (some ⟨b,off,none⟩) n.nodes.length d]/\Below w.heap.size w wx/\B<=wx.heap.size/\Blk wx (w.heap.size+1) 3 ((Kn.wl I n.nodes.length k (v.ins.take m)).map (Za1 .i64)).toArray/\URow (λb=>b<B) B wx g2 23 3 (Kn.ul I n.nodes.length k (v.ins.take m))) (λi _=>v.ins.length-(intOf i).toNat)
   case atStart=>exact ⟨0,Zt _,rfl,Hn.out,g8,by simp;omega,by rw [List.take_zero];exact HP.out,by rw [List.take_zero];exact gZ.out⟩
   case round=>
    obtain ⟨m,hm,rfl,hg,HG,gy,h4,h6⟩:=hrel;clear hh Gu HU Hn HP gZ HI g8 Gg
    by_cases Hb:m<v.ins.length
    ·obtain ⟨b1,off1,rfl,-,hc⟩:=(GE.out.below HG).2.2.1 m Hb
     rw [qa3 Hb] at hc;have hr:=Gs.out _ (gmZ Hb);have hP:=Zb Hb
     by_cases hz:v.ins[m]=0
     ·rw [hz] at hc hP
      have HW:=zI (show Kn.wl I n.nodes.length k (v.ins.take (m+1))=Kn.wl I n.nodes.length k (v.ins.take m) by rw [hP,Kn.wl_skip]);have HV:=zI (show Kn.ul I n.nodes.length k (v.ins.take (m+1))=Kn.ul I n.nodes.length k (v.ins.take m) by rw [hP,Kn.ul_skip]);obtain ⟨HJ,gj,hh⟩:=zd3 h4 h6 hg;clear h4 h6 hg;clear hz hP hr;go_wp2_with fail;go_roundw
      case rel=>exact ⟨m+1,by omega,by go_num,hh.out,HG,gy,by rw [HW.out];exact HJ.out,by rw [HV.out];exact gj.out⟩
      case measure=>simp [intOf];omega
     ·have HW:=zI (show Kn.wl I n.nodes.length k (v.ins.take (m+1))=_ by rw [hP,Kn.wl_in _ _ _ _ hz])
      have h8:=Kn.ul_in I n.nodes.length k (v.ins.take m) hz hr.1;rw [←hP] at h8;obtain ⟨u,hu⟩:∃u:Nat,v.ins[m]=u:=⟨v.ins[m].toNat,by omega⟩
      have GX:((u:Int) != 0)=true:=by rw [←hu];simp [hz]
      rw [hu] at hc hr h8;rw [show ((u:Int)).toNat=u by omega] at h8;have g9:u<(Kn.ul I n.nodes.length k (v.ins.take m)).length:=by rw [Kn.ul_len];omega
      have gd:=Kn.ul_at I n.nodes.length k (v.ins.take m) g9;rw [←gd] at h8;have HV:=zI h8;have Go:(Kn.ul I n.nodes.length k (v.ins.take m))[u].length<=(k+1)*1048576:=by rw [gd];exact Kn.uMid_le hL.out k soZ _
      have g1:(k+1)*1048576<=536870912:=by
       have:(k+1)*1048576<=512*1048576:=mlZ _ oZ;omega
      have GJ:=Kn.wMid_le hL.out k (l:=v.ins.take m) soZ ((k:Int)+1);obtain ⟨q,hq⟩:∃q,Kn.wMid I k (v.ins.take m) ((k:Int)+1)=q:=⟨_,rfl⟩
      rw [hq] at GJ HW
      have GW:wr.cell? ⟨w.heap.size+1,k+1,none⟩=some (.int .i64 (q:Int)):=by
       have e:=Kn.wl_at I n.nodes.length k (v.ins.take m) (u:=k+1) oZ;rw [h4.cell];simp only [Zk,List.getElem?_map,e];rw [show ((k+1:Nat):Int)=(k:Int)+1 by omega,hq]
       rfl
      have gg:=h4.frozen (k+1);obtain ⟨vv,GC,gD,gi⟩:=h6.at3 g9 (λb hb=>by omega);have gT:wr.heap.size<=((wr.setCell ⟨w.heap.size+1,k+1,none⟩ (.int .i64 ((q:Int)+1))).alloc (.cells #[.int .i64 ((k:Int)+1)] 3)).heap.size:=by simp
      obtain ⟨ho,gi⟩:=gi ((wr.setCell ⟨w.heap.size+1,k+1,none⟩ (.int .i64 ((q:Int)+1))).alloc (.cells #[.int .i64 ((k:Int)+1)] 3)) (λb hb gk=>by
       rw [Below.heap_alloc _ _ b (by simpa using hb)];exact Below.heap_setCell wr _ _ b (by rcases gk with h|h<;>simp<;>omega)) gT
      generalize (Kn.ul I n.nodes.length k (v.ins.take m))[u]=uu at *;obtain ⟨Av,cv,rfl⟩:=qaj ho;have H1:∀b,(Zb1 Av uu.length cv).ownBlock=some b->B<=b:=λb hb=>by have:=gD b hb;omega
      have w1:IntKind.i64.wrap ((k:Int)+1)=(k:Int)+1:=Zc1 _ oZ;have w2:IntKind.i64.wrap ((q:Int)+1)=(q:Int)+1:=Zc1 _ oZ;have t1:((k:Int)+1).toNat=k+1:=by omega
      have l1:((k:Int)+1)<((n.nodes.length+1:Nat):Int):=by omega
      have l2:(u:Int)<((n.nodes.length+1:Nat):Int):=by omega
      have u0:(0:Int)<=u:=by omega
      obtain ⟨HJ,gj,hh,GS,GV,GU,GT,Hq,gE⟩:=zd9 h4 h6 hg gi gd h8 gD hq H1;clear h4 h6 hg gi gd h8 gD hq H1;clear hz hP hu;go_wp2_with (at_builtin;refine wpList_append_own_at _ rfl _ _ 23 rfl B 3 i0 (.int .i64 0) 1 8 Tryz.underlying23 hi gb HT H2 rfl dZ _ _ _ rfl ho ⟨wr.heap.size,0,none⟩ 1 1 [.int .i64 ((k:Int)+1)] rfl rfl ?c1 (by intro u hu;simp at hu;subst hu;rfl) (by unfold maxLen;omega) oZ soZ ?_)
      case c1=>
       intro j u hj
       match j,hj with
       | 0,hj=>
        simp at hj;subst hj;have e:=(Blk.new (wr.setCell ⟨w.heap.size+1,k+1,none⟩ (.int .i64 ((q:Int)+1))) 3 #[.int .i64 ((k:Int)+1)]).cell 0;simpa [Addr.add] using e
      intro v' w3 hp hgrow _ gp;obtain ⟨G2,gn,Gh⟩:=GS.out v' w3 _ hp hgrow (by simpa using gp);have gl:=gE.out;have HL:Below w.heap.size w w3:=((HG.setCell (p:=⟨w.heap.size+1,k+1,none⟩) sZ (.int .i64 ((q:Int)+1))).alloc (by simpa using HG.size) (.cells #[.int .i64 ((k:Int)+1)] 3)).grown hgrow (by simp;have:=HG.size;omega) (λb hb=>by have:=gl b hb;omega);have Gq:B<=w3.heap.size:=Zv (Zv gy gT) hgrow.size;have hM:=((hh.out.far (p:=⟨w.heap.size+1,k+1,none⟩) sZ (.int .i64 ((q:Int)+1))).alloc (.cells #[.int .i64 ((k:Int)+1)] 3)).grown hgrow (λe=>by have:=gl _ e.symm;omega);have hM:=hM.far (p:=⟨g2,u,none⟩) gC v';have gm:=((HJ.out.set_ (k+1) (.int .i64 ((q:Int)+1))).alloc (.cells #[.int .i64 ((k:Int)+1)] 3)).grown hgrow (λe=>by have:=gl _ e.symm;omega);have gm:=gm.far (p:=⟨g2,u,none⟩) gw v';have gu:=HL.setCell (p:=⟨g2,u,none⟩) soZ v';have HK:=zI (show Blk (w3.setCell ⟨g2,u,none⟩ v') (w.heap.size+1) 3 (((Kn.wl I n.nodes.length k (v.ins.take m)).set (k+1) ((q:Int)+1)).map (Za1 .i64)).toArray by simpa [List.map_set] using gm);obtain ⟨GN,H9⟩:=zd2 Gh hM;clear Gh hM;clear gm gl hgrow gp HL GC;obtain ⟨A9,c9,rfl⟩:=qaj hp;clear hp;go_wp2_with fail;go_roundw
      case rel=>exact ⟨m+1,by omega,by go_num,H9.out,gu,by simpa using Gq,by rw [HW.out];exact HK.out,by rw [HV.out];exact GN.out⟩
      case measure=>simp [intOf];omega
    ·obtain rfl:m=v.ins.length:=by omega
     rw [Zg] at h4 h6;have HF:=GR.out;rw [←HF,Kn.wl_next] at h4;rw [←HF,Kn.ul_next] at h6;obtain ⟨HJ,gj,hh⟩:=zd3 h4 h6 hg;clear h4 h6 hg;clear HF;go_wp2_with fail;go_roundw
     case rel=>exact ⟨k+1,by omega,by go_num,hh.out,HG,gy,HJ.out,gj.out⟩
     case measure=>simp [intOf];omega
  ·obtain rfl:k=n.nodes.length:=by omega
   obtain ⟨C,hC⟩:∃C,wr.heap.size=C:=⟨_,rfl⟩
   have hinv:SInv 59 #[.slice A n.inn.length c,.slice N n.nodes.length d] B C g2 23 3 (Kn.wl I n.nodes.length n.nodes.length []) (Kn.ul I n.nodes.length n.nodes.length []) w wr:=⟨hg,HI,by omega,HQ,by rw [←hC];exact hU.shut⟩
   have Ha:B<=C:=by omega
   have h5:w.heap.size+1<B:=by omega
   have hf:=zI hinv;clear hinv;clear HQ hU hg HI Gg;go_wp2_with fail;clear hC
   go_loopw [9,10] (λr i wx=>∃k:Nat,k<=n.nodes.length/\i=.int .i64 ((k:Int)+1)/\SInv 59 #[.slice A n.inn.length c,.slice N n.nodes.length d] B C g2 23 3 (Kn.wl I n.nodes.length n.nodes.length []) (Kn.ul I n.nodes.length n.nodes.length []) w wx/\wx.ownsRow C 3 1 r (Kn.rk I k).length ((Kn.rk I k).map (Za1 .i64))) (λ_ i _=>n.nodes.length+1-(intOf i).toNat)
   case atStart=>exact ⟨0,Zt _,rfl,hf.out,by simpa [Kn.rk,Kn.ids] using World.ownsRow_nil wr C 3 1⟩
   case round=>
    obtain ⟨k,hk,rfl,hinv,hown⟩:=hrel;clear hf;have hx:wr.cell? ⟨w.heap.size,1,none⟩=some (.slice N n.nodes.length d):=by rw [hinv.1.cell];rfl
    obtain ⟨Ar,cr,rfl⟩:=qaj hown
    by_cases HH:k<n.nodes.length
    ·
     have G1:wr.cell? ⟨w.heap.size+1,k+1,none⟩=some (.int .i64 (Kn.wt I [] ((k:Int)+1):Nat)):=by
      have e:=Kn.wl_at I n.nodes.length n.nodes.length [] (u:=k+1) oZ;rw [hinv.2.2.2.1.cell];simp only [Zk,List.getElem?_map,e];rw [show ((k+1:Nat):Int)=(k:Int)+1 by omega,Kn.wMid_end oZ oZ]
      rfl
     have hs:=Kn.rk_succ I k;have hl:=Kn.rk_len I k;generalize Kn.wt I [] ((k:Int)+1)=q at *;have t1:((k:Int)+1).toNat=k+1:=by omega
     have l0:(k:Int)+1<=(n.nodes.length:Int):=by omega
     have l1:((k:Int)+1)<((n.nodes.length+1:Nat):Int):=by omega
     by_cases hq:q=0
     ·subst hq
      rw [if_pos rfl] at hs;have Hr:=hinv.fr ((Fr.refl (λ_=>False) wr).alloc (.cells #[.int .i64 ((k:Int)+1)] 3)) (λb hb=>hb.elim) h5 Ha hw;have ho:=qaz hown (.cells #[.int .i64 ((k:Int)+1)] 3);have gh:∀b,(Zb1 Ar (Kn.rk I k).length cr).ownBlock=some b->C<=b:=λb hb=>(hown.lt b hb).1
      obtain ⟨hf,Hs,Hf⟩:=zd3 hinv hs Hr;clear hinv hs Hr;clear hown;go_wp2_with (at_builtin;refine wpList_append_own_at _ rfl _ _ 23 rfl C 3 i0 (.int .i64 0) 1 8 Tryz.underlying23 hi gb HT H2 rfl dZ _ _ _ rfl ho ⟨wr.heap.size,0,none⟩ 1 1 [.int .i64 ((k:Int)+1)] rfl rfl ?c1 (by intro u hu;simp at hu;subst hu;rfl) (by unfold maxLen;omega) oZ ?c2 ?_)
      case c1=>exact qbB wr _ _
      case c2=>exact Hf.out.2.2.1
      intro v' w3 hp hgrow _ gp;have Gx:=zI (Hf.out.fr (Fr.of_grown (S:=λb=>C<=b) hgrow (λb hb _=>gh b hb)) (λb hb=>hb) h5 Ha hw);have Gr:=zI (show w3.ownsRow C 3 1 v' (Kn.rk I (k+1)).length ((Kn.rk I (k+1)).map (Za1 .i64)) by rw [Hs.out];simpa using hp);clear hp hgrow gp;go_wp2_with fail;go_roundw
      case rel=>exact ⟨k+1,by omega,by go_num,Gx.out,Gr.out⟩
      case measure=>simp [intOf];omega
     ·have GD:((q:Int)==0)=false:=by simp;omega
      rw [if_neg hq] at hs;obtain ⟨hf,Hs,h7⟩:=zd3 hinv hs hown;clear hinv hs hown;go_wp2_with fail;go_roundw
      case rel=>exact ⟨k+1,by omega,by go_num,hf.out,by rw [Hs.out];exact h7.out⟩
      case measure=>simp [intOf];omega
    ·obtain rfl:k=n.nodes.length:=by omega
     rw [Kn.rk_all] at hown;have l0:¬((n.nodes.length:Int)+1<=(n.nodes.length:Int)):=by omega
     rw [Kn.wm_start] at hinv;have H4:(Kn.rk I n.nodes.length).length=(Kn.ready I n.nodes.length []).length:=by rw [Kn.rk_all]
     rw [H4];have gh:∀b,(Zb1 Ar (Kn.ready I n.nodes.length []).length cr).ownBlock=some b->C<=b/\b<wr.heap.size:=λb hb=>hown.lt b hb
     obtain ⟨hf,h7,g5⟩:=zd3 hinv hown gh;clear hinv hown gh;go_wp2_with (at_make;refine wpList_make_own _ rfl _ _ 23 rfl C 3 i0 (.int .i64 0) 1 Tryz.underlying23 hi gb HT _ _ _ n.nodes.length rfl (by first|rfl|simp|(go_simp;rfl)) (by first|rfl|simp|(go_simp;rfl)) ?b2 ?b3 ?b4 ?_)
     case b2=>first|omega|(rw [H2];omega)
     case b3=>unfold maxLen;omega
     case b4=>exact hf.out.2.2.1
     intro w4 h0 hgrow;have gX:=zI (hf.out.fr (Fr.of_grown (S:=λb=>C<=b) hgrow (λb hb _=>by cases hb)) (λb hb=>hb) h5 Ha hw);have g4:=zI (show Two C 3 w4 (.slice Ar (Kn.ready I n.nodes.length []).length cr) (.slice (some ⟨wr.heap.size,0,none⟩) 0 n.nodes.length) (Kn.ready I n.nodes.length []) [] from ⟨qdf h7.out hgrow (λb _ h=>by cases h),h0,λb hb h=>by have:=(g5.out b hb).2;simp [Value.ownBlock] at h;omega⟩);clear hgrow;have H0:=zI h0;clear h0;go_wp2_with fail;clear hx l0 h7 hf g5;generalize hro:Zb1 Ar (Kn.ready I n.nodes.length []).length cr=r0 at *;generalize hoo:Zb1 (some ⟨wr.heap.size,0,none⟩) 0 n.nodes.length=o0 at *;clear hro hoo H4 hk HH x1 e1 gY GP
     go_loopw [9,11] (λr o wx=>∃k:Nat,(Kn.go I n.nodes.length k).length=k/\SInv 59 #[.slice A n.inn.length c,.slice N n.nodes.length d] B C g2 23 3 (Kn.wm I n.nodes.length (Kn.go I n.nodes.length k) []) (Kn.ul I n.nodes.length n.nodes.length []) w wx/\Two C 3 wx r o (Kn.ready I n.nodes.length (Kn.go I n.nodes.length k)) (Kn.go I n.nodes.length k)) (λ_ o _=>n.nodes.length+1-slen o)
     case atStart=>exact ⟨0,rfl,gX.out,g4.out⟩
     case round=>
      obtain ⟨k,H4,hinv,he⟩:=hrel;clear gX g4 H0;obtain ⟨Ar,cr,rfl⟩:=qaj he.1;obtain ⟨Ao,co,rfl⟩:=qaj he.2.1;have Hp:=Kn.go_ok I n.nodes.length k;have hF:=@Kn.go_more I n.nodes.length k;have hv:=@Kn.order_of_stuck I n.nodes.length k H4;generalize Kn.go I n.nodes.length k=out at *;have hV:=@Kn.mid_start I n.nodes.length out;have gR:=Kn.ready_len I n.nodes.length out;have GZ:=Hp.len;subst H4;cases hrd:Kn.ready I n.nodes.length out with
      | nil=>
       rw [hrd] at he;have Gk:=hv hrd;rw [←HM.out] at Gk;subst Gk;clear hF hV;obtain ⟨hf,hy,ge,gr,Ge⟩:=zd5 hinv he Hp hv hrd;clear hinv he Hp hv hrd;go_wp2_with fail;go_ret;obtain ⟨q1,q2,q3⟩:=qbn hy.out.2.1;exact ⟨Ao,co,rfl,q1,q2,q3,hf.out.2.1⟩
      | cons id rest=>
       have hid:id∈Kn.ready I n.nodes.length out:=by rw [hrd];simp
       have Gp:=(Kn.mem_ready.1 hid).1;obtain ⟨j,rfl⟩:∃j:Nat,id=(j:Int):=⟨id.toNat,by omega⟩
       replace hF:=hF hrd;replace hV:=hV hrd;rw [hrd] at he gR;obtain ⟨Gc,-⟩:=qbn he.1;obtain ⟨b1,off1,rfl,-,Hx⟩:=Gc 0 sZ;rw [Zx] at Hx;replace Hx:wr.cell? ⟨b1,off1,none⟩=some (.int .i64 (j:Int)):=Hx;have hz:0<rest.length+1:=by omega
       clear hv Gc;have GF:rest.length+1<=512:=by simp at gR;omega
       clear gR hz;rw [List.length_cons] at he;have hW:=zI hid;clear hid;obtain ⟨hf,hy,ge,HO,H8,Ge⟩:=zd6 hinv he Hp hV hF hrd;clear hinv he Hp hV hF hrd;go_wp2_with fail;refine (qf0 C _ _ rest _ soZ hy.out.1).mono ?_;rintro e w5 ⟨v5,rfl,gS,gx,H3⟩;have Ho:=hf.out.fr gx (λb hb=>(hy.out.1.lt b hb).1) h5 Ha hw;have Hk:=hy.out.left gx gS H3;have Hj:=Ho.fr ((Fr.refl (λ_=>False) w5).alloc (.cells #[.int .i64 (j:Int)] 3)) (λb hb=>hb.elim) h5 Ha hw;have Hg:=Hk.new (.cells #[.int .i64 (j:Int)] 3);obtain ⟨A5,c5,rfl⟩:=qaj gS;clear hf hy gx H3 Ho Hk gS Hx;obtain ⟨hQ,hJ⟩:=zd2 Hj Hg;clear Hj Hg;go_wp2_with (at_builtin;refine wpList_append_own_at _ rfl _ _ 23 rfl C 3 i0 (.int .i64 0) 1 8 Tryz.underlying23 hi gb HT H2 rfl dZ _ _ _ rfl hJ.out.2.1 ⟨w5.heap.size,0,none⟩ 1 1 [.int .i64 (j:Int)] rfl rfl ?c1 (by intro u hu;simp at hu;subst hu;rfl) (by unfold maxLen;omega) oZ ?c2 ?_)
       case c1=>exact qbB w5 _ _
       case c2=>exact hQ.out.2.2.1
       intro v7 w7 Hl hZ _ HN;have HB:Fr (λb=>(Zb1 Ao out.length co).ownBlock=some b) _ w7:=Fr.of_grown hZ (λb hb _=>hb);have hY:=hQ.out.fr HB (λb hb=>(hJ.out.2.1.lt b hb).1) h5 Ha hw;have hH:=hJ.out.right (zo':=out++[(j:Int)]) HB (by simpa using Hl) (by simpa using HN);clear hQ hJ Hl hZ HN HB;have Gf:j<(Kn.ul I n.nodes.length n.nodes.length []).length:=by rw [Kn.ul_len];omega
       obtain ⟨Au,cu,gQ,hN,g6⟩:=hY.read Gf;have gB:(Kn.ul I n.nodes.length n.nodes.length [])[j]=Kn.users I n.nodes.length (j:Int):=by rw [Kn.ul_at,Kn.uMid_end oZ]
       rw [gB] at gQ hN
       have h8:(Kn.users I n.nodes.length (j:Int)).length<=537919488:=by
        have h1:=Kn.uMid_le hL.out n.nodes.length (l:=[]) sZ (j:Int);rw [Kn.uMid_end oZ] at h1;have:(n.nodes.length+1)*1048576<=513*1048576:=mlZ _ oZ;omega
       have gG:=@Kn.mid_end_ready I n.nodes.length out (j:Int) hW.out;have gJ:=@Kn.wm_next I n.nodes.length out (j:Int) hW.out;have gq:=λa b u (h:Kn.users I n.nodes.length (j:Int)=a++u::b)=>Kn.mid_pos ge.out hW.out h
       have gH:=λa b u (h:Kn.users I n.nodes.length (j:Int)=a++u::b)=>Kn.mid_stay ge.out hW.out h
       have gN:=λa b u (h:Kn.users I n.nodes.length (j:Int)=a++u::b)=>Kn.mid_put' ge.out hW.out h
       obtain ⟨us,husd⟩:∃us,Kn.users I n.nodes.length (j:Int)=us:=⟨_,rfl⟩
       rw [husd] at gQ hN h8 gG gJ gq gH gN;obtain ⟨A7,c7,rfl⟩:=qaj hH.2.1;generalize hro:Zb1 A5 rest.length c5=r5 at *;clear hro;rw [←HO.out] at hH;have j0:(0:Int)<=(j:Int):=by omega
       have j1:(j:Int)<((n.nodes.length+1:Nat):Int):=by omega
       obtain ⟨Hd,Hc,gM,Gd,Gv,GH,Gn,Gy,GL⟩:=zd9 hY hH hN g6 gB husd gG gJ gq;obtain ⟨Gw,GB⟩:=zd2 gH gN;clear hY hH hN g6 gB husd gG gJ gq gH gN;clear Ge HO;go_wp2_with fail;clear Gv;clear gQ j0 j1 Gf
       go_loopw [9,101] (λr i wx=>∃m:Nat,m<=us.length/\i=.int .i64 m/\SInv 59 #[.slice A n.inn.length c,.slice N n.nodes.length d] B C g2 23 3 (Kn.wm I n.nodes.length out (us.take m)) (Kn.ul I n.nodes.length n.nodes.length []) w wx/\Two C 3 wx r (.slice A7 (out++[(j:Int)]).length c7) (Kn.midReady I n.nodes.length out (j:Int) (us.take m)) (out++[(j:Int)])/\Ints .i64 wx Au us) (λ_ i _=>us.length-(intOf i).toNat)
       case atStart=>exact ⟨0,Zt _,rfl,Hd.out,Hc.out,gM.out⟩
       case round=>
        obtain ⟨m,hm,rfl,hinv,he,hN⟩:=hrel;clear Hd Hc gM
        by_cases Hb:m<us.length
        ·have hO:us=us.take m++us[m]::us.drop (m+1):=by rw [←Zd Hb,Zn]
         have hP:=Zb Hb;obtain ⟨b1,off1,rfl,-,Hx⟩:=hN m Hb;rw [qa3 Hb] at Hx;obtain ⟨p1,p2,p3,p4,p5⟩:=GL.out _ _ _ hO;have HD:=Gw.out _ _ _ hO;have Hz:=GB.out _ _ _ hO;have HE:=@Kn.wm_in I n.nodes.length out (us.take m) us[m] p3;rw [←hP] at HD Hz HE p5;obtain ⟨u,hu⟩:∃u:Nat,us[m]=(u:Int):=⟨us[m].toNat,by omega⟩
         rw [hu] at Hx p1 p2 p3 p4 p5 HD Hz HE;rw [tnZ] at HE;have Gz:Kn.mid I out (us.take m) (u:Int)<=1048576:=Zv (Kn.mid_le _ _ _ _) (hL.out _)
         have g7:wr.cell? ⟨w.heap.size+1,u,none⟩=some (.int .i64 ((Kn.mid I out (us.take m) (u:Int):Nat):Int)):=by
          rw [hinv.2.2.2.1.cell];simp only [Zk,List.getElem?_map];rw [Kn.wm_at _ _ _ _ oZ oZ]
          rfl
         have G4:=hinv.2.2.2.1.frozen u;generalize hq2:Kn.mid I out (us.take (m+1)) (u:Int)=q at *;rw [←p5] at g7 Gz;have hn:=hinv.wait u (q:Int) h5 Ha gI;rw [←HE] at hn;have gg:Fr (λb=>b=w.heap.size+1) wr (wr.setCell ⟨w.heap.size+1,u,none⟩ (.int .i64 (q:Int))):=(Fr.refl (λb=>b=w.heap.size+1) wr).setCell (p:=⟨w.heap.size+1,u,none⟩) (λ_=>rfl) (.int .i64 (q:Int));have ht:=he.fr gg (λb hb=>by omega);have HZ:=hN.set_far (p:=⟨w.heap.size+1,u,none⟩) (λa ha=>by have:=Gd.out a ha;simp;omega) (.int .i64 (q:Int));have u0:(0:Int)<=(u:Int):=by omega
         have u1:(u:Int)<((n.nodes.length+1:Nat):Int):=by omega
         have gv:((q+1:Nat):Int)=(q:Int)+1:=by omega
         rw [gv] at g7;have GY:(q:Int)+1-1=(q:Int):=by omega
         have GG:=Kn.midReady_len I n.nodes.length out (j:Int) (us.take m);have Hv:=Kn.midReady_sorted I n.nodes.length out (j:Int) (us.take m)
         by_cases hq:q=0
         ·subst hq
          replace Hz:=Hz rfl;generalize Kn.midReady I n.nodes.length out (j:Int) (us.take m)=mr at *;have HY:mr.Pairwise (·<=·):=Hv.imp λh=>Int.le_of_lt h
          clear HD HE hinv he hN hP hO p5 hq2 gv Hv gg;rw [show ((0:Nat):Int)=0 from rfl] at hn ht HZ;obtain ⟨hS,hE,gt,Hu,GM,gF⟩:=zd6 hn ht HZ hu Hz HY;clear hn ht HZ hu Hz HY;go_wp2_with fail;refine (qf1 C _ (u:Int) mr _ oZ gF.out hE.out.1).mono ?_;rintro e w8 ⟨⟨bb,rfl⟩,qq,rfl⟩;go_wp2_with fail;have g0:mr.countP (λx=>decide (x<(u:Int)))<=mr.length:=List.countP_le_length;have gn:=((Fr.refl (λ_=>False) (wr.setCell ⟨w.heap.size+1,u,none⟩ (.int .i64 0))).drewN qq).alloc (.cells #[.int .i64 (u:Int)] 3);have hT:=hS.out.fr gn (λb hb=>hb.elim) h5 Ha hw;have hA:=hE.out.fr gn (λb hb=>hb.elim);have Gj:=(gt.out.drewN qq).alloc (.cells #[.int .i64 (u:Int)] 3)
          have HL:Blk (((wr.setCell ⟨w.heap.size+1,u,none⟩ (.int .i64 0)).drewN qq).alloc (.cells #[.int .i64 (u:Int)] 3)) wr.heap.size 3 #[.int .i64 (u:Int)]:=by
           have:=Blk.new ((wr.setCell ⟨w.heap.size+1,u,none⟩ (.int .i64 0)).drewN qq) 3 #[.int .i64 (u:Int)];simpa using this
          have HS:u9.ownBlock≠some wr.heap.size:=λe=>by have:=(hE.out.1.lt _ e).2;simp at this
          refine (qeZ C u9 mr (u:Int) _ wr.heap.size _ g0 oZ hT.2.2.1 hA.1 HL HS).mono ?_;rintro e w10 ⟨v10,rfl,H5,h9,Hi⟩;have h3:=hT.fr h9 (λb hb=>(hA.1.lt b hb).1) h5 Ha hw;have hG:=hA.left h9 H5 Hi;have H6:=h9.ints Gj (λa ha hb=>by have h1:=(hA.1.lt _ hb).1;have h2:=(Gd.out a ha).2;omega);rw [←GM.out] at hG;clear hT hA Gj HL gn H5 h9 Hi g0 HS;obtain ⟨HC,Hw,gP⟩:=zd3 h3 hG H6;clear h3 hG H6;go_wp2_with fail;go_roundw
          case rel=>exact ⟨m+1,by omega,by go_num,HC.out,Hw.out,gP.out⟩
          case measure=>simp [intOf];omega
         ·have GD:((q:Int)==0)=false:=by simp;omega
          replace HD:=HD hq;rw [←HD] at ht;clear HD Hz HE hinv he hN hP hO p5 hq2 gv Hv gg;obtain ⟨hS,hE,gt,Hu⟩:=zd4 hn ht HZ hu;clear hn ht HZ hu;go_wp2_with fail;go_roundw
          case rel=>exact ⟨m+1,by omega,by go_num,hS.out,hE.out,gt.out⟩
          case measure=>simp [intOf];omega
        ·obtain rfl:m=us.length:=by omega
         rw [Zg] at hinv he;rw [Gy.out] at hinv;rw [Gn.out,show (out++[(j:Int)]).length=out.length+1 by simp] at he;have gf:=H8.out;rw [←gf] at hinv he;have g3:(Kn.go I n.nodes.length (out.length+1)).length=out.length+1:=by rw [gf];simp
         obtain ⟨hf,hy,gM,G3,Gt⟩:=zd5 hinv he hN gf g3;clear hinv he hN gf g3;go_wp2_with fail;exact ⟨⟨out.length+1,Gt.out,hf.out,hy.out⟩,by simp only [slen];omega⟩
def StudyP (n:NetD) (w:Zp1) (e:Ending) (w':Zp1):Prop:=
 Below w.heap.size w w'/\((Nt.check n=0/\∃O oc g,e=.returned (.tuple #[.agg #[.slice O n.nodes.length oc,.slice (some ⟨g,0,none⟩) (n.nodes.length+1) (n.nodes.length+1),.int .i64 (Nt.loss n.nodes)],.int .i64 0])/\
   Ints .i64 w' O (Nt.sorted n.nodes)/\n.nodes.length<=oc/\oc<=9223372036854775807/\w.heap.size<=g/\ShpRow w' g 24 (Nt.shapes n))∨
  (Nt.check n≠0/\e=.returned (.tuple #[.agg #[.slice none 0 0,.slice none 0 0,.int .i64 0],.int .i64 (Nt.check n)])))
namespace Nt
theorem check_many {n:NetD} (h:n.nodes.length<1∨512<n.nodes.length):check n=12:=by unfold check;rw [if_pos h]
theorem check_in {n:NetD} (h:¬(n.nodes.length<1∨512<n.nodes.length)) (h2:Sh.right n.inn=false):check n=20:=by unfold check;rw [if_neg h,if_pos h2]
theorem check_bads {n:NetD} (h:¬(n.nodes.length<1∨512<n.nodes.length)) (h2:Sh.right n.inn=true) (h3:bads n.nodes.length n.nodes≠0):check n=bads n.nodes.length n.nodes:=by
 unfold check;rw [if_neg h,if_neg (by simp [h2]),if_pos h3]
theorem check_cyc {n:NetD} (h:¬(n.nodes.length<1∨512<n.nodes.length)) (h2:Sh.right n.inn=true) (h3:bads n.nodes.length n.nodes=0) (h4:(sorted n.nodes).length≠n.nodes.length):check n=22:=by
 unfold check;rw [if_neg h,if_neg (by simp [h2]),if_neg (by simp [h3]),if_pos h4]
theorem check_lay {n:NetD} (h:¬(n.nodes.length<1∨512<n.nodes.length)) (h2:Sh.right n.inn=true) (h3:bads n.nodes.length n.nodes=0) (h4:(sorted n.nodes).length=n.nodes.length) (h5:(lay n.nodes (start n) (sorted n.nodes)).2≠0):check n=(lay n.nodes (start n) (sorted n.nodes)).2:=by
 unfold check;rw [if_neg h,if_neg (by simp [h2]),if_neg (by simp [h3]),if_neg (by simp [h4]),if_pos h5]
theorem check_loss {n:NetD} (h:¬(n.nodes.length<1∨512<n.nodes.length)) (h2:Sh.right n.inn=true) (h3:bads n.nodes.length n.nodes=0) (h4:(sorted n.nodes).length=n.nodes.length) (h5:(lay n.nodes (start n) (sorted n.nodes)).2=0) (h6:lossOk n.nodes=false):check n=23:=by
 unfold check;rw [if_neg h,if_neg (by simp [h2]),if_neg (by simp [h3]),if_neg (by simp [h4]),if_neg (by simp [h5]),if_pos h6]
theorem check_last {n:NetD} (h:¬(n.nodes.length<1∨512<n.nodes.length)) (h2:Sh.right n.inn=true) (h3:bads n.nodes.length n.nodes=0) (h4:(sorted n.nodes).length=n.nodes.length) (h5:(lay n.nodes (start n) (sorted n.nodes)).2=0) (h6:lossOk n.nodes=true):
  check n=if Safe.prod ((shapes n).getD (loss n.nodes).toNat [])≠1 then 23 else 0:=by
 unfold check;rw [if_neg h,if_neg (by simp [h2]),if_neg (by simp [h3]),if_neg (by simp [h4]),if_neg (by simp [h5]),if_neg (by simp [h6])]
theorem bads_op {n:Nat} {ns:List NodeD} {k:Nat} (hk:k<ns.length) (h:∀j (hj:j<ns.length),j<k->Od.right ns[j].op=true/\ns[j].ins.all (λi=>decide (0<=i/\i<=n))=true) (hr:Od.right ns[k].op=false):bads n ns=21:=by
 rw [qbN h,Zd hk,bads,if_neg (by simp [hr])]
theorem bads_in {n:Nat} {ns:List NodeD} {k:Nat} (hk:k<ns.length) (h:∀j (hj:j<ns.length),j<k->Od.right ns[j].op=true/\ns[j].ins.all (λi=>decide (0<=i/\i<=n))=true) (hr:Od.right ns[k].op=true) {m:Nat} (hm:m<ns[k].ins.length) (hb:¬(0<=ns[k].ins[m]/\ns[k].ins[m]<=n)):bads n ns=11:=by
 rw [qbN h,Zd hk,bads,if_pos hr,if_neg];intro ha;have:=List.all_eq_true.1 ha _ (gmZ hm);simp at this;exact hb this
theorem bads_none {n:Nat} {ns:List NodeD} (h:∀j (hj:j<ns.length),j<ns.length->Od.right ns[j].op=true/\ns[j].ins.all (λi=>decide (0<=i/\i<=n))=true):bads n ns=0:=by
 rw [qbN h,List.drop_length,bads]
end Nt
def qdh (n:NetD) (k:Nat):Prop:=∀j (hj:j<n.nodes.length),j<k->Od.right n.nodes[j].op=true/\n.nodes[j].ins.all (λi=>decide (0<=i/\i<=n.nodes.length))=true
theorem qav {B g:Nat} {w w1:Zp1} (h:Below B w w1) (hg:B<=g) (a b c:Value):Below B w (((w1.setCell ⟨g,0,none⟩ a).setCell ⟨g,1,none⟩ b).setCell ⟨g,2,none⟩ c):=
 ((h.setCell (p:=⟨g,0,none⟩) hg a).setCell (p:=⟨g,1,none⟩) hg b).setCell (p:=⟨g,2,none⟩) hg c
theorem qdK {g k:Nat} {w:Zp1} (a b c:Value) (h:k≠g):(((w.setCell ⟨g,0,none⟩ a).setCell ⟨g,1,none⟩ b).setCell ⟨g,2,none⟩ c).heap[k]? = w.heap[k]?:=by
 rw [Below.heap_setCell _ ⟨g,2,none⟩ c k h,Below.heap_setCell _ ⟨g,1,none⟩ b k h,Below.heap_setCell _ ⟨g,0,none⟩ a k h]
theorem qdL {g:Nat} {t:TypeId} {w:Zp1} {S:Option Addr} {zs:List Int} (hI:Ints .i64 w S zs) (hb:Blk w g t #[.slice none 0 0,.slice none 0 0,.int .i64 0]) (hz:∀z∈zs,z≠0) (a b c:Value):
  Ints .i64 (((w.setCell ⟨g,0,none⟩ a).setCell ⟨g,1,none⟩ b).setCell ⟨g,2,none⟩ c) S zs:=λj hj=>by
 obtain ⟨b0,off,e,hl,hc⟩:=hI j hj
 have ha:b0≠g:=λq=>by
  subst q;rw [hb.cell] at hc;have hd:zs.getD j 0≠0:=by rw [qa3 hj];exact hz _ (gmZ hj)
  match h:off+j,hc with
  | 0,hc=>simp at hc
  | 1,hc=>simp at hc
  | 2,hc=>simp at hc;exact hd (by simpa using hc.symm)
  | q+3,hc=>simp at hc
 refine ⟨b0,off,e,by simpa using hl,?_⟩;exact (Zi1 (w:=w) (a:=⟨b0,off+j,none⟩) (qdK a b c ha)).trans hc
theorem qef {g g':Nat} {t t':TypeId} {w:Zp1} {sh:List (List Int)} (h:ShpRow w g' t' sh) (hb:Blk w g t #[.slice none 0 0,.slice none 0 0,.int .i64 0]) (hg:g'≠g) (hz:∀s∈sh,∀z∈s,z≠0) (a b c:Value):
  ShpRow (((w.setCell ⟨g,0,none⟩ a).setCell ⟨g,1,none⟩ b).setCell ⟨g,2,none⟩ c) g' t' sh:=by
 obtain ⟨vs,hl,hk,hv⟩:=h;refine ⟨vs,hl,(qdK a b c hg).trans hk,λj hj=>?_⟩;obtain ⟨S,d,e,hI,h2⟩:=hv j hj;exact ⟨S,d,e,qdL hI hb (hz _ (gmZ hj)) a b c,h2⟩
theorem qaG {w:Zp1} {g:Nat} {t:TypeId} (h:Blk w g t #[.slice none 0 0,.slice none 0 0,.int .i64 0]):
  w.cell? ⟨g,0,none⟩=some (.slice none 0 0)/\w.cell? ⟨g,1,none⟩=some (.slice none 0 0)/\w.cell? ⟨g,2,none⟩=some (.int .i64 0)/\w.frozen? ⟨g,0,none⟩=false/\w.frozen? ⟨g,1,none⟩=false/\w.frozen? ⟨g,2,none⟩=false:=
 ⟨h.cell 0,h.cell 1,h.cell 2,h.frozen 0,h.frozen 1,h.frozen 2⟩
set_option maxRecDepth 20000 in
theorem qdi (A N:Option Addr) (c d:Nat) (n:NetD) (w:Zp1) (hok:n.ok) (hR:NetR w A N n) (hd:n.nodes.length<=d):
  Calls Tryz.prog 126 #[.agg #[.slice A n.inn.length c,.slice N n.nodes.length d]] w (StudyP n w):=by
 have gT:=hok.2.1;have gJ:=hok.1;have hY:=qdD w (.cells #[.slice A n.inn.length c,.slice N n.nodes.length d] 59) (.cells #[.slice none 0 0,.slice none 0 0,.int .i64 0] 188);have HY:=(Blk.new w 59 #[.slice A n.inn.length c,.slice N n.nodes.length d]).alloc (.cells #[.slice none 0 0,.slice none 0 0,.int .i64 0] 188);have HE:=Blk.new (w.alloc (.cells #[.slice A n.inn.length c,.slice N n.nodes.length d] 59)) 188 #[.slice none 0 0,.slice none 0 0,.int .i64 0];rw [Zh1] at HE;have HQ:=hR.below hY (lrZ _)
 by_cases hF:n.nodes.length<1∨512<n.nodes.length
 ·have HC:=zI (Nt.check_many hF)
  obtain ⟨HR,Hr,H0⟩:=zd3 hR hok HQ;clear hR hok HQ;clear HY HE;rcases hF with h|h
  ·have d1:decide ((n.nodes.length:Int)<1)=true:=by simp;omega
   go_enter Tryz.func126,Tryz.ntmps126;go_wp2_with fail;exact Zk1 (v:=.tuple #[.agg #[.slice none 0 0,.slice none 0 0,.int .i64 0],.int .i64 12]) (by simp [results,Tryz.results126,go_sem]) rfl ⟨hY,.inr (by rw [HC.out];exact ⟨by omega,rfl⟩)⟩
  ·have d1:decide ((n.nodes.length:Int)<1)=false:=by simp;omega
   have d2:decide ((512:Int)<(n.nodes.length:Int))=true:=by simp;omega
   go_enter Tryz.func126,Tryz.ntmps126;go_wp2_with fail;exact Zk1 (v:=.tuple #[.agg #[.slice none 0 0,.slice none 0 0,.int .i64 0],.int .i64 12]) (by simp [results,Tryz.results126,go_sem]) rfl ⟨hY,.inr (by rw [HC.out];exact ⟨by omega,rfl⟩)⟩
 ·have d1:decide ((n.nodes.length:Int)<1)=false:=by simp;omega
  have d2:decide ((512:Int)<(n.nodes.length:Int))=false:=by simp;omega
  have gb:n.nodes.length<=512:=by omega
  have gG:1<=n.nodes.length:=by omega
  obtain ⟨HR,Hr,H0,gm,gl,hh⟩:=zd6 hR hok HQ HY HE hF;clear hR hok HQ HY HE hF;go_enter Tryz.func126,Tryz.ntmps126;go_wp2_with fail;refine (shape_right A c n.inn _ oZ H0.out.1).mono ?_;rintro e w1 ⟨rfl,HF⟩;have hT:Below w.heap.size w w1:=hY.trans (HF.mono soZ);have hb:=gm.out.below HF soZ;have hV:=gl.out.below HF sZ;obtain ⟨y0,y1,y2,f0,f1,f2⟩:=qaG hV;have x0:w1.cell? ⟨w.heap.size,0,none⟩=some (.slice A n.inn.length c):=by rw [hb.cell];rfl
  have x1:w1.cell? ⟨w.heap.size,1,none⟩=some (.slice N n.nodes.length d):=by rw [hb.cell];rfl
  clear gm gl H0 hY HF d1 d2
  by_cases HD:Sh.right n.inn=true
  rotate_left
  ·have HT:Sh.right n.inn=false:=by simpa using HD
   have HC:=zI (Nt.check_in hh.out HT);obtain ⟨ho,hW⟩:=zd2 hb hV;clear hb hV;clear HD;go_wp2_with fail;exact Zk1 (v:=.tuple #[.agg #[.slice none 0 0,.slice none 0 0,.int .i64 0],.int .i64 20]) (by simp [results,Tryz.results126,go_sem,y0,y1,y2]) rfl ⟨qav hT oZ _ _ _,.inr (by rw [HC.out];exact ⟨by omega,rfl⟩)⟩
  ·have ho:=zI hb
   have hW:=zI hV;clear hb hV;go_wp2_with fail;clear y0 y1 y2 f0 f1 f2 x0 x1;have h8:=zI HD;clear HD
   go_loopw [34] (λi wr=>∃k:Nat,k<=n.nodes.length/\i=.int .i64 k/\Blk wr w.heap.size 59 #[.slice A n.inn.length c,.slice N n.nodes.length d]/\Blk wr (w.heap.size+1) 188 #[.slice none 0 0,.slice none 0 0,.int .i64 0]/\Below w.heap.size w wr/\qdh n k) (λi _=>n.nodes.length-(intOf i).toNat)
   case atStart=>exact ⟨0,Zt _,rfl,ho.out,hW.out,hT,λj hj h=>by omega⟩
   case round=>
    clear ho hW hT;obtain ⟨k,hk,rfl,hb,hV,hT,hx⟩:=hrel;have gK:=hV.lt
    by_cases HH:k<n.nodes.length
    ·obtain ⟨b,off,S,sc,J,ic,Q,qc,rfl,HP,-,hI,-⟩:=HR.out.2.at_ HH
     have hZ:=Hr.out.2.2 _ (gmZ HH);have Hy:=λh=>Nt.bads_op (n:=n.nodes.length) HH hx h
     have Hq:=λh m (hm:m<n.nodes[k].ins.length) h2=>Nt.bads_in (n:=n.nodes.length) HH hx h (m:=m) hm h2
     have h9:Od.right n.nodes[k].op=true->n.nodes[k].ins.all (λi=>decide (0<=i/\i<=n.nodes.length))=true->qdh n (k+1):=λh1 h2 j hj gQ=>by
      by_cases e:j=k
      ·subst e;exact ⟨h1,h2⟩
      ·exact hx j hj oZ
     have gJ:=hZ.2.2.1;have gH:=hZ.2.1;generalize n.nodes[k]=v at *;have gx:=HP.below hT;obtain ⟨⟨y0,y1,y2,y3,y4,y5,y6,y7,y8,y9⟩,-⟩:=HP.below hT;have gh:=Blk.new wr 127 (#[.int .i64 v.op.kind,.int .i64 v.op.k,.int .i64 v.op.width,.int .i64 v.op.step,.int .i64 v.op.side,.int .i64 v.op.frm,.int .i64 v.op.to,.slice S v.op.s.length sc,.slice J v.ins.length ic,.slice Q v.p.length qc]);have HX:Below wr.heap.size wr (wr.alloc (.cells #[.int .i64 v.op.kind,.int .i64 v.op.k,.int .i64 v.op.width,.int .i64 v.op.step,.int .i64 v.op.side,.int .i64 v.op.frm,.int .i64 v.op.to,.slice S v.op.s.length sc,.slice J v.ins.length ic,.slice Q v.p.length qc] 127)):=(Ze1 _ _).alloc (lrZ _) _;obtain ⟨ho,hW,gO,gF,gd,HW,Hk,gy,gt⟩:=zd9 hb hV HP hZ Hy Hq h9 gx gh;have HU:=zI hx;clear hb hV HP hZ Hy Hq h9 gx gh hx;go_wp2_with fail;refine (qcl v.op S sc _ oZ (gy.out.2.1.below HX (lrZ _))).mono ?_;rintro e w2 ⟨rfl,Hh⟩;have hf:Below wr.heap.size wr w2:=HX.trans (Hh.mono sZ);have hX:=hT.trans (hf.mono hT.size);have ha:=ho.out.below hf oZ;have he:=hW.out.below hf gK;have hS:=gt.out.below Hh sZ;obtain ⟨z0,z1,z2,f0,f1,f2⟩:=qaG he;have z8:w2.cell? ⟨wr.heap.size,8,none⟩=some (.slice J v.ins.length ic):=by rw [hS.cell];rfl
     have x1:w2.cell? ⟨w.heap.size,1,none⟩=some (.slice (some ⟨b,off,none⟩) n.nodes.length d):=by rw [ha.cell];rfl
     have HL:=gy.out.2.2.1.below hf (lrZ _);clear y0 y1 y2 y3 y4 y5 y6 y7 y8 y9 HX Hh ho hW gt
     by_cases HM:Od.right v.op=true
     rotate_left
     ·have gc:Od.right v.op=false:=by simpa using HM
      have hc:=gd.out gc;have HC:=zI ((Nt.check_bads hh.out h8.out (by rw [hc];omega)).trans hc);obtain ⟨hn,hw,H9,gv⟩:=zd4 ha he hS HL;clear ha he hS HL;clear HM hc;go_wp2_with fail;exact Zk1 (v:=.tuple #[.agg #[.slice none 0 0,.slice none 0 0,.int .i64 0],.int .i64 21]) (by simp [results,Tryz.results126,go_sem,z0,z1,z2]) rfl ⟨qav hX oZ _ _ _,.inr (by rw [HC.out];exact ⟨by omega,rfl⟩)⟩
     ·have gj:=zI HM
      obtain ⟨hn,hw,H9,gv⟩:=zd4 ha he hS HL;clear ha he hS HL;go_wp2_with fail;clear HM
      go_loop [46] (λi=>∃m:Nat,m<=v.ins.length/\i=.int .i64 m/\∀j (hj:j<v.ins.length),j<m->0<=v.ins[j]/\v.ins[j]<=n.nodes.length) (λi=>v.ins.length-(intOf i).toNat)
      case atStart=>exact ⟨0,Zt _,rfl,λj hj h=>by omega⟩
      case round=>
       obtain ⟨m,hm,rfl,hB⟩:=hrel
       by_cases Hx:m<v.ins.length
       ·obtain ⟨b1,off1,rfl,-,hc⟩:=gv.out m Hx
        rw [qa3 Hx] at hc;have HZ:=HW.out gj.out m Hx
        have Hs:(0<=v.ins[m]/\v.ins[m]<=n.nodes.length)->∀j (hj:j<v.ins.length),j<m+1->0<=v.ins[j]/\v.ins[j]<=n.nodes.length:=λh j hj gP=>by
         by_cases e:j=m
         ·subst e;exact h
         ·exact hB j hj oZ
        generalize v.ins[m]=u at *
        by_cases hu:0<=u/\u<=n.nodes.length
        ·have HN:=zI (Hs hu)
         have e1:decide (u<0)=false:=by simp;omega
         have e2:decide ((n.nodes.length:Int)<u)=false:=by simp;omega
         clear hu HZ;obtain ⟨gN,Hz⟩:=zd2 Hs hB;clear Hs hB;go_wp2_with fail
         go_round
         case rel=>exact ⟨m+1,by omega,by go_num,HN.out⟩
         case measure=>simp [intOf];omega
        ·have H2:=HZ hu
         have HC:=zI ((Nt.check_bads hh.out h8.out (by rw [H2];omega)).trans H2);clear H2 HZ;obtain ⟨gN,Hz⟩:=zd2 Hs hB;clear Hs hB
         by_cases Hp:u<0
         ·have e1:decide (u<0)=true:=by simpa using Hp
          clear hu;go_wp2_with fail;exact Zk1 (v:=.tuple #[.agg #[.slice none 0 0,.slice none 0 0,.int .i64 0],.int .i64 11]) (by simp [results,Tryz.results126,go_sem,z0,z1,z2]) rfl ⟨qav hX oZ _ _ _,.inr (by rw [HC.out];exact ⟨by omega,rfl⟩)⟩
         ·have e1:decide (u<0)=false:=by simpa using Hp
          have e2:decide ((n.nodes.length:Int)<u)=true:=by simp;omega
          clear hu;go_wp2_with fail;exact Zk1 (v:=.tuple #[.agg #[.slice none 0 0,.slice none 0 0,.int .i64 0],.int .i64 11]) (by simp [results,Tryz.results126,go_sem,z0,z1,z2]) rfl ⟨qav hX oZ _ _ _,.inr (by rw [HC.out];exact ⟨by omega,rfl⟩)⟩
       ·obtain rfl:m=v.ins.length:=by omega
        have HN:=zI (Hk.out gj.out (List.all_eq_true.2 λi hi=>by obtain ⟨j,hj,rfl⟩:=List.getElem_of_mem hi;simpa using hB j hj hj));have Hz:=zI hB;clear hB;go_wp2_with fail;go_roundw
        case rel=>exact ⟨k+1,by omega,by go_num,hn.out,hw.out,hX,HN.out⟩
        case measure=>simp [intOf];omega
    ·obtain rfl:k=n.nodes.length:=by omega
     have hY:Nt.bads n.nodes.length n.nodes=0:=Nt.bads_none hx;have Hm:∀v∈n.nodes,∀i∈v.ins,0<=i/\i<=n.nodes.length:=λv hv=>(Nt.bads_all hY v hv).2
     have x0:wr.cell? ⟨w.heap.size,0,none⟩=some (.slice A n.inn.length c):=by rw [hb.cell];rfl
     have x1:wr.cell? ⟨w.heap.size,1,none⟩=some (.slice N n.nodes.length d):=by rw [hb.cell];rfl
     obtain ⟨HU,ho,hW,HI,He⟩:=zd5 hx hb hV hY Hm;clear hx hb hV hY Hm;go_wp2_with fail;refine (qf3 A N c d n _ Hr.out gb (HR.out.below hT (lrZ _)) hd He.out).mono ?_;rintro e w2 ⟨O,oc,rfl,hO,H7,H1,Hh⟩;have hf:=hT.trans (Hh.mono hT.size);have ha:=ho.out.below Hh ho.out.lt;have he:=hW.out.below Hh hW.out.lt;have gL:w.heap.size+1<w2.heap.size:=he.lt;have x0:w2.cell? ⟨w.heap.size,0,none⟩=some (.slice A n.inn.length c):=by rw [ha.cell];rfl
     have x1:w2.cell? ⟨w.heap.size,1,none⟩=some (.slice N n.nodes.length d):=by rw [ha.cell];rfl
     clear ho hW
     by_cases hL:(Nt.sorted n.nodes).length=n.nodes.length
     rotate_left
     ·have HC:=zI (Nt.check_cyc hh.out h8.out HI.out hL)
      have e1:(((Nt.sorted n.nodes).length:Int) != (n.nodes.length:Int))=true:=by rw [bne_iff_ne];omega
      have e2:((Nt.sorted n.nodes).length != n.nodes.length)=true:=by rw [bne_iff_ne];omega
      obtain ⟨y0,y1,y2,f0,f1,f2⟩:=qaG he;generalize Nt.sorted n.nodes=os at *;obtain ⟨hn,hw,gA,HO⟩:=zd4 ha he hL hO;clear ha he hL hO;go_wp2_with fail;exact Zk1 (v:=.tuple #[.agg #[.slice none 0 0,.slice none 0 0,.int .i64 0],.int .i64 22]) (by simp [results,Tryz.results126,go_sem,y0,y1,y2]) rfl ⟨qav hf oZ _ _ _,.inr (by rw [HC.out];exact ⟨by omega,rfl⟩)⟩
     ·have hJ:=net_lay A N O c d oc n w2 Hr.out (HR.out.below hf (lrZ _)) hd hO h8.out He.out
      have hC:=λh5=>Nt.check_lay hh.out h8.out HI.out hL h5
      have hq:=λh5 h6=>Nt.check_loss hh.out h8.out HI.out hL h5 h6
      have ht:=λh5 h6=>Nt.check_last hh.out h8.out HI.out hL h5 h6
      have hD:=λh5:(Nt.lay n.nodes (Nt.start n) (Nt.sorted n.nodes)).2=0=>Nt.lay_good h8.out (Nt.sorted n.nodes).length (lrZ _) (by rw [Zg];exact h5)
      rw [Zg] at hD;have hA:=Kn.order_full (I:=Nt.insF n.nodes) (n:=n.nodes.length) hL;have hA:∀u,u∈Nt.sorted n.nodes↔1<=u/\u<=n.nodes.length:=hA;have Hf:(Nt.lay n.nodes (Nt.start n) (Nt.sorted n.nodes)).1=Nt.shapes n:=rfl;rw [hL] at hJ ⊢;obtain ⟨os,hos⟩:∃os,Nt.sorted n.nodes=os:=⟨_,rfl⟩
      rw [hos] at hJ hC hq ht hD hA Hf hO hL H7;rw [hL] at H7;obtain ⟨h4,hP,hK,hG,h3,hN,Hv,gA,gM⟩:=zd9 hJ hC hq ht hD hA Hf hL hos;obtain ⟨HO,hn,hw⟩:=zd3 hO ha he;clear hJ hC hq ht hD hA Hf hL hos hO ha he;go_wp2_with fail;refine (h4.out).mono ?_;rintro e w3 ⟨Hj,⟨hr,g,rfl,hg,Hi,gI⟩|⟨hr,rfl⟩⟩
      rotate_left
      ·have HC:=zI (hP.out hr)
       have hQ:=hf.trans (Hj.mono hf.size);obtain ⟨y0,y1,y2,f0,f1,f2⟩:=qaG (hw.out.below Hj hw.out.lt);generalize Nt.lay n.nodes (Nt.start n) os=r at *;have q1:(r.2 != 0)=true:=by simp [hr]
       have gD:=zI hr;clear hr;go_wp2_with fail;exact Zk1 (v:=.tuple #[.agg #[.slice none 0 0,.slice none 0 0,.int .i64 0],.int .i64 r.2]) (by simp [results,Tryz.results126,go_sem,y0,y1,y2]) rfl ⟨qav hQ oZ _ _ _,.inr (by rw [HC.out];exact ⟨gD.out,rfl⟩)⟩
      ·have ge:=h3.out hr
       have go:=λh6=>hK.out hr h6
       have gq:=λh6=>hG.out hr h6
       rw [Hv.out] at Hi gI ge;have hQ:=hf.trans (Hj.mono hf.size);have hH:=hn.out.below Hj hn.out.lt;have Hw:=hw.out.below Hj hw.out.lt;have x0:w3.cell? ⟨w.heap.size,0,none⟩=some (.slice A n.inn.length c):=by rw [hH.cell];rfl
       have x1:w3.cell? ⟨w.heap.size,1,none⟩=some (.slice N n.nodes.length d):=by rw [hH.cell];rfl
       have gi:=HO.out.below Hj (lrZ _);clear h4 hP hK hG h3 hn hw HO hr Hv;obtain ⟨gu,gE,gB,Hn,Ho,Hg,gp⟩:=zd7 ge go gq Hi hH Hw gi;clear ge go gq Hi hH Hw gi;go_wp2_with fail;refine (qeY A N c d n _ Hr.out (HR.out.below hQ (lrZ _)) hd He.out).mono ?_;rintro e w4 ⟨rfl,HJ⟩;have Hc:=hQ.trans (HJ.mono hQ.size);have hU:=Hg.out.below HJ Hg.out.lt;have hy:=Hn.out.below HJ (lrZ _);have HS:=gp.out.below HJ (lrZ _);obtain ⟨y0,y1,y2,f0,f1,f2⟩:=qaG hU;clear Ho Hg Hn gp
       by_cases HB:Nt.lossOk n.nodes=true
       rotate_left
       ·have gf:Nt.lossOk n.nodes=false:=by simpa using HB
        have HC:=zI (gE.out gf);obtain ⟨Hd,Ha,gr⟩:=zd3 hU hy HS;clear hU hy HS;clear HB;go_wp2_with fail;exact Zk1 (v:=.tuple #[.agg #[.slice none 0 0,.slice none 0 0,.int .i64 0],.int .i64 23]) (by simp [results,Tryz.results126,go_sem,y0,y1,y2]) rfl ⟨qav Hc oZ _ _ _,.inr (by rw [HC.out];exact ⟨by omega,rfl⟩)⟩
       ·have Hx:=(Nt.loss_mem HB).2
        have Hu:=gB.out HB;obtain ⟨l,hl⟩:∃l:Nat,Nt.loss n.nodes=(l:Int):=⟨(Nt.loss n.nodes).toNat,by omega⟩
        have Hl:=zI hl;rw [hl] at Hx Hu ⊢;rw [tnZ] at Hu;have HV:l<(Nt.shapes n).length:=by omega
        have HK:=gu.out (l:Int) (.inr ((hN.out _).2 oZ));rw [tnZ,qa7 HV] at HK;rw [qa7 HV] at Hu;obtain ⟨S,sc,gg,H8,gU,gR,-⟩:=hy.at_ HV;have H3:=qad S sc _ w4 oZ H8;have H5:Sh.size (Nt.shapes n)[l]=(Safe.prod (Nt.shapes n)[l],0):=by unfold Sh.size;rw [if_pos HK]
        rw [H5] at H3;have l0:(0:Int)<=(l:Int):=by omega
        have l1:(l:Int)<((n.nodes.length+1:Nat):Int):=by omega
        generalize (Nt.shapes n)[l]=s at *;obtain ⟨Hd,Ha,gr,gn,Hl,gC,gW,gV,gS⟩:=zd9 hU hy HS Hu hl H3 H5 H8 HK;clear hU hy HS Hu hl H3 H5 H8 HK;go_wp2_with fail;refine (gC.out).mono ?_;rintro e w5 ⟨rfl,HG⟩;have Ht:=Hc.trans (HG.mono Hc.size);have hM:=Hd.out.below HG Hd.out.lt;have hE:=Ha.out.below HG (lrZ _);have HA:=gr.out.below HG (lrZ _);clear y0 y1 y2 f0 f1 f2;obtain ⟨y0,y1,y2,f0,f1,f2⟩:=qaG hM
        by_cases hp:Safe.prod s=1
        ·have HC:=zI (show Nt.check n=0 by rw [gn.out,if_neg (by simp [hp])])
         have e1:(Safe.prod s != 1)=false:=by simp [hp]
         clear gg hp;obtain ⟨Hb,h7,gk⟩:=zd3 hM hE HA;clear hM hE HA;go_wp2_with fail;have H4:∀z∈os,z≠0:=λz hz=>by have:=(hN.out z).1 hz;omega
         have H6:∀s∈Nt.shapes n,∀z∈s,z≠0:=λs hs z hz=>by
          obtain ⟨i,hi,rfl⟩:=List.getElem_of_mem hs
          have gw:=gu.out (i:Int) (by
           by_cases h0:i=0
           ·exact .inl oZ
           ·exact .inr ((hN.out _).2 oZ))
          rw [tnZ,qa7 hi] at gw;have:=(Sh.right_mul gw).2.2.2.1 z hz;omega
         refine Zk1 (v:=.tuple #[.agg #[.slice O n.nodes.length oc,.slice (some ⟨g,0,none⟩) (n.nodes.length+1) (n.nodes.length+1),.int .i64 (l:Int)],.int .i64 0]) (by simp [results,Tryz.results126,go_sem,y0,y1,y2]) rfl ⟨qav Ht oZ _ _ _,.inl ⟨HC.out,O,oc,g,by rw [Hl.out],?_,H7,H1,by omega,?_⟩⟩
         ·rw [gM.out];exact qdL gk.out Hb.out H4 _ _ _
         ·exact qef h7.out Hb.out oZ H6 _ _ _
        ·have HC:=zI (show Nt.check n=23 by rw [gn.out,if_pos hp])
         have e1:(Safe.prod s != 1)=true:=by simp [hp]
         clear gg hp;obtain ⟨Hb,h7,gk⟩:=zd3 hM hE HA;clear hM hE HA;go_wp2_with fail;exact Zk1 (v:=.tuple #[.agg #[.slice none 0 0,.slice none 0 0,.int .i64 0],.int .i64 23]) (by simp [results,Tryz.results126,go_sem,y0,y1,y2]) rfl ⟨qav Ht oZ _ _ _,.inr (by rw [HC.out];exact ⟨by omega,rfl⟩)⟩
theorem qfS (A N:Option Addr) (c d:Nat) (n:NetD) (w:Zp1) (hok:n.ok) (hR:NetR w A N n) (hd:n.nodes.length<=d):
  Calls Tryz.prog 76 #[.agg #[.slice A n.inn.length c,.slice N n.nodes.length d]] w λe w'=>e=.returned (.int .i64 (Nt.check n))/\Below w.heap.size w w':=by
 have hb:Below w.heap.size w (w.alloc (.cells #[.slice A n.inn.length c,.slice N n.nodes.length d] 59)):=(Ze1 _ _).alloc (lrZ _) _;have he:=hR.below hb (lrZ _);obtain ⟨HR,hf,hg⟩:=zd3 hR hok he;clear hR hok he;go_enter Tryz.func76,Tryz.ntmps76;go_wp2_with fail;refine (qdi A N c d n _ hf.out hg.out hd).mono ?_;rintro e w1 ⟨hh,⟨hc,O,oc,g,rfl,-,-,-,-,-⟩|⟨hc,rfl⟩⟩
 all_goals have ha:=hb.trans (hh.mono hb.size)
 ·have Hc:=zI hc
  clear hc;go_wp2_with fail;go_ret;exact ⟨by rw [Hc.out];rfl,ha.alloc ha.size _⟩
 ·have Hc:=zI hc
  clear hc;go_wp2_with fail;go_ret;exact ⟨rfl,ha.alloc ha.size _⟩
def OrderP (n:NetD) (w:Zp1) (e:Ending) (w':Zp1):Prop:=
 Below w.heap.size w w'/\((Nt.check n=0/\∃O oc,e=.returned (.tuple #[.slice O n.nodes.length oc,.int .i64 0])/\Ints .i64 w' O (Nt.sorted n.nodes)/\n.nodes.length<=oc/\oc<=9223372036854775807)∨
  (Nt.check n≠0/\e=.returned (.tuple #[.slice none 0 0,.int .i64 (Nt.check n)])))
def qeg (n:NetD):Int:=if Nt.check n=0 then Nt.loss n.nodes else 0
theorem qdM (A N:Option Addr) (c d:Nat) (n:NetD) (w:Zp1) (hok:n.ok) (hR:NetR w A N n) (hd:n.nodes.length<=d):
  Calls Tryz.prog 71 #[.agg #[.slice A n.inn.length c,.slice N n.nodes.length d]] w (OrderP n w):=by
 have he:Below w.heap.size w (w.alloc (.cells #[.slice A n.inn.length c,.slice N n.nodes.length d] 59)):=(Ze1 _ _).alloc (lrZ _) _;have hh:=hR.below he (lrZ _);obtain ⟨HR,hi,hk⟩:=zd3 hR hok hh;clear hR hok hh;go_enter Tryz.func71,Tryz.ntmps71;go_wp2_with fail;refine (qdi A N c d n _ hi.out hk.out hd).mono ?_;rintro e w1 ⟨hl,⟨hc,O,oc,g,rfl,hO,hm,hj,hg,hb⟩|⟨hc,rfl⟩⟩
 all_goals have ha:=he.trans (hl.mono he.size)
 ·rw [Zh1] at hg
  obtain ⟨Hc,HO,hf⟩:=zd3 hc hO hb;clear hc hO hb;go_wp2_with fail
  go_ret2
  first|exact ⟨ha.alloc ha.size _,.inl ⟨Hc.out,O,oc,rfl,HO.out.alloc _,hm,hj⟩⟩|exact ⟨ha.alloc ha.size _,.inl ⟨Hc.out,g,rfl,by omega,hf.out.alloc _⟩⟩|exact ⟨by unfold qeg;rw [Hc.out];rfl,ha.alloc ha.size _⟩
 ·have Hc:=zI hc
  clear hc;go_wp2_with fail
  go_ret2
  first|exact ⟨ha.alloc ha.size _,.inr ⟨Hc.out,rfl⟩⟩|exact ⟨by unfold qeg;rw [if_neg Hc.out];rfl,ha.alloc ha.size _⟩
theorem net_loss (A N:Option Addr) (c d:Nat) (n:NetD) (w:Zp1) (hok:n.ok) (hR:NetR w A N n) (hd:n.nodes.length<=d):
  Calls Tryz.prog 74 #[.agg #[.slice A n.inn.length c,.slice N n.nodes.length d]] w λe w'=>e=.returned (.tuple #[.int .i64 (qeg n),.int .i64 (Nt.check n)])/\Below w.heap.size w w':=by
 have he:Below w.heap.size w (w.alloc (.cells #[.slice A n.inn.length c,.slice N n.nodes.length d] 59)):=(Ze1 _ _).alloc (lrZ _) _;have hh:=hR.below he (lrZ _);obtain ⟨HR,hi,hk⟩:=zd3 hR hok hh;clear hR hok hh;go_enter Tryz.func74,Tryz.ntmps74;go_wp2_with fail;refine (qdi A N c d n _ hi.out hk.out hd).mono ?_;rintro e w1 ⟨hl,⟨hc,O,oc,g,rfl,hO,hm,hj,hg,hb⟩|⟨hc,rfl⟩⟩
 all_goals have ha:=he.trans (hl.mono he.size)
 ·rw [Zh1] at hg
  obtain ⟨Hc,HO,hf⟩:=zd3 hc hO hb;clear hc hO hb;go_wp2_with fail
  go_ret2
  first|exact ⟨ha.alloc ha.size _,.inl ⟨Hc.out,O,oc,rfl,HO.out.alloc _,hm,hj⟩⟩|exact ⟨ha.alloc ha.size _,.inl ⟨Hc.out,g,rfl,by omega,hf.out.alloc _⟩⟩|exact ⟨by unfold qeg;rw [Hc.out];rfl,ha.alloc ha.size _⟩
 ·have Hc:=zI hc
  clear hc;go_wp2_with fail
  go_ret2
  first|exact ⟨ha.alloc ha.size _,.inr ⟨Hc.out,rfl⟩⟩|exact ⟨by unfold qeg;rw [if_neg Hc.out];rfl,ha.alloc ha.size _⟩
def hasB (zs:List Int) (x:Int):Bool:=zs.contains x
theorem qcw (A:Option Addr) (c:Nat) (zs:List Int) (x:Int) (w:Zp1) (hl:zs.length<=9223372036854775807) (hI:Ints .i64 w A zs):
  Calls Tryz.prog 128 #[.slice A zs.length c,.int .i64 x] w λe w'=>e=.returned (.bool (hasB zs x))/\w=w':=by
 have HI:=zI hI;clear hI;go_enter Tryz.func128,Tryz.ntmps128;go_wp2_with fail
 go_loop [5] (λi=>∃k:Nat,k<=zs.length/\i=.int .i64 k/\(zs.take k).contains x=false) (λi=>zs.length-(intOf i).toNat)
 case atStart=>exact ⟨0,Zt _,rfl,rfl⟩
 case round=>
  obtain ⟨k,hk,rfl,ha⟩:=hrel
  by_cases hb:k<zs.length
  ·obtain ⟨b,off,rfl,-,hc⟩:=HI.out k hb
   rw [qa3 hb] at hc
   by_cases he:zs[k]=x
   ·have e1:(zs[k]==x)=true:=by simp [he]
    have HX:=zI (show hasB zs x=true by unfold hasB;rw [List.contains_iff_mem];rw [←he];exact gmZ hb);clear he ha;go_wp2_with fail;go_ret;exact ⟨by rw [HX.out];rfl,rfl⟩
   ·have e1:(zs[k]==x)=false:=by simp [he]
    have HX:=zI (show (zs.take (k+1)).contains x=false by
     rw [Zb hb];simp at ha;simp only [List.contains_eq_mem,List.mem_append,decide_eq_false_iff_not,List.mem_singleton];intro h;rcases h with h|h
     ·exact ha h
     ·exact he h.symm)
    clear he ha;go_wp2_with fail
    go_round
    case rel=>exact ⟨k+1,by omega,by go_num,HX.out⟩
    case measure=>simp [intOf];omega
  ·obtain rfl:k=zs.length:=by omega
   rw [Zg] at ha;have HX:=zI (show hasB zs x=false from ha);clear ha;go_wp2_with fail;go_ret;exact ⟨by rw [HX.out];rfl,rfl⟩
def Nt.count (ns:List NodeD) (id:Int):Nat:=(ns.filter λv=>v.ins.contains id).length
theorem qeh (A N:Option Addr) (c d:Nat) (n:NetD) (id:Int) (w:Zp1) (hok:n.ok) (hR:NetR w A N n):
  Calls Tryz.prog 124 #[.agg #[.slice A n.inn.length c,.slice N n.nodes.length d],.int .i64 id] w λe w'=>e=.returned (.int .i64 (Nt.count n.nodes id:Nat))/\Below w.heap.size w w':=by
 have he:Below w.heap.size w (w.alloc (.cells #[.slice A n.inn.length c,.slice N n.nodes.length d] 73)):=(Ze1 _ _).alloc (lrZ _) _;have hc:=Blk.new w 73 #[.slice A n.inn.length c,.slice N n.nodes.length d];have hg:=hR.below he (lrZ _);have hq:=hok.2.1;obtain ⟨hi,HR,hn⟩:=zd3 hok hR hc;clear hok hR hc;go_enter Tryz.func124,Tryz.ntmps124;go_upto_region 1 with fail;have x1:(w.alloc (.cells #[.slice A n.inn.length c,.slice N n.nodes.length d] 73)).cell? ⟨w.heap.size,1,none⟩=some (.slice N n.nodes.length d):=by rw [hn.out.cell];rfl
 generalize w.alloc (.cells #[.slice A n.inn.length c,.slice N n.nodes.length d] 73)=w1 at *;have hl:=zI hg;clear hg;go_wp2_with fail
 go_loop [5,6] (λt i=>∃k:Nat,k<=n.nodes.length/\i=.int .i64 (k:Int)/\t=.int .i64 ((Nt.count (n.nodes.take k) id:Nat):Int)) (λ_ i=>n.nodes.length-(intOf i).toNat)
 case atStart=>exact ⟨0,Zt _,rfl,rfl⟩
 case round=>
  obtain ⟨k,hk,rfl,rfl⟩:=hrel
  by_cases hb:k<n.nodes.length
  ·obtain ⟨b,off,S,sc,J,ic,Q,qc,rfl,hj,-,hI,-⟩:=hl.out.2.at_ hb
   have ha:=hi.out.2.2 _ (gmZ hb);have hr:=ha.2.2.1
   have hf:Nt.count (n.nodes.take (k+1)) id=Nt.count (n.nodes.take k) id+if n.nodes[k].ins.contains id then 1 else 0:=by
    unfold Nt.count;rw [Zb hb,List.filter_append]
    by_cases h:n.nodes[k].ins.contains id=true
    ·simp only [List.filter_cons,h,if_true,List.filter_nil,Ze,List.length_singleton]
    ·simp only [List.filter_cons,h,List.filter_nil,Ze];simp
   have hp:Nt.count (n.nodes.take k) id<=k:=by
    unfold Nt.count;refine Zv (List.length_filter_le _ _) ?_;simp;omega
   generalize n.nodes[k]=v at *;generalize Nt.count (n.nodes.take k) id=q at *;obtain ⟨⟨-,-,-,-,-,-,-,-,y8,-⟩,-,hh,-⟩:=hj;obtain ⟨ho,hd,hm⟩:=zd3 hh hf ha;clear hh hf ha;go_wp2_with fail;refine (qcw J ic v.ins id _ oZ ho.out).mono ?_;rintro e w2 ⟨rfl,rfl⟩
   by_cases h:hasB v.ins id=true
   ·have HX:=zI (hd.out.trans (by rw [if_pos (show v.ins.contains id=true from h)]))
    rw [h];clear h;go_wp2_with fail
    go_round
    case rel=>exact ⟨k+1,by omega,by go_num,by rw [HX.out];go_num⟩
    case measure=>simp [intOf];omega
   ·have h':hasB v.ins id=false:=by simpa using h
    have HX:=zI (hd.out.trans (by rw [if_neg (show ¬v.ins.contains id=true from h)]));rw [h'];clear h h';go_wp2_with fail
    go_round
    case rel=>exact ⟨k+1,by omega,by go_num,by rw [HX.out];rfl⟩
    case measure=>simp [intOf];omega
  ·obtain rfl:k=n.nodes.length:=by omega
   rw [Zg];go_wp2_with fail;go_ret;exact ⟨rfl,he⟩
def qbd (out ins:List Int) (b:Bool) (m:Nat):Bool:=b&&(ins.take m).all λi=>i==0 || out.contains i
theorem qei {out ins:List Int} {b:Bool} {m:Nat} (hm:m<ins.length):qbd out ins b (m+1)=(qbd out ins b m&&(ins[m]==0 || out.contains ins[m])):=by
 unfold qbd;rw [Zb hm,List.all_append,Bool.and_assoc];simp
set_option maxRecDepth 20000 in
theorem qej (A N:Option Addr) (c d:Nat) (n:NetD) (w:Zp1) (hok:n.ok) (hR:NetR w A N n):
  Calls Tryz.prog 78 #[.agg #[.slice A n.inn.length c,.slice N n.nodes.length d]] w (qeJ (Nt.sorted n.nodes) w):=by
 obtain ⟨i0,hi,h6,hV,hW⟩:=info_parts qbj;have hF:Below w.heap.size w (w.alloc (.cells #[.slice A n.inn.length c,.slice N n.nodes.length d] 73)):=(Ze1 _ _).alloc (lrZ _) _;have hQ:=Blk.new w 73 #[.slice A n.inn.length c,.slice N n.nodes.length d];have hT:=hR.below hF (lrZ _);have Hb:=hok.2.1;have hn:Nt.sorted n.nodes=Kn.order (Nt.insF n.nodes) n.nodes.length:=rfl;have hw:∀k (h:k<n.nodes.length),Nt.insF n.nodes ((k:Int)+1)=n.nodes[k].ins:=λk h=>by unfold Nt.insF;rw [Nt.node_at h]
 generalize Nt.insF n.nodes=I at *;generalize Nt.sorted n.nodes=os at *;obtain ⟨h0,HR,hM,hv,hC⟩:=zd5 hok hR hQ hn hw;clear hok hR hQ hn hw;go_enter Tryz.func78,Tryz.ntmps78;go_upto_region 1 with fail;have x1:(w.alloc (.cells #[.slice A n.inn.length c,.slice N n.nodes.length d] 73)).cell? ⟨w.heap.size,1,none⟩=some (.slice N n.nodes.length d):=by rw [hM.out.cell];rfl
 have Hg:w.heap.size<(w.alloc (.cells #[.slice A n.inn.length c,.slice N n.nodes.length d] 73)).heap.size:=hM.out.lt;generalize w.alloc (.cells #[.slice A n.inn.length c,.slice N n.nodes.length d] 73)=w1 at *;have h3:=zI hT;clear hT;go_wp2_with fail
 go_loopw [3,4] (λo i wx=>∃k:Nat,k<=n.nodes.length/\i=.int .i64 (k:Int)/\wx.ownsRow w1.heap.size 3 1 o (Kn.go I n.nodes.length k).length ((Kn.go I n.nodes.length k).map (Za1 .i64))/\Below w1.heap.size w1 wx) (λ_ i _=>n.nodes.length-(intOf i).toNat)
 case atStart=>exact ⟨0,Zt _,rfl,by simpa [Kn.go] using World.ownsRow_nil w1 w1.heap.size 3 1,Ze1 _ _⟩
 case round=>
  obtain ⟨k,hk,rfl,hown,hp⟩:=hrel;obtain ⟨Ao,co,rfl⟩:=qaj hown;have x2:=qa1 hp x1
  by_cases Hd:k<n.nodes.length
  ·have hK:=λid r h=>@Kn.go_more I n.nodes.length k id r h
   have Ha:=Kn.go_len_le I n.nodes.length k;have hd:Kn.ready I n.nodes.length (Kn.go I n.nodes.length k)=[]->Kn.go I n.nodes.length (k+1)=Kn.go I n.nodes.length k:=λh=>Kn.go_stuck h 1
   have hS:=(qbn hown).1;generalize Kn.go I n.nodes.length k=out at *;obtain ⟨hU,hs,hl,hJ⟩:=zd4 hK hd hown hS;clear hK hd hown hS;go_wp2_with fail;clear x2
   go_loop [3,5] (λo i=>∃j:Nat,j<=n.nodes.length/\i=.int .i64 ((j:Int)+1)/\o=.slice Ao out.length co/\∀u:Int,1<=u->u<=j->Kn.free I out u=false) (λ_ i=>n.nodes.length+1-(intOf i).toNat)
   case atStart=>exact ⟨0,Zt _,rfl,rfl,λu h1 h2=>by omega⟩
   case round=>
    obtain ⟨j,hj,rfl,rfl,hy⟩:=hrel;have x2:=qa1 hp x1
    by_cases hA:j<n.nodes.length
    ·obtain ⟨b,off,S,sc,J,ic,Q,qc,rfl,hE,-,hI,-⟩:=h3.out.2.at_ hA
     have ht:=h0.out.2.2 _ (gmZ hA);have Hc:=ht.2.2.1;have hB:=hC.out j hA;generalize n.nodes[j]=v at *;obtain ⟨⟨-,-,-,-,-,-,-,-,y8,-⟩,-,hO,-⟩:=hE.below hp;have j1:IntKind.i64.wrap ((j:Int)+1-1)=(j:Int):=by rw [Zc1 _ oZ];omega
     have j2:(j:Int)<n.nodes.length:=by omega
     have j3:(j:Int)+1<=(n.nodes.length:Int):=by omega
     have ha:Kn.free I out ((j:Int)+1)=qbd out v.ins (!hasB out ((j:Int)+1)) v.ins.length:=by
      unfold Kn.free qbd;rw [hB,Zg]
      rfl
     obtain ⟨h9,hY,He,hX,he,hP⟩:=zd6 hE hO hB ht ha hy;clear hE hO hB ht ha hy;go_wp2_with fail;refine (qcw Ao co out ((j:Int)+1) _ oZ hJ.out).mono ?_;rintro e w3 ⟨rfl,rfl⟩;go_wp2_with fail;have ha:=he.out;generalize (!hasB out ((j:Int)+1))=bh at *;have he:=zI ha;clear ha;clear y8 x2
     go_loop [6,8] (λf i=>∃m:Nat,m<=v.ins.length/\i=.int .i64 (m:Int)/\f=.bool (qbd out v.ins bh m)) (λ_ i=>v.ins.length-(intOf i).toNat)
     case atStart=>exact ⟨0,Zt _,rfl,by simp [qbd]⟩
     case round=>
      obtain ⟨m,hm,rfl,rfl⟩:=hrel
      by_cases hD:m<v.ins.length
      ·obtain ⟨b1,off1,rfl,-,hc⟩:=hY.out m hD
       rw [qa3 hD] at hc;have hx:=@qei out v.ins bh m hD;generalize qbd out v.ins bh m=fm at *;generalize v.ins[m]=u at *
       by_cases hu:u=0
       ·have e1:(u != 0)=false:=by simp [hu]
        have HF:=zI (show qbd out v.ins bh (m+1)=fm by rw [hx,hu];simp);clear hu hx;go_wp2_with fail
        go_round
        case rel=>exact ⟨m+1,by omega,by go_num,by rw [HF.out]⟩
        case measure=>simp [intOf];omega
       ·have e1:(u != 0)=true:=by simp [hu]
        have e0:(u==0)=false:=by simp [hu]
        rw [e0,Bool.false_or] at hx;clear hu e0;have hL:=zI hx;clear hx;go_wp2_with fail;refine (qcw Ao co out u _ oZ hJ.out).mono ?_;rintro e w3 ⟨rfl,rfl⟩
        by_cases hh:hasB out u=true
        ·have HF:=zI (show qbd out v.ins bh (m+1)=fm by rw [hL.out,show out.contains u=true from hh,Bool.and_true])
         rw [hh];clear hh;go_wp2_with fail
         go_round
         case rel=>exact ⟨m+1,by omega,by go_num,by rw [HF.out]⟩
         case measure=>simp [intOf];omega
        ·have hG:hasB out u=false:=by simpa using hh
         have HF:=zI (show qbd out v.ins bh (m+1)=false by rw [hL.out,show out.contains u=false from hG,Bool.and_false]);rw [hG];clear hh hG;go_wp2_with fail
         go_round
         case rel=>exact ⟨m+1,by omega,by go_num,by rw [HF.out]⟩
         case measure=>simp [intOf];omega
      ·obtain rfl:m=v.ins.length:=by omega
       rw [←he.out]
       by_cases hf:Kn.free I out ((j:Int)+1)=true
       ·obtain ⟨r,hr⟩:=Kn.ready_first (I:=I) (n:=n.nodes.length) (out:=out) (id:=(j:Int)+1) oZ oZ hf (λu h1 h2=>hP.out u h1 oZ)
        have HG:=zI (hU.out _ _ hr);have ho:=qaz hl.out (.cells #[.int .i64 ((j:Int)+1)] 3);have hg:=(hp.alloc hp.size (.cells #[.int .i64 ((j:Int)+1)] 3))
        have hN:=zI (λb (hb:(Zb1 Ao out.length co).ownBlock=some b)=>(hl.out.lt b hb).1);rw [hf];clear hf hr;go_wp2_with (at_builtin;refine wpList_append_own_at _ rfl _ _ 23 rfl w1.heap.size 3 i0 (.int .i64 0) 1 8 Tryz.underlying23 hi h6 hV hW rfl dZ _ _ _ rfl ho ⟨wr.heap.size,0,none⟩ 1 1 [.int .i64 ((j:Int)+1)] rfl rfl ?c1 (by intro u hu;simp at hu;subst hu;rfl) (by unfold maxLen;omega) oZ ?c2 ?_)
        first|(case c1=>exact qbB wr _ _)|skip
        case c2=>first|exact hg.size|(have:=hp.size;omega)
        intro v' w3 hq hgrow _ h7;have h5:Below w1.heap.size w1 w3:=hg.grown hgrow hg.size (λb hb=>hN.out b hb);have h4:=zI (show w3.ownsRow w1.heap.size 3 1 v' (Kn.go I n.nodes.length (k+1)).length ((Kn.go I n.nodes.length (k+1)).map (Za1 .i64)) by rw [HG.out];simpa using hq);clear hq hgrow h7 ho hg hN;go_wp2_with fail;go_roundw
        case rel=>exact ⟨k+1,by omega,by go_num,h4.out,h5⟩
        case measure=>simp [intOf];omega
       ·have hH:Kn.free I out ((j:Int)+1)=false:=by simpa using hf
        have h8:=zI (show ∀u:Int,1<=u->u<=((j+1:Nat):Int)->Kn.free I out u=false from λu h1 h2=>by
         by_cases e:u=(j:Int)+1
         ·rw [e];exact hH
         ·exact hP.out u h1 oZ)
        rw [hH];clear hf hH;go_wp2_with fail
        go_round
        case rel=>exact ⟨j+1,by omega,by go_num,rfl,h8.out⟩
        case measure=>simp [intOf];omega
    ·obtain rfl:j=n.nodes.length:=by omega
     have HG:=zI (hs.out (Kn.ready_none (λu h1 h2=>hy u h1 h2)));have j3:¬(n.nodes.length:Int)+1<=(n.nodes.length:Int):=by omega
     clear hy;go_wp2_with fail;go_roundw
     case rel=>exact ⟨k+1,by omega,by go_num,by rw [HG.out];exact hl.out,hp⟩
     case measure=>simp [intOf];omega
  ·obtain rfl:k=n.nodes.length:=by omega
   have hz:os=Kn.go I n.nodes.length n.nodes.length:=hv.out;rw [←hz] at hown ⊢;obtain ⟨q1,q2,q3⟩:=qbn hown;obtain ⟨hl,hZ,Hf⟩:=zd3 hown q1 hz;clear hown q1 hz;go_wp2_with fail;go_ret;exact ⟨Ao,co,rfl,hZ.out,q2,q3,hF.trans (hp.mono hF.size)⟩
theorem qbp (A A':Option Addr) (c c':Nat) (xs ys:List Int) (w:Zp1) (hl:xs.length<=9223372036854775807) (hl':ys.length<=9223372036854775807) (hI:Ints .i64 w A xs) (hI':Ints .i64 w A' ys):
  Calls Tryz.prog 31 #[.slice A xs.length c,.slice A' ys.length c'] w λe w'=>e=.returned (.bool (decide (xs=ys)))/\∃q,w'=w.drewN q:=by
 by_cases ha:xs.length=ys.length
 ·have hb:ys.length=xs.length:=ha.symm
  rw [hb];have HI:=zI hI;have ho:=zI hI';obtain ⟨hf,hn⟩:=zd2 ha hb;clear hI hI' ha hb;go_enter Tryz.func31,Tryz.ntmps31;go_wp2_with fail
  go_loopw [5] (λi wr=>∃k q:Nat,k<=xs.length/\i=.int .i64 k/\xs.take k=ys.take k/\wr=w.drewN q) (λi _=>xs.length-(intOf i).toNat)
  case atStart=>exact ⟨0,0,Zt _,rfl,rfl,rfl⟩
  case round=>
   obtain ⟨k,q,hk,rfl,hg,rfl⟩:=hrel
   by_cases hm:k<xs.length
   ·have he:k<ys.length:=by have:=hf.out;omega
    obtain ⟨b,off,rfl,-,hc⟩:=HI.out k hm;obtain ⟨b',off',rfl,-,hp⟩:=ho.out k he;rw [qa3 hm] at hc;rw [qa3 he] at hp;have hd:w.drewN q=w.drewN q:=rfl;have k0:(0:Int)<=(k:Int):=by omega
    have k1:(k:Int)<(xs.length:Int):=by omega
    have hj:xs[k]=ys[k]->xs.take (k+1)=ys.take (k+1):=λe=>by rw [Zb hm,Zb he,hg,e]
    have hi:xs[k]≠ys[k]->decide (xs=ys)=false:=λe=>by simp;intro h;subst h;exact e rfl
    generalize xs[k]=x at *;generalize ys[k]=y at *
    by_cases hh:x=y
    ·have e1:(x != y)=false:=by simp [hh]
     have HX:=zI (hj hh);clear hj hi hg hh hd;go_wp2_with fail
     go_quiet (fail)
     go_wp2_with fail;go_roundw
     case rel=>exact ⟨k+1,_,by omega,by go_num,HX.out,by first|rfl|exact World.drewN_drewN _ _ _⟩
     case measure=>simp [intOf];omega
    ·have e1:(x != y)=true:=by simp [hh]
     have HX:=zI (hi hh);clear hj hi hg hh hd;go_wp2_with fail
     go_quiet (fail)
     go_wp2_with fail;go_ret;exact ⟨by rw [HX.out];rfl,_,by first|rfl|exact World.drewN_drewN _ _ _⟩
   ·obtain rfl:k=xs.length:=by omega
    have HX:=zI (show decide (xs=ys)=true by
     rw [Zg] at hg;rw [hg,hf.out,Zg];simp)
    clear hg;go_wp2_with fail;go_ret;exact ⟨by rw [HX.out];rfl,_,rfl⟩
 ·have HX:=zI (show decide (xs=ys)=false by simp;intro h;exact ha (by rw [h]))
  have e1:((xs.length:Int) != (ys.length:Int))=true:=by rw [bne_iff_ne];omega
  have e2:(xs.length != ys.length)=true:=by rw [bne_iff_ne];omega
  have HI:=zI hI;have ho:=zI hI';have hf:=zI ha;clear hI hI' ha;go_enter Tryz.func31,Tryz.ntmps31;go_wp2_with fail;go_ret;exact ⟨by rw [HX.out];rfl,0,rfl⟩
theorem qdN (l:List Int) (x:Int):Safe.prod (l++[x])=Safe.prod l*x:=by
 induction l with
 | nil=>simp [Safe.prod]
 | cons a r ih=>simp only [List.cons_append,Safe.prod,ih];rw [Int.mul_assoc]
theorem qdO {l:List Int} (h:∀x∈l,1<=x):1<=Safe.prod l:=by
 induction l with
 | nil=>simp [Safe.prod]
 | cons a r ih=>
  have h1:=h a sZ;have h2:=ih λx hx=>h x (by simp [hx])
  simp only [Safe.prod];have:=Int.mul_pos (show 0<a by omega) (show 0<Safe.prod r by omega);omega
theorem qan (A:Option Addr) (c:Nat) (zs:List Int) (w:Zp1) (hr:Sh.right zs=true) (hI:Ints .i64 w A zs):
  Calls Tryz.prog 125 #[.slice A zs.length c] w λe w'=>e=.returned (.int .i64 (Safe.prod zs))/\w=w':=by
 obtain ⟨-,h1,h2,h3,h4,h5⟩:=Sh.right_mul hr
 have hp:∀k,1<=Safe.prod (zs.take k)/\Safe.prod (zs.take k)<=1099511627776:=λk=>by
  refine ⟨?_,Sh.prod_le (λx hx=>h3 x (Zh hx)) soZ⟩;exact qdO λx hx=>(h3 x (Zh hx)).1
 obtain ⟨HI,Hr,Hp,H3⟩:=zd4 hI hr hp h3;clear hI hr hp h3;go_enter Tryz.func125,Tryz.ntmps125;go_wp2_with fail
 go_loop [3,4] (λt i=>∃k:Nat,k<=zs.length/\i=.int .i64 k/\t=.int .i64 (Safe.prod (zs.take k))) (λ_ i=>zs.length-(intOf i).toNat)
 case atStart=>exact ⟨0,Zt _,rfl,rfl⟩
 case round=>
  obtain ⟨k,hk,rfl,rfl⟩:=hrel
  by_cases ha:k<zs.length
  ·obtain ⟨b,off,rfl,-,hc⟩:=HI.out k ha
   rw [qa3 ha] at hc;have hq:=Hp.out (k+1);have hs:Safe.prod (zs.take (k+1))=Safe.prod (zs.take k)*zs[k]:=by rw [Zb ha,qdN]
   rw [hs] at hq;generalize Safe.prod (zs.take k)=p at *;generalize zs[k]=z at *;obtain ⟨q1,q2⟩:=hq;have hw:IntKind.i64.wrap (p*z)=p*z:=Zc1 _ oZ;have Hs:=zI hs;clear hs;go_wp2_with fail
   go_round
   case rel=>exact ⟨k+1,by omega,by go_num,by rw [Hs.out]⟩
   case measure=>simp [intOf];omega
  ·obtain rfl:k=zs.length:=by omega
   rw [Zg];go_wp2_with fail;go_ret;exact ⟨rfl,rfl⟩
theorem qaH (A:Option Addr) (c:Nat) (zs:List Int) (w:Zp1) (hl:zs.length<=9223372036854775807) (hI:Ints .i64 w A zs):
  Calls Tryz.prog 122 #[.slice A zs.length c] w λe w'=>e=.returned (.bool (Sh.right zs))/\w=w':=by
 by_cases hd:1<=zs.length/\zs.length<=4
 ·obtain ⟨l1,l2⟩:=hd
  have d1:decide ((zs.length:Int)<1)=false:=by simp;omega
  have d2:decide ((4:Int)<(zs.length:Int))=false:=by simp;omega
  have HI:=zI hI;clear hI;go_enter Tryz.func122,Tryz.ntmps122;go_wp2_with fail
  go_loop [3,4] (λt i=>∃k:Nat,k<=zs.length/\i=.int .i64 k/\(zs.take k).all Sh.side=true/\t=.int .i64 (Safe.prod (zs.take k))) (λ_ i=>zs.length-(intOf i).toNat)
  case atStart=>exact ⟨0,Zt _,rfl,rfl,rfl⟩
  case round=>
   obtain ⟨k,hk,rfl,ha,rfl⟩:=hrel
   by_cases he:k<zs.length
   ·obtain ⟨b,off,rfl,-,hc⟩:=HI.out k he
    rw [qa3 he] at hc;have hs:Safe.prod (zs.take (k+1))=Safe.prod (zs.take k)*zs[k]:=by rw [Zb he,qdN]
    by_cases hz:1<=zs[k]/\zs[k]<=1024
    ·have hb:(zs.take (k+1)).all Sh.side=true:=by
      rw [Zb he,List.all_append,ha];simp [Sh.side,hz]
     have hg:∀x∈zs.take (k+1),1<=x/\x<=1024:=Sh.all_iff hb;have hq:Safe.prod (zs.take (k+1))<=1099511627776:=Sh.prod_le hg soZ
     have hm:1<=Safe.prod (zs.take (k+1)):=by
      exact qdO λx hx=>(hg x hx).1
     rw [hs] at hq hm;generalize Safe.prod (zs.take k)=p at *;generalize zs[k]=z at *;have hw:IntKind.i64.wrap (p*z)=p*z:=Zc1 _ oZ;have e1:decide (z<1)=false:=by simp;omega
     have e2:decide (1024<z)=false:=by simp;omega
     clear hz ha hg;obtain ⟨Hs,hf⟩:=zd2 hs hb;clear hs hb;go_wp2_with fail
     go_round
     case rel=>exact ⟨k+1,by omega,by go_num,hf.out,by rw [Hs.out]⟩
     case measure=>simp [intOf];omega
    ·have hh:Sh.right zs=false:=Sh.right_side (by
      rw [List.all_eq_false];exact ⟨zs[k],gmZ he,by rw [Sh.side_iff];exact hz⟩)
     generalize zs[k]=z at *;obtain ⟨hj,hn,Hs⟩:=zd3 hh ha hs;clear hh ha hs
     by_cases hi:z<1
     ·have e1:decide (z<1)=true:=by simpa using hi
      clear hz;go_wp2_with fail;go_ret;exact ⟨by rw [hj.out];rfl,rfl⟩
     ·have e1:decide (z<1)=false:=by simpa using hi
      have e2:decide (1024<z)=true:=by simp;omega
      clear hz;go_wp2_with fail;go_ret;exact ⟨by rw [hj.out];rfl,rfl⟩
   ·obtain rfl:k=zs.length:=by omega
    rw [Zg] at ha ⊢;have HR:=zI (Sh.right_prod ⟨l1,l2⟩ ha);clear ha;go_wp2_with fail;go_ret;exact ⟨by rw [HR.out];rfl,rfl⟩
 ·have HR:=zI (Sh.right_len hd)
  have HI:=zI hI;clear hI
  by_cases h1:zs.length<1
  ·have d1:decide ((zs.length:Int)<1)=true:=by simp;omega
   clear hd;go_enter Tryz.func122,Tryz.ntmps122;go_wp2_with fail;go_ret;exact ⟨by rw [HR.out];rfl,rfl⟩
  ·have d1:decide ((zs.length:Int)<1)=false:=by simp;omega
   have d2:decide ((4:Int)<(zs.length:Int))=true:=by simp;omega
   clear hd;go_enter Tryz.func122,Tryz.ntmps122;go_wp2_with fail;go_ret;exact ⟨by rw [HR.out];rfl,rfl⟩
theorem qfT (k:Int) (w:Zp1):Calls Tryz.prog 85 #[.int .i64 k] w λe w'=>e=.returned (.int .i64 (Od.ptIns k))/\w=w':=by
 by_cases h1:1<=k/\k<=5
 ·have HX:=zI (show Od.ptIns k=1 by unfold Od.ptIns;rw [if_pos h1])
  obtain ⟨a,b⟩:=h1;go_enter Tryz.func85,Tryz.ntmps85;go_wp2_with fail;go_ret;exact ⟨by rw [HX.out];rfl,rfl⟩
 ·by_cases h2:k=6∨k=7
  ·have HX:=zI (show Od.ptIns k=2 by unfold Od.ptIns;rw [if_neg h1,if_pos h2])
   clear h1;rcases h2 with rfl|rfl
   all_goals
    go_enter Tryz.func85,Tryz.ntmps85;go_wp2_with fail;go_ret;exact ⟨by rw [HX.out];rfl,rfl⟩
  ·have HX:=zI (show Od.ptIns k=0 by unfold Od.ptIns;rw [if_neg h1,if_neg h2])
   have e6:(k==6)=false:=by simp;omega
   have e7:(k==7)=false:=by simp;omega
   by_cases h3:1<=k
   ·have d2:decide (k<=5)=false:=by simp;omega
    clear h1 h2;go_enter Tryz.func85,Tryz.ntmps85;go_wp2_with fail;go_ret;exact ⟨by rw [HX.out];rfl,rfl⟩
   ·have d2:decide (1<=k)=false:=by simp;omega
    clear h1 h2;go_enter Tryz.func85,Tryz.ntmps85;go_wp2_with fail;go_ret;exact ⟨by rw [HX.out];rfl,rfl⟩
def qbw (k:Int):Int × Int:=if 1<=k/\k<=7 then (Od.ptIns k,Od.ptIns k) else if k=13 then (1,8) else if 8<=k/\k<=15 then (1,1) else (0,0)
theorem qdP {o:OpD} (h:Od.right o=true):qbw o.kind=(Od.least o,Od.most o):=by
 have hk:=Od.right_kind h;unfold qbw Od.least Od.most;rw [if_pos h,if_pos h]
 by_cases h7:o.kind<=7
 ·rw [if_pos ⟨hk.1,h7⟩,if_pos h7,if_pos h7]
 ·rw [if_neg oZ,if_neg h7,if_neg h7]
  by_cases ha:o.kind=13
  ·rw [if_pos ha,if_pos ha]
  ·rw [if_neg ha,if_neg ha,if_pos oZ]
def qdQ (k:Int):Int:=if k=8 then 2 else if k=9∨k=10 then 1 else 0
theorem qdR {o:OpD} (h:Od.right o=true):qdQ o.kind=Od.params o:=by unfold qdQ Od.params;rw [if_pos h]
theorem qfU (k:Int) (w:Zp1) (hk:1<=k/\k<=15):Calls Tryz.prog 37 #[.int .i64 k] w λe w'=>e=.returned (.tuple #[.int .i64 (qbw k).1,.int .i64 (qbw k).2])/\w=w':=by
 by_cases h1:k<=7
 ·have HX:=zI (show qbw k=(Od.ptIns k,Od.ptIns k) by unfold qbw;rw [if_pos ⟨hk.1,h1⟩])
  obtain ⟨a,b⟩:=hk;go_enter Tryz.func37,Tryz.ntmps37;go_wp2_with fail;refine (qfT k _).mono ?_;rintro e w1 ⟨rfl,rfl⟩;go_wp2_with fail
  go_ret2
  exact ⟨by rw [HX.out];rfl,rfl⟩
 ·have d7:decide (k<=7)=false:=by simp;omega
  by_cases ha:k=13
  ·have HX:=zI (show qbw k=(1,8) by unfold qbw;rw [if_neg oZ,if_pos ha])
   subst ha;clear hk;go_enter Tryz.func37,Tryz.ntmps37;go_wp2_with fail
   go_ret2
   exact ⟨by rw [HX.out];rfl,rfl⟩
  ·have HX:=zI (show qbw k=(1,1) by unfold qbw;rw [if_neg oZ,if_neg ha,if_pos oZ])
   have e13:(k==13)=false:=by simp;omega
   have g8:8<=k:=by omega
   obtain ⟨a,b⟩:=hk;clear ha;go_enter Tryz.func37,Tryz.ntmps37;go_wp2_with fail
   go_ret2
   exact ⟨by rw [HX.out];rfl,rfl⟩
theorem qdS (k:Int) (w:Zp1):Calls Tryz.prog 38 #[.int .i64 k] w λe w'=>e=.returned (.int .i64 (qdQ k))/\w=w':=by
 by_cases h8:k=8
 ·subst h8
  go_enter Tryz.func38,Tryz.ntmps38;go_wp2_with fail;go_ret;exact ⟨rfl,rfl⟩
 ·by_cases h9:k=9
  ·subst h9
   clear h8;go_enter Tryz.func38,Tryz.ntmps38;go_wp2_with fail;go_ret;exact ⟨rfl,rfl⟩
  ·by_cases ha:k=10
   ·subst ha
    clear h8 h9;go_enter Tryz.func38,Tryz.ntmps38;go_wp2_with fail;go_ret;exact ⟨rfl,rfl⟩
   ·have HX:=zI (show qdQ k=0 by unfold qdQ;rw [if_neg h8,if_neg oZ])
    have e8:(k==8)=false:=by simp;omega
    have e9:(k==9)=false:=by simp;omega
    have e10:(k==10)=false:=by simp;omega
    clear h8 h9 ha;go_enter Tryz.func38,Tryz.ntmps38;go_wp2_with fail;go_ret;exact ⟨by rw [HX.out];rfl,rfl⟩
theorem qdT {side width step:Int} (h1:1<=step) (h2:width<=side) (h3:1<=width) (h4:side<=1024) {k:Int} (hk:0<=k) (hw:(k-1)*step+width<=side) (hs:¬k*step+width<=side):k=1+(side-width).tdiv step:=by
 rw [Int.tdiv_eq_ediv_of_nonneg oZ];have e1:(k-1)*step<=side-width:=by omega
 have e2:side-width<k*step:=by omega
 have h5:=Int.le_ediv_of_mul_le (show 0<step by omega) e1;have h6:=Int.ediv_lt_of_lt_mul (show 0<step by omega) e2;omega
theorem qcb (side width step:Int) (w:Zp1):Calls Tryz.prog 159 #[.int .i64 side,.int .i64 width,.int .i64 step] w λe w'=>e=.returned (.int .i64 (Od.window side width step).1)/\w=w':=by
 by_cases h1:1<=side/\side<=1024/\1<=width/\width<=1024/\1<=step/\step<=1024/\width<=side
 ·have HX:=zI (show (Od.window side width step).1=1+(side-width).tdiv step by
   unfold Od.window;rw [if_pos (by simp only [Sh.side_iff];omega)])
  obtain ⟨a1,a2,a3,a4,a5,a6,a7⟩:=h1;have c1:decide (side<1)=false:=by simp;omega
  have c2:decide (width<1)=false:=by simp;omega
  have c3:decide (step<1)=false:=by simp;omega
  have c4:decide (1024<side)=false:=by simp;omega
  have c5:decide (1024<width)=false:=by simp;omega
  have c6:decide (1024<step)=false:=by simp;omega
  have c7:decide (side<width)=false:=by simp;omega
  go_enter Tryz.func159,Tryz.ntmps159;go_wp2_with fail
  go_loop [7,8] (λt i=>∃k:Int,0<=k/\i=.int .i64 (k*step)/\t=.int .i64 k/\(k-1)*step+width<=side) (λ_ i=>(side+1-intOf i).toNat)
  case atStart=>exact ⟨0,by omega,by rw [Int.zero_mul],rfl,by rw [Int.zero_sub,Int.neg_mul,Int.one_mul];omega⟩
  case round=>
   obtain ⟨k,hk,rfl,rfl,he⟩:=hrel;have b1:(k-1)*step=k*step-step:=by rw [Int.sub_mul,Int.one_mul]
   have b0:0<=k*step:=Int.mul_nonneg hk oZ
   have b3:k<=k*step+1:=by
    have:=Int.mul_le_mul_of_nonneg_left (show 1<=step from a5) hk;omega
   have b2:(k+1)*step=k*step+step:=by rw [Int.add_mul,Int.one_mul]
   have hb:=@qdT side width step a5 a7 a3 a2 k hk he;rw [b1] at he;have ha:k*step+width<=side->(k+1-1)*step+width<=side:=λh=>by rw [Int.add_sub_cancel];exact h
   generalize k*step=m at *
   by_cases hc:m+width<=side
   ·have HL:=zI (ha hc)
    obtain ⟨hh,hf,hg,hd⟩:=zd4 b1 b2 hb ha;clear b1 b2 hb ha;go_wp2_with fail
    go_round
    case rel=>exact ⟨k+1,by omega,by rw [hf.out],rfl,HL.out⟩
    case measure=>simp [intOf];omega
   ·have HK:=zI (hb hc)
    obtain ⟨hh,hf,hg,hd⟩:=zd4 b1 b2 hb ha;clear b1 b2 hb ha;go_wp2_with fail;go_ret;exact ⟨by rw [HX.out,←HK.out];rfl,rfl⟩
 ·have HX:=zI (show (Od.window side width step).1=0 by
   unfold Od.window;rw [if_neg (by simp only [Sh.side_iff];omega)])
  by_cases c1:side<1
  ·have d1:decide (side<1)=true:=by simpa using c1
   clear h1;go_enter Tryz.func159,Tryz.ntmps159;go_wp2_with fail;go_ret;exact ⟨by rw [HX.out];rfl,rfl⟩
  ·have d1:decide (side<1)=false:=by simpa using c1
   by_cases c2:width<1
   ·have d2:decide (width<1)=true:=by simpa using c2
    clear h1;go_enter Tryz.func159,Tryz.ntmps159;go_wp2_with fail;go_ret;exact ⟨by rw [HX.out];rfl,rfl⟩
   ·have d2:decide (width<1)=false:=by simpa using c2
    by_cases c3:step<1
    ·have d3:decide (step<1)=true:=by simpa using c3
     clear h1;go_enter Tryz.func159,Tryz.ntmps159;go_wp2_with fail;go_ret;exact ⟨by rw [HX.out];rfl,rfl⟩
    ·have d3:decide (step<1)=false:=by simpa using c3
     by_cases c4:1024<side
     ·have d4:decide (1024<side)=true:=by simpa using c4
      clear h1;go_enter Tryz.func159,Tryz.ntmps159;go_wp2_with fail;go_ret;exact ⟨by rw [HX.out];rfl,rfl⟩
     ·have d4:decide (1024<side)=false:=by simpa using c4
      by_cases c5:1024<width
      ·have d5:decide (1024<width)=true:=by simpa using c5
       clear h1;go_enter Tryz.func159,Tryz.ntmps159;go_wp2_with fail;go_ret;exact ⟨by rw [HX.out];rfl,rfl⟩
      ·have d5:decide (1024<width)=false:=by simpa using c5
       by_cases c6:1024<step
       ·have d6:decide (1024<step)=true:=by simpa using c6
        clear h1;go_enter Tryz.func159,Tryz.ntmps159;go_wp2_with fail;go_ret;exact ⟨by rw [HX.out];rfl,rfl⟩
       ·have d6:decide (1024<step)=false:=by simpa using c6
        have d7:decide (side<width)=true:=by simp;omega
        clear h1;go_enter Tryz.func159,Tryz.ntmps159;go_wp2_with fail;go_ret;exact ⟨by rw [HX.out];rfl,rfl⟩
set_option maxRecDepth 20000 in
theorem qek (o:OpD) (S:Option Addr) (c:Nat) (w:Zp1) (hl:o.s.length<=9223372036854775807):
  Calls Tryz.prog 35 #[.agg #[.int .i64 o.kind,.int .i64 o.k,.int .i64 o.width,.int .i64 o.step,.int .i64 o.side,.int .i64 o.frm,.int .i64 o.to,.slice S o.s.length c]] w λe w'=>e=.returned (.bool (Od.refRight o))/\Below w.heap.size w w':=by
 have hb:Below w.heap.size w (w.alloc (.cells #[.int .i64 o.kind,.int .i64 o.k,.int .i64 o.width,.int .i64 o.step,.int .i64 o.side,.int .i64 o.frm,.int .i64 o.to,.slice S o.s.length c] 87)):=(Ze1 _ _).alloc (lrZ _) _;have ha:=Blk.new w 87 #[.int .i64 o.kind,.int .i64 o.k,.int .i64 o.width,.int .i64 o.step,.int .i64 o.side,.int .i64 o.frm,.int .i64 o.to,.slice S o.s.length c];obtain ⟨y0,y1,y2,y3,y4,y5,y6,y7⟩:=qai ha;have HB:=zI hb;clear ha hb;go_enter Tryz.func35,Tryz.ntmps35;go_upto_region 1 with fail;generalize (w.alloc (.cells #[.int .i64 o.kind,.int .i64 o.k,.int .i64 o.width,.int .i64 o.step,.int .i64 o.side,.int .i64 o.frm,.int .i64 o.to,.slice S o.s.length c] 87))=w1 at *
 go_cut [10] (λv wx=>v=.bool (decide (o.kind<1∨15<o.kind))/\w1=wx)
 case first=>
  by_cases c1:o.kind<1
  ·have e1:decide (o.kind<1)=true:=by simp;omega
   have HX:=zI (show decide (o.kind<1∨15<o.kind)=true by simp;omega);clear c1;go_wp2_with fail
   go_meet
   exact ⟨by rw [HX.out],rfl⟩
  ·have e1:decide (o.kind<1)=false:=by simp;omega
   by_cases c2:15<o.kind
   ·have e2:decide (15<o.kind)=true:=by simp;omega
    have HX:=zI (show decide (o.kind<1∨15<o.kind)=true by simp;omega);clear c1 c2;go_wp2_with fail
    go_meet
    exact ⟨by rw [HX.out],rfl⟩
   ·have e2:decide (15<o.kind)=false:=by simp;omega
    have HX:=zI (show decide (o.kind<1∨15<o.kind)=false by simp;omega);clear c1 c2;go_wp2_with fail
    go_meet
    exact ⟨by rw [HX.out],rfl⟩
 case rest=>
  obtain ⟨rfl,rfl⟩:=hcut
  by_cases f0:o.kind<1∨15<o.kind
  ·have q0:decide (o.kind<1∨15<o.kind)=true:=decide_eq_true f0
   have HX:=zI (show Od.refRight o=false by unfold Od.refRight;rw [if_pos f0]);clear f0;rw [q0];clear q0;go_wp2_with fail;go_ret;exact ⟨by rw [HX.out];rfl,HB.out⟩
  ·have q0:decide (o.kind<1∨15<o.kind)=false:=decide_eq_false f0
   rw [q0];clear q0;go_upto_region 3 with fail
   go_cut [23] (λv wx=>v=.bool (decide (o.k≠0/\o.kind≠2/\o.kind≠5))/\w1=wx)
   case first=>
    by_cases c1:o.k=0
    ·have e1:(o.k != 0)=false:=by simp;omega
     have HX:=zI (show decide (o.k≠0/\o.kind≠2/\o.kind≠5)=false by simp;omega);clear c1;go_wp2_with fail
     go_meet
     exact ⟨by rw [HX.out],rfl⟩
    ·have e1:(o.k != 0)=true:=by simp;omega
     by_cases c2:o.kind=2
     ·have e2:(o.kind != 2)=false:=by simp;omega
      have HX:=zI (show decide (o.k≠0/\o.kind≠2/\o.kind≠5)=false by simp;omega);clear c1 c2;go_wp2_with fail
      go_meet
      exact ⟨by rw [HX.out],rfl⟩
     ·have e2:(o.kind != 2)=true:=by simp;omega
      by_cases c3:o.kind=5
      ·have e3:(o.kind != 5)=false:=by simp;omega
       have HX:=zI (show decide (o.k≠0/\o.kind≠2/\o.kind≠5)=false by simp;omega);clear c1 c2 c3;go_wp2_with fail
       go_meet
       exact ⟨by rw [HX.out],rfl⟩
      ·have e3:(o.kind != 5)=true:=by simp;omega
       have HX:=zI (show decide (o.k≠0/\o.kind≠2/\o.kind≠5)=true by simp;omega);clear c1 c2 c3;go_wp2_with fail
       go_meet
       exact ⟨by rw [HX.out],rfl⟩
   case rest=>
    obtain ⟨rfl,rfl⟩:=hcut
    by_cases f1:o.k≠0/\o.kind≠2/\o.kind≠5
    ·have q1:decide (o.k≠0/\o.kind≠2/\o.kind≠5)=true:=decide_eq_true f1
     have HX:=zI (show Od.refRight o=false by unfold Od.refRight;rw [if_neg f0,if_pos f1]);clear f0 f1;rw [q1];clear q1;go_wp2_with fail;go_ret;exact ⟨by rw [HX.out];rfl,HB.out⟩
    ·have q1:decide (o.k≠0/\o.kind≠2/\o.kind≠5)=false:=decide_eq_false f1
     rw [q1];clear q1;go_upto_region 5 with fail
     go_cut [36] (λv wx=>v=.bool (decide (o.width≠0/\o.kind≠11/\o.kind≠12))/\w1=wx)
     case first=>
      by_cases c1:o.width=0
      ·have e1:(o.width != 0)=false:=by simp;omega
       have HX:=zI (show decide (o.width≠0/\o.kind≠11/\o.kind≠12)=false by simp;omega);clear c1;go_wp2_with fail
       go_meet
       exact ⟨by rw [HX.out],rfl⟩
      ·have e1:(o.width != 0)=true:=by simp;omega
       by_cases c2:o.kind=11
       ·have e2:(o.kind != 11)=false:=by simp;omega
        have HX:=zI (show decide (o.width≠0/\o.kind≠11/\o.kind≠12)=false by simp;omega);clear c1 c2;go_wp2_with fail
        go_meet
        exact ⟨by rw [HX.out],rfl⟩
       ·have e2:(o.kind != 11)=true:=by simp;omega
        by_cases c3:o.kind=12
        ·have e3:(o.kind != 12)=false:=by simp;omega
         have HX:=zI (show decide (o.width≠0/\o.kind≠11/\o.kind≠12)=false by simp;omega);clear c1 c2 c3;go_wp2_with fail
         go_meet
         exact ⟨by rw [HX.out],rfl⟩
        ·have e3:(o.kind != 12)=true:=by simp;omega
         have HX:=zI (show decide (o.width≠0/\o.kind≠11/\o.kind≠12)=true by simp;omega);clear c1 c2 c3;go_wp2_with fail
         go_meet
         exact ⟨by rw [HX.out],rfl⟩
     case rest=>
      obtain ⟨rfl,rfl⟩:=hcut
      by_cases f2:o.width≠0/\o.kind≠11/\o.kind≠12
      ·have q2:decide (o.width≠0/\o.kind≠11/\o.kind≠12)=true:=decide_eq_true f2
       have HX:=zI (show Od.refRight o=false by unfold Od.refRight;rw [if_neg f0,if_neg f1,if_pos f2]);clear f0 f1 f2;rw [q2];clear q2;go_wp2_with fail;go_ret;exact ⟨by rw [HX.out];rfl,HB.out⟩
      ·have q2:decide (o.width≠0/\o.kind≠11/\o.kind≠12)=false:=decide_eq_false f2
       rw [q2];clear q2;go_upto_region 7 with fail
       go_cut [49] (λv wx=>v=.bool (decide (o.step≠0/\(o.kind<10∨12<o.kind)))/\w1=wx)
       case first=>
        by_cases c1:o.step=0
        ·have e1:(o.step != 0)=false:=by simp;omega
         have HX:=zI (show decide (o.step≠0/\(o.kind<10∨12<o.kind))=false by simp;omega);clear c1;go_wp2_with fail
         go_meet
         exact ⟨by rw [HX.out],rfl⟩
        ·have e1:(o.step != 0)=true:=by simp;omega
         by_cases c2:o.kind<10
         ·have e2:decide (o.kind<10)=true:=by simp;omega
          have HX:=zI (show decide (o.step≠0/\(o.kind<10∨12<o.kind))=true by simp;omega);clear c1 c2;go_wp2_with fail
          go_meet
          exact ⟨by rw [HX.out],rfl⟩
         ·have e2:decide (o.kind<10)=false:=by simp;omega
          by_cases c3:12<o.kind
          ·have e3:decide (12<o.kind)=true:=by simp;omega
           have HX:=zI (show decide (o.step≠0/\(o.kind<10∨12<o.kind))=true by simp;omega);clear c1 c2 c3;go_wp2_with fail
           go_meet
           exact ⟨by rw [HX.out],rfl⟩
          ·have e3:decide (12<o.kind)=false:=by simp;omega
           have HX:=zI (show decide (o.step≠0/\(o.kind<10∨12<o.kind))=false by simp;omega);clear c1 c2 c3;go_wp2_with fail
           go_meet
           exact ⟨by rw [HX.out],rfl⟩
       case rest=>
        obtain ⟨rfl,rfl⟩:=hcut
        by_cases f3:o.step≠0/\(o.kind<10∨12<o.kind)
        ·have q3:decide (o.step≠0/\(o.kind<10∨12<o.kind))=true:=decide_eq_true f3
         have HX:=zI (show Od.refRight o=false by unfold Od.refRight;rw [if_neg f0,if_neg f1,if_neg f2,if_pos f3]);clear f0 f1 f2 f3;rw [q3];clear q3;go_wp2_with fail;go_ret;exact ⟨by rw [HX.out];rfl,HB.out⟩
        ·have q3:decide (o.step≠0/\(o.kind<10∨12<o.kind))=false:=decide_eq_false f3
         rw [q3];clear q3;go_upto_region 9 with fail
         go_cut [62] (λv wx=>v=.bool (decide (o.side≠0/\o.kind≠13/\o.kind≠14))/\w1=wx)
         case first=>
          by_cases c1:o.side=0
          ·have e1:(o.side != 0)=false:=by simp;omega
           have HX:=zI (show decide (o.side≠0/\o.kind≠13/\o.kind≠14)=false by simp;omega);clear c1;go_wp2_with fail
           go_meet
           exact ⟨by rw [HX.out],rfl⟩
          ·have e1:(o.side != 0)=true:=by simp;omega
           by_cases c2:o.kind=13
           ·have e2:(o.kind != 13)=false:=by simp;omega
            have HX:=zI (show decide (o.side≠0/\o.kind≠13/\o.kind≠14)=false by simp;omega);clear c1 c2;go_wp2_with fail
            go_meet
            exact ⟨by rw [HX.out],rfl⟩
           ·have e2:(o.kind != 13)=true:=by simp;omega
            by_cases c3:o.kind=14
            ·have e3:(o.kind != 14)=false:=by simp;omega
             have HX:=zI (show decide (o.side≠0/\o.kind≠13/\o.kind≠14)=false by simp;omega);clear c1 c2 c3;go_wp2_with fail
             go_meet
             exact ⟨by rw [HX.out],rfl⟩
            ·have e3:(o.kind != 14)=true:=by simp;omega
             have HX:=zI (show decide (o.side≠0/\o.kind≠13/\o.kind≠14)=true by simp;omega);clear c1 c2 c3;go_wp2_with fail
             go_meet
             exact ⟨by rw [HX.out],rfl⟩
         case rest=>
          obtain ⟨rfl,rfl⟩:=hcut
          by_cases f4:o.side≠0/\o.kind≠13/\o.kind≠14
          ·have q4:decide (o.side≠0/\o.kind≠13/\o.kind≠14)=true:=decide_eq_true f4
           have HX:=zI (show Od.refRight o=false by unfold Od.refRight;rw [if_neg f0,if_neg f1,if_neg f2,if_neg f3,if_pos f4]);clear f0 f1 f2 f3 f4;rw [q4];clear q4;go_wp2_with fail;go_ret;exact ⟨by rw [HX.out];rfl,HB.out⟩
          ·have q4:decide (o.side≠0/\o.kind≠13/\o.kind≠14)=false:=decide_eq_false f4
           rw [q4];clear q4;go_upto_region 11 with fail
           go_cut [75] (λv wx=>v=.bool (decide ((o.frm≠0∨o.to≠0)/\o.kind≠14))/\w1=wx)
           case first=>
            by_cases c1:o.frm=0
            ·have e1:(o.frm != 0)=false:=by simp;omega
             by_cases c2:o.to=0
             ·have e2:(o.to != 0)=false:=by simp;omega
              have HX:=zI (show decide ((o.frm≠0∨o.to≠0)/\o.kind≠14)=false by simp;omega);clear c1 c2;go_wp2_with fail
              go_meet
              exact ⟨by rw [HX.out],rfl⟩
             ·have e2:(o.to != 0)=true:=by simp;omega
              by_cases c3:o.kind=14
              ·have e3:(o.kind != 14)=false:=by simp;omega
               have HX:=zI (show decide ((o.frm≠0∨o.to≠0)/\o.kind≠14)=false by simp;omega);clear c1 c2 c3;go_wp2_with fail
               go_meet
               exact ⟨by rw [HX.out],rfl⟩
              ·have e3:(o.kind != 14)=true:=by simp;omega
               have HX:=zI (show decide ((o.frm≠0∨o.to≠0)/\o.kind≠14)=true by simp;omega);clear c1 c2 c3;go_wp2_with fail
               go_meet
               exact ⟨by rw [HX.out],rfl⟩
            ·have e1:(o.frm != 0)=true:=by simp;omega
             by_cases c2:o.kind=14
             ·have e2:(o.kind != 14)=false:=by simp;omega
              have HX:=zI (show decide ((o.frm≠0∨o.to≠0)/\o.kind≠14)=false by simp;omega);clear c1 c2;go_wp2_with fail
              go_meet
              exact ⟨by rw [HX.out],rfl⟩
             ·have e2:(o.kind != 14)=true:=by simp;omega
              have HX:=zI (show decide ((o.frm≠0∨o.to≠0)/\o.kind≠14)=true by simp;omega);clear c1 c2;go_wp2_with fail
              go_meet
              exact ⟨by rw [HX.out],rfl⟩
           case rest=>
            obtain ⟨rfl,rfl⟩:=hcut
            by_cases f5:(o.frm≠0∨o.to≠0)/\o.kind≠14
            ·have q5:decide ((o.frm≠0∨o.to≠0)/\o.kind≠14)=true:=decide_eq_true f5
             have HX:=zI (show Od.refRight o=false by unfold Od.refRight;rw [if_neg f0,if_neg f1,if_neg f2,if_neg f3,if_neg f4,if_pos f5]);clear f0 f1 f2 f3 f4 f5;rw [q5];clear q5;go_wp2_with fail;go_ret;exact ⟨by rw [HX.out];rfl,HB.out⟩
            ·have q5:decide ((o.frm≠0∨o.to≠0)/\o.kind≠14)=false:=decide_eq_false f5
             rw [q5];clear q5;have HF:=zI (show Od.refRight o=decide (o.s=[]∨o.kind=15) by unfold Od.refRight;rw [if_neg f0,if_neg f1,if_neg f2,if_neg f3,if_neg f4,if_neg f5]);clear f0 f1 f2 f3 f4 f5
             by_cases h1:o.s=[]
             ·have HX:=zI (show decide (o.s=[]∨o.kind=15)=true by simp [h1])
              have e1:((o.s.length:Int)==0)=true:=by simp [h1]
              have e2:o.s.length=0:=by simp [h1]
              rw [e2] at *;clear h1;go_wp2_with fail;go_ret;exact ⟨by rw [HF.out,HX.out];rfl,HB.out⟩
             ·have e1:((o.s.length:Int)==0)=false:=by simp [h1]
              have e2:(o.s.length==0)=false:=by simp [h1]
              by_cases h2:o.kind=15
              ·have HX:=zI (show decide (o.s=[]∨o.kind=15)=true by simp [h2])
               have e3:(o.kind==15)=true:=by simp [h2]
               clear h1 h2;go_wp2_with fail;go_ret;exact ⟨by rw [HF.out,HX.out];rfl,HB.out⟩
              ·have HX:=zI (show decide (o.s=[]∨o.kind=15)=false by simp [h1,h2])
               have e3:(o.kind==15)=false:=by simp [h2]
               clear h1 h2;go_wp2_with fail;go_ret;exact ⟨by rw [HF.out,HX.out];rfl,HB.out⟩
def RefP (r:List Int × Int) (w:Zp1) (e:Ending) (w':Zp1):Prop:=
 ∃S c,e=.returned (.tuple #[.slice S r.1.length c,.int .i64 r.2])/\Ints .i64 w' S r.1/\r.1.length<=c/\c<=9223372036854775807/\Below w.heap.size w w'
def WithP (zs:List Int) (w:Zp1) (e:Ending) (w':Zp1):Prop:=
 ∃g,e=.returned (.slice (some ⟨g,0,none⟩) zs.length zs.length)/\Ints .i64 w' (some ⟨g,0,none⟩) zs/\w.heap.size<=g/\Below w.heap.size w w'
theorem qc1 (A:Option Addr) (c:Nat) (zs:List Int) (i:Nat) (v:Int) (w:Zp1) (hl:zs.length<=17592186043904) (hI:Ints .i64 w A zs) (hi':i<zs.length):
  Calls Tryz.prog 160 #[.slice A zs.length c,.int .i64 (i:Int),.int .i64 v] w (WithP (zs.set i v) w):=by
 obtain ⟨i0,hi,hm,hn,ho⟩:=info_parts qbj;have HI:=zI hI;clear hI;go_enter Tryz.func160,Tryz.ntmps160;go_wp2_with (at_make;refine wpList_make_full _ rfl _ _ 23 rfl w.heap.size 3 i0 (.int .i64 0) 1 Tryz.underlying23 hi hm hn _ _ _ _ zs.length rfl rfl (by first|rfl|simp) (by first|rfl|simp) ?b2 ?b3 (lrZ _) ?_)
 case b2=>rw [ho];omega
 case b3=>unfold maxLen;omega
 intro w1 hown hgrow;have hb:=qaS hown;have hc:Below w.heap.size w w1:=(Ze1 _ w).grown hgrow (lrZ _) sZ;have ha:=hown.1;have hf:=zI (HI.out.below hc (lrZ _));generalize (madeCells #[Za1 .i64 0] zs.length).toList=cur at *;clear hown hgrow HI;go_wp2_with (with_reducible refine wpList_copy_splice rfl (.tmp 11) (.tmp 12) 23 23 rfl 3 Tryz.underlying23 ?d1 (some ⟨w.heap.size,0,none⟩) A zs.length zs.length zs.length c rfl rfl w.heap.size 0 cur 3 hb (zs.map (Za1 .i64)) ?d2 ?d3 ?d4 ?d5 w.heap.size w hc (lrZ _) ?_)
 case d1=>kernel_rfl
 case d2=>simp
 case d3=>intro hp;exact hf.out.src' (by simpa using hp)
 case d4=>simp at ha ⊢;omega
 case d5=>intro v hv;obtain ⟨x,_,rfl⟩:=List.mem_map.1 hv;rfl
 intro w2 hd hg;have hs:=qc0 (cur:=cur) (cs:=zs.map (Za1 .i64)) (by simp at ha ⊢;omega);have hk:Blk w2 w.heap.size 3 (zs.map (Za1 .i64)).toArray:=by unfold Blk;rw [←hs];exact hd.out
 have y:w2.cell? ⟨w.heap.size,i,none⟩=some (.int .i64 zs[i]):=by rw [hk.cell];simp [hi']
 have f:=hk.frozen i;have he:=hk.set_ i (.int .i64 v);have l0:(0:Int)<=(i:Int):=by omega
 have l1:(i:Int)<(zs.length:Int):=by omega
 obtain ⟨Hk,hh⟩:=zd2 hk he;clear hk he;clear hd hc ha hs hb;go_wp2_with fail;go_ret;refine ⟨w.heap.size,by rw [List.length_set];rfl,Ints.of_row λj hj=>?_,lrZ _,hg.setCell (lrZ _) _⟩;rw [Zw,hh.out.cell j];rw [qa3 hj];simp at hj;simp [List.getElem_set,hj]
 split<;>simp_all
theorem qaZ (side:Int):∀(a b:List (List Int)) (s:List Int),Od.joinAll side s (a++b)=if (Od.joinAll side s a).2=0 then Od.joinAll side (Od.joinAll side s a).1 b else ([],(Od.joinAll side s a).2)
 | [],b,s=>by simp [Od.joinAll]
 | t::a,b,s=>by
  rw [List.cons_append,Od.joinAll,Od.joinAll]
  split
  ·exact qaZ side a b _
  ·rename_i h;simp
theorem qdU {side:Int} {l:List (List Int)} {s s1:List Int} {k:Nat} (hk:k<l.length) (h:Od.joinAll side s (l.take k)=(s1,0)):
  ((Od.join s1 l[k] side).2=0->Od.joinAll side s (l.take (k+1))=((Od.join s1 l[k] side).1,0))/\((Od.join s1 l[k] side).2≠0->Od.joinAll side s l=([],(Od.join s1 l[k] side).2)):=by
 refine ⟨λe=>?_,λe=>?_⟩
 ·rw [Zb hk,qaZ,h]
  simp [Od.joinAll,e]
 ·have:l=l.take k++l[k]::l.drop (k+1):=by rw [←Zd hk,Zn]
  have e2:=congrArg (Od.joinAll side s) this;rw [e2,qaZ,h];simp [Od.joinAll,e]
def qeK (s t:List Int) (side:Int) (m:Nat):Prop:=∀j,j<m->(j:Int)=side∨s.getD j 0=t.getD j 0
theorem qf4 {s t:List Int} {side:Int} (h:qeK s t side s.length):Od.joinOk s t side=true:=by
 unfold Od.joinOk;rw [Zf];intro i hi;have:=h i (List.mem_range.1 hi);simpa using this
theorem qf5 {s t:List Int} {side:Int} {m:Nat} (hm:m<s.length) (h1:(m:Int)≠side) (h2:s.getD m 0≠t.getD m 0):Od.joinOk s t side=false:=by
 unfold Od.joinOk;rw [List.all_eq_false];exact ⟨m,List.mem_range.2 hm,by simp [h1] ;simpa using h2⟩
set_option maxRecDepth 20000 in
theorem qdV (side:Int) (X:Option Addr) (c:Nat) (xs:List (List Int)) (w:Zp1) (hX:Shps w X xs) (hl:xs.length<=1048576) (h1:1<=xs.length) (hr:∀s∈xs,Sh.right s=true):
  Calls Tryz.prog 161 #[.int .i64 side,.slice X xs.length c] w (RefP (Od.joined side xs) w):=by
 obtain ⟨b0,off0,S0,c0,rfl,-,y0,hQ,Hm,Hn⟩:=hX 0 oZ;have hR:=hr xs[0] (gmZ oZ);have h4:xs.getD 0 []=xs[0]:=qa7 oZ;have hx:xs.drop 1=xs.drop 1:=rfl;have hF:Od.joined side xs=if xs.length=1/\Od.inR side xs[0]=false then ([],11) else Od.joinAll side xs[0] (xs.drop 1):=by unfold Od.joined;rw [h4]
 have Hz:=(qa5 hR).2;rw [Zx] at y0
 by_cases hd:xs.length=1/\Od.inR side xs[0]=false
 ·have HQ:=zI (show Od.joined side xs=([],11) by rw [hF,if_pos hd])
  have hb:=hd.2;have e1:((xs.length:Int)==1)=true:=by simp;omega
  have e1':(xs.length==1)=true:=by simp;omega
  simp [Od.inR] at hb;clear hF hx h4;generalize xs[0]=s at *;obtain ⟨HX,Hr,Hc,Hw,Hk⟩:=zd5 hX hr hQ hR hd;clear hX hr hQ hR hd
  by_cases hh:side<0
  ·have e2:decide (side<0)=true:=by simpa using hh
   clear hb;go_enter Tryz.func161,Tryz.ntmps161;go_wp2_with fail
   go_ret2
   exact ⟨none,0,by rw [HQ.out];rfl,by rw [HQ.out];exact Ints.nil,by rw [HQ.out];exact lrZ _,by omega,Ze1 _ _⟩
  ·have e2:decide (side<0)=false:=by simpa using hh
   have e3:decide ((s.length:Int)<=side)=true:=by simpa using hb oZ
   clear hb;go_enter Tryz.func161,Tryz.ntmps161;go_wp2_with fail
   go_ret2
   exact ⟨none,0,by rw [HQ.out];rfl,by rw [HQ.out];exact Ints.nil,by rw [HQ.out];exact lrZ _,by omega,Ze1 _ _⟩
 ·rw [if_neg hd] at hF
  have hY:∀t∈xs.drop 1,Sh.right t=true:=λt ht=>hr t (Zp ht)
  have Hq:(xs.drop 1).length=xs.length-1:=by simp
  have h5:∀k (h:k<(xs.drop 1).length),∃S c,w.cell? ⟨b0,off0+(k+1),none⟩=some (.slice S (xs.drop 1)[k].length c)/\Ints .i64 w S (xs.drop 1)[k]:=λk h=>by
   obtain ⟨b,off,S,c,e,-,hc,hI,-⟩:=hX (k+1) oZ;injection e with e
   injection e with e1 e2
   subst e1 e2;rw [List.getElem_drop];simp only [Nat.add_comm 1 k];exact ⟨S,c,hc,hI⟩
  have he:xs.length=1->Od.inR side xs[0]=true:=λh=>by by_cases q:Od.inR side xs[0]=true;exact q;exact absurd ⟨h,by simpa using q⟩ hd
  generalize xs[0]=s0 at *;obtain ⟨l,hl'⟩:∃l,xs.drop 1=l:=⟨_,rfl⟩
  rw [hl'] at hY Hq h5 hF;clear hx h4 hd hl';obtain ⟨HX,Hr,Hc,hK,Hl,Hu⟩:=zd6 hX hr hQ hF hY h5;clear hX hr hQ hF hY h5;go_enter Tryz.func161,Tryz.ntmps161;go_upto_region 2 with fail
  go_cut [24] (λv wx=>v=.bool false/\w=wx)
  case first=>
   by_cases hW:xs.length=1
   ·have hg:=he hW
    simp [Od.inR] at hg;obtain ⟨p1,p2⟩:=hg;have e1:((xs.length:Int)==1)=true:=by simp;omega
    have e1':(xs.length==1)=true:=by simp;omega
    have e2:decide (side<0)=false:=by simp;omega
    have e3:decide ((s0.length:Int)<=side)=false:=by simp;omega
    clear he hW;go_wp2_with fail
    go_meet
    exact ⟨rfl,rfl⟩
   ·have e1:((xs.length:Int)==1)=false:=by simp;omega
    have e1':(xs.length==1)=false:=by simp;omega
    clear he hW;go_wp2_with fail
    go_meet
    exact ⟨rfl,rfl⟩
  case rest=>
   obtain ⟨rfl,rfl⟩:=hcut;clear he;go_wp2_with fail
   go_loopw [6,7] (λo i wr=>∃(k:Nat) (S:Option Addr) (d:Nat) (s:List Int),k<=l.length/\i=.int .i64 ((k:Int)+1)/\o=.slice S s.length d/\Ints .i64 wr S s/\s.length<=d/\d<=9223372036854775807/\Sh.right s=true/\Od.joinAll side s0 (l.take k)=(s,0)/\Below w.heap.size w wr) (λ_ i _=>l.length+1-(intOf i).toNat)
   case atStart=>exact ⟨0,S0,c0,s0,Zt _,rfl,rfl,Hc.out,Hm,Hn,hR,rfl,Ze1 _ _⟩
   case round=>
    obtain ⟨k,S,d,s,hk,rfl,rfl,hI,Ht,Hp,hf,hu,hq⟩:=hrel
    by_cases hZ:k<l.length
    ·obtain ⟨St,ct,yt,hA⟩:=Hu.out k hZ
     have ho:=Hl.out _ (gmZ hZ);obtain ⟨hD,hs⟩:=qdU hZ hu;generalize l[k]=t at *;have y1:=qa1 hq yt;have ha:=hA.below hq (lrZ _);obtain ⟨s3,s4⟩:=qa5 hf;obtain ⟨t3,t4⟩:=qa5 ho;have k1:((k:Int)+1)<(xs.length:Int):=by omega
     have k2:((k:Int)+1).toNat=k+1:=by omega
     have k0:(0:Int)<=(k:Int)+1:=by omega
     have k3:IntKind.i64.wrap ((k:Int)+1+1)=(k:Int)+1+1:=Zc1 _ oZ
     by_cases hv:t.length=s.length
     rotate_left
     ·have e1:((t.length:Int) != (s.length:Int))=true:=by rw [bne_iff_ne];omega
      have e2:(t.length != s.length)=true:=by rw [bne_iff_ne];omega
      have hj:Od.join s t side=([],20):=by unfold Od.join;rw [if_neg];simp;intro _ _ h;exact absurd h.symm hv
      have HQ:=zI (hK.out.trans (hs (by rw [hj];simp)));have HJ:=zI hj;clear hD hs hv hj hu;obtain ⟨HI,h9,hO,h0,h7⟩:=zd5 hI hA ha hf ho;clear hI hA ha hf ho;go_wp2_with fail
      go_ret2
      exact ⟨none,0,by rw [HQ.out,HJ.out];rfl,by rw [HQ.out];exact Ints.nil,by rw [HQ.out];exact lrZ _,by omega,hq⟩
     ·by_cases hg:Od.inR side s=true
      rotate_left
      ·have hj:Od.join s t side=([],11):=by unfold Od.join;rw [if_pos (by simp [hf,ho,hv]),if_neg hg]
       have HQ:=zI (hK.out.trans (hs (by rw [hj];simp)));have HJ:=zI hj;simp [Od.inR] at hg;rw [hv] at y1;clear hD hs hv hj hu;obtain ⟨HI,h9,hO,h0,h7⟩:=zd5 hI hA ha hf ho;clear hI hA ha hf ho
       by_cases hh:side<0
       ·have e2:decide (side<0)=true:=by simpa using hh
        clear hg;go_wp2_with fail
        go_ret2
        exact ⟨none,0,by rw [HQ.out,HJ.out];rfl,by rw [HQ.out];exact Ints.nil,by rw [HQ.out];exact lrZ _,by omega,hq⟩
       ·have e2:decide (side<0)=false:=by simpa using hh
        have e3:decide ((s.length:Int)<=side)=true:=by simpa using hg oZ
        clear hg;go_wp2_with fail
        go_ret2
        exact ⟨none,0,by rw [HQ.out,HJ.out];rfl,by rw [HQ.out];exact Ints.nil,by rw [HQ.out];exact lrZ _,by omega,hq⟩
      ·have hp:Od.join s t side=if Od.joinOk s t side&&Sh.right (Od.joinL s t side) then (Od.joinL s t side,0) else ([],20):=by unfold Od.join;rw [if_pos (by simp [hf,ho,hv]),if_pos hg]
       simp [Od.inR] at hg;obtain ⟨sd,rfl⟩:∃sd:Nat,side=(sd:Int):=⟨side.toNat,by omega⟩
       have hS:sd<s.length:=by omega
       have e2:decide ((sd:Int)<0)=false:=by simp
       have e3:decide ((s.length:Int)<=(sd:Int))=false:=by simp;omega
       have e3':decide (s.length<=sd)=false:=by simp;omega
       rw [hv] at y1;clear hg;obtain ⟨bS,offS,rfl,-,-⟩:=hI 0 s3;obtain ⟨bT,offT,rfl,-,-⟩:=ha 0 t3;have Hy:=(Sh.right_mul hf).2.2.2.1 s[sd] (gmZ hS);have hi:sd<t.length:=by omega
       have Hx:=(Sh.right_mul ho).2.2.2.1 (t[sd]'hi) (gmZ hi);have hH:Od.joinL s t (sd:Int)=s.set sd (s[sd]+t[sd]'hi):=by unfold Od.joinL Od.at_;rw [tnZ,qa3 hS,qa3 hi]
       have h6:∀m (h:m<s.length),wr.cell? ⟨bS,offS+m,none⟩=some (.int .i64 s[m]):=λm h=>by
        obtain ⟨b,o,e,-,hc⟩:=hI m h;injection e with e;injection e with e1 e2;subst e1 e2
        rw [hc,qa3 h]
       have h8:∀m (h:m<t.length),wr.cell? ⟨bT,offT+m,none⟩=some (.int .i64 t[m]):=λm h=>by
        obtain ⟨b,o,e,-,hc⟩:=ha m h;injection e with e;injection e with e1 e2;subst e1 e2
        rw [hc,qa3 h]
       have hJ:=λm (hm:m<s.length)=>@qf5 s t (sd:Int) m hm
       obtain ⟨HI,h9,hO,h0,h7,h2,hV,hB,Hi⟩:=zd9 hI hA ha hf ho hD hs hp hu;obtain ⟨Hs,Ha,Hh,Hd,h3⟩:=zd5 hv hH h6 h8 hJ;clear hI hA ha hf ho hD hs hp hu hv hH h6 h8 hJ;go_wp2_with fail;obtain ⟨wo,rfl⟩:∃wo,wo=wr:=⟨wr,rfl⟩
       go_loopw [8] (λi wx=>∃m q:Nat,m<=s.length/\i=.int .i64 (m:Int)/\qeK s t (sd:Int) m/\wx=wo.drewN q) (λi _=>s.length-(intOf i).toNat)
       case atStart=>exact ⟨0,0,Zt _,rfl,λj hj=>by omega,rfl⟩
       case round=>
        obtain ⟨m,q,hm,rfl,hC,rfl⟩:=hrel
        by_cases hT:m<s.length
        ·have hz:m<t.length:=by have:=Hs.out;omega
         have z1:=Hh.out m hT;have z2:=Hd.out m hz;have m0:(0:Int)<=(m:Int):=by omega
         have m1:(m:Int)<(s.length:Int):=by omega
         by_cases hE:m=sd
         ·have e4:((m:Int) != (sd:Int))=false:=by simp [hE]
          have e4':(m != sd)=false:=by simp [hE]
          have HT:=zI (show qeK s t (sd:Int) (m+1) from λj hj=>by
           by_cases e:j=m
           ·left;omega
           ·exact hC j oZ)
          clear hC hE;go_wp2_with fail
          go_quiet (fail)
          go_wp2_with fail;go_roundw
          case rel=>exact ⟨m+1,_,by omega,by go_num,HT.out,by first|rfl|exact World.drewN_drewN _ _ _⟩
          case measure=>simp [intOf];omega
         ·have e4:((m:Int) != (sd:Int))=true:=by rw [bne_iff_ne];omega
          have e4':(m != sd)=true:=by rw [bne_iff_ne];exact hE
          by_cases hG:s[m]=t[m]
          ·have e5:(s[m] != t[m])=false:=by simp [hG]
           have HT:=zI (show qeK s t (sd:Int) (m+1) from λj hj=>by
            by_cases e:j=m
            ·right;subst e;rw [qa3 hT,qa3 hz,hG]
            ·exact hC j oZ)
           clear hC hE hG;generalize s[m]=x at *;generalize t[m]=y at *;go_wp2_with fail
           go_quiet (fail)
           go_wp2_with fail;go_roundw
           case rel=>exact ⟨m+1,_,by omega,by go_num,HT.out,by first|rfl|exact World.drewN_drewN _ _ _⟩
           case measure=>simp [intOf];omega
          ·have e5:(s[m] != t[m])=true:=by simp [hG]
           have He:=h3.out m hT oZ (by rw [qa3 hT,qa3 hz];exact hG);have hj:Od.join s t (sd:Int)=([],20):=by rw [hB.out,He];simp
           have HQ:=zI (hK.out.trans (hV.out (by rw [hj];simp)));have HJ:=zI hj;clear hC hE hG He hj;generalize s[m]=x at *;generalize t[m]=y at *;go_wp2_with fail
           go_quiet (fail)
           go_wp2_with fail
           go_ret2
           exact ⟨none,0,by rw [HQ.out,HJ.out];rfl,by rw [HQ.out];exact Ints.nil,by rw [HQ.out];exact lrZ _,by omega,by first|exact qa6 hq _|(rw [World.drewN_drewN];exact qa6 hq _)⟩
        ·obtain rfl:m=s.length:=by omega
         have hN:=qf4 hC;have z1:=Hh.out sd hS;have z2:=Hd.out sd hi;have Hg:=HI.out.drewN q;have m0:(0:Int)<=(sd:Int):=by omega
         have m1:(sd:Int)<(s.length:Int):=by omega
         have hH:=Ha.out;have hp:=hB.out;rw [hN,Bool.true_and,hH] at hp;have hD:=h2.out;have hs:=hV.out;generalize s[sd]=x at *;generalize t[sd]=y at *;have ww:IntKind.i64.wrap (x+y)=x+y:=Zc1 _ oZ;clear hC hN;obtain ⟨Hj,Ha,hB,h2,hV⟩:=zd5 Hg hH hp hD hs;clear Hg hH hp hD hs;go_upto_region 16 with fail
         go_region_held3 (λw'=>w'.cell? ⟨bS,offS+sd,none⟩=some (.int .i64 x)/\w'.cell? ⟨b0,off0+(k+1),none⟩=some (.slice (some ⟨bT,offT,none⟩) s.length ct)/\w'.cell? ⟨bT,offT+sd,none⟩=some (.int .i64 y)) (first|go_keep|(exact ⟨qa1 hw z1,qa1 hw y1,qa1 hw z2⟩))
          ((go_at_call 160;refine (qc1 _ _ s sd (x+y) _ oZ (by exact Hj.out) hS).mono ?_;rintro e w9 ⟨g,rfl,hU,Hv,hw⟩))
         have hM:=hq.trans ((show Below wo.heap.size wo w9 from ⟨hw.os,hw.tape,hw.output,hw.size,hw.block⟩).mono hq.size);have hP:(s.set sd (x+y)).length=s.length:=List.length_set;obtain ⟨s',hs'⟩:∃s',s.set sd (x+y)=s':=⟨_,rfl⟩
         have hp:=hB.out;rw [hs'] at hU hP hp;have hn:=qaH (some ⟨g,0,none⟩) s.length s' w9 oZ hU;rw [hP] at hn;obtain ⟨hL,Ho,Hb,hB⟩:=zd4 hn hU hP hp;have HA:=zI hs';clear hn hU hP hp hs';go_wp2_with fail;refine (hL.out).mono ?_;rintro e w10 ⟨rfl,rfl⟩
         by_cases hy:Sh.right s'=true
         ·have hj:=hB.out
          rw [if_pos hy] at hj;have HS:=zI (h2.out (by rw [hj]));have HJ:=zI hj;have HR:=zI hy;rw [hy];clear hj hy z1 z2 y1;go_wp2_with fail;go_roundw
          case rel=>exact ⟨k+1,some ⟨g,0,none⟩,s.length,s',by omega,by go_num,by rw [Hb.out],Ho.out,by have:=Hb.out;omega,by omega,HR.out,by rw [HS.out,HJ.out],hM⟩
          case measure=>simp [intOf];omega
         ·have hj:=hB.out
          rw [if_neg hy] at hj;have HQ:=zI (hK.out.trans (hV.out (by rw [hj];simp)));have HJ:=zI hj;have Hf:Sh.right s'=false:=by simpa using hy
          rw [Hf];clear hj hy Hf z1 z2 y1;go_wp2_with fail
          go_ret2
          exact ⟨none,0,by rw [HQ.out,HJ.out];rfl,by rw [HQ.out];exact Ints.nil,by rw [HQ.out];exact lrZ _,by omega,hM⟩
    ·obtain rfl:k=l.length:=by omega
     rw [Zg] at hu;have HQ:=zI (hK.out.trans hu);have k1:¬((l.length:Int)+1)<(xs.length:Int):=by omega
     obtain ⟨HI,Hi,h0⟩:=zd3 hI hu hf;clear hI hu hf;go_wp2_with fail
     go_ret2
     exact ⟨S,d,by rw [HQ.out];rfl,by rw [HQ.out];exact HI.out,by rw [HQ.out];exact Ht,Hp,hq⟩
theorem Shps.each {w:Zp1} {b off:Nat} {xs:List (List Int)} (h:Shps w (some ⟨b,off,none⟩) xs) {k:Nat} (hk:k<xs.length):
  ∃S c,w.cell? ⟨b,off+k,none⟩=some (.slice S xs[k].length c)/\Ints .i64 w S xs[k]/\xs[k].length<=c/\c<=9223372036854775807:=by
 obtain ⟨b',o',S,c,e,-,hc,hI,h1,h2⟩:=h k hk;injection e with e
 injection e with e1 e2
 subst e1 e2;exact ⟨S,c,hc,hI,h1,h2⟩
theorem Ints.at_ {k:IntKind} {w:Zp1} {b off:Nat} {zs:List Int} (h:Ints k w (some ⟨b,off,none⟩) zs) {j:Nat} (hj:j<zs.length):w.cell? ⟨b,off+j,none⟩=some (.int k zs[j]):=by
 obtain ⟨b',o',e,-,hc⟩:=h j hj;injection e with e
 injection e with e1 e2
 subst e1 e2;rw [hc,qa3 hj]
theorem RefP.err {r:List Int × Int} {w w':Zp1} {n:Int} (h:r=([],n)) (hb:Below w.heap.size w w'):RefP r w (.returned (.tuple #[.slice none 0 0,.int .i64 n])) w':=
 ⟨none,0,by rw [h];rfl,by rw [h];exact Ints.nil,by rw [h];exact lrZ _,by omega,hb⟩
theorem RefP.ok {r:List Int × Int} {w w':Zp1} {S:Option Addr} {s:List Int} {c n:Nat} (h:r=(s,0)) (hn:s.length=n) (hI:Ints .i64 w' S s) (h1:s.length<=c) (h2:c<=9223372036854775807) (hb:Below w.heap.size w w'):RefP r w (.returned (.tuple #[.slice S n c,.int .i64 0])) w':=by
 subst hn;exact ⟨S,c,by rw [h],by rw [h];exact hI,by rw [h];exact h1,h2,hb⟩
theorem qdj {B:Nat} {a w:Zp1} (h:Below B a w) (n m:Nat):Below B a ((w.drewN n).drewN m):=qa6 (qa6 h n) m
theorem list_two {l:List Int} (h:l.length=2):∃a b,l=[a,b]:=by
 match l,h with
 | [a,b],_=>exact ⟨a,b,rfl⟩
theorem qfV {l:List Int} (h:l.length=1):∃x,l=[x]:=by
 match l,h with
 | [x],_=>exact ⟨x,rfl⟩
set_option maxRecDepth 20000 in
theorem qcL (o:OpD) (S P X:Option Addr) (c d f:Nat) (p x:List (List Int)) (w:Zp1) (hk:o.kind<=7) (ho:o.s.length<=1099511627776) (hsc:o.s.length<=c) (hsm:c<=9223372036854775807) (hw:o.wide) (hS:Ints .i64 w S o.s) (hP:Shps w P p) (hX:Shps w X x) (hxl:x.length<=1048576) (h1:1<=x.length) (hp:∀s∈p,Sh.right s=true) (hx:∀s∈x,Sh.right s=true):
  Calls Tryz.prog 149 #[.agg #[.int .i64 o.kind,.int .i64 o.k,.int .i64 o.width,.int .i64 o.step,.int .i64 o.side,.int .i64 o.frm,.int .i64 o.to,.slice S o.s.length c],.slice P p.length d,.slice X x.length f] w (RefP (Od.byKind o p x) w):=by
 have hq:Od.byKind o p x=Od.same x:=by unfold Od.byKind;rw [if_neg oZ,if_neg oZ,if_neg oZ,if_neg oZ,if_neg oZ,if_neg oZ,if_neg oZ]
 obtain ⟨bx,ox,S0,c0,rfl,-⟩:=hX 0 h1;have hb:Below w.heap.size w (w.alloc (.cells #[.int .i64 o.kind,.int .i64 o.k,.int .i64 o.width,.int .i64 o.step,.int .i64 o.side,.int .i64 o.frm,.int .i64 o.to,.slice S o.s.length c] 87)):=(Ze1 _ _).alloc (lrZ _) _;have hf:=Blk.new w 87 #[.int .i64 o.kind,.int .i64 o.k,.int .i64 o.width,.int .i64 o.step,.int .i64 o.side,.int .i64 o.frm,.int .i64 o.to,.slice S o.s.length c];obtain ⟨z0,z1,z2,z3,z4,z5,z6,z7⟩:=qai hf;have hd:=hX.below hb (lrZ _);have hv:=hP.below hb (lrZ _);have hm:=hS.below hb (lrZ _);have hc:=hx x[0] (gmZ h1);have hh:x.getD 0 []=x[0]:=qa7 h1
 first|rw [hh] at hq|skip
 have e1:decide (o.kind<=7)=true:=by simpa using hk
 clear hk;obtain ⟨hL,HX,HP,HS,Hp,Hx⟩:=zd6 hf hX hP hS hp hx;clear hf hX hP hS hp hx;go_enter Tryz.func149,Tryz.ntmps149;go_upto_region 1 with fail;generalize (w.alloc (.cells #[.int .i64 o.kind,.int .i64 o.k,.int .i64 o.width,.int .i64 o.step,.int .i64 o.side,.int .i64 o.frm,.int .i64 o.to,.slice S o.s.length c] 87))=w1 at *;obtain ⟨S0',c0',y0,hn,hB,hC⟩:=hd.each h1;rw [Zx] at y0;clear S0;generalize hs0:x[0]=s0 at *;have hr:=(Sh.right_mul hc).2.2.2.1;obtain ⟨s3,s4⟩:=qa5 hc;obtain ⟨hD,hM,hR,hl,hE,Hq,hz,hK,hO⟩:=zd9 hd hv hm hn hc hq hh hs0 hr;have Hw:=zI hw;clear hd hv hm hn hc hq hh hs0 hr hw;go_wp2_with fail;refine (qan S0' c0' s0 w1 hE.out hl.out).mono ?_;rintro e w2 ⟨rfl,rfl⟩;go_wp2_with fail
 go_loopw [10] (λi wx=>∃k q:Nat,k<=x.length/\i=.int .i64 (k:Int)/\(∀j (hj:j<x.length),j<k->x[j]=s0)/\wx=w1.drewN q) (λi _=>x.length-(intOf i).toNat)
 case atStart=>exact ⟨0,0,Zt _,rfl,λj hj h=>by omega,rfl⟩
 case round=>
  obtain ⟨k,q,hk,rfl,ha,rfl⟩:=hrel
  by_cases hi:k<x.length
  ·obtain ⟨Sk,ck,yk,hs,hJ,hN⟩:=hD.out.each hi
   have k0:(0:Int)<=(k:Int):=by omega
   have k1:(k:Int)<(x.length:Int):=by omega
   have hu:x[k]=s0->∀j (hj:j<x.length),j<k+1->x[j]=s0:=λe j hj hQ=>by
    by_cases h:j=k
    ·subst h;exact e
    ·exact ha j hj oZ
   have hy:x[k]≠s0->Od.same x=([],20):=λe=>by
    unfold Od.same;rw [if_neg];rw [Zf];intro h;have:=h x[k] (gmZ hi);rw [hz.out] at this;exact e (by simpa using this)
   have hg:=Hx.out x[k] (gmZ hi);obtain ⟨a3,a4⟩:=qa5 hg;generalize x[k]=t at *;obtain ⟨hG,hH,hA,hF,hI⟩:=zd5 hs ha hu hy hg;clear hs ha hu hy hg;go_wp2_with fail;refine (qbp Sk S0' ck c0' t s0 _ oZ oZ (hG.out.drewN q) (hl.out.drewN q)).mono ?_;rintro e w3 ⟨rfl,q2,rfl⟩
   by_cases he:t=s0
   ·have e1:decide (t=s0)=true:=by simpa using he
    have HG:=zI (hA.out he);rw [e1];clear he e1;go_wp2_with fail;go_roundw
    case rel=>exact ⟨k+1,_,by omega,by go_num,HG.out,by first|rfl|exact World.drewN_drewN _ _ _⟩
    case measure=>simp [intOf];omega
   ·have e1:decide (t=s0)=false:=by simpa using he
    have HN:=zI (Hq.out.trans (hF.out he));rw [e1];clear he e1;go_wp2_with fail
    go_ret2
    exact RefP.err HN.out (by first|exact qdj hb _ _|exact qa6 hb _)
  ·obtain rfl:k=x.length:=by omega
   have HN:=zI (Hq.out.trans (show Od.same x=(s0,0) by
    unfold Od.same;rw [hz.out,if_pos];rw [Zf];intro t ht;obtain ⟨j,hj,rfl⟩:=List.getElem_of_mem ht;simpa using ha j hj hj))
   clear ha;go_wp2_with fail
   go_ret2
   exact RefP.ok HN.out rfl (hl.out.drewN q) hB hC (by first|exact qdj hb _ _|exact qa6 hb _)
set_option maxRecDepth 20000 in
theorem qc2 (o:OpD) (S P X:Option Addr) (c d f:Nat) (p x:List (List Int)) (w:Zp1) (hk:o.kind=9) (hpl:p.length=1) (ho:o.s.length<=1099511627776) (hsc:o.s.length<=c) (hsm:c<=9223372036854775807) (hw:o.wide) (hS:Ints .i64 w S o.s) (hP:Shps w P p) (hX:Shps w X x) (hxl:x.length<=1048576) (h1:1<=x.length) (hp:∀s∈p,Sh.right s=true) (hx:∀s∈x,Sh.right s=true):
  Calls Tryz.prog 149 #[.agg #[.int .i64 o.kind,.int .i64 o.k,.int .i64 o.width,.int .i64 o.step,.int .i64 o.side,.int .i64 o.frm,.int .i64 o.to,.slice S o.s.length c],.slice P p.length d,.slice X x.length f] w (RefP (Od.byKind o p x) w):=by
 have hq:Od.byKind o p x=Od.same [p.getD 0 [],x.getD 0 []]:=by unfold Od.byKind;simp [hk]
 obtain ⟨bx,ox,S0,c0,rfl,-⟩:=hX 0 h1;obtain ⟨bp,op,T0,d0,rfl,-⟩:=hP 0 oZ;have ha:Below w.heap.size w (w.alloc (.cells #[.int .i64 o.kind,.int .i64 o.k,.int .i64 o.width,.int .i64 o.step,.int .i64 o.side,.int .i64 o.frm,.int .i64 o.to,.slice S o.s.length c] 87)):=(Ze1 _ _).alloc (lrZ _) _;have hh:=Blk.new w 87 #[.int .i64 o.kind,.int .i64 o.k,.int .i64 o.width,.int .i64 o.step,.int .i64 o.side,.int .i64 o.frm,.int .i64 o.to,.slice S o.s.length c];obtain ⟨z0,z1,z2,z3,z4,z5,z6,z7⟩:=qai hh;have hd:=hX.below ha (lrZ _);have hg:=hP.below ha (lrZ _);have hl:=hS.below ha (lrZ _);have hb:=hx x[0] (gmZ h1);have hi:x.getD 0 []=x[0]:=qa7 h1
 first|rw [hi] at hq|skip
 have hc:=hp p[0] (gmZ oZ);have hf:p.getD 0 []=p[0]:=qa7 oZ
 first|rw [hf] at hq|skip
 have l7:decide (o.kind<=7)=false:=by simp;omega
 have e8:(o.kind==8)=false:=by simp;omega
 have e9:(o.kind==9)=true:=by simp;omega
 clear hk;obtain ⟨hz,HX,HP,HS,Hp,Hx⟩:=zd6 hh hX hP hS hp hx;clear hh hX hP hS hp hx;go_enter Tryz.func149,Tryz.ntmps149;go_upto_region 1 with fail;generalize (w.alloc (.cells #[.int .i64 o.kind,.int .i64 o.k,.int .i64 o.width,.int .i64 o.step,.int .i64 o.side,.int .i64 o.frm,.int .i64 o.to,.slice S o.s.length c] 87))=w1 at *;obtain ⟨S0',c0',y0,hm,hs,ht⟩:=hd.each h1;rw [Zx] at y0;obtain ⟨T0',d0',v0,hr,hC,hB⟩:=hg.each (show 0<p.length by omega);rw [Zx] at v0;clear T0;clear S0;generalize hs0:x[0]=s0 at *;generalize hsp:p[0]=t0 at *;obtain ⟨q3,q4⟩:=qa5 hc;have hn:=(Sh.right_mul hb).2.2.2.1;obtain ⟨s3,s4⟩:=qa5 hb;obtain ⟨hA,hD,hJ,hj,hu,Hq,hF,hy,hI⟩:=zd9 hd hg hl hm hb hq hi hs0 hn;obtain ⟨Hw,hv,hG,hH,hE⟩:=zd5 hw hr hc hf hsp;clear hd hg hl hm hb hq hi hs0 hn hw hr hc hf hsp;go_wp2_with fail;refine (qan S0' c0' s0 w1 hu.out hj.out).mono ?_;rintro e w2 ⟨rfl,rfl⟩;go_wp2_with fail;refine (qbp T0' S0' d0' c0' t0 s0 _ oZ oZ hv.out hj.out).mono ?_;rintro e w3 ⟨rfl,q2,rfl⟩
 by_cases he:t0=s0
 ·have e1:decide (t0=s0)=true:=by simpa using he
  have HN:=zI (Hq.out.trans (show Od.same [t0,s0]=(s0,0) by simp [Od.same,he]));rw [e1];clear he e1;go_wp2_with fail
  go_ret2
  exact RefP.ok HN.out rfl (hj.out.drewN q2) hs ht (qa6 ha _)
 ·have e1:decide (t0=s0)=false:=by simpa using he
  have HN:=zI (Hq.out.trans (show Od.same [t0,s0]=([],20) by
   unfold Od.same;rw [if_neg];simp;intro e;exact he e.symm))
  rw [e1];clear he e1;go_wp2_with fail
  go_ret2
  exact RefP.err HN.out (qa6 ha _)
set_option maxRecDepth 20000 in
theorem qcg (o:OpD) (S P X:Option Addr) (c d f:Nat) (p x:List (List Int)) (w:Zp1) (hk:o.kind=13) (ho:o.s.length<=1099511627776) (hsc:o.s.length<=c) (hsm:c<=9223372036854775807) (hw:o.wide) (hS:Ints .i64 w S o.s) (hP:Shps w P p) (hX:Shps w X x) (hxl:x.length<=1048576) (h1:1<=x.length) (hp:∀s∈p,Sh.right s=true) (hx:∀s∈x,Sh.right s=true):
  Calls Tryz.prog 149 #[.agg #[.int .i64 o.kind,.int .i64 o.k,.int .i64 o.width,.int .i64 o.step,.int .i64 o.side,.int .i64 o.frm,.int .i64 o.to,.slice S o.s.length c],.slice P p.length d,.slice X x.length f] w (RefP (Od.byKind o p x) w):=by
 have hq:Od.byKind o p x=Od.joined o.side x:=by unfold Od.byKind;simp [hk]
 obtain ⟨bx,ox,S0,c0,rfl,-⟩:=hX 0 h1;have ha:Below w.heap.size w (w.alloc (.cells #[.int .i64 o.kind,.int .i64 o.k,.int .i64 o.width,.int .i64 o.step,.int .i64 o.side,.int .i64 o.frm,.int .i64 o.to,.slice S o.s.length c] 87)):=(Ze1 _ _).alloc (lrZ _) _;have hc:=Blk.new w 87 #[.int .i64 o.kind,.int .i64 o.k,.int .i64 o.width,.int .i64 o.step,.int .i64 o.side,.int .i64 o.frm,.int .i64 o.to,.slice S o.s.length c];obtain ⟨z0,z1,z2,z3,z4,z5,z6,z7⟩:=qai hc;have he:=hX.below ha (lrZ _);have hn:=hP.below ha (lrZ _);have hh:=hS.below ha (lrZ _);have hb:=hx x[0] (gmZ h1);have hg:x.getD 0 []=x[0]:=qa7 h1
 first|rw [hg] at hq|skip
 have l7:decide (o.kind<=7)=false:=by simp;omega
 have l12:decide (o.kind<=12)=false:=by simp;omega
 have e8:(o.kind==8)=false:=by simp;omega
 have e9:(o.kind==9)=false:=by simp;omega
 have e10:(o.kind==10)=false:=by simp;omega
 have e13:(o.kind==13)=true:=by simp;omega
 clear hk;obtain ⟨hG,HX,HP,HS,Hp,Hx⟩:=zd6 hc hX hP hS hp hx;clear hc hX hP hS hp hx;go_enter Tryz.func149,Tryz.ntmps149;go_upto_region 1 with fail;generalize (w.alloc (.cells #[.int .i64 o.kind,.int .i64 o.k,.int .i64 o.width,.int .i64 o.step,.int .i64 o.side,.int .i64 o.frm,.int .i64 o.to,.slice S o.s.length c] 87))=w1 at *;obtain ⟨S0',c0',y0,hi,hD,hE⟩:=he.each h1;rw [Zx] at y0;clear S0;generalize hs0:x[0]=s0 at *;have hj:=(Sh.right_mul hb).2.2.2.1;obtain ⟨s3,s4⟩:=qa5 hb;obtain ⟨hv,hA,hH,hr,hz,Hq,hB,hF,hC⟩:=zd9 he hn hh hi hb hq hg hs0 hj;have Hw:=zI hw;clear he hn hh hi hb hq hg hs0 hj hw;go_wp2_with fail;refine (qan S0' c0' s0 w1 hz.out hr.out).mono ?_;rintro e w2 ⟨rfl,rfl⟩;go_wp2_with fail;refine (qdV o.side (some ⟨bx,ox,none⟩) f x _ hv.out hxl h1 Hx.out).mono ?_;rintro e w3 ⟨S9,c9,rfl,hm,hy,hs,hu⟩;have hf:=ha.trans (hu.mono ha.size);have hl:=Hq.out;generalize Od.joined o.side x=r at *;obtain ⟨ht,hd⟩:=zd2 hm hl;clear hm hl;go_wp2_with fail
 go_ret2
 exact ⟨S9,c9,by rw [hd.out];rfl,by rw [hd.out];exact ht.out,by rw [hd.out];exact hy,hs,hf⟩
set_option maxRecDepth 20000 in
theorem qch (o:OpD) (S P X:Option Addr) (c d f:Nat) (p x:List (List Int)) (w:Zp1) (hk:o.kind=15) (ho:o.s.length<=1099511627776) (hsc:o.s.length<=c) (hsm:c<=9223372036854775807) (hw:o.wide) (hS:Ints .i64 w S o.s) (hP:Shps w P p) (hX:Shps w X x) (hxl:x.length<=1048576) (h1:1<=x.length) (hp:∀s∈p,Sh.right s=true) (hx:∀s∈x,Sh.right s=true):
  Calls Tryz.prog 149 #[.agg #[.int .i64 o.kind,.int .i64 o.k,.int .i64 o.width,.int .i64 o.step,.int .i64 o.side,.int .i64 o.frm,.int .i64 o.to,.slice S o.s.length c],.slice P p.length d,.slice X x.length f] w (RefP (Od.byKind o p x) w):=by
 have hq:Od.byKind o p x=Od.turned (x.getD 0 []) o.s:=by unfold Od.byKind;simp [hk]
 obtain ⟨bx,ox,S0,c0,rfl,-⟩:=hX 0 h1;have ha:Below w.heap.size w (w.alloc (.cells #[.int .i64 o.kind,.int .i64 o.k,.int .i64 o.width,.int .i64 o.step,.int .i64 o.side,.int .i64 o.frm,.int .i64 o.to,.slice S o.s.length c] 87)):=(Ze1 _ _).alloc (lrZ _) _;have hc:=Blk.new w 87 #[.int .i64 o.kind,.int .i64 o.k,.int .i64 o.width,.int .i64 o.step,.int .i64 o.side,.int .i64 o.frm,.int .i64 o.to,.slice S o.s.length c];obtain ⟨z0,z1,z2,z3,z4,z5,z6,z7⟩:=qai hc;have hd:=hX.below ha (lrZ _);have hs:=hP.below ha (lrZ _);have hi:=hS.below ha (lrZ _);have hb:=hx x[0] (gmZ h1);have hf:x.getD 0 []=x[0]:=qa7 h1
 first|rw [hf] at hq|skip
 have l7:decide (o.kind<=7)=false:=by simp;omega
 have l12:decide (o.kind<=12)=false:=by simp;omega
 have e8:(o.kind==8)=false:=by simp;omega
 have e9:(o.kind==9)=false:=by simp;omega
 have e10:(o.kind==10)=false:=by simp;omega
 have e13:(o.kind==13)=false:=by simp;omega
 have e14:(o.kind==14)=false:=by simp;omega
 clear hk;obtain ⟨hD,HX,HP,HS,Hp,Hx⟩:=zd6 hc hX hP hS hp hx;clear hc hX hP hS hp hx;go_enter Tryz.func149,Tryz.ntmps149;go_upto_region 1 with fail;generalize (w.alloc (.cells #[.int .i64 o.kind,.int .i64 o.k,.int .i64 o.width,.int .i64 o.step,.int .i64 o.side,.int .i64 o.frm,.int .i64 o.to,.slice S o.s.length c] 87))=w1 at *;obtain ⟨S0',c0',y0,hj,hA,hB⟩:=hd.each h1;rw [Zx] at y0;clear S0;generalize hs0:x[0]=s0 at *;have hl:=(Sh.right_mul hb).2.2.2.1;obtain ⟨s3,s4⟩:=qa5 hb;obtain ⟨hE,hv,hh,ht,hm,Hq,hy,hC,hz⟩:=zd9 hd hs hi hj hb hq hf hs0 hl;have Hw:=zI hw;clear hd hs hi hj hb hq hf hs0 hl hw;go_wp2_with fail;refine (qan S0' c0' s0 w1 hm.out ht.out).mono ?_;rintro e w2 ⟨rfl,rfl⟩;go_wp2_with fail;refine (qaH S c o.s _ oZ hh.out).mono ?_;rintro e w3 ⟨rfl,rfl⟩
 by_cases hr:Sh.right o.s=true
 ·rw [hr]
  have hn:=Hq.out;unfold Od.turned at hn;rw [hm.out,hr,Bool.true_and,Bool.true_and] at hn;obtain ⟨hu,HN⟩:=zd2 hr hn;clear hr hn;go_wp2_with fail;refine (qan S c o.s _ hu.out hh.out).mono ?_;rintro e w3 ⟨rfl,rfl⟩
  by_cases he:Safe.prod o.s=Safe.prod s0
  ·have e1:(Safe.prod o.s != Safe.prod s0)=false:=by simp [he]
   have HM:=zI (HN.out.trans (if_pos (decide_eq_true he)));clear he;go_wp2_with fail
   go_ret2
   exact RefP.ok HM.out rfl hh.out hsc hsm ha
  ·have e1:(Safe.prod o.s != Safe.prod s0)=true:=by simp [he]
   have HM:=zI (HN.out.trans (if_neg (by simpa using he)));clear he;go_wp2_with fail
   go_ret2
   exact RefP.err HM.out ha
 ·have hg:Sh.right o.s=false:=by simpa using hr
  rw [hg];have HM:=zI (Hq.out.trans (show Od.turned s0 o.s=([],20) by unfold Od.turned;rw [hg];simp));clear hr hg;go_wp2_with fail
  go_ret2
  exact RefP.err HM.out ha
set_option maxRecDepth 20000 in
theorem qci (o:OpD) (S P X:Option Addr) (c d f:Nat) (p x:List (List Int)) (w:Zp1) (hk:o.kind=11∨o.kind=12) (ho:o.s.length<=1099511627776) (hsc:o.s.length<=c) (hsm:c<=9223372036854775807) (hw:o.wide) (hS:Ints .i64 w S o.s) (hP:Shps w P p) (hX:Shps w X x) (hxl:x.length<=1048576) (h1:1<=x.length) (hp:∀s∈p,Sh.right s=true) (hx:∀s∈x,Sh.right s=true):
  Calls Tryz.prog 149 #[.agg #[.int .i64 o.kind,.int .i64 o.k,.int .i64 o.width,.int .i64 o.step,.int .i64 o.side,.int .i64 o.frm,.int .i64 o.to,.slice S o.s.length c],.slice P p.length d,.slice X x.length f] w (RefP (Od.byKind o p x) w):=by
 have hq:Od.byKind o p x=Od.pool (x.getD 0 []) o.width o.step:=by unfold Od.byKind;rw [if_neg oZ,if_neg oZ,if_neg oZ,if_pos hk]
 obtain ⟨bx,ox,S0,c0,rfl,-⟩:=hX 0 h1;have hf:Below w.heap.size w (w.alloc (.cells #[.int .i64 o.kind,.int .i64 o.k,.int .i64 o.width,.int .i64 o.step,.int .i64 o.side,.int .i64 o.frm,.int .i64 o.to,.slice S o.s.length c] 87)):=(Ze1 _ _).alloc (lrZ _) _;have hs:=Blk.new w 87 #[.int .i64 o.kind,.int .i64 o.k,.int .i64 o.width,.int .i64 o.step,.int .i64 o.side,.int .i64 o.frm,.int .i64 o.to,.slice S o.s.length c];obtain ⟨z0,z1,z2,z3,z4,z5,z6,z7⟩:=qai hs;have hr:=hX.below hf (lrZ _);have hF:=hP.below hf (lrZ _);have hA:=hS.below hf (lrZ _);have hm:=hx x[0] (gmZ h1);have hv:x.getD 0 []=x[0]:=qa7 h1
 first|rw [hv] at hq|skip
 have l7:decide (o.kind<=7)=false:=by simp;omega
 have e8:(o.kind==8)=false:=by simp;omega
 have e9:(o.kind==9)=false:=by simp;omega
 have e10:(o.kind==10)=false:=by simp;omega
 have l12:decide (o.kind<=12)=true:=by simp;omega
 clear hk;obtain ⟨hW,HX,HP,HS,Hp,Hx⟩:=zd6 hs hX hP hS hp hx;clear hs hX hP hS hp hx;go_enter Tryz.func149,Tryz.ntmps149;go_upto_region 1 with fail;generalize (w.alloc (.cells #[.int .i64 o.kind,.int .i64 o.k,.int .i64 o.width,.int .i64 o.step,.int .i64 o.side,.int .i64 o.frm,.int .i64 o.to,.slice S o.s.length c] 87))=w1 at *;obtain ⟨S0',c0',y0,hB,hT,hU⟩:=hr.each h1;rw [Zx] at y0;clear S0;generalize hs0:x[0]=s0 at *;have hC:=(Sh.right_mul hm).2.2.2.1;obtain ⟨s3,s4⟩:=qa5 hm;obtain ⟨hY,hZ,h3,hn,hE,Hq,h0,hV,hO⟩:=zd9 hr hF hA hB hm hq hv hs0 hC;have Hw:=zI hw;clear hr hF hA hB hm hq hv hs0 hC hw;go_wp2_with fail;refine (qan S0' c0' s0 w1 hE.out hn.out).mono ?_;rintro e w2 ⟨rfl,rfl⟩;have hj:s0.length-1<s0.length:=by omega
 have ha:=Hq.out;unfold Od.pool at ha;rw [if_pos hE.out,qa3 hj] at ha;obtain ⟨bs,os,rfl,-,-⟩:=hn.out 0 s3;have g0:=hn.out.at_ hj;have h2:=hO.out _ (gmZ hj);have i1:IntKind.i64.wrap ((s0.length:Int)-1)=((s0.length-1:Nat):Int):=by rw [Zc1 _ oZ];omega
 have i2:(0:Int)<=((s0.length-1:Nat):Int):=by omega
 have i3:((s0.length-1:Nat):Int)<(s0.length:Int):=by omega
 have hd:=λn:Nat=>qcb s0[s0.length-1] o.width o.step (w1.drewN n)
 have hH:=@Od.window_ok s0[s0.length-1] o.width o.step;have hi:=@Od.window_err s0[s0.length-1] o.width o.step;generalize s0[s0.length-1]=z at *;have he:∀v,(s0.set (s0.length-1) v).length=s0.length:=λv=>List.length_set
 have hc:=λ(n:Nat) (v:Int)=>qc1 (some ⟨bs,os,none⟩) c0' s0 (s0.length-1) v (w1.drewN n) oZ (hn.out.drewN n) hj
 obtain ⟨l,hl⟩:∃l:Nat,s0.length-1=l:=⟨_,rfl⟩
 have hI:(s0.length:Int)-1=(l:Int):=by omega
 rw [hl] at g0 i1 i2 i3 hc ha he;have i4:l<s0.length:=by omega
 obtain ⟨hg,hh,hN,hy,ht,Hl,h4⟩:=zd7 ha hd hH hi he hl hI;clear ha hd hH hi he hl hI;have hJ:=zI hc;clear hc hj;go_wp2_with fail
 go_quiet ((go_at_call 159;exact qaB (hh.out _)))
 rename_i nq;generalize hwv:Od.window z o.width o.step=wv at *
 by_cases hz:wv.2=0
 ·have hb:=hN.out hz
  have e1:(wv.1==0)=false:=by simp;omega
  have HN:=zI (hg.out.trans (if_pos hz));have HC:=zI (hJ.out nq wv.1);clear hz hb;have hQ:=zI hwv;clear hwv;go_wp2_with fail;refine (HC.out).mono ?_;rintro e w3 ⟨g,rfl,hD,hR,hL⟩;have hu:=(qa6 hf nq).trans (hL.mono hf.size);have hG:=ht.out wv.1;generalize s0.set l wv.1=s9 at *;obtain ⟨hK,hM⟩:=zd2 hD hG;clear hD hG;go_wp2_with fail
  go_ret2
  exact RefP.ok HN.out rfl hK.out (lrZ _) (by have:=hM.out;omega) hu
 ·have hb:=hy.out hz
  have e1:(wv.1==0)=true:=by rw [hb];rfl
  have HN:=zI (hg.out.trans (if_neg hz));clear hz hb;have hQ:=zI hwv;clear hwv;go_wp2_with fail
  go_ret2
  exact RefP.err HN.out (qa6 hf _)
set_option maxRecDepth 20000 in
theorem qcx (o:OpD) (S P X:Option Addr) (c d f:Nat) (p x:List (List Int)) (w:Zp1) (hk:o.kind=14) (ho:o.s.length<=1099511627776) (hsc:o.s.length<=c) (hsm:c<=9223372036854775807) (hw:o.wide) (hS:Ints .i64 w S o.s) (hP:Shps w P p) (hX:Shps w X x) (hxl:x.length<=1048576) (h1:1<=x.length) (hp:∀s∈p,Sh.right s=true) (hx:∀s∈x,Sh.right s=true):
  Calls Tryz.prog 149 #[.agg #[.int .i64 o.kind,.int .i64 o.k,.int .i64 o.width,.int .i64 o.step,.int .i64 o.side,.int .i64 o.frm,.int .i64 o.to,.slice S o.s.length c],.slice P p.length d,.slice X x.length f] w (RefP (Od.byKind o p x) w):=by
 have hq:Od.byKind o p x=Od.cut (x.getD 0 []) o.side o.frm o.to:=by unfold Od.byKind;simp [hk]
 obtain ⟨bx,ox,S0,c0,rfl,-⟩:=hX 0 h1;have ha:Below w.heap.size w (w.alloc (.cells #[.int .i64 o.kind,.int .i64 o.k,.int .i64 o.width,.int .i64 o.step,.int .i64 o.side,.int .i64 o.frm,.int .i64 o.to,.slice S o.s.length c] 87)):=(Ze1 _ _).alloc (lrZ _) _;have hh:=Blk.new w 87 #[.int .i64 o.kind,.int .i64 o.k,.int .i64 o.width,.int .i64 o.step,.int .i64 o.side,.int .i64 o.frm,.int .i64 o.to,.slice S o.s.length c];obtain ⟨z0,z1,z2,z3,z4,z5,z6,z7⟩:=qai hh;have hg:=hX.below ha (lrZ _);have hv:=hP.below ha (lrZ _);have hm:=hS.below ha (lrZ _);have hd:=hx x[0] (gmZ h1);have hl:x.getD 0 []=x[0]:=qa7 h1
 first|rw [hl] at hq|skip
 have l7:decide (o.kind<=7)=false:=by simp;omega
 have l12:decide (o.kind<=12)=false:=by simp;omega
 have e8:(o.kind==8)=false:=by simp;omega
 have e9:(o.kind==9)=false:=by simp;omega
 have e10:(o.kind==10)=false:=by simp;omega
 have e13:(o.kind==13)=false:=by simp;omega
 have e14:(o.kind==14)=true:=by simp;omega
 clear hk;obtain ⟨hK,HX,HP,HS,Hp,Hx⟩:=zd6 hh hX hP hS hp hx;clear hh hX hP hS hp hx;go_enter Tryz.func149,Tryz.ntmps149;go_upto_region 1 with fail;generalize (w.alloc (.cells #[.int .i64 o.kind,.int .i64 o.k,.int .i64 o.width,.int .i64 o.step,.int .i64 o.side,.int .i64 o.frm,.int .i64 o.to,.slice S o.s.length c] 87))=w1 at *;obtain ⟨S0',c0',y0,hn,hG,hH⟩:=hg.each h1;rw [Zx] at y0;clear S0;generalize hs0:x[0]=s0 at *;have hr:=(Sh.right_mul hd).2.2.2.1;obtain ⟨s3,s4⟩:=qa5 hd;obtain ⟨hL,hN,hQ,he,hu,Hq,hO,hI,hE⟩:=zd9 hg hv hm hn hd hq hl hs0 hr;have Hw:=zI hw;clear hg hv hm hn hd hq hl hs0 hr hw;go_wp2_with fail;refine (qan S0' c0' s0 w1 hu.out he.out).mono ?_;rintro e w2 ⟨rfl,rfl⟩;have hcut:=Hq.out;unfold Od.cut at hcut;rw [if_pos hu.out] at hcut
 by_cases a1:o.side<0
 ·have d1:decide (o.side<0)=true:=by simpa using a1
  have HN:=zI (hcut.trans (if_neg (by simp [Od.inR];omega)));clear hcut;go_wp2_with fail
  go_quiet (fail)
  go_wp2_with fail
  go_ret2
  exact RefP.err HN.out (qa6 ha _)
 ·have d1:decide (o.side<0)=false:=by simpa using a1
  by_cases a2:(s0.length:Int)<=o.side
  ·have d2:decide ((s0.length:Int)<=o.side)=true:=by simpa using a2
   have HN:=zI (hcut.trans (if_neg (by simp [Od.inR];omega)));clear hcut;go_wp2_with fail
   go_quiet (fail)
   go_wp2_with fail
   go_ret2
   exact RefP.err HN.out (qa6 ha _)
  ·have d2:decide ((s0.length:Int)<=o.side)=false:=by simpa using a2
   obtain ⟨sd,hsd⟩:∃sd:Nat,o.side=(sd:Int):=⟨o.side.toNat,by omega⟩
   have hf:sd<s0.length:=by omega
   have hs:Od.inR o.side s0=true:=by simp [Od.inR];omega
   have hy:Od.at_ s0 o.side=s0[sd]:=by unfold Od.at_;rw [hsd,tnZ,qa3 hf]
   rw [hs,Bool.true_and,hy] at hcut;have hJ:=hE.out _ (gmZ hf);obtain ⟨bs,os,rfl,-,-⟩:=he.out 0 s3;have g0:=he.out.at_ hf;have hb:=λ(n:Nat) (v:Int)=>qc1 (some ⟨bs,os,none⟩) c0' s0 sd v (w1.drewN n) oZ (he.out.drewN n) hf
   have hc:∀v,(s0.set sd v).length=s0.length:=λv=>List.length_set
   have i1:(sd:Int)<(s0.length:Int):=by omega
   have d2':decide (s0.length<=sd)=false:=by simp;omega
   rw [hsd] at z4 d1 d2 hcut;generalize s0[sd]=z at *;rw [hsd];rw [tnZ] at hcut;clear a1 a2 hs hy;obtain ⟨hA,hi,hM⟩:=zd3 hb hc hsd;clear hc hsd;clear hb
   by_cases a3:o.frm<0
   ·have d3:decide (o.frm<0)=true:=by simpa using a3
    have HN:=zI (hcut.trans (if_neg soZ));clear hcut a3;go_wp2_with fail
    go_quiet (fail)
    go_wp2_with fail
    go_ret2
    exact RefP.err HN.out (qa6 ha _)
   ·have d3:decide (o.frm<0)=false:=by simpa using a3
    by_cases a4:z<o.to
    ·have d4:decide (z<o.to)=true:=by simpa using a4
     have HN:=zI (hcut.trans (if_neg soZ));clear hcut a3 a4;go_wp2_with fail
     go_quiet (fail)
     go_wp2_with fail
     go_ret2
     exact RefP.err HN.out (qa6 ha _)
    ·have d4:decide (z<o.to)=false:=by simpa using a4
     by_cases a5:o.to<=o.frm
     ·have d5:decide (o.to<=o.frm)=true:=by simpa using a5
      have HN:=zI (hcut.trans (if_neg soZ));clear hcut a3 a4 a5;go_wp2_with fail
      go_quiet (fail)
      go_wp2_with fail
      go_ret2
      exact RefP.err HN.out (qa6 ha _)
     ·have d5:decide (o.to<=o.frm)=false:=by simpa using a5
      have HN:=zI (hcut.trans (if_pos soZ));have ww:IntKind.i64.wrap (o.to-o.frm)=o.to-o.frm:=Zc1 _ oZ;clear hcut;go_wp2_with fail
      go_quiet (fail)
      rename_i nq;clear d1 d2 d2' d3 d4 d5;go_wp2_with fail;refine (hA.out nq (o.to-o.frm)).mono ?_;rintro e w3 ⟨g,rfl,ht,hF,hC⟩;have hj:=(qa6 ha nq).trans (hC.mono ha.size);have hz:=hi.out (o.to-o.frm);generalize s0.set sd (o.to-o.frm)=s9 at *;obtain ⟨hB,hD⟩:=zd2 ht hz;clear ht hz;go_wp2_with fail
      go_ret2
      exact RefP.ok HN.out rfl hB.out (lrZ _) (by have:=hD.out;omega) hj
set_option maxRecDepth 20000 in
theorem qc3 (o:OpD) (S P X:Option Addr) (c d f:Nat) (p x:List (List Int)) (w:Zp1) (hk:o.kind=8) (hpl:p.length=2) (ho:o.s.length<=1099511627776) (hsc:o.s.length<=c) (hsm:c<=9223372036854775807) (hw:o.wide) (hS:Ints .i64 w S o.s) (hP:Shps w P p) (hX:Shps w X x) (hxl:x.length<=1048576) (h1:1<=x.length) (hp:∀s∈p,Sh.right s=true) (hx:∀s∈x,Sh.right s=true):
  Calls Tryz.prog 149 #[.agg #[.int .i64 o.kind,.int .i64 o.k,.int .i64 o.width,.int .i64 o.step,.int .i64 o.side,.int .i64 o.frm,.int .i64 o.to,.slice S o.s.length c],.slice P p.length d,.slice X x.length f] w (RefP (Od.byKind o p x) w):=by
 have hq:Od.byKind o p x=Od.dense (p.getD 0 []) (p.getD 1 []) (x.getD 0 []):=by unfold Od.byKind;simp [hk]
 obtain ⟨bx,ox,S0,c0,rfl,-⟩:=hX 0 h1;obtain ⟨bp,op,T0,d0,rfl,-⟩:=hP 0 oZ;have hf:Below w.heap.size w (w.alloc (.cells #[.int .i64 o.kind,.int .i64 o.k,.int .i64 o.width,.int .i64 o.step,.int .i64 o.side,.int .i64 o.frm,.int .i64 o.to,.slice S o.s.length c] 87)):=(Ze1 _ _).alloc (lrZ _) _;have hy:=Blk.new w 87 #[.int .i64 o.kind,.int .i64 o.k,.int .i64 o.width,.int .i64 o.step,.int .i64 o.side,.int .i64 o.frm,.int .i64 o.to,.slice S o.s.length c];obtain ⟨z0,z1,z2,z3,z4,z5,z6,z7⟩:=qai hy;have ht:=hX.below hf (lrZ _);have hv:=hP.below hf (lrZ _);have hB:=hS.below hf (lrZ _);have hn:=hx x[0] (gmZ h1);have hA:x.getD 0 []=x[0]:=qa7 h1
 first|rw [hA] at hq|skip
 have hr:=hp p[0] (gmZ oZ);have hu:p.getD 0 []=p[0]:=qa7 oZ
 first|rw [hu] at hq|skip
 have l7:decide (o.kind<=7)=false:=by simp;omega
 have e8:(o.kind==8)=true:=by simp;omega
 clear hk;obtain ⟨hZ,HX,HP,HS,Hp,Hx⟩:=zd6 hy hX hP hS hp hx;clear hy hX hP hS hp hx;go_enter Tryz.func149,Tryz.ntmps149;go_upto_region 1 with fail;generalize (w.alloc (.cells #[.int .i64 o.kind,.int .i64 o.k,.int .i64 o.width,.int .i64 o.step,.int .i64 o.side,.int .i64 o.frm,.int .i64 o.to,.slice S o.s.length c] 87))=w1 at *;obtain ⟨S0',c0',y0,hC,hT,hU⟩:=ht.each h1;rw [Zx] at y0;obtain ⟨T0',d0',v0,hL,hH,hN⟩:=hv.each (show 0<p.length by omega);rw [Zx] at v0;clear T0;clear S0;generalize hs0:x[0]=s0 at *;generalize hsp:p[0]=t0 at *;obtain ⟨q3,q4⟩:=qa5 hr;have hD:=(Sh.right_mul hn).2.2.2.1;obtain ⟨s3,s4⟩:=qa5 hn;obtain ⟨h0,hO,Ha,hR,hI,Hq,h6,hY,h9⟩:=zd9 ht hv hB hC hn hq hA hs0 hD;obtain ⟨Hw,hz,h7,h8,h5⟩:=zd5 hw hL hr hu hsp;clear ht hv hB hC hn hq hA hs0 hD hw hL hr hu hsp;go_wp2_with fail;refine (qan S0' c0' s0 w1 hI.out hR.out).mono ?_;rintro e w2 ⟨rfl,rfl⟩;obtain ⟨T1,d1,v1,hg,hV,h4⟩:=hO.out.each (show 1<p.length by omega);have hb:=Hp.out p[1] (gmZ oZ);have he:p.getD 1 []=p[1]:=qa7 oZ;have hd:=Hq.out;rw [he] at hd;generalize hsp1:p[1]=t1 at *;obtain ⟨q5,q6⟩:=qa5 hb;obtain ⟨bt,ot,rfl,-,-⟩:=hz.out 0 q3;unfold Od.dense at hd
 by_cases hh:t0.length=2
 rotate_left
 ·have f1:((t0.length:Int) != 2)=true:=by rw [bne_iff_ne];omega
  have f2:(t0.length != 2)=true:=by rw [bne_iff_ne];omega
  have HN:=zI (hd.trans (if_neg (by intro h;exact hh h.1)));obtain ⟨hF,hi,hE,hm⟩:=zd4 hg hb he hsp1;clear hg hb he hsp1;clear hd hh;go_wp2_with fail
  go_quiet (fail)
  go_wp2_with fail
  go_ret2
  exact RefP.err HN.out (qa6 hf _)
 ·obtain ⟨a,b,rfl⟩:=list_two hh
  have g1:=hz.out.at_ (show 1<[a,b].length by simp);have g1:w1.cell? ⟨bt,ot+1,none⟩=some (.int .i64 b):=g1
  have hl:Ints .i64 w1 (some ⟨bt,ot,none⟩) [a]:=Ints.of_row λj hj=>by
   have hQ:j=0:=by simp at hj;exact hj
   subst hQ;exact hz.out.at_ (show 0<[a,b].length by simp)
  have hW:(1:Int)<=(d0':Int):=by simp at hH;omega
  have ha:=λn:Nat=>qbp T1 (some ⟨bt,ot,none⟩) d1 d0' t1 [a] (w1.drewN n) oZ sZ (hg.drewN n) (hl.drewN n)
  have f1:((2:Int) != 2)=false:=rfl;have v0':w1.cell? ⟨bp,op,none⟩=some (.slice (some ⟨bt,ot,none⟩) 2 d0'):=v0;have hM:(1:Int)<(p.length:Int):=by omega
  clear v0 hH q3 q4
  by_cases hs:t1=[a]
  ·rw [decide_eq_true hs] at ha
   have hG:Od.byKind o p x=if Safe.prod s0=b then ([a],0) else ([],20):=by
    rw [hd]
    by_cases e:Safe.prod s0=b
    ·rw [if_pos e,if_pos ⟨rfl,by rw [hs];rfl,by rw [hs];rfl,hI.out,e⟩];rfl
    ·rw [if_neg e,if_neg];rintro ⟨_,_,_,_,h⟩;exact e h
   obtain ⟨hF,hi,hE,hm,hc,hJ,hK⟩:=zd7 hg hb he hsp1 ha hl hG;clear hg hb he hsp1 ha hl hG;clear hd hh hs
   by_cases e:Safe.prod s0=b
   ·have f3:(b != Safe.prod s0)=false:=by simp [e]
    have HN:=zI (hK.out.trans (if_pos e));clear e;go_wp2_with fail
    go_quiet ((go_at_call 31;exact qbC (hc.out _)))
    go_wp2_with fail
    go_ret2
    exact RefP.ok HN.out rfl (hJ.out.drewN _) soZ hN (qa6 hf _)
   ·have f3:(b != Safe.prod s0)=true:=by rw [bne_iff_ne];exact λh=>e h.symm
    have HN:=zI (hK.out.trans (if_neg e));clear e;go_wp2_with fail
    go_quiet ((go_at_call 31;exact qbC (hc.out _)))
    go_wp2_with fail
    go_ret2
    exact RefP.err HN.out (qa6 hf _)
  ·rw [decide_eq_false hs] at ha
   have HN:=zI (hd.trans (if_neg (by
    rintro ⟨_,h2,h3,_⟩;obtain ⟨z,rfl⟩:=qfV h2;exact hs (by simp at h3;rw [h3]))))
   obtain ⟨hF,hi,hE,hm,hc,hJ⟩:=zd6 hg hb he hsp1 ha hl;clear hg hb he hsp1 ha hl;clear hd hh hs;go_wp2_with fail
   go_quiet ((go_at_call 31;exact qbC (hc.out _)))
   go_wp2_with fail
   go_ret2
   exact RefP.err HN.out (qa6 hf _)
set_option maxRecDepth 20000 in
theorem qcj (o:OpD) (S P X:Option Addr) (c d f:Nat) (p x:List (List Int)) (w:Zp1) (hk:o.kind=10) (hpl:p.length=1) (ho:o.s.length<=1099511627776) (hsc:o.s.length<=c) (hsm:c<=9223372036854775807) (hw:o.wide) (hS:Ints .i64 w S o.s) (hP:Shps w P p) (hX:Shps w X x) (hxl:x.length<=1048576) (h1:1<=x.length) (hp:∀s∈p,Sh.right s=true) (hx:∀s∈x,Sh.right s=true):
  Calls Tryz.prog 149 #[.agg #[.int .i64 o.kind,.int .i64 o.k,.int .i64 o.width,.int .i64 o.step,.int .i64 o.side,.int .i64 o.frm,.int .i64 o.to,.slice S o.s.length c],.slice P p.length d,.slice X x.length f] w (RefP (Od.byKind o p x) w):=by
 have hq:Od.byKind o p x=Od.conv (p.getD 0 []) (x.getD 0 []) o.step:=by unfold Od.byKind;simp [hk]
 obtain ⟨bx,ox,S0,c0,rfl,-⟩:=hX 0 h1;obtain ⟨bp,op,T0,d0,rfl,-⟩:=hP 0 oZ;have hd:Below w.heap.size w (w.alloc (.cells #[.int .i64 o.kind,.int .i64 o.k,.int .i64 o.width,.int .i64 o.step,.int .i64 o.side,.int .i64 o.frm,.int .i64 o.to,.slice S o.s.length c] 87)):=(Ze1 _ _).alloc (lrZ _) _;have hJ:=Blk.new w 87 #[.int .i64 o.kind,.int .i64 o.k,.int .i64 o.width,.int .i64 o.step,.int .i64 o.side,.int .i64 o.frm,.int .i64 o.to,.slice S o.s.length c];obtain ⟨z0,z1,z2,z3,z4,z5,z6,z7⟩:=qai hJ;have hH:=hX.below hd (lrZ _);have hN:=hP.below hd (lrZ _);have hU:=hS.below hd (lrZ _);have hE:=hx x[0] (gmZ h1);have hO:x.getD 0 []=x[0]:=qa7 h1
 first|rw [hO] at hq|skip
 have hL:=hp p[0] (gmZ oZ);have hI:p.getD 0 []=p[0]:=qa7 oZ
 first|rw [hI] at hq|skip
 have l7:decide (o.kind<=7)=false:=by simp;omega
 have e8:(o.kind==8)=false:=by simp;omega
 have e9:(o.kind==9)=false:=by simp;omega
 have e10:(o.kind==10)=true:=by simp;omega
 clear hk;obtain ⟨HA,HX,HP,HS,Hp,Hx⟩:=zd6 hJ hX hP hS hp hx;clear hJ hX hP hS hp hx;go_enter Tryz.func149,Tryz.ntmps149;go_upto_region 1 with fail;generalize (w.alloc (.cells #[.int .i64 o.kind,.int .i64 o.k,.int .i64 o.width,.int .i64 o.step,.int .i64 o.side,.int .i64 o.frm,.int .i64 o.to,.slice S o.s.length c] 87))=w1 at *;obtain ⟨S0',c0',y0,h9,HG,HH⟩:=hH.each h1;rw [Zx] at y0;obtain ⟨T0',d0',v0,h7,HJ,HC⟩:=hN.each (show 0<p.length by omega);rw [Zx] at v0;clear T0;clear S0;generalize hs0:x[0]=s0 at *;generalize hsp:p[0]=t0 at *;obtain ⟨q3,q4⟩:=qa5 hL;have Ha:=(Sh.right_mul hE).2.2.2.1;obtain ⟨s3,s4⟩:=qa5 hE;obtain ⟨HI,HK,HF,hD,h2,Hq,HL,HB,HE⟩:=zd9 hH hN hU h9 hE hq hO hs0 Ha;obtain ⟨Hw,hF,Hr,HM,HD⟩:=zd5 hw h7 hL hI hsp;clear hH hN hU h9 hE hq hO hs0 Ha hw h7 hL hI hsp;go_wp2_with fail;refine (qan S0' c0' s0 w1 h2.out hD.out).mono ?_;rintro e w2 ⟨rfl,rfl⟩;have hc:=Hq.out;unfold Od.conv at hc;rw [Hr.out,h2.out,Bool.true_and,Bool.true_and] at hc;obtain ⟨i0,hi,Hv,Hh,Hn⟩:=info_parts qbj;obtain ⟨bs,os,rfl,-,-⟩:=hD.out 0 s3;obtain ⟨bt,ot,rfl,-,-⟩:=hF.out 0 q3;have g0:=hD.out.at_ s3;have g2:=hF.out.at_ q3;rw [Zx] at g0 g2;have hC:s0.getD 0 0=s0[0]:=qa3 s3;have hB:t0.getD 0 0=t0[0]:=qa3 q3
 by_cases a1:t0.length=s0.length+1
 rotate_left
 ·have f1:((t0.length:Int) != (s0.length:Int)+1)=true:=by rw [bne_iff_ne];omega
  have HN:=zI (hc.trans (if_neg soZ));clear hc a1 hC hB g0 g2;go_wp2_with fail
  go_quiet (fail)
  go_wp2_with fail
  go_ret2
  exact RefP.err HN.out (qa6 hd _)
 ·have f1:((t0.length:Int) != (s0.length:Int)+1)=false:=by simp;omega
  by_cases a2:s0.length<2
  ·have f2:decide ((s0.length:Int)<2)=true:=by simp;omega
   have HN:=zI (hc.trans (if_neg soZ));clear hc a1 hC hB g0 g2;go_wp2_with fail
   go_quiet (fail)
   go_wp2_with fail
   go_ret2
   exact RefP.err HN.out (qa6 hd _)
  ·have f2:decide ((s0.length:Int)<2)=false:=by simp;omega
   by_cases a3:3<s0.length
   ·have f3:decide ((3:Int)<(s0.length:Int))=true:=by simp;omega
    have HN:=zI (hc.trans (if_neg soZ));clear hc a1 hC hB g0 g2;go_wp2_with fail
    go_quiet (fail)
    go_wp2_with fail
    go_ret2
    exact RefP.err HN.out (qa6 hd _)
   ·have f3:decide ((3:Int)<(s0.length:Int))=false:=by simp;omega
    have Hb:1<t0.length:=by omega
    have g1:=hF.out.at_ Hb;have j1:(1:Int)<(t0.length:Int):=by omega
    rw [hC,qa3 Hb] at hc
    by_cases a4:t0[1]=s0[0]
    rotate_left
    ·have f4:(t0[1] != s0[0])=true:=by simp [a4]
     have HN:=zI (hc.trans (if_neg (by simp;intro _ _ _;exact a4)));generalize t0[1]=tb at *;generalize s0[0]=sa at *;clear hc a1 hC hB a4 g2;go_wp2_with fail
     go_quiet (fail)
     go_wp2_with fail
     go_ret2
     exact RefP.err HN.out (qa6 hd _)
    ·have f4:(t0[1] != s0[0])=false:=by simp [a4]
     rw [if_pos soZ] at hc;have Hj:=zI a1;generalize t0[1]=tb at *;generalize s0[0]=sa at *;generalize t0[0]=ta at *;clear a4 a1 hC;obtain ⟨hZ,Hs⟩:=zd2 hc hB;clear hc hB;have z3':w1.cell? ⟨w.heap.size,3,none⟩=some (.int .i64 o.step):=z3;go_wp2_with fail
     go_quiet (fail)
     rename_i nq;clear f1 f2 f3 f4 g0 g1 z0 z1 z2 z3 z4 z5 z6 z7;go_wp2_with fail;clear g2 y0 v0;have h0:Below w1.heap.size w1 (w1.drewN nq):=qa6 (Ze1 _ _) nq;have hM:=Blk.new (w1.drewN nq) 3 #[.int .i64 ta];have hY:Below w1.heap.size w1 ((w1.drewN nq).alloc (.cells #[.int .i64 ta] 3)):=h0.alloc (lrZ _) _
     have hn:((w1.drewN nq).alloc (.cells #[.int .i64 ta] 3)).ownsRow w1.heap.size 3 1 (.slice (some ⟨w1.heap.size,0,none⟩) 1 1) 1 ((Od.outs t0 s0 o.step 0).map (Za1 .i64)):=qeV (by
      have:Od.outs t0 s0 o.step 0=[ta]:=by simp only [Od.outs,Hs.out];rfl
      rw [this];exact hM) (lrZ _) (by simp [Od.outs]) (by unfold maxLen;omega)
     obtain ⟨Hg,hl⟩:=zd2 hM hn;clear hM hn
     go_loopw [12,13] (λv i wx=>∃k:Nat,k<=s0.length-1/\i=.int .i64 ((k:Int)+1)/\wx.ownsRow w1.heap.size 3 1 v (k+1) ((Od.outs t0 s0 o.step k).map (Za1 .i64))/\(∀j,j<k->(Od.wn t0 s0 o.step j).2=0)/\Below w1.heap.size w1 wx) (λ_ i _=>s0.length-(intOf i).toNat)
     case atStart=>exact ⟨0,Zt _,rfl,hl.out,λj hj=>by omega,hY⟩
     case round=>
      obtain ⟨k,hk,rfl,hown,he,hr⟩:=hrel;clear hl Hg hY h0;obtain ⟨Ao,co,rfl⟩:=qaj hown
      by_cases h6:k+1<s0.length
      ·have Hd:k+2<t0.length:=by have:=Hj.out;omega
       have m1:=qa1 hr (hD.out.at_ h6);have m2:=qa1 hr (hF.out.at_ Hd);have m3:=qa1 hr z3';have hG:Od.wn t0 s0 o.step k=Od.window s0[k+1] t0[k+2] o.step:=by unfold Od.wn;rw [qa3 h6,qa3 Hd]
       have ha:=λn:Nat=>qcb s0[k+1] t0[k+2] o.step (wr.drewN n)
       rw [←hG] at ha;have hK:=@Od.window_ok s0[k+1] t0[k+2] o.step;have hv:=@Od.window_err s0[k+1] t0[k+2] o.step;rw [←hG] at hK hv;have i1:IntKind.i64.wrap ((k:Int)+1+1)=((k+2:Nat):Int):=by rw [Zc1 _ oZ];omega
       have i2:((k:Int)+1)<(s0.length:Int):=by omega
       have i3:((k+2:Nat):Int)<(t0.length:Int):=by omega
       have i4:(0:Int)<=(k:Int)+1:=by omega
       have i5:((k:Int)+1).toNat=k+1:=by omega
       have i6:(0:Int)<=((k+2:Nat):Int):=by omega
       have hg:Od.outs t0 s0 o.step (k+1)=Od.outs t0 s0 o.step k++[(Od.wn t0 s0 o.step k).1]:=by simp [Od.outs,List.range_succ]
       have hm:(Od.outs t0 s0 o.step k).length=k+1:=by simp [Od.outs]
       have h3:(Od.wn t0 s0 o.step k).2=0->∀j,j<k+1->(Od.wn t0 s0 o.step j).2=0:=λe j hj=>by
        by_cases h:j=k
        ·subst h;exact e
        ·exact he j oZ
       have He:(Od.wn t0 s0 o.step k).2≠0->Od.byKind o p x=([],11):=λe=>by
        rw [hZ.out,if_neg];rw [Zf];intro h;have:=h k (List.mem_range.2 oZ);exact e (by simpa using this)
       generalize s0[k+1]=sk at *;generalize t0[k+2]=tk at *;generalize Od.wn t0 s0 o.step k=wv at *;obtain ⟨HO,hf,Hl,hQ,ht,h8,Hy,Ht,hT⟩:=zd9 hG ha hK hv hg hm h3 He he;have hy:=zI hown;clear hG ha hK hv hg hm h3 He he hown;go_wp2_with fail
       go_quiet ((go_at_call 159;exact qaB (hf.out _)))
       clear m1 m2 m3 i1 i3 i6
       by_cases hz:wv.2=0
       ·have hb:=Hl.out hz
        have e1:(wv.1==0)=false:=by simp;omega
        have Hf:=zI (Hy.out hz);have ho:=qaz (qag (w':=wr.drewN nq) hy.out (λg _=>rfl)) (.cells #[.int .i64 wv.1] 3);have hh:=((qa6 hr nq).alloc hr.size (.cells #[.int .i64 wv.1] 3))
        have hV:∀b,(Zb1 Ao (k+1) co).ownBlock=some b->w1.heap.size<=b:=λb hb=>(hy.out.lt b hb).1
        clear hz hb;have h5:=zI hV;clear hV;go_wp2_with (at_builtin;refine wpList_append_own_at _ rfl _ _ 23 rfl w1.heap.size 3 i0 (.int .i64 0) 1 8 Tryz.underlying23 hi Hv Hh Hn rfl dZ _ _ _ rfl ho ⟨wr.heap.size,0,none⟩ 1 1 [.int .i64 wv.1] rfl rfl ?c1 (by intro u hu;simp at hu;subst hu;rfl) (by unfold maxLen;omega) oZ ?c2 ?_)
        case c1=>exact qbB (wr.drewN nq) _ _
        case c2=>exact hh.size
        intro v' w3 hs hgrow _ Hz;have Hu:Below w1.heap.size w1 w3:=hh.grown hgrow hh.size (λb hb=>h5.out b hb);have Hm:=zI (show w3.ownsRow w1.heap.size 3 1 v' (k+1+1) ((Od.outs t0 s0 o.step (k+1)).map (Za1 .i64)) by rw [ht.out];simpa using hs);clear hs hgrow Hz ho hh h5;go_wp2_with fail;go_roundw
        case rel=>exact ⟨k+1,by omega,by go_num,Hm.out,Hf.out,Hu⟩
        case measure=>simp [intOf];omega
       ·have hb:=hQ.out hz
        have e1:(wv.1==0)=true:=by rw [hb];rfl
        have HN:=zI (Ht.out hz);clear hz hb;go_wp2_with fail
        go_ret2
        exact RefP.err HN.out (qa6 (hd.trans (hr.mono hd.size)) _)
      ·obtain rfl:k=s0.length-1:=by omega
       have i2:¬((s0.length-1:Nat):Int)+1<(s0.length:Int):=by omega
       have hm:(Od.outs t0 s0 o.step (s0.length-1)).length=s0.length-1+1:=by simp [Od.outs]
       have Hc:Od.byKind o p x=if Sh.right (Od.outs t0 s0 o.step (s0.length-1))=true then (Od.outs t0 s0 o.step (s0.length-1),0) else ([],20):=by
        rw [hZ.out,if_pos];rw [Zf];intro j hj;simpa using he j (List.mem_range.1 hj)
       generalize Od.outs t0 s0 o.step (s0.length-1)=os9 at *;generalize s0.length-1=m at *;rw [←hm] at hown;obtain ⟨hR,Hk,Ho⟩:=qbn (by rw [hm] at hown ⊢;exact hown);have ha:=qaH Ao co os9 wr oZ hR;rw [hm] at ha;obtain ⟨hy,hT,h8,h4,Hi,hf⟩:=zd6 hown he hm Hc hR ha;clear hown he hm Hc hR ha;go_wp2_with fail;refine (hf.out).mono ?_;rintro e w9 ⟨rfl,rfl⟩
       by_cases hA:Sh.right os9=true
       ·have HN:=zI (h4.out.trans (if_pos hA))
        rw [hA];clear hA;go_wp2_with fail
        go_ret2
        exact RefP.ok HN.out h8.out Hi.out Hk Ho (hd.trans (hr.mono hd.size))
       ·have HN:=zI (h4.out.trans (if_neg hA))
        have hW:Sh.right os9=false:=by simpa using hA
        rw [hW];clear hA hW;go_wp2_with fail
        go_ret2
        exact RefP.err HN.out (hd.trans (hr.mono hd.size))
theorem qel (o:OpD) (S P X:Option Addr) (c d f:Nat) (p x:List (List Int)) (w:Zp1) (hr:Od.right o=true) (hcnt:Od.counts o p.length x.length=0) (ho:o.s.length<=1099511627776) (hsc:o.s.length<=c) (hsm:c<=9223372036854775807) (hw:o.wide) (hS:Ints .i64 w S o.s) (hP:Shps w P p) (hX:Shps w X x) (hp:∀s∈p,Sh.right s=true) (hx:∀s∈x,Sh.right s=true):
  Calls Tryz.prog 149 #[.agg #[.int .i64 o.kind,.int .i64 o.k,.int .i64 o.width,.int .i64 o.step,.int .i64 o.side,.int .i64 o.frm,.int .i64 o.to,.slice S o.s.length c],.slice P p.length d,.slice X x.length f] w (RefP (Od.byKind o p x) w):=by
 have hk:=Od.right_kind hr;obtain ⟨-,c1,c2,c3⟩:=Od.counts_ok hcnt;have c4:=Od.least_pos hr;have c5:=Od.most_le hr;have hb:Od.params o=if o.kind=8 then 2 else if o.kind=9∨o.kind=10 then 1 else 0:=by unfold Od.params;rw [if_pos hr]
 have h1:1<=x.length:=by omega
 have ha:x.length<=1048576:=by omega
 by_cases k7:o.kind<=7
 ·exact qcL o S P X c d f p x w k7 ho hsc hsm hw hS hP hX ha h1 hp hx
 ·have hh:o.kind=8∨o.kind=9∨o.kind=10∨(o.kind=11∨o.kind=12)∨o.kind=13∨o.kind=14∨o.kind=15:=by omega
  rcases hh with k|k|k|k|k|k|k
  ·exact qc3 o S P X c d f p x w k (by rw [hb,if_pos k] at c3;omega) ho hsc hsm hw hS hP hX ha h1 hp hx
  ·exact qc2 o S P X c d f p x w k (by rw [hb,if_neg oZ,if_pos oZ] at c3;omega) ho hsc hsm hw hS hP hX ha h1 hp hx
  ·exact qcj o S P X c d f p x w k (by rw [hb,if_neg oZ,if_pos oZ] at c3;omega) ho hsc hsm hw hS hP hX ha h1 hp hx
  ·exact qci o S P X c d f p x w k ho hsc hsm hw hS hP hX ha h1 hp hx
  ·exact qcg o S P X c d f p x w k ho hsc hsm hw hS hP hX ha h1 hp hx
  ·exact qcx o S P X c d f p x w k ho hsc hsm hw hS hP hX ha h1 hp hx
  ·exact qch o S P X c d f p x w k ho hsc hsm hw hS hP hX ha h1 hp hx
theorem qcc {W:Zp1} {g:Nat} {t:TypeId} {v:NodeD} {S J Q:Option Addr} {c ic qc:Nat} (h:Blk W g t #[.int .i64 v.op.kind,.int .i64 v.op.k,.int .i64 v.op.width,.int .i64 v.op.step,.int .i64 v.op.side,.int .i64 v.op.frm,.int .i64 v.op.to,.slice S v.op.s.length c,.slice J v.ins.length ic,.slice Q v.p.length qc]):
  W.cell? ⟨g,0,none⟩=some (.int .i64 v.op.kind)/\W.cell? ⟨g,1,none⟩=some (.int .i64 v.op.k)/\W.cell? ⟨g,2,none⟩=some (.int .i64 v.op.width)/\W.cell? ⟨g,3,none⟩=some (.int .i64 v.op.step)/\W.cell? ⟨g,4,none⟩=some (.int .i64 v.op.side)/\W.cell? ⟨g,5,none⟩=some (.int .i64 v.op.frm)/\W.cell? ⟨g,6,none⟩=some (.int .i64 v.op.to)/\W.cell? ⟨g,7,none⟩=some (.slice S v.op.s.length c)/\W.cell? ⟨g,8,none⟩=some (.slice J v.ins.length ic)/\W.cell? ⟨g,9,none⟩=some (.slice Q v.p.length qc):=
 ⟨h.cell 0,h.cell 1,h.cell 2,h.cell 3,h.cell 4,h.cell 5,h.cell 6,h.cell 7,h.cell 8,h.cell 9⟩
def RowOf (w:Zp1) (vs:List Value) (ss:List (List Int)):Prop:=
 vs.length=ss.length/\∀j (hj:j<ss.length),∃S c,vs[j]? = some (.slice S ss[j].length c)/\Ints .i64 w S ss[j]/\ss[j].length<=c/\c<=9223372036854775807
theorem RowOf.nil (w:Zp1):RowOf w [] []:=⟨rfl,λj hj=>absurd hj sZ⟩
theorem RowOf.push {w:Zp1} {vs:List Value} {ss:List (List Int)} {S:Option Addr} {s:List Int} {c:Nat} (h:RowOf w vs ss) (hI:Ints .i64 w S s) (h1:s.length<=c) (h2:c<=9223372036854775807):RowOf w (vs++[.slice S s.length c]) (ss++[s]):=by
 refine ⟨by simp [h.1],λj hj=>?_⟩;simp at hj
 by_cases e:j<ss.length
 ·obtain ⟨S',c',e1,e2⟩:=h.2 j e
  refine ⟨S',c',?_,?_⟩
  ·rw [Zm (by rw [h.1];exact e),e1];simp [e]
  ·simpa [e] using e2
 ·obtain rfl:j=ss.length:=by omega
  refine ⟨S,c,?_,?_⟩
  ·rw [Zl (by have:=h.1;omega)];simp [h.1]
  ·simp;exact ⟨hI,h1,h2⟩
theorem RowOf.below {w w':Zp1} {vs:List Value} {ss:List (List Int)} {B:Nat} (h:RowOf w vs ss) (hb:Below B w w') (hB:w.heap.size<=B):RowOf w' vs ss:=
 ⟨h.1,λj hj=>by obtain ⟨S,c,e1,e2,e3⟩:=h.2 j hj;exact ⟨S,c,e1,e2.below hb hB,e3⟩⟩
theorem RowOf.shps {w w':Zp1} {vs:List Value} {ss:List (List Int)} {B n:Nat} {t:TypeId} {v:Value} (h:RowOf w vs ss) (hown:w'.ownsRow B t 1 v n vs) (hb:Below w.heap.size w w'):
  ∃A c,v=.slice A ss.length c/\n=ss.length/\Shps w' A ss/\ss.length<=c/\c<=9223372036854775807:=by
 have hn:n=ss.length:=by have:=hown.1;have:=h.1;omega
 subst hn;rcases hown.2 with ⟨rfl,h0⟩|⟨g,cap,cur,rfl,hB,hh,r1,r2,r3,r4⟩
 ·have:ss=[]:=List.eq_nil_of_length_eq_zero h0
  subst this;exact ⟨none,0,rfl,rfl,Shps.nil,by simp,by omega⟩
 ·refine ⟨_,cap,rfl,rfl,λj hj=>?_,r1,by unfold maxLen at r2;omega⟩
  obtain ⟨S,c,e1,e2,e3⟩:=h.2 j hj;refine ⟨g,0,S,c,rfl,lt_of_block hh,?_,e2.below hb (lrZ _),e3⟩;rw [Zw,hown.cellAt j oZ];exact e1
theorem qc4:(Tryz.prog.info? 23).map (λi=>(i.zero,i.size,i.bytes))=some (some (.slice none 0 0),1,24):=by kernel_rfl
theorem qfW (sh:List (List Int)) (l:List Int) {k:Nat} (hk:k<l.length):Nt.pick sh (l.take (k+1))=Nt.pick sh (l.take k)++[sh.getD l[k].toNat []]:=by
 unfold Nt.pick;rw [Zb hk,List.map_append]
 rfl
set_option maxRecDepth 20000 in
theorem qem (v:NodeD) (S J Q:Option Addr) (c ic qc g gc:Nat) (sh:List (List Int)) (w:Zp1) (hok:v.ok) (hr:Od.right v.op=true) (hsc:v.op.s.length<=c) (hsm:c<=9223372036854775807) (hS:Ints .i64 w S v.op.s) (hJ:Ints .i64 w J v.ins) (hQ:Shps w Q v.p) (hX:Shps w (some ⟨g,0,none⟩) sh)
  (hin:∀i∈v.ins,0<=i/\i.toNat<sh.length/\Sh.right (sh.getD i.toNat [])=true):
  Calls Tryz.prog 123 #[.agg #[.int .i64 v.op.kind,.int .i64 v.op.k,.int .i64 v.op.width,.int .i64 v.op.step,.int .i64 v.op.side,.int .i64 v.op.frm,.int .i64 v.op.to,.slice S v.op.s.length c,.slice J v.ins.length ic,.slice Q v.p.length qc],.slice (some ⟨g,0,none⟩) sh.length gc] w (RefP (Od.shape v.op v.p (Nt.pick sh v.ins)) w):=by
 obtain ⟨i1,hj,HW,HG,HD⟩:=info_parts qc4;have hq:Below w.heap.size w (w.alloc (.cells #[.int .i64 v.op.kind,.int .i64 v.op.k,.int .i64 v.op.width,.int .i64 v.op.step,.int .i64 v.op.side,.int .i64 v.op.frm,.int .i64 v.op.to,.slice S v.op.s.length c,.slice J v.ins.length ic,.slice Q v.p.length qc] 141)):=(Ze1 _ _).alloc (lrZ _) _;have hR:=Blk.new w 141 #[.int .i64 v.op.kind,.int .i64 v.op.k,.int .i64 v.op.width,.int .i64 v.op.step,.int .i64 v.op.side,.int .i64 v.op.frm,.int .i64 v.op.to,.slice S v.op.s.length c,.slice J v.ins.length ic,.slice Q v.p.length qc];obtain ⟨y0,y1,y2,y3,y4,y5,y6,y7,y8,y9⟩:=qcc hR;have h4:=hS.below hq (lrZ _);have Hi:=hJ.below hq (lrZ _);have Hn:=hQ.below hq (lrZ _);have h5:=hX.below hq (lrZ _);have HU:=Od.right_kind hr;have gg:=hok.2.2.1;have H3:=hok.2.2.2.1;have h0:(Nt.pick sh v.ins).length=v.ins.length:=by simp [Nt.pick]
 have Hf:=qdP hr;have Hl:=qdR hr;have hl:Od.counts v.op v.p.length (Nt.pick sh v.ins).length=if ((v.ins.length:Int)<Od.least v.op∨Od.most v.op<(v.ins.length:Int)∨(v.p.length:Int)≠Od.params v.op) then 20 else 0:=by unfold Od.counts;rw [if_pos hr,h0]
 have hD:Od.counts v.op v.p.length (Nt.pick sh v.ins).length=20->Od.shape v.op v.p (Nt.pick sh v.ins)=([],20):=λh=>by unfold Od.shape;rw [if_pos (by rw [h];omega),h]
 obtain ⟨hO,Hr,HS,HJ,HQ,HX,Hj,Hk,h9⟩:=zd9 hok hr hS hJ hQ hX hin h4 Hi;obtain ⟨h7,Hu,Hd,gf,h3,Hy,hA,hy⟩:=zd8 Hn h5 hR h0 Hf Hl hl hD;clear hok hr hS hJ hQ hX hin h4 Hi Hn h5 hR h0 Hf Hl hl hD;go_enter Tryz.func123,Tryz.ntmps123;go_upto_region 1 with fail;generalize w.alloc (.cells #[.int .i64 v.op.kind,.int .i64 v.op.k,.int .i64 v.op.width,.int .i64 v.op.step,.int .i64 v.op.side,.int .i64 v.op.frm,.int .i64 v.op.to,.slice S v.op.s.length c,.slice J v.ins.length ic,.slice Q v.p.length qc] 141)=w1 at *;go_wp2_with fail;refine (qfU v.op.kind _ HU).mono ?_;rintro e w2 ⟨rfl,rfl⟩;rw [h3.out];have hd:=λn:Nat=>qdS v.op.kind (w1.drewN n)
 rw [Hy.out] at hd;have hl:=hA.out;have He:=Od.most_le Hr.out;have hU:=Od.least_pos Hr.out;generalize hL:Od.least v.op=L at *;generalize hM:Od.most v.op=M at *;generalize hPa:Od.params v.op=PA at *;obtain ⟨ha,HL,HM,H5⟩:=zd4 hd hL hM hPa;clear hd hL hM hPa;have hH:=zI hl;clear hl hA h3 Hy
 by_cases a1:(v.p.length:Int)=PA
 rotate_left
 ·have d1:((v.p.length:Int) != PA)=true:=by rw [bne_iff_ne];exact a1
  have HN:=zI (hy.out (by rw [hH.out,if_pos oZ]));clear a1;go_wp2_with fail
  go_quiet ((go_at_call 38;exact qaB (ha.out _)))
  go_wp2_with fail
  go_ret2
  exact RefP.err HN.out (qa6 hq _)
 ·have d1:((v.p.length:Int) != PA)=false:=by simp [a1]
  by_cases a2:(v.ins.length:Int)<L
  ·have d2:decide ((v.ins.length:Int)<L)=true:=by simpa using a2
   have HN:=zI (hy.out (by rw [hH.out,if_pos oZ]));have Hb:=zI a1;clear a1;go_wp2_with fail
   go_quiet ((go_at_call 38;exact qaB (ha.out _)))
   go_wp2_with fail
   go_ret2
   exact RefP.err HN.out (qa6 hq _)
  ·have d2:decide ((v.ins.length:Int)<L)=false:=by simpa using a2
   by_cases a3:M<(v.ins.length:Int)
   ·have d3:decide (M<(v.ins.length:Int))=true:=by simpa using a3
    have HN:=zI (hy.out (by rw [hH.out,if_pos oZ]));have Hb:=zI a1;clear a1;go_wp2_with fail
    go_quiet ((go_at_call 38;exact qaB (ha.out _)))
    go_wp2_with fail
    go_ret2
    exact RefP.err HN.out (qa6 hq _)
   ·have d3:decide (M<(v.ins.length:Int))=false:=by simpa using a3
    have Hq:Od.counts v.op v.p.length (Nt.pick sh v.ins).length=0:=by rw [hH.out,if_neg oZ]
    have H6:v.ins.length<=8:=by omega
    have Hb:=zI a1;clear a1 a2 a3;have hN:=zI Hq;clear Hq;go_wp2_with fail
    go_quiet ((go_at_call 38;exact qaB (ha.out _)))
    rename_i nq;clear d1 d2 d3;have hG:=qa6 hq nq;have HC:=Hk.out.drewN nq;have Hg:=h9.out.drewN nq;have Hh:=h7.out.drewN nq;have Ht:=Hu.out.drewN nq;obtain ⟨Ho,h8,hP,HB⟩:=zd4 HC Hg Hh Ht;clear HC Hg Hh Ht;clear Hk h9 h7 Hu ha;go_wp2_with fail
    go_loop [8] (λi=>∃k:Nat,k<=v.p.length/\i=.int .i64 (k:Int)/\(v.p.take k).all Sh.right=true) (λi=>v.p.length-(intOf i).toNat)
    case atStart=>exact ⟨0,Zt _,rfl,rfl⟩
    case round=>
     obtain ⟨k,hk,rfl,he⟩:=hrel
     by_cases hp:k<v.p.length
     ·obtain ⟨b,off,Sk,ck,rfl,-,hc,Hp,H4,H7⟩:=hP.out k hp
      have HT:=hO.out.2.2.2.2.1 _ (gmZ hp);have ht:Sh.right v.p[k]=true->(v.p.take (k+1)).all Sh.right=true:=λh=>by rw [Zb hp,List.all_append,he];simp [h]
      have hB:Sh.right v.p[k]=false->Od.shape v.op v.p (Nt.pick sh v.ins)=([],20):=λh=>by
       unfold Od.shape;rw [if_neg (by rw [hN.out];simp),if_neg];intro h2;rw [Zz] at h2;have:=List.all_eq_true.1 h2.1 _ (gmZ hp);rw [h] at this;cases this
      generalize v.p[k]=s at *;obtain ⟨HZ,h1,hC,hW⟩:=zd4 Hp he ht hB;clear Hp he ht hB;go_wp2_with fail;refine (qaH Sk ck s _ oZ HZ.out).mono ?_;rintro e w3 ⟨rfl,rfl⟩
      by_cases hF:Sh.right s=true
      ·have HA:=zI (hC.out hF)
       rw [hF];clear hF;go_wp2_with fail
       go_round
       case rel=>exact ⟨k+1,by omega,by go_num,HA.out⟩
       case measure=>simp [intOf];omega
      ·have hx:Sh.right s=false:=by simpa using hF
       have HN:=zI (hW.out hx);rw [hx];clear hF hx;go_wp2_with fail
       go_ret2
       exact RefP.err HN.out hG
     ·obtain rfl:k=v.p.length:=by omega
      rw [Zg] at he;have Hs:∀s∈v.p,Sh.right s=true:=List.all_eq_true.1 he
      have hV:∀s∈Nt.pick sh v.ins,Sh.right s=true:=λs hs=>by
       obtain ⟨i,hi,rfl⟩:=List.mem_map.1 hs;exact (Hj.out i hi).2.2
      have Hz:Od.shape v.op v.p (Nt.pick sh v.ins)=Od.byKind v.op v.p (Nt.pick sh v.ins):=Od.shape_go hN.out he (List.all_eq_true.2 hV);obtain ⟨h1,HV,HH,H1⟩:=zd4 he Hs hV Hz;clear he Hs hV Hz;go_wp2_with fail;clear y0 y1 y2 y3 y4 y5 y6 y7;obtain ⟨w2,hw2⟩:∃w2,w1.drewN nq=w2:=⟨_,rfl⟩
      have h6:Blk w2 w.heap.size 141 #[.int .i64 v.op.kind,.int .i64 v.op.k,.int .i64 v.op.width,.int .i64 v.op.step,.int .i64 v.op.side,.int .i64 v.op.frm,.int .i64 v.op.to,.slice S v.op.s.length c,.slice J v.ins.length ic,.slice Q v.p.length qc]:=by rw [←hw2];exact Hd.out.drewN nq
      rw [hw2] at hG Ho h8 hP HB ⊢;clear hw2 y8 y9 Hd;have Hm:=zI h6;clear h6
      go_loopw [9,10] (λo i wx=>∃(k:Nat) (vs:List Value),k<=v.ins.length/\i=.int .i64 (k:Int)/\wx.ownsRow w2.heap.size 23 1 o k vs/\RowOf w2 vs (Nt.pick sh (v.ins.take k))/\Below w2.heap.size w2 wx) (λ_ i _=>v.ins.length-(intOf i).toNat)
      case atStart=>exact ⟨0,[],Zt _,rfl,World.ownsRow_nil _ _ _ _,RowOf.nil _,Ze1 _ _⟩
      case round=>
       obtain ⟨k,vs,hk,rfl,hown,hf,hm⟩:=hrel;have hg:=Hm.out.below hm Hm.out.lt;have y8:wr.cell? ⟨w.heap.size,8,none⟩=some (.slice J v.ins.length ic):=by rw [hg.cell];rfl
       by_cases hp:k<v.ins.length
       ·obtain ⟨Ao,co,rfl⟩:=qaj hown
        obtain ⟨b1,off1,rfl,-,hc⟩:=h8.out.below hm (lrZ _) k hp;rw [qa3 hp] at hc;obtain ⟨r1,r2,r3⟩:=Hj.out _ (gmZ hp);have hz:=qfW sh v.ins hp;obtain ⟨u,hu⟩:∃u:Nat,v.ins[k]=(u:Int):=⟨v.ins[k].toNat,by omega⟩
        rw [hu] at hc hz r2;rw [tnZ] at hz r2;rw [qa7 r2] at hz;obtain ⟨Su,cu,yu,hK,u1,u2⟩:=HB.out.each r2;rw [Zw] at yu;have yu':=qa1 hm yu;have hh:=hf.push hK u1 u2;rw [←hz] at hh;generalize sh[u]=s at *;have j0:(0:Int)<=(u:Int):=by omega
        have j1:(u:Int)<(sh.length:Int):=by omega
        have ho:=qaz hown (.cells #[.slice Su s.length cu] 23);have hn:=hm.alloc hm.size (.cells #[.slice Su s.length cu] 23);have Ha:∀b,(Zb1 Ao k co).ownBlock=some b->w2.heap.size<=b:=λb hb=>(hown.lt b hb).1
        obtain ⟨hZ,hI,hE,HI,gb,gd⟩:=zd6 hg hf hh Ha hK hz;clear hg hf hh Ha hK hz;clear hown r1 r3 hu yu;go_wp2_with (at_builtin;refine wpList_append_own_at _ rfl _ _ 128 rfl w2.heap.size 23 i1 (.slice none 0 0) 1 24 Tryz.underlying128 hj HW HG HD rfl dZ _ _ _ rfl ho ⟨wr.heap.size,0,none⟩ 1 1 [.slice Su s.length cu] rfl rfl ?c1 (by intro u hu;simp at hu;subst hu;rfl) (by unfold maxLen;omega) oZ ?c2 ?_)
        first|(case c1=>exact qbB wr _ _)|skip
        case c2=>first|exact hn.size|(have:=hm.size;omega)
        intro v' w3 hv hgrow _ H0;have HY:Below w2.heap.size w2 w3:=hn.grown hgrow hn.size (λb hb=>HI.out b hb);have HP:=zI hv;clear hv hgrow H0 ho hn;go_wp2_with fail;go_roundw
        case rel=>exact ⟨k+1,_,by omega,by go_num,HP.out,hE.out,HY⟩
        case measure=>simp [intOf];omega
       ·obtain rfl:k=v.ins.length:=by omega
        rw [Zg] at hf;obtain ⟨Ao,co,rfl,Hx,hY,H8,ge⟩:=hf.shps hown hm;obtain ⟨y0,y1,y2,y3,y4,y5,y6,y7,-,y9⟩:=qcc hg;have hw:=hO.out.1;have H9:=hO.out.2.1;have hd:=qel v.op S Q Ao c qc co v.p (Nt.pick sh v.ins) wr Hr.out hN.out oZ hsc hsm hw (Ho.out.below hm (lrZ _)) (hP.out.below hm (lrZ _)) hY HV.out HH.out;have Hc:=hG.trans (hm.mono hG.size);rw [←H1.out] at hd;generalize Od.shape v.op v.p (Nt.pick sh v.ins)=r at *;obtain ⟨ha,hI,HO,H2,hZ,Hw,gh⟩:=zd7 hd hf hown hY hg hw Hx;clear hd hf hown hY hg hw Hx;go_wp2_with fail;clear y0 y1 y2 y3 y4 y5 y6 y7 y8 y9;refine (ha.out).mono ?_;rintro e w9 ⟨S9,c9,rfl,Hv,HF,HK,HE⟩;have HR:=zI Hv;clear Hv;have hT:=Hc.trans (HE.mono Hc.size);go_wp2_with fail
        go_ret2
        exact ⟨S9,c9,rfl,HR.out,HF,HK,hT⟩
def FRow (B:Nat) (w:Zp1) (g:Nat) (t:TypeId) (ss:List (List Int)):Prop:=
 B<=g/\∃hs:List Nat,hs.length=ss.length/\(∃vs:List Value,vs.length=ss.length/\Blk w g t vs.toArray/\∀j (hj:j<ss.length) (hj2:j<hs.length),vs[j]? = some (.slice (some ⟨hs[j],0,none⟩) ss[j].length ss[j].length))/\
  ∀j (hj:j<ss.length) (hj2:j<hs.length),B<=hs[j]/\hs[j]≠g/\Blk w hs[j] 3 (ss[j].map (Za1 .i64)).toArray
theorem FRow.shps {B:Nat} {w:Zp1} {g:Nat} {t:TypeId} {ss:List (List Int)} (h:FRow B w g t ss) (hm:∀s∈ss,s.length<=9223372036854775807):Shps w (some ⟨g,0,none⟩) ss:=λj hj=>by
 obtain ⟨_,hs,hl,⟨vs,ha,hk,hv⟩,hb⟩:=h;have h1:=hv j hj oZ;obtain ⟨_,_,hB⟩:=hb j hj oZ;refine ⟨g,0,_,_,rfl,hk.lt,by rw [Zw,hk.cell j];simpa using h1,Ints.of_row λi hi=>?_,lrZ _,hm _ (gmZ hj)⟩;rw [Zw,hB.cell i,qa3 hi];simp [hi]
theorem FRow.fr {B:Nat} {w w':Zp1} {g:Nat} {t:TypeId} {ss:List (List Int)} {S:Nat->Prop} (h:FRow B w g t ss) (hf:Fr S w w') (hS:∀b,B<=b->b<w.heap.size->¬S b):FRow B w' g t ss:=by
 obtain ⟨hg,hs,hl,⟨vs,ha,hk,hv⟩,hb⟩:=h;refine ⟨hg,hs,hl,⟨vs,ha,hf.blk hk (hS _ hg hk.lt),hv⟩,λj hj hc=>?_⟩;obtain ⟨h1,h2,h3⟩:=hb j hj hc;exact ⟨h1,h2,hf.blk h3 (hS _ h1 h3.lt)⟩
theorem FRow.base {B B':Nat} {w:Zp1} {g:Nat} {t:TypeId} {ss:List (List Int)} (h:FRow B w g t ss) (hB:B'<=B):FRow B' w g t ss:=by
 obtain ⟨hg,hs,hl,hv,hb⟩:=h;exact ⟨Zv hB hg,hs,hl,hv,λj hj ha=>⟨Zv hB (hb j hj ha).1,(hb j hj ha).2⟩⟩
def CopiesP (ss:List (List Int)) (w:Zp1) (e:Ending) (w':Zp1):Prop:=
 ∃g,e=.returned (.slice (some ⟨g,0,none⟩) ss.length ss.length)/\FRow w.heap.size w' g 24 ss/\Below w.heap.size w w'
def FMid (B:Nat) (w:Zp1) (g:Nat) (t:TypeId) (ss:List (List Int)) (k:Nat):Prop:=
 ∃hs:List Nat,hs.length=k/\(∃vs:List Value,vs.length=ss.length/\Blk w g t vs.toArray/\∀j (hj:j<ss.length) (hj2:j<hs.length),vs[j]? = some (.slice (some ⟨hs[j],0,none⟩) ss[j].length ss[j].length))/\
  ∀j (hj:j<ss.length) (hj2:j<hs.length),B<=hs[j]/\hs[j]≠g/\Blk w hs[j] 3 (ss[j].map (Za1 .i64)).toArray
theorem FMid.fr {B:Nat} {w w':Zp1} {g:Nat} {t:TypeId} {ss:List (List Int)} {k:Nat} (h:FMid B w g t ss k) (hb:Below w.heap.size w w'):FMid B w' g t ss k:=by
 obtain ⟨hs,hl,⟨vs,ha,hk,hv⟩,hc⟩:=h;refine ⟨hs,hl,⟨vs,ha,hk.below hb hk.lt,hv⟩,λj hj hd=>?_⟩;obtain ⟨h1,h2,h3⟩:=hc j hj hd;exact ⟨h1,h2,h3.below hb h3.lt⟩
theorem FMid.push {B:Nat} {w:Zp1} {g h:Nat} {t:TypeId} {ss:List (List Int)} {k:Nat} (hm:FMid B w g t ss k) (hk:k<ss.length) (hh:B<=h) (hne:h≠g) (hb:Blk w h 3 (ss[k].map (Za1 .i64)).toArray):FMid B (w.setCell ⟨g,k,none⟩ (.slice (some ⟨h,0,none⟩) ss[k].length ss[k].length)) g t ss (k+1):=by
 obtain ⟨hs,hl,⟨vs,hd,he,hv⟩,hf⟩:=hm;refine ⟨hs++[h],by simp [hl],⟨vs.set k (.slice (some ⟨h,0,none⟩) ss[k].length ss[k].length),by simp [hd],by simpa using he.set_ k (.slice (some ⟨h,0,none⟩) ss[k].length ss[k].length),λj hj ha=>?_⟩,λj hj ha=>?_⟩
 ·by_cases e:j=k
  ·subst e
   have:(hs++[h])[j]'ha=h:=by simp [←hl]
   rw [this,Zr oZ]
  ·have hc:j<hs.length:=by simp at ha;omega
   rw [Zs oZ,hv j hj hc];simp [hc]
 ·by_cases e:j=k
  ·subst e
   have:(hs++[h])[j]'ha=h:=by simp [←hl]
   rw [this];exact ⟨hh,hne,hb.far (p:=⟨g,j,none⟩) hne _⟩
  ·have hc:j<hs.length:=by simp at ha;omega
   have e2:(hs++[h])[j]'ha=hs[j]:=by simp [hc]
   rw [e2];obtain ⟨h1,h2,h3⟩:=hf j hj hc;exact ⟨h1,h2,h3.far (p:=⟨g,k,none⟩) h2 _⟩
set_option maxRecDepth 20000 in
theorem qf6 (A:Option Addr) (c:Nat) (ss:List (List Int)) (w:Zp1) (hl:ss.length<=1048576) (hs:∀s∈ss,s.length<=1048576) (hS:Shps w A ss):
  Calls Tryz.prog 127 #[.slice A ss.length c] w (CopiesP ss w):=by
 obtain ⟨i0,hi,hF,hA,hC⟩:=info_parts qcu;obtain ⟨Hs,HS⟩:=zd2 hs hS;clear hs hS;go_enter Tryz.func127,Tryz.ntmps127;go_wp2_with (at_make;refine wpList_make_full _ rfl _ _ 94 rfl w.heap.size 24 i0 (.slice none 0 0) 1 Tryz.underlying94 hi hF hA _ _ _ _ ss.length rfl rfl (by first|rfl|simp|(go_simp;rfl)) (by first|rfl|simp|(go_simp;rfl)) ?b2 ?b3 ?b4 ?_)
 case b2=>rw [hC];omega
 case b3=>unfold maxLen;omega
 case b4=>exact lrZ _
 intro w1 hown hgrow;have hb:=qaS hown;rw [qb4] at hb;have hv:Below w.heap.size w w1:=(Ze1 _ w).grown hgrow (lrZ _) sZ;have ht:FMid w.heap.size w1 w.heap.size 24 ss 0:=⟨[],rfl,⟨Zc ss.length (.slice none 0 0),by simp,by rw [List.toArray_replicate];exact hb,λj hj hn=>absurd hn sZ⟩,λj hj hn=>absurd hn sZ⟩
 have hq:=zI ht;clear ht;clear hb hown hgrow;go_wp2_with fail
 go_loopw [11] (λi wx=>∃k:Nat,k<=ss.length/\i=.int .i64 (k:Int)/\FMid w.heap.size wx w.heap.size 24 ss k/\Below w.heap.size w wx) (λi _=>ss.length-(intOf i).toNat)
 case atStart=>exact ⟨0,Zt _,rfl,hq.out,hv⟩
 case round=>
  obtain ⟨k,hk,rfl,hm,hd⟩:=hrel;clear hq hv
  by_cases ho:k<ss.length
  ·obtain ⟨b,off,S,sc,rfl,-,hc,hI,-⟩:=HS.out k ho
   have l1:=Hs.out _ (gmZ ho);have hD:=qa1 hd hc;have ha:=λ(W:Zp1) h q1 q2 q3 q4=>@FMid.push w.heap.size W w.heap.size h 24 ss k q1 ho q2 q3 q4
   generalize ss[k]=s at *;have hw:=hI.below hd (lrZ _);obtain ⟨Hm,HI,hx,he⟩:=zd4 hm hI hw ha;clear hm hI hw ha;clear hc;go_wp2_with fail;refine (qae S sc s _ oZ hx.out).mono ?_;rintro e w2 ⟨h,rfl,hh,hB,hu⟩;have hg:=hd.trans (hu.mono hd.size);have hf:=Hm.out.fr hu;have hH:w.heap.size<wr.heap.size:=by obtain ⟨_,_,⟨vs,_,hk,_⟩,_⟩:=Hm.out;exact hk.lt
   have hr:=he.out w2 h hf oZ oZ hB;obtain ⟨y,hy⟩:∃y,w2.cell? ⟨w.heap.size,k,none⟩=some y:=by obtain ⟨_,_,⟨vs,hE,hk,_⟩,_⟩:=hf;exact ⟨vs[k],by rw [hk.cell k];simp⟩
   have fy:w2.frozen? ⟨w.heap.size,k,none⟩=false:=by obtain ⟨_,_,⟨vs,hE,hk,_⟩,_⟩:=hf;exact hk.frozen k
   have hp:=hg.setCell (p:=⟨w.heap.size,k,none⟩) sZ (.slice (some ⟨h,0,none⟩) s.length s.length);obtain ⟨hG,hz,HB⟩:=zd3 hf hr hB;clear hf hr hB;clear hD;go_wp2_with fail;go_roundw
   case rel=>exact ⟨k+1,by omega,by go_num,hz.out,hp⟩
   case measure=>simp [intOf];omega
  ·obtain rfl:k=ss.length:=by omega
   have Hm:=zI hm;clear hm;go_wp2_with fail;go_ret;refine ⟨w.heap.size,rfl,⟨lrZ _,?_⟩,hd⟩;obtain ⟨hs,h1,h2⟩:=Hm.out;exact ⟨hs,h1,h2⟩
def Later (w w':Zp1):Prop:=Below w.heap.size w w'
section
variable {w w1 w2:Zp1}
theorem Later.refl (w:Zp1):Later w w:=Ze1 _ _
theorem Later.alloc (h:Later w w1) (o:Obj):Later w (w1.alloc o):=Below.alloc h h.size o
theorem Later.drew (h:Later w w1):Later w w1.drew:=Below.drew h
theorem Later.drewN (h:Later w w1) (n:Nat):Later w (w1.drewN n):=qa6 h n
theorem Later.call (h:Later w w1) (k:Below w1.heap.size w1 w2):Later w w2:=Below.trans h (k.mono h.size)
theorem Later.trans (h:Later w w1) (k:Later w1 w2):Later w w2:=h.call k
theorem Later.set (h:Later w w1) {p:Addr} (hp:w.heap.size<=p.block) (u:Value):Later w (w1.setCell p u):=Below.setCell h hp u
theorem Later.cell {p:Addr} {v:Value} (h:Later w w1) (hc:w.cell? p=some v):w1.cell? p=some v:=(Below.cell h (Zj1 _ _ hc)).trans hc
theorem Later.blk {g:Nat} {t:TypeId} {cs:Array Value} (h:Later w w1) (hb:Blk w g t cs):Blk w1 g t cs:=hb.below h hb.lt
theorem Later.below {B:Nat} {w0:Zp1} (h:Later w w1) (hb:Below B w0 w) (hB:B<=w.heap.size):Below B w0 w1:=hb.trans (Below.mono h hB)
end
def Keep (T:TypeId) (w w':Zp1):Prop:=w.heap.size<=w'.heap.size/\∀(b:Nat) (cs:Array Value) (t:TypeId),w.heap[b]? = some (Obj.cells cs t (0,0))->t≠T->w'.heap[b]? = w.heap[b]?
section
variable {T t:TypeId} {w w' w2:Zp1} {g B:Nat} {cs:Array Value}
theorem Keep.of_later (h:Later w w'):Keep T w w':=⟨Below.size h,λb cs t hb _=>Below.block h b (lt_of_block hb)⟩
theorem Keep.set_ (hb:Blk w g T cs) (i:Nat) (u:Value):Keep T w (w.setCell ⟨g,i,none⟩ u):=⟨by simp,λb cs' t h ht=>Below.heap_setCell w _ u b (λe=>by
 have e:b=g:=e;subst e;unfold Blk at hb;rw [hb] at h;injection h with h
 injection h with _ h _
 exact ht h.symm)⟩
theorem Keep.refl (T:TypeId) (w:Zp1):Keep T w w:=⟨lrZ _,λ_ _ _ _ _=>rfl⟩
theorem Keep.trans (h:Keep T w w') (k:Keep T w' w2):Keep T w w2:=⟨Zv h.1 k.1,λb cs t hb ht=>(k.2 b cs t ((h.2 b cs t hb ht).trans hb) ht).trans (h.2 b cs t hb ht)⟩
theorem Blk.keep (hb:Blk w g t cs) (ht:t≠T) (h:Keep T w w'):Blk w' g t cs:=(h.2 g cs t hb ht).trans hb
theorem qcd {e:TypeId} {s n:Nat} {v:Value} {xs:List Value} (h:w.ownsRow B e s v n xs) (ht:e≠T) (hk:Keep T w w'):w'.ownsRow B e s v n xs:=by
 refine ⟨h.1,?_⟩;rcases h.2 with h|⟨g,cap,cur,rfl,h1,h2,h3⟩
 ·exact .inl h
 ·exact .inr ⟨g,cap,cur,rfl,h1,(hk.2 g cur e h2 ht).trans h2,h3⟩
theorem FRow.keep {ss:List (List Int)} (h:FRow B w g t ss) (ht:t≠T) (hi:3≠T) (hk:Keep T w w'):FRow B w' g t ss:=by
 obtain ⟨hg,hs,hl,⟨vs,hc,hb,hv⟩,hr⟩:=h;exact ⟨hg,hs,hl,⟨vs,hc,hb.keep ht hk,hv⟩,λj hj ha=>⟨(hr j hj ha).1,(hr j hj ha).2.1,(hr j hj ha).2.2.keep hi hk⟩⟩
end
structure CpQ where
 v:NodeD
 S:Nat
 J:Option Addr
 jc:Nat
 Q:Nat
def CpQ.cells (x:CpQ):List Value:=[.int .i64 x.v.op.kind,.int .i64 x.v.op.k,.int .i64 x.v.op.width,.int .i64 x.v.op.step,.int .i64 x.v.op.side,.int .i64 x.v.op.frm,.int .i64 x.v.op.to,.slice (some ⟨x.S,0,none⟩) x.v.op.s.length x.v.op.s.length,.slice x.J x.v.ins.length x.jc,.slice (some ⟨x.Q,0,none⟩) x.v.p.length x.v.p.length]
def CpQ.R (B:Nat) (w:Zp1) (x:CpQ):Prop:=B<=x.S/\Blk w x.S 3 (x.v.op.s.map (Za1 .i64)).toArray/\w.ownsRow B 3 1 (.slice x.J x.v.ins.length x.jc) x.v.ins.length (x.v.ins.map (Za1 .i64))/\FRow B w x.Q 24 x.v.p
theorem CpQ.len (x:CpQ):x.cells.length=10:=rfl
theorem CpQ.flat (L:List CpQ):(L.flatMap CpQ.cells).length=L.length*10:=by
 induction L with
 | nil=>rfl
 | cons x r ih=>rw [List.flatMap_cons,Ze,ih,CpQ.len,List.length_cons];omega
theorem CpQ.R.keep {B:Nat} {w w':Zp1} {x:CpQ} {T:TypeId} (h:CpQ.R B w x) (h1:3≠T) (h2:24≠T) (hk:Keep T w w'):CpQ.R B w' x:=
 ⟨h.1,h.2.1.keep h1 hk,qcd h.2.2.1 h1 hk,h.2.2.2.keep h2 h1 hk⟩
theorem CpQ.R.later {B:Nat} {w w':Zp1} {x:CpQ} (h:CpQ.R B w x) (hk:Later w w'):CpQ.R B w' x:=h.keep (T:=127) dZ dZ (Keep.of_later hk)
def CpRow (B:Nat) (wx:Zp1) (g:Nat) (zc:Array Value) (ns:List NodeD) (k:Nat):Prop:=
 ∃L:List CpQ,L.map (·.v)=ns.take k/\L.length=k/\Blk wx g 127 (L.flatMap CpQ.cells++zc.toList.drop (k*10)).toArray/\∀x∈L,CpQ.R B wx x
theorem CpRow.later {B:Nat} {w w':Zp1} {g:Nat} {zc:Array Value} {ns:List NodeD} {k:Nat} (h:CpRow B w g zc ns k) (hk:Later w w'):CpRow B w' g zc ns k:=by
 obtain ⟨L,h1,h2,h3,h4⟩:=h;exact ⟨L,h1,h2,hk.blk h3,λx hx=>(h4 x hx).later hk⟩
theorem CpRow.keep {B:Nat} {w w':Zp1} {g:Nat} {zc:Array Value} {ns:List NodeD} {k:Nat} {T:TypeId} (h:CpRow B w g zc ns k) (h1:3≠T) (h2:24≠T) (h3:127≠T) (hk:Keep T w w'):CpRow B w' g zc ns k:=by
 obtain ⟨L,l1,l2,l3,l4⟩:=h;exact ⟨L,l1,l2,l3.keep h3 hk,λx hx=>(l4 x hx).keep h1 h2 hk⟩
theorem qen {w:Zp1} {B B' e s n:Nat} {v:Value} {xs:List Value} (h:w.ownsRow B e s v n xs) (hB:B'<=B):w.ownsRow B' e s v n xs:=by
 refine ⟨h.1,?_⟩;rcases h.2 with h|⟨g,cap,cur,h1,h2,h3⟩
 ·exact .inl h
 ·exact .inr ⟨g,cap,cur,h1,Zv hB h2,h3⟩
theorem CpQ.R.base {B B':Nat} {w:Zp1} {x:CpQ} (h:CpQ.R B w x) (hB:B'<=B):CpQ.R B' w x:=⟨Zv hB h.1,h.2.1,qen h.2.2.1 hB,h.2.2.2.base hB⟩
theorem CpRow.zero {B:Nat} {w:Zp1} {g:Nat} {zc:Array Value} {ns:List NodeD} (h:Blk w g 127 zc):CpRow B w g zc ns 0:=⟨[],by simp,rfl,by simpa using h,by simp⟩
def set10 (w:Zp1) (g o:Nat) (l:List Value):Zp1:=((((((((((w.setCell ⟨g,o,none⟩ (l.getD 0 undef)).setCell ⟨g,o+1,none⟩ (l.getD 1 undef)).setCell ⟨g,o+2,none⟩ (l.getD 2 undef)).setCell ⟨g,o+3,none⟩ (l.getD 3 undef)).setCell ⟨g,o+4,none⟩ (l.getD 4 undef)).setCell ⟨g,o+5,none⟩ (l.getD 5 undef)).setCell ⟨g,o+6,none⟩ (l.getD 6 undef)).setCell ⟨g,o+7,none⟩ (l.getD 7 undef)).setCell ⟨g,o+8,none⟩ (l.getD 8 undef)).setCell ⟨g,o+9,none⟩ (l.getD 9 undef))
theorem Blk.set10 {w:Zp1} {g:Nat} {t:TypeId} {P R:List Value} {z0 z1 z2 z3 z4 z5 z6 z7 z8 z9 a0 a1 a2 a3 a4 a5 a6 a7 a8 a9:Value} {o:Nat} (hP:P.length=o) (h:Blk w g t (P++z0::z1::z2::z3::z4::z5::z6::z7::z8::z9::R).toArray):
  Blk (Go.Proofs.YtbnnpkcfifejmaaGreat.set10 w g o [a0,a1,a2,a3,a4,a5,a6,a7,a8,a9]) g t (P++a0::a1::a2::a3::a4::a5::a6::a7::a8::a9::R).toArray:=by
 subst hP;have:=(((((((((h.set_ P.length a0).set_ (P.length+1) a1).set_ (P.length+2) a2).set_ (P.length+3) a3).set_ (P.length+4) a4).set_ (P.length+5) a5).set_ (P.length+6) a6).set_ (P.length+7) a7).set_ (P.length+8) a8).set_ (P.length+9) a9;simpa [Go.Proofs.YtbnnpkcfifejmaaGreat.set10,List.set_append_right] using this
theorem Keep.set10 {w:Zp1} {g:Nat} {t:TypeId} {cs:Array Value} (h:Blk w g t cs) (o:Nat) (l:List Value):Keep t w (Go.Proofs.YtbnnpkcfifejmaaGreat.set10 w g o l):=by
 unfold Go.Proofs.YtbnnpkcfifejmaaGreat.set10;have s:∀ {W:Zp1} (hk:Keep t w W) (hc:∃cs,Blk W g t cs) (i:Nat) (u:Value),Keep t w (W.setCell ⟨g,i,none⟩ u)/\∃cs,Blk (W.setCell ⟨g,i,none⟩ u) g t cs:=λhk ⟨cs,hc⟩ i u=>⟨hk.trans (Keep.set_ hc i u),_,hc.set_ i u⟩
 have s0:=s (Keep.refl t w) ⟨_,h⟩ o (l.getD 0 undef);have s1:=s s0.1 s0.2 (o+1) (l.getD 1 undef);have s2:=s s1.1 s1.2 (o+2) (l.getD 2 undef);have s3:=s s2.1 s2.2 (o+3) (l.getD 3 undef);have s4:=s s3.1 s3.2 (o+4) (l.getD 4 undef);have s5:=s s4.1 s4.2 (o+5) (l.getD 5 undef);have s6:=s s5.1 s5.2 (o+6) (l.getD 6 undef);have s7:=s s6.1 s6.2 (o+7) (l.getD 7 undef);have s8:=s s7.1 s7.2 (o+8) (l.getD 8 undef);exact (s s8.1 s8.2 (o+9) (l.getD 9 undef)).1
theorem drop_ten {zs:List Value} {o:Nat} (h:o+10<=zs.length):∃z0 z1 z2 z3 z4 z5 z6 z7 z8 z9,zs.drop o=z0::z1::z2::z3::z4::z5::z6::z7::z8::z9::zs.drop (o+10):=by
 refine ⟨zs[o],zs[o+1],zs[o+2],zs[o+3],zs[o+4],zs[o+5],zs[o+6],zs[o+7],zs[o+8],zs[o+9],?_⟩
 iterate 10 rw [Zd oZ]
theorem CpRow.next {B:Nat} {w:Zp1} {g:Nat} {zc:Array Value} {ns:List NodeD} {k:Nat} (h:CpRow B w g zc ns k) (hk:k<ns.length) (hz:zc.size=ns.length*10):
  (∃z0 z1 z2 z3 z4 z5 z6 z7 z8 z9,w.cell? ⟨g,k*10,none⟩=some z0/\w.cell? ⟨g,k*10+1,none⟩=some z1/\w.cell? ⟨g,k*10+2,none⟩=some z2/\w.cell? ⟨g,k*10+3,none⟩=some z3/\w.cell? ⟨g,k*10+4,none⟩=some z4/\w.cell? ⟨g,k*10+5,none⟩=some z5/\w.cell? ⟨g,k*10+6,none⟩=some z6/\w.cell? ⟨g,k*10+7,none⟩=some z7/\w.cell? ⟨g,k*10+8,none⟩=some z8/\w.cell? ⟨g,k*10+9,none⟩=some z9)/\
  (∀i,w.frozen? ⟨g,i,none⟩=false)/\
  ∀x:CpQ,x.v=ns[k]->CpQ.R B w x->CpRow B (Go.Proofs.YtbnnpkcfifejmaaGreat.set10 w g (k*10) x.cells) g zc ns (k+1)/\Keep 127 w (Go.Proofs.YtbnnpkcfifejmaaGreat.set10 w g (k*10) x.cells):=by
 obtain ⟨L,h1,h2,h3,h4⟩:=h;obtain ⟨z0,z1,z2,z3,z4,z5,z6,z7,z8,z9,e⟩:=drop_ten (zs:=zc.toList) (o:=k*10) soZ;rw [e] at h3;have hl:(L.flatMap CpQ.cells).length=k*10:=by rw [CpQ.flat,h2]
 refine ⟨⟨z0,z1,z2,z3,z4,z5,z6,z7,z8,z9,?_,?_,?_,?_,?_,?_,?_,?_,?_,?_⟩,λi=>h3.frozen i,λx hx hR=>⟨⟨L++[x],?_,by simp [h2],?_,λy hy=>?_⟩,Keep.set10 h3 _ _⟩⟩
 all_goals first|(rw [h3.cell];simp [←hl];done)|skip
 ·rw [List.map_append,h1,Zb hk,←hx];rfl
 ·have:=Blk.set10 (a0:=.int .i64 x.v.op.kind) (a1:=.int .i64 x.v.op.k) (a2:=.int .i64 x.v.op.width) (a3:=.int .i64 x.v.op.step) (a4:=.int .i64 x.v.op.side) (a5:=.int .i64 x.v.op.frm) (a6:=.int .i64 x.v.op.to) (a7:=.slice (some ⟨x.S,0,none⟩) x.v.op.s.length x.v.op.s.length) (a8:=.slice x.J x.v.ins.length x.jc) (a9:=.slice (some ⟨x.Q,0,none⟩) x.v.p.length x.v.p.length) hl h3
  rw [Zj,List.append_assoc,show (k+1)*10=k*10+10 by omega];exact this
 ·have ha:Keep 127 w (Go.Proofs.YtbnnpkcfifejmaaGreat.set10 w g (k*10) x.cells):=Keep.set10 h3 _ _
  rcases List.mem_append.1 hy with hy|hy
  ·exact (h4 y hy).keep dZ dZ ha
  ·simp at hy;subst hy;exact hR.keep dZ dZ ha
theorem Later.set10 {w w1:Zp1} {g o:Nat} {l:List Value} (h:Later w w1) (hg:w.heap.size<=g):Later w (Go.Proofs.YtbnnpkcfifejmaaGreat.set10 w1 g o l):=by
 unfold Go.Proofs.YtbnnpkcfifejmaaGreat.set10;exact (((((((((h.set (p:=⟨g,o,none⟩) hg _).set (p:=⟨g,o+1,none⟩) hg _).set (p:=⟨g,o+2,none⟩) hg _).set (p:=⟨g,o+3,none⟩) hg _).set (p:=⟨g,o+4,none⟩) hg _).set (p:=⟨g,o+5,none⟩) hg _).set (p:=⟨g,o+6,none⟩) hg _).set (p:=⟨g,o+7,none⟩) hg _).set (p:=⟨g,o+8,none⟩) hg _).set (p:=⟨g,o+9,none⟩) hg _
theorem CpRow.nodes {B:Nat} {w:Zp1} {g:Nat} {zc:Array Value} {ns:List NodeD} (h:CpRow B w g zc ns ns.length) (hs:∀v∈ns,v.op.s.length<=1048576/\v.p.length<=1048576/\∀s∈v.p,s.length<=1048576):Nodes w (some ⟨g,0,none⟩) ns:=λj hj=>by
 obtain ⟨L,h1,h2,h3,h4⟩:=h;rw [Zg] at h1;subst h1;rw [List.length_map] at hj;have hx:=h4 L[j] (gmZ hj);have hd:=hs L[j].v (List.mem_map.2 ⟨_,gmZ hj,rfl⟩);obtain ⟨q1,q2,q3,q4⟩:=hx;obtain ⟨r1,r2,r3⟩:=qbn q3;have hb:L=L.take j++L[j]::L.drop (j+1):=by rw [←Zd hj,Zn]
 have hc:((L.take j).flatMap CpQ.cells).length=j*10:=by rw [CpQ.flat];simp;omega
 have ha:∀i,i<10->w.cell? ⟨g,j*10+i,none⟩=L[j].cells[i]?:=λi hi=>by
  rw [h3.cell]
  conv=>lhs;rw [hb,Zj,List.flatMap_cons,List.append_assoc,List.append_assoc]
  rw [Zk,Zl oZ,hc,show j*10+i-j*10=i by omega,Zm (by rw [CpQ.len];exact hi)]
 rw [List.getElem_map];refine ⟨g,0,some ⟨L[j].S,0,none⟩,L[j].v.op.s.length,L[j].J,L[j].jc,some ⟨L[j].Q,0,none⟩,L[j].v.p.length,rfl,h3.lt,?_,?_,?_,?_,?_,?_,?_,?_,?_,?_,⟨?_,lrZ _,by omega⟩,⟨r1,r2,r3⟩,⟨q4.shps (λs h=>by have:=hd.2.2 s h;omega),lrZ _,by omega⟩⟩
 all_goals first|(rw [Zw];exact ha 0 oZ)|(rw [Zw];exact ha _ oZ)|skip
 exact Ints.of_row λi hi=>by
  rw [Zw,q2.cell i,qa3 hi];simp [hi]
def PList (w:Zp1) (vs:List Value) (ss:List (List Int)):Prop:=
 vs.length=ss.length/\∀j (hj:j<ss.length),∃h,vs[j]? = some (.slice (some ⟨h,0,none⟩) ss[j].length ss[j].length)/\Blk w h 3 (ss[j].map (Za1 .i64)).toArray
theorem PList.nil (w:Zp1):PList w [] []:=⟨rfl,λj hj=>absurd hj sZ⟩
theorem PList.append {w:Zp1} {vs vs':List Value} {ss ss':List (List Int)} (h:PList w vs ss) (h':PList w vs' ss'):PList w (vs++vs') (ss++ss'):=by
 refine ⟨by simp [h.1,h'.1],λj hj=>?_⟩
 by_cases hl:j<ss.length
 ·obtain ⟨g,e,hb⟩:=h.2 j hl
  have e2:(ss++ss')[j]=ss[j]:=by simp [hl]
  rw [e2];exact ⟨g,by rw [Zm (by rw [h.1];exact hl)];exact e,hb⟩
 ·have ha:j-ss.length<ss'.length:=by simp at hj;omega
  obtain ⟨g,e,hb⟩:=h'.2 (j-ss.length) ha;have e2:(ss++ss')[j]=ss'[j-ss.length]:=by rw [List.getElem_append_right oZ]
  rw [e2];exact ⟨g,by rw [Zl (by rw [h.1];omega),h.1];exact e,hb⟩
theorem PList.keep {w w':Zp1} {vs:List Value} {ss:List (List Int)} {T:TypeId} (h:PList w vs ss) (hT:3≠T) (hk:Keep T w w'):PList w' vs ss:=
 ⟨h.1,λj hj=>by obtain ⟨g,e,hb⟩:=h.2 j hj;exact ⟨g,e,hb.keep hT hk⟩⟩
theorem PList.one {w:Zp1} {vs:List Value} {ss:List (List Int)} (h:PList w vs ss):∀u∈vs,u.oneCell'=true:=λu hu=>by
 obtain ⟨j,hj,rfl⟩:=List.getElem_of_mem hu;obtain ⟨g,e,_⟩:=h.2 j (by rw [←h.1];exact hj);rw [geZ hj] at e;injection e with e
 rw [e];rfl
theorem FRow.plist {B:Nat} {w:Zp1} {g:Nat} {t:TypeId} {ss:List (List Int)} (h:FRow B w g t ss):∃vs:List Value,Blk w g t vs.toArray/\PList w vs ss:=by
 obtain ⟨_,hs,hl,⟨vs,ha,hb,hv⟩,hr⟩:=h;exact ⟨vs,hb,ha,λj hj=>⟨hs[j]'oZ,hv j hj oZ,(hr j hj oZ).2.2⟩⟩
theorem Keep.of_grown {T:TypeId} {w w':Zp1} {B s n:Nat} {v:Value} {xs:List Value} (h:w.ownsRow B T s v n xs) (hg:w.grownBy w' v.ownBlock):Keep T w w':=by
 refine ⟨hg.size,λb cs t hb ht=>hg.block b (lt_of_block hb) λe=>?_⟩;rcases h.2 with ⟨rfl,_⟩|⟨g,cap,cur,rfl,_,hh,_⟩
 ·simp [Value.ownBlock] at e
 ·simp [Value.ownBlock] at e
  subst e;rw [hh] at hb;injection hb with hb
  injection hb with _ hb _
  exact ht hb.symm
theorem news_blk {w:Zp1} {g:Nat} {t:TypeId} {vs:List Value} (h:Blk w g t vs.toArray):∀(j:Nat) (u:Value),vs[j]? = some u->w.cell? (Addr.add ⟨g,0,none⟩ j)=some u:=λj u hu=>by
 have:(Addr.add ⟨g,0,none⟩ j)=⟨g,j,none⟩:=by by_cases e:j=0<;>simp [Addr.add,e]
 rw [this,h.cell];simpa using hu
theorem PList.shps {w:Zp1} {vs:List Value} {ss:List (List Int)} {B n:Nat} {t:TypeId} {v:Value} (h:PList w vs ss) (hown:w.ownsRow B t 1 v n vs) (hs:∀s∈ss,s.length<=1048576):
  ∃A c,v=.slice A ss.length c/\n=ss.length/\Shps w A ss/\ss.length<=c/\c<=9223372036854775807:=by
 have hn:n=ss.length:=by have:=hown.1;have:=h.1;omega
 subst hn;rcases hown.2 with ⟨rfl,h0⟩|⟨g,cap,cur,rfl,hb,hh,r1,r2,r3,r4⟩
 ·have:ss=[]:=List.eq_nil_of_length_eq_zero h0
  subst this;exact ⟨none,0,rfl,rfl,Shps.nil,by simp,by omega⟩
 ·refine ⟨_,cap,rfl,rfl,λj hj=>?_,r1,by unfold maxLen at r2;omega⟩
  obtain ⟨b,e,ha⟩:=h.2 j hj;refine ⟨g,0,_,_,rfl,lt_of_block hh,by rw [Zw,hown.cellAt j oZ];exact e,Ints.of_row λi hi=>?_,lrZ _,by have:=hs _ (gmZ hj);omega⟩;rw [Zw,ha.cell i,qa3 hi];simp [hi]
def ParamsP (n:NetD) (w:Zp1) (e:Ending) (w':Zp1):Prop:=
 ∃A c,e=.returned (.slice A (Nt.params n).length c)/\Shps w' A (Nt.params n)/\(Nt.params n).length<=c/\c<=9223372036854775807/\Below w.heap.size w w'
theorem qcV {n:NetD} (hok:n.ok) (k:Nat):((n.nodes.take k).flatMap (·.p)).length<=k*1048576:=by
 induction k with
 | zero=>simp
 | succ k ih=>
  by_cases hk:k<n.nodes.length
  ·rw [Zb hk,Zj,Ze]
   have h1:=(hok.2.2 _ (gmZ hk)).2.2.2.1;have e:[n.nodes[k]].flatMap (·.p)=n.nodes[k].p:=by simp
   rw [e];omega
  ·rw [List.take_of_length_le oZ]
   rw [List.take_of_length_le oZ] at ih;exact Zv ih (mlZ _ (Zy _))
set_option maxRecDepth 20000 in
theorem qf7 (A N:Option Addr) (c d:Nat) (n:NetD) (w:Zp1) (hok:n.ok) (hR:NetR w A N n):
  Calls Tryz.prog 77 #[.agg #[.slice A n.inn.length c,.slice N n.nodes.length d]] w (ParamsP n w):=by
 obtain ⟨i0,hi,h4,hU,hV⟩:=info_parts qcu;have Ha:=hok.2.1;have hC:=λk=>qcV hok k
 have hM:Later w (w.alloc (.cells #[.slice A n.inn.length c,.slice N n.nodes.length d] 59)):=(Later.refl _).alloc _;obtain ⟨hI,HR,hW,hO⟩:=zd4 hok hR hC hM;clear hok hR hC hM;go_enter Tryz.func77,Tryz.ntmps77;go_wp2_with fail;generalize w.alloc (.cells #[.slice A n.inn.length c,.slice N n.nodes.length d] 59)=w1 at *
 go_loopw [3,9] (λo i wx=>∃(k:Nat) (vs:List Value),k<=n.nodes.length/\i=.int .i64 (k:Int)/\wx.ownsRow w.heap.size 24 1 o ((n.nodes.take k).flatMap (·.p)).length vs/\PList wx vs ((n.nodes.take k).flatMap (·.p))/\Below w.heap.size w wx) (λ_ i _=>n.nodes.length-(intOf i).toNat)
 case atStart=>exact ⟨0,[],Zt _,rfl,by simpa using World.ownsRow_nil w1 w.heap.size 24 1,by simpa using PList.nil w1,hO.out⟩
 case round=>
  obtain ⟨k,vs,hk,rfl,hown,hn,hh⟩:=hrel;clear hO;obtain ⟨Ao,co,rfl⟩:=qaj hown
  by_cases hA:k<n.nodes.length
  ·obtain ⟨b,off,S,sc,J,ic,Q,qc,rfl,hr,-,-,-⟩:=HR.out.2.at_ hA
   have hc:=hI.out.2.2 _ (gmZ hA);have hx:=hc.2.2.2.1;have hg:=hc.2.2.2.2.1;have hP:=hr.2.2.2;have h8:=hW.out k;have hQ:(n.nodes.take (k+1)).flatMap (·.p)=(n.nodes.take k).flatMap (·.p)++n.nodes[k].p:=by rw [Zb hA,Zj];simp
   have h6:k*1048576<=1048576*1048576:=mlZ _ oZ;generalize n.nodes[k]=v at *;generalize (n.nodes.take k).flatMap (·.p)=ss at *;obtain ⟨⟨y0,y1,y2,y3,y4,y5,y6,y7,y8,y9⟩,-⟩:=hr.below hh;have hE:Later wr (wr.alloc (.cells #[.int .i64 v.op.kind,.int .i64 v.op.k,.int .i64 v.op.width,.int .i64 v.op.step,.int .i64 v.op.side,.int .i64 v.op.frm,.int .i64 v.op.to,.slice S v.op.s.length sc,.slice J v.ins.length ic,.slice Q v.p.length qc] 127)):=(Later.refl wr).alloc _;obtain ⟨h7,hX,hD,h2,hH,hf,hy,hJ⟩:=zd8 hr hc hg hP hQ hown hn hE;clear hr hc hg hP hQ hown hn hE;go_wp2_with fail;clear y0 y1 y2 y3 y4 y5 y6 y7 y8 y9;generalize wr.alloc (.cells #[.int .i64 v.op.kind,.int .i64 v.op.k,.int .i64 v.op.width,.int .i64 v.op.step,.int .i64 v.op.side,.int .i64 v.op.frm,.int .i64 v.op.to,.slice S v.op.s.length sc,.slice J v.ins.length ic,.slice Q v.p.length qc] 127)=w2 at *;refine (qf6 Q qc v.p _ hx hD.out (h2.out.below (hh.trans (Below.mono hJ.out hh.size)) (lrZ _))).mono ?_;rintro e w3 ⟨g,rfl,hF,hL⟩;have hj:=hJ.out.call hL;obtain ⟨ws,hB,hu⟩:=hF.plist;have ht:=qcd (T:=127) hf.out dZ (Keep.of_later hj);have hK:=hy.out.keep (T:=127) dZ (Keep.of_later hj);have hN:ws.length=v.p.length:=hu.1;have ho:=hu.one;have hd:=news_blk hB;have hq:=hh.trans (Below.mono hj hh.size);have hm:=hq.size;have hG:=zI (λb (hb:(Zb1 Ao ss.length co).ownBlock=some b)=>(ht.lt b hb).1);obtain ⟨HF,h9,h0,hZ,Hb⟩:=zd5 hF hj hK hu hB;clear hF hj hK hu hB;clear hL hf hy;go_wp2_with (at_builtin;refine wpList_append_own_at _ rfl _ _ 94 rfl w.heap.size 24 i0 (.slice none 0 0) 1 24 Tryz.underlying94 hi h4 hU hV rfl dZ _ _ _ rfl ht ⟨g,0,none⟩ v.p.length v.p.length ws rfl (by rw [hN];omega) hd ho (by unfold maxLen;omega) oZ hm ?_);intro v' w4 ha hgrow _ h5;have hw:Keep 24 w3 w4:=Keep.of_grown ht hgrow;have hz:=(h0.out.keep dZ hw).append (hZ.out.keep dZ hw)
   have hT:Below w.heap.size w w4:=hq.grown hgrow hm (λb hb=>hG.out b hb);rw [show ss.length+v.p.length=(ss++v.p).length by simp,←hH.out] at ha;rw [←hH.out] at hz;have hl:=zI ha;have hS:=zI hz;clear ha hz;clear hw hgrow h5 ht hG hd ho hN;go_wp2_with fail;go_roundw
   case rel=>exact ⟨k+1,vs++ws,by omega,by go_num,hl.out,hS.out,hT⟩
   case measure=>simp [intOf];omega
  ·obtain rfl:k=n.nodes.length:=by omega
   rw [Zg] at *
   have hg:∀s∈n.nodes.flatMap (·.p),s.length<=1048576:=λs hs=>by
    obtain ⟨v,hv,hs⟩:=List.mem_flatMap.1 hs;exact (hI.out.2.2 v hv).2.2.2.2.1 s hs
   obtain ⟨A',c',e,-,q1,q2,q3⟩:=hn.shps hown hg;injection e with e1 e2 e3
   subst e1 e3;have hp:Nt.params n=n.nodes.flatMap (·.p):=rfl;obtain ⟨hf,hy,hD,h1,hY,h3,he⟩:=zd7 hown hn hg q1 q2 q3 hp;clear hown hn hg q1 q2 q3 hp;clear e2;go_wp2_with fail;go_ret;exact ⟨Ao,co,by (rw [he.out]<;>rfl),by rw [he.out];exact h1.out,by rw [he.out];exact hY.out,h3.out,hh⟩
theorem params_at {n:NetD} {k m:Nat} (hk:k<n.nodes.length) (hm:m<n.nodes[k].p.length):((n.nodes.take k).flatMap (·.p)).length+m<(Nt.params n).length/\(Nt.params n)[((n.nodes.take k).flatMap (·.p)).length+m]? = some n.nodes[k].p[m]:=by
 have e:Nt.params n=(n.nodes.take k).flatMap (·.p)++(n.nodes[k].p++(n.nodes.drop (k+1)).flatMap (·.p)):=by
  unfold Nt.params
  conv=>lhs;rw [←Zn k n.nodes,Zd hk,Zj,List.flatMap_cons]
 rw [e];refine ⟨by simp only [Ze];omega,?_⟩;rw [Zl oZ,Nat.add_sub_cancel_left,Zm hm,geZ hm]
theorem or_mul (a b i m:Nat) (hm:m=2 ^ i) (h:a<m):(b*m) ||| a=b*m+a:=by
 subst hm;rw [←Nat.shiftLeft_eq,Nat.shiftLeft_add_eq_or_of_lt h]
namespace Fx
def In (x:Int):Prop:=-9223372036854775808<=x/\x<=9223372036854775807
def clamp (z:Int):Int:=if 9223372036854775807<z then 9223372036854775807 else if z < -9223372036854775808 then -9223372036854775808 else z
theorem qdk (z:Int):In (clamp z):=by unfold clamp In;split<;>(try split)<;>omega
theorem clamp_id {z:Int} (h:In z):clamp z=z:=by unfold In at h;unfold clamp;split<;>(try split)<;>omega
theorem clamp_hi {z:Int} (h:9223372036854775807<=z):clamp z=9223372036854775807:=by unfold clamp;split<;>(try split)<;>omega
theorem clamp_lo {z:Int} (h:z<=-9223372036854775808):clamp z = -9223372036854775808:=by unfold clamp;split<;>(try split)<;>omega
theorem in_zero:In 0:=by unfold In;omega
def add (x y:Int):Int:=clamp (x+y)
def rnd (p d:Nat):Nat:=if d<2*(p % d)∨(2*(p % d)=d/\p / d % 2=1) then p / d+1 else p / d
def neg2 (x y:Int):Bool:=decide (x<0) != decide (y<0)
def sgn (b:Bool) (n:Nat):Int:=if b then -(n:Int) else n
def mul (x y:Int):Int:=clamp (sgn (neg2 x y) (rnd (x.natAbs*y.natAbs) 4294967296))
def edge (b:Bool):Int:=if b then -9223372036854775808 else 9223372036854775807
def div (x y:Int):Int:=if y=0 then (if x=0 then 0 else edge (decide (x<0))) else clamp (sgn (neg2 x y) (rnd (x.natAbs*4294967296) y.natAbs))
theorem edge_in (b:Bool):In (edge b):=by cases b<;>(unfold edge In;simp)
theorem add_in (x y:Int):In (add x y):=qdk _
theorem mul_in (x y:Int):In (mul x y):=qdk _
theorem div_in (x y:Int):In (div x y):=by
 unfold div
 split
 ·split
  ·exact in_zero
  ·exact edge_in _
 ·exact qdk _
theorem clamp_sgn_big {b:Bool} {n:Nat} (h:9223372036854775808<=n):clamp (sgn b n)=edge b:=by
 cases b
 ·exact clamp_hi (by simp [sgn];omega)
 ·exact clamp_lo (by simp [sgn];omega)
theorem clamp_sgn_small {b:Bool} {n:Nat} (h:n<9223372036854775808):clamp (sgn b n)=sgn b n:=by
 cases b<;>exact clamp_id (by unfold In;simp [sgn];omega)
def sum (l:List Int):Int:=l.foldl add 0
def dot (a b:List Int):Int:=(a.zip b).foldl (λs p=>add s (mul p.1 p.2)) 0
theorem qeL {α:Type} (f:Int->α->Int) (hf:∀s x,In (f s x)) (l:List α) (s:Int) (hs:In s):In (l.foldl f s):=by
 induction l generalizing s with
 | nil=>exact hs
 | cons x r ih=>exact ih _ (hf s x)
theorem sum_in (l:List Int):In (sum l):=qeL _ (λs x=>add_in s x) _ _ in_zero
theorem dot_in (a b:List Int):In (dot a b):=qeL _ (λs x=>add_in _ _) _ _ in_zero
def held (x low high:Int):Int:=if high<x then high else if x<low then low else x
theorem held_in {x low high:Int} (hx:In x) (hl:In low) (hh:In high):In (held x low high):=by unfold held;split<;>(try split)<;>assumption
def neg (x:Int):Int:=if x = -9223372036854775808 then 9223372036854775807 else -x
end Fx
theorem qeM (v:BitVec 64):IntKind.i64.wrap (v.toNat:Int)<0↔v.msb=true:=by
 have:=v.isLt;rw [IntKind.wrap_i64,BitVec.msb_eq_decide];simp;omega
theorem qbP {a:Int} (h:Fx.In a):(BitVec.ofInt 64 a).msb=decide (a<0):=by
 unfold Fx.In at h;rw [BitVec.msb_eq_decide,BitVec.toNat_ofInt];simp only [decide_eq_decide];omega
theorem qfX (n:Int):Fx.In (IntKind.i64.wrap n):=by unfold Fx.In;rw [IntKind.wrap_i64];omega
theorem qfY {a b:Int} (ha:Fx.In a) (hb:Fx.In b):bits .xor .i64 a b<0↔(decide (a<0) != decide (b<0))=true:=by
 show IntKind.i64.wrap ((BitVec.ofInt 64 a ^^^ BitVec.ofInt 64 b).toNat:Int)<0↔_
 rw [qeM,BitVec.msb_xor,qbP ha,qbP hb]
theorem qfZ (o:BinOp) (a b:Int):Fx.In (bits o .i64 a b):=qfX _
theorem and_neg {a b:Int} (ha:Fx.In a) (hb:Fx.In b):bits .and .i64 a b<0↔a<0/\b<0:=by
 show IntKind.i64.wrap ((BitVec.ofInt 64 a &&& BitVec.ofInt 64 b).toNat:Int)<0↔_
 rw [qeM,BitVec.msb_and,qbP ha,qbP hb];simp
theorem add_over {x y s:Int} (hx:Fx.In x) (hy:Fx.In y) (hs:s=IntKind.i64.wrap (x+y)):bits .and .i64 (bits .xor .i64 x s) (bits .xor .i64 y s)<0↔¬Fx.In (x+y):=by
 have ha:Fx.In s:=by rw [hs];exact qfX _
 rw [and_neg (qfZ _ _ _) (qfZ _ _ _),qfY hx ha,qfY hy ha];simp only [bne_iff_ne,ne_eq,decide_eq_decide];unfold Fx.In at *;rw [IntKind.wrap_i64] at hs;omega
theorem add_no {x y:Int} (h:Fx.In (x+y)):IntKind.i64.wrap (x+y)=Fx.add x y:=by
 unfold Fx.add;rw [Fx.clamp_id h];unfold Fx.In at h;rw [IntKind.wrap_i64];omega
theorem add_yes {x y:Int} (hx:Fx.In x) (hy:Fx.In y) (h:¬Fx.In (x+y)):Fx.add x y=Fx.edge (decide (x<0)):=by
 unfold Fx.add;unfold Fx.In at *
 by_cases hn:x<0
 ·rw [Fx.clamp_lo oZ];simp [Fx.edge,hn]
 ·rw [Fx.clamp_hi oZ];simp [Fx.edge,hn]
theorem qbq (b:Bool) (w:Zp1):Calls Tryz.prog 110 #[.bool b] w λe w'=>e=.returned (.int .i64 (Fx.edge b))/\w=w':=by
 cases b
 all_goals
  go_enter Tryz.func110,Tryz.ntmps110;go_wp2_with fail;go_ret;exact ⟨rfl,rfl⟩
theorem qeo (n:Int):wrap64 n=IntKind.i64.wrap n:=by unfold wrap64;rw [IntKind.wrap_i64]
theorem qaM (x y:Int) (w:Zp1) (hx:Fx.In x) (hy:Fx.In y):Calls Tryz.prog 55 #[.int .i64 x,.int .i64 y] w λe w'=>e=.returned (.int .i64 (Fx.add x y))/\w=w':=by
 have H:=zI (add_over hx hy rfl)
 by_cases h:Fx.In (x+y)
 ·have HA:=zI (add_no h)
  have b1 : -9223372036854775808<=x+y:=h.1;have b2:x+y<=9223372036854775807:=h.2;have HB:=zI (show IntKind.i64.wrap (x+y)=x+y from Zc1 _ ⟨b1,b2⟩)
  have hB:0<=bits .and .i64 (bits .xor .i64 x (x+y)) (bits .xor .i64 y (x+y)):=by
   have:=H.out;rw [HB.out] at this;exact Int.not_lt.1 λk=>(this.1 k) h
  clear H hx hy h;go_enter Tryz.func55,Tryz.ntmps55;go_wp2_with fail;go_ret;exact ⟨qa9 (by rw [←HA.out,HB.out]),rfl⟩
 ·have HA:=zI (add_yes hx hy h)
  have hB:bits .and .i64 (bits .xor .i64 x (wrap64 (x+y))) (bits .xor .i64 y (wrap64 (x+y)))<0:=by
   rw [qeo];exact H.out.2 h
  clear H hx hy;have Hh:=zI h;clear h;go_enter Tryz.func55,Tryz.ntmps55;go_wp2_with fail;refine (qbq _ _).mono ?_;rintro e w1 ⟨rfl,rfl⟩;go_wp2_with fail;go_ret;exact ⟨qa9 HA.out.symm,rfl⟩
theorem qcn (x:Int) (w:Zp1) (hx:Fx.In x):Calls Tryz.prog 109 #[.int .i64 x] w λe w'=>e=.returned (.int .u64 (x.natAbs:Int))/\w=w':=by
 obtain ⟨h1,h2⟩:=hx
 by_cases h:x<0
 ·have e:IntKind.u64.wrap (-IntKind.u64.wrap x)=(x.natAbs:Int):=by rw [IntKind.wrap_u64,IntKind.wrap_u64];omega
  have E:=zI e;clear e;go_enter Tryz.func109,Tryz.ntmps109;go_wp2_with fail;go_ret;exact ⟨qa9 E.out,rfl⟩
 ·have E:=zI (show x=(x.natAbs:Int) by omega)
  go_enter Tryz.func109,Tryz.ntmps109;go_wp2_with fail;go_ret;exact ⟨qa9 E.out,rfl⟩
theorem qah (q:Int) (b:Bool) (w:Zp1) (h0:0<=q) (hq:q<18446744073709551616):Calls Tryz.prog 111 #[.int .u64 q,.bool b] w λe w'=>e=.returned (.int .i64 (Fx.clamp (Fx.sgn b q.toNat)))/\w=w':=by
 by_cases h:9223372036854775808<=q
 ·have HE:=zI (Fx.clamp_sgn_big (b:=b) (n:=q.toNat) oZ)
  cases b
  all_goals
   go_enter Tryz.func111,Tryz.ntmps111;go_wp2_with fail;refine (qbq _ _).mono ?_;rintro e w1 ⟨rfl,rfl⟩;go_wp2_with fail;go_ret;exact ⟨qa9 HE.out.symm,rfl⟩
 ·have HE:=λb=>Fx.clamp_sgn_small (b:=b) (n:=q.toNat) oZ
  have E1:=zI (HE true);have E2:=zI (HE false);clear HE;have ha:q<=9223372036854775807:=by omega
  clear hq h;cases b
  ·have E:=zI (show q=Fx.sgn false q.toNat by simp [Fx.sgn];omega)
   go_enter Tryz.func111,Tryz.ntmps111;go_wp2_with fail;go_ret;exact ⟨qa9 (by rw [E2.out];exact E.out),rfl⟩
  ·have E:=zI (show -q=Fx.sgn true q.toNat by simp [Fx.sgn];omega)
   go_enter Tryz.func111,Tryz.ntmps111;go_wp2_with fail;go_ret;exact ⟨qa9 (by rw [E1.out];exact E.out),rfl⟩
theorem qbe {x:Int} (h:Fx.In x):x.natAbs<=9223372036854775808:=by unfold Fx.In at h;omega
theorem qdW {x:Int} (h:Fx.In x):x.natAbs<18446744073709551616:=Nat.lt_of_le_of_lt (qbe h) dZ
theorem qf8 {x y:Int} (hx:Fx.In x) (hy:Fx.In y):x.natAbs*y.natAbs<=85070591730234615865843651857942052864:=Nat.mul_le_mul (qbe hx) (qbe hy)
theorem u64_join (p:Nat) (hp:p<39614081257132168796771975168):bits .or .u64 (((p / 18446744073709551616:Nat):Int)*4294967296) (((p % 18446744073709551616:Nat):Int) / 4294967296)=((p / 4294967296:Nat):Int):=by
 have e1:(((p / 18446744073709551616:Nat):Int)*4294967296)=((p / 18446744073709551616*4294967296:Nat):Int):=by omega
 have e2:(((p % 18446744073709551616:Nat):Int) / 4294967296)=((p % 18446744073709551616 / 4294967296:Nat):Int):=by omega
 rw [e1,e2,bits_or_u64_nat _ _ oZ oZ,or_mul _ _ 32 4294967296 dZ oZ];omega
theorem qeN (p:Nat):bits .and .u64 ((p % 18446744073709551616:Nat):Int) 4294967295=((p % 4294967296:Nat):Int):=by
 have h:=bits_and_u64_nat (p % 18446744073709551616) 4294967295 oZ oZ;have e:p % 18446744073709551616 &&& 4294967295=p % 18446744073709551616 % 4294967296:=Nat.and_two_pow_sub_one_eq_mod _ 32;rw [e] at h;refine h.trans ?_;omega
theorem qg0 (q:Nat) (hq:q<18446744073709551616):bits .and .u64 (q:Int) 1=((q % 2:Nat):Int):=by
 have h:=bits_and_u64_nat q 1 hq oZ;rw [Nat.and_one_is_mod] at h;exact h
set_option maxRecDepth 20000 in
theorem qaA (x y:Int) (w:Zp1) (hx:Fx.In x) (hy:Fx.In y):Calls Tryz.prog 54 #[.int .i64 x,.int .i64 y] w λe w'=>e=.returned (.int .i64 (Fx.mul x y))/\w=w':=by
 obtain ⟨HX,HY⟩:=zd2 hx hy;clear hx hy;go_enter Tryz.func54,Tryz.ntmps54;go_wp2_with fail;generalize hN:(!(decide (x<0)==decide (y<0)))=nb;have HN:=zI (show Fx.neg2 x y=nb from hN);clear hN;refine (qcn x _ HX.out).mono ?_;rintro e w1 ⟨rfl,rfl⟩;go_wp2_with fail;refine (qcn y _ HY.out).mono ?_;rintro e w1 ⟨rfl,rfl⟩;go_wp2_with fail;refine (Tryz.bits_Mul64 x.natAbs y.natAbs (qdW HX.out) (qdW HY.out) _).mono ?_;rintro e w1 ⟨rfl,hd⟩;subst hd;obtain ⟨p,hp⟩:∃p,p=x.natAbs*y.natAbs:=⟨_,rfl⟩
 have HP:=zI hp;rw [←hp];have ha:p<=85070591730234615865843651857942052864:=by rw [hp];exact qf8 HX.out HY.out
 clear hp;obtain ⟨hi,hhi⟩:∃hi:Int,hi=((p / 18446744073709551616:Nat):Int):=⟨_,rfl⟩
 obtain ⟨lo,hlo⟩:∃lo:Int,lo=((p % 18446744073709551616:Nat):Int):=⟨_,rfl⟩
 rw [←hhi,←hlo];have b1:0<=hi:=by omega
 have b2:0<=lo:=by omega
 have b3:hi<4611686018427387905:=by omega
 have b4:lo<=18446744073709551615:=by omega
 obtain ⟨HH,HL,hb⟩:=zd3 hhi hlo ha;clear hhi hlo ha
 by_cases h:2147483648<=hi
 ·have HE:RowKit.Hid (Fx.edge nb=Fx.mul x y):=by
   have h1:=HH.out;unfold Fx.mul;rw [←HP.out,HN.out];refine (Fx.clamp_sgn_big ?_).symm;unfold Fx.rnd
   split<;>omega
  go_wp2_with fail;refine (qbq nb _).mono ?_;rintro e w1 ⟨rfl,rfl⟩;go_wp2_with fail;go_ret;exact ⟨qa9 HE.out,rfl⟩
 ·have hc:p<39614081257132168796771975168:=by have:=HH.out;have:=hb.out;omega
  have j1:=u64_join p hc;have j2:=qeN p;have j3:=qg0 (p / 4294967296) oZ;rw [←HH.out,←HL.out] at j1;rw [←HL.out] at j2;obtain ⟨q,hq⟩:∃q:Int,q=((p / 4294967296:Nat):Int):=⟨_,rfl⟩
  obtain ⟨r,hr⟩:∃r:Int,r=((p % 4294967296:Nat):Int):=⟨_,rfl⟩
  obtain ⟨t,ht⟩:∃t:Int,t=((p / 4294967296 % 2:Nat):Int):=⟨_,rfl⟩
  have q0:0<=q:=by omega
  have q1:q<=9223372036854775807:=by omega
  have r0:0<=r:=by omega
  have r1:r<=4294967295:=by omega
  rw [←hq] at j1 j3;rw [←hr] at j2;rw [←ht] at j3;obtain ⟨HQ,HR,HT,Hl⟩:=zd4 hq hr ht hc;clear hq hr ht hc
  have key:∀z:Int,0<=z->z.toNat=Fx.rnd p 4294967296->Fx.clamp (Fx.sgn nb z.toNat)=Fx.mul x y:=λz _ hz=>by
   unfold Fx.mul;rw [←HP.out,HN.out,hz]
  have Hk:=zI key;clear key
  by_cases h1:2147483648<r
  ·have d1:decide (2147483648<r)=true:=by simpa using h1
   have d2:(r==2147483648)=false:=by simp;omega
   have hz:(q+1).toNat=Fx.rnd p 4294967296:=by
    have:=HQ.out;have:=HR.out;unfold Fx.rnd;rw [if_pos oZ];omega
   have Hz:=zI hz;clear hz h1;go_wp2_with fail;refine (qah (q+1) nb _ oZ oZ).mono ?_;rintro e w1 ⟨rfl,rfl⟩;go_wp2_with fail;go_ret;exact ⟨qa9 (Hk.out _ oZ Hz.out),rfl⟩
  ·have d1:decide (2147483648<r)=false:=by simpa using h1
   by_cases h2:r=2147483648
   ·have d2:(r==2147483648)=true:=by simpa using h2
    by_cases h3:t=1
    ·have d3:(t==1)=true:=by simpa using h3
     have hz:(q+1).toNat=Fx.rnd p 4294967296:=by
      have:=HQ.out;have:=HR.out;have:=HT.out;unfold Fx.rnd;rw [if_pos oZ];omega
     have Hz:=zI hz;clear hz h1 h2 h3;go_wp2_with fail;refine (qah (q+1) nb _ oZ oZ).mono ?_;rintro e w1 ⟨rfl,rfl⟩;go_wp2_with fail;go_ret;exact ⟨qa9 (Hk.out _ oZ Hz.out),rfl⟩
    ·have d3:(t==1)=false:=by simpa using h3
     have hz:q.toNat=Fx.rnd p 4294967296:=by
      have:=HQ.out;have:=HR.out;have:=HT.out;unfold Fx.rnd;rw [if_neg oZ];omega
     have Hz:=zI hz;clear hz h1 h2 h3;go_wp2_with fail;refine (qah q nb _ oZ oZ).mono ?_;rintro e w1 ⟨rfl,rfl⟩;go_wp2_with fail;go_ret;exact ⟨qa9 (Hk.out _ oZ Hz.out),rfl⟩
   ·have d2:(r==2147483648)=false:=by simpa using h2
    have hz:q.toNat=Fx.rnd p 4294967296:=by
     have:=HQ.out;have:=HR.out;have:=HT.out;unfold Fx.rnd;rw [if_neg oZ];omega
    have Hz:=zI hz;clear hz h1 h2;go_wp2_with fail;refine (qah q nb _ oZ oZ).mono ?_;rintro e w1 ⟨rfl,rfl⟩;go_wp2_with fail;go_ret;exact ⟨qa9 (Hk.out _ oZ Hz.out),rfl⟩
namespace Kd
def more (q r b v:Nat):Bool:=decide (4294967296<=q) || decide (4294967296*r+v<q*b)
section
variable {u v y a b q r:Nat}
theorem digit_lt (hv:v<4294967296) (hu:u<y):(u*4294967296+v) / y<4294967296:=by
 rw [Nat.div_lt_iff_lt_mul oZ];have:(u+1)*4294967296<=y*4294967296:=mlZ _ hu;rw [Nat.mul_comm 4294967296 y];omega
theorem qdl (hy:y=a*4294967296+b):q*y=q*a*4294967296+q*b:=by rw [hy,Nat.mul_add,Nat.mul_assoc]
theorem step (hy:y=a*4294967296+b) (hv:v<4294967296) (hu:u<y) (hq:u=q*a+r) (h:more q r b v=true):(u*4294967296+v) / y<q:=by
 simp only [more,Bool.or_eq_true,decide_eq_true_eq] at h
 by_cases h1:4294967296<=q
 ·exact ltZ (digit_lt hv hu) h1
 ·rw [Nat.div_lt_iff_lt_mul oZ,qdl hy]
  omega
theorem stop (hy:y=a*4294967296+b) (hq:u=q*a+r) (hy0:0<y) (h:more q r b v=false):q<=(u*4294967296+v) / y:=by
 simp only [more,Bool.or_eq_false_iff,decide_eq_false_iff_not] at h;rw [Nat.le_div_iff_mul_le hy0,qdl hy];omega
theorem stop_brk (hy:y=a*4294967296+b) (hq:u=q*a+r) (hy0:0<y) (hb:b<4294967296) (hq1:q<=4294967296) (hr:4294967296<=r):q<=(u*4294967296+v) / y:=by
 rw [Nat.le_div_iff_mul_le hy0,qdl hy];have h1:q*b<=4294967296*b:=mlZ _ hq1;omega
theorem first (ha:2147483648<=a) (hy:y=a*4294967296+b) (hb:b<4294967296) (hu:u<y):u / a<=4294967297:=by
 have:u / a<4294967298:=by
  rw [Nat.div_lt_iff_lt_mul oZ];omega
 omega
structure Inv (u v y a b q r:Nat):Prop where
 eq:u=q*a+r
 ge:(u*4294967296+v) / y<=q
 le:q<=4294967297
theorem Inv.start (ha:2147483648<=a) (hy:y=a*4294967296+b) (hb:b<4294967296) (hv:v<4294967296) (hu:u<y):Inv u v y a b (u / a) (u-u / a*a):=by
 have h0:=Nat.div_mul_le_self u a;refine ⟨by omega,?_,first ha hy hb hu⟩;rw [←Nat.lt_add_one_iff,Nat.div_lt_iff_lt_mul oZ];have h2:u<(u / a+1)*a:=by rw [←Nat.div_lt_iff_lt_mul oZ];omega
 have h3:(u / a+1)*y=(u / a+1)*a*4294967296+(u / a+1)*b:=qdl hy;rw [h3];generalize (u / a+1)*a=t at *;generalize (u / a+1)*b=t2 at *;omega
theorem Inv.next (h:Inv u v y a b q r) (hy:y=a*4294967296+b) (hv:v<4294967296) (hu:u<y) (hm:more q r b v=true):1<=q/\q-1<=4294967296/\Inv u v y a b (q-1) (r+a):=by
 have h1:=step hy hv hu h.eq hm;have h2:=h.le
 have h5:(u*4294967296+v) / y<=q-1:=by
  generalize (u*4294967296+v) / y=d at h1;omega
 have h6:1<=q:=Nat.lt_of_le_of_lt (Zt _) h1;clear h1
 have h3:q*a=(q-1)*a+a:=by
  obtain ⟨n,rfl⟩:∃n,q=n+1:=⟨q-1,by omega⟩
  rw [Nat.add_sub_cancel,Zu]
 have h4:=h.eq;exact ⟨h6,by omega,⟨by omega,h5,by omega⟩⟩
theorem Inv.done (h:Inv u v y a b q r) (hy:y=a*4294967296+b) (hy0:0<y) (hm:more q r b v=false):q=(u*4294967296+v) / y:=
 Nat.le_antisymm (stop hy h.eq hy0 hm) h.ge
theorem Inv.brk (h:Inv u v y a b q r) (hy:y=a*4294967296+b) (hy0:0<y) (hb:b<4294967296) (hq:q<=4294967296) (hr:4294967296<=r):q=(u*4294967296+v) / y:=
 Nat.le_antisymm (stop_brk hy h.eq hy0 hb hq hr) h.ge
end
theorem two0 {u v1 v0 y q1 r1:Nat} (hy:0<y) (h1:y*q1+r1=u*4294967296+v1):
  (u*18446744073709551616+v1*4294967296+v0) / y=q1*4294967296+(r1*4294967296+v0) / y/\(u*18446744073709551616+v1*4294967296+v0) % y=(r1*4294967296+v0) % y:=by
 have e:u*18446744073709551616+v1*4294967296+v0=y*(q1*4294967296)+(r1*4294967296+v0):=by
  rw [←Nat.mul_assoc];omega
 rw [e,Nat.mul_add_div hy,Nat.mul_add_mod];exact And.intro rfl rfl
theorem two {u v1 v0 y:Nat} (hy:0<y):
  (u*18446744073709551616+v1*4294967296+v0) / y=(u*4294967296+v1) / y*4294967296+((u*4294967296+v1) % y*4294967296+v0) / y/\
  (u*18446744073709551616+v1*4294967296+v0) % y=((u*4294967296+v1) % y*4294967296+v0) % y:=
 two0 hy (Nat.div_add_mod (u*4294967296+v1) y)
theorem shifted (n y s:Nat):n*2 ^ s / (y*2 ^ s)=n / y/\n*2 ^ s % (y*2 ^ s) / 2 ^ s=n % y:=by
 have hp:0<2 ^ s:=Nat.two_pow_pos s;refine ⟨Nat.mul_div_mul_right _ _ hp,?_⟩;rw [Nat.mul_mod_mul_right,Nat.mul_div_cancel _ hp]
theorem words {hi lo s:Nat} (hs:s<64) (hlo:lo<18446744073709551616):
  (hi*18446744073709551616+lo)*2 ^ s=(hi*2 ^ s+lo / 2 ^ (64-s))*18446744073709551616+lo*2 ^ s % 18446744073709551616:=by
 have e:(18446744073709551616:Nat)=2 ^ (64-s)*2 ^ s:=by rw [←Nat.pow_add,show 64-s+s=64 by omega]
 have hp:0<2 ^ s:=Nat.two_pow_pos s;have h1:lo*2 ^ s / 18446744073709551616=lo / 2 ^ (64-s):=by rw [e,Nat.mul_div_mul_right _ _ hp]
 have h2:=Nat.div_add_mod (lo*2 ^ s) 18446744073709551616;rw [h1] at h2;rw [Nat.add_mul,Nat.mul_right_comm];generalize hi*2 ^ s=x at *;generalize lo / 2 ^ (64-s)=z at *;omega
theorem low_lt {lo s:Nat} (hs:s<64) (hlo:lo<18446744073709551616):lo / 2 ^ (64-s)<2 ^ s:=by
 rw [Nat.div_lt_iff_lt_mul (Nat.two_pow_pos _),←Nat.pow_add,show s+(64-s)=64 by omega];exact hlo
theorem high_lt {hi lo y s:Nat} (hs:s<64) (hlo:lo<18446744073709551616) (h:hi<y):hi*2 ^ s+lo / 2 ^ (64-s)<y*2 ^ s:=by
 have h1:=low_lt hs hlo;have h2:(hi+1)*2 ^ s<=y*2 ^ s:=mlZ _ h;rw [Zu] at h2;omega
end Kd
end Go.Proofs.YtbnnpkcfifejmaaGreat
