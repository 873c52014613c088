/- Lemmas for the statements of this seat: contracts of functions and the plain laws. -/
import Derived.BigQuiet
import Derived.ChangeSame
import Derived.Deep.CutBlock
import Derived.Deep.DeepCutAuto
import Derived.Deep.Fields
import Derived.Deep.RegionHeld3
import Derived.Deep.Slices
import Derived.Defers
import Derived.Laws.Bits64b
import Derived.Lib.BitFns
import Derived.Lib.Hide
import Derived.Maps.AppendAt
import Derived.OpenShut
import Derived.ProofKit
import Derived.Recover
import Derived.WalkKit
import Derived.Test.YtimfcikmpllbpaaGreatChecked
import Derived.Test.YtimfcikmpllbpaaGreatZ02
set_option linter.unusedVariables false
open Go.IntKind renaming i64 → iQ
open Go.Value renaming int → nQ, slice → sQ
open List renaming take_succ_eq_append_getElem → Zb, replicate → Zc, drop_eq_getElem_cons → Zd, length_append → Ze, all_eq_true → Zf, take_length → Zg, mem_of_mem_take → Zh, getElem?_eq_none → Zi, flatMap_append → Zj, getElem?_toArray → Zk, getElem?_append_right → Zl, getElem?_append_left → Zm, take_append_drop → Zn, length_take → Zo, mem_of_mem_drop → Zp, length_drop → Zq, getElem?_set_self → Zr, getElem?_set_ne → Zs
open Nat renaming zero_le → Zt, succ_mul → Zu, le_trans → Zv, zero_add → Zw, add_zero → Zx, le_succ → Zy
open Bool renaming and_eq_true → Zz
open Go.Value renaming int → Za1, slice → Zb1
open Go.IntWalk renaming i64_in → Zc1
open Go.NoPanic renaming normal → Zd1
open Go.RowKit.Below renaming refl → Ze1
open Go.AllReadyH renaming cons → Zf1, nil → Zg1
open Go.World renaming size_alloc → Zh1, cell?_of_block → Zi1, block_lt_of_cell? → Zj1
open Go renaming bodyPost_ret → Zk1, wp_region_held_drew → Zl1, wp_region_noPanic → Zm1, wpAnyH_done → Zn1, wpAnyH_ready → Zo1, World → Zp1
namespace Go.Proofs.YtimfcikmpllbpaaGreat
set_option maxHeartbeats 16000000
set_option maxRecDepth 20000
open Go.RowKit
theorem qeo {L:List Value} {o:Nat} {v:Value} {r:List Value} (h:o+(v::r).length<=L.length):splice (L.set o v) (o+1) r=splice L o (v::r):=by
 simp only [List.length_cons] at h;unfold splice
 have e1:(L.set o v).take (o+1)=L.take o++[v]:=by
  rw [Zb soZ,List.take_set_of_le (lrZ _)];simp
 rw [e1,List.drop_set_of_lt oZ];simp [Nat.add_assoc,Nat.add_comm 1]
theorem qao {g:Nat} {t:TypeId}:∀(vs:List Value) (o:Nat) (w:Zp1) (L:List Value),Blk w g t L.toArray->o+vs.length<=L.length->Blk (w.setCells g o vs) g t (splice L o vs).toArray
 | [],o,w,L,h,_=>by rw [qcl];exact h
 | v::r,o,w,L,h,hl=>by
  rw [←qeo hl];refine qao r (o+1) _ _ ?_ (by simp at hl ⊢;omega);have:=h.set_ o v;simpa using this
theorem qaQ {S:Nat->Prop} {g:Nat} (hg:S g):∀(vs:List Value) (o:Nat) (w0 w:Zp1),Fr S w0 w->Fr S w0 (w.setCells g o vs)
 | [],_,_,_,h=>h
 | v::r,o,w0,w,h=>qaQ hg r (o+1) w0 _ (h.setCell (λ_=>hg) v)
theorem qg9 {S:Nat->Prop} {w w1:Zp1} (h:Fr S w w1):∀(vs:List Value) (o:Nat),Fr S w (w1.setCells w.heap.size o vs)
 | [],_=>h
 | v::r,o=>qg9 (h.setCell (p:=⟨w.heap.size,o,none⟩) (λq=>absurd q (Nat.lt_irrefl _)) v) r (o+1)
theorem Blk.shape {w:Zp1} {g:Nat} {t:TypeId} {cs:Array Value} (h:Blk w g t cs):w.shape? g=some (t,cs.size):=by
 unfold Blk at h;simp [World.shape?,h]
theorem Blk.own {w:Zp1} {B g n:Nat} {t:TypeId} {L:List Value} {xs:List Value} (h:Blk w g t L.toArray) (hB:B<=g) (hn:xs.length=n) (hl:n<=L.length) (hm:L.length<=maxLen) (ht:L.take n=xs) {c:Nat} (hc:c=L.length):
  w.ownsRow B t 1 (sQ (some ⟨g,0,none⟩) n c) n xs:=by
 subst hc;exact ⟨by omega,.inr ⟨g,_,_,rfl,hB,h,hl,hm,by simp,by simpa using ht⟩⟩
def qga (B:Nat) (t:TypeId) (v:Value) (zs:List Int) (w:Zp1) (e:Ending) (w':Zp1):Prop:=
 ∃v',e=.returned v'/\w'.ownsRow B t 1 v' zs.length (zs.map (Za1 iQ))/\Fr (λb=>v.ownBlock=some b) w w'/\(v'.ownBlock=v.ownBlock∨v'.ownBlock=some w.heap.size)
theorem qdf (A X Y B:List Value) (h:X.length=Y.length):splice (A++(X++B)) A.length Y=A++(Y++B):=by
 unfold splice;rw [List.take_append_of_le_length (lrZ _),Zg,←h,←Ze,←List.append_assoc A X B,List.drop_left]
theorem ins_a {Z D:List Value} {x:Value} {i:Nat} (hi:i<Z.length) (hD:1<=D.length):splice (splice (Z++D) (i+1) (Z.drop i)) i [x]=Z.take i++x::Z.drop i++D.drop 1:=by
 obtain ⟨d,D',rfl⟩:∃d D',D=d::D':=by cases D with|nil=>simp at hD|cons d D'=>exact ⟨d,D',rfl⟩
 obtain ⟨A,b,B,rfl,rfl⟩:∃A b B,Z=A++b::B/\i=A.length:=⟨Z.take i,Z[i],Z.drop (i+1),by rw [←Zd hi,Zn],by simp;omega⟩
 rw [List.drop_left,List.take_left];have e1:A++b::B++d::D'=(A++[b])++((B++[d])++D'):=by simp
 have e2:A.length+1=(A++[b]).length:=by simp
 rw [e1,e2,qdf _ _ (b::B) _ sZ];have e3:A++[b]++(b::B++D')=A++([b]++(b::B++D')):=by simp
 rw [e3,qdf _ [b] [x] _ rfl];simp
theorem ins_b {Z Z1 Z2:List Value} {x:Value} {i:Nat} (hi:i<Z.length) (h1:Z1.length=Z.length+1-i):splice (splice (Z.take i++Z1++Z2) i [x]) (i+1) (Z.drop i)=Z.take i++x::Z.drop i++Z2:=by
 obtain ⟨d,D,rfl⟩:∃d D,Z1=d::D:=by cases Z1 with|nil=>simp at h1;omega|cons d D=>exact ⟨d,D,rfl⟩
 obtain ⟨A,B,rfl,rfl⟩:∃A B,Z=A++B/\i=A.length:=⟨Z.take i,Z.drop i,(Zn _ _).symm,by simp;omega⟩
 rw [List.drop_left,List.take_left];have e1:A++d::D++Z2=A++([d]++(D++Z2)):=by simp
 rw [e1,qdf _ [d] [x] _ rfl];have e2:A++([x]++(D++Z2))=(A++[x])++(D++Z2):=by simp
 have e3:A.length+1=(A++[x]).length:=by simp
 rw [e2,e3,qdf _ _ B _ (by simp at h1;omega)];simp
theorem qcd {zs:List Int} {x:Int} {i:Nat} (h:i<=zs.length):(zs.take i++x::zs.drop i).length=zs.length+1:=by simp;omega
theorem Blk.cells_map {w:Zp1} {g:Nat} {t:TypeId} {L xs:List Value} {n:Nat} (h:Blk w g t L.toArray) (ht:L.take n=xs):∀j v,xs[j]? = some v->w.cell? ⟨g,0+j,none⟩=some v:=λj v hj=>by
 rw [Zw,h.cell j];subst ht;rw [List.getElem?_take] at hj
 split at hj
 ·simpa using hj
 ·cases hj
theorem qdI {zs:List Int}:∀v∈zs.map (Za1 iQ),v.oneCell'=true:=λv hv=>by
 obtain ⟨x,_,rfl⟩:=List.mem_map.1 hv
 rfl
theorem qfh (B:Nat) (v:Value) (zs:List Int) (x:Int) (i vb:Nat) (w:Zp1) (hi:i<=zs.length) (hn:zs.length<=1099511627776) (hB:B<=w.heap.size) (hown:w.ownsRow B 3 1 v zs.length (zs.map (Za1 iQ))) (hv:Blk w vb 3 #[nQ iQ x]) (hvb:v.ownBlock≠some vb):
  Calls Tryz.prog 120 #[v,nQ iQ i,sQ (some ⟨vb,0,none⟩) 1 1] w (qga B 3 v (zs.take i++x::zs.drop i) w):=by
 have hf:∀j u,[Za1 iQ x][j]? = some u->w.cell? ⟨vb,0+j,none⟩=some u:=λj u hj=>by
  match j,hj with
  | 0,hj=>simp at hj;subst hj;rw [hv.cell];rfl
 have hl:∀u∈[Za1 iQ x],u.oneCell'=true:=λu hu=>by simp at hu;subst hu;rfl
 have hF:maxLen=9223372036854775807:=rfl;rcases hown.2 with ⟨rfl,h0⟩|⟨g,cap,cur,rfl,hx,hh,hL,hw,hA,hC⟩
 ·have hz:zs=[]:=List.eq_nil_of_length_eq_zero h0
  subst hz;obtain rfl:i=0:=by simpa using hi
  refine (Any2.slices_Insert_int_end_grow qcn none 0 0 vb 0 1 1 [] [nQ iQ x] w oZ oZ oZ oZ rfl rfl (λ_=>rfl) (λa h=>by cases h) hf hl).mono ?_;rintro e w' ⟨rfl,rfl⟩;have hg:=grownCap_ge w (0+1) 0 3;have hp:=grownCap_le_maxLen w (0+1) 0 3 (by unfold maxLen;omega);refine ⟨_,rfl,?_,((Fr.refl _ w).drew).alloc _,.inr rfl⟩;have hk:=Blk.new w.drew 3 (([]++[Za1 iQ x]).toArray++Builtin.zeroCells (Za1 iQ 0).cells (grownCap w (0+1) 0 3-(0+1)))
  have hJ:Blk (w.drew.alloc (.cells (([]++[Za1 iQ x]).toArray++Builtin.zeroCells (Za1 iQ 0).cells (grownCap w (0+1) 0 3-(0+1))) 3)) w.heap.size 3 (([Za1 iQ x]++(Builtin.zeroCells (Za1 iQ 0).cells (grownCap w (0+1) 0 3-(0+1))).toList).toArray):=by
   have e:(([Za1 iQ x]++(Builtin.zeroCells (Za1 iQ 0).cells (grownCap w (0+1) 0 3-(0+1))).toList).toArray)=([]++[Za1 iQ x]).toArray++Builtin.zeroCells (Za1 iQ 0).cells (grownCap w (0+1) 0 3-(0+1)):=by
    apply Array.ext';simp
   rw [e];exact hk
  have hy:(Builtin.zeroCells (Za1 iQ 0).cells (grownCap w (0+1) 0 3-(0+1))).toList.length=grownCap w (0+1) 0 3-(0+1):=by
   rw [Array.length_toList,size_zeroCells];simp [Value.cells]
  exact hJ.own hB rfl sZ (by simp only [Ze,hy,List.length_singleton];omega) sZ (by simp only [Ze,hy,List.length_singleton];show grownCap w (0+1) 0 3=_;omega)
 ·have hk:Blk w g 3 cur.toList.toArray:=by simpa [Blk] using hh
  have hm:cur.toList.length=cap:=by simpa using hA
  have hc:cur.toList.take zs.length=zs.map (Za1 iQ):=by simpa using hC
  have hq:=hk.cells_map hc;have hD:g≠vb:=λh=>hvb (by rw [h];rfl)
  have hr:(zs.map (Za1 iQ)).length=zs.length:=by simp
  by_cases hb:zs.length+1<=cap
  ·by_cases ht:i<zs.length
   ·refine (Any2.slices_Insert_int_shift qcn g 0 zs.length cap i vb 0 1 1 (zs.map (Za1 iQ)) [nQ iQ x] w ht oZ hb oZ (λh=>hD h.symm) hr rfl hq ?_ ?_ hf qdI hl 3 3 1 cap ?_ ?_ oZ ?_ ?_).mono ?_
    ·intro j hj;rw [Zw,hk.cell];simp;omega
    ·intro j hj;exact hk.frozen _
    ·exact hv.shape
    ·rw [hk.shape];simp [hA]
    ·exact hv.frozen _
    ·exact hv.frozen _
    ·rintro e w' ⟨rfl,rfl⟩
     have hd:(List.drop i (zs.map (Za1 iQ))).length=zs.length-i:=by simp
     have k1:=qao ((zs.map (Za1 iQ)).drop i) (0+(i+1)) w.drew _ hk.drew (by rw [hd,hm];omega);have k2:=qao [Za1 iQ x] (0+i) _ _ k1 (by simp [splice];omega);refine ⟨_,rfl,?_,qaQ (by rfl) _ _ _ _ (qaQ (by rfl) _ _ _ _ (Fr.refl _ w).drew),.inl rfl⟩
     have ha:(splice (splice cur.toList (0+(i+1)) ((zs.map (Za1 iQ)).drop i)) (0+i) [Za1 iQ x]).length=cap:=by
      simp only [splice,Ze,Zo,Zq,List.length_singleton,hd,hm];omega
     rw [qcd hi];refine k2.own hx soZ (by rw [ha];omega) (by rw [ha];exact hw) ?_ ha.symm;rw [Zw,Zw];have e0:cur.toList=zs.map (Za1 iQ)++cur.toList.drop zs.length:=by rw [←hc];exact (Zn _ _).symm
     rw [e0];generalize cur.toList.drop zs.length=D at *;generalize hZ:zs.map (Za1 iQ)=Z at *;have hE:i<Z.length:=by omega
     have hI:1<=D.length:=by rw [e0,Ze] at hm;omega
     rw [ins_a hE hI];have:(Z.take i++Za1 iQ x::Z.drop i).length=zs.length+1:=by simp;omega
     rw [List.take_append_of_le_length oZ,List.take_of_length_le oZ];rw [←hZ];simp [List.map_take,List.map_drop]
   ·obtain rfl:i=zs.length:=by omega
    refine (Any2.slices_Insert_int_end_room qcn g 0 zs.length cap vb 0 1 1 [nQ iQ x] w oZ hb oZ rfl ?_ ?_ hf hl).mono ?_
    ·intro j hj;rw [Zw,hk.cell];simp;omega
    ·intro j hj;exact hk.frozen _
    ·rintro e w' ⟨rfl,rfl⟩
     have k1:=qao [Za1 iQ x] (0+zs.length) w _ hk soZ;refine ⟨_,rfl,?_,qaQ (by rfl) _ _ _ _ (Fr.refl _ w),.inl rfl⟩
     have ha:(splice cur.toList (0+zs.length) [Za1 iQ x]).length=cap:=by
      simp only [splice,Ze,Zo,Zq,List.length_singleton,hm];omega
     rw [qcd (lrZ _)];refine k1.own hx sZ (by rw [ha];omega) (by rw [ha];exact hw) ?_ ha.symm;rw [Zw];unfold splice;rw [hc,←List.append_assoc];rw [List.take_append_of_le_length sZ,List.take_of_length_le sZ];simp
  ·have hK:cap=zs.length:=by omega
   subst hK;have hg:=grownCap_ge w (zs.length+1) zs.length 3;have hp:=grownCap_le_maxLen w (zs.length+1) zs.length 3 (by unfold maxLen;omega)
   by_cases ht:i<zs.length
   ·refine (Any2.slices_Insert_int_grow qcn g 0 zs.length zs.length i vb 0 1 1 (zs.map (Za1 iQ)) [nQ iQ x] w ht oZ oZ oZ oZ hr rfl hq hf qdI hl).mono ?_
    rintro e w' ⟨rfl,rfl⟩;have ho:(Builtin.zeroCells (Za1 iQ 0).cells (zs.length+1-i)).toList.length=zs.length+1-i:=by rw [Array.length_toList,size_zeroCells];simp [Value.cells]
    have he:(Builtin.zeroCells (Za1 iQ 0).cells (grownCap w (zs.length+1) zs.length 3-(zs.length+1))).toList.length=grownCap w (zs.length+1) zs.length 3-(zs.length+1):=by rw [Array.length_toList,size_zeroCells];simp [Value.cells]
    generalize hZ1:Builtin.zeroCells (Za1 iQ 0).cells (zs.length+1-i)=Z1 at *;have hT:insRen.t 3=3:=rfl;rw [hT] at *;generalize hZ2:Builtin.zeroCells (Za1 iQ 0).cells (grownCap w (zs.length+1) zs.length 3-(zs.length+1))=Z2 at *;generalize hG:grownCap w (zs.length+1) zs.length 3=G at *
    have hs:Blk (w.alloc (.cells (((zs.map (Za1 iQ)).take i).toArray++Z1++Z2) 3)).drew w.heap.size 3 (((zs.map (Za1 iQ)).take i++Z1.toList++Z2.toList).toArray):=by
     have:=Blk.new w 3 (((zs.map (Za1 iQ)).take i).toArray++Z1++Z2)
     have e:(((zs.map (Za1 iQ)).take i++Z1.toList++Z2.toList).toArray)=((zs.map (Za1 iQ)).take i).toArray++Z1++Z2:=by
      apply Array.ext';simp
     rw [e];exact this.drew
    have hH:((zs.map (Za1 iQ)).take i).length=i:=by simp;omega
    have hd:((zs.map (Za1 iQ)).drop i).length=zs.length-i:=by simp
    have k1:=qao [Za1 iQ x] i _ _ hs (by simp only [Ze,hH,ho,he,List.length_singleton];omega);have k2:=qao ((zs.map (Za1 iQ)).drop i) (i+1) _ _ k1.drew (by simp only [splice,Ze,Zo,Zq,List.length_singleton,ho,he,List.length_map];omega);refine ⟨_,rfl,?_,?_,.inr rfl⟩
    ·have ha:(splice (splice ((zs.map (Za1 iQ)).take i++Z1.toList++Z2.toList) i [Za1 iQ x]) (i+1) ((zs.map (Za1 iQ)).drop i)).length=G:=by
      simp only [splice,Ze,Zo,Zq,List.length_singleton,ho,he,List.length_map];omega
     rw [qcd hi];refine k2.own hB soZ (by rw [ha];omega) (by rw [ha];exact hp) ?_ ha.symm;generalize hZ:zs.map (Za1 iQ)=Z at *;rw [ins_b oZ oZ];have:(Z.take i++Za1 iQ x::Z.drop i).length=zs.length+1:=by simp;omega
     rw [List.take_append_of_le_length oZ,List.take_of_length_le oZ];rw [←hZ];simp [List.map_take,List.map_drop]
    ·have f1:Fr (λb=>(Zb1 (some ⟨g,0,none⟩) zs.length zs.length).ownBlock=some b) w (w.alloc (.cells (((zs.map (Za1 iQ)).take i).toArray++Z1++Z2) 3)):=(Fr.refl _ w).alloc _
     exact qg9 (qg9 f1.drew _ _).drew _ _
   ·obtain rfl:i=zs.length:=by omega
    refine (Any2.slices_Insert_int_end_grow qcn (some ⟨g,0,none⟩) zs.length zs.length vb 0 1 1 (zs.map (Za1 iQ)) [nQ iQ x] w oZ (lrZ _) oZ oZ hr rfl (λh=>by cases h) (λa h=>by injection h with h;subst h;intro j u hj;have:=hq j u hj;rw [Addr.add_lit];simpa using this) hf hl).mono ?_;rintro e w' ⟨rfl,rfl⟩;have hT:insRen.t 3=3:=rfl;rw [hT] at *;have he:(Builtin.zeroCells (Za1 iQ 0).cells (grownCap w (zs.length+1) zs.length 3-(zs.length+1))).toList.length=grownCap w (zs.length+1) zs.length 3-(zs.length+1):=by rw [Array.length_toList,size_zeroCells];simp [Value.cells]
    generalize hZ2:Builtin.zeroCells (Za1 iQ 0).cells (grownCap w (zs.length+1) zs.length 3-(zs.length+1))=Z2 at *;generalize hG:grownCap w (zs.length+1) zs.length 3=G at *;refine ⟨_,rfl,?_,((Fr.refl _ w).drew).alloc _,.inr rfl⟩
    have hs:Blk (w.drew.alloc (.cells ((zs.map (Za1 iQ)++[Za1 iQ x]).toArray++Z2) 3)) w.heap.size 3 ((zs.map (Za1 iQ)++[Za1 iQ x]++Z2.toList).toArray):=by
     have:=Blk.new w.drew 3 ((zs.map (Za1 iQ)++[Za1 iQ x]).toArray++Z2)
     have e:((zs.map (Za1 iQ)++[Za1 iQ x]++Z2.toList).toArray)=(zs.map (Za1 iQ)++[Za1 iQ x]).toArray++Z2:=by
      apply Array.ext';simp
     rw [e];exact this
    have ha:(zs.map (Za1 iQ)++[Za1 iQ x]++Z2.toList).length=G:=by simp only [Ze,List.length_map,List.length_singleton,he];omega
    rw [qcd (lrZ _)];refine hs.own hB sZ (by rw [ha];omega) (by rw [ha];exact hp) ?_ ha.symm;rw [List.take_append_of_le_length sZ,List.take_of_length_le sZ];simp
theorem qfi (B:Nat) (v:Value) (x:Int) (zs:List Int) (w:Zp1) (hn:(x::zs).length<=1099511627776) (hown:w.ownsRow B 3 1 v (x::zs).length ((x::zs).map (Za1 iQ))):
  Calls Tryz.prog 118 #[v,nQ iQ 0,nQ iQ 1] w (qga B 3 v zs w):=by
 have hm:maxLen=9223372036854775807:=rfl;rcases hown.2 with ⟨rfl,h0⟩|⟨g,cap,cur,rfl,hi,hh,hc,ho,hl,hg⟩
 ·simp at h0
 ·have hk:Blk w g 3 cur.toList.toArray:=by simpa [Blk] using hh
  have he:cur.toList.length=cap:=by simpa using hl
  have hd:cur.toList.take (x::zs).length=(x::zs).map (Za1 iQ):=by simpa using hg
  have hf:=hk.cells_map hd;refine (Tryz.slices_Delete_int_cells g 0 (x::zs).length cap 0 1 (x::zs) w (lrZ _) hc oZ oZ sZ ?_ ?_).mono ?_
  ·intro j hj
   refine hf j _ ?_;rw [List.getElem?_map,geZ hj,gdZ,geZ hj]
   rfl
  ·intro j hj;exact hk.frozen _
  ·rintro e w' ⟨rfl,q,rfl⟩
   have hb:((((x::zs).take (x::zs).length).take 0++((x::zs).take (x::zs).length).drop 1++Zc (1-0) 0).map (Za1 iQ))=zs.map (Za1 iQ)++[Za1 iQ 0]:=by simp
   rw [hb];have k1:=qao (zs.map (Za1 iQ)++[Za1 iQ 0]) 0 (w.drewN q) _ (hk.drewN q) (by rw [he];simp at hc ⊢;omega);refine ⟨_,rfl,?_,qaQ (by rfl) _ _ _ _ ((Fr.refl _ w).drewN q),.inl rfl⟩
   have ha:(splice cur.toList 0 (zs.map (Za1 iQ)++[Za1 iQ 0])).length=cap:=by
    simp only [splice,Ze,Zo,Zq,List.length_singleton,List.length_map,he];simp at hc;omega
   refine k1.own hi sZ (by rw [ha];simp at hc ⊢;omega) (by rw [ha];exact ho) ?_ ha.symm;unfold splice;simp
theorem qfj (B:Nat) (v:Value) (x:Int) (zs:List Int) (w:Zp1) (hn:zs.length<=1099511627776) (hs:zs.Pairwise (·<=·)) (hown:w.ownsRow B 3 1 v zs.length (zs.map (Za1 iQ))):
  Calls Tryz.prog 119 #[v,nQ iQ x] w λe w'=>(∃b,e=.returned (.tuple #[nQ iQ (zs.countP (·<x):Nat),.bool b]))/\∃q,w'=w.drewN q:=by
 rcases hown.2 with ⟨rfl,h0⟩|⟨g,cap,cur,rfl,he,hh,hd,hg,hf,hc⟩
 ·have:zs=[]:=List.eq_nil_of_length_eq_zero h0
  subst this;refine (Tryz.slices_BinarySearch_int_empty none 0 x w).mono ?_;rintro e w' ⟨rfl,rfl⟩;exact ⟨⟨_,rfl⟩,0,rfl⟩
 ·have hk:Blk w g 3 cur.toList.toArray:=by simpa [Blk] using hh
  have ha:cur.toList.take zs.length=zs.map (Za1 iQ):=by simpa using hc
  have hb:=hk.cells_map ha;refine (Tryz.slices_BinarySearch_int g 0 zs.length cap zs x w (lrZ _) oZ ?_ (by rw [Zg];exact hs)).mono ?_
  ·intro j hj
   refine hb j _ ?_;rw [List.getElem?_map,geZ hj,gdZ,geZ hj]
   rfl
  ·rintro e w' ⟨rfl,q,rfl⟩
   rw [Zg];exact ⟨⟨_,rfl⟩,q,rfl⟩
theorem qfk:(Tryz.prog.info? 22).map (λi=>(i.zero,i.size,i.bytes))=some (some (sQ none 0 0),1,24):=by kernel_rfl
def Two (C:Nat) (t:TypeId) (w:Zp1) (r o:Value) (zr zo:List Int):Prop:=
 w.ownsRow C t 1 r zr.length (zr.map (Za1 iQ))/\w.ownsRow C t 1 o zo.length (zo.map (Za1 iQ))/\∀b,r.ownBlock=some b->o.ownBlock≠some b
section
variable {C:Nat} {t:TypeId} {w w':Zp1} {r o r' o':Value} {zr zo zr' zo':List Int} {S:Nat->Prop}
theorem Two.fr (h:Two C t w r o zr zo) (hf:Fr S w w') (hS:∀b,S b->¬C<=b):Two C t w' r o zr zo:=
 ⟨qbl h.1 hf λb hb hs=>hS b hs (h.1.lt b hb).1,qbl h.2.1 hf λb hb hs=>hS b hs (h.2.1.lt b hb).1,h.2.2⟩
theorem Two.new (h:Two C t w r o zr zo) (x:Obj):Two C t (w.alloc x) r o zr zo:=h.fr ((Fr.refl (λ_=>False) w).alloc x) λ_ h=>h.elim
theorem Two.left (h:Two C t w r o zr zo) (hf:Fr (λb=>r.ownBlock=some b) w w') (ho:w'.ownsRow C t 1 r' zr'.length (zr'.map (Za1 iQ))) (ha:r'.ownBlock=r.ownBlock∨r'.ownBlock=some w.heap.size):Two C t w' r' o zr' zo:=
 ⟨ho,qbl h.2.1 hf λb hb hs=>h.2.2 b hs hb,λb hb ho=>by
  rcases ha with e|e
  ·exact h.2.2 b (e▸hb) ho
  ·rw [e] at hb;injection hb with hb;subst hb;have:=(h.2.1.lt _ ho).2;omega⟩
theorem Two.right (h:Two C t w r o zr zo) (hf:Fr (λb=>o.ownBlock=some b) w w') (ho:w'.ownsRow C t 1 o' zo'.length (zo'.map (Za1 iQ))) (ha:o'.ownBlock=o.ownBlock∨o'.ownBlock=some w.heap.size):Two C t w' r o' zr zo':=
 ⟨qbl h.1 hf λb hb hs=>h.2.2 b hb hs,ho,λb hb ho=>by
  rcases ha with e|e
  ·exact h.2.2 b hb (e▸ho)
  ·rw [e] at ho;injection ho with ho;subst ho;have:=(h.1.lt _ hb).2;omega⟩
end
def qeS (os:List Int) (w:Zp1) (e:Ending) (w':Zp1):Prop:=
 ∃A c,e=.returned (sQ A os.length c)/\Ints iQ w' A os/\os.length<=c/\c<=9223372036854775807/\Below w.heap.size w w'
section
variable {X:Nat->Prop} {B:Nat} {w w':Zp1} {g:Nat} {t e:TypeId} {us:List (List Int)}
theorem URow.at3 (h:URow X B w g t e us) {j:Nat} (hj:j<us.length) (hlt:∀b,X b->b<w.heap.size):
  ∃v,w.cell? ⟨g,j,none⟩=some v/\(∀b,v.ownBlock=some b->¬X b)/\∀W:Zp1,(∀b,b<w.heap.size->(b=g∨¬X b)->W.heap[b]? = w.heap[b]?)->w.heap.size<=W.heap.size->
   W.ownsRow B e 1 v us[j].length (us[j].map (Za1 iQ))/\
   ∀(v':Value) (w1:Zp1) (x:Int),w1.ownsRow B e 1 v' (us[j].length+1) (us[j].map (Za1 iQ)++[nQ iQ x])->W.grownBy w1 v.ownBlock->(v'.ownBlock=v.ownBlock∨v'.ownBlock=some W.heap.size)->
    w1.cell? ⟨g,j,none⟩=some v/\w1.frozen? ⟨g,j,none⟩=false/\URow X B (w1.setCell ⟨g,j,none⟩ v') g t e (us.set j (us[j]++[x])):=by
 obtain ⟨v,hc,ho,hx,-⟩:=h.at_ hlt hj;refine ⟨v,hc,hx,λW ha hs=>?_⟩;have hW:=h.agree ha;obtain ⟨v2,hd,hg,hh,hf⟩:=hW.at_ (λb hb=>ltZ (hlt b hb) hs) hj
 have hv:v2=v:=by
  have e:=Zi1 (w:=w) (w':=W) (a:=⟨g,j,none⟩) (ha g h.lt (.inl rfl));rw [hd,hc] at e;injection e
 subst hv;refine ⟨hg,λv' w1 x h1 h2 h3=>?_⟩;have he:some g≠v2.ownBlock:=λq=>hh g q.symm h.1
 have hi:g<W.heap.size:=ltZ h.lt hs;refine ⟨h2.cell hd he,?_,hf v' w1 x h1 h2 h3⟩;obtain ⟨_,vs,_,hk,_⟩:=hW;exact (hk.grown h2 he).frozen j
theorem URow.shut (h:URow (λb=>b<B) B w g t e us):URow (λb=>b<B∨w.heap.size<=b) B w g t e us:=by
 obtain ⟨hg,vs,hl,hk,ho,hx,hd⟩:=h;refine ⟨.inl hg,vs,hl,hk,ho,λj v b hv hb=>?_,hd⟩;have h1:¬b<B:=hx j v b hv hb;have hj:j<us.length:=by rw [←hl];exact (List.getElem?_eq_some_iff.1 hv).1
 have h2:=((ho j hj v hv).lt b hb).2;omega
def SInv (tN:TypeId) (box:Array Value) (B C g2:Nat) (tL tI:TypeId) (ws:List Int) (us:List (List Int)) (w wr:Zp1):Prop:=
 Blk wr w.heap.size tN box/\Below w.heap.size w wr/\C<=wr.heap.size/\Blk wr (w.heap.size+1) tI (ws.map (Za1 iQ)).toArray/\URow (λb=>b<B∨C<=b) B wr g2 tL tI us
section
variable {tN:TypeId} {box:Array Value} {C g2:Nat} {tL tI:TypeId} {ws:List Int} {wr wr':Zp1} {S:Nat->Prop}
theorem SInv.fr (h:SInv tN box B C g2 tL tI ws us w wr) (hf:Fr S wr wr') (hS:∀b,S b->C<=b) (h1:w.heap.size+1<B) (h2:B<=C) (h3:g2<B):SInv tN box B C g2 tL tI ws us w wr':=by
 obtain ⟨a1,a2,a3,a4,a5⟩:=h;have hn:∀b,b<C->¬S b:=λb hb hs=>by have:=hS b hs;omega
 refine ⟨hf.blk a1 (hn _ oZ),a2.trans (hf.below (λb hb=>by have:=hS b hb;omega) a2.size),Zv a3 hf.size,hf.blk a4 (hn _ oZ),a5.agree λb hb ho=>hf.2 b hb (hn b ?_)⟩;rcases ho with rfl|ho
 ·omega
 ·omega
theorem SInv.wait (h:SInv tN box B C g2 tL tI ws us w wr) (u:Nat) (z:Int) (h1:w.heap.size+1<B) (h2:B<=C) (h3:g2≠w.heap.size+1):SInv tN box B C g2 tL tI (ws.set u z) us w (wr.setCell ⟨w.heap.size+1,u,none⟩ (nQ iQ z)):=by
 obtain ⟨a1,a2,a3,a4,a5⟩:=h;refine ⟨a1.far sZ _,a2.setCell (p:=⟨w.heap.size+1,u,none⟩) sZ _,by simpa using a3,?_,a5.agree λb hb ho=>Below.heap_setCell wr _ _ b ?_⟩
 ·have:=a4.set_ u (nQ iQ z)
  simpa [List.map_set] using this
 ·rcases ho with rfl|ho
  ·exact h3
  ·simp;omega
theorem SInv.read (h:SInv tN box B C g2 tL tI ws us w wr) {j:Nat} (hj:j<us.length):∃A c,wr.cell? ⟨g2,j,none⟩=some (sQ A us[j].length c)/\Ints iQ wr A us[j]/\∀a,A=some a->B<=a.block/\a.block<C:=by
 obtain ⟨a1,a2,a3,a4,hg,vs,hl,hk,ho,hx,hd⟩:=h;have hv:vs[j]? = some vs[j]:=geZ oZ;obtain ⟨A,c,e,_,hI⟩:=Ints.of_own (ho j hj _ hv);refine ⟨A,c,by rw [hk.cell j];simpa [e] using hv,hI,λa ha=>?_⟩;subst ha;rcases (ho j hj _ hv).2 with ⟨h1,_⟩|⟨g,cap,cur,h1,h2,_⟩
 ·rw [h1] at e;cases e
 ·rw [e] at h1
  injection h1 with h1
  injection h1 with h1
  subst h1;have:=hx j _ g hv (by rw [e];rfl);exact ⟨h2,by simp at this;simp;omega⟩
end
end
theorem Kn.mid_le (I:Int->List Int) (out a:List Int) (u:Int):Kn.mid I out a u<=(I u).length:=by
 unfold Kn.mid Kn.wt;have:=List.length_filter_le (λi=>!(i==0)&&!out.contains i) (I u);omega
def slen:Value->Nat
 | .slice _ n _=>n
 | _=>0
theorem qfl (A N:Option Addr) (c d:Nat) (n:NetD) (w:Zp1) (Hf:n.ok) (h512:n.nodes.length<=512) (hR:NetR w A N n) (hd:n.nodes.length<=d) (hins:∀v∈n.nodes,∀i∈v.ins,0<=i/\i<=n.nodes.length):
  Calls Tryz.prog 80 #[.agg #[sQ A n.inn.length c,sQ N n.nodes.length d]] w (qeS (Nt.sorted n.nodes) w):=by
 obtain ⟨i0,hi,HS,HQ,H1⟩:=info_parts qb0;obtain ⟨i1,hj,Go,GA,Gz⟩:=info_parts qfk;have HB:=Hf.2.2
 have Hl:∀u,(Nt.insF n.nodes u).length<=1048576:=λu=>by
  unfold Nt.insF Nt.node;rw [gdZ];cases h:n.nodes[u.toNat-1]? with
  | none=>simp [Nt.none_]
  | some v=>exact (HB v (List.mem_of_getElem? h)).2.2.1
 have HY:∀k (h:k<n.nodes.length),Nt.insF n.nodes ((k:Int)+1)=n.nodes[k].ins:=λk h=>by unfold Nt.insF;rw [Nt.node_at h]
 have Hp:Nt.sorted n.nodes=Kn.order (Nt.insF n.nodes) n.nodes.length:=rfl;generalize Nt.insF n.nodes=I at *;generalize Nt.sorted n.nodes=os at *;have g8:=Blk.new w 26 #[sQ A n.inn.length c,sQ N n.nodes.length d];have gX:Below w.heap.size w (w.alloc (.cells #[sQ A n.inn.length c,sQ N n.nodes.length d] 26)):=(Ze1 _ _).alloc (lrZ _) _;obtain ⟨HR,gx,gE,hH,gG,HL⟩:=zd6 hR hins HB Hl HY Hp;clear hR hins HB Hl HY Hp;clear Hf;have e1:iQ.wrap ((n.nodes.length:Int)+1)=((n.nodes.length+1:Nat):Int):=by rw [Zc1 _ oZ];omega
 go_enter Tryz.func80,Tryz.ntmps80;go_wp2_with (at_make;refine wpList_make_full _ rfl _ _ 22 rfl w.heap.size 3 i0 (nQ iQ 0) 1 Tryz.underlying22 hi HS HQ _ _ _ _ (n.nodes.length+1) rfl rfl (by first|rfl|simp|(go_simp;rfl)) (by first|rfl|simp|(go_simp;rfl)) ?b2 ?b3 ?b4 ?_)
 case b2=>rw [H1];omega
 case b3=>unfold maxLen;omega
 case b4=>simp
 intro w1 hown hgrow;have hD:=qau hown;rw [qax] at hD;have GI:w.heap.size+2<=w1.heap.size:=by have:=lt_of_block hD;omega
 have gY:Blk w1 (w.heap.size+1) 3 ((Kn.wl I n.nodes.length 0 []).map (Za1 iQ)).toArray:=by
  rw [Kn.wl_zero,List.map_replicate];simpa [Blk] using hD
 have gj:Below w.heap.size w w1:=gX.grown hgrow sZ sZ;have hf:Blk w1 w.heap.size 26 #[sQ A n.inn.length c,sQ N n.nodes.length d]:=g8.grown hgrow sZ;have x1:w1.cell? ⟨w.heap.size,1,none⟩=some (sQ N n.nodes.length d):=by rw [hf.cell];rfl
 obtain ⟨hh,g9⟩:=zd2 hf gY;clear hf gY;clear hD hown hgrow g8;go_wp2_with (at_make;refine wpList_make_full _ rfl _ _ 60 rfl w.heap.size 22 i1 (sQ none 0 0) 1 Tryz.underlying60 hj Go GA _ _ _ _ (n.nodes.length+1) rfl rfl (by first|rfl|simp|(go_simp;rfl)) (by first|rfl|simp|(go_simp;rfl)) ?b2 ?b3 ?b4 ?_)
 case b2=>rw [Gz];omega
 case b3=>unfold maxLen;omega
 case b4=>exact gj.size
 intro w2 hown hgrow;have hD:=qau hown;rw [qax] at hD;obtain ⟨g2,hg2⟩:∃g2,w1.heap.size=g2:=⟨_,rfl⟩
 have gl:Below w.heap.size w w2:=gj.grown hgrow gj.size sZ;have hV:=hh.out.grown hgrow sZ;have Gk:=g9.out.grown hgrow sZ;have x1:w2.cell? ⟨w.heap.size,1,none⟩=some (sQ N n.nodes.length d):=by rw [hV.cell];rfl
 have hL:Blk w2 g2 22 (Zc (n.nodes.length+1) (Zb1 none 0 0)).toArray:=by rw [←hg2];simpa [Blk] using hD
 have hU:URow (λb=>b<w2.heap.size) w2.heap.size w2 g2 22 3 (Kn.ul I n.nodes.length 0 []):=by rw [Kn.ul_zero];exact URow.new hL.lt hL
 have hv:g2<w2.heap.size:=hL.lt;have GF:w.heap.size+1<g2:=by omega
 rw [hg2];obtain ⟨Hi,Gc,HU⟩:=zd3 hV Gk hU;clear hV Gk hU;clear hD hown hgrow hh g9 hL gj;obtain ⟨B,hB⟩:∃B,w2.heap.size=B:=⟨_,rfl⟩
 rw [hB] at HU hv;go_wp2_with fail;clear x1;have gv:¬g2=w.heap.size+1:=by omega
 have gr:¬w.heap.size+1=g2:=by omega
 have gy:¬w.heap.size=g2:=by omega
 have Gt:¬g2=w.heap.size:=by omega
 go_loopw [30] (λi wr=>∃k:Nat,k<=n.nodes.length/\i=nQ iQ k/\Blk wr w.heap.size 26 #[sQ A n.inn.length c,sQ N n.nodes.length d]/\Below w.heap.size w wr/\B<=wr.heap.size/\Blk wr (w.heap.size+1) 3 ((Kn.wl I n.nodes.length k []).map (Za1 iQ)).toArray/\URow (λb=>b<B) B wr g2 22 3 (Kn.ul I n.nodes.length k [])) (λi _=>n.nodes.length-(intOf i).toNat)
 case atStart=>exact ⟨0,Zt _,rfl,Hi.out,gl,by omega,Gc.out,HU.out⟩
 case round=>
  obtain ⟨k,hk,rfl,hf,HE,g3,H3,hU⟩:=hrel;clear Hi Gc HU gl hg2 hB
  by_cases HH:k<n.nodes.length
  ·
   obtain ⟨b,off,S,sc,J,ic,Q,qc,rfl,gD,-,hI,-⟩:=HR.out.2.at_ HH;have HA:=gE.out _ (gmZ HH);have Gj:=gx.out _ (gmZ HH);have HG:=gG.out k HH;have G0:=HA.2.2.1;generalize n.nodes[k]=v at *;obtain ⟨⟨y0,y1,y2,y3,y4,y5,y6,y7,y8,y9⟩,-⟩:=gD.below HE;have Gf:=HE.alloc HE.size (.cells #[nQ iQ v.op.kind,nQ iQ v.op.k,nQ iQ v.op.width,nQ iQ v.op.step,nQ iQ v.op.side,nQ iQ v.op.frm,nQ iQ v.op.to,sQ S v.op.s.length sc,sQ J v.ins.length ic,sQ Q v.p.length qc] 59);have Hc:=hf.alloc (.cells #[nQ iQ v.op.kind,nQ iQ v.op.k,nQ iQ v.op.width,nQ iQ v.op.step,nQ iQ v.op.side,nQ iQ v.op.frm,nQ iQ v.op.to,sQ S v.op.s.length sc,sQ J v.ins.length ic,sQ Q v.p.length qc] 59);have H5:=H3.alloc (.cells #[nQ iQ v.op.kind,nQ iQ v.op.k,nQ iQ v.op.width,nQ iQ v.op.step,nQ iQ v.op.side,nQ iQ v.op.frm,nQ iQ v.op.to,sQ S v.op.s.length sc,sQ J v.ins.length ic,sQ Q v.p.length qc] 59);have g4:=hU.agree (w':=wr.alloc (.cells #[nQ iQ v.op.kind,nQ iQ v.op.k,nQ iQ v.op.width,nQ iQ v.op.step,nQ iQ v.op.side,nQ iQ v.op.frm,nQ iQ v.op.to,sQ S v.op.s.length sc,sQ J v.ins.length ic,sQ Q v.p.length qc] 59)) (λb hb _=>Below.heap_alloc wr _ b hb);obtain ⟨GN,GL,Gu,hh,Gs,HU,Hn,gb,g6⟩:=zd9 gD HA Gj hf H3 hU Hc H5 g4;have Gw:=zI HG;clear gD HA Gj hf H3 hU Hc H5 g4 HG;go_wp2_with fail;clear y0 y1 y2 y3 y4 y5 y6 y7 y8 y9
   go_loopw [38] (λi wx=>∃m:Nat,m<=v.ins.length/\i=nQ iQ m/\Blk wx w.heap.size 26 #[sQ A n.inn.length c,sQ (some ⟨b,off,none⟩) n.nodes.length d]/\Below w.heap.size w wx/\B<=wx.heap.size/\Blk wx (w.heap.size+1) 3 ((Kn.wl I n.nodes.length k (v.ins.take m)).map (Za1 iQ)).toArray/\URow (λb=>b<B) B wx g2 22 3 (Kn.ul I n.nodes.length k (v.ins.take m))) (λi _=>v.ins.length-(intOf i).toNat)
   case atStart=>exact ⟨0,Zt _,rfl,Hn.out,Gf,by simp;omega,by rw [List.take_zero];exact gb.out,by rw [List.take_zero];exact g6.out⟩
   case round=>
    obtain ⟨m,hm,rfl,hf,HF,gA,h4,h7⟩:=hrel;clear hh Gs HU Hn gb g6 HE Gf g3
    by_cases Ha:m<v.ins.length
    ·obtain ⟨b1,off1,rfl,-,hc⟩:=(GN.out.below HF).2.2.1 m Ha
     rw [qa2 Ha] at hc;have hr:=Gu.out _ (gmZ Ha);have hP:=Zb Ha
     by_cases hz:v.ins[m]=0
     ·rw [hz] at hc hP
      have HW:=zI (show Kn.wl I n.nodes.length k (v.ins.take (m+1))=Kn.wl I n.nodes.length k (v.ins.take m) by rw [hP,Kn.wl_skip]);have HV:=zI (show Kn.ul I n.nodes.length k (v.ins.take (m+1))=Kn.ul I n.nodes.length k (v.ins.take m) by rw [hP,Kn.ul_skip]);obtain ⟨HT,gp,hh⟩:=zd3 h4 h7 hf;clear h4 h7 hf;clear hz hP hr;go_wp2_with fail;go_roundw
      case rel=>exact ⟨m+1,by omega,by go_num,hh.out,HF,gA,by rw [HW.out];exact HT.out,by rw [HV.out];exact gp.out⟩
      case measure=>simp [intOf];omega
     ·have HW:=zI (show Kn.wl I n.nodes.length k (v.ins.take (m+1))=_ by rw [hP,Kn.wl_in _ _ _ _ hz])
      have h5:=Kn.ul_in I n.nodes.length k (v.ins.take m) hz hr.1;rw [←hP] at h5;obtain ⟨u,hu⟩:∃u:Nat,v.ins[m]=u:=⟨v.ins[m].toNat,by omega⟩
      have G4:((u:Int) != 0)=true:=by rw [←hu];simp [hz]
      rw [hu] at hc hr h5;rw [show ((u:Int)).toNat=u by omega] at h5;have Gi:u<(Kn.ul I n.nodes.length k (v.ins.take m)).length:=by rw [Kn.ul_len];omega
      have gd:=Kn.ul_at I n.nodes.length k (v.ins.take m) Gi;rw [←gd] at h5;have HV:=zI h5;have GP:(Kn.ul I n.nodes.length k (v.ins.take m))[u].length<=(k+1)*1048576:=by rw [gd];exact Kn.uMid_le hH.out k soZ _
      have gZ:(k+1)*1048576<=536870912:=by
       have:(k+1)*1048576<=512*1048576:=mlZ _ oZ;omega
      have GB:=Kn.wMid_le hH.out k (l:=v.ins.take m) soZ ((k:Int)+1);obtain ⟨q,hq⟩:∃q,Kn.wMid I k (v.ins.take m) ((k:Int)+1)=q:=⟨_,rfl⟩
      rw [hq] at GB HW
      have GT:wr.cell? ⟨w.heap.size+1,k+1,none⟩=some (nQ iQ (q:Int)):=by
       have e:=Kn.wl_at I n.nodes.length k (v.ins.take m) (u:=k+1) oZ;rw [h4.cell];simp only [Zk,List.getElem?_map,e];rw [show ((k+1:Nat):Int)=(k:Int)+1 by omega,hq]
       rfl
      have gh:=h4.frozen (k+1);obtain ⟨vv,GO,gu,gg⟩:=h7.at3 Gi (λb hb=>by omega);have gV:wr.heap.size<=((wr.setCell ⟨w.heap.size+1,k+1,none⟩ (nQ iQ ((q:Int)+1))).alloc (.cells #[nQ iQ ((k:Int)+1)] 3)).heap.size:=by simp
      obtain ⟨ho,gg⟩:=gg ((wr.setCell ⟨w.heap.size+1,k+1,none⟩ (nQ iQ ((q:Int)+1))).alloc (.cells #[nQ iQ ((k:Int)+1)] 3)) (λb hb gl=>by
       rw [Below.heap_alloc _ _ b (by simpa using hb)];exact Below.heap_setCell wr _ _ b (by rcases gl with h|h<;>simp<;>omega)) gV
      generalize (Kn.ul I n.nodes.length k (v.ins.take m))[u]=uu at *;obtain ⟨Av,cv,rfl⟩:=qa8 ho;have H6:∀b,(Zb1 Av uu.length cv).ownBlock=some b->B<=b:=λb hb=>by have:=gu b hb;omega
      have w1:iQ.wrap ((k:Int)+1)=(k:Int)+1:=Zc1 _ oZ;have w2:iQ.wrap ((q:Int)+1)=(q:Int)+1:=Zc1 _ oZ;have t1:((k:Int)+1).toNat=k+1:=by omega
      have l1:((k:Int)+1)<((n.nodes.length+1:Nat):Int):=by omega
      have l2:(u:Int)<((n.nodes.length+1:Nat):Int):=by omega
      have u0:(0:Int)<=u:=by omega
      obtain ⟨HT,gp,hh,GM,G1,GX,GY,Hq,gB⟩:=zd9 h4 h7 hf gg gd h5 gu hq H6;clear h4 h7 hf gg gd h5 gu hq H6;clear hz hP hu;go_wp2_with (at_builtin;refine wpList_append_own_at _ rfl _ _ 22 rfl B 3 i0 (nQ iQ 0) 1 8 Tryz.underlying22 hi HS HQ H1 rfl dZ _ _ _ rfl ho ⟨wr.heap.size,0,none⟩ 1 1 [nQ iQ ((k:Int)+1)] rfl rfl ?c1 (by intro u hu;simp at hu;subst hu;rfl) (by unfold maxLen;omega) oZ soZ ?_)
      case c1=>
       intro j u hj
       match j,hj with
       | 0,hj=>
        simp at hj;subst hj;have e:=(Blk.new (wr.setCell ⟨w.heap.size+1,k+1,none⟩ (nQ iQ ((q:Int)+1))) 3 #[nQ iQ ((k:Int)+1)]).cell 0;simpa [Addr.add] using e
      intro v' w3 hn hgrow _ gn;obtain ⟨GW,gi,Gd⟩:=GM.out v' w3 _ hn hgrow (by simpa using gn);have gc:=gB.out;have H0:Below w.heap.size w w3:=((HF.setCell (p:=⟨w.heap.size+1,k+1,none⟩) sZ (nQ iQ ((q:Int)+1))).alloc (by simpa using HF.size) (.cells #[nQ iQ ((k:Int)+1)] 3)).grown hgrow (by simp;have:=HF.size;omega) (λb hb=>by have:=gc b hb;omega);have GC:B<=w3.heap.size:=Zv (Zv gA gV) hgrow.size;have hM:=((hh.out.far (p:=⟨w.heap.size+1,k+1,none⟩) sZ (nQ iQ ((q:Int)+1))).alloc (.cells #[nQ iQ ((k:Int)+1)] 3)).grown hgrow (λe=>by have:=gc _ e.symm;omega);have hM:=hM.far (p:=⟨g2,u,none⟩) gy v';have gm:=((HT.out.set_ (k+1) (nQ iQ ((q:Int)+1))).alloc (.cells #[nQ iQ ((k:Int)+1)] 3)).grown hgrow (λe=>by have:=gc _ e.symm;omega);have gm:=gm.far (p:=⟨g2,u,none⟩) gr v';have gL:=H0.setCell (p:=⟨g2,u,none⟩) soZ v';have HK:=zI (show Blk (w3.setCell ⟨g2,u,none⟩ v') (w.heap.size+1) 3 (((Kn.wl I n.nodes.length k (v.ins.take m)).set (k+1) ((q:Int)+1)).map (Za1 iQ)).toArray by simpa [List.map_set] using gm);obtain ⟨Gy,HX⟩:=zd2 Gd hM;clear Gd hM;clear gm gc hgrow gn H0 GO;obtain ⟨A9,c9,rfl⟩:=qa8 hn;clear hn;go_wp2_with fail;go_roundw
      case rel=>exact ⟨m+1,by omega,by go_num,HX.out,gL,by simpa using GC,by rw [HW.out];exact HK.out,by rw [HV.out];exact Gy.out⟩
      case measure=>simp [intOf];omega
    ·obtain rfl:m=v.ins.length:=by omega
     rw [Zg] at h4 h7;have HG:=Gw.out;rw [←HG,Kn.wl_next] at h4;rw [←HG,Kn.ul_next] at h7;obtain ⟨HT,gp,hh⟩:=zd3 h4 h7 hf;clear h4 h7 hf;clear HG;go_wp2_with fail;go_roundw
     case rel=>exact ⟨k+1,by omega,by go_num,hh.out,HF,gA,HT.out,gp.out⟩
     case measure=>simp [intOf];omega
  ·obtain rfl:k=n.nodes.length:=by omega
   obtain ⟨C,hC⟩:∃C,wr.heap.size=C:=⟨_,rfl⟩
   have hinv:SInv 26 #[sQ A n.inn.length c,sQ N n.nodes.length d] B C g2 22 3 (Kn.wl I n.nodes.length n.nodes.length []) (Kn.ul I n.nodes.length n.nodes.length []) w wr:=⟨hf,HE,by omega,H3,by rw [←hC];exact hU.shut⟩
   have h8:B<=C:=by omega
   have h6:w.heap.size+1<B:=by omega
   have hg:=zI hinv;clear hinv;clear H3 hU hf HE g3;go_wp2_with fail;clear hC
   go_loopw [9,10] (λr i wx=>∃k:Nat,k<=n.nodes.length/\i=nQ iQ ((k:Int)+1)/\SInv 26 #[sQ A n.inn.length c,sQ N n.nodes.length d] B C g2 22 3 (Kn.wl I n.nodes.length n.nodes.length []) (Kn.ul I n.nodes.length n.nodes.length []) w wx/\wx.ownsRow C 3 1 r (Kn.rk I k).length ((Kn.rk I k).map (Za1 iQ))) (λ_ i _=>n.nodes.length+1-(intOf i).toNat)
   case atStart=>exact ⟨0,Zt _,rfl,hg.out,by simpa [Kn.rk,Kn.ids] using World.ownsRow_nil wr C 3 1⟩
   case round=>
    obtain ⟨k,hk,rfl,hinv,hown⟩:=hrel;clear hg;have hx:wr.cell? ⟨w.heap.size,1,none⟩=some (sQ N n.nodes.length d):=by rw [hinv.1.cell];rfl
    obtain ⟨Ar,cr,rfl⟩:=qa8 hown
    by_cases HH:k<n.nodes.length
    ·
     have GU:wr.cell? ⟨w.heap.size+1,k+1,none⟩=some (nQ iQ (Kn.wt I [] ((k:Int)+1):Nat)):=by
      have e:=Kn.wl_at I n.nodes.length n.nodes.length [] (u:=k+1) oZ;rw [hinv.2.2.2.1.cell];simp only [Zk,List.getElem?_map,e];rw [show ((k+1:Nat):Int)=(k:Int)+1 by omega,Kn.wMid_end oZ oZ]
      rfl
     have hs:=Kn.rk_succ I k;have hl:=Kn.rk_len I k;generalize Kn.wt I [] ((k:Int)+1)=q at *;have t1:((k:Int)+1).toNat=k+1:=by omega
     have l0:(k:Int)+1<=(n.nodes.length:Int):=by omega
     have l1:((k:Int)+1)<((n.nodes.length+1:Nat):Int):=by omega
     by_cases hq:q=0
     ·subst hq
      rw [ipZ rfl] at hs;have Hr:=hinv.fr ((Fr.refl (λ_=>False) wr).alloc (.cells #[nQ iQ ((k:Int)+1)] 3)) (λb hb=>hb.elim) h6 h8 hv;have ho:=qa6 hown (.cells #[nQ iQ ((k:Int)+1)] 3);have gf:∀b,(Zb1 Ar (Kn.rk I k).length cr).ownBlock=some b->C<=b:=λb hb=>(hown.lt b hb).1
      obtain ⟨hg,Hs,Hm⟩:=zd3 hinv hs Hr;clear hinv hs Hr;clear hown;go_wp2_with (at_builtin;refine wpList_append_own_at _ rfl _ _ 22 rfl C 3 i0 (nQ iQ 0) 1 8 Tryz.underlying22 hi HS HQ H1 rfl dZ _ _ _ rfl ho ⟨wr.heap.size,0,none⟩ 1 1 [nQ iQ ((k:Int)+1)] rfl rfl ?c1 (by intro u hu;simp at hu;subst hu;rfl) (by unfold maxLen;omega) oZ ?c2 ?_)
      case c1=>exact qap wr _ _
      case c2=>exact Hm.out.2.2.1
      intro v' w3 hn hgrow _ gn;have GQ:=zI (Hm.out.fr (Fr.of_grown (S:=λb=>C<=b) hgrow (λb hb _=>gf b hb)) (λb hb=>hb) h6 h8 hv);have GJ:=zI (show w3.ownsRow C 3 1 v' (Kn.rk I (k+1)).length ((Kn.rk I (k+1)).map (Za1 iQ)) by rw [Hs.out];simpa using hn);clear hn hgrow gn;go_wp2_with fail;go_roundw
      case rel=>exact ⟨k+1,by omega,by go_num,GQ.out,GJ.out⟩
      case measure=>simp [intOf];omega
     ·have Gm:((q:Int)==0)=false:=by simp;omega
      rw [inZ hq] at hs;obtain ⟨hg,Hs,Hb⟩:=zd3 hinv hs hown;clear hinv hs hown;go_wp2_with fail;go_roundw
      case rel=>exact ⟨k+1,by omega,by go_num,hg.out,by rw [Hs.out];exact Hb.out⟩
      case measure=>simp [intOf];omega
    ·obtain rfl:k=n.nodes.length:=by omega
     rw [Kn.rk_all] at hown;have l0:¬((n.nodes.length:Int)+1<=(n.nodes.length:Int)):=by omega
     rw [Kn.wm_start] at hinv;have H9:(Kn.rk I n.nodes.length).length=(Kn.ready I n.nodes.length []).length:=by rw [Kn.rk_all]
     rw [H9];have gf:∀b,(Zb1 Ar (Kn.ready I n.nodes.length []).length cr).ownBlock=some b->C<=b/\b<wr.heap.size:=λb hb=>hown.lt b hb
     obtain ⟨hg,Hb,g5⟩:=zd3 hinv hown gf;clear hinv hown gf;go_wp2_with (at_make;refine wpList_make_own _ rfl _ _ 22 rfl C 3 i0 (nQ iQ 0) 1 Tryz.underlying22 hi HS HQ _ _ _ n.nodes.length rfl (by first|rfl|simp|(go_simp;rfl)) (by first|rfl|simp|(go_simp;rfl)) ?b2 ?b3 ?b4 ?_)
     case b2=>first|omega|(rw [H1];omega)
     case b3=>unfold maxLen;omega
     case b4=>exact hg.out.2.2.1
     intro w4 hS hgrow;have Gg:=zI (hg.out.fr (Fr.of_grown (S:=λb=>C<=b) hgrow (λb hb _=>by cases hb)) (λb hb=>hb) h6 h8 hv);have gW:=zI (show Two C 3 w4 (sQ Ar (Kn.ready I n.nodes.length []).length cr) (sQ (some ⟨wr.heap.size,0,none⟩) 0 n.nodes.length) (Kn.ready I n.nodes.length []) [] from ⟨qb1 Hb.out hgrow (λb _ h=>by cases h),hS,λb hb h=>by have:=(g5.out b hb).2;simp [Value.ownBlock] at h;omega⟩);clear hgrow;have HM:=zI hS;clear hS;go_wp2_with fail;clear hx l0 Hb hg g5;generalize hro:Zb1 Ar (Kn.ready I n.nodes.length []).length cr=r0 at *;generalize hoo:Zb1 (some ⟨wr.heap.size,0,none⟩) 0 n.nodes.length=o0 at *;clear hro hoo H9 hk HH x1 e1 gX GI
     go_loopw [9,11] (λr o wx=>∃k:Nat,(Kn.go I n.nodes.length k).length=k/\SInv 26 #[sQ A n.inn.length c,sQ N n.nodes.length d] B C g2 22 3 (Kn.wm I n.nodes.length (Kn.go I n.nodes.length k) []) (Kn.ul I n.nodes.length n.nodes.length []) w wx/\Two C 3 wx r o (Kn.ready I n.nodes.length (Kn.go I n.nodes.length k)) (Kn.go I n.nodes.length k)) (λ_ o _=>n.nodes.length+1-slen o)
     case atStart=>exact ⟨0,rfl,Gg.out,gW.out⟩
     case round=>
      obtain ⟨k,H9,hinv,he⟩:=hrel;clear Gg gW HM;obtain ⟨Ar,cr,rfl⟩:=qa8 he.1;obtain ⟨Ao,co,rfl⟩:=qa8 he.2.1;have Hf:=Kn.go_ok I n.nodes.length k;have hA:=@Kn.go_more I n.nodes.length k;have hw:=@Kn.order_of_stuck I n.nodes.length k H9;generalize Kn.go I n.nodes.length k=out at *;have h0:=@Kn.mid_start I n.nodes.length out;have gN:=Kn.ready_len I n.nodes.length out;have G2:=Hf.len;subst H9;cases hrd:Kn.ready I n.nodes.length out with
      | nil=>
       rw [hrd] at he;have gU:=hw hrd;rw [←HL.out] at gU;subst gU;clear hA h0;obtain ⟨hg,hF,ge,gt,g0⟩:=zd5 hinv he Hf hw hrd;clear hinv he Hf hw hrd;go_wp2_with fail;go_ret;obtain ⟨q1,q2,q3⟩:=qal hF.out.2.1;exact ⟨Ao,co,rfl,q1,q2,q3,hg.out.2.1⟩
      | cons id rest=>
       have hid:id∈Kn.ready I n.nodes.length out:=by rw [hrd];simp
       have GH:=(Kn.mem_ready.1 hid).1;obtain ⟨j,rfl⟩:∃j:Nat,id=(j:Int):=⟨id.toNat,by omega⟩
       replace hA:=hA hrd;replace h0:=h0 hrd;rw [hrd] at he gN;obtain ⟨Gb,-⟩:=qal he.1;obtain ⟨b1,off1,rfl,-,Hw⟩:=Gb 0 sZ;rw [Zx] at Hw;replace Hw:wr.cell? ⟨b1,off1,none⟩=some (nQ iQ (j:Int)):=Hw;have hz:0<rest.length+1:=by omega
       clear hw Gb;have Gp:rest.length+1<=512:=by simp at gN;omega
       clear gN hz;rw [List.length_cons] at he;have hO:=zI hid;clear hid;obtain ⟨hg,hF,ge,HJ,HZ,g0⟩:=zd6 hinv he Hf h0 hA hrd;clear hinv he Hf h0 hA hrd;go_wp2_with fail;refine (qfi C _ _ rest _ soZ hF.out.1).mono ?_;rintro e w5 ⟨v5,rfl,gK,gJ,HP⟩;have He:=hg.out.fr gJ (λb hb=>(hF.out.1.lt b hb).1) h6 h8 hv;have Ht:=hF.out.left gJ gK HP;have Hj:=He.fr ((Fr.refl (λ_=>False) w5).alloc (.cells #[nQ iQ (j:Int)] 3)) (λb hb=>hb.elim) h6 h8 hv;have Hk:=Ht.new (.cells #[nQ iQ (j:Int)] 3);obtain ⟨A5,c5,rfl⟩:=qa8 gK;clear hg hF gJ HP He Ht gK Hw;obtain ⟨h3,hK⟩:=zd2 Hj Hk;clear Hj Hk;go_wp2_with (at_builtin;refine wpList_append_own_at _ rfl _ _ 22 rfl C 3 i0 (nQ iQ 0) 1 8 Tryz.underlying22 hi HS HQ H1 rfl dZ _ _ _ rfl hK.out.2.1 ⟨w5.heap.size,0,none⟩ 1 1 [nQ iQ (j:Int)] rfl rfl ?c1 (by intro u hu;simp at hu;subst hu;rfl) (by unfold maxLen;omega) oZ ?c2 ?_)
       case c1=>exact qap w5 _ _
       case c2=>exact h3.out.2.2.1
       intro v7 w7 Ho hT _ H8;have HC:Fr (λb=>(Zb1 Ao out.length co).ownBlock=some b) _ w7:=Fr.of_grown hT (λb hb _=>hb);have hY:=h3.out.fr HC (λb hb=>(hK.out.2.1.lt b hb).1) h6 h8 hv;have hJ:=hK.out.right (zo':=out++[(j:Int)]) HC (by simpa using Ho) (by simpa using H8);clear h3 hK Ho hT H8 HC;have Ga:j<(Kn.ul I n.nodes.length n.nodes.length []).length:=by rw [Kn.ul_len];omega
       obtain ⟨Au,cu,gR,hX,Gl⟩:=hY.read Ga;have gO:(Kn.ul I n.nodes.length n.nodes.length [])[j]=Kn.users I n.nodes.length (j:Int):=by rw [Kn.ul_at,Kn.uMid_end oZ]
       rw [gO] at gR hX
       have h5:(Kn.users I n.nodes.length (j:Int)).length<=537919488:=by
        have h1:=Kn.uMid_le hH.out n.nodes.length (l:=[]) sZ (j:Int);rw [Kn.uMid_end oZ] at h1;have:(n.nodes.length+1)*1048576<=513*1048576:=mlZ _ oZ;omega
       have gM:=@Kn.mid_end_ready I n.nodes.length out (j:Int) hO.out;have gF:=@Kn.wm_next I n.nodes.length out (j:Int) hO.out;have gS:=λa b u (h:Kn.users I n.nodes.length (j:Int)=a++u::b)=>Kn.mid_pos ge.out hO.out h
       have gQ:=λa b u (h:Kn.users I n.nodes.length (j:Int)=a++u::b)=>Kn.mid_stay ge.out hO.out h
       have gC:=λa b u (h:Kn.users I n.nodes.length (j:Int)=a++u::b)=>Kn.mid_put' ge.out hO.out h
       obtain ⟨us,husd⟩:∃us,Kn.users I n.nodes.length (j:Int)=us:=⟨_,rfl⟩
       rw [husd] at gR hX h5 gM gF gS gQ gC;obtain ⟨A7,c7,rfl⟩:=qa8 hJ.2.1;generalize hro:Zb1 A5 rest.length c5=r5 at *;clear hro;rw [←HJ.out] at hJ;have j0:(0:Int)<=(j:Int):=by omega
       have j1:(j:Int)<((n.nodes.length+1:Nat):Int):=by omega
       obtain ⟨Hg,Hd,gw,g1,Gr,Gn,GK,GG,Gq⟩:=zd9 hY hJ hX Gl gO husd gM gF gS;obtain ⟨GE,Gx⟩:=zd2 gQ gC;clear hY hJ hX Gl gO husd gM gF gS gQ gC;clear g0 HJ;go_wp2_with fail;clear Gr;clear gR j0 j1 Ga
       go_loopw [9,101] (λr i wx=>∃m:Nat,m<=us.length/\i=nQ iQ m/\SInv 26 #[sQ A n.inn.length c,sQ N n.nodes.length d] B C g2 22 3 (Kn.wm I n.nodes.length out (us.take m)) (Kn.ul I n.nodes.length n.nodes.length []) w wx/\Two C 3 wx r (sQ A7 (out++[(j:Int)]).length c7) (Kn.midReady I n.nodes.length out (j:Int) (us.take m)) (out++[(j:Int)])/\Ints iQ wx Au us) (λ_ i _=>us.length-(intOf i).toNat)
       case atStart=>exact ⟨0,Zt _,rfl,Hg.out,Hd.out,gw.out⟩
       case round=>
        obtain ⟨m,hm,rfl,hinv,he,hX⟩:=hrel;clear Hg Hd gw
        by_cases Ha:m<us.length
        ·have hZ:us=us.take m++us[m]::us.drop (m+1):=by rw [←Zd Ha,Zn]
         have hP:=Zb Ha;obtain ⟨b1,off1,rfl,-,Hw⟩:=hX m Ha;rw [qa2 Ha] at Hw;obtain ⟨p1,p2,p3,p4,p5⟩:=Gq.out _ _ _ hZ;have Hy:=GE.out _ _ _ hZ;have HD:=Gx.out _ _ _ hZ;have HI:=@Kn.wm_in I n.nodes.length out (us.take m) us[m] p3;rw [←hP] at Hy HD HI p5;obtain ⟨u,hu⟩:∃u:Nat,us[m]=(u:Int):=⟨us[m].toNat,by omega⟩
         rw [hu] at Hw p1 p2 p3 p4 p5 Hy HD HI;rw [tnZ] at HI;have Gv:Kn.mid I out (us.take m) (u:Int)<=1048576:=Zv (Kn.mid_le _ _ _ _) (hH.out _)
         have Gh:wr.cell? ⟨w.heap.size+1,u,none⟩=some (nQ iQ ((Kn.mid I out (us.take m) (u:Int):Nat):Int)):=by
          rw [hinv.2.2.2.1.cell];simp only [Zk,List.getElem?_map];rw [Kn.wm_at _ _ _ _ oZ oZ]
          rfl
         have G3:=hinv.2.2.2.1.frozen u;generalize hq2:Kn.mid I out (us.take (m+1)) (u:Int)=q at *;rw [←p5] at Gh Gv;have hp:=hinv.wait u (q:Int) h6 h8 gv;rw [←HI] at hp;have gh:Fr (λb=>b=w.heap.size+1) wr (wr.setCell ⟨w.heap.size+1,u,none⟩ (nQ iQ (q:Int))):=(Fr.refl (λb=>b=w.heap.size+1) wr).setCell (p:=⟨w.heap.size+1,u,none⟩) (λ_=>rfl) (nQ iQ (q:Int));have ht:=he.fr gh (λb hb=>by omega);have H7:=hX.set_far (p:=⟨w.heap.size+1,u,none⟩) (λa ha=>by have:=g1.out a ha;simp;omega) (nQ iQ (q:Int));have u0:(0:Int)<=(u:Int):=by omega
         have u1:(u:Int)<((n.nodes.length+1:Nat):Int):=by omega
         have gP:((q+1:Nat):Int)=(q:Int)+1:=by omega
         rw [gP] at Gh;have GV:(q:Int)+1-1=(q:Int):=by omega
         have GS:=Kn.midReady_len I n.nodes.length out (j:Int) (us.take m);have Hv:=Kn.midReady_sorted I n.nodes.length out (j:Int) (us.take m)
         by_cases hq:q=0
         ·subst hq
          replace HD:=HD rfl;generalize Kn.midReady I n.nodes.length out (j:Int) (us.take m)=mr at *;have H2:mr.Pairwise (·<=·):=Hv.imp λh=>Int.le_of_lt h
          clear Hy HI hinv he hX hP hZ p5 hq2 gP Hv gh;rw [show ((0:Nat):Int)=0 from rfl] at hp ht H7;obtain ⟨hQ,hE,gI,Hu,GR,gH⟩:=zd6 hp ht H7 hu HD H2;clear hp ht H7 hu HD H2;go_wp2_with fail;refine (qfj C _ (u:Int) mr _ oZ gH.out hE.out.1).mono ?_;rintro e w8 ⟨⟨bb,rfl⟩,qq,rfl⟩;go_wp2_with fail;have Ge:mr.countP (λx=>decide (x<(u:Int)))<=mr.length:=List.countP_le_length;have gi:=((Fr.refl (λ_=>False) (wr.setCell ⟨w.heap.size+1,u,none⟩ (nQ iQ 0))).drewN qq).alloc (.cells #[nQ iQ (u:Int)] 3);have hW:=hQ.out.fr gi (λb hb=>hb.elim) h6 h8 hv;have hy:=hE.out.fr gi (λb hb=>hb.elim);have gT:=(gI.out.drewN qq).alloc (.cells #[nQ iQ (u:Int)] 3)
          have H0:Blk (((wr.setCell ⟨w.heap.size+1,u,none⟩ (nQ iQ 0)).drewN qq).alloc (.cells #[nQ iQ (u:Int)] 3)) wr.heap.size 3 #[nQ iQ (u:Int)]:=by
           have:=Blk.new ((wr.setCell ⟨w.heap.size+1,u,none⟩ (nQ iQ 0)).drewN qq) 3 #[nQ iQ (u:Int)];simpa using this
          have HO:u9.ownBlock≠some wr.heap.size:=λe=>by have:=(hE.out.1.lt _ e).2;simp at this
          refine (qfh C u9 mr (u:Int) _ wr.heap.size _ Ge oZ hW.2.2.1 hy.1 H0 HO).mono ?_;rintro e w10 ⟨v10,rfl,H4,h9,Hh⟩;have hN:=hW.fr h9 (λb hb=>(hy.1.lt b hb).1) h6 h8 hv;have hG:=hy.left h9 H4 Hh;have HN:=h9.ints gT (λa ha hb=>by have h1:=(hy.1.lt _ hb).1;have h2:=(g1.out a ha).2;omega);rw [←GR.out] at hG;clear hW hy gT H0 gi H4 h9 Hh Ge HO;obtain ⟨Hx,Hz,gq⟩:=zd3 hN hG HN;clear hN hG HN;go_wp2_with fail;go_roundw
          case rel=>exact ⟨m+1,by omega,by go_num,Hx.out,Hz.out,gq.out⟩
          case measure=>simp [intOf];omega
         ·have Gm:((q:Int)==0)=false:=by simp;omega
          replace Hy:=Hy hq;rw [←Hy] at ht;clear Hy HD HI hinv he hX hP hZ p5 hq2 gP Hv gh;obtain ⟨hQ,hE,gI,Hu⟩:=zd4 hp ht H7 hu;clear hp ht H7 hu;go_wp2_with fail;go_roundw
          case rel=>exact ⟨m+1,by omega,by go_num,hQ.out,hE.out,gI.out⟩
          case measure=>simp [intOf];omega
        ·obtain rfl:m=us.length:=by omega
         rw [Zg] at hinv he;rw [GG.out] at hinv;rw [GK.out,show (out++[(j:Int)]).length=out.length+1 by simp] at he;have gk:=HZ.out;rw [←gk] at hinv he;have g7:(Kn.go I n.nodes.length (out.length+1)).length=out.length+1:=by rw [gk];simp
         obtain ⟨hg,hF,gw,GZ,GD⟩:=zd5 hinv he hX gk g7;clear hinv he hX gk g7;go_wp2_with fail;exact ⟨⟨out.length+1,GD.out,hg.out,hF.out⟩,by simp only [slen];omega⟩
def StudyP (n:NetD) (w:Zp1) (e:Ending) (w':Zp1):Prop:=
 Below w.heap.size w w'/\((Nt.check n=0/\∃O oc g,e=.returned (.tuple #[.agg #[sQ O n.nodes.length oc,sQ (some ⟨g,0,none⟩) (n.nodes.length+1) (n.nodes.length+1),nQ iQ (Nt.loss n.nodes)],nQ iQ 0])/\
   Ints iQ w' O (Nt.sorted n.nodes)/\n.nodes.length<=oc/\oc<=9223372036854775807/\w.heap.size<=g/\ShpRow w' g 23 (Nt.shapes n))∨
  (Nt.check n≠0/\e=.returned (.tuple #[.agg #[sQ none 0 0,sQ none 0 0,nQ iQ 0],nQ iQ (Nt.check n)])))
namespace Nt
theorem check_many {n:NetD} (h:n.nodes.length<1∨512<n.nodes.length):check n=12:=by unfold check;rw [ipZ h]
theorem check_in {n:NetD} (h:¬(n.nodes.length<1∨512<n.nodes.length)) (h2:Sh.right n.inn=false):check n=20:=by unfold check;rw [inZ h,ipZ h2]
theorem check_bads {n:NetD} (h:¬(n.nodes.length<1∨512<n.nodes.length)) (h2:Sh.right n.inn=true) (h3:bads n.nodes.length n.nodes≠0):check n=bads n.nodes.length n.nodes:=by
 unfold check;rw [inZ h,inZ (by simp [h2]),ipZ h3]
theorem check_cyc {n:NetD} (h:¬(n.nodes.length<1∨512<n.nodes.length)) (h2:Sh.right n.inn=true) (h3:bads n.nodes.length n.nodes=0) (h4:(sorted n.nodes).length≠n.nodes.length):check n=22:=by
 unfold check;rw [inZ h,inZ (by simp [h2]),inZ (by simp [h3]),ipZ h4]
theorem check_lay {n:NetD} (h:¬(n.nodes.length<1∨512<n.nodes.length)) (h2:Sh.right n.inn=true) (h3:bads n.nodes.length n.nodes=0) (h4:(sorted n.nodes).length=n.nodes.length) (h5:(lay n.nodes (start n) (sorted n.nodes)).2≠0):check n=(lay n.nodes (start n) (sorted n.nodes)).2:=by
 unfold check;rw [inZ h,inZ (by simp [h2]),inZ (by simp [h3]),inZ (by simp [h4]),ipZ h5]
theorem check_loss {n:NetD} (h:¬(n.nodes.length<1∨512<n.nodes.length)) (h2:Sh.right n.inn=true) (h3:bads n.nodes.length n.nodes=0) (h4:(sorted n.nodes).length=n.nodes.length) (h5:(lay n.nodes (start n) (sorted n.nodes)).2=0) (h6:lossOk n.nodes=false):check n=23:=by
 unfold check;rw [inZ h,inZ (by simp [h2]),inZ (by simp [h3]),inZ (by simp [h4]),inZ (by simp [h5]),ipZ h6]
theorem check_last {n:NetD} (h:¬(n.nodes.length<1∨512<n.nodes.length)) (h2:Sh.right n.inn=true) (h3:bads n.nodes.length n.nodes=0) (h4:(sorted n.nodes).length=n.nodes.length) (h5:(lay n.nodes (start n) (sorted n.nodes)).2=0) (h6:lossOk n.nodes=true):
  check n=if Safe.prod ((shapes n).getD (loss n.nodes).toNat [])≠1 then 23 else 0:=by
 unfold check;rw [inZ h,inZ (by simp [h2]),inZ (by simp [h3]),inZ (by simp [h4]),inZ (by simp [h5]),inZ (by simp [h6])]
theorem bads_op {n:Nat} {ns:List NodeD} {k:Nat} (hk:k<ns.length) (h:∀j (hj:j<ns.length),j<k->Od.right ns[j].op=true/\ns[j].ins.all (λi=>decide (0<=i/\i<=n))=true) (hr:Od.right ns[k].op=false):bads n ns=21:=by
 rw [qbI h,Zd hk,bads,inZ (by simp [hr])]
theorem bads_in {n:Nat} {ns:List NodeD} {k:Nat} (hk:k<ns.length) (h:∀j (hj:j<ns.length),j<k->Od.right ns[j].op=true/\ns[j].ins.all (λi=>decide (0<=i/\i<=n))=true) (hr:Od.right ns[k].op=true) {m:Nat} (hm:m<ns[k].ins.length) (hb:¬(0<=ns[k].ins[m]/\ns[k].ins[m]<=n)):bads n ns=11:=by
 rw [qbI h,Zd hk,bads,ipZ hr,inZ];intro ha;have:=List.all_eq_true.1 ha _ (gmZ hm);simp at this;exact hb this
theorem bads_none {n:Nat} {ns:List NodeD} (h:∀j (hj:j<ns.length),j<ns.length->Od.right ns[j].op=true/\ns[j].ins.all (λi=>decide (0<=i/\i<=n))=true):bads n ns=0:=by
 rw [qbI h,List.drop_length,bads]
end Nt
def qdg (n:NetD) (k:Nat):Prop:=∀j (hj:j<n.nodes.length),j<k->Od.right n.nodes[j].op=true/\n.nodes[j].ins.all (λi=>decide (0<=i/\i<=n.nodes.length))=true
theorem qay {B g:Nat} {w w1:Zp1} (h:Below B w w1) (hg:B<=g) (a b c:Value):Below B w (((w1.setCell ⟨g,0,none⟩ a).setCell ⟨g,1,none⟩ b).setCell ⟨g,2,none⟩ c):=
 ((h.setCell (p:=⟨g,0,none⟩) hg a).setCell (p:=⟨g,1,none⟩) hg b).setCell (p:=⟨g,2,none⟩) hg c
theorem qdJ {g k:Nat} {w:Zp1} (a b c:Value) (h:k≠g):(((w.setCell ⟨g,0,none⟩ a).setCell ⟨g,1,none⟩ b).setCell ⟨g,2,none⟩ c).heap[k]? = w.heap[k]?:=by
 rw [Below.heap_setCell _ ⟨g,2,none⟩ c k h,Below.heap_setCell _ ⟨g,1,none⟩ b k h,Below.heap_setCell _ ⟨g,0,none⟩ a k h]
theorem qdK {g:Nat} {t:TypeId} {w:Zp1} {S:Option Addr} {zs:List Int} (hI:Ints iQ w S zs) (hb:Blk w g t #[sQ none 0 0,sQ none 0 0,nQ iQ 0]) (hz:∀z∈zs,z≠0) (a b c:Value):
  Ints iQ (((w.setCell ⟨g,0,none⟩ a).setCell ⟨g,1,none⟩ b).setCell ⟨g,2,none⟩ c) S zs:=λj hj=>by
 obtain ⟨b0,off,e,hl,hc⟩:=hI j hj
 have hd:b0≠g:=λq=>by
  subst q;rw [hb.cell] at hc;have ha:zs.getD j 0≠0:=by rw [qa2 hj];exact hz _ (gmZ hj)
  match h:off+j,hc with
  | 0,hc=>simp at hc
  | 1,hc=>simp at hc
  | 2,hc=>simp at hc;exact ha (by simpa using hc.symm)
  | q+3,hc=>simp at hc
 refine ⟨b0,off,e,by simpa using hl,?_⟩;exact (Zi1 (w:=w) (a:=⟨b0,off+j,none⟩) (qdJ a b c hd)).trans hc
theorem qep {g g':Nat} {t t':TypeId} {w:Zp1} {sh:List (List Int)} (h:ShpRow w g' t' sh) (hb:Blk w g t #[sQ none 0 0,sQ none 0 0,nQ iQ 0]) (hg:g'≠g) (hz:∀s∈sh,∀z∈s,z≠0) (a b c:Value):
  ShpRow (((w.setCell ⟨g,0,none⟩ a).setCell ⟨g,1,none⟩ b).setCell ⟨g,2,none⟩ c) g' t' sh:=by
 obtain ⟨vs,hl,hk,hv⟩:=h;refine ⟨vs,hl,(qdJ a b c hg).trans hk,λj hj=>?_⟩;obtain ⟨S,d,e,hI,h2⟩:=hv j hj;exact ⟨S,d,e,qdK hI hb (hz _ (gmZ hj)) a b c,h2⟩
theorem qaE {w:Zp1} {g:Nat} {t:TypeId} (h:Blk w g t #[sQ none 0 0,sQ none 0 0,nQ iQ 0]):
  w.cell? ⟨g,0,none⟩=some (sQ none 0 0)/\w.cell? ⟨g,1,none⟩=some (sQ none 0 0)/\w.cell? ⟨g,2,none⟩=some (nQ iQ 0)/\w.frozen? ⟨g,0,none⟩=false/\w.frozen? ⟨g,1,none⟩=false/\w.frozen? ⟨g,2,none⟩=false:=
 ⟨h.cell 0,h.cell 1,h.cell 2,h.frozen 0,h.frozen 1,h.frozen 2⟩
theorem qdh (A N:Option Addr) (c d:Nat) (n:NetD) (w:Zp1) (hok:n.ok) (hR:NetR w A N n) (hd:n.nodes.length<=d):
  Calls Tryz.prog 40 #[.agg #[sQ A n.inn.length c,sQ N n.nodes.length d]] w (StudyP n w):=by
 have gW:=hok.2.1;have gA:=hok.1;have hX:=qdC w (.cells #[sQ A n.inn.length c,sQ N n.nodes.length d] 26) (.cells #[sQ none 0 0,sQ none 0 0,nQ iQ 0] 103);have HX:=(Blk.new w 26 #[sQ A n.inn.length c,sQ N n.nodes.length d]).alloc (.cells #[sQ none 0 0,sQ none 0 0,nQ iQ 0] 103);have HI:=Blk.new (w.alloc (.cells #[sQ A n.inn.length c,sQ N n.nodes.length d] 26)) 103 #[sQ none 0 0,sQ none 0 0,nQ iQ 0];rw [Zh1] at HI;have HA:=hR.below hX (lrZ _)
 by_cases hE:n.nodes.length<1∨512<n.nodes.length
 ·have HC:=zI (Nt.check_many hE)
  obtain ⟨HR,Hr,H2⟩:=zd3 hR hok HA;clear hR hok HA;clear HX HI;rcases hE with h|h
  ·have d1:decide ((n.nodes.length:Int)<1)=true:=by simp;omega
   go_enter Tryz.func40,Tryz.ntmps40;go_wp2_with fail;exact Zk1 (v:=.tuple #[.agg #[sQ none 0 0,sQ none 0 0,nQ iQ 0],nQ iQ 12]) (by simp [results,Tryz.results40,go_sem]) rfl ⟨hX,.inr (by rw [HC.out];exact ⟨by omega,rfl⟩)⟩
  ·have d1:decide ((n.nodes.length:Int)<1)=false:=by simp;omega
   have d2:decide ((512:Int)<(n.nodes.length:Int))=true:=by simp;omega
   go_enter Tryz.func40,Tryz.ntmps40;go_wp2_with fail;exact Zk1 (v:=.tuple #[.agg #[sQ none 0 0,sQ none 0 0,nQ iQ 0],nQ iQ 12]) (by simp [results,Tryz.results40,go_sem]) rfl ⟨hX,.inr (by rw [HC.out];exact ⟨by omega,rfl⟩)⟩
 ·have d1:decide ((n.nodes.length:Int)<1)=false:=by simp;omega
  have d2:decide ((512:Int)<(n.nodes.length:Int))=false:=by simp;omega
  have H5:n.nodes.length<=512:=by omega
  have gB:1<=n.nodes.length:=by omega
  obtain ⟨HR,Hr,H2,go,gk,hn⟩:=zd6 hR hok HA HX HI hE;clear hR hok HA HX HI hE;go_enter Tryz.func40,Tryz.ntmps40;go_wp2_with fail;refine (shape_right A c n.inn _ oZ H2.out.1).mono ?_;rintro e w1 ⟨rfl,HF⟩;have hS:Below w.heap.size w w1:=hX.trans (HF.mono soZ);have hb:=go.out.below HF soZ;have hQ:=gk.out.below HF sZ;obtain ⟨y0,y1,y2,f0,f1,f2⟩:=qaE hQ;have x0:w1.cell? ⟨w.heap.size,0,none⟩=some (sQ A n.inn.length c):=by rw [hb.cell];rfl
  have x1:w1.cell? ⟨w.heap.size,1,none⟩=some (sQ N n.nodes.length d):=by rw [hb.cell];rfl
  clear go gk H2 hX HF d1 d2
  by_cases HP:Sh.right n.inn=true
  rotate_left
  ·have gf:Sh.right n.inn=false:=by simpa using HP
   have HC:=zI (Nt.check_in hn.out gf);obtain ⟨ho,hW⟩:=zd2 hb hQ;clear hb hQ;clear HP;go_wp2_with fail;exact Zk1 (v:=.tuple #[.agg #[sQ none 0 0,sQ none 0 0,nQ iQ 0],nQ iQ 20]) (by simp [results,Tryz.results40,go_sem,y0,y1,y2]) rfl ⟨qay hS oZ _ _ _,.inr (by rw [HC.out];exact ⟨by omega,rfl⟩)⟩
  ·have ho:=zI hb
   have hW:=zI hQ;clear hb hQ;go_wp2_with fail;clear y0 y1 y2 f0 f1 f2 x0 x1;have h8:=zI HP;clear HP
   go_loopw [34] (λi wr=>∃k:Nat,k<=n.nodes.length/\i=nQ iQ k/\Blk wr w.heap.size 26 #[sQ A n.inn.length c,sQ N n.nodes.length d]/\Blk wr (w.heap.size+1) 103 #[sQ none 0 0,sQ none 0 0,nQ iQ 0]/\Below w.heap.size w wr/\qdg n k) (λi _=>n.nodes.length-(intOf i).toNat)
   case atStart=>exact ⟨0,Zt _,rfl,ho.out,hW.out,hS,λj hj h=>by omega⟩
   case round=>
    clear ho hW hS;obtain ⟨k,hk,rfl,hb,hQ,hS,hy⟩:=hrel;have gC:=hQ.lt
    by_cases HJ:k<n.nodes.length
    ·obtain ⟨b,off,S,sc,J,ic,Q,qc,rfl,HM,-,hI,-⟩:=HR.out.2.at_ HJ
     have hZ:=Hr.out.2.2 _ (gmZ HJ);have Hx:=λh=>Nt.bads_op (n:=n.nodes.length) HJ hy h
     have Hq:=λh m (hm:m<n.nodes[k].ins.length) h2=>Nt.bads_in (n:=n.nodes.length) HJ hy h (m:=m) hm h2
     have h9:Od.right n.nodes[k].op=true->n.nodes[k].ins.all (λi=>decide (0<=i/\i<=n.nodes.length))=true->qdg n (k+1):=λh1 h2 j hj gU=>by
      by_cases e:j=k
      ·subst e;exact ⟨h1,h2⟩
      ·exact hy j hj oZ
     have gA:=hZ.2.2.1;have gL:=hZ.2.1;generalize n.nodes[k]=v at *;have gv:=HM.below hS;obtain ⟨⟨y0,y1,y2,y3,y4,y5,y6,y7,y8,y9⟩,-⟩:=HM.below hS;have gr:=Blk.new wr 59 (#[nQ iQ v.op.kind,nQ iQ v.op.k,nQ iQ v.op.width,nQ iQ v.op.step,nQ iQ v.op.side,nQ iQ v.op.frm,nQ iQ v.op.to,sQ S v.op.s.length sc,sQ J v.ins.length ic,sQ Q v.p.length qc]);have H7:Below wr.heap.size wr (wr.alloc (.cells #[nQ iQ v.op.kind,nQ iQ v.op.k,nQ iQ v.op.width,nQ iQ v.op.step,nQ iQ v.op.side,nQ iQ v.op.frm,nQ iQ v.op.to,sQ S v.op.s.length sc,sQ J v.ins.length ic,sQ Q v.p.length qc] 59)):=(Ze1 _ _).alloc (lrZ _) _;obtain ⟨ho,hW,gT,gD,HY,gb,Hp,gm,gn⟩:=zd9 hb hQ HM hZ Hx Hq h9 gv gr;have H8:=zI hy;clear hb hQ HM hZ Hx Hq h9 gv gr hy;go_wp2_with fail;refine (qcc v.op S sc _ oZ (gm.out.2.1.below H7 (lrZ _))).mono ?_;rintro e w2 ⟨rfl,He⟩;have hf:Below wr.heap.size wr w2:=H7.trans (He.mono sZ);have hY:=hS.trans (hf.mono hS.size);have ha:=ho.out.below hf oZ;have he:=hW.out.below hf gC;have hV:=gn.out.below He sZ;obtain ⟨z0,z1,z2,f0,f1,f2⟩:=qaE he;have z8:w2.cell? ⟨wr.heap.size,8,none⟩=some (sQ J v.ins.length ic):=by rw [hV.cell];rfl
     have x1:w2.cell? ⟨w.heap.size,1,none⟩=some (sQ (some ⟨b,off,none⟩) n.nodes.length d):=by rw [ha.cell];rfl
     have HD:=gm.out.2.2.1.below hf (lrZ _);clear y0 y1 y2 y3 y4 y5 y6 y7 y8 y9 H7 He ho hW gn
     by_cases HE:Od.right v.op=true
     rotate_left
     ·have gd:Od.right v.op=false:=by simpa using HE
      have hc:=HY.out gd;have HC:=zI ((Nt.check_bads hn.out h8.out (by rw [hc];omega)).trans hc);obtain ⟨hh,ht,gc,gp⟩:=zd4 ha he hV HD;clear ha he hV HD;clear HE hc;go_wp2_with fail;exact Zk1 (v:=.tuple #[.agg #[sQ none 0 0,sQ none 0 0,nQ iQ 0],nQ iQ 21]) (by simp [results,Tryz.results40,go_sem,z0,z1,z2]) rfl ⟨qay hY oZ _ _ _,.inr (by rw [HC.out];exact ⟨by omega,rfl⟩)⟩
     ·have gy:=zI HE
      obtain ⟨hh,ht,gc,gp⟩:=zd4 ha he hV HD;clear ha he hV HD;go_wp2_with fail;clear HE
      go_loop [46] (λi=>∃m:Nat,m<=v.ins.length/\i=nQ iQ m/\∀j (hj:j<v.ins.length),j<m->0<=v.ins[j]/\v.ins[j]<=n.nodes.length) (λi=>v.ins.length-(intOf i).toNat)
      case atStart=>exact ⟨0,Zt _,rfl,λj hj h=>by omega⟩
      case round=>
       obtain ⟨m,hm,rfl,hB⟩:=hrel
       by_cases Ho:m<v.ins.length
       ·obtain ⟨b1,off1,rfl,-,hc⟩:=gp.out m Ho
        rw [qa2 Ho] at hc;have HW:=gb.out gy.out m Ho
        have Hv:(0<=v.ins[m]/\v.ins[m]<=n.nodes.length)->∀j (hj:j<v.ins.length),j<m+1->0<=v.ins[j]/\v.ins[j]<=n.nodes.length:=λh j hj gO=>by
         by_cases e:j=m
         ·subst e;exact h
         ·exact hB j hj oZ
        generalize v.ins[m]=u at *
        by_cases hu:0<=u/\u<=n.nodes.length
        ·have HN:=zI (Hv hu)
         have e1:decide (u<0)=false:=by simp;omega
         have e2:decide ((n.nodes.length:Int)<u)=false:=by simp;omega
         clear hu HW;obtain ⟨gF,Ht⟩:=zd2 Hv hB;clear Hv hB;go_wp2_with fail
         go_round
         case rel=>exact ⟨m+1,by omega,by go_num,HN.out⟩
         case measure=>simp [intOf];omega
        ·have H0:=HW hu
         have HC:=zI ((Nt.check_bads hn.out h8.out (by rw [H0];omega)).trans H0);clear H0 HW;obtain ⟨gF,Ht⟩:=zd2 Hv hB;clear Hv hB
         by_cases Hs:u<0
         ·have e1:decide (u<0)=true:=by simpa using Hs
          clear hu;go_wp2_with fail;exact Zk1 (v:=.tuple #[.agg #[sQ none 0 0,sQ none 0 0,nQ iQ 0],nQ iQ 11]) (by simp [results,Tryz.results40,go_sem,z0,z1,z2]) rfl ⟨qay hY oZ _ _ _,.inr (by rw [HC.out];exact ⟨by omega,rfl⟩)⟩
         ·have e1:decide (u<0)=false:=by simpa using Hs
          have e2:decide ((n.nodes.length:Int)<u)=true:=by simp;omega
          clear hu;go_wp2_with fail;exact Zk1 (v:=.tuple #[.agg #[sQ none 0 0,sQ none 0 0,nQ iQ 0],nQ iQ 11]) (by simp [results,Tryz.results40,go_sem,z0,z1,z2]) rfl ⟨qay hY oZ _ _ _,.inr (by rw [HC.out];exact ⟨by omega,rfl⟩)⟩
       ·obtain rfl:m=v.ins.length:=by omega
        have HN:=zI (Hp.out gy.out (List.all_eq_true.2 λi hi=>by obtain ⟨j,hj,rfl⟩:=List.getElem_of_mem hi;simpa using hB j hj hj));have Ht:=zI hB;clear hB;go_wp2_with fail;go_roundw
        case rel=>exact ⟨k+1,by omega,by go_num,hh.out,ht.out,hY,HN.out⟩
        case measure=>simp [intOf];omega
    ·obtain rfl:k=n.nodes.length:=by omega
     have hX:Nt.bads n.nodes.length n.nodes=0:=Nt.bads_none hy;have Hw:∀v∈n.nodes,∀i∈v.ins,0<=i/\i<=n.nodes.length:=λv hv=>(Nt.bads_all hX v hv).2
     have x0:wr.cell? ⟨w.heap.size,0,none⟩=some (sQ A n.inn.length c):=by rw [hb.cell];rfl
     have x1:wr.cell? ⟨w.heap.size,1,none⟩=some (sQ N n.nodes.length d):=by rw [hb.cell];rfl
     obtain ⟨H8,ho,hW,HQ,Hc⟩:=zd5 hy hb hQ hX Hw;clear hy hb hQ hX Hw;go_wp2_with fail;refine (qfl A N c d n _ Hr.out H5 (HR.out.below hS (lrZ _)) hd Hc.out).mono ?_;rintro e w2 ⟨O,oc,rfl,hO,H4,HU,He⟩;have hf:=hS.trans (He.mono hS.size);have ha:=ho.out.below He ho.out.lt;have he:=hW.out.below He hW.out.lt;have gE:w.heap.size+1<w2.heap.size:=he.lt;have x0:w2.cell? ⟨w.heap.size,0,none⟩=some (sQ A n.inn.length c):=by rw [ha.cell];rfl
     have x1:w2.cell? ⟨w.heap.size,1,none⟩=some (sQ N n.nodes.length d):=by rw [ha.cell];rfl
     clear ho hW
     by_cases hL:(Nt.sorted n.nodes).length=n.nodes.length
     rotate_left
     ·have HC:=zI (Nt.check_cyc hn.out h8.out HQ.out hL)
      have e1:(((Nt.sorted n.nodes).length:Int) != (n.nodes.length:Int))=true:=by rw [bne_iff_ne];omega
      have e2:((Nt.sorted n.nodes).length != n.nodes.length)=true:=by rw [bne_iff_ne];omega
      obtain ⟨y0,y1,y2,f0,f1,f2⟩:=qaE he;generalize Nt.sorted n.nodes=os at *;obtain ⟨hh,ht,gG,HO⟩:=zd4 ha he hL hO;clear ha he hL hO;go_wp2_with fail;exact Zk1 (v:=.tuple #[.agg #[sQ none 0 0,sQ none 0 0,nQ iQ 0],nQ iQ 22]) (by simp [results,Tryz.results40,go_sem,y0,y1,y2]) rfl ⟨qay hf oZ _ _ _,.inr (by rw [HC.out];exact ⟨by omega,rfl⟩)⟩
     ·have hK:=net_lay A N O c d oc n w2 Hr.out (HR.out.below hf (lrZ _)) hd hO h8.out Hc.out
      have hC:=λh5=>Nt.check_lay hn.out h8.out HQ.out hL h5
      have hw:=λh5 h6=>Nt.check_loss hn.out h8.out HQ.out hL h5 h6
      have hq:=λh5 h6=>Nt.check_last hn.out h8.out HQ.out hL h5 h6
      have hJ:=λh5:(Nt.lay n.nodes (Nt.start n) (Nt.sorted n.nodes)).2=0=>Nt.lay_good h8.out (Nt.sorted n.nodes).length (lrZ _) (by rw [Zg];exact h5)
      rw [Zg] at hJ;have hA:=Kn.order_full (I:=Nt.insF n.nodes) (n:=n.nodes.length) hL;have hA:∀u,u∈Nt.sorted n.nodes↔1<=u/\u<=n.nodes.length:=hA;have Hh:(Nt.lay n.nodes (Nt.start n) (Nt.sorted n.nodes)).1=Nt.shapes n:=rfl;rw [hL] at hK ⊢;obtain ⟨os,hos⟩:∃os,Nt.sorted n.nodes=os:=⟨_,rfl⟩
      rw [hos] at hK hC hw hq hJ hA Hh hO hL H4;rw [hL] at H4;obtain ⟨h7,hP,hH,hG,h3,hU,Hz,gG,gI⟩:=zd9 hK hC hw hq hJ hA Hh hL hos;obtain ⟨HO,hh,ht⟩:=zd3 hO ha he;clear hK hC hw hq hJ hA Hh hL hos hO ha he;go_wp2_with fail;refine (h7.out).mono ?_;rintro e w3 ⟨Hj,⟨hr,g,rfl,hg,Hg,gH⟩|⟨hr,rfl⟩⟩
      rotate_left
      ·have HC:=zI (hP.out hr)
       have hT:=hf.trans (Hj.mono hf.size);obtain ⟨y0,y1,y2,f0,f1,f2⟩:=qaE (ht.out.below Hj ht.out.lt);generalize Nt.lay n.nodes (Nt.start n) os=r at *;have q1:(r.2 != 0)=true:=by simp [hr]
       have gM:=zI hr;clear hr;go_wp2_with fail;exact Zk1 (v:=.tuple #[.agg #[sQ none 0 0,sQ none 0 0,nQ iQ 0],nQ iQ r.2]) (by simp [results,Tryz.results40,go_sem,y0,y1,y2]) rfl ⟨qay hT oZ _ _ _,.inr (by rw [HC.out];exact ⟨gM.out,rfl⟩)⟩
      ·have HZ:=h3.out hr
       have gi:=λh6=>hH.out hr h6
       have gg:=λh6=>hG.out hr h6
       rw [Hz.out] at Hg gH HZ;have hT:=hf.trans (Hj.mono hf.size);have hD:=hh.out.below Hj hh.out.lt;have Hy:=ht.out.below Hj ht.out.lt;have x0:w3.cell? ⟨w.heap.size,0,none⟩=some (sQ A n.inn.length c):=by rw [hD.cell];rfl
       have x1:w3.cell? ⟨w.heap.size,1,none⟩=some (sQ N n.nodes.length d):=by rw [hD.cell];rfl
       have gj:=HO.out.below Hj (lrZ _);clear h7 hP hH hG h3 hh ht HO hr Hz;obtain ⟨gu,gN,gK,Hn,Hk,Hi,gl⟩:=zd7 HZ gi gg Hg hD Hy gj;clear HZ gi gg Hg hD Hy gj;go_wp2_with fail;refine (qfg A N c d n _ Hr.out (HR.out.below hT (lrZ _)) hd Hc.out).mono ?_;rintro e w4 ⟨rfl,HG⟩;have Hd:=hT.trans (HG.mono hT.size);have hM:=Hi.out.below HG Hi.out.lt;have hx:=Hn.out.below HG (lrZ _);have HK:=gl.out.below HG (lrZ _);obtain ⟨y0,y1,y2,f0,f1,f2⟩:=qaE hM;clear Hk Hi Hn gl
       by_cases HH:Nt.lossOk n.nodes=true
       rotate_left
       ·have HV:Nt.lossOk n.nodes=false:=by simpa using HH
        have HC:=zI (gN.out HV);obtain ⟨Hb,h4,gh⟩:=zd3 hM hx HK;clear hM hx HK;clear HH;go_wp2_with fail;exact Zk1 (v:=.tuple #[.agg #[sQ none 0 0,sQ none 0 0,nQ iQ 0],nQ iQ 23]) (by simp [results,Tryz.results40,go_sem,y0,y1,y2]) rfl ⟨qay Hd oZ _ _ _,.inr (by rw [HC.out];exact ⟨by omega,rfl⟩)⟩
       ·have Ho:=(Nt.loss_mem HH).2
        have Hu:=gK.out HH;obtain ⟨l,hl⟩:∃l:Nat,Nt.loss n.nodes=(l:Int):=⟨(Nt.loss n.nodes).toNat,by omega⟩
        have Hl:=zI hl;rw [hl] at Ho Hu ⊢;rw [tnZ] at Hu;have H3:l<(Nt.shapes n).length:=by omega
        have HB:=gu.out (l:Int) (.inr ((hU.out _).2 oZ));rw [tnZ,qa9 H3] at HB;rw [qa9 H3] at Hu;obtain ⟨S,sc,gt,H6,gQ,gP,-⟩:=hx.at_ H3;have H9:=qag S sc _ w4 oZ H6;have HT:Sh.size (Nt.shapes n)[l]=(Safe.prod (Nt.shapes n)[l],0):=by unfold Sh.size;rw [ipZ HB]
        rw [HT] at H9;have l0:(0:Int)<=(l:Int):=by omega
        have l1:(l:Int)<((n.nodes.length+1:Nat):Int):=by omega
        generalize (Nt.shapes n)[l]=s at *;obtain ⟨Hb,h4,gh,gx,Hl,gJ,gS,gR,gV⟩:=zd9 hM hx HK Hu hl H9 HT H6 HB;clear hM hx HK Hu hl H9 HT H6 HB;go_wp2_with fail;refine (gJ.out).mono ?_;rintro e w5 ⟨rfl,HS⟩;have Hm:=Hd.trans (HS.mono Hd.size);have hN:=Hb.out.below HS Hb.out.lt;have hF:=h4.out.below HS (lrZ _);have HL:=gh.out.below HS (lrZ _);clear y0 y1 y2 f0 f1 f2;obtain ⟨y0,y1,y2,f0,f1,f2⟩:=qaE hN
        by_cases hp:Safe.prod s=1
        ·have HC:=zI (show Nt.check n=0 by rw [gx.out,inZ (by simp [hp])])
         have e1:(Safe.prod s != 1)=false:=by simp [hp]
         clear gt hp;obtain ⟨Hf,Ha,gq⟩:=zd3 hN hF HL;clear hN hF HL;go_wp2_with fail;have ge:∀z∈os,z≠0:=λz hz=>by have:=(hU.out z).1 hz;omega
         have H1:∀s∈Nt.shapes n,∀z∈s,z≠0:=λs hs z hz=>by
          obtain ⟨i,hi,rfl⟩:=List.getElem_of_mem hs
          have gw:=gu.out (i:Int) (by
           by_cases h0:i=0
           ·exact .inl oZ
           ·exact .inr ((hU.out _).2 oZ))
          rw [tnZ,qa9 hi] at gw;have:=(Sh.right_mul gw).2.2.2.1 z hz;omega
         refine Zk1 (v:=.tuple #[.agg #[sQ O n.nodes.length oc,sQ (some ⟨g,0,none⟩) (n.nodes.length+1) (n.nodes.length+1),nQ iQ (l:Int)],nQ iQ 0]) (by simp [results,Tryz.results40,go_sem,y0,y1,y2]) rfl ⟨qay Hm oZ _ _ _,.inl ⟨HC.out,O,oc,g,by rw [Hl.out],?_,H4,HU,by omega,?_⟩⟩
         ·rw [gI.out];exact qdK gq.out Hf.out ge _ _ _
         ·exact qep Ha.out Hf.out oZ H1 _ _ _
        ·have HC:=zI (show Nt.check n=23 by rw [gx.out,ipZ hp])
         have e1:(Safe.prod s != 1)=true:=by simp [hp]
         clear gt hp;obtain ⟨Hf,Ha,gq⟩:=zd3 hN hF HL;clear hN hF HL;go_wp2_with fail;exact Zk1 (v:=.tuple #[.agg #[sQ none 0 0,sQ none 0 0,nQ iQ 0],nQ iQ 23]) (by simp [results,Tryz.results40,go_sem,y0,y1,y2]) rfl ⟨qay Hm oZ _ _ _,.inr (by rw [HC.out];exact ⟨by omega,rfl⟩)⟩
theorem qgb (A N:Option Addr) (c d:Nat) (n:NetD) (w:Zp1) (hok:n.ok) (hR:NetR w A N n) (hd:n.nodes.length<=d):
  Calls Tryz.prog 67 #[.agg #[sQ A n.inn.length c,sQ N n.nodes.length d]] w λe w'=>e=.returned (nQ iQ (Nt.check n))/\Below w.heap.size w w':=by
 have hb:Below w.heap.size w (w.alloc (.cells #[sQ A n.inn.length c,sQ N n.nodes.length d] 26)):=(Ze1 _ _).alloc (lrZ _) _;have he:=hR.below hb (lrZ _);obtain ⟨HR,hg,hh⟩:=zd3 hR hok he;clear hR hok he;go_enter Tryz.func67,Tryz.ntmps67;go_wp2_with fail;refine (qdh A N c d n _ hg.out hh.out hd).mono ?_;rintro e w1 ⟨hf,⟨hc,O,oc,g,rfl,-,-,-,-,-⟩|⟨hc,rfl⟩⟩
 all_goals have ha:=hb.trans (hf.mono hb.size)
 ·have Hc:=zI hc
  clear hc;go_wp2_with fail;go_ret;exact ⟨by rw [Hc.out];rfl,ha.alloc ha.size _⟩
 ·have Hc:=zI hc
  clear hc;go_wp2_with fail;go_ret;exact ⟨rfl,ha.alloc ha.size _⟩
def OrderP (n:NetD) (w:Zp1) (e:Ending) (w':Zp1):Prop:=
 Below w.heap.size w w'/\((Nt.check n=0/\∃O oc,e=.returned (.tuple #[sQ O n.nodes.length oc,nQ iQ 0])/\Ints iQ w' O (Nt.sorted n.nodes)/\n.nodes.length<=oc/\oc<=9223372036854775807)∨
  (Nt.check n≠0/\e=.returned (.tuple #[sQ none 0 0,nQ iQ (Nt.check n)])))
def qeq (n:NetD):Int:=if Nt.check n=0 then Nt.loss n.nodes else 0
theorem qdL (A N:Option Addr) (c d:Nat) (n:NetD) (w:Zp1) (hok:n.ok) (hR:NetR w A N n) (hd:n.nodes.length<=d):
  Calls Tryz.prog 19 #[.agg #[sQ A n.inn.length c,sQ N n.nodes.length d]] w (OrderP n w):=by
 have hf:Below w.heap.size w (w.alloc (.cells #[sQ A n.inn.length c,sQ N n.nodes.length d] 26)):=(Ze1 _ _).alloc (lrZ _) _;have hh:=hR.below hf (lrZ _);obtain ⟨HR,hk,hm⟩:=zd3 hR hok hh;clear hR hok hh;go_enter Tryz.func19,Tryz.ntmps19;go_wp2_with fail;refine (qdh A N c d n _ hk.out hm.out hd).mono ?_;rintro e w1 ⟨hi,⟨hc,O,oc,g,rfl,hO,hl,hj,hg,hb⟩|⟨hc,rfl⟩⟩
 all_goals have ha:=hf.trans (hi.mono hf.size)
 ·rw [Zh1] at hg
  obtain ⟨Hc,HO,he⟩:=zd3 hc hO hb;clear hc hO hb;go_wp2_with fail
  go_ret2
  first|exact ⟨ha.alloc ha.size _,.inl ⟨Hc.out,O,oc,rfl,HO.out.alloc _,hl,hj⟩⟩|exact ⟨ha.alloc ha.size _,.inl ⟨Hc.out,g,rfl,by omega,he.out.alloc _⟩⟩|exact ⟨by unfold qeq;rw [Hc.out];rfl,ha.alloc ha.size _⟩
 ·have Hc:=zI hc
  clear hc;go_wp2_with fail
  go_ret2
  first|exact ⟨ha.alloc ha.size _,.inr ⟨Hc.out,rfl⟩⟩|exact ⟨by unfold qeq;rw [inZ Hc.out];rfl,ha.alloc ha.size _⟩
theorem net_loss (A N:Option Addr) (c d:Nat) (n:NetD) (w:Zp1) (hok:n.ok) (hR:NetR w A N n) (hd:n.nodes.length<=d):
  Calls Tryz.prog 20 #[.agg #[sQ A n.inn.length c,sQ N n.nodes.length d]] w λe w'=>e=.returned (.tuple #[nQ iQ (qeq n),nQ iQ (Nt.check n)])/\Below w.heap.size w w':=by
 have hf:Below w.heap.size w (w.alloc (.cells #[sQ A n.inn.length c,sQ N n.nodes.length d] 26)):=(Ze1 _ _).alloc (lrZ _) _;have hh:=hR.below hf (lrZ _);obtain ⟨HR,hk,hm⟩:=zd3 hR hok hh;clear hR hok hh;go_enter Tryz.func20,Tryz.ntmps20;go_wp2_with fail;refine (qdh A N c d n _ hk.out hm.out hd).mono ?_;rintro e w1 ⟨hi,⟨hc,O,oc,g,rfl,hO,hl,hj,hg,hb⟩|⟨hc,rfl⟩⟩
 all_goals have ha:=hf.trans (hi.mono hf.size)
 ·rw [Zh1] at hg
  obtain ⟨Hc,HO,he⟩:=zd3 hc hO hb;clear hc hO hb;go_wp2_with fail
  go_ret2
  first|exact ⟨ha.alloc ha.size _,.inl ⟨Hc.out,O,oc,rfl,HO.out.alloc _,hl,hj⟩⟩|exact ⟨ha.alloc ha.size _,.inl ⟨Hc.out,g,rfl,by omega,he.out.alloc _⟩⟩|exact ⟨by unfold qeq;rw [Hc.out];rfl,ha.alloc ha.size _⟩
 ·have Hc:=zI hc
  clear hc;go_wp2_with fail
  go_ret2
  first|exact ⟨ha.alloc ha.size _,.inr ⟨Hc.out,rfl⟩⟩|exact ⟨by unfold qeq;rw [inZ Hc.out];rfl,ha.alloc ha.size _⟩
def hasB (zs:List Int) (x:Int):Bool:=zs.contains x
theorem qco (A:Option Addr) (c:Nat) (zs:List Int) (x:Int) (w:Zp1) (hl:zs.length<=9223372036854775807) (hI:Ints iQ w A zs):
  Calls Tryz.prog 55 #[sQ A zs.length c,nQ iQ x] w λe w'=>e=.returned (.bool (hasB zs x))/\w=w':=by
 have HI:=zI hI;clear hI;go_enter Tryz.func55,Tryz.ntmps55;go_wp2_with fail
 go_loop [5] (λi=>∃k:Nat,k<=zs.length/\i=nQ iQ k/\(zs.take k).contains x=false) (λi=>zs.length-(intOf i).toNat)
 case atStart=>exact ⟨0,Zt _,rfl,rfl⟩
 case round=>
  obtain ⟨k,hk,rfl,ha⟩:=hrel
  by_cases hb:k<zs.length
  ·obtain ⟨b,off,rfl,-,hc⟩:=HI.out k hb
   rw [qa2 hb] at hc
   by_cases he:zs[k]=x
   ·have e1:(zs[k]==x)=true:=by simp [he]
    have HX:=zI (show hasB zs x=true by unfold hasB;rw [List.contains_iff_mem];rw [←he];exact gmZ hb);clear he ha;go_wp2_with fail;go_ret;exact ⟨by rw [HX.out];rfl,rfl⟩
   ·have e1:(zs[k]==x)=false:=by simp [he]
    have HX:=zI (show (zs.take (k+1)).contains x=false by
     rw [Zb hb];simp at ha;simp only [List.contains_eq_mem,List.mem_append,decide_eq_false_iff_not,List.mem_singleton];intro h;rcases h with h|h
     ·exact ha h
     ·exact he h.symm)
    clear he ha;go_wp2_with fail
    go_round
    case rel=>exact ⟨k+1,by omega,by go_num,HX.out⟩
    case measure=>simp [intOf];omega
  ·obtain rfl:k=zs.length:=by omega
   rw [Zg] at ha;have HX:=zI (show hasB zs x=false from ha);clear ha;go_wp2_with fail;go_ret;exact ⟨by rw [HX.out];rfl,rfl⟩
def Nt.count (ns:List NodeD) (id:Int):Nat:=(ns.filter λv=>v.ins.contains id).length
theorem qer (A N:Option Addr) (c d:Nat) (n:NetD) (id:Int) (w:Zp1) (hok:n.ok) (hR:NetR w A N n):
  Calls Tryz.prog 34 #[.agg #[sQ A n.inn.length c,sQ N n.nodes.length d],nQ iQ id] w λe w'=>e=.returned (nQ iQ (Nt.count n.nodes id:Nat))/\Below w.heap.size w w':=by
 have hd:Below w.heap.size w (w.alloc (.cells #[sQ A n.inn.length c,sQ N n.nodes.length d] 39)):=(Ze1 _ _).alloc (lrZ _) _;have hh:=Blk.new w 39 #[sQ A n.inn.length c,sQ N n.nodes.length d];have hc:=hR.below hd (lrZ _);have hq:=hok.2.1;obtain ⟨ho,HR,hj⟩:=zd3 hok hR hh;clear hok hR hh;go_enter Tryz.func34,Tryz.ntmps34;go_upto_region 1 with fail;have x1:(w.alloc (.cells #[sQ A n.inn.length c,sQ N n.nodes.length d] 39)).cell? ⟨w.heap.size,1,none⟩=some (sQ N n.nodes.length d):=by rw [hj.out.cell];rfl
 generalize w.alloc (.cells #[sQ A n.inn.length c,sQ N n.nodes.length d] 39)=w1 at *;have hl:=zI hc;clear hc;go_wp2_with fail
 go_loop [5,6] (λt i=>∃k:Nat,k<=n.nodes.length/\i=nQ iQ (k:Int)/\t=nQ iQ ((Nt.count (n.nodes.take k) id:Nat):Int)) (λ_ i=>n.nodes.length-(intOf i).toNat)
 case atStart=>exact ⟨0,Zt _,rfl,rfl⟩
 case round=>
  obtain ⟨k,hk,rfl,rfl⟩:=hrel
  by_cases hb:k<n.nodes.length
  ·obtain ⟨b,off,S,sc,J,ic,Q,qc,rfl,hi,-,hI,-⟩:=hl.out.2.at_ hb
   have ha:=ho.out.2.2 _ (gmZ hb);have hp:=ha.2.2.1
   have hf:Nt.count (n.nodes.take (k+1)) id=Nt.count (n.nodes.take k) id+if n.nodes[k].ins.contains id then 1 else 0:=by
    unfold Nt.count;rw [Zb hb,List.filter_append]
    by_cases h:n.nodes[k].ins.contains id=true
    ·simp only [List.filter_cons,h,if_true,List.filter_nil,Ze,List.length_singleton]
    ·simp only [List.filter_cons,h,List.filter_nil,Ze];simp
   have hr:Nt.count (n.nodes.take k) id<=k:=by
    unfold Nt.count;refine Zv (List.length_filter_le _ _) ?_;simp;omega
   generalize n.nodes[k]=v at *;generalize Nt.count (n.nodes.take k) id=q at *;obtain ⟨⟨-,-,-,-,-,-,-,-,y8,-⟩,-,hg,-⟩:=hi;obtain ⟨hm,he,hn⟩:=zd3 hg hf ha;clear hg hf ha;go_wp2_with fail;refine (qco J ic v.ins id _ oZ hm.out).mono ?_;rintro e w2 ⟨rfl,rfl⟩
   by_cases h:hasB v.ins id=true
   ·have HX:=zI (he.out.trans (by rw [ipZ (show v.ins.contains id=true from h)]))
    rw [h];clear h;go_wp2_with fail
    go_round
    case rel=>exact ⟨k+1,by omega,by go_num,by rw [HX.out];go_num⟩
    case measure=>simp [intOf];omega
   ·have h':hasB v.ins id=false:=by simpa using h
    have HX:=zI (he.out.trans (by rw [inZ (show ¬v.ins.contains id=true from h)]));rw [h'];clear h h';go_wp2_with fail
    go_round
    case rel=>exact ⟨k+1,by omega,by go_num,by rw [HX.out];rfl⟩
    case measure=>simp [intOf];omega
  ·obtain rfl:k=n.nodes.length:=by omega
   rw [Zg];go_wp2_with fail;go_ret;exact ⟨rfl,hd⟩
def qba (out ins:List Int) (b:Bool) (m:Nat):Bool:=b&&(ins.take m).all λi=>i==0 || out.contains i
theorem qes {out ins:List Int} {b:Bool} {m:Nat} (hm:m<ins.length):qba out ins b (m+1)=(qba out ins b m&&(ins[m]==0 || out.contains ins[m])):=by
 unfold qba;rw [Zb hm,List.all_append,Bool.and_assoc];simp
theorem qcp (A N:Option Addr) (c d:Nat) (n:NetD) (w:Zp1) (hok:n.ok) (hR:NetR w A N n):
  Calls Tryz.prog 26 #[.agg #[sQ A n.inn.length c,sQ N n.nodes.length d]] w (qeS (Nt.sorted n.nodes) w):=by
 obtain ⟨i0,hi,h8,h0,hU⟩:=info_parts qb0;have hE:Below w.heap.size w (w.alloc (.cells #[sQ A n.inn.length c,sQ N n.nodes.length d] 39)):=(Ze1 _ _).alloc (lrZ _) _;have hO:=Blk.new w 39 #[sQ A n.inn.length c,sQ N n.nodes.length d];have hJ:=hR.below hE (lrZ _);have Hf:=hok.2.1;have hp:Nt.sorted n.nodes=Kn.order (Nt.insF n.nodes) n.nodes.length:=rfl;have hx:∀k (h:k<n.nodes.length),Nt.insF n.nodes ((k:Int)+1)=n.nodes[k].ins:=λk h=>by unfold Nt.insF;rw [Nt.node_at h]
 generalize Nt.insF n.nodes=I at *;generalize Nt.sorted n.nodes=os at *;obtain ⟨h7,HR,hS,hv,hz⟩:=zd5 hok hR hO hp hx;clear hok hR hO hp hx;go_enter Tryz.func26,Tryz.ntmps26;go_upto_region 1 with fail;have x1:(w.alloc (.cells #[sQ A n.inn.length c,sQ N n.nodes.length d] 39)).cell? ⟨w.heap.size,1,none⟩=some (sQ N n.nodes.length d):=by rw [hS.out.cell];rfl
 have Hg:w.heap.size<(w.alloc (.cells #[sQ A n.inn.length c,sQ N n.nodes.length d] 39)).heap.size:=hS.out.lt;generalize w.alloc (.cells #[sQ A n.inn.length c,sQ N n.nodes.length d] 39)=w1 at *;have h4:=zI hJ;clear hJ;go_wp2_with fail
 go_loopw [3,4] (λo i wx=>∃k:Nat,k<=n.nodes.length/\i=nQ iQ (k:Int)/\wx.ownsRow w1.heap.size 3 1 o (Kn.go I n.nodes.length k).length ((Kn.go I n.nodes.length k).map (Za1 iQ))/\Below w1.heap.size w1 wx) (λ_ i _=>n.nodes.length-(intOf i).toNat)
 case atStart=>exact ⟨0,Zt _,rfl,by simpa [Kn.go] using World.ownsRow_nil w1 w1.heap.size 3 1,Ze1 _ _⟩
 case round=>
  obtain ⟨k,hk,rfl,hown,hn⟩:=hrel;obtain ⟨Ao,co,rfl⟩:=qa8 hown;have x2:=qa1 hn x1
  by_cases He:k<n.nodes.length
  ·have hK:=λid r h=>@Kn.go_more I n.nodes.length k id r h
   have Hb:=Kn.go_len_le I n.nodes.length k;have hd:Kn.ready I n.nodes.length (Kn.go I n.nodes.length k)=[]->Kn.go I n.nodes.length (k+1)=Kn.go I n.nodes.length k:=λh=>Kn.go_stuck h 1
   have hN:=(qal hown).1;generalize Kn.go I n.nodes.length k=out at *;obtain ⟨hY,hs,hl,hL⟩:=zd4 hK hd hown hN;clear hK hd hown hN;go_wp2_with fail;clear x2
   go_loop [3,5] (λo i=>∃j:Nat,j<=n.nodes.length/\i=nQ iQ ((j:Int)+1)/\o=sQ Ao out.length co/\∀u:Int,1<=u->u<=j->Kn.free I out u=false) (λ_ i=>n.nodes.length+1-(intOf i).toNat)
   case atStart=>exact ⟨0,Zt _,rfl,rfl,λu h1 h2=>by omega⟩
   case round=>
    obtain ⟨j,hj,rfl,rfl,hy⟩:=hrel;have x2:=qa1 hn x1
    by_cases hC:j<n.nodes.length
    ·obtain ⟨b,off,S,sc,J,ic,Q,qc,rfl,hD,-,hI,-⟩:=h4.out.2.at_ hC
     have ht:=h7.out.2.2 _ (gmZ hC);have Ha:=ht.2.2.1;have hG:=hz.out j hC;generalize n.nodes[j]=v at *;obtain ⟨⟨-,-,-,-,-,-,-,-,y8,-⟩,-,hM,-⟩:=hD.below hn;have j1:iQ.wrap ((j:Int)+1-1)=(j:Int):=by rw [Zc1 _ oZ];omega
     have j2:(j:Int)<n.nodes.length:=by omega
     have j3:(j:Int)+1<=(n.nodes.length:Int):=by omega
     have ha:Kn.free I out ((j:Int)+1)=qba out v.ins (!hasB out ((j:Int)+1)) v.ins.length:=by
      unfold Kn.free qba;rw [hG,Zg]
      rfl
     obtain ⟨h9,h5,Hd,h6,he,hP⟩:=zd6 hD hM hG ht ha hy;clear hD hM hG ht ha hy;go_wp2_with fail;refine (qco Ao co out ((j:Int)+1) _ oZ hL.out).mono ?_;rintro e w3 ⟨rfl,rfl⟩;go_wp2_with fail;have ha:=he.out;generalize (!hasB out ((j:Int)+1))=bh at *;have he:=zI ha;clear ha;clear y8 x2
     go_loop [6,8] (λf i=>∃m:Nat,m<=v.ins.length/\i=nQ iQ (m:Int)/\f=.bool (qba out v.ins bh m)) (λ_ i=>v.ins.length-(intOf i).toNat)
     case atStart=>exact ⟨0,Zt _,rfl,by simp [qba]⟩
     case round=>
      obtain ⟨m,hm,rfl,rfl⟩:=hrel
      by_cases hF:m<v.ins.length
      ·obtain ⟨b1,off1,rfl,-,hc⟩:=h5.out m hF
       rw [qa2 hF] at hc;have hw:=@qes out v.ins bh m hF;generalize qba out v.ins bh m=fm at *;generalize v.ins[m]=u at *
       by_cases hu:u=0
       ·have e1:(u != 0)=false:=by simp [hu]
        have HF:=zI (show qba out v.ins bh (m+1)=fm by rw [hw,hu];simp);clear hu hw;go_wp2_with fail
        go_round
        case rel=>exact ⟨m+1,by omega,by go_num,by rw [HF.out]⟩
        case measure=>simp [intOf];omega
       ·have e1:(u != 0)=true:=by simp [hu]
        have e0:(u==0)=false:=by simp [hu]
        rw [e0,Bool.false_or] at hw;clear hu e0;have hQ:=zI hw;clear hw;go_wp2_with fail;refine (qco Ao co out u _ oZ hL.out).mono ?_;rintro e w3 ⟨rfl,rfl⟩
        by_cases hh:hasB out u=true
        ·have HF:=zI (show qba out v.ins bh (m+1)=fm by rw [hQ.out,show out.contains u=true from hh,Bool.and_true])
         rw [hh];clear hh;go_wp2_with fail
         go_round
         case rel=>exact ⟨m+1,by omega,by go_num,by rw [HF.out]⟩
         case measure=>simp [intOf];omega
        ·have hB:hasB out u=false:=by simpa using hh
         have HF:=zI (show qba out v.ins bh (m+1)=false by rw [hQ.out,show out.contains u=false from hB,Bool.and_false]);rw [hB];clear hh hB;go_wp2_with fail
         go_round
         case rel=>exact ⟨m+1,by omega,by go_num,by rw [HF.out]⟩
         case measure=>simp [intOf];omega
      ·obtain rfl:m=v.ins.length:=by omega
       rw [←he.out]
       by_cases hf:Kn.free I out ((j:Int)+1)=true
       ·obtain ⟨r,hr⟩:=Kn.ready_first (I:=I) (n:=n.nodes.length) (out:=out) (id:=(j:Int)+1) oZ oZ hf (λu h1 h2=>hP.out u h1 oZ)
        have HG:=zI (hY.out _ _ hr);have ho:=qa6 hl.out (.cells #[nQ iQ ((j:Int)+1)] 3);have hg:=(hn.alloc hn.size (.cells #[nQ iQ ((j:Int)+1)] 3))
        have hT:=zI (λb (hb:(Zb1 Ao out.length co).ownBlock=some b)=>(hl.out.lt b hb).1);rw [hf];clear hf hr;go_wp2_with (at_builtin;refine wpList_append_own_at _ rfl _ _ 22 rfl w1.heap.size 3 i0 (nQ iQ 0) 1 8 Tryz.underlying22 hi h8 h0 hU rfl dZ _ _ _ rfl ho ⟨wr.heap.size,0,none⟩ 1 1 [nQ iQ ((j:Int)+1)] rfl rfl ?c1 (by intro u hu;simp at hu;subst hu;rfl) (by unfold maxLen;omega) oZ ?c2 ?_)
        first|(case c1=>exact qap wr _ _)|skip
        case c2=>first|exact hg.size|(have:=hn.size;omega)
        intro v' w3 hq hgrow _ h3;have hX:Below w1.heap.size w1 w3:=hg.grown hgrow hg.size (λb hb=>hT.out b hb);have hZ:=zI (show w3.ownsRow w1.heap.size 3 1 v' (Kn.go I n.nodes.length (k+1)).length ((Kn.go I n.nodes.length (k+1)).map (Za1 iQ)) by rw [HG.out];simpa using hq);clear hq hgrow h3 ho hg hT;go_wp2_with fail;go_roundw
        case rel=>exact ⟨k+1,by omega,by go_num,hZ.out,hX⟩
        case measure=>simp [intOf];omega
       ·have hA:Kn.free I out ((j:Int)+1)=false:=by simpa using hf
        have hW:=zI (show ∀u:Int,1<=u->u<=((j+1:Nat):Int)->Kn.free I out u=false from λu h1 h2=>by
         by_cases e:u=(j:Int)+1
         ·rw [e];exact hA
         ·exact hP.out u h1 oZ)
        rw [hA];clear hf hA;go_wp2_with fail
        go_round
        case rel=>exact ⟨j+1,by omega,by go_num,rfl,hW.out⟩
        case measure=>simp [intOf];omega
    ·obtain rfl:j=n.nodes.length:=by omega
     have HG:=zI (hs.out (Kn.ready_none (λu h1 h2=>hy u h1 h2)));have j3:¬(n.nodes.length:Int)+1<=(n.nodes.length:Int):=by omega
     clear hy;go_wp2_with fail;go_roundw
     case rel=>exact ⟨k+1,by omega,by go_num,by rw [HG.out];exact hl.out,hn⟩
     case measure=>simp [intOf];omega
  ·obtain rfl:k=n.nodes.length:=by omega
   have hH:os=Kn.go I n.nodes.length n.nodes.length:=hv.out;rw [←hH] at hown ⊢;obtain ⟨q1,q2,q3⟩:=qal hown;obtain ⟨hl,hV,Hc⟩:=zd3 hown q1 hH;clear hown q1 hH;go_wp2_with fail;go_ret;exact ⟨Ao,co,rfl,hV.out,q2,q3,hE.trans (hn.mono hE.size)⟩
theorem qaY (A A':Option Addr) (c c':Nat) (xs ys:List Int) (w:Zp1) (hl:xs.length<=9223372036854775807) (hl':ys.length<=9223372036854775807) (hI:Ints iQ w A xs) (hI':Ints iQ w A' ys):
  Calls Tryz.prog 13 #[sQ A xs.length c,sQ A' ys.length c'] w λe w'=>e=.returned (.bool (decide (xs=ys)))/\∃q,w'=w.drewN q:=by
 by_cases ha:xs.length=ys.length
 ·have hb:ys.length=xs.length:=ha.symm
  rw [hb];have HI:=zI hI;have hn:=zI hI';obtain ⟨he,ho⟩:=zd2 ha hb;clear hI hI' ha hb;go_enter Tryz.func13,Tryz.ntmps13;go_wp2_with fail
  go_loopw [5] (λi wr=>∃k q:Nat,k<=xs.length/\i=nQ iQ k/\xs.take k=ys.take k/\wr=w.drewN q) (λi _=>xs.length-(intOf i).toNat)
  case atStart=>exact ⟨0,0,Zt _,rfl,rfl,rfl⟩
  case round=>
   obtain ⟨k,q,hk,rfl,hg,rfl⟩:=hrel
   by_cases hm:k<xs.length
   ·have hf:k<ys.length:=by have:=he.out;omega
    obtain ⟨b,off,rfl,-,hc⟩:=HI.out k hm;obtain ⟨b',off',rfl,-,hp⟩:=hn.out k hf;rw [qa2 hm] at hc;rw [qa2 hf] at hp;have hd:w.drewN q=w.drewN q:=rfl;have k0:(0:Int)<=(k:Int):=by omega
    have k1:(k:Int)<(xs.length:Int):=by omega
    have hj:xs[k]=ys[k]->xs.take (k+1)=ys.take (k+1):=λe=>by rw [Zb hm,Zb hf,hg,e]
    have hi:xs[k]≠ys[k]->decide (xs=ys)=false:=λe=>by simp;intro h;subst h;exact e rfl
    generalize xs[k]=x at *;generalize ys[k]=y at *
    by_cases hh:x=y
    ·have e1:(x != y)=false:=by simp [hh]
     have HX:=zI (hj hh);clear hj hi hg hh hd;go_wp2_with fail
     go_quiet (fail)
     go_wp2_with fail;go_roundw
     case rel=>exact ⟨k+1,_,by omega,by go_num,HX.out,by first|rfl|exact World.drewN_drewN _ _ _⟩
     case measure=>simp [intOf];omega
    ·have e1:(x != y)=true:=by simp [hh]
     have HX:=zI (hi hh);clear hj hi hg hh hd;go_wp2_with fail
     go_quiet (fail)
     go_wp2_with fail;go_ret;exact ⟨by rw [HX.out];rfl,_,by first|rfl|exact World.drewN_drewN _ _ _⟩
   ·obtain rfl:k=xs.length:=by omega
    have HX:=zI (show decide (xs=ys)=true by
     rw [Zg] at hg;rw [hg,he.out,Zg];simp)
    clear hg;go_wp2_with fail;go_ret;exact ⟨by rw [HX.out];rfl,_,rfl⟩
 ·have HX:=zI (show decide (xs=ys)=false by simp;intro h;exact ha (by rw [h]))
  have e1:((xs.length:Int) != (ys.length:Int))=true:=by rw [bne_iff_ne];omega
  have e2:(xs.length != ys.length)=true:=by rw [bne_iff_ne];omega
  have HI:=zI hI;have hn:=zI hI';have he:=zI ha;clear hI hI' ha;go_enter Tryz.func13,Tryz.ntmps13;go_wp2_with fail;go_ret;exact ⟨by rw [HX.out];rfl,0,rfl⟩
theorem qdM (l:List Int) (x:Int):Safe.prod (l++[x])=Safe.prod l*x:=by
 induction l with
 | nil=>simp [Safe.prod]
 | cons a r ih=>simp only [List.cons_append,Safe.prod,ih];rw [Int.mul_assoc]
theorem qdN {l:List Int} (h:∀x∈l,1<=x):1<=Safe.prod l:=by
 induction l with
 | nil=>simp [Safe.prod]
 | cons a r ih=>
  have h1:=h a sZ;have h2:=ih λx hx=>h x (by simp [hx])
  simp only [Safe.prod];have:=Int.mul_pos (show 0<a by omega) (show 0<Safe.prod r by omega);omega
theorem qam (A:Option Addr) (c:Nat) (zs:List Int) (w:Zp1) (hr:Sh.right zs=true) (hI:Ints iQ w A zs):
  Calls Tryz.prog 35 #[sQ A zs.length c] w λe w'=>e=.returned (nQ iQ (Safe.prod zs))/\w=w':=by
 obtain ⟨-,h1,h2,h3,h4,h5⟩:=Sh.right_mul hr
 have hp:∀k,1<=Safe.prod (zs.take k)/\Safe.prod (zs.take k)<=1099511627776:=λk=>by
  refine ⟨?_,Sh.prod_le (λx hx=>h3 x (Zh hx)) soZ⟩;exact qdN λx hx=>(h3 x (Zh hx)).1
 obtain ⟨HI,Hr,Hp,H3⟩:=zd4 hI hr hp h3;clear hI hr hp h3;go_enter Tryz.func35,Tryz.ntmps35;go_wp2_with fail
 go_loop [3,4] (λt i=>∃k:Nat,k<=zs.length/\i=nQ iQ k/\t=nQ iQ (Safe.prod (zs.take k))) (λ_ i=>zs.length-(intOf i).toNat)
 case atStart=>exact ⟨0,Zt _,rfl,rfl⟩
 case round=>
  obtain ⟨k,hk,rfl,rfl⟩:=hrel
  by_cases ha:k<zs.length
  ·obtain ⟨b,off,rfl,-,hc⟩:=HI.out k ha
   rw [qa2 ha] at hc;have hq:=Hp.out (k+1);have hs:Safe.prod (zs.take (k+1))=Safe.prod (zs.take k)*zs[k]:=by rw [Zb ha,qdM]
   rw [hs] at hq;generalize Safe.prod (zs.take k)=p at *;generalize zs[k]=z at *;obtain ⟨q1,q2⟩:=hq;have hw:iQ.wrap (p*z)=p*z:=Zc1 _ oZ;have Hs:=zI hs;clear hs;go_wp2_with fail
   go_round
   case rel=>exact ⟨k+1,by omega,by go_num,by rw [Hs.out]⟩
   case measure=>simp [intOf];omega
  ·obtain rfl:k=zs.length:=by omega
   rw [Zg];go_wp2_with fail;go_ret;exact ⟨rfl,rfl⟩
theorem qaF (A:Option Addr) (c:Nat) (zs:List Int) (w:Zp1) (hl:zs.length<=9223372036854775807) (hI:Ints iQ w A zs):
  Calls Tryz.prog 31 #[sQ A zs.length c] w λe w'=>e=.returned (.bool (Sh.right zs))/\w=w':=by
 by_cases hd:1<=zs.length/\zs.length<=4
 ·obtain ⟨l1,l2⟩:=hd
  have d1:decide ((zs.length:Int)<1)=false:=by simp;omega
  have d2:decide ((4:Int)<(zs.length:Int))=false:=by simp;omega
  have HI:=zI hI;clear hI;go_enter Tryz.func31,Tryz.ntmps31;go_wp2_with fail
  go_loop [3,4] (λt i=>∃k:Nat,k<=zs.length/\i=nQ iQ k/\(zs.take k).all Sh.side=true/\t=nQ iQ (Safe.prod (zs.take k))) (λ_ i=>zs.length-(intOf i).toNat)
  case atStart=>exact ⟨0,Zt _,rfl,rfl,rfl⟩
  case round=>
   obtain ⟨k,hk,rfl,ha,rfl⟩:=hrel
   by_cases he:k<zs.length
   ·obtain ⟨b,off,rfl,-,hc⟩:=HI.out k he
    rw [qa2 he] at hc;have hs:Safe.prod (zs.take (k+1))=Safe.prod (zs.take k)*zs[k]:=by rw [Zb he,qdM]
    by_cases hz:1<=zs[k]/\zs[k]<=1024
    ·have hb:(zs.take (k+1)).all Sh.side=true:=by
      rw [Zb he,List.all_append,ha];simp [Sh.side,hz]
     have hg:∀x∈zs.take (k+1),1<=x/\x<=1024:=Sh.all_iff hb;have hq:Safe.prod (zs.take (k+1))<=1099511627776:=Sh.prod_le hg soZ
     have hn:1<=Safe.prod (zs.take (k+1)):=by
      exact qdN λx hx=>(hg x hx).1
     rw [hs] at hq hn;generalize Safe.prod (zs.take k)=p at *;generalize zs[k]=z at *;have hw:iQ.wrap (p*z)=p*z:=Zc1 _ oZ;have e1:decide (z<1)=false:=by simp;omega
     have e2:decide (1024<z)=false:=by simp;omega
     clear hz ha hg;obtain ⟨Hs,hf⟩:=zd2 hs hb;clear hs hb;go_wp2_with fail
     go_round
     case rel=>exact ⟨k+1,by omega,by go_num,hf.out,by rw [Hs.out]⟩
     case measure=>simp [intOf];omega
    ·have hj:Sh.right zs=false:=Sh.right_side (by
      rw [List.all_eq_false];exact ⟨zs[k],gmZ he,by rw [Sh.side_iff];exact hz⟩)
     generalize zs[k]=z at *;obtain ⟨hi,hm,Hs⟩:=zd3 hj ha hs;clear hj ha hs
     by_cases hh:z<1
     ·have e1:decide (z<1)=true:=by simpa using hh
      clear hz;go_wp2_with fail;go_ret;exact ⟨by rw [hi.out];rfl,rfl⟩
     ·have e1:decide (z<1)=false:=by simpa using hh
      have e2:decide (1024<z)=true:=by simp;omega
      clear hz;go_wp2_with fail;go_ret;exact ⟨by rw [hi.out];rfl,rfl⟩
   ·obtain rfl:k=zs.length:=by omega
    rw [Zg] at ha ⊢;have HR:=zI (Sh.right_prod ⟨l1,l2⟩ ha);clear ha;go_wp2_with fail;go_ret;exact ⟨by rw [HR.out];rfl,rfl⟩
 ·have HR:=zI (Sh.right_len hd)
  have HI:=zI hI;clear hI
  by_cases h1:zs.length<1
  ·have d1:decide ((zs.length:Int)<1)=true:=by simp;omega
   clear hd;go_enter Tryz.func31,Tryz.ntmps31;go_wp2_with fail;go_ret;exact ⟨by rw [HR.out];rfl,rfl⟩
  ·have d1:decide ((zs.length:Int)<1)=false:=by simp;omega
   have d2:decide ((4:Int)<(zs.length:Int))=true:=by simp;omega
   clear hd;go_enter Tryz.func31,Tryz.ntmps31;go_wp2_with fail;go_ret;exact ⟨by rw [HR.out];rfl,rfl⟩
theorem qgc (k:Int) (w:Zp1):Calls Tryz.prog 107 #[nQ iQ k] w λe w'=>e=.returned (nQ iQ (Od.ptIns k))/\w=w':=by
 by_cases h1:1<=k/\k<=5
 ·have HX:=zI (show Od.ptIns k=1 by unfold Od.ptIns;rw [ipZ h1])
  obtain ⟨a,b⟩:=h1;go_enter Tryz.func107,Tryz.ntmps107;go_wp2_with fail;go_ret;exact ⟨by rw [HX.out];rfl,rfl⟩
 ·by_cases h2:k=6∨k=7
  ·have HX:=zI (show Od.ptIns k=2 by unfold Od.ptIns;rw [inZ h1,ipZ h2])
   clear h1;rcases h2 with rfl|rfl
   all_goals
    go_enter Tryz.func107,Tryz.ntmps107;go_wp2_with fail;go_ret;exact ⟨by rw [HX.out];rfl,rfl⟩
  ·have HX:=zI (show Od.ptIns k=0 by unfold Od.ptIns;rw [inZ h1,inZ h2])
   have e6:(k==6)=false:=by simp;omega
   have e7:(k==7)=false:=by simp;omega
   by_cases h3:1<=k
   ·have d2:decide (k<=5)=false:=by simp;omega
    clear h1 h2;go_enter Tryz.func107,Tryz.ntmps107;go_wp2_with fail;go_ret;exact ⟨by rw [HX.out];rfl,rfl⟩
   ·have d2:decide (1<=k)=false:=by simp;omega
    clear h1 h2;go_enter Tryz.func107,Tryz.ntmps107;go_wp2_with fail;go_ret;exact ⟨by rw [HX.out];rfl,rfl⟩
def qbr (k:Int):Int × Int:=if 1<=k/\k<=7 then (Od.ptIns k,Od.ptIns k) else if k=13 then (1,8) else if 8<=k/\k<=15 then (1,1) else (0,0)
theorem qdO {o:OpD} (h:Od.right o=true):qbr o.kind=(Od.least o,Od.most o):=by
 have hk:=Od.right_kind h;unfold qbr Od.least Od.most;rw [ipZ h,ipZ h]
 by_cases h7:o.kind<=7
 ·rw [ipZ ⟨hk.1,h7⟩,ipZ h7,ipZ h7]
 ·rw [inZ oZ,inZ h7,inZ h7]
  by_cases ha:o.kind=13
  ·rw [ipZ ha,ipZ ha]
  ·rw [inZ ha,inZ ha,ipZ oZ]
def qdP (k:Int):Int:=if k=8 then 2 else if k=9∨k=10 then 1 else 0
theorem qdQ {o:OpD} (h:Od.right o=true):qdP o.kind=Od.params o:=by unfold qdP Od.params;rw [ipZ h]
theorem qgd (k:Int) (w:Zp1) (hk:1<=k/\k<=15):Calls Tryz.prog 64 #[nQ iQ k] w λe w'=>e=.returned (.tuple #[nQ iQ (qbr k).1,nQ iQ (qbr k).2])/\w=w':=by
 by_cases h1:k<=7
 ·have HX:=zI (show qbr k=(Od.ptIns k,Od.ptIns k) by unfold qbr;rw [ipZ ⟨hk.1,h1⟩])
  obtain ⟨a,b⟩:=hk;go_enter Tryz.func64,Tryz.ntmps64;go_wp2_with fail;refine (qgc k _).mono ?_;rintro e w1 ⟨rfl,rfl⟩;go_wp2_with fail
  go_ret2
  exact ⟨by rw [HX.out];rfl,rfl⟩
 ·have d7:decide (k<=7)=false:=by simp;omega
  by_cases ha:k=13
  ·have HX:=zI (show qbr k=(1,8) by unfold qbr;rw [inZ oZ,ipZ ha])
   subst ha;clear hk;go_enter Tryz.func64,Tryz.ntmps64;go_wp2_with fail
   go_ret2
   exact ⟨by rw [HX.out];rfl,rfl⟩
  ·have HX:=zI (show qbr k=(1,1) by unfold qbr;rw [inZ oZ,inZ ha,ipZ oZ])
   have e13:(k==13)=false:=by simp;omega
   have g8:8<=k:=by omega
   obtain ⟨a,b⟩:=hk;clear ha;go_enter Tryz.func64,Tryz.ntmps64;go_wp2_with fail
   go_ret2
   exact ⟨by rw [HX.out];rfl,rfl⟩
theorem qdR (k:Int) (w:Zp1):Calls Tryz.prog 65 #[nQ iQ k] w λe w'=>e=.returned (nQ iQ (qdP k))/\w=w':=by
 by_cases h8:k=8
 ·subst h8
  go_enter Tryz.func65,Tryz.ntmps65;go_wp2_with fail;go_ret;exact ⟨rfl,rfl⟩
 ·by_cases h9:k=9
  ·subst h9
   clear h8;go_enter Tryz.func65,Tryz.ntmps65;go_wp2_with fail;go_ret;exact ⟨rfl,rfl⟩
  ·by_cases ha:k=10
   ·subst ha
    clear h8 h9;go_enter Tryz.func65,Tryz.ntmps65;go_wp2_with fail;go_ret;exact ⟨rfl,rfl⟩
   ·have HX:=zI (show qdP k=0 by unfold qdP;rw [inZ h8,inZ oZ])
    have e8:(k==8)=false:=by simp;omega
    have e9:(k==9)=false:=by simp;omega
    have e10:(k==10)=false:=by simp;omega
    clear h8 h9 ha;go_enter Tryz.func65,Tryz.ntmps65;go_wp2_with fail;go_ret;exact ⟨by rw [HX.out];rfl,rfl⟩
theorem qdS {side width step:Int} (h1:1<=step) (h2:width<=side) (h3:1<=width) (h4:side<=1024) {k:Int} (hk:0<=k) (hw:(k-1)*step+width<=side) (hs:¬k*step+width<=side):k=1+(side-width).tdiv step:=by
 rw [Int.tdiv_eq_ediv_of_nonneg oZ];have e1:(k-1)*step<=side-width:=by omega
 have e2:side-width<k*step:=by omega
 have h5:=Int.le_ediv_of_mul_le (show 0<step by omega) e1;have h6:=Int.ediv_lt_of_lt_mul (show 0<step by omega) e2;omega
theorem qc4 (side width step:Int) (w:Zp1):Calls Tryz.prog 108 #[nQ iQ side,nQ iQ width,nQ iQ step] w λe w'=>e=.returned (nQ iQ (Od.window side width step).1)/\w=w':=by
 by_cases h1:1<=side/\side<=1024/\1<=width/\width<=1024/\1<=step/\step<=1024/\width<=side
 ·have HX:=zI (show (Od.window side width step).1=1+(side-width).tdiv step by
   unfold Od.window;rw [ipZ (by simp only [Sh.side_iff];omega)])
  obtain ⟨a1,a2,a3,a4,a5,a6,a7⟩:=h1;have c1:decide (side<1)=false:=by simp;omega
  have c2:decide (width<1)=false:=by simp;omega
  have c3:decide (step<1)=false:=by simp;omega
  have c4:decide (1024<side)=false:=by simp;omega
  have c5:decide (1024<width)=false:=by simp;omega
  have c6:decide (1024<step)=false:=by simp;omega
  have c7:decide (side<width)=false:=by simp;omega
  go_enter Tryz.func108,Tryz.ntmps108;go_wp2_with fail
  go_loop [7,8] (λt i=>∃k:Int,0<=k/\i=nQ iQ (k*step)/\t=nQ iQ k/\(k-1)*step+width<=side) (λ_ i=>(side+1-intOf i).toNat)
  case atStart=>exact ⟨0,by omega,by rw [Int.zero_mul],rfl,by rw [Int.zero_sub,Int.neg_mul,Int.one_mul];omega⟩
  case round=>
   obtain ⟨k,hk,rfl,rfl,he⟩:=hrel;have b1:(k-1)*step=k*step-step:=by rw [Int.sub_mul,Int.one_mul]
   have b0:0<=k*step:=Int.mul_nonneg hk oZ
   have b3:k<=k*step+1:=by
    have:=Int.mul_le_mul_of_nonneg_left (show 1<=step from a5) hk;omega
   have b2:(k+1)*step=k*step+step:=by rw [Int.add_mul,Int.one_mul]
   have hb:=@qdS side width step a5 a7 a3 a2 k hk he;rw [b1] at he;have ha:k*step+width<=side->(k+1-1)*step+width<=side:=λh=>by rw [Int.add_sub_cancel];exact h
   generalize k*step=m at *
   by_cases hc:m+width<=side
   ·have HL:=zI (ha hc)
    obtain ⟨hg,hf,hh,hd⟩:=zd4 b1 b2 hb ha;clear b1 b2 hb ha;go_wp2_with fail
    go_round
    case rel=>exact ⟨k+1,by omega,by rw [hf.out],rfl,HL.out⟩
    case measure=>simp [intOf];omega
   ·have HK:=zI (hb hc)
    obtain ⟨hg,hf,hh,hd⟩:=zd4 b1 b2 hb ha;clear b1 b2 hb ha;go_wp2_with fail;go_ret;exact ⟨by rw [HX.out,←HK.out];rfl,rfl⟩
 ·have HX:=zI (show (Od.window side width step).1=0 by
   unfold Od.window;rw [inZ (by simp only [Sh.side_iff];omega)])
  by_cases c1:side<1
  ·have d1:decide (side<1)=true:=by simpa using c1
   clear h1;go_enter Tryz.func108,Tryz.ntmps108;go_wp2_with fail;go_ret;exact ⟨by rw [HX.out];rfl,rfl⟩
  ·have d1:decide (side<1)=false:=by simpa using c1
   by_cases c2:width<1
   ·have d2:decide (width<1)=true:=by simpa using c2
    clear h1;go_enter Tryz.func108,Tryz.ntmps108;go_wp2_with fail;go_ret;exact ⟨by rw [HX.out];rfl,rfl⟩
   ·have d2:decide (width<1)=false:=by simpa using c2
    by_cases c3:step<1
    ·have d3:decide (step<1)=true:=by simpa using c3
     clear h1;go_enter Tryz.func108,Tryz.ntmps108;go_wp2_with fail;go_ret;exact ⟨by rw [HX.out];rfl,rfl⟩
    ·have d3:decide (step<1)=false:=by simpa using c3
     by_cases c4:1024<side
     ·have d4:decide (1024<side)=true:=by simpa using c4
      clear h1;go_enter Tryz.func108,Tryz.ntmps108;go_wp2_with fail;go_ret;exact ⟨by rw [HX.out];rfl,rfl⟩
     ·have d4:decide (1024<side)=false:=by simpa using c4
      by_cases c5:1024<width
      ·have d5:decide (1024<width)=true:=by simpa using c5
       clear h1;go_enter Tryz.func108,Tryz.ntmps108;go_wp2_with fail;go_ret;exact ⟨by rw [HX.out];rfl,rfl⟩
      ·have d5:decide (1024<width)=false:=by simpa using c5
       by_cases c6:1024<step
       ·have d6:decide (1024<step)=true:=by simpa using c6
        clear h1;go_enter Tryz.func108,Tryz.ntmps108;go_wp2_with fail;go_ret;exact ⟨by rw [HX.out];rfl,rfl⟩
       ·have d6:decide (1024<step)=false:=by simpa using c6
        have d7:decide (side<width)=true:=by simp;omega
        clear h1;go_enter Tryz.func108,Tryz.ntmps108;go_wp2_with fail;go_ret;exact ⟨by rw [HX.out];rfl,rfl⟩
theorem qet (o:OpD) (S:Option Addr) (c:Nat) (w:Zp1) (hl:o.s.length<=9223372036854775807):
  Calls Tryz.prog 32 #[.agg #[nQ iQ o.kind,nQ iQ o.k,nQ iQ o.width,nQ iQ o.step,nQ iQ o.side,nQ iQ o.frm,nQ iQ o.to,sQ S o.s.length c]] w λe w'=>e=.returned (.bool (Od.refRight o))/\Below w.heap.size w w':=by
 have ha:Below w.heap.size w (w.alloc (.cells #[nQ iQ o.kind,nQ iQ o.k,nQ iQ o.width,nQ iQ o.step,nQ iQ o.side,nQ iQ o.frm,nQ iQ o.to,sQ S o.s.length c] 65)):=(Ze1 _ _).alloc (lrZ _) _;have hb:=Blk.new w 65 #[nQ iQ o.kind,nQ iQ o.k,nQ iQ o.width,nQ iQ o.step,nQ iQ o.side,nQ iQ o.frm,nQ iQ o.to,sQ S o.s.length c];obtain ⟨y0,y1,y2,y3,y4,y5,y6,y7⟩:=qak hb;have HB:=zI ha;clear hb ha;go_enter Tryz.func32,Tryz.ntmps32;go_upto_region 1 with fail;generalize (w.alloc (.cells #[nQ iQ o.kind,nQ iQ o.k,nQ iQ o.width,nQ iQ o.step,nQ iQ o.side,nQ iQ o.frm,nQ iQ o.to,sQ S o.s.length c] 65))=w1 at *
 go_cut [10] (λv wx=>v=.bool (decide (o.kind<1∨15<o.kind))/\w1=wx)
 case first=>
  by_cases c1:o.kind<1
  ·have e1:decide (o.kind<1)=true:=by simp;omega
   have HX:=zI (show decide (o.kind<1∨15<o.kind)=true by simp;omega);clear c1;go_wp2_with fail
   go_meet
   exact ⟨by rw [HX.out],rfl⟩
  ·have e1:decide (o.kind<1)=false:=by simp;omega
   by_cases c2:15<o.kind
   ·have e2:decide (15<o.kind)=true:=by simp;omega
    have HX:=zI (show decide (o.kind<1∨15<o.kind)=true by simp;omega);clear c1 c2;go_wp2_with fail
    go_meet
    exact ⟨by rw [HX.out],rfl⟩
   ·have e2:decide (15<o.kind)=false:=by simp;omega
    have HX:=zI (show decide (o.kind<1∨15<o.kind)=false by simp;omega);clear c1 c2;go_wp2_with fail
    go_meet
    exact ⟨by rw [HX.out],rfl⟩
 case rest=>
  obtain ⟨rfl,rfl⟩:=hcut
  by_cases f0:o.kind<1∨15<o.kind
  ·have q0:decide (o.kind<1∨15<o.kind)=true:=decide_eq_true f0
   have HX:=zI (show Od.refRight o=false by unfold Od.refRight;rw [ipZ f0]);clear f0;rw [q0];clear q0;go_wp2_with fail;go_ret;exact ⟨by rw [HX.out];rfl,HB.out⟩
  ·have q0:decide (o.kind<1∨15<o.kind)=false:=decide_eq_false f0
   rw [q0];clear q0;go_upto_region 3 with fail
   go_cut [23] (λv wx=>v=.bool (decide (o.k≠0/\o.kind≠2/\o.kind≠5))/\w1=wx)
   case first=>
    by_cases c1:o.k=0
    ·have e1:(o.k != 0)=false:=by simp;omega
     have HX:=zI (show decide (o.k≠0/\o.kind≠2/\o.kind≠5)=false by simp;omega);clear c1;go_wp2_with fail
     go_meet
     exact ⟨by rw [HX.out],rfl⟩
    ·have e1:(o.k != 0)=true:=by simp;omega
     by_cases c2:o.kind=2
     ·have e2:(o.kind != 2)=false:=by simp;omega
      have HX:=zI (show decide (o.k≠0/\o.kind≠2/\o.kind≠5)=false by simp;omega);clear c1 c2;go_wp2_with fail
      go_meet
      exact ⟨by rw [HX.out],rfl⟩
     ·have e2:(o.kind != 2)=true:=by simp;omega
      by_cases c3:o.kind=5
      ·have e3:(o.kind != 5)=false:=by simp;omega
       have HX:=zI (show decide (o.k≠0/\o.kind≠2/\o.kind≠5)=false by simp;omega);clear c1 c2 c3;go_wp2_with fail
       go_meet
       exact ⟨by rw [HX.out],rfl⟩
      ·have e3:(o.kind != 5)=true:=by simp;omega
       have HX:=zI (show decide (o.k≠0/\o.kind≠2/\o.kind≠5)=true by simp;omega);clear c1 c2 c3;go_wp2_with fail
       go_meet
       exact ⟨by rw [HX.out],rfl⟩
   case rest=>
    obtain ⟨rfl,rfl⟩:=hcut
    by_cases f1:o.k≠0/\o.kind≠2/\o.kind≠5
    ·have q1:decide (o.k≠0/\o.kind≠2/\o.kind≠5)=true:=decide_eq_true f1
     have HX:=zI (show Od.refRight o=false by unfold Od.refRight;rw [inZ f0,ipZ f1]);clear f0 f1;rw [q1];clear q1;go_wp2_with fail;go_ret;exact ⟨by rw [HX.out];rfl,HB.out⟩
    ·have q1:decide (o.k≠0/\o.kind≠2/\o.kind≠5)=false:=decide_eq_false f1
     rw [q1];clear q1;go_upto_region 5 with fail
     go_cut [36] (λv wx=>v=.bool (decide (o.width≠0/\o.kind≠11/\o.kind≠12))/\w1=wx)
     case first=>
      by_cases c1:o.width=0
      ·have e1:(o.width != 0)=false:=by simp;omega
       have HX:=zI (show decide (o.width≠0/\o.kind≠11/\o.kind≠12)=false by simp;omega);clear c1;go_wp2_with fail
       go_meet
       exact ⟨by rw [HX.out],rfl⟩
      ·have e1:(o.width != 0)=true:=by simp;omega
       by_cases c2:o.kind=11
       ·have e2:(o.kind != 11)=false:=by simp;omega
        have HX:=zI (show decide (o.width≠0/\o.kind≠11/\o.kind≠12)=false by simp;omega);clear c1 c2;go_wp2_with fail
        go_meet
        exact ⟨by rw [HX.out],rfl⟩
       ·have e2:(o.kind != 11)=true:=by simp;omega
        by_cases c3:o.kind=12
        ·have e3:(o.kind != 12)=false:=by simp;omega
         have HX:=zI (show decide (o.width≠0/\o.kind≠11/\o.kind≠12)=false by simp;omega);clear c1 c2 c3;go_wp2_with fail
         go_meet
         exact ⟨by rw [HX.out],rfl⟩
        ·have e3:(o.kind != 12)=true:=by simp;omega
         have HX:=zI (show decide (o.width≠0/\o.kind≠11/\o.kind≠12)=true by simp;omega);clear c1 c2 c3;go_wp2_with fail
         go_meet
         exact ⟨by rw [HX.out],rfl⟩
     case rest=>
      obtain ⟨rfl,rfl⟩:=hcut
      by_cases f2:o.width≠0/\o.kind≠11/\o.kind≠12
      ·have q2:decide (o.width≠0/\o.kind≠11/\o.kind≠12)=true:=decide_eq_true f2
       have HX:=zI (show Od.refRight o=false by unfold Od.refRight;rw [inZ f0,inZ f1,ipZ f2]);clear f0 f1 f2;rw [q2];clear q2;go_wp2_with fail;go_ret;exact ⟨by rw [HX.out];rfl,HB.out⟩
      ·have q2:decide (o.width≠0/\o.kind≠11/\o.kind≠12)=false:=decide_eq_false f2
       rw [q2];clear q2;go_upto_region 7 with fail
       go_cut [49] (λv wx=>v=.bool (decide (o.step≠0/\(o.kind<10∨12<o.kind)))/\w1=wx)
       case first=>
        by_cases c1:o.step=0
        ·have e1:(o.step != 0)=false:=by simp;omega
         have HX:=zI (show decide (o.step≠0/\(o.kind<10∨12<o.kind))=false by simp;omega);clear c1;go_wp2_with fail
         go_meet
         exact ⟨by rw [HX.out],rfl⟩
        ·have e1:(o.step != 0)=true:=by simp;omega
         by_cases c2:o.kind<10
         ·have e2:decide (o.kind<10)=true:=by simp;omega
          have HX:=zI (show decide (o.step≠0/\(o.kind<10∨12<o.kind))=true by simp;omega);clear c1 c2;go_wp2_with fail
          go_meet
          exact ⟨by rw [HX.out],rfl⟩
         ·have e2:decide (o.kind<10)=false:=by simp;omega
          by_cases c3:12<o.kind
          ·have e3:decide (12<o.kind)=true:=by simp;omega
           have HX:=zI (show decide (o.step≠0/\(o.kind<10∨12<o.kind))=true by simp;omega);clear c1 c2 c3;go_wp2_with fail
           go_meet
           exact ⟨by rw [HX.out],rfl⟩
          ·have e3:decide (12<o.kind)=false:=by simp;omega
           have HX:=zI (show decide (o.step≠0/\(o.kind<10∨12<o.kind))=false by simp;omega);clear c1 c2 c3;go_wp2_with fail
           go_meet
           exact ⟨by rw [HX.out],rfl⟩
       case rest=>
        obtain ⟨rfl,rfl⟩:=hcut
        by_cases f3:o.step≠0/\(o.kind<10∨12<o.kind)
        ·have q3:decide (o.step≠0/\(o.kind<10∨12<o.kind))=true:=decide_eq_true f3
         have HX:=zI (show Od.refRight o=false by unfold Od.refRight;rw [inZ f0,inZ f1,inZ f2,ipZ f3]);clear f0 f1 f2 f3;rw [q3];clear q3;go_wp2_with fail;go_ret;exact ⟨by rw [HX.out];rfl,HB.out⟩
        ·have q3:decide (o.step≠0/\(o.kind<10∨12<o.kind))=false:=decide_eq_false f3
         rw [q3];clear q3;go_upto_region 9 with fail
         go_cut [62] (λv wx=>v=.bool (decide (o.side≠0/\o.kind≠13/\o.kind≠14))/\w1=wx)
         case first=>
          by_cases c1:o.side=0
          ·have e1:(o.side != 0)=false:=by simp;omega
           have HX:=zI (show decide (o.side≠0/\o.kind≠13/\o.kind≠14)=false by simp;omega);clear c1;go_wp2_with fail
           go_meet
           exact ⟨by rw [HX.out],rfl⟩
          ·have e1:(o.side != 0)=true:=by simp;omega
           by_cases c2:o.kind=13
           ·have e2:(o.kind != 13)=false:=by simp;omega
            have HX:=zI (show decide (o.side≠0/\o.kind≠13/\o.kind≠14)=false by simp;omega);clear c1 c2;go_wp2_with fail
            go_meet
            exact ⟨by rw [HX.out],rfl⟩
           ·have e2:(o.kind != 13)=true:=by simp;omega
            by_cases c3:o.kind=14
            ·have e3:(o.kind != 14)=false:=by simp;omega
             have HX:=zI (show decide (o.side≠0/\o.kind≠13/\o.kind≠14)=false by simp;omega);clear c1 c2 c3;go_wp2_with fail
             go_meet
             exact ⟨by rw [HX.out],rfl⟩
            ·have e3:(o.kind != 14)=true:=by simp;omega
             have HX:=zI (show decide (o.side≠0/\o.kind≠13/\o.kind≠14)=true by simp;omega);clear c1 c2 c3;go_wp2_with fail
             go_meet
             exact ⟨by rw [HX.out],rfl⟩
         case rest=>
          obtain ⟨rfl,rfl⟩:=hcut
          by_cases f4:o.side≠0/\o.kind≠13/\o.kind≠14
          ·have q4:decide (o.side≠0/\o.kind≠13/\o.kind≠14)=true:=decide_eq_true f4
           have HX:=zI (show Od.refRight o=false by unfold Od.refRight;rw [inZ f0,inZ f1,inZ f2,inZ f3,ipZ f4]);clear f0 f1 f2 f3 f4;rw [q4];clear q4;go_wp2_with fail;go_ret;exact ⟨by rw [HX.out];rfl,HB.out⟩
          ·have q4:decide (o.side≠0/\o.kind≠13/\o.kind≠14)=false:=decide_eq_false f4
           rw [q4];clear q4;go_upto_region 11 with fail
           go_cut [75] (λv wx=>v=.bool (decide ((o.frm≠0∨o.to≠0)/\o.kind≠14))/\w1=wx)
           case first=>
            by_cases c1:o.frm=0
            ·have e1:(o.frm != 0)=false:=by simp;omega
             by_cases c2:o.to=0
             ·have e2:(o.to != 0)=false:=by simp;omega
              have HX:=zI (show decide ((o.frm≠0∨o.to≠0)/\o.kind≠14)=false by simp;omega);clear c1 c2;go_wp2_with fail
              go_meet
              exact ⟨by rw [HX.out],rfl⟩
             ·have e2:(o.to != 0)=true:=by simp;omega
              by_cases c3:o.kind=14
              ·have e3:(o.kind != 14)=false:=by simp;omega
               have HX:=zI (show decide ((o.frm≠0∨o.to≠0)/\o.kind≠14)=false by simp;omega);clear c1 c2 c3;go_wp2_with fail
               go_meet
               exact ⟨by rw [HX.out],rfl⟩
              ·have e3:(o.kind != 14)=true:=by simp;omega
               have HX:=zI (show decide ((o.frm≠0∨o.to≠0)/\o.kind≠14)=true by simp;omega);clear c1 c2 c3;go_wp2_with fail
               go_meet
               exact ⟨by rw [HX.out],rfl⟩
            ·have e1:(o.frm != 0)=true:=by simp;omega
             by_cases c2:o.kind=14
             ·have e2:(o.kind != 14)=false:=by simp;omega
              have HX:=zI (show decide ((o.frm≠0∨o.to≠0)/\o.kind≠14)=false by simp;omega);clear c1 c2;go_wp2_with fail
              go_meet
              exact ⟨by rw [HX.out],rfl⟩
             ·have e2:(o.kind != 14)=true:=by simp;omega
              have HX:=zI (show decide ((o.frm≠0∨o.to≠0)/\o.kind≠14)=true by simp;omega);clear c1 c2;go_wp2_with fail
              go_meet
              exact ⟨by rw [HX.out],rfl⟩
           case rest=>
            obtain ⟨rfl,rfl⟩:=hcut
            by_cases f5:(o.frm≠0∨o.to≠0)/\o.kind≠14
            ·have q5:decide ((o.frm≠0∨o.to≠0)/\o.kind≠14)=true:=decide_eq_true f5
             have HX:=zI (show Od.refRight o=false by unfold Od.refRight;rw [inZ f0,inZ f1,inZ f2,inZ f3,inZ f4,ipZ f5]);clear f0 f1 f2 f3 f4 f5;rw [q5];clear q5;go_wp2_with fail;go_ret;exact ⟨by rw [HX.out];rfl,HB.out⟩
            ·have q5:decide ((o.frm≠0∨o.to≠0)/\o.kind≠14)=false:=decide_eq_false f5
             rw [q5];clear q5;have HF:=zI (show Od.refRight o=decide (o.s=[]∨o.kind=15) by unfold Od.refRight;rw [inZ f0,inZ f1,inZ f2,inZ f3,inZ f4,inZ f5]);clear f0 f1 f2 f3 f4 f5
             by_cases h1:o.s=[]
             ·have HX:=zI (show decide (o.s=[]∨o.kind=15)=true by simp [h1])
              have e1:((o.s.length:Int)==0)=true:=by simp [h1]
              have e2:o.s.length=0:=by simp [h1]
              rw [e2] at *;clear h1;go_wp2_with fail;go_ret;exact ⟨by rw [HF.out,HX.out];rfl,HB.out⟩
             ·have e1:((o.s.length:Int)==0)=false:=by simp [h1]
              have e2:(o.s.length==0)=false:=by simp [h1]
              by_cases h2:o.kind=15
              ·have HX:=zI (show decide (o.s=[]∨o.kind=15)=true by simp [h2])
               have e3:(o.kind==15)=true:=by simp [h2]
               clear h1 h2;go_wp2_with fail;go_ret;exact ⟨by rw [HF.out,HX.out];rfl,HB.out⟩
              ·have HX:=zI (show decide (o.s=[]∨o.kind=15)=false by simp [h1,h2])
               have e3:(o.kind==15)=false:=by simp [h2]
               clear h1 h2;go_wp2_with fail;go_ret;exact ⟨by rw [HF.out,HX.out];rfl,HB.out⟩
def RefP (r:List Int × Int) (w:Zp1) (e:Ending) (w':Zp1):Prop:=
 ∃S c,e=.returned (.tuple #[sQ S r.1.length c,nQ iQ r.2])/\Ints iQ w' S r.1/\r.1.length<=c/\c<=9223372036854775807/\Below w.heap.size w w'
def WithP (zs:List Int) (w:Zp1) (e:Ending) (w':Zp1):Prop:=
 ∃g,e=.returned (sQ (some ⟨g,0,none⟩) zs.length zs.length)/\Ints iQ w' (some ⟨g,0,none⟩) zs/\w.heap.size<=g/\Below w.heap.size w w'
theorem qbT (A:Option Addr) (c:Nat) (zs:List Int) (i:Nat) (v:Int) (w:Zp1) (hl:zs.length<=17592186043904) (hI:Ints iQ w A zs) (hi':i<zs.length):
  Calls Tryz.prog 109 #[sQ A zs.length c,nQ iQ (i:Int),nQ iQ v] w (WithP (zs.set i v) w):=by
 obtain ⟨i0,hi,ho,hm,hn⟩:=info_parts qb0;have HI:=zI hI;clear hI;go_enter Tryz.func109,Tryz.ntmps109;go_wp2_with (at_make;refine wpList_make_full _ rfl _ _ 22 rfl w.heap.size 3 i0 (nQ iQ 0) 1 Tryz.underlying22 hi ho hm _ _ _ _ zs.length rfl rfl (by first|rfl|simp) (by first|rfl|simp) ?b2 ?b3 (lrZ _) ?_)
 case b2=>rw [hn];omega
 case b3=>unfold maxLen;omega
 intro w1 hown hgrow;have hb:=qau hown;have hc:Below w.heap.size w w1:=(Ze1 _ w).grown hgrow (lrZ _) sZ;have ha:=hown.1;have hh:=zI (HI.out.below hc (lrZ _));generalize (madeCells #[Za1 iQ 0] zs.length).toList=cur at *;clear hown hgrow HI;go_wp2_with (with_reducible refine wpList_copy_splice rfl (.tmp 11) (.tmp 12) 22 22 rfl 3 Tryz.underlying22 ?d1 (some ⟨w.heap.size,0,none⟩) A zs.length zs.length zs.length c rfl rfl w.heap.size 0 cur 3 hb (zs.map (Za1 iQ)) ?d2 ?d3 ?d4 ?d5 w.heap.size w hc (lrZ _) ?_)
 case d1=>kernel_rfl
 case d2=>simp
 case d3=>intro hp;exact hh.out.src' (by simpa using hp)
 case d4=>simp at ha ⊢;omega
 case d5=>intro v hv;obtain ⟨x,_,rfl⟩:=List.mem_map.1 hv;rfl
 intro w2 he hg;have hs:=qbS (cur:=cur) (cs:=zs.map (Za1 iQ)) (by simp at ha ⊢;omega);have hk:Blk w2 w.heap.size 3 (zs.map (Za1 iQ)).toArray:=by unfold Blk;rw [←hs];exact he.out
 have y:w2.cell? ⟨w.heap.size,i,none⟩=some (nQ iQ zs[i]):=by rw [hk.cell];simp [hi']
 have f:=hk.frozen i;have hd:=hk.set_ i (nQ iQ v);have l0:(0:Int)<=(i:Int):=by omega
 have l1:(i:Int)<(zs.length:Int):=by omega
 obtain ⟨Hk,hf⟩:=zd2 hk hd;clear hk hd;clear he hc ha hs hb;go_wp2_with fail;go_ret;refine ⟨w.heap.size,by rw [List.length_set];rfl,Ints.of_row λj hj=>?_,lrZ _,hg.setCell (lrZ _) _⟩;rw [Zw,hf.out.cell j];rw [qa2 hj];simp at hj;simp [List.getElem_set,hj]
 split<;>simp_all
theorem qaW (side:Int):∀(a b:List (List Int)) (s:List Int),Od.joinAll side s (a++b)=if (Od.joinAll side s a).2=0 then Od.joinAll side (Od.joinAll side s a).1 b else ([],(Od.joinAll side s a).2)
 | [],b,s=>by simp [Od.joinAll]
 | t::a,b,s=>by
  rw [List.cons_append,Od.joinAll,Od.joinAll]
  split
  ·exact qaW side a b _
  ·rename_i h;simp
theorem qdT {side:Int} {l:List (List Int)} {s s1:List Int} {k:Nat} (hk:k<l.length) (h:Od.joinAll side s (l.take k)=(s1,0)):
  ((Od.join s1 l[k] side).2=0->Od.joinAll side s (l.take (k+1))=((Od.join s1 l[k] side).1,0))/\((Od.join s1 l[k] side).2≠0->Od.joinAll side s l=([],(Od.join s1 l[k] side).2)):=by
 refine ⟨λe=>?_,λe=>?_⟩
 ·rw [Zb hk,qaW,h]
  simp [Od.joinAll,e]
 ·have:l=l.take k++l[k]::l.drop (k+1):=by rw [←Zd hk,Zn]
  have e2:=congrArg (Od.joinAll side s) this;rw [e2,qaW,h];simp [Od.joinAll,e]
def qeT (s t:List Int) (side:Int) (m:Nat):Prop:=∀j,j<m->(j:Int)=side∨s.getD j 0=t.getD j 0
theorem qfm {s t:List Int} {side:Int} (h:qeT s t side s.length):Od.joinOk s t side=true:=by
 unfold Od.joinOk;rw [Zf];intro i hi;have:=h i (List.mem_range.1 hi);simpa using this
theorem qfn {s t:List Int} {side:Int} {m:Nat} (hm:m<s.length) (h1:(m:Int)≠side) (h2:s.getD m 0≠t.getD m 0):Od.joinOk s t side=false:=by
 unfold Od.joinOk;rw [List.all_eq_false];exact ⟨m,List.mem_range.2 hm,by simp [h1] ;simpa using h2⟩
theorem qdU (side:Int) (X:Option Addr) (c:Nat) (xs:List (List Int)) (w:Zp1) (hX:Shps w X xs) (hl:xs.length<=1048576) (h1:1<=xs.length) (hr:∀s∈xs,Sh.right s=true):
  Calls Tryz.prog 110 #[nQ iQ side,sQ X xs.length c] w (RefP (Od.joined side xs) w):=by
 obtain ⟨b0,off0,S0,c0,rfl,-,y0,hT,Hl,Hj⟩:=hX 0 oZ;have hU:=hr xs[0] (gmZ oZ);have h0:xs.getD 0 []=xs[0]:=qa9 oZ;have hx:xs.drop 1=xs.drop 1:=rfl;have hF:Od.joined side xs=if xs.length=1/\Od.inR side xs[0]=false then ([],11) else Od.joinAll side xs[0] (xs.drop 1):=by unfold Od.joined;rw [h0]
 have Hx:=(qa4 hU).2;rw [Zx] at y0
 by_cases hd:xs.length=1/\Od.inR side xs[0]=false
 ·have HQ:=zI (show Od.joined side xs=([],11) by rw [hF,ipZ hd])
  have hb:=hd.2;have e1:((xs.length:Int)==1)=true:=by simp;omega
  have e1':(xs.length==1)=true:=by simp;omega
  simp [Od.inR] at hb;clear hF hx h0;generalize xs[0]=s at *;obtain ⟨HX,Hr,Hb,Hv,Ht⟩:=zd5 hX hr hT hU hd;clear hX hr hT hU hd
  by_cases hh:side<0
  ·have e2:decide (side<0)=true:=by simpa using hh
   clear hb;go_enter Tryz.func110,Tryz.ntmps110;go_wp2_with fail
   go_ret2
   exact ⟨none,0,by rw [HQ.out];rfl,by rw [HQ.out];exact Ints.nil,by rw [HQ.out];exact lrZ _,by omega,Ze1 _ _⟩
  ·have e2:decide (side<0)=false:=by simpa using hh
   have e3:decide ((s.length:Int)<=side)=true:=by simpa using hb oZ
   clear hb;go_enter Tryz.func110,Tryz.ntmps110;go_wp2_with fail
   go_ret2
   exact ⟨none,0,by rw [HQ.out];rfl,by rw [HQ.out];exact Ints.nil,by rw [HQ.out];exact lrZ _,by omega,Ze1 _ _⟩
 ·rw [inZ hd] at hF
  have h3:∀t∈xs.drop 1,Sh.right t=true:=λt ht=>hr t (Zp ht)
  have Ho:(xs.drop 1).length=xs.length-1:=by simp
  have h4:∀k (h:k<(xs.drop 1).length),∃S c,w.cell? ⟨b0,off0+(k+1),none⟩=some (sQ S (xs.drop 1)[k].length c)/\Ints iQ w S (xs.drop 1)[k]:=λk h=>by
   obtain ⟨b,off,S,c,e,-,hc,hI,-⟩:=hX (k+1) oZ;injection e with e
   injection e with e1 e2
   subst e1 e2;rw [List.getElem_drop];simp only [Nat.add_comm 1 k];exact ⟨S,c,hc,hI⟩
  have he:xs.length=1->Od.inR side xs[0]=true:=λh=>by by_cases q:Od.inR side xs[0]=true;exact q;exact absurd ⟨h,by simpa using q⟩ hd
  generalize xs[0]=s0 at *;obtain ⟨l,hl'⟩:∃l,xs.drop 1=l:=⟨_,rfl⟩
  rw [hl'] at h3 Ho h4 hF;clear hx h0 hd hl';obtain ⟨HX,Hr,Hb,hO,Hq,Hm⟩:=zd6 hX hr hT hF h3 h4;clear hX hr hT hF h3 h4;go_enter Tryz.func110,Tryz.ntmps110;go_upto_region 2 with fail
  go_cut [24] (λv wx=>v=.bool false/\w=wx)
  case first=>
   by_cases hZ:xs.length=1
   ·have hi:=he hZ
    simp [Od.inR] at hi;obtain ⟨p1,p2⟩:=hi;have e1:((xs.length:Int)==1)=true:=by simp;omega
    have e1':(xs.length==1)=true:=by simp;omega
    have e2:decide (side<0)=false:=by simp;omega
    have e3:decide ((s0.length:Int)<=side)=false:=by simp;omega
    clear he hZ;go_wp2_with fail
    go_meet
    exact ⟨rfl,rfl⟩
   ·have e1:((xs.length:Int)==1)=false:=by simp;omega
    have e1':(xs.length==1)=false:=by simp;omega
    clear he hZ;go_wp2_with fail
    go_meet
    exact ⟨rfl,rfl⟩
  case rest=>
   obtain ⟨rfl,rfl⟩:=hcut;clear he;go_wp2_with fail
   go_loopw [6,7] (λo i wr=>∃(k:Nat) (S:Option Addr) (d:Nat) (s:List Int),k<=l.length/\i=nQ iQ ((k:Int)+1)/\o=sQ S s.length d/\Ints iQ wr S s/\s.length<=d/\d<=9223372036854775807/\Sh.right s=true/\Od.joinAll side s0 (l.take k)=(s,0)/\Below w.heap.size w wr) (λ_ i _=>l.length+1-(intOf i).toNat)
   case atStart=>exact ⟨0,S0,c0,s0,Zt _,rfl,rfl,Hb.out,Hl,Hj,hU,rfl,Ze1 _ _⟩
   case round=>
    obtain ⟨k,S,d,s,hk,rfl,rfl,hI,Hk,Hi,hf,hv,hq⟩:=hrel
    by_cases h2:k<l.length
    ·obtain ⟨St,ct,yt,hA⟩:=Hm.out k h2
     have ho:=Hq.out _ (gmZ h2);obtain ⟨hz,hu⟩:=qdT h2 hv;generalize l[k]=t at *;have y1:=qa1 hq yt;have ha:=hA.below hq (lrZ _);obtain ⟨s3,s4⟩:=qa4 hf;obtain ⟨t3,t4⟩:=qa4 ho;have k1:((k:Int)+1)<(xs.length:Int):=by omega
     have k2:((k:Int)+1).toNat=k+1:=by omega
     have k0:(0:Int)<=(k:Int)+1:=by omega
     have k3:iQ.wrap ((k:Int)+1+1)=(k:Int)+1+1:=Zc1 _ oZ
     by_cases hs:t.length=s.length
     rotate_left
     ·have e1:((t.length:Int) != (s.length:Int))=true:=by rw [bne_iff_ne];omega
      have e2:(t.length != s.length)=true:=by rw [bne_iff_ne];omega
      have hj:Od.join s t side=([],20):=by unfold Od.join;rw [inZ];simp;intro _ _ h;exact absurd h.symm hs
      have HQ:=zI (hO.out.trans (hu (by rw [hj];simp)));have HJ:=zI hj;clear hz hu hs hj hv;obtain ⟨HI,Hf,hN,hY,Hg⟩:=zd5 hI hA ha hf ho;clear hI hA ha hf ho;go_wp2_with fail
      go_ret2
      exact ⟨none,0,by rw [HQ.out,HJ.out];rfl,by rw [HQ.out];exact Ints.nil,by rw [HQ.out];exact lrZ _,by omega,hq⟩
     ·by_cases hi:Od.inR side s=true
      rotate_left
      ·have hj:Od.join s t side=([],11):=by unfold Od.join;rw [ipZ (by simp [hf,ho,hs]),inZ hi]
       have HQ:=zI (hO.out.trans (hu (by rw [hj];simp)));have HJ:=zI hj;simp [Od.inR] at hi;rw [hs] at y1;clear hz hu hs hj hv;obtain ⟨HI,Hf,hN,hY,Hg⟩:=zd5 hI hA ha hf ho;clear hI hA ha hf ho
       by_cases hh:side<0
       ·have e2:decide (side<0)=true:=by simpa using hh
        clear hi;go_wp2_with fail
        go_ret2
        exact ⟨none,0,by rw [HQ.out,HJ.out];rfl,by rw [HQ.out];exact Ints.nil,by rw [HQ.out];exact lrZ _,by omega,hq⟩
       ·have e2:decide (side<0)=false:=by simpa using hh
        have e3:decide ((s.length:Int)<=side)=true:=by simpa using hi oZ
        clear hi;go_wp2_with fail
        go_ret2
        exact ⟨none,0,by rw [HQ.out,HJ.out];rfl,by rw [HQ.out];exact Ints.nil,by rw [HQ.out];exact lrZ _,by omega,hq⟩
      ·have hp:Od.join s t side=if Od.joinOk s t side&&Sh.right (Od.joinL s t side) then (Od.joinL s t side,0) else ([],20):=by unfold Od.join;rw [ipZ (by simp [hf,ho,hs]),ipZ hi]
       simp [Od.inR] at hi;obtain ⟨sd,rfl⟩:∃sd:Nat,side=(sd:Int):=⟨side.toNat,by omega⟩
       have hV:sd<s.length:=by omega
       have e2:decide ((sd:Int)<0)=false:=by simp
       have e3:decide ((s.length:Int)<=(sd:Int))=false:=by simp;omega
       have e3':decide (s.length<=sd)=false:=by simp;omega
       rw [hs] at y1;clear hi;obtain ⟨bS,offS,rfl,-,-⟩:=hI 0 s3;obtain ⟨bT,offT,rfl,-,-⟩:=ha 0 t3;have Hy:=(Sh.right_mul hf).2.2.2.1 s[sd] (gmZ hV);have hg:sd<t.length:=by omega
       have Hw:=(Sh.right_mul ho).2.2.2.1 (t[sd]'hg) (gmZ hg);have hE:Od.joinL s t (sd:Int)=s.set sd (s[sd]+t[sd]'hg):=by unfold Od.joinL Od.at_;rw [tnZ,qa2 hV,qa2 hg]
       have Hd:∀m (h:m<s.length),wr.cell? ⟨bS,offS+m,none⟩=some (nQ iQ s[m]):=λm h=>by
        obtain ⟨b,o,e,-,hc⟩:=hI m h;injection e with e;injection e with e1 e2;subst e1 e2
        rw [hc,qa2 h]
       have h9:∀m (h:m<t.length),wr.cell? ⟨bT,offT+m,none⟩=some (nQ iQ t[m]):=λm h=>by
        obtain ⟨b,o,e,-,hc⟩:=ha m h;injection e with e;injection e with e1 e2;subst e1 e2
        rw [hc,qa2 h]
       have hL:=λm (hm:m<s.length)=>@qfn s t (sd:Int) m hm
       obtain ⟨HI,Hf,hN,hY,Hg,h5,hP,hB,Hs⟩:=zd9 hI hA ha hf ho hz hu hp hv;obtain ⟨Hp,h6,Hh,Ha,hW⟩:=zd5 hs hE Hd h9 hL;clear hI hA ha hf ho hz hu hp hv hs hE Hd h9 hL;go_wp2_with fail;obtain ⟨wo,rfl⟩:∃wo,wo=wr:=⟨wr,rfl⟩
       go_loopw [8] (λi wx=>∃m q:Nat,m<=s.length/\i=nQ iQ (m:Int)/\qeT s t (sd:Int) m/\wx=wo.drewN q) (λi _=>s.length-(intOf i).toNat)
       case atStart=>exact ⟨0,0,Zt _,rfl,λj hj=>by omega,rfl⟩
       case round=>
        obtain ⟨m,q,hm,rfl,hD,rfl⟩:=hrel
        by_cases hR:m<s.length
        ·have hy:m<t.length:=by have:=Hp.out;omega
         have z1:=Hh.out m hR;have z2:=Ha.out m hy;have m0:(0:Int)<=(m:Int):=by omega
         have m1:(m:Int)<(s.length:Int):=by omega
         by_cases hH:m=sd
         ·have e4:((m:Int) != (sd:Int))=false:=by simp [hH]
          have e4':(m != sd)=false:=by simp [hH]
          have HT:=zI (show qeT s t (sd:Int) (m+1) from λj hj=>by
           by_cases e:j=m
           ·left;omega
           ·exact hD j oZ)
          clear hD hH;go_wp2_with fail
          go_quiet (fail)
          go_wp2_with fail;go_roundw
          case rel=>exact ⟨m+1,_,by omega,by go_num,HT.out,by first|rfl|exact World.drewN_drewN _ _ _⟩
          case measure=>simp [intOf];omega
         ·have e4:((m:Int) != (sd:Int))=true:=by rw [bne_iff_ne];omega
          have e4':(m != sd)=true:=by rw [bne_iff_ne];exact hH
          by_cases hG:s[m]=t[m]
          ·have e5:(s[m] != t[m])=false:=by simp [hG]
           have HT:=zI (show qeT s t (sd:Int) (m+1) from λj hj=>by
            by_cases e:j=m
            ·right;subst e;rw [qa2 hR,qa2 hy,hG]
            ·exact hD j oZ)
           clear hD hH hG;generalize s[m]=x at *;generalize t[m]=y at *;go_wp2_with fail
           go_quiet (fail)
           go_wp2_with fail;go_roundw
           case rel=>exact ⟨m+1,_,by omega,by go_num,HT.out,by first|rfl|exact World.drewN_drewN _ _ _⟩
           case measure=>simp [intOf];omega
          ·have e5:(s[m] != t[m])=true:=by simp [hG]
           have He:=hW.out m hR oZ (by rw [qa2 hR,qa2 hy];exact hG);have hj:Od.join s t (sd:Int)=([],20):=by rw [hB.out,He];simp
           have HQ:=zI (hO.out.trans (hP.out (by rw [hj];simp)));have HJ:=zI hj;clear hD hH hG He hj;generalize s[m]=x at *;generalize t[m]=y at *;go_wp2_with fail
           go_quiet (fail)
           go_wp2_with fail
           go_ret2
           exact ⟨none,0,by rw [HQ.out,HJ.out];rfl,by rw [HQ.out];exact Ints.nil,by rw [HQ.out];exact lrZ _,by omega,by first|exact qa7 hq _|(rw [World.drewN_drewN];exact qa7 hq _)⟩
        ·obtain rfl:m=s.length:=by omega
         have hM:=qfm hD;have z1:=Hh.out sd hV;have z2:=Ha.out sd hg;have Hc:=HI.out.drewN q;have m0:(0:Int)<=(sd:Int):=by omega
         have m1:(sd:Int)<(s.length:Int):=by omega
         have hE:=h6.out;have hp:=hB.out;rw [hM,Bool.true_and,hE] at hp;have hz:=h5.out;have hu:=hP.out;generalize s[sd]=x at *;generalize t[sd]=y at *;have ww:iQ.wrap (x+y)=x+y:=Zc1 _ oZ;clear hD hM;obtain ⟨Hn,h6,hB,h5,hP⟩:=zd5 Hc hE hp hz hu;clear Hc hE hp hz hu;go_upto_region 16 with fail
         go_region_held3 (λw'=>w'.cell? ⟨bS,offS+sd,none⟩=some (nQ iQ x)/\w'.cell? ⟨b0,off0+(k+1),none⟩=some (sQ (some ⟨bT,offT,none⟩) s.length ct)/\w'.cell? ⟨bT,offT+sd,none⟩=some (nQ iQ y)) (first|go_keep|(exact ⟨qa1 hw z1,qa1 hw y1,qa1 hw z2⟩))
          ((go_at_call 109;refine (qbT _ _ s sd (x+y) _ oZ (by exact Hn.out) hV).mono ?_;rintro e w9 ⟨g,rfl,hQ,Hz,hw⟩))
         have hJ:=hq.trans ((show Below wo.heap.size wo w9 from ⟨hw.os,hw.tape,hw.output,hw.size,hw.block⟩).mono hq.size);have hS:(s.set sd (x+y)).length=s.length:=List.length_set;obtain ⟨s',hs'⟩:∃s',s.set sd (x+y)=s':=⟨_,rfl⟩
         have hp:=hB.out;rw [hs'] at hQ hS hp;have hn:=qaF (some ⟨g,0,none⟩) s.length s' w9 oZ hQ;rw [hS] at hn;obtain ⟨hK,Hu,h7,hB⟩:=zd4 hn hQ hS hp;have HA:=zI hs';clear hn hQ hS hp hs';go_wp2_with fail;refine (hK.out).mono ?_;rintro e w10 ⟨rfl,rfl⟩
         by_cases hC:Sh.right s'=true
         ·have hj:=hB.out
          rw [ipZ hC] at hj;have HS:=zI (h5.out (by rw [hj]));have HJ:=zI hj;have HR:=zI hC;rw [hC];clear hj hC z1 z2 y1;go_wp2_with fail;go_roundw
          case rel=>exact ⟨k+1,some ⟨g,0,none⟩,s.length,s',by omega,by go_num,by rw [h7.out],Hu.out,by have:=h7.out;omega,by omega,HR.out,by rw [HS.out,HJ.out],hJ⟩
          case measure=>simp [intOf];omega
         ·have hj:=hB.out
          rw [inZ hC] at hj;have HQ:=zI (hO.out.trans (hP.out (by rw [hj];simp)));have HJ:=zI hj;have h8:Sh.right s'=false:=by simpa using hC
          rw [h8];clear hj hC h8 z1 z2 y1;go_wp2_with fail
          go_ret2
          exact ⟨none,0,by rw [HQ.out,HJ.out];rfl,by rw [HQ.out];exact Ints.nil,by rw [HQ.out];exact lrZ _,by omega,hJ⟩
    ·obtain rfl:k=l.length:=by omega
     rw [Zg] at hv;have HQ:=zI (hO.out.trans hv);have k1:¬((l.length:Int)+1)<(xs.length:Int):=by omega
     obtain ⟨HI,Hs,hY⟩:=zd3 hI hv hf;clear hI hv hf;go_wp2_with fail
     go_ret2
     exact ⟨S,d,by rw [HQ.out];rfl,by rw [HQ.out];exact HI.out,by rw [HQ.out];exact Hk,Hi,hq⟩
theorem Shps.each {w:Zp1} {b off:Nat} {xs:List (List Int)} (h:Shps w (some ⟨b,off,none⟩) xs) {k:Nat} (hk:k<xs.length):
  ∃S c,w.cell? ⟨b,off+k,none⟩=some (sQ S xs[k].length c)/\Ints iQ w S xs[k]/\xs[k].length<=c/\c<=9223372036854775807:=by
 obtain ⟨b',o',S,c,e,-,hc,hI,h1,h2⟩:=h k hk;injection e with e
 injection e with e1 e2
 subst e1 e2;exact ⟨S,c,hc,hI,h1,h2⟩
theorem Ints.at_ {k:IntKind} {w:Zp1} {b off:Nat} {zs:List Int} (h:Ints k w (some ⟨b,off,none⟩) zs) {j:Nat} (hj:j<zs.length):w.cell? ⟨b,off+j,none⟩=some (.int k zs[j]):=by
 obtain ⟨b',o',e,-,hc⟩:=h j hj;injection e with e
 injection e with e1 e2
 subst e1 e2;rw [hc,qa2 hj]
theorem RefP.err {r:List Int × Int} {w w':Zp1} {n:Int} (h:r=([],n)) (hb:Below w.heap.size w w'):RefP r w (.returned (.tuple #[sQ none 0 0,nQ iQ n])) w':=
 ⟨none,0,by rw [h];rfl,by rw [h];exact Ints.nil,by rw [h];exact lrZ _,by omega,hb⟩
theorem RefP.ok {r:List Int × Int} {w w':Zp1} {S:Option Addr} {s:List Int} {c n:Nat} (h:r=(s,0)) (hn:s.length=n) (hI:Ints iQ w' S s) (h1:s.length<=c) (h2:c<=9223372036854775807) (hb:Below w.heap.size w w'):RefP r w (.returned (.tuple #[sQ S n c,nQ iQ 0])) w':=by
 subst hn;exact ⟨S,c,by rw [h],by rw [h];exact hI,by rw [h];exact h1,h2,hb⟩
theorem qdi {B:Nat} {a w:Zp1} (h:Below B a w) (n m:Nat):Below B a ((w.drewN n).drewN m):=qa7 (qa7 h n) m
theorem list_two {l:List Int} (h:l.length=2):∃a b,l=[a,b]:=by
 match l,h with
 | [a,b],_=>exact ⟨a,b,rfl⟩
theorem qge {l:List Int} (h:l.length=1):∃x,l=[x]:=by
 match l,h with
 | [x],_=>exact ⟨x,rfl⟩
theorem qcN (o:OpD) (S P X:Option Addr) (c d f:Nat) (p x:List (List Int)) (w:Zp1) (hk:o.kind<=7) (ho:o.s.length<=1099511627776) (hsc:o.s.length<=c) (hsm:c<=9223372036854775807) (hw:o.wide) (hS:Ints iQ w S o.s) (hP:Shps w P p) (hX:Shps w X x) (hxl:x.length<=1048576) (h1:1<=x.length) (hp:∀s∈p,Sh.right s=true) (hx:∀s∈x,Sh.right s=true):
  Calls Tryz.prog 66 #[.agg #[nQ iQ o.kind,nQ iQ o.k,nQ iQ o.width,nQ iQ o.step,nQ iQ o.side,nQ iQ o.frm,nQ iQ o.to,sQ S o.s.length c],sQ P p.length d,sQ X x.length f] w (RefP (Od.byKind o p x) w):=by
 have hq:Od.byKind o p x=Od.same x:=by unfold Od.byKind;rw [inZ oZ,inZ oZ,inZ oZ,inZ oZ,inZ oZ,inZ oZ,inZ oZ]
 obtain ⟨bx,ox,S0,c0,rfl,-⟩:=hX 0 h1;have hb:Below w.heap.size w (w.alloc (.cells #[nQ iQ o.kind,nQ iQ o.k,nQ iQ o.width,nQ iQ o.step,nQ iQ o.side,nQ iQ o.frm,nQ iQ o.to,sQ S o.s.length c] 65)):=(Ze1 _ _).alloc (lrZ _) _;have hh:=Blk.new w 65 #[nQ iQ o.kind,nQ iQ o.k,nQ iQ o.width,nQ iQ o.step,nQ iQ o.side,nQ iQ o.frm,nQ iQ o.to,sQ S o.s.length c];obtain ⟨z0,z1,z2,z3,z4,z5,z6,z7⟩:=qak hh;have hf:=hX.below hb (lrZ _);have hz:=hP.below hb (lrZ _);have hu:=hS.below hb (lrZ _);have hc:=hx x[0] (gmZ h1);have hd:x.getD 0 []=x[0]:=qa9 h1
 first|rw [hd] at hq|skip
 have e1:decide (o.kind<=7)=true:=by simpa using hk
 clear hk;obtain ⟨hR,HX,HP,HS,Hp,Hx⟩:=zd6 hh hX hP hS hp hx;clear hh hX hP hS hp hx;go_enter Tryz.func66,Tryz.ntmps66;go_upto_region 1 with fail;generalize (w.alloc (.cells #[nQ iQ o.kind,nQ iQ o.k,nQ iQ o.width,nQ iQ o.step,nQ iQ o.side,nQ iQ o.frm,nQ iQ o.to,sQ S o.s.length c] 65))=w1 at *;obtain ⟨S0',c0',y0,hm,hH,hD⟩:=hf.each h1;rw [Zx] at y0;clear S0;generalize hs0:x[0]=s0 at *;have hr:=(Sh.right_mul hc).2.2.2.1;obtain ⟨s3,s4⟩:=qa4 hc;obtain ⟨hG,hJ,hM,hg,hB,Hq,hv,hO,hQ⟩:=zd9 hf hz hu hm hc hq hd hs0 hr;have Hw:=zI hw;clear hf hz hu hm hc hq hd hs0 hr hw;go_wp2_with fail;refine (qam S0' c0' s0 w1 hB.out hg.out).mono ?_;rintro e w2 ⟨rfl,rfl⟩;go_wp2_with fail
 go_loopw [10] (λi wx=>∃k q:Nat,k<=x.length/\i=nQ iQ (k:Int)/\(∀j (hj:j<x.length),j<k->x[j]=s0)/\wx=w1.drewN q) (λi _=>x.length-(intOf i).toNat)
 case atStart=>exact ⟨0,0,Zt _,rfl,λj hj h=>by omega,rfl⟩
 case round=>
  obtain ⟨k,q,hk,rfl,ha,rfl⟩:=hrel
  by_cases hi:k<x.length
  ·obtain ⟨Sk,ck,yk,hy,hK,hI⟩:=hG.out.each hi
   have k0:(0:Int)<=(k:Int):=by omega
   have k1:(k:Int)<(x.length:Int):=by omega
   have hn:x[k]=s0->∀j (hj:j<x.length),j<k+1->x[j]=s0:=λe j hj hN=>by
    by_cases h:j=k
    ·subst h;exact e
    ·exact ha j hj oZ
   have hs:x[k]≠s0->Od.same x=([],20):=λe=>by
    unfold Od.same;rw [inZ];rw [Zf];intro h;have:=h x[k] (gmZ hi);rw [hv.out] at this;exact e (by simpa using this)
   have hl:=Hx.out x[k] (gmZ hi);obtain ⟨a3,a4⟩:=qa4 hl;generalize x[k]=t at *;obtain ⟨hE,hC,hF,hA,hL⟩:=zd5 hy ha hn hs hl;clear hy ha hn hs hl;go_wp2_with fail;refine (qaY Sk S0' ck c0' t s0 _ oZ oZ (hE.out.drewN q) (hg.out.drewN q)).mono ?_;rintro e w3 ⟨rfl,q2,rfl⟩
   by_cases he:t=s0
   ·have e1:decide (t=s0)=true:=by simpa using he
    have HG:=zI (hF.out he);rw [e1];clear he e1;go_wp2_with fail;go_roundw
    case rel=>exact ⟨k+1,_,by omega,by go_num,HG.out,by first|rfl|exact World.drewN_drewN _ _ _⟩
    case measure=>simp [intOf];omega
   ·have e1:decide (t=s0)=false:=by simpa using he
    have HN:=zI (Hq.out.trans (hA.out he));rw [e1];clear he e1;go_wp2_with fail
    go_ret2
    exact RefP.err HN.out (by first|exact qdi hb _ _|exact qa7 hb _)
  ·obtain rfl:k=x.length:=by omega
   have HN:=zI (Hq.out.trans (show Od.same x=(s0,0) by
    unfold Od.same;rw [hv.out,ipZ];rw [Zf];intro t ht;obtain ⟨j,hj,rfl⟩:=List.getElem_of_mem ht;simpa using ha j hj hj))
   clear ha;go_wp2_with fail
   go_ret2
   exact RefP.ok HN.out rfl (hg.out.drewN q) hH hD (by first|exact qdi hb _ _|exact qa7 hb _)
theorem qbU (o:OpD) (S P X:Option Addr) (c d f:Nat) (p x:List (List Int)) (w:Zp1) (hk:o.kind=9) (hpl:p.length=1) (ho:o.s.length<=1099511627776) (hsc:o.s.length<=c) (hsm:c<=9223372036854775807) (hw:o.wide) (hS:Ints iQ w S o.s) (hP:Shps w P p) (hX:Shps w X x) (hxl:x.length<=1048576) (h1:1<=x.length) (hp:∀s∈p,Sh.right s=true) (hx:∀s∈x,Sh.right s=true):
  Calls Tryz.prog 66 #[.agg #[nQ iQ o.kind,nQ iQ o.k,nQ iQ o.width,nQ iQ o.step,nQ iQ o.side,nQ iQ o.frm,nQ iQ o.to,sQ S o.s.length c],sQ P p.length d,sQ X x.length f] w (RefP (Od.byKind o p x) w):=by
 have hq:Od.byKind o p x=Od.same [p.getD 0 [],x.getD 0 []]:=by unfold Od.byKind;simp [hk]
 obtain ⟨bx,ox,S0,c0,rfl,-⟩:=hX 0 h1;obtain ⟨bp,op,T0,d0,rfl,-⟩:=hP 0 oZ;have ha:Below w.heap.size w (w.alloc (.cells #[nQ iQ o.kind,nQ iQ o.k,nQ iQ o.width,nQ iQ o.step,nQ iQ o.side,nQ iQ o.frm,nQ iQ o.to,sQ S o.s.length c] 65)):=(Ze1 _ _).alloc (lrZ _) _;have hg:=Blk.new w 65 #[nQ iQ o.kind,nQ iQ o.k,nQ iQ o.width,nQ iQ o.step,nQ iQ o.side,nQ iQ o.frm,nQ iQ o.to,sQ S o.s.length c];obtain ⟨z0,z1,z2,z3,z4,z5,z6,z7⟩:=qak hg;have hd:=hX.below ha (lrZ _);have hj:=hP.below ha (lrZ _);have hn:=hS.below ha (lrZ _);have hb:=hx x[0] (gmZ h1);have hc:x.getD 0 []=x[0]:=qa9 h1
 first|rw [hc] at hq|skip
 have hh:=hp p[0] (gmZ oZ);have hi:p.getD 0 []=p[0]:=qa9 oZ
 first|rw [hi] at hq|skip
 have l7:decide (o.kind<=7)=false:=by simp;omega
 have e8:(o.kind==8)=false:=by simp;omega
 have e9:(o.kind==9)=true:=by simp;omega
 clear hk;obtain ⟨hG,HX,HP,HS,Hp,Hx⟩:=zd6 hg hX hP hS hp hx;clear hg hX hP hS hp hx;go_enter Tryz.func66,Tryz.ntmps66;go_upto_region 1 with fail;generalize (w.alloc (.cells #[nQ iQ o.kind,nQ iQ o.k,nQ iQ o.width,nQ iQ o.step,nQ iQ o.side,nQ iQ o.frm,nQ iQ o.to,sQ S o.s.length c] 65))=w1 at *;obtain ⟨S0',c0',y0,hl,hu,ht⟩:=hd.each h1;rw [Zx] at y0;obtain ⟨T0',d0',v0,hr,hJ,hy⟩:=hj.each (show 0<p.length by omega);rw [Zx] at v0;clear T0;clear S0;generalize hs0:x[0]=s0 at *;generalize hsp:p[0]=t0 at *;obtain ⟨q3,q4⟩:=qa4 hh;have hm:=(Sh.right_mul hb).2.2.2.1;obtain ⟨s3,s4⟩:=qa4 hb;obtain ⟨hH,hz,hA,hf,hs,Hq,hE,hC,hD⟩:=zd9 hd hj hn hl hb hq hc hs0 hm;obtain ⟨Hw,hv,hI,hB,hF⟩:=zd5 hw hr hh hi hsp;clear hd hj hn hl hb hq hc hs0 hm hw hr hh hi hsp;go_wp2_with fail;refine (qam S0' c0' s0 w1 hs.out hf.out).mono ?_;rintro e w2 ⟨rfl,rfl⟩;go_wp2_with fail;refine (qaY T0' S0' d0' c0' t0 s0 _ oZ oZ hv.out hf.out).mono ?_;rintro e w3 ⟨rfl,q2,rfl⟩
 by_cases he:t0=s0
 ·have e1:decide (t0=s0)=true:=by simpa using he
  have HN:=zI (Hq.out.trans (show Od.same [t0,s0]=(s0,0) by simp [Od.same,he]));rw [e1];clear he e1;go_wp2_with fail
  go_ret2
  exact RefP.ok HN.out rfl (hf.out.drewN q2) hu ht (qa7 ha _)
 ·have e1:decide (t0=s0)=false:=by simpa using he
  have HN:=zI (Hq.out.trans (show Od.same [t0,s0]=([],20) by
   unfold Od.same;rw [inZ];simp;intro e;exact he e.symm))
  rw [e1];clear he e1;go_wp2_with fail
  go_ret2
  exact RefP.err HN.out (qa7 ha _)
theorem qc7 (o:OpD) (S P X:Option Addr) (c d f:Nat) (p x:List (List Int)) (w:Zp1) (hk:o.kind=13) (ho:o.s.length<=1099511627776) (hsc:o.s.length<=c) (hsm:c<=9223372036854775807) (hw:o.wide) (hS:Ints iQ w S o.s) (hP:Shps w P p) (hX:Shps w X x) (hxl:x.length<=1048576) (h1:1<=x.length) (hp:∀s∈p,Sh.right s=true) (hx:∀s∈x,Sh.right s=true):
  Calls Tryz.prog 66 #[.agg #[nQ iQ o.kind,nQ iQ o.k,nQ iQ o.width,nQ iQ o.step,nQ iQ o.side,nQ iQ o.frm,nQ iQ o.to,sQ S o.s.length c],sQ P p.length d,sQ X x.length f] w (RefP (Od.byKind o p x) w):=by
 have hq:Od.byKind o p x=Od.joined o.side x:=by unfold Od.byKind;simp [hk]
 obtain ⟨bx,ox,S0,c0,rfl,-⟩:=hX 0 h1;have ha:Below w.heap.size w (w.alloc (.cells #[nQ iQ o.kind,nQ iQ o.k,nQ iQ o.width,nQ iQ o.step,nQ iQ o.side,nQ iQ o.frm,nQ iQ o.to,sQ S o.s.length c] 65)):=(Ze1 _ _).alloc (lrZ _) _;have hg:=Blk.new w 65 #[nQ iQ o.kind,nQ iQ o.k,nQ iQ o.width,nQ iQ o.step,nQ iQ o.side,nQ iQ o.frm,nQ iQ o.to,sQ S o.s.length c];obtain ⟨z0,z1,z2,z3,z4,z5,z6,z7⟩:=qak hg;have he:=hX.below ha (lrZ _);have hl:=hP.below ha (lrZ _);have hi:=hS.below ha (lrZ _);have hb:=hx x[0] (gmZ h1);have hd:x.getD 0 []=x[0]:=qa9 h1
 first|rw [hd] at hq|skip
 have l7:decide (o.kind<=7)=false:=by simp;omega
 have l12:decide (o.kind<=12)=false:=by simp;omega
 have e8:(o.kind==8)=false:=by simp;omega
 have e9:(o.kind==9)=false:=by simp;omega
 have e10:(o.kind==10)=false:=by simp;omega
 have e13:(o.kind==13)=true:=by simp;omega
 clear hk;obtain ⟨hD,HX,HP,HS,Hp,Hx⟩:=zd6 hg hX hP hS hp hx;clear hg hX hP hS hp hx;go_enter Tryz.func66,Tryz.ntmps66;go_upto_region 1 with fail;generalize (w.alloc (.cells #[nQ iQ o.kind,nQ iQ o.k,nQ iQ o.width,nQ iQ o.step,nQ iQ o.side,nQ iQ o.frm,nQ iQ o.to,sQ S o.s.length c] 65))=w1 at *;obtain ⟨S0',c0',y0,hh,hF,hG⟩:=he.each h1;rw [Zx] at y0;clear S0;generalize hs0:x[0]=s0 at *;have hn:=(Sh.right_mul hb).2.2.2.1;obtain ⟨s3,s4⟩:=qa4 hb;obtain ⟨hu,hC,hE,hy,hs,Hq,hB,hH,hA⟩:=zd9 he hl hi hh hb hq hd hs0 hn;have Hw:=zI hw;clear he hl hi hh hb hq hd hs0 hn hw;go_wp2_with fail;refine (qam S0' c0' s0 w1 hs.out hy.out).mono ?_;rintro e w2 ⟨rfl,rfl⟩;go_wp2_with fail;refine (qdU o.side (some ⟨bx,ox,none⟩) f x _ hu.out hxl h1 Hx.out).mono ?_;rintro e w3 ⟨S9,c9,rfl,hj,hz,ht,hr⟩;have hf:=ha.trans (hr.mono ha.size);have hm:=Hq.out;generalize Od.joined o.side x=r at *;obtain ⟨hv,hc⟩:=zd2 hj hm;clear hj hm;go_wp2_with fail
 go_ret2
 exact ⟨S9,c9,by rw [hc.out];rfl,by rw [hc.out];exact hv.out,by rw [hc.out];exact hz,ht,hf⟩
theorem qc8 (o:OpD) (S P X:Option Addr) (c d f:Nat) (p x:List (List Int)) (w:Zp1) (hk:o.kind=15) (ho:o.s.length<=1099511627776) (hsc:o.s.length<=c) (hsm:c<=9223372036854775807) (hw:o.wide) (hS:Ints iQ w S o.s) (hP:Shps w P p) (hX:Shps w X x) (hxl:x.length<=1048576) (h1:1<=x.length) (hp:∀s∈p,Sh.right s=true) (hx:∀s∈x,Sh.right s=true):
  Calls Tryz.prog 66 #[.agg #[nQ iQ o.kind,nQ iQ o.k,nQ iQ o.width,nQ iQ o.step,nQ iQ o.side,nQ iQ o.frm,nQ iQ o.to,sQ S o.s.length c],sQ P p.length d,sQ X x.length f] w (RefP (Od.byKind o p x) w):=by
 have hq:Od.byKind o p x=Od.turned (x.getD 0 []) o.s:=by unfold Od.byKind;simp [hk]
 obtain ⟨bx,ox,S0,c0,rfl,-⟩:=hX 0 h1;have ha:Below w.heap.size w (w.alloc (.cells #[nQ iQ o.kind,nQ iQ o.k,nQ iQ o.width,nQ iQ o.step,nQ iQ o.side,nQ iQ o.frm,nQ iQ o.to,sQ S o.s.length c] 65)):=(Ze1 _ _).alloc (lrZ _) _;have hh:=Blk.new w 65 #[nQ iQ o.kind,nQ iQ o.k,nQ iQ o.width,nQ iQ o.step,nQ iQ o.side,nQ iQ o.frm,nQ iQ o.to,sQ S o.s.length c];obtain ⟨z0,z1,z2,z3,z4,z5,z6,z7⟩:=qak hh;have hd:=hX.below ha (lrZ _);have hm:=hP.below ha (lrZ _);have hj:=hS.below ha (lrZ _);have hb:=hx x[0] (gmZ h1);have hc:x.getD 0 []=x[0]:=qa9 h1
 first|rw [hc] at hq|skip
 have l7:decide (o.kind<=7)=false:=by simp;omega
 have l12:decide (o.kind<=12)=false:=by simp;omega
 have e8:(o.kind==8)=false:=by simp;omega
 have e9:(o.kind==9)=false:=by simp;omega
 have e10:(o.kind==10)=false:=by simp;omega
 have e13:(o.kind==13)=false:=by simp;omega
 have e14:(o.kind==14)=false:=by simp;omega
 clear hk;obtain ⟨hA,HX,HP,HS,Hp,Hx⟩:=zd6 hh hX hP hS hp hx;clear hh hX hP hS hp hx;go_enter Tryz.func66,Tryz.ntmps66;go_upto_region 1 with fail;generalize (w.alloc (.cells #[nQ iQ o.kind,nQ iQ o.k,nQ iQ o.width,nQ iQ o.step,nQ iQ o.side,nQ iQ o.frm,nQ iQ o.to,sQ S o.s.length c] 65))=w1 at *;obtain ⟨S0',c0',y0,hi,hC,hD⟩:=hd.each h1;rw [Zx] at y0;clear S0;generalize hs0:x[0]=s0 at *;have hs:=(Sh.right_mul hb).2.2.2.1;obtain ⟨s3,s4⟩:=qa4 hb;obtain ⟨hB,hz,hf,ht,hl,Hq,hy,hE,hv⟩:=zd9 hd hm hj hi hb hq hc hs0 hs;have Hw:=zI hw;clear hd hm hj hi hb hq hc hs0 hs hw;go_wp2_with fail;refine (qam S0' c0' s0 w1 hl.out ht.out).mono ?_;rintro e w2 ⟨rfl,rfl⟩;go_wp2_with fail;refine (qaF S c o.s _ oZ hf.out).mono ?_;rintro e w3 ⟨rfl,rfl⟩
 by_cases hr:Sh.right o.s=true
 ·rw [hr]
  have hn:=Hq.out;unfold Od.turned at hn;rw [hl.out,hr,Bool.true_and,Bool.true_and] at hn;obtain ⟨hu,HN⟩:=zd2 hr hn;clear hr hn;go_wp2_with fail;refine (qam S c o.s _ hu.out hf.out).mono ?_;rintro e w3 ⟨rfl,rfl⟩
  by_cases he:Safe.prod o.s=Safe.prod s0
  ·have e1:(Safe.prod o.s != Safe.prod s0)=false:=by simp [he]
   have HM:=zI (HN.out.trans (ipZ (decide_eq_true he)));clear he;go_wp2_with fail
   go_ret2
   exact RefP.ok HM.out rfl hf.out hsc hsm ha
  ·have e1:(Safe.prod o.s != Safe.prod s0)=true:=by simp [he]
   have HM:=zI (HN.out.trans (inZ (by simpa using he)));clear he;go_wp2_with fail
   go_ret2
   exact RefP.err HM.out ha
 ·have hg:Sh.right o.s=false:=by simpa using hr
  rw [hg];have HM:=zI (Hq.out.trans (show Od.turned s0 o.s=([],20) by unfold Od.turned;rw [hg];simp));clear hr hg;go_wp2_with fail
  go_ret2
  exact RefP.err HM.out ha
theorem qc9 (o:OpD) (S P X:Option Addr) (c d f:Nat) (p x:List (List Int)) (w:Zp1) (hk:o.kind=11∨o.kind=12) (ho:o.s.length<=1099511627776) (hsc:o.s.length<=c) (hsm:c<=9223372036854775807) (hw:o.wide) (hS:Ints iQ w S o.s) (hP:Shps w P p) (hX:Shps w X x) (hxl:x.length<=1048576) (h1:1<=x.length) (hp:∀s∈p,Sh.right s=true) (hx:∀s∈x,Sh.right s=true):
  Calls Tryz.prog 66 #[.agg #[nQ iQ o.kind,nQ iQ o.k,nQ iQ o.width,nQ iQ o.step,nQ iQ o.side,nQ iQ o.frm,nQ iQ o.to,sQ S o.s.length c],sQ P p.length d,sQ X x.length f] w (RefP (Od.byKind o p x) w):=by
 have hq:Od.byKind o p x=Od.pool (x.getD 0 []) o.width o.step:=by unfold Od.byKind;rw [inZ oZ,inZ oZ,inZ oZ,ipZ hk]
 obtain ⟨bx,ox,S0,c0,rfl,-⟩:=hX 0 h1;have hf:Below w.heap.size w (w.alloc (.cells #[nQ iQ o.kind,nQ iQ o.k,nQ iQ o.width,nQ iQ o.step,nQ iQ o.side,nQ iQ o.frm,nQ iQ o.to,sQ S o.s.length c] 65)):=(Ze1 _ _).alloc (lrZ _) _;have hu:=Blk.new w 65 #[nQ iQ o.kind,nQ iQ o.k,nQ iQ o.width,nQ iQ o.step,nQ iQ o.side,nQ iQ o.frm,nQ iQ o.to,sQ S o.s.length c];obtain ⟨z0,z1,z2,z3,z4,z5,z6,z7⟩:=qak hu;have ht:=hX.below hf (lrZ _);have hI:=hP.below hf (lrZ _);have hG:=hS.below hf (lrZ _);have hn:=hx x[0] (gmZ h1);have hs:x.getD 0 []=x[0]:=qa9 h1
 first|rw [hs] at hq|skip
 have l7:decide (o.kind<=7)=false:=by simp;omega
 have e8:(o.kind==8)=false:=by simp;omega
 have e9:(o.kind==9)=false:=by simp;omega
 have e10:(o.kind==10)=false:=by simp;omega
 have l12:decide (o.kind<=12)=true:=by simp;omega
 clear hk;obtain ⟨h2,HX,HP,HS,Hp,Hx⟩:=zd6 hu hX hP hS hp hx;clear hu hX hP hS hp hx;go_enter Tryz.func66,Tryz.ntmps66;go_upto_region 1 with fail;generalize (w.alloc (.cells #[nQ iQ o.kind,nQ iQ o.k,nQ iQ o.width,nQ iQ o.step,nQ iQ o.side,nQ iQ o.frm,nQ iQ o.to,sQ S o.s.length c] 65))=w1 at *;obtain ⟨S0',c0',y0,hA,h4,hY⟩:=ht.each h1;rw [Zx] at y0;clear S0;generalize hs0:x[0]=s0 at *;have hE:=(Sh.right_mul hn).2.2.2.1;obtain ⟨s3,s4⟩:=qa4 hn;obtain ⟨h3,hU,hW,hm,hC,Hq,h0,hZ,hN⟩:=zd9 ht hI hG hA hn hq hs hs0 hE;have Hw:=zI hw;clear ht hI hG hA hn hq hs hs0 hE hw;go_wp2_with fail;refine (qam S0' c0' s0 w1 hC.out hm.out).mono ?_;rintro e w2 ⟨rfl,rfl⟩;have hj:s0.length-1<s0.length:=by omega
 have hc:=Hq.out;unfold Od.pool at hc;rw [ipZ hC.out,qa2 hj] at hc;obtain ⟨bs,os,rfl,-,-⟩:=hm.out 0 s3;have g0:=hm.out.at_ hj;have hV:=hN.out _ (gmZ hj);have i1:iQ.wrap ((s0.length:Int)-1)=((s0.length-1:Nat):Int):=by rw [Zc1 _ oZ];omega
 have i2:(0:Int)<=((s0.length-1:Nat):Int):=by omega
 have i3:((s0.length-1:Nat):Int)<(s0.length:Int):=by omega
 have hd:=λn:Nat=>qc4 s0[s0.length-1] o.width o.step (w1.drewN n)
 have hF:=@Od.window_ok s0[s0.length-1] o.width o.step;have hi:=@Od.window_err s0[s0.length-1] o.width o.step;generalize s0[s0.length-1]=z at *;have he:∀v,(s0.set (s0.length-1) v).length=s0.length:=λv=>List.length_set
 have ha:=λ(n:Nat) (v:Int)=>qbT (some ⟨bs,os,none⟩) c0' s0 (s0.length-1) v (w1.drewN n) oZ (hm.out.drewN n) hj
 obtain ⟨l,hl⟩:∃l:Nat,s0.length-1=l:=⟨_,rfl⟩
 have hH:(s0.length:Int)-1=(l:Int):=by omega
 rw [hl] at g0 i1 i2 i3 ha hc he;have i4:l<s0.length:=by omega
 obtain ⟨hh,hg,hQ,hr,hy,Hl,hT⟩:=zd7 hc hd hF hi he hl hH;clear hc hd hF hi he hl hH;have hO:=zI ha;clear ha hj;go_wp2_with fail
 go_quiet ((go_at_call 108;exact qaA (hg.out _)))
 rename_i nq;generalize hwv:Od.window z o.width o.step=wv at *
 by_cases hz:wv.2=0
 ·have hb:=hQ.out hz
  have e1:(wv.1==0)=false:=by simp;omega
  have HN:=zI (hh.out.trans (ipZ hz));have HC:=zI (hO.out nq wv.1);clear hz hb;have hM:=zI hwv;clear hwv;go_wp2_with fail;refine (HC.out).mono ?_;rintro e w3 ⟨g,rfl,hB,hR,hJ⟩;have hv:=(qa7 hf nq).trans (hJ.mono hf.size);have hD:=hy.out wv.1;generalize s0.set l wv.1=s9 at *;obtain ⟨hL,hK⟩:=zd2 hB hD;clear hB hD;go_wp2_with fail
  go_ret2
  exact RefP.ok HN.out rfl hL.out (lrZ _) (by have:=hK.out;omega) hv
 ·have hb:=hr.out hz
  have e1:(wv.1==0)=true:=by rw [hb];rfl
  have HN:=zI (hh.out.trans (inZ hz));clear hz hb;have hM:=zI hwv;clear hwv;go_wp2_with fail
  go_ret2
  exact RefP.err HN.out (qa7 hf _)
theorem qcq (o:OpD) (S P X:Option Addr) (c d f:Nat) (p x:List (List Int)) (w:Zp1) (hk:o.kind=14) (ho:o.s.length<=1099511627776) (hsc:o.s.length<=c) (hsm:c<=9223372036854775807) (hw:o.wide) (hS:Ints iQ w S o.s) (hP:Shps w P p) (hX:Shps w X x) (hxl:x.length<=1048576) (h1:1<=x.length) (hp:∀s∈p,Sh.right s=true) (hx:∀s∈x,Sh.right s=true):
  Calls Tryz.prog 66 #[.agg #[nQ iQ o.kind,nQ iQ o.k,nQ iQ o.width,nQ iQ o.step,nQ iQ o.side,nQ iQ o.frm,nQ iQ o.to,sQ S o.s.length c],sQ P p.length d,sQ X x.length f] w (RefP (Od.byKind o p x) w):=by
 have hq:Od.byKind o p x=Od.cut (x.getD 0 []) o.side o.frm o.to:=by unfold Od.byKind;simp [hk]
 obtain ⟨bx,ox,S0,c0,rfl,-⟩:=hX 0 h1;have ha:Below w.heap.size w (w.alloc (.cells #[nQ iQ o.kind,nQ iQ o.k,nQ iQ o.width,nQ iQ o.step,nQ iQ o.side,nQ iQ o.frm,nQ iQ o.to,sQ S o.s.length c] 65)):=(Ze1 _ _).alloc (lrZ _) _;have hi:=Blk.new w 65 #[nQ iQ o.kind,nQ iQ o.k,nQ iQ o.width,nQ iQ o.step,nQ iQ o.side,nQ iQ o.frm,nQ iQ o.to,sQ S o.s.length c];obtain ⟨z0,z1,z2,z3,z4,z5,z6,z7⟩:=qak hi;have hh:=hX.below ha (lrZ _);have hz:=hP.below ha (lrZ _);have hu:=hS.below ha (lrZ _);have hf:=hx x[0] (gmZ h1);have hg:x.getD 0 []=x[0]:=qa9 h1
 first|rw [hg] at hq|skip
 have l7:decide (o.kind<=7)=false:=by simp;omega
 have l12:decide (o.kind<=12)=false:=by simp;omega
 have e8:(o.kind==8)=false:=by simp;omega
 have e9:(o.kind==9)=false:=by simp;omega
 have e10:(o.kind==10)=false:=by simp;omega
 have e13:(o.kind==13)=false:=by simp;omega
 have e14:(o.kind==14)=true:=by simp;omega
 clear hk;obtain ⟨hL,HX,HP,HS,Hp,Hx⟩:=zd6 hi hX hP hS hp hx;clear hi hX hP hS hp hx;go_enter Tryz.func66,Tryz.ntmps66;go_upto_region 1 with fail;generalize (w.alloc (.cells #[nQ iQ o.kind,nQ iQ o.k,nQ iQ o.width,nQ iQ o.step,nQ iQ o.side,nQ iQ o.frm,nQ iQ o.to,sQ S o.s.length c] 65))=w1 at *;obtain ⟨S0',c0',y0,hm,hQ,hI⟩:=hh.each h1;rw [Zx] at y0;clear S0;generalize hs0:x[0]=s0 at *;have ht:=(Sh.right_mul hf).2.2.2.1;obtain ⟨s3,s4⟩:=qa4 hf;obtain ⟨hO,hG,hH,hd,hr,Hq,hK,hJ,hD⟩:=zd9 hh hz hu hm hf hq hg hs0 ht;have Hw:=zI hw;clear hh hz hu hm hf hq hg hs0 ht hw;go_wp2_with fail;refine (qam S0' c0' s0 w1 hr.out hd.out).mono ?_;rintro e w2 ⟨rfl,rfl⟩;have hcut:=Hq.out;unfold Od.cut at hcut;rw [ipZ hr.out] at hcut
 by_cases a1:o.side<0
 ·have d1:decide (o.side<0)=true:=by simpa using a1
  have HN:=zI (hcut.trans (inZ (by simp [Od.inR];omega)));clear hcut;go_wp2_with fail
  go_quiet (fail)
  go_wp2_with fail
  go_ret2
  exact RefP.err HN.out (qa7 ha _)
 ·have d1:decide (o.side<0)=false:=by simpa using a1
  by_cases a2:(s0.length:Int)<=o.side
  ·have d2:decide ((s0.length:Int)<=o.side)=true:=by simpa using a2
   have HN:=zI (hcut.trans (inZ (by simp [Od.inR];omega)));clear hcut;go_wp2_with fail
   go_quiet (fail)
   go_wp2_with fail
   go_ret2
   exact RefP.err HN.out (qa7 ha _)
  ·have d2:decide ((s0.length:Int)<=o.side)=false:=by simpa using a2
   obtain ⟨sd,hsd⟩:∃sd:Nat,o.side=(sd:Int):=⟨o.side.toNat,by omega⟩
   have he:sd<s0.length:=by omega
   have hv:Od.inR o.side s0=true:=by simp [Od.inR];omega
   have hy:Od.at_ s0 o.side=s0[sd]:=by unfold Od.at_;rw [hsd,tnZ,qa2 he]
   rw [hv,Bool.true_and,hy] at hcut;have hN:=hD.out _ (gmZ he);obtain ⟨bs,os,rfl,-,-⟩:=hd.out 0 s3;have g0:=hd.out.at_ he;have hb:=λ(n:Nat) (v:Int)=>qbT (some ⟨bs,os,none⟩) c0' s0 sd v (w1.drewN n) oZ (hd.out.drewN n) he
   have hc:∀v,(s0.set sd v).length=s0.length:=λv=>List.length_set
   have i1:(sd:Int)<(s0.length:Int):=by omega
   have d2':decide (s0.length<=sd)=false:=by simp;omega
   rw [hsd] at z4 d1 d2 hcut;generalize s0[sd]=z at *;rw [hsd];rw [tnZ] at hcut;clear a1 a2 hv hy;obtain ⟨hE,hl,hM⟩:=zd3 hb hc hsd;clear hc hsd;clear hb
   by_cases a3:o.frm<0
   ·have d3:decide (o.frm<0)=true:=by simpa using a3
    have HN:=zI (hcut.trans (inZ soZ));clear hcut a3;go_wp2_with fail
    go_quiet (fail)
    go_wp2_with fail
    go_ret2
    exact RefP.err HN.out (qa7 ha _)
   ·have d3:decide (o.frm<0)=false:=by simpa using a3
    by_cases a4:z<o.to
    ·have d4:decide (z<o.to)=true:=by simpa using a4
     have HN:=zI (hcut.trans (inZ soZ));clear hcut a3 a4;go_wp2_with fail
     go_quiet (fail)
     go_wp2_with fail
     go_ret2
     exact RefP.err HN.out (qa7 ha _)
    ·have d4:decide (z<o.to)=false:=by simpa using a4
     by_cases a5:o.to<=o.frm
     ·have d5:decide (o.to<=o.frm)=true:=by simpa using a5
      have HN:=zI (hcut.trans (inZ soZ));clear hcut a3 a4 a5;go_wp2_with fail
      go_quiet (fail)
      go_wp2_with fail
      go_ret2
      exact RefP.err HN.out (qa7 ha _)
     ·have d5:decide (o.to<=o.frm)=false:=by simpa using a5
      have HN:=zI (hcut.trans (ipZ soZ));have ww:iQ.wrap (o.to-o.frm)=o.to-o.frm:=Zc1 _ oZ;clear hcut;go_wp2_with fail
      go_quiet (fail)
      rename_i nq;clear d1 d2 d2' d3 d4 d5;go_wp2_with fail;refine (hE.out nq (o.to-o.frm)).mono ?_;rintro e w3 ⟨g,rfl,hn,hF,hA⟩;have hj:=(qa7 ha nq).trans (hA.mono ha.size);have hs:=hl.out (o.to-o.frm);generalize s0.set sd (o.to-o.frm)=s9 at *;obtain ⟨hC,hB⟩:=zd2 hn hs;clear hn hs;go_wp2_with fail
      go_ret2
      exact RefP.ok HN.out rfl hC.out (lrZ _) (by have:=hB.out;omega) hj
theorem qbV (o:OpD) (S P X:Option Addr) (c d f:Nat) (p x:List (List Int)) (w:Zp1) (hk:o.kind=8) (hpl:p.length=2) (ho:o.s.length<=1099511627776) (hsc:o.s.length<=c) (hsm:c<=9223372036854775807) (hw:o.wide) (hS:Ints iQ w S o.s) (hP:Shps w P p) (hX:Shps w X x) (hxl:x.length<=1048576) (h1:1<=x.length) (hp:∀s∈p,Sh.right s=true) (hx:∀s∈x,Sh.right s=true):
  Calls Tryz.prog 66 #[.agg #[nQ iQ o.kind,nQ iQ o.k,nQ iQ o.width,nQ iQ o.step,nQ iQ o.side,nQ iQ o.frm,nQ iQ o.to,sQ S o.s.length c],sQ P p.length d,sQ X x.length f] w (RefP (Od.byKind o p x) w):=by
 have hq:Od.byKind o p x=Od.dense (p.getD 0 []) (p.getD 1 []) (x.getD 0 []):=by unfold Od.byKind;simp [hk]
 obtain ⟨bx,ox,S0,c0,rfl,-⟩:=hX 0 h1;obtain ⟨bp,op,T0,d0,rfl,-⟩:=hP 0 oZ;have hg:Below w.heap.size w (w.alloc (.cells #[nQ iQ o.kind,nQ iQ o.k,nQ iQ o.width,nQ iQ o.step,nQ iQ o.side,nQ iQ o.frm,nQ iQ o.to,sQ S o.s.length c] 65)):=(Ze1 _ _).alloc (lrZ _) _;have hu:=Blk.new w 65 #[nQ iQ o.kind,nQ iQ o.k,nQ iQ o.width,nQ iQ o.step,nQ iQ o.side,nQ iQ o.frm,nQ iQ o.to,sQ S o.s.length c];obtain ⟨z0,z1,z2,z3,z4,z5,z6,z7⟩:=qak hu;have ht:=hX.below hg (lrZ _);have hz:=hP.below hg (lrZ _);have hG:=hS.below hg (lrZ _);have hn:=hx x[0] (gmZ h1);have hr:x.getD 0 []=x[0]:=qa9 h1
 first|rw [hr] at hq|skip
 have hv:=hp p[0] (gmZ oZ);have hy:p.getD 0 []=p[0]:=qa9 oZ
 first|rw [hy] at hq|skip
 have l7:decide (o.kind<=7)=false:=by simp;omega
 have e8:(o.kind==8)=true:=by simp;omega
 clear hk;obtain ⟨h5,HX,HP,HS,Hp,Hx⟩:=zd6 hu hX hP hS hp hx;clear hu hX hP hS hp hx;go_enter Tryz.func66,Tryz.ntmps66;go_upto_region 1 with fail;generalize (w.alloc (.cells #[nQ iQ o.kind,nQ iQ o.k,nQ iQ o.width,nQ iQ o.step,nQ iQ o.side,nQ iQ o.frm,nQ iQ o.to,sQ S o.s.length c] 65))=w1 at *;obtain ⟨S0',c0',y0,hB,Ha,hV⟩:=ht.each h1;rw [Zx] at y0;obtain ⟨T0',d0',v0,hI,hL,hM⟩:=hz.each (show 0<p.length by omega);rw [Zx] at v0;clear T0;clear S0;generalize hs0:x[0]=s0 at *;generalize hsp:p[0]=t0 at *;obtain ⟨q3,q4⟩:=qa4 hv;have hF:=(Sh.right_mul hn).2.2.2.1;obtain ⟨s3,s4⟩:=qa4 hn;obtain ⟨h7,hN,hT,hO,hD,Hq,h0,hW,hY⟩:=zd9 ht hz hG hB hn hq hr hs0 hF;obtain ⟨Hw,hA,h9,hU,h4⟩:=zd5 hw hI hv hy hsp;clear ht hz hG hB hn hq hr hs0 hF hw hI hv hy hsp;go_wp2_with fail;refine (qam S0' c0' s0 w1 hD.out hO.out).mono ?_;rintro e w2 ⟨rfl,rfl⟩;obtain ⟨T1,d1,v1,hf,h8,hZ⟩:=hN.out.each (show 1<p.length by omega);have hb:=Hp.out p[1] (gmZ oZ);have he:p.getD 1 []=p[1]:=qa9 oZ;have hd:=Hq.out;rw [he] at hd;generalize hsp1:p[1]=t1 at *;obtain ⟨q5,q6⟩:=qa4 hb;obtain ⟨bt,ot,rfl,-,-⟩:=hA.out 0 q3;unfold Od.dense at hd
 by_cases hm:t0.length=2
 rotate_left
 ·have f1:((t0.length:Int) != 2)=true:=by rw [bne_iff_ne];omega
  have f2:(t0.length != 2)=true:=by rw [bne_iff_ne];omega
  have HN:=zI (hd.trans (inZ (by intro h;exact hm h.1)));obtain ⟨hC,hi,hE,hl⟩:=zd4 hf hb he hsp1;clear hf hb he hsp1;clear hd hm;go_wp2_with fail
  go_quiet (fail)
  go_wp2_with fail
  go_ret2
  exact RefP.err HN.out (qa7 hg _)
 ·obtain ⟨a,b,rfl⟩:=list_two hm
  have g1:=hA.out.at_ (show 1<[a,b].length by simp);have g1:w1.cell? ⟨bt,ot+1,none⟩=some (nQ iQ b):=g1
  have hh:Ints iQ w1 (some ⟨bt,ot,none⟩) [a]:=Ints.of_row λj hj=>by
   have hR:j=0:=by simp at hj;exact hj
   subst hR;exact hA.out.at_ (show 0<[a,b].length by simp)
  have h6:(1:Int)<=(d0':Int):=by simp at hL;omega
  have ha:=λn:Nat=>qaY T1 (some ⟨bt,ot,none⟩) d1 d0' t1 [a] (w1.drewN n) oZ sZ (hf.drewN n) (hh.drewN n)
  have f1:((2:Int) != 2)=false:=rfl;have v0':w1.cell? ⟨bp,op,none⟩=some (sQ (some ⟨bt,ot,none⟩) 2 d0'):=v0;have hQ:(1:Int)<(p.length:Int):=by omega
  clear v0 hL q3 q4
  by_cases hs:t1=[a]
  ·rw [decide_eq_true hs] at ha
   have hK:Od.byKind o p x=if Safe.prod s0=b then ([a],0) else ([],20):=by
    rw [hd]
    by_cases e:Safe.prod s0=b
    ·rw [ipZ e,ipZ ⟨rfl,by rw [hs];rfl,by rw [hs];rfl,hD.out,e⟩];rfl
    ·rw [inZ e,inZ];rintro ⟨_,_,_,_,h⟩;exact e h
   obtain ⟨hC,hi,hE,hl,hc,hJ,hH⟩:=zd7 hf hb he hsp1 ha hh hK;clear hf hb he hsp1 ha hh hK;clear hd hm hs
   by_cases e:Safe.prod s0=b
   ·have f3:(b != Safe.prod s0)=false:=by simp [e]
    have HN:=zI (hH.out.trans (ipZ e));clear e;go_wp2_with fail
    go_quiet ((go_at_call 13;exact qbw (hc.out _)))
    go_wp2_with fail
    go_ret2
    exact RefP.ok HN.out rfl (hJ.out.drewN _) soZ hM (qa7 hg _)
   ·have f3:(b != Safe.prod s0)=true:=by rw [bne_iff_ne];exact λh=>e h.symm
    have HN:=zI (hH.out.trans (inZ e));clear e;go_wp2_with fail
    go_quiet ((go_at_call 13;exact qbw (hc.out _)))
    go_wp2_with fail
    go_ret2
    exact RefP.err HN.out (qa7 hg _)
  ·rw [decide_eq_false hs] at ha
   have HN:=zI (hd.trans (inZ (by
    rintro ⟨_,h2,h3,_⟩;obtain ⟨z,rfl⟩:=qge h2;exact hs (by simp at h3;rw [h3]))))
   obtain ⟨hC,hi,hE,hl,hc,hJ⟩:=zd6 hf hb he hsp1 ha hh;clear hf hb he hsp1 ha hh;clear hd hm hs;go_wp2_with fail
   go_quiet ((go_at_call 13;exact qbw (hc.out _)))
   go_wp2_with fail
   go_ret2
   exact RefP.err HN.out (qa7 hg _)
theorem qca (o:OpD) (S P X:Option Addr) (c d f:Nat) (p x:List (List Int)) (w:Zp1) (hk:o.kind=10) (hpl:p.length=1) (ho:o.s.length<=1099511627776) (hsc:o.s.length<=c) (hsm:c<=9223372036854775807) (hw:o.wide) (hS:Ints iQ w S o.s) (hP:Shps w P p) (hX:Shps w X x) (hxl:x.length<=1048576) (h1:1<=x.length) (hp:∀s∈p,Sh.right s=true) (hx:∀s∈x,Sh.right s=true):
  Calls Tryz.prog 66 #[.agg #[nQ iQ o.kind,nQ iQ o.k,nQ iQ o.width,nQ iQ o.step,nQ iQ o.side,nQ iQ o.frm,nQ iQ o.to,sQ S o.s.length c],sQ P p.length d,sQ X x.length f] w (RefP (Od.byKind o p x) w):=by
 have hq:Od.byKind o p x=Od.conv (p.getD 0 []) (x.getD 0 []) o.step:=by unfold Od.byKind;simp [hk]
 obtain ⟨bx,ox,S0,c0,rfl,-⟩:=hX 0 h1;obtain ⟨bp,op,T0,d0,rfl,-⟩:=hP 0 oZ;have hd:Below w.heap.size w (w.alloc (.cells #[nQ iQ o.kind,nQ iQ o.k,nQ iQ o.width,nQ iQ o.step,nQ iQ o.side,nQ iQ o.frm,nQ iQ o.to,sQ S o.s.length c] 65)):=(Ze1 _ _).alloc (lrZ _) _;have hH:=Blk.new w 65 #[nQ iQ o.kind,nQ iQ o.k,nQ iQ o.width,nQ iQ o.step,nQ iQ o.side,nQ iQ o.frm,nQ iQ o.to,sQ S o.s.length c];obtain ⟨z0,z1,z2,z3,z4,z5,z6,z7⟩:=qak hH;have hQ:=hX.below hd (lrZ _);have hL:=hP.below hd (lrZ _);have Hb:=hS.below hd (lrZ _);have hF:=hx x[0] (gmZ h1);have hN:x.getD 0 []=x[0]:=qa9 h1
 first|rw [hN] at hq|skip
 have hJ:=hp p[0] (gmZ oZ);have hK:p.getD 0 []=p[0]:=qa9 oZ
 first|rw [hK] at hq|skip
 have l7:decide (o.kind<=7)=false:=by simp;omega
 have e8:(o.kind==8)=false:=by simp;omega
 have e9:(o.kind==9)=false:=by simp;omega
 have e10:(o.kind==10)=true:=by simp;omega
 clear hk;obtain ⟨HG,HX,HP,HS,Hp,Hx⟩:=zd6 hH hX hP hS hp hx;clear hH hX hP hS hp hx;go_enter Tryz.func66,Tryz.ntmps66;go_upto_region 1 with fail;generalize (w.alloc (.cells #[nQ iQ o.kind,nQ iQ o.k,nQ iQ o.width,nQ iQ o.step,nQ iQ o.side,nQ iQ o.frm,nQ iQ o.to,sQ S o.s.length c] 65))=w1 at *;obtain ⟨S0',c0',y0,h4,HH,HC⟩:=hQ.each h1;rw [Zx] at y0;obtain ⟨T0',d0',v0,Hd,HI,HA⟩:=hL.each (show 0<p.length by omega);rw [Zx] at v0;clear T0;clear S0;generalize hs0:x[0]=s0 at *;generalize hsp:p[0]=t0 at *;obtain ⟨q3,q4⟩:=qa4 hJ;have hZ:=(Sh.right_mul hF).2.2.2.1;obtain ⟨s3,s4⟩:=qa4 hF;obtain ⟨HO,HJ,HK,hE,hY,Hq,HM,HD,HL⟩:=zd9 hQ hL Hb h4 hF hq hN hs0 hZ;obtain ⟨Hw,hG,Hm,HB,HE⟩:=zd5 hw Hd hJ hK hsp;clear hQ hL Hb h4 hF hq hN hs0 hZ hw Hd hJ hK hsp;go_wp2_with fail;refine (qam S0' c0' s0 w1 hY.out hE.out).mono ?_;rintro e w2 ⟨rfl,rfl⟩;have hc:=Hq.out;unfold Od.conv at hc;rw [Hm.out,hY.out,Bool.true_and,Bool.true_and] at hc;obtain ⟨i0,hi,Hz,Ht,Hg⟩:=info_parts qb0;obtain ⟨bs,os,rfl,-,-⟩:=hE.out 0 s3;obtain ⟨bt,ot,rfl,-,-⟩:=hG.out 0 q3;have g0:=hE.out.at_ s3;have g2:=hG.out.at_ q3;rw [Zx] at g0 g2;have hB:s0.getD 0 0=s0[0]:=qa2 s3;have hC:t0.getD 0 0=t0[0]:=qa2 q3
 by_cases a1:t0.length=s0.length+1
 rotate_left
 ·have f1:((t0.length:Int) != (s0.length:Int)+1)=true:=by rw [bne_iff_ne];omega
  have HN:=zI (hc.trans (inZ soZ));clear hc a1 hB hC g0 g2;go_wp2_with fail
  go_quiet (fail)
  go_wp2_with fail
  go_ret2
  exact RefP.err HN.out (qa7 hd _)
 ·have f1:((t0.length:Int) != (s0.length:Int)+1)=false:=by simp;omega
  by_cases a2:s0.length<2
  ·have f2:decide ((s0.length:Int)<2)=true:=by simp;omega
   have HN:=zI (hc.trans (inZ soZ));clear hc a1 hB hC g0 g2;go_wp2_with fail
   go_quiet (fail)
   go_wp2_with fail
   go_ret2
   exact RefP.err HN.out (qa7 hd _)
  ·have f2:decide ((s0.length:Int)<2)=false:=by simp;omega
   by_cases a3:3<s0.length
   ·have f3:decide ((3:Int)<(s0.length:Int))=true:=by simp;omega
    have HN:=zI (hc.trans (inZ soZ));clear hc a1 hB hC g0 g2;go_wp2_with fail
    go_quiet (fail)
    go_wp2_with fail
    go_ret2
    exact RefP.err HN.out (qa7 hd _)
   ·have f3:decide ((3:Int)<(s0.length:Int))=false:=by simp;omega
    have hV:1<t0.length:=by omega
    have g1:=hG.out.at_ hV;have j1:(1:Int)<(t0.length:Int):=by omega
    rw [hB,qa2 hV] at hc
    by_cases a4:t0[1]=s0[0]
    rotate_left
    ·have f4:(t0[1] != s0[0])=true:=by simp [a4]
     have HN:=zI (hc.trans (inZ (by simp;intro _ _ _;exact a4)));generalize t0[1]=tb at *;generalize s0[0]=sa at *;clear hc a1 hB hC a4 g2;go_wp2_with fail
     go_quiet (fail)
     go_wp2_with fail
     go_ret2
     exact RefP.err HN.out (qa7 hd _)
    ·have f4:(t0[1] != s0[0])=false:=by simp [a4]
     rw [ipZ soZ] at hc;have Hi:=zI a1;generalize t0[1]=tb at *;generalize s0[0]=sa at *;generalize t0[0]=ta at *;clear a4 a1 hB;obtain ⟨h0,Hy⟩:=zd2 hc hC;clear hc hC;have z3':w1.cell? ⟨w.heap.size,3,none⟩=some (nQ iQ o.step):=z3;go_wp2_with fail
     go_quiet (fail)
     rename_i nq;clear f1 f2 f3 f4 g0 g1 z0 z1 z2 z3 z4 z5 z6 z7;go_wp2_with fail;clear g2 y0 v0;have h5:Below w1.heap.size w1 (w1.drewN nq):=qa7 (Ze1 _ _) nq;have hT:=Blk.new (w1.drewN nq) 3 #[nQ iQ ta];have hU:Below w1.heap.size w1 ((w1.drewN nq).alloc (.cells #[nQ iQ ta] 3)):=h5.alloc (lrZ _) _
     have hs:((w1.drewN nq).alloc (.cells #[nQ iQ ta] 3)).ownsRow w1.heap.size 3 1 (sQ (some ⟨w1.heap.size,0,none⟩) 1 1) 1 ((Od.outs t0 s0 o.step 0).map (Za1 iQ)):=qfa (by
      have:Od.outs t0 s0 o.step 0=[ta]:=by simp only [Od.outs,Hy.out];rfl
      rw [this];exact hT) (lrZ _) (by simp [Od.outs]) (by unfold maxLen;omega)
     obtain ⟨Hk,hl⟩:=zd2 hT hs;clear hT hs
     go_loopw [12,13] (λv i wx=>∃k:Nat,k<=s0.length-1/\i=nQ iQ ((k:Int)+1)/\wx.ownsRow w1.heap.size 3 1 v (k+1) ((Od.outs t0 s0 o.step k).map (Za1 iQ))/\(∀j,j<k->(Od.wn t0 s0 o.step j).2=0)/\Below w1.heap.size w1 wx) (λ_ i _=>s0.length-(intOf i).toNat)
     case atStart=>exact ⟨0,Zt _,rfl,hl.out,λj hj=>by omega,hU⟩
     case round=>
      obtain ⟨k,hk,rfl,hown,he,hn⟩:=hrel;clear hl Hk hU h5;obtain ⟨Ao,co,rfl⟩:=qa8 hown
      by_cases h9:k+1<s0.length
      ·have h6:k+2<t0.length:=by have:=Hi.out;omega
       have m1:=qa1 hn (hE.out.at_ h9);have m2:=qa1 hn (hG.out.at_ h6);have m3:=qa1 hn z3';have hD:Od.wn t0 s0 o.step k=Od.window s0[k+1] t0[k+2] o.step:=by unfold Od.wn;rw [qa2 h9,qa2 h6]
       have ha:=λn:Nat=>qc4 s0[k+1] t0[k+2] o.step (wr.drewN n)
       rw [←hD] at ha;have hI:=@Od.window_ok s0[k+1] t0[k+2] o.step;have hy:=@Od.window_err s0[k+1] t0[k+2] o.step;rw [←hD] at hI hy;have i1:iQ.wrap ((k:Int)+1+1)=((k+2:Nat):Int):=by rw [Zc1 _ oZ];omega
       have i2:((k:Int)+1)<(s0.length:Int):=by omega
       have i3:((k+2:Nat):Int)<(t0.length:Int):=by omega
       have i4:(0:Int)<=(k:Int)+1:=by omega
       have i5:((k:Int)+1).toNat=k+1:=by omega
       have i6:(0:Int)<=((k+2:Nat):Int):=by omega
       have hf:Od.outs t0 s0 o.step (k+1)=Od.outs t0 s0 o.step k++[(Od.wn t0 s0 o.step k).1]:=by simp [Od.outs,List.range_succ]
       have hr:(Od.outs t0 s0 o.step k).length=k+1:=by simp [Od.outs]
       have h8:(Od.wn t0 s0 o.step k).2=0->∀j,j<k+1->(Od.wn t0 s0 o.step j).2=0:=λe j hj=>by
        by_cases h:j=k
        ·subst h;exact e
        ·exact he j oZ
       have Ha:(Od.wn t0 s0 o.step k).2≠0->Od.byKind o p x=([],11):=λe=>by
        rw [h0.out,inZ];rw [Zf];intro h;have:=h k (List.mem_range.2 oZ);exact e (by simpa using this)
       generalize s0[k+1]=sk at *;generalize t0[k+2]=tk at *;generalize Od.wn t0 s0 o.step k=wv at *;obtain ⟨HF,hg,Hn,hM,hv,h7,Hl,Hf,hO⟩:=zd9 hD ha hI hy hf hr h8 Ha he;have ht:=zI hown;clear hD ha hI hy hf hr h8 Ha he hown;go_wp2_with fail
       go_quiet ((go_at_call 108;exact qaA (hg.out _)))
       clear m1 m2 m3 i1 i3 i6
       by_cases hz:wv.2=0
       ·have hb:=Hn.out hz
        have e1:(wv.1==0)=false:=by simp;omega
        have Hu:=zI (Hl.out hz);have ho:=qa6 (qad (w':=wr.drewN nq) ht.out (λg _=>rfl)) (.cells #[nQ iQ wv.1] 3);have hh:=((qa7 hn nq).alloc hn.size (.cells #[nQ iQ wv.1] 3))
        have h2:∀b,(Zb1 Ao (k+1) co).ownBlock=some b->w1.heap.size<=b:=λb hb=>(ht.out.lt b hb).1
        clear hz hb;have hW:=zI h2;clear h2;go_wp2_with (at_builtin;refine wpList_append_own_at _ rfl _ _ 22 rfl w1.heap.size 3 i0 (nQ iQ 0) 1 8 Tryz.underlying22 hi Hz Ht Hg rfl dZ _ _ _ rfl ho ⟨wr.heap.size,0,none⟩ 1 1 [nQ iQ wv.1] rfl rfl ?c1 (by intro u hu;simp at hu;subst hu;rfl) (by unfold maxLen;omega) oZ ?c2 ?_)
        case c1=>exact qap (wr.drewN nq) _ _
        case c2=>exact hh.size
        intro v' w3 hm hgrow _ Hv;have Hs:Below w1.heap.size w1 w3:=hh.grown hgrow hh.size (λb hb=>hW.out b hb);have Hj:=zI (show w3.ownsRow w1.heap.size 3 1 v' (k+1+1) ((Od.outs t0 s0 o.step (k+1)).map (Za1 iQ)) by rw [hv.out];simpa using hm);clear hm hgrow Hv ho hh hW;go_wp2_with fail;go_roundw
        case rel=>exact ⟨k+1,by omega,by go_num,Hj.out,Hu.out,Hs⟩
        case measure=>simp [intOf];omega
       ·have hb:=hM.out hz
        have e1:(wv.1==0)=true:=by rw [hb];rfl
        have HN:=zI (Hf.out hz);clear hz hb;go_wp2_with fail
        go_ret2
        exact RefP.err HN.out (qa7 (hd.trans (hn.mono hd.size)) _)
      ·obtain rfl:k=s0.length-1:=by omega
       have i2:¬((s0.length-1:Nat):Int)+1<(s0.length:Int):=by omega
       have hr:(Od.outs t0 s0 o.step (s0.length-1)).length=s0.length-1+1:=by simp [Od.outs]
       have He:Od.byKind o p x=if Sh.right (Od.outs t0 s0 o.step (s0.length-1))=true then (Od.outs t0 s0 o.step (s0.length-1),0) else ([],20):=by
        rw [h0.out,ipZ];rw [Zf];intro j hj;simpa using he j (List.mem_range.1 hj)
       generalize Od.outs t0 s0 o.step (s0.length-1)=os9 at *;generalize s0.length-1=m at *;rw [←hr] at hown;obtain ⟨hR,Ho,Hh⟩:=qal (by rw [hr] at hown ⊢;exact hown);have ha:=qaF Ao co os9 wr oZ hR;rw [hr] at ha;obtain ⟨ht,hO,h7,Hc,Hr,hg⟩:=zd6 hown he hr He hR ha;clear hown he hr He hR ha;go_wp2_with fail;refine (hg.out).mono ?_;rintro e w9 ⟨rfl,rfl⟩
       by_cases hA:Sh.right os9=true
       ·have HN:=zI (Hc.out.trans (ipZ hA))
        rw [hA];clear hA;go_wp2_with fail
        go_ret2
        exact RefP.ok HN.out h7.out Hr.out Ho Hh (hd.trans (hn.mono hd.size))
       ·have HN:=zI (Hc.out.trans (inZ hA))
        have h3:Sh.right os9=false:=by simpa using hA
        rw [h3];clear hA h3;go_wp2_with fail
        go_ret2
        exact RefP.err HN.out (hd.trans (hn.mono hd.size))
theorem qeu (o:OpD) (S P X:Option Addr) (c d f:Nat) (p x:List (List Int)) (w:Zp1) (hr:Od.right o=true) (hcnt:Od.counts o p.length x.length=0) (ho:o.s.length<=1099511627776) (hsc:o.s.length<=c) (hsm:c<=9223372036854775807) (hw:o.wide) (hS:Ints iQ w S o.s) (hP:Shps w P p) (hX:Shps w X x) (hp:∀s∈p,Sh.right s=true) (hx:∀s∈x,Sh.right s=true):
  Calls Tryz.prog 66 #[.agg #[nQ iQ o.kind,nQ iQ o.k,nQ iQ o.width,nQ iQ o.step,nQ iQ o.side,nQ iQ o.frm,nQ iQ o.to,sQ S o.s.length c],sQ P p.length d,sQ X x.length f] w (RefP (Od.byKind o p x) w):=by
 have hk:=Od.right_kind hr;obtain ⟨-,c1,c2,c3⟩:=Od.counts_ok hcnt;have c4:=Od.least_pos hr;have c5:=Od.most_le hr;have hb:Od.params o=if o.kind=8 then 2 else if o.kind=9∨o.kind=10 then 1 else 0:=by unfold Od.params;rw [ipZ hr]
 have h1:1<=x.length:=by omega
 have ha:x.length<=1048576:=by omega
 by_cases k7:o.kind<=7
 ·exact qcN o S P X c d f p x w k7 ho hsc hsm hw hS hP hX ha h1 hp hx
 ·have hh:o.kind=8∨o.kind=9∨o.kind=10∨(o.kind=11∨o.kind=12)∨o.kind=13∨o.kind=14∨o.kind=15:=by omega
  rcases hh with k|k|k|k|k|k|k
  ·exact qbV o S P X c d f p x w k (by rw [hb,ipZ k] at c3;omega) ho hsc hsm hw hS hP hX ha h1 hp hx
  ·exact qbU o S P X c d f p x w k (by rw [hb,inZ oZ,ipZ oZ] at c3;omega) ho hsc hsm hw hS hP hX ha h1 hp hx
  ·exact qca o S P X c d f p x w k (by rw [hb,inZ oZ,ipZ oZ] at c3;omega) ho hsc hsm hw hS hP hX ha h1 hp hx
  ·exact qc9 o S P X c d f p x w k ho hsc hsm hw hS hP hX ha h1 hp hx
  ·exact qc7 o S P X c d f p x w k ho hsc hsm hw hS hP hX ha h1 hp hx
  ·exact qcq o S P X c d f p x w k ho hsc hsm hw hS hP hX ha h1 hp hx
  ·exact qc8 o S P X c d f p x w k ho hsc hsm hw hS hP hX ha h1 hp hx
theorem qbb {W:Zp1} {g:Nat} {t:TypeId} {v:NodeD} {S J Q:Option Addr} {c ic qc:Nat} (h:Blk W g t #[nQ iQ v.op.kind,nQ iQ v.op.k,nQ iQ v.op.width,nQ iQ v.op.step,nQ iQ v.op.side,nQ iQ v.op.frm,nQ iQ v.op.to,sQ S v.op.s.length c,sQ J v.ins.length ic,sQ Q v.p.length qc]):
  W.cell? ⟨g,0,none⟩=some (nQ iQ v.op.kind)/\W.cell? ⟨g,1,none⟩=some (nQ iQ v.op.k)/\W.cell? ⟨g,2,none⟩=some (nQ iQ v.op.width)/\W.cell? ⟨g,3,none⟩=some (nQ iQ v.op.step)/\W.cell? ⟨g,4,none⟩=some (nQ iQ v.op.side)/\W.cell? ⟨g,5,none⟩=some (nQ iQ v.op.frm)/\W.cell? ⟨g,6,none⟩=some (nQ iQ v.op.to)/\W.cell? ⟨g,7,none⟩=some (sQ S v.op.s.length c)/\W.cell? ⟨g,8,none⟩=some (sQ J v.ins.length ic)/\W.cell? ⟨g,9,none⟩=some (sQ Q v.p.length qc):=
 ⟨h.cell 0,h.cell 1,h.cell 2,h.cell 3,h.cell 4,h.cell 5,h.cell 6,h.cell 7,h.cell 8,h.cell 9⟩
def RowOf (w:Zp1) (vs:List Value) (ss:List (List Int)):Prop:=
 vs.length=ss.length/\∀j (hj:j<ss.length),∃S c,vs[j]? = some (sQ S ss[j].length c)/\Ints iQ w S ss[j]/\ss[j].length<=c/\c<=9223372036854775807
theorem RowOf.nil (w:Zp1):RowOf w [] []:=⟨rfl,λj hj=>absurd hj sZ⟩
theorem RowOf.push {w:Zp1} {vs:List Value} {ss:List (List Int)} {S:Option Addr} {s:List Int} {c:Nat} (h:RowOf w vs ss) (hI:Ints iQ w S s) (h1:s.length<=c) (h2:c<=9223372036854775807):RowOf w (vs++[sQ S s.length c]) (ss++[s]):=by
 refine ⟨by simp [h.1],λj hj=>?_⟩;simp at hj
 by_cases e:j<ss.length
 ·obtain ⟨S',c',e1,e2⟩:=h.2 j e
  refine ⟨S',c',?_,?_⟩
  ·rw [Zm (by rw [h.1];exact e),e1];simp [e]
  ·simpa [e] using e2
 ·obtain rfl:j=ss.length:=by omega
  refine ⟨S,c,?_,?_⟩
  ·rw [Zl (by have:=h.1;omega)];simp [h.1]
  ·simp;exact ⟨hI,h1,h2⟩
theorem RowOf.below {w w':Zp1} {vs:List Value} {ss:List (List Int)} {B:Nat} (h:RowOf w vs ss) (hb:Below B w w') (hB:w.heap.size<=B):RowOf w' vs ss:=
 ⟨h.1,λj hj=>by obtain ⟨S,c,e1,e2,e3⟩:=h.2 j hj;exact ⟨S,c,e1,e2.below hb hB,e3⟩⟩
theorem RowOf.shps {w w':Zp1} {vs:List Value} {ss:List (List Int)} {B n:Nat} {t:TypeId} {v:Value} (h:RowOf w vs ss) (hown:w'.ownsRow B t 1 v n vs) (hb:Below w.heap.size w w'):
  ∃A c,v=sQ A ss.length c/\n=ss.length/\Shps w' A ss/\ss.length<=c/\c<=9223372036854775807:=by
 have hn:n=ss.length:=by have:=hown.1;have:=h.1;omega
 subst hn;rcases hown.2 with ⟨rfl,h0⟩|⟨g,cap,cur,rfl,hB,hh,r1,r2,r3,r4⟩
 ·have:ss=[]:=List.eq_nil_of_length_eq_zero h0
  subst this;exact ⟨none,0,rfl,rfl,Shps.nil,by simp,by omega⟩
 ·refine ⟨_,cap,rfl,rfl,λj hj=>?_,r1,by unfold maxLen at r2;omega⟩
  obtain ⟨S,c,e1,e2,e3⟩:=h.2 j hj;refine ⟨g,0,S,c,rfl,lt_of_block hh,?_,e2.below hb (lrZ _),e3⟩;rw [Zw,hown.cellAt j oZ];exact e1
theorem qbW:(Tryz.prog.info? 22).map (λi=>(i.zero,i.size,i.bytes))=some (some (sQ none 0 0),1,24):=by kernel_rfl
theorem qdV (sh:List (List Int)) (l:List Int) {k:Nat} (hk:k<l.length):Nt.pick sh (l.take (k+1))=Nt.pick sh (l.take k)++[sh.getD l[k].toNat []]:=by
 unfold Nt.pick;rw [Zb hk,List.map_append]
 rfl
theorem qev (v:NodeD) (S J Q:Option Addr) (c ic qc g gc:Nat) (sh:List (List Int)) (w:Zp1) (hok:v.ok) (hr:Od.right v.op=true) (hsc:v.op.s.length<=c) (hsm:c<=9223372036854775807) (hS:Ints iQ w S v.op.s) (hJ:Ints iQ w J v.ins) (hQ:Shps w Q v.p) (hX:Shps w (some ⟨g,0,none⟩) sh)
  (hin:∀i∈v.ins,0<=i/\i.toNat<sh.length/\Sh.right (sh.getD i.toNat [])=true):
  Calls Tryz.prog 33 #[.agg #[nQ iQ v.op.kind,nQ iQ v.op.k,nQ iQ v.op.width,nQ iQ v.op.step,nQ iQ v.op.side,nQ iQ v.op.frm,nQ iQ v.op.to,sQ S v.op.s.length c,sQ J v.ins.length ic,sQ Q v.p.length qc],sQ (some ⟨g,0,none⟩) sh.length gc] w (RefP (Od.shape v.op v.p (Nt.pick sh v.ins)) w):=by
 obtain ⟨i1,hj,HG,HZ,HY⟩:=info_parts qbW;have hv:Below w.heap.size w (w.alloc (.cells #[nQ iQ v.op.kind,nQ iQ v.op.k,nQ iQ v.op.width,nQ iQ v.op.step,nQ iQ v.op.side,nQ iQ v.op.frm,nQ iQ v.op.to,sQ S v.op.s.length c,sQ J v.ins.length ic,sQ Q v.p.length qc] 67)):=(Ze1 _ _).alloc (lrZ _) _;have hN:=Blk.new w 67 #[nQ iQ v.op.kind,nQ iQ v.op.k,nQ iQ v.op.width,nQ iQ v.op.step,nQ iQ v.op.side,nQ iQ v.op.frm,nQ iQ v.op.to,sQ S v.op.s.length c,sQ J v.ins.length ic,sQ Q v.p.length qc];obtain ⟨y0,y1,y2,y3,y4,y5,y6,y7,y8,y9⟩:=qbb hN;have Hx:=hS.below hv (lrZ _);have Hu:=hJ.below hv (lrZ _);have Ha:=hQ.below hv (lrZ _);have Hq:=hX.below hv (lrZ _);have HK:=Od.right_kind hr;have H5:=hok.2.2.1;have gb:=hok.2.2.2.1;have hV:(Nt.pick sh v.ins).length=v.ins.length:=by simp [Nt.pick]
 have Hm:=qdO hr;have h9:=qdQ hr;have hh:Od.counts v.op v.p.length (Nt.pick sh v.ins).length=if ((v.ins.length:Int)<Od.least v.op∨Od.most v.op<(v.ins.length:Int)∨(v.p.length:Int)≠Od.params v.op) then 20 else 0:=by unfold Od.counts;rw [ipZ hr,hV]
 have hB:Od.counts v.op v.p.length (Nt.pick sh v.ins).length=20->Od.shape v.op v.p (Nt.pick sh v.ins)=([],20):=λh=>by unfold Od.shape;rw [ipZ (by rw [h];omega),h]
 obtain ⟨hU,Hr,HS,HJ,HQ,HX,Hp,Hs,Hl⟩:=zd9 hok hr hS hJ hQ hX hin Hx Hu;obtain ⟨Ht,Hy,Hd,H4,HB,Hi,hD,hy⟩:=zd8 Ha Hq hN hV Hm h9 hh hB;clear hok hr hS hJ hQ hX hin Hx Hu Ha Hq hN hV Hm h9 hh hB;go_enter Tryz.func33,Tryz.ntmps33;go_upto_region 1 with fail;generalize w.alloc (.cells #[nQ iQ v.op.kind,nQ iQ v.op.k,nQ iQ v.op.width,nQ iQ v.op.step,nQ iQ v.op.side,nQ iQ v.op.frm,nQ iQ v.op.to,sQ S v.op.s.length c,sQ J v.ins.length ic,sQ Q v.p.length qc] 67)=w1 at *;go_wp2_with fail;refine (qgd v.op.kind _ HK).mono ?_;rintro e w2 ⟨rfl,rfl⟩;rw [HB.out];have hd:=λn:Nat=>qdR v.op.kind (w1.drewN n)
 rw [Hi.out] at hd;have hh:=hD.out;have HC:=Od.most_le Hr.out;have hP:=Od.least_pos Hr.out;generalize hL:Od.least v.op=L at *;generalize hM:Od.most v.op=M at *;generalize hPa:Od.params v.op=PA at *;obtain ⟨ha,HL,HM,H6⟩:=zd4 hd hL hM hPa;clear hd hL hM hPa;have hG:=zI hh;clear hh hD HB Hi
 by_cases a1:(v.p.length:Int)=PA
 rotate_left
 ·have d1:((v.p.length:Int) != PA)=true:=by rw [bne_iff_ne];exact a1
  have HN:=zI (hy.out (by rw [hG.out,ipZ oZ]));clear a1;go_wp2_with fail
  go_quiet ((go_at_call 65;exact qaA (ha.out _)))
  go_wp2_with fail
  go_ret2
  exact RefP.err HN.out (qa7 hv _)
 ·have d1:((v.p.length:Int) != PA)=false:=by simp [a1]
  by_cases a2:(v.ins.length:Int)<L
  ·have d2:decide ((v.ins.length:Int)<L)=true:=by simpa using a2
   have HN:=zI (hy.out (by rw [hG.out,ipZ oZ]));have h7:=zI a1;clear a1;go_wp2_with fail
   go_quiet ((go_at_call 65;exact qaA (ha.out _)))
   go_wp2_with fail
   go_ret2
   exact RefP.err HN.out (qa7 hv _)
  ·have d2:decide ((v.ins.length:Int)<L)=false:=by simpa using a2
   by_cases a3:M<(v.ins.length:Int)
   ·have d3:decide (M<(v.ins.length:Int))=true:=by simpa using a3
    have HN:=zI (hy.out (by rw [hG.out,ipZ oZ]));have h7:=zI a1;clear a1;go_wp2_with fail
    go_quiet ((go_at_call 65;exact qaA (ha.out _)))
    go_wp2_with fail
    go_ret2
    exact RefP.err HN.out (qa7 hv _)
   ·have d3:decide (M<(v.ins.length:Int))=false:=by simpa using a3
    have Hj:Od.counts v.op v.p.length (Nt.pick sh v.ins).length=0:=by rw [hG.out,inZ oZ]
    have gh:v.ins.length<=8:=by omega
    have h7:=zI a1;clear a1 a2 a3;have hW:=zI Hj;clear Hj;go_wp2_with fail
    go_quiet ((go_at_call 65;exact qaA (ha.out _)))
    rename_i nq;clear d1 d2 d3;have hH:=qa7 hv nq;have Hk:=Hs.out.drewN nq;have h6:=Hl.out.drewN nq;have h4:=Ht.out.drewN nq;have h8:=Hy.out.drewN nq;obtain ⟨Hz,h3,h0,Hc⟩:=zd4 Hk h6 h4 h8;clear Hk h6 h4 h8;clear Hs Hl Ht Hy ha;go_wp2_with fail
    go_loop [8] (λi=>∃k:Nat,k<=v.p.length/\i=nQ iQ (k:Int)/\(v.p.take k).all Sh.right=true) (λi=>v.p.length-(intOf i).toNat)
    case atStart=>exact ⟨0,Zt _,rfl,rfl⟩
    case round=>
     obtain ⟨k,hk,rfl,he⟩:=hrel
     by_cases hp:k<v.p.length
     ·obtain ⟨b,off,Sk,ck,rfl,-,hc,Hh,H7,gg⟩:=h0.out k hp
      have HH:=hU.out.2.2.2.2.1 _ (gmZ hp);have hq:Sh.right v.p[k]=true->(v.p.take (k+1)).all Sh.right=true:=λh=>by rw [Zb hp,List.all_append,he];simp [h]
      have hE:Sh.right v.p[k]=false->Od.shape v.op v.p (Nt.pick sh v.ins)=([],20):=λh=>by
       unfold Od.shape;rw [inZ (by rw [hW.out];simp),inZ];intro h2;rw [Zz] at h2;have:=List.all_eq_true.1 h2.1 _ (gmZ hp);rw [h] at this;cases this
      generalize v.p[k]=s at *;obtain ⟨HW,hY,hC,hI⟩:=zd4 Hh he hq hE;clear Hh he hq hE;go_wp2_with fail;refine (qaF Sk ck s _ oZ HW.out).mono ?_;rintro e w3 ⟨rfl,rfl⟩
      by_cases hA:Sh.right s=true
      ·have HA:=zI (hC.out hA)
       rw [hA];clear hA;go_wp2_with fail
       go_round
       case rel=>exact ⟨k+1,by omega,by go_num,HA.out⟩
       case measure=>simp [intOf];omega
      ·have hx:Sh.right s=false:=by simpa using hA
       have HN:=zI (hI.out hx);rw [hx];clear hA hx;go_wp2_with fail
       go_ret2
       exact RefP.err HN.out hH
     ·obtain rfl:k=v.p.length:=by omega
      rw [Zg] at he;have Hn:∀s∈v.p,Sh.right s=true:=List.all_eq_true.1 he
      have hR:∀s∈Nt.pick sh v.ins,Sh.right s=true:=λs hs=>by
       obtain ⟨i,hi,rfl⟩:=List.mem_map.1 hs;exact (Hp.out i hi).2.2
      have He:Od.shape v.op v.p (Nt.pick sh v.ins)=Od.byKind v.op v.p (Nt.pick sh v.ins):=Od.shape_go hW.out he (List.all_eq_true.2 hR);obtain ⟨hY,HR,HD,HU⟩:=zd4 he Hn hR He;clear he Hn hR He;go_wp2_with fail;clear y0 y1 y2 y3 y4 y5 y6 y7;obtain ⟨w2,hw2⟩:∃w2,w1.drewN nq=w2:=⟨_,rfl⟩
      have Ho:Blk w2 w.heap.size 67 #[nQ iQ v.op.kind,nQ iQ v.op.k,nQ iQ v.op.width,nQ iQ v.op.step,nQ iQ v.op.side,nQ iQ v.op.frm,nQ iQ v.op.to,sQ S v.op.s.length c,sQ J v.ins.length ic,sQ Q v.p.length qc]:=by rw [←hw2];exact Hd.out.drewN nq
      rw [hw2] at hH Hz h3 h0 Hc ⊢;clear hw2 y8 y9 Hd;have Hb:=zI Ho;clear Ho
      go_loopw [9,10] (λo i wx=>∃(k:Nat) (vs:List Value),k<=v.ins.length/\i=nQ iQ (k:Int)/\wx.ownsRow w2.heap.size 22 1 o k vs/\RowOf w2 vs (Nt.pick sh (v.ins.take k))/\Below w2.heap.size w2 wx) (λ_ i _=>v.ins.length-(intOf i).toNat)
      case atStart=>exact ⟨0,[],Zt _,rfl,World.ownsRow_nil _ _ _ _,RowOf.nil _,Ze1 _ _⟩
      case round=>
       obtain ⟨k,vs,hk,rfl,hown,hf,hm⟩:=hrel;have hg:=Hb.out.below hm Hb.out.lt;have y8:wr.cell? ⟨w.heap.size,8,none⟩=some (sQ J v.ins.length ic):=by rw [hg.cell];rfl
       by_cases hp:k<v.ins.length
       ·obtain ⟨Ao,co,rfl⟩:=qa8 hown
        obtain ⟨b1,off1,rfl,-,hc⟩:=h3.out.below hm (lrZ _) k hp;rw [qa2 hp] at hc;obtain ⟨r1,r2,r3⟩:=Hp.out _ (gmZ hp);have hz:=qdV sh v.ins hp;obtain ⟨u,hu⟩:∃u:Nat,v.ins[k]=(u:Int):=⟨v.ins[k].toNat,by omega⟩
        rw [hu] at hc hz r2;rw [tnZ] at hz r2;rw [qa9 r2] at hz;obtain ⟨Su,cu,yu,h1,u1,u2⟩:=Hc.out.each r2;rw [Zw] at yu;have yu':=qa1 hm yu;have hl:=hf.push h1 u1 u2;rw [←hz] at hl;generalize sh[u]=s at *;have j0:(0:Int)<=(u:Int):=by omega
        have j1:(u:Int)<(sh.length:Int):=by omega
        have ho:=qa6 hown (.cells #[sQ Su s.length cu] 22);have hn:=hm.alloc hm.size (.cells #[sQ Su s.length cu] 22);have Hg:∀b,(Zb1 Ao k co).ownBlock=some b->w2.heap.size<=b:=λb hb=>(hown.lt b hb).1
        obtain ⟨hK,hO,hF,HF,H9,ge⟩:=zd6 hg hf hl Hg h1 hz;clear hg hf hl Hg h1 hz;clear hown r1 r3 hu yu;go_wp2_with (at_builtin;refine wpList_append_own_at _ rfl _ _ 60 rfl w2.heap.size 22 i1 (sQ none 0 0) 1 24 Tryz.underlying60 hj HG HZ HY rfl dZ _ _ _ rfl ho ⟨wr.heap.size,0,none⟩ 1 1 [sQ Su s.length cu] rfl rfl ?c1 (by intro u hu;simp at hu;subst hu;rfl) (by unfold maxLen;omega) oZ ?c2 ?_)
        first|(case c1=>exact qap wr _ _)|skip
        case c2=>first|exact hn.size|(have:=hm.size;omega)
        intro v' w3 ht hgrow _ H0;have HV:Below w2.heap.size w2 w3:=hn.grown hgrow hn.size (λb hb=>HF.out b hb);have HI:=zI ht;clear ht hgrow H0 ho hn;go_wp2_with fail;go_roundw
        case rel=>exact ⟨k+1,_,by omega,by go_num,HI.out,hF.out,HV⟩
        case measure=>simp [intOf];omega
       ·obtain rfl:k=v.ins.length:=by omega
        rw [Zg] at hf;obtain ⟨Ao,co,rfl,Hv,hZ,H8,H3⟩:=hf.shps hown hm;obtain ⟨y0,y1,y2,y3,y4,y5,y6,y7,-,y9⟩:=qbb hg;have hw:=hU.out.1;have gd:=hU.out.2.1;have hd:=qeu v.op S Q Ao c qc co v.p (Nt.pick sh v.ins) wr Hr.out hW.out oZ hsc hsm hw (Hz.out.below hm (lrZ _)) (h0.out.below hm (lrZ _)) hZ HR.out HD.out;have Hf:=hH.trans (hm.mono hH.size);rw [←HU.out] at hd;generalize Od.shape v.op v.p (Nt.pick sh v.ins)=r at *;obtain ⟨ha,hO,HP,gf,hK,Hw,H2⟩:=zd7 hd hf hown hZ hg hw Hv;clear hd hf hown hZ hg hw Hv;go_wp2_with fail;clear y0 y1 y2 y3 y4 y5 y6 y7 y8 y9;refine (ha.out).mono ?_;rintro e w9 ⟨S9,c9,rfl,h5,HT,HO,HE⟩;have H1:=zI h5;clear h5;have hT:=Hf.trans (HE.mono Hf.size);go_wp2_with fail
        go_ret2
        exact ⟨S9,c9,rfl,H1.out,HT,HO,hT⟩
def FRow (B:Nat) (w:Zp1) (g:Nat) (t:TypeId) (ss:List (List Int)):Prop:=
 B<=g/\∃hs:List Nat,hs.length=ss.length/\(∃vs:List Value,vs.length=ss.length/\Blk w g t vs.toArray/\∀j (hj:j<ss.length) (hj2:j<hs.length),vs[j]? = some (sQ (some ⟨hs[j],0,none⟩) ss[j].length ss[j].length))/\
  ∀j (hj:j<ss.length) (hj2:j<hs.length),B<=hs[j]/\hs[j]≠g/\Blk w hs[j] 3 (ss[j].map (Za1 iQ)).toArray
theorem FRow.shps {B:Nat} {w:Zp1} {g:Nat} {t:TypeId} {ss:List (List Int)} (h:FRow B w g t ss) (hm:∀s∈ss,s.length<=9223372036854775807):Shps w (some ⟨g,0,none⟩) ss:=λj hj=>by
 obtain ⟨_,hs,hl,⟨vs,ha,hk,hv⟩,hb⟩:=h;have h1:=hv j hj oZ;obtain ⟨_,_,hB⟩:=hb j hj oZ;refine ⟨g,0,_,_,rfl,hk.lt,by rw [Zw,hk.cell j];simpa using h1,Ints.of_row λi hi=>?_,lrZ _,hm _ (gmZ hj)⟩;rw [Zw,hB.cell i,qa2 hi];simp [hi]
theorem FRow.fr {B:Nat} {w w':Zp1} {g:Nat} {t:TypeId} {ss:List (List Int)} {S:Nat->Prop} (h:FRow B w g t ss) (hf:Fr S w w') (hS:∀b,B<=b->b<w.heap.size->¬S b):FRow B w' g t ss:=by
 obtain ⟨hg,hs,hl,⟨vs,hc,hk,hv⟩,hb⟩:=h;refine ⟨hg,hs,hl,⟨vs,hc,hf.blk hk (hS _ hg hk.lt),hv⟩,λj hj ha=>?_⟩;obtain ⟨h1,h2,h3⟩:=hb j hj ha;exact ⟨h1,h2,hf.blk h3 (hS _ h1 h3.lt)⟩
theorem FRow.base {B B':Nat} {w:Zp1} {g:Nat} {t:TypeId} {ss:List (List Int)} (h:FRow B w g t ss) (hB:B'<=B):FRow B' w g t ss:=by
 obtain ⟨hg,hs,hl,hv,hb⟩:=h;exact ⟨Zv hB hg,hs,hl,hv,λj hj ha=>⟨Zv hB (hb j hj ha).1,(hb j hj ha).2⟩⟩
def CopiesP (ss:List (List Int)) (w:Zp1) (e:Ending) (w':Zp1):Prop:=
 ∃g,e=.returned (sQ (some ⟨g,0,none⟩) ss.length ss.length)/\FRow w.heap.size w' g 23 ss/\Below w.heap.size w w'
def FMid (B:Nat) (w:Zp1) (g:Nat) (t:TypeId) (ss:List (List Int)) (k:Nat):Prop:=
 ∃hs:List Nat,hs.length=k/\(∃vs:List Value,vs.length=ss.length/\Blk w g t vs.toArray/\∀j (hj:j<ss.length) (hj2:j<hs.length),vs[j]? = some (sQ (some ⟨hs[j],0,none⟩) ss[j].length ss[j].length))/\
  ∀j (hj:j<ss.length) (hj2:j<hs.length),B<=hs[j]/\hs[j]≠g/\Blk w hs[j] 3 (ss[j].map (Za1 iQ)).toArray
theorem FMid.fr {B:Nat} {w w':Zp1} {g:Nat} {t:TypeId} {ss:List (List Int)} {k:Nat} (h:FMid B w g t ss k) (hb:Below w.heap.size w w'):FMid B w' g t ss k:=by
 obtain ⟨hs,hl,⟨vs,hd,hk,hv⟩,hc⟩:=h;refine ⟨hs,hl,⟨vs,hd,hk.below hb hk.lt,hv⟩,λj hj ha=>?_⟩;obtain ⟨h1,h2,h3⟩:=hc j hj ha;exact ⟨h1,h2,h3.below hb h3.lt⟩
theorem FMid.push {B:Nat} {w:Zp1} {g h:Nat} {t:TypeId} {ss:List (List Int)} {k:Nat} (hm:FMid B w g t ss k) (hk:k<ss.length) (hh:B<=h) (hne:h≠g) (hb:Blk w h 3 (ss[k].map (Za1 iQ)).toArray):FMid B (w.setCell ⟨g,k,none⟩ (sQ (some ⟨h,0,none⟩) ss[k].length ss[k].length)) g t ss (k+1):=by
 obtain ⟨hs,hl,⟨vs,he,hf,hv⟩,hd⟩:=hm;refine ⟨hs++[h],by simp [hl],⟨vs.set k (sQ (some ⟨h,0,none⟩) ss[k].length ss[k].length),by simp [he],by simpa using hf.set_ k (sQ (some ⟨h,0,none⟩) ss[k].length ss[k].length),λj hj ha=>?_⟩,λj hj ha=>?_⟩
 ·by_cases e:j=k
  ·subst e
   have:(hs++[h])[j]'ha=h:=by simp [←hl]
   rw [this,Zr oZ]
  ·have hc:j<hs.length:=by simp at ha;omega
   rw [Zs oZ,hv j hj hc];simp [hc]
 ·by_cases e:j=k
  ·subst e
   have:(hs++[h])[j]'ha=h:=by simp [←hl]
   rw [this];exact ⟨hh,hne,hb.far (p:=⟨g,j,none⟩) hne _⟩
  ·have hc:j<hs.length:=by simp at ha;omega
   have e2:(hs++[h])[j]'ha=hs[j]:=by simp [hc]
   rw [e2];obtain ⟨h1,h2,h3⟩:=hd j hj hc;exact ⟨h1,h2,h3.far (p:=⟨g,k,none⟩) h2 _⟩
theorem qfo (A:Option Addr) (c:Nat) (ss:List (List Int)) (w:Zp1) (hl:ss.length<=1048576) (hs:∀s∈ss,s.length<=1048576) (hS:Shps w A ss):
  Calls Tryz.prog 111 #[sQ A ss.length c] w (CopiesP ss w):=by
 obtain ⟨i0,hi,hF,hx,hC⟩:=info_parts qcm;obtain ⟨Hs,HS⟩:=zd2 hs hS;clear hs hS;go_enter Tryz.func111,Tryz.ntmps111;go_wp2_with (at_make;refine wpList_make_full _ rfl _ _ 57 rfl w.heap.size 23 i0 (sQ none 0 0) 1 Tryz.underlying57 hi hF hx _ _ _ _ ss.length rfl rfl (by first|rfl|simp|(go_simp;rfl)) (by first|rfl|simp|(go_simp;rfl)) ?b2 ?b3 ?b4 ?_)
 case b2=>rw [hC];omega
 case b3=>unfold maxLen;omega
 case b4=>exact lrZ _
 intro w1 hown hgrow;have hb:=qau hown;rw [qax] at hb;have hq:Below w.heap.size w w1:=(Ze1 _ w).grown hgrow (lrZ _) sZ;have hv:FMid w.heap.size w1 w.heap.size 23 ss 0:=⟨[],rfl,⟨Zc ss.length (sQ none 0 0),by simp,by rw [List.toArray_replicate];exact hb,λj hj hg=>absurd hg sZ⟩,λj hj hg=>absurd hg sZ⟩
 have hw:=zI hv;clear hv;clear hb hown hgrow;go_wp2_with fail
 go_loopw [11] (λi wx=>∃k:Nat,k<=ss.length/\i=nQ iQ (k:Int)/\FMid w.heap.size wx w.heap.size 23 ss k/\Below w.heap.size w wx) (λi _=>ss.length-(intOf i).toNat)
 case atStart=>exact ⟨0,Zt _,rfl,hw.out,hq⟩
 case round=>
  obtain ⟨k,hk,rfl,hm,hf⟩:=hrel;clear hw hq
  by_cases hp:k<ss.length
  ·obtain ⟨b,off,S,sc,rfl,-,hc,hI,-⟩:=HS.out k hp
   have l1:=Hs.out _ (gmZ hp);have hA:=qa1 hf hc;have ha:=λ(W:Zp1) h q1 q2 q3 q4=>@FMid.push w.heap.size W w.heap.size h 23 ss k q1 hp q2 q3 q4
   generalize ss[k]=s at *;have hr:=hI.below hf (lrZ _);obtain ⟨Hm,HI,hE,he⟩:=zd4 hm hI hr ha;clear hm hI hr ha;clear hc;go_wp2_with fail;refine (qah S sc s _ oZ hE.out).mono ?_;rintro e w2 ⟨h,rfl,hh,hB,hu⟩;have ho:=hf.trans (hu.mono hf.size);have hd:=Hm.out.fr hu;have hH:w.heap.size<wr.heap.size:=by obtain ⟨_,_,⟨vs,_,hk,_⟩,_⟩:=Hm.out;exact hk.lt
   have ht:=he.out w2 h hd oZ oZ hB;obtain ⟨y,hy⟩:∃y,w2.cell? ⟨w.heap.size,k,none⟩=some y:=by obtain ⟨_,_,⟨vs,hz,hk,_⟩,_⟩:=hd;exact ⟨vs[k],by rw [hk.cell k];simp⟩
   have fy:w2.frozen? ⟨w.heap.size,k,none⟩=false:=by obtain ⟨_,_,⟨vs,hz,hk,_⟩,_⟩:=hd;exact hk.frozen k
   have hn:=ho.setCell (p:=⟨w.heap.size,k,none⟩) sZ (sQ (some ⟨h,0,none⟩) s.length s.length);obtain ⟨hG,hD,HB⟩:=zd3 hd ht hB;clear hd ht hB;clear hA;go_wp2_with fail;go_roundw
   case rel=>exact ⟨k+1,by omega,by go_num,hD.out,hn⟩
   case measure=>simp [intOf];omega
  ·obtain rfl:k=ss.length:=by omega
   have Hm:=zI hm;clear hm;go_wp2_with fail;go_ret;refine ⟨w.heap.size,rfl,⟨lrZ _,?_⟩,hf⟩;obtain ⟨hs,h1,h2⟩:=Hm.out;exact ⟨hs,h1,h2⟩
def Later (w w':Zp1):Prop:=Below w.heap.size w w'
section
variable {w w1 w2:Zp1}
theorem Later.refl (w:Zp1):Later w w:=Ze1 _ _
theorem Later.alloc (h:Later w w1) (o:Obj):Later w (w1.alloc o):=Below.alloc h h.size o
theorem Later.drew (h:Later w w1):Later w w1.drew:=Below.drew h
theorem Later.drewN (h:Later w w1) (n:Nat):Later w (w1.drewN n):=qa7 h n
theorem Later.call (h:Later w w1) (k:Below w1.heap.size w1 w2):Later w w2:=Below.trans h (k.mono h.size)
theorem Later.trans (h:Later w w1) (k:Later w1 w2):Later w w2:=h.call k
theorem Later.set (h:Later w w1) {p:Addr} (hp:w.heap.size<=p.block) (u:Value):Later w (w1.setCell p u):=Below.setCell h hp u
theorem Later.cell {p:Addr} {v:Value} (h:Later w w1) (hc:w.cell? p=some v):w1.cell? p=some v:=(Below.cell h (Zj1 _ _ hc)).trans hc
theorem Later.blk {g:Nat} {t:TypeId} {cs:Array Value} (h:Later w w1) (hb:Blk w g t cs):Blk w1 g t cs:=hb.below h hb.lt
theorem Later.below {B:Nat} {w0:Zp1} (h:Later w w1) (hb:Below B w0 w) (hB:B<=w.heap.size):Below B w0 w1:=hb.trans (Below.mono h hB)
end
def Keep (T:TypeId) (w w':Zp1):Prop:=w.heap.size<=w'.heap.size/\∀(b:Nat) (cs:Array Value) (t:TypeId),w.heap[b]? = some (Obj.cells cs t (0,0))->t≠T->w'.heap[b]? = w.heap[b]?
section
variable {T t:TypeId} {w w' w2:Zp1} {g B:Nat} {cs:Array Value}
theorem Keep.of_later (h:Later w w'):Keep T w w':=⟨Below.size h,λb cs t hb _=>Below.block h b (lt_of_block hb)⟩
theorem Keep.set_ (hb:Blk w g T cs) (i:Nat) (u:Value):Keep T w (w.setCell ⟨g,i,none⟩ u):=⟨by simp,λb cs' t h ht=>Below.heap_setCell w _ u b (λe=>by
 have e:b=g:=e;subst e;unfold Blk at hb;rw [hb] at h;injection h with h
 injection h with _ h _
 exact ht h.symm)⟩
theorem Keep.refl (T:TypeId) (w:Zp1):Keep T w w:=⟨lrZ _,λ_ _ _ _ _=>rfl⟩
theorem Keep.trans (h:Keep T w w') (k:Keep T w' w2):Keep T w w2:=⟨Zv h.1 k.1,λb cs t hb ht=>(k.2 b cs t ((h.2 b cs t hb ht).trans hb) ht).trans (h.2 b cs t hb ht)⟩
theorem Blk.keep (hb:Blk w g t cs) (ht:t≠T) (h:Keep T w w'):Blk w' g t cs:=(h.2 g cs t hb ht).trans hb
theorem qc5 {e:TypeId} {s n:Nat} {v:Value} {xs:List Value} (h:w.ownsRow B e s v n xs) (ht:e≠T) (hk:Keep T w w'):w'.ownsRow B e s v n xs:=by
 refine ⟨h.1,?_⟩;rcases h.2 with h|⟨g,cap,cur,rfl,h1,h2,h3⟩
 ·exact .inl h
 ·exact .inr ⟨g,cap,cur,rfl,h1,(hk.2 g cur e h2 ht).trans h2,h3⟩
theorem FRow.keep {ss:List (List Int)} (h:FRow B w g t ss) (ht:t≠T) (hi:3≠T) (hk:Keep T w w'):FRow B w' g t ss:=by
 obtain ⟨hg,hs,hl,⟨vs,hc,hb,hv⟩,hr⟩:=h;exact ⟨hg,hs,hl,⟨vs,hc,hb.keep ht hk,hv⟩,λj hj ha=>⟨(hr j hj ha).1,(hr j hj ha).2.1,(hr j hj ha).2.2.keep hi hk⟩⟩
end
structure CpQ where
 v:NodeD
 S:Nat
 J:Option Addr
 jc:Nat
 Q:Nat
def CpQ.cells (x:CpQ):List Value:=[nQ iQ x.v.op.kind,nQ iQ x.v.op.k,nQ iQ x.v.op.width,nQ iQ x.v.op.step,nQ iQ x.v.op.side,nQ iQ x.v.op.frm,nQ iQ x.v.op.to,sQ (some ⟨x.S,0,none⟩) x.v.op.s.length x.v.op.s.length,.slice x.J x.v.ins.length x.jc,sQ (some ⟨x.Q,0,none⟩) x.v.p.length x.v.p.length]
def CpQ.R (B:Nat) (w:Zp1) (x:CpQ):Prop:=B<=x.S/\Blk w x.S 3 (x.v.op.s.map (Za1 iQ)).toArray/\w.ownsRow B 3 1 (.slice x.J x.v.ins.length x.jc) x.v.ins.length (x.v.ins.map (Za1 iQ))/\FRow B w x.Q 23 x.v.p
theorem CpQ.len (x:CpQ):x.cells.length=10:=rfl
theorem CpQ.flat (L:List CpQ):(L.flatMap CpQ.cells).length=L.length*10:=by
 induction L with
 | nil=>rfl
 | cons x r ih=>rw [List.flatMap_cons,Ze,ih,CpQ.len,List.length_cons];omega
theorem CpQ.R.keep {B:Nat} {w w':Zp1} {x:CpQ} {T:TypeId} (h:CpQ.R B w x) (h1:3≠T) (h2:23≠T) (hk:Keep T w w'):CpQ.R B w' x:=
 ⟨h.1,h.2.1.keep h1 hk,qc5 h.2.2.1 h1 hk,h.2.2.2.keep h2 h1 hk⟩
theorem CpQ.R.later {B:Nat} {w w':Zp1} {x:CpQ} (h:CpQ.R B w x) (hk:Later w w'):CpQ.R B w' x:=h.keep (T:=59) dZ dZ (Keep.of_later hk)
def CpRow (B:Nat) (wx:Zp1) (g:Nat) (zc:Array Value) (ns:List NodeD) (k:Nat):Prop:=
 ∃L:List CpQ,L.map (·.v)=ns.take k/\L.length=k/\Blk wx g 59 (L.flatMap CpQ.cells++zc.toList.drop (k*10)).toArray/\∀x∈L,CpQ.R B wx x
theorem CpRow.later {B:Nat} {w w':Zp1} {g:Nat} {zc:Array Value} {ns:List NodeD} {k:Nat} (h:CpRow B w g zc ns k) (hk:Later w w'):CpRow B w' g zc ns k:=by
 obtain ⟨L,h1,h2,h3,h4⟩:=h;exact ⟨L,h1,h2,hk.blk h3,λx hx=>(h4 x hx).later hk⟩
theorem CpRow.keep {B:Nat} {w w':Zp1} {g:Nat} {zc:Array Value} {ns:List NodeD} {k:Nat} {T:TypeId} (h:CpRow B w g zc ns k) (h1:3≠T) (h2:23≠T) (h3:59≠T) (hk:Keep T w w'):CpRow B w' g zc ns k:=by
 obtain ⟨L,l1,l2,l3,l4⟩:=h;exact ⟨L,l1,l2,l3.keep h3 hk,λx hx=>(l4 x hx).keep h1 h2 hk⟩
theorem qew {w:Zp1} {B B' e s n:Nat} {v:Value} {xs:List Value} (h:w.ownsRow B e s v n xs) (hB:B'<=B):w.ownsRow B' e s v n xs:=by
 refine ⟨h.1,?_⟩;rcases h.2 with h|⟨g,cap,cur,h1,h2,h3⟩
 ·exact .inl h
 ·exact .inr ⟨g,cap,cur,h1,Zv hB h2,h3⟩
theorem CpQ.R.base {B B':Nat} {w:Zp1} {x:CpQ} (h:CpQ.R B w x) (hB:B'<=B):CpQ.R B' w x:=⟨Zv hB h.1,h.2.1,qew h.2.2.1 hB,h.2.2.2.base hB⟩
theorem CpRow.zero {B:Nat} {w:Zp1} {g:Nat} {zc:Array Value} {ns:List NodeD} (h:Blk w g 59 zc):CpRow B w g zc ns 0:=⟨[],by simp,rfl,by simpa using h,by simp⟩
def set10 (w:Zp1) (g o:Nat) (l:List Value):Zp1:=((((((((((w.setCell ⟨g,o,none⟩ (l.getD 0 undef)).setCell ⟨g,o+1,none⟩ (l.getD 1 undef)).setCell ⟨g,o+2,none⟩ (l.getD 2 undef)).setCell ⟨g,o+3,none⟩ (l.getD 3 undef)).setCell ⟨g,o+4,none⟩ (l.getD 4 undef)).setCell ⟨g,o+5,none⟩ (l.getD 5 undef)).setCell ⟨g,o+6,none⟩ (l.getD 6 undef)).setCell ⟨g,o+7,none⟩ (l.getD 7 undef)).setCell ⟨g,o+8,none⟩ (l.getD 8 undef)).setCell ⟨g,o+9,none⟩ (l.getD 9 undef))
theorem Blk.set10 {w:Zp1} {g:Nat} {t:TypeId} {P R:List Value} {z0 z1 z2 z3 z4 z5 z6 z7 z8 z9 a0 a1 a2 a3 a4 a5 a6 a7 a8 a9:Value} {o:Nat} (hP:P.length=o) (h:Blk w g t (P++z0::z1::z2::z3::z4::z5::z6::z7::z8::z9::R).toArray):
  Blk (Go.Proofs.YtimfcikmpllbpaaGreat.set10 w g o [a0,a1,a2,a3,a4,a5,a6,a7,a8,a9]) g t (P++a0::a1::a2::a3::a4::a5::a6::a7::a8::a9::R).toArray:=by
 subst hP;have:=(((((((((h.set_ P.length a0).set_ (P.length+1) a1).set_ (P.length+2) a2).set_ (P.length+3) a3).set_ (P.length+4) a4).set_ (P.length+5) a5).set_ (P.length+6) a6).set_ (P.length+7) a7).set_ (P.length+8) a8).set_ (P.length+9) a9;simpa [Go.Proofs.YtimfcikmpllbpaaGreat.set10,List.set_append_right] using this
theorem Keep.set10 {w:Zp1} {g:Nat} {t:TypeId} {cs:Array Value} (h:Blk w g t cs) (o:Nat) (l:List Value):Keep t w (Go.Proofs.YtimfcikmpllbpaaGreat.set10 w g o l):=by
 unfold Go.Proofs.YtimfcikmpllbpaaGreat.set10;have s:∀ {W:Zp1} (hk:Keep t w W) (hc:∃cs,Blk W g t cs) (i:Nat) (u:Value),Keep t w (W.setCell ⟨g,i,none⟩ u)/\∃cs,Blk (W.setCell ⟨g,i,none⟩ u) g t cs:=λhk ⟨cs,hc⟩ i u=>⟨hk.trans (Keep.set_ hc i u),_,hc.set_ i u⟩
 have s0:=s (Keep.refl t w) ⟨_,h⟩ o (l.getD 0 undef);have s1:=s s0.1 s0.2 (o+1) (l.getD 1 undef);have s2:=s s1.1 s1.2 (o+2) (l.getD 2 undef);have s3:=s s2.1 s2.2 (o+3) (l.getD 3 undef);have s4:=s s3.1 s3.2 (o+4) (l.getD 4 undef);have s5:=s s4.1 s4.2 (o+5) (l.getD 5 undef);have s6:=s s5.1 s5.2 (o+6) (l.getD 6 undef);have s7:=s s6.1 s6.2 (o+7) (l.getD 7 undef);have s8:=s s7.1 s7.2 (o+8) (l.getD 8 undef);exact (s s8.1 s8.2 (o+9) (l.getD 9 undef)).1
theorem drop_ten {zs:List Value} {o:Nat} (h:o+10<=zs.length):∃z0 z1 z2 z3 z4 z5 z6 z7 z8 z9,zs.drop o=z0::z1::z2::z3::z4::z5::z6::z7::z8::z9::zs.drop (o+10):=by
 refine ⟨zs[o],zs[o+1],zs[o+2],zs[o+3],zs[o+4],zs[o+5],zs[o+6],zs[o+7],zs[o+8],zs[o+9],?_⟩
 iterate 10 rw [Zd oZ]
theorem CpRow.next {B:Nat} {w:Zp1} {g:Nat} {zc:Array Value} {ns:List NodeD} {k:Nat} (h:CpRow B w g zc ns k) (hk:k<ns.length) (hz:zc.size=ns.length*10):
  (∃z0 z1 z2 z3 z4 z5 z6 z7 z8 z9,w.cell? ⟨g,k*10,none⟩=some z0/\w.cell? ⟨g,k*10+1,none⟩=some z1/\w.cell? ⟨g,k*10+2,none⟩=some z2/\w.cell? ⟨g,k*10+3,none⟩=some z3/\w.cell? ⟨g,k*10+4,none⟩=some z4/\w.cell? ⟨g,k*10+5,none⟩=some z5/\w.cell? ⟨g,k*10+6,none⟩=some z6/\w.cell? ⟨g,k*10+7,none⟩=some z7/\w.cell? ⟨g,k*10+8,none⟩=some z8/\w.cell? ⟨g,k*10+9,none⟩=some z9)/\
  (∀i,w.frozen? ⟨g,i,none⟩=false)/\
  ∀x:CpQ,x.v=ns[k]->CpQ.R B w x->CpRow B (Go.Proofs.YtimfcikmpllbpaaGreat.set10 w g (k*10) x.cells) g zc ns (k+1)/\Keep 59 w (Go.Proofs.YtimfcikmpllbpaaGreat.set10 w g (k*10) x.cells):=by
 obtain ⟨L,h1,h2,h3,h4⟩:=h;obtain ⟨z0,z1,z2,z3,z4,z5,z6,z7,z8,z9,e⟩:=drop_ten (zs:=zc.toList) (o:=k*10) soZ;rw [e] at h3;have hl:(L.flatMap CpQ.cells).length=k*10:=by rw [CpQ.flat,h2]
 refine ⟨⟨z0,z1,z2,z3,z4,z5,z6,z7,z8,z9,?_,?_,?_,?_,?_,?_,?_,?_,?_,?_⟩,λi=>h3.frozen i,λx hx hR=>⟨⟨L++[x],?_,by simp [h2],?_,λy hy=>?_⟩,Keep.set10 h3 _ _⟩⟩
 all_goals first|(rw [h3.cell];simp [←hl];done)|skip
 ·rw [List.map_append,h1,Zb hk,←hx];rfl
 ·have:=Blk.set10 (a0:=nQ iQ x.v.op.kind) (a1:=nQ iQ x.v.op.k) (a2:=nQ iQ x.v.op.width) (a3:=nQ iQ x.v.op.step) (a4:=nQ iQ x.v.op.side) (a5:=nQ iQ x.v.op.frm) (a6:=nQ iQ x.v.op.to) (a7:=sQ (some ⟨x.S,0,none⟩) x.v.op.s.length x.v.op.s.length) (a8:=.slice x.J x.v.ins.length x.jc) (a9:=sQ (some ⟨x.Q,0,none⟩) x.v.p.length x.v.p.length) hl h3
  rw [Zj,List.append_assoc,show (k+1)*10=k*10+10 by omega];exact this
 ·have ha:Keep 59 w (Go.Proofs.YtimfcikmpllbpaaGreat.set10 w g (k*10) x.cells):=Keep.set10 h3 _ _
  rcases List.mem_append.1 hy with hy|hy
  ·exact (h4 y hy).keep dZ dZ ha
  ·simp at hy;subst hy;exact hR.keep dZ dZ ha
theorem Later.set10 {w w1:Zp1} {g o:Nat} {l:List Value} (h:Later w w1) (hg:w.heap.size<=g):Later w (Go.Proofs.YtimfcikmpllbpaaGreat.set10 w1 g o l):=by
 unfold Go.Proofs.YtimfcikmpllbpaaGreat.set10;exact (((((((((h.set (p:=⟨g,o,none⟩) hg _).set (p:=⟨g,o+1,none⟩) hg _).set (p:=⟨g,o+2,none⟩) hg _).set (p:=⟨g,o+3,none⟩) hg _).set (p:=⟨g,o+4,none⟩) hg _).set (p:=⟨g,o+5,none⟩) hg _).set (p:=⟨g,o+6,none⟩) hg _).set (p:=⟨g,o+7,none⟩) hg _).set (p:=⟨g,o+8,none⟩) hg _).set (p:=⟨g,o+9,none⟩) hg _
theorem CpRow.nodes {B:Nat} {w:Zp1} {g:Nat} {zc:Array Value} {ns:List NodeD} (h:CpRow B w g zc ns ns.length) (hs:∀v∈ns,v.op.s.length<=1048576/\v.p.length<=1048576/\∀s∈v.p,s.length<=1048576):Nodes w (some ⟨g,0,none⟩) ns:=λj hj=>by
 obtain ⟨L,h1,h2,h3,h4⟩:=h;rw [Zg] at h1;subst h1;rw [List.length_map] at hj;have hx:=h4 L[j] (gmZ hj);have hd:=hs L[j].v (List.mem_map.2 ⟨_,gmZ hj,rfl⟩);obtain ⟨q1,q2,q3,q4⟩:=hx;obtain ⟨r1,r2,r3⟩:=qal q3;have hb:L=L.take j++L[j]::L.drop (j+1):=by rw [←Zd hj,Zn]
 have hc:((L.take j).flatMap CpQ.cells).length=j*10:=by rw [CpQ.flat];simp;omega
 have ha:∀i,i<10->w.cell? ⟨g,j*10+i,none⟩=L[j].cells[i]?:=λi hi=>by
  rw [h3.cell]
  conv=>lhs;rw [hb,Zj,List.flatMap_cons,List.append_assoc,List.append_assoc]
  rw [Zk,Zl oZ,hc,show j*10+i-j*10=i by omega,Zm (by rw [CpQ.len];exact hi)]
 rw [List.getElem_map];refine ⟨g,0,some ⟨L[j].S,0,none⟩,L[j].v.op.s.length,L[j].J,L[j].jc,some ⟨L[j].Q,0,none⟩,L[j].v.p.length,rfl,h3.lt,?_,?_,?_,?_,?_,?_,?_,?_,?_,?_,⟨?_,lrZ _,by omega⟩,⟨r1,r2,r3⟩,⟨q4.shps (λs h=>by have:=hd.2.2 s h;omega),lrZ _,by omega⟩⟩
 all_goals first|(rw [Zw];exact ha 0 oZ)|(rw [Zw];exact ha _ oZ)|skip
 exact Ints.of_row λi hi=>by
  rw [Zw,q2.cell i,qa2 hi];simp [hi]
def PList (w:Zp1) (vs:List Value) (ss:List (List Int)):Prop:=
 vs.length=ss.length/\∀j (hj:j<ss.length),∃h,vs[j]? = some (sQ (some ⟨h,0,none⟩) ss[j].length ss[j].length)/\Blk w h 3 (ss[j].map (Za1 iQ)).toArray
theorem PList.nil (w:Zp1):PList w [] []:=⟨rfl,λj hj=>absurd hj sZ⟩
theorem PList.append {w:Zp1} {vs vs':List Value} {ss ss':List (List Int)} (h:PList w vs ss) (h':PList w vs' ss'):PList w (vs++vs') (ss++ss'):=by
 refine ⟨by simp [h.1,h'.1],λj hj=>?_⟩
 by_cases hl:j<ss.length
 ·obtain ⟨g,e,hb⟩:=h.2 j hl
  have e2:(ss++ss')[j]=ss[j]:=by simp [hl]
  rw [e2];exact ⟨g,by rw [Zm (by rw [h.1];exact hl)];exact e,hb⟩
 ·have ha:j-ss.length<ss'.length:=by simp at hj;omega
  obtain ⟨g,e,hb⟩:=h'.2 (j-ss.length) ha;have e2:(ss++ss')[j]=ss'[j-ss.length]:=by rw [List.getElem_append_right oZ]
  rw [e2];exact ⟨g,by rw [Zl (by rw [h.1];omega),h.1];exact e,hb⟩
theorem PList.keep {w w':Zp1} {vs:List Value} {ss:List (List Int)} {T:TypeId} (h:PList w vs ss) (hT:3≠T) (hk:Keep T w w'):PList w' vs ss:=
 ⟨h.1,λj hj=>by obtain ⟨g,e,hb⟩:=h.2 j hj;exact ⟨g,e,hb.keep hT hk⟩⟩
theorem PList.one {w:Zp1} {vs:List Value} {ss:List (List Int)} (h:PList w vs ss):∀u∈vs,u.oneCell'=true:=λu hu=>by
 obtain ⟨j,hj,rfl⟩:=List.getElem_of_mem hu;obtain ⟨g,e,_⟩:=h.2 j (by rw [←h.1];exact hj);rw [geZ hj] at e;injection e with e
 rw [e];rfl
theorem FRow.plist {B:Nat} {w:Zp1} {g:Nat} {t:TypeId} {ss:List (List Int)} (h:FRow B w g t ss):∃vs:List Value,Blk w g t vs.toArray/\PList w vs ss:=by
 obtain ⟨_,hs,hl,⟨vs,ha,hb,hv⟩,hr⟩:=h;exact ⟨vs,hb,ha,λj hj=>⟨hs[j]'oZ,hv j hj oZ,(hr j hj oZ).2.2⟩⟩
theorem Keep.of_grown {T:TypeId} {w w':Zp1} {B s n:Nat} {v:Value} {xs:List Value} (h:w.ownsRow B T s v n xs) (hg:w.grownBy w' v.ownBlock):Keep T w w':=by
 refine ⟨hg.size,λb cs t hb ht=>hg.block b (lt_of_block hb) λe=>?_⟩;rcases h.2 with ⟨rfl,_⟩|⟨g,cap,cur,rfl,_,hh,_⟩
 ·simp [Value.ownBlock] at e
 ·simp [Value.ownBlock] at e
  subst e;rw [hh] at hb;injection hb with hb
  injection hb with _ hb _
  exact ht hb.symm
theorem news_blk {w:Zp1} {g:Nat} {t:TypeId} {vs:List Value} (h:Blk w g t vs.toArray):∀(j:Nat) (u:Value),vs[j]? = some u->w.cell? (Addr.add ⟨g,0,none⟩ j)=some u:=λj u hu=>by
 have:(Addr.add ⟨g,0,none⟩ j)=⟨g,j,none⟩:=by by_cases e:j=0<;>simp [Addr.add,e]
 rw [this,h.cell];simpa using hu
theorem PList.shps {w:Zp1} {vs:List Value} {ss:List (List Int)} {B n:Nat} {t:TypeId} {v:Value} (h:PList w vs ss) (hown:w.ownsRow B t 1 v n vs) (hs:∀s∈ss,s.length<=1048576):
  ∃A c,v=sQ A ss.length c/\n=ss.length/\Shps w A ss/\ss.length<=c/\c<=9223372036854775807:=by
 have hn:n=ss.length:=by have:=hown.1;have:=h.1;omega
 subst hn;rcases hown.2 with ⟨rfl,h0⟩|⟨g,cap,cur,rfl,hb,hh,r1,r2,r3,r4⟩
 ·have:ss=[]:=List.eq_nil_of_length_eq_zero h0
  subst this;exact ⟨none,0,rfl,rfl,Shps.nil,by simp,by omega⟩
 ·refine ⟨_,cap,rfl,rfl,λj hj=>?_,r1,by unfold maxLen at r2;omega⟩
  obtain ⟨b,e,ha⟩:=h.2 j hj;refine ⟨g,0,_,_,rfl,lt_of_block hh,by rw [Zw,hown.cellAt j oZ];exact e,Ints.of_row λi hi=>?_,lrZ _,by have:=hs _ (gmZ hj);omega⟩;rw [Zw,ha.cell i,qa2 hi];simp [hi]
def ParamsP (n:NetD) (w:Zp1) (e:Ending) (w':Zp1):Prop:=
 ∃A c,e=.returned (sQ A (Nt.params n).length c)/\Shps w' A (Nt.params n)/\(Nt.params n).length<=c/\c<=9223372036854775807/\Below w.heap.size w w'
theorem qcX {n:NetD} (hok:n.ok) (k:Nat):((n.nodes.take k).flatMap (·.p)).length<=k*1048576:=by
 induction k with
 | zero=>simp
 | succ k ih=>
  by_cases hk:k<n.nodes.length
  ·rw [Zb hk,Zj,Ze]
   have h1:=(hok.2.2 _ (gmZ hk)).2.2.2.1;have e:[n.nodes[k]].flatMap (·.p)=n.nodes[k].p:=by simp
   rw [e];omega
  ·rw [List.take_of_length_le oZ]
   rw [List.take_of_length_le oZ] at ih;exact Zv ih (mlZ _ (Zy _))
theorem qfp (A N:Option Addr) (c d:Nat) (n:NetD) (w:Zp1) (hok:n.ok) (hR:NetR w A N n):
  Calls Tryz.prog 68 #[.agg #[sQ A n.inn.length c,sQ N n.nodes.length d]] w (ParamsP n w):=by
 obtain ⟨i0,hi,h5,hV,hS⟩:=info_parts qcm;have Hb:=hok.2.1;have hQ:=λk=>qcX hok k
 have hK:Later w (w.alloc (.cells #[sQ A n.inn.length c,sQ N n.nodes.length d] 26)):=(Later.refl _).alloc _;obtain ⟨hO,HR,h3,hL⟩:=zd4 hok hR hQ hK;clear hok hR hQ hK;go_enter Tryz.func68,Tryz.ntmps68;go_wp2_with fail;generalize w.alloc (.cells #[sQ A n.inn.length c,sQ N n.nodes.length d] 26)=w1 at *
 go_loopw [3,9] (λo i wx=>∃(k:Nat) (vs:List Value),k<=n.nodes.length/\i=nQ iQ (k:Int)/\wx.ownsRow w.heap.size 23 1 o ((n.nodes.take k).flatMap (·.p)).length vs/\PList wx vs ((n.nodes.take k).flatMap (·.p))/\Below w.heap.size w wx) (λ_ i _=>n.nodes.length-(intOf i).toNat)
 case atStart=>exact ⟨0,[],Zt _,rfl,by simpa using World.ownsRow_nil w1 w.heap.size 23 1,by simpa using PList.nil w1,hL.out⟩
 case round=>
  obtain ⟨k,vs,hk,rfl,hown,hp,hg⟩:=hrel;clear hL;obtain ⟨Ao,co,rfl⟩:=qa8 hown
  by_cases hA:k<n.nodes.length
  ·obtain ⟨b,off,S,sc,J,ic,Q,qc,rfl,hu,-,-,-⟩:=HR.out.2.at_ hA
   have hc:=hO.out.2.2 _ (gmZ hA);have hz:=hc.2.2.2.1;have hh:=hc.2.2.2.2.1;have hC:=hu.2.2.2;have h7:=h3.out k;have hE:(n.nodes.take (k+1)).flatMap (·.p)=(n.nodes.take k).flatMap (·.p)++n.nodes[k].p:=by rw [Zb hA,Zj];simp
   have h9:k*1048576<=1048576*1048576:=mlZ _ oZ;generalize n.nodes[k]=v at *;generalize (n.nodes.take k).flatMap (·.p)=ss at *;obtain ⟨⟨y0,y1,y2,y3,y4,y5,y6,y7,y8,y9⟩,-⟩:=hu.below hg;have hM:Later wr (wr.alloc (.cells #[nQ iQ v.op.kind,nQ iQ v.op.k,nQ iQ v.op.width,nQ iQ v.op.step,nQ iQ v.op.side,nQ iQ v.op.frm,nQ iQ v.op.to,sQ S v.op.s.length sc,sQ J v.ins.length ic,sQ Q v.p.length qc] 59)):=(Later.refl wr).alloc _;obtain ⟨h6,h1,hG,hY,hJ,hf,hx,hD⟩:=zd8 hu hc hh hC hE hown hp hM;clear hu hc hh hC hE hown hp hM;go_wp2_with fail;clear y0 y1 y2 y3 y4 y5 y6 y7 y8 y9;generalize wr.alloc (.cells #[nQ iQ v.op.kind,nQ iQ v.op.k,nQ iQ v.op.width,nQ iQ v.op.step,nQ iQ v.op.side,nQ iQ v.op.frm,nQ iQ v.op.to,sQ S v.op.s.length sc,sQ J v.ins.length ic,sQ Q v.p.length qc] 59)=w2 at *;refine (qfo Q qc v.p _ hz hG.out (hY.out.below (hg.trans (Below.mono hD.out hg.size)) (lrZ _))).mono ?_;rintro e w3 ⟨g,rfl,hF,hI⟩;have hj:=hD.out.call hI;obtain ⟨ws,hB,ht⟩:=hF.plist;have hr:=qc5 (T:=59) hf.out dZ (Keep.of_later hj);have hH:=hx.out.keep (T:=59) dZ (Keep.of_later hj);have hN:ws.length=v.p.length:=ht.1;have hn:=ht.one;have hd:=news_blk hB;have hl:=hg.trans (Below.mono hj hg.size);have hq:=hl.size;have hP:=zI (λb (hb:(Zb1 Ao ss.length co).ownBlock=some b)=>(hr.lt b hb).1);obtain ⟨HF,h8,h4,hZ,Ha⟩:=zd5 hF hj hH ht hB;clear hF hj hH ht hB;clear hI hf hx;go_wp2_with (at_builtin;refine wpList_append_own_at _ rfl _ _ 57 rfl w.heap.size 23 i0 (sQ none 0 0) 1 24 Tryz.underlying57 hi h5 hV hS rfl dZ _ _ _ rfl hr ⟨g,0,none⟩ v.p.length v.p.length ws rfl (by rw [hN];omega) hd hn (by unfold maxLen;omega) oZ hq ?_);intro v' w4 ha hgrow _ h0;have hw:Keep 23 w3 w4:=Keep.of_grown hr hgrow;have hy:=(h4.out.keep dZ hw).append (hZ.out.keep dZ hw)
   have hX:Below w.heap.size w w4:=hl.grown hgrow hq (λb hb=>hP.out b hb);rw [show ss.length+v.p.length=(ss++v.p).length by simp,←hJ.out] at ha;rw [←hJ.out] at hy;have hm:=zI ha;have hU:=zI hy;clear ha hy;clear hw hgrow h0 hr hP hd hn hN;go_wp2_with fail;go_roundw
   case rel=>exact ⟨k+1,vs++ws,by omega,by go_num,hm.out,hU.out,hX⟩
   case measure=>simp [intOf];omega
  ·obtain rfl:k=n.nodes.length:=by omega
   rw [Zg] at *
   have hh:∀s∈n.nodes.flatMap (·.p),s.length<=1048576:=λs hs=>by
    obtain ⟨v,hv,hs⟩:=List.mem_flatMap.1 hs;exact (hO.out.2.2 v hv).2.2.2.2.1 s hs
   obtain ⟨A',c',e,-,q1,q2,q3⟩:=hp.shps hown hh;injection e with e1 e2 e3
   subst e1 e3;have ho:Nt.params n=n.nodes.flatMap (·.p):=rfl;obtain ⟨hf,hx,hG,hT,h2,hW,he⟩:=zd7 hown hp hh q1 q2 q3 ho;clear hown hp hh q1 q2 q3 ho;clear e2;go_wp2_with fail;go_ret;exact ⟨Ao,co,by (rw [he.out]<;>rfl),by rw [he.out];exact hT.out,by rw [he.out];exact h2.out,hW.out,hg⟩
theorem params_at {n:NetD} {k m:Nat} (hk:k<n.nodes.length) (hm:m<n.nodes[k].p.length):((n.nodes.take k).flatMap (·.p)).length+m<(Nt.params n).length/\(Nt.params n)[((n.nodes.take k).flatMap (·.p)).length+m]? = some n.nodes[k].p[m]:=by
 have e:Nt.params n=(n.nodes.take k).flatMap (·.p)++(n.nodes[k].p++(n.nodes.drop (k+1)).flatMap (·.p)):=by
  unfold Nt.params
  conv=>lhs;rw [←Zn k n.nodes,Zd hk,Zj,List.flatMap_cons]
 rw [e];refine ⟨by simp only [Ze];omega,?_⟩;rw [Zl oZ,Nat.add_sub_cancel_left,Zm hm,geZ hm]
theorem qeU (a b i m:Nat) (hm:m=2 ^ i) (h:a<m):(b*m) ||| a=b*m+a:=by
 subst hm;rw [←Nat.shiftLeft_eq,Nat.shiftLeft_add_eq_or_of_lt h]
namespace Fx
def In (x:Int):Prop:=-9223372036854775808<=x/\x<=9223372036854775807
def clamp (z:Int):Int:=if 9223372036854775807<z then 9223372036854775807 else if z < -9223372036854775808 then -9223372036854775808 else z
theorem qdj (z:Int):In (clamp z):=by unfold clamp In;split<;>(try split)<;>omega
theorem clamp_id {z:Int} (h:In z):clamp z=z:=by unfold In at h;unfold clamp;split<;>(try split)<;>omega
theorem clamp_hi {z:Int} (h:9223372036854775807<=z):clamp z=9223372036854775807:=by unfold clamp;split<;>(try split)<;>omega
theorem clamp_lo {z:Int} (h:z<=-9223372036854775808):clamp z = -9223372036854775808:=by unfold clamp;split<;>(try split)<;>omega
theorem in_zero:In 0:=by unfold In;omega
def add (x y:Int):Int:=clamp (x+y)
def rnd (p d:Nat):Nat:=if d<2*(p % d)∨(2*(p % d)=d/\p / d % 2=1) then p / d+1 else p / d
def neg2 (x y:Int):Bool:=decide (x<0) != decide (y<0)
def sgn (b:Bool) (n:Nat):Int:=if b then -(n:Int) else n
def mul (x y:Int):Int:=clamp (sgn (neg2 x y) (rnd (x.natAbs*y.natAbs) 4294967296))
def edge (b:Bool):Int:=if b then -9223372036854775808 else 9223372036854775807
def div (x y:Int):Int:=if y=0 then (if x=0 then 0 else edge (decide (x<0))) else clamp (sgn (neg2 x y) (rnd (x.natAbs*4294967296) y.natAbs))
theorem edge_in (b:Bool):In (edge b):=by cases b<;>(unfold edge In;simp)
theorem add_in (x y:Int):In (add x y):=qdj _
theorem mul_in (x y:Int):In (mul x y):=qdj _
theorem div_in (x y:Int):In (div x y):=by
 unfold div
 split
 ·split
  ·exact in_zero
  ·exact edge_in _
 ·exact qdj _
theorem clamp_sgn_big {b:Bool} {n:Nat} (h:9223372036854775808<=n):clamp (sgn b n)=edge b:=by
 cases b
 ·exact clamp_hi (by simp [sgn];omega)
 ·exact clamp_lo (by simp [sgn];omega)
theorem clamp_sgn_small {b:Bool} {n:Nat} (h:n<9223372036854775808):clamp (sgn b n)=sgn b n:=by
 cases b<;>exact clamp_id (by unfold In;simp [sgn];omega)
def sum (l:List Int):Int:=l.foldl add 0
def dot (a b:List Int):Int:=(a.zip b).foldl (λs p=>add s (mul p.1 p.2)) 0
theorem qeV {α:Type} (f:Int->α->Int) (hf:∀s x,In (f s x)) (l:List α) (s:Int) (hs:In s):In (l.foldl f s):=by
 induction l generalizing s with
 | nil=>exact hs
 | cons x r ih=>exact ih _ (hf s x)
theorem sum_in (l:List Int):In (sum l):=qeV _ (λs x=>add_in s x) _ _ in_zero
theorem dot_in (a b:List Int):In (dot a b):=qeV _ (λs x=>add_in _ _) _ _ in_zero
def held (x low high:Int):Int:=if high<x then high else if x<low then low else x
theorem held_in {x low high:Int} (hx:In x) (hl:In low) (hh:In high):In (held x low high):=by unfold held;split<;>(try split)<;>assumption
def neg (x:Int):Int:=if x = -9223372036854775808 then 9223372036854775807 else -x
end Fx
theorem qeW (v:BitVec 64):iQ.wrap (v.toNat:Int)<0↔v.msb=true:=by
 have:=v.isLt;rw [IntKind.wrap_i64,BitVec.msb_eq_decide];simp;omega
theorem qbK {a:Int} (h:Fx.In a):(BitVec.ofInt 64 a).msb=decide (a<0):=by
 unfold Fx.In at h;rw [BitVec.msb_eq_decide,BitVec.toNat_ofInt];simp only [decide_eq_decide];omega
theorem qgf (n:Int):Fx.In (iQ.wrap n):=by unfold Fx.In;rw [IntKind.wrap_i64];omega
theorem qgg {a b:Int} (ha:Fx.In a) (hb:Fx.In b):bits .xor iQ a b<0↔(decide (a<0) != decide (b<0))=true:=by
 show iQ.wrap ((BitVec.ofInt 64 a ^^^ BitVec.ofInt 64 b).toNat:Int)<0↔_
 rw [qeW,BitVec.msb_xor,qbK ha,qbK hb]
theorem qgh (o:BinOp) (a b:Int):Fx.In (bits o iQ a b):=qgf _
theorem and_neg {a b:Int} (ha:Fx.In a) (hb:Fx.In b):bits .and iQ a b<0↔a<0/\b<0:=by
 show iQ.wrap ((BitVec.ofInt 64 a &&& BitVec.ofInt 64 b).toNat:Int)<0↔_
 rw [qeW,BitVec.msb_and,qbK ha,qbK hb];simp
theorem add_over {x y s:Int} (hx:Fx.In x) (hy:Fx.In y) (hs:s=iQ.wrap (x+y)):bits .and iQ (bits .xor iQ x s) (bits .xor iQ y s)<0↔¬Fx.In (x+y):=by
 have ha:Fx.In s:=by rw [hs];exact qgf _
 rw [and_neg (qgh _ _ _) (qgh _ _ _),qgg hx ha,qgg hy ha];simp only [bne_iff_ne,ne_eq,decide_eq_decide];unfold Fx.In at *;rw [IntKind.wrap_i64] at hs;omega
theorem add_no {x y:Int} (h:Fx.In (x+y)):iQ.wrap (x+y)=Fx.add x y:=by
 unfold Fx.add;rw [Fx.clamp_id h];unfold Fx.In at h;rw [IntKind.wrap_i64];omega
theorem add_yes {x y:Int} (hx:Fx.In x) (hy:Fx.In y) (h:¬Fx.In (x+y)):Fx.add x y=Fx.edge (decide (x<0)):=by
 unfold Fx.add;unfold Fx.In at *
 by_cases hn:x<0
 ·rw [Fx.clamp_lo oZ];simp [Fx.edge,hn]
 ·rw [Fx.clamp_hi oZ];simp [Fx.edge,hn]
theorem qbm (b:Bool) (w:Zp1):Calls Tryz.prog 130 #[.bool b] w λe w'=>e=.returned (nQ iQ (Fx.edge b))/\w=w':=by
 cases b
 all_goals
  go_enter Tryz.func130,Tryz.ntmps130;go_wp2_with fail;go_ret;exact ⟨rfl,rfl⟩
theorem qex (n:Int):wrap64 n=iQ.wrap n:=by unfold wrap64;rw [IntKind.wrap_i64]
theorem qb2 (x y:Int) (w:Zp1) (hx:Fx.In x) (hy:Fx.In y):Calls Tryz.prog 89 #[nQ iQ x,nQ iQ y] w λe w'=>e=.returned (nQ iQ (Fx.add x y))/\w=w':=by
 have H:=zI (add_over hx hy rfl)
 by_cases h:Fx.In (x+y)
 ·have HA:=zI (add_no h)
  have b1 : -9223372036854775808<=x+y:=h.1;have b2:x+y<=9223372036854775807:=h.2;have HB:=zI (show iQ.wrap (x+y)=x+y from Zc1 _ ⟨b1,b2⟩)
  have hB:0<=bits .and iQ (bits .xor iQ x (x+y)) (bits .xor iQ y (x+y)):=by
   have:=H.out;rw [HB.out] at this;exact Int.not_lt.1 λk=>(this.1 k) h
  clear H hx hy h;go_enter Tryz.func89,Tryz.ntmps89;go_wp2_with fail;go_ret;exact ⟨qa3 (by rw [←HA.out,HB.out]),rfl⟩
 ·have HA:=zI (add_yes hx hy h)
  have hB:bits .and iQ (bits .xor iQ x (wrap64 (x+y))) (bits .xor iQ y (wrap64 (x+y)))<0:=by
   rw [qex];exact H.out.2 h
  clear H hx hy;have Hh:=zI h;clear h;go_enter Tryz.func89,Tryz.ntmps89;go_wp2_with fail;refine (qbm _ _).mono ?_;rintro e w1 ⟨rfl,rfl⟩;go_wp2_with fail;go_ret;exact ⟨qa3 HA.out.symm,rfl⟩
theorem qce (x:Int) (w:Zp1) (hx:Fx.In x):Calls Tryz.prog 129 #[nQ iQ x] w λe w'=>e=.returned (.int .u64 (x.natAbs:Int))/\w=w':=by
 obtain ⟨h1,h2⟩:=hx
 by_cases h:x<0
 ·have e:IntKind.u64.wrap (-IntKind.u64.wrap x)=(x.natAbs:Int):=by rw [IntKind.wrap_u64,IntKind.wrap_u64];omega
  have E:=zI e;clear e;go_enter Tryz.func129,Tryz.ntmps129;go_wp2_with fail;go_ret;exact ⟨qa3 E.out,rfl⟩
 ·have E:=zI (show x=(x.natAbs:Int) by omega)
  go_enter Tryz.func129,Tryz.ntmps129;go_wp2_with fail;go_ret;exact ⟨qa3 E.out,rfl⟩
theorem qaf (q:Int) (b:Bool) (w:Zp1) (h0:0<=q) (hq:q<18446744073709551616):Calls Tryz.prog 131 #[.int .u64 q,.bool b] w λe w'=>e=.returned (nQ iQ (Fx.clamp (Fx.sgn b q.toNat)))/\w=w':=by
 by_cases h:9223372036854775808<=q
 ·have HE:=zI (Fx.clamp_sgn_big (b:=b) (n:=q.toNat) oZ)
  cases b
  all_goals
   go_enter Tryz.func131,Tryz.ntmps131;go_wp2_with fail;refine (qbm _ _).mono ?_;rintro e w1 ⟨rfl,rfl⟩;go_wp2_with fail;go_ret;exact ⟨qa3 HE.out.symm,rfl⟩
 ·have HE:=λb=>Fx.clamp_sgn_small (b:=b) (n:=q.toNat) oZ
  have E1:=zI (HE true);have E2:=zI (HE false);clear HE;have ha:q<=9223372036854775807:=by omega
  clear hq h;cases b
  ·have E:=zI (show q=Fx.sgn false q.toNat by simp [Fx.sgn];omega)
   go_enter Tryz.func131,Tryz.ntmps131;go_wp2_with fail;go_ret;exact ⟨qa3 (by rw [E2.out];exact E.out),rfl⟩
  ·have E:=zI (show -q=Fx.sgn true q.toNat by simp [Fx.sgn];omega)
   go_enter Tryz.func131,Tryz.ntmps131;go_wp2_with fail;go_ret;exact ⟨qa3 (by rw [E1.out];exact E.out),rfl⟩
theorem qaR {x:Int} (h:Fx.In x):x.natAbs<=9223372036854775808:=by unfold Fx.In at h;omega
theorem qbL {x:Int} (h:Fx.In x):x.natAbs<18446744073709551616:=Nat.lt_of_le_of_lt (qaR h) dZ
theorem qfq {x y:Int} (hx:Fx.In x) (hy:Fx.In y):x.natAbs*y.natAbs<=85070591730234615865843651857942052864:=Nat.mul_le_mul (qaR hx) (qaR hy)
theorem u64_join (p:Nat) (hp:p<39614081257132168796771975168):bits .or .u64 (((p / 18446744073709551616:Nat):Int)*4294967296) (((p % 18446744073709551616:Nat):Int) / 4294967296)=((p / 4294967296:Nat):Int):=by
 have e1:(((p / 18446744073709551616:Nat):Int)*4294967296)=((p / 18446744073709551616*4294967296:Nat):Int):=by omega
 have e2:(((p % 18446744073709551616:Nat):Int) / 4294967296)=((p % 18446744073709551616 / 4294967296:Nat):Int):=by omega
 rw [e1,e2,bits_or_u64_nat _ _ oZ oZ,qeU _ _ 32 4294967296 dZ oZ];omega
theorem qeX (p:Nat):bits .and .u64 ((p % 18446744073709551616:Nat):Int) 4294967295=((p % 4294967296:Nat):Int):=by
 have h:=bits_and_u64_nat (p % 18446744073709551616) 4294967295 oZ oZ;have e:p % 18446744073709551616 &&& 4294967295=p % 18446744073709551616 % 4294967296:=Nat.and_two_pow_sub_one_eq_mod _ 32;rw [e] at h;refine h.trans ?_;omega
theorem qdk (q:Nat) (hq:q<18446744073709551616):bits .and .u64 (q:Int) 1=((q % 2:Nat):Int):=by
 have h:=bits_and_u64_nat q 1 hq oZ;rw [Nat.and_one_is_mod] at h;exact h
theorem qaN (x y:Int) (w:Zp1) (hx:Fx.In x) (hy:Fx.In y):Calls Tryz.prog 88 #[nQ iQ x,nQ iQ y] w λe w'=>e=.returned (nQ iQ (Fx.mul x y))/\w=w':=by
 obtain ⟨HX,HY⟩:=zd2 hx hy;clear hx hy;go_enter Tryz.func88,Tryz.ntmps88;go_wp2_with fail;generalize hN:(!(decide (x<0)==decide (y<0)))=nb;have HN:=zI (show Fx.neg2 x y=nb from hN);clear hN;refine (qce x _ HX.out).mono ?_;rintro e w1 ⟨rfl,rfl⟩;go_wp2_with fail;refine (qce y _ HY.out).mono ?_;rintro e w1 ⟨rfl,rfl⟩;go_wp2_with fail;refine (Tryz.bits_Mul64 x.natAbs y.natAbs (qbL HX.out) (qbL HY.out) _).mono ?_;rintro e w1 ⟨rfl,hd⟩;subst hd;obtain ⟨p,hp⟩:∃p,p=x.natAbs*y.natAbs:=⟨_,rfl⟩
 have HP:=zI hp;rw [←hp];have ha:p<=85070591730234615865843651857942052864:=by rw [hp];exact qfq HX.out HY.out
 clear hp;obtain ⟨hi,hhi⟩:∃hi:Int,hi=((p / 18446744073709551616:Nat):Int):=⟨_,rfl⟩
 obtain ⟨lo,hlo⟩:∃lo:Int,lo=((p % 18446744073709551616:Nat):Int):=⟨_,rfl⟩
 rw [←hhi,←hlo];have b1:0<=hi:=by omega
 have b2:0<=lo:=by omega
 have b3:hi<4611686018427387905:=by omega
 have b4:lo<=18446744073709551615:=by omega
 obtain ⟨HH,HL,hb⟩:=zd3 hhi hlo ha;clear hhi hlo ha
 by_cases h:2147483648<=hi
 ·have HE:RowKit.Hid (Fx.edge nb=Fx.mul x y):=by
   have h1:=HH.out;unfold Fx.mul;rw [←HP.out,HN.out];refine (Fx.clamp_sgn_big ?_).symm;unfold Fx.rnd
   split<;>omega
  go_wp2_with fail;refine (qbm nb _).mono ?_;rintro e w1 ⟨rfl,rfl⟩;go_wp2_with fail;go_ret;exact ⟨qa3 HE.out,rfl⟩
 ·have hc:p<39614081257132168796771975168:=by have:=HH.out;have:=hb.out;omega
  have j1:=u64_join p hc;have j2:=qeX p;have j3:=qdk (p / 4294967296) oZ;rw [←HH.out,←HL.out] at j1;rw [←HL.out] at j2;obtain ⟨q,hq⟩:∃q:Int,q=((p / 4294967296:Nat):Int):=⟨_,rfl⟩
  obtain ⟨r,hr⟩:∃r:Int,r=((p % 4294967296:Nat):Int):=⟨_,rfl⟩
  obtain ⟨t,ht⟩:∃t:Int,t=((p / 4294967296 % 2:Nat):Int):=⟨_,rfl⟩
  have q0:0<=q:=by omega
  have q1:q<=9223372036854775807:=by omega
  have r0:0<=r:=by omega
  have r1:r<=4294967295:=by omega
  rw [←hq] at j1 j3;rw [←hr] at j2;rw [←ht] at j3;obtain ⟨HQ,HR,HT,Hl⟩:=zd4 hq hr ht hc;clear hq hr ht hc
  have key:∀z:Int,0<=z->z.toNat=Fx.rnd p 4294967296->Fx.clamp (Fx.sgn nb z.toNat)=Fx.mul x y:=λz _ hz=>by
   unfold Fx.mul;rw [←HP.out,HN.out,hz]
  have Hk:=zI key;clear key
  by_cases h1:2147483648<r
  ·have d1:decide (2147483648<r)=true:=by simpa using h1
   have d2:(r==2147483648)=false:=by simp;omega
   have hz:(q+1).toNat=Fx.rnd p 4294967296:=by
    have:=HQ.out;have:=HR.out;unfold Fx.rnd;rw [ipZ oZ];omega
   have Hz:=zI hz;clear hz h1;go_wp2_with fail;refine (qaf (q+1) nb _ oZ oZ).mono ?_;rintro e w1 ⟨rfl,rfl⟩;go_wp2_with fail;go_ret;exact ⟨qa3 (Hk.out _ oZ Hz.out),rfl⟩
  ·have d1:decide (2147483648<r)=false:=by simpa using h1
   by_cases h2:r=2147483648
   ·have d2:(r==2147483648)=true:=by simpa using h2
    by_cases h3:t=1
    ·have d3:(t==1)=true:=by simpa using h3
     have hz:(q+1).toNat=Fx.rnd p 4294967296:=by
      have:=HQ.out;have:=HR.out;have:=HT.out;unfold Fx.rnd;rw [ipZ oZ];omega
     have Hz:=zI hz;clear hz h1 h2 h3;go_wp2_with fail;refine (qaf (q+1) nb _ oZ oZ).mono ?_;rintro e w1 ⟨rfl,rfl⟩;go_wp2_with fail;go_ret;exact ⟨qa3 (Hk.out _ oZ Hz.out),rfl⟩
    ·have d3:(t==1)=false:=by simpa using h3
     have hz:q.toNat=Fx.rnd p 4294967296:=by
      have:=HQ.out;have:=HR.out;have:=HT.out;unfold Fx.rnd;rw [inZ oZ];omega
     have Hz:=zI hz;clear hz h1 h2 h3;go_wp2_with fail;refine (qaf q nb _ oZ oZ).mono ?_;rintro e w1 ⟨rfl,rfl⟩;go_wp2_with fail;go_ret;exact ⟨qa3 (Hk.out _ oZ Hz.out),rfl⟩
   ·have d2:(r==2147483648)=false:=by simpa using h2
    have hz:q.toNat=Fx.rnd p 4294967296:=by
     have:=HQ.out;have:=HR.out;have:=HT.out;unfold Fx.rnd;rw [inZ oZ];omega
    have Hz:=zI hz;clear hz h1 h2;go_wp2_with fail;refine (qaf q nb _ oZ oZ).mono ?_;rintro e w1 ⟨rfl,rfl⟩;go_wp2_with fail;go_ret;exact ⟨qa3 (Hk.out _ oZ Hz.out),rfl⟩
namespace Kd
def more (q r b v:Nat):Bool:=decide (4294967296<=q) || decide (4294967296*r+v<q*b)
section
variable {u v y a b q r:Nat}
theorem digit_lt (hv:v<4294967296) (hu:u<y):(u*4294967296+v) / y<4294967296:=by
 rw [Nat.div_lt_iff_lt_mul oZ];have:(u+1)*4294967296<=y*4294967296:=mlZ _ hu;rw [Nat.mul_comm 4294967296 y];omega
theorem qdl (hy:y=a*4294967296+b):q*y=q*a*4294967296+q*b:=by rw [hy,Nat.mul_add,Nat.mul_assoc]
theorem step (hy:y=a*4294967296+b) (hv:v<4294967296) (hu:u<y) (hq:u=q*a+r) (h:more q r b v=true):(u*4294967296+v) / y<q:=by
 simp only [more,Bool.or_eq_true,decide_eq_true_eq] at h
 by_cases h1:4294967296<=q
 ·exact ltZ (digit_lt hv hu) h1
 ·rw [Nat.div_lt_iff_lt_mul oZ,qdl hy]
  omega
theorem stop (hy:y=a*4294967296+b) (hq:u=q*a+r) (hy0:0<y) (h:more q r b v=false):q<=(u*4294967296+v) / y:=by
 simp only [more,Bool.or_eq_false_iff,decide_eq_false_iff_not] at h;rw [Nat.le_div_iff_mul_le hy0,qdl hy];omega
theorem stop_brk (hy:y=a*4294967296+b) (hq:u=q*a+r) (hy0:0<y) (hb:b<4294967296) (hq1:q<=4294967296) (hr:4294967296<=r):q<=(u*4294967296+v) / y:=by
 rw [Nat.le_div_iff_mul_le hy0,qdl hy];have h1:q*b<=4294967296*b:=mlZ _ hq1;omega
theorem first (ha:2147483648<=a) (hy:y=a*4294967296+b) (hb:b<4294967296) (hu:u<y):u / a<=4294967297:=by
 have:u / a<4294967298:=by
  rw [Nat.div_lt_iff_lt_mul oZ];omega
 omega
structure Inv (u v y a b q r:Nat):Prop where
 eq:u=q*a+r
 ge:(u*4294967296+v) / y<=q
 le:q<=4294967297
theorem Inv.start (ha:2147483648<=a) (hy:y=a*4294967296+b) (hb:b<4294967296) (hv:v<4294967296) (hu:u<y):Inv u v y a b (u / a) (u-u / a*a):=by
 have h0:=Nat.div_mul_le_self u a;refine ⟨by omega,?_,first ha hy hb hu⟩;rw [←Nat.lt_add_one_iff,Nat.div_lt_iff_lt_mul oZ];have h2:u<(u / a+1)*a:=by rw [←Nat.div_lt_iff_lt_mul oZ];omega
 have h3:(u / a+1)*y=(u / a+1)*a*4294967296+(u / a+1)*b:=qdl hy;rw [h3];generalize (u / a+1)*a=t at *;generalize (u / a+1)*b=t2 at *;omega
theorem Inv.next (h:Inv u v y a b q r) (hy:y=a*4294967296+b) (hv:v<4294967296) (hu:u<y) (hm:more q r b v=true):1<=q/\q-1<=4294967296/\Inv u v y a b (q-1) (r+a):=by
 have h1:=step hy hv hu h.eq hm;have h2:=h.le
 have h5:(u*4294967296+v) / y<=q-1:=by
  generalize (u*4294967296+v) / y=d at h1;omega
 have h6:1<=q:=Nat.lt_of_le_of_lt (Zt _) h1;clear h1
 have h3:q*a=(q-1)*a+a:=by
  obtain ⟨n,rfl⟩:∃n,q=n+1:=⟨q-1,by omega⟩
  rw [Nat.add_sub_cancel,Zu]
 have h4:=h.eq;exact ⟨h6,by omega,⟨by omega,h5,by omega⟩⟩
theorem Inv.done (h:Inv u v y a b q r) (hy:y=a*4294967296+b) (hy0:0<y) (hm:more q r b v=false):q=(u*4294967296+v) / y:=
 Nat.le_antisymm (stop hy h.eq hy0 hm) h.ge
theorem Inv.brk (h:Inv u v y a b q r) (hy:y=a*4294967296+b) (hy0:0<y) (hb:b<4294967296) (hq:q<=4294967296) (hr:4294967296<=r):q=(u*4294967296+v) / y:=
 Nat.le_antisymm (stop_brk hy h.eq hy0 hb hq hr) h.ge
end
theorem two0 {u v1 v0 y q1 r1:Nat} (hy:0<y) (h1:y*q1+r1=u*4294967296+v1):
  (u*18446744073709551616+v1*4294967296+v0) / y=q1*4294967296+(r1*4294967296+v0) / y/\(u*18446744073709551616+v1*4294967296+v0) % y=(r1*4294967296+v0) % y:=by
 have e:u*18446744073709551616+v1*4294967296+v0=y*(q1*4294967296)+(r1*4294967296+v0):=by
  rw [←Nat.mul_assoc];omega
 rw [e,Nat.mul_add_div hy,Nat.mul_add_mod];exact And.intro rfl rfl
theorem two {u v1 v0 y:Nat} (hy:0<y):
  (u*18446744073709551616+v1*4294967296+v0) / y=(u*4294967296+v1) / y*4294967296+((u*4294967296+v1) % y*4294967296+v0) / y/\
  (u*18446744073709551616+v1*4294967296+v0) % y=((u*4294967296+v1) % y*4294967296+v0) % y:=
 two0 hy (Nat.div_add_mod (u*4294967296+v1) y)
theorem shifted (n y s:Nat):n*2 ^ s / (y*2 ^ s)=n / y/\n*2 ^ s % (y*2 ^ s) / 2 ^ s=n % y:=by
 have hp:0<2 ^ s:=Nat.two_pow_pos s;refine ⟨Nat.mul_div_mul_right _ _ hp,?_⟩;rw [Nat.mul_mod_mul_right,Nat.mul_div_cancel _ hp]
theorem words {hi lo s:Nat} (hs:s<64) (hlo:lo<18446744073709551616):
  (hi*18446744073709551616+lo)*2 ^ s=(hi*2 ^ s+lo / 2 ^ (64-s))*18446744073709551616+lo*2 ^ s % 18446744073709551616:=by
 have e:(18446744073709551616:Nat)=2 ^ (64-s)*2 ^ s:=by rw [←Nat.pow_add,show 64-s+s=64 by omega]
 have hp:0<2 ^ s:=Nat.two_pow_pos s;have h1:lo*2 ^ s / 18446744073709551616=lo / 2 ^ (64-s):=by rw [e,Nat.mul_div_mul_right _ _ hp]
 have h2:=Nat.div_add_mod (lo*2 ^ s) 18446744073709551616;rw [h1] at h2;rw [Nat.add_mul,Nat.mul_right_comm];generalize hi*2 ^ s=x at *;generalize lo / 2 ^ (64-s)=z at *;omega
theorem low_lt {lo s:Nat} (hs:s<64) (hlo:lo<18446744073709551616):lo / 2 ^ (64-s)<2 ^ s:=by
 rw [Nat.div_lt_iff_lt_mul (Nat.two_pow_pos _),←Nat.pow_add,show s+(64-s)=64 by omega];exact hlo
theorem high_lt {hi lo y s:Nat} (hs:s<64) (hlo:lo<18446744073709551616) (h:hi<y):hi*2 ^ s+lo / 2 ^ (64-s)<y*2 ^ s:=by
 have h1:=low_lt hs hlo;have h2:(hi+1)*2 ^ s<=y*2 ^ s:=mlZ _ h;rw [Zu] at h2;omega
end Kd
structure Norm (hi lo y:Int) (s:Nat) (Y A B U V1 V0:Int):Prop where
 y0:0<=Y
 y1:Y<=18446744073709551615
 a0:2147483648<=A
 a1:A<=4294967295
 b0:0<=B
 b1:B<=4294967295
 yab:Y=A*4294967296+B
 u0:0<=U
 u1:U<Y
 v0:0<=V1
 v1:V1<=4294967295
 w0:0<=V0
 w1:V0<=4294967295
 num:(hi.toNat * 18446744073709551616+lo.toNat)*2 ^ s=U.toNat * 18446744073709551616+V1.toNat * 4294967296+V0.toNat
 den:Y.toNat=y.toNat * 2 ^ s
theorem qcr:∀(f x:Nat),x<2 ^ f->x<2 ^ Lib.bitLenAux f x/\(x≠0->1<=Lib.bitLenAux f x/\2 ^ (Lib.bitLenAux f x-1)<=x)
 | 0,x,h=>by simp at h;subst h;simp [Lib.bitLenAux]
 | f+1,x,h=>by
  unfold Lib.bitLenAux
  by_cases h0:x=0
  ·subst h0;simp
  ·rw [inZ h0]
   have h2:x / 2<2 ^ f:=by rw [Nat.pow_succ] at h;omega
   obtain ⟨a,b⟩:=qcr f (x / 2) h2;rw [Nat.add_comm,Nat.add_sub_cancel];refine ⟨by rw [Nat.pow_succ];omega,λ_=>⟨by omega,?_⟩⟩
   by_cases h1:x / 2=0
   ·rw [h1] at a
    have:Lib.bitLenAux f 0=0:=by cases f<;>simp [Lib.bitLenAux]
    rw [h1,this];simp;omega
   ·obtain ⟨b1,b2⟩:=b h1
    obtain ⟨m,hm⟩:∃m,Lib.bitLenAux f (x / 2)=m+1:=⟨_,(Nat.sub_add_cancel b1).symm⟩
    rw [hm,Nat.add_sub_cancel] at b2;rw [hm,Nat.pow_succ];omega
theorem qaS {y:Nat} (h0:1<=y) (h1:y<=18446744073709551615):Lib.bitLen y<=64/\1<=Lib.bitLen y/\9223372036854775808<=y*2 ^ (64-Lib.bitLen y)/\y*2 ^ (64-Lib.bitLen y)<=18446744073709551615:=by
 obtain ⟨a,b⟩:=qcr 64 y oZ;have b:=(b oZ).2
 change y<2 ^ Lib.bitLen y at a
 change 2 ^ (Lib.bitLen y-1)<=y at b
 have h2:Lib.bitLen y<=64:=by
  rcases Nat.lt_or_ge 64 (Lib.bitLen y) with h|h
  ·have:2 ^ 64<=2 ^ (Lib.bitLen y-1):=Nat.pow_le_pow_right oZ oZ
   omega
  ·exact h
 have h3:1<=Lib.bitLen y:=by
  rcases Nat.eq_zero_or_pos (Lib.bitLen y) with h|h
  ·rw [h] at a;simp at a;omega
  ·exact h
 generalize Lib.bitLen y=m at *;have e1:2 ^ (m-1)*2 ^ (64-m)=9223372036854775808:=by rw [←Nat.pow_add,show m-1+(64-m)=63 by omega]
 have e2:2 ^ m*2 ^ (64-m)=18446744073709551616:=by rw [←Nat.pow_add,show m+(64-m)=64 by omega]
 have c1:2 ^ (m-1)*2 ^ (64-m)<=y*2 ^ (64-m):=mlZ _ b;have c2:y*2 ^ (64-m)<2 ^ m*2 ^ (64-m):=Nat.mul_lt_mul_of_pos_right a (Nat.two_pow_pos _);rw [e1] at c1;rw [e2] at c2;exact ⟨h2,h3,c1,by omega⟩
theorem qgi (a:Nat):IntKind.u64.wrap (a:Int)=((a % 18446744073709551616:Nat):Int):=by rw [IntKind.wrap_u64];omega
theorem qgj (a:Nat) (ha:a<18446744073709551616):bits .and .u64 (a:Int) 4294967295=((a % 4294967296:Nat):Int):=by
 have h:=qeX a;rw [Nat.mod_eq_of_lt ha] at h;exact h
theorem qeY (n:Nat):(2:Int) ^ n=((2 ^ n:Nat):Int):=by simp
theorem norm_end {h l d k:Nat} {A B U V1 V0:Int} {yy uu ll:Nat} (w2:uu<yy) (w3:(h*18446744073709551616+l)*2 ^ k=uu*18446744073709551616+ll) (hl:ll<18446744073709551616) (m2:9223372036854775808<=yy) (m3:yy<=18446744073709551615)
  (hA:(yy:Int) / 4294967296=A) (hB:((yy % 4294967296:Nat):Int)=B) (hU:((uu:Nat):Int)=U) (hV1:(ll:Int) / 4294967296=V1) (hV0:((ll % 4294967296:Nat):Int)=V0) (hd:yy=d*2 ^ k):
  Norm h l d k yy A B U V1 V0:=by
 subst hA hB hU hV1 hV0;refine ⟨by omega,by omega,by omega,by omega,by omega,by omega,by omega,by omega,by omega,by omega,by omega,by omega,by omega,?_,?_⟩
 ·simp only [tnZ]
  rw [w3];omega
 ·simpa using hd
theorem norm (hi lo y s:Int) (Y A B U L V1 V0:Int) (h0:0<=hi) (h1:hi<y) (h2:y<=18446744073709551615) (l0:0<=lo) (l1:lo<=18446744073709551615) (hs:s=64-(Lib.bitLen y.toNat:Int))
  (hY:IntKind.u64.wrap (y*2 ^ s.toNat)=Y) (hA:Y / 4294967296=A) (hB:bits .and .u64 Y 4294967295=B)
  (hU:bits .or .u64 (IntKind.u64.wrap (hi*2 ^ s.toNat)) (lo / 2 ^ (64-s).toNat)=U) (hL:IntKind.u64.wrap (lo*2 ^ s.toNat)=L) (hV1:L / 4294967296=V1) (hV0:bits .and .u64 L 4294967295=V0):
  Norm hi lo y s.toNat Y A B U V1 V0:=by
 obtain ⟨h,rfl⟩:=ezZ h0;obtain ⟨l,rfl⟩:=ezZ l0;obtain ⟨d,rfl⟩:=ezZ (show 0<=y by omega);obtain ⟨m0,m1,m2,m3⟩:=qaS (y:=d) oZ oZ;rw [tnZ] at hs;obtain ⟨k,hk⟩:∃k,k=64-Lib.bitLen d:=⟨_,rfl⟩
 have ha:s.toNat=k:=by omega
 have hd:(64-s).toNat=64-k:=by omega
 have hc:k<64:=by omega
 rw [←hk] at m2 m3;rw [ha] at hY hU hL;rw [hd] at hU;rw [ha];clear hs hk ha hd m0 m1;have hb:l<18446744073709551616:=by omega
 have he:h<d:=by omega
 have w1:=Kd.low_lt (lo:=l) hc hb;have w2:=Kd.high_lt (hi:=h) (lo:=l) (y:=d) hc hb he;have w3:=Kd.words (hi:=h) hc hb;simp only [qeY,←Int.natCast_mul,←Int.natCast_ediv] at hY hU hL;rw [qgi] at hY hU hL
 have hh:h*2 ^ k<18446744073709551616:=by
  generalize l / 2 ^ (64-k)=z at w2;generalize h*2 ^ k=z2 at *;generalize d*2 ^ k=z3 at *;omega
 rw [Nat.mod_eq_of_lt oZ] at hY;rw [Nat.mod_eq_of_lt hh,bits_or_u64_nat _ _ hh oZ,qeU _ _ k (2 ^ k) rfl w1] at hU;subst hY hL;rw [qgj _ oZ] at hB hV0;exact norm_end w2 w3 (Nat.mod_lt _ dZ) m2 m3 hA hB hU hV1 hV0 rfl
def DRel (U V Y A B:Int) (q r:Int):Prop:=0<=q/\q<=4294967297/\0<=r/\r<=4294967295/\Kd.Inv U.toNat V.toNat Y.toNat A.toNat B.toNat q.toNat r.toNat
structure DOk (U V Y A B:Int):Prop where
 y0:0<=Y
 a0:2147483648<=A
 a1:A<=4294967295
 b0:0<=B
 b1:B<=4294967295
 yab:Y.toNat=A.toNat * 4294967296+B.toNat
 u0:0<=U
 u1:U<Y
 v0:0<=V
 v1:V<=4294967295
def digit (U V Y:Int):Int:=(((U.toNat * 4294967296+V.toNat) / Y.toNat:Nat):Int)
def drest (U V Y:Int):Int:=(((U.toNat * 4294967296+V.toNat) % Y.toNat:Nat):Int)
section
variable {U V Y A B q r:Int}
theorem qcs (h:DOk U V Y A B):0<=U / A*A/\U / A*A<=U/\0<=U / A/\U / A<=4294967297/\DRel U V Y A B (U / A) (U-U / A*A):=by
 obtain ⟨y0,a0,a1,b0,b1,yab,u0,u1,v0,v1⟩:=h;obtain ⟨u,rfl⟩:=ezZ u0;obtain ⟨a,rfl⟩:=ezZ (show 0<=A by omega);have e:(u:Int) / (a:Int)=((u / a:Nat):Int):=by simp
 have e2:((u / a:Nat):Int)*(a:Int)=((u / a*a:Nat):Int):=by simp
 have h0:=Nat.div_mul_le_self u a;have hi:=Kd.Inv.start (u:=u) (v:=V.toNat) (y:=Y.toNat) (a:=a) (b:=B.toNat) oZ (by simpa using yab) oZ oZ oZ;have h1:=hi.le;have h2:=Nat.mod_lt u (show 0<a by omega);have h3:=Nat.div_add_mod u a;rw [Nat.mul_comm] at h3;rw [e,e2];unfold DRel;have e3:((u:Int)-((u / a*a:Nat):Int)).toNat=u-u / a*a:=by omega
 rw [e3];simp only [tnZ];generalize u / a*a=x at *;generalize u / a=z at *;exact ⟨by omega,by omega,by omega,by omega,by omega,by omega,by omega,by omega,hi⟩
theorem qcY (hq:0<=q) (hq1:q<=4294967295) (hB:0<=B) (hB1:B<=4294967295):0<=q*B/\q*B<=18446744065119617025:=by
 refine ⟨Int.mul_nonneg hq hB,?_⟩;have:=Int.mul_le_mul hq1 hB1 hB oZ;omega
theorem qgk (hr0:0<=r) (hq0:0<=q) (hv0:0<=V) (hB:0<=B):Kd.more q.toNat r.toNat B.toNat V.toNat=(decide (4294967296<=q) || decide (4294967296*r+V<q*B)):=by
 obtain ⟨q,rfl⟩:=ezZ hq0;obtain ⟨r,rfl⟩:=ezZ hr0;obtain ⟨V,rfl⟩:=ezZ hv0;obtain ⟨B,rfl⟩:=ezZ hB;have e2:(q:Int)*(B:Int)=((q*B:Nat):Int):=by simp
 unfold Kd.more;rw [e2];simp only [tnZ];rw [Bool.eq_iff_iff];simp only [Bool.or_eq_true,decide_eq_true_eq];omega
theorem qbn (h:DOk U V Y A B) (hd:DRel U V Y A B q r) (hm:(decide (4294967296<=q) || decide (4294967296*r+V<q*B))=true):
  1<=q/\(r+A<4294967296->DRel U V Y A B (q-1) (r+A))/\(4294967296<=r+A->q-1=digit U V Y):=by
 obtain ⟨y0,a0,a1,b0,b1,yab,u0,u1,v0,v1⟩:=h;obtain ⟨d0,d1,d2,d3,d4⟩:=hd;rw [←qgk d2 d0 v0 b0] at hm;obtain ⟨k1,k2,k3⟩:=d4.next yab oZ oZ hm;have e1:(q-1).toNat=q.toNat-1:=by omega
 have e2:(r+A).toNat=r.toNat+A.toNat:=by omega
 refine ⟨by omega,λhr=>⟨by omega,by omega,by omega,by omega,by rw [e1,e2];exact k3⟩,λhr=>?_⟩;have:=k3.brk yab oZ oZ oZ oZ;unfold digit;omega
theorem qcZ (h:DOk U V Y A B) (hd:DRel U V Y A B q r) (hm:(decide (4294967296<=q) || decide (4294967296*r+V<q*B))=false):q=digit U V Y:=by
 obtain ⟨y0,a0,a1,b0,b1,yab,u0,u1,v0,v1⟩:=h;obtain ⟨d0,d1,d2,d3,d4⟩:=hd;rw [←qgk d2 d0 v0 b0] at hm;have:=d4.done yab oZ hm;unfold digit;omega
theorem qdm (h:DOk U V Y A B):0<=digit U V Y/\digit U V Y<=4294967295/\0<=drest U V Y/\drest U V Y<Y:=by
 obtain ⟨y0,a0,a1,b0,b1,yab,u0,u1,v0,v1⟩:=h;have h1:=Kd.digit_lt (u:=U.toNat) (v:=V.toNat) (y:=Y.toNat) oZ oZ;have h2:=Nat.mod_lt (U.toNat * 4294967296+V.toNat) (show 0<Y.toNat by omega);unfold digit drest;generalize (U.toNat * 4294967296+V.toNat) / Y.toNat=x at *;generalize (U.toNat * 4294967296+V.toNat) % Y.toNat=z at *;omega
theorem qd0 (h:DOk U V Y A B):IntKind.u64.wrap (IntKind.u64.wrap (IntKind.u64.wrap (U*4294967296)+V)-IntKind.u64.wrap (digit U V Y*Y))=drest U V Y:=by
 have hb:=qdm h;obtain ⟨y0,a0,a1,b0,b1,yab,u0,u1,v0,v1⟩:=h;have h1:=Nat.div_add_mod (U.toNat * 4294967296+V.toNat) Y.toNat
 have e:digit U V Y*Y=((Y.toNat * ((U.toNat * 4294967296+V.toNat) / Y.toNat):Nat):Int):=by
  unfold digit;rw [Int.natCast_mul,Int.mul_comm,Int.toNat_of_nonneg y0]
 rw [e];unfold drest at *;generalize (U.toNat * 4294967296+V.toNat) % Y.toNat=z at *;generalize Y.toNat * ((U.toNat * 4294967296+V.toNat) / Y.toNat)=x at *;simp only [IntKind.wrap_u64];omega
end
theorem nat_two {m q1 q0:Nat} (h:m=q1*4294967296+q0):(q1:Int)*4294967296+(q0:Int)=(m:Int):=by omega
theorem qey {m r s:Nat} (h:r / 2 ^ s=m):(r:Int) / 2 ^ s=(m:Int):=by rw [←h,qeY];exact (Int.natCast_ediv _ _).symm
theorem div_nat {n y s Y u v1 v0:Nat} (h1:n*2 ^ s=u*18446744073709551616+v1*4294967296+v0) (h2:Y=y*2 ^ s) (hY:0<Y):
  n / y=(u*4294967296+v1) / Y*4294967296+((u*4294967296+v1) % Y*4294967296+v0) / Y/\((u*4294967296+v1) % Y*4294967296+v0) % Y / 2 ^ s=n % y:=by
 obtain ⟨a,b⟩:=Kd.shifted n y s;obtain ⟨c,d⟩:=Kd.two (u:=u) (v1:=v1) (v0:=v0) hY;rw [←h1] at c d;rw [←h2] at a b;exact ⟨a.symm.trans c,by rw [←d];exact b⟩
theorem div_end {hi lo y:Int} {s:Nat} {Y A B U V1 V0:Int} (n:Norm hi lo y s Y A B U V1 V0):
  digit U V1 Y*4294967296+digit (drest U V1 Y) V0 Y=(((hi.toNat * 18446744073709551616+lo.toNat) / y.toNat:Nat):Int)/\drest (drest U V1 Y) V0 Y / 2 ^ s=(((hi.toNat * 18446744073709551616+lo.toNat) % y.toNat:Nat):Int):=by
 have hY:0<Y.toNat:=by have:=n.u0;have:=n.u1;omega
 obtain ⟨a,b⟩:=div_nat n.num n.den hY;have e:(drest U V1 Y).toNat=(U.toNat * 4294967296+V1.toNat) % Y.toNat:=tnZ _;rw [←e] at a b;exact ⟨nat_two a,qey b⟩
theorem qez {a b a' b':Int} (h1:a=a') (h2:b=b'):Ending.returned (.tuple #[.int .u64 a,.int .u64 b])=.returned (.tuple #[.int .u64 a',.int .u64 b']):=by rw [h1,h2]
theorem qfr (lo y:Int) (w:Zp1) (y1:1<=y) (h2:y<=18446744073709551615) (l0:0<=lo) (l1:lo<=18446744073709551615):
  Calls Tryz.prog 137 #[.int .u64 0,.int .u64 lo,.int .u64 y] w λe w'=>e=.returned (.tuple #[.int .u64 (lo / y),.int .u64 (lo % y)])/\∃n,w'=w.drewN n:=by
 have h1:0<y:=by omega
 go_enter Tryz.func137,Tryz.ntmps137;go_wp2_with fail
 go_quiet (fail)
 go_wp2_with fail
 go_ret2
 exact ⟨qez rfl rfl,nq,rfl⟩
theorem qgl (hi lo y q z:Int) (w:Zp1) (h0:0<=hi) (hp:1<=hi) (h1:hi<y) (h2:y<=18446744073709551615) (l0:0<=lo) (l1:lo<=18446744073709551615)
  (hq:(((hi.toNat * 18446744073709551616+lo.toNat) / y.toNat:Nat):Int)=q) (hz:(((hi.toNat * 18446744073709551616+lo.toNat) % y.toNat:Nat):Int)=z):
  Calls Tryz.prog 137 #[.int .u64 hi,.int .u64 lo,.int .u64 y] w λe w'=>e=.returned (.tuple #[.int .u64 q,.int .u64 z])/\w=w':=by
 have y1:1<=y:=by omega
 obtain ⟨HQ,HZ⟩:=zd2 hq hz;clear hq hz;have d1:(hi==0)=false:=by simp;omega
 go_enter Tryz.func137,Tryz.ntmps137;go_wp2_with fail;refine (Tryz.bits_LeadingZeros64 y _ oZ oZ).mono ?_;rintro e w1 ⟨rfl,hl⟩;subst hl;obtain ⟨s,hs⟩:∃s:Int,s=64-(Lib.bitLen y.toNat:Int):=⟨_,rfl⟩
 rw [←hs];obtain ⟨m0,m1,_,_⟩:=qaS (y:=y.toNat) oZ oZ;have s0:0<=s:=by omega
 have s1:s<=63:=by omega
 have HS:=zI hs;clear hs m0 m1;go_upto_region 15 with fail;generalize hY:IntKind.u64.wrap (y*2 ^ s.toNat)=Y;generalize hA:Y / 4294967296=A;generalize hB:bits .and .u64 Y 4294967295=B;generalize hU:bits .or .u64 (IntKind.u64.wrap (hi*2 ^ s.toNat)) (lo / 2 ^ (64-s).toNat)=U;generalize hL:IntKind.u64.wrap (lo*2 ^ s.toNat)=L;generalize hV1:L / 4294967296=V1;generalize hV0:bits .and .u64 L 4294967295=V0;have N:=zI (norm hi lo y s Y A B U L V1 V0 h0 h1 h2 l0 l1 HS.out hY hA hB hU hL hV1 hV0);generalize IntKind.u64.wrap (hi*2 ^ s.toNat)=junk1;generalize lo / 2 ^ (64-s).toNat=junk2;clear hY hA hB hU hL hV1 hV0;obtain ⟨n1,n2,n3,n4,n5,n6,n14,n7,n8,n9,n10,n11,n12,n15,n16⟩:=N.out;have hh:DOk U V1 Y A B:=⟨n1,n3,n4,n5,n6,by omega,n7,n8,n9,n10⟩
 have n13:U<=18446744073709551614:=by omega
 have hf:=zI hh;obtain ⟨g1,g2,g3,g4,g5⟩:=qcs hh;obtain ⟨g6,g7,g8,g9⟩:=qdm hh;obtain ⟨hg,H0⟩:=zd2 g5 h0;clear n14 n15 n16 hh g5;have t1:0<=U-U / A*A:=by omega
 go_upto_block 0 with fail
 go_cut [15] (λq wx=>w1=wx/\q=.int .u64 (digit U V1 Y))
 case first=>
  go_wp2_with fail
  go_loop [15,16] (λqv rv=>∃q r:Int,qv=.int .u64 q/\rv=.int .u64 r/\DRel U V1 Y A B q r) (λqv _=>(intOf qv).toNat)
  case atStart=>exact ⟨_,_,rfl,rfl,hg.out⟩
  case round=>
   obtain ⟨q,r,rfl,rfl,hd⟩:=hrel;obtain ⟨d0,d1,d2,d3,_⟩:=id hd;have HD:=zI hd;clear hd g1 g2 g3 g4 g6 g7 g8 g9
   by_cases hq:4294967296<=q
   ·have hm:(decide (4294967296<=q) || decide (4294967296*r+V1<q*B))=true:=by simp [hq]
    obtain ⟨k1,k2,k3⟩:=qbn hf.out HD.out hm;obtain ⟨K2,K3⟩:=zd2 k2 k3;clear hm k2 k3
    by_cases hr:r+A<4294967296
    ·go_wp2_with fail
     go_round
     case rel=>exact ⟨q-1,r+A,rfl,rfl,K2.out hr⟩
     case measure=>simp [intOf];omega
    ·have hb:4294967296<=r+A:=by omega
     go_wp2_with fail
     go_meet
     exact ⟨rfl,by rw [K3.out hb]⟩
   ·have hj:q<=4294967295:=by omega
    obtain ⟨p0,p1⟩:=qcY d0 hj n5 n6
    by_cases hc:4294967296*r+V1<q*B
    ·have hm:(decide (4294967296<=q) || decide (4294967296*r+V1<q*B))=true:=by simp [hc]
     obtain ⟨k1,k2,k3⟩:=qbn hf.out HD.out hm;obtain ⟨K2,K3⟩:=zd2 k2 k3;clear hm k2 k3
     by_cases hr:r+A<4294967296
     ·go_wp2_with fail
      go_round
      case rel=>exact ⟨q-1,r+A,rfl,rfl,K2.out hr⟩
      case measure=>simp [intOf];omega
     ·have hb:4294967296<=r+A:=by omega
      go_wp2_with fail
      go_meet
      exact ⟨rfl,by rw [K3.out hb]⟩
    ·have hm:(decide (4294967296<=q) || decide (4294967296*r+V1<q*B))=false:=by simp [hc];omega
     have K3:=zI (qcZ hf.out HD.out hm);clear hm;go_wp2_with fail
     go_meet
     exact ⟨rfl,by rw [←K3.out]⟩
 case rest=>
  obtain ⟨rfl,rfl⟩:=hcut;clear g1 g2 g3 g4 t1 hg;have HR:=zI (qd0 hf.out);obtain ⟨e1,e2⟩:=div_end N.out;rw [HQ.out] at e1;rw [HZ.out] at e2;obtain ⟨E1,E2⟩:=zd2 e1 e2
  have ha:DOk (drest U V1 Y) V0 Y A B:=by
   obtain ⟨a0,a1,a2,a3,a4,a5,a6,a7,a8,a9⟩:=hf.out;exact ⟨a0,a1,a2,a3,a4,a5,g8,g9,n11,n12⟩
  have hk:=zI (qd0 ha);obtain ⟨p1,p2,p3,p4,p5⟩:=qcs ha;obtain ⟨p6,p7,p8,p9⟩:=qdm ha;obtain ⟨hg,he⟩:=zd2 p5 ha;clear e1 e2 ha p5 N hf n7 n8 n13 H0;generalize digit U V1 Y=Q1 at *;go_upto_region 22 with fail;rw [HR.out];generalize drest U V1 Y=R at *;generalize IntKind.u64.wrap (Q1*Y)=junk3;generalize IntKind.u64.wrap (U*4294967296)=junk4;generalize IntKind.u64.wrap (junk4+V1)=junk5;have t1:0<=R-R / A*A:=by omega
  have t2:R<=18446744073709551614:=by omega
  go_upto_block 2 with fail
  go_cut [18] (λq wx=>w1=wx/\q=.int .u64 (digit R V0 Y))
  case first=>
   go_wp2_with fail
   go_loop [18,16] (λqv rv=>∃q r:Int,qv=.int .u64 q/\rv=.int .u64 r/\DRel R V0 Y A B q r) (λqv _=>(intOf qv).toNat)
   case atStart=>exact ⟨_,_,rfl,rfl,hg.out⟩
   case round=>
    obtain ⟨q,r,rfl,rfl,hd⟩:=hrel;obtain ⟨d0,d1,d2,d3,_⟩:=id hd;have HD:=zI hd;clear hd p1 p2 p3 p4 p6 p7 p8 p9
    by_cases hq:4294967296<=q
    ·have hm:(decide (4294967296<=q) || decide (4294967296*r+V0<q*B))=true:=by simp [hq]
     obtain ⟨k1,k2,k3⟩:=qbn he.out HD.out hm;obtain ⟨K2,K3⟩:=zd2 k2 k3;clear hm k2 k3
     by_cases hr:r+A<4294967296
     ·go_wp2_with fail
      go_round
      case rel=>exact ⟨q-1,r+A,rfl,rfl,K2.out hr⟩
      case measure=>simp [intOf];omega
     ·have hb:4294967296<=r+A:=by omega
      go_wp2_with fail
      go_meet
      exact ⟨rfl,by rw [K3.out hb]⟩
    ·have hj:q<=4294967295:=by omega
     obtain ⟨z0,z1⟩:=qcY d0 hj n5 n6
     by_cases hc:4294967296*r+V0<q*B
     ·have hm:(decide (4294967296<=q) || decide (4294967296*r+V0<q*B))=true:=by simp [hc]
      obtain ⟨k1,k2,k3⟩:=qbn he.out HD.out hm;obtain ⟨K2,K3⟩:=zd2 k2 k3;clear hm k2 k3
      by_cases hr:r+A<4294967296
      ·go_wp2_with fail
       go_round
       case rel=>exact ⟨q-1,r+A,rfl,rfl,K2.out hr⟩
       case measure=>simp [intOf];omega
      ·have hb:4294967296<=r+A:=by omega
       go_wp2_with fail
       go_meet
       exact ⟨rfl,by rw [K3.out hb]⟩
     ·have hm:(decide (4294967296<=q) || decide (4294967296*r+V0<q*B))=false:=by simp [hc];omega
      have K3:=zI (qcZ he.out HD.out hm);clear hm;go_wp2_with fail
      go_meet
      exact ⟨rfl,by rw [←K3.out]⟩
  case rest=>
   obtain ⟨rfl,rfl⟩:=hcut;clear p1 p2 p3 p4 t1 hg;generalize digit R V0 Y=Q0 at *;go_wp2_with fail;rw [hk.out]
   go_ret2
   exact ⟨qez E1.out E2.out,rfl⟩
theorem div64 (hi lo y q z:Int) (w:Zp1) (h0:0<=hi) (h1:hi<y) (h2:y<=18446744073709551615) (l0:0<=lo) (l1:lo<=18446744073709551615)
  (hq:(((hi.toNat * 18446744073709551616+lo.toNat) / y.toNat:Nat):Int)=q) (hz:(((hi.toNat * 18446744073709551616+lo.toNat) % y.toNat:Nat):Int)=z):
  Calls Tryz.prog 137 #[.int .u64 hi,.int .u64 lo,.int .u64 y] w λe w'=>e=.returned (.tuple #[.int .u64 q,.int .u64 z])/\∃n,w'=w.drewN n:=by
 by_cases hp:hi=0
 ·subst hp
  rw [Int.toNat_zero,Nat.zero_mul,Zw] at hq hz;rw [Int.natCast_ediv,Int.toNat_of_nonneg l0,Int.toNat_of_nonneg (show 0<=y by omega)] at hq;rw [Int.natCast_emod,Int.toNat_of_nonneg l0,Int.toNat_of_nonneg (show 0<=y by omega)] at hz;refine (qfr lo y w oZ h2 l0 l1).mono ?_;rintro e w' ⟨rfl,h⟩;exact ⟨qez hq hz,h⟩
 ·refine (qgl hi lo y q z w h0 oZ h1 h2 l0 l1 hq hz).mono ?_
  rintro e w' ⟨rfl,rfl⟩;exact ⟨rfl,0,rfl⟩
theorem div_over {a b:Nat} (hb:1<=b) (h:b<=a / 4294967296):9223372036854775808<=Fx.rnd (a*4294967296) b:=by
 have h1:9223372036854775808<=a*4294967296 / b:=by
  rw [Nat.le_div_iff_mul_le oZ];omega
 unfold Fx.rnd
 split<;>omega
theorem rnd_ge {p b:Nat} (h:9223372036854775808<=p / b):9223372036854775808<=Fx.rnd p b:=by
 unfold Fx.rnd
 split<;>omega
theorem qgm (x y:Int) (w:Zp1) (hx:Fx.In x) (hy:Fx.In y):Calls Tryz.prog 95 #[nQ iQ x,nQ iQ y] w λe w'=>e=.returned (nQ iQ (Fx.div x y))/\∃n,w'=w.drewN n:=by
 by_cases hd:y=0
 ·subst hd
  by_cases hc:x=0
  ·subst hc
   go_enter Tryz.func95,Tryz.ntmps95;go_wp2_with fail;go_ret;exact ⟨rfl,0,rfl⟩
  ·have d:(x==0)=false:=by simpa using hc
   have HE:=zI (show Fx.edge (decide (x<0))=Fx.div x 0 by unfold Fx.div;rw [ipZ rfl,inZ hc]);clear hc hx hy;go_enter Tryz.func95,Tryz.ntmps95;go_wp2_with fail;refine (qbm _ _).mono ?_;rintro e w1 ⟨rfl,rfl⟩;go_wp2_with fail;go_ret;exact ⟨qa3 HE.out,0,rfl⟩
 ·have d:(y==0)=false:=by simpa using hd
  have HD:=zI (show Fx.clamp (Fx.sgn (Fx.neg2 x y) (Fx.rnd (x.natAbs*4294967296) y.natAbs))=Fx.div x y by unfold Fx.div;rw [inZ hd]);have hg:1<=y.natAbs:=by omega
  have hk:=qaR hy;have hl:=qaR hx;obtain ⟨HX,HY,hh,hj,hf⟩:=zd5 hx hy hg hk hl;clear hx hy hd hg hk hl;go_enter Tryz.func95,Tryz.ntmps95;go_wp2_with fail;generalize hN:(!(decide (x<0)==decide (y<0)))=nb;rw [show Fx.neg2 x y=nb from hN] at HD;clear hN;refine (qce x _ HX.out).mono ?_;rintro e w1 ⟨rfl,rfl⟩;go_wp2_with fail;refine (qce y _ HY.out).mono ?_;rintro e w1 ⟨rfl,rfl⟩;obtain ⟨a,ha⟩:∃a:Int,a=(x.natAbs:Int):=⟨_,rfl⟩
  obtain ⟨b,hb⟩:∃b:Int,b=(y.natAbs:Int):=⟨_,rfl⟩
  have a0:0<=a:=by omega
  have b1:1<=b:=by have:=hh.out;omega
  have a2:a<=9223372036854775808:=by have:=hf.out;omega
  have b2:b<=9223372036854775808:=by have:=hj.out;omega
  have ea:x.natAbs=a.toNat:=by omega
  have eb:y.natAbs=b.toNat:=by omega
  rw [ea,eb] at HD;rw [←ha,←hb];clear ha hb ea eb hh hj hf;go_upto_region 8 with fail;generalize hhi:a / 4294967296=hi;generalize hlo:IntKind.u64.wrap (a*4294967296)=lo;have h0:0<=hi:=by omega
  have h1:hi<=2147483648:=by omega
  have l0:0<=lo:=by rw [IntKind.wrap_u64] at hlo;omega
  have l1:lo<=18446744073709551615:=by rw [IntKind.wrap_u64] at hlo;omega
  obtain ⟨HH,HL⟩:=zd2 hhi hlo;clear hhi hlo
  by_cases ho:b<=hi
  ·have HE:RowKit.Hid (Fx.edge nb=Fx.div x y):=by
    rw [←HD.out];have:=HH.out;exact (Fx.clamp_sgn_big (div_over oZ oZ)).symm
   go_wp2_with fail;refine (qbm _ _).mono ?_;rintro e w1 ⟨rfl,rfl⟩;go_wp2_with fail;go_ret;exact ⟨qa3 HE.out,0,rfl⟩
  ·have hm:hi<b:=by omega
   have hp:hi.toNat * 18446744073709551616+lo.toNat=a.toNat * 4294967296:=by
    have h5:=HH.out;have h6:=HL.out;rw [IntKind.wrap_u64] at h6;omega
   have HP:=zI hp;clear hp;obtain ⟨q,hq⟩:∃q:Int,q=((a.toNat * 4294967296 / b.toNat:Nat):Int):=⟨_,rfl⟩
   obtain ⟨z,hz⟩:∃z:Int,z=((a.toNat * 4294967296 % b.toNat:Nat):Int):=⟨_,rfl⟩
   have q0:0<=q:=by rw [hq];exact Int.natCast_nonneg _
   have q1:q<=18446744073709551615:=by
    have h3:a.toNat * 4294967296 / b.toNat<18446744073709551616:=by
     rw [Nat.div_lt_iff_lt_mul oZ];have:=HH.out;omega
    rw [hq];generalize a.toNat * 4294967296 / b.toNat=m at *;omega
   have z0:0<=z:=by rw [hz];exact Int.natCast_nonneg _
   have z1:z<b:=by
    have h3:=Nat.mod_lt (a.toNat * 4294967296) (show 0<b.toNat by omega);rw [hz];generalize a.toNat * 4294967296 % b.toNat=m at *;omega
   obtain ⟨HQ,HZ⟩:=zd2 hq hz;clear hq hz;have HA:RowKit.Hid (∀n:Int,n.toNat=Fx.rnd (a.toNat * 4294967296) b.toNat->Fx.clamp (Fx.sgn nb n.toNat)=Fx.div x y):=λn hn=>by rw [hn];exact HD.out
   have odd:bits .and .u64 q 1=q % 2:=by
    obtain ⟨n,rfl⟩:=ezZ q0;rw [qdk n oZ];omega
   go_wp2_with fail;refine (div64 hi lo b q z _ h0 hm oZ l0 l1 (by rw [HP.out];exact HQ.out.symm) (by rw [HP.out];exact HZ.out.symm)).mono ?_;rintro e w1 ⟨rfl,n,rfl⟩
   by_cases he:9223372036854775808<=q
   ·have HE:RowKit.Hid (Fx.edge nb=Fx.div x y):=by
     rw [←HD.out];have:=HQ.out;refine (Fx.clamp_sgn_big (rnd_ge ?_)).symm;generalize a.toNat * 4294967296 / b.toNat=m at *;omega
    go_wp2_with fail;refine (qbm _ _).mono ?_;rintro e w1 ⟨rfl,rfl⟩;go_wp2_with fail;go_ret;exact ⟨qa3 HE.out,n,rfl⟩
   ·have hs:q<=9223372036854775807:=by omega
    clear he q1
    have hr:Fx.rnd (a.toNat * 4294967296) b.toNat=if b.toNat<2*z.toNat∨(2*z.toNat=b.toNat/\q.toNat % 2=1) then q.toNat+1 else q.toNat:=by
     unfold Fx.rnd;rw [HQ.out,HZ.out,tnZ,tnZ]
    have HR:=zI hr;clear hr
    by_cases c1:b-z<z
    ·have hz:(q+1).toNat=Fx.rnd (a.toNat * 4294967296) b.toNat:=by rw [HR.out,ipZ oZ];omega
     have Hz:=zI hz;clear hz;go_wp2_with fail;refine (qaf (q+1) nb _ oZ oZ).mono ?_;rintro e w1 ⟨rfl,rfl⟩;go_wp2_with fail;go_ret;exact ⟨qa3 (HA.out _ Hz.out),n,rfl⟩
    ·by_cases c2:z=b-z
     ·have d2:(z==b-z)=true:=by simpa using c2
      have c3:2*z=b:=by omega
      by_cases c4:q % 2=1
      ·have d3:(q % 2==1)=true:=by simpa using c4
       have hz:(q+1).toNat=Fx.rnd (a.toNat * 4294967296) b.toNat:=by rw [HR.out,ipZ oZ];omega
       have Hz:=zI hz;clear hz c2 c3 c4;go_wp2_with fail;refine (qaf (q+1) nb _ oZ oZ).mono ?_;rintro e w1 ⟨rfl,rfl⟩;go_wp2_with fail;go_ret;exact ⟨qa3 (HA.out _ Hz.out),n,rfl⟩
      ·have d3:(q % 2==1)=false:=by simpa using c4
       have hz:q.toNat=Fx.rnd (a.toNat * 4294967296) b.toNat:=by rw [HR.out,inZ oZ]
       have Hz:=zI hz;clear hz c2 c3 c4;go_wp2_with fail;refine (qaf q nb _ oZ oZ).mono ?_;rintro e w1 ⟨rfl,rfl⟩;go_wp2_with fail;go_ret;exact ⟨qa3 (HA.out _ Hz.out),n,rfl⟩
     ·have d2:(z==b-z)=false:=by simpa using c2
      have hz:q.toNat=Fx.rnd (a.toNat * 4294967296) b.toNat:=by rw [HR.out,inZ oZ]
      have Hz:=zI hz;clear hz c2;go_wp2_with fail;refine (qaf q nb _ oZ oZ).mono ?_;rintro e w1 ⟨rfl,rfl⟩;go_wp2_with fail;go_ret;exact ⟨qa3 (HA.out _ Hz.out),n,rfl⟩
open Go.ChangeShapes Go.WideShapes Go.Deep Go.RowKit
section
variable {H:Type} {enc:TypeId × Value->H} {P:Program} {w:Zp1} {base:Nat} {spare:Nat->Bool} {held:Bool}
end
theorem qgn {w:Zp1} {a:Addr} {v:Value} (h:w.cell? (a.add 0)=some v):∃b off,a=⟨b,off,none⟩:=by
 obtain ⟨b,off,spot⟩:=a;have hs:spot=none:=by simpa [Addr.add] using World.cell?_spot h
 subst hs;exact ⟨b,off,rfl⟩
theorem qbX (b off j:Nat):(⟨b,off,none⟩:Addr).add j=⟨b,off+j,none⟩:=by
 unfold Addr.add;split<;>simp_all
section
variable {H:Type} {enc:TypeId × Value->H} {P:Program} {w:Zp1} {base:Nat} {spare:Nat->Bool} {held:Bool}
theorem qdW {t e:TypeId} {k:IntKind} {fuel:Nat} {v:Value} {x:DataW H × List MemPlace} (ht:P.underlying t=some (.slice e)) (he:P.underlying e=some (.int k)) (hc:P.cellsOf e=1) (h:DataW.trod enc P w base spare held fuel t [v]=some x):
  ∃A cap zs,v=sQ A zs.length cap/\zs.length<=9223372036854775807/\zs.length<=cap/\Ints k w A zs/\∀n∈zs,(Lit.int k n).wf=true:=by
 rcases open_ints ht he hc h with ⟨hb,_⟩|⟨a,len,cap,zs,hb,_,hl,hm,hz,_,ha,hg⟩
 ·simp at hb;subst hb
  exact ⟨none,0,[],rfl,by simp,by simp,Ints.nil,by simp⟩
 ·simp at hb;subst hb
  have hi:len<=zs.length:=by rw [hz];split<;>omega
  have hf:(zs.take len).length=len:=by rw [Zo];omega
  refine ⟨some a,cap,zs.take len,by rw [hf],by rw [hf];unfold maxLen at hm;omega,by omega,λj hj=>?_,λn hn=>hg n (Zh hn)⟩;have hh:j<len:=by omega
  obtain ⟨b,off,rfl⟩:=qgn (w:=w) (a:=a) (v:=.int k (zs.getD 0 0)) (ha 0 oZ);have hd:=ha j oZ;rw [qbX] at hd;refine ⟨b,off,rfl,Zj1 _ _ hd,?_⟩;rw [hd];have e:(zs.take len).getD j 0=zs.getD j 0:=by simp [gdZ,hh]
  rw [e]
end
theorem In_at {l:List Int} (h:∀z∈l,Fx.In z) {k:Nat} (hk:k<l.length):Fx.In l[k]:=h _ (gmZ hk)
theorem qeZ {l:List Int} {k:Nat} (hk:k<l.length):Fx.sum (l.take (k+1))=Fx.add (Fx.sum (l.take k)) l[k]:=by
 unfold Fx.sum;rw [Zb hk,List.foldl_append]
 rfl
theorem qf0 {a b:List Int} {k:Nat} (hk:k<a.length) (hk2:k<b.length):Fx.dot (a.take (k+1)) (b.take (k+1))=Fx.add (Fx.dot (a.take k) (b.take k)) (Fx.mul a[k] b[k]):=by
 unfold Fx.dot;rw [Zb hk,Zb hk2,List.zip_append soZ,List.foldl_append]
 rfl
theorem qbs {l:List Int} {k:Nat} (hk:k<l.length):l.getD k 0=l[k]:=by rw [gdZ,geZ hk];rfl
theorem fix_sum (A:Option Addr) (c:Nat) (xs:List Int) (w:Zp1) (hl:xs.length<=9223372036854775807) (hI:Ints iQ w A xs) (hin:∀z∈xs,Fx.In z):
  Calls Tryz.prog 114 #[sQ A xs.length c] w λe w'=>e=.returned (nQ iQ (Fx.sum xs))/\w=w':=by
 obtain ⟨hb,HI⟩:=zd2 hin hI;clear hI;clear hin;go_enter Tryz.func114,Tryz.ntmps114;go_wp2_with fail
 go_loop [3,8] (λs i=>∃k:Nat,k<=xs.length/\i=nQ iQ k/\s=nQ iQ (Fx.sum (xs.take k))) (λ_ i=>xs.length-(intOf i).toNat)
 case atStart=>exact ⟨0,Zt _,rfl,rfl⟩
 case round=>
  obtain ⟨k,hk,rfl,rfl⟩:=hrel
  by_cases ha:k<xs.length
  ·obtain ⟨b,off,rfl,-,hc⟩:=HI.out k ha
   rw [qbs ha] at hc;have hx:=In_at hb.out ha;have hs:=qeZ ha;have h0:=Fx.sum_in (xs.take k);generalize Fx.sum (xs.take k)=s at *;generalize xs[k]=x at *;obtain ⟨HS,HX,H0⟩:=zd3 hs hx h0;clear hs hx h0;go_wp2_with fail;refine (qb2 s x _ H0.out HX.out).mono ?_;rintro e w1 ⟨rfl,rfl⟩;go_wp2_with fail
   go_round
   case rel=>exact ⟨k+1,by omega,by go_num,by rw [HS.out]⟩
   case measure=>simp [intOf];omega
  ·obtain rfl:k=xs.length:=by omega
   rw [Zg];go_wp2_with fail;go_ret;exact ⟨rfl,rfl⟩
theorem fix_dot (A B:Option Addr) (c d:Nat) (a b:List Int) (w:Zp1) (hl:a.length<=1000000) (hn:b.length=a.length) (hI:Ints iQ w A a) (hJ:Ints iQ w B b) (ha:∀z∈a,Fx.In z) (hb:∀z∈b,Fx.In z):
  Calls Tryz.prog 113 #[sQ A a.length c,sQ B a.length d] w λe w'=>e=.returned (nQ iQ (Fx.dot a b))/\∃n,w'=w.drewN n:=by
 obtain ⟨HN,HI,HJ,Ha,Hb⟩:=zd5 hn hI hJ ha hb;clear hI hJ ha hb;clear hn;go_enter Tryz.func113,Tryz.ntmps113;go_wp2_with fail
 go_loopw [5,12] (λs i wr=>∃k n:Nat,k<=a.length/\i=nQ iQ k/\s=nQ iQ (Fx.dot (a.take k) (b.take k))/\wr=w.drewN n) (λ_ i _=>a.length-(intOf i).toNat)
 case atStart=>exact ⟨0,0,Zt _,rfl,rfl,rfl⟩
 case round=>
  obtain ⟨k,n,hk,rfl,rfl,hw⟩:=hrel;have hg:Ints iQ wr A a:=by rw [hw];exact HI.out.drewN n
  have hi:Ints iQ wr B b:=by rw [hw];exact HJ.out.drewN n
  obtain ⟨Hw,ho,hq⟩:=zd3 hw hg hi;clear hw hg hi
  by_cases he:k<a.length
  ·have hd:k<b.length:=by have:=HN.out;omega
   obtain ⟨ba,oa,rfl,-,hc⟩:=ho.out k he;obtain ⟨bb,ob,rfl,-,hp⟩:=hq.out k hd;rw [qbs he] at hc;rw [qbs hd] at hp;have hx:=In_at Ha.out he;have hy:=In_at Hb.out hd;have hs:=qf0 he hd;have h0:=Fx.dot_in (a.take k) (b.take k);generalize Fx.dot (a.take k) (b.take k)=s at *;generalize a[k]=x at *;generalize b[k]=y at *;have hh:=λn=>qaN x y (wr.drewN n) hx hy
   have hf:=λn=>qb2 s (Fx.mul x y) (wr.drewN n) h0 (Fx.mul_in x y)
   have HS:=zI hs;clear hs hx hy h0 hd;obtain ⟨hj,hm⟩:=zd2 hh hf;clear hh hf;have k1:(k:Int)<(a.length:Int):=by omega
   have k2:(0:Int)<=(k:Int):=by omega
   go_wp2_with fail
   go_quiet (first|(go_at_call 88;exact qaA (hj.out _))|(go_at_call 89;exact qaA (hm.out _)))
   go_wp2_with fail;go_roundw
   case rel=>exact ⟨k+1,n+nq,by omega,by go_num,by rw [HS.out],by rw [Hw.out,World.drewN_drewN]⟩
   case measure=>simp [intOf];omega
  ·obtain rfl:k=a.length:=by omega
   have e:a.length=b.length:=HN.out.symm;rw [Zg,show b.take a.length=b by rw [e,Zg]];clear e;go_wp2_with fail;go_ret;exact ⟨rfl,n,Hw.out⟩
theorem qdX (x l h:Int) (w:Zp1):Calls Tryz.prog 146 #[nQ iQ x,nQ iQ l,nQ iQ h] w λe w'=>e=.returned (nQ iQ (Fx.held x l h))/\w=w':=by
 by_cases h1:h<x
 ·have E:=zI (show h=Fx.held x l h by unfold Fx.held;rw [ipZ h1])
  go_enter Tryz.func146,Tryz.ntmps146;go_wp2_with fail;go_ret;exact ⟨qa3 E.out,rfl⟩
 ·by_cases h2:x<l
  ·have E:=zI (show l=Fx.held x l h by unfold Fx.held;rw [inZ h1,ipZ h2])
   go_enter Tryz.func146,Tryz.ntmps146;go_wp2_with fail;go_ret;exact ⟨qa3 E.out,rfl⟩
  ·have E:=zI (show x=Fx.held x l h by unfold Fx.held;rw [inZ h1,inZ h2])
   go_enter Tryz.func146,Tryz.ntmps146;go_wp2_with fail;go_ret;exact ⟨qa3 E.out,rfl⟩
theorem qb3 (w:Zp1):Calls Tryz.prog 140 #[nQ iQ 4294967296] w λe w'=>e=.returned (nQ iQ (-4294967296))/\w=w':=by
 go_enter Tryz.func140,Tryz.ntmps140;go_wp2_with fail;go_ret;exact ⟨rfl,rfl⟩
theorem qbY (n:Int) (w:Zp1) (h0:0<=n) (h1:n<2147483648):Calls Tryz.prog 16 #[nQ iQ n] w λe w'=>e=.returned (nQ iQ (n*4294967296))/\w=w':=by
 go_enter Tryz.func16,Tryz.ntmps16;go_wp2_with fail;go_ret;exact ⟨rfl,rfl⟩
structure Ten where
 s:List Int
 c:List Int
namespace Tn
def right (t:Ten):Bool:=Sh.right t.s&&decide ((t.c.length:Int)=Safe.prod t.s)
theorem right_false {t:Ten} (h:Sh.right t.s=false):right t=false:=by simp [right,h]
theorem right_true {t:Ten} (h:Sh.right t.s=true):right t=decide ((t.c.length:Int)=Safe.prod t.s):=by simp [right,h]
end Tn
def TenR (w:Zp1) (S C:Option Addr) (t:Ten):Prop:=Ints iQ w S t.s/\Ints iQ w C t.c
def TenN (B:Nat) (w:Zp1) (v:Value) (t:Ten):Prop:=
 ∃g h,v=.agg #[sQ (some ⟨g,0,none⟩) t.s.length t.s.length,sQ (some ⟨h,0,none⟩) t.c.length t.c.length]/\B<=g/\B<=h/\
  Blk w g 3 (t.s.map (Za1 iQ)).toArray/\Blk w h 42 (t.c.map (Za1 iQ)).toArray
theorem Blk.ints {w:Zp1} {g:Nat} {t:TypeId} {k:IntKind} {zs:List Int} (h:Blk w g t (zs.map (Za1 k)).toArray):Ints k w (some ⟨g,0,none⟩) zs:=Ints.of_row λj hj=>by
 rw [Zw,h.cell j];simp [hj]
theorem qa5 (S C:Option Addr) (c d:Nat) (t:Ten) (w:Zp1) (hl:t.s.length<=9223372036854775807) (hl':t.c.length<=9223372036854775807) (hI:Ints iQ w S t.s):
  Calls Tryz.prog 36 #[.agg #[sQ S t.s.length c,sQ C t.c.length d]] w λe w'=>e=.returned (.bool (Tn.right t))/\Below w.heap.size w w':=by
 have HI:=zI (hI.alloc (.cells #[sQ S t.s.length c,sQ C t.c.length d] 30));clear hI;have ha:Below w.heap.size w (w.alloc (.cells #[sQ S t.s.length c,sQ C t.c.length d] 30)):=(Ze1 _ _).alloc (lrZ _) _;go_enter Tryz.func36,Tryz.ntmps36;go_wp2_with fail;refine (qag S c t.s _ oZ HI.out).mono ?_;rintro e w1 ⟨rfl,h1⟩;have hz:=h1.size;rw [Zh1] at h1 hz;have hc:w1.cell? ⟨w.heap.size,1,none⟩=some (sQ C t.c.length d):=by rw [h1.cell (p:=⟨w.heap.size,1,none⟩) (Nat.lt_succ_self _)];simp
 have hb:=ha.trans (h1.mono (Zy _));clear h1 ha HI;cases hr:Sh.right t.s
 ·have HS:=zI (show Sh.size t.s=(0,20) by simp [Sh.size,hr])
  have HR:=zI (Tn.right_false hr);clear hr;rw [HS.out];go_wp2_with fail;go_ret;exact ⟨by rw [HR.out];rfl,hb⟩
 ·have HS:=zI (show Sh.size t.s=(Safe.prod t.s,0) by simp [Sh.size,hr])
  have HR:=zI (Tn.right_true hr);clear hr;rw [HS.out];go_wp2_with fail;go_ret;refine ⟨?_,hb⟩;rw [HR.out]
  by_cases he:(t.c.length:Int)=Safe.prod t.s
  ·simp [he]
  ·simp [he]
def TenPost (t:Ten) (w:Zp1) (e:Ending) (w':Zp1):Prop:=∃v,e=.returned v/\TenN w.heap.size w' v t/\Below w.heap.size w w'
theorem qab (S C:Option Addr) (c d:Nat) (t:Ten) (w:Zp1) (hl:t.s.length<=1000000) (hl':t.c.length<=1000000) (hT:TenR w S C t):
  Calls Tryz.prog 37 #[.agg #[sQ S t.s.length c,sQ C t.c.length d]] w (TenPost t w):=by
 obtain ⟨i0,hi,hE,hA,hB⟩:=info_parts qeO;obtain ⟨hI,hC⟩:=hT;obtain ⟨HI,HC⟩:=zd2 hI hC;clear hI hC;go_enter Tryz.func37,Tryz.ntmps37;go_wp2_with (at_make;refine wpList_make_full _ rfl _ _ 28 rfl w.heap.size 42 i0 (nQ iQ 0) 1 Tryz.underlying28 hi hE hA _ _ _ _ t.c.length rfl rfl (by first|rfl|simp) (by first|rfl|simp) ?b2 ?b3 ?b4 ?_)
 case b2=>rw [hB];omega
 case b3=>unfold maxLen;omega
 case b4=>simp;omega
 intro w1 hown hgrow;have hf:=qau hown;have hc:=hown.1;generalize hw0:(w.alloc (.cells #[sQ S t.s.length c,sQ C t.c.length d] 30)).alloc (.cells #[sQ none 0 0,sQ none 0 0] 30)=w0 at hgrow;have hF:w0.heap.size=w.heap.size+2:=by subst hw0;simp
 have ht:Below w.heap.size w w0:=by subst hw0;exact ((Ze1 _ _).alloc (lrZ _) _).alloc sZ _
 have hz:Blk w0 w.heap.size 30 #[sQ S t.s.length c,sQ C t.c.length d]:=by subst hw0;exact (Blk.new w _ _).alloc _
 have hx:Blk w0 (w.heap.size+1) 30 #[sQ none 0 0,sQ none 0 0]:=by subst hw0;have:=Blk.new (w.alloc (.cells #[sQ S t.s.length c,sQ C t.c.length d] 30)) 30 #[sQ none 0 0,sQ none 0 0];rwa [Zh1] at this
 clear hw0;have hb:=hz.grown hgrow sZ;have hk:=hx.grown hgrow sZ;have hn:Below w.heap.size w w1:=ht.grown hgrow oZ sZ;have hG:=hgrow.size;have ho:=zI (HC.out.below hn (lrZ _));have c0:=hb.cell 0;have c1:=hb.cell 1;simp at c0 c1;generalize (madeCells #[Za1 iQ 0] t.c.length).toList=cur at *;clear hown hgrow HC hz hx ht;go_wp2_with (with_reducible refine wpList_copy_splice rfl (.tmp 8) (.tmp 10) 28 28 rfl 42 Tryz.underlying28 ?d1 (some ⟨w.heap.size+1+1,0,none⟩) C t.c.length t.c.length t.c.length d rfl rfl (w.heap.size+1+1) 0 cur 42 hf (t.c.map (Za1 iQ)) ?d2 ?d3 ?d4 ?d5 (w.heap.size+2) w1 (Ze1 _ _) (lrZ _) ?_)
 case d1=>kernel_rfl
 case d2=>simp
 case d3=>intro hp;exact ho.out.src' (by simpa using hp)
 case d4=>simp at hc ⊢;omega
 case d5=>intro v hv;obtain ⟨x,_,rfl⟩:=List.mem_map.1 hv;rfl
 intro w2 hr hj;have hs:=qbS (cur:=cur) (cs:=t.c.map (Za1 iQ)) (by simp at hc ⊢;omega);have HF:=zI (show Blk w2 (w.heap.size+1+1) 42 (t.c.map (Za1 iQ)).toArray by rw [←hs];exact hr.out);have hh:=hb.below hj oZ;have hd:=hk.below hj oZ;have hm:=hn.trans (hj.mono oZ);have hH:=hj.size;have hy:=zI (HI.out.below hm (lrZ _));clear hr hn hc hs hf c0 c1 hb hk ho HI hj;have c0:=hh.cell 0;simp at c0;go_wp2_with fail;refine (qah S c t.s _ oZ hy.out).mono ?_;rintro e w3 ⟨g,rfl,hg,hu,h3⟩;have ha:=hd.below h3 hd.lt;have hw:=HF.out.below h3 HF.out.lt;have hq:Blk w3 g 3 (t.s.map (Za1 iQ)).toArray:=hu;have c1:=ha.cell 0;have c2:=ha.cell 1;have f1:=ha.frozen 0;have f2:=ha.frozen 1;simp at c1 c2;have hD:=hm.trans (h3.mono hm.size);obtain ⟨HK,HF,HG⟩:=zd3 ha hw hq;have he:w.heap.size+1≠g:=by have:=hm.size;omega
 clear hh hd hm c0 h3 hu hy ha hw hq;go_wp2_with fail;refine Zk1 (v:=.agg #[sQ (some ⟨g,0,none⟩) t.s.length t.s.length,sQ (some ⟨w.heap.size+1+1,0,none⟩) t.c.length t.c.length]) (by simp [results,Tryz.results37,go_sem,c1,c2]) rfl ?_;exact ⟨_,rfl,⟨g,w.heap.size+1+1,rfl,by omega,by omega,(HG.out.far (p:=⟨w.heap.size+1,0,none⟩) (Ne.symm he) _).far (p:=⟨w.heap.size+1,1,none⟩) (Ne.symm he) _,(HF.out.far (p:=⟨w.heap.size+1,0,none⟩) sZ _).far (p:=⟨w.heap.size+1,1,none⟩) sZ _⟩,(hD.setCell (p:=⟨w.heap.size+1,0,none⟩) (Zy _) _).setCell (p:=⟨w.heap.size+1,1,none⟩) (Zy _) _⟩
def MakeP (s:List Int) (f:Int) (w:Zp1) (e:Ending) (w':Zp1):Prop:=
 (Sh.right s=false/\e=.returned (.tuple #[.agg #[sQ none 0 0,sQ none 0 0],nQ iQ 20])∨Sh.right s=true/\∃v,e=.returned (.tuple #[v,nQ iQ 0])/\TenN w.heap.size w' v ⟨s,Zc (Safe.prod s).toNat f⟩)/\Below w.heap.size w w'
theorem fill_all {cs:List Value} {n:Nat} {f:Int} (hl:cs.length=n) (h:∀j,j<n->cs[j]? = some (nQ iQ f)):cs=(Zc n f).map (Za1 iQ):=by
 apply List.ext_getElem?;intro j
 by_cases hj:j<n
 ·rw [h j hj];simp [hj]
 ·rw [Zi oZ,Zi soZ]
theorem qct (S:Option Addr) (c:Nat) (s:List Int) (f:Int) (w:Zp1) (hl:s.length<=1000000) (hI:Ints iQ w S s):
  Calls Tryz.prog 21 #[sQ S s.length c,nQ iQ f] w (MakeP s f w):=by
 obtain ⟨i0,hi,hR,hL,hM⟩:=info_parts qeO;have hz:=hI.alloc (.cells #[sQ none 0 0,sQ none 0 0] 30);have hJ:=Blk.new w 30 #[sQ none 0 0,sQ none 0 0];have hC:Below w.heap.size w (w.alloc (.cells #[sQ none 0 0,sQ none 0 0] 30)):=(Ze1 _ _).alloc (lrZ _) _;obtain ⟨HI,hG,hD⟩:=zd3 hI hz hJ;clear hI hz hJ;go_enter Tryz.func21,Tryz.ntmps21;go_wp2_with fail;refine (qag S c s _ oZ hG.out).mono ?_;rintro e w1 ⟨rfl,h1⟩;have hc:=hD.out.below h1 sZ;have hu:=hC.trans (h1.mono sZ);have hx:=h1.size;rw [Zh1] at hx;clear h1 hC hG hD;cases hr:Sh.right s
 ·have HS:=zI (show Sh.size s=(0,20) by simp [Sh.size,hr])
  rw [HS.out];have c0:=hc.cell 0;have c1:=hc.cell 1;have f0:=hc.frozen 0;have f1:=hc.frozen 1;simp at c0 c1;obtain ⟨hB,Hr⟩:=zd2 hc hr;clear hc hr;go_wp2_with fail;refine Zk1 (v:=.tuple #[.agg #[sQ none 0 0,sQ none 0 0],nQ iQ 20]) (by simp [results,Tryz.results21,go_sem,c0,c1]) rfl ?_;exact ⟨.inl ⟨Hr.out,rfl⟩,(hu.setCell (p:=⟨w.heap.size,0,none⟩) (lrZ _) _).setCell (p:=⟨w.heap.size,1,none⟩) (lrZ _) _⟩
 ·have HS:=zI (show Sh.size s=(Safe.prod s,0) by simp [Sh.size,hr])
  obtain ⟨_,_,_,_,hN,hQ⟩:=Sh.right_mul hr;rw [HS.out];have HP:=zI (rfl:(Safe.prod s).toNat=(Safe.prod s).toNat);obtain ⟨n,hn⟩:=ezZ (show 0<=Safe.prod s by omega);have HN:=zI (show (Safe.prod s).toNat=n by omega);rw [hn] at hN hQ ⊢;obtain ⟨hB,Hr⟩:=zd2 hc hr;clear hc hr;clear HP HS hn;go_wp2_with (at_make;refine wpList_make_full _ rfl _ _ 28 rfl w.heap.size 42 i0 (nQ iQ 0) 1 Tryz.underlying28 hi hR hL _ _ _ _ n rfl rfl (by first|rfl|simp) (by first|rfl|simp) ?b2 ?b3 ?b4 ?_)
  case b2=>rw [hM];omega
  case b3=>unfold maxLen;omega
  case b4=>omega
  intro w2 hown hgrow;have he:=qau hown;have hw:=hown.1;have hy:=lt_of_block he;have hF:=hB.out.grown hgrow sZ;have hE:Below w.heap.size w w2:=hu.grown hgrow oZ sZ;generalize hg:w1.heap.size=g at *;generalize (madeCells #[Za1 iQ 0] n).toList=cur at *;have hf:=zI (show Blk w2 g 42 cur.toArray from he);have hm:=zI (show cur.length=n by omega);have hA:=zI hF;clear hF;clear hown hgrow he hw hg hu;go_wp2_with fail
  go_loopw [9,23] (λ_ i wr=>∃(k:Nat) (cs:List Value),k<=n/\i=nQ iQ k/\cs.length=n/\Blk wr g 42 cs.toArray/\(∀j,j<k->cs[j]? = some (nQ iQ f))/\Blk wr w.heap.size 30 #[sQ none 0 0,sQ none 0 0]/\Below w.heap.size w wr) (λ_ i _=>n-(intOf i).toNat)
  case atStart=>exact ⟨0,cur,Zt _,rfl,hm.out,hf.out,λj hj=>by omega,hA.out,hE⟩
  case round=>
   clear hf hm hA hE;obtain ⟨k,cs,hk,rfl,ho,hd,hb,hs,ha⟩:=hrel
   by_cases hy:k<n
   ·obtain ⟨v0,c0⟩:∃v,wr.cell? ⟨g,k,none⟩=some v:=⟨cs[k],by rw [hd.cell k];simp [ho,hy]⟩
    have f0:=hd.frozen k;obtain ⟨hK,hp,hv,ht⟩:=zd4 ho hd hb hs;clear ho hd hb hs;go_wp2_with fail;go_roundw
    case rel=>
     refine ⟨k+1,cs.set k (nQ iQ f),by omega,by go_num,by rw [List.length_set];exact hK.out,?_,?_,ht.out.far (p:=⟨g,k,none⟩) soZ _,ha.setCell (p:=⟨g,k,none⟩) soZ _⟩
     ·have:=hp.out.set_ k (nQ iQ f);simpa using this
     ·intro j hj
      rw [List.getElem?_set]
      by_cases e:k=j
      ·subst e;simp [hK.out,hy]
      ·rw [inZ e];exact hv.out j oZ
    case measure=>simp [intOf];omega
   ·obtain rfl:k=n:=by omega
    have HE:=zI (fill_all ho hb);rw [HE.out] at hd;have hS:=ha.size;have hO:=hd.lt;obtain ⟨hp,ht⟩:=zd2 hd hs;clear hd hs;clear hb ho;go_wp2_with fail;refine (qah S c s _ oZ (HI.out.below ha (lrZ _))).mono ?_;rintro e w3 ⟨q,rfl,hq,hH,h3⟩;have hh:=ht.out.below h3 ht.out.lt;have c0:=hh.cell 0;have c1:=hh.cell 1;have f0:=hh.frozen 0;have f1:=hh.frozen 1;simp at c0 c1;have HG:=zI (show Blk w3 q 3 (s.map (Za1 iQ)).toArray from hH);have HH:=zI (hp.out.below h3 hp.out.lt);have hP:=ha.trans (h3.mono ha.size);clear hh hH h3 ha;go_wp2_with fail;refine Zk1 (v:=.tuple #[.agg #[sQ (some ⟨q,0,none⟩) s.length s.length,sQ (some ⟨g,0,none⟩) k k],nQ iQ 0]) (by simp [results,Tryz.results21,go_sem,c0,c1]) rfl ?_;refine ⟨.inr ⟨Hr.out,_,rfl,q,g,by rw [HN.out];simp,by omega,by omega,?_,?_⟩,(hP.setCell (p:=⟨w.heap.size,0,none⟩) (lrZ _) _).setCell (p:=⟨w.heap.size,1,none⟩) (lrZ _) _⟩
    ·exact (HG.out.far (p:=⟨w.heap.size,0,none⟩) soZ _).far (p:=⟨w.heap.size,1,none⟩) soZ _
    ·rw [HN.out];exact (HH.out.far (p:=⟨w.heap.size,0,none⟩) soZ _).far (p:=⟨w.heap.size,1,none⟩) soZ _
namespace Tn
def eq (a b:Ten):Bool:=(a.s==b.s)&&(a.c==b.c)
end Tn
def OfP (t:Ten) (w:Zp1) (e:Ending) (w':Zp1):Prop:=
 (Tn.right t=false/\e=.returned (.tuple #[.agg #[sQ none 0 0,sQ none 0 0],nQ iQ 20])∨Tn.right t=true/\∃v,e=.returned (.tuple #[v,nQ iQ 0])/\TenN w.heap.size w' v t)/\Below w.heap.size w w'
theorem qcu (S C:Option Addr) (c d:Nat) (t:Ten) (w:Zp1) (hl:t.s.length<=1048576) (hl':t.c.length<=1048576) (hT:TenR w S C t):
  Calls Tryz.prog 17 #[sQ S t.s.length c,sQ C t.c.length d] w (OfP t w):=by
 have HT:=zI hT;clear hT;have hn:=(Blk.new w 30 #[sQ none 0 0,sQ none 0 0]).alloc (.cells #[sQ S t.s.length c,sQ C t.c.length d] 30);have hk:=Blk.new (w.alloc (.cells #[sQ none 0 0,sQ none 0 0] 30)) 30 #[sQ S t.s.length c,sQ C t.c.length d];rw [Zh1] at hk;have hf:Below w.heap.size w ((w.alloc (.cells #[sQ none 0 0,sQ none 0 0] 30)).alloc (.cells #[sQ S t.s.length c,sQ C t.c.length d] 30)):=((Ze1 _ _).alloc (lrZ _) _).alloc sZ _;obtain ⟨hj,hi⟩:=zd2 hn hk;clear hn hk;go_enter Tryz.func17,Tryz.ntmps17;go_wp2_with fail;refine (qa5 S C c d t _ oZ oZ (HT.out.1.below hf (lrZ _))).mono ?_;rintro e w1 ⟨rfl,h1⟩;have ha:=hj.out.below h1 hj.out.lt;have hd:=hi.out.below h1 hi.out.lt;have he:=hf.trans (h1.mono hf.size);clear h1 hf hj hi;cases hr:Tn.right t
 ·have c0:=ha.cell 0
  have c1:=ha.cell 1;have f0:=ha.frozen 0;have f1:=ha.frozen 1;simp at c0 c1;have Hr:=zI hr;clear hr;go_wp2_with fail;refine Zk1 (v:=.tuple #[.agg #[sQ none 0 0,sQ none 0 0],nQ iQ 20]) (by simp [results,Tryz.results17,go_sem,c0,c1]) rfl ?_;exact ⟨.inl ⟨Hr.out,rfl⟩,(he.setCell (p:=⟨w.heap.size,0,none⟩) (lrZ _) _).setCell (p:=⟨w.heap.size,1,none⟩) (lrZ _) _⟩
 ·have hb:t.s.length<=1000000/\t.c.length<=1000000:=by
   have hm:=hr;simp only [Tn.right,Zz,decide_eq_true_eq] at hm;obtain ⟨_,q1,_,_,_,q2⟩:=Sh.right_mul hm.1;omega
  have d0:=hd.cell 0;have d1:=hd.cell 1;simp at d0 d1;have Hr:=zI hr;clear hr;go_wp2_with fail;refine (qab S C c d t _ hb.1 hb.2 ⟨HT.out.1.below he (lrZ _),HT.out.2.below he (lrZ _)⟩).mono ?_;rintro e w2 ⟨v,rfl,⟨g,h,rfl,hg,hh,hG,hH⟩,h2⟩;have hc:=ha.below h2 ha.lt;have ho:=he.trans (h2.mono he.size);have hp:=ha.lt;have c0:=hc.cell 0;have c1:=hc.cell 1;have f0:=hc.frozen 0;have f1:=hc.frozen 1;simp at c0 c1;obtain ⟨HG,HH⟩:=zd2 hG hH;clear hG hH;clear ha hd d0 d1 he h2;go_wp2_with fail;refine Zk1 (v:=.tuple #[.agg #[sQ (some ⟨g,0,none⟩) t.s.length t.s.length,sQ (some ⟨h,0,none⟩) t.c.length t.c.length],nQ iQ 0]) (by simp [results,Tryz.results17,go_sem,c0,c1]) rfl ?_;exact ⟨.inr ⟨Hr.out,_,rfl,g,h,rfl,by omega,by omega,(HG.out.far (p:=⟨w.heap.size,0,none⟩) soZ _).far (p:=⟨w.heap.size,1,none⟩) soZ _,(HH.out.far (p:=⟨w.heap.size,0,none⟩) soZ _).far (p:=⟨w.heap.size,1,none⟩) soZ _⟩,(ho.setCell (p:=⟨w.heap.size,0,none⟩) (lrZ _) _).setCell (p:=⟨w.heap.size,1,none⟩) (lrZ _) _⟩
end Go.Proofs.YtimfcikmpllbpaaGreat
