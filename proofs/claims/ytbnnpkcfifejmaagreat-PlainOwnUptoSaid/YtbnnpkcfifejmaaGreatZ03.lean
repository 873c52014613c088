/- Lemmas for the statements of this seat: contracts of functions and the plain laws. -/
import Derived.BigQuiet
import Derived.ChangeSame
import Derived.Deep.CutBlock
import Derived.Deep.DeepCutAuto
import Derived.Deep.Fields
import Derived.Deep.RegionHeld3
import Derived.Deep.Slices
import Derived.Defers
import Derived.Laws.Bits64b
import Derived.Lib.BitFns
import Derived.Lib.Hide
import Derived.Maps.AppendAt
import Derived.OpenShut
import Derived.ProofKit
import Derived.Recover
import Derived.WalkKit
import Derived.Test.YtbnnpkcfifejmaaGreatChecked
import Derived.Test.YtbnnpkcfifejmaaGreatZ02
set_option linter.unusedVariables false
open List renaming take_succ_eq_append_getElem → Zb, replicate → Zc, drop_eq_getElem_cons → Zd, length_append → Ze, all_eq_true → Zf, take_length → Zg, mem_of_mem_take → Zh, getElem?_eq_none → Zi, flatMap_append → Zj, getElem?_toArray → Zk, getElem?_append_right → Zl, getElem?_append_left → Zm, take_append_drop → Zn, length_take → Zo, mem_of_mem_drop → Zp, length_drop → Zq, getElem?_set_self → Zr, getElem?_set_ne → Zs
open Nat renaming zero_le → Zt, succ_mul → Zu, le_trans → Zv, zero_add → Zw, add_zero → Zx, le_succ → Zy
open Bool renaming and_eq_true → Zz
open Go.Value renaming int → Za1, slice → Zb1
open Go.IntWalk renaming i64_in → Zc1
open Go.NoPanic renaming normal → Zd1
open Go.RowKit.Below renaming refl → Ze1
open Go.AllReadyH renaming cons → Zf1, nil → Zg1
open Go.World renaming size_alloc → Zh1, cell?_of_block → Zi1, block_lt_of_cell? → Zj1
open Go renaming bodyPost_ret → Zk1, wp_region_held_drew → Zl1, wp_region_noPanic → Zm1, wpAnyH_done → Zn1, wpAnyH_ready → Zo1, World → Zp1
namespace Go.Proofs.YtbnnpkcfifejmaaGreat
set_option maxHeartbeats 16000000
open Go.RowKit
theorem qei {L:List Value} {o:Nat} {v:Value} {r:List Value} (h:o+(v::r).length<=L.length):splice (L.set o v) (o+1) r=splice L o (v::r):=by
 simp only [List.length_cons] at h;unfold splice
 have e1:(L.set o v).take (o+1)=L.take o++[v]:=by
  rw [Zb soZ,List.take_set_of_le (lrZ _)];simp
 rw [e1,List.drop_set_of_lt oZ];simp [Nat.add_assoc,Nat.add_comm 1]
theorem qaq {g:Nat} {t:TypeId}:∀(vs:List Value) (o:Nat) (w:Zp1) (L:List Value),Blk w g t L.toArray->o+vs.length<=L.length->Blk (w.setCells g o vs) g t (splice L o vs).toArray
 | [],o,w,L,h,_=>by rw [qeh];exact h
 | v::r,o,w,L,h,hl=>by
  rw [←qei hl];refine qaq r (o+1) _ _ ?_ (by simp at hl ⊢;omega);have:=h.set_ o v;simpa using this
theorem qaS {S:Nat->Prop} {g:Nat} (hg:S g):∀(vs:List Value) (o:Nat) (w0 w:Zp1),Fr S w0 w->Fr S w0 (w.setCells g o vs)
 | [],_,_,_,h=>h
 | v::r,o,w0,w,h=>qaS hg r (o+1) w0 _ (h.setCell (λ_=>hg) v)
theorem qfW {S:Nat->Prop} {w w1:Zp1} (h:Fr S w w1):∀(vs:List Value) (o:Nat),Fr S w (w1.setCells w.heap.size o vs)
 | [],_=>h
 | v::r,o=>qfW (h.setCell (p:=⟨w.heap.size,o,none⟩) (λq=>absurd q (Nat.lt_irrefl _)) v) r (o+1)
theorem Blk.shape {w:Zp1} {g:Nat} {t:TypeId} {cs:Array Value} (h:Blk w g t cs):w.shape? g=some (t,cs.size):=by
 unfold Blk at h;simp [World.shape?,h]
theorem Blk.own {w:Zp1} {B g n:Nat} {t:TypeId} {L:List Value} {xs:List Value} (h:Blk w g t L.toArray) (hB:B<=g) (hn:xs.length=n) (hl:n<=L.length) (hm:L.length<=maxLen) (ht:L.take n=xs) {c:Nat} (hc:c=L.length):
  w.ownsRow B t 1 (.slice (some ⟨g,0,none⟩) n c) n xs:=by
 subst hc;exact ⟨by omega,.inr ⟨g,_,_,rfl,hB,h,hl,hm,by simp,by simpa using ht⟩⟩
def qfX (B:Nat) (t:TypeId) (v:Value) (zs:List Int) (w:Zp1) (e:Ending) (w':Zp1):Prop:=
 ∃v',e=.returned v'/\w'.ownsRow B t 1 v' zs.length (zs.map (Za1 .i64))/\Fr (λb=>v.ownBlock=some b) w w'/\(v'.ownBlock=v.ownBlock∨v'.ownBlock=some w.heap.size)
theorem qdj (A X Y B:List Value) (h:X.length=Y.length):splice (A++(X++B)) A.length Y=A++(Y++B):=by
 unfold splice;rw [List.take_append_of_le_length (lrZ _),Zg,←h,←Ze,←List.append_assoc A X B,List.drop_left]
theorem ins_a {Z D:List Value} {x:Value} {i:Nat} (hi:i<Z.length) (hD:1<=D.length):splice (splice (Z++D) (i+1) (Z.drop i)) i [x]=Z.take i++x::Z.drop i++D.drop 1:=by
 obtain ⟨d,D',rfl⟩:∃d D',D=d::D':=by cases D with|nil=>simp at hD|cons d D'=>exact ⟨d,D',rfl⟩
 obtain ⟨A,b,B,rfl,rfl⟩:∃A b B,Z=A++b::B/\i=A.length:=⟨Z.take i,Z[i],Z.drop (i+1),by rw [←Zd hi,Zn],by simp;omega⟩
 rw [List.drop_left,List.take_left];have e1:A++b::B++d::D'=(A++[b])++((B++[d])++D'):=by simp
 have e2:A.length+1=(A++[b]).length:=by simp
 rw [e1,e2,qdj _ _ (b::B) _ sZ];have e3:A++[b]++(b::B++D')=A++([b]++(b::B++D')):=by simp
 rw [e3,qdj _ [b] [x] _ rfl];simp
theorem ins_b {Z Z1 Z2:List Value} {x:Value} {i:Nat} (hi:i<Z.length) (h1:Z1.length=Z.length+1-i):splice (splice (Z.take i++Z1++Z2) i [x]) (i+1) (Z.drop i)=Z.take i++x::Z.drop i++Z2:=by
 obtain ⟨d,D,rfl⟩:∃d D,Z1=d::D:=by cases Z1 with|nil=>simp at h1;omega|cons d D=>exact ⟨d,D,rfl⟩
 obtain ⟨A,B,rfl,rfl⟩:∃A B,Z=A++B/\i=A.length:=⟨Z.take i,Z.drop i,(Zn _ _).symm,by simp;omega⟩
 rw [List.drop_left,List.take_left];have e1:A++d::D++Z2=A++([d]++(D++Z2)):=by simp
 rw [e1,qdj _ [d] [x] _ rfl];have e2:A++([x]++(D++Z2))=(A++[x])++(D++Z2):=by simp
 have e3:A.length+1=(A++[x]).length:=by simp
 rw [e2,e3,qdj _ _ B _ (by simp at h1;omega)];simp
theorem qco {zs:List Int} {x:Int} {i:Nat} (h:i<=zs.length):(zs.take i++x::zs.drop i).length=zs.length+1:=by simp;omega
theorem Blk.cells_map {w:Zp1} {g:Nat} {t:TypeId} {L xs:List Value} {n:Nat} (h:Blk w g t L.toArray) (ht:L.take n=xs):∀j v,xs[j]? = some v->w.cell? ⟨g,0+j,none⟩=some v:=λj v hj=>by
 rw [Zw,h.cell j];subst ht;rw [List.getElem?_take] at hj
 split at hj
 ·simpa using hj
 ·cases hj
theorem qdL {zs:List Int}:∀v∈zs.map (Za1 .i64),v.oneCell'=true:=λv hv=>by
 obtain ⟨x,_,rfl⟩:=List.mem_map.1 hv
 rfl
theorem qf4 (B:Nat) (v:Value) (zs:List Int) (x:Int) (i vb:Nat) (w:Zp1) (hi:i<=zs.length) (hn:zs.length<=1099511627776) (hB:B<=w.heap.size) (hown:w.ownsRow B 3 1 v zs.length (zs.map (Za1 .i64))) (hv:Blk w vb 3 #[.int .i64 x]) (hvb:v.ownBlock≠some vb):
  Calls Tryz.prog 164 #[v,.int .i64 i,.slice (some ⟨vb,0,none⟩) 1 1] w (qfX B 3 v (zs.take i++x::zs.drop i) w):=by
 have he:∀j u,[Za1 .i64 x][j]? = some u->w.cell? ⟨vb,0+j,none⟩=some u:=λj u hj=>by
  match j,hj with
  | 0,hj=>simp at hj;subst hj;rw [hv.cell];rfl
 have hf:∀u∈[Za1 .i64 x],u.oneCell'=true:=λu hu=>by simp at hu;subst hu;rfl
 have hF:maxLen=9223372036854775807:=rfl;rcases hown.2 with ⟨rfl,h0⟩|⟨g,cap,cur,rfl,hA,hh,hL,hx,hy,hE⟩
 ·have hz:zs=[]:=List.eq_nil_of_length_eq_zero h0
  subst hz;obtain rfl:i=0:=by simpa using hi
  refine (Any2.slices_Insert_int_end_grow qcx none 0 0 vb 0 1 1 [] [.int .i64 x] w oZ oZ oZ oZ rfl rfl (λ_=>rfl) (λa h=>by cases h) he hf).mono ?_;rintro e w' ⟨rfl,rfl⟩;have hg:=grownCap_ge w (0+1) 0 3;have hs:=grownCap_le_maxLen w (0+1) 0 3 (by unfold maxLen;omega);refine ⟨_,rfl,?_,((Fr.refl _ w).drew).alloc _,.inr rfl⟩;have hk:=Blk.new w.drew 3 (([]++[Za1 .i64 x]).toArray++Builtin.zeroCells (Za1 .i64 0).cells (grownCap w (0+1) 0 3-(0+1)))
  have hH:Blk (w.drew.alloc (.cells (([]++[Za1 .i64 x]).toArray++Builtin.zeroCells (Za1 .i64 0).cells (grownCap w (0+1) 0 3-(0+1))) 3)) w.heap.size 3 (([Za1 .i64 x]++(Builtin.zeroCells (Za1 .i64 0).cells (grownCap w (0+1) 0 3-(0+1))).toList).toArray):=by
   have e:(([Za1 .i64 x]++(Builtin.zeroCells (Za1 .i64 0).cells (grownCap w (0+1) 0 3-(0+1))).toList).toArray)=([]++[Za1 .i64 x]).toArray++Builtin.zeroCells (Za1 .i64 0).cells (grownCap w (0+1) 0 3-(0+1)):=by
    apply Array.ext';simp
   rw [e];exact hk
  have hw:(Builtin.zeroCells (Za1 .i64 0).cells (grownCap w (0+1) 0 3-(0+1))).toList.length=grownCap w (0+1) 0 3-(0+1):=by
   rw [Array.length_toList,size_zeroCells];simp [Value.cells]
  exact hH.own hB rfl sZ (by simp only [Ze,hw,List.length_singleton];omega) sZ (by simp only [Ze,hw,List.length_singleton];show grownCap w (0+1) 0 3=_;omega)
 ·have hk:Blk w g 3 cur.toList.toArray:=by simpa [Blk] using hh
  have hm:cur.toList.length=cap:=by simpa using hy
  have hc:cur.toList.take zs.length=zs.map (Za1 .i64):=by simpa using hE
  have hq:=hk.cells_map hc;have hK:g≠vb:=λh=>hvb (by rw [h];rfl)
  have ht:(zs.map (Za1 .i64)).length=zs.length:=by simp
  by_cases hb:zs.length+1<=cap
  ·by_cases ho:i<zs.length
   ·refine (Any2.slices_Insert_int_shift qcx g 0 zs.length cap i vb 0 1 1 (zs.map (Za1 .i64)) [.int .i64 x] w ho oZ hb oZ (λh=>hK h.symm) ht rfl hq ?_ ?_ he qdL hf 3 3 1 cap ?_ ?_ oZ ?_ ?_).mono ?_
    ·intro j hj;rw [Zw,hk.cell];simp;omega
    ·intro j hj;exact hk.frozen _
    ·exact hv.shape
    ·rw [hk.shape];simp [hy]
    ·exact hv.frozen _
    ·exact hv.frozen _
    ·rintro e w' ⟨rfl,rfl⟩
     have hd:(List.drop i (zs.map (Za1 .i64))).length=zs.length-i:=by simp
     have k1:=qaq ((zs.map (Za1 .i64)).drop i) (0+(i+1)) w.drew _ hk.drew (by rw [hd,hm];omega);have k2:=qaq [Za1 .i64 x] (0+i) _ _ k1 (by simp [splice];omega);refine ⟨_,rfl,?_,qaS (by rfl) _ _ _ _ (qaS (by rfl) _ _ _ _ (Fr.refl _ w).drew),.inl rfl⟩
     have ha:(splice (splice cur.toList (0+(i+1)) ((zs.map (Za1 .i64)).drop i)) (0+i) [Za1 .i64 x]).length=cap:=by
      simp only [splice,Ze,Zo,Zq,List.length_singleton,hd,hm];omega
     rw [qco hi];refine k2.own hA soZ (by rw [ha];omega) (by rw [ha];exact hx) ?_ ha.symm;rw [Zw,Zw];have e0:cur.toList=zs.map (Za1 .i64)++cur.toList.drop zs.length:=by rw [←hc];exact (Zn _ _).symm
     rw [e0];generalize cur.toList.drop zs.length=D at *;generalize hZ:zs.map (Za1 .i64)=Z at *;have hJ:i<Z.length:=by omega
     have hI:1<=D.length:=by rw [e0,Ze] at hm;omega
     rw [ins_a hJ hI];have:(Z.take i++Za1 .i64 x::Z.drop i).length=zs.length+1:=by simp;omega
     rw [List.take_append_of_le_length oZ,List.take_of_length_le oZ];rw [←hZ];simp [List.map_take,List.map_drop]
   ·obtain rfl:i=zs.length:=by omega
    refine (Any2.slices_Insert_int_end_room qcx g 0 zs.length cap vb 0 1 1 [.int .i64 x] w oZ hb oZ rfl ?_ ?_ he hf).mono ?_
    ·intro j hj;rw [Zw,hk.cell];simp;omega
    ·intro j hj;exact hk.frozen _
    ·rintro e w' ⟨rfl,rfl⟩
     have k1:=qaq [Za1 .i64 x] (0+zs.length) w _ hk soZ;refine ⟨_,rfl,?_,qaS (by rfl) _ _ _ _ (Fr.refl _ w),.inl rfl⟩
     have ha:(splice cur.toList (0+zs.length) [Za1 .i64 x]).length=cap:=by
      simp only [splice,Ze,Zo,Zq,List.length_singleton,hm];omega
     rw [qco (lrZ _)];refine k1.own hA sZ (by rw [ha];omega) (by rw [ha];exact hx) ?_ ha.symm;rw [Zw];unfold splice;rw [hc,←List.append_assoc];rw [List.take_append_of_le_length sZ,List.take_of_length_le sZ];simp
  ·have hD:cap=zs.length:=by omega
   subst hD;have hg:=grownCap_ge w (zs.length+1) zs.length 3;have hs:=grownCap_le_maxLen w (zs.length+1) zs.length 3 (by unfold maxLen;omega)
   by_cases ho:i<zs.length
   ·refine (Any2.slices_Insert_int_grow qcx g 0 zs.length zs.length i vb 0 1 1 (zs.map (Za1 .i64)) [.int .i64 x] w ho oZ oZ oZ oZ ht rfl hq he qdL hf).mono ?_
    rintro e w' ⟨rfl,rfl⟩;have hp:(Builtin.zeroCells (Za1 .i64 0).cells (zs.length+1-i)).toList.length=zs.length+1-i:=by rw [Array.length_toList,size_zeroCells];simp [Value.cells]
    have hl:(Builtin.zeroCells (Za1 .i64 0).cells (grownCap w (zs.length+1) zs.length 3-(zs.length+1))).toList.length=grownCap w (zs.length+1) zs.length 3-(zs.length+1):=by rw [Array.length_toList,size_zeroCells];simp [Value.cells]
    generalize hZ1:Builtin.zeroCells (Za1 .i64 0).cells (zs.length+1-i)=Z1 at *;have hT:insRen.t 3=3:=rfl;rw [hT] at *;generalize hZ2:Builtin.zeroCells (Za1 .i64 0).cells (grownCap w (zs.length+1) zs.length 3-(zs.length+1))=Z2 at *;generalize hG:grownCap w (zs.length+1) zs.length 3=G at *
    have hr:Blk (w.alloc (.cells (((zs.map (Za1 .i64)).take i).toArray++Z1++Z2) 3)).drew w.heap.size 3 (((zs.map (Za1 .i64)).take i++Z1.toList++Z2.toList).toArray):=by
     have:=Blk.new w 3 (((zs.map (Za1 .i64)).take i).toArray++Z1++Z2)
     have e:(((zs.map (Za1 .i64)).take i++Z1.toList++Z2.toList).toArray)=((zs.map (Za1 .i64)).take i).toArray++Z1++Z2:=by
      apply Array.ext';simp
     rw [e];exact this.drew
    have hC:((zs.map (Za1 .i64)).take i).length=i:=by simp;omega
    have hd:((zs.map (Za1 .i64)).drop i).length=zs.length-i:=by simp
    have k1:=qaq [Za1 .i64 x] i _ _ hr (by simp only [Ze,hC,hp,hl,List.length_singleton];omega);have k2:=qaq ((zs.map (Za1 .i64)).drop i) (i+1) _ _ k1.drew (by simp only [splice,Ze,Zo,Zq,List.length_singleton,hp,hl,List.length_map];omega);refine ⟨_,rfl,?_,?_,.inr rfl⟩
    ·have ha:(splice (splice ((zs.map (Za1 .i64)).take i++Z1.toList++Z2.toList) i [Za1 .i64 x]) (i+1) ((zs.map (Za1 .i64)).drop i)).length=G:=by
      simp only [splice,Ze,Zo,Zq,List.length_singleton,hp,hl,List.length_map];omega
     rw [qco hi];refine k2.own hB soZ (by rw [ha];omega) (by rw [ha];exact hs) ?_ ha.symm;generalize hZ:zs.map (Za1 .i64)=Z at *;rw [ins_b oZ oZ];have:(Z.take i++Za1 .i64 x::Z.drop i).length=zs.length+1:=by simp;omega
     rw [List.take_append_of_le_length oZ,List.take_of_length_le oZ];rw [←hZ];simp [List.map_take,List.map_drop]
    ·have f1:Fr (λb=>(Zb1 (some ⟨g,0,none⟩) zs.length zs.length).ownBlock=some b) w (w.alloc (.cells (((zs.map (Za1 .i64)).take i).toArray++Z1++Z2) 3)):=(Fr.refl _ w).alloc _
     exact qfW (qfW f1.drew _ _).drew _ _
   ·obtain rfl:i=zs.length:=by omega
    refine (Any2.slices_Insert_int_end_grow qcx (some ⟨g,0,none⟩) zs.length zs.length vb 0 1 1 (zs.map (Za1 .i64)) [.int .i64 x] w oZ (lrZ _) oZ oZ ht rfl (λh=>by cases h) (λa h=>by injection h with h;subst h;intro j u hj;have:=hq j u hj;rw [Addr.add_lit];simpa using this) he hf).mono ?_;rintro e w' ⟨rfl,rfl⟩;have hT:insRen.t 3=3:=rfl;rw [hT] at *;have hl:(Builtin.zeroCells (Za1 .i64 0).cells (grownCap w (zs.length+1) zs.length 3-(zs.length+1))).toList.length=grownCap w (zs.length+1) zs.length 3-(zs.length+1):=by rw [Array.length_toList,size_zeroCells];simp [Value.cells]
    generalize hZ2:Builtin.zeroCells (Za1 .i64 0).cells (grownCap w (zs.length+1) zs.length 3-(zs.length+1))=Z2 at *;generalize hG:grownCap w (zs.length+1) zs.length 3=G at *;refine ⟨_,rfl,?_,((Fr.refl _ w).drew).alloc _,.inr rfl⟩
    have hr:Blk (w.drew.alloc (.cells ((zs.map (Za1 .i64)++[Za1 .i64 x]).toArray++Z2) 3)) w.heap.size 3 ((zs.map (Za1 .i64)++[Za1 .i64 x]++Z2.toList).toArray):=by
     have:=Blk.new w.drew 3 ((zs.map (Za1 .i64)++[Za1 .i64 x]).toArray++Z2)
     have e:((zs.map (Za1 .i64)++[Za1 .i64 x]++Z2.toList).toArray)=(zs.map (Za1 .i64)++[Za1 .i64 x]).toArray++Z2:=by
      apply Array.ext';simp
     rw [e];exact this
    have ha:(zs.map (Za1 .i64)++[Za1 .i64 x]++Z2.toList).length=G:=by simp only [Ze,List.length_map,List.length_singleton,hl];omega
    rw [qco (lrZ _)];refine hr.own hB sZ (by rw [ha];omega) (by rw [ha];exact hs) ?_ ha.symm;rw [List.take_append_of_le_length sZ,List.take_of_length_le sZ];simp
theorem qf5 (B:Nat) (v:Value) (x:Int) (zs:List Int) (w:Zp1) (hn:(x::zs).length<=1099511627776) (hown:w.ownsRow B 3 1 v (x::zs).length ((x::zs).map (Za1 .i64))):
  Calls Tryz.prog 162 #[v,.int .i64 0,.int .i64 1] w (qfX B 3 v zs w):=by
 have ho:maxLen=9223372036854775807:=rfl;rcases hown.2 with ⟨rfl,h0⟩|⟨g,cap,cur,rfl,hg,hh,hc,hl,hf,hm⟩
 ·simp at h0
 ·have hk:Blk w g 3 cur.toList.toArray:=by simpa [Blk] using hh
  have he:cur.toList.length=cap:=by simpa using hf
  have hd:cur.toList.take (x::zs).length=(x::zs).map (Za1 .i64):=by simpa using hm
  have hi:=hk.cells_map hd;refine (Tryz.slices_Delete_int_cells g 0 (x::zs).length cap 0 1 (x::zs) w (lrZ _) hc oZ oZ sZ ?_ ?_).mono ?_
  ·intro j hj
   refine hi j _ ?_;rw [List.getElem?_map,geZ hj,gdZ,geZ hj]
   rfl
  ·intro j hj;exact hk.frozen _
  ·rintro e w' ⟨rfl,q,rfl⟩
   have hb:((((x::zs).take (x::zs).length).take 0++((x::zs).take (x::zs).length).drop 1++Zc (1-0) 0).map (Za1 .i64))=zs.map (Za1 .i64)++[Za1 .i64 0]:=by simp
   rw [hb];have k1:=qaq (zs.map (Za1 .i64)++[Za1 .i64 0]) 0 (w.drewN q) _ (hk.drewN q) (by rw [he];simp at hc ⊢;omega);refine ⟨_,rfl,?_,qaS (by rfl) _ _ _ _ ((Fr.refl _ w).drewN q),.inl rfl⟩
   have ha:(splice cur.toList 0 (zs.map (Za1 .i64)++[Za1 .i64 0])).length=cap:=by
    simp only [splice,Ze,Zo,Zq,List.length_singleton,List.length_map,he];simp at hc;omega
   refine k1.own hg sZ (by rw [ha];simp at hc ⊢;omega) (by rw [ha];exact hl) ?_ ha.symm;unfold splice;simp
theorem qf6 (B:Nat) (v:Value) (x:Int) (zs:List Int) (w:Zp1) (hn:zs.length<=1099511627776) (hs:zs.Pairwise (·<=·)) (hown:w.ownsRow B 3 1 v zs.length (zs.map (Za1 .i64))):
  Calls Tryz.prog 163 #[v,.int .i64 x] w λe w'=>(∃b,e=.returned (.tuple #[.int .i64 (zs.countP (·<x):Nat),.bool b]))/\∃q,w'=w.drewN q:=by
 rcases hown.2 with ⟨rfl,h0⟩|⟨g,cap,cur,rfl,he,hh,hf,hg,hd,hc⟩
 ·have:zs=[]:=List.eq_nil_of_length_eq_zero h0
  subst this;refine (Tryz.slices_BinarySearch_int_empty none 0 x w).mono ?_;rintro e w' ⟨rfl,rfl⟩;exact ⟨⟨_,rfl⟩,0,rfl⟩
 ·have hk:Blk w g 3 cur.toList.toArray:=by simpa [Blk] using hh
  have ha:cur.toList.take zs.length=zs.map (Za1 .i64):=by simpa using hc
  have hb:=hk.cells_map ha;refine (Tryz.slices_BinarySearch_int g 0 zs.length cap zs x w (lrZ _) oZ ?_ (by rw [Zg];exact hs)).mono ?_
  ·intro j hj
   refine hb j _ ?_;rw [List.getElem?_map,geZ hj,gdZ,geZ hj]
   rfl
  ·rintro e w' ⟨rfl,q,rfl⟩
   rw [Zg];exact ⟨⟨_,rfl⟩,q,rfl⟩
theorem qf7:(Tryz.prog.info? 23).map (λi=>(i.zero,i.size,i.bytes))=some (some (.slice none 0 0),1,24):=by kernel_rfl
def Two (C:Nat) (t:TypeId) (w:Zp1) (r o:Value) (zr zo:List Int):Prop:=
 w.ownsRow C t 1 r zr.length (zr.map (Za1 .i64))/\w.ownsRow C t 1 o zo.length (zo.map (Za1 .i64))/\∀b,r.ownBlock=some b->o.ownBlock≠some b
section
variable {C:Nat} {t:TypeId} {w w':Zp1} {r o r' o':Value} {zr zo zr' zo':List Int} {S:Nat->Prop}
theorem Two.fr (h:Two C t w r o zr zo) (hf:Fr S w w') (hS:∀b,S b->¬C<=b):Two C t w' r o zr zo:=
 ⟨qbp h.1 hf λb hb hs=>hS b hs (h.1.lt b hb).1,qbp h.2.1 hf λb hb hs=>hS b hs (h.2.1.lt b hb).1,h.2.2⟩
theorem Two.new (h:Two C t w r o zr zo) (x:Obj):Two C t (w.alloc x) r o zr zo:=h.fr ((Fr.refl (λ_=>False) w).alloc x) λ_ h=>h.elim
theorem Two.left (h:Two C t w r o zr zo) (hf:Fr (λb=>r.ownBlock=some b) w w') (ho:w'.ownsRow C t 1 r' zr'.length (zr'.map (Za1 .i64))) (ha:r'.ownBlock=r.ownBlock∨r'.ownBlock=some w.heap.size):Two C t w' r' o zr' zo:=
 ⟨ho,qbp h.2.1 hf λb hb hs=>h.2.2 b hs hb,λb hb ho=>by
  rcases ha with e|e
  ·exact h.2.2 b (e▸hb) ho
  ·rw [e] at hb;injection hb with hb;subst hb;have:=(h.2.1.lt _ ho).2;omega⟩
theorem Two.right (h:Two C t w r o zr zo) (hf:Fr (λb=>o.ownBlock=some b) w w') (ho:w'.ownsRow C t 1 o' zo'.length (zo'.map (Za1 .i64))) (ha:o'.ownBlock=o.ownBlock∨o'.ownBlock=some w.heap.size):Two C t w' r o' zr zo':=
 ⟨qbp h.1 hf λb hb hs=>h.2.2 b hb hs,ho,λb hb ho=>by
  rcases ha with e|e
  ·exact h.2.2 b hb (e▸ho)
  ·rw [e] at ho;injection ho with ho;subst ho;have:=(h.1.lt _ hb).2;omega⟩
end
def qeO (os:List Int) (w:Zp1) (e:Ending) (w':Zp1):Prop:=
 ∃A c,e=.returned (.slice A os.length c)/\Ints .i64 w' A os/\os.length<=c/\c<=9223372036854775807/\Below w.heap.size w w'
section
variable {X:Nat->Prop} {B:Nat} {w w':Zp1} {g:Nat} {t e:TypeId} {us:List (List Int)}
theorem URow.at3 (h:URow X B w g t e us) {j:Nat} (hj:j<us.length) (hlt:∀b,X b->b<w.heap.size):
  ∃v,w.cell? ⟨g,j,none⟩=some v/\(∀b,v.ownBlock=some b->¬X b)/\∀W:Zp1,(∀b,b<w.heap.size->(b=g∨¬X b)->W.heap[b]? = w.heap[b]?)->w.heap.size<=W.heap.size->
   W.ownsRow B e 1 v us[j].length (us[j].map (Za1 .i64))/\
   ∀(v':Value) (w1:Zp1) (x:Int),w1.ownsRow B e 1 v' (us[j].length+1) (us[j].map (Za1 .i64)++[.int .i64 x])->W.grownBy w1 v.ownBlock->(v'.ownBlock=v.ownBlock∨v'.ownBlock=some W.heap.size)->
    w1.cell? ⟨g,j,none⟩=some v/\w1.frozen? ⟨g,j,none⟩=false/\URow X B (w1.setCell ⟨g,j,none⟩ v') g t e (us.set j (us[j]++[x])):=by
 obtain ⟨v,hc,ho,hx,-⟩:=h.at_ hlt hj;refine ⟨v,hc,hx,λW ha hs=>?_⟩;have hW:=h.agree ha;obtain ⟨v2,hd,hf,hh,hg⟩:=hW.at_ (λb hb=>ltZ (hlt b hb) hs) hj
 have hv:v2=v:=by
  have e:=Zi1 (w:=w) (w':=W) (a:=⟨g,j,none⟩) (ha g h.lt (.inl rfl));rw [hd,hc] at e;injection e
 subst hv;refine ⟨hf,λv' w1 x h1 h2 h3=>?_⟩;have he:some g≠v2.ownBlock:=λq=>hh g q.symm h.1
 have hi:g<W.heap.size:=ltZ h.lt hs;refine ⟨h2.cell hd he,?_,hg v' w1 x h1 h2 h3⟩;obtain ⟨_,vs,_,hk,_⟩:=hW;exact (hk.grown h2 he).frozen j
theorem URow.shut (h:URow (λb=>b<B) B w g t e us):URow (λb=>b<B∨w.heap.size<=b) B w g t e us:=by
 obtain ⟨hg,vs,hl,hk,ho,hx,hd⟩:=h;refine ⟨.inl hg,vs,hl,hk,ho,λj v b hv hb=>?_,hd⟩;have h1:¬b<B:=hx j v b hv hb;have hj:j<us.length:=by rw [←hl];exact (List.getElem?_eq_some_iff.1 hv).1
 have h2:=((ho j hj v hv).lt b hb).2;omega
def SInv (tN:TypeId) (box:Array Value) (B C g2:Nat) (tL tI:TypeId) (ws:List Int) (us:List (List Int)) (w wr:Zp1):Prop:=
 Blk wr w.heap.size tN box/\Below w.heap.size w wr/\C<=wr.heap.size/\Blk wr (w.heap.size+1) tI (ws.map (Za1 .i64)).toArray/\URow (λb=>b<B∨C<=b) B wr g2 tL tI us
section
variable {tN:TypeId} {box:Array Value} {C g2:Nat} {tL tI:TypeId} {ws:List Int} {wr wr':Zp1} {S:Nat->Prop}
theorem SInv.fr (h:SInv tN box B C g2 tL tI ws us w wr) (hf:Fr S wr wr') (hS:∀b,S b->C<=b) (h1:w.heap.size+1<B) (h2:B<=C) (h3:g2<B):SInv tN box B C g2 tL tI ws us w wr':=by
 obtain ⟨a1,a2,a3,a4,a5⟩:=h;have hn:∀b,b<C->¬S b:=λb hb hs=>by have:=hS b hs;omega
 refine ⟨hf.blk a1 (hn _ oZ),a2.trans (hf.below (λb hb=>by have:=hS b hb;omega) a2.size),Zv a3 hf.size,hf.blk a4 (hn _ oZ),a5.agree λb hb ho=>hf.2 b hb (hn b ?_)⟩;rcases ho with rfl|ho
 ·omega
 ·omega
theorem SInv.wait (h:SInv tN box B C g2 tL tI ws us w wr) (u:Nat) (z:Int) (h1:w.heap.size+1<B) (h2:B<=C) (h3:g2≠w.heap.size+1):SInv tN box B C g2 tL tI (ws.set u z) us w (wr.setCell ⟨w.heap.size+1,u,none⟩ (.int .i64 z)):=by
 obtain ⟨a1,a2,a3,a4,a5⟩:=h;refine ⟨a1.far sZ _,a2.setCell (p:=⟨w.heap.size+1,u,none⟩) sZ _,by simpa using a3,?_,a5.agree λb hb ho=>Below.heap_setCell wr _ _ b ?_⟩
 ·have:=a4.set_ u (.int .i64 z)
  simpa [List.map_set] using this
 ·rcases ho with rfl|ho
  ·exact h3
  ·simp;omega
theorem SInv.read (h:SInv tN box B C g2 tL tI ws us w wr) {j:Nat} (hj:j<us.length):∃A c,wr.cell? ⟨g2,j,none⟩=some (.slice A us[j].length c)/\Ints .i64 wr A us[j]/\∀a,A=some a->B<=a.block/\a.block<C:=by
 obtain ⟨a1,a2,a3,a4,hg,vs,hl,hk,ho,hx,hd⟩:=h;have hv:vs[j]? = some vs[j]:=geZ oZ;obtain ⟨A,c,e,_,hI⟩:=Ints.of_own (ho j hj _ hv);refine ⟨A,c,by rw [hk.cell j];simpa [e] using hv,hI,λa ha=>?_⟩;subst ha;rcases (ho j hj _ hv).2 with ⟨h1,_⟩|⟨g,cap,cur,h1,h2,_⟩
 ·rw [h1] at e;cases e
 ·rw [e] at h1
  injection h1 with h1
  injection h1 with h1
  subst h1;have:=hx j _ g hv (by rw [e];rfl);exact ⟨h2,by simp at this;simp;omega⟩
end
end
theorem Kn.mid_le (I:Int->List Int) (out a:List Int) (u:Int):Kn.mid I out a u<=(I u).length:=by
 unfold Kn.mid Kn.wt;have:=List.length_filter_le (λi=>!(i==0)&&!out.contains i) (I u);omega
def slen:Value->Nat
 | .slice _ n _=>n
 | _=>0
set_option maxRecDepth 20000 in
theorem qf8 (A N:Option Addr) (c d:Nat) (n:NetD) (w:Zp1) (Hm:n.ok) (h512:n.nodes.length<=512) (hR:NetR w A N n) (hd:n.nodes.length<=d) (hins:∀v∈n.nodes,∀i∈v.ins,0<=i/\i<=n.nodes.length):
  Calls Tryz.prog 150 #[.agg #[.slice A n.inn.length c,.slice N n.nodes.length d]] w (qeO (Nt.sorted n.nodes) w):=by
 obtain ⟨i0,hi,gb,H3,HO⟩:=info_parts qbk;obtain ⟨i1,hj,GJ,Gu,Gq⟩:=info_parts qf7;have Hx:=Hm.2.2
 have Hr:∀u,(Nt.insF n.nodes u).length<=1048576:=λu=>by
  unfold Nt.insF Nt.node;rw [gdZ];cases h:n.nodes[u.toNat-1]? with
  | none=>simp [Nt.none_]
  | some v=>exact (Hx v (List.mem_of_getElem? h)).2.2.1
 have HN:∀k (h:k<n.nodes.length),Nt.insF n.nodes ((k:Int)+1)=n.nodes[k].ins:=λk h=>by unfold Nt.insF;rw [Nt.node_at h]
 have Hc:Nt.sorted n.nodes=Kn.order (Nt.insF n.nodes) n.nodes.length:=rfl;generalize Nt.insF n.nodes=I at *;generalize Nt.sorted n.nodes=os at *;have Ga:=Blk.new w 59 #[.slice A n.inn.length c,.slice N n.nodes.length d];have gX:Below w.heap.size w (w.alloc (.cells #[.slice A n.inn.length c,.slice N n.nodes.length d] 59)):=(Ze1 _ _).alloc (lrZ _) _;obtain ⟨HR,gS,gR,hL,gH,HM⟩:=zd6 hR hins Hx Hr HN Hc;clear hR hins Hx Hr HN Hc;clear Hm;have e1:IntKind.i64.wrap ((n.nodes.length:Int)+1)=((n.nodes.length+1:Nat):Int):=by rw [Zc1 _ oZ];omega
 go_enter Tryz.func150,Tryz.ntmps150;go_wp2_with (at_make;refine wpList_make_full _ rfl _ _ 23 rfl w.heap.size 3 i0 (.int .i64 0) 1 Tryz.underlying23 hi gb H3 _ _ _ _ (n.nodes.length+1) rfl rfl (by first|rfl|simp|(go_simp;rfl)) (by first|rfl|simp|(go_simp;rfl)) ?b2 ?b3 ?b4 ?_)
 case b2=>rw [HO];omega
 case b3=>unfold maxLen;omega
 case b4=>simp
 intro w1 hown hgrow;have hE:=qaR hown;rw [qb4] at hE;have GO:w.heap.size+2<=w1.heap.size:=by have:=lt_of_block hE;omega
 have Gh:Blk w1 (w.heap.size+1) 3 ((Kn.wl I n.nodes.length 0 []).map (Za1 .i64)).toArray:=by
  rw [Kn.wl_zero,List.map_replicate];simpa [Blk] using hE
 have gn:Below w.heap.size w w1:=gX.grown hgrow sZ sZ;have hf:Blk w1 w.heap.size 59 #[.slice A n.inn.length c,.slice N n.nodes.length d]:=Ga.grown hgrow sZ;have x1:w1.cell? ⟨w.heap.size,1,none⟩=some (.slice N n.nodes.length d):=by rw [hf.cell];rfl
 obtain ⟨hh,gZ⟩:=zd2 hf Gh;clear hf Gh;clear hE hown hgrow Ga;go_wp2_with (at_make;refine wpList_make_full _ rfl _ _ 128 rfl w.heap.size 23 i1 (.slice none 0 0) 1 Tryz.underlying128 hj GJ Gu _ _ _ _ (n.nodes.length+1) rfl rfl (by first|rfl|simp|(go_simp;rfl)) (by first|rfl|simp|(go_simp;rfl)) ?b2 ?b3 ?b4 ?_)
 case b2=>rw [Gq];omega
 case b3=>unfold maxLen;omega
 case b4=>exact gn.size
 intro w2 hown hgrow;have hE:=qaR hown;rw [qb4] at hE;obtain ⟨g2,hg2⟩:∃g2,w1.heap.size=g2:=⟨_,rfl⟩
 have gc:Below w.heap.size w w2:=gn.grown hgrow gn.size sZ;have hS:=hh.out.grown hgrow sZ;have Gj:=gZ.out.grown hgrow sZ;have x1:w2.cell? ⟨w.heap.size,1,none⟩=some (.slice N n.nodes.length d):=by rw [hS.cell];rfl
 have hH:Blk w2 g2 23 (Zc (n.nodes.length+1) (Zb1 none 0 0)).toArray:=by rw [←hg2];simpa [Blk] using hE
 have hU:URow (λb=>b<w2.heap.size) w2.heap.size w2 g2 23 3 (Kn.ul I n.nodes.length 0 []):=by rw [Kn.ul_zero];exact URow.new hH.lt hH
 have hv:g2<w2.heap.size:=hH.lt;have Gw:w.heap.size+1<g2:=by omega
 rw [hg2];obtain ⟨Hk,g3,HU⟩:=zd3 hS Gj hU;clear hS Gj hU;clear hE hown hgrow hh gZ hH gn;obtain ⟨B,hB⟩:∃B,w2.heap.size=B:=⟨_,rfl⟩
 rw [hB] at HU hv;go_wp2_with fail;clear x1;have gF:¬g2=w.heap.size+1:=by omega
 have gK:¬w.heap.size+1=g2:=by omega
 have gN:¬w.heap.size=g2:=by omega
 have GN:¬g2=w.heap.size:=by omega
 go_loopw [30] (λi wr=>∃k:Nat,k<=n.nodes.length/\i=.int .i64 k/\Blk wr w.heap.size 59 #[.slice A n.inn.length c,.slice N n.nodes.length d]/\Below w.heap.size w wr/\B<=wr.heap.size/\Blk wr (w.heap.size+1) 3 ((Kn.wl I n.nodes.length k []).map (Za1 .i64)).toArray/\URow (λb=>b<B) B wr g2 23 3 (Kn.ul I n.nodes.length k [])) (λi _=>n.nodes.length-(intOf i).toNat)
 case atStart=>exact ⟨0,Zt _,rfl,Hk.out,gc,by omega,g3.out,HU.out⟩
 case round=>
  obtain ⟨k,hk,rfl,hf,HF,Gl,HZ,hU⟩:=hrel;clear Hk g3 HU gc hg2 hB
  by_cases HE:k<n.nodes.length
  ·
   obtain ⟨b,off,S,sc,J,ic,Q,qc,rfl,gG,-,hI,-⟩:=HR.out.2.at_ HE;have Hw:=gR.out _ (gmZ HE);have g6:=gS.out _ (gmZ HE);have HG:=gH.out k HE;have GX:=Hw.2.2.1;generalize n.nodes[k]=v at *;obtain ⟨⟨y0,y1,y2,y3,y4,y5,y6,y7,y8,y9⟩,-⟩:=gG.below HF;have gV:=HF.alloc HF.size (.cells #[.int .i64 v.op.kind,.int .i64 v.op.k,.int .i64 v.op.width,.int .i64 v.op.step,.int .i64 v.op.side,.int .i64 v.op.frm,.int .i64 v.op.to,.slice S v.op.s.length sc,.slice J v.ins.length ic,.slice Q v.p.length qc] 127);have Hp:=hf.alloc (.cells #[.int .i64 v.op.kind,.int .i64 v.op.k,.int .i64 v.op.width,.int .i64 v.op.step,.int .i64 v.op.side,.int .i64 v.op.frm,.int .i64 v.op.to,.slice S v.op.s.length sc,.slice J v.ins.length ic,.slice Q v.p.length qc] 127);have H9:=HZ.alloc (.cells #[.int .i64 v.op.kind,.int .i64 v.op.k,.int .i64 v.op.width,.int .i64 v.op.step,.int .i64 v.op.side,.int .i64 v.op.frm,.int .i64 v.op.to,.slice S v.op.s.length sc,.slice J v.ins.length ic,.slice Q v.p.length qc] 127);have Gb:=hU.agree (w':=wr.alloc (.cells #[.int .i64 v.op.kind,.int .i64 v.op.k,.int .i64 v.op.width,.int .i64 v.op.step,.int .i64 v.op.side,.int .i64 v.op.frm,.int .i64 v.op.to,.slice S v.op.s.length sc,.slice J v.ins.length ic,.slice Q v.p.length qc] 127)) (λb hb _=>Below.heap_alloc wr _ b hb);obtain ⟨Gm,GH,GL,hh,GI,HU,Ht,HY,gY⟩:=zd9 gG Hw g6 hf HZ hU Hp H9 Gb;have Gy:=zI HG;clear gG Hw g6 hf HZ hU Hp H9 Gb HG;go_wp2_with fail;clear y0 y1 y2 y3 y4 y5 y6 y7 y8 y9
   go_loopw [38] (λi wx=>∃m:Nat,m<=v.ins.length/\i=.int .i64 m/\Blk wx w.heap.size 59 #[.slice A n.inn.length c,.slice (some ⟨b,off,none⟩) n.nodes.length d]/\Below w.heap.size w wx/\B<=wx.heap.size/\Blk wx (w.heap.size+1) 3 ((Kn.wl I n.nodes.length k (v.ins.take m)).map (Za1 .i64)).toArray/\URow (λb=>b<B) B wx g2 23 3 (Kn.ul I n.nodes.length k (v.ins.take m))) (λi _=>v.ins.length-(intOf i).toNat)
   case atStart=>exact ⟨0,Zt _,rfl,Ht.out,gV,by simp;omega,by rw [List.take_zero];exact HY.out,by rw [List.take_zero];exact gY.out⟩
   case round=>
    obtain ⟨m,hm,rfl,hf,HH,gE,h4,h8⟩:=hrel;clear hh GI HU Ht HY gY HF gV Gl
    by_cases Ha:m<v.ins.length
    ·obtain ⟨b1,off1,rfl,-,hc⟩:=(Gm.out.below HH).2.2.1 m Ha
     rw [qa3 Ha] at hc;have hr:=GL.out _ (gmZ Ha);have hO:=Zb Ha
     by_cases hz:v.ins[m]=0
     ·rw [hz] at hc hO
      have HW:=zI (show Kn.wl I n.nodes.length k (v.ins.take (m+1))=Kn.wl I n.nodes.length k (v.ins.take m) by rw [hO,Kn.wl_skip]);have HV:=zI (show Kn.ul I n.nodes.length k (v.ins.take (m+1))=Kn.ul I n.nodes.length k (v.ins.take m) by rw [hO,Kn.ul_skip]);obtain ⟨HJ,gm,hh⟩:=zd3 h4 h8 hf;clear h4 h8 hf;clear hz hO hr;go_wp2_with fail;go_roundw
      case rel=>exact ⟨m+1,by omega,by go_num,hh.out,HH,gE,by rw [HW.out];exact HJ.out,by rw [HV.out];exact gm.out⟩
      case measure=>simp [intOf];omega
     ·have HW:=zI (show Kn.wl I n.nodes.length k (v.ins.take (m+1))=_ by rw [hO,Kn.wl_in _ _ _ _ hz])
      have Hb:=Kn.ul_in I n.nodes.length k (v.ins.take m) hz hr.1;rw [←hO] at Hb;obtain ⟨u,hu⟩:∃u:Nat,v.ins[m]=u:=⟨v.ins[m].toNat,by omega⟩
      have GW:((u:Int) != 0)=true:=by rw [←hu];simp [hz]
      rw [hu] at hc hr Hb;rw [show ((u:Int)).toNat=u by omega] at Hb;have g7:u<(Kn.ul I n.nodes.length k (v.ins.take m)).length:=by rw [Kn.ul_len];omega
      have gf:=Kn.ul_at I n.nodes.length k (v.ins.take m) g7;rw [←gf] at Hb;have HV:=zI Hb;have Gx:(Kn.ul I n.nodes.length k (v.ins.take m))[u].length<=(k+1)*1048576:=by rw [gf];exact Kn.uMid_le hL.out k soZ _
      have g1:(k+1)*1048576<=536870912:=by
       have:(k+1)*1048576<=512*1048576:=mlZ _ oZ;omega
      have Gz:=Kn.wMid_le hL.out k (l:=v.ins.take m) soZ ((k:Int)+1);obtain ⟨q,hq⟩:∃q,Kn.wMid I k (v.ins.take m) ((k:Int)+1)=q:=⟨_,rfl⟩
      rw [hq] at Gz HW
      have G2:wr.cell? ⟨w.heap.size+1,k+1,none⟩=some (.int .i64 (q:Int)):=by
       have e:=Kn.wl_at I n.nodes.length k (v.ins.take m) (u:=k+1) oZ;rw [h4.cell];simp only [Zk,List.getElem?_map,e];rw [show ((k+1:Nat):Int)=(k:Int)+1 by omega,hq]
       rfl
      have gg:=h4.frozen (k+1);obtain ⟨vv,GS,gM,gj⟩:=h8.at3 g7 (λb hb=>by omega);have gU:wr.heap.size<=((wr.setCell ⟨w.heap.size+1,k+1,none⟩ (.int .i64 ((q:Int)+1))).alloc (.cells #[.int .i64 ((k:Int)+1)] 3)).heap.size:=by simp
      obtain ⟨ho,gj⟩:=gj ((wr.setCell ⟨w.heap.size+1,k+1,none⟩ (.int .i64 ((q:Int)+1))).alloc (.cells #[.int .i64 ((k:Int)+1)] 3)) (λb hb gc=>by
       rw [Below.heap_alloc _ _ b (by simpa using hb)];exact Below.heap_setCell wr _ _ b (by rcases gc with h|h<;>simp<;>omega)) gU
      generalize (Kn.ul I n.nodes.length k (v.ins.take m))[u]=uu at *;obtain ⟨Av,cv,rfl⟩:=qak ho;have HT:∀b,(Zb1 Av uu.length cv).ownBlock=some b->B<=b:=λb hb=>by have:=gM b hb;omega
      have w1:IntKind.i64.wrap ((k:Int)+1)=(k:Int)+1:=Zc1 _ oZ;have w2:IntKind.i64.wrap ((q:Int)+1)=(q:Int)+1:=Zc1 _ oZ;have t1:((k:Int)+1).toNat=k+1:=by omega
      have l1:((k:Int)+1)<((n.nodes.length+1:Nat):Int):=by omega
      have l2:(u:Int)<((n.nodes.length+1:Nat):Int):=by omega
      have u0:(0:Int)<=u:=by omega
      obtain ⟨HJ,gm,hh,GC,GV,G3,G4,Hq,gr⟩:=zd9 h4 h8 hf gj gf Hb gM hq HT;clear h4 h8 hf gj gf Hb gM hq HT;clear hz hO hu;go_wp2_with (at_builtin;refine wpList_append_own_at _ rfl _ _ 23 rfl B 3 i0 (.int .i64 0) 1 8 Tryz.underlying23 hi gb H3 HO rfl dZ _ _ _ rfl ho ⟨wr.heap.size,0,none⟩ 1 1 [.int .i64 ((k:Int)+1)] rfl rfl ?c1 (by intro u hu;simp at hu;subst hu;rfl) (by unfold maxLen;omega) oZ soZ ?_)
      case c1=>
       intro j u hj
       match j,hj with
       | 0,hj=>
        simp at hj;subst hj;have e:=(Blk.new (wr.setCell ⟨w.heap.size+1,k+1,none⟩ (.int .i64 ((q:Int)+1))) 3 #[.int .i64 ((k:Int)+1)]).cell 0;simpa [Addr.add] using e
      intro v' w3 ht hgrow _ gh;obtain ⟨G0,gd,g8⟩:=GC.out v' w3 _ ht hgrow (by simpa using gh);have gl:=gr.out;have HL:Below w.heap.size w w3:=((HH.setCell (p:=⟨w.heap.size+1,k+1,none⟩) sZ (.int .i64 ((q:Int)+1))).alloc (by simpa using HH.size) (.cells #[.int .i64 ((k:Int)+1)] 3)).grown hgrow (by simp;have:=HH.size;omega) (λb hb=>by have:=gl b hb;omega);have GQ:B<=w3.heap.size:=Zv (Zv gE gU) hgrow.size;have hK:=((hh.out.far (p:=⟨w.heap.size+1,k+1,none⟩) sZ (.int .i64 ((q:Int)+1))).alloc (.cells #[.int .i64 ((k:Int)+1)] 3)).grown hgrow (λe=>by have:=gl _ e.symm;omega);have hK:=hK.far (p:=⟨g2,u,none⟩) gN v';have gk:=((HJ.out.set_ (k+1) (.int .i64 ((q:Int)+1))).alloc (.cells #[.int .i64 ((k:Int)+1)] 3)).grown hgrow (λe=>by have:=gl _ e.symm;omega);have gk:=gk.far (p:=⟨g2,u,none⟩) gK v';have gw:=HL.setCell (p:=⟨g2,u,none⟩) soZ v';have HK:=zI (show Blk (w3.setCell ⟨g2,u,none⟩ v') (w.heap.size+1) 3 (((Kn.wl I n.nodes.length k (v.ins.take m)).set (k+1) ((q:Int)+1)).map (Za1 .i64)).toArray by simpa [List.map_set] using gk);obtain ⟨GA,HQ⟩:=zd2 g8 hK;clear g8 hK;clear gk gl hgrow gh HL GS;obtain ⟨A9,c9,rfl⟩:=qak ht;clear ht;go_wp2_with fail;go_roundw
      case rel=>exact ⟨m+1,by omega,by go_num,HQ.out,gw,by simpa using GQ,by rw [HW.out];exact HK.out,by rw [HV.out];exact GA.out⟩
      case measure=>simp [intOf];omega
    ·obtain rfl:m=v.ins.length:=by omega
     rw [Zg] at h4 h8;have HG:=Gy.out;rw [←HG,Kn.wl_next] at h4;rw [←HG,Kn.ul_next] at h8;obtain ⟨HJ,gm,hh⟩:=zd3 h4 h8 hf;clear h4 h8 hf;clear HG;go_wp2_with fail;go_roundw
     case rel=>exact ⟨k+1,by omega,by go_num,hh.out,HH,gE,HJ.out,gm.out⟩
     case measure=>simp [intOf];omega
  ·obtain rfl:k=n.nodes.length:=by omega
   obtain ⟨C,hC⟩:∃C,wr.heap.size=C:=⟨_,rfl⟩
   have hinv:SInv 59 #[.slice A n.inn.length c,.slice N n.nodes.length d] B C g2 23 3 (Kn.wl I n.nodes.length n.nodes.length []) (Kn.ul I n.nodes.length n.nodes.length []) w wr:=⟨hf,HF,by omega,HZ,by rw [←hC];exact hU.shut⟩
   have h7:B<=C:=by omega
   have h6:w.heap.size+1<B:=by omega
   have hg:=zI hinv;clear hinv;clear HZ hU hf HF Gl;go_wp2_with fail;clear hC
   go_loopw [9,10] (λr i wx=>∃k:Nat,k<=n.nodes.length/\i=.int .i64 ((k:Int)+1)/\SInv 59 #[.slice A n.inn.length c,.slice N n.nodes.length d] B C g2 23 3 (Kn.wl I n.nodes.length n.nodes.length []) (Kn.ul I n.nodes.length n.nodes.length []) w wx/\wx.ownsRow C 3 1 r (Kn.rk I k).length ((Kn.rk I k).map (Za1 .i64))) (λ_ i _=>n.nodes.length+1-(intOf i).toNat)
   case atStart=>exact ⟨0,Zt _,rfl,hg.out,by simpa [Kn.rk,Kn.ids] using World.ownsRow_nil wr C 3 1⟩
   case round=>
    obtain ⟨k,hk,rfl,hinv,hown⟩:=hrel;clear hg;have hx:wr.cell? ⟨w.heap.size,1,none⟩=some (.slice N n.nodes.length d):=by rw [hinv.1.cell];rfl
    obtain ⟨Ar,cr,rfl⟩:=qak hown
    by_cases HE:k<n.nodes.length
    ·
     have GU:wr.cell? ⟨w.heap.size+1,k+1,none⟩=some (.int .i64 (Kn.wt I [] ((k:Int)+1):Nat)):=by
      have e:=Kn.wl_at I n.nodes.length n.nodes.length [] (u:=k+1) oZ;rw [hinv.2.2.2.1.cell];simp only [Zk,List.getElem?_map,e];rw [show ((k+1:Nat):Int)=(k:Int)+1 by omega,Kn.wMid_end oZ oZ]
      rfl
     have hs:=Kn.rk_succ I k;have hl:=Kn.rk_len I k;generalize Kn.wt I [] ((k:Int)+1)=q at *;have t1:((k:Int)+1).toNat=k+1:=by omega
     have l0:(k:Int)+1<=(n.nodes.length:Int):=by omega
     have l1:((k:Int)+1)<((n.nodes.length+1:Nat):Int):=by omega
     by_cases hq:q=0
     ·subst hq
      rw [ipZ rfl] at hs;have Hg:=hinv.fr ((Fr.refl (λ_=>False) wr).alloc (.cells #[.int .i64 ((k:Int)+1)] 3)) (λb hb=>hb.elim) h6 h7 hv;have ho:=qaz hown (.cells #[.int .i64 ((k:Int)+1)] 3);have gi:∀b,(Zb1 Ar (Kn.rk I k).length cr).ownBlock=some b->C<=b:=λb hb=>(hown.lt b hb).1
      obtain ⟨hg,Hs,Hi⟩:=zd3 hinv hs Hg;clear hinv hs Hg;clear hown;go_wp2_with (at_builtin;refine wpList_append_own_at _ rfl _ _ 23 rfl C 3 i0 (.int .i64 0) 1 8 Tryz.underlying23 hi gb H3 HO rfl dZ _ _ _ rfl ho ⟨wr.heap.size,0,none⟩ 1 1 [.int .i64 ((k:Int)+1)] rfl rfl ?c1 (by intro u hu;simp at hu;subst hu;rfl) (by unfold maxLen;omega) oZ ?c2 ?_)
      case c1=>exact qbC wr _ _
      case c2=>exact Hi.out.2.2.1
      intro v' w3 ht hgrow _ gh;have Gt:=zI (Hi.out.fr (Fr.of_grown (S:=λb=>C<=b) hgrow (λb hb _=>gi b hb)) (λb hb=>hb) h6 h7 hv);have Gv:=zI (show w3.ownsRow C 3 1 v' (Kn.rk I (k+1)).length ((Kn.rk I (k+1)).map (Za1 .i64)) by rw [Hs.out];simpa using ht);clear ht hgrow gh;go_wp2_with fail;go_roundw
      case rel=>exact ⟨k+1,by omega,by go_num,Gt.out,Gv.out⟩
      case measure=>simp [intOf];omega
     ·have Gr:((q:Int)==0)=false:=by simp;omega
      rw [inZ hq] at hs;obtain ⟨hg,Hs,h5⟩:=zd3 hinv hs hown;clear hinv hs hown;go_wp2_with fail;go_roundw
      case rel=>exact ⟨k+1,by omega,by go_num,hg.out,by rw [Hs.out];exact h5.out⟩
      case measure=>simp [intOf];omega
    ·obtain rfl:k=n.nodes.length:=by omega
     rw [Kn.rk_all] at hown;have l0:¬((n.nodes.length:Int)+1<=(n.nodes.length:Int)):=by omega
     rw [Kn.wm_start] at hinv;have HS:(Kn.rk I n.nodes.length).length=(Kn.ready I n.nodes.length []).length:=by rw [Kn.rk_all]
     rw [HS];have gi:∀b,(Zb1 Ar (Kn.ready I n.nodes.length []).length cr).ownBlock=some b->C<=b/\b<wr.heap.size:=λb hb=>hown.lt b hb
     obtain ⟨hg,h5,gW⟩:=zd3 hinv hown gi;clear hinv hown gi;go_wp2_with (at_make;refine wpList_make_own _ rfl _ _ 23 rfl C 3 i0 (.int .i64 0) 1 Tryz.underlying23 hi gb H3 _ _ _ n.nodes.length rfl (by first|rfl|simp|(go_simp;rfl)) (by first|rfl|simp|(go_simp;rfl)) ?b2 ?b3 ?b4 ?_)
     case b2=>first|omega|(rw [HO];omega)
     case b3=>unfold maxLen;omega
     case b4=>exact hg.out.2.2.1
     intro w4 hW hgrow;have Gk:=zI (hg.out.fr (Fr.of_grown (S:=λb=>C<=b) hgrow (λb hb _=>by cases hb)) (λb hb=>hb) h6 h7 hv);have g0:=zI (show Two C 3 w4 (.slice Ar (Kn.ready I n.nodes.length []).length cr) (.slice (some ⟨wr.heap.size,0,none⟩) 0 n.nodes.length) (Kn.ready I n.nodes.length []) [] from ⟨qdi h5.out hgrow (λb _ h=>by cases h),hW,λb hb h=>by have:=(gW.out b hb).2;simp [Value.ownBlock] at h;omega⟩);clear hgrow;have H0:=zI hW;clear hW;go_wp2_with fail;clear hx l0 h5 hg gW;generalize hro:Zb1 Ar (Kn.ready I n.nodes.length []).length cr=r0 at *;generalize hoo:Zb1 (some ⟨wr.heap.size,0,none⟩) 0 n.nodes.length=o0 at *;clear hro hoo HS hk HE x1 e1 gX GO
     go_loopw [9,11] (λr o wx=>∃k:Nat,(Kn.go I n.nodes.length k).length=k/\SInv 59 #[.slice A n.inn.length c,.slice N n.nodes.length d] B C g2 23 3 (Kn.wm I n.nodes.length (Kn.go I n.nodes.length k) []) (Kn.ul I n.nodes.length n.nodes.length []) w wx/\Two C 3 wx r o (Kn.ready I n.nodes.length (Kn.go I n.nodes.length k)) (Kn.go I n.nodes.length k)) (λ_ o _=>n.nodes.length+1-slen o)
     case atStart=>exact ⟨0,rfl,Gk.out,g0.out⟩
     case round=>
      obtain ⟨k,HS,hinv,he⟩:=hrel;clear Gk g0 H0;obtain ⟨Ar,cr,rfl⟩:=qak he.1;obtain ⟨Ao,co,rfl⟩:=qak he.2.1;have Hm:=Kn.go_ok I n.nodes.length k;have hy:=@Kn.go_more I n.nodes.length k;have hw:=@Kn.order_of_stuck I n.nodes.length k HS;generalize Kn.go I n.nodes.length k=out at *;have hV:=@Kn.mid_start I n.nodes.length out;have gq:=Kn.ready_len I n.nodes.length out;have GZ:=Hm.len;subst HS;cases hrd:Kn.ready I n.nodes.length out with
      | nil=>
       rw [hrd] at he;have g5:=hw hrd;rw [←HM.out] at g5;subst g5;clear hy hV;obtain ⟨hg,hA,ge,gC,Gc⟩:=zd5 hinv he Hm hw hrd;clear hinv he Hm hw hrd;go_wp2_with fail;go_ret;obtain ⟨q1,q2,q3⟩:=qbo hA.out.2.1;exact ⟨Ao,co,rfl,q1,q2,q3,hg.out.2.1⟩
      | cons id rest=>
       have hid:id∈Kn.ready I n.nodes.length out:=by rw [hrd];simp
       have Gp:=(Kn.mem_ready.1 hid).1;obtain ⟨j,rfl⟩:∃j:Nat,id=(j:Int):=⟨id.toNat,by omega⟩
       replace hy:=hy hrd;replace hV:=hV hrd;rw [hrd] at he gq;obtain ⟨Gf,-⟩:=qbo he.1;obtain ⟨b1,off1,rfl,-,Hv⟩:=Gf 0 sZ;rw [Zx] at Hv;replace Hv:wr.cell? ⟨b1,off1,none⟩=some (.int .i64 (j:Int)):=Hv;have hz:0<rest.length+1:=by omega
       clear hw Gf;have Go:rest.length+1<=512:=by simp at gq;omega
       clear gq hz;rw [List.length_cons] at he;have hX:=zI hid;clear hid;obtain ⟨hg,hA,ge,H1,H5,Gc⟩:=zd6 hinv he Hm hV hy hrd;clear hinv he Hm hV hy hrd;go_wp2_with fail;refine (qf5 C _ _ rest _ soZ hA.out.1).mono ?_;rintro e w5 ⟨v5,rfl,gO,gD,H8⟩;have He:=hg.out.fr gD (λb hb=>(hA.out.1.lt b hb).1) h6 h7 hv;have Hf:=hA.out.left gD gO H8;have Hj:=He.fr ((Fr.refl (λ_=>False) w5).alloc (.cells #[.int .i64 (j:Int)] 3)) (λb hb=>hb.elim) h6 h7 hv;have Hl:=Hf.new (.cells #[.int .i64 (j:Int)] 3);obtain ⟨A5,c5,rfl⟩:=qak gO;clear hg hA gD H8 He Hf gO Hv;obtain ⟨hY,hM⟩:=zd2 Hj Hl;clear Hj Hl;go_wp2_with (at_builtin;refine wpList_append_own_at _ rfl _ _ 23 rfl C 3 i0 (.int .i64 0) 1 8 Tryz.underlying23 hi gb H3 HO rfl dZ _ _ _ rfl hM.out.2.1 ⟨w5.heap.size,0,none⟩ 1 1 [.int .i64 (j:Int)] rfl rfl ?c1 (by intro u hu;simp at hu;subst hu;rfl) (by unfold maxLen;omega) oZ ?c2 ?_)
       case c1=>exact qbC w5 _ _
       case c2=>exact hY.out.2.2.1
       intro v7 w7 Hn hT _ H2;have HC:Fr (λb=>(Zb1 Ao out.length co).ownBlock=some b) _ w7:=Fr.of_grown hT (λb hb _=>hb);have hZ:=hY.out.fr HC (λb hb=>(hM.out.2.1.lt b hb).1) h6 h7 hv;have hJ:=hM.out.right (zo':=out++[(j:Int)]) HC (by simpa using Hn) (by simpa using H2);clear hY hM Hn hT H2 HC;have Ge:j<(Kn.ul I n.nodes.length n.nodes.length []).length:=by rw [Kn.ul_len];omega
       obtain ⟨Au,cu,gB,h0,g9⟩:=hZ.read Ge;have gQ:(Kn.ul I n.nodes.length n.nodes.length [])[j]=Kn.users I n.nodes.length (j:Int):=by rw [Kn.ul_at,Kn.uMid_end oZ]
       rw [gQ] at gB h0
       have Hb:(Kn.users I n.nodes.length (j:Int)).length<=537919488:=by
        have h1:=Kn.uMid_le hL.out n.nodes.length (l:=[]) sZ (j:Int);rw [Kn.uMid_end oZ] at h1;have:(n.nodes.length+1)*1048576<=513*1048576:=mlZ _ oZ;omega
       have gI:=@Kn.mid_end_ready I n.nodes.length out (j:Int) hX.out;have gJ:=@Kn.wm_next I n.nodes.length out (j:Int) hX.out;have gP:=λa b u (h:Kn.users I n.nodes.length (j:Int)=a++u::b)=>Kn.mid_pos ge.out hX.out h
       have gv:=λa b u (h:Kn.users I n.nodes.length (j:Int)=a++u::b)=>Kn.mid_stay ge.out hX.out h
       have gu:=λa b u (h:Kn.users I n.nodes.length (j:Int)=a++u::b)=>Kn.mid_put' ge.out hX.out h
       obtain ⟨us,husd⟩:∃us,Kn.users I n.nodes.length (j:Int)=us:=⟨_,rfl⟩
       rw [husd] at gB h0 Hb gI gJ gP gv gu;obtain ⟨A7,c7,rfl⟩:=qak hJ.2.1;generalize hro:Zb1 A5 rest.length c5=r5 at *;clear hro;rw [←H1.out] at hJ;have j0:(0:Int)<=(j:Int):=by omega
       have j1:(j:Int)<((n.nodes.length+1:Nat):Int):=by omega
       obtain ⟨Hd,Hh,gy,g4,GM,GE,GF,GG,GP⟩:=zd9 hZ hJ h0 g9 gQ husd gI gJ gP;obtain ⟨Gs,GB⟩:=zd2 gv gu;clear hZ hJ h0 g9 gQ husd gI gJ gP gv gu;clear Gc H1;go_wp2_with fail;clear GM;clear gB j0 j1 Ge
       go_loopw [9,101] (λr i wx=>∃m:Nat,m<=us.length/\i=.int .i64 m/\SInv 59 #[.slice A n.inn.length c,.slice N n.nodes.length d] B C g2 23 3 (Kn.wm I n.nodes.length out (us.take m)) (Kn.ul I n.nodes.length n.nodes.length []) w wx/\Two C 3 wx r (.slice A7 (out++[(j:Int)]).length c7) (Kn.midReady I n.nodes.length out (j:Int) (us.take m)) (out++[(j:Int)])/\Ints .i64 wx Au us) (λ_ i _=>us.length-(intOf i).toNat)
       case atStart=>exact ⟨0,Zt _,rfl,Hd.out,Hh.out,gy.out⟩
       case round=>
        obtain ⟨m,hm,rfl,hinv,he,h0⟩:=hrel;clear Hd Hh gy
        by_cases Ha:m<us.length
        ·have hP:us=us.take m++us[m]::us.drop (m+1):=by rw [←Zd Ha,Zn]
         have hO:=Zb Ha;obtain ⟨b1,off1,rfl,-,Hv⟩:=h0 m Ha;rw [qa3 Ha] at Hv;obtain ⟨p1,p2,p3,p4,p5⟩:=GP.out _ _ _ hP;have HB:=Gs.out _ _ _ hP;have HD:=GB.out _ _ _ hP;have HI:=@Kn.wm_in I n.nodes.length out (us.take m) us[m] p3;rw [←hO] at HB HD HI p5;obtain ⟨u,hu⟩:∃u:Nat,us[m]=(u:Int):=⟨us[m].toNat,by omega⟩
         rw [hu] at Hv p1 p2 p3 p4 p5 HB HD HI;rw [tnZ] at HI;have GK:Kn.mid I out (us.take m) (u:Int)<=1048576:=Zv (Kn.mid_le _ _ _ _) (hL.out _)
         have Gd:wr.cell? ⟨w.heap.size+1,u,none⟩=some (.int .i64 ((Kn.mid I out (us.take m) (u:Int):Nat):Int)):=by
          rw [hinv.2.2.2.1.cell];simp only [Zk,List.getElem?_map];rw [Kn.wm_at _ _ _ _ oZ oZ]
          rfl
         have G1:=hinv.2.2.2.1.frozen u;generalize hq2:Kn.mid I out (us.take (m+1)) (u:Int)=q at *;rw [←p5] at Gd GK;have hp:=hinv.wait u (q:Int) h6 h7 gF;rw [←HI] at hp;have gg:Fr (λb=>b=w.heap.size+1) wr (wr.setCell ⟨w.heap.size+1,u,none⟩ (.int .i64 (q:Int))):=(Fr.refl (λb=>b=w.heap.size+1) wr).setCell (p:=⟨w.heap.size+1,u,none⟩) (λ_=>rfl) (.int .i64 (q:Int));have hn:=he.fr gg (λb hb=>by omega);have H7:=h0.set_far (p:=⟨w.heap.size+1,u,none⟩) (λa ha=>by have:=g4.out a ha;simp;omega) (.int .i64 (q:Int));have u0:(0:Int)<=(u:Int):=by omega
         have u1:(u:Int)<((n.nodes.length+1:Nat):Int):=by omega
         have gA:((q+1:Nat):Int)=(q:Int)+1:=by omega
         rw [gA] at Gd;have GY:(q:Int)+1-1=(q:Int):=by omega
         have GR:=Kn.midReady_len I n.nodes.length out (j:Int) (us.take m);have HA:=Kn.midReady_sorted I n.nodes.length out (j:Int) (us.take m)
         by_cases hq:q=0
         ·subst hq
          replace HD:=HD rfl;generalize Kn.midReady I n.nodes.length out (j:Int) (us.take m)=mr at *;have HX:mr.Pairwise (·<=·):=HA.imp λh=>Int.le_of_lt h
          clear HB HI hinv he h0 hO hP p5 hq2 gA HA gg;rw [show ((0:Nat):Int)=0 from rfl] at hp hn H7;obtain ⟨h3,hF,gx,Hu,GD,gL⟩:=zd6 hp hn H7 hu HD HX;clear hp hn H7 hu HD HX;go_wp2_with fail;refine (qf6 C _ (u:Int) mr _ oZ gL.out hF.out.1).mono ?_;rintro e w8 ⟨⟨bb,rfl⟩,qq,rfl⟩;go_wp2_with fail;have gT:mr.countP (λx=>decide (x<(u:Int)))<=mr.length:=List.countP_le_length;have gd:=((Fr.refl (λ_=>False) (wr.setCell ⟨w.heap.size+1,u,none⟩ (.int .i64 0))).drewN qq).alloc (.cells #[.int .i64 (u:Int)] 3);have hQ:=h3.out.fr gd (λb hb=>hb.elim) h6 h7 hv;have hD:=hF.out.fr gd (λb hb=>hb.elim);have Gi:=(gx.out.drewN qq).alloc (.cells #[.int .i64 (u:Int)] 3)
          have HL:Blk (((wr.setCell ⟨w.heap.size+1,u,none⟩ (.int .i64 0)).drewN qq).alloc (.cells #[.int .i64 (u:Int)] 3)) wr.heap.size 3 #[.int .i64 (u:Int)]:=by
           have:=Blk.new ((wr.setCell ⟨w.heap.size+1,u,none⟩ (.int .i64 0)).drewN qq) 3 #[.int .i64 (u:Int)];simpa using this
          have H6:u9.ownBlock≠some wr.heap.size:=λe=>by have:=(hF.out.1.lt _ e).2;simp at this
          refine (qf4 C u9 mr (u:Int) _ wr.heap.size _ gT oZ hQ.2.2.1 hD.1 HL H6).mono ?_;rintro e w10 ⟨v10,rfl,HP,h9,Ho⟩;have hN:=hQ.fr h9 (λb hb=>(hD.1.lt b hb).1) h6 h7 hv;have hG:=hD.left h9 HP Ho;have H4:=h9.ints Gi (λa ha hb=>by have h1:=(hD.1.lt _ hb).1;have h2:=(g4.out a ha).2;omega);rw [←GD.out] at hG;clear hQ hD Gi HL gd HP h9 Ho gT H6;obtain ⟨Hz,Hy,gt⟩:=zd3 hN hG H4;clear hN hG H4;go_wp2_with fail;go_roundw
          case rel=>exact ⟨m+1,by omega,by go_num,Hz.out,Hy.out,gt.out⟩
          case measure=>simp [intOf];omega
         ·have Gr:((q:Int)==0)=false:=by simp;omega
          replace HB:=HB hq;rw [←HB] at hn;clear HB HD HI hinv he h0 hO hP p5 hq2 gA HA gg;obtain ⟨h3,hF,gx,Hu⟩:=zd4 hp hn H7 hu;clear hp hn H7 hu;go_wp2_with fail;go_roundw
          case rel=>exact ⟨m+1,by omega,by go_num,h3.out,hF.out,gx.out⟩
          case measure=>simp [intOf];omega
        ·obtain rfl:m=us.length:=by omega
         rw [Zg] at hinv he;rw [GG.out] at hinv;rw [GF.out,show (out++[(j:Int)]).length=out.length+1 by simp] at he;have gp:=H5.out;rw [←gp] at hinv he;have Gg:(Kn.go I n.nodes.length (out.length+1)).length=out.length+1:=by rw [gp];simp
         obtain ⟨hg,hA,gy,GT,Gn⟩:=zd5 hinv he h0 gp Gg;clear hinv he h0 gp Gg;go_wp2_with fail;exact ⟨⟨out.length+1,Gn.out,hg.out,hA.out⟩,by simp only [slen];omega⟩
def StudyP (n:NetD) (w:Zp1) (e:Ending) (w':Zp1):Prop:=
 Below w.heap.size w w'/\((Nt.check n=0/\∃O oc g,e=.returned (.tuple #[.agg #[.slice O n.nodes.length oc,.slice (some ⟨g,0,none⟩) (n.nodes.length+1) (n.nodes.length+1),.int .i64 (Nt.loss n.nodes)],.int .i64 0])/\
   Ints .i64 w' O (Nt.sorted n.nodes)/\n.nodes.length<=oc/\oc<=9223372036854775807/\w.heap.size<=g/\ShpRow w' g 24 (Nt.shapes n))∨
  (Nt.check n≠0/\e=.returned (.tuple #[.agg #[.slice none 0 0,.slice none 0 0,.int .i64 0],.int .i64 (Nt.check n)])))
namespace Nt
theorem check_many {n:NetD} (h:n.nodes.length<1∨512<n.nodes.length):check n=12:=by unfold check;rw [ipZ h]
theorem check_in {n:NetD} (h:¬(n.nodes.length<1∨512<n.nodes.length)) (h2:Sh.right n.inn=false):check n=20:=by unfold check;rw [inZ h,ipZ h2]
theorem check_bads {n:NetD} (h:¬(n.nodes.length<1∨512<n.nodes.length)) (h2:Sh.right n.inn=true) (h3:bads n.nodes.length n.nodes≠0):check n=bads n.nodes.length n.nodes:=by
 unfold check;rw [inZ h,inZ (by simp [h2]),ipZ h3]
theorem check_cyc {n:NetD} (h:¬(n.nodes.length<1∨512<n.nodes.length)) (h2:Sh.right n.inn=true) (h3:bads n.nodes.length n.nodes=0) (h4:(sorted n.nodes).length≠n.nodes.length):check n=22:=by
 unfold check;rw [inZ h,inZ (by simp [h2]),inZ (by simp [h3]),ipZ h4]
theorem check_lay {n:NetD} (h:¬(n.nodes.length<1∨512<n.nodes.length)) (h2:Sh.right n.inn=true) (h3:bads n.nodes.length n.nodes=0) (h4:(sorted n.nodes).length=n.nodes.length) (h5:(lay n.nodes (start n) (sorted n.nodes)).2≠0):check n=(lay n.nodes (start n) (sorted n.nodes)).2:=by
 unfold check;rw [inZ h,inZ (by simp [h2]),inZ (by simp [h3]),inZ (by simp [h4]),ipZ h5]
theorem check_loss {n:NetD} (h:¬(n.nodes.length<1∨512<n.nodes.length)) (h2:Sh.right n.inn=true) (h3:bads n.nodes.length n.nodes=0) (h4:(sorted n.nodes).length=n.nodes.length) (h5:(lay n.nodes (start n) (sorted n.nodes)).2=0) (h6:lossOk n.nodes=false):check n=23:=by
 unfold check;rw [inZ h,inZ (by simp [h2]),inZ (by simp [h3]),inZ (by simp [h4]),inZ (by simp [h5]),ipZ h6]
theorem check_last {n:NetD} (h:¬(n.nodes.length<1∨512<n.nodes.length)) (h2:Sh.right n.inn=true) (h3:bads n.nodes.length n.nodes=0) (h4:(sorted n.nodes).length=n.nodes.length) (h5:(lay n.nodes (start n) (sorted n.nodes)).2=0) (h6:lossOk n.nodes=true):
  check n=if Safe.prod ((shapes n).getD (loss n.nodes).toNat [])≠1 then 23 else 0:=by
 unfold check;rw [inZ h,inZ (by simp [h2]),inZ (by simp [h3]),inZ (by simp [h4]),inZ (by simp [h5]),inZ (by simp [h6])]
theorem bads_op {n:Nat} {ns:List NodeD} {k:Nat} (hk:k<ns.length) (h:∀j (hj:j<ns.length),j<k->Od.right ns[j].op=true/\ns[j].ins.all (λi=>decide (0<=i/\i<=n))=true) (hr:Od.right ns[k].op=false):bads n ns=21:=by
 rw [qbO h,Zd hk,bads,inZ (by simp [hr])]
theorem bads_in {n:Nat} {ns:List NodeD} {k:Nat} (hk:k<ns.length) (h:∀j (hj:j<ns.length),j<k->Od.right ns[j].op=true/\ns[j].ins.all (λi=>decide (0<=i/\i<=n))=true) (hr:Od.right ns[k].op=true) {m:Nat} (hm:m<ns[k].ins.length) (hb:¬(0<=ns[k].ins[m]/\ns[k].ins[m]<=n)):bads n ns=11:=by
 rw [qbO h,Zd hk,bads,ipZ hr,inZ];intro ha;have:=List.all_eq_true.1 ha _ (gmZ hm);simp at this;exact hb this
theorem bads_none {n:Nat} {ns:List NodeD} (h:∀j (hj:j<ns.length),j<ns.length->Od.right ns[j].op=true/\ns[j].ins.all (λi=>decide (0<=i/\i<=n))=true):bads n ns=0:=by
 rw [qbO h,List.drop_length,bads]
end Nt
def qdk (n:NetD) (k:Nat):Prop:=∀j (hj:j<n.nodes.length),j<k->Od.right n.nodes[j].op=true/\n.nodes[j].ins.all (λi=>decide (0<=i/\i<=n.nodes.length))=true
theorem qav {B g:Nat} {w w1:Zp1} (h:Below B w w1) (hg:B<=g) (a b c:Value):Below B w (((w1.setCell ⟨g,0,none⟩ a).setCell ⟨g,1,none⟩ b).setCell ⟨g,2,none⟩ c):=
 ((h.setCell (p:=⟨g,0,none⟩) hg a).setCell (p:=⟨g,1,none⟩) hg b).setCell (p:=⟨g,2,none⟩) hg c
theorem qdM {g k:Nat} {w:Zp1} (a b c:Value) (h:k≠g):(((w.setCell ⟨g,0,none⟩ a).setCell ⟨g,1,none⟩ b).setCell ⟨g,2,none⟩ c).heap[k]? = w.heap[k]?:=by
 rw [Below.heap_setCell _ ⟨g,2,none⟩ c k h,Below.heap_setCell _ ⟨g,1,none⟩ b k h,Below.heap_setCell _ ⟨g,0,none⟩ a k h]
theorem qdN {g:Nat} {t:TypeId} {w:Zp1} {S:Option Addr} {zs:List Int} (hI:Ints .i64 w S zs) (hb:Blk w g t #[.slice none 0 0,.slice none 0 0,.int .i64 0]) (hz:∀z∈zs,z≠0) (a b c:Value):
  Ints .i64 (((w.setCell ⟨g,0,none⟩ a).setCell ⟨g,1,none⟩ b).setCell ⟨g,2,none⟩ c) S zs:=λj hj=>by
 obtain ⟨b0,off,e,hl,hc⟩:=hI j hj
 have ha:b0≠g:=λq=>by
  subst q;rw [hb.cell] at hc;have hd:zs.getD j 0≠0:=by rw [qa3 hj];exact hz _ (gmZ hj)
  match h:off+j,hc with
  | 0,hc=>simp at hc
  | 1,hc=>simp at hc
  | 2,hc=>simp at hc;exact hd (by simpa using hc.symm)
  | q+3,hc=>simp at hc
 refine ⟨b0,off,e,by simpa using hl,?_⟩;exact (Zi1 (w:=w) (a:=⟨b0,off+j,none⟩) (qdM a b c ha)).trans hc
theorem qej {g g':Nat} {t t':TypeId} {w:Zp1} {sh:List (List Int)} (h:ShpRow w g' t' sh) (hb:Blk w g t #[.slice none 0 0,.slice none 0 0,.int .i64 0]) (hg:g'≠g) (hz:∀s∈sh,∀z∈s,z≠0) (a b c:Value):
  ShpRow (((w.setCell ⟨g,0,none⟩ a).setCell ⟨g,1,none⟩ b).setCell ⟨g,2,none⟩ c) g' t' sh:=by
 obtain ⟨vs,hl,hk,hv⟩:=h;refine ⟨vs,hl,(qdM a b c hg).trans hk,λj hj=>?_⟩;obtain ⟨S,d,e,hI,h2⟩:=hv j hj;exact ⟨S,d,e,qdN hI hb (hz _ (gmZ hj)) a b c,h2⟩
theorem qaG {w:Zp1} {g:Nat} {t:TypeId} (h:Blk w g t #[.slice none 0 0,.slice none 0 0,.int .i64 0]):
  w.cell? ⟨g,0,none⟩=some (.slice none 0 0)/\w.cell? ⟨g,1,none⟩=some (.slice none 0 0)/\w.cell? ⟨g,2,none⟩=some (.int .i64 0)/\w.frozen? ⟨g,0,none⟩=false/\w.frozen? ⟨g,1,none⟩=false/\w.frozen? ⟨g,2,none⟩=false:=
 ⟨h.cell 0,h.cell 1,h.cell 2,h.frozen 0,h.frozen 1,h.frozen 2⟩
set_option maxRecDepth 20000 in
theorem qdl (A N:Option Addr) (c d:Nat) (n:NetD) (w:Zp1) (hok:n.ok) (hR:NetR w A N n) (hd:n.nodes.length<=d):
  Calls Tryz.prog 126 #[.agg #[.slice A n.inn.length c,.slice N n.nodes.length d]] w (StudyP n w):=by
 have gP:=hok.2.1;have gJ:=hok.1;have hY:=qdF w (.cells #[.slice A n.inn.length c,.slice N n.nodes.length d] 59) (.cells #[.slice none 0 0,.slice none 0 0,.int .i64 0] 188);have HZ:=(Blk.new w 59 #[.slice A n.inn.length c,.slice N n.nodes.length d]).alloc (.cells #[.slice none 0 0,.slice none 0 0,.int .i64 0] 188);have HE:=Blk.new (w.alloc (.cells #[.slice A n.inn.length c,.slice N n.nodes.length d] 59)) 188 #[.slice none 0 0,.slice none 0 0,.int .i64 0];rw [Zh1] at HE;have HH:=hR.below hY (lrZ _)
 by_cases hE:n.nodes.length<1∨512<n.nodes.length
 ·have HC:=zI (Nt.check_many hE)
  obtain ⟨HR,Hp,HU⟩:=zd3 hR hok HH;clear hR hok HH;clear HZ HE;rcases hE with h|h
  ·have d1:decide ((n.nodes.length:Int)<1)=true:=by simp;omega
   go_enter Tryz.func126,Tryz.ntmps126;go_wp2_with fail;exact Zk1 (v:=.tuple #[.agg #[.slice none 0 0,.slice none 0 0,.int .i64 0],.int .i64 12]) (by simp [results,Tryz.results126,go_sem]) rfl ⟨hY,.inr (by rw [HC.out];exact ⟨by omega,rfl⟩)⟩
  ·have d1:decide ((n.nodes.length:Int)<1)=false:=by simp;omega
   have d2:decide ((512:Int)<(n.nodes.length:Int))=true:=by simp;omega
   go_enter Tryz.func126,Tryz.ntmps126;go_wp2_with fail;exact Zk1 (v:=.tuple #[.agg #[.slice none 0 0,.slice none 0 0,.int .i64 0],.int .i64 12]) (by simp [results,Tryz.results126,go_sem]) rfl ⟨hY,.inr (by rw [HC.out];exact ⟨by omega,rfl⟩)⟩
 ·have d1:decide ((n.nodes.length:Int)<1)=false:=by simp;omega
  have d2:decide ((512:Int)<(n.nodes.length:Int))=false:=by simp;omega
  have HX:n.nodes.length<=512:=by omega
  have gG:1<=n.nodes.length:=by omega
  obtain ⟨HR,Hp,HU,gj,gg,hf⟩:=zd6 hR hok HH HZ HE hE;clear hR hok HH HZ HE hE;go_enter Tryz.func126,Tryz.ntmps126;go_wp2_with fail;refine (shape_right A c n.inn _ oZ HU.out.1).mono ?_;rintro e w1 ⟨rfl,HL⟩;have hP:Below w.heap.size w w1:=hY.trans (HL.mono soZ);have hb:=gj.out.below HL soZ;have hV:=gg.out.below HL sZ;obtain ⟨y0,y1,y2,f0,f1,f2⟩:=qaG hV;have x0:w1.cell? ⟨w.heap.size,0,none⟩=some (.slice A n.inn.length c):=by rw [hb.cell];rfl
  have x1:w1.cell? ⟨w.heap.size,1,none⟩=some (.slice N n.nodes.length d):=by rw [hb.cell];rfl
  clear gj gg HU hY HL d1 d2
  by_cases HQ:Sh.right n.inn=true
  rotate_left
  ·have HW:Sh.right n.inn=false:=by simpa using HQ
   have HC:=zI (Nt.check_in hf.out HW);obtain ⟨ho,hW⟩:=zd2 hb hV;clear hb hV;clear HQ;go_wp2_with fail;exact Zk1 (v:=.tuple #[.agg #[.slice none 0 0,.slice none 0 0,.int .i64 0],.int .i64 20]) (by simp [results,Tryz.results126,go_sem,y0,y1,y2]) rfl ⟨qav hP oZ _ _ _,.inr (by rw [HC.out];exact ⟨by omega,rfl⟩)⟩
  ·have ho:=zI hb
   have hW:=zI hV;clear hb hV;go_wp2_with fail;clear y0 y1 y2 f0 f1 f2 x0 x1;have h7:=zI HQ;clear HQ
   go_loopw [34] (λi wr=>∃k:Nat,k<=n.nodes.length/\i=.int .i64 k/\Blk wr w.heap.size 59 #[.slice A n.inn.length c,.slice N n.nodes.length d]/\Blk wr (w.heap.size+1) 188 #[.slice none 0 0,.slice none 0 0,.int .i64 0]/\Below w.heap.size w wr/\qdk n k) (λi _=>n.nodes.length-(intOf i).toNat)
   case atStart=>exact ⟨0,Zt _,rfl,ho.out,hW.out,hP,λj hj h=>by omega⟩
   case round=>
    clear ho hW hP;obtain ⟨k,hk,rfl,hb,hV,hP,hB⟩:=hrel;have gF:=hV.lt
    by_cases HA:k<n.nodes.length
    ·obtain ⟨b,off,S,sc,J,ic,Q,qc,rfl,HB,-,hI,-⟩:=HR.out.2.at_ HA
     have hZ:=Hp.out.2.2 _ (gmZ HA);have Hr:=λh=>Nt.bads_op (n:=n.nodes.length) HA hB h
     have Hz:=λh m (hm:m<n.nodes[k].ins.length) h2=>Nt.bads_in (n:=n.nodes.length) HA hB h (m:=m) hm h2
     have h3:Od.right n.nodes[k].op=true->n.nodes[k].ins.all (λi=>decide (0<=i/\i<=n.nodes.length))=true->qdk n (k+1):=λh1 h2 j hj gW=>by
      by_cases e:j=k
      ·subst e;exact ⟨h1,h2⟩
      ·exact hB j hj oZ
     have gJ:=hZ.2.2.1;have gM:=hZ.2.1;generalize n.nodes[k]=v at *;have gk:=HB.below hP;obtain ⟨⟨y0,y1,y2,y3,y4,y5,y6,y7,y8,y9⟩,-⟩:=HB.below hP;have gu:=Blk.new wr 127 (#[.int .i64 v.op.kind,.int .i64 v.op.k,.int .i64 v.op.width,.int .i64 v.op.step,.int .i64 v.op.side,.int .i64 v.op.frm,.int .i64 v.op.to,.slice S v.op.s.length sc,.slice J v.ins.length ic,.slice Q v.p.length qc]);have HV:Below wr.heap.size wr (wr.alloc (.cells #[.int .i64 v.op.kind,.int .i64 v.op.k,.int .i64 v.op.width,.int .i64 v.op.step,.int .i64 v.op.side,.int .i64 v.op.frm,.int .i64 v.op.to,.slice S v.op.s.length sc,.slice J v.ins.length ic,.slice Q v.p.length qc] 127)):=(Ze1 _ _).alloc (lrZ _) _;obtain ⟨ho,hW,gO,gE,HY,H9,Hm,gi,gv⟩:=zd9 hb hV HB hZ Hr Hz h3 gk gu;have H7:=zI hB;clear hb hV HB hZ Hr Hz h3 gk gu hB;go_wp2_with fail;refine (qcn v.op S sc _ oZ (gi.out.2.1.below HV (lrZ _))).mono ?_;rintro e w2 ⟨rfl,Hb⟩;have hh:Below wr.heap.size wr w2:=HV.trans (Hb.mono sZ);have hX:=hP.trans (hh.mono hP.size);have ha:=ho.out.below hh oZ;have he:=hW.out.below hh gF;have hU:=gv.out.below Hb sZ;obtain ⟨z0,z1,z2,f0,f1,f2⟩:=qaG he;have z8:w2.cell? ⟨wr.heap.size,8,none⟩=some (.slice J v.ins.length ic):=by rw [hU.cell];rfl
     have x1:w2.cell? ⟨w.heap.size,1,none⟩=some (.slice (some ⟨b,off,none⟩) n.nodes.length d):=by rw [ha.cell];rfl
     have HJ:=gi.out.2.2.1.below hh (lrZ _);clear y0 y1 y2 y3 y4 y5 y6 y7 y8 y9 HV Hb ho hW gv
     by_cases HM:Od.right v.op=true
     rotate_left
     ·have gb:Od.right v.op=false:=by simpa using HM
      have hc:=HY.out gb;have HC:=zI ((Nt.check_bads hf.out h7.out (by rw [hc];omega)).trans hc);obtain ⟨hn,hq,H6,gr⟩:=zd4 ha he hU HJ;clear ha he hU HJ;clear HM hc;go_wp2_with fail;exact Zk1 (v:=.tuple #[.agg #[.slice none 0 0,.slice none 0 0,.int .i64 0],.int .i64 21]) (by simp [results,Tryz.results126,go_sem,z0,z1,z2]) rfl ⟨qav hX oZ _ _ _,.inr (by rw [HC.out];exact ⟨by omega,rfl⟩)⟩
     ·have gl:=zI HM
      obtain ⟨hn,hq,H6,gr⟩:=zd4 ha he hU HJ;clear ha he hU HJ;go_wp2_with fail;clear HM
      go_loop [46] (λi=>∃m:Nat,m<=v.ins.length/\i=.int .i64 m/\∀j (hj:j<v.ins.length),j<m->0<=v.ins[j]/\v.ins[j]<=n.nodes.length) (λi=>v.ins.length-(intOf i).toNat)
      case atStart=>exact ⟨0,Zt _,rfl,λj hj h=>by omega⟩
      case round=>
       obtain ⟨m,hm,rfl,hA⟩:=hrel
       by_cases Ht:m<v.ins.length
       ·obtain ⟨b1,off1,rfl,-,hc⟩:=gr.out m Ht
        rw [qa3 Ht] at hc;have H0:=H9.out gl.out m Ht
        have Hx:(0<=v.ins[m]/\v.ins[m]<=n.nodes.length)->∀j (hj:j<v.ins.length),j<m+1->0<=v.ins[j]/\v.ins[j]<=n.nodes.length:=λh j hj gV=>by
         by_cases e:j=m
         ·subst e;exact h
         ·exact hA j hj oZ
        generalize v.ins[m]=u at *
        by_cases hu:0<=u/\u<=n.nodes.length
        ·have HN:=zI (Hx hu)
         have e1:decide (u<0)=false:=by simp;omega
         have e2:decide ((n.nodes.length:Int)<u)=false:=by simp;omega
         clear hu H0;obtain ⟨gA,Hy⟩:=zd2 Hx hA;clear Hx hA;go_wp2_with fail
         go_round
         case rel=>exact ⟨m+1,by omega,by go_num,HN.out⟩
         case measure=>simp [intOf];omega
        ·have H8:=H0 hu
         have HC:=zI ((Nt.check_bads hf.out h7.out (by rw [H8];omega)).trans H8);clear H8 H0;obtain ⟨gA,Hy⟩:=zd2 Hx hA;clear Hx hA
         by_cases Hq:u<0
         ·have e1:decide (u<0)=true:=by simpa using Hq
          clear hu;go_wp2_with fail;exact Zk1 (v:=.tuple #[.agg #[.slice none 0 0,.slice none 0 0,.int .i64 0],.int .i64 11]) (by simp [results,Tryz.results126,go_sem,z0,z1,z2]) rfl ⟨qav hX oZ _ _ _,.inr (by rw [HC.out];exact ⟨by omega,rfl⟩)⟩
         ·have e1:decide (u<0)=false:=by simpa using Hq
          have e2:decide ((n.nodes.length:Int)<u)=true:=by simp;omega
          clear hu;go_wp2_with fail;exact Zk1 (v:=.tuple #[.agg #[.slice none 0 0,.slice none 0 0,.int .i64 0],.int .i64 11]) (by simp [results,Tryz.results126,go_sem,z0,z1,z2]) rfl ⟨qav hX oZ _ _ _,.inr (by rw [HC.out];exact ⟨by omega,rfl⟩)⟩
       ·obtain rfl:m=v.ins.length:=by omega
        have HN:=zI (Hm.out gl.out (List.all_eq_true.2 λi hi=>by obtain ⟨j,hj,rfl⟩:=List.getElem_of_mem hi;simpa using hA j hj hj));have Hy:=zI hA;clear hA;go_wp2_with fail;go_roundw
        case rel=>exact ⟨k+1,by omega,by go_num,hn.out,hq.out,hX,HN.out⟩
        case measure=>simp [intOf];omega
    ·obtain rfl:k=n.nodes.length:=by omega
     have hY:Nt.bads n.nodes.length n.nodes=0:=Nt.bads_none hB;have Hk:∀v∈n.nodes,∀i∈v.ins,0<=i/\i<=n.nodes.length:=λv hv=>(Nt.bads_all hY v hv).2
     have x0:wr.cell? ⟨w.heap.size,0,none⟩=some (.slice A n.inn.length c):=by rw [hb.cell];rfl
     have x1:wr.cell? ⟨w.heap.size,1,none⟩=some (.slice N n.nodes.length d):=by rw [hb.cell];rfl
     obtain ⟨H7,ho,hW,HG,Hi⟩:=zd5 hB hb hV hY Hk;clear hB hb hV hY Hk;go_wp2_with fail;refine (qf8 A N c d n _ Hp.out HX (HR.out.below hP (lrZ _)) hd Hi.out).mono ?_;rintro e w2 ⟨O,oc,rfl,hO,gd,H4,Hb⟩;have hh:=hP.trans (Hb.mono hP.size);have ha:=ho.out.below Hb ho.out.lt;have he:=hW.out.below Hb hW.out.lt;have gI:w.heap.size+1<w2.heap.size:=he.lt;have x0:w2.cell? ⟨w.heap.size,0,none⟩=some (.slice A n.inn.length c):=by rw [ha.cell];rfl
     have x1:w2.cell? ⟨w.heap.size,1,none⟩=some (.slice N n.nodes.length d):=by rw [ha.cell];rfl
     clear ho hW
     by_cases hL:(Nt.sorted n.nodes).length=n.nodes.length
     rotate_left
     ·have HC:=zI (Nt.check_cyc hf.out h7.out HG.out hL)
      have e1:(((Nt.sorted n.nodes).length:Int) != (n.nodes.length:Int))=true:=by rw [bne_iff_ne];omega
      have e2:((Nt.sorted n.nodes).length != n.nodes.length)=true:=by rw [bne_iff_ne];omega
      obtain ⟨y0,y1,y2,f0,f1,f2⟩:=qaG he;generalize Nt.sorted n.nodes=os at *;obtain ⟨hn,hq,gD,HO⟩:=zd4 ha he hL hO;clear ha he hL hO;go_wp2_with fail;exact Zk1 (v:=.tuple #[.agg #[.slice none 0 0,.slice none 0 0,.int .i64 0],.int .i64 22]) (by simp [results,Tryz.results126,go_sem,y0,y1,y2]) rfl ⟨qav hh oZ _ _ _,.inr (by rw [HC.out];exact ⟨by omega,rfl⟩)⟩
     ·have hH:=net_lay A N O c d oc n w2 Hp.out (HR.out.below hh (lrZ _)) hd hO h7.out Hi.out
      have hC:=λh5=>Nt.check_lay hf.out h7.out HG.out hL h5
      have hw:=λh5 h6=>Nt.check_loss hf.out h7.out HG.out hL h5 h6
      have ht:=λh5 h6=>Nt.check_last hf.out h7.out HG.out hL h5 h6
      have hF:=λh5:(Nt.lay n.nodes (Nt.start n) (Nt.sorted n.nodes)).2=0=>Nt.lay_good h7.out (Nt.sorted n.nodes).length (lrZ _) (by rw [Zg];exact h5)
      rw [Zg] at hF;have hy:=Kn.order_full (I:=Nt.insF n.nodes) (n:=n.nodes.length) hL;have hy:∀u,u∈Nt.sorted n.nodes↔1<=u/\u<=n.nodes.length:=hy;have He:(Nt.lay n.nodes (Nt.start n) (Nt.sorted n.nodes)).1=Nt.shapes n:=rfl;rw [hL] at hH ⊢;obtain ⟨os,hos⟩:∃os,Nt.sorted n.nodes=os:=⟨_,rfl⟩
      rw [hos] at hH hC hw ht hF hy He hO hL gd;rw [hL] at gd;obtain ⟨h8,hN,hJ,hK,Ha,hT,Hu,gD,gC⟩:=zd9 hH hC hw ht hF hy He hL hos;obtain ⟨HO,hn,hq⟩:=zd3 hO ha he;clear hH hC hw ht hF hy He hL hos hO ha he;go_wp2_with fail;refine (h8.out).mono ?_;rintro e w3 ⟨Hj,⟨hr,g,rfl,hg,Hc,gB⟩|⟨hr,rfl⟩⟩
      rotate_left
      ·have HC:=zI (hN.out hr)
       have hS:=hh.trans (Hj.mono hh.size);obtain ⟨y0,y1,y2,f0,f1,f2⟩:=qaG (hq.out.below Hj hq.out.lt);generalize Nt.lay n.nodes (Nt.start n) os=r at *;have q1:(r.2 != 0)=true:=by simp [hr]
       have gH:=zI hr;clear hr;go_wp2_with fail;exact Zk1 (v:=.tuple #[.agg #[.slice none 0 0,.slice none 0 0,.int .i64 0],.int .i64 r.2]) (by simp [results,Tryz.results126,go_sem,y0,y1,y2]) rfl ⟨qav hS oZ _ _ _,.inr (by rw [HC.out];exact ⟨gH.out,rfl⟩)⟩
      ·have HT:=Ha.out hr
       have gn:=λh6=>hJ.out hr h6
       have gq:=λh6=>hK.out hr h6
       rw [Hu.out] at Hc gB HT;have hS:=hh.trans (Hj.mono hh.size);have hG:=hn.out.below Hj hn.out.lt;have Hs:=hq.out.below Hj hq.out.lt;have x0:w3.cell? ⟨w.heap.size,0,none⟩=some (.slice A n.inn.length c):=by rw [hG.cell];rfl
       have x1:w3.cell? ⟨w.heap.size,1,none⟩=some (.slice N n.nodes.length d):=by rw [hG.cell];rfl
       have gt:=HO.out.below Hj (lrZ _);clear h8 hN hJ hK Ha hn hq HO hr Hu;obtain ⟨gx,gN,gL,Hn,Hv,Hf,gm⟩:=zd7 HT gn gq Hc hG Hs gt;clear HT gn gq Hc hG Hs gt;go_wp2_with fail;refine (qf3 A N c d n _ Hp.out (HR.out.below hS (lrZ _)) hd Hi.out).mono ?_;rintro e w4 ⟨rfl,HF⟩;have Hh:=hS.trans (HF.mono hS.size);have hQ:=Hf.out.below HF Hf.out.lt;have hx:=Hn.out.below HF (lrZ _);have HI:=gm.out.below HF (lrZ _);obtain ⟨y0,y1,y2,f0,f1,f2⟩:=qaG hQ;clear Hv Hf Hn gm
       by_cases HP:Nt.lossOk n.nodes=true
       rotate_left
       ·have gc:Nt.lossOk n.nodes=false:=by simpa using HP
        have HC:=zI (gN.out gc);obtain ⟨Hd,h4,gy⟩:=zd3 hQ hx HI;clear hQ hx HI;clear HP;go_wp2_with fail;exact Zk1 (v:=.tuple #[.agg #[.slice none 0 0,.slice none 0 0,.int .i64 0],.int .i64 23]) (by simp [results,Tryz.results126,go_sem,y0,y1,y2]) rfl ⟨qav Hh oZ _ _ _,.inr (by rw [HC.out];exact ⟨by omega,rfl⟩)⟩
       ·have Ht:=(Nt.loss_mem HP).2
        have Hw:=gL.out HP;obtain ⟨l,hl⟩:∃l:Nat,Nt.loss n.nodes=(l:Int):=⟨(Nt.loss n.nodes).toNat,by omega⟩
        have Hl:=zI hl;rw [hl] at Ht Hw ⊢;rw [tnZ] at Hw;have ge:l<(Nt.shapes n).length:=by omega
        have HS:=gx.out (l:Int) (.inr ((hT.out _).2 oZ));rw [tnZ,qa8 ge] at HS;rw [qa8 ge] at Hw;obtain ⟨S,sc,gh,H3,gS,gR,-⟩:=hx.at_ ge;have H5:=qae S sc _ w4 oZ H3;have H2:Sh.size (Nt.shapes n)[l]=(Safe.prod (Nt.shapes n)[l],0):=by unfold Sh.size;rw [ipZ HS]
        rw [H2] at H5;have l0:(0:Int)<=(l:Int):=by omega
        have l1:(l:Int)<((n.nodes.length+1:Nat):Int):=by omega
        generalize (Nt.shapes n)[l]=s at *;obtain ⟨Hd,h4,gy,go,Hl,gK,gT,gU,gQ⟩:=zd9 hQ hx HI Hw hl H5 H2 H3 HS;clear hQ hx HI Hw hl H5 H2 H3 HS;go_wp2_with fail;refine (gK.out).mono ?_;rintro e w5 ⟨rfl,HD⟩;have Ho:=Hh.trans (HD.mono Hh.size);have hM:=Hd.out.below HD Hd.out.lt;have hD:=h4.out.below HD (lrZ _);have HK:=gy.out.below HD (lrZ _);clear y0 y1 y2 f0 f1 f2;obtain ⟨y0,y1,y2,f0,f1,f2⟩:=qaG hM
        by_cases hp:Safe.prod s=1
        ·have HC:=zI (show Nt.check n=0 by rw [go.out,inZ (by simp [hp])])
         have e1:(Safe.prod s != 1)=false:=by simp [hp]
         clear gh hp;obtain ⟨Hg,h9,gw⟩:=zd3 hM hD HK;clear hM hD HK;go_wp2_with fail;have H1:∀z∈os,z≠0:=λz hz=>by have:=(hT.out z).1 hz;omega
         have gf:∀s∈Nt.shapes n,∀z∈s,z≠0:=λs hs z hz=>by
          obtain ⟨i,hi,rfl⟩:=List.getElem_of_mem hs
          have gp:=gx.out (i:Int) (by
           by_cases h0:i=0
           ·exact .inl oZ
           ·exact .inr ((hT.out _).2 oZ))
          rw [tnZ,qa8 hi] at gp;have:=(Sh.right_mul gp).2.2.2.1 z hz;omega
         refine Zk1 (v:=.tuple #[.agg #[.slice O n.nodes.length oc,.slice (some ⟨g,0,none⟩) (n.nodes.length+1) (n.nodes.length+1),.int .i64 (l:Int)],.int .i64 0]) (by simp [results,Tryz.results126,go_sem,y0,y1,y2]) rfl ⟨qav Ho oZ _ _ _,.inl ⟨HC.out,O,oc,g,by rw [Hl.out],?_,gd,H4,by omega,?_⟩⟩
         ·rw [gC.out];exact qdN gw.out Hg.out H1 _ _ _
         ·exact qej h9.out Hg.out oZ gf _ _ _
        ·have HC:=zI (show Nt.check n=23 by rw [go.out,ipZ hp])
         have e1:(Safe.prod s != 1)=true:=by simp [hp]
         clear gh hp;obtain ⟨Hg,h9,gw⟩:=zd3 hM hD HK;clear hM hD HK;go_wp2_with fail;exact Zk1 (v:=.tuple #[.agg #[.slice none 0 0,.slice none 0 0,.int .i64 0],.int .i64 23]) (by simp [results,Tryz.results126,go_sem,y0,y1,y2]) rfl ⟨qav Ho oZ _ _ _,.inr (by rw [HC.out];exact ⟨by omega,rfl⟩)⟩
theorem qfY (A N:Option Addr) (c d:Nat) (n:NetD) (w:Zp1) (hok:n.ok) (hR:NetR w A N n) (hd:n.nodes.length<=d):
  Calls Tryz.prog 76 #[.agg #[.slice A n.inn.length c,.slice N n.nodes.length d]] w λe w'=>e=.returned (.int .i64 (Nt.check n))/\Below w.heap.size w w':=by
 have hb:Below w.heap.size w (w.alloc (.cells #[.slice A n.inn.length c,.slice N n.nodes.length d] 59)):=(Ze1 _ _).alloc (lrZ _) _;have he:=hR.below hb (lrZ _);obtain ⟨HR,hf,hg⟩:=zd3 hR hok he;clear hR hok he;go_enter Tryz.func76,Tryz.ntmps76;go_wp2_with fail;refine (qdl A N c d n _ hf.out hg.out hd).mono ?_;rintro e w1 ⟨hh,⟨hc,O,oc,g,rfl,-,-,-,-,-⟩|⟨hc,rfl⟩⟩
 all_goals have ha:=hb.trans (hh.mono hb.size)
 ·have Hc:=zI hc
  clear hc;go_wp2_with fail;go_ret;exact ⟨by rw [Hc.out];rfl,ha.alloc ha.size _⟩
 ·have Hc:=zI hc
  clear hc;go_wp2_with fail;go_ret;exact ⟨rfl,ha.alloc ha.size _⟩
def OrderP (n:NetD) (w:Zp1) (e:Ending) (w':Zp1):Prop:=
 Below w.heap.size w w'/\((Nt.check n=0/\∃O oc,e=.returned (.tuple #[.slice O n.nodes.length oc,.int .i64 0])/\Ints .i64 w' O (Nt.sorted n.nodes)/\n.nodes.length<=oc/\oc<=9223372036854775807)∨
  (Nt.check n≠0/\e=.returned (.tuple #[.slice none 0 0,.int .i64 (Nt.check n)])))
def qek (n:NetD):Int:=if Nt.check n=0 then Nt.loss n.nodes else 0
theorem qdO (A N:Option Addr) (c d:Nat) (n:NetD) (w:Zp1) (hok:n.ok) (hR:NetR w A N n) (hd:n.nodes.length<=d):
  Calls Tryz.prog 71 #[.agg #[.slice A n.inn.length c,.slice N n.nodes.length d]] w (OrderP n w):=by
 have he:Below w.heap.size w (w.alloc (.cells #[.slice A n.inn.length c,.slice N n.nodes.length d] 59)):=(Ze1 _ _).alloc (lrZ _) _;have hh:=hR.below he (lrZ _);obtain ⟨HR,hi,hl⟩:=zd3 hR hok hh;clear hR hok hh;go_enter Tryz.func71,Tryz.ntmps71;go_wp2_with fail;refine (qdl A N c d n _ hi.out hl.out hd).mono ?_;rintro e w1 ⟨hm,⟨hc,O,oc,g,rfl,hO,hj,hk,hg,hb⟩|⟨hc,rfl⟩⟩
 all_goals have ha:=he.trans (hm.mono he.size)
 ·rw [Zh1] at hg
  obtain ⟨Hc,HO,hf⟩:=zd3 hc hO hb;clear hc hO hb;go_wp2_with fail
  go_ret2
  first|exact ⟨ha.alloc ha.size _,.inl ⟨Hc.out,O,oc,rfl,HO.out.alloc _,hj,hk⟩⟩|exact ⟨ha.alloc ha.size _,.inl ⟨Hc.out,g,rfl,by omega,hf.out.alloc _⟩⟩|exact ⟨by unfold qek;rw [Hc.out];rfl,ha.alloc ha.size _⟩
 ·have Hc:=zI hc
  clear hc;go_wp2_with fail
  go_ret2
  first|exact ⟨ha.alloc ha.size _,.inr ⟨Hc.out,rfl⟩⟩|exact ⟨by unfold qek;rw [inZ Hc.out];rfl,ha.alloc ha.size _⟩
theorem net_loss (A N:Option Addr) (c d:Nat) (n:NetD) (w:Zp1) (hok:n.ok) (hR:NetR w A N n) (hd:n.nodes.length<=d):
  Calls Tryz.prog 74 #[.agg #[.slice A n.inn.length c,.slice N n.nodes.length d]] w λe w'=>e=.returned (.tuple #[.int .i64 (qek n),.int .i64 (Nt.check n)])/\Below w.heap.size w w':=by
 have he:Below w.heap.size w (w.alloc (.cells #[.slice A n.inn.length c,.slice N n.nodes.length d] 59)):=(Ze1 _ _).alloc (lrZ _) _;have hh:=hR.below he (lrZ _);obtain ⟨HR,hi,hl⟩:=zd3 hR hok hh;clear hR hok hh;go_enter Tryz.func74,Tryz.ntmps74;go_wp2_with fail;refine (qdl A N c d n _ hi.out hl.out hd).mono ?_;rintro e w1 ⟨hm,⟨hc,O,oc,g,rfl,hO,hj,hk,hg,hb⟩|⟨hc,rfl⟩⟩
 all_goals have ha:=he.trans (hm.mono he.size)
 ·rw [Zh1] at hg
  obtain ⟨Hc,HO,hf⟩:=zd3 hc hO hb;clear hc hO hb;go_wp2_with fail
  go_ret2
  first|exact ⟨ha.alloc ha.size _,.inl ⟨Hc.out,O,oc,rfl,HO.out.alloc _,hj,hk⟩⟩|exact ⟨ha.alloc ha.size _,.inl ⟨Hc.out,g,rfl,by omega,hf.out.alloc _⟩⟩|exact ⟨by unfold qek;rw [Hc.out];rfl,ha.alloc ha.size _⟩
 ·have Hc:=zI hc
  clear hc;go_wp2_with fail
  go_ret2
  first|exact ⟨ha.alloc ha.size _,.inr ⟨Hc.out,rfl⟩⟩|exact ⟨by unfold qek;rw [inZ Hc.out];rfl,ha.alloc ha.size _⟩
def hasB (zs:List Int) (x:Int):Bool:=zs.contains x
theorem qcy (A:Option Addr) (c:Nat) (zs:List Int) (x:Int) (w:Zp1) (hl:zs.length<=9223372036854775807) (hI:Ints .i64 w A zs):
  Calls Tryz.prog 128 #[.slice A zs.length c,.int .i64 x] w λe w'=>e=.returned (.bool (hasB zs x))/\w=w':=by
 have HI:=zI hI;clear hI;go_enter Tryz.func128,Tryz.ntmps128;go_wp2_with fail
 go_loop [5] (λi=>∃k:Nat,k<=zs.length/\i=.int .i64 k/\(zs.take k).contains x=false) (λi=>zs.length-(intOf i).toNat)
 case atStart=>exact ⟨0,Zt _,rfl,rfl⟩
 case round=>
  obtain ⟨k,hk,rfl,ha⟩:=hrel
  by_cases hb:k<zs.length
  ·obtain ⟨b,off,rfl,-,hc⟩:=HI.out k hb
   rw [qa3 hb] at hc
   by_cases he:zs[k]=x
   ·have e1:(zs[k]==x)=true:=by simp [he]
    have HX:=zI (show hasB zs x=true by unfold hasB;rw [List.contains_iff_mem];rw [←he];exact gmZ hb);clear he ha;go_wp2_with fail;go_ret;exact ⟨by rw [HX.out];rfl,rfl⟩
   ·have e1:(zs[k]==x)=false:=by simp [he]
    have HX:=zI (show (zs.take (k+1)).contains x=false by
     rw [Zb hb];simp at ha;simp only [List.contains_eq_mem,List.mem_append,decide_eq_false_iff_not,List.mem_singleton];intro h;rcases h with h|h
     ·exact ha h
     ·exact he h.symm)
    clear he ha;go_wp2_with fail
    go_round
    case rel=>exact ⟨k+1,by omega,by go_num,HX.out⟩
    case measure=>simp [intOf];omega
  ·obtain rfl:k=zs.length:=by omega
   rw [Zg] at ha;have HX:=zI (show hasB zs x=false from ha);clear ha;go_wp2_with fail;go_ret;exact ⟨by rw [HX.out];rfl,rfl⟩
def Nt.count (ns:List NodeD) (id:Int):Nat:=(ns.filter λv=>v.ins.contains id).length
theorem qel (A N:Option Addr) (c d:Nat) (n:NetD) (id:Int) (w:Zp1) (hok:n.ok) (hR:NetR w A N n):
  Calls Tryz.prog 124 #[.agg #[.slice A n.inn.length c,.slice N n.nodes.length d],.int .i64 id] w λe w'=>e=.returned (.int .i64 (Nt.count n.nodes id:Nat))/\Below w.heap.size w w':=by
 have hg:Below w.heap.size w (w.alloc (.cells #[.slice A n.inn.length c,.slice N n.nodes.length d] 73)):=(Ze1 _ _).alloc (lrZ _) _;have hf:=Blk.new w 73 #[.slice A n.inn.length c,.slice N n.nodes.length d];have hh:=hR.below hg (lrZ _);have hr:=hok.2.1;obtain ⟨hm,HR,ho⟩:=zd3 hok hR hf;clear hok hR hf;go_enter Tryz.func124,Tryz.ntmps124;go_upto_region 1 with fail;have x1:(w.alloc (.cells #[.slice A n.inn.length c,.slice N n.nodes.length d] 73)).cell? ⟨w.heap.size,1,none⟩=some (.slice N n.nodes.length d):=by rw [ho.out.cell];rfl
 generalize w.alloc (.cells #[.slice A n.inn.length c,.slice N n.nodes.length d] 73)=w1 at *;have hj:=zI hh;clear hh;go_wp2_with fail
 go_loop [5,6] (λt i=>∃k:Nat,k<=n.nodes.length/\i=.int .i64 (k:Int)/\t=.int .i64 ((Nt.count (n.nodes.take k) id:Nat):Int)) (λ_ i=>n.nodes.length-(intOf i).toNat)
 case atStart=>exact ⟨0,Zt _,rfl,rfl⟩
 case round=>
  obtain ⟨k,hk,rfl,rfl⟩:=hrel
  by_cases hb:k<n.nodes.length
  ·obtain ⟨b,off,S,sc,J,ic,Q,qc,rfl,hi,-,hI,-⟩:=hj.out.2.at_ hb
   have ha:=hm.out.2.2 _ (gmZ hb);have hq:=ha.2.2.1
   have he:Nt.count (n.nodes.take (k+1)) id=Nt.count (n.nodes.take k) id+if n.nodes[k].ins.contains id then 1 else 0:=by
    unfold Nt.count;rw [Zb hb,List.filter_append]
    by_cases h:n.nodes[k].ins.contains id=true
    ·simp only [List.filter_cons,h,if_true,List.filter_nil,Ze,List.length_singleton]
    ·simp only [List.filter_cons,h,List.filter_nil,Ze];simp
   have hp:Nt.count (n.nodes.take k) id<=k:=by
    unfold Nt.count;refine Zv (List.length_filter_le _ _) ?_;simp;omega
   generalize n.nodes[k]=v at *;generalize Nt.count (n.nodes.take k) id=q at *;obtain ⟨⟨-,-,-,-,-,-,-,-,y8,-⟩,-,hc,-⟩:=hi;obtain ⟨hn,hd,hl⟩:=zd3 hc he ha;clear hc he ha;go_wp2_with fail;refine (qcy J ic v.ins id _ oZ hn.out).mono ?_;rintro e w2 ⟨rfl,rfl⟩
   by_cases h:hasB v.ins id=true
   ·have HX:=zI (hd.out.trans (by rw [ipZ (show v.ins.contains id=true from h)]))
    rw [h];clear h;go_wp2_with fail
    go_round
    case rel=>exact ⟨k+1,by omega,by go_num,by rw [HX.out];go_num⟩
    case measure=>simp [intOf];omega
   ·have h':hasB v.ins id=false:=by simpa using h
    have HX:=zI (hd.out.trans (by rw [inZ (show ¬v.ins.contains id=true from h)]));rw [h'];clear h h';go_wp2_with fail
    go_round
    case rel=>exact ⟨k+1,by omega,by go_num,by rw [HX.out];rfl⟩
    case measure=>simp [intOf];omega
  ·obtain rfl:k=n.nodes.length:=by omega
   rw [Zg];go_wp2_with fail;go_ret;exact ⟨rfl,hg⟩
def qbe (out ins:List Int) (b:Bool) (m:Nat):Bool:=b&&(ins.take m).all λi=>i==0 || out.contains i
theorem qem {out ins:List Int} {b:Bool} {m:Nat} (hm:m<ins.length):qbe out ins b (m+1)=(qbe out ins b m&&(ins[m]==0 || out.contains ins[m])):=by
 unfold qbe;rw [Zb hm,List.all_append,Bool.and_assoc];simp
set_option maxRecDepth 20000 in
theorem qen (A N:Option Addr) (c d:Nat) (n:NetD) (w:Zp1) (hok:n.ok) (hR:NetR w A N n):
  Calls Tryz.prog 78 #[.agg #[.slice A n.inn.length c,.slice N n.nodes.length d]] w (qeO (Nt.sorted n.nodes) w):=by
 obtain ⟨i0,hi,h6,h0,h7⟩:=info_parts qbk;have hD:Below w.heap.size w (w.alloc (.cells #[.slice A n.inn.length c,.slice N n.nodes.length d] 73)):=(Ze1 _ _).alloc (lrZ _) _;have hN:=Blk.new w 73 #[.slice A n.inn.length c,.slice N n.nodes.length d];have hT:=hR.below hD (lrZ _);have He:=hok.2.1;have hn:Nt.sorted n.nodes=Kn.order (Nt.insF n.nodes) n.nodes.length:=rfl;have hx:∀k (h:k<n.nodes.length),Nt.insF n.nodes ((k:Int)+1)=n.nodes[k].ins:=λk h=>by unfold Nt.insF;rw [Nt.node_at h]
 generalize Nt.insF n.nodes=I at *;generalize Nt.sorted n.nodes=os at *;obtain ⟨hW,HR,hO,hv,hC⟩:=zd5 hok hR hN hn hx;clear hok hR hN hn hx;go_enter Tryz.func78,Tryz.ntmps78;go_upto_region 1 with fail;have x1:(w.alloc (.cells #[.slice A n.inn.length c,.slice N n.nodes.length d] 73)).cell? ⟨w.heap.size,1,none⟩=some (.slice N n.nodes.length d):=by rw [hO.out.cell];rfl
 have Ha:w.heap.size<(w.alloc (.cells #[.slice A n.inn.length c,.slice N n.nodes.length d] 73)).heap.size:=hO.out.lt;generalize w.alloc (.cells #[.slice A n.inn.length c,.slice N n.nodes.length d] 73)=w1 at *;have hU:=zI hT;clear hT;go_wp2_with fail
 go_loopw [3,4] (λo i wx=>∃k:Nat,k<=n.nodes.length/\i=.int .i64 (k:Int)/\wx.ownsRow w1.heap.size 3 1 o (Kn.go I n.nodes.length k).length ((Kn.go I n.nodes.length k).map (Za1 .i64))/\Below w1.heap.size w1 wx) (λ_ i _=>n.nodes.length-(intOf i).toNat)
 case atStart=>exact ⟨0,Zt _,rfl,by simpa [Kn.go] using World.ownsRow_nil w1 w1.heap.size 3 1,Ze1 _ _⟩
 case round=>
  obtain ⟨k,hk,rfl,hown,hq⟩:=hrel;obtain ⟨Ao,co,rfl⟩:=qak hown;have x2:=qa1 hq x1
  by_cases h9:k<n.nodes.length
  ·have hL:=λid r h=>@Kn.go_more I n.nodes.length k id r h
   have Hg:=Kn.go_len_le I n.nodes.length k;have hd:Kn.ready I n.nodes.length (Kn.go I n.nodes.length k)=[]->Kn.go I n.nodes.length (k+1)=Kn.go I n.nodes.length k:=λh=>Kn.go_stuck h 1
   have hS:=(qbo hown).1;generalize Kn.go I n.nodes.length k=out at *;obtain ⟨hY,ht,hg,hK⟩:=zd4 hL hd hown hS;clear hL hd hown hS;go_wp2_with fail;clear x2
   go_loop [3,5] (λo i=>∃j:Nat,j<=n.nodes.length/\i=.int .i64 ((j:Int)+1)/\o=.slice Ao out.length co/\∀u:Int,1<=u->u<=j->Kn.free I out u=false) (λ_ i=>n.nodes.length+1-(intOf i).toNat)
   case atStart=>exact ⟨0,Zt _,rfl,rfl,λu h1 h2=>by omega⟩
   case round=>
    obtain ⟨j,hj,rfl,rfl,hy⟩:=hrel;have x2:=qa1 hq x1
    by_cases hB:j<n.nodes.length
    ·obtain ⟨b,off,S,sc,J,ic,Q,qc,rfl,hz,-,hI,-⟩:=hU.out.2.at_ hB
     have hs:=hW.out.2.2 _ (gmZ hB);have Hc:=hs.2.2.1;have hH:=hC.out j hB;generalize n.nodes[j]=v at *;obtain ⟨⟨-,-,-,-,-,-,-,-,y8,-⟩,-,hJ,-⟩:=hz.below hq;have j1:IntKind.i64.wrap ((j:Int)+1-1)=(j:Int):=by rw [Zc1 _ oZ];omega
     have j2:(j:Int)<n.nodes.length:=by omega
     have j3:(j:Int)+1<=(n.nodes.length:Int):=by omega
     have ha:Kn.free I out ((j:Int)+1)=qbe out v.ins (!hasB out ((j:Int)+1)) v.ins.length:=by
      unfold Kn.free qbe;rw [hH,Zg]
      rfl
     obtain ⟨Hb,hX,Hf,h3,he,hQ⟩:=zd6 hz hJ hH hs ha hy;clear hz hJ hH hs ha hy;go_wp2_with fail;refine (qcy Ao co out ((j:Int)+1) _ oZ hK.out).mono ?_;rintro e w3 ⟨rfl,rfl⟩;go_wp2_with fail;have ha:=he.out;generalize (!hasB out ((j:Int)+1))=bh at *;have he:=zI ha;clear ha;clear y8 x2
     go_loop [6,8] (λf i=>∃m:Nat,m<=v.ins.length/\i=.int .i64 (m:Int)/\f=.bool (qbe out v.ins bh m)) (λ_ i=>v.ins.length-(intOf i).toNat)
     case atStart=>exact ⟨0,Zt _,rfl,by simp [qbe]⟩
     case round=>
      obtain ⟨m,hm,rfl,rfl⟩:=hrel
      by_cases hF:m<v.ins.length
      ·obtain ⟨b1,off1,rfl,-,hc⟩:=hX.out m hF
       rw [qa3 hF] at hc;have hw:=@qem out v.ins bh m hF;generalize qbe out v.ins bh m=fm at *;generalize v.ins[m]=u at *
       by_cases hu:u=0
       ·have e1:(u != 0)=false:=by simp [hu]
        have HF:=zI (show qbe out v.ins bh (m+1)=fm by rw [hw,hu];simp);clear hu hw;go_wp2_with fail
        go_round
        case rel=>exact ⟨m+1,by omega,by go_num,by rw [HF.out]⟩
        case measure=>simp [intOf];omega
       ·have e1:(u != 0)=true:=by simp [hu]
        have e0:(u==0)=false:=by simp [hu]
        rw [e0,Bool.false_or] at hw;clear hu e0;have hM:=zI hw;clear hw;go_wp2_with fail;refine (qcy Ao co out u _ oZ hK.out).mono ?_;rintro e w3 ⟨rfl,rfl⟩
        by_cases hh:hasB out u=true
        ·have HF:=zI (show qbe out v.ins bh (m+1)=fm by rw [hM.out,show out.contains u=true from hh,Bool.and_true])
         rw [hh];clear hh;go_wp2_with fail
         go_round
         case rel=>exact ⟨m+1,by omega,by go_num,by rw [HF.out]⟩
         case measure=>simp [intOf];omega
        ·have hG:hasB out u=false:=by simpa using hh
         have HF:=zI (show qbe out v.ins bh (m+1)=false by rw [hM.out,show out.contains u=false from hG,Bool.and_false]);rw [hG];clear hh hG;go_wp2_with fail
         go_round
         case rel=>exact ⟨m+1,by omega,by go_num,by rw [HF.out]⟩
         case measure=>simp [intOf];omega
      ·obtain rfl:m=v.ins.length:=by omega
       rw [←he.out]
       by_cases hf:Kn.free I out ((j:Int)+1)=true
       ·obtain ⟨r,hr⟩:=Kn.ready_first (I:=I) (n:=n.nodes.length) (out:=out) (id:=(j:Int)+1) oZ oZ hf (λu h1 h2=>hQ.out u h1 oZ)
        have HG:=zI (hY.out _ _ hr);have ho:=qaz hg.out (.cells #[.int .i64 ((j:Int)+1)] 3);have hl:=(hq.alloc hq.size (.cells #[.int .i64 ((j:Int)+1)] 3))
        have hP:=zI (λb (hb:(Zb1 Ao out.length co).ownBlock=some b)=>(hg.out.lt b hb).1);rw [hf];clear hf hr;go_wp2_with (at_builtin;refine wpList_append_own_at _ rfl _ _ 23 rfl w1.heap.size 3 i0 (.int .i64 0) 1 8 Tryz.underlying23 hi h6 h0 h7 rfl dZ _ _ _ rfl ho ⟨wr.heap.size,0,none⟩ 1 1 [.int .i64 ((j:Int)+1)] rfl rfl ?c1 (by intro u hu;simp at hu;subst hu;rfl) (by unfold maxLen;omega) oZ ?c2 ?_)
        first|(case c1=>exact qbC wr _ _)|skip
        case c2=>first|exact hl.size|(have:=hq.size;omega)
        intro v' w3 hp hgrow _ h5;have hV:Below w1.heap.size w1 w3:=hl.grown hgrow hl.size (λb hb=>hP.out b hb);have h8:=zI (show w3.ownsRow w1.heap.size 3 1 v' (Kn.go I n.nodes.length (k+1)).length ((Kn.go I n.nodes.length (k+1)).map (Za1 .i64)) by rw [HG.out];simpa using hp);clear hp hgrow h5 ho hl hP;go_wp2_with fail;go_roundw
        case rel=>exact ⟨k+1,by omega,by go_num,h8.out,hV⟩
        case measure=>simp [intOf];omega
       ·have hE:Kn.free I out ((j:Int)+1)=false:=by simpa using hf
        have h4:=zI (show ∀u:Int,1<=u->u<=((j+1:Nat):Int)->Kn.free I out u=false from λu h1 h2=>by
         by_cases e:u=(j:Int)+1
         ·rw [e];exact hE
         ·exact hQ.out u h1 oZ)
        rw [hE];clear hf hE;go_wp2_with fail
        go_round
        case rel=>exact ⟨j+1,by omega,by go_num,rfl,h4.out⟩
        case measure=>simp [intOf];omega
    ·obtain rfl:j=n.nodes.length:=by omega
     have HG:=zI (ht.out (Kn.ready_none (λu h1 h2=>hy u h1 h2)));have j3:¬(n.nodes.length:Int)+1<=(n.nodes.length:Int):=by omega
     clear hy;go_wp2_with fail;go_roundw
     case rel=>exact ⟨k+1,by omega,by go_num,by rw [HG.out];exact hg.out,hq⟩
     case measure=>simp [intOf];omega
  ·obtain rfl:k=n.nodes.length:=by omega
   have hA:os=Kn.go I n.nodes.length n.nodes.length:=hv.out;rw [←hA] at hown ⊢;obtain ⟨q1,q2,q3⟩:=qbo hown;obtain ⟨hg,hZ,Hd⟩:=zd3 hown q1 hA;clear hown q1 hA;go_wp2_with fail;go_ret;exact ⟨Ao,co,rfl,hZ.out,q2,q3,hD.trans (hq.mono hD.size)⟩
theorem qbq (A A':Option Addr) (c c':Nat) (xs ys:List Int) (w:Zp1) (hl:xs.length<=9223372036854775807) (hl':ys.length<=9223372036854775807) (hI:Ints .i64 w A xs) (hI':Ints .i64 w A' ys):
  Calls Tryz.prog 31 #[.slice A xs.length c,.slice A' ys.length c'] w λe w'=>e=.returned (.bool (decide (xs=ys)))/\∃q,w'=w.drewN q:=by
 by_cases ha:xs.length=ys.length
 ·have hb:ys.length=xs.length:=ha.symm
  rw [hb];have HI:=zI hI;have ho:=zI hI';obtain ⟨hf,hn⟩:=zd2 ha hb;clear hI hI' ha hb;go_enter Tryz.func31,Tryz.ntmps31;go_wp2_with fail
  go_loopw [5] (λi wr=>∃k q:Nat,k<=xs.length/\i=.int .i64 k/\xs.take k=ys.take k/\wr=w.drewN q) (λi _=>xs.length-(intOf i).toNat)
  case atStart=>exact ⟨0,0,Zt _,rfl,rfl,rfl⟩
  case round=>
   obtain ⟨k,q,hk,rfl,hh,rfl⟩:=hrel
   by_cases hi:k<xs.length
   ·have he:k<ys.length:=by have:=hf.out;omega
    obtain ⟨b,off,rfl,-,hc⟩:=HI.out k hi;obtain ⟨b',off',rfl,-,hp⟩:=ho.out k he;rw [qa3 hi] at hc;rw [qa3 he] at hp;have hd:w.drewN q=w.drewN q:=rfl;have k0:(0:Int)<=(k:Int):=by omega
    have k1:(k:Int)<(xs.length:Int):=by omega
    have hm:xs[k]=ys[k]->xs.take (k+1)=ys.take (k+1):=λe=>by rw [Zb hi,Zb he,hh,e]
    have hj:xs[k]≠ys[k]->decide (xs=ys)=false:=λe=>by simp;intro h;subst h;exact e rfl
    generalize xs[k]=x at *;generalize ys[k]=y at *
    by_cases hg:x=y
    ·have e1:(x != y)=false:=by simp [hg]
     have HX:=zI (hm hg);clear hm hj hh hg hd;go_wp2_with fail
     go_quiet (fail)
     go_wp2_with fail;go_roundw
     case rel=>exact ⟨k+1,_,by omega,by go_num,HX.out,by first|rfl|exact World.drewN_drewN _ _ _⟩
     case measure=>simp [intOf];omega
    ·have e1:(x != y)=true:=by simp [hg]
     have HX:=zI (hj hg);clear hm hj hh hg hd;go_wp2_with fail
     go_quiet (fail)
     go_wp2_with fail;go_ret;exact ⟨by rw [HX.out];rfl,_,by first|rfl|exact World.drewN_drewN _ _ _⟩
   ·obtain rfl:k=xs.length:=by omega
    have HX:=zI (show decide (xs=ys)=true by
     rw [Zg] at hh;rw [hh,hf.out,Zg];simp)
    clear hh;go_wp2_with fail;go_ret;exact ⟨by rw [HX.out];rfl,_,rfl⟩
 ·have HX:=zI (show decide (xs=ys)=false by simp;intro h;exact ha (by rw [h]))
  have e1:((xs.length:Int) != (ys.length:Int))=true:=by rw [bne_iff_ne];omega
  have e2:(xs.length != ys.length)=true:=by rw [bne_iff_ne];omega
  have HI:=zI hI;have ho:=zI hI';have hf:=zI ha;clear hI hI' ha;go_enter Tryz.func31,Tryz.ntmps31;go_wp2_with fail;go_ret;exact ⟨by rw [HX.out];rfl,0,rfl⟩
theorem qdP (l:List Int) (x:Int):Safe.prod (l++[x])=Safe.prod l*x:=by
 induction l with
 | nil=>simp [Safe.prod]
 | cons a r ih=>simp only [List.cons_append,Safe.prod,ih];rw [Int.mul_assoc]
theorem qdQ {l:List Int} (h:∀x∈l,1<=x):1<=Safe.prod l:=by
 induction l with
 | nil=>simp [Safe.prod]
 | cons a r ih=>
  have h1:=h a sZ;have h2:=ih λx hx=>h x (by simp [hx])
  simp only [Safe.prod];have:=Int.mul_pos (show 0<a by omega) (show 0<Safe.prod r by omega);omega
theorem qao (A:Option Addr) (c:Nat) (zs:List Int) (w:Zp1) (hr:Sh.right zs=true) (hI:Ints .i64 w A zs):
  Calls Tryz.prog 125 #[.slice A zs.length c] w λe w'=>e=.returned (.int .i64 (Safe.prod zs))/\w=w':=by
 obtain ⟨-,h1,h2,h3,h4,h5⟩:=Sh.right_mul hr
 have hp:∀k,1<=Safe.prod (zs.take k)/\Safe.prod (zs.take k)<=1099511627776:=λk=>by
  refine ⟨?_,Sh.prod_le (λx hx=>h3 x (Zh hx)) soZ⟩;exact qdQ λx hx=>(h3 x (Zh hx)).1
 obtain ⟨HI,Hr,Hp,H3⟩:=zd4 hI hr hp h3;clear hI hr hp h3;go_enter Tryz.func125,Tryz.ntmps125;go_wp2_with fail
 go_loop [3,4] (λt i=>∃k:Nat,k<=zs.length/\i=.int .i64 k/\t=.int .i64 (Safe.prod (zs.take k))) (λ_ i=>zs.length-(intOf i).toNat)
 case atStart=>exact ⟨0,Zt _,rfl,rfl⟩
 case round=>
  obtain ⟨k,hk,rfl,rfl⟩:=hrel
  by_cases ha:k<zs.length
  ·obtain ⟨b,off,rfl,-,hc⟩:=HI.out k ha
   rw [qa3 ha] at hc;have hq:=Hp.out (k+1);have hs:Safe.prod (zs.take (k+1))=Safe.prod (zs.take k)*zs[k]:=by rw [Zb ha,qdP]
   rw [hs] at hq;generalize Safe.prod (zs.take k)=p at *;generalize zs[k]=z at *;obtain ⟨q1,q2⟩:=hq;have hw:IntKind.i64.wrap (p*z)=p*z:=Zc1 _ oZ;have Hs:=zI hs;clear hs;go_wp2_with fail
   go_round
   case rel=>exact ⟨k+1,by omega,by go_num,by rw [Hs.out]⟩
   case measure=>simp [intOf];omega
  ·obtain rfl:k=zs.length:=by omega
   rw [Zg];go_wp2_with fail;go_ret;exact ⟨rfl,rfl⟩
theorem qaH (A:Option Addr) (c:Nat) (zs:List Int) (w:Zp1) (hl:zs.length<=9223372036854775807) (hI:Ints .i64 w A zs):
  Calls Tryz.prog 122 #[.slice A zs.length c] w λe w'=>e=.returned (.bool (Sh.right zs))/\w=w':=by
 by_cases hd:1<=zs.length/\zs.length<=4
 ·obtain ⟨l1,l2⟩:=hd
  have d1:decide ((zs.length:Int)<1)=false:=by simp;omega
  have d2:decide ((4:Int)<(zs.length:Int))=false:=by simp;omega
  have HI:=zI hI;clear hI;go_enter Tryz.func122,Tryz.ntmps122;go_wp2_with fail
  go_loop [3,4] (λt i=>∃k:Nat,k<=zs.length/\i=.int .i64 k/\(zs.take k).all Sh.side=true/\t=.int .i64 (Safe.prod (zs.take k))) (λ_ i=>zs.length-(intOf i).toNat)
  case atStart=>exact ⟨0,Zt _,rfl,rfl,rfl⟩
  case round=>
   obtain ⟨k,hk,rfl,ha,rfl⟩:=hrel
   by_cases he:k<zs.length
   ·obtain ⟨b,off,rfl,-,hc⟩:=HI.out k he
    rw [qa3 he] at hc;have hs:Safe.prod (zs.take (k+1))=Safe.prod (zs.take k)*zs[k]:=by rw [Zb he,qdP]
    by_cases hz:1<=zs[k]/\zs[k]<=1024
    ·have hb:(zs.take (k+1)).all Sh.side=true:=by
      rw [Zb he,List.all_append,ha];simp [Sh.side,hz]
     have hg:∀x∈zs.take (k+1),1<=x/\x<=1024:=Sh.all_iff hb;have hq:Safe.prod (zs.take (k+1))<=1099511627776:=Sh.prod_le hg soZ
     have hm:1<=Safe.prod (zs.take (k+1)):=by
      exact qdQ λx hx=>(hg x hx).1
     rw [hs] at hq hm;generalize Safe.prod (zs.take k)=p at *;generalize zs[k]=z at *;have hw:IntKind.i64.wrap (p*z)=p*z:=Zc1 _ oZ;have e1:decide (z<1)=false:=by simp;omega
     have e2:decide (1024<z)=false:=by simp;omega
     clear hz ha hg;obtain ⟨Hs,hf⟩:=zd2 hs hb;clear hs hb;go_wp2_with fail
     go_round
     case rel=>exact ⟨k+1,by omega,by go_num,hf.out,by rw [Hs.out]⟩
     case measure=>simp [intOf];omega
    ·have hh:Sh.right zs=false:=Sh.right_side (by
      rw [List.all_eq_false];exact ⟨zs[k],gmZ he,by rw [Sh.side_iff];exact hz⟩)
     generalize zs[k]=z at *;obtain ⟨hj,hn,Hs⟩:=zd3 hh ha hs;clear hh ha hs
     by_cases hi:z<1
     ·have e1:decide (z<1)=true:=by simpa using hi
      clear hz;go_wp2_with fail;go_ret;exact ⟨by rw [hj.out];rfl,rfl⟩
     ·have e1:decide (z<1)=false:=by simpa using hi
      have e2:decide (1024<z)=true:=by simp;omega
      clear hz;go_wp2_with fail;go_ret;exact ⟨by rw [hj.out];rfl,rfl⟩
   ·obtain rfl:k=zs.length:=by omega
    rw [Zg] at ha ⊢;have HR:=zI (Sh.right_prod ⟨l1,l2⟩ ha);clear ha;go_wp2_with fail;go_ret;exact ⟨by rw [HR.out];rfl,rfl⟩
 ·have HR:=zI (Sh.right_len hd)
  have HI:=zI hI;clear hI
  by_cases h1:zs.length<1
  ·have d1:decide ((zs.length:Int)<1)=true:=by simp;omega
   clear hd;go_enter Tryz.func122,Tryz.ntmps122;go_wp2_with fail;go_ret;exact ⟨by rw [HR.out];rfl,rfl⟩
  ·have d1:decide ((zs.length:Int)<1)=false:=by simp;omega
   have d2:decide ((4:Int)<(zs.length:Int))=true:=by simp;omega
   clear hd;go_enter Tryz.func122,Tryz.ntmps122;go_wp2_with fail;go_ret;exact ⟨by rw [HR.out];rfl,rfl⟩
theorem qfZ (k:Int) (w:Zp1):Calls Tryz.prog 85 #[.int .i64 k] w λe w'=>e=.returned (.int .i64 (Od.ptIns k))/\w=w':=by
 by_cases h1:1<=k/\k<=5
 ·have HX:=zI (show Od.ptIns k=1 by unfold Od.ptIns;rw [ipZ h1])
  obtain ⟨a,b⟩:=h1;go_enter Tryz.func85,Tryz.ntmps85;go_wp2_with fail;go_ret;exact ⟨by rw [HX.out];rfl,rfl⟩
 ·by_cases h2:k=6∨k=7
  ·have HX:=zI (show Od.ptIns k=2 by unfold Od.ptIns;rw [inZ h1,ipZ h2])
   clear h1;rcases h2 with rfl|rfl
   all_goals
    go_enter Tryz.func85,Tryz.ntmps85;go_wp2_with fail;go_ret;exact ⟨by rw [HX.out];rfl,rfl⟩
  ·have HX:=zI (show Od.ptIns k=0 by unfold Od.ptIns;rw [inZ h1,inZ h2])
   have e6:(k==6)=false:=by simp;omega
   have e7:(k==7)=false:=by simp;omega
   by_cases h3:1<=k
   ·have d2:decide (k<=5)=false:=by simp;omega
    clear h1 h2;go_enter Tryz.func85,Tryz.ntmps85;go_wp2_with fail;go_ret;exact ⟨by rw [HX.out];rfl,rfl⟩
   ·have d2:decide (1<=k)=false:=by simp;omega
    clear h1 h2;go_enter Tryz.func85,Tryz.ntmps85;go_wp2_with fail;go_ret;exact ⟨by rw [HX.out];rfl,rfl⟩
def qbx (k:Int):Int × Int:=if 1<=k/\k<=7 then (Od.ptIns k,Od.ptIns k) else if k=13 then (1,8) else if 8<=k/\k<=15 then (1,1) else (0,0)
theorem qdR {o:OpD} (h:Od.right o=true):qbx o.kind=(Od.least o,Od.most o):=by
 have hk:=Od.right_kind h;unfold qbx Od.least Od.most;rw [ipZ h,ipZ h]
 by_cases h7:o.kind<=7
 ·rw [ipZ ⟨hk.1,h7⟩,ipZ h7,ipZ h7]
 ·rw [inZ oZ,inZ h7,inZ h7]
  by_cases ha:o.kind=13
  ·rw [ipZ ha,ipZ ha]
  ·rw [inZ ha,inZ ha,ipZ oZ]
def qdS (k:Int):Int:=if k=8 then 2 else if k=9∨k=10 then 1 else 0
theorem qdT {o:OpD} (h:Od.right o=true):qdS o.kind=Od.params o:=by unfold qdS Od.params;rw [ipZ h]
theorem qg0 (k:Int) (w:Zp1) (hk:1<=k/\k<=15):Calls Tryz.prog 37 #[.int .i64 k] w λe w'=>e=.returned (.tuple #[.int .i64 (qbx k).1,.int .i64 (qbx k).2])/\w=w':=by
 by_cases h1:k<=7
 ·have HX:=zI (show qbx k=(Od.ptIns k,Od.ptIns k) by unfold qbx;rw [ipZ ⟨hk.1,h1⟩])
  obtain ⟨a,b⟩:=hk;go_enter Tryz.func37,Tryz.ntmps37;go_wp2_with fail;refine (qfZ k _).mono ?_;rintro e w1 ⟨rfl,rfl⟩;go_wp2_with fail
  go_ret2
  exact ⟨by rw [HX.out];rfl,rfl⟩
 ·have d7:decide (k<=7)=false:=by simp;omega
  by_cases ha:k=13
  ·have HX:=zI (show qbx k=(1,8) by unfold qbx;rw [inZ oZ,ipZ ha])
   subst ha;clear hk;go_enter Tryz.func37,Tryz.ntmps37;go_wp2_with fail
   go_ret2
   exact ⟨by rw [HX.out];rfl,rfl⟩
  ·have HX:=zI (show qbx k=(1,1) by unfold qbx;rw [inZ oZ,inZ ha,ipZ oZ])
   have e13:(k==13)=false:=by simp;omega
   have g8:8<=k:=by omega
   obtain ⟨a,b⟩:=hk;clear ha;go_enter Tryz.func37,Tryz.ntmps37;go_wp2_with fail
   go_ret2
   exact ⟨by rw [HX.out];rfl,rfl⟩
theorem qdU (k:Int) (w:Zp1):Calls Tryz.prog 38 #[.int .i64 k] w λe w'=>e=.returned (.int .i64 (qdS k))/\w=w':=by
 by_cases h8:k=8
 ·subst h8
  go_enter Tryz.func38,Tryz.ntmps38;go_wp2_with fail;go_ret;exact ⟨rfl,rfl⟩
 ·by_cases h9:k=9
  ·subst h9
   clear h8;go_enter Tryz.func38,Tryz.ntmps38;go_wp2_with fail;go_ret;exact ⟨rfl,rfl⟩
  ·by_cases ha:k=10
   ·subst ha
    clear h8 h9;go_enter Tryz.func38,Tryz.ntmps38;go_wp2_with fail;go_ret;exact ⟨rfl,rfl⟩
   ·have HX:=zI (show qdS k=0 by unfold qdS;rw [inZ h8,inZ oZ])
    have e8:(k==8)=false:=by simp;omega
    have e9:(k==9)=false:=by simp;omega
    have e10:(k==10)=false:=by simp;omega
    clear h8 h9 ha;go_enter Tryz.func38,Tryz.ntmps38;go_wp2_with fail;go_ret;exact ⟨by rw [HX.out];rfl,rfl⟩
theorem qdV {side width step:Int} (h1:1<=step) (h2:width<=side) (h3:1<=width) (h4:side<=1024) {k:Int} (hk:0<=k) (hw:(k-1)*step+width<=side) (hs:¬k*step+width<=side):k=1+(side-width).tdiv step:=by
 rw [Int.tdiv_eq_ediv_of_nonneg oZ];have e1:(k-1)*step<=side-width:=by omega
 have e2:side-width<k*step:=by omega
 have h5:=Int.le_ediv_of_mul_le (show 0<step by omega) e1;have h6:=Int.ediv_lt_of_lt_mul (show 0<step by omega) e2;omega
theorem qcc (side width step:Int) (w:Zp1):Calls Tryz.prog 159 #[.int .i64 side,.int .i64 width,.int .i64 step] w λe w'=>e=.returned (.int .i64 (Od.window side width step).1)/\w=w':=by
 by_cases h1:1<=side/\side<=1024/\1<=width/\width<=1024/\1<=step/\step<=1024/\width<=side
 ·have HX:=zI (show (Od.window side width step).1=1+(side-width).tdiv step by
   unfold Od.window;rw [ipZ (by simp only [Sh.side_iff];omega)])
  obtain ⟨a1,a2,a3,a4,a5,a6,a7⟩:=h1;have c1:decide (side<1)=false:=by simp;omega
  have c2:decide (width<1)=false:=by simp;omega
  have c3:decide (step<1)=false:=by simp;omega
  have c4:decide (1024<side)=false:=by simp;omega
  have c5:decide (1024<width)=false:=by simp;omega
  have c6:decide (1024<step)=false:=by simp;omega
  have c7:decide (side<width)=false:=by simp;omega
  go_enter Tryz.func159,Tryz.ntmps159;go_wp2_with fail
  go_loop [7,8] (λt i=>∃k:Int,0<=k/\i=.int .i64 (k*step)/\t=.int .i64 k/\(k-1)*step+width<=side) (λ_ i=>(side+1-intOf i).toNat)
  case atStart=>exact ⟨0,by omega,by rw [Int.zero_mul],rfl,by rw [Int.zero_sub,Int.neg_mul,Int.one_mul];omega⟩
  case round=>
   obtain ⟨k,hk,rfl,rfl,he⟩:=hrel;have b1:(k-1)*step=k*step-step:=by rw [Int.sub_mul,Int.one_mul]
   have b0:0<=k*step:=Int.mul_nonneg hk oZ
   have b3:k<=k*step+1:=by
    have:=Int.mul_le_mul_of_nonneg_left (show 1<=step from a5) hk;omega
   have b2:(k+1)*step=k*step+step:=by rw [Int.add_mul,Int.one_mul]
   have hb:=@qdV side width step a5 a7 a3 a2 k hk he;rw [b1] at he;have ha:k*step+width<=side->(k+1-1)*step+width<=side:=λh=>by rw [Int.add_sub_cancel];exact h
   generalize k*step=m at *
   by_cases hc:m+width<=side
   ·have HL:=zI (ha hc)
    obtain ⟨hh,hf,hg,hd⟩:=zd4 b1 b2 hb ha;clear b1 b2 hb ha;go_wp2_with fail
    go_round
    case rel=>exact ⟨k+1,by omega,by rw [hf.out],rfl,HL.out⟩
    case measure=>simp [intOf];omega
   ·have HK:=zI (hb hc)
    obtain ⟨hh,hf,hg,hd⟩:=zd4 b1 b2 hb ha;clear b1 b2 hb ha;go_wp2_with fail;go_ret;exact ⟨by rw [HX.out,←HK.out];rfl,rfl⟩
 ·have HX:=zI (show (Od.window side width step).1=0 by
   unfold Od.window;rw [inZ (by simp only [Sh.side_iff];omega)])
  by_cases c1:side<1
  ·have d1:decide (side<1)=true:=by simpa using c1
   clear h1;go_enter Tryz.func159,Tryz.ntmps159;go_wp2_with fail;go_ret;exact ⟨by rw [HX.out];rfl,rfl⟩
  ·have d1:decide (side<1)=false:=by simpa using c1
   by_cases c2:width<1
   ·have d2:decide (width<1)=true:=by simpa using c2
    clear h1;go_enter Tryz.func159,Tryz.ntmps159;go_wp2_with fail;go_ret;exact ⟨by rw [HX.out];rfl,rfl⟩
   ·have d2:decide (width<1)=false:=by simpa using c2
    by_cases c3:step<1
    ·have d3:decide (step<1)=true:=by simpa using c3
     clear h1;go_enter Tryz.func159,Tryz.ntmps159;go_wp2_with fail;go_ret;exact ⟨by rw [HX.out];rfl,rfl⟩
    ·have d3:decide (step<1)=false:=by simpa using c3
     by_cases c4:1024<side
     ·have d4:decide (1024<side)=true:=by simpa using c4
      clear h1;go_enter Tryz.func159,Tryz.ntmps159;go_wp2_with fail;go_ret;exact ⟨by rw [HX.out];rfl,rfl⟩
     ·have d4:decide (1024<side)=false:=by simpa using c4
      by_cases c5:1024<width
      ·have d5:decide (1024<width)=true:=by simpa using c5
       clear h1;go_enter Tryz.func159,Tryz.ntmps159;go_wp2_with fail;go_ret;exact ⟨by rw [HX.out];rfl,rfl⟩
      ·have d5:decide (1024<width)=false:=by simpa using c5
       by_cases c6:1024<step
       ·have d6:decide (1024<step)=true:=by simpa using c6
        clear h1;go_enter Tryz.func159,Tryz.ntmps159;go_wp2_with fail;go_ret;exact ⟨by rw [HX.out];rfl,rfl⟩
       ·have d6:decide (1024<step)=false:=by simpa using c6
        have d7:decide (side<width)=true:=by simp;omega
        clear h1;go_enter Tryz.func159,Tryz.ntmps159;go_wp2_with fail;go_ret;exact ⟨by rw [HX.out];rfl,rfl⟩
set_option maxRecDepth 20000 in
theorem qeo (o:OpD) (S:Option Addr) (c:Nat) (w:Zp1) (hl:o.s.length<=9223372036854775807):
  Calls Tryz.prog 35 #[.agg #[.int .i64 o.kind,.int .i64 o.k,.int .i64 o.width,.int .i64 o.step,.int .i64 o.side,.int .i64 o.frm,.int .i64 o.to,.slice S o.s.length c]] w λe w'=>e=.returned (.bool (Od.refRight o))/\Below w.heap.size w w':=by
 have hb:Below w.heap.size w (w.alloc (.cells #[.int .i64 o.kind,.int .i64 o.k,.int .i64 o.width,.int .i64 o.step,.int .i64 o.side,.int .i64 o.frm,.int .i64 o.to,.slice S o.s.length c] 87)):=(Ze1 _ _).alloc (lrZ _) _;have ha:=Blk.new w 87 #[.int .i64 o.kind,.int .i64 o.k,.int .i64 o.width,.int .i64 o.step,.int .i64 o.side,.int .i64 o.frm,.int .i64 o.to,.slice S o.s.length c];obtain ⟨y0,y1,y2,y3,y4,y5,y6,y7⟩:=qaj ha;have HB:=zI hb;clear ha hb;go_enter Tryz.func35,Tryz.ntmps35;go_upto_region 1 with fail;generalize (w.alloc (.cells #[.int .i64 o.kind,.int .i64 o.k,.int .i64 o.width,.int .i64 o.step,.int .i64 o.side,.int .i64 o.frm,.int .i64 o.to,.slice S o.s.length c] 87))=w1 at *
 go_cut [10] (λv wx=>v=.bool (decide (o.kind<1∨15<o.kind))/\w1=wx)
 case first=>
  by_cases c1:o.kind<1
  ·have e1:decide (o.kind<1)=true:=by simp;omega
   have HX:=zI (show decide (o.kind<1∨15<o.kind)=true by simp;omega);clear c1;go_wp2_with fail
   go_meet
   exact ⟨by rw [HX.out],rfl⟩
  ·have e1:decide (o.kind<1)=false:=by simp;omega
   by_cases c2:15<o.kind
   ·have e2:decide (15<o.kind)=true:=by simp;omega
    have HX:=zI (show decide (o.kind<1∨15<o.kind)=true by simp;omega);clear c1 c2;go_wp2_with fail
    go_meet
    exact ⟨by rw [HX.out],rfl⟩
   ·have e2:decide (15<o.kind)=false:=by simp;omega
    have HX:=zI (show decide (o.kind<1∨15<o.kind)=false by simp;omega);clear c1 c2;go_wp2_with fail
    go_meet
    exact ⟨by rw [HX.out],rfl⟩
 case rest=>
  obtain ⟨rfl,rfl⟩:=hcut
  by_cases f0:o.kind<1∨15<o.kind
  ·have q0:decide (o.kind<1∨15<o.kind)=true:=decide_eq_true f0
   have HX:=zI (show Od.refRight o=false by unfold Od.refRight;rw [ipZ f0]);clear f0;rw [q0];clear q0;go_wp2_with fail;go_ret;exact ⟨by rw [HX.out];rfl,HB.out⟩
  ·have q0:decide (o.kind<1∨15<o.kind)=false:=decide_eq_false f0
   rw [q0];clear q0;go_upto_region 3 with fail
   go_cut [23] (λv wx=>v=.bool (decide (o.k≠0/\o.kind≠2/\o.kind≠5))/\w1=wx)
   case first=>
    by_cases c1:o.k=0
    ·have e1:(o.k != 0)=false:=by simp;omega
     have HX:=zI (show decide (o.k≠0/\o.kind≠2/\o.kind≠5)=false by simp;omega);clear c1;go_wp2_with fail
     go_meet
     exact ⟨by rw [HX.out],rfl⟩
    ·have e1:(o.k != 0)=true:=by simp;omega
     by_cases c2:o.kind=2
     ·have e2:(o.kind != 2)=false:=by simp;omega
      have HX:=zI (show decide (o.k≠0/\o.kind≠2/\o.kind≠5)=false by simp;omega);clear c1 c2;go_wp2_with fail
      go_meet
      exact ⟨by rw [HX.out],rfl⟩
     ·have e2:(o.kind != 2)=true:=by simp;omega
      by_cases c3:o.kind=5
      ·have e3:(o.kind != 5)=false:=by simp;omega
       have HX:=zI (show decide (o.k≠0/\o.kind≠2/\o.kind≠5)=false by simp;omega);clear c1 c2 c3;go_wp2_with fail
       go_meet
       exact ⟨by rw [HX.out],rfl⟩
      ·have e3:(o.kind != 5)=true:=by simp;omega
       have HX:=zI (show decide (o.k≠0/\o.kind≠2/\o.kind≠5)=true by simp;omega);clear c1 c2 c3;go_wp2_with fail
       go_meet
       exact ⟨by rw [HX.out],rfl⟩
   case rest=>
    obtain ⟨rfl,rfl⟩:=hcut
    by_cases f1:o.k≠0/\o.kind≠2/\o.kind≠5
    ·have q1:decide (o.k≠0/\o.kind≠2/\o.kind≠5)=true:=decide_eq_true f1
     have HX:=zI (show Od.refRight o=false by unfold Od.refRight;rw [inZ f0,ipZ f1]);clear f0 f1;rw [q1];clear q1;go_wp2_with fail;go_ret;exact ⟨by rw [HX.out];rfl,HB.out⟩
    ·have q1:decide (o.k≠0/\o.kind≠2/\o.kind≠5)=false:=decide_eq_false f1
     rw [q1];clear q1;go_upto_region 5 with fail
     go_cut [36] (λv wx=>v=.bool (decide (o.width≠0/\o.kind≠11/\o.kind≠12))/\w1=wx)
     case first=>
      by_cases c1:o.width=0
      ·have e1:(o.width != 0)=false:=by simp;omega
       have HX:=zI (show decide (o.width≠0/\o.kind≠11/\o.kind≠12)=false by simp;omega);clear c1;go_wp2_with fail
       go_meet
       exact ⟨by rw [HX.out],rfl⟩
      ·have e1:(o.width != 0)=true:=by simp;omega
       by_cases c2:o.kind=11
       ·have e2:(o.kind != 11)=false:=by simp;omega
        have HX:=zI (show decide (o.width≠0/\o.kind≠11/\o.kind≠12)=false by simp;omega);clear c1 c2;go_wp2_with fail
        go_meet
        exact ⟨by rw [HX.out],rfl⟩
       ·have e2:(o.kind != 11)=true:=by simp;omega
        by_cases c3:o.kind=12
        ·have e3:(o.kind != 12)=false:=by simp;omega
         have HX:=zI (show decide (o.width≠0/\o.kind≠11/\o.kind≠12)=false by simp;omega);clear c1 c2 c3;go_wp2_with fail
         go_meet
         exact ⟨by rw [HX.out],rfl⟩
        ·have e3:(o.kind != 12)=true:=by simp;omega
         have HX:=zI (show decide (o.width≠0/\o.kind≠11/\o.kind≠12)=true by simp;omega);clear c1 c2 c3;go_wp2_with fail
         go_meet
         exact ⟨by rw [HX.out],rfl⟩
     case rest=>
      obtain ⟨rfl,rfl⟩:=hcut
      by_cases f2:o.width≠0/\o.kind≠11/\o.kind≠12
      ·have q2:decide (o.width≠0/\o.kind≠11/\o.kind≠12)=true:=decide_eq_true f2
       have HX:=zI (show Od.refRight o=false by unfold Od.refRight;rw [inZ f0,inZ f1,ipZ f2]);clear f0 f1 f2;rw [q2];clear q2;go_wp2_with fail;go_ret;exact ⟨by rw [HX.out];rfl,HB.out⟩
      ·have q2:decide (o.width≠0/\o.kind≠11/\o.kind≠12)=false:=decide_eq_false f2
       rw [q2];clear q2;go_upto_region 7 with fail
       go_cut [49] (λv wx=>v=.bool (decide (o.step≠0/\(o.kind<10∨12<o.kind)))/\w1=wx)
       case first=>
        by_cases c1:o.step=0
        ·have e1:(o.step != 0)=false:=by simp;omega
         have HX:=zI (show decide (o.step≠0/\(o.kind<10∨12<o.kind))=false by simp;omega);clear c1;go_wp2_with fail
         go_meet
         exact ⟨by rw [HX.out],rfl⟩
        ·have e1:(o.step != 0)=true:=by simp;omega
         by_cases c2:o.kind<10
         ·have e2:decide (o.kind<10)=true:=by simp;omega
          have HX:=zI (show decide (o.step≠0/\(o.kind<10∨12<o.kind))=true by simp;omega);clear c1 c2;go_wp2_with fail
          go_meet
          exact ⟨by rw [HX.out],rfl⟩
         ·have e2:decide (o.kind<10)=false:=by simp;omega
          by_cases c3:12<o.kind
          ·have e3:decide (12<o.kind)=true:=by simp;omega
           have HX:=zI (show decide (o.step≠0/\(o.kind<10∨12<o.kind))=true by simp;omega);clear c1 c2 c3;go_wp2_with fail
           go_meet
           exact ⟨by rw [HX.out],rfl⟩
          ·have e3:decide (12<o.kind)=false:=by simp;omega
           have HX:=zI (show decide (o.step≠0/\(o.kind<10∨12<o.kind))=false by simp;omega);clear c1 c2 c3;go_wp2_with fail
           go_meet
           exact ⟨by rw [HX.out],rfl⟩
       case rest=>
        obtain ⟨rfl,rfl⟩:=hcut
        by_cases f3:o.step≠0/\(o.kind<10∨12<o.kind)
        ·have q3:decide (o.step≠0/\(o.kind<10∨12<o.kind))=true:=decide_eq_true f3
         have HX:=zI (show Od.refRight o=false by unfold Od.refRight;rw [inZ f0,inZ f1,inZ f2,ipZ f3]);clear f0 f1 f2 f3;rw [q3];clear q3;go_wp2_with fail;go_ret;exact ⟨by rw [HX.out];rfl,HB.out⟩
        ·have q3:decide (o.step≠0/\(o.kind<10∨12<o.kind))=false:=decide_eq_false f3
         rw [q3];clear q3;go_upto_region 9 with fail
         go_cut [62] (λv wx=>v=.bool (decide (o.side≠0/\o.kind≠13/\o.kind≠14))/\w1=wx)
         case first=>
          by_cases c1:o.side=0
          ·have e1:(o.side != 0)=false:=by simp;omega
           have HX:=zI (show decide (o.side≠0/\o.kind≠13/\o.kind≠14)=false by simp;omega);clear c1;go_wp2_with fail
           go_meet
           exact ⟨by rw [HX.out],rfl⟩
          ·have e1:(o.side != 0)=true:=by simp;omega
           by_cases c2:o.kind=13
           ·have e2:(o.kind != 13)=false:=by simp;omega
            have HX:=zI (show decide (o.side≠0/\o.kind≠13/\o.kind≠14)=false by simp;omega);clear c1 c2;go_wp2_with fail
            go_meet
            exact ⟨by rw [HX.out],rfl⟩
           ·have e2:(o.kind != 13)=true:=by simp;omega
            by_cases c3:o.kind=14
            ·have e3:(o.kind != 14)=false:=by simp;omega
             have HX:=zI (show decide (o.side≠0/\o.kind≠13/\o.kind≠14)=false by simp;omega);clear c1 c2 c3;go_wp2_with fail
             go_meet
             exact ⟨by rw [HX.out],rfl⟩
            ·have e3:(o.kind != 14)=true:=by simp;omega
             have HX:=zI (show decide (o.side≠0/\o.kind≠13/\o.kind≠14)=true by simp;omega);clear c1 c2 c3;go_wp2_with fail
             go_meet
             exact ⟨by rw [HX.out],rfl⟩
         case rest=>
          obtain ⟨rfl,rfl⟩:=hcut
          by_cases f4:o.side≠0/\o.kind≠13/\o.kind≠14
          ·have q4:decide (o.side≠0/\o.kind≠13/\o.kind≠14)=true:=decide_eq_true f4
           have HX:=zI (show Od.refRight o=false by unfold Od.refRight;rw [inZ f0,inZ f1,inZ f2,inZ f3,ipZ f4]);clear f0 f1 f2 f3 f4;rw [q4];clear q4;go_wp2_with fail;go_ret;exact ⟨by rw [HX.out];rfl,HB.out⟩
          ·have q4:decide (o.side≠0/\o.kind≠13/\o.kind≠14)=false:=decide_eq_false f4
           rw [q4];clear q4;go_upto_region 11 with fail
           go_cut [75] (λv wx=>v=.bool (decide ((o.frm≠0∨o.to≠0)/\o.kind≠14))/\w1=wx)
           case first=>
            by_cases c1:o.frm=0
            ·have e1:(o.frm != 0)=false:=by simp;omega
             by_cases c2:o.to=0
             ·have e2:(o.to != 0)=false:=by simp;omega
              have HX:=zI (show decide ((o.frm≠0∨o.to≠0)/\o.kind≠14)=false by simp;omega);clear c1 c2;go_wp2_with fail
              go_meet
              exact ⟨by rw [HX.out],rfl⟩
             ·have e2:(o.to != 0)=true:=by simp;omega
              by_cases c3:o.kind=14
              ·have e3:(o.kind != 14)=false:=by simp;omega
               have HX:=zI (show decide ((o.frm≠0∨o.to≠0)/\o.kind≠14)=false by simp;omega);clear c1 c2 c3;go_wp2_with fail
               go_meet
               exact ⟨by rw [HX.out],rfl⟩
              ·have e3:(o.kind != 14)=true:=by simp;omega
               have HX:=zI (show decide ((o.frm≠0∨o.to≠0)/\o.kind≠14)=true by simp;omega);clear c1 c2 c3;go_wp2_with fail
               go_meet
               exact ⟨by rw [HX.out],rfl⟩
            ·have e1:(o.frm != 0)=true:=by simp;omega
             by_cases c2:o.kind=14
             ·have e2:(o.kind != 14)=false:=by simp;omega
              have HX:=zI (show decide ((o.frm≠0∨o.to≠0)/\o.kind≠14)=false by simp;omega);clear c1 c2;go_wp2_with fail
              go_meet
              exact ⟨by rw [HX.out],rfl⟩
             ·have e2:(o.kind != 14)=true:=by simp;omega
              have HX:=zI (show decide ((o.frm≠0∨o.to≠0)/\o.kind≠14)=true by simp;omega);clear c1 c2;go_wp2_with fail
              go_meet
              exact ⟨by rw [HX.out],rfl⟩
           case rest=>
            obtain ⟨rfl,rfl⟩:=hcut
            by_cases f5:(o.frm≠0∨o.to≠0)/\o.kind≠14
            ·have q5:decide ((o.frm≠0∨o.to≠0)/\o.kind≠14)=true:=decide_eq_true f5
             have HX:=zI (show Od.refRight o=false by unfold Od.refRight;rw [inZ f0,inZ f1,inZ f2,inZ f3,inZ f4,ipZ f5]);clear f0 f1 f2 f3 f4 f5;rw [q5];clear q5;go_wp2_with fail;go_ret;exact ⟨by rw [HX.out];rfl,HB.out⟩
            ·have q5:decide ((o.frm≠0∨o.to≠0)/\o.kind≠14)=false:=decide_eq_false f5
             rw [q5];clear q5;have HF:=zI (show Od.refRight o=decide (o.s=[]∨o.kind=15) by unfold Od.refRight;rw [inZ f0,inZ f1,inZ f2,inZ f3,inZ f4,inZ f5]);clear f0 f1 f2 f3 f4 f5
             by_cases h1:o.s=[]
             ·have HX:=zI (show decide (o.s=[]∨o.kind=15)=true by simp [h1])
              have e1:((o.s.length:Int)==0)=true:=by simp [h1]
              have e2:o.s.length=0:=by simp [h1]
              rw [e2] at *;clear h1;go_wp2_with fail;go_ret;exact ⟨by rw [HF.out,HX.out];rfl,HB.out⟩
             ·have e1:((o.s.length:Int)==0)=false:=by simp [h1]
              have e2:(o.s.length==0)=false:=by simp [h1]
              by_cases h2:o.kind=15
              ·have HX:=zI (show decide (o.s=[]∨o.kind=15)=true by simp [h2])
               have e3:(o.kind==15)=true:=by simp [h2]
               clear h1 h2;go_wp2_with fail;go_ret;exact ⟨by rw [HF.out,HX.out];rfl,HB.out⟩
              ·have HX:=zI (show decide (o.s=[]∨o.kind=15)=false by simp [h1,h2])
               have e3:(o.kind==15)=false:=by simp [h2]
               clear h1 h2;go_wp2_with fail;go_ret;exact ⟨by rw [HF.out,HX.out];rfl,HB.out⟩
def RefP (r:List Int × Int) (w:Zp1) (e:Ending) (w':Zp1):Prop:=
 ∃S c,e=.returned (.tuple #[.slice S r.1.length c,.int .i64 r.2])/\Ints .i64 w' S r.1/\r.1.length<=c/\c<=9223372036854775807/\Below w.heap.size w w'
def WithP (zs:List Int) (w:Zp1) (e:Ending) (w':Zp1):Prop:=
 ∃g,e=.returned (.slice (some ⟨g,0,none⟩) zs.length zs.length)/\Ints .i64 w' (some ⟨g,0,none⟩) zs/\w.heap.size<=g/\Below w.heap.size w w'
theorem qc2 (A:Option Addr) (c:Nat) (zs:List Int) (i:Nat) (v:Int) (w:Zp1) (hl:zs.length<=17592186043904) (hI:Ints .i64 w A zs) (hi':i<zs.length):
  Calls Tryz.prog 160 #[.slice A zs.length c,.int .i64 (i:Int),.int .i64 v] w (WithP (zs.set i v) w):=by
 obtain ⟨i0,hi,hh,hn,hm⟩:=info_parts qbk;have HI:=zI hI;clear hI;go_enter Tryz.func160,Tryz.ntmps160;go_wp2_with (at_make;refine wpList_make_full _ rfl _ _ 23 rfl w.heap.size 3 i0 (.int .i64 0) 1 Tryz.underlying23 hi hh hn _ _ _ _ zs.length rfl rfl (by first|rfl|simp) (by first|rfl|simp) ?b2 ?b3 (lrZ _) ?_)
 case b2=>rw [hm];omega
 case b3=>unfold maxLen;omega
 intro w1 hown hgrow;have hb:=qaR hown;have hc:Below w.heap.size w w1:=(Ze1 _ w).grown hgrow (lrZ _) sZ;have ha:=hown.1;have hg:=zI (HI.out.below hc (lrZ _));generalize (madeCells #[Za1 .i64 0] zs.length).toList=cur at *;clear hown hgrow HI;go_wp2_with (with_reducible refine wpList_copy_splice rfl (.tmp 11) (.tmp 12) 23 23 rfl 3 Tryz.underlying23 ?d1 (some ⟨w.heap.size,0,none⟩) A zs.length zs.length zs.length c rfl rfl w.heap.size 0 cur 3 hb (zs.map (Za1 .i64)) ?d2 ?d3 ?d4 ?d5 w.heap.size w hc (lrZ _) ?_)
 case d1=>kernel_rfl
 case d2=>simp
 case d3=>intro hp;exact hg.out.src' (by simpa using hp)
 case d4=>simp at ha ⊢;omega
 case d5=>intro v hv;obtain ⟨x,_,rfl⟩:=List.mem_map.1 hv;rfl
 intro w2 hd hf;have hs:=qc1 (cur:=cur) (cs:=zs.map (Za1 .i64)) (by simp at ha ⊢;omega);have hk:Blk w2 w.heap.size 3 (zs.map (Za1 .i64)).toArray:=by unfold Blk;rw [←hs];exact hd.out
 have y:w2.cell? ⟨w.heap.size,i,none⟩=some (.int .i64 zs[i]):=by rw [hk.cell];simp [hi']
 have f:=hk.frozen i;have he:=hk.set_ i (.int .i64 v);have l0:(0:Int)<=(i:Int):=by omega
 have l1:(i:Int)<(zs.length:Int):=by omega
 obtain ⟨Hk,ho⟩:=zd2 hk he;clear hk he;clear hd hc ha hs hb;go_wp2_with fail;go_ret;refine ⟨w.heap.size,by rw [List.length_set];rfl,Ints.of_row λj hj=>?_,lrZ _,hf.setCell (lrZ _) _⟩;rw [Zw,ho.out.cell j];rw [qa3 hj];simp at hj;simp [List.getElem_set,hj]
 split<;>simp_all
theorem qaZ (side:Int):∀(a b:List (List Int)) (s:List Int),Od.joinAll side s (a++b)=if (Od.joinAll side s a).2=0 then Od.joinAll side (Od.joinAll side s a).1 b else ([],(Od.joinAll side s a).2)
 | [],b,s=>by simp [Od.joinAll]
 | t::a,b,s=>by
  rw [List.cons_append,Od.joinAll,Od.joinAll]
  split
  ·exact qaZ side a b _
  ·rename_i h;simp
theorem qdW {side:Int} {l:List (List Int)} {s s1:List Int} {k:Nat} (hk:k<l.length) (h:Od.joinAll side s (l.take k)=(s1,0)):
  ((Od.join s1 l[k] side).2=0->Od.joinAll side s (l.take (k+1))=((Od.join s1 l[k] side).1,0))/\((Od.join s1 l[k] side).2≠0->Od.joinAll side s l=([],(Od.join s1 l[k] side).2)):=by
 refine ⟨λe=>?_,λe=>?_⟩
 ·rw [Zb hk,qaZ,h]
  simp [Od.joinAll,e]
 ·have:l=l.take k++l[k]::l.drop (k+1):=by rw [←Zd hk,Zn]
  have e2:=congrArg (Od.joinAll side s) this;rw [e2,qaZ,h];simp [Od.joinAll,e]
def qeP (s t:List Int) (side:Int) (m:Nat):Prop:=∀j,j<m->(j:Int)=side∨s.getD j 0=t.getD j 0
theorem qf9 {s t:List Int} {side:Int} (h:qeP s t side s.length):Od.joinOk s t side=true:=by
 unfold Od.joinOk;rw [Zf];intro i hi;have:=h i (List.mem_range.1 hi);simpa using this
theorem qfa {s t:List Int} {side:Int} {m:Nat} (hm:m<s.length) (h1:(m:Int)≠side) (h2:s.getD m 0≠t.getD m 0):Od.joinOk s t side=false:=by
 unfold Od.joinOk;rw [List.all_eq_false];exact ⟨m,List.mem_range.2 hm,by simp [h1] ;simpa using h2⟩
set_option maxRecDepth 20000 in
theorem qdX (side:Int) (X:Option Addr) (c:Nat) (xs:List (List Int)) (w:Zp1) (hX:Shps w X xs) (hl:xs.length<=1048576) (h1:1<=xs.length) (hr:∀s∈xs,Sh.right s=true):
  Calls Tryz.prog 161 #[.int .i64 side,.slice X xs.length c] w (RefP (Od.joined side xs) w):=by
 obtain ⟨b0,off0,S0,c0,rfl,-,y0,hQ,Hu,Hl⟩:=hX 0 oZ;have hT:=hr xs[0] (gmZ oZ);have hZ:xs.getD 0 []=xs[0]:=qa8 oZ;have hx:xs.drop 1=xs.drop 1:=rfl;have hH:Od.joined side xs=if xs.length=1/\Od.inR side xs[0]=false then ([],11) else Od.joinAll side xs[0] (xs.drop 1):=by unfold Od.joined;rw [hZ]
 have Hx:=(qa5 hT).2;rw [Zx] at y0
 by_cases hd:xs.length=1/\Od.inR side xs[0]=false
 ·have HQ:=zI (show Od.joined side xs=([],11) by rw [hH,ipZ hd])
  have hb:=hd.2;have e1:((xs.length:Int)==1)=true:=by simp;omega
  have e1':(xs.length==1)=true:=by simp;omega
  simp [Od.inR] at hb;clear hH hx hZ;generalize xs[0]=s at *;obtain ⟨HX,Hr,Hc,HA,Hq⟩:=zd5 hX hr hQ hT hd;clear hX hr hQ hT hd
  by_cases hg:side<0
  ·have e2:decide (side<0)=true:=by simpa using hg
   clear hb;go_enter Tryz.func161,Tryz.ntmps161;go_wp2_with fail
   go_ret2
   exact ⟨none,0,by rw [HQ.out];rfl,by rw [HQ.out];exact Ints.nil,by rw [HQ.out];exact lrZ _,by omega,Ze1 _ _⟩
  ·have e2:decide (side<0)=false:=by simpa using hg
   have e3:decide ((s.length:Int)<=side)=true:=by simpa using hb oZ
   clear hb;go_enter Tryz.func161,Tryz.ntmps161;go_wp2_with fail
   go_ret2
   exact ⟨none,0,by rw [HQ.out];rfl,by rw [HQ.out];exact Ints.nil,by rw [HQ.out];exact lrZ _,by omega,Ze1 _ _⟩
 ·rw [inZ hd] at hH
  have hY:∀t∈xs.drop 1,Sh.right t=true:=λt ht=>hr t (Zp ht)
  have Hj:(xs.drop 1).length=xs.length-1:=by simp
  have h0:∀k (h:k<(xs.drop 1).length),∃S c,w.cell? ⟨b0,off0+(k+1),none⟩=some (.slice S (xs.drop 1)[k].length c)/\Ints .i64 w S (xs.drop 1)[k]:=λk h=>by
   obtain ⟨b,off,S,c,e,-,hc,hI,-⟩:=hX (k+1) oZ;injection e with e
   injection e with e1 e2
   subst e1 e2;rw [List.getElem_drop];simp only [Nat.add_comm 1 k];exact ⟨S,c,hc,hI⟩
  have he:xs.length=1->Od.inR side xs[0]=true:=λh=>by by_cases q:Od.inR side xs[0]=true;exact q;exact absurd ⟨h,by simpa using q⟩ hd
  generalize xs[0]=s0 at *;obtain ⟨l,hl'⟩:∃l,xs.drop 1=l:=⟨_,rfl⟩
  rw [hl'] at hY Hj h0 hH;clear hx hZ hd hl';obtain ⟨HX,Hr,Hc,hL,Hm,Hp⟩:=zd6 hX hr hQ hH hY h0;clear hX hr hQ hH hY h0;go_enter Tryz.func161,Tryz.ntmps161;go_upto_region 2 with fail
  go_cut [24] (λv wx=>v=.bool false/\w=wx)
  case first=>
   by_cases h2:xs.length=1
   ·have hn:=he h2
    simp [Od.inR] at hn;obtain ⟨p1,p2⟩:=hn;have e1:((xs.length:Int)==1)=true:=by simp;omega
    have e1':(xs.length==1)=true:=by simp;omega
    have e2:decide (side<0)=false:=by simp;omega
    have e3:decide ((s0.length:Int)<=side)=false:=by simp;omega
    clear he h2;go_wp2_with fail
    go_meet
    exact ⟨rfl,rfl⟩
   ·have e1:((xs.length:Int)==1)=false:=by simp;omega
    have e1':(xs.length==1)=false:=by simp;omega
    clear he h2;go_wp2_with fail
    go_meet
    exact ⟨rfl,rfl⟩
  case rest=>
   obtain ⟨rfl,rfl⟩:=hcut;clear he;go_wp2_with fail
   go_loopw [6,7] (λo i wr=>∃(k:Nat) (S:Option Addr) (d:Nat) (s:List Int),k<=l.length/\i=.int .i64 ((k:Int)+1)/\o=.slice S s.length d/\Ints .i64 wr S s/\s.length<=d/\d<=9223372036854775807/\Sh.right s=true/\Od.joinAll side s0 (l.take k)=(s,0)/\Below w.heap.size w wr) (λ_ i _=>l.length+1-(intOf i).toNat)
   case atStart=>exact ⟨0,S0,c0,s0,Zt _,rfl,rfl,Hc.out,Hu,Hl,hT,rfl,Ze1 _ _⟩
   case round=>
    obtain ⟨k,S,d,s,hk,rfl,rfl,hI,Ht,Hs,hf,hs,hp⟩:=hrel
    by_cases hW:k<l.length
    ·obtain ⟨St,ct,yt,hz⟩:=Hp.out k hW
     have ho:=Hm.out _ (gmZ hW);obtain ⟨hC,hv⟩:=qdW hW hs;generalize l[k]=t at *;have y1:=qa1 hp yt;have ha:=hz.below hp (lrZ _);obtain ⟨s3,s4⟩:=qa5 hf;obtain ⟨t3,t4⟩:=qa5 ho;have k1:((k:Int)+1)<(xs.length:Int):=by omega
     have k2:((k:Int)+1).toNat=k+1:=by omega
     have k0:(0:Int)<=(k:Int)+1:=by omega
     have k3:IntKind.i64.wrap ((k:Int)+1+1)=(k:Int)+1+1:=Zc1 _ oZ
     by_cases hu:t.length=s.length
     rotate_left
     ·have e1:((t.length:Int) != (s.length:Int))=true:=by rw [bne_iff_ne];omega
      have e2:(t.length != s.length)=true:=by rw [bne_iff_ne];omega
      have hj:Od.join s t side=([],20):=by unfold Od.join;rw [inZ];simp;intro _ _ h;exact absurd h.symm hu
      have HQ:=zI (hL.out.trans (hv (by rw [hj];simp)));have HJ:=zI hj;clear hC hv hu hj hs;obtain ⟨HI,Hb,hO,h4,Hf⟩:=zd5 hI hz ha hf ho;clear hI hz ha hf ho;go_wp2_with fail
      go_ret2
      exact ⟨none,0,by rw [HQ.out,HJ.out];rfl,by rw [HQ.out];exact Ints.nil,by rw [HQ.out];exact lrZ _,by omega,hp⟩
     ·by_cases hn:Od.inR side s=true
      rotate_left
      ·have hj:Od.join s t side=([],11):=by unfold Od.join;rw [ipZ (by simp [hf,ho,hu]),inZ hn]
       have HQ:=zI (hL.out.trans (hv (by rw [hj];simp)));have HJ:=zI hj;simp [Od.inR] at hn;rw [hu] at y1;clear hC hv hu hj hs;obtain ⟨HI,Hb,hO,h4,Hf⟩:=zd5 hI hz ha hf ho;clear hI hz ha hf ho
       by_cases hg:side<0
       ·have e2:decide (side<0)=true:=by simpa using hg
        clear hn;go_wp2_with fail
        go_ret2
        exact ⟨none,0,by rw [HQ.out,HJ.out];rfl,by rw [HQ.out];exact Ints.nil,by rw [HQ.out];exact lrZ _,by omega,hp⟩
       ·have e2:decide (side<0)=false:=by simpa using hg
        have e3:decide ((s.length:Int)<=side)=true:=by simpa using hn oZ
        clear hn;go_wp2_with fail
        go_ret2
        exact ⟨none,0,by rw [HQ.out,HJ.out];rfl,by rw [HQ.out];exact Ints.nil,by rw [HQ.out];exact lrZ _,by omega,hp⟩
      ·have hq:Od.join s t side=if Od.joinOk s t side&&Sh.right (Od.joinL s t side) then (Od.joinL s t side,0) else ([],20):=by unfold Od.join;rw [ipZ (by simp [hf,ho,hu]),ipZ hn]
       simp [Od.inR] at hn;obtain ⟨sd,rfl⟩:∃sd:Nat,side=(sd:Int):=⟨side.toNat,by omega⟩
       have hP:sd<s.length:=by omega
       have e2:decide ((sd:Int)<0)=false:=by simp
       have e3:decide ((s.length:Int)<=(sd:Int))=false:=by simp;omega
       have e3':decide (s.length<=sd)=false:=by simp;omega
       rw [hu] at y1;clear hn;obtain ⟨bS,offS,rfl,-,-⟩:=hI 0 s3;obtain ⟨bT,offT,rfl,-,-⟩:=ha 0 t3;have Hv:=(Sh.right_mul hf).2.2.2.1 s[sd] (gmZ hP);have hh:sd<t.length:=by omega
       have Hz:=(Sh.right_mul ho).2.2.2.1 (t[sd]'hh) (gmZ hh);have hG:Od.joinL s t (sd:Int)=s.set sd (s[sd]+t[sd]'hh):=by unfold Od.joinL Od.at_;rw [tnZ,qa3 hP,qa3 hh]
       have h6:∀m (h:m<s.length),wr.cell? ⟨bS,offS+m,none⟩=some (.int .i64 s[m]):=λm h=>by
        obtain ⟨b,o,e,-,hc⟩:=hI m h;injection e with e;injection e with e1 e2;subst e1 e2
        rw [hc,qa3 h]
       have Hd:∀m (h:m<t.length),wr.cell? ⟨bT,offT+m,none⟩=some (.int .i64 t[m]):=λm h=>by
        obtain ⟨b,o,e,-,hc⟩:=ha m h;injection e with e;injection e with e1 e2;subst e1 e2
        rw [hc,qa3 h]
       have hK:=λm (hm:m<s.length)=>@qfa s t (sd:Int) m hm
       obtain ⟨HI,Hb,hO,h4,Hf,h3,hS,hD,Ho⟩:=zd9 hI hz ha hf ho hC hv hq hs;obtain ⟨Hk,h8,h7,h9,h5⟩:=zd5 hu hG h6 Hd hK;clear hI hz ha hf ho hC hv hq hs hu hG h6 Hd hK;go_wp2_with fail;obtain ⟨wo,rfl⟩:∃wo,wo=wr:=⟨wr,rfl⟩
       go_loopw [8] (λi wx=>∃m q:Nat,m<=s.length/\i=.int .i64 (m:Int)/\qeP s t (sd:Int) m/\wx=wo.drewN q) (λi _=>s.length-(intOf i).toNat)
       case atStart=>exact ⟨0,0,Zt _,rfl,λj hj=>by omega,rfl⟩
       case round=>
        obtain ⟨m,q,hm,rfl,hy,rfl⟩:=hrel
        by_cases hR:m<s.length
        ·have hB:m<t.length:=by have:=Hk.out;omega
         have z1:=h7.out m hR;have z2:=h9.out m hB;have m0:(0:Int)<=(m:Int):=by omega
         have m1:(m:Int)<(s.length:Int):=by omega
         by_cases hE:m=sd
         ·have e4:((m:Int) != (sd:Int))=false:=by simp [hE]
          have e4':(m != sd)=false:=by simp [hE]
          have HT:=zI (show qeP s t (sd:Int) (m+1) from λj hj=>by
           by_cases e:j=m
           ·left;omega
           ·exact hy j oZ)
          clear hy hE;go_wp2_with fail
          go_quiet (fail)
          go_wp2_with fail;go_roundw
          case rel=>exact ⟨m+1,_,by omega,by go_num,HT.out,by first|rfl|exact World.drewN_drewN _ _ _⟩
          case measure=>simp [intOf];omega
         ·have e4:((m:Int) != (sd:Int))=true:=by rw [bne_iff_ne];omega
          have e4':(m != sd)=true:=by rw [bne_iff_ne];exact hE
          by_cases hF:s[m]=t[m]
          ·have e5:(s[m] != t[m])=false:=by simp [hF]
           have HT:=zI (show qeP s t (sd:Int) (m+1) from λj hj=>by
            by_cases e:j=m
            ·right;subst e;rw [qa3 hR,qa3 hB,hF]
            ·exact hy j oZ)
           clear hy hE hF;generalize s[m]=x at *;generalize t[m]=y at *;go_wp2_with fail
           go_quiet (fail)
           go_wp2_with fail;go_roundw
           case rel=>exact ⟨m+1,_,by omega,by go_num,HT.out,by first|rfl|exact World.drewN_drewN _ _ _⟩
           case measure=>simp [intOf];omega
          ·have e5:(s[m] != t[m])=true:=by simp [hF]
           have He:=h5.out m hR oZ (by rw [qa3 hR,qa3 hB];exact hF);have hj:Od.join s t (sd:Int)=([],20):=by rw [hD.out,He];simp
           have HQ:=zI (hL.out.trans (hS.out (by rw [hj];simp)));have HJ:=zI hj;clear hy hE hF He hj;generalize s[m]=x at *;generalize t[m]=y at *;go_wp2_with fail
           go_quiet (fail)
           go_wp2_with fail
           go_ret2
           exact ⟨none,0,by rw [HQ.out,HJ.out];rfl,by rw [HQ.out];exact Ints.nil,by rw [HQ.out];exact lrZ _,by omega,by first|exact qa6 hp _|(rw [World.drewN_drewN];exact qa6 hp _)⟩
        ·obtain rfl:m=s.length:=by omega
         have hM:=qf9 hy;have z1:=h7.out sd hP;have z2:=h9.out sd hh;have Hh:=HI.out.drewN q;have m0:(0:Int)<=(sd:Int):=by omega
         have m1:(sd:Int)<(s.length:Int):=by omega
         have hG:=h8.out;have hq:=hD.out;rw [hM,Bool.true_and,hG] at hq;have hC:=h3.out;have hv:=hS.out;generalize s[sd]=x at *;generalize t[sd]=y at *;have ww:IntKind.i64.wrap (x+y)=x+y:=Zc1 _ oZ;clear hy hM;obtain ⟨Hi,h8,hD,h3,hS⟩:=zd5 Hh hG hq hC hv;clear Hh hG hq hC hv;go_upto_region 16 with fail
         go_region_held3 (λw'=>w'.cell? ⟨bS,offS+sd,none⟩=some (.int .i64 x)/\w'.cell? ⟨b0,off0+(k+1),none⟩=some (.slice (some ⟨bT,offT,none⟩) s.length ct)/\w'.cell? ⟨bT,offT+sd,none⟩=some (.int .i64 y)) (first|go_keep|(exact ⟨qa1 hw z1,qa1 hw y1,qa1 hw z2⟩))
          ((go_at_call 160;refine (qc2 _ _ s sd (x+y) _ oZ (by exact Hi.out) hP).mono ?_;rintro e w9 ⟨g,rfl,hU,Hw,hw⟩))
         have hJ:=hp.trans ((show Below wo.heap.size wo w9 from ⟨hw.os,hw.tape,hw.output,hw.size,hw.block⟩).mono hp.size);have hV:(s.set sd (x+y)).length=s.length:=List.length_set;obtain ⟨s',hs'⟩:∃s',s.set sd (x+y)=s':=⟨_,rfl⟩
         have hq:=hD.out;rw [hs'] at hU hV hq;have hi:=qaH (some ⟨g,0,none⟩) s.length s' w9 oZ hU;rw [hV] at hi;obtain ⟨hN,Hn,Hg,hD⟩:=zd4 hi hU hV hq;have Hy:=zI hs';clear hi hU hV hq hs';go_wp2_with fail;refine (hN.out).mono ?_;rintro e w10 ⟨rfl,rfl⟩
         by_cases hA:Sh.right s'=true
         ·have hj:=hD.out
          rw [ipZ hA] at hj;have HS:=zI (h3.out (by rw [hj]));have HJ:=zI hj;have HR:=zI hA;rw [hA];clear hj hA z1 z2 y1;go_wp2_with fail;go_roundw
          case rel=>exact ⟨k+1,some ⟨g,0,none⟩,s.length,s',by omega,by go_num,by rw [Hg.out],Hn.out,by have:=Hg.out;omega,by omega,HR.out,by rw [HS.out,HJ.out],hJ⟩
          case measure=>simp [intOf];omega
         ·have hj:=hD.out
          rw [inZ hA] at hj;have HQ:=zI (hL.out.trans (hS.out (by rw [hj];simp)));have HJ:=zI hj;have Ha:Sh.right s'=false:=by simpa using hA
          rw [Ha];clear hj hA Ha z1 z2 y1;go_wp2_with fail
          go_ret2
          exact ⟨none,0,by rw [HQ.out,HJ.out];rfl,by rw [HQ.out];exact Ints.nil,by rw [HQ.out];exact lrZ _,by omega,hJ⟩
    ·obtain rfl:k=l.length:=by omega
     rw [Zg] at hs;have HQ:=zI (hL.out.trans hs);have k1:¬((l.length:Int)+1)<(xs.length:Int):=by omega
     obtain ⟨HI,Ho,h4⟩:=zd3 hI hs hf;clear hI hs hf;go_wp2_with fail
     go_ret2
     exact ⟨S,d,by rw [HQ.out];rfl,by rw [HQ.out];exact HI.out,by rw [HQ.out];exact Ht,Hs,hp⟩
theorem Shps.each {w:Zp1} {b off:Nat} {xs:List (List Int)} (h:Shps w (some ⟨b,off,none⟩) xs) {k:Nat} (hk:k<xs.length):
  ∃S c,w.cell? ⟨b,off+k,none⟩=some (.slice S xs[k].length c)/\Ints .i64 w S xs[k]/\xs[k].length<=c/\c<=9223372036854775807:=by
 obtain ⟨b',o',S,c,e,-,hc,hI,h1,h2⟩:=h k hk;injection e with e
 injection e with e1 e2
 subst e1 e2;exact ⟨S,c,hc,hI,h1,h2⟩
theorem Ints.at_ {k:IntKind} {w:Zp1} {b off:Nat} {zs:List Int} (h:Ints k w (some ⟨b,off,none⟩) zs) {j:Nat} (hj:j<zs.length):w.cell? ⟨b,off+j,none⟩=some (.int k zs[j]):=by
 obtain ⟨b',o',e,-,hc⟩:=h j hj;injection e with e
 injection e with e1 e2
 subst e1 e2;rw [hc,qa3 hj]
theorem RefP.err {r:List Int × Int} {w w':Zp1} {n:Int} (h:r=([],n)) (hb:Below w.heap.size w w'):RefP r w (.returned (.tuple #[.slice none 0 0,.int .i64 n])) w':=
 ⟨none,0,by rw [h];rfl,by rw [h];exact Ints.nil,by rw [h];exact lrZ _,by omega,hb⟩
theorem RefP.ok {r:List Int × Int} {w w':Zp1} {S:Option Addr} {s:List Int} {c n:Nat} (h:r=(s,0)) (hn:s.length=n) (hI:Ints .i64 w' S s) (h1:s.length<=c) (h2:c<=9223372036854775807) (hb:Below w.heap.size w w'):RefP r w (.returned (.tuple #[.slice S n c,.int .i64 0])) w':=by
 subst hn;exact ⟨S,c,by rw [h],by rw [h];exact hI,by rw [h];exact h1,h2,hb⟩
theorem qdm {B:Nat} {a w:Zp1} (h:Below B a w) (n m:Nat):Below B a ((w.drewN n).drewN m):=qa6 (qa6 h n) m
theorem list_two {l:List Int} (h:l.length=2):∃a b,l=[a,b]:=by
 match l,h with
 | [a,b],_=>exact ⟨a,b,rfl⟩
theorem qg1 {l:List Int} (h:l.length=1):∃x,l=[x]:=by
 match l,h with
 | [x],_=>exact ⟨x,rfl⟩
set_option maxRecDepth 20000 in
theorem qcN (o:OpD) (S P X:Option Addr) (c d f:Nat) (p x:List (List Int)) (w:Zp1) (hk:o.kind<=7) (ho:o.s.length<=1099511627776) (hsc:o.s.length<=c) (hsm:c<=9223372036854775807) (hw:o.wide) (hS:Ints .i64 w S o.s) (hP:Shps w P p) (hX:Shps w X x) (hxl:x.length<=1048576) (h1:1<=x.length) (hp:∀s∈p,Sh.right s=true) (hx:∀s∈x,Sh.right s=true):
  Calls Tryz.prog 149 #[.agg #[.int .i64 o.kind,.int .i64 o.k,.int .i64 o.width,.int .i64 o.step,.int .i64 o.side,.int .i64 o.frm,.int .i64 o.to,.slice S o.s.length c],.slice P p.length d,.slice X x.length f] w (RefP (Od.byKind o p x) w):=by
 have hq:Od.byKind o p x=Od.same x:=by unfold Od.byKind;rw [inZ oZ,inZ oZ,inZ oZ,inZ oZ,inZ oZ,inZ oZ,inZ oZ]
 obtain ⟨bx,ox,S0,c0,rfl,-⟩:=hX 0 h1;have hb:Below w.heap.size w (w.alloc (.cells #[.int .i64 o.kind,.int .i64 o.k,.int .i64 o.width,.int .i64 o.step,.int .i64 o.side,.int .i64 o.frm,.int .i64 o.to,.slice S o.s.length c] 87)):=(Ze1 _ _).alloc (lrZ _) _;have hg:=Blk.new w 87 #[.int .i64 o.kind,.int .i64 o.k,.int .i64 o.width,.int .i64 o.step,.int .i64 o.side,.int .i64 o.frm,.int .i64 o.to,.slice S o.s.length c];obtain ⟨z0,z1,z2,z3,z4,z5,z6,z7⟩:=qaj hg;have hh:=hX.below hb (lrZ _);have hs:=hP.below hb (lrZ _);have hu:=hS.below hb (lrZ _);have hc:=hx x[0] (gmZ h1);have hi:x.getD 0 []=x[0]:=qa8 h1
 first|rw [hi] at hq|skip
 have e1:decide (o.kind<=7)=true:=by simpa using hk
 clear hk;obtain ⟨hK,HX,HP,HS,Hp,Hx⟩:=zd6 hg hX hP hS hp hx;clear hg hX hP hS hp hx;go_enter Tryz.func149,Tryz.ntmps149;go_upto_region 1 with fail;generalize (w.alloc (.cells #[.int .i64 o.kind,.int .i64 o.k,.int .i64 o.width,.int .i64 o.step,.int .i64 o.side,.int .i64 o.frm,.int .i64 o.to,.slice S o.s.length c] 87))=w1 at *;obtain ⟨S0',c0',y0,hy,hH,hF⟩:=hh.each h1;rw [Zx] at y0;clear S0;generalize hs0:x[0]=s0 at *;have hm:=(Sh.right_mul hc).2.2.2.1;obtain ⟨s3,s4⟩:=qa5 hc;obtain ⟨hD,hL,hM,hf,hG,Hq,hr,hJ,hN⟩:=zd9 hh hs hu hy hc hq hi hs0 hm;have Hw:=zI hw;clear hh hs hu hy hc hq hi hs0 hm hw;go_wp2_with fail;refine (qao S0' c0' s0 w1 hG.out hf.out).mono ?_;rintro e w2 ⟨rfl,rfl⟩;go_wp2_with fail
 go_loopw [10] (λi wx=>∃k q:Nat,k<=x.length/\i=.int .i64 (k:Int)/\(∀j (hj:j<x.length),j<k->x[j]=s0)/\wx=w1.drewN q) (λi _=>x.length-(intOf i).toNat)
 case atStart=>exact ⟨0,0,Zt _,rfl,λj hj h=>by omega,rfl⟩
 case round=>
  obtain ⟨k,q,hk,rfl,ha,rfl⟩:=hrel
  by_cases hd:k<x.length
  ·obtain ⟨Sk,ck,yk,hz,hR,hI⟩:=hD.out.each hd
   have k0:(0:Int)<=(k:Int):=by omega
   have k1:(k:Int)<(x.length:Int):=by omega
   have hn:x[k]=s0->∀j (hj:j<x.length),j<k+1->x[j]=s0:=λe j hj hQ=>by
    by_cases h:j=k
    ·subst h;exact e
    ·exact ha j hj oZ
   have hv:x[k]≠s0->Od.same x=([],20):=λe=>by
    unfold Od.same;rw [inZ];rw [Zf];intro h;have:=h x[k] (gmZ hd);rw [hr.out] at this;exact e (by simpa using this)
   have hl:=Hx.out x[k] (gmZ hd);obtain ⟨a3,a4⟩:=qa5 hl;generalize x[k]=t at *;obtain ⟨hC,hE,hB,hA,hO⟩:=zd5 hz ha hn hv hl;clear hz ha hn hv hl;go_wp2_with fail;refine (qbq Sk S0' ck c0' t s0 _ oZ oZ (hC.out.drewN q) (hf.out.drewN q)).mono ?_;rintro e w3 ⟨rfl,q2,rfl⟩
   by_cases he:t=s0
   ·have e1:decide (t=s0)=true:=by simpa using he
    have HG:=zI (hB.out he);rw [e1];clear he e1;go_wp2_with fail;go_roundw
    case rel=>exact ⟨k+1,_,by omega,by go_num,HG.out,by first|rfl|exact World.drewN_drewN _ _ _⟩
    case measure=>simp [intOf];omega
   ·have e1:decide (t=s0)=false:=by simpa using he
    have HN:=zI (Hq.out.trans (hA.out he));rw [e1];clear he e1;go_wp2_with fail
    go_ret2
    exact RefP.err HN.out (by first|exact qdm hb _ _|exact qa6 hb _)
  ·obtain rfl:k=x.length:=by omega
   have HN:=zI (Hq.out.trans (show Od.same x=(s0,0) by
    unfold Od.same;rw [hr.out,ipZ];rw [Zf];intro t ht;obtain ⟨j,hj,rfl⟩:=List.getElem_of_mem ht;simpa using ha j hj hj))
   clear ha;go_wp2_with fail
   go_ret2
   exact RefP.ok HN.out rfl (hf.out.drewN q) hH hF (by first|exact qdm hb _ _|exact qa6 hb _)
set_option maxRecDepth 20000 in
theorem qc3 (o:OpD) (S P X:Option Addr) (c d f:Nat) (p x:List (List Int)) (w:Zp1) (hk:o.kind=9) (hpl:p.length=1) (ho:o.s.length<=1099511627776) (hsc:o.s.length<=c) (hsm:c<=9223372036854775807) (hw:o.wide) (hS:Ints .i64 w S o.s) (hP:Shps w P p) (hX:Shps w X x) (hxl:x.length<=1048576) (h1:1<=x.length) (hp:∀s∈p,Sh.right s=true) (hx:∀s∈x,Sh.right s=true):
  Calls Tryz.prog 149 #[.agg #[.int .i64 o.kind,.int .i64 o.k,.int .i64 o.width,.int .i64 o.step,.int .i64 o.side,.int .i64 o.frm,.int .i64 o.to,.slice S o.s.length c],.slice P p.length d,.slice X x.length f] w (RefP (Od.byKind o p x) w):=by
 have hq:Od.byKind o p x=Od.same [p.getD 0 [],x.getD 0 []]:=by unfold Od.byKind;simp [hk]
 obtain ⟨bx,ox,S0,c0,rfl,-⟩:=hX 0 h1;obtain ⟨bp,op,T0,d0,rfl,-⟩:=hP 0 oZ;have ha:Below w.heap.size w (w.alloc (.cells #[.int .i64 o.kind,.int .i64 o.k,.int .i64 o.width,.int .i64 o.step,.int .i64 o.side,.int .i64 o.frm,.int .i64 o.to,.slice S o.s.length c] 87)):=(Ze1 _ _).alloc (lrZ _) _;have hd:=Blk.new w 87 #[.int .i64 o.kind,.int .i64 o.k,.int .i64 o.width,.int .i64 o.step,.int .i64 o.side,.int .i64 o.frm,.int .i64 o.to,.slice S o.s.length c];obtain ⟨z0,z1,z2,z3,z4,z5,z6,z7⟩:=qaj hd;have hg:=hX.below ha (lrZ _);have hf:=hP.below ha (lrZ _);have hn:=hS.below ha (lrZ _);have hb:=hx x[0] (gmZ h1);have hh:x.getD 0 []=x[0]:=qa8 h1
 first|rw [hh] at hq|skip
 have hj:=hp p[0] (gmZ oZ);have hi:p.getD 0 []=p[0]:=qa8 oZ
 first|rw [hi] at hq|skip
 have l7:decide (o.kind<=7)=false:=by simp;omega
 have e8:(o.kind==8)=false:=by simp;omega
 have e9:(o.kind==9)=true:=by simp;omega
 clear hk;obtain ⟨hF,HX,HP,HS,Hp,Hx⟩:=zd6 hd hX hP hS hp hx;clear hd hX hP hS hp hx;go_enter Tryz.func149,Tryz.ntmps149;go_upto_region 1 with fail;generalize (w.alloc (.cells #[.int .i64 o.kind,.int .i64 o.k,.int .i64 o.width,.int .i64 o.step,.int .i64 o.side,.int .i64 o.frm,.int .i64 o.to,.slice S o.s.length c] 87))=w1 at *;obtain ⟨S0',c0',y0,hr,hv,ht⟩:=hg.each h1;rw [Zx] at y0;obtain ⟨T0',d0',v0,hl,hI,hA⟩:=hf.each (show 0<p.length by omega);rw [Zx] at v0;clear T0;clear S0;generalize hs0:x[0]=s0 at *;generalize hsp:p[0]=t0 at *;obtain ⟨q3,q4⟩:=qa5 hj;have hm:=(Sh.right_mul hb).2.2.2.1;obtain ⟨s3,s4⟩:=qa5 hb;obtain ⟨hD,hG,hH,hc,hu,Hq,hB,hz,hJ⟩:=zd9 hg hf hn hr hb hq hh hs0 hm;obtain ⟨Hw,hs,hC,hy,hE⟩:=zd5 hw hl hj hi hsp;clear hg hf hn hr hb hq hh hs0 hm hw hl hj hi hsp;go_wp2_with fail;refine (qao S0' c0' s0 w1 hu.out hc.out).mono ?_;rintro e w2 ⟨rfl,rfl⟩;go_wp2_with fail;refine (qbq T0' S0' d0' c0' t0 s0 _ oZ oZ hs.out hc.out).mono ?_;rintro e w3 ⟨rfl,q2,rfl⟩
 by_cases he:t0=s0
 ·have e1:decide (t0=s0)=true:=by simpa using he
  have HN:=zI (Hq.out.trans (show Od.same [t0,s0]=(s0,0) by simp [Od.same,he]));rw [e1];clear he e1;go_wp2_with fail
  go_ret2
  exact RefP.ok HN.out rfl (hc.out.drewN q2) hv ht (qa6 ha _)
 ·have e1:decide (t0=s0)=false:=by simpa using he
  have HN:=zI (Hq.out.trans (show Od.same [t0,s0]=([],20) by
   unfold Od.same;rw [inZ];simp;intro e;exact he e.symm))
  rw [e1];clear he e1;go_wp2_with fail
  go_ret2
  exact RefP.err HN.out (qa6 ha _)
set_option maxRecDepth 20000 in
theorem qci (o:OpD) (S P X:Option Addr) (c d f:Nat) (p x:List (List Int)) (w:Zp1) (hk:o.kind=13) (ho:o.s.length<=1099511627776) (hsc:o.s.length<=c) (hsm:c<=9223372036854775807) (hw:o.wide) (hS:Ints .i64 w S o.s) (hP:Shps w P p) (hX:Shps w X x) (hxl:x.length<=1048576) (h1:1<=x.length) (hp:∀s∈p,Sh.right s=true) (hx:∀s∈x,Sh.right s=true):
  Calls Tryz.prog 149 #[.agg #[.int .i64 o.kind,.int .i64 o.k,.int .i64 o.width,.int .i64 o.step,.int .i64 o.side,.int .i64 o.frm,.int .i64 o.to,.slice S o.s.length c],.slice P p.length d,.slice X x.length f] w (RefP (Od.byKind o p x) w):=by
 have hq:Od.byKind o p x=Od.joined o.side x:=by unfold Od.byKind;simp [hk]
 obtain ⟨bx,ox,S0,c0,rfl,-⟩:=hX 0 h1;have ha:Below w.heap.size w (w.alloc (.cells #[.int .i64 o.kind,.int .i64 o.k,.int .i64 o.width,.int .i64 o.step,.int .i64 o.side,.int .i64 o.frm,.int .i64 o.to,.slice S o.s.length c] 87)):=(Ze1 _ _).alloc (lrZ _) _;have hf:=Blk.new w 87 #[.int .i64 o.kind,.int .i64 o.k,.int .i64 o.width,.int .i64 o.step,.int .i64 o.side,.int .i64 o.frm,.int .i64 o.to,.slice S o.s.length c];obtain ⟨z0,z1,z2,z3,z4,z5,z6,z7⟩:=qaj hf;have hc:=hX.below ha (lrZ _);have hl:=hP.below ha (lrZ _);have hh:=hS.below ha (lrZ _);have hb:=hx x[0] (gmZ h1);have he:x.getD 0 []=x[0]:=qa8 h1
 first|rw [he] at hq|skip
 have l7:decide (o.kind<=7)=false:=by simp;omega
 have l12:decide (o.kind<=12)=false:=by simp;omega
 have e8:(o.kind==8)=false:=by simp;omega
 have e9:(o.kind==9)=false:=by simp;omega
 have e10:(o.kind==10)=false:=by simp;omega
 have e13:(o.kind==13)=true:=by simp;omega
 clear hk;obtain ⟨hH,HX,HP,HS,Hp,Hx⟩:=zd6 hf hX hP hS hp hx;clear hf hX hP hS hp hx;go_enter Tryz.func149,Tryz.ntmps149;go_upto_region 1 with fail;generalize (w.alloc (.cells #[.int .i64 o.kind,.int .i64 o.k,.int .i64 o.width,.int .i64 o.step,.int .i64 o.side,.int .i64 o.frm,.int .i64 o.to,.slice S o.s.length c] 87))=w1 at *;obtain ⟨S0',c0',y0,hi,hD,hA⟩:=hc.each h1;rw [Zx] at y0;clear S0;generalize hs0:x[0]=s0 at *;have hn:=(Sh.right_mul hb).2.2.2.1;obtain ⟨s3,s4⟩:=qa5 hb;obtain ⟨hs,hB,hC,hv,hr,Hq,hG,hE,hF⟩:=zd9 hc hl hh hi hb hq he hs0 hn;have Hw:=zI hw;clear hc hl hh hi hb hq he hs0 hn hw;go_wp2_with fail;refine (qao S0' c0' s0 w1 hr.out hv.out).mono ?_;rintro e w2 ⟨rfl,rfl⟩;go_wp2_with fail;refine (qdX o.side (some ⟨bx,ox,none⟩) f x _ hs.out hxl h1 Hx.out).mono ?_;rintro e w3 ⟨S9,c9,rfl,hm,hy,ht,hz⟩;have hd:=ha.trans (hz.mono ha.size);have hj:=Hq.out;generalize Od.joined o.side x=r at *;obtain ⟨hu,hg⟩:=zd2 hm hj;clear hm hj;go_wp2_with fail
 go_ret2
 exact ⟨S9,c9,by rw [hg.out];rfl,by rw [hg.out];exact hu.out,by rw [hg.out];exact hy,ht,hd⟩
set_option maxRecDepth 20000 in
theorem qcj (o:OpD) (S P X:Option Addr) (c d f:Nat) (p x:List (List Int)) (w:Zp1) (hk:o.kind=15) (ho:o.s.length<=1099511627776) (hsc:o.s.length<=c) (hsm:c<=9223372036854775807) (hw:o.wide) (hS:Ints .i64 w S o.s) (hP:Shps w P p) (hX:Shps w X x) (hxl:x.length<=1048576) (h1:1<=x.length) (hp:∀s∈p,Sh.right s=true) (hx:∀s∈x,Sh.right s=true):
  Calls Tryz.prog 149 #[.agg #[.int .i64 o.kind,.int .i64 o.k,.int .i64 o.width,.int .i64 o.step,.int .i64 o.side,.int .i64 o.frm,.int .i64 o.to,.slice S o.s.length c],.slice P p.length d,.slice X x.length f] w (RefP (Od.byKind o p x) w):=by
 have hq:Od.byKind o p x=Od.turned (x.getD 0 []) o.s:=by unfold Od.byKind;simp [hk]
 obtain ⟨bx,ox,S0,c0,rfl,-⟩:=hX 0 h1;have ha:Below w.heap.size w (w.alloc (.cells #[.int .i64 o.kind,.int .i64 o.k,.int .i64 o.width,.int .i64 o.step,.int .i64 o.side,.int .i64 o.frm,.int .i64 o.to,.slice S o.s.length c] 87)):=(Ze1 _ _).alloc (lrZ _) _;have hh:=Blk.new w 87 #[.int .i64 o.kind,.int .i64 o.k,.int .i64 o.width,.int .i64 o.step,.int .i64 o.side,.int .i64 o.frm,.int .i64 o.to,.slice S o.s.length c];obtain ⟨z0,z1,z2,z3,z4,z5,z6,z7⟩:=qaj hh;have hd:=hX.below ha (lrZ _);have hs:=hP.below ha (lrZ _);have hi:=hS.below ha (lrZ _);have hb:=hx x[0] (gmZ h1);have hg:x.getD 0 []=x[0]:=qa8 h1
 first|rw [hg] at hq|skip
 have l7:decide (o.kind<=7)=false:=by simp;omega
 have l12:decide (o.kind<=12)=false:=by simp;omega
 have e8:(o.kind==8)=false:=by simp;omega
 have e9:(o.kind==9)=false:=by simp;omega
 have e10:(o.kind==10)=false:=by simp;omega
 have e13:(o.kind==13)=false:=by simp;omega
 have e14:(o.kind==14)=false:=by simp;omega
 clear hk;obtain ⟨hD,HX,HP,HS,Hp,Hx⟩:=zd6 hh hX hP hS hp hx;clear hh hX hP hS hp hx;go_enter Tryz.func149,Tryz.ntmps149;go_upto_region 1 with fail;generalize (w.alloc (.cells #[.int .i64 o.kind,.int .i64 o.k,.int .i64 o.width,.int .i64 o.step,.int .i64 o.side,.int .i64 o.frm,.int .i64 o.to,.slice S o.s.length c] 87))=w1 at *;obtain ⟨S0',c0',y0,hj,hA,hv⟩:=hd.each h1;rw [Zx] at y0;clear S0;generalize hs0:x[0]=s0 at *;have hm:=(Sh.right_mul hb).2.2.2.1;obtain ⟨s3,s4⟩:=qa5 hb;obtain ⟨hz,hy,hf,hu,hl,Hq,hE,hB,hC⟩:=zd9 hd hs hi hj hb hq hg hs0 hm;have Hw:=zI hw;clear hd hs hi hj hb hq hg hs0 hm hw;go_wp2_with fail;refine (qao S0' c0' s0 w1 hl.out hu.out).mono ?_;rintro e w2 ⟨rfl,rfl⟩;go_wp2_with fail;refine (qaH S c o.s _ oZ hf.out).mono ?_;rintro e w3 ⟨rfl,rfl⟩
 by_cases hr:Sh.right o.s=true
 ·rw [hr]
  have hn:=Hq.out;unfold Od.turned at hn;rw [hl.out,hr,Bool.true_and,Bool.true_and] at hn;obtain ⟨ht,HN⟩:=zd2 hr hn;clear hr hn;go_wp2_with fail;refine (qao S c o.s _ ht.out hf.out).mono ?_;rintro e w3 ⟨rfl,rfl⟩
  by_cases he:Safe.prod o.s=Safe.prod s0
  ·have e1:(Safe.prod o.s != Safe.prod s0)=false:=by simp [he]
   have HM:=zI (HN.out.trans (ipZ (decide_eq_true he)));clear he;go_wp2_with fail
   go_ret2
   exact RefP.ok HM.out rfl hf.out hsc hsm ha
  ·have e1:(Safe.prod o.s != Safe.prod s0)=true:=by simp [he]
   have HM:=zI (HN.out.trans (inZ (by simpa using he)));clear he;go_wp2_with fail
   go_ret2
   exact RefP.err HM.out ha
 ·have hc:Sh.right o.s=false:=by simpa using hr
  rw [hc];have HM:=zI (Hq.out.trans (show Od.turned s0 o.s=([],20) by unfold Od.turned;rw [hc];simp));clear hr hc;go_wp2_with fail
  go_ret2
  exact RefP.err HM.out ha
set_option maxRecDepth 20000 in
theorem qck (o:OpD) (S P X:Option Addr) (c d f:Nat) (p x:List (List Int)) (w:Zp1) (hk:o.kind=11∨o.kind=12) (ho:o.s.length<=1099511627776) (hsc:o.s.length<=c) (hsm:c<=9223372036854775807) (hw:o.wide) (hS:Ints .i64 w S o.s) (hP:Shps w P p) (hX:Shps w X x) (hxl:x.length<=1048576) (h1:1<=x.length) (hp:∀s∈p,Sh.right s=true) (hx:∀s∈x,Sh.right s=true):
  Calls Tryz.prog 149 #[.agg #[.int .i64 o.kind,.int .i64 o.k,.int .i64 o.width,.int .i64 o.step,.int .i64 o.side,.int .i64 o.frm,.int .i64 o.to,.slice S o.s.length c],.slice P p.length d,.slice X x.length f] w (RefP (Od.byKind o p x) w):=by
 have hq:Od.byKind o p x=Od.pool (x.getD 0 []) o.width o.step:=by unfold Od.byKind;rw [inZ oZ,inZ oZ,inZ oZ,ipZ hk]
 obtain ⟨bx,ox,S0,c0,rfl,-⟩:=hX 0 h1;have hf:Below w.heap.size w (w.alloc (.cells #[.int .i64 o.kind,.int .i64 o.k,.int .i64 o.width,.int .i64 o.step,.int .i64 o.side,.int .i64 o.frm,.int .i64 o.to,.slice S o.s.length c] 87)):=(Ze1 _ _).alloc (lrZ _) _;have hs:=Blk.new w 87 #[.int .i64 o.kind,.int .i64 o.k,.int .i64 o.width,.int .i64 o.step,.int .i64 o.side,.int .i64 o.frm,.int .i64 o.to,.slice S o.s.length c];obtain ⟨z0,z1,z2,z3,z4,z5,z6,z7⟩:=qaj hs;have ht:=hX.below hf (lrZ _);have hC:=hP.below hf (lrZ _);have hD:=hS.below hf (lrZ _);have hn:=hx x[0] (gmZ h1);have hy:x.getD 0 []=x[0]:=qa8 h1
 first|rw [hy] at hq|skip
 have l7:decide (o.kind<=7)=false:=by simp;omega
 have e8:(o.kind==8)=false:=by simp;omega
 have e9:(o.kind==9)=false:=by simp;omega
 have e10:(o.kind==10)=false:=by simp;omega
 have l12:decide (o.kind<=12)=true:=by simp;omega
 clear hk;obtain ⟨hW,HX,HP,HS,Hp,Hx⟩:=zd6 hs hX hP hS hp hx;clear hs hX hP hS hp hx;go_enter Tryz.func149,Tryz.ntmps149;go_upto_region 1 with fail;generalize (w.alloc (.cells #[.int .i64 o.kind,.int .i64 o.k,.int .i64 o.width,.int .i64 o.step,.int .i64 o.side,.int .i64 o.frm,.int .i64 o.to,.slice S o.s.length c] 87))=w1 at *;obtain ⟨S0',c0',y0,hE,h2,hY⟩:=ht.each h1;rw [Zx] at y0;clear S0;generalize hs0:x[0]=s0 at *;have hB:=(Sh.right_mul hn).2.2.2.1;obtain ⟨s3,s4⟩:=qa5 hn;obtain ⟨hV,hZ,h0,hm,hF,Hq,hU,hR,hL⟩:=zd9 ht hC hD hE hn hq hy hs0 hB;have Hw:=zI hw;clear ht hC hD hE hn hq hy hs0 hB hw;go_wp2_with fail;refine (qao S0' c0' s0 w1 hF.out hm.out).mono ?_;rintro e w2 ⟨rfl,rfl⟩;have hg:s0.length-1<s0.length:=by omega
 have hc:=Hq.out;unfold Od.pool at hc;rw [ipZ hF.out,qa3 hg] at hc;obtain ⟨bs,os,rfl,-,-⟩:=hm.out 0 s3;have g0:=hm.out.at_ hg;have h3:=hL.out _ (gmZ hg);have i1:IntKind.i64.wrap ((s0.length:Int)-1)=((s0.length-1:Nat):Int):=by rw [Zc1 _ oZ];omega
 have i2:(0:Int)<=((s0.length-1:Nat):Int):=by omega
 have i3:((s0.length-1:Nat):Int)<(s0.length:Int):=by omega
 have hd:=λn:Nat=>qcc s0[s0.length-1] o.width o.step (w1.drewN n)
 have hA:=@Od.window_ok s0[s0.length-1] o.width o.step;have hj:=@Od.window_err s0[s0.length-1] o.width o.step;generalize s0[s0.length-1]=z at *;have he:∀v,(s0.set (s0.length-1) v).length=s0.length:=λv=>List.length_set
 have ha:=λ(n:Nat) (v:Int)=>qc2 (some ⟨bs,os,none⟩) c0' s0 (s0.length-1) v (w1.drewN n) oZ (hm.out.drewN n) hg
 obtain ⟨l,hl⟩:∃l:Nat,s0.length-1=l:=⟨_,rfl⟩
 have hI:(s0.length:Int)-1=(l:Int):=by omega
 rw [hl] at g0 i1 i2 i3 ha hc he;have i4:l<s0.length:=by omega
 obtain ⟨hi,hh,hJ,hu,hv,Hl,h4⟩:=zd7 hc hd hA hj he hl hI;clear hc hd hA hj he hl hI;have hN:=zI ha;clear ha hg;go_wp2_with fail
 go_quiet ((go_at_call 159;exact qaB (hh.out _)))
 rename_i nq;generalize hwv:Od.window z o.width o.step=wv at *
 by_cases hz:wv.2=0
 ·have hb:=hJ.out hz
  have e1:(wv.1==0)=false:=by simp;omega
  have HN:=zI (hi.out.trans (ipZ hz));have HC:=zI (hN.out nq wv.1);clear hz hb;have hM:=zI hwv;clear hwv;go_wp2_with fail;refine (HC.out).mono ?_;rintro e w3 ⟨g,rfl,hG,hT,hK⟩;have hr:=(qa6 hf nq).trans (hK.mono hf.size);have hH:=hv.out wv.1;generalize s0.set l wv.1=s9 at *;obtain ⟨hO,hQ⟩:=zd2 hG hH;clear hG hH;go_wp2_with fail
  go_ret2
  exact RefP.ok HN.out rfl hO.out (lrZ _) (by have:=hQ.out;omega) hr
 ·have hb:=hu.out hz
  have e1:(wv.1==0)=true:=by rw [hb];rfl
  have HN:=zI (hi.out.trans (inZ hz));clear hz hb;have hM:=zI hwv;clear hwv;go_wp2_with fail
  go_ret2
  exact RefP.err HN.out (qa6 hf _)
set_option maxRecDepth 20000 in
theorem qcz (o:OpD) (S P X:Option Addr) (c d f:Nat) (p x:List (List Int)) (w:Zp1) (hk:o.kind=14) (ho:o.s.length<=1099511627776) (hsc:o.s.length<=c) (hsm:c<=9223372036854775807) (hw:o.wide) (hS:Ints .i64 w S o.s) (hP:Shps w P p) (hX:Shps w X x) (hxl:x.length<=1048576) (h1:1<=x.length) (hp:∀s∈p,Sh.right s=true) (hx:∀s∈x,Sh.right s=true):
  Calls Tryz.prog 149 #[.agg #[.int .i64 o.kind,.int .i64 o.k,.int .i64 o.width,.int .i64 o.step,.int .i64 o.side,.int .i64 o.frm,.int .i64 o.to,.slice S o.s.length c],.slice P p.length d,.slice X x.length f] w (RefP (Od.byKind o p x) w):=by
 have hq:Od.byKind o p x=Od.cut (x.getD 0 []) o.side o.frm o.to:=by unfold Od.byKind;simp [hk]
 obtain ⟨bx,ox,S0,c0,rfl,-⟩:=hX 0 h1;have ha:Below w.heap.size w (w.alloc (.cells #[.int .i64 o.kind,.int .i64 o.k,.int .i64 o.width,.int .i64 o.step,.int .i64 o.side,.int .i64 o.frm,.int .i64 o.to,.slice S o.s.length c] 87)):=(Ze1 _ _).alloc (lrZ _) _;have hh:=Blk.new w 87 #[.int .i64 o.kind,.int .i64 o.k,.int .i64 o.width,.int .i64 o.step,.int .i64 o.side,.int .i64 o.frm,.int .i64 o.to,.slice S o.s.length c];obtain ⟨z0,z1,z2,z3,z4,z5,z6,z7⟩:=qaj hh;have hi:=hX.below ha (lrZ _);have hn:=hP.below ha (lrZ _);have hr:=hS.below ha (lrZ _);have he:=hx x[0] (gmZ h1);have hl:x.getD 0 []=x[0]:=qa8 h1
 first|rw [hl] at hq|skip
 have l7:decide (o.kind<=7)=false:=by simp;omega
 have l12:decide (o.kind<=12)=false:=by simp;omega
 have e8:(o.kind==8)=false:=by simp;omega
 have e9:(o.kind==9)=false:=by simp;omega
 have e10:(o.kind==10)=false:=by simp;omega
 have e13:(o.kind==13)=false:=by simp;omega
 have e14:(o.kind==14)=true:=by simp;omega
 clear hk;obtain ⟨hJ,HX,HP,HS,Hp,Hx⟩:=zd6 hh hX hP hS hp hx;clear hh hX hP hS hp hx;go_enter Tryz.func149,Tryz.ntmps149;go_upto_region 1 with fail;generalize (w.alloc (.cells #[.int .i64 o.kind,.int .i64 o.k,.int .i64 o.width,.int .i64 o.step,.int .i64 o.side,.int .i64 o.frm,.int .i64 o.to,.slice S o.s.length c] 87))=w1 at *;obtain ⟨S0',c0',y0,hs,hO,hL⟩:=hi.each h1;rw [Zx] at y0;clear S0;generalize hs0:x[0]=s0 at *;have hm:=(Sh.right_mul he).2.2.2.1;obtain ⟨s3,s4⟩:=qa5 he;obtain ⟨hI,hM,hN,hd,ht,Hq,hH,hF,hB⟩:=zd9 hi hn hr hs he hq hl hs0 hm;have Hw:=zI hw;clear hi hn hr hs he hq hl hs0 hm hw;go_wp2_with fail;refine (qao S0' c0' s0 w1 ht.out hd.out).mono ?_;rintro e w2 ⟨rfl,rfl⟩;have hcut:=Hq.out;unfold Od.cut at hcut;rw [ipZ ht.out] at hcut
 by_cases a1:o.side<0
 ·have d1:decide (o.side<0)=true:=by simpa using a1
  have HN:=zI (hcut.trans (inZ (by simp [Od.inR];omega)));clear hcut;go_wp2_with fail
  go_quiet (fail)
  go_wp2_with fail
  go_ret2
  exact RefP.err HN.out (qa6 ha _)
 ·have d1:decide (o.side<0)=false:=by simpa using a1
  by_cases a2:(s0.length:Int)<=o.side
  ·have d2:decide ((s0.length:Int)<=o.side)=true:=by simpa using a2
   have HN:=zI (hcut.trans (inZ (by simp [Od.inR];omega)));clear hcut;go_wp2_with fail
   go_quiet (fail)
   go_wp2_with fail
   go_ret2
   exact RefP.err HN.out (qa6 ha _)
  ·have d2:decide ((s0.length:Int)<=o.side)=false:=by simpa using a2
   obtain ⟨sd,hsd⟩:∃sd:Nat,o.side=(sd:Int):=⟨o.side.toNat,by omega⟩
   have hf:sd<s0.length:=by omega
   have hu:Od.inR o.side s0=true:=by simp [Od.inR];omega
   have hz:Od.at_ s0 o.side=s0[sd]:=by unfold Od.at_;rw [hsd,tnZ,qa3 hf]
   rw [hu,Bool.true_and,hz] at hcut;have hQ:=hB.out _ (gmZ hf);obtain ⟨bs,os,rfl,-,-⟩:=hd.out 0 s3;have g0:=hd.out.at_ hf;have hb:=λ(n:Nat) (v:Int)=>qc2 (some ⟨bs,os,none⟩) c0' s0 sd v (w1.drewN n) oZ (hd.out.drewN n) hf
   have hc:∀v,(s0.set sd v).length=s0.length:=λv=>List.length_set
   have i1:(sd:Int)<(s0.length:Int):=by omega
   have d2':decide (s0.length<=sd)=false:=by simp;omega
   rw [hsd] at z4 d1 d2 hcut;generalize s0[sd]=z at *;rw [hsd];rw [tnZ] at hcut;clear a1 a2 hu hz;obtain ⟨hC,hj,hK⟩:=zd3 hb hc hsd;clear hc hsd;clear hb
   by_cases a3:o.frm<0
   ·have d3:decide (o.frm<0)=true:=by simpa using a3
    have HN:=zI (hcut.trans (inZ soZ));clear hcut a3;go_wp2_with fail
    go_quiet (fail)
    go_wp2_with fail
    go_ret2
    exact RefP.err HN.out (qa6 ha _)
   ·have d3:decide (o.frm<0)=false:=by simpa using a3
    by_cases a4:z<o.to
    ·have d4:decide (z<o.to)=true:=by simpa using a4
     have HN:=zI (hcut.trans (inZ soZ));clear hcut a3 a4;go_wp2_with fail
     go_quiet (fail)
     go_wp2_with fail
     go_ret2
     exact RefP.err HN.out (qa6 ha _)
    ·have d4:decide (z<o.to)=false:=by simpa using a4
     by_cases a5:o.to<=o.frm
     ·have d5:decide (o.to<=o.frm)=true:=by simpa using a5
      have HN:=zI (hcut.trans (inZ soZ));clear hcut a3 a4 a5;go_wp2_with fail
      go_quiet (fail)
      go_wp2_with fail
      go_ret2
      exact RefP.err HN.out (qa6 ha _)
     ·have d5:decide (o.to<=o.frm)=false:=by simpa using a5
      have HN:=zI (hcut.trans (ipZ soZ));have ww:IntKind.i64.wrap (o.to-o.frm)=o.to-o.frm:=Zc1 _ oZ;clear hcut;go_wp2_with fail
      go_quiet (fail)
      rename_i nq;clear d1 d2 d2' d3 d4 d5;go_wp2_with fail;refine (hC.out nq (o.to-o.frm)).mono ?_;rintro e w3 ⟨g,rfl,hv,hG,hA⟩;have hg:=(qa6 ha nq).trans (hA.mono ha.size);have hy:=hj.out (o.to-o.frm);generalize s0.set sd (o.to-o.frm)=s9 at *;obtain ⟨hD,hE⟩:=zd2 hv hy;clear hv hy;go_wp2_with fail
      go_ret2
      exact RefP.ok HN.out rfl hD.out (lrZ _) (by have:=hE.out;omega) hg
set_option maxRecDepth 20000 in
theorem qc4 (o:OpD) (S P X:Option Addr) (c d f:Nat) (p x:List (List Int)) (w:Zp1) (hk:o.kind=8) (hpl:p.length=2) (ho:o.s.length<=1099511627776) (hsc:o.s.length<=c) (hsm:c<=9223372036854775807) (hw:o.wide) (hS:Ints .i64 w S o.s) (hP:Shps w P p) (hX:Shps w X x) (hxl:x.length<=1048576) (h1:1<=x.length) (hp:∀s∈p,Sh.right s=true) (hx:∀s∈x,Sh.right s=true):
  Calls Tryz.prog 149 #[.agg #[.int .i64 o.kind,.int .i64 o.k,.int .i64 o.width,.int .i64 o.step,.int .i64 o.side,.int .i64 o.frm,.int .i64 o.to,.slice S o.s.length c],.slice P p.length d,.slice X x.length f] w (RefP (Od.byKind o p x) w):=by
 have hq:Od.byKind o p x=Od.dense (p.getD 0 []) (p.getD 1 []) (x.getD 0 []):=by unfold Od.byKind;simp [hk]
 obtain ⟨bx,ox,S0,c0,rfl,-⟩:=hX 0 h1;obtain ⟨bp,op,T0,d0,rfl,-⟩:=hP 0 oZ;have hf:Below w.heap.size w (w.alloc (.cells #[.int .i64 o.kind,.int .i64 o.k,.int .i64 o.width,.int .i64 o.step,.int .i64 o.side,.int .i64 o.frm,.int .i64 o.to,.slice S o.s.length c] 87)):=(Ze1 _ _).alloc (lrZ _) _;have hr:=Blk.new w 87 #[.int .i64 o.kind,.int .i64 o.k,.int .i64 o.width,.int .i64 o.step,.int .i64 o.side,.int .i64 o.frm,.int .i64 o.to,.slice S o.s.length c];obtain ⟨z0,z1,z2,z3,z4,z5,z6,z7⟩:=qaj hr;have hv:=hX.below hf (lrZ _);have hu:=hP.below hf (lrZ _);have hG:=hS.below hf (lrZ _);have hn:=hx x[0] (gmZ h1);have hy:x.getD 0 []=x[0]:=qa8 h1
 first|rw [hy] at hq|skip
 have hA:=hp p[0] (gmZ oZ);have hz:p.getD 0 []=p[0]:=qa8 oZ
 first|rw [hz] at hq|skip
 have l7:decide (o.kind<=7)=false:=by simp;omega
 have e8:(o.kind==8)=true:=by simp;omega
 clear hk;obtain ⟨h5,HX,HP,HS,Hp,Hx⟩:=zd6 hr hX hP hS hp hx;clear hr hX hP hS hp hx;go_enter Tryz.func149,Tryz.ntmps149;go_upto_region 1 with fail;generalize (w.alloc (.cells #[.int .i64 o.kind,.int .i64 o.k,.int .i64 o.width,.int .i64 o.step,.int .i64 o.side,.int .i64 o.frm,.int .i64 o.to,.slice S o.s.length c] 87))=w1 at *;obtain ⟨S0',c0',y0,hH,h9,h6⟩:=hv.each h1;rw [Zx] at y0;obtain ⟨T0',d0',v0,hB,hK,hM⟩:=hu.each (show 0<p.length by omega);rw [Zx] at v0;clear T0;clear S0;generalize hs0:x[0]=s0 at *;generalize hsp:p[0]=t0 at *;obtain ⟨q3,q4⟩:=qa5 hA;have hC:=(Sh.right_mul hn).2.2.2.1;obtain ⟨s3,s4⟩:=qa5 hn;obtain ⟨h0,hQ,h7,hO,hJ,Hq,hY,hU,h8⟩:=zd9 hv hu hG hH hn hq hy hs0 hC;obtain ⟨Hw,ht,hZ,hT,h4⟩:=zd5 hw hB hA hz hsp;clear hv hu hG hH hn hq hy hs0 hC hw hB hA hz hsp;go_wp2_with fail;refine (qao S0' c0' s0 w1 hJ.out hO.out).mono ?_;rintro e w2 ⟨rfl,rfl⟩;obtain ⟨T1,d1,v1,he,hW,hV⟩:=hQ.out.each (show 1<p.length by omega);have hb:=Hp.out p[1] (gmZ oZ);have hg:p.getD 1 []=p[1]:=qa8 oZ;have hd:=Hq.out;rw [hg] at hd;generalize hsp1:p[1]=t1 at *;obtain ⟨q5,q6⟩:=qa5 hb;obtain ⟨bt,ot,rfl,-,-⟩:=ht.out 0 q3;unfold Od.dense at hd
 by_cases hm:t0.length=2
 rotate_left
 ·have f1:((t0.length:Int) != 2)=true:=by rw [bne_iff_ne];omega
  have f2:(t0.length != 2)=true:=by rw [bne_iff_ne];omega
  have HN:=zI (hd.trans (inZ (by intro h;exact hm h.1)));obtain ⟨hL,hh,hE,hl⟩:=zd4 he hb hg hsp1;clear he hb hg hsp1;clear hd hm;go_wp2_with fail
  go_quiet (fail)
  go_wp2_with fail
  go_ret2
  exact RefP.err HN.out (qa6 hf _)
 ·obtain ⟨a,b,rfl⟩:=list_two hm
  have g1:=ht.out.at_ (show 1<[a,b].length by simp);have g1:w1.cell? ⟨bt,ot+1,none⟩=some (.int .i64 b):=g1
  have hi:Ints .i64 w1 (some ⟨bt,ot,none⟩) [a]:=Ints.of_row λj hj=>by
   have hN:j=0:=by simp at hj;exact hj
   subst hN;exact ht.out.at_ (show 0<[a,b].length by simp)
  have Ha:(1:Int)<=(d0':Int):=by simp at hK;omega
  have ha:=λn:Nat=>qbq T1 (some ⟨bt,ot,none⟩) d1 d0' t1 [a] (w1.drewN n) oZ sZ (he.drewN n) (hi.drewN n)
  have f1:((2:Int) != 2)=false:=rfl;have v0':w1.cell? ⟨bp,op,none⟩=some (.slice (some ⟨bt,ot,none⟩) 2 d0'):=v0;have hR:(1:Int)<(p.length:Int):=by omega
  clear v0 hK q3 q4
  by_cases hs:t1=[a]
  ·rw [decide_eq_true hs] at ha
   have hI:Od.byKind o p x=if Safe.prod s0=b then ([a],0) else ([],20):=by
    rw [hd]
    by_cases e:Safe.prod s0=b
    ·rw [ipZ e,ipZ ⟨rfl,by rw [hs];rfl,by rw [hs];rfl,hJ.out,e⟩];rfl
    ·rw [inZ e,inZ];rintro ⟨_,_,_,_,h⟩;exact e h
   obtain ⟨hL,hh,hE,hl,hc,hF,hD⟩:=zd7 he hb hg hsp1 ha hi hI;clear he hb hg hsp1 ha hi hI;clear hd hm hs
   by_cases e:Safe.prod s0=b
   ·have f3:(b != Safe.prod s0)=false:=by simp [e]
    have HN:=zI (hD.out.trans (ipZ e));clear e;go_wp2_with fail
    go_quiet ((go_at_call 31;exact qbD (hc.out _)))
    go_wp2_with fail
    go_ret2
    exact RefP.ok HN.out rfl (hF.out.drewN _) soZ hM (qa6 hf _)
   ·have f3:(b != Safe.prod s0)=true:=by rw [bne_iff_ne];exact λh=>e h.symm
    have HN:=zI (hD.out.trans (inZ e));clear e;go_wp2_with fail
    go_quiet ((go_at_call 31;exact qbD (hc.out _)))
    go_wp2_with fail
    go_ret2
    exact RefP.err HN.out (qa6 hf _)
  ·rw [decide_eq_false hs] at ha
   have HN:=zI (hd.trans (inZ (by
    rintro ⟨_,h2,h3,_⟩;obtain ⟨z,rfl⟩:=qg1 h2;exact hs (by simp at h3;rw [h3]))))
   obtain ⟨hL,hh,hE,hl,hc,hF⟩:=zd6 he hb hg hsp1 ha hi;clear he hb hg hsp1 ha hi;clear hd hm hs;go_wp2_with fail
   go_quiet ((go_at_call 31;exact qbD (hc.out _)))
   go_wp2_with fail
   go_ret2
   exact RefP.err HN.out (qa6 hf _)
set_option maxRecDepth 20000 in
theorem qcl (o:OpD) (S P X:Option Addr) (c d f:Nat) (p x:List (List Int)) (w:Zp1) (hk:o.kind=10) (hpl:p.length=1) (ho:o.s.length<=1099511627776) (hsc:o.s.length<=c) (hsm:c<=9223372036854775807) (hw:o.wide) (hS:Ints .i64 w S o.s) (hP:Shps w P p) (hX:Shps w X x) (hxl:x.length<=1048576) (h1:1<=x.length) (hp:∀s∈p,Sh.right s=true) (hx:∀s∈x,Sh.right s=true):
  Calls Tryz.prog 149 #[.agg #[.int .i64 o.kind,.int .i64 o.k,.int .i64 o.width,.int .i64 o.step,.int .i64 o.side,.int .i64 o.frm,.int .i64 o.to,.slice S o.s.length c],.slice P p.length d,.slice X x.length f] w (RefP (Od.byKind o p x) w):=by
 have hq:Od.byKind o p x=Od.conv (p.getD 0 []) (x.getD 0 []) o.step:=by unfold Od.byKind;simp [hk]
 obtain ⟨bx,ox,S0,c0,rfl,-⟩:=hX 0 h1;obtain ⟨bp,op,T0,d0,rfl,-⟩:=hP 0 oZ;have hd:Below w.heap.size w (w.alloc (.cells #[.int .i64 o.kind,.int .i64 o.k,.int .i64 o.width,.int .i64 o.step,.int .i64 o.side,.int .i64 o.frm,.int .i64 o.to,.slice S o.s.length c] 87)):=(Ze1 _ _).alloc (lrZ _) _;have hI:=Blk.new w 87 #[.int .i64 o.kind,.int .i64 o.k,.int .i64 o.width,.int .i64 o.step,.int .i64 o.side,.int .i64 o.frm,.int .i64 o.to,.slice S o.s.length c];obtain ⟨z0,z1,z2,z3,z4,z5,z6,z7⟩:=qaj hI;have hK:=hX.below hd (lrZ _);have hJ:=hP.below hd (lrZ _);have h3:=hS.below hd (lrZ _);have hE:=hx x[0] (gmZ h1);have hL:x.getD 0 []=x[0]:=qa8 h1
 first|rw [hL] at hq|skip
 have hN:=hp p[0] (gmZ oZ);have hM:p.getD 0 []=p[0]:=qa8 oZ
 first|rw [hM] at hq|skip
 have l7:decide (o.kind<=7)=false:=by simp;omega
 have e8:(o.kind==8)=false:=by simp;omega
 have e9:(o.kind==9)=false:=by simp;omega
 have e10:(o.kind==10)=true:=by simp;omega
 clear hk;obtain ⟨HC,HX,HP,HS,Hp,Hx⟩:=zd6 hI hX hP hS hp hx;clear hI hX hP hS hp hx;go_enter Tryz.func149,Tryz.ntmps149;go_upto_region 1 with fail;generalize (w.alloc (.cells #[.int .i64 o.kind,.int .i64 o.k,.int .i64 o.width,.int .i64 o.step,.int .i64 o.side,.int .i64 o.frm,.int .i64 o.to,.slice S o.s.length c] 87))=w1 at *;obtain ⟨S0',c0',y0,h4,HO,HD⟩:=hK.each h1;rw [Zx] at y0;obtain ⟨T0',d0',v0,hV,HM,HB⟩:=hJ.each (show 0<p.length by omega);rw [Zx] at v0;clear T0;clear S0;generalize hs0:x[0]=s0 at *;generalize hsp:p[0]=t0 at *;obtain ⟨q3,q4⟩:=qa5 hN;have hY:=(Sh.right_mul hE).2.2.2.1;obtain ⟨s3,s4⟩:=qa5 hE;obtain ⟨HI,HK,HL,hF,Hd,Hq,HH,HA,HE⟩:=zd9 hK hJ h3 h4 hE hq hL hs0 hY;obtain ⟨Hw,hG,Hy,HF,HJ⟩:=zd5 hw hV hN hM hsp;clear hK hJ h3 h4 hE hq hL hs0 hY hw hV hN hM hsp;go_wp2_with fail;refine (qao S0' c0' s0 w1 Hd.out hF.out).mono ?_;rintro e w2 ⟨rfl,rfl⟩;have hc:=Hq.out;unfold Od.conv at hc;rw [Hy.out,Hd.out,Bool.true_and,Bool.true_and] at hc;obtain ⟨i0,hi,Hz,Hm,Hr⟩:=info_parts qbk;obtain ⟨bs,os,rfl,-,-⟩:=hF.out 0 s3;obtain ⟨bt,ot,rfl,-,-⟩:=hG.out 0 q3;have g0:=hF.out.at_ s3;have g2:=hG.out.at_ q3;rw [Zx] at g0 g2;have hC:s0.getD 0 0=s0[0]:=qa3 s3;have hA:t0.getD 0 0=t0[0]:=qa3 q3
 by_cases a1:t0.length=s0.length+1
 rotate_left
 ·have f1:((t0.length:Int) != (s0.length:Int)+1)=true:=by rw [bne_iff_ne];omega
  have HN:=zI (hc.trans (inZ soZ));clear hc a1 hC hA g0 g2;go_wp2_with fail
  go_quiet (fail)
  go_wp2_with fail
  go_ret2
  exact RefP.err HN.out (qa6 hd _)
 ·have f1:((t0.length:Int) != (s0.length:Int)+1)=false:=by simp;omega
  by_cases a2:s0.length<2
  ·have f2:decide ((s0.length:Int)<2)=true:=by simp;omega
   have HN:=zI (hc.trans (inZ soZ));clear hc a1 hC hA g0 g2;go_wp2_with fail
   go_quiet (fail)
   go_wp2_with fail
   go_ret2
   exact RefP.err HN.out (qa6 hd _)
  ·have f2:decide ((s0.length:Int)<2)=false:=by simp;omega
   by_cases a3:3<s0.length
   ·have f3:decide ((3:Int)<(s0.length:Int))=true:=by simp;omega
    have HN:=zI (hc.trans (inZ soZ));clear hc a1 hC hA g0 g2;go_wp2_with fail
    go_quiet (fail)
    go_wp2_with fail
    go_ret2
    exact RefP.err HN.out (qa6 hd _)
   ·have f3:decide ((3:Int)<(s0.length:Int))=false:=by simp;omega
    have h8:1<t0.length:=by omega
    have g1:=hG.out.at_ h8;have j1:(1:Int)<(t0.length:Int):=by omega
    rw [hC,qa3 h8] at hc
    by_cases a4:t0[1]=s0[0]
    rotate_left
    ·have f4:(t0[1] != s0[0])=true:=by simp [a4]
     have HN:=zI (hc.trans (inZ (by simp;intro _ _ _;exact a4)));generalize t0[1]=tb at *;generalize s0[0]=sa at *;clear hc a1 hC hA a4 g2;go_wp2_with fail
     go_quiet (fail)
     go_wp2_with fail
     go_ret2
     exact RefP.err HN.out (qa6 hd _)
    ·have f4:(t0[1] != s0[0])=false:=by simp [a4]
     rw [ipZ soZ] at hc;have Hh:=zI a1;generalize t0[1]=tb at *;generalize s0[0]=sa at *;generalize t0[0]=ta at *;clear a4 a1 hC;obtain ⟨He,Hu⟩:=zd2 hc hA;clear hc hA;have z3':w1.cell? ⟨w.heap.size,3,none⟩=some (.int .i64 o.step):=z3;go_wp2_with fail
     go_quiet (fail)
     rename_i nq;clear f1 f2 f3 f4 g0 g1 z0 z1 z2 z3 z4 z5 z6 z7;go_wp2_with fail;clear g2 y0 v0;have hW:Below w1.heap.size w1 (w1.drewN nq):=qa6 (Ze1 _ _) nq;have hQ:=Blk.new (w1.drewN nq) 3 #[.int .i64 ta];have h0:Below w1.heap.size w1 ((w1.drewN nq).alloc (.cells #[.int .i64 ta] 3)):=hW.alloc (lrZ _) _
     have hr:((w1.drewN nq).alloc (.cells #[.int .i64 ta] 3)).ownsRow w1.heap.size 3 1 (.slice (some ⟨w1.heap.size,0,none⟩) 1 1) 1 ((Od.outs t0 s0 o.step 0).map (Za1 .i64)):=qf0 (by
      have:Od.outs t0 s0 o.step 0=[ta]:=by simp only [Od.outs,Hu.out];rfl
      rw [this];exact hQ) (lrZ _) (by simp [Od.outs]) (by unfold maxLen;omega)
     obtain ⟨Hs,hm⟩:=zd2 hQ hr;clear hQ hr
     go_loopw [12,13] (λv i wx=>∃k:Nat,k<=s0.length-1/\i=.int .i64 ((k:Int)+1)/\wx.ownsRow w1.heap.size 3 1 v (k+1) ((Od.outs t0 s0 o.step k).map (Za1 .i64))/\(∀j,j<k->(Od.wn t0 s0 o.step j).2=0)/\Below w1.heap.size w1 wx) (λ_ i _=>s0.length-(intOf i).toNat)
     case atStart=>exact ⟨0,Zt _,rfl,hm.out,λj hj=>by omega,h0⟩
     case round=>
      obtain ⟨k,hk,rfl,hown,he,hl⟩:=hrel;clear hm Hs h0 hW;obtain ⟨Ao,co,rfl⟩:=qak hown
      by_cases hU:k+1<s0.length
      ·have h7:k+2<t0.length:=by have:=Hh.out;omega
       have m1:=qa1 hl (hF.out.at_ hU);have m2:=qa1 hl (hG.out.at_ h7);have m3:=qa1 hl z3';have hD:Od.wn t0 s0 o.step k=Od.window s0[k+1] t0[k+2] o.step:=by unfold Od.wn;rw [qa3 hU,qa3 h7]
       have ha:=λn:Nat=>qcc s0[k+1] t0[k+2] o.step (wr.drewN n)
       rw [←hD] at ha;have hH:=@Od.window_ok s0[k+1] t0[k+2] o.step;have hv:=@Od.window_err s0[k+1] t0[k+2] o.step;rw [←hD] at hH hv;have i1:IntKind.i64.wrap ((k:Int)+1+1)=((k+2:Nat):Int):=by rw [Zc1 _ oZ];omega
       have i2:((k:Int)+1)<(s0.length:Int):=by omega
       have i3:((k+2:Nat):Int)<(t0.length:Int):=by omega
       have i4:(0:Int)<=(k:Int)+1:=by omega
       have i5:((k:Int)+1).toNat=k+1:=by omega
       have i6:(0:Int)<=((k+2:Nat):Int):=by omega
       have hf:Od.outs t0 s0 o.step (k+1)=Od.outs t0 s0 o.step k++[(Od.wn t0 s0 o.step k).1]:=by simp [Od.outs,List.range_succ]
       have hs:(Od.outs t0 s0 o.step k).length=k+1:=by simp [Od.outs]
       have Hb:(Od.wn t0 s0 o.step k).2=0->∀j,j<k+1->(Od.wn t0 s0 o.step j).2=0:=λe j hj=>by
        by_cases h:j=k
        ·subst h;exact e
        ·exact he j oZ
       have Hc:(Od.wn t0 s0 o.step k).2≠0->Od.byKind o p x=([],11):=λe=>by
        rw [He.out,inZ];rw [Zf];intro h;have:=h k (List.mem_range.2 oZ);exact e (by simpa using this)
       generalize s0[k+1]=sk at *;generalize t0[k+2]=tk at *;generalize Od.wn t0 s0 o.step k=wv at *;obtain ⟨HG,hg,Hk,hR,hy,hZ,Hf,Hv,hO⟩:=zd9 hD ha hH hv hf hs Hb Hc he;have ht:=zI hown;clear hD ha hH hv hf hs Hb Hc he hown;go_wp2_with fail
       go_quiet ((go_at_call 159;exact qaB (hg.out _)))
       clear m1 m2 m3 i1 i3 i6
       by_cases hz:wv.2=0
       ·have hb:=Hk.out hz
        have e1:(wv.1==0)=false:=by simp;omega
        have Hi:=zI (Hf.out hz);have ho:=qaz (qah (w':=wr.drewN nq) ht.out (λg _=>rfl)) (.cells #[.int .i64 wv.1] 3);have hh:=((qa6 hl nq).alloc hl.size (.cells #[.int .i64 wv.1] 3))
        have Ha:∀b,(Zb1 Ao (k+1) co).ownBlock=some b->w1.heap.size<=b:=λb hb=>(ht.out.lt b hb).1
        clear hz hb;have h9:=zI Ha;clear Ha;go_wp2_with (at_builtin;refine wpList_append_own_at _ rfl _ _ 23 rfl w1.heap.size 3 i0 (.int .i64 0) 1 8 Tryz.underlying23 hi Hz Hm Hr rfl dZ _ _ _ rfl ho ⟨wr.heap.size,0,none⟩ 1 1 [.int .i64 wv.1] rfl rfl ?c1 (by intro u hu;simp at hu;subst hu;rfl) (by unfold maxLen;omega) oZ ?c2 ?_)
        case c1=>exact qbC (wr.drewN nq) _ _
        case c2=>exact hh.size
        intro v' w3 hn hgrow _ Hn;have Hg:Below w1.heap.size w1 w3:=hh.grown hgrow hh.size (λb hb=>h9.out b hb);have Ht:=zI (show w3.ownsRow w1.heap.size 3 1 v' (k+1+1) ((Od.outs t0 s0 o.step (k+1)).map (Za1 .i64)) by rw [hy.out];simpa using hn);clear hn hgrow Hn ho hh h9;go_wp2_with fail;go_roundw
        case rel=>exact ⟨k+1,by omega,by go_num,Ht.out,Hi.out,Hg⟩
        case measure=>simp [intOf];omega
       ·have hb:=hR.out hz
        have e1:(wv.1==0)=true:=by rw [hb];rfl
        have HN:=zI (Hv.out hz);clear hz hb;go_wp2_with fail
        go_ret2
        exact RefP.err HN.out (qa6 (hd.trans (hl.mono hd.size)) _)
      ·obtain rfl:k=s0.length-1:=by omega
       have i2:¬((s0.length-1:Nat):Int)+1<(s0.length:Int):=by omega
       have hs:(Od.outs t0 s0 o.step (s0.length-1)).length=s0.length-1+1:=by simp [Od.outs]
       have h5:Od.byKind o p x=if Sh.right (Od.outs t0 s0 o.step (s0.length-1))=true then (Od.outs t0 s0 o.step (s0.length-1),0) else ([],20):=by
        rw [He.out,ipZ];rw [Zf];intro j hj;simpa using he j (List.mem_range.1 hj)
       generalize Od.outs t0 s0 o.step (s0.length-1)=os9 at *;generalize s0.length-1=m at *;rw [←hs] at hown;obtain ⟨hT,Hl,Ho⟩:=qbo (by rw [hs] at hown ⊢;exact hown);have ha:=qaH Ao co os9 wr oZ hT;rw [hs] at ha;obtain ⟨ht,hO,hZ,h6,Hj,hg⟩:=zd6 hown he hs h5 hT ha;clear hown he hs h5 hT ha;go_wp2_with fail;refine (hg.out).mono ?_;rintro e w9 ⟨rfl,rfl⟩
       by_cases hB:Sh.right os9=true
       ·have HN:=zI (h6.out.trans (ipZ hB))
        rw [hB];clear hB;go_wp2_with fail
        go_ret2
        exact RefP.ok HN.out hZ.out Hj.out Hl Ho (hd.trans (hl.mono hd.size))
       ·have HN:=zI (h6.out.trans (inZ hB))
        have h2:Sh.right os9=false:=by simpa using hB
        rw [h2];clear hB h2;go_wp2_with fail
        go_ret2
        exact RefP.err HN.out (hd.trans (hl.mono hd.size))
theorem qep (o:OpD) (S P X:Option Addr) (c d f:Nat) (p x:List (List Int)) (w:Zp1) (hr:Od.right o=true) (hcnt:Od.counts o p.length x.length=0) (ho:o.s.length<=1099511627776) (hsc:o.s.length<=c) (hsm:c<=9223372036854775807) (hw:o.wide) (hS:Ints .i64 w S o.s) (hP:Shps w P p) (hX:Shps w X x) (hp:∀s∈p,Sh.right s=true) (hx:∀s∈x,Sh.right s=true):
  Calls Tryz.prog 149 #[.agg #[.int .i64 o.kind,.int .i64 o.k,.int .i64 o.width,.int .i64 o.step,.int .i64 o.side,.int .i64 o.frm,.int .i64 o.to,.slice S o.s.length c],.slice P p.length d,.slice X x.length f] w (RefP (Od.byKind o p x) w):=by
 have hk:=Od.right_kind hr;obtain ⟨-,c1,c2,c3⟩:=Od.counts_ok hcnt;have c4:=Od.least_pos hr;have c5:=Od.most_le hr;have hb:Od.params o=if o.kind=8 then 2 else if o.kind=9∨o.kind=10 then 1 else 0:=by unfold Od.params;rw [ipZ hr]
 have h1:1<=x.length:=by omega
 have ha:x.length<=1048576:=by omega
 by_cases k7:o.kind<=7
 ·exact qcN o S P X c d f p x w k7 ho hsc hsm hw hS hP hX ha h1 hp hx
 ·have hh:o.kind=8∨o.kind=9∨o.kind=10∨(o.kind=11∨o.kind=12)∨o.kind=13∨o.kind=14∨o.kind=15:=by omega
  rcases hh with k|k|k|k|k|k|k
  ·exact qc4 o S P X c d f p x w k (by rw [hb,ipZ k] at c3;omega) ho hsc hsm hw hS hP hX ha h1 hp hx
  ·exact qc3 o S P X c d f p x w k (by rw [hb,inZ oZ,ipZ oZ] at c3;omega) ho hsc hsm hw hS hP hX ha h1 hp hx
  ·exact qcl o S P X c d f p x w k (by rw [hb,inZ oZ,ipZ oZ] at c3;omega) ho hsc hsm hw hS hP hX ha h1 hp hx
  ·exact qck o S P X c d f p x w k ho hsc hsm hw hS hP hX ha h1 hp hx
  ·exact qci o S P X c d f p x w k ho hsc hsm hw hS hP hX ha h1 hp hx
  ·exact qcz o S P X c d f p x w k ho hsc hsm hw hS hP hX ha h1 hp hx
  ·exact qcj o S P X c d f p x w k ho hsc hsm hw hS hP hX ha h1 hp hx
theorem qcd {W:Zp1} {g:Nat} {t:TypeId} {v:NodeD} {S J Q:Option Addr} {c ic qc:Nat} (h:Blk W g t #[.int .i64 v.op.kind,.int .i64 v.op.k,.int .i64 v.op.width,.int .i64 v.op.step,.int .i64 v.op.side,.int .i64 v.op.frm,.int .i64 v.op.to,.slice S v.op.s.length c,.slice J v.ins.length ic,.slice Q v.p.length qc]):
  W.cell? ⟨g,0,none⟩=some (.int .i64 v.op.kind)/\W.cell? ⟨g,1,none⟩=some (.int .i64 v.op.k)/\W.cell? ⟨g,2,none⟩=some (.int .i64 v.op.width)/\W.cell? ⟨g,3,none⟩=some (.int .i64 v.op.step)/\W.cell? ⟨g,4,none⟩=some (.int .i64 v.op.side)/\W.cell? ⟨g,5,none⟩=some (.int .i64 v.op.frm)/\W.cell? ⟨g,6,none⟩=some (.int .i64 v.op.to)/\W.cell? ⟨g,7,none⟩=some (.slice S v.op.s.length c)/\W.cell? ⟨g,8,none⟩=some (.slice J v.ins.length ic)/\W.cell? ⟨g,9,none⟩=some (.slice Q v.p.length qc):=
 ⟨h.cell 0,h.cell 1,h.cell 2,h.cell 3,h.cell 4,h.cell 5,h.cell 6,h.cell 7,h.cell 8,h.cell 9⟩
def RowOf (w:Zp1) (vs:List Value) (ss:List (List Int)):Prop:=
 vs.length=ss.length/\∀j (hj:j<ss.length),∃S c,vs[j]? = some (.slice S ss[j].length c)/\Ints .i64 w S ss[j]/\ss[j].length<=c/\c<=9223372036854775807
theorem RowOf.nil (w:Zp1):RowOf w [] []:=⟨rfl,λj hj=>absurd hj sZ⟩
theorem RowOf.push {w:Zp1} {vs:List Value} {ss:List (List Int)} {S:Option Addr} {s:List Int} {c:Nat} (h:RowOf w vs ss) (hI:Ints .i64 w S s) (h1:s.length<=c) (h2:c<=9223372036854775807):RowOf w (vs++[.slice S s.length c]) (ss++[s]):=by
 refine ⟨by simp [h.1],λj hj=>?_⟩;simp at hj
 by_cases e:j<ss.length
 ·obtain ⟨S',c',e1,e2⟩:=h.2 j e
  refine ⟨S',c',?_,?_⟩
  ·rw [Zm (by rw [h.1];exact e),e1];simp [e]
  ·simpa [e] using e2
 ·obtain rfl:j=ss.length:=by omega
  refine ⟨S,c,?_,?_⟩
  ·rw [Zl (by have:=h.1;omega)];simp [h.1]
  ·simp;exact ⟨hI,h1,h2⟩
theorem RowOf.below {w w':Zp1} {vs:List Value} {ss:List (List Int)} {B:Nat} (h:RowOf w vs ss) (hb:Below B w w') (hB:w.heap.size<=B):RowOf w' vs ss:=
 ⟨h.1,λj hj=>by obtain ⟨S,c,e1,e2,e3⟩:=h.2 j hj;exact ⟨S,c,e1,e2.below hb hB,e3⟩⟩
theorem RowOf.shps {w w':Zp1} {vs:List Value} {ss:List (List Int)} {B n:Nat} {t:TypeId} {v:Value} (h:RowOf w vs ss) (hown:w'.ownsRow B t 1 v n vs) (hb:Below w.heap.size w w'):
  ∃A c,v=.slice A ss.length c/\n=ss.length/\Shps w' A ss/\ss.length<=c/\c<=9223372036854775807:=by
 have hn:n=ss.length:=by have:=hown.1;have:=h.1;omega
 subst hn;rcases hown.2 with ⟨rfl,h0⟩|⟨g,cap,cur,rfl,hB,hh,r1,r2,r3,r4⟩
 ·have:ss=[]:=List.eq_nil_of_length_eq_zero h0
  subst this;exact ⟨none,0,rfl,rfl,Shps.nil,by simp,by omega⟩
 ·refine ⟨_,cap,rfl,rfl,λj hj=>?_,r1,by unfold maxLen at r2;omega⟩
  obtain ⟨S,c,e1,e2,e3⟩:=h.2 j hj;refine ⟨g,0,S,c,rfl,lt_of_block hh,?_,e2.below hb (lrZ _),e3⟩;rw [Zw,hown.cellAt j oZ];exact e1
theorem qc5:(Tryz.prog.info? 23).map (λi=>(i.zero,i.size,i.bytes))=some (some (.slice none 0 0),1,24):=by kernel_rfl
theorem qg2 (sh:List (List Int)) (l:List Int) {k:Nat} (hk:k<l.length):Nt.pick sh (l.take (k+1))=Nt.pick sh (l.take k)++[sh.getD l[k].toNat []]:=by
 unfold Nt.pick;rw [Zb hk,List.map_append]
 rfl
set_option maxRecDepth 20000 in
theorem qeq (v:NodeD) (S J Q:Option Addr) (c ic qc g gc:Nat) (sh:List (List Int)) (w:Zp1) (hok:v.ok) (hr:Od.right v.op=true) (hsc:v.op.s.length<=c) (hsm:c<=9223372036854775807) (hS:Ints .i64 w S v.op.s) (hJ:Ints .i64 w J v.ins) (hQ:Shps w Q v.p) (hX:Shps w (some ⟨g,0,none⟩) sh)
  (hin:∀i∈v.ins,0<=i/\i.toNat<sh.length/\Sh.right (sh.getD i.toNat [])=true):
  Calls Tryz.prog 123 #[.agg #[.int .i64 v.op.kind,.int .i64 v.op.k,.int .i64 v.op.width,.int .i64 v.op.step,.int .i64 v.op.side,.int .i64 v.op.frm,.int .i64 v.op.to,.slice S v.op.s.length c,.slice J v.ins.length ic,.slice Q v.p.length qc],.slice (some ⟨g,0,none⟩) sh.length gc] w (RefP (Od.shape v.op v.p (Nt.pick sh v.ins)) w):=by
 obtain ⟨i1,hj,HV,HT,HG⟩:=info_parts qc5;have ht:Below w.heap.size w (w.alloc (.cells #[.int .i64 v.op.kind,.int .i64 v.op.k,.int .i64 v.op.width,.int .i64 v.op.step,.int .i64 v.op.side,.int .i64 v.op.frm,.int .i64 v.op.to,.slice S v.op.s.length c,.slice J v.ins.length ic,.slice Q v.p.length qc] 141)):=(Ze1 _ _).alloc (lrZ _) _;have hT:=Blk.new w 141 #[.int .i64 v.op.kind,.int .i64 v.op.k,.int .i64 v.op.width,.int .i64 v.op.step,.int .i64 v.op.side,.int .i64 v.op.frm,.int .i64 v.op.to,.slice S v.op.s.length c,.slice J v.ins.length ic,.slice Q v.p.length qc];obtain ⟨y0,y1,y2,y3,y4,y5,y6,y7,y8,y9⟩:=qcd hT;have h8:=hS.below ht (lrZ _);have Hk:=hJ.below ht (lrZ _);have Ha:=hQ.below ht (lrZ _);have Hc:=hX.below ht (lrZ _);have HK:=Od.right_kind hr;have gd:=hok.2.2.1;have H8:=hok.2.2.2.1;have hO:(Nt.pick sh v.ins).length=v.ins.length:=by simp [Nt.pick]
 have h6:=qdR hr;have Hg:=qdT hr;have hh:Od.counts v.op v.p.length (Nt.pick sh v.ins).length=if ((v.ins.length:Int)<Od.least v.op∨Od.most v.op<(v.ins.length:Int)∨(v.p.length:Int)≠Od.params v.op) then 20 else 0:=by unfold Od.counts;rw [ipZ hr,hO]
 have hF:Od.counts v.op v.p.length (Nt.pick sh v.ins).length=20->Od.shape v.op v.p (Nt.pick sh v.ins)=([],20):=λh=>by unfold Od.shape;rw [ipZ (by rw [h];omega),h]
 obtain ⟨hN,Hr,HS,HJ,HQ,HX,Hh,Hp,Hv⟩:=zd9 hok hr hS hJ hQ hX hin h8 Hk;obtain ⟨h3,Hn,h7,H5,Hf,Hm,hE,hy⟩:=zd8 Ha Hc hT hO h6 Hg hh hF;clear hok hr hS hJ hQ hX hin h8 Hk Ha Hc hT hO h6 Hg hh hF;go_enter Tryz.func123,Tryz.ntmps123;go_upto_region 1 with fail;generalize w.alloc (.cells #[.int .i64 v.op.kind,.int .i64 v.op.k,.int .i64 v.op.width,.int .i64 v.op.step,.int .i64 v.op.side,.int .i64 v.op.frm,.int .i64 v.op.to,.slice S v.op.s.length c,.slice J v.ins.length ic,.slice Q v.p.length qc] 141)=w1 at *;go_wp2_with fail;refine (qg0 v.op.kind _ HK).mono ?_;rintro e w2 ⟨rfl,rfl⟩;rw [Hf.out];have ha:=λn:Nat=>qdU v.op.kind (w1.drewN n)
 rw [Hm.out] at ha;have hh:=hE.out;have h4:=Od.most_le Hr.out;have hZ:=Od.least_pos Hr.out;generalize hL:Od.least v.op=L at *;generalize hM:Od.most v.op=M at *;generalize hPa:Od.params v.op=PA at *;obtain ⟨hd,HL,HM,H7⟩:=zd4 ha hL hM hPa;clear ha hL hM hPa;have hH:=zI hh;clear hh hE Hf Hm
 by_cases a1:(v.p.length:Int)=PA
 rotate_left
 ·have d1:((v.p.length:Int) != PA)=true:=by rw [bne_iff_ne];exact a1
  have HN:=zI (hy.out (by rw [hH.out,ipZ oZ]));clear a1;go_wp2_with fail
  go_quiet ((go_at_call 38;exact qaB (hd.out _)))
  go_wp2_with fail
  go_ret2
  exact RefP.err HN.out (qa6 ht _)
 ·have d1:((v.p.length:Int) != PA)=false:=by simp [a1]
  by_cases a2:(v.ins.length:Int)<L
  ·have d2:decide ((v.ins.length:Int)<L)=true:=by simpa using a2
   have HN:=zI (hy.out (by rw [hH.out,ipZ oZ]));have h5:=zI a1;clear a1;go_wp2_with fail
   go_quiet ((go_at_call 38;exact qaB (hd.out _)))
   go_wp2_with fail
   go_ret2
   exact RefP.err HN.out (qa6 ht _)
  ·have d2:decide ((v.ins.length:Int)<L)=false:=by simpa using a2
   by_cases a3:M<(v.ins.length:Int)
   ·have d3:decide (M<(v.ins.length:Int))=true:=by simpa using a3
    have HN:=zI (hy.out (by rw [hH.out,ipZ oZ]));have h5:=zI a1;clear a1;go_wp2_with fail
    go_quiet ((go_at_call 38;exact qaB (hd.out _)))
    go_wp2_with fail
    go_ret2
    exact RefP.err HN.out (qa6 ht _)
   ·have d3:decide (M<(v.ins.length:Int))=false:=by simpa using a3
    have Hq:Od.counts v.op v.p.length (Nt.pick sh v.ins).length=0:=by rw [hH.out,inZ oZ]
    have H4:v.ins.length<=8:=by omega
    have h5:=zI a1;clear a1 a2 a3;have hR:=zI Hq;clear Hq;go_wp2_with fail
    go_quiet ((go_at_call 38;exact qaB (hd.out _)))
    rename_i nq;clear d1 d2 d3;have hG:=qa6 ht nq;have Hi:=Hp.out.drewN nq;have He:=Hv.out.drewN nq;have Hd:=h3.out.drewN nq;have Hl:=Hn.out.drewN nq;obtain ⟨Hb,h9,hV,Hs⟩:=zd4 Hi He Hd Hl;clear Hi He Hd Hl;clear Hp Hv h3 Hn hd;go_wp2_with fail
    go_loop [8] (λi=>∃k:Nat,k<=v.p.length/\i=.int .i64 (k:Int)/\(v.p.take k).all Sh.right=true) (λi=>v.p.length-(intOf i).toNat)
    case atStart=>exact ⟨0,Zt _,rfl,rfl⟩
    case round=>
     obtain ⟨k,hk,rfl,he⟩:=hrel
     by_cases hn:k<v.p.length
     ·obtain ⟨b,off,Sk,ck,rfl,-,hc,HC,gf,gh⟩:=hV.out k hn
      have H1:=hN.out.2.2.2.2.1 _ (gmZ hn);have hq:Sh.right v.p[k]=true->(v.p.take (k+1)).all Sh.right=true:=λh=>by rw [Zb hn,List.all_append,he];simp [h]
      have hB:Sh.right v.p[k]=false->Od.shape v.op v.p (Nt.pick sh v.ins)=([],20):=λh=>by
       unfold Od.shape;rw [inZ (by rw [hR.out];simp),inZ];intro h2;rw [Zz] at h2;have:=List.all_eq_true.1 h2.1 _ (gmZ hn);rw [h] at this;cases this
      generalize v.p[k]=s at *;obtain ⟨H0,h0,hC,h1⟩:=zd4 HC he hq hB;clear HC he hq hB;go_wp2_with fail;refine (qaH Sk ck s _ oZ H0.out).mono ?_;rintro e w3 ⟨rfl,rfl⟩
      by_cases hD:Sh.right s=true
      ·have HA:=zI (hC.out hD)
       rw [hD];clear hD;go_wp2_with fail
       go_round
       case rel=>exact ⟨k+1,by omega,by go_num,HA.out⟩
       case measure=>simp [intOf];omega
      ·have hx:Sh.right s=false:=by simpa using hD
       have HN:=zI (h1.out hx);rw [hx];clear hD hx;go_wp2_with fail
       go_ret2
       exact RefP.err HN.out hG
     ·obtain rfl:k=v.p.length:=by omega
      rw [Zg] at he;have HB:∀s∈v.p,Sh.right s=true:=List.all_eq_true.1 he
      have hU:∀s∈Nt.pick sh v.ins,Sh.right s=true:=λs hs=>by
       obtain ⟨i,hi,rfl⟩:=List.mem_map.1 hs;exact (Hh.out i hi).2.2
      have Hz:Od.shape v.op v.p (Nt.pick sh v.ins)=Od.byKind v.op v.p (Nt.pick sh v.ins):=Od.shape_go hR.out he (List.all_eq_true.2 hU);obtain ⟨h0,HY,HE,HZ⟩:=zd4 he HB hU Hz;clear he HB hU Hz;go_wp2_with fail;clear y0 y1 y2 y3 y4 y5 y6 y7;obtain ⟨w2,hw2⟩:∃w2,w1.drewN nq=w2:=⟨_,rfl⟩
      have Hu:Blk w2 w.heap.size 141 #[.int .i64 v.op.kind,.int .i64 v.op.k,.int .i64 v.op.width,.int .i64 v.op.step,.int .i64 v.op.side,.int .i64 v.op.frm,.int .i64 v.op.to,.slice S v.op.s.length c,.slice J v.ins.length ic,.slice Q v.p.length qc]:=by rw [←hw2];exact h7.out.drewN nq
      rw [hw2] at hG Hb h9 hV Hs ⊢;clear hw2 y8 y9 h7;have Hy:=zI Hu;clear Hu
      go_loopw [9,10] (λo i wx=>∃(k:Nat) (vs:List Value),k<=v.ins.length/\i=.int .i64 (k:Int)/\wx.ownsRow w2.heap.size 23 1 o k vs/\RowOf w2 vs (Nt.pick sh (v.ins.take k))/\Below w2.heap.size w2 wx) (λ_ i _=>v.ins.length-(intOf i).toNat)
      case atStart=>exact ⟨0,[],Zt _,rfl,World.ownsRow_nil _ _ _ _,RowOf.nil _,Ze1 _ _⟩
      case round=>
       obtain ⟨k,vs,hk,rfl,hown,hf,hm⟩:=hrel;have hg:=Hy.out.below hm Hy.out.lt;have y8:wr.cell? ⟨w.heap.size,8,none⟩=some (.slice J v.ins.length ic):=by rw [hg.cell];rfl
       by_cases hn:k<v.ins.length
       ·obtain ⟨Ao,co,rfl⟩:=qak hown
        obtain ⟨b1,off1,rfl,-,hc⟩:=h9.out.below hm (lrZ _) k hn;rw [qa3 hn] at hc;obtain ⟨r1,r2,r3⟩:=Hh.out _ (gmZ hn);have hz:=qg2 sh v.ins hn;obtain ⟨u,hu⟩:∃u:Nat,v.ins[k]=(u:Int):=⟨v.ins[k].toNat,by omega⟩
        rw [hu] at hc hz r2;rw [tnZ] at hz r2;rw [qa8 r2] at hz;obtain ⟨Su,cu,yu,hY,u1,u2⟩:=Hs.out.each r2;rw [Zw] at yu;have yu':=qa1 hm yu;have hl:=hf.push hY u1 u2;rw [←hz] at hl;generalize sh[u]=s at *;have j0:(0:Int)<=(u:Int):=by omega
        have j1:(u:Int)<(sh.length:Int):=by omega
        have ho:=qaz hown (.cells #[.slice Su s.length cu] 23);have hp:=hm.alloc hm.size (.cells #[.slice Su s.length cu] 23);have Hj:∀b,(Zb1 Ao k co).ownBlock=some b->w2.heap.size<=b:=λb hb=>(hown.lt b hb).1
        obtain ⟨hW,hK,hA,HW,gb,H2⟩:=zd6 hg hf hl Hj hY hz;clear hg hf hl Hj hY hz;clear hown r1 r3 hu yu;go_wp2_with (at_builtin;refine wpList_append_own_at _ rfl _ _ 128 rfl w2.heap.size 23 i1 (.slice none 0 0) 1 24 Tryz.underlying128 hj HV HT HG rfl dZ _ _ _ rfl ho ⟨wr.heap.size,0,none⟩ 1 1 [.slice Su s.length cu] rfl rfl ?c1 (by intro u hu;simp at hu;subst hu;rfl) (by unfold maxLen;omega) oZ ?c2 ?_)
        first|(case c1=>exact qbC wr _ _)|skip
        case c2=>first|exact hp.size|(have:=hm.size;omega)
        intro v' w3 hv hgrow _ HR;have HF:Below w2.heap.size w2 w3:=hp.grown hgrow hp.size (λb hb=>HW.out b hb);have HU:=zI hv;clear hv hgrow HR ho hp;go_wp2_with fail;go_roundw
        case rel=>exact ⟨k+1,_,by omega,by go_num,HU.out,hA.out,HF⟩
        case measure=>simp [intOf];omega
       ·obtain rfl:k=v.ins.length:=by omega
        rw [Zg] at hf;obtain ⟨Ao,co,rfl,Ho,hP,H3,H6⟩:=hf.shps hown hm;obtain ⟨y0,y1,y2,y3,y4,y5,y6,y7,-,y9⟩:=qcd hg;have hw:=hN.out.1;have gg:=hN.out.2.1;have ha:=qep v.op S Q Ao c qc co v.p (Nt.pick sh v.ins) wr Hr.out hR.out oZ hsc hsm hw (Hb.out.below hm (lrZ _)) (hV.out.below hm (lrZ _)) hP HY.out HE.out;have Hx:=hG.trans (hm.mono hG.size);rw [←HZ.out] at ha;generalize Od.shape v.op v.p (Nt.pick sh v.ins)=r at *;obtain ⟨hd,hK,HD,H9,hW,Hw,ge⟩:=zd7 ha hf hown hP hg hw Ho;clear ha hf hown hP hg hw Ho;go_wp2_with fail;clear y0 y1 y2 y3 y4 y5 y6 y7 y8 y9;refine (hd.out).mono ?_;rintro e w9 ⟨S9,c9,rfl,Ht,HH,HO,HI⟩;have HP:=zI Ht;clear Ht;have hI:=Hx.trans (HI.mono Hx.size);go_wp2_with fail
        go_ret2
        exact ⟨S9,c9,rfl,HP.out,HH,HO,hI⟩
def FRow (B:Nat) (w:Zp1) (g:Nat) (t:TypeId) (ss:List (List Int)):Prop:=
 B<=g/\∃hs:List Nat,hs.length=ss.length/\(∃vs:List Value,vs.length=ss.length/\Blk w g t vs.toArray/\∀j (hj:j<ss.length) (hj2:j<hs.length),vs[j]? = some (.slice (some ⟨hs[j],0,none⟩) ss[j].length ss[j].length))/\
  ∀j (hj:j<ss.length) (hj2:j<hs.length),B<=hs[j]/\hs[j]≠g/\Blk w hs[j] 3 (ss[j].map (Za1 .i64)).toArray
theorem FRow.shps {B:Nat} {w:Zp1} {g:Nat} {t:TypeId} {ss:List (List Int)} (h:FRow B w g t ss) (hm:∀s∈ss,s.length<=9223372036854775807):Shps w (some ⟨g,0,none⟩) ss:=λj hj=>by
 obtain ⟨_,hs,hl,⟨vs,ha,hk,hv⟩,hb⟩:=h;have h1:=hv j hj oZ;obtain ⟨_,_,hB⟩:=hb j hj oZ;refine ⟨g,0,_,_,rfl,hk.lt,by rw [Zw,hk.cell j];simpa using h1,Ints.of_row λi hi=>?_,lrZ _,hm _ (gmZ hj)⟩;rw [Zw,hB.cell i,qa3 hi];simp [hi]
theorem FRow.fr {B:Nat} {w w':Zp1} {g:Nat} {t:TypeId} {ss:List (List Int)} {S:Nat->Prop} (h:FRow B w g t ss) (hf:Fr S w w') (hS:∀b,B<=b->b<w.heap.size->¬S b):FRow B w' g t ss:=by
 obtain ⟨hg,hs,hl,⟨vs,ha,hk,hv⟩,hb⟩:=h;refine ⟨hg,hs,hl,⟨vs,ha,hf.blk hk (hS _ hg hk.lt),hv⟩,λj hj hc=>?_⟩;obtain ⟨h1,h2,h3⟩:=hb j hj hc;exact ⟨h1,h2,hf.blk h3 (hS _ h1 h3.lt)⟩
theorem FRow.base {B B':Nat} {w:Zp1} {g:Nat} {t:TypeId} {ss:List (List Int)} (h:FRow B w g t ss) (hB:B'<=B):FRow B' w g t ss:=by
 obtain ⟨hg,hs,hl,hv,hb⟩:=h;exact ⟨Zv hB hg,hs,hl,hv,λj hj ha=>⟨Zv hB (hb j hj ha).1,(hb j hj ha).2⟩⟩
def CopiesP (ss:List (List Int)) (w:Zp1) (e:Ending) (w':Zp1):Prop:=
 ∃g,e=.returned (.slice (some ⟨g,0,none⟩) ss.length ss.length)/\FRow w.heap.size w' g 24 ss/\Below w.heap.size w w'
def FMid (B:Nat) (w:Zp1) (g:Nat) (t:TypeId) (ss:List (List Int)) (k:Nat):Prop:=
 ∃hs:List Nat,hs.length=k/\(∃vs:List Value,vs.length=ss.length/\Blk w g t vs.toArray/\∀j (hj:j<ss.length) (hj2:j<hs.length),vs[j]? = some (.slice (some ⟨hs[j],0,none⟩) ss[j].length ss[j].length))/\
  ∀j (hj:j<ss.length) (hj2:j<hs.length),B<=hs[j]/\hs[j]≠g/\Blk w hs[j] 3 (ss[j].map (Za1 .i64)).toArray
theorem FMid.fr {B:Nat} {w w':Zp1} {g:Nat} {t:TypeId} {ss:List (List Int)} {k:Nat} (h:FMid B w g t ss k) (hb:Below w.heap.size w w'):FMid B w' g t ss k:=by
 obtain ⟨hs,hl,⟨vs,ha,hk,hv⟩,hd⟩:=h;refine ⟨hs,hl,⟨vs,ha,hk.below hb hk.lt,hv⟩,λj hj hc=>?_⟩;obtain ⟨h1,h2,h3⟩:=hd j hj hc;exact ⟨h1,h2,h3.below hb h3.lt⟩
theorem FMid.push {B:Nat} {w:Zp1} {g h:Nat} {t:TypeId} {ss:List (List Int)} {k:Nat} (hm:FMid B w g t ss k) (hk:k<ss.length) (hh:B<=h) (hne:h≠g) (hb:Blk w h 3 (ss[k].map (Za1 .i64)).toArray):FMid B (w.setCell ⟨g,k,none⟩ (.slice (some ⟨h,0,none⟩) ss[k].length ss[k].length)) g t ss (k+1):=by
 obtain ⟨hs,hl,⟨vs,hd,he,hv⟩,hf⟩:=hm;refine ⟨hs++[h],by simp [hl],⟨vs.set k (.slice (some ⟨h,0,none⟩) ss[k].length ss[k].length),by simp [hd],by simpa using he.set_ k (.slice (some ⟨h,0,none⟩) ss[k].length ss[k].length),λj hj ha=>?_⟩,λj hj ha=>?_⟩
 ·by_cases e:j=k
  ·subst e
   have:(hs++[h])[j]'ha=h:=by simp [←hl]
   rw [this,Zr oZ]
  ·have hc:j<hs.length:=by simp at ha;omega
   rw [Zs oZ,hv j hj hc];simp [hc]
 ·by_cases e:j=k
  ·subst e
   have:(hs++[h])[j]'ha=h:=by simp [←hl]
   rw [this];exact ⟨hh,hne,hb.far (p:=⟨g,j,none⟩) hne _⟩
  ·have hc:j<hs.length:=by simp at ha;omega
   have e2:(hs++[h])[j]'ha=hs[j]:=by simp [hc]
   rw [e2];obtain ⟨h1,h2,h3⟩:=hf j hj hc;exact ⟨h1,h2,h3.far (p:=⟨g,k,none⟩) h2 _⟩
set_option maxRecDepth 20000 in
theorem qfb (A:Option Addr) (c:Nat) (ss:List (List Int)) (w:Zp1) (hl:ss.length<=1048576) (hs:∀s∈ss,s.length<=1048576) (hS:Shps w A ss):
  Calls Tryz.prog 127 #[.slice A ss.length c] w (CopiesP ss w):=by
 obtain ⟨i0,hi,hE,hA,hF⟩:=info_parts qcw;obtain ⟨Hs,HS⟩:=zd2 hs hS;clear hs hS;go_enter Tryz.func127,Tryz.ntmps127;go_wp2_with (at_make;refine wpList_make_full _ rfl _ _ 94 rfl w.heap.size 24 i0 (.slice none 0 0) 1 Tryz.underlying94 hi hE hA _ _ _ _ ss.length rfl rfl (by first|rfl|simp|(go_simp;rfl)) (by first|rfl|simp|(go_simp;rfl)) ?b2 ?b3 ?b4 ?_)
 case b2=>rw [hF];omega
 case b3=>unfold maxLen;omega
 case b4=>exact lrZ _
 intro w1 hown hgrow;have hb:=qaR hown;rw [qb4] at hb;have hu:Below w.heap.size w w1:=(Ze1 _ w).grown hgrow (lrZ _) sZ;have ht:FMid w.heap.size w1 w.heap.size 24 ss 0:=⟨[],rfl,⟨Zc ss.length (.slice none 0 0),by simp,by rw [List.toArray_replicate];exact hb,λj hj hp=>absurd hp sZ⟩,λj hj hp=>absurd hp sZ⟩
 have hw:=zI ht;clear ht;clear hb hown hgrow;go_wp2_with fail
 go_loopw [11] (λi wx=>∃k:Nat,k<=ss.length/\i=.int .i64 (k:Int)/\FMid w.heap.size wx w.heap.size 24 ss k/\Below w.heap.size w wx) (λi _=>ss.length-(intOf i).toNat)
 case atStart=>exact ⟨0,Zt _,rfl,hw.out,hu⟩
 case round=>
  obtain ⟨k,hk,rfl,hm,hf⟩:=hrel;clear hw hu
  by_cases hg:k<ss.length
  ·obtain ⟨b,off,S,sc,rfl,-,hc,hI,-⟩:=HS.out k hg
   have l1:=Hs.out _ (gmZ hg);have hz:=qa1 hf hc;have ha:=λ(W:Zp1) h q1 q2 q3 q4=>@FMid.push w.heap.size W w.heap.size h 24 ss k q1 hg q2 q3 q4
   generalize ss[k]=s at *;have hr:=hI.below hf (lrZ _);obtain ⟨Hm,HI,hD,hd⟩:=zd4 hm hI hr ha;clear hm hI hr ha;clear hc;go_wp2_with fail;refine (qaf S sc s _ oZ hD.out).mono ?_;rintro e w2 ⟨h,rfl,hh,hB,hq⟩;have ho:=hf.trans (hq.mono hf.size);have he:=Hm.out.fr hq;have hG:w.heap.size<wr.heap.size:=by obtain ⟨_,_,⟨vs,_,hk,_⟩,_⟩:=Hm.out;exact hk.lt
   have hv:=hd.out w2 h he oZ oZ hB;obtain ⟨y,hy⟩:∃y,w2.cell? ⟨w.heap.size,k,none⟩=some y:=by obtain ⟨_,_,⟨vs,hC,hk,_⟩,_⟩:=he;exact ⟨vs[k],by rw [hk.cell k];simp⟩
   have fy:w2.frozen? ⟨w.heap.size,k,none⟩=false:=by obtain ⟨_,_,⟨vs,hC,hk,_⟩,_⟩:=he;exact hk.frozen k
   have hn:=ho.setCell (p:=⟨w.heap.size,k,none⟩) sZ (.slice (some ⟨h,0,none⟩) s.length s.length);obtain ⟨hH,hx,HB⟩:=zd3 he hv hB;clear he hv hB;clear hz;go_wp2_with fail;go_roundw
   case rel=>exact ⟨k+1,by omega,by go_num,hx.out,hn⟩
   case measure=>simp [intOf];omega
  ·obtain rfl:k=ss.length:=by omega
   have Hm:=zI hm;clear hm;go_wp2_with fail;go_ret;refine ⟨w.heap.size,rfl,⟨lrZ _,?_⟩,hf⟩;obtain ⟨hs,h1,h2⟩:=Hm.out;exact ⟨hs,h1,h2⟩
def Later (w w':Zp1):Prop:=Below w.heap.size w w'
section
variable {w w1 w2:Zp1}
theorem Later.refl (w:Zp1):Later w w:=Ze1 _ _
theorem Later.alloc (h:Later w w1) (o:Obj):Later w (w1.alloc o):=Below.alloc h h.size o
theorem Later.drew (h:Later w w1):Later w w1.drew:=Below.drew h
theorem Later.drewN (h:Later w w1) (n:Nat):Later w (w1.drewN n):=qa6 h n
theorem Later.call (h:Later w w1) (k:Below w1.heap.size w1 w2):Later w w2:=Below.trans h (k.mono h.size)
theorem Later.trans (h:Later w w1) (k:Later w1 w2):Later w w2:=h.call k
theorem Later.set (h:Later w w1) {p:Addr} (hp:w.heap.size<=p.block) (u:Value):Later w (w1.setCell p u):=Below.setCell h hp u
theorem Later.cell {p:Addr} {v:Value} (h:Later w w1) (hc:w.cell? p=some v):w1.cell? p=some v:=(Below.cell h (Zj1 _ _ hc)).trans hc
theorem Later.blk {g:Nat} {t:TypeId} {cs:Array Value} (h:Later w w1) (hb:Blk w g t cs):Blk w1 g t cs:=hb.below h hb.lt
theorem Later.below {B:Nat} {w0:Zp1} (h:Later w w1) (hb:Below B w0 w) (hB:B<=w.heap.size):Below B w0 w1:=hb.trans (Below.mono h hB)
end
def Keep (T:TypeId) (w w':Zp1):Prop:=w.heap.size<=w'.heap.size/\∀(b:Nat) (cs:Array Value) (t:TypeId),w.heap[b]? = some (Obj.cells cs t (0,0))->t≠T->w'.heap[b]? = w.heap[b]?
section
variable {T t:TypeId} {w w' w2:Zp1} {g B:Nat} {cs:Array Value}
theorem Keep.of_later (h:Later w w'):Keep T w w':=⟨Below.size h,λb cs t hb _=>Below.block h b (lt_of_block hb)⟩
theorem Keep.set_ (hb:Blk w g T cs) (i:Nat) (u:Value):Keep T w (w.setCell ⟨g,i,none⟩ u):=⟨by simp,λb cs' t h ht=>Below.heap_setCell w _ u b (λe=>by
 have e:b=g:=e;subst e;unfold Blk at hb;rw [hb] at h;injection h with h
 injection h with _ h _
 exact ht h.symm)⟩
theorem Keep.refl (T:TypeId) (w:Zp1):Keep T w w:=⟨lrZ _,λ_ _ _ _ _=>rfl⟩
theorem Keep.trans (h:Keep T w w') (k:Keep T w' w2):Keep T w w2:=⟨Zv h.1 k.1,λb cs t hb ht=>(k.2 b cs t ((h.2 b cs t hb ht).trans hb) ht).trans (h.2 b cs t hb ht)⟩
theorem Blk.keep (hb:Blk w g t cs) (ht:t≠T) (h:Keep T w w'):Blk w' g t cs:=(h.2 g cs t hb ht).trans hb
theorem qce {e:TypeId} {s n:Nat} {v:Value} {xs:List Value} (h:w.ownsRow B e s v n xs) (ht:e≠T) (hk:Keep T w w'):w'.ownsRow B e s v n xs:=by
 refine ⟨h.1,?_⟩;rcases h.2 with h|⟨g,cap,cur,rfl,h1,h2,h3⟩
 ·exact .inl h
 ·exact .inr ⟨g,cap,cur,rfl,h1,(hk.2 g cur e h2 ht).trans h2,h3⟩
theorem FRow.keep {ss:List (List Int)} (h:FRow B w g t ss) (ht:t≠T) (hi:3≠T) (hk:Keep T w w'):FRow B w' g t ss:=by
 obtain ⟨hg,hs,hl,⟨vs,hc,hb,hv⟩,hr⟩:=h;exact ⟨hg,hs,hl,⟨vs,hc,hb.keep ht hk,hv⟩,λj hj ha=>⟨(hr j hj ha).1,(hr j hj ha).2.1,(hr j hj ha).2.2.keep hi hk⟩⟩
end
structure CpQ where
 v:NodeD
 S:Nat
 J:Option Addr
 jc:Nat
 Q:Nat
def CpQ.cells (x:CpQ):List Value:=[.int .i64 x.v.op.kind,.int .i64 x.v.op.k,.int .i64 x.v.op.width,.int .i64 x.v.op.step,.int .i64 x.v.op.side,.int .i64 x.v.op.frm,.int .i64 x.v.op.to,.slice (some ⟨x.S,0,none⟩) x.v.op.s.length x.v.op.s.length,.slice x.J x.v.ins.length x.jc,.slice (some ⟨x.Q,0,none⟩) x.v.p.length x.v.p.length]
def CpQ.R (B:Nat) (w:Zp1) (x:CpQ):Prop:=B<=x.S/\Blk w x.S 3 (x.v.op.s.map (Za1 .i64)).toArray/\w.ownsRow B 3 1 (.slice x.J x.v.ins.length x.jc) x.v.ins.length (x.v.ins.map (Za1 .i64))/\FRow B w x.Q 24 x.v.p
theorem CpQ.len (x:CpQ):x.cells.length=10:=rfl
theorem CpQ.flat (L:List CpQ):(L.flatMap CpQ.cells).length=L.length*10:=by
 induction L with
 | nil=>rfl
 | cons x r ih=>rw [List.flatMap_cons,Ze,ih,CpQ.len,List.length_cons];omega
theorem CpQ.R.keep {B:Nat} {w w':Zp1} {x:CpQ} {T:TypeId} (h:CpQ.R B w x) (h1:3≠T) (h2:24≠T) (hk:Keep T w w'):CpQ.R B w' x:=
 ⟨h.1,h.2.1.keep h1 hk,qce h.2.2.1 h1 hk,h.2.2.2.keep h2 h1 hk⟩
theorem CpQ.R.later {B:Nat} {w w':Zp1} {x:CpQ} (h:CpQ.R B w x) (hk:Later w w'):CpQ.R B w' x:=h.keep (T:=127) dZ dZ (Keep.of_later hk)
def CpRow (B:Nat) (wx:Zp1) (g:Nat) (zc:Array Value) (ns:List NodeD) (k:Nat):Prop:=
 ∃L:List CpQ,L.map (·.v)=ns.take k/\L.length=k/\Blk wx g 127 (L.flatMap CpQ.cells++zc.toList.drop (k*10)).toArray/\∀x∈L,CpQ.R B wx x
theorem CpRow.later {B:Nat} {w w':Zp1} {g:Nat} {zc:Array Value} {ns:List NodeD} {k:Nat} (h:CpRow B w g zc ns k) (hk:Later w w'):CpRow B w' g zc ns k:=by
 obtain ⟨L,h1,h2,h3,h4⟩:=h;exact ⟨L,h1,h2,hk.blk h3,λx hx=>(h4 x hx).later hk⟩
theorem CpRow.keep {B:Nat} {w w':Zp1} {g:Nat} {zc:Array Value} {ns:List NodeD} {k:Nat} {T:TypeId} (h:CpRow B w g zc ns k) (h1:3≠T) (h2:24≠T) (h3:127≠T) (hk:Keep T w w'):CpRow B w' g zc ns k:=by
 obtain ⟨L,l1,l2,l3,l4⟩:=h;exact ⟨L,l1,l2,l3.keep h3 hk,λx hx=>(l4 x hx).keep h1 h2 hk⟩
theorem qer {w:Zp1} {B B' e s n:Nat} {v:Value} {xs:List Value} (h:w.ownsRow B e s v n xs) (hB:B'<=B):w.ownsRow B' e s v n xs:=by
 refine ⟨h.1,?_⟩;rcases h.2 with h|⟨g,cap,cur,h1,h2,h3⟩
 ·exact .inl h
 ·exact .inr ⟨g,cap,cur,h1,Zv hB h2,h3⟩
theorem CpQ.R.base {B B':Nat} {w:Zp1} {x:CpQ} (h:CpQ.R B w x) (hB:B'<=B):CpQ.R B' w x:=⟨Zv hB h.1,h.2.1,qer h.2.2.1 hB,h.2.2.2.base hB⟩
theorem CpRow.zero {B:Nat} {w:Zp1} {g:Nat} {zc:Array Value} {ns:List NodeD} (h:Blk w g 127 zc):CpRow B w g zc ns 0:=⟨[],by simp,rfl,by simpa using h,by simp⟩
def set10 (w:Zp1) (g o:Nat) (l:List Value):Zp1:=((((((((((w.setCell ⟨g,o,none⟩ (l.getD 0 undef)).setCell ⟨g,o+1,none⟩ (l.getD 1 undef)).setCell ⟨g,o+2,none⟩ (l.getD 2 undef)).setCell ⟨g,o+3,none⟩ (l.getD 3 undef)).setCell ⟨g,o+4,none⟩ (l.getD 4 undef)).setCell ⟨g,o+5,none⟩ (l.getD 5 undef)).setCell ⟨g,o+6,none⟩ (l.getD 6 undef)).setCell ⟨g,o+7,none⟩ (l.getD 7 undef)).setCell ⟨g,o+8,none⟩ (l.getD 8 undef)).setCell ⟨g,o+9,none⟩ (l.getD 9 undef))
theorem Blk.set10 {w:Zp1} {g:Nat} {t:TypeId} {P R:List Value} {z0 z1 z2 z3 z4 z5 z6 z7 z8 z9 a0 a1 a2 a3 a4 a5 a6 a7 a8 a9:Value} {o:Nat} (hP:P.length=o) (h:Blk w g t (P++z0::z1::z2::z3::z4::z5::z6::z7::z8::z9::R).toArray):
  Blk (Go.Proofs.YtbnnpkcfifejmaaGreat.set10 w g o [a0,a1,a2,a3,a4,a5,a6,a7,a8,a9]) g t (P++a0::a1::a2::a3::a4::a5::a6::a7::a8::a9::R).toArray:=by
 subst hP;have:=(((((((((h.set_ P.length a0).set_ (P.length+1) a1).set_ (P.length+2) a2).set_ (P.length+3) a3).set_ (P.length+4) a4).set_ (P.length+5) a5).set_ (P.length+6) a6).set_ (P.length+7) a7).set_ (P.length+8) a8).set_ (P.length+9) a9;simpa [Go.Proofs.YtbnnpkcfifejmaaGreat.set10,List.set_append_right] using this
theorem Keep.set10 {w:Zp1} {g:Nat} {t:TypeId} {cs:Array Value} (h:Blk w g t cs) (o:Nat) (l:List Value):Keep t w (Go.Proofs.YtbnnpkcfifejmaaGreat.set10 w g o l):=by
 unfold Go.Proofs.YtbnnpkcfifejmaaGreat.set10;have s:∀ {W:Zp1} (hk:Keep t w W) (hc:∃cs,Blk W g t cs) (i:Nat) (u:Value),Keep t w (W.setCell ⟨g,i,none⟩ u)/\∃cs,Blk (W.setCell ⟨g,i,none⟩ u) g t cs:=λhk ⟨cs,hc⟩ i u=>⟨hk.trans (Keep.set_ hc i u),_,hc.set_ i u⟩
 have s0:=s (Keep.refl t w) ⟨_,h⟩ o (l.getD 0 undef);have s1:=s s0.1 s0.2 (o+1) (l.getD 1 undef);have s2:=s s1.1 s1.2 (o+2) (l.getD 2 undef);have s3:=s s2.1 s2.2 (o+3) (l.getD 3 undef);have s4:=s s3.1 s3.2 (o+4) (l.getD 4 undef);have s5:=s s4.1 s4.2 (o+5) (l.getD 5 undef);have s6:=s s5.1 s5.2 (o+6) (l.getD 6 undef);have s7:=s s6.1 s6.2 (o+7) (l.getD 7 undef);have s8:=s s7.1 s7.2 (o+8) (l.getD 8 undef);exact (s s8.1 s8.2 (o+9) (l.getD 9 undef)).1
theorem drop_ten {zs:List Value} {o:Nat} (h:o+10<=zs.length):∃z0 z1 z2 z3 z4 z5 z6 z7 z8 z9,zs.drop o=z0::z1::z2::z3::z4::z5::z6::z7::z8::z9::zs.drop (o+10):=by
 refine ⟨zs[o],zs[o+1],zs[o+2],zs[o+3],zs[o+4],zs[o+5],zs[o+6],zs[o+7],zs[o+8],zs[o+9],?_⟩
 iterate 10 rw [Zd oZ]
theorem CpRow.next {B:Nat} {w:Zp1} {g:Nat} {zc:Array Value} {ns:List NodeD} {k:Nat} (h:CpRow B w g zc ns k) (hk:k<ns.length) (hz:zc.size=ns.length*10):
  (∃z0 z1 z2 z3 z4 z5 z6 z7 z8 z9,w.cell? ⟨g,k*10,none⟩=some z0/\w.cell? ⟨g,k*10+1,none⟩=some z1/\w.cell? ⟨g,k*10+2,none⟩=some z2/\w.cell? ⟨g,k*10+3,none⟩=some z3/\w.cell? ⟨g,k*10+4,none⟩=some z4/\w.cell? ⟨g,k*10+5,none⟩=some z5/\w.cell? ⟨g,k*10+6,none⟩=some z6/\w.cell? ⟨g,k*10+7,none⟩=some z7/\w.cell? ⟨g,k*10+8,none⟩=some z8/\w.cell? ⟨g,k*10+9,none⟩=some z9)/\
  (∀i,w.frozen? ⟨g,i,none⟩=false)/\
  ∀x:CpQ,x.v=ns[k]->CpQ.R B w x->CpRow B (Go.Proofs.YtbnnpkcfifejmaaGreat.set10 w g (k*10) x.cells) g zc ns (k+1)/\Keep 127 w (Go.Proofs.YtbnnpkcfifejmaaGreat.set10 w g (k*10) x.cells):=by
 obtain ⟨L,h1,h2,h3,h4⟩:=h;obtain ⟨z0,z1,z2,z3,z4,z5,z6,z7,z8,z9,e⟩:=drop_ten (zs:=zc.toList) (o:=k*10) soZ;rw [e] at h3;have hl:(L.flatMap CpQ.cells).length=k*10:=by rw [CpQ.flat,h2]
 refine ⟨⟨z0,z1,z2,z3,z4,z5,z6,z7,z8,z9,?_,?_,?_,?_,?_,?_,?_,?_,?_,?_⟩,λi=>h3.frozen i,λx hx hR=>⟨⟨L++[x],?_,by simp [h2],?_,λy hy=>?_⟩,Keep.set10 h3 _ _⟩⟩
 all_goals first|(rw [h3.cell];simp [←hl];done)|skip
 ·rw [List.map_append,h1,Zb hk,←hx];rfl
 ·have:=Blk.set10 (a0:=.int .i64 x.v.op.kind) (a1:=.int .i64 x.v.op.k) (a2:=.int .i64 x.v.op.width) (a3:=.int .i64 x.v.op.step) (a4:=.int .i64 x.v.op.side) (a5:=.int .i64 x.v.op.frm) (a6:=.int .i64 x.v.op.to) (a7:=.slice (some ⟨x.S,0,none⟩) x.v.op.s.length x.v.op.s.length) (a8:=.slice x.J x.v.ins.length x.jc) (a9:=.slice (some ⟨x.Q,0,none⟩) x.v.p.length x.v.p.length) hl h3
  rw [Zj,List.append_assoc,show (k+1)*10=k*10+10 by omega];exact this
 ·have ha:Keep 127 w (Go.Proofs.YtbnnpkcfifejmaaGreat.set10 w g (k*10) x.cells):=Keep.set10 h3 _ _
  rcases List.mem_append.1 hy with hy|hy
  ·exact (h4 y hy).keep dZ dZ ha
  ·simp at hy;subst hy;exact hR.keep dZ dZ ha
theorem Later.set10 {w w1:Zp1} {g o:Nat} {l:List Value} (h:Later w w1) (hg:w.heap.size<=g):Later w (Go.Proofs.YtbnnpkcfifejmaaGreat.set10 w1 g o l):=by
 unfold Go.Proofs.YtbnnpkcfifejmaaGreat.set10;exact (((((((((h.set (p:=⟨g,o,none⟩) hg _).set (p:=⟨g,o+1,none⟩) hg _).set (p:=⟨g,o+2,none⟩) hg _).set (p:=⟨g,o+3,none⟩) hg _).set (p:=⟨g,o+4,none⟩) hg _).set (p:=⟨g,o+5,none⟩) hg _).set (p:=⟨g,o+6,none⟩) hg _).set (p:=⟨g,o+7,none⟩) hg _).set (p:=⟨g,o+8,none⟩) hg _).set (p:=⟨g,o+9,none⟩) hg _
theorem CpRow.nodes {B:Nat} {w:Zp1} {g:Nat} {zc:Array Value} {ns:List NodeD} (h:CpRow B w g zc ns ns.length) (hs:∀v∈ns,v.op.s.length<=1048576/\v.p.length<=1048576/\∀s∈v.p,s.length<=1048576):Nodes w (some ⟨g,0,none⟩) ns:=λj hj=>by
 obtain ⟨L,h1,h2,h3,h4⟩:=h;rw [Zg] at h1;subst h1;rw [List.length_map] at hj;have hx:=h4 L[j] (gmZ hj);have hc:=hs L[j].v (List.mem_map.2 ⟨_,gmZ hj,rfl⟩);obtain ⟨q1,q2,q3,q4⟩:=hx;obtain ⟨r1,r2,r3⟩:=qbo q3;have hb:L=L.take j++L[j]::L.drop (j+1):=by rw [←Zd hj,Zn]
 have hd:((L.take j).flatMap CpQ.cells).length=j*10:=by rw [CpQ.flat];simp;omega
 have ha:∀i,i<10->w.cell? ⟨g,j*10+i,none⟩=L[j].cells[i]?:=λi hi=>by
  rw [h3.cell]
  conv=>lhs;rw [hb,Zj,List.flatMap_cons,List.append_assoc,List.append_assoc]
  rw [Zk,Zl oZ,hd,show j*10+i-j*10=i by omega,Zm (by rw [CpQ.len];exact hi)]
 rw [List.getElem_map];refine ⟨g,0,some ⟨L[j].S,0,none⟩,L[j].v.op.s.length,L[j].J,L[j].jc,some ⟨L[j].Q,0,none⟩,L[j].v.p.length,rfl,h3.lt,?_,?_,?_,?_,?_,?_,?_,?_,?_,?_,⟨?_,lrZ _,by omega⟩,⟨r1,r2,r3⟩,⟨q4.shps (λs h=>by have:=hc.2.2 s h;omega),lrZ _,by omega⟩⟩
 all_goals first|(rw [Zw];exact ha 0 oZ)|(rw [Zw];exact ha _ oZ)|skip
 exact Ints.of_row λi hi=>by
  rw [Zw,q2.cell i,qa3 hi];simp [hi]
def PList (w:Zp1) (vs:List Value) (ss:List (List Int)):Prop:=
 vs.length=ss.length/\∀j (hj:j<ss.length),∃h,vs[j]? = some (.slice (some ⟨h,0,none⟩) ss[j].length ss[j].length)/\Blk w h 3 (ss[j].map (Za1 .i64)).toArray
theorem PList.nil (w:Zp1):PList w [] []:=⟨rfl,λj hj=>absurd hj sZ⟩
theorem PList.append {w:Zp1} {vs vs':List Value} {ss ss':List (List Int)} (h:PList w vs ss) (h':PList w vs' ss'):PList w (vs++vs') (ss++ss'):=by
 refine ⟨by simp [h.1,h'.1],λj hj=>?_⟩
 by_cases hl:j<ss.length
 ·obtain ⟨g,e,hb⟩:=h.2 j hl
  have e2:(ss++ss')[j]=ss[j]:=by simp [hl]
  rw [e2];exact ⟨g,by rw [Zm (by rw [h.1];exact hl)];exact e,hb⟩
 ·have ha:j-ss.length<ss'.length:=by simp at hj;omega
  obtain ⟨g,e,hb⟩:=h'.2 (j-ss.length) ha;have e2:(ss++ss')[j]=ss'[j-ss.length]:=by rw [List.getElem_append_right oZ]
  rw [e2];exact ⟨g,by rw [Zl (by rw [h.1];omega),h.1];exact e,hb⟩
theorem PList.keep {w w':Zp1} {vs:List Value} {ss:List (List Int)} {T:TypeId} (h:PList w vs ss) (hT:3≠T) (hk:Keep T w w'):PList w' vs ss:=
 ⟨h.1,λj hj=>by obtain ⟨g,e,hb⟩:=h.2 j hj;exact ⟨g,e,hb.keep hT hk⟩⟩
theorem PList.one {w:Zp1} {vs:List Value} {ss:List (List Int)} (h:PList w vs ss):∀u∈vs,u.oneCell'=true:=λu hu=>by
 obtain ⟨j,hj,rfl⟩:=List.getElem_of_mem hu;obtain ⟨g,e,_⟩:=h.2 j (by rw [←h.1];exact hj);rw [geZ hj] at e;injection e with e
 rw [e];rfl
theorem FRow.plist {B:Nat} {w:Zp1} {g:Nat} {t:TypeId} {ss:List (List Int)} (h:FRow B w g t ss):∃vs:List Value,Blk w g t vs.toArray/\PList w vs ss:=by
 obtain ⟨_,hs,hl,⟨vs,ha,hb,hv⟩,hr⟩:=h;exact ⟨vs,hb,ha,λj hj=>⟨hs[j]'oZ,hv j hj oZ,(hr j hj oZ).2.2⟩⟩
theorem Keep.of_grown {T:TypeId} {w w':Zp1} {B s n:Nat} {v:Value} {xs:List Value} (h:w.ownsRow B T s v n xs) (hg:w.grownBy w' v.ownBlock):Keep T w w':=by
 refine ⟨hg.size,λb cs t hb ht=>hg.block b (lt_of_block hb) λe=>?_⟩;rcases h.2 with ⟨rfl,_⟩|⟨g,cap,cur,rfl,_,hh,_⟩
 ·simp [Value.ownBlock] at e
 ·simp [Value.ownBlock] at e
  subst e;rw [hh] at hb;injection hb with hb
  injection hb with _ hb _
  exact ht hb.symm
theorem news_blk {w:Zp1} {g:Nat} {t:TypeId} {vs:List Value} (h:Blk w g t vs.toArray):∀(j:Nat) (u:Value),vs[j]? = some u->w.cell? (Addr.add ⟨g,0,none⟩ j)=some u:=λj u hu=>by
 have:(Addr.add ⟨g,0,none⟩ j)=⟨g,j,none⟩:=by by_cases e:j=0<;>simp [Addr.add,e]
 rw [this,h.cell];simpa using hu
theorem PList.shps {w:Zp1} {vs:List Value} {ss:List (List Int)} {B n:Nat} {t:TypeId} {v:Value} (h:PList w vs ss) (hown:w.ownsRow B t 1 v n vs) (hs:∀s∈ss,s.length<=1048576):
  ∃A c,v=.slice A ss.length c/\n=ss.length/\Shps w A ss/\ss.length<=c/\c<=9223372036854775807:=by
 have hn:n=ss.length:=by have:=hown.1;have:=h.1;omega
 subst hn;rcases hown.2 with ⟨rfl,h0⟩|⟨g,cap,cur,rfl,hb,hh,r1,r2,r3,r4⟩
 ·have:ss=[]:=List.eq_nil_of_length_eq_zero h0
  subst this;exact ⟨none,0,rfl,rfl,Shps.nil,by simp,by omega⟩
 ·refine ⟨_,cap,rfl,rfl,λj hj=>?_,r1,by unfold maxLen at r2;omega⟩
  obtain ⟨b,e,ha⟩:=h.2 j hj;refine ⟨g,0,_,_,rfl,lt_of_block hh,by rw [Zw,hown.cellAt j oZ];exact e,Ints.of_row λi hi=>?_,lrZ _,by have:=hs _ (gmZ hj);omega⟩;rw [Zw,ha.cell i,qa3 hi];simp [hi]
def ParamsP (n:NetD) (w:Zp1) (e:Ending) (w':Zp1):Prop:=
 ∃A c,e=.returned (.slice A (Nt.params n).length c)/\Shps w' A (Nt.params n)/\(Nt.params n).length<=c/\c<=9223372036854775807/\Below w.heap.size w w'
theorem qcZ {n:NetD} (hok:n.ok) (k:Nat):((n.nodes.take k).flatMap (·.p)).length<=k*1048576:=by
 induction k with
 | zero=>simp
 | succ k ih=>
  by_cases hk:k<n.nodes.length
  ·rw [Zb hk,Zj,Ze]
   have h1:=(hok.2.2 _ (gmZ hk)).2.2.2.1;have e:[n.nodes[k]].flatMap (·.p)=n.nodes[k].p:=by simp
   rw [e];omega
  ·rw [List.take_of_length_le oZ]
   rw [List.take_of_length_le oZ] at ih;exact Zv ih (mlZ _ (Zy _))
set_option maxRecDepth 20000 in
theorem qfc (A N:Option Addr) (c d:Nat) (n:NetD) (w:Zp1) (hok:n.ok) (hR:NetR w A N n):
  Calls Tryz.prog 77 #[.agg #[.slice A n.inn.length c,.slice N n.nodes.length d]] w (ParamsP n w):=by
 obtain ⟨i0,hi,h2,hY,h3⟩:=info_parts qcw;have h8:=hok.2.1;have hQ:=λk=>qcZ hok k
 have hI:Later w (w.alloc (.cells #[.slice A n.inn.length c,.slice N n.nodes.length d] 59)):=(Later.refl _).alloc _;obtain ⟨hH,HR,hW,hP⟩:=zd4 hok hR hQ hI;clear hok hR hQ hI;go_enter Tryz.func77,Tryz.ntmps77;go_wp2_with fail;generalize w.alloc (.cells #[.slice A n.inn.length c,.slice N n.nodes.length d] 59)=w1 at *
 go_loopw [3,9] (λo i wx=>∃(k:Nat) (vs:List Value),k<=n.nodes.length/\i=.int .i64 (k:Int)/\wx.ownsRow w.heap.size 24 1 o ((n.nodes.take k).flatMap (·.p)).length vs/\PList wx vs ((n.nodes.take k).flatMap (·.p))/\Below w.heap.size w wx) (λ_ i _=>n.nodes.length-(intOf i).toNat)
 case atStart=>exact ⟨0,[],Zt _,rfl,by simpa using World.ownsRow_nil w1 w.heap.size 24 1,by simpa using PList.nil w1,hP.out⟩
 case round=>
  obtain ⟨k,vs,hk,rfl,hown,hn,hg⟩:=hrel;clear hP;obtain ⟨Ao,co,rfl⟩:=qak hown
  by_cases hw:k<n.nodes.length
  ·obtain ⟨b,off,S,sc,J,ic,Q,qc,rfl,hr,-,-,-⟩:=HR.out.2.at_ hw
   have hc:=hH.out.2.2 _ (gmZ hw);have hz:=hc.2.2.2.1;have hh:=hc.2.2.2.2.1;have hO:=hr.2.2.2;have Ha:=hW.out k;have hK:(n.nodes.take (k+1)).flatMap (·.p)=(n.nodes.take k).flatMap (·.p)++n.nodes[k].p:=by rw [Zb hw,Zj];simp
   have h7:k*1048576<=1048576*1048576:=mlZ _ oZ;generalize n.nodes[k]=v at *;generalize (n.nodes.take k).flatMap (·.p)=ss at *;obtain ⟨⟨y0,y1,y2,y3,y4,y5,y6,y7,y8,y9⟩,-⟩:=hr.below hg;have hM:Later wr (wr.alloc (.cells #[.int .i64 v.op.kind,.int .i64 v.op.k,.int .i64 v.op.width,.int .i64 v.op.step,.int .i64 v.op.side,.int .i64 v.op.frm,.int .i64 v.op.to,.slice S v.op.s.length sc,.slice J v.ins.length ic,.slice Q v.p.length qc] 127)):=(Later.refl wr).alloc _;obtain ⟨h6,hZ,hE,hS,hJ,he,hA,hG⟩:=zd8 hr hc hh hO hK hown hn hM;clear hr hc hh hO hK hown hn hM;go_wp2_with fail;clear y0 y1 y2 y3 y4 y5 y6 y7 y8 y9;generalize wr.alloc (.cells #[.int .i64 v.op.kind,.int .i64 v.op.k,.int .i64 v.op.width,.int .i64 v.op.step,.int .i64 v.op.side,.int .i64 v.op.frm,.int .i64 v.op.to,.slice S v.op.s.length sc,.slice J v.ins.length ic,.slice Q v.p.length qc] 127)=w2 at *;refine (qfb Q qc v.p _ hz hE.out (hS.out.below (hg.trans (Below.mono hG.out hg.size)) (lrZ _))).mono ?_;rintro e w3 ⟨g,rfl,hF,hD⟩;have hm:=hG.out.call hD;obtain ⟨ws,hx,hu⟩:=hF.plist;have ht:=qce (T:=127) he.out dZ (Keep.of_later hm);have hL:=hA.out.keep (T:=127) dZ (Keep.of_later hm);have hC:ws.length=v.p.length:=hu.1;have hj:=hu.one;have hd:=news_blk hx;have hq:=hg.trans (Below.mono hm hg.size);have hp:=hq.size;have hN:=zI (λb (hb:(Zb1 Ao ss.length co).ownBlock=some b)=>(ht.lt b hb).1);obtain ⟨HF,h9,hT,h4,Hb⟩:=zd5 hF hm hL hu hx;clear hF hm hL hu hx;clear hD he hA;go_wp2_with (at_builtin;refine wpList_append_own_at _ rfl _ _ 94 rfl w.heap.size 24 i0 (.slice none 0 0) 1 24 Tryz.underlying94 hi h2 hY h3 rfl dZ _ _ _ rfl ht ⟨g,0,none⟩ v.p.length v.p.length ws rfl (by rw [hC];omega) hd hj (by unfold maxLen;omega) oZ hp ?_);intro v' w4 ha hgrow _ h1;have hB:Keep 24 w3 w4:=Keep.of_grown ht hgrow;have hy:=(hT.out.keep dZ hB).append (h4.out.keep dZ hB)
   have h5:Below w.heap.size w w4:=hq.grown hgrow hp (λb hb=>hN.out b hb);rw [show ss.length+v.p.length=(ss++v.p).length by simp,←hJ.out] at ha;rw [←hJ.out] at hy;have hl:=zI ha;have hV:=zI hy;clear ha hy;clear hB hgrow h1 ht hN hd hj hC;go_wp2_with fail;go_roundw
   case rel=>exact ⟨k+1,vs++ws,by omega,by go_num,hl.out,hV.out,h5⟩
   case measure=>simp [intOf];omega
  ·obtain rfl:k=n.nodes.length:=by omega
   rw [Zg] at *
   have hh:∀s∈n.nodes.flatMap (·.p),s.length<=1048576:=λs hs=>by
    obtain ⟨v,hv,hs⟩:=List.mem_flatMap.1 hs;exact (hH.out.2.2 v hv).2.2.2.2.1 s hs
   obtain ⟨A',c',e,-,q1,q2,q3⟩:=hn.shps hown hh;injection e with e1 e2 e3
   subst e1 e3;have ho:Nt.params n=n.nodes.flatMap (·.p):=rfl;obtain ⟨he,hA,hE,hU,h0,hX,hf⟩:=zd7 hown hn hh q1 q2 q3 ho;clear hown hn hh q1 q2 q3 ho;clear e2;go_wp2_with fail;go_ret;exact ⟨Ao,co,by (rw [hf.out]<;>rfl),by rw [hf.out];exact hU.out,by rw [hf.out];exact h0.out,hX.out,hg⟩
theorem params_at {n:NetD} {k m:Nat} (hk:k<n.nodes.length) (hm:m<n.nodes[k].p.length):((n.nodes.take k).flatMap (·.p)).length+m<(Nt.params n).length/\(Nt.params n)[((n.nodes.take k).flatMap (·.p)).length+m]? = some n.nodes[k].p[m]:=by
 have e:Nt.params n=(n.nodes.take k).flatMap (·.p)++(n.nodes[k].p++(n.nodes.drop (k+1)).flatMap (·.p)):=by
  unfold Nt.params
  conv=>lhs;rw [←Zn k n.nodes,Zd hk,Zj,List.flatMap_cons]
 rw [e];refine ⟨by simp only [Ze];omega,?_⟩;rw [Zl oZ,Nat.add_sub_cancel_left,Zm hm,geZ hm]
theorem or_mul (a b i m:Nat) (hm:m=2 ^ i) (h:a<m):(b*m) ||| a=b*m+a:=by
 subst hm;rw [←Nat.shiftLeft_eq,Nat.shiftLeft_add_eq_or_of_lt h]
namespace Fx
def In (x:Int):Prop:=-9223372036854775808<=x/\x<=9223372036854775807
def clamp (z:Int):Int:=if 9223372036854775807<z then 9223372036854775807 else if z < -9223372036854775808 then -9223372036854775808 else z
theorem qdn (z:Int):In (clamp z):=by unfold clamp In;split<;>(try split)<;>omega
theorem clamp_id {z:Int} (h:In z):clamp z=z:=by unfold In at h;unfold clamp;split<;>(try split)<;>omega
theorem clamp_hi {z:Int} (h:9223372036854775807<=z):clamp z=9223372036854775807:=by unfold clamp;split<;>(try split)<;>omega
theorem clamp_lo {z:Int} (h:z<=-9223372036854775808):clamp z = -9223372036854775808:=by unfold clamp;split<;>(try split)<;>omega
theorem in_zero:In 0:=by unfold In;omega
def add (x y:Int):Int:=clamp (x+y)
def rnd (p d:Nat):Nat:=if d<2*(p % d)∨(2*(p % d)=d/\p / d % 2=1) then p / d+1 else p / d
def neg2 (x y:Int):Bool:=decide (x<0) != decide (y<0)
def sgn (b:Bool) (n:Nat):Int:=if b then -(n:Int) else n
def mul (x y:Int):Int:=clamp (sgn (neg2 x y) (rnd (x.natAbs*y.natAbs) 4294967296))
def edge (b:Bool):Int:=if b then -9223372036854775808 else 9223372036854775807
def div (x y:Int):Int:=if y=0 then (if x=0 then 0 else edge (decide (x<0))) else clamp (sgn (neg2 x y) (rnd (x.natAbs*4294967296) y.natAbs))
theorem edge_in (b:Bool):In (edge b):=by cases b<;>(unfold edge In;simp)
theorem add_in (x y:Int):In (add x y):=qdn _
theorem mul_in (x y:Int):In (mul x y):=qdn _
theorem div_in (x y:Int):In (div x y):=by
 unfold div
 split
 ·split
  ·exact in_zero
  ·exact edge_in _
 ·exact qdn _
theorem clamp_sgn_big {b:Bool} {n:Nat} (h:9223372036854775808<=n):clamp (sgn b n)=edge b:=by
 cases b
 ·exact clamp_hi (by simp [sgn];omega)
 ·exact clamp_lo (by simp [sgn];omega)
theorem clamp_sgn_small {b:Bool} {n:Nat} (h:n<9223372036854775808):clamp (sgn b n)=sgn b n:=by
 cases b<;>exact clamp_id (by unfold In;simp [sgn];omega)
def sum (l:List Int):Int:=l.foldl add 0
def dot (a b:List Int):Int:=(a.zip b).foldl (λs p=>add s (mul p.1 p.2)) 0
theorem qeQ {α:Type} (f:Int->α->Int) (hf:∀s x,In (f s x)) (l:List α) (s:Int) (hs:In s):In (l.foldl f s):=by
 induction l generalizing s with
 | nil=>exact hs
 | cons x r ih=>exact ih _ (hf s x)
theorem sum_in (l:List Int):In (sum l):=qeQ _ (λs x=>add_in s x) _ _ in_zero
theorem dot_in (a b:List Int):In (dot a b):=qeQ _ (λs x=>add_in _ _) _ _ in_zero
def held (x low high:Int):Int:=if high<x then high else if x<low then low else x
theorem held_in {x low high:Int} (hx:In x) (hl:In low) (hh:In high):In (held x low high):=by unfold held;split<;>(try split)<;>assumption
def neg (x:Int):Int:=if x = -9223372036854775808 then 9223372036854775807 else -x
end Fx
theorem qeR (v:BitVec 64):IntKind.i64.wrap (v.toNat:Int)<0↔v.msb=true:=by
 have:=v.isLt;rw [IntKind.wrap_i64,BitVec.msb_eq_decide];simp;omega
theorem qbQ {a:Int} (h:Fx.In a):(BitVec.ofInt 64 a).msb=decide (a<0):=by
 unfold Fx.In at h;rw [BitVec.msb_eq_decide,BitVec.toNat_ofInt];simp only [decide_eq_decide];omega
theorem qg3 (n:Int):Fx.In (IntKind.i64.wrap n):=by unfold Fx.In;rw [IntKind.wrap_i64];omega
theorem qg4 {a b:Int} (ha:Fx.In a) (hb:Fx.In b):bits .xor .i64 a b<0↔(decide (a<0) != decide (b<0))=true:=by
 show IntKind.i64.wrap ((BitVec.ofInt 64 a ^^^ BitVec.ofInt 64 b).toNat:Int)<0↔_
 rw [qeR,BitVec.msb_xor,qbQ ha,qbQ hb]
theorem qg5 (o:BinOp) (a b:Int):Fx.In (bits o .i64 a b):=qg3 _
theorem and_neg {a b:Int} (ha:Fx.In a) (hb:Fx.In b):bits .and .i64 a b<0↔a<0/\b<0:=by
 show IntKind.i64.wrap ((BitVec.ofInt 64 a &&& BitVec.ofInt 64 b).toNat:Int)<0↔_
 rw [qeR,BitVec.msb_and,qbQ ha,qbQ hb];simp
theorem add_over {x y s:Int} (hx:Fx.In x) (hy:Fx.In y) (hs:s=IntKind.i64.wrap (x+y)):bits .and .i64 (bits .xor .i64 x s) (bits .xor .i64 y s)<0↔¬Fx.In (x+y):=by
 have ha:Fx.In s:=by rw [hs];exact qg3 _
 rw [and_neg (qg5 _ _ _) (qg5 _ _ _),qg4 hx ha,qg4 hy ha];simp only [bne_iff_ne,ne_eq,decide_eq_decide];unfold Fx.In at *;rw [IntKind.wrap_i64] at hs;omega
theorem add_no {x y:Int} (h:Fx.In (x+y)):IntKind.i64.wrap (x+y)=Fx.add x y:=by
 unfold Fx.add;rw [Fx.clamp_id h];unfold Fx.In at h;rw [IntKind.wrap_i64];omega
theorem add_yes {x y:Int} (hx:Fx.In x) (hy:Fx.In y) (h:¬Fx.In (x+y)):Fx.add x y=Fx.edge (decide (x<0)):=by
 unfold Fx.add;unfold Fx.In at *
 by_cases hn:x<0
 ·rw [Fx.clamp_lo oZ];simp [Fx.edge,hn]
 ·rw [Fx.clamp_hi oZ];simp [Fx.edge,hn]
theorem qbr (b:Bool) (w:Zp1):Calls Tryz.prog 110 #[.bool b] w λe w'=>e=.returned (.int .i64 (Fx.edge b))/\w=w':=by
 cases b
 all_goals
  go_enter Tryz.func110,Tryz.ntmps110;go_wp2_with fail;go_ret;exact ⟨rfl,rfl⟩
theorem qes (n:Int):wrap64 n=IntKind.i64.wrap n:=by unfold wrap64;rw [IntKind.wrap_i64]
theorem qaM (x y:Int) (w:Zp1) (hx:Fx.In x) (hy:Fx.In y):Calls Tryz.prog 55 #[.int .i64 x,.int .i64 y] w λe w'=>e=.returned (.int .i64 (Fx.add x y))/\w=w':=by
 have H:=zI (add_over hx hy rfl)
 by_cases h:Fx.In (x+y)
 ·have HA:=zI (add_no h)
  have b1 : -9223372036854775808<=x+y:=h.1;have b2:x+y<=9223372036854775807:=h.2;have HB:=zI (show IntKind.i64.wrap (x+y)=x+y from Zc1 _ ⟨b1,b2⟩)
  have hB:0<=bits .and .i64 (bits .xor .i64 x (x+y)) (bits .xor .i64 y (x+y)):=by
   have:=H.out;rw [HB.out] at this;exact Int.not_lt.1 λk=>(this.1 k) h
  clear H hx hy h;go_enter Tryz.func55,Tryz.ntmps55;go_wp2_with fail;go_ret;exact ⟨qaa (by rw [←HA.out,HB.out]),rfl⟩
 ·have HA:=zI (add_yes hx hy h)
  have hB:bits .and .i64 (bits .xor .i64 x (wrap64 (x+y))) (bits .xor .i64 y (wrap64 (x+y)))<0:=by
   rw [qes];exact H.out.2 h
  clear H hx hy;have Hh:=zI h;clear h;go_enter Tryz.func55,Tryz.ntmps55;go_wp2_with fail;refine (qbr _ _).mono ?_;rintro e w1 ⟨rfl,rfl⟩;go_wp2_with fail;go_ret;exact ⟨qaa HA.out.symm,rfl⟩
theorem qcp (x:Int) (w:Zp1) (hx:Fx.In x):Calls Tryz.prog 109 #[.int .i64 x] w λe w'=>e=.returned (.int .u64 (x.natAbs:Int))/\w=w':=by
 obtain ⟨h1,h2⟩:=hx
 by_cases h:x<0
 ·have e:IntKind.u64.wrap (-IntKind.u64.wrap x)=(x.natAbs:Int):=by rw [IntKind.wrap_u64,IntKind.wrap_u64];omega
  have E:=zI e;clear e;go_enter Tryz.func109,Tryz.ntmps109;go_wp2_with fail;go_ret;exact ⟨qaa E.out,rfl⟩
 ·have E:=zI (show x=(x.natAbs:Int) by omega)
  go_enter Tryz.func109,Tryz.ntmps109;go_wp2_with fail;go_ret;exact ⟨qaa E.out,rfl⟩
theorem qai (q:Int) (b:Bool) (w:Zp1) (h0:0<=q) (hq:q<18446744073709551616):Calls Tryz.prog 111 #[.int .u64 q,.bool b] w λe w'=>e=.returned (.int .i64 (Fx.clamp (Fx.sgn b q.toNat)))/\w=w':=by
 by_cases h:9223372036854775808<=q
 ·have HE:=zI (Fx.clamp_sgn_big (b:=b) (n:=q.toNat) oZ)
  cases b
  all_goals
   go_enter Tryz.func111,Tryz.ntmps111;go_wp2_with fail;refine (qbr _ _).mono ?_;rintro e w1 ⟨rfl,rfl⟩;go_wp2_with fail;go_ret;exact ⟨qaa HE.out.symm,rfl⟩
 ·have HE:=λb=>Fx.clamp_sgn_small (b:=b) (n:=q.toNat) oZ
  have E1:=zI (HE true);have E2:=zI (HE false);clear HE;have ha:q<=9223372036854775807:=by omega
  clear hq h;cases b
  ·have E:=zI (show q=Fx.sgn false q.toNat by simp [Fx.sgn];omega)
   go_enter Tryz.func111,Tryz.ntmps111;go_wp2_with fail;go_ret;exact ⟨qaa (by rw [E2.out];exact E.out),rfl⟩
  ·have E:=zI (show -q=Fx.sgn true q.toNat by simp [Fx.sgn];omega)
   go_enter Tryz.func111,Tryz.ntmps111;go_wp2_with fail;go_ret;exact ⟨qaa (by rw [E1.out];exact E.out),rfl⟩
theorem qbf {x:Int} (h:Fx.In x):x.natAbs<=9223372036854775808:=by unfold Fx.In at h;omega
theorem qdY {x:Int} (h:Fx.In x):x.natAbs<18446744073709551616:=Nat.lt_of_le_of_lt (qbf h) dZ
theorem qfd {x y:Int} (hx:Fx.In x) (hy:Fx.In y):x.natAbs*y.natAbs<=85070591730234615865843651857942052864:=Nat.mul_le_mul (qbf hx) (qbf hy)
theorem u64_join (p:Nat) (hp:p<39614081257132168796771975168):bits .or .u64 (((p / 18446744073709551616:Nat):Int)*4294967296) (((p % 18446744073709551616:Nat):Int) / 4294967296)=((p / 4294967296:Nat):Int):=by
 have e1:(((p / 18446744073709551616:Nat):Int)*4294967296)=((p / 18446744073709551616*4294967296:Nat):Int):=by omega
 have e2:(((p % 18446744073709551616:Nat):Int) / 4294967296)=((p % 18446744073709551616 / 4294967296:Nat):Int):=by omega
 rw [e1,e2,bits_or_u64_nat _ _ oZ oZ,or_mul _ _ 32 4294967296 dZ oZ];omega
theorem qeS (p:Nat):bits .and .u64 ((p % 18446744073709551616:Nat):Int) 4294967295=((p % 4294967296:Nat):Int):=by
 have h:=bits_and_u64_nat (p % 18446744073709551616) 4294967295 oZ oZ;have e:p % 18446744073709551616 &&& 4294967295=p % 18446744073709551616 % 4294967296:=Nat.and_two_pow_sub_one_eq_mod _ 32;rw [e] at h;refine h.trans ?_;omega
theorem qg6 (q:Nat) (hq:q<18446744073709551616):bits .and .u64 (q:Int) 1=((q % 2:Nat):Int):=by
 have h:=bits_and_u64_nat q 1 hq oZ;rw [Nat.and_one_is_mod] at h;exact h
set_option maxRecDepth 20000 in
theorem qaA (x y:Int) (w:Zp1) (hx:Fx.In x) (hy:Fx.In y):Calls Tryz.prog 54 #[.int .i64 x,.int .i64 y] w λe w'=>e=.returned (.int .i64 (Fx.mul x y))/\w=w':=by
 obtain ⟨HX,HY⟩:=zd2 hx hy;clear hx hy;go_enter Tryz.func54,Tryz.ntmps54;go_wp2_with fail;generalize hN:(!(decide (x<0)==decide (y<0)))=nb;have HN:=zI (show Fx.neg2 x y=nb from hN);clear hN;refine (qcp x _ HX.out).mono ?_;rintro e w1 ⟨rfl,rfl⟩;go_wp2_with fail;refine (qcp y _ HY.out).mono ?_;rintro e w1 ⟨rfl,rfl⟩;go_wp2_with fail;refine (Tryz.bits_Mul64 x.natAbs y.natAbs (qdY HX.out) (qdY HY.out) _).mono ?_;rintro e w1 ⟨rfl,hd⟩;subst hd;obtain ⟨p,hp⟩:∃p,p=x.natAbs*y.natAbs:=⟨_,rfl⟩
 have HP:=zI hp;rw [←hp];have ha:p<=85070591730234615865843651857942052864:=by rw [hp];exact qfd HX.out HY.out
 clear hp;obtain ⟨hi,hhi⟩:∃hi:Int,hi=((p / 18446744073709551616:Nat):Int):=⟨_,rfl⟩
 obtain ⟨lo,hlo⟩:∃lo:Int,lo=((p % 18446744073709551616:Nat):Int):=⟨_,rfl⟩
 rw [←hhi,←hlo];have b1:0<=hi:=by omega
 have b2:0<=lo:=by omega
 have b3:hi<4611686018427387905:=by omega
 have b4:lo<=18446744073709551615:=by omega
 obtain ⟨HH,HL,hc⟩:=zd3 hhi hlo ha;clear hhi hlo ha
 by_cases h:2147483648<=hi
 ·have HE:RowKit.Hid (Fx.edge nb=Fx.mul x y):=by
   have h1:=HH.out;unfold Fx.mul;rw [←HP.out,HN.out];refine (Fx.clamp_sgn_big ?_).symm;unfold Fx.rnd
   split<;>omega
  go_wp2_with fail;refine (qbr nb _).mono ?_;rintro e w1 ⟨rfl,rfl⟩;go_wp2_with fail;go_ret;exact ⟨qaa HE.out,rfl⟩
 ·have hb:p<39614081257132168796771975168:=by have:=HH.out;have:=hc.out;omega
  have j1:=u64_join p hb;have j2:=qeS p;have j3:=qg6 (p / 4294967296) oZ;rw [←HH.out,←HL.out] at j1;rw [←HL.out] at j2;obtain ⟨q,hq⟩:∃q:Int,q=((p / 4294967296:Nat):Int):=⟨_,rfl⟩
  obtain ⟨r,hr⟩:∃r:Int,r=((p % 4294967296:Nat):Int):=⟨_,rfl⟩
  obtain ⟨t,ht⟩:∃t:Int,t=((p / 4294967296 % 2:Nat):Int):=⟨_,rfl⟩
  have q0:0<=q:=by omega
  have q1:q<=9223372036854775807:=by omega
  have r0:0<=r:=by omega
  have r1:r<=4294967295:=by omega
  rw [←hq] at j1 j3;rw [←hr] at j2;rw [←ht] at j3;obtain ⟨HQ,HR,HT,Hl⟩:=zd4 hq hr ht hb;clear hq hr ht hb
  have key:∀z:Int,0<=z->z.toNat=Fx.rnd p 4294967296->Fx.clamp (Fx.sgn nb z.toNat)=Fx.mul x y:=λz _ hz=>by
   unfold Fx.mul;rw [←HP.out,HN.out,hz]
  have Hk:=zI key;clear key
  by_cases h1:2147483648<r
  ·have d1:decide (2147483648<r)=true:=by simpa using h1
   have d2:(r==2147483648)=false:=by simp;omega
   have hz:(q+1).toNat=Fx.rnd p 4294967296:=by
    have:=HQ.out;have:=HR.out;unfold Fx.rnd;rw [ipZ oZ];omega
   have Hz:=zI hz;clear hz h1;go_wp2_with fail;refine (qai (q+1) nb _ oZ oZ).mono ?_;rintro e w1 ⟨rfl,rfl⟩;go_wp2_with fail;go_ret;exact ⟨qaa (Hk.out _ oZ Hz.out),rfl⟩
  ·have d1:decide (2147483648<r)=false:=by simpa using h1
   by_cases h2:r=2147483648
   ·have d2:(r==2147483648)=true:=by simpa using h2
    by_cases h3:t=1
    ·have d3:(t==1)=true:=by simpa using h3
     have hz:(q+1).toNat=Fx.rnd p 4294967296:=by
      have:=HQ.out;have:=HR.out;have:=HT.out;unfold Fx.rnd;rw [ipZ oZ];omega
     have Hz:=zI hz;clear hz h1 h2 h3;go_wp2_with fail;refine (qai (q+1) nb _ oZ oZ).mono ?_;rintro e w1 ⟨rfl,rfl⟩;go_wp2_with fail;go_ret;exact ⟨qaa (Hk.out _ oZ Hz.out),rfl⟩
    ·have d3:(t==1)=false:=by simpa using h3
     have hz:q.toNat=Fx.rnd p 4294967296:=by
      have:=HQ.out;have:=HR.out;have:=HT.out;unfold Fx.rnd;rw [inZ oZ];omega
     have Hz:=zI hz;clear hz h1 h2 h3;go_wp2_with fail;refine (qai q nb _ oZ oZ).mono ?_;rintro e w1 ⟨rfl,rfl⟩;go_wp2_with fail;go_ret;exact ⟨qaa (Hk.out _ oZ Hz.out),rfl⟩
   ·have d2:(r==2147483648)=false:=by simpa using h2
    have hz:q.toNat=Fx.rnd p 4294967296:=by
     have:=HQ.out;have:=HR.out;have:=HT.out;unfold Fx.rnd;rw [inZ oZ];omega
    have Hz:=zI hz;clear hz h1 h2;go_wp2_with fail;refine (qai q nb _ oZ oZ).mono ?_;rintro e w1 ⟨rfl,rfl⟩;go_wp2_with fail;go_ret;exact ⟨qaa (Hk.out _ oZ Hz.out),rfl⟩
namespace Kd
def more (q r b v:Nat):Bool:=decide (4294967296<=q) || decide (4294967296*r+v<q*b)
section
variable {u v y a b q r:Nat}
theorem digit_lt (hv:v<4294967296) (hu:u<y):(u*4294967296+v) / y<4294967296:=by
 rw [Nat.div_lt_iff_lt_mul oZ];have:(u+1)*4294967296<=y*4294967296:=mlZ _ hu;rw [Nat.mul_comm 4294967296 y];omega
theorem qdo (hy:y=a*4294967296+b):q*y=q*a*4294967296+q*b:=by rw [hy,Nat.mul_add,Nat.mul_assoc]
theorem step (hy:y=a*4294967296+b) (hv:v<4294967296) (hu:u<y) (hq:u=q*a+r) (h:more q r b v=true):(u*4294967296+v) / y<q:=by
 simp only [more,Bool.or_eq_true,decide_eq_true_eq] at h
 by_cases h1:4294967296<=q
 ·exact ltZ (digit_lt hv hu) h1
 ·rw [Nat.div_lt_iff_lt_mul oZ,qdo hy]
  omega
theorem stop (hy:y=a*4294967296+b) (hq:u=q*a+r) (hy0:0<y) (h:more q r b v=false):q<=(u*4294967296+v) / y:=by
 simp only [more,Bool.or_eq_false_iff,decide_eq_false_iff_not] at h;rw [Nat.le_div_iff_mul_le hy0,qdo hy];omega
theorem stop_brk (hy:y=a*4294967296+b) (hq:u=q*a+r) (hy0:0<y) (hb:b<4294967296) (hq1:q<=4294967296) (hr:4294967296<=r):q<=(u*4294967296+v) / y:=by
 rw [Nat.le_div_iff_mul_le hy0,qdo hy];have h1:q*b<=4294967296*b:=mlZ _ hq1;omega
theorem first (ha:2147483648<=a) (hy:y=a*4294967296+b) (hb:b<4294967296) (hu:u<y):u / a<=4294967297:=by
 have:u / a<4294967298:=by
  rw [Nat.div_lt_iff_lt_mul oZ];omega
 omega
structure Inv (u v y a b q r:Nat):Prop where
 eq:u=q*a+r
 ge:(u*4294967296+v) / y<=q
 le:q<=4294967297
theorem Inv.start (ha:2147483648<=a) (hy:y=a*4294967296+b) (hb:b<4294967296) (hv:v<4294967296) (hu:u<y):Inv u v y a b (u / a) (u-u / a*a):=by
 have h0:=Nat.div_mul_le_self u a;refine ⟨by omega,?_,first ha hy hb hu⟩;rw [←Nat.lt_add_one_iff,Nat.div_lt_iff_lt_mul oZ];have h2:u<(u / a+1)*a:=by rw [←Nat.div_lt_iff_lt_mul oZ];omega
 have h3:(u / a+1)*y=(u / a+1)*a*4294967296+(u / a+1)*b:=qdo hy;rw [h3];generalize (u / a+1)*a=t at *;generalize (u / a+1)*b=t2 at *;omega
theorem Inv.next (h:Inv u v y a b q r) (hy:y=a*4294967296+b) (hv:v<4294967296) (hu:u<y) (hm:more q r b v=true):1<=q/\q-1<=4294967296/\Inv u v y a b (q-1) (r+a):=by
 have h1:=step hy hv hu h.eq hm;have h2:=h.le
 have h5:(u*4294967296+v) / y<=q-1:=by
  generalize (u*4294967296+v) / y=d at h1;omega
 have h6:1<=q:=Nat.lt_of_le_of_lt (Zt _) h1;clear h1
 have h3:q*a=(q-1)*a+a:=by
  obtain ⟨n,rfl⟩:∃n,q=n+1:=⟨q-1,by omega⟩
  rw [Nat.add_sub_cancel,Zu]
 have h4:=h.eq;exact ⟨h6,by omega,⟨by omega,h5,by omega⟩⟩
theorem Inv.done (h:Inv u v y a b q r) (hy:y=a*4294967296+b) (hy0:0<y) (hm:more q r b v=false):q=(u*4294967296+v) / y:=
 Nat.le_antisymm (stop hy h.eq hy0 hm) h.ge
theorem Inv.brk (h:Inv u v y a b q r) (hy:y=a*4294967296+b) (hy0:0<y) (hb:b<4294967296) (hq:q<=4294967296) (hr:4294967296<=r):q=(u*4294967296+v) / y:=
 Nat.le_antisymm (stop_brk hy h.eq hy0 hb hq hr) h.ge
end
theorem two0 {u v1 v0 y q1 r1:Nat} (hy:0<y) (h1:y*q1+r1=u*4294967296+v1):
  (u*18446744073709551616+v1*4294967296+v0) / y=q1*4294967296+(r1*4294967296+v0) / y/\(u*18446744073709551616+v1*4294967296+v0) % y=(r1*4294967296+v0) % y:=by
 have e:u*18446744073709551616+v1*4294967296+v0=y*(q1*4294967296)+(r1*4294967296+v0):=by
  rw [←Nat.mul_assoc];omega
 rw [e,Nat.mul_add_div hy,Nat.mul_add_mod];exact And.intro rfl rfl
theorem two {u v1 v0 y:Nat} (hy:0<y):
  (u*18446744073709551616+v1*4294967296+v0) / y=(u*4294967296+v1) / y*4294967296+((u*4294967296+v1) % y*4294967296+v0) / y/\
  (u*18446744073709551616+v1*4294967296+v0) % y=((u*4294967296+v1) % y*4294967296+v0) % y:=
 two0 hy (Nat.div_add_mod (u*4294967296+v1) y)
theorem shifted (n y s:Nat):n*2 ^ s / (y*2 ^ s)=n / y/\n*2 ^ s % (y*2 ^ s) / 2 ^ s=n % y:=by
 have hp:0<2 ^ s:=Nat.two_pow_pos s;refine ⟨Nat.mul_div_mul_right _ _ hp,?_⟩;rw [Nat.mul_mod_mul_right,Nat.mul_div_cancel _ hp]
theorem words {hi lo s:Nat} (hs:s<64) (hlo:lo<18446744073709551616):
  (hi*18446744073709551616+lo)*2 ^ s=(hi*2 ^ s+lo / 2 ^ (64-s))*18446744073709551616+lo*2 ^ s % 18446744073709551616:=by
 have e:(18446744073709551616:Nat)=2 ^ (64-s)*2 ^ s:=by rw [←Nat.pow_add,show 64-s+s=64 by omega]
 have hp:0<2 ^ s:=Nat.two_pow_pos s;have h1:lo*2 ^ s / 18446744073709551616=lo / 2 ^ (64-s):=by rw [e,Nat.mul_div_mul_right _ _ hp]
 have h2:=Nat.div_add_mod (lo*2 ^ s) 18446744073709551616;rw [h1] at h2;rw [Nat.add_mul,Nat.mul_right_comm];generalize hi*2 ^ s=x at *;generalize lo / 2 ^ (64-s)=z at *;omega
theorem low_lt {lo s:Nat} (hs:s<64) (hlo:lo<18446744073709551616):lo / 2 ^ (64-s)<2 ^ s:=by
 rw [Nat.div_lt_iff_lt_mul (Nat.two_pow_pos _),←Nat.pow_add,show s+(64-s)=64 by omega];exact hlo
theorem high_lt {hi lo y s:Nat} (hs:s<64) (hlo:lo<18446744073709551616) (h:hi<y):hi*2 ^ s+lo / 2 ^ (64-s)<y*2 ^ s:=by
 have h1:=low_lt hs hlo;have h2:(hi+1)*2 ^ s<=y*2 ^ s:=mlZ _ h;rw [Zu] at h2;omega
end Kd
structure Norm (hi lo y:Int) (s:Nat) (Y A B U V1 V0:Int):Prop where
 y0:0<=Y
 y1:Y<=18446744073709551615
 a0:2147483648<=A
 a1:A<=4294967295
 b0:0<=B
 b1:B<=4294967295
 yab:Y=A*4294967296+B
 u0:0<=U
 u1:U<Y
 v0:0<=V1
 v1:V1<=4294967295
 w0:0<=V0
 w1:V0<=4294967295
 num:(hi.toNat * 18446744073709551616+lo.toNat)*2 ^ s=U.toNat * 18446744073709551616+V1.toNat * 4294967296+V0.toNat
 den:Y.toNat=y.toNat * 2 ^ s
theorem qcA:∀(f x:Nat),x<2 ^ f->x<2 ^ Lib.bitLenAux f x/\(x≠0->1<=Lib.bitLenAux f x/\2 ^ (Lib.bitLenAux f x-1)<=x)
 | 0,x,h=>by simp at h;subst h;simp [Lib.bitLenAux]
 | f+1,x,h=>by
  unfold Lib.bitLenAux
  by_cases h0:x=0
  ·subst h0;simp
  ·rw [inZ h0]
   have h2:x / 2<2 ^ f:=by rw [Nat.pow_succ] at h;omega
   obtain ⟨a,b⟩:=qcA f (x / 2) h2;rw [Nat.add_comm,Nat.add_sub_cancel];refine ⟨by rw [Nat.pow_succ];omega,λ_=>⟨by omega,?_⟩⟩
   by_cases h1:x / 2=0
   ·rw [h1] at a
    have:Lib.bitLenAux f 0=0:=by cases f<;>simp [Lib.bitLenAux]
    rw [h1,this];simp;omega
   ·obtain ⟨b1,b2⟩:=b h1
    obtain ⟨m,hm⟩:∃m,Lib.bitLenAux f (x / 2)=m+1:=⟨_,(Nat.sub_add_cancel b1).symm⟩
    rw [hm,Nat.add_sub_cancel] at b2;rw [hm,Nat.pow_succ];omega
theorem qaT {y:Nat} (h0:1<=y) (h1:y<=18446744073709551615):Lib.bitLen y<=64/\1<=Lib.bitLen y/\9223372036854775808<=y*2 ^ (64-Lib.bitLen y)/\y*2 ^ (64-Lib.bitLen y)<=18446744073709551615:=by
 obtain ⟨a,b⟩:=qcA 64 y oZ;have b:=(b oZ).2
 change y<2 ^ Lib.bitLen y at a
 change 2 ^ (Lib.bitLen y-1)<=y at b
 have h2:Lib.bitLen y<=64:=by
  rcases Nat.lt_or_ge 64 (Lib.bitLen y) with h|h
  ·have:2 ^ 64<=2 ^ (Lib.bitLen y-1):=Nat.pow_le_pow_right oZ oZ
   omega
  ·exact h
 have h3:1<=Lib.bitLen y:=by
  rcases Nat.eq_zero_or_pos (Lib.bitLen y) with h|h
  ·rw [h] at a;simp at a;omega
  ·exact h
 generalize Lib.bitLen y=m at *;have e1:2 ^ (m-1)*2 ^ (64-m)=9223372036854775808:=by rw [←Nat.pow_add,show m-1+(64-m)=63 by omega]
 have e2:2 ^ m*2 ^ (64-m)=18446744073709551616:=by rw [←Nat.pow_add,show m+(64-m)=64 by omega]
 have c1:2 ^ (m-1)*2 ^ (64-m)<=y*2 ^ (64-m):=mlZ _ b;have c2:y*2 ^ (64-m)<2 ^ m*2 ^ (64-m):=Nat.mul_lt_mul_of_pos_right a (Nat.two_pow_pos _);rw [e1] at c1;rw [e2] at c2;exact ⟨h2,h3,c1,by omega⟩
theorem qg7 (a:Nat):IntKind.u64.wrap (a:Int)=((a % 18446744073709551616:Nat):Int):=by rw [IntKind.wrap_u64];omega
theorem qg8 (a:Nat) (ha:a<18446744073709551616):bits .and .u64 (a:Int) 4294967295=((a % 4294967296:Nat):Int):=by
 have h:=qeS a;rw [Nat.mod_eq_of_lt ha] at h;exact h
theorem qeT (n:Nat):(2:Int) ^ n=((2 ^ n:Nat):Int):=by simp
theorem norm_end {h l d k:Nat} {A B U V1 V0:Int} {yy uu ll:Nat} (w2:uu<yy) (w3:(h*18446744073709551616+l)*2 ^ k=uu*18446744073709551616+ll) (hl:ll<18446744073709551616) (m2:9223372036854775808<=yy) (m3:yy<=18446744073709551615)
  (hA:(yy:Int) / 4294967296=A) (hB:((yy % 4294967296:Nat):Int)=B) (hU:((uu:Nat):Int)=U) (hV1:(ll:Int) / 4294967296=V1) (hV0:((ll % 4294967296:Nat):Int)=V0) (hd:yy=d*2 ^ k):
  Norm h l d k yy A B U V1 V0:=by
 subst hA hB hU hV1 hV0;refine ⟨by omega,by omega,by omega,by omega,by omega,by omega,by omega,by omega,by omega,by omega,by omega,by omega,by omega,?_,?_⟩
 ·simp only [tnZ]
  rw [w3];omega
 ·simpa using hd
theorem norm (hi lo y s:Int) (Y A B U L V1 V0:Int) (h0:0<=hi) (h1:hi<y) (h2:y<=18446744073709551615) (l0:0<=lo) (l1:lo<=18446744073709551615) (hs:s=64-(Lib.bitLen y.toNat:Int))
  (hY:IntKind.u64.wrap (y*2 ^ s.toNat)=Y) (hA:Y / 4294967296=A) (hB:bits .and .u64 Y 4294967295=B)
  (hU:bits .or .u64 (IntKind.u64.wrap (hi*2 ^ s.toNat)) (lo / 2 ^ (64-s).toNat)=U) (hL:IntKind.u64.wrap (lo*2 ^ s.toNat)=L) (hV1:L / 4294967296=V1) (hV0:bits .and .u64 L 4294967295=V0):
  Norm hi lo y s.toNat Y A B U V1 V0:=by
 obtain ⟨h,rfl⟩:=ezZ h0;obtain ⟨l,rfl⟩:=ezZ l0;obtain ⟨d,rfl⟩:=ezZ (show 0<=y by omega);obtain ⟨m0,m1,m2,m3⟩:=qaT (y:=d) oZ oZ;rw [tnZ] at hs;obtain ⟨k,hk⟩:∃k,k=64-Lib.bitLen d:=⟨_,rfl⟩
 have hb:s.toNat=k:=by omega
 have hd:(64-s).toNat=64-k:=by omega
 have hc:k<64:=by omega
 rw [←hk] at m2 m3;rw [hb] at hY hU hL;rw [hd] at hU;rw [hb];clear hs hk hb hd m0 m1;have ha:l<18446744073709551616:=by omega
 have he:h<d:=by omega
 have w1:=Kd.low_lt (lo:=l) hc ha;have w2:=Kd.high_lt (hi:=h) (lo:=l) (y:=d) hc ha he;have w3:=Kd.words (hi:=h) hc ha;simp only [qeT,←Int.natCast_mul,←Int.natCast_ediv] at hY hU hL;rw [qg7] at hY hU hL
 have hh:h*2 ^ k<18446744073709551616:=by
  generalize l / 2 ^ (64-k)=z at w2;generalize h*2 ^ k=z2 at *;generalize d*2 ^ k=z3 at *;omega
 rw [Nat.mod_eq_of_lt oZ] at hY;rw [Nat.mod_eq_of_lt hh,bits_or_u64_nat _ _ hh oZ,or_mul _ _ k (2 ^ k) rfl w1] at hU;subst hY hL;rw [qg8 _ oZ] at hB hV0;exact norm_end w2 w3 (Nat.mod_lt _ dZ) m2 m3 hA hB hU hV1 hV0 rfl
def DRel (U V Y A B:Int) (q r:Int):Prop:=0<=q/\q<=4294967297/\0<=r/\r<=4294967295/\Kd.Inv U.toNat V.toNat Y.toNat A.toNat B.toNat q.toNat r.toNat
structure DOk (U V Y A B:Int):Prop where
 y0:0<=Y
 a0:2147483648<=A
 a1:A<=4294967295
 b0:0<=B
 b1:B<=4294967295
 yab:Y.toNat=A.toNat * 4294967296+B.toNat
 u0:0<=U
 u1:U<Y
 v0:0<=V
 v1:V<=4294967295
def digit (U V Y:Int):Int:=(((U.toNat * 4294967296+V.toNat) / Y.toNat:Nat):Int)
def drest (U V Y:Int):Int:=(((U.toNat * 4294967296+V.toNat) % Y.toNat:Nat):Int)
section
variable {U V Y A B q r:Int}
theorem qcB (h:DOk U V Y A B):0<=U / A*A/\U / A*A<=U/\0<=U / A/\U / A<=4294967297/\DRel U V Y A B (U / A) (U-U / A*A):=by
 obtain ⟨y0,a0,a1,b0,b1,yab,u0,u1,v0,v1⟩:=h;obtain ⟨u,rfl⟩:=ezZ u0;obtain ⟨a,rfl⟩:=ezZ (show 0<=A by omega);have e:(u:Int) / (a:Int)=((u / a:Nat):Int):=by simp
 have e2:((u / a:Nat):Int)*(a:Int)=((u / a*a:Nat):Int):=by simp
 have h0:=Nat.div_mul_le_self u a;have hi:=Kd.Inv.start (u:=u) (v:=V.toNat) (y:=Y.toNat) (a:=a) (b:=B.toNat) oZ (by simpa using yab) oZ oZ oZ;have h1:=hi.le;have h2:=Nat.mod_lt u (show 0<a by omega);have h3:=Nat.div_add_mod u a;rw [Nat.mul_comm] at h3;rw [e,e2];unfold DRel;have e3:((u:Int)-((u / a*a:Nat):Int)).toNat=u-u / a*a:=by omega
 rw [e3];simp only [tnZ];generalize u / a*a=x at *;generalize u / a=z at *;exact ⟨by omega,by omega,by omega,by omega,by omega,by omega,by omega,by omega,hi⟩
theorem qd0 (hq:0<=q) (hq1:q<=4294967295) (hB:0<=B) (hB1:B<=4294967295):0<=q*B/\q*B<=18446744065119617025:=by
 refine ⟨Int.mul_nonneg hq hB,?_⟩;have:=Int.mul_le_mul hq1 hB1 hB oZ;omega
theorem qg9 (hr0:0<=r) (hq0:0<=q) (hv0:0<=V) (hB:0<=B):Kd.more q.toNat r.toNat B.toNat V.toNat=(decide (4294967296<=q) || decide (4294967296*r+V<q*B)):=by
 obtain ⟨q,rfl⟩:=ezZ hq0;obtain ⟨r,rfl⟩:=ezZ hr0;obtain ⟨V,rfl⟩:=ezZ hv0;obtain ⟨B,rfl⟩:=ezZ hB;have e2:(q:Int)*(B:Int)=((q*B:Nat):Int):=by simp
 unfold Kd.more;rw [e2];simp only [tnZ];rw [Bool.eq_iff_iff];simp only [Bool.or_eq_true,decide_eq_true_eq];omega
theorem qbs (h:DOk U V Y A B) (hd:DRel U V Y A B q r) (hm:(decide (4294967296<=q) || decide (4294967296*r+V<q*B))=true):
  1<=q/\(r+A<4294967296->DRel U V Y A B (q-1) (r+A))/\(4294967296<=r+A->q-1=digit U V Y):=by
 obtain ⟨y0,a0,a1,b0,b1,yab,u0,u1,v0,v1⟩:=h;obtain ⟨d0,d1,d2,d3,d4⟩:=hd;rw [←qg9 d2 d0 v0 b0] at hm;obtain ⟨k1,k2,k3⟩:=d4.next yab oZ oZ hm;have e1:(q-1).toNat=q.toNat-1:=by omega
 have e2:(r+A).toNat=r.toNat+A.toNat:=by omega
 refine ⟨by omega,λhr=>⟨by omega,by omega,by omega,by omega,by rw [e1,e2];exact k3⟩,λhr=>?_⟩;have:=k3.brk yab oZ oZ oZ oZ;unfold digit;omega
theorem qd1 (h:DOk U V Y A B) (hd:DRel U V Y A B q r) (hm:(decide (4294967296<=q) || decide (4294967296*r+V<q*B))=false):q=digit U V Y:=by
 obtain ⟨y0,a0,a1,b0,b1,yab,u0,u1,v0,v1⟩:=h;obtain ⟨d0,d1,d2,d3,d4⟩:=hd;rw [←qg9 d2 d0 v0 b0] at hm;have:=d4.done yab oZ hm;unfold digit;omega
theorem qdp (h:DOk U V Y A B):0<=digit U V Y/\digit U V Y<=4294967295/\0<=drest U V Y/\drest U V Y<Y:=by
 obtain ⟨y0,a0,a1,b0,b1,yab,u0,u1,v0,v1⟩:=h;have h1:=Kd.digit_lt (u:=U.toNat) (v:=V.toNat) (y:=Y.toNat) oZ oZ;have h2:=Nat.mod_lt (U.toNat * 4294967296+V.toNat) (show 0<Y.toNat by omega);unfold digit drest;generalize (U.toNat * 4294967296+V.toNat) / Y.toNat=x at *;generalize (U.toNat * 4294967296+V.toNat) % Y.toNat=z at *;omega
theorem qd2 (h:DOk U V Y A B):IntKind.u64.wrap (IntKind.u64.wrap (IntKind.u64.wrap (U*4294967296)+V)-IntKind.u64.wrap (digit U V Y*Y))=drest U V Y:=by
 have hb:=qdp h;obtain ⟨y0,a0,a1,b0,b1,yab,u0,u1,v0,v1⟩:=h;have h1:=Nat.div_add_mod (U.toNat * 4294967296+V.toNat) Y.toNat
 have e:digit U V Y*Y=((Y.toNat * ((U.toNat * 4294967296+V.toNat) / Y.toNat):Nat):Int):=by
  unfold digit;rw [Int.natCast_mul,Int.mul_comm,Int.toNat_of_nonneg y0]
 rw [e];unfold drest at *;generalize (U.toNat * 4294967296+V.toNat) % Y.toNat=z at *;generalize Y.toNat * ((U.toNat * 4294967296+V.toNat) / Y.toNat)=x at *;simp only [IntKind.wrap_u64];omega
end
theorem nat_two {m q1 q0:Nat} (h:m=q1*4294967296+q0):(q1:Int)*4294967296+(q0:Int)=(m:Int):=by omega
theorem nat_shr {m r s:Nat} (h:r / 2 ^ s=m):(r:Int) / 2 ^ s=(m:Int):=by rw [←h,qeT];exact (Int.natCast_ediv _ _).symm
theorem div_nat {n y s Y u v1 v0:Nat} (h1:n*2 ^ s=u*18446744073709551616+v1*4294967296+v0) (h2:Y=y*2 ^ s) (hY:0<Y):
  n / y=(u*4294967296+v1) / Y*4294967296+((u*4294967296+v1) % Y*4294967296+v0) / Y/\((u*4294967296+v1) % Y*4294967296+v0) % Y / 2 ^ s=n % y:=by
 obtain ⟨a,b⟩:=Kd.shifted n y s;obtain ⟨c,d⟩:=Kd.two (u:=u) (v1:=v1) (v0:=v0) hY;rw [←h1] at c d;rw [←h2] at a b;exact ⟨a.symm.trans c,by rw [←d];exact b⟩
theorem div_end {hi lo y:Int} {s:Nat} {Y A B U V1 V0:Int} (n:Norm hi lo y s Y A B U V1 V0):
  digit U V1 Y*4294967296+digit (drest U V1 Y) V0 Y=(((hi.toNat * 18446744073709551616+lo.toNat) / y.toNat:Nat):Int)/\drest (drest U V1 Y) V0 Y / 2 ^ s=(((hi.toNat * 18446744073709551616+lo.toNat) % y.toNat:Nat):Int):=by
 have hY:0<Y.toNat:=by have:=n.u0;have:=n.u1;omega
 obtain ⟨a,b⟩:=div_nat n.num n.den hY;have e:(drest U V1 Y).toNat=(U.toNat * 4294967296+V1.toNat) % Y.toNat:=tnZ _;rw [←e] at a b;exact ⟨nat_two a,nat_shr b⟩
theorem qet {a b a' b':Int} (h1:a=a') (h2:b=b'):Ending.returned (.tuple #[.int .u64 a,.int .u64 b])=.returned (.tuple #[.int .u64 a',.int .u64 b']):=by rw [h1,h2]
set_option maxRecDepth 20000 in
theorem qfe (lo y:Int) (w:Zp1) (y1:1<=y) (h2:y<=18446744073709551615) (l0:0<=lo) (l1:lo<=18446744073709551615):
  Calls Tryz.prog 116 #[.int .u64 0,.int .u64 lo,.int .u64 y] w λe w'=>e=.returned (.tuple #[.int .u64 (lo / y),.int .u64 (lo % y)])/\∃n,w'=w.drewN n:=by
 have h1:0<y:=by omega
 go_enter Tryz.func116,Tryz.ntmps116;go_wp2_with fail
 go_quiet (fail)
 go_wp2_with fail
 go_ret2
 exact ⟨qet rfl rfl,nq,rfl⟩
set_option maxRecDepth 20000 in
theorem qga (hi lo y q z:Int) (w:Zp1) (h0:0<=hi) (hp:1<=hi) (h1:hi<y) (h2:y<=18446744073709551615) (l0:0<=lo) (l1:lo<=18446744073709551615)
  (hq:(((hi.toNat * 18446744073709551616+lo.toNat) / y.toNat:Nat):Int)=q) (hz:(((hi.toNat * 18446744073709551616+lo.toNat) % y.toNat:Nat):Int)=z):
  Calls Tryz.prog 116 #[.int .u64 hi,.int .u64 lo,.int .u64 y] w λe w'=>e=.returned (.tuple #[.int .u64 q,.int .u64 z])/\w=w':=by
 have y1:1<=y:=by omega
 obtain ⟨HQ,HZ⟩:=zd2 hq hz;clear hq hz;have d1:(hi==0)=false:=by simp;omega
 go_enter Tryz.func116,Tryz.ntmps116;go_wp2_with fail;refine (Tryz.bits_LeadingZeros64 y _ oZ oZ).mono ?_;rintro e w1 ⟨rfl,hl⟩;subst hl;obtain ⟨s,hs⟩:∃s:Int,s=64-(Lib.bitLen y.toNat:Int):=⟨_,rfl⟩
 rw [←hs];obtain ⟨m0,m1,_,_⟩:=qaT (y:=y.toNat) oZ oZ;have s0:0<=s:=by omega
 have s1:s<=63:=by omega
 have HS:=zI hs;clear hs m0 m1;go_upto_region 15 with fail;generalize hY:IntKind.u64.wrap (y*2 ^ s.toNat)=Y;generalize hA:Y / 4294967296=A;generalize hB:bits .and .u64 Y 4294967295=B;generalize hU:bits .or .u64 (IntKind.u64.wrap (hi*2 ^ s.toNat)) (lo / 2 ^ (64-s).toNat)=U;generalize hL:IntKind.u64.wrap (lo*2 ^ s.toNat)=L;generalize hV1:L / 4294967296=V1;generalize hV0:bits .and .u64 L 4294967295=V0;have N:=zI (norm hi lo y s Y A B U L V1 V0 h0 h1 h2 l0 l1 HS.out hY hA hB hU hL hV1 hV0);generalize IntKind.u64.wrap (hi*2 ^ s.toNat)=junk1;generalize lo / 2 ^ (64-s).toNat=junk2;clear hY hA hB hU hL hV1 hV0;obtain ⟨n1,n2,n3,n4,n5,n6,n14,n7,n8,n9,n10,n11,n12,n15,n16⟩:=N.out;have hh:DOk U V1 Y A B:=⟨n1,n3,n4,n5,n6,by omega,n7,n8,n9,n10⟩
 have n13:U<=18446744073709551614:=by omega
 have hf:=zI hh;obtain ⟨g1,g2,g3,g4,g5⟩:=qcB hh;obtain ⟨g6,g7,g8,g9⟩:=qdp hh;obtain ⟨hg,H0⟩:=zd2 g5 h0;clear n14 n15 n16 hh g5;have t1:0<=U-U / A*A:=by omega
 go_upto_block 0 with fail
 go_cut [15] (λq wx=>w1=wx/\q=.int .u64 (digit U V1 Y))
 case first=>
  go_wp2_with fail
  go_loop [15,16] (λqv rv=>∃q r:Int,qv=.int .u64 q/\rv=.int .u64 r/\DRel U V1 Y A B q r) (λqv _=>(intOf qv).toNat)
  case atStart=>exact ⟨_,_,rfl,rfl,hg.out⟩
  case round=>
   obtain ⟨q,r,rfl,rfl,hd⟩:=hrel;obtain ⟨d0,d1,d2,d3,_⟩:=id hd;have HD:=zI hd;clear hd g1 g2 g3 g4 g6 g7 g8 g9
   by_cases hq:4294967296<=q
   ·have hm:(decide (4294967296<=q) || decide (4294967296*r+V1<q*B))=true:=by simp [hq]
    obtain ⟨k1,k2,k3⟩:=qbs hf.out HD.out hm;obtain ⟨K2,K3⟩:=zd2 k2 k3;clear hm k2 k3
    by_cases hr:r+A<4294967296
    ·go_wp2_with fail
     go_round
     case rel=>exact ⟨q-1,r+A,rfl,rfl,K2.out hr⟩
     case measure=>simp [intOf];omega
    ·have hb:4294967296<=r+A:=by omega
     go_wp2_with fail
     go_meet
     exact ⟨rfl,by rw [K3.out hb]⟩
   ·have hj:q<=4294967295:=by omega
    obtain ⟨p0,p1⟩:=qd0 d0 hj n5 n6
    by_cases hc:4294967296*r+V1<q*B
    ·have hm:(decide (4294967296<=q) || decide (4294967296*r+V1<q*B))=true:=by simp [hc]
     obtain ⟨k1,k2,k3⟩:=qbs hf.out HD.out hm;obtain ⟨K2,K3⟩:=zd2 k2 k3;clear hm k2 k3
     by_cases hr:r+A<4294967296
     ·go_wp2_with fail
      go_round
      case rel=>exact ⟨q-1,r+A,rfl,rfl,K2.out hr⟩
      case measure=>simp [intOf];omega
     ·have hb:4294967296<=r+A:=by omega
      go_wp2_with fail
      go_meet
      exact ⟨rfl,by rw [K3.out hb]⟩
    ·have hm:(decide (4294967296<=q) || decide (4294967296*r+V1<q*B))=false:=by simp [hc];omega
     have K3:=zI (qd1 hf.out HD.out hm);clear hm;go_wp2_with fail
     go_meet
     exact ⟨rfl,by rw [←K3.out]⟩
 case rest=>
  obtain ⟨rfl,rfl⟩:=hcut;clear g1 g2 g3 g4 t1 hg;have HR:=zI (qd2 hf.out);obtain ⟨e1,e2⟩:=div_end N.out;rw [HQ.out] at e1;rw [HZ.out] at e2;obtain ⟨E1,E2⟩:=zd2 e1 e2
  have ha:DOk (drest U V1 Y) V0 Y A B:=by
   obtain ⟨a0,a1,a2,a3,a4,a5,a6,a7,a8,a9⟩:=hf.out;exact ⟨a0,a1,a2,a3,a4,a5,g8,g9,n11,n12⟩
  have hk:=zI (qd2 ha);obtain ⟨p1,p2,p3,p4,p5⟩:=qcB ha;obtain ⟨p6,p7,p8,p9⟩:=qdp ha;obtain ⟨hg,he⟩:=zd2 p5 ha;clear e1 e2 ha p5 N hf n7 n8 n13 H0;generalize digit U V1 Y=Q1 at *;go_upto_region 22 with fail;rw [HR.out];generalize drest U V1 Y=R at *;generalize IntKind.u64.wrap (Q1*Y)=junk3;generalize IntKind.u64.wrap (U*4294967296)=junk4;generalize IntKind.u64.wrap (junk4+V1)=junk5;have t1:0<=R-R / A*A:=by omega
  have t2:R<=18446744073709551614:=by omega
  go_upto_block 2 with fail
  go_cut [18] (λq wx=>w1=wx/\q=.int .u64 (digit R V0 Y))
  case first=>
   go_wp2_with fail
   go_loop [18,16] (λqv rv=>∃q r:Int,qv=.int .u64 q/\rv=.int .u64 r/\DRel R V0 Y A B q r) (λqv _=>(intOf qv).toNat)
   case atStart=>exact ⟨_,_,rfl,rfl,hg.out⟩
   case round=>
    obtain ⟨q,r,rfl,rfl,hd⟩:=hrel;obtain ⟨d0,d1,d2,d3,_⟩:=id hd;have HD:=zI hd;clear hd p1 p2 p3 p4 p6 p7 p8 p9
    by_cases hq:4294967296<=q
    ·have hm:(decide (4294967296<=q) || decide (4294967296*r+V0<q*B))=true:=by simp [hq]
     obtain ⟨k1,k2,k3⟩:=qbs he.out HD.out hm;obtain ⟨K2,K3⟩:=zd2 k2 k3;clear hm k2 k3
     by_cases hr:r+A<4294967296
     ·go_wp2_with fail
      go_round
      case rel=>exact ⟨q-1,r+A,rfl,rfl,K2.out hr⟩
      case measure=>simp [intOf];omega
     ·have hb:4294967296<=r+A:=by omega
      go_wp2_with fail
      go_meet
      exact ⟨rfl,by rw [K3.out hb]⟩
    ·have hj:q<=4294967295:=by omega
     obtain ⟨z0,z1⟩:=qd0 d0 hj n5 n6
     by_cases hc:4294967296*r+V0<q*B
     ·have hm:(decide (4294967296<=q) || decide (4294967296*r+V0<q*B))=true:=by simp [hc]
      obtain ⟨k1,k2,k3⟩:=qbs he.out HD.out hm;obtain ⟨K2,K3⟩:=zd2 k2 k3;clear hm k2 k3
      by_cases hr:r+A<4294967296
      ·go_wp2_with fail
       go_round
       case rel=>exact ⟨q-1,r+A,rfl,rfl,K2.out hr⟩
       case measure=>simp [intOf];omega
      ·have hb:4294967296<=r+A:=by omega
       go_wp2_with fail
       go_meet
       exact ⟨rfl,by rw [K3.out hb]⟩
     ·have hm:(decide (4294967296<=q) || decide (4294967296*r+V0<q*B))=false:=by simp [hc];omega
      have K3:=zI (qd1 he.out HD.out hm);clear hm;go_wp2_with fail
      go_meet
      exact ⟨rfl,by rw [←K3.out]⟩
  case rest=>
   obtain ⟨rfl,rfl⟩:=hcut;clear p1 p2 p3 p4 t1 hg;generalize digit R V0 Y=Q0 at *;go_wp2_with fail;rw [hk.out]
   go_ret2
   exact ⟨qet E1.out E2.out,rfl⟩
theorem div64 (hi lo y q z:Int) (w:Zp1) (h0:0<=hi) (h1:hi<y) (h2:y<=18446744073709551615) (l0:0<=lo) (l1:lo<=18446744073709551615)
  (hq:(((hi.toNat * 18446744073709551616+lo.toNat) / y.toNat:Nat):Int)=q) (hz:(((hi.toNat * 18446744073709551616+lo.toNat) % y.toNat:Nat):Int)=z):
  Calls Tryz.prog 116 #[.int .u64 hi,.int .u64 lo,.int .u64 y] w λe w'=>e=.returned (.tuple #[.int .u64 q,.int .u64 z])/\∃n,w'=w.drewN n:=by
 by_cases hp:hi=0
 ·subst hp
  rw [Int.toNat_zero,Nat.zero_mul,Zw] at hq hz;rw [Int.natCast_ediv,Int.toNat_of_nonneg l0,Int.toNat_of_nonneg (show 0<=y by omega)] at hq;rw [Int.natCast_emod,Int.toNat_of_nonneg l0,Int.toNat_of_nonneg (show 0<=y by omega)] at hz;refine (qfe lo y w oZ h2 l0 l1).mono ?_;rintro e w' ⟨rfl,h⟩;exact ⟨qet hq hz,h⟩
 ·refine (qga hi lo y q z w h0 oZ h1 h2 l0 l1 hq hz).mono ?_
  rintro e w' ⟨rfl,rfl⟩;exact ⟨rfl,0,rfl⟩
theorem div_over {a b:Nat} (hb:1<=b) (h:b<=a / 4294967296):9223372036854775808<=Fx.rnd (a*4294967296) b:=by
 have h1:9223372036854775808<=a*4294967296 / b:=by
  rw [Nat.le_div_iff_mul_le oZ];omega
 unfold Fx.rnd
 split<;>omega
theorem rnd_ge {p b:Nat} (h:9223372036854775808<=p / b):9223372036854775808<=Fx.rnd p b:=by
 unfold Fx.rnd
 split<;>omega
set_option maxRecDepth 20000 in
theorem qgb (x y:Int) (w:Zp1) (hx:Fx.In x) (hy:Fx.In y):Calls Tryz.prog 61 #[.int .i64 x,.int .i64 y] w λe w'=>e=.returned (.int .i64 (Fx.div x y))/\∃n,w'=w.drewN n:=by
 by_cases hc:y=0
 ·subst hc
  by_cases hd:x=0
  ·subst hd
   go_enter Tryz.func61,Tryz.ntmps61;go_wp2_with fail;go_ret;exact ⟨rfl,0,rfl⟩
  ·have d:(x==0)=false:=by simpa using hd
   have HE:=zI (show Fx.edge (decide (x<0))=Fx.div x 0 by unfold Fx.div;rw [ipZ rfl,inZ hd]);clear hd hx hy;go_enter Tryz.func61,Tryz.ntmps61;go_wp2_with fail;refine (qbr _ _).mono ?_;rintro e w1 ⟨rfl,rfl⟩;go_wp2_with fail;go_ret;exact ⟨qaa HE.out,0,rfl⟩
 ·have d:(y==0)=false:=by simpa using hc
  have HD:=zI (show Fx.clamp (Fx.sgn (Fx.neg2 x y) (Fx.rnd (x.natAbs*4294967296) y.natAbs))=Fx.div x y by unfold Fx.div;rw [inZ hc]);have hh:1<=y.natAbs:=by omega
  have hf:=qbf hy;have hl:=qbf hx;obtain ⟨HX,HY,hk,hg,hj⟩:=zd5 hx hy hh hf hl;clear hx hy hc hh hf hl;go_enter Tryz.func61,Tryz.ntmps61;go_wp2_with fail;generalize hN:(!(decide (x<0)==decide (y<0)))=nb;rw [show Fx.neg2 x y=nb from hN] at HD;clear hN;refine (qcp x _ HX.out).mono ?_;rintro e w1 ⟨rfl,rfl⟩;go_wp2_with fail;refine (qcp y _ HY.out).mono ?_;rintro e w1 ⟨rfl,rfl⟩;obtain ⟨a,ha⟩:∃a:Int,a=(x.natAbs:Int):=⟨_,rfl⟩
  obtain ⟨b,hb⟩:∃b:Int,b=(y.natAbs:Int):=⟨_,rfl⟩
  have a0:0<=a:=by omega
  have b1:1<=b:=by have:=hk.out;omega
  have a2:a<=9223372036854775808:=by have:=hj.out;omega
  have b2:b<=9223372036854775808:=by have:=hg.out;omega
  have ea:x.natAbs=a.toNat:=by omega
  have eb:y.natAbs=b.toNat:=by omega
  rw [ea,eb] at HD;rw [←ha,←hb];clear ha hb ea eb hk hg hj;go_upto_region 8 with fail;generalize hhi:a / 4294967296=hi;generalize hlo:IntKind.u64.wrap (a*4294967296)=lo;have h0:0<=hi:=by omega
  have h1:hi<=2147483648:=by omega
  have l0:0<=lo:=by rw [IntKind.wrap_u64] at hlo;omega
  have l1:lo<=18446744073709551615:=by rw [IntKind.wrap_u64] at hlo;omega
  obtain ⟨HH,HL⟩:=zd2 hhi hlo;clear hhi hlo
  by_cases hs:b<=hi
  ·have HE:RowKit.Hid (Fx.edge nb=Fx.div x y):=by
    rw [←HD.out];have:=HH.out;exact (Fx.clamp_sgn_big (div_over oZ oZ)).symm
   go_wp2_with fail;refine (qbr _ _).mono ?_;rintro e w1 ⟨rfl,rfl⟩;go_wp2_with fail;go_ret;exact ⟨qaa HE.out,0,rfl⟩
  ·have hm:hi<b:=by omega
   have hp:hi.toNat * 18446744073709551616+lo.toNat=a.toNat * 4294967296:=by
    have h5:=HH.out;have h6:=HL.out;rw [IntKind.wrap_u64] at h6;omega
   have HP:=zI hp;clear hp;obtain ⟨q,hq⟩:∃q:Int,q=((a.toNat * 4294967296 / b.toNat:Nat):Int):=⟨_,rfl⟩
   obtain ⟨z,hz⟩:∃z:Int,z=((a.toNat * 4294967296 % b.toNat:Nat):Int):=⟨_,rfl⟩
   have q0:0<=q:=by rw [hq];exact Int.natCast_nonneg _
   have q1:q<=18446744073709551615:=by
    have h3:a.toNat * 4294967296 / b.toNat<18446744073709551616:=by
     rw [Nat.div_lt_iff_lt_mul oZ];have:=HH.out;omega
    rw [hq];generalize a.toNat * 4294967296 / b.toNat=m at *;omega
   have z0:0<=z:=by rw [hz];exact Int.natCast_nonneg _
   have z1:z<b:=by
    have h3:=Nat.mod_lt (a.toNat * 4294967296) (show 0<b.toNat by omega);rw [hz];generalize a.toNat * 4294967296 % b.toNat=m at *;omega
   obtain ⟨HQ,HZ⟩:=zd2 hq hz;clear hq hz;have HA:RowKit.Hid (∀n:Int,n.toNat=Fx.rnd (a.toNat * 4294967296) b.toNat->Fx.clamp (Fx.sgn nb n.toNat)=Fx.div x y):=λn hn=>by rw [hn];exact HD.out
   have odd:bits .and .u64 q 1=q % 2:=by
    obtain ⟨n,rfl⟩:=ezZ q0;rw [qg6 n oZ];omega
   go_wp2_with fail;refine (div64 hi lo b q z _ h0 hm oZ l0 l1 (by rw [HP.out];exact HQ.out.symm) (by rw [HP.out];exact HZ.out.symm)).mono ?_;rintro e w1 ⟨rfl,n,rfl⟩
   by_cases he:9223372036854775808<=q
   ·have HE:RowKit.Hid (Fx.edge nb=Fx.div x y):=by
     rw [←HD.out];have:=HQ.out;refine (Fx.clamp_sgn_big (rnd_ge ?_)).symm;generalize a.toNat * 4294967296 / b.toNat=m at *;omega
    go_wp2_with fail;refine (qbr _ _).mono ?_;rintro e w1 ⟨rfl,rfl⟩;go_wp2_with fail;go_ret;exact ⟨qaa HE.out,n,rfl⟩
   ·have ho:q<=9223372036854775807:=by omega
    clear he q1
    have hr:Fx.rnd (a.toNat * 4294967296) b.toNat=if b.toNat<2*z.toNat∨(2*z.toNat=b.toNat/\q.toNat % 2=1) then q.toNat+1 else q.toNat:=by
     unfold Fx.rnd;rw [HQ.out,HZ.out,tnZ,tnZ]
    have HR:=zI hr;clear hr
    by_cases c1:b-z<z
    ·have hz:(q+1).toNat=Fx.rnd (a.toNat * 4294967296) b.toNat:=by rw [HR.out,ipZ oZ];omega
     have Hz:=zI hz;clear hz;go_wp2_with fail;refine (qai (q+1) nb _ oZ oZ).mono ?_;rintro e w1 ⟨rfl,rfl⟩;go_wp2_with fail;go_ret;exact ⟨qaa (HA.out _ Hz.out),n,rfl⟩
    ·by_cases c2:z=b-z
     ·have d2:(z==b-z)=true:=by simpa using c2
      have c3:2*z=b:=by omega
      by_cases c4:q % 2=1
      ·have d3:(q % 2==1)=true:=by simpa using c4
       have hz:(q+1).toNat=Fx.rnd (a.toNat * 4294967296) b.toNat:=by rw [HR.out,ipZ oZ];omega
       have Hz:=zI hz;clear hz c2 c3 c4;go_wp2_with fail;refine (qai (q+1) nb _ oZ oZ).mono ?_;rintro e w1 ⟨rfl,rfl⟩;go_wp2_with fail;go_ret;exact ⟨qaa (HA.out _ Hz.out),n,rfl⟩
      ·have d3:(q % 2==1)=false:=by simpa using c4
       have hz:q.toNat=Fx.rnd (a.toNat * 4294967296) b.toNat:=by rw [HR.out,inZ oZ]
       have Hz:=zI hz;clear hz c2 c3 c4;go_wp2_with fail;refine (qai q nb _ oZ oZ).mono ?_;rintro e w1 ⟨rfl,rfl⟩;go_wp2_with fail;go_ret;exact ⟨qaa (HA.out _ Hz.out),n,rfl⟩
     ·have d2:(z==b-z)=false:=by simpa using c2
      have hz:q.toNat=Fx.rnd (a.toNat * 4294967296) b.toNat:=by rw [HR.out,inZ oZ]
      have Hz:=zI hz;clear hz c2;go_wp2_with fail;refine (qai q nb _ oZ oZ).mono ?_;rintro e w1 ⟨rfl,rfl⟩;go_wp2_with fail;go_ret;exact ⟨qaa (HA.out _ Hz.out),n,rfl⟩
open Go.ChangeShapes Go.WideShapes Go.Deep Go.RowKit
section
variable {H:Type} {enc:TypeId × Value->H} {P:Program} {w:Zp1} {base:Nat} {spare:Nat->Bool} {held:Bool}
end
theorem qgc {w:Zp1} {a:Addr} {v:Value} (h:w.cell? (a.add 0)=some v):∃b off,a=⟨b,off,none⟩:=by
 obtain ⟨b,off,spot⟩:=a;have hs:spot=none:=by simpa [Addr.add] using World.cell?_spot h
 subst hs;exact ⟨b,off,rfl⟩
theorem qc6 (b off j:Nat):(⟨b,off,none⟩:Addr).add j=⟨b,off+j,none⟩:=by
 unfold Addr.add;split<;>simp_all
section
variable {H:Type} {enc:TypeId × Value->H} {P:Program} {w:Zp1} {base:Nat} {spare:Nat->Bool} {held:Bool}
theorem qdZ {t e:TypeId} {k:IntKind} {fuel:Nat} {v:Value} {x:DataW H × List MemPlace} (ht:P.underlying t=some (.slice e)) (he:P.underlying e=some (.int k)) (hc:P.cellsOf e=1) (h:DataW.trod enc P w base spare held fuel t [v]=some x):
  ∃A cap zs,v=.slice A zs.length cap/\zs.length<=9223372036854775807/\zs.length<=cap/\Ints k w A zs/\∀n∈zs,(Lit.int k n).wf=true:=by
 rcases open_ints ht he hc h with ⟨hb,_⟩|⟨a,len,cap,zs,hb,_,hl,hm,hz,_,ha,hg⟩
 ·simp at hb;subst hb
  exact ⟨none,0,[],rfl,by simp,by simp,Ints.nil,by simp⟩
 ·simp at hb;subst hb
  have hi:len<=zs.length:=by rw [hz];split<;>omega
  have hf:(zs.take len).length=len:=by rw [Zo];omega
  refine ⟨some a,cap,zs.take len,by rw [hf],by rw [hf];unfold maxLen at hm;omega,by omega,λj hj=>?_,λn hn=>hg n (Zh hn)⟩;have hh:j<len:=by omega
  obtain ⟨b,off,rfl⟩:=qgc (w:=w) (a:=a) (v:=.int k (zs.getD 0 0)) (ha 0 oZ);have hd:=ha j oZ;rw [qc6] at hd;refine ⟨b,off,rfl,Zj1 _ _ hd,?_⟩;rw [hd];have e:(zs.take len).getD j 0=zs.getD j 0:=by simp [gdZ,hh]
  rw [e]
end
theorem In_at {l:List Int} (h:∀z∈l,Fx.In z) {k:Nat} (hk:k<l.length):Fx.In l[k]:=h _ (gmZ hk)
theorem sum_succ {l:List Int} {k:Nat} (hk:k<l.length):Fx.sum (l.take (k+1))=Fx.add (Fx.sum (l.take k)) l[k]:=by
 unfold Fx.sum;rw [Zb hk,List.foldl_append]
 rfl
theorem dot_succ {a b:List Int} {k:Nat} (hk:k<a.length) (hk2:k<b.length):Fx.dot (a.take (k+1)) (b.take (k+1))=Fx.add (Fx.dot (a.take k) (b.take k)) (Fx.mul a[k] b[k]):=by
 unfold Fx.dot;rw [Zb hk,Zb hk2,List.zip_append soZ,List.foldl_append]
 rfl
theorem qaX {l:List Int} {k:Nat} (hk:k<l.length):l.getD k 0=l[k]:=by rw [gdZ,geZ hk];rfl
theorem fix_sum (A:Option Addr) (c:Nat) (xs:List Int) (w:Zp1) (hl:xs.length<=9223372036854775807) (hI:Ints .i64 w A xs) (hin:∀z∈xs,Fx.In z):
  Calls Tryz.prog 143 #[.slice A xs.length c] w λe w'=>e=.returned (.int .i64 (Fx.sum xs))/\w=w':=by
 obtain ⟨hb,HI⟩:=zd2 hin hI;clear hI;clear hin;go_enter Tryz.func143,Tryz.ntmps143;go_wp2_with fail
 go_loop [3,8] (λs i=>∃k:Nat,k<=xs.length/\i=.int .i64 k/\s=.int .i64 (Fx.sum (xs.take k))) (λ_ i=>xs.length-(intOf i).toNat)
 case atStart=>exact ⟨0,Zt _,rfl,rfl⟩
 case round=>
  obtain ⟨k,hk,rfl,rfl⟩:=hrel
  by_cases ha:k<xs.length
  ·obtain ⟨b,off,rfl,-,hc⟩:=HI.out k ha
   rw [qaX ha] at hc;have hx:=In_at hb.out ha;have hs:=sum_succ ha;have h0:=Fx.sum_in (xs.take k);generalize Fx.sum (xs.take k)=s at *;generalize xs[k]=x at *;obtain ⟨HS,HX,H0⟩:=zd3 hs hx h0;clear hs hx h0;go_wp2_with fail;refine (qaM s x _ H0.out HX.out).mono ?_;rintro e w1 ⟨rfl,rfl⟩;go_wp2_with fail
   go_round
   case rel=>exact ⟨k+1,by omega,by go_num,by rw [HS.out]⟩
   case measure=>simp [intOf];omega
  ·obtain rfl:k=xs.length:=by omega
   rw [Zg];go_wp2_with fail;go_ret;exact ⟨rfl,rfl⟩
theorem fix_dot (A B:Option Addr) (c d:Nat) (a b:List Int) (w:Zp1) (hl:a.length<=1000000) (hn:b.length=a.length) (hI:Ints .i64 w A a) (hJ:Ints .i64 w B b) (ha:∀z∈a,Fx.In z) (hb:∀z∈b,Fx.In z):
  Calls Tryz.prog 142 #[.slice A a.length c,.slice B a.length d] w λe w'=>e=.returned (.int .i64 (Fx.dot a b))/\∃n,w'=w.drewN n:=by
 obtain ⟨HN,HI,HJ,Ha,Hb⟩:=zd5 hn hI hJ ha hb;clear hI hJ ha hb;clear hn;go_enter Tryz.func142,Tryz.ntmps142;go_wp2_with fail
 go_loopw [5,12] (λs i wr=>∃k n:Nat,k<=a.length/\i=.int .i64 k/\s=.int .i64 (Fx.dot (a.take k) (b.take k))/\wr=w.drewN n) (λ_ i _=>a.length-(intOf i).toNat)
 case atStart=>exact ⟨0,0,Zt _,rfl,rfl,rfl⟩
 case round=>
  obtain ⟨k,n,hk,rfl,rfl,hw⟩:=hrel;have hi:Ints .i64 wr A a:=by rw [hw];exact HI.out.drewN n
  have hf:Ints .i64 wr B b:=by rw [hw];exact HJ.out.drewN n
  obtain ⟨Hw,hm,ho⟩:=zd3 hw hi hf;clear hw hi hf
  by_cases he:k<a.length
  ·have hd:k<b.length:=by have:=HN.out;omega
   obtain ⟨ba,oa,rfl,-,hc⟩:=hm.out k he;obtain ⟨bb,ob,rfl,-,hp⟩:=ho.out k hd;rw [qaX he] at hc;rw [qaX hd] at hp;have hx:=In_at Ha.out he;have hy:=In_at Hb.out hd;have hs:=dot_succ he hd;have h0:=Fx.dot_in (a.take k) (b.take k);generalize Fx.dot (a.take k) (b.take k)=s at *;generalize a[k]=x at *;generalize b[k]=y at *;have hh:=λn=>qaA x y (wr.drewN n) hx hy
   have hg:=λn=>qaM s (Fx.mul x y) (wr.drewN n) h0 (Fx.mul_in x y)
   have HS:=zI hs;clear hs hx hy h0 hd;obtain ⟨hq,hj⟩:=zd2 hh hg;clear hh hg;have k1:(k:Int)<(a.length:Int):=by omega
   have k2:(0:Int)<=(k:Int):=by omega
   go_wp2_with fail
   go_quiet (first|(go_at_call 54;exact qaB (hq.out _))|(go_at_call 55;exact qaB (hj.out _)))
   go_wp2_with fail;go_roundw
   case rel=>exact ⟨k+1,n+nq,by omega,by go_num,by rw [HS.out],by rw [Hw.out,World.drewN_drewN]⟩
   case measure=>simp [intOf];omega
  ·obtain rfl:k=a.length:=by omega
   have e:a.length=b.length:=HN.out.symm;rw [Zg,show b.take a.length=b by rw [e,Zg]];clear e;go_wp2_with fail;go_ret;exact ⟨rfl,n,Hw.out⟩
theorem qe0 (x l h:Int) (w:Zp1):Calls Tryz.prog 156 #[.int .i64 x,.int .i64 l,.int .i64 h] w λe w'=>e=.returned (.int .i64 (Fx.held x l h))/\w=w':=by
 by_cases h1:h<x
 ·have E:=zI (show h=Fx.held x l h by unfold Fx.held;rw [ipZ h1])
  go_enter Tryz.func156,Tryz.ntmps156;go_wp2_with fail;go_ret;exact ⟨qaa E.out,rfl⟩
 ·by_cases h2:x<l
  ·have E:=zI (show l=Fx.held x l h by unfold Fx.held;rw [inZ h1,ipZ h2])
   go_enter Tryz.func156,Tryz.ntmps156;go_wp2_with fail;go_ret;exact ⟨qaa E.out,rfl⟩
  ·have E:=zI (show x=Fx.held x l h by unfold Fx.held;rw [inZ h1,inZ h2])
   go_enter Tryz.func156,Tryz.ntmps156;go_wp2_with fail;go_ret;exact ⟨qaa E.out,rfl⟩
theorem qb5 (w:Zp1):Calls Tryz.prog 120 #[.int .i64 4294967296] w λe w'=>e=.returned (.int .i64 (-4294967296))/\w=w':=by
 go_enter Tryz.func120,Tryz.ntmps120;go_wp2_with fail;go_ret;exact ⟨rfl,rfl⟩
theorem qc7 (n:Int) (w:Zp1) (h0:0<=n) (h1:n<2147483648):Calls Tryz.prog 62 #[.int .i64 n] w λe w'=>e=.returned (.int .i64 (n*4294967296))/\w=w':=by
 go_enter Tryz.func62,Tryz.ntmps62;go_wp2_with fail;go_ret;exact ⟨rfl,rfl⟩
structure Ten where
 s:List Int
 c:List Int
namespace Tn
def right (t:Ten):Bool:=Sh.right t.s&&decide ((t.c.length:Int)=Safe.prod t.s)
theorem right_false {t:Ten} (h:Sh.right t.s=false):right t=false:=by simp [right,h]
theorem right_true {t:Ten} (h:Sh.right t.s=true):right t=decide ((t.c.length:Int)=Safe.prod t.s):=by simp [right,h]
end Tn
def TenR (w:Zp1) (S C:Option Addr) (t:Ten):Prop:=Ints .i64 w S t.s/\Ints .i64 w C t.c
def TenN (B:Nat) (w:Zp1) (v:Value) (t:Ten):Prop:=
 ∃g h,v=.agg #[.slice (some ⟨g,0,none⟩) t.s.length t.s.length,.slice (some ⟨h,0,none⟩) t.c.length t.c.length]/\B<=g/\B<=h/\
  Blk w g 3 (t.s.map (Za1 .i64)).toArray/\Blk w h 22 (t.c.map (Za1 .i64)).toArray
theorem Blk.ints {w:Zp1} {g:Nat} {t:TypeId} {k:IntKind} {zs:List Int} (h:Blk w g t (zs.map (Za1 k)).toArray):Ints k w (some ⟨g,0,none⟩) zs:=Ints.of_row λj hj=>by
 rw [Zw,h.cell j];simp [hj]
theorem qa2 (S C:Option Addr) (c d:Nat) (t:Ten) (w:Zp1) (hl:t.s.length<=9223372036854775807) (hl':t.c.length<=9223372036854775807) (hI:Ints .i64 w S t.s):
  Calls Tryz.prog 51 #[.agg #[.slice S t.s.length c,.slice C t.c.length d]] w λe w'=>e=.returned (.bool (Tn.right t))/\Below w.heap.size w w':=by
 have HI:=zI (hI.alloc (.cells #[.slice S t.s.length c,.slice C t.c.length d] 30));clear hI;have ha:Below w.heap.size w (w.alloc (.cells #[.slice S t.s.length c,.slice C t.c.length d] 30)):=(Ze1 _ _).alloc (lrZ _) _;go_enter Tryz.func51,Tryz.ntmps51;go_wp2_with fail;refine (qae S c t.s _ oZ HI.out).mono ?_;rintro e w1 ⟨rfl,h1⟩;have hz:=h1.size;rw [Zh1] at h1 hz;have hc:w1.cell? ⟨w.heap.size,1,none⟩=some (.slice C t.c.length d):=by rw [h1.cell (p:=⟨w.heap.size,1,none⟩) (Nat.lt_succ_self _)];simp
 have hb:=ha.trans (h1.mono (Zy _));clear h1 ha HI;cases hr:Sh.right t.s
 ·have HS:=zI (show Sh.size t.s=(0,20) by simp [Sh.size,hr])
  have HR:=zI (Tn.right_false hr);clear hr;rw [HS.out];go_wp2_with fail;go_ret;exact ⟨by rw [HR.out];rfl,hb⟩
 ·have HS:=zI (show Sh.size t.s=(Safe.prod t.s,0) by simp [Sh.size,hr])
  have HR:=zI (Tn.right_true hr);clear hr;rw [HS.out];go_wp2_with fail;go_ret;refine ⟨?_,hb⟩;rw [HR.out]
  by_cases he:(t.c.length:Int)=Safe.prod t.s
  ·simp [he]
  ·simp [he]
def TenPost (t:Ten) (w:Zp1) (e:Ending) (w':Zp1):Prop:=∃v,e=.returned v/\TenN w.heap.size w' v t/\Below w.heap.size w w'
theorem qa9 (S C:Option Addr) (c d:Nat) (t:Ten) (w:Zp1) (hl:t.s.length<=1000000) (hl':t.c.length<=1000000) (hT:TenR w S C t):
  Calls Tryz.prog 52 #[.agg #[.slice S t.s.length c,.slice C t.c.length d]] w (TenPost t w):=by
 obtain ⟨i0,hi,hE,hD,hF⟩:=info_parts qbM;obtain ⟨hI,hC⟩:=hT;obtain ⟨HI,HC⟩:=zd2 hI hC;clear hI hC;go_enter Tryz.func52,Tryz.ntmps52;go_wp2_with (at_make;refine wpList_make_full _ rfl _ _ 28 rfl w.heap.size 22 i0 (.int .i64 0) 1 Tryz.underlying28 hi hE hD _ _ _ _ t.c.length rfl rfl (by first|rfl|simp) (by first|rfl|simp) ?b2 ?b3 ?b4 ?_)
 case b2=>rw [hF];omega
 case b3=>unfold maxLen;omega
 case b4=>simp;omega
 intro w1 hown hgrow;have hf:=qaR hown;have hc:=hown.1;generalize hw0:(w.alloc (.cells #[.slice S t.s.length c,.slice C t.c.length d] 30)).alloc (.cells #[.slice none 0 0,.slice none 0 0] 30)=w0 at hgrow;have hB:w0.heap.size=w.heap.size+2:=by subst hw0;simp
 have hy:Below w.heap.size w w0:=by subst hw0;exact ((Ze1 _ _).alloc (lrZ _) _).alloc sZ _
 have hx:Blk w0 w.heap.size 30 #[.slice S t.s.length c,.slice C t.c.length d]:=by subst hw0;exact (Blk.new w _ _).alloc _
 have ho:Blk w0 (w.heap.size+1) 30 #[.slice none 0 0,.slice none 0 0]:=by subst hw0;have:=Blk.new (w.alloc (.cells #[.slice S t.s.length c,.slice C t.c.length d] 30)) 30 #[.slice none 0 0,.slice none 0 0];rwa [Zh1] at this
 clear hw0;have hb:=hx.grown hgrow sZ;have hj:=ho.grown hgrow sZ;have hn:Below w.heap.size w w1:=hy.grown hgrow oZ sZ;have hG:=hgrow.size;have hw:=zI (HC.out.below hn (lrZ _));have c0:=hb.cell 0;have c1:=hb.cell 1;simp at c0 c1;generalize (madeCells #[Za1 .i64 0] t.c.length).toList=cur at *;clear hown hgrow HC hx ho hy;go_wp2_with (with_reducible refine wpList_copy_splice rfl (.tmp 8) (.tmp 10) 28 28 rfl 22 Tryz.underlying28 ?d1 (some ⟨w.heap.size+1+1,0,none⟩) C t.c.length t.c.length t.c.length d rfl rfl (w.heap.size+1+1) 0 cur 22 hf (t.c.map (Za1 .i64)) ?d2 ?d3 ?d4 ?d5 (w.heap.size+2) w1 (Ze1 _ _) (lrZ _) ?_)
 case d1=>kernel_rfl
 case d2=>simp
 case d3=>intro hp;exact hw.out.src' (by simpa using hp)
 case d4=>simp at hc ⊢;omega
 case d5=>intro v hv;obtain ⟨x,_,rfl⟩:=List.mem_map.1 hv;rfl
 intro w2 hr he;have hs:=qc1 (cur:=cur) (cs:=t.c.map (Za1 .i64)) (by simp at hc ⊢;omega);have HF:=zI (show Blk w2 (w.heap.size+1+1) 22 (t.c.map (Za1 .i64)).toArray by rw [←hs];exact hr.out);have hk:=hb.below he oZ;have hd:=hj.below he oZ;have hh:=hn.trans (he.mono oZ);have hA:=he.size;have hz:=zI (HI.out.below hh (lrZ _));clear hr hn hc hs hf c0 c1 hb hj hw HI he;have c0:=hk.cell 0;simp at c0;go_wp2_with fail;refine (qaf S c t.s _ oZ hz.out).mono ?_;rintro e w3 ⟨g,rfl,hg,hq,h3⟩;have ha:=hd.below h3 hd.lt;have ht:=HF.out.below h3 HF.out.lt;have hu:Blk w3 g 3 (t.s.map (Za1 .i64)).toArray:=hq;have c1:=ha.cell 0;have c2:=ha.cell 1;have f1:=ha.frozen 0;have f2:=ha.frozen 1;simp at c1 c2;have hH:=hh.trans (h3.mono hh.size);obtain ⟨HK,HF,HG⟩:=zd3 ha ht hu;have hm:w.heap.size+1≠g:=by have:=hh.size;omega
 clear hk hd hh c0 h3 hq hz ha ht hu;go_wp2_with fail;refine Zk1 (v:=.agg #[.slice (some ⟨g,0,none⟩) t.s.length t.s.length,.slice (some ⟨w.heap.size+1+1,0,none⟩) t.c.length t.c.length]) (by simp [results,Tryz.results52,go_sem,c1,c2]) rfl ?_;exact ⟨_,rfl,⟨g,w.heap.size+1+1,rfl,by omega,by omega,(HG.out.far (p:=⟨w.heap.size+1,0,none⟩) (Ne.symm hm) _).far (p:=⟨w.heap.size+1,1,none⟩) (Ne.symm hm) _,(HF.out.far (p:=⟨w.heap.size+1,0,none⟩) sZ _).far (p:=⟨w.heap.size+1,1,none⟩) sZ _⟩,(hH.setCell (p:=⟨w.heap.size+1,0,none⟩) (Zy _) _).setCell (p:=⟨w.heap.size+1,1,none⟩) (Zy _) _⟩
def MakeP (s:List Int) (f:Int) (w:Zp1) (e:Ending) (w':Zp1):Prop:=
 (Sh.right s=false/\e=.returned (.tuple #[.agg #[.slice none 0 0,.slice none 0 0],.int .i64 20])∨Sh.right s=true/\∃v,e=.returned (.tuple #[v,.int .i64 0])/\TenN w.heap.size w' v ⟨s,Zc (Safe.prod s).toNat f⟩)/\Below w.heap.size w w'
theorem fill_all {cs:List Value} {n:Nat} {f:Int} (hl:cs.length=n) (h:∀j,j<n->cs[j]? = some (.int .i64 f)):cs=(Zc n f).map (Za1 .i64):=by
 apply List.ext_getElem?;intro j
 by_cases hj:j<n
 ·rw [h j hj];simp [hj]
 ·rw [Zi oZ,Zi soZ]
theorem qbE (S:Option Addr) (c:Nat) (s:List Int) (f:Int) (w:Zp1) (hl:s.length<=1000000) (hI:Ints .i64 w S s):
  Calls Tryz.prog 75 #[.slice S s.length c,.int .i64 f] w (MakeP s f w):=by
 obtain ⟨i0,hi,hO,hL,hP⟩:=info_parts qbM;have hA:=hI.alloc (.cells #[.slice none 0 0,.slice none 0 0] 30);have hG:=Blk.new w 30 #[.slice none 0 0,.slice none 0 0];have hH:Below w.heap.size w (w.alloc (.cells #[.slice none 0 0,.slice none 0 0] 30)):=(Ze1 _ _).alloc (lrZ _) _;obtain ⟨HI,hF,hK⟩:=zd3 hI hA hG;clear hI hA hG;go_enter Tryz.func75,Tryz.ntmps75;go_wp2_with fail;refine (qae S c s _ oZ hF.out).mono ?_;rintro e w1 ⟨rfl,h1⟩;have hc:=hK.out.below h1 sZ;have hv:=hH.trans (h1.mono sZ);have hx:=h1.size;rw [Zh1] at hx;clear h1 hH hF hK;cases hr:Sh.right s
 ·have HS:=zI (show Sh.size s=(0,20) by simp [Sh.size,hr])
  rw [HS.out];have c0:=hc.cell 0;have c1:=hc.cell 1;have f0:=hc.frozen 0;have f1:=hc.frozen 1;simp at c0 c1;obtain ⟨hC,Hr⟩:=zd2 hc hr;clear hc hr;go_wp2_with fail;refine Zk1 (v:=.tuple #[.agg #[.slice none 0 0,.slice none 0 0],.int .i64 20]) (by simp [results,Tryz.results75,go_sem,c0,c1]) rfl ?_;exact ⟨.inl ⟨Hr.out,rfl⟩,(hv.setCell (p:=⟨w.heap.size,0,none⟩) (lrZ _) _).setCell (p:=⟨w.heap.size,1,none⟩) (lrZ _) _⟩
 ·have HS:=zI (show Sh.size s=(Safe.prod s,0) by simp [Sh.size,hr])
  obtain ⟨_,_,_,_,hQ,hM⟩:=Sh.right_mul hr;rw [HS.out];have HP:=zI (rfl:(Safe.prod s).toNat=(Safe.prod s).toNat);obtain ⟨n,hn⟩:=ezZ (show 0<=Safe.prod s by omega);have HN:=zI (show (Safe.prod s).toNat=n by omega);rw [hn] at hQ hM ⊢;obtain ⟨hC,Hr⟩:=zd2 hc hr;clear hc hr;clear HP HS hn;go_wp2_with (at_make;refine wpList_make_full _ rfl _ _ 28 rfl w.heap.size 22 i0 (.int .i64 0) 1 Tryz.underlying28 hi hO hL _ _ _ _ n rfl rfl (by first|rfl|simp) (by first|rfl|simp) ?b2 ?b3 ?b4 ?_)
  case b2=>rw [hP];omega
  case b3=>unfold maxLen;omega
  case b4=>omega
  intro w2 hown hgrow;have he:=qaR hown;have hw:=hown.1;have hu:=lt_of_block he;have hE:=hC.out.grown hgrow sZ;have hz:Below w.heap.size w w2:=hv.grown hgrow oZ sZ;generalize hg:w1.heap.size=g at *;generalize (madeCells #[Za1 .i64 0] n).toList=cur at *;have hh:=zI (show Blk w2 g 22 cur.toArray from he);have ho:=zI (show cur.length=n by omega);have hJ:=zI hE;clear hE;clear hown hgrow he hw hg hv;go_wp2_with fail
  go_loopw [9,23] (λ_ i wr=>∃(k:Nat) (cs:List Value),k<=n/\i=.int .i64 k/\cs.length=n/\Blk wr g 22 cs.toArray/\(∀j,j<k->cs[j]? = some (.int .i64 f))/\Blk wr w.heap.size 30 #[.slice none 0 0,.slice none 0 0]/\Below w.heap.size w wr) (λ_ i _=>n-(intOf i).toNat)
  case atStart=>exact ⟨0,cur,Zt _,rfl,ho.out,hh.out,λj hj=>by omega,hJ.out,hz⟩
  case round=>
   clear hh ho hJ hz;obtain ⟨k,cs,hk,rfl,hf,hd,hb,ht,ha⟩:=hrel
   by_cases hu:k<n
   ·obtain ⟨v0,c0⟩:∃v,wr.cell? ⟨g,k,none⟩=some v:=⟨cs[k],by rw [hd.cell k];simp [hf,hu]⟩
    have f0:=hd.frozen k;obtain ⟨hD,hs,hy,hp⟩:=zd4 hf hd hb ht;clear hf hd hb ht;go_wp2_with fail;go_roundw
    case rel=>
     refine ⟨k+1,cs.set k (.int .i64 f),by omega,by go_num,by rw [List.length_set];exact hD.out,?_,?_,hp.out.far (p:=⟨g,k,none⟩) soZ _,ha.setCell (p:=⟨g,k,none⟩) soZ _⟩
     ·have:=hs.out.set_ k (.int .i64 f);simpa using this
     ·intro j hj
      rw [List.getElem?_set]
      by_cases e:k=j
      ·subst e;simp [hD.out,hu]
      ·rw [inZ e];exact hy.out j oZ
    case measure=>simp [intOf];omega
   ·obtain rfl:k=n:=by omega
    have HE:=zI (fill_all hf hb);rw [HE.out] at hd;have hS:=ha.size;have hN:=hd.lt;obtain ⟨hs,hp⟩:=zd2 hd ht;clear hd ht;clear hb hf;go_wp2_with fail;refine (qaf S c s _ oZ (HI.out.below ha (lrZ _))).mono ?_;rintro e w3 ⟨q,rfl,hq,hB,h3⟩;have hm:=hp.out.below h3 hp.out.lt;have c0:=hm.cell 0;have c1:=hm.cell 1;have f0:=hm.frozen 0;have f1:=hm.frozen 1;simp at c0 c1;have HG:=zI (show Blk w3 q 3 (s.map (Za1 .i64)).toArray from hB);have HH:=zI (hs.out.below h3 hs.out.lt);have hR:=ha.trans (h3.mono ha.size);clear hm hB h3 ha;go_wp2_with fail;refine Zk1 (v:=.tuple #[.agg #[.slice (some ⟨q,0,none⟩) s.length s.length,.slice (some ⟨g,0,none⟩) k k],.int .i64 0]) (by simp [results,Tryz.results75,go_sem,c0,c1]) rfl ?_;refine ⟨.inr ⟨Hr.out,_,rfl,q,g,by rw [HN.out];simp,by omega,by omega,?_,?_⟩,(hR.setCell (p:=⟨w.heap.size,0,none⟩) (lrZ _) _).setCell (p:=⟨w.heap.size,1,none⟩) (lrZ _) _⟩
    ·exact (HG.out.far (p:=⟨w.heap.size,0,none⟩) soZ _).far (p:=⟨w.heap.size,1,none⟩) soZ _
    ·rw [HN.out];exact (HH.out.far (p:=⟨w.heap.size,0,none⟩) soZ _).far (p:=⟨w.heap.size,1,none⟩) soZ _
theorem qe1 (p:Addr) (w:Zp1):
  CallsD Tryz.prog 137 #[.pointer (some p)] .returning w λe u' w'=>e=.returned (.tuple #[])/\u'=.returning/\w'=w:=by
 refine callsD_of_wpS Tryz.func137 rfl λc₀ cs hu=>?_
 apply wpS_seq;apply wpS_region;simp [wpOpsS,go_sem,recoverD,hu,Tryz.ntmps137,Exit.thenS];refine wpS_cond (t:=false) (by simp [Act.eval,Array.replicate]) ?_;simp only [Bool.false_eq_true,if_false];refine wpS_of_wp (wp_skip ?_);cases c₀
 simp_all [bodyPostS,results,Tryz.results137]
theorem qeu (A A':Option Addr) (c c':Nat) (xs ys:List Int) (w:Zp1) (hl:xs.length<=1000000000) (hn:xs.length=ys.length) (hI:Ints .i64 w A xs) (hI':Ints .i64 w A' ys):
  Calls Tryz.prog 83 #[.slice A xs.length c,.slice A' ys.length c'] w λe w'=>e=.returned (.bool (xs==ys))/\Below w.heap.size w w':=by
 have hq:∀(fn:Fn) (first cap:Array Value) (w:Zp1),(Instr.makeFunc fn first cap).run Tryz.prog w=.ok (.func fn first cap) w:=λ_ _ _ _=>rfl
 have hj:Below w.heap.size w (w.alloc (.cells #[.bool false] 4)):=(Ze1 _ _).alloc (lrZ _) _;have HI:=zI (hI.alloc (.cells #[.bool false] 4));have hm:=zI (hI'.alloc (.cells #[.bool false] 4));have HN:=zI hn;clear hI hI' hn
 go_enter_defers Tryz.func83,Tryz.ntmps83
 go_wp2_with fail
 go_loopw [10] (λi wr=>wr=w.alloc (.cells #[.bool false] 4)/\∃k:Nat,k<=xs.length/\i=.int .i64 k/\xs.take k=ys.take k) (λi _=>xs.length-(intOf i).toNat)
 case atStart=>exact ⟨rfl,0,Zt _,rfl,rfl⟩
 case round=>
  obtain ⟨rfl,k,hk,rfl,hg⟩:=hrel;have HT:=zI hg;clear hg
  by_cases he:k<xs.length
  ·have hd:k<ys.length:=by have:=HN.out;omega
   obtain ⟨b,off,rfl,hb,hc⟩:=HI.out k he;obtain ⟨b',off',rfl,hp,ho⟩:=hm.out k hd
   by_cases ha:xs[k]=ys[k]
   ·have hb:(xs[k] != ys[k])=false:=by simp [ha]
    have hi:=zI (show xs.take (k+1)=ys.take (k+1) by rw [Zb he,Zb hd,HT.out,ha]);clear ha;go_wp2_with fail;go_roundw
    case rel=>exact ⟨trivial,k+1,by omega,by go_num,hi.out⟩
    case measure=>simp [intOf];omega
   ·have hb:(xs[k] != ys[k])=true:=by simp [ha]
    have hf:=zI (show (xs==ys)=false by simp;rintro rfl;exact ha rfl);clear ha;go_wp2_with fail;refine leaves_cons (f:=137) (args:=#[.pointer (some ⟨w.heap.size,0,none⟩)]) sZ (by simp [go_sem]) ?_;refine (qe1 ⟨w.heap.size,0,none⟩ _).mono ?_;rintro e u' w'' ⟨rfl,rfl,rfl⟩;simp only [Leaves,settle];exact ⟨_,by simp [results,Tryz.results83,go_sem];rfl,by rw [hf.out],hj⟩
  ·obtain rfl:k=xs.length:=by omega
   have hf:=zI (show (xs==ys)=true by have:=HT.out;rw [Zg,HN.out,Zg] at this;simp [this]);have hh:Below w.heap.size w (w.alloc (.cells #[.bool true] 4)):=(Ze1 _ _).alloc (lrZ _) _;go_wp2_with fail;refine leaves_cons (f:=137) (args:=#[.pointer (some ⟨w.heap.size,0,none⟩)]) sZ (by simp [go_sem]) ?_;refine (qe1 ⟨w.heap.size,0,none⟩ _).mono ?_;rintro e u' w'' ⟨rfl,rfl,rfl⟩;simp only [Leaves,settle];exact ⟨_,by simp [results,Tryz.results83,go_sem];rfl,by rw [hf.out],hh⟩
namespace Tn
def eq (a b:Ten):Bool:=(a.s==b.s)&&(a.c==b.c)
theorem eq_iff (a b:Ten):eq a b=true↔a=b:=by
 cases a;cases b;simp [eq]
end Tn
theorem qcf (S C S' C':Option Addr) (c d c' d':Nat) (a b:Ten) (w:Zp1) (hl:a.s.length<=1000000000) (hl':a.c.length<=1000000000) (hm:b.s.length<=1000000000) (hm':b.c.length<=1000000000) (hT:TenR w S C a) (hT':TenR w S' C' b):
  Calls Tryz.prog 33 #[.agg #[.slice S a.s.length c,.slice C a.c.length d],.agg #[.slice S' b.s.length c',.slice C' b.c.length d']] w λe w'=>e=.returned (.bool (Tn.eq a b))/\Below w.heap.size w w':=by
 have ha:Below w.heap.size w ((w.alloc (.cells #[.slice S a.s.length c,.slice C a.c.length d] 30)).alloc (.cells #[.slice S' b.s.length c',.slice C' b.c.length d'] 30)):=((Ze1 _ _).alloc (lrZ _) _).alloc sZ _;have HA:=zI (hT.1.below ha (lrZ _));have HB:=zI (hT.2.below ha (lrZ _));have HC:=zI (hT'.1.below ha (lrZ _));have HD:=zI (hT'.2.below ha (lrZ _));clear hT hT';go_enter Tryz.func33,Tryz.ntmps33;go_wp2_with fail;refine (qa7 S S' c c' a.s b.s _ oZ oZ HA.out HC.out).mono ?_;rintro e w1 ⟨rfl,n,rfl⟩;have hc:=λn=>qa6 ha n
 have hb:=zI hc;clear ha hc;cases hs:(a.s==b.s)
 ·have HE:=zI (show Tn.eq a b=false by simp [Tn.eq,hs])
  clear hs;go_wp2_with fail;go_ret;exact ⟨by rw [HE.out];rfl,hb.out n⟩
 ·by_cases hn:a.c.length=b.c.length
  ·have hq:((a.c.length:Int)==b.c.length)=true:=by simp [hn]
   have HN:=zI hn;have HE:=zI (show Tn.eq a b=(a.c==b.c) by simp [Tn.eq,hs]);clear hn hs;go_wp2_with fail;refine (qeu C C' d d' a.c b.c _ hl' HN.out (HB.out.drewN n) (HD.out.drewN n)).mono ?_;rintro e w2 ⟨rfl,h2⟩;have hd:=(hb.out n).trans (h2.mono (hb.out n).size);go_wp2_with fail;go_ret;exact ⟨by rw [HE.out];rfl,hd⟩
  ·have hq:((a.c.length:Int)==b.c.length)=false:=by simp;omega
   have HE:=zI (show Tn.eq a b=false by simp [Tn.eq,hs];intro e;rw [e] at hn;exact hn rfl);clear hn hs;go_wp2_with fail;go_ret;exact ⟨by rw [HE.out];rfl,hb.out n⟩
def OfP (t:Ten) (w:Zp1) (e:Ending) (w':Zp1):Prop:=
 (Tn.right t=false/\e=.returned (.tuple #[.agg #[.slice none 0 0,.slice none 0 0],.int .i64 20])∨Tn.right t=true/\∃v,e=.returned (.tuple #[v,.int .i64 0])/\TenN w.heap.size w' v t)/\Below w.heap.size w w'
theorem qcC (S C:Option Addr) (c d:Nat) (t:Ten) (w:Zp1) (hl:t.s.length<=1048576) (hl':t.c.length<=1048576) (hT:TenR w S C t):
  Calls Tryz.prog 41 #[.slice S t.s.length c,.slice C t.c.length d] w (OfP t w):=by
 have HT:=zI hT;clear hT;have hn:=(Blk.new w 30 #[.slice none 0 0,.slice none 0 0]).alloc (.cells #[.slice S t.s.length c,.slice C t.c.length d] 30);have hi:=Blk.new (w.alloc (.cells #[.slice none 0 0,.slice none 0 0] 30)) 30 #[.slice S t.s.length c,.slice C t.c.length d];rw [Zh1] at hi;have hf:Below w.heap.size w ((w.alloc (.cells #[.slice none 0 0,.slice none 0 0] 30)).alloc (.cells #[.slice S t.s.length c,.slice C t.c.length d] 30)):=((Ze1 _ _).alloc (lrZ _) _).alloc sZ _;obtain ⟨hk,hj⟩:=zd2 hn hi;clear hn hi;go_enter Tryz.func41,Tryz.ntmps41;go_wp2_with fail;refine (qa2 S C c d t _ oZ oZ (HT.out.1.below hf (lrZ _))).mono ?_;rintro e w1 ⟨rfl,h1⟩;have ha:=hk.out.below h1 hk.out.lt;have hd:=hj.out.below h1 hj.out.lt;have he:=hf.trans (h1.mono hf.size);clear h1 hf hk hj;cases hr:Tn.right t
 ·have c0:=ha.cell 0
  have c1:=ha.cell 1;have f0:=ha.frozen 0;have f1:=ha.frozen 1;simp at c0 c1;have Hr:=zI hr;clear hr;go_wp2_with fail;refine Zk1 (v:=.tuple #[.agg #[.slice none 0 0,.slice none 0 0],.int .i64 20]) (by simp [results,Tryz.results41,go_sem,c0,c1]) rfl ?_;exact ⟨.inl ⟨Hr.out,rfl⟩,(he.setCell (p:=⟨w.heap.size,0,none⟩) (lrZ _) _).setCell (p:=⟨w.heap.size,1,none⟩) (lrZ _) _⟩
 ·have hb:t.s.length<=1000000/\t.c.length<=1000000:=by
   have hm:=hr;simp only [Tn.right,Zz,decide_eq_true_eq] at hm;obtain ⟨_,q1,_,_,_,q2⟩:=Sh.right_mul hm.1;omega
  have d0:=hd.cell 0;have d1:=hd.cell 1;simp at d0 d1;have Hr:=zI hr;clear hr;go_wp2_with fail;refine (qa9 S C c d t _ hb.1 hb.2 ⟨HT.out.1.below he (lrZ _),HT.out.2.below he (lrZ _)⟩).mono ?_;rintro e w2 ⟨v,rfl,⟨g,h,rfl,hg,hh,hG,hH⟩,h2⟩;have hc:=ha.below h2 ha.lt;have ho:=he.trans (h2.mono he.size);have hp:=ha.lt;have c0:=hc.cell 0;have c1:=hc.cell 1;have f0:=hc.frozen 0;have f1:=hc.frozen 1;simp at c0 c1;obtain ⟨HG,HH⟩:=zd2 hG hH;clear hG hH;clear ha hd d0 d1 he h2;go_wp2_with fail;refine Zk1 (v:=.tuple #[.agg #[.slice (some ⟨g,0,none⟩) t.s.length t.s.length,.slice (some ⟨h,0,none⟩) t.c.length t.c.length],.int .i64 0]) (by simp [results,Tryz.results41,go_sem,c0,c1]) rfl ?_;exact ⟨.inr ⟨Hr.out,_,rfl,g,h,rfl,by omega,by omega,(HG.out.far (p:=⟨w.heap.size,0,none⟩) soZ _).far (p:=⟨w.heap.size,1,none⟩) soZ _,(HH.out.far (p:=⟨w.heap.size,0,none⟩) soZ _).far (p:=⟨w.heap.size,1,none⟩) soZ _⟩,(ho.setCell (p:=⟨w.heap.size,0,none⟩) (lrZ _) _).setCell (p:=⟨w.heap.size,1,none⟩) (lrZ _) _⟩
end Go.Proofs.YtbnnpkcfifejmaaGreat
