/- Lemmas for the statements of this seat: contracts of functions and the plain laws. -/
import Derived.Deep.DeepCutAuto
import Derived.Maps.AppendAt
import Derived.Test.YtnffjfjhbjeaiaaGreatDoorZ04
set_option linter.unusedVariables false
/- slices.Insert, Delete and BinarySearch on rows of the call's own. -/
namespace Go.Proofs.YtnffjfjhbjeaiaaGreatDoor
open Go.RowKit

theorem splice_cons {L : List Value} {o : Nat} {v : Value} {r : List Value} (h : o + (v :: r).length ≤ L.length) : splice (L.set o v) (o + 1) r = splice L o (v :: r) := by
  simp only [List.length_cons] at h
  unfold splice
  have e1 : (L.set o v).take (o + 1) = L.take o ++ [v] := by
    rw [List.take_succ_eq_append_getElem (by simp; omega), List.take_set_of_le (Nat.le_refl _)]
    simp
  rw [e1, List.drop_set_of_lt (by omega)]
  simp [Nat.add_assoc, Nat.add_comm 1]
theorem setCells_blk {g : Nat} {t : TypeId} : ∀ (vs : List Value) (o : Nat) (w : World) (L : List Value), Blk w g t L.toArray → o + vs.length ≤ L.length → Blk (w.setCells g o vs) g t (splice L o vs).toArray
  | [], o, w, L, h, _ => by rw [splice_zero]; exact h
  | v :: r, o, w, L, h, hl => by
    rw [← splice_cons hl]
    refine setCells_blk r (o + 1) _ _ ?_ (by simp at hl ⊢; omega)
    have := h.set_ o v
    simpa using this
theorem setCells_fr {S : Nat → Prop} {g : Nat} (hg : S g) : ∀ (vs : List Value) (o : Nat) (w0 w : World), Fr S w0 w → Fr S w0 (w.setCells g o vs)
  | [], _, _, _, h => h
  | v :: r, o, w0, w, h => setCells_fr hg r (o + 1) w0 _ (h.setCell (fun _ => hg) v)
theorem fr_new {S : Nat → Prop} {w w1 : World} (h : Fr S w w1) : ∀ (vs : List Value) (o : Nat), Fr S w (w1.setCells w.heap.size o vs)
  | [], _ => h
  | v :: r, o => fr_new (h.setCell (p := ⟨w.heap.size, o, none⟩) (fun q => absurd q (Nat.lt_irrefl _)) v) r (o + 1)
theorem Blk.shape {w : World} {g : Nat} {t : TypeId} {cs : Array Value} (h : Blk w g t cs) : w.shape? g = some (t, cs.size) := by
  unfold Blk at h
  simp [World.shape?, h]
theorem Blk.own {w : World} {B g n : Nat} {t : TypeId} {L : List Value} {xs : List Value} (h : Blk w g t L.toArray) (hB : B ≤ g) (hn : xs.length = n) (hl : n ≤ L.length) (hm : L.length ≤ maxLen) (ht : L.take n = xs) {c : Nat} (hc : c = L.length) :
    w.ownsRow B t 1 (.slice (some ⟨g, 0, none⟩) n c) n xs := by
  subst hc
  exact ⟨by omega, .inr ⟨g, _, _, rfl, hB, h, hl, hm, by simp, by simpa using ht⟩⟩
/-- What a change of an own row leaves. -/
def OwnPost (B : Nat) (t : TypeId) (v : Value) (zs : List Int) (w : World) (e : Ending) (w' : World) : Prop :=
  ∃ v', e = .returned v' ∧ w'.ownsRow B t 1 v' zs.length (zs.map (Value.int .i64)) ∧ Fr (fun b => v.ownBlock = some b) w w' ∧ (v'.ownBlock = v.ownBlock ∨ v'.ownBlock = some w.heap.size)

theorem spl_mid (A X Y B : List Value) (h : X.length = Y.length) : splice (A ++ (X ++ B)) A.length Y = A ++ (Y ++ B) := by
  unfold splice
  rw [List.take_append_of_le_length (Nat.le_refl _), List.take_length, ← h, ← List.length_append, ← List.append_assoc A X B, List.drop_left]
theorem ins_a {Z D : List Value} {x : Value} {i : Nat} (hi : i < Z.length) (hD : 1 ≤ D.length) : splice (splice (Z ++ D) (i + 1) (Z.drop i)) i [x] = Z.take i ++ x :: Z.drop i ++ D.drop 1 := by
  obtain ⟨d, D', rfl⟩ : ∃ d D', D = d :: D' := by cases D with | nil => simp at hD | cons d D' => exact ⟨d, D', rfl⟩
  obtain ⟨A, b, B, rfl, rfl⟩ : ∃ A b B, Z = A ++ b :: B ∧ i = A.length := ⟨Z.take i, Z[i], Z.drop (i + 1), by rw [← List.drop_eq_getElem_cons hi, List.take_append_drop], by simp; omega⟩
  rw [List.drop_left, List.take_left]
  have e1 : A ++ b :: B ++ d :: D' = (A ++ [b]) ++ ((B ++ [d]) ++ D') := by simp
  have e2 : A.length + 1 = (A ++ [b]).length := by simp
  rw [e1, e2, spl_mid _ _ (b :: B) _ (by simp)]
  have e3 : A ++ [b] ++ (b :: B ++ D') = A ++ ([b] ++ (b :: B ++ D')) := by simp
  rw [e3, spl_mid _ [b] [x] _ rfl]
  simp
theorem ins_b {Z Z1 Z2 : List Value} {x : Value} {i : Nat} (hi : i < Z.length) (h1 : Z1.length = Z.length + 1 - i) : splice (splice (Z.take i ++ Z1 ++ Z2) i [x]) (i + 1) (Z.drop i) = Z.take i ++ x :: Z.drop i ++ Z2 := by
  obtain ⟨d, D, rfl⟩ : ∃ d D, Z1 = d :: D := by cases Z1 with | nil => simp at h1; omega | cons d D => exact ⟨d, D, rfl⟩
  obtain ⟨A, B, rfl, rfl⟩ : ∃ A B, Z = A ++ B ∧ i = A.length := ⟨Z.take i, Z.drop i, (List.take_append_drop _ _).symm, by simp; omega⟩
  rw [List.drop_left, List.take_left]
  have e1 : A ++ d :: D ++ Z2 = A ++ ([d] ++ (D ++ Z2)) := by simp
  rw [e1, spl_mid _ [d] [x] _ rfl]
  have e2 : A ++ ([x] ++ (D ++ Z2)) = (A ++ [x]) ++ (D ++ Z2) := by simp
  have e3 : A.length + 1 = (A ++ [x]).length := by simp
  rw [e2, e3, spl_mid _ _ B _ (by simp at h1; omega)]
  simp
theorem ins_list {zs : List Int} {x : Int} {i : Nat} (h : i ≤ zs.length) : (zs.take i ++ x :: zs.drop i).length = zs.length + 1 := by simp; omega

theorem Blk.cells_map {w : World} {g : Nat} {t : TypeId} {L xs : List Value} {n : Nat} (h : Blk w g t L.toArray) (ht : L.take n = xs) : ∀ j v, xs[j]? = some v → w.cell? ⟨g, 0 + j, none⟩ = some v := fun j v hj => by
  rw [Nat.zero_add, h.cell j]
  subst ht
  rw [List.getElem?_take] at hj
  split at hj
  · simpa using hj
  · cases hj
theorem one_cell' {zs : List Int} : ∀ v ∈ zs.map (Value.int .i64), v.oneCell' = true := fun v hv => by
  obtain ⟨x, _, rfl⟩ := List.mem_map.1 hv
  rfl

theorem insert_own (B : Nat) (v : Value) (zs : List Int) (x : Int) (i vb : Nat) (w : World) (hi : i ≤ zs.length) (hn : zs.length ≤ 1099511627776) (hB : B ≤ w.heap.size) (hown : w.ownsRow B 3 1 v zs.length (zs.map (Value.int .i64))) (hv : Blk w vb 3 #[.int .i64 x]) (hvb : v.ownBlock ≠ some vb) :
    Calls Tryz.prog 118 #[v, .int .i64 i, .slice (some ⟨vb, 0, none⟩) 1 1] w (OwnPost B 3 v (zs.take i ++ x :: zs.drop i) w) := by
  have hvc : ∀ j u, [Value.int .i64 x][j]? = some u → w.cell? ⟨vb, 0 + j, none⟩ = some u := fun j u hj => by
    match j, hj with
    | 0, hj => simp at hj; subst hj; rw [hv.cell]; rfl
  have h1v : ∀ u ∈ [Value.int .i64 x], u.oneCell' = true := fun u hu => by simp at hu; subst hu; rfl
  have hmax : maxLen = 9223372036854775807 := rfl
  rcases hown.2 with ⟨rfl, h0⟩ | ⟨g, cap, cur, rfl, hBg, hh, hnc, hcm, hsz, htk⟩
  · have hz : zs = [] := List.eq_nil_of_length_eq_zero h0
    subst hz
    obtain rfl : i = 0 := by simpa using hi
    refine (Any2.slices_Insert_int_end_grow laysIns none 0 0 vb 0 1 1 [] [.int .i64 x] w (by omega) (by omega) (by omega) (by omega) rfl rfl (fun _ => rfl) (fun a h => by cases h) hvc h1v).mono ?_
    rintro e w' ⟨rfl, rfl⟩
    have hg := grownCap_ge w (0 + 1) 0 3
    have hgm := grownCap_le_maxLen w (0 + 1) 0 3 (by unfold maxLen; omega)
    refine ⟨_, rfl, ?_, ((Fr.refl _ w).drew).alloc _, .inr rfl⟩
    have hk := Blk.new w.drew 3 (([] ++ [Value.int .i64 x]).toArray ++ Builtin.zeroCells (Value.int .i64 0).cells (grownCap w (0 + 1) 0 3 - (0 + 1)))
    have hk2 : Blk (w.drew.alloc (.cells (([] ++ [Value.int .i64 x]).toArray ++ Builtin.zeroCells (Value.int .i64 0).cells (grownCap w (0 + 1) 0 3 - (0 + 1))) 3)) w.heap.size 3 (([Value.int .i64 x] ++ (Builtin.zeroCells (Value.int .i64 0).cells (grownCap w (0 + 1) 0 3 - (0 + 1))).toList).toArray) := by
      have e : (([Value.int .i64 x] ++ (Builtin.zeroCells (Value.int .i64 0).cells (grownCap w (0 + 1) 0 3 - (0 + 1))).toList).toArray) = ([] ++ [Value.int .i64 x]).toArray ++ Builtin.zeroCells (Value.int .i64 0).cells (grownCap w (0 + 1) 0 3 - (0 + 1)) := by
        apply Array.ext'
        simp
      rw [e]
      exact hk
    have hzl : (Builtin.zeroCells (Value.int .i64 0).cells (grownCap w (0 + 1) 0 3 - (0 + 1))).toList.length = grownCap w (0 + 1) 0 3 - (0 + 1) := by
      rw [Array.length_toList, size_zeroCells]; simp [Value.cells]
    exact hk2.own hB rfl (by simp) (by simp only [List.length_append, hzl, List.length_singleton]; omega) (by simp) (by simp only [List.length_append, hzl, List.length_singleton]; show grownCap w (0 + 1) 0 3 = _; omega)
  · have hk : Blk w g 3 cur.toList.toArray := by simpa [Blk] using hh
    have hcl : cur.toList.length = cap := by simpa using hsz
    have htk' : cur.toList.take zs.length = zs.map (Value.int .i64) := by simpa using htk
    have hcs := hk.cells_map htk'
    have hgv : g ≠ vb := fun h => hvb (by rw [h]; rfl)
    have hml : (zs.map (Value.int .i64)).length = zs.length := by simp
    by_cases hroom : zs.length + 1 ≤ cap
    · by_cases hlt : i < zs.length
      · refine (Any2.slices_Insert_int_shift laysIns g 0 zs.length cap i vb 0 1 1 (zs.map (Value.int .i64)) [.int .i64 x] w hlt (by omega) hroom (by omega) (fun h => hgv h.symm) hml rfl hcs ?_ ?_ hvc one_cell' h1v 3 3 1 cap ?_ ?_ (by omega) ?_ ?_).mono ?_
        · intro j hj; rw [Nat.zero_add, hk.cell]; simp; omega
        · intro j hj; exact hk.frozen _
        · exact hv.shape
        · rw [hk.shape]; simp [hsz]
        · exact hv.frozen _
        · exact hv.frozen _
        · rintro e w' ⟨rfl, rfl⟩
          have hd : (List.drop i (zs.map (Value.int .i64))).length = zs.length - i := by simp
          have k1 := setCells_blk ((zs.map (Value.int .i64)).drop i) (0 + (i + 1)) w.drew _ hk.drew (by rw [hd, hcl]; omega)
          have k2 := setCells_blk [Value.int .i64 x] (0 + i) _ _ k1 (by simp [splice]; omega)
          refine ⟨_, rfl, ?_, setCells_fr (by rfl) _ _ _ _ (setCells_fr (by rfl) _ _ _ _ (Fr.refl _ w).drew), .inl rfl⟩
          have hlen : (splice (splice cur.toList (0 + (i + 1)) ((zs.map (Value.int .i64)).drop i)) (0 + i) [Value.int .i64 x]).length = cap := by
            simp only [splice, List.length_append, List.length_take, List.length_drop, List.length_singleton, hd, hcl]; omega
          rw [ins_list hi]
          refine k2.own hBg (by simp; omega) (by rw [hlen]; omega) (by rw [hlen]; exact hcm) ?_ hlen.symm
          rw [Nat.zero_add, Nat.zero_add]
          have e0 : cur.toList = zs.map (Value.int .i64) ++ cur.toList.drop zs.length := by rw [← htk']; exact (List.take_append_drop _ _).symm
          rw [e0]
          generalize cur.toList.drop zs.length = D at *
          generalize hZ : zs.map (Value.int .i64) = Z at *
          have hZi : i < Z.length := by omega
          have hDl : 1 ≤ D.length := by rw [e0, List.length_append] at hcl; omega
          rw [ins_a hZi hDl]
          have : (Z.take i ++ Value.int .i64 x :: Z.drop i).length = zs.length + 1 := by simp; omega
          rw [List.take_append_of_le_length (by omega), List.take_of_length_le (by omega)]
          rw [← hZ]
          simp [List.map_take, List.map_drop]
      · obtain rfl : i = zs.length := by omega
        refine (Any2.slices_Insert_int_end_room laysIns g 0 zs.length cap vb 0 1 1 [.int .i64 x] w (by omega) hroom (by omega) rfl ?_ ?_ hvc h1v).mono ?_
        · intro j hj; rw [Nat.zero_add, hk.cell]; simp; omega
        · intro j hj; exact hk.frozen _
        · rintro e w' ⟨rfl, rfl⟩
          have k1 := setCells_blk [Value.int .i64 x] (0 + zs.length) w _ hk (by simp; omega)
          refine ⟨_, rfl, ?_, setCells_fr (by rfl) _ _ _ _ (Fr.refl _ w), .inl rfl⟩
          have hlen : (splice cur.toList (0 + zs.length) [Value.int .i64 x]).length = cap := by
            simp only [splice, List.length_append, List.length_take, List.length_drop, List.length_singleton, hcl]; omega
          rw [ins_list (Nat.le_refl _)]
          refine k1.own hBg (by simp) (by rw [hlen]; omega) (by rw [hlen]; exact hcm) ?_ hlen.symm
          rw [Nat.zero_add]
          unfold splice
          rw [htk', ← List.append_assoc]
          rw [List.take_append_of_le_length (by simp), List.take_of_length_le (by simp)]
          simp
    · have hce : cap = zs.length := by omega
      subst hce
      have hg := grownCap_ge w (zs.length + 1) zs.length 3
      have hgm := grownCap_le_maxLen w (zs.length + 1) zs.length 3 (by unfold maxLen; omega)
      by_cases hlt : i < zs.length
      · refine (Any2.slices_Insert_int_grow laysIns g 0 zs.length zs.length i vb 0 1 1 (zs.map (Value.int .i64)) [.int .i64 x] w hlt (by omega) (by omega) (by omega) (by omega) hml rfl hcs hvc one_cell' h1v).mono ?_
        rintro e w' ⟨rfl, rfl⟩
        have hz1 : (Builtin.zeroCells (Value.int .i64 0).cells (zs.length + 1 - i)).toList.length = zs.length + 1 - i := by rw [Array.length_toList, size_zeroCells]; simp [Value.cells]
        have hz2 : (Builtin.zeroCells (Value.int .i64 0).cells (grownCap w (zs.length + 1) zs.length 3 - (zs.length + 1))).toList.length = grownCap w (zs.length + 1) zs.length 3 - (zs.length + 1) := by rw [Array.length_toList, size_zeroCells]; simp [Value.cells]
        generalize hZ1 : Builtin.zeroCells (Value.int .i64 0).cells (zs.length + 1 - i) = Z1 at *
        have hT : insRen.t 3 = 3 := rfl
        rw [hT] at *
        generalize hZ2 : Builtin.zeroCells (Value.int .i64 0).cells (grownCap w (zs.length + 1) zs.length 3 - (zs.length + 1)) = Z2 at *
        generalize hG : grownCap w (zs.length + 1) zs.length 3 = G at *
        have hk0 : Blk (w.alloc (.cells (((zs.map (Value.int .i64)).take i).toArray ++ Z1 ++ Z2) 3)).drew w.heap.size 3 (((zs.map (Value.int .i64)).take i ++ Z1.toList ++ Z2.toList).toArray) := by
          have := Blk.new w 3 (((zs.map (Value.int .i64)).take i).toArray ++ Z1 ++ Z2)
          have e : (((zs.map (Value.int .i64)).take i ++ Z1.toList ++ Z2.toList).toArray) = ((zs.map (Value.int .i64)).take i).toArray ++ Z1 ++ Z2 := by
            apply Array.ext'
            simp
          rw [e]
          exact this.drew
        have hti : ((zs.map (Value.int .i64)).take i).length = i := by simp; omega
        have hd : ((zs.map (Value.int .i64)).drop i).length = zs.length - i := by simp
        have k1 := setCells_blk [Value.int .i64 x] i _ _ hk0 (by simp only [List.length_append, hti, hz1, hz2, List.length_singleton]; omega)
        have k2 := setCells_blk ((zs.map (Value.int .i64)).drop i) (i + 1) _ _ k1.drew (by simp only [splice, List.length_append, List.length_take, List.length_drop, List.length_singleton, hz1, hz2, List.length_map]; omega)
        refine ⟨_, rfl, ?_, ?_, .inr rfl⟩
        · have hlen : (splice (splice ((zs.map (Value.int .i64)).take i ++ Z1.toList ++ Z2.toList) i [Value.int .i64 x]) (i + 1) ((zs.map (Value.int .i64)).drop i)).length = G := by
            simp only [splice, List.length_append, List.length_take, List.length_drop, List.length_singleton, hz1, hz2, List.length_map]; omega
          rw [ins_list hi]
          refine k2.own hB (by simp; omega) (by rw [hlen]; omega) (by rw [hlen]; exact hgm) ?_ hlen.symm
          generalize hZ : zs.map (Value.int .i64) = Z at *
          rw [ins_b (by omega) (by omega)]
          have : (Z.take i ++ Value.int .i64 x :: Z.drop i).length = zs.length + 1 := by simp; omega
          rw [List.take_append_of_le_length (by omega), List.take_of_length_le (by omega)]
          rw [← hZ]
          simp [List.map_take, List.map_drop]
        · have f1 : Fr (fun b => (Value.slice (some ⟨g, 0, none⟩) zs.length zs.length).ownBlock = some b) w (w.alloc (.cells (((zs.map (Value.int .i64)).take i).toArray ++ Z1 ++ Z2) 3)) := (Fr.refl _ w).alloc _
          exact fr_new (fr_new f1.drew _ _).drew _ _
      · obtain rfl : i = zs.length := by omega
        refine (Any2.slices_Insert_int_end_grow laysIns (some ⟨g, 0, none⟩) zs.length zs.length vb 0 1 1 (zs.map (Value.int .i64)) [.int .i64 x] w (by omega) (Nat.le_refl _) (by omega) (by omega) hml rfl (fun h => by cases h) (fun a h => by injection h with h; subst h; intro j u hj; have := hcs j u hj; rw [Addr.add_lit]; simpa using this) hvc h1v).mono ?_
        rintro e w' ⟨rfl, rfl⟩
        have hT : insRen.t 3 = 3 := rfl
        rw [hT] at *
        have hz2 : (Builtin.zeroCells (Value.int .i64 0).cells (grownCap w (zs.length + 1) zs.length 3 - (zs.length + 1))).toList.length = grownCap w (zs.length + 1) zs.length 3 - (zs.length + 1) := by rw [Array.length_toList, size_zeroCells]; simp [Value.cells]
        generalize hZ2 : Builtin.zeroCells (Value.int .i64 0).cells (grownCap w (zs.length + 1) zs.length 3 - (zs.length + 1)) = Z2 at *
        generalize hG : grownCap w (zs.length + 1) zs.length 3 = G at *
        refine ⟨_, rfl, ?_, ((Fr.refl _ w).drew).alloc _, .inr rfl⟩
        have hk0 : Blk (w.drew.alloc (.cells ((zs.map (Value.int .i64) ++ [Value.int .i64 x]).toArray ++ Z2) 3)) w.heap.size 3 ((zs.map (Value.int .i64) ++ [Value.int .i64 x] ++ Z2.toList).toArray) := by
          have := Blk.new w.drew 3 ((zs.map (Value.int .i64) ++ [Value.int .i64 x]).toArray ++ Z2)
          have e : ((zs.map (Value.int .i64) ++ [Value.int .i64 x] ++ Z2.toList).toArray) = (zs.map (Value.int .i64) ++ [Value.int .i64 x]).toArray ++ Z2 := by
            apply Array.ext'
            simp
          rw [e]
          exact this
        have hlen : (zs.map (Value.int .i64) ++ [Value.int .i64 x] ++ Z2.toList).length = G := by simp only [List.length_append, List.length_map, List.length_singleton, hz2]; omega
        rw [ins_list (Nat.le_refl _)]
        refine hk0.own hB (by simp) (by rw [hlen]; omega) (by rw [hlen]; exact hgm) ?_ hlen.symm
        rw [List.take_append_of_le_length (by simp), List.take_of_length_le (by simp)]
        simp
theorem delete_own (B : Nat) (v : Value) (x : Int) (zs : List Int) (w : World) (hn : (x :: zs).length ≤ 1099511627776) (hown : w.ownsRow B 3 1 v (x :: zs).length ((x :: zs).map (Value.int .i64))) :
    Calls Tryz.prog 116 #[v, .int .i64 0, .int .i64 1] w (OwnPost B 3 v zs w) := by
  have hmax : maxLen = 9223372036854775807 := rfl
  rcases hown.2 with ⟨rfl, h0⟩ | ⟨g, cap, cur, rfl, hBg, hh, hnc, hcm, hsz, htk⟩
  · simp at h0
  · have hk : Blk w g 3 cur.toList.toArray := by simpa [Blk] using hh
    have hcl : cur.toList.length = cap := by simpa using hsz
    have htk' : cur.toList.take (x :: zs).length = (x :: zs).map (Value.int .i64) := by simpa using htk
    have hcs := hk.cells_map htk'
    refine (Tryz.slices_Delete_int_cells g 0 (x :: zs).length cap 0 1 (x :: zs) w (Nat.le_refl _) hnc (by omega) (by omega) (by simp) ?_ ?_).mono ?_
    · intro j hj
      refine hcs j _ ?_
      rw [List.getElem?_map, List.getElem?_eq_getElem hj, List.getD_eq_getElem?_getD, List.getElem?_eq_getElem hj]
      rfl
    · intro j hj; exact hk.frozen _
    · rintro e w' ⟨rfl, q, rfl⟩
      have hlist : ((((x :: zs).take (x :: zs).length).take 0 ++ ((x :: zs).take (x :: zs).length).drop 1 ++ List.replicate (1 - 0) 0).map (Value.int .i64)) = zs.map (Value.int .i64) ++ [Value.int .i64 0] := by simp
      rw [hlist]
      have k1 := setCells_blk (zs.map (Value.int .i64) ++ [Value.int .i64 0]) 0 (w.drewN q) _ (hk.drewN q) (by rw [hcl]; simp at hnc ⊢; omega)
      refine ⟨_, rfl, ?_, setCells_fr (by rfl) _ _ _ _ ((Fr.refl _ w).drewN q), .inl rfl⟩
      have hlen : (splice cur.toList 0 (zs.map (Value.int .i64) ++ [Value.int .i64 0])).length = cap := by
        simp only [splice, List.length_append, List.length_take, List.length_drop, List.length_singleton, List.length_map, hcl]; simp at hnc; omega
      refine k1.own hBg (by simp) (by rw [hlen]; simp at hnc ⊢; omega) (by rw [hlen]; exact hcm) ?_ hlen.symm
      unfold splice
      simp
theorem search_own (B : Nat) (v : Value) (x : Int) (zs : List Int) (w : World) (hn : zs.length ≤ 1099511627776) (hs : zs.Pairwise (· ≤ ·)) (hown : w.ownsRow B 3 1 v zs.length (zs.map (Value.int .i64))) :
    Calls Tryz.prog 117 #[v, .int .i64 x] w fun e w' => (∃ b, e = .returned (.tuple #[.int .i64 (zs.countP (· < x) : Nat), .bool b])) ∧ ∃ q, w' = w.drewN q := by
  rcases hown.2 with ⟨rfl, h0⟩ | ⟨g, cap, cur, rfl, hBg, hh, hnc, hcm, hsz, htk⟩
  · have : zs = [] := List.eq_nil_of_length_eq_zero h0
    subst this
    refine (Tryz.slices_BinarySearch_int_empty none 0 x w).mono ?_
    rintro e w' ⟨rfl, rfl⟩
    exact ⟨⟨_, rfl⟩, 0, rfl⟩
  · have hk : Blk w g 3 cur.toList.toArray := by simpa [Blk] using hh
    have htk' : cur.toList.take zs.length = zs.map (Value.int .i64) := by simpa using htk
    have hcs := hk.cells_map htk'
    refine (Tryz.slices_BinarySearch_int g 0 zs.length cap zs x w (Nat.le_refl _) (by omega) ?_ (by rw [List.take_length]; exact hs)).mono ?_
    · intro j hj
      refine hcs j _ ?_
      rw [List.getElem?_map, List.getElem?_eq_getElem hj, List.getD_eq_getElem?_getD, List.getElem?_eq_getElem hj]
      rfl
    · rintro e w' ⟨rfl, q, rfl⟩
      rw [List.take_length]
      exact ⟨⟨_, rfl⟩, q, rfl⟩
end Go.Proofs.YtnffjfjhbjeaiaaGreatDoor
/- Layer 11 (net): the order: contract. -/
namespace Go.Proofs.YtnffjfjhbjeaiaaGreatDoor
open Go.RowKit

theorem intsT_info : (Tryz.prog.info? 22).map (fun i => (i.zero, i.size, i.bytes)) = some (some (.slice none 0 0), 1, 24) := by kernel_rfl
/-- Two rows of numbers, of the call's own, apart. -/
def Two (C : Nat) (t : TypeId) (w : World) (r o : Value) (zr zo : List Int) : Prop :=
  w.ownsRow C t 1 r zr.length (zr.map (Value.int .i64)) ∧ w.ownsRow C t 1 o zo.length (zo.map (Value.int .i64)) ∧ ∀ b, r.ownBlock = some b → o.ownBlock ≠ some b
section
variable {C : Nat} {t : TypeId} {w w' : World} {r o r' o' : Value} {zr zo zr' zo' : List Int} {S : Nat → Prop}
theorem Two.fr (h : Two C t w r o zr zo) (hf : Fr S w w') (hS : ∀ b, S b → ¬ C ≤ b) : Two C t w' r o zr zo :=
  ⟨ownsRow_fr h.1 hf fun b hb hs => hS b hs (h.1.lt b hb).1, ownsRow_fr h.2.1 hf fun b hb hs => hS b hs (h.2.1.lt b hb).1, h.2.2⟩
theorem Two.new (h : Two C t w r o zr zo) (x : Obj) : Two C t (w.alloc x) r o zr zo := h.fr ((Fr.refl (fun _ => False) w).alloc x) fun _ h => h.elim
theorem Two.left (h : Two C t w r o zr zo) (hf : Fr (fun b => r.ownBlock = some b) w w') (ho : w'.ownsRow C t 1 r' zr'.length (zr'.map (Value.int .i64))) (hat : r'.ownBlock = r.ownBlock ∨ r'.ownBlock = some w.heap.size) : Two C t w' r' o zr' zo :=
  ⟨ho, ownsRow_fr h.2.1 hf fun b hb hs => h.2.2 b hs hb, fun b hb ho => by
    rcases hat with e | e
    · exact h.2.2 b (e ▸ hb) ho
    · rw [e] at hb; injection hb with hb; subst hb; have := (h.2.1.lt _ ho).2; omega⟩
theorem Two.right (h : Two C t w r o zr zo) (hf : Fr (fun b => o.ownBlock = some b) w w') (ho : w'.ownsRow C t 1 o' zo'.length (zo'.map (Value.int .i64))) (hat : o'.ownBlock = o.ownBlock ∨ o'.ownBlock = some w.heap.size) : Two C t w' r o' zr zo' :=
  ⟨ownsRow_fr h.1 hf fun b hb hs => h.2.2 b hb hs, ho, fun b hb ho => by
    rcases hat with e | e
    · exact h.2.2 b hb (e ▸ ho)
    · rw [e] at ho; injection ho with ho; subst ho; have := (h.1.lt _ hb).2; omega⟩
end
def SortPost (os : List Int) (w : World) (e : Ending) (w' : World) : Prop :=
  ∃ A c, e = .returned (.slice A os.length c) ∧ Ints .i64 w' A os ∧ os.length ≤ c ∧ c ≤ 9223372036854775807 ∧ Below w.heap.size w w'
section
variable {X : Nat → Prop} {B : Nat} {w w' : World} {g : Nat} {t e : TypeId} {us : List (List Int)}
theorem URow.at3 (h : URow X B w g t e us) {j : Nat} (hj : j < us.length) (hlt : ∀ b, X b → b < w.heap.size) :
    ∃ v, w.cell? ⟨g, j, none⟩ = some v ∧ (∀ b, v.ownBlock = some b → ¬ X b) ∧ ∀ W : World, (∀ b, b < w.heap.size → (b = g ∨ ¬ X b) → W.heap[b]? = w.heap[b]?) → w.heap.size ≤ W.heap.size →
      W.ownsRow B e 1 v us[j].length (us[j].map (Value.int .i64)) ∧
      ∀ (v' : Value) (w1 : World) (x : Int), w1.ownsRow B e 1 v' (us[j].length + 1) (us[j].map (Value.int .i64) ++ [.int .i64 x]) → W.grownBy w1 v.ownBlock → (v'.ownBlock = v.ownBlock ∨ v'.ownBlock = some W.heap.size) →
        w1.cell? ⟨g, j, none⟩ = some v ∧ w1.frozen? ⟨g, j, none⟩ = false ∧ URow X B (w1.setCell ⟨g, j, none⟩ v') g t e (us.set j (us[j] ++ [x])) := by
  obtain ⟨v, hc, ho, hx, -⟩ := h.at_ hlt hj
  refine ⟨v, hc, hx, fun W ha hs => ?_⟩
  have hW := h.agree ha
  obtain ⟨v2, hc2, ho2, hx2, hn2⟩ := hW.at_ (fun b hb => Nat.lt_of_lt_of_le (hlt b hb) hs) hj
  have hv : v2 = v := by
    have e := World.cell?_of_block (w := w) (w' := W) (a := ⟨g, j, none⟩) (ha g h.lt (.inl rfl))
    rw [hc2, hc] at e
    injection e
  subst hv
  refine ⟨ho2, fun v' w1 x h1 h2 h3 => ?_⟩
  have hgb : some g ≠ v2.ownBlock := fun q => hx2 g q.symm h.1
  have hgW : g < W.heap.size := Nat.lt_of_lt_of_le h.lt hs
  refine ⟨h2.cell hc2 hgb, ?_, hn2 v' w1 x h1 h2 h3⟩
  obtain ⟨_, vs, _, hk, _⟩ := hW
  exact (hk.grown h2 hgb).frozen j
theorem URow.shut (h : URow (fun b => b < B) B w g t e us) : URow (fun b => b < B ∨ w.heap.size ≤ b) B w g t e us := by
  obtain ⟨hg, vs, hl, hk, ho, hx, hd⟩ := h
  refine ⟨.inl hg, vs, hl, hk, ho, fun j v b hv hb => ?_, hd⟩
  have h1 : ¬ b < B := hx j v b hv hb
  have hj : j < us.length := by rw [← hl]; exact (List.getElem?_eq_some_iff.1 hv).1
  have h2 := ((ho j hj v hv).lt b hb).2
  omega
/-- What stands while the ready ones and the order are made, in blocks from C on. -/
def SInv (tN : TypeId) (box : Array Value) (B C g2 : Nat) (tL tI : TypeId) (ws : List Int) (us : List (List Int)) (w wr : World) : Prop :=
  Blk wr w.heap.size tN box ∧ Below w.heap.size w wr ∧ C ≤ wr.heap.size ∧ Blk wr (w.heap.size + 1) tI (ws.map (Value.int .i64)).toArray ∧ URow (fun b => b < B ∨ C ≤ b) B wr g2 tL tI us
section
variable {tN : TypeId} {box : Array Value} {C g2 : Nat} {tL tI : TypeId} {ws : List Int} {wr wr' : World} {S : Nat → Prop}
theorem SInv.fr (h : SInv tN box B C g2 tL tI ws us w wr) (hf : Fr S wr wr') (hS : ∀ b, S b → C ≤ b) (h1 : w.heap.size + 1 < B) (h2 : B ≤ C) (h3 : g2 < B) : SInv tN box B C g2 tL tI ws us w wr' := by
  obtain ⟨a1, a2, a3, a4, a5⟩ := h
  have hn : ∀ b, b < C → ¬ S b := fun b hb hs => by have := hS b hs; omega
  refine ⟨hf.blk a1 (hn _ (by omega)), a2.trans (hf.below (fun b hb => by have := hS b hb; omega) a2.size), Nat.le_trans a3 hf.size, hf.blk a4 (hn _ (by omega)), a5.agree fun b hb ho => hf.2 b hb (hn b ?_)⟩
  rcases ho with rfl | ho
  · omega
  · omega
theorem SInv.wait (h : SInv tN box B C g2 tL tI ws us w wr) (u : Nat) (z : Int) (h1 : w.heap.size + 1 < B) (h2 : B ≤ C) (h3 : g2 ≠ w.heap.size + 1) : SInv tN box B C g2 tL tI (ws.set u z) us w (wr.setCell ⟨w.heap.size + 1, u, none⟩ (.int .i64 z)) := by
  obtain ⟨a1, a2, a3, a4, a5⟩ := h
  refine ⟨a1.far (by simp) _, a2.setCell (p := ⟨w.heap.size + 1, u, none⟩) (by simp) _, by simpa using a3, ?_, a5.agree fun b hb ho => Below.heap_setCell wr _ _ b ?_⟩
  · have := a4.set_ u (.int .i64 z)
    simpa [List.map_set] using this
  · rcases ho with rfl | ho
    · exact h3
    · simp; omega
theorem SInv.read (h : SInv tN box B C g2 tL tI ws us w wr) {j : Nat} (hj : j < us.length) : ∃ A c, wr.cell? ⟨g2, j, none⟩ = some (.slice A us[j].length c) ∧ Ints .i64 wr A us[j] ∧ ∀ a, A = some a → B ≤ a.block ∧ a.block < C := by
  obtain ⟨a1, a2, a3, a4, hg, vs, hl, hk, ho, hx, hd⟩ := h
  have hv : vs[j]? = some vs[j] := List.getElem?_eq_getElem (by omega)
  obtain ⟨A, c, e, _, hI⟩ := Ints.of_own (ho j hj _ hv)
  refine ⟨A, c, by rw [hk.cell j]; simpa [e] using hv, hI, fun a ha => ?_⟩
  subst ha
  rcases (ho j hj _ hv).2 with ⟨h1, _⟩ | ⟨g, cap, cur, h1, h2, _⟩
  · rw [h1] at e; cases e
  · rw [e] at h1
    injection h1 with h1
    injection h1 with h1
    subst h1
    have := hx j _ g hv (by rw [e]; rfl)
    exact ⟨h2, by simp at this; simp; omega⟩
end
end
theorem Kn.mid_le (I : Int → List Int) (out a : List Int) (u : Int) : Kn.mid I out a u ≤ (I u).length := by
  unfold Kn.mid Kn.wt
  have := List.length_filter_le (fun i => !(i == 0) && !out.contains i) (I u)
  omega
def slen : Value → Nat
  | .slice _ n _ => n
  | _ => 0
set_option maxRecDepth 20000 in
set_option maxHeartbeats 16000000 in
theorem net_sorted (A N : Option Addr) (c d : Nat) (n : NetD) (w : World) (hok : n.ok) (h512 : n.nodes.length ≤ 512) (hR : NetR w A N n) (hd : n.nodes.length ≤ d) (hins : ∀ v ∈ n.nodes, ∀ i ∈ v.ins, 0 ≤ i ∧ i ≤ n.nodes.length) :
    Calls Tryz.prog 96 #[.agg #[.slice A n.inn.length c, .slice N n.nodes.length d]] w (SortPost (Nt.sorted n.nodes) w) := by
  obtain ⟨i0, hi, hz0, hz1, hz2⟩ := info_parts int_info
  obtain ⟨i1, hj, hy0, hy1, hy2⟩ := info_parts intsT_info
  have hokn := hok.2.2
  have hIlen : ∀ u, (Nt.insF n.nodes u).length ≤ 1048576 := fun u => by
    unfold Nt.insF Nt.node
    rw [List.getD_eq_getElem?_getD]
    cases h : n.nodes[u.toNat - 1]? with
    | none => simp [Nt.none_]
    | some v => exact (hokn v (List.mem_of_getElem? h)).2.2.1
  have hIat : ∀ k (h : k < n.nodes.length), Nt.insF n.nodes ((k : Int) + 1) = n.nodes[k].ins := fun k h => by unfold Nt.insF; rw [Nt.node_at h]
  have hsort : Nt.sorted n.nodes = Kn.order (Nt.insF n.nodes) n.nodes.length := rfl
  generalize Nt.insF n.nodes = I at *
  generalize Nt.sorted n.nodes = os at *
  have hk0 := Blk.new w 26 #[.slice A n.inn.length c, .slice N n.nodes.length d]
  have hb0 : Below w.heap.size w (w.alloc (.cells #[.slice A n.inn.length c, .slice N n.nodes.length d] 26)) := (Below.refl _ _).alloc (Nat.le_refl _) _
  have HR := Lib.hid hR
  have Hins := Lib.hid hins
  have Hokn := Lib.hid hokn
  have HIlen := Lib.hid hIlen
  have HIat := Lib.hid hIat
  have Hsort := Lib.hid hsort
  clear hR hins hokn hIlen hIat hsort
  clear hok
  have e1 : IntKind.i64.wrap ((n.nodes.length : Int) + 1) = ((n.nodes.length + 1 : Nat) : Int) := by rw [IntWalk.i64_in _ (by omega)]; omega
  go_enter Tryz.func96, Tryz.ntmps96
  go_wp2_with (at_make; refine wpList_make_full _ rfl _ _ 22 rfl w.heap.size 3 i0 (.int .i64 0) 1 Tryz.underlying22 hi hz0 hz1 _ _ _ _ (n.nodes.length + 1) rfl rfl (by first | rfl | simp | (go_simp; rfl)) (by first | rfl | simp | (go_simp; rfl)) ?b2 ?b3 ?b4 ?_)
  case b2 => rw [hz2]; omega
  case b3 => unfold maxLen; omega
  case b4 => simp
  intro w1 hown hgrow
  have hblk := own_cur hown
  rw [made_one] at hblk
  have hs1 : w.heap.size + 2 ≤ w1.heap.size := by have := lt_of_block hblk; omega
  have hk1 : Blk w1 (w.heap.size + 1) 3 ((Kn.wl I n.nodes.length 0 []).map (Value.int .i64)).toArray := by
    rw [Kn.wl_zero, List.map_replicate]
    simpa [Blk] using hblk
  have hb1 : Below w.heap.size w w1 := hb0.grown hgrow (by simp) (by simp)
  have hbox : Blk w1 w.heap.size 26 #[.slice A n.inn.length c, .slice N n.nodes.length d] := hk0.grown hgrow (by simp)
  have x1 : w1.cell? ⟨w.heap.size, 1, none⟩ = some (.slice N n.nodes.length d) := by rw [hbox.cell]; rfl
  have Hbox := Lib.hid hbox
  have Hk1 := Lib.hid hk1
  clear hbox hk1
  clear hblk hown hgrow hk0
  go_wp2_with (at_make; refine wpList_make_full _ rfl _ _ 34 rfl w.heap.size 22 i1 (.slice none 0 0) 1 Tryz.underlying34 hj hy0 hy1 _ _ _ _ (n.nodes.length + 1) rfl rfl (by first | rfl | simp | (go_simp; rfl)) (by first | rfl | simp | (go_simp; rfl)) ?b2 ?b3 ?b4 ?_)
  case b2 => rw [hy2]; omega
  case b3 => unfold maxLen; omega
  case b4 => exact hb1.size
  intro w2 hown hgrow
  have hblk := own_cur hown
  rw [made_one] at hblk
  obtain ⟨g2, hg2⟩ : ∃ g2, w1.heap.size = g2 := ⟨_, rfl⟩
  have hb2 : Below w.heap.size w w2 := hb1.grown hgrow hb1.size (by simp)
  have hbox2 := Hbox.out.grown hgrow (by simp)
  have hk2 := Hk1.out.grown hgrow (by simp)
  have x1 : w2.cell? ⟨w.heap.size, 1, none⟩ = some (.slice N n.nodes.length d) := by rw [hbox2.cell]; rfl
  have hblk2 : Blk w2 g2 22 (List.replicate (n.nodes.length + 1) (Value.slice none 0 0)).toArray := by rw [← hg2]; simpa [Blk] using hblk
  have hU : URow (fun b => b < w2.heap.size) w2.heap.size w2 g2 22 3 (Kn.ul I n.nodes.length 0 []) := by rw [Kn.ul_zero]; exact URow.new hblk2.lt hblk2
  have hg2l : g2 < w2.heap.size := hblk2.lt
  have hg12 : w.heap.size + 1 < g2 := by omega
  rw [hg2]
  have Hbox2 := Lib.hid hbox2
  have Hk2 := Lib.hid hk2
  have HU := Lib.hid hU
  clear hbox2 hk2 hU
  clear hblk hown hgrow Hbox Hk1 hblk2 hb1
  obtain ⟨B, hB⟩ : ∃ B, w2.heap.size = B := ⟨_, rfl⟩
  rw [hB] at HU hg2l
  go_wp2_with fail
  clear x1
  have hne1 : ¬ g2 = w.heap.size + 1 := by omega
  have hne2 : ¬ w.heap.size + 1 = g2 := by omega
  have hne3 : ¬ w.heap.size = g2 := by omega
  have hne4 : ¬ g2 = w.heap.size := by omega
  go_loopw [30] (fun i wr => ∃ k : Nat, k ≤ n.nodes.length ∧ i = .int .i64 k ∧ Blk wr w.heap.size 26 #[.slice A n.inn.length c, .slice N n.nodes.length d] ∧ Below w.heap.size w wr ∧ B ≤ wr.heap.size ∧ Blk wr (w.heap.size + 1) 3 ((Kn.wl I n.nodes.length k []).map (Value.int .i64)).toArray ∧ URow (fun b => b < B) B wr g2 22 3 (Kn.ul I n.nodes.length k [])) (fun i _ => n.nodes.length - (intOf i).toNat)
  case atStart => exact ⟨0, Nat.zero_le _, rfl, Hbox2.out, hb2, by omega, Hk2.out, HU.out⟩
  case round =>
    obtain ⟨k, hk, rfl, hbox, hbw, hBw, hkw, hU⟩ := hrel
    clear Hbox2 Hk2 HU hb2 hg2 hB
    by_cases hlt : k < n.nodes.length
    ·
      obtain ⟨b, off, S, sc, J, ic, Q, qc, rfl, hNA, -, hI, -⟩ := HR.out.2.at_ hlt
      have hnok := Hokn.out _ (List.getElem_mem hlt)
      have hin := Hins.out _ (List.getElem_mem hlt)
      have hIk := HIat.out k hlt
      have hil := hnok.2.2.1
      generalize n.nodes[k] = v at *
      obtain ⟨⟨y0, y1, y2, y3, y4, y5, y6, y7, y8, y9⟩, -⟩ := hNA.below hbw
      have hb3 := hbw.alloc hbw.size (.cells #[.int .i64 v.op.kind, .int .i64 v.op.k, .int .i64 v.op.width, .int .i64 v.op.step, .int .i64 v.op.side, .int .i64 v.op.frm, .int .i64 v.op.to, .slice S v.op.s.length sc, .slice J v.ins.length ic, .slice Q v.p.length qc] 67)
      have hbox3 := hbox.alloc (.cells #[.int .i64 v.op.kind, .int .i64 v.op.k, .int .i64 v.op.width, .int .i64 v.op.step, .int .i64 v.op.side, .int .i64 v.op.frm, .int .i64 v.op.to, .slice S v.op.s.length sc, .slice J v.ins.length ic, .slice Q v.p.length qc] 67)
      have hkw3 := hkw.alloc (.cells #[.int .i64 v.op.kind, .int .i64 v.op.k, .int .i64 v.op.width, .int .i64 v.op.step, .int .i64 v.op.side, .int .i64 v.op.frm, .int .i64 v.op.to, .slice S v.op.s.length sc, .slice J v.ins.length ic, .slice Q v.p.length qc] 67)
      have hU3 := hU.agree (w' := wr.alloc (.cells #[.int .i64 v.op.kind, .int .i64 v.op.k, .int .i64 v.op.width, .int .i64 v.op.step, .int .i64 v.op.side, .int .i64 v.op.frm, .int .i64 v.op.to, .slice S v.op.s.length sc, .slice J v.ins.length ic, .slice Q v.p.length qc] 67)) (fun b hb _ => Below.heap_alloc wr _ b hb)
      have HNA := Lib.hid hNA
      have Hnok := Lib.hid hnok
      have Hin := Lib.hid hin
      have Hbox := Lib.hid hbox
      have Hkw := Lib.hid hkw
      have HU := Lib.hid hU
      have Hbox3 := Lib.hid hbox3
      have Hkw3 := Lib.hid hkw3
      have HU3 := Lib.hid hU3
      have HIk := Lib.hid hIk
      clear hNA hnok hin hbox hkw hU hbox3 hkw3 hU3 hIk
      go_wp2_with fail
      clear y0 y1 y2 y3 y4 y5 y6 y7 y8 y9
      go_loopw [38] (fun i wx => ∃ m : Nat, m ≤ v.ins.length ∧ i = .int .i64 m ∧ Blk wx w.heap.size 26 #[.slice A n.inn.length c, .slice (some ⟨b, off, none⟩) n.nodes.length d] ∧ Below w.heap.size w wx ∧ B ≤ wx.heap.size ∧ Blk wx (w.heap.size + 1) 3 ((Kn.wl I n.nodes.length k (v.ins.take m)).map (Value.int .i64)).toArray ∧ URow (fun b => b < B) B wx g2 22 3 (Kn.ul I n.nodes.length k (v.ins.take m))) (fun i _ => v.ins.length - (intOf i).toNat)
      case atStart => exact ⟨0, Nat.zero_le _, rfl, Hbox3.out, hb3, by simp; omega, by rw [List.take_zero]; exact Hkw3.out, by rw [List.take_zero]; exact HU3.out⟩
      case round =>
        obtain ⟨m, hm, rfl, hbox, hbx, hBx, hkx, hUx⟩ := hrel
        clear Hbox Hkw HU Hbox3 Hkw3 HU3 hbw hb3 hBw
        by_cases hlm : m < v.ins.length
        · obtain ⟨b1, off1, rfl, -, hc⟩ := (HNA.out.below hbx).2.2.1 m hlm
          rw [getD_at hlm] at hc
          have hr := Hin.out _ (List.getElem_mem hlm)
          have htk := List.take_succ_eq_append_getElem hlm
          by_cases hz : v.ins[m] = 0
          · rw [hz] at hc htk
            have HW := Lib.hid (show Kn.wl I n.nodes.length k (v.ins.take (m + 1)) = Kn.wl I n.nodes.length k (v.ins.take m) by rw [htk, Kn.wl_skip])
            have HV := Lib.hid (show Kn.ul I n.nodes.length k (v.ins.take (m + 1)) = Kn.ul I n.nodes.length k (v.ins.take m) by rw [htk, Kn.ul_skip])
            have Hkx := Lib.hid hkx
            have HUx := Lib.hid hUx
            have Hbox := Lib.hid hbox
            clear hkx hUx hbox
            clear hz htk hr
            go_wp2_with fail
            go_roundw
            case rel => exact ⟨m + 1, by omega, by go_num, Hbox.out, hbx, hBx, by rw [HW.out]; exact Hkx.out, by rw [HV.out]; exact HUx.out⟩
            case measure => simp [intOf]; omega
          · have HW := Lib.hid (show Kn.wl I n.nodes.length k (v.ins.take (m + 1)) = _ by rw [htk, Kn.wl_in _ _ _ _ hz])
            have hul := Kn.ul_in I n.nodes.length k (v.ins.take m) hz hr.1
            rw [← htk] at hul
            obtain ⟨u, hu⟩ : ∃ u : Nat, v.ins[m] = u := ⟨v.ins[m].toNat, by omega⟩
            have hun : ((u : Int) != 0) = true := by rw [← hu]; simp [hz]
            rw [hu] at hc hr hul
            rw [show ((u : Int)).toNat = u by omega] at hul
            have hlu : u < (Kn.ul I n.nodes.length k (v.ins.take m)).length := by rw [Kn.ul_len]; omega
            have hua := Kn.ul_at I n.nodes.length k (v.ins.take m) hlu
            rw [← hua] at hul
            have HV := Lib.hid hul
            have hlen : (Kn.ul I n.nodes.length k (v.ins.take m))[u].length ≤ (k + 1) * 1048576 := by rw [hua]; exact Kn.uMid_le HIlen.out k (by simp; omega) _
            have hlen2 : (k + 1) * 1048576 ≤ 536870912 := by
              have : (k + 1) * 1048576 ≤ 512 * 1048576 := Nat.mul_le_mul_right _ (by omega)
              omega
            have hwb := Kn.wMid_le HIlen.out k (l := v.ins.take m) (by simp; omega) ((k : Int) + 1)
            obtain ⟨q, hq⟩ : ∃ q, Kn.wMid I k (v.ins.take m) ((k : Int) + 1) = q := ⟨_, rfl⟩
            rw [hq] at hwb HW
            have hcw : wr.cell? ⟨w.heap.size + 1, k + 1, none⟩ = some (.int .i64 (q : Int)) := by
              have e := Kn.wl_at I n.nodes.length k (v.ins.take m) (u := k + 1) (by omega)
              rw [hkx.cell]
              simp only [List.getElem?_toArray, List.getElem?_map, e]
              rw [show ((k + 1 : Nat) : Int) = (k : Int) + 1 by omega, hq]
              rfl
            have hfw := hkx.frozen (k + 1)
            obtain ⟨vv, hcv, hXv, hnx⟩ := hUx.at3 hlu (fun b hb => by omega)
            have hxw : wr.heap.size ≤ ((wr.setCell ⟨w.heap.size + 1, k + 1, none⟩ (.int .i64 ((q : Int) + 1))).alloc (.cells #[.int .i64 ((k : Int) + 1)] 3)).heap.size := by simp
            obtain ⟨ho, hnx⟩ := hnx ((wr.setCell ⟨w.heap.size + 1, k + 1, none⟩ (.int .i64 ((q : Int) + 1))).alloc (.cells #[.int .i64 ((k : Int) + 1)] 3)) (fun b hb hb2 => by
              rw [Below.heap_alloc _ _ b (by simpa using hb)]
              exact Below.heap_setCell wr _ _ b (by rcases hb2 with h | h <;> simp <;> omega)) hxw
            generalize (Kn.ul I n.nodes.length k (v.ins.take m))[u] = uu at *
            obtain ⟨Av, cv, rfl⟩ := own_form ho
            have hvlt : ∀ b, (Value.slice Av uu.length cv).ownBlock = some b → B ≤ b := fun b hb => by have := hXv b hb; omega
            have w1 : IntKind.i64.wrap ((k : Int) + 1) = (k : Int) + 1 := IntWalk.i64_in _ (by omega)
            have w2 : IntKind.i64.wrap ((q : Int) + 1) = (q : Int) + 1 := IntWalk.i64_in _ (by omega)
            have t1 : ((k : Int) + 1).toNat = k + 1 := by omega
            have l1 : ((k : Int) + 1) < ((n.nodes.length + 1 : Nat) : Int) := by omega
            have l2 : (u : Int) < ((n.nodes.length + 1 : Nat) : Int) := by omega
            have u0 : (0 : Int) ≤ u := by omega
            have Hkx := Lib.hid hkx
            have HUx := Lib.hid hUx
            have Hbox := Lib.hid hbox
            have Hnx := Lib.hid hnx
            have Hua := Lib.hid hua
            have Hul := Lib.hid hul
            have HXv := Lib.hid hXv
            have Hq := Lib.hid hq
            have Hvlt := Lib.hid hvlt
            clear hkx hUx hbox hnx hua hul hXv hq hvlt
            clear hz htk hu
            go_wp2_with (at_builtin; refine wpList_append_own_at _ rfl _ _ 22 rfl B 3 i0 (.int .i64 0) 1 8 Tryz.underlying22 hi hz0 hz1 hz2 rfl (by decide) _ _ _ rfl ho ⟨wr.heap.size, 0, none⟩ 1 1 [.int .i64 ((k : Int) + 1)] rfl rfl ?c1 (by intro u hu; simp at hu; subst hu; rfl) (by unfold maxLen; omega) (by omega) (by simp; omega) ?_)
            case c1 =>
              intro j u hj
              match j, hj with
              | 0, hj =>
                simp at hj
                subst hj
                have e := (Blk.new (wr.setCell ⟨w.heap.size + 1, k + 1, none⟩ (.int .i64 ((q : Int) + 1))) 3 #[.int .i64 ((k : Int) + 1)]).cell 0
                simpa [Addr.add] using e
            intro v' w3 hown' hgrow _ hat
            obtain ⟨hc9, hf9, hU9⟩ := Hnx.out v' w3 _ hown' hgrow (by simpa using hat)
            have hvl := Hvlt.out
            have hb9 : Below w.heap.size w w3 := ((hbx.setCell (p := ⟨w.heap.size + 1, k + 1, none⟩) (by simp) (.int .i64 ((q : Int) + 1))).alloc (by simpa using hbx.size) (.cells #[.int .i64 ((k : Int) + 1)] 3)).grown hgrow (by simp; have := hbx.size; omega) (fun b hb => by have := hvl b hb; omega)
            have hB9 : B ≤ w3.heap.size := Nat.le_trans (Nat.le_trans hBx hxw) hgrow.size
            have hbox9 := ((Hbox.out.far (p := ⟨w.heap.size + 1, k + 1, none⟩) (by simp) (.int .i64 ((q : Int) + 1))).alloc (.cells #[.int .i64 ((k : Int) + 1)] 3)).grown hgrow (fun e => by have := hvl _ e.symm; omega)
            have hbox9 := hbox9.far (p := ⟨g2, u, none⟩) hne3 v'
            have hk9 := ((Hkx.out.set_ (k + 1) (.int .i64 ((q : Int) + 1))).alloc (.cells #[.int .i64 ((k : Int) + 1)] 3)).grown hgrow (fun e => by have := hvl _ e.symm; omega)
            have hk9 := hk9.far (p := ⟨g2, u, none⟩) hne2 v'
            have hb9' := hb9.setCell (p := ⟨g2, u, none⟩) (by simp; omega) v'
            have HK := Lib.hid (show Blk (w3.setCell ⟨g2, u, none⟩ v') (w.heap.size + 1) 3 (((Kn.wl I n.nodes.length k (v.ins.take m)).set (k + 1) ((q : Int) + 1)).map (Value.int .i64)).toArray by simpa [List.map_set] using hk9)
            have HU9 := Lib.hid hU9
            have Hbox9 := Lib.hid hbox9
            clear hU9 hbox9
            clear hk9 hvl hgrow hat hb9 hcv
            obtain ⟨A9, c9, rfl⟩ := own_form hown'
            clear hown'
            go_wp2_with fail
            go_roundw
            case rel => exact ⟨m + 1, by omega, by go_num, Hbox9.out, hb9', by simpa using hB9, by rw [HW.out]; exact HK.out, by rw [HV.out]; exact HU9.out⟩
            case measure => simp [intOf]; omega
        · obtain rfl : m = v.ins.length := by omega
          rw [List.take_length] at hkx hUx
          have hIk := HIk.out
          rw [← hIk, Kn.wl_next] at hkx
          rw [← hIk, Kn.ul_next] at hUx
          have Hkx := Lib.hid hkx
          have HUx := Lib.hid hUx
          have Hbox := Lib.hid hbox
          clear hkx hUx hbox
          clear hIk
          go_wp2_with fail
          go_roundw
          case rel => exact ⟨k + 1, by omega, by go_num, Hbox.out, hbx, hBx, Hkx.out, HUx.out⟩
          case measure => simp [intOf]; omega
    · obtain rfl : k = n.nodes.length := by omega
      obtain ⟨C, hC⟩ : ∃ C, wr.heap.size = C := ⟨_, rfl⟩
      have hinv : SInv 26 #[.slice A n.inn.length c, .slice N n.nodes.length d] B C g2 22 3 (Kn.wl I n.nodes.length n.nodes.length []) (Kn.ul I n.nodes.length n.nodes.length []) w wr := ⟨hbox, hbw, by omega, hkw, by rw [← hC]; exact hU.shut⟩
      have hBC : B ≤ C := by omega
      have hwB : w.heap.size + 1 < B := by omega
      have Hinv := Lib.hid hinv
      clear hinv
      clear hkw hU hbox hbw hBw
      go_wp2_with fail
      clear hC
      go_loopw [9, 10] (fun r i wx => ∃ k : Nat, k ≤ n.nodes.length ∧ i = .int .i64 ((k : Int) + 1) ∧ SInv 26 #[.slice A n.inn.length c, .slice N n.nodes.length d] B C g2 22 3 (Kn.wl I n.nodes.length n.nodes.length []) (Kn.ul I n.nodes.length n.nodes.length []) w wx ∧ wx.ownsRow C 3 1 r (Kn.rk I k).length ((Kn.rk I k).map (Value.int .i64))) (fun _ i _ => n.nodes.length + 1 - (intOf i).toNat)
      case atStart => exact ⟨0, Nat.zero_le _, rfl, Hinv.out, by simpa [Kn.rk, Kn.ids] using World.ownsRow_nil wr C 3 1⟩
      case round =>
        obtain ⟨k, hk, rfl, hinv, hown⟩ := hrel
        clear Hinv
        have hx : wr.cell? ⟨w.heap.size, 1, none⟩ = some (.slice N n.nodes.length d) := by rw [hinv.1.cell]; rfl
        obtain ⟨Ar, cr, rfl⟩ := own_form hown
        by_cases hlt : k < n.nodes.length
        ·
          have hwt : wr.cell? ⟨w.heap.size + 1, k + 1, none⟩ = some (.int .i64 (Kn.wt I [] ((k : Int) + 1) : Nat)) := by
            have e := Kn.wl_at I n.nodes.length n.nodes.length [] (u := k + 1) (by omega)
            rw [hinv.2.2.2.1.cell]
            simp only [List.getElem?_toArray, List.getElem?_map, e]
            rw [show ((k + 1 : Nat) : Int) = (k : Int) + 1 by omega, Kn.wMid_end (by omega) (by omega)]
            rfl
          have hs := Kn.rk_succ I k
          have hl := Kn.rk_len I k
          generalize Kn.wt I [] ((k : Int) + 1) = q at *
          have t1 : ((k : Int) + 1).toNat = k + 1 := by omega
          have l0 : (k : Int) + 1 ≤ (n.nodes.length : Int) := by omega
          have l1 : ((k : Int) + 1) < ((n.nodes.length + 1 : Nat) : Int) := by omega
          by_cases hq : q = 0
          · subst hq
            rw [if_pos rfl] at hs
            have hinv2 := hinv.fr ((Fr.refl (fun _ => False) wr).alloc (.cells #[.int .i64 ((k : Int) + 1)] 3)) (fun b hb => hb.elim) hwB hBC hg2l
            have ho := ownsRow_new hown (.cells #[.int .i64 ((k : Int) + 1)] 3)
            have hCb : ∀ b, (Value.slice Ar (Kn.rk I k).length cr).ownBlock = some b → C ≤ b := fun b hb => (hown.lt b hb).1
            have Hinv := Lib.hid hinv
            have Hs := Lib.hid hs
            have Hinv2 := Lib.hid hinv2
            clear hinv hs hinv2
            clear hown
            go_wp2_with (at_builtin; refine wpList_append_own_at _ rfl _ _ 22 rfl C 3 i0 (.int .i64 0) 1 8 Tryz.underlying22 hi hz0 hz1 hz2 rfl (by decide) _ _ _ rfl ho ⟨wr.heap.size, 0, none⟩ 1 1 [.int .i64 ((k : Int) + 1)] rfl rfl ?c1 (by intro u hu; simp at hu; subst hu; rfl) (by unfold maxLen; omega) (by omega) ?c2 ?_)
            case c1 => exact one_new wr _ _
            case c2 => exact Hinv2.out.2.2.1
            intro v' w3 hown' hgrow _ hat
            have HI3 := Lib.hid (Hinv2.out.fr (Fr.of_grown (S := fun b => C ≤ b) hgrow (fun b hb _ => hCb b hb)) (fun b hb => hb) hwB hBC hg2l)
            have HO3 := Lib.hid (show w3.ownsRow C 3 1 v' (Kn.rk I (k + 1)).length ((Kn.rk I (k + 1)).map (Value.int .i64)) by rw [Hs.out]; simpa using hown')
            clear hown' hgrow hat
            go_wp2_with fail
            go_roundw
            case rel => exact ⟨k + 1, by omega, by go_num, HI3.out, HO3.out⟩
            case measure => simp [intOf]; omega
          · have hqq : ((q : Int) == 0) = false := by simp; omega
            rw [if_neg hq] at hs
            have Hinv := Lib.hid hinv
            have Hs := Lib.hid hs
            have Hown := Lib.hid hown
            clear hinv hs hown
            go_wp2_with fail
            go_roundw
            case rel => exact ⟨k + 1, by omega, by go_num, Hinv.out, by rw [Hs.out]; exact Hown.out⟩
            case measure => simp [intOf]; omega
        · obtain rfl : k = n.nodes.length := by omega
          rw [Kn.rk_all] at hown
          have l0 : ¬ ((n.nodes.length : Int) + 1 ≤ (n.nodes.length : Int)) := by omega
          rw [Kn.wm_start] at hinv
          have hkl : (Kn.rk I n.nodes.length).length = (Kn.ready I n.nodes.length []).length := by rw [Kn.rk_all]
          rw [hkl]
          have hCb : ∀ b, (Value.slice Ar (Kn.ready I n.nodes.length []).length cr).ownBlock = some b → C ≤ b ∧ b < wr.heap.size := fun b hb => hown.lt b hb
          have Hinv := Lib.hid hinv
          have Hown := Lib.hid hown
          have HCb := Lib.hid hCb
          clear hinv hown hCb
          go_wp2_with (at_make; refine wpList_make_own _ rfl _ _ 22 rfl C 3 i0 (.int .i64 0) 1 Tryz.underlying22 hi hz0 hz1 _ _ _ n.nodes.length rfl (by first | rfl | simp | (go_simp; rfl)) (by first | rfl | simp | (go_simp; rfl)) ?b2 ?b3 ?b4 ?_)
          case b2 => first | omega | (rw [hz2]; omega)
          case b3 => unfold maxLen; omega
          case b4 => exact Hinv.out.2.2.1
          intro w4 hown4 hgrow
          have HI4 := Lib.hid (Hinv.out.fr (Fr.of_grown (S := fun b => C ≤ b) hgrow (fun b hb _ => by cases hb)) (fun b hb => hb) hwB hBC hg2l)
          have HT4 := Lib.hid (show Two C 3 w4 (.slice Ar (Kn.ready I n.nodes.length []).length cr) (.slice (some ⟨wr.heap.size, 0, none⟩) 0 n.nodes.length) (Kn.ready I n.nodes.length []) [] from ⟨ownsRow_grown Hown.out hgrow (fun b _ h => by cases h), hown4, fun b hb h => by have := (HCb.out b hb).2; simp [Value.ownBlock] at h; omega⟩)
          clear hgrow
          have Hown4 := Lib.hid hown4
          clear hown4
          go_wp2_with fail
          clear hx l0 Hown Hinv HCb
          generalize hro : Value.slice Ar (Kn.ready I n.nodes.length []).length cr = r0 at *
          generalize hoo : Value.slice (some ⟨wr.heap.size, 0, none⟩) 0 n.nodes.length = o0 at *
          clear hro hoo hkl hk hlt x1 e1 hb0 hs1
          go_loopw [9, 11] (fun r o wx => ∃ k : Nat, (Kn.go I n.nodes.length k).length = k ∧ SInv 26 #[.slice A n.inn.length c, .slice N n.nodes.length d] B C g2 22 3 (Kn.wm I n.nodes.length (Kn.go I n.nodes.length k) []) (Kn.ul I n.nodes.length n.nodes.length []) w wx ∧ Two C 3 wx r o (Kn.ready I n.nodes.length (Kn.go I n.nodes.length k)) (Kn.go I n.nodes.length k)) (fun _ o _ => n.nodes.length + 1 - slen o)
          case atStart => exact ⟨0, rfl, HI4.out, HT4.out⟩
          case round =>
            obtain ⟨k, hkl, hinv, htwo⟩ := hrel
            clear HI4 HT4 Hown4
            obtain ⟨Ar, cr, rfl⟩ := own_form htwo.1
            obtain ⟨Ao, co, rfl⟩ := own_form htwo.2.1
            have hok := Kn.go_ok I n.nodes.length k
            have hmore := @Kn.go_more I n.nodes.length k
            have hstuck := @Kn.order_of_stuck I n.nodes.length k hkl
            generalize Kn.go I n.nodes.length k = out at *
            have hmid := @Kn.mid_start I n.nodes.length out
            have hrl := Kn.ready_len I n.nodes.length out
            have hol := hok.len
            subst hkl
            cases hrd : Kn.ready I n.nodes.length out with
            | nil =>
              rw [hrd] at htwo
              have hor := hstuck hrd
              rw [← Hsort.out] at hor
              subst hor
              clear hmore hmid
              have Hinv := Lib.hid hinv
              have Htwo := Lib.hid htwo
              have Hok := Lib.hid hok
              have Hstuck := Lib.hid hstuck
              have Hrd := Lib.hid hrd
              clear hinv htwo hok hstuck hrd
              go_wp2_with fail
              go_ret
              obtain ⟨q1, q2, q3⟩ := own_ints Htwo.out.2.1
              exact ⟨Ao, co, rfl, q1, q2, q3, Hinv.out.2.1⟩
            | cons id rest =>
              have hid : id ∈ Kn.ready I n.nodes.length out := by rw [hrd]; simp
              have hrng := (Kn.mem_ready.1 hid).1
              obtain ⟨j, rfl⟩ : ∃ j : Nat, id = (j : Int) := ⟨id.toNat, by omega⟩
              replace hmore := hmore hrd
              replace hmid := hmid hrd
              rw [hrd] at htwo hrl
              obtain ⟨hI1, -⟩ := own_ints htwo.1
              obtain ⟨b1, off1, rfl, -, hc1⟩ := hI1 0 (by simp)
              rw [Nat.add_zero] at hc1
              replace hc1 : wr.cell? ⟨b1, off1, none⟩ = some (.int .i64 (j : Int)) := hc1
              have hz : 0 < rest.length + 1 := by omega
              clear hstuck hI1
              have hrl2 : rest.length + 1 ≤ 512 := by simp at hrl; omega
              clear hrl hz
              rw [List.length_cons] at htwo
              have Hid_ := Lib.hid hid
              clear hid
              have Hinv := Lib.hid hinv
              have Htwo := Lib.hid htwo
              have Hok := Lib.hid hok
              have Hmid := Lib.hid hmid
              have Hmore := Lib.hid hmore
              have Hrd := Lib.hid hrd
              clear hinv htwo hok hmid hmore hrd
              go_wp2_with fail
              refine (delete_own C _ _ rest _ (by simp; omega) Htwo.out.1).mono ?_
              rintro e w5 ⟨v5, rfl, ho5, hf5, hat5⟩
              have hinv5 := Hinv.out.fr hf5 (fun b hb => (Htwo.out.1.lt b hb).1) hwB hBC hg2l
              have htwo5 := Htwo.out.left hf5 ho5 hat5
              have hinv6 := hinv5.fr ((Fr.refl (fun _ => False) w5).alloc (.cells #[.int .i64 (j : Int)] 3)) (fun b hb => hb.elim) hwB hBC hg2l
              have htwo6 := htwo5.new (.cells #[.int .i64 (j : Int)] 3)
              obtain ⟨A5, c5, rfl⟩ := own_form ho5
              clear Hinv Htwo hf5 hat5 hinv5 htwo5 ho5 hc1
              have Hinv6 := Lib.hid hinv6
              have Htwo6 := Lib.hid htwo6
              clear hinv6 htwo6
              go_wp2_with (at_builtin; refine wpList_append_own_at _ rfl _ _ 22 rfl C 3 i0 (.int .i64 0) 1 8 Tryz.underlying22 hi hz0 hz1 hz2 rfl (by decide) _ _ _ rfl Htwo6.out.2.1 ⟨w5.heap.size, 0, none⟩ 1 1 [.int .i64 (j : Int)] rfl rfl ?c1 (by intro u hu; simp at hu; subst hu; rfl) (by unfold maxLen; omega) (by omega) ?c2 ?_)
              case c1 => exact one_new w5 _ _
              case c2 => exact Hinv6.out.2.2.1
              intro v7 w7 hown7 hgrow7 _ hat7
              have hfr7 : Fr (fun b => (Value.slice Ao out.length co).ownBlock = some b) _ w7 := Fr.of_grown hgrow7 (fun b hb _ => hb)
              have hinv7 := Hinv6.out.fr hfr7 (fun b hb => (Htwo6.out.2.1.lt b hb).1) hwB hBC hg2l
              have htwo7 := Htwo6.out.right (zo' := out ++ [(j : Int)]) hfr7 (by simpa using hown7) (by simpa using hat7)
              clear Hinv6 Htwo6 hown7 hgrow7 hat7 hfr7
              have hjl : j < (Kn.ul I n.nodes.length n.nodes.length []).length := by rw [Kn.ul_len]; omega
              obtain ⟨Au, cu, hcu, hIu, hAu⟩ := hinv7.read hjl
              have hus : (Kn.ul I n.nodes.length n.nodes.length [])[j] = Kn.users I n.nodes.length (j : Int) := by rw [Kn.ul_at, Kn.uMid_end (by omega)]
              rw [hus] at hcu hIu
              have hul : (Kn.users I n.nodes.length (j : Int)).length ≤ 537919488 := by
                have h1 := Kn.uMid_le HIlen.out n.nodes.length (l := []) (by simp) (j : Int)
                rw [Kn.uMid_end (by omega)] at h1
                have : (n.nodes.length + 1) * 1048576 ≤ 513 * 1048576 := Nat.mul_le_mul_right _ (by omega)
                omega
              have hue := @Kn.mid_end_ready I n.nodes.length out (j : Int) Hid_.out
              have hwe := @Kn.wm_next I n.nodes.length out (j : Int) Hid_.out
              have hmp := fun a b u (h : Kn.users I n.nodes.length (j : Int) = a ++ u :: b) => Kn.mid_pos Hok.out Hid_.out h
              have hms := fun a b u (h : Kn.users I n.nodes.length (j : Int) = a ++ u :: b) => Kn.mid_stay Hok.out Hid_.out h
              have hmt := fun a b u (h : Kn.users I n.nodes.length (j : Int) = a ++ u :: b) => Kn.mid_put' Hok.out Hid_.out h
              obtain ⟨us, husd⟩ : ∃ us, Kn.users I n.nodes.length (j : Int) = us := ⟨_, rfl⟩
              rw [husd] at hcu hIu hul hue hwe hmp hms hmt
              obtain ⟨A7, c7, rfl⟩ := own_form htwo7.2.1
              generalize hro : Value.slice A5 rest.length c5 = r5 at *
              clear hro
              rw [← Hmid.out] at htwo7
              have j0 : (0 : Int) ≤ (j : Int) := by omega
              have j1 : (j : Int) < ((n.nodes.length + 1 : Nat) : Int) := by omega
              have Hinv7 := Lib.hid hinv7
              have Htwo7 := Lib.hid htwo7
              have HIu := Lib.hid hIu
              have HAu := Lib.hid hAu
              have Hus := Lib.hid hus
              have Husd := Lib.hid husd
              have Hue := Lib.hid hue
              have Hwe := Lib.hid hwe
              have Hmp := Lib.hid hmp
              have Hms := Lib.hid hms
              have Hmt := Lib.hid hmt
              clear hinv7 htwo7 hIu hAu hus husd hue hwe hmp hms hmt
              clear Hrd Hmid
              go_wp2_with fail
              clear Hus
              clear hcu j0 j1 hjl
              go_loopw [9, 101] (fun r i wx => ∃ m : Nat, m ≤ us.length ∧ i = .int .i64 m ∧ SInv 26 #[.slice A n.inn.length c, .slice N n.nodes.length d] B C g2 22 3 (Kn.wm I n.nodes.length out (us.take m)) (Kn.ul I n.nodes.length n.nodes.length []) w wx ∧ Two C 3 wx r (.slice A7 (out ++ [(j : Int)]).length c7) (Kn.midReady I n.nodes.length out (j : Int) (us.take m)) (out ++ [(j : Int)]) ∧ Ints .i64 wx Au us) (fun _ i _ => us.length - (intOf i).toNat)
              case atStart => exact ⟨0, Nat.zero_le _, rfl, Hinv7.out, Htwo7.out, HIu.out⟩
              case round =>
                obtain ⟨m, hm, rfl, hinv, htwo, hIu⟩ := hrel
                clear Hinv7 Htwo7 HIu
                by_cases hlm : m < us.length
                · have hspl : us = us.take m ++ us[m] :: us.drop (m + 1) := by rw [← List.drop_eq_getElem_cons hlm, List.take_append_drop]
                  have htk := List.take_succ_eq_append_getElem hlm
                  obtain ⟨b1, off1, rfl, -, hc1⟩ := hIu m hlm
                  rw [getD_at hlm] at hc1
                  obtain ⟨p1, p2, p3, p4, p5⟩ := Hmp.out _ _ _ hspl
                  have hst := Hms.out _ _ _ hspl
                  have hpt := Hmt.out _ _ _ hspl
                  have hwi := @Kn.wm_in I n.nodes.length out (us.take m) us[m] p3
                  rw [← htk] at hst hpt hwi p5
                  obtain ⟨u, hu⟩ : ∃ u : Nat, us[m] = (u : Int) := ⟨us[m].toNat, by omega⟩
                  rw [hu] at hc1 p1 p2 p3 p4 p5 hst hpt hwi
                  rw [Int.toNat_natCast] at hwi
                  have hql : Kn.mid I out (us.take m) (u : Int) ≤ 1048576 := Nat.le_trans (Kn.mid_le _ _ _ _) (HIlen.out _)
                  have hwc : wr.cell? ⟨w.heap.size + 1, u, none⟩ = some (.int .i64 ((Kn.mid I out (us.take m) (u : Int) : Nat) : Int)) := by
                    rw [hinv.2.2.2.1.cell]
                    simp only [List.getElem?_toArray, List.getElem?_map]
                    rw [Kn.wm_at _ _ _ _ (by omega) (by omega)]
                    rfl
                  have hwf := hinv.2.2.2.1.frozen u
                  generalize hq2 : Kn.mid I out (us.take (m + 1)) (u : Int) = q at *
                  rw [← p5] at hwc hql
                  have hinvw := hinv.wait u (q : Int) hwB hBC hne1
                  rw [← hwi] at hinvw
                  have hfw : Fr (fun b => b = w.heap.size + 1) wr (wr.setCell ⟨w.heap.size + 1, u, none⟩ (.int .i64 (q : Int))) := (Fr.refl (fun b => b = w.heap.size + 1) wr).setCell (p := ⟨w.heap.size + 1, u, none⟩) (fun _ => rfl) (.int .i64 (q : Int))
                  have htwow := htwo.fr hfw (fun b hb => by omega)
                  have hIw := hIu.set_far (p := ⟨w.heap.size + 1, u, none⟩) (fun a ha => by have := HAu.out a ha; simp; omega) (.int .i64 (q : Int))
                  have u0 : (0 : Int) ≤ (u : Int) := by omega
                  have u1 : (u : Int) < ((n.nodes.length + 1 : Nat) : Int) := by omega
                  have hqe : ((q + 1 : Nat) : Int) = (q : Int) + 1 := by omega
                  rw [hqe] at hwc
                  have hq1 : (q : Int) + 1 - 1 = (q : Int) := by omega
                  have hmrl := Kn.midReady_len I n.nodes.length out (j : Int) (us.take m)
                  have hmrs := Kn.midReady_sorted I n.nodes.length out (j : Int) (us.take m)
                  by_cases hq : q = 0
                  · subst hq
                    replace hpt := hpt rfl
                    generalize Kn.midReady I n.nodes.length out (j : Int) (us.take m) = mr at *
                    have hsle : mr.Pairwise (· ≤ ·) := hmrs.imp fun h => Int.le_of_lt h
                    clear hst hwi hinv htwo hIu htk hspl p5 hq2 hqe hmrs hfw
                    rw [show ((0 : Nat) : Int) = 0 from rfl] at hinvw htwow hIw
                    have Hinvw := Lib.hid hinvw
                    have Htwow := Lib.hid htwow
                    have HIw := Lib.hid hIw
                    have Hu := Lib.hid hu
                    have Hpt := Lib.hid hpt
                    have Hsle := Lib.hid hsle
                    clear hinvw htwow hIw hu hpt hsle
                    go_wp2_with fail
                    refine (search_own C _ (u : Int) mr _ (by omega) Hsle.out Htwow.out.1).mono ?_
                    rintro e w8 ⟨⟨bb, rfl⟩, qq, rfl⟩
                    go_wp2_with fail
                    have hcl : mr.countP (fun x => decide (x < (u : Int))) ≤ mr.length := List.countP_le_length
                    have hf9 := ((Fr.refl (fun _ => False) (wr.setCell ⟨w.heap.size + 1, u, none⟩ (.int .i64 0))).drewN qq).alloc (.cells #[.int .i64 (u : Int)] 3)
                    have hinv9 := Hinvw.out.fr hf9 (fun b hb => hb.elim) hwB hBC hg2l
                    have htwo9 := Htwow.out.fr hf9 (fun b hb => hb.elim)
                    have hI9 := (HIw.out.drewN qq).alloc (.cells #[.int .i64 (u : Int)] 3)
                    have hb9 : Blk (((wr.setCell ⟨w.heap.size + 1, u, none⟩ (.int .i64 0)).drewN qq).alloc (.cells #[.int .i64 (u : Int)] 3)) wr.heap.size 3 #[.int .i64 (u : Int)] := by
                      have := Blk.new ((wr.setCell ⟨w.heap.size + 1, u, none⟩ (.int .i64 0)).drewN qq) 3 #[.int .i64 (u : Int)]
                      simpa using this
                    have hne9 : u9.ownBlock ≠ some wr.heap.size := fun e => by have := (Htwow.out.1.lt _ e).2; simp at this
                    refine (insert_own C u9 mr (u : Int) _ wr.heap.size _ hcl (by omega) hinv9.2.2.1 htwo9.1 hb9 hne9).mono ?_
                    rintro e w10 ⟨v10, rfl, ho10, hf10, hat10⟩
                    have hinv10 := hinv9.fr hf10 (fun b hb => (htwo9.1.lt b hb).1) hwB hBC hg2l
                    have htwo10 := htwo9.left hf10 ho10 hat10
                    have hI10 := hf10.ints hI9 (fun a ha hb => by have h1 := (htwo9.1.lt _ hb).1; have h2 := (HAu.out a ha).2; omega)
                    rw [← Hpt.out] at htwo10
                    clear hinv9 htwo9 hI9 hb9 hf9 ho10 hf10 hat10 hcl hne9
                    have Hinv10 := Lib.hid hinv10
                    have Htwo10 := Lib.hid htwo10
                    have HI10 := Lib.hid hI10
                    clear hinv10 htwo10 hI10
                    go_wp2_with fail
                    go_roundw
                    case rel => exact ⟨m + 1, by omega, by go_num, Hinv10.out, Htwo10.out, HI10.out⟩
                    case measure => simp [intOf]; omega
                  · have hqq : ((q : Int) == 0) = false := by simp; omega
                    replace hst := hst hq
                    rw [← hst] at htwow
                    clear hst hpt hwi hinv htwo hIu htk hspl p5 hq2 hqe hmrs hfw
                    have Hinvw := Lib.hid hinvw
                    have Htwow := Lib.hid htwow
                    have HIw := Lib.hid hIw
                    have Hu := Lib.hid hu
                    clear hinvw htwow hIw hu
                    go_wp2_with fail
                    go_roundw
                    case rel => exact ⟨m + 1, by omega, by go_num, Hinvw.out, Htwow.out, HIw.out⟩
                    case measure => simp [intOf]; omega
                · obtain rfl : m = us.length := by omega
                  rw [List.take_length] at hinv htwo
                  rw [Hwe.out] at hinv
                  rw [Hue.out, show (out ++ [(j : Int)]).length = out.length + 1 by simp] at htwo
                  have hmo := Hmore.out
                  rw [← hmo] at hinv htwo
                  have hln : (Kn.go I n.nodes.length (out.length + 1)).length = out.length + 1 := by rw [hmo]; simp
                  have Hinv := Lib.hid hinv
                  have Htwo := Lib.hid htwo
                  have HIu := Lib.hid hIu
                  have Hmo := Lib.hid hmo
                  have Hln := Lib.hid hln
                  clear hinv htwo hIu hmo hln
                  go_wp2_with fail
                  exact ⟨⟨out.length + 1, Hln.out, Hinv.out, Htwo.out⟩, by simp only [slen]; omega⟩
end Go.Proofs.YtnffjfjhbjeaiaaGreatDoor
/- Layer 11 (net): look: contract. -/
namespace Go.Proofs.YtnffjfjhbjeaiaaGreatDoor
open Go.RowKit

/-- What is known of a net, or what is first wrong. -/
def StudyP (n : NetD) (w : World) (e : Ending) (w' : World) : Prop :=
  Below w.heap.size w w' ∧ ((Nt.check n = 0 ∧ ∃ O oc g, e = .returned (.tuple #[.agg #[.slice O n.nodes.length oc, .slice (some ⟨g, 0, none⟩) (n.nodes.length + 1) (n.nodes.length + 1), .int .i64 (Nt.loss n.nodes)], .int .i64 0]) ∧
      Ints .i64 w' O (Nt.sorted n.nodes) ∧ n.nodes.length ≤ oc ∧ oc ≤ 9223372036854775807 ∧ w.heap.size ≤ g ∧ ShpRow w' g 23 (Nt.shapes n)) ∨
    (Nt.check n ≠ 0 ∧ e = .returned (.tuple #[.agg #[.slice none 0 0, .slice none 0 0, .int .i64 0], .int .i64 (Nt.check n)])))
namespace Nt
theorem check_many {n : NetD} (h : n.nodes.length < 1 ∨ 512 < n.nodes.length) : check n = 12 := by unfold check; rw [if_pos h]
theorem check_in {n : NetD} (h : ¬ (n.nodes.length < 1 ∨ 512 < n.nodes.length)) (h2 : Sh.right n.inn = false) : check n = 20 := by unfold check; rw [if_neg h, if_pos h2]
theorem check_bads {n : NetD} (h : ¬ (n.nodes.length < 1 ∨ 512 < n.nodes.length)) (h2 : Sh.right n.inn = true) (h3 : bads n.nodes.length n.nodes ≠ 0) : check n = bads n.nodes.length n.nodes := by
  unfold check; rw [if_neg h, if_neg (by simp [h2]), if_pos h3]
theorem check_cyc {n : NetD} (h : ¬ (n.nodes.length < 1 ∨ 512 < n.nodes.length)) (h2 : Sh.right n.inn = true) (h3 : bads n.nodes.length n.nodes = 0) (h4 : (sorted n.nodes).length ≠ n.nodes.length) : check n = 22 := by
  unfold check; rw [if_neg h, if_neg (by simp [h2]), if_neg (by simp [h3]), if_pos h4]
theorem check_lay {n : NetD} (h : ¬ (n.nodes.length < 1 ∨ 512 < n.nodes.length)) (h2 : Sh.right n.inn = true) (h3 : bads n.nodes.length n.nodes = 0) (h4 : (sorted n.nodes).length = n.nodes.length) (h5 : (lay n.nodes (start n) (sorted n.nodes)).2 ≠ 0) : check n = (lay n.nodes (start n) (sorted n.nodes)).2 := by
  unfold check; rw [if_neg h, if_neg (by simp [h2]), if_neg (by simp [h3]), if_neg (by simp [h4]), if_pos h5]
theorem check_loss {n : NetD} (h : ¬ (n.nodes.length < 1 ∨ 512 < n.nodes.length)) (h2 : Sh.right n.inn = true) (h3 : bads n.nodes.length n.nodes = 0) (h4 : (sorted n.nodes).length = n.nodes.length) (h5 : (lay n.nodes (start n) (sorted n.nodes)).2 = 0) (h6 : lossOk n.nodes = false) : check n = 23 := by
  unfold check; rw [if_neg h, if_neg (by simp [h2]), if_neg (by simp [h3]), if_neg (by simp [h4]), if_neg (by simp [h5]), if_pos h6]
theorem check_last {n : NetD} (h : ¬ (n.nodes.length < 1 ∨ 512 < n.nodes.length)) (h2 : Sh.right n.inn = true) (h3 : bads n.nodes.length n.nodes = 0) (h4 : (sorted n.nodes).length = n.nodes.length) (h5 : (lay n.nodes (start n) (sorted n.nodes)).2 = 0) (h6 : lossOk n.nodes = true) :
    check n = if Safe.prod ((shapes n).getD (loss n.nodes).toNat []) ≠ 1 then 23 else 0 := by
  unfold check; rw [if_neg h, if_neg (by simp [h2]), if_neg (by simp [h3]), if_neg (by simp [h4]), if_neg (by simp [h5]), if_neg (by simp [h6])]
theorem bads_op {n : Nat} {ns : List NodeD} {k : Nat} (hk : k < ns.length) (h : ∀ j (hj : j < ns.length), j < k → Od.right ns[j].op = true ∧ ns[j].ins.all (fun i => decide (0 ≤ i ∧ i ≤ n)) = true) (hr : Od.right ns[k].op = false) : bads n ns = 21 := by
  rw [bads_take h, List.drop_eq_getElem_cons hk, bads, if_neg (by simp [hr])]
theorem bads_in {n : Nat} {ns : List NodeD} {k : Nat} (hk : k < ns.length) (h : ∀ j (hj : j < ns.length), j < k → Od.right ns[j].op = true ∧ ns[j].ins.all (fun i => decide (0 ≤ i ∧ i ≤ n)) = true) (hr : Od.right ns[k].op = true) {m : Nat} (hm : m < ns[k].ins.length) (hb : ¬ (0 ≤ ns[k].ins[m] ∧ ns[k].ins[m] ≤ n)) : bads n ns = 11 := by
  rw [bads_take h, List.drop_eq_getElem_cons hk, bads, if_pos hr, if_neg]
  intro ha
  have := List.all_eq_true.1 ha _ (List.getElem_mem hm)
  simp at this
  exact hb this
theorem bads_none {n : Nat} {ns : List NodeD} (h : ∀ j (hj : j < ns.length), j < ns.length → Od.right ns[j].op = true ∧ ns[j].ins.all (fun i => decide (0 ≤ i ∧ i ≤ n)) = true) : bads n ns = 0 := by
  rw [bads_take h, List.drop_length, bads]
end Nt
def lookBad (n : NetD) (k : Nat) : Prop := ∀ j (hj : j < n.nodes.length), j < k → Od.right n.nodes[j].op = true ∧ n.nodes[j].ins.all (fun i => decide (0 ≤ i ∧ i ≤ n.nodes.length)) = true

theorem below_set3 {B g : Nat} {w w1 : World} (h : Below B w w1) (hg : B ≤ g) (a b c : Value) : Below B w (((w1.setCell ⟨g, 0, none⟩ a).setCell ⟨g, 1, none⟩ b).setCell ⟨g, 2, none⟩ c) :=
  ((h.setCell (p := ⟨g, 0, none⟩) hg a).setCell (p := ⟨g, 1, none⟩) hg b).setCell (p := ⟨g, 2, none⟩) hg c
theorem set3_heap {g k : Nat} {w : World} (a b c : Value) (h : k ≠ g) : (((w.setCell ⟨g, 0, none⟩ a).setCell ⟨g, 1, none⟩ b).setCell ⟨g, 2, none⟩ c).heap[k]? = w.heap[k]? := by
  rw [Below.heap_setCell _ ⟨g, 2, none⟩ c k h, Below.heap_setCell _ ⟨g, 1, none⟩ b k h, Below.heap_setCell _ ⟨g, 0, none⟩ a k h]
/-- What is not nought is not among the study's cells. -/
theorem ints_set3 {g : Nat} {t : TypeId} {w : World} {S : Option Addr} {zs : List Int} (hI : Ints .i64 w S zs) (hb : Blk w g t #[.slice none 0 0, .slice none 0 0, .int .i64 0]) (hz : ∀ z ∈ zs, z ≠ 0) (a b c : Value) :
    Ints .i64 (((w.setCell ⟨g, 0, none⟩ a).setCell ⟨g, 1, none⟩ b).setCell ⟨g, 2, none⟩ c) S zs := fun j hj => by
  obtain ⟨b0, off, e, hl, hc⟩ := hI j hj
  have hne : b0 ≠ g := fun q => by
    subst q
    rw [hb.cell] at hc
    have hzj : zs.getD j 0 ≠ 0 := by rw [getD_at hj]; exact hz _ (List.getElem_mem hj)
    match h : off + j, hc with
    | 0, hc => simp at hc
    | 1, hc => simp at hc
    | 2, hc => simp at hc; exact hzj (by simpa using hc.symm)
    | q + 3, hc => simp at hc
  refine ⟨b0, off, e, by simpa using hl, ?_⟩
  exact (World.cell?_of_block (w := w) (a := ⟨b0, off + j, none⟩) (set3_heap a b c hne)).trans hc
theorem shpRow_set3 {g g' : Nat} {t t' : TypeId} {w : World} {sh : List (List Int)} (h : ShpRow w g' t' sh) (hb : Blk w g t #[.slice none 0 0, .slice none 0 0, .int .i64 0]) (hg : g' ≠ g) (hz : ∀ s ∈ sh, ∀ z ∈ s, z ≠ 0) (a b c : Value) :
    ShpRow (((w.setCell ⟨g, 0, none⟩ a).setCell ⟨g, 1, none⟩ b).setCell ⟨g, 2, none⟩ c) g' t' sh := by
  obtain ⟨vs, hl, hk, hv⟩ := h
  refine ⟨vs, hl, (set3_heap a b c hg).trans hk, fun j hj => ?_⟩
  obtain ⟨S, d, e, hI, h2⟩ := hv j hj
  exact ⟨S, d, e, ints_set3 hI hb (hz _ (List.getElem_mem hj)) a b c, h2⟩
theorem study_cells {w : World} {g : Nat} {t : TypeId} (h : Blk w g t #[.slice none 0 0, .slice none 0 0, .int .i64 0]) :
    w.cell? ⟨g, 0, none⟩ = some (.slice none 0 0) ∧ w.cell? ⟨g, 1, none⟩ = some (.slice none 0 0) ∧ w.cell? ⟨g, 2, none⟩ = some (.int .i64 0) ∧ w.frozen? ⟨g, 0, none⟩ = false ∧ w.frozen? ⟨g, 1, none⟩ = false ∧ w.frozen? ⟨g, 2, none⟩ = false :=
  ⟨h.cell 0, h.cell 1, h.cell 2, h.frozen 0, h.frozen 1, h.frozen 2⟩
set_option maxRecDepth 20000 in
set_option maxHeartbeats 16000000 in
theorem net_look (A N : Option Addr) (c d : Nat) (n : NetD) (w : World) (hok : n.ok) (hR : NetR w A N n) (hd : n.nodes.length ≤ d) :
    Calls Tryz.prog 77 #[.agg #[.slice A n.inn.length c, .slice N n.nodes.length d]] w (StudyP n w) := by
  have hnl := hok.2.1
  have hil := hok.1
  have hb0 := below2 w (.cells #[.slice A n.inn.length c, .slice N n.nodes.length d] 26) (.cells #[.slice none 0 0, .slice none 0 0, .int .i64 0] 131)
  have hk0 := (Blk.new w 26 #[.slice A n.inn.length c, .slice N n.nodes.length d]).alloc (.cells #[.slice none 0 0, .slice none 0 0, .int .i64 0] 131)
  have hs0 := Blk.new (w.alloc (.cells #[.slice A n.inn.length c, .slice N n.nodes.length d] 26)) 131 #[.slice none 0 0, .slice none 0 0, .int .i64 0]
  rw [World.size_alloc] at hs0
  have hR0 := hR.below hb0 (Nat.le_refl _)
  by_cases hmany : n.nodes.length < 1 ∨ 512 < n.nodes.length
  · have HC := Lib.hid (Nt.check_many hmany)
    have HR := Lib.hid hR
    have Hok := Lib.hid hok
    have HR0 := Lib.hid hR0
    clear hR hok hR0
    clear hk0 hs0
    rcases hmany with h | h
    · have d1 : decide ((n.nodes.length : Int) < 1) = true := by simp; omega
      go_enter Tryz.func77, Tryz.ntmps77
      go_wp2_with fail
      exact bodyPost_ret (v := .tuple #[.agg #[.slice none 0 0, .slice none 0 0, .int .i64 0], .int .i64 12]) (by simp [results, Tryz.results77, go_sem]) rfl ⟨hb0, .inr (by rw [HC.out]; exact ⟨by omega, rfl⟩)⟩
    · have d1 : decide ((n.nodes.length : Int) < 1) = false := by simp; omega
      have d2 : decide ((512 : Int) < (n.nodes.length : Int)) = true := by simp; omega
      go_enter Tryz.func77, Tryz.ntmps77
      go_wp2_with fail
      exact bodyPost_ret (v := .tuple #[.agg #[.slice none 0 0, .slice none 0 0, .int .i64 0], .int .i64 12]) (by simp [results, Tryz.results77, go_sem]) rfl ⟨hb0, .inr (by rw [HC.out]; exact ⟨by omega, rfl⟩)⟩
  · have d1 : decide ((n.nodes.length : Int) < 1) = false := by simp; omega
    have d2 : decide ((512 : Int) < (n.nodes.length : Int)) = false := by simp; omega
    have h512 : n.nodes.length ≤ 512 := by omega
    have hone : 1 ≤ n.nodes.length := by omega
    have HR := Lib.hid hR
    have Hok := Lib.hid hok
    have HR0 := Lib.hid hR0
    have Hk0 := Lib.hid hk0
    have Hs0 := Lib.hid hs0
    have Hmany := Lib.hid hmany
    clear hR hok hR0 hk0 hs0 hmany
    go_enter Tryz.func77, Tryz.ntmps77
    go_wp2_with fail
    refine (shape_right A c n.inn _ (by omega) HR0.out.1).mono ?_
    rintro e w1 ⟨rfl, hb1⟩
    have hbw : Below w.heap.size w w1 := hb0.trans (hb1.mono (by simp; omega))
    have hbox := Hk0.out.below hb1 (by simp; omega)
    have hst := Hs0.out.below hb1 (by simp)
    obtain ⟨y0, y1, y2, f0, f1, f2⟩ := study_cells hst
    have x0 : w1.cell? ⟨w.heap.size, 0, none⟩ = some (.slice A n.inn.length c) := by rw [hbox.cell]; rfl
    have x1 : w1.cell? ⟨w.heap.size, 1, none⟩ = some (.slice N n.nodes.length d) := by rw [hbox.cell]; rfl
    clear Hk0 Hs0 HR0 hb0 hb1 d1 d2
    by_cases hin : Sh.right n.inn = true
    rotate_left
    · have hin' : Sh.right n.inn = false := by simpa using hin
      have HC := Lib.hid (Nt.check_in Hmany.out hin')
      have Hbox := Lib.hid hbox
      have Hst := Lib.hid hst
      clear hbox hst
      clear hin
      go_wp2_with fail
      exact bodyPost_ret (v := .tuple #[.agg #[.slice none 0 0, .slice none 0 0, .int .i64 0], .int .i64 20]) (by simp [results, Tryz.results77, go_sem, y0, y1, y2]) rfl ⟨below_set3 hbw (by omega) _ _ _, .inr (by rw [HC.out]; exact ⟨by omega, rfl⟩)⟩
    · have Hbox := Lib.hid hbox
      have Hst := Lib.hid hst
      clear hbox hst
      go_wp2_with fail
      clear y0 y1 y2 f0 f1 f2 x0 x1
      have Hin := Lib.hid hin
      clear hin
      go_loopw [34] (fun i wr => ∃ k : Nat, k ≤ n.nodes.length ∧ i = .int .i64 k ∧ Blk wr w.heap.size 26 #[.slice A n.inn.length c, .slice N n.nodes.length d] ∧ Blk wr (w.heap.size + 1) 131 #[.slice none 0 0, .slice none 0 0, .int .i64 0] ∧ Below w.heap.size w wr ∧ lookBad n k) (fun i _ => n.nodes.length - (intOf i).toNat)
      case atStart => exact ⟨0, Nat.zero_le _, rfl, Hbox.out, Hst.out, hbw, fun j hj h => by omega⟩
      case round =>
        clear Hbox Hst hbw
        obtain ⟨k, hk, rfl, hbox, hst, hbw, hbad⟩ := hrel
        have hsl := hst.lt
        by_cases hlt : k < n.nodes.length
        · obtain ⟨b, off, S, sc, J, ic, Q, qc, rfl, hNA, -, hI, -⟩ := HR.out.2.at_ hlt
          have hnok := Hok.out.2.2 _ (List.getElem_mem hlt)
          have hb21 := fun h => Nt.bads_op (n := n.nodes.length) hlt hbad h
          have hb11 := fun h m (hm : m < n.nodes[k].ins.length) h2 => Nt.bads_in (n := n.nodes.length) hlt hbad h (m := m) hm h2
          have hnext : Od.right n.nodes[k].op = true → n.nodes[k].ins.all (fun i => decide (0 ≤ i ∧ i ≤ n.nodes.length)) = true → lookBad n (k + 1) := fun h1 h2 j hj hjk => by
            by_cases e : j = k
            · subst e; exact ⟨h1, h2⟩
            · exact hbad j hj (by omega)
          have hil := hnok.2.2.1
          have hsl2 := hnok.2.1
          generalize n.nodes[k] = v at *
          have hNw := hNA.below hbw
          obtain ⟨⟨y0, y1, y2, y3, y4, y5, y6, y7, y8, y9⟩, -⟩ := hNA.below hbw
          have hkn := Blk.new wr 67 (#[.int .i64 v.op.kind, .int .i64 v.op.k, .int .i64 v.op.width, .int .i64 v.op.step, .int .i64 v.op.side, .int .i64 v.op.frm, .int .i64 v.op.to, .slice S v.op.s.length sc, .slice J v.ins.length ic, .slice Q v.p.length qc])
          have hbn : Below wr.heap.size wr (wr.alloc (.cells #[.int .i64 v.op.kind, .int .i64 v.op.k, .int .i64 v.op.width, .int .i64 v.op.step, .int .i64 v.op.side, .int .i64 v.op.frm, .int .i64 v.op.to, .slice S v.op.s.length sc, .slice J v.ins.length ic, .slice Q v.p.length qc] 67)) := (Below.refl _ _).alloc (Nat.le_refl _) _
          have Hbox := Lib.hid hbox
          have Hst := Lib.hid hst
          have HNA := Lib.hid hNA
          have Hnok := Lib.hid hnok
          have Hb21 := Lib.hid hb21
          have Hb11 := Lib.hid hb11
          have Hnext := Lib.hid hnext
          have HNw := Lib.hid hNw
          have Hkn := Lib.hid hkn
          have Hbad := Lib.hid hbad
          clear hbox hst hNA hnok hb21 hb11 hnext hNw hkn hbad
          go_wp2_with fail
          refine (op_right v.op S sc _ (by omega) (HNw.out.2.1.below hbn (Nat.le_refl _))).mono ?_
          rintro e w2 ⟨rfl, hb2⟩
          have hbw2 : Below wr.heap.size wr w2 := hbn.trans (hb2.mono (by simp))
          have hbx2 := hbw.trans (hbw2.mono hbw.size)
          have hbox2 := Hbox.out.below hbw2 (by omega)
          have hst2 := Hst.out.below hbw2 hsl
          have hkn2 := Hkn.out.below hb2 (by simp)
          obtain ⟨z0, z1, z2, f0, f1, f2⟩ := study_cells hst2
          have z8 : w2.cell? ⟨wr.heap.size, 8, none⟩ = some (.slice J v.ins.length ic) := by rw [hkn2.cell]; rfl
          have x1 : w2.cell? ⟨w.heap.size, 1, none⟩ = some (.slice (some ⟨b, off, none⟩) n.nodes.length d) := by rw [hbox2.cell]; rfl
          have hIJ := HNw.out.2.2.1.below hbw2 (Nat.le_refl _)
          clear y0 y1 y2 y3 y4 y5 y6 y7 y8 y9 hbn hb2 Hbox Hst Hkn
          by_cases hor : Od.right v.op = true
          rotate_left
          · have hor' : Od.right v.op = false := by simpa using hor
            have hc := Hb21.out hor'
            have HC := Lib.hid ((Nt.check_bads Hmany.out Hin.out (by rw [hc]; omega)).trans hc)
            have Hbox2 := Lib.hid hbox2
            have Hst2 := Lib.hid hst2
            have Hkn2 := Lib.hid hkn2
            have HIJ := Lib.hid hIJ
            clear hbox2 hst2 hkn2 hIJ
            clear hor hc
            go_wp2_with fail
            exact bodyPost_ret (v := .tuple #[.agg #[.slice none 0 0, .slice none 0 0, .int .i64 0], .int .i64 21]) (by simp [results, Tryz.results77, go_sem, z0, z1, z2]) rfl ⟨below_set3 hbx2 (by omega) _ _ _, .inr (by rw [HC.out]; exact ⟨by omega, rfl⟩)⟩
          · have Hor := Lib.hid hor
            have Hbox2 := Lib.hid hbox2
            have Hst2 := Lib.hid hst2
            have Hkn2 := Lib.hid hkn2
            have HIJ := Lib.hid hIJ
            clear hbox2 hst2 hkn2 hIJ
            go_wp2_with fail
            clear hor
            go_loop [46] (fun i => ∃ m : Nat, m ≤ v.ins.length ∧ i = .int .i64 m ∧ ∀ j (hj : j < v.ins.length), j < m → 0 ≤ v.ins[j] ∧ v.ins[j] ≤ n.nodes.length) (fun i => v.ins.length - (intOf i).toNat)
            case atStart => exact ⟨0, Nat.zero_le _, rfl, fun j hj h => by omega⟩
            case round =>
              obtain ⟨m, hm, rfl, hall⟩ := hrel
              by_cases hlm : m < v.ins.length
              · obtain ⟨b1, off1, rfl, -, hc⟩ := HIJ.out m hlm
                rw [getD_at hlm] at hc
                have hbd := Hb11.out Hor.out m hlm
                have hnx : (0 ≤ v.ins[m] ∧ v.ins[m] ≤ n.nodes.length) → ∀ j (hj : j < v.ins.length), j < m + 1 → 0 ≤ v.ins[j] ∧ v.ins[j] ≤ n.nodes.length := fun h j hj hjm => by
                  by_cases e : j = m
                  · subst e; exact h
                  · exact hall j hj (by omega)
                generalize v.ins[m] = u at *
                by_cases hu : 0 ≤ u ∧ u ≤ n.nodes.length
                · have HN := Lib.hid (hnx hu)
                  have e1 : decide (u < 0) = false := by simp; omega
                  have e2 : decide ((n.nodes.length : Int) < u) = false := by simp; omega
                  clear hu hbd
                  have Hnx := Lib.hid hnx
                  have Hall := Lib.hid hall
                  clear hnx hall
                  go_wp2_with fail
                  go_round
                  case rel => exact ⟨m + 1, by omega, by go_num, HN.out⟩
                  case measure => simp [intOf]; omega
                · have hc2 := hbd hu
                  have HC := Lib.hid ((Nt.check_bads Hmany.out Hin.out (by rw [hc2]; omega)).trans hc2)
                  clear hc2 hbd
                  have Hnx := Lib.hid hnx
                  have Hall := Lib.hid hall
                  clear hnx hall
                  by_cases hneg : u < 0
                  · have e1 : decide (u < 0) = true := by simpa using hneg
                    clear hu
                    go_wp2_with fail
                    exact bodyPost_ret (v := .tuple #[.agg #[.slice none 0 0, .slice none 0 0, .int .i64 0], .int .i64 11]) (by simp [results, Tryz.results77, go_sem, z0, z1, z2]) rfl ⟨below_set3 hbx2 (by omega) _ _ _, .inr (by rw [HC.out]; exact ⟨by omega, rfl⟩)⟩
                  · have e1 : decide (u < 0) = false := by simpa using hneg
                    have e2 : decide ((n.nodes.length : Int) < u) = true := by simp; omega
                    clear hu
                    go_wp2_with fail
                    exact bodyPost_ret (v := .tuple #[.agg #[.slice none 0 0, .slice none 0 0, .int .i64 0], .int .i64 11]) (by simp [results, Tryz.results77, go_sem, z0, z1, z2]) rfl ⟨below_set3 hbx2 (by omega) _ _ _, .inr (by rw [HC.out]; exact ⟨by omega, rfl⟩)⟩
              · obtain rfl : m = v.ins.length := by omega
                have HN := Lib.hid (Hnext.out Hor.out (List.all_eq_true.2 fun i hi => by obtain ⟨j, hj, rfl⟩ := List.getElem_of_mem hi; simpa using hall j hj hj))
                have Hall := Lib.hid hall
                clear hall
                go_wp2_with fail
                go_roundw
                case rel => exact ⟨k + 1, by omega, by go_num, Hbox2.out, Hst2.out, hbx2, HN.out⟩
                case measure => simp [intOf]; omega
        · obtain rfl : k = n.nodes.length := by omega
          have hb0 : Nt.bads n.nodes.length n.nodes = 0 := Nt.bads_none hbad
          have hins : ∀ v ∈ n.nodes, ∀ i ∈ v.ins, 0 ≤ i ∧ i ≤ n.nodes.length := fun v hv => (Nt.bads_all hb0 v hv).2
          have x0 : wr.cell? ⟨w.heap.size, 0, none⟩ = some (.slice A n.inn.length c) := by rw [hbox.cell]; rfl
          have x1 : wr.cell? ⟨w.heap.size, 1, none⟩ = some (.slice N n.nodes.length d) := by rw [hbox.cell]; rfl
          have Hbad := Lib.hid hbad
          have Hbox := Lib.hid hbox
          have Hst := Lib.hid hst
          have Hb0 := Lib.hid hb0
          have Hins := Lib.hid hins
          clear hbad hbox hst hb0 hins
          go_wp2_with fail
          refine (net_sorted A N c d n _ Hok.out h512 (HR.out.below hbw (Nat.le_refl _)) hd Hins.out).mono ?_
          rintro e w2 ⟨O, oc, rfl, hO, hoc, hoc2, hb2⟩
          have hbw2 := hbw.trans (hb2.mono hbw.size)
          have hbox2 := Hbox.out.below hb2 Hbox.out.lt
          have hst2 := Hst.out.below hb2 Hst.out.lt
          have hw2l : w.heap.size + 1 < w2.heap.size := hst2.lt
          have x0 : w2.cell? ⟨w.heap.size, 0, none⟩ = some (.slice A n.inn.length c) := by rw [hbox2.cell]; rfl
          have x1 : w2.cell? ⟨w.heap.size, 1, none⟩ = some (.slice N n.nodes.length d) := by rw [hbox2.cell]; rfl
          clear Hbox Hst
          by_cases hcy : (Nt.sorted n.nodes).length = n.nodes.length
          rotate_left
          · have HC := Lib.hid (Nt.check_cyc Hmany.out Hin.out Hb0.out hcy)
            have e1 : (((Nt.sorted n.nodes).length : Int) != (n.nodes.length : Int)) = true := by rw [bne_iff_ne]; omega
            have e2 : ((Nt.sorted n.nodes).length != n.nodes.length) = true := by rw [bne_iff_ne]; omega
            obtain ⟨y0, y1, y2, f0, f1, f2⟩ := study_cells hst2
            generalize Nt.sorted n.nodes = os at *
            have Hbox2 := Lib.hid hbox2
            have Hst2 := Lib.hid hst2
            have Hcy := Lib.hid hcy
            have HO := Lib.hid hO
            clear hbox2 hst2 hcy hO
            go_wp2_with fail
            exact bodyPost_ret (v := .tuple #[.agg #[.slice none 0 0, .slice none 0 0, .int .i64 0], .int .i64 22]) (by simp [results, Tryz.results77, go_sem, y0, y1, y2]) rfl ⟨below_set3 hbw2 (by omega) _ _ _, .inr (by rw [HC.out]; exact ⟨by omega, rfl⟩)⟩
          · have hcall := net_lay A N O c d oc n w2 Hok.out (HR.out.below hbw2 (Nat.le_refl _)) hd hO Hin.out Hins.out
            have hcheck := fun h5 => Nt.check_lay Hmany.out Hin.out Hb0.out hcy h5
            have hcheck6 := fun h5 h6 => Nt.check_loss Hmany.out Hin.out Hb0.out hcy h5 h6
            have hcheck7 := fun h5 h6 => Nt.check_last Hmany.out Hin.out Hb0.out hcy h5 h6
            have hgood := fun h5 : (Nt.lay n.nodes (Nt.start n) (Nt.sorted n.nodes)).2 = 0 => Nt.lay_good Hin.out (Nt.sorted n.nodes).length (Nat.le_refl _) (by rw [List.take_length]; exact h5)
            rw [List.take_length] at hgood
            have hfull := Kn.order_full (I := Nt.insF n.nodes) (n := n.nodes.length) hcy
            have hfull : ∀ u, u ∈ Nt.sorted n.nodes ↔ 1 ≤ u ∧ u ≤ n.nodes.length := hfull
            have hshp : (Nt.lay n.nodes (Nt.start n) (Nt.sorted n.nodes)).1 = Nt.shapes n := rfl
            rw [hcy] at hcall ⊢
            obtain ⟨os, hos⟩ : ∃ os, Nt.sorted n.nodes = os := ⟨_, rfl⟩
            rw [hos] at hcall hcheck hcheck6 hcheck7 hgood hfull hshp hO hcy hoc
            rw [hcy] at hoc
            have Hcall := Lib.hid hcall
            have Hcheck := Lib.hid hcheck
            have Hcheck6 := Lib.hid hcheck6
            have Hcheck7 := Lib.hid hcheck7
            have Hgood := Lib.hid hgood
            have Hfull := Lib.hid hfull
            have Hshp := Lib.hid hshp
            have Hcy := Lib.hid hcy
            have Hos := Lib.hid hos
            have HO := Lib.hid hO
            have Hbox2 := Lib.hid hbox2
            have Hst2 := Lib.hid hst2
            clear hcall hcheck hcheck6 hcheck7 hgood hfull hshp hcy hos hO hbox2 hst2
            go_wp2_with fail
            refine (Hcall.out).mono ?_
            rintro e w3 ⟨hb3, ⟨hr, g, rfl, hg, hrow, hrl⟩ | ⟨hr, rfl⟩⟩
            rotate_left
            · have HC := Lib.hid (Hcheck.out hr)
              have hbw3 := hbw2.trans (hb3.mono hbw2.size)
              obtain ⟨y0, y1, y2, f0, f1, f2⟩ := study_cells (Hst2.out.below hb3 Hst2.out.lt)
              generalize Nt.lay n.nodes (Nt.start n) os = r at *
              have q1 : (r.2 != 0) = true := by simp [hr]
              have HR2 := Lib.hid hr
              clear hr
              go_wp2_with fail
              exact bodyPost_ret (v := .tuple #[.agg #[.slice none 0 0, .slice none 0 0, .int .i64 0], .int .i64 r.2]) (by simp [results, Tryz.results77, go_sem, y0, y1, y2]) rfl ⟨below_set3 hbw3 (by omega) _ _ _, .inr (by rw [HC.out]; exact ⟨HR2.out, rfl⟩)⟩
            · have hg2 := Hgood.out hr
              have hc6 := fun h6 => Hcheck6.out hr h6
              have hc7 := fun h6 => Hcheck7.out hr h6
              rw [Hshp.out] at hrow hrl hg2
              have hbw3 := hbw2.trans (hb3.mono hbw2.size)
              have hbox3 := Hbox2.out.below hb3 Hbox2.out.lt
              have hst3 := Hst2.out.below hb3 Hst2.out.lt
              have x0 : w3.cell? ⟨w.heap.size, 0, none⟩ = some (.slice A n.inn.length c) := by rw [hbox3.cell]; rfl
              have x1 : w3.cell? ⟨w.heap.size, 1, none⟩ = some (.slice N n.nodes.length d) := by rw [hbox3.cell]; rfl
              have hO3 := HO.out.below hb3 (Nat.le_refl _)
              clear Hcall Hcheck Hcheck6 Hcheck7 Hgood Hbox2 Hst2 HO hr Hshp
              have Hg2 := Lib.hid hg2
              have Hc6 := Lib.hid hc6
              have Hc7 := Lib.hid hc7
              have Hrow := Lib.hid hrow
              have Hbox3 := Lib.hid hbox3
              have Hst3 := Lib.hid hst3
              have HO3 := Lib.hid hO3
              clear hg2 hc6 hc7 hrow hbox3 hst3 hO3
              go_wp2_with fail
              refine (net_unused A N c d n _ Hok.out (HR.out.below hbw3 (Nat.le_refl _)) hd Hins.out).mono ?_
              rintro e w4 ⟨rfl, hb4⟩
              have hbw4 := hbw3.trans (hb4.mono hbw3.size)
              have hst4 := Hst3.out.below hb4 Hst3.out.lt
              have hrow4 := Hrow.out.below hb4 (Nat.le_refl _)
              have hO4 := HO3.out.below hb4 (Nat.le_refl _)
              obtain ⟨y0, y1, y2, f0, f1, f2⟩ := study_cells hst4
              clear Hbox3 Hst3 Hrow HO3
              by_cases hlo : Nt.lossOk n.nodes = true
              rotate_left
              · have hlo' : Nt.lossOk n.nodes = false := by simpa using hlo
                have HC := Lib.hid (Hc6.out hlo')
                have Hst4 := Lib.hid hst4
                have Hrow4 := Lib.hid hrow4
                have HO4 := Lib.hid hO4
                clear hst4 hrow4 hO4
                clear hlo
                go_wp2_with fail
                exact bodyPost_ret (v := .tuple #[.agg #[.slice none 0 0, .slice none 0 0, .int .i64 0], .int .i64 23]) (by simp [results, Tryz.results77, go_sem, y0, y1, y2]) rfl ⟨below_set3 hbw4 (by omega) _ _ _, .inr (by rw [HC.out]; exact ⟨by omega, rfl⟩)⟩
              · have hlm := (Nt.loss_mem hlo).2
                have hch := Hc7.out hlo
                obtain ⟨l, hl⟩ : ∃ l : Nat, Nt.loss n.nodes = (l : Int) := ⟨(Nt.loss n.nodes).toNat, by omega⟩
                have Hl := Lib.hid hl
                rw [hl] at hlm hch ⊢
                rw [Int.toNat_natCast] at hch
                have hll : l < (Nt.shapes n).length := by omega
                have hgl := Hg2.out (l : Int) (.inr ((Hfull.out _).2 (by omega)))
                rw [Int.toNat_natCast, gets_at hll] at hgl
                rw [gets_at hll] at hch
                obtain ⟨S, sc, hcS, hIS, hs1, hs2, -⟩ := hrow4.at_ hll
                have hsz := shape_size S sc _ w4 (by omega) hIS
                have hse : Sh.size (Nt.shapes n)[l] = (Safe.prod (Nt.shapes n)[l], 0) := by unfold Sh.size; rw [if_pos hgl]
                rw [hse] at hsz
                have l0 : (0 : Int) ≤ (l : Int) := by omega
                have l1 : (l : Int) < ((n.nodes.length + 1 : Nat) : Int) := by omega
                generalize (Nt.shapes n)[l] = s at *
                have Hst4 := Lib.hid hst4
                have Hrow4 := Lib.hid hrow4
                have HO4 := Lib.hid hO4
                have Hch := Lib.hid hch
                have Hl := Lib.hid hl
                have Hsz := Lib.hid hsz
                have Hse := Lib.hid hse
                have HIS := Lib.hid hIS
                have Hgl := Lib.hid hgl
                clear hst4 hrow4 hO4 hch hl hsz hse hIS hgl
                go_wp2_with fail
                refine (Hsz.out).mono ?_
                rintro e w5 ⟨rfl, hb5⟩
                have hbw5 := hbw4.trans (hb5.mono hbw4.size)
                have hst5 := Hst4.out.below hb5 Hst4.out.lt
                have hrow5 := Hrow4.out.below hb5 (Nat.le_refl _)
                have hO5 := HO4.out.below hb5 (Nat.le_refl _)
                clear y0 y1 y2 f0 f1 f2
                obtain ⟨y0, y1, y2, f0, f1, f2⟩ := study_cells hst5
                by_cases hp : Safe.prod s = 1
                · have HC := Lib.hid (show Nt.check n = 0 by rw [Hch.out, if_neg (by simp [hp])])
                  have e1 : (Safe.prod s != 1) = false := by simp [hp]
                  clear hcS hp
                  have Hst5 := Lib.hid hst5
                  have Hrow5 := Lib.hid hrow5
                  have HO5 := Lib.hid hO5
                  clear hst5 hrow5 hO5
                  go_wp2_with fail
                  have hos0 : ∀ z ∈ os, z ≠ 0 := fun z hz => by have := (Hfull.out z).1 hz; omega
                  have hsh0 : ∀ s ∈ Nt.shapes n, ∀ z ∈ s, z ≠ 0 := fun s hs z hz => by
                    obtain ⟨i, hi, rfl⟩ := List.getElem_of_mem hs
                    have hgi := Hg2.out (i : Int) (by
                      by_cases h0 : i = 0
                      · exact .inl (by omega)
                      · exact .inr ((Hfull.out _).2 (by omega)))
                    rw [Int.toNat_natCast, gets_at hi] at hgi
                    have := (Sh.right_mul hgi).2.2.2.1 z hz
                    omega
                  refine bodyPost_ret (v := .tuple #[.agg #[.slice O n.nodes.length oc, .slice (some ⟨g, 0, none⟩) (n.nodes.length + 1) (n.nodes.length + 1), .int .i64 (l : Int)], .int .i64 0]) (by simp [results, Tryz.results77, go_sem, y0, y1, y2]) rfl ⟨below_set3 hbw5 (by omega) _ _ _, .inl ⟨HC.out, O, oc, g, by rw [Hl.out], ?_, hoc, hoc2, by omega, ?_⟩⟩
                  · rw [Hos.out]; exact ints_set3 HO5.out Hst5.out hos0 _ _ _
                  · exact shpRow_set3 Hrow5.out Hst5.out (by omega) hsh0 _ _ _
                · have HC := Lib.hid (show Nt.check n = 23 by rw [Hch.out, if_pos hp])
                  have e1 : (Safe.prod s != 1) = true := by simp [hp]
                  clear hcS hp
                  have Hst5 := Lib.hid hst5
                  have Hrow5 := Lib.hid hrow5
                  have HO5 := Lib.hid hO5
                  clear hst5 hrow5 hO5
                  go_wp2_with fail
                  exact bodyPost_ret (v := .tuple #[.agg #[.slice none 0 0, .slice none 0 0, .int .i64 0], .int .i64 23]) (by simp [results, Tryz.results77, go_sem, y0, y1, y2]) rfl ⟨below_set3 hbw5 (by omega) _ _ _, .inr (by rw [HC.out]; exact ⟨by omega, rfl⟩)⟩
end Go.Proofs.YtnffjfjhbjeaiaaGreatDoor
/- Layer 11 (net): Check, Order, Shapes, Loss, Chain: contracts. -/
namespace Go.Proofs.YtnffjfjhbjeaiaaGreatDoor
open Go.RowKit

def OrderP (n : NetD) (w : World) (e : Ending) (w' : World) : Prop :=
  Below w.heap.size w w' ∧ ((Nt.check n = 0 ∧ ∃ O oc, e = .returned (.tuple #[.slice O n.nodes.length oc, .int .i64 0]) ∧ Ints .i64 w' O (Nt.sorted n.nodes) ∧ n.nodes.length ≤ oc ∧ oc ≤ 9223372036854775807) ∨
    (Nt.check n ≠ 0 ∧ e = .returned (.tuple #[.slice none 0 0, .int .i64 (Nt.check n)])))
def ShapesP (n : NetD) (w : World) (e : Ending) (w' : World) : Prop :=
  Below w.heap.size w w' ∧ ((Nt.check n = 0 ∧ ∃ g, e = .returned (.tuple #[.slice (some ⟨g, 0, none⟩) (n.nodes.length + 1) (n.nodes.length + 1), .int .i64 0]) ∧ w.heap.size ≤ g ∧ ShpRow w' g 23 (Nt.shapes n)) ∨
    (Nt.check n ≠ 0 ∧ e = .returned (.tuple #[.slice none 0 0, .int .i64 (Nt.check n)])))
def lossE (n : NetD) : Int := if Nt.check n = 0 then Nt.loss n.nodes else 0
set_option maxHeartbeats 4000000 in
theorem net_order (A N : Option Addr) (c d : Nat) (n : NetD) (w : World) (hok : n.ok) (hR : NetR w A N n) (hd : n.nodes.length ≤ d) :
    Calls Tryz.prog 50 #[.agg #[.slice A n.inn.length c, .slice N n.nodes.length d]] w (OrderP n w) := by
  have hb0 : Below w.heap.size w (w.alloc (.cells #[.slice A n.inn.length c, .slice N n.nodes.length d] 26)) := (Below.refl _ _).alloc (Nat.le_refl _) _
  have hR0 := hR.below hb0 (Nat.le_refl _)
  have HR := Lib.hid hR
  have Hok := Lib.hid hok
  have HR0 := Lib.hid hR0
  clear hR hok hR0
  go_enter Tryz.func50, Tryz.ntmps50
  go_wp2_with fail
  refine (net_look A N c d n _ Hok.out HR0.out hd).mono ?_
  rintro e w1 ⟨hb1, ⟨hc, O, oc, g, rfl, hO, ho1, ho2, hg, hrow⟩ | ⟨hc, rfl⟩⟩
  all_goals have hbw := hb0.trans (hb1.mono hb0.size)
  · rw [World.size_alloc] at hg
    have Hc := Lib.hid hc
    have HO := Lib.hid hO
    have Hrow := Lib.hid hrow
    clear hc hO hrow
    go_wp2_with fail
    go_ret2
    first | exact ⟨hbw.alloc hbw.size _, .inl ⟨Hc.out, O, oc, rfl, HO.out.alloc _, ho1, ho2⟩⟩ | exact ⟨hbw.alloc hbw.size _, .inl ⟨Hc.out, g, rfl, by omega, Hrow.out.alloc _⟩⟩ | exact ⟨by unfold lossE; rw [Hc.out]; rfl, hbw.alloc hbw.size _⟩
  · have Hc := Lib.hid hc
    clear hc
    go_wp2_with fail
    go_ret2
    first | exact ⟨hbw.alloc hbw.size _, .inr ⟨Hc.out, rfl⟩⟩ | exact ⟨by unfold lossE; rw [if_neg Hc.out]; rfl, hbw.alloc hbw.size _⟩
set_option maxHeartbeats 4000000 in
theorem net_shapes (A N : Option Addr) (c d : Nat) (n : NetD) (w : World) (hok : n.ok) (hR : NetR w A N n) (hd : n.nodes.length ≤ d) :
    Calls Tryz.prog 87 #[.agg #[.slice A n.inn.length c, .slice N n.nodes.length d]] w (ShapesP n w) := by
  have hb0 : Below w.heap.size w (w.alloc (.cells #[.slice A n.inn.length c, .slice N n.nodes.length d] 26)) := (Below.refl _ _).alloc (Nat.le_refl _) _
  have hR0 := hR.below hb0 (Nat.le_refl _)
  have HR := Lib.hid hR
  have Hok := Lib.hid hok
  have HR0 := Lib.hid hR0
  clear hR hok hR0
  go_enter Tryz.func87, Tryz.ntmps87
  go_wp2_with fail
  refine (net_look A N c d n _ Hok.out HR0.out hd).mono ?_
  rintro e w1 ⟨hb1, ⟨hc, O, oc, g, rfl, hO, ho1, ho2, hg, hrow⟩ | ⟨hc, rfl⟩⟩
  all_goals have hbw := hb0.trans (hb1.mono hb0.size)
  · rw [World.size_alloc] at hg
    have Hc := Lib.hid hc
    have HO := Lib.hid hO
    have Hrow := Lib.hid hrow
    clear hc hO hrow
    go_wp2_with fail
    go_ret2
    first | exact ⟨hbw.alloc hbw.size _, .inl ⟨Hc.out, O, oc, rfl, HO.out.alloc _, ho1, ho2⟩⟩ | exact ⟨hbw.alloc hbw.size _, .inl ⟨Hc.out, g, rfl, by omega, Hrow.out.alloc _⟩⟩ | exact ⟨by unfold lossE; rw [Hc.out]; rfl, hbw.alloc hbw.size _⟩
  · have Hc := Lib.hid hc
    clear hc
    go_wp2_with fail
    go_ret2
    first | exact ⟨hbw.alloc hbw.size _, .inr ⟨Hc.out, rfl⟩⟩ | exact ⟨by unfold lossE; rw [if_neg Hc.out]; rfl, hbw.alloc hbw.size _⟩
set_option maxHeartbeats 4000000 in
theorem net_loss (A N : Option Addr) (c d : Nat) (n : NetD) (w : World) (hok : n.ok) (hR : NetR w A N n) (hd : n.nodes.length ≤ d) :
    Calls Tryz.prog 60 #[.agg #[.slice A n.inn.length c, .slice N n.nodes.length d]] w fun e w' => e = .returned (.tuple #[.int .i64 (lossE n), .int .i64 (Nt.check n)]) ∧ Below w.heap.size w w' := by
  have hb0 : Below w.heap.size w (w.alloc (.cells #[.slice A n.inn.length c, .slice N n.nodes.length d] 26)) := (Below.refl _ _).alloc (Nat.le_refl _) _
  have hR0 := hR.below hb0 (Nat.le_refl _)
  have HR := Lib.hid hR
  have Hok := Lib.hid hok
  have HR0 := Lib.hid hR0
  clear hR hok hR0
  go_enter Tryz.func60, Tryz.ntmps60
  go_wp2_with fail
  refine (net_look A N c d n _ Hok.out HR0.out hd).mono ?_
  rintro e w1 ⟨hb1, ⟨hc, O, oc, g, rfl, hO, ho1, ho2, hg, hrow⟩ | ⟨hc, rfl⟩⟩
  all_goals have hbw := hb0.trans (hb1.mono hb0.size)
  · rw [World.size_alloc] at hg
    have Hc := Lib.hid hc
    have HO := Lib.hid hO
    have Hrow := Lib.hid hrow
    clear hc hO hrow
    go_wp2_with fail
    go_ret2
    first | exact ⟨hbw.alloc hbw.size _, .inl ⟨Hc.out, O, oc, rfl, HO.out.alloc _, ho1, ho2⟩⟩ | exact ⟨hbw.alloc hbw.size _, .inl ⟨Hc.out, g, rfl, by omega, Hrow.out.alloc _⟩⟩ | exact ⟨by unfold lossE; rw [Hc.out]; rfl, hbw.alloc hbw.size _⟩
  · have Hc := Lib.hid hc
    clear hc
    go_wp2_with fail
    go_ret2
    first | exact ⟨hbw.alloc hbw.size _, .inr ⟨Hc.out, rfl⟩⟩ | exact ⟨by unfold lossE; rw [if_neg Hc.out]; rfl, hbw.alloc hbw.size _⟩
theorem list_one {l : List Int} (h : l.length = 1) : ∃ x, l = [x] := by
  match l, h with
  | [x], _ => exact ⟨x, rfl⟩
theorem Nt.chainGo_step {ns : List NodeD} {os : List Int} {k : Nat} (hk : k < os.length) (h : Nt.chainGo ns 0 (os.take k) = true) :
    (Nt.insF ns os[k] = [(os.take k).getLastD 0] → Nt.chainGo ns 0 (os.take (k + 1)) = true ∧ (os.take (k + 1)).getLastD 0 = os[k]) ∧ (Nt.insF ns os[k] ≠ [(os.take k).getLastD 0] → Nt.chainGo ns 0 os = false) := by
  refine ⟨fun e => ?_, fun e => ?_⟩
  · rw [List.take_succ_eq_append_getElem hk]
    refine ⟨?_, ?_⟩
    · rw [Nt.chainGo_append, h, Nt.chainGo, decide_eq_true e]; rfl
    · simp only [List.getLastD_eq_getLast?, List.getLast?_concat, Option.getD_some]
  · have : os = os.take k ++ os[k] :: os.drop (k + 1) := by rw [← List.drop_eq_getElem_cons hk, List.take_append_drop]
    rw [this, Nt.chainGo_append, Nt.chainGo, decide_eq_false e, Bool.false_and, Bool.and_false]
end Go.Proofs.YtnffjfjhbjeaiaaGreatDoor
/- The reference of layer 11: has, Order, Users: contracts. -/
namespace Go.Proofs.YtnffjfjhbjeaiaaGreatDoor
open Go.RowKit
def hasB (zs : List Int) (x : Int) : Bool := zs.contains x
set_option maxHeartbeats 4000000 in
theorem ref11_has (A : Option Addr) (c : Nat) (zs : List Int) (x : Int) (w : World) (hl : zs.length ≤ 9223372036854775807) (hI : Ints .i64 w A zs) :
    Calls Tryz.prog 53 #[.slice A zs.length c, .int .i64 x] w fun e w' => e = .returned (.bool (hasB zs x)) ∧ w = w' := by
  have HI := Lib.hid hI
  clear hI
  go_enter Tryz.func53, Tryz.ntmps53
  go_wp2_with fail
  go_loop [5] (fun i => ∃ k : Nat, k ≤ zs.length ∧ i = .int .i64 k ∧ (zs.take k).contains x = false) (fun i => zs.length - (intOf i).toNat)
  case atStart => exact ⟨0, Nat.zero_le _, rfl, rfl⟩
  case round =>
    obtain ⟨k, hk, rfl, hno⟩ := hrel
    by_cases hlt : k < zs.length
    · obtain ⟨b, off, rfl, -, hc⟩ := HI.out k hlt
      rw [getD_at hlt] at hc
      by_cases he : zs[k] = x
      · have e1 : (zs[k] == x) = true := by simp [he]
        have HX := Lib.hid (show hasB zs x = true by unfold hasB; rw [List.contains_iff_mem]; rw [← he]; exact List.getElem_mem hlt)
        clear he hno
        go_wp2_with fail
        go_ret
        exact ⟨by rw [HX.out]; rfl, rfl⟩
      · have e1 : (zs[k] == x) = false := by simp [he]
        have HX := Lib.hid (show (zs.take (k + 1)).contains x = false by
          rw [List.take_succ_eq_append_getElem hlt]
          simp at hno
          simp only [List.contains_eq_mem, List.mem_append, decide_eq_false_iff_not, List.mem_singleton]
          intro h
          rcases h with h | h
          · exact hno h
          · exact he h.symm)
        clear he hno
        go_wp2_with fail
        go_round
        case rel => exact ⟨k + 1, by omega, by go_num, HX.out⟩
        case measure => simp [intOf]; omega
    · obtain rfl : k = zs.length := by omega
      rw [List.take_length] at hno
      have HX := Lib.hid (show hasB zs x = false from hno)
      clear hno
      go_wp2_with fail
      go_ret
      exact ⟨by rw [HX.out]; rfl, rfl⟩
def Nt.count (ns : List NodeD) (id : Int) : Nat := (ns.filter fun v => v.ins.contains id).length
set_option maxHeartbeats 4000000 in
theorem ref11_users (A N : Option Addr) (c d : Nat) (n : NetD) (id : Int) (w : World) (hok : n.ok) (hR : NetR w A N n) :
    Calls Tryz.prog 35 #[.agg #[.slice A n.inn.length c, .slice N n.nodes.length d], .int .i64 id] w fun e w' => e = .returned (.int .i64 (Nt.count n.nodes id : Nat)) ∧ Below w.heap.size w w' := by
  have hb0 : Below w.heap.size w (w.alloc (.cells #[.slice A n.inn.length c, .slice N n.nodes.length d] 39)) := (Below.refl _ _).alloc (Nat.le_refl _) _
  have hk0 := Blk.new w 39 #[.slice A n.inn.length c, .slice N n.nodes.length d]
  have hR0 := hR.below hb0 (Nat.le_refl _)
  have hnl := hok.2.1
  have Hok := Lib.hid hok
  have HR := Lib.hid hR
  have Hk0 := Lib.hid hk0
  clear hok hR hk0
  go_enter Tryz.func35, Tryz.ntmps35
  go_upto_region 1 with fail
  have x1 : (w.alloc (.cells #[.slice A n.inn.length c, .slice N n.nodes.length d] 39)).cell? ⟨w.heap.size, 1, none⟩ = some (.slice N n.nodes.length d) := by rw [Hk0.out.cell]; rfl
  generalize w.alloc (.cells #[.slice A n.inn.length c, .slice N n.nodes.length d] 39) = w1 at *
  have HR0 := Lib.hid hR0
  clear hR0
  go_wp2_with fail
  go_loop [5, 6] (fun t i => ∃ k : Nat, k ≤ n.nodes.length ∧ i = .int .i64 (k : Int) ∧ t = .int .i64 ((Nt.count (n.nodes.take k) id : Nat) : Int)) (fun _ i => n.nodes.length - (intOf i).toNat)
  case atStart => exact ⟨0, Nat.zero_le _, rfl, rfl⟩
  case round =>
    obtain ⟨k, hk, rfl, rfl⟩ := hrel
    by_cases hlt : k < n.nodes.length
    · obtain ⟨b, off, S, sc, J, ic, Q, qc, rfl, hNA, -, hI, -⟩ := HR0.out.2.at_ hlt
      have hnok := Hok.out.2.2 _ (List.getElem_mem hlt)
      have hil := hnok.2.2.1
      have hcs : Nt.count (n.nodes.take (k + 1)) id = Nt.count (n.nodes.take k) id + if n.nodes[k].ins.contains id then 1 else 0 := by
        unfold Nt.count
        rw [List.take_succ_eq_append_getElem hlt, List.filter_append]
        by_cases h : n.nodes[k].ins.contains id = true
        · simp only [List.filter_cons, h, if_true, List.filter_nil, List.length_append, List.length_singleton]
        · simp only [List.filter_cons, h, List.filter_nil, List.length_append]; simp
      have hcl : Nt.count (n.nodes.take k) id ≤ k := by
        unfold Nt.count
        refine Nat.le_trans (List.length_filter_le _ _) ?_
        simp; omega
      generalize n.nodes[k] = v at *
      generalize Nt.count (n.nodes.take k) id = q at *
      obtain ⟨⟨-, -, -, -, -, -, -, -, y8, -⟩, -, hIJ, -⟩ := hNA
      have HIJ := Lib.hid hIJ
      have Hcs := Lib.hid hcs
      have Hnok := Lib.hid hnok
      clear hIJ hcs hnok
      go_wp2_with fail
      refine (ref11_has J ic v.ins id _ (by omega) HIJ.out).mono ?_
      rintro e w2 ⟨rfl, rfl⟩
      by_cases h : hasB v.ins id = true
      · have HX := Lib.hid (Hcs.out.trans (by rw [if_pos (show v.ins.contains id = true from h)]))
        rw [h]
        clear h
        go_wp2_with fail
        go_round
        case rel => exact ⟨k + 1, by omega, by go_num, by rw [HX.out]; go_num⟩
        case measure => simp [intOf]; omega
      · have h' : hasB v.ins id = false := by simpa using h
        have HX := Lib.hid (Hcs.out.trans (by rw [if_neg (show ¬ v.ins.contains id = true from h)]))
        rw [h']
        clear h h'
        go_wp2_with fail
        go_round
        case rel => exact ⟨k + 1, by omega, by go_num, by rw [HX.out]; rfl⟩
        case measure => simp [intOf]; omega
    · obtain rfl : k = n.nodes.length := by omega
      rw [List.take_length]
      go_wp2_with fail
      go_ret
      exact ⟨rfl, hb0⟩
/-- Of the ins before m, all are out. -/
def freeTo (out ins : List Int) (b : Bool) (m : Nat) : Bool := b && (ins.take m).all fun i => i == 0 || out.contains i
theorem freeTo_succ {out ins : List Int} {b : Bool} {m : Nat} (hm : m < ins.length) : freeTo out ins b (m + 1) = (freeTo out ins b m && (ins[m] == 0 || out.contains ins[m])) := by
  unfold freeTo
  rw [List.take_succ_eq_append_getElem hm, List.all_append, Bool.and_assoc]
  simp
set_option maxRecDepth 20000 in
set_option maxHeartbeats 8000000 in
theorem ref11_order (A N : Option Addr) (c d : Nat) (n : NetD) (w : World) (hok : n.ok) (hR : NetR w A N n) :
    Calls Tryz.prog 23 #[.agg #[.slice A n.inn.length c, .slice N n.nodes.length d]] w (SortPost (Nt.sorted n.nodes) w) := by
  obtain ⟨i0, hi, hz0, hz1, hz2⟩ := info_parts int_info
  have hb0 : Below w.heap.size w (w.alloc (.cells #[.slice A n.inn.length c, .slice N n.nodes.length d] 39)) := (Below.refl _ _).alloc (Nat.le_refl _) _
  have hk0 := Blk.new w 39 #[.slice A n.inn.length c, .slice N n.nodes.length d]
  have hR0 := hR.below hb0 (Nat.le_refl _)
  have hnl := hok.2.1
  have hsort : Nt.sorted n.nodes = Kn.order (Nt.insF n.nodes) n.nodes.length := rfl
  have hIat : ∀ k (h : k < n.nodes.length), Nt.insF n.nodes ((k : Int) + 1) = n.nodes[k].ins := fun k h => by unfold Nt.insF; rw [Nt.node_at h]
  generalize Nt.insF n.nodes = I at *
  generalize Nt.sorted n.nodes = os at *
  have Hok := Lib.hid hok
  have HR := Lib.hid hR
  have Hk0 := Lib.hid hk0
  have Hsort := Lib.hid hsort
  have HIat := Lib.hid hIat
  clear hok hR hk0 hsort hIat
  go_enter Tryz.func23, Tryz.ntmps23
  go_upto_region 1 with fail
  have x1 : (w.alloc (.cells #[.slice A n.inn.length c, .slice N n.nodes.length d] 39)).cell? ⟨w.heap.size, 1, none⟩ = some (.slice N n.nodes.length d) := by rw [Hk0.out.cell]; rfl
  have hwl : w.heap.size < (w.alloc (.cells #[.slice A n.inn.length c, .slice N n.nodes.length d] 39)).heap.size := Hk0.out.lt
  generalize w.alloc (.cells #[.slice A n.inn.length c, .slice N n.nodes.length d] 39) = w1 at *
  have HR0 := Lib.hid hR0
  clear hR0
  go_wp2_with fail
  go_loopw [3, 4] (fun o i wx => ∃ k : Nat, k ≤ n.nodes.length ∧ i = .int .i64 (k : Int) ∧ wx.ownsRow w1.heap.size 3 1 o (Kn.go I n.nodes.length k).length ((Kn.go I n.nodes.length k).map (Value.int .i64)) ∧ Below w1.heap.size w1 wx) (fun _ i _ => n.nodes.length - (intOf i).toNat)
  case atStart => exact ⟨0, Nat.zero_le _, rfl, by simpa [Kn.go] using World.ownsRow_nil w1 w1.heap.size 3 1, Below.refl _ _⟩
  case round =>
    obtain ⟨k, hk, rfl, hown, hbx⟩ := hrel
    obtain ⟨Ao, co, rfl⟩ := own_form hown
    have x2 := cell_below hbx x1
    by_cases hlt : k < n.nodes.length
    · have hgo := fun id r h => @Kn.go_more I n.nodes.length k id r h
      have hgl := Kn.go_len_le I n.nodes.length k
      have hstuck : Kn.ready I n.nodes.length (Kn.go I n.nodes.length k) = [] → Kn.go I n.nodes.length (k + 1) = Kn.go I n.nodes.length k := fun h => Kn.go_stuck h 1
      have hIo := (own_ints hown).1
      generalize Kn.go I n.nodes.length k = out at *
      have Hgo := Lib.hid hgo
      have Hstuck := Lib.hid hstuck
      have Hown := Lib.hid hown
      have HIo := Lib.hid hIo
      clear hgo hstuck hown hIo
      go_wp2_with fail
      clear x2
      go_loop [3, 5] (fun o i => ∃ j : Nat, j ≤ n.nodes.length ∧ i = .int .i64 ((j : Int) + 1) ∧ o = .slice Ao out.length co ∧ ∀ u : Int, 1 ≤ u → u ≤ j → Kn.free I out u = false) (fun _ i => n.nodes.length + 1 - (intOf i).toNat)
      case atStart => exact ⟨0, Nat.zero_le _, rfl, rfl, fun u h1 h2 => by omega⟩
      case round =>
        obtain ⟨j, hj, rfl, rfl, hnf⟩ := hrel
        have x2 := cell_below hbx x1
        by_cases hjl : j < n.nodes.length
        · obtain ⟨b, off, S, sc, J, ic, Q, qc, rfl, hNA, -, hI, -⟩ := HR0.out.2.at_ hjl
          have hnok := Hok.out.2.2 _ (List.getElem_mem hjl)
          have hil := hnok.2.2.1
          have hIk := HIat.out j hjl
          generalize n.nodes[j] = v at *
          obtain ⟨⟨-, -, -, -, -, -, -, -, y8, -⟩, -, hIJ, -⟩ := hNA.below hbx
          have j1 : IntKind.i64.wrap ((j : Int) + 1 - 1) = (j : Int) := by rw [IntWalk.i64_in _ (by omega)]; omega
          have j2 : (j : Int) < n.nodes.length := by omega
          have j3 : (j : Int) + 1 ≤ (n.nodes.length : Int) := by omega
          have hfree : Kn.free I out ((j : Int) + 1) = freeTo out v.ins (!hasB out ((j : Int) + 1)) v.ins.length := by
            unfold Kn.free freeTo
            rw [hIk, List.take_length]
            rfl
          have HNA := Lib.hid hNA
          have HIJ := Lib.hid hIJ
          have HIk := Lib.hid hIk
          have Hnok := Lib.hid hnok
          have Hfree := Lib.hid hfree
          have Hnf := Lib.hid hnf
          clear hNA hIJ hIk hnok hfree hnf
          go_wp2_with fail
          refine (ref11_has Ao co out ((j : Int) + 1) _ (by omega) HIo.out).mono ?_
          rintro e w3 ⟨rfl, rfl⟩
          go_wp2_with fail
          have hfree := Hfree.out
          generalize (!hasB out ((j : Int) + 1)) = bh at *
          have Hfree := Lib.hid hfree
          clear hfree
          clear y8 x2
          go_loop [6, 8] (fun f i => ∃ m : Nat, m ≤ v.ins.length ∧ i = .int .i64 (m : Int) ∧ f = .bool (freeTo out v.ins bh m)) (fun _ i => v.ins.length - (intOf i).toNat)
          case atStart => exact ⟨0, Nat.zero_le _, rfl, by simp [freeTo]⟩
          case round =>
            obtain ⟨m, hm, rfl, rfl⟩ := hrel
            by_cases hlm : m < v.ins.length
            · obtain ⟨b1, off1, rfl, -, hc⟩ := HIJ.out m hlm
              rw [getD_at hlm] at hc
              have hfs := @freeTo_succ out v.ins bh m hlm
              generalize freeTo out v.ins bh m = fm at *
              generalize v.ins[m] = u at *
              by_cases hu : u = 0
              · have e1 : (u != 0) = false := by simp [hu]
                have HF := Lib.hid (show freeTo out v.ins bh (m + 1) = fm by rw [hfs, hu]; simp)
                clear hu hfs
                go_wp2_with fail
                go_round
                case rel => exact ⟨m + 1, by omega, by go_num, by rw [HF.out]⟩
                case measure => simp [intOf]; omega
              · have e1 : (u != 0) = true := by simp [hu]
                have e0 : (u == 0) = false := by simp [hu]
                rw [e0, Bool.false_or] at hfs
                clear hu e0
                have Hfs := Lib.hid hfs
                clear hfs
                go_wp2_with fail
                refine (ref11_has Ao co out u _ (by omega) HIo.out).mono ?_
                rintro e w3 ⟨rfl, rfl⟩
                by_cases hh : hasB out u = true
                · have HF := Lib.hid (show freeTo out v.ins bh (m + 1) = fm by rw [Hfs.out, show out.contains u = true from hh, Bool.and_true])
                  rw [hh]
                  clear hh
                  go_wp2_with fail
                  go_round
                  case rel => exact ⟨m + 1, by omega, by go_num, by rw [HF.out]⟩
                  case measure => simp [intOf]; omega
                · have hh' : hasB out u = false := by simpa using hh
                  have HF := Lib.hid (show freeTo out v.ins bh (m + 1) = false by rw [Hfs.out, show out.contains u = false from hh', Bool.and_false])
                  rw [hh']
                  clear hh hh'
                  go_wp2_with fail
                  go_round
                  case rel => exact ⟨m + 1, by omega, by go_num, by rw [HF.out]⟩
                  case measure => simp [intOf]; omega
            · obtain rfl : m = v.ins.length := by omega
              rw [← Hfree.out]
              by_cases hf : Kn.free I out ((j : Int) + 1) = true
              · obtain ⟨r, hr⟩ := Kn.ready_first (I := I) (n := n.nodes.length) (out := out) (id := (j : Int) + 1) (by omega) (by omega) hf (fun u h1 h2 => Hnf.out u h1 (by omega))
                have HG := Lib.hid (Hgo.out _ _ hr)
                have ho := ownsRow_new Hown.out (.cells #[.int .i64 ((j : Int) + 1)] 3)
                have hbx2 := (hbx.alloc hbx.size (.cells #[.int .i64 ((j : Int) + 1)] 3))
                have HLO := Lib.hid (fun b (hb : (Value.slice Ao out.length co).ownBlock = some b) => (Hown.out.lt b hb).1)
                rw [hf]
                clear hf hr
                go_wp2_with (at_builtin; refine wpList_append_own_at _ rfl _ _ 22 rfl w1.heap.size 3 i0 (.int .i64 0) 1 8 Tryz.underlying22 hi hz0 hz1 hz2 rfl (by decide) _ _ _ rfl ho ⟨wr.heap.size, 0, none⟩ 1 1 [.int .i64 ((j : Int) + 1)] rfl rfl ?c1 (by intro u hu; simp at hu; subst hu; rfl) (by unfold maxLen; omega) (by omega) ?c2 ?_)
                first | (case c1 => exact one_new wr _ _) | skip
                case c2 => first | exact hbx2.size | (have := hbx.size; omega)
                intro v' w3 hown' hgrow _ hat
                have hb3 : Below w1.heap.size w1 w3 := hbx2.grown hgrow hbx2.size (fun b hb => HLO.out b hb)
                have HO3 := Lib.hid (show w3.ownsRow w1.heap.size 3 1 v' (Kn.go I n.nodes.length (k + 1)).length ((Kn.go I n.nodes.length (k + 1)).map (Value.int .i64)) by rw [HG.out]; simpa using hown')
                clear hown' hgrow hat ho hbx2 HLO
                go_wp2_with fail
                go_roundw
                case rel => exact ⟨k + 1, by omega, by go_num, HO3.out, hb3⟩
                case measure => simp [intOf]; omega
              · have hf' : Kn.free I out ((j : Int) + 1) = false := by simpa using hf
                have HNF := Lib.hid (show ∀ u : Int, 1 ≤ u → u ≤ ((j + 1 : Nat) : Int) → Kn.free I out u = false from fun u h1 h2 => by
                  by_cases e : u = (j : Int) + 1
                  · rw [e]; exact hf'
                  · exact Hnf.out u h1 (by omega))
                rw [hf']
                clear hf hf'
                go_wp2_with fail
                go_round
                case rel => exact ⟨j + 1, by omega, by go_num, rfl, HNF.out⟩
                case measure => simp [intOf]; omega
        · obtain rfl : j = n.nodes.length := by omega
          have HG := Lib.hid (Hstuck.out (Kn.ready_none (fun u h1 h2 => hnf u h1 h2)))
          have j3 : ¬ (n.nodes.length : Int) + 1 ≤ (n.nodes.length : Int) := by omega
          clear hnf
          go_wp2_with fail
          go_roundw
          case rel => exact ⟨k + 1, by omega, by go_num, by rw [HG.out]; exact Hown.out, hbx⟩
          case measure => simp [intOf]; omega
    · obtain rfl : k = n.nodes.length := by omega
      have hos : os = Kn.go I n.nodes.length n.nodes.length := Hsort.out
      rw [← hos] at hown ⊢
      obtain ⟨q1, q2, q3⟩ := own_ints hown
      have Hown := Lib.hid hown
      have Hq1 := Lib.hid q1
      have Hos := Lib.hid hos
      clear hown q1 hos
      go_wp2_with fail
      go_ret
      exact ⟨Ao, co, rfl, Hq1.out, q2, q3, hb0.trans (hbx.mono hb0.size)⟩
end Go.Proofs.YtnffjfjhbjeaiaaGreatDoor
