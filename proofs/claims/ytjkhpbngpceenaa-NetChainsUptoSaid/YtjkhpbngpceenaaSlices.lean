/- slices.Insert, Delete and BinarySearch on rows of the call's own. -/
import Derived.Test.YtjkhpbngpceenaaInsert
import Derived.Test.YtjkhpbngpceenaaShelf
import Derived.Test.YtjkhpbngpceenaaNetU
import Derived.Test.YtjkhpbngpceenaaInfo
namespace Go.Proofs.Ytjkhpbngpceenaa
open Go.RowKit

theorem splice_cons {L : List Value} {o : Nat} {v : Value} {r : List Value} (h : o + (v :: r).length ≤ L.length) : splice (L.set o v) (o + 1) r = splice L o (v :: r) := by
  simp only [List.length_cons] at h
  unfold splice
  have e1 : (L.set o v).take (o + 1) = L.take o ++ [v] := by
    rw [List.take_succ_eq_append_getElem (by simp; omega), List.take_set_of_le (Nat.le_refl _)]
    simp
  rw [e1, List.drop_set_of_lt (by omega)]
  simp [Nat.add_assoc, Nat.add_comm 1]
theorem setCells_blk {g : Nat} {t : TypeId} : ∀ (vs : List Value) (o : Nat) (w : World) (L : List Value), Blk w g t L.toArray → o + vs.length ≤ L.length → Blk (w.setCells g o vs) g t (splice L o vs).toArray
  | [], o, w, L, h, _ => by rw [splice_zero]; exact h
  | v :: r, o, w, L, h, hl => by
    rw [← splice_cons hl]
    refine setCells_blk r (o + 1) _ _ ?_ (by simp at hl ⊢; omega)
    have := h.set_ o v
    simpa using this
theorem setCells_fr {S : Nat → Prop} {g : Nat} (hg : S g) : ∀ (vs : List Value) (o : Nat) (w0 w : World), Fr S w0 w → Fr S w0 (w.setCells g o vs)
  | [], _, _, _, h => h
  | v :: r, o, w0, w, h => setCells_fr hg r (o + 1) w0 _ (h.setCell (fun _ => hg) v)
theorem fr_new {S : Nat → Prop} {w w1 : World} (h : Fr S w w1) : ∀ (vs : List Value) (o : Nat), Fr S w (w1.setCells w.heap.size o vs)
  | [], _ => h
  | v :: r, o => fr_new (h.setCell (p := ⟨w.heap.size, o, none⟩) (fun q => absurd q (Nat.lt_irrefl _)) v) r (o + 1)
theorem Blk.shape {w : World} {g : Nat} {t : TypeId} {cs : Array Value} (h : Blk w g t cs) : w.shape? g = some (t, cs.size) := by
  unfold Blk at h
  simp [World.shape?, h]
theorem Blk.own {w : World} {B g n : Nat} {t : TypeId} {L : List Value} {xs : List Value} (h : Blk w g t L.toArray) (hB : B ≤ g) (hn : xs.length = n) (hl : n ≤ L.length) (hm : L.length ≤ maxLen) (ht : L.take n = xs) {c : Nat} (hc : c = L.length) :
    w.ownsRow B t 1 (.slice (some ⟨g, 0, none⟩) n c) n xs := by
  subst hc
  exact ⟨by omega, .inr ⟨g, _, _, rfl, hB, h, hl, hm, by simp, by simpa using ht⟩⟩
/-- What a change of an own row leaves. -/
def OwnPost (B : Nat) (t : TypeId) (v : Value) (zs : List Int) (w : World) (e : Ending) (w' : World) : Prop :=
  ∃ v', e = .returned v' ∧ w'.ownsRow B t 1 v' zs.length (zs.map (Value.int .i64)) ∧ Fr (fun b => v.ownBlock = some b) w w' ∧ (v'.ownBlock = v.ownBlock ∨ v'.ownBlock = some w.heap.size)

theorem spl_mid (A X Y B : List Value) (h : X.length = Y.length) : splice (A ++ (X ++ B)) A.length Y = A ++ (Y ++ B) := by
  unfold splice
  rw [List.take_append_of_le_length (Nat.le_refl _), List.take_length, ← h, ← List.length_append, ← List.append_assoc A X B, List.drop_left]
theorem ins_a {Z D : List Value} {x : Value} {i : Nat} (hi : i < Z.length) (hD : 1 ≤ D.length) : splice (splice (Z ++ D) (i + 1) (Z.drop i)) i [x] = Z.take i ++ x :: Z.drop i ++ D.drop 1 := by
  obtain ⟨d, D', rfl⟩ : ∃ d D', D = d :: D' := by cases D with | nil => simp at hD | cons d D' => exact ⟨d, D', rfl⟩
  obtain ⟨A, b, B, rfl, rfl⟩ : ∃ A b B, Z = A ++ b :: B ∧ i = A.length := ⟨Z.take i, Z[i], Z.drop (i + 1), by rw [← List.drop_eq_getElem_cons hi, List.take_append_drop], by simp; omega⟩
  rw [List.drop_left, List.take_left]
  have e1 : A ++ b :: B ++ d :: D' = (A ++ [b]) ++ ((B ++ [d]) ++ D') := by simp
  have e2 : A.length + 1 = (A ++ [b]).length := by simp
  rw [e1, e2, spl_mid _ _ (b :: B) _ (by simp)]
  have e3 : A ++ [b] ++ (b :: B ++ D') = A ++ ([b] ++ (b :: B ++ D')) := by simp
  rw [e3, spl_mid _ [b] [x] _ rfl]
  simp
theorem ins_b {Z Z1 Z2 : List Value} {x : Value} {i : Nat} (hi : i < Z.length) (h1 : Z1.length = Z.length + 1 - i) : splice (splice (Z.take i ++ Z1 ++ Z2) i [x]) (i + 1) (Z.drop i) = Z.take i ++ x :: Z.drop i ++ Z2 := by
  obtain ⟨d, D, rfl⟩ : ∃ d D, Z1 = d :: D := by cases Z1 with | nil => simp at h1; omega | cons d D => exact ⟨d, D, rfl⟩
  obtain ⟨A, B, rfl, rfl⟩ : ∃ A B, Z = A ++ B ∧ i = A.length := ⟨Z.take i, Z.drop i, (List.take_append_drop _ _).symm, by simp; omega⟩
  rw [List.drop_left, List.take_left]
  have e1 : A ++ d :: D ++ Z2 = A ++ ([d] ++ (D ++ Z2)) := by simp
  rw [e1, spl_mid _ [d] [x] _ rfl]
  have e2 : A ++ ([x] ++ (D ++ Z2)) = (A ++ [x]) ++ (D ++ Z2) := by simp
  have e3 : A.length + 1 = (A ++ [x]).length := by simp
  rw [e2, e3, spl_mid _ _ B _ (by simp at h1; omega)]
  simp
theorem ins_list {zs : List Int} {x : Int} {i : Nat} (h : i ≤ zs.length) : (zs.take i ++ x :: zs.drop i).length = zs.length + 1 := by simp; omega

theorem Blk.cells_map {w : World} {g : Nat} {t : TypeId} {L xs : List Value} {n : Nat} (h : Blk w g t L.toArray) (ht : L.take n = xs) : ∀ j v, xs[j]? = some v → w.cell? ⟨g, 0 + j, none⟩ = some v := fun j v hj => by
  rw [Nat.zero_add, h.cell j]
  subst ht
  rw [List.getElem?_take] at hj
  split at hj
  · simpa using hj
  · cases hj
theorem one_cell' {zs : List Int} : ∀ v ∈ zs.map (Value.int .i64), v.oneCell' = true := fun v hv => by
  obtain ⟨x, _, rfl⟩ := List.mem_map.1 hv
  rfl

theorem insert_own (B : Nat) (v : Value) (zs : List Int) (x : Int) (i vb : Nat) (w : World) (hi : i ≤ zs.length) (hn : zs.length ≤ 1099511627776) (hB : B ≤ w.heap.size) (hown : w.ownsRow B 3 1 v zs.length (zs.map (Value.int .i64))) (hv : Blk w vb 3 #[.int .i64 x]) (hvb : v.ownBlock ≠ some vb) :
    Calls Try.prog 77 #[v, .int .i64 i, .slice (some ⟨vb, 0, none⟩) 1 1] w (OwnPost B 3 v (zs.take i ++ x :: zs.drop i) w) := by
  have hvc : ∀ j u, [Value.int .i64 x][j]? = some u → w.cell? ⟨vb, 0 + j, none⟩ = some u := fun j u hj => by
    match j, hj with
    | 0, hj => simp at hj; subst hj; rw [hv.cell]; rfl
  have h1v : ∀ u ∈ [Value.int .i64 x], u.oneCell' = true := fun u hu => by simp at hu; subst hu; rfl
  have hmax : maxLen = 9223372036854775807 := rfl
  rcases hown.2 with ⟨rfl, h0⟩ | ⟨g, cap, cur, rfl, hBg, hh, hnc, hcm, hsz, htk⟩
  · have hz : zs = [] := List.eq_nil_of_length_eq_zero h0
    subst hz
    obtain rfl : i = 0 := by simpa using hi
    refine (Any2.slices_Insert_int_end_grow laysIns none 0 0 vb 0 1 1 [] [.int .i64 x] w (by omega) (by omega) (by omega) (by omega) rfl rfl (fun _ => rfl) (fun a h => by cases h) hvc h1v).mono ?_
    rintro e w' ⟨rfl, rfl⟩
    have hg := grownCap_ge w (0 + 1) 0 3
    have hgm := grownCap_le_maxLen w (0 + 1) 0 3 (by unfold maxLen; omega)
    refine ⟨_, rfl, ?_, ((Fr.refl _ w).drew).alloc _, .inr rfl⟩
    have hk := Blk.new w.drew 3 (([] ++ [Value.int .i64 x]).toArray ++ Builtin.zeroCells (Value.int .i64 0).cells (grownCap w (0 + 1) 0 3 - (0 + 1)))
    have hk2 : Blk (w.drew.alloc (.cells (([] ++ [Value.int .i64 x]).toArray ++ Builtin.zeroCells (Value.int .i64 0).cells (grownCap w (0 + 1) 0 3 - (0 + 1))) 3)) w.heap.size 3 (([Value.int .i64 x] ++ (Builtin.zeroCells (Value.int .i64 0).cells (grownCap w (0 + 1) 0 3 - (0 + 1))).toList).toArray) := by
      have e : (([Value.int .i64 x] ++ (Builtin.zeroCells (Value.int .i64 0).cells (grownCap w (0 + 1) 0 3 - (0 + 1))).toList).toArray) = ([] ++ [Value.int .i64 x]).toArray ++ Builtin.zeroCells (Value.int .i64 0).cells (grownCap w (0 + 1) 0 3 - (0 + 1)) := by
        apply Array.ext'
        simp
      rw [e]
      exact hk
    have hzl : (Builtin.zeroCells (Value.int .i64 0).cells (grownCap w (0 + 1) 0 3 - (0 + 1))).toList.length = grownCap w (0 + 1) 0 3 - (0 + 1) := by
      rw [Array.length_toList, size_zeroCells]; simp [Value.cells]
    exact hk2.own hB rfl (by simp) (by simp only [List.length_append, hzl, List.length_singleton]; omega) (by simp) (by simp only [List.length_append, hzl, List.length_singleton]; show grownCap w (0 + 1) 0 3 = _; omega)
  · have hk : Blk w g 3 cur.toList.toArray := by simpa [Blk] using hh
    have hcl : cur.toList.length = cap := by simpa using hsz
    have htk' : cur.toList.take zs.length = zs.map (Value.int .i64) := by simpa using htk
    have hcs := hk.cells_map htk'
    have hgv : g ≠ vb := fun h => hvb (by rw [h]; rfl)
    have hml : (zs.map (Value.int .i64)).length = zs.length := by simp
    by_cases hroom : zs.length + 1 ≤ cap
    · by_cases hlt : i < zs.length
      · refine (Any2.slices_Insert_int_shift laysIns g 0 zs.length cap i vb 0 1 1 (zs.map (Value.int .i64)) [.int .i64 x] w hlt (by omega) hroom (by omega) (fun h => hgv h.symm) hml rfl hcs ?_ ?_ hvc one_cell' h1v 3 3 1 cap ?_ ?_ (by omega) ?_ ?_).mono ?_
        · intro j hj; rw [Nat.zero_add, hk.cell]; simp; omega
        · intro j hj; exact hk.frozen _
        · exact hv.shape
        · rw [hk.shape]; simp [hsz]
        · exact hv.frozen _
        · exact hv.frozen _
        · rintro e w' ⟨rfl, rfl⟩
          have hd : (List.drop i (zs.map (Value.int .i64))).length = zs.length - i := by simp
          have k1 := setCells_blk ((zs.map (Value.int .i64)).drop i) (0 + (i + 1)) w.drew _ hk.drew (by rw [hd, hcl]; omega)
          have k2 := setCells_blk [Value.int .i64 x] (0 + i) _ _ k1 (by simp [splice]; omega)
          refine ⟨_, rfl, ?_, setCells_fr (by rfl) _ _ _ _ (setCells_fr (by rfl) _ _ _ _ (Fr.refl _ w).drew), .inl rfl⟩
          have hlen : (splice (splice cur.toList (0 + (i + 1)) ((zs.map (Value.int .i64)).drop i)) (0 + i) [Value.int .i64 x]).length = cap := by
            simp only [splice, List.length_append, List.length_take, List.length_drop, List.length_singleton, hd, hcl]; omega
          rw [ins_list hi]
          refine k2.own hBg (by simp; omega) (by rw [hlen]; omega) (by rw [hlen]; exact hcm) ?_ hlen.symm
          rw [Nat.zero_add, Nat.zero_add]
          have e0 : cur.toList = zs.map (Value.int .i64) ++ cur.toList.drop zs.length := by rw [← htk']; exact (List.take_append_drop _ _).symm
          rw [e0]
          generalize cur.toList.drop zs.length = D at *
          generalize hZ : zs.map (Value.int .i64) = Z at *
          have hZi : i < Z.length := by omega
          have hDl : 1 ≤ D.length := by rw [e0, List.length_append] at hcl; omega
          rw [ins_a hZi hDl]
          have : (Z.take i ++ Value.int .i64 x :: Z.drop i).length = zs.length + 1 := by simp; omega
          rw [List.take_append_of_le_length (by omega), List.take_of_length_le (by omega)]
          rw [← hZ]
          simp [List.map_take, List.map_drop]
      · obtain rfl : i = zs.length := by omega
        refine (Any2.slices_Insert_int_end_room laysIns g 0 zs.length cap vb 0 1 1 [.int .i64 x] w (by omega) hroom (by omega) rfl ?_ ?_ hvc h1v).mono ?_
        · intro j hj; rw [Nat.zero_add, hk.cell]; simp; omega
        · intro j hj; exact hk.frozen _
        · rintro e w' ⟨rfl, rfl⟩
          have k1 := setCells_blk [Value.int .i64 x] (0 + zs.length) w _ hk (by simp; omega)
          refine ⟨_, rfl, ?_, setCells_fr (by rfl) _ _ _ _ (Fr.refl _ w), .inl rfl⟩
          have hlen : (splice cur.toList (0 + zs.length) [Value.int .i64 x]).length = cap := by
            simp only [splice, List.length_append, List.length_take, List.length_drop, List.length_singleton, hcl]; omega
          rw [ins_list (Nat.le_refl _)]
          refine k1.own hBg (by simp) (by rw [hlen]; omega) (by rw [hlen]; exact hcm) ?_ hlen.symm
          rw [Nat.zero_add]
          unfold splice
          rw [htk', ← List.append_assoc]
          rw [List.take_append_of_le_length (by simp), List.take_of_length_le (by simp)]
          simp
    · have hce : cap = zs.length := by omega
      subst hce
      have hg := grownCap_ge w (zs.length + 1) zs.length 3
      have hgm := grownCap_le_maxLen w (zs.length + 1) zs.length 3 (by unfold maxLen; omega)
      by_cases hlt : i < zs.length
      · refine (Any2.slices_Insert_int_grow laysIns g 0 zs.length zs.length i vb 0 1 1 (zs.map (Value.int .i64)) [.int .i64 x] w hlt (by omega) (by omega) (by omega) (by omega) hml rfl hcs hvc one_cell' h1v).mono ?_
        rintro e w' ⟨rfl, rfl⟩
        have hz1 : (Builtin.zeroCells (Value.int .i64 0).cells (zs.length + 1 - i)).toList.length = zs.length + 1 - i := by rw [Array.length_toList, size_zeroCells]; simp [Value.cells]
        have hz2 : (Builtin.zeroCells (Value.int .i64 0).cells (grownCap w (zs.length + 1) zs.length 3 - (zs.length + 1))).toList.length = grownCap w (zs.length + 1) zs.length 3 - (zs.length + 1) := by rw [Array.length_toList, size_zeroCells]; simp [Value.cells]
        generalize hZ1 : Builtin.zeroCells (Value.int .i64 0).cells (zs.length + 1 - i) = Z1 at *
        have hT : insRen.t 3 = 3 := rfl
        rw [hT] at *
        generalize hZ2 : Builtin.zeroCells (Value.int .i64 0).cells (grownCap w (zs.length + 1) zs.length 3 - (zs.length + 1)) = Z2 at *
        generalize hG : grownCap w (zs.length + 1) zs.length 3 = G at *
        have hk0 : Blk (w.alloc (.cells (((zs.map (Value.int .i64)).take i).toArray ++ Z1 ++ Z2) 3)).drew w.heap.size 3 (((zs.map (Value.int .i64)).take i ++ Z1.toList ++ Z2.toList).toArray) := by
          have := Blk.new w 3 (((zs.map (Value.int .i64)).take i).toArray ++ Z1 ++ Z2)
          have e : (((zs.map (Value.int .i64)).take i ++ Z1.toList ++ Z2.toList).toArray) = ((zs.map (Value.int .i64)).take i).toArray ++ Z1 ++ Z2 := by
            apply Array.ext'
            simp
          rw [e]
          exact this.drew
        have hti : ((zs.map (Value.int .i64)).take i).length = i := by simp; omega
        have hd : ((zs.map (Value.int .i64)).drop i).length = zs.length - i := by simp
        have k1 := setCells_blk [Value.int .i64 x] i _ _ hk0 (by simp only [List.length_append, hti, hz1, hz2, List.length_singleton]; omega)
        have k2 := setCells_blk ((zs.map (Value.int .i64)).drop i) (i + 1) _ _ k1.drew (by simp only [splice, List.length_append, List.length_take, List.length_drop, List.length_singleton, hz1, hz2, List.length_map]; omega)
        refine ⟨_, rfl, ?_, ?_, .inr rfl⟩
        · have hlen : (splice (splice ((zs.map (Value.int .i64)).take i ++ Z1.toList ++ Z2.toList) i [Value.int .i64 x]) (i + 1) ((zs.map (Value.int .i64)).drop i)).length = G := by
            simp only [splice, List.length_append, List.length_take, List.length_drop, List.length_singleton, hz1, hz2, List.length_map]; omega
          rw [ins_list hi]
          refine k2.own hB (by simp; omega) (by rw [hlen]; omega) (by rw [hlen]; exact hgm) ?_ hlen.symm
          generalize hZ : zs.map (Value.int .i64) = Z at *
          rw [ins_b (by omega) (by omega)]
          have : (Z.take i ++ Value.int .i64 x :: Z.drop i).length = zs.length + 1 := by simp; omega
          rw [List.take_append_of_le_length (by omega), List.take_of_length_le (by omega)]
          rw [← hZ]
          simp [List.map_take, List.map_drop]
        · have f1 : Fr (fun b => (Value.slice (some ⟨g, 0, none⟩) zs.length zs.length).ownBlock = some b) w (w.alloc (.cells (((zs.map (Value.int .i64)).take i).toArray ++ Z1 ++ Z2) 3)) := (Fr.refl _ w).alloc _
          exact fr_new (fr_new f1.drew _ _).drew _ _
      · obtain rfl : i = zs.length := by omega
        refine (Any2.slices_Insert_int_end_grow laysIns (some ⟨g, 0, none⟩) zs.length zs.length vb 0 1 1 (zs.map (Value.int .i64)) [.int .i64 x] w (by omega) (Nat.le_refl _) (by omega) (by omega) hml rfl (fun h => by cases h) (fun a h => by injection h with h; subst h; intro j u hj; have := hcs j u hj; rw [Addr.add_lit]; simpa using this) hvc h1v).mono ?_
        rintro e w' ⟨rfl, rfl⟩
        have hT : insRen.t 3 = 3 := rfl
        rw [hT] at *
        have hz2 : (Builtin.zeroCells (Value.int .i64 0).cells (grownCap w (zs.length + 1) zs.length 3 - (zs.length + 1))).toList.length = grownCap w (zs.length + 1) zs.length 3 - (zs.length + 1) := by rw [Array.length_toList, size_zeroCells]; simp [Value.cells]
        generalize hZ2 : Builtin.zeroCells (Value.int .i64 0).cells (grownCap w (zs.length + 1) zs.length 3 - (zs.length + 1)) = Z2 at *
        generalize hG : grownCap w (zs.length + 1) zs.length 3 = G at *
        refine ⟨_, rfl, ?_, ((Fr.refl _ w).drew).alloc _, .inr rfl⟩
        have hk0 : Blk (w.drew.alloc (.cells ((zs.map (Value.int .i64) ++ [Value.int .i64 x]).toArray ++ Z2) 3)) w.heap.size 3 ((zs.map (Value.int .i64) ++ [Value.int .i64 x] ++ Z2.toList).toArray) := by
          have := Blk.new w.drew 3 ((zs.map (Value.int .i64) ++ [Value.int .i64 x]).toArray ++ Z2)
          have e : ((zs.map (Value.int .i64) ++ [Value.int .i64 x] ++ Z2.toList).toArray) = (zs.map (Value.int .i64) ++ [Value.int .i64 x]).toArray ++ Z2 := by
            apply Array.ext'
            simp
          rw [e]
          exact this
        have hlen : (zs.map (Value.int .i64) ++ [Value.int .i64 x] ++ Z2.toList).length = G := by simp only [List.length_append, List.length_map, List.length_singleton, hz2]; omega
        rw [ins_list (Nat.le_refl _)]
        refine hk0.own hB (by simp) (by rw [hlen]; omega) (by rw [hlen]; exact hgm) ?_ hlen.symm
        rw [List.take_append_of_le_length (by simp), List.take_of_length_le (by simp)]
        simp
theorem delete_own (B : Nat) (v : Value) (x : Int) (zs : List Int) (w : World) (hn : (x :: zs).length ≤ 1099511627776) (hown : w.ownsRow B 3 1 v (x :: zs).length ((x :: zs).map (Value.int .i64))) :
    Calls Try.prog 75 #[v, .int .i64 0, .int .i64 1] w (OwnPost B 3 v zs w) := by
  have hmax : maxLen = 9223372036854775807 := rfl
  rcases hown.2 with ⟨rfl, h0⟩ | ⟨g, cap, cur, rfl, hBg, hh, hnc, hcm, hsz, htk⟩
  · simp at h0
  · have hk : Blk w g 3 cur.toList.toArray := by simpa [Blk] using hh
    have hcl : cur.toList.length = cap := by simpa using hsz
    have htk' : cur.toList.take (x :: zs).length = (x :: zs).map (Value.int .i64) := by simpa using htk
    have hcs := hk.cells_map htk'
    refine (Try.slices_Delete_int_cells g 0 (x :: zs).length cap 0 1 (x :: zs) w (Nat.le_refl _) hnc (by omega) (by omega) (by simp) ?_ ?_).mono ?_
    · intro j hj
      refine hcs j _ ?_
      rw [List.getElem?_map, List.getElem?_eq_getElem hj, List.getD_eq_getElem?_getD, List.getElem?_eq_getElem hj]
      rfl
    · intro j hj; exact hk.frozen _
    · rintro e w' ⟨rfl, q, rfl⟩
      have hlist : ((((x :: zs).take (x :: zs).length).take 0 ++ ((x :: zs).take (x :: zs).length).drop 1 ++ List.replicate (1 - 0) 0).map (Value.int .i64)) = zs.map (Value.int .i64) ++ [Value.int .i64 0] := by simp
      rw [hlist]
      have k1 := setCells_blk (zs.map (Value.int .i64) ++ [Value.int .i64 0]) 0 (w.drewN q) _ (hk.drewN q) (by rw [hcl]; simp at hnc ⊢; omega)
      refine ⟨_, rfl, ?_, setCells_fr (by rfl) _ _ _ _ ((Fr.refl _ w).drewN q), .inl rfl⟩
      have hlen : (splice cur.toList 0 (zs.map (Value.int .i64) ++ [Value.int .i64 0])).length = cap := by
        simp only [splice, List.length_append, List.length_take, List.length_drop, List.length_singleton, List.length_map, hcl]; simp at hnc; omega
      refine k1.own hBg (by simp) (by rw [hlen]; simp at hnc ⊢; omega) (by rw [hlen]; exact hcm) ?_ hlen.symm
      unfold splice
      simp
theorem search_own (B : Nat) (v : Value) (x : Int) (zs : List Int) (w : World) (hn : zs.length ≤ 1099511627776) (hs : zs.Pairwise (· ≤ ·)) (hown : w.ownsRow B 3 1 v zs.length (zs.map (Value.int .i64))) :
    Calls Try.prog 76 #[v, .int .i64 x] w fun e w' => (∃ b, e = .returned (.tuple #[.int .i64 (zs.countP (· < x) : Nat), .bool b])) ∧ ∃ q, w' = w.drewN q := by
  rcases hown.2 with ⟨rfl, h0⟩ | ⟨g, cap, cur, rfl, hBg, hh, hnc, hcm, hsz, htk⟩
  · have : zs = [] := List.eq_nil_of_length_eq_zero h0
    subst this
    refine (Try.slices_BinarySearch_int_empty none 0 x w).mono ?_
    rintro e w' ⟨rfl, rfl⟩
    exact ⟨⟨_, rfl⟩, 0, rfl⟩
  · have hk : Blk w g 3 cur.toList.toArray := by simpa [Blk] using hh
    have htk' : cur.toList.take zs.length = zs.map (Value.int .i64) := by simpa using htk
    have hcs := hk.cells_map htk'
    refine (Try.slices_BinarySearch_int g 0 zs.length cap zs x w (Nat.le_refl _) (by omega) ?_ (by rw [List.take_length]; exact hs)).mono ?_
    · intro j hj
      refine hcs j _ ?_
      rw [List.getElem?_map, List.getElem?_eq_getElem hj, List.getD_eq_getElem?_getD, List.getElem?_eq_getElem hj]
      rfl
    · rintro e w' ⟨rfl, q, rfl⟩
      rw [List.take_length]
      exact ⟨⟨_, rfl⟩, q, rfl⟩
end Go.Proofs.Ytjkhpbngpceenaa
