/- Lemmas for the statements of this seat: contracts of functions and the plain laws. -/
import Derived.BigQuiet
import Derived.Deep.DeepCutAuto
import Derived.Deep.RegionHeld3
import Derived.Deep.RegionLaw
import Derived.Test.YtkmhagjdafeebaaGreatZ05
set_option linter.unusedVariables false
/- Layer 5 (point): cells and slopes of all kinds; a row of tensors: contracts. -/
namespace Go.Proofs.YtkmhagjdafeebaaGreat
open Go.RowKit
theorem kinds7 {k : Int} (h1 : 1 ≤ k) (h7 : k ≤ 7) : k = 1 ∨ k = 2 ∨ k = 3 ∨ k = 4 ∨ k = 5 ∨ k = 6 ∨ k = 7 := by omega
namespace Ly
theorem cell_in {kind k x y : Int} (hx : Fx.In x) : Fx.In (cell kind k x y) := by
  unfold cell
  have o1 : Fx.In 4294967296 := by unfold Fx.In; omega
  have o2 : Fx.In (-4294967296) := by unfold Fx.In; omega
  repeat' split
  all_goals first | exact hx | exact Fx.in_zero | exact Fx.mul_in _ _ | exact Fx.add_in _ _ | exact Fx.held_in hx o2 o1 | exact Fx.held_in (Fx.add_in _ _) Fx.in_zero o1
theorem slope_in {kind k x y g : Int} (hg : Fx.In g) : Fx.In (slope kind k x y g).1 ∧ Fx.In (slope kind k x y g).2 := by
  unfold slope
  repeat' split
  all_goals refine ⟨?_, ?_⟩
  all_goals first | exact hg | exact Fx.in_zero | exact Fx.mul_in _ _
theorem cell1 (k x y : Int) : cell 1 k x y = if x < 0 then 0 else x := by unfold cell; rw [if_pos (by decide)]
theorem cell2 (k x y : Int) : cell 2 k x y = if 0 < x then x else Fx.mul x k := by unfold cell; rw [if_neg (by decide)]; rw [if_pos (by decide)]
theorem cell3 (k x y : Int) : cell 3 k x y = Fx.held x (-4294967296) 4294967296 := by unfold cell; rw [if_neg (by decide)]; rw [if_neg (by decide)]; rw [if_pos (by decide)]
theorem cell4 (k x y : Int) : cell 4 k x y = Fx.held (line x) 0 4294967296 := by unfold cell; rw [if_neg (by decide)]; rw [if_neg (by decide)]; rw [if_neg (by decide)]; rw [if_pos (by decide)]
theorem cell5 (k x y : Int) : cell 5 k x y = Fx.mul x k := by unfold cell; rw [if_neg (by decide)]; rw [if_neg (by decide)]; rw [if_neg (by decide)]; rw [if_neg (by decide)]; rw [if_pos (by decide)]
theorem cell6 (k x y : Int) : cell 6 k x y = Fx.add x y := by unfold cell; rw [if_neg (by decide)]; rw [if_neg (by decide)]; rw [if_neg (by decide)]; rw [if_neg (by decide)]; rw [if_neg (by decide)]; rw [if_pos (by decide)]
theorem cell7 (k x y : Int) : cell 7 k x y = Fx.mul x y := by unfold cell; rw [if_neg (by decide)]; rw [if_neg (by decide)]; rw [if_neg (by decide)]; rw [if_neg (by decide)]; rw [if_neg (by decide)]; rw [if_neg (by decide)]; rw [if_pos (by decide)]
theorem slope1 (k x y g : Int) : slope 1 k x y g = if 0 < x then (g, 0) else (0, 0) := by unfold slope; rw [if_pos (by decide)]
theorem slope2 (k x y g : Int) : slope 2 k x y g = if 0 < x then (g, 0) else (Fx.mul g k, 0) := by unfold slope; rw [if_neg (by decide)]; rw [if_pos (by decide)]
theorem slope3 (k x y g : Int) : slope 3 k x y g = if -4294967296 < x ∧ x < 4294967296 then (g, 0) else (0, 0) := by unfold slope; rw [if_neg (by decide)]; rw [if_neg (by decide)]; rw [if_pos (by decide)]
theorem slope4 (k x y g : Int) : slope 4 k x y g = if 0 < line x ∧ line x < 4294967296 then (Fx.mul g 1073741824, 0) else (0, 0) := by unfold slope; rw [if_neg (by decide)]; rw [if_neg (by decide)]; rw [if_neg (by decide)]; rw [if_pos (by decide)]
theorem slope5 (k x y g : Int) : slope 5 k x y g = (Fx.mul g k, 0) := by unfold slope; rw [if_neg (by decide)]; rw [if_neg (by decide)]; rw [if_neg (by decide)]; rw [if_neg (by decide)]; rw [if_pos (by decide)]
theorem slope6 (k x y g : Int) : slope 6 k x y g = (g, g) := by unfold slope; rw [if_neg (by decide)]; rw [if_neg (by decide)]; rw [if_neg (by decide)]; rw [if_neg (by decide)]; rw [if_neg (by decide)]; rw [if_pos (by decide)]
theorem slope7 (k x y g : Int) : slope 7 k x y g = (Fx.mul g y, Fx.mul g x) := by unfold slope; rw [if_neg (by decide)]; rw [if_neg (by decide)]; rw [if_neg (by decide)]; rw [if_neg (by decide)]; rw [if_neg (by decide)]; rw [if_neg (by decide)]; rw [if_pos (by decide)]
end Ly
end Go.Proofs.YtkmhagjdafeebaaGreat
/- Tensors in memory: one, a row of them, one made by the call. -/
namespace Go.Proofs.YtkmhagjdafeebaaGreat
open Go.RowKit
/-- A tensor's rows, with the room that its slices tell. -/
structure TenIn (w : World) (S C : Option Addr) (c d : Nat) (t : Ten) : Prop where
  r : TenR w S C t
  s1 : t.s.length ≤ c
  s2 : c ≤ 9223372036854775807
  c1 : t.c.length ≤ d
  c2 : d ≤ 9223372036854775807
  l1 : t.s.length ≤ 1048576
  l2 : t.c.length ≤ 1048576
  num : Ly.In t
theorem TenIn.below {B : Nat} {w w' : World} {S C : Option Addr} {c d : Nat} {t : Ten} (h : TenIn w S C c d t) (hb : Below B w w') (hB : w.heap.size ≤ B) : TenIn w' S C c d t := { h with r := h.r.below hb hB }
theorem TenIn.later {w w' : World} {S C : Option Addr} {c d : Nat} {t : Ten} (h : TenIn w S C c d t) (hb : Later w w') : TenIn w' S C c d t := h.below hb (Nat.le_refl _)
theorem TenIn.cell {w : World} {S C : Option Addr} {c d : Nat} {t : Ten} (h : TenIn w S C c d t) {k : Nat} (hk : k < t.c.length) : ∃ b off, C = some ⟨b, off, none⟩ ∧ b < w.heap.size ∧ w.cell? ⟨b, off + k, none⟩ = some (.int .i64 (Ly.at_ t.c k)) := h.r.2 k hk
/-- A row of tensors. -/
def Tns (w : World) (A : Option Addr) (ts : List Ten) : Prop :=
  ∀ j (hj : j < ts.length), ∃ b off S c C d, A = some ⟨b, off, none⟩ ∧ b < w.heap.size ∧ w.cell? ⟨b, off + j * 2, none⟩ = some (.slice S ts[j].s.length c) ∧ w.cell? ⟨b, off + j * 2 + 1, none⟩ = some (.slice C ts[j].c.length d) ∧ TenIn w S C c d ts[j]
theorem Tns.below {B : Nat} {w w' : World} {A : Option Addr} {ts : List Ten} (h : Tns w A ts) (hb : Below B w w') (hB : w.heap.size ≤ B) : Tns w' A ts := fun j hj => by
  obtain ⟨b, off, S, c, C, d, e, hl, c0, c1, hT⟩ := h j hj
  exact ⟨b, off, S, c, C, d, e, Nat.lt_of_lt_of_le hl hb.size, (hb.cell (p := ⟨b, off + j * 2, none⟩) (Nat.lt_of_lt_of_le hl hB)).trans c0, (hb.cell (p := ⟨b, off + j * 2 + 1, none⟩) (Nat.lt_of_lt_of_le hl hB)).trans c1, hT.below hb hB⟩
theorem Tns.later {w w' : World} {A : Option Addr} {ts : List Ten} (h : Tns w A ts) (hb : Later w w') : Tns w' A ts := h.below hb (Nat.le_refl _)
theorem got_at {l : List Ten} {k : Nat} (h : k < l.length) : Ly.got l k = l[k] := by unfold Ly.got; rw [List.getD_eq_getElem?_getD, List.getElem?_eq_getElem h]; rfl
/-- The tensor at a place. -/
theorem Tns.at_ {w : World} {A : Option Addr} {ts : List Ten} (h : Tns w A ts) {j : Nat} (hj : j < ts.length) :
    ∃ b off S c C d, A = some ⟨b, off, none⟩ ∧ b < w.heap.size ∧ w.cell? ⟨b, off + j * 2, none⟩ = some (.slice S (Ly.got ts j).s.length c) ∧ w.cell? ⟨b, off + j * 2 + 1, none⟩ = some (.slice C (Ly.got ts j).c.length d) ∧ TenIn w S C c d (Ly.got ts j) := by
  rw [got_at hj]
  exact h j hj
theorem Tns.first {w : World} {A : Option Addr} {ts : List Ten} (h : Tns w A ts) (hj : 0 < ts.length) :
    ∃ b off S c C d, A = some ⟨b, off, none⟩ ∧ b < w.heap.size ∧ w.cell? ⟨b, off, none⟩ = some (.slice S (Ly.got ts 0).s.length c) ∧ w.cell? ⟨b, off + 1, none⟩ = some (.slice C (Ly.got ts 0).c.length d) ∧ TenIn w S C c d (Ly.got ts 0) := by
  obtain ⟨b, off, S, c, C, d, h1, h2, h3, h4, h5⟩ := h.at_ hj
  exact ⟨b, off, S, c, C, d, h1, h2, by simpa using h3, by simpa using h4, h5⟩
/-- A tensor whose rows lie in blocks from B on and may be written. -/
def TenO (B : Nat) (w : World) (v : Value) (t : Ten) : Prop :=
  ∃ S c C d, v = .agg #[.slice S t.s.length c, .slice C t.c.length d] ∧ TenIn w S C c d t ∧ (∀ a, S = some a → B ≤ a.block) ∧ (∀ a, C = some a → B ≤ a.block ∧ a.block < w.heap.size ∧ ∀ j, w.frozen? ⟨a.block, j, none⟩ = false)
theorem TenO.later {B : Nat} {w w' : World} {v : Value} {t : Ten} (h : TenO B w v t) (hb : Later w w') : TenO B w' v t := by
  obtain ⟨S, c, C, d, h1, h2, h3, h4⟩ := h
  refine ⟨S, c, C, d, h1, h2.later hb, h3, fun a e => ?_⟩
  obtain ⟨k1, k2, k3⟩ := h4 a e
  exact ⟨k1, Nat.lt_of_lt_of_le k2 hb.size, fun j => (Below.frozen hb (p := ⟨a.block, j, none⟩) k2).trans (k3 j)⟩
theorem TenO.base {B B' : Nat} {w : World} {v : Value} {t : Ten} (h : TenO B w v t) (hB : B' ≤ B) : TenO B' w v t := by
  obtain ⟨S, c, C, d, h1, h2, h3, h4⟩ := h
  exact ⟨S, c, C, d, h1, h2, fun a e => Nat.le_trans hB (h3 a e), fun a e => ⟨Nat.le_trans hB (h4 a e).1, (h4 a e).2⟩⟩
theorem TenN.o {B : Nat} {w : World} {v : Value} {t : Ten} (h : TenN B w v t) (h1 : t.s.length ≤ 1048576) (h2 : t.c.length ≤ 1048576) (hn : Ly.In t) : TenO B w v t := by
  obtain ⟨g, i, rfl, hg, hi, kg, ki⟩ := h
  refine ⟨_, _, _, _, rfl, ⟨⟨kg.ints, ki.ints⟩, Nat.le_refl _, by omega, Nat.le_refl _, by omega, h1, h2, hn⟩, fun a e => ?_, fun a e => ?_⟩
  · injection e with e; subst e; exact hg
  · injection e with e; subst e; exact ⟨hi, ki.lt, fun j => ki.frozen j⟩
theorem Blk.intsL {w : World} {g : Nat} {t : TypeId} (l : List Int) (h : Blk w g t (l.map (Value.int .i64)).toArray) : Ints .i64 w (some ⟨g, 0, none⟩) l := Ints.of_row fun j hj => by
  rw [Nat.zero_add, h.cell]
  simp [hj]
theorem cell_setfar {w : World} {p q : Addr} {u v : Value} (h : w.cell? q = some v) (hne : q.block ≠ p.block) : (w.setCell p u).cell? q = some v := (World.cell?_of_block (Below.heap_setCell w p u q.block hne)).trans h
theorem far_block {w : World} {p b : Nat} (hne : b ≠ p) (u u2 : Value) : ((w.setCell ⟨p, 0, none⟩ u).setCell ⟨p, 1, none⟩ u2).heap[b]? = w.heap[b]? :=
  (Below.heap_setCell _ ⟨p, 1, none⟩ u2 b hne).trans (Below.heap_setCell w ⟨p, 0, none⟩ u b hne)
theorem Ints.box {w : World} {A : Option Addr} {zs : List Int} {p : Nat} {T : TypeId} (h : Ints .i64 w A zs) (hz : Blk w p T #[.slice none 0 0, .slice none 0 0]) (u u2 : Value) : Ints .i64 ((w.setCell ⟨p, 0, none⟩ u).setCell ⟨p, 1, none⟩ u2) A zs := fun j hj => by
  obtain ⟨b, off, e, hl, hc⟩ := h j hj
  have hne : b ≠ p := by
    rintro rfl
    rw [hz.cell] at hc
    match h : off + j with
    | 0 => rw [h] at hc; simp at hc
    | 1 => rw [h] at hc; simp at hc
    | n + 2 => rw [h] at hc; simp at hc
  exact ⟨b, off, e, by simpa using hl, (World.cell?_of_block (far_block hne u u2)).trans hc⟩
/-- A tensor's rows behind stores into a box of two slices. -/
theorem TenO.box {B : Nat} {w : World} {v u u2 : Value} {t : Ten} {p : Nat} {T : TypeId} (h : TenO B w v t) (hz : Blk w p T #[.slice none 0 0, .slice none 0 0]) : TenO B ((w.setCell ⟨p, 0, none⟩ u).setCell ⟨p, 1, none⟩ u2) v t := by
  obtain ⟨S, c, C, d, h1, h2, h3, h4⟩ := h
  refine ⟨S, c, C, d, h1, { h2 with r := ⟨h2.r.1.box hz u u2, h2.r.2.box hz u u2⟩ }, h3, fun a e => ?_⟩
  obtain ⟨k1, k2, k3⟩ := h4 a e
  exact ⟨k1, by simpa using k2, fun j => by rw [World.frozen?_setCell, World.frozen?_setCell]; exact k3 j⟩
/-- What a layer's function hands back. -/
def GoP (r : Ten × Int) (w : World) (e : Ending) (w' : World) : Prop :=
  (r.2 ≠ 0 ∧ e = .returned (.tuple #[.agg #[.slice none 0 0, .slice none 0 0], .int .i64 r.2]) ∨ r.2 = 0 ∧ ∃ v, e = .returned (.tuple #[v, .int .i64 0]) ∧ TenO w.heap.size w' v r.1) ∧ Below w.heap.size w w'
theorem GoP.fail {n : Int} {r : Ten × Int} {w w' : World} (hr : r = (Ly.none_, n)) (hn : n ≠ 0) (hb : Below w.heap.size w w') : GoP r w (.returned (.tuple #[.agg #[.slice none 0 0, .slice none 0 0], .int .i64 n])) w' := by
  subst hr; exact ⟨.inl ⟨hn, rfl⟩, hb⟩
theorem GoP.fail2 {n : Int} {r : Ten × Int} {w w' : World} (hr : r.2 = n) (hn : n ≠ 0) (hb : Below w.heap.size w w') : GoP r w (.returned (.tuple #[.agg #[.slice none 0 0, .slice none 0 0], .int .i64 n])) w' := by
  subst hr; exact ⟨.inl ⟨hn, rfl⟩, hb⟩
theorem GoP.ok {t : Ten} {r : Ten × Int} {v : Value} {w w' : World} (hr : r = (t, 0)) (hv : TenO w.heap.size w' v t) (hb : Below w.heap.size w w') : GoP r w (.returned (.tuple #[v, .int .i64 0])) w' := by
  subst hr; exact ⟨.inr ⟨rfl, v, rfl, hv⟩, hb⟩
theorem GoP.from_ {r : Ten × Int} {w w1 w' : World} {e : Ending} (h : GoP r w1 e w') (hb : Below w.heap.size w w1) : GoP r w e w' := by
  refine ⟨?_, hb.trans (h.2.mono hb.size)⟩
  rcases h.1 with h1 | ⟨h1, v, h2, h3⟩
  · exact .inl h1
  · exact .inr ⟨h1, v, h2, h3.base hb.size⟩
namespace Ly
theorem tab_len (n : Nat) (f : Nat → Int) : (tab n f).length = n := by simp [tab]
theorem tab_get {n : Nat} {f : Nat → Int} {k : Nat} (hk : k < (tab n f).length) : (tab n f)[k] = f k := by simp [tab]
theorem tab_in {n : Nat} {f : Nat → Int} (h : ∀ i, i < n → Fx.In (f i)) : ∀ z ∈ tab n f, Fx.In z := fun z hz => by
  unfold tab at hz
  obtain ⟨i, hi, rfl⟩ := List.mem_map.1 hz
  exact h i (List.mem_range.1 hi)
theorem at_in {l : List Int} (h : ∀ z ∈ l, Fx.In z) (i : Nat) : Fx.In (at_ l i) := by
  unfold at_
  rw [List.getD_eq_getElem?_getD]
  rcases Nat.lt_or_ge i l.length with hi | hi
  · rw [List.getElem?_eq_getElem hi]; exact h _ (List.getElem_mem hi)
  · rw [List.getElem?_eq_none hi]; exact Fx.in_zero
theorem at_get {l : List Int} {i : Nat} (hi : i < l.length) : at_ l i = l[i] := by unfold at_; rw [List.getD_eq_getElem?_getD, List.getElem?_eq_getElem hi]; rfl
theorem got_in {l : List Ten} (h : ∀ t ∈ l, In t) (i : Nat) : In (got l i) := by
  unfold got
  rw [List.getD_eq_getElem?_getD]
  rcases Nat.lt_or_ge i l.length with hi | hi
  · rw [List.getElem?_eq_getElem hi]; exact h _ (List.getElem_mem hi)
  · rw [List.getElem?_eq_none hi]; intro z hz; simp [none_] at hz
/-- A row filled from the left: one step. -/
theorem mid_step (C L : List Int) {k : Nat} (hk : k < C.length) (hn : C.length = L.length) : (C.take k ++ L.drop k).set k C[k] = C.take (k + 1) ++ L.drop (k + 1) := by
  have h1 : (C.take k).length = k := by simp; omega
  rw [List.set_append_right _ _ (by omega), h1, Nat.sub_self, List.drop_eq_getElem_cons (by omega), List.set_cons_zero, List.take_succ_eq_append_getElem hk, List.append_assoc]
  rfl
theorem mid_len (C L : List Int) (k : Nat) (hk : k ≤ C.length) (hn : C.length = L.length) : (C.take k ++ L.drop k).length = C.length := by simp; omega
theorem mid_end (C L : List Int) (k : Nat) (hk : k = C.length) (hn : C.length = L.length) : C.take k ++ L.drop k = C := by subst hk; rw [List.take_length, hn, List.drop_length, List.append_nil]
end Ly
theorem Tns.in_ {w : World} {A : Option Addr} {ts : List Ten} (h : Tns w A ts) : ∀ t ∈ ts, Ly.In t := fun t ht => by
  obtain ⟨j, hj, rfl⟩ := List.getElem_of_mem ht
  obtain ⟨b, off, S, c, C, d, h1, h2, h3, h4, h5⟩ := h j hj
  exact h5.num
end Go.Proofs.YtkmhagjdafeebaaGreat
/- Steps of a drawn region walked by hand, their side conditions paid by themselves. No program is named here. -/
namespace Go.Proofs.YtkmhagjdafeebaaGreat
open Go.RowKit
/-- By what was done since. -/
theorem Later.au {w w1 : World} (h : Later w w1 := by with_reducible repeat (first | exact Later.refl _ | apply Later.drew | apply Later.drewN | apply Later.alloc | refine Later.call ?_ (by assumption))) : Later w w1 := h
theorem ga {α : Type} {xs : List α} {i : Nat} (h : i < xs.toArray.size) : xs.toArray[i] = xs[i] := List.getElem_toArray h
theorem gs {α : Type} (a : α) (al : List α) (i : Nat) (h : i + 1 < (a :: al).length) : (a :: al)[i + 1] = al[i]'(by simpa using h) := List.getElem_cons_succ ..
theorem gz {α : Type} (a : α) (al : List α) (h : 0 < (a :: al).length) : (a :: al)[0] = a := List.getElem_cons_zero ..
theorem sa {α : Type} (l : List α) (i : Nat) (a : α) : l.toArray.setIfInBounds i a = (l.set i a).toArray := List.setIfInBounds_toArray ..
theorem sz {α : Type} {x : α} {xs : List α} {a : α} : (x :: xs).set 0 a = a :: xs := List.set_cons_zero
theorem ss {α : Type} {x : α} {xs : List α} {i : Nat} {a : α} : (x :: xs).set (i + 1) a = x :: xs.set i a := List.set_cons_succ
section
variable {P : Program} {ops : Array Oper} {Q : Exit → Act → World → Prop} {md : Region.Mode} {S : World → Prop} {fuel : Nat} {listed : Array Bool} {a : Act} {w : World}
/-- Take number i first. -/
theorem tk (i : Nat) {oi : Oper} {v : Value} {a2 : Act} (h : wpAnyH P md ops Q S fuel (listed.setIfInBounds i true) a2 w)
    (hi : ops[i]? = some oi := by rfl) (hs : Region.noSelect ops = true := by kernel_rfl) (hf : Region.free md ops listed i = true := by kernel_rfl) (hr : (Region.ready md ops listed).contains i = true := by kernel_rfl)
    (hg : Region.wanted oi (yielded ops a.tmps) = true := by rfl)
    (hy : ∀ w, S w → (execOp a.eval oi).run P w = .ok (.value v) w := by (simp only [List.getElem_toArray, List.getElem_cons_succ, List.getElem_cons_zero]; intro w hSw; (try dsimp only at hSw); go_simp; first | done | with_reducible rfl))
    (hS : S w := by assumption)
    (ha : a.put oi.dst v = a2 := by ((try simp only [List.getElem_toArray, List.getElem_cons_succ, List.getElem_cons_zero, Act.put, List.setIfInBounds_toArray, List.set_cons_zero, List.set_cons_succ]) <;> rfl))
    (hQ : ∀ c a w, Q (.panic c) (a.put oi.dst v) w → Q (.panic c) a w := by exact fun _ _ _ h => h) : wpAnyH P md ops Q S (fuel + 1) listed a w :=
  wpAnyH_take hi hs hf hr hQ (.inl ⟨hg, hy⟩) hS (ha ▸ h)
/-- Number i is passed over. -/
theorem tn (i : Nat) {oi : Oper} {a2 : Act} (h : wpAnyH P md ops Q S fuel (listed.setIfInBounds i true) a2 w)
    (hi : ops[i]? = some oi := by rfl) (hs : Region.noSelect ops = true := by kernel_rfl) (hf : Region.free md ops listed i = true := by kernel_rfl) (hr : (Region.ready md ops listed).contains i = true := by kernel_rfl)
    (hg : Region.wanted oi (yielded ops a.tmps) = false := by rfl)
    (hS : S w := by assumption)
    (ha : a.put oi.dst undef = a2 := by ((try simp only [List.getElem_toArray, List.getElem_cons_succ, List.getElem_cons_zero, Act.put, List.setIfInBounds_toArray, List.set_cons_zero, List.set_cons_succ]) <;> rfl))
    (hQ : ∀ c a w, Q (.panic c) (a.put oi.dst undef) w → Q (.panic c) a w := by exact fun _ _ _ h => h) : wpAnyH P md ops Q S (fuel + 1) listed a w :=
  wpAnyH_take hi hs hf hr hQ (.inr ⟨hg, rfl⟩) hS (ha ▸ h)
/-- Only number i may come up. -/
theorem rd (i : Nat) {oi : Oper}
    (h : ∀ K' : Act → World → Prop, Shut (∀ a w, S w → (S w → wpAnyH P md ops Q S fuel (listed.setIfInBounds i true) a w) → K' a w) → if Region.wanted oi (yielded ops a.tmps) = true then Oper.wp P oi a w K' Q else K' (a.put oi.dst undef) w)
    (hr : Region.ready md ops listed = [i] := by kernel_rfl) (hi : ops[i]? = some oi := by rfl) : wpAnyH P md ops Q S (fuel + 1) listed a w :=
  wpAnyH_ready hr (by simp) (AllReadyH.cons hi h AllReadyH.nil)
end
end Go.Proofs.YtkmhagjdafeebaaGreat
/- Layers 24 and 26: State.Copy, metrics cloned, Saved.copied, Trainer.Saved: contracts. -/
namespace Go.Proofs.YtkmhagjdafeebaaGreat
open Go.RowKit
theorem two_cells {w : World} {p : Nat} {T : TypeId} {v0 v1 : Value} (h : Blk w p T #[v0, v1]) : w.cell? ⟨p, 0, none⟩ = some v0 ∧ w.cell? ⟨p, 1, none⟩ = some v1 ∧ w.frozen? ⟨p, 0, none⟩ = false ∧ w.frozen? ⟨p, 1, none⟩ = false := ⟨h.cell 0, h.cell 1, h.frozen 0, h.frozen 1⟩
theorem three_cells {w : World} {p : Nat} {T : TypeId} {v0 v1 v2 : Value} (h : Blk w p T #[v0, v1, v2]) : w.cell? ⟨p, 0, none⟩ = some v0 ∧ w.cell? ⟨p, 1, none⟩ = some v1 ∧ w.cell? ⟨p, 2, none⟩ = some v2 ∧ w.frozen? ⟨p, 0, none⟩ = false ∧ w.frozen? ⟨p, 1, none⟩ = false ∧ w.frozen? ⟨p, 2, none⟩ = false := ⟨h.cell 0, h.cell 1, h.cell 2, h.frozen 0, h.frozen 1, h.frozen 2⟩
theorem CpsR.base_ {B B' G : Nat} {L : List TenA} {w : World} (h : CpsR B G L w) (hB : B' ≤ B) : CpsR B' G L w := ⟨Nat.le_trans hB h.base, h.row, h.ok, fun x hx => ⟨Nat.le_trans hB (h.low x hx).1, Nat.le_trans hB (h.low x hx).2⟩⟩
theorem CpsR.far {B G : Nat} {L : List TenA} {w : World} (h : CpsR B G L w) {p : Addr} (hp : p.block < B) (u : Value) : CpsR B G L (w.setCell p u) := h.on (w.setCell p u) fun b hb => Below.heap_setCell w p u b (by omega)
def StaP (ps vs : List Ten) (w : World) (e : Ending) (w' : World) : Prop :=
  ∃ G L H M, e = .returned (.agg #[.slice (some ⟨G, 0, none⟩) ps.length ps.length, .slice (some ⟨H, 0, none⟩) vs.length vs.length]) ∧ L.map (·.1) = ps ∧ M.map (·.1) = vs ∧ CpsR w.heap.size G L w' ∧ CpsR w.heap.size H M w' ∧ Below w.heap.size w w'
set_option maxHeartbeats 4000000 in
set_option maxRecDepth 20000 in
theorem state_copy (P V : Option Addr) (c d : Nat) (ps vs : List Ten) (w : World) (hp : ps.length ≤ 1000000) (hv : vs.length ≤ 1000000) (sp : Tn.small ps) (sv : Tn.small vs) (hP : Tens w P ps) (hV : Tens w V vs) :
    Calls Tryz.prog 56 #[.agg #[.slice P ps.length c, .slice V vs.length d]] w (StaP ps vs w) := by
  have hb0 := (Blk.new w 29 #[.slice P ps.length c, .slice V vs.length d]).alloc (.cells #[.slice none 0 0, .slice none 0 0] 29)
  have hz0 := Blk.new (w.alloc (.cells #[.slice P ps.length c, .slice V vs.length d] 29)) 29 #[.slice none 0 0, .slice none 0 0]
  rw [World.size_alloc] at hz0
  have h00 := ((Later.refl w).alloc (.cells #[.slice P ps.length c, .slice V vs.length d] 29)).alloc (.cells #[.slice none 0 0, .slice none 0 0] 29)
  have Hsp := Lib.hid sp
  have Hsv := Lib.hid sv
  have HP := Lib.hid hP
  have HV := Lib.hid hV
  have Hb0 := Lib.hid hb0
  have Hz0 := Lib.hid hz0
  have H00 := Lib.hid h00
  clear sp sv hP hV hb0 hz0 h00
  go_enter Tryz.func56, Tryz.ntmps56
  go_upto_region 1 with fail
  have hs0 : ((w.alloc (.cells #[.slice P ps.length c, .slice V vs.length d] 29)).alloc (.cells #[.slice none 0 0, .slice none 0 0] 29)).heap.size = w.heap.size + 2 := by simp
  generalize (w.alloc (.cells #[.slice P ps.length c, .slice V vs.length d] 29)).alloc (.cells #[.slice none 0 0, .slice none 0 0] 29) = w0 at *
  have a0 : w0.cell? ⟨w.heap.size, 0, none⟩ = some (.slice P ps.length c) := Hb0.out.cell 0
  have a1 : w0.cell? ⟨w.heap.size, 1, none⟩ = some (.slice V vs.length d) := Hb0.out.cell 1
  have Hc1 := Lib.hid fun (X : World) (h : Later w0 X) => optim_copies P c ps X hp Hsp.out (HP.out.below (H00.out.trans h) (Nat.le_refl _))
  have Hc2 := Lib.hid fun (X : World) (h : Later w0 X) => optim_copies V d vs X hv Hsv.out (HV.out.below (H00.out.trans h) (Nat.le_refl _))
  have KF := Lib.hid (show ∀ Xw, Later w0 Xw → Xw.cell? ⟨w.heap.size, 0, none⟩ = some (.slice P ps.length c) ∧ Xw.cell? ⟨w.heap.size, 1, none⟩ = some (.slice V vs.length d) from fun Xw h => ⟨h.cell a0, h.cell a1⟩)
  refine wp_region_noPanic ?_
  refine wp_region_held_drew (S := fun Xw => Xw.cell? ⟨w.heap.size, 0, none⟩ = some (.slice P ps.length c) ∧ Xw.cell? ⟨w.heap.size, 1, none⟩ = some (.slice V vs.length d)) (by kernel_rfl) (KF.out _ Later.au) (fun hHeld => ?_)
  refine tk 0 ?_
  refine tk 1 ?_
  refine tk 3 ?_
  refine tk 4 ?_
  refine rd 2 fun K hK => ?_
  simp only [ga, gs, gz]
  go_simp
  go_at_call 52; (with_reducible refine (Hc1.out _ (Later.au : Later w0 _)).mono ?_); rintro e wa ⟨G, L, rfl, hL, -, hG, hbwa⟩
  have HL := Lib.hid hL
  have HG := Lib.hid hG
  clear hL hG
  try go_wp2_with fail
  refine hK.out _ _ (KF.out _ Later.au) (fun hHeld => ?_)
  clear hK K
  try simp only [ga, gs, gz, Act.put, sa, sz, ss]
  refine rd 5 fun K hK => ?_
  simp only [ga, gs, gz]
  go_simp
  go_at_call 52; (with_reducible refine (Hc2.out _ (Later.au : Later w0 _)).mono ?_); rintro e wb ⟨H, M, rfl, hM, -, hH, hbwb⟩
  have HM := Lib.hid hM
  have HH := Lib.hid hH
  have l1 : Later w0 wb := (Later.au : Later w0 wb)
  have hz2 := l1.blk Hz0.out
  obtain ⟨z0, z1, y0, y1⟩ := two_cells hz2
  clear hM hH l1
  try go_wp2_with fail
  refine hK.out _ _ (KF.out _ Later.au) (fun hHeld => ?_)
  clear hK K
  try simp only [ga, gs, gz, Act.put, sa, sz, ss]
  refine tk 6 ?_
  refine rd 7 fun K hK => ?_
  simp only [ga, gs, gz]
  go_simp
  refine hK.out _ _ ?_ (fun hHeld => ?_)
  · (try dsimp only); (refine ⟨?_, ?_⟩ <;> (repeat (refine cell_setfar ?_ (by first | omega | (simp; done) | (simp; omega)))) <;> (refine Later.cell (Later.au : Later w0 _) ?_) <;> assumption)
  clear hK K
  try simp only [ga, gs, gz, Act.put, sa, sz, ss]
  clear KF
  refine wpAnyH_done (by kernel_rfl) ?_ _
  refine NoPanic.normal ?_
  have l1 : Later w0 wa := Later.au
  have l2 : Later wa wb := Later.au
  have hga := HG.out
  have hgb := HH.out
  rw [World.size_drew] at hga
  have s1 := l1.size
  have hg3 := ((hga.later l2).base_ (show w.heap.size + 2 ≤ w0.heap.size by omega))
  have hh3 := hgb.base_ (show w.heap.size + 2 ≤ wa.heap.size by omega)
  have hl3 := (H00.out.trans (l1.trans l2))
  have HR := Lib.hid (show StaP ps vs w (.returned (.agg #[.slice (some ⟨G, 0, none⟩) ps.length ps.length, .slice (some ⟨H, 0, none⟩) vs.length vs.length])) ((wb.setCell ⟨w.heap.size + 1, 0, none⟩ (.slice (some ⟨G, 0, none⟩) ps.length ps.length)).setCell ⟨w.heap.size + 1, 1, none⟩ (.slice (some ⟨H, 0, none⟩) vs.length vs.length)) from ⟨G, L, H, M, rfl, HL.out, HM.out, ((hg3.far (p := ⟨w.heap.size + 1, 0, none⟩) (by simp) _).far (p := ⟨w.heap.size + 1, 1, none⟩) (by simp) _).base_ (by omega), ((hh3.far (p := ⟨w.heap.size + 1, 0, none⟩) (by simp) _).far (p := ⟨w.heap.size + 1, 1, none⟩) (by simp) _).base_ (by omega), (hl3.set (p := ⟨w.heap.size + 1, 0, none⟩) (by simp) _).set (p := ⟨w.heap.size + 1, 1, none⟩) (by simp) _⟩)
  clear hga hgb hg3 hh3 hl3 l1 l2
  go_wp2_with fail
  refine bodyPost_ret (v := .agg #[.slice (some ⟨G, 0, none⟩) ps.length ps.length, .slice (some ⟨H, 0, none⟩) vs.length vs.length]) (by simp [results, Tryz.results56, go_sem, z0, z1]) rfl ?_
  exact HR.out
end Go.Proofs.YtkmhagjdafeebaaGreat
/- Rows of the call's own: what they read as. No program is named here. -/
namespace Go.Proofs.YtkmhagjdafeebaaGreat
open Go.RowKit
theorem own_form {w : World} {B e s n : Nat} {v : Value} {xs : List Value} (h : w.ownsRow B e s v n xs) : ∃ A c, v = .slice A n c := by
  rcases h.2 with ⟨rfl, h0⟩ | ⟨g, cap, cur, rfl, _⟩
  · exact ⟨none, 0, by rw [h0]⟩
  · exact ⟨_, cap, rfl⟩
theorem own_ints {w : World} {B e n c : Nat} {A : Option Addr} {zs : List Int} (h : w.ownsRow B e 1 (.slice A zs.length c) n (zs.map (Value.int .i64))) : Ints .i64 w A zs ∧ zs.length ≤ c ∧ c ≤ 9223372036854775807 := by
  obtain ⟨A1, c1, e1, rfl, hI⟩ := Ints.of_own h
  injection e1 with e1 _ e2
  subst e1 e2
  refine ⟨hI, ?_⟩
  rcases h.2 with ⟨h1, h0⟩ | ⟨g, cap, cur, h1, _, _, h3, h4, _⟩
  · injection h1 with _ _ h1; omega
  · injection h1 with _ _ h1; unfold maxLen at h4; omega
theorem ownsRow_new {w : World} {B e s n : Nat} {v : Value} {xs : List Value} (h : w.ownsRow B e s v n xs) (o : Obj) : (w.alloc o).ownsRow B e s v n xs := ownsRow_heap h fun g hg => Below.heap_alloc w o g (h.lt g hg).2
theorem ownsRow_grown {w w' : World} {B e s n : Nat} {v : Value} {xs : List Value} {row : Option Nat} (h : w.ownsRow B e s v n xs) (hg : w.grownBy w' row) (hr : ∀ b, v.ownBlock = some b → row ≠ some b) : w'.ownsRow B e s v n xs := ownsRow_heap h fun g k => hg.block g (h.lt g k).2 fun e => hr g k e.symm
theorem ownsRow_fr {w w' : World} {B e s n : Nat} {v : Value} {xs : List Value} {S : Nat → Prop} (h : w.ownsRow B e s v n xs) (hg : Fr S w w') (hr : ∀ b, v.ownBlock = some b → ¬ S b) : w'.ownsRow B e s v n xs := ownsRow_heap h fun g k => hg.2 g (h.lt g k).2 (hr g k)
theorem right_short {s : List Int} (h : Sh.right s = true) : 0 < s.length ∧ s.length ≤ 4 := by
  obtain ⟨_, a, b, _⟩ := Sh.right_mul h
  exact ⟨by omega, a⟩
end Go.Proofs.YtkmhagjdafeebaaGreat
/- Layer 26: metrics cloned, Saved.copied, Trainer.Saved: contracts. -/
namespace Go.Proofs.YtkmhagjdafeebaaGreat
open Go.RowKit
/-- What was saved lies in blocks from B on. -/
def SavO (B : Nat) (w : World) (P V M : Option Addr) (s : Sav) : Prop := ∃ F : Nat → Prop, On F w (fun w => SavR w P V M s) ∧ ∀ b, F b → B ≤ b ∧ b < w.heap.size
section
variable {B : Nat} {w w' : World} {P V M : Option Addr} {s : Sav}
theorem SavO.now (h : SavO B w P V M s) : SavR w P V M s := by obtain ⟨F, hF, -⟩ := h; exact hF.now
theorem SavO.fr {S : Nat → Prop} (h : SavO B w P V M s) (hf : Fr S w w') (hS : ∀ b, B ≤ b → ¬ S b) : SavO B w' P V M s := by
  obtain ⟨F, hF, hb⟩ := h
  exact ⟨F, hF.fr hf fun b k => ⟨(hb b k).2, hS b (hb b k).1⟩, fun b k => ⟨(hb b k).1, Nat.lt_of_lt_of_le (hb b k).2 hf.size⟩⟩
theorem SavO.later (h : SavO B w P V M s) (hl : Later w w') : SavO B w' P V M s := h.fr (S := fun _ => False) (Fr.of_below hl fun b hb _ => hb) fun _ _ h => h
theorem SavO.base_ {B' : Nat} (h : SavO B w P V M s) (hB : B' ≤ B) : SavO B' w P V M s := by
  obtain ⟨F, hF, hb⟩ := h
  exact ⟨F, hF, fun b k => ⟨Nat.le_trans hB (hb b k).1, (hb b k).2⟩⟩
theorem SavO.far (h : SavO B w P V M s) {p : Addr} (hp : p.block < B) (u : Value) : SavO B (w.setCell p u) P V M s := h.fr (show Fr (fun b => b = p.block) w (w.setCell p u) from Fr.setCell (S := fun b => b = p.block) (p := p) (Fr.refl _ w) (fun _ => rfl) u) fun b hb e => by omega
end
theorem mets_own {B : Nat} {w : World} {e : TypeId} {M : Option Addr} {c : Nat} {ms : List Met} (h : w.ownsRow B e 6 (.slice M ms.length c) ms.length (ms.flatMap metCells)) : ∃ F : Nat → Prop, On F w (fun w => Mets w M ms) ∧ ∀ b, F b → B ≤ b ∧ b < w.heap.size := by
  refine ⟨fun b => (Value.slice M ms.length c).ownBlock = some b, fun w' ha => ?_, fun b hb => h.lt b hb⟩
  have h2 := ownsRow_heap (w' := w') h fun g hg => ha g hg
  exact mets_of (C := w'.heap.size) (cap := c) ⟨h2, fun b hb => (h2.lt b hb).2, Nat.le_refl _, fun x _ => ⟨fun _ => False, fun _ _ => trivial, fun _ k => k.elim⟩⟩
theorem mets_flat (ms : List Met) : (ms.flatMap metCells).length = ms.length * 6 := by
  induction ms with
  | nil => rfl
  | cons x r ih => simp [ih, metCells]; omega
theorem mets_cell {w : World} {ad : Addr} {ms : List Met} (h : Mets w (some ad) ms) (j : Nat) (u : Value) (hu : (ms.flatMap metCells)[j]? = some u) : w.cell? (ad.add j) = some u := by
  have hj : j < ms.length * 6 := by have := (List.getElem?_eq_some_iff.1 hu).1; rwa [mets_flat] at this
  obtain ⟨q, r, hr, rfl⟩ : ∃ q r, r < 6 ∧ j = q * 6 + r := ⟨j / 6, j % 6, Nat.mod_lt _ (by omega), by omega⟩
  have hq : q < ms.length := by omega
  have hg : ∀ l : List Met, ∀ k, k < l.length → ∀ i, i < 6 → (l.flatMap metCells)[k * 6 + i]? = (metCells (l.getD k ⟨0, 0, 0, 0, 0, 0⟩))[i]? := by
    intro l
    induction l with
    | nil => intro k hk; simp at hk
    | cons x t ih =>
      intro k hk i hi
      match k with
      | 0 => rw [List.flatMap_cons, List.getElem?_append_left (by simp [metCells]; omega)]; simp
      | k + 1 =>
        rw [List.flatMap_cons, List.getElem?_append_right (by simp [metCells]; omega), show (k + 1) * 6 + i - (metCells x).length = k * 6 + i by simp [metCells]; omega, ih k (by simpa using hk) i hi]
        simp
  rw [hg ms q hq r hr] at hu
  have e : ms.getD q ⟨0, 0, 0, 0, 0, 0⟩ = ms[q] := by rw [List.getD_eq_getElem?_getD, List.getElem?_eq_getElem hq]; rfl
  rw [e] at hu
  obtain ⟨b, off, ea, -, c0, c1, c2, c3, c4, c5⟩ := h q hq
  injection ea with ea
  subst ea
  rw [Addr.add_lit]
  match r, hr with
  | 0, _ => rw [show off + (q * 6 + 0) = off + q * 6 by omega, c0]; simpa [metCells] using hu
  | 1, _ => rw [show off + (q * 6 + 1) = off + q * 6 + 1 by omega, c1]; simpa [metCells] using hu
  | 2, _ => rw [show off + (q * 6 + 2) = off + q * 6 + 2 by omega, c2]; simpa [metCells] using hu
  | 3, _ => rw [show off + (q * 6 + 3) = off + q * 6 + 3 by omega, c3]; simpa [metCells] using hu
  | 4, _ => rw [show off + (q * 6 + 4) = off + q * 6 + 4 by omega, c4]; simpa [metCells] using hu
  | 5, _ => rw [show off + (q * 6 + 5) = off + q * 6 + 5 by omega, c5]; simpa [metCells] using hu
def ClonM (ms : List Met) (w : World) (e : Ending) (w' : World) : Prop :=
  ∃ M c, e = .returned (.slice M ms.length c) ∧ (∃ F : Nat → Prop, On F w' (fun w => Mets w M ms) ∧ ∀ b, F b → w.heap.size ≤ b ∧ b < w'.heap.size) ∧ Below w.heap.size w w'
set_option maxHeartbeats 1000000 in
set_option maxRecDepth 100000 in
theorem mets_clone (A : Option Addr) (c : Nat) (ms : List Met) (w : World) (hI : Mets w A ms) (hl : ms.length ≤ 1000000) :
    Calls Tryz.prog 57 #[.slice A ms.length c] w (ClonM ms w) := by
  obtain ⟨i0, hi, hz0, hz1, hz2⟩ := info_parts met_info
  have HI := Lib.hid hI
  clear hI
  have hq : ∀ (w : World) (a : Option Addr) (n c n' c' : Nat), (binOp .eql 30 (.slice a n c) (.slice none n' c')).run Tryz.prog w = .ok (.bool a.isNone) w := fun w a n c n' c' => Lib.run_eql_slice_nil w _ _ a n c n' c' Tryz.underlying30
  cases A with
  | none =>
    have hz : ms = [] := by
      cases ms with
      | nil => rfl
      | cons x r => obtain ⟨b, off, h, _⟩ := HI.out 0 (by simp); cases h
    subst hz
    go_enter Tryz.func57, Tryz.ntmps57
    go_wp2_with fail
    go_ret
    exact ⟨none, 0, rfl, ⟨fun _ => False, fun _ _ j hj => absurd hj (by simp), fun _ h => h.elim⟩, Below.refl _ _⟩
  | some ad =>
    go_enter Tryz.func57, Tryz.ntmps57
    go_wp2_with (at_builtin; refine wpList_append_own _ rfl _ _ 30 rfl w.heap.size 70 i0 (.agg #[.int .i64 0, .int .i64 0, .int .i64 0, .int .i64 0, .int .i64 0, .int .i64 0]) 6 48 Tryz.underlying30 hi hz0 hz1 hz2 rfl (by decide) _ 0 [] rfl (World.ownsRow_made w #[] 0 (Nat.le_refl _) (Nat.zero_le _) rfl) ad ms.length c (ms.flatMap metCells) rfl ?c1 ?c2 ?c3 ?c4 ?c5 ?c6 ?_)
    case c1 => exact mets_flat ms
    case c2 =>
      intro j u hj
      exact mets_cell (HI.out.below ((Below.refl _ w).alloc (Nat.le_refl _) _) (Nat.le_refl _)) j u hj
    case c3 => intro u hu; obtain ⟨x, _, hx⟩ := List.mem_flatMap.1 hu; simp [metCells] at hx; rcases hx with rfl | rfl | rfl | rfl | rfl | rfl <;> rfl
    case c4 => unfold maxLen; omega
    case c5 => omega
    case c6 => simp
    intro v' w1 hown hgrow hnil
    try rw [Nat.zero_add] at hown
    try rw [List.nil_append] at hown
    obtain ⟨J, jc, rfl⟩ := own_form hown
    have HM := Lib.hid (mets_own hown)
    have HB := Lib.hid (((Below.refl _ w).alloc (Nat.le_refl _) (.cells #[] 70)).grown hgrow (by simp) (by intro k hk; simp [Value.ownBlock] at hk; omega))
    clear hown hgrow hnil
    go_wp2_with fail
    go_ret
    exact ⟨J, jc, rfl, HM.out, HB.out⟩
def CopdP (s : Sav) (w : World) (e : Ending) (w' : World) : Prop :=
  ∃ P V M c, e = .returned (.agg #[.slice P s.p.length s.p.length, .slice V s.v.length s.v.length, .slice M s.m.length c]) ∧ SavO w.heap.size w' P V M s ∧ Below w.heap.size w w'
theorem savO_of {B G H C : Nat} {L K : List TenA} {w : World} {M : Option Addr} {s : Sav} (hL : L.map (·.1) = s.p) (hK : K.map (·.1) = s.v) (hG : CpsR B G L w) (hH : CpsR B H K w) (sp : Tn.small s.p) (sv : Tn.small s.v)
    (hM : ∃ F : Nat → Prop, On F w (fun w => Mets w M s.m) ∧ ∀ b, F b → C ≤ b ∧ b < w.heap.size) (hC : B ≤ C) : SavO B w (some ⟨G, 0, none⟩) (some ⟨H, 0, none⟩) M s := by
  obtain ⟨F, hF, hb⟩ := hM
  refine ⟨fun b => (B ≤ b ∧ b < w.heap.size) ∨ F b, fun w' ha => ?_, fun b hb2 => ?_⟩
  · have h1 := hG.on w' fun b k => ha b (.inl k)
    have h2 := hH.on w' fun b k => ha b (.inl k)
    have h3 := hF w' fun b k => ha b (.inr k)
    refine ⟨hL ▸ h1.tens fun x hx => sp _ (hL ▸ List.mem_map_of_mem hx), hK ▸ h2.tens fun x hx => sv _ (hK ▸ List.mem_map_of_mem hx), h3⟩
  · rcases hb2 with h | h
    · exact h
    · exact ⟨Nat.le_trans hC (hb b h).1, (hb b h).2⟩
set_option maxHeartbeats 4000000 in
set_option maxRecDepth 20000 in
theorem saved_copied (P V M : Option Addr) (c1 c2 c3 : Nat) (s : Sav) (w : World) (hs : s.ok) (hS : SavR w P V M s) :
    Calls Tryz.prog 27 #[.agg #[.slice P s.p.length c1, .slice V s.v.length c2, .slice M s.m.length c3]] w (CopdP s w) := by
  have hb0 := (Blk.new w 32 #[.slice P s.p.length c1, .slice V s.v.length c2, .slice M s.m.length c3]).alloc (.cells #[.slice none 0 0, .slice none 0 0, .slice none 0 0] 32)
  have hz0 := Blk.new (w.alloc (.cells #[.slice P s.p.length c1, .slice V s.v.length c2, .slice M s.m.length c3] 32)) 32 #[.slice none 0 0, .slice none 0 0, .slice none 0 0]
  rw [World.size_alloc] at hz0
  have h00 := ((Later.refl w).alloc (.cells #[.slice P s.p.length c1, .slice V s.v.length c2, .slice M s.m.length c3] 32)).alloc (.cells #[.slice none 0 0, .slice none 0 0, .slice none 0 0] 32)
  have hs0 : ((w.alloc (.cells #[.slice P s.p.length c1, .slice V s.v.length c2, .slice M s.m.length c3] 32)).alloc (.cells #[.slice none 0 0, .slice none 0 0, .slice none 0 0] 32)).heap.size = w.heap.size + 2 := by simp
  obtain ⟨s1, s2, s3, s4, s5⟩ := hs
  have HS := Lib.hid hS
  have Hb0 := Lib.hid hb0
  have Hz0 := Lib.hid hz0
  have H00 := Lib.hid h00
  have Hs4 := Lib.hid s4
  have Hs5 := Lib.hid s5
  clear hS hb0 hz0 h00 s4 s5
  go_enter Tryz.func27, Tryz.ntmps27
  go_upto_region 1 with fail
  generalize (w.alloc (.cells #[.slice P s.p.length c1, .slice V s.v.length c2, .slice M s.m.length c3] 32)).alloc (.cells #[.slice none 0 0, .slice none 0 0, .slice none 0 0] 32) = w0 at *
  have a0 : w0.cell? ⟨w.heap.size, 0, none⟩ = some (.slice P s.p.length c1) := Hb0.out.cell 0
  have a1 : w0.cell? ⟨w.heap.size, 1, none⟩ = some (.slice V s.v.length c2) := Hb0.out.cell 1
  have a2 : w0.cell? ⟨w.heap.size, 2, none⟩ = some (.slice M s.m.length c3) := Hb0.out.cell 2
  have Hc1 := Lib.hid fun (X : World) (h : Later w0 X) => state_copy P V c1 c2 s.p s.v X s1 s2 Hs4.out Hs5.out (HS.out.1.below (H00.out.trans h) (Nat.le_refl _)) (HS.out.2.1.below (H00.out.trans h) (Nat.le_refl _))
  have Hc2 := Lib.hid fun (X : World) (h : Later w0 X) => mets_clone M c3 s.m X (HS.out.2.2.below (H00.out.trans h) (Nat.le_refl _)) s3
  have KF := Lib.hid (show ∀ Xw, Later w0 Xw → Xw.cell? ⟨w.heap.size, 0, none⟩ = some (.slice P s.p.length c1) ∧ Xw.cell? ⟨w.heap.size, 1, none⟩ = some (.slice V s.v.length c2) ∧ Xw.cell? ⟨w.heap.size, 2, none⟩ = some (.slice M s.m.length c3) from fun Xw h => ⟨h.cell a0, h.cell a1, h.cell a2⟩)
  refine wp_region_noPanic ?_
  refine wp_region_held_drew (S := fun Xw => Xw.cell? ⟨w.heap.size, 0, none⟩ = some (.slice P s.p.length c1) ∧ Xw.cell? ⟨w.heap.size, 1, none⟩ = some (.slice V s.v.length c2) ∧ Xw.cell? ⟨w.heap.size, 2, none⟩ = some (.slice M s.m.length c3)) (by kernel_rfl) (KF.out _ Later.au) (fun hHeld => ?_)
  refine tk 0 ?_
  refine tk 1 ?_
  refine tk 3 ?_
  refine tk 4 ?_
  refine rd 2 fun K hK => ?_
  simp only [ga, gs, gz]
  go_simp
  go_at_call 56; (with_reducible refine (Hc1.out _ (Later.au : Later w0 _)).mono ?_); rintro e wa ⟨G, L, H, LK, rfl, hL, hLK, hG, hH, hbwa⟩
  have HL := Lib.hid hL
  have HLK := Lib.hid hLK
  have HG := Lib.hid hG
  have HH := Lib.hid hH
  clear hL hLK hG hH
  try go_wp2_with fail
  refine hK.out _ _ (KF.out _ Later.au) (fun hHeld => ?_)
  clear hK K
  try simp only [ga, gs, gz, Act.put, sa, sz, ss]
  refine rd 5 fun K hK => ?_
  simp only [ga, gs, gz]
  go_simp
  go_at_call 57; (with_reducible refine (Hc2.out _ (Later.au : Later w0 _)).mono ?_); rintro e wb ⟨MM, mc, rfl, hM, hbwb⟩
  have HM := Lib.hid hM
  have l1 : Later w0 wb := (Later.au : Later w0 wb)
  have hz2 := l1.blk Hz0.out
  obtain ⟨z0, z1, z2, y0, y1, y2⟩ := three_cells hz2
  clear hM l1
  try go_wp2_with fail
  refine hK.out _ _ (KF.out _ Later.au) (fun hHeld => ?_)
  clear hK K
  try simp only [ga, gs, gz, Act.put, sa, sz, ss]
  refine tk 6 ?_
  refine rd 7 fun K hK => ?_
  simp only [ga, gs, gz]
  go_simp
  refine hK.out _ _ ?_ (fun hHeld => ?_)
  · (try dsimp only); (refine ⟨?_, ?_, ?_⟩ <;> (repeat (refine cell_setfar ?_ (by first | omega | (simp; done) | (simp; omega)))) <;> (refine Later.cell (Later.au : Later w0 _) ?_) <;> assumption)
  clear hK K
  try simp only [ga, gs, gz, Act.put, sa, sz, ss]
  clear KF
  refine wpAnyH_done (by kernel_rfl) ?_ _
  refine NoPanic.normal ?_
  have l1 : Later w0 wa := Later.au
  have l2 : Later wa wb := Later.au
  have hga := HG.out
  have hgb := HH.out
  rw [World.size_drew] at hga hgb
  have s1 := l1.size
  have hR := savO_of HL.out HLK.out ((hga.later l2).base_ (show w.heap.size + 2 ≤ w0.heap.size by omega)) ((hgb.later l2).base_ (show w.heap.size + 2 ≤ w0.heap.size by omega)) Hs4.out Hs5.out HM.out (by omega)
  have hl3 := (H00.out.trans (l1.trans l2))
  have HR := Lib.hid (show CopdP s w (.returned (.agg #[.slice (some ⟨G, 0, none⟩) s.p.length s.p.length, .slice (some ⟨H, 0, none⟩) s.v.length s.v.length, .slice MM s.m.length mc])) (((wb.setCell ⟨w.heap.size + 1, 0, none⟩ (.slice (some ⟨G, 0, none⟩) s.p.length s.p.length)).setCell ⟨w.heap.size + 1, 1, none⟩ (.slice (some ⟨H, 0, none⟩) s.v.length s.v.length)).setCell ⟨w.heap.size + 1, 2, none⟩ (.slice MM s.m.length mc)) from ⟨_, _, _, _, rfl, (((hR.far (p := ⟨w.heap.size + 1, 0, none⟩) (by simp) _).far (p := ⟨w.heap.size + 1, 1, none⟩) (by simp) _).far (p := ⟨w.heap.size + 1, 2, none⟩) (by simp) _).base_ (by omega), ((hl3.set (p := ⟨w.heap.size + 1, 0, none⟩) (by simp) _).set (p := ⟨w.heap.size + 1, 1, none⟩) (by simp) _).set (p := ⟨w.heap.size + 1, 2, none⟩) (by simp) _⟩)
  clear hga hgb hR hl3 l1 l2
  go_wp2_with fail
  refine bodyPost_ret (v := .agg #[.slice (some ⟨G, 0, none⟩) s.p.length s.p.length, .slice (some ⟨H, 0, none⟩) s.v.length s.v.length, .slice MM s.m.length mc]) (by simp [results, Tryz.results27, go_sem, z0, z1, z2]) rfl ?_
  exact HR.out
set_option maxHeartbeats 4000000 in
set_option maxRecDepth 20000 in
theorem trainer_saved (g : Nat) (P V M : Option Addr) (c1 c2 c3 : Nat) (s : Sav) (w : World) (hs : s.ok) (hS : SavR w P V M s)
    (e0 : w.cell? ⟨g, 12, none⟩ = some (.slice P s.p.length c1)) (e1 : w.cell? ⟨g, 13, none⟩ = some (.slice V s.v.length c2)) (e2 : w.cell? ⟨g, 14, none⟩ = some (.slice M s.m.length c3)) :
    Calls Tryz.prog 9 #[.pointer (some ⟨g, 0, none⟩)] w (CopdP s w) := by
  have hz0 := Blk.new w 32 #[.slice none 0 0, .slice none 0 0, .slice none 0 0]
  have h00 := (Later.refl w).alloc (.cells #[.slice none 0 0, .slice none 0 0, .slice none 0 0] 32)
  have d0 := h00.cell e0
  have d1 := h00.cell e1
  have d2 := h00.cell e2
  clear e0 e1 e2
  have HS := Lib.hid hS
  have Hz0 := Lib.hid hz0
  have H00 := Lib.hid h00
  have Hs := Lib.hid hs
  clear hS hz0 h00 hs
  go_enter Tryz.func9, Tryz.ntmps9
  go_wp2_with fail
  have hsz : (w.alloc (.cells #[.slice none 0 0, .slice none 0 0, .slice none 0 0] 32)).heap.size = w.heap.size + 1 := by simp
  generalize w.alloc (.cells #[.slice none 0 0, .slice none 0 0, .slice none 0 0] 32) = w0 at *
  refine (saved_copied P V M c1 c2 c3 s w0 Hs.out (HS.out.below H00.out (Nat.le_refl _))).mono ?_
  rintro e wa ⟨P2, V2, M2, mc, rfl, hR, hba⟩
  have l1 : Later w0 wa := hba
  obtain ⟨z0, z1, z2, y0, y1, y2⟩ := three_cells (l1.blk Hz0.out)
  have hR1 := hR.base_ (show w.heap.size + 1 ≤ w0.heap.size by omega)
  have hl3 := H00.out.trans l1
  have HR := Lib.hid (show CopdP s w (.returned (.agg #[.slice P2 s.p.length s.p.length, .slice V2 s.v.length s.v.length, .slice M2 s.m.length mc])) (((wa.setCell ⟨w.heap.size, 0, none⟩ (.slice P2 s.p.length s.p.length)).setCell ⟨w.heap.size, 1, none⟩ (.slice V2 s.v.length s.v.length)).setCell ⟨w.heap.size, 2, none⟩ (.slice M2 s.m.length mc)) from ⟨_, _, _, _, rfl, (((hR1.far (p := ⟨w.heap.size, 0, none⟩) (by simp) _).far (p := ⟨w.heap.size, 1, none⟩) (by simp) _).far (p := ⟨w.heap.size, 2, none⟩) (by simp) _).base_ (by omega), ((hl3.set (p := ⟨w.heap.size, 0, none⟩) (Nat.le_refl _) _).set (p := ⟨w.heap.size, 1, none⟩) (Nat.le_refl _) _).set (p := ⟨w.heap.size, 2, none⟩) (Nat.le_refl _) _⟩)
  clear hR hR1 hl3 l1 hba d0 d1 d2
  go_wp2_with fail
  refine bodyPost_ret (v := .agg #[.slice P2 s.p.length s.p.length, .slice V2 s.v.length s.v.length, .slice M2 s.m.length mc]) (by simp [results, Tryz.results9, go_sem, z0, z1, z2]) rfl ?_
  exact HR.out
end Go.Proofs.YtkmhagjdafeebaaGreat
/- A node's cells. No program is named here. -/
namespace Go.Proofs.YtkmhagjdafeebaaGreat
open Go.RowKit
theorem node_cells10 {W : World} {g : Nat} {t : TypeId} {v : NodeD} {S J Q : Option Addr} {c ic qc : Nat} (h : Blk W g t #[.int .i64 v.op.kind, .int .i64 v.op.k, .int .i64 v.op.width, .int .i64 v.op.step, .int .i64 v.op.side, .int .i64 v.op.frm, .int .i64 v.op.to, .slice S v.op.s.length c, .slice J v.ins.length ic, .slice Q v.p.length qc]) :
    W.cell? ⟨g, 0, none⟩ = some (.int .i64 v.op.kind) ∧ W.cell? ⟨g, 1, none⟩ = some (.int .i64 v.op.k) ∧ W.cell? ⟨g, 2, none⟩ = some (.int .i64 v.op.width) ∧ W.cell? ⟨g, 3, none⟩ = some (.int .i64 v.op.step) ∧ W.cell? ⟨g, 4, none⟩ = some (.int .i64 v.op.side) ∧ W.cell? ⟨g, 5, none⟩ = some (.int .i64 v.op.frm) ∧ W.cell? ⟨g, 6, none⟩ = some (.int .i64 v.op.to) ∧ W.cell? ⟨g, 7, none⟩ = some (.slice S v.op.s.length c) ∧ W.cell? ⟨g, 8, none⟩ = some (.slice J v.ins.length ic) ∧ W.cell? ⟨g, 9, none⟩ = some (.slice Q v.p.length qc) :=
  ⟨h.cell 0, h.cell 1, h.cell 2, h.cell 3, h.cell 4, h.cell 5, h.cell 6, h.cell 7, h.cell 8, h.cell 9⟩
end Go.Proofs.YtkmhagjdafeebaaGreat
/- Layer 3 (shape): windows, parts and joins; layers 7 and 8: the answer's shape: contracts. -/
namespace Go.Proofs.YtkmhagjdafeebaaGreat
open Go.RowKit

/-- A shape of new memory (or none), and an error's number. -/
def ShPost (r : List Int × Int) (w : World) (e : Ending) (w' : World) : Prop :=
  ∃ S c, e = .returned (.tuple #[.slice S r.1.length c, .int .i64 r.2]) ∧ Ints .i64 w' S r.1 ∧ r.1.length ≤ c ∧ c ≤ 9223372036854775807 ∧ (∀ a, S = some a → w.heap.size ≤ a.block) ∧ Below w.heap.size w w'
theorem ShPost.fail {r : List Int × Int} {w w' : World} {n : Int} (hr : r = ([], n)) (hb : Below w.heap.size w w') : ShPost r w (.returned (.tuple #[.slice none 0 0, .int .i64 n])) w' := by
  subst hr
  exact ⟨_, _, rfl, Ints.nil, by simp, by omega, (fun a h => by cases h), hb⟩
theorem ShPost.fresh {r : List Int × Int} {w w' : World} {g c n : Nat} {l : List Int} {t : TypeId} (hr : r = (l, 0)) (hn : n = l.length) (hg : w.heap.size ≤ g) (hk : Blk w' g t (l.map (Value.int .i64)).toArray) (hc : l.length ≤ c) (hm : c ≤ 9223372036854775807) (hb : Below w.heap.size w w') :
    ShPost r w (.returned (.tuple #[.slice (some ⟨g, 0, none⟩) n c, .int .i64 0])) w' := by
  subst hr hn
  refine ⟨_, _, rfl, Ints.of_row fun j hj => ?_, hc, hm, (fun a h => by injection h with h; subst h; exact hg), hb⟩
  rw [hk.cell]
  simp [hj]
theorem ShPost.mk' {r : List Int × Int} {w w' : World} {S : Option Addr} {c n : Nat} {l : List Int} (hr : r = (l, 0)) (hn : n = l.length) (hI : Ints .i64 w' S l) (hc : l.length ≤ c) (hm : c ≤ 9223372036854775807) (hS : ∀ a, S = some a → w.heap.size ≤ a.block) (hb : Below w.heap.size w w') :
    ShPost r w (.returned (.tuple #[.slice S n c, .int .i64 0])) w' := by
  subst hr hn
  exact ⟨_, _, rfl, hI, hc, hm, hS, hb⟩
theorem Blk.ints_set {w : World} {g i : Nat} {t : TypeId} {l : List Int} {n : Int} (h : Blk w g t (l.map (Value.int .i64)).toArray) : Blk (w.setCell ⟨g, i, none⟩ (.int .i64 n)) g t ((l.set i n).map (Value.int .i64)).toArray := by
  have := h.set_ i (.int .i64 n)
  simpa using this

theorem types_of {P : Program} {t : TypeId} {i : TypeInfo} (hi : P.info? t = some i) (h : t < P.types.size) : P.types[t] = i := by
  unfold Tables.info? at hi
  rw [Array.getElem?_eq_getElem h, if_pos h] at hi
  exact Option.some.inj hi
theorem int_cells (h : 3 < Tryz.prog.types.size) : (Tryz.prog.types[3]'h).size = 1 := by
  obtain ⟨i0, hi, h0, h1, h2⟩ := info_parts int_info
  rw [types_of hi h]
  exact h1
theorem run_index3_0 (w : World) (a b c : Int) : (Instr.index 189 (.agg #[.int .i64 a, .int .i64 b, .int .i64 c]) (.int .i64 0)).run Tryz.prog w = .ok (.int .i64 a) w := by
  simp [Instr.index, run_underlying Tryz.underlying189, asIntOf, go_sem]
theorem run_index3_1 (w : World) (a b c : Int) : (Instr.index 189 (.agg #[.int .i64 a, .int .i64 b, .int .i64 c]) (.int .i64 1)).run Tryz.prog w = .ok (.int .i64 b) w := by
  simp [Instr.index, run_underlying Tryz.underlying189, asIntOf, go_sem]
theorem run_index3_2 (w : World) (a b c : Int) : (Instr.index 189 (.agg #[.int .i64 a, .int .i64 b, .int .i64 c]) (.int .i64 2)).run Tryz.prog w = .ok (.int .i64 c) w := by
  simp [Instr.index, run_underlying Tryz.underlying189, asIntOf, go_sem]
set_option maxHeartbeats 2000000 in
set_option maxRecDepth 100000 in
theorem shape_window (side width step : Int) (w : World) :
    Calls Tryz.prog 105 #[.int .i64 side, .int .i64 width, .int .i64 step] w fun e w' => e = .returned (.tuple #[.int .i64 (Od.window side width step).1, .int .i64 (Od.window side width step).2]) ∧ w = w' := by
  have bad : ¬ (Sh.side side = true ∧ Sh.side width = true ∧ Sh.side step = true ∧ width ≤ side) → Hid (Od.window side width step = (0, 11)) := fun h => Lib.hid (by unfold Od.window; rw [if_neg h])
  have r0 := fun W => run_index3_0 W side width step
  have r1 := fun W => run_index3_1 W side width step
  have r2 := fun W => run_index3_2 W side width step
  go_enter Tryz.func105, Tryz.ntmps105
  go_wp2_with fail
  go_loopw [14] (fun i wr => wr = w ∧ ∃ k : Nat, k ≤ 3 ∧ i = .int .i64 k ∧ (0 < k → Sh.side side = true) ∧ (1 < k → Sh.side width = true) ∧ (2 < k → Sh.side step = true)) (fun i _ => 3 - (intOf i).toNat)
  case atStart => exact ⟨rfl, 0, by omega, rfl, by omega, by omega, by omega⟩
  case round =>
    obtain ⟨rfl, k, hk, rfl, h1, h2, h3⟩ := hrel
    have hkk : k = 0 ∨ k = 1 ∨ k = 2 ∨ k = 3 := by omega
    rcases hkk with rfl | rfl | rfl | rfl
    · by_cases a1 : side < 1
      · have HB := bad (by rw [Sh.side_iff]; omega)
        clear bad h1 h2 h3
        go_wp2_with fail
        go_ret2
        exact ⟨by rw [HB.out]; rfl, rfl⟩
      · by_cases a2 : 1024 < side
        · have HB := bad (by rw [Sh.side_iff]; omega)
          clear bad h1 h2 h3
          go_wp2_with fail
          go_ret2
          exact ⟨by rw [HB.out]; rfl, rfl⟩
        · clear bad h1 h2 h3
          go_wp2_with fail
          go_roundw
          case rel => exact ⟨trivial, 1, by omega, by go_num, fun _ => (Sh.side_iff _).2 (by omega), by omega, by omega⟩
          case measure => simp [intOf]
    · by_cases a1 : width < 1
      · have HB := bad (by rw [Sh.side_iff, Sh.side_iff]; omega)
        clear bad h1 h2 h3
        go_wp2_with fail
        go_ret2
        exact ⟨by rw [HB.out]; rfl, rfl⟩
      · by_cases a2 : 1024 < width
        · have HB := bad (by rw [Sh.side_iff, Sh.side_iff]; omega)
          clear bad h1 h2 h3
          go_wp2_with fail
          go_ret2
          exact ⟨by rw [HB.out]; rfl, rfl⟩
        · have H1 := Lib.hid (h1 (by omega))
          clear bad h1 h2 h3
          go_wp2_with fail
          go_roundw
          case rel => exact ⟨trivial, 2, by omega, by go_num, fun _ => H1.out, fun _ => (Sh.side_iff _).2 (by omega), by omega⟩
          case measure => simp [intOf]
    · by_cases a1 : step < 1
      · have HB := bad (by rw [Sh.side_iff, Sh.side_iff, Sh.side_iff]; omega)
        clear bad h1 h2 h3
        go_wp2_with fail
        go_ret2
        exact ⟨by rw [HB.out]; rfl, rfl⟩
      · by_cases a2 : 1024 < step
        · have HB := bad (by rw [Sh.side_iff, Sh.side_iff, Sh.side_iff]; omega)
          clear bad h1 h2 h3
          go_wp2_with fail
          go_ret2
          exact ⟨by rw [HB.out]; rfl, rfl⟩
        · have H1 := Lib.hid (h1 (by omega))
          have H2 := Lib.hid (h2 (by omega))
          clear bad h1 h2 h3
          go_wp2_with fail
          go_roundw
          case rel => exact ⟨trivial, 3, by omega, by go_num, fun _ => H1.out, fun _ => H2.out, fun _ => (Sh.side_iff _).2 (by omega)⟩
          case measure => simp [intOf]
    · have h1 := h1 (by omega)
      have h2 := h2 (by omega)
      have h3 := h3 (by omega)
      by_cases hw : side < width
      · have HB := bad (by omega)
        clear bad h1 h2 h3
        go_wp2_with fail
        go_ret2
        exact ⟨by rw [HB.out]; rfl, rfl⟩
      · have HG := Lib.hid (show Od.window side width step = (1 + (side - width).tdiv step, 0) by unfold Od.window; rw [if_pos ⟨h1, h2, h3, by omega⟩])
        rw [Sh.side_iff] at h1 h2 h3
        have q1 : 0 ≤ (side - width).tdiv step := Int.tdiv_nonneg (by omega) (by omega)
        have q2 : (side - width).tdiv step ≤ side - width := Int.tdiv_le_self _ (by omega)
        clear bad
        go_wp2_with fail
        go_ret2
        exact ⟨by rw [HG.out]; rfl, rfl⟩
end Go.Proofs.YtkmhagjdafeebaaGreat
/- Layer 3 (shape): parts and joins; layer 8: the answer's shape: contracts. -/
namespace Go.Proofs.YtkmhagjdafeebaaGreat
open Go.RowKit

theorem getD_at {l : List Int} {k : Nat} (h : k < l.length) : l.getD k 0 = l[k] := by rw [List.getD_eq_getElem?_getD, List.getElem?_eq_getElem h]; rfl
theorem Ints.cell_at {w : World} {k : IntKind} {b off j : Nat} {zs : List Int} (h : Ints k w (some ⟨b, off, none⟩) zs) (hj : j < zs.length) : w.cell? ⟨b, off + j, none⟩ = some (.int k zs[j]) := by
  obtain ⟨b1, o1, e, _, hc⟩ := h j hj
  injection e with e
  injection e with e1 e2
  subst e1 e2
  rw [getD_at hj] at hc
  exact hc
set_option maxHeartbeats 2000000 in
theorem shape_cut (A : Option Addr) (c : Nat) (zs : List Int) (side frm tz : Int) (w : World) (hl : zs.length ≤ 17592186043904) (hI : Ints .i64 w A zs) :
    Calls Tryz.prog 99 #[.slice A zs.length c, .int .i64 side, .int .i64 frm, .int .i64 tz] w (ShPost (Od.cut zs side frm tz) w) := by
  have hcall := shape_right A c zs w (by omega) hI
  cases hr : Sh.right zs
  · have HE := Lib.hid (show Od.cut zs side frm tz = ([], 20) by simp [Od.cut, hr])
    rw [hr] at hcall
    have Hr := Lib.hid hr
    have HI := Lib.hid hI
    have Hcall := Lib.hid hcall
    clear hr hI hcall
    go_enter Tryz.func99, Tryz.ntmps99
    go_wp2_with fail
    refine (Hcall.out).mono ?_
    rintro e w1 ⟨rfl, h1⟩
    go_wp2_with fail
    go_ret2
    exact ShPost.fail HE.out h1
  · have fail : ¬ (0 ≤ side ∧ side < zs.length ∧ 0 ≤ frm ∧ tz ≤ Od.at_ zs side ∧ frm < tz) → Od.cut zs side frm tz = ([], 11) := fun h => by
      unfold Od.cut
      rw [if_pos hr, if_neg]
      simp [Od.inR]
      omega
    have good : (0 ≤ side ∧ side < zs.length ∧ 0 ≤ frm ∧ tz ≤ Od.at_ zs side ∧ frm < tz) → Od.cut zs side frm tz = (zs.set side.toNat (tz - frm), 0) := fun h => by
      unfold Od.cut
      rw [if_pos hr, if_pos]
      simp [Od.inR]
      omega
    obtain ⟨_, a1, a2, a3, -⟩ := Sh.right_mul hr
    rw [hr] at hcall
    have Hr := Lib.hid hr
    have HI := Lib.hid hI
    have Hcall := Lib.hid hcall
    have Ha3 := Lib.hid a3
    clear hr hI hcall a3
    by_cases c1 : side < 0
    · have HE := Lib.hid (fail (by omega))
      clear fail good
      go_enter Tryz.func99, Tryz.ntmps99
      go_wp2_with fail
      refine (Hcall.out).mono ?_
      rintro e w1 ⟨rfl, h1⟩
      go_wp2_with fail
      go_ret2
      exact ShPost.fail HE.out h1
    obtain ⟨k, rfl⟩ : ∃ k : Nat, side = k := ⟨side.toNat, by omega⟩
    by_cases c2 : zs.length ≤ k
    · have HE := Lib.hid (fail (by omega))
      clear fail good
      go_enter Tryz.func99, Tryz.ntmps99
      go_wp2_with fail
      refine (Hcall.out).mono ?_
      rintro e w1 ⟨rfl, h1⟩
      go_wp2_with fail
      go_ret2
      exact ShPost.fail HE.out h1
    have hk : k < zs.length := by omega
    have hat : Od.at_ zs k = zs[k] := by unfold Od.at_; rw [show ((k : Int)).toNat = k by omega, getD_at hk]
    rw [hat] at fail good
    have hz := Ha3.out _ (List.getElem_mem hk)
    clear hat
    by_cases c3 : frm < 0
    · have HE := Lib.hid (fail (by omega))
      clear fail good
      go_enter Tryz.func99, Tryz.ntmps99
      go_wp2_with fail
      refine (Hcall.out).mono ?_
      rintro e w1 ⟨rfl, h1⟩
      go_wp2_with fail
      go_ret2
      exact ShPost.fail HE.out h1
    obtain ⟨b, off, rfl, hb, -⟩ := HI.out k hk
    by_cases c4 : zs[k] < tz
    · have HE := Lib.hid (fail (by omega))
      clear fail good
      go_enter Tryz.func99, Tryz.ntmps99
      go_wp2_with fail
      refine (Hcall.out).mono ?_
      rintro e w1 ⟨rfl, h1⟩
      obtain ⟨b', off', e, _, hc⟩ := HI.out.below h1 (Nat.le_refl _) k hk
      injection e with e; injection e with e1 e2; subst e1 e2
      rw [getD_at hk] at hc
      go_wp2_with fail
      go_ret2
      exact ShPost.fail HE.out h1
    by_cases c5 : tz ≤ frm
    · have HE := Lib.hid (fail (by omega))
      clear fail good
      go_enter Tryz.func99, Tryz.ntmps99
      go_wp2_with fail
      refine (Hcall.out).mono ?_
      rintro e w1 ⟨rfl, h1⟩
      obtain ⟨b', off', e, _, hc⟩ := HI.out.below h1 (Nat.le_refl _) k hk
      injection e with e; injection e with e1 e2; subst e1 e2
      rw [getD_at hk] at hc
      go_wp2_with fail
      go_ret2
      exact ShPost.fail HE.out h1
    have HE := Lib.hid (good (by omega))
    clear fail good
    go_enter Tryz.func99, Tryz.ntmps99
    go_wp2_with fail
    refine (Hcall.out).mono ?_
    rintro e w1 ⟨rfl, h1⟩
    obtain ⟨b', off', e, _, hc⟩ := HI.out.below h1 (Nat.le_refl _) k hk
    injection e with e; injection e with e1 e2; subst e1 e2
    rw [getD_at hk] at hc
    go_wp2_with fail
    refine (shape_copy _ c zs _ hl (HI.out.below h1 (Nat.le_refl _))).mono ?_
    rintro e w2 ⟨g, rfl, hg, hB, h2⟩
    have hbb := h1.trans (h2.mono h1.size)
    have hB' : Blk w2 g 3 (zs.map (Value.int .i64)).toArray := hB
    have hcg := hB'.cell k
    have hfg := hB'.frozen k
    simp [hk] at hcg
    have HB := Lib.hid hB'
    have hgs := h1.size
    clear hB hB' hc
    go_wp2_with fail
    go_ret2
    refine ShPost.fresh HE.out (by simp) (by omega) HB.out.ints_set (by simp) (by omega) ?_
    exact hbb.setCell (by simp; omega) _

set_option maxHeartbeats 2000000 in
theorem pool_shape (A : Option Addr) (c : Nat) (zs : List Int) (width step : Int) (w : World) (hl : zs.length ≤ 17592186043904) (hI : Ints .i64 w A zs) :
    Calls Tryz.prog 97 #[.slice A zs.length c, .int .i64 width, .int .i64 step] w (ShPost (Od.pool zs width step) w) := by
  have hcall := shape_right A c zs w (by omega) hI
  cases hr : Sh.right zs
  · have HE := Lib.hid (show Od.pool zs width step = ([], 20) by simp [Od.pool, hr])
    rw [hr] at hcall
    have Hr := Lib.hid hr
    have HI := Lib.hid hI
    have Hcall := Lib.hid hcall
    clear hr hI hcall
    go_enter Tryz.func97, Tryz.ntmps97
    go_wp2_with fail
    refine (Hcall.out).mono ?_
    rintro e w1 ⟨rfl, h1⟩
    go_wp2_with fail
    go_ret2
    exact ShPost.fail HE.out h1
  · obtain ⟨_, a1, a2, a3, -⟩ := Sh.right_mul hr
    obtain ⟨k, hk⟩ : ∃ k : Nat, zs.length = k + 1 := ⟨zs.length - 1, by omega⟩
    have hk1 : k < zs.length := by omega
    have hgd : zs.getD (zs.length - 1) 0 = zs[k] := by rw [show zs.length - 1 = k by omega, getD_at hk1]
    have hp : Od.pool zs width step = if (Od.window zs[k] width step).2 = 0 then (zs.set k (Od.window zs[k] width step).1, 0) else ([], 11) := by
      unfold Od.pool
      rw [if_pos hr, hgd, show zs.length - 1 = k by omega]
    rw [hr] at hcall
    obtain ⟨b, off, rfl, hb, -⟩ := hI k hk1
    have e1 : IntKind.i64.wrap ((zs.length : Int) - 1) = k := by have := IntWalk.i64_in ((zs.length : Int) - 1) (by omega); omega
    have Hr := Lib.hid hr
    have HI := Lib.hid hI
    have Hcall := Lib.hid hcall
    have Ha3 := Lib.hid a3
    have Hgd := Lib.hid hgd
    clear hr hI hcall a3 hgd
    clear hk
    by_cases hw : (Od.window zs[k] width step).2 = 0
    · have HE := Lib.hid (show Od.pool zs width step = (zs.set k (Od.window zs[k] width step).1, 0) by rw [hp, if_pos hw])
      have HW := Lib.hid hw
      clear hp hw
      go_enter Tryz.func97, Tryz.ntmps97
      go_wp2_with fail
      refine (Hcall.out).mono ?_
      rintro e w1 ⟨rfl, h1⟩
      obtain ⟨b', off', e, _, hc⟩ := HI.out.below h1 (Nat.le_refl _) k hk1
      injection e with e; injection e with e2 e3; subst e2 e3
      rw [getD_at hk1] at hc
      go_wp2_with fail
      refine (shape_window zs[k] width step _).mono ?_
      rintro e w2 ⟨rfl, rfl⟩
      rw [HW.out]
      go_wp2_with fail
      refine (shape_copy _ c zs _ hl (HI.out.below h1 (Nat.le_refl _))).mono ?_
      rintro e w2 ⟨g, rfl, hg, hB, h2⟩
      have hbb := h1.trans (h2.mono h1.size)
      have hB' : Blk w2 g 3 (zs.map (Value.int .i64)).toArray := hB
      have hcg := hB'.cell k
      have hfg := hB'.frozen k
      simp [hk1] at hcg
      have HB := Lib.hid hB'
      have hgs := h1.size
      clear hB hB' hc
      go_wp2_with fail
      go_ret2
      refine ShPost.fresh HE.out (by simp) (by omega) HB.out.ints_set (by simp) (by omega) ?_
      exact hbb.setCell (by simp; omega) _
    · have HE := Lib.hid (show Od.pool zs width step = ([], 11) by rw [hp, if_neg hw])
      have HW := Lib.hid (Od.window_err hw)
      clear hp hw
      go_enter Tryz.func97, Tryz.ntmps97
      go_wp2_with fail
      refine (Hcall.out).mono ?_
      rintro e w1 ⟨rfl, h1⟩
      obtain ⟨b', off', e, _, hc⟩ := HI.out.below h1 (Nat.le_refl _) k hk1
      injection e with e; injection e with e2 e3; subst e2 e3
      rw [getD_at hk1] at hc
      go_wp2_with fail
      refine (shape_window zs[k] width step _).mono ?_
      rintro e w2 ⟨rfl, rfl⟩
      rw [HW.out]
      go_wp2_with fail
      go_ret2
      exact ShPost.fail HE.out h1
end Go.Proofs.YtkmhagjdafeebaaGreat
/- Layer 3 (shape): joins: contract. -/
namespace Go.Proofs.YtkmhagjdafeebaaGreat
open Go.RowKit

namespace Od
/-- The shape behind the first k sides. -/
def jMid (s t : List Int) (side : Nat) (k : Nat) : List Int := if side < k then joinL s t side else s
theorem jMid_len (s t : List Int) (side k : Nat) : (jMid s t side k).length = s.length := by unfold jMid joinL; split <;> simp
theorem join_bad {s t : List Int} {side : Int} {k : Nat} (h1 : Sh.right s = true) (h2 : Sh.right t = true) (h3 : s.length = t.length) (h4 : 0 ≤ side ∧ side < s.length) (hk : k < s.length) (hk2 : k < t.length) (hs : (k : Int) ≠ side) (hne : s[k] ≠ t[k]) : join s t side = ([], 20) := by
  unfold join
  rw [if_pos (by simp [h1, h2, h3]), if_pos (by simp [inR, h4]), if_neg]
  rw [Bool.and_eq_true, not_and]
  intro h
  exfalso
  unfold joinOk at h
  rw [List.all_eq_true] at h
  have := h k (List.mem_range.2 hk)
  rw [getD_at hk, getD_at hk2] at this
  simp [hs, hne] at this
theorem joinOk_of {s t : List Int} {side : Nat} (h : ∀ j (h1 : j < s.length) (h2 : j < t.length), j ≠ side → s[j] = t[j]) (hl : s.length = t.length) : joinOk s t side = true := by
  unfold joinOk
  rw [List.all_eq_true]
  intro j hj
  have hj := List.mem_range.1 hj
  by_cases e : j = side
  · simp [e]
  · rw [getD_at hj, getD_at (by omega : j < t.length)]
    simp [h j hj (by omega) e]
end Od
set_option maxHeartbeats 4000000 in
theorem shape_join (A B : Option Addr) (c d : Nat) (s t : List Int) (side : Int) (w : World) (hl : s.length ≤ 17592186043904) (hl' : t.length ≤ 17592186043904) (hI : Ints .i64 w A s) (hJ : Ints .i64 w B t) :
    Calls Tryz.prog 106 #[.slice A s.length c, .slice B t.length d, .int .i64 side] w (ShPost (Od.join s t side) w) := by
  have hcall := shape_right A c s w (by omega) hI
  have hcall2 := fun w1 (h1 : Below w.heap.size w w1) => shape_right B d t w1 (by omega) (hJ.below h1 (Nat.le_refl _))
  cases hr : Sh.right s
  · have HE := Lib.hid (show Od.join s t side = ([], 20) by simp [Od.join, hr])
    rw [hr] at hcall
    have Hr := Lib.hid hr
    have HI := Lib.hid hI
    have HJ := Lib.hid hJ
    have Hcall := Lib.hid hcall
    have Hcall2 := Lib.hid hcall2
    clear hr hI hJ hcall hcall2
    go_enter Tryz.func106, Tryz.ntmps106
    go_wp2_with fail
    refine (Hcall.out).mono ?_
    rintro e w1 ⟨rfl, h1⟩
    go_wp2_with fail
    go_ret2
    exact ShPost.fail HE.out h1
  rw [hr] at hcall
  cases hq : Sh.right t
  · have HE := Lib.hid (show Od.join s t side = ([], 20) by simp [Od.join, hq])
    rw [hq] at hcall2
    have Hr := Lib.hid hr
    have Hq := Lib.hid hq
    have HI := Lib.hid hI
    have HJ := Lib.hid hJ
    have Hcall := Lib.hid hcall
    have Hcall2 := Lib.hid hcall2
    clear hr hq hI hJ hcall hcall2
    go_enter Tryz.func106, Tryz.ntmps106
    go_wp2_with fail
    refine (Hcall.out).mono ?_
    rintro e w1 ⟨rfl, h1⟩
    go_wp2_with fail
    refine (Hcall2.out _ h1).mono ?_
    rintro e w2 ⟨rfl, h2⟩
    go_wp2_with fail
    go_ret2
    exact ShPost.fail HE.out (h1.trans (h2.mono h1.size))
  rw [hq] at hcall2
  obtain ⟨_, a1, a2, a3, -⟩ := Sh.right_mul hr
  obtain ⟨_, b1, b2, b3, -⟩ := Sh.right_mul hq
  by_cases hlen : s.length = t.length
  case neg =>
    have HE := Lib.hid (show Od.join s t side = ([], 20) by simp [Od.join, hlen])
    have hn : ((s.length : Int) != t.length) = true := by simp; omega
    have Hr := Lib.hid hr
    have Hq := Lib.hid hq
    have HI := Lib.hid hI
    have HJ := Lib.hid hJ
    have Hcall := Lib.hid hcall
    have Hcall2 := Lib.hid hcall2
    have Ha3 := Lib.hid a3
    have Hb3 := Lib.hid b3
    clear hr hq hI hJ hcall hcall2 a3 b3
    clear hlen
    go_enter Tryz.func106, Tryz.ntmps106
    go_wp2_with fail
    refine (Hcall.out).mono ?_
    rintro e w1 ⟨rfl, h1⟩
    go_wp2_with fail
    refine (Hcall2.out _ h1).mono ?_
    rintro e w2 ⟨rfl, h2⟩
    go_wp2_with fail
    go_ret2
    exact ShPost.fail HE.out (h1.trans (h2.mono h1.size))
  have hn : ((s.length : Int) != t.length) = false := by simp [hlen]
  by_cases c1 : side < 0
  · have HE := Lib.hid (show Od.join s t side = ([], 11) by unfold Od.join; rw [if_pos (by simp [hr, hq, hlen]), if_neg]; simp [Od.inR]; omega)
    have Hr := Lib.hid hr
    have Hq := Lib.hid hq
    have HI := Lib.hid hI
    have HJ := Lib.hid hJ
    have Hcall := Lib.hid hcall
    have Hcall2 := Lib.hid hcall2
    have Ha3 := Lib.hid a3
    have Hb3 := Lib.hid b3
    have Hlen := Lib.hid hlen
    clear hr hq hI hJ hcall hcall2 a3 b3 hlen
    go_enter Tryz.func106, Tryz.ntmps106
    go_wp2_with fail
    refine (Hcall.out).mono ?_
    rintro e w1 ⟨rfl, h1⟩
    go_wp2_with fail
    refine (Hcall2.out _ h1).mono ?_
    rintro e w2 ⟨rfl, h2⟩
    go_wp2_with fail
    go_ret2
    exact ShPost.fail HE.out (h1.trans (h2.mono h1.size))
  obtain ⟨sd, rfl⟩ : ∃ k : Nat, side = k := ⟨side.toNat, by omega⟩
  by_cases c2 : s.length ≤ sd
  · have HE := Lib.hid (show Od.join s t sd = ([], 11) by unfold Od.join; rw [if_pos (by simp [hr, hq, hlen]), if_neg]; simp [Od.inR]; omega)
    have Hr := Lib.hid hr
    have Hq := Lib.hid hq
    have HI := Lib.hid hI
    have HJ := Lib.hid hJ
    have Hcall := Lib.hid hcall
    have Hcall2 := Lib.hid hcall2
    have Ha3 := Lib.hid a3
    have Hb3 := Lib.hid b3
    have Hlen := Lib.hid hlen
    clear hr hq hI hJ hcall hcall2 a3 b3 hlen
    go_enter Tryz.func106, Tryz.ntmps106
    go_wp2_with fail
    refine (Hcall.out).mono ?_
    rintro e w1 ⟨rfl, h1⟩
    go_wp2_with fail
    refine (Hcall2.out _ h1).mono ?_
    rintro e w2 ⟨rfl, h2⟩
    go_wp2_with fail
    go_ret2
    exact ShPost.fail HE.out (h1.trans (h2.mono h1.size))
  have hbad := fun (k : Nat) (hk : k < s.length) (hk2 : k < t.length) (hs : (k : Int) ≠ sd) (hne : s[k] ≠ t[k]) => Od.join_bad hr hq hlen (by omega) hk hk2 hs hne
  have hgood : Od.joinOk s t sd = true → Od.join s t sd = if Sh.right (Od.joinL s t sd) = true then (Od.joinL s t sd, 0) else ([], 20) := fun h => by
    unfold Od.join
    rw [if_pos (by simp [hr, hq, hlen]), if_pos (by simp [Od.inR]; omega), h, Bool.true_and]
  have hLen := Lib.hid hlen
  have Hr := Lib.hid hr
  have Hq := Lib.hid hq
  have HI := Lib.hid hI
  have HJ := Lib.hid hJ
  have Hcall := Lib.hid hcall
  have Hcall2 := Lib.hid hcall2
  have Ha3 := Lib.hid a3
  have Hb3 := Lib.hid b3
  have Hbad := Lib.hid hbad
  have Hgood := Lib.hid hgood
  clear hr hq hI hJ hcall hcall2 a3 b3 hbad hgood
  clear hlen
  go_enter Tryz.func106, Tryz.ntmps106
  go_wp2_with fail
  refine (Hcall.out).mono ?_
  rintro e w1 ⟨rfl, h1⟩
  go_wp2_with fail
  refine (Hcall2.out _ h1).mono ?_
  rintro e w2 ⟨rfl, h2⟩
  have hb2 := h1.trans (h2.mono h1.size)
  go_wp2_with fail
  refine (shape_copy _ c s _ hl (HI.out.below hb2 (Nat.le_refl _))).mono ?_
  rintro e w3 ⟨g, rfl, hg, hB, h3⟩
  have hb3 := hb2.trans (h3.mono hb2.size)
  have hgw : w.heap.size ≤ g := Nat.le_trans hb2.size hg
  have HB := Lib.hid hB
  clear hB h1 h2 h3 hg
  go_wp2_with fail
  go_loopw [37] (fun i wr => ∃ k : Nat, k ≤ s.length ∧ i = .int .i64 k ∧ Blk wr g 3 ((Od.jMid s t sd k).map (Value.int .i64)).toArray ∧ Below w.heap.size w wr ∧ ∀ j (h1 : j < s.length) (h2 : j < t.length), j < k → j ≠ sd → s[j] = t[j]) (fun i _ => s.length - (intOf i).toNat)
  case atStart => exact ⟨0, Nat.zero_le _, rfl, by rw [show Od.jMid s t sd 0 = s by simp [Od.jMid]]; exact HB.out, hb3, fun j _ _ h => by omega⟩
  case round =>
    obtain ⟨k, hk, rfl, hblk, hbw, hall⟩ := hrel
    have HA := Lib.hid hall
    clear hall HB hb3 hb2
    by_cases hlt : k < s.length
    · have hlt' : k < t.length := by have := hLen.out; omega
      obtain ⟨b, off, rfl, hbl, hc⟩ := HI.out.below hbw (Nat.le_refl _) k hlt
      obtain ⟨b', off', rfl, hbl', hc'⟩ := HJ.out.below hbw (Nat.le_refl _) k hlt'
      rw [getD_at hlt] at hc
      rw [getD_at hlt'] at hc'
      have hx := Ha3.out _ (List.getElem_mem hlt)
      have hy := Hb3.out _ (List.getElem_mem hlt')
      have k0 : (0 : Int) ≤ k := by omega
      have k1 : (k : Int) < s.length := by omega
      have k2 : (k : Int) < t.length := by omega
      by_cases hs : k = sd
      · subst hs
        have hm : Od.jMid s t k k = s := by simp [Od.jMid]
        rw [hm] at hblk
        have hcg := hblk.cell k
        have hfg := hblk.frozen k
        simp [hlt] at hcg
        have hm2 : Od.jMid s t k (k + 1) = s.set k (s[k] + t[k]) := by
          simp [Od.jMid, Od.joinL, Od.at_, hlt, hlt']
        have HM := Lib.hid hm2
        have HB := Lib.hid hblk
        have hwr : IntKind.i64.wrap (s[k] + t[k]) = s[k] + t[k] := IntWalk.i64_in _ (by omega)
        clear hblk hm hm2
        go_wp2_with fail
        go_region_with (fail)
        all_goals
          go_wp2_with fail
          go_roundw
          case rel => exact ⟨k + 1, by omega, by go_num, by rw [HM.out]; exact HB.out.ints_set, (hbw.setCell (by simpa using hgw) _).drew, fun j h1 h2 h3 h4 => HA.out j h1 h2 (by omega) h4⟩
          case measure => simp [intOf]; omega
      · have hne : ((k : Int) == (sd : Int)) = false := by simp; omega
        by_cases hxy : s[k] = t[k]
        · have hb : (s[k] != t[k]) = false := by simp [hxy]
          have HX := Lib.hid hxy
          have HM := Lib.hid (show Od.jMid s t sd (k + 1) = Od.jMid s t sd k by unfold Od.jMid; simp only [show (sd < k + 1) = (sd < k) by simp; omega])
          have HB := Lib.hid hblk
          clear hxy hblk
          go_wp2_with fail
          go_quiet (fail)
          go_wp2_with fail
          go_roundw
          case rel => exact ⟨k + 1, by omega, by go_num, by rw [HM.out]; exact HB.out, Bdrawn hbw _, fun j h1 h2 h3 h4 => by
            by_cases e : j = k
            · subst e; exact HX.out
            · exact HA.out j h1 h2 (by omega) h4⟩
          case measure => simp [intOf]; omega
        · have hb : (s[k] != t[k]) = true := by simp [hxy]
          have HE := Lib.hid (Hbad.out k hlt hlt' (by omega) hxy)
          clear hxy hblk
          go_wp2_with fail
          go_quiet (fail)
          go_wp2_with fail
          go_ret2
          exact ShPost.fail HE.out (Bdrawn hbw _)
    · obtain rfl : k = s.length := by omega
      have hj : Od.joinOk s t sd = true := Od.joinOk_of (fun j h1 h2 h3 => HA.out j h1 h2 h1 h3) hLen.out
      have hm : Od.jMid s t sd s.length = Od.joinL s t sd := by unfold Od.jMid; rw [if_pos (by omega)]
      have hlj : (Od.joinL s t sd).length = s.length := by simp [Od.joinL]
      rw [hm] at hblk
      have hI2 : Ints .i64 wr (some ⟨g, 0, none⟩) (Od.joinL s t sd) := Ints.of_row fun j hj => by rw [hblk.cell]; simp [hj]
      have hcall3 := shape_right (some ⟨g, 0, none⟩) s.length (Od.joinL s t sd) wr (by omega) hI2
      rw [hlj] at hcall3
      have hg2 := Hgood.out hj
      cases h5 : Sh.right (Od.joinL s t sd)
      · have HE := Lib.hid (show Od.join s t sd = ([], 20) by rw [hg2, if_neg (by simp [h5])])
        rw [h5] at hcall3
        have Hcall3 := Lib.hid hcall3
        have HI2 := Lib.hid hI2
        have Hblk := Lib.hid hblk
        have Hlj := Lib.hid hlj
        have Hm := Lib.hid hm
        have Hg2 := Lib.hid hg2
        have Hj := Lib.hid hj
        have H5 := Lib.hid h5
        clear hcall3 hI2 hblk hlj hm hg2 hj h5
        go_wp2_with fail
        refine (Hcall3.out).mono ?_
        rintro e w4 ⟨rfl, h4⟩
        go_wp2_with fail
        go_ret2
        exact ShPost.fail HE.out (hbw.trans (h4.mono hbw.size))
      · have HE := Lib.hid (show Od.join s t sd = (Od.joinL s t sd, 0) by rw [hg2, if_pos h5])
        rw [h5] at hcall3
        have Hcall3 := Lib.hid hcall3
        have HI2 := Lib.hid hI2
        have Hblk := Lib.hid hblk
        have Hlj := Lib.hid hlj
        have Hm := Lib.hid hm
        have Hg2 := Lib.hid hg2
        have Hj := Lib.hid hj
        have H5 := Lib.hid h5
        clear hcall3 hI2 hblk hlj hm hg2 hj h5
        go_wp2_with fail
        refine (Hcall3.out).mono ?_
        rintro e w4 ⟨rfl, h4⟩
        go_wp2_with fail
        go_ret2
        exact ShPost.fresh HE.out Hlj.out.symm hgw (Hblk.out.below h4 Hblk.out.lt) (by rw [Hlj.out]; exact Nat.le_refl _) (by omega) (hbw.trans (h4.mono hbw.size))
end Go.Proofs.YtkmhagjdafeebaaGreat
/- Layer 7 (conv): the answer's shape: contract. -/
namespace Go.Proofs.YtkmhagjdafeebaaGreat
open Go.RowKit

theorem shp_info : (Tryz.prog.info? 3).map (fun i => (i.zero, i.size, i.bytes)) = some (some (.int .i64 0), 1, 8) := int_info
theorem Od.outs_succ (w x : List Int) (step : Int) (k : Nat) : Od.outs w x step (k + 1) = Od.outs w x step k ++ [(Od.wn w x step k).1] := by simp [Od.outs, List.range_succ]
theorem Od.outs_len (w x : List Int) (step : Int) (k : Nat) : (Od.outs w x step k).length = k + 1 := by simp [Od.outs]
theorem one_row (w : World) (t : TypeId) (n : Int) : (w.alloc (.cells #[.int .i64 n] t)).ownsRow w.heap.size t 1 (.slice (some ⟨w.heap.size, 0, none⟩) 1 1) 1 [.int .i64 n] :=
  ⟨by simp, .inr ⟨w.heap.size, 1, #[.int .i64 n], rfl, Nat.le_refl _, heap_alloc_new w _, Nat.le_refl _, by unfold maxLen; omega, by simp, by simp⟩⟩
theorem own_base {w : World} {B B' e size n : Nat} {v : Value} {xs : List Value} (h : w.ownsRow B e size v n xs) (hB : B' ≤ B) : w.ownsRow B' e size v n xs := by
  refine ⟨h.1, ?_⟩
  rcases h.2 with h1 | ⟨g, cap, cur, h1, h2, h3⟩
  · exact .inl h1
  · exact .inr ⟨g, cap, cur, h1, Nat.le_trans hB h2, h3⟩
theorem own_slice {w : World} {B e n : Nat} {v : Value} {zs : List Int} (h : w.ownsRow B e 1 v n (zs.map (Value.int .i64))) (hn : n = zs.length) (h0 : 0 < n) :
    ∃ g c, v = .slice (some ⟨g, 0, none⟩) n c ∧ B ≤ g ∧ g < w.heap.size ∧ Ints .i64 w (some ⟨g, 0, none⟩) zs ∧ (zs.length ≤ c ∧ c ≤ 9223372036854775807) := by
  subst hn
  rcases h.2 with ⟨rfl, h1⟩ | ⟨g, cap, cur, rfl, hb, hh, r1, r2, r3, r4⟩
  · omega
  · refine ⟨g, cap, rfl, hb, lt_of_block hh, Ints.of_row fun j hj => ?_, r1, by unfold maxLen at r2; omega⟩
    rw [Nat.zero_add, h.cellAt j (by simpa using hj)]
    simp [hj]
set_option maxHeartbeats 4000000 in
theorem conv_shape (A B : Option Addr) (c d : Nat) (ws xs : List Int) (step : Int) (w : World) (hl : ws.length ≤ 17592186043904) (hl' : xs.length ≤ 17592186043904) (hd : xs.length ≤ d) (hd' : d ≤ 9223372036854775807) (hI : Ints .i64 w A ws) (hJ : Ints .i64 w B xs) :
    Calls Tryz.prog 96 #[.slice A ws.length c, .slice B xs.length d, .int .i64 step] w (ShPost (Od.conv ws xs step) w) := by
  obtain ⟨i0, hi, hz0, hz1, hz2⟩ := info_parts int_info
  have hcall := shape_right A c ws w (by omega) hI
  have hcall2 := fun w1 (h1 : Below w.heap.size w w1) => shape_right B d xs w1 (by omega) (hJ.below h1 (Nat.le_refl _))
  cases hr : Sh.right ws
  · have HE := Lib.hid (show Od.conv ws xs step = ([], 20) by simp [Od.conv, hr])
    rw [hr] at hcall
    have Hr := Lib.hid hr
    have HI := Lib.hid hI
    have HJ := Lib.hid hJ
    have Hcall := Lib.hid hcall
    have Hcall2 := Lib.hid hcall2
    clear hr hI hJ hcall hcall2
    go_enter Tryz.func96, Tryz.ntmps96
    go_wp2_with fail
    refine (Hcall.out).mono ?_
    rintro e w1 ⟨rfl, h1⟩
    go_wp2_with fail
    go_ret2
    exact ShPost.fail HE.out h1
  rw [hr] at hcall
  cases hq : Sh.right xs
  · have HE := Lib.hid (show Od.conv ws xs step = ([], 20) by simp [Od.conv, hq])
    rw [hq] at hcall2
    have Hr := Lib.hid hr
    have Hq := Lib.hid hq
    have HI := Lib.hid hI
    have HJ := Lib.hid hJ
    have Hcall := Lib.hid hcall
    have Hcall2 := Lib.hid hcall2
    clear hr hq hI hJ hcall hcall2
    go_enter Tryz.func96, Tryz.ntmps96
    go_wp2_with fail
    refine (Hcall.out).mono ?_
    rintro e w1 ⟨rfl, h1⟩
    go_wp2_with fail
    refine (Hcall2.out _ h1).mono ?_
    rintro e w2 ⟨rfl, h2⟩
    go_wp2_with fail
    go_ret2
    exact ShPost.fail HE.out (h1.trans (h2.mono h1.size))
  rw [hq] at hcall2
  obtain ⟨_, a1, a2, a3, -⟩ := Sh.right_mul hr
  obtain ⟨_, b1, b2, b3, -⟩ := Sh.right_mul hq
  have bad : ¬ (2 ≤ xs.length ∧ xs.length ≤ 3 ∧ ws.length = xs.length + 1 ∧ ws.getD 1 0 = xs.getD 0 0) → Od.conv ws xs step = ([], 20) := fun h => by
    unfold Od.conv
    rw [if_neg (by simpa [hr, hq] using h)]
  have good : (2 ≤ xs.length ∧ xs.length ≤ 3 ∧ ws.length = xs.length + 1 ∧ ws.getD 1 0 = xs.getD 0 0) → Od.conv ws xs step = (if (List.range (xs.length - 1)).all (fun i => decide ((Od.wn ws xs step i).2 = 0)) then
      (if Sh.right (Od.outs ws xs step (xs.length - 1)) then (Od.outs ws xs step (xs.length - 1), 0) else ([], 20)) else ([], 11)) := fun h => by
    unfold Od.conv
    rw [if_pos (by simpa [hr, hq] using h)]
  have Hr := Lib.hid hr
  have Hq := Lib.hid hq
  have HI := Lib.hid hI
  have HJ := Lib.hid hJ
  have Hcall := Lib.hid hcall
  have Hcall2 := Lib.hid hcall2
  have Ha3 := Lib.hid a3
  have Hb3 := Lib.hid b3
  have Hgood := Lib.hid good
  clear hr hq hI hJ hcall hcall2 a3 b3 good
  by_cases c1 : xs.length < 2
  · have HE := Lib.hid (bad (by omega))
    clear bad
    go_enter Tryz.func96, Tryz.ntmps96
    go_wp2_with fail
    refine (Hcall.out).mono ?_
    rintro e w1 ⟨rfl, h1⟩
    go_wp2_with fail
    refine (Hcall2.out _ h1).mono ?_
    rintro e w2 ⟨rfl, h2⟩
    have d1 : decide ((xs.length : Int) < 2) = true := by simp; omega
    go_wp2_with fail
    go_quiet (fail)
    go_wp2_with fail
    go_ret2
    exact ShPost.fail HE.out (Bdrawn (h1.trans (h2.mono h1.size)) _)
  by_cases c2 : 3 < xs.length
  · have HE := Lib.hid (bad (by omega))
    clear bad
    go_enter Tryz.func96, Tryz.ntmps96
    go_wp2_with fail
    refine (Hcall.out).mono ?_
    rintro e w1 ⟨rfl, h1⟩
    go_wp2_with fail
    refine (Hcall2.out _ h1).mono ?_
    rintro e w2 ⟨rfl, h2⟩
    have d1 : decide ((xs.length : Int) < 2) = false := by simp; omega
    have d2 : decide (3 < (xs.length : Int)) = true := by simp; omega
    go_wp2_with fail
    go_quiet (fail)
    go_wp2_with fail
    go_ret2
    exact ShPost.fail HE.out (Bdrawn (h1.trans (h2.mono h1.size)) _)
  by_cases c3 : ws.length = xs.length + 1
  case neg =>
    have HE := Lib.hid (bad (by omega))
    clear bad
    go_enter Tryz.func96, Tryz.ntmps96
    go_wp2_with fail
    refine (Hcall.out).mono ?_
    rintro e w1 ⟨rfl, h1⟩
    go_wp2_with fail
    refine (Hcall2.out _ h1).mono ?_
    rintro e w2 ⟨rfl, h2⟩
    have d1 : decide ((xs.length : Int) < 2) = false := by simp; omega
    have d2 : decide (3 < (xs.length : Int)) = false := by simp; omega
    have d0 : IntKind.i64.wrap ((xs.length : Int) + 1) = (xs.length : Int) + 1 := IntWalk.i64_in _ (by omega)
    have d3 : ((ws.length : Int) != (xs.length : Int) + 1) = true := by simp; omega
    clear c3
    go_wp2_with fail
    go_quiet (fail)
    go_wp2_with fail
    go_ret2
    exact ShPost.fail HE.out (Bdrawn (h1.trans (h2.mono h1.size)) _)
  have d1 : decide ((xs.length : Int) < 2) = false := by simp; omega
  have d2 : decide (3 < (xs.length : Int)) = false := by simp; omega
  have d0 : IntKind.i64.wrap ((xs.length : Int) + 1) = (xs.length : Int) + 1 := IntWalk.i64_in _ (by omega)
  have d3 : ((ws.length : Int) != (xs.length : Int) + 1) = false := by simp; omega
  have e1 : (1 : Int) < ws.length := by omega
  have e0 : (0 : Int) < ws.length := by omega
  have f0 : (0 : Int) < xs.length := by omega
  obtain ⟨b, off, rfl, hb, -⟩ := HI.out 0 (by omega)
  obtain ⟨b', off', rfl, hb', -⟩ := HJ.out 0 (by omega)
  have HL := Lib.hid c3
  have n1 : 1 < ws.length := by omega
  have n0 : 0 < ws.length := by omega
  have m0 : 0 < xs.length := by omega
  have hcw : ∀ W, Below w.heap.size w W → ∀ k (hk : k < ws.length), W.cell? ⟨b, off + k, none⟩ = some (.int .i64 ws[k]) := fun W hW k hk => by
    exact (HI.out.below hW (Nat.le_refl _)).cell_at hk
  have hcx : ∀ W, Below w.heap.size w W → ∀ k (hk : k < xs.length), W.cell? ⟨b', off' + k, none⟩ = some (.int .i64 xs[k]) := fun W hW k hk => by
    exact (HJ.out.below hW (Nat.le_refl _)).cell_at hk
  have Hcw := Lib.hid hcw
  have Hcx := Lib.hid hcx
  clear hcw hcx
  clear c3
  by_cases c4 : ws[1] = xs[0]
  case neg =>
    have HE := Lib.hid (bad (by rw [getD_at n1, getD_at m0]; have := HL.out; omega))
    have d4 : (ws[1] != xs[0]) = true := by simp [c4]
    clear bad c4
    go_enter Tryz.func96, Tryz.ntmps96
    go_wp2_with fail
    refine (Hcall.out).mono ?_
    rintro e w1 ⟨rfl, h1⟩
    go_wp2_with fail
    refine (Hcall2.out _ h1).mono ?_
    rintro e w2 ⟨rfl, h2⟩
    have hb2 := h1.trans (h2.mono h1.size)
    have x1 := Hcw.out _ hb2 1 n1
    have y0 := Hcx.out _ hb2 0 m0
    rw [Nat.add_zero] at y0
    go_wp2_with fail
    go_quiet (fail)
    go_wp2_with fail
    go_ret2
    exact ShPost.fail HE.out (Bdrawn hb2 _)
  have d4 : (ws[1] != xs[0]) = false := by simp [c4]
  have hgood := Hgood.out ⟨by omega, by omega, HL.out, by rw [getD_at n1, getD_at m0]; exact c4⟩
  have HG := Lib.hid hgood
  clear bad c4 hgood Hgood
  go_enter Tryz.func96, Tryz.ntmps96
  go_wp2_with fail
  refine (Hcall.out).mono ?_
  rintro e w1 ⟨rfl, h1⟩
  go_wp2_with fail
  refine (Hcall2.out _ h1).mono ?_
  rintro e w2 ⟨rfl, h2⟩
  have hb2 := h1.trans (h2.mono h1.size)
  have x1 := Hcw.out _ hb2 1 n1
  have y0 := Hcx.out _ hb2 0 m0
  have x0 := Hcw.out _ hb2 0 n0
  rw [Nat.add_zero] at y0 x0
  go_wp2_with fail
  go_quiet (fail)
  have hb3 : Below w.heap.size w (w2.drewN nq) := Bdrawn hb2 _
  generalize w2.drewN nq = w3 at *
  have x0 := Hcw.out _ hb3 0 n0
  rw [Nat.add_zero] at x0
  go_wp2_with fail
  clear x1 y0 x0
  have hown : (w3.alloc (.cells #[.int .i64 ws[0]] 3)).ownsRow w.heap.size 3 1 (.slice (some ⟨w3.heap.size, 0, none⟩) 1 1) (0 + 1) ((Od.outs ws xs step 0).map (Value.int .i64)) := by
    have h := one_row w3 3 ws[0]
    rw [show (Od.outs ws xs step 0).map (Value.int .i64) = [.int .i64 ws[0]] by simp [Od.outs, n0]]
    exact own_base h hb3.size
  have HO := Lib.hid hown
  have hb4 : Below w.heap.size w (w3.alloc (.cells #[.int .i64 ws[0]] 3)) := hb3.alloc hb3.size _
  clear hown
  go_loopw [8, 53] (fun v i wr => ∃ k : Nat, k ≤ xs.length - 1 ∧ i = .int .i64 k ∧ wr.ownsRow w.heap.size 3 1 v (k + 1) ((Od.outs ws xs step k).map (Value.int .i64)) ∧ Below w.heap.size w wr ∧ ∀ j, j < k → (Od.wn ws xs step j).2 = 0) (fun _ i _ => xs.length - (intOf i).toNat)
  case atStart => exact ⟨0, Nat.zero_le _, rfl, HO.out, hb4, fun j h => by omega⟩
  case round =>
    obtain ⟨k, hk, rfl, hown, hbw, hall⟩ := hrel
    have HA := Lib.hid hall
    clear hall HO hb4 hb3 hb2
    by_cases hlt : k < xs.length - 1
    · have k0 : (0 : Int) ≤ k := by omega
      have p1 : k + 1 < xs.length := by omega
      have p2 : k + 2 < ws.length := by have := HL.out; omega
      have k1 : (k : Int) < ((xs.length - 1 : Nat) : Int) := by omega
      have k2 : ((k : Int) + 2) < (ws.length : Int) := by omega
      have w2 : IntKind.i64.wrap ((k : Int) + 2) = (k : Int) + 2 := IntWalk.i64_in _ (by omega)
      have t2 : ((k : Int) + 2).toNat = k + 2 := by omega
      have x1 := Hcx.out _ hbw (k + 1) p1
      have y1 := Hcw.out _ hbw (k + 2) p2
      rw [show off' + (k + 1) = off' + 1 + k by omega] at x1
      have hwn : Od.wn ws xs step k = Od.window xs[k + 1] ws[k + 2] step := by unfold Od.wn; rw [getD_at p1, getD_at p2]
      have HN := Lib.hid hwn
      have hcall := shape_window xs[k + 1] ws[k + 2] step
      rw [← hwn] at hcall
      have Hc := Lib.hid hcall
      clear hcall hwn
      have HW := Lib.hid hown
      clear hown
      by_cases hz : (Od.wn ws xs step k).2 = 0
      · have HZ := Lib.hid hz
        clear hz
        go_wp2_with fail
        refine (Hc.out _).mono ?_
        rintro e w5 ⟨rfl, rfl⟩
        rw [HZ.out]
        have hown := HW.out
        go_wp2_with (at_builtin; refine wpList_append_own _ rfl _ _ 23 rfl w.heap.size 3 i0 (.int .i64 0) 1 8 Tryz.underlying23 hi hz0 hz1 hz2 rfl (by decide) _ _ _ rfl (hown.alloc _) ⟨wr.heap.size, 0, none⟩ 1 1 [.int .i64 (Od.wn ws xs step k).1] rfl rfl (one_new _ _ _) (by intro u hu; simp at hu; subst hu; rfl) (by unfold maxLen; omega) (by omega) (by have := hbw.size; simp; omega) ?_)
        intro v' w6 hown' hgrow _
        have hb6 : Below w.heap.size w w6 := (hbw.alloc hbw.size _).grown hgrow (by have := hbw.size; simp; omega) (fun j hj => (HW.out.lt j hj).1)
        have HW' := Lib.hid hown'
        clear hown hown' hgrow
        go_wp2_with fail
        go_roundw
        case rel => exact ⟨k + 1, by omega, by go_num, by rw [Od.outs_succ, List.map_append]; exact HW'.out, hb6, fun j hj => by
          by_cases e : j = k
          · subst e; exact HZ.out
          · exact HA.out j (by omega)⟩
        case measure => simp [intOf]; omega
      · have HE := Lib.hid (show Od.conv ws xs step = ([], 11) by
          rw [HG.out, if_neg]
          rw [List.all_eq_true]
          intro h
          have := h k (List.mem_range.2 hlt)
          simp [hz] at this)
        have HZ := Lib.hid (show Od.wn ws xs step k = (0, 11) by rw [HN.out]; exact Od.window_err (by rw [← HN.out]; exact hz))
        clear hz
        go_wp2_with fail
        refine (Hc.out _).mono ?_
        rintro e w5 ⟨rfl, rfl⟩
        rw [HZ.out]
        go_wp2_with fail
        go_ret2
        exact ShPost.fail HE.out hbw
    · obtain rfl : k = xs.length - 1 := by omega
      have k1 : ¬ (((xs.length - 1 : Nat) : Int) < ((xs.length - 1 : Nat) : Int)) := by omega
      have hgo : Od.conv ws xs step = if Sh.right (Od.outs ws xs step (xs.length - 1)) then (Od.outs ws xs step (xs.length - 1), 0) else ([], 20) := by
        rw [HG.out, if_pos]
        rw [List.all_eq_true]
        intro j hj
        simp [HA.out j (List.mem_range.1 hj)]
      have hol := Od.outs_len ws xs step (xs.length - 1)
      rw [show xs.length - 1 + 1 = xs.length by omega] at hown hol
      generalize Od.outs ws xs step (xs.length - 1) = os at *
      obtain ⟨g, c2, rfl, hbg, hgc, hIg, hcc⟩ := own_slice hown hol.symm (by omega)
      have hcall3 := shape_right (some ⟨g, 0, none⟩) c2 os wr (by omega) hIg
      cases h5 : Sh.right os
      · have HE := Lib.hid (show Od.conv ws xs step = ([], 20) by rw [hgo, if_neg (by simp [h5])])
        rw [h5] at hcall3
        have Hcall3 := Lib.hid hcall3
        have HIg := Lib.hid hIg
        have Hgo := Lib.hid hgo
        have Hown := Lib.hid hown
        clear hcall3 hIg hgo hown
        rw [hol] at Hcall3
        clear hol h5
        go_wp2_with fail
        refine (Hcall3.out).mono ?_
        rintro e w4 ⟨rfl, h4⟩
        go_wp2_with fail
        go_ret2
        exact ShPost.fail HE.out (hbw.trans (h4.mono hbw.size))
      · have HE := Lib.hid (show Od.conv ws xs step = (os, 0) by rw [hgo, if_pos h5])
        rw [h5] at hcall3
        have Hcall3 := Lib.hid hcall3
        have HIg := Lib.hid hIg
        have Hgo := Lib.hid hgo
        have Hown := Lib.hid hown
        clear hcall3 hIg hgo hown
        rw [hol] at Hcall3
        have HOL := Lib.hid hol
        clear hol h5
        go_wp2_with fail
        refine (Hcall3.out).mono ?_
        rintro e w4 ⟨rfl, h4⟩
        go_wp2_with fail
        go_ret2
        exact ShPost.mk' HE.out HOL.out.symm (HIg.out.below h4 (Nat.le_refl _)) hcc.1 hcc.2 (fun a h => by injection h with h; subst h; exact hbg) (hbw.trans (h4.mono hbw.size))
end Go.Proofs.YtkmhagjdafeebaaGreat
/- Layer 10 (op): the shapes that some kinds answer with: contracts. -/
namespace Go.Proofs.YtkmhagjdafeebaaGreat
open Go.RowKit

theorem Shps.cell_at {w : World} {b off j : Nat} {ss : List (List Int)} (h : Shps w (some ⟨b, off, none⟩) ss) (hj : j < ss.length) :
    ∃ S c, w.cell? ⟨b, off + j, none⟩ = some (.slice S ss[j].length c) ∧ Ints .i64 w S ss[j] ∧ ss[j].length ≤ c ∧ c ≤ 9223372036854775807 := by
  obtain ⟨b', off', S, c, e, _, hc, h2⟩ := h j hj
  injection e with e
  injection e with e1 e2
  subst e1 e2
  exact ⟨S, c, hc, h2⟩
theorem gets_at {l : List (List Int)} {k : Nat} (h : k < l.length) : l.getD k [] = l[k] := by rw [List.getD_eq_getElem?_getD, List.getElem?_eq_getElem h]; rfl

set_option maxHeartbeats 4000000 in
theorem op_dense (A B C : Option Addr) (c d f : Nat) (ws bs xs : List Int) (w : World) (hx : xs.length ≤ 17592186043904) (hI : Ints .i64 w A ws) (hJ : Ints .i64 w B bs) (hK : Ints .i64 w C xs) :
    Calls Tryz.prog 94 #[.slice A ws.length c, .slice B bs.length d, .slice C xs.length f] w (ShPost (Od.dense ws bs xs) w) := by
  have bad : ¬ (ws.length = 2 ∧ bs.length = 1 ∧ bs.getD 0 0 = ws.getD 0 0 ∧ Sh.right xs = true ∧ Safe.prod xs = ws.getD 1 0) → Od.dense ws bs xs = ([], 20) := fun h => by unfold Od.dense; rw [if_neg h]
  have HI := Lib.hid hI
  have HJ := Lib.hid hJ
  have HK := Lib.hid hK
  clear hI hJ hK
  by_cases c1 : ws.length = 2
  case neg =>
    have HE := Lib.hid (bad (by omega))
    have d1 : ((ws.length : Int) != 2) = true := by simp; omega
    clear bad c1
    go_enter Tryz.func94, Tryz.ntmps94
    go_wp2_with fail
    go_quiet (fail)
    go_wp2_with fail
    go_ret2
    exact ShPost.fail HE.out (Bdrawn (Below.refl _ _) _)
  by_cases c2 : bs.length = 1
  case neg =>
    have HE := Lib.hid (bad (by omega))
    have d1 : ((ws.length : Int) != 2) = false := by simp; omega
    have d2 : ((bs.length : Int) != 1) = true := by simp; omega
    clear bad c1 c2
    go_enter Tryz.func94, Tryz.ntmps94
    go_wp2_with fail
    go_quiet (fail)
    go_wp2_with fail
    go_ret2
    exact ShPost.fail HE.out (Bdrawn (Below.refl _ _) _)
  obtain ⟨b, off, rfl, hb, -⟩ := HI.out 0 (by omega)
  obtain ⟨b', off', rfl, hb', -⟩ := HJ.out 0 (by omega)
  have n0 : 0 < ws.length := by omega
  have n1 : 1 < ws.length := by omega
  have m0 : 0 < bs.length := by omega
  have e0 : (0 : Int) < ws.length := by omega
  have e1 : (1 : Int) < ws.length := by omega
  have f0 : (0 : Int) < bs.length := by omega
  have d1 : ((ws.length : Int) != 2) = false := by simp; omega
  have d2 : ((bs.length : Int) != 1) = false := by simp; omega
  have x0 := HI.out.cell_at n0
  have y0 := HJ.out.cell_at m0
  rw [Nat.add_zero] at x0 y0
  rw [getD_at n0, getD_at m0, getD_at n1] at bad
  have good : bs[0] = ws[0] → Sh.right xs = true → Safe.prod xs = ws[1] → Od.dense ws bs xs = ([ws[0]], 0) := fun h1 h2 h3 => by
    unfold Od.dense
    rw [if_pos ⟨c1, c2, by rw [getD_at n0, getD_at m0]; exact h1, h2, by rw [getD_at n1]; exact h3⟩, getD_at n0]
  have HC1 := Lib.hid c1
  have HC2 := Lib.hid c2
  by_cases c3 : bs[0] = ws[0]
  case neg =>
    have HE := Lib.hid (bad (by simp [c3]))
    have d3 : (bs[0] != ws[0]) = true := by simp [c3]
    clear bad good c1 c2 c3
    go_enter Tryz.func94, Tryz.ntmps94
    go_wp2_with fail
    go_quiet (fail)
    go_wp2_with fail
    go_ret2
    exact ShPost.fail HE.out (Bdrawn (Below.refl _ _) _)
  have d3 : (bs[0] != ws[0]) = false := by simp [c3]
  have bad := fun h : ¬ (Sh.right xs = true ∧ Safe.prod xs = ws[1]) => bad (by intro q; exact h ⟨q.2.2.2.1, q.2.2.2.2⟩)
  have good := good c3
  clear c1 c2 c3
  cases hr : Sh.right xs
  · have HE := Lib.hid (bad (by simp [hr]))
    have HS := Lib.hid (show Sh.size xs = (0, 20) by simp [Sh.size, hr])
    clear bad good
    have Hr := Lib.hid hr
    clear hr
    go_enter Tryz.func94, Tryz.ntmps94
    go_wp2_with fail
    go_quiet (fail)
    go_wp2_with fail
    refine (shape_size C f xs _ (by omega) (HK.out.drewN _)).mono ?_
    rintro e w1 ⟨rfl, h1⟩
    rw [HS.out]
    go_wp2_with fail
    go_ret2
    exact ShPost.fail HE.out ((Bdrawn (Below.refl _ _) _).trans h1)
  have HS := Lib.hid (show Sh.size xs = (Safe.prod xs, 0) by simp [Sh.size, hr])
  by_cases hp : Safe.prod xs = ws[1]
  · have HE := Lib.hid (good hr hp)
    have d5 : (Safe.prod xs != ws[1]) = false := by simp [hp]
    clear bad good hp
    have Hr := Lib.hid hr
    clear hr
    go_enter Tryz.func94, Tryz.ntmps94
    go_wp2_with fail
    go_quiet (fail)
    go_wp2_with fail
    refine (shape_size C f xs _ (by omega) (HK.out.drewN _)).mono ?_
    rintro e w1 ⟨rfl, h1⟩
    rw [HS.out]
    have hb1 : Below w.heap.size w w1 := (Bdrawn (Below.refl _ _) _).trans h1
    have x1 := (HI.out.below hb1 (Nat.le_refl _)).cell_at n1
    have x0 := (HI.out.below hb1 (Nat.le_refl _)).cell_at n0
    rw [Nat.add_zero] at x0
    go_wp2_with fail
    go_ret2
    refine ShPost.fresh (g := w1.heap.size) (t := 3) HE.out (by simp) hb1.size ?_ (by simp) (by omega) (hb1.alloc hb1.size _)
    exact Blk.new _ _ _
  · have HE := Lib.hid (bad (by simp [hp]))
    have d5 : (Safe.prod xs != ws[1]) = true := by simp [hp]
    clear bad good hp
    have Hr := Lib.hid hr
    clear hr
    go_enter Tryz.func94, Tryz.ntmps94
    go_wp2_with fail
    go_quiet (fail)
    go_wp2_with fail
    refine (shape_size C f xs _ (by omega) (HK.out.drewN _)).mono ?_
    rintro e w1 ⟨rfl, h1⟩
    rw [HS.out]
    have hb1 : Below w.heap.size w w1 := (Bdrawn (Below.refl _ _) _).trans h1
    have x1 := (HI.out.below hb1 (Nat.le_refl _)).cell_at n1
    go_wp2_with fail
    go_ret2
    exact ShPost.fail HE.out hb1

theorem Od.same_bad {l : List (List Int)} {k : Nat} (hk : k < l.length) (h0 : 0 < l.length) (h : l[k] ≠ l[0]) : Od.same l = ([], 20) := by
  unfold Od.same
  rw [if_neg]
  rw [List.all_eq_true]
  intro q
  have := q l[k] (List.getElem_mem hk)
  rw [gets_at h0] at this
  simp [h] at this
theorem Od.same_good {l : List (List Int)} (h0 : 0 < l.length) (h : ∀ k (hk : k < l.length), l[k] = l[0]) : Od.same l = (l[0], 0) := by
  unfold Od.same
  rw [if_pos, gets_at h0]
  rw [List.all_eq_true]
  intro x hx
  obtain ⟨k, hk, rfl⟩ := List.getElem_of_mem hx
  rw [gets_at h0]
  simp [h k hk]
set_option maxHeartbeats 4000000 in
theorem op_same (A : Option Addr) (c : Nat) (ss : List (List Int)) (w : World) (h0 : 0 < ss.length) (hc : ss.length ≤ c) (hm : c ≤ 9223372036854775807) (hI : Shps w A ss) (hz : ∀ s ∈ ss, s.length ≤ 17592186043904) :
    Calls Tryz.prog 95 #[.slice A ss.length c] w (ShPost (Od.same ss) w) := by
  obtain ⟨b, off, _, _, rfl, hb, -⟩ := hI 0 h0
  have e0 : (0 : Int) < ss.length := by omega
  have e1 : (1 : Int) ≤ ss.length := by omega
  have HI := Lib.hid hI
  have Hz := Lib.hid hz
  clear hI hz
  by_cases hc1 : c = 1
  · subst hc1
    have h1 : ss.length - 1 = 0 := by omega
    have HE := Lib.hid (Od.same_good h0 fun j hj => by obtain rfl : j = 0 := by omega
                                                       rfl)
    have z0 := Hz.out _ (List.getElem_mem h0)
    obtain ⟨S0, c0, y0, hI0, hc0, hm0⟩ := HI.out.cell_at h0
    rw [Nat.add_zero] at y0
    have HI0 := Lib.hid hI0
    clear hI0
    go_enter Tryz.func95, Tryz.ntmps95
    go_wp2_with fail
    go_loopw [9] (fun i wr => wr = w ∧ i = .int .i64 0) (fun _ _ => 0)
    case atStart => exact ⟨rfl, rfl⟩
    case round =>
      obtain ⟨rfl, rfl⟩ := hrel
      go_wp2_with fail
      refine (shape_copy S0 c0 ss[0] _ z0 HI0.out).mono ?_
      rintro e w1 ⟨g, rfl, hg, hB, h1⟩
      go_wp2_with fail
      go_ret2
      exact ShPost.fresh HE.out rfl hg hB (Nat.le_refl _) (by omega) h1
  go_enter Tryz.func95, Tryz.ntmps95
  go_wp2_with fail
  go_loopw [9] (fun i wr => ∃ k n : Nat, wr = w.drewN n ∧ k ≤ ss.length - 1 ∧ i = .int .i64 k ∧ ∀ j (hj : j < ss.length), j ≤ k → ss[j] = ss[0]) (fun i _ => ss.length - (intOf i).toNat)
  case atStart => exact ⟨0, 0, rfl, Nat.zero_le _, rfl, fun j hj h => by obtain rfl : j = 0 := by omega
                                                                         rfl⟩
  case round =>
    obtain ⟨k, n, rfl, hk, rfl, hall⟩ := hrel
    have HA := Lib.hid hall
    clear hall
    obtain ⟨S0, c0, y0, hI0, hc0, hm0⟩ := (HI.out.drewN n).cell_at h0
    rw [Nat.add_zero] at y0
    have HI0 := Lib.hid hI0
    clear hI0
    by_cases hlt : k < ss.length - 1
    · have p1 : k + 1 < ss.length := by omega
      have k1 : (k : Int) < ((ss.length - 1 : Nat) : Int) := by omega
      obtain ⟨S1, c1, y1, hI1, hc1, hm1⟩ := (HI.out.drewN n).cell_at p1
      rw [show off + (k + 1) = off + 1 + k by omega] at y1
      have HI1 := Lib.hid hI1
      clear hI1
      have z1 := Hz.out _ (List.getElem_mem p1)
      have z0 := Hz.out _ (List.getElem_mem h0)
      by_cases hq : ss[k + 1] = ss[0]
      · have hb : (ss[k + 1] == ss[0]) = true := by simp [hq]
        have HB := Lib.hid hb
        have HQ := Lib.hid hq
        clear hq hb
        go_wp2_with fail
        refine (shape_equal S1 S0 c1 c0 ss[k + 1] ss[0] _ z1 z0 HI1.out HI0.out).mono ?_
        rintro e w1 ⟨rfl, n1, rfl⟩
        rw [HB.out]
        go_wp2_with fail
        go_roundw
        case rel => exact ⟨k + 1, n + n1, by first | rfl | exact World.drewN_drewN _ _ _, by omega, by go_num, fun j hj h => by
          by_cases e : j = k + 1
          · subst e; exact HQ.out
          · exact HA.out j hj (by omega)⟩
        case measure => simp [intOf]; omega
      · have hb : (ss[k + 1] == ss[0]) = false := by simp [hq]
        have HE := Lib.hid (Od.same_bad p1 h0 hq)
        have HB := Lib.hid hb
        clear hq hb
        go_wp2_with fail
        refine (shape_equal S1 S0 c1 c0 ss[k + 1] ss[0] _ z1 z0 HI1.out HI0.out).mono ?_
        rintro e w1 ⟨rfl, n1, rfl⟩
        rw [HB.out]
        go_wp2_with fail
        go_ret2
        exact ShPost.fail HE.out (Bdrawn (Below.refl _ _) _)
    · obtain rfl : k = ss.length - 1 := by omega
      have k1 : ¬ (((ss.length - 1 : Nat) : Int) < ((ss.length - 1 : Nat) : Int)) := by omega
      have HE := Lib.hid (Od.same_good h0 fun j hj => HA.out j hj (by omega))
      have z0 := Hz.out _ (List.getElem_mem h0)
      go_wp2_with fail
      refine (shape_copy S0 c0 ss[0] _ z0 HI0.out).mono ?_
      rintro e w1 ⟨g, rfl, hg, hB, h1⟩
      go_wp2_with fail
      go_ret2
      exact ShPost.fresh HE.out rfl hg hB (Nat.le_refl _) (by omega) ((Bdrawn (Below.refl _ _) n).trans h1)

set_option maxHeartbeats 4000000 in
theorem op_turned (A B : Option Addr) (c d : Nat) (xs ss : List Int) (w : World) (hx : xs.length ≤ 17592186043904) (hs : ss.length ≤ 17592186043904) (hI : Ints .i64 w A xs) (hJ : Ints .i64 w B ss) :
    Calls Tryz.prog 100 #[.slice A xs.length c, .slice B ss.length d] w (ShPost (Od.turned xs ss) w) := by
  have HI := Lib.hid hI
  have HJ := Lib.hid hJ
  clear hI hJ
  cases hr : Sh.right xs
  · have HE := Lib.hid (show Od.turned xs ss = ([], 20) by simp [Od.turned, hr])
    have HS := Lib.hid (show Sh.size xs = (0, 20) by simp [Sh.size, hr])
    clear hr
    go_enter Tryz.func100, Tryz.ntmps100
    go_wp2_with fail
    refine (shape_size A c xs _ (by omega) HI.out).mono ?_
    rintro e w1 ⟨rfl, h1⟩
    rw [HS.out]
    go_wp2_with fail
    go_ret2
    exact ShPost.fail HE.out h1
  have HS := Lib.hid (show Sh.size xs = (Safe.prod xs, 0) by simp [Sh.size, hr])
  cases hq : Sh.right ss
  · have HE := Lib.hid (show Od.turned xs ss = ([], 20) by simp [Od.turned, hq])
    have HT := Lib.hid (show Sh.size ss = (0, 20) by simp [Sh.size, hq])
    clear hr hq
    go_enter Tryz.func100, Tryz.ntmps100
    go_wp2_with fail
    refine (shape_size A c xs _ (by omega) HI.out).mono ?_
    rintro e w1 ⟨rfl, h1⟩
    rw [HS.out]
    go_wp2_with fail
    refine (shape_size B d ss _ (by omega) (HJ.out.below h1 (Nat.le_refl _))).mono ?_
    rintro e w2 ⟨rfl, h2⟩
    rw [HT.out]
    go_wp2_with fail
    go_ret2
    exact ShPost.fail HE.out (h1.trans (h2.mono h1.size))
  have HT := Lib.hid (show Sh.size ss = (Safe.prod ss, 0) by simp [Sh.size, hq])
  by_cases hp : Safe.prod ss = Safe.prod xs
  · have HE := Lib.hid (show Od.turned xs ss = (ss, 0) by simp [Od.turned, hr, hq, hp])
    have d5 : (Safe.prod ss != Safe.prod xs) = false := by simp [hp]
    clear hr hq hp
    go_enter Tryz.func100, Tryz.ntmps100
    go_wp2_with fail
    refine (shape_size A c xs _ (by omega) HI.out).mono ?_
    rintro e w1 ⟨rfl, h1⟩
    rw [HS.out]
    go_wp2_with fail
    refine (shape_size B d ss _ (by omega) (HJ.out.below h1 (Nat.le_refl _))).mono ?_
    rintro e w2 ⟨rfl, h2⟩
    have hb2 := h1.trans (h2.mono h1.size)
    rw [HT.out]
    go_wp2_with fail
    refine (shape_copy B d ss _ hs (HJ.out.below hb2 (Nat.le_refl _))).mono ?_
    rintro e w3 ⟨g, rfl, hg, hB, h3⟩
    go_wp2_with fail
    go_ret2
    exact ShPost.fresh HE.out rfl (Nat.le_trans hb2.size hg) hB (Nat.le_refl _) (by omega) (hb2.trans (h3.mono hb2.size))
  · have HE := Lib.hid (show Od.turned xs ss = ([], 20) by simp [Od.turned, hp])
    have d5 : (Safe.prod ss != Safe.prod xs) = true := by simp [hp]
    clear hr hq hp
    go_enter Tryz.func100, Tryz.ntmps100
    go_wp2_with fail
    refine (shape_size A c xs _ (by omega) HI.out).mono ?_
    rintro e w1 ⟨rfl, h1⟩
    rw [HS.out]
    go_wp2_with fail
    refine (shape_size B d ss _ (by omega) (HJ.out.below h1 (Nat.le_refl _))).mono ?_
    rintro e w2 ⟨rfl, h2⟩
    rw [HT.out]
    go_wp2_with fail
    go_ret2
    exact ShPost.fail HE.out (h1.trans (h2.mono h1.size))

theorem Od.join_right {s t : List Int} {side : Int} (h : (Od.join s t side).2 = 0) : Sh.right (Od.join s t side).1 = true := by
  unfold Od.join at h ⊢
  split at h
  · rename_i h1
    rw [if_pos h1]
    split at h
    · rename_i h2
      rw [if_pos h2]
      split at h
      · rename_i h3
        rw [if_pos h3]
        simp at h3
        exact h3.2
      · simp at h
    · simp at h
  · simp at h
theorem Od.join_err {s t : List Int} {side : Int} (h : (Od.join s t side).2 ≠ 0) : (Od.join s t side).1 = [] := by
  unfold Od.join at h ⊢
  split
  · split
    · split
      · rename_i h1 h2 h3; simp [h1, h2, h3] at h
      · rfl
    · rfl
  · rfl
set_option maxHeartbeats 4000000 in
theorem op_joined (A : Option Addr) (c : Nat) (side : Int) (ss : List (List Int)) (w : World) (h0 : 0 < ss.length) (hc : ss.length ≤ c) (hm : c ≤ 9223372036854775807) (hI : Shps w A ss) (hz : ∀ s ∈ ss, s.length ≤ 17592186043904) :
    Calls Tryz.prog 98 #[.int .i64 side, .slice A ss.length c] w (ShPost (Od.joined side ss) w) := by
  obtain ⟨b, off, _, _, rfl, hb, -⟩ := hI 0 h0
  have e0 : (0 : Int) < ss.length := by omega
  have e1 : (1 : Int) ≤ ss.length := by omega
  have z0 := hz _ (List.getElem_mem h0)
  obtain ⟨S0, c0, y0, hI0, hc0, hm0⟩ := hI.cell_at h0
  rw [Nat.add_zero] at y0
  have HI := Lib.hid hI
  have Hz := Lib.hid hz
  have HI0 := Lib.hid hI0
  clear hI hz hI0
  have bad : ss.length = 1 → ¬ (0 ≤ side ∧ side < ss[0].length) → Od.joined side ss = ([], 11) := fun h1 h2 => by
    unfold Od.joined
    rw [if_pos ⟨h1, by rw [gets_at h0]; simp [Od.inR]; omega⟩]
  have good : (ss.length = 1 → 0 ≤ side ∧ side < ss[0].length) → Od.joined side ss = Od.joinAll side ss[0] (ss.drop 1) := fun h => by
    unfold Od.joined
    rw [if_neg, gets_at h0]
    rw [gets_at h0]
    rintro ⟨h1, h2⟩
    simp [Od.inR] at h2
    have := h h1
    omega
  by_cases c1 : ss.length = 1
  · have d1 : ((ss.length : Int) == 1) = true := by simp; omega
    have l0 : ss.length - 1 = 0 := by omega
    have bad := bad c1
    by_cases s1 : side < 0
    · have HE := Lib.hid (bad (by omega))
      clear bad good c1
      go_enter Tryz.func98, Tryz.ntmps98
      go_wp2_with fail
      go_ret2
      exact ShPost.fail HE.out (Below.refl _ _)
    · by_cases s2 : (ss[0].length : Int) ≤ side
      · have HE := Lib.hid (bad (by omega))
        clear bad good c1
        go_enter Tryz.func98, Tryz.ntmps98
        go_wp2_with fail
        go_ret2
        exact ShPost.fail HE.out (Below.refl _ _)
      · have HE := Lib.hid (show Od.joined side ss = (ss[0], 0) by rw [good (by omega), List.drop_eq_nil_of_le (by omega)]; rfl)
        clear bad good c1
        by_cases hc1 : c = 1
        · subst hc1
          go_enter Tryz.func98, Tryz.ntmps98
          go_wp2_with fail
          refine (shape_copy S0 c0 ss[0] _ z0 HI0.out).mono ?_
          rintro e w1 ⟨g, rfl, hg, hB, h1⟩
          have HB := Lib.hid hB
          clear hB y0
          go_wp2_with fail
          go_loopw [6, 33] (fun v i wr => v = .slice (some ⟨g, 0, none⟩) ss[0].length ss[0].length ∧ wr = w1 ∧ i = .int .i64 0) (fun _ _ _ => 0)
          case atStart => exact ⟨rfl, rfl, rfl⟩
          case round =>
            obtain ⟨rfl, rfl, rfl⟩ := hrel
            go_wp2_with fail
            go_ret2
            exact ShPost.fresh HE.out rfl hg HB.out (Nat.le_refl _) (by omega) h1
        · go_enter Tryz.func98, Tryz.ntmps98
          go_wp2_with fail
          refine (shape_copy S0 c0 ss[0] _ z0 HI0.out).mono ?_
          rintro e w1 ⟨g, rfl, hg, hB, h1⟩
          have HB := Lib.hid hB
          clear hB y0
          go_wp2_with fail
          go_loopw [6, 33] (fun v i wr => v = .slice (some ⟨g, 0, none⟩) ss[0].length ss[0].length ∧ wr = w1 ∧ i = .int .i64 0) (fun _ _ _ => 0)
          case atStart => exact ⟨rfl, rfl, rfl⟩
          case round =>
            obtain ⟨rfl, rfl, rfl⟩ := hrel
            go_wp2_with fail
            go_ret2
            exact ShPost.fresh HE.out rfl hg HB.out (Nat.le_refl _) (by omega) h1
  · have d1 : ((ss.length : Int) == 1) = false := by simp; omega
    have hc1 : ¬ c = 1 := by omega
    have HG := Lib.hid (good (by omega))
    clear bad good c1
    go_enter Tryz.func98, Tryz.ntmps98
    go_wp2_with fail
    refine (shape_copy S0 c0 ss[0] _ z0 HI0.out).mono ?_
    rintro e w1 ⟨g, rfl, hg, hB, h1⟩
    have HB := Lib.hid (show Blk w1 g 3 (ss[0].map (Value.int .i64)).toArray from hB)
    clear hB y0
    go_wp2_with fail
    go_loopw [6, 33] (fun v i wr => ∃ (k : Nat) (cur : List Int) (S : Option Addr) (d : Nat), k ≤ ss.length - 1 ∧ i = .int .i64 k ∧ v = .slice S cur.length d ∧ Ints .i64 wr S cur ∧ cur.length ≤ d ∧ d ≤ 9223372036854775807 ∧ cur.length ≤ 17592186043904 ∧ (∀ a, S = some a → w.heap.size ≤ a.block) ∧ Below w.heap.size w wr ∧ Od.joined side ss = Od.joinAll side cur (ss.drop (k + 1))) (fun _ i _ => ss.length - (intOf i).toNat)
    case atStart => exact ⟨0, ss[0], _, _, Nat.zero_le _, rfl, rfl, Ints.of_row fun j hj => by rw [HB.out.cell]; simp [hj], Nat.le_refl _, by omega, by omega, (fun a h => by injection h with h; subst h; exact hg), h1, HG.out⟩
    case round =>
      obtain ⟨k, cur, S, d, hk, rfl, rfl, hcur, q1, q2, q3, hfr, hbw, hgo⟩ := hrel
      have Hcur := Lib.hid hcur
      have Hgo := Lib.hid hgo
      have Hfr := Lib.hid hfr
      clear hcur hgo hfr
      clear HB
      by_cases hlt : k < ss.length - 1
      · have p1 : k + 1 < ss.length := by omega
        have k1 : (k : Int) < ((ss.length - 1 : Nat) : Int) := by omega
        obtain ⟨S1, c1, y1, hI1, hc1, hm1⟩ := (HI.out.below hbw (Nat.le_refl _)).cell_at p1
        rw [show off + (k + 1) = off + 1 + k by omega] at y1
        have z1 := Hz.out _ (List.getElem_mem p1)
        have hj := shape_join S S1 d c1 cur ss[k + 1] side wr q3 z1 Hcur.out hI1
        have hgo2 : Od.joinAll side cur (ss.drop (k + 1)) = if (Od.join cur ss[k + 1] side).2 = 0 then Od.joinAll side (Od.join cur ss[k + 1] side).1 (ss.drop (k + 1 + 1)) else ([], (Od.join cur ss[k + 1] side).2) := by
          rw [List.drop_eq_getElem_cons p1, Od.joinAll]
        have hright := fun h : (Od.join cur ss[k + 1] side).2 = 0 => Sh.right_mul (Od.join_right (s := cur) (t := ss[k + 1]) (side := side) h)
        have herr := fun h : (Od.join cur ss[k + 1] side).2 ≠ 0 => Od.join_err (s := cur) (t := ss[k + 1]) (side := side) h
        generalize Od.join cur ss[k + 1] side = r at *
        have Hj := Lib.hid hj
        have Hgo2 := Lib.hid hgo2
        have HI1 := Lib.hid hI1
        have Hright := Lib.hid hright
        have Herr := Lib.hid herr
        clear hj hgo2 hI1 hright herr
        go_wp2_with fail
        refine (Hj.out).mono ?_
        rintro e w2 ⟨S2, d2, rfl, hI2, l1, l2, hf2, hb2⟩
        have hbw2 := hbw.trans (hb2.mono hbw.size)
        have HI2 := Lib.hid hI2
        have Hf2 := Lib.hid hf2
        clear hI2 hf2
        by_cases hr : r.2 = 0
        · have d3 : (r.2 != 0) = false := by simp [hr]
          have HR := Lib.hid hr
          clear hr
          go_wp2_with fail
          go_roundw
          case rel => exact ⟨k + 1, r.1, S2, d2, by omega, by go_num, rfl, HI2.out, l1, l2, by have := (Hright.out HR.out).2.1; omega, (fun a h => Nat.le_trans hbw.size (Hf2.out a h)), hbw2, by rw [Hgo.out, Hgo2.out, if_pos HR.out]⟩
          case measure => simp [intOf]; omega
        · have d3 : (r.2 != 0) = true := by simp [hr]
          have HE := Lib.hid (show Od.joined side ss = ([], r.2) by rw [Hgo.out, Hgo2.out, if_neg hr])
          clear hr
          go_wp2_with fail
          go_ret2
          exact ShPost.fail HE.out hbw2
      · obtain rfl : k = ss.length - 1 := by omega
        have k1 : ¬ (((ss.length - 1 : Nat) : Int) < ((ss.length - 1 : Nat) : Int)) := by omega
        have HE := Lib.hid (show Od.joined side ss = (cur, 0) by rw [Hgo.out, List.drop_eq_nil_of_le (by omega)]; rfl)
        go_wp2_with fail
        go_ret2
        exact ShPost.mk' HE.out rfl Hcur.out q1 q2 Hfr.out hbw
end Go.Proofs.YtkmhagjdafeebaaGreat
