/- Lemmas for the statements of this seat: contracts of functions and the plain laws. -/
import Derived.BigQuiet
import Derived.ChangeKeysEq
import Derived.Deep.Draws
import Derived.Deep.QuietTactic
import Derived.Deep.RegionHeld3
import Derived.KernelRfl
import Derived.Laws.CopyOwn
import Derived.Lib.Hide
import Derived.Maps.AppendAt
import Derived.WalkKit
import Derived.WalkLawsBesides
import Derived.Test.YtbnnpkcfifejmabGreatChecked
set_option linter.unusedVariables false
namespace Go.Proofs.YtbnnpkcfifejmabGreat
open Go.RowKit
theorem enters {P : Program} {f : FuncId} {fn : Func} {c : Code} (hf : P.funcs[f]? = some fn) (hname : (fn.name == "runtime.NumGoroutine") = false) (hb : fn.body = some c) (args : Array Value) (w : World) :
  (callFunc f args).run P w = .ok (.enter f args) w := by
 have h1 : fn.name ≠ "runtime.NumGoroutine" := by simpa using hname
 simp [callFunc, hf, h1, hb]
theorem Bdrawn {B : Nat} {a w : World} (h : Below B a w) (n : Nat) : Below B a (w.drewN n) := ⟨h.os, h.tape, h.output, h.size, h.block⟩
def Blk (w : World) (g : Nat) (t : TypeId) (cs : Array Value) : Prop := w.heap[g]? = some (.cells cs t (0, 0))
section
variable {w w' : World} {g : Nat} {t : TypeId} {cs : Array Value}
theorem Blk.lt (h : Blk w g t cs) : g < w.heap.size := lt_of_block h
theorem Blk.cell (h : Blk w g t cs) (i : Nat) : w.cell? ⟨g, i, none⟩ = cs[i]? := cell_of_row w g i cs t (0, 0) h
theorem Blk.frozen (h : Blk w g t cs) (i : Nat) : w.frozen? ⟨g, i, none⟩ = false := by
 unfold Blk at h
 simp [World.frozen?, h]
theorem Blk.new (w : World) (t : TypeId) (cs : Array Value) : Blk (w.alloc (.cells cs t)) w.heap.size t cs := heap_alloc_new w _
theorem Blk.drew (h : Blk w g t cs) : Blk w.drew g t cs := h
theorem Blk.drewN (h : Blk w g t cs) (n : Nat) : Blk (w.drewN n) g t cs := h
theorem Blk.alloc (h : Blk w g t cs) (o : Obj) : Blk (w.alloc o) g t cs := (Below.heap_alloc w o g h.lt).trans h
theorem Blk.set_ (h : Blk w g t cs) (i : Nat) (u : Value) : Blk (w.setCell ⟨g, i, none⟩ u) g t (cs.setIfInBounds i u) := by
 unfold Blk at h ⊢
 simp [World.setCell, Array.getElem?_modify, h]
theorem Blk.far (h : Blk w g t cs) {p : Addr} (hp : g ≠ p.block) (u : Value) : Blk (w.setCell p u) g t cs := (Below.heap_setCell w p u g hp).trans h
theorem Blk.below {B : Nat} (h : Blk w g t cs) (hb : Below B w w') (hg : g < B) : Blk w' g t cs := (hb.block g hg).trans h
theorem Blk.grown {row : Option Nat} (h : Blk w g t cs) (hb : w.grownBy w' row) (hg : some g ≠ row) : Blk w' g t cs := (hb.block g h.lt hg).trans h
end
def Ints (k : IntKind) (w : World) (A : Option Addr) (zs : List Int) : Prop :=
 ∀ j, j < zs.length → ∃ b off, A = some ⟨b, off, none⟩ ∧ b < w.heap.size ∧ w.cell? ⟨b, off + j, none⟩ = some (.int k (zs.getD j 0))
section
variable {k : IntKind} {w w' : World} {A : Option Addr} {zs : List Int}
theorem Ints.nil : Ints k w A [] := fun j hj => by simp at hj
theorem Ints.below {B : Nat} (h : Ints k w A zs) (hb : Below B w w') (hB : w.heap.size ≤ B) : Ints k w' A zs := fun j hj => by
 obtain ⟨b, off, e, hl, hc⟩ := h j hj
 exact ⟨b, off, e, Nat.lt_of_lt_of_le hl hb.size, (hb.cell (p := ⟨b, off + j, none⟩) (Nat.lt_of_lt_of_le hl hB)).trans hc⟩
theorem Ints.alloc (h : Ints k w A zs) (o : Obj) : Ints k (w.alloc o) A zs := h.below ((Below.refl _ _).alloc (Nat.le_refl _) o) (Nat.le_refl _)
theorem Ints.drew (h : Ints k w A zs) : Ints k w.drew A zs := h
theorem Ints.drewN (h : Ints k w A zs) (n : Nat) : Ints k (w.drewN n) A zs := h
theorem Ints.of_row {b off : Nat} (hc : ∀ j, j < zs.length → w.cell? ⟨b, off + j, none⟩ = some (.int k (zs.getD j 0))) : Ints k w (some ⟨b, off, none⟩) zs :=
 fun j hj => ⟨b, off, rfl, World.block_lt_of_cell? _ _ (hc j hj), hc j hj⟩
end
theorem ret_int {k : IntKind} {a b : Int} (h : a = b) : Ending.returned (.int k a) = .returned (.int k b) := by rw [h]
theorem ret_bool {a b : Bool} (h : a = b) : Ending.returned (.bool a) = .returned (.bool b) := by rw [h]
theorem Ints.of_came {k : IntKind} {w : World} {a : Option Addr} {len cap : Nat} {zs : List Int}
  (h : (a = none ∧ len = 0 ∧ cap = 0 ∧ zs = []) ∨ ∃ x, a = some x ∧ len ≤ cap ∧ cap ≤ maxLen ∧ zs.length = cap ∧ (∀ i, i < zs.length → w.cell? (x.add i) = some (.int k (zs.getD i 0))) ∧ ∀ n ∈ zs, (Lit.int k n).wf = true) :
  Ints k w a (zs.take len) ∧ (zs.take len).length = len ∧ (∀ n ∈ zs.take len, (Lit.int k n).wf = true) ∧ len ≤ maxLen := by
 rcases h with ⟨rfl, rfl, rfl, rfl⟩ | ⟨x, rfl, hl, hm, hz, hc, hw⟩
 ·exact ⟨Ints.nil, rfl, by simp, by simp⟩
 ·refine ⟨fun j hj => ?_, by simp; omega, fun n hn => hw n (List.mem_of_mem_take hn), by omega⟩
  have hj' : j < len := by simp at hj; omega
  have hc' := hc j (by omega)
  obtain ⟨b, off, spot⟩ := x
  have hs : spot = none := by simpa [Addr.add] using World.cell?_spot (hc 0 (by omega))
  subst hs
  have hc2 : w.cell? ⟨b, off + j, none⟩ = some (.int k (zs.getD j 0)) := by
   by_cases h0 : j = 0
   ·subst h0; simpa [Addr.add] using hc'
   ·simpa [Addr.add, h0] using hc'
  refine ⟨b, off, rfl, World.block_lt_of_cell? _ _ hc2, ?_⟩
  rw [hc2]
  have e : (zs.take len).getD j 0 = zs.getD j 0 := by simp [List.getD_eq_getElem?_getD, hj']
  rw [e]
end Go.Proofs.YtbnnpkcfifejmabGreat
namespace Go.Proofs.YtbnnpkcfifejmabGreat
open Go.RowKit
theorem wf_bd {n : Int} (h : (Lit.int .i64 n).wf = true) : -9223372036854775808 ≤ n ∧ n ≤ 9223372036854775807 := by
 have hmin : IntKind.i64.min = -9223372036854775808 := rfl
 have hmax : IntKind.i64.max = 9223372036854775807 := rfl
 simp only [Lit.wf, Bool.and_eq_true, decide_eq_true_eq] at h
 omega
theorem wf_bd8 {n : Int} (h : (Lit.int .u8 n).wf = true) : 0 ≤ n ∧ n ≤ 255 := by
 have hmin : IntKind.u8.min = 0 := rfl
 have hmax : IntKind.u8.max = 255 := rfl
 simp only [Lit.wf, Bool.and_eq_true, decide_eq_true_eq] at h
 omega
theorem ints_came {k : IntKind} {w : World} {a : Option Addr} {len cap : Nat} {zs : List Int}
  (h : (a = none ∧ len = 0 ∧ cap = 0 ∧ zs = []) ∨ ∃ x, a = some x ∧ len ≤ cap ∧ cap ≤ maxLen ∧ zs.length = cap ∧ (∀ i, i < zs.length → w.cell? (x.add i) = some (.int k (zs.getD i 0))) ∧ ∀ n ∈ zs, (Lit.int k n).wf = true) :
  ∃ ys : List Int, ys.length = len ∧ ys.length ≤ 9223372036854775807 ∧ Ints k w a ys ∧ ∀ n ∈ ys, (Lit.int k n).wf = true := by
 obtain ⟨h1, h2, h3, h4⟩ := Ints.of_came h
 exact ⟨zs.take len, h2, by rw [h2]; unfold maxLen at h4; omega, h1, h3⟩
end Go.Proofs.YtbnnpkcfifejmabGreat
namespace Go.Proofs.YtbnnpkcfifejmabGreat
open Go.RowKit
theorem Ints.of_own {k : IntKind} {w : World} {base : Nat} {e : TypeId} {v : Value} {n : Nat} {zs : List Int} (h : w.ownsRow base e 1 v n (zs.map (Value.int k))) :
  ∃ A c, v = .slice A zs.length c ∧ n = zs.length ∧ Ints k w A zs := by
 have hn : zs.length = n := by have := h.1; simpa using this
 subst hn
 rcases h.2 with ⟨rfl, h0⟩ | ⟨g, cap, cur, rfl, hb, hh, r1, r2, r3, r4⟩
 ·have : zs = [] := List.eq_nil_of_length_eq_zero h0
  subst this
  exact ⟨none, 0, rfl, rfl, Ints.nil⟩
 ·refine ⟨_, cap, rfl, rfl, Ints.of_row fun j hj => ?_⟩
  rw [Nat.zero_add, h.cellAt j (by simpa using hj)]
  simp [hj]
theorem one_new (w : World) (t : TypeId) (v : Value) : ∀ (j : Nat) (u : Value), [v][j]? = some u → (w.alloc (.cells #[v] t)).cell? (Addr.add ⟨w.heap.size, 0, none⟩ j) = some u := by
 intro j u hj
 match j, hj with
 | 0, hj => simp at hj; subst hj; simp [Addr.add]
theorem one_new2 (w : World) (o : Obj) (t : TypeId) (v : Value) : ∀ (j : Nat) (u : Value), [v][j]? = some u → ((w.alloc o).alloc (.cells #[v] t)).cell? (Addr.add ⟨w.heap.size + 1, 0, none⟩ j) = some u := by
 have := one_new (w.alloc o) t v
 rw [World.size_alloc] at this
 exact this
theorem run_string_of {P : Program} {w : World} {A : Option Addr} {zs : List Int} (c : Nat) (src e dst : TypeId) (hs : P.underlying src = some (.slice e)) (he : P.underlying e = some (.int .u8)) (hd : P.underlying dst = some .string) (h : Ints .u8 w A zs) :
  (convert src dst (.slice A zs.length c)).run P w = .ok (.string (strOfNums zs)) w := by
 rcases zs with _ | ⟨z, r⟩
 ·rcases A with _ | a
  ·exact run_convert_bytes_nil w src e hs he 0 c dst hd
  ·rw [run_convert_bytes_string w src dst e _ _ c hs he hd]
   exact run_bytesToString w a 0 c [] (run_loadCells_list (P := P) w a [] (fun j v hj => by simp at hj))
 ·obtain ⟨b, off, rfl, hb, _⟩ := h 0 (by simp)
  refine run_convert_bytes_arg w src e hs he b off _ c (z :: r) rfl (fun i hi => ?_) dst hd
  obtain ⟨b', off', e', _, hc⟩ := h i hi
  injection e' with e'
  injection e' with e1 e2
  subst e1; subst e2
  exact hc
theorem strOfNums_append (a b : List Int) : strOfNums (a ++ b) = strOfNums a ++ strOfNums b := by
 unfold strOfNums
 rw [List.map_append, ByteArray.mk_append_mk]
theorem strOfNums_beq (a b : List Int) (h : a = b) : ((strOfNums a).toList == (strOfNums b).toList) = true := by subst h; simp
theorem wf_u8 {n : Int} (h : 0 ≤ n ∧ n ≤ 255) : (Lit.int .u8 n).wf = true := by
 have hmin : IntKind.u8.min = 0 := rfl
 have hmax : IntKind.u8.max = 255 := rfl
 simp only [Lit.wf, Bool.and_eq_true, decide_eq_true_eq]
 omega
theorem quiet_same {P : Program} {f : FuncId} {args : Array Value} {w : World} {n : Nat} {v : Value}
  (h : Calls P f args (w.drewN n) fun e w' => e = .returned v ∧ w.drewN n = w') : Calls P f args (w.drewN n) fun e w'' => e = .returned v ∧ ∃ m, w'' = w.drewN m :=
 h.mono fun _ _ ⟨he, hm⟩ => ⟨he, n, hm.symm⟩
theorem quiet_drawn {P : Program} {f : FuncId} {args : Array Value} {w : World} {n : Nat} {v : Value}
  (h : Calls P f args (w.drewN n) fun e w' => e = .returned v ∧ ∃ m, w' = (w.drewN n).drewN m) : Calls P f args (w.drewN n) fun e w'' => e = .returned v ∧ ∃ m, w'' = w.drewN m :=
 h.mono fun _ _ ⟨he, m, hm⟩ => ⟨he, n + m, hm.trans (World.drewN_drewN _ _ _)⟩
end Go.Proofs.YtbnnpkcfifejmabGreat
namespace Go.Proofs.YtbnnpkcfifejmabGreat
namespace Safe
def top : Int := 1099511627776
theorem top_eq : top = 1099511627776 := rfl
def ok (n : Int) : Bool := decide (0 ≤ n ∧ n ≤ 1099511627776)
theorem ok_iff (n : Int) : ok n = true ↔ 0 ≤ n ∧ n ≤ 1099511627776 := by simp [ok]
def sum : List Int → Int
 | [] => 0
 | x :: r => x + sum r
def prod : List Int → Int
 | [] => 1
 | x :: r => x * prod r
theorem sum_append (a b : List Int) : sum (a ++ b) = sum a + sum b := by
 induction a with
 | nil => simp [sum]
 | cons x r ih => simp [sum, ih]; omega
theorem prod_append (a b : List Int) : prod (a ++ b) = prod a * prod b := by
 induction a with
 | nil => simp [prod]
 | cons x r ih => simp [prod, ih, Int.mul_assoc]
theorem sum_reverse (a : List Int) : sum a.reverse = sum a := by
 induction a with
 | nil => rfl
 | cons x r ih => simp [sum_append, sum, ih]; omega
theorem prod_reverse (a : List Int) : prod a.reverse = prod a := by
 induction a with
 | nil => rfl
 | cons x r ih => simp [prod_append, prod, ih, Int.mul_comm]
theorem sum_take_succ (zs : List Int) (k : Nat) (h : k < zs.length) : sum (zs.take (k + 1)) = sum (zs.take k) + zs[k] := by
 rw [List.take_succ_eq_append_getElem h, sum_append]; simp [sum]
theorem prod_take_succ (zs : List Int) (k : Nat) (h : k < zs.length) : prod (zs.take (k + 1)) = prod (zs.take k) * zs[k] := by
 rw [List.take_succ_eq_append_getElem h, prod_append]; simp [prod]
theorem sum_nonneg (zs : List Int) (h : ∀ x ∈ zs, 0 ≤ x) : 0 ≤ sum zs := by
 induction zs with
 | nil => simp [sum]
 | cons x r ih =>
  have h1 := h x (by simp)
  have h2 := ih (fun y hy => h y (by simp [hy]))
  simp [sum]; omega
theorem prod_pos (zs : List Int) (h : ∀ x ∈ zs, 1 ≤ x) : 1 ≤ prod zs := by
 induction zs with
 | nil => simp [prod]
 | cons x r ih =>
  have h1 := h x (by simp)
  have h2 := ih (fun y hy => h y (by simp [hy]))
  have h3 : 0 < x * prod r := Int.mul_pos (by omega) (by omega)
  simp [prod]; omega
theorem sum_take_le (zs : List Int) (k : Nat) (h : ∀ x ∈ zs, 0 ≤ x) : sum (zs.take k) ≤ sum zs := by
 have e : sum zs = sum (zs.take k) + sum (zs.drop k) := by rw [← sum_append, List.take_append_drop]
 have := sum_nonneg (zs.drop k) (fun x hx => h x (List.mem_of_mem_drop hx))
 omega
theorem prod_take_le (zs : List Int) (k : Nat) (h : ∀ x ∈ zs, 1 ≤ x) : prod (zs.take k) ≤ prod zs := by
 have e : prod zs = prod (zs.take k) * prod (zs.drop k) := by rw [← prod_append, List.take_append_drop]
 have h1 := prod_pos (zs.drop k) (fun x hx => h x (List.mem_of_mem_drop hx))
 have h2 := prod_pos (zs.take k) (fun x hx => h x (List.mem_of_mem_take hx))
 rw [e]
 have : prod (zs.take k) * 1 ≤ prod (zs.take k) * prod (zs.drop k) := Int.mul_le_mul_of_nonneg_left h1 (by omega)
 omega
def add (zs : List Int) : Int × Int := if zs.all ok then (if sum zs ≤ top then (sum zs, 0) else (0, 17)) else (0, 11)
def mul (zs : List Int) : Int × Int := if zs.all ok then (if zs.all (· != 0) then (if prod zs ≤ top then (prod zs, 0) else (0, 17)) else (0, 0)) else (0, 11)
theorem add_reverse (zs : List Int) : add zs.reverse = add zs := by simp [add, sum_reverse]
theorem mul_reverse (zs : List Int) : mul zs.reverse = mul zs := by simp [mul, prod_reverse]
theorem all_getD {p : Int → Bool} {zs : List Int} (h : ∀ j, j < zs.length → p (zs.getD j 0) = true) : zs.all p = true := by
 rw [List.all_eq_true]
 intro x hx
 obtain ⟨i, hi, rfl⟩ := List.getElem_of_mem hx
 have := h i hi
 simpa [hi] using this
theorem all_of {p : Int → Bool} {zs : List Int} (h : zs.all p = true) : ∀ j, j < zs.length → p (zs.getD j 0) = true := by
 intro j hj
 rw [List.all_eq_true] at h
 have := h zs[j] (List.getElem_mem hj)
 simpa [hj] using this
theorem not_all {p : Int → Bool} {zs : List Int} {j : Nat} (hj : j < zs.length) (h : p (zs.getD j 0) = false) : zs.all p = false := by
 rw [Bool.eq_false_iff]
 intro h2
 rw [all_of h2 j hj] at h
 cases h
theorem nonneg_of {zs : List Int} (h : zs.all ok = true) : ∀ x ∈ zs, 0 ≤ x := fun x hx => by
 rw [List.all_eq_true] at h
 exact ((ok_iff x).1 (h x hx)).1
theorem pos_of {zs : List Int} (h : zs.all ok = true) (h0 : zs.all (· != 0) = true) : ∀ x ∈ zs, 1 ≤ x := fun x hx => by
 rw [List.all_eq_true] at h h0
 have h1 := ((ok_iff x).1 (h x hx)).1
 have h2 := h0 x hx
 simp at h2
 omega
theorem add_range {zs : List Int} (h : zs.all ok = false) : add zs = (0, 11) := by simp [add, h]
theorem add_big {zs : List Int} (h : zs.all ok = true) (k : Nat) (hs : top < sum (zs.take k)) : add zs = (0, 17) := by
 have := sum_take_le zs k (nonneg_of h)
 rw [add, if_pos h, if_neg (by omega)]
theorem add_sum {zs : List Int} (h : zs.all ok = true) (hs : sum zs ≤ top) : add zs = (sum zs, 0) := by
 rw [add, if_pos h, if_pos hs]
theorem mul_range {zs : List Int} (h : zs.all ok = false) : mul zs = (0, 11) := by simp [mul, h]
theorem mul_zero {zs : List Int} (h : zs.all ok = true) (h0 : zs.all (· != 0) = false) : mul zs = (0, 0) := by simp [mul, h, h0]
theorem mul_big {zs : List Int} (h : zs.all ok = true) (h0 : zs.all (· != 0) = true) (k : Nat) (hs : top < prod (zs.take k)) : mul zs = (0, 17) := by
 have := prod_take_le zs k (pos_of h h0)
 rw [mul, if_pos h, if_pos h0, if_neg (by omega)]
theorem mul_prod {zs : List Int} (h : zs.all ok = true) (h0 : zs.all (· != 0) = true) (hs : prod zs ≤ top) : mul zs = (prod zs, 0) := by
 rw [mul, if_pos h, if_pos h0, if_pos hs]
theorem add_bd (zs : List Int) : 0 ≤ (add zs).1 ∧ (add zs).1 ≤ 1099511627776 ∧ ((add zs).2 = 0 ∨ (add zs).2 = 11 ∨ (add zs).2 = 17) := by
 unfold add
 split
 ·rename_i h
  have := sum_nonneg zs (nonneg_of h)
  split
  ·rename_i h2
   rw [top_eq] at h2
   exact ⟨by simpa using this, by simpa using h2, by simp⟩
  ·simp
 ·simp
theorem mul_bd (zs : List Int) : 0 ≤ (mul zs).1 ∧ (mul zs).1 ≤ 1099511627776 ∧ ((mul zs).2 = 0 ∨ (mul zs).2 = 11 ∨ (mul zs).2 = 17) := by
 unfold mul
 split
 ·rename_i h
  split
  ·rename_i h0
   have := prod_pos zs (pos_of h h0)
   split
   ·rename_i h2
    rw [top_eq] at h2
    exact ⟨by simp; omega, by simpa using h2, by simp⟩
   ·simp
  ·simp
 ·simp
end Safe
end Go.Proofs.YtbnnpkcfifejmabGreat
namespace Go.Proofs.YtbnnpkcfifejmabGreat
namespace Safe
def maxTo (m : Int) : List Int → Int
 | [] => m
 | x :: r => maxTo (if m < x then x else m) r
def max (zs : List Int) : Int := maxTo 0 zs
theorem maxTo_append (a b : List Int) : ∀ m, maxTo m (a ++ b) = maxTo (maxTo m a) b := by
 induction a with
 | nil => intro m; rfl
 | cons x r ih => intro m; simp [maxTo, ih]
theorem max_take_succ (zs : List Int) (k : Nat) (h : k < zs.length) : max (zs.take (k + 1)) = if max (zs.take k) < zs[k] then zs[k] else max (zs.take k) := by
 rw [List.take_succ_eq_append_getElem h, max, maxTo_append]; rfl
def nroot : Nat → Nat
 | 0 => 0
 | n + 1 => if (nroot n + 1) * (nroot n + 1) ≤ n + 1 then nroot n + 1 else nroot n
theorem nroot_spec (n : Nat) : nroot n * nroot n ≤ n ∧ n < (nroot n + 1) * (nroot n + 1) := by
 induction n with
 | zero => simp [nroot]
 | succ n ih =>
  unfold nroot
  split
  ·rename_i h
   refine ⟨h, ?_⟩
   have : (nroot n + 1 + 1) * (nroot n + 1 + 1) = (nroot n + 1) * (nroot n + 1) + 2 * (nroot n + 1) + 1 := by grind
   omega
  ·rename_i h
   exact ⟨by omega, by omega⟩
theorem nroot_uniq {n k : Nat} (h1 : k * k ≤ n) (h2 : n < (k + 1) * (k + 1)) : k = nroot n := by
 have ⟨h3, h4⟩ := nroot_spec n
 rcases Nat.lt_trichotomy k (nroot n) with h | h | h
 ·have := Nat.mul_le_mul (show k + 1 ≤ nroot n from h) (show k + 1 ≤ nroot n from h)
  omega
 ·exact h
 ·have := Nat.mul_le_mul (show nroot n + 1 ≤ k from h) (show nroot n + 1 ≤ k from h)
  omega
def isqrt (n : Int) : Int := nroot n.toNat
theorem isqrt_nonpos {n : Int} (h : n ≤ 0) : isqrt n = 0 := by
 have : n.toNat = 0 := by omega
 simp [isqrt, this, nroot]
theorem isqrt_uniq {n k : Int} (h0 : 0 ≤ k) (h1 : k * k ≤ n) (h2 : n < (k + 1) * (k + 1)) : k = isqrt n := by
 obtain ⟨m, rfl⟩ := Int.eq_ofNat_of_zero_le h0
 have hn : 0 ≤ n := Int.le_trans (Int.mul_nonneg h0 h0) h1
 obtain ⟨p, rfl⟩ := Int.eq_ofNat_of_zero_le hn
 have e := nroot_uniq (n := p) (k := m) (by exact_mod_cast h1) (by exact_mod_cast h2)
 simp [isqrt, ← e]
theorem isqrt_spec {n : Int} (h : 1 ≤ n) : 1 ≤ isqrt n ∧ isqrt n * isqrt n ≤ n ∧ n < (isqrt n + 1) * (isqrt n + 1) := by
 obtain ⟨p, rfl⟩ := Int.eq_ofNat_of_zero_le (show 0 ≤ n by omega)
 have ⟨h3, h4⟩ := nroot_spec p
 refine ⟨?_, by simpa [isqrt] using (by exact_mod_cast h3), by simpa [isqrt] using (by exact_mod_cast h4)⟩
 rcases Nat.eq_zero_or_pos (nroot p) with h0 | h0
 ·rw [h0] at h4; omega
 ·simp [isqrt]; omega
end Safe
end Go.Proofs.YtbnnpkcfifejmabGreat
namespace Go.Proofs.YtbnnpkcfifejmabGreat
open Go.RowKit
theorem safe_right (n : Int) (w : World) :
  Calls Tryz.prog 126 #[.int .i64 n] w fun e w' => e = .returned (.bool (Safe.ok n)) ∧ w = w' := by
 by_cases h1 : 0 ≤ n
 ·by_cases h2 : n ≤ 1099511627776
  ·go_enter Tryz.func126, Tryz.ntmps126
   go_wp2
   go_ret
   exact ⟨by simp [Safe.ok, h1, h2], rfl⟩
  ·go_enter Tryz.func126, Tryz.ntmps126
   go_wp2
   go_ret
   exact ⟨by simp [Safe.ok, h1, h2], rfl⟩
 ·go_enter Tryz.func126, Tryz.ntmps126
  go_wp2
  go_ret
  exact ⟨by simp [Safe.ok]; omega, rfl⟩
def EvStep (g : Nat) (caps : Array Value) (zs : List Int) (ok : Nat → Bool) (I : Nat → World → Prop) : Prop :=
 ∀ k, k < zs.length → (∀ j, j < k → ok j = true) → ∀ w, I k w → Calls Tryz.prog g (#[.int .i64 (zs.getD k 0)] ++ caps) w fun e w' => e = .returned (.bool (ok k)) ∧ I (k + 1) w'
def EvPost (zs : List Int) (ok : Nat → Bool) (I : Nat → World → Prop) (e : Ending) (w' : World) : Prop :=
 ∃ k, k ≤ zs.length ∧ (∀ j, j < k → ok j = true) ∧ ((k = zs.length ∧ e = .returned (.bool true) ∧ I k w') ∨ (k < zs.length ∧ ok k = false ∧ e = .returned (.bool false) ∧ I (k + 1) w'))
set_option maxHeartbeats 400000 in
theorem safe_every (A : Option Addr) (c g : Nat) (zs : List Int) (caps : Array Value) (ok : Nat → Bool) (I : Nat → World → Prop) (w : World) (hl : zs.length ≤ 9223372036854775807)
  (eg : ∀ args w, (callFunc g args).run Tryz.prog w = .ok (.enter g args) w)
  (hI : ∀ k w, I k w → Ints .i64 w A zs) (hs : EvStep g caps zs ok I) (h0 : I 0 w) :
  Calls Tryz.prog 125 #[.slice A zs.length c, .func (.func g) #[] caps] w (EvPost zs ok I) := by
 have HI := Lib.hid hI
 clear hI
 go_enter Tryz.func125, Tryz.ntmps125
 go_wp2_with fail
 go_loopw [6, 9] (fun x i wr => ∃ k : Nat, k ≤ zs.length ∧ i = .int .i64 k ∧ I k wr ∧ (∀ j, j < k → ok j = true)) (fun _ i _ => zs.length - (intOf i).toNat)
 case atStart => exact ⟨0, Nat.zero_le _, rfl, h0, by intro j hj; omega⟩
 case round =>
  obtain ⟨k, hk, rfl, hik, hok⟩ := hrel
  have HO := Lib.hid hok
  clear hok
  by_cases hlt : k < zs.length
  ·obtain ⟨b, off, rfl, hb, hc⟩ := HI.out k wr hik k hlt
   have hcall := Lib.hid (hs k hlt HO.out wr hik)
   have ez : zs.getD k 0 = zs[k] := by simp [hlt]
   rw [ez] at hcall
   have hcall2 : Hid (Calls Tryz.prog g (#[.int .i64 zs[k]] ++ caps) wr fun e w' => e = .returned (.bool (ok k)) ∧ I (k + 1) w') := hcall
   clear hcall ez
   go_wp2_with fail
   refine hcall2.out.mono ?_
   rintro e w1 ⟨rfl, h1⟩
   cases hkk : ok k
   ·go_wp2_with fail
    go_ret
    exact ⟨k, hk, HO.out, .inr ⟨hlt, hkk, rfl, h1⟩⟩
   ·have HK := Lib.hid hkk
    clear hkk
    go_wp2_with fail
    go_roundw
    case rel => exact ⟨k + 1, by omega, by go_num, h1, fun j hj => by rcases Nat.lt_succ_iff_lt_or_eq.1 hj with h | h; exact HO.out j h; subst h; exact HK.out⟩
    case measure => simp [intOf]; omega
  ·go_wp2_with fail
   go_ret
   exact ⟨k, hk, HO.out, .inl ⟨by omega, rfl, hik⟩⟩
theorem safe_every_pure (A : Option Addr) (c g : Nat) (zs : List Int) (p : Int → Bool) (w : World) (hl : zs.length ≤ 9223372036854775807)
  (eg : ∀ args w, (callFunc g args).run Tryz.prog w = .ok (.enter g args) w)
  (hI : Ints .i64 w A zs) (hs : ∀ n w, Calls Tryz.prog g #[.int .i64 n] w fun e w' => e = .returned (.bool (p n)) ∧ w = w') :
  Calls Tryz.prog 125 #[.slice A zs.length c, .func (.func g) #[] #[]] w fun e w' => e = .returned (.bool (zs.all p)) ∧ w = w' := by
 refine (safe_every A c g zs #[] (fun j => p (zs.getD j 0)) (fun _ wx => w = wx) w hl eg (fun k wx h => by subst h; exact hI) (fun k hk _ wx h => by subst h; exact (hs _ _)) rfl).mono ?_
 rintro e w' ⟨k, hk, hj, h⟩
 rcases h with ⟨h1, he, hw⟩ | ⟨h1, h2, he, hw⟩
 ·subst h1
  exact ⟨by rw [he, Safe.all_getD hj], hw⟩
 ·exact ⟨by rw [he, Safe.not_all h1 h2], hw⟩
theorem enters_right : ∀ args w, (callFunc 126 args).run Tryz.prog w = .ok (.enter 126 args) w := enters Tryz.func126 (by kernel_rfl) rfl
theorem enters_mul1 : ∀ args w, (callFunc 127 args).run Tryz.prog w = .ok (.enter 127 args) w := enters Tryz.func127 (by kernel_rfl) rfl
theorem enters_mul2 : ∀ args w, (callFunc 128 args).run Tryz.prog w = .ok (.enter 128 args) w := enters Tryz.func128 (by kernel_rfl) rfl
theorem safe_mul1 (n : Int) (w : World) :
  Calls Tryz.prog 127 #[.int .i64 n] w fun e w' => e = .returned (.bool (n != 0)) ∧ w = w' := by
 go_enter Tryz.func127, Tryz.ntmps127
 go_wp2_with fail
 go_ret
 exact ⟨rfl, rfl⟩
theorem safe_mul2 (n s : Int) (g : Nat) (w : World) (hb : Blk w g 3 #[.int .i64 s]) (h0 : 1 ≤ s) (h1 : s ≤ 1099511627776) (h2 : 1 ≤ n) (h3 : n ≤ 1099511627776) :
  Calls Tryz.prog 128 #[.int .i64 n, .pointer (some ⟨g, 0, none⟩)] w fun e w' =>
   e = .returned (.bool (decide (s * n ≤ 1099511627776))) ∧ (if s * n ≤ 1099511627776 then w.setCell ⟨g, 0, none⟩ (.int .i64 (s * n)) else w) = w' := by
 have hc := hb.cell 0
 have hf := hb.frozen 0
 simp at hc
 clear hb
 have hq : n ≤ 1099511627776 / s ↔ s * n ≤ 1099511627776 := by rw [Int.le_ediv_iff_mul_le (by omega), Int.mul_comm]
 by_cases hle : s * n ≤ 1099511627776
 ·have hn : n ≤ 1099511627776 / s := hq.2 hle
  have hp : 0 ≤ s * n := Int.mul_nonneg (by omega) (by omega)
  clear hq
  go_enter Tryz.func128, Tryz.ntmps128
  go_wp2_with fail
  go_ret
  exact ⟨by simp, by simp⟩
 ·have hn : 1099511627776 / s < n := by
   rcases Int.lt_or_le (1099511627776 / s) n with h | h
   ·exact h
   ·exact absurd (hq.1 h) hle
  clear hq
  go_enter Tryz.func128, Tryz.ntmps128
  go_wp2_with fail
  go_ret
  exact ⟨by simp, by simp⟩
end Go.Proofs.YtbnnpkcfifejmabGreat
namespace Go.Proofs.YtbnnpkcfifejmabGreat
open Go.RowKit
def MulI (B : Nat) (w : World) (zs : List Int) (k : Nat) (wx : World) : Prop := (∃ s : Int, (Safe.prod (zs.take k) ≤ Safe.top → s = Safe.prod (zs.take k)) ∧ Blk wx B 3 #[.int .i64 s]) ∧ Below B w wx
set_option maxHeartbeats 400000 in
theorem safe_mul (A : Option Addr) (c : Nat) (zs : List Int) (w : World) (hl : zs.length ≤ 9223372036854775807) (hI : Ints .i64 w A zs) :
  Calls Tryz.prog 93 #[.slice A zs.length c] w fun e w' => e = .returned (.tuple #[.int .i64 (Safe.mul zs).1, .int .i64 (Safe.mul zs).2]) ∧ Below w.heap.size w w' := by
 have HI := Lib.hid hI
 clear hI
 cases hall : zs.all Safe.ok
 ·have hfin := Lib.hid (Safe.mul_range hall)
  have HA := Lib.hid hall
  clear hall
  go_enter Tryz.func93, Tryz.ntmps93
  go_wp2_with fail
  refine (safe_every_pure A c 126 zs Safe.ok _ hl enters_right HI.out safe_right).mono ?_
  rintro e w' ⟨rfl, rfl⟩
  rw [HA.out]
  go_wp2_with fail
  go_ret2
  exact ⟨by rw [hfin.out]; rfl, Below.refl _ _⟩
 ·have HA := Lib.hid hall
  clear hall
  cases hz : zs.all (· != 0)
  ·have hfin := Lib.hid (Safe.mul_zero HA.out hz)
   have HZ := Lib.hid hz
   clear hz
   go_enter Tryz.func93, Tryz.ntmps93
   go_wp2_with fail
   refine (safe_every_pure A c 126 zs Safe.ok _ hl enters_right HI.out safe_right).mono ?_
   rintro e w' ⟨rfl, rfl⟩
   rw [HA.out]
   go_wp2_with fail
   refine (safe_every_pure A c 127 zs (· != 0) _ hl enters_mul1 HI.out safe_mul1).mono ?_
   rintro e w' ⟨rfl, rfl⟩
   rw [HZ.out]
   go_wp2_with fail
   go_ret2
   exact ⟨by rw [hfin.out]; rfl, Below.refl _ _⟩
  ·have HZ := Lib.hid hz
   clear hz
   go_enter Tryz.func93, Tryz.ntmps93
   go_wp2_with fail
   refine (safe_every_pure A c 126 zs Safe.ok _ hl enters_right HI.out safe_right).mono ?_
   rintro e w' ⟨rfl, rfl⟩
   rw [HA.out]
   go_wp2_with fail
   refine (safe_every_pure A c 127 zs (· != 0) _ hl enters_mul1 HI.out safe_mul1).mono ?_
   rintro e w' ⟨rfl, rfl⟩
   rw [HZ.out]
   go_wp2_with fail
   refine (safe_every A c 128 zs #[.pointer (some ⟨w.heap.size, 0, none⟩)] (fun j => decide (Safe.prod (zs.take (j + 1)) ≤ Safe.top)) (MulI w.heap.size w zs) _ hl enters_mul2 ?h1 ?h2 ?h3).mono ?_
   case h1 => exact fun k wx h => HI.out.below h.2 (Nat.le_refl _)
   case h2 =>
    intro k hk hok wx hik
    have hb : Safe.prod (zs.take k) ≤ Safe.top := by
     rcases k with _ | k
     ·simp [Safe.prod, Safe.top_eq]
     ·have := hok k (by omega)
      simpa using this
    have hz := (Safe.ok_iff _).1 (Safe.all_of HA.out k hk)
    have hz1 : 1 ≤ zs.getD k 0 := Safe.pos_of HA.out HZ.out _ (by simp [hk])
    have h0 := Safe.prod_pos (zs.take k) (fun x hx => Safe.pos_of HA.out HZ.out x (List.mem_of_mem_take hx))
    obtain ⟨⟨s, hs, hblk⟩, hbel⟩ := hik
    obtain rfl := hs hb
    clear hs
    refine (safe_mul2 (zs.getD k 0) (Safe.prod (zs.take k)) w.heap.size wx hblk h0 hb hz1 hz.2).mono ?_
    rintro e w' ⟨rfl, rfl⟩
    have e1 : zs.getD k 0 = zs[k] := by simp [hk]
    have e2 := Safe.prod_take_succ zs k hk
    refine ⟨?_, ?_, ?_⟩
    ·show _ = Ending.returned (.bool (decide (Safe.prod (zs.take (k + 1)) ≤ Safe.top)))
     rw [e1, e2, Safe.top_eq]
    ·rw [e1, e2]
     by_cases h : Safe.prod (zs.take k) * zs[k] ≤ 1099511627776
     ·rw [if_pos h]
      exact ⟨_, fun _ => rfl, hblk.set_ 0 _⟩
     ·rw [if_neg h]
      exact ⟨_, fun h' => absurd h' h, hblk⟩
    ·split
     ·exact hbel.setCell (Nat.le_refl _) _
     ·exact hbel
   case h3 => exact ⟨⟨1, fun _ => by simp [Safe.prod], by simpa using Blk.new w 3 #[.int .i64 1]⟩, (Below.refl _ _).alloc (Nat.le_refl _) _⟩
   rintro e w' ⟨k, hk, hj, h⟩
   rcases h with ⟨rfl, rfl, ⟨s, hs, hb⟩, hbel⟩ | ⟨h1, h2, rfl, hb, hbel⟩
   ·have hp : Safe.prod zs ≤ Safe.top := by
     rcases hz : zs.length with _ | n
     ·have : zs = [] := List.eq_nil_of_length_eq_zero hz
      subst this; simp [Safe.prod, Safe.top_eq]
     ·have := hj n (by omega)
      simp only [← hz, List.take_length] at this
      simpa using this
    rw [List.take_length] at hs
    obtain rfl := hs hp
    have hc := hb.cell 0
    simp at hc
    have hfin := Lib.hid (Safe.mul_prod HA.out HZ.out hp)
    clear hj hb hp hs
    go_wp2_with fail
    go_ret2
    exact ⟨by rw [hfin.out]; rfl, hbel⟩
   ·have hfin := Lib.hid (Safe.mul_big HA.out HZ.out (k + 1) (by simpa using h2))
    clear hj hb h2
    go_wp2_with fail
    go_ret2
    exact ⟨by rw [hfin.out]; rfl, hbel⟩
end Go.Proofs.YtbnnpkcfifejmabGreat
namespace Go.Proofs.YtbnnpkcfifejmabGreat
theorem byte_info : (Tryz.prog.info? 5).map (fun i => (i.zero, i.size, i.bytes)) = some (some (.int .u8 0), 1, 1) := by kernel_rfl
theorem int_info : (Tryz.prog.info? 3).map (fun i => (i.zero, i.size, i.bytes)) = some (some (.int .i64 0), 1, 8) := by kernel_rfl
theorem fix_info : (Tryz.prog.info? 43).map (fun i => (i.zero, i.size, i.bytes)) = some (some (.int .i64 0), 1, 8) := by kernel_rfl
theorem i64_info : (Tryz.prog.info? 2).map (fun i => (i.zero, i.size, i.bytes)) = some (some (.int .i64 0), 1, 8) := by kernel_rfl
theorem ten_info : (Tryz.prog.info? 30).map (fun i => (i.zero, i.size, i.bytes)) = some (some (.agg #[.slice none 0 0, .slice none 0 0]), 2, 48) := by kernel_rfl
end Go.Proofs.YtbnnpkcfifejmabGreat
namespace Go.Proofs.YtbnnpkcfifejmabGreat
open Go.RowKit
namespace Sh
def side (n : Int) : Bool := decide (1 ≤ n ∧ n ≤ 1024)
def right (zs : List Int) : Bool := decide (1 ≤ zs.length ∧ zs.length ≤ 4) && zs.all side && decide (Safe.prod zs ≤ 65536)
def size (zs : List Int) : Int × Int := if right zs then (Safe.prod zs, 0) else (0, 20)
theorem side_iff (n : Int) : side n = true ↔ 1 ≤ n ∧ n ≤ 1024 := by simp [side]
theorem right_len {zs : List Int} (h : ¬ (1 ≤ zs.length ∧ zs.length ≤ 4)) : right zs = false := by simp [right]; intro a b; omega
theorem right_side {zs : List Int} (h : zs.all side = false) : right zs = false := by simp [right, h]
theorem right_prod {zs : List Int} (h1 : 1 ≤ zs.length ∧ zs.length ≤ 4) (h : zs.all side = true) : right zs = decide (Safe.prod zs ≤ 65536) := by simp [right, h, h1]
theorem all_safe {zs : List Int} (h : zs.all side = true) : zs.all Safe.ok = true ∧ zs.all (· != 0) = true := by
 rw [List.all_eq_true] at h
 refine ⟨List.all_eq_true.2 fun x hx => ?_, List.all_eq_true.2 fun x hx => ?_⟩
 ·have := (side_iff x).1 (h x hx)
  exact (Safe.ok_iff x).2 (by omega)
 ·have := (side_iff x).1 (h x hx)
  simp; omega
theorem prod_le {zs : List Int} (h : ∀ x ∈ zs, 1 ≤ x ∧ x ≤ 1024) (hl : zs.length ≤ 4) : Safe.prod zs ≤ 1099511627776 := by
 have h1 : ∀ x ∈ zs, 1 ≤ x := fun x hx => (h x hx).1
 match zs, hl with
 | [], _ => simp [Safe.prod]
 | [a], _ => have := h a (by simp); simp [Safe.prod]; omega
 | [a, b], _ =>
  have ha := h a (by simp); have hb := h b (by simp)
  simp only [Safe.prod, Int.mul_one]
  have := Int.mul_le_mul ha.2 hb.2 (by omega) (by omega)
  omega
 | [a, b, c], _ =>
  have ha := h a (by simp); have hb := h b (by simp); have hc := h c (by simp)
  simp only [Safe.prod, Int.mul_one]
  have h2 := Int.mul_le_mul hb.2 hc.2 (by omega) (by omega)
  have h3 := Int.mul_le_mul ha.2 h2 (Int.mul_nonneg (by omega) (by omega)) (by omega)
  omega
 | [a, b, c, d], _ =>
  have ha := h a (by simp); have hb := h b (by simp); have hc := h c (by simp); have hd := h d (by simp)
  simp only [Safe.prod, Int.mul_one]
  have h1 := Int.mul_le_mul hc.2 hd.2 (by omega) (by omega)
  have h2 := Int.mul_le_mul hb.2 h1 (Int.mul_nonneg (by omega) (by omega)) (by omega)
  have h3 := Int.mul_le_mul ha.2 h2 (Int.mul_nonneg (by omega) (Int.mul_nonneg (by omega) (by omega))) (by omega)
  omega
 | _ :: _ :: _ :: _ :: _ :: _, hl => simp at hl
theorem all_iff {zs : List Int} (h : zs.all side = true) : ∀ x ∈ zs, 1 ≤ x ∧ x ≤ 1024 := fun x hx => (side_iff x).1 (List.all_eq_true.1 h x hx)
theorem mul_ok {zs : List Int} (h1 : zs.length ≤ 4) (h : zs.all side = true) : Safe.mul zs = (Safe.prod zs, 0) :=
 Safe.mul_prod (all_safe h).1 (all_safe h).2 (prod_le (all_iff h) h1)
theorem right_mul {zs : List Int} (h : right zs = true) : Safe.mul zs = (Safe.prod zs, 0) ∧ zs.length ≤ 4 ∧ 1 ≤ zs.length ∧ (∀ x ∈ zs, 1 ≤ x ∧ x ≤ 1024) ∧ 1 ≤ Safe.prod zs ∧ Safe.prod zs ≤ 65536 := by
 simp [right] at h
 have h2 : zs.all side = true := List.all_eq_true.2 h.1.2
 exact ⟨mul_ok h.1.1.2 h2, h.1.1.2, by omega, all_iff h2, Safe.prod_pos zs (fun x hx => (all_iff h2 x hx).1), h.2⟩
end Sh
set_option maxHeartbeats 1000000 in
theorem shape_right (A : Option Addr) (c : Nat) (zs : List Int) (w : World) (hl : zs.length ≤ 9223372036854775807) (hI : Ints .i64 w A zs) :
  Calls Tryz.prog 51 #[.slice A zs.length c] w fun e w' => e = .returned (.bool (Sh.right zs)) ∧ Below w.heap.size w w' := by
 have HI := Lib.hid hI
 clear hI
 by_cases h1 : zs.length < 1
 ·have HS := Lib.hid (Sh.right_len (zs := zs) (by omega))
  go_enter Tryz.func51, Tryz.ntmps51
  go_wp2_with fail
  go_ret
  exact ⟨by rw [HS.out]; rfl, Below.refl _ _⟩
 ·by_cases h4 : 4 < zs.length
  ·have HS := Lib.hid (Sh.right_len (zs := zs) (by omega))
   go_enter Tryz.func51, Tryz.ntmps51
   go_wp2_with fail
   go_ret
   exact ⟨by rw [HS.out]; rfl, Below.refl _ _⟩
  ·go_enter Tryz.func51, Tryz.ntmps51
   go_wp2_with fail
   go_loopw [17] (fun i wr => wr = w ∧ ∃ k : Nat, k ≤ zs.length ∧ i = .int .i64 k ∧ ∀ x ∈ zs.take k, Sh.side x = true) (fun i _ => zs.length - (intOf i).toNat)
   case atStart => exact ⟨rfl, 0, Nat.zero_le _, rfl, by simp⟩
   case round =>
    obtain ⟨rfl, k, hk, rfl, hall⟩ := hrel
    have HA := Lib.hid hall
    clear hall
    by_cases hlt : k < zs.length
    ·obtain ⟨b, off, rfl, hb, hc⟩ := HI.out k hlt
     by_cases hx1 : zs[k] < 1
     ·have HS := Lib.hid (Sh.right_side (zs := zs) (by simp [List.all_eq_false]; exact ⟨zs[k], List.getElem_mem hlt, by simp [Sh.side]; omega⟩))
      go_wp2_with fail
      go_ret
      exact ⟨by rw [HS.out]; rfl, Below.refl _ _⟩
     ·by_cases hx2 : 1024 < zs[k]
      ·have HS := Lib.hid (Sh.right_side (zs := zs) (by simp [List.all_eq_false]; exact ⟨zs[k], List.getElem_mem hlt, by simp [Sh.side]; omega⟩))
       go_wp2_with fail
       go_ret
       exact ⟨by rw [HS.out]; rfl, Below.refl _ _⟩
      ·go_wp2_with fail
       go_roundw
       case rel => exact ⟨trivial, k + 1, by omega, by go_num, fun x hx => by
        rw [List.take_succ_eq_append_getElem hlt, List.mem_append] at hx
        rcases hx with hx | hx
        ·exact HA.out x hx
        ·rw [List.mem_singleton] at hx; subst hx; exact (Sh.side_iff _).2 ⟨by omega, by omega⟩⟩
       case measure => simp [intOf]; omega
    ·obtain rfl : k = zs.length := by omega
     rw [List.take_length] at HA
     have hall : zs.all Sh.side = true := List.all_eq_true.2 HA.out
     have HM := Lib.hid (Sh.mul_ok (by omega) hall)
     have HP := Lib.hid (Sh.right_prod (by omega) hall)
     clear hall HA
     go_wp2_with fail
     refine (safe_mul A c zs _ hl HI.out).mono ?_
     rintro e w1 ⟨rfl, hb1⟩
     rw [HM.out]
     by_cases hp : Safe.prod zs ≤ 65536
     ·go_wp2_with fail
      go_ret
      exact ⟨by rw [HP.out]; simp [hp], hb1⟩
     ·go_wp2_with fail
      go_ret
      exact ⟨by rw [HP.out]; simp, hb1⟩
set_option maxHeartbeats 1000000 in
theorem shape_size (A : Option Addr) (c : Nat) (zs : List Int) (w : World) (hl : zs.length ≤ 9223372036854775807) (hI : Ints .i64 w A zs) :
  Calls Tryz.prog 56 #[.slice A zs.length c] w fun e w' => e = .returned (.tuple #[.int .i64 (Sh.size zs).1, .int .i64 (Sh.size zs).2]) ∧ Below w.heap.size w w' := by
 have HI := Lib.hid hI
 clear hI
 cases hr : Sh.right zs
 ·have HS := Lib.hid (show Sh.size zs = (0, 20) by simp [Sh.size, hr])
  have HR := Lib.hid hr
  clear hr
  go_enter Tryz.func56, Tryz.ntmps56
  go_wp2_with fail
  refine (shape_right A c zs _ hl HI.out).mono ?_
  rintro e w1 ⟨rfl, h1⟩
  rw [HR.out]
  go_wp2_with fail
  go_ret2
  exact ⟨by rw [HS.out]; rfl, h1⟩
 ·have HS := Lib.hid (show Sh.size zs = (Safe.prod zs, 0) by simp [Sh.size, hr])
  have HM := Lib.hid (Sh.right_mul hr).1
  have HR := Lib.hid hr
  clear hr
  go_enter Tryz.func56, Tryz.ntmps56
  go_wp2_with fail
  refine (shape_right A c zs _ hl HI.out).mono ?_
  rintro e w1 ⟨rfl, h1⟩
  rw [HR.out]
  go_wp2_with fail
  refine (safe_mul A c zs _ hl (HI.out.below h1 (Nat.le_refl _))).mono ?_
  rintro e w2 ⟨rfl, h2⟩
  rw [HM.out]
  go_wp2_with fail
  go_ret2
  exact ⟨by rw [HS.out]; rfl, h1.trans (h2.mono h1.size)⟩
theorem own_cur {w : World} {B g n : Nat} {e : TypeId} {xs : List Value} (h : w.ownsRow B e 1 (.slice (some ⟨g, 0, none⟩) n n) n xs) : w.heap[g]? = some (.cells xs.toArray e (0, 0)) := by
 rcases h.2 with ⟨hv, _⟩ | ⟨g', cap, cur, hv, _, hh, _, _, hc, ht⟩
 ·cases hv
 ·injection hv with h1 h2 h3
  injection h1 with h1
  injection h1 with h1
  subst h1 h3
  rw [hh]
  have : cur.toList = xs := by rw [← ht, List.take_of_length_le]; simp [hc]
  rw [← this]
theorem own_of_row {w : World} {B g n : Nat} {e : TypeId} {xs : List Value} (h : w.heap[g]? = some (.cells xs.toArray e (0, 0))) (hB : B ≤ g) (hn : xs.length = n) (hm : n ≤ maxLen) : w.ownsRow B e 1 (.slice (some ⟨g, 0, none⟩) n n) n xs := by
 subst hn
 exact ⟨by simp, .inr ⟨g, _, _, rfl, hB, h, Nat.le_refl _, hm, by simp, by simp⟩⟩
theorem splice_all {cur cs : List Value} (h : cs.length = cur.length) : splice cur 0 cs = cs := by
 simp [splice, h]
theorem Ints.src {k : IntKind} {w : World} {A : Option Addr} {zs : List Int} (h : Ints k w A zs) (hpos : 0 < zs.length) : ∃ ad, A = some ad ∧ ∀ j v, (zs.map (Value.int k))[j]? = some v → w.cell? (ad.add j) = some v := by
 obtain ⟨b, off, e, _, _⟩ := h 0 hpos
 refine ⟨⟨b, off, none⟩, e, fun j v hj => ?_⟩
 rw [List.getElem?_map] at hj
 obtain ⟨x, hx, rfl⟩ := Option.map_eq_some_iff.1 hj
 obtain ⟨hjl, rfl⟩ := List.getElem?_eq_some_iff.1 hx
 obtain ⟨b1, off1, e1, _, hc⟩ := h j hjl
 rw [e] at e1
 injection e1 with e1
 injection e1 with e2 e3
 subst e2 e3
 rw [Addr.add_lit, hc]
 simp [hjl]
theorem Ints.src' {k : IntKind} {w : World} {A : Option Addr} {zs : List Int} (h : Ints k w A zs) (hpos : 0 < zs.length) : ∃ ad, A = some ad ∧ ∀ j a, zs[j]? = some a → w.cell? (ad.add j) = some (.int k a) := by
 obtain ⟨ad, e, h⟩ := h.src hpos
 exact ⟨ad, e, fun j a ha => h j _ (by rw [List.getElem?_map, ha]; rfl)⟩
def CopyPost (t : TypeId) (k : IntKind) (zs : List Int) (w : World) (e : Ending) (w' : World) : Prop :=
 ∃ g, e = .returned (.slice (some ⟨g, 0, none⟩) zs.length zs.length) ∧ w.heap.size ≤ g ∧ w'.heap[g]? = some (.cells (zs.map (Value.int k)).toArray t (0, 0)) ∧ Below w.heap.size w w'
set_option maxHeartbeats 1000000 in
theorem shape_copy (A : Option Addr) (c : Nat) (zs : List Int) (w : World) (hl : zs.length ≤ 17592186043904) (hI : Ints .i64 w A zs) :
  Calls Tryz.prog 50 #[.slice A zs.length c] w (CopyPost 3 .i64 zs w) := by
 obtain ⟨i0, hi, hz0, hz1, hz2⟩ := info_parts int_info
 have HI := Lib.hid hI
 clear hI
 go_enter Tryz.func50, Tryz.ntmps50
 go_wp2_with (at_make; refine wpList_make_full _ rfl _ _ 23 rfl w.heap.size 3 i0 (.int .i64 0) 1 Tryz.underlying23 hi hz0 hz1 _ _ _ _ zs.length rfl rfl (by first | rfl | simp) (by first | rfl | simp) ?b2 ?b3 (Nat.le_refl _) ?_)
 case b2 => rw [hz2]; omega
 case b3 => unfold maxLen; omega
 intro w1 hown hgrow
 have hblk := own_cur hown
 have hb1 : Below w.heap.size w w1 := (Below.refl _ w).grown hgrow (Nat.le_refl _) (by simp)
 have hlen := hown.1
 have HI1 := Lib.hid (HI.out.below hb1 (Nat.le_refl _))
 generalize (madeCells #[Value.int .i64 0] zs.length).toList = cur at *
 clear hown hgrow HI
 go_wp2_with (with_reducible refine wpList_copy_splice rfl (.tmp 7) (.tmp 8) 23 23 rfl 3 Tryz.underlying23 ?d1 (some ⟨w.heap.size, 0, none⟩) A zs.length zs.length zs.length c rfl rfl w.heap.size 0 cur 3 hblk (zs.map (Value.int .i64)) ?d2 ?d3 ?d4 ?d5 w.heap.size w hb1 (Nat.le_refl _) ?_)
 case d1 => kernel_rfl
 case d2 => simp
 case d3 => intro hp; exact HI1.out.src' (by simpa using hp)
 case d4 => simp at hlen ⊢; omega
 case d5 => intro v hv; obtain ⟨x, _, rfl⟩ := List.mem_map.1 hv; rfl
 intro w2 hw2 hb2
 have hs := splice_all (cur := cur) (cs := zs.map (Value.int .i64)) (by simp at hlen ⊢; omega)
 have HF := Lib.hid (show w2.heap[w.heap.size]? = some (.cells (zs.map (Value.int .i64)).toArray 3 (0, 0)) by rw [← hs]; exact hw2.out)
 clear hw2 hb1 hlen hs hblk
 go_wp2_with fail
 go_ret
 exact ⟨w.heap.size, rfl, Nat.le_refl _, HF.out, hb2⟩
set_option maxHeartbeats 1000000 in
theorem ints_equal (A A' : Option Addr) (c c' : Nat) (xs ys : List Int) (w : World) (hl : xs.length ≤ 17592186043904) (hl' : ys.length ≤ 17592186043904) (hI : Ints .i64 w A xs) (hI' : Ints .i64 w A' ys) :
  Calls Tryz.prog 35 #[.slice A xs.length c, .slice A' ys.length c'] w fun e w' => e = .returned (.bool (xs == ys)) ∧ ∃ n, w' = w.drewN n := by
 have HI := Lib.hid hI
 have HI' := Lib.hid hI'
 clear hI hI'
 by_cases hn : xs.length = ys.length
 ·have hq : ((xs.length : Int) != ys.length) = false := by simp [hn]
  have HN := Lib.hid hn
  clear hn
  go_enter Tryz.func35, Tryz.ntmps35
  go_wp2_with fail
  go_loopw [13] (fun i wr => ∃ k n : Nat, wr = w.drewN n ∧ k ≤ xs.length ∧ i = .int .i64 k ∧ xs.take k = ys.take k) (fun i _ => xs.length - (intOf i).toNat)
  case atStart => exact ⟨0, 0, rfl, Nat.zero_le _, rfl, rfl⟩
  case round =>
   obtain ⟨k, n, rfl, hk, rfl, htk⟩ := hrel
   have HT := Lib.hid htk
   clear htk
   by_cases hlt : k < xs.length
   ·have hlt' : k < ys.length := by have := HN.out; omega
    obtain ⟨b, off, rfl, hb, hc⟩ := HI.out k hlt
    obtain ⟨b', off', rfl, hb', hc'⟩ := HI'.out k hlt'
    have k0 : (0 : Int) ≤ k := by omega
    have k1 : (k : Int) < xs.length := by omega
    have k2 : (k : Int) < ys.length := by omega
    by_cases hxy : xs[k] = ys[k]
    ·have hb : (xs[k] != ys[k]) = false := by simp [hxy]
     have HT2 := Lib.hid (show xs.take (k + 1) = ys.take (k + 1) by rw [List.take_succ_eq_append_getElem hlt, List.take_succ_eq_append_getElem hlt', HT.out, hxy])
     clear hxy
     go_wp2_with fail
     go_quiet (fail)
     go_wp2_with fail
     go_roundw
     case rel => exact ⟨k + 1, n + nq, by first | rfl | exact World.drewN_drewN _ _ _, by omega, by go_num, HT2.out⟩
     case measure => simp [intOf]; omega
    ·have hb : (xs[k] != ys[k]) = true := by simp [hxy]
     have hf := Lib.hid (show (xs == ys) = false by simp; rintro rfl; exact hxy rfl)
     clear hxy
     go_wp2_with fail
     go_quiet (fail)
     go_wp2_with fail
     go_ret
     exact ⟨by rw [hf.out]; rfl, n + nq, World.drewN_drewN _ _ _⟩
   ·obtain rfl : k = xs.length := by omega
    have hf := Lib.hid (show (xs == ys) = true by have := HT.out; rw [List.take_length, HN.out, List.take_length] at this; simp [this])
    go_wp2_with fail
    go_ret
    exact ⟨by rw [hf.out]; rfl, n, rfl⟩
 ·have hq : ((xs.length : Int) != ys.length) = true := by simp; omega
  have hf := Lib.hid (show (xs == ys) = false by simp; rintro rfl; exact hn rfl)
  clear hn
  go_enter Tryz.func35, Tryz.ntmps35
  go_wp2_with fail
  go_ret
  exact ⟨by rw [hf.out]; rfl, 0, rfl⟩
theorem shape_equal (A A' : Option Addr) (c c' : Nat) (xs ys : List Int) (w : World) (hl : xs.length ≤ 17592186043904) (hl' : ys.length ≤ 17592186043904) (hI : Ints .i64 w A xs) (hI' : Ints .i64 w A' ys) :
  Calls Tryz.prog 12 #[.slice A xs.length c, .slice A' ys.length c'] w fun e w' => e = .returned (.bool (xs == ys)) ∧ ∃ n, w' = w.drewN n := by
 have HI := Lib.hid hI
 have HI' := Lib.hid hI'
 clear hI hI'
 go_enter Tryz.func12, Tryz.ntmps12
 go_wp2_with fail
 refine (ints_equal A A' c c' xs ys _ hl hl' HI.out HI'.out).mono ?_
 rintro e w' ⟨rfl, n, rfl⟩
 go_wp2_with fail
 go_ret
 exact ⟨rfl, n, rfl⟩
end Go.Proofs.YtbnnpkcfifejmabGreat
namespace Go.Proofs.YtbnnpkcfifejmabGreat
structure OpD where
 kind : Int
 k : Int
 width : Int
 step : Int
 side : Int
 frm : Int
 to : Int
 s : List Int
deriving DecidableEq
namespace Od
def used (o : OpD) : OpD :=
 if o.kind = 2 ∨ o.kind = 5 then ⟨o.kind, o.k, 0, 0, 0, 0, 0, []⟩
 else if o.kind = 10 then ⟨o.kind, 0, 0, o.step, 0, 0, 0, []⟩
 else if o.kind = 11 ∨ o.kind = 12 then ⟨o.kind, 0, o.width, o.step, 0, 0, 0, []⟩
 else if o.kind = 13 then ⟨o.kind, 0, 0, 0, o.side, 0, 0, []⟩
 else if o.kind = 14 then ⟨o.kind, 0, 0, 0, o.side, o.frm, o.to, []⟩
 else if o.kind = 15 then ⟨o.kind, 0, 0, 0, 0, 0, 0, o.s⟩
 else ⟨o.kind, 0, 0, 0, 0, 0, 0, []⟩
def right (o : OpD) : Bool := decide (1 ≤ o.kind ∧ o.kind ≤ 15) && decide (o = used o)
def refRight (o : OpD) : Bool :=
 if o.kind < 1 ∨ 15 < o.kind then false
 else if o.k ≠ 0 ∧ o.kind ≠ 2 ∧ o.kind ≠ 5 then false
 else if o.width ≠ 0 ∧ o.kind ≠ 11 ∧ o.kind ≠ 12 then false
 else if o.step ≠ 0 ∧ (o.kind < 10 ∨ 12 < o.kind) then false
 else if o.side ≠ 0 ∧ o.kind ≠ 13 ∧ o.kind ≠ 14 then false
 else if (o.frm ≠ 0 ∨ o.to ≠ 0) ∧ o.kind ≠ 14 then false
 else decide (o.s = [] ∨ o.kind = 15)
theorem ref_right (o : OpD) : refRight o = right o := by
 obtain ⟨kind, k, width, step, side, frm, to, s⟩ := o
 rw [Bool.eq_iff_iff]
 unfold refRight right used
 simp only [Bool.and_eq_true, decide_eq_true_eq]
 by_cases h1 : 1 ≤ kind ∧ kind ≤ 15
 ·have hk : kind = 1 ∨ kind = 2 ∨ kind = 3 ∨ kind = 4 ∨ kind = 5 ∨ kind = 6 ∨ kind = 7 ∨ kind = 8 ∨ kind = 9 ∨ kind = 10 ∨ kind = 11 ∨ kind = 12 ∨ kind = 13 ∨ kind = 14 ∨ kind = 15 := by omega
  rcases hk with rfl | rfl | rfl | rfl | rfl | rfl | rfl | rfl | rfl | rfl | rfl | rfl | rfl | rfl | rfl <;> simp <;> grind
 ·have : kind < 1 ∨ 15 < kind := by omega
  simp [this]
  omega
def ptIns (k : Int) : Int := if 1 ≤ k ∧ k ≤ 5 then 1 else if k = 6 ∨ k = 7 then 2 else 0
def least (o : OpD) : Int := if right o then (if o.kind ≤ 7 then ptIns o.kind else 1) else 0
def most (o : OpD) : Int := if right o then (if o.kind ≤ 7 then ptIns o.kind else if o.kind = 13 then 8 else 1) else 0
def params (o : OpD) : Int := if right o then (if o.kind = 8 then 2 else if o.kind = 9 ∨ o.kind = 10 then 1 else 0) else 0
def counts (o : OpD) (p x : Int) : Int := if right o then (if x < least o ∨ most o < x ∨ p ≠ params o then 20 else 0) else 21
theorem right_kind {o : OpD} (h : right o = true) : 1 ≤ o.kind ∧ o.kind ≤ 15 := by simp [right] at h; exact h.1
theorem least_pos {o : OpD} (h : right o = true) : 1 ≤ least o := by
 have := right_kind h
 unfold least ptIns
 rw [if_pos h]
 split
 ·split
  ·omega
  ·split <;> omega
 ·omega
theorem most_le {o : OpD} (h : right o = true) : most o ≤ 8 := by
 unfold most ptIns
 rw [if_pos h]
 split
 ·split
  ·omega
  ·split <;> omega
 ·split <;> omega
def window (side width step : Int) : Int × Int := if Sh.side side ∧ Sh.side width ∧ Sh.side step ∧ width ≤ side then (1 + (side - width).tdiv step, 0) else (0, 11)
def inR (side : Int) (s : List Int) : Bool := decide (0 ≤ side ∧ side < s.length)
def at_ (s : List Int) (i : Int) : Int := s.getD i.toNat 0
def pool (x : List Int) (width step : Int) : List Int × Int :=
 if Sh.right x then (if (window (x.getD (x.length - 1) 0) width step).2 = 0 then (x.set (x.length - 1) (window (x.getD (x.length - 1) 0) width step).1, 0) else ([], 11)) else ([], 20)
def wn (w x : List Int) (step : Int) (i : Nat) : Int × Int := window (x.getD (i + 1) 0) (w.getD (i + 2) 0) step
def outs (w x : List Int) (step : Int) (k : Nat) : List Int := w.getD 0 0 :: (List.range k).map fun i => (wn w x step i).1
def conv (w x : List Int) (step : Int) : List Int × Int :=
 if Sh.right w && Sh.right x && decide (2 ≤ x.length ∧ x.length ≤ 3 ∧ w.length = x.length + 1 ∧ w.getD 1 0 = x.getD 0 0) then
  (if (List.range (x.length - 1)).all (fun i => decide ((wn w x step i).2 = 0)) then
   (if Sh.right (outs w x step (x.length - 1)) then (outs w x step (x.length - 1), 0) else ([], 20)) else ([], 11)) else ([], 20)
def joinOk (s t : List Int) (side : Int) : Bool := (List.range s.length).all fun i => decide ((i : Int) = side) || decide (s.getD i 0 = t.getD i 0)
def joinL (s t : List Int) (side : Int) : List Int := s.set side.toNat (at_ s side + at_ t side)
def join (s t : List Int) (side : Int) : List Int × Int :=
 if Sh.right s && Sh.right t && decide (s.length = t.length) then
  (if inR side s then (if joinOk s t side && Sh.right (joinL s t side) then (joinL s t side, 0) else ([], 20)) else ([], 11)) else ([], 20)
def joinAll (side : Int) : List Int → List (List Int) → List Int × Int
 | s, [] => (s, 0)
 | s, t :: r => if (join s t side).2 = 0 then joinAll side (join s t side).1 r else ([], (join s t side).2)
def joined (side : Int) (l : List (List Int)) : List Int × Int :=
 if l.length = 1 ∧ inR side (l.getD 0 []) = false then ([], 11) else joinAll side (l.getD 0 []) (l.drop 1)
def cut (s : List Int) (side frm to : Int) : List Int × Int :=
 if Sh.right s then (if inR side s && decide (0 ≤ frm ∧ to ≤ at_ s side ∧ frm < to) then (s.set side.toNat (to - frm), 0) else ([], 11)) else ([], 20)
def same (l : List (List Int)) : List Int × Int := if l.all (fun s => decide (s = l.getD 0 [])) then (l.getD 0 [], 0) else ([], 20)
def dense (w b x : List Int) : List Int × Int :=
 if w.length = 2 ∧ b.length = 1 ∧ b.getD 0 0 = w.getD 0 0 ∧ Sh.right x = true ∧ Safe.prod x = w.getD 1 0 then ([w.getD 0 0], 0) else ([], 20)
def turned (x s : List Int) : List Int × Int := if Sh.right x && Sh.right s && decide (Safe.prod s = Safe.prod x) then (s, 0) else ([], 20)
def byKind (o : OpD) (p x : List (List Int)) : List Int × Int :=
 if o.kind = 8 then dense (p.getD 0 []) (p.getD 1 []) (x.getD 0 [])
 else if o.kind = 9 then same [p.getD 0 [], x.getD 0 []]
 else if o.kind = 10 then conv (p.getD 0 []) (x.getD 0 []) o.step
 else if o.kind = 11 ∨ o.kind = 12 then pool (x.getD 0 []) o.width o.step
 else if o.kind = 13 then joined o.side x
 else if o.kind = 14 then cut (x.getD 0 []) o.side o.frm o.to
 else if o.kind = 15 then turned (x.getD 0 []) o.s
 else same x
def shape (o : OpD) (p x : List (List Int)) : List Int × Int :=
 if counts o p.length x.length ≠ 0 then ([], counts o p.length x.length)
 else if p.all Sh.right && x.all Sh.right then byKind o p x else ([], 20)
theorem window_ok {side width step : Int} (h : (window side width step).2 = 0) : 1 ≤ (window side width step).1 ∧ (window side width step).1 ≤ side := by
 unfold window at h ⊢
 split at h
 ·rename_i hc
  rw [if_pos hc]
  simp only [Sh.side_iff] at hc
  have h1 : 0 ≤ (side - width).tdiv step := Int.tdiv_nonneg (by omega) (by omega)
  have h2 : (side - width).tdiv step ≤ side - width := Int.tdiv_le_self _ (by omega)
  simp only
  omega
 ·simp at h
theorem window_err {side width step : Int} (h : (window side width step).2 ≠ 0) : window side width step = (0, 11) := by
 unfold window at h ⊢
 split
 ·rename_i hc; rw [if_pos hc] at h; simp at h
 ·rfl
theorem prod_set {l : List Int} (h : ∀ x ∈ l, 1 ≤ x) {i : Nat} (hi : i < l.length) {n : Int} (h2 : n ≤ l[i]) : Safe.prod (l.set i n) ≤ Safe.prod l := by
 induction l generalizing i with
 | nil => simp at hi
 | cons a r ih =>
  have ha := h a (by simp)
  have hr : ∀ x ∈ r, 1 ≤ x := fun x hx => h x (by simp [hx])
  have hp := Safe.prod_pos r hr
  cases i with
  | zero =>
   simp only [List.set_cons_zero, Safe.prod]
   simp at h2
   exact Int.mul_le_mul_of_nonneg_right h2 (by omega)
  | succ i =>
   simp only [List.set_cons_succ, Safe.prod]
   simp at h2 hi
   exact Int.mul_le_mul_of_nonneg_left (ih hr hi h2) (by omega)
theorem right_set {l : List Int} (h : Sh.right l = true) {i : Nat} (hi : i < l.length) {n : Int} (h1 : 1 ≤ n) (h2 : n ≤ l[i]) : Sh.right (l.set i n) = true := by
 obtain ⟨_, a1, a2, a3, a4, a5⟩ := Sh.right_mul h
 have hp := prod_set (fun x hx => (a3 x hx).1) hi h2
 have hm := a3 _ (List.getElem_mem hi)
 simp only [Sh.right, Bool.and_eq_true, decide_eq_true_eq, List.length_set, List.all_eq_true, Sh.side_iff]
 refine ⟨⟨⟨a2, a1⟩, fun x hx => ?_⟩, by omega⟩
 rcases List.mem_or_eq_of_mem_set hx with hx | rfl
 ·exact a3 x hx
 ·omega
theorem joinAll_right {side : Int} : ∀ {l : List (List Int)} {s : List Int}, Sh.right s = true → (joinAll side s l).2 = 0 → Sh.right (joinAll side s l).1 = true
 | [], _, hs, _ => hs
 | t :: r, s, hs, h => by
  rw [joinAll] at h ⊢
  split at h
  ·rename_i hj
   rw [if_pos hj]
   refine joinAll_right ?_ h
   unfold join at hj ⊢
   split at hj
   ·rename_i h1
    rw [if_pos h1]
    split at hj
    ·rename_i h2
     rw [if_pos h2]
     split at hj
     ·rename_i h3
      rw [if_pos h3]
      simp at h3
      exact h3.2
     ·simp at hj
    ·simp at hj
   ·simp at hj
  ·rename_i hj; exact absurd h hj
theorem all_getD0 {l : List (List Int)} (h : l.all Sh.right = true) (hl : 0 < l.length) : Sh.right (l.getD 0 []) = true := by
 cases l with
 | nil => simp at hl
 | cons a r => simp at h; simpa using h.1
theorem shape_ok {o : OpD} {p x : List (List Int)} (h : (shape o p x).2 = 0) : right o = true ∧ least o ≤ x.length ∧ (x.length : Int) ≤ most o ∧ (p.length : Int) = params o ∧ p.all Sh.right = true ∧ x.all Sh.right = true ∧ shape o p x = byKind o p x := by
 unfold shape counts at h ⊢
 cases hr : right o
 ·simp [hr] at h
 ·by_cases hc : (x.length : Int) < least o ∨ most o < (x.length : Int) ∨ (p.length : Int) ≠ params o
  ·simp [hr, hc] at h
  ·simp only [hr, if_true, hc, if_false, ne_eq, not_true_eq_false] at h ⊢
   have hc' := hc
   simp only [not_or] at hc'
   cases hp : p.all Sh.right
   ·simp [hp] at h
   ·cases hx : x.all Sh.right
    ·simp [hp, hx] at h
    ·simp
     omega
theorem shape_right {o : OpD} {p x : List (List Int)} (h : (shape o p x).2 = 0) : Sh.right (shape o p x).1 = true := by
 obtain ⟨hr, h1, h2, h3, hp, hx, e⟩ := shape_ok h
 rw [e] at h ⊢
 have hl := least_pos hr
 have hx0 := all_getD0 hx (by omega)
 obtain ⟨_, a1, a2, a3, a4, a5⟩ := Sh.right_mul hx0
 unfold byKind at h ⊢
 split at h
 ·rename_i hk
  rw [if_pos hk]
  unfold params at h3
  rw [if_pos hr, if_pos hk] at h3
  have hp0 := all_getD0 hp (by omega)
  obtain ⟨_, b1, b2, b3, b4, b5⟩ := Sh.right_mul hp0
  unfold dense at h ⊢
  split at h
  ·rename_i hc
   rw [if_pos hc]
   generalize p.getD 0 [] = w at *
   match w, hc.1 with
   | [a, b], _ =>
    have := b3 a (by simp)
    have h1 : Safe.prod [a] ≤ 65536 := by simp [Safe.prod]; omega
    simp [Sh.right, Sh.side_iff, h1]
    omega
  ·simp at h
 ·rename_i hk
  rw [if_neg hk]
  split at h
  ·rename_i hk
   rw [if_pos hk]
   unfold params at h3
   rw [if_pos hr, if_neg (by omega), if_pos (by omega)] at h3
   have hp0 := all_getD0 hp (by omega)
   unfold same at h ⊢
   split at h
   ·rename_i hc; rw [if_pos hc]; simpa using hp0
   ·simp at h
  ·rename_i hk2
   rw [if_neg hk2]
   split at h
   ·rename_i hk
    rw [if_pos hk]
    unfold conv at h ⊢
    split at h
    ·rename_i c1
     rw [if_pos c1]
     split at h
     ·rename_i c2
      rw [if_pos c2]
      split at h
      ·rename_i c3; rw [if_pos c3]; exact c3
      ·simp at h
     ·simp at h
    ·simp at h
   ·rename_i hk3
    rw [if_neg hk3]
    split at h
    ·rename_i hk
     rw [if_pos hk]
     unfold pool at h ⊢
     rw [if_pos hx0] at h ⊢
     split at h
     ·rename_i c1
      rw [if_pos c1]
      have := window_ok c1
      generalize x.getD 0 [] = x0 at *
      have hi : x0.length - 1 < x0.length := by omega
      refine right_set hx0 hi this.1 ?_
      have e2 : x0.getD (x0.length - 1) 0 = x0[x0.length - 1] := by rw [List.getD_eq_getElem?_getD, List.getElem?_eq_getElem hi]; rfl
      have := this.2
      omega
     ·simp at h
    ·rename_i hk4
     rw [if_neg hk4]
     split at h
     ·rename_i hk
      rw [if_pos hk]
      unfold joined at h ⊢
      split at h
      ·simp at h
      ·rename_i c1; rw [if_neg c1]; exact joinAll_right hx0 h
     ·rename_i hk5
      rw [if_neg hk5]
      split at h
      ·rename_i hk
       rw [if_pos hk]
       unfold cut at h ⊢
       rw [if_pos hx0] at h ⊢
       split at h
       ·rename_i c1
        rw [if_pos c1]
        simp [inR, at_] at c1
        obtain ⟨⟨c2, c3⟩, c4, c5, c6⟩ := c1
        have hi : o.side.toNat < (x.getD 0 []).length := by simp; omega
        refine right_set hx0 hi (by omega) ?_
        have : (x.getD 0 [])[o.side.toNat]?.getD 0 = (x.getD 0 [])[o.side.toNat] := by rw [List.getElem?_eq_getElem hi]; rfl
        simp at this c5
        rw [this] at c5
        simp
        omega
       ·simp at h
      ·rename_i hk6
       rw [if_neg hk6]
       split at h
       ·rename_i hk
        rw [if_pos hk]
        unfold turned at h ⊢
        split at h
        ·rename_i c1; rw [if_pos c1]; simp at c1; exact c1.1.2
        ·simp at h
       ·rename_i hk7
        rw [if_neg hk7]
        unfold same at h ⊢
        split at h
        ·rename_i c1; rw [if_pos c1]; exact hx0
        ·simp at h
end Od
end Go.Proofs.YtbnnpkcfifejmabGreat
namespace Go.Proofs.YtbnnpkcfifejmabGreat
namespace Kn
def ids (n : Nat) : List Int := (List.range n).map fun i => ((i + 1 : Nat) : Int)
def wt (I : Int → List Int) (out : List Int) (u : Int) : Nat := ((I u).filter fun i => !(i == 0) && !out.contains i).length
def free (I : Int → List Int) (out : List Int) (u : Int) : Bool := !out.contains u && (I u).all fun i => i == 0 || out.contains i
def ready (I : Int → List Int) (n : Nat) (out : List Int) : List Int := (ids n).filter (free I out)
def step (I : Int → List Int) (n : Nat) (out : List Int) : List Int := match ready I n out with
 | [] => out
 | id :: _ => out ++ [id]
def go (I : Int → List Int) (n : Nat) : Nat → List Int
 | 0 => []
 | k + 1 => step I n (go I n k)
def order (I : Int → List Int) (n : Nat) : List Int := go I n n
def users (I : Int → List Int) (n : Nat) (id : Int) : List Int := (ids n).flatMap fun u => List.replicate ((I u).count id) u
theorem mem_ids {n : Nat} {u : Int} : u ∈ ids n ↔ 1 ≤ u ∧ u ≤ n := by
 simp only [ids, List.mem_map, List.mem_range]
 constructor
 ·rintro ⟨a, h, rfl⟩; omega
 ·intro h; exact ⟨(u - 1).toNat, by omega, by omega⟩
theorem ids_length (n : Nat) : (ids n).length = n := by simp [ids]
theorem ids_get {n k : Nat} (h : k < n) : (ids n)[k]? = some ((k : Int) + 1) := by simp [ids, h]
theorem ids_pairwise (n : Nat) : (ids n).Pairwise (· < ·) := by
 unfold ids
 rw [List.pairwise_map]
 exact List.pairwise_lt_range.imp (by intro a b h; omega)
theorem ids_nodup (n : Nat) : (ids n).Nodup := (ids_pairwise n).imp (by intro a b h; omega)
theorem free_iff (I : Int → List Int) (out : List Int) (u : Int) : free I out u = (!out.contains u && wt I out u == 0) := by
 unfold free wt
 congr 1
 rw [Bool.eq_iff_iff]
 simp only [List.all_eq_true, beq_iff_eq, List.length_eq_zero_iff, List.filter_eq_nil_iff]
 refine forall_congr' fun i => forall_congr' fun _ => ?_
 simp
 grind
theorem mem_ready {I : Int → List Int} {n : Nat} {out : List Int} {u : Int} : u ∈ ready I n out ↔ (1 ≤ u ∧ u ≤ n) ∧ u ∉ out ∧ wt I out u = 0 := by
 unfold ready
 rw [List.mem_filter, mem_ids, free_iff]
 simp
theorem ready_sorted (I : Int → List Int) (n : Nat) (out : List Int) : (ready I n out).Pairwise (· < ·) := (ids_pairwise n).filter _
structure Ok (I : Int → List Int) (n : Nat) (out : List Int) : Prop where
 nodup : out.Nodup
 rng : ∀ u ∈ out, 1 ≤ u ∧ u ≤ n
 done : ∀ u ∈ out, wt I out u = 0
theorem wt_le (I : Int → List Int) (out more : List Int) (u : Int) : wt I (out ++ more) u ≤ wt I out u := by
 unfold wt
 generalize I u = l
 induction l with
 | nil => simp
 | cons a r ih =>
  rw [List.filter_cons, List.filter_cons]
  by_cases hz : a = 0
  ·simp [hz]; simpa using ih
  ·by_cases ho : a ∈ out
   ·simp [ho]; simpa using ih
   ·by_cases hm : a ∈ more
    ·simp [hz, ho, hm]; simp at ih; omega
    ·simp [hz, ho, hm]; simpa using ih
theorem Ok.nil (I : Int → List Int) (n : Nat) : Ok I n [] := ⟨by simp, by simp, by simp⟩
theorem Ok.push {I : Int → List Int} {n : Nat} {out : List Int} {u : Int} (h : Ok I n out) (hu : u ∈ ready I n out) : Ok I n (out ++ [u]) := by
 obtain ⟨h1, h2, h3⟩ := mem_ready.1 hu
 refine ⟨?_, ?_, ?_⟩
 ·rw [List.nodup_append]
  exact ⟨h.nodup, by simp, by intro a ha b hb; simp at hb; subst hb; intro e; subst e; exact h2 ha⟩
 ·intro v hv
  rcases List.mem_append.1 hv with hv | hv
  ·exact h.rng v hv
  ·simp at hv; subst hv; exact h1
 ·intro v hv
  rcases List.mem_append.1 hv with hv | hv
  ·have := h.done v hv; have := wt_le I out [u] v; omega
  ·simp at hv; subst hv; have := wt_le I out [v] v; omega
theorem wt_push {I : Int → List Int} {out : List Int} {u id : Int} (h0 : id ≠ 0) (hid : id ∉ out) : wt I (out ++ [id]) u + (I u).count id = wt I out u := by
 unfold wt
 generalize I u = l
 induction l with
 | nil => simp
 | cons a r ih =>
  rw [List.filter_cons, List.filter_cons, List.count_cons]
  by_cases ha : a = id
  ·subst ha
   simp [h0, hid]
   simp at ih
   omega
  ·by_cases hz : a = 0
   ·subst hz
    have : ¬ (0 = id) := fun e => h0 e.symm
    simp [this]
    simp at ih
    exact ih
   ·by_cases ho : a ∈ out
    ·simp [ha, ho]; simp at ih; exact ih
    ·simp [ha, hz, ho]; simp at ih; omega
theorem count_users (I : Int → List Int) (n : Nat) (id u : Int) (hu : u ∈ ids n) : (users I n id).count u = (I u).count id := by
 unfold users
 have key : ∀ l : List Int, l.Nodup → (l.flatMap fun u => List.replicate ((I u).count id) u).count u = if u ∈ l then (I u).count id else 0 := by
  intro l hl
  induction l with
  | nil => simp
  | cons a r ih =>
   rw [List.nodup_cons] at hl
   rw [List.flatMap_cons, List.count_append, ih hl.2, List.count_replicate]
   by_cases e : a = u
   ·subst e; simp [hl.1]
   ·have : ¬ (u = a) := fun h => e h.symm
    simp [e, this]
 rw [key _ (ids_nodup n), if_pos hu]
theorem mem_users {I : Int → List Int} {n : Nat} {id u : Int} (h : u ∈ users I n id) : u ∈ ids n ∧ id ∈ I u := by
 unfold users at h
 rw [List.mem_flatMap] at h
 obtain ⟨a, ha, hr⟩ := h
 rw [List.mem_replicate] at hr
 obtain ⟨h1, rfl⟩ := hr
 exact ⟨ha, List.count_pos_iff.1 (by omega)⟩
def mid (I : Int → List Int) (out us : List Int) (u : Int) : Nat := wt I out u - us.count u
def midReady (I : Int → List Int) (n : Nat) (out : List Int) (id : Int) (us : List Int) : List Int := (ids n).filter fun u => !(out ++ [id]).contains u && mid I out us u == 0
theorem mid_start {I : Int → List Int} {n : Nat} {out r : List Int} {id : Int} (h : ready I n out = id :: r) : midReady I n out id [] = r := by
 have hs := ready_sorted I n out
 rw [h, List.pairwise_cons] at hs
 have e : midReady I n out id [] = (ready I n out).filter (fun u => !(u == id)) := by
  unfold midReady ready
  rw [List.filter_filter]
  apply List.filter_congr
  intro u _
  rw [free_iff]
  simp only [mid, List.count_nil, Nat.sub_zero]
  simp [Bool.and_assoc, Bool.and_comm, List.contains_eq_mem]
  grind
 rw [e, h, List.filter_cons]
 simp
 intro a ha
 have := hs.1 a ha
 omega
theorem mid_end {I : Int → List Int} {n : Nat} {out : List Int} {id : Int} (hid : id ∈ ready I n out) {u : Int} (hu : u ∈ ids n) : mid I out (users I n id) u = wt I (out ++ [id]) u := by
 obtain ⟨h1, h2, h3⟩ := mem_ready.1 hid
 unfold mid
 rw [count_users I n id u hu]
 have := wt_push (I := I) (u := u) (show id ≠ 0 by omega) h2
 omega
theorem mid_end_ready {I : Int → List Int} {n : Nat} {out : List Int} {id : Int} (hid : id ∈ ready I n out) : midReady I n out id (users I n id) = ready I n (out ++ [id]) := by
 unfold midReady ready
 apply List.filter_congr
 intro u hu
 rw [free_iff, mid_end hid hu]
theorem mid_pos {I : Int → List Int} {n : Nat} {out a b : List Int} {id u : Int} (hok : Ok I n out) (hid : id ∈ ready I n out) (hu : users I n id = a ++ u :: b) :
  1 ≤ mid I out a u ∧ u ∉ out ++ [id] ∧ 1 ≤ u ∧ u ≤ n ∧ mid I out (a ++ [u]) u + 1 = mid I out a u := by
 have hm : u ∈ users I n id := by rw [hu]; simp
 obtain ⟨hi, hin⟩ := mem_users hm
 obtain ⟨h1, h2, h3⟩ := mem_ready.1 hid
 have hc := count_users I n id u hi
 have hw := wt_push (I := I) (u := u) (show id ≠ 0 by omega) h2
 have hp : 0 < (I u).count id := List.count_pos_iff.2 hin
 rw [hu, List.count_append, List.count_cons_self] at hc
 have hr := mem_ids.1 hi
 refine ⟨by unfold mid; omega, ?_, hr.1, hr.2, by unfold mid; rw [List.count_append]; simp; omega⟩
 intro ho
 rcases List.mem_append.1 ho with ho | ho
 ·have := hok.done u ho; omega
 ·simp at ho; subst ho; omega
theorem mid_other {I : Int → List Int} {out a : List Int} {u v : Int} (h : v ≠ u) : mid I out (a ++ [u]) v = mid I out a v := by
 unfold mid
 rw [List.count_append]
 have : ¬ (u = v) := fun e => h e.symm
 simp [this]
theorem mid_stay {I : Int → List Int} {n : Nat} {out a b : List Int} {id u : Int} (hok : Ok I n out) (hid : id ∈ ready I n out) (hu : users I n id = a ++ u :: b) (h : mid I out (a ++ [u]) u ≠ 0) :
  midReady I n out id (a ++ [u]) = midReady I n out id a := by
 unfold midReady
 apply List.filter_congr
 intro v _
 by_cases e : v = u
 ·subst e
  have := (mid_pos hok hid hu).1
  have e1 : (mid I out (a ++ [v]) v == 0) = false := by simp [h]
  have e2 : (mid I out a v == 0) = false := by simp; omega
  rw [e1, e2]
 ·rw [mid_other e]
theorem split_sorted {l : List Int} (h : l.Pairwise (· < ·)) {u : Int} (hu : u ∈ l) : ∃ A B, l = A ++ u :: B ∧ (∀ x ∈ A, x < u) ∧ ∀ x ∈ B, u < x := by
 obtain ⟨A, B, rfl⟩ := List.append_of_mem hu
 rw [List.pairwise_append, List.pairwise_cons] at h
 exact ⟨A, B, rfl, fun x hx => h.2.2 x hx u (by simp), fun x hx => h.2.1.1 x hx⟩
theorem mid_put {I : Int → List Int} {n : Nat} {out a b : List Int} {id u : Int} {at_ : Nat} (hok : Ok I n out) (hid : id ∈ ready I n out) (hu : users I n id = a ++ u :: b) (h : mid I out (a ++ [u]) u = 0)
  (hl : ∀ j (hj : j < (midReady I n out id a).length), j < at_ → (midReady I n out id a)[j] < u) (hg : ∀ j (hj : j < (midReady I n out id a).length), at_ ≤ j → u ≤ (midReady I n out id a)[j]) (hat : at_ ≤ (midReady I n out id a).length) :
  midReady I n out id (a ++ [u]) = (midReady I n out id a).take at_ ++ u :: (midReady I n out id a).drop at_ := by
 obtain ⟨p1, p2, p3, p4, p5⟩ := mid_pos hok hid hu
 obtain ⟨A, B, hAB, hA, hB⟩ := split_sorted (ids_pairwise n) (mem_ids.2 ⟨p3, p4⟩)
 have hn1 : ((!(out ++ [id]).contains u && mid I out a u == 0)) = false := by
  have : (mid I out a u == 0) = false := by simp; omega
  rw [this]; simp
 have hn2 : ((!(out ++ [id]).contains u && mid I out (a ++ [u]) u == 0)) = true := by
  rw [h]; simpa using p2
 have hc : ∀ l : List Int, (∀ x ∈ l, x ≠ u) → l.filter (fun v => !(out ++ [id]).contains v && mid I out (a ++ [u]) v == 0) = l.filter (fun v => !(out ++ [id]).contains v && mid I out a v == 0) := fun l hl => by
  apply List.filter_congr
  intro v hv
  rw [mid_other (hl v hv)]
 have e1 : midReady I n out id (a ++ [u]) = A.filter (fun v => !(out ++ [id]).contains v && mid I out a v == 0) ++ u :: B.filter (fun v => !(out ++ [id]).contains v && mid I out a v == 0) := by
  unfold midReady
  rw [hAB, List.filter_append, List.filter_cons, if_pos hn2, hc A (fun x hx => by have := hA x hx; omega), hc B (fun x hx => by have := hB x hx; omega)]
 have e2 : midReady I n out id a = A.filter (fun v => !(out ++ [id]).contains v && mid I out a v == 0) ++ B.filter (fun v => !(out ++ [id]).contains v && mid I out a v == 0) := by
  unfold midReady
  rw [hAB, List.filter_append, List.filter_cons, hn1]
  simp
 rw [e1]
 generalize hX : A.filter (fun v => !(out ++ [id]).contains v && mid I out a v == 0) = X at e2
 generalize hY : B.filter (fun v => !(out ++ [id]).contains v && mid I out a v == 0) = Y at e2
 have hXl : ∀ x ∈ X, x < u := fun x hx => by rw [← hX] at hx; exact hA x ((List.mem_filter.1 hx).1)
 have hYl : ∀ x ∈ Y, u < x := fun x hx => by rw [← hY] at hx; exact hB x ((List.mem_filter.1 hx).1)
 generalize midReady I n out id a = M at *
 subst e2
 have hlen : at_ = X.length := by
  rcases Nat.lt_trichotomy at_ X.length with hh | hh | hh
  ·have h1 := hg at_ (by rw [List.length_append]; omega) (Nat.le_refl _)
   rw [List.getElem_append_left hh] at h1
   have := hXl _ (List.getElem_mem hh)
   omega
  ·exact hh
  ·have h1 := hl X.length (by rw [List.length_append] at hat ⊢; omega) hh
   rw [List.length_append] at hat
   rw [List.getElem_append_right (Nat.le_refl _)] at h1
   have := hYl _ (List.getElem_mem (show X.length - X.length < Y.length by omega))
   omega
 subst hlen
 simp
theorem go_ok (I : Int → List Int) (n k : Nat) : Ok I n (go I n k) := by
 induction k with
 | zero => exact Ok.nil I n
 | succ k ih =>
  rw [go, step]
  split
  ·exact ih
  ·rename_i id r h
   exact ih.push (by rw [h]; simp)
theorem go_stuck {I : Int → List Int} {n k : Nat} (h : ready I n (go I n k) = []) : ∀ j, go I n (k + j) = go I n k
 | 0 => rfl
 | j + 1 => by rw [← Nat.add_assoc, go, go_stuck h j, step, h]
theorem go_more {I : Int → List Int} {n k : Nat} {id : Int} {r : List Int} (h : ready I n (go I n k) = id :: r) : go I n (k + 1) = go I n k ++ [id] := by rw [go, step, h]
theorem go_len_le (I : Int → List Int) (n k : Nat) : (go I n k).length ≤ k := by
 induction k with
 | zero => simp [go]
 | succ k ih =>
  rw [go, step]
  split
  ·omega
  ·rw [List.length_append]; simp; omega
theorem len_le_of_nodup {l : List Int} {n : Nat} (h : l.Nodup) (hr : ∀ u ∈ l, 1 ≤ u ∧ u ≤ n) : l.length ≤ n := by
 induction n generalizing l with
 | zero =>
  cases l with
  | nil => simp
  | cons a r => have := hr a (by simp); omega
 | succ n ih =>
  have h1 : (l.erase ((n : Int) + 1)).length ≤ n := ih (h.erase _) fun u hu => by
   have hm := List.mem_of_mem_erase hu
   have := hr u hm
   have hne : u ≠ (n : Int) + 1 := by
    intro e
    subst e
    exact (List.Nodup.not_mem_erase h) hu
   omega
  rw [List.length_erase] at h1
  split at h1 <;> omega
theorem Ok.len {I : Int → List Int} {n : Nat} {out : List Int} (h : Ok I n out) : out.length ≤ n := len_le_of_nodup h.nodup h.rng
theorem go_len {I : Int → List Int} {n k : Nat} (h : (go I n k).length = k) : k ≤ n := by have := (go_ok I n k).len; omega
theorem order_of_stuck {I : Int → List Int} {n k : Nat} (hk : (go I n k).length = k) (h : ready I n (go I n k) = []) : order I n = go I n k := by
 have := go_len hk
 unfold order
 obtain ⟨j, rfl⟩ : ∃ j, n = k + j := ⟨n - k, by omega⟩
 exact go_stuck h j
theorem go_behind (I : Int → List Int) (n k : Nat) : ∀ a u b, go I n k = a ++ u :: b → wt I a u = 0 := by
 induction k with
 | zero => intro a u b h; simp [go] at h
 | succ k ih =>
  intro a u b h
  rw [go, step] at h
  split at h
  ·exact ih a u b h
  ·rename_i id r hr
   rcases List.eq_nil_or_concat b with rfl | ⟨b', x, rfl⟩
   ·have h2 := List.append_inj' h rfl
    obtain ⟨e1, e2⟩ := h2
    injection e2 with e2
    subst e2
    rw [← e1]
    exact (mem_ready.1 (show id ∈ ready I n (go I n k) by rw [hr]; simp)).2.2
   ·rw [List.concat_eq_append, ← List.cons_append, ← List.append_assoc] at h
    exact ih a u b' (List.append_inj' h rfl).1
theorem order_behind (I : Int → List Int) (n : Nat) {a b : List Int} {u : Int} (h : order I n = a ++ u :: b) : ∀ i ∈ I u, i = 0 ∨ i ∈ a := by
 have := go_behind I n n a u b h
 unfold wt at this
 rw [List.length_eq_zero_iff, List.filter_eq_nil_iff] at this
 intro i hi
 have := this i hi
 simp at this
 by_cases h0 : i = 0
 ·exact .inl h0
 ·exact .inr (this h0)
theorem order_full {I : Int → List Int} {n : Nat} (h : (order I n).length = n) : ∀ u, u ∈ order I n ↔ 1 ≤ u ∧ u ≤ n := by
 intro u
 refine ⟨(go_ok I n n).rng u, fun hu => ?_⟩
 by_cases hm : u ∈ order I n
 ·exact hm
 ·have h1 : (u :: order I n).length ≤ n := len_le_of_nodup (by rw [List.nodup_cons]; exact ⟨hm, (go_ok I n n).nodup⟩) fun v hv => by
   rcases List.mem_cons.1 hv with rfl | hv
   ·exact hu
   ·exact (go_ok I n n).rng v hv
  rw [List.length_cons] at h1
  omega
theorem ready_first {I : Int → List Int} {n : Nat} {out : List Int} {id : Int} (h1 : 1 ≤ id) (h2 : id ≤ n) (hf : free I out id = true) (hn : ∀ u, 1 ≤ u → u < id → free I out u = false) : ∃ r, ready I n out = id :: r := by
 obtain ⟨A, B, hAB, hA, hB⟩ := split_sorted (ids_pairwise n) (mem_ids.2 ⟨h1, h2⟩)
 refine ⟨B.filter (free I out), ?_⟩
 unfold ready
 rw [hAB, List.filter_append, List.filter_cons, if_pos hf, List.filter_eq_nil_iff.2, List.nil_append]
 intro u hu
 have hm : u ∈ ids n := by rw [hAB]; simp [hu]
 have := hn u (mem_ids.1 hm).1 (hA u hu)
 simp [this]
theorem ready_none {I : Int → List Int} {n : Nat} {out : List Int} (hn : ∀ u : Int, 1 ≤ u → u ≤ n → free I out u = false) : ready I n out = [] := by
 unfold ready
 rw [List.filter_eq_nil_iff]
 intro u hu
 have := mem_ids.1 hu
 simp [hn u this.1 this.2]
theorem order_len_le (I : Int → List Int) (n : Nat) : (order I n).length ≤ n := go_len_le I n n
theorem order_rng (I : Int → List Int) (n : Nat) : ∀ u ∈ order I n, 1 ≤ u ∧ u ≤ n := (go_ok I n n).rng
def uMid (I : Int → List Int) (i : Nat) (l : List Int) (id : Int) : List Int := if id = 0 then [] else users I i id ++ List.replicate (l.count id) ((i : Int) + 1)
def wMid (I : Int → List Int) (i : Nat) (l : List Int) (u : Int) : Nat := if 1 ≤ u ∧ u ≤ i then wt I [] u else if u = (i : Int) + 1 then (l.filter fun i => !(i == 0)).length else 0
theorem ids_succ (i : Nat) : ids (i + 1) = ids i ++ [((i : Int) + 1)] := by simp [ids, List.range_succ]
theorem wt_nil (I : Int → List Int) (u : Int) : wt I [] u = ((I u).filter fun i => !(i == 0)).length := by
 unfold wt
 congr 1
 apply List.filter_congr
 intro i _
 simp
theorem uMid_zero (I : Int → List Int) : uMid I 0 [] = fun _ => [] := by funext id; simp [uMid, users, ids]
theorem wMid_zero (I : Int → List Int) : wMid I 0 [] = fun _ => 0 := by
 funext u
 unfold wMid
 rw [if_neg (by omega)]
 split <;> simp
theorem uMid_next (I : Int → List Int) (i : Nat) : uMid I i (I ((i : Int) + 1)) = uMid I (i + 1) [] := by
 funext id
 unfold uMid users
 rw [ids_succ, List.flatMap_append]
 simp
theorem wMid_next (I : Int → List Int) (i : Nat) : wMid I i (I ((i : Int) + 1)) = wMid I (i + 1) [] := by
 funext u
 unfold wMid
 by_cases h : u = (i : Int) + 1
 ·subst h
  rw [if_neg (by omega), if_pos rfl, if_pos (by omega), wt_nil]
 ·by_cases h2 : 1 ≤ u ∧ u ≤ (i : Int)
  ·rw [if_pos h2, if_pos (by omega)]
  ·rw [if_neg h2, if_neg h, if_neg (by omega)]
   split <;> simp
theorem uMid_zero_in (I : Int → List Int) (i : Nat) (l : List Int) : uMid I i (l ++ [0]) = uMid I i l := by
 funext id
 unfold uMid
 split
 ·rfl
 ·rename_i h
  have : ¬ (0 = id) := fun e => h e.symm
  simp [List.count_append, this]
theorem wMid_zero_in (I : Int → List Int) (i : Nat) (l : List Int) : wMid I i (l ++ [0]) = wMid I i l := by
 funext u
 unfold wMid
 simp
theorem uMid_in {I : Int → List Int} {i : Nat} {l : List Int} {id : Int} (h : id ≠ 0) (j : Int) : uMid I i (l ++ [id]) j = if j = id then uMid I i l j ++ [(i : Int) + 1] else uMid I i l j := by
 unfold uMid
 by_cases e : j = id
 ·subst e
  simp [h, List.count_append, List.replicate_succ']
 ·have : ¬ (id = j) := fun q => e q.symm
  simp [e, List.count_append, this]
theorem wMid_in {I : Int → List Int} {i : Nat} {l : List Int} {id : Int} (h : id ≠ 0) (u : Int) : wMid I i (l ++ [id]) u = if u = (i : Int) + 1 then wMid I i l u + 1 else wMid I i l u := by
 unfold wMid
 by_cases e : u = (i : Int) + 1
 ·subst e
  rw [if_neg (by omega), if_pos rfl, if_pos rfl, if_neg (by omega), if_pos rfl]
  simp [h]
 ·rw [if_neg e, if_neg e, if_neg e]
theorem uMid_end {I : Int → List Int} {n : Nat} {id : Int} (h : id ≠ 0) : uMid I n [] id = users I n id := by simp [uMid, h]
theorem wMid_end {I : Int → List Int} {n : Nat} {u : Int} (h : 1 ≤ u) (h2 : u ≤ n) : wMid I n [] u = wt I [] u := by unfold wMid; rw [if_pos ⟨h, h2⟩]
theorem uMid_len (I : Int → List Int) (i : Nat) (l : List Int) (id : Int) : (uMid I i l id).length ≤ ((ids i).map fun u => (I u).length).sum + l.length := by
 have h1 : ∀ L : List Int, (L.flatMap fun u => List.replicate ((I u).count id) u).length ≤ (L.map fun u => (I u).length).sum := by
  intro L
  induction L with
  | nil => simp
  | cons a r ih =>
   rw [List.flatMap_cons, List.length_append, List.length_replicate, List.map_cons, List.sum_cons]
   have : (I a).count id ≤ (I a).length := List.count_le_length
   omega
 unfold uMid users
 split
 ·simp
 ·rw [List.length_append, List.length_replicate]
  have := h1 (ids i)
  have : l.count id ≤ l.length := List.count_le_length
  omega
end Kn
end Go.Proofs.YtbnnpkcfifejmabGreat
namespace Go.Proofs.YtbnnpkcfifejmabGreat
structure NodeD where
 op : OpD
 ins : List Int
 p : List (List Int)
deriving DecidableEq
structure NetD where
 inn : List Int
 nodes : List NodeD
deriving DecidableEq
namespace Nt
def none_ : NodeD := ⟨⟨0, 0, 0, 0, 0, 0, 0, []⟩, [], []⟩
def node (ns : List NodeD) (id : Int) : NodeD := ns.getD (id.toNat - 1) none_
def insF (ns : List NodeD) (id : Int) : List Int := (node ns id).ins
def bads (n : Nat) : List NodeD → Int
 | [] => 0
 | v :: r => if Od.right v.op then (if v.ins.all (fun i => decide (0 ≤ i ∧ i ≤ n)) then bads n r else 11) else 21
def sorted (ns : List NodeD) : List Int := Kn.order (insF ns) ns.length
def pick (sh : List (List Int)) (l : List Int) : List (List Int) := l.map fun i => sh.getD i.toNat []
def layStep (ns : List NodeD) (sh : List (List Int)) (id : Int) : List Int × Int := Od.shape (node ns id).op (node ns id).p (pick sh (node ns id).ins)
def lay (ns : List NodeD) : List (List Int) → List Int → List (List Int) × Int
 | sh, [] => (sh, 0)
 | sh, id :: r => if (layStep ns sh id).2 = 0 then lay ns (sh.set id.toNat (layStep ns sh id).1) r else ([], (layStep ns sh id).2)
def start (n : NetD) : List (List Int) := n.inn :: List.replicate n.nodes.length []
def isUsed (ns : List NodeD) (id : Int) : Bool := ns.any fun v => v.ins.contains id
def nums (n : Nat) : List Int := (List.range (n + 1)).map fun i : Nat => (i : Int)
def unused (ns : List NodeD) : List Int := (nums ns.length).filter fun id => !isUsed ns id
def loss (ns : List NodeD) : Int := (unused ns).getLastD 0
def lossOk (ns : List NodeD) : Bool := decide ((unused ns).length = 1 ∧ loss ns ≠ 0)
def shapes (n : NetD) : List (List Int) := (lay n.nodes (start n) (sorted n.nodes)).1
def check (n : NetD) : Int :=
 if n.nodes.length < 1 ∨ 512 < n.nodes.length then 12
 else if Sh.right n.inn = false then 20
 else if bads n.nodes.length n.nodes ≠ 0 then bads n.nodes.length n.nodes
 else if (sorted n.nodes).length ≠ n.nodes.length then 22
 else if (lay n.nodes (start n) (sorted n.nodes)).2 ≠ 0 then (lay n.nodes (start n) (sorted n.nodes)).2
 else if lossOk n.nodes = false then 23
 else if Safe.prod ((shapes n).getD (loss n.nodes).toNat []) ≠ 1 then 23
 else 0
def users (n : NetD) (id : Int) : List Int := (Kn.ids n.nodes.length).filter fun u => (insF n.nodes u).contains id
def chainGo (ns : List NodeD) : Int → List Int → Bool
 | _, [] => true
 | last, id :: r => decide (insF ns id = [last]) && chainGo ns id r
def chain (n : NetD) : Bool := decide (check n = 0) && chainGo n.nodes 0 (sorted n.nodes)
def params (n : NetD) : List (List Int) := n.nodes.flatMap (·.p)
theorem bads_take {n : Nat} : ∀ {ns : List NodeD} {k : Nat}, (∀ j (hj : j < ns.length), j < k → Od.right ns[j].op = true ∧ ns[j].ins.all (fun i => decide (0 ≤ i ∧ i ≤ n)) = true) → bads n ns = bads n (ns.drop k)
 | _, 0, _ => by simp
 | [], _ + 1, _ => by simp
 | v :: r, k + 1, h => by
  have h0 := h 0 (by simp) (by omega)
  simp only [List.getElem_cons_zero] at h0
  rw [bads, if_pos h0.1, if_pos h0.2, List.drop_succ_cons]
  exact bads_take fun j hj hk => by have := h (j + 1) (by simp; omega) (by omega); simpa using this
theorem bads_all {n : Nat} {ns : List NodeD} (h : bads n ns = 0) : ∀ v ∈ ns, Od.right v.op = true ∧ ∀ i ∈ v.ins, 0 ≤ i ∧ i ≤ n := by
 induction ns with
 | nil => simp
 | cons v r ih =>
  rw [bads] at h
  split at h
  ·rename_i h1
   split at h
   ·rename_i h2
    intro u hu
    rcases List.mem_cons.1 hu with rfl | hu
    ·exact ⟨h1, by simpa using h2⟩
    ·exact ih h u hu
   ·simp at h
  ·simp at h
theorem node_at {ns : List NodeD} {k : Nat} (h : k < ns.length) : node ns ((k : Int) + 1) = ns[k] := by
 unfold node
 rw [show ((k : Int) + 1).toNat - 1 = k by omega, List.getD_eq_getElem?_getD, List.getElem?_eq_getElem h]
 rfl
theorem node_in {ns : List NodeD} {id : Int} (h : 1 ≤ id ∧ id ≤ ns.length) : ∃ hk : (id - 1).toNat < ns.length, node ns id = ns[(id - 1).toNat] := by
 refine ⟨by omega, ?_⟩
 unfold node
 rw [show id.toNat - 1 = (id - 1).toNat by omega, List.getD_eq_getElem?_getD, List.getElem?_eq_getElem (by omega)]
 rfl
theorem node_mem {ns : List NodeD} {id : Int} (h : 1 ≤ id ∧ id ≤ ns.length) : node ns id ∈ ns := by
 obtain ⟨hk, e⟩ := node_in h
 rw [e]
 exact List.getElem_mem hk
theorem lay_append (ns : List NodeD) : ∀ (a b : List Int) (sh : List (List Int)), lay ns sh (a ++ b) = if (lay ns sh a).2 = 0 then lay ns (lay ns sh a).1 b else ([], (lay ns sh a).2)
 | [], b, sh => by simp [lay]
 | id :: a, b, sh => by
  rw [List.cons_append, lay, lay]
  split
  ·exact lay_append ns a b _
  ·simp
theorem lay_snoc {ns : List NodeD} {a : List Int} {sh s1 : List (List Int)} {id : Int} (h : lay ns sh a = (s1, 0)) (hs : (layStep ns s1 id).2 = 0) : lay ns sh (a ++ [id]) = (s1.set id.toNat (layStep ns s1 id).1, 0) := by
 rw [lay_append, h]
 simp [lay, hs]
theorem lay_fail {ns : List NodeD} {a b : List Int} {sh s1 : List (List Int)} {id : Int} (h : lay ns sh a = (s1, 0)) (hs : (layStep ns s1 id).2 ≠ 0) : lay ns sh (a ++ id :: b) = ([], (layStep ns s1 id).2) := by
 rw [lay_append, h]
 simp [lay, hs]
theorem lay_len {ns : List NodeD} : ∀ {a : List Int} {sh : List (List Int)}, (lay ns sh a).2 = 0 → (lay ns sh a).1.length = sh.length
 | [], _, _ => rfl
 | id :: a, sh, h => by
  rw [lay] at h ⊢
  split at h
  ·rename_i h1; rw [if_pos h1]; rw [lay_len h]; simp
  ·rename_i h1; exact absurd h h1
def Good (a : List Int) (sh : List (List Int)) : Prop := ∀ i : Int, (i = 0 ∨ i ∈ a) → Sh.right (sh.getD i.toNat []) = true
theorem Good.push {a : List Int} {sh : List (List Int)} {id : Int} {s : List Int} (h : Good a sh) (hs : Sh.right s = true) (hid : id.toNat < sh.length) (h0 : ∀ i ∈ a, 0 ≤ i) (h1 : 1 ≤ id) : Good (a ++ [id]) (sh.set id.toNat s) := by
 intro i hi
 by_cases e : i = id
 ·subst e
  rw [List.getD_eq_getElem?_getD, List.getElem?_set_self hid]
  exact hs
 ·have hi' : i = 0 ∨ i ∈ a := by
   rcases hi with hi | hi
   ·exact .inl hi
   ·rcases List.mem_append.1 hi with hi | hi
    ·exact .inr hi
    ·simp at hi; exact absurd hi e
  have hn : 0 ≤ i := by
   rcases hi' with rfl | hi'
   ·omega
   ·exact h0 i hi'
  rw [List.getD_eq_getElem?_getD, List.getElem?_set_ne (by omega), ← List.getD_eq_getElem?_getD]
  exact h i hi'
theorem Good.pick {a : List Int} {sh : List (List Int)} {l : List Int} (h : Good a sh) (hl : ∀ i ∈ l, i = 0 ∨ i ∈ a) : (pick sh l).all Sh.right = true := by
 unfold Nt.pick
 rw [List.all_map, List.all_eq_true]
 intro i hi
 exact h i (hl i hi)
theorem start_good (n : NetD) (h : Sh.right n.inn = true) : Good [] (start n) := by
 intro i hi
 simp at hi
 subst hi
 simpa [start] using h
theorem nums_length (n : Nat) : (nums n).length = n + 1 := by simp [nums]
theorem mem_nums {n : Nat} {u : Int} : u ∈ nums n ↔ 0 ≤ u ∧ u ≤ n := by
 simp only [nums, List.mem_map, List.mem_range]
 constructor
 ·rintro ⟨a, h, rfl⟩; omega
 ·intro h; exact ⟨u.toNat, by omega, by omega⟩
theorem nums_succ (n : Nat) : nums (n + 1) = nums n ++ [((n + 1 : Nat) : Int)] := by simp [nums, List.range_succ]
theorem chainGo_append (ns : List NodeD) : ∀ (a b : List Int) (l : Int), chainGo ns l (a ++ b) = (chainGo ns l a && chainGo ns (a.getLastD l) b)
 | [], b, l => by simp [chainGo]
 | x :: a, b, l => by
  rw [List.cons_append, chainGo, chainGo, chainGo_append ns a b x, Bool.and_assoc]
  congr 3
  cases a with
  | nil => simp
  | cons y r => simp [List.getLast?_eq_some_getLast (l := y :: r) (by simp)]
theorem loss_mem {ns : List NodeD} (h : lossOk ns = true) : unused ns = [loss ns] ∧ 1 ≤ loss ns ∧ loss ns ≤ ns.length := by
 simp [lossOk] at h
 obtain ⟨h1, h2⟩ := h
 match hu : unused ns, h1 with
 | [a], _ =>
  have e : loss ns = a := by simp [loss, hu]
  have hm : a ∈ unused ns := by rw [hu]; simp
  have := (mem_nums.1 (List.mem_filter.1 hm).1)
  refine ⟨by rw [e], by omega, by omega⟩
theorem check_ok {n : NetD} (h : check n = 0) : 1 ≤ n.nodes.length ∧ n.nodes.length ≤ 512 ∧ Sh.right n.inn = true ∧ bads n.nodes.length n.nodes = 0 ∧ (sorted n.nodes).length = n.nodes.length ∧ (lay n.nodes (start n) (sorted n.nodes)).2 = 0 ∧ lossOk n.nodes = true ∧ Safe.prod ((shapes n).getD (loss n.nodes).toNat []) = 1 := by
 unfold check at h
 split at h
 ·omega
 ·rename_i h1
  split at h
  ·omega
  ·rename_i h2
   split at h
   ·rename_i h3; exact absurd h h3
   ·rename_i h3
    split at h
    ·omega
    ·rename_i h4
     split at h
     ·rename_i h5; exact absurd h h5
     ·rename_i h5
      split at h
      ·omega
      ·rename_i h6
       split at h
       ·omega
       ·rename_i h7
        simp at h2 h3 h4 h5 h6 h7
        exact ⟨by omega, by omega, h2, h3, h4, h5, h6, by simpa using h7⟩
theorem lay_good {n : NetD} (hin : Sh.right n.inn = true) : ∀ k, k ≤ (sorted n.nodes).length → (lay n.nodes (start n) ((sorted n.nodes).take k)).2 = 0 → Good ((sorted n.nodes).take k) (lay n.nodes (start n) ((sorted n.nodes).take k)).1
 | 0, _, _ => by simpa [lay] using start_good n hin
 | k + 1, hk, h => by
  have hlt : k < (sorted n.nodes).length := by omega
  have hrng : ∀ u ∈ sorted n.nodes, 1 ≤ u ∧ u ≤ n.nodes.length := (Kn.go_ok (insF n.nodes) n.nodes.length n.nodes.length).rng
  rw [List.take_succ_eq_append_getElem hlt] at h ⊢
  rw [lay_append] at h
  split at h
  ·rename_i h1
   have ih := lay_good hin k (by omega) h1
   generalize hsh : lay n.nodes (start n) ((sorted n.nodes).take k) = S at *
   obtain ⟨s1, e⟩ := S
   simp at h1
   subst h1
   have hlen : s1.length = n.nodes.length + 1 := by
    have := lay_len (ns := n.nodes) (a := (sorted n.nodes).take k) (sh := start n) (by rw [hsh])
    rw [hsh] at this
    simpa [start] using this
   by_cases hs : (layStep n.nodes s1 (sorted n.nodes)[k]).2 = 0
   ·rw [lay_snoc hsh hs]
    have hr := hrng _ (List.getElem_mem hlt)
    exact ih.push (Od.shape_right hs) (by simp only; omega) (fun i hi => by have := hrng i (List.mem_of_mem_take hi); omega) hr.1
   ·simp [lay, hs] at h
  ·rename_i h1; exact absurd h h1
theorem shapes_good {n : NetD} (h : check n = 0) : ∀ i : Int, 0 ≤ i → i ≤ n.nodes.length → Sh.right ((shapes n).getD i.toNat []) = true := by
 obtain ⟨h1, h2, h3, h4, h5, h6, h7, h8⟩ := check_ok h
 have := lay_good h3 (sorted n.nodes).length (Nat.le_refl _) (by rw [List.take_length]; exact h6)
 rw [List.take_length] at this
 intro i hi hi2
 refine this i ?_
 by_cases h0 : i = 0
 ·exact .inl h0
 ·exact .inr ((Kn.order_full h5 i).2 ⟨by omega, hi2⟩)
theorem shapes_len {n : NetD} (h : check n = 0) : (shapes n).length = n.nodes.length + 1 := by
 obtain ⟨h1, h2, h3, h4, h5, h6, h7, h8⟩ := check_ok h
 have := lay_len h6
 simpa [shapes, start] using this
end Nt
end Go.Proofs.YtbnnpkcfifejmabGreat
namespace Go.Proofs.YtbnnpkcfifejmabGreat
open Go.RowKit
def Fr (S : Nat → Prop) (w w' : World) : Prop := Below 0 w w' ∧ ∀ b, b < w.heap.size → ¬ S b → w'.heap[b]? = w.heap[b]?
section
variable {S T : Nat → Prop} {w w1 w2 w' : World}
theorem Fr.size (h : Fr S w w') : w.heap.size ≤ w'.heap.size := h.1.size
theorem Fr.refl (S : Nat → Prop) (w : World) : Fr S w w := ⟨Below.refl _ _, fun _ _ _ => rfl⟩
theorem Fr.trans' (h : Fr S w w1) (k : Fr T w1 w2) (hT : ∀ b, b < w.heap.size → T b → S b) : Fr S w w2 :=
 ⟨h.1.trans k.1, fun b hb hS => (k.2 b (Nat.lt_of_lt_of_le hb h.size) fun ht => hS (hT b hb ht)).trans (h.2 b hb hS)⟩
theorem Fr.trans (h : Fr S w w1) (k : Fr S w1 w2) : Fr S w w2 := h.trans' k fun _ _ h => h
theorem Fr.mono (h : Fr S w w') (hT : ∀ b, b < w.heap.size → S b → T b) : Fr T w w' := ⟨h.1, fun b hb hS => h.2 b hb fun hs => hS (hT b hb hs)⟩
theorem Fr.of_grown {row : Option Nat} (h : w.grownBy w' row) (hS : ∀ k, row = some k → k < w.heap.size → S k) : Fr S w w' :=
 ⟨⟨h.os, h.tape, h.output, h.size, fun k hk => absurd hk (Nat.not_lt_zero k)⟩, fun b hb hs => h.block b hb fun e => hs (hS b e.symm hb)⟩
theorem Fr.grown {row : Option Nat} (h : Fr S w w1) (k : w1.grownBy w2 row) (hS : ∀ j, row = some j → j < w.heap.size → S j) : Fr S w w2 :=
 ⟨h.1.trans ⟨k.os, k.tape, k.output, k.size, fun k hk => absurd hk (Nat.not_lt_zero k)⟩, fun b hb hs => (k.block b (Nat.lt_of_lt_of_le hb h.size) fun e => hs (hS b e.symm hb)).trans (h.2 b hb hs)⟩
theorem Fr.alloc (h : Fr S w w1) (o : Obj) : Fr S w (w1.alloc o) := ⟨h.1.alloc (Nat.zero_le _) o, fun b hb hs => (Below.heap_alloc w1 o b (Nat.lt_of_lt_of_le hb h.size)).trans (h.2 b hb hs)⟩
theorem Fr.drew (h : Fr S w w1) : Fr S w w1.drew := ⟨h.1.drew, h.2⟩
theorem Fr.drewN (h : Fr S w w1) (n : Nat) : Fr S w (w1.drewN n) := ⟨Bdrawn h.1 n, h.2⟩
theorem Fr.setCell (h : Fr S w w1) {p : Addr} (hp : p.block < w.heap.size → S p.block) (u : Value) : Fr S w (w1.setCell p u) :=
 ⟨h.1.setCell (Nat.zero_le _) u, fun b hb hs => (Below.heap_setCell w1 p u b fun e => hs (e ▸ hp (e ▸ hb))).trans (h.2 b hb hs)⟩
theorem Fr.of_below {B : Nat} (h : Below B w w') (hS : ∀ b, b < w.heap.size → ¬ S b → b < B) : Fr S w w' := ⟨h.mono (Nat.zero_le _), fun b hb hs => h.block b (hS b hb hs)⟩
theorem Fr.then_below {B : Nat} (h : Fr S w w1) (k : Below B w1 w2) (hB : w.heap.size ≤ B) : Fr S w w2 := ⟨h.1.trans (k.mono (Nat.zero_le _)), fun b hb hs => (k.block b (Nat.lt_of_lt_of_le hb hB)).trans (h.2 b hb hs)⟩
theorem Fr.below {B : Nat} (h : Fr S w w') (hS : ∀ b, S b → B ≤ b) (hB : B ≤ w.heap.size) : Below B w w' := ⟨h.1.os, h.1.tape, h.1.output, h.1.size, fun k hk => h.2 k (Nat.lt_of_lt_of_le hk hB) fun hs => by have := hS k hs; omega⟩
theorem Fr.blk {g : Nat} {t : TypeId} {cs : Array Value} (h : Fr S w w') (hb : Blk w g t cs) (hg : ¬ S g) : Blk w' g t cs := (h.2 g hb.lt hg).trans hb
theorem Fr.cell {p : Addr} {v : Value} (h : Fr S w w') (hc : w.cell? p = some v) (hg : ¬ S p.block) : w'.cell? p = some v := (World.cell?_of_block (w := w) (h.2 p.block (World.block_lt_of_cell? _ _ hc) hg)).trans hc
theorem Fr.ints {k : IntKind} {A : Option Addr} {zs : List Int} (h : Fr S w w') (hI : Ints k w A zs) (hS : ∀ a, A = some a → ¬ S a.block) : Ints k w' A zs := fun j hj => by
 obtain ⟨b, off, e, hl, hc⟩ := hI j hj
 exact ⟨b, off, e, Nat.lt_of_lt_of_le hl h.size, h.cell (p := ⟨b, off + j, none⟩) hc (hS ⟨b, off, none⟩ e)⟩
end
theorem splice_zero {α : Type} (L : List α) (o : Nat) : splice L o ([] : List α) = L := by simp [splice]
theorem splice_set {α : Type} (L : List α) (o : Nat) (l : List α) (v : α) (h : o + l.length < L.length) : (splice L o l).set (o + l.length) v = splice L o (l ++ [v]) := by
 unfold splice
 have h1 : (L.take o).length = o := by rw [List.length_take]; omega
 rw [← List.append_assoc, List.set_append_right (o + l.length) v (by simp [h1])]
 rw [show o + l.length - (L.take o ++ l).length = 0 by simp [h1]]
 rw [List.drop_eq_getElem_cons h, List.set_cons_zero]
 simp [List.append_assoc, Nat.add_assoc]
theorem splice_get {α : Type} (L : List α) (o : Nat) (l : List α) (j : Nat) (h : o + l.length ≤ L.length) (hj : o + l.length ≤ j) : (splice L o l)[j]? = L[j]? := by
 unfold splice
 have h1 : (L.take o).length = o := by rw [List.length_take]; omega
 rw [← List.append_assoc, List.getElem?_append_right (by simp [h1]; omega), List.getElem?_drop]
 congr 1
 simp [h1]; omega
theorem splice_splice {α : Type} (L : List α) (a b : List α) (h : a.length + b.length ≤ L.length) : splice (splice L 0 a) a.length b = splice L 0 (a ++ b) := by
 unfold splice
 simp only [List.take_zero, List.nil_append, Nat.zero_add]
 rw [List.take_append_of_le_length (Nat.le_refl _), List.take_length, List.drop_append, List.drop_eq_nil_of_le (by omega), List.nil_append, List.drop_drop, List.append_assoc, List.length_append]
 congr 3
 omega
theorem splice_full {α : Type} (L l : List α) (h : l.length = L.length) : splice L 0 l = l := by simp [splice, h]
end Go.Proofs.YtbnnpkcfifejmabGreat
namespace Go.Proofs.YtbnnpkcfifejmabGreat
open Go.RowKit
def On (F : Nat → Prop) (w : World) (Φ : World → Prop) : Prop := ∀ w', (∀ b, F b → w'.heap[b]? = w.heap[b]?) → Φ w'
section
variable {F : Nat → Prop} {S : Nat → Prop} {w w' : World} {Φ Ψ : World → Prop}
theorem On.now (h : On F w Φ) : Φ w := h w fun _ _ => rfl
theorem On.agree (h : On F w Φ) (ha : ∀ b, F b → w'.heap[b]? = w.heap[b]?) : On F w' Φ := fun w2 h2 => h w2 fun b hb => (h2 b hb).trans (ha b hb)
theorem On.fr (h : On F w Φ) (hf : Fr S w w') (hF : ∀ b, F b → b < w.heap.size ∧ ¬ S b) : On F w' Φ := h.agree fun b hb => hf.2 b (hF b hb).1 (hF b hb).2
theorem On.imp_ (h : On F w Φ) (hi : ∀ w, Φ w → Ψ w) : On F w Ψ := fun w2 h2 => hi _ (h w2 h2)
theorem On.mono {G : Nat → Prop} (h : On F w Φ) (hG : ∀ b, F b → G b) : On G w Φ := fun w2 h2 => h w2 fun b hb => h2 b (hG b hb)
theorem On.and {G : Nat → Prop} (h : On F w Φ) (k : On G w Ψ) : On (fun b => F b ∨ G b) w (fun w => Φ w ∧ Ψ w) := fun w2 h2 => ⟨h w2 fun b hb => h2 b (.inl hb), k w2 fun b hb => h2 b (.inr hb)⟩
theorem Blk.on {g : Nat} {t : TypeId} {cs : Array Value} (h : Blk w g t cs) : On (fun b => b = g) w (fun w => Blk w g t cs) := fun w2 h2 => (h2 g rfl).trans h
end
def OwnRow {α : Type} (B C : Nat) (w : World) (e : TypeId) (size : Nat) (v : Value) (cells : α → List Value) (Φ : α → World → Prop) (L : List α) : Prop :=
 w.ownsRow B e size v L.length (L.flatMap cells) ∧ (∀ b, v.ownBlock = some b → b < C) ∧ C ≤ w.heap.size ∧ ∀ x ∈ L, ∃ F : Nat → Prop, On F w (Φ x) ∧ ∀ b, F b → B ≤ b ∧ b < C ∧ some b ≠ v.ownBlock
section
variable {α : Type} {B C : Nat} {w w' : World} {e : TypeId} {size : Nat} {v : Value} {cells : α → List Value} {Φ : α → World → Prop} {L : List α} {S : Nat → Prop}
theorem ownsRow_heap {n : Nat} {xs : List Value} (h : w.ownsRow B e size v n xs) (hk : ∀ g, v.ownBlock = some g → w'.heap[g]? = w.heap[g]?) : w'.ownsRow B e size v n xs := by
 refine ⟨h.1, ?_⟩
 rcases h.2 with h | ⟨g, cap, cur, rfl, h1, h2, h3⟩
 ·exact .inl h
 ·exact .inr ⟨g, cap, cur, rfl, h1, (hk g rfl).trans h2, h3⟩
theorem OwnRow.nil (B : Nat) (w : World) (e : TypeId) (size : Nat) (cells : α → List Value) (Φ : α → World → Prop) : OwnRow B w.heap.size w e size (.slice none 0 0) cells Φ [] :=
 ⟨World.ownsRow_nil _ _ _ _, by simp [Value.ownBlock], Nat.le_refl _, by simp⟩
theorem OwnRow.fr (h : OwnRow B C w e size v cells Φ L) (hf : Fr S w w') (hS : ∀ b, B ≤ b → b < C → ¬ S b) : OwnRow B C w' e size v cells Φ L :=
 ⟨ownsRow_heap h.1 fun g hg => hf.2 g (h.1.lt g hg).2 (hS g (h.1.lt g hg).1 (h.2.1 g hg)), h.2.1, Nat.le_trans h.2.2.1 hf.size, fun x hx => by
  obtain ⟨F, hF, hb⟩ := h.2.2.2 x hx
  exact ⟨F, hF.fr hf fun b k => ⟨Nat.lt_of_lt_of_le (hb b k).2.1 h.2.2.1, hS b (hb b k).1 (hb b k).2.1⟩, hb⟩⟩
theorem OwnRow.widen {C' : Nat} (h : OwnRow B C w e size v cells Φ L) (hC : C ≤ C') (hw : C' ≤ w.heap.size) : OwnRow B C' w e size v cells Φ L :=
 ⟨h.1, fun b hb => Nat.lt_of_lt_of_le (h.2.1 b hb) hC, hw, fun x hx => by
  obtain ⟨F, hF, hb⟩ := h.2.2.2 x hx
  exact ⟨F, hF, fun b k => ⟨(hb b k).1, Nat.lt_of_lt_of_le (hb b k).2.1 hC, (hb b k).2.2⟩⟩⟩
theorem OwnRow.base {B' : Nat} (h : OwnRow B C w e size v cells Φ L) (hB : B' ≤ B) : OwnRow B' C w e size v cells Φ L := by
 refine ⟨⟨h.1.1, ?_⟩, h.2.1, h.2.2.1, fun x hx => ?_⟩
 ·rcases h.1.2 with h1 | ⟨g, cap, cur, h1, h2, h3⟩
  ·exact .inl h1
  ·exact .inr ⟨g, cap, cur, h1, Nat.le_trans hB h2, h3⟩
 ·obtain ⟨F, hF, hb⟩ := h.2.2.2 x hx
  exact ⟨F, hF, fun b k => ⟨Nat.le_trans hB (hb b k).1, (hb b k).2⟩⟩
theorem OwnRow.now (h : OwnRow B C w e size v cells Φ L) : ∀ x ∈ L, Φ x w := fun x hx => by obtain ⟨F, hF, _⟩ := h.2.2.2 x hx; exact hF.now
theorem OwnRow.push {x : α} {v' : Value} (h : OwnRow B C w e size v cells Φ L) (hown : w'.ownsRow B e size v' (L.length + 1) (L.flatMap cells ++ cells x)) (hg : w.grownBy w' v.ownBlock) (hat : v'.ownBlock = v.ownBlock ∨ v'.ownBlock = some w.heap.size)
  {F : Nat → Prop} (hx : On F w (Φ x)) (hF : ∀ b, F b → B ≤ b ∧ b < w.heap.size ∧ some b ≠ v.ownBlock) : OwnRow B w'.heap.size w' e size v' cells Φ (L ++ [x]) := by
 have hne : ∀ b, b < w.heap.size → some b ≠ v.ownBlock → some b ≠ v'.ownBlock := fun b hb hb' => by
  rcases hat with e | e
  ·rw [e]; exact hb'
  ·rw [e]; intro h; injection h with h; omega
 refine ⟨by simpa using hown, fun b hb => (hown.lt b hb).2, Nat.le_refl _, fun y hy => ?_⟩
 rcases List.mem_append.1 hy with hy | hy
 ·obtain ⟨G, hG, hb⟩ := h.2.2.2 y hy
  have hlt : ∀ b, G b → b < w.heap.size := fun b k => Nat.lt_of_lt_of_le (hb b k).2.1 h.2.2.1
  exact ⟨G, hG.agree fun b k => hg.block b (hlt b k) (hb b k).2.2, fun b k => ⟨(hb b k).1, Nat.lt_of_lt_of_le (hlt b k) hg.size, hne b (hlt b k) (hb b k).2.2⟩⟩
 ·rw [List.mem_singleton] at hy
  subst hy
  exact ⟨F, hx.agree fun b k => hg.block b (hF b k).2.1 (hF b k).2.2, fun b k => ⟨(hF b k).1, Nat.lt_of_lt_of_le (hF b k).2.1 hg.size, hne b (hF b k).2.1 (hF b k).2.2⟩⟩
theorem OwnRow.at_ (h : OwnRow B C w e size v cells Φ L) (hc : ∀ x, (cells x).length = size) {i : Nat} (hi : i < L.length) :
  ∃ b cap, v = .slice (some ⟨b, 0, none⟩) L.length cap ∧ B ≤ b ∧ b < C ∧ L.length ≤ cap ∧ ∀ j, j < size → w.cell? ⟨b, i * size + j, none⟩ = (cells L[i])[j]? := by
 rcases h.1.2 with ⟨_, h0⟩ | ⟨g, cap, cur, rfl, hb, hg, hcap, _⟩
 ·omega
 ·refine ⟨g, cap, rfl, hb, h.2.1 g rfl, hcap, fun j hj => ?_⟩
  have hlen : ∀ l : List α, (l.flatMap cells).length = l.length * size := by
   intro l
   induction l with
   | nil => simp
   | cons x r ih => simp [ih, hc, Nat.succ_mul]; omega
  have hij : i * size + j < L.length * size := by
   have : (i + 1) * size ≤ L.length * size := Nat.mul_le_mul_right _ hi
   rw [Nat.succ_mul] at this; omega
  rw [h.1.cellAt _ hij]
  have e : L = L.take i ++ (L[i] :: L.drop (i + 1)) := by rw [← List.drop_eq_getElem_cons hi, List.take_append_drop]
  have e2 : (L.flatMap cells)[i * size + j]? = ((L.take i ++ (L[i] :: L.drop (i + 1))).flatMap cells)[i * size + j]? := congrArg (fun l => (l.flatMap cells)[i * size + j]?) e
  rw [e2, List.flatMap_append, List.flatMap_cons, List.getElem?_append_right (by rw [hlen, List.length_take]; rw [Nat.min_eq_left (by omega)]; omega)]
  rw [hlen, List.length_take, Nat.min_eq_left (by omega), Nat.add_sub_cancel_left, List.getElem?_append_left (by rw [hc]; exact hj)]
theorem OwnRow.form (h : OwnRow B C w e size v cells Φ L) : ∃ A cap, v = .slice A L.length cap ∧ L.length ≤ cap := by
 rcases h.1.2 with ⟨rfl, h0⟩ | ⟨g, cap, cur, rfl, hb, hg, hcap, _⟩
 ·exact ⟨none, 0, by rw [h0], by omega⟩
 ·exact ⟨_, cap, rfl, hcap⟩
end
end Go.Proofs.YtbnnpkcfifejmabGreat
namespace Go.Proofs.YtbnnpkcfifejmabGreat
open Go.RowKit
def Shps (w : World) (A : Option Addr) (ss : List (List Int)) : Prop :=
 ∀ j (hj : j < ss.length), ∃ b off S c, A = some ⟨b, off, none⟩ ∧ b < w.heap.size ∧ w.cell? ⟨b, off + j, none⟩ = some (.slice S ss[j].length c) ∧ Ints .i64 w S ss[j] ∧ ss[j].length ≤ c ∧ c ≤ 9223372036854775807
section
variable {w w' : World} {A : Option Addr} {ss : List (List Int)} {B : Nat}
theorem Shps.below (h : Shps w A ss) (hb : Below B w w') (hB : w.heap.size ≤ B) : Shps w' A ss := fun j hj => by
 obtain ⟨b, off, S, c, e, hl, hc, hI, h2⟩ := h j hj
 exact ⟨b, off, S, c, e, Nat.lt_of_lt_of_le hl hb.size, (hb.cell (p := ⟨b, off + j, none⟩) (Nat.lt_of_lt_of_le hl hB)).trans hc, hI.below hb hB, h2⟩
theorem Shps.alloc (h : Shps w A ss) (o : Obj) : Shps (w.alloc o) A ss := h.below ((Below.refl _ _).alloc (Nat.le_refl _) o) (Nat.le_refl _)
theorem Shps.drewN (h : Shps w A ss) (n : Nat) : Shps (w.drewN n) A ss := h
theorem Shps.drew (h : Shps w A ss) : Shps w.drew A ss := h
theorem Shps.nil : Shps w A [] := fun j hj => absurd hj (by simp)
theorem Shps.dropped {b off : Nat} (k : Nat) (h : Shps w (some ⟨b, off, none⟩) ss) : Shps w (some ⟨b, off + k, none⟩) (ss.drop k) := fun j hj => by
 rw [List.length_drop] at hj
 obtain ⟨b', off', S, c, e, hl, hc, hI, h2⟩ := h (k + j) (by omega)
 injection e with e
 injection e with e1 e2
 subst e1 e2
 rw [List.getElem_drop]
 exact ⟨b, off + k, S, c, rfl, hl, by rw [Nat.add_assoc]; exact hc, hI, h2⟩
end
def opVal (o : OpD) (S : Option Addr) (c : Nat) : Value := .agg #[.int .i64 o.kind, .int .i64 o.k, .int .i64 o.width, .int .i64 o.step, .int .i64 o.side, .int .i64 o.frm, .int .i64 o.to, .slice S o.s.length c]
def OpD.wide (o : OpD) : Prop := ∀ z ∈ [o.kind, o.k, o.width, o.step, o.side, o.frm, o.to], -9223372036854775808 ≤ z ∧ z ≤ 9223372036854775807
def Nodes (w : World) (A : Option Addr) (ns : List NodeD) : Prop :=
 ∀ j (hj : j < ns.length), ∃ b off S c I d Q q, A = some ⟨b, off, none⟩ ∧ b < w.heap.size ∧
  w.cell? ⟨b, off + j * 10, none⟩ = some (.int .i64 ns[j].op.kind) ∧ w.cell? ⟨b, off + j * 10 + 1, none⟩ = some (.int .i64 ns[j].op.k) ∧ w.cell? ⟨b, off + j * 10 + 2, none⟩ = some (.int .i64 ns[j].op.width) ∧
  w.cell? ⟨b, off + j * 10 + 3, none⟩ = some (.int .i64 ns[j].op.step) ∧ w.cell? ⟨b, off + j * 10 + 4, none⟩ = some (.int .i64 ns[j].op.side) ∧ w.cell? ⟨b, off + j * 10 + 5, none⟩ = some (.int .i64 ns[j].op.frm) ∧
  w.cell? ⟨b, off + j * 10 + 6, none⟩ = some (.int .i64 ns[j].op.to) ∧ w.cell? ⟨b, off + j * 10 + 7, none⟩ = some (.slice S ns[j].op.s.length c) ∧
  w.cell? ⟨b, off + j * 10 + 8, none⟩ = some (.slice I ns[j].ins.length d) ∧ w.cell? ⟨b, off + j * 10 + 9, none⟩ = some (.slice Q ns[j].p.length q) ∧
  (Ints .i64 w S ns[j].op.s ∧ ns[j].op.s.length ≤ c ∧ c ≤ 9223372036854775807) ∧ (Ints .i64 w I ns[j].ins ∧ ns[j].ins.length ≤ d ∧ d ≤ 9223372036854775807) ∧ (Shps w Q ns[j].p ∧ ns[j].p.length ≤ q ∧ q ≤ 9223372036854775807)
theorem Nodes.below {B : Nat} {w w' : World} {A : Option Addr} {ns : List NodeD} (h : Nodes w A ns) (hb : Below B w w') (hB : w.heap.size ≤ B) : Nodes w' A ns := fun j hj => by
 obtain ⟨b, off, S, c, I, d, Q, q, e, hl, c0, c1, c2, c3, c4, c5, c6, c7, c8, c9, ⟨h1, h1'⟩, ⟨h2, h2'⟩, h3, h3'⟩ := h j hj
 have hc : ∀ {k v}, w.cell? ⟨b, k, none⟩ = some v → w'.cell? ⟨b, k, none⟩ = some v := fun {k v} hk => (hb.cell (p := ⟨b, k, none⟩) (Nat.lt_of_lt_of_le hl hB)).trans hk
 exact ⟨b, off, S, c, I, d, Q, q, e, Nat.lt_of_lt_of_le hl hb.size, hc c0, hc c1, hc c2, hc c3, hc c4, hc c5, hc c6, hc c7, hc c8, hc c9, ⟨h1.below hb hB, h1'⟩, ⟨h2.below hb hB, h2'⟩, h3.below hb hB, h3'⟩
theorem Nodes.alloc {w : World} {A : Option Addr} {ns : List NodeD} (h : Nodes w A ns) (o : Obj) : Nodes (w.alloc o) A ns := h.below ((Below.refl _ _).alloc (Nat.le_refl _) o) (Nat.le_refl _)
def NetR (w : World) (A N : Option Addr) (n : NetD) : Prop := Ints .i64 w A n.inn ∧ Nodes w N n.nodes
theorem NetR.below {B : Nat} {w w' : World} {A N : Option Addr} {n : NetD} (h : NetR w A N n) (hb : Below B w w') (hB : w.heap.size ≤ B) : NetR w' A N n := ⟨h.1.below hb hB, h.2.below hb hB⟩
def ShpRow (w : World) (g : Nat) (t : TypeId) (sh : List (List Int)) : Prop :=
 ∃ vs : List Value, vs.length = sh.length ∧ Blk w g t vs.toArray ∧ ∀ j (hj : j < sh.length), ∃ S c, vs[j]? = some (.slice S sh[j].length c) ∧ Ints .i64 w S sh[j] ∧ sh[j].length ≤ c ∧ c ≤ 9223372036854775807 ∧ ∀ a, S = some a → a.block ≠ g
section
variable {w w' : World} {g : Nat} {t : TypeId} {sh : List (List Int)} {B : Nat}
theorem ShpRow.lt (h : ShpRow w g t sh) : g < w.heap.size := by obtain ⟨vs, _, hb, _⟩ := h; exact hb.lt
theorem ShpRow.below (h : ShpRow w g t sh) (hb : Below B w w') (hB : w.heap.size ≤ B) : ShpRow w' g t sh := by
 obtain ⟨vs, hl, hk, hv⟩ := h
 refine ⟨vs, hl, hk.below hb (Nat.lt_of_lt_of_le hk.lt hB), fun j hj => ?_⟩
 obtain ⟨S, c, e, hI, h2⟩ := hv j hj
 exact ⟨S, c, e, hI.below hb hB, h2⟩
theorem ShpRow.alloc (h : ShpRow w g t sh) (o : Obj) : ShpRow (w.alloc o) g t sh := h.below ((Below.refl _ _).alloc (Nat.le_refl _) o) (Nat.le_refl _)
theorem ShpRow.drewN (h : ShpRow w g t sh) (n : Nat) : ShpRow (w.drewN n) g t sh := h
theorem ShpRow.at_ (h : ShpRow w g t sh) {j : Nat} (hj : j < sh.length) : ∃ S c, w.cell? ⟨g, j, none⟩ = some (.slice S sh[j].length c) ∧ Ints .i64 w S sh[j] ∧ sh[j].length ≤ c ∧ c ≤ 9223372036854775807 ∧ ∀ a, S = some a → a.block ≠ g := by
 obtain ⟨vs, hl, hk, hv⟩ := h
 obtain ⟨S, c, e, h2⟩ := hv j hj
 exact ⟨S, c, by rw [hk.cell j]; simpa using e, h2⟩
theorem ShpRow.shps (h : ShpRow w g t sh) : Shps w (some ⟨g, 0, none⟩) sh := fun j hj => by
 obtain ⟨S, c, hc, hI, h1, h2, _⟩ := h.at_ hj
 exact ⟨g, 0, S, c, rfl, h.lt, by rw [Nat.zero_add]; exact hc, hI, h1, h2⟩
theorem Ints.set_far {k : IntKind} {A : Option Addr} {zs : List Int} (h : Ints k w A zs) {p : Addr} (hp : ∀ a, A = some a → a.block ≠ p.block) (v : Value) : Ints k (w.setCell p v) A zs := fun j hj => by
 obtain ⟨b, off, e, hl, hc⟩ := h j hj
 refine ⟨b, off, e, by simpa using hl, ?_⟩
 have hne : b ≠ p.block := hp _ e
 exact (World.cell?_of_block (w := w) (a := ⟨b, off + j, none⟩) (Below.heap_setCell w p v b hne)).trans hc
theorem ShpRow.set_ (h : ShpRow w g t sh) {i : Nat} {S : Option Addr} {s : List Int} {c : Nat} (hI : Ints .i64 w S s) (hc : s.length ≤ c) (hm : c ≤ 9223372036854775807) (hS : ∀ a, S = some a → a.block ≠ g) :
  ShpRow (w.setCell ⟨g, i, none⟩ (.slice S s.length c)) g t (sh.set i s) := by
 obtain ⟨vs, hl, hk, hv⟩ := h
 refine ⟨vs.set i (.slice S s.length c), by simp [hl], ?_, fun j hj => ?_⟩
 ·have := hk.set_ i (.slice S s.length c)
  simpa using this
 ·rw [List.length_set] at hj
  by_cases e : i = j
  ·subst e
   refine ⟨S, c, by simp [hl, hj], by simpa using hI.set_far (p := ⟨g, i, none⟩) hS _, by simpa using hc, hm, hS⟩
  ·obtain ⟨S', c', e', hI', h1, h2, h3⟩ := hv j hj
   refine ⟨S', c', by simp [List.getElem?_set_ne e, e', List.getElem_set_ne e], ?_, by simpa [List.getElem_set_ne e] using h1, h2, h3⟩
   rw [List.getElem_set_ne e]
   exact hI'.set_far (p := ⟨g, i, none⟩) h3 _
theorem ShpRow.new {n : Nat} (h : Blk w g t (List.replicate n (Value.slice none 0 0)).toArray) : ShpRow w g t (List.replicate n []) :=
 ⟨List.replicate n (.slice none 0 0), by simp, h, fun j hj => ⟨none, 0, by simp at hj; simp [hj], by simp at hj; simp [Ints.nil], by simp, by omega, fun a e => by cases e⟩⟩
end
end Go.Proofs.YtbnnpkcfifejmabGreat
namespace Go.Proofs.YtbnnpkcfifejmabGreat
open Go.RowKit
def opCells (o : OpD) (S : Option Addr) (c : Nat) : Array Value := #[.int .i64 o.kind, .int .i64 o.k, .int .i64 o.width, .int .i64 o.step, .int .i64 o.side, .int .i64 o.frm, .int .i64 o.to, .slice S o.s.length c]
def opNums (o : OpD) : Value := .agg #[.int .i64 o.kind, .int .i64 o.k, .int .i64 o.width, .int .i64 o.step, .int .i64 o.side, .int .i64 o.frm, .int .i64 o.to]
theorem below2 (w : World) (a b : Obj) : Below w.heap.size w ((w.alloc a).alloc b) := ((Below.refl _ w).alloc (Nat.le_refl _) a).alloc (by simp) b
theorem below3 (w : World) (a b c : Obj) : Below w.heap.size w (((w.alloc a).alloc b).alloc c) := (below2 w a b).alloc (by simp; omega) c
def UsedP (o : OpD) (S : Option Addr) (c : Nat) (w : World) (e : Ending) (w' : World) : Prop :=
 ∃ S' c', e = .returned (.agg #[.int .i64 (Od.used o).kind, .int .i64 (Od.used o).k, .int .i64 (Od.used o).width, .int .i64 (Od.used o).step, .int .i64 (Od.used o).side, .int .i64 (Od.used o).frm, .int .i64 (Od.used o).to, .slice S' (Od.used o).s.length c']) ∧ (S' = S ∧ (Od.used o).s = o.s ∨ (Od.used o).s = []) ∧ Below w.heap.size w w'
set_option maxHeartbeats 1000000 in
theorem op_numbers (o : OpD) (S : Option Addr) (c : Nat) (w : World) :
  Calls Tryz.prog 129 #[.agg #[.int .i64 o.kind, .int .i64 o.k, .int .i64 o.width, .int .i64 o.step, .int .i64 o.side, .int .i64 o.frm, .int .i64 o.to, .slice S o.s.length c]] w fun e w' => e = .returned (.agg #[.int .i64 o.kind, .int .i64 o.k, .int .i64 o.width, .int .i64 o.step, .int .i64 o.side, .int .i64 o.frm, .int .i64 o.to]) ∧ Below w.heap.size w w' := by
 go_enter Tryz.func129, Tryz.ntmps129
 go_wp2_with fail
 refine bodyPost_ret (v := .agg #[.int .i64 o.kind, .int .i64 o.k, .int .i64 o.width, .int .i64 o.step, .int .i64 o.side, .int .i64 o.frm, .int .i64 o.to]) (by simp [results, Tryz.results129, go_sem]) rfl ?_
 exact ⟨rfl, below2 w _ _⟩
set_option maxHeartbeats 2000000 in
set_option maxRecDepth 100000 in
theorem op_used (o : OpD) (S : Option Addr) (c : Nat) (w : World) :
  Calls Tryz.prog 95 #[.agg #[.int .i64 o.kind, .int .i64 o.k, .int .i64 o.width, .int .i64 o.step, .int .i64 o.side, .int .i64 o.frm, .int .i64 o.to, .slice S o.s.length c]] w (UsedP o S c w) := by
 obtain ⟨kind, k, width, step, side, frm, to_, s⟩ := o
 by_cases hk : kind = 2 ∨ kind = 5 ∨ kind = 10 ∨ kind = 11 ∨ kind = 12 ∨ kind = 13 ∨ kind = 14 ∨ kind = 15
 ·rcases hk with rfl | rfl | rfl | rfl | rfl | rfl | rfl | rfl
  all_goals
   go_enter Tryz.func95, Tryz.ntmps95
   go_wp2_with fail
   try go_region_with (fail)
  all_goals try go_wp2_with fail
  all_goals refine bodyPost_ret (by simp [results, Tryz.results95, go_sem]; rfl) rfl ?_
  all_goals refine ⟨_, _, rfl, by simp [Od.used], ?_⟩
  all_goals (repeat' first | exact Below.refl _ _ | exact below3 _ _ _ _ | refine Below.drew ?_ | refine Below.setCell ?_ (by simp) _ | refine Below.alloc ?_ (by simp) _)
 ·have n2 : (kind == 2) = false := by simp; omega
  have n5 : (kind == 5) = false := by simp; omega
  have n10 : (kind == 10) = false := by simp; omega
  have n11 : (kind == 11) = false := by simp; omega
  have n12 : (kind == 12) = false := by simp; omega
  have n13 : (kind == 13) = false := by simp; omega
  have n14 : (kind == 14) = false := by simp; omega
  have n15 : (kind == 15) = false := by simp; omega
  have HU := Lib.hid (show Od.used ⟨kind, k, width, step, side, frm, to_, s⟩ = ⟨kind, 0, 0, 0, 0, 0, 0, []⟩ by unfold Od.used; simp only; rw [if_neg (by omega), if_neg (by omega), if_neg (by omega), if_neg (by omega), if_neg (by omega), if_neg (by omega)])
  clear hk
  go_enter Tryz.func95, Tryz.ntmps95
  go_wp2_with fail
  refine bodyPost_ret (by simp [results, Tryz.results95, go_sem]; rfl) rfl ?_
  exact ⟨none, 0, by rw [HU.out]; rfl, .inr (by rw [HU.out]), below3 w _ _ _⟩
end Go.Proofs.YtbnnpkcfifejmabGreat
namespace Go.Proofs.YtbnnpkcfifejmabGreat
open Go.RowKit
theorem arr_stood : Tryz.prog.stoodInHeld 191 = false := by kernel_rfl
theorem arr_guard : Tryz.prog.eqGuardType Tryz.prog.depth 191 = false := by kernel_rfl
theorem i64_one : Tryz.prog.cellsOf 2 = 1 := by kernel_rfl
theorem run_eql_nums (w : World) (a0 a1 a2 a3 a4 a5 a6 b0 b1 b2 b3 b4 b5 b6 : Int) : (binOp .eql 191 (.agg #[.int .i64 a0, .int .i64 a1, .int .i64 a2, .int .i64 a3, .int .i64 a4, .int .i64 a5, .int .i64 a6]) (.agg #[.int .i64 b0, .int .i64 b1, .int .i64 b2, .int .i64 b3, .int .i64 b4, .int .i64 b5, .int .i64 b6])).run Tryz.prog w =
  .ok (.bool (a0 == b0 && a1 == b1 && a2 == b2 && a3 == b3 && a4 == b4 && a5 == b5 && a6 == b6)) w := by
 obtain ⟨i0, hi, _, _, _⟩ := info_parts i64_info
 have hA := run_equalIn_array (P := Tryz.prog) (w := w) 9999 #[.int .i64 a0, .int .i64 a1, .int .i64 a2, .int .i64 a3, .int .i64 a4, .int .i64 a5, .int .i64 a6] #[.int .i64 b0, .int .i64 b1, .int .i64 b2, .int .i64 b3, .int .i64 b4, .int .i64 b5, .int .i64 b6] Tryz.underlying191 hi
 rw [i64_one] at hA
 have g1 := arr_stood
 have g2 := arr_guard
 simp [go_sem]
 rw [hA]
 rw [show List.range 7 = [0, 1, 2, 3, 4, 5, 6] from rfl]
 clear hA
 cases h0 : (a0 == b0)
 ·simp [Op.eqItems, go_sem, h0]
 cases h1 : (a1 == b1)
 ·simp [Op.eqItems, go_sem, h0, h1]
 cases h2 : (a2 == b2)
 ·simp [Op.eqItems, go_sem, h0, h1, h2]
 cases h3 : (a3 == b3)
 ·simp [Op.eqItems, go_sem, h0, h1, h2, h3]
 cases h4 : (a4 == b4)
 ·simp [Op.eqItems, go_sem, h0, h1, h2, h3, h4]
 cases h5 : (a5 == b5)
 ·simp [Op.eqItems, go_sem, h0, h1, h2, h3, h4, h5]
 cases h6 : (a6 == b6)
 all_goals simp [Op.eqItems, go_sem, h0, h1, h2, h3, h4, h5, h6]
theorem op_eq_iff (o q : OpD) : decide (o = q) = ((o.kind == q.kind && o.k == q.k && o.width == q.width && o.step == q.step && o.side == q.side && o.frm == q.frm && o.to == q.to) && (o.s == q.s)) := by
 obtain ⟨a0, a1, a2, a3, a4, a5, a6, a7⟩ := o
 obtain ⟨b0, b1, b2, b3, b4, b5, b6, b7⟩ := q
 rw [Bool.eq_iff_iff]
 simp [and_assoc]
set_option maxHeartbeats 4000000 in
theorem op_equal (o q : OpD) (S T : Option Addr) (c d : Nat) (w : World) (ho : o.s.length ≤ 17592186043904) (hq : q.s.length ≤ 17592186043904) (hI : Ints .i64 w S o.s) (hJ : Ints .i64 w T q.s) :
  Calls Tryz.prog 94 #[.agg #[.int .i64 o.kind, .int .i64 o.k, .int .i64 o.width, .int .i64 o.step, .int .i64 o.side, .int .i64 o.frm, .int .i64 o.to, .slice S o.s.length c], .agg #[.int .i64 q.kind, .int .i64 q.k, .int .i64 q.width, .int .i64 q.step, .int .i64 q.side, .int .i64 q.frm, .int .i64 q.to, .slice T q.s.length d]] w fun e w' => e = .returned (.bool (decide (o = q))) ∧ Below w.heap.size w w' := by
 have hrun := fun W => run_eql_nums W o.kind o.k o.width o.step o.side o.frm o.to q.kind q.k q.width q.step q.side q.frm q.to
 have HE := Lib.hid (op_eq_iff o q)
 have hk0 := (Blk.new w 45 #[.int .i64 o.kind, .int .i64 o.k, .int .i64 o.width, .int .i64 o.step, .int .i64 o.side, .int .i64 o.frm, .int .i64 o.to, .slice S o.s.length c]).alloc (.cells #[.int .i64 q.kind, .int .i64 q.k, .int .i64 q.width, .int .i64 q.step, .int .i64 q.side, .int .i64 q.frm, .int .i64 q.to, .slice T q.s.length d] 45)
 have hk1 := Blk.new (w.alloc (.cells #[.int .i64 o.kind, .int .i64 o.k, .int .i64 o.width, .int .i64 o.step, .int .i64 o.side, .int .i64 o.frm, .int .i64 o.to, .slice S o.s.length c] 45)) 45 #[.int .i64 q.kind, .int .i64 q.k, .int .i64 q.width, .int .i64 q.step, .int .i64 q.side, .int .i64 q.frm, .int .i64 q.to, .slice T q.s.length d]
 have hb0 := below2 w (.cells #[.int .i64 o.kind, .int .i64 o.k, .int .i64 o.width, .int .i64 o.step, .int .i64 o.side, .int .i64 o.frm, .int .i64 o.to, .slice S o.s.length c] 45) (.cells #[.int .i64 q.kind, .int .i64 q.k, .int .i64 q.width, .int .i64 q.step, .int .i64 q.side, .int .i64 q.frm, .int .i64 q.to, .slice T q.s.length d] 45)
 rw [World.size_alloc] at hk1
 go_enter Tryz.func94, Tryz.ntmps94
 go_wp2_with fail
 generalize ((w.alloc (.cells #[.int .i64 o.kind, .int .i64 o.k, .int .i64 o.width, .int .i64 o.step, .int .i64 o.side, .int .i64 o.frm, .int .i64 o.to, .slice S o.s.length c] 45)).alloc (.cells #[.int .i64 q.kind, .int .i64 q.k, .int .i64 q.width, .int .i64 q.step, .int .i64 q.side, .int .i64 q.frm, .int .i64 q.to, .slice T q.s.length d] 45)) = w0 at *
 have hlt0 := hk0.lt
 have hlt1 := hk1.lt
 have hcells : ∀ W, Below w0.heap.size w0 W → W.cell? ⟨w.heap.size, 0, none⟩ = some (.int .i64 o.kind) ∧ W.cell? ⟨w.heap.size, 1, none⟩ = some (.int .i64 o.k) ∧ W.cell? ⟨w.heap.size, 2, none⟩ = some (.int .i64 o.width) ∧ W.cell? ⟨w.heap.size, 3, none⟩ = some (.int .i64 o.step) ∧ W.cell? ⟨w.heap.size, 4, none⟩ = some (.int .i64 o.side) ∧ W.cell? ⟨w.heap.size, 5, none⟩ = some (.int .i64 o.frm) ∧ W.cell? ⟨w.heap.size, 6, none⟩ = some (.int .i64 o.to) ∧ W.cell? ⟨w.heap.size, 7, none⟩ = some (.slice S o.s.length c) ∧ W.cell? ⟨w.heap.size + 1, 0, none⟩ = some (.int .i64 q.kind) ∧ W.cell? ⟨w.heap.size + 1, 1, none⟩ = some (.int .i64 q.k) ∧ W.cell? ⟨w.heap.size + 1, 2, none⟩ = some (.int .i64 q.width) ∧ W.cell? ⟨w.heap.size + 1, 3, none⟩ = some (.int .i64 q.step) ∧ W.cell? ⟨w.heap.size + 1, 4, none⟩ = some (.int .i64 q.side) ∧ W.cell? ⟨w.heap.size + 1, 5, none⟩ = some (.int .i64 q.frm) ∧ W.cell? ⟨w.heap.size + 1, 6, none⟩ = some (.int .i64 q.to) ∧ W.cell? ⟨w.heap.size + 1, 7, none⟩ = some (.slice T q.s.length d) := fun W hW => by
  have k0 := hk0.below hW hlt0
  have k1 := hk1.below hW hlt1
  have e := fun i => k0.cell i
  have f := fun i => k1.cell i
  refine ⟨?_, ?_, ?_, ?_, ?_, ?_, ?_, ?_, ?_, ?_, ?_, ?_, ?_, ?_, ?_, ?_⟩
  all_goals first | (rw [e]; rfl) | (rw [f]; rfl)
 have hself : Below w0.heap.size w0 w0.drew := (Below.refl _ _).drew
 have hall := hcells _ hself
 generalize hbv : (o.kind == q.kind && o.k == q.k && o.width == q.width && o.step == q.step && o.side == q.side && o.frm == q.frm && o.to == q.to) = bv at *
 have Hcells := Lib.hid hcells
 have HI := Lib.hid hI
 have HJ := Lib.hid hJ
 have Hk0 := Lib.hid hk0
 have Hk1 := Lib.hid hk1
 have Hbv := Lib.hid hbv
 clear hcells hI hJ hk0 hk1 hbv
 obtain ⟨x0, x1, x2, x3, x4, x5, x6, x7, y0, y1, y2, y3, y4, y5, y6, y7⟩ := hall
 cases bv
 ·first
   | (go_region_with (first
     | (go_at_call_of 129 (Value.agg #[.int .i64 o.kind, .int .i64 o.k, .int .i64 o.width, .int .i64 o.step, .int .i64 o.side, .int .i64 o.frm, .int .i64 o.to, .slice S o.s.length c]); refine (op_numbers o S c _).mono ?_; rintro e wa ⟨rfl, ha⟩; have hbb := hself.trans (ha.mono hself.size); obtain ⟨u0, u1, u2, u3, u4, u5, u6, u7, u8, u9, u10, u11, u12, u13, u14, u15⟩ := Hcells.out _ hbb)
     | (go_at_call 129; refine (op_numbers q T d _).mono ?_; rintro e wb ⟨rfl, hb⟩; have hbb := hbb.trans (hb.mono hbb.size); obtain ⟨v0, v1, v2, v3, v4, v5, v6, v7, v8, v9, v10, v11, v12, v13, v14, v15⟩ := Hcells.out _ hbb)))
   | skip
  all_goals
   go_wp2_with fail
   go_ret
   exact ⟨by rw [HE.out]; rfl, hb0.trans (hbb.mono hb0.size)⟩
 ·go_region_held3 (fun W => W.cell? ⟨w.heap.size, 0, none⟩ = some (.int .i64 o.kind) ∧ W.cell? ⟨w.heap.size, 1, none⟩ = some (.int .i64 o.k) ∧ W.cell? ⟨w.heap.size, 2, none⟩ = some (.int .i64 o.width) ∧ W.cell? ⟨w.heap.size, 3, none⟩ = some (.int .i64 o.step) ∧ W.cell? ⟨w.heap.size, 4, none⟩ = some (.int .i64 o.side) ∧ W.cell? ⟨w.heap.size, 5, none⟩ = some (.int .i64 o.frm) ∧ W.cell? ⟨w.heap.size, 6, none⟩ = some (.int .i64 o.to) ∧ W.cell? ⟨w.heap.size, 7, none⟩ = some (.slice S o.s.length c) ∧ W.cell? ⟨w.heap.size + 1, 0, none⟩ = some (.int .i64 q.kind) ∧ W.cell? ⟨w.heap.size + 1, 1, none⟩ = some (.int .i64 q.k) ∧ W.cell? ⟨w.heap.size + 1, 2, none⟩ = some (.int .i64 q.width) ∧ W.cell? ⟨w.heap.size + 1, 3, none⟩ = some (.int .i64 q.step) ∧ W.cell? ⟨w.heap.size + 1, 4, none⟩ = some (.int .i64 q.side) ∧ W.cell? ⟨w.heap.size + 1, 5, none⟩ = some (.int .i64 q.frm) ∧ W.cell? ⟨w.heap.size + 1, 6, none⟩ = some (.int .i64 q.to) ∧ W.cell? ⟨w.heap.size + 1, 7, none⟩ = some (.slice T q.s.length d)) (first | exact Hcells.out _ hbc | exact Hcells.out _ hbb | exact Hcells.out _ hself)
   (first
    | (go_at_call_of 129 (Value.agg #[.int .i64 o.kind, .int .i64 o.k, .int .i64 o.width, .int .i64 o.step, .int .i64 o.side, .int .i64 o.frm, .int .i64 o.to, .slice S o.s.length c]); refine (op_numbers o S c _).mono ?_; rintro e wa ⟨rfl, ha⟩; have hbb := hself.trans (ha.mono hself.size))
    | (go_at_call 129; refine (op_numbers q T d _).mono ?_; rintro e wb ⟨rfl, hb⟩; have hbb := hbb.trans (hb.mono hbb.size))
    | (go_at_call 12; refine (shape_equal S T c d o.s q.s _ ho hq (HI.out.below (hb0.trans (hbb.mono hb0.size)) (Nat.le_refl _)) (HJ.out.below (hb0.trans (hbb.mono hb0.size)) (Nat.le_refl _))).mono ?_; rintro e wd ⟨rfl, nd, rfl⟩; have hbc := Bdrawn hbb nd))
  all_goals
   go_wp2_with fail
   go_ret
   exact ⟨by rw [HE.out]; rfl, hb0.trans (hbc.mono hb0.size)⟩
end Go.Proofs.YtbnnpkcfifejmabGreat
