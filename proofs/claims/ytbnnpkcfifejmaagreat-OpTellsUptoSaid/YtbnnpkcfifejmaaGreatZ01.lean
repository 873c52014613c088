/- Lemmas for the statements of this seat: contracts of functions and the plain laws. -/
import Derived.BigQuiet
import Derived.ChangeSame
import Derived.Deep.CutBlock
import Derived.Deep.DeepCutAuto
import Derived.Deep.Draws
import Derived.Deep.Fields
import Derived.Deep.QuietTactic
import Derived.Deep.Slices
import Derived.Ground.Names2Prog
import Derived.KernelRfl
import Derived.Laws.Bits64b
import Derived.Lib.Hide
import Derived.OpenShut
import Derived.ProofKit
import Derived.Shelf.Bits.Mul64
import Derived.Shelf.Slices.Cells
import Derived.Shelf.Slices.Delete
import Derived.Shelf.Slices.Empties
import Derived.Shelf.Slices.Reverse
import Derived.Shelf.Slices.SearchI
import Derived.Shelf.Small.Bits
import Derived.Shelf.Small.Wraps
import Derived.Shelf.Strconv.Itoa0
import Derived.WalkKit
import Derived.WalkLawsBesides
import Derived.Test.YtbnnpkcfifejmaaGreatChecked
import Derived.Test.YtbnnpkcfifejmaaGreatProg
set_option linter.unusedVariables false
namespace Go.Proofs.YtbnnpkcfifejmaaGreat
open Go.RowKit
theorem or_i64_nat (a b : Nat) (ha : a < 2 ^ 62) (hb : b < 2 ^ 62) : bits .or .i64 (a : Int) (b : Int) = ((a ||| b : Nat) : Int) := by
 have hx : a ||| b < 2 ^ 62 := Nat.or_lt_two_pow ha hb
 have h1 : (BitVec.ofInt 64 (a : Int)).toNat = a := by
  rw [BitVec.ofInt_natCast, BitVec.toNat_ofNat]; exact Nat.mod_eq_of_lt (by omega)
 have h2 : (BitVec.ofInt 64 (b : Int)).toNat = b := by
  rw [BitVec.ofInt_natCast, BitVec.toNat_ofNat]; exact Nat.mod_eq_of_lt (by omega)
 show IntKind.i64.wrap ((BitVec.ofInt 64 (a : Int) ||| BitVec.ofInt 64 (b : Int)).toNat : Int) = _
 rw [BitVec.toNat_or, h1, h2, IntWalk.i64_in _ (by omega)]
theorem or_mul (a b i m : Nat) (hm : m = 2 ^ i) (h : a < m) : (b * m) ||| a = b * m + a := by
 subst hm
 rw [← Nat.shiftLeft_eq, Nat.shiftLeft_add_eq_or_of_lt h]
theorem or_byte (x y : Int) (x0 : 0 ≤ x) (x1 : x ≤ 255) (y0 : 0 ≤ y) (y1 : y ≤ 255) : bits .or .i64 (x * 256) y = x * 256 + y := by
 obtain ⟨n, rfl⟩ := Int.eq_ofNat_of_zero_le x0
 obtain ⟨m, rfl⟩ := Int.eq_ofNat_of_zero_le y0
 have e : ((n : Int) * 256) = ((n * 256 : Nat) : Int) := by omega
 rw [e, or_i64_nat _ _ (by omega) (by omega), or_mul m n 8 256 (by decide) (by omega)]
 omega
theorem or_u64_mul (a b : Nat) (ha : a * 256 + b < 18446744073709551616) (hb : b < 256) : bits .or .u64 ((a * 256 : Nat) : Int) (b : Int) = ((a * 256 + b : Nat) : Int) := by
 have h1 := bits_or_u64_nat (a * 256) b (Nat.lt_of_le_of_lt (Nat.le_add_right _ _) ha) (Nat.lt_of_le_of_lt (Nat.le_add_left _ _) ha)
 rw [h1, or_mul b a 8 256 (by decide) hb]
theorem or_u64_int (n c : Int) (n0 : 0 ≤ n) (n1 : n < 72057594037927936) (c0 : 0 ≤ c) (c1 : c ≤ 255) : bits .or .u64 (n * 256) c = n * 256 + c := by
 obtain ⟨a, rfl⟩ := Int.eq_ofNat_of_zero_le n0
 obtain ⟨b, rfl⟩ := Int.eq_ofNat_of_zero_le c0
 have e : ((a : Int) * 256) = ((a * 256 : Nat) : Int) := by omega
 rw [e, or_u64_mul a b (by omega) (by omega)]
 omega
end Go.Proofs.YtbnnpkcfifejmaaGreat
namespace Go.Proofs.YtbnnpkcfifejmaaGreat
open Go.RowKit
namespace Fx
def In (x : Int) : Prop := -9223372036854775808 ≤ x ∧ x ≤ 9223372036854775807
def clamp (z : Int) : Int := if 9223372036854775807 < z then 9223372036854775807 else if z < -9223372036854775808 then -9223372036854775808 else z
theorem clamp_in (z : Int) : In (clamp z) := by unfold clamp In; split <;> (try split) <;> omega
theorem clamp_id {z : Int} (h : In z) : clamp z = z := by unfold In at h; unfold clamp; split <;> (try split) <;> omega
theorem clamp_hi {z : Int} (h : 9223372036854775807 ≤ z) : clamp z = 9223372036854775807 := by unfold clamp; split <;> (try split) <;> omega
theorem clamp_lo {z : Int} (h : z ≤ -9223372036854775808) : clamp z = -9223372036854775808 := by unfold clamp; split <;> (try split) <;> omega
theorem in_zero : In 0 := by unfold In; omega
def add (x y : Int) : Int := clamp (x + y)
def rnd (p d : Nat) : Nat := if d < 2 * (p % d) ∨ (2 * (p % d) = d ∧ p / d % 2 = 1) then p / d + 1 else p / d
def neg2 (x y : Int) : Bool := decide (x < 0) != decide (y < 0)
def sgn (b : Bool) (n : Nat) : Int := if b then -(n : Int) else n
def mul (x y : Int) : Int := clamp (sgn (neg2 x y) (rnd (x.natAbs * y.natAbs) 4294967296))
def edge (b : Bool) : Int := if b then -9223372036854775808 else 9223372036854775807
def div (x y : Int) : Int := if y = 0 then (if x = 0 then 0 else edge (decide (x < 0))) else clamp (sgn (neg2 x y) (rnd (x.natAbs * 4294967296) y.natAbs))
theorem edge_in (b : Bool) : In (edge b) := by cases b <;> (unfold edge In; simp)
theorem add_in (x y : Int) : In (add x y) := clamp_in _
theorem mul_in (x y : Int) : In (mul x y) := clamp_in _
theorem div_in (x y : Int) : In (div x y) := by
 unfold div
 split
 ·split
  ·exact in_zero
  ·exact edge_in _
 ·exact clamp_in _
theorem clamp_sgn_big {b : Bool} {n : Nat} (h : 9223372036854775808 ≤ n) : clamp (sgn b n) = edge b := by
 cases b
 ·exact clamp_hi (by simp [sgn]; omega)
 ·exact clamp_lo (by simp [sgn]; omega)
theorem clamp_sgn_small {b : Bool} {n : Nat} (h : n < 9223372036854775808) : clamp (sgn b n) = sgn b n := by
 cases b <;> exact clamp_id (by unfold In; simp [sgn]; omega)
def sum (l : List Int) : Int := l.foldl add 0
def dot (a b : List Int) : Int := (a.zip b).foldl (fun s p => add s (mul p.1 p.2)) 0
theorem foldl_in {α : Type} (f : Int → α → Int) (hf : ∀ s x, In (f s x)) (l : List α) (s : Int) (hs : In s) : In (l.foldl f s) := by
 induction l generalizing s with
 | nil => exact hs
 | cons x r ih => exact ih _ (hf s x)
theorem sum_in (l : List Int) : In (sum l) := foldl_in _ (fun s x => add_in s x) _ _ in_zero
theorem dot_in (a b : List Int) : In (dot a b) := foldl_in _ (fun s x => add_in _ _) _ _ in_zero
def held (x low high : Int) : Int := if high < x then high else if x < low then low else x
theorem held_in {x low high : Int} (hx : In x) (hl : In low) (hh : In high) : In (held x low high) := by unfold held; split <;> (try split) <;> assumption
def neg (x : Int) : Int := if x = -9223372036854775808 then 9223372036854775807 else -x
end Fx
theorem wrap_neg (v : BitVec 64) : IntKind.i64.wrap (v.toNat : Int) < 0 ↔ v.msb = true := by
 have := v.isLt
 rw [IntKind.wrap_i64, BitVec.msb_eq_decide]
 simp
 omega
theorem ofInt_msb {a : Int} (h : Fx.In a) : (BitVec.ofInt 64 a).msb = decide (a < 0) := by
 unfold Fx.In at h
 rw [BitVec.msb_eq_decide, BitVec.toNat_ofInt]
 simp only [decide_eq_decide]
 omega
theorem wrap_in (n : Int) : Fx.In (IntKind.i64.wrap n) := by unfold Fx.In; rw [IntKind.wrap_i64]; omega
theorem ofInt_wrap (v : BitVec 64) : BitVec.ofInt 64 (IntKind.i64.wrap (v.toNat : Int)) = v := by
 have := v.isLt
 apply BitVec.eq_of_toNat_eq
 rw [BitVec.toNat_ofInt, IntKind.wrap_i64]
 omega
theorem xor_neg {a b : Int} (ha : Fx.In a) (hb : Fx.In b) : bits .xor .i64 a b < 0 ↔ (decide (a < 0) != decide (b < 0)) = true := by
 show IntKind.i64.wrap ((BitVec.ofInt 64 a ^^^ BitVec.ofInt 64 b).toNat : Int) < 0 ↔ _
 rw [wrap_neg, BitVec.msb_xor, ofInt_msb ha, ofInt_msb hb]
theorem bits_in (o : BinOp) (a b : Int) : Fx.In (bits o .i64 a b) := wrap_in _
theorem and_neg {a b : Int} (ha : Fx.In a) (hb : Fx.In b) : bits .and .i64 a b < 0 ↔ a < 0 ∧ b < 0 := by
 show IntKind.i64.wrap ((BitVec.ofInt 64 a &&& BitVec.ofInt 64 b).toNat : Int) < 0 ↔ _
 rw [wrap_neg, BitVec.msb_and, ofInt_msb ha, ofInt_msb hb]
 simp
theorem add_over {x y s : Int} (hx : Fx.In x) (hy : Fx.In y) (hs : s = IntKind.i64.wrap (x + y)) : bits .and .i64 (bits .xor .i64 x s) (bits .xor .i64 y s) < 0 ↔ ¬ Fx.In (x + y) := by
 have hsi : Fx.In s := by rw [hs]; exact wrap_in _
 rw [and_neg (bits_in _ _ _) (bits_in _ _ _), xor_neg hx hsi, xor_neg hy hsi]
 simp only [bne_iff_ne, ne_eq, decide_eq_decide]
 unfold Fx.In at *
 rw [IntKind.wrap_i64] at hs
 omega
theorem add_no {x y : Int} (h : Fx.In (x + y)) : IntKind.i64.wrap (x + y) = Fx.add x y := by
 unfold Fx.add
 rw [Fx.clamp_id h]
 unfold Fx.In at h
 rw [IntKind.wrap_i64]; omega
theorem add_yes {x y : Int} (hx : Fx.In x) (hy : Fx.In y) (h : ¬ Fx.In (x + y)) : Fx.add x y = Fx.edge (decide (x < 0)) := by
 unfold Fx.add
 unfold Fx.In at *
 by_cases hn : x < 0
 ·rw [Fx.clamp_lo (by omega)]; simp [Fx.edge, hn]
 ·rw [Fx.clamp_hi (by omega)]; simp [Fx.edge, hn]
end Go.Proofs.YtbnnpkcfifejmaaGreat
namespace Go.Proofs.YtbnnpkcfifejmaaGreat
open Go.RowKit
theorem enters {P : Program} {f : FuncId} {fn : Func} {c : Code} (hf : P.funcs[f]? = some fn) (hname : (fn.name == "runtime.NumGoroutine") = false) (hb : fn.body = some c) (args : Array Value) (w : World) :
  (callFunc f args).run P w = .ok (.enter f args) w := by
 have h1 : fn.name ≠ "runtime.NumGoroutine" := by simpa using hname
 simp [callFunc, hf, h1, hb]
theorem Bdrawn {B : Nat} {a w : World} (h : Below B a w) (n : Nat) : Below B a (w.drewN n) := ⟨h.os, h.tape, h.output, h.size, h.block⟩
def Blk (w : World) (g : Nat) (t : TypeId) (cs : Array Value) : Prop := w.heap[g]? = some (.cells cs t (0, 0))
section
variable {w w' : World} {g : Nat} {t : TypeId} {cs : Array Value}
theorem Blk.lt (h : Blk w g t cs) : g < w.heap.size := lt_of_block h
theorem Blk.cell (h : Blk w g t cs) (i : Nat) : w.cell? ⟨g, i, none⟩ = cs[i]? := cell_of_row w g i cs t (0, 0) h
theorem Blk.frozen (h : Blk w g t cs) (i : Nat) : w.frozen? ⟨g, i, none⟩ = false := by
 unfold Blk at h
 simp [World.frozen?, h]
theorem Blk.new (w : World) (t : TypeId) (cs : Array Value) : Blk (w.alloc (.cells cs t)) w.heap.size t cs := heap_alloc_new w _
theorem Blk.drew (h : Blk w g t cs) : Blk w.drew g t cs := h
theorem Blk.drewN (h : Blk w g t cs) (n : Nat) : Blk (w.drewN n) g t cs := h
theorem Blk.alloc (h : Blk w g t cs) (o : Obj) : Blk (w.alloc o) g t cs := (Below.heap_alloc w o g h.lt).trans h
theorem Blk.set_ (h : Blk w g t cs) (i : Nat) (u : Value) : Blk (w.setCell ⟨g, i, none⟩ u) g t (cs.setIfInBounds i u) := by
 unfold Blk at h ⊢
 simp [World.setCell, Array.getElem?_modify, h]
theorem Blk.far (h : Blk w g t cs) {p : Addr} (hp : g ≠ p.block) (u : Value) : Blk (w.setCell p u) g t cs := (Below.heap_setCell w p u g hp).trans h
theorem Blk.below {B : Nat} (h : Blk w g t cs) (hb : Below B w w') (hg : g < B) : Blk w' g t cs := (hb.block g hg).trans h
theorem Blk.grown {row : Option Nat} (h : Blk w g t cs) (hb : w.grownBy w' row) (hg : some g ≠ row) : Blk w' g t cs := (hb.block g h.lt hg).trans h
end
def Ints (k : IntKind) (w : World) (A : Option Addr) (zs : List Int) : Prop :=
 ∀ j, j < zs.length → ∃ b off, A = some ⟨b, off, none⟩ ∧ b < w.heap.size ∧ w.cell? ⟨b, off + j, none⟩ = some (.int k (zs.getD j 0))
section
variable {k : IntKind} {w w' : World} {A : Option Addr} {zs : List Int}
theorem Ints.nil : Ints k w A [] := fun j hj => by simp at hj
theorem Ints.below {B : Nat} (h : Ints k w A zs) (hb : Below B w w') (hB : w.heap.size ≤ B) : Ints k w' A zs := fun j hj => by
 obtain ⟨b, off, e, hl, hc⟩ := h j hj
 exact ⟨b, off, e, Nat.lt_of_lt_of_le hl hb.size, (hb.cell (p := ⟨b, off + j, none⟩) (Nat.lt_of_lt_of_le hl hB)).trans hc⟩
theorem Ints.alloc (h : Ints k w A zs) (o : Obj) : Ints k (w.alloc o) A zs := h.below ((Below.refl _ _).alloc (Nat.le_refl _) o) (Nat.le_refl _)
theorem Ints.drew (h : Ints k w A zs) : Ints k w.drew A zs := h
theorem Ints.drewN (h : Ints k w A zs) (n : Nat) : Ints k (w.drewN n) A zs := h
theorem Ints.of_row {b off : Nat} (hc : ∀ j, j < zs.length → w.cell? ⟨b, off + j, none⟩ = some (.int k (zs.getD j 0))) : Ints k w (some ⟨b, off, none⟩) zs :=
 fun j hj => ⟨b, off, rfl, World.block_lt_of_cell? _ _ (hc j hj), hc j hj⟩
end
theorem ret_int {k : IntKind} {a b : Int} (h : a = b) : Ending.returned (.int k a) = .returned (.int k b) := by rw [h]
theorem ret_bool {a b : Bool} (h : a = b) : Ending.returned (.bool a) = .returned (.bool b) := by rw [h]
theorem Ints.of_came {k : IntKind} {w : World} {a : Option Addr} {len cap : Nat} {zs : List Int}
  (h : (a = none ∧ len = 0 ∧ cap = 0 ∧ zs = []) ∨ ∃ x, a = some x ∧ len ≤ cap ∧ cap ≤ maxLen ∧ zs.length = cap ∧ (∀ i, i < zs.length → w.cell? (x.add i) = some (.int k (zs.getD i 0))) ∧ ∀ n ∈ zs, (Lit.int k n).wf = true) :
  Ints k w a (zs.take len) ∧ (zs.take len).length = len ∧ (∀ n ∈ zs.take len, (Lit.int k n).wf = true) ∧ len ≤ maxLen := by
 rcases h with ⟨rfl, rfl, rfl, rfl⟩ | ⟨x, rfl, hl, hm, hz, hc, hw⟩
 ·exact ⟨Ints.nil, rfl, by simp, by simp⟩
 ·refine ⟨fun j hj => ?_, by simp; omega, fun n hn => hw n (List.mem_of_mem_take hn), by omega⟩
  have hj' : j < len := by simp at hj; omega
  have hc' := hc j (by omega)
  obtain ⟨b, off, spot⟩ := x
  have hs : spot = none := by simpa [Addr.add] using World.cell?_spot (hc 0 (by omega))
  subst hs
  have hc2 : w.cell? ⟨b, off + j, none⟩ = some (.int k (zs.getD j 0)) := by
   by_cases h0 : j = 0
   ·subst h0; simpa [Addr.add] using hc'
   ·simpa [Addr.add, h0] using hc'
  refine ⟨b, off, rfl, World.block_lt_of_cell? _ _ hc2, ?_⟩
  rw [hc2]
  have e : (zs.take len).getD j 0 = zs.getD j 0 := by simp [List.getD_eq_getElem?_getD, hj']
  rw [e]
end Go.Proofs.YtbnnpkcfifejmaaGreat
namespace Go.Proofs.YtbnnpkcfifejmaaGreat
open Go.RowKit
theorem wf_bd {n : Int} (h : (Lit.int .i64 n).wf = true) : -9223372036854775808 ≤ n ∧ n ≤ 9223372036854775807 := by
 have hmin : IntKind.i64.min = -9223372036854775808 := rfl
 have hmax : IntKind.i64.max = 9223372036854775807 := rfl
 simp only [Lit.wf, Bool.and_eq_true, decide_eq_true_eq] at h
 omega
theorem wf_bd8 {n : Int} (h : (Lit.int .u8 n).wf = true) : 0 ≤ n ∧ n ≤ 255 := by
 have hmin : IntKind.u8.min = 0 := rfl
 have hmax : IntKind.u8.max = 255 := rfl
 simp only [Lit.wf, Bool.and_eq_true, decide_eq_true_eq] at h
 omega
theorem ints_came {k : IntKind} {w : World} {a : Option Addr} {len cap : Nat} {zs : List Int}
  (h : (a = none ∧ len = 0 ∧ cap = 0 ∧ zs = []) ∨ ∃ x, a = some x ∧ len ≤ cap ∧ cap ≤ maxLen ∧ zs.length = cap ∧ (∀ i, i < zs.length → w.cell? (x.add i) = some (.int k (zs.getD i 0))) ∧ ∀ n ∈ zs, (Lit.int k n).wf = true) :
  ∃ ys : List Int, ys.length = len ∧ ys.length ≤ 9223372036854775807 ∧ Ints k w a ys ∧ ∀ n ∈ ys, (Lit.int k n).wf = true := by
 obtain ⟨h1, h2, h3, h4⟩ := Ints.of_came h
 exact ⟨zs.take len, h2, by rw [h2]; unfold maxLen at h4; omega, h1, h3⟩
end Go.Proofs.YtbnnpkcfifejmaaGreat
namespace Go.Proofs.YtbnnpkcfifejmaaGreat
open Go.RowKit
theorem Ints.of_own {k : IntKind} {w : World} {base : Nat} {e : TypeId} {v : Value} {n : Nat} {zs : List Int} (h : w.ownsRow base e 1 v n (zs.map (Value.int k))) :
  ∃ A c, v = .slice A zs.length c ∧ n = zs.length ∧ Ints k w A zs := by
 have hn : zs.length = n := by have := h.1; simpa using this
 subst hn
 rcases h.2 with ⟨rfl, h0⟩ | ⟨g, cap, cur, rfl, hb, hh, r1, r2, r3, r4⟩
 ·have : zs = [] := List.eq_nil_of_length_eq_zero h0
  subst this
  exact ⟨none, 0, rfl, rfl, Ints.nil⟩
 ·refine ⟨_, cap, rfl, rfl, Ints.of_row fun j hj => ?_⟩
  rw [Nat.zero_add, h.cellAt j (by simpa using hj)]
  simp [hj]
theorem one_new (w : World) (t : TypeId) (v : Value) : ∀ (j : Nat) (u : Value), [v][j]? = some u → (w.alloc (.cells #[v] t)).cell? (Addr.add ⟨w.heap.size, 0, none⟩ j) = some u := by
 intro j u hj
 match j, hj with
 | 0, hj => simp at hj; subst hj; simp [Addr.add]
theorem one_new2 (w : World) (o : Obj) (t : TypeId) (v : Value) : ∀ (j : Nat) (u : Value), [v][j]? = some u → ((w.alloc o).alloc (.cells #[v] t)).cell? (Addr.add ⟨w.heap.size + 1, 0, none⟩ j) = some u := by
 have := one_new (w.alloc o) t v
 rw [World.size_alloc] at this
 exact this
theorem run_string_of {P : Program} {w : World} {A : Option Addr} {zs : List Int} (c : Nat) (src e dst : TypeId) (hs : P.underlying src = some (.slice e)) (he : P.underlying e = some (.int .u8)) (hd : P.underlying dst = some .string) (h : Ints .u8 w A zs) :
  (convert src dst (.slice A zs.length c)).run P w = .ok (.string (strOfNums zs)) w := by
 rcases zs with _ | ⟨z, r⟩
 ·rcases A with _ | a
  ·exact run_convert_bytes_nil w src e hs he 0 c dst hd
  ·rw [run_convert_bytes_string w src dst e _ _ c hs he hd]
   exact run_bytesToString w a 0 c [] (run_loadCells_list (P := P) w a [] (fun j v hj => by simp at hj))
 ·obtain ⟨b, off, rfl, hb, _⟩ := h 0 (by simp)
  refine run_convert_bytes_arg w src e hs he b off _ c (z :: r) rfl (fun i hi => ?_) dst hd
  obtain ⟨b', off', e', _, hc⟩ := h i hi
  injection e' with e'
  injection e' with e1 e2
  subst e1; subst e2
  exact hc
theorem strOfNums_append (a b : List Int) : strOfNums (a ++ b) = strOfNums a ++ strOfNums b := by
 unfold strOfNums
 rw [List.map_append, ByteArray.mk_append_mk]
theorem strOfNums_beq (a b : List Int) (h : a = b) : ((strOfNums a).toList == (strOfNums b).toList) = true := by subst h; simp
theorem wf_u8 {n : Int} (h : 0 ≤ n ∧ n ≤ 255) : (Lit.int .u8 n).wf = true := by
 have hmin : IntKind.u8.min = 0 := rfl
 have hmax : IntKind.u8.max = 255 := rfl
 simp only [Lit.wf, Bool.and_eq_true, decide_eq_true_eq]
 omega
theorem quiet_same {P : Program} {f : FuncId} {args : Array Value} {w : World} {n : Nat} {v : Value}
  (h : Calls P f args (w.drewN n) fun e w' => e = .returned v ∧ w.drewN n = w') : Calls P f args (w.drewN n) fun e w'' => e = .returned v ∧ ∃ m, w'' = w.drewN m :=
 h.mono fun _ _ ⟨he, hm⟩ => ⟨he, n, hm.symm⟩
theorem quiet_drawn {P : Program} {f : FuncId} {args : Array Value} {w : World} {n : Nat} {v : Value}
  (h : Calls P f args (w.drewN n) fun e w' => e = .returned v ∧ ∃ m, w' = (w.drewN n).drewN m) : Calls P f args (w.drewN n) fun e w'' => e = .returned v ∧ ∃ m, w'' = w.drewN m :=
 h.mono fun _ _ ⟨he, m, hm⟩ => ⟨he, n + m, hm.trans (World.drewN_drewN _ _ _)⟩
end Go.Proofs.YtbnnpkcfifejmaaGreat
namespace Go.Proofs.YtbnnpkcfifejmaaGreat
open Go.RowKit
theorem fix_edge (b : Bool) (w : World) : Calls Tryz.prog 110 #[.bool b] w fun e w' => e = .returned (.int .i64 (Fx.edge b)) ∧ w = w' := by
 cases b
 all_goals
  go_enter Tryz.func110, Tryz.ntmps110
  go_wp2_with fail
  go_ret
  exact ⟨rfl, rfl⟩
theorem wrap64_same (n : Int) : wrap64 n = IntKind.i64.wrap n := by unfold wrap64; rw [IntKind.wrap_i64]
theorem fix_add (x y : Int) (w : World) (hx : Fx.In x) (hy : Fx.In y) : Calls Tryz.prog 55 #[.int .i64 x, .int .i64 y] w fun e w' => e = .returned (.int .i64 (Fx.add x y)) ∧ w = w' := by
 have H := Lib.hid (add_over hx hy rfl)
 by_cases h : Fx.In (x + y)
 ·have HA := Lib.hid (add_no h)
  have b1 : -9223372036854775808 ≤ x + y := h.1
  have b2 : x + y ≤ 9223372036854775807 := h.2
  have HB := Lib.hid (show IntKind.i64.wrap (x + y) = x + y from IntWalk.i64_in _ ⟨b1, b2⟩)
  have hB : 0 ≤ bits .and .i64 (bits .xor .i64 x (x + y)) (bits .xor .i64 y (x + y)) := by
   have := H.out
   rw [HB.out] at this
   exact Int.not_lt.1 fun k => (this.1 k) h
  clear H hx hy h
  go_enter Tryz.func55, Tryz.ntmps55
  go_wp2_with fail
  go_ret
  exact ⟨ret_int (by rw [← HA.out, HB.out]), rfl⟩
 ·have HA := Lib.hid (add_yes hx hy h)
  have hB : bits .and .i64 (bits .xor .i64 x (wrap64 (x + y))) (bits .xor .i64 y (wrap64 (x + y))) < 0 := by
   rw [wrap64_same]
   exact H.out.2 h
  clear H hx hy
  have Hh := Lib.hid h
  clear h
  go_enter Tryz.func55, Tryz.ntmps55
  go_wp2_with fail
  refine (fix_edge _ _).mono ?_
  rintro e w1 ⟨rfl, rfl⟩
  go_wp2_with fail
  go_ret
  exact ⟨ret_int HA.out.symm, rfl⟩
theorem fix_size (x : Int) (w : World) (hx : Fx.In x) : Calls Tryz.prog 109 #[.int .i64 x] w fun e w' => e = .returned (.int .u64 (x.natAbs : Int)) ∧ w = w' := by
 obtain ⟨h1, h2⟩ := hx
 by_cases h : x < 0
 ·have e : IntKind.u64.wrap (-IntKind.u64.wrap x) = (x.natAbs : Int) := by rw [IntKind.wrap_u64, IntKind.wrap_u64]; omega
  have E := Lib.hid e
  clear e
  go_enter Tryz.func109, Tryz.ntmps109
  go_wp2_with fail
  go_ret
  exact ⟨ret_int E.out, rfl⟩
 ·have E := Lib.hid (show x = (x.natAbs : Int) by omega)
  go_enter Tryz.func109, Tryz.ntmps109
  go_wp2_with fail
  go_ret
  exact ⟨ret_int E.out, rfl⟩
theorem fix_signed_int (q : Int) (b : Bool) (w : World) (h0 : 0 ≤ q) (hq : q < 18446744073709551616) : Calls Tryz.prog 111 #[.int .u64 q, .bool b] w fun e w' => e = .returned (.int .i64 (Fx.clamp (Fx.sgn b q.toNat))) ∧ w = w' := by
 by_cases h : 9223372036854775808 ≤ q
 ·have HE := Lib.hid (Fx.clamp_sgn_big (b := b) (n := q.toNat) (by omega))
  cases b
  all_goals
   go_enter Tryz.func111, Tryz.ntmps111
   go_wp2_with fail
   refine (fix_edge _ _).mono ?_
   rintro e w1 ⟨rfl, rfl⟩
   go_wp2_with fail
   go_ret
   exact ⟨ret_int HE.out.symm, rfl⟩
 ·have HE := fun b => Fx.clamp_sgn_small (b := b) (n := q.toNat) (by omega)
  have E1 := Lib.hid (HE true)
  have E2 := Lib.hid (HE false)
  clear HE
  have hq2 : q ≤ 9223372036854775807 := by omega
  clear hq h
  cases b
  ·have E := Lib.hid (show q = Fx.sgn false q.toNat by simp [Fx.sgn]; omega)
   go_enter Tryz.func111, Tryz.ntmps111
   go_wp2_with fail
   go_ret
   exact ⟨ret_int (by rw [E2.out]; exact E.out), rfl⟩
  ·have E := Lib.hid (show -q = Fx.sgn true q.toNat by simp [Fx.sgn]; omega)
   go_enter Tryz.func111, Tryz.ntmps111
   go_wp2_with fail
   go_ret
   exact ⟨ret_int (by rw [E1.out]; exact E.out), rfl⟩
theorem fix_signed (q : Nat) (b : Bool) (w : World) (hq : (q : Int) < 18446744073709551616) : Calls Tryz.prog 111 #[.int .u64 q, .bool b] w fun e w' => e = .returned (.int .i64 (Fx.clamp (Fx.sgn b q))) ∧ w = w' := fix_signed_int q b w (by omega) hq
end Go.Proofs.YtbnnpkcfifejmaaGreat
namespace Go.Proofs
open Go.Shelf
def Tryz.lays134_ren : Go.Shelf.Ren := ⟨fun | 134 => 148 | 129 => 158 | n => n, fun | 53 => 166 | 3 => 3 | 4 => 4 | 46 => 171 | 5 => 5 | 9 => 9 | n => n, fun | n => n⟩
theorem Tryz.lays134 : Go.Proofs.Lays.n134 Tryz.prog Tryz.lays134_ren := {
 mixed := by kernel_rfl
 f129 := Tryz.func158.trans (congrArg some (by kernel_rfl))
 f134 := Tryz.func148.trans (congrArg some (by kernel_rfl))
 t3 := Tryz.underlying3
 a3 := Tryz.isAgg3
 z3 := Tryz.sizeOf3
 v3 := Tryz.zeroValue3
 t4 := Tryz.underlying4
 a4 := Tryz.isAgg4
 z4 := Tryz.sizeOf4
 v4 := Tryz.zeroValue4
 t5 := Tryz.underlying5
 a5 := Tryz.isAgg5
 z5 := Tryz.sizeOf5
 v5 := Tryz.zeroValue5
 t9 := Tryz.underlying9
 a9 := Tryz.isAgg9
 z9 := Tryz.sizeOf9
 v9 := Tryz.zeroValue9
 t46 := Tryz.underlying171
 a46 := Tryz.isAgg171
 z46 := Tryz.sizeOf171
 v46 := Tryz.zeroValue171
 t53 := Tryz.underlying166
 a53 := Tryz.isAgg166
 z53 := Tryz.sizeOf166
 v53 := Tryz.zeroValue166 }
theorem Tryz.bits_LeadingZeros64 (x : Int) (w : World) (h0 : 0 ≤ x) (h1 : x ≤ 18446744073709551615) :
  Calls Tryz.prog 148 #[.int .u64 x] w fun e w' => e = .returned (.int .i64 (64 - (Lib.bitLen x.toNat : Int))) ∧ w' = w := Any.bits_LeadingZeros64 Tryz.lays134 x w h0 h1
def Tryz.lays215_ren : Go.Shelf.Ren := ⟨fun | 215 => 175 | n => n, fun | 3 => 3 | 4 => 4 | n => n, fun | n => n⟩
theorem Tryz.lays215 : Go.Proofs.Lays.n215 Tryz.prog Tryz.lays215_ren := {
 mixed := by kernel_rfl
 f215 := Tryz.func175.trans (congrArg some (by kernel_rfl))
 t3 := Tryz.underlying3
 a3 := Tryz.isAgg3
 z3 := Tryz.sizeOf3
 v3 := Tryz.zeroValue3
 t4 := Tryz.underlying4
 a4 := Tryz.isAgg4
 z4 := Tryz.sizeOf4
 v4 := Tryz.zeroValue4 }
open Go.RowKit in
theorem Tryz.cmp_isNaN_int (x : Int) (w : World) :
  Calls Tryz.prog 175 #[.int .i64 x] w fun e w' => e = .returned (.bool false) ∧ w' = w := Any.cmp_isNaN_int Tryz.lays215 x w
def Tryz.lays129_ren : Go.Shelf.Ren := ⟨fun | 129 => 158 | n => n, fun | 53 => 166 | 3 => 3 | 4 => 4 | 46 => 171 | 5 => 5 | 9 => 9 | n => n, fun | n => n⟩
theorem Tryz.lays129 : Go.Proofs.Lays.n129 Tryz.prog Tryz.lays129_ren := {
 mixed := by kernel_rfl
 f129 := Tryz.func158.trans (congrArg some (by kernel_rfl))
 t3 := Tryz.underlying3
 a3 := Tryz.isAgg3
 z3 := Tryz.sizeOf3
 v3 := Tryz.zeroValue3
 t4 := Tryz.underlying4
 a4 := Tryz.isAgg4
 z4 := Tryz.sizeOf4
 v4 := Tryz.zeroValue4
 t5 := Tryz.underlying5
 a5 := Tryz.isAgg5
 z5 := Tryz.sizeOf5
 v5 := Tryz.zeroValue5
 t9 := Tryz.underlying9
 a9 := Tryz.isAgg9
 z9 := Tryz.sizeOf9
 v9 := Tryz.zeroValue9
 t46 := Tryz.underlying171
 a46 := Tryz.isAgg171
 z46 := Tryz.sizeOf171
 v46 := Tryz.zeroValue171
 t53 := Tryz.underlying166
 a53 := Tryz.isAgg166
 z53 := Tryz.sizeOf166
 v53 := Tryz.zeroValue166 }
theorem Tryz.bits_Len64 (x : Int) (w : World) (h0 : 0 ≤ x) (h1 : x ≤ 18446744073709551615) :
  Calls Tryz.prog 158 #[.int .u64 x] w fun e w' => e = .returned (.int .i64 (Lib.bitLen x.toNat)) ∧ w' = w := Any.bits_Len64 Tryz.lays129 x w h0 h1
def Tryz.lays264_ren : Go.Shelf.Ren := ⟨fun | 264 => 108 | n => n, fun | 53 => 166 | 46 => 171 | n => n, fun | n => n⟩
theorem Tryz.lays264 : Go.Proofs.Lays.n264 Tryz.prog Tryz.lays264_ren := {
 mixed := by kernel_rfl
 f264 := Tryz.func108.trans (congrArg some (by kernel_rfl))
 t46 := Tryz.underlying171
 a46 := Tryz.isAgg171
 z46 := Tryz.sizeOf171
 v46 := Tryz.zeroValue171
 t53 := Tryz.underlying166
 a53 := Tryz.isAgg166
 z53 := Tryz.sizeOf166
 v53 := Tryz.zeroValue166 }
open Go.RowKit Go.Lib in
theorem Tryz.bits_Mul64 (x y : Nat) (hx : x < 18446744073709551616) (hy : y < 18446744073709551616) (w : World) :
  Calls Tryz.prog 108 #[.int .u64 x, .int .u64 y] w fun e w' => e = .returned (.tuple #[.int .u64 ((x * y / 18446744073709551616 : Nat) : Int), .int .u64 ((x * y % 18446744073709551616 : Nat) : Int)]) ∧ w' = w := Any.bits_Mul64 Tryz.lays264 x y hx hy w
def Tryz.lays112_ren : Go.Shelf.Ren := ⟨fun | 112 => 177 | n => n, fun | 28 => 23 | 3 => 3 | 4 => 4 | 0 => 0 | n => n, fun | n => n⟩
theorem Tryz.lays112 : Go.Proofs.Lays.n112 Tryz.prog Tryz.lays112_ren := {
 mixed := by kernel_rfl
 f112 := Tryz.func177.trans (congrArg some (by kernel_rfl))
 t0 := Tryz.underlying0
 a0 := Tryz.isAgg0
 z0 := Tryz.sizeOf0
 v0 := Tryz.zeroValue0
 t3 := Tryz.underlying3
 a3 := Tryz.isAgg3
 z3 := Tryz.sizeOf3
 v3 := Tryz.zeroValue3
 t4 := Tryz.underlying4
 a4 := Tryz.isAgg4
 z4 := Tryz.sizeOf4
 v4 := Tryz.zeroValue4
 t28 := Tryz.underlying23
 a28 := Tryz.isAgg23
 z28 := Tryz.sizeOf23
 v28 := Tryz.zeroValue23 }
open Go.RowKit Go.Lib Go.Sort in
theorem Tryz.slices_Reverse_int_arr (blk off cap : Nat) (d : Array Int) (w : World) (hH : Holds encI w blk off d) (hsz : d.size ≤ 9223372036854775807) :
  Calls Tryz.prog 177 #[.slice (some ⟨blk, off, none⟩) d.size cap] w fun e w' => e = .returned (.tuple #[]) ∧ ∃ n, w' = putRow encI (Sort.ahead w n) blk off d.reverse := Any.slices_Reverse_int_arr Tryz.lays112 blk off cap d w hH hsz
open Go.RowKit Go.Lib Go.Sort in
theorem Tryz.slices_Reverse_int (blk off cap : Nat) (zs : List Int) (w : World) (hH : Holds (Value.int .i64) w blk off zs.toArray) (hsz : zs.length ≤ 9223372036854775807) :
  Calls Tryz.prog 177 #[.slice (some ⟨blk, off, none⟩) zs.length cap] w fun e w' => e = .returned (.tuple #[]) ∧ ∃ n, w' = putRow (Value.int .i64) (Sort.ahead w n) blk off zs.reverse.toArray := Any.slices_Reverse_int Tryz.lays112 blk off cap zs w hH hsz
open Go.RowKit Go.Lib Go.Sort in
theorem Tryz.slices_Reverse_int_empty (a : Option Addr) (cap : Nat) (w : World) :
  Calls Tryz.prog 177 #[.slice a 0 cap] w fun e w' => e = .returned (.tuple #[]) ∧ w' = w := Any.slices_Reverse_int_empty Tryz.lays112 a cap w
def Tryz.laysNm237_ren : Go.Shelf.Ren := ⟨fun | 37 => 175 | n => n, fun | 3 => 3 | 4 => 4 | n => n, fun | n => n⟩
theorem Tryz.laysNm237 : Go.Proofs.Lays2.n37 Tryz.prog Tryz.laysNm237_ren := {
 mixed := by kernel_rfl
 f37 := Tryz.func175.trans (congrArg some (by kernel_rfl))
 t3 := Tryz.underlying3
 a3 := Tryz.isAgg3
 z3 := Tryz.sizeOf3
 v3 := Tryz.zeroValue3
 t4 := Tryz.underlying4
 a4 := Tryz.isAgg4
 z4 := Tryz.sizeOf4
 v4 := Tryz.zeroValue4 }
open Go.RowKit Go.Lib in
theorem Tryz.cmp_isNaN_int2 (x : Int) (w : World) :
  Calls Tryz.prog 175 #[.int .i64 x] w fun e w' => e = .returned (.bool false) ∧ w' = w := Any.cmp_isNaN_int2 Tryz.laysNm237 x w
def Tryz.laysNm232_ren : Go.Shelf.Ren := ⟨fun | 32 => 170 | n => n, fun | 3 => 3 | 4 => 4 | n => n, fun | n => n⟩
theorem Tryz.laysNm232 : Go.Proofs.Lays2.n32 Tryz.prog Tryz.laysNm232_ren := {
 mixed := by kernel_rfl
 f32 := Tryz.func170.trans (congrArg some (by kernel_rfl))
 t3 := Tryz.underlying3
 a3 := Tryz.isAgg3
 z3 := Tryz.sizeOf3
 v3 := Tryz.zeroValue3
 t4 := Tryz.underlying4
 a4 := Tryz.isAgg4
 z4 := Tryz.sizeOf4
 v4 := Tryz.zeroValue4 }
open Go.RowKit Go.Lib in
theorem Tryz.slices_isNaN_int2 (x : Int) (w : World) :
  Calls Tryz.prog 170 #[.int .i64 x] w fun e w' => e = .returned (.bool false) ∧ w' = w := Any.slices_isNaN_int2 Tryz.laysNm232 x w
def Tryz.laysNm231_ren : Go.Shelf.Ren := ⟨fun | 31 => 169 | 37 => 175 | n => n, fun | 3 => 3 | 4 => 4 | n => n, fun | n => n⟩
theorem Tryz.laysNm231 : Go.Proofs.Lays2.n31 Tryz.prog Tryz.laysNm231_ren := {
 mixed := by kernel_rfl
 f31 := Tryz.func169.trans (congrArg some (by kernel_rfl))
 f37 := Tryz.func175.trans (congrArg some (by kernel_rfl))
 t3 := Tryz.underlying3
 a3 := Tryz.isAgg3
 z3 := Tryz.sizeOf3
 v3 := Tryz.zeroValue3
 t4 := Tryz.underlying4
 a4 := Tryz.isAgg4
 z4 := Tryz.sizeOf4
 v4 := Tryz.zeroValue4 }
open Go.RowKit Go.Lib in
theorem Tryz.cmp_Less_int2 (x y : Int) (w : World) :
  Calls Tryz.prog 169 #[.int .i64 x, .int .i64 y] w fun e w' => e = .returned (.bool (decide (x < y))) ∧ w' = w := Any.cmp_Less_int2 Tryz.laysNm231 x y w
def Tryz.laysNm225_ren : Go.Shelf.Ren := ⟨fun | 25 => 163 | 31 => 169 | 32 => 170 | 37 => 175 | n => n, fun | 22 => 23 | 3 => 3 | 4 => 4 | 40 => 171 | 0 => 0 | n => n, fun | n => n⟩
theorem Tryz.laysNm225 : Go.Proofs.Lays2.n25 Tryz.prog Tryz.laysNm225_ren := {
 mixed := by kernel_rfl
 f25 := Tryz.func163.trans (congrArg some (by kernel_rfl))
 f31 := Tryz.func169.trans (congrArg some (by kernel_rfl))
 f32 := Tryz.func170.trans (congrArg some (by kernel_rfl))
 f37 := Tryz.func175.trans (congrArg some (by kernel_rfl))
 t0 := Tryz.underlying0
 a0 := Tryz.isAgg0
 z0 := Tryz.sizeOf0
 v0 := Tryz.zeroValue0
 t3 := Tryz.underlying3
 a3 := Tryz.isAgg3
 z3 := Tryz.sizeOf3
 v3 := Tryz.zeroValue3
 t4 := Tryz.underlying4
 a4 := Tryz.isAgg4
 z4 := Tryz.sizeOf4
 v4 := Tryz.zeroValue4
 t22 := Tryz.underlying23
 a22 := Tryz.isAgg23
 z22 := Tryz.sizeOf23
 v22 := Tryz.zeroValue23
 t40 := Tryz.underlying171
 a40 := Tryz.isAgg171
 z40 := Tryz.sizeOf171
 v40 := Tryz.zeroValue171 }
open Go.RowKit Go.Lib in
theorem Tryz.slices_BinarySearch_int (b off n c : Nat) (zs : List Int) (x : Int) (w : World) (hz : n ≤ zs.length) (hbig : n < 4611686018427387904) (hc : ∀ j, j < zs.length → w.cell? ⟨b, off + j, none⟩ = some (.int .i64 (zs.getD j 0))) (hs : (zs.take n).Pairwise (· ≤ ·)) :
  Calls Tryz.prog 163 #[.slice (some ⟨b, off, none⟩) n c, .int .i64 x] w fun e w' => e = .returned (.tuple #[.int .i64 ((zs.take n).countP (· < x) : Nat), .bool ((zs.take n).contains x)]) ∧ ∃ q, w' = w.drewN q := Any.slices_BinarySearch_int Tryz.laysNm225 b off n c zs x w hz hbig hc hs
def Tryz.laysNm223_ren : Go.Shelf.Ren := ⟨fun | 23 => 162 | n => n, fun | 22 => 23 | 3 => 3 | 4 => 4 | 0 => 0 | n => n, fun | n => n⟩
theorem Tryz.laysNm223 : Go.Proofs.Lays2.n23 Tryz.prog Tryz.laysNm223_ren := {
 mixed := by kernel_rfl
 f23 := Tryz.func162.trans (congrArg some (by kernel_rfl))
 t0 := Tryz.underlying0
 a0 := Tryz.isAgg0
 z0 := Tryz.sizeOf0
 v0 := Tryz.zeroValue0
 t3 := Tryz.underlying3
 a3 := Tryz.isAgg3
 z3 := Tryz.sizeOf3
 v3 := Tryz.zeroValue3
 t4 := Tryz.underlying4
 a4 := Tryz.isAgg4
 z4 := Tryz.sizeOf4
 v4 := Tryz.zeroValue4
 t22 := Tryz.underlying23
 a22 := Tryz.isAgg23
 z22 := Tryz.sizeOf23
 v22 := Tryz.zeroValue23
 i3 := by kernel_rfl }
open Go.RowKit Go.Lib Go.Sort in
theorem Tryz.slices_Delete_int_arr (blk off cap i j : Nat) (d : Array Int) (w : World) (hH : Holds encI w blk off d) (hcap : d.size ≤ cap) (hm : cap ≤ 9223372036854775807) (hij : i ≤ j) (hj : j ≤ d.size) :
  Calls Tryz.prog 162 #[.slice (some ⟨blk, off, none⟩) d.size cap, .int .i64 i, .int .i64 j] w fun e w' => e = .returned (.slice (some ⟨blk, off, none⟩) (d.size - (j - i)) cap) ∧ ∃ q, w' = putRow encI (Sort.ahead w q) blk off (d.toList.take i ++ d.toList.drop j ++ List.replicate (j - i) 0).toArray := Any.slices_Delete_int_arr Tryz.laysNm223 blk off cap i j d w hH hcap hm hij hj
open Go.RowKit Go.Lib Go.Sort in
theorem Tryz.slices_Delete_int (blk off cap i j : Nat) (zs : List Int) (w : World) (hH : Holds (Value.int .i64) w blk off zs.toArray) (hcap : zs.length ≤ cap) (hm : cap ≤ 9223372036854775807) (hij : i ≤ j) (hj : j ≤ zs.length) :
  Calls Tryz.prog 162 #[.slice (some ⟨blk, off, none⟩) zs.length cap, .int .i64 i, .int .i64 j] w fun e w' => e = .returned (.slice (some ⟨blk, off, none⟩) (zs.length - (j - i)) cap) ∧ ∃ q, w' = putRow (Value.int .i64) (Sort.ahead w q) blk off (zs.take i ++ zs.drop j ++ List.replicate (j - i) 0).toArray := Any.slices_Delete_int Tryz.laysNm223 blk off cap i j zs w hH hcap hm hij hj
open Go.RowKit Go.Lib Go.Sort in
theorem Tryz.slices_Reverse_int_cells (b off n c : Nat) (zs : List Int) (w : World) (hz : n ≤ zs.length) (hbig : n ≤ 9223372036854775807) (hc : ∀ j, j < zs.length → w.cell? ⟨b, off + j, none⟩ = some (.int .i64 (zs.getD j 0))) (hf : ∀ j, j < n → w.frozen? ⟨b, off + j, none⟩ = false) :
  Calls Tryz.prog 177 #[.slice (some ⟨b, off, none⟩) n c] w fun e w' => e = .returned (.tuple #[]) ∧ ∃ q, w' = (w.drewN q).setCells b off ((zs.take n).reverse.map (Value.int .i64)) := Any.slices_Reverse_int_cells Tryz.lays112 b off n c zs w hz hbig hc hf
open Go.RowKit Go.Lib Go.Sort in
theorem Tryz.slices_Delete_int_cells (b off n c i j : Nat) (zs : List Int) (w : World) (hz : n ≤ zs.length) (hcap : n ≤ c) (hm : c ≤ 9223372036854775807) (hij : i ≤ j) (hj : j ≤ n) (hc : ∀ j, j < zs.length → w.cell? ⟨b, off + j, none⟩ = some (.int .i64 (zs.getD j 0))) (hf : ∀ j, j < n → w.frozen? ⟨b, off + j, none⟩ = false) :
  Calls Tryz.prog 162 #[.slice (some ⟨b, off, none⟩) n c, .int .i64 i, .int .i64 j] w fun e w' => e = .returned (.slice (some ⟨b, off, none⟩) (n - (j - i)) c) ∧ ∃ q, w' = (w.drewN q).setCells b off (((zs.take n).take i ++ (zs.take n).drop j ++ List.replicate (j - i) 0).map (Value.int .i64)) := Any.slices_Delete_int_cells Tryz.laysNm223 b off n c i j zs w hz hcap hm hij hj hc hf
open Go.RowKit Go.Lib in
theorem Tryz.slices_BinarySearch_int_empty (a : Option Addr) (c : Nat) (x : Int) (w : World) :
  Calls Tryz.prog 163 #[.slice a 0 c, .int .i64 x] w fun e w' => e = .returned (.tuple #[.int .i64 0, .bool false]) ∧ w' = w := Any.slices_BinarySearch_int_empty Tryz.laysNm225 a c x w
open Go.RowKit Go.Lib in
theorem Tryz.slices_Delete_int_empty (a : Option Addr) (c : Nat) (w : World) :
  Calls Tryz.prog 162 #[.slice a 0 c, .int .i64 0, .int .i64 0] w fun e w' => e = .returned (.slice a 0 c) ∧ w' = w := Any.slices_Delete_int_empty Tryz.laysNm223 a c w
end Go.Proofs
namespace Go.Proofs.YtbnnpkcfifejmaaGreat
open Go.RowKit
theorem natAbs_le {x : Int} (h : Fx.In x) : x.natAbs ≤ 9223372036854775808 := by unfold Fx.In at h; omega
theorem natAbs_lt {x : Int} (h : Fx.In x) : x.natAbs < 18446744073709551616 := Nat.lt_of_le_of_lt (natAbs_le h) (by decide)
theorem prod_le126 {x y : Int} (hx : Fx.In x) (hy : Fx.In y) : x.natAbs * y.natAbs ≤ 85070591730234615865843651857942052864 := Nat.mul_le_mul (natAbs_le hx) (natAbs_le hy)
theorem u64_join (p : Nat) (hp : p < 39614081257132168796771975168) : bits .or .u64 (((p / 18446744073709551616 : Nat) : Int) * 4294967296) (((p % 18446744073709551616 : Nat) : Int) / 4294967296) = ((p / 4294967296 : Nat) : Int) := by
 have e1 : (((p / 18446744073709551616 : Nat) : Int) * 4294967296) = ((p / 18446744073709551616 * 4294967296 : Nat) : Int) := by omega
 have e2 : (((p % 18446744073709551616 : Nat) : Int) / 4294967296) = ((p % 18446744073709551616 / 4294967296 : Nat) : Int) := by omega
 rw [e1, e2, bits_or_u64_nat _ _ (by omega) (by omega), or_mul _ _ 32 4294967296 (by decide) (by omega)]
 omega
theorem u64_mask (p : Nat) : bits .and .u64 ((p % 18446744073709551616 : Nat) : Int) 4294967295 = ((p % 4294967296 : Nat) : Int) := by
 have h := bits_and_u64_nat (p % 18446744073709551616) 4294967295 (by omega) (by omega)
 have e : p % 18446744073709551616 &&& 4294967295 = p % 18446744073709551616 % 4294967296 := Nat.and_two_pow_sub_one_eq_mod _ 32
 rw [e] at h
 refine h.trans ?_
 omega
theorem u64_odd (q : Nat) (hq : q < 18446744073709551616) : bits .and .u64 (q : Int) 1 = ((q % 2 : Nat) : Int) := by
 have h := bits_and_u64_nat q 1 hq (by omega)
 rw [Nat.and_one_is_mod] at h
 exact h
set_option maxRecDepth 20000 in
theorem fix_mul (x y : Int) (w : World) (hx : Fx.In x) (hy : Fx.In y) : Calls Tryz.prog 54 #[.int .i64 x, .int .i64 y] w fun e w' => e = .returned (.int .i64 (Fx.mul x y)) ∧ w = w' := by
 have HX := Lib.hid hx
 have HY := Lib.hid hy
 clear hx hy
 go_enter Tryz.func54, Tryz.ntmps54
 go_wp2_with fail
 generalize hN : (!(decide (x < 0) == decide (y < 0))) = nb
 have HN := Lib.hid (show Fx.neg2 x y = nb from hN)
 clear hN
 refine (fix_size x _ HX.out).mono ?_
 rintro e w1 ⟨rfl, rfl⟩
 go_wp2_with fail
 refine (fix_size y _ HY.out).mono ?_
 rintro e w1 ⟨rfl, rfl⟩
 go_wp2_with fail
 refine (Tryz.bits_Mul64 x.natAbs y.natAbs (natAbs_lt HX.out) (natAbs_lt HY.out) _).mono ?_
 rintro e w1 ⟨rfl, hw1⟩
 subst hw1
 obtain ⟨p, hp⟩ : ∃ p, p = x.natAbs * y.natAbs := ⟨_, rfl⟩
 have HP := Lib.hid hp
 rw [← hp]
 have hple : p ≤ 85070591730234615865843651857942052864 := by rw [hp]; exact prod_le126 HX.out HY.out
 clear hp
 obtain ⟨hi, hhi⟩ : ∃ hi : Int, hi = ((p / 18446744073709551616 : Nat) : Int) := ⟨_, rfl⟩
 obtain ⟨lo, hlo⟩ : ∃ lo : Int, lo = ((p % 18446744073709551616 : Nat) : Int) := ⟨_, rfl⟩
 rw [← hhi, ← hlo]
 have b1 : 0 ≤ hi := by omega
 have b2 : 0 ≤ lo := by omega
 have b3 : hi < 4611686018427387905 := by omega
 have b4 : lo ≤ 18446744073709551615 := by omega
 have HH := Lib.hid hhi
 have HL := Lib.hid hlo
 have Hple := Lib.hid hple
 clear hhi hlo hple
 by_cases h : 2147483648 ≤ hi
 ·have HE : RowKit.Hid (Fx.edge nb = Fx.mul x y) := by
   have h1 := HH.out
   unfold Fx.mul
   rw [← HP.out, HN.out]
   refine (Fx.clamp_sgn_big ?_).symm
   unfold Fx.rnd
   split <;> omega
  go_wp2_with fail
  refine (fix_edge nb _).mono ?_
  rintro e w1 ⟨rfl, rfl⟩
  go_wp2_with fail
  go_ret
  exact ⟨ret_int HE.out, rfl⟩
 ·have hlt : p < 39614081257132168796771975168 := by have := HH.out; have := Hple.out; omega
  have j1 := u64_join p hlt
  have j2 := u64_mask p
  have j3 := u64_odd (p / 4294967296) (by omega)
  rw [← HH.out, ← HL.out] at j1
  rw [← HL.out] at j2
  obtain ⟨q, hq⟩ : ∃ q : Int, q = ((p / 4294967296 : Nat) : Int) := ⟨_, rfl⟩
  obtain ⟨r, hr⟩ : ∃ r : Int, r = ((p % 4294967296 : Nat) : Int) := ⟨_, rfl⟩
  obtain ⟨t, ht⟩ : ∃ t : Int, t = ((p / 4294967296 % 2 : Nat) : Int) := ⟨_, rfl⟩
  have q0 : 0 ≤ q := by omega
  have q1 : q ≤ 9223372036854775807 := by omega
  have r0 : 0 ≤ r := by omega
  have r1 : r ≤ 4294967295 := by omega
  rw [← hq] at j1 j3
  rw [← hr] at j2
  rw [← ht] at j3
  have HQ := Lib.hid hq
  have HR := Lib.hid hr
  have HT := Lib.hid ht
  have Hl := Lib.hid hlt
  clear hq hr ht hlt
  have key : ∀ z : Int, 0 ≤ z → z.toNat = Fx.rnd p 4294967296 → Fx.clamp (Fx.sgn nb z.toNat) = Fx.mul x y := fun z _ hz => by
   unfold Fx.mul
   rw [← HP.out, HN.out, hz]
  have Hk := Lib.hid key
  clear key
  by_cases h1 : 2147483648 < r
  ·have d1 : decide (2147483648 < r) = true := by simpa using h1
   have d2 : (r == 2147483648) = false := by simp; omega
   have hz : (q + 1).toNat = Fx.rnd p 4294967296 := by
    have := HQ.out; have := HR.out
    unfold Fx.rnd
    rw [if_pos (by omega)]
    omega
   have Hz := Lib.hid hz
   clear hz h1
   go_wp2_with fail
   refine (fix_signed_int (q + 1) nb _ (by omega) (by omega)).mono ?_
   rintro e w1 ⟨rfl, rfl⟩
   go_wp2_with fail
   go_ret
   exact ⟨ret_int (Hk.out _ (by omega) Hz.out), rfl⟩
  ·have d1 : decide (2147483648 < r) = false := by simpa using h1
   by_cases h2 : r = 2147483648
   ·have d2 : (r == 2147483648) = true := by simpa using h2
    by_cases h3 : t = 1
    ·have d3 : (t == 1) = true := by simpa using h3
     have hz : (q + 1).toNat = Fx.rnd p 4294967296 := by
      have := HQ.out; have := HR.out; have := HT.out
      unfold Fx.rnd
      rw [if_pos (by omega)]
      omega
     have Hz := Lib.hid hz
     clear hz h1 h2 h3
     go_wp2_with fail
     refine (fix_signed_int (q + 1) nb _ (by omega) (by omega)).mono ?_
     rintro e w1 ⟨rfl, rfl⟩
     go_wp2_with fail
     go_ret
     exact ⟨ret_int (Hk.out _ (by omega) Hz.out), rfl⟩
    ·have d3 : (t == 1) = false := by simpa using h3
     have hz : q.toNat = Fx.rnd p 4294967296 := by
      have := HQ.out; have := HR.out; have := HT.out
      unfold Fx.rnd
      rw [if_neg (by omega)]
      omega
     have Hz := Lib.hid hz
     clear hz h1 h2 h3
     go_wp2_with fail
     refine (fix_signed_int q nb _ (by omega) (by omega)).mono ?_
     rintro e w1 ⟨rfl, rfl⟩
     go_wp2_with fail
     go_ret
     exact ⟨ret_int (Hk.out _ (by omega) Hz.out), rfl⟩
   ·have d2 : (r == 2147483648) = false := by simpa using h2
    have hz : q.toNat = Fx.rnd p 4294967296 := by
     have := HQ.out; have := HR.out; have := HT.out
     unfold Fx.rnd
     rw [if_neg (by omega)]
     omega
    have Hz := Lib.hid hz
    clear hz h1 h2
    go_wp2_with fail
    refine (fix_signed_int q nb _ (by omega) (by omega)).mono ?_
    rintro e w1 ⟨rfl, rfl⟩
    go_wp2_with fail
    go_ret
    exact ⟨ret_int (Hk.out _ (by omega) Hz.out), rfl⟩
end Go.Proofs.YtbnnpkcfifejmaaGreat
namespace Go.Proofs.YtbnnpkcfifejmaaGreat
namespace Kd
def more (q r b v : Nat) : Bool := decide (4294967296 ≤ q) || decide (4294967296 * r + v < q * b)
section
variable {u v y a b q r : Nat}
theorem digit_lt (hv : v < 4294967296) (hu : u < y) : (u * 4294967296 + v) / y < 4294967296 := by
 rw [Nat.div_lt_iff_lt_mul (by omega)]
 have : (u + 1) * 4294967296 ≤ y * 4294967296 := Nat.mul_le_mul_right _ hu
 rw [Nat.mul_comm 4294967296 y]
 omega
theorem prod_eq (hy : y = a * 4294967296 + b) : q * y = q * a * 4294967296 + q * b := by rw [hy, Nat.mul_add, Nat.mul_assoc]
theorem step (hy : y = a * 4294967296 + b) (hv : v < 4294967296) (hu : u < y) (hq : u = q * a + r) (h : more q r b v = true) : (u * 4294967296 + v) / y < q := by
 simp only [more, Bool.or_eq_true, decide_eq_true_eq] at h
 by_cases h1 : 4294967296 ≤ q
 ·exact Nat.lt_of_lt_of_le (digit_lt hv hu) h1
 ·rw [Nat.div_lt_iff_lt_mul (by omega), prod_eq hy]
  omega
theorem stop (hy : y = a * 4294967296 + b) (hq : u = q * a + r) (hy0 : 0 < y) (h : more q r b v = false) : q ≤ (u * 4294967296 + v) / y := by
 simp only [more, Bool.or_eq_false_iff, decide_eq_false_iff_not] at h
 rw [Nat.le_div_iff_mul_le hy0, prod_eq hy]
 omega
theorem stop_brk (hy : y = a * 4294967296 + b) (hq : u = q * a + r) (hy0 : 0 < y) (hb : b < 4294967296) (hq1 : q ≤ 4294967296) (hr : 4294967296 ≤ r) : q ≤ (u * 4294967296 + v) / y := by
 rw [Nat.le_div_iff_mul_le hy0, prod_eq hy]
 have h1 : q * b ≤ 4294967296 * b := Nat.mul_le_mul_right _ hq1
 omega
theorem first (ha : 2147483648 ≤ a) (hy : y = a * 4294967296 + b) (hb : b < 4294967296) (hu : u < y) : u / a ≤ 4294967297 := by
 have : u / a < 4294967298 := by
  rw [Nat.div_lt_iff_lt_mul (by omega)]
  omega
 omega
structure Inv (u v y a b q r : Nat) : Prop where
 eq : u = q * a + r
 ge : (u * 4294967296 + v) / y ≤ q
 le : q ≤ 4294967297
theorem Inv.start (ha : 2147483648 ≤ a) (hy : y = a * 4294967296 + b) (hb : b < 4294967296) (hv : v < 4294967296) (hu : u < y) : Inv u v y a b (u / a) (u - u / a * a) := by
 have h0 := Nat.div_mul_le_self u a
 refine ⟨by omega, ?_, first ha hy hb hu⟩
 rw [← Nat.lt_add_one_iff, Nat.div_lt_iff_lt_mul (by omega)]
 have h2 : u < (u / a + 1) * a := by rw [← Nat.div_lt_iff_lt_mul (by omega)]; omega
 have h3 : (u / a + 1) * y = (u / a + 1) * a * 4294967296 + (u / a + 1) * b := prod_eq hy
 rw [h3]
 generalize (u / a + 1) * a = t at *
 generalize (u / a + 1) * b = t2 at *
 omega
theorem Inv.next (h : Inv u v y a b q r) (hy : y = a * 4294967296 + b) (hv : v < 4294967296) (hu : u < y) (hm : more q r b v = true) : 1 ≤ q ∧ q - 1 ≤ 4294967296 ∧ Inv u v y a b (q - 1) (r + a) := by
 have h1 := step hy hv hu h.eq hm
 have h2 := h.le
 have h5 : (u * 4294967296 + v) / y ≤ q - 1 := by
  generalize (u * 4294967296 + v) / y = d at h1
  omega
 have h6 : 1 ≤ q := Nat.lt_of_le_of_lt (Nat.zero_le _) h1
 clear h1
 have h3 : q * a = (q - 1) * a + a := by
  obtain ⟨n, rfl⟩ : ∃ n, q = n + 1 := ⟨q - 1, by omega⟩
  rw [Nat.add_sub_cancel, Nat.succ_mul]
 have h4 := h.eq
 exact ⟨h6, by omega, ⟨by omega, h5, by omega⟩⟩
theorem Inv.done (h : Inv u v y a b q r) (hy : y = a * 4294967296 + b) (hy0 : 0 < y) (hm : more q r b v = false) : q = (u * 4294967296 + v) / y :=
 Nat.le_antisymm (stop hy h.eq hy0 hm) h.ge
theorem Inv.brk (h : Inv u v y a b q r) (hy : y = a * 4294967296 + b) (hy0 : 0 < y) (hb : b < 4294967296) (hq : q ≤ 4294967296) (hr : 4294967296 ≤ r) : q = (u * 4294967296 + v) / y :=
 Nat.le_antisymm (stop_brk hy h.eq hy0 hb hq hr) h.ge
end
theorem two0 {u v1 v0 y q1 r1 : Nat} (hy : 0 < y) (h1 : y * q1 + r1 = u * 4294967296 + v1) :
  (u * 18446744073709551616 + v1 * 4294967296 + v0) / y = q1 * 4294967296 + (r1 * 4294967296 + v0) / y ∧ (u * 18446744073709551616 + v1 * 4294967296 + v0) % y = (r1 * 4294967296 + v0) % y := by
 have e : u * 18446744073709551616 + v1 * 4294967296 + v0 = y * (q1 * 4294967296) + (r1 * 4294967296 + v0) := by
  rw [← Nat.mul_assoc]
  omega
 rw [e, Nat.mul_add_div hy, Nat.mul_add_mod]
 exact And.intro rfl rfl
theorem two {u v1 v0 y : Nat} (hy : 0 < y) :
  (u * 18446744073709551616 + v1 * 4294967296 + v0) / y = (u * 4294967296 + v1) / y * 4294967296 + ((u * 4294967296 + v1) % y * 4294967296 + v0) / y ∧
  (u * 18446744073709551616 + v1 * 4294967296 + v0) % y = ((u * 4294967296 + v1) % y * 4294967296 + v0) % y :=
 two0 hy (Nat.div_add_mod (u * 4294967296 + v1) y)
theorem shifted (n y s : Nat) : n * 2 ^ s / (y * 2 ^ s) = n / y ∧ n * 2 ^ s % (y * 2 ^ s) / 2 ^ s = n % y := by
 have hp : 0 < 2 ^ s := Nat.two_pow_pos s
 refine ⟨Nat.mul_div_mul_right _ _ hp, ?_⟩
 rw [Nat.mul_mod_mul_right, Nat.mul_div_cancel _ hp]
theorem words {hi lo s : Nat} (hs : s < 64) (hlo : lo < 18446744073709551616) :
  (hi * 18446744073709551616 + lo) * 2 ^ s = (hi * 2 ^ s + lo / 2 ^ (64 - s)) * 18446744073709551616 + lo * 2 ^ s % 18446744073709551616 := by
 have e : (18446744073709551616 : Nat) = 2 ^ (64 - s) * 2 ^ s := by rw [← Nat.pow_add, show 64 - s + s = 64 by omega]
 have hp : 0 < 2 ^ s := Nat.two_pow_pos s
 have h1 : lo * 2 ^ s / 18446744073709551616 = lo / 2 ^ (64 - s) := by rw [e, Nat.mul_div_mul_right _ _ hp]
 have h2 := Nat.div_add_mod (lo * 2 ^ s) 18446744073709551616
 rw [h1] at h2
 rw [Nat.add_mul, Nat.mul_right_comm]
 generalize hi * 2 ^ s = x at *
 generalize lo / 2 ^ (64 - s) = z at *
 omega
theorem low_lt {lo s : Nat} (hs : s < 64) (hlo : lo < 18446744073709551616) : lo / 2 ^ (64 - s) < 2 ^ s := by
 rw [Nat.div_lt_iff_lt_mul (Nat.two_pow_pos _), ← Nat.pow_add, show s + (64 - s) = 64 by omega]
 exact hlo
theorem high_lt {hi lo y s : Nat} (hs : s < 64) (hlo : lo < 18446744073709551616) (h : hi < y) : hi * 2 ^ s + lo / 2 ^ (64 - s) < y * 2 ^ s := by
 have h1 := low_lt hs hlo
 have h2 : (hi + 1) * 2 ^ s ≤ y * 2 ^ s := Nat.mul_le_mul_right _ h
 rw [Nat.succ_mul] at h2
 omega
end Kd
end Go.Proofs.YtbnnpkcfifejmaaGreat
namespace Go.Proofs.YtbnnpkcfifejmaaGreat
open Go.RowKit
structure Norm (hi lo y : Int) (s : Nat) (Y A B U V1 V0 : Int) : Prop where
 y0 : 0 ≤ Y
 y1 : Y ≤ 18446744073709551615
 a0 : 2147483648 ≤ A
 a1 : A ≤ 4294967295
 b0 : 0 ≤ B
 b1 : B ≤ 4294967295
 yab : Y = A * 4294967296 + B
 u0 : 0 ≤ U
 u1 : U < Y
 v0 : 0 ≤ V1
 v1 : V1 ≤ 4294967295
 w0 : 0 ≤ V0
 w1 : V0 ≤ 4294967295
 num : (hi.toNat * 18446744073709551616 + lo.toNat) * 2 ^ s = U.toNat * 18446744073709551616 + V1.toNat * 4294967296 + V0.toNat
 den : Y.toNat = y.toNat * 2 ^ s
theorem lenAux_spec : ∀ (f x : Nat), x < 2 ^ f → x < 2 ^ Lib.bitLenAux f x ∧ (x ≠ 0 → 1 ≤ Lib.bitLenAux f x ∧ 2 ^ (Lib.bitLenAux f x - 1) ≤ x)
 | 0, x, h => by simp at h; subst h; simp [Lib.bitLenAux]
 | f + 1, x, h => by
  unfold Lib.bitLenAux
  by_cases h0 : x = 0
  ·subst h0; simp
  ·rw [if_neg h0]
   have h2 : x / 2 < 2 ^ f := by rw [Nat.pow_succ] at h; omega
   obtain ⟨a, b⟩ := lenAux_spec f (x / 2) h2
   rw [Nat.add_comm, Nat.add_sub_cancel]
   refine ⟨by rw [Nat.pow_succ]; omega, fun _ => ⟨by omega, ?_⟩⟩
   by_cases h1 : x / 2 = 0
   ·rw [h1] at a
    have : Lib.bitLenAux f 0 = 0 := by cases f <;> simp [Lib.bitLenAux]
    rw [h1, this]; simp; omega
   ·obtain ⟨b1, b2⟩ := b h1
    obtain ⟨m, hm⟩ : ∃ m, Lib.bitLenAux f (x / 2) = m + 1 := ⟨_, (Nat.sub_add_cancel b1).symm⟩
    rw [hm, Nat.add_sub_cancel] at b2
    rw [hm, Nat.pow_succ]; omega
theorem bitLen_shift_bounds {y : Nat} (h0 : 1 ≤ y) (h1 : y ≤ 18446744073709551615) : Lib.bitLen y ≤ 64 ∧ 1 ≤ Lib.bitLen y ∧ 9223372036854775808 ≤ y * 2 ^ (64 - Lib.bitLen y) ∧ y * 2 ^ (64 - Lib.bitLen y) ≤ 18446744073709551615 := by
 obtain ⟨a, b⟩ := lenAux_spec 64 y (by omega)
 have b := (b (by omega)).2
 change y < 2 ^ Lib.bitLen y at a
 change 2 ^ (Lib.bitLen y - 1) ≤ y at b
 have h2 : Lib.bitLen y ≤ 64 := by
  rcases Nat.lt_or_ge 64 (Lib.bitLen y) with h | h
  ·have : 2 ^ 64 ≤ 2 ^ (Lib.bitLen y - 1) := Nat.pow_le_pow_right (by omega) (by omega)
   omega
  ·exact h
 have h3 : 1 ≤ Lib.bitLen y := by
  rcases Nat.eq_zero_or_pos (Lib.bitLen y) with h | h
  ·rw [h] at a; simp at a; omega
  ·exact h
 generalize Lib.bitLen y = m at *
 have e1 : 2 ^ (m - 1) * 2 ^ (64 - m) = 9223372036854775808 := by rw [← Nat.pow_add, show m - 1 + (64 - m) = 63 by omega]
 have e2 : 2 ^ m * 2 ^ (64 - m) = 18446744073709551616 := by rw [← Nat.pow_add, show m + (64 - m) = 64 by omega]
 have c1 : 2 ^ (m - 1) * 2 ^ (64 - m) ≤ y * 2 ^ (64 - m) := Nat.mul_le_mul_right _ b
 have c2 : y * 2 ^ (64 - m) < 2 ^ m * 2 ^ (64 - m) := Nat.mul_lt_mul_of_pos_right a (Nat.two_pow_pos _)
 rw [e1] at c1
 rw [e2] at c2
 exact ⟨h2, h3, c1, by omega⟩
theorem u64_wrapN (a : Nat) : IntKind.u64.wrap (a : Int) = ((a % 18446744073709551616 : Nat) : Int) := by rw [IntKind.wrap_u64]; omega
theorem u64_maskN (a : Nat) (ha : a < 18446744073709551616) : bits .and .u64 (a : Int) 4294967295 = ((a % 4294967296 : Nat) : Int) := by
 have h := u64_mask a
 rw [Nat.mod_eq_of_lt ha] at h
 exact h
theorem pow_cast (n : Nat) : (2 : Int) ^ n = ((2 ^ n : Nat) : Int) := by simp
theorem norm_end {h l d k : Nat} {A B U V1 V0 : Int} {yy uu ll : Nat} (w2 : uu < yy) (w3 : (h * 18446744073709551616 + l) * 2 ^ k = uu * 18446744073709551616 + ll) (hl : ll < 18446744073709551616) (m2 : 9223372036854775808 ≤ yy) (m3 : yy ≤ 18446744073709551615)
  (hA : (yy : Int) / 4294967296 = A) (hB : ((yy % 4294967296 : Nat) : Int) = B) (hU : ((uu : Nat) : Int) = U) (hV1 : (ll : Int) / 4294967296 = V1) (hV0 : ((ll % 4294967296 : Nat) : Int) = V0) (hd : yy = d * 2 ^ k) :
  Norm h l d k yy A B U V1 V0 := by
 subst hA hB hU hV1 hV0
 refine ⟨by omega, by omega, by omega, by omega, by omega, by omega, by omega, by omega, by omega, by omega, by omega, by omega, by omega, ?_, ?_⟩
 ·simp only [Int.toNat_natCast]
  rw [w3]
  omega
 ·simpa using hd
theorem norm (hi lo y s : Int) (Y A B U L V1 V0 : Int) (h0 : 0 ≤ hi) (h1 : hi < y) (h2 : y ≤ 18446744073709551615) (l0 : 0 ≤ lo) (l1 : lo ≤ 18446744073709551615) (hs : s = 64 - (Lib.bitLen y.toNat : Int))
  (hY : IntKind.u64.wrap (y * 2 ^ s.toNat) = Y) (hA : Y / 4294967296 = A) (hB : bits .and .u64 Y 4294967295 = B)
  (hU : bits .or .u64 (IntKind.u64.wrap (hi * 2 ^ s.toNat)) (lo / 2 ^ (64 - s).toNat) = U) (hL : IntKind.u64.wrap (lo * 2 ^ s.toNat) = L) (hV1 : L / 4294967296 = V1) (hV0 : bits .and .u64 L 4294967295 = V0) :
  Norm hi lo y s.toNat Y A B U V1 V0 := by
 obtain ⟨h, rfl⟩ := Int.eq_ofNat_of_zero_le h0
 obtain ⟨l, rfl⟩ := Int.eq_ofNat_of_zero_le l0
 obtain ⟨d, rfl⟩ := Int.eq_ofNat_of_zero_le (show 0 ≤ y by omega)
 obtain ⟨m0, m1, m2, m3⟩ := bitLen_shift_bounds (y := d) (by omega) (by omega)
 rw [Int.toNat_natCast] at hs
 obtain ⟨k, hk⟩ : ∃ k, k = 64 - Lib.bitLen d := ⟨_, rfl⟩
 have hk1 : s.toNat = k := by omega
 have hk2 : (64 - s).toNat = 64 - k := by omega
 have hk3 : k < 64 := by omega
 rw [← hk] at m2 m3
 rw [hk1] at hY hU hL
 rw [hk2] at hU
 rw [hk1]
 clear hs hk hk1 hk2 m0 m1
 have hlt : l < 18446744073709551616 := by omega
 have hhd : h < d := by omega
 have w1 := Kd.low_lt (lo := l) hk3 hlt
 have w2 := Kd.high_lt (hi := h) (lo := l) (y := d) hk3 hlt hhd
 have w3 := Kd.words (hi := h) hk3 hlt
 simp only [pow_cast, ← Int.natCast_mul, ← Int.natCast_ediv] at hY hU hL
 rw [u64_wrapN] at hY hU hL
 have hh : h * 2 ^ k < 18446744073709551616 := by
  generalize l / 2 ^ (64 - k) = z at w2
  generalize h * 2 ^ k = z2 at *
  generalize d * 2 ^ k = z3 at *
  omega
 rw [Nat.mod_eq_of_lt (by omega)] at hY
 rw [Nat.mod_eq_of_lt hh, bits_or_u64_nat _ _ hh (by omega), or_mul _ _ k (2 ^ k) rfl w1] at hU
 subst hY hL
 rw [u64_maskN _ (by omega)] at hB hV0
 exact norm_end w2 w3 (Nat.mod_lt _ (by decide)) m2 m3 hA hB hU hV1 hV0 rfl
def DRel (U V Y A B : Int) (q r : Int) : Prop := 0 ≤ q ∧ q ≤ 4294967297 ∧ 0 ≤ r ∧ r ≤ 4294967295 ∧ Kd.Inv U.toNat V.toNat Y.toNat A.toNat B.toNat q.toNat r.toNat
structure DOk (U V Y A B : Int) : Prop where
 y0 : 0 ≤ Y
 a0 : 2147483648 ≤ A
 a1 : A ≤ 4294967295
 b0 : 0 ≤ B
 b1 : B ≤ 4294967295
 yab : Y.toNat = A.toNat * 4294967296 + B.toNat
 u0 : 0 ≤ U
 u1 : U < Y
 v0 : 0 ≤ V
 v1 : V ≤ 4294967295
def digit (U V Y : Int) : Int := (((U.toNat * 4294967296 + V.toNat) / Y.toNat : Nat) : Int)
def drest (U V Y : Int) : Int := (((U.toNat * 4294967296 + V.toNat) % Y.toNat : Nat) : Int)
section
variable {U V Y A B q r : Int}
theorem digit_start (h : DOk U V Y A B) : 0 ≤ U / A * A ∧ U / A * A ≤ U ∧ 0 ≤ U / A ∧ U / A ≤ 4294967297 ∧ DRel U V Y A B (U / A) (U - U / A * A) := by
 obtain ⟨y0, a0, a1, b0, b1, yab, u0, u1, v0, v1⟩ := h
 obtain ⟨u, rfl⟩ := Int.eq_ofNat_of_zero_le u0
 obtain ⟨a, rfl⟩ := Int.eq_ofNat_of_zero_le (show 0 ≤ A by omega)
 have e : (u : Int) / (a : Int) = ((u / a : Nat) : Int) := by simp
 have e2 : ((u / a : Nat) : Int) * (a : Int) = ((u / a * a : Nat) : Int) := by simp
 have h0 := Nat.div_mul_le_self u a
 have hi := Kd.Inv.start (u := u) (v := V.toNat) (y := Y.toNat) (a := a) (b := B.toNat) (by omega) (by simpa using yab) (by omega) (by omega) (by omega)
 have h1 := hi.le
 have h2 := Nat.mod_lt u (show 0 < a by omega)
 have h3 := Nat.div_add_mod u a
 rw [Nat.mul_comm] at h3
 rw [e, e2]
 unfold DRel
 have e3 : ((u : Int) - ((u / a * a : Nat) : Int)).toNat = u - u / a * a := by omega
 rw [e3]
 simp only [Int.toNat_natCast]
 generalize u / a * a = x at *
 generalize u / a = z at *
 exact ⟨by omega, by omega, by omega, by omega, by omega, by omega, by omega, by omega, hi⟩
theorem digit_prod (hq : 0 ≤ q) (hq1 : q ≤ 4294967295) (hB : 0 ≤ B) (hB1 : B ≤ 4294967295) : 0 ≤ q * B ∧ q * B ≤ 18446744065119617025 := by
 refine ⟨Int.mul_nonneg hq hB, ?_⟩
 have := Int.mul_le_mul hq1 hB1 hB (by omega)
 omega
theorem more_of (hr0 : 0 ≤ r) (hq0 : 0 ≤ q) (hv0 : 0 ≤ V) (hB : 0 ≤ B) : Kd.more q.toNat r.toNat B.toNat V.toNat = (decide (4294967296 ≤ q) || decide (4294967296 * r + V < q * B)) := by
 obtain ⟨q, rfl⟩ := Int.eq_ofNat_of_zero_le hq0
 obtain ⟨r, rfl⟩ := Int.eq_ofNat_of_zero_le hr0
 obtain ⟨V, rfl⟩ := Int.eq_ofNat_of_zero_le hv0
 obtain ⟨B, rfl⟩ := Int.eq_ofNat_of_zero_le hB
 have e2 : (q : Int) * (B : Int) = ((q * B : Nat) : Int) := by simp
 unfold Kd.more
 rw [e2]
 simp only [Int.toNat_natCast]
 rw [Bool.eq_iff_iff]
 simp only [Bool.or_eq_true, decide_eq_true_eq]
 omega
theorem digit_next (h : DOk U V Y A B) (hd : DRel U V Y A B q r) (hm : (decide (4294967296 ≤ q) || decide (4294967296 * r + V < q * B)) = true) :
  1 ≤ q ∧ (r + A < 4294967296 → DRel U V Y A B (q - 1) (r + A)) ∧ (4294967296 ≤ r + A → q - 1 = digit U V Y) := by
 obtain ⟨y0, a0, a1, b0, b1, yab, u0, u1, v0, v1⟩ := h
 obtain ⟨d0, d1, d2, d3, d4⟩ := hd
 rw [← more_of d2 d0 v0 b0] at hm
 obtain ⟨k1, k2, k3⟩ := d4.next yab (by omega) (by omega) hm
 have e1 : (q - 1).toNat = q.toNat - 1 := by omega
 have e2 : (r + A).toNat = r.toNat + A.toNat := by omega
 refine ⟨by omega, fun hr => ⟨by omega, by omega, by omega, by omega, by rw [e1, e2]; exact k3⟩, fun hr => ?_⟩
 have := k3.brk yab (by omega) (by omega) (by omega) (by omega)
 unfold digit
 omega
theorem digit_done (h : DOk U V Y A B) (hd : DRel U V Y A B q r) (hm : (decide (4294967296 ≤ q) || decide (4294967296 * r + V < q * B)) = false) : q = digit U V Y := by
 obtain ⟨y0, a0, a1, b0, b1, yab, u0, u1, v0, v1⟩ := h
 obtain ⟨d0, d1, d2, d3, d4⟩ := hd
 rw [← more_of d2 d0 v0 b0] at hm
 have := d4.done yab (by omega) hm
 unfold digit
 omega
theorem digit_bd (h : DOk U V Y A B) : 0 ≤ digit U V Y ∧ digit U V Y ≤ 4294967295 ∧ 0 ≤ drest U V Y ∧ drest U V Y < Y := by
 obtain ⟨y0, a0, a1, b0, b1, yab, u0, u1, v0, v1⟩ := h
 have h1 := Kd.digit_lt (u := U.toNat) (v := V.toNat) (y := Y.toNat) (by omega) (by omega)
 have h2 := Nat.mod_lt (U.toNat * 4294967296 + V.toNat) (show 0 < Y.toNat by omega)
 unfold digit drest
 generalize (U.toNat * 4294967296 + V.toNat) / Y.toNat = x at *
 generalize (U.toNat * 4294967296 + V.toNat) % Y.toNat = z at *
 omega
theorem digit_rest (h : DOk U V Y A B) : IntKind.u64.wrap (IntKind.u64.wrap (IntKind.u64.wrap (U * 4294967296) + V) - IntKind.u64.wrap (digit U V Y * Y)) = drest U V Y := by
 have hb := digit_bd h
 obtain ⟨y0, a0, a1, b0, b1, yab, u0, u1, v0, v1⟩ := h
 have h1 := Nat.div_add_mod (U.toNat * 4294967296 + V.toNat) Y.toNat
 have e : digit U V Y * Y = ((Y.toNat * ((U.toNat * 4294967296 + V.toNat) / Y.toNat) : Nat) : Int) := by
  unfold digit
  rw [Int.natCast_mul, Int.mul_comm, Int.toNat_of_nonneg y0]
 rw [e]
 unfold drest at *
 generalize (U.toNat * 4294967296 + V.toNat) % Y.toNat = z at *
 generalize Y.toNat * ((U.toNat * 4294967296 + V.toNat) / Y.toNat) = x at *
 simp only [IntKind.wrap_u64]
 omega
end
theorem nat_two {m q1 q0 : Nat} (h : m = q1 * 4294967296 + q0) : (q1 : Int) * 4294967296 + (q0 : Int) = (m : Int) := by omega
theorem nat_shr {m r s : Nat} (h : r / 2 ^ s = m) : (r : Int) / 2 ^ s = (m : Int) := by rw [← h, pow_cast]; exact (Int.natCast_ediv _ _).symm
theorem div_nat {n y s Y u v1 v0 : Nat} (h1 : n * 2 ^ s = u * 18446744073709551616 + v1 * 4294967296 + v0) (h2 : Y = y * 2 ^ s) (hY : 0 < Y) :
  n / y = (u * 4294967296 + v1) / Y * 4294967296 + ((u * 4294967296 + v1) % Y * 4294967296 + v0) / Y ∧ ((u * 4294967296 + v1) % Y * 4294967296 + v0) % Y / 2 ^ s = n % y := by
 obtain ⟨a, b⟩ := Kd.shifted n y s
 obtain ⟨c, d⟩ := Kd.two (u := u) (v1 := v1) (v0 := v0) hY
 rw [← h1] at c d
 rw [← h2] at a b
 exact ⟨a.symm.trans c, by rw [← d]; exact b⟩
theorem div_end {hi lo y : Int} {s : Nat} {Y A B U V1 V0 : Int} (n : Norm hi lo y s Y A B U V1 V0) :
  digit U V1 Y * 4294967296 + digit (drest U V1 Y) V0 Y = (((hi.toNat * 18446744073709551616 + lo.toNat) / y.toNat : Nat) : Int) ∧ drest (drest U V1 Y) V0 Y / 2 ^ s = (((hi.toNat * 18446744073709551616 + lo.toNat) % y.toNat : Nat) : Int) := by
 have hY : 0 < Y.toNat := by have := n.u0; have := n.u1; omega
 obtain ⟨a, b⟩ := div_nat n.num n.den hY
 have e : (drest U V1 Y).toNat = (U.toNat * 4294967296 + V1.toNat) % Y.toNat := Int.toNat_natCast _
 rw [← e] at a b
 exact ⟨nat_two a, nat_shr b⟩
theorem ret_two {a b a' b' : Int} (h1 : a = a') (h2 : b = b') : Ending.returned (.tuple #[.int .u64 a, .int .u64 b]) = .returned (.tuple #[.int .u64 a', .int .u64 b']) := by rw [h1, h2]
set_option maxRecDepth 20000 in
set_option maxHeartbeats 4000000 in
theorem div64_zero (lo y : Int) (w : World) (y1 : 1 ≤ y) (h2 : y ≤ 18446744073709551615) (l0 : 0 ≤ lo) (l1 : lo ≤ 18446744073709551615) :
  Calls Tryz.prog 116 #[.int .u64 0, .int .u64 lo, .int .u64 y] w fun e w' => e = .returned (.tuple #[.int .u64 (lo / y), .int .u64 (lo % y)]) ∧ ∃ n, w' = w.drewN n := by
 have h1 : 0 < y := by omega
 go_enter Tryz.func116, Tryz.ntmps116
 go_wp2_with fail
 go_quiet (fail)
 go_wp2_with fail
 go_ret2
 exact ⟨ret_two rfl rfl, nq, rfl⟩
set_option maxRecDepth 20000 in
set_option maxHeartbeats 4000000 in
theorem div64_big (hi lo y q z : Int) (w : World) (h0 : 0 ≤ hi) (hp : 1 ≤ hi) (h1 : hi < y) (h2 : y ≤ 18446744073709551615) (l0 : 0 ≤ lo) (l1 : lo ≤ 18446744073709551615)
  (hq : (((hi.toNat * 18446744073709551616 + lo.toNat) / y.toNat : Nat) : Int) = q) (hz : (((hi.toNat * 18446744073709551616 + lo.toNat) % y.toNat : Nat) : Int) = z) :
  Calls Tryz.prog 116 #[.int .u64 hi, .int .u64 lo, .int .u64 y] w fun e w' => e = .returned (.tuple #[.int .u64 q, .int .u64 z]) ∧ w = w' := by
 have y1 : 1 ≤ y := by omega
 have HQ := Lib.hid hq
 have HZ := Lib.hid hz
 clear hq hz
 have d1 : (hi == 0) = false := by simp; omega
 go_enter Tryz.func116, Tryz.ntmps116
 go_wp2_with fail
 refine (Tryz.bits_LeadingZeros64 y _ (by omega) (by omega)).mono ?_
 rintro e w1 ⟨rfl, hw1⟩
 subst hw1
 obtain ⟨s, hs⟩ : ∃ s : Int, s = 64 - (Lib.bitLen y.toNat : Int) := ⟨_, rfl⟩
 rw [← hs]
 obtain ⟨m0, m1, _, _⟩ := bitLen_shift_bounds (y := y.toNat) (by omega) (by omega)
 have s0 : 0 ≤ s := by omega
 have s1 : s ≤ 63 := by omega
 have HS := Lib.hid hs
 clear hs m0 m1
 go_upto_region 15 with fail
 generalize hY : IntKind.u64.wrap (y * 2 ^ s.toNat) = Y
 generalize hA : Y / 4294967296 = A
 generalize hB : bits .and .u64 Y 4294967295 = B
 generalize hU : bits .or .u64 (IntKind.u64.wrap (hi * 2 ^ s.toNat)) (lo / 2 ^ (64 - s).toNat) = U
 generalize hL : IntKind.u64.wrap (lo * 2 ^ s.toNat) = L
 generalize hV1 : L / 4294967296 = V1
 generalize hV0 : bits .and .u64 L 4294967295 = V0
 have N := Lib.hid (norm hi lo y s Y A B U L V1 V0 h0 h1 h2 l0 l1 HS.out hY hA hB hU hL hV1 hV0)
 generalize IntKind.u64.wrap (hi * 2 ^ s.toNat) = junk1
 generalize lo / 2 ^ (64 - s).toNat = junk2
 clear hY hA hB hU hL hV1 hV0
 obtain ⟨n1, n2, n3, n4, n5, n6, n14, n7, n8, n9, n10, n11, n12, n15, n16⟩ := N.out
 have hok : DOk U V1 Y A B := ⟨n1, n3, n4, n5, n6, by omega, n7, n8, n9, n10⟩
 have n13 : U ≤ 18446744073709551614 := by omega
 have Hok := Lib.hid hok
 obtain ⟨g1, g2, g3, g4, g5⟩ := digit_start hok
 obtain ⟨g6, g7, g8, g9⟩ := digit_bd hok
 have HDS := Lib.hid g5
 have H0 := Lib.hid h0
 clear n14 n15 n16 hok g5
 have t1 : 0 ≤ U - U / A * A := by omega
 go_upto_block 0 with fail
 go_cut [15] (fun q wx => w1 = wx ∧ q = .int .u64 (digit U V1 Y))
 case first =>
  go_wp2_with fail
  go_loop [15, 16] (fun qv rv => ∃ q r : Int, qv = .int .u64 q ∧ rv = .int .u64 r ∧ DRel U V1 Y A B q r) (fun qv _ => (intOf qv).toNat)
  case atStart => exact ⟨_, _, rfl, rfl, HDS.out⟩
  case round =>
   obtain ⟨q, r, rfl, rfl, hd⟩ := hrel
   obtain ⟨d0, d1, d2, d3, _⟩ := id hd
   have HD := Lib.hid hd
   clear hd g1 g2 g3 g4 g6 g7 g8 g9
   by_cases hq : 4294967296 ≤ q
   ·have hm : (decide (4294967296 ≤ q) || decide (4294967296 * r + V1 < q * B)) = true := by simp [hq]
    obtain ⟨k1, k2, k3⟩ := digit_next Hok.out HD.out hm
    have K2 := Lib.hid k2
    have K3 := Lib.hid k3
    clear hm k2 k3
    by_cases hr : r + A < 4294967296
    ·go_wp2_with fail
     go_round
     case rel => exact ⟨q - 1, r + A, rfl, rfl, K2.out hr⟩
     case measure => simp [intOf]; omega
    ·have hr2 : 4294967296 ≤ r + A := by omega
     go_wp2_with fail
     go_meet
     exact ⟨rfl, by rw [K3.out hr2]⟩
   ·have hq2 : q ≤ 4294967295 := by omega
    obtain ⟨p0, p1⟩ := digit_prod d0 hq2 n5 n6
    by_cases hc : 4294967296 * r + V1 < q * B
    ·have hm : (decide (4294967296 ≤ q) || decide (4294967296 * r + V1 < q * B)) = true := by simp [hc]
     obtain ⟨k1, k2, k3⟩ := digit_next Hok.out HD.out hm
     have K2 := Lib.hid k2
     have K3 := Lib.hid k3
     clear hm k2 k3
     by_cases hr : r + A < 4294967296
     ·go_wp2_with fail
      go_round
      case rel => exact ⟨q - 1, r + A, rfl, rfl, K2.out hr⟩
      case measure => simp [intOf]; omega
     ·have hr2 : 4294967296 ≤ r + A := by omega
      go_wp2_with fail
      go_meet
      exact ⟨rfl, by rw [K3.out hr2]⟩
    ·have hm : (decide (4294967296 ≤ q) || decide (4294967296 * r + V1 < q * B)) = false := by simp [hc]; omega
     have K3 := Lib.hid (digit_done Hok.out HD.out hm)
     clear hm
     go_wp2_with fail
     go_meet
     exact ⟨rfl, by rw [← K3.out]⟩
 case rest =>
  obtain ⟨rfl, rfl⟩ := hcut
  clear g1 g2 g3 g4 t1 HDS
  have HR := Lib.hid (digit_rest Hok.out)
  obtain ⟨e1, e2⟩ := div_end N.out
  rw [HQ.out] at e1
  rw [HZ.out] at e2
  have E1 := Lib.hid e1
  have E2 := Lib.hid e2
  have hok2 : DOk (drest U V1 Y) V0 Y A B := by
   obtain ⟨a0, a1, a2, a3, a4, a5, a6, a7, a8, a9⟩ := Hok.out
   exact ⟨a0, a1, a2, a3, a4, a5, g8, g9, n11, n12⟩
  have HR2 := Lib.hid (digit_rest hok2)
  obtain ⟨p1, p2, p3, p4, p5⟩ := digit_start hok2
  obtain ⟨p6, p7, p8, p9⟩ := digit_bd hok2
  have HDS := Lib.hid p5
  have Hok2 := Lib.hid hok2
  clear e1 e2 hok2 p5 N Hok n7 n8 n13 H0
  generalize digit U V1 Y = Q1 at *
  go_upto_region 22 with fail
  rw [HR.out]
  generalize drest U V1 Y = R at *
  generalize IntKind.u64.wrap (Q1 * Y) = junk3
  generalize IntKind.u64.wrap (U * 4294967296) = junk4
  generalize IntKind.u64.wrap (junk4 + V1) = junk5
  have t1 : 0 ≤ R - R / A * A := by omega
  have t2 : R ≤ 18446744073709551614 := by omega
  go_upto_block 2 with fail
  go_cut [18] (fun q wx => w1 = wx ∧ q = .int .u64 (digit R V0 Y))
  case first =>
   go_wp2_with fail
   go_loop [18, 16] (fun qv rv => ∃ q r : Int, qv = .int .u64 q ∧ rv = .int .u64 r ∧ DRel R V0 Y A B q r) (fun qv _ => (intOf qv).toNat)
   case atStart => exact ⟨_, _, rfl, rfl, HDS.out⟩
   case round =>
    obtain ⟨q, r, rfl, rfl, hd⟩ := hrel
    obtain ⟨d0, d1, d2, d3, _⟩ := id hd
    have HD := Lib.hid hd
    clear hd p1 p2 p3 p4 p6 p7 p8 p9
    by_cases hq : 4294967296 ≤ q
    ·have hm : (decide (4294967296 ≤ q) || decide (4294967296 * r + V0 < q * B)) = true := by simp [hq]
     obtain ⟨k1, k2, k3⟩ := digit_next Hok2.out HD.out hm
     have K2 := Lib.hid k2
     have K3 := Lib.hid k3
     clear hm k2 k3
     by_cases hr : r + A < 4294967296
     ·go_wp2_with fail
      go_round
      case rel => exact ⟨q - 1, r + A, rfl, rfl, K2.out hr⟩
      case measure => simp [intOf]; omega
     ·have hr2 : 4294967296 ≤ r + A := by omega
      go_wp2_with fail
      go_meet
      exact ⟨rfl, by rw [K3.out hr2]⟩
    ·have hq2 : q ≤ 4294967295 := by omega
     obtain ⟨z0, z1⟩ := digit_prod d0 hq2 n5 n6
     by_cases hc : 4294967296 * r + V0 < q * B
     ·have hm : (decide (4294967296 ≤ q) || decide (4294967296 * r + V0 < q * B)) = true := by simp [hc]
      obtain ⟨k1, k2, k3⟩ := digit_next Hok2.out HD.out hm
      have K2 := Lib.hid k2
      have K3 := Lib.hid k3
      clear hm k2 k3
      by_cases hr : r + A < 4294967296
      ·go_wp2_with fail
       go_round
       case rel => exact ⟨q - 1, r + A, rfl, rfl, K2.out hr⟩
       case measure => simp [intOf]; omega
      ·have hr2 : 4294967296 ≤ r + A := by omega
       go_wp2_with fail
       go_meet
       exact ⟨rfl, by rw [K3.out hr2]⟩
     ·have hm : (decide (4294967296 ≤ q) || decide (4294967296 * r + V0 < q * B)) = false := by simp [hc]; omega
      have K3 := Lib.hid (digit_done Hok2.out HD.out hm)
      clear hm
      go_wp2_with fail
      go_meet
      exact ⟨rfl, by rw [← K3.out]⟩
  case rest =>
   obtain ⟨rfl, rfl⟩ := hcut
   clear p1 p2 p3 p4 t1 HDS
   generalize digit R V0 Y = Q0 at *
   go_wp2_with fail
   rw [HR2.out]
   go_ret2
   exact ⟨ret_two E1.out E2.out, rfl⟩
theorem div64 (hi lo y q z : Int) (w : World) (h0 : 0 ≤ hi) (h1 : hi < y) (h2 : y ≤ 18446744073709551615) (l0 : 0 ≤ lo) (l1 : lo ≤ 18446744073709551615)
  (hq : (((hi.toNat * 18446744073709551616 + lo.toNat) / y.toNat : Nat) : Int) = q) (hz : (((hi.toNat * 18446744073709551616 + lo.toNat) % y.toNat : Nat) : Int) = z) :
  Calls Tryz.prog 116 #[.int .u64 hi, .int .u64 lo, .int .u64 y] w fun e w' => e = .returned (.tuple #[.int .u64 q, .int .u64 z]) ∧ ∃ n, w' = w.drewN n := by
 by_cases hp : hi = 0
 ·subst hp
  rw [Int.toNat_zero, Nat.zero_mul, Nat.zero_add] at hq hz
  rw [Int.natCast_ediv, Int.toNat_of_nonneg l0, Int.toNat_of_nonneg (show 0 ≤ y by omega)] at hq
  rw [Int.natCast_emod, Int.toNat_of_nonneg l0, Int.toNat_of_nonneg (show 0 ≤ y by omega)] at hz
  refine (div64_zero lo y w (by omega) h2 l0 l1).mono ?_
  rintro e w' ⟨rfl, h⟩
  exact ⟨ret_two hq hz, h⟩
 ·refine (div64_big hi lo y q z w h0 (by omega) h1 h2 l0 l1 hq hz).mono ?_
  rintro e w' ⟨rfl, rfl⟩
  exact ⟨rfl, 0, rfl⟩
end Go.Proofs.YtbnnpkcfifejmaaGreat
namespace Go.Proofs.YtbnnpkcfifejmaaGreat
open Go.RowKit
theorem quo_words {p : Nat} : p / 4294967296 * 18446744073709551616 + p * 4294967296 % 18446744073709551616 = p * 4294967296 := by omega
theorem div_over {a b : Nat} (hb : 1 ≤ b) (h : b ≤ a / 4294967296) : 9223372036854775808 ≤ Fx.rnd (a * 4294967296) b := by
 have h1 : 9223372036854775808 ≤ a * 4294967296 / b := by
  rw [Nat.le_div_iff_mul_le (by omega)]
  omega
 unfold Fx.rnd
 split <;> omega
theorem rnd_ge {p b : Nat} (h : 9223372036854775808 ≤ p / b) : 9223372036854775808 ≤ Fx.rnd p b := by
 unfold Fx.rnd
 split <;> omega
set_option maxRecDepth 20000 in
set_option maxHeartbeats 4000000 in
theorem fix_div (x y : Int) (w : World) (hx : Fx.In x) (hy : Fx.In y) : Calls Tryz.prog 61 #[.int .i64 x, .int .i64 y] w fun e w' => e = .returned (.int .i64 (Fx.div x y)) ∧ ∃ n, w' = w.drewN n := by
 by_cases hy0 : y = 0
 ·subst hy0
  by_cases hx0 : x = 0
  ·subst hx0
   go_enter Tryz.func61, Tryz.ntmps61
   go_wp2_with fail
   go_ret
   exact ⟨rfl, 0, rfl⟩
  ·have d : (x == 0) = false := by simpa using hx0
   have HE := Lib.hid (show Fx.edge (decide (x < 0)) = Fx.div x 0 by unfold Fx.div; rw [if_pos rfl, if_neg hx0])
   clear hx0 hx hy
   go_enter Tryz.func61, Tryz.ntmps61
   go_wp2_with fail
   refine (fix_edge _ _).mono ?_
   rintro e w1 ⟨rfl, rfl⟩
   go_wp2_with fail
   go_ret
   exact ⟨ret_int HE.out, 0, rfl⟩
 ·have d : (y == 0) = false := by simpa using hy0
  have HD := Lib.hid (show Fx.clamp (Fx.sgn (Fx.neg2 x y) (Fx.rnd (x.natAbs * 4294967296) y.natAbs)) = Fx.div x y by unfold Fx.div; rw [if_neg hy0])
  have hb1 : 1 ≤ y.natAbs := by omega
  have hb2 := natAbs_le hy
  have ha2 := natAbs_le hx
  have HX := Lib.hid hx
  have HY := Lib.hid hy
  have Hb1 := Lib.hid hb1
  have Hb2 := Lib.hid hb2
  have Ha2 := Lib.hid ha2
  clear hx hy hy0 hb1 hb2 ha2
  go_enter Tryz.func61, Tryz.ntmps61
  go_wp2_with fail
  generalize hN : (!(decide (x < 0) == decide (y < 0))) = nb
  rw [show Fx.neg2 x y = nb from hN] at HD
  clear hN
  refine (fix_size x _ HX.out).mono ?_
  rintro e w1 ⟨rfl, rfl⟩
  go_wp2_with fail
  refine (fix_size y _ HY.out).mono ?_
  rintro e w1 ⟨rfl, rfl⟩
  obtain ⟨a, ha⟩ : ∃ a : Int, a = (x.natAbs : Int) := ⟨_, rfl⟩
  obtain ⟨b, hb⟩ : ∃ b : Int, b = (y.natAbs : Int) := ⟨_, rfl⟩
  have a0 : 0 ≤ a := by omega
  have b1 : 1 ≤ b := by have := Hb1.out; omega
  have a2 : a ≤ 9223372036854775808 := by have := Ha2.out; omega
  have b2 : b ≤ 9223372036854775808 := by have := Hb2.out; omega
  have ea : x.natAbs = a.toNat := by omega
  have eb : y.natAbs = b.toNat := by omega
  rw [ea, eb] at HD
  rw [← ha, ← hb]
  clear ha hb ea eb Hb1 Hb2 Ha2
  go_upto_region 8 with fail
  generalize hhi : a / 4294967296 = hi
  generalize hlo : IntKind.u64.wrap (a * 4294967296) = lo
  have h0 : 0 ≤ hi := by omega
  have h1 : hi ≤ 2147483648 := by omega
  have l0 : 0 ≤ lo := by rw [IntKind.wrap_u64] at hlo; omega
  have l1 : lo ≤ 18446744073709551615 := by rw [IntKind.wrap_u64] at hlo; omega
  have HH := Lib.hid hhi
  have HL := Lib.hid hlo
  clear hhi hlo
  by_cases hge : b ≤ hi
  ·have HE : RowKit.Hid (Fx.edge nb = Fx.div x y) := by
    rw [← HD.out]
    have := HH.out
    exact (Fx.clamp_sgn_big (div_over (by omega) (by omega))).symm
   go_wp2_with fail
   refine (fix_edge _ _).mono ?_
   rintro e w1 ⟨rfl, rfl⟩
   go_wp2_with fail
   go_ret
   exact ⟨ret_int HE.out, 0, rfl⟩
  ·have hlt : hi < b := by omega
   have hp : hi.toNat * 18446744073709551616 + lo.toNat = a.toNat * 4294967296 := by
    have h5 := HH.out
    have h6 := HL.out
    rw [IntKind.wrap_u64] at h6
    omega
   have HP := Lib.hid hp
   clear hp
   obtain ⟨q, hq⟩ : ∃ q : Int, q = ((a.toNat * 4294967296 / b.toNat : Nat) : Int) := ⟨_, rfl⟩
   obtain ⟨z, hz⟩ : ∃ z : Int, z = ((a.toNat * 4294967296 % b.toNat : Nat) : Int) := ⟨_, rfl⟩
   have q0 : 0 ≤ q := by rw [hq]; exact Int.natCast_nonneg _
   have q1 : q ≤ 18446744073709551615 := by
    have h3 : a.toNat * 4294967296 / b.toNat < 18446744073709551616 := by
     rw [Nat.div_lt_iff_lt_mul (by omega)]
     have := HH.out
     omega
    rw [hq]
    generalize a.toNat * 4294967296 / b.toNat = m at *
    omega
   have z0 : 0 ≤ z := by rw [hz]; exact Int.natCast_nonneg _
   have z1 : z < b := by
    have h3 := Nat.mod_lt (a.toNat * 4294967296) (show 0 < b.toNat by omega)
    rw [hz]
    generalize a.toNat * 4294967296 % b.toNat = m at *
    omega
   have HQ := Lib.hid hq
   have HZ := Lib.hid hz
   clear hq hz
   have HA : RowKit.Hid (∀ n : Int, n.toNat = Fx.rnd (a.toNat * 4294967296) b.toNat → Fx.clamp (Fx.sgn nb n.toNat) = Fx.div x y) := fun n hn => by rw [hn]; exact HD.out
   have odd : bits .and .u64 q 1 = q % 2 := by
    obtain ⟨n, rfl⟩ := Int.eq_ofNat_of_zero_le q0
    rw [u64_odd n (by omega)]
    omega
   go_wp2_with fail
   refine (div64 hi lo b q z _ h0 hlt (by omega) l0 l1 (by rw [HP.out]; exact HQ.out.symm) (by rw [HP.out]; exact HZ.out.symm)).mono ?_
   rintro e w1 ⟨rfl, n, rfl⟩
   by_cases hbig : 9223372036854775808 ≤ q
   ·have HE : RowKit.Hid (Fx.edge nb = Fx.div x y) := by
     rw [← HD.out]
     have := HQ.out
     refine (Fx.clamp_sgn_big (rnd_ge ?_)).symm
     generalize a.toNat * 4294967296 / b.toNat = m at *
     omega
    go_wp2_with fail
    refine (fix_edge _ _).mono ?_
    rintro e w1 ⟨rfl, rfl⟩
    go_wp2_with fail
    go_ret
    exact ⟨ret_int HE.out, n, rfl⟩
   ·have hsm : q ≤ 9223372036854775807 := by omega
    clear hbig q1
    have hr : Fx.rnd (a.toNat * 4294967296) b.toNat = if b.toNat < 2 * z.toNat ∨ (2 * z.toNat = b.toNat ∧ q.toNat % 2 = 1) then q.toNat + 1 else q.toNat := by
     unfold Fx.rnd
     rw [HQ.out, HZ.out, Int.toNat_natCast, Int.toNat_natCast]
    have HR := Lib.hid hr
    clear hr
    by_cases c1 : b - z < z
    ·have hz : (q + 1).toNat = Fx.rnd (a.toNat * 4294967296) b.toNat := by rw [HR.out, if_pos (by omega)]; omega
     have Hz := Lib.hid hz
     clear hz
     go_wp2_with fail
     refine (fix_signed_int (q + 1) nb _ (by omega) (by omega)).mono ?_
     rintro e w1 ⟨rfl, rfl⟩
     go_wp2_with fail
     go_ret
     exact ⟨ret_int (HA.out _ Hz.out), n, rfl⟩
    ·by_cases c2 : z = b - z
     ·have d2 : (z == b - z) = true := by simpa using c2
      have c3 : 2 * z = b := by omega
      by_cases c4 : q % 2 = 1
      ·have d3 : (q % 2 == 1) = true := by simpa using c4
       have hz : (q + 1).toNat = Fx.rnd (a.toNat * 4294967296) b.toNat := by rw [HR.out, if_pos (by omega)]; omega
       have Hz := Lib.hid hz
       clear hz c2 c3 c4
       go_wp2_with fail
       refine (fix_signed_int (q + 1) nb _ (by omega) (by omega)).mono ?_
       rintro e w1 ⟨rfl, rfl⟩
       go_wp2_with fail
       go_ret
       exact ⟨ret_int (HA.out _ Hz.out), n, rfl⟩
      ·have d3 : (q % 2 == 1) = false := by simpa using c4
       have hz : q.toNat = Fx.rnd (a.toNat * 4294967296) b.toNat := by rw [HR.out, if_neg (by omega)]
       have Hz := Lib.hid hz
       clear hz c2 c3 c4
       go_wp2_with fail
       refine (fix_signed_int q nb _ (by omega) (by omega)).mono ?_
       rintro e w1 ⟨rfl, rfl⟩
       go_wp2_with fail
       go_ret
       exact ⟨ret_int (HA.out _ Hz.out), n, rfl⟩
     ·have d2 : (z == b - z) = false := by simpa using c2
      have hz : q.toNat = Fx.rnd (a.toNat * 4294967296) b.toNat := by rw [HR.out, if_neg (by omega)]
      have Hz := Lib.hid hz
      clear hz c2
      go_wp2_with fail
      refine (fix_signed_int q nb _ (by omega) (by omega)).mono ?_
      rintro e w1 ⟨rfl, rfl⟩
      go_wp2_with fail
      go_ret
      exact ⟨ret_int (HA.out _ Hz.out), n, rfl⟩
end Go.Proofs.YtbnnpkcfifejmaaGreat
namespace Go.Proofs.YtbnnpkcfifejmaaGreat
open Go.ChangeShapes Go.WideShapes Go.Deep Go.RowKit
section
variable {H : Type} {enc : TypeId × Value → H} {P : Program} {w : World} {base : Nat} {spare : Nat → Bool} {held : Bool}
theorem open_slice_fields {t e : TypeId} {fs : Array Field} {fuel : Nat} {cs : List Value} {x : DataW H × List MemPlace} (ht : P.underlying t = some (.slice e)) (he : P.underlying e = some (.struct fs))
  (hone : oneCellFields P fs = true) (hC : P.cellsOf e = fs.size) (h : DataW.trod enc P w base spare held fuel t cs = some x) :
  (cs = [.slice none 0 0] ∧ x = (.nil, [])) ∨
  ∃ (a : Addr) (len cap m : Nat) (D : Nat → DataW H) (Pl : Nat → List MemPlace), cs = [.slice (some a) len cap] ∧ base ≤ a.block ∧ len ≤ cap ∧ cap ≤ maxLen ∧ m = (if spare a.block then cap else len) ∧
   x = (.slice ((List.range len).map D) ((List.range (m - len)).map fun j => D (len + j)), MemPlace.row a (m * fs.size) ++ (List.range m).flatMap Pl) ∧
   ∀ i, i < m → ∃ (ys : List (DataW H × List MemPlace)) (n : Nat), D i = .agg (ys.map (·.1)) ∧ Pl i = ys.flatMap (·.2) ∧ ys.length = fs.size ∧
    ∀ (j : Nat) (f : Field), fs[j]? = some f → ∃ (v : Value) (y : DataW H × List MemPlace), w.cell? (a.add (i * fs.size + j)) = some v ∧ ys[j]? = some y ∧ DataW.trod enc P w base spare held n f.type [v] = some y := by
 rcases open_slice ht h with h0 | ⟨a, len, cap, m, n, D, Pl, hcs, hb, hl, hm, hmm, hx, hi⟩
 ·exact .inl h0
 ·refine .inr ⟨a, len, cap, m, D, Pl, hcs, hb, hl, hm, hmm, by rw [hC] at hx; exact hx, fun i him => ?_⟩
  obtain ⟨cs', hc, ht'⟩ := hi i him
  rw [hC] at hc
  obtain ⟨ys, n', hn', hy, hlen, hyl, hf⟩ := DataW.trod_struct he ht'
  obtain ⟨_, hcl, hat⟩ := World.cells?_some hc
  simp only [Prod.mk.injEq] at hy
  refine ⟨ys, n', hy.1, hy.2, hyl, fun j f hj => ?_⟩
  obtain ⟨ho, hk⟩ := hone_of hone j f hj
  have hjl : j < fs.size := (Array.getElem?_eq_some_iff.1 hj).1
  have hcell := hat j hjl
  have hv : cs'[j]? = some (cs'[j]'(by omega)) := List.getElem?_eq_getElem (by omega)
  have h1 := hf j f hj
  rw [ho, hk] at h1
  have hone' : (cs'.drop j).take 1 = [cs'[j]'(by omega)] := by
   rw [List.drop_eq_getElem_cons (by omega)]
   rfl
  rw [hone'] at h1
  have hys : ys[j]? = some (ys[j]'(by omega)) := List.getElem?_eq_getElem (by omega)
  refine ⟨_, _, ?_, hys, h1.trans hys⟩
  rw [← Go.Deep.add_add, hcell, hv]
end
theorem plain_row {w : World} {a : Addr} {v : Value} (h : w.cell? (a.add 0) = some v) : ∃ b off, a = ⟨b, off, none⟩ := by
 obtain ⟨b, off, spot⟩ := a
 have hs : spot = none := by simpa [Addr.add] using World.cell?_spot h
 subst hs
 exact ⟨b, off, rfl⟩
theorem add_plain' (b off j : Nat) : (⟨b, off, none⟩ : Addr).add j = ⟨b, off + j, none⟩ := by
 unfold Addr.add; split <;> simp_all
section
variable {H : Type} {enc : TypeId × Value → H} {P : Program} {w : World} {base : Nat} {spare : Nat → Bool} {held : Bool}
theorem ints_open {t e : TypeId} {k : IntKind} {fuel : Nat} {v : Value} {x : DataW H × List MemPlace} (ht : P.underlying t = some (.slice e)) (he : P.underlying e = some (.int k)) (hc : P.cellsOf e = 1) (h : DataW.trod enc P w base spare held fuel t [v] = some x) :
  ∃ A cap zs, v = .slice A zs.length cap ∧ zs.length ≤ 9223372036854775807 ∧ zs.length ≤ cap ∧ Ints k w A zs ∧ ∀ n ∈ zs, (Lit.int k n).wf = true := by
 rcases open_ints ht he hc h with ⟨hcs, _⟩ | ⟨a, len, cap, zs, hcs, _, hl, hm, hz, _, hcell, hwz⟩
 ·simp at hcs; subst hcs
  exact ⟨none, 0, [], rfl, by simp, by simp, Ints.nil, by simp⟩
 ·simp at hcs; subst hcs
  have hlz : len ≤ zs.length := by rw [hz]; split <;> omega
  have hll : (zs.take len).length = len := by rw [List.length_take]; omega
  refine ⟨some a, cap, zs.take len, by rw [hll], by rw [hll]; unfold maxLen at hm; omega, by omega, fun j hj => ?_, fun n hn => hwz n (List.mem_of_mem_take hn)⟩
  have hj' : j < len := by omega
  obtain ⟨b, off, rfl⟩ := plain_row (w := w) (a := a) (v := .int k (zs.getD 0 0)) (hcell 0 (by omega))
  have hc2 := hcell j (by omega)
  rw [add_plain'] at hc2
  refine ⟨b, off, rfl, World.block_lt_of_cell? _ _ hc2, ?_⟩
  rw [hc2]
  have e : (zs.take len).getD j 0 = zs.getD j 0 := by simp [List.getD_eq_getElem?_getD, hj']
  rw [e]
end
end Go.Proofs.YtbnnpkcfifejmaaGreat
namespace Go.Proofs.YtbnnpkcfifejmaaGreat
open Go.RowKit
theorem In_at {l : List Int} (h : ∀ z ∈ l, Fx.In z) {k : Nat} (hk : k < l.length) : Fx.In l[k] := h _ (List.getElem_mem hk)
theorem sum_succ {l : List Int} {k : Nat} (hk : k < l.length) : Fx.sum (l.take (k + 1)) = Fx.add (Fx.sum (l.take k)) l[k] := by
 unfold Fx.sum
 rw [List.take_succ_eq_append_getElem hk, List.foldl_append]
 rfl
theorem dot_succ {a b : List Int} {k : Nat} (hk : k < a.length) (hk2 : k < b.length) : Fx.dot (a.take (k + 1)) (b.take (k + 1)) = Fx.add (Fx.dot (a.take k) (b.take k)) (Fx.mul a[k] b[k]) := by
 unfold Fx.dot
 rw [List.take_succ_eq_append_getElem hk, List.take_succ_eq_append_getElem hk2, List.zip_append (by simp; omega), List.foldl_append]
 rfl
theorem get_at {l : List Int} {k : Nat} (hk : k < l.length) : l.getD k 0 = l[k] := by rw [List.getD_eq_getElem?_getD, List.getElem?_eq_getElem hk]; rfl
theorem fix_sum (A : Option Addr) (c : Nat) (xs : List Int) (w : World) (hl : xs.length ≤ 9223372036854775807) (hI : Ints .i64 w A xs) (hin : ∀ z ∈ xs, Fx.In z) :
  Calls Tryz.prog 143 #[.slice A xs.length c] w fun e w' => e = .returned (.int .i64 (Fx.sum xs)) ∧ w = w' := by
 have Hin := Lib.hid hin
 have HI := Lib.hid hI
 clear hI
 clear hin
 go_enter Tryz.func143, Tryz.ntmps143
 go_wp2_with fail
 go_loop [3, 8] (fun s i => ∃ k : Nat, k ≤ xs.length ∧ i = .int .i64 k ∧ s = .int .i64 (Fx.sum (xs.take k))) (fun _ i => xs.length - (intOf i).toNat)
 case atStart => exact ⟨0, Nat.zero_le _, rfl, rfl⟩
 case round =>
  obtain ⟨k, hk, rfl, rfl⟩ := hrel
  by_cases hlt : k < xs.length
  ·obtain ⟨b, off, rfl, -, hc⟩ := HI.out k hlt
   rw [get_at hlt] at hc
   have hx := In_at Hin.out hlt
   have hs := sum_succ hlt
   have h0 := Fx.sum_in (xs.take k)
   generalize Fx.sum (xs.take k) = s at *
   generalize xs[k] = x at *
   have HS := Lib.hid hs
   have HX := Lib.hid hx
   have H0 := Lib.hid h0
   clear hs hx h0
   go_wp2_with fail
   refine (fix_add s x _ H0.out HX.out).mono ?_
   rintro e w1 ⟨rfl, rfl⟩
   go_wp2_with fail
   go_round
   case rel => exact ⟨k + 1, by omega, by go_num, by rw [HS.out]⟩
   case measure => simp [intOf]; omega
  ·obtain rfl : k = xs.length := by omega
   rw [List.take_length]
   go_wp2_with fail
   go_ret
   exact ⟨rfl, rfl⟩
set_option maxHeartbeats 1000000 in
theorem fix_dot (A B : Option Addr) (c d : Nat) (a b : List Int) (w : World) (hl : a.length ≤ 1000000) (hn : b.length = a.length) (hI : Ints .i64 w A a) (hJ : Ints .i64 w B b) (ha : ∀ z ∈ a, Fx.In z) (hb : ∀ z ∈ b, Fx.In z) :
  Calls Tryz.prog 142 #[.slice A a.length c, .slice B a.length d] w fun e w' => e = .returned (.int .i64 (Fx.dot a b)) ∧ ∃ n, w' = w.drewN n := by
 have HN := Lib.hid hn
 have HI := Lib.hid hI
 have HJ := Lib.hid hJ
 have Ha := Lib.hid ha
 have Hb := Lib.hid hb
 clear hI hJ ha hb
 clear hn
 go_enter Tryz.func142, Tryz.ntmps142
 go_wp2_with fail
 go_loopw [5, 12] (fun s i wr => ∃ k n : Nat, k ≤ a.length ∧ i = .int .i64 k ∧ s = .int .i64 (Fx.dot (a.take k) (b.take k)) ∧ wr = w.drewN n) (fun _ i _ => a.length - (intOf i).toNat)
 case atStart => exact ⟨0, 0, Nat.zero_le _, rfl, rfl, rfl⟩
 case round =>
  obtain ⟨k, n, hk, rfl, rfl, hw⟩ := hrel
  have hIr : Ints .i64 wr A a := by rw [hw]; exact HI.out.drewN n
  have hJr : Ints .i64 wr B b := by rw [hw]; exact HJ.out.drewN n
  have Hw := Lib.hid hw
  have HIr := Lib.hid hIr
  have HJr := Lib.hid hJr
  clear hw hIr hJr
  by_cases hlt : k < a.length
  ·have hlt' : k < b.length := by have := HN.out; omega
   obtain ⟨ba, oa, rfl, -, hc⟩ := HIr.out k hlt
   obtain ⟨bb, ob, rfl, -, hc'⟩ := HJr.out k hlt'
   rw [get_at hlt] at hc
   rw [get_at hlt'] at hc'
   have hx := In_at Ha.out hlt
   have hy := In_at Hb.out hlt'
   have hs := dot_succ hlt hlt'
   have h0 := Fx.dot_in (a.take k) (b.take k)
   generalize Fx.dot (a.take k) (b.take k) = s at *
   generalize a[k] = x at *
   generalize b[k] = y at *
   have hc1 := fun n => fix_mul x y (wr.drewN n) hx hy
   have hc2 := fun n => fix_add s (Fx.mul x y) (wr.drewN n) h0 (Fx.mul_in x y)
   have HS := Lib.hid hs
   clear hs hx hy h0 hlt'
   have Hc1 := Lib.hid hc1
   have Hc2 := Lib.hid hc2
   clear hc1 hc2
   have k1 : (k : Int) < (a.length : Int) := by omega
   have k2 : (0 : Int) ≤ (k : Int) := by omega
   go_wp2_with fail
   go_quiet (first | (go_at_call 54; exact quiet_same (Hc1.out _)) | (go_at_call 55; exact quiet_same (Hc2.out _)))
   go_wp2_with fail
   go_roundw
   case rel => exact ⟨k + 1, n + nq, by omega, by go_num, by rw [HS.out], by rw [Hw.out, World.drewN_drewN]⟩
   case measure => simp [intOf]; omega
  ·obtain rfl : k = a.length := by omega
   have e : a.length = b.length := HN.out.symm
   rw [List.take_length, show b.take a.length = b by rw [e, List.take_length]]
   clear e
   go_wp2_with fail
   go_ret
   exact ⟨rfl, n, Hw.out⟩
theorem fix_clamp (x l h : Int) (w : World) : Calls Tryz.prog 156 #[.int .i64 x, .int .i64 l, .int .i64 h] w fun e w' => e = .returned (.int .i64 (Fx.held x l h)) ∧ w = w' := by
 by_cases h1 : h < x
 ·have E := Lib.hid (show h = Fx.held x l h by unfold Fx.held; rw [if_pos h1])
  go_enter Tryz.func156, Tryz.ntmps156
  go_wp2_with fail
  go_ret
  exact ⟨ret_int E.out, rfl⟩
 ·by_cases h2 : x < l
  ·have E := Lib.hid (show l = Fx.held x l h by unfold Fx.held; rw [if_neg h1, if_pos h2])
   go_enter Tryz.func156, Tryz.ntmps156
   go_wp2_with fail
   go_ret
   exact ⟨ret_int E.out, rfl⟩
  ·have E := Lib.hid (show x = Fx.held x l h by unfold Fx.held; rw [if_neg h1, if_neg h2])
   go_enter Tryz.func156, Tryz.ntmps156
   go_wp2_with fail
   go_ret
   exact ⟨ret_int E.out, rfl⟩
theorem fix_neg_one (w : World) : Calls Tryz.prog 120 #[.int .i64 4294967296] w fun e w' => e = .returned (.int .i64 (-4294967296)) ∧ w = w' := by
 go_enter Tryz.func120, Tryz.ntmps120
 go_wp2_with fail
 go_ret
 exact ⟨rfl, rfl⟩
theorem fix_int (n : Int) (w : World) (h0 : 0 ≤ n) (h1 : n < 2147483648) : Calls Tryz.prog 62 #[.int .i64 n] w fun e w' => e = .returned (.int .i64 (n * 4294967296)) ∧ w = w' := by
 go_enter Tryz.func62, Tryz.ntmps62
 go_wp2_with fail
 go_ret
 exact ⟨rfl, rfl⟩
end Go.Proofs.YtbnnpkcfifejmaaGreat
namespace Go.Proofs.YtbnnpkcfifejmaaGreat
namespace Safe
def top : Int := 1099511627776
theorem top_eq : top = 1099511627776 := rfl
def ok (n : Int) : Bool := decide (0 ≤ n ∧ n ≤ 1099511627776)
theorem ok_iff (n : Int) : ok n = true ↔ 0 ≤ n ∧ n ≤ 1099511627776 := by simp [ok]
def sum : List Int → Int
 | [] => 0
 | x :: r => x + sum r
def prod : List Int → Int
 | [] => 1
 | x :: r => x * prod r
theorem sum_append (a b : List Int) : sum (a ++ b) = sum a + sum b := by
 induction a with
 | nil => simp [sum]
 | cons x r ih => simp [sum, ih]; omega
theorem prod_append (a b : List Int) : prod (a ++ b) = prod a * prod b := by
 induction a with
 | nil => simp [prod]
 | cons x r ih => simp [prod, ih, Int.mul_assoc]
theorem sum_reverse (a : List Int) : sum a.reverse = sum a := by
 induction a with
 | nil => rfl
 | cons x r ih => simp [sum_append, sum, ih]; omega
theorem prod_reverse (a : List Int) : prod a.reverse = prod a := by
 induction a with
 | nil => rfl
 | cons x r ih => simp [prod_append, prod, ih, Int.mul_comm]
theorem sum_take_succ (zs : List Int) (k : Nat) (h : k < zs.length) : sum (zs.take (k + 1)) = sum (zs.take k) + zs[k] := by
 rw [List.take_succ_eq_append_getElem h, sum_append]; simp [sum]
theorem prod_take_succ (zs : List Int) (k : Nat) (h : k < zs.length) : prod (zs.take (k + 1)) = prod (zs.take k) * zs[k] := by
 rw [List.take_succ_eq_append_getElem h, prod_append]; simp [prod]
theorem sum_nonneg (zs : List Int) (h : ∀ x ∈ zs, 0 ≤ x) : 0 ≤ sum zs := by
 induction zs with
 | nil => simp [sum]
 | cons x r ih =>
  have h1 := h x (by simp)
  have h2 := ih (fun y hy => h y (by simp [hy]))
  simp [sum]; omega
theorem prod_pos (zs : List Int) (h : ∀ x ∈ zs, 1 ≤ x) : 1 ≤ prod zs := by
 induction zs with
 | nil => simp [prod]
 | cons x r ih =>
  have h1 := h x (by simp)
  have h2 := ih (fun y hy => h y (by simp [hy]))
  have h3 : 0 < x * prod r := Int.mul_pos (by omega) (by omega)
  simp [prod]; omega
theorem sum_take_le (zs : List Int) (k : Nat) (h : ∀ x ∈ zs, 0 ≤ x) : sum (zs.take k) ≤ sum zs := by
 have e : sum zs = sum (zs.take k) + sum (zs.drop k) := by rw [← sum_append, List.take_append_drop]
 have := sum_nonneg (zs.drop k) (fun x hx => h x (List.mem_of_mem_drop hx))
 omega
theorem prod_take_le (zs : List Int) (k : Nat) (h : ∀ x ∈ zs, 1 ≤ x) : prod (zs.take k) ≤ prod zs := by
 have e : prod zs = prod (zs.take k) * prod (zs.drop k) := by rw [← prod_append, List.take_append_drop]
 have h1 := prod_pos (zs.drop k) (fun x hx => h x (List.mem_of_mem_drop hx))
 have h2 := prod_pos (zs.take k) (fun x hx => h x (List.mem_of_mem_take hx))
 rw [e]
 have : prod (zs.take k) * 1 ≤ prod (zs.take k) * prod (zs.drop k) := Int.mul_le_mul_of_nonneg_left h1 (by omega)
 omega
def add (zs : List Int) : Int × Int := if zs.all ok then (if sum zs ≤ top then (sum zs, 0) else (0, 17)) else (0, 11)
def mul (zs : List Int) : Int × Int := if zs.all ok then (if zs.all (· != 0) then (if prod zs ≤ top then (prod zs, 0) else (0, 17)) else (0, 0)) else (0, 11)
theorem add_reverse (zs : List Int) : add zs.reverse = add zs := by simp [add, sum_reverse]
theorem mul_reverse (zs : List Int) : mul zs.reverse = mul zs := by simp [mul, prod_reverse]
theorem all_getD {p : Int → Bool} {zs : List Int} (h : ∀ j, j < zs.length → p (zs.getD j 0) = true) : zs.all p = true := by
 rw [List.all_eq_true]
 intro x hx
 obtain ⟨i, hi, rfl⟩ := List.getElem_of_mem hx
 have := h i hi
 simpa [hi] using this
theorem all_of {p : Int → Bool} {zs : List Int} (h : zs.all p = true) : ∀ j, j < zs.length → p (zs.getD j 0) = true := by
 intro j hj
 rw [List.all_eq_true] at h
 have := h zs[j] (List.getElem_mem hj)
 simpa [hj] using this
theorem not_all {p : Int → Bool} {zs : List Int} {j : Nat} (hj : j < zs.length) (h : p (zs.getD j 0) = false) : zs.all p = false := by
 rw [Bool.eq_false_iff]
 intro h2
 rw [all_of h2 j hj] at h
 cases h
theorem nonneg_of {zs : List Int} (h : zs.all ok = true) : ∀ x ∈ zs, 0 ≤ x := fun x hx => by
 rw [List.all_eq_true] at h
 exact ((ok_iff x).1 (h x hx)).1
theorem pos_of {zs : List Int} (h : zs.all ok = true) (h0 : zs.all (· != 0) = true) : ∀ x ∈ zs, 1 ≤ x := fun x hx => by
 rw [List.all_eq_true] at h h0
 have h1 := ((ok_iff x).1 (h x hx)).1
 have h2 := h0 x hx
 simp at h2
 omega
theorem add_range {zs : List Int} (h : zs.all ok = false) : add zs = (0, 11) := by simp [add, h]
theorem add_big {zs : List Int} (h : zs.all ok = true) (k : Nat) (hs : top < sum (zs.take k)) : add zs = (0, 17) := by
 have := sum_take_le zs k (nonneg_of h)
 rw [add, if_pos h, if_neg (by omega)]
theorem add_sum {zs : List Int} (h : zs.all ok = true) (hs : sum zs ≤ top) : add zs = (sum zs, 0) := by
 rw [add, if_pos h, if_pos hs]
theorem mul_range {zs : List Int} (h : zs.all ok = false) : mul zs = (0, 11) := by simp [mul, h]
theorem mul_zero {zs : List Int} (h : zs.all ok = true) (h0 : zs.all (· != 0) = false) : mul zs = (0, 0) := by simp [mul, h, h0]
theorem mul_big {zs : List Int} (h : zs.all ok = true) (h0 : zs.all (· != 0) = true) (k : Nat) (hs : top < prod (zs.take k)) : mul zs = (0, 17) := by
 have := prod_take_le zs k (pos_of h h0)
 rw [mul, if_pos h, if_pos h0, if_neg (by omega)]
theorem mul_prod {zs : List Int} (h : zs.all ok = true) (h0 : zs.all (· != 0) = true) (hs : prod zs ≤ top) : mul zs = (prod zs, 0) := by
 rw [mul, if_pos h, if_pos h0, if_pos hs]
theorem add_bd (zs : List Int) : 0 ≤ (add zs).1 ∧ (add zs).1 ≤ 1099511627776 ∧ ((add zs).2 = 0 ∨ (add zs).2 = 11 ∨ (add zs).2 = 17) := by
 unfold add
 split
 ·rename_i h
  have := sum_nonneg zs (nonneg_of h)
  split
  ·rename_i h2
   rw [top_eq] at h2
   exact ⟨by simpa using this, by simpa using h2, by simp⟩
  ·simp
 ·simp
theorem mul_bd (zs : List Int) : 0 ≤ (mul zs).1 ∧ (mul zs).1 ≤ 1099511627776 ∧ ((mul zs).2 = 0 ∨ (mul zs).2 = 11 ∨ (mul zs).2 = 17) := by
 unfold mul
 split
 ·rename_i h
  split
  ·rename_i h0
   have := prod_pos zs (pos_of h h0)
   split
   ·rename_i h2
    rw [top_eq] at h2
    exact ⟨by simp; omega, by simpa using h2, by simp⟩
   ·simp
  ·simp
 ·simp
end Safe
end Go.Proofs.YtbnnpkcfifejmaaGreat
namespace Go.Proofs.YtbnnpkcfifejmaaGreat
namespace Safe
def maxTo (m : Int) : List Int → Int
 | [] => m
 | x :: r => maxTo (if m < x then x else m) r
def max (zs : List Int) : Int := maxTo 0 zs
theorem maxTo_append (a b : List Int) : ∀ m, maxTo m (a ++ b) = maxTo (maxTo m a) b := by
 induction a with
 | nil => intro m; rfl
 | cons x r ih => intro m; simp [maxTo, ih]
theorem max_take_succ (zs : List Int) (k : Nat) (h : k < zs.length) : max (zs.take (k + 1)) = if max (zs.take k) < zs[k] then zs[k] else max (zs.take k) := by
 rw [List.take_succ_eq_append_getElem h, max, maxTo_append]; rfl
def nroot : Nat → Nat
 | 0 => 0
 | n + 1 => if (nroot n + 1) * (nroot n + 1) ≤ n + 1 then nroot n + 1 else nroot n
theorem nroot_spec (n : Nat) : nroot n * nroot n ≤ n ∧ n < (nroot n + 1) * (nroot n + 1) := by
 induction n with
 | zero => simp [nroot]
 | succ n ih =>
  unfold nroot
  split
  ·rename_i h
   refine ⟨h, ?_⟩
   have : (nroot n + 1 + 1) * (nroot n + 1 + 1) = (nroot n + 1) * (nroot n + 1) + 2 * (nroot n + 1) + 1 := by grind
   omega
  ·rename_i h
   exact ⟨by omega, by omega⟩
theorem nroot_uniq {n k : Nat} (h1 : k * k ≤ n) (h2 : n < (k + 1) * (k + 1)) : k = nroot n := by
 have ⟨h3, h4⟩ := nroot_spec n
 rcases Nat.lt_trichotomy k (nroot n) with h | h | h
 ·have := Nat.mul_le_mul (show k + 1 ≤ nroot n from h) (show k + 1 ≤ nroot n from h)
  omega
 ·exact h
 ·have := Nat.mul_le_mul (show nroot n + 1 ≤ k from h) (show nroot n + 1 ≤ k from h)
  omega
def isqrt (n : Int) : Int := nroot n.toNat
theorem isqrt_nonpos {n : Int} (h : n ≤ 0) : isqrt n = 0 := by
 have : n.toNat = 0 := by omega
 simp [isqrt, this, nroot]
theorem isqrt_uniq {n k : Int} (h0 : 0 ≤ k) (h1 : k * k ≤ n) (h2 : n < (k + 1) * (k + 1)) : k = isqrt n := by
 obtain ⟨m, rfl⟩ := Int.eq_ofNat_of_zero_le h0
 have hn : 0 ≤ n := Int.le_trans (Int.mul_nonneg h0 h0) h1
 obtain ⟨p, rfl⟩ := Int.eq_ofNat_of_zero_le hn
 have e := nroot_uniq (n := p) (k := m) (by exact_mod_cast h1) (by exact_mod_cast h2)
 simp [isqrt, ← e]
theorem isqrt_spec {n : Int} (h : 1 ≤ n) : 1 ≤ isqrt n ∧ isqrt n * isqrt n ≤ n ∧ n < (isqrt n + 1) * (isqrt n + 1) := by
 obtain ⟨p, rfl⟩ := Int.eq_ofNat_of_zero_le (show 0 ≤ n by omega)
 have ⟨h3, h4⟩ := nroot_spec p
 refine ⟨?_, by simpa [isqrt] using (by exact_mod_cast h3), by simpa [isqrt] using (by exact_mod_cast h4)⟩
 rcases Nat.eq_zero_or_pos (nroot p) with h0 | h0
 ·rw [h0] at h4; omega
 ·simp [isqrt]; omega
end Safe
end Go.Proofs.YtbnnpkcfifejmaaGreat
namespace Go.Proofs.YtbnnpkcfifejmaaGreat
open Go.RowKit
theorem safe_right (n : Int) (w : World) :
  Calls Tryz.prog 139 #[.int .i64 n] w fun e w' => e = .returned (.bool (Safe.ok n)) ∧ w = w' := by
 by_cases h1 : 0 ≤ n
 ·by_cases h2 : n ≤ 1099511627776
  ·go_enter Tryz.func139, Tryz.ntmps139
   go_wp2
   go_ret
   exact ⟨by simp [Safe.ok, h1, h2], rfl⟩
  ·go_enter Tryz.func139, Tryz.ntmps139
   go_wp2
   go_ret
   exact ⟨by simp [Safe.ok, h1, h2], rfl⟩
 ·go_enter Tryz.func139, Tryz.ntmps139
  go_wp2
  go_ret
  exact ⟨by simp [Safe.ok]; omega, rfl⟩
def EvStep (g : Nat) (caps : Array Value) (zs : List Int) (ok : Nat → Bool) (I : Nat → World → Prop) : Prop :=
 ∀ k, k < zs.length → (∀ j, j < k → ok j = true) → ∀ w, I k w → Calls Tryz.prog g (#[.int .i64 (zs.getD k 0)] ++ caps) w fun e w' => e = .returned (.bool (ok k)) ∧ I (k + 1) w'
def EvPost (zs : List Int) (ok : Nat → Bool) (I : Nat → World → Prop) (e : Ending) (w' : World) : Prop :=
 ∃ k, k ≤ zs.length ∧ (∀ j, j < k → ok j = true) ∧ ((k = zs.length ∧ e = .returned (.bool true) ∧ I k w') ∨ (k < zs.length ∧ ok k = false ∧ e = .returned (.bool false) ∧ I (k + 1) w'))
set_option maxHeartbeats 400000 in
theorem safe_every (A : Option Addr) (c g : Nat) (zs : List Int) (caps : Array Value) (ok : Nat → Bool) (I : Nat → World → Prop) (w : World) (hl : zs.length ≤ 9223372036854775807)
  (eg : ∀ args w, (callFunc g args).run Tryz.prog w = .ok (.enter g args) w)
  (hI : ∀ k w, I k w → Ints .i64 w A zs) (hs : EvStep g caps zs ok I) (h0 : I 0 w) :
  Calls Tryz.prog 138 #[.slice A zs.length c, .func (.func g) #[] caps] w (EvPost zs ok I) := by
 have HI := Lib.hid hI
 clear hI
 go_enter Tryz.func138, Tryz.ntmps138
 go_wp2_with fail
 go_loopw [6, 9] (fun x i wr => ∃ k : Nat, k ≤ zs.length ∧ i = .int .i64 k ∧ I k wr ∧ (∀ j, j < k → ok j = true)) (fun _ i _ => zs.length - (intOf i).toNat)
 case atStart => exact ⟨0, Nat.zero_le _, rfl, h0, by intro j hj; omega⟩
 case round =>
  obtain ⟨k, hk, rfl, hik, hok⟩ := hrel
  have HO := Lib.hid hok
  clear hok
  by_cases hlt : k < zs.length
  ·obtain ⟨b, off, rfl, hb, hc⟩ := HI.out k wr hik k hlt
   have hcall := Lib.hid (hs k hlt HO.out wr hik)
   have ez : zs.getD k 0 = zs[k] := by simp [hlt]
   rw [ez] at hcall
   have hcall2 : Hid (Calls Tryz.prog g (#[.int .i64 zs[k]] ++ caps) wr fun e w' => e = .returned (.bool (ok k)) ∧ I (k + 1) w') := hcall
   clear hcall ez
   go_wp2_with fail
   refine hcall2.out.mono ?_
   rintro e w1 ⟨rfl, h1⟩
   cases hkk : ok k
   ·go_wp2_with fail
    go_ret
    exact ⟨k, hk, HO.out, .inr ⟨hlt, hkk, rfl, h1⟩⟩
   ·have HK := Lib.hid hkk
    clear hkk
    go_wp2_with fail
    go_roundw
    case rel => exact ⟨k + 1, by omega, by go_num, h1, fun j hj => by rcases Nat.lt_succ_iff_lt_or_eq.1 hj with h | h; exact HO.out j h; subst h; exact HK.out⟩
    case measure => simp [intOf]; omega
  ·go_wp2_with fail
   go_ret
   exact ⟨k, hk, HO.out, .inl ⟨by omega, rfl, hik⟩⟩
theorem safe_every_pure (A : Option Addr) (c g : Nat) (zs : List Int) (p : Int → Bool) (w : World) (hl : zs.length ≤ 9223372036854775807)
  (eg : ∀ args w, (callFunc g args).run Tryz.prog w = .ok (.enter g args) w)
  (hI : Ints .i64 w A zs) (hs : ∀ n w, Calls Tryz.prog g #[.int .i64 n] w fun e w' => e = .returned (.bool (p n)) ∧ w = w') :
  Calls Tryz.prog 138 #[.slice A zs.length c, .func (.func g) #[] #[]] w fun e w' => e = .returned (.bool (zs.all p)) ∧ w = w' := by
 refine (safe_every A c g zs #[] (fun j => p (zs.getD j 0)) (fun _ wx => w = wx) w hl eg (fun k wx h => by subst h; exact hI) (fun k hk _ wx h => by subst h; exact (hs _ _)) rfl).mono ?_
 rintro e w' ⟨k, hk, hj, h⟩
 rcases h with ⟨h1, he, hw⟩ | ⟨h1, h2, he, hw⟩
 ·subst h1
  exact ⟨by rw [he, Safe.all_getD hj], hw⟩
 ·exact ⟨by rw [he, Safe.not_all h1 h2], hw⟩
theorem enters_right : ∀ args w, (callFunc 139 args).run Tryz.prog w = .ok (.enter 139 args) w := enters Tryz.func139 (by kernel_rfl) rfl
theorem enters_mul1 : ∀ args w, (callFunc 140 args).run Tryz.prog w = .ok (.enter 140 args) w := enters Tryz.func140 (by kernel_rfl) rfl
theorem enters_mul2 : ∀ args w, (callFunc 141 args).run Tryz.prog w = .ok (.enter 141 args) w := enters Tryz.func141 (by kernel_rfl) rfl
theorem safe_mul1 (n : Int) (w : World) :
  Calls Tryz.prog 140 #[.int .i64 n] w fun e w' => e = .returned (.bool (n != 0)) ∧ w = w' := by
 go_enter Tryz.func140, Tryz.ntmps140
 go_wp2_with fail
 go_ret
 exact ⟨rfl, rfl⟩
theorem safe_mul2 (n s : Int) (g : Nat) (w : World) (hb : Blk w g 3 #[.int .i64 s]) (h0 : 1 ≤ s) (h1 : s ≤ 1099511627776) (h2 : 1 ≤ n) (h3 : n ≤ 1099511627776) :
  Calls Tryz.prog 141 #[.int .i64 n, .pointer (some ⟨g, 0, none⟩)] w fun e w' =>
   e = .returned (.bool (decide (s * n ≤ 1099511627776))) ∧ (if s * n ≤ 1099511627776 then w.setCell ⟨g, 0, none⟩ (.int .i64 (s * n)) else w) = w' := by
 have hc := hb.cell 0
 have hf := hb.frozen 0
 simp at hc
 clear hb
 have hq : n ≤ 1099511627776 / s ↔ s * n ≤ 1099511627776 := by rw [Int.le_ediv_iff_mul_le (by omega), Int.mul_comm]
 by_cases hle : s * n ≤ 1099511627776
 ·have hn : n ≤ 1099511627776 / s := hq.2 hle
  have hp : 0 ≤ s * n := Int.mul_nonneg (by omega) (by omega)
  clear hq
  go_enter Tryz.func141, Tryz.ntmps141
  go_wp2_with fail
  go_ret
  exact ⟨by simp, by simp⟩
 ·have hn : 1099511627776 / s < n := by
   rcases Int.lt_or_le (1099511627776 / s) n with h | h
   ·exact h
   ·exact absurd (hq.1 h) hle
  clear hq
  go_enter Tryz.func141, Tryz.ntmps141
  go_wp2_with fail
  go_ret
  exact ⟨by simp, by simp⟩
end Go.Proofs.YtbnnpkcfifejmaaGreat
namespace Go.Proofs.YtbnnpkcfifejmaaGreat
open Go.RowKit
def MulI (B : Nat) (w : World) (zs : List Int) (k : Nat) (wx : World) : Prop := (∃ s : Int, (Safe.prod (zs.take k) ≤ Safe.top → s = Safe.prod (zs.take k)) ∧ Blk wx B 3 #[.int .i64 s]) ∧ Below B w wx
set_option maxHeartbeats 400000 in
theorem safe_mul (A : Option Addr) (c : Nat) (zs : List Int) (w : World) (hl : zs.length ≤ 9223372036854775807) (hI : Ints .i64 w A zs) :
  Calls Tryz.prog 93 #[.slice A zs.length c] w fun e w' => e = .returned (.tuple #[.int .i64 (Safe.mul zs).1, .int .i64 (Safe.mul zs).2]) ∧ Below w.heap.size w w' := by
 have HI := Lib.hid hI
 clear hI
 cases hall : zs.all Safe.ok
 ·have hfin := Lib.hid (Safe.mul_range hall)
  have HA := Lib.hid hall
  clear hall
  go_enter Tryz.func93, Tryz.ntmps93
  go_wp2_with fail
  refine (safe_every_pure A c 139 zs Safe.ok _ hl enters_right HI.out safe_right).mono ?_
  rintro e w' ⟨rfl, rfl⟩
  rw [HA.out]
  go_wp2_with fail
  go_ret2
  exact ⟨by rw [hfin.out]; rfl, Below.refl _ _⟩
 ·have HA := Lib.hid hall
  clear hall
  cases hz : zs.all (· != 0)
  ·have hfin := Lib.hid (Safe.mul_zero HA.out hz)
   have HZ := Lib.hid hz
   clear hz
   go_enter Tryz.func93, Tryz.ntmps93
   go_wp2_with fail
   refine (safe_every_pure A c 139 zs Safe.ok _ hl enters_right HI.out safe_right).mono ?_
   rintro e w' ⟨rfl, rfl⟩
   rw [HA.out]
   go_wp2_with fail
   refine (safe_every_pure A c 140 zs (· != 0) _ hl enters_mul1 HI.out safe_mul1).mono ?_
   rintro e w' ⟨rfl, rfl⟩
   rw [HZ.out]
   go_wp2_with fail
   go_ret2
   exact ⟨by rw [hfin.out]; rfl, Below.refl _ _⟩
  ·have HZ := Lib.hid hz
   clear hz
   go_enter Tryz.func93, Tryz.ntmps93
   go_wp2_with fail
   refine (safe_every_pure A c 139 zs Safe.ok _ hl enters_right HI.out safe_right).mono ?_
   rintro e w' ⟨rfl, rfl⟩
   rw [HA.out]
   go_wp2_with fail
   refine (safe_every_pure A c 140 zs (· != 0) _ hl enters_mul1 HI.out safe_mul1).mono ?_
   rintro e w' ⟨rfl, rfl⟩
   rw [HZ.out]
   go_wp2_with fail
   refine (safe_every A c 141 zs #[.pointer (some ⟨w.heap.size, 0, none⟩)] (fun j => decide (Safe.prod (zs.take (j + 1)) ≤ Safe.top)) (MulI w.heap.size w zs) _ hl enters_mul2 ?h1 ?h2 ?h3).mono ?_
   case h1 => exact fun k wx h => HI.out.below h.2 (Nat.le_refl _)
   case h2 =>
    intro k hk hok wx hik
    have hb : Safe.prod (zs.take k) ≤ Safe.top := by
     rcases k with _ | k
     ·simp [Safe.prod, Safe.top_eq]
     ·have := hok k (by omega)
      simpa using this
    have hz := (Safe.ok_iff _).1 (Safe.all_of HA.out k hk)
    have hz1 : 1 ≤ zs.getD k 0 := Safe.pos_of HA.out HZ.out _ (by simp [hk])
    have h0 := Safe.prod_pos (zs.take k) (fun x hx => Safe.pos_of HA.out HZ.out x (List.mem_of_mem_take hx))
    obtain ⟨⟨s, hs, hblk⟩, hbel⟩ := hik
    obtain rfl := hs hb
    clear hs
    refine (safe_mul2 (zs.getD k 0) (Safe.prod (zs.take k)) w.heap.size wx hblk h0 hb hz1 hz.2).mono ?_
    rintro e w' ⟨rfl, rfl⟩
    have e1 : zs.getD k 0 = zs[k] := by simp [hk]
    have e2 := Safe.prod_take_succ zs k hk
    refine ⟨?_, ?_, ?_⟩
    ·show _ = Ending.returned (.bool (decide (Safe.prod (zs.take (k + 1)) ≤ Safe.top)))
     rw [e1, e2, Safe.top_eq]
    ·rw [e1, e2]
     by_cases h : Safe.prod (zs.take k) * zs[k] ≤ 1099511627776
     ·rw [if_pos h]
      exact ⟨_, fun _ => rfl, hblk.set_ 0 _⟩
     ·rw [if_neg h]
      exact ⟨_, fun h' => absurd h' h, hblk⟩
    ·split
     ·exact hbel.setCell (Nat.le_refl _) _
     ·exact hbel
   case h3 => exact ⟨⟨1, fun _ => by simp [Safe.prod], by simpa using Blk.new w 3 #[.int .i64 1]⟩, (Below.refl _ _).alloc (Nat.le_refl _) _⟩
   rintro e w' ⟨k, hk, hj, h⟩
   rcases h with ⟨rfl, rfl, ⟨s, hs, hb⟩, hbel⟩ | ⟨h1, h2, rfl, hb, hbel⟩
   ·have hp : Safe.prod zs ≤ Safe.top := by
     rcases hz : zs.length with _ | n
     ·have : zs = [] := List.eq_nil_of_length_eq_zero hz
      subst this; simp [Safe.prod, Safe.top_eq]
     ·have := hj n (by omega)
      simp only [← hz, List.take_length] at this
      simpa using this
    rw [List.take_length] at hs
    obtain rfl := hs hp
    have hc := hb.cell 0
    simp at hc
    have hfin := Lib.hid (Safe.mul_prod HA.out HZ.out hp)
    clear hj hb hp hs
    go_wp2_with fail
    go_ret2
    exact ⟨by rw [hfin.out]; rfl, hbel⟩
   ·have hfin := Lib.hid (Safe.mul_big HA.out HZ.out (k + 1) (by simpa using h2))
    clear hj hb h2
    go_wp2_with fail
    go_ret2
    exact ⟨by rw [hfin.out]; rfl, hbel⟩
end Go.Proofs.YtbnnpkcfifejmaaGreat
namespace Go.Proofs.YtbnnpkcfifejmaaGreat
theorem byte_info : (Tryz.prog.info? 5).map (fun i => (i.zero, i.size, i.bytes)) = some (some (.int .u8 0), 1, 1) := by kernel_rfl
theorem int_info : (Tryz.prog.info? 3).map (fun i => (i.zero, i.size, i.bytes)) = some (some (.int .i64 0), 1, 8) := by kernel_rfl
theorem fix_info : (Tryz.prog.info? 22).map (fun i => (i.zero, i.size, i.bytes)) = some (some (.int .i64 0), 1, 8) := by kernel_rfl
theorem i64_info : (Tryz.prog.info? 2).map (fun i => (i.zero, i.size, i.bytes)) = some (some (.int .i64 0), 1, 8) := by kernel_rfl
theorem ten_info : (Tryz.prog.info? 30).map (fun i => (i.zero, i.size, i.bytes)) = some (some (.agg #[.slice none 0 0, .slice none 0 0]), 2, 48) := by kernel_rfl
end Go.Proofs.YtbnnpkcfifejmaaGreat
