/- Lemmas for the statements of this seat: contracts of functions and the plain laws. -/
import Derived.BigQuiet
import Derived.Deep.AppendLies
import Derived.Deep.Draws
import Derived.Deep.QuietTactic
import Derived.Deep.RegionHeld3
import Derived.Deep.RegionLaw
import Derived.Deep.Slices
import Derived.Defers
import Derived.KernelRfl
import Derived.Laws.CopyOwn
import Derived.Lib.Hide
import Derived.Lib.OthersKept
import Derived.Lib.SliceRun
import Derived.Lib.Walk
import Derived.Recover
import Derived.WalkKit
import Derived.WalkLawsBesides
import Derived.WalkSpells
import Derived.Test.YtkmhagjdafeebaaGreatChecked
set_option linter.unusedVariables false
/- Words for memory: a block known whole, a slice of integers that reads as a list. No program is named here. -/
namespace Go.Proofs.YtkmhagjdafeebaaGreat
open Go.RowKit

/-- A call of a function that has a Go body is entered. -/
theorem enters {P : Program} {f : FuncId} {fn : Func} {c : Code} (hf : P.funcs[f]? = some fn) (hname : (fn.name == "runtime.NumGoroutine") = false) (hb : fn.body = some c) (args : Array Value) (w : World) :
    (callFunc f args).run P w = .ok (.enter f args) w := by
  have h1 : fn.name ≠ "runtime.NumGoroutine" := by simpa using hname
  simp [callFunc, hf, h1, hb]

theorem Bdrawn {B : Nat} {a w : World} (h : Below B a w) (n : Nat) : Below B a (w.drewN n) := ⟨h.os, h.tape, h.output, h.size, h.block⟩

/-- Block g is just the cells cs, none frozen. -/
def Blk (w : World) (g : Nat) (t : TypeId) (cs : Array Value) : Prop := w.heap[g]? = some (.cells cs t (0, 0))

section
variable {w w' : World} {g : Nat} {t : TypeId} {cs : Array Value}
theorem Blk.lt (h : Blk w g t cs) : g < w.heap.size := lt_of_block h
theorem Blk.cell (h : Blk w g t cs) (i : Nat) : w.cell? ⟨g, i, none⟩ = cs[i]? := cell_of_row w g i cs t (0, 0) h
theorem Blk.frozen (h : Blk w g t cs) (i : Nat) : w.frozen? ⟨g, i, none⟩ = false := by
  unfold Blk at h
  simp [World.frozen?, h]
theorem Blk.new (w : World) (t : TypeId) (cs : Array Value) : Blk (w.alloc (.cells cs t)) w.heap.size t cs := heap_alloc_new w _
theorem Blk.drew (h : Blk w g t cs) : Blk w.drew g t cs := h
theorem Blk.drewN (h : Blk w g t cs) (n : Nat) : Blk (w.drewN n) g t cs := h
theorem Blk.alloc (h : Blk w g t cs) (o : Obj) : Blk (w.alloc o) g t cs := (Below.heap_alloc w o g h.lt).trans h
theorem Blk.set_ (h : Blk w g t cs) (i : Nat) (u : Value) : Blk (w.setCell ⟨g, i, none⟩ u) g t (cs.setIfInBounds i u) := by
  unfold Blk at h ⊢
  simp [World.setCell, Array.getElem?_modify, h]
theorem Blk.far (h : Blk w g t cs) {p : Addr} (hp : g ≠ p.block) (u : Value) : Blk (w.setCell p u) g t cs := (Below.heap_setCell w p u g hp).trans h
theorem Blk.below {B : Nat} (h : Blk w g t cs) (hb : Below B w w') (hg : g < B) : Blk w' g t cs := (hb.block g hg).trans h
theorem Blk.grown {row : Option Nat} (h : Blk w g t cs) (hb : w.grownBy w' row) (hg : some g ≠ row) : Blk w' g t cs := (hb.block g h.lt hg).trans h
end

/-- The slice at A reads as the integers zs (nil and empty slices let in). -/
def Ints (k : IntKind) (w : World) (A : Option Addr) (zs : List Int) : Prop :=
  ∀ j, j < zs.length → ∃ b off, A = some ⟨b, off, none⟩ ∧ b < w.heap.size ∧ w.cell? ⟨b, off + j, none⟩ = some (.int k (zs.getD j 0))

section
variable {k : IntKind} {w w' : World} {A : Option Addr} {zs : List Int}
theorem Ints.nil : Ints k w A [] := fun j hj => by simp at hj
theorem Ints.below {B : Nat} (h : Ints k w A zs) (hb : Below B w w') (hB : w.heap.size ≤ B) : Ints k w' A zs := fun j hj => by
  obtain ⟨b, off, e, hl, hc⟩ := h j hj
  exact ⟨b, off, e, Nat.lt_of_lt_of_le hl hb.size, (hb.cell (p := ⟨b, off + j, none⟩) (Nat.lt_of_lt_of_le hl hB)).trans hc⟩
theorem Ints.alloc (h : Ints k w A zs) (o : Obj) : Ints k (w.alloc o) A zs := h.below ((Below.refl _ _).alloc (Nat.le_refl _) o) (Nat.le_refl _)
theorem Ints.drew (h : Ints k w A zs) : Ints k w.drew A zs := h
theorem Ints.drewN (h : Ints k w A zs) (n : Nat) : Ints k (w.drewN n) A zs := h
theorem Ints.of_row {b off : Nat} (hc : ∀ j, j < zs.length → w.cell? ⟨b, off + j, none⟩ = some (.int k (zs.getD j 0))) : Ints k w (some ⟨b, off, none⟩) zs :=
  fun j hj => ⟨b, off, rfl, World.block_lt_of_cell? _ _ (hc j hj), hc j hj⟩
end

theorem ret_int {k : IntKind} {a b : Int} (h : a = b) : Ending.returned (.int k a) = .returned (.int k b) := by rw [h]
theorem ret_bool {a b : Bool} (h : a = b) : Ending.returned (.bool a) = .returned (.bool b) := by rw [h]

/-- What was read off a slice of integers that came in: its elements alone. -/
theorem Ints.of_came {k : IntKind} {w : World} {a : Option Addr} {len cap : Nat} {zs : List Int}
    (h : (a = none ∧ len = 0 ∧ cap = 0 ∧ zs = []) ∨ ∃ x, a = some x ∧ len ≤ cap ∧ cap ≤ maxLen ∧ zs.length = cap ∧ (∀ i, i < zs.length → w.cell? (x.add i) = some (.int k (zs.getD i 0))) ∧ ∀ n ∈ zs, (Lit.int k n).wf = true) :
    Ints k w a (zs.take len) ∧ (zs.take len).length = len ∧ (∀ n ∈ zs.take len, (Lit.int k n).wf = true) ∧ len ≤ maxLen := by
  rcases h with ⟨rfl, rfl, rfl, rfl⟩ | ⟨x, rfl, hl, hm, hz, hc, hw⟩
  · exact ⟨Ints.nil, rfl, by simp, by simp⟩
  · refine ⟨fun j hj => ?_, by simp; omega, fun n hn => hw n (List.mem_of_mem_take hn), by omega⟩
    have hj' : j < len := by simp at hj; omega
    have hc' := hc j (by omega)
    obtain ⟨b, off, spot⟩ := x
    have hs : spot = none := by simpa [Addr.add] using World.cell?_spot (hc 0 (by omega))
    subst hs
    have hc2 : w.cell? ⟨b, off + j, none⟩ = some (.int k (zs.getD j 0)) := by
      by_cases h0 : j = 0
      · subst h0; simpa [Addr.add] using hc'
      · simpa [Addr.add, h0] using hc'
    refine ⟨b, off, rfl, World.block_lt_of_cell? _ _ hc2, ?_⟩
    rw [hc2]
    have e : (zs.take len).getD j 0 = zs.getD j 0 := by simp [List.getD_eq_getElem?_getD, hj']
    rw [e]
end Go.Proofs.YtkmhagjdafeebaaGreat
namespace Go.Proofs.YtkmhagjdafeebaaGreat
open Go.RowKit
theorem wf_bd {n : Int} (h : (Lit.int .i64 n).wf = true) : -9223372036854775808 ≤ n ∧ n ≤ 9223372036854775807 := by
  have hmin : IntKind.i64.min = -9223372036854775808 := rfl
  have hmax : IntKind.i64.max = 9223372036854775807 := rfl
  simp only [Lit.wf, Bool.and_eq_true, decide_eq_true_eq] at h
  omega
theorem wf_bd8 {n : Int} (h : (Lit.int .u8 n).wf = true) : 0 ≤ n ∧ n ≤ 255 := by
  have hmin : IntKind.u8.min = 0 := rfl
  have hmax : IntKind.u8.max = 255 := rfl
  simp only [Lit.wf, Bool.and_eq_true, decide_eq_true_eq] at h
  omega
/-- A slice of integers that came in, as the walks take it. -/
theorem ints_came {k : IntKind} {w : World} {a : Option Addr} {len cap : Nat} {zs : List Int}
    (h : (a = none ∧ len = 0 ∧ cap = 0 ∧ zs = []) ∨ ∃ x, a = some x ∧ len ≤ cap ∧ cap ≤ maxLen ∧ zs.length = cap ∧ (∀ i, i < zs.length → w.cell? (x.add i) = some (.int k (zs.getD i 0))) ∧ ∀ n ∈ zs, (Lit.int k n).wf = true) :
    ∃ ys : List Int, ys.length = len ∧ ys.length ≤ 9223372036854775807 ∧ Ints k w a ys ∧ ∀ n ∈ ys, (Lit.int k n).wf = true := by
  obtain ⟨h1, h2, h3, h4⟩ := Ints.of_came h
  exact ⟨zs.take len, h2, by rw [h2]; unfold maxLen at h4; omega, h1, h3⟩
end Go.Proofs.YtkmhagjdafeebaaGreat
namespace Go.Proofs.YtkmhagjdafeebaaGreat
open Go.RowKit
/-- What a slice of the call's own holds, read as integers. -/
theorem Ints.of_own {k : IntKind} {w : World} {base : Nat} {e : TypeId} {v : Value} {n : Nat} {zs : List Int} (h : w.ownsRow base e 1 v n (zs.map (Value.int k))) :
    ∃ A c, v = .slice A zs.length c ∧ n = zs.length ∧ Ints k w A zs := by
  have hn : zs.length = n := by have := h.1; simpa using this
  subst hn
  rcases h.2 with ⟨rfl, h0⟩ | ⟨g, cap, cur, rfl, hb, hh, r1, r2, r3, r4⟩
  · have : zs = [] := List.eq_nil_of_length_eq_zero h0
    subst this
    exact ⟨none, 0, rfl, rfl, Ints.nil⟩
  · refine ⟨_, cap, rfl, rfl, Ints.of_row fun j hj => ?_⟩
    rw [Nat.zero_add, h.cellAt j (by simpa using hj)]
    simp [hj]
theorem one_new (w : World) (t : TypeId) (v : Value) : ∀ (j : Nat) (u : Value), [v][j]? = some u → (w.alloc (.cells #[v] t)).cell? (Addr.add ⟨w.heap.size, 0, none⟩ j) = some u := by
  intro j u hj
  match j, hj with
  | 0, hj => simp at hj; subst hj; simp [Addr.add]
theorem one_new2 (w : World) (o : Obj) (t : TypeId) (v : Value) : ∀ (j : Nat) (u : Value), [v][j]? = some u → ((w.alloc o).alloc (.cells #[v] t)).cell? (Addr.add ⟨w.heap.size + 1, 0, none⟩ j) = some u := by
  have := one_new (w.alloc o) t v
  rw [World.size_alloc] at this
  exact this

/-- string(b), b a slice of bytes that reads as the numbers zs. -/
theorem run_string_of {P : Program} {w : World} {A : Option Addr} {zs : List Int} (c : Nat) (src e dst : TypeId) (hs : P.underlying src = some (.slice e)) (he : P.underlying e = some (.int .u8)) (hd : P.underlying dst = some .string) (h : Ints .u8 w A zs) :
    (convert src dst (.slice A zs.length c)).run P w = .ok (.string (strOfNums zs)) w := by
  rcases zs with _ | ⟨z, r⟩
  · rcases A with _ | a
    · exact run_convert_bytes_nil w src e hs he 0 c dst hd
    · rw [run_convert_bytes_string w src dst e _ _ c hs he hd]
      exact run_bytesToString w a 0 c [] (run_loadCells_list (P := P) w a [] (fun j v hj => by simp at hj))
  · obtain ⟨b, off, rfl, hb, _⟩ := h 0 (by simp)
    refine run_convert_bytes_arg w src e hs he b off _ c (z :: r) rfl (fun i hi => ?_) dst hd
    obtain ⟨b', off', e', _, hc⟩ := h i hi
    injection e' with e'
    injection e' with e1 e2
    subst e1; subst e2
    exact hc
theorem strOfNums_append (a b : List Int) : strOfNums (a ++ b) = strOfNums a ++ strOfNums b := by
  unfold strOfNums
  rw [List.map_append, ByteArray.mk_append_mk]
theorem strOfNums_beq (a b : List Int) (h : a = b) : ((strOfNums a).toList == (strOfNums b).toList) = true := by subst h; simp
theorem wf_u8 {n : Int} (h : 0 ≤ n ∧ n ≤ 255) : (Lit.int .u8 n).wf = true := by
  have hmin : IntKind.u8.min = 0 := rfl
  have hmax : IntKind.u8.max = 255 := rfl
  simp only [Lit.wf, Bool.and_eq_true, decide_eq_true_eq]
  omega
/-- A callee that leaves the world as it is, inside a region that only reads. -/
theorem quiet_same {P : Program} {f : FuncId} {args : Array Value} {w : World} {n : Nat} {v : Value}
    (h : Calls P f args (w.drewN n) fun e w' => e = .returned v ∧ w.drewN n = w') : Calls P f args (w.drewN n) fun e w'' => e = .returned v ∧ ∃ m, w'' = w.drewN m :=
  h.mono fun _ _ ⟨he, hm⟩ => ⟨he, n, hm.symm⟩
/-- A callee that only draws, inside a region that only reads. -/
theorem quiet_drawn {P : Program} {f : FuncId} {args : Array Value} {w : World} {n : Nat} {v : Value}
    (h : Calls P f args (w.drewN n) fun e w' => e = .returned v ∧ ∃ m, w' = (w.drewN n).drewN m) : Calls P f args (w.drewN n) fun e w'' => e = .returned v ∧ ∃ m, w'' = w.drewN m :=
  h.mono fun _ _ ⟨he, m, hm⟩ => ⟨he, n + m, hm.trans (World.drewN_drewN _ _ _)⟩
end Go.Proofs.YtkmhagjdafeebaaGreat
/- A frame: only some blocks of what was there may have turned. No program is named here. -/
namespace Go.Proofs.YtkmhagjdafeebaaGreat
open Go.RowKit

/-- w' is w with new blocks, and with changes in the blocks of S alone. -/
def Fr (S : Nat → Prop) (w w' : World) : Prop := Below 0 w w' ∧ ∀ b, b < w.heap.size → ¬ S b → w'.heap[b]? = w.heap[b]?
section
variable {S T : Nat → Prop} {w w1 w2 w' : World}
theorem Fr.size (h : Fr S w w') : w.heap.size ≤ w'.heap.size := h.1.size
theorem Fr.refl (S : Nat → Prop) (w : World) : Fr S w w := ⟨Below.refl _ _, fun _ _ _ => rfl⟩
theorem Fr.trans' (h : Fr S w w1) (k : Fr T w1 w2) (hT : ∀ b, b < w.heap.size → T b → S b) : Fr S w w2 :=
  ⟨h.1.trans k.1, fun b hb hS => (k.2 b (Nat.lt_of_lt_of_le hb h.size) fun ht => hS (hT b hb ht)).trans (h.2 b hb hS)⟩
theorem Fr.trans (h : Fr S w w1) (k : Fr S w1 w2) : Fr S w w2 := h.trans' k fun _ _ h => h
theorem Fr.mono (h : Fr S w w') (hT : ∀ b, b < w.heap.size → S b → T b) : Fr T w w' := ⟨h.1, fun b hb hS => h.2 b hb fun hs => hS (hT b hb hs)⟩
theorem Fr.of_grown {row : Option Nat} (h : w.grownBy w' row) (hS : ∀ k, row = some k → k < w.heap.size → S k) : Fr S w w' :=
  ⟨⟨h.os, h.tape, h.output, h.size, fun k hk => absurd hk (Nat.not_lt_zero k)⟩, fun b hb hs => h.block b hb fun e => hs (hS b e.symm hb)⟩
theorem Fr.grown {row : Option Nat} (h : Fr S w w1) (k : w1.grownBy w2 row) (hS : ∀ j, row = some j → j < w.heap.size → S j) : Fr S w w2 :=
  ⟨h.1.trans ⟨k.os, k.tape, k.output, k.size, fun k hk => absurd hk (Nat.not_lt_zero k)⟩, fun b hb hs => (k.block b (Nat.lt_of_lt_of_le hb h.size) fun e => hs (hS b e.symm hb)).trans (h.2 b hb hs)⟩
theorem Fr.alloc (h : Fr S w w1) (o : Obj) : Fr S w (w1.alloc o) := ⟨h.1.alloc (Nat.zero_le _) o, fun b hb hs => (Below.heap_alloc w1 o b (Nat.lt_of_lt_of_le hb h.size)).trans (h.2 b hb hs)⟩
theorem Fr.drew (h : Fr S w w1) : Fr S w w1.drew := ⟨h.1.drew, h.2⟩
theorem Fr.drewN (h : Fr S w w1) (n : Nat) : Fr S w (w1.drewN n) := ⟨Bdrawn h.1 n, h.2⟩
theorem Fr.setCell (h : Fr S w w1) {p : Addr} (hp : p.block < w.heap.size → S p.block) (u : Value) : Fr S w (w1.setCell p u) :=
  ⟨h.1.setCell (Nat.zero_le _) u, fun b hb hs => (Below.heap_setCell w1 p u b fun e => hs (e ▸ hp (e ▸ hb))).trans (h.2 b hb hs)⟩
theorem Fr.of_below {B : Nat} (h : Below B w w') (hS : ∀ b, b < w.heap.size → ¬ S b → b < B) : Fr S w w' := ⟨h.mono (Nat.zero_le _), fun b hb hs => h.block b (hS b hb hs)⟩
theorem Fr.then_below {B : Nat} (h : Fr S w w1) (k : Below B w1 w2) (hB : w.heap.size ≤ B) : Fr S w w2 := ⟨h.1.trans (k.mono (Nat.zero_le _)), fun b hb hs => (k.block b (Nat.lt_of_lt_of_le hb hB)).trans (h.2 b hb hs)⟩
theorem Fr.below {B : Nat} (h : Fr S w w') (hS : ∀ b, S b → B ≤ b) (hB : B ≤ w.heap.size) : Below B w w' := ⟨h.1.os, h.1.tape, h.1.output, h.1.size, fun k hk => h.2 k (Nat.lt_of_lt_of_le hk hB) fun hs => by have := hS k hs; omega⟩
theorem Fr.blk {g : Nat} {t : TypeId} {cs : Array Value} (h : Fr S w w') (hb : Blk w g t cs) (hg : ¬ S g) : Blk w' g t cs := (h.2 g hb.lt hg).trans hb
theorem Fr.cell {p : Addr} {v : Value} (h : Fr S w w') (hc : w.cell? p = some v) (hg : ¬ S p.block) : w'.cell? p = some v := (World.cell?_of_block (w := w) (h.2 p.block (World.block_lt_of_cell? _ _ hc) hg)).trans hc
theorem Fr.ints {k : IntKind} {A : Option Addr} {zs : List Int} (h : Fr S w w') (hI : Ints k w A zs) (hS : ∀ a, A = some a → ¬ S a.block) : Ints k w' A zs := fun j hj => by
  obtain ⟨b, off, e, hl, hc⟩ := hI j hj
  exact ⟨b, off, e, Nat.lt_of_lt_of_le hl h.size, h.cell (p := ⟨b, off + j, none⟩) hc (hS ⟨b, off, none⟩ e)⟩
end

theorem splice_zero {α : Type} (L : List α) (o : Nat) : splice L o ([] : List α) = L := by simp [splice]
theorem splice_set {α : Type} (L : List α) (o : Nat) (l : List α) (v : α) (h : o + l.length < L.length) : (splice L o l).set (o + l.length) v = splice L o (l ++ [v]) := by
  unfold splice
  have h1 : (L.take o).length = o := by rw [List.length_take]; omega
  rw [← List.append_assoc, List.set_append_right (o + l.length) v (by simp [h1])]
  rw [show o + l.length - (L.take o ++ l).length = 0 by simp [h1]]
  rw [List.drop_eq_getElem_cons h, List.set_cons_zero]
  simp [List.append_assoc, Nat.add_assoc]
theorem splice_get {α : Type} (L : List α) (o : Nat) (l : List α) (j : Nat) (h : o + l.length ≤ L.length) (hj : o + l.length ≤ j) : (splice L o l)[j]? = L[j]? := by
  unfold splice
  have h1 : (L.take o).length = o := by rw [List.length_take]; omega
  rw [← List.append_assoc, List.getElem?_append_right (by simp [h1]; omega), List.getElem?_drop]
  congr 1
  simp [h1]; omega
theorem splice_splice {α : Type} (L : List α) (a b : List α) (h : a.length + b.length ≤ L.length) : splice (splice L 0 a) a.length b = splice L 0 (a ++ b) := by
  unfold splice
  simp only [List.take_zero, List.nil_append, Nat.zero_add]
  rw [List.take_append_of_le_length (Nat.le_refl _), List.take_length, List.drop_append, List.drop_eq_nil_of_le (by omega), List.nil_append, List.drop_drop, List.append_assoc, List.length_append]
  congr 3
  omega
theorem splice_full {α : Type} (L l : List α) (h : l.length = L.length) : splice L 0 l = l := by simp [splice, h]
end Go.Proofs.YtkmhagjdafeebaaGreat
/- Closed facts on types: their zero values, sizes and bytes. -/
namespace Go.Proofs.YtkmhagjdafeebaaGreat
theorem byte_info : (Tryz.prog.info? 5).map (fun i => (i.zero, i.size, i.bytes)) = some (some (.int .u8 0), 1, 1) := by kernel_rfl
theorem int_info : (Tryz.prog.info? 3).map (fun i => (i.zero, i.size, i.bytes)) = some (some (.int .i64 0), 1, 8) := by kernel_rfl
theorem fix_info : (Tryz.prog.info? 37).map (fun i => (i.zero, i.size, i.bytes)) = some (some (.int .i64 0), 1, 8) := by kernel_rfl
theorem i64_info : (Tryz.prog.info? 2).map (fun i => (i.zero, i.size, i.bytes)) = some (some (.int .i64 0), 1, 8) := by kernel_rfl
theorem ten_info : (Tryz.prog.info? 26).map (fun i => (i.zero, i.size, i.bytes)) = some (some (.agg #[.slice none 0 0, .slice none 0 0]), 2, 48) := by kernel_rfl
theorem met_info : (Tryz.prog.info? 70).map (fun i => (i.zero, i.size, i.bytes)) = some (some (.agg #[.int .i64 0, .int .i64 0, .int .i64 0, .int .i64 0, .int .i64 0, .int .i64 0]), 6, 48) := by kernel_rfl
theorem instr_info : (Tryz.prog.info? 206).map (fun i => (i.zero, i.size, i.bytes)) = some (some (.agg #[.int .i64 0, .int .i64 0]), 2, 16) := by kernel_rfl
end Go.Proofs.YtkmhagjdafeebaaGreat
/- Numbers as bytes, the highest first: plain laws. -/
namespace Go.Proofs.YtkmhagjdafeebaaGreat
namespace Fp

/-- A number's last bytes, the highest first. -/
def big (n : Int) : Nat → List Int
  | 0 => []
  | s + 1 => (n / 256 ^ s % 256) :: big n s
/-- The number of bytes. -/
def num (l : List Int) : Int := l.foldl (fun a c => a * 256 + c) 0
/-- The weighted sum of bytes, from the place k on. -/
def wsum : Nat → List Int → Int
  | _, [] => 0
  | k, c :: r => ((k : Int) + 1) * c + wsum (k + 1) r
def sum (l : List Int) : Int := wsum 0 l % 4294967296

theorem big_length (n : Int) (s : Nat) : (big n s).length = s := by
  induction s with
  | zero => rfl
  | succ s ih => simp [big, ih]
theorem big_byte (n : Int) (s : Nat) : ∀ x ∈ big n s, 0 ≤ x ∧ x ≤ 255 := by
  induction s with
  | zero => simp [big]
  | succ s ih =>
    intro x hx
    rcases List.mem_cons.1 hx with rfl | hx
    · omega
    · exact ih x hx
theorem big_last (n : Int) (s : Nat) : big n (s + 1) = big (n / 256) s ++ [n % 256] := by
  induction s with
  | zero => simp [big]
  | succ s ih =>
    rw [big, ih, big, List.cons_append]
    congr 2
    rw [Int.pow_succ, Int.mul_comm, Int.ediv_ediv_of_nonneg (by decide)]
theorem num_append (a : List Int) (c : Int) : num (a ++ [c]) = num a * 256 + c := by simp [num]
theorem num_big (n : Int) (s : Nat) : num (big n s) = n % 256 ^ s := by
  induction s generalizing n with
  | zero => simp [big, num, Int.emod_one]
  | succ s ih =>
    rw [big_last, num_append, ih]
    have hp : (0 : Int) < 256 ^ s := Int.pow_pos (by decide)
    have h1 := Int.emod_add_mul_ediv n 256
    have h2 := Int.emod_add_mul_ediv (n / 256) (256 ^ s)
    have h3 : n / 256 / 256 ^ s = n / (256 ^ (s + 1)) := by rw [Int.ediv_ediv_of_nonneg (by decide), Int.pow_succ, Int.mul_comm]
    have h4 := Int.emod_add_mul_ediv n (256 ^ (s + 1))
    rw [h3] at h2
    rw [Int.pow_succ] at h2 h4 ⊢
    generalize n / (256 ^ s * 256) = q at h2 h4
    generalize hP : (256 : Int) ^ s = P at *
    have h5 : P * 256 * q = 256 * (P * q) := by rw [Int.mul_comm P 256, Int.mul_assoc]
    generalize P * q = r at h2 h5
    omega
theorem num_byte (l : List Int) (h : ∀ x ∈ l, 0 ≤ x ∧ x ≤ 255) : 0 ≤ num l ∧ num l < 256 ^ l.length := by
  suffices H : ∀ m (l : List Int), l.length = m → (∀ x ∈ l, 0 ≤ x ∧ x ≤ 255) → 0 ≤ num l ∧ num l < 256 ^ m from H _ l rfl h
  intro m
  induction m with
  | zero => intro l hl _; rw [List.length_eq_zero_iff.1 hl]; simp [num]
  | succ m ih =>
    intro l hl hb
    obtain ⟨a, c, rfl⟩ : ∃ a c, l = a ++ [c] := by
      have hne : l ≠ [] := by intro h; simp [h] at hl
      exact ⟨_, _, (List.dropLast_concat_getLast hne).symm⟩
    have ha := ih a (by simpa using hl) (fun x hx => hb x (by simp [hx]))
    have hc := hb c (by simp)
    rw [num_append, Int.pow_succ]
    generalize (256 : Int) ^ m = P at *
    omega
theorem num_lt7 (l : List Int) (h : ∀ x ∈ l, 0 ≤ x ∧ x ≤ 255) (hl : l.length ≤ 7) : 0 ≤ num l ∧ num l < 72057594037927936 := by
  have ⟨h0, h1⟩ := num_byte l h
  refine ⟨h0, Int.lt_of_lt_of_le h1 ?_⟩
  have : l.length = 0 ∨ l.length = 1 ∨ l.length = 2 ∨ l.length = 3 ∨ l.length = 4 ∨ l.length = 5 ∨ l.length = 6 ∨ l.length = 7 := by omega
  rcases this with h | h | h | h | h | h | h | h <;> rw [h] <;> decide
theorem big_num (l : List Int) (h : ∀ x ∈ l, 0 ≤ x ∧ x ≤ 255) : big (num l) l.length = l := by
  suffices H : ∀ m (l : List Int), l.length = m → (∀ x ∈ l, 0 ≤ x ∧ x ≤ 255) → big (num l) m = l from H _ l rfl h
  intro m
  induction m with
  | zero => intro l hl _; rw [List.length_eq_zero_iff.1 hl]; rfl
  | succ m ih =>
    intro l hl hb
    obtain ⟨a, c, rfl⟩ : ∃ a c, l = a ++ [c] := by
      have hne : l ≠ [] := by intro h; simp [h] at hl
      exact ⟨_, _, (List.dropLast_concat_getLast hne).symm⟩
    have ha := ih a (by simpa using hl) (fun x hx => hb x (by simp [hx]))
    have hc := hb c (by simp)
    rw [big_last, num_append]
    have e1 : (num a * 256 + c) / 256 = num a := by omega
    have e2 : (num a * 256 + c) % 256 = c := by omega
    rw [e1, e2, ha]
theorem big_mod (n : Int) (s : Nat) : big (n % 256 ^ s) s = big n s := by
  have := big_num (big n s) (big_byte n s)
  rwa [big_length, num_big] at this
theorem big_wrap (z : Int) (s : Nat) (h : s ≤ 8) : big (z % 18446744073709551616) s = big z s := by
  rw [← big_mod (z % 18446744073709551616), ← big_mod z]
  congr 1
  apply Int.emod_emod_of_dvd
  refine ⟨256 ^ (8 - s), ?_⟩
  rw [← Int.pow_add, show s + (8 - s) = 8 by omega]
  rfl
/-- A shape's bytes; a list's bytes, eight each. -/
def shape (zs : List Int) : List Int := big zs.length 1 ++ zs.flatMap (big · 2)
def shapeTo (zs : List Int) (k : Nat) : List Int := big zs.length 1 ++ (zs.take k).flatMap (big · 2)
theorem shapeTo_zero (zs : List Int) : shapeTo zs 0 = big zs.length 1 := by simp [shapeTo]
theorem shapeTo_all (zs : List Int) : shapeTo zs zs.length = shape zs := by simp [shapeTo, shape]
theorem shapeTo_succ (zs : List Int) (k : Nat) (h : k < zs.length) : shapeTo zs (k + 1) = shapeTo zs k ++ big zs[k] 2 := by
  unfold shapeTo
  rw [List.take_succ_eq_append_getElem h, List.flatMap_append]; simp only [List.flatMap_cons, List.flatMap_nil, List.append_nil, List.append_assoc]
theorem flat_length (zs : List Int) (s : Nat) : (zs.flatMap (big · s)).length = s * zs.length := by
  induction zs with
  | nil => simp
  | cons z r ih => simp [ih, big_length, Nat.mul_succ]; omega
theorem shapeTo_length (zs : List Int) (k : Nat) (h : k ≤ zs.length) : (shapeTo zs k).length = 1 + 2 * k := by
  unfold shapeTo
  rw [List.length_append, flat_length, big_length, List.length_take, Nat.min_eq_left h]
theorem shape_length (zs : List Int) : (shape zs).length = 1 + 2 * zs.length := by rw [← shapeTo_all, shapeTo_length _ _ (Nat.le_refl _)]
def words (zs : List Int) : List Int := zs.flatMap (big · 8)
def wordsTo (zs : List Int) (k : Nat) : List Int := (zs.take k).flatMap (big · 8)
theorem wordsTo_zero (zs : List Int) : wordsTo zs 0 = [] := by simp [wordsTo]
theorem wordsTo_all (zs : List Int) : wordsTo zs zs.length = words zs := by simp [wordsTo, words]
theorem wordsTo_succ (zs : List Int) (k : Nat) (h : k < zs.length) : wordsTo zs (k + 1) = wordsTo zs k ++ big zs[k] 8 := by
  unfold wordsTo
  rw [List.take_succ_eq_append_getElem h, List.flatMap_append]; simp only [List.flatMap_cons, List.flatMap_nil, List.append_nil]
theorem wordsTo_length (zs : List Int) (k : Nat) (h : k ≤ zs.length) : (wordsTo zs k).length = 8 * k := by
  unfold wordsTo
  rw [flat_length, List.length_take, Nat.min_eq_left h]
theorem words_length (zs : List Int) : (words zs).length = 8 * zs.length := flat_length zs 8
theorem wsum_append (k : Nat) (a b : List Int) : wsum k (a ++ b) = wsum k a + wsum (k + a.length) b := by
  induction a generalizing k with
  | nil => simp [wsum]
  | cons c r ih => simp only [List.cons_append, wsum, ih, List.length_cons]; rw [show k + 1 + r.length = k + (r.length + 1) by omega]; omega
theorem sum_snoc (a : List Int) (c : Int) : sum (a ++ [c]) = (sum a + ((a.length : Int) + 1) * c) % 4294967296 := by
  unfold sum
  rw [wsum_append]
  simp [wsum]
theorem sum_range (l : List Int) : 0 ≤ sum l ∧ sum l < 4294967296 := by unfold sum; omega
theorem take_snoc (l : List Int) (k : Nat) (h : k < l.length) : l.take (k + 1) = l.take k ++ [l[k]] := by rw [List.take_succ_eq_append_getElem h]
theorem sum_step (l : List Int) (k : Nat) (h : k < l.length) : sum (l.take (k + 1)) = (sum (l.take k) + ((k : Int) + 1) * l[k]) % 4294967296 := by
  rw [take_snoc l k h, sum_snoc, List.length_take, Nat.min_eq_left (Nat.le_of_lt h)]
theorem num_step (l : List Int) (k : Nat) (h : k < l.length) : num (l.take (k + 1)) = num (l.take k) * 256 + l[k] := by
  rw [take_snoc l k h, num_append]
/-- Reading: the state is what is left, or none when it fell short. -/
def get (s : Nat) : Option (List Int) → Int × Option (List Int)
  | none => (0, none)
  | some bs => if bs.length < s then (0, none) else (num (bs.take s), some (bs.drop s))
def sides : Nat → List Int → Option (List Int × List Int)
  | 0, bs => some ([], bs)
  | c + 1, bs => if bs.length < 2 then none else (sides c (bs.drop 2)).map fun p => (num (bs.take 2) :: p.1, p.2)
def shapeR : Option (List Int) → List Int × Option (List Int)
  | none => ([], none)
  | some bs => if bs.length < 1 then ([], none) else
    match sides (num (bs.take 1)).toNat (bs.drop 1) with
    | none => ([], none)
    | some p => (p.1, some p.2)
theorem get_none (s : Nat) : get s none = (0, none) := rfl
theorem get_short {s : Nat} {bs : List Int} (h : bs.length < s) : get s (some bs) = (0, none) := by simp [get, h]
theorem get_ok {s : Nat} {bs : List Int} (h : ¬ bs.length < s) : get s (some bs) = (num (bs.take s), some (bs.drop s)) := by simp [get, h]
theorem sides_short {c : Nat} {bs : List Int} (h : bs.length < 2) : sides (c + 1) bs = none := by simp [sides, h]
theorem sides_ok {c : Nat} {bs : List Int} (h : ¬ bs.length < 2) : sides (c + 1) bs = (sides c (bs.drop 2)).map fun p => (num (bs.take 2) :: p.1, p.2) := by simp [sides, h]
def shapeF (c : Nat) (acc : List Int) : Option (List Int) → List Int × Option (List Int)
  | none => ([], none)
  | some bs => match sides c bs with
    | none => ([], none)
    | some p => (acc ++ p.1, some p.2)
theorem shapeR_F (st : Option (List Int)) : shapeR st = shapeF (get 1 st).1.toNat [] (get 1 st).2 := by
  cases st with
  | none => rfl
  | some bs =>
    by_cases h : bs.length < 1
    · rw [get_short h]; simp [shapeR, h, shapeF]
    · rw [get_ok h]; simp only [shapeR, h, if_false, shapeF]
      cases sides (num (bs.take 1)).toNat (bs.drop 1) <;> rfl
theorem shapeF_zero (acc bs : List Int) : shapeF 0 acc (some bs) = (acc, some bs) := by simp [shapeF, sides]
theorem shapeF_short {c : Nat} {acc bs : List Int} (h : bs.length < 2) : shapeF (c + 1) acc (some bs) = ([], none) := by simp [shapeF, sides_short h]
theorem shapeF_ok {c : Nat} {acc bs : List Int} (h : ¬ bs.length < 2) : shapeF (c + 1) acc (some bs) = shapeF c (acc ++ [num (bs.take 2)]) (some (bs.drop 2)) := by
  simp only [shapeF, sides_ok h]
  cases sides c (bs.drop 2) <;> simp
def okB : Option (List Int) → Prop
  | none => True
  | some bs => ∀ x ∈ bs, 0 ≤ x ∧ x ≤ 255
theorem get_one {st : Option (List Int)} (h : okB st) : 0 ≤ (get 1 st).1 ∧ (get 1 st).1 ≤ 255 ∧ ((get 1 st).2 = none → (get 1 st).1 = 0) := by
  cases st with
  | none => simp [get]
  | some bs =>
    by_cases hl : bs.length < 1
    · rw [get_short hl]; simp
    · rw [get_ok hl]
      have := num_byte (bs.take 1) (fun x hx => h x (List.mem_of_mem_take hx))
      rw [List.length_take, Nat.min_eq_left (by omega)] at this
      simp; omega
theorem two_bytes {bs : List Int} (h : ∀ x ∈ bs, 0 ≤ x ∧ x ≤ 255) (hl : ¬ bs.length < 2) : 0 ≤ num (bs.take 2) ∧ num (bs.take 2) ≤ 65535 := by
  have := num_byte (bs.take 2) (fun x hx => h x (List.mem_of_mem_take hx))
  rw [List.length_take, Nat.min_eq_left (by omega)] at this
  omega
end Fp
end Go.Proofs.YtkmhagjdafeebaaGreat
/- Layer 12 (file): the writer: contracts. -/
namespace Go.Proofs.YtkmhagjdafeebaaGreat
open Go.RowKit

def bytesV (bs : List Int) : List Value := bs.map (Value.int .u8)
theorem bytesV_length (bs : List Int) : (bytesV bs).length = bs.length := by simp [bytesV]
theorem bytesV_append (a b : List Int) : bytesV (a ++ b) = bytesV a ++ bytesV b := by simp [bytesV]

abbrev KeptW (b : Nat) (w w' : World) : Prop := Lib.OthersKept 5 (some b) w w'

/-- A writer in a block of the call's own: what it has written. -/
def Wr (B p : Nat) (bs : List Int) (w : World) : Prop :=
  B ≤ p ∧ ∃ v, w.heap[p]? = some (.cells #[v] 109 (0, 0)) ∧ w.ownsRow B 5 1 v bs.length (bytesV bs)

theorem own_kind {w : World} {B : Nat} {e : TypeId} {v : Value} {n : Nat} {xs : List Value} (h : w.ownsRow B e 1 v n xs) : ∀ g, v.ownBlock = some g → ∃ c fz, w.heap[g]? = some (.cells c e fz) := by
  intro g hg
  rcases h.2 with ⟨rfl, _⟩ | ⟨g', cap, cur, rfl, _, hgg, _⟩
  · simp [Value.ownBlock] at hg
  · simp [Value.ownBlock] at hg
    subst hg
    exact ⟨cur, _, hgg⟩

theorem own_heap {w w' : World} {base : Nat} {e : TypeId} {size : Nat} {v : Value} {n : Nat} {xs : List Value} (h : w.ownsRow base e size v n xs) (hk : ∀ g, v.ownBlock = some g → w'.heap[g]? = w.heap[g]?) : w'.ownsRow base e size v n xs := by
  refine ⟨h.1, ?_⟩
  rcases h.2 with h | ⟨g, cap, cur, rfl, h1, h2, h3⟩
  · exact .inl h
  · exact .inr ⟨g, cap, cur, rfl, h1, (hk g rfl).trans h2, h3⟩

theorem Wr.ne {B p : Nat} {t : TypeId} {v : Value} {n : Nat} {xs : List Value} {w : World} {c : Array Value} {fz : Nat × Nat} (hb : w.heap[p]? = some (.cells c t fz)) (hown : w.ownsRow B 5 1 v n xs) (ht : t ≠ 5) : v.ownBlock ≠ some p := fun e => by
  obtain ⟨c, fz, hx⟩ := own_kind hown p e
  rw [hb] at hx
  cases hx
  exact ht rfl

theorem Wr.put {B p : Nat} {bs : List Int} {w : World} {v v' : Value} {n : Nat} {xs : List Value} (hB : B ≤ p) (hb : w.heap[p]? = some (.cells #[v] 109 (0, 0))) (hown : w.ownsRow B 5 1 v' n xs) (hn : n = bs.length) (hx : xs = bytesV bs) :
    Wr B p bs (w.setCell ⟨p, 0, none⟩ v') := by
  subst hn hx
  refine ⟨hB, v', ?_, own_heap hown fun g hg => Below.heap_setCell w _ _ g fun e => Wr.ne hb hown (by decide) (by rw [hg, e])⟩
  exact Blk.set_ (w := w) (g := p) (t := 109) (cs := #[v]) hb 0 v'

theorem Wr.alloc {B p : Nat} {bs : List Int} {w : World} (h : Wr B p bs w) (o : Obj) : Wr B p bs (w.alloc o) := by
  obtain ⟨h1, v, h2, h3⟩ := h
  exact ⟨h1, v, Blk.alloc (g := p) h2 o, h3.alloc o⟩
theorem Wr.drew {B p : Nat} {bs : List Int} {w : World} (h : Wr B p bs w) : Wr B p bs w.drew := h
theorem Wr.lt {B p : Nat} {bs : List Int} {w : World} (h : Wr B p bs w) : p < w.heap.size := by
  obtain ⟨_, v, h2, _⟩ := h
  exact lt_of_block h2
theorem Wr.new (B : Nat) (w : World) (hB : B ≤ w.heap.size) : Wr B w.heap.size [] (w.alloc (.cells #[.slice none 0 0] 109)) :=
  ⟨hB, _, heap_alloc_new w _, World.ownsRow_nil _ _ _ _⟩
theorem Blk.keptW {b g : Nat} {t : TypeId} {cs : Array Value} {w w' : World} (h : Blk w g t cs) (hk : KeptW b w w') (hne : g ≠ b) (ht : t ≠ 5) : Blk w' g t cs :=
  hk g _ h (by simp [hne]) (by intro c fz e; injection e with _ e; exact ht e)

def WrPost (B p : Nat) (bs : List Int) (w : World) (e : Ending) (w' : World) : Prop :=
  e = .returned (.tuple #[]) ∧ Wr B p bs w' ∧ Below B w w' ∧ KeptW p w w'

set_option maxHeartbeats 2000000 in
set_option maxRecDepth 100000 in
theorem writer_put (B p : Nat) (bs : List Int) (n : Int) (size : Nat) (w : World) (h : Wr B p bs w) (hs1 : 1 ≤ size) (hs8 : size ≤ 8) (h0 : 0 ≤ n) (h1 : n < 18446744073709551616) (hlen : bs.length ≤ 1000000000) (hBw : B ≤ w.heap.size) :
    Calls Tryz.prog 39 #[.pointer (some ⟨p, 0, none⟩), .int .u64 n, .int .i64 size] w (WrPost B p (bs ++ Fp.big n size) w) := by
  obtain ⟨i0, hi, hz0, hz1, hz2⟩ := info_parts byte_info
  have HW := Lib.hid h
  clear h
  go_enter Tryz.func39, Tryz.ntmps39
  go_wp2_with fail
  go_loopw [2] (fun i wr => ∃ (k : Nat) (cs : List Int), k ≤ size ∧ i = .int .i64 k ∧ cs.length ≤ 8 ∧ cs ++ Fp.big n k = Fp.big n size ∧ Wr B p (bs ++ cs) wr ∧ Below B w wr ∧ KeptW p w wr) (fun i _ => (intOf i).toNat)
  case atStart => exact ⟨size, [], Nat.le_refl _, rfl, by simp, rfl, by rw [List.append_nil]; exact HW.out, Below.refl _ _, Lib.OthersKept.refl _ _ _⟩
  case round =>
    obtain ⟨k, cs, hk, rfl, hcs, hcat, hWr, hbel, hkept⟩ := hrel
    have HC := Lib.hid hcat
    clear hcat HW
    obtain ⟨hB, v, hblk, hown⟩ := hWr
    cases k with
    | zero =>
      have hcat : cs = Fp.big n size := by have := HC.out; rwa [Fp.big, List.append_nil] at this
      go_wp2_with fail
      go_end0
      exact ⟨rfl, ⟨hB, v, hblk, by rw [← hcat]; exact hown⟩, hbel, hkept⟩
    | succ k =>
      have c0 : wr.cell? ⟨p, 0, none⟩ = some v := by rw [Lib.cell_of_heap hblk]; rfl
      have hk8 : k < 8 := by omega
      have hsz := hbel.size
      have hplt : p < wr.heap.size := lt_of_block hblk
      have ag : v.ownBlock ≠ some p := fun e => by
        obtain ⟨c, fz, hx⟩ := own_kind hown p e
        rw [hblk] at hx
        cases hx
      have hp : (2 : Int) ^ (8 * k) = 256 ^ k := by rw [Int.pow_mul]; rfl
      have v1 : ((k + 1 : Nat) : Int) - 1 = k := by omega
      have v2 : IntKind.i64.wrap (8 * (k : Int)) = 8 * k := IntWalk.i64_in _ (by omega)
      have v3 : (8 * (k : Int)).toNat = 8 * k := by omega
      have v4 : IntKind.u8.wrap (n / 256 ^ k) = n / 256 ^ k % 256 := by rw [IntKind.wrap_u8']
      have v5 : IntKind.i64.wrap (k : Int) = k := IntWalk.i64_in _ (by omega)
      have grown_blk : ∀ (o : Obj) (w1 : World), (wr.alloc o).drew.grownBy w1 v.ownBlock → w1.heap[p]? = some (.cells #[v] 109 (0, 0)) := fun o w1 hg => by
        rw [hg.block p (by simp; omega) (fun e => ag e.symm)]
        exact (Lib.alloc_old wr _ p hplt).trans hblk
      go_wp2_with fail
      go_region_law ((refine step_append_lies _ (by rfl) _ _ _ (by rfl) B 5 i0 _ 1 1 Tryz.underlying33 hi hz0 hz1 hz2 rfl (by omega) v (bs ++ cs).length (bytesV (bs ++ cs)) (by rfl) ((hown.alloc _).drew) ⟨wr.heap.size, 0, none⟩ 1 1 [.int .u8 (n / 256 ^ k % 256)] (by rfl) (by rfl) (World.news_of_block (cs := #[.int .u8 (n / 256 ^ k % 256)]) (t := 5) (fr := (0, 0)) (heap_alloc_new wr _)) (by simp [Value.oneCell']) (by omega) (by unfold maxLen; simp; omega) (by simp; omega) (by simp; omega) (wr.heap.size + 1) (by simp) ?_; intro gg cap w1 hown1 hgrow hat hlt1; have hb2 := grown_blk _ _ hgrow; have d0 : w1.cell? ⟨p, 0, none⟩ = some v := (by rw [Lib.cell_of_heap hb2]; rfl); have f0 : w1.frozen? ⟨p, 0, none⟩ = false := Lib.frozen_of_heap hb2 0))
      all_goals
        have hb3 : Below B w w1 := (((hbel.alloc (by omega) _).drew).grown hgrow (by simp; omega) (fun g hg => (hown.lt g hg).1))
        have hk3 : KeptW p w w1 := ((hkept.alloc _).drew).grown hgrow (own_kind (hown.alloc _))
        have hW3 : Wr B p (bs ++ (cs ++ [n / 256 ^ k % 256])) (w1.setCell ⟨p, 0, none⟩ (.slice (some ⟨gg, 0, none⟩) ((bs ++ cs).length + 1) cap)) := Wr.put hB hb2 hown1 (by simp; omega) (by simp [bytesV])
        have hlen2 : (bs ++ cs).length + 1 = bs.length + cs.length + 1 := by simp
        rw [hlen2] at hW3
        have HC2 := Lib.hid (show (cs ++ [n / 256 ^ k % 256]) ++ Fp.big n k = Fp.big n size by have := HC.out; rw [← this, Fp.big]; simp)
        have hcs2 : cs.length + k + 1 = size := by have := congrArg List.length HC.out; rw [List.length_append, Fp.big_length, Fp.big_length] at this; omega
        clear hgrow hown1 hat hb2 d0 f0 grown_blk v1 v2 v3 v4 v5 hp hown hbel hkept
        go_wp2_with fail
        go_roundw
        case rel => exact ⟨k, cs ++ [n / 256 ^ k % 256], by omega, by go_num, by simp; omega, HC2.out, hW3, hb3.setCell (p := ⟨p, 0, none⟩) hB _, hk3.setCell ⟨p, 0, none⟩ rfl _⟩
        case measure => simp [intOf]

/-- A row of numbers that the writer at p leaves as it is. -/
def IntsK (B p : Nat) (k : IntKind) (w : World) (A : Option Addr) (zs : List Int) : Prop := ∀ w', Below B w w' → KeptW p w w' → Ints k w' A zs
theorem IntsK.keep {B p : Nat} {k : IntKind} {w w' : World} {A : Option Addr} {zs : List Int} (h : IntsK B p k w A zs) (hb : Below B w w') (hk : KeptW p w w') : IntsK B p k w' A zs := fun w2 h2 h3 => h w2 (hb.trans h2) (hk.trans h3)
theorem Ints.kept {B p : Nat} {k : IntKind} {w : World} {A : Option Addr} {zs : List Int} (h : Ints k w A zs) (hB : w.heap.size ≤ B) : IntsK B p k w A zs := fun _ hb _ => h.below hb hB
/-- A row of numbers that whatever is written above B leaves as it is. -/
def IntsS (B : Nat) (k : IntKind) (w : World) (A : Option Addr) (zs : List Int) : Prop := ∀ w', Below B w w' → Ints k w' A zs
theorem IntsS.below {B : Nat} {k : IntKind} {w w' : World} {A : Option Addr} {zs : List Int} (h : IntsS B k w A zs) (hb : Below B w w') : IntsS B k w' A zs := fun w2 h2 => h w2 (hb.trans h2)
theorem IntsS.now {B : Nat} {k : IntKind} {w : World} {A : Option Addr} {zs : List Int} (h : IntsS B k w A zs) : Ints k w A zs := h w (Below.refl _ _)
theorem Ints.stable {B : Nat} {k : IntKind} {w : World} {A : Option Addr} {zs : List Int} (h : Ints k w A zs) (hB : w.heap.size ≤ B) : IntsS B k w A zs := fun _ hb => h.below hb hB

set_option maxHeartbeats 2000000 in
set_option maxRecDepth 100000 in
theorem writer_shape (B p : Nat) (bs : List Int) (A : Option Addr) (c : Nat) (zs : List Int) (w : World) (h : Wr B p bs w) (hI : IntsS B .i64 w A zs) (hl : zs.length ≤ 1000000) (hlen : bs.length ≤ 900000000) (hBw : B ≤ w.heap.size) :
    Calls Tryz.prog 40 #[.pointer (some ⟨p, 0, none⟩), .slice A zs.length c] w (WrPost B p (bs ++ Fp.shape zs) w) := by
  have HW := Lib.hid h
  have HI := Lib.hid hI
  clear h hI
  go_enter Tryz.func40, Tryz.ntmps40
  go_wp2_with fail
  refine (writer_put B p bs zs.length 1 _ HW.out (by omega) (by omega) (by omega) (by omega) (by omega) hBw).mono ?_
  rintro e w1 ⟨rfl, hW1, hb1, hk1⟩
  rw [← Fp.shapeTo_zero] at hW1
  have hsz1 := hb1.size
  clear HW
  go_wp2_with fail
  go_loopw [13] (fun i wr => ∃ k : Nat, k ≤ zs.length ∧ i = .int .i64 k ∧ Wr B p (bs ++ Fp.shapeTo zs k) wr ∧ Below B w wr ∧ KeptW p w wr) (fun i _ => zs.length - (intOf i).toNat)
  case atStart => exact ⟨0, Nat.zero_le _, rfl, hW1, hb1, hk1⟩
  case round =>
    clear hW1 hb1 hk1 hsz1
    obtain ⟨k, hk, rfl, hWr, hbel, hkept⟩ := hrel
    by_cases hlt : k < zs.length
    · obtain ⟨b, off, rfl, hb, hc⟩ := HI.out wr hbel k hlt
      have HS := Lib.hid (Fp.shapeTo_succ zs k hlt)
      have hkl := Fp.shapeTo_length zs k hk
      have hsz := hbel.size
      have hu : IntKind.u64.wrap zs[k] = zs[k] % 18446744073709551616 := IntKind.wrap_u64 _
      have HW := Lib.hid hWr
      clear hWr
      go_wp2_with fail
      refine (writer_put B p (bs ++ Fp.shapeTo zs k) (zs[k] % 18446744073709551616) 2 _ HW.out (by omega) (by omega) (by omega) (by omega) (by simp; omega) (by omega)).mono ?_
      rintro e w2 ⟨rfl, hW2, hb2, hk2⟩
      rw [Fp.big_wrap _ _ (by omega), List.append_assoc, ← HS.out] at hW2
      have hb3 := hbel.trans hb2
      have hk3 := hkept.trans hk2
      clear hb2 hk2 hbel hkept HW
      go_wp2_with fail
      go_roundw
      case rel => exact ⟨k + 1, by omega, by go_num, hW2, hb3, hk3⟩
      case measure => simp [intOf]; omega
    · obtain rfl : k = zs.length := by omega
      rw [Fp.shapeTo_all] at hWr
      go_wp2_with fail
      go_end0
      exact ⟨rfl, hWr, hbel, hkept⟩

set_option maxHeartbeats 1000000 in
set_option maxRecDepth 100000 in
theorem file_sum (A : Option Addr) (c : Nat) (zs : List Int) (w : World) (hI : Ints .u8 w A zs) (hl : zs.length ≤ 1000000000) (hby : ∀ x ∈ zs, 0 ≤ x ∧ x ≤ 255) :
    Calls Tryz.prog 60 #[.slice A zs.length c] w fun e w' => e = .returned (.int .u32 (Fp.sum zs)) ∧ w = w' := by
  have HI := Lib.hid hI
  have HB := Lib.hid hby
  clear hI hby
  go_enter Tryz.func60, Tryz.ntmps60
  go_wp2_with fail
  go_loopw [3, 8] (fun s i wr => wr = w ∧ ∃ k : Nat, k ≤ zs.length ∧ i = .int .i64 k ∧ s = .int .u32 (Fp.sum (zs.take k))) (fun _ i _ => zs.length - (intOf i).toNat)
  case atStart => exact ⟨rfl, 0, Nat.zero_le _, rfl, rfl⟩
  case round =>
    obtain ⟨rfl, k, hk, rfl, rfl⟩ := hrel
    by_cases hlt : k < zs.length
    · obtain ⟨b, off, rfl, hb, hc⟩ := HI.out k hlt
      have HS := Lib.hid (Fp.sum_step zs k hlt)
      have ⟨hx0, hx1⟩ := HB.out zs[k] (List.getElem_mem hlt)
      have ⟨hs0, hs1⟩ := Fp.sum_range (zs.take k)
      generalize Fp.sum (zs.take k) = sm at *
      have hpr := Int.mul_nonneg (show (0 : Int) ≤ (k : Int) + 1 by omega) hx0
      have v1 : IntKind.i64.wrap ((k : Int) + 1) = (k : Int) + 1 := IntWalk.i64_in _ (by omega)
      have v2 : IntKind.u32.wrap ((k : Int) + 1) = (k : Int) + 1 := IntWalk.u32_in _ (by omega)
      have v3 : IntKind.u32.wrap zs[k] = zs[k] := IntWalk.u32_in _ (by omega)
      have v4 : IntKind.u32.wrap (((k : Int) + 1) * zs[k]) = ((k : Int) + 1) * zs[k] % 4294967296 := IntKind.wrap_u32' _
      have v5 : IntKind.u32.wrap (sm + ((k : Int) + 1) * zs[k] % 4294967296) = (sm + ((k : Int) + 1) * zs[k] % 4294967296) % 4294967296 := IntKind.wrap_u32' _
      clear hpr
      go_wp2_with fail
      go_roundw
      case rel => exact ⟨trivial, k + 1, by omega, by go_num, by rw [HS.out]⟩
      case measure => simp [intOf]; omega
    · obtain rfl : k = zs.length := by omega
      rw [List.take_length]
      go_wp2_with fail
      go_ret
      exact ⟨rfl, rfl⟩

def ClonePost (B : Nat) (zs : List Int) (w : World) (e : Ending) (w' : World) : Prop :=
  ∃ v, e = .returned v ∧ w'.ownsRow B 5 1 v zs.length (bytesV zs) ∧ Below B w w'

set_option maxHeartbeats 1000000 in
set_option maxRecDepth 100000 in
theorem bytes_clone (A : Option Addr) (c : Nat) (zs : List Int) (w : World) (hI : Ints .u8 w A zs) (hl : zs.length ≤ 1000000000) :
    Calls Tryz.prog 61 #[.slice A zs.length c] w (ClonePost w.heap.size zs w) := by
  obtain ⟨i0, hi, hz0, hz1, hz2⟩ := info_parts byte_info
  have HI := Lib.hid hI
  clear hI
  have hq : ∀ (w : World) (a : Option Addr) (n c n' c' : Nat), (binOp .eql 33 (.slice a n c) (.slice none n' c')).run Tryz.prog w = .ok (.bool a.isNone) w := fun w a n c n' c' => Lib.run_eql_slice_nil w _ _ a n c n' c' Tryz.underlying33
  cases A with
  | none =>
    have hz : zs = [] := by
      cases zs with
      | nil => rfl
      | cons x r => obtain ⟨b, off, h, _⟩ := HI.out 0 (by simp); cases h
    subst hz
    go_enter Tryz.func61, Tryz.ntmps61
    go_wp2_with fail
    go_ret
    exact ⟨_, rfl, World.ownsRow_nil _ _ _ _, Below.refl _ _⟩
  | some ad =>
    go_enter Tryz.func61, Tryz.ntmps61
    go_wp2_with (at_builtin; refine wpList_append_own _ rfl _ _ 33 rfl w.heap.size 5 i0 (.int .u8 0) 1 1 Tryz.underlying33 hi hz0 hz1 hz2 rfl (by decide) _ 0 [] rfl (World.ownsRow_made w #[] 0 (Nat.le_refl _) (Nat.zero_le _) rfl) ad zs.length c (bytesV zs) rfl ?c1 ?c2 ?c3 ?c4 ?c5 ?c6 ?_)
    case c1 => rw [bytesV_length]; simp
    case c2 =>
      intro j u hj
      unfold bytesV at hj
      obtain ⟨x, hx, rfl⟩ := List.getElem?_map .. ▸ hj |> Option.map_eq_some_iff.1
      obtain ⟨hjl, rfl⟩ := List.getElem?_eq_some_iff.1 hx
      obtain ⟨b, off, e, _, hcell⟩ := HI.out j hjl
      injection e with e
      subst e
      rw [Addr.add_lit]
      refine Lib.cell?_alloc_some _ ?_
      rw [hcell]
      simp [hjl]
    case c3 => intro u hu; obtain ⟨x, _, rfl⟩ := List.mem_map.1 hu; rfl
    case c4 => unfold maxLen; omega
    case c5 => omega
    case c6 => simp
    intro v' w1 hown hgrow hnil
    go_wp2_with fail
    go_ret
    refine ⟨v', rfl, by simpa using hown, ?_⟩
    exact ((Below.refl _ w).alloc (Nat.le_refl _) _).grown hgrow (by simp) (by intro k hk; simp [Value.ownBlock] at hk; omega)

theorem own_cap {w : World} {B n c m : Nat} {e : TypeId} {A : Option Addr} {xs : List Value} (h : w.ownsRow B e 1 (.slice A n c) m xs) : n ≤ c := by
  rcases h.2 with ⟨e, h0⟩ | ⟨g, cap, cur, e, _, _, hc, _⟩
  · injection e with _ e1 e2; omega
  · injection e with _ e1 e2; omega
theorem Wr.ints {B p : Nat} {bs : List Int} {w : World} (h : Wr B p bs w) : ∃ A c, w.heap[p]? = some (.cells #[.slice A bs.length c] 109 (0, 0)) ∧ Ints .u8 w A bs ∧ bs.length ≤ c := by
  obtain ⟨_, v, h2, h3⟩ := h
  obtain ⟨A', c', hv, hn, hI'⟩ := Ints.of_own h3
  subst hv
  exact ⟨A', c', h2, hI', own_cap h3⟩

/-- Bytes that the call made, and what lies below. -/
def SealPost (bs : List Int) (w : World) (e : Ending) (w' : World) : Prop :=
  ∃ A c, e = .returned (.slice A (bs.length + 4) c) ∧ Ints .u8 w' A (bs ++ Fp.big (Fp.sum bs) 4) ∧ bs.length + 4 ≤ c ∧ Below w.heap.size w w'

set_option maxHeartbeats 1000000 in
set_option maxRecDepth 100000 in
theorem writer_seal (B p : Nat) (bs : List Int) (w : World) (h : Wr B p bs w) (hlen : bs.length ≤ 900000000) (hby : ∀ x ∈ bs, 0 ≤ x ∧ x ≤ 255) :
    Calls Tryz.prog 43 #[.pointer (some ⟨p, 0, none⟩)] w (SealPost bs w) := by
  obtain ⟨A, c, hb, hI, _⟩ := h.ints
  have hp := h.lt
  have HI := Lib.hid hI
  have HY := Lib.hid hby
  have HH := Lib.hid hb
  have hc : w.cell? ⟨p, 0, none⟩ = some (.slice A bs.length c) := by rw [Lib.cell_of_heap hb]; rfl
  clear hI hb h hby
  go_enter Tryz.func43, Tryz.ntmps43
  go_wp2_with fail
  refine (bytes_clone A c bs _ HI.out (by omega)).mono ?_
  rintro e w1 ⟨v, rfl, hown, h1⟩
  have hsz1 := h1.size
  obtain ⟨A1, c1, hv, _, _⟩ := Ints.of_own hown
  subst hv
  have hW1 : Wr w.heap.size w1.heap.size bs (w1.alloc (.cells #[.slice A1 bs.length c1] 109)) := ⟨hsz1, _, heap_alloc_new w1 _, hown.alloc _⟩
  have hb2 := h1.alloc hsz1 (.cells #[.slice A1 bs.length c1] 109)
  have hc1 : (w1.alloc (.cells #[.slice A1 bs.length c1] 109)).cell? ⟨p, 0, none⟩ = some (.slice A bs.length c) := by rw [hb2.cell (p := ⟨p, 0, none⟩) hp]; exact hc
  have HI1 := Lib.hid (HI.out.below hb2 (Nat.le_refl _))
  clear hc h1 hown
  have ⟨hs0, hs1⟩ := Fp.sum_range bs
  have hu : IntKind.u64.wrap (Fp.sum bs) = Fp.sum bs := IntWalk.u64_in _ (by omega)
  go_wp2_with fail
  refine (file_sum A c bs _ HI1.out (by omega) HY.out).mono ?_
  rintro e w2 ⟨rfl, rfl⟩
  go_wp2_with fail
  refine (writer_put w.heap.size w1.heap.size bs (Fp.sum bs) 4 _ hW1 (by omega) (by omega) (by omega) (by omega) (by omega) (by simp; omega)).mono ?_
  rintro e w3 ⟨rfl, hW3, hb3, hk3⟩
  obtain ⟨A3, c3, hh3, hI3, hcc3⟩ := hW3.ints
  rw [List.length_append, Fp.big_length] at hcc3
  have hb4 := hb2.trans hb3
  have hc3 : w3.cell? ⟨w1.heap.size, 0, none⟩ = some (.slice A3 (bs.length + 4) c3) := by rw [Lib.cell_of_heap hh3, List.length_append, Fp.big_length]; rfl
  clear hW1 hW3 hb2 hb3 hk3 hc1 hh3
  go_wp2_with fail
  go_ret
  exact ⟨A3, c3, rfl, hI3, hcc3, hb4⟩
end Go.Proofs.YtkmhagjdafeebaaGreat
/- Bytes put together by shift and or. No program is named here. -/
namespace Go.Proofs.YtkmhagjdafeebaaGreat
open Go.RowKit
theorem or_i64_nat (a b : Nat) (ha : a < 2 ^ 62) (hb : b < 2 ^ 62) : bits .or .i64 (a : Int) (b : Int) = ((a ||| b : Nat) : Int) := by
  have hx : a ||| b < 2 ^ 62 := Nat.or_lt_two_pow ha hb
  have h1 : (BitVec.ofInt 64 (a : Int)).toNat = a := by
    rw [BitVec.ofInt_natCast, BitVec.toNat_ofNat]; exact Nat.mod_eq_of_lt (by omega)
  have h2 : (BitVec.ofInt 64 (b : Int)).toNat = b := by
    rw [BitVec.ofInt_natCast, BitVec.toNat_ofNat]; exact Nat.mod_eq_of_lt (by omega)
  show IntKind.i64.wrap ((BitVec.ofInt 64 (a : Int) ||| BitVec.ofInt 64 (b : Int)).toNat : Int) = _
  rw [BitVec.toNat_or, h1, h2, IntWalk.i64_in _ (by omega)]
theorem or_mul (a b i m : Nat) (hm : m = 2 ^ i) (h : a < m) : (b * m) ||| a = b * m + a := by
  subst hm
  rw [← Nat.shiftLeft_eq, Nat.shiftLeft_add_eq_or_of_lt h]
theorem or_byte (x y : Int) (x0 : 0 ≤ x) (x1 : x ≤ 255) (y0 : 0 ≤ y) (y1 : y ≤ 255) : bits .or .i64 (x * 256) y = x * 256 + y := by
  obtain ⟨n, rfl⟩ := Int.eq_ofNat_of_zero_le x0
  obtain ⟨m, rfl⟩ := Int.eq_ofNat_of_zero_le y0
  have e : ((n : Int) * 256) = ((n * 256 : Nat) : Int) := by omega
  rw [e, or_i64_nat _ _ (by omega) (by omega), or_mul m n 8 256 (by decide) (by omega)]
  omega
theorem or_u64_mul (a b : Nat) (ha : a * 256 + b < 18446744073709551616) (hb : b < 256) : bits .or .u64 ((a * 256 : Nat) : Int) (b : Int) = ((a * 256 + b : Nat) : Int) := by
  have h1 := bits_or_u64_nat (a * 256) b (Nat.lt_of_le_of_lt (Nat.le_add_right _ _) ha) (Nat.lt_of_le_of_lt (Nat.le_add_left _ _) ha)
  rw [h1, or_mul b a 8 256 (by decide) hb]
theorem or_u64_int (n c : Int) (n0 : 0 ≤ n) (n1 : n < 72057594037927936) (c0 : 0 ≤ c) (c1 : c ≤ 255) : bits .or .u64 (n * 256) c = n * 256 + c := by
  obtain ⟨a, rfl⟩ := Int.eq_ofNat_of_zero_le n0
  obtain ⟨b, rfl⟩ := Int.eq_ofNat_of_zero_le c0
  have e : ((a : Int) * 256) = ((a * 256 : Nat) : Int) := by omega
  rw [e, or_u64_mul a b (by omega) (by omega)]
  omega
end Go.Proofs.YtkmhagjdafeebaaGreat
/- Layer 12 (file): the reader: contracts. -/
namespace Go.Proofs.YtkmhagjdafeebaaGreat
open Go.RowKit

/-- A reader in a block: what is left, and whether it fell short. -/
def Rd (r : Nat) (bs : List Int) (sh : Bool) (w : World) : Prop :=
  ∃ A c, Blk w r 129 #[.slice A bs.length c, .bool sh] ∧ Ints .u8 w A bs ∧ bs.length ≤ c ∧ (∀ a, A = some a → a.block < r)

namespace Fp
def short (s : Nat) (bs : List Int) (sh : Bool) : Bool := sh || decide (bs.length < s)
def getV (s : Nat) (bs : List Int) (sh : Bool) : Int := if short s bs sh then 0 else num (bs.take s)
def getL (s : Nat) (bs : List Int) (sh : Bool) : List Int := if short s bs sh then bs else bs.drop s
theorem getV_short {s : Nat} {bs : List Int} {sh : Bool} (h : short s bs sh = true) : getV s bs sh = 0 := by simp [getV, h]
theorem getL_short {s : Nat} {bs : List Int} {sh : Bool} (h : short s bs sh = true) : getL s bs sh = bs := by simp [getL, h]
theorem getV_ok {s : Nat} {bs : List Int} {sh : Bool} (h : short s bs sh = false) : getV s bs sh = num (bs.take s) := by simp [getV, h]
theorem getL_ok {s : Nat} {bs : List Int} {sh : Bool} (h : short s bs sh = false) : getL s bs sh = bs.drop s := by simp [getL, h]
end Fp

def GetPost (r s : Nat) (bs : List Int) (sh : Bool) (w : World) (e : Ending) (w' : World) : Prop :=
  e = .returned (.int .u64 (Fp.getV s bs sh)) ∧ Rd r (Fp.getL s bs sh) (Fp.short s bs sh) w' ∧ w.grownBy w' (some r)

theorem grown_set (w : World) {r i : Nat} (v : Value) : w.grownBy (w.setCell ⟨r, i, none⟩ v) (some r) :=
  ⟨(Below.refl 0 w |>.setCell (p := ⟨r, i, none⟩) (Nat.zero_le _) v).os, (Below.refl 0 w |>.setCell (p := ⟨r, i, none⟩) (Nat.zero_le _) v).tape, (Below.refl 0 w |>.setCell (p := ⟨r, i, none⟩) (Nat.zero_le _) v).output, (Below.refl 0 w |>.setCell (p := ⟨r, i, none⟩) (Nat.zero_le _) v).size, fun k _ hk => Below.heap_setCell w _ _ k fun e => hk (by rw [e])⟩
theorem Ints.set_away {k : IntKind} {w : World} {A : Option Addr} {zs : List Int} {p : Addr} {v : Value} (h : Ints k w A zs) (hne : ∀ a, A = some a → a.block ≠ p.block) : Ints k (w.setCell p v) A zs := fun j hj => by
  obtain ⟨b, off, e, hb, hc⟩ := h j hj
  refine ⟨b, off, e, by simpa using hb, ?_⟩
  rw [← hc]
  exact World.cell?_setCell_far w p ⟨b, off + j, none⟩ v (fun h => hne _ e h.symm)
theorem Rd.fail {r c : Nat} {A : Option Addr} {bs : List Int} {sh : Bool} {w : World} (hb : Blk w r 129 #[.slice A bs.length c, .bool sh]) (hI : Ints .u8 w A bs) (hcap : bs.length ≤ c) (hne : ∀ a, A = some a → a.block < r) :
    Rd r bs true (w.setCell ⟨r, 1, none⟩ (.bool true)) :=
  ⟨A, c, hb.set_ 1 _, hI.set_away (fun a e => Nat.ne_of_lt (hne a e)), hcap, hne⟩

theorem Rd.step {r c b off k : Nat} {bs : List Int} {w : World} (hb : Blk w r 129 #[.slice (some ⟨b, off, none⟩) bs.length c, .bool false]) (hI : Ints .u8 w (some ⟨b, off, none⟩) bs) (hcap : bs.length ≤ c) (hne : ∀ a, some (⟨b, off, none⟩ : Addr) = some a → a.block < r) (hk : k ≤ bs.length) :
    Rd r (bs.drop k) false (w.setCell ⟨r, 0, none⟩ (.slice (some ⟨b, off + k, none⟩) (bs.length - k) (c - k))) := by
  have hbr : b < r := hne _ rfl
  refine ⟨some ⟨b, off + k, none⟩, c - k, ?_, ?_, ?_, ?_⟩
  · rw [List.length_drop]; exact hb.set_ 0 _
  · refine Ints.set_away (Ints.of_row fun j hj => ?_) (by intro a e; injection e with e; subst e; exact Nat.ne_of_lt hbr)
    rw [List.length_drop] at hj
    obtain ⟨b1, off1, e, _, hc⟩ := hI (k + j) (by omega)
    injection e with e
    injection e with e1 e2
    subst e1 e2
    rw [Nat.add_assoc, hc]
    simp [List.getD]
  · rw [List.length_drop]; omega
  · intro a e; injection e with e; subst e; exact hbr

theorem Ints.grown {k : IntKind} {w w' : World} {A : Option Addr} {zs : List Int} {r : Nat} (h : Ints k w A zs) (hg : w.grownBy w' (some r)) (hne : ∀ a, A = some a → a.block ≠ r) : Ints k w' A zs := fun j hj => by
  obtain ⟨b, off, e, hb, hc⟩ := h j hj
  exact ⟨b, off, e, Nat.lt_of_lt_of_le hb hg.size, hg.cell hc (by intro h; injection h with h; exact hne _ e h)⟩
theorem Ints.dropped {k : IntKind} {w : World} {b off : Nat} {zs : List Int} (h : Ints k w (some ⟨b, off, none⟩) zs) (n : Nat) : Ints k w (some ⟨b, off + n, none⟩) (zs.drop n) := Ints.of_row fun j hj => by
  rw [List.length_drop] at hj
  obtain ⟨b1, off1, e, _, hc⟩ := h (n + j) (by omega)
  injection e with e
  injection e with e1 e2
  subst e1 e2
  rw [Nat.add_assoc, hc]
  simp [List.getD]
theorem Ints.taken {k : IntKind} {w : World} {b off : Nat} {zs : List Int} (h : Ints k w (some ⟨b, off, none⟩) zs) (n : Nat) : Ints k w (some ⟨b, off, none⟩) (zs.take n) := Ints.of_row fun j hj => by
  rw [List.length_take] at hj
  obtain ⟨b1, off1, e, _, hc⟩ := h j (by omega)
  injection e with e
  injection e with e1 e2
  subst e1 e2
  rw [hc]
  simp [List.getD, show j < n by omega]
theorem Rd.drewN {r : Nat} {bs : List Int} {sh : Bool} {w : World} (h : Rd r bs sh w) (n : Nat) : Rd r bs sh (w.drewN n) := h
theorem Rd.drew {r : Nat} {bs : List Int} {sh : Bool} {w : World} (h : Rd r bs sh w) : Rd r bs sh w.drew := h
theorem Rd.lt {r : Nat} {bs : List Int} {sh : Bool} {w : World} (h : Rd r bs sh w) : r < w.heap.size := by
  obtain ⟨A, c, hb, _⟩ := h; exact hb.lt

theorem own_bytes {w : World} {B : Nat} {e : TypeId} {v : Value} {n : Nat} {zs : List Int} (h : w.ownsRow B e 1 v n (bytesV zs)) :
    ∃ A c, v = .slice A zs.length c ∧ Ints .u8 w A zs ∧ zs.length ≤ c ∧ (∀ a, A = some a → B ≤ a.block ∧ a.block < w.heap.size) := by
  obtain ⟨A, c, rfl, hn, hI⟩ := Ints.of_own h
  refine ⟨A, c, rfl, hI, ?_, ?_⟩
  · rcases h.2 with ⟨e, h0⟩ | ⟨g, cap, cur, e, _, _, hc, _⟩
    · injection e with _ _ e; omega
    · injection e with _ _ e; omega
  · intro a ha
    subst ha
    exact h.lt _ rfl

set_option maxHeartbeats 2000000 in
set_option maxRecDepth 100000 in
theorem reader_get (r : Nat) (bs : List Int) (sh : Bool) (s : Nat) (w : World) (h : Rd r bs sh w) (hs1 : 1 ≤ s) (hs8 : s ≤ 8) (hlen : bs.length ≤ 1000000000) (hby : ∀ x ∈ bs, 0 ≤ x ∧ x ≤ 255) :
    Calls Tryz.prog 31 #[.pointer (some ⟨r, 0, none⟩), .int .i64 s] w (GetPost r s bs sh w) := by
  obtain ⟨A, c, hb, hI, hcap, hne⟩ := h
  have HI := Lib.hid hI
  have HY := Lib.hid hby
  have HN := Lib.hid hne
  clear hI hby hne
  have c0 := hb.cell 0
  have c1 := hb.cell 1
  have f0 := hb.frozen 0
  have f1 := hb.frozen 1
  simp at c0 c1
  have hblk := Lib.hid hb
  clear hb
  cases sh with
  | true =>
    have HS := Lib.hid (show Fp.short s bs true = true from rfl)
    go_enter Tryz.func31, Tryz.ntmps31
    go_wp2_with fail
    go_ret
    exact ⟨by rw [Fp.getV_short HS.out]; rfl, by rw [Fp.getL_short HS.out, HS.out]; exact Rd.fail hblk.out HI.out hcap HN.out, grown_set w _⟩
  | false =>
    by_cases hlt : bs.length < s
    · have HS := Lib.hid (show Fp.short s bs false = true by simp [Fp.short, hlt])
      go_enter Tryz.func31, Tryz.ntmps31
      go_wp2_with fail
      go_ret
      exact ⟨by rw [Fp.getV_short HS.out]; rfl, by rw [Fp.getL_short HS.out, HS.out]; exact Rd.fail hblk.out HI.out hcap HN.out, grown_set w _⟩
    · have HS := Lib.hid (show Fp.short s bs false = false by simp [Fp.short]; omega)
      have HV := Lib.hid (Fp.getV_ok HS.out)
      have HL := Lib.hid (Fp.getL_ok HS.out)
      have hsc : (s : Int) ≤ c := by omega
      obtain ⟨b, off, rfl, hbl, _⟩ := HI.out 0 (by omega)
      go_enter Tryz.func31, Tryz.ntmps31
      go_wp2_with fail
      go_loopw [5, 39] (fun n i wr => wr = w ∧ ∃ k : Nat, k ≤ s ∧ i = .int .i64 k ∧ n = .int .u64 (Fp.num (bs.take k))) (fun _ i _ => s - (intOf i).toNat)
      case atStart => exact ⟨rfl, 0, Nat.zero_le _, rfl, rfl⟩
      case round =>
        obtain ⟨rfl, k, hk, rfl, rfl⟩ := hrel
        by_cases hks : k < s
        · have hkl : k < bs.length := by omega
          obtain ⟨b1, off1, hA1, _, hc⟩ := HI.out k hkl
          injection hA1 with hA1
          injection hA1 with hA2 hA3
          subst hA2 hA3
          have HT := Lib.hid (Fp.num_step bs k hkl)
          have ⟨hx0, hx1⟩ := HY.out bs[k] (List.getElem_mem hkl)
          have ⟨hn0, hn1⟩ := Fp.num_lt7 (bs.take k) (fun x hx => HY.out x (List.mem_of_mem_take hx)) (by rw [List.length_take]; omega)
          generalize Fp.num (bs.take k) = n at *
          have v1 : IntKind.u64.wrap (n * 256) = n * 256 := IntWalk.u64_in _ (by omega)
          have v2 : IntKind.u64.wrap bs[k] = bs[k] := IntWalk.u64_in _ (by omega)
          have v3 := or_u64_int n bs[k] hn0 hn1 hx0 hx1
          go_wp2_with fail
          go_roundw
          case rel => exact ⟨trivial, k + 1, by omega, by go_num, by rw [HT.out]⟩
          case measure => simp [intOf]; omega
        · obtain rfl : k = s := by omega
          by_cases hck : c = k
          · have hd := Lib.hid (show bs.drop k = [] from List.drop_eq_nil_of_le (by omega))
            have hlk : bs.length - k = 0 := by omega
            go_wp2_with fail
            go_ret
            refine ⟨by rw [HV.out]; rfl, ?_, grown_set wr _⟩
            rw [HL.out, HS.out, hd.out]
            exact ⟨_, 0, hblk.out.set_ 0 _, Ints.nil, Nat.le_refl _, HN.out⟩
          · go_wp2_with fail
            go_ret
            refine ⟨by rw [HV.out]; rfl, ?_, grown_set wr _⟩
            rw [HL.out, HS.out]
            exact Rd.step hblk.out HI.out hcap HN.out (by omega)

def Fp.endE (bs : List Int) (sh : Bool) : Int := if sh then 16 else if bs.length = 0 then 0 else 10
set_option maxHeartbeats 1000000 in
theorem reader_end (r : Nat) (bs : List Int) (sh : Bool) (w : World) (h : Rd r bs sh w) (hlen : bs.length ≤ 1000000000) :
    Calls Tryz.prog 34 #[.pointer (some ⟨r, 0, none⟩)] w fun e w' => e = .returned (.int .i64 (Fp.endE bs sh)) ∧ w = w' := by
  obtain ⟨A, c, hb, _, _, _⟩ := h
  have c0 := hb.cell 0
  have c1 := hb.cell 1
  simp at c0 c1
  clear hb
  cases sh with
  | true =>
    go_enter Tryz.func34, Tryz.ntmps34
    go_wp2_with fail
    go_ret
    exact ⟨rfl, rfl⟩
  | false =>
    by_cases hlt : bs.length = 0
    · have HS := Lib.hid (show Fp.endE bs false = 0 by simp [Fp.endE, hlt])
      go_enter Tryz.func34, Tryz.ntmps34
      go_wp2_with fail
      go_ret
      exact ⟨by rw [HS.out]; rfl, rfl⟩
    · have HS := Lib.hid (show Fp.endE bs false = 10 by simp [Fp.endE]; intro e; simp [e] at hlt)
      have hpos : 0 < bs.length := by omega
      go_enter Tryz.func34, Tryz.ntmps34
      go_wp2_with fail
      go_ret
      exact ⟨by rw [HS.out]; rfl, rfl⟩

namespace Fp
def body (bs : List Int) : List Int := bs.take (bs.length - 4)
def mark (bs : List Int) : List Int := bs.drop (bs.length - 4)
def openE (bs : List Int) : Int := if bs.length < 8 then 16 else if num (mark bs) = sum (body bs) then 0 else 30
end Fp
def OpenPost (bs : List Int) (w : World) (e : Ending) (w' : World) : Prop :=
  (Fp.openE bs ≠ 0 ∧ e = .returned (.tuple #[.pointer none, .int .i64 (Fp.openE bs)]) ∨ Fp.openE bs = 0 ∧ ∃ r, e = .returned (.tuple #[.pointer (some ⟨r, 0, none⟩), .int .i64 0]) ∧ w.heap.size ≤ r ∧ Rd r (Fp.body bs) false w') ∧ Below w.heap.size w w'

set_option maxHeartbeats 2000000 in
theorem new_reader (A : Option Addr) (c : Nat) (bs : List Int) (w : World) (hI : Ints .u8 w A bs) (hcap : bs.length ≤ c) (hlen : bs.length ≤ 1000000000) (hby : ∀ x ∈ bs, 0 ≤ x ∧ x ≤ 255) :
    Calls Tryz.prog 30 #[.slice A bs.length c] w (OpenPost bs w) := by
  have HI := Lib.hid hI
  have HY := Lib.hid hby
  clear hI hby
  by_cases h8 : bs.length < 8
  · have HE := Lib.hid (show Fp.openE bs = 16 by simp [Fp.openE, h8])
    go_enter Tryz.func30, Tryz.ntmps30
    go_wp2_with fail
    go_ret2
    exact ⟨.inl ⟨by rw [HE.out]; decide, by rw [HE.out]; rfl⟩, Below.refl _ _⟩
  · obtain ⟨b, off, rfl, hbl, _⟩ := HI.out 0 (by omega)
    obtain ⟨n, hn⟩ : ∃ n, bs.length = n + 4 := ⟨bs.length - 4, by omega⟩
    have hck : c ≠ n := by omega
    have v1 : (n + 4 : Int) - 4 = n := by omega
    have HIs := HI.out.dropped n
    have hl4 : (bs.drop n).length = 4 := by rw [List.length_drop]; omega
    have hln : (bs.take n).length = n := by rw [List.length_take]; omega
    have hbne : b ≠ w.heap.size := by omega
    have hR : Rd w.heap.size (bs.drop n) false (w.alloc (.cells #[.slice (some ⟨b, off + n, none⟩) 4 (c - n), .bool false] 129)) := ⟨some ⟨b, off + n, none⟩, c - n, by rw [hl4]; exact Blk.new w _ _, HIs.alloc _, by omega, by intro a e; injection e with e; subst e; exact hbl⟩
    have hIb : Ints .u8 (w.alloc (.cells #[.slice (some ⟨b, off + n, none⟩) 4 (c - n), .bool false] 129)) (some ⟨b, off, none⟩) (bs.take n) := (HI.out.taken n).alloc _
    have hsum : ∀ W, Ints .u8 W (some ⟨b, off, none⟩) (bs.take n) → Calls Tryz.prog 60 #[.slice (some ⟨b, off, none⟩) n c] W fun e w' => e = .returned (.int .u32 (Fp.sum (bs.take n))) ∧ W = w' := fun W hI => by
      have := file_sum (some ⟨b, off, none⟩) c (bs.take n) W hI (by omega) (fun x hx => HY.out x (List.mem_of_mem_take hx))
      rwa [hln] at this
    have hget : ∀ W, Rd w.heap.size (bs.drop n) false W → Calls Tryz.prog 31 #[.pointer (some ⟨w.heap.size, 0, none⟩), .int .i64 4] W (GetPost w.heap.size 4 (bs.drop n) false W) := fun W hR =>
      reader_get w.heap.size (bs.drop n) false 4 W hR (by omega) (by omega) (by omega) (fun x hx => HY.out x (List.mem_of_mem_drop hx))
    have HV := Lib.hid (show Fp.getV 4 (bs.drop n) false = Fp.num (bs.drop n) by rw [Fp.getV_ok (by simp [Fp.short, hl4]), List.take_of_length_le (by omega)])
    have hbn := Lib.hid (show ∀ a, some (⟨b, off, none⟩ : Addr) = some a → a.block ≠ w.heap.size by intro a e; injection e with e; subst e; exact hbne)
    have hnc : (n : Int) ≤ c := by omega
    have hu := Lib.hid (show IntKind.u64.wrap (Fp.sum (bs.take n)) = Fp.sum (bs.take n) from IntWalk.u64_in _ (by have := Fp.sum_range (bs.take n); omega))
    have hclone : ∀ W, Ints .u8 W (some ⟨b, off, none⟩) (bs.take n) → Calls Tryz.prog 61 #[.slice (some ⟨b, off, none⟩) n c] W (ClonePost W.heap.size (bs.take n) W) := fun W hI => by
      have := bytes_clone (some ⟨b, off, none⟩) c (bs.take n) W hI (by omega)
      rwa [hln] at this
    clear HIs
    go_enter Tryz.func30, Tryz.ntmps30
    rw [hn]
    go_wp2_with fail
    go_region_with (first
      | (go_at_call 31; refine (hget _ hR.drew).mono ?_; rintro e w1 ⟨rfl, hR1, hg1⟩; have hI1 := hIb.drew.grown hg1 hbn.out)
      | (go_at_call 60; refine (hsum _ hI1).mono ?_; rintro e w2 ⟨rfl, rfl⟩))
    rw [HV.out, hu.out]
    have hsz1 : w.heap.size + 1 ≤ w1.heap.size := by simpa using hg1.size
    have hb1 : Below w.heap.size w w1 := (((Below.refl _ w).alloc (Nat.le_refl _) _).drew).grown hg1 (by simp) (by intro k hk; injection hk with hk; omega)
    by_cases heq : Fp.num (bs.drop n) = Fp.sum (bs.take n)
    · have HE := Lib.hid (show Fp.openE bs = 0 by simp [Fp.openE, Fp.mark, Fp.body, hn, heq]; omega)
      have HBd := Lib.hid (show Fp.body bs = bs.take n by simp [Fp.body, hn])
      have hne : (Fp.num (bs.drop n) != Fp.sum (bs.take n)) = false := by simp [heq]
      clear heq hR hIb hsum hget HV hg1 hR1
      go_wp2_with fail
      refine (hclone _ hI1).mono ?_
      rintro e w3 ⟨v, rfl, hown, hb3⟩
      obtain ⟨A3, c3, rfl, hI3, hcc, hA3⟩ := own_bytes hown
      rw [hln]
      have hR3 : Rd w3.heap.size (bs.take n) false (w3.alloc (.cells #[.slice A3 n c3, .bool false] 129)) := ⟨A3, c3, by rw [hln]; exact Blk.new w3 _ _, hI3.alloc _, hcc, fun a e => (hA3 a e).2⟩
      have hb4 := hb1.trans (hb3.mono (by omega))
      have hsz4 := hb4.size
      have hb5 := hb4.alloc hsz4 (.cells #[.slice A3 n c3, .bool false] 129)
      clear hown hI3 hcc hb3 hb1 hI1
      go_wp2_with fail
      go_ret2
      exact ⟨.inr ⟨HE.out, w3.heap.size, rfl, hsz4, by rw [HBd.out]; exact hR3⟩, hb5⟩
    · have HE := Lib.hid (show Fp.openE bs = 30 by simp [Fp.openE, Fp.mark, Fp.body, hn, heq]; omega)
      have hne : (Fp.num (bs.drop n) != Fp.sum (bs.take n)) = true := by simp [heq]
      clear heq hR hIb hsum hget HV hg1 hR1
      go_wp2_with fail
      go_ret2
      exact ⟨.inl ⟨by rw [HE.out]; decide, by rw [HE.out]; rfl⟩, hb1⟩

/-- A reader: what is left (bytes), or short. -/
def RdO (r : Nat) : Option (List Int) → World → Prop
  | some bs, w => Rd r bs false w ∧ (∀ x ∈ bs, 0 ≤ x ∧ x ≤ 255) ∧ bs.length ≤ 1000000000
  | none, w => ∃ bs, Rd r bs true w ∧ (∀ x ∈ bs, 0 ≤ x ∧ x ≤ 255) ∧ bs.length ≤ 1000000000
def GetO (r s : Nat) (st : Option (List Int)) (w : World) (e : Ending) (w' : World) : Prop :=
  e = .returned (.int .u64 (Fp.get s st).1) ∧ RdO r (Fp.get s st).2 w' ∧ w.grownBy w' (some r)
theorem Rd.grownOther {r : Nat} {bs : List Int} {sh : Bool} {w w' : World} {row : Option Nat} (h : Rd r bs sh w) (hg : w.grownBy w' row) (hr : ∀ k, row = some k → r < k) : Rd r bs sh w' := by
  obtain ⟨A, c, hb, hI, hc, hne⟩ := h
  refine ⟨A, c, hb.grown hg (fun e => by have := hr r e.symm; omega), fun j hj => ?_, hc, hne⟩
  obtain ⟨b, off, e, hl, hcell⟩ := hI j hj
  exact ⟨b, off, e, Nat.lt_of_lt_of_le hl hg.size, hg.cell hcell (fun h => by have h1 := hr b h.symm; have h2 : b < r := hne _ e; omega)⟩
theorem RdO.lt {r : Nat} {st : Option (List Int)} {w : World} (h : RdO r st w) : r < w.heap.size := by
  cases st with
  | none => obtain ⟨_, h, _⟩ := h; exact h.lt
  | some bs => exact h.1.lt
theorem RdO.ok {r : Nat} {st : Option (List Int)} {w : World} (h : RdO r st w) : Fp.okB st := by
  cases st with
  | none => trivial
  | some bs => exact h.2.1
theorem RdO.grown {r : Nat} {st : Option (List Int)} {w w' : World} {row : Option Nat} (h : RdO r st w) (hg : w.grownBy w' row) (hr : ∀ k, row = some k → r < k) : RdO r st w' := by
  cases st with
  | none => obtain ⟨bs, h, h2⟩ := h; exact ⟨bs, h.grownOther hg hr, h2⟩
  | some bs => exact ⟨h.1.grownOther hg hr, h.2⟩
theorem RdO.alloc {r : Nat} {st : Option (List Int)} {w : World} (h : RdO r st w) (o : Obj) : RdO r st (w.alloc o) := h.grown (World.grownBy_alloc w o none) (by simp)
theorem RdO.drew {r : Nat} {st : Option (List Int)} {w : World} (h : RdO r st w) : RdO r st w.drew := by
  cases st <;> exact h
theorem RdO.drewN {r : Nat} {st : Option (List Int)} {w : World} (h : RdO r st w) (n : Nat) : RdO r st (w.drewN n) := by
  cases st <;> exact h
theorem RdO.cell1 {r : Nat} {st : Option (List Int)} {w : World} (h : RdO r st w) : w.cell? ⟨r, 1, none⟩ = some (.bool st.isNone) := by
  cases st with
  | none => obtain ⟨_, ⟨A, c, hb, _⟩, _⟩ := h; rw [hb.cell 1]; rfl
  | some bs => obtain ⟨⟨A, c, hb, _⟩, _⟩ := h; rw [hb.cell 1]; rfl

theorem reader_getO (r s : Nat) (st : Option (List Int)) (w : World) (h : RdO r st w) (hs1 : 1 ≤ s) (hs8 : s ≤ 8) :
    Calls Tryz.prog 31 #[.pointer (some ⟨r, 0, none⟩), .int .i64 s] w (GetO r s st w) := by
  cases st with
  | none =>
    obtain ⟨bs, hR, hby, hl⟩ := h
    refine (reader_get r bs true s w hR hs1 hs8 hl hby).mono ?_
    rintro e w' ⟨rfl, hR', hg⟩
    have hs : Fp.short s bs true = true := rfl
    rw [Fp.getL_short hs, hs] at hR'
    exact ⟨by rw [Fp.getV_short hs]; rfl, ⟨bs, hR', hby, hl⟩, hg⟩
  | some bs =>
    obtain ⟨hR, hby, hl⟩ := h
    refine (reader_get r bs false s w hR hs1 hs8 hl hby).mono ?_
    rintro e w' ⟨rfl, hR', hg⟩
    by_cases hlt : bs.length < s
    · have hs : Fp.short s bs false = true := by simp [Fp.short, hlt]
      rw [Fp.getL_short hs, hs] at hR'
      refine ⟨by rw [Fp.getV_short hs, Fp.get_short hlt], ?_, hg⟩
      rw [Fp.get_short hlt]
      exact ⟨bs, hR', hby, hl⟩
    · have hs : Fp.short s bs false = false := by simp [Fp.short]; omega
      rw [Fp.getL_ok hs, hs] at hR'
      refine ⟨by rw [Fp.getV_ok hs, Fp.get_ok hlt], ?_, hg⟩
      rw [Fp.get_ok hlt]
      exact ⟨hR', fun x hx => hby x (List.mem_of_mem_drop hx), by rw [List.length_drop]; omega⟩

def Fp.endO : Option (List Int) → Int
  | none => 16
  | some bs => if bs.length = 0 then 0 else 10
theorem reader_endO (r : Nat) (st : Option (List Int)) (w : World) (h : RdO r st w) :
    Calls Tryz.prog 34 #[.pointer (some ⟨r, 0, none⟩)] w fun e w' => e = .returned (.int .i64 (Fp.endO st)) ∧ w = w' := by
  cases st with
  | none => obtain ⟨bs, hR, _, hl⟩ := h; exact reader_end r bs true w hR hl
  | some bs => obtain ⟨hR, _, hl⟩ := h; exact reader_end r bs false w hR hl

def ShapeO (r : Nat) (st : Option (List Int)) (w : World) (e : Ending) (w' : World) : Prop :=
  ∃ v, e = .returned v ∧ w'.ownsRow w.heap.size 3 1 v (Fp.shapeR st).1.length ((Fp.shapeR st).1.map (Value.int .i64)) ∧ RdO r (Fp.shapeR st).2 w' ∧ w.grownBy w' (some r)
set_option maxHeartbeats 2000000 in
theorem reader_shape (r : Nat) (st : Option (List Int)) (w : World) (h : RdO r st w) :
    Calls Tryz.prog 63 #[.pointer (some ⟨r, 0, none⟩)] w (ShapeO r st w) := by
  obtain ⟨i0, hi, hz0, hz1, hz2⟩ := info_parts int_info
  have hrlt := h.lt
  go_enter Tryz.func63, Tryz.ntmps63
  go_wp2_with fail
  refine (reader_getO r 1 st _ h (by omega) (by omega)).mono ?_
  rintro e w1 ⟨rfl, hR1, hg1⟩
  have ⟨hc0, hc1, hc2⟩ := Fp.get_one h.ok
  have HF := Lib.hid (Fp.shapeR_F st)
  have HC := Lib.hid hc2
  have HR := Lib.hid hR1
  have HS := Lib.hid (rfl : (Fp.get 1 st).2 = (Fp.get 1 st).2)
  clear hc2 h hR1
  generalize (Fp.get 1 st).2 = st1 at HF HC HR HS
  generalize (Fp.get 1 st).1 = n at HF HC hc0 hc1
  obtain ⟨c, rfl⟩ := Int.eq_ofNat_of_zero_le hc0
  rw [Int.toNat_natCast] at HF
  have HC2 := Lib.hid (show st1 = none → c = 0 by intro h; have := HC.out h; omega)
  clear HC HS
  go_wp2_with fail
  go_loopw [3, 4] (fun v i wr => ∃ (k : Nat) (acc : List Int) (s2 : Option (List Int)), k ≤ 255 ∧ acc.length + k ≤ 255 ∧ i = .int .u64 k ∧ wr.ownsRow w.heap.size 3 1 v acc.length (acc.map (Value.int .i64)) ∧ RdO r s2 wr ∧ w.grownBy wr (some r) ∧ Fp.shapeR st = Fp.shapeF k acc s2 ∧ (s2 = none → k = 0 ∧ acc = [])) (fun _ i _ => (intOf i).toNat)
  case atStart => exact ⟨c, [], st1, by omega, by simp; omega, rfl, World.ownsRow_nil _ _ _ _, HR.out, hg1, HF.out, fun h => ⟨HC2.out h, rfl⟩⟩
  case round =>
    clear hg1 HR HC2 HF
    obtain ⟨k, acc, s2, hk, hka, rfl, hown, hR, hg, hF, hN⟩ := hrel
    have hsz := hg.size
    have HF := Lib.hid hF
    have HN := Lib.hid hN
    have HR := Lib.hid hR
    have hcell := hR.cell1
    clear hF hN hR
    cases k with
    | zero =>
      obtain ⟨A, cc, rfl, _, _⟩ := Ints.of_own hown
      go_wp2_with fail
      go_ret
      refine ⟨_, rfl, ?_, ?_, hg⟩
      all_goals
        rw [HF.out]
        cases s2 with
        | none => obtain ⟨_, rfl⟩ := HN.out rfl; first | exact hown | exact HR.out
        | some bs => rw [Fp.shapeF_zero]; first | exact hown | exact HR.out
    | succ k =>
      cases s2 with
      | none => have := HN.out rfl; omega
      | some bs =>
        have v1 : ((k + 1 : Nat) : Int) - 1 = k := by omega
        go_wp2_with fail
        refine (reader_getO r 2 (some bs) _ HR.out (by omega) (by omega)).mono ?_
        rintro e w2 ⟨rfl, hR2, hg2⟩
        have hg3 := hg.trans hg2
        by_cases hlt : bs.length < 2
        · have HG := Lib.hid (Fp.get_short hlt)
          rw [HG.out] at hR2 ⊢
          have hc1 := hR2.cell1
          have HR2 := Lib.hid hR2
          clear hR2 hg hg2
          go_wp2_with fail
          go_ret
          exact ⟨_, rfl, by rw [HF.out, Fp.shapeF_short hlt]; exact World.ownsRow_nil _ _ _ _, by rw [HF.out, Fp.shapeF_short hlt]; exact HR2.out, hg3⟩
        · have HG := Lib.hid (Fp.get_ok hlt)
          have ⟨hx0, hx1⟩ := Fp.two_bytes HR.out.2.1 hlt
          have HO := Lib.hid (Fp.shapeF_ok (c := k) (acc := acc) hlt)
          rw [HG.out] at hR2 ⊢
          have hc1 := hR2.cell1
          have HR2 := Lib.hid hR2
          have hown2 : w2.ownsRow w.heap.size 3 1 _ acc.length (acc.map (Value.int .i64)) := hown.kept hg2 (.inr (fun e => by have := (hown.lt r e).1; omega))
          have hsz2 := hg3.size
          clear hR2 hg hg2 hown
          generalize Fp.num (bs.take 2) = x at hx0 hx1 HO HG
          go_wp2_with (at_builtin; refine wpList_append_own _ rfl _ _ 23 rfl w.heap.size 3 i0 (.int .i64 0) 1 8 Tryz.underlying23 hi hz0 hz1 hz2 rfl (by decide) _ _ _ rfl (hown2.alloc _) ⟨w2.heap.size, 0, none⟩ 1 1 [.int .i64 x] rfl rfl ?c1 ?c2 ?c3 ?c4 ?c5 ?_)
          case c1 => exact one_new _ _ _
          case c2 => intro u hu; simp at hu; subst hu; rfl
          case c3 => unfold maxLen; omega
          case c4 => omega
          case c5 => simp; omega
          intro v' w3 hown3 hgrow _
          have hrow : ∀ k, u3.ownBlock = some k → r < k := fun k hk => by have := (hown2.lt k hk).1; omega
          have hR3 := (HR2.out.alloc (.cells #[.int .i64 x] 3)).grown hgrow hrow
          have hg4 : w.grownBy w3 (some r) := (hg3.trans (World.grownBy_alloc w2 _ (some r))).andThen hgrow (fun j hj => .inl (hown2.lt j hj).1)
          have hown4 : w3.ownsRow w.heap.size 3 1 v' (acc ++ [x]).length ((acc ++ [x]).map (Value.int .i64)) := by simpa using hown3
          clear hown3 hgrow hrow hown2 hg3 HR2 hc1 hcell
          go_wp2_with fail
          go_roundw
          case rel => exact ⟨k, acc ++ [x], some (bs.drop 2), by omega, by simp; omega, by go_num, hown4, hR3, hg4, by rw [HF.out, HO.out], by simp⟩
          case measure => simp [intOf]
end Go.Proofs.YtkmhagjdafeebaaGreat
/- The plain law of layer 2: sums and products of numbers, or an error's number. No program is named here. -/
namespace Go.Proofs.YtkmhagjdafeebaaGreat
namespace Safe

def top : Int := 1099511627776
theorem top_eq : top = 1099511627776 := rfl
def ok (n : Int) : Bool := decide (0 ≤ n ∧ n ≤ 1099511627776)
theorem ok_iff (n : Int) : ok n = true ↔ 0 ≤ n ∧ n ≤ 1099511627776 := by simp [ok]

def sum : List Int → Int
  | [] => 0
  | x :: r => x + sum r
def prod : List Int → Int
  | [] => 1
  | x :: r => x * prod r

theorem sum_append (a b : List Int) : sum (a ++ b) = sum a + sum b := by
  induction a with
  | nil => simp [sum]
  | cons x r ih => simp [sum, ih]; omega
theorem prod_append (a b : List Int) : prod (a ++ b) = prod a * prod b := by
  induction a with
  | nil => simp [prod]
  | cons x r ih => simp [prod, ih, Int.mul_assoc]
theorem sum_reverse (a : List Int) : sum a.reverse = sum a := by
  induction a with
  | nil => rfl
  | cons x r ih => simp [sum_append, sum, ih]; omega
theorem prod_reverse (a : List Int) : prod a.reverse = prod a := by
  induction a with
  | nil => rfl
  | cons x r ih => simp [prod_append, prod, ih, Int.mul_comm]
theorem sum_take_succ (zs : List Int) (k : Nat) (h : k < zs.length) : sum (zs.take (k + 1)) = sum (zs.take k) + zs[k] := by
  rw [List.take_succ_eq_append_getElem h, sum_append]; simp [sum]
theorem prod_take_succ (zs : List Int) (k : Nat) (h : k < zs.length) : prod (zs.take (k + 1)) = prod (zs.take k) * zs[k] := by
  rw [List.take_succ_eq_append_getElem h, prod_append]; simp [prod]
theorem sum_nonneg (zs : List Int) (h : ∀ x ∈ zs, 0 ≤ x) : 0 ≤ sum zs := by
  induction zs with
  | nil => simp [sum]
  | cons x r ih =>
    have h1 := h x (by simp)
    have h2 := ih (fun y hy => h y (by simp [hy]))
    simp [sum]; omega
theorem prod_pos (zs : List Int) (h : ∀ x ∈ zs, 1 ≤ x) : 1 ≤ prod zs := by
  induction zs with
  | nil => simp [prod]
  | cons x r ih =>
    have h1 := h x (by simp)
    have h2 := ih (fun y hy => h y (by simp [hy]))
    have h3 : 0 < x * prod r := Int.mul_pos (by omega) (by omega)
    simp [prod]; omega
theorem sum_take_le (zs : List Int) (k : Nat) (h : ∀ x ∈ zs, 0 ≤ x) : sum (zs.take k) ≤ sum zs := by
  have e : sum zs = sum (zs.take k) + sum (zs.drop k) := by rw [← sum_append, List.take_append_drop]
  have := sum_nonneg (zs.drop k) (fun x hx => h x (List.mem_of_mem_drop hx))
  omega
theorem prod_take_le (zs : List Int) (k : Nat) (h : ∀ x ∈ zs, 1 ≤ x) : prod (zs.take k) ≤ prod zs := by
  have e : prod zs = prod (zs.take k) * prod (zs.drop k) := by rw [← prod_append, List.take_append_drop]
  have h1 := prod_pos (zs.drop k) (fun x hx => h x (List.mem_of_mem_drop hx))
  have h2 := prod_pos (zs.take k) (fun x hx => h x (List.mem_of_mem_take hx))
  rw [e]
  have : prod (zs.take k) * 1 ≤ prod (zs.take k) * prod (zs.drop k) := Int.mul_le_mul_of_nonneg_left h1 (by omega)
  omega

/-- All together, or an error's number. -/
def add (zs : List Int) : Int × Int := if zs.all ok then (if sum zs ≤ top then (sum zs, 0) else (0, 17)) else (0, 11)
/-- The product, or an error's number. -/
def mul (zs : List Int) : Int × Int := if zs.all ok then (if zs.all (· != 0) then (if prod zs ≤ top then (prod zs, 0) else (0, 17)) else (0, 0)) else (0, 11)

theorem add_reverse (zs : List Int) : add zs.reverse = add zs := by simp [add, sum_reverse]
theorem mul_reverse (zs : List Int) : mul zs.reverse = mul zs := by simp [mul, prod_reverse]

theorem all_getD {p : Int → Bool} {zs : List Int} (h : ∀ j, j < zs.length → p (zs.getD j 0) = true) : zs.all p = true := by
  rw [List.all_eq_true]
  intro x hx
  obtain ⟨i, hi, rfl⟩ := List.getElem_of_mem hx
  have := h i hi
  simpa [hi] using this
theorem all_of {p : Int → Bool} {zs : List Int} (h : zs.all p = true) : ∀ j, j < zs.length → p (zs.getD j 0) = true := by
  intro j hj
  rw [List.all_eq_true] at h
  have := h zs[j] (List.getElem_mem hj)
  simpa [hj] using this
theorem not_all {p : Int → Bool} {zs : List Int} {j : Nat} (hj : j < zs.length) (h : p (zs.getD j 0) = false) : zs.all p = false := by
  rw [Bool.eq_false_iff]
  intro h2
  rw [all_of h2 j hj] at h
  cases h
theorem nonneg_of {zs : List Int} (h : zs.all ok = true) : ∀ x ∈ zs, 0 ≤ x := fun x hx => by
  rw [List.all_eq_true] at h
  exact ((ok_iff x).1 (h x hx)).1
theorem pos_of {zs : List Int} (h : zs.all ok = true) (h0 : zs.all (· != 0) = true) : ∀ x ∈ zs, 1 ≤ x := fun x hx => by
  rw [List.all_eq_true] at h h0
  have h1 := ((ok_iff x).1 (h x hx)).1
  have h2 := h0 x hx
  simp at h2
  omega

theorem add_range {zs : List Int} (h : zs.all ok = false) : add zs = (0, 11) := by simp [add, h]
theorem add_big {zs : List Int} (h : zs.all ok = true) (k : Nat) (hs : top < sum (zs.take k)) : add zs = (0, 17) := by
  have := sum_take_le zs k (nonneg_of h)
  rw [add, if_pos h, if_neg (by omega)]
theorem add_sum {zs : List Int} (h : zs.all ok = true) (hs : sum zs ≤ top) : add zs = (sum zs, 0) := by
  rw [add, if_pos h, if_pos hs]
theorem mul_range {zs : List Int} (h : zs.all ok = false) : mul zs = (0, 11) := by simp [mul, h]
theorem mul_zero {zs : List Int} (h : zs.all ok = true) (h0 : zs.all (· != 0) = false) : mul zs = (0, 0) := by simp [mul, h, h0]
theorem mul_big {zs : List Int} (h : zs.all ok = true) (h0 : zs.all (· != 0) = true) (k : Nat) (hs : top < prod (zs.take k)) : mul zs = (0, 17) := by
  have := prod_take_le zs k (pos_of h h0)
  rw [mul, if_pos h, if_pos h0, if_neg (by omega)]
theorem mul_prod {zs : List Int} (h : zs.all ok = true) (h0 : zs.all (· != 0) = true) (hs : prod zs ≤ top) : mul zs = (prod zs, 0) := by
  rw [mul, if_pos h, if_pos h0, if_pos hs]

theorem add_bd (zs : List Int) : 0 ≤ (add zs).1 ∧ (add zs).1 ≤ 1099511627776 ∧ ((add zs).2 = 0 ∨ (add zs).2 = 11 ∨ (add zs).2 = 17) := by
  unfold add
  split
  · rename_i h
    have := sum_nonneg zs (nonneg_of h)
    split
    · rename_i h2
      rw [top_eq] at h2
      exact ⟨by simpa using this, by simpa using h2, by simp⟩
    · simp
  · simp
theorem mul_bd (zs : List Int) : 0 ≤ (mul zs).1 ∧ (mul zs).1 ≤ 1099511627776 ∧ ((mul zs).2 = 0 ∨ (mul zs).2 = 11 ∨ (mul zs).2 = 17) := by
  unfold mul
  split
  · rename_i h
    split
    · rename_i h0
      have := prod_pos zs (pos_of h h0)
      split
      · rename_i h2
        rw [top_eq] at h2
        exact ⟨by simp; omega, by simpa using h2, by simp⟩
      · simp
    · simp
  · simp
end Safe
end Go.Proofs.YtkmhagjdafeebaaGreat
namespace Go.Proofs.YtkmhagjdafeebaaGreat
namespace Safe
/-- The greatest one of all, and 0. -/
def maxTo (m : Int) : List Int → Int
  | [] => m
  | x :: r => maxTo (if m < x then x else m) r
def max (zs : List Int) : Int := maxTo 0 zs
theorem maxTo_append (a b : List Int) : ∀ m, maxTo m (a ++ b) = maxTo (maxTo m a) b := by
  induction a with
  | nil => intro m; rfl
  | cons x r ih => intro m; simp [maxTo, ih]
theorem max_take_succ (zs : List Int) (k : Nat) (h : k < zs.length) : max (zs.take (k + 1)) = if max (zs.take k) < zs[k] then zs[k] else max (zs.take k) := by
  rw [List.take_succ_eq_append_getElem h, max, maxTo_append]; rfl

/-- The root. -/
def nroot : Nat → Nat
  | 0 => 0
  | n + 1 => if (nroot n + 1) * (nroot n + 1) ≤ n + 1 then nroot n + 1 else nroot n
theorem nroot_spec (n : Nat) : nroot n * nroot n ≤ n ∧ n < (nroot n + 1) * (nroot n + 1) := by
  induction n with
  | zero => simp [nroot]
  | succ n ih =>
    unfold nroot
    split
    · rename_i h
      refine ⟨h, ?_⟩
      have : (nroot n + 1 + 1) * (nroot n + 1 + 1) = (nroot n + 1) * (nroot n + 1) + 2 * (nroot n + 1) + 1 := by grind
      omega
    · rename_i h
      exact ⟨by omega, by omega⟩
theorem nroot_uniq {n k : Nat} (h1 : k * k ≤ n) (h2 : n < (k + 1) * (k + 1)) : k = nroot n := by
  have ⟨h3, h4⟩ := nroot_spec n
  rcases Nat.lt_trichotomy k (nroot n) with h | h | h
  · have := Nat.mul_le_mul (show k + 1 ≤ nroot n from h) (show k + 1 ≤ nroot n from h)
    omega
  · exact h
  · have := Nat.mul_le_mul (show nroot n + 1 ≤ k from h) (show nroot n + 1 ≤ k from h)
    omega
def isqrt (n : Int) : Int := nroot n.toNat
theorem isqrt_nonpos {n : Int} (h : n ≤ 0) : isqrt n = 0 := by
  have : n.toNat = 0 := by omega
  simp [isqrt, this, nroot]
theorem isqrt_uniq {n k : Int} (h0 : 0 ≤ k) (h1 : k * k ≤ n) (h2 : n < (k + 1) * (k + 1)) : k = isqrt n := by
  obtain ⟨m, rfl⟩ := Int.eq_ofNat_of_zero_le h0
  have hn : 0 ≤ n := Int.le_trans (Int.mul_nonneg h0 h0) h1
  obtain ⟨p, rfl⟩ := Int.eq_ofNat_of_zero_le hn
  have e := nroot_uniq (n := p) (k := m) (by exact_mod_cast h1) (by exact_mod_cast h2)
  simp [isqrt, ← e]
theorem isqrt_spec {n : Int} (h : 1 ≤ n) : 1 ≤ isqrt n ∧ isqrt n * isqrt n ≤ n ∧ n < (isqrt n + 1) * (isqrt n + 1) := by
  obtain ⟨p, rfl⟩ := Int.eq_ofNat_of_zero_le (show 0 ≤ n by omega)
  have ⟨h3, h4⟩ := nroot_spec p
  refine ⟨?_, by simpa [isqrt] using (by exact_mod_cast h3), by simpa [isqrt] using (by exact_mod_cast h4)⟩
  rcases Nat.eq_zero_or_pos (nroot p) with h0 | h0
  · rw [h0] at h4; omega
  · simp [isqrt]; omega
end Safe
end Go.Proofs.YtkmhagjdafeebaaGreat
/- Layer 2 (safe): what each function of the package computes: contracts over the loaded program. -/
namespace Go.Proofs.YtkmhagjdafeebaaGreat
open Go.RowKit

theorem safe_right (n : Int) (w : World) :
    Calls Tryz.prog 71 #[.int .i64 n] w fun e w' => e = .returned (.bool (Safe.ok n)) ∧ w = w' := by
  by_cases h1 : 0 ≤ n
  · by_cases h2 : n ≤ 1099511627776
    · go_enter Tryz.func71, Tryz.ntmps71
      go_wp2
      go_ret
      exact ⟨by simp [Safe.ok, h1, h2], rfl⟩
    · go_enter Tryz.func71, Tryz.ntmps71
      go_wp2
      go_ret
      exact ⟨by simp [Safe.ok, h1, h2], rfl⟩
  · go_enter Tryz.func71, Tryz.ntmps71
    go_wp2
    go_ret
    exact ⟨by simp [Safe.ok]; omega, rfl⟩

def EvStep (g : Nat) (caps : Array Value) (zs : List Int) (ok : Nat → Bool) (I : Nat → World → Prop) : Prop :=
  ∀ k, k < zs.length → (∀ j, j < k → ok j = true) → ∀ w, I k w → Calls Tryz.prog g (#[.int .i64 (zs.getD k 0)] ++ caps) w fun e w' => e = .returned (.bool (ok k)) ∧ I (k + 1) w'

def EvPost (zs : List Int) (ok : Nat → Bool) (I : Nat → World → Prop) (e : Ending) (w' : World) : Prop :=
  ∃ k, k ≤ zs.length ∧ (∀ j, j < k → ok j = true) ∧ ((k = zs.length ∧ e = .returned (.bool true) ∧ I k w') ∨ (k < zs.length ∧ ok k = false ∧ e = .returned (.bool false) ∧ I (k + 1) w'))

set_option maxHeartbeats 400000 in
theorem safe_every (A : Option Addr) (c g : Nat) (zs : List Int) (caps : Array Value) (ok : Nat → Bool) (I : Nat → World → Prop) (w : World) (hl : zs.length ≤ 9223372036854775807)
    (eg : ∀ args w, (callFunc g args).run Tryz.prog w = .ok (.enter g args) w)
    (hI : ∀ k w, I k w → Ints .i64 w A zs) (hs : EvStep g caps zs ok I) (h0 : I 0 w) :
    Calls Tryz.prog 70 #[.slice A zs.length c, .func (.func g) #[] caps] w (EvPost zs ok I) := by
  have HI := Lib.hid hI
  clear hI
  go_enter Tryz.func70, Tryz.ntmps70
  go_wp2_with fail
  go_loopw [6, 9] (fun x i wr => ∃ k : Nat, k ≤ zs.length ∧ i = .int .i64 k ∧ I k wr ∧ (∀ j, j < k → ok j = true)) (fun _ i _ => zs.length - (intOf i).toNat)
  case atStart => exact ⟨0, Nat.zero_le _, rfl, h0, by intro j hj; omega⟩
  case round =>
    obtain ⟨k, hk, rfl, hik, hok⟩ := hrel
    have HO := Lib.hid hok
    clear hok
    by_cases hlt : k < zs.length
    · obtain ⟨b, off, rfl, hb, hc⟩ := HI.out k wr hik k hlt
      have hcall := Lib.hid (hs k hlt HO.out wr hik)
      have ez : zs.getD k 0 = zs[k] := by simp [hlt]
      rw [ez] at hcall
      have hcall2 : Hid (Calls Tryz.prog g (#[.int .i64 zs[k]] ++ caps) wr fun e w' => e = .returned (.bool (ok k)) ∧ I (k + 1) w') := hcall
      clear hcall ez
      go_wp2_with fail
      refine hcall2.out.mono ?_
      rintro e w1 ⟨rfl, h1⟩
      cases hkk : ok k
      · go_wp2_with fail
        go_ret
        exact ⟨k, hk, HO.out, .inr ⟨hlt, hkk, rfl, h1⟩⟩
      · have HK := Lib.hid hkk
        clear hkk
        go_wp2_with fail
        go_roundw
        case rel => exact ⟨k + 1, by omega, by go_num, h1, fun j hj => by rcases Nat.lt_succ_iff_lt_or_eq.1 hj with h | h; exact HO.out j h; subst h; exact HK.out⟩
        case measure => simp [intOf]; omega
    · go_wp2_with fail
      go_ret
      exact ⟨k, hk, HO.out, .inl ⟨by omega, rfl, hik⟩⟩

/-- every(l, f) where f only computes. -/
theorem safe_every_pure (A : Option Addr) (c g : Nat) (zs : List Int) (p : Int → Bool) (w : World) (hl : zs.length ≤ 9223372036854775807)
    (eg : ∀ args w, (callFunc g args).run Tryz.prog w = .ok (.enter g args) w)
    (hI : Ints .i64 w A zs) (hs : ∀ n w, Calls Tryz.prog g #[.int .i64 n] w fun e w' => e = .returned (.bool (p n)) ∧ w = w') :
    Calls Tryz.prog 70 #[.slice A zs.length c, .func (.func g) #[] #[]] w fun e w' => e = .returned (.bool (zs.all p)) ∧ w = w' := by
  refine (safe_every A c g zs #[] (fun j => p (zs.getD j 0)) (fun _ wx => w = wx) w hl eg (fun k wx h => by subst h; exact hI) (fun k hk _ wx h => by subst h; exact (hs _ _)) rfl).mono ?_
  rintro e w' ⟨k, hk, hj, h⟩
  rcases h with ⟨h1, he, hw⟩ | ⟨h1, h2, he, hw⟩
  · subst h1
    exact ⟨by rw [he, Safe.all_getD hj], hw⟩
  · exact ⟨by rw [he, Safe.not_all h1 h2], hw⟩

theorem enters_right : ∀ args w, (callFunc 71 args).run Tryz.prog w = .ok (.enter 71 args) w := enters Tryz.func71 (by kernel_rfl) rfl
theorem enters_mul1 : ∀ args w, (callFunc 72 args).run Tryz.prog w = .ok (.enter 72 args) w := enters Tryz.func72 (by kernel_rfl) rfl
theorem enters_mul2 : ∀ args w, (callFunc 73 args).run Tryz.prog w = .ok (.enter 73 args) w := enters Tryz.func73 (by kernel_rfl) rfl


theorem safe_mul1 (n : Int) (w : World) :
    Calls Tryz.prog 72 #[.int .i64 n] w fun e w' => e = .returned (.bool (n != 0)) ∧ w = w' := by
  go_enter Tryz.func72, Tryz.ntmps72
  go_wp2_with fail
  go_ret
  exact ⟨rfl, rfl⟩

theorem safe_mul2 (n s : Int) (g : Nat) (w : World) (hb : Blk w g 3 #[.int .i64 s]) (h0 : 1 ≤ s) (h1 : s ≤ 1099511627776) (h2 : 1 ≤ n) (h3 : n ≤ 1099511627776) :
    Calls Tryz.prog 73 #[.int .i64 n, .pointer (some ⟨g, 0, none⟩)] w fun e w' =>
      e = .returned (.bool (decide (s * n ≤ 1099511627776))) ∧ (if s * n ≤ 1099511627776 then w.setCell ⟨g, 0, none⟩ (.int .i64 (s * n)) else w) = w' := by
  have hc := hb.cell 0
  have hf := hb.frozen 0
  simp at hc
  clear hb
  have hq : n ≤ 1099511627776 / s ↔ s * n ≤ 1099511627776 := by rw [Int.le_ediv_iff_mul_le (by omega), Int.mul_comm]
  by_cases hle : s * n ≤ 1099511627776
  · have hn : n ≤ 1099511627776 / s := hq.2 hle
    have hp : 0 ≤ s * n := Int.mul_nonneg (by omega) (by omega)
    clear hq
    go_enter Tryz.func73, Tryz.ntmps73
    go_wp2_with fail
    go_ret
    exact ⟨by simp, by simp⟩
  · have hn : 1099511627776 / s < n := by
      rcases Int.lt_or_le (1099511627776 / s) n with h | h
      · exact h
      · exact absurd (hq.1 h) hle
    clear hq
    go_enter Tryz.func73, Tryz.ntmps73
    go_wp2_with fail
    go_ret
    exact ⟨by simp, by simp⟩

end Go.Proofs.YtkmhagjdafeebaaGreat
/- Layer 2 (safe): sums, products, maxima, differences, shares: contracts. -/
namespace Go.Proofs.YtkmhagjdafeebaaGreat
open Go.RowKit


def MulI (B : Nat) (w : World) (zs : List Int) (k : Nat) (wx : World) : Prop := (∃ s : Int, (Safe.prod (zs.take k) ≤ Safe.top → s = Safe.prod (zs.take k)) ∧ Blk wx B 3 #[.int .i64 s]) ∧ Below B w wx

set_option maxHeartbeats 400000 in
theorem safe_mul (A : Option Addr) (c : Nat) (zs : List Int) (w : World) (hl : zs.length ≤ 9223372036854775807) (hI : Ints .i64 w A zs) :
    Calls Tryz.prog 46 #[.slice A zs.length c] w fun e w' => e = .returned (.tuple #[.int .i64 (Safe.mul zs).1, .int .i64 (Safe.mul zs).2]) ∧ Below w.heap.size w w' := by
  have HI := Lib.hid hI
  clear hI
  cases hall : zs.all Safe.ok
  · have hfin := Lib.hid (Safe.mul_range hall)
    have HA := Lib.hid hall
    clear hall
    go_enter Tryz.func46, Tryz.ntmps46
    go_wp2_with fail
    refine (safe_every_pure A c 71 zs Safe.ok _ hl enters_right HI.out safe_right).mono ?_
    rintro e w' ⟨rfl, rfl⟩
    rw [HA.out]
    go_wp2_with fail
    go_ret2
    exact ⟨by rw [hfin.out]; rfl, Below.refl _ _⟩
  · have HA := Lib.hid hall
    clear hall
    cases hz : zs.all (· != 0)
    · have hfin := Lib.hid (Safe.mul_zero HA.out hz)
      have HZ := Lib.hid hz
      clear hz
      go_enter Tryz.func46, Tryz.ntmps46
      go_wp2_with fail
      refine (safe_every_pure A c 71 zs Safe.ok _ hl enters_right HI.out safe_right).mono ?_
      rintro e w' ⟨rfl, rfl⟩
      rw [HA.out]
      go_wp2_with fail
      refine (safe_every_pure A c 72 zs (· != 0) _ hl enters_mul1 HI.out safe_mul1).mono ?_
      rintro e w' ⟨rfl, rfl⟩
      rw [HZ.out]
      go_wp2_with fail
      go_ret2
      exact ⟨by rw [hfin.out]; rfl, Below.refl _ _⟩
    · have HZ := Lib.hid hz
      clear hz
      go_enter Tryz.func46, Tryz.ntmps46
      go_wp2_with fail
      refine (safe_every_pure A c 71 zs Safe.ok _ hl enters_right HI.out safe_right).mono ?_
      rintro e w' ⟨rfl, rfl⟩
      rw [HA.out]
      go_wp2_with fail
      refine (safe_every_pure A c 72 zs (· != 0) _ hl enters_mul1 HI.out safe_mul1).mono ?_
      rintro e w' ⟨rfl, rfl⟩
      rw [HZ.out]
      go_wp2_with fail
      refine (safe_every A c 73 zs #[.pointer (some ⟨w.heap.size, 0, none⟩)] (fun j => decide (Safe.prod (zs.take (j + 1)) ≤ Safe.top)) (MulI w.heap.size w zs) _ hl enters_mul2 ?h1 ?h2 ?h3).mono ?_
      case h1 => exact fun k wx h => HI.out.below h.2 (Nat.le_refl _)
      case h2 =>
        intro k hk hok wx hik
        have hb : Safe.prod (zs.take k) ≤ Safe.top := by
          rcases k with _ | k
          · simp [Safe.prod, Safe.top_eq]
          · have := hok k (by omega)
            simpa using this
        have hz := (Safe.ok_iff _).1 (Safe.all_of HA.out k hk)
        have hz1 : 1 ≤ zs.getD k 0 := Safe.pos_of HA.out HZ.out _ (by simp [hk])
        have h0 := Safe.prod_pos (zs.take k) (fun x hx => Safe.pos_of HA.out HZ.out x (List.mem_of_mem_take hx))
        obtain ⟨⟨s, hs, hblk⟩, hbel⟩ := hik
        obtain rfl := hs hb
        clear hs
        refine (safe_mul2 (zs.getD k 0) (Safe.prod (zs.take k)) w.heap.size wx hblk h0 hb hz1 hz.2).mono ?_
        rintro e w' ⟨rfl, rfl⟩
        have e1 : zs.getD k 0 = zs[k] := by simp [hk]
        have e2 := Safe.prod_take_succ zs k hk
        refine ⟨?_, ?_, ?_⟩
        · show _ = Ending.returned (.bool (decide (Safe.prod (zs.take (k + 1)) ≤ Safe.top)))
          rw [e1, e2, Safe.top_eq]
        · rw [e1, e2]
          by_cases h : Safe.prod (zs.take k) * zs[k] ≤ 1099511627776
          · rw [if_pos h]
            exact ⟨_, fun _ => rfl, hblk.set_ 0 _⟩
          · rw [if_neg h]
            exact ⟨_, fun h' => absurd h' h, hblk⟩
        · split
          · exact hbel.setCell (Nat.le_refl _) _
          · exact hbel
      case h3 => exact ⟨⟨1, fun _ => by simp [Safe.prod], by simpa using Blk.new w 3 #[.int .i64 1]⟩, (Below.refl _ _).alloc (Nat.le_refl _) _⟩
      rintro e w' ⟨k, hk, hj, h⟩
      rcases h with ⟨rfl, rfl, ⟨s, hs, hb⟩, hbel⟩ | ⟨h1, h2, rfl, hb, hbel⟩
      · have hp : Safe.prod zs ≤ Safe.top := by
          rcases hz : zs.length with _ | n
          · have : zs = [] := List.eq_nil_of_length_eq_zero hz
            subst this; simp [Safe.prod, Safe.top_eq]
          · have := hj n (by omega)
            simp only [← hz, List.take_length] at this
            simpa using this
        rw [List.take_length] at hs
        obtain rfl := hs hp
        have hc := hb.cell 0
        simp at hc
        have hfin := Lib.hid (Safe.mul_prod HA.out HZ.out hp)
        clear hj hb hp hs
        go_wp2_with fail
        go_ret2
        exact ⟨by rw [hfin.out]; rfl, hbel⟩
      · have hfin := Lib.hid (Safe.mul_big HA.out HZ.out (k + 1) (by simpa using h2))
        clear hj hb h2
        go_wp2_with fail
        go_ret2
        exact ⟨by rw [hfin.out]; rfl, hbel⟩

end Go.Proofs.YtkmhagjdafeebaaGreat
/- Layer 3 (shape): contracts. -/
namespace Go.Proofs.YtkmhagjdafeebaaGreat
open Go.RowKit

namespace Sh
def side (n : Int) : Bool := decide (1 ≤ n ∧ n ≤ 1024)
/-- May it be a shape? -/
def right (zs : List Int) : Bool := decide (1 ≤ zs.length ∧ zs.length ≤ 4) && zs.all side && decide (Safe.prod zs ≤ 65536)
def size (zs : List Int) : Int × Int := if right zs then (Safe.prod zs, 0) else (0, 20)
theorem side_iff (n : Int) : side n = true ↔ 1 ≤ n ∧ n ≤ 1024 := by simp [side]
theorem right_len {zs : List Int} (h : ¬ (1 ≤ zs.length ∧ zs.length ≤ 4)) : right zs = false := by simp [right]; intro a b; omega
theorem right_side {zs : List Int} (h : zs.all side = false) : right zs = false := by simp [right, h]
theorem right_prod {zs : List Int} (h1 : 1 ≤ zs.length ∧ zs.length ≤ 4) (h : zs.all side = true) : right zs = decide (Safe.prod zs ≤ 65536) := by simp [right, h, h1]
theorem all_safe {zs : List Int} (h : zs.all side = true) : zs.all Safe.ok = true ∧ zs.all (· != 0) = true := by
  rw [List.all_eq_true] at h
  refine ⟨List.all_eq_true.2 fun x hx => ?_, List.all_eq_true.2 fun x hx => ?_⟩
  · have := (side_iff x).1 (h x hx)
    exact (Safe.ok_iff x).2 (by omega)
  · have := (side_iff x).1 (h x hx)
    simp; omega
theorem prod_le {zs : List Int} (h : ∀ x ∈ zs, 1 ≤ x ∧ x ≤ 1024) (hl : zs.length ≤ 4) : Safe.prod zs ≤ 1099511627776 := by
  have h1 : ∀ x ∈ zs, 1 ≤ x := fun x hx => (h x hx).1
  match zs, hl with
  | [], _ => simp [Safe.prod]
  | [a], _ => have := h a (by simp); simp [Safe.prod]; omega
  | [a, b], _ =>
    have ha := h a (by simp); have hb := h b (by simp)
    simp only [Safe.prod, Int.mul_one]
    have := Int.mul_le_mul ha.2 hb.2 (by omega) (by omega)
    omega
  | [a, b, c], _ =>
    have ha := h a (by simp); have hb := h b (by simp); have hc := h c (by simp)
    simp only [Safe.prod, Int.mul_one]
    have h2 := Int.mul_le_mul hb.2 hc.2 (by omega) (by omega)
    have h3 := Int.mul_le_mul ha.2 h2 (Int.mul_nonneg (by omega) (by omega)) (by omega)
    omega
  | [a, b, c, d], _ =>
    have ha := h a (by simp); have hb := h b (by simp); have hc := h c (by simp); have hd := h d (by simp)
    simp only [Safe.prod, Int.mul_one]
    have h1 := Int.mul_le_mul hc.2 hd.2 (by omega) (by omega)
    have h2 := Int.mul_le_mul hb.2 h1 (Int.mul_nonneg (by omega) (by omega)) (by omega)
    have h3 := Int.mul_le_mul ha.2 h2 (Int.mul_nonneg (by omega) (Int.mul_nonneg (by omega) (by omega))) (by omega)
    omega
  | _ :: _ :: _ :: _ :: _ :: _, hl => simp at hl
theorem all_iff {zs : List Int} (h : zs.all side = true) : ∀ x ∈ zs, 1 ≤ x ∧ x ≤ 1024 := fun x hx => (side_iff x).1 (List.all_eq_true.1 h x hx)
theorem mul_ok {zs : List Int} (h1 : zs.length ≤ 4) (h : zs.all side = true) : Safe.mul zs = (Safe.prod zs, 0) :=
  Safe.mul_prod (all_safe h).1 (all_safe h).2 (prod_le (all_iff h) h1)
theorem right_mul {zs : List Int} (h : right zs = true) : Safe.mul zs = (Safe.prod zs, 0) ∧ zs.length ≤ 4 ∧ 1 ≤ zs.length ∧ (∀ x ∈ zs, 1 ≤ x ∧ x ≤ 1024) ∧ 1 ≤ Safe.prod zs ∧ Safe.prod zs ≤ 65536 := by
  simp [right] at h
  have h2 : zs.all side = true := List.all_eq_true.2 h.1.2
  exact ⟨mul_ok h.1.1.2 h2, h.1.1.2, by omega, all_iff h2, Safe.prod_pos zs (fun x hx => (all_iff h2 x hx).1), h.2⟩
end Sh

set_option maxHeartbeats 1000000 in
theorem shape_right (A : Option Addr) (c : Nat) (zs : List Int) (w : World) (hl : zs.length ≤ 9223372036854775807) (hI : Ints .i64 w A zs) :
    Calls Tryz.prog 45 #[.slice A zs.length c] w fun e w' => e = .returned (.bool (Sh.right zs)) ∧ Below w.heap.size w w' := by
  have HI := Lib.hid hI
  clear hI
  by_cases h1 : zs.length < 1
  · have HS := Lib.hid (Sh.right_len (zs := zs) (by omega))
    go_enter Tryz.func45, Tryz.ntmps45
    go_wp2_with fail
    go_ret
    exact ⟨by rw [HS.out]; rfl, Below.refl _ _⟩
  · by_cases h4 : 4 < zs.length
    · have HS := Lib.hid (Sh.right_len (zs := zs) (by omega))
      go_enter Tryz.func45, Tryz.ntmps45
      go_wp2_with fail
      go_ret
      exact ⟨by rw [HS.out]; rfl, Below.refl _ _⟩
    · go_enter Tryz.func45, Tryz.ntmps45
      go_wp2_with fail
      go_loopw [17] (fun i wr => wr = w ∧ ∃ k : Nat, k ≤ zs.length ∧ i = .int .i64 k ∧ ∀ x ∈ zs.take k, Sh.side x = true) (fun i _ => zs.length - (intOf i).toNat)
      case atStart => exact ⟨rfl, 0, Nat.zero_le _, rfl, by simp⟩
      case round =>
        obtain ⟨rfl, k, hk, rfl, hall⟩ := hrel
        have HA := Lib.hid hall
        clear hall
        by_cases hlt : k < zs.length
        · obtain ⟨b, off, rfl, hb, hc⟩ := HI.out k hlt
          by_cases hx1 : zs[k] < 1
          · have HS := Lib.hid (Sh.right_side (zs := zs) (by simp [List.all_eq_false]; exact ⟨zs[k], List.getElem_mem hlt, by simp [Sh.side]; omega⟩))
            go_wp2_with fail
            go_ret
            exact ⟨by rw [HS.out]; rfl, Below.refl _ _⟩
          · by_cases hx2 : 1024 < zs[k]
            · have HS := Lib.hid (Sh.right_side (zs := zs) (by simp [List.all_eq_false]; exact ⟨zs[k], List.getElem_mem hlt, by simp [Sh.side]; omega⟩))
              go_wp2_with fail
              go_ret
              exact ⟨by rw [HS.out]; rfl, Below.refl _ _⟩
            · go_wp2_with fail
              go_roundw
              case rel => exact ⟨trivial, k + 1, by omega, by go_num, fun x hx => by
                rw [List.take_succ_eq_append_getElem hlt, List.mem_append] at hx
                rcases hx with hx | hx
                · exact HA.out x hx
                · rw [List.mem_singleton] at hx; subst hx; exact (Sh.side_iff _).2 ⟨by omega, by omega⟩⟩
              case measure => simp [intOf]; omega
        · obtain rfl : k = zs.length := by omega
          rw [List.take_length] at HA
          have hall : zs.all Sh.side = true := List.all_eq_true.2 HA.out
          have HM := Lib.hid (Sh.mul_ok (by omega) hall)
          have HP := Lib.hid (Sh.right_prod (by omega) hall)
          clear hall HA
          go_wp2_with fail
          refine (safe_mul A c zs _ hl HI.out).mono ?_
          rintro e w1 ⟨rfl, hb1⟩
          rw [HM.out]
          by_cases hp : Safe.prod zs ≤ 65536
          · go_wp2_with fail
            go_ret
            exact ⟨by rw [HP.out]; simp [hp], hb1⟩
          · go_wp2_with fail
            go_ret
            exact ⟨by rw [HP.out]; simp, hb1⟩

set_option maxHeartbeats 1000000 in
theorem shape_size (A : Option Addr) (c : Nat) (zs : List Int) (w : World) (hl : zs.length ≤ 9223372036854775807) (hI : Ints .i64 w A zs) :
    Calls Tryz.prog 18 #[.slice A zs.length c] w fun e w' => e = .returned (.tuple #[.int .i64 (Sh.size zs).1, .int .i64 (Sh.size zs).2]) ∧ Below w.heap.size w w' := by
  have HI := Lib.hid hI
  clear hI
  cases hr : Sh.right zs
  · have HS := Lib.hid (show Sh.size zs = (0, 20) by simp [Sh.size, hr])
    have HR := Lib.hid hr
    clear hr
    go_enter Tryz.func18, Tryz.ntmps18
    go_wp2_with fail
    refine (shape_right A c zs _ hl HI.out).mono ?_
    rintro e w1 ⟨rfl, h1⟩
    rw [HR.out]
    go_wp2_with fail
    go_ret2
    exact ⟨by rw [HS.out]; rfl, h1⟩
  · have HS := Lib.hid (show Sh.size zs = (Safe.prod zs, 0) by simp [Sh.size, hr])
    have HM := Lib.hid (Sh.right_mul hr).1
    have HR := Lib.hid hr
    clear hr
    go_enter Tryz.func18, Tryz.ntmps18
    go_wp2_with fail
    refine (shape_right A c zs _ hl HI.out).mono ?_
    rintro e w1 ⟨rfl, h1⟩
    rw [HR.out]
    go_wp2_with fail
    refine (safe_mul A c zs _ hl (HI.out.below h1 (Nat.le_refl _))).mono ?_
    rintro e w2 ⟨rfl, h2⟩
    rw [HM.out]
    go_wp2_with fail
    go_ret2
    exact ⟨by rw [HS.out]; rfl, h1.trans (h2.mono h1.size)⟩

theorem own_cur {w : World} {B g n : Nat} {e : TypeId} {xs : List Value} (h : w.ownsRow B e 1 (.slice (some ⟨g, 0, none⟩) n n) n xs) : w.heap[g]? = some (.cells xs.toArray e (0, 0)) := by
  rcases h.2 with ⟨hv, _⟩ | ⟨g', cap, cur, hv, _, hh, _, _, hc, ht⟩
  · cases hv
  · injection hv with h1 h2 h3
    injection h1 with h1
    injection h1 with h1
    subst h1 h3
    rw [hh]
    have : cur.toList = xs := by rw [← ht, List.take_of_length_le]; simp [hc]
    rw [← this]
theorem own_of_row {w : World} {B g n : Nat} {e : TypeId} {xs : List Value} (h : w.heap[g]? = some (.cells xs.toArray e (0, 0))) (hB : B ≤ g) (hn : xs.length = n) (hm : n ≤ maxLen) : w.ownsRow B e 1 (.slice (some ⟨g, 0, none⟩) n n) n xs := by
  subst hn
  exact ⟨by simp, .inr ⟨g, _, _, rfl, hB, h, Nat.le_refl _, hm, by simp, by simp⟩⟩
theorem splice_all {cur cs : List Value} (h : cs.length = cur.length) : splice cur 0 cs = cs := by
  simp [splice, h]
theorem Ints.src {k : IntKind} {w : World} {A : Option Addr} {zs : List Int} (h : Ints k w A zs) (hpos : 0 < zs.length) : ∃ ad, A = some ad ∧ ∀ j v, (zs.map (Value.int k))[j]? = some v → w.cell? (ad.add j) = some v := by
  obtain ⟨b, off, e, _, _⟩ := h 0 hpos
  refine ⟨⟨b, off, none⟩, e, fun j v hj => ?_⟩
  rw [List.getElem?_map] at hj
  obtain ⟨x, hx, rfl⟩ := Option.map_eq_some_iff.1 hj
  obtain ⟨hjl, rfl⟩ := List.getElem?_eq_some_iff.1 hx
  obtain ⟨b1, off1, e1, _, hc⟩ := h j hjl
  rw [e] at e1
  injection e1 with e1
  injection e1 with e2 e3
  subst e2 e3
  rw [Addr.add_lit, hc]
  simp [hjl]

theorem Ints.src' {k : IntKind} {w : World} {A : Option Addr} {zs : List Int} (h : Ints k w A zs) (hpos : 0 < zs.length) : ∃ ad, A = some ad ∧ ∀ j a, zs[j]? = some a → w.cell? (ad.add j) = some (.int k a) := by
  obtain ⟨ad, e, h⟩ := h.src hpos
  exact ⟨ad, e, fun j a ha => h j _ (by rw [List.getElem?_map, ha]; rfl)⟩

/-- A new row of the same numbers. -/
def CopyPost (t : TypeId) (k : IntKind) (zs : List Int) (w : World) (e : Ending) (w' : World) : Prop :=
  ∃ g, e = .returned (.slice (some ⟨g, 0, none⟩) zs.length zs.length) ∧ w.heap.size ≤ g ∧ w'.heap[g]? = some (.cells (zs.map (Value.int k)).toArray t (0, 0)) ∧ Below w.heap.size w w'

set_option maxHeartbeats 1000000 in
theorem shape_copy (A : Option Addr) (c : Nat) (zs : List Int) (w : World) (hl : zs.length ≤ 17592186043904) (hI : Ints .i64 w A zs) :
    Calls Tryz.prog 53 #[.slice A zs.length c] w (CopyPost 3 .i64 zs w) := by
  obtain ⟨i0, hi, hz0, hz1, hz2⟩ := info_parts int_info
  have HI := Lib.hid hI
  clear hI
  go_enter Tryz.func53, Tryz.ntmps53
  go_wp2_with (at_make; refine wpList_make_full _ rfl _ _ 23 rfl w.heap.size 3 i0 (.int .i64 0) 1 Tryz.underlying23 hi hz0 hz1 _ _ _ _ zs.length rfl rfl (by first | rfl | simp) (by first | rfl | simp) ?b2 ?b3 (Nat.le_refl _) ?_)
  case b2 => rw [hz2]; omega
  case b3 => unfold maxLen; omega
  intro w1 hown hgrow
  have hblk := own_cur hown
  have hb1 : Below w.heap.size w w1 := (Below.refl _ w).grown hgrow (Nat.le_refl _) (by simp)
  have hlen := hown.1
  have HI1 := Lib.hid (HI.out.below hb1 (Nat.le_refl _))
  generalize (madeCells #[Value.int .i64 0] zs.length).toList = cur at *
  clear hown hgrow HI
  go_wp2_with (with_reducible refine wpList_copy_splice rfl (.tmp 7) (.tmp 8) 23 23 rfl 3 Tryz.underlying23 ?d1 (some ⟨w.heap.size, 0, none⟩) A zs.length zs.length zs.length c rfl rfl w.heap.size 0 cur 3 hblk (zs.map (Value.int .i64)) ?d2 ?d3 ?d4 ?d5 w.heap.size w hb1 (Nat.le_refl _) ?_)
  case d1 => kernel_rfl
  case d2 => simp
  case d3 => intro hp; exact HI1.out.src' (by simpa using hp)
  case d4 => simp at hlen ⊢; omega
  case d5 => intro v hv; obtain ⟨x, _, rfl⟩ := List.mem_map.1 hv; rfl
  intro w2 hw2 hb2
  have hs := splice_all (cur := cur) (cs := zs.map (Value.int .i64)) (by simp at hlen ⊢; omega)
  have HF := Lib.hid (show w2.heap[w.heap.size]? = some (.cells (zs.map (Value.int .i64)).toArray 3 (0, 0)) by rw [← hs]; exact hw2.out)
  clear hw2 hb1 hlen hs hblk
  go_wp2_with fail
  go_ret
  exact ⟨w.heap.size, rfl, Nat.le_refl _, HF.out, hb2⟩

set_option maxHeartbeats 1000000 in
theorem ints_equal (A A' : Option Addr) (c c' : Nat) (xs ys : List Int) (w : World) (hl : xs.length ≤ 17592186043904) (hl' : ys.length ≤ 17592186043904) (hI : Ints .i64 w A xs) (hI' : Ints .i64 w A' ys) :
    Calls Tryz.prog 44 #[.slice A xs.length c, .slice A' ys.length c'] w fun e w' => e = .returned (.bool (xs == ys)) ∧ ∃ n, w' = w.drewN n := by
  have HI := Lib.hid hI
  have HI' := Lib.hid hI'
  clear hI hI'
  by_cases hn : xs.length = ys.length
  · have hq : ((xs.length : Int) != ys.length) = false := by simp [hn]
    have HN := Lib.hid hn
    clear hn
    go_enter Tryz.func44, Tryz.ntmps44
    go_wp2_with fail
    go_loopw [13] (fun i wr => ∃ k n : Nat, wr = w.drewN n ∧ k ≤ xs.length ∧ i = .int .i64 k ∧ xs.take k = ys.take k) (fun i _ => xs.length - (intOf i).toNat)
    case atStart => exact ⟨0, 0, rfl, Nat.zero_le _, rfl, rfl⟩
    case round =>
      obtain ⟨k, n, rfl, hk, rfl, htk⟩ := hrel
      have HT := Lib.hid htk
      clear htk
      by_cases hlt : k < xs.length
      · have hlt' : k < ys.length := by have := HN.out; omega
        obtain ⟨b, off, rfl, hb, hc⟩ := HI.out k hlt
        obtain ⟨b', off', rfl, hb', hc'⟩ := HI'.out k hlt'
        have k0 : (0 : Int) ≤ k := by omega
        have k1 : (k : Int) < xs.length := by omega
        have k2 : (k : Int) < ys.length := by omega
        by_cases hxy : xs[k] = ys[k]
        · have hb : (xs[k] != ys[k]) = false := by simp [hxy]
          have HT2 := Lib.hid (show xs.take (k + 1) = ys.take (k + 1) by rw [List.take_succ_eq_append_getElem hlt, List.take_succ_eq_append_getElem hlt', HT.out, hxy])
          clear hxy
          go_wp2_with fail
          go_quiet (fail)
          go_wp2_with fail
          go_roundw
          case rel => exact ⟨k + 1, n + nq, by first | rfl | exact World.drewN_drewN _ _ _, by omega, by go_num, HT2.out⟩
          case measure => simp [intOf]; omega
        · have hb : (xs[k] != ys[k]) = true := by simp [hxy]
          have hf := Lib.hid (show (xs == ys) = false by simp; rintro rfl; exact hxy rfl)
          clear hxy
          go_wp2_with fail
          go_quiet (fail)
          go_wp2_with fail
          go_ret
          exact ⟨by rw [hf.out]; rfl, n + nq, World.drewN_drewN _ _ _⟩
      · obtain rfl : k = xs.length := by omega
        have hf := Lib.hid (show (xs == ys) = true by have := HT.out; rw [List.take_length, HN.out, List.take_length] at this; simp [this])
        go_wp2_with fail
        go_ret
        exact ⟨by rw [hf.out]; rfl, n, rfl⟩
  · have hq : ((xs.length : Int) != ys.length) = true := by simp; omega
    have hf := Lib.hid (show (xs == ys) = false by simp; rintro rfl; exact hn rfl)
    clear hn
    go_enter Tryz.func44, Tryz.ntmps44
    go_wp2_with fail
    go_ret
    exact ⟨by rw [hf.out]; rfl, 0, rfl⟩

theorem shape_equal (A A' : Option Addr) (c c' : Nat) (xs ys : List Int) (w : World) (hl : xs.length ≤ 17592186043904) (hl' : ys.length ≤ 17592186043904) (hI : Ints .i64 w A xs) (hI' : Ints .i64 w A' ys) :
    Calls Tryz.prog 17 #[.slice A xs.length c, .slice A' ys.length c'] w fun e w' => e = .returned (.bool (xs == ys)) ∧ ∃ n, w' = w.drewN n := by
  have HI := Lib.hid hI
  have HI' := Lib.hid hI'
  clear hI hI'
  go_enter Tryz.func17, Tryz.ntmps17
  go_wp2_with fail
  refine (ints_equal A A' c c' xs ys _ hl hl' HI.out HI'.out).mono ?_
  rintro e w' ⟨rfl, n, rfl⟩
  go_wp2_with fail
  go_ret
  exact ⟨rfl, n, rfl⟩
end Go.Proofs.YtkmhagjdafeebaaGreat
/- Layer 4 (tensor): contracts. -/
namespace Go.Proofs.YtkmhagjdafeebaaGreat
open Go.RowKit

/-- A tensor as plain numbers. -/
structure Ten where
  s : List Int
  c : List Int
namespace Tn
def right (t : Ten) : Bool := Sh.right t.s && decide ((t.c.length : Int) = Safe.prod t.s)
theorem right_false {t : Ten} (h : Sh.right t.s = false) : right t = false := by simp [right, h]
theorem right_true {t : Ten} (h : Sh.right t.s = true) : right t = decide ((t.c.length : Int) = Safe.prod t.s) := by simp [right, h]
end Tn

/-- A tensor's two rows read as its numbers. -/
def TenR (w : World) (S C : Option Addr) (t : Ten) : Prop := Ints .i64 w S t.s ∧ Ints .i64 w C t.c
/-- A tensor made by the call: two blocks of its own, known whole. -/
def TenN (B : Nat) (w : World) (v : Value) (t : Ten) : Prop :=
  ∃ g h, v = .agg #[.slice (some ⟨g, 0, none⟩) t.s.length t.s.length, .slice (some ⟨h, 0, none⟩) t.c.length t.c.length] ∧ B ≤ g ∧ B ≤ h ∧
    Blk w g 3 (t.s.map (Value.int .i64)).toArray ∧ Blk w h 37 (t.c.map (Value.int .i64)).toArray

theorem Blk.ints {w : World} {g : Nat} {t : TypeId} {k : IntKind} {zs : List Int} (h : Blk w g t (zs.map (Value.int k)).toArray) : Ints k w (some ⟨g, 0, none⟩) zs := Ints.of_row fun j hj => by
  rw [Nat.zero_add, h.cell j]
  simp [hj]

set_option maxHeartbeats 1000000 in
theorem tensor_right (S C : Option Addr) (c d : Nat) (t : Ten) (w : World) (hl : t.s.length ≤ 9223372036854775807) (hl' : t.c.length ≤ 9223372036854775807) (hI : Ints .i64 w S t.s) :
    Calls Tryz.prog 6 #[.agg #[.slice S t.s.length c, .slice C t.c.length d]] w fun e w' => e = .returned (.bool (Tn.right t)) ∧ Below w.heap.size w w' := by
  have HI := Lib.hid (hI.alloc (.cells #[.slice S t.s.length c, .slice C t.c.length d] 26))
  clear hI
  have hb0 : Below w.heap.size w (w.alloc (.cells #[.slice S t.s.length c, .slice C t.c.length d] 26)) := (Below.refl _ _).alloc (Nat.le_refl _) _
  go_enter Tryz.func6, Tryz.ntmps6
  go_wp2_with fail
  refine (shape_size S c t.s _ (by omega) HI.out).mono ?_
  rintro e w1 ⟨rfl, h1⟩
  have hz := h1.size
  rw [World.size_alloc] at h1 hz
  have hc : w1.cell? ⟨w.heap.size, 1, none⟩ = some (.slice C t.c.length d) := by rw [h1.cell (p := ⟨w.heap.size, 1, none⟩) (Nat.lt_succ_self _)]; simp
  have hb1 := hb0.trans (h1.mono (Nat.le_succ _))
  clear h1 hb0 HI
  cases hr : Sh.right t.s
  · have HS := Lib.hid (show Sh.size t.s = (0, 20) by simp [Sh.size, hr])
    have HR := Lib.hid (Tn.right_false hr)
    clear hr
    rw [HS.out]
    go_wp2_with fail
    go_ret
    exact ⟨by rw [HR.out]; rfl, hb1⟩
  · have HS := Lib.hid (show Sh.size t.s = (Safe.prod t.s, 0) by simp [Sh.size, hr])
    have HR := Lib.hid (Tn.right_true hr)
    clear hr
    rw [HS.out]
    go_wp2_with fail
    go_ret
    refine ⟨?_, hb1⟩
    rw [HR.out]
    by_cases he : (t.c.length : Int) = Safe.prod t.s
    · simp [he]
    · simp [he]

def TenPost (t : Ten) (w : World) (e : Ending) (w' : World) : Prop := ∃ v, e = .returned v ∧ TenN w.heap.size w' v t ∧ Below w.heap.size w w'
set_option maxHeartbeats 1000000 in
theorem tensor_copy (S C : Option Addr) (c d : Nat) (t : Ten) (w : World) (hl : t.s.length ≤ 1000000) (hl' : t.c.length ≤ 1000000) (hT : TenR w S C t) :
    Calls Tryz.prog 26 #[.agg #[.slice S t.s.length c, .slice C t.c.length d]] w (TenPost t w) := by
  obtain ⟨i0, hi, hz0, hz1, hz2⟩ := info_parts fix_info
  obtain ⟨hI, hC⟩ := hT
  have HI := Lib.hid hI
  have HC := Lib.hid hC
  clear hI hC
  go_enter Tryz.func26, Tryz.ntmps26
  go_wp2_with (at_make; refine wpList_make_full _ rfl _ _ 24 rfl w.heap.size 37 i0 (.int .i64 0) 1 Tryz.underlying24 hi hz0 hz1 _ _ _ _ t.c.length rfl rfl (by first | rfl | simp) (by first | rfl | simp) ?b2 ?b3 ?b4 ?_)
  case b2 => rw [hz2]; omega
  case b3 => unfold maxLen; omega
  case b4 => simp; omega
  intro w1 hown hgrow
  have hblk := own_cur hown
  have hlen := hown.1
  generalize hw0 : (w.alloc (.cells #[.slice S t.s.length c, .slice C t.c.length d] 26)).alloc (.cells #[.slice none 0 0, .slice none 0 0] 26) = w0 at hgrow
  have hsz0 : w0.heap.size = w.heap.size + 2 := by subst hw0; simp
  have hb0 : Below w.heap.size w w0 := by subst hw0; exact ((Below.refl _ _).alloc (Nat.le_refl _) _).alloc (by simp) _
  have hk0 : Blk w0 w.heap.size 26 #[.slice S t.s.length c, .slice C t.c.length d] := by subst hw0; exact (Blk.new w _ _).alloc _
  have hk1 : Blk w0 (w.heap.size + 1) 26 #[.slice none 0 0, .slice none 0 0] := by subst hw0; have := Blk.new (w.alloc (.cells #[.slice S t.s.length c, .slice C t.c.length d] 26)) 26 #[.slice none 0 0, .slice none 0 0]; rwa [World.size_alloc] at this
  clear hw0
  have hk01 := hk0.grown hgrow (by simp)
  have hk11 := hk1.grown hgrow (by simp)
  have hb1 : Below w.heap.size w w1 := hb0.grown hgrow (by omega) (by simp)
  have hsz1 := hgrow.size
  have HC1 := Lib.hid (HC.out.below hb1 (Nat.le_refl _))
  have c0 := hk01.cell 0
  have c1 := hk01.cell 1
  simp at c0 c1
  generalize (madeCells #[Value.int .i64 0] t.c.length).toList = cur at *
  clear hown hgrow HC hk0 hk1 hb0
  go_wp2_with (with_reducible refine wpList_copy_splice rfl (.tmp 8) (.tmp 10) 24 24 rfl 37 Tryz.underlying24 ?d1 (some ⟨w.heap.size + 1 + 1, 0, none⟩) C t.c.length t.c.length t.c.length d rfl rfl (w.heap.size + 1 + 1) 0 cur 37 hblk (t.c.map (Value.int .i64)) ?d2 ?d3 ?d4 ?d5 (w.heap.size + 2) w1 (Below.refl _ _) (Nat.le_refl _) ?_)
  case d1 => kernel_rfl
  case d2 => simp
  case d3 => intro hp; exact HC1.out.src' (by simpa using hp)
  case d4 => simp at hlen ⊢; omega
  case d5 => intro v hv; obtain ⟨x, _, rfl⟩ := List.mem_map.1 hv; rfl
  intro w2 hw2 hb2
  have hs := splice_all (cur := cur) (cs := t.c.map (Value.int .i64)) (by simp at hlen ⊢; omega)
  have HF := Lib.hid (show Blk w2 (w.heap.size + 1 + 1) 37 (t.c.map (Value.int .i64)).toArray by rw [← hs]; exact hw2.out)
  have hk02 := hk01.below hb2 (by omega)
  have hk12 := hk11.below hb2 (by omega)
  have hb3 := hb1.trans (hb2.mono (by omega))
  have hsz2 := hb2.size
  have HI2 := Lib.hid (HI.out.below hb3 (Nat.le_refl _))
  clear hw2 hb1 hlen hs hblk c0 c1 hk01 hk11 HC1 HI hb2
  have c0 := hk02.cell 0
  simp at c0
  go_wp2_with fail
  refine (shape_copy S c t.s _ (by omega) HI2.out).mono ?_
  rintro e w3 ⟨g, rfl, hg, hgb, h3⟩
  have hk13 := hk12.below h3 hk12.lt
  have HF3 := HF.out.below h3 HF.out.lt
  have HG3 : Blk w3 g 3 (t.s.map (Value.int .i64)).toArray := hgb
  have c1 := hk13.cell 0
  have c2 := hk13.cell 1
  have f1 := hk13.frozen 0
  have f2 := hk13.frozen 1
  simp at c1 c2
  have hb4 := hb3.trans (h3.mono hb3.size)
  have HK := Lib.hid hk13
  have HF := Lib.hid HF3
  have HG := Lib.hid HG3
  have hgne : w.heap.size + 1 ≠ g := by have := hb3.size; omega
  clear hk02 hk12 hb3 c0 h3 hgb HI2 hk13 HF3 HG3
  go_wp2_with fail
  refine bodyPost_ret (v := .agg #[.slice (some ⟨g, 0, none⟩) t.s.length t.s.length, .slice (some ⟨w.heap.size + 1 + 1, 0, none⟩) t.c.length t.c.length]) (by simp [results, Tryz.results26, go_sem, c1, c2]) rfl ?_
  exact ⟨_, rfl, ⟨g, w.heap.size + 1 + 1, rfl, by omega, by omega, (HG.out.far (p := ⟨w.heap.size + 1, 0, none⟩) (Ne.symm hgne) _).far (p := ⟨w.heap.size + 1, 1, none⟩) (Ne.symm hgne) _, (HF.out.far (p := ⟨w.heap.size + 1, 0, none⟩) (by simp) _).far (p := ⟨w.heap.size + 1, 1, none⟩) (by simp) _⟩, (hb4.setCell (p := ⟨w.heap.size + 1, 0, none⟩) (Nat.le_succ _) _).setCell (p := ⟨w.heap.size + 1, 1, none⟩) (Nat.le_succ _) _⟩

def MakeP (s : List Int) (f : Int) (w : World) (e : Ending) (w' : World) : Prop :=
  (Sh.right s = false ∧ e = .returned (.tuple #[.agg #[.slice none 0 0, .slice none 0 0], .int .i64 20]) ∨ Sh.right s = true ∧ ∃ v, e = .returned (.tuple #[v, .int .i64 0]) ∧ TenN w.heap.size w' v ⟨s, List.replicate (Safe.prod s).toNat f⟩) ∧ Below w.heap.size w w'
theorem fill_all {cs : List Value} {n : Nat} {f : Int} (hl : cs.length = n) (h : ∀ j, j < n → cs[j]? = some (.int .i64 f)) : cs = (List.replicate n f).map (Value.int .i64) := by
  apply List.ext_getElem?
  intro j
  by_cases hj : j < n
  · rw [h j hj]; simp [hj]
  · rw [List.getElem?_eq_none (by omega), List.getElem?_eq_none (by simp; omega)]
set_option maxHeartbeats 2000000 in
theorem tensor_make (S : Option Addr) (c : Nat) (s : List Int) (f : Int) (w : World) (hl : s.length ≤ 1000000) (hI : Ints .i64 w S s) :
    Calls Tryz.prog 49 #[.slice S s.length c, .int .i64 f] w (MakeP s f w) := by
  obtain ⟨i0, hi, hz0, hz1, hz2⟩ := info_parts fix_info
  have hI0 := hI.alloc (.cells #[.slice none 0 0, .slice none 0 0] 26)
  have hk0 := Blk.new w 26 #[.slice none 0 0, .slice none 0 0]
  have hb0 : Below w.heap.size w (w.alloc (.cells #[.slice none 0 0, .slice none 0 0] 26)) := (Below.refl _ _).alloc (Nat.le_refl _) _
  have HI := Lib.hid hI
  have HI0 := Lib.hid hI0
  have Hk0 := Lib.hid hk0
  clear hI hI0 hk0
  go_enter Tryz.func49, Tryz.ntmps49
  go_wp2_with fail
  refine (shape_size S c s _ (by omega) HI0.out).mono ?_
  rintro e w1 ⟨rfl, h1⟩
  have hk1 := Hk0.out.below h1 (by simp)
  have hb1 := hb0.trans (h1.mono (by simp))
  have hsz1 := h1.size
  rw [World.size_alloc] at hsz1
  clear h1 hb0 HI0 Hk0
  cases hr : Sh.right s
  · have HS := Lib.hid (show Sh.size s = (0, 20) by simp [Sh.size, hr])
    rw [HS.out]
    have c0 := hk1.cell 0
    have c1 := hk1.cell 1
    have f0 := hk1.frozen 0
    have f1 := hk1.frozen 1
    simp at c0 c1
    have Hk1 := Lib.hid hk1
    have Hr := Lib.hid hr
    clear hk1 hr
    go_wp2_with fail
    refine bodyPost_ret (v := .tuple #[.agg #[.slice none 0 0, .slice none 0 0], .int .i64 20]) (by simp [results, Tryz.results49, go_sem, c0, c1]) rfl ?_
    exact ⟨.inl ⟨Hr.out, rfl⟩, (hb1.setCell (p := ⟨w.heap.size, 0, none⟩) (Nat.le_refl _) _).setCell (p := ⟨w.heap.size, 1, none⟩) (Nat.le_refl _) _⟩
  · have HS := Lib.hid (show Sh.size s = (Safe.prod s, 0) by simp [Sh.size, hr])
    obtain ⟨_, _, _, _, hp1, hp2⟩ := Sh.right_mul hr
    rw [HS.out]
    have HP := Lib.hid (rfl : (Safe.prod s).toNat = (Safe.prod s).toNat)
    obtain ⟨n, hn⟩ := Int.eq_ofNat_of_zero_le (show 0 ≤ Safe.prod s by omega)
    have HN := Lib.hid (show (Safe.prod s).toNat = n by omega)
    rw [hn] at hp1 hp2 ⊢
    have Hk1 := Lib.hid hk1
    have Hr := Lib.hid hr
    clear hk1 hr
    clear HP HS hn
    go_wp2_with (at_make; refine wpList_make_full _ rfl _ _ 24 rfl w.heap.size 37 i0 (.int .i64 0) 1 Tryz.underlying24 hi hz0 hz1 _ _ _ _ n rfl rfl (by first | rfl | simp) (by first | rfl | simp) ?b2 ?b3 ?b4 ?_)
    case b2 => rw [hz2]; omega
    case b3 => unfold maxLen; omega
    case b4 => omega
    intro w2 hown hgrow
    have hblk := own_cur hown
    have hlen := hown.1
    have hlt := lt_of_block hblk
    have hk2 := Hk1.out.grown hgrow (by simp)
    have hb2 : Below w.heap.size w w2 := hb1.grown hgrow (by omega) (by simp)
    generalize hg : w1.heap.size = g at *
    generalize (madeCells #[Value.int .i64 0] n).toList = cur at *
    have Hblk := Lib.hid (show Blk w2 g 37 cur.toArray from hblk)
    have Hlen := Lib.hid (show cur.length = n by omega)
    have Hk2 := Lib.hid hk2
    clear hk2
    clear hown hgrow hblk hlen hg hb1
    go_wp2_with fail
    go_loopw [9, 23] (fun _ i wr => ∃ (k : Nat) (cs : List Value), k ≤ n ∧ i = .int .i64 k ∧ cs.length = n ∧ Blk wr g 37 cs.toArray ∧ (∀ j, j < k → cs[j]? = some (.int .i64 f)) ∧ Blk wr w.heap.size 26 #[.slice none 0 0, .slice none 0 0] ∧ Below w.heap.size w wr) (fun _ i _ => n - (intOf i).toNat)
    case atStart => exact ⟨0, cur, Nat.zero_le _, rfl, Hlen.out, Hblk.out, fun j hj => by omega, Hk2.out, hb2⟩
    case round =>
      clear Hblk Hlen Hk2 hb2
      obtain ⟨k, cs, hk, rfl, hcl, hbk, hall, hkr, hbel⟩ := hrel
      by_cases hlt : k < n
      · obtain ⟨v0, c0⟩ : ∃ v, wr.cell? ⟨g, k, none⟩ = some v := ⟨cs[k], by rw [hbk.cell k]; simp [hcl, hlt]⟩
        have f0 := hbk.frozen k
        have Hcl := Lib.hid hcl
        have Hbk := Lib.hid hbk
        have Hall := Lib.hid hall
        have Hkr := Lib.hid hkr
        clear hcl hbk hall hkr
        go_wp2_with fail
        go_roundw
        case rel =>
          refine ⟨k + 1, cs.set k (.int .i64 f), by omega, by go_num, by rw [List.length_set]; exact Hcl.out, ?_, ?_, Hkr.out.far (p := ⟨g, k, none⟩) (by simp; omega) _, hbel.setCell (p := ⟨g, k, none⟩) (by simp; omega) _⟩
          · have := Hbk.out.set_ k (.int .i64 f); simpa using this
          · intro j hj
            rw [List.getElem?_set]
            by_cases e : k = j
            · subst e; simp [Hcl.out, hlt]
            · rw [if_neg e]; exact Hall.out j (by omega)
        case measure => simp [intOf]; omega
      · obtain rfl : k = n := by omega
        have HE := Lib.hid (fill_all hcl hall)
        rw [HE.out] at hbk
        have hsz := hbel.size
        have hglt := hbk.lt
        have Hbk := Lib.hid hbk
        have Hkr := Lib.hid hkr
        clear hbk hkr
        clear hall hcl
        go_wp2_with fail
        refine (shape_copy S c s _ (by omega) (HI.out.below hbel (Nat.le_refl _))).mono ?_
        rintro e w3 ⟨q, rfl, hq, hqb, h3⟩
        have hk3 := Hkr.out.below h3 Hkr.out.lt
        have c0 := hk3.cell 0
        have c1 := hk3.cell 1
        have f0 := hk3.frozen 0
        have f1 := hk3.frozen 1
        simp at c0 c1
        have HG := Lib.hid (show Blk w3 q 3 (s.map (Value.int .i64)).toArray from hqb)
        have HH := Lib.hid (Hbk.out.below h3 Hbk.out.lt)
        have hb4 := hbel.trans (h3.mono hbel.size)
        clear hk3 hqb h3 hbel
        go_wp2_with fail
        refine bodyPost_ret (v := .tuple #[.agg #[.slice (some ⟨q, 0, none⟩) s.length s.length, .slice (some ⟨g, 0, none⟩) k k], .int .i64 0]) (by simp [results, Tryz.results49, go_sem, c0, c1]) rfl ?_
        refine ⟨.inr ⟨Hr.out, _, rfl, q, g, by rw [HN.out]; simp, by omega, by omega, ?_, ?_⟩, (hb4.setCell (p := ⟨w.heap.size, 0, none⟩) (Nat.le_refl _) _).setCell (p := ⟨w.heap.size, 1, none⟩) (Nat.le_refl _) _⟩
        · exact (HG.out.far (p := ⟨w.heap.size, 0, none⟩) (by simp; omega) _).far (p := ⟨w.heap.size, 1, none⟩) (by simp; omega) _
        · rw [HN.out]; exact (HH.out.far (p := ⟨w.heap.size, 0, none⟩) (by simp; omega) _).far (p := ⟨w.heap.size, 1, none⟩) (by simp; omega) _
end Go.Proofs.YtkmhagjdafeebaaGreat
