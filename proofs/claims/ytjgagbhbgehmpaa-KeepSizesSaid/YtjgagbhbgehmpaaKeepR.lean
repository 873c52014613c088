/- Layer 27 (keep): get, short, count, cells: contracts. -/
import Derived.Test.YtjgagbhbgehmpaaFr
import Derived.Test.YtjgagbhbgehmpaaFileR
import Derived.Test.YtjgagbhbgehmpaaKeepP
namespace Go.Proofs.Ytjgagbhbgehmpaa
open Go.RowKit

namespace Kr
/-- A word as a signed number. -/
def sx (n : Int) : Int := IntKind.i64.wrap n
/-- n words, read one by one. -/
def nums : Nat → Option (List Int) → List Int × Option (List Int)
  | 0, st => ([], st)
  | n + 1, st => ((nums n st).1 ++ [sx (Fp.get 8 (nums n st).2).1], (Fp.get 8 (nums n st).2).2)
theorem nums_len (n : Nat) (st : Option (List Int)) : (nums n st).1.length = n := by
  induction n with
  | zero => rfl
  | succ n ih => simp [nums, ih]
end Kr

theorem RdO.fr {S : Nat → Prop} {r : Nat} {st : Option (List Int)} {w w' : World} (h : RdO r st w) (hf : Fr S w w') (hS : ∀ b, S b → r < b) : RdO r st w' := by
  have key : ∀ bs sh, Rd r bs sh w → Rd r bs sh w' := fun bs sh ⟨A, c, hb, hI, hc, hne⟩ =>
    ⟨A, c, hf.blk hb (fun h => by have := hS _ h; omega), hf.ints hI (fun a e h => by have := hS _ h; have := hne a e; omega), hc, hne⟩
  cases st with
  | none => obtain ⟨bs, h, h2⟩ := h; exact ⟨bs, key _ _ h, h2⟩
  | some bs => exact ⟨key _ _ h.1, h.2⟩

/-- A slice of pointers to places in a row of block g. -/
def Ptrs (w : World) (A : Option Addr) (g o n : Nat) : Prop :=
  ∀ i, i < n → ∃ b off, A = some ⟨b, off, none⟩ ∧ b < w.heap.size ∧ w.cell? ⟨b, off + i, none⟩ = some (.pointer (some ⟨g, o + i, none⟩))

def GetsP (r g o n : Nat) (t : TypeId) (cs : List Value) (st : Option (List Int)) (w : World) (e : Ending) (w' : World) : Prop :=
  e = .returned (.tuple #[]) ∧ RdO r (Kr.nums n st).2 w' ∧ Blk w' g t (splice cs o ((Kr.nums n st).1.map (Value.int .i64))).toArray ∧ Fr (fun b => b = r ∨ b = g) w w'

set_option maxHeartbeats 1000000 in
theorem keep_get_fix (r g o n : Nat) (t : TypeId) (cs : List Value) (A : Option Addr) (c : Nat) (st : Option (List Int)) (w : World) (hR : RdO r st w) (hG : Blk w g t cs.toArray) (hP : Ptrs w A g o n) (hrg : r < g) (hon : o + n ≤ cs.length) (hn : n ≤ 100) (hA : ∀ a, A = some a → a.block ≠ r ∧ a.block ≠ g) :
    Calls Try.prog 46 #[.func (.func 27) #[.pointer (some ⟨r, 0, none⟩)] #[], .slice A n c] w (GetsP r g o n t cs st w) := by
  have HR := Lib.hid hR
  have HG := Lib.hid hG
  have HP := Lib.hid hP
  have HA := Lib.hid hA
  clear hR hG hP hA
  go_enter Try.func46, Try.ntmps46
  go_wp2_with fail
  go_loopw [5, 8] (fun _ i wr => ∃ k : Nat, k ≤ n ∧ i = .int .i64 k ∧ RdO r (Kr.nums k st).2 wr ∧ Blk wr g t (splice cs o ((Kr.nums k st).1.map (Value.int .i64))).toArray ∧ Fr (fun b => b = r ∨ b = g) w wr) (fun _ i _ => n - (intOf i).toNat)
  case atStart => exact ⟨0, Nat.zero_le _, rfl, HR.out, by rw [Kr.nums, List.map_nil, splice_zero]; exact HG.out, Fr.refl _ _⟩
  case round =>
    clear HR HG
    obtain ⟨k, hk, rfl, hR, hG, hF⟩ := hrel
    by_cases hlt : k < n
    · obtain ⟨b, off, rfl, hb, hc⟩ := HP.out k hlt
      have hA1 := HA.out _ rfl
      have hc' := hF.cell hc (by simp; exact hA1)
      have hnl := Kr.nums_len k st
      have hsl := length_splice cs o ((Kr.nums k st).1.map (Value.int .i64)) (by simp; omega)
      have HR := Lib.hid hR
      have HG := Lib.hid hG
      have Hnl := Lib.hid hnl
      have Hsl := Lib.hid hsl
      clear hR hG hnl hsl
      go_wp2_with fail
      refine (reader_getO r 8 (Kr.nums k st).2 _ HR.out (by omega) (by omega)).mono ?_
      rintro e w1 ⟨rfl, hR1, hg1⟩
      have hF1 := hF.grown hg1 (fun j e _ => by injection e with e; exact .inl e.symm)
      have hG1 := HG.out.grown hg1 (by intro e; injection e with e; omega)
      have hcell := hG1.cell (o + k)
      have hfro := hG1.frozen (o + k)
      obtain ⟨v0, hv0⟩ : ∃ v, w1.cell? ⟨g, o + k, none⟩ = some v := ⟨(splice cs o ((Kr.nums k st).1.map (Value.int .i64)))[o + k]'(by have := Hsl.out; omega), by rw [hcell]; simp⟩
      have HB := Lib.hid (show Blk (w1.setCell ⟨g, o + k, none⟩ (.int .i64 (Kr.sx (Fp.get 8 (Kr.nums k st).2).1))) g t (splice cs o ((Kr.nums (k + 1) st).1.map (Value.int .i64))).toArray by
        have h := hG1.set_ (o + k) (.int .i64 (Kr.sx (Fp.get 8 (Kr.nums k st).2).1))
        have e := splice_set cs o ((Kr.nums k st).1.map (Value.int .i64)) (.int .i64 (Kr.sx (Fp.get 8 (Kr.nums k st).2).1)) (by simp [Hnl.out]; omega)
        rw [List.length_map, Hnl.out] at e
        rw [Kr.nums, List.map_append, List.map_cons, List.map_nil, ← e]
        simpa using h)
      have HF2 := Lib.hid (hF1.setCell (p := ⟨g, o + k, none⟩) (fun _ => .inr rfl) (.int .i64 (Kr.sx (Fp.get 8 (Kr.nums k st).2).1)))
      have HR2 := Lib.hid (show RdO r (Kr.nums (k + 1) st).2 (w1.setCell ⟨g, o + k, none⟩ (.int .i64 (Kr.sx (Fp.get 8 (Kr.nums k st).2).1))) from hR1.fr (S := fun b => b = g) ((Fr.refl (fun b => b = g) _).setCell (p := ⟨g, o + k, none⟩) (fun _ => rfl) _) (fun b e => by omega))
      have hsx : IntKind.i64.wrap (Fp.get 8 (Kr.nums k st).2).1 = Kr.sx (Fp.get 8 (Kr.nums k st).2).1 := rfl
      generalize (Fp.get 8 (Kr.nums k st).2).1 = val at *
      clear hR1 hg1 hG1 hF1 hcell
      go_wp2_with fail
      go_roundw
      case rel => exact ⟨k + 1, by omega, by go_num, HR2.out, HB.out, HF2.out⟩
      case measure => simp [intOf]; omega
    · obtain rfl : k = n := by omega
      have HR := Lib.hid hR
      have HG := Lib.hid hG
      clear hR hG
      go_wp2_with fail
      go_end0
      exact ⟨rfl, HR.out, HG.out, hF⟩
set_option maxHeartbeats 1000000 in
theorem keep_get_int (r g o n : Nat) (t : TypeId) (cs : List Value) (A : Option Addr) (c : Nat) (st : Option (List Int)) (w : World) (hR : RdO r st w) (hG : Blk w g t cs.toArray) (hP : Ptrs w A g o n) (hrg : r < g) (hon : o + n ≤ cs.length) (hn : n ≤ 100) (hA : ∀ a, A = some a → a.block ≠ r ∧ a.block ≠ g) :
    Calls Try.prog 45 #[.func (.func 27) #[.pointer (some ⟨r, 0, none⟩)] #[], .slice A n c] w (GetsP r g o n t cs st w) := by
  have HR := Lib.hid hR
  have HG := Lib.hid hG
  have HP := Lib.hid hP
  have HA := Lib.hid hA
  clear hR hG hP hA
  go_enter Try.func45, Try.ntmps45
  go_wp2_with fail
  go_loopw [5, 8] (fun _ i wr => ∃ k : Nat, k ≤ n ∧ i = .int .i64 k ∧ RdO r (Kr.nums k st).2 wr ∧ Blk wr g t (splice cs o ((Kr.nums k st).1.map (Value.int .i64))).toArray ∧ Fr (fun b => b = r ∨ b = g) w wr) (fun _ i _ => n - (intOf i).toNat)
  case atStart => exact ⟨0, Nat.zero_le _, rfl, HR.out, by rw [Kr.nums, List.map_nil, splice_zero]; exact HG.out, Fr.refl _ _⟩
  case round =>
    clear HR HG
    obtain ⟨k, hk, rfl, hR, hG, hF⟩ := hrel
    by_cases hlt : k < n
    · obtain ⟨b, off, rfl, hb, hc⟩ := HP.out k hlt
      have hA1 := HA.out _ rfl
      have hc' := hF.cell hc (by simp; exact hA1)
      have hnl := Kr.nums_len k st
      have hsl := length_splice cs o ((Kr.nums k st).1.map (Value.int .i64)) (by simp; omega)
      have HR := Lib.hid hR
      have HG := Lib.hid hG
      have Hnl := Lib.hid hnl
      have Hsl := Lib.hid hsl
      clear hR hG hnl hsl
      go_wp2_with fail
      refine (reader_getO r 8 (Kr.nums k st).2 _ HR.out (by omega) (by omega)).mono ?_
      rintro e w1 ⟨rfl, hR1, hg1⟩
      have hF1 := hF.grown hg1 (fun j e _ => by injection e with e; exact .inl e.symm)
      have hG1 := HG.out.grown hg1 (by intro e; injection e with e; omega)
      have hcell := hG1.cell (o + k)
      have hfro := hG1.frozen (o + k)
      obtain ⟨v0, hv0⟩ : ∃ v, w1.cell? ⟨g, o + k, none⟩ = some v := ⟨(splice cs o ((Kr.nums k st).1.map (Value.int .i64)))[o + k]'(by have := Hsl.out; omega), by rw [hcell]; simp⟩
      have HB := Lib.hid (show Blk (w1.setCell ⟨g, o + k, none⟩ (.int .i64 (Kr.sx (Fp.get 8 (Kr.nums k st).2).1))) g t (splice cs o ((Kr.nums (k + 1) st).1.map (Value.int .i64))).toArray by
        have h := hG1.set_ (o + k) (.int .i64 (Kr.sx (Fp.get 8 (Kr.nums k st).2).1))
        have e := splice_set cs o ((Kr.nums k st).1.map (Value.int .i64)) (.int .i64 (Kr.sx (Fp.get 8 (Kr.nums k st).2).1)) (by simp [Hnl.out]; omega)
        rw [List.length_map, Hnl.out] at e
        rw [Kr.nums, List.map_append, List.map_cons, List.map_nil, ← e]
        simpa using h)
      have HF2 := Lib.hid (hF1.setCell (p := ⟨g, o + k, none⟩) (fun _ => .inr rfl) (.int .i64 (Kr.sx (Fp.get 8 (Kr.nums k st).2).1)))
      have HR2 := Lib.hid (show RdO r (Kr.nums (k + 1) st).2 (w1.setCell ⟨g, o + k, none⟩ (.int .i64 (Kr.sx (Fp.get 8 (Kr.nums k st).2).1))) from hR1.fr (S := fun b => b = g) ((Fr.refl (fun b => b = g) _).setCell (p := ⟨g, o + k, none⟩) (fun _ => rfl) _) (fun b e => by omega))
      have hsx : IntKind.i64.wrap (Fp.get 8 (Kr.nums k st).2).1 = Kr.sx (Fp.get 8 (Kr.nums k st).2).1 := rfl
      generalize (Fp.get 8 (Kr.nums k st).2).1 = val at *
      clear hR1 hg1 hG1 hF1 hcell
      go_wp2_with fail
      go_roundw
      case rel => exact ⟨k + 1, by omega, by go_num, HR2.out, HB.out, HF2.out⟩
      case measure => simp [intOf]; omega
    · obtain rfl : k = n := by omega
      have HR := Lib.hid hR
      have HG := Lib.hid hG
      clear hR hG
      go_wp2_with fail
      go_end0
      exact ⟨rfl, HR.out, HG.out, hF⟩

theorem keep_short (r : Nat) (st : Option (List Int)) (w : World) (h : RdO r st w) :
    Calls Try.prog 43 #[.pointer (some ⟨r, 0, none⟩)] w fun e w' => e = .returned (.bool st.isNone) ∧ w = w' := by
  have HE := Lib.hid (show (Fp.endO st == 16) = st.isNone by cases st with | none => rfl | some bs => simp [Fp.endO]; split <;> simp)
  have H := Lib.hid h
  clear h
  go_enter Try.func43, Try.ntmps43
  go_wp2_with fail
  refine (reader_endO r st _ H.out).mono ?_
  rintro e w1 ⟨rfl, rfl⟩
  go_wp2_with fail
  go_ret
  exact ⟨by rw [← HE.out]; rfl, rfl⟩

namespace Kr
/-- A count of things, at most most. -/
def count (most : Int) (st : Option (List Int)) : Int × Int × Option (List Int) :=
  if (Fp.get 2 st).2.isNone then (0, 16, none) else if most < (Fp.get 2 st).1 then (0, 12, (Fp.get 2 st).2) else ((Fp.get 2 st).1, 0, (Fp.get 2 st).2)
theorem get_two {st : Option (List Int)} (h : Fp.okB st) : 0 ≤ (Fp.get 2 st).1 ∧ (Fp.get 2 st).1 ≤ 65535 := by
  cases st with
  | none => simp [Fp.get]
  | some bs =>
    by_cases hl : bs.length < 2
    · rw [Fp.get_short hl]; simp
    · rw [Fp.get_ok hl]; exact Fp.two_bytes h hl
end Kr

def CountP (r : Nat) (most : Int) (st : Option (List Int)) (w : World) (e : Ending) (w' : World) : Prop :=
  e = .returned (.tuple #[.int .i64 (Kr.count most st).1, .int .i64 (Kr.count most st).2.1]) ∧ RdO r (Kr.count most st).2.2 w' ∧ Fr (fun b => b = r) w w'
set_option maxHeartbeats 1000000 in
theorem keep_count (r : Nat) (most : Int) (st : Option (List Int)) (w : World) (h : RdO r st w) :
    Calls Try.prog 41 #[.pointer (some ⟨r, 0, none⟩), .int .i64 most] w (CountP r most st w) := by
  have ⟨hx0, hx1⟩ := Kr.get_two h.ok
  have H := Lib.hid h
  clear h
  have HC := Lib.hid (show Kr.count most st = if (Fp.get 2 st).2.isNone then (0, 16, none) else if most < (Fp.get 2 st).1 then (0, 12, (Fp.get 2 st).2) else ((Fp.get 2 st).1, 0, (Fp.get 2 st).2) from rfl)
  go_enter Try.func41, Try.ntmps41
  go_wp2_with fail
  refine (reader_getO r 2 st _ H.out (by omega) (by omega)).mono ?_
  rintro e w1 ⟨rfl, hR1, hg1⟩
  have hF := Fr.of_grown (S := fun b => b = r) hg1 (fun k e _ => by injection e with e; exact e.symm)
  clear hg1
  have HR1 := Lib.hid hR1
  clear hR1
  generalize (Fp.get 2 st).1 = x at *
  generalize (Fp.get 2 st).2 = s2 at *
  go_wp2_with fail
  refine (keep_short r s2 _ HR1.out).mono ?_
  rintro e w2 ⟨rfl, rfl⟩
  cases s2 with
  | none =>
    go_wp2_with fail
    go_ret2
    exact ⟨by rw [HC.out]; rfl, by rw [HC.out]; exact HR1.out, hF⟩
  | some bs =>
    by_cases hm : most < x
    · have HD := Lib.hid (show Kr.count most st = (0, 12, some bs) by rw [HC.out]; simp [hm])
      go_wp2_with fail
      go_ret2
      exact ⟨by rw [HD.out]; rfl, by rw [HD.out]; exact HR1.out, hF⟩
    · have HD := Lib.hid (show Kr.count most st = (x, 0, some bs) by rw [HC.out]; simp [hm])
      go_wp2_with fail
      go_ret2
      exact ⟨by rw [HD.out]; rfl, by rw [HD.out]; exact HR1.out, hF⟩

namespace Kr
/-- The cells of a tensor of a shape: the error, the cells, what is left. -/
def cells (s : List Int) (st : Option (List Int)) : Int × List Int × Option (List Int) :=
  if Sh.right s = false then (20, [], st) else if (nums (Safe.prod s).toNat st).2.isNone then (16, [], none) else (0, (nums (Safe.prod s).toNat st).1, (nums (Safe.prod s).toNat st).2)
theorem cells_bad {s : List Int} {st : Option (List Int)} (h : Sh.right s = false) : cells s st = (20, [], st) := by simp [cells, h]
theorem cells_short {s : List Int} {st : Option (List Int)} (h : Sh.right s = true) (hn : (nums (Safe.prod s).toNat st).2 = none) : cells s st = (16, [], none) := by simp [cells, h, hn]
theorem cells_ok {s : List Int} {st : Option (List Int)} {bs : List Int} (h : Sh.right s = true) (hn : (nums (Safe.prod s).toNat st).2 = some bs) : cells s st = (0, (nums (Safe.prod s).toNat st).1, some bs) := by simp [cells, h, hn]
end Kr

def CellsP (r : Nat) (s : List Int) (st : Option (List Int)) (w : World) (e : Ending) (w' : World) : Prop :=
  ((Kr.cells s st).1 ≠ 0 ∧ e = .returned (.tuple #[.agg #[.slice none 0 0, .slice none 0 0], .int .i64 (Kr.cells s st).1]) ∨ (Kr.cells s st).1 = 0 ∧ ∃ v, e = .returned (.tuple #[v, .int .i64 0]) ∧ TenN w.heap.size w' v ⟨s, (Kr.cells s st).2.1⟩) ∧ RdO r (Kr.cells s st).2.2 w' ∧ Fr (fun b => b = r) w w'
set_option maxHeartbeats 2000000 in
set_option maxRecDepth 100000 in
theorem keep_cells (r : Nat) (S : Option Addr) (c : Nat) (s : List Int) (st : Option (List Int)) (w : World) (hR : RdO r st w) (hl : s.length ≤ 1000000) (hI : Ints .i64 w S s) :
    Calls Try.prog 44 #[.pointer (some ⟨r, 0, none⟩), .slice S s.length c] w (CellsP r s st w) := by
  have hmk : ∀ (w : World), (Instr.makeFunc (.func 27) #[.pointer (some ⟨r, 0, none⟩)] #[]).run Try.prog w = .ok (.func (.func 27) #[.pointer (some ⟨r, 0, none⟩)] #[]) w := fun _ => rfl
  have hk0 := Blk.new w 48 #[.slice none 0 0, .slice none 0 0]
  have hI0 := hI.alloc (.cells #[.slice none 0 0, .slice none 0 0] 48)
  have hR0 := hR.alloc (.cells #[.slice none 0 0, .slice none 0 0] 48)
  have hF0 := (Fr.refl (fun b => b = r) w).alloc (.cells #[.slice none 0 0, .slice none 0 0] 48)
  have hrl := hR.lt
  have Hk0 := Lib.hid hk0
  have HI0 := Lib.hid hI0
  have HR0 := Lib.hid hR0
  clear hk0 hI0 hR0
  clear hI hR
  go_enter Try.func44, Try.ntmps44
  go_wp2_with fail
  refine (tensor_make S c s 0 _ hl HI0.out).mono ?_
  rintro e w1 ⟨hcase, h1⟩
  have hk1 := Hk0.out.below h1 Hk0.out.lt
  have hF1 := hF0.then_below h1 (by simp)
  have hR1 := HR0.out.fr (S := fun _ => False) (Fr.of_below h1 (fun b hb _ => hb)) (fun b h => h.elim)
  have hsz1 := h1.size
  rw [World.size_alloc] at hsz1
  clear h1 hF0 Hk0 HR0 HI0
  rcases hcase with ⟨hr, rfl⟩ | ⟨hr, v, rfl, g, h, rfl, hgb, hhb, hG, hH⟩
  · have HC := Lib.hid (Kr.cells_bad (st := st) hr)
    have hk2 := hk1.alloc (.cells #[.slice none 0 0, .slice none 0 0] 48)
    have c0 := hk2.cell 0
    have c1 := hk2.cell 1
    have f0 := hk2.frozen 0
    have f1 := hk2.frozen 1
    simp at c0 c1
    have hF2 := ((hF1.alloc (.cells #[.slice none 0 0, .slice none 0 0] 48)).setCell (p := ⟨w.heap.size, 0, none⟩) (fun h => absurd h (Nat.lt_irrefl _)) (.slice none 0 0)).setCell (p := ⟨w.heap.size, 1, none⟩) (fun h => absurd h (Nat.lt_irrefl _)) (.slice none 0 0)
    have hR2 := (hR1.alloc (.cells #[.slice none 0 0, .slice none 0 0] 48)).fr (S := fun b => b = w.heap.size) (((Fr.refl (fun b => b = w.heap.size) _).setCell (p := ⟨w.heap.size, 0, none⟩) (fun _ => rfl) (.slice none 0 0)).setCell (p := ⟨w.heap.size, 1, none⟩) (fun _ => rfl) (.slice none 0 0)) (fun b e => by omega)
    have Hr := Lib.hid hr
    have HF2 := Lib.hid hF2
    have HR2 := Lib.hid hR2
    clear hr hF2 hR2
    clear hk1 hk2 hF1 hR1
    go_wp2_with fail
    refine bodyPost_ret (v := .tuple #[.agg #[.slice none 0 0, .slice none 0 0], .int .i64 20]) (by simp [results, Try.results44, go_sem, c0, c1]) rfl ?_
    refine ⟨.inl ⟨by rw [HC.out]; simp, by rw [HC.out]⟩, by rw [HC.out]; exact HR2.out, HF2.out⟩
  · obtain ⟨_, _, _, _, hp1, hp2⟩ := Sh.right_mul hr
    have hbad := Kr.cells_short (s := s) (st := st) hr
    have hgood := fun bs => Kr.cells_ok (s := s) (st := st) (bs := bs) hr
    have hn1 : (Safe.prod s).toNat ≤ 65536 := by omega
    simp only [World.size_alloc, List.length_replicate] at hgb hhb hG hH ⊢
    have Hbad := Lib.hid hbad
    have Hgood := Lib.hid hgood
    clear hbad hgood
    generalize (Safe.prod s).toNat = n at *
    clear hp1 hp2 hr
    have hk2 := hk1.alloc (.cells #[.slice (some ⟨g, 0, none⟩) s.length s.length, .slice (some ⟨h, 0, none⟩) n n] 48)
    have hq2 := Blk.new w1 48 #[.slice (some ⟨g, 0, none⟩) s.length s.length, .slice (some ⟨h, 0, none⟩) n n]
    have hG2 := hG.alloc (.cells #[.slice (some ⟨g, 0, none⟩) s.length s.length, .slice (some ⟨h, 0, none⟩) n n] 48)
    have hH2 := hH.alloc (.cells #[.slice (some ⟨g, 0, none⟩) s.length s.length, .slice (some ⟨h, 0, none⟩) n n] 48)
    have hR2 := hR1.alloc (.cells #[.slice (some ⟨g, 0, none⟩) s.length s.length, .slice (some ⟨h, 0, none⟩) n n] 48)
    have hF2 := hF1.alloc (.cells #[.slice (some ⟨g, 0, none⟩) s.length s.length, .slice (some ⟨h, 0, none⟩) n n] 48)
    have hgl := hG.lt
    have hhl := hH.lt
    have hgh : g ≠ h := fun e => by subst e; unfold Blk at hG hH; rw [hG] at hH; injection hH with hH; injection hH with _ hH; cases hH
    have HE := Lib.hid (show splice ((List.replicate n (0 : Int)).map (Value.int .i64)) 0 ((Kr.nums 0 st).1.map (Value.int .i64)) = (List.replicate n (0 : Int)).map (Value.int .i64) from splice_zero _ _)
    have Hk2 := Lib.hid hk2
    have Hq2 := Lib.hid hq2
    have HG2 := Lib.hid hG2
    have HH2 := Lib.hid hH2
    have HR2 := Lib.hid hR2
    have HF2 := Lib.hid hF2
    clear hk2 hq2 hG2 hH2 hR2 hF2
    clear hk1 hF1 hR1 hG hH
    generalize hzz : ((List.replicate n (0 : Int)).map (Value.int .i64)) = zz at *
    have hzl : zz.length = n := by rw [← hzz]; simp
    have Hzl := Lib.hid hzl
    clear hzl
    clear hzz
    go_wp2_with fail
    generalize w1.alloc (.cells #[.slice (some ⟨g, 0, none⟩) s.length s.length, .slice (some ⟨h, 0, none⟩) n n] 48) = w2 at *
    generalize w1.heap.size = q at *
    go_loopw [8, 21] (fun _ i wr => ∃ k : Nat, k ≤ n ∧ i = .int .i64 k ∧ RdO r (Kr.nums k st).2 wr ∧ Blk wr h 52 (splice zz 0 ((Kr.nums k st).1.map (Value.int .i64))).toArray ∧ Blk wr q 48 #[.slice (some ⟨g, 0, none⟩) s.length s.length, .slice (some ⟨h, 0, none⟩) n n] ∧ Blk wr g 3 (s.map (Value.int .i64)).toArray ∧ Blk wr w.heap.size 48 #[.slice none 0 0, .slice none 0 0] ∧ Fr (fun b => b = r) w wr) (fun _ i _ => n - (intOf i).toNat)
    case atStart => exact ⟨0, Nat.zero_le _, rfl, HR2.out, by rw [HE.out]; exact HH2.out, Hq2.out, HG2.out, Hk2.out, HF2.out⟩
    case round =>
      clear HR2 HE HH2 Hq2 HG2 Hk2 HF2
      obtain ⟨k, hk, rfl, hR, hH, hq, hG, hk0, hF⟩ := hrel
      by_cases hlt : k < n
      · have d1 := hq.cell 1
        simp at d1
        have hql := hq.lt
        have hRa := hR.alloc (.cells #[.pointer (some ⟨h, k, none⟩)] 102)
        have hHa := hH.alloc (.cells #[.pointer (some ⟨h, k, none⟩)] 102)
        have hqa := hq.alloc (.cells #[.pointer (some ⟨h, k, none⟩)] 102)
        have hGa := hG.alloc (.cells #[.pointer (some ⟨h, k, none⟩)] 102)
        have hka := hk0.alloc (.cells #[.pointer (some ⟨h, k, none⟩)] 102)
        have hFa := hF.alloc (.cells #[.pointer (some ⟨h, k, none⟩)] 102)
        have hpa : Ptrs (wr.alloc (.cells #[.pointer (some ⟨h, k, none⟩)] 102)) (some ⟨wr.heap.size, 0, none⟩) h k 1 := fun i hi => ⟨_, _, rfl, by simp, by obtain rfl : i = 0 := (by omega); simp⟩
        have hhl2 := hH.lt
        have hnl := Kr.nums_len k st
        have hsl := length_splice zz 0 ((Kr.nums k st).1.map (Value.int .i64)) (by have := Hzl.out; simp; omega)
        have hrl2 := hR.lt
        have HRa := Lib.hid hRa
        have HHa := Lib.hid hHa
        have Hqa := Lib.hid hqa
        have HGa := Lib.hid hGa
        have Hka := Lib.hid hka
        have HFa := Lib.hid hFa
        have Hpa := Lib.hid hpa
        have Hnl := Lib.hid hnl
        have Hsl := Lib.hid hsl
        clear hRa hHa hqa hGa hka hFa hpa hnl hsl
        clear hR hH hq hG hk0 hF
        go_wp2_with fail
        refine (keep_get_fix r h k 1 52 _ (some ⟨wr.heap.size, 0, none⟩) 1 (Kr.nums k st).2 _ HRa.out HHa.out Hpa.out (by omega) (by have h1 := Hsl.out; have h2 := Hzl.out; omega) (by omega) (by intro a e; injection e with e; subst e; simp; omega)).mono ?_
        rintro e w3 ⟨rfl, hR3, hH3, hF3⟩
        have hq3 := hF3.blk Hqa.out (by simp; omega)
        have hG3 := hF3.blk HGa.out (by simp; omega)
        have hk3 := hF3.blk Hka.out (by simp; omega)
        have hF4 := HFa.out.trans' hF3 (fun b hb e => by rcases e with e | e; exact e; omega)
        have HH4 := Lib.hid (show Blk w3 h 52 (splice zz 0 ((Kr.nums (k + 1) st).1.map (Value.int .i64))).toArray by
          have e1 := splice_set zz 0 ((Kr.nums k st).1.map (Value.int .i64)) (.int .i64 (Kr.sx (Fp.get 8 (Kr.nums k st).2).1)) (by simp [Hnl.out, Hzl.out]; omega)
          rw [List.length_map, Hnl.out, Nat.zero_add] at e1
          rw [Kr.nums, List.map_append, List.map_cons, List.map_nil, ← e1]
          have e2 : splice (splice zz 0 ((Kr.nums k st).1.map (Value.int .i64))) k ((Kr.nums 1 (Kr.nums k st).2).1.map (Value.int .i64)) = (splice zz 0 ((Kr.nums k st).1.map (Value.int .i64))).set k (.int .i64 (Kr.sx (Fp.get 8 (Kr.nums k st).2).1)) := by
            have := splice_set (splice zz 0 ((Kr.nums k st).1.map (Value.int .i64))) k [] (.int .i64 (Kr.sx (Fp.get 8 (Kr.nums k st).2).1)) (by have h1 := Hsl.out; have h2 := Hzl.out; simp; omega)
            rw [splice_zero, List.length_nil, Nat.add_zero, List.nil_append] at this
            rw [this]; rfl
          rw [← e2]
          exact hH3)
        have HR4 := Lib.hid (show RdO r (Kr.nums (k + 1) st).2 w3 from hR3)
        clear hR3 hH3 hF3 HRa HHa Hqa HGa Hka HFa Hpa d1
        have Hq3 := Lib.hid hq3
        have HG3 := Lib.hid hG3
        have Hk3 := Lib.hid hk3
        have HF4 := Lib.hid hF4
        clear hq3 hG3 hk3 hF4
        go_wp2_with fail
        go_roundw
        case rel => exact ⟨k + 1, by omega, by go_num, HR4.out, HH4.out, Hq3.out, HG3.out, Hk3.out, HF4.out⟩
        case measure => simp [intOf]; omega
      · obtain rfl : k = n := by omega
        have c0 := hk0.cell 0
        have c1 := hk0.cell 1
        have f0 := hk0.frozen 0
        have f1 := hk0.frozen 1
        have d0 := hq.cell 0
        have d1 := hq.cell 1
        simp at c0 c1 d0 d1
        have hgl := hG.lt
        have hhl := hH.lt
        have hql := hq.lt
        have hnl := Kr.nums_len k st
        rw [splice_full _ _ (by rw [List.length_map, hnl, Hzl.out])] at hH
        have HR := Lib.hid hR
        have HH := Lib.hid hH
        have HG := Lib.hid hG
        have HF := Lib.hid hF
        have Hnl := Lib.hid hnl
        clear hR hH hG hF hnl
        clear hq hk0
        go_wp2_with fail
        refine (keep_short r (Kr.nums k st).2 _ HR.out).mono ?_
        rintro e w3 ⟨rfl, rfl⟩
        have hset : ∀ a b, RdO r (Kr.nums k st).2 ((wr.setCell ⟨w.heap.size, 0, none⟩ a).setCell ⟨w.heap.size, 1, none⟩ b) := fun a b => HR.out.fr (S := fun b => b = w.heap.size) (((Fr.refl (fun b => b = w.heap.size) _).setCell (p := ⟨w.heap.size, 0, none⟩) (fun _ => rfl) _).setCell (p := ⟨w.heap.size, 1, none⟩) (fun _ => rfl) _) (fun b e => by omega)
        have hsetF : ∀ a b, Fr (fun b => b = r) w ((wr.setCell ⟨w.heap.size, 0, none⟩ a).setCell ⟨w.heap.size, 1, none⟩ b) := fun a b => (HF.out.setCell (p := ⟨w.heap.size, 0, none⟩) (fun h => absurd h (Nat.lt_irrefl _)) _).setCell (p := ⟨w.heap.size, 1, none⟩) (fun h => absurd h (Nat.lt_irrefl _)) _
        have Hset := Lib.hid hset
        have HsetF := Lib.hid hsetF
        clear hset hsetF
        cases hs : (Kr.nums k st).2 with
        | none =>
          have HC := Lib.hid (Hbad.out hs)
          have h5 := Hset.out
          rw [hs] at h5
          have H5 := Lib.hid h5
          clear h5
          clear hs Hset
          go_wp2_with fail
          refine bodyPost_ret (v := .tuple #[.agg #[.slice none 0 0, .slice none 0 0], .int .i64 16]) (by simp [results, Try.results44, go_sem, c0, c1]) rfl ?_
          exact ⟨.inl ⟨by rw [HC.out]; simp, by rw [HC.out]⟩, by rw [HC.out]; exact H5.out _ _, HsetF.out _ _⟩
        | some bs =>
          have HC := Lib.hid (Hgood.out bs hs)
          have h5 := Hset.out
          rw [hs] at h5
          have H5 := Lib.hid h5
          clear h5
          clear hs Hset
          go_wp2_with fail
          refine bodyPost_ret (v := .tuple #[.agg #[.slice (some ⟨g, 0, none⟩) s.length s.length, .slice (some ⟨h, 0, none⟩) k k], .int .i64 0]) (by simp [results, Try.results44, go_sem, c0, c1, d0, d1]) rfl ?_
          refine ⟨.inr ⟨by rw [HC.out], _, rfl, g, h, ?_, by omega, by omega, ?_, ?_⟩, by rw [HC.out]; exact H5.out _ _, HsetF.out _ _⟩
          · rw [HC.out]; simp only [Hnl.out]
          · exact (HG.out.far (p := ⟨w.heap.size, 0, none⟩) (by simp; omega) _).far (p := ⟨w.heap.size, 1, none⟩) (by simp; omega) _
          · rw [HC.out]; exact (HH.out.far (p := ⟨w.heap.size, 0, none⟩) (by simp; omega) _).far (p := ⟨w.heap.size, 1, none⟩) (by simp; omega) _
end Go.Proofs.Ytjgagbhbgehmpaa
