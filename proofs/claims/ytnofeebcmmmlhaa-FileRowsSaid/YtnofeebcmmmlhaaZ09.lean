/- Lemmas for the statements of this seat: contracts of functions and the plain laws. -/
import Derived.BigQuiet
import Derived.Test.YtnofeebcmmmlhaaRows
import Derived.Test.YtnofeebcmmmlhaaZ08
set_option linter.unusedVariables false
/- Layer 12's statements: a text and its sum. -/
namespace Go.Proofs.Ytnofeebcmmmlhaa
open Go.RowKit
theorem seal_byte {bs : List Int} (h : ∀ x ∈ bs, 0 ≤ x ∧ x ≤ 255) : ∀ x ∈ bs ++ Fp.big (Fp.sum bs) 4, 0 ≤ x ∧ x ≤ 255 := fun x hx => by
  rcases List.mem_append.1 hx with h' | h'
  · exact h x h'
  · exact Fp.big_byte _ _ x h'
theorem seal_len (bs : List Int) : (bs ++ Fp.big (Fp.sum bs) 4).length = bs.length + 4 := by rw [List.length_append, Fp.big_length]
theorem text_sum {X : List Int} (hX : ∀ x ∈ X, 0 ≤ x ∧ x ≤ 255) (hl : X.length ≤ 300000000) (W : World) : Calls Try.prog 10 #[.string (strOfNums X)] W fun e w' => e = .returned (.int .u64 (Fp.sum X)) ∧ W = w' := by
  have := ref_sum (strOfNums X) W (by rw [strOfNums_size]; omega)
  rwa [numsOf_str hX] at this
theorem text_big (X : List Int) (W : World) : Calls Try.prog 9 #[.int .u64 (Fp.sum X), .int .i64 4] W fun e w' => e = .returned (.string (strOfNums (Fp.big (Fp.sum X) 4))) ∧ Below W.heap.size W w' :=
  ref_big _ 4 W (by have := Fp.sum_range X; omega) (by have := Fp.sum_range X; omega) (by omega)
end Go.Proofs.Ytnofeebcmmmlhaa
/- The calls of layer 12's law FileRows: in memory, and come in as an argument, opened. -/
namespace Go.Proofs.Ytnofeebcmmmlhaa
open Go.ChangeShapes Go.WideShapes Go.Deep Go.RowKit
structure FOp where
  k : Int
  s : Int
  n : Int
  l : List Int
def FOp.ok (o : FOp) : Prop := (-9223372036854775808 ≤ o.k ∧ o.k ≤ 9223372036854775807) ∧ (-9223372036854775808 ≤ o.s ∧ o.s ≤ 9223372036854775807) ∧ (0 ≤ o.n ∧ o.n < 18446744073709551616) ∧ o.l.length ≤ 9223372036854775807
def FOps (w : World) (A : Option Addr) (os : List FOp) : Prop := ∀ j (hj : j < os.length), ∃ b off S c, A = some ⟨b, off, none⟩ ∧ b < w.heap.size ∧ w.cell? ⟨b, off + j * 4, none⟩ = some (.int .i64 os[j].k) ∧ w.cell? ⟨b, off + j * 4 + 1, none⟩ = some (.int .i64 os[j].s) ∧ w.cell? ⟨b, off + j * 4 + 2, none⟩ = some (.int .u64 os[j].n) ∧ w.cell? ⟨b, off + j * 4 + 3, none⟩ = some (.slice S os[j].l.length c) ∧ Ints .i64 w S os[j].l
theorem wf_bdu {n : Int} (h : (Lit.int .u64 n).wf = true) : 0 ≤ n ∧ n < 18446744073709551616 := by
  have hmin : IntKind.u64.min = 0 := rfl
  have hmax : IntKind.u64.max = 18446744073709551615 := rfl
  simp only [Lit.wf, Bool.and_eq_true, decide_eq_true_eq] at h
  omega
theorem fop_one : oneCellFields Try.prog (Try.prog.fieldsOf 47) = true := by kernel_rfl
theorem fop_cells : Try.prog.cellsOf 47 = (Try.prog.fieldsOf 47).size := by kernel_rfl
theorem fop_under : Try.prog.underlying 47 = some (.struct (Try.prog.fieldsOf 47)) := by kernel_rfl
theorem fop_four : (Try.prog.fieldsOf 47).size = 4 := by kernel_rfl
theorem fop_int : Try.prog.cellsOf 3 = 1 := by kernel_rfl
theorem fop_f0 : ((Try.prog.fieldsOf 47)[0]?).map (·.type) = some 3 := by kernel_rfl
theorem fop_f1 : ((Try.prog.fieldsOf 47)[1]?).map (·.type) = some 3 := by kernel_rfl
theorem fop_f2 : ((Try.prog.fieldsOf 47)[2]?).map (·.type) = some 33 := by kernel_rfl
theorem fop_f3 : ((Try.prog.fieldsOf 47)[3]?).map (·.type) = some 24 := by kernel_rfl
theorem fops_open {H : Type} {enc : TypeId × Value → H} {W : World} {base : Nat} {spare : Nat → Bool} {held : Bool} {v : Value} {d : DataW H} {p : List MemPlace}
    (hT : DataW.Trod enc Try.prog W base spare held 41 v d p) (hv1 : v.cells.toList = [v]) :
    ∃ A cap os, v = .slice A os.length cap ∧ os.length ≤ 9223372036854775807 ∧ FOps W A os ∧ ∀ o ∈ os, o.ok := by
  obtain ⟨fuel, h⟩ := hT
  rw [hv1] at h
  rcases open_slice_fields Try.underlying41 fop_under fop_one fop_cells h with ⟨hcs, _⟩ | ⟨a, len, cap, m, D, Pl, hcs, _, hl, hm, hmm, hx, hi⟩
  · simp at hcs; subst hcs
    exact ⟨none, 0, [], rfl, by simp, fun j hj => absurd hj (by simp), by simp⟩
  · simp at hcs; subst hcs
    rw [fop_four] at hi
    have hlm : len ≤ m := by rw [hmm]; split <;> omega
    obtain ⟨f0, e0, t0⟩ := Option.map_eq_some_iff.1 fop_f0
    obtain ⟨f1, e1, t1⟩ := Option.map_eq_some_iff.1 fop_f1
    obtain ⟨f2, e2, t2⟩ := Option.map_eq_some_iff.1 fop_f2
    obtain ⟨f3, e3, t3⟩ := Option.map_eq_some_iff.1 fop_f3
    have key : ∀ i, i < len → ∃ q : FOp × Option Addr × Nat, W.cell? (a.add (i * 4)) = some (.int .i64 q.1.k) ∧ W.cell? (a.add (i * 4 + 1)) = some (.int .i64 q.1.s) ∧ W.cell? (a.add (i * 4 + 2)) = some (.int .u64 q.1.n) ∧ W.cell? (a.add (i * 4 + 3)) = some (.slice q.2.1 q.1.l.length q.2.2) ∧ Ints .i64 W q.2.1 q.1.l ∧ q.1.ok := by
      intro i hil
      obtain ⟨ys, n, _, _, _, hf⟩ := hi i (by omega)
      obtain ⟨v0, y0, c0, _, r0⟩ := hf 0 f0 e0
      obtain ⟨v1, y1, c1, _, r1⟩ := hf 1 f1 e1
      obtain ⟨v2, y2, c2, _, r2⟩ := hf 2 f2 e2
      obtain ⟨v3, y3, c3, _, r3⟩ := hf 3 f3 e3
      rw [t0] at r0
      rw [t1] at r1
      rw [t2] at r2
      rw [t3] at r3
      obtain ⟨x0, q0, _, w0⟩ := DataW.trod_int Try.underlying3 r0
      obtain ⟨x1, q1, _, w1⟩ := DataW.trod_int Try.underlying3 r1
      obtain ⟨x2, q2, _, w2⟩ := DataW.trod_int Try.underlying33 r2
      obtain ⟨A3, k3, z3, rfl, b3, _, i3, _⟩ := ints_open Try.underlying24 Try.underlying3 fop_int r3
      simp at q0 q1 q2
      subst q0 q1 q2
      exact ⟨(⟨x0, x1, x2, z3⟩, A3, k3), by simpa using c0, c1, c2, c3, i3, wf_bd w0, wf_bd w1, wf_bdu w2, b3⟩
    obtain ⟨f, hf⟩ := @choose_lt (FOp × Option Addr × Nat) ⟨(⟨0, 0, 0, []⟩, none, 0)⟩ _ _ key
    have hget : ∀ k (hk : k < ((List.range len).map fun i => (f i).1).length), ((List.range len).map fun i => (f i).1)[k] = (f k).1 := by intro k hk; simp
    refine ⟨some a, cap, (List.range len).map fun i => (f i).1, by simp, by unfold maxLen at hm; simp; omega, ?_, ?_⟩
    · intro k hk
      have hk' : k < len := by simpa using hk
      obtain ⟨b, off, rfl⟩ := plain_row (w := W) (a := a) (by simpa using (hf 0 (by omega)).1)
      obtain ⟨c0, c1, c2, c3, hI, _⟩ := hf k hk'
      rw [add_plain'] at c0 c1 c2 c3
      rw [hget k hk]
      refine ⟨b, off, (f k).2.1, (f k).2.2, rfl, World.block_lt_of_cell? _ _ c0, c0, ?_, ?_, ?_, hI⟩
      all_goals (rw [Nat.add_assoc]; assumption)
    · intro o ho
      simp only [List.mem_map, List.mem_range] at ho
      obtain ⟨i, hil, rfl⟩ := ho
      exact (hf i hil).2.2.2.2.2
end Go.Proofs.Ytnofeebcmmmlhaa
/- The law FileRows: what is written by each call, and its own helpers sides, cut; Put of a wrong size: contracts. -/
namespace Go.Proofs.Ytnofeebcmmmlhaa
open Go.RowKit
theorem FOps.below {w w' : World} {A : Option Addr} {os : List FOp} (h : FOps w A os) (hb : Below w.heap.size w w') : FOps w' A os := fun j hj => by
  obtain ⟨b, off, S, c, e, hl, c0, c1, c2, c3, hI⟩ := h j hj
  exact ⟨b, off, S, c, e, Nat.lt_of_lt_of_le hl hb.size, (hb.cell (p := ⟨b, _, none⟩) hl).trans c0, (hb.cell (p := ⟨b, _, none⟩) hl).trans c1, (hb.cell (p := ⟨b, _, none⟩) hl).trans c2, (hb.cell (p := ⟨b, _, none⟩) hl).trans c3, hI.below hb (Nat.le_refl _)⟩
namespace Fo
open Fp Fq
def good (l : List Int) : Bool := l.all (fun z => decide (0 ≤ z ∧ z ≤ 65535)) && decide (l.length ≤ 20)
def bad (o : FOp) : Bool := decide (o.k = 2) && !good o.l
def bytes (o : FOp) : List Int := if o.k = 1 then (if 1 ≤ o.s ∧ o.s ≤ 8 then big o.n o.s.toNat else []) else if o.k = 2 then Fp.shape o.l else []
def sp : List Int := big 538976288 4
def all (os : List FOp) : List Int := os.flatMap bytes
theorem bytes_put {o : FOp} (h : o.k = 1) (hs : 1 ≤ o.s ∧ o.s ≤ 8) : bytes o = big o.n o.s.toNat := by unfold bytes; rw [if_pos h, if_pos hs]
theorem bytes_no {o : FOp} (h : o.k = 1) (hs : ¬ (1 ≤ o.s ∧ o.s ≤ 8)) : bytes o = [] := by unfold bytes; rw [if_pos h, if_neg hs]
theorem bytes_shape {o : FOp} (h : o.k = 2) : bytes o = Fp.shape o.l := by unfold bytes; rw [if_neg (by omega), if_pos h]
theorem bytes_none {o : FOp} (h : o.k ≠ 1) (h2 : o.k ≠ 2) : bytes o = [] := by unfold bytes; rw [if_neg h, if_neg h2]
theorem good_iff {l : List Int} (h : good l = true) : l.length ≤ 20 ∧ ∀ z ∈ l, 0 ≤ z ∧ z ≤ 65535 := by
  simp [good] at h
  exact ⟨h.2, h.1⟩
theorem bytes_len {o : FOp} (h : bad o = false) : (bytes o).length ≤ 41 := by
  unfold bytes
  split
  · split
    · rw [big_length]; omega
    · simp
  · split
    · rename_i h2
      have : good o.l = true := by simp [bad, h2] at h; exact h
      have := (good_iff this).1
      rw [shape_length]; omega
    · simp
theorem bytes_byte (o : FOp) : ∀ y ∈ bytes o, 0 ≤ y ∧ y ≤ 255 := by
  unfold bytes
  split
  · split
    · exact big_byte _ _
    · simp
  · split
    · exact Fn.shape_byte _
    · simp
theorem all_take (os : List FOp) (k : Nat) (h : k < os.length) : all (os.take (k + 1)) = all (os.take k) ++ bytes os[k] := Fn.take_flat _ _ _ h
theorem all_drop (os : List FOp) (k : Nat) (h : k < os.length) : all (os.drop k) = bytes os[k] ++ all (os.drop (k + 1)) := by
  unfold all; rw [List.drop_eq_getElem_cons h, List.flatMap_cons]
theorem all_len {os : List FOp} (h : ∀ o ∈ os, bad o = false) : (all os).length ≤ os.length * 41 := Fn.flat_le _ _ _ fun o ho => bytes_len (h o ho)
theorem all_byte (os : List FOp) : ∀ y ∈ all os, 0 ≤ y ∧ y ≤ 255 := Fn.bytes_flat _ _ fun o _ => bytes_byte o
theorem sp_byte : ∀ y ∈ sp, 0 ≤ y ∧ y ≤ 255 := big_byte _ _
theorem mod_bd (n : Int) (s : Nat) (hs : s ≤ 8) : 0 ≤ n % 256 ^ s ∧ n % 256 ^ s < 18446744073709551616 := by
  have : s = 0 ∨ s = 1 ∨ s = 2 ∨ s = 3 ∨ s = 4 ∨ s = 5 ∨ s = 6 ∨ s = 7 ∨ s = 8 := by omega
  rcases this with h | h | h | h | h | h | h | h | h <;> subst h <;> simp <;> omega
end Fo
set_option maxHeartbeats 1000000 in
theorem law12_sides (S : Option Addr) (c : Nat) (l : List Int) (w : World) (hl : l.length ≤ 9223372036854775807) (hI : Ints .i64 w S l) :
    Calls Try.prog 15 #[.slice S l.length c] w fun e w' => e = .returned (.bool (Fo.good l)) ∧ w = w' := by
  have HI := Lib.hid hI
  clear hI
  go_enter Try.func15, Try.ntmps15
  go_wp2_with fail
  go_loop [4, 7] (fun _ i => ∃ k : Nat, k ≤ l.length ∧ i = .int .i64 (k : Int) ∧ ∀ z ∈ l.take k, 0 ≤ z ∧ z ≤ 65535) (fun _ i => l.length - (intOf i).toNat)
  case atStart => exact ⟨0, Nat.zero_le _, rfl, by simp⟩
  case round =>
    obtain ⟨k, hk, rfl, hall⟩ := hrel
    by_cases hlt : k < l.length
    · obtain ⟨b, off, rfl, -, hc⟩ := HI.out k hlt
      rw [List.getD_eq_getElem?_getD, List.getElem?_eq_getElem hlt, Option.getD_some] at hc
      have HT := Lib.hid (List.take_succ_eq_append_getElem hlt)
      have HM := Lib.hid (List.getElem_mem hlt)
      have Hall := Lib.hid hall
      clear hall
      generalize l[k] = z at *
      by_cases h0 : z < 0
      · have q0 : decide (z < 0) = true := by simp [h0]
        have H0 := Lib.hid h0
        clear h0
        go_wp2_with fail
        go_ret
        refine ⟨?_, rfl⟩
        have : Fo.good l = false := by
          cases hg : Fo.good l with
          | false => rfl
          | true => have := (Fo.good_iff hg).2 z HM.out; have := H0.out; omega
        rw [this]; rfl
      · have q0 : decide (z < 0) = false := by simp; omega
        by_cases h1 : 65535 < z
        · have q1 : decide (65535 < z) = true := by simp [h1]
          have H0 := Lib.hid h0
          have H1 := Lib.hid h1
          clear h0 h1
          go_wp2_with fail
          go_ret
          refine ⟨?_, rfl⟩
          have : Fo.good l = false := by
            cases hg : Fo.good l with
            | false => rfl
            | true => have := (Fo.good_iff hg).2 z HM.out; have := H1.out; omega
          rw [this]; rfl
        · have q1 : decide (65535 < z) = false := by simp; omega
          have HA := Lib.hid (show ∀ y ∈ l.take (k + 1), 0 ≤ y ∧ y ≤ 65535 from fun y hy => by
            rw [HT.out] at hy
            rcases List.mem_append.1 hy with h | h
            · exact Hall.out y h
            · simp at h; subst h; omega)
          clear h0 h1
          go_wp2_with fail
          go_round
          case rel => exact ⟨k + 1, by omega, by go_num, HA.out⟩
          case measure => simp [intOf]; omega
    · obtain rfl : k = l.length := by omega
      rw [List.take_length] at hall
      have HG := Lib.hid (show Fo.good l = decide ((l.length : Int) ≤ 20) by
        have : l.all (fun z => decide (0 ≤ z ∧ z ≤ 65535)) = true := List.all_eq_true.2 fun z hz => by simpa using hall z hz
        rw [Fo.good, this, Bool.true_and]
        rw [Bool.eq_iff_iff]; simp; omega)
      clear hall
      go_wp2_with fail
      go_ret
      exact ⟨by rw [HG.out]; rfl, rfl⟩
set_option maxHeartbeats 1000000 in
theorem law12_cut (n : Int) (s : Nat) (w : World) (h0 : 0 ≤ n) (h1 : n < 18446744073709551616) (hs1 : 1 ≤ s) (hs8 : s ≤ 8) :
    Calls Try.prog 21 #[.int .u64 n, .int .i64 s] w fun e w' => e = .returned (.int .u64 (n % 256 ^ s)) ∧ w = w' := by
  have : s = 1 ∨ s = 2 ∨ s = 3 ∨ s = 4 ∨ s = 5 ∨ s = 6 ∨ s = 7 ∨ s = 8 := by omega
  rcases this with h | h | h | h | h | h | h | h
  all_goals
    subst h
    go_enter Try.func21, Try.ntmps21
    go_wp2_with fail
    go_ret
    refine ⟨?_, rfl⟩
    apply ret_int
    simp
  omega
set_option maxHeartbeats 1000000 in
theorem writer_put_no (p : Nat) (n s : Int) (w : World) (hs : s < 1 ∨ 8 < s) :
    Calls Try.prog 14 #[.pointer (some ⟨p, 0, none⟩), .int .u64 n, .int .i64 s] w fun e w' => e = .returned (.tuple #[]) ∧ w = w' := by
  by_cases h1 : s < 1
  · have q1 : decide (s < 1) = true := by simp [h1]
    clear hs h1
    go_enter Try.func14, Try.ntmps14
    go_wp2_with fail
    refine bodyPost_ret (v := .tuple #[]) (by simp [results, Try.results14, go_sem]) rfl ?_
    exact ⟨rfl, rfl⟩
  · have q1 : decide (s < 1) = false := by simp; omega
    have q2 : decide (8 < s) = true := by simp; omega
    clear hs h1
    go_enter Try.func14, Try.ntmps14
    go_wp2_with fail
    refine bodyPost_ret (v := .tuple #[]) (by simp [results, Try.results14, go_sem]) rfl ?_
    exact ⟨rfl, rfl⟩
end Go.Proofs.Ytnofeebcmmmlhaa
/- The references of layers 3, 5, 7, 10: contracts of the small ones. -/
namespace Go.Proofs.Ytnofeebcmmmlhaa
open Go.RowKit

set_option maxHeartbeats 4000000 in
theorem ref03_same (A A' : Option Addr) (c c' : Nat) (xs ys : List Int) (w : World) (hl : xs.length ≤ 9223372036854775807) (hl' : ys.length ≤ 9223372036854775807) (hI : Ints .i64 w A xs) (hI' : Ints .i64 w A' ys) :
    Calls Try.prog 22 #[.slice A xs.length c, .slice A' ys.length c'] w fun e w' => e = .returned (.bool (decide (xs = ys))) ∧ ∃ q, w' = w.drewN q := by
  by_cases hlen : xs.length = ys.length
  · have hlen2 : ys.length = xs.length := hlen.symm
    rw [hlen2]
    have HI := Lib.hid hI
    have HI' := Lib.hid hI'
    have Hlen := Lib.hid hlen
    have Hlen2 := Lib.hid hlen2
    clear hI hI' hlen hlen2
    go_enter Try.func22, Try.ntmps22
    go_wp2_with fail
    go_loopw [5] (fun i wr => ∃ k q : Nat, k ≤ xs.length ∧ i = .int .i64 k ∧ xs.take k = ys.take k ∧ wr = w.drewN q) (fun i _ => xs.length - (intOf i).toNat)
    case atStart => exact ⟨0, 0, Nat.zero_le _, rfl, rfl, rfl⟩
    case round =>
      obtain ⟨k, q, hk, rfl, htk, rfl⟩ := hrel
      by_cases hlt : k < xs.length
      · have hlt2 : k < ys.length := by have := Hlen.out; omega
        obtain ⟨b, off, rfl, -, hc⟩ := HI.out k hlt
        obtain ⟨b', off', rfl, -, hc'⟩ := HI'.out k hlt2
        rw [getD_at hlt] at hc
        rw [getD_at hlt2] at hc'
        have hd : w.drewN q = w.drewN q := rfl
        have k0 : (0 : Int) ≤ (k : Int) := by omega
        have k1 : (k : Int) < (xs.length : Int) := by omega
        have hnx : xs[k] = ys[k] → xs.take (k + 1) = ys.take (k + 1) := fun e => by rw [List.take_succ_eq_append_getElem hlt, List.take_succ_eq_append_getElem hlt2, htk, e]
        have hno : xs[k] ≠ ys[k] → decide (xs = ys) = false := fun e => by simp; intro h; subst h; exact e rfl
        generalize xs[k] = x at *
        generalize ys[k] = y at *
        by_cases hxy : x = y
        · have e1 : (x != y) = false := by simp [hxy]
          have HX := Lib.hid (hnx hxy)
          clear hnx hno htk hxy hd
          go_wp2_with fail
          go_quiet (fail)
          go_wp2_with fail
          go_roundw
          case rel => exact ⟨k + 1, _, by omega, by go_num, HX.out, by first | rfl | exact World.drewN_drewN _ _ _⟩
          case measure => simp [intOf]; omega
        · have e1 : (x != y) = true := by simp [hxy]
          have HX := Lib.hid (hno hxy)
          clear hnx hno htk hxy hd
          go_wp2_with fail
          go_quiet (fail)
          go_wp2_with fail
          go_ret
          exact ⟨by rw [HX.out]; rfl, _, by first | rfl | exact World.drewN_drewN _ _ _⟩
      · obtain rfl : k = xs.length := by omega
        have HX := Lib.hid (show decide (xs = ys) = true by
          rw [List.take_length] at htk
          rw [htk, Hlen.out, List.take_length]; simp)
        clear htk
        go_wp2_with fail
        go_ret
        exact ⟨by rw [HX.out]; rfl, _, rfl⟩
  · have HX := Lib.hid (show decide (xs = ys) = false by simp; intro h; exact hlen (by rw [h]))
    have e1 : ((xs.length : Int) != (ys.length : Int)) = true := by rw [bne_iff_ne]; omega
    have e2 : (xs.length != ys.length) = true := by rw [bne_iff_ne]; omega
    have HI := Lib.hid hI
    have HI' := Lib.hid hI'
    have Hlen := Lib.hid hlen
    clear hI hI' hlen
    go_enter Try.func22, Try.ntmps22
    go_wp2_with fail
    go_ret
    exact ⟨by rw [HX.out]; rfl, 0, rfl⟩
theorem prod_snoc (l : List Int) (x : Int) : Safe.prod (l ++ [x]) = Safe.prod l * x := by
  induction l with
  | nil => simp [Safe.prod]
  | cons a r ih => simp only [List.cons_append, Safe.prod, ih]; rw [Int.mul_assoc]
theorem prod_pos1 {l : List Int} (h : ∀ x ∈ l, 1 ≤ x) : 1 ≤ Safe.prod l := by
  induction l with
  | nil => simp [Safe.prod]
  | cons a r ih =>
    have h1 := h a (by simp)
    have h2 := ih fun x hx => h x (by simp [hx])
    simp only [Safe.prod]
    have := Int.mul_pos (show 0 < a by omega) (show 0 < Safe.prod r by omega)
    omega
end Go.Proofs.Ytnofeebcmmmlhaa
/- A net of bounded bulk, come in as an argument, opened. -/
namespace Go.Proofs.Ytnofeebcmmmlhaa
open Go.ChangeShapes Go.WideShapes Go.Deep Go.RowKit

section
variable {H : Type} {enc : TypeId × Value → H} {P : Program} {W : World} {base : Nat} {spare : Nat → Bool} {held : Bool}
theorem bulk_one (d : DataW H) : 1 ≤ Rows.uptoBulk d := by
  cases d with
  | lit l => cases l <;> simp [Rows.uptoBulk]
  | nil => simp [Rows.uptoBulk]
  | ptr d => simp [Rows.uptoBulk]
  | slice elems spare => simp [Rows.uptoBulk]
  | agg parts => simp [Rows.uptoBulk]
  | iface t d => simp [Rows.uptoBulk]
  | map entries => simp [Rows.uptoBulk]
  | held h => simp [Rows.uptoBulk]
theorem bulk_part {d : DataW H} {l : List (DataW H)} (h : d ∈ l) : Rows.uptoBulk d ≤ Rows.uptoBulkAll l := by
  induction l with
  | nil => cases h
  | cons x r ih =>
    simp only [Rows.uptoBulkAll]
    cases List.mem_cons.1 h with
    | inl e => subst e; omega
    | inr e => have := ih e; omega
theorem bulk_len (l : List (DataW H)) : l.length ≤ Rows.uptoBulkAll l := by
  induction l with
  | nil => simp [Rows.uptoBulkAll]
  | cons x r ih => have := bulk_one x; simp only [Rows.uptoBulkAll, List.length_cons]; omega
/-- The elements of a slice, and their bulk. -/
theorem slice_bulk {t e : TypeId} {fuel : Nat} {v : Value} {x : DataW H × List MemPlace} (ht : P.underlying t = some (.slice e)) (h : DataW.trod enc P W base spare held fuel t [v] = some x) (hz : Rows.uptoBulk x.1 ≤ 1048576) :
    v = .slice none 0 0 ∨ ∃ a len cap, v = .slice (some a) len cap ∧ len ≤ cap ∧ cap ≤ maxLen ∧ len ≤ 1048576 ∧
      ∀ i, i < len → ∃ cs' m y, W.cells? base (a.add (i * P.cellsOf e)) (P.cellsOf e) = some cs' ∧ DataW.trod enc P W base spare held m e cs' = some y ∧ Rows.uptoBulk y.1 ≤ 1048576 := by
  rcases open_slice ht h with ⟨hcs, _⟩ | ⟨a, len, cap, m, n, D, Pl, hcs, _, hl, hm, hmm, hx, hi⟩
  · simp at hcs; exact .inl hcs
  · simp at hcs; subst hcs
    right
    have hlm : len ≤ m := by rw [hmm]; split <;> omega
    rw [hx] at hz
    simp only [Rows.uptoBulk] at hz
    refine ⟨a, len, cap, rfl, hl, hm, ?_, fun i hil => ?_⟩
    · have := bulk_len ((List.range len).map D)
      simp at this
      omega
    · obtain ⟨cs', h1, h2⟩ := hi i (by omega)
      refine ⟨cs', n, _, h1, h2, ?_⟩
      have := bulk_part (d := D i) (l := (List.range len).map D) (List.mem_map.2 ⟨i, by simpa using hil, rfl⟩)
      show Rows.uptoBulk (D i) ≤ _
      omega
end

theorem int_one' : Try.prog.cellsOf 3 = 1 := by kernel_rfl
theorem shp_one : Try.prog.cellsOf 25 = 1 := by kernel_rfl
theorem node_cells : Try.prog.cellsOf 68 = 10 := by kernel_rfl

/-- A slice of numbers, of whatever name, with its size. -/
theorem nums_open {H : Type} {enc : TypeId × Value → H} {W : World} {base : Nat} {spare : Nat → Bool} {held : Bool} {t : TypeId} {fuel : Nat} {v : Value} {x : DataW H × List MemPlace} (ht : Try.prog.underlying t = some (.slice 3))
    (h : DataW.trod enc Try.prog W base spare held fuel t [v] = some x) (hz : Rows.uptoBulk x.1 ≤ 1048576) :
    ∃ A c zs, v = .slice A zs.length c ∧ Ints .i64 W A zs ∧ zs.length ≤ c ∧ c ≤ 9223372036854775807 ∧ zs.length ≤ 1048576 ∧ ∀ z ∈ zs, -9223372036854775808 ≤ z ∧ z ≤ 9223372036854775807 := by
  obtain ⟨A, c, zs, rfl, hl, hc, hI, hw⟩ := ints_open ht Try.underlying3 int_one' h
  refine ⟨A, c, zs, rfl, hI, hc, ?_, ?_, fun z hz => wf_bd (hw z hz)⟩
  · rcases slice_bulk ht h hz with e | ⟨a, len, cap, e, _, hm, _⟩
    · injection e with _ _ e; omega
    · injection e with _ _ e; unfold maxLen at hm; omega
  · rcases slice_bulk ht h hz with e | ⟨a, len, cap, e, _, _, hb, _⟩
    · injection e with _ e _; rw [e]; exact Nat.zero_le _
    · have e2 : zs.length = len := by simp at e; exact e.2.1
      rw [e2]
      exact hb
theorem one_list {l : List Value} (h : l.length = 1) : ∃ v, l = [v] := by
  match l, h with
  | [v], _ => exact ⟨v, rfl⟩
theorem choose_list {α : Type} [Inhabited α] {n : Nat} {Q : Nat → α → Prop} (h : ∀ i, i < n → ∃ a, Q i a) : ∃ l : List α, l.length = n ∧ ∀ i (hi : i < l.length), Q i l[i] := by
  obtain ⟨f, hf⟩ := @choose_lt α _ _ _ h
  exact ⟨(List.range n).map f, by simp, fun i hi => by simp at hi; simpa using hf i hi⟩
theorem addr_lit {W : World} {a : Addr} {v : Value} (h : W.cell? a = some v) : ∃ b off, a = ⟨b, off, none⟩ := by
  obtain ⟨b, off, spot⟩ := a
  have hs : spot = none := by simpa using World.cell?_spot h
  subst hs
  exact ⟨b, off, rfl⟩
/-- A slice of shapes. -/
theorem shps_open {H : Type} {enc : TypeId × Value → H} {W : World} {base : Nat} {spare : Nat → Bool} {held : Bool} {fuel : Nat} {v : Value} {x : DataW H × List MemPlace}
    (h : DataW.trod enc Try.prog W base spare held fuel 66 [v] = some x) (hz : Rows.uptoBulk x.1 ≤ 1048576) :
    ∃ A c ss, v = .slice A ss.length c ∧ Shps W A ss ∧ ss.length ≤ c ∧ c ≤ 9223372036854775807 ∧ ss.length ≤ 1048576 ∧ ∀ s ∈ ss, s.length ≤ 1048576 ∧ ∀ z ∈ s, -9223372036854775808 ≤ z ∧ z ≤ 9223372036854775807 := by
  rcases slice_bulk Try.underlying66 h hz with rfl | ⟨a, len, cap, rfl, hl, hm, hb, hi⟩
  · exact ⟨none, 0, [], rfl, Shps.nil, by simp, by omega, by simp, by simp⟩
  · rw [shp_one] at hi
    have key : ∀ i, i < len → ∃ q : (List Int) × (Option Addr) × Nat, W.cell? (a.add i) = some (.slice q.2.1 q.1.length q.2.2) ∧ Ints .i64 W q.2.1 q.1 ∧ q.1.length ≤ q.2.2 ∧ q.2.2 ≤ 9223372036854775807 ∧ q.1.length ≤ 1048576 ∧ ∀ z ∈ q.1, -9223372036854775808 ≤ z ∧ z ≤ 9223372036854775807 := fun i hil => by
      obtain ⟨cs', m, y, hc, ht, hw⟩ := hi i hil
      obtain ⟨_, hlen, hat⟩ := World.cells?_some hc
      obtain ⟨v, rfl⟩ := one_list hlen
      obtain ⟨A, c, zs, rfl, h1, h2⟩ := nums_open Try.underlying25 ht hw
      refine ⟨(zs, A, c), ?_, h1, h2⟩
      have := hat 0 (by omega)
      rw [Nat.mul_one] at this
      simpa [Addr.add] using this
    obtain ⟨L, hL, hq⟩ := choose_list key
    refine ⟨some a, cap, L.map (·.1), by simp [hL], fun j hj => ?_, by simpa [hL] using hl, by unfold maxLen at hm; omega, by simp [hL]; exact hb, fun s hs => ?_⟩
    · rw [List.length_map] at hj
      obtain ⟨h1, h2, h3, h4, _⟩ := hq j hj
      obtain ⟨h0, _⟩ := hq 0 (by omega)
      obtain ⟨b, off, rfl⟩ := addr_lit (show W.cell? a = _ by simpa [Addr.add] using h0)
      rw [add_plain'] at h1
      rw [List.getElem_map]
      exact ⟨b, off, _, _, rfl, World.block_lt_of_cell? _ _ h1, h1, h2, h3, h4⟩
    · obtain ⟨q, hqm, rfl⟩ := List.mem_map.1 hs
      obtain ⟨i, hi, rfl⟩ := List.getElem_of_mem hqm
      exact (hq i hi).2.2.2.2

def OpD.inR (o : OpD) : Prop := o.wide ∧ ∀ z ∈ o.s, -9223372036854775808 ≤ z ∧ z ≤ 9223372036854775807
/-- All numbers are an int's, and all rows could be in memory. -/
def NodeD.fits (v : NodeD) : Prop := v.op.wide ∧ v.op.s.length ≤ 1048576 ∧ v.ins.length ≤ 1048576 ∧ v.p.length ≤ 1048576 ∧ (∀ s ∈ v.p, s.length ≤ 1048576) ∧
  (∀ z ∈ v.op.s, -9223372036854775808 ≤ z ∧ z ≤ 9223372036854775807) ∧ (∀ z ∈ v.ins, -9223372036854775808 ≤ z ∧ z ≤ 9223372036854775807) ∧ ∀ s ∈ v.p, ∀ z ∈ s, -9223372036854775808 ≤ z ∧ z ≤ 9223372036854775807
def NetD.fits (n : NetD) : Prop := n.inn.length ≤ 1048576 ∧ n.nodes.length ≤ 1048576 ∧ (∀ z ∈ n.inn, -9223372036854775808 ≤ z ∧ z ≤ 9223372036854775807) ∧ ∀ v ∈ n.nodes, v.fits

theorem node_under : Try.prog.underlying 68 = some (.struct (Try.prog.fieldsOf 68)) := by kernel_rfl
theorem node_three : (Try.prog.fieldsOf 68).size = 3 := by kernel_rfl
theorem node_types : (Try.prog.fieldsOf 68).toList.map (·.type) = [65, 24, 66] := by kernel_rfl
theorem node_f0 : ((Try.prog.fieldsOf 68)[0]?).map (fun f => (f.type, f.offset, Try.prog.cellsOf f.type)) = some (65, 0, 8) := by kernel_rfl
theorem node_f1 : ((Try.prog.fieldsOf 68)[1]?).map (fun f => (f.type, f.offset, Try.prog.cellsOf f.type)) = some (24, 8, 1) := by kernel_rfl
theorem node_f2 : ((Try.prog.fieldsOf 68)[2]?).map (fun f => (f.type, f.offset, Try.prog.cellsOf f.type)) = some (66, 9, 1) := by kernel_rfl
theorem op_under : Try.prog.underlying 65 = some (.struct (Try.prog.fieldsOf 65)) := by kernel_rfl
theorem op_eight : (Try.prog.fieldsOf 65).size = 8 := by kernel_rfl
theorem op_types : (Try.prog.fieldsOf 65).toList.map (·.type) = [3, 63, 3, 3, 3, 3, 3, 25] := by kernel_rfl
theorem op_f0 : ((Try.prog.fieldsOf 65)[0]?).map (fun f => (f.type, f.offset, Try.prog.cellsOf f.type)) = some (3, 0, 1) := by kernel_rfl
theorem op_f1 : ((Try.prog.fieldsOf 65)[1]?).map (fun f => (f.type, f.offset, Try.prog.cellsOf f.type)) = some (63, 1, 1) := by kernel_rfl
theorem op_f2 : ((Try.prog.fieldsOf 65)[2]?).map (fun f => (f.type, f.offset, Try.prog.cellsOf f.type)) = some (3, 2, 1) := by kernel_rfl
theorem op_f3 : ((Try.prog.fieldsOf 65)[3]?).map (fun f => (f.type, f.offset, Try.prog.cellsOf f.type)) = some (3, 3, 1) := by kernel_rfl
theorem op_f4 : ((Try.prog.fieldsOf 65)[4]?).map (fun f => (f.type, f.offset, Try.prog.cellsOf f.type)) = some (3, 4, 1) := by kernel_rfl
theorem op_f5 : ((Try.prog.fieldsOf 65)[5]?).map (fun f => (f.type, f.offset, Try.prog.cellsOf f.type)) = some (3, 5, 1) := by kernel_rfl
theorem op_f6 : ((Try.prog.fieldsOf 65)[6]?).map (fun f => (f.type, f.offset, Try.prog.cellsOf f.type)) = some (3, 6, 1) := by kernel_rfl
theorem op_f7 : ((Try.prog.fieldsOf 65)[7]?).map (fun f => (f.type, f.offset, Try.prog.cellsOf f.type)) = some (25, 7, 1) := by kernel_rfl
theorem list3 {α : Type} {l : List α} (h : l.length = 3) : ∃ a b c, l = [a, b, c] := by
  match l, h with
  | [a, b, c], _ => exact ⟨a, b, c, rfl⟩
theorem list8 {α : Type} {l : List α} (h : l.length = 8) : ∃ a b c d e f g i, l = [a, b, c, d, e, f, g, i] := by
  match l, h with
  | [a, b, c, d, e, f, g, i], _ => exact ⟨a, b, c, d, e, f, g, i, rfl⟩
theorem list10 {α : Type} {l : List α} (h : l.length = 10) : ∃ a b c d e f g i j k, l = [a, b, c, d, e, f, g, i, j, k] := by
  match l, h with
  | [a, b, c, d, e, f, g, i, j, k], _ => exact ⟨a, b, c, d, e, f, g, i, j, k, rfl⟩
set_option maxRecDepth 100000 in
/-- An op's cells. -/
theorem op_open {H : Type} {enc : TypeId × Value → H} {W : World} {base : Nat} {spare : Nat → Bool} {held : Bool} {fuel : Nat} {v0 v1 v2 v3 v4 v5 v6 v7 : Value} {x : DataW H × List MemPlace}
    (h : DataW.trod enc Try.prog W base spare held fuel 65 [v0, v1, v2, v3, v4, v5, v6, v7] = some x) (hz : Rows.uptoBulk x.1 ≤ 1048576) :
    ∃ (o : OpD) (S : Option Addr) (c : Nat), v0 = .int .i64 o.kind ∧ v1 = .int .i64 o.k ∧ v2 = .int .i64 o.width ∧ v3 = .int .i64 o.step ∧ v4 = .int .i64 o.side ∧ v5 = .int .i64 o.frm ∧ v6 = .int .i64 o.to ∧ v7 = .slice S o.s.length c ∧
      Ints .i64 W S o.s ∧ o.s.length ≤ c ∧ c ≤ 9223372036854775807 ∧ o.s.length ≤ 1048576 ∧ o.wide ∧ ∀ z ∈ o.s, -9223372036854775808 ≤ z ∧ z ≤ 9223372036854775807 := by
  obtain ⟨ys, n, _, hx, _, hlen, hg⟩ := DataW.trod_struct op_under h
  rw [op_eight] at hlen
  obtain ⟨y0, y1, y2, y3, y4, y5, y6, y7, rfl⟩ := list8 hlen
  rw [hx] at hz
  obtain ⟨f0, e0, t0⟩ := Option.map_eq_some_iff.1 op_f0
  simp only [Prod.mk.injEq] at t0
  have h0 := hg 0 f0 e0
  rw [t0.2.2, t0.2.1, t0.1] at h0
  simp at h0
  obtain ⟨f1, e1, t1⟩ := Option.map_eq_some_iff.1 op_f1
  simp only [Prod.mk.injEq] at t1
  have h1 := hg 1 f1 e1
  rw [t1.2.2, t1.2.1, t1.1] at h1
  simp at h1
  obtain ⟨f2, e2, t2⟩ := Option.map_eq_some_iff.1 op_f2
  simp only [Prod.mk.injEq] at t2
  have h2 := hg 2 f2 e2
  rw [t2.2.2, t2.2.1, t2.1] at h2
  simp at h2
  obtain ⟨f3, e3, t3⟩ := Option.map_eq_some_iff.1 op_f3
  simp only [Prod.mk.injEq] at t3
  have h3 := hg 3 f3 e3
  rw [t3.2.2, t3.2.1, t3.1] at h3
  simp at h3
  obtain ⟨f4, e4, t4⟩ := Option.map_eq_some_iff.1 op_f4
  simp only [Prod.mk.injEq] at t4
  have h4 := hg 4 f4 e4
  rw [t4.2.2, t4.2.1, t4.1] at h4
  simp at h4
  obtain ⟨f5, e5, t5⟩ := Option.map_eq_some_iff.1 op_f5
  simp only [Prod.mk.injEq] at t5
  have h5 := hg 5 f5 e5
  rw [t5.2.2, t5.2.1, t5.1] at h5
  simp at h5
  obtain ⟨f6, e6, t6⟩ := Option.map_eq_some_iff.1 op_f6
  simp only [Prod.mk.injEq] at t6
  have h6 := hg 6 f6 e6
  rw [t6.2.2, t6.2.1, t6.1] at h6
  simp at h6
  obtain ⟨f7, e7, t7⟩ := Option.map_eq_some_iff.1 op_f7
  simp only [Prod.mk.injEq] at t7
  have h7 := hg 7 f7 e7
  rw [t7.2.2, t7.2.1, t7.1] at h7
  simp at h7
  have hz7 : Rows.uptoBulk y7.1 ≤ 1048576 := by simp [Rows.uptoBulk, Rows.uptoBulkAll] at hz; omega
  obtain ⟨x0, q0, _, w0⟩ := DataW.trod_int Try.underlying3 h0
  simp at q0
  subst q0
  obtain ⟨x1, q1, _, w1⟩ := DataW.trod_int Try.underlying63 h1
  simp at q1
  subst q1
  obtain ⟨x2, q2, _, w2⟩ := DataW.trod_int Try.underlying3 h2
  simp at q2
  subst q2
  obtain ⟨x3, q3, _, w3⟩ := DataW.trod_int Try.underlying3 h3
  simp at q3
  subst q3
  obtain ⟨x4, q4, _, w4⟩ := DataW.trod_int Try.underlying3 h4
  simp at q4
  subst q4
  obtain ⟨x5, q5, _, w5⟩ := DataW.trod_int Try.underlying3 h5
  simp at q5
  subst q5
  obtain ⟨x6, q6, _, w6⟩ := DataW.trod_int Try.underlying3 h6
  simp at q6
  subst q6
  obtain ⟨S, c, zs, rfl, hI, h1, h2, h3, h4⟩ := nums_open Try.underlying25 h7 hz7
  refine ⟨⟨x0, x1, x2, x3, x4, x5, x6, zs⟩, S, c, rfl, rfl, rfl, rfl, rfl, rfl, rfl, rfl, hI, h1, h2, h3, fun z hz => ?_, h4⟩
  simp at hz
  rcases hz with rfl | rfl | rfl | rfl | rfl | rfl | rfl
  · exact wf_bd w0
  · exact wf_bd w1
  · exact wf_bd w2
  · exact wf_bd w3
  · exact wf_bd w4
  · exact wf_bd w5
  · exact wf_bd w6

/-- What a node's cells read as. -/
structure NodeQ where
  v : NodeD
  S : Option Addr
  c : Nat
  I : Option Addr
  d : Nat
  Q : Option Addr
  q : Nat
instance : Inhabited NodeQ := ⟨⟨Nt.none_, none, 0, none, 0, none, 0⟩⟩
def NodeQ.cells (x : NodeQ) : List Value := [.int .i64 x.v.op.kind, .int .i64 x.v.op.k, .int .i64 x.v.op.width, .int .i64 x.v.op.step, .int .i64 x.v.op.side, .int .i64 x.v.op.frm, .int .i64 x.v.op.to, .slice x.S x.v.op.s.length x.c, .slice x.I x.v.ins.length x.d, .slice x.Q x.v.p.length x.q]
def NodeQ.R (x : NodeQ) (W : World) : Prop := (Ints .i64 W x.S x.v.op.s ∧ x.v.op.s.length ≤ x.c ∧ x.c ≤ 9223372036854775807) ∧ (Ints .i64 W x.I x.v.ins ∧ x.v.ins.length ≤ x.d ∧ x.d ≤ 9223372036854775807) ∧ (Shps W x.Q x.v.p ∧ x.v.p.length ≤ x.q ∧ x.q ≤ 9223372036854775807)
set_option maxRecDepth 100000 in
theorem node_open {H : Type} {enc : TypeId × Value → H} {W : World} {base : Nat} {spare : Nat → Bool} {held : Bool} {fuel : Nat} {cs : List Value} {x : DataW H × List MemPlace} (hcs : cs.length = 10)
    (h : DataW.trod enc Try.prog W base spare held fuel 68 cs = some x) (hz : Rows.uptoBulk x.1 ≤ 1048576) :
    ∃ q : NodeQ, cs = q.cells ∧ q.R W ∧ q.v.fits := by
  obtain ⟨v0, v1, v2, v3, v4, v5, v6, v7, v8, v9, rfl⟩ := list10 hcs
  obtain ⟨ys, n, _, hx, _, hlen, hg⟩ := DataW.trod_struct node_under h
  rw [node_three] at hlen
  obtain ⟨y0, y1, y2, rfl⟩ := list3 hlen
  rw [hx] at hz
  obtain ⟨f0, e0, t0⟩ := Option.map_eq_some_iff.1 node_f0
  simp only [Prod.mk.injEq] at t0
  have h0 := hg 0 f0 e0
  rw [t0.2.2, t0.2.1, t0.1] at h0
  simp at h0
  obtain ⟨f1, e1, t1⟩ := Option.map_eq_some_iff.1 node_f1
  simp only [Prod.mk.injEq] at t1
  have h1 := hg 1 f1 e1
  rw [t1.2.2, t1.2.1, t1.1] at h1
  simp at h1
  obtain ⟨f2, e2, t2⟩ := Option.map_eq_some_iff.1 node_f2
  simp only [Prod.mk.injEq] at t2
  have h2 := hg 2 f2 e2
  rw [t2.2.2, t2.2.1, t2.1] at h2
  simp at h2
  have hz0 : Rows.uptoBulk y0.1 ≤ 1048576 := by simp [Rows.uptoBulk, Rows.uptoBulkAll] at hz; omega
  have hz1 : Rows.uptoBulk y1.1 ≤ 1048576 := by simp [Rows.uptoBulk, Rows.uptoBulkAll] at hz; omega
  have hz2 : Rows.uptoBulk y2.1 ≤ 1048576 := by simp [Rows.uptoBulk, Rows.uptoBulkAll] at hz; omega
  obtain ⟨o, S, c, rfl, rfl, rfl, rfl, rfl, rfl, rfl, rfl, a1, a2, a3, a4, a5, a6⟩ := op_open h0 hz0
  obtain ⟨I, d, is, rfl, b1, b2, b3, b4, b5⟩ := nums_open Try.underlying24 h1 hz1
  obtain ⟨Q, q, ps, rfl, c1, c2, c3, c4, c5⟩ := shps_open h2 hz2
  exact ⟨⟨⟨o, is, ps⟩, S, c, I, d, Q, q⟩, rfl, ⟨⟨a1, a2, a3⟩, ⟨b1, b2, b3⟩, c1, c2, c3⟩, a5, a4, b4, c4, fun s hs => (c5 s hs).1, a6, b5, fun s hs => (c5 s hs).2⟩
/-- A slice of nodes. -/
theorem nodes_open {H : Type} {enc : TypeId × Value → H} {W : World} {base : Nat} {spare : Nat → Bool} {held : Bool} {fuel : Nat} {v : Value} {x : DataW H × List MemPlace}
    (h : DataW.trod enc Try.prog W base spare held fuel 26 [v] = some x) (hz : Rows.uptoBulk x.1 ≤ 1048576) :
    ∃ A c ns, v = .slice A ns.length c ∧ Nodes W A ns ∧ ns.length ≤ c ∧ c ≤ 9223372036854775807 ∧ ns.length ≤ 1048576 ∧ ∀ v ∈ ns, v.fits := by
  rcases slice_bulk Try.underlying26 h hz with rfl | ⟨a, len, cap, rfl, hl, hm, hb, hi⟩
  · exact ⟨none, 0, [], rfl, fun j hj => absurd hj (by simp), by simp, by omega, by simp, by simp⟩
  · rw [node_cells] at hi
    have key : ∀ i, i < len → ∃ q : NodeQ, (∀ j, j < 10 → W.cell? ((a.add (i * 10)).add j) = q.cells[j]?) ∧ q.R W ∧ q.v.fits := fun i hil => by
      obtain ⟨cs', m, y, hc, ht, hw⟩ := hi i hil
      obtain ⟨_, hlen, hat⟩ := World.cells?_some hc
      obtain ⟨q, rfl, h1, h2⟩ := node_open hlen ht hw
      exact ⟨q, hat, h1, h2⟩
    obtain ⟨L, hL, hq⟩ := choose_list key
    refine ⟨some a, cap, L.map (·.v), by simp [hL], fun j hj => ?_, by simpa [hL] using hl, by unfold maxLen at hm; omega, by simp [hL]; exact hb, fun s hs => ?_⟩
    · rw [List.length_map] at hj
      obtain ⟨h1, ⟨r1, r2, r3⟩, _⟩ := hq j hj
      obtain ⟨h0, _⟩ := hq 0 (by omega)
      have h00 := h0 0 (by omega)
      obtain ⟨b, off, rfl⟩ := addr_lit (v := .int .i64 L[0].v.op.kind) (show W.cell? a = _ by simpa [Addr.add, NodeQ.cells] using h00)
      simp only [add_plain'] at h1
      rw [List.getElem_map]
      refine ⟨b, off, _, _, _, _, _, _, rfl, World.block_lt_of_cell? _ _ (h1 0 (by omega)), h1 0 (by omega), h1 1 (by omega), h1 2 (by omega), h1 3 (by omega), h1 4 (by omega), h1 5 (by omega), h1 6 (by omega), h1 7 (by omega), h1 8 (by omega), h1 9 (by omega), r1, r2, r3⟩
    · obtain ⟨q, hqm, rfl⟩ := List.mem_map.1 hs
      obtain ⟨i, hi, rfl⟩ := List.getElem_of_mem hqm
      exact (hq i hi).2.2
theorem net_cells : Try.prog.cellsOf 28 = 2 := by kernel_rfl
theorem net_under : Try.prog.underlying 28 = some (.struct (Try.prog.fieldsOf 28)) := by kernel_rfl
theorem net_two : (Try.prog.fieldsOf 28).size = 2 := by kernel_rfl
theorem net_types : (Try.prog.fieldsOf 28).toList.map (·.type) = [25, 26] := by kernel_rfl
theorem net_f0 : ((Try.prog.fieldsOf 28)[0]?).map (fun f => (f.type, f.offset, Try.prog.cellsOf f.type)) = some (25, 0, 1) := by kernel_rfl
theorem net_f1 : ((Try.prog.fieldsOf 28)[1]?).map (fun f => (f.type, f.offset, Try.prog.cellsOf f.type)) = some (26, 1, 1) := by kernel_rfl
theorem list2 {α : Type} {l : List α} (h : l.length = 2) : ∃ a b, l = [a, b] := by
  match l, h with
  | [a, b], _ => exact ⟨a, b, rfl⟩
set_option maxRecDepth 100000 in
/-- A net. -/
theorem net_open {H : Type} {enc : TypeId × Value → H} {W : World} {r : Reach} {b0 base : Nat} {spare : Nat → Bool} {held : Bool} {v : Value} {d : DataW H} {p : List MemPlace}
    (hv : Value.okWide Try.prog W r b0 28 v) (h : DataW.Trod enc Try.prog W base spare held 28 v d p) (hz : Rows.uptoBulk d ≤ 1048576) :
    ∃ A N c1 c2 n, v = .agg #[.slice A n.inn.length c1, .slice N n.nodes.length c2] ∧ n.inn.length ≤ c1 ∧ c1 ≤ 9223372036854775807 ∧ n.nodes.length ≤ c2 ∧ c2 ≤ 9223372036854775807 ∧ NetR W A N n ∧ n.fits := by
  obtain ⟨cs, rfl, hsz⟩ := okWide_struct net_under hv
  obtain ⟨l⟩ := cs
  match l, hsz.trans net_cells with
  | [v0, v1], _ =>
    obtain ⟨fuel, hf⟩ := h
    obtain ⟨ys, n, _, hx, _, hlen, hg⟩ := DataW.trod_struct net_under hf
    rw [net_two] at hlen
    obtain ⟨y0, y1, rfl⟩ := list2 hlen
    simp only [Prod.mk.injEq, List.map_cons, List.map_nil] at hx
    obtain ⟨rfl, _⟩ := hx
    obtain ⟨f0, e0, t0⟩ := Option.map_eq_some_iff.1 net_f0
    simp only [Prod.mk.injEq] at t0
    have h0 := hg 0 f0 e0
    rw [t0.2.2, t0.2.1, t0.1] at h0
    simp [Value.cells] at h0
    obtain ⟨f1, e1, t1⟩ := Option.map_eq_some_iff.1 net_f1
    simp only [Prod.mk.injEq] at t1
    have h1 := hg 1 f1 e1
    rw [t1.2.2, t1.2.1, t1.1] at h1
    simp [Value.cells] at h1
    have hz0 : Rows.uptoBulk y0.1 ≤ 1048576 := by simp [Rows.uptoBulk, Rows.uptoBulkAll] at hz; omega
    have hz1 : Rows.uptoBulk y1.1 ≤ 1048576 := by simp [Rows.uptoBulk, Rows.uptoBulkAll] at hz; omega
    obtain ⟨A, c1, zs, rfl, a1, a2, a3, a4, a5⟩ := nums_open Try.underlying25 h0 hz0
    obtain ⟨N, c2, ns, rfl, b1, b2, b3, b4, b5⟩ := nodes_open h1 hz1
    exact ⟨A, N, c1, c2, ⟨zs, ns⟩, rfl, a2, a3, b2, b3, ⟨a1, b1⟩, a4, b4, a5, b5⟩
theorem NetD.fits.ok {n : NetD} (h : n.fits) : n.ok :=
  ⟨h.1, h.2.1, fun v hv => by
    obtain ⟨h1, h2, h3, h4, h5, h6, h7, h8⟩ := h.2.2.2 v hv
    exact ⟨h1, h2, h3, h4, h5, h7⟩⟩
end Go.Proofs.Ytnofeebcmmmlhaa
