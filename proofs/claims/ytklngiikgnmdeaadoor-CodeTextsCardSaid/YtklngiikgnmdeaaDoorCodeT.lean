/- Layer 17 (code): the text of a code: contract. -/
import Derived.Test.YtklngiikgnmdeaaDoorCodeC
import Derived.Test.YtklngiikgnmdeaaDoorBuild
import Derived.Test.YtklngiikgnmdeaaDoorShelf
import Derived.Lib.ItoaLen
import Derived.Lib.AppendIntMem
namespace Go.Proofs.YtklngiikgnmdeaaDoor
open Go.RowKit

theorem Below.grownNone {B : Nat} {w w' : World} (h : Below B w w') (hB : w.heap.size ≤ B) : w.grownBy w' none := ⟨h.os, h.tape, h.output, h.size, fun k hk _ => h.block k (by omega)⟩
theorem builderAt_below {T e : TypeId} {B b : Nat} {p : Value} {bs : List Value} {w w' : World} {B2 : Nat} (h : Lib.BuilderAt T e B b p bs w) (hb : Below B2 w w') (hB : w.heap.size ≤ B2) : Lib.BuilderAt T e B b p bs w' := by
  obtain ⟨h1, v, h2, h3, h4⟩ := h
  exact ⟨h1, v, (hb.block b (Nat.lt_of_lt_of_le (lt_of_block h2) hB)).trans h2, h3.kept (Below.grownNone hb hB) (by cases h : v.ownBlock <;> simp), h4⟩
theorem isB_below {B b : Nat} {bs : List Value} {w w' : World} {B2 : Nat} (h : IsB B b bs w) (hb : Below B2 w w') (hB : w.heap.size ≤ B2) : IsB B b bs w' := by
  rcases h with h | h
  · exact Or.inl (builderAt_below h hb hB)
  · exact Or.inr (builderAt_below h hb hB)
theorem isB_lt {B b : Nat} {bs : List Value} {w : World} (h : IsB B b bs w) : b < w.heap.size := by
  rcases h with h | h <;> exact h.lt
theorem Blk.kept {b g : Nat} {t : TypeId} {cs : Array Value} {w w' : World} (h : Blk w g t cs) (hk : Kept b w w') (hne : g ≠ b) (ht : t ≠ 5) : Blk w' g t cs :=
  hk g _ h (by simp [hne]) (by intro c fz e; injection e with _ e; exact ht e)

/-- An instruction's line. -/
def tailOf (id : Int) : List UInt8 := if id = 0 then [] else [32] ++ Lib.itoa id
def lineOf (p : Int × Int) : List UInt8 := if nameOf p.1 = [] then [] else nameOf p.1 ++ tailOf p.2 ++ [10]
def textOf (ps : List (Int × Int)) : List UInt8 := ps.flatMap lineOf
theorem textOf_take_succ (ps : List (Int × Int)) (k : Nat) (h : k < ps.length) : textOf (ps.take (k + 1)) = textOf (ps.take k) ++ lineOf ps[k] := by
  unfold textOf
  rw [List.take_succ_eq_append_getElem h, List.flatMap_append]; simp
theorem lineOf_none {p : Int × Int} (h : nameOf p.1 = []) : lineOf p = [] := by simp [lineOf, h]
theorem lineOf_some {p : Int × Int} (h : nameOf p.1 ≠ []) : lineOf p = nameOf p.1 ++ tailOf p.2 ++ [10] := by simp [lineOf, h]
theorem nameOf_le (k : Int) : (nameOf k).length ≤ 5 := by
  unfold nameOf
  repeat' split
  all_goals simp
theorem tailOf_le {id : Int} (h0 : -9223372036854775808 ≤ id) (h1 : id ≤ 9223372036854775807) : (tailOf id).length ≤ 22 := by
  unfold tailOf
  split
  · simp
  · have := Lib.itoa_length_le id h0 h1
    simp; omega
theorem lineOf_le {p : Int × Int} (h0 : -9223372036854775808 ≤ p.2) (h1 : p.2 ≤ 9223372036854775807) : (lineOf p).length ≤ 28 := by
  have a := nameOf_le p.1
  have b := tailOf_le h0 h1
  unfold lineOf
  split
  · simp
  · simp; omega
theorem textOf_le (ps : List (Int × Int)) (h : ∀ p ∈ ps, -9223372036854775808 ≤ p.2 ∧ p.2 ≤ 9223372036854775807) : (textOf ps).length ≤ 28 * ps.length := by
  induction ps with
  | nil => simp [textOf]
  | cons p r ih =>
    have h1 := lineOf_le (h p (by simp)).1 (h p (by simp)).2
    have h2 := ih (fun q hq => h q (by simp [hq]))
    simp [textOf] at h2 ⊢
    omega

def ItoaPost (id : Int) (w : World) (e : Ending) (w' : World) : Prop := e = .returned (.string ⟨(Lib.itoa id).toArray⟩) ∧ Below w.heap.size w w'
def ItoaFits (ps : List (Int × Int)) (w : World) : Prop :=
  ∀ p ∈ ps, ∀ w', Below w.heap.size w w' → Calls Tryd.prog 28 #[.int .i64 p.2] w' (ItoaPost p.2 w')

def textTo (ps : List (Int × Int)) (k : Nat) : List Value := Lib.byteCells (textOf (ps.take k))

set_option maxHeartbeats 1600000 in
theorem code_text (A : Option Addr) (c : Nat) (ps : List (Int × Int)) (w : World) (hl : ps.length ≤ 1000000) (hI : Pairs w A ps) (hbd : ∀ p ∈ ps, -9223372036854775808 ≤ p.2 ∧ p.2 ≤ 9223372036854775807) (hit : ItoaFits ps w) :
    Calls Tryd.prog 20 #[.slice A ps.length c] w fun e w' => e = .returned (.string ⟨(textOf ps).toArray⟩) ∧ Below w.heap.size w w' := by
  have HI := Lib.hid hI
  have HB := Lib.hid hbd
  have HT := Lib.hid hit
  clear hI hbd hit
  go_enter Tryd.func20, Tryd.ntmps20
  go_wp2_with fail
  go_loopw [5, 6, 9] (fun _ _ i wr => ∃ k : Nat, k ≤ ps.length ∧ i = .int .i64 k ∧ IsB w.heap.size w.heap.size (textTo ps k) wr ∧ Below w.heap.size w wr) (fun _ _ i _ => ps.length - (intOf i).toNat)
  case atStart => exact ⟨0, Nat.zero_le _, rfl, Lib.fresh_isBuilder _ _ w, (Below.refl _ _).alloc (Nat.le_refl _) _⟩
  case round =>
    obtain ⟨k, hk, rfl, hB, hbel⟩ := hrel
    by_cases hlt : k < ps.length
    · obtain ⟨b, off, rfl, hb, hc, hd⟩ := HI.out.below hbel (Nat.le_refl _) k hlt
      have hmem : ps[k] ∈ ps := List.getElem_mem hlt
      have hbd := HB.out _ hmem
      have hti := Lib.hid (HT.out _ hmem)
      have HS := Lib.hid (textOf_take_succ ps k hlt)
      have hlen : (textOf (ps.take k)).length ≤ 28 * k := by
        have := textOf_le (ps.take k) (fun p hp => HB.out p (List.mem_of_mem_take hp))
        rw [List.length_take] at this
        omega
      have hsz := isB_lt hB
      generalize hp : ps[k] = p at hc hd hbd hti HS hmem
      obtain ⟨kd, id⟩ := p
      dsimp only at hc hd hbd hti
      obtain ⟨hbd1, hbd2⟩ := hbd
      clear hp hmem
      have hB1 : IsB w.heap.size w.heap.size (textTo ps k) (wr.alloc (.cells #[.int .i64 kd, .int .i64 id] 30)) := isB_below hB ((Below.refl _ _).alloc (Nat.le_refl _) _) (Nat.le_refl _)
      have hblk := Blk.new wr 30 #[.int .i64 kd, .int .i64 id]
      have hbel1 := hbel.alloc hbel.size (Obj.cells #[Value.int IntKind.i64 kd, Value.int IntKind.i64 id] 30)
      clear hB
      go_wp2_with fail
      refine (code_name kd _).mono ?_
      rintro e w1 ⟨rfl, h1⟩
      have hsz1 := h1.size
      rw [World.size_alloc] at hsz1
      replace hB1 := isB_below hB1 h1 (Nat.le_refl _)
      replace hblk := hblk.below h1 (by simp)
      replace hbel1 := hbel1.trans (h1.mono (by simp; omega))
      clear h1
      by_cases hnm : nameOf kd = []
      · have HF := Lib.hid (lineOf_none (p := (kd, id)) hnm)
        rw [hnm]
        go_wp2_with fail
        go_roundw
        case rel => exact ⟨k + 1, by omega, by go_num, by unfold textTo; rw [HS.out, HF.out, List.append_nil]; exact hB1, hbel1⟩
        case measure => simp [intOf]; omega
      · have HF := Lib.hid (lineOf_some (p := (kd, id)) hnm)
        have hnl := nameOf_le kd
        have hne : (nameOf kd).isEmpty = false := by simp [hnm]
        have hns : (⟨(nameOf kd).toArray⟩ : ByteArray).size = (nameOf kd).length := by simp [ByteArray.size]
        generalize nameOf kd = nm at HF hnl hne hns
        have HNS := Lib.hid hns
        clear hnm hns
        have hBl : (textTo ps k).length ≤ 28 * k := by unfold textTo; rw [Lib.byteCells_length]; exact hlen
        clear hlen
        go_wp2_with fail
        refine (builder_writeString _ _ _ _ _ hB1 (by rw [HNS.out]; omega) (by omega)).mono ?_
        rintro e w2 ⟨rfl, hB2, hb2, hk2⟩
        have hsz2 := hb2.size
        replace hblk := hblk.kept hk2 (by omega) (by decide)
        replace hbel1 := hbel1.trans hb2
        clear hb2 hk2 hB1
        rw [Lib.strCells_toArray] at hB2
        have hB2l : (textTo ps k ++ Lib.byteCells nm).length ≤ 28 * k + 5 := by rw [List.length_append, Lib.byteCells_length]; omega
        have hc2 := hblk.cell 1
        simp at hc2
        by_cases hid : id = 0
        · subst hid
          have HTL := Lib.hid (show tailOf 0 = [] from rfl)
          go_wp2_with fail
          refine (builder_writeByte _ _ _ 10 _ hB2 (by omega) (by omega)).mono ?_
          rintro e w3 ⟨rfl, hB3, hb3, hk3⟩
          replace hbel1 := hbel1.trans hb3
          clear hb3 hk3 hB2
          go_wp2_with fail
          go_roundw
          case rel => exact ⟨k + 1, by omega, by go_num, by unfold textTo; rw [HS.out, HF.out, HTL.out, List.append_nil, Lib.byteCells_append, Lib.byteCells_append, ← List.append_assoc]; exact hB3, hbel1⟩
          case measure => simp [intOf]; omega
        · have hidb : (id != 0) = true := by simp [hid]
          have HTL := Lib.hid (show tailOf id = [32] ++ Lib.itoa id by simp [tailOf, hid])
          have hil := Lib.itoa_length_le id hbd1 hbd2
          clear hid
          go_wp2_with fail
          refine (builder_writeByte _ _ _ 32 _ hB2 (by omega) (by omega)).mono ?_
          rintro e w3 ⟨rfl, hB3, hb3, hk3⟩
          have hsz3 := hb3.size
          replace hblk := hblk.kept hk3 (by omega) (by decide)
          replace hbel1 := hbel1.trans hb3
          clear hb3 hk3 hB2
          have hc3 := hblk.cell 1
          simp at hc3
          have hB3l : (textTo ps k ++ Lib.byteCells nm ++ [Value.int .u8 32]).length ≤ 28 * k + 6 := by rw [List.length_append]; simp only [List.length_cons, List.length_nil]; omega
          clear hc2 hB2l
          go_wp2_with fail
          refine (hti.out _ hbel1).mono ?_
          rintro e w4 ⟨rfl, h4⟩
          have hsz4 := h4.size
          replace hB3 := isB_below hB3 h4 (Nat.le_refl _)
          replace hblk := hblk.below h4 hblk.lt
          replace hbel1 := hbel1.trans (h4.mono hbel1.size)
          clear h4 hc3
          have his : (⟨(Lib.itoa id).toArray⟩ : ByteArray).size = (Lib.itoa id).length := by simp [ByteArray.size]
          have HIS := Lib.hid his
          clear his
          generalize Lib.itoa id = it at HTL hil HIS
          go_wp2_with fail
          refine (builder_writeString _ _ _ _ _ hB3 (by rw [HIS.out]; omega) (by omega)).mono ?_
          rintro e w5 ⟨rfl, hB5, hb5, hk5⟩
          have hsz5 := hb5.size
          rw [Lib.strCells_toArray] at hB5
          replace hbel1 := hbel1.trans hb5
          have hB5l : (textTo ps k ++ Lib.byteCells nm ++ [Value.int .u8 32] ++ Lib.byteCells it).length ≤ 28 * k + 27 := by rw [List.length_append, Lib.byteCells_length]; omega
          clear hb5 hk5 hB3 hB3l
          go_wp2_with fail
          refine (builder_writeByte _ _ _ 10 _ hB5 (by omega) (by omega)).mono ?_
          rintro e w6 ⟨rfl, hB6, hb6, hk6⟩
          replace hbel1 := hbel1.trans hb6
          clear hb6 hk6 hB5
          go_wp2_with fail
          go_roundw
          case rel => exact ⟨k + 1, by omega, by go_num, by unfold textTo at hB6 ⊢; rw [HS.out, HF.out, HTL.out]; simp only [Lib.byteCells_append, List.append_assoc] at hB6 ⊢; exact hB6, hbel1⟩
          case measure => simp [intOf]; omega
    · obtain rfl : k = ps.length := by omega
      unfold textTo at hB
      rw [List.take_length] at hB
      generalize hte : textOf ps = t at hB
      have HTE := Lib.hid hte
      clear hte
      have HB2 := Lib.hid hB
      clear hB
      go_wp2_with fail
      refine (Tryd.Builder_String_any _ _ t _ HB2.out hbel.size).mono ?_
      rintro e w1 ⟨rfl, h1⟩
      go_wp2_with fail
      go_ret
      exact ⟨by rw [HTE.out]; rfl, hbel.trans h1⟩
end Go.Proofs.YtklngiikgnmdeaaDoor
