/- The walk of the law CodeTexts. -/
import Derived.Test.YtklngiikgnmdeaaDoorAwakeQ
import Derived.Test.YtklngiikgnmdeaaDoorRefQ
import Derived.Test.YtklngiikgnmdeaaDoorTab
import Derived.Test.YtklngiikgnmdeaaDoorCodeE
namespace Go.Proofs.YtklngiikgnmdeaaDoor
open Go.RowKit

/-- Are both the same, as far as k? -/
def sameTo (ps qs : List (Int × Int)) (k : Nat) : Bool := decide (ps.length = qs.length) && decide (ps.take k = qs.take k)
theorem sameTo_zero (ps qs : List (Int × Int)) : sameTo ps qs 0 = decide (ps.length = qs.length) := by simp [sameTo]
theorem sameTo_all (ps qs : List (Int × Int)) : sameTo ps qs ps.length = decide (ps = qs) := by
  unfold sameTo
  by_cases h : ps.length = qs.length
  · rw [List.take_length, h, List.take_length]; simp
  · have : ps ≠ qs := fun e => h (by rw [e])
    simp [h, this]
theorem sameTo_len {ps qs : List (Int × Int)} {k : Nat} (h : sameTo ps qs k = true) : ps.length = qs.length := by
  unfold sameTo at h; simp at h; exact h.1
theorem sameTo_succ (ps qs : List (Int × Int)) (k : Nat) (h1 : k < ps.length) (h2 : k < qs.length) : sameTo ps qs (k + 1) = (sameTo ps qs k && (ps[k].1 == qs[k].1 && ps[k].2 == qs[k].2)) := by
  unfold sameTo
  rw [List.take_succ_eq_append_getElem h1, List.take_succ_eq_append_getElem h2, Bool.and_assoc]
  congr 1
  rw [Bool.eq_iff_iff]
  simp only [decide_eq_true_eq, Bool.and_eq_true, beq_iff_eq]
  constructor
  · intro h
    have h3 := List.append_inj h (by simp; omega)
    have h4 : ps[k] = qs[k] := by simpa using h3.2
    exact ⟨h3.1, by rw [h4], by rw [h4]⟩
  · rintro ⟨h3, h4, h5⟩
    rw [h3, Prod.ext h4 h5]
theorem sameTo_false {ps qs : List (Int × Int)} {k : Nat} (h : sameTo ps qs k = false) : sameTo ps qs (k + 1) = false := by
  unfold sameTo at *
  simp only [Bool.and_eq_false_iff, decide_eq_false_iff_not] at *
  rcases h with h | h
  · exact .inl h
  · refine .inr fun e => h ?_
    have := congrArg (List.take k) e
    rwa [List.take_take, List.take_take, Nat.min_eq_left (Nat.le_succ k)] at this

theorem len_beq (ps qs : List (Int × Int)) : ((ps.length : Int) == (qs.length : Int)) = decide (ps.length = qs.length) := by
  rw [Bool.eq_iff_iff]; simp; omega
def wantTo (ps : List (Int × Int)) (k : Nat) : ByteArray := ⟨(textOf (ps.take k)).toArray⟩
theorem wantTo_succ (ps : List (Int × Int)) (k : Nat) (h : k < ps.length) : wantTo ps (k + 1) = wantTo ps k ++ ⟨(lineOf ps[k]).toArray⟩ := by
  unfold wantTo
  rw [textOf_take_succ ps k h, ByteArray.mk_append_mk]

theorem nameOf_in {k : Int} (h1 : 1 ≤ k) (h6 : k ≤ 6) : nameOf k ≠ [] := by
  rcases (show k = 1 ∨ k = 2 ∨ k = 3 ∨ k = 4 ∨ k = 5 ∨ k = 6 by omega) with rfl | rfl | rfl | rfl | rfl | rfl <;> decide
theorem line_zero {k : Int} (h : nameOf k ≠ []) : (⟨(lineOf (k, 0)).toArray⟩ : ByteArray) = ⟨(nameOf k).toArray⟩ ++ ⟨#[10]⟩ := by
  rw [lineOf_some h, show (⟨#[10]⟩ : ByteArray) = ⟨[10].toArray⟩ from rfl, ByteArray.mk_append_mk]
  simp [tailOf]
set_option maxHeartbeats 2400000 in
theorem codeTexts_small (w : World) (hpow : powTab w) (A : Option Addr) (c : Nat) (ps : List (Int × Int)) (B : Option Addr) (d : Nat) (qs : List (Int × Int)) (hl : ¬ 300 < ps.length) (hl2 : ¬ 300 < qs.length) (hI : Pairs w A ps) (hJ : Pairs w B qs)
    (hbd : ∀ p ∈ ps, -9223372036854775808 ≤ p.2 ∧ p.2 ≤ 9223372036854775807) (kind : Int) :
    Calls Tryd.prog 6 #[.slice A ps.length c, .slice B qs.length d, .int .i64 kind] w fun e w' => e = .returned (.bool true) ∧ Below w.heap.size w w' := by
  have HI := Lib.hid hI
  have HJ := Lib.hid hJ
  have HB := Lib.hid hbd
  have HP := Lib.hid hpow
  have H0 := Lib.hid (sameTo_zero ps qs)
  clear hI hJ hbd hpow
  go_enter Tryd.func6, Tryd.ntmps6
  go_wp2_with fail
  go_loopw [7, 8, 9, 10, 11, 29] (fun want n same _ _ i wr => ∃ k : Nat, k ≤ ps.length ∧ i = .int .i64 k ∧ want = .string (wantTo ps k) ∧ n = .int .i64 (Cd.count kind (ps.take k)) ∧ same = .bool (sameTo ps qs k) ∧ Below w.heap.size w wr) (fun _ _ _ _ _ i _ => ps.length - (intOf i).toNat)
  case atStart => exact ⟨0, Nat.zero_le _, rfl, rfl, rfl, by rw [H0.out, ← len_beq], Below.refl _ _⟩
  case round =>
    obtain ⟨k, hk, rfl, rfl, rfl, rfl, hbel⟩ := hrel
    by_cases hlt : k < ps.length
    · obtain ⟨b, off, rfl, hb, hc, hd⟩ := HI.out.below hbel (Nat.le_refl _) k hlt
      have ⟨hn0, hn1⟩ := Cd.count_bd kind (ps.take k)
      rw [List.length_take] at hn1
      have HS := Lib.hid (Cd.count_take_succ kind ps k hlt)
      have HW := Lib.hid (wantTo_succ ps k hlt)
      have hp := HB.out ps[k] (List.getElem_mem hlt)
      have hll := lineOf_le hp.1 hp.2
      have htl : (wantTo ps k).size ≤ 28 * 300 := by
        have := textOf_le (ps.take k) (fun p hp => HB.out p (List.mem_of_mem_take hp))
        rw [List.length_take] at this
        simp [wantTo, ByteArray.size]; omega
      have hb1 := hbel.alloc hbel.size (Obj.cells #[Value.int IntKind.i64 ps[k].1, Value.int IntKind.i64 ps[k].2] 30)
      have hblk := Blk.new wr 30 #[.int .i64 ps[k].1, .int .i64 ps[k].2]
      clear hbel
      have HH := Lib.hid hp
      clear hp
      generalize wantTo ps k = wt at htl HW
      go_wp2_with fail
      refine (ref17_line _ _ HH.out.1 HH.out.2 _).mono ?_
      rintro e w1 ⟨rfl, h1⟩
      have hsz1 := h1.size
      replace hblk := hblk.below h1 (by simp)
      have hbel := hb1.trans (h1.mono hb1.size)
      clear h1
      have hc0 := hblk.cell 0
      have hc1 := hblk.cell 1
      simp at hc0 hc1
      have hsl : (⟨(lineOf ps[k]).toArray⟩ : ByteArray).size ≤ 28 := by simpa [ByteArray.size] using hll
      generalize (⟨(lineOf ps[k]).toArray⟩ : ByteArray) = ln at hsl HW
      have heq := run_eql_ins
      cases hsame : sameTo ps qs k
      · have HZ := Lib.hid (sameTo_false hsame)
        clear hsame
        cases he : (ps[k].1 == kind)
        all_goals
          go_wp2_with fail
          go_quiet (fail)
          go_wp2_with fail
          go_roundw
          case rel => exact ⟨k + 1, by omega, by go_num, by rw [HW.out], by rw [HS.out, he]; simp, by rw [HZ.out], Bdrawn hbel _⟩
          case measure => simp [intOf]; omega
      · have hql : k < qs.length := by have := sameTo_len hsame; omega
        have HZ := Lib.hid (sameTo_succ ps qs k hlt hql)
        rw [hsame, Bool.true_and] at HZ
        clear hsame
        obtain ⟨b2, off2, rfl, hbb2, hcc2, hdd2⟩ := HJ.out.below hbel (Nat.le_refl _) k hql
        cases he : (ps[k].1 == kind)
        all_goals
          go_wp2_with fail
          go_quiet (fail)
          go_wp2_with fail
          go_roundw
          case rel => exact ⟨k + 1, by omega, by go_num, by rw [HW.out], by rw [HS.out, he]; simp, by rw [HZ.out], Bdrawn hbel _⟩
          case measure => simp [intOf]; omega
    · obtain rfl : k = ps.length := by omega
      have HM := Lib.hid (sameTo_all ps qs)
      have HN := Lib.hid (show wantTo ps ps.length = ⟨(textOf ps).toArray⟩ by unfold wantTo; rw [List.take_length])
      rw [HM.out, HN.out, List.take_length]
      go_wp2_with fail
      refine (code_name kind _).mono ?_
      rintro e w1 ⟨rfl, h1⟩
      have hb1 := hbel.trans (h1.mono hbel.size)
      clear h1 hbel
      by_cases hk1 : kind < 1
      · have HX := Lib.hid (nameOf_out (show kind < 1 ∨ 7 ≤ kind by omega))
        rw [HX.out]
        go_wp2_with fail
        refine (code_text A c ps _ (by omega) (HI.out.below hb1 (Nat.le_refl _)) HB.out (itoaFits_of (powTab_below HP.out hb1) ps HB.out)).mono ?_
        rintro e w2 ⟨rfl, h2⟩
        have hb2 := hb1.trans (h2.mono hb1.size)
        clear h2 hb1
        go_wp2_with fail
        refine (code_count A c ps kind _ (by omega) (HI.out.below hb2 (Nat.le_refl _))).mono ?_
        rintro e w3 ⟨rfl, h3⟩
        have hb3 := hb2.trans (h3.mono hb2.size)
        clear h3 hb2
        go_wp2_with fail
        refine (code_equal A c ps B d qs _ (by omega) (HI.out.below hb3 (Nat.le_refl _)) (HJ.out.below hb3 (Nat.le_refl _))).mono ?_
        rintro e w4 ⟨rfl, h4⟩
        have hb4 := hb3.trans (h4.mono hb3.size)
        clear h4 hb3
        go_wp2_with fail
        refine (awake17 _).mono ?_
        rintro e w5 ⟨rfl, h5⟩
        have hb5 := hb4.trans (h5.mono hb4.size)
        clear h5 hb4
        go_wp2_with fail
        go_ret
        exact ⟨rfl, hb5⟩
      by_cases hk6 : 6 < kind
      · have HX := Lib.hid (nameOf_out (show kind < 1 ∨ 7 ≤ kind by omega))
        rw [HX.out]
        go_wp2_with fail
        refine (code_text A c ps _ (by omega) (HI.out.below hb1 (Nat.le_refl _)) HB.out (itoaFits_of (powTab_below HP.out hb1) ps HB.out)).mono ?_
        rintro e w2 ⟨rfl, h2⟩
        have hb2 := hb1.trans (h2.mono hb1.size)
        clear h2 hb1
        go_wp2_with fail
        refine (code_count A c ps kind _ (by omega) (HI.out.below hb2 (Nat.le_refl _))).mono ?_
        rintro e w3 ⟨rfl, h3⟩
        have hb3 := hb2.trans (h3.mono hb2.size)
        clear h3 hb2
        go_wp2_with fail
        refine (code_equal A c ps B d qs _ (by omega) (HI.out.below hb3 (Nat.le_refl _)) (HJ.out.below hb3 (Nat.le_refl _))).mono ?_
        rintro e w4 ⟨rfl, h4⟩
        have hb4 := hb3.trans (h4.mono hb3.size)
        clear h4 hb3
        go_wp2_with fail
        refine (awake17 _).mono ?_
        rintro e w5 ⟨rfl, h5⟩
        have hb5 := hb4.trans (h5.mono hb4.size)
        clear h5 hb4
        go_wp2_with fail
        go_ret
        exact ⟨rfl, hb5⟩
      · have hnm : nameOf kind ≠ [] := nameOf_in (by omega) (by omega)
        have HX := Lib.hid (line_zero hnm)
        have hnl := nameOf_le kind
        have hns : (⟨(nameOf kind).toArray⟩ : ByteArray).size ≤ 5 := by simpa [ByteArray.size] using hnl
        clear hnm hnl
        generalize (⟨(nameOf kind).toArray⟩ : ByteArray) = nm at hns HX
        go_wp2_with fail
        refine (ref17_line kind 0 (by decide) (by decide) _).mono ?_
        rintro e w6 ⟨rfl, h6⟩
        replace hb1 := hb1.trans (h6.mono hb1.size)
        clear h6
        rw [HX.out]
        go_wp2_with fail
        refine (code_text A c ps _ (by omega) (HI.out.below hb1 (Nat.le_refl _)) HB.out (itoaFits_of (powTab_below HP.out hb1) ps HB.out)).mono ?_
        rintro e w2 ⟨rfl, h2⟩
        have hb2 := hb1.trans (h2.mono hb1.size)
        clear h2 hb1
        go_wp2_with fail
        refine (code_count A c ps kind _ (by omega) (HI.out.below hb2 (Nat.le_refl _))).mono ?_
        rintro e w3 ⟨rfl, h3⟩
        have hb3 := hb2.trans (h3.mono hb2.size)
        clear h3 hb2
        go_wp2_with fail
        refine (code_equal A c ps B d qs _ (by omega) (HI.out.below hb3 (Nat.le_refl _)) (HJ.out.below hb3 (Nat.le_refl _))).mono ?_
        rintro e w4 ⟨rfl, h4⟩
        have hb4 := hb3.trans (h4.mono hb3.size)
        clear h4 hb3
        go_wp2_with fail
        refine (awake17 _).mono ?_
        rintro e w5 ⟨rfl, h5⟩
        have hb5 := hb4.trans (h5.mono hb4.size)
        clear h5 hb4
        go_wp2_with fail
        go_ret
        exact ⟨rfl, hb5⟩

set_option maxHeartbeats 800000 in
theorem walkCodeTexts (w : World) (hL : laidMetH Tryd.prog Rows.codeTextsRow.laid w) (A : Option Addr) (c : Nat) (ps : List (Int × Int)) (hl : ps.length ≤ 9223372036854775807) (hI : Pairs w A ps) (hw : ∀ p ∈ ps, (Lit.int .i64 p.1).wf = true ∧ (Lit.int .i64 p.2).wf = true)
    (B : Option Addr) (d : Nat) (qs : List (Int × Int)) (hl2 : qs.length ≤ 9223372036854775807) (hJ : Pairs w B qs) (_hw2 : ∀ p ∈ qs, (Lit.int .i64 p.1).wf = true ∧ (Lit.int .i64 p.2).wf = true) (kind : Int) (_hk : (Lit.int .i64 kind).wf = true) :
    Calls Tryd.prog 6 #[.slice A ps.length c, .slice B qs.length d, .int .i64 kind] w fun e w' => e = .returned (.bool true) ∧ Below w.heap.size w w' := by
  by_cases h300 : 300 < ps.length
  · clear hI hJ hw _hw2 hL
    go_enter Tryd.func6, Tryd.ntmps6
    go_wp2_with fail
    refine (awake17 _).mono ?_
    rintro e w1 ⟨rfl, h1⟩
    go_wp2_with fail
    go_ret
    exact ⟨rfl, h1⟩
  · by_cases h301 : 300 < qs.length
    · clear hI hJ hw _hw2 hL
      go_enter Tryd.func6, Tryd.ntmps6
      go_wp2_with fail
      refine (awake17 _).mono ?_
      rintro e w1 ⟨rfl, h1⟩
      go_wp2_with fail
      go_ret
      exact ⟨rfl, h1⟩
    · refine codeTexts_small w (powTab_of (hL.filter fun x => x.1 == "internal/strconv.uint64pow10")) A c ps B d qs h300 h301 hI hJ (fun p hp => wf_bd (hw p hp).2) kind
end Go.Proofs.YtklngiikgnmdeaaDoor
