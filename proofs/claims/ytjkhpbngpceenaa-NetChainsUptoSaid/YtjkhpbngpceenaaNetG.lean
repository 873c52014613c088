/- Layer 11 (net): copies: contract. -/
import Derived.Test.YtjkhpbngpceenaaNetE
namespace Go.Proofs.Ytjkhpbngpceenaa
open Go.RowKit
/-- Block g, from B on, is a row of shapes, each in a block of its own from B on; block by block. -/
def FRow (B : Nat) (w : World) (g : Nat) (t : TypeId) (ss : List (List Int)) : Prop :=
  B ≤ g ∧ ∃ hs : List Nat, hs.length = ss.length ∧ (∃ vs : List Value, vs.length = ss.length ∧ Blk w g t vs.toArray ∧ ∀ j (hj : j < ss.length) (hj2 : j < hs.length), vs[j]? = some (.slice (some ⟨hs[j], 0, none⟩) ss[j].length ss[j].length)) ∧
    ∀ j (hj : j < ss.length) (hj2 : j < hs.length), B ≤ hs[j] ∧ hs[j] ≠ g ∧ Blk w hs[j] 3 (ss[j].map (Value.int .i64)).toArray
theorem FRow.shps {B : Nat} {w : World} {g : Nat} {t : TypeId} {ss : List (List Int)} (h : FRow B w g t ss) (hm : ∀ s ∈ ss, s.length ≤ 9223372036854775807) : Shps w (some ⟨g, 0, none⟩) ss := fun j hj => by
  obtain ⟨_, hs, hl, ⟨vs, hvl, hk, hv⟩, hb⟩ := h
  have h1 := hv j hj (by omega)
  obtain ⟨_, _, hB⟩ := hb j hj (by omega)
  refine ⟨g, 0, _, _, rfl, hk.lt, by rw [Nat.zero_add, hk.cell j]; simpa using h1, Ints.of_row fun i hi => ?_, Nat.le_refl _, hm _ (List.getElem_mem hj)⟩
  rw [Nat.zero_add, hB.cell i, getD_at hi]
  simp [hi]
theorem FRow.fr {B : Nat} {w w' : World} {g : Nat} {t : TypeId} {ss : List (List Int)} {S : Nat → Prop} (h : FRow B w g t ss) (hf : Fr S w w') (hS : ∀ b, B ≤ b → b < w.heap.size → ¬ S b) : FRow B w' g t ss := by
  obtain ⟨hg, hs, hl, ⟨vs, hvl, hk, hv⟩, hb⟩ := h
  refine ⟨hg, hs, hl, ⟨vs, hvl, hf.blk hk (hS _ hg hk.lt), hv⟩, fun j hj hj2 => ?_⟩
  obtain ⟨h1, h2, h3⟩ := hb j hj hj2
  exact ⟨h1, h2, hf.blk h3 (hS _ h1 h3.lt)⟩
theorem FRow.base {B B' : Nat} {w : World} {g : Nat} {t : TypeId} {ss : List (List Int)} (h : FRow B w g t ss) (hB : B' ≤ B) : FRow B' w g t ss := by
  obtain ⟨hg, hs, hl, hv, hb⟩ := h
  exact ⟨Nat.le_trans hB hg, hs, hl, hv, fun j hj hj2 => ⟨Nat.le_trans hB (hb j hj hj2).1, (hb j hj hj2).2⟩⟩
def CopiesP (ss : List (List Int)) (w : World) (e : Ending) (w' : World) : Prop :=
  ∃ g, e = .returned (.slice (some ⟨g, 0, none⟩) ss.length ss.length) ∧ FRow w.heap.size w' g 23 ss ∧ Below w.heap.size w w'
/-- The first k shapes are copied. -/
def FMid (B : Nat) (w : World) (g : Nat) (t : TypeId) (ss : List (List Int)) (k : Nat) : Prop :=
  ∃ hs : List Nat, hs.length = k ∧ (∃ vs : List Value, vs.length = ss.length ∧ Blk w g t vs.toArray ∧ ∀ j (hj : j < ss.length) (hj2 : j < hs.length), vs[j]? = some (.slice (some ⟨hs[j], 0, none⟩) ss[j].length ss[j].length)) ∧
    ∀ j (hj : j < ss.length) (hj2 : j < hs.length), B ≤ hs[j] ∧ hs[j] ≠ g ∧ Blk w hs[j] 3 (ss[j].map (Value.int .i64)).toArray
theorem FMid.fr {B : Nat} {w w' : World} {g : Nat} {t : TypeId} {ss : List (List Int)} {k : Nat} (h : FMid B w g t ss k) (hb : Below w.heap.size w w') : FMid B w' g t ss k := by
  obtain ⟨hs, hl, ⟨vs, hvl, hk, hv⟩, hb'⟩ := h
  refine ⟨hs, hl, ⟨vs, hvl, hk.below hb hk.lt, hv⟩, fun j hj hj2 => ?_⟩
  obtain ⟨h1, h2, h3⟩ := hb' j hj hj2
  exact ⟨h1, h2, h3.below hb h3.lt⟩
theorem FMid.push {B : Nat} {w : World} {g h : Nat} {t : TypeId} {ss : List (List Int)} {k : Nat} (hm : FMid B w g t ss k) (hk : k < ss.length) (hh : B ≤ h) (hne : h ≠ g) (hb : Blk w h 3 (ss[k].map (Value.int .i64)).toArray) : FMid B (w.setCell ⟨g, k, none⟩ (.slice (some ⟨h, 0, none⟩) ss[k].length ss[k].length)) g t ss (k + 1) := by
  obtain ⟨hs, hl, ⟨vs, hvl, hkb, hv⟩, hb'⟩ := hm
  refine ⟨hs ++ [h], by simp [hl], ⟨vs.set k (.slice (some ⟨h, 0, none⟩) ss[k].length ss[k].length), by simp [hvl], by simpa using hkb.set_ k (.slice (some ⟨h, 0, none⟩) ss[k].length ss[k].length), fun j hj hj2 => ?_⟩, fun j hj hj2 => ?_⟩
  · by_cases e : j = k
    · subst e
      have : (hs ++ [h])[j]'hj2 = h := by simp [← hl]
      rw [this, List.getElem?_set_self (by omega)]
    · have hjk : j < hs.length := by simp at hj2; omega
      rw [List.getElem?_set_ne (by omega), hv j hj hjk]
      simp [hjk]
  · by_cases e : j = k
    · subst e
      have : (hs ++ [h])[j]'hj2 = h := by simp [← hl]
      rw [this]
      exact ⟨hh, hne, hb.far (p := ⟨g, j, none⟩) hne _⟩
    · have hjk : j < hs.length := by simp at hj2; omega
      have e2 : (hs ++ [h])[j]'hj2 = hs[j] := by simp [hjk]
      rw [e2]
      obtain ⟨h1, h2, h3⟩ := hb' j hj hjk
      exact ⟨h1, h2, h3.far (p := ⟨g, k, none⟩) h2 _⟩
set_option maxRecDepth 20000 in
set_option maxHeartbeats 8000000 in
theorem net_copies (A : Option Addr) (c : Nat) (ss : List (List Int)) (w : World) (hl : ss.length ≤ 1048576) (hs : ∀ s ∈ ss, s.length ≤ 1048576) (hS : Shps w A ss) :
    Calls Try.prog 44 #[.slice A ss.length c] w (CopiesP ss w) := by
  obtain ⟨i0, hi, hz0, hz1, hz2⟩ := info_parts shpT_info
  have Hs := Lib.hid hs
  have HS := Lib.hid hS
  clear hs hS
  go_enter Try.func44, Try.ntmps44
  go_wp2_with (at_make; refine wpList_make_full _ rfl _ _ 44 rfl w.heap.size 23 i0 (.slice none 0 0) 1 Try.underlying44 hi hz0 hz1 _ _ _ _ ss.length rfl rfl (by first | rfl | simp | (go_simp; rfl)) (by first | rfl | simp | (go_simp; rfl)) ?b2 ?b3 ?b4 ?_)
  case b2 => rw [hz2]; omega
  case b3 => unfold maxLen; omega
  case b4 => exact Nat.le_refl _
  intro w1 hown hgrow
  have hblk := own_cur hown
  rw [made_one] at hblk
  have hb1 : Below w.heap.size w w1 := (Below.refl _ w).grown hgrow (Nat.le_refl _) (by simp)
  have hm0 : FMid w.heap.size w1 w.heap.size 23 ss 0 := ⟨[], rfl, ⟨List.replicate ss.length (.slice none 0 0), by simp, by rw [List.toArray_replicate]; exact hblk, fun j hj hj2 => absurd hj2 (by simp)⟩, fun j hj hj2 => absurd hj2 (by simp)⟩
  have Hm0 := Lib.hid hm0
  clear hm0
  clear hblk hown hgrow
  go_wp2_with fail
  go_loopw [11] (fun i wx => ∃ k : Nat, k ≤ ss.length ∧ i = .int .i64 (k : Int) ∧ FMid w.heap.size wx w.heap.size 23 ss k ∧ Below w.heap.size w wx) (fun i _ => ss.length - (intOf i).toNat)
  case atStart => exact ⟨0, Nat.zero_le _, rfl, Hm0.out, hb1⟩
  case round =>
    obtain ⟨k, hk, rfl, hm, hbw⟩ := hrel
    clear Hm0 hb1
    by_cases hlt : k < ss.length
    · obtain ⟨b, off, S, sc, rfl, -, hc, hI, -⟩ := HS.out k hlt
      have l1 := Hs.out _ (List.getElem_mem hlt)
      have hc2 := cell_below hbw hc
      have hpush := fun (W : World) h q1 q2 q3 q4 => @FMid.push w.heap.size W w.heap.size h 23 ss k q1 hlt q2 q3 q4
      generalize ss[k] = s at *
      have hI2 := hI.below hbw (Nat.le_refl _)
      have Hm := Lib.hid hm
      have HI := Lib.hid hI
      have HI2 := Lib.hid hI2
      have Hpush := Lib.hid hpush
      clear hm hI hI2 hpush
      clear hc
      go_wp2_with fail
      refine (shape_copy S sc s _ (by omega) HI2.out).mono ?_
      rintro e w2 ⟨h, rfl, hh, hB, hb2⟩
      have hbw2 := hbw.trans (hb2.mono hbw.size)
      have hm2 := Hm.out.fr hb2
      have hgl : w.heap.size < wr.heap.size := by obtain ⟨_, _, ⟨vs, _, hk, _⟩, _⟩ := Hm.out; exact hk.lt
      have hm3 := Hpush.out w2 h hm2 (by omega) (by omega) hB
      obtain ⟨y, hy⟩ : ∃ y, w2.cell? ⟨w.heap.size, k, none⟩ = some y := by obtain ⟨_, _, ⟨vs, hvl, hk, _⟩, _⟩ := hm2; exact ⟨vs[k], by rw [hk.cell k]; simp⟩
      have fy : w2.frozen? ⟨w.heap.size, k, none⟩ = false := by obtain ⟨_, _, ⟨vs, hvl, hk, _⟩, _⟩ := hm2; exact hk.frozen k
      have hbw3 := hbw2.setCell (p := ⟨w.heap.size, k, none⟩) (by simp) (.slice (some ⟨h, 0, none⟩) s.length s.length)
      have Hm2 := Lib.hid hm2
      have Hm3 := Lib.hid hm3
      have HB := Lib.hid hB
      clear hm2 hm3 hB
      clear hc2
      go_wp2_with fail
      go_roundw
      case rel => exact ⟨k + 1, by omega, by go_num, Hm3.out, hbw3⟩
      case measure => simp [intOf]; omega
    · obtain rfl : k = ss.length := by omega
      have Hm := Lib.hid hm
      clear hm
      go_wp2_with fail
      go_ret
      refine ⟨w.heap.size, rfl, ⟨Nat.le_refl _, ?_⟩, hbw⟩
      obtain ⟨hs, h1, h2⟩ := Hm.out
      exact ⟨hs, h1, h2⟩
end Go.Proofs.Ytjkhpbngpceenaa
