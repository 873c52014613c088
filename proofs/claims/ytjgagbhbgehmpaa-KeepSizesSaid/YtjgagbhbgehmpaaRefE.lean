/- The document's bytes of what is saved (reference 27): contract. -/
import Derived.Test.YtjgagbhbgehmpaaRefK
namespace Go.Proofs.Ytjgagbhbgehmpaa
open Go.RowKit

/-- A slice of slices of numbers. -/
def RowsI (w : World) (A : Option Addr) (ls : List (List Int)) : Prop :=
  ∀ j (hj : j < ls.length), ∃ b off S c, A = some ⟨b, off, none⟩ ∧ b < w.heap.size ∧ w.cell? ⟨b, off + j, none⟩ = some (.slice S ls[j].length c) ∧ Ints .i64 w S ls[j]
theorem RowsI.below {B : Nat} {w w' : World} {A : Option Addr} {ls : List (List Int)} (h : RowsI w A ls) (hb : Below B w w') (hB : w.heap.size ≤ B) : RowsI w' A ls := fun j hj => by
  obtain ⟨b, off, S, c, e, hl, c0, hI⟩ := h j hj
  exact ⟨b, off, S, c, e, Nat.lt_of_lt_of_le hl hb.size, (hb.cell (p := ⟨b, off + j, none⟩) (Nat.lt_of_lt_of_le hl hB)).trans c0, hI.below hb hB⟩
theorem Mets.at_ {w : World} {A : Option Addr} {ms : List Met} (h : Mets w A ms) {j : Nat} (hj : j < ms.length) : ∃ b off, A = some ⟨b, off, none⟩ ∧ b < w.heap.size ∧ ∀ k (hk : k < 6), w.cell? ⟨b, off + j * 6 + k, none⟩ = some (.int .i64 (ms[j].l[k]'(by simpa [Met.l] using hk))) := by
  obtain ⟨b, off, e, hl, c0, c1, c2, c3, c4, c5⟩ := h j hj
  refine ⟨b, off, e, hl, fun k hk => ?_⟩
  match k, hk with
  | 0, _ => exact c0
  | 1, _ => exact c1
  | 2, _ => exact c2
  | 3, _ => exact c3
  | 4, _ => exact c4
  | 5, _ => exact c5

namespace Sav
/-- Small enough to be gone through. -/
def tiny (s : Sav) : Prop := s.p.length ≤ 800 ∧ s.v.length ≤ 800 ∧ s.m.length ≤ 40 ∧ (∀ t ∈ s.p, t.s.length ≤ 800 ∧ t.c.length ≤ 800) ∧ (∀ t ∈ s.v, t.s.length ≤ 800 ∧ t.c.length ≤ 800)
end Sav
namespace Kp
theorem tens_len' {l : List Ten} (h : ∀ t ∈ l, t.s.length ≤ 800 ∧ t.c.length ≤ 800) : (tens l).length ≤ l.length * 8001 := flat_le _ _ _ fun t ht => by
  have := h t ht
  rw [List.length_append, Fp.shape_length, Fp.words_length]
  omega
theorem cells_len' {l : List Ten} (h : ∀ t ∈ l, t.s.length ≤ 800 ∧ t.c.length ≤ 800) : (cells l).length ≤ l.length * 6400 := flat_le _ _ _ fun t ht => by
  have := h t ht
  rw [Fp.words_length]
  omega
theorem small_take {l : List Ten} (h : ∀ t ∈ l, t.s.length ≤ 800 ∧ t.c.length ≤ 800) (k : Nat) : ∀ t ∈ l.take k, t.s.length ≤ 800 ∧ t.c.length ≤ 800 := fun t ht => h t (List.mem_of_mem_take ht)
theorem words_take (l : List Int) (k : Nat) (h : k < l.length) : Fp.words (l.take (k + 1)) = Fp.words (l.take k) ++ Fp.big l[k] 8 := Fp.wordsTo_succ l k h
theorem mets_take' (l : List Met) (k : Nat) (h : k < l.length) : mets (l.take (k + 1)) = mets (l.take k) ++ Fp.words l[k].l := take_flat _ _ _ h
end Kp

set_option maxHeartbeats 4000000 in
set_option maxRecDepth 100000 in
theorem ref27_encode (P V M : Option Addr) (c1 c2 c3 : Nat) (s : Sav) (w : World) (ht : s.tiny) (hP : Tens w P s.p) (hV : RowsI w V (s.v.map (·.c))) (hM : Mets w M s.m) :
    Calls Try.prog 32 #[.slice P s.p.length c1, .slice V (s.v.map (·.c)).length c2, .slice M s.m.length c3] w fun e w' => e = .returned (.string (strOfNums (Kp.enc s))) ∧ Below w.heap.size w w' := by
  obtain ⟨ht1, ht2, ht3, ht4, ht5⟩ := ht
  rw [List.length_map]
  have HP := Lib.hid hP
  have HV := Lib.hid hV
  have HM := Lib.hid hM
  have Ht4 := Lib.hid ht4
  have Ht5 := Lib.hid ht5
  clear hP hV hM ht4 ht5
  have hu0 : IntKind.u64.wrap (s.p.length : Int) = s.p.length := IntWalk.u64_in _ (by omega)
  have hu1 : IntKind.u64.wrap (s.m.length : Int) = s.m.length := IntWalk.u64_in _ (by omega)
  go_enter Try.func32, Try.ntmps32
  go_wp2_with fail
  refine (ref_big s.p.length 2 _ (by omega) (by omega) (by omega)).mono ?_
  rintro e w1 ⟨rfl, h1⟩
  have HT0 := Lib.hid (show (⟨#[65, 84, 72, 83]⟩ : ByteArray) ++ strOfNums (Fp.big s.p.length 2) = strOfNums (Kp.head s ++ Kp.tens (s.p.take 0)) by
    have e : (⟨#[65, 84, 72, 83]⟩ : ByteArray) = strOfNums (Fp.big 1096042579 4) := by decide +kernel
    rw [e, ← strOfNums_append]; simp [Kp.tens, Kp.head])
  have hz0 : (strOfNums (Fp.big s.p.length 2)).size ≤ 2 := str_size_le (by rw [Fp.big_length]; omega)
  generalize strOfNums (Fp.big s.p.length 2) = t0 at *
  go_wp2_with fail
  go_loopw [7, 8] (fun o i wr => ∃ (k : Nat) (t : ByteArray), k ≤ s.p.length ∧ i = .int .i64 k ∧ o = .string t ∧ t = strOfNums (Kp.head s ++ Kp.tens (s.p.take k)) ∧ t.size ≤ 10000000 ∧ Below w.heap.size w wr) (fun _ i _ => s.p.length - (intOf i).toNat)
  case atStart => exact ⟨0, _, Nat.zero_le _, rfl, rfl, HT0.out, by rw [HT0.out, strOfNums_size]; simp [Kp.tens, Kp.head_len], h1⟩
  case round =>
    clear h1 HT0 hz0
    obtain ⟨k, t, hk, rfl, rfl, ht, hts, hbel⟩ := hrel
    have hsz := hbel.size
    have Ht := Lib.hid ht
    clear ht
    by_cases hlt : k < s.p.length
    · obtain ⟨b, off, S, cS, C, dC, rfl, hb, e0, e1, hTR, _, _⟩ := HP.out.below hbel (Nat.le_refl _) k hlt
      have hsm := Ht4.out s.p[k] (List.getElem_mem hlt)
      have hnext := Kp.tens_take s.p k hlt
      have hln := Kp.tens_len' (Kp.small_take Ht4.out (k + 1))
      rw [List.length_take, Nat.min_eq_left (by omega)] at hln
      have k0 : (0 : Int) ≤ k := by omega
      have k1 : (k : Int) < s.p.length := by omega
      have Hnext := Lib.hid hnext
      have Hln := Lib.hid hln
      have HTR := Lib.hid hTR
      clear hnext hln hTR
      generalize s.p[k] = x at *
      obtain ⟨hx1, hx2⟩ := hsm
      have hbd : Below wr.heap.size wr wr.drew := (Below.refl _ _).drew
      have y1 := str_size_le (Nat.le_of_eq (Fp.shape_length x.s))
      have y2 := str_size_le (Nat.le_of_eq (Fp.words_length x.c))
      have hc1 : ¬ 9223372036854775807 < (strOfNums (Fp.shape x.s)).size + (strOfNums (Fp.words x.c)).size := by omega
      have hc2 : ¬ 9223372036854775807 < t.size + ((strOfNums (Fp.shape x.s)).size + (strOfNums (Fp.words x.c)).size) := by omega
      go_wp2_with fail
      go_region_held3 (fun w' => w'.cell? ⟨b, off + k * 2, none⟩ = some (.slice S x.s.length cS) ∧ w'.cell? ⟨b, off + k * 2 + 1, none⟩ = some (.slice C x.c.length dC)) (go_keep)
        (first
          | (go_at_call 47; refine (ref_shape S cS x.s _ (by omega) (HTR.out.1.below hbd (Nat.le_refl _))).mono ?_; rintro e w2 ⟨rfl, h2⟩; have hb2 : Below wr.heap.size wr w2 := hbd.trans h2; have z0 := (hb2.cell (p := ⟨b, off + k * 2, none⟩) hb).trans e0; have z1 := (hb2.cell (p := ⟨b, off + k * 2 + 1, none⟩) hb).trans e1)
          | (go_at_call 48; refine (ref_cells C dC x.c _ (by omega) (HTR.out.2.below hb2 (Nat.le_refl _))).mono ?_; rintro e w3 ⟨rfl, h3⟩; have hb3 : Below wr.heap.size wr w3 := hb2.trans (h3.mono hb2.size); have z2 := (hb3.cell (p := ⟨b, off + k * 2, none⟩) hb).trans e0; have z3 := (hb3.cell (p := ⟨b, off + k * 2 + 1, none⟩) hb).trans e1))
      have hb4 := hbel.trans (hb3.mono hsz)
      have HT := Lib.hid (show t ++ (strOfNums (Fp.shape x.s) ++ strOfNums (Fp.words x.c)) = strOfNums (Kp.head s ++ Kp.tens (s.p.take (k + 1))) by rw [Ht.out, Hnext.out]; simp only [strOfNums_append, ByteArray.append_assoc])
      have HZ := Lib.hid (show (t ++ (strOfNums (Fp.shape x.s) ++ strOfNums (Fp.words x.c))).size ≤ 10000000 by rw [HT.out, strOfNums_size, List.length_append, Kp.head_len]; have := Hln.out; omega)
      clear z0 z1 z2 z3 e0 e1 hb2 hb3 h2 h3 hbel hc1 hc2 y1 y2
      generalize t ++ (strOfNums (Fp.shape x.s) ++ strOfNums (Fp.words x.c)) = t2 at *
      go_wp2_with fail
      go_roundw
      case rel => exact ⟨k + 1, t2, by omega, by go_num, rfl, HT.out, HZ.out, hb4⟩
      case measure => simp [intOf]; omega
    · obtain rfl : k = s.p.length := by omega
      rw [List.take_length] at Ht
      have HT1 := Lib.hid (show t = strOfNums (Kp.head s ++ Kp.tens s.p ++ Kp.cells (s.v.take 0)) by rw [Ht.out]; simp [Kp.cells])
      have hlp := Kp.tens_len' Ht4.out
      clear Ht
      go_wp2_with fail
      go_loopw [7, 9] (fun o i wr => ∃ (k : Nat) (t : ByteArray), k ≤ s.v.length ∧ i = .int .i64 k ∧ o = .string t ∧ t = strOfNums (Kp.head s ++ Kp.tens s.p ++ Kp.cells (s.v.take k)) ∧ t.size ≤ 20000000 ∧ Below w.heap.size w wr) (fun _ i _ => s.v.length - (intOf i).toNat)
      case atStart => exact ⟨0, t, Nat.zero_le _, rfl, rfl, HT1.out, by omega, hbel⟩
      case round =>
        clear HT1 hts hbel hsz
        obtain ⟨wo, rfl⟩ : ∃ wo : World, wo = wr := ⟨_, rfl⟩
        obtain ⟨k, t, hk, rfl, rfl, ht, hts, hbel⟩ := hrel
        have hsz := hbel.size
        have Ht := Lib.hid ht
        clear ht
        by_cases hlt : k < s.v.length
        · obtain ⟨b, off, S, cS, rfl, hb, e0, hI⟩ := HV.out.below hbel (Nat.le_refl _) k (by rw [List.length_map]; exact hlt)
          rw [List.getElem_map] at e0 hI
          have hsm := Ht5.out s.v[k] (List.getElem_mem hlt)
          have hnext := Kp.cells_take s.v k hlt
          have hln := Kp.cells_len' (Kp.small_take Ht5.out (k + 1))
          rw [List.length_take, Nat.min_eq_left (by omega)] at hln
          have Hnext := Lib.hid hnext
          have Hln := Lib.hid hln
          have HI := Lib.hid hI
          clear hnext hln hI
          generalize s.v[k] = x at *
          obtain ⟨hx1, hx2⟩ := hsm
          go_wp2_with fail
          refine (ref_cells S cS x.c _ (by omega) HI.out).mono ?_
          rintro e w2 ⟨rfl, h2⟩
          have hb2 := hbel.trans (h2.mono hsz)
          have y2 := str_size_le (Nat.le_of_eq (Fp.words_length x.c))
          have HT := Lib.hid (show t ++ strOfNums (Fp.words x.c) = strOfNums (Kp.head s ++ Kp.tens s.p ++ Kp.cells (s.v.take (k + 1))) by rw [Ht.out, Hnext.out]; simp only [strOfNums_append, ByteArray.append_assoc])
          have HZ := Lib.hid (show (t ++ strOfNums (Fp.words x.c)).size ≤ 20000000 by rw [HT.out, strOfNums_size, List.length_append, List.length_append, Kp.head_len]; have := Hln.out; omega)
          generalize strOfNums (Fp.words x.c) = t2 at *
          clear h2 hbel e0
          go_wp2_with fail
          go_roundw
          case rel => exact ⟨k + 1, _, by omega, by go_num, rfl, HT.out, HZ.out, hb2⟩
          case measure => simp [intOf]; omega
        · obtain rfl : k = s.v.length := by omega
          rw [List.take_length] at Ht
          go_wp2_with fail
          refine (ref_big s.m.length 2 _ (by omega) (by omega) (by omega)).mono ?_
          rintro e w2 ⟨rfl, h2⟩
          have hb2 := hbel.trans (h2.mono hsz)
          have HT := Lib.hid (show t ++ strOfNums (Fp.big s.m.length 2) = strOfNums (Kp.head s ++ Kp.tens s.p ++ Kp.cells s.v ++ Fp.big s.m.length 2 ++ Kp.mets (s.m.take 0)) by rw [Ht.out]; simp [Kp.mets, strOfNums_append, ByteArray.append_assoc])
          have hz2 : (strOfNums (Fp.big s.m.length 2)).size ≤ 2 := str_size_le (by rw [Fp.big_length]; omega)
          have HZ := Lib.hid (show (t ++ strOfNums (Fp.big s.m.length 2)).size ≤ 30000000 by rw [ByteArray.size_append]; omega)
          generalize strOfNums (Fp.big s.m.length 2) = t2 at *
          have hlv := Kp.cells_len' Ht5.out
          clear h2 hbel
          go_wp2_with fail
          go_loopw [7, 10, 11] (fun o i _ wr => ∃ (k : Nat) (t : ByteArray), k ≤ s.m.length ∧ i = .int .i64 k ∧ o = .string t ∧ t = strOfNums (Kp.head s ++ Kp.tens s.p ++ Kp.cells s.v ++ Fp.big s.m.length 2 ++ Kp.mets (s.m.take k)) ∧ t.size ≤ 30000000 ∧ Below w.heap.size w wr) (fun _ i _ _ => s.m.length - (intOf i).toNat)
          case atStart => exact ⟨0, _, Nat.zero_le _, rfl, rfl, HT.out, HZ.out, hb2⟩
          case round =>
            clear HT HZ hts hb2 hsz Ht hz2
            obtain ⟨wp, rfl⟩ : ∃ wp : World, wp = wr := ⟨_, rfl⟩
            obtain ⟨k, t, hk, rfl, rfl, ht, hts, hbel⟩ := hrel
            have hsz := hbel.size
            have Ht := Lib.hid ht
            clear ht
            by_cases hlt : k < s.m.length
            · have hnext := Kp.mets_take' s.m k hlt
              have hln := Kp.mets_len (s.m.take (k + 1))
              rw [List.length_take, Nat.min_eq_left (by omega)] at hln
              have Hnext := Lib.hid hnext
              have Hln := Lib.hid hln
              clear hnext hln
              have HT3 := Lib.hid (show t = strOfNums (Kp.head s ++ Kp.tens s.p ++ Kp.cells s.v ++ Fp.big s.m.length 2 ++ Kp.mets (s.m.take k) ++ Fp.words (s.m[k].l.take 0)) by rw [Ht.out]; simp [Fp.words])
              go_wp2_with fail
              go_loopw [7, 11] (fun o j wr => ∃ (q : Nat) (t : ByteArray), q ≤ 6 ∧ j = .int .i64 q ∧ o = .string t ∧ t = strOfNums (Kp.head s ++ Kp.tens s.p ++ Kp.cells s.v ++ Fp.big s.m.length 2 ++ Kp.mets (s.m.take k) ++ Fp.words (s.m[k].l.take q)) ∧ t.size ≤ 30000100 ∧ Below w.heap.size w wr) (fun _ j _ => 6 - (intOf j).toNat)
              case atStart => exact ⟨0, t, Nat.zero_le _, rfl, rfl, HT3.out, by omega, hbel⟩
              case round =>
                clear HT3 hbel hts
                obtain ⟨wq, rfl⟩ : ∃ wq : World, wq = wr := ⟨_, rfl⟩
                obtain ⟨q, t, hq, rfl, rfl, ht, hts, hbel⟩ := hrel
                have hsz := hbel.size
                have Ht := Lib.hid ht
                clear ht
                by_cases hlq : q < 6
                · obtain ⟨b, off, rfl, hb, hcell⟩ := (HM.out.below hbel (Nat.le_refl _)).at_ hlt
                  have e0 := hcell q hlq
                  have hw := Kp.words_take s.m[k].l q (by simpa [Met.l] using hlq)
                  have hln2 := Kp.mets_len (s.m.take k)
                  rw [List.length_take, Nat.min_eq_left (by omega)] at hln2
                  have hln3 : (Fp.words (s.m[k].l.take (q + 1))).length ≤ 48 := by rw [Fp.words_length, List.length_take]; have : s.m[k].l.length = 6 := rfl; omega
                  have Hw := Lib.hid hw
                  have Hln2 := Lib.hid hln2
                  have Hln3 := Lib.hid hln3
                  clear hw hln2 hln3
                  clear hcell
                  generalize s.m[k].l[q] = x at *
                  have hu : IntKind.u64.wrap x = x % 18446744073709551616 := IntKind.wrap_u64 _
                  have q6 : (q : Int) < 6 := by omega
                  have q0 : (0 : Int) ≤ q := by omega
                  go_wp2_with fail
                  refine (ref_big (x % 18446744073709551616) 8 _ (by omega) (by omega) (by omega)).mono ?_
                  rintro e w2 ⟨rfl, h2⟩
                  have hb2 := hbel.trans (h2.mono hsz)
                  rw [Fp.big_wrap _ _ (by omega)]
                  have HT := Lib.hid (show t ++ strOfNums (Fp.big x 8) = strOfNums (Kp.head s ++ Kp.tens s.p ++ Kp.cells s.v ++ Fp.big s.m.length 2 ++ Kp.mets (s.m.take k) ++ Fp.words (s.m[k].l.take (q + 1))) by rw [Ht.out, Hw.out]; simp only [strOfNums_append, ByteArray.append_assoc])
                  have HZ := Lib.hid (show (t ++ strOfNums (Fp.big x 8)).size ≤ 30000100 by rw [HT.out, strOfNums_size]; simp only [List.length_append, Kp.head_len, Fp.big_length]; have := Hln2.out; have := Hln3.out; omega)
                  have hz2 : (strOfNums (Fp.big x 8)).size ≤ 8 := str_size_le (by rw [Fp.big_length]; omega)
                  generalize strOfNums (Fp.big x 8) = t2 at *
                  clear h2 hbel e0
                  go_wp2_with fail
                  go_roundw
                  case rel => exact ⟨q + 1, _, by omega, by go_num, rfl, HT.out, HZ.out, hb2⟩
                  case measure => simp [intOf]; omega
                · obtain rfl : q = 6 := by omega
                  have HT := Lib.hid (show t = strOfNums (Kp.head s ++ Kp.tens s.p ++ Kp.cells s.v ++ Fp.big s.m.length 2 ++ Kp.mets (s.m.take (k + 1))) by rw [Ht.out, Hnext.out]; rw [show s.m[k].l.take 6 = s.m[k].l from rfl]; simp only [List.append_assoc])
                  have HZ := Lib.hid (show t.size ≤ 30000000 by rw [HT.out, strOfNums_size]; simp only [List.length_append, Kp.head_len, Fp.big_length]; have := Hln.out; omega)
                  go_wp2_with fail
                  go_roundw
                  case rel => exact ⟨k + 1, t, by omega, by go_num, rfl, HT.out, HZ.out, hbel⟩
                  case measure => simp [intOf]; omega
            · obtain rfl : k = s.m.length := by omega
              rw [List.take_length] at Ht
              have HB := Lib.hid (show t = strOfNums (Kp.body s) from Ht.out)
              have HN := Lib.hid (show numsOf t = Kp.body s by rw [HB.out, numsOf_str (Kp.body_byte s)])
              have hsr := Fp.sum_range (numsOf t)
              obtain ⟨hs0, hs1⟩ := hsr
              go_wp2_with fail
              refine (ref_sum t _ (by omega)).mono ?_
              rintro e w2 ⟨rfl, rfl⟩
              go_wp2_with fail
              refine (ref_big (Fp.sum (numsOf t)) 4 _ hs0 (by omega) (by omega)).mono ?_
              rintro e w3 ⟨rfl, h3⟩
              have hb3 := hbel.trans (h3.mono hsz)
              have HT := Lib.hid (show t ++ strOfNums (Fp.big (Fp.sum (numsOf t)) 4) = strOfNums (Kp.enc s) by rw [HN.out, HB.out, Kp.enc, strOfNums_append])
              have hz2 : (strOfNums (Fp.big (Fp.sum (numsOf t)) 4)).size ≤ 4 := str_size_le (by rw [Fp.big_length]; omega)
              generalize strOfNums (Fp.big (Fp.sum (numsOf t)) 4) = t2 at *
              clear h3 hbel
              go_wp2_with fail
              go_ret
              exact ⟨by rw [← HT.out]; rfl, hb3⟩
end Go.Proofs.Ytjgagbhbgehmpaa
