/- The law's own helpers of layer 27: cells, size, small, sealed: contracts. -/
import Derived.Test.YtjgagbhbgehmpaaRefE
import Derived.Test.YtjgagbhbgehmpaaKeepS
import Derived.Lib.ConvBytes
namespace Go.Proofs.Ytjgagbhbgehmpaa
open Go.RowKit

theorem wrap_add (a b : Int) : wrap64 (a + wrap64 b) = wrap64 (a + b) := by unfold wrap64; omega
theorem wrap_add' (a b : Int) : wrap64 (wrap64 a + b) = wrap64 (a + b) := by unfold wrap64; omega
theorem wrap_in (a : Int) (h0 : -9223372036854775808 ≤ a) (h1 : a ≤ 9223372036854775807) : wrap64 a = a := by unfold wrap64; omega

namespace Lw
/-- How large tensors are, as the law counts it. -/
def raw (l : List Ten) : Int := (l.map fun t => 1 + (t.s.length : Int) + (t.c.length : Int)).sum
def sz (l : List Ten) : Int := wrap64 (raw l)
def small (s : Sav) : Bool := decide (wrap64 (sz s.p + sz s.v) ≤ 800) && decide (s.m.length ≤ 40)
theorem raw_take (l : List Ten) (k : Nat) (h : k < l.length) : raw (l.take (k + 1)) = raw (l.take k) + (1 + (l[k].s.length : Int) + (l[k].c.length : Int)) := by
  unfold raw
  rw [List.take_succ_eq_append_getElem h, List.map_append, List.sum_append]; simp
theorem sz_take (l : List Ten) (k : Nat) (h : k < l.length) : sz (l.take (k + 1)) = wrap64 (sz (l.take k) + wrap64 (wrap64 (1 + (l[k].s.length : Int)) + (l[k].c.length : Int))) := by
  unfold sz
  rw [raw_take _ _ h]
  unfold wrap64
  omega
end Lw

set_option maxHeartbeats 1000000 in
theorem law_size (A : Option Addr) (c : Nat) (ts : List Ten) (w : World) (hl : ts.length ≤ 9223372036854775807) (hT : Tens w A ts) :
    Calls Try.prog 18 #[.slice A ts.length c] w fun e w' => e = .returned (.int .i64 (Lw.sz ts)) ∧ Below w.heap.size w w' := by
  have HT := Lib.hid hT
  clear hT
  go_enter Try.func18, Try.ntmps18
  go_wp2_with fail
  go_loopw [3, 5, 8] (fun n _ i wr => ∃ k : Nat, k ≤ ts.length ∧ i = .int .i64 k ∧ n = .int .i64 (Lw.sz (ts.take k)) ∧ Below w.heap.size w wr) (fun _ _ i _ => ts.length - (intOf i).toNat)
  case atStart => exact ⟨0, Nat.zero_le _, rfl, by simp [Lw.sz, Lw.raw, wrap64], Below.refl _ _⟩
  case round =>
    obtain ⟨k, hk, rfl, rfl, hbel⟩ := hrel
    by_cases hlt : k < ts.length
    · obtain ⟨b, off, S, cS, C, dC, rfl, hb, c0, c1, hTR, hs1, hs2⟩ := HT.out.below hbel (Nat.le_refl _) k hlt
      have hb1 := hbel.alloc hbel.size (.cells #[.slice S ts[k].s.length cS, .slice C ts[k].c.length dC] 48)
      have hst := Lw.sz_take ts k hlt
      have HTR := Lib.hid hTR
      have Hst := Lib.hid hst
      clear hTR hst
      generalize ts[k] = t at *
      generalize Lw.sz (ts.take k) = z at *
      go_wp2_with fail
      go_roundw
      case rel => exact ⟨k + 1, by omega, by go_num, by rw [Hst.out], hb1⟩
      case measure => simp [intOf]; omega
    · obtain rfl : k = ts.length := by omega
      rw [List.take_length]
      go_wp2_with fail
      go_ret
      exact ⟨rfl, hbel⟩

namespace Lw
theorem raw_nonneg (l : List Ten) : 0 ≤ raw l := by
  induction l with
  | nil => simp [raw]
  | cons t r ih => simp only [raw, List.map_cons, List.sum_cons] at ih ⊢; omega
theorem raw_le {l : List Ten} (h : l.all Tn.right = true) : raw l ≤ (l.length : Int) * 65541 := by
  induction l with
  | nil => simp [raw]
  | cons t r ih =>
    simp only [List.all_cons, Bool.and_eq_true] at h
    have h1 := Tn.right_len h.1
    have h2 := ih h.2
    simp only [raw, List.map_cons, List.sum_cons, List.length_cons] at h2 ⊢
    omega
theorem raw_ge (l : List Ten) : (l.length : Int) ≤ raw l := by
  induction l with
  | nil => simp [raw]
  | cons t r ih => simp only [raw, List.map_cons, List.sum_cons, List.length_cons] at ih ⊢; omega
theorem raw_mem {l : List Ten} {t : Ten} (h : t ∈ l) : 1 + (t.s.length : Int) + (t.c.length : Int) ≤ raw l := by
  induction l with
  | nil => cases h
  | cons u r ih =>
    have h2 := raw_nonneg r
    simp only [raw, List.map_cons, List.sum_cons] at ih h2 ⊢
    rcases List.mem_cons.1 h with rfl | h
    · omega
    · have := ih h; omega
/-- What the law calls small is small, if it is right. -/
theorem small_tiny {s : Sav} (h : small s = true) (ha : Tn.alike s.p s.v = true) (hp : s.p.length ≤ 3000000000000) : s.tiny := by
  simp only [small, Bool.and_eq_true, decide_eq_true_eq] at h
  obtain ⟨h1, h2⟩ := h
  obtain ⟨hl, hr, hv, _⟩ := Kp.alike_all ha
  have p1 := raw_le hr
  have p2 := raw_nonneg s.p
  have p3 := raw_ge s.p
  have v1 := raw_le hv
  have v2 := raw_nonneg s.v
  have v3 := raw_ge s.v
  unfold sz at h1
  rw [wrap_in (raw s.p) (by omega) (by omega), wrap_in (raw s.v) (by omega) (by omega), wrap_in _ (by omega) (by omega)] at h1
  refine ⟨by omega, by omega, h2, fun t ht => ?_, fun t ht => ?_⟩
  · have := raw_mem ht; omega
  · have := raw_mem ht; omega
end Lw

set_option maxHeartbeats 1000000 in
theorem law_small (P V M : Option Addr) (c1 c2 c3 : Nat) (s : Sav) (w : World) (hp : s.p.length ≤ 9223372036854775807) (hv : s.v.length ≤ 9223372036854775807) (hS : SavR w P V M s) :
    Calls Try.prog 7 #[.agg #[.slice P s.p.length c1, .slice V s.v.length c2, .slice M s.m.length c3]] w fun e w' => e = .returned (.bool (Lw.small s)) ∧ Below w.heap.size w w' := by
  have hk0 := Blk.new w 27 #[.slice P s.p.length c1, .slice V s.v.length c2, .slice M s.m.length c3]
  have hb0 : Below w.heap.size w (w.alloc (.cells #[.slice P s.p.length c1, .slice V s.v.length c2, .slice M s.m.length c3] 27)).drew := ((Below.refl _ _).alloc (Nat.le_refl _) _).drew
  have HP := Lib.hid (hS.1.below hb0 (Nat.le_refl _))
  have HV := Lib.hid (hS.2.1)
  have hsP := fun W h => law_size P c1 s.p W hp h
  have hsV := fun W h => law_size V c2 s.v W hv h
  have HSm := Lib.hid (show Lw.small s = (decide (wrap64 (Lw.sz s.p + Lw.sz s.v) ≤ 800) && decide ((s.m.length : Int) ≤ 40)) by unfold Lw.small; congr 1; simp; omega)
  have HsP := Lib.hid hsP
  have HsV := Lib.hid hsV
  have Hk0 := Lib.hid hk0
  clear hsP hsV hk0
  clear hS
  generalize Lw.sz s.p = a at *
  generalize Lw.sz s.v = b at *
  obtain ⟨z, hz⟩ : ∃ z, wrap64 (a + b) = z := ⟨_, rfl⟩
  rw [hz] at HSm
  have hwr : IntKind.i64.wrap (a + b) = z := (IntWalk.i64_left _).trans hz
  by_cases hz8 : z ≤ 800
  · go_enter Try.func7, Try.ntmps7
    go_wp2_with fail
    go_region_held3 (fun w' => w'.cell? ⟨w.heap.size, 0, none⟩ = some (.slice P s.p.length c1) ∧ w'.cell? ⟨w.heap.size, 1, none⟩ = some (.slice V s.v.length c2) ∧ w'.cell? ⟨w.heap.size, 2, none⟩ = some (.slice M s.m.length c3)) (go_keep) (first
      | (go_at_call_of 18 (Value.slice P s.p.length c1); refine (HsP.out _ HP.out).mono ?_; rintro e w2 ⟨rfl, h2⟩; have hz0 := (Hk0.out.drew.below h2 Hk0.out.lt).cell 0; have hz1 := (Hk0.out.drew.below h2 Hk0.out.lt).cell 1; have hz2 := (Hk0.out.drew.below h2 Hk0.out.lt).cell 2; simp at hz0 hz1 hz2; have hb2 := hb0.trans (h2.mono hb0.size))
      | (go_at_call_of 18 (Value.slice V s.v.length c2); refine (HsV.out _ (HV.out.below hb2 (Nat.le_refl _))).mono ?_; rintro e w3 ⟨rfl, h3⟩; have hb3 := hb2.trans (h3.mono hb2.size); have hy0 := ((Hk0.out.drew.below h2 Hk0.out.lt).below h3 (Hk0.out.drew.below h2 Hk0.out.lt).lt).cell 0; have hy1 := ((Hk0.out.drew.below h2 Hk0.out.lt).below h3 (Hk0.out.drew.below h2 Hk0.out.lt).lt).cell 1; have hy2 := ((Hk0.out.drew.below h2 Hk0.out.lt).below h3 (Hk0.out.drew.below h2 Hk0.out.lt).lt).cell 2; simp at hy0 hy1 hy2))
    go_wp2_with fail
    go_ret
    exact ⟨by rw [HSm.out]; simp [hz8], hb3⟩
  · have hd : decide (z ≤ 800) = false := by simp; omega
    go_enter Try.func7, Try.ntmps7
    go_wp2_with fail
    first | (go_region_with (first
      | (go_at_call_of 18 (Value.slice P s.p.length c1); refine (HsP.out _ HP.out).mono ?_; rintro e w2 ⟨rfl, h2⟩; have hz2 := (Hk0.out.drew.below h2 Hk0.out.lt).cell 1; simp at hz2; have hb2 := hb0.trans (h2.mono hb0.size))
      | (go_at_call_of 18 (Value.slice V s.v.length c2); refine (HsV.out _ (HV.out.below hb2 (Nat.le_refl _))).mono ?_; rintro e w3 ⟨rfl, h3⟩; have hb3 := hb2.trans (h3.mono hb2.size)))) | skip
    all_goals
      go_wp2_with fail
      go_ret
      exact ⟨by rw [HSm.out, hd]; rfl, hb3⟩

theorem bytesWorld_ints (w : World) (e : TypeId) (s : ByteArray) : Ints .u8 (Lib.bytesWorld w e s) (some ⟨w.heap.size, 0, none⟩) (numsOf s) := Ints.of_row fun j hj => by
  rw [numsOf_length] at hj
  rw [Nat.zero_add, Lib.bytesWorld_cell w e s j hj]
  have : j < s.data.toList.length := by simpa using hj
  simp [numsOf, List.getD, List.getElem?_map, hj]
theorem bytesWorld_below (w : World) (e : TypeId) (s : ByteArray) : Below w.heap.size w (Lib.bytesWorld w e s) :=
  ⟨rfl, rfl, rfl, by rw [Lib.bytesWorld_size]; omega, fun k hk => Lib.bytesWorld_at_old w e s k hk⟩
def SealedP (bs : List Int) (w : World) (e : Ending) (w' : World) : Prop :=
  ∃ A c, e = .returned (.slice A (bs.length + 4) c) ∧ Ints .u8 w' A (bs ++ Fp.big (Fp.sum bs) 4) ∧ bs.length + 4 ≤ c ∧ Below w.heap.size w w'
set_option maxHeartbeats 1000000 in
theorem law_sealed (bs : List Int) (w : World) (hl : bs.length ≤ 100000000) (hby : ∀ x ∈ bs, 0 ≤ x ∧ x ≤ 255) :
    Calls Try.prog 17 #[.string (strOfNums bs)] w (SealedP bs w) := by
  have HN := Lib.hid (numsOf_str hby)
  have hz : (strOfNums bs).size ≤ 100000000 := str_size_le hl
  have ⟨hs0, hs1⟩ := Fp.sum_range bs
  have hcv := fun (w : World) (s : ByteArray) => Lib.run_convert_string_bytes (P := Try.prog) w 9 30 5 s Try.underlying9 Try.underlying30 Try.underlying5
  go_enter Try.func17, Try.ntmps17
  go_wp2_with fail
  refine (ref_sum (strOfNums bs) _ (by omega)).mono ?_
  rintro e w1 ⟨rfl, rfl⟩
  rw [HN.out]
  go_wp2_with fail
  refine (ref_big (Fp.sum bs) 4 _ hs0 (by omega) (by omega)).mono ?_
  rintro e w2 ⟨rfl, h2⟩
  have hz2 : (strOfNums (Fp.big (Fp.sum bs) 4)).size ≤ 4 := str_size_le (by rw [Fp.big_length]; omega)
  have HT := Lib.hid (strOfNums_append bs (Fp.big (Fp.sum bs) 4))
  have HL := Lib.hid (show (bs ++ Fp.big (Fp.sum bs) 4).length = bs.length + 4 by rw [List.length_append, Fp.big_length])
  have HY := Lib.hid (show ∀ x ∈ bs ++ Fp.big (Fp.sum bs) 4, 0 ≤ x ∧ x ≤ 255 from fun x hx => by rcases List.mem_append.1 hx with h | h; exact hby x h; exact Fp.big_byte _ _ x h)
  clear hby
  go_wp2_with fail
  go_ret
  have HZ : (strOfNums bs).size + (strOfNums (Fp.big (Fp.sum bs) 4)).size = bs.length + 4 := by rw [strOfNums_size, strOfNums_size, Fp.big_length]
  refine ⟨some ⟨w2.heap.size, 0, none⟩, grownCap w2 (bs.length + 4) 0 5, ?_, ?_, ?_, ?_⟩
  · rw [← HZ]; rfl
  · rw [← HT.out]
    have := bytesWorld_ints w2 5 (strOfNums (bs ++ Fp.big (Fp.sum bs) 4))
    rwa [numsOf_str HY.out] at this
  · exact grownCap_ge _ _ _ _
  · exact h2.trans ((bytesWorld_below w2 _ _).mono h2.size)
end Go.Proofs.Ytjgagbhbgehmpaa
