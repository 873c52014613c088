/- Layer 3 (shape): contracts. -/
import Derived.Test.YtjkhpbngpceenaaSafeB
import Derived.Test.YtjkhpbngpceenaaInfo
import Derived.Laws.CopyOwn
namespace Go.Proofs.Ytjkhpbngpceenaa
open Go.RowKit

namespace Sh
def side (n : Int) : Bool := decide (1 ≤ n ∧ n ≤ 1024)
/-- May it be a shape? -/
def right (zs : List Int) : Bool := decide (1 ≤ zs.length ∧ zs.length ≤ 4) && zs.all side && decide (Safe.prod zs ≤ 65536)
def size (zs : List Int) : Int × Int := if right zs then (Safe.prod zs, 0) else (0, 20)
theorem side_iff (n : Int) : side n = true ↔ 1 ≤ n ∧ n ≤ 1024 := by simp [side]
theorem right_len {zs : List Int} (h : ¬ (1 ≤ zs.length ∧ zs.length ≤ 4)) : right zs = false := by simp [right]; intro a b; omega
theorem right_side {zs : List Int} (h : zs.all side = false) : right zs = false := by simp [right, h]
theorem right_prod {zs : List Int} (h1 : 1 ≤ zs.length ∧ zs.length ≤ 4) (h : zs.all side = true) : right zs = decide (Safe.prod zs ≤ 65536) := by simp [right, h, h1]
theorem all_safe {zs : List Int} (h : zs.all side = true) : zs.all Safe.ok = true ∧ zs.all (· != 0) = true := by
  rw [List.all_eq_true] at h
  refine ⟨List.all_eq_true.2 fun x hx => ?_, List.all_eq_true.2 fun x hx => ?_⟩
  · have := (side_iff x).1 (h x hx)
    exact (Safe.ok_iff x).2 (by omega)
  · have := (side_iff x).1 (h x hx)
    simp; omega
theorem prod_le {zs : List Int} (h : ∀ x ∈ zs, 1 ≤ x ∧ x ≤ 1024) (hl : zs.length ≤ 4) : Safe.prod zs ≤ 1099511627776 := by
  have h1 : ∀ x ∈ zs, 1 ≤ x := fun x hx => (h x hx).1
  match zs, hl with
  | [], _ => simp [Safe.prod]
  | [a], _ => have := h a (by simp); simp [Safe.prod]; omega
  | [a, b], _ =>
    have ha := h a (by simp); have hb := h b (by simp)
    simp only [Safe.prod, Int.mul_one]
    have := Int.mul_le_mul ha.2 hb.2 (by omega) (by omega)
    omega
  | [a, b, c], _ =>
    have ha := h a (by simp); have hb := h b (by simp); have hc := h c (by simp)
    simp only [Safe.prod, Int.mul_one]
    have h2 := Int.mul_le_mul hb.2 hc.2 (by omega) (by omega)
    have h3 := Int.mul_le_mul ha.2 h2 (Int.mul_nonneg (by omega) (by omega)) (by omega)
    omega
  | [a, b, c, d], _ =>
    have ha := h a (by simp); have hb := h b (by simp); have hc := h c (by simp); have hd := h d (by simp)
    simp only [Safe.prod, Int.mul_one]
    have h1 := Int.mul_le_mul hc.2 hd.2 (by omega) (by omega)
    have h2 := Int.mul_le_mul hb.2 h1 (Int.mul_nonneg (by omega) (by omega)) (by omega)
    have h3 := Int.mul_le_mul ha.2 h2 (Int.mul_nonneg (by omega) (Int.mul_nonneg (by omega) (by omega))) (by omega)
    omega
  | _ :: _ :: _ :: _ :: _ :: _, hl => simp at hl
theorem all_iff {zs : List Int} (h : zs.all side = true) : ∀ x ∈ zs, 1 ≤ x ∧ x ≤ 1024 := fun x hx => (side_iff x).1 (List.all_eq_true.1 h x hx)
theorem mul_ok {zs : List Int} (h1 : zs.length ≤ 4) (h : zs.all side = true) : Safe.mul zs = (Safe.prod zs, 0) :=
  Safe.mul_prod (all_safe h).1 (all_safe h).2 (prod_le (all_iff h) h1)
theorem right_mul {zs : List Int} (h : right zs = true) : Safe.mul zs = (Safe.prod zs, 0) ∧ zs.length ≤ 4 ∧ 1 ≤ zs.length ∧ (∀ x ∈ zs, 1 ≤ x ∧ x ≤ 1024) ∧ 1 ≤ Safe.prod zs ∧ Safe.prod zs ≤ 65536 := by
  simp [right] at h
  have h2 : zs.all side = true := List.all_eq_true.2 h.1.2
  exact ⟨mul_ok h.1.1.2 h2, h.1.1.2, by omega, all_iff h2, Safe.prod_pos zs (fun x hx => (all_iff h2 x hx).1), h.2⟩
end Sh

set_option maxHeartbeats 1000000 in
theorem shape_right (A : Option Addr) (c : Nat) (zs : List Int) (w : World) (hl : zs.length ≤ 9223372036854775807) (hI : Ints .i64 w A zs) :
    Calls Try.prog 55 #[.slice A zs.length c] w fun e w' => e = .returned (.bool (Sh.right zs)) ∧ Below w.heap.size w w' := by
  have HI := Lib.hid hI
  clear hI
  by_cases h1 : zs.length < 1
  · have HS := Lib.hid (Sh.right_len (zs := zs) (by omega))
    go_enter Try.func55, Try.ntmps55
    go_wp2_with fail
    go_ret
    exact ⟨by rw [HS.out]; rfl, Below.refl _ _⟩
  · by_cases h4 : 4 < zs.length
    · have HS := Lib.hid (Sh.right_len (zs := zs) (by omega))
      go_enter Try.func55, Try.ntmps55
      go_wp2_with fail
      go_ret
      exact ⟨by rw [HS.out]; rfl, Below.refl _ _⟩
    · go_enter Try.func55, Try.ntmps55
      go_wp2_with fail
      go_loopw [17] (fun i wr => wr = w ∧ ∃ k : Nat, k ≤ zs.length ∧ i = .int .i64 k ∧ ∀ x ∈ zs.take k, Sh.side x = true) (fun i _ => zs.length - (intOf i).toNat)
      case atStart => exact ⟨rfl, 0, Nat.zero_le _, rfl, by simp⟩
      case round =>
        obtain ⟨rfl, k, hk, rfl, hall⟩ := hrel
        have HA := Lib.hid hall
        clear hall
        by_cases hlt : k < zs.length
        · obtain ⟨b, off, rfl, hb, hc⟩ := HI.out k hlt
          by_cases hx1 : zs[k] < 1
          · have HS := Lib.hid (Sh.right_side (zs := zs) (by simp [List.all_eq_false]; exact ⟨zs[k], List.getElem_mem hlt, by simp [Sh.side]; omega⟩))
            go_wp2_with fail
            go_ret
            exact ⟨by rw [HS.out]; rfl, Below.refl _ _⟩
          · by_cases hx2 : 1024 < zs[k]
            · have HS := Lib.hid (Sh.right_side (zs := zs) (by simp [List.all_eq_false]; exact ⟨zs[k], List.getElem_mem hlt, by simp [Sh.side]; omega⟩))
              go_wp2_with fail
              go_ret
              exact ⟨by rw [HS.out]; rfl, Below.refl _ _⟩
            · go_wp2_with fail
              go_roundw
              case rel => exact ⟨trivial, k + 1, by omega, by go_num, fun x hx => by
                rw [List.take_succ_eq_append_getElem hlt, List.mem_append] at hx
                rcases hx with hx | hx
                · exact HA.out x hx
                · rw [List.mem_singleton] at hx; subst hx; exact (Sh.side_iff _).2 ⟨by omega, by omega⟩⟩
              case measure => simp [intOf]; omega
        · obtain rfl : k = zs.length := by omega
          rw [List.take_length] at HA
          have hall : zs.all Sh.side = true := List.all_eq_true.2 HA.out
          have HM := Lib.hid (Sh.mul_ok (by omega) hall)
          have HP := Lib.hid (Sh.right_prod (by omega) hall)
          clear hall HA
          go_wp2_with fail
          refine (safe_mul A c zs _ hl HI.out).mono ?_
          rintro e w1 ⟨rfl, hb1⟩
          rw [HM.out]
          by_cases hp : Safe.prod zs ≤ 65536
          · go_wp2_with fail
            go_ret
            exact ⟨by rw [HP.out]; simp [hp], hb1⟩
          · go_wp2_with fail
            go_ret
            exact ⟨by rw [HP.out]; simp [hp], hb1⟩

set_option maxHeartbeats 1000000 in
theorem shape_size (A : Option Addr) (c : Nat) (zs : List Int) (w : World) (hl : zs.length ≤ 9223372036854775807) (hI : Ints .i64 w A zs) :
    Calls Try.prog 60 #[.slice A zs.length c] w fun e w' => e = .returned (.tuple #[.int .i64 (Sh.size zs).1, .int .i64 (Sh.size zs).2]) ∧ Below w.heap.size w w' := by
  have HI := Lib.hid hI
  clear hI
  cases hr : Sh.right zs
  · have HS := Lib.hid (show Sh.size zs = (0, 20) by simp [Sh.size, hr])
    have HR := Lib.hid hr
    clear hr
    go_enter Try.func60, Try.ntmps60
    go_wp2_with fail
    refine (shape_right A c zs _ hl HI.out).mono ?_
    rintro e w1 ⟨rfl, h1⟩
    rw [HR.out]
    go_wp2_with fail
    go_ret2
    exact ⟨by rw [HS.out]; rfl, h1⟩
  · have HS := Lib.hid (show Sh.size zs = (Safe.prod zs, 0) by simp [Sh.size, hr])
    have HM := Lib.hid (Sh.right_mul hr).1
    have HR := Lib.hid hr
    clear hr
    go_enter Try.func60, Try.ntmps60
    go_wp2_with fail
    refine (shape_right A c zs _ hl HI.out).mono ?_
    rintro e w1 ⟨rfl, h1⟩
    rw [HR.out]
    go_wp2_with fail
    refine (safe_mul A c zs _ hl (HI.out.below h1 (Nat.le_refl _))).mono ?_
    rintro e w2 ⟨rfl, h2⟩
    rw [HM.out]
    go_wp2_with fail
    go_ret2
    exact ⟨by rw [HS.out]; rfl, h1.trans (h2.mono h1.size)⟩

theorem own_cur {w : World} {B g n : Nat} {e : TypeId} {xs : List Value} (h : w.ownsRow B e 1 (.slice (some ⟨g, 0, none⟩) n n) n xs) : w.heap[g]? = some (.cells xs.toArray e (0, 0)) := by
  rcases h.2 with ⟨hv, _⟩ | ⟨g', cap, cur, hv, _, hh, _, _, hc, ht⟩
  · cases hv
  · injection hv with h1 h2 h3
    injection h1 with h1
    injection h1 with h1
    subst h1 h3
    rw [hh]
    have : cur.toList = xs := by rw [← ht, List.take_of_length_le]; simp [hc]
    rw [← this]
theorem own_of_row {w : World} {B g n : Nat} {e : TypeId} {xs : List Value} (h : w.heap[g]? = some (.cells xs.toArray e (0, 0))) (hB : B ≤ g) (hn : xs.length = n) (hm : n ≤ maxLen) : w.ownsRow B e 1 (.slice (some ⟨g, 0, none⟩) n n) n xs := by
  subst hn
  exact ⟨by simp, .inr ⟨g, _, _, rfl, hB, h, Nat.le_refl _, hm, by simp, by simp⟩⟩
theorem splice_all {cur cs : List Value} (h : cs.length = cur.length) : splice cur 0 cs = cs := by
  simp [splice, h]
theorem Ints.src {k : IntKind} {w : World} {A : Option Addr} {zs : List Int} (h : Ints k w A zs) (hpos : 0 < zs.length) : ∃ ad, A = some ad ∧ ∀ j v, (zs.map (Value.int k))[j]? = some v → w.cell? (ad.add j) = some v := by
  obtain ⟨b, off, e, _, _⟩ := h 0 hpos
  refine ⟨⟨b, off, none⟩, e, fun j v hj => ?_⟩
  rw [List.getElem?_map] at hj
  obtain ⟨x, hx, rfl⟩ := Option.map_eq_some_iff.1 hj
  obtain ⟨hjl, rfl⟩ := List.getElem?_eq_some_iff.1 hx
  obtain ⟨b1, off1, e1, _, hc⟩ := h j hjl
  rw [e] at e1
  injection e1 with e1
  injection e1 with e2 e3
  subst e2 e3
  rw [Addr.add_lit, hc]
  simp [hjl]

theorem Ints.src' {k : IntKind} {w : World} {A : Option Addr} {zs : List Int} (h : Ints k w A zs) (hpos : 0 < zs.length) : ∃ ad, A = some ad ∧ ∀ j a, zs[j]? = some a → w.cell? (ad.add j) = some (.int k a) := by
  obtain ⟨ad, e, h⟩ := h.src hpos
  exact ⟨ad, e, fun j a ha => h j _ (by rw [List.getElem?_map, ha]; rfl)⟩

/-- A new row of the same numbers. -/
def CopyPost (t : TypeId) (k : IntKind) (zs : List Int) (w : World) (e : Ending) (w' : World) : Prop :=
  ∃ g, e = .returned (.slice (some ⟨g, 0, none⟩) zs.length zs.length) ∧ w.heap.size ≤ g ∧ w'.heap[g]? = some (.cells (zs.map (Value.int k)).toArray t (0, 0)) ∧ Below w.heap.size w w'

set_option maxHeartbeats 1000000 in
theorem shape_copy (A : Option Addr) (c : Nat) (zs : List Int) (w : World) (hl : zs.length ≤ 17592186043904) (hI : Ints .i64 w A zs) :
    Calls Try.prog 42 #[.slice A zs.length c] w (CopyPost 3 .i64 zs w) := by
  obtain ⟨i0, hi, hz0, hz1, hz2⟩ := info_parts int_info
  have HI := Lib.hid hI
  clear hI
  go_enter Try.func42, Try.ntmps42
  go_wp2_with (at_make; refine wpList_make_full _ rfl _ _ 23 rfl w.heap.size 3 i0 (.int .i64 0) 1 Try.underlying23 hi hz0 hz1 _ _ _ _ zs.length rfl rfl (by first | rfl | simp) (by first | rfl | simp) ?b2 ?b3 (Nat.le_refl _) ?_)
  case b2 => rw [hz2]; omega
  case b3 => unfold maxLen; omega
  intro w1 hown hgrow
  have hblk := own_cur hown
  have hb1 : Below w.heap.size w w1 := (Below.refl _ w).grown hgrow (Nat.le_refl _) (by simp)
  have hlen := hown.1
  have HI1 := Lib.hid (HI.out.below hb1 (Nat.le_refl _))
  generalize (madeCells #[Value.int .i64 0] zs.length).toList = cur at *
  clear hown hgrow HI
  go_wp2_with (with_reducible refine wpList_copy_splice rfl (.tmp 7) (.tmp 8) 23 23 rfl 3 Try.underlying23 ?d1 (some ⟨w.heap.size, 0, none⟩) A zs.length zs.length zs.length c rfl rfl w.heap.size 0 cur 3 hblk (zs.map (Value.int .i64)) ?d2 ?d3 ?d4 ?d5 w.heap.size w hb1 (Nat.le_refl _) ?_)
  case d1 => kernel_rfl
  case d2 => simp
  case d3 => intro hp; exact HI1.out.src' (by simpa using hp)
  case d4 => simp at hlen ⊢; omega
  case d5 => intro v hv; obtain ⟨x, _, rfl⟩ := List.mem_map.1 hv; rfl
  intro w2 hw2 hb2
  have hs := splice_all (cur := cur) (cs := zs.map (Value.int .i64)) (by simp at hlen ⊢; omega)
  have HF := Lib.hid (show w2.heap[w.heap.size]? = some (.cells (zs.map (Value.int .i64)).toArray 3 (0, 0)) by rw [← hs]; exact hw2.out)
  clear hw2 hb1 hlen hs hblk
  go_wp2_with fail
  go_ret
  exact ⟨w.heap.size, rfl, Nat.le_refl _, HF.out, hb2⟩

set_option maxHeartbeats 1000000 in
theorem ints_equal (A A' : Option Addr) (c c' : Nat) (xs ys : List Int) (w : World) (hl : xs.length ≤ 17592186043904) (hl' : ys.length ≤ 17592186043904) (hI : Ints .i64 w A xs) (hI' : Ints .i64 w A' ys) :
    Calls Try.prog 64 #[.slice A xs.length c, .slice A' ys.length c'] w fun e w' => e = .returned (.bool (xs == ys)) ∧ ∃ n, w' = w.drewN n := by
  have HI := Lib.hid hI
  have HI' := Lib.hid hI'
  clear hI hI'
  by_cases hn : xs.length = ys.length
  · have hq : ((xs.length : Int) != ys.length) = false := by simp [hn]
    have HN := Lib.hid hn
    clear hn
    go_enter Try.func64, Try.ntmps64
    go_wp2_with fail
    go_loopw [13] (fun i wr => ∃ k n : Nat, wr = w.drewN n ∧ k ≤ xs.length ∧ i = .int .i64 k ∧ xs.take k = ys.take k) (fun i _ => xs.length - (intOf i).toNat)
    case atStart => exact ⟨0, 0, rfl, Nat.zero_le _, rfl, rfl⟩
    case round =>
      obtain ⟨k, n, rfl, hk, rfl, htk⟩ := hrel
      have HT := Lib.hid htk
      clear htk
      by_cases hlt : k < xs.length
      · have hlt' : k < ys.length := by have := HN.out; omega
        obtain ⟨b, off, rfl, hb, hc⟩ := HI.out k hlt
        obtain ⟨b', off', rfl, hb', hc'⟩ := HI'.out k hlt'
        have k0 : (0 : Int) ≤ k := by omega
        have k1 : (k : Int) < xs.length := by omega
        have k2 : (k : Int) < ys.length := by omega
        by_cases hxy : xs[k] = ys[k]
        · have hb : (xs[k] != ys[k]) = false := by simp [hxy]
          have HT2 := Lib.hid (show xs.take (k + 1) = ys.take (k + 1) by rw [List.take_succ_eq_append_getElem hlt, List.take_succ_eq_append_getElem hlt', HT.out, hxy])
          clear hxy
          go_wp2_with fail
          go_quiet (fail)
          go_wp2_with fail
          go_roundw
          case rel => exact ⟨k + 1, n + nq, by first | rfl | exact World.drewN_drewN _ _ _, by omega, by go_num, HT2.out⟩
          case measure => simp [intOf]; omega
        · have hb : (xs[k] != ys[k]) = true := by simp [hxy]
          have hf := Lib.hid (show (xs == ys) = false by simp; rintro rfl; exact hxy rfl)
          clear hxy
          go_wp2_with fail
          go_quiet (fail)
          go_wp2_with fail
          go_ret
          exact ⟨by rw [hf.out]; rfl, n + nq, World.drewN_drewN _ _ _⟩
      · obtain rfl : k = xs.length := by omega
        have hf := Lib.hid (show (xs == ys) = true by have := HT.out; rw [List.take_length, HN.out, List.take_length] at this; simp [this])
        go_wp2_with fail
        go_ret
        exact ⟨by rw [hf.out]; rfl, n, rfl⟩
  · have hq : ((xs.length : Int) != ys.length) = true := by simp; omega
    have hf := Lib.hid (show (xs == ys) = false by simp; rintro rfl; exact hn rfl)
    clear hn
    go_enter Try.func64, Try.ntmps64
    go_wp2_with fail
    go_ret
    exact ⟨by rw [hf.out]; rfl, 0, rfl⟩

theorem shape_equal (A A' : Option Addr) (c c' : Nat) (xs ys : List Int) (w : World) (hl : xs.length ≤ 17592186043904) (hl' : ys.length ≤ 17592186043904) (hI : Ints .i64 w A xs) (hI' : Ints .i64 w A' ys) :
    Calls Try.prog 45 #[.slice A xs.length c, .slice A' ys.length c'] w fun e w' => e = .returned (.bool (xs == ys)) ∧ ∃ n, w' = w.drewN n := by
  have HI := Lib.hid hI
  have HI' := Lib.hid hI'
  clear hI hI'
  go_enter Try.func45, Try.ntmps45
  go_wp2_with fail
  refine (ints_equal A A' c c' xs ys _ hl hl' HI.out HI'.out).mono ?_
  rintro e w' ⟨rfl, n, rfl⟩
  go_wp2_with fail
  go_ret
  exact ⟨rfl, n, rfl⟩
end Go.Proofs.Ytjkhpbngpceenaa
