/- Lemmas for the statements of this seat: contracts of functions and the plain laws. -/
import Derived.Deep.RegionHeld3
import Derived.Defers
import Derived.Laws.CopyOwn
import Derived.Maps.AppendAt
import Derived.Recover
import Derived.Test.YtbnnpkcfifejmaaGreatZ01
set_option linter.unusedVariables false
namespace Go.Proofs.YtbnnpkcfifejmaaGreat
open Go.RowKit
namespace Sh
def side (n : Int) : Bool := decide (1 ≤ n ∧ n ≤ 1024)
def right (zs : List Int) : Bool := decide (1 ≤ zs.length ∧ zs.length ≤ 4) && zs.all side && decide (Safe.prod zs ≤ 65536)
def size (zs : List Int) : Int × Int := if right zs then (Safe.prod zs, 0) else (0, 20)
theorem side_iff (n : Int) : side n = true ↔ 1 ≤ n ∧ n ≤ 1024 := by simp [side]
theorem right_len {zs : List Int} (h : ¬ (1 ≤ zs.length ∧ zs.length ≤ 4)) : right zs = false := by simp [right]; intro a b; omega
theorem right_side {zs : List Int} (h : zs.all side = false) : right zs = false := by simp [right, h]
theorem right_prod {zs : List Int} (h1 : 1 ≤ zs.length ∧ zs.length ≤ 4) (h : zs.all side = true) : right zs = decide (Safe.prod zs ≤ 65536) := by simp [right, h, h1]
theorem all_safe {zs : List Int} (h : zs.all side = true) : zs.all Safe.ok = true ∧ zs.all (· != 0) = true := by
 rw [List.all_eq_true] at h
 refine ⟨List.all_eq_true.2 fun x hx => ?_, List.all_eq_true.2 fun x hx => ?_⟩
 ·have := (side_iff x).1 (h x hx)
  exact (Safe.ok_iff x).2 (by omega)
 ·have := (side_iff x).1 (h x hx)
  simp; omega
theorem prod_le {zs : List Int} (h : ∀ x ∈ zs, 1 ≤ x ∧ x ≤ 1024) (hl : zs.length ≤ 4) : Safe.prod zs ≤ 1099511627776 := by
 have h1 : ∀ x ∈ zs, 1 ≤ x := fun x hx => (h x hx).1
 match zs, hl with
 | [], _ => simp [Safe.prod]
 | [a], _ => have := h a (by simp); simp [Safe.prod]; omega
 | [a, b], _ =>
  have ha := h a (by simp); have hb := h b (by simp)
  simp only [Safe.prod, Int.mul_one]
  have := Int.mul_le_mul ha.2 hb.2 (by omega) (by omega)
  omega
 | [a, b, c], _ =>
  have ha := h a (by simp); have hb := h b (by simp); have hc := h c (by simp)
  simp only [Safe.prod, Int.mul_one]
  have h2 := Int.mul_le_mul hb.2 hc.2 (by omega) (by omega)
  have h3 := Int.mul_le_mul ha.2 h2 (Int.mul_nonneg (by omega) (by omega)) (by omega)
  omega
 | [a, b, c, d], _ =>
  have ha := h a (by simp); have hb := h b (by simp); have hc := h c (by simp); have hd := h d (by simp)
  simp only [Safe.prod, Int.mul_one]
  have h1 := Int.mul_le_mul hc.2 hd.2 (by omega) (by omega)
  have h2 := Int.mul_le_mul hb.2 h1 (Int.mul_nonneg (by omega) (by omega)) (by omega)
  have h3 := Int.mul_le_mul ha.2 h2 (Int.mul_nonneg (by omega) (Int.mul_nonneg (by omega) (by omega))) (by omega)
  omega
 | _ :: _ :: _ :: _ :: _ :: _, hl => simp at hl
theorem all_iff {zs : List Int} (h : zs.all side = true) : ∀ x ∈ zs, 1 ≤ x ∧ x ≤ 1024 := fun x hx => (side_iff x).1 (List.all_eq_true.1 h x hx)
theorem mul_ok {zs : List Int} (h1 : zs.length ≤ 4) (h : zs.all side = true) : Safe.mul zs = (Safe.prod zs, 0) :=
 Safe.mul_prod (all_safe h).1 (all_safe h).2 (prod_le (all_iff h) h1)
theorem right_mul {zs : List Int} (h : right zs = true) : Safe.mul zs = (Safe.prod zs, 0) ∧ zs.length ≤ 4 ∧ 1 ≤ zs.length ∧ (∀ x ∈ zs, 1 ≤ x ∧ x ≤ 1024) ∧ 1 ≤ Safe.prod zs ∧ Safe.prod zs ≤ 65536 := by
 simp [right] at h
 have h2 : zs.all side = true := List.all_eq_true.2 h.1.2
 exact ⟨mul_ok h.1.1.2 h2, h.1.1.2, by omega, all_iff h2, Safe.prod_pos zs (fun x hx => (all_iff h2 x hx).1), h.2⟩
end Sh
set_option maxHeartbeats 1000000 in
theorem shape_right (A : Option Addr) (c : Nat) (zs : List Int) (w : World) (hl : zs.length ≤ 9223372036854775807) (hI : Ints .i64 w A zs) :
  Calls Tryz.prog 86 #[.slice A zs.length c] w fun e w' => e = .returned (.bool (Sh.right zs)) ∧ Below w.heap.size w w' := by
 have HI := Lib.hid hI
 clear hI
 by_cases h1 : zs.length < 1
 ·have HS := Lib.hid (Sh.right_len (zs := zs) (by omega))
  go_enter Tryz.func86, Tryz.ntmps86
  go_wp2_with fail
  go_ret
  exact ⟨by rw [HS.out]; rfl, Below.refl _ _⟩
 ·by_cases h4 : 4 < zs.length
  ·have HS := Lib.hid (Sh.right_len (zs := zs) (by omega))
   go_enter Tryz.func86, Tryz.ntmps86
   go_wp2_with fail
   go_ret
   exact ⟨by rw [HS.out]; rfl, Below.refl _ _⟩
  ·go_enter Tryz.func86, Tryz.ntmps86
   go_wp2_with fail
   go_loopw [17] (fun i wr => wr = w ∧ ∃ k : Nat, k ≤ zs.length ∧ i = .int .i64 k ∧ ∀ x ∈ zs.take k, Sh.side x = true) (fun i _ => zs.length - (intOf i).toNat)
   case atStart => exact ⟨rfl, 0, Nat.zero_le _, rfl, by simp⟩
   case round =>
    obtain ⟨rfl, k, hk, rfl, hall⟩ := hrel
    have HA := Lib.hid hall
    clear hall
    by_cases hlt : k < zs.length
    ·obtain ⟨b, off, rfl, hb, hc⟩ := HI.out k hlt
     by_cases hx1 : zs[k] < 1
     ·have HS := Lib.hid (Sh.right_side (zs := zs) (by simp [List.all_eq_false]; exact ⟨zs[k], List.getElem_mem hlt, by simp [Sh.side]; omega⟩))
      go_wp2_with fail
      go_ret
      exact ⟨by rw [HS.out]; rfl, Below.refl _ _⟩
     ·by_cases hx2 : 1024 < zs[k]
      ·have HS := Lib.hid (Sh.right_side (zs := zs) (by simp [List.all_eq_false]; exact ⟨zs[k], List.getElem_mem hlt, by simp [Sh.side]; omega⟩))
       go_wp2_with fail
       go_ret
       exact ⟨by rw [HS.out]; rfl, Below.refl _ _⟩
      ·go_wp2_with fail
       go_roundw
       case rel => exact ⟨trivial, k + 1, by omega, by go_num, fun x hx => by
        rw [List.take_succ_eq_append_getElem hlt, List.mem_append] at hx
        rcases hx with hx | hx
        ·exact HA.out x hx
        ·rw [List.mem_singleton] at hx; subst hx; exact (Sh.side_iff _).2 ⟨by omega, by omega⟩⟩
       case measure => simp [intOf]; omega
    ·obtain rfl : k = zs.length := by omega
     rw [List.take_length] at HA
     have hall : zs.all Sh.side = true := List.all_eq_true.2 HA.out
     have HM := Lib.hid (Sh.mul_ok (by omega) hall)
     have HP := Lib.hid (Sh.right_prod (by omega) hall)
     clear hall HA
     go_wp2_with fail
     refine (safe_mul A c zs _ hl HI.out).mono ?_
     rintro e w1 ⟨rfl, hb1⟩
     rw [HM.out]
     by_cases hp : Safe.prod zs ≤ 65536
     ·go_wp2_with fail
      go_ret
      exact ⟨by rw [HP.out]; simp [hp], hb1⟩
     ·go_wp2_with fail
      go_ret
      exact ⟨by rw [HP.out]; simp, hb1⟩
set_option maxHeartbeats 1000000 in
theorem shape_size (A : Option Addr) (c : Nat) (zs : List Int) (w : World) (hl : zs.length ≤ 9223372036854775807) (hI : Ints .i64 w A zs) :
  Calls Tryz.prog 92 #[.slice A zs.length c] w fun e w' => e = .returned (.tuple #[.int .i64 (Sh.size zs).1, .int .i64 (Sh.size zs).2]) ∧ Below w.heap.size w w' := by
 have HI := Lib.hid hI
 clear hI
 cases hr : Sh.right zs
 ·have HS := Lib.hid (show Sh.size zs = (0, 20) by simp [Sh.size, hr])
  have HR := Lib.hid hr
  clear hr
  go_enter Tryz.func92, Tryz.ntmps92
  go_wp2_with fail
  refine (shape_right A c zs _ hl HI.out).mono ?_
  rintro e w1 ⟨rfl, h1⟩
  rw [HR.out]
  go_wp2_with fail
  go_ret2
  exact ⟨by rw [HS.out]; rfl, h1⟩
 ·have HS := Lib.hid (show Sh.size zs = (Safe.prod zs, 0) by simp [Sh.size, hr])
  have HM := Lib.hid (Sh.right_mul hr).1
  have HR := Lib.hid hr
  clear hr
  go_enter Tryz.func92, Tryz.ntmps92
  go_wp2_with fail
  refine (shape_right A c zs _ hl HI.out).mono ?_
  rintro e w1 ⟨rfl, h1⟩
  rw [HR.out]
  go_wp2_with fail
  refine (safe_mul A c zs _ hl (HI.out.below h1 (Nat.le_refl _))).mono ?_
  rintro e w2 ⟨rfl, h2⟩
  rw [HM.out]
  go_wp2_with fail
  go_ret2
  exact ⟨by rw [HS.out]; rfl, h1.trans (h2.mono h1.size)⟩
theorem own_cur {w : World} {B g n : Nat} {e : TypeId} {xs : List Value} (h : w.ownsRow B e 1 (.slice (some ⟨g, 0, none⟩) n n) n xs) : w.heap[g]? = some (.cells xs.toArray e (0, 0)) := by
 rcases h.2 with ⟨hv, _⟩ | ⟨g', cap, cur, hv, _, hh, _, _, hc, ht⟩
 ·cases hv
 ·injection hv with h1 h2 h3
  injection h1 with h1
  injection h1 with h1
  subst h1 h3
  rw [hh]
  have : cur.toList = xs := by rw [← ht, List.take_of_length_le]; simp [hc]
  rw [← this]
theorem own_of_row {w : World} {B g n : Nat} {e : TypeId} {xs : List Value} (h : w.heap[g]? = some (.cells xs.toArray e (0, 0))) (hB : B ≤ g) (hn : xs.length = n) (hm : n ≤ maxLen) : w.ownsRow B e 1 (.slice (some ⟨g, 0, none⟩) n n) n xs := by
 subst hn
 exact ⟨by simp, .inr ⟨g, _, _, rfl, hB, h, Nat.le_refl _, hm, by simp, by simp⟩⟩
theorem splice_all {cur cs : List Value} (h : cs.length = cur.length) : splice cur 0 cs = cs := by
 simp [splice, h]
theorem Ints.src {k : IntKind} {w : World} {A : Option Addr} {zs : List Int} (h : Ints k w A zs) (hpos : 0 < zs.length) : ∃ ad, A = some ad ∧ ∀ j v, (zs.map (Value.int k))[j]? = some v → w.cell? (ad.add j) = some v := by
 obtain ⟨b, off, e, _, _⟩ := h 0 hpos
 refine ⟨⟨b, off, none⟩, e, fun j v hj => ?_⟩
 rw [List.getElem?_map] at hj
 obtain ⟨x, hx, rfl⟩ := Option.map_eq_some_iff.1 hj
 obtain ⟨hjl, rfl⟩ := List.getElem?_eq_some_iff.1 hx
 obtain ⟨b1, off1, e1, _, hc⟩ := h j hjl
 rw [e] at e1
 injection e1 with e1
 injection e1 with e2 e3
 subst e2 e3
 rw [Addr.add_lit, hc]
 simp [hjl]
theorem Ints.src' {k : IntKind} {w : World} {A : Option Addr} {zs : List Int} (h : Ints k w A zs) (hpos : 0 < zs.length) : ∃ ad, A = some ad ∧ ∀ j a, zs[j]? = some a → w.cell? (ad.add j) = some (.int k a) := by
 obtain ⟨ad, e, h⟩ := h.src hpos
 exact ⟨ad, e, fun j a ha => h j _ (by rw [List.getElem?_map, ha]; rfl)⟩
def CopyPost (t : TypeId) (k : IntKind) (zs : List Int) (w : World) (e : Ending) (w' : World) : Prop :=
 ∃ g, e = .returned (.slice (some ⟨g, 0, none⟩) zs.length zs.length) ∧ w.heap.size ≤ g ∧ w'.heap[g]? = some (.cells (zs.map (Value.int k)).toArray t (0, 0)) ∧ Below w.heap.size w w'
set_option maxHeartbeats 1000000 in
theorem shape_copy (A : Option Addr) (c : Nat) (zs : List Int) (w : World) (hl : zs.length ≤ 17592186043904) (hI : Ints .i64 w A zs) :
  Calls Tryz.prog 107 #[.slice A zs.length c] w (CopyPost 3 .i64 zs w) := by
 obtain ⟨i0, hi, hz0, hz1, hz2⟩ := info_parts int_info
 have HI := Lib.hid hI
 clear hI
 go_enter Tryz.func107, Tryz.ntmps107
 go_wp2_with (at_make; refine wpList_make_full _ rfl _ _ 24 rfl w.heap.size 3 i0 (.int .i64 0) 1 Tryz.underlying24 hi hz0 hz1 _ _ _ _ zs.length rfl rfl (by first | rfl | simp) (by first | rfl | simp) ?b2 ?b3 (Nat.le_refl _) ?_)
 case b2 => rw [hz2]; omega
 case b3 => unfold maxLen; omega
 intro w1 hown hgrow
 have hblk := own_cur hown
 have hb1 : Below w.heap.size w w1 := (Below.refl _ w).grown hgrow (Nat.le_refl _) (by simp)
 have hlen := hown.1
 have HI1 := Lib.hid (HI.out.below hb1 (Nat.le_refl _))
 generalize (madeCells #[Value.int .i64 0] zs.length).toList = cur at *
 clear hown hgrow HI
 go_wp2_with (with_reducible refine wpList_copy_splice rfl (.tmp 7) (.tmp 8) 24 24 rfl 3 Tryz.underlying24 ?d1 (some ⟨w.heap.size, 0, none⟩) A zs.length zs.length zs.length c rfl rfl w.heap.size 0 cur 3 hblk (zs.map (Value.int .i64)) ?d2 ?d3 ?d4 ?d5 w.heap.size w hb1 (Nat.le_refl _) ?_)
 case d1 => kernel_rfl
 case d2 => simp
 case d3 => intro hp; exact HI1.out.src' (by simpa using hp)
 case d4 => simp at hlen ⊢; omega
 case d5 => intro v hv; obtain ⟨x, _, rfl⟩ := List.mem_map.1 hv; rfl
 intro w2 hw2 hb2
 have hs := splice_all (cur := cur) (cs := zs.map (Value.int .i64)) (by simp at hlen ⊢; omega)
 have HF := Lib.hid (show w2.heap[w.heap.size]? = some (.cells (zs.map (Value.int .i64)).toArray 3 (0, 0)) by rw [← hs]; exact hw2.out)
 clear hw2 hb1 hlen hs hblk
 go_wp2_with fail
 go_ret
 exact ⟨w.heap.size, rfl, Nat.le_refl _, HF.out, hb2⟩
set_option maxHeartbeats 1000000 in
theorem ints_equal (A A' : Option Addr) (c c' : Nat) (xs ys : List Int) (w : World) (hl : xs.length ≤ 17592186043904) (hl' : ys.length ≤ 17592186043904) (hI : Ints .i64 w A xs) (hI' : Ints .i64 w A' ys) :
  Calls Tryz.prog 102 #[.slice A xs.length c, .slice A' ys.length c'] w fun e w' => e = .returned (.bool (xs == ys)) ∧ ∃ n, w' = w.drewN n := by
 have HI := Lib.hid hI
 have HI' := Lib.hid hI'
 clear hI hI'
 by_cases hn : xs.length = ys.length
 ·have hq : ((xs.length : Int) != ys.length) = false := by simp [hn]
  have HN := Lib.hid hn
  clear hn
  go_enter Tryz.func102, Tryz.ntmps102
  go_wp2_with fail
  go_loopw [13] (fun i wr => ∃ k n : Nat, wr = w.drewN n ∧ k ≤ xs.length ∧ i = .int .i64 k ∧ xs.take k = ys.take k) (fun i _ => xs.length - (intOf i).toNat)
  case atStart => exact ⟨0, 0, rfl, Nat.zero_le _, rfl, rfl⟩
  case round =>
   obtain ⟨k, n, rfl, hk, rfl, htk⟩ := hrel
   have HT := Lib.hid htk
   clear htk
   by_cases hlt : k < xs.length
   ·have hlt' : k < ys.length := by have := HN.out; omega
    obtain ⟨b, off, rfl, hb, hc⟩ := HI.out k hlt
    obtain ⟨b', off', rfl, hb', hc'⟩ := HI'.out k hlt'
    have k0 : (0 : Int) ≤ k := by omega
    have k1 : (k : Int) < xs.length := by omega
    have k2 : (k : Int) < ys.length := by omega
    by_cases hxy : xs[k] = ys[k]
    ·have hb : (xs[k] != ys[k]) = false := by simp [hxy]
     have HT2 := Lib.hid (show xs.take (k + 1) = ys.take (k + 1) by rw [List.take_succ_eq_append_getElem hlt, List.take_succ_eq_append_getElem hlt', HT.out, hxy])
     clear hxy
     go_wp2_with fail
     go_quiet (fail)
     go_wp2_with fail
     go_roundw
     case rel => exact ⟨k + 1, n + nq, by first | rfl | exact World.drewN_drewN _ _ _, by omega, by go_num, HT2.out⟩
     case measure => simp [intOf]; omega
    ·have hb : (xs[k] != ys[k]) = true := by simp [hxy]
     have hf := Lib.hid (show (xs == ys) = false by simp; rintro rfl; exact hxy rfl)
     clear hxy
     go_wp2_with fail
     go_quiet (fail)
     go_wp2_with fail
     go_ret
     exact ⟨by rw [hf.out]; rfl, n + nq, World.drewN_drewN _ _ _⟩
   ·obtain rfl : k = xs.length := by omega
    have hf := Lib.hid (show (xs == ys) = true by have := HT.out; rw [List.take_length, HN.out, List.take_length] at this; simp [this])
    go_wp2_with fail
    go_ret
    exact ⟨by rw [hf.out]; rfl, n, rfl⟩
 ·have hq : ((xs.length : Int) != ys.length) = true := by simp; omega
  have hf := Lib.hid (show (xs == ys) = false by simp; rintro rfl; exact hn rfl)
  clear hn
  go_enter Tryz.func102, Tryz.ntmps102
  go_wp2_with fail
  go_ret
  exact ⟨by rw [hf.out]; rfl, 0, rfl⟩
theorem shape_equal (A A' : Option Addr) (c c' : Nat) (xs ys : List Int) (w : World) (hl : xs.length ≤ 17592186043904) (hl' : ys.length ≤ 17592186043904) (hI : Ints .i64 w A xs) (hI' : Ints .i64 w A' ys) :
  Calls Tryz.prog 43 #[.slice A xs.length c, .slice A' ys.length c'] w fun e w' => e = .returned (.bool (xs == ys)) ∧ ∃ n, w' = w.drewN n := by
 have HI := Lib.hid hI
 have HI' := Lib.hid hI'
 clear hI hI'
 go_enter Tryz.func43, Tryz.ntmps43
 go_wp2_with fail
 refine (ints_equal A A' c c' xs ys _ hl hl' HI.out HI'.out).mono ?_
 rintro e w' ⟨rfl, n, rfl⟩
 go_wp2_with fail
 go_ret
 exact ⟨rfl, n, rfl⟩
end Go.Proofs.YtbnnpkcfifejmaaGreat
namespace Go.Proofs.YtbnnpkcfifejmaaGreat
open Go.RowKit
structure Ten where
 s : List Int
 c : List Int
namespace Tn
def right (t : Ten) : Bool := Sh.right t.s && decide ((t.c.length : Int) = Safe.prod t.s)
theorem right_false {t : Ten} (h : Sh.right t.s = false) : right t = false := by simp [right, h]
theorem right_true {t : Ten} (h : Sh.right t.s = true) : right t = decide ((t.c.length : Int) = Safe.prod t.s) := by simp [right, h]
end Tn
def TenR (w : World) (S C : Option Addr) (t : Ten) : Prop := Ints .i64 w S t.s ∧ Ints .i64 w C t.c
def TenN (B : Nat) (w : World) (v : Value) (t : Ten) : Prop :=
 ∃ g h, v = .agg #[.slice (some ⟨g, 0, none⟩) t.s.length t.s.length, .slice (some ⟨h, 0, none⟩) t.c.length t.c.length] ∧ B ≤ g ∧ B ≤ h ∧
  Blk w g 3 (t.s.map (Value.int .i64)).toArray ∧ Blk w h 22 (t.c.map (Value.int .i64)).toArray
theorem Blk.ints {w : World} {g : Nat} {t : TypeId} {k : IntKind} {zs : List Int} (h : Blk w g t (zs.map (Value.int k)).toArray) : Ints k w (some ⟨g, 0, none⟩) zs := Ints.of_row fun j hj => by
 rw [Nat.zero_add, h.cell j]
 simp [hj]
set_option maxHeartbeats 1000000 in
theorem tensor_right (S C : Option Addr) (c d : Nat) (t : Ten) (w : World) (hl : t.s.length ≤ 9223372036854775807) (hl' : t.c.length ≤ 9223372036854775807) (hI : Ints .i64 w S t.s) :
  Calls Tryz.prog 51 #[.agg #[.slice S t.s.length c, .slice C t.c.length d]] w fun e w' => e = .returned (.bool (Tn.right t)) ∧ Below w.heap.size w w' := by
 have HI := Lib.hid (hI.alloc (.cells #[.slice S t.s.length c, .slice C t.c.length d] 30))
 clear hI
 have hb0 : Below w.heap.size w (w.alloc (.cells #[.slice S t.s.length c, .slice C t.c.length d] 30)) := (Below.refl _ _).alloc (Nat.le_refl _) _
 go_enter Tryz.func51, Tryz.ntmps51
 go_wp2_with fail
 refine (shape_size S c t.s _ (by omega) HI.out).mono ?_
 rintro e w1 ⟨rfl, h1⟩
 have hz := h1.size
 rw [World.size_alloc] at h1 hz
 have hc : w1.cell? ⟨w.heap.size, 1, none⟩ = some (.slice C t.c.length d) := by rw [h1.cell (p := ⟨w.heap.size, 1, none⟩) (Nat.lt_succ_self _)]; simp
 have hb1 := hb0.trans (h1.mono (Nat.le_succ _))
 clear h1 hb0 HI
 cases hr : Sh.right t.s
 ·have HS := Lib.hid (show Sh.size t.s = (0, 20) by simp [Sh.size, hr])
  have HR := Lib.hid (Tn.right_false hr)
  clear hr
  rw [HS.out]
  go_wp2_with fail
  go_ret
  exact ⟨by rw [HR.out]; rfl, hb1⟩
 ·have HS := Lib.hid (show Sh.size t.s = (Safe.prod t.s, 0) by simp [Sh.size, hr])
  have HR := Lib.hid (Tn.right_true hr)
  clear hr
  rw [HS.out]
  go_wp2_with fail
  go_ret
  refine ⟨?_, hb1⟩
  rw [HR.out]
  by_cases he : (t.c.length : Int) = Safe.prod t.s
  ·simp [he]
  ·simp [he]
def TenPost (t : Ten) (w : World) (e : Ending) (w' : World) : Prop := ∃ v, e = .returned v ∧ TenN w.heap.size w' v t ∧ Below w.heap.size w w'
set_option maxHeartbeats 1000000 in
theorem tensor_copy (S C : Option Addr) (c d : Nat) (t : Ten) (w : World) (hl : t.s.length ≤ 1000000) (hl' : t.c.length ≤ 1000000) (hT : TenR w S C t) :
  Calls Tryz.prog 52 #[.agg #[.slice S t.s.length c, .slice C t.c.length d]] w (TenPost t w) := by
 obtain ⟨i0, hi, hz0, hz1, hz2⟩ := info_parts fix_info
 obtain ⟨hI, hC⟩ := hT
 have HI := Lib.hid hI
 have HC := Lib.hid hC
 clear hI hC
 go_enter Tryz.func52, Tryz.ntmps52
 go_wp2_with (at_make; refine wpList_make_full _ rfl _ _ 28 rfl w.heap.size 22 i0 (.int .i64 0) 1 Tryz.underlying28 hi hz0 hz1 _ _ _ _ t.c.length rfl rfl (by first | rfl | simp) (by first | rfl | simp) ?b2 ?b3 ?b4 ?_)
 case b2 => rw [hz2]; omega
 case b3 => unfold maxLen; omega
 case b4 => simp; omega
 intro w1 hown hgrow
 have hblk := own_cur hown
 have hlen := hown.1
 generalize hw0 : (w.alloc (.cells #[.slice S t.s.length c, .slice C t.c.length d] 30)).alloc (.cells #[.slice none 0 0, .slice none 0 0] 30) = w0 at hgrow
 have hsz0 : w0.heap.size = w.heap.size + 2 := by subst hw0; simp
 have hb0 : Below w.heap.size w w0 := by subst hw0; exact ((Below.refl _ _).alloc (Nat.le_refl _) _).alloc (by simp) _
 have hk0 : Blk w0 w.heap.size 30 #[.slice S t.s.length c, .slice C t.c.length d] := by subst hw0; exact (Blk.new w _ _).alloc _
 have hk1 : Blk w0 (w.heap.size + 1) 30 #[.slice none 0 0, .slice none 0 0] := by subst hw0; have := Blk.new (w.alloc (.cells #[.slice S t.s.length c, .slice C t.c.length d] 30)) 30 #[.slice none 0 0, .slice none 0 0]; rwa [World.size_alloc] at this
 clear hw0
 have hk01 := hk0.grown hgrow (by simp)
 have hk11 := hk1.grown hgrow (by simp)
 have hb1 : Below w.heap.size w w1 := hb0.grown hgrow (by omega) (by simp)
 have hsz1 := hgrow.size
 have HC1 := Lib.hid (HC.out.below hb1 (Nat.le_refl _))
 have c0 := hk01.cell 0
 have c1 := hk01.cell 1
 simp at c0 c1
 generalize (madeCells #[Value.int .i64 0] t.c.length).toList = cur at *
 clear hown hgrow HC hk0 hk1 hb0
 go_wp2_with (with_reducible refine wpList_copy_splice rfl (.tmp 8) (.tmp 10) 28 28 rfl 22 Tryz.underlying28 ?d1 (some ⟨w.heap.size + 1 + 1, 0, none⟩) C t.c.length t.c.length t.c.length d rfl rfl (w.heap.size + 1 + 1) 0 cur 22 hblk (t.c.map (Value.int .i64)) ?d2 ?d3 ?d4 ?d5 (w.heap.size + 2) w1 (Below.refl _ _) (Nat.le_refl _) ?_)
 case d1 => kernel_rfl
 case d2 => simp
 case d3 => intro hp; exact HC1.out.src' (by simpa using hp)
 case d4 => simp at hlen ⊢; omega
 case d5 => intro v hv; obtain ⟨x, _, rfl⟩ := List.mem_map.1 hv; rfl
 intro w2 hw2 hb2
 have hs := splice_all (cur := cur) (cs := t.c.map (Value.int .i64)) (by simp at hlen ⊢; omega)
 have HF := Lib.hid (show Blk w2 (w.heap.size + 1 + 1) 22 (t.c.map (Value.int .i64)).toArray by rw [← hs]; exact hw2.out)
 have hk02 := hk01.below hb2 (by omega)
 have hk12 := hk11.below hb2 (by omega)
 have hb3 := hb1.trans (hb2.mono (by omega))
 have hsz2 := hb2.size
 have HI2 := Lib.hid (HI.out.below hb3 (Nat.le_refl _))
 clear hw2 hb1 hlen hs hblk c0 c1 hk01 hk11 HC1 HI hb2
 have c0 := hk02.cell 0
 simp at c0
 go_wp2_with fail
 refine (shape_copy S c t.s _ (by omega) HI2.out).mono ?_
 rintro e w3 ⟨g, rfl, hg, hgb, h3⟩
 have hk13 := hk12.below h3 hk12.lt
 have HF3 := HF.out.below h3 HF.out.lt
 have HG3 : Blk w3 g 3 (t.s.map (Value.int .i64)).toArray := hgb
 have c1 := hk13.cell 0
 have c2 := hk13.cell 1
 have f1 := hk13.frozen 0
 have f2 := hk13.frozen 1
 simp at c1 c2
 have hb4 := hb3.trans (h3.mono hb3.size)
 have HK := Lib.hid hk13
 have HF := Lib.hid HF3
 have HG := Lib.hid HG3
 have hgne : w.heap.size + 1 ≠ g := by have := hb3.size; omega
 clear hk02 hk12 hb3 c0 h3 hgb HI2 hk13 HF3 HG3
 go_wp2_with fail
 refine bodyPost_ret (v := .agg #[.slice (some ⟨g, 0, none⟩) t.s.length t.s.length, .slice (some ⟨w.heap.size + 1 + 1, 0, none⟩) t.c.length t.c.length]) (by simp [results, Tryz.results52, go_sem, c1, c2]) rfl ?_
 exact ⟨_, rfl, ⟨g, w.heap.size + 1 + 1, rfl, by omega, by omega, (HG.out.far (p := ⟨w.heap.size + 1, 0, none⟩) (Ne.symm hgne) _).far (p := ⟨w.heap.size + 1, 1, none⟩) (Ne.symm hgne) _, (HF.out.far (p := ⟨w.heap.size + 1, 0, none⟩) (by simp) _).far (p := ⟨w.heap.size + 1, 1, none⟩) (by simp) _⟩, (hb4.setCell (p := ⟨w.heap.size + 1, 0, none⟩) (Nat.le_succ _) _).setCell (p := ⟨w.heap.size + 1, 1, none⟩) (Nat.le_succ _) _⟩
def MakeP (s : List Int) (f : Int) (w : World) (e : Ending) (w' : World) : Prop :=
 (Sh.right s = false ∧ e = .returned (.tuple #[.agg #[.slice none 0 0, .slice none 0 0], .int .i64 20]) ∨ Sh.right s = true ∧ ∃ v, e = .returned (.tuple #[v, .int .i64 0]) ∧ TenN w.heap.size w' v ⟨s, List.replicate (Safe.prod s).toNat f⟩) ∧ Below w.heap.size w w'
theorem fill_all {cs : List Value} {n : Nat} {f : Int} (hl : cs.length = n) (h : ∀ j, j < n → cs[j]? = some (.int .i64 f)) : cs = (List.replicate n f).map (Value.int .i64) := by
 apply List.ext_getElem?
 intro j
 by_cases hj : j < n
 ·rw [h j hj]; simp [hj]
 ·rw [List.getElem?_eq_none (by omega), List.getElem?_eq_none (by simp; omega)]
set_option maxHeartbeats 2000000 in
theorem tensor_make (S : Option Addr) (c : Nat) (s : List Int) (f : Int) (w : World) (hl : s.length ≤ 1000000) (hI : Ints .i64 w S s) :
  Calls Tryz.prog 75 #[.slice S s.length c, .int .i64 f] w (MakeP s f w) := by
 obtain ⟨i0, hi, hz0, hz1, hz2⟩ := info_parts fix_info
 have hI0 := hI.alloc (.cells #[.slice none 0 0, .slice none 0 0] 30)
 have hk0 := Blk.new w 30 #[.slice none 0 0, .slice none 0 0]
 have hb0 : Below w.heap.size w (w.alloc (.cells #[.slice none 0 0, .slice none 0 0] 30)) := (Below.refl _ _).alloc (Nat.le_refl _) _
 have HI := Lib.hid hI
 have HI0 := Lib.hid hI0
 have Hk0 := Lib.hid hk0
 clear hI hI0 hk0
 go_enter Tryz.func75, Tryz.ntmps75
 go_wp2_with fail
 refine (shape_size S c s _ (by omega) HI0.out).mono ?_
 rintro e w1 ⟨rfl, h1⟩
 have hk1 := Hk0.out.below h1 (by simp)
 have hb1 := hb0.trans (h1.mono (by simp))
 have hsz1 := h1.size
 rw [World.size_alloc] at hsz1
 clear h1 hb0 HI0 Hk0
 cases hr : Sh.right s
 ·have HS := Lib.hid (show Sh.size s = (0, 20) by simp [Sh.size, hr])
  rw [HS.out]
  have c0 := hk1.cell 0
  have c1 := hk1.cell 1
  have f0 := hk1.frozen 0
  have f1 := hk1.frozen 1
  simp at c0 c1
  have Hk1 := Lib.hid hk1
  have Hr := Lib.hid hr
  clear hk1 hr
  go_wp2_with fail
  refine bodyPost_ret (v := .tuple #[.agg #[.slice none 0 0, .slice none 0 0], .int .i64 20]) (by simp [results, Tryz.results75, go_sem, c0, c1]) rfl ?_
  exact ⟨.inl ⟨Hr.out, rfl⟩, (hb1.setCell (p := ⟨w.heap.size, 0, none⟩) (Nat.le_refl _) _).setCell (p := ⟨w.heap.size, 1, none⟩) (Nat.le_refl _) _⟩
 ·have HS := Lib.hid (show Sh.size s = (Safe.prod s, 0) by simp [Sh.size, hr])
  obtain ⟨_, _, _, _, hp1, hp2⟩ := Sh.right_mul hr
  rw [HS.out]
  have HP := Lib.hid (rfl : (Safe.prod s).toNat = (Safe.prod s).toNat)
  obtain ⟨n, hn⟩ := Int.eq_ofNat_of_zero_le (show 0 ≤ Safe.prod s by omega)
  have HN := Lib.hid (show (Safe.prod s).toNat = n by omega)
  rw [hn] at hp1 hp2 ⊢
  have Hk1 := Lib.hid hk1
  have Hr := Lib.hid hr
  clear hk1 hr
  clear HP HS hn
  go_wp2_with (at_make; refine wpList_make_full _ rfl _ _ 28 rfl w.heap.size 22 i0 (.int .i64 0) 1 Tryz.underlying28 hi hz0 hz1 _ _ _ _ n rfl rfl (by first | rfl | simp) (by first | rfl | simp) ?b2 ?b3 ?b4 ?_)
  case b2 => rw [hz2]; omega
  case b3 => unfold maxLen; omega
  case b4 => omega
  intro w2 hown hgrow
  have hblk := own_cur hown
  have hlen := hown.1
  have hlt := lt_of_block hblk
  have hk2 := Hk1.out.grown hgrow (by simp)
  have hb2 : Below w.heap.size w w2 := hb1.grown hgrow (by omega) (by simp)
  generalize hg : w1.heap.size = g at *
  generalize (madeCells #[Value.int .i64 0] n).toList = cur at *
  have Hblk := Lib.hid (show Blk w2 g 22 cur.toArray from hblk)
  have Hlen := Lib.hid (show cur.length = n by omega)
  have Hk2 := Lib.hid hk2
  clear hk2
  clear hown hgrow hblk hlen hg hb1
  go_wp2_with fail
  go_loopw [9, 23] (fun _ i wr => ∃ (k : Nat) (cs : List Value), k ≤ n ∧ i = .int .i64 k ∧ cs.length = n ∧ Blk wr g 22 cs.toArray ∧ (∀ j, j < k → cs[j]? = some (.int .i64 f)) ∧ Blk wr w.heap.size 30 #[.slice none 0 0, .slice none 0 0] ∧ Below w.heap.size w wr) (fun _ i _ => n - (intOf i).toNat)
  case atStart => exact ⟨0, cur, Nat.zero_le _, rfl, Hlen.out, Hblk.out, fun j hj => by omega, Hk2.out, hb2⟩
  case round =>
   clear Hblk Hlen Hk2 hb2
   obtain ⟨k, cs, hk, rfl, hcl, hbk, hall, hkr, hbel⟩ := hrel
   by_cases hlt : k < n
   ·obtain ⟨v0, c0⟩ : ∃ v, wr.cell? ⟨g, k, none⟩ = some v := ⟨cs[k], by rw [hbk.cell k]; simp [hcl, hlt]⟩
    have f0 := hbk.frozen k
    have Hcl := Lib.hid hcl
    have Hbk := Lib.hid hbk
    have Hall := Lib.hid hall
    have Hkr := Lib.hid hkr
    clear hcl hbk hall hkr
    go_wp2_with fail
    go_roundw
    case rel =>
     refine ⟨k + 1, cs.set k (.int .i64 f), by omega, by go_num, by rw [List.length_set]; exact Hcl.out, ?_, ?_, Hkr.out.far (p := ⟨g, k, none⟩) (by simp; omega) _, hbel.setCell (p := ⟨g, k, none⟩) (by simp; omega) _⟩
     ·have := Hbk.out.set_ k (.int .i64 f); simpa using this
     ·intro j hj
      rw [List.getElem?_set]
      by_cases e : k = j
      ·subst e; simp [Hcl.out, hlt]
      ·rw [if_neg e]; exact Hall.out j (by omega)
    case measure => simp [intOf]; omega
   ·obtain rfl : k = n := by omega
    have HE := Lib.hid (fill_all hcl hall)
    rw [HE.out] at hbk
    have hsz := hbel.size
    have hglt := hbk.lt
    have Hbk := Lib.hid hbk
    have Hkr := Lib.hid hkr
    clear hbk hkr
    clear hall hcl
    go_wp2_with fail
    refine (shape_copy S c s _ (by omega) (HI.out.below hbel (Nat.le_refl _))).mono ?_
    rintro e w3 ⟨q, rfl, hq, hqb, h3⟩
    have hk3 := Hkr.out.below h3 Hkr.out.lt
    have c0 := hk3.cell 0
    have c1 := hk3.cell 1
    have f0 := hk3.frozen 0
    have f1 := hk3.frozen 1
    simp at c0 c1
    have HG := Lib.hid (show Blk w3 q 3 (s.map (Value.int .i64)).toArray from hqb)
    have HH := Lib.hid (Hbk.out.below h3 Hbk.out.lt)
    have hb4 := hbel.trans (h3.mono hbel.size)
    clear hk3 hqb h3 hbel
    go_wp2_with fail
    refine bodyPost_ret (v := .tuple #[.agg #[.slice (some ⟨q, 0, none⟩) s.length s.length, .slice (some ⟨g, 0, none⟩) k k], .int .i64 0]) (by simp [results, Tryz.results75, go_sem, c0, c1]) rfl ?_
    refine ⟨.inr ⟨Hr.out, _, rfl, q, g, by rw [HN.out]; simp, by omega, by omega, ?_, ?_⟩, (hb4.setCell (p := ⟨w.heap.size, 0, none⟩) (Nat.le_refl _) _).setCell (p := ⟨w.heap.size, 1, none⟩) (Nat.le_refl _) _⟩
    ·exact (HG.out.far (p := ⟨w.heap.size, 0, none⟩) (by simp; omega) _).far (p := ⟨w.heap.size, 1, none⟩) (by simp; omega) _
    ·rw [HN.out]; exact (HH.out.far (p := ⟨w.heap.size, 0, none⟩) (by simp; omega) _).far (p := ⟨w.heap.size, 1, none⟩) (by simp; omega) _
end Go.Proofs.YtbnnpkcfifejmaaGreat
namespace Go.Proofs.YtbnnpkcfifejmaaGreat
open Go.RowKit
theorem same_idle (p : Addr) (w : World) :
  CallsD Tryz.prog 137 #[.pointer (some p)] .returning w fun e u' w' => e = .returned (.tuple #[]) ∧ u' = .returning ∧ w' = w := by
 refine callsD_of_wpS Tryz.func137 rfl fun c₀ cs hu => ?_
 apply wpS_seq
 apply wpS_region
 simp [wpOpsS, go_sem, recoverD, hu, Tryz.ntmps137, Exit.thenS]
 refine wpS_cond (t := false) (by simp [Act.eval, Array.replicate]) ?_
 simp only [Bool.false_eq_true, if_false]
 refine wpS_of_wp (wp_skip ?_)
 cases c₀
 simp_all [bodyPostS, results, Tryz.results137]
set_option maxHeartbeats 1000000 in
theorem tensor_same (A A' : Option Addr) (c c' : Nat) (xs ys : List Int) (w : World) (hl : xs.length ≤ 1000000000) (hn : xs.length = ys.length) (hI : Ints .i64 w A xs) (hI' : Ints .i64 w A' ys) :
  Calls Tryz.prog 83 #[.slice A xs.length c, .slice A' ys.length c'] w fun e w' => e = .returned (.bool (xs == ys)) ∧ Below w.heap.size w w' := by
 have hmf : ∀ (fn : Fn) (first cap : Array Value) (w : World), (Instr.makeFunc fn first cap).run Tryz.prog w = .ok (.func fn first cap) w := fun _ _ _ _ => rfl
 have hb0 : Below w.heap.size w (w.alloc (.cells #[.bool false] 4)) := (Below.refl _ _).alloc (Nat.le_refl _) _
 have HI := Lib.hid (hI.alloc (.cells #[.bool false] 4))
 have HI' := Lib.hid (hI'.alloc (.cells #[.bool false] 4))
 have HN := Lib.hid hn
 clear hI hI' hn
 go_enter_defers Tryz.func83, Tryz.ntmps83
 go_wp2_with fail
 go_loopw [10] (fun i wr => wr = w.alloc (.cells #[.bool false] 4) ∧ ∃ k : Nat, k ≤ xs.length ∧ i = .int .i64 k ∧ xs.take k = ys.take k) (fun i _ => xs.length - (intOf i).toNat)
 case atStart => exact ⟨rfl, 0, Nat.zero_le _, rfl, rfl⟩
 case round =>
  obtain ⟨rfl, k, hk, rfl, htk⟩ := hrel
  have HT := Lib.hid htk
  clear htk
  by_cases hlt : k < xs.length
  ·have hlt' : k < ys.length := by have := HN.out; omega
   obtain ⟨b, off, rfl, hb, hc⟩ := HI.out k hlt
   obtain ⟨b', off', rfl, hb', hc'⟩ := HI'.out k hlt'
   by_cases hxy : xs[k] = ys[k]
   ·have hb : (xs[k] != ys[k]) = false := by simp [hxy]
    have HT2 := Lib.hid (show xs.take (k + 1) = ys.take (k + 1) by rw [List.take_succ_eq_append_getElem hlt, List.take_succ_eq_append_getElem hlt', HT.out, hxy])
    clear hxy
    go_wp2_with fail
    go_roundw
    case rel => exact ⟨trivial, k + 1, by omega, by go_num, HT2.out⟩
    case measure => simp [intOf]; omega
   ·have hb : (xs[k] != ys[k]) = true := by simp [hxy]
    have hf := Lib.hid (show (xs == ys) = false by simp; rintro rfl; exact hxy rfl)
    clear hxy
    go_wp2_with fail
    refine leaves_cons (f := 137) (args := #[.pointer (some ⟨w.heap.size, 0, none⟩)]) (by simp) (by simp [go_sem]) ?_
    refine (same_idle ⟨w.heap.size, 0, none⟩ _).mono ?_
    rintro e u' w'' ⟨rfl, rfl, rfl⟩
    simp only [Leaves, settle]
    exact ⟨_, by simp [results, Tryz.results83, go_sem]; rfl, by rw [hf.out], hb0⟩
  ·obtain rfl : k = xs.length := by omega
   have hf := Lib.hid (show (xs == ys) = true by have := HT.out; rw [List.take_length, HN.out, List.take_length] at this; simp [this])
   have hb1 : Below w.heap.size w (w.alloc (.cells #[.bool true] 4)) := (Below.refl _ _).alloc (Nat.le_refl _) _
   go_wp2_with fail
   refine leaves_cons (f := 137) (args := #[.pointer (some ⟨w.heap.size, 0, none⟩)]) (by simp) (by simp [go_sem]) ?_
   refine (same_idle ⟨w.heap.size, 0, none⟩ _).mono ?_
   rintro e u' w'' ⟨rfl, rfl, rfl⟩
   simp only [Leaves, settle]
   exact ⟨_, by simp [results, Tryz.results83, go_sem]; rfl, by rw [hf.out], hb1⟩
namespace Tn
def eq (a b : Ten) : Bool := (a.s == b.s) && (a.c == b.c)
theorem eq_iff (a b : Ten) : eq a b = true ↔ a = b := by
 cases a; cases b; simp [eq]
end Tn
set_option maxHeartbeats 1000000 in
theorem tensor_equal (S C S' C' : Option Addr) (c d c' d' : Nat) (a b : Ten) (w : World) (hl : a.s.length ≤ 1000000000) (hl' : a.c.length ≤ 1000000000) (hm : b.s.length ≤ 1000000000) (hm' : b.c.length ≤ 1000000000) (hT : TenR w S C a) (hT' : TenR w S' C' b) :
  Calls Tryz.prog 33 #[.agg #[.slice S a.s.length c, .slice C a.c.length d], .agg #[.slice S' b.s.length c', .slice C' b.c.length d']] w fun e w' => e = .returned (.bool (Tn.eq a b)) ∧ Below w.heap.size w w' := by
 have hb0 : Below w.heap.size w ((w.alloc (.cells #[.slice S a.s.length c, .slice C a.c.length d] 30)).alloc (.cells #[.slice S' b.s.length c', .slice C' b.c.length d'] 30)) := ((Below.refl _ _).alloc (Nat.le_refl _) _).alloc (by simp) _
 have HA := Lib.hid (hT.1.below hb0 (Nat.le_refl _))
 have HB := Lib.hid (hT.2.below hb0 (Nat.le_refl _))
 have HC := Lib.hid (hT'.1.below hb0 (Nat.le_refl _))
 have HD := Lib.hid (hT'.2.below hb0 (Nat.le_refl _))
 clear hT hT'
 go_enter Tryz.func33, Tryz.ntmps33
 go_wp2_with fail
 refine (shape_equal S S' c c' a.s b.s _ (by omega) (by omega) HA.out HC.out).mono ?_
 rintro e w1 ⟨rfl, n, rfl⟩
 have hbn := fun n => Bdrawn hb0 n
 have HBn := Lib.hid hbn
 clear hb0 hbn
 cases hs : (a.s == b.s)
 ·have HE := Lib.hid (show Tn.eq a b = false by simp [Tn.eq, hs])
  clear hs
  go_wp2_with fail
  go_ret
  exact ⟨by rw [HE.out]; rfl, HBn.out n⟩
 ·by_cases hn : a.c.length = b.c.length
  ·have hq : ((a.c.length : Int) == b.c.length) = true := by simp [hn]
   have HN := Lib.hid hn
   have HE := Lib.hid (show Tn.eq a b = (a.c == b.c) by simp [Tn.eq, hs])
   clear hn hs
   go_wp2_with fail
   refine (tensor_same C C' d d' a.c b.c _ hl' HN.out (HB.out.drewN n) (HD.out.drewN n)).mono ?_
   rintro e w2 ⟨rfl, h2⟩
   have hb2 := (HBn.out n).trans (h2.mono (HBn.out n).size)
   go_wp2_with fail
   go_ret
   exact ⟨by rw [HE.out]; rfl, hb2⟩
  ·have hq : ((a.c.length : Int) == b.c.length) = false := by simp; omega
   have HE := Lib.hid (show Tn.eq a b = false by simp [Tn.eq, hs]; intro e; rw [e] at hn; exact hn rfl)
   clear hn hs
   go_wp2_with fail
   go_ret
   exact ⟨by rw [HE.out]; rfl, HBn.out n⟩
def OfP (t : Ten) (w : World) (e : Ending) (w' : World) : Prop :=
 (Tn.right t = false ∧ e = .returned (.tuple #[.agg #[.slice none 0 0, .slice none 0 0], .int .i64 20]) ∨ Tn.right t = true ∧ ∃ v, e = .returned (.tuple #[v, .int .i64 0]) ∧ TenN w.heap.size w' v t) ∧ Below w.heap.size w w'
set_option maxHeartbeats 1000000 in
theorem tensor_of (S C : Option Addr) (c d : Nat) (t : Ten) (w : World) (hl : t.s.length ≤ 1048576) (hl' : t.c.length ≤ 1048576) (hT : TenR w S C t) :
  Calls Tryz.prog 41 #[.slice S t.s.length c, .slice C t.c.length d] w (OfP t w) := by
 have HT := Lib.hid hT
 clear hT
 have hk0 := (Blk.new w 30 #[.slice none 0 0, .slice none 0 0]).alloc (.cells #[.slice S t.s.length c, .slice C t.c.length d] 30)
 have hk1 := Blk.new (w.alloc (.cells #[.slice none 0 0, .slice none 0 0] 30)) 30 #[.slice S t.s.length c, .slice C t.c.length d]
 rw [World.size_alloc] at hk1
 have hb0 : Below w.heap.size w ((w.alloc (.cells #[.slice none 0 0, .slice none 0 0] 30)).alloc (.cells #[.slice S t.s.length c, .slice C t.c.length d] 30)) := ((Below.refl _ _).alloc (Nat.le_refl _) _).alloc (by simp) _
 have Hk0 := Lib.hid hk0
 have Hk1 := Lib.hid hk1
 clear hk0 hk1
 go_enter Tryz.func41, Tryz.ntmps41
 go_wp2_with fail
 refine (tensor_right S C c d t _ (by omega) (by omega) (HT.out.1.below hb0 (Nat.le_refl _))).mono ?_
 rintro e w1 ⟨rfl, h1⟩
 have hk01 := Hk0.out.below h1 Hk0.out.lt
 have hk11 := Hk1.out.below h1 Hk1.out.lt
 have hb1 := hb0.trans (h1.mono hb0.size)
 clear h1 hb0 Hk0 Hk1
 cases hr : Tn.right t
 ·have c0 := hk01.cell 0
  have c1 := hk01.cell 1
  have f0 := hk01.frozen 0
  have f1 := hk01.frozen 1
  simp at c0 c1
  have Hr := Lib.hid hr
  clear hr
  go_wp2_with fail
  refine bodyPost_ret (v := .tuple #[.agg #[.slice none 0 0, .slice none 0 0], .int .i64 20]) (by simp [results, Tryz.results41, go_sem, c0, c1]) rfl ?_
  exact ⟨.inl ⟨Hr.out, rfl⟩, (hb1.setCell (p := ⟨w.heap.size, 0, none⟩) (Nat.le_refl _) _).setCell (p := ⟨w.heap.size, 1, none⟩) (Nat.le_refl _) _⟩
 ·have hsmall : t.s.length ≤ 1000000 ∧ t.c.length ≤ 1000000 := by
   have hr2 := hr
   simp only [Tn.right, Bool.and_eq_true, decide_eq_true_eq] at hr2
   obtain ⟨_, q1, _, _, _, q2⟩ := Sh.right_mul hr2.1
   omega
  have d0 := hk11.cell 0
  have d1 := hk11.cell 1
  simp at d0 d1
  have Hr := Lib.hid hr
  clear hr
  go_wp2_with fail
  refine (tensor_copy S C c d t _ hsmall.1 hsmall.2 ⟨HT.out.1.below hb1 (Nat.le_refl _), HT.out.2.below hb1 (Nat.le_refl _)⟩).mono ?_
  rintro e w2 ⟨v, rfl, ⟨g, h, rfl, hg, hh, hG, hH⟩, h2⟩
  have hk02 := hk01.below h2 hk01.lt
  have hb2 := hb1.trans (h2.mono hb1.size)
  have hlt1 := hk01.lt
  have c0 := hk02.cell 0
  have c1 := hk02.cell 1
  have f0 := hk02.frozen 0
  have f1 := hk02.frozen 1
  simp at c0 c1
  have HG := Lib.hid hG
  have HH := Lib.hid hH
  clear hG hH
  clear hk01 hk11 d0 d1 hb1 h2
  go_wp2_with fail
  refine bodyPost_ret (v := .tuple #[.agg #[.slice (some ⟨g, 0, none⟩) t.s.length t.s.length, .slice (some ⟨h, 0, none⟩) t.c.length t.c.length], .int .i64 0]) (by simp [results, Tryz.results41, go_sem, c0, c1]) rfl ?_
  exact ⟨.inr ⟨Hr.out, _, rfl, g, h, rfl, by omega, by omega, (HG.out.far (p := ⟨w.heap.size, 0, none⟩) (by simp; omega) _).far (p := ⟨w.heap.size, 1, none⟩) (by simp; omega) _, (HH.out.far (p := ⟨w.heap.size, 0, none⟩) (by simp; omega) _).far (p := ⟨w.heap.size, 1, none⟩) (by simp; omega) _⟩, (hb2.setCell (p := ⟨w.heap.size, 0, none⟩) (Nat.le_refl _) _).setCell (p := ⟨w.heap.size, 1, none⟩) (Nat.le_refl _) _⟩
end Go.Proofs.YtbnnpkcfifejmaaGreat
namespace Go.Proofs.YtbnnpkcfifejmaaGreat
structure OpD where
 kind : Int
 k : Int
 width : Int
 step : Int
 side : Int
 frm : Int
 «to» : Int
 s : List Int
deriving DecidableEq
namespace Od
def used (o : OpD) : OpD :=
 if o.kind = 2 ∨ o.kind = 5 then ⟨o.kind, o.k, 0, 0, 0, 0, 0, []⟩
 else if o.kind = 10 then ⟨o.kind, 0, 0, o.step, 0, 0, 0, []⟩
 else if o.kind = 11 ∨ o.kind = 12 then ⟨o.kind, 0, o.width, o.step, 0, 0, 0, []⟩
 else if o.kind = 13 then ⟨o.kind, 0, 0, 0, o.side, 0, 0, []⟩
 else if o.kind = 14 then ⟨o.kind, 0, 0, 0, o.side, o.frm, o.to, []⟩
 else if o.kind = 15 then ⟨o.kind, 0, 0, 0, 0, 0, 0, o.s⟩
 else ⟨o.kind, 0, 0, 0, 0, 0, 0, []⟩
def right (o : OpD) : Bool := decide (1 ≤ o.kind ∧ o.kind ≤ 15) && decide (o = used o)
def refRight (o : OpD) : Bool :=
 if o.kind < 1 ∨ 15 < o.kind then false
 else if o.k ≠ 0 ∧ o.kind ≠ 2 ∧ o.kind ≠ 5 then false
 else if o.width ≠ 0 ∧ o.kind ≠ 11 ∧ o.kind ≠ 12 then false
 else if o.step ≠ 0 ∧ (o.kind < 10 ∨ 12 < o.kind) then false
 else if o.side ≠ 0 ∧ o.kind ≠ 13 ∧ o.kind ≠ 14 then false
 else if (o.frm ≠ 0 ∨ o.to ≠ 0) ∧ o.kind ≠ 14 then false
 else decide (o.s = [] ∨ o.kind = 15)
theorem ref_right (o : OpD) : refRight o = right o := by
 obtain ⟨kind, k, width, step, side, frm, tz, s⟩ := o
 rw [Bool.eq_iff_iff]
 unfold refRight right used
 simp only [Bool.and_eq_true, decide_eq_true_eq]
 by_cases h1 : 1 ≤ kind ∧ kind ≤ 15
 ·have hk : kind = 1 ∨ kind = 2 ∨ kind = 3 ∨ kind = 4 ∨ kind = 5 ∨ kind = 6 ∨ kind = 7 ∨ kind = 8 ∨ kind = 9 ∨ kind = 10 ∨ kind = 11 ∨ kind = 12 ∨ kind = 13 ∨ kind = 14 ∨ kind = 15 := by omega
  rcases hk with rfl | rfl | rfl | rfl | rfl | rfl | rfl | rfl | rfl | rfl | rfl | rfl | rfl | rfl | rfl <;> simp <;> grind
 ·have : kind < 1 ∨ 15 < kind := by omega
  simp [this]
  omega
def ptIns (k : Int) : Int := if 1 ≤ k ∧ k ≤ 5 then 1 else if k = 6 ∨ k = 7 then 2 else 0
def least (o : OpD) : Int := if right o then (if o.kind ≤ 7 then ptIns o.kind else 1) else 0
def most (o : OpD) : Int := if right o then (if o.kind ≤ 7 then ptIns o.kind else if o.kind = 13 then 8 else 1) else 0
def params (o : OpD) : Int := if right o then (if o.kind = 8 then 2 else if o.kind = 9 ∨ o.kind = 10 then 1 else 0) else 0
def counts (o : OpD) (p x : Int) : Int := if right o then (if x < least o ∨ most o < x ∨ p ≠ params o then 20 else 0) else 21
theorem right_kind {o : OpD} (h : right o = true) : 1 ≤ o.kind ∧ o.kind ≤ 15 := by simp [right] at h; exact h.1
theorem least_pos {o : OpD} (h : right o = true) : 1 ≤ least o := by
 have := right_kind h
 unfold least ptIns
 rw [if_pos h]
 split
 ·split
  ·omega
  ·split <;> omega
 ·omega
theorem most_le {o : OpD} (h : right o = true) : most o ≤ 8 := by
 unfold most ptIns
 rw [if_pos h]
 split
 ·split
  ·omega
  ·split <;> omega
 ·split <;> omega
def window (side width step : Int) : Int × Int := if Sh.side side ∧ Sh.side width ∧ Sh.side step ∧ width ≤ side then (1 + (side - width).tdiv step, 0) else (0, 11)
def inR (side : Int) (s : List Int) : Bool := decide (0 ≤ side ∧ side < s.length)
def at_ (s : List Int) (i : Int) : Int := s.getD i.toNat 0
def pool (x : List Int) (width step : Int) : List Int × Int :=
 if Sh.right x then (if (window (x.getD (x.length - 1) 0) width step).2 = 0 then (x.set (x.length - 1) (window (x.getD (x.length - 1) 0) width step).1, 0) else ([], 11)) else ([], 20)
def wn (w x : List Int) (step : Int) (i : Nat) : Int × Int := window (x.getD (i + 1) 0) (w.getD (i + 2) 0) step
def outs (w x : List Int) (step : Int) (k : Nat) : List Int := w.getD 0 0 :: (List.range k).map fun i => (wn w x step i).1
def conv (w x : List Int) (step : Int) : List Int × Int :=
 if Sh.right w && Sh.right x && decide (2 ≤ x.length ∧ x.length ≤ 3 ∧ w.length = x.length + 1 ∧ w.getD 1 0 = x.getD 0 0) then
  (if (List.range (x.length - 1)).all (fun i => decide ((wn w x step i).2 = 0)) then
   (if Sh.right (outs w x step (x.length - 1)) then (outs w x step (x.length - 1), 0) else ([], 20)) else ([], 11)) else ([], 20)
def joinOk (s t : List Int) (side : Int) : Bool := (List.range s.length).all fun i => decide ((i : Int) = side) || decide (s.getD i 0 = t.getD i 0)
def joinL (s t : List Int) (side : Int) : List Int := s.set side.toNat (at_ s side + at_ t side)
def join (s t : List Int) (side : Int) : List Int × Int :=
 if Sh.right s && Sh.right t && decide (s.length = t.length) then
  (if inR side s then (if joinOk s t side && Sh.right (joinL s t side) then (joinL s t side, 0) else ([], 20)) else ([], 11)) else ([], 20)
def joinAll (side : Int) : List Int → List (List Int) → List Int × Int
 | s, [] => (s, 0)
 | s, t :: r => if (join s t side).2 = 0 then joinAll side (join s t side).1 r else ([], (join s t side).2)
def joined (side : Int) (l : List (List Int)) : List Int × Int :=
 if l.length = 1 ∧ inR side (l.getD 0 []) = false then ([], 11) else joinAll side (l.getD 0 []) (l.drop 1)
def cut (s : List Int) (side frm tz : Int) : List Int × Int :=
 if Sh.right s then (if inR side s && decide (0 ≤ frm ∧ tz ≤ at_ s side ∧ frm < tz) then (s.set side.toNat (tz - frm), 0) else ([], 11)) else ([], 20)
def same (l : List (List Int)) : List Int × Int := if l.all (fun s => decide (s = l.getD 0 [])) then (l.getD 0 [], 0) else ([], 20)
def dense (w b x : List Int) : List Int × Int :=
 if w.length = 2 ∧ b.length = 1 ∧ b.getD 0 0 = w.getD 0 0 ∧ Sh.right x = true ∧ Safe.prod x = w.getD 1 0 then ([w.getD 0 0], 0) else ([], 20)
def turned (x s : List Int) : List Int × Int := if Sh.right x && Sh.right s && decide (Safe.prod s = Safe.prod x) then (s, 0) else ([], 20)
def byKind (o : OpD) (p x : List (List Int)) : List Int × Int :=
 if o.kind = 8 then dense (p.getD 0 []) (p.getD 1 []) (x.getD 0 [])
 else if o.kind = 9 then same [p.getD 0 [], x.getD 0 []]
 else if o.kind = 10 then conv (p.getD 0 []) (x.getD 0 []) o.step
 else if o.kind = 11 ∨ o.kind = 12 then pool (x.getD 0 []) o.width o.step
 else if o.kind = 13 then joined o.side x
 else if o.kind = 14 then cut (x.getD 0 []) o.side o.frm o.to
 else if o.kind = 15 then turned (x.getD 0 []) o.s
 else same x
def shape (o : OpD) (p x : List (List Int)) : List Int × Int :=
 if counts o p.length x.length ≠ 0 then ([], counts o p.length x.length)
 else if p.all Sh.right && x.all Sh.right then byKind o p x else ([], 20)
theorem window_ok {side width step : Int} (h : (window side width step).2 = 0) : 1 ≤ (window side width step).1 ∧ (window side width step).1 ≤ side := by
 unfold window at h ⊢
 split at h
 ·rename_i hc
  rw [if_pos hc]
  simp only [Sh.side_iff] at hc
  have h1 : 0 ≤ (side - width).tdiv step := Int.tdiv_nonneg (by omega) (by omega)
  have h2 : (side - width).tdiv step ≤ side - width := Int.tdiv_le_self _ (by omega)
  simp only
  omega
 ·simp at h
theorem window_err {side width step : Int} (h : (window side width step).2 ≠ 0) : window side width step = (0, 11) := by
 unfold window at h ⊢
 split
 ·rename_i hc; rw [if_pos hc] at h; simp at h
 ·rfl
theorem prod_set {l : List Int} (h : ∀ x ∈ l, 1 ≤ x) {i : Nat} (hi : i < l.length) {n : Int} (h2 : n ≤ l[i]) : Safe.prod (l.set i n) ≤ Safe.prod l := by
 induction l generalizing i with
 | nil => simp at hi
 | cons a r ih =>
  have ha := h a (by simp)
  have hr : ∀ x ∈ r, 1 ≤ x := fun x hx => h x (by simp [hx])
  have hp := Safe.prod_pos r hr
  cases i with
  | zero =>
   simp only [List.set_cons_zero, Safe.prod]
   simp at h2
   exact Int.mul_le_mul_of_nonneg_right h2 (by omega)
  | succ i =>
   simp only [List.set_cons_succ, Safe.prod]
   simp at h2 hi
   exact Int.mul_le_mul_of_nonneg_left (ih hr hi h2) (by omega)
theorem right_set {l : List Int} (h : Sh.right l = true) {i : Nat} (hi : i < l.length) {n : Int} (h1 : 1 ≤ n) (h2 : n ≤ l[i]) : Sh.right (l.set i n) = true := by
 obtain ⟨_, a1, a2, a3, a4, a5⟩ := Sh.right_mul h
 have hp := prod_set (fun x hx => (a3 x hx).1) hi h2
 have hm := a3 _ (List.getElem_mem hi)
 simp only [Sh.right, Bool.and_eq_true, decide_eq_true_eq, List.length_set, List.all_eq_true, Sh.side_iff]
 refine ⟨⟨⟨a2, a1⟩, fun x hx => ?_⟩, by omega⟩
 rcases List.mem_or_eq_of_mem_set hx with hx | rfl
 ·exact a3 x hx
 ·omega
theorem joinAll_right {side : Int} : ∀ {l : List (List Int)} {s : List Int}, Sh.right s = true → (joinAll side s l).2 = 0 → Sh.right (joinAll side s l).1 = true
 | [], _, hs, _ => hs
 | t :: r, s, hs, h => by
  rw [joinAll] at h ⊢
  split at h
  ·rename_i hj
   rw [if_pos hj]
   refine joinAll_right ?_ h
   unfold join at hj ⊢
   split at hj
   ·rename_i h1
    rw [if_pos h1]
    split at hj
    ·rename_i h2
     rw [if_pos h2]
     split at hj
     ·rename_i h3
      rw [if_pos h3]
      simp at h3
      exact h3.2
     ·simp at hj
    ·simp at hj
   ·simp at hj
  ·rename_i hj; exact absurd h hj
theorem all_getD0 {l : List (List Int)} (h : l.all Sh.right = true) (hl : 0 < l.length) : Sh.right (l.getD 0 []) = true := by
 cases l with
 | nil => simp at hl
 | cons a r => simp at h; simpa using h.1
theorem shape_ok {o : OpD} {p x : List (List Int)} (h : (shape o p x).2 = 0) : right o = true ∧ least o ≤ x.length ∧ (x.length : Int) ≤ most o ∧ (p.length : Int) = params o ∧ p.all Sh.right = true ∧ x.all Sh.right = true ∧ shape o p x = byKind o p x := by
 unfold shape counts at h ⊢
 cases hr : right o
 ·simp [hr] at h
 ·by_cases hc : (x.length : Int) < least o ∨ most o < (x.length : Int) ∨ (p.length : Int) ≠ params o
  ·simp [hr, hc] at h
  ·simp only [hr, if_true, hc, if_false, ne_eq, not_true_eq_false] at h ⊢
   have hc' := hc
   simp only [not_or] at hc'
   cases hp : p.all Sh.right
   ·simp [hp] at h
   ·cases hx : x.all Sh.right
    ·simp [hp, hx] at h
    ·simp
     omega
theorem shape_right {o : OpD} {p x : List (List Int)} (h : (shape o p x).2 = 0) : Sh.right (shape o p x).1 = true := by
 obtain ⟨hr, h1, h2, h3, hp, hx, e⟩ := shape_ok h
 rw [e] at h ⊢
 have hl := least_pos hr
 have hx0 := all_getD0 hx (by omega)
 obtain ⟨_, a1, a2, a3, a4, a5⟩ := Sh.right_mul hx0
 unfold byKind at h ⊢
 split at h
 ·rename_i hk
  rw [if_pos hk]
  unfold params at h3
  rw [if_pos hr, if_pos hk] at h3
  have hp0 := all_getD0 hp (by omega)
  obtain ⟨_, b1, b2, b3, b4, b5⟩ := Sh.right_mul hp0
  unfold dense at h ⊢
  split at h
  ·rename_i hc
   rw [if_pos hc]
   generalize p.getD 0 [] = w at *
   match w, hc.1 with
   | [a, b], _ =>
    have := b3 a (by simp)
    have h1 : Safe.prod [a] ≤ 65536 := by simp [Safe.prod]; omega
    simp [Sh.right, Sh.side_iff, h1]
    omega
  ·simp at h
 ·rename_i hk
  rw [if_neg hk]
  split at h
  ·rename_i hk
   rw [if_pos hk]
   unfold params at h3
   rw [if_pos hr, if_neg (by omega), if_pos (by omega)] at h3
   have hp0 := all_getD0 hp (by omega)
   unfold same at h ⊢
   split at h
   ·rename_i hc; rw [if_pos hc]; simpa using hp0
   ·simp at h
  ·rename_i hk2
   rw [if_neg hk2]
   split at h
   ·rename_i hk
    rw [if_pos hk]
    unfold conv at h ⊢
    split at h
    ·rename_i c1
     rw [if_pos c1]
     split at h
     ·rename_i c2
      rw [if_pos c2]
      split at h
      ·rename_i c3; rw [if_pos c3]; exact c3
      ·simp at h
     ·simp at h
    ·simp at h
   ·rename_i hk3
    rw [if_neg hk3]
    split at h
    ·rename_i hk
     rw [if_pos hk]
     unfold pool at h ⊢
     rw [if_pos hx0] at h ⊢
     split at h
     ·rename_i c1
      rw [if_pos c1]
      have := window_ok c1
      generalize x.getD 0 [] = x0 at *
      have hi : x0.length - 1 < x0.length := by omega
      refine right_set hx0 hi this.1 ?_
      have e2 : x0.getD (x0.length - 1) 0 = x0[x0.length - 1] := by rw [List.getD_eq_getElem?_getD, List.getElem?_eq_getElem hi]; rfl
      have := this.2
      omega
     ·simp at h
    ·rename_i hk4
     rw [if_neg hk4]
     split at h
     ·rename_i hk
      rw [if_pos hk]
      unfold joined at h ⊢
      split at h
      ·simp at h
      ·rename_i c1; rw [if_neg c1]; exact joinAll_right hx0 h
     ·rename_i hk5
      rw [if_neg hk5]
      split at h
      ·rename_i hk
       rw [if_pos hk]
       unfold cut at h ⊢
       rw [if_pos hx0] at h ⊢
       split at h
       ·rename_i c1
        rw [if_pos c1]
        simp [inR, at_] at c1
        obtain ⟨⟨c2, c3⟩, c4, c5, c6⟩ := c1
        have hi : o.side.toNat < (x.getD 0 []).length := by simp; omega
        refine right_set hx0 hi (by omega) ?_
        have : (x.getD 0 [])[o.side.toNat]?.getD 0 = (x.getD 0 [])[o.side.toNat] := by rw [List.getElem?_eq_getElem hi]; rfl
        simp at this c5
        rw [this] at c5
        simp
        omega
       ·simp at h
      ·rename_i hk6
       rw [if_neg hk6]
       split at h
       ·rename_i hk
        rw [if_pos hk]
        unfold turned at h ⊢
        split at h
        ·rename_i c1; rw [if_pos c1]; simp at c1; exact c1.1.2
        ·simp at h
       ·rename_i hk7
        rw [if_neg hk7]
        unfold same at h ⊢
        split at h
        ·rename_i c1; rw [if_pos c1]; exact hx0
        ·simp at h
end Od
end Go.Proofs.YtbnnpkcfifejmaaGreat
namespace Go.Proofs.YtbnnpkcfifejmaaGreat
open Go.RowKit
namespace Ly
def In (t : Ten) : Prop := ∀ z ∈ t.c, Fx.In z
def none_ : Ten := ⟨[], []⟩
def got (l : List Ten) (i : Nat) : Ten := l.getD i none_
def tab (n : Nat) (f : Nat → Int) : List Int := (List.range n).map f
def at_ (l : List Int) (i : Nat) : Int := l.getD i 0
def zeros (n : Nat) : List Int := List.replicate n 0
def side (s : List Int) (i : Nat) : Nat := (at_ s i).toNat
def span (l : List Int) : Nat := (Safe.prod l).toNat
def alike (a b : Ten) : Bool := Tn.right a && Tn.right b && decide (a.s = b.s)
def add (a b : Ten) : Ten × Int := if alike a b then (⟨a.s, tab a.c.length fun i => Fx.add (at_ a.c i) (at_ b.c i)⟩, 0) else (none_, 20)
def cutRows (c : List Int) (row a n : Nat) (k : Nat) : List Int := (List.range k).flatMap fun i => (c.drop (i * row + a)).take n
def cut (x : Ten) (sd frm til : Int) : Ten × Int :=
 if Tn.right x then
  if (Od.cut x.s sd frm til).2 = 0 then
   let inner := span ((Od.cut x.s sd frm til).1.drop (sd.toNat + 1))
   let row := side x.s sd.toNat * inner
   (⟨(Od.cut x.s sd frm til).1, cutRows x.c row (frm.toNat * inner) ((til.toNat - frm.toNat) * inner) (x.c.length / row)⟩, 0)
  else (none_, (Od.cut x.s sd frm til).2)
 else (none_, 20)
def of_ (s c : List Int) : Ten × Int := if Tn.right ⟨s, c⟩ then (⟨s, c⟩, 0) else (none_, 20)
def one : Int := 4294967296
def line (x : Int) : Int := Fx.add (Fx.mul x 1073741824) 2147483648
def cell (kind k x y : Int) : Int :=
 if kind = 1 then (if x < 0 then 0 else x)
 else if kind = 2 then (if 0 < x then x else Fx.mul x k)
 else if kind = 3 then Fx.held x (-4294967296) 4294967296
 else if kind = 4 then Fx.held (line x) 0 4294967296
 else if kind = 5 then Fx.mul x k
 else if kind = 6 then Fx.add x y
 else if kind = 7 then Fx.mul x y
 else 0
def slope (kind k x y g : Int) : Int × Int :=
 if kind = 1 then (if 0 < x then (g, 0) else (0, 0))
 else if kind = 2 then (if 0 < x then (g, 0) else (Fx.mul g k, 0))
 else if kind = 3 then (if -4294967296 < x ∧ x < 4294967296 then (g, 0) else (0, 0))
 else if kind = 4 then (if 0 < line x ∧ line x < 4294967296 then (Fx.mul g 1073741824, 0) else (0, 0))
 else if kind = 5 then (Fx.mul g k, 0)
 else if kind = 6 then (g, g)
 else if kind = 7 then (Fx.mul g y, Fx.mul g x)
 else (0, 0)
def second (x : List Ten) (i : Nat) : Int := if x.length < 2 then 0 else at_ (got x 1).c i
def ptAgree (kind : Int) (x : List Ten) : Int :=
 if Od.ptIns kind = 0 then 21 else if (x.length : Int) ≠ Od.ptIns kind then 20 else if x.all (fun t => Tn.right t && decide (t.s = (got x 0).s)) then 0 else 20
def point (kind k : Int) (x : List Ten) : Ten × Int :=
 if ptAgree kind x = 0 then (⟨(got x 0).s, tab (got x 0).c.length fun i => cell kind k (at_ (got x 0).c i) (second x i)⟩, 0) else (none_, ptAgree kind x)
def slopes (kind k : Int) (x : List Ten) (g : Ten) (i : Nat) : Int × Int := slope kind k (at_ (got x 0).c i) (second x i) (at_ g.c i)
def pointBack (kind k : Int) (g : Ten) (x : List Ten) : List Ten × Int :=
 if ptAgree kind x = 0 then
  if Tn.right g && decide (g.s = (got x 0).s) then
   (if x.length < 2 then [⟨(got x 0).s, tab (got x 0).c.length fun i => (slopes kind k x g i).1⟩]
    else [⟨(got x 0).s, tab (got x 0).c.length fun i => (slopes kind k x g i).1⟩, ⟨(got x 1).s, tab (got x 0).c.length fun i => (slopes kind k x g i).2⟩], 0)
  else ([], 20)
 else ([], ptAgree kind x)
def denseOk (w b x : Ten) : Bool := Tn.right w && decide (w.s.length = 2) && Tn.right b && Tn.right x && decide (b.s = [at_ w.s 0]) && decide ((x.c.length : Int) = at_ w.s 1)
def rowOf (w : List Int) (n i : Nat) : List Int := (w.drop (i * n)).take n
def dense (w b x : Ten) : Ten × Int :=
 if denseOk w b x then (⟨b.s, tab b.c.length fun i => Fx.add (Fx.dot (rowOf w.c x.c.length i) x.c) (at_ b.c i)⟩, 0) else (none_, 20)
def denseX (w g x : List Int) : Nat → List Int
 | 0 => zeros x.length
 | i + 1 => tab x.length fun j => Fx.add (at_ (denseX w g x i) j) (Fx.mul (at_ w (i * x.length + j)) (at_ g i))
def denseW (g x : List Int) : List Int := tab (g.length * x.length) fun k => Fx.mul (at_ g (k / x.length)) (at_ x (k % x.length))
def denseBack (w b x g : Ten) : (Ten × Ten × Ten) × Int :=
 if denseOk w b x && Tn.right g && decide (g.s = b.s) then ((⟨w.s, denseW g.c x.c⟩, g, ⟨x.s, denseX w.c g.c x.c g.c.length⟩), 0) else ((none_, none_, none_), 20)
structure Frame where
 outs : Nat
 ins : Nat
 k0 : Nat
 k1 : Nat
 i0 : Nat
 i1 : Nat
 o0 : Nat
 o1 : Nat
 step : Nat
def last2 (l : List Int) : Nat × Nat := if l.length = 1 then (1, side l 0) else (side l 0, side l 1)
def frame (w x out : List Int) (step : Int) : Frame :=
 ⟨side w 0, side w 1, (last2 (w.drop 2)).1, (last2 (w.drop 2)).2, (last2 (x.drop 1)).1, (last2 (x.drop 1)).2, (last2 (out.drop 1)).1, (last2 (out.drop 1)).2, step.toNat⟩
structure Touch where
 o : Nat
 w : Nat
 x : Nat
def Frame.rowT (f : Frame) (p i j q t : Nat) : List Touch :=
 (List.range f.k1).map fun u => ⟨(p * f.o0 + i) * f.o1 + j, (p * f.ins + q) * (f.k0 * f.k1) + t * f.k1 + u, q * (f.i0 * f.i1) + (i * f.step * f.i1 + j * f.step) + t * f.i1 + u⟩
def Frame.cellT (f : Frame) (p i j : Nat) : List Touch := (List.range f.ins).flatMap fun q => (List.range f.k0).flatMap fun t => f.rowT p i j q t
def Frame.all (f : Frame) : List Touch := (List.range f.outs).flatMap fun p => (List.range f.o0).flatMap fun i => (List.range f.o1).flatMap fun j => f.cellT p i j
def addAt (l : List Int) (i : Nat) (v : Int) : List Int := l.set i (Fx.add (at_ l i) v)
def convC (w x : List Int) (ts : List Touch) (n : Nat) : List Int := ts.foldl (fun o t => addAt o t.o (Fx.mul (at_ w t.w) (at_ x t.x))) (zeros n)
def convW (g x : List Int) (ts : List Touch) (n : Nat) : List Int := ts.foldl (fun o t => addAt o t.w (Fx.mul (at_ g t.o) (at_ x t.x))) (zeros n)
def convX (g w : List Int) (ts : List Touch) (n : Nat) : List Int := ts.foldl (fun o t => addAt o t.x (Fx.mul (at_ g t.o) (at_ w t.w))) (zeros n)
def convErr (w x : Ten) (step : Int) : Int := if Tn.right w && Tn.right x then (Od.conv w.s x.s step).2 else 20
def convT (w x : Ten) (step : Int) : List Touch := (frame w.s x.s (Od.conv w.s x.s step).1 step).all
def conv (w x : Ten) (step : Int) : Ten × Int :=
 if convErr w x step = 0 then (⟨(Od.conv w.s x.s step).1, convC w.c x.c (convT w x step) (span (Od.conv w.s x.s step).1)⟩, 0) else (none_, convErr w x step)
def convBack (w x g : Ten) (step : Int) : (Ten × Ten) × Int :=
 if convErr w x step = 0 then
  if Tn.right g && decide (g.s = (Od.conv w.s x.s step).1) then
   ((⟨w.s, convW g.c x.c (convT w x step) w.c.length⟩, ⟨x.s, convX g.c w.c (convT w x step) x.c.length⟩), 0)
  else ((none_, none_), 20)
 else ((none_, none_), convErr w x step)
def best (l : List Int) : Nat → Int
 | 0 => -1
 | k + 1 => if best l k < 0 ∨ at_ l (best l k).toNat < at_ l k then k else best l k
def poolErr (x : Ten) (width step : Int) : Int := if Tn.right x then (Od.pool x.s width step).2 else 20
def from_ (sd n step i : Nat) : Nat := i / n * sd + i % n * step
def win (c : List Int) (sd n width step i : Nat) : List Int := (c.drop (from_ sd n step i)).take width
def poolCell (top : Bool) (l : List Int) (width : Int) : Int := if top then at_ l (best l l.length).toNat else Fx.div (Fx.sum l) (width * 4294967296)
def lastOf (s : List Int) : Nat := side s (s.length - 1)
def poolS (x : Ten) (width step : Int) : List Int := (Od.pool x.s width step).1
def pool (top : Bool) (x : Ten) (width step : Int) : Ten × Int :=
 if poolErr x width step = 0 then
  (⟨poolS x width step, tab (span (poolS x width step)) fun i => poolCell top (win x.c (lastOf x.s) (lastOf (poolS x width step)) width.toNat step.toNat i) width⟩, 0)
 else (none_, poolErr x width step)
def addRow (l : List Int) (a : Nat) (v : Int) : Nat → List Int
 | 0 => l
 | j + 1 => addAt (addRow l a v j) (a + j) v
def poolStep (top : Bool) (x : List Int) (sd n : Nat) (width : Int) (step : Nat) (acc : List Int) (i : Nat) (v : Int) : List Int :=
 if top then addAt acc (from_ sd n step i + (best (win x sd n width.toNat step i) width.toNat).toNat) v
 else addRow acc (from_ sd n step i) (Fx.div v (width * 4294967296)) width.toNat
def poolX (top : Bool) (x g : List Int) (sd n : Nat) (width : Int) (step : Nat) : Nat → List Int
 | 0 => zeros x.length
 | i + 1 => poolStep top x sd n width step (poolX top x g sd n width step i) i (at_ g i)
def poolBack (top : Bool) (x g : Ten) (width step : Int) : Ten × Int :=
 if poolErr x width step = 0 then
  if Tn.right g && decide (g.s = poolS x width step) then
   (⟨x.s, poolX top x.c g.c (lastOf x.s) (lastOf (poolS x width step)) width step.toNat g.c.length⟩, 0)
  else (none_, 20)
 else (none_, poolErr x width step)
def joinedS (sd : Int) (s : List Int) : List Ten → List Int × Int
 | [] => (s, 0)
 | t :: r => if Tn.right t then (if (Od.join s t.s sd).2 = 0 then joinedS sd (Od.join s t.s sd).1 r else ([], (Od.join s t.s sd).2)) else ([], 20)
def joined (sd : Int) (x : List Ten) : List Int × Int :=
 match x with
 | [] => ([], 20)
 | t :: r => if Tn.right t then (if r.length = 0 ∧ (sd < 0 ∨ (t.s.length : Int) ≤ sd) then ([], 11) else joinedS sd t.s r) else ([], 20)
def joinRow (rows : Nat) (i : Nat) (t : Ten) : List Int := (t.c.drop (i * (t.c.length / rows))).take (t.c.length / rows)
def joinC (rows : Nat) (x : List Ten) (k : Nat) : List Int := (List.range k).flatMap fun i => x.flatMap (joinRow rows i)
def join (sd : Int) (x : List Ten) : Ten × Int :=
 if (joined sd x).2 = 0 then
  let rows := span ((joined sd x).1.take sd.toNat)
  (⟨(joined sd x).1, joinC rows x rows⟩, 0)
 else (none_, (joined sd x).2)
def joinBackL (sd : Int) (g : Ten) (frm : Int) : List Ten → List Ten × Int
 | [] => ([], 0)
 | t :: r =>
  if (cut g sd frm (frm + at_ t.s sd.toNat)).2 = 0 then
   (if (joinBackL sd g (frm + at_ t.s sd.toNat) r).2 = 0 then ((cut g sd frm (frm + at_ t.s sd.toNat)).1 :: (joinBackL sd g (frm + at_ t.s sd.toNat) r).1, 0) else ([], (joinBackL sd g (frm + at_ t.s sd.toNat) r).2))
  else ([], (cut g sd frm (frm + at_ t.s sd.toNat)).2)
def joinBack (sd : Int) (g : Ten) (x : List Ten) : List Ten × Int :=
 if (joined sd x).2 = 0 then (if Tn.right g && decide (g.s = (joined sd x).1) then joinBackL sd g 0 x else ([], 20)) else ([], (joined sd x).2)
def cutX (n row a part : Nat) (g : List Int) : Nat → List Int
 | 0 => zeros n
 | i + 1 => splice (cutX n row a part g i) (i * row + a) ((g.drop (i * part)).take part)
def cutBack (x g : Ten) (sd frm til : Int) : Ten × Int :=
 if Tn.right x then
  if (Od.cut x.s sd frm til).2 = 0 then
   if Tn.right g && decide (g.s = (Od.cut x.s sd frm til).1) then
    let inner := span ((Od.cut x.s sd frm til).1.drop (sd.toNat + 1))
    let row := side x.s sd.toNat * inner
    (⟨x.s, cutX x.c.length row (frm.toNat * inner) ((til.toNat - frm.toNat) * inner) g.c (x.c.length / row)⟩, 0)
   else (none_, 20)
  else (none_, (Od.cut x.s sd frm til).2)
 else (none_, 20)
def turn (x : Ten) (s : List Int) : Ten × Int := if Tn.right x then of_ s x.c else (none_, 20)
def turnBack (x g : Ten) : Ten × Int := if Tn.right x && Tn.right g then of_ x.s g.c else (none_, 20)
def lay (o : OpD) (p x : List Ten) : Ten × Int :=
 if o.kind = 8 then dense (got p 0) (got p 1) (got x 0)
 else if o.kind = 9 then add (got x 0) (got p 0)
 else if o.kind = 10 then conv (got p 0) (got x 0) o.step
 else if o.kind = 11 then pool true (got x 0) o.width o.step
 else if o.kind = 12 then pool false (got x 0) o.width o.step
 else if o.kind = 13 then join o.side x
 else if o.kind = 14 then cut (got x 0) o.side o.frm o.to
 else if o.kind = 15 then turn (got x 0) o.s
 else point o.kind o.k x
def go (o : OpD) (p x : List Ten) : Ten × Int := if Od.counts o p.length x.length = 0 then lay o p x else (none_, Od.counts o p.length x.length)
structure Bk where
 p : List Ten
 x : List Ten
def bnone : Bk := ⟨[], []⟩
def bsingle (r : Ten × Int) : Bk × Int := if r.2 = 0 then (⟨[], [r.1]⟩, 0) else (bnone, r.2)
def bseveral (r : List Ten × Int) : Bk × Int := if r.2 = 0 then (⟨[], r.1⟩, 0) else (bnone, r.2)
def bbias (b x g : Ten) : Bk × Int :=
 if (add x b).2 = 0 then (if Tn.right g && decide (g.s = (add x b).1.s) then (⟨[g], [g]⟩, 0) else (bnone, 20)) else (bnone, (add x b).2)
def bturn (x g : Ten) (s : List Int) : Bk × Int :=
 if (turn x s).2 = 0 then (if Tn.right g && decide (g.s = s) then bsingle (turnBack x g) else (bnone, 20)) else (bnone, (turn x s).2)
def layBack (o : OpD) (p x : List Ten) (g : Ten) : Bk × Int :=
 if o.kind = 8 then (if (denseBack (got p 0) (got p 1) (got x 0) g).2 = 0 then (⟨[(denseBack (got p 0) (got p 1) (got x 0) g).1.1, (denseBack (got p 0) (got p 1) (got x 0) g).1.2.1], [(denseBack (got p 0) (got p 1) (got x 0) g).1.2.2]⟩, 0) else (bnone, (denseBack (got p 0) (got p 1) (got x 0) g).2))
 else if o.kind = 9 then bbias (got p 0) (got x 0) g
 else if o.kind = 10 then (if (convBack (got p 0) (got x 0) g o.step).2 = 0 then (⟨[(convBack (got p 0) (got x 0) g o.step).1.1], [(convBack (got p 0) (got x 0) g o.step).1.2]⟩, 0) else (bnone, (convBack (got p 0) (got x 0) g o.step).2))
 else if o.kind = 11 then bsingle (poolBack true (got x 0) g o.width o.step)
 else if o.kind = 12 then bsingle (poolBack false (got x 0) g o.width o.step)
 else if o.kind = 13 then bseveral (joinBack o.side g x)
 else if o.kind = 14 then bsingle (cutBack (got x 0) g o.side o.frm o.to)
 else if o.kind = 15 then bturn (got x 0) g o.s
 else bseveral (pointBack o.kind o.k g x)
def back (o : OpD) (p x : List Ten) (g : Ten) : Bk × Int := if Od.counts o p.length x.length = 0 then layBack o p x g else (bnone, Od.counts o p.length x.length)
end Ly
end Go.Proofs.YtbnnpkcfifejmaaGreat
namespace Go.Proofs.YtbnnpkcfifejmaaGreat
open Go.RowKit
def Tens (w : World) (A : Option Addr) (ts : List Ten) : Prop :=
 ∀ j (hj : j < ts.length), ∃ b off S c C d, A = some ⟨b, off, none⟩ ∧ b < w.heap.size ∧ w.cell? ⟨b, off + j * 2, none⟩ = some (.slice S ts[j].s.length c) ∧ w.cell? ⟨b, off + j * 2 + 1, none⟩ = some (.slice C ts[j].c.length d) ∧ TenR w S C ts[j] ∧ ts[j].s.length ≤ 9223372036854775807 ∧ ts[j].c.length ≤ 9223372036854775807
theorem TenR.below {B : Nat} {w w' : World} {S C : Option Addr} {t : Ten} (h : TenR w S C t) (hb : Below B w w') (hB : w.heap.size ≤ B) : TenR w' S C t := ⟨h.1.below hb hB, h.2.below hb hB⟩
theorem TenR.drew {w : World} {S C : Option Addr} {t : Ten} (h : TenR w S C t) : TenR w.drew S C t := h
theorem Tens.below {B : Nat} {w w' : World} {A : Option Addr} {ts : List Ten} (h : Tens w A ts) (hb : Below B w w') (hB : w.heap.size ≤ B) : Tens w' A ts := fun j hj => by
 obtain ⟨b, off, S, c, C, d, e, hl, c0, c1, hT, h2⟩ := h j hj
 exact ⟨b, off, S, c, C, d, e, Nat.lt_of_lt_of_le hl hb.size, (hb.cell (p := ⟨b, off + j * 2, none⟩) (Nat.lt_of_lt_of_le hl hB)).trans c0, (hb.cell (p := ⟨b, off + j * 2 + 1, none⟩) (Nat.lt_of_lt_of_le hl hB)).trans c1, hT.below hb hB, h2⟩
theorem take_all_succ {α : Type} {p : α → Bool} {l : List α} {k : Nat} (hk : k < l.length) (h : (l.take k).all p = true) (hp : p l[k] = true) : (l.take (k + 1)).all p = true := by
 rw [List.take_succ_eq_append_getElem hk, List.all_append, h]; simp [hp]
theorem all_false_at {α : Type} {p : α → Bool} {l : List α} {k : Nat} (hk : k < l.length) (hp : p l[k] = false) : l.all p = false := by
 rw [List.all_eq_false]; exact ⟨l[k], List.getElem_mem hk, by simp [hp]⟩
namespace Tn
def alike (a b : List Ten) : Bool := decide (a.length = b.length) && a.all right && b.all right && (a.map (·.s) == b.map (·.s))
theorem alike_len {a b : List Ten} (h : a.length ≠ b.length) : alike a b = false := by simp [alike, h]
theorem alike_a {a b : List Ten} (h : a.all right = false) : alike a b = false := by simp [alike, h]
theorem alike_b {a b : List Ten} (h : b.all right = false) : alike a b = false := by simp [alike, h]
theorem alike_ok {a b : List Ten} (h : a.length = b.length) (ha : a.all right = true) (hb : b.all right = true) : alike a b = (a.map (·.s) == b.map (·.s)) := by simp [alike, h, ha, hb]
theorem right_len {t : Ten} (h : right t = true) : t.s.length ≤ 4 ∧ 1 ≤ t.s.length ∧ t.c.length ≤ 65536 := by
 simp [right] at h
 obtain ⟨_, h1, h2, _, _, h3⟩ := Sh.right_mul h.1
 omega
end Tn
namespace Tn
def eqs (a b : List Ten) : Bool := decide (a.length = b.length) && (a.zip b).all fun p => eq p.1 p.2
theorem eqs_iff (a b : List Ten) : eqs a b = true ↔ a = b := by
 induction a generalizing b with
 | nil => cases b <;> simp [eqs]
 | cons x a ih =>
  cases b with
  | nil => simp [eqs]
  | cons y b =>
   have := ih b
   simp [eqs] at this ⊢
   rw [eq_iff]
   constructor
   ·rintro ⟨h1, h2, h3⟩; exact ⟨h2, this.1 ⟨h1, h3⟩⟩
   ·rintro ⟨h1, h2⟩; have := this.2 h2; exact ⟨this.1, h1, this.2⟩
theorem eqs_false {a b : List Ten} {k : Nat} (h : k < a.length) (h' : k < b.length) (he : eq a[k] b[k] = false) : eqs a b = false := by
 cases hh : eqs a b
 ·rfl
 ·have := (eqs_iff a b).1 hh
  subst this
  rw [(eq_iff _ _).2 rfl] at he
  cases he
theorem eqs_len {a b : List Ten} (h : a.length ≠ b.length) : eqs a b = false := by simp [eqs, h]
def small (a : List Ten) : Prop := ∀ t ∈ a, t.s.length ≤ 1000000 ∧ t.c.length ≤ 1000000
end Tn
end Go.Proofs.YtbnnpkcfifejmaaGreat
namespace Go.Proofs.YtbnnpkcfifejmaaGreat
namespace Kn
def ids (n : Nat) : List Int := (List.range n).map fun i => ((i + 1 : Nat) : Int)
def wt (I : Int → List Int) (out : List Int) (u : Int) : Nat := ((I u).filter fun i => !(i == 0) && !out.contains i).length
def free (I : Int → List Int) (out : List Int) (u : Int) : Bool := !out.contains u && (I u).all fun i => i == 0 || out.contains i
def ready (I : Int → List Int) (n : Nat) (out : List Int) : List Int := (ids n).filter (free I out)
def step (I : Int → List Int) (n : Nat) (out : List Int) : List Int := match ready I n out with
 | [] => out
 | id :: _ => out ++ [id]
def go (I : Int → List Int) (n : Nat) : Nat → List Int
 | 0 => []
 | k + 1 => step I n (go I n k)
def order (I : Int → List Int) (n : Nat) : List Int := go I n n
def users (I : Int → List Int) (n : Nat) (id : Int) : List Int := (ids n).flatMap fun u => List.replicate ((I u).count id) u
theorem mem_ids {n : Nat} {u : Int} : u ∈ ids n ↔ 1 ≤ u ∧ u ≤ n := by
 simp only [ids, List.mem_map, List.mem_range]
 constructor
 ·rintro ⟨a, h, rfl⟩; omega
 ·intro h; exact ⟨(u - 1).toNat, by omega, by omega⟩
theorem ids_length (n : Nat) : (ids n).length = n := by simp [ids]
theorem ids_get {n k : Nat} (h : k < n) : (ids n)[k]? = some ((k : Int) + 1) := by simp [ids, h]
theorem ids_pairwise (n : Nat) : (ids n).Pairwise (· < ·) := by
 unfold ids
 rw [List.pairwise_map]
 exact List.pairwise_lt_range.imp (by intro a b h; omega)
theorem ids_nodup (n : Nat) : (ids n).Nodup := (ids_pairwise n).imp (by intro a b h; omega)
theorem free_iff (I : Int → List Int) (out : List Int) (u : Int) : free I out u = (!out.contains u && wt I out u == 0) := by
 unfold free wt
 congr 1
 rw [Bool.eq_iff_iff]
 simp only [List.all_eq_true, beq_iff_eq, List.length_eq_zero_iff, List.filter_eq_nil_iff]
 refine forall_congr' fun i => forall_congr' fun _ => ?_
 simp
 grind
theorem mem_ready {I : Int → List Int} {n : Nat} {out : List Int} {u : Int} : u ∈ ready I n out ↔ (1 ≤ u ∧ u ≤ n) ∧ u ∉ out ∧ wt I out u = 0 := by
 unfold ready
 rw [List.mem_filter, mem_ids, free_iff]
 simp
theorem ready_sorted (I : Int → List Int) (n : Nat) (out : List Int) : (ready I n out).Pairwise (· < ·) := (ids_pairwise n).filter _
structure Ok (I : Int → List Int) (n : Nat) (out : List Int) : Prop where
 nodup : out.Nodup
 rng : ∀ u ∈ out, 1 ≤ u ∧ u ≤ n
 done : ∀ u ∈ out, wt I out u = 0
theorem wt_le (I : Int → List Int) (out more : List Int) (u : Int) : wt I (out ++ more) u ≤ wt I out u := by
 unfold wt
 generalize I u = l
 induction l with
 | nil => simp
 | cons a r ih =>
  rw [List.filter_cons, List.filter_cons]
  by_cases hz : a = 0
  ·simp [hz]; simpa using ih
  ·by_cases ho : a ∈ out
   ·simp [ho]; simpa using ih
   ·by_cases hm : a ∈ more
    ·simp [hz, ho, hm]; simp at ih; omega
    ·simp [hz, ho, hm]; simpa using ih
theorem Ok.nil (I : Int → List Int) (n : Nat) : Ok I n [] := ⟨by simp, by simp, by simp⟩
theorem Ok.push {I : Int → List Int} {n : Nat} {out : List Int} {u : Int} (h : Ok I n out) (hu : u ∈ ready I n out) : Ok I n (out ++ [u]) := by
 obtain ⟨h1, h2, h3⟩ := mem_ready.1 hu
 refine ⟨?_, ?_, ?_⟩
 ·rw [List.nodup_append]
  exact ⟨h.nodup, by simp, by intro a ha b hb; simp at hb; subst hb; intro e; subst e; exact h2 ha⟩
 ·intro v hv
  rcases List.mem_append.1 hv with hv | hv
  ·exact h.rng v hv
  ·simp at hv; subst hv; exact h1
 ·intro v hv
  rcases List.mem_append.1 hv with hv | hv
  ·have := h.done v hv; have := wt_le I out [u] v; omega
  ·simp at hv; subst hv; have := wt_le I out [v] v; omega
theorem wt_push {I : Int → List Int} {out : List Int} {u id : Int} (h0 : id ≠ 0) (hid : id ∉ out) : wt I (out ++ [id]) u + (I u).count id = wt I out u := by
 unfold wt
 generalize I u = l
 induction l with
 | nil => simp
 | cons a r ih =>
  rw [List.filter_cons, List.filter_cons, List.count_cons]
  by_cases ha : a = id
  ·subst ha
   simp [h0, hid]
   simp at ih
   omega
  ·by_cases hz : a = 0
   ·subst hz
    have : ¬ (0 = id) := fun e => h0 e.symm
    simp [this]
    simp at ih
    exact ih
   ·by_cases ho : a ∈ out
    ·simp [ha, ho]; simp at ih; exact ih
    ·simp [ha, hz, ho]; simp at ih; omega
theorem count_users (I : Int → List Int) (n : Nat) (id u : Int) (hu : u ∈ ids n) : (users I n id).count u = (I u).count id := by
 unfold users
 have key : ∀ l : List Int, l.Nodup → (l.flatMap fun u => List.replicate ((I u).count id) u).count u = if u ∈ l then (I u).count id else 0 := by
  intro l hl
  induction l with
  | nil => simp
  | cons a r ih =>
   rw [List.nodup_cons] at hl
   rw [List.flatMap_cons, List.count_append, ih hl.2, List.count_replicate]
   by_cases e : a = u
   ·subst e; simp [hl.1]
   ·have : ¬ (u = a) := fun h => e h.symm
    simp [e, this]
 rw [key _ (ids_nodup n), if_pos hu]
theorem mem_users {I : Int → List Int} {n : Nat} {id u : Int} (h : u ∈ users I n id) : u ∈ ids n ∧ id ∈ I u := by
 unfold users at h
 rw [List.mem_flatMap] at h
 obtain ⟨a, ha, hr⟩ := h
 rw [List.mem_replicate] at hr
 obtain ⟨h1, rfl⟩ := hr
 exact ⟨ha, List.count_pos_iff.1 (by omega)⟩
def mid (I : Int → List Int) (out us : List Int) (u : Int) : Nat := wt I out u - us.count u
def midReady (I : Int → List Int) (n : Nat) (out : List Int) (id : Int) (us : List Int) : List Int := (ids n).filter fun u => !(out ++ [id]).contains u && mid I out us u == 0
theorem mid_start {I : Int → List Int} {n : Nat} {out r : List Int} {id : Int} (h : ready I n out = id :: r) : midReady I n out id [] = r := by
 have hs := ready_sorted I n out
 rw [h, List.pairwise_cons] at hs
 have e : midReady I n out id [] = (ready I n out).filter (fun u => !(u == id)) := by
  unfold midReady ready
  rw [List.filter_filter]
  apply List.filter_congr
  intro u _
  rw [free_iff]
  simp only [mid, List.count_nil, Nat.sub_zero]
  simp [Bool.and_assoc, Bool.and_comm, List.contains_eq_mem]
  grind
 rw [e, h, List.filter_cons]
 simp
 intro a ha
 have := hs.1 a ha
 omega
theorem mid_end {I : Int → List Int} {n : Nat} {out : List Int} {id : Int} (hid : id ∈ ready I n out) {u : Int} (hu : u ∈ ids n) : mid I out (users I n id) u = wt I (out ++ [id]) u := by
 obtain ⟨h1, h2, h3⟩ := mem_ready.1 hid
 unfold mid
 rw [count_users I n id u hu]
 have := wt_push (I := I) (u := u) (show id ≠ 0 by omega) h2
 omega
theorem mid_end_ready {I : Int → List Int} {n : Nat} {out : List Int} {id : Int} (hid : id ∈ ready I n out) : midReady I n out id (users I n id) = ready I n (out ++ [id]) := by
 unfold midReady ready
 apply List.filter_congr
 intro u hu
 rw [free_iff, mid_end hid hu]
theorem mid_pos {I : Int → List Int} {n : Nat} {out a b : List Int} {id u : Int} (hok : Ok I n out) (hid : id ∈ ready I n out) (hu : users I n id = a ++ u :: b) :
  1 ≤ mid I out a u ∧ u ∉ out ++ [id] ∧ 1 ≤ u ∧ u ≤ n ∧ mid I out (a ++ [u]) u + 1 = mid I out a u := by
 have hm : u ∈ users I n id := by rw [hu]; simp
 obtain ⟨hi, hin⟩ := mem_users hm
 obtain ⟨h1, h2, h3⟩ := mem_ready.1 hid
 have hc := count_users I n id u hi
 have hw := wt_push (I := I) (u := u) (show id ≠ 0 by omega) h2
 have hp : 0 < (I u).count id := List.count_pos_iff.2 hin
 rw [hu, List.count_append, List.count_cons_self] at hc
 have hr := mem_ids.1 hi
 refine ⟨by unfold mid; omega, ?_, hr.1, hr.2, by unfold mid; rw [List.count_append]; simp; omega⟩
 intro ho
 rcases List.mem_append.1 ho with ho | ho
 ·have := hok.done u ho; omega
 ·simp at ho; subst ho; omega
theorem mid_other {I : Int → List Int} {out a : List Int} {u v : Int} (h : v ≠ u) : mid I out (a ++ [u]) v = mid I out a v := by
 unfold mid
 rw [List.count_append]
 have : ¬ (u = v) := fun e => h e.symm
 simp [this]
theorem mid_stay {I : Int → List Int} {n : Nat} {out a b : List Int} {id u : Int} (hok : Ok I n out) (hid : id ∈ ready I n out) (hu : users I n id = a ++ u :: b) (h : mid I out (a ++ [u]) u ≠ 0) :
  midReady I n out id (a ++ [u]) = midReady I n out id a := by
 unfold midReady
 apply List.filter_congr
 intro v _
 by_cases e : v = u
 ·subst e
  have := (mid_pos hok hid hu).1
  have e1 : (mid I out (a ++ [v]) v == 0) = false := by simp [h]
  have e2 : (mid I out a v == 0) = false := by simp; omega
  rw [e1, e2]
 ·rw [mid_other e]
theorem split_sorted {l : List Int} (h : l.Pairwise (· < ·)) {u : Int} (hu : u ∈ l) : ∃ A B, l = A ++ u :: B ∧ (∀ x ∈ A, x < u) ∧ ∀ x ∈ B, u < x := by
 obtain ⟨A, B, rfl⟩ := List.append_of_mem hu
 rw [List.pairwise_append, List.pairwise_cons] at h
 exact ⟨A, B, rfl, fun x hx => h.2.2 x hx u (by simp), fun x hx => h.2.1.1 x hx⟩
theorem mid_put {I : Int → List Int} {n : Nat} {out a b : List Int} {id u : Int} {at_ : Nat} (hok : Ok I n out) (hid : id ∈ ready I n out) (hu : users I n id = a ++ u :: b) (h : mid I out (a ++ [u]) u = 0)
  (hl : ∀ j (hj : j < (midReady I n out id a).length), j < at_ → (midReady I n out id a)[j] < u) (hg : ∀ j (hj : j < (midReady I n out id a).length), at_ ≤ j → u ≤ (midReady I n out id a)[j]) (hat : at_ ≤ (midReady I n out id a).length) :
  midReady I n out id (a ++ [u]) = (midReady I n out id a).take at_ ++ u :: (midReady I n out id a).drop at_ := by
 obtain ⟨p1, p2, p3, p4, p5⟩ := mid_pos hok hid hu
 obtain ⟨A, B, hAB, hA, hB⟩ := split_sorted (ids_pairwise n) (mem_ids.2 ⟨p3, p4⟩)
 have hn1 : ((!(out ++ [id]).contains u && mid I out a u == 0)) = false := by
  have : (mid I out a u == 0) = false := by simp; omega
  rw [this]; simp
 have hn2 : ((!(out ++ [id]).contains u && mid I out (a ++ [u]) u == 0)) = true := by
  rw [h]; simpa using p2
 have hc : ∀ l : List Int, (∀ x ∈ l, x ≠ u) → l.filter (fun v => !(out ++ [id]).contains v && mid I out (a ++ [u]) v == 0) = l.filter (fun v => !(out ++ [id]).contains v && mid I out a v == 0) := fun l hl => by
  apply List.filter_congr
  intro v hv
  rw [mid_other (hl v hv)]
 have e1 : midReady I n out id (a ++ [u]) = A.filter (fun v => !(out ++ [id]).contains v && mid I out a v == 0) ++ u :: B.filter (fun v => !(out ++ [id]).contains v && mid I out a v == 0) := by
  unfold midReady
  rw [hAB, List.filter_append, List.filter_cons, if_pos hn2, hc A (fun x hx => by have := hA x hx; omega), hc B (fun x hx => by have := hB x hx; omega)]
 have e2 : midReady I n out id a = A.filter (fun v => !(out ++ [id]).contains v && mid I out a v == 0) ++ B.filter (fun v => !(out ++ [id]).contains v && mid I out a v == 0) := by
  unfold midReady
  rw [hAB, List.filter_append, List.filter_cons, hn1]
  simp
 rw [e1]
 generalize hX : A.filter (fun v => !(out ++ [id]).contains v && mid I out a v == 0) = X at e2
 generalize hY : B.filter (fun v => !(out ++ [id]).contains v && mid I out a v == 0) = Y at e2
 have hXl : ∀ x ∈ X, x < u := fun x hx => by rw [← hX] at hx; exact hA x ((List.mem_filter.1 hx).1)
 have hYl : ∀ x ∈ Y, u < x := fun x hx => by rw [← hY] at hx; exact hB x ((List.mem_filter.1 hx).1)
 generalize midReady I n out id a = M at *
 subst e2
 have hlen : at_ = X.length := by
  rcases Nat.lt_trichotomy at_ X.length with hh | hh | hh
  ·have h1 := hg at_ (by rw [List.length_append]; omega) (Nat.le_refl _)
   rw [List.getElem_append_left hh] at h1
   have := hXl _ (List.getElem_mem hh)
   omega
  ·exact hh
  ·have h1 := hl X.length (by rw [List.length_append] at hat ⊢; omega) hh
   rw [List.length_append] at hat
   rw [List.getElem_append_right (Nat.le_refl _)] at h1
   have := hYl _ (List.getElem_mem (show X.length - X.length < Y.length by omega))
   omega
 subst hlen
 simp
theorem go_ok (I : Int → List Int) (n k : Nat) : Ok I n (go I n k) := by
 induction k with
 | zero => exact Ok.nil I n
 | succ k ih =>
  rw [go, step]
  split
  ·exact ih
  ·rename_i id r h
   exact ih.push (by rw [h]; simp)
theorem go_stuck {I : Int → List Int} {n k : Nat} (h : ready I n (go I n k) = []) : ∀ j, go I n (k + j) = go I n k
 | 0 => rfl
 | j + 1 => by rw [← Nat.add_assoc, go, go_stuck h j, step, h]
theorem go_more {I : Int → List Int} {n k : Nat} {id : Int} {r : List Int} (h : ready I n (go I n k) = id :: r) : go I n (k + 1) = go I n k ++ [id] := by rw [go, step, h]
theorem go_len_le (I : Int → List Int) (n k : Nat) : (go I n k).length ≤ k := by
 induction k with
 | zero => simp [go]
 | succ k ih =>
  rw [go, step]
  split
  ·omega
  ·rw [List.length_append]; simp; omega
theorem len_le_of_nodup {l : List Int} {n : Nat} (h : l.Nodup) (hr : ∀ u ∈ l, 1 ≤ u ∧ u ≤ n) : l.length ≤ n := by
 induction n generalizing l with
 | zero =>
  cases l with
  | nil => simp
  | cons a r => have := hr a (by simp); omega
 | succ n ih =>
  have h1 : (l.erase ((n : Int) + 1)).length ≤ n := ih (h.erase _) fun u hu => by
   have hm := List.mem_of_mem_erase hu
   have := hr u hm
   have hne : u ≠ (n : Int) + 1 := by
    intro e
    subst e
    exact (List.Nodup.not_mem_erase h) hu
   omega
  rw [List.length_erase] at h1
  split at h1 <;> omega
theorem Ok.len {I : Int → List Int} {n : Nat} {out : List Int} (h : Ok I n out) : out.length ≤ n := len_le_of_nodup h.nodup h.rng
theorem go_len {I : Int → List Int} {n k : Nat} (h : (go I n k).length = k) : k ≤ n := by have := (go_ok I n k).len; omega
theorem order_of_stuck {I : Int → List Int} {n k : Nat} (hk : (go I n k).length = k) (h : ready I n (go I n k) = []) : order I n = go I n k := by
 have := go_len hk
 unfold order
 obtain ⟨j, rfl⟩ : ∃ j, n = k + j := ⟨n - k, by omega⟩
 exact go_stuck h j
theorem go_behind (I : Int → List Int) (n k : Nat) : ∀ a u b, go I n k = a ++ u :: b → wt I a u = 0 := by
 induction k with
 | zero => intro a u b h; simp [go] at h
 | succ k ih =>
  intro a u b h
  rw [go, step] at h
  split at h
  ·exact ih a u b h
  ·rename_i id r hr
   rcases List.eq_nil_or_concat b with rfl | ⟨b', x, rfl⟩
   ·have h2 := List.append_inj' h rfl
    obtain ⟨e1, e2⟩ := h2
    injection e2 with e2
    subst e2
    rw [← e1]
    exact (mem_ready.1 (show id ∈ ready I n (go I n k) by rw [hr]; simp)).2.2
   ·rw [List.concat_eq_append, ← List.cons_append, ← List.append_assoc] at h
    exact ih a u b' (List.append_inj' h rfl).1
theorem order_behind (I : Int → List Int) (n : Nat) {a b : List Int} {u : Int} (h : order I n = a ++ u :: b) : ∀ i ∈ I u, i = 0 ∨ i ∈ a := by
 have := go_behind I n n a u b h
 unfold wt at this
 rw [List.length_eq_zero_iff, List.filter_eq_nil_iff] at this
 intro i hi
 have := this i hi
 simp at this
 by_cases h0 : i = 0
 ·exact .inl h0
 ·exact .inr (this h0)
theorem order_full {I : Int → List Int} {n : Nat} (h : (order I n).length = n) : ∀ u, u ∈ order I n ↔ 1 ≤ u ∧ u ≤ n := by
 intro u
 refine ⟨(go_ok I n n).rng u, fun hu => ?_⟩
 by_cases hm : u ∈ order I n
 ·exact hm
 ·have h1 : (u :: order I n).length ≤ n := len_le_of_nodup (by rw [List.nodup_cons]; exact ⟨hm, (go_ok I n n).nodup⟩) fun v hv => by
   rcases List.mem_cons.1 hv with rfl | hv
   ·exact hu
   ·exact (go_ok I n n).rng v hv
  rw [List.length_cons] at h1
  omega
theorem ready_first {I : Int → List Int} {n : Nat} {out : List Int} {id : Int} (h1 : 1 ≤ id) (h2 : id ≤ n) (hf : free I out id = true) (hn : ∀ u, 1 ≤ u → u < id → free I out u = false) : ∃ r, ready I n out = id :: r := by
 obtain ⟨A, B, hAB, hA, hB⟩ := split_sorted (ids_pairwise n) (mem_ids.2 ⟨h1, h2⟩)
 refine ⟨B.filter (free I out), ?_⟩
 unfold ready
 rw [hAB, List.filter_append, List.filter_cons, if_pos hf, List.filter_eq_nil_iff.2, List.nil_append]
 intro u hu
 have hm : u ∈ ids n := by rw [hAB]; simp [hu]
 have := hn u (mem_ids.1 hm).1 (hA u hu)
 simp [this]
theorem ready_none {I : Int → List Int} {n : Nat} {out : List Int} (hn : ∀ u : Int, 1 ≤ u → u ≤ n → free I out u = false) : ready I n out = [] := by
 unfold ready
 rw [List.filter_eq_nil_iff]
 intro u hu
 have := mem_ids.1 hu
 simp [hn u this.1 this.2]
theorem order_len_le (I : Int → List Int) (n : Nat) : (order I n).length ≤ n := go_len_le I n n
theorem order_rng (I : Int → List Int) (n : Nat) : ∀ u ∈ order I n, 1 ≤ u ∧ u ≤ n := (go_ok I n n).rng
def uMid (I : Int → List Int) (i : Nat) (l : List Int) (id : Int) : List Int := if id = 0 then [] else users I i id ++ List.replicate (l.count id) ((i : Int) + 1)
def wMid (I : Int → List Int) (i : Nat) (l : List Int) (u : Int) : Nat := if 1 ≤ u ∧ u ≤ i then wt I [] u else if u = (i : Int) + 1 then (l.filter fun i => !(i == 0)).length else 0
theorem ids_succ (i : Nat) : ids (i + 1) = ids i ++ [((i : Int) + 1)] := by simp [ids, List.range_succ]
theorem wt_nil (I : Int → List Int) (u : Int) : wt I [] u = ((I u).filter fun i => !(i == 0)).length := by
 unfold wt
 congr 1
 apply List.filter_congr
 intro i _
 simp
theorem uMid_zero (I : Int → List Int) : uMid I 0 [] = fun _ => [] := by funext id; simp [uMid, users, ids]
theorem wMid_zero (I : Int → List Int) : wMid I 0 [] = fun _ => 0 := by
 funext u
 unfold wMid
 rw [if_neg (by omega)]
 split <;> simp
theorem uMid_next (I : Int → List Int) (i : Nat) : uMid I i (I ((i : Int) + 1)) = uMid I (i + 1) [] := by
 funext id
 unfold uMid users
 rw [ids_succ, List.flatMap_append]
 simp
theorem wMid_next (I : Int → List Int) (i : Nat) : wMid I i (I ((i : Int) + 1)) = wMid I (i + 1) [] := by
 funext u
 unfold wMid
 by_cases h : u = (i : Int) + 1
 ·subst h
  rw [if_neg (by omega), if_pos rfl, if_pos (by omega), wt_nil]
 ·by_cases h2 : 1 ≤ u ∧ u ≤ (i : Int)
  ·rw [if_pos h2, if_pos (by omega)]
  ·rw [if_neg h2, if_neg h, if_neg (by omega)]
   split <;> simp
theorem uMid_zero_in (I : Int → List Int) (i : Nat) (l : List Int) : uMid I i (l ++ [0]) = uMid I i l := by
 funext id
 unfold uMid
 split
 ·rfl
 ·rename_i h
  have : ¬ (0 = id) := fun e => h e.symm
  simp [List.count_append, this]
theorem wMid_zero_in (I : Int → List Int) (i : Nat) (l : List Int) : wMid I i (l ++ [0]) = wMid I i l := by
 funext u
 unfold wMid
 simp
theorem uMid_in {I : Int → List Int} {i : Nat} {l : List Int} {id : Int} (h : id ≠ 0) (j : Int) : uMid I i (l ++ [id]) j = if j = id then uMid I i l j ++ [(i : Int) + 1] else uMid I i l j := by
 unfold uMid
 by_cases e : j = id
 ·subst e
  simp [h, List.count_append, List.replicate_succ']
 ·have : ¬ (id = j) := fun q => e q.symm
  simp [e, List.count_append, this]
theorem wMid_in {I : Int → List Int} {i : Nat} {l : List Int} {id : Int} (h : id ≠ 0) (u : Int) : wMid I i (l ++ [id]) u = if u = (i : Int) + 1 then wMid I i l u + 1 else wMid I i l u := by
 unfold wMid
 by_cases e : u = (i : Int) + 1
 ·subst e
  rw [if_neg (by omega), if_pos rfl, if_pos rfl, if_neg (by omega), if_pos rfl]
  simp [h]
 ·rw [if_neg e, if_neg e, if_neg e]
theorem uMid_end {I : Int → List Int} {n : Nat} {id : Int} (h : id ≠ 0) : uMid I n [] id = users I n id := by simp [uMid, h]
theorem wMid_end {I : Int → List Int} {n : Nat} {u : Int} (h : 1 ≤ u) (h2 : u ≤ n) : wMid I n [] u = wt I [] u := by unfold wMid; rw [if_pos ⟨h, h2⟩]
theorem uMid_len (I : Int → List Int) (i : Nat) (l : List Int) (id : Int) : (uMid I i l id).length ≤ ((ids i).map fun u => (I u).length).sum + l.length := by
 have h1 : ∀ L : List Int, (L.flatMap fun u => List.replicate ((I u).count id) u).length ≤ (L.map fun u => (I u).length).sum := by
  intro L
  induction L with
  | nil => simp
  | cons a r ih =>
   rw [List.flatMap_cons, List.length_append, List.length_replicate, List.map_cons, List.sum_cons]
   have : (I a).count id ≤ (I a).length := List.count_le_length
   omega
 unfold uMid users
 split
 ·simp
 ·rw [List.length_append, List.length_replicate]
  have := h1 (ids i)
  have : l.count id ≤ l.length := List.count_le_length
  omega
end Kn
end Go.Proofs.YtbnnpkcfifejmaaGreat
namespace Go.Proofs.YtbnnpkcfifejmaaGreat
structure NodeD where
 op : OpD
 ins : List Int
 p : List (List Int)
deriving DecidableEq
structure NetD where
 inn : List Int
 nodes : List NodeD
deriving DecidableEq
namespace Nt
def none_ : NodeD := ⟨⟨0, 0, 0, 0, 0, 0, 0, []⟩, [], []⟩
def node (ns : List NodeD) (id : Int) : NodeD := ns.getD (id.toNat - 1) none_
def insF (ns : List NodeD) (id : Int) : List Int := (node ns id).ins
def bads (n : Nat) : List NodeD → Int
 | [] => 0
 | v :: r => if Od.right v.op then (if v.ins.all (fun i => decide (0 ≤ i ∧ i ≤ n)) then bads n r else 11) else 21
def sorted (ns : List NodeD) : List Int := Kn.order (insF ns) ns.length
def pick (sh : List (List Int)) (l : List Int) : List (List Int) := l.map fun i => sh.getD i.toNat []
def layStep (ns : List NodeD) (sh : List (List Int)) (id : Int) : List Int × Int := Od.shape (node ns id).op (node ns id).p (pick sh (node ns id).ins)
def lay (ns : List NodeD) : List (List Int) → List Int → List (List Int) × Int
 | sh, [] => (sh, 0)
 | sh, id :: r => if (layStep ns sh id).2 = 0 then lay ns (sh.set id.toNat (layStep ns sh id).1) r else ([], (layStep ns sh id).2)
def start (n : NetD) : List (List Int) := n.inn :: List.replicate n.nodes.length []
def isUsed (ns : List NodeD) (id : Int) : Bool := ns.any fun v => v.ins.contains id
def nums (n : Nat) : List Int := (List.range (n + 1)).map fun i : Nat => (i : Int)
def unused (ns : List NodeD) : List Int := (nums ns.length).filter fun id => !isUsed ns id
def loss (ns : List NodeD) : Int := (unused ns).getLastD 0
def lossOk (ns : List NodeD) : Bool := decide ((unused ns).length = 1 ∧ loss ns ≠ 0)
def shapes (n : NetD) : List (List Int) := (lay n.nodes (start n) (sorted n.nodes)).1
def check (n : NetD) : Int :=
 if n.nodes.length < 1 ∨ 512 < n.nodes.length then 12
 else if Sh.right n.inn = false then 20
 else if bads n.nodes.length n.nodes ≠ 0 then bads n.nodes.length n.nodes
 else if (sorted n.nodes).length ≠ n.nodes.length then 22
 else if (lay n.nodes (start n) (sorted n.nodes)).2 ≠ 0 then (lay n.nodes (start n) (sorted n.nodes)).2
 else if lossOk n.nodes = false then 23
 else if Safe.prod ((shapes n).getD (loss n.nodes).toNat []) ≠ 1 then 23
 else 0
def users (n : NetD) (id : Int) : List Int := (Kn.ids n.nodes.length).filter fun u => (insF n.nodes u).contains id
def chainGo (ns : List NodeD) : Int → List Int → Bool
 | _, [] => true
 | last, id :: r => decide (insF ns id = [last]) && chainGo ns id r
def chain (n : NetD) : Bool := decide (check n = 0) && chainGo n.nodes 0 (sorted n.nodes)
def params (n : NetD) : List (List Int) := n.nodes.flatMap (·.p)
theorem bads_take {n : Nat} : ∀ {ns : List NodeD} {k : Nat}, (∀ j (hj : j < ns.length), j < k → Od.right ns[j].op = true ∧ ns[j].ins.all (fun i => decide (0 ≤ i ∧ i ≤ n)) = true) → bads n ns = bads n (ns.drop k)
 | _, 0, _ => by simp
 | [], _ + 1, _ => by simp
 | v :: r, k + 1, h => by
  have h0 := h 0 (by simp) (by omega)
  simp only [List.getElem_cons_zero] at h0
  rw [bads, if_pos h0.1, if_pos h0.2, List.drop_succ_cons]
  exact bads_take fun j hj hk => by have := h (j + 1) (by simp; omega) (by omega); simpa using this
theorem bads_all {n : Nat} {ns : List NodeD} (h : bads n ns = 0) : ∀ v ∈ ns, Od.right v.op = true ∧ ∀ i ∈ v.ins, 0 ≤ i ∧ i ≤ n := by
 induction ns with
 | nil => simp
 | cons v r ih =>
  rw [bads] at h
  split at h
  ·rename_i h1
   split at h
   ·rename_i h2
    intro u hu
    rcases List.mem_cons.1 hu with rfl | hu
    ·exact ⟨h1, by simpa using h2⟩
    ·exact ih h u hu
   ·simp at h
  ·simp at h
theorem node_at {ns : List NodeD} {k : Nat} (h : k < ns.length) : node ns ((k : Int) + 1) = ns[k] := by
 unfold node
 rw [show ((k : Int) + 1).toNat - 1 = k by omega, List.getD_eq_getElem?_getD, List.getElem?_eq_getElem h]
 rfl
theorem node_in {ns : List NodeD} {id : Int} (h : 1 ≤ id ∧ id ≤ ns.length) : ∃ hk : (id - 1).toNat < ns.length, node ns id = ns[(id - 1).toNat] := by
 refine ⟨by omega, ?_⟩
 unfold node
 rw [show id.toNat - 1 = (id - 1).toNat by omega, List.getD_eq_getElem?_getD, List.getElem?_eq_getElem (by omega)]
 rfl
theorem node_mem {ns : List NodeD} {id : Int} (h : 1 ≤ id ∧ id ≤ ns.length) : node ns id ∈ ns := by
 obtain ⟨hk, e⟩ := node_in h
 rw [e]
 exact List.getElem_mem hk
theorem lay_append (ns : List NodeD) : ∀ (a b : List Int) (sh : List (List Int)), lay ns sh (a ++ b) = if (lay ns sh a).2 = 0 then lay ns (lay ns sh a).1 b else ([], (lay ns sh a).2)
 | [], b, sh => by simp [lay]
 | id :: a, b, sh => by
  rw [List.cons_append, lay, lay]
  split
  ·exact lay_append ns a b _
  ·simp
theorem lay_snoc {ns : List NodeD} {a : List Int} {sh s1 : List (List Int)} {id : Int} (h : lay ns sh a = (s1, 0)) (hs : (layStep ns s1 id).2 = 0) : lay ns sh (a ++ [id]) = (s1.set id.toNat (layStep ns s1 id).1, 0) := by
 rw [lay_append, h]
 simp [lay, hs]
theorem lay_fail {ns : List NodeD} {a b : List Int} {sh s1 : List (List Int)} {id : Int} (h : lay ns sh a = (s1, 0)) (hs : (layStep ns s1 id).2 ≠ 0) : lay ns sh (a ++ id :: b) = ([], (layStep ns s1 id).2) := by
 rw [lay_append, h]
 simp [lay, hs]
theorem lay_len {ns : List NodeD} : ∀ {a : List Int} {sh : List (List Int)}, (lay ns sh a).2 = 0 → (lay ns sh a).1.length = sh.length
 | [], _, _ => rfl
 | id :: a, sh, h => by
  rw [lay] at h ⊢
  split at h
  ·rename_i h1; rw [if_pos h1]; rw [lay_len h]; simp
  ·rename_i h1; exact absurd h h1
def Good (a : List Int) (sh : List (List Int)) : Prop := ∀ i : Int, (i = 0 ∨ i ∈ a) → Sh.right (sh.getD i.toNat []) = true
theorem Good.push {a : List Int} {sh : List (List Int)} {id : Int} {s : List Int} (h : Good a sh) (hs : Sh.right s = true) (hid : id.toNat < sh.length) (h0 : ∀ i ∈ a, 0 ≤ i) (h1 : 1 ≤ id) : Good (a ++ [id]) (sh.set id.toNat s) := by
 intro i hi
 by_cases e : i = id
 ·subst e
  rw [List.getD_eq_getElem?_getD, List.getElem?_set_self hid]
  exact hs
 ·have hi' : i = 0 ∨ i ∈ a := by
   rcases hi with hi | hi
   ·exact .inl hi
   ·rcases List.mem_append.1 hi with hi | hi
    ·exact .inr hi
    ·simp at hi; exact absurd hi e
  have hn : 0 ≤ i := by
   rcases hi' with rfl | hi'
   ·omega
   ·exact h0 i hi'
  rw [List.getD_eq_getElem?_getD, List.getElem?_set_ne (by omega), ← List.getD_eq_getElem?_getD]
  exact h i hi'
theorem Good.pick {a : List Int} {sh : List (List Int)} {l : List Int} (h : Good a sh) (hl : ∀ i ∈ l, i = 0 ∨ i ∈ a) : (pick sh l).all Sh.right = true := by
 unfold Nt.pick
 rw [List.all_map, List.all_eq_true]
 intro i hi
 exact h i (hl i hi)
theorem start_good (n : NetD) (h : Sh.right n.inn = true) : Good [] (start n) := by
 intro i hi
 simp at hi
 subst hi
 simpa [start] using h
theorem nums_length (n : Nat) : (nums n).length = n + 1 := by simp [nums]
theorem mem_nums {n : Nat} {u : Int} : u ∈ nums n ↔ 0 ≤ u ∧ u ≤ n := by
 simp only [nums, List.mem_map, List.mem_range]
 constructor
 ·rintro ⟨a, h, rfl⟩; omega
 ·intro h; exact ⟨u.toNat, by omega, by omega⟩
theorem nums_succ (n : Nat) : nums (n + 1) = nums n ++ [((n + 1 : Nat) : Int)] := by simp [nums, List.range_succ]
theorem chainGo_append (ns : List NodeD) : ∀ (a b : List Int) (l : Int), chainGo ns l (a ++ b) = (chainGo ns l a && chainGo ns (a.getLastD l) b)
 | [], b, l => by simp [chainGo]
 | x :: a, b, l => by
  rw [List.cons_append, chainGo, chainGo, chainGo_append ns a b x, Bool.and_assoc]
  congr 3
  cases a with
  | nil => simp
  | cons y r => simp [List.getLast?_eq_some_getLast (l := y :: r) (by simp)]
theorem loss_mem {ns : List NodeD} (h : lossOk ns = true) : unused ns = [loss ns] ∧ 1 ≤ loss ns ∧ loss ns ≤ ns.length := by
 simp [lossOk] at h
 obtain ⟨h1, h2⟩ := h
 match hu : unused ns, h1 with
 | [a], _ =>
  have e : loss ns = a := by simp [loss, hu]
  have hm : a ∈ unused ns := by rw [hu]; simp
  have := (mem_nums.1 (List.mem_filter.1 hm).1)
  refine ⟨by rw [e], by omega, by omega⟩
theorem check_ok {n : NetD} (h : check n = 0) : 1 ≤ n.nodes.length ∧ n.nodes.length ≤ 512 ∧ Sh.right n.inn = true ∧ bads n.nodes.length n.nodes = 0 ∧ (sorted n.nodes).length = n.nodes.length ∧ (lay n.nodes (start n) (sorted n.nodes)).2 = 0 ∧ lossOk n.nodes = true ∧ Safe.prod ((shapes n).getD (loss n.nodes).toNat []) = 1 := by
 unfold check at h
 split at h
 ·omega
 ·rename_i h1
  split at h
  ·omega
  ·rename_i h2
   split at h
   ·rename_i h3; exact absurd h h3
   ·rename_i h3
    split at h
    ·omega
    ·rename_i h4
     split at h
     ·rename_i h5; exact absurd h h5
     ·rename_i h5
      split at h
      ·omega
      ·rename_i h6
       split at h
       ·omega
       ·rename_i h7
        simp at h2 h3 h4 h5 h6 h7
        exact ⟨by omega, by omega, h2, h3, h4, h5, h6, by simpa using h7⟩
theorem lay_good {n : NetD} (hin : Sh.right n.inn = true) : ∀ k, k ≤ (sorted n.nodes).length → (lay n.nodes (start n) ((sorted n.nodes).take k)).2 = 0 → Good ((sorted n.nodes).take k) (lay n.nodes (start n) ((sorted n.nodes).take k)).1
 | 0, _, _ => by simpa [lay] using start_good n hin
 | k + 1, hk, h => by
  have hlt : k < (sorted n.nodes).length := by omega
  have hrng : ∀ u ∈ sorted n.nodes, 1 ≤ u ∧ u ≤ n.nodes.length := (Kn.go_ok (insF n.nodes) n.nodes.length n.nodes.length).rng
  rw [List.take_succ_eq_append_getElem hlt] at h ⊢
  rw [lay_append] at h
  split at h
  ·rename_i h1
   have ih := lay_good hin k (by omega) h1
   generalize hsh : lay n.nodes (start n) ((sorted n.nodes).take k) = S at *
   obtain ⟨s1, e⟩ := S
   simp at h1
   subst h1
   have hlen : s1.length = n.nodes.length + 1 := by
    have := lay_len (ns := n.nodes) (a := (sorted n.nodes).take k) (sh := start n) (by rw [hsh])
    rw [hsh] at this
    simpa [start] using this
   by_cases hs : (layStep n.nodes s1 (sorted n.nodes)[k]).2 = 0
   ·rw [lay_snoc hsh hs]
    have hr := hrng _ (List.getElem_mem hlt)
    exact ih.push (Od.shape_right hs) (by simp only; omega) (fun i hi => by have := hrng i (List.mem_of_mem_take hi); omega) hr.1
   ·simp [lay, hs] at h
  ·rename_i h1; exact absurd h h1
theorem shapes_good {n : NetD} (h : check n = 0) : ∀ i : Int, 0 ≤ i → i ≤ n.nodes.length → Sh.right ((shapes n).getD i.toNat []) = true := by
 obtain ⟨h1, h2, h3, h4, h5, h6, h7, h8⟩ := check_ok h
 have := lay_good h3 (sorted n.nodes).length (Nat.le_refl _) (by rw [List.take_length]; exact h6)
 rw [List.take_length] at this
 intro i hi hi2
 refine this i ?_
 by_cases h0 : i = 0
 ·exact .inl h0
 ·exact .inr ((Kn.order_full h5 i).2 ⟨by omega, hi2⟩)
theorem shapes_len {n : NetD} (h : check n = 0) : (shapes n).length = n.nodes.length + 1 := by
 obtain ⟨h1, h2, h3, h4, h5, h6, h7, h8⟩ := check_ok h
 have := lay_len h6
 simpa [shapes, start] using this
end Nt
end Go.Proofs.YtbnnpkcfifejmaaGreat
namespace Go.Proofs.YtbnnpkcfifejmaaGreat
open Go.RowKit
def Fr (S : Nat → Prop) (w w' : World) : Prop := Below 0 w w' ∧ ∀ b, b < w.heap.size → ¬ S b → w'.heap[b]? = w.heap[b]?
section
variable {S T : Nat → Prop} {w w1 w2 w' : World}
theorem Fr.size (h : Fr S w w') : w.heap.size ≤ w'.heap.size := h.1.size
theorem Fr.refl (S : Nat → Prop) (w : World) : Fr S w w := ⟨Below.refl _ _, fun _ _ _ => rfl⟩
theorem Fr.trans' (h : Fr S w w1) (k : Fr T w1 w2) (hT : ∀ b, b < w.heap.size → T b → S b) : Fr S w w2 :=
 ⟨h.1.trans k.1, fun b hb hS => (k.2 b (Nat.lt_of_lt_of_le hb h.size) fun ht => hS (hT b hb ht)).trans (h.2 b hb hS)⟩
theorem Fr.trans (h : Fr S w w1) (k : Fr S w1 w2) : Fr S w w2 := h.trans' k fun _ _ h => h
theorem Fr.mono (h : Fr S w w') (hT : ∀ b, b < w.heap.size → S b → T b) : Fr T w w' := ⟨h.1, fun b hb hS => h.2 b hb fun hs => hS (hT b hb hs)⟩
theorem Fr.of_grown {row : Option Nat} (h : w.grownBy w' row) (hS : ∀ k, row = some k → k < w.heap.size → S k) : Fr S w w' :=
 ⟨⟨h.os, h.tape, h.output, h.size, fun k hk => absurd hk (Nat.not_lt_zero k)⟩, fun b hb hs => h.block b hb fun e => hs (hS b e.symm hb)⟩
theorem Fr.grown {row : Option Nat} (h : Fr S w w1) (k : w1.grownBy w2 row) (hS : ∀ j, row = some j → j < w.heap.size → S j) : Fr S w w2 :=
 ⟨h.1.trans ⟨k.os, k.tape, k.output, k.size, fun k hk => absurd hk (Nat.not_lt_zero k)⟩, fun b hb hs => (k.block b (Nat.lt_of_lt_of_le hb h.size) fun e => hs (hS b e.symm hb)).trans (h.2 b hb hs)⟩
theorem Fr.alloc (h : Fr S w w1) (o : Obj) : Fr S w (w1.alloc o) := ⟨h.1.alloc (Nat.zero_le _) o, fun b hb hs => (Below.heap_alloc w1 o b (Nat.lt_of_lt_of_le hb h.size)).trans (h.2 b hb hs)⟩
theorem Fr.drew (h : Fr S w w1) : Fr S w w1.drew := ⟨h.1.drew, h.2⟩
theorem Fr.drewN (h : Fr S w w1) (n : Nat) : Fr S w (w1.drewN n) := ⟨Bdrawn h.1 n, h.2⟩
theorem Fr.setCell (h : Fr S w w1) {p : Addr} (hp : p.block < w.heap.size → S p.block) (u : Value) : Fr S w (w1.setCell p u) :=
 ⟨h.1.setCell (Nat.zero_le _) u, fun b hb hs => (Below.heap_setCell w1 p u b fun e => hs (e ▸ hp (e ▸ hb))).trans (h.2 b hb hs)⟩
theorem Fr.of_below {B : Nat} (h : Below B w w') (hS : ∀ b, b < w.heap.size → ¬ S b → b < B) : Fr S w w' := ⟨h.mono (Nat.zero_le _), fun b hb hs => h.block b (hS b hb hs)⟩
theorem Fr.then_below {B : Nat} (h : Fr S w w1) (k : Below B w1 w2) (hB : w.heap.size ≤ B) : Fr S w w2 := ⟨h.1.trans (k.mono (Nat.zero_le _)), fun b hb hs => (k.block b (Nat.lt_of_lt_of_le hb hB)).trans (h.2 b hb hs)⟩
theorem Fr.below {B : Nat} (h : Fr S w w') (hS : ∀ b, S b → B ≤ b) (hB : B ≤ w.heap.size) : Below B w w' := ⟨h.1.os, h.1.tape, h.1.output, h.1.size, fun k hk => h.2 k (Nat.lt_of_lt_of_le hk hB) fun hs => by have := hS k hs; omega⟩
theorem Fr.blk {g : Nat} {t : TypeId} {cs : Array Value} (h : Fr S w w') (hb : Blk w g t cs) (hg : ¬ S g) : Blk w' g t cs := (h.2 g hb.lt hg).trans hb
theorem Fr.cell {p : Addr} {v : Value} (h : Fr S w w') (hc : w.cell? p = some v) (hg : ¬ S p.block) : w'.cell? p = some v := (World.cell?_of_block (w := w) (h.2 p.block (World.block_lt_of_cell? _ _ hc) hg)).trans hc
theorem Fr.ints {k : IntKind} {A : Option Addr} {zs : List Int} (h : Fr S w w') (hI : Ints k w A zs) (hS : ∀ a, A = some a → ¬ S a.block) : Ints k w' A zs := fun j hj => by
 obtain ⟨b, off, e, hl, hc⟩ := hI j hj
 exact ⟨b, off, e, Nat.lt_of_lt_of_le hl h.size, h.cell (p := ⟨b, off + j, none⟩) hc (hS ⟨b, off, none⟩ e)⟩
end
theorem splice_zero {α : Type} (L : List α) (o : Nat) : splice L o ([] : List α) = L := by simp [splice]
theorem splice_set {α : Type} (L : List α) (o : Nat) (l : List α) (v : α) (h : o + l.length < L.length) : (splice L o l).set (o + l.length) v = splice L o (l ++ [v]) := by
 unfold splice
 have h1 : (L.take o).length = o := by rw [List.length_take]; omega
 rw [← List.append_assoc, List.set_append_right (o + l.length) v (by simp [h1])]
 rw [show o + l.length - (L.take o ++ l).length = 0 by simp [h1]]
 rw [List.drop_eq_getElem_cons h, List.set_cons_zero]
 simp [List.append_assoc, Nat.add_assoc]
theorem splice_get {α : Type} (L : List α) (o : Nat) (l : List α) (j : Nat) (h : o + l.length ≤ L.length) (hj : o + l.length ≤ j) : (splice L o l)[j]? = L[j]? := by
 unfold splice
 have h1 : (L.take o).length = o := by rw [List.length_take]; omega
 rw [← List.append_assoc, List.getElem?_append_right (by simp [h1]; omega), List.getElem?_drop]
 congr 1
 simp [h1]; omega
theorem splice_splice {α : Type} (L : List α) (a b : List α) (h : a.length + b.length ≤ L.length) : splice (splice L 0 a) a.length b = splice L 0 (a ++ b) := by
 unfold splice
 simp only [List.take_zero, List.nil_append, Nat.zero_add]
 rw [List.take_append_of_le_length (Nat.le_refl _), List.take_length, List.drop_append, List.drop_eq_nil_of_le (by omega), List.nil_append, List.drop_drop, List.append_assoc, List.length_append]
 congr 3
 omega
theorem splice_full {α : Type} (L l : List α) (h : l.length = L.length) : splice L 0 l = l := by simp [splice, h]
end Go.Proofs.YtbnnpkcfifejmaaGreat
namespace Go.Proofs.YtbnnpkcfifejmaaGreat
open Go.RowKit
def On (F : Nat → Prop) (w : World) (Φ : World → Prop) : Prop := ∀ w', (∀ b, F b → w'.heap[b]? = w.heap[b]?) → Φ w'
section
variable {F : Nat → Prop} {S : Nat → Prop} {w w' : World} {Φ Ψ : World → Prop}
theorem On.now (h : On F w Φ) : Φ w := h w fun _ _ => rfl
theorem On.agree (h : On F w Φ) (ha : ∀ b, F b → w'.heap[b]? = w.heap[b]?) : On F w' Φ := fun w2 h2 => h w2 fun b hb => (h2 b hb).trans (ha b hb)
theorem On.fr (h : On F w Φ) (hf : Fr S w w') (hF : ∀ b, F b → b < w.heap.size ∧ ¬ S b) : On F w' Φ := h.agree fun b hb => hf.2 b (hF b hb).1 (hF b hb).2
theorem On.imp_ (h : On F w Φ) (hi : ∀ w, Φ w → Ψ w) : On F w Ψ := fun w2 h2 => hi _ (h w2 h2)
theorem On.mono {G : Nat → Prop} (h : On F w Φ) (hG : ∀ b, F b → G b) : On G w Φ := fun w2 h2 => h w2 fun b hb => h2 b (hG b hb)
theorem On.and {G : Nat → Prop} (h : On F w Φ) (k : On G w Ψ) : On (fun b => F b ∨ G b) w (fun w => Φ w ∧ Ψ w) := fun w2 h2 => ⟨h w2 fun b hb => h2 b (.inl hb), k w2 fun b hb => h2 b (.inr hb)⟩
theorem Blk.on {g : Nat} {t : TypeId} {cs : Array Value} (h : Blk w g t cs) : On (fun b => b = g) w (fun w => Blk w g t cs) := fun w2 h2 => (h2 g rfl).trans h
end
def OwnRow {α : Type} (B C : Nat) (w : World) (e : TypeId) (size : Nat) (v : Value) (cells : α → List Value) (Φ : α → World → Prop) (L : List α) : Prop :=
 w.ownsRow B e size v L.length (L.flatMap cells) ∧ (∀ b, v.ownBlock = some b → b < C) ∧ C ≤ w.heap.size ∧ ∀ x ∈ L, ∃ F : Nat → Prop, On F w (Φ x) ∧ ∀ b, F b → B ≤ b ∧ b < C ∧ some b ≠ v.ownBlock
section
variable {α : Type} {B C : Nat} {w w' : World} {e : TypeId} {size : Nat} {v : Value} {cells : α → List Value} {Φ : α → World → Prop} {L : List α} {S : Nat → Prop}
theorem ownsRow_heap {n : Nat} {xs : List Value} (h : w.ownsRow B e size v n xs) (hk : ∀ g, v.ownBlock = some g → w'.heap[g]? = w.heap[g]?) : w'.ownsRow B e size v n xs := by
 refine ⟨h.1, ?_⟩
 rcases h.2 with h | ⟨g, cap, cur, rfl, h1, h2, h3⟩
 ·exact .inl h
 ·exact .inr ⟨g, cap, cur, rfl, h1, (hk g rfl).trans h2, h3⟩
theorem OwnRow.nil (B : Nat) (w : World) (e : TypeId) (size : Nat) (cells : α → List Value) (Φ : α → World → Prop) : OwnRow B w.heap.size w e size (.slice none 0 0) cells Φ [] :=
 ⟨World.ownsRow_nil _ _ _ _, by simp [Value.ownBlock], Nat.le_refl _, by simp⟩
theorem OwnRow.fr (h : OwnRow B C w e size v cells Φ L) (hf : Fr S w w') (hS : ∀ b, B ≤ b → b < C → ¬ S b) : OwnRow B C w' e size v cells Φ L :=
 ⟨ownsRow_heap h.1 fun g hg => hf.2 g (h.1.lt g hg).2 (hS g (h.1.lt g hg).1 (h.2.1 g hg)), h.2.1, Nat.le_trans h.2.2.1 hf.size, fun x hx => by
  obtain ⟨F, hF, hb⟩ := h.2.2.2 x hx
  exact ⟨F, hF.fr hf fun b k => ⟨Nat.lt_of_lt_of_le (hb b k).2.1 h.2.2.1, hS b (hb b k).1 (hb b k).2.1⟩, hb⟩⟩
theorem OwnRow.widen {C' : Nat} (h : OwnRow B C w e size v cells Φ L) (hC : C ≤ C') (hw : C' ≤ w.heap.size) : OwnRow B C' w e size v cells Φ L :=
 ⟨h.1, fun b hb => Nat.lt_of_lt_of_le (h.2.1 b hb) hC, hw, fun x hx => by
  obtain ⟨F, hF, hb⟩ := h.2.2.2 x hx
  exact ⟨F, hF, fun b k => ⟨(hb b k).1, Nat.lt_of_lt_of_le (hb b k).2.1 hC, (hb b k).2.2⟩⟩⟩
theorem OwnRow.base {B' : Nat} (h : OwnRow B C w e size v cells Φ L) (hB : B' ≤ B) : OwnRow B' C w e size v cells Φ L := by
 refine ⟨⟨h.1.1, ?_⟩, h.2.1, h.2.2.1, fun x hx => ?_⟩
 ·rcases h.1.2 with h1 | ⟨g, cap, cur, h1, h2, h3⟩
  ·exact .inl h1
  ·exact .inr ⟨g, cap, cur, h1, Nat.le_trans hB h2, h3⟩
 ·obtain ⟨F, hF, hb⟩ := h.2.2.2 x hx
  exact ⟨F, hF, fun b k => ⟨Nat.le_trans hB (hb b k).1, (hb b k).2⟩⟩
theorem OwnRow.now (h : OwnRow B C w e size v cells Φ L) : ∀ x ∈ L, Φ x w := fun x hx => by obtain ⟨F, hF, _⟩ := h.2.2.2 x hx; exact hF.now
theorem OwnRow.push {x : α} {v' : Value} (h : OwnRow B C w e size v cells Φ L) (hown : w'.ownsRow B e size v' (L.length + 1) (L.flatMap cells ++ cells x)) (hg : w.grownBy w' v.ownBlock) (hat : v'.ownBlock = v.ownBlock ∨ v'.ownBlock = some w.heap.size)
  {F : Nat → Prop} (hx : On F w (Φ x)) (hF : ∀ b, F b → B ≤ b ∧ b < w.heap.size ∧ some b ≠ v.ownBlock) : OwnRow B w'.heap.size w' e size v' cells Φ (L ++ [x]) := by
 have hne : ∀ b, b < w.heap.size → some b ≠ v.ownBlock → some b ≠ v'.ownBlock := fun b hb hb' => by
  rcases hat with e | e
  ·rw [e]; exact hb'
  ·rw [e]; intro h; injection h with h; omega
 refine ⟨by simpa using hown, fun b hb => (hown.lt b hb).2, Nat.le_refl _, fun y hy => ?_⟩
 rcases List.mem_append.1 hy with hy | hy
 ·obtain ⟨G, hG, hb⟩ := h.2.2.2 y hy
  have hlt : ∀ b, G b → b < w.heap.size := fun b k => Nat.lt_of_lt_of_le (hb b k).2.1 h.2.2.1
  exact ⟨G, hG.agree fun b k => hg.block b (hlt b k) (hb b k).2.2, fun b k => ⟨(hb b k).1, Nat.lt_of_lt_of_le (hlt b k) hg.size, hne b (hlt b k) (hb b k).2.2⟩⟩
 ·rw [List.mem_singleton] at hy
  subst hy
  exact ⟨F, hx.agree fun b k => hg.block b (hF b k).2.1 (hF b k).2.2, fun b k => ⟨(hF b k).1, Nat.lt_of_lt_of_le (hF b k).2.1 hg.size, hne b (hF b k).2.1 (hF b k).2.2⟩⟩
theorem OwnRow.at_ (h : OwnRow B C w e size v cells Φ L) (hc : ∀ x, (cells x).length = size) {i : Nat} (hi : i < L.length) :
  ∃ b cap, v = .slice (some ⟨b, 0, none⟩) L.length cap ∧ B ≤ b ∧ b < C ∧ L.length ≤ cap ∧ ∀ j, j < size → w.cell? ⟨b, i * size + j, none⟩ = (cells L[i])[j]? := by
 rcases h.1.2 with ⟨_, h0⟩ | ⟨g, cap, cur, rfl, hb, hg, hcap, _⟩
 ·omega
 ·refine ⟨g, cap, rfl, hb, h.2.1 g rfl, hcap, fun j hj => ?_⟩
  have hlen : ∀ l : List α, (l.flatMap cells).length = l.length * size := by
   intro l
   induction l with
   | nil => simp
   | cons x r ih => simp [ih, hc, Nat.succ_mul]; omega
  have hij : i * size + j < L.length * size := by
   have : (i + 1) * size ≤ L.length * size := Nat.mul_le_mul_right _ hi
   rw [Nat.succ_mul] at this; omega
  rw [h.1.cellAt _ hij]
  have e : L = L.take i ++ (L[i] :: L.drop (i + 1)) := by rw [← List.drop_eq_getElem_cons hi, List.take_append_drop]
  have e2 : (L.flatMap cells)[i * size + j]? = ((L.take i ++ (L[i] :: L.drop (i + 1))).flatMap cells)[i * size + j]? := congrArg (fun l => (l.flatMap cells)[i * size + j]?) e
  rw [e2, List.flatMap_append, List.flatMap_cons, List.getElem?_append_right (by rw [hlen, List.length_take]; rw [Nat.min_eq_left (by omega)]; omega)]
  rw [hlen, List.length_take, Nat.min_eq_left (by omega), Nat.add_sub_cancel_left, List.getElem?_append_left (by rw [hc]; exact hj)]
theorem OwnRow.form (h : OwnRow B C w e size v cells Φ L) : ∃ A cap, v = .slice A L.length cap ∧ L.length ≤ cap := by
 rcases h.1.2 with ⟨rfl, h0⟩ | ⟨g, cap, cur, rfl, hb, hg, hcap, _⟩
 ·exact ⟨none, 0, by rw [h0], by omega⟩
 ·exact ⟨_, cap, rfl, hcap⟩
end
end Go.Proofs.YtbnnpkcfifejmaaGreat
namespace Go.Proofs.YtbnnpkcfifejmaaGreat
open Go.RowKit
def Shps (w : World) (A : Option Addr) (ss : List (List Int)) : Prop :=
 ∀ j (hj : j < ss.length), ∃ b off S c, A = some ⟨b, off, none⟩ ∧ b < w.heap.size ∧ w.cell? ⟨b, off + j, none⟩ = some (.slice S ss[j].length c) ∧ Ints .i64 w S ss[j] ∧ ss[j].length ≤ c ∧ c ≤ 9223372036854775807
section
variable {w w' : World} {A : Option Addr} {ss : List (List Int)} {B : Nat}
theorem Shps.below (h : Shps w A ss) (hb : Below B w w') (hB : w.heap.size ≤ B) : Shps w' A ss := fun j hj => by
 obtain ⟨b, off, S, c, e, hl, hc, hI, h2⟩ := h j hj
 exact ⟨b, off, S, c, e, Nat.lt_of_lt_of_le hl hb.size, (hb.cell (p := ⟨b, off + j, none⟩) (Nat.lt_of_lt_of_le hl hB)).trans hc, hI.below hb hB, h2⟩
theorem Shps.alloc (h : Shps w A ss) (o : Obj) : Shps (w.alloc o) A ss := h.below ((Below.refl _ _).alloc (Nat.le_refl _) o) (Nat.le_refl _)
theorem Shps.drewN (h : Shps w A ss) (n : Nat) : Shps (w.drewN n) A ss := h
theorem Shps.drew (h : Shps w A ss) : Shps w.drew A ss := h
theorem Shps.nil : Shps w A [] := fun j hj => absurd hj (by simp)
theorem Shps.dropped {b off : Nat} (k : Nat) (h : Shps w (some ⟨b, off, none⟩) ss) : Shps w (some ⟨b, off + k, none⟩) (ss.drop k) := fun j hj => by
 rw [List.length_drop] at hj
 obtain ⟨b', off', S, c, e, hl, hc, hI, h2⟩ := h (k + j) (by omega)
 injection e with e
 injection e with e1 e2
 subst e1 e2
 rw [List.getElem_drop]
 exact ⟨b, off + k, S, c, rfl, hl, by rw [Nat.add_assoc]; exact hc, hI, h2⟩
end
def opVal (o : OpD) (S : Option Addr) (c : Nat) : Value := .agg #[.int .i64 o.kind, .int .i64 o.k, .int .i64 o.width, .int .i64 o.step, .int .i64 o.side, .int .i64 o.frm, .int .i64 o.to, .slice S o.s.length c]
def OpD.wide (o : OpD) : Prop := ∀ z ∈ [o.kind, o.k, o.width, o.step, o.side, o.frm, o.to], -9223372036854775808 ≤ z ∧ z ≤ 9223372036854775807
def Nodes (w : World) (A : Option Addr) (ns : List NodeD) : Prop :=
 ∀ j (hj : j < ns.length), ∃ b off S c I d Q q, A = some ⟨b, off, none⟩ ∧ b < w.heap.size ∧
  w.cell? ⟨b, off + j * 10, none⟩ = some (.int .i64 ns[j].op.kind) ∧ w.cell? ⟨b, off + j * 10 + 1, none⟩ = some (.int .i64 ns[j].op.k) ∧ w.cell? ⟨b, off + j * 10 + 2, none⟩ = some (.int .i64 ns[j].op.width) ∧
  w.cell? ⟨b, off + j * 10 + 3, none⟩ = some (.int .i64 ns[j].op.step) ∧ w.cell? ⟨b, off + j * 10 + 4, none⟩ = some (.int .i64 ns[j].op.side) ∧ w.cell? ⟨b, off + j * 10 + 5, none⟩ = some (.int .i64 ns[j].op.frm) ∧
  w.cell? ⟨b, off + j * 10 + 6, none⟩ = some (.int .i64 ns[j].op.to) ∧ w.cell? ⟨b, off + j * 10 + 7, none⟩ = some (.slice S ns[j].op.s.length c) ∧
  w.cell? ⟨b, off + j * 10 + 8, none⟩ = some (.slice I ns[j].ins.length d) ∧ w.cell? ⟨b, off + j * 10 + 9, none⟩ = some (.slice Q ns[j].p.length q) ∧
  (Ints .i64 w S ns[j].op.s ∧ ns[j].op.s.length ≤ c ∧ c ≤ 9223372036854775807) ∧ (Ints .i64 w I ns[j].ins ∧ ns[j].ins.length ≤ d ∧ d ≤ 9223372036854775807) ∧ (Shps w Q ns[j].p ∧ ns[j].p.length ≤ q ∧ q ≤ 9223372036854775807)
theorem Nodes.below {B : Nat} {w w' : World} {A : Option Addr} {ns : List NodeD} (h : Nodes w A ns) (hb : Below B w w') (hB : w.heap.size ≤ B) : Nodes w' A ns := fun j hj => by
 obtain ⟨b, off, S, c, I, d, Q, q, e, hl, c0, c1, c2, c3, c4, c5, c6, c7, c8, c9, ⟨h1, h1'⟩, ⟨h2, h2'⟩, h3, h3'⟩ := h j hj
 have hc : ∀ {k v}, w.cell? ⟨b, k, none⟩ = some v → w'.cell? ⟨b, k, none⟩ = some v := fun {k v} hk => (hb.cell (p := ⟨b, k, none⟩) (Nat.lt_of_lt_of_le hl hB)).trans hk
 exact ⟨b, off, S, c, I, d, Q, q, e, Nat.lt_of_lt_of_le hl hb.size, hc c0, hc c1, hc c2, hc c3, hc c4, hc c5, hc c6, hc c7, hc c8, hc c9, ⟨h1.below hb hB, h1'⟩, ⟨h2.below hb hB, h2'⟩, h3.below hb hB, h3'⟩
theorem Nodes.alloc {w : World} {A : Option Addr} {ns : List NodeD} (h : Nodes w A ns) (o : Obj) : Nodes (w.alloc o) A ns := h.below ((Below.refl _ _).alloc (Nat.le_refl _) o) (Nat.le_refl _)
def NetR (w : World) (A N : Option Addr) (n : NetD) : Prop := Ints .i64 w A n.inn ∧ Nodes w N n.nodes
theorem NetR.below {B : Nat} {w w' : World} {A N : Option Addr} {n : NetD} (h : NetR w A N n) (hb : Below B w w') (hB : w.heap.size ≤ B) : NetR w' A N n := ⟨h.1.below hb hB, h.2.below hb hB⟩
def ShpRow (w : World) (g : Nat) (t : TypeId) (sh : List (List Int)) : Prop :=
 ∃ vs : List Value, vs.length = sh.length ∧ Blk w g t vs.toArray ∧ ∀ j (hj : j < sh.length), ∃ S c, vs[j]? = some (.slice S sh[j].length c) ∧ Ints .i64 w S sh[j] ∧ sh[j].length ≤ c ∧ c ≤ 9223372036854775807 ∧ ∀ a, S = some a → a.block ≠ g
section
variable {w w' : World} {g : Nat} {t : TypeId} {sh : List (List Int)} {B : Nat}
theorem ShpRow.lt (h : ShpRow w g t sh) : g < w.heap.size := by obtain ⟨vs, _, hb, _⟩ := h; exact hb.lt
theorem ShpRow.below (h : ShpRow w g t sh) (hb : Below B w w') (hB : w.heap.size ≤ B) : ShpRow w' g t sh := by
 obtain ⟨vs, hl, hk, hv⟩ := h
 refine ⟨vs, hl, hk.below hb (Nat.lt_of_lt_of_le hk.lt hB), fun j hj => ?_⟩
 obtain ⟨S, c, e, hI, h2⟩ := hv j hj
 exact ⟨S, c, e, hI.below hb hB, h2⟩
theorem ShpRow.alloc (h : ShpRow w g t sh) (o : Obj) : ShpRow (w.alloc o) g t sh := h.below ((Below.refl _ _).alloc (Nat.le_refl _) o) (Nat.le_refl _)
theorem ShpRow.drewN (h : ShpRow w g t sh) (n : Nat) : ShpRow (w.drewN n) g t sh := h
theorem ShpRow.at_ (h : ShpRow w g t sh) {j : Nat} (hj : j < sh.length) : ∃ S c, w.cell? ⟨g, j, none⟩ = some (.slice S sh[j].length c) ∧ Ints .i64 w S sh[j] ∧ sh[j].length ≤ c ∧ c ≤ 9223372036854775807 ∧ ∀ a, S = some a → a.block ≠ g := by
 obtain ⟨vs, hl, hk, hv⟩ := h
 obtain ⟨S, c, e, h2⟩ := hv j hj
 exact ⟨S, c, by rw [hk.cell j]; simpa using e, h2⟩
theorem ShpRow.shps (h : ShpRow w g t sh) : Shps w (some ⟨g, 0, none⟩) sh := fun j hj => by
 obtain ⟨S, c, hc, hI, h1, h2, _⟩ := h.at_ hj
 exact ⟨g, 0, S, c, rfl, h.lt, by rw [Nat.zero_add]; exact hc, hI, h1, h2⟩
theorem Ints.set_far {k : IntKind} {A : Option Addr} {zs : List Int} (h : Ints k w A zs) {p : Addr} (hp : ∀ a, A = some a → a.block ≠ p.block) (v : Value) : Ints k (w.setCell p v) A zs := fun j hj => by
 obtain ⟨b, off, e, hl, hc⟩ := h j hj
 refine ⟨b, off, e, by simpa using hl, ?_⟩
 have hne : b ≠ p.block := hp _ e
 exact (World.cell?_of_block (w := w) (a := ⟨b, off + j, none⟩) (Below.heap_setCell w p v b hne)).trans hc
theorem ShpRow.set_ (h : ShpRow w g t sh) {i : Nat} {S : Option Addr} {s : List Int} {c : Nat} (hI : Ints .i64 w S s) (hc : s.length ≤ c) (hm : c ≤ 9223372036854775807) (hS : ∀ a, S = some a → a.block ≠ g) :
  ShpRow (w.setCell ⟨g, i, none⟩ (.slice S s.length c)) g t (sh.set i s) := by
 obtain ⟨vs, hl, hk, hv⟩ := h
 refine ⟨vs.set i (.slice S s.length c), by simp [hl], ?_, fun j hj => ?_⟩
 ·have := hk.set_ i (.slice S s.length c)
  simpa using this
 ·rw [List.length_set] at hj
  by_cases e : i = j
  ·subst e
   refine ⟨S, c, by simp [hl, hj], by simpa using hI.set_far (p := ⟨g, i, none⟩) hS _, by simpa using hc, hm, hS⟩
  ·obtain ⟨S', c', e', hI', h1, h2, h3⟩ := hv j hj
   refine ⟨S', c', by simp [List.getElem?_set_ne e, e', List.getElem_set_ne e], ?_, by simpa [List.getElem_set_ne e] using h1, h2, h3⟩
   rw [List.getElem_set_ne e]
   exact hI'.set_far (p := ⟨g, i, none⟩) h3 _
theorem ShpRow.new {n : Nat} (h : Blk w g t (List.replicate n (Value.slice none 0 0)).toArray) : ShpRow w g t (List.replicate n []) :=
 ⟨List.replicate n (.slice none 0 0), by simp, h, fun j hj => ⟨none, 0, by simp at hj; simp [hj], by simp at hj; simp [Ints.nil], by simp, by omega, fun a e => by cases e⟩⟩
end
end Go.Proofs.YtbnnpkcfifejmaaGreat
