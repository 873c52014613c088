/- Lemmas for the statements of this seat: contracts of functions and the plain laws. -/
import Derived.Laws.Bits64b
import Derived.Lib.Hide
import Derived.Maps.AppendAt
import Derived.WalkKit
import Derived.Test.YtbnnpkcfifejmabGreatChecked
import Derived.Test.YtbnnpkcfifejmabGreatZ04
set_option linter.unusedVariables false
namespace Go.Proofs.YtbnnpkcfifejmabGreat
open Go.RowKit
theorem Shps.each {w : World} {b off : Nat} {xs : List (List Int)} (h : Shps w (some ⟨b, off, none⟩) xs) {k : Nat} (hk : k < xs.length) :
  ∃ S c, w.cell? ⟨b, off + k, none⟩ = some (.slice S xs[k].length c) ∧ Ints .i64 w S xs[k] ∧ xs[k].length ≤ c ∧ c ≤ 9223372036854775807 := by
 obtain ⟨b', o', S, c, e, -, hc, hI, h1, h2⟩ := h k hk
 injection e with e
 injection e with e1 e2
 subst e1 e2
 exact ⟨S, c, hc, hI, h1, h2⟩
theorem Ints.at_ {k : IntKind} {w : World} {b off : Nat} {zs : List Int} (h : Ints k w (some ⟨b, off, none⟩) zs) {j : Nat} (hj : j < zs.length) : w.cell? ⟨b, off + j, none⟩ = some (.int k zs[j]) := by
 obtain ⟨b', o', e, -, hc⟩ := h j hj
 injection e with e
 injection e with e1 e2
 subst e1 e2
 rw [hc, getD_at hj]
theorem RefP.err {r : List Int × Int} {w w' : World} {n : Int} (h : r = ([], n)) (hb : Below w.heap.size w w') : RefP r w (.returned (.tuple #[.slice none 0 0, .int .i64 n])) w' :=
 ⟨none, 0, by rw [h]; rfl, by rw [h]; exact Ints.nil, by rw [h]; exact Nat.le_refl _, by omega, hb⟩
theorem RefP.ok {r : List Int × Int} {w w' : World} {S : Option Addr} {s : List Int} {c n : Nat} (h : r = (s, 0)) (hn : s.length = n) (hI : Ints .i64 w' S s) (h1 : s.length ≤ c) (h2 : c ≤ 9223372036854775807) (hb : Below w.heap.size w w') : RefP r w (.returned (.tuple #[.slice S n c, .int .i64 0])) w' := by
 subst hn
 exact ⟨S, c, by rw [h], by rw [h]; exact hI, by rw [h]; exact h1, h2, hb⟩
theorem Bdrawn2 {B : Nat} {a w : World} (h : Below B a w) (n m : Nat) : Below B a ((w.drewN n).drewN m) := Bdrawn (Bdrawn h n) m
theorem list_two {l : List Int} (h : l.length = 2) : ∃ a b, l = [a, b] := by
 match l, h with
 | [a, b], _ => exact ⟨a, b, rfl⟩
theorem list_one' {l : List Int} (h : l.length = 1) : ∃ x, l = [x] := by
 match l, h with
 | [x], _ => exact ⟨x, rfl⟩
set_option maxRecDepth 20000 in
set_option maxHeartbeats 8000000 in
theorem ref10_shape_pt (o : OpD) (S P X : Option Addr) (c d f : Nat) (p x : List (List Int)) (w : World) (hk : o.kind ≤ 7) (ho : o.s.length ≤ 1099511627776) (hsc : o.s.length ≤ c) (hsm : c ≤ 9223372036854775807) (hw : o.wide) (hS : Ints .i64 w S o.s) (hP : Shps w P p) (hX : Shps w X x) (hxl : x.length ≤ 1048576) (h1 : 1 ≤ x.length) (hp : ∀ s ∈ p, Sh.right s = true) (hx : ∀ s ∈ x, Sh.right s = true) :
  Calls Tryz.prog 81 #[.agg #[.int .i64 o.kind, .int .i64 o.k, .int .i64 o.width, .int .i64 o.step, .int .i64 o.side, .int .i64 o.frm, .int .i64 o.to, .slice S o.s.length c], .slice P p.length d, .slice X x.length f] w (RefP (Od.byKind o p x) w) := by
 have hq : Od.byKind o p x = Od.same x := by unfold Od.byKind; rw [if_neg (by omega), if_neg (by omega), if_neg (by omega), if_neg (by omega), if_neg (by omega), if_neg (by omega), if_neg (by omega)]
 obtain ⟨bx, ox, S0, c0, rfl, -⟩ := hX 0 h1
 have hb0 : Below w.heap.size w (w.alloc (.cells #[.int .i64 o.kind, .int .i64 o.k, .int .i64 o.width, .int .i64 o.step, .int .i64 o.side, .int .i64 o.frm, .int .i64 o.to, .slice S o.s.length c] 91)) := (Below.refl _ _).alloc (Nat.le_refl _) _
 have hk0 := Blk.new w 91 #[.int .i64 o.kind, .int .i64 o.k, .int .i64 o.width, .int .i64 o.step, .int .i64 o.side, .int .i64 o.frm, .int .i64 o.to, .slice S o.s.length c]
 obtain ⟨z0, z1, z2, z3, z4, z5, z6, z7⟩ := op_cells hk0
 have hX1 := hX.below hb0 (Nat.le_refl _)
 have hP1 := hP.below hb0 (Nat.le_refl _)
 have hS1 := hS.below hb0 (Nat.le_refl _)
 have hr0 := hx x[0] (List.getElem_mem h1)
 have hx0 : x.getD 0 [] = x[0] := gets_at h1
 first | rw [hx0] at hq | skip
 have e1 : decide (o.kind ≤ 7) = true := by simpa using hk
 clear hk
 have Hk0 := Lib.hid hk0
 have HX := Lib.hid hX
 have HP := Lib.hid hP
 have HS := Lib.hid hS
 have Hp := Lib.hid hp
 have Hx := Lib.hid hx
 clear hk0 hX hP hS hp hx
 go_enter Tryz.func81, Tryz.ntmps81
 go_upto_region 1 with fail
 generalize (w.alloc (.cells #[.int .i64 o.kind, .int .i64 o.k, .int .i64 o.width, .int .i64 o.step, .int .i64 o.side, .int .i64 o.frm, .int .i64 o.to, .slice S o.s.length c] 91)) = w1 at *
 obtain ⟨S0', c0', y0, hI0, hc0, hm0⟩ := hX1.each h1
 rw [Nat.add_zero] at y0
 clear S0
 generalize hs0 : x[0] = s0 at *
 have hbs := (Sh.right_mul hr0).2.2.2.1
 obtain ⟨s3, s4⟩ := right_short hr0
 have HX1 := Lib.hid hX1
 have HP1 := Lib.hid hP1
 have HS1 := Lib.hid hS1
 have HI0 := Lib.hid hI0
 have Hr0 := Lib.hid hr0
 have Hq := Lib.hid hq
 have Hx0 := Lib.hid hx0
 have Hs0 := Lib.hid hs0
 have Hbs := Lib.hid hbs
 have Hw := Lib.hid hw
 clear hX1 hP1 hS1 hI0 hr0 hq hx0 hs0 hbs hw
 go_wp2_with fail
 refine (ref03_size S0' c0' s0 w1 Hr0.out HI0.out).mono ?_
 rintro e w2 ⟨rfl, rfl⟩
 go_wp2_with fail
 go_loopw [10] (fun i wx => ∃ k q : Nat, k ≤ x.length ∧ i = .int .i64 (k : Int) ∧ (∀ j (hj : j < x.length), j < k → x[j] = s0) ∧ wx = w1.drewN q) (fun i _ => x.length - (intOf i).toNat)
 case atStart => exact ⟨0, 0, Nat.zero_le _, rfl, fun j hj h => by omega, rfl⟩
 case round =>
  obtain ⟨k, q, hk, rfl, hall, rfl⟩ := hrel
  by_cases hlt : k < x.length
  ·obtain ⟨Sk, ck, yk, hIk, hck, hmk⟩ := HX1.out.each hlt
   have k0 : (0 : Int) ≤ (k : Int) := by omega
   have k1 : (k : Int) < (x.length : Int) := by omega
   have hgo : x[k] = s0 → ∀ j (hj : j < x.length), j < k + 1 → x[j] = s0 := fun e j hj hjk => by
    by_cases h : j = k
    ·subst h; exact e
    ·exact hall j hj (by omega)
   have hno : x[k] ≠ s0 → Od.same x = ([], 20) := fun e => by
    unfold Od.same
    rw [if_neg]
    rw [List.all_eq_true]
    intro h
    have := h x[k] (List.getElem_mem hlt)
    rw [Hx0.out] at this
    exact e (by simpa using this)
   have hxk := Hx.out x[k] (List.getElem_mem hlt)
   obtain ⟨a3, a4⟩ := right_short hxk
   generalize x[k] = t at *
   have HIk := Lib.hid hIk
   have Hall := Lib.hid hall
   have Hgo := Lib.hid hgo
   have Hno := Lib.hid hno
   have Hxk := Lib.hid hxk
   clear hIk hall hgo hno hxk
   go_wp2_with fail
   refine (ref03_same Sk S0' ck c0' t s0 _ (by omega) (by omega) (HIk.out.drewN q) (HI0.out.drewN q)).mono ?_
   rintro e w3 ⟨rfl, q2, rfl⟩
   by_cases he : t = s0
   ·have e1 : decide (t = s0) = true := by simpa using he
    have HG := Lib.hid (Hgo.out he)
    rw [e1]
    clear he e1
    go_wp2_with fail
    go_roundw
    case rel => exact ⟨k + 1, _, by omega, by go_num, HG.out, by first | rfl | exact World.drewN_drewN _ _ _⟩
    case measure => simp [intOf]; omega
   ·have e1 : decide (t = s0) = false := by simpa using he
    have HN := Lib.hid (Hq.out.trans (Hno.out he))
    rw [e1]
    clear he e1
    go_wp2_with fail
    go_ret2
    exact RefP.err HN.out (by first | exact Bdrawn2 hb0 _ _ | exact Bdrawn hb0 _)
  ·obtain rfl : k = x.length := by omega
   have HN := Lib.hid (Hq.out.trans (show Od.same x = (s0, 0) by
    unfold Od.same
    rw [Hx0.out, if_pos]
    rw [List.all_eq_true]
    intro t ht
    obtain ⟨j, hj, rfl⟩ := List.getElem_of_mem ht
    simpa using hall j hj hj))
   clear hall
   go_wp2_with fail
   go_ret2
   exact RefP.ok HN.out rfl (HI0.out.drewN q) hc0 hm0 (by first | exact Bdrawn2 hb0 _ _ | exact Bdrawn hb0 _)
set_option maxRecDepth 20000 in
set_option maxHeartbeats 8000000 in
theorem ref10_shape_scale (o : OpD) (S P X : Option Addr) (c d f : Nat) (p x : List (List Int)) (w : World) (hk : o.kind = 9) (hpl : p.length = 1) (ho : o.s.length ≤ 1099511627776) (hsc : o.s.length ≤ c) (hsm : c ≤ 9223372036854775807) (hw : o.wide) (hS : Ints .i64 w S o.s) (hP : Shps w P p) (hX : Shps w X x) (hxl : x.length ≤ 1048576) (h1 : 1 ≤ x.length) (hp : ∀ s ∈ p, Sh.right s = true) (hx : ∀ s ∈ x, Sh.right s = true) :
  Calls Tryz.prog 81 #[.agg #[.int .i64 o.kind, .int .i64 o.k, .int .i64 o.width, .int .i64 o.step, .int .i64 o.side, .int .i64 o.frm, .int .i64 o.to, .slice S o.s.length c], .slice P p.length d, .slice X x.length f] w (RefP (Od.byKind o p x) w) := by
 have hq : Od.byKind o p x = Od.same [p.getD 0 [], x.getD 0 []] := by unfold Od.byKind; simp [hk]
 obtain ⟨bx, ox, S0, c0, rfl, -⟩ := hX 0 h1
 obtain ⟨bp, op, T0, d0, rfl, -⟩ := hP 0 (by omega)
 have hb0 : Below w.heap.size w (w.alloc (.cells #[.int .i64 o.kind, .int .i64 o.k, .int .i64 o.width, .int .i64 o.step, .int .i64 o.side, .int .i64 o.frm, .int .i64 o.to, .slice S o.s.length c] 91)) := (Below.refl _ _).alloc (Nat.le_refl _) _
 have hk0 := Blk.new w 91 #[.int .i64 o.kind, .int .i64 o.k, .int .i64 o.width, .int .i64 o.step, .int .i64 o.side, .int .i64 o.frm, .int .i64 o.to, .slice S o.s.length c]
 obtain ⟨z0, z1, z2, z3, z4, z5, z6, z7⟩ := op_cells hk0
 have hX1 := hX.below hb0 (Nat.le_refl _)
 have hP1 := hP.below hb0 (Nat.le_refl _)
 have hS1 := hS.below hb0 (Nat.le_refl _)
 have hr0 := hx x[0] (List.getElem_mem h1)
 have hx0 : x.getD 0 [] = x[0] := gets_at h1
 first | rw [hx0] at hq | skip
 have hrp := hp p[0] (List.getElem_mem (by omega))
 have hp0 : p.getD 0 [] = p[0] := gets_at (by omega)
 first | rw [hp0] at hq | skip
 have l7 : decide (o.kind ≤ 7) = false := by simp; omega
 have e8 : (o.kind == 8) = false := by simp; omega
 have e9 : (o.kind == 9) = true := by simp; omega
 clear hk
 have Hk0 := Lib.hid hk0
 have HX := Lib.hid hX
 have HP := Lib.hid hP
 have HS := Lib.hid hS
 have Hp := Lib.hid hp
 have Hx := Lib.hid hx
 clear hk0 hX hP hS hp hx
 go_enter Tryz.func81, Tryz.ntmps81
 go_upto_region 1 with fail
 generalize (w.alloc (.cells #[.int .i64 o.kind, .int .i64 o.k, .int .i64 o.width, .int .i64 o.step, .int .i64 o.side, .int .i64 o.frm, .int .i64 o.to, .slice S o.s.length c] 91)) = w1 at *
 obtain ⟨S0', c0', y0, hI0, hc0, hm0⟩ := hX1.each h1
 rw [Nat.add_zero] at y0
 obtain ⟨T0', d0', v0, hJ0, hd0, hn0⟩ := hP1.each (show 0 < p.length by omega)
 rw [Nat.add_zero] at v0
 clear T0
 clear S0
 generalize hs0 : x[0] = s0 at *
 generalize hsp : p[0] = t0 at *
 obtain ⟨q3, q4⟩ := right_short hrp
 have hbs := (Sh.right_mul hr0).2.2.2.1
 obtain ⟨s3, s4⟩ := right_short hr0
 have HX1 := Lib.hid hX1
 have HP1 := Lib.hid hP1
 have HS1 := Lib.hid hS1
 have HI0 := Lib.hid hI0
 have Hr0 := Lib.hid hr0
 have Hq := Lib.hid hq
 have Hx0 := Lib.hid hx0
 have Hs0 := Lib.hid hs0
 have Hbs := Lib.hid hbs
 have Hw := Lib.hid hw
 have HJ0 := Lib.hid hJ0
 have Hrp := Lib.hid hrp
 have Hp0 := Lib.hid hp0
 have Hsp := Lib.hid hsp
 clear hX1 hP1 hS1 hI0 hr0 hq hx0 hs0 hbs hw hJ0 hrp hp0 hsp
 go_wp2_with fail
 refine (ref03_size S0' c0' s0 w1 Hr0.out HI0.out).mono ?_
 rintro e w2 ⟨rfl, rfl⟩
 go_wp2_with fail
 refine (ref03_same T0' S0' d0' c0' t0 s0 _ (by omega) (by omega) HJ0.out HI0.out).mono ?_
 rintro e w3 ⟨rfl, q2, rfl⟩
 by_cases he : t0 = s0
 ·have e1 : decide (t0 = s0) = true := by simpa using he
  have HN := Lib.hid (Hq.out.trans (show Od.same [t0, s0] = (s0, 0) by simp [Od.same, he]))
  rw [e1]
  clear he e1
  go_wp2_with fail
  go_ret2
  exact RefP.ok HN.out rfl (HI0.out.drewN q2) hc0 hm0 (Bdrawn hb0 _)
 ·have e1 : decide (t0 = s0) = false := by simpa using he
  have HN := Lib.hid (Hq.out.trans (show Od.same [t0, s0] = ([], 20) by
   unfold Od.same
   rw [if_neg]
   simp
   intro e
   exact he e.symm))
  rw [e1]
  clear he e1
  go_wp2_with fail
  go_ret2
  exact RefP.err HN.out (Bdrawn hb0 _)
set_option maxRecDepth 20000 in
set_option maxHeartbeats 8000000 in
theorem ref10_shape_join (o : OpD) (S P X : Option Addr) (c d f : Nat) (p x : List (List Int)) (w : World) (hk : o.kind = 13) (ho : o.s.length ≤ 1099511627776) (hsc : o.s.length ≤ c) (hsm : c ≤ 9223372036854775807) (hw : o.wide) (hS : Ints .i64 w S o.s) (hP : Shps w P p) (hX : Shps w X x) (hxl : x.length ≤ 1048576) (h1 : 1 ≤ x.length) (hp : ∀ s ∈ p, Sh.right s = true) (hx : ∀ s ∈ x, Sh.right s = true) :
  Calls Tryz.prog 81 #[.agg #[.int .i64 o.kind, .int .i64 o.k, .int .i64 o.width, .int .i64 o.step, .int .i64 o.side, .int .i64 o.frm, .int .i64 o.to, .slice S o.s.length c], .slice P p.length d, .slice X x.length f] w (RefP (Od.byKind o p x) w) := by
 have hq : Od.byKind o p x = Od.joined o.side x := by unfold Od.byKind; simp [hk]
 obtain ⟨bx, ox, S0, c0, rfl, -⟩ := hX 0 h1
 have hb0 : Below w.heap.size w (w.alloc (.cells #[.int .i64 o.kind, .int .i64 o.k, .int .i64 o.width, .int .i64 o.step, .int .i64 o.side, .int .i64 o.frm, .int .i64 o.to, .slice S o.s.length c] 91)) := (Below.refl _ _).alloc (Nat.le_refl _) _
 have hk0 := Blk.new w 91 #[.int .i64 o.kind, .int .i64 o.k, .int .i64 o.width, .int .i64 o.step, .int .i64 o.side, .int .i64 o.frm, .int .i64 o.to, .slice S o.s.length c]
 obtain ⟨z0, z1, z2, z3, z4, z5, z6, z7⟩ := op_cells hk0
 have hX1 := hX.below hb0 (Nat.le_refl _)
 have hP1 := hP.below hb0 (Nat.le_refl _)
 have hS1 := hS.below hb0 (Nat.le_refl _)
 have hr0 := hx x[0] (List.getElem_mem h1)
 have hx0 : x.getD 0 [] = x[0] := gets_at h1
 first | rw [hx0] at hq | skip
 have l7 : decide (o.kind ≤ 7) = false := by simp; omega
 have l12 : decide (o.kind ≤ 12) = false := by simp; omega
 have e8 : (o.kind == 8) = false := by simp; omega
 have e9 : (o.kind == 9) = false := by simp; omega
 have e10 : (o.kind == 10) = false := by simp; omega
 have e13 : (o.kind == 13) = true := by simp; omega
 clear hk
 have Hk0 := Lib.hid hk0
 have HX := Lib.hid hX
 have HP := Lib.hid hP
 have HS := Lib.hid hS
 have Hp := Lib.hid hp
 have Hx := Lib.hid hx
 clear hk0 hX hP hS hp hx
 go_enter Tryz.func81, Tryz.ntmps81
 go_upto_region 1 with fail
 generalize (w.alloc (.cells #[.int .i64 o.kind, .int .i64 o.k, .int .i64 o.width, .int .i64 o.step, .int .i64 o.side, .int .i64 o.frm, .int .i64 o.to, .slice S o.s.length c] 91)) = w1 at *
 obtain ⟨S0', c0', y0, hI0, hc0, hm0⟩ := hX1.each h1
 rw [Nat.add_zero] at y0
 clear S0
 generalize hs0 : x[0] = s0 at *
 have hbs := (Sh.right_mul hr0).2.2.2.1
 obtain ⟨s3, s4⟩ := right_short hr0
 have HX1 := Lib.hid hX1
 have HP1 := Lib.hid hP1
 have HS1 := Lib.hid hS1
 have HI0 := Lib.hid hI0
 have Hr0 := Lib.hid hr0
 have Hq := Lib.hid hq
 have Hx0 := Lib.hid hx0
 have Hs0 := Lib.hid hs0
 have Hbs := Lib.hid hbs
 have Hw := Lib.hid hw
 clear hX1 hP1 hS1 hI0 hr0 hq hx0 hs0 hbs hw
 go_wp2_with fail
 refine (ref03_size S0' c0' s0 w1 Hr0.out HI0.out).mono ?_
 rintro e w2 ⟨rfl, rfl⟩
 go_wp2_with fail
 refine (ref10_joined o.side (some ⟨bx, ox, none⟩) f x _ HX1.out hxl h1 Hx.out).mono ?_
 rintro e w3 ⟨S9, c9, rfl, hI9, h91, h92, hb9⟩
 have hb10 := hb0.trans (hb9.mono hb0.size)
 have hqe := Hq.out
 generalize Od.joined o.side x = r at *
 have HI9 := Lib.hid hI9
 have Hqe := Lib.hid hqe
 clear hI9 hqe
 go_wp2_with fail
 go_ret2
 exact ⟨S9, c9, by rw [Hqe.out]; rfl, by rw [Hqe.out]; exact HI9.out, by rw [Hqe.out]; exact h91, h92, hb10⟩
set_option maxRecDepth 20000 in
set_option maxHeartbeats 8000000 in
theorem ref10_shape_turn (o : OpD) (S P X : Option Addr) (c d f : Nat) (p x : List (List Int)) (w : World) (hk : o.kind = 15) (ho : o.s.length ≤ 1099511627776) (hsc : o.s.length ≤ c) (hsm : c ≤ 9223372036854775807) (hw : o.wide) (hS : Ints .i64 w S o.s) (hP : Shps w P p) (hX : Shps w X x) (hxl : x.length ≤ 1048576) (h1 : 1 ≤ x.length) (hp : ∀ s ∈ p, Sh.right s = true) (hx : ∀ s ∈ x, Sh.right s = true) :
  Calls Tryz.prog 81 #[.agg #[.int .i64 o.kind, .int .i64 o.k, .int .i64 o.width, .int .i64 o.step, .int .i64 o.side, .int .i64 o.frm, .int .i64 o.to, .slice S o.s.length c], .slice P p.length d, .slice X x.length f] w (RefP (Od.byKind o p x) w) := by
 have hq : Od.byKind o p x = Od.turned (x.getD 0 []) o.s := by unfold Od.byKind; simp [hk]
 obtain ⟨bx, ox, S0, c0, rfl, -⟩ := hX 0 h1
 have hb0 : Below w.heap.size w (w.alloc (.cells #[.int .i64 o.kind, .int .i64 o.k, .int .i64 o.width, .int .i64 o.step, .int .i64 o.side, .int .i64 o.frm, .int .i64 o.to, .slice S o.s.length c] 91)) := (Below.refl _ _).alloc (Nat.le_refl _) _
 have hk0 := Blk.new w 91 #[.int .i64 o.kind, .int .i64 o.k, .int .i64 o.width, .int .i64 o.step, .int .i64 o.side, .int .i64 o.frm, .int .i64 o.to, .slice S o.s.length c]
 obtain ⟨z0, z1, z2, z3, z4, z5, z6, z7⟩ := op_cells hk0
 have hX1 := hX.below hb0 (Nat.le_refl _)
 have hP1 := hP.below hb0 (Nat.le_refl _)
 have hS1 := hS.below hb0 (Nat.le_refl _)
 have hr0 := hx x[0] (List.getElem_mem h1)
 have hx0 : x.getD 0 [] = x[0] := gets_at h1
 first | rw [hx0] at hq | skip
 have l7 : decide (o.kind ≤ 7) = false := by simp; omega
 have l12 : decide (o.kind ≤ 12) = false := by simp; omega
 have e8 : (o.kind == 8) = false := by simp; omega
 have e9 : (o.kind == 9) = false := by simp; omega
 have e10 : (o.kind == 10) = false := by simp; omega
 have e13 : (o.kind == 13) = false := by simp; omega
 have e14 : (o.kind == 14) = false := by simp; omega
 clear hk
 have Hk0 := Lib.hid hk0
 have HX := Lib.hid hX
 have HP := Lib.hid hP
 have HS := Lib.hid hS
 have Hp := Lib.hid hp
 have Hx := Lib.hid hx
 clear hk0 hX hP hS hp hx
 go_enter Tryz.func81, Tryz.ntmps81
 go_upto_region 1 with fail
 generalize (w.alloc (.cells #[.int .i64 o.kind, .int .i64 o.k, .int .i64 o.width, .int .i64 o.step, .int .i64 o.side, .int .i64 o.frm, .int .i64 o.to, .slice S o.s.length c] 91)) = w1 at *
 obtain ⟨S0', c0', y0, hI0, hc0, hm0⟩ := hX1.each h1
 rw [Nat.add_zero] at y0
 clear S0
 generalize hs0 : x[0] = s0 at *
 have hbs := (Sh.right_mul hr0).2.2.2.1
 obtain ⟨s3, s4⟩ := right_short hr0
 have HX1 := Lib.hid hX1
 have HP1 := Lib.hid hP1
 have HS1 := Lib.hid hS1
 have HI0 := Lib.hid hI0
 have Hr0 := Lib.hid hr0
 have Hq := Lib.hid hq
 have Hx0 := Lib.hid hx0
 have Hs0 := Lib.hid hs0
 have Hbs := Lib.hid hbs
 have Hw := Lib.hid hw
 clear hX1 hP1 hS1 hI0 hr0 hq hx0 hs0 hbs hw
 go_wp2_with fail
 refine (ref03_size S0' c0' s0 w1 Hr0.out HI0.out).mono ?_
 rintro e w2 ⟨rfl, rfl⟩
 go_wp2_with fail
 refine (ref03_right S c o.s _ (by omega) HS1.out).mono ?_
 rintro e w3 ⟨rfl, rfl⟩
 by_cases hr : Sh.right o.s = true
 ·rw [hr]
  have hn := Hq.out
  unfold Od.turned at hn
  rw [Hr0.out, hr, Bool.true_and, Bool.true_and] at hn
  have HRS := Lib.hid hr
  have HN := Lib.hid hn
  clear hr hn
  go_wp2_with fail
  refine (ref03_size S c o.s _ HRS.out HS1.out).mono ?_
  rintro e w3 ⟨rfl, rfl⟩
  by_cases he : Safe.prod o.s = Safe.prod s0
  ·have e1 : (Safe.prod o.s != Safe.prod s0) = false := by simp [he]
   have HM := Lib.hid (HN.out.trans (if_pos (decide_eq_true he)))
   clear he
   go_wp2_with fail
   go_ret2
   exact RefP.ok HM.out rfl HS1.out hsc hsm hb0
  ·have e1 : (Safe.prod o.s != Safe.prod s0) = true := by simp [he]
   have HM := Lib.hid (HN.out.trans (if_neg (by simpa using he)))
   clear he
   go_wp2_with fail
   go_ret2
   exact RefP.err HM.out hb0
 ·have hr' : Sh.right o.s = false := by simpa using hr
  rw [hr']
  have HM := Lib.hid (Hq.out.trans (show Od.turned s0 o.s = ([], 20) by unfold Od.turned; rw [hr']; simp))
  clear hr hr'
  go_wp2_with fail
  go_ret2
  exact RefP.err HM.out hb0
set_option maxRecDepth 20000 in
set_option maxHeartbeats 8000000 in
theorem ref10_shape_pool (o : OpD) (S P X : Option Addr) (c d f : Nat) (p x : List (List Int)) (w : World) (hk : o.kind = 11 ∨ o.kind = 12) (ho : o.s.length ≤ 1099511627776) (hsc : o.s.length ≤ c) (hsm : c ≤ 9223372036854775807) (hw : o.wide) (hS : Ints .i64 w S o.s) (hP : Shps w P p) (hX : Shps w X x) (hxl : x.length ≤ 1048576) (h1 : 1 ≤ x.length) (hp : ∀ s ∈ p, Sh.right s = true) (hx : ∀ s ∈ x, Sh.right s = true) :
  Calls Tryz.prog 81 #[.agg #[.int .i64 o.kind, .int .i64 o.k, .int .i64 o.width, .int .i64 o.step, .int .i64 o.side, .int .i64 o.frm, .int .i64 o.to, .slice S o.s.length c], .slice P p.length d, .slice X x.length f] w (RefP (Od.byKind o p x) w) := by
 have hq : Od.byKind o p x = Od.pool (x.getD 0 []) o.width o.step := by unfold Od.byKind; rw [if_neg (by omega), if_neg (by omega), if_neg (by omega), if_pos hk]
 obtain ⟨bx, ox, S0, c0, rfl, -⟩ := hX 0 h1
 have hb0 : Below w.heap.size w (w.alloc (.cells #[.int .i64 o.kind, .int .i64 o.k, .int .i64 o.width, .int .i64 o.step, .int .i64 o.side, .int .i64 o.frm, .int .i64 o.to, .slice S o.s.length c] 91)) := (Below.refl _ _).alloc (Nat.le_refl _) _
 have hk0 := Blk.new w 91 #[.int .i64 o.kind, .int .i64 o.k, .int .i64 o.width, .int .i64 o.step, .int .i64 o.side, .int .i64 o.frm, .int .i64 o.to, .slice S o.s.length c]
 obtain ⟨z0, z1, z2, z3, z4, z5, z6, z7⟩ := op_cells hk0
 have hX1 := hX.below hb0 (Nat.le_refl _)
 have hP1 := hP.below hb0 (Nat.le_refl _)
 have hS1 := hS.below hb0 (Nat.le_refl _)
 have hr0 := hx x[0] (List.getElem_mem h1)
 have hx0 : x.getD 0 [] = x[0] := gets_at h1
 first | rw [hx0] at hq | skip
 have l7 : decide (o.kind ≤ 7) = false := by simp; omega
 have e8 : (o.kind == 8) = false := by simp; omega
 have e9 : (o.kind == 9) = false := by simp; omega
 have e10 : (o.kind == 10) = false := by simp; omega
 have l12 : decide (o.kind ≤ 12) = true := by simp; omega
 clear hk
 have Hk0 := Lib.hid hk0
 have HX := Lib.hid hX
 have HP := Lib.hid hP
 have HS := Lib.hid hS
 have Hp := Lib.hid hp
 have Hx := Lib.hid hx
 clear hk0 hX hP hS hp hx
 go_enter Tryz.func81, Tryz.ntmps81
 go_upto_region 1 with fail
 generalize (w.alloc (.cells #[.int .i64 o.kind, .int .i64 o.k, .int .i64 o.width, .int .i64 o.step, .int .i64 o.side, .int .i64 o.frm, .int .i64 o.to, .slice S o.s.length c] 91)) = w1 at *
 obtain ⟨S0', c0', y0, hI0, hc0, hm0⟩ := hX1.each h1
 rw [Nat.add_zero] at y0
 clear S0
 generalize hs0 : x[0] = s0 at *
 have hbs := (Sh.right_mul hr0).2.2.2.1
 obtain ⟨s3, s4⟩ := right_short hr0
 have HX1 := Lib.hid hX1
 have HP1 := Lib.hid hP1
 have HS1 := Lib.hid hS1
 have HI0 := Lib.hid hI0
 have Hr0 := Lib.hid hr0
 have Hq := Lib.hid hq
 have Hx0 := Lib.hid hx0
 have Hs0 := Lib.hid hs0
 have Hbs := Lib.hid hbs
 have Hw := Lib.hid hw
 clear hX1 hP1 hS1 hI0 hr0 hq hx0 hs0 hbs hw
 go_wp2_with fail
 refine (ref03_size S0' c0' s0 w1 Hr0.out HI0.out).mono ?_
 rintro e w2 ⟨rfl, rfl⟩
 have hl1 : s0.length - 1 < s0.length := by omega
 have hwin := Hq.out
 unfold Od.pool at hwin
 rw [if_pos Hr0.out, getD_at hl1] at hwin
 obtain ⟨bs, os, rfl, -, -⟩ := HI0.out 0 s3
 have g0 := HI0.out.at_ hl1
 have hbl := Hbs.out _ (List.getElem_mem hl1)
 have i1 : IntKind.i64.wrap ((s0.length : Int) - 1) = ((s0.length - 1 : Nat) : Int) := by rw [IntWalk.i64_in _ (by omega)]; omega
 have i2 : (0 : Int) ≤ ((s0.length - 1 : Nat) : Int) := by omega
 have i3 : ((s0.length - 1 : Nat) : Int) < (s0.length : Int) := by omega
 have hcall := fun n : Nat => ref07_window s0[s0.length - 1] o.width o.step (w1.drewN n)
 have hok := @Od.window_ok s0[s0.length - 1] o.width o.step
 have herr := @Od.window_err s0[s0.length - 1] o.width o.step
 generalize s0[s0.length - 1] = z at *
 have hset : ∀ v, (s0.set (s0.length - 1) v).length = s0.length := fun v => List.length_set
 have hwith := fun (n : Nat) (v : Int) => ref10_with (some ⟨bs, os, none⟩) c0' s0 (s0.length - 1) v (w1.drewN n) (by omega) (HI0.out.drewN n) hl1
 obtain ⟨l, hl⟩ : ∃ l : Nat, s0.length - 1 = l := ⟨_, rfl⟩
 have hls : (s0.length : Int) - 1 = (l : Int) := by omega
 rw [hl] at g0 i1 i2 i3 hwith hwin hset
 have i4 : l < s0.length := by omega
 have Hwin := Lib.hid hwin
 have Hcall := Lib.hid hcall
 have Hok := Lib.hid hok
 have Herr := Lib.hid herr
 have Hset := Lib.hid hset
 have Hl := Lib.hid hl
 have Hls := Lib.hid hls
 clear hwin hcall hok herr hset hl hls
 have HWI := Lib.hid hwith
 clear hwith hl1
 go_wp2_with fail
 go_quiet ((go_at_call 120; exact quiet_same (Hcall.out _)))
 rename_i nq
 generalize hwv : Od.window z o.width o.step = wv at *
 by_cases hz : wv.2 = 0
 ·have hb := Hok.out hz
  have e1 : (wv.1 == 0) = false := by simp; omega
  have HN := Lib.hid (Hwin.out.trans (if_pos hz))
  have HC := Lib.hid (HWI.out nq wv.1)
  clear hz hb
  have Hwv := Lib.hid hwv
  clear hwv
  go_wp2_with fail
  refine (HC.out).mono ?_
  rintro e w3 ⟨g, rfl, hI9, hg9, hb9⟩
  have hb10 := (Bdrawn hb0 nq).trans (hb9.mono hb0.size)
  have hsz := Hset.out wv.1
  generalize s0.set l wv.1 = s9 at *
  have HI9 := Lib.hid hI9
  have Hsz := Lib.hid hsz
  clear hI9 hsz
  go_wp2_with fail
  go_ret2
  exact RefP.ok HN.out rfl HI9.out (Nat.le_refl _) (by have := Hsz.out; omega) hb10
 ·have hb := Herr.out hz
  have e1 : (wv.1 == 0) = true := by rw [hb]; rfl
  have HN := Lib.hid (Hwin.out.trans (if_neg hz))
  clear hz hb
  have Hwv := Lib.hid hwv
  clear hwv
  go_wp2_with fail
  go_ret2
  exact RefP.err HN.out (Bdrawn hb0 _)
set_option maxRecDepth 20000 in
set_option maxHeartbeats 8000000 in
theorem ref10_shape_cut (o : OpD) (S P X : Option Addr) (c d f : Nat) (p x : List (List Int)) (w : World) (hk : o.kind = 14) (ho : o.s.length ≤ 1099511627776) (hsc : o.s.length ≤ c) (hsm : c ≤ 9223372036854775807) (hw : o.wide) (hS : Ints .i64 w S o.s) (hP : Shps w P p) (hX : Shps w X x) (hxl : x.length ≤ 1048576) (h1 : 1 ≤ x.length) (hp : ∀ s ∈ p, Sh.right s = true) (hx : ∀ s ∈ x, Sh.right s = true) :
  Calls Tryz.prog 81 #[.agg #[.int .i64 o.kind, .int .i64 o.k, .int .i64 o.width, .int .i64 o.step, .int .i64 o.side, .int .i64 o.frm, .int .i64 o.to, .slice S o.s.length c], .slice P p.length d, .slice X x.length f] w (RefP (Od.byKind o p x) w) := by
 have hq : Od.byKind o p x = Od.cut (x.getD 0 []) o.side o.frm o.to := by unfold Od.byKind; simp [hk]
 obtain ⟨bx, ox, S0, c0, rfl, -⟩ := hX 0 h1
 have hb0 : Below w.heap.size w (w.alloc (.cells #[.int .i64 o.kind, .int .i64 o.k, .int .i64 o.width, .int .i64 o.step, .int .i64 o.side, .int .i64 o.frm, .int .i64 o.to, .slice S o.s.length c] 91)) := (Below.refl _ _).alloc (Nat.le_refl _) _
 have hk0 := Blk.new w 91 #[.int .i64 o.kind, .int .i64 o.k, .int .i64 o.width, .int .i64 o.step, .int .i64 o.side, .int .i64 o.frm, .int .i64 o.to, .slice S o.s.length c]
 obtain ⟨z0, z1, z2, z3, z4, z5, z6, z7⟩ := op_cells hk0
 have hX1 := hX.below hb0 (Nat.le_refl _)
 have hP1 := hP.below hb0 (Nat.le_refl _)
 have hS1 := hS.below hb0 (Nat.le_refl _)
 have hr0 := hx x[0] (List.getElem_mem h1)
 have hx0 : x.getD 0 [] = x[0] := gets_at h1
 first | rw [hx0] at hq | skip
 have l7 : decide (o.kind ≤ 7) = false := by simp; omega
 have l12 : decide (o.kind ≤ 12) = false := by simp; omega
 have e8 : (o.kind == 8) = false := by simp; omega
 have e9 : (o.kind == 9) = false := by simp; omega
 have e10 : (o.kind == 10) = false := by simp; omega
 have e13 : (o.kind == 13) = false := by simp; omega
 have e14 : (o.kind == 14) = true := by simp; omega
 clear hk
 have Hk0 := Lib.hid hk0
 have HX := Lib.hid hX
 have HP := Lib.hid hP
 have HS := Lib.hid hS
 have Hp := Lib.hid hp
 have Hx := Lib.hid hx
 clear hk0 hX hP hS hp hx
 go_enter Tryz.func81, Tryz.ntmps81
 go_upto_region 1 with fail
 generalize (w.alloc (.cells #[.int .i64 o.kind, .int .i64 o.k, .int .i64 o.width, .int .i64 o.step, .int .i64 o.side, .int .i64 o.frm, .int .i64 o.to, .slice S o.s.length c] 91)) = w1 at *
 obtain ⟨S0', c0', y0, hI0, hc0, hm0⟩ := hX1.each h1
 rw [Nat.add_zero] at y0
 clear S0
 generalize hs0 : x[0] = s0 at *
 have hbs := (Sh.right_mul hr0).2.2.2.1
 obtain ⟨s3, s4⟩ := right_short hr0
 have HX1 := Lib.hid hX1
 have HP1 := Lib.hid hP1
 have HS1 := Lib.hid hS1
 have HI0 := Lib.hid hI0
 have Hr0 := Lib.hid hr0
 have Hq := Lib.hid hq
 have Hx0 := Lib.hid hx0
 have Hs0 := Lib.hid hs0
 have Hbs := Lib.hid hbs
 have Hw := Lib.hid hw
 clear hX1 hP1 hS1 hI0 hr0 hq hx0 hs0 hbs hw
 go_wp2_with fail
 refine (ref03_size S0' c0' s0 w1 Hr0.out HI0.out).mono ?_
 rintro e w2 ⟨rfl, rfl⟩
 have hcut := Hq.out
 unfold Od.cut at hcut
 rw [if_pos Hr0.out] at hcut
 by_cases a1 : o.side < 0
 ·have d1 : decide (o.side < 0) = true := by simpa using a1
  have HN := Lib.hid (hcut.trans (if_neg (by simp [Od.inR]; omega)))
  clear hcut
  go_wp2_with fail
  go_quiet (fail)
  go_wp2_with fail
  go_ret2
  exact RefP.err HN.out (Bdrawn hb0 _)
 ·have d1 : decide (o.side < 0) = false := by simpa using a1
  by_cases a2 : (s0.length : Int) ≤ o.side
  ·have d2 : decide ((s0.length : Int) ≤ o.side) = true := by simpa using a2
   have HN := Lib.hid (hcut.trans (if_neg (by simp [Od.inR]; omega)))
   clear hcut
   go_wp2_with fail
   go_quiet (fail)
   go_wp2_with fail
   go_ret2
   exact RefP.err HN.out (Bdrawn hb0 _)
  ·have d2 : decide ((s0.length : Int) ≤ o.side) = false := by simpa using a2
   obtain ⟨sd, hsd⟩ : ∃ sd : Nat, o.side = (sd : Int) := ⟨o.side.toNat, by omega⟩
   have hsl : sd < s0.length := by omega
   have hin : Od.inR o.side s0 = true := by simp [Od.inR]; omega
   have hat : Od.at_ s0 o.side = s0[sd] := by unfold Od.at_; rw [hsd, Int.toNat_natCast, getD_at hsl]
   rw [hin, Bool.true_and, hat] at hcut
   have hbz := Hbs.out _ (List.getElem_mem hsl)
   obtain ⟨bs, os, rfl, -, -⟩ := HI0.out 0 s3
   have g0 := HI0.out.at_ hsl
   have hwith := fun (n : Nat) (v : Int) => ref10_with (some ⟨bs, os, none⟩) c0' s0 sd v (w1.drewN n) (by omega) (HI0.out.drewN n) hsl
   have hset : ∀ v, (s0.set sd v).length = s0.length := fun v => List.length_set
   have i1 : (sd : Int) < (s0.length : Int) := by omega
   have d2' : decide (s0.length ≤ sd) = false := by simp; omega
   rw [hsd] at z4 d1 d2 hcut
   generalize s0[sd] = z at *
   rw [hsd]
   rw [Int.toNat_natCast] at hcut
   clear a1 a2 hin hat
   have HWI := Lib.hid hwith
   have Hset := Lib.hid hset
   have Hsd := Lib.hid hsd
   clear hset hsd
   clear hwith
   by_cases a3 : o.frm < 0
   ·have d3 : decide (o.frm < 0) = true := by simpa using a3
    have HN := Lib.hid (hcut.trans (if_neg (by simp; omega)))
    clear hcut a3
    go_wp2_with fail
    go_quiet (fail)
    go_wp2_with fail
    go_ret2
    exact RefP.err HN.out (Bdrawn hb0 _)
   ·have d3 : decide (o.frm < 0) = false := by simpa using a3
    by_cases a4 : z < o.to
    ·have d4 : decide (z < o.to) = true := by simpa using a4
     have HN := Lib.hid (hcut.trans (if_neg (by simp; omega)))
     clear hcut a3 a4
     go_wp2_with fail
     go_quiet (fail)
     go_wp2_with fail
     go_ret2
     exact RefP.err HN.out (Bdrawn hb0 _)
    ·have d4 : decide (z < o.to) = false := by simpa using a4
     by_cases a5 : o.to ≤ o.frm
     ·have d5 : decide (o.to ≤ o.frm) = true := by simpa using a5
      have HN := Lib.hid (hcut.trans (if_neg (by simp; omega)))
      clear hcut a3 a4 a5
      go_wp2_with fail
      go_quiet (fail)
      go_wp2_with fail
      go_ret2
      exact RefP.err HN.out (Bdrawn hb0 _)
     ·have d5 : decide (o.to ≤ o.frm) = false := by simpa using a5
      have HN := Lib.hid (hcut.trans (if_pos (by simp; omega)))
      have ww : IntKind.i64.wrap (o.to - o.frm) = o.to - o.frm := IntWalk.i64_in _ (by omega)
      clear hcut
      go_wp2_with fail
      go_quiet (fail)
      rename_i nq
      clear d1 d2 d2' d3 d4 d5
      go_wp2_with fail
      refine (HWI.out nq (o.to - o.frm)).mono ?_
      rintro e w3 ⟨g, rfl, hI9, hg9, hb9⟩
      have hb10 := (Bdrawn hb0 nq).trans (hb9.mono hb0.size)
      have hsz := Hset.out (o.to - o.frm)
      generalize s0.set sd (o.to - o.frm) = s9 at *
      have HI9 := Lib.hid hI9
      have Hsz := Lib.hid hsz
      clear hI9 hsz
      go_wp2_with fail
      go_ret2
      exact RefP.ok HN.out rfl HI9.out (Nat.le_refl _) (by have := Hsz.out; omega) hb10
end Go.Proofs.YtbnnpkcfifejmabGreat
namespace Go.Proofs.YtbnnpkcfifejmabGreat
open Go.RowKit
set_option maxRecDepth 20000 in
set_option maxHeartbeats 8000000 in
theorem ref10_shape_dense (o : OpD) (S P X : Option Addr) (c d f : Nat) (p x : List (List Int)) (w : World) (hk : o.kind = 8) (hpl : p.length = 2) (ho : o.s.length ≤ 1099511627776) (hsc : o.s.length ≤ c) (hsm : c ≤ 9223372036854775807) (hw : o.wide) (hS : Ints .i64 w S o.s) (hP : Shps w P p) (hX : Shps w X x) (hxl : x.length ≤ 1048576) (h1 : 1 ≤ x.length) (hp : ∀ s ∈ p, Sh.right s = true) (hx : ∀ s ∈ x, Sh.right s = true) :
  Calls Tryz.prog 81 #[.agg #[.int .i64 o.kind, .int .i64 o.k, .int .i64 o.width, .int .i64 o.step, .int .i64 o.side, .int .i64 o.frm, .int .i64 o.to, .slice S o.s.length c], .slice P p.length d, .slice X x.length f] w (RefP (Od.byKind o p x) w) := by
 have hq : Od.byKind o p x = Od.dense (p.getD 0 []) (p.getD 1 []) (x.getD 0 []) := by unfold Od.byKind; simp [hk]
 obtain ⟨bx, ox, S0, c0, rfl, -⟩ := hX 0 h1
 obtain ⟨bp, op, T0, d0, rfl, -⟩ := hP 0 (by omega)
 have hb0 : Below w.heap.size w (w.alloc (.cells #[.int .i64 o.kind, .int .i64 o.k, .int .i64 o.width, .int .i64 o.step, .int .i64 o.side, .int .i64 o.frm, .int .i64 o.to, .slice S o.s.length c] 91)) := (Below.refl _ _).alloc (Nat.le_refl _) _
 have hk0 := Blk.new w 91 #[.int .i64 o.kind, .int .i64 o.k, .int .i64 o.width, .int .i64 o.step, .int .i64 o.side, .int .i64 o.frm, .int .i64 o.to, .slice S o.s.length c]
 obtain ⟨z0, z1, z2, z3, z4, z5, z6, z7⟩ := op_cells hk0
 have hX1 := hX.below hb0 (Nat.le_refl _)
 have hP1 := hP.below hb0 (Nat.le_refl _)
 have hS1 := hS.below hb0 (Nat.le_refl _)
 have hr0 := hx x[0] (List.getElem_mem h1)
 have hx0 : x.getD 0 [] = x[0] := gets_at h1
 first | rw [hx0] at hq | skip
 have hrp := hp p[0] (List.getElem_mem (by omega))
 have hp0 : p.getD 0 [] = p[0] := gets_at (by omega)
 first | rw [hp0] at hq | skip
 have l7 : decide (o.kind ≤ 7) = false := by simp; omega
 have e8 : (o.kind == 8) = true := by simp; omega
 clear hk
 have Hk0 := Lib.hid hk0
 have HX := Lib.hid hX
 have HP := Lib.hid hP
 have HS := Lib.hid hS
 have Hp := Lib.hid hp
 have Hx := Lib.hid hx
 clear hk0 hX hP hS hp hx
 go_enter Tryz.func81, Tryz.ntmps81
 go_upto_region 1 with fail
 generalize (w.alloc (.cells #[.int .i64 o.kind, .int .i64 o.k, .int .i64 o.width, .int .i64 o.step, .int .i64 o.side, .int .i64 o.frm, .int .i64 o.to, .slice S o.s.length c] 91)) = w1 at *
 obtain ⟨S0', c0', y0, hI0, hc0, hm0⟩ := hX1.each h1
 rw [Nat.add_zero] at y0
 obtain ⟨T0', d0', v0, hJ0, hd0, hn0⟩ := hP1.each (show 0 < p.length by omega)
 rw [Nat.add_zero] at v0
 clear T0
 clear S0
 generalize hs0 : x[0] = s0 at *
 generalize hsp : p[0] = t0 at *
 obtain ⟨q3, q4⟩ := right_short hrp
 have hbs := (Sh.right_mul hr0).2.2.2.1
 obtain ⟨s3, s4⟩ := right_short hr0
 have HX1 := Lib.hid hX1
 have HP1 := Lib.hid hP1
 have HS1 := Lib.hid hS1
 have HI0 := Lib.hid hI0
 have Hr0 := Lib.hid hr0
 have Hq := Lib.hid hq
 have Hx0 := Lib.hid hx0
 have Hs0 := Lib.hid hs0
 have Hbs := Lib.hid hbs
 have Hw := Lib.hid hw
 have HJ0 := Lib.hid hJ0
 have Hrp := Lib.hid hrp
 have Hp0 := Lib.hid hp0
 have Hsp := Lib.hid hsp
 clear hX1 hP1 hS1 hI0 hr0 hq hx0 hs0 hbs hw hJ0 hrp hp0 hsp
 go_wp2_with fail
 refine (ref03_size S0' c0' s0 w1 Hr0.out HI0.out).mono ?_
 rintro e w2 ⟨rfl, rfl⟩
 obtain ⟨T1, d1, v1, hJ1, hd1, hn1⟩ := HP1.out.each (show 1 < p.length by omega)
 have hrp1 := Hp.out p[1] (List.getElem_mem (by omega))
 have hp1 : p.getD 1 [] = p[1] := gets_at (by omega)
 have hq2 := Hq.out
 rw [hp1] at hq2
 generalize hsp1 : p[1] = t1 at *
 obtain ⟨q5, q6⟩ := right_short hrp1
 obtain ⟨bt, ot, rfl, -, -⟩ := HJ0.out 0 q3
 unfold Od.dense at hq2
 by_cases hl2 : t0.length = 2
 rotate_left
 ·have f1 : ((t0.length : Int) != 2) = true := by rw [bne_iff_ne]; omega
  have f2 : (t0.length != 2) = true := by rw [bne_iff_ne]; omega
  have HN := Lib.hid (hq2.trans (if_neg (by intro h; exact hl2 h.1)))
  have HJ1 := Lib.hid hJ1
  have Hrp1 := Lib.hid hrp1
  have Hp1 := Lib.hid hp1
  have Hsp1 := Lib.hid hsp1
  clear hJ1 hrp1 hp1 hsp1
  clear hq2 hl2
  go_wp2_with fail
  go_quiet (fail)
  go_wp2_with fail
  go_ret2
  exact RefP.err HN.out (Bdrawn hb0 _)
 ·obtain ⟨a, b, rfl⟩ := list_two hl2
  have g1 := HJ0.out.at_ (show 1 < [a, b].length by simp)
  have g1 : w1.cell? ⟨bt, ot + 1, none⟩ = some (.int .i64 b) := g1
  have hJa : Ints .i64 w1 (some ⟨bt, ot, none⟩) [a] := Ints.of_row fun j hj => by
   have hj0 : j = 0 := by simp at hj; exact hj
   subst hj0
   exact HJ0.out.at_ (show 0 < [a, b].length by simp)
  have hd2 : (1 : Int) ≤ (d0' : Int) := by simp at hd0; omega
  have hcall := fun n : Nat => ref03_same T1 (some ⟨bt, ot, none⟩) d1 d0' t1 [a] (w1.drewN n) (by omega) (by simp) (hJ1.drewN n) (hJa.drewN n)
  have f1 : ((2 : Int) != 2) = false := rfl
  have v0' : w1.cell? ⟨bp, op, none⟩ = some (.slice (some ⟨bt, ot, none⟩) 2 d0') := v0
  have hpl2 : (1 : Int) < (p.length : Int) := by omega
  clear v0 hd0 q3 q4
  by_cases hs : t1 = [a]
  ·rw [decide_eq_true hs] at hcall
   have hq3 : Od.byKind o p x = if Safe.prod s0 = b then ([a], 0) else ([], 20) := by
    rw [hq2]
    by_cases e : Safe.prod s0 = b
    ·rw [if_pos e, if_pos ⟨rfl, by rw [hs]; rfl, by rw [hs]; rfl, Hr0.out, e⟩]; rfl
    ·rw [if_neg e, if_neg]; rintro ⟨_, _, _, _, h⟩; exact e h
   have HJ1 := Lib.hid hJ1
   have Hrp1 := Lib.hid hrp1
   have Hp1 := Lib.hid hp1
   have Hsp1 := Lib.hid hsp1
   have Hcall := Lib.hid hcall
   have HJa := Lib.hid hJa
   have Hq3 := Lib.hid hq3
   clear hJ1 hrp1 hp1 hsp1 hcall hJa hq3
   clear hq2 hl2 hs
   by_cases e : Safe.prod s0 = b
   ·have f3 : (b != Safe.prod s0) = false := by simp [e]
    have HN := Lib.hid (Hq3.out.trans (if_pos e))
    clear e
    go_wp2_with fail
    go_quiet ((go_at_call 42; exact quiet_drawn (Hcall.out _)))
    go_wp2_with fail
    go_ret2
    exact RefP.ok HN.out rfl (HJa.out.drewN _) (by simp; omega) hn0 (Bdrawn hb0 _)
   ·have f3 : (b != Safe.prod s0) = true := by rw [bne_iff_ne]; exact fun h => e h.symm
    have HN := Lib.hid (Hq3.out.trans (if_neg e))
    clear e
    go_wp2_with fail
    go_quiet ((go_at_call 42; exact quiet_drawn (Hcall.out _)))
    go_wp2_with fail
    go_ret2
    exact RefP.err HN.out (Bdrawn hb0 _)
  ·rw [decide_eq_false hs] at hcall
   have HN := Lib.hid (hq2.trans (if_neg (by
    rintro ⟨_, h2, h3, _⟩
    obtain ⟨z, rfl⟩ := list_one' h2
    exact hs (by simp at h3; rw [h3]))))
   have HJ1 := Lib.hid hJ1
   have Hrp1 := Lib.hid hrp1
   have Hp1 := Lib.hid hp1
   have Hsp1 := Lib.hid hsp1
   have Hcall := Lib.hid hcall
   have HJa := Lib.hid hJa
   clear hJ1 hrp1 hp1 hsp1 hcall hJa
   clear hq2 hl2 hs
   go_wp2_with fail
   go_quiet ((go_at_call 42; exact quiet_drawn (Hcall.out _)))
   go_wp2_with fail
   go_ret2
   exact RefP.err HN.out (Bdrawn hb0 _)
set_option maxRecDepth 20000 in
set_option maxHeartbeats 8000000 in
theorem ref10_shape_conv (o : OpD) (S P X : Option Addr) (c d f : Nat) (p x : List (List Int)) (w : World) (hk : o.kind = 10) (hpl : p.length = 1) (ho : o.s.length ≤ 1099511627776) (hsc : o.s.length ≤ c) (hsm : c ≤ 9223372036854775807) (hw : o.wide) (hS : Ints .i64 w S o.s) (hP : Shps w P p) (hX : Shps w X x) (hxl : x.length ≤ 1048576) (h1 : 1 ≤ x.length) (hp : ∀ s ∈ p, Sh.right s = true) (hx : ∀ s ∈ x, Sh.right s = true) :
  Calls Tryz.prog 81 #[.agg #[.int .i64 o.kind, .int .i64 o.k, .int .i64 o.width, .int .i64 o.step, .int .i64 o.side, .int .i64 o.frm, .int .i64 o.to, .slice S o.s.length c], .slice P p.length d, .slice X x.length f] w (RefP (Od.byKind o p x) w) := by
 have hq : Od.byKind o p x = Od.conv (p.getD 0 []) (x.getD 0 []) o.step := by unfold Od.byKind; simp [hk]
 obtain ⟨bx, ox, S0, c0, rfl, -⟩ := hX 0 h1
 obtain ⟨bp, op, T0, d0, rfl, -⟩ := hP 0 (by omega)
 have hb0 : Below w.heap.size w (w.alloc (.cells #[.int .i64 o.kind, .int .i64 o.k, .int .i64 o.width, .int .i64 o.step, .int .i64 o.side, .int .i64 o.frm, .int .i64 o.to, .slice S o.s.length c] 91)) := (Below.refl _ _).alloc (Nat.le_refl _) _
 have hk0 := Blk.new w 91 #[.int .i64 o.kind, .int .i64 o.k, .int .i64 o.width, .int .i64 o.step, .int .i64 o.side, .int .i64 o.frm, .int .i64 o.to, .slice S o.s.length c]
 obtain ⟨z0, z1, z2, z3, z4, z5, z6, z7⟩ := op_cells hk0
 have hX1 := hX.below hb0 (Nat.le_refl _)
 have hP1 := hP.below hb0 (Nat.le_refl _)
 have hS1 := hS.below hb0 (Nat.le_refl _)
 have hr0 := hx x[0] (List.getElem_mem h1)
 have hx0 : x.getD 0 [] = x[0] := gets_at h1
 first | rw [hx0] at hq | skip
 have hrp := hp p[0] (List.getElem_mem (by omega))
 have hp0 : p.getD 0 [] = p[0] := gets_at (by omega)
 first | rw [hp0] at hq | skip
 have l7 : decide (o.kind ≤ 7) = false := by simp; omega
 have e8 : (o.kind == 8) = false := by simp; omega
 have e9 : (o.kind == 9) = false := by simp; omega
 have e10 : (o.kind == 10) = true := by simp; omega
 clear hk
 have Hk0 := Lib.hid hk0
 have HX := Lib.hid hX
 have HP := Lib.hid hP
 have HS := Lib.hid hS
 have Hp := Lib.hid hp
 have Hx := Lib.hid hx
 clear hk0 hX hP hS hp hx
 go_enter Tryz.func81, Tryz.ntmps81
 go_upto_region 1 with fail
 generalize (w.alloc (.cells #[.int .i64 o.kind, .int .i64 o.k, .int .i64 o.width, .int .i64 o.step, .int .i64 o.side, .int .i64 o.frm, .int .i64 o.to, .slice S o.s.length c] 91)) = w1 at *
 obtain ⟨S0', c0', y0, hI0, hc0, hm0⟩ := hX1.each h1
 rw [Nat.add_zero] at y0
 obtain ⟨T0', d0', v0, hJ0, hd0, hn0⟩ := hP1.each (show 0 < p.length by omega)
 rw [Nat.add_zero] at v0
 clear T0
 clear S0
 generalize hs0 : x[0] = s0 at *
 generalize hsp : p[0] = t0 at *
 obtain ⟨q3, q4⟩ := right_short hrp
 have hbs := (Sh.right_mul hr0).2.2.2.1
 obtain ⟨s3, s4⟩ := right_short hr0
 have HX1 := Lib.hid hX1
 have HP1 := Lib.hid hP1
 have HS1 := Lib.hid hS1
 have HI0 := Lib.hid hI0
 have Hr0 := Lib.hid hr0
 have Hq := Lib.hid hq
 have Hx0 := Lib.hid hx0
 have Hs0 := Lib.hid hs0
 have Hbs := Lib.hid hbs
 have Hw := Lib.hid hw
 have HJ0 := Lib.hid hJ0
 have Hrp := Lib.hid hrp
 have Hp0 := Lib.hid hp0
 have Hsp := Lib.hid hsp
 clear hX1 hP1 hS1 hI0 hr0 hq hx0 hs0 hbs hw hJ0 hrp hp0 hsp
 go_wp2_with fail
 refine (ref03_size S0' c0' s0 w1 Hr0.out HI0.out).mono ?_
 rintro e w2 ⟨rfl, rfl⟩
 have hq2 := Hq.out
 unfold Od.conv at hq2
 rw [Hrp.out, Hr0.out, Bool.true_and, Bool.true_and] at hq2
 obtain ⟨i0, hi, hz0, hz1, hz2⟩ := info_parts int_info
 obtain ⟨bs, os, rfl, -, -⟩ := HI0.out 0 s3
 obtain ⟨bt, ot, rfl, -, -⟩ := HJ0.out 0 q3
 have g0 := HI0.out.at_ s3
 have g2 := HJ0.out.at_ q3
 rw [Nat.add_zero] at g0 g2
 have hg0 : s0.getD 0 0 = s0[0] := getD_at s3
 have hgt : t0.getD 0 0 = t0[0] := getD_at q3
 by_cases a1 : t0.length = s0.length + 1
 rotate_left
 ·have f1 : ((t0.length : Int) != (s0.length : Int) + 1) = true := by rw [bne_iff_ne]; omega
  have HN := Lib.hid (hq2.trans (if_neg (by simp; omega)))
  clear hq2 a1 hg0 hgt g0 g2
  go_wp2_with fail
  go_quiet (fail)
  go_wp2_with fail
  go_ret2
  exact RefP.err HN.out (Bdrawn hb0 _)
 ·have f1 : ((t0.length : Int) != (s0.length : Int) + 1) = false := by simp; omega
  by_cases a2 : s0.length < 2
  ·have f2 : decide ((s0.length : Int) < 2) = true := by simp; omega
   have HN := Lib.hid (hq2.trans (if_neg (by simp; omega)))
   clear hq2 a1 hg0 hgt g0 g2
   go_wp2_with fail
   go_quiet (fail)
   go_wp2_with fail
   go_ret2
   exact RefP.err HN.out (Bdrawn hb0 _)
  ·have f2 : decide ((s0.length : Int) < 2) = false := by simp; omega
   by_cases a3 : 3 < s0.length
   ·have f3 : decide ((3 : Int) < (s0.length : Int)) = true := by simp; omega
    have HN := Lib.hid (hq2.trans (if_neg (by simp; omega)))
    clear hq2 a1 hg0 hgt g0 g2
    go_wp2_with fail
    go_quiet (fail)
    go_wp2_with fail
    go_ret2
    exact RefP.err HN.out (Bdrawn hb0 _)
   ·have f3 : decide ((3 : Int) < (s0.length : Int)) = false := by simp; omega
    have ht1 : 1 < t0.length := by omega
    have g1 := HJ0.out.at_ ht1
    have j1 : (1 : Int) < (t0.length : Int) := by omega
    rw [hg0, getD_at ht1] at hq2
    by_cases a4 : t0[1] = s0[0]
    rotate_left
    ·have f4 : (t0[1] != s0[0]) = true := by simp [a4]
     have HN := Lib.hid (hq2.trans (if_neg (by simp; intro _ _ _; exact a4)))
     generalize t0[1] = tb at *
     generalize s0[0] = sa at *
     clear hq2 a1 hg0 hgt a4 g2
     go_wp2_with fail
     go_quiet (fail)
     go_wp2_with fail
     go_ret2
     exact RefP.err HN.out (Bdrawn hb0 _)
    ·have f4 : (t0[1] != s0[0]) = false := by simp [a4]
     rw [if_pos (by simp; omega)] at hq2
     have Ha1 := Lib.hid a1
     generalize t0[1] = tb at *
     generalize s0[0] = sa at *
     generalize t0[0] = ta at *
     clear a4 a1 hg0
     have Hq2 := Lib.hid hq2
     have Hgt := Lib.hid hgt
     clear hq2 hgt
     have z3' : w1.cell? ⟨w.heap.size, 3, none⟩ = some (.int .i64 o.step) := z3
     go_wp2_with fail
     go_quiet (fail)
     rename_i nq
     clear f1 f2 f3 f4 g0 g1 z0 z1 z2 z3 z4 z5 z6 z7
     go_wp2_with fail
     clear g2 y0 v0
     have hbn : Below w1.heap.size w1 (w1.drewN nq) := Bdrawn (Below.refl _ _) nq
     have hk9 := Blk.new (w1.drewN nq) 3 #[.int .i64 ta]
     have hb9 : Below w1.heap.size w1 ((w1.drewN nq).alloc (.cells #[.int .i64 ta] 3)) := hbn.alloc (Nat.le_refl _) _
     have hown0 : ((w1.drewN nq).alloc (.cells #[.int .i64 ta] 3)).ownsRow w1.heap.size 3 1 (.slice (some ⟨w1.heap.size, 0, none⟩) 1 1) 1 ((Od.outs t0 s0 o.step 0).map (Value.int .i64)) := own_of_row (by
      have : Od.outs t0 s0 o.step 0 = [ta] := by simp only [Od.outs, Hgt.out]; rfl
      rw [this]; exact hk9) (Nat.le_refl _) (by simp [Od.outs]) (by unfold maxLen; omega)
     have Hk9 := Lib.hid hk9
     have Hown0 := Lib.hid hown0
     clear hk9 hown0
     go_loopw [12, 13] (fun v i wx => ∃ k : Nat, k ≤ s0.length - 1 ∧ i = .int .i64 ((k : Int) + 1) ∧ wx.ownsRow w1.heap.size 3 1 v (k + 1) ((Od.outs t0 s0 o.step k).map (Value.int .i64)) ∧ (∀ j, j < k → (Od.wn t0 s0 o.step j).2 = 0) ∧ Below w1.heap.size w1 wx) (fun _ i _ => s0.length - (intOf i).toNat)
     case atStart => exact ⟨0, Nat.zero_le _, rfl, Hown0.out, fun j hj => by omega, hb9⟩
     case round =>
      obtain ⟨k, hk, rfl, hown, hall, hbx⟩ := hrel
      clear Hown0 Hk9 hb9 hbn
      obtain ⟨Ao, co, rfl⟩ := own_form hown
      by_cases hlt : k + 1 < s0.length
      ·have ht2 : k + 2 < t0.length := by have := Ha1.out; omega
       have m1 := cell_below hbx (HI0.out.at_ hlt)
       have m2 := cell_below hbx (HJ0.out.at_ ht2)
       have m3 := cell_below hbx z3'
       have hwn : Od.wn t0 s0 o.step k = Od.window s0[k + 1] t0[k + 2] o.step := by unfold Od.wn; rw [getD_at hlt, getD_at ht2]
       have hcall := fun n : Nat => ref07_window s0[k + 1] t0[k + 2] o.step (wr.drewN n)
       rw [← hwn] at hcall
       have hok := @Od.window_ok s0[k + 1] t0[k + 2] o.step
       have herr := @Od.window_err s0[k + 1] t0[k + 2] o.step
       rw [← hwn] at hok herr
       have i1 : IntKind.i64.wrap ((k : Int) + 1 + 1) = ((k + 2 : Nat) : Int) := by rw [IntWalk.i64_in _ (by omega)]; omega
       have i2 : ((k : Int) + 1) < (s0.length : Int) := by omega
       have i3 : ((k + 2 : Nat) : Int) < (t0.length : Int) := by omega
       have i4 : (0 : Int) ≤ (k : Int) + 1 := by omega
       have i5 : ((k : Int) + 1).toNat = k + 1 := by omega
       have i6 : (0 : Int) ≤ ((k + 2 : Nat) : Int) := by omega
       have hosucc : Od.outs t0 s0 o.step (k + 1) = Od.outs t0 s0 o.step k ++ [(Od.wn t0 s0 o.step k).1] := by simp [Od.outs, List.range_succ]
       have hol : (Od.outs t0 s0 o.step k).length = k + 1 := by simp [Od.outs]
       have hnx : (Od.wn t0 s0 o.step k).2 = 0 → ∀ j, j < k + 1 → (Od.wn t0 s0 o.step j).2 = 0 := fun e j hj => by
        by_cases h : j = k
        ·subst h; exact e
        ·exact hall j (by omega)
       have hno : (Od.wn t0 s0 o.step k).2 ≠ 0 → Od.byKind o p x = ([], 11) := fun e => by
        rw [Hq2.out, if_neg]
        rw [List.all_eq_true]
        intro h
        have := h k (List.mem_range.2 (by omega))
        exact e (by simpa using this)
       generalize s0[k + 1] = sk at *
       generalize t0[k + 2] = tk at *
       generalize Od.wn t0 s0 o.step k = wv at *
       have Hwn := Lib.hid hwn
       have Hcall := Lib.hid hcall
       have Hok := Lib.hid hok
       have Herr := Lib.hid herr
       have Hosucc := Lib.hid hosucc
       have Hol := Lib.hid hol
       have Hnx := Lib.hid hnx
       have Hno := Lib.hid hno
       have Hall := Lib.hid hall
       have Hown := Lib.hid hown
       clear hwn hcall hok herr hosucc hol hnx hno hall hown
       go_wp2_with fail
       go_quiet ((go_at_call 120; exact quiet_same (Hcall.out _)))
       clear m1 m2 m3 i1 i3 i6
       by_cases hz : wv.2 = 0
       ·have hb := Hok.out hz
        have e1 : (wv.1 == 0) = false := by simp; omega
        have HNX := Lib.hid (Hnx.out hz)
        have ho := ownsRow_new (ownsRow_heap (w' := wr.drewN nq) Hown.out (fun g _ => rfl)) (.cells #[.int .i64 wv.1] 3)
        have hbx2 := ((Bdrawn hbx nq).alloc hbx.size (.cells #[.int .i64 wv.1] 3))
        have hlo : ∀ b, (Value.slice Ao (k + 1) co).ownBlock = some b → w1.heap.size ≤ b := fun b hb => (Hown.out.lt b hb).1
        clear hz hb
        have Hlo := Lib.hid hlo
        clear hlo
        go_wp2_with (at_builtin; refine wpList_append_own_at _ rfl _ _ 22 rfl w1.heap.size 3 i0 (.int .i64 0) 1 8 Tryz.underlying22 hi hz0 hz1 hz2 rfl (by decide) _ _ _ rfl ho ⟨wr.heap.size, 0, none⟩ 1 1 [.int .i64 wv.1] rfl rfl ?c1 (by intro u hu; simp at hu; subst hu; rfl) (by unfold maxLen; omega) (by omega) ?c2 ?_)
        case c1 => exact one_new (wr.drewN nq) _ _
        case c2 => exact hbx2.size
        intro v' w3 hown' hgrow _ hat
        have hb3 : Below w1.heap.size w1 w3 := hbx2.grown hgrow hbx2.size (fun b hb => Hlo.out b hb)
        have HO3 := Lib.hid (show w3.ownsRow w1.heap.size 3 1 v' (k + 1 + 1) ((Od.outs t0 s0 o.step (k + 1)).map (Value.int .i64)) by rw [Hosucc.out]; simpa using hown')
        clear hown' hgrow hat ho hbx2 Hlo
        go_wp2_with fail
        go_roundw
        case rel => exact ⟨k + 1, by omega, by go_num, HO3.out, HNX.out, hb3⟩
        case measure => simp [intOf]; omega
       ·have hb := Herr.out hz
        have e1 : (wv.1 == 0) = true := by rw [hb]; rfl
        have HN := Lib.hid (Hno.out hz)
        clear hz hb
        go_wp2_with fail
        go_ret2
        exact RefP.err HN.out (Bdrawn (hb0.trans (hbx.mono hb0.size)) _)
      ·obtain rfl : k = s0.length - 1 := by omega
       have i2 : ¬ ((s0.length - 1 : Nat) : Int) + 1 < (s0.length : Int) := by omega
       have hol : (Od.outs t0 s0 o.step (s0.length - 1)).length = s0.length - 1 + 1 := by simp [Od.outs]
       have hq3 : Od.byKind o p x = if Sh.right (Od.outs t0 s0 o.step (s0.length - 1)) = true then (Od.outs t0 s0 o.step (s0.length - 1), 0) else ([], 20) := by
        rw [Hq2.out, if_pos]
        rw [List.all_eq_true]
        intro j hj
        simpa using hall j (List.mem_range.1 hj)
       generalize Od.outs t0 s0 o.step (s0.length - 1) = os9 at *
       generalize s0.length - 1 = m at *
       rw [← hol] at hown
       obtain ⟨hIo, ho1, ho2⟩ := own_ints (by rw [hol] at hown ⊢; exact hown)
       have hcall := ref03_right Ao co os9 wr (by omega) hIo
       rw [hol] at hcall
       have Hown := Lib.hid hown
       have Hall := Lib.hid hall
       have Hol := Lib.hid hol
       have Hq3 := Lib.hid hq3
       have HIo := Lib.hid hIo
       have Hcall := Lib.hid hcall
       clear hown hall hol hq3 hIo hcall
       go_wp2_with fail
       refine (Hcall.out).mono ?_
       rintro e w9 ⟨rfl, rfl⟩
       by_cases hr9 : Sh.right os9 = true
       ·have HN := Lib.hid (Hq3.out.trans (if_pos hr9))
        rw [hr9]
        clear hr9
        go_wp2_with fail
        go_ret2
        exact RefP.ok HN.out Hol.out HIo.out ho1 ho2 (hb0.trans (hbx.mono hb0.size))
       ·have HN := Lib.hid (Hq3.out.trans (if_neg hr9))
        have hr' : Sh.right os9 = false := by simpa using hr9
        rw [hr']
        clear hr9 hr'
        go_wp2_with fail
        go_ret2
        exact RefP.err HN.out (hb0.trans (hbx.mono hb0.size))
theorem ref10_shape (o : OpD) (S P X : Option Addr) (c d f : Nat) (p x : List (List Int)) (w : World) (hr : Od.right o = true) (hcnt : Od.counts o p.length x.length = 0) (ho : o.s.length ≤ 1099511627776) (hsc : o.s.length ≤ c) (hsm : c ≤ 9223372036854775807) (hw : o.wide) (hS : Ints .i64 w S o.s) (hP : Shps w P p) (hX : Shps w X x) (hp : ∀ s ∈ p, Sh.right s = true) (hx : ∀ s ∈ x, Sh.right s = true) :
  Calls Tryz.prog 81 #[.agg #[.int .i64 o.kind, .int .i64 o.k, .int .i64 o.width, .int .i64 o.step, .int .i64 o.side, .int .i64 o.frm, .int .i64 o.to, .slice S o.s.length c], .slice P p.length d, .slice X x.length f] w (RefP (Od.byKind o p x) w) := by
 have hk := Od.right_kind hr
 obtain ⟨-, c1, c2, c3⟩ := Od.counts_ok hcnt
 have c4 := Od.least_pos hr
 have c5 := Od.most_le hr
 have hpar : Od.params o = if o.kind = 8 then 2 else if o.kind = 9 ∨ o.kind = 10 then 1 else 0 := by unfold Od.params; rw [if_pos hr]
 have h1 : 1 ≤ x.length := by omega
 have hxl : x.length ≤ 1048576 := by omega
 by_cases k7 : o.kind ≤ 7
 ·exact ref10_shape_pt o S P X c d f p x w k7 ho hsc hsm hw hS hP hX hxl h1 hp hx
 ·have hh : o.kind = 8 ∨ o.kind = 9 ∨ o.kind = 10 ∨ (o.kind = 11 ∨ o.kind = 12) ∨ o.kind = 13 ∨ o.kind = 14 ∨ o.kind = 15 := by omega
  rcases hh with k | k | k | k | k | k | k
  ·exact ref10_shape_dense o S P X c d f p x w k (by rw [hpar, if_pos k] at c3; omega) ho hsc hsm hw hS hP hX hxl h1 hp hx
  ·exact ref10_shape_scale o S P X c d f p x w k (by rw [hpar, if_neg (by omega), if_pos (by omega)] at c3; omega) ho hsc hsm hw hS hP hX hxl h1 hp hx
  ·exact ref10_shape_conv o S P X c d f p x w k (by rw [hpar, if_neg (by omega), if_pos (by omega)] at c3; omega) ho hsc hsm hw hS hP hX hxl h1 hp hx
  ·exact ref10_shape_pool o S P X c d f p x w k ho hsc hsm hw hS hP hX hxl h1 hp hx
  ·exact ref10_shape_join o S P X c d f p x w k ho hsc hsm hw hS hP hX hxl h1 hp hx
  ·exact ref10_shape_cut o S P X c d f p x w k ho hsc hsm hw hS hP hX hxl h1 hp hx
  ·exact ref10_shape_turn o S P X c d f p x w k ho hsc hsm hw hS hP hX hxl h1 hp hx
end Go.Proofs.YtbnnpkcfifejmabGreat
namespace Go.Proofs.YtbnnpkcfifejmabGreat
open Go.RowKit
theorem node_cells10 {W : World} {g : Nat} {t : TypeId} {v : NodeD} {S J Q : Option Addr} {c ic qc : Nat} (h : Blk W g t #[.int .i64 v.op.kind, .int .i64 v.op.k, .int .i64 v.op.width, .int .i64 v.op.step, .int .i64 v.op.side, .int .i64 v.op.frm, .int .i64 v.op.to, .slice S v.op.s.length c, .slice J v.ins.length ic, .slice Q v.p.length qc]) :
  W.cell? ⟨g, 0, none⟩ = some (.int .i64 v.op.kind) ∧ W.cell? ⟨g, 1, none⟩ = some (.int .i64 v.op.k) ∧ W.cell? ⟨g, 2, none⟩ = some (.int .i64 v.op.width) ∧ W.cell? ⟨g, 3, none⟩ = some (.int .i64 v.op.step) ∧ W.cell? ⟨g, 4, none⟩ = some (.int .i64 v.op.side) ∧ W.cell? ⟨g, 5, none⟩ = some (.int .i64 v.op.frm) ∧ W.cell? ⟨g, 6, none⟩ = some (.int .i64 v.op.to) ∧ W.cell? ⟨g, 7, none⟩ = some (.slice S v.op.s.length c) ∧ W.cell? ⟨g, 8, none⟩ = some (.slice J v.ins.length ic) ∧ W.cell? ⟨g, 9, none⟩ = some (.slice Q v.p.length qc) :=
 ⟨h.cell 0, h.cell 1, h.cell 2, h.cell 3, h.cell 4, h.cell 5, h.cell 6, h.cell 7, h.cell 8, h.cell 9⟩
end Go.Proofs.YtbnnpkcfifejmabGreat
namespace Go.Proofs.YtbnnpkcfifejmabGreat
open Go.RowKit
def RowOf (w : World) (vs : List Value) (ss : List (List Int)) : Prop :=
 vs.length = ss.length ∧ ∀ j (hj : j < ss.length), ∃ S c, vs[j]? = some (.slice S ss[j].length c) ∧ Ints .i64 w S ss[j] ∧ ss[j].length ≤ c ∧ c ≤ 9223372036854775807
theorem RowOf.nil (w : World) : RowOf w [] [] := ⟨rfl, fun j hj => absurd hj (by simp)⟩
theorem RowOf.push {w : World} {vs : List Value} {ss : List (List Int)} {S : Option Addr} {s : List Int} {c : Nat} (h : RowOf w vs ss) (hI : Ints .i64 w S s) (h1 : s.length ≤ c) (h2 : c ≤ 9223372036854775807) : RowOf w (vs ++ [.slice S s.length c]) (ss ++ [s]) := by
 refine ⟨by simp [h.1], fun j hj => ?_⟩
 simp at hj
 by_cases e : j < ss.length
 ·obtain ⟨S', c', e1, e2⟩ := h.2 j e
  refine ⟨S', c', ?_, ?_⟩
  ·rw [List.getElem?_append_left (by rw [h.1]; exact e), e1]; simp [e]
  ·simpa [e] using e2
 ·obtain rfl : j = ss.length := by omega
  refine ⟨S, c, ?_, ?_⟩
  ·rw [List.getElem?_append_right (by have := h.1; omega)]; simp [h.1]
  ·simp; exact ⟨hI, h1, h2⟩
theorem RowOf.below {w w' : World} {vs : List Value} {ss : List (List Int)} {B : Nat} (h : RowOf w vs ss) (hb : Below B w w') (hB : w.heap.size ≤ B) : RowOf w' vs ss :=
 ⟨h.1, fun j hj => by obtain ⟨S, c, e1, e2, e3⟩ := h.2 j hj; exact ⟨S, c, e1, e2.below hb hB, e3⟩⟩
theorem RowOf.shps {w w' : World} {vs : List Value} {ss : List (List Int)} {B n : Nat} {t : TypeId} {v : Value} (h : RowOf w vs ss) (hown : w'.ownsRow B t 1 v n vs) (hb : Below w.heap.size w w') :
  ∃ A c, v = .slice A ss.length c ∧ n = ss.length ∧ Shps w' A ss ∧ ss.length ≤ c ∧ c ≤ 9223372036854775807 := by
 have hn : n = ss.length := by have := hown.1; have := h.1; omega
 subst hn
 rcases hown.2 with ⟨rfl, h0⟩ | ⟨g, cap, cur, rfl, hB, hh, r1, r2, r3, r4⟩
 ·have : ss = [] := List.eq_nil_of_length_eq_zero h0
  subst this
  exact ⟨none, 0, rfl, rfl, Shps.nil, by simp, by omega⟩
 ·refine ⟨_, cap, rfl, rfl, fun j hj => ?_, r1, by unfold maxLen at r2; omega⟩
  obtain ⟨S, c, e1, e2, e3⟩ := h.2 j hj
  refine ⟨g, 0, S, c, rfl, lt_of_block hh, ?_, e2.below hb (Nat.le_refl _), e3⟩
  rw [Nat.zero_add, hown.cellAt j (by omega)]
  exact e1
theorem shpsT_info : (Tryz.prog.info? 22).map (fun i => (i.zero, i.size, i.bytes)) = some (some (.slice none 0 0), 1, 24) := by kernel_rfl
theorem pick_take (sh : List (List Int)) (l : List Int) {k : Nat} (hk : k < l.length) : Nt.pick sh (l.take (k + 1)) = Nt.pick sh (l.take k) ++ [sh.getD l[k].toNat []] := by
 unfold Nt.pick
 rw [List.take_succ_eq_append_getElem hk, List.map_append]
 rfl
set_option maxRecDepth 20000 in
set_option maxHeartbeats 8000000 in
theorem ref11_shape (v : NodeD) (S J Q : Option Addr) (c ic qc g gc : Nat) (sh : List (List Int)) (w : World) (hok : v.ok) (hr : Od.right v.op = true) (hsc : v.op.s.length ≤ c) (hsm : c ≤ 9223372036854775807) (hS : Ints .i64 w S v.op.s) (hJ : Ints .i64 w J v.ins) (hQ : Shps w Q v.p) (hX : Shps w (some ⟨g, 0, none⟩) sh)
  (hin : ∀ i ∈ v.ins, 0 ≤ i ∧ i.toNat < sh.length ∧ Sh.right (sh.getD i.toNat []) = true) :
  Calls Tryz.prog 39 #[.agg #[.int .i64 v.op.kind, .int .i64 v.op.k, .int .i64 v.op.width, .int .i64 v.op.step, .int .i64 v.op.side, .int .i64 v.op.frm, .int .i64 v.op.to, .slice S v.op.s.length c, .slice J v.ins.length ic, .slice Q v.p.length qc], .slice (some ⟨g, 0, none⟩) sh.length gc] w (RefP (Od.shape v.op v.p (Nt.pick sh v.ins)) w) := by
 obtain ⟨i1, hj, hy0, hy1, hy2⟩ := info_parts shpsT_info
 have hb0 : Below w.heap.size w (w.alloc (.cells #[.int .i64 v.op.kind, .int .i64 v.op.k, .int .i64 v.op.width, .int .i64 v.op.step, .int .i64 v.op.side, .int .i64 v.op.frm, .int .i64 v.op.to, .slice S v.op.s.length c, .slice J v.ins.length ic, .slice Q v.p.length qc] 93)) := (Below.refl _ _).alloc (Nat.le_refl _) _
 have hk0 := Blk.new w 93 #[.int .i64 v.op.kind, .int .i64 v.op.k, .int .i64 v.op.width, .int .i64 v.op.step, .int .i64 v.op.side, .int .i64 v.op.frm, .int .i64 v.op.to, .slice S v.op.s.length c, .slice J v.ins.length ic, .slice Q v.p.length qc]
 obtain ⟨y0, y1, y2, y3, y4, y5, y6, y7, y8, y9⟩ := node_cells10 hk0
 have hS1 := hS.below hb0 (Nat.le_refl _)
 have hJ1 := hJ.below hb0 (Nat.le_refl _)
 have hQ1 := hQ.below hb0 (Nat.le_refl _)
 have hX1 := hX.below hb0 (Nat.le_refl _)
 have hkd := Od.right_kind hr
 have hil := hok.2.2.1
 have hpl := hok.2.2.2.1
 have hpk : (Nt.pick sh v.ins).length = v.ins.length := by simp [Nt.pick]
 have hri := refIns_right hr
 have hrp := refPar_right hr
 have hcnt : Od.counts v.op v.p.length (Nt.pick sh v.ins).length = if ((v.ins.length : Int) < Od.least v.op ∨ Od.most v.op < (v.ins.length : Int) ∨ (v.p.length : Int) ≠ Od.params v.op) then 20 else 0 := by unfold Od.counts; rw [if_pos hr, hpk]
 have hbad : Od.counts v.op v.p.length (Nt.pick sh v.ins).length = 20 → Od.shape v.op v.p (Nt.pick sh v.ins) = ([], 20) := fun h => by unfold Od.shape; rw [if_pos (by rw [h]; omega), h]
 have Hok := Lib.hid hok
 have Hr := Lib.hid hr
 have HS := Lib.hid hS
 have HJ := Lib.hid hJ
 have HQ := Lib.hid hQ
 have HX := Lib.hid hX
 have Hin := Lib.hid hin
 have HS1 := Lib.hid hS1
 have HJ1 := Lib.hid hJ1
 have HQ1 := Lib.hid hQ1
 have HX1 := Lib.hid hX1
 have Hk0 := Lib.hid hk0
 have Hpk := Lib.hid hpk
 have Hri := Lib.hid hri
 have Hrp := Lib.hid hrp
 have Hcnt := Lib.hid hcnt
 have Hbad := Lib.hid hbad
 clear hok hr hS hJ hQ hX hin hS1 hJ1 hQ1 hX1 hk0 hpk hri hrp hcnt hbad
 go_enter Tryz.func39, Tryz.ntmps39
 go_upto_region 1 with fail
 generalize w.alloc (.cells #[.int .i64 v.op.kind, .int .i64 v.op.k, .int .i64 v.op.width, .int .i64 v.op.step, .int .i64 v.op.side, .int .i64 v.op.frm, .int .i64 v.op.to, .slice S v.op.s.length c, .slice J v.ins.length ic, .slice Q v.p.length qc] 93) = w1 at *
 go_wp2_with fail
 refine (ref10_ins v.op.kind _ hkd).mono ?_
 rintro e w2 ⟨rfl, rfl⟩
 rw [Hri.out]
 have hcall := fun n : Nat => ref10_params v.op.kind (w1.drewN n)
 rw [Hrp.out] at hcall
 have hcnt := Hcnt.out
 have hmost := Od.most_le Hr.out
 have hleast := Od.least_pos Hr.out
 generalize hL : Od.least v.op = L at *
 generalize hM : Od.most v.op = M at *
 generalize hPa : Od.params v.op = PA at *
 have Hcall := Lib.hid hcall
 have HL := Lib.hid hL
 have HM := Lib.hid hM
 have HPa := Lib.hid hPa
 clear hcall hL hM hPa
 have Hcn := Lib.hid hcnt
 clear hcnt Hcnt Hri Hrp
 by_cases a1 : (v.p.length : Int) = PA
 rotate_left
 ·have d1 : ((v.p.length : Int) != PA) = true := by rw [bne_iff_ne]; exact a1
  have HN := Lib.hid (Hbad.out (by rw [Hcn.out, if_pos (by omega)]))
  clear a1
  go_wp2_with fail
  go_quiet ((go_at_call 80; exact quiet_same (Hcall.out _)))
  go_wp2_with fail
  go_ret2
  exact RefP.err HN.out (Bdrawn hb0 _)
 ·have d1 : ((v.p.length : Int) != PA) = false := by simp [a1]
  by_cases a2 : (v.ins.length : Int) < L
  ·have d2 : decide ((v.ins.length : Int) < L) = true := by simpa using a2
   have HN := Lib.hid (Hbad.out (by rw [Hcn.out, if_pos (by omega)]))
   have Ha1 := Lib.hid a1
   clear a1
   go_wp2_with fail
   go_quiet ((go_at_call 80; exact quiet_same (Hcall.out _)))
   go_wp2_with fail
   go_ret2
   exact RefP.err HN.out (Bdrawn hb0 _)
  ·have d2 : decide ((v.ins.length : Int) < L) = false := by simpa using a2
   by_cases a3 : M < (v.ins.length : Int)
   ·have d3 : decide (M < (v.ins.length : Int)) = true := by simpa using a3
    have HN := Lib.hid (Hbad.out (by rw [Hcn.out, if_pos (by omega)]))
    have Ha1 := Lib.hid a1
    clear a1
    go_wp2_with fail
    go_quiet ((go_at_call 80; exact quiet_same (Hcall.out _)))
    go_wp2_with fail
    go_ret2
    exact RefP.err HN.out (Bdrawn hb0 _)
   ·have d3 : decide (M < (v.ins.length : Int)) = false := by simpa using a3
    have hc0 : Od.counts v.op v.p.length (Nt.pick sh v.ins).length = 0 := by rw [Hcn.out, if_neg (by omega)]
    have hi8 : v.ins.length ≤ 8 := by omega
    have Ha1 := Lib.hid a1
    clear a1 a2 a3
    have Hc0 := Lib.hid hc0
    clear hc0
    go_wp2_with fail
    go_quiet ((go_at_call 80; exact quiet_same (Hcall.out _)))
    rename_i nq
    clear d1 d2 d3
    have hbn := Bdrawn hb0 nq
    have hS2 := HS1.out.drewN nq
    have hJ2 := HJ1.out.drewN nq
    have hQ2 := HQ1.out.drewN nq
    have hX2 := HX1.out.drewN nq
    have HS2 := Lib.hid hS2
    have HJ2 := Lib.hid hJ2
    have HQ2 := Lib.hid hQ2
    have HX2 := Lib.hid hX2
    clear hS2 hJ2 hQ2 hX2
    clear HS1 HJ1 HQ1 HX1 Hcall
    go_wp2_with fail
    go_loop [8] (fun i => ∃ k : Nat, k ≤ v.p.length ∧ i = .int .i64 (k : Int) ∧ (v.p.take k).all Sh.right = true) (fun i => v.p.length - (intOf i).toNat)
    case atStart => exact ⟨0, Nat.zero_le _, rfl, rfl⟩
    case round =>
     obtain ⟨k, hk, rfl, hall⟩ := hrel
     by_cases hlt : k < v.p.length
     ·obtain ⟨b, off, Sk, ck, rfl, -, hc, hIk, hk1, hk2⟩ := HQ2.out k hlt
      have hpl2 := Hok.out.2.2.2.2.1 _ (List.getElem_mem hlt)
      have hall2 : Sh.right v.p[k] = true → (v.p.take (k + 1)).all Sh.right = true := fun h => by rw [List.take_succ_eq_append_getElem hlt, List.all_append, hall]; simp [h]
      have hnot : Sh.right v.p[k] = false → Od.shape v.op v.p (Nt.pick sh v.ins) = ([], 20) := fun h => by
       unfold Od.shape
       rw [if_neg (by rw [Hc0.out]; simp), if_neg]
       intro h2
       rw [Bool.and_eq_true] at h2
       have := List.all_eq_true.1 h2.1 _ (List.getElem_mem hlt)
       rw [h] at this
       cases this
      generalize v.p[k] = s at *
      have HIk := Lib.hid hIk
      have Hall := Lib.hid hall
      have Hall2 := Lib.hid hall2
      have Hnot := Lib.hid hnot
      clear hIk hall hall2 hnot
      go_wp2_with fail
      refine (ref03_right Sk ck s _ (by omega) HIk.out).mono ?_
      rintro e w3 ⟨rfl, rfl⟩
      by_cases hrs : Sh.right s = true
      ·have HA := Lib.hid (Hall2.out hrs)
       rw [hrs]
       clear hrs
       go_wp2_with fail
       go_round
       case rel => exact ⟨k + 1, by omega, by go_num, HA.out⟩
       case measure => simp [intOf]; omega
      ·have hrs' : Sh.right s = false := by simpa using hrs
       have HN := Lib.hid (Hnot.out hrs')
       rw [hrs']
       clear hrs hrs'
       go_wp2_with fail
       go_ret2
       exact RefP.err HN.out hbn
     ·obtain rfl : k = v.p.length := by omega
      rw [List.take_length] at hall
      have hpr : ∀ s ∈ v.p, Sh.right s = true := List.all_eq_true.1 hall
      have hxr : ∀ s ∈ Nt.pick sh v.ins, Sh.right s = true := fun s hs => by
       obtain ⟨i, hi, rfl⟩ := List.mem_map.1 hs
       exact (Hin.out i hi).2.2
      have hsh : Od.shape v.op v.p (Nt.pick sh v.ins) = Od.byKind v.op v.p (Nt.pick sh v.ins) := Od.shape_go Hc0.out hall (List.all_eq_true.2 hxr)
      have Hall := Lib.hid hall
      have Hpr := Lib.hid hpr
      have Hxr := Lib.hid hxr
      have Hsh := Lib.hid hsh
      clear hall hpr hxr hsh
      go_wp2_with fail
      clear y0 y1 y2 y3 y4 y5 y6 y7
      obtain ⟨w2, hw2⟩ : ∃ w2, w1.drewN nq = w2 := ⟨_, rfl⟩
      have hkn : Blk w2 w.heap.size 93 #[.int .i64 v.op.kind, .int .i64 v.op.k, .int .i64 v.op.width, .int .i64 v.op.step, .int .i64 v.op.side, .int .i64 v.op.frm, .int .i64 v.op.to, .slice S v.op.s.length c, .slice J v.ins.length ic, .slice Q v.p.length qc] := by rw [← hw2]; exact Hk0.out.drewN nq
      rw [hw2] at hbn HS2 HJ2 HQ2 HX2 ⊢
      clear hw2 y8 y9 Hk0
      have Hkn := Lib.hid hkn
      clear hkn
      go_loopw [9, 10] (fun o i wx => ∃ (k : Nat) (vs : List Value), k ≤ v.ins.length ∧ i = .int .i64 (k : Int) ∧ wx.ownsRow w2.heap.size 22 1 o k vs ∧ RowOf w2 vs (Nt.pick sh (v.ins.take k)) ∧ Below w2.heap.size w2 wx) (fun _ i _ => v.ins.length - (intOf i).toNat)
      case atStart => exact ⟨0, [], Nat.zero_le _, rfl, World.ownsRow_nil _ _ _ _, RowOf.nil _, Below.refl _ _⟩
      case round =>
       obtain ⟨k, vs, hk, rfl, hown, hrow, hbx⟩ := hrel
       have hknx := Hkn.out.below hbx Hkn.out.lt
       have y8 : wr.cell? ⟨w.heap.size, 8, none⟩ = some (.slice J v.ins.length ic) := by rw [hknx.cell]; rfl
       by_cases hlt : k < v.ins.length
       ·obtain ⟨Ao, co, rfl⟩ := own_form hown
        obtain ⟨b1, off1, rfl, -, hc⟩ := HJ2.out.below hbx (Nat.le_refl _) k hlt
        rw [getD_at hlt] at hc
        obtain ⟨r1, r2, r3⟩ := Hin.out _ (List.getElem_mem hlt)
        have hpt := pick_take sh v.ins hlt
        obtain ⟨u, hu⟩ : ∃ u : Nat, v.ins[k] = (u : Int) := ⟨v.ins[k].toNat, by omega⟩
        rw [hu] at hc hpt r2
        rw [Int.toNat_natCast] at hpt r2
        rw [gets_at r2] at hpt
        obtain ⟨Su, cu, yu, hIu, u1, u2⟩ := HX2.out.each r2
        rw [Nat.zero_add] at yu
        have yu' := cell_below hbx yu
        have hpush := hrow.push hIu u1 u2
        rw [← hpt] at hpush
        generalize sh[u] = s at *
        have j0 : (0 : Int) ≤ (u : Int) := by omega
        have j1 : (u : Int) < (sh.length : Int) := by omega
        have ho := ownsRow_new hown (.cells #[.slice Su s.length cu] 22)
        have hbx2 := hbx.alloc hbx.size (.cells #[.slice Su s.length cu] 22)
        have hlo : ∀ b, (Value.slice Ao k co).ownBlock = some b → w2.heap.size ≤ b := fun b hb => (hown.lt b hb).1
        have Hknx := Lib.hid hknx
        have Hrow := Lib.hid hrow
        have Hpush := Lib.hid hpush
        have Hlo := Lib.hid hlo
        have HIu := Lib.hid hIu
        have Hpt := Lib.hid hpt
        clear hknx hrow hpush hlo hIu hpt
        clear hown r1 r3 hu yu
        go_wp2_with (at_builtin; refine wpList_append_own_at _ rfl _ _ 52 rfl w2.heap.size 22 i1 (.slice none 0 0) 1 24 Tryz.underlying52 hj hy0 hy1 hy2 rfl (by decide) _ _ _ rfl ho ⟨wr.heap.size, 0, none⟩ 1 1 [.slice Su s.length cu] rfl rfl ?c1 (by intro u hu; simp at hu; subst hu; rfl) (by unfold maxLen; omega) (by omega) ?c2 ?_)
        first | (case c1 => exact one_new wr _ _) | skip
        case c2 => first | exact hbx2.size | (have := hbx.size; omega)
        intro v' w3 hown' hgrow _ hat
        have hb3 : Below w2.heap.size w2 w3 := hbx2.grown hgrow hbx2.size (fun b hb => Hlo.out b hb)
        have HO3 := Lib.hid hown'
        clear hown' hgrow hat ho hbx2
        go_wp2_with fail
        go_roundw
        case rel => exact ⟨k + 1, _, by omega, by go_num, HO3.out, Hpush.out, hb3⟩
        case measure => simp [intOf]; omega
       ·obtain rfl : k = v.ins.length := by omega
        rw [List.take_length] at hrow
        obtain ⟨Ao, co, rfl, hno, hSo, ho1, ho2⟩ := hrow.shps hown hbx
        obtain ⟨y0, y1, y2, y3, y4, y5, y6, y7, -, y9⟩ := node_cells10 hknx
        have hw := Hok.out.1
        have hol := Hok.out.2.1
        have hcall := ref10_shape v.op S Q Ao c qc co v.p (Nt.pick sh v.ins) wr Hr.out Hc0.out (by omega) hsc hsm hw (HS2.out.below hbx (Nat.le_refl _)) (HQ2.out.below hbx (Nat.le_refl _)) hSo Hpr.out Hxr.out
        have hbz := hbn.trans (hbx.mono hbn.size)
        rw [← Hsh.out] at hcall
        generalize Od.shape v.op v.p (Nt.pick sh v.ins) = r at *
        have Hcall := Lib.hid hcall
        have Hrow := Lib.hid hrow
        have Hown := Lib.hid hown
        have HSo := Lib.hid hSo
        have Hknx := Lib.hid hknx
        have Hw := Lib.hid hw
        have Hno := Lib.hid hno
        clear hcall hrow hown hSo hknx hw hno
        go_wp2_with fail
        clear y0 y1 y2 y3 y4 y5 y6 y7 y8 y9
        refine (Hcall.out).mono ?_
        rintro e w9 ⟨S9, c9, rfl, hI9, h91, h92, hb9⟩
        have HI9 := Lib.hid hI9
        clear hI9
        have hb10 := hbz.trans (hb9.mono hbz.size)
        go_wp2_with fail
        go_ret2
        exact ⟨S9, c9, rfl, HI9.out, h91, h92, hb10⟩
end Go.Proofs.YtbnnpkcfifejmabGreat
namespace Go.Proofs.YtbnnpkcfifejmabGreat
open Go.RowKit
def AnyBool (w : World) (e : Ending) (w' : World) : Prop := ∃ b, e = .returned (.bool b) ∧ Below w.heap.size w w'
end Go.Proofs.YtbnnpkcfifejmabGreat
namespace Go.Proofs.YtbnnpkcfifejmabGreat
open Go.RowKit
def FRow (B : Nat) (w : World) (g : Nat) (t : TypeId) (ss : List (List Int)) : Prop :=
 B ≤ g ∧ ∃ hs : List Nat, hs.length = ss.length ∧ (∃ vs : List Value, vs.length = ss.length ∧ Blk w g t vs.toArray ∧ ∀ j (hj : j < ss.length) (hj2 : j < hs.length), vs[j]? = some (.slice (some ⟨hs[j], 0, none⟩) ss[j].length ss[j].length)) ∧
  ∀ j (hj : j < ss.length) (hj2 : j < hs.length), B ≤ hs[j] ∧ hs[j] ≠ g ∧ Blk w hs[j] 3 (ss[j].map (Value.int .i64)).toArray
theorem FRow.shps {B : Nat} {w : World} {g : Nat} {t : TypeId} {ss : List (List Int)} (h : FRow B w g t ss) (hm : ∀ s ∈ ss, s.length ≤ 9223372036854775807) : Shps w (some ⟨g, 0, none⟩) ss := fun j hj => by
 obtain ⟨_, hs, hl, ⟨vs, hvl, hk, hv⟩, hb⟩ := h
 have h1 := hv j hj (by omega)
 obtain ⟨_, _, hB⟩ := hb j hj (by omega)
 refine ⟨g, 0, _, _, rfl, hk.lt, by rw [Nat.zero_add, hk.cell j]; simpa using h1, Ints.of_row fun i hi => ?_, Nat.le_refl _, hm _ (List.getElem_mem hj)⟩
 rw [Nat.zero_add, hB.cell i, getD_at hi]
 simp [hi]
theorem FRow.fr {B : Nat} {w w' : World} {g : Nat} {t : TypeId} {ss : List (List Int)} {S : Nat → Prop} (h : FRow B w g t ss) (hf : Fr S w w') (hS : ∀ b, B ≤ b → b < w.heap.size → ¬ S b) : FRow B w' g t ss := by
 obtain ⟨hg, hs, hl, ⟨vs, hvl, hk, hv⟩, hb⟩ := h
 refine ⟨hg, hs, hl, ⟨vs, hvl, hf.blk hk (hS _ hg hk.lt), hv⟩, fun j hj hj2 => ?_⟩
 obtain ⟨h1, h2, h3⟩ := hb j hj hj2
 exact ⟨h1, h2, hf.blk h3 (hS _ h1 h3.lt)⟩
theorem FRow.base {B B' : Nat} {w : World} {g : Nat} {t : TypeId} {ss : List (List Int)} (h : FRow B w g t ss) (hB : B' ≤ B) : FRow B' w g t ss := by
 obtain ⟨hg, hs, hl, hv, hb⟩ := h
 exact ⟨Nat.le_trans hB hg, hs, hl, hv, fun j hj hj2 => ⟨Nat.le_trans hB (hb j hj hj2).1, (hb j hj hj2).2⟩⟩
def CopiesP (ss : List (List Int)) (w : World) (e : Ending) (w' : World) : Prop :=
 ∃ g, e = .returned (.slice (some ⟨g, 0, none⟩) ss.length ss.length) ∧ FRow w.heap.size w' g 23 ss ∧ Below w.heap.size w w'
def FMid (B : Nat) (w : World) (g : Nat) (t : TypeId) (ss : List (List Int)) (k : Nat) : Prop :=
 ∃ hs : List Nat, hs.length = k ∧ (∃ vs : List Value, vs.length = ss.length ∧ Blk w g t vs.toArray ∧ ∀ j (hj : j < ss.length) (hj2 : j < hs.length), vs[j]? = some (.slice (some ⟨hs[j], 0, none⟩) ss[j].length ss[j].length)) ∧
  ∀ j (hj : j < ss.length) (hj2 : j < hs.length), B ≤ hs[j] ∧ hs[j] ≠ g ∧ Blk w hs[j] 3 (ss[j].map (Value.int .i64)).toArray
theorem FMid.fr {B : Nat} {w w' : World} {g : Nat} {t : TypeId} {ss : List (List Int)} {k : Nat} (h : FMid B w g t ss k) (hb : Below w.heap.size w w') : FMid B w' g t ss k := by
 obtain ⟨hs, hl, ⟨vs, hvl, hk, hv⟩, hb'⟩ := h
 refine ⟨hs, hl, ⟨vs, hvl, hk.below hb hk.lt, hv⟩, fun j hj hj2 => ?_⟩
 obtain ⟨h1, h2, h3⟩ := hb' j hj hj2
 exact ⟨h1, h2, h3.below hb h3.lt⟩
theorem FMid.push {B : Nat} {w : World} {g h : Nat} {t : TypeId} {ss : List (List Int)} {k : Nat} (hm : FMid B w g t ss k) (hk : k < ss.length) (hh : B ≤ h) (hne : h ≠ g) (hb : Blk w h 3 (ss[k].map (Value.int .i64)).toArray) : FMid B (w.setCell ⟨g, k, none⟩ (.slice (some ⟨h, 0, none⟩) ss[k].length ss[k].length)) g t ss (k + 1) := by
 obtain ⟨hs, hl, ⟨vs, hvl, hkb, hv⟩, hb'⟩ := hm
 refine ⟨hs ++ [h], by simp [hl], ⟨vs.set k (.slice (some ⟨h, 0, none⟩) ss[k].length ss[k].length), by simp [hvl], by simpa using hkb.set_ k (.slice (some ⟨h, 0, none⟩) ss[k].length ss[k].length), fun j hj hj2 => ?_⟩, fun j hj hj2 => ?_⟩
 ·by_cases e : j = k
  ·subst e
   have : (hs ++ [h])[j]'hj2 = h := by simp [← hl]
   rw [this, List.getElem?_set_self (by omega)]
  ·have hjk : j < hs.length := by simp at hj2; omega
   rw [List.getElem?_set_ne (by omega), hv j hj hjk]
   simp [hjk]
 ·by_cases e : j = k
  ·subst e
   have : (hs ++ [h])[j]'hj2 = h := by simp [← hl]
   rw [this]
   exact ⟨hh, hne, hb.far (p := ⟨g, j, none⟩) hne _⟩
  ·have hjk : j < hs.length := by simp at hj2; omega
   have e2 : (hs ++ [h])[j]'hj2 = hs[j] := by simp [hjk]
   rw [e2]
   obtain ⟨h1, h2, h3⟩ := hb' j hj hjk
   exact ⟨h1, h2, h3.far (p := ⟨g, k, none⟩) h2 _⟩
set_option maxRecDepth 20000 in
set_option maxHeartbeats 8000000 in
theorem net_copies (A : Option Addr) (c : Nat) (ss : List (List Int)) (w : World) (hl : ss.length ≤ 1048576) (hs : ∀ s ∈ ss, s.length ≤ 1048576) (hS : Shps w A ss) :
  Calls Tryz.prog 92 #[.slice A ss.length c] w (CopiesP ss w) := by
 obtain ⟨i0, hi, hz0, hz1, hz2⟩ := info_parts shpT_info
 have Hs := Lib.hid hs
 have HS := Lib.hid hS
 clear hs hS
 go_enter Tryz.func92, Tryz.ntmps92
 go_wp2_with (at_make; refine wpList_make_full _ rfl _ _ 39 rfl w.heap.size 23 i0 (.slice none 0 0) 1 Tryz.underlying39 hi hz0 hz1 _ _ _ _ ss.length rfl rfl (by first | rfl | simp | (go_simp; rfl)) (by first | rfl | simp | (go_simp; rfl)) ?b2 ?b3 ?b4 ?_)
 case b2 => rw [hz2]; omega
 case b3 => unfold maxLen; omega
 case b4 => exact Nat.le_refl _
 intro w1 hown hgrow
 have hblk := own_cur hown
 rw [made_one] at hblk
 have hb1 : Below w.heap.size w w1 := (Below.refl _ w).grown hgrow (Nat.le_refl _) (by simp)
 have hm0 : FMid w.heap.size w1 w.heap.size 23 ss 0 := ⟨[], rfl, ⟨List.replicate ss.length (.slice none 0 0), by simp, by rw [List.toArray_replicate]; exact hblk, fun j hj hj2 => absurd hj2 (by simp)⟩, fun j hj hj2 => absurd hj2 (by simp)⟩
 have Hm0 := Lib.hid hm0
 clear hm0
 clear hblk hown hgrow
 go_wp2_with fail
 go_loopw [11] (fun i wx => ∃ k : Nat, k ≤ ss.length ∧ i = .int .i64 (k : Int) ∧ FMid w.heap.size wx w.heap.size 23 ss k ∧ Below w.heap.size w wx) (fun i _ => ss.length - (intOf i).toNat)
 case atStart => exact ⟨0, Nat.zero_le _, rfl, Hm0.out, hb1⟩
 case round =>
  obtain ⟨k, hk, rfl, hm, hbw⟩ := hrel
  clear Hm0 hb1
  by_cases hlt : k < ss.length
  ·obtain ⟨b, off, S, sc, rfl, -, hc, hI, -⟩ := HS.out k hlt
   have l1 := Hs.out _ (List.getElem_mem hlt)
   have hc2 := cell_below hbw hc
   have hpush := fun (W : World) h q1 q2 q3 q4 => @FMid.push w.heap.size W w.heap.size h 23 ss k q1 hlt q2 q3 q4
   generalize ss[k] = s at *
   have hI2 := hI.below hbw (Nat.le_refl _)
   have Hm := Lib.hid hm
   have HI := Lib.hid hI
   have HI2 := Lib.hid hI2
   have Hpush := Lib.hid hpush
   clear hm hI hI2 hpush
   clear hc
   go_wp2_with fail
   refine (shape_copy S sc s _ (by omega) HI2.out).mono ?_
   rintro e w2 ⟨h, rfl, hh, hB, hb2⟩
   have hbw2 := hbw.trans (hb2.mono hbw.size)
   have hm2 := Hm.out.fr hb2
   have hgl : w.heap.size < wr.heap.size := by obtain ⟨_, _, ⟨vs, _, hk, _⟩, _⟩ := Hm.out; exact hk.lt
   have hm3 := Hpush.out w2 h hm2 (by omega) (by omega) hB
   obtain ⟨y, hy⟩ : ∃ y, w2.cell? ⟨w.heap.size, k, none⟩ = some y := by obtain ⟨_, _, ⟨vs, hvl, hk, _⟩, _⟩ := hm2; exact ⟨vs[k], by rw [hk.cell k]; simp⟩
   have fy : w2.frozen? ⟨w.heap.size, k, none⟩ = false := by obtain ⟨_, _, ⟨vs, hvl, hk, _⟩, _⟩ := hm2; exact hk.frozen k
   have hbw3 := hbw2.setCell (p := ⟨w.heap.size, k, none⟩) (by simp) (.slice (some ⟨h, 0, none⟩) s.length s.length)
   have Hm2 := Lib.hid hm2
   have Hm3 := Lib.hid hm3
   have HB := Lib.hid hB
   clear hm2 hm3 hB
   clear hc2
   go_wp2_with fail
   go_roundw
   case rel => exact ⟨k + 1, by omega, by go_num, Hm3.out, hbw3⟩
   case measure => simp [intOf]; omega
  ·obtain rfl : k = ss.length := by omega
   have Hm := Lib.hid hm
   clear hm
   go_wp2_with fail
   go_ret
   refine ⟨w.heap.size, rfl, ⟨Nat.le_refl _, ?_⟩, hbw⟩
   obtain ⟨hs, h1, h2⟩ := Hm.out
   exact ⟨hs, h1, h2⟩
end Go.Proofs.YtbnnpkcfifejmabGreat
namespace Go.Proofs.YtbnnpkcfifejmabGreat
open Go.RowKit
def Later (w w' : World) : Prop := Below w.heap.size w w'
section
variable {w w1 w2 : World}
theorem Later.refl (w : World) : Later w w := Below.refl _ _
theorem Later.alloc (h : Later w w1) (o : Obj) : Later w (w1.alloc o) := Below.alloc h h.size o
theorem Later.drew (h : Later w w1) : Later w w1.drew := Below.drew h
theorem Later.drewN (h : Later w w1) (n : Nat) : Later w (w1.drewN n) := Bdrawn h n
theorem Later.call (h : Later w w1) (k : Below w1.heap.size w1 w2) : Later w w2 := Below.trans h (k.mono h.size)
theorem Later.trans (h : Later w w1) (k : Later w1 w2) : Later w w2 := h.call k
theorem Later.set (h : Later w w1) {p : Addr} (hp : w.heap.size ≤ p.block) (u : Value) : Later w (w1.setCell p u) := Below.setCell h hp u
theorem Later.cell {p : Addr} {v : Value} (h : Later w w1) (hc : w.cell? p = some v) : w1.cell? p = some v := (Below.cell h (World.block_lt_of_cell? _ _ hc)).trans hc
theorem Later.blk {g : Nat} {t : TypeId} {cs : Array Value} (h : Later w w1) (hb : Blk w g t cs) : Blk w1 g t cs := hb.below h hb.lt
theorem Later.below {B : Nat} {w0 : World} (h : Later w w1) (hb : Below B w0 w) (hB : B ≤ w.heap.size) : Below B w0 w1 := hb.trans (Below.mono h hB)
end
end Go.Proofs.YtbnnpkcfifejmabGreat
namespace Go.Proofs.YtbnnpkcfifejmabGreat
open Go.RowKit
def Keep (T : TypeId) (w w' : World) : Prop := w.heap.size ≤ w'.heap.size ∧ ∀ (b : Nat) (cs : Array Value) (t : TypeId), w.heap[b]? = some (Obj.cells cs t (0, 0)) → t ≠ T → w'.heap[b]? = w.heap[b]?
section
variable {T t : TypeId} {w w' w2 : World} {g B : Nat} {cs : Array Value}
theorem Keep.of_later (h : Later w w') : Keep T w w' := ⟨Below.size h, fun b cs t hb _ => Below.block h b (lt_of_block hb)⟩
theorem Keep.set_ (hb : Blk w g T cs) (i : Nat) (u : Value) : Keep T w (w.setCell ⟨g, i, none⟩ u) := ⟨by simp, fun b cs' t h ht => Below.heap_setCell w _ u b (fun e => by
 have e : b = g := e
 subst e
 unfold Blk at hb
 rw [hb] at h
 injection h with h
 injection h with _ h _
 exact ht h.symm)⟩
theorem Keep.refl (T : TypeId) (w : World) : Keep T w w := ⟨Nat.le_refl _, fun _ _ _ _ _ => rfl⟩
theorem Keep.trans (h : Keep T w w') (k : Keep T w' w2) : Keep T w w2 := ⟨Nat.le_trans h.1 k.1, fun b cs t hb ht => (k.2 b cs t ((h.2 b cs t hb ht).trans hb) ht).trans (h.2 b cs t hb ht)⟩
theorem Blk.keep (hb : Blk w g t cs) (ht : t ≠ T) (h : Keep T w w') : Blk w' g t cs := (h.2 g cs t hb ht).trans hb
theorem ownsRow_keep {e : TypeId} {s n : Nat} {v : Value} {xs : List Value} (h : w.ownsRow B e s v n xs) (ht : e ≠ T) (hk : Keep T w w') : w'.ownsRow B e s v n xs := by
 refine ⟨h.1, ?_⟩
 rcases h.2 with h | ⟨g, cap, cur, rfl, h1, h2, h3⟩
 ·exact .inl h
 ·exact .inr ⟨g, cap, cur, rfl, h1, (hk.2 g cur e h2 ht).trans h2, h3⟩
theorem FRow.keep {ss : List (List Int)} (h : FRow B w g t ss) (ht : t ≠ T) (hi : 3 ≠ T) (hk : Keep T w w') : FRow B w' g t ss := by
 obtain ⟨hg, hs, hl, ⟨vs, hvl, hb, hv⟩, hr⟩ := h
 exact ⟨hg, hs, hl, ⟨vs, hvl, hb.keep ht hk, hv⟩, fun j hj hj2 => ⟨(hr j hj hj2).1, (hr j hj hj2).2.1, (hr j hj hj2).2.2.keep hi hk⟩⟩
end
structure CpQ where
 v : NodeD
 S : Nat
 J : Option Addr
 jc : Nat
 Q : Nat
def CpQ.cells (x : CpQ) : List Value := [.int .i64 x.v.op.kind, .int .i64 x.v.op.k, .int .i64 x.v.op.width, .int .i64 x.v.op.step, .int .i64 x.v.op.side, .int .i64 x.v.op.frm, .int .i64 x.v.op.to, .slice (some ⟨x.S, 0, none⟩) x.v.op.s.length x.v.op.s.length, .slice x.J x.v.ins.length x.jc, .slice (some ⟨x.Q, 0, none⟩) x.v.p.length x.v.p.length]
def CpQ.R (B : Nat) (w : World) (x : CpQ) : Prop := B ≤ x.S ∧ Blk w x.S 3 (x.v.op.s.map (Value.int .i64)).toArray ∧ w.ownsRow B 3 1 (.slice x.J x.v.ins.length x.jc) x.v.ins.length (x.v.ins.map (Value.int .i64)) ∧ FRow B w x.Q 23 x.v.p
theorem CpQ.len (x : CpQ) : x.cells.length = 10 := rfl
theorem CpQ.flat (L : List CpQ) : (L.flatMap CpQ.cells).length = L.length * 10 := by
 induction L with
 | nil => rfl
 | cons x r ih => rw [List.flatMap_cons, List.length_append, ih, CpQ.len, List.length_cons]; omega
theorem CpQ.R.keep {B : Nat} {w w' : World} {x : CpQ} {T : TypeId} (h : CpQ.R B w x) (h1 : 3 ≠ T) (h2 : 23 ≠ T) (hk : Keep T w w') : CpQ.R B w' x :=
 ⟨h.1, h.2.1.keep h1 hk, ownsRow_keep h.2.2.1 h1 hk, h.2.2.2.keep h2 h1 hk⟩
theorem CpQ.R.later {B : Nat} {w w' : World} {x : CpQ} (h : CpQ.R B w x) (hk : Later w w') : CpQ.R B w' x := h.keep (T := 47) (by decide) (by decide) (Keep.of_later hk)
def CpRow (B : Nat) (wx : World) (g : Nat) (zc : Array Value) (ns : List NodeD) (k : Nat) : Prop :=
 ∃ L : List CpQ, L.map (·.v) = ns.take k ∧ L.length = k ∧ Blk wx g 47 (L.flatMap CpQ.cells ++ zc.toList.drop (k * 10)).toArray ∧ ∀ x ∈ L, CpQ.R B wx x
theorem CpRow.later {B : Nat} {w w' : World} {g : Nat} {zc : Array Value} {ns : List NodeD} {k : Nat} (h : CpRow B w g zc ns k) (hk : Later w w') : CpRow B w' g zc ns k := by
 obtain ⟨L, h1, h2, h3, h4⟩ := h
 exact ⟨L, h1, h2, hk.blk h3, fun x hx => (h4 x hx).later hk⟩
theorem CpRow.keep {B : Nat} {w w' : World} {g : Nat} {zc : Array Value} {ns : List NodeD} {k : Nat} {T : TypeId} (h : CpRow B w g zc ns k) (h1 : 3 ≠ T) (h2 : 23 ≠ T) (h3 : 47 ≠ T) (hk : Keep T w w') : CpRow B w' g zc ns k := by
 obtain ⟨L, l1, l2, l3, l4⟩ := h
 exact ⟨L, l1, l2, l3.keep h3 hk, fun x hx => (l4 x hx).keep h1 h2 hk⟩
theorem ownsRow_low {w : World} {B B' e s n : Nat} {v : Value} {xs : List Value} (h : w.ownsRow B e s v n xs) (hB : B' ≤ B) : w.ownsRow B' e s v n xs := by
 refine ⟨h.1, ?_⟩
 rcases h.2 with h | ⟨g, cap, cur, h1, h2, h3⟩
 ·exact .inl h
 ·exact .inr ⟨g, cap, cur, h1, Nat.le_trans hB h2, h3⟩
theorem CpQ.R.base {B B' : Nat} {w : World} {x : CpQ} (h : CpQ.R B w x) (hB : B' ≤ B) : CpQ.R B' w x := ⟨Nat.le_trans hB h.1, h.2.1, ownsRow_low h.2.2.1 hB, h.2.2.2.base hB⟩
theorem CpRow.zero {B : Nat} {w : World} {g : Nat} {zc : Array Value} {ns : List NodeD} (h : Blk w g 47 zc) : CpRow B w g zc ns 0 := ⟨[], by simp, rfl, by simpa using h, by simp⟩
def set10 (w : World) (g o : Nat) (l : List Value) : World := ((((((((((w.setCell ⟨g, o, none⟩ (l.getD 0 undef)).setCell ⟨g, o + 1, none⟩ (l.getD 1 undef)).setCell ⟨g, o + 2, none⟩ (l.getD 2 undef)).setCell ⟨g, o + 3, none⟩ (l.getD 3 undef)).setCell ⟨g, o + 4, none⟩ (l.getD 4 undef)).setCell ⟨g, o + 5, none⟩ (l.getD 5 undef)).setCell ⟨g, o + 6, none⟩ (l.getD 6 undef)).setCell ⟨g, o + 7, none⟩ (l.getD 7 undef)).setCell ⟨g, o + 8, none⟩ (l.getD 8 undef)).setCell ⟨g, o + 9, none⟩ (l.getD 9 undef))
theorem Blk.set10 {w : World} {g : Nat} {t : TypeId} {P R : List Value} {z0 z1 z2 z3 z4 z5 z6 z7 z8 z9 a0 a1 a2 a3 a4 a5 a6 a7 a8 a9 : Value} {o : Nat} (hP : P.length = o) (h : Blk w g t (P ++ z0 :: z1 :: z2 :: z3 :: z4 :: z5 :: z6 :: z7 :: z8 :: z9 :: R).toArray) :
  Blk (Go.Proofs.YtbnnpkcfifejmabGreat.set10 w g o [a0, a1, a2, a3, a4, a5, a6, a7, a8, a9]) g t (P ++ a0 :: a1 :: a2 :: a3 :: a4 :: a5 :: a6 :: a7 :: a8 :: a9 :: R).toArray := by
 subst hP
 have := (((((((((h.set_ P.length a0).set_ (P.length + 1) a1).set_ (P.length + 2) a2).set_ (P.length + 3) a3).set_ (P.length + 4) a4).set_ (P.length + 5) a5).set_ (P.length + 6) a6).set_ (P.length + 7) a7).set_ (P.length + 8) a8).set_ (P.length + 9) a9
 simpa [Go.Proofs.YtbnnpkcfifejmabGreat.set10, List.set_append_right] using this
theorem Keep.set10 {w : World} {g : Nat} {t : TypeId} {cs : Array Value} (h : Blk w g t cs) (o : Nat) (l : List Value) : Keep t w (Go.Proofs.YtbnnpkcfifejmabGreat.set10 w g o l) := by
 unfold Go.Proofs.YtbnnpkcfifejmabGreat.set10
 have s : ∀ {W : World} (hk : Keep t w W) (hc : ∃ cs, Blk W g t cs) (i : Nat) (u : Value), Keep t w (W.setCell ⟨g, i, none⟩ u) ∧ ∃ cs, Blk (W.setCell ⟨g, i, none⟩ u) g t cs := fun hk ⟨cs, hc⟩ i u => ⟨hk.trans (Keep.set_ hc i u), _, hc.set_ i u⟩
 have s0 := s (Keep.refl t w) ⟨_, h⟩ o (l.getD 0 undef)
 have s1 := s s0.1 s0.2 (o + 1) (l.getD 1 undef)
 have s2 := s s1.1 s1.2 (o + 2) (l.getD 2 undef)
 have s3 := s s2.1 s2.2 (o + 3) (l.getD 3 undef)
 have s4 := s s3.1 s3.2 (o + 4) (l.getD 4 undef)
 have s5 := s s4.1 s4.2 (o + 5) (l.getD 5 undef)
 have s6 := s s5.1 s5.2 (o + 6) (l.getD 6 undef)
 have s7 := s s6.1 s6.2 (o + 7) (l.getD 7 undef)
 have s8 := s s7.1 s7.2 (o + 8) (l.getD 8 undef)
 exact (s s8.1 s8.2 (o + 9) (l.getD 9 undef)).1
theorem drop_ten {zs : List Value} {o : Nat} (h : o + 10 ≤ zs.length) : ∃ z0 z1 z2 z3 z4 z5 z6 z7 z8 z9, zs.drop o = z0 :: z1 :: z2 :: z3 :: z4 :: z5 :: z6 :: z7 :: z8 :: z9 :: zs.drop (o + 10) := by
 refine ⟨zs[o], zs[o + 1], zs[o + 2], zs[o + 3], zs[o + 4], zs[o + 5], zs[o + 6], zs[o + 7], zs[o + 8], zs[o + 9], ?_⟩
 iterate 10 rw [List.drop_eq_getElem_cons (by omega)]
theorem CpRow.next {B : Nat} {w : World} {g : Nat} {zc : Array Value} {ns : List NodeD} {k : Nat} (h : CpRow B w g zc ns k) (hk : k < ns.length) (hz : zc.size = ns.length * 10) :
  (∃ z0 z1 z2 z3 z4 z5 z6 z7 z8 z9, w.cell? ⟨g, k * 10, none⟩ = some z0 ∧ w.cell? ⟨g, k * 10 + 1, none⟩ = some z1 ∧ w.cell? ⟨g, k * 10 + 2, none⟩ = some z2 ∧ w.cell? ⟨g, k * 10 + 3, none⟩ = some z3 ∧ w.cell? ⟨g, k * 10 + 4, none⟩ = some z4 ∧ w.cell? ⟨g, k * 10 + 5, none⟩ = some z5 ∧ w.cell? ⟨g, k * 10 + 6, none⟩ = some z6 ∧ w.cell? ⟨g, k * 10 + 7, none⟩ = some z7 ∧ w.cell? ⟨g, k * 10 + 8, none⟩ = some z8 ∧ w.cell? ⟨g, k * 10 + 9, none⟩ = some z9) ∧
  (∀ i, w.frozen? ⟨g, i, none⟩ = false) ∧
  ∀ x : CpQ, x.v = ns[k] → CpQ.R B w x → CpRow B (Go.Proofs.YtbnnpkcfifejmabGreat.set10 w g (k * 10) x.cells) g zc ns (k + 1) ∧ Keep 47 w (Go.Proofs.YtbnnpkcfifejmabGreat.set10 w g (k * 10) x.cells) := by
 obtain ⟨L, h1, h2, h3, h4⟩ := h
 obtain ⟨z0, z1, z2, z3, z4, z5, z6, z7, z8, z9, e⟩ := drop_ten (zs := zc.toList) (o := k * 10) (by simp; omega)
 rw [e] at h3
 have hl : (L.flatMap CpQ.cells).length = k * 10 := by rw [CpQ.flat, h2]
 refine ⟨⟨z0, z1, z2, z3, z4, z5, z6, z7, z8, z9, ?_, ?_, ?_, ?_, ?_, ?_, ?_, ?_, ?_, ?_⟩, fun i => h3.frozen i, fun x hx hR => ⟨⟨L ++ [x], ?_, by simp [h2], ?_, fun y hy => ?_⟩, Keep.set10 h3 _ _⟩⟩
 all_goals first | (rw [h3.cell]; simp [← hl]; done) | skip
 ·rw [List.map_append, h1, List.take_succ_eq_append_getElem hk, ← hx]; rfl
 ·have := Blk.set10 (a0 := .int .i64 x.v.op.kind) (a1 := .int .i64 x.v.op.k) (a2 := .int .i64 x.v.op.width) (a3 := .int .i64 x.v.op.step) (a4 := .int .i64 x.v.op.side) (a5 := .int .i64 x.v.op.frm) (a6 := .int .i64 x.v.op.to) (a7 := .slice (some ⟨x.S, 0, none⟩) x.v.op.s.length x.v.op.s.length) (a8 := .slice x.J x.v.ins.length x.jc) (a9 := .slice (some ⟨x.Q, 0, none⟩) x.v.p.length x.v.p.length) hl h3
  rw [List.flatMap_append, List.append_assoc, show (k + 1) * 10 = k * 10 + 10 by omega]
  exact this
 ·have hkp : Keep 47 w (Go.Proofs.YtbnnpkcfifejmabGreat.set10 w g (k * 10) x.cells) := Keep.set10 h3 _ _
  rcases List.mem_append.1 hy with hy | hy
  ·exact (h4 y hy).keep (by decide) (by decide) hkp
  ·simp at hy; subst hy; exact hR.keep (by decide) (by decide) hkp
theorem Later.set10 {w w1 : World} {g o : Nat} {l : List Value} (h : Later w w1) (hg : w.heap.size ≤ g) : Later w (Go.Proofs.YtbnnpkcfifejmabGreat.set10 w1 g o l) := by
 unfold Go.Proofs.YtbnnpkcfifejmabGreat.set10
 exact (((((((((h.set (p := ⟨g, o, none⟩) hg _).set (p := ⟨g, o + 1, none⟩) hg _).set (p := ⟨g, o + 2, none⟩) hg _).set (p := ⟨g, o + 3, none⟩) hg _).set (p := ⟨g, o + 4, none⟩) hg _).set (p := ⟨g, o + 5, none⟩) hg _).set (p := ⟨g, o + 6, none⟩) hg _).set (p := ⟨g, o + 7, none⟩) hg _).set (p := ⟨g, o + 8, none⟩) hg _).set (p := ⟨g, o + 9, none⟩) hg _
theorem copy_step {B : Nat} {w w1 : World} {g G a r k : Nat} {zc : Array Value} {ns : List NodeD} {cG ca cr : Array Value} {v : NodeD} {h q : Nat} {J : Option Addr} {jc : Nat}
  (hput : ∀ x : CpQ, x.v = v → CpQ.R B w x → CpRow B (Go.Proofs.YtbnnpkcfifejmabGreat.set10 w g (k * 10) x.cells) g zc ns (k + 1) ∧ Keep 47 w (Go.Proofs.YtbnnpkcfifejmabGreat.set10 w g (k * 10) x.cells))
  (hR : CpQ.R B w ⟨v, h, J, jc, q⟩) (hG : Blk w G 26 cG) (ha : Blk w a 3 ca) (hr : Blk w r 26 cr) (hl : Later w1 w) (hg : w1.heap.size ≤ g) :
  CpRow B (Go.Proofs.YtbnnpkcfifejmabGreat.set10 w g (k * 10) (CpQ.cells ⟨v, h, J, jc, q⟩)) g zc ns (k + 1) ∧ Blk (Go.Proofs.YtbnnpkcfifejmabGreat.set10 w g (k * 10) (CpQ.cells ⟨v, h, J, jc, q⟩)) G 26 cG ∧ Blk (Go.Proofs.YtbnnpkcfifejmabGreat.set10 w g (k * 10) (CpQ.cells ⟨v, h, J, jc, q⟩)) a 3 ca ∧
   Blk (Go.Proofs.YtbnnpkcfifejmabGreat.set10 w g (k * 10) (CpQ.cells ⟨v, h, J, jc, q⟩)) r 26 cr ∧ Later w1 (Go.Proofs.YtbnnpkcfifejmabGreat.set10 w g (k * 10) (CpQ.cells ⟨v, h, J, jc, q⟩)) := by
 obtain ⟨h1, h2⟩ := hput _ rfl hR
 exact ⟨h1, hG.keep (by decide) h2, ha.keep (by decide) h2, hr.keep (by decide) h2, hl.set10 hg⟩
theorem CpRow.nodes {B : Nat} {w : World} {g : Nat} {zc : Array Value} {ns : List NodeD} (h : CpRow B w g zc ns ns.length) (hs : ∀ v ∈ ns, v.op.s.length ≤ 1048576 ∧ v.p.length ≤ 1048576 ∧ ∀ s ∈ v.p, s.length ≤ 1048576) : Nodes w (some ⟨g, 0, none⟩) ns := fun j hj => by
 obtain ⟨L, h1, h2, h3, h4⟩ := h
 rw [List.take_length] at h1
 subst h1
 rw [List.length_map] at hj
 have hx := h4 L[j] (List.getElem_mem hj)
 have hsz := hs L[j].v (List.mem_map.2 ⟨_, List.getElem_mem hj, rfl⟩)
 obtain ⟨q1, q2, q3, q4⟩ := hx
 obtain ⟨r1, r2, r3⟩ := own_ints q3
 have hsplit : L = L.take j ++ L[j] :: L.drop (j + 1) := by rw [← List.drop_eq_getElem_cons hj, List.take_append_drop]
 have hfl : ((L.take j).flatMap CpQ.cells).length = j * 10 := by rw [CpQ.flat]; simp; omega
 have hcell : ∀ i, i < 10 → w.cell? ⟨g, j * 10 + i, none⟩ = L[j].cells[i]? := fun i hi => by
  rw [h3.cell]
  conv => lhs; rw [hsplit, List.flatMap_append, List.flatMap_cons, List.append_assoc, List.append_assoc]
  rw [List.getElem?_toArray, List.getElem?_append_right (by omega), hfl, show j * 10 + i - j * 10 = i by omega, List.getElem?_append_left (by rw [CpQ.len]; exact hi)]
 rw [List.getElem_map]
 refine ⟨g, 0, some ⟨L[j].S, 0, none⟩, L[j].v.op.s.length, L[j].J, L[j].jc, some ⟨L[j].Q, 0, none⟩, L[j].v.p.length, rfl, h3.lt, ?_, ?_, ?_, ?_, ?_, ?_, ?_, ?_, ?_, ?_, ⟨?_, Nat.le_refl _, by omega⟩, ⟨r1, r2, r3⟩, ⟨q4.shps (fun s h => by have := hsz.2.2 s h; omega), Nat.le_refl _, by omega⟩⟩
 all_goals first | (rw [Nat.zero_add]; exact hcell 0 (by omega)) | (rw [Nat.zero_add]; exact hcell _ (by omega)) | skip
 exact Ints.of_row fun i hi => by
  rw [Nat.zero_add, q2.cell i, getD_at hi]
  simp [hi]
def NetCp (B : Nat) (n : NetD) (e : Ending) (w' : World) : Prop :=
 ∃ a g zc, e = .returned (.agg #[.slice (some ⟨a, 0, none⟩) n.inn.length n.inn.length, .slice (some ⟨g, 0, none⟩) n.nodes.length n.nodes.length]) ∧ B ≤ a ∧ B ≤ g ∧ Blk w' a 3 (n.inn.map (Value.int .i64)).toArray ∧ CpRow B w' g zc n.nodes n.nodes.length
end Go.Proofs.YtbnnpkcfifejmabGreat
namespace Go.Proofs.YtbnnpkcfifejmabGreat
open Go.RowKit
def PList (w : World) (vs : List Value) (ss : List (List Int)) : Prop :=
 vs.length = ss.length ∧ ∀ j (hj : j < ss.length), ∃ h, vs[j]? = some (.slice (some ⟨h, 0, none⟩) ss[j].length ss[j].length) ∧ Blk w h 3 (ss[j].map (Value.int .i64)).toArray
theorem PList.nil (w : World) : PList w [] [] := ⟨rfl, fun j hj => absurd hj (by simp)⟩
theorem PList.append {w : World} {vs vs' : List Value} {ss ss' : List (List Int)} (h : PList w vs ss) (h' : PList w vs' ss') : PList w (vs ++ vs') (ss ++ ss') := by
 refine ⟨by simp [h.1, h'.1], fun j hj => ?_⟩
 by_cases hl : j < ss.length
 ·obtain ⟨g, e, hb⟩ := h.2 j hl
  have e2 : (ss ++ ss')[j] = ss[j] := by simp [hl]
  rw [e2]
  exact ⟨g, by rw [List.getElem?_append_left (by rw [h.1]; exact hl)]; exact e, hb⟩
 ·have hl2 : j - ss.length < ss'.length := by simp at hj; omega
  obtain ⟨g, e, hb⟩ := h'.2 (j - ss.length) hl2
  have e2 : (ss ++ ss')[j] = ss'[j - ss.length] := by rw [List.getElem_append_right (by omega)]
  rw [e2]
  exact ⟨g, by rw [List.getElem?_append_right (by rw [h.1]; omega), h.1]; exact e, hb⟩
theorem PList.keep {w w' : World} {vs : List Value} {ss : List (List Int)} {T : TypeId} (h : PList w vs ss) (hT : 3 ≠ T) (hk : Keep T w w') : PList w' vs ss :=
 ⟨h.1, fun j hj => by obtain ⟨g, e, hb⟩ := h.2 j hj; exact ⟨g, e, hb.keep hT hk⟩⟩
theorem PList.one {w : World} {vs : List Value} {ss : List (List Int)} (h : PList w vs ss) : ∀ u ∈ vs, u.oneCell' = true := fun u hu => by
 obtain ⟨j, hj, rfl⟩ := List.getElem_of_mem hu
 obtain ⟨g, e, _⟩ := h.2 j (by rw [← h.1]; exact hj)
 rw [List.getElem?_eq_getElem hj] at e
 injection e with e
 rw [e]; rfl
theorem FRow.plist {B : Nat} {w : World} {g : Nat} {t : TypeId} {ss : List (List Int)} (h : FRow B w g t ss) : ∃ vs : List Value, Blk w g t vs.toArray ∧ PList w vs ss := by
 obtain ⟨_, hs, hl, ⟨vs, hvl, hb, hv⟩, hr⟩ := h
 exact ⟨vs, hb, hvl, fun j hj => ⟨hs[j]'(by omega), hv j hj (by omega), (hr j hj (by omega)).2.2⟩⟩
theorem Keep.of_grown {T : TypeId} {w w' : World} {B s n : Nat} {v : Value} {xs : List Value} (h : w.ownsRow B T s v n xs) (hg : w.grownBy w' v.ownBlock) : Keep T w w' := by
 refine ⟨hg.size, fun b cs t hb ht => hg.block b (lt_of_block hb) fun e => ?_⟩
 rcases h.2 with ⟨rfl, _⟩ | ⟨g, cap, cur, rfl, _, hh, _⟩
 ·simp [Value.ownBlock] at e
 ·simp [Value.ownBlock] at e
  subst e
  rw [hh] at hb
  injection hb with hb
  injection hb with _ hb _
  exact ht hb.symm
theorem news_blk {w : World} {g : Nat} {t : TypeId} {vs : List Value} (h : Blk w g t vs.toArray) : ∀ (j : Nat) (u : Value), vs[j]? = some u → w.cell? (Addr.add ⟨g, 0, none⟩ j) = some u := fun j u hu => by
 have : (Addr.add ⟨g, 0, none⟩ j) = ⟨g, j, none⟩ := by by_cases e : j = 0 <;> simp [Addr.add, e]
 rw [this, h.cell]
 simpa using hu
theorem PList.shps {w : World} {vs : List Value} {ss : List (List Int)} {B n : Nat} {t : TypeId} {v : Value} (h : PList w vs ss) (hown : w.ownsRow B t 1 v n vs) (hs : ∀ s ∈ ss, s.length ≤ 1048576) :
  ∃ A c, v = .slice A ss.length c ∧ n = ss.length ∧ Shps w A ss ∧ ss.length ≤ c ∧ c ≤ 9223372036854775807 := by
 have hn : n = ss.length := by have := hown.1; have := h.1; omega
 subst hn
 rcases hown.2 with ⟨rfl, h0⟩ | ⟨g, cap, cur, rfl, hb, hh, r1, r2, r3, r4⟩
 ·have : ss = [] := List.eq_nil_of_length_eq_zero h0
  subst this
  exact ⟨none, 0, rfl, rfl, Shps.nil, by simp, by omega⟩
 ·refine ⟨_, cap, rfl, rfl, fun j hj => ?_, r1, by unfold maxLen at r2; omega⟩
  obtain ⟨b, e, hbk⟩ := h.2 j hj
  refine ⟨g, 0, _, _, rfl, lt_of_block hh, by rw [Nat.zero_add, hown.cellAt j (by omega)]; exact e, Ints.of_row fun i hi => ?_, Nat.le_refl _, by have := hs _ (List.getElem_mem hj); omega⟩
  rw [Nat.zero_add, hbk.cell i, getD_at hi]
  simp [hi]
def ParamsP (n : NetD) (w : World) (e : Ending) (w' : World) : Prop :=
 ∃ A c, e = .returned (.slice A (Nt.params n).length c) ∧ Shps w' A (Nt.params n) ∧ (Nt.params n).length ≤ c ∧ c ≤ 9223372036854775807 ∧ Below w.heap.size w w'
theorem params_len {n : NetD} (hok : n.ok) (k : Nat) : ((n.nodes.take k).flatMap (·.p)).length ≤ k * 1048576 := by
 induction k with
 | zero => simp
 | succ k ih =>
  by_cases hk : k < n.nodes.length
  ·rw [List.take_succ_eq_append_getElem hk, List.flatMap_append, List.length_append]
   have h1 := (hok.2.2 _ (List.getElem_mem hk)).2.2.2.1
   have e : [n.nodes[k]].flatMap (·.p) = n.nodes[k].p := by simp
   rw [e]; omega
  ·rw [List.take_of_length_le (by omega)]
   rw [List.take_of_length_le (by omega)] at ih
   exact Nat.le_trans ih (Nat.mul_le_mul_right _ (Nat.le_succ _))
set_option maxRecDepth 20000 in
set_option maxHeartbeats 8000000 in
theorem net_params (A N : Option Addr) (c d : Nat) (n : NetD) (w : World) (hok : n.ok) (hR : NetR w A N n) :
  Calls Tryz.prog 49 #[.agg #[.slice A n.inn.length c, .slice N n.nodes.length d]] w (ParamsP n w) := by
 obtain ⟨i0, hi, hz0, hz1, hz2⟩ := info_parts shpT_info
 have hnl := hok.2.1
 have hpl := fun k => params_len hok k
 have hb0 : Later w (w.alloc (.cells #[.slice A n.inn.length c, .slice N n.nodes.length d] 26)) := (Later.refl _).alloc _
 have Hok := Lib.hid hok
 have HR := Lib.hid hR
 have Hpl := Lib.hid hpl
 have Hb0 := Lib.hid hb0
 clear hok hR hpl hb0
 go_enter Tryz.func49, Tryz.ntmps49
 go_wp2_with fail
 generalize w.alloc (.cells #[.slice A n.inn.length c, .slice N n.nodes.length d] 26) = w1 at *
 go_loopw [3, 9] (fun o i wx => ∃ (k : Nat) (vs : List Value), k ≤ n.nodes.length ∧ i = .int .i64 (k : Int) ∧ wx.ownsRow w.heap.size 23 1 o ((n.nodes.take k).flatMap (·.p)).length vs ∧ PList wx vs ((n.nodes.take k).flatMap (·.p)) ∧ Below w.heap.size w wx) (fun _ i _ => n.nodes.length - (intOf i).toNat)
 case atStart => exact ⟨0, [], Nat.zero_le _, rfl, by simpa using World.ownsRow_nil w1 w.heap.size 23 1, by simpa using PList.nil w1, Hb0.out⟩
 case round =>
  obtain ⟨k, vs, hk, rfl, hown, hpv, hbw⟩ := hrel
  clear Hb0
  obtain ⟨Ao, co, rfl⟩ := own_form hown
  by_cases hlt : k < n.nodes.length
  ·obtain ⟨b, off, S, sc, J, ic, Q, qc, rfl, hNA, -, -, -⟩ := HR.out.2.at_ hlt
   have hnok := Hok.out.2.2 _ (List.getElem_mem hlt)
   have hpl2 := hnok.2.2.2.1
   have hps := hnok.2.2.2.2.1
   have hQi := hNA.2.2.2
   have hlk := Hpl.out k
   have hsn : (n.nodes.take (k + 1)).flatMap (·.p) = (n.nodes.take k).flatMap (·.p) ++ n.nodes[k].p := by rw [List.take_succ_eq_append_getElem hlt, List.flatMap_append]; simp
   have hkb : k * 1048576 ≤ 1048576 * 1048576 := Nat.mul_le_mul_right _ (by omega)
   generalize n.nodes[k] = v at *
   generalize (n.nodes.take k).flatMap (·.p) = ss at *
   obtain ⟨⟨y0, y1, y2, y3, y4, y5, y6, y7, y8, y9⟩, -⟩ := hNA.below hbw
   have hl2 : Later wr (wr.alloc (.cells #[.int .i64 v.op.kind, .int .i64 v.op.k, .int .i64 v.op.width, .int .i64 v.op.step, .int .i64 v.op.side, .int .i64 v.op.frm, .int .i64 v.op.to, .slice S v.op.s.length sc, .slice J v.ins.length ic, .slice Q v.p.length qc] 47)) := (Later.refl wr).alloc _
   have HNA := Lib.hid hNA
   have Hnok := Lib.hid hnok
   have Hps := Lib.hid hps
   have HQi := Lib.hid hQi
   have Hsn := Lib.hid hsn
   have Hown := Lib.hid hown
   have Hpv := Lib.hid hpv
   have Hl2 := Lib.hid hl2
   clear hNA hnok hps hQi hsn hown hpv hl2
   go_wp2_with fail
   clear y0 y1 y2 y3 y4 y5 y6 y7 y8 y9
   generalize wr.alloc (.cells #[.int .i64 v.op.kind, .int .i64 v.op.k, .int .i64 v.op.width, .int .i64 v.op.step, .int .i64 v.op.side, .int .i64 v.op.frm, .int .i64 v.op.to, .slice S v.op.s.length sc, .slice J v.ins.length ic, .slice Q v.p.length qc] 47) = w2 at *
   refine (net_copies Q qc v.p _ hpl2 Hps.out (HQi.out.below (hbw.trans (Below.mono Hl2.out hbw.size)) (Nat.le_refl _))).mono ?_
   rintro e w3 ⟨g, rfl, hF, hb3⟩
   have hl3 := Hl2.out.call hb3
   obtain ⟨ws, hgb, hpw⟩ := hF.plist
   have ho3 := ownsRow_keep (T := 47) Hown.out (by decide) (Keep.of_later hl3)
   have hp3 := Hpv.out.keep (T := 47) (by decide) (Keep.of_later hl3)
   have hwl : ws.length = v.p.length := hpw.1
   have hone := hpw.one
   have hnews := news_blk hgb
   have hbw3 := hbw.trans (Below.mono hl3 hbw.size)
   have hsz3 := hbw3.size
   have HLO := Lib.hid (fun b (hb : (Value.slice Ao ss.length co).ownBlock = some b) => (ho3.lt b hb).1)
   have HF := Lib.hid hF
   have Hl3 := Lib.hid hl3
   have Hp3 := Lib.hid hp3
   have Hpw := Lib.hid hpw
   have Hgb := Lib.hid hgb
   clear hF hl3 hp3 hpw hgb
   clear hb3 Hown Hpv
   go_wp2_with (at_builtin; refine wpList_append_own_at _ rfl _ _ 39 rfl w.heap.size 23 i0 (.slice none 0 0) 1 24 Tryz.underlying39 hi hz0 hz1 hz2 rfl (by decide) _ _ _ rfl ho3 ⟨g, 0, none⟩ v.p.length v.p.length ws rfl (by rw [hwl]; omega) hnews hone (by unfold maxLen; omega) (by omega) hsz3 ?_)
   intro v' w4 hown' hgrow _ hat
   have hkp : Keep 23 w3 w4 := Keep.of_grown ho3 hgrow
   have hp4 := (Hp3.out.keep (by decide) hkp).append (Hpw.out.keep (by decide) hkp)
   have hb4 : Below w.heap.size w w4 := hbw3.grown hgrow hsz3 (fun b hb => HLO.out b hb)
   rw [show ss.length + v.p.length = (ss ++ v.p).length by simp, ← Hsn.out] at hown'
   rw [← Hsn.out] at hp4
   have Hown' := Lib.hid hown'
   have Hp4 := Lib.hid hp4
   clear hown' hp4
   clear hkp hgrow hat ho3 HLO hnews hone hwl
   go_wp2_with fail
   go_roundw
   case rel => exact ⟨k + 1, vs ++ ws, by omega, by go_num, Hown'.out, Hp4.out, hb4⟩
   case measure => simp [intOf]; omega
  ·obtain rfl : k = n.nodes.length := by omega
   rw [List.take_length] at *
   have hps : ∀ s ∈ n.nodes.flatMap (·.p), s.length ≤ 1048576 := fun s hs => by
    obtain ⟨v, hv, hs⟩ := List.mem_flatMap.1 hs
    exact (Hok.out.2.2 v hv).2.2.2.2.1 s hs
   obtain ⟨A', c', e, -, q1, q2, q3⟩ := hpv.shps hown hps
   injection e with e1 e2 e3
   subst e1 e3
   have hdef : Nt.params n = n.nodes.flatMap (·.p) := rfl
   have Hown := Lib.hid hown
   have Hpv := Lib.hid hpv
   have Hps := Lib.hid hps
   have Hq1 := Lib.hid q1
   have Hq2 := Lib.hid q2
   have Hq3 := Lib.hid q3
   have Hdef := Lib.hid hdef
   clear hown hpv hps q1 q2 q3 hdef
   clear e2
   go_wp2_with fail
   go_ret
   exact ⟨Ao, co, by (rw [Hdef.out] <;> rfl), by rw [Hdef.out]; exact Hq1.out, by rw [Hdef.out]; exact Hq2.out, Hq3.out, hbw⟩
theorem ids_at {n k : Nat} (hk : k < n) : (Kn.ids n)[k]? = some ((k : Int) + 1) := by
 induction n with
 | zero => omega
 | succ n ih =>
  rw [Kn.ids_succ]
  by_cases h : k < n
  ·rw [List.getElem?_append_left (by rw [Kn.ids_length]; exact h)]; exact ih h
  ·obtain rfl : k = n := by omega
   rw [List.getElem?_append_right (by rw [Kn.ids_length]; exact Nat.le_refl _), Kn.ids_length]; simp
theorem ids_mem {n : Nat} {u : Int} (h : u ∈ Kn.ids n) : 1 ≤ u ∧ u ≤ n := by
 obtain ⟨k, hk, rfl⟩ := List.getElem_of_mem h
 rw [Kn.ids_length] at hk
 have := ids_at hk
 rw [List.getElem?_eq_getElem (by rw [Kn.ids_length]; exact hk)] at this
 injection this with this
 rw [this]; omega
theorem ids_asc (n : Nat) : (Kn.ids n).Pairwise (· < ·) := by
 induction n with
 | zero => exact List.Pairwise.nil
 | succ n ih =>
  rw [Kn.ids_succ, List.pairwise_append]
  exact ⟨ih, List.pairwise_singleton _ _, fun a ha b hb => by have := (ids_mem ha).2; simp at hb; omega⟩
theorem users_mem {n : NetD} {id u : Int} (h : u ∈ Nt.users n id) : 1 ≤ u ∧ u ≤ n.nodes.length ∧ hasB (Nt.insF n.nodes u) id = true := by
 unfold Nt.users at h
 obtain ⟨h1, h2⟩ := List.mem_filter.1 h
 exact ⟨(ids_mem h1).1, (ids_mem h1).2, h2⟩
theorem users_up {n : NetD} {id : Int} {k : Nat} (hk : k < (Nt.users n id).length) : ((Nt.users n id).take k).getLastD 0 < (Nt.users n id)[k] := by
 have hp : (Nt.users n id).Pairwise (· < ·) := (ids_asc _).filter _
 by_cases h0 : k = 0
 ·subst h0
  have := (users_mem (List.getElem_mem hk)).1
  simp; omega
 ·rw [List.getLastD_eq_getLast?, List.getLast?_take, if_neg h0]
  rw [List.getElem?_eq_getElem (by omega)]
  simp only [Option.some_or, Option.getD_some]
  exact List.pairwise_iff_getElem.1 hp _ _ _ _ (by omega)
theorem params_at {n : NetD} {k m : Nat} (hk : k < n.nodes.length) (hm : m < n.nodes[k].p.length) : ((n.nodes.take k).flatMap (·.p)).length + m < (Nt.params n).length ∧ (Nt.params n)[((n.nodes.take k).flatMap (·.p)).length + m]? = some n.nodes[k].p[m] := by
 have e : Nt.params n = (n.nodes.take k).flatMap (·.p) ++ (n.nodes[k].p ++ (n.nodes.drop (k + 1)).flatMap (·.p)) := by
  unfold Nt.params
  conv => lhs; rw [← List.take_append_drop k n.nodes, List.drop_eq_getElem_cons hk, List.flatMap_append, List.flatMap_cons]
 rw [e]
 refine ⟨by simp only [List.length_append]; omega, ?_⟩
 rw [List.getElem?_append_right (by omega), Nat.add_sub_cancel_left, List.getElem?_append_left hm, List.getElem?_eq_getElem hm]
end Go.Proofs.YtbnnpkcfifejmabGreat
namespace Go.Proofs.YtbnnpkcfifejmabGreat
open Go.RowKit
theorem or_i64_nat (a b : Nat) (ha : a < 2 ^ 62) (hb : b < 2 ^ 62) : bits .or .i64 (a : Int) (b : Int) = ((a ||| b : Nat) : Int) := by
 have hx : a ||| b < 2 ^ 62 := Nat.or_lt_two_pow ha hb
 have h1 : (BitVec.ofInt 64 (a : Int)).toNat = a := by
  rw [BitVec.ofInt_natCast, BitVec.toNat_ofNat]; exact Nat.mod_eq_of_lt (by omega)
 have h2 : (BitVec.ofInt 64 (b : Int)).toNat = b := by
  rw [BitVec.ofInt_natCast, BitVec.toNat_ofNat]; exact Nat.mod_eq_of_lt (by omega)
 show IntKind.i64.wrap ((BitVec.ofInt 64 (a : Int) ||| BitVec.ofInt 64 (b : Int)).toNat : Int) = _
 rw [BitVec.toNat_or, h1, h2, IntWalk.i64_in _ (by omega)]
theorem or_mul (a b i m : Nat) (hm : m = 2 ^ i) (h : a < m) : (b * m) ||| a = b * m + a := by
 subst hm
 rw [← Nat.shiftLeft_eq, Nat.shiftLeft_add_eq_or_of_lt h]
theorem or_byte (x y : Int) (x0 : 0 ≤ x) (x1 : x ≤ 255) (y0 : 0 ≤ y) (y1 : y ≤ 255) : bits .or .i64 (x * 256) y = x * 256 + y := by
 obtain ⟨n, rfl⟩ := Int.eq_ofNat_of_zero_le x0
 obtain ⟨m, rfl⟩ := Int.eq_ofNat_of_zero_le y0
 have e : ((n : Int) * 256) = ((n * 256 : Nat) : Int) := by omega
 rw [e, or_i64_nat _ _ (by omega) (by omega), or_mul m n 8 256 (by decide) (by omega)]
 omega
theorem or_u64_mul (a b : Nat) (ha : a * 256 + b < 18446744073709551616) (hb : b < 256) : bits .or .u64 ((a * 256 : Nat) : Int) (b : Int) = ((a * 256 + b : Nat) : Int) := by
 have h1 := bits_or_u64_nat (a * 256) b (Nat.lt_of_le_of_lt (Nat.le_add_right _ _) ha) (Nat.lt_of_le_of_lt (Nat.le_add_left _ _) ha)
 rw [h1, or_mul b a 8 256 (by decide) hb]
theorem or_u64_int (n c : Int) (n0 : 0 ≤ n) (n1 : n < 72057594037927936) (c0 : 0 ≤ c) (c1 : c ≤ 255) : bits .or .u64 (n * 256) c = n * 256 + c := by
 obtain ⟨a, rfl⟩ := Int.eq_ofNat_of_zero_le n0
 obtain ⟨b, rfl⟩ := Int.eq_ofNat_of_zero_le c0
 have e : ((a : Int) * 256) = ((a * 256 : Nat) : Int) := by omega
 rw [e, or_u64_mul a b (by omega) (by omega)]
 omega
end Go.Proofs.YtbnnpkcfifejmabGreat
namespace Go.Proofs.YtbnnpkcfifejmabGreat
open Go.RowKit
namespace Fx
def In (x : Int) : Prop := -9223372036854775808 ≤ x ∧ x ≤ 9223372036854775807
def clamp (z : Int) : Int := if 9223372036854775807 < z then 9223372036854775807 else if z < -9223372036854775808 then -9223372036854775808 else z
theorem clamp_in (z : Int) : In (clamp z) := by unfold clamp In; split <;> (try split) <;> omega
theorem clamp_id {z : Int} (h : In z) : clamp z = z := by unfold In at h; unfold clamp; split <;> (try split) <;> omega
theorem clamp_hi {z : Int} (h : 9223372036854775807 ≤ z) : clamp z = 9223372036854775807 := by unfold clamp; split <;> (try split) <;> omega
theorem clamp_lo {z : Int} (h : z ≤ -9223372036854775808) : clamp z = -9223372036854775808 := by unfold clamp; split <;> (try split) <;> omega
theorem in_zero : In 0 := by unfold In; omega
def add (x y : Int) : Int := clamp (x + y)
def rnd (p d : Nat) : Nat := if d < 2 * (p % d) ∨ (2 * (p % d) = d ∧ p / d % 2 = 1) then p / d + 1 else p / d
def neg2 (x y : Int) : Bool := decide (x < 0) != decide (y < 0)
def sgn (b : Bool) (n : Nat) : Int := if b then -(n : Int) else n
def mul (x y : Int) : Int := clamp (sgn (neg2 x y) (rnd (x.natAbs * y.natAbs) 4294967296))
def edge (b : Bool) : Int := if b then -9223372036854775808 else 9223372036854775807
def div (x y : Int) : Int := if y = 0 then (if x = 0 then 0 else edge (decide (x < 0))) else clamp (sgn (neg2 x y) (rnd (x.natAbs * 4294967296) y.natAbs))
theorem edge_in (b : Bool) : In (edge b) := by cases b <;> (unfold edge In; simp)
theorem add_in (x y : Int) : In (add x y) := clamp_in _
theorem mul_in (x y : Int) : In (mul x y) := clamp_in _
theorem div_in (x y : Int) : In (div x y) := by
 unfold div
 split
 ·split
  ·exact in_zero
  ·exact edge_in _
 ·exact clamp_in _
theorem clamp_sgn_big {b : Bool} {n : Nat} (h : 9223372036854775808 ≤ n) : clamp (sgn b n) = edge b := by
 cases b
 ·exact clamp_hi (by simp [sgn]; omega)
 ·exact clamp_lo (by simp [sgn]; omega)
theorem clamp_sgn_small {b : Bool} {n : Nat} (h : n < 9223372036854775808) : clamp (sgn b n) = sgn b n := by
 cases b <;> exact clamp_id (by unfold In; simp [sgn]; omega)
def sum (l : List Int) : Int := l.foldl add 0
def dot (a b : List Int) : Int := (a.zip b).foldl (fun s p => add s (mul p.1 p.2)) 0
theorem foldl_in {α : Type} (f : Int → α → Int) (hf : ∀ s x, In (f s x)) (l : List α) (s : Int) (hs : In s) : In (l.foldl f s) := by
 induction l generalizing s with
 | nil => exact hs
 | cons x r ih => exact ih _ (hf s x)
theorem sum_in (l : List Int) : In (sum l) := foldl_in _ (fun s x => add_in s x) _ _ in_zero
theorem dot_in (a b : List Int) : In (dot a b) := foldl_in _ (fun s x => add_in _ _) _ _ in_zero
def held (x low high : Int) : Int := if high < x then high else if x < low then low else x
theorem held_in {x low high : Int} (hx : In x) (hl : In low) (hh : In high) : In (held x low high) := by unfold held; split <;> (try split) <;> assumption
def neg (x : Int) : Int := if x = -9223372036854775808 then 9223372036854775807 else -x
end Fx
theorem wrap_neg (v : BitVec 64) : IntKind.i64.wrap (v.toNat : Int) < 0 ↔ v.msb = true := by
 have := v.isLt
 rw [IntKind.wrap_i64, BitVec.msb_eq_decide]
 simp
 omega
theorem ofInt_msb {a : Int} (h : Fx.In a) : (BitVec.ofInt 64 a).msb = decide (a < 0) := by
 unfold Fx.In at h
 rw [BitVec.msb_eq_decide, BitVec.toNat_ofInt]
 simp only [decide_eq_decide]
 omega
theorem wrap_in (n : Int) : Fx.In (IntKind.i64.wrap n) := by unfold Fx.In; rw [IntKind.wrap_i64]; omega
theorem ofInt_wrap (v : BitVec 64) : BitVec.ofInt 64 (IntKind.i64.wrap (v.toNat : Int)) = v := by
 have := v.isLt
 apply BitVec.eq_of_toNat_eq
 rw [BitVec.toNat_ofInt, IntKind.wrap_i64]
 omega
theorem xor_neg {a b : Int} (ha : Fx.In a) (hb : Fx.In b) : bits .xor .i64 a b < 0 ↔ (decide (a < 0) != decide (b < 0)) = true := by
 show IntKind.i64.wrap ((BitVec.ofInt 64 a ^^^ BitVec.ofInt 64 b).toNat : Int) < 0 ↔ _
 rw [wrap_neg, BitVec.msb_xor, ofInt_msb ha, ofInt_msb hb]
theorem bits_in (o : BinOp) (a b : Int) : Fx.In (bits o .i64 a b) := wrap_in _
theorem and_neg {a b : Int} (ha : Fx.In a) (hb : Fx.In b) : bits .and .i64 a b < 0 ↔ a < 0 ∧ b < 0 := by
 show IntKind.i64.wrap ((BitVec.ofInt 64 a &&& BitVec.ofInt 64 b).toNat : Int) < 0 ↔ _
 rw [wrap_neg, BitVec.msb_and, ofInt_msb ha, ofInt_msb hb]
 simp
theorem add_over {x y s : Int} (hx : Fx.In x) (hy : Fx.In y) (hs : s = IntKind.i64.wrap (x + y)) : bits .and .i64 (bits .xor .i64 x s) (bits .xor .i64 y s) < 0 ↔ ¬ Fx.In (x + y) := by
 have hsi : Fx.In s := by rw [hs]; exact wrap_in _
 rw [and_neg (bits_in _ _ _) (bits_in _ _ _), xor_neg hx hsi, xor_neg hy hsi]
 simp only [bne_iff_ne, ne_eq, decide_eq_decide]
 unfold Fx.In at *
 rw [IntKind.wrap_i64] at hs
 omega
theorem add_no {x y : Int} (h : Fx.In (x + y)) : IntKind.i64.wrap (x + y) = Fx.add x y := by
 unfold Fx.add
 rw [Fx.clamp_id h]
 unfold Fx.In at h
 rw [IntKind.wrap_i64]; omega
theorem add_yes {x y : Int} (hx : Fx.In x) (hy : Fx.In y) (h : ¬ Fx.In (x + y)) : Fx.add x y = Fx.edge (decide (x < 0)) := by
 unfold Fx.add
 unfold Fx.In at *
 by_cases hn : x < 0
 ·rw [Fx.clamp_lo (by omega)]; simp [Fx.edge, hn]
 ·rw [Fx.clamp_hi (by omega)]; simp [Fx.edge, hn]
end Go.Proofs.YtbnnpkcfifejmabGreat
namespace Go.Proofs.YtbnnpkcfifejmabGreat
open Go.RowKit
theorem fix_edge (b : Bool) (w : World) : Calls Tryz.prog 102 #[.bool b] w fun e w' => e = .returned (.int .i64 (Fx.edge b)) ∧ w = w' := by
 cases b
 all_goals
  go_enter Tryz.func102, Tryz.ntmps102
  go_wp2_with fail
  go_ret
  exact ⟨rfl, rfl⟩
theorem wrap64_same (n : Int) : wrap64 n = IntKind.i64.wrap n := by unfold wrap64; rw [IntKind.wrap_i64]
theorem fix_add (x y : Int) (w : World) (hx : Fx.In x) (hy : Fx.In y) : Calls Tryz.prog 63 #[.int .i64 x, .int .i64 y] w fun e w' => e = .returned (.int .i64 (Fx.add x y)) ∧ w = w' := by
 have H := Lib.hid (add_over hx hy rfl)
 by_cases h : Fx.In (x + y)
 ·have HA := Lib.hid (add_no h)
  have b1 : -9223372036854775808 ≤ x + y := h.1
  have b2 : x + y ≤ 9223372036854775807 := h.2
  have HB := Lib.hid (show IntKind.i64.wrap (x + y) = x + y from IntWalk.i64_in _ ⟨b1, b2⟩)
  have hB : 0 ≤ bits .and .i64 (bits .xor .i64 x (x + y)) (bits .xor .i64 y (x + y)) := by
   have := H.out
   rw [HB.out] at this
   exact Int.not_lt.1 fun k => (this.1 k) h
  clear H hx hy h
  go_enter Tryz.func63, Tryz.ntmps63
  go_wp2_with fail
  go_ret
  exact ⟨ret_int (by rw [← HA.out, HB.out]), rfl⟩
 ·have HA := Lib.hid (add_yes hx hy h)
  have hB : bits .and .i64 (bits .xor .i64 x (wrap64 (x + y))) (bits .xor .i64 y (wrap64 (x + y))) < 0 := by
   rw [wrap64_same]
   exact H.out.2 h
  clear H hx hy
  have Hh := Lib.hid h
  clear h
  go_enter Tryz.func63, Tryz.ntmps63
  go_wp2_with fail
  refine (fix_edge _ _).mono ?_
  rintro e w1 ⟨rfl, rfl⟩
  go_wp2_with fail
  go_ret
  exact ⟨ret_int HA.out.symm, rfl⟩
theorem fix_size (x : Int) (w : World) (hx : Fx.In x) : Calls Tryz.prog 109 #[.int .i64 x] w fun e w' => e = .returned (.int .u64 (x.natAbs : Int)) ∧ w = w' := by
 obtain ⟨h1, h2⟩ := hx
 by_cases h : x < 0
 ·have e : IntKind.u64.wrap (-IntKind.u64.wrap x) = (x.natAbs : Int) := by rw [IntKind.wrap_u64, IntKind.wrap_u64]; omega
  have E := Lib.hid e
  clear e
  go_enter Tryz.func109, Tryz.ntmps109
  go_wp2_with fail
  go_ret
  exact ⟨ret_int E.out, rfl⟩
 ·have E := Lib.hid (show x = (x.natAbs : Int) by omega)
  go_enter Tryz.func109, Tryz.ntmps109
  go_wp2_with fail
  go_ret
  exact ⟨ret_int E.out, rfl⟩
theorem fix_signed_int (q : Int) (b : Bool) (w : World) (h0 : 0 ≤ q) (hq : q < 18446744073709551616) : Calls Tryz.prog 110 #[.int .u64 q, .bool b] w fun e w' => e = .returned (.int .i64 (Fx.clamp (Fx.sgn b q.toNat))) ∧ w = w' := by
 by_cases h : 9223372036854775808 ≤ q
 ·have HE := Lib.hid (Fx.clamp_sgn_big (b := b) (n := q.toNat) (by omega))
  cases b
  all_goals
   go_enter Tryz.func110, Tryz.ntmps110
   go_wp2_with fail
   refine (fix_edge _ _).mono ?_
   rintro e w1 ⟨rfl, rfl⟩
   go_wp2_with fail
   go_ret
   exact ⟨ret_int HE.out.symm, rfl⟩
 ·have HE := fun b => Fx.clamp_sgn_small (b := b) (n := q.toNat) (by omega)
  have E1 := Lib.hid (HE true)
  have E2 := Lib.hid (HE false)
  clear HE
  have hq2 : q ≤ 9223372036854775807 := by omega
  clear hq h
  cases b
  ·have E := Lib.hid (show q = Fx.sgn false q.toNat by simp [Fx.sgn]; omega)
   go_enter Tryz.func110, Tryz.ntmps110
   go_wp2_with fail
   go_ret
   exact ⟨ret_int (by rw [E2.out]; exact E.out), rfl⟩
  ·have E := Lib.hid (show -q = Fx.sgn true q.toNat by simp [Fx.sgn]; omega)
   go_enter Tryz.func110, Tryz.ntmps110
   go_wp2_with fail
   go_ret
   exact ⟨ret_int (by rw [E1.out]; exact E.out), rfl⟩
theorem fix_signed (q : Nat) (b : Bool) (w : World) (hq : (q : Int) < 18446744073709551616) : Calls Tryz.prog 110 #[.int .u64 q, .bool b] w fun e w' => e = .returned (.int .i64 (Fx.clamp (Fx.sgn b q))) ∧ w = w' := fix_signed_int q b w (by omega) hq
end Go.Proofs.YtbnnpkcfifejmabGreat
