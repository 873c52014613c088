/- The reference of layer 10: Shape: contract, kind by kind (printed by gen/refshape.py). -/
import Derived.Test.YtjkhpbngpceenaaRefU
import Derived.Test.YtjkhpbngpceenaaNetS
namespace Go.Proofs.Ytjkhpbngpceenaa
open Go.RowKit
theorem Shps.each {w : World} {b off : Nat} {xs : List (List Int)} (h : Shps w (some ⟨b, off, none⟩) xs) {k : Nat} (hk : k < xs.length) :
    ∃ S c, w.cell? ⟨b, off + k, none⟩ = some (.slice S xs[k].length c) ∧ Ints .i64 w S xs[k] ∧ xs[k].length ≤ c ∧ c ≤ 9223372036854775807 := by
  obtain ⟨b', o', S, c, e, -, hc, hI, h1, h2⟩ := h k hk
  injection e with e
  injection e with e1 e2
  subst e1 e2
  exact ⟨S, c, hc, hI, h1, h2⟩
theorem Ints.at_ {k : IntKind} {w : World} {b off : Nat} {zs : List Int} (h : Ints k w (some ⟨b, off, none⟩) zs) {j : Nat} (hj : j < zs.length) : w.cell? ⟨b, off + j, none⟩ = some (.int k zs[j]) := by
  obtain ⟨b', o', e, -, hc⟩ := h j hj
  injection e with e
  injection e with e1 e2
  subst e1 e2
  rw [hc, getD_at hj]
theorem RefP.err {r : List Int × Int} {w w' : World} {n : Int} (h : r = ([], n)) (hb : Below w.heap.size w w') : RefP r w (.returned (.tuple #[.slice none 0 0, .int .i64 n])) w' :=
  ⟨none, 0, by rw [h]; rfl, by rw [h]; exact Ints.nil, by rw [h]; exact Nat.le_refl _, by omega, hb⟩
theorem RefP.ok {r : List Int × Int} {w w' : World} {S : Option Addr} {s : List Int} {c n : Nat} (h : r = (s, 0)) (hn : s.length = n) (hI : Ints .i64 w' S s) (h1 : s.length ≤ c) (h2 : c ≤ 9223372036854775807) (hb : Below w.heap.size w w') : RefP r w (.returned (.tuple #[.slice S n c, .int .i64 0])) w' := by
  subst hn
  exact ⟨S, c, by rw [h], by rw [h]; exact hI, by rw [h]; exact h1, h2, hb⟩
theorem Bdrawn2 {B : Nat} {a w : World} (h : Below B a w) (n m : Nat) : Below B a ((w.drewN n).drewN m) := Bdrawn (Bdrawn h n) m
theorem list_two {l : List Int} (h : l.length = 2) : ∃ a b, l = [a, b] := by
  match l, h with
  | [a, b], _ => exact ⟨a, b, rfl⟩
theorem list_one' {l : List Int} (h : l.length = 1) : ∃ x, l = [x] := by
  match l, h with
  | [x], _ => exact ⟨x, rfl⟩
set_option maxRecDepth 20000 in
set_option maxHeartbeats 8000000 in
theorem ref10_shape_pt (o : OpD) (S P X : Option Addr) (c d f : Nat) (p x : List (List Int)) (w : World) (hk : o.kind ≤ 7) (ho : o.s.length ≤ 1099511627776) (hsc : o.s.length ≤ c) (hsm : c ≤ 9223372036854775807) (hw : o.wide) (hS : Ints .i64 w S o.s) (hP : Shps w P p) (hX : Shps w X x) (hxl : x.length ≤ 1048576) (h1 : 1 ≤ x.length) (hp : ∀ s ∈ p, Sh.right s = true) (hx : ∀ s ∈ x, Sh.right s = true) :
    Calls Try.prog 63 #[.agg #[.int .i64 o.kind, .int .i64 o.k, .int .i64 o.width, .int .i64 o.step, .int .i64 o.side, .int .i64 o.frm, .int .i64 o.to, .slice S o.s.length c], .slice P p.length d, .slice X x.length f] w (RefP (Od.byKind o p x) w) := by
  have hq : Od.byKind o p x = Od.same x := by unfold Od.byKind; rw [if_neg (by omega), if_neg (by omega), if_neg (by omega), if_neg (by omega), if_neg (by omega), if_neg (by omega), if_neg (by omega)]
  obtain ⟨bx, ox, S0, c0, rfl, -⟩ := hX 0 h1
  have hb0 : Below w.heap.size w (w.alloc (.cells #[.int .i64 o.kind, .int .i64 o.k, .int .i64 o.width, .int .i64 o.step, .int .i64 o.side, .int .i64 o.frm, .int .i64 o.to, .slice S o.s.length c] 72)) := (Below.refl _ _).alloc (Nat.le_refl _) _
  have hk0 := Blk.new w 72 #[.int .i64 o.kind, .int .i64 o.k, .int .i64 o.width, .int .i64 o.step, .int .i64 o.side, .int .i64 o.frm, .int .i64 o.to, .slice S o.s.length c]
  obtain ⟨z0, z1, z2, z3, z4, z5, z6, z7⟩ := op_cells hk0
  have hX1 := hX.below hb0 (Nat.le_refl _)
  have hP1 := hP.below hb0 (Nat.le_refl _)
  have hS1 := hS.below hb0 (Nat.le_refl _)
  have hr0 := hx x[0] (List.getElem_mem h1)
  have hx0 : x.getD 0 [] = x[0] := gets_at h1
  first | rw [hx0] at hq | skip
  have e1 : decide (o.kind ≤ 7) = true := by simpa using hk
  clear hk
  have Hk0 := Lib.hid hk0
  have HX := Lib.hid hX
  have HP := Lib.hid hP
  have HS := Lib.hid hS
  have Hp := Lib.hid hp
  have Hx := Lib.hid hx
  clear hk0 hX hP hS hp hx
  go_enter Try.func63, Try.ntmps63
  go_upto_region 1 with fail
  generalize (w.alloc (.cells #[.int .i64 o.kind, .int .i64 o.k, .int .i64 o.width, .int .i64 o.step, .int .i64 o.side, .int .i64 o.frm, .int .i64 o.to, .slice S o.s.length c] 72)) = w1 at *
  obtain ⟨S0', c0', y0, hI0, hc0, hm0⟩ := hX1.each h1
  rw [Nat.add_zero] at y0
  clear S0
  generalize hs0 : x[0] = s0 at *
  have hbs := (Sh.right_mul hr0).2.2.2.1
  obtain ⟨s3, s4⟩ := right_short hr0
  have HX1 := Lib.hid hX1
  have HP1 := Lib.hid hP1
  have HS1 := Lib.hid hS1
  have HI0 := Lib.hid hI0
  have Hr0 := Lib.hid hr0
  have Hq := Lib.hid hq
  have Hx0 := Lib.hid hx0
  have Hs0 := Lib.hid hs0
  have Hbs := Lib.hid hbs
  have Hw := Lib.hid hw
  clear hX1 hP1 hS1 hI0 hr0 hq hx0 hs0 hbs hw
  go_wp2_with fail
  refine (ref03_size S0' c0' s0 w1 Hr0.out HI0.out).mono ?_
  rintro e w2 ⟨rfl, rfl⟩
  go_wp2_with fail
  go_loopw [10] (fun i wx => ∃ k q : Nat, k ≤ x.length ∧ i = .int .i64 (k : Int) ∧ (∀ j (hj : j < x.length), j < k → x[j] = s0) ∧ wx = w1.drewN q) (fun i _ => x.length - (intOf i).toNat)
  case atStart => exact ⟨0, 0, Nat.zero_le _, rfl, fun j hj h => by omega, rfl⟩
  case round =>
    obtain ⟨k, q, hk, rfl, hall, rfl⟩ := hrel
    by_cases hlt : k < x.length
    · obtain ⟨Sk, ck, yk, hIk, hck, hmk⟩ := HX1.out.each hlt
      have k0 : (0 : Int) ≤ (k : Int) := by omega
      have k1 : (k : Int) < (x.length : Int) := by omega
      have hgo : x[k] = s0 → ∀ j (hj : j < x.length), j < k + 1 → x[j] = s0 := fun e j hj hjk => by
        by_cases h : j = k
        · subst h; exact e
        · exact hall j hj (by omega)
      have hno : x[k] ≠ s0 → Od.same x = ([], 20) := fun e => by
        unfold Od.same
        rw [if_neg]
        rw [List.all_eq_true]
        intro h
        have := h x[k] (List.getElem_mem hlt)
        rw [Hx0.out] at this
        exact e (by simpa using this)
      have hxk := Hx.out x[k] (List.getElem_mem hlt)
      obtain ⟨a3, a4⟩ := right_short hxk
      generalize x[k] = t at *
      have HIk := Lib.hid hIk
      have Hall := Lib.hid hall
      have Hgo := Lib.hid hgo
      have Hno := Lib.hid hno
      have Hxk := Lib.hid hxk
      clear hIk hall hgo hno hxk
      go_wp2_with fail
      refine (ref03_same Sk S0' ck c0' t s0 _ (by omega) (by omega) (HIk.out.drewN q) (HI0.out.drewN q)).mono ?_
      rintro e w3 ⟨rfl, q2, rfl⟩
      by_cases he : t = s0
      · have e1 : decide (t = s0) = true := by simpa using he
        have HG := Lib.hid (Hgo.out he)
        rw [e1]
        clear he e1
        go_wp2_with fail
        go_roundw
        case rel => exact ⟨k + 1, _, by omega, by go_num, HG.out, by first | rfl | exact World.drewN_drewN _ _ _⟩
        case measure => simp [intOf]; omega
      · have e1 : decide (t = s0) = false := by simpa using he
        have HN := Lib.hid (Hq.out.trans (Hno.out he))
        rw [e1]
        clear he e1
        go_wp2_with fail
        go_ret2
        exact RefP.err HN.out (by first | exact Bdrawn2 hb0 _ _ | exact Bdrawn hb0 _)
    · obtain rfl : k = x.length := by omega
      have HN := Lib.hid (Hq.out.trans (show Od.same x = (s0, 0) by
        unfold Od.same
        rw [Hx0.out, if_pos]
        rw [List.all_eq_true]
        intro t ht
        obtain ⟨j, hj, rfl⟩ := List.getElem_of_mem ht
        simpa using hall j hj hj))
      clear hall
      go_wp2_with fail
      go_ret2
      exact RefP.ok HN.out rfl (HI0.out.drewN q) hc0 hm0 (by first | exact Bdrawn2 hb0 _ _ | exact Bdrawn hb0 _)

set_option maxRecDepth 20000 in
set_option maxHeartbeats 8000000 in
theorem ref10_shape_scale (o : OpD) (S P X : Option Addr) (c d f : Nat) (p x : List (List Int)) (w : World) (hk : o.kind = 9) (hpl : p.length = 1) (ho : o.s.length ≤ 1099511627776) (hsc : o.s.length ≤ c) (hsm : c ≤ 9223372036854775807) (hw : o.wide) (hS : Ints .i64 w S o.s) (hP : Shps w P p) (hX : Shps w X x) (hxl : x.length ≤ 1048576) (h1 : 1 ≤ x.length) (hp : ∀ s ∈ p, Sh.right s = true) (hx : ∀ s ∈ x, Sh.right s = true) :
    Calls Try.prog 63 #[.agg #[.int .i64 o.kind, .int .i64 o.k, .int .i64 o.width, .int .i64 o.step, .int .i64 o.side, .int .i64 o.frm, .int .i64 o.to, .slice S o.s.length c], .slice P p.length d, .slice X x.length f] w (RefP (Od.byKind o p x) w) := by
  have hq : Od.byKind o p x = Od.same [p.getD 0 [], x.getD 0 []] := by unfold Od.byKind; simp [hk]
  obtain ⟨bx, ox, S0, c0, rfl, -⟩ := hX 0 h1
  obtain ⟨bp, op, T0, d0, rfl, -⟩ := hP 0 (by omega)
  have hb0 : Below w.heap.size w (w.alloc (.cells #[.int .i64 o.kind, .int .i64 o.k, .int .i64 o.width, .int .i64 o.step, .int .i64 o.side, .int .i64 o.frm, .int .i64 o.to, .slice S o.s.length c] 72)) := (Below.refl _ _).alloc (Nat.le_refl _) _
  have hk0 := Blk.new w 72 #[.int .i64 o.kind, .int .i64 o.k, .int .i64 o.width, .int .i64 o.step, .int .i64 o.side, .int .i64 o.frm, .int .i64 o.to, .slice S o.s.length c]
  obtain ⟨z0, z1, z2, z3, z4, z5, z6, z7⟩ := op_cells hk0
  have hX1 := hX.below hb0 (Nat.le_refl _)
  have hP1 := hP.below hb0 (Nat.le_refl _)
  have hS1 := hS.below hb0 (Nat.le_refl _)
  have hr0 := hx x[0] (List.getElem_mem h1)
  have hx0 : x.getD 0 [] = x[0] := gets_at h1
  first | rw [hx0] at hq | skip
  have hrp := hp p[0] (List.getElem_mem (by omega))
  have hp0 : p.getD 0 [] = p[0] := gets_at (by omega)
  first | rw [hp0] at hq | skip
  have l7 : decide (o.kind ≤ 7) = false := by simp; omega
  have e8 : (o.kind == 8) = false := by simp; omega
  have e9 : (o.kind == 9) = true := by simp; omega
  clear hk
  have Hk0 := Lib.hid hk0
  have HX := Lib.hid hX
  have HP := Lib.hid hP
  have HS := Lib.hid hS
  have Hp := Lib.hid hp
  have Hx := Lib.hid hx
  clear hk0 hX hP hS hp hx
  go_enter Try.func63, Try.ntmps63
  go_upto_region 1 with fail
  generalize (w.alloc (.cells #[.int .i64 o.kind, .int .i64 o.k, .int .i64 o.width, .int .i64 o.step, .int .i64 o.side, .int .i64 o.frm, .int .i64 o.to, .slice S o.s.length c] 72)) = w1 at *
  obtain ⟨S0', c0', y0, hI0, hc0, hm0⟩ := hX1.each h1
  rw [Nat.add_zero] at y0
  obtain ⟨T0', d0', v0, hJ0, hd0, hn0⟩ := hP1.each (show 0 < p.length by omega)
  rw [Nat.add_zero] at v0
  clear T0
  clear S0
  generalize hs0 : x[0] = s0 at *
  generalize hsp : p[0] = t0 at *
  obtain ⟨q3, q4⟩ := right_short hrp
  have hbs := (Sh.right_mul hr0).2.2.2.1
  obtain ⟨s3, s4⟩ := right_short hr0
  have HX1 := Lib.hid hX1
  have HP1 := Lib.hid hP1
  have HS1 := Lib.hid hS1
  have HI0 := Lib.hid hI0
  have Hr0 := Lib.hid hr0
  have Hq := Lib.hid hq
  have Hx0 := Lib.hid hx0
  have Hs0 := Lib.hid hs0
  have Hbs := Lib.hid hbs
  have Hw := Lib.hid hw
  have HJ0 := Lib.hid hJ0
  have Hrp := Lib.hid hrp
  have Hp0 := Lib.hid hp0
  have Hsp := Lib.hid hsp
  clear hX1 hP1 hS1 hI0 hr0 hq hx0 hs0 hbs hw hJ0 hrp hp0 hsp
  go_wp2_with fail
  refine (ref03_size S0' c0' s0 w1 Hr0.out HI0.out).mono ?_
  rintro e w2 ⟨rfl, rfl⟩
  go_wp2_with fail
  refine (ref03_same T0' S0' d0' c0' t0 s0 _ (by omega) (by omega) HJ0.out HI0.out).mono ?_
  rintro e w3 ⟨rfl, q2, rfl⟩
  by_cases he : t0 = s0
  · have e1 : decide (t0 = s0) = true := by simpa using he
    have HN := Lib.hid (Hq.out.trans (show Od.same [t0, s0] = (s0, 0) by simp [Od.same, he]))
    rw [e1]
    clear he e1
    go_wp2_with fail
    go_ret2
    exact RefP.ok HN.out rfl (HI0.out.drewN q2) hc0 hm0 (Bdrawn hb0 _)
  · have e1 : decide (t0 = s0) = false := by simpa using he
    have HN := Lib.hid (Hq.out.trans (show Od.same [t0, s0] = ([], 20) by
      unfold Od.same
      rw [if_neg]
      simp
      intro e
      exact he e.symm))
    rw [e1]
    clear he e1
    go_wp2_with fail
    go_ret2
    exact RefP.err HN.out (Bdrawn hb0 _)

set_option maxRecDepth 20000 in
set_option maxHeartbeats 8000000 in
theorem ref10_shape_join (o : OpD) (S P X : Option Addr) (c d f : Nat) (p x : List (List Int)) (w : World) (hk : o.kind = 13) (ho : o.s.length ≤ 1099511627776) (hsc : o.s.length ≤ c) (hsm : c ≤ 9223372036854775807) (hw : o.wide) (hS : Ints .i64 w S o.s) (hP : Shps w P p) (hX : Shps w X x) (hxl : x.length ≤ 1048576) (h1 : 1 ≤ x.length) (hp : ∀ s ∈ p, Sh.right s = true) (hx : ∀ s ∈ x, Sh.right s = true) :
    Calls Try.prog 63 #[.agg #[.int .i64 o.kind, .int .i64 o.k, .int .i64 o.width, .int .i64 o.step, .int .i64 o.side, .int .i64 o.frm, .int .i64 o.to, .slice S o.s.length c], .slice P p.length d, .slice X x.length f] w (RefP (Od.byKind o p x) w) := by
  have hq : Od.byKind o p x = Od.joined o.side x := by unfold Od.byKind; simp [hk]
  obtain ⟨bx, ox, S0, c0, rfl, -⟩ := hX 0 h1
  have hb0 : Below w.heap.size w (w.alloc (.cells #[.int .i64 o.kind, .int .i64 o.k, .int .i64 o.width, .int .i64 o.step, .int .i64 o.side, .int .i64 o.frm, .int .i64 o.to, .slice S o.s.length c] 72)) := (Below.refl _ _).alloc (Nat.le_refl _) _
  have hk0 := Blk.new w 72 #[.int .i64 o.kind, .int .i64 o.k, .int .i64 o.width, .int .i64 o.step, .int .i64 o.side, .int .i64 o.frm, .int .i64 o.to, .slice S o.s.length c]
  obtain ⟨z0, z1, z2, z3, z4, z5, z6, z7⟩ := op_cells hk0
  have hX1 := hX.below hb0 (Nat.le_refl _)
  have hP1 := hP.below hb0 (Nat.le_refl _)
  have hS1 := hS.below hb0 (Nat.le_refl _)
  have hr0 := hx x[0] (List.getElem_mem h1)
  have hx0 : x.getD 0 [] = x[0] := gets_at h1
  first | rw [hx0] at hq | skip
  have l7 : decide (o.kind ≤ 7) = false := by simp; omega
  have l12 : decide (o.kind ≤ 12) = false := by simp; omega
  have e8 : (o.kind == 8) = false := by simp; omega
  have e9 : (o.kind == 9) = false := by simp; omega
  have e10 : (o.kind == 10) = false := by simp; omega
  have e13 : (o.kind == 13) = true := by simp; omega
  clear hk
  have Hk0 := Lib.hid hk0
  have HX := Lib.hid hX
  have HP := Lib.hid hP
  have HS := Lib.hid hS
  have Hp := Lib.hid hp
  have Hx := Lib.hid hx
  clear hk0 hX hP hS hp hx
  go_enter Try.func63, Try.ntmps63
  go_upto_region 1 with fail
  generalize (w.alloc (.cells #[.int .i64 o.kind, .int .i64 o.k, .int .i64 o.width, .int .i64 o.step, .int .i64 o.side, .int .i64 o.frm, .int .i64 o.to, .slice S o.s.length c] 72)) = w1 at *
  obtain ⟨S0', c0', y0, hI0, hc0, hm0⟩ := hX1.each h1
  rw [Nat.add_zero] at y0
  clear S0
  generalize hs0 : x[0] = s0 at *
  have hbs := (Sh.right_mul hr0).2.2.2.1
  obtain ⟨s3, s4⟩ := right_short hr0
  have HX1 := Lib.hid hX1
  have HP1 := Lib.hid hP1
  have HS1 := Lib.hid hS1
  have HI0 := Lib.hid hI0
  have Hr0 := Lib.hid hr0
  have Hq := Lib.hid hq
  have Hx0 := Lib.hid hx0
  have Hs0 := Lib.hid hs0
  have Hbs := Lib.hid hbs
  have Hw := Lib.hid hw
  clear hX1 hP1 hS1 hI0 hr0 hq hx0 hs0 hbs hw
  go_wp2_with fail
  refine (ref03_size S0' c0' s0 w1 Hr0.out HI0.out).mono ?_
  rintro e w2 ⟨rfl, rfl⟩
  go_wp2_with fail
  refine (ref10_joined o.side (some ⟨bx, ox, none⟩) f x _ HX1.out hxl h1 Hx.out).mono ?_
  rintro e w3 ⟨S9, c9, rfl, hI9, h91, h92, hb9⟩
  have hb10 := hb0.trans (hb9.mono hb0.size)
  have hqe := Hq.out
  generalize Od.joined o.side x = r at *
  have HI9 := Lib.hid hI9
  have Hqe := Lib.hid hqe
  clear hI9 hqe
  go_wp2_with fail
  go_ret2
  exact ⟨S9, c9, by rw [Hqe.out]; rfl, by rw [Hqe.out]; exact HI9.out, by rw [Hqe.out]; exact h91, h92, hb10⟩

set_option maxRecDepth 20000 in
set_option maxHeartbeats 8000000 in
theorem ref10_shape_turn (o : OpD) (S P X : Option Addr) (c d f : Nat) (p x : List (List Int)) (w : World) (hk : o.kind = 15) (ho : o.s.length ≤ 1099511627776) (hsc : o.s.length ≤ c) (hsm : c ≤ 9223372036854775807) (hw : o.wide) (hS : Ints .i64 w S o.s) (hP : Shps w P p) (hX : Shps w X x) (hxl : x.length ≤ 1048576) (h1 : 1 ≤ x.length) (hp : ∀ s ∈ p, Sh.right s = true) (hx : ∀ s ∈ x, Sh.right s = true) :
    Calls Try.prog 63 #[.agg #[.int .i64 o.kind, .int .i64 o.k, .int .i64 o.width, .int .i64 o.step, .int .i64 o.side, .int .i64 o.frm, .int .i64 o.to, .slice S o.s.length c], .slice P p.length d, .slice X x.length f] w (RefP (Od.byKind o p x) w) := by
  have hq : Od.byKind o p x = Od.turned (x.getD 0 []) o.s := by unfold Od.byKind; simp [hk]
  obtain ⟨bx, ox, S0, c0, rfl, -⟩ := hX 0 h1
  have hb0 : Below w.heap.size w (w.alloc (.cells #[.int .i64 o.kind, .int .i64 o.k, .int .i64 o.width, .int .i64 o.step, .int .i64 o.side, .int .i64 o.frm, .int .i64 o.to, .slice S o.s.length c] 72)) := (Below.refl _ _).alloc (Nat.le_refl _) _
  have hk0 := Blk.new w 72 #[.int .i64 o.kind, .int .i64 o.k, .int .i64 o.width, .int .i64 o.step, .int .i64 o.side, .int .i64 o.frm, .int .i64 o.to, .slice S o.s.length c]
  obtain ⟨z0, z1, z2, z3, z4, z5, z6, z7⟩ := op_cells hk0
  have hX1 := hX.below hb0 (Nat.le_refl _)
  have hP1 := hP.below hb0 (Nat.le_refl _)
  have hS1 := hS.below hb0 (Nat.le_refl _)
  have hr0 := hx x[0] (List.getElem_mem h1)
  have hx0 : x.getD 0 [] = x[0] := gets_at h1
  first | rw [hx0] at hq | skip
  have l7 : decide (o.kind ≤ 7) = false := by simp; omega
  have l12 : decide (o.kind ≤ 12) = false := by simp; omega
  have e8 : (o.kind == 8) = false := by simp; omega
  have e9 : (o.kind == 9) = false := by simp; omega
  have e10 : (o.kind == 10) = false := by simp; omega
  have e13 : (o.kind == 13) = false := by simp; omega
  have e14 : (o.kind == 14) = false := by simp; omega
  clear hk
  have Hk0 := Lib.hid hk0
  have HX := Lib.hid hX
  have HP := Lib.hid hP
  have HS := Lib.hid hS
  have Hp := Lib.hid hp
  have Hx := Lib.hid hx
  clear hk0 hX hP hS hp hx
  go_enter Try.func63, Try.ntmps63
  go_upto_region 1 with fail
  generalize (w.alloc (.cells #[.int .i64 o.kind, .int .i64 o.k, .int .i64 o.width, .int .i64 o.step, .int .i64 o.side, .int .i64 o.frm, .int .i64 o.to, .slice S o.s.length c] 72)) = w1 at *
  obtain ⟨S0', c0', y0, hI0, hc0, hm0⟩ := hX1.each h1
  rw [Nat.add_zero] at y0
  clear S0
  generalize hs0 : x[0] = s0 at *
  have hbs := (Sh.right_mul hr0).2.2.2.1
  obtain ⟨s3, s4⟩ := right_short hr0
  have HX1 := Lib.hid hX1
  have HP1 := Lib.hid hP1
  have HS1 := Lib.hid hS1
  have HI0 := Lib.hid hI0
  have Hr0 := Lib.hid hr0
  have Hq := Lib.hid hq
  have Hx0 := Lib.hid hx0
  have Hs0 := Lib.hid hs0
  have Hbs := Lib.hid hbs
  have Hw := Lib.hid hw
  clear hX1 hP1 hS1 hI0 hr0 hq hx0 hs0 hbs hw
  go_wp2_with fail
  refine (ref03_size S0' c0' s0 w1 Hr0.out HI0.out).mono ?_
  rintro e w2 ⟨rfl, rfl⟩
  go_wp2_with fail
  refine (ref03_right S c o.s _ (by omega) HS1.out).mono ?_
  rintro e w3 ⟨rfl, rfl⟩
  by_cases hr : Sh.right o.s = true
  · rw [hr]
    have hn := Hq.out
    unfold Od.turned at hn
    rw [Hr0.out, hr, Bool.true_and, Bool.true_and] at hn
    have HRS := Lib.hid hr
    have HN := Lib.hid hn
    clear hr hn
    go_wp2_with fail
    refine (ref03_size S c o.s _ HRS.out HS1.out).mono ?_
    rintro e w3 ⟨rfl, rfl⟩
    by_cases he : Safe.prod o.s = Safe.prod s0
    · have e1 : (Safe.prod o.s != Safe.prod s0) = false := by simp [he]
      have HM := Lib.hid (HN.out.trans (if_pos (decide_eq_true he)))
      clear he
      go_wp2_with fail
      go_ret2
      exact RefP.ok HM.out rfl HS1.out hsc hsm hb0
    · have e1 : (Safe.prod o.s != Safe.prod s0) = true := by simp [he]
      have HM := Lib.hid (HN.out.trans (if_neg (by simpa using he)))
      clear he
      go_wp2_with fail
      go_ret2
      exact RefP.err HM.out hb0
  · have hr' : Sh.right o.s = false := by simpa using hr
    rw [hr']
    have HM := Lib.hid (Hq.out.trans (show Od.turned s0 o.s = ([], 20) by unfold Od.turned; rw [hr']; simp))
    clear hr hr'
    go_wp2_with fail
    go_ret2
    exact RefP.err HM.out hb0

set_option maxRecDepth 20000 in
set_option maxHeartbeats 8000000 in
theorem ref10_shape_pool (o : OpD) (S P X : Option Addr) (c d f : Nat) (p x : List (List Int)) (w : World) (hk : o.kind = 11 ∨ o.kind = 12) (ho : o.s.length ≤ 1099511627776) (hsc : o.s.length ≤ c) (hsm : c ≤ 9223372036854775807) (hw : o.wide) (hS : Ints .i64 w S o.s) (hP : Shps w P p) (hX : Shps w X x) (hxl : x.length ≤ 1048576) (h1 : 1 ≤ x.length) (hp : ∀ s ∈ p, Sh.right s = true) (hx : ∀ s ∈ x, Sh.right s = true) :
    Calls Try.prog 63 #[.agg #[.int .i64 o.kind, .int .i64 o.k, .int .i64 o.width, .int .i64 o.step, .int .i64 o.side, .int .i64 o.frm, .int .i64 o.to, .slice S o.s.length c], .slice P p.length d, .slice X x.length f] w (RefP (Od.byKind o p x) w) := by
  have hq : Od.byKind o p x = Od.pool (x.getD 0 []) o.width o.step := by unfold Od.byKind; rw [if_neg (by omega), if_neg (by omega), if_neg (by omega), if_pos hk]
  obtain ⟨bx, ox, S0, c0, rfl, -⟩ := hX 0 h1
  have hb0 : Below w.heap.size w (w.alloc (.cells #[.int .i64 o.kind, .int .i64 o.k, .int .i64 o.width, .int .i64 o.step, .int .i64 o.side, .int .i64 o.frm, .int .i64 o.to, .slice S o.s.length c] 72)) := (Below.refl _ _).alloc (Nat.le_refl _) _
  have hk0 := Blk.new w 72 #[.int .i64 o.kind, .int .i64 o.k, .int .i64 o.width, .int .i64 o.step, .int .i64 o.side, .int .i64 o.frm, .int .i64 o.to, .slice S o.s.length c]
  obtain ⟨z0, z1, z2, z3, z4, z5, z6, z7⟩ := op_cells hk0
  have hX1 := hX.below hb0 (Nat.le_refl _)
  have hP1 := hP.below hb0 (Nat.le_refl _)
  have hS1 := hS.below hb0 (Nat.le_refl _)
  have hr0 := hx x[0] (List.getElem_mem h1)
  have hx0 : x.getD 0 [] = x[0] := gets_at h1
  first | rw [hx0] at hq | skip
  have l7 : decide (o.kind ≤ 7) = false := by simp; omega
  have e8 : (o.kind == 8) = false := by simp; omega
  have e9 : (o.kind == 9) = false := by simp; omega
  have e10 : (o.kind == 10) = false := by simp; omega
  have l12 : decide (o.kind ≤ 12) = true := by simp; omega
  clear hk
  have Hk0 := Lib.hid hk0
  have HX := Lib.hid hX
  have HP := Lib.hid hP
  have HS := Lib.hid hS
  have Hp := Lib.hid hp
  have Hx := Lib.hid hx
  clear hk0 hX hP hS hp hx
  go_enter Try.func63, Try.ntmps63
  go_upto_region 1 with fail
  generalize (w.alloc (.cells #[.int .i64 o.kind, .int .i64 o.k, .int .i64 o.width, .int .i64 o.step, .int .i64 o.side, .int .i64 o.frm, .int .i64 o.to, .slice S o.s.length c] 72)) = w1 at *
  obtain ⟨S0', c0', y0, hI0, hc0, hm0⟩ := hX1.each h1
  rw [Nat.add_zero] at y0
  clear S0
  generalize hs0 : x[0] = s0 at *
  have hbs := (Sh.right_mul hr0).2.2.2.1
  obtain ⟨s3, s4⟩ := right_short hr0
  have HX1 := Lib.hid hX1
  have HP1 := Lib.hid hP1
  have HS1 := Lib.hid hS1
  have HI0 := Lib.hid hI0
  have Hr0 := Lib.hid hr0
  have Hq := Lib.hid hq
  have Hx0 := Lib.hid hx0
  have Hs0 := Lib.hid hs0
  have Hbs := Lib.hid hbs
  have Hw := Lib.hid hw
  clear hX1 hP1 hS1 hI0 hr0 hq hx0 hs0 hbs hw
  go_wp2_with fail
  refine (ref03_size S0' c0' s0 w1 Hr0.out HI0.out).mono ?_
  rintro e w2 ⟨rfl, rfl⟩
  have hl1 : s0.length - 1 < s0.length := by omega
  have hwin := Hq.out
  unfold Od.pool at hwin
  rw [if_pos Hr0.out, getD_at hl1] at hwin
  obtain ⟨bs, os, rfl, -, -⟩ := HI0.out 0 s3
  have g0 := HI0.out.at_ hl1
  have hbl := Hbs.out _ (List.getElem_mem hl1)
  have i1 : IntKind.i64.wrap ((s0.length : Int) - 1) = ((s0.length - 1 : Nat) : Int) := by rw [IntWalk.i64_in _ (by omega)]; omega
  have i2 : (0 : Int) ≤ ((s0.length - 1 : Nat) : Int) := by omega
  have i3 : ((s0.length - 1 : Nat) : Int) < (s0.length : Int) := by omega
  have hcall := fun n : Nat => ref07_window s0[s0.length - 1] o.width o.step (w1.drewN n)
  have hok := @Od.window_ok s0[s0.length - 1] o.width o.step
  have herr := @Od.window_err s0[s0.length - 1] o.width o.step
  generalize s0[s0.length - 1] = z at *
  have hset : ∀ v, (s0.set (s0.length - 1) v).length = s0.length := fun v => List.length_set
  have hwith := fun (n : Nat) (v : Int) => ref10_with (some ⟨bs, os, none⟩) c0' s0 (s0.length - 1) v (w1.drewN n) (by omega) (HI0.out.drewN n) hl1
  obtain ⟨l, hl⟩ : ∃ l : Nat, s0.length - 1 = l := ⟨_, rfl⟩
  have hls : (s0.length : Int) - 1 = (l : Int) := by omega
  rw [hl] at g0 i1 i2 i3 hwith hwin hset
  have i4 : l < s0.length := by omega
  have Hwin := Lib.hid hwin
  have Hcall := Lib.hid hcall
  have Hok := Lib.hid hok
  have Herr := Lib.hid herr
  have Hset := Lib.hid hset
  have Hl := Lib.hid hl
  have Hls := Lib.hid hls
  clear hwin hcall hok herr hset hl hls
  have HWI := Lib.hid hwith
  clear hwith hl1
  go_wp2_with fail
  go_quiet ((go_at_call 79; exact quiet_same (Hcall.out _)))
  rename_i nq
  generalize hwv : Od.window z o.width o.step = wv at *
  by_cases hz : wv.2 = 0
  · have hb := Hok.out hz
    have e1 : (wv.1 == 0) = false := by simp; omega
    have HN := Lib.hid (Hwin.out.trans (if_pos hz))
    have HC := Lib.hid (HWI.out nq wv.1)
    clear hz hb
    have Hwv := Lib.hid hwv
    clear hwv
    go_wp2_with fail
    refine (HC.out).mono ?_
    rintro e w3 ⟨g, rfl, hI9, hg9, hb9⟩
    have hb10 := (Bdrawn hb0 nq).trans (hb9.mono hb0.size)
    have hsz := Hset.out wv.1
    generalize s0.set l wv.1 = s9 at *
    have HI9 := Lib.hid hI9
    have Hsz := Lib.hid hsz
    clear hI9 hsz
    go_wp2_with fail
    go_ret2
    exact RefP.ok HN.out rfl HI9.out (Nat.le_refl _) (by have := Hsz.out; omega) hb10
  · have hb := Herr.out hz
    have e1 : (wv.1 == 0) = true := by rw [hb]; rfl
    have HN := Lib.hid (Hwin.out.trans (if_neg hz))
    clear hz hb
    have Hwv := Lib.hid hwv
    clear hwv
    go_wp2_with fail
    go_ret2
    exact RefP.err HN.out (Bdrawn hb0 _)

set_option maxRecDepth 20000 in
set_option maxHeartbeats 8000000 in
theorem ref10_shape_cut (o : OpD) (S P X : Option Addr) (c d f : Nat) (p x : List (List Int)) (w : World) (hk : o.kind = 14) (ho : o.s.length ≤ 1099511627776) (hsc : o.s.length ≤ c) (hsm : c ≤ 9223372036854775807) (hw : o.wide) (hS : Ints .i64 w S o.s) (hP : Shps w P p) (hX : Shps w X x) (hxl : x.length ≤ 1048576) (h1 : 1 ≤ x.length) (hp : ∀ s ∈ p, Sh.right s = true) (hx : ∀ s ∈ x, Sh.right s = true) :
    Calls Try.prog 63 #[.agg #[.int .i64 o.kind, .int .i64 o.k, .int .i64 o.width, .int .i64 o.step, .int .i64 o.side, .int .i64 o.frm, .int .i64 o.to, .slice S o.s.length c], .slice P p.length d, .slice X x.length f] w (RefP (Od.byKind o p x) w) := by
  have hq : Od.byKind o p x = Od.cut (x.getD 0 []) o.side o.frm o.to := by unfold Od.byKind; simp [hk]
  obtain ⟨bx, ox, S0, c0, rfl, -⟩ := hX 0 h1
  have hb0 : Below w.heap.size w (w.alloc (.cells #[.int .i64 o.kind, .int .i64 o.k, .int .i64 o.width, .int .i64 o.step, .int .i64 o.side, .int .i64 o.frm, .int .i64 o.to, .slice S o.s.length c] 72)) := (Below.refl _ _).alloc (Nat.le_refl _) _
  have hk0 := Blk.new w 72 #[.int .i64 o.kind, .int .i64 o.k, .int .i64 o.width, .int .i64 o.step, .int .i64 o.side, .int .i64 o.frm, .int .i64 o.to, .slice S o.s.length c]
  obtain ⟨z0, z1, z2, z3, z4, z5, z6, z7⟩ := op_cells hk0
  have hX1 := hX.below hb0 (Nat.le_refl _)
  have hP1 := hP.below hb0 (Nat.le_refl _)
  have hS1 := hS.below hb0 (Nat.le_refl _)
  have hr0 := hx x[0] (List.getElem_mem h1)
  have hx0 : x.getD 0 [] = x[0] := gets_at h1
  first | rw [hx0] at hq | skip
  have l7 : decide (o.kind ≤ 7) = false := by simp; omega
  have l12 : decide (o.kind ≤ 12) = false := by simp; omega
  have e8 : (o.kind == 8) = false := by simp; omega
  have e9 : (o.kind == 9) = false := by simp; omega
  have e10 : (o.kind == 10) = false := by simp; omega
  have e13 : (o.kind == 13) = false := by simp; omega
  have e14 : (o.kind == 14) = true := by simp; omega
  clear hk
  have Hk0 := Lib.hid hk0
  have HX := Lib.hid hX
  have HP := Lib.hid hP
  have HS := Lib.hid hS
  have Hp := Lib.hid hp
  have Hx := Lib.hid hx
  clear hk0 hX hP hS hp hx
  go_enter Try.func63, Try.ntmps63
  go_upto_region 1 with fail
  generalize (w.alloc (.cells #[.int .i64 o.kind, .int .i64 o.k, .int .i64 o.width, .int .i64 o.step, .int .i64 o.side, .int .i64 o.frm, .int .i64 o.to, .slice S o.s.length c] 72)) = w1 at *
  obtain ⟨S0', c0', y0, hI0, hc0, hm0⟩ := hX1.each h1
  rw [Nat.add_zero] at y0
  clear S0
  generalize hs0 : x[0] = s0 at *
  have hbs := (Sh.right_mul hr0).2.2.2.1
  obtain ⟨s3, s4⟩ := right_short hr0
  have HX1 := Lib.hid hX1
  have HP1 := Lib.hid hP1
  have HS1 := Lib.hid hS1
  have HI0 := Lib.hid hI0
  have Hr0 := Lib.hid hr0
  have Hq := Lib.hid hq
  have Hx0 := Lib.hid hx0
  have Hs0 := Lib.hid hs0
  have Hbs := Lib.hid hbs
  have Hw := Lib.hid hw
  clear hX1 hP1 hS1 hI0 hr0 hq hx0 hs0 hbs hw
  go_wp2_with fail
  refine (ref03_size S0' c0' s0 w1 Hr0.out HI0.out).mono ?_
  rintro e w2 ⟨rfl, rfl⟩
  have hcut := Hq.out
  unfold Od.cut at hcut
  rw [if_pos Hr0.out] at hcut
  by_cases a1 : o.side < 0
  · have d1 : decide (o.side < 0) = true := by simpa using a1
    have HN := Lib.hid (hcut.trans (if_neg (by simp [Od.inR]; omega)))
    clear hcut
    go_wp2_with fail
    go_quiet (fail)
    go_wp2_with fail
    go_ret2
    exact RefP.err HN.out (Bdrawn hb0 _)
  · have d1 : decide (o.side < 0) = false := by simpa using a1
    by_cases a2 : (s0.length : Int) ≤ o.side
    · have d2 : decide ((s0.length : Int) ≤ o.side) = true := by simpa using a2
      have HN := Lib.hid (hcut.trans (if_neg (by simp [Od.inR]; omega)))
      clear hcut
      go_wp2_with fail
      go_quiet (fail)
      go_wp2_with fail
      go_ret2
      exact RefP.err HN.out (Bdrawn hb0 _)
    · have d2 : decide ((s0.length : Int) ≤ o.side) = false := by simpa using a2
      obtain ⟨sd, hsd⟩ : ∃ sd : Nat, o.side = (sd : Int) := ⟨o.side.toNat, by omega⟩
      have hsl : sd < s0.length := by omega
      have hin : Od.inR o.side s0 = true := by simp [Od.inR]; omega
      have hat : Od.at_ s0 o.side = s0[sd] := by unfold Od.at_; rw [hsd, Int.toNat_natCast, getD_at hsl]
      rw [hin, Bool.true_and, hat] at hcut
      have hbz := Hbs.out _ (List.getElem_mem hsl)
      obtain ⟨bs, os, rfl, -, -⟩ := HI0.out 0 s3
      have g0 := HI0.out.at_ hsl
      have hwith := fun (n : Nat) (v : Int) => ref10_with (some ⟨bs, os, none⟩) c0' s0 sd v (w1.drewN n) (by omega) (HI0.out.drewN n) hsl
      have hset : ∀ v, (s0.set sd v).length = s0.length := fun v => List.length_set
      have i1 : (sd : Int) < (s0.length : Int) := by omega
      have d2' : decide (s0.length ≤ sd) = false := by simp; omega
      rw [hsd] at z4 d1 d2 hcut
      generalize s0[sd] = z at *
      rw [hsd]
      rw [Int.toNat_natCast] at hcut
      clear a1 a2 hin hat
      have HWI := Lib.hid hwith
      have Hset := Lib.hid hset
      have Hsd := Lib.hid hsd
      clear hset hsd
      clear hwith
      by_cases a3 : o.frm < 0
      · have d3 : decide (o.frm < 0) = true := by simpa using a3
        have HN := Lib.hid (hcut.trans (if_neg (by simp; omega)))
        clear hcut a3
        go_wp2_with fail
        go_quiet (fail)
        go_wp2_with fail
        go_ret2
        exact RefP.err HN.out (Bdrawn hb0 _)
      · have d3 : decide (o.frm < 0) = false := by simpa using a3
        by_cases a4 : z < o.to
        · have d4 : decide (z < o.to) = true := by simpa using a4
          have HN := Lib.hid (hcut.trans (if_neg (by simp; omega)))
          clear hcut a3 a4
          go_wp2_with fail
          go_quiet (fail)
          go_wp2_with fail
          go_ret2
          exact RefP.err HN.out (Bdrawn hb0 _)
        · have d4 : decide (z < o.to) = false := by simpa using a4
          by_cases a5 : o.to ≤ o.frm
          · have d5 : decide (o.to ≤ o.frm) = true := by simpa using a5
            have HN := Lib.hid (hcut.trans (if_neg (by simp; omega)))
            clear hcut a3 a4 a5
            go_wp2_with fail
            go_quiet (fail)
            go_wp2_with fail
            go_ret2
            exact RefP.err HN.out (Bdrawn hb0 _)
          · have d5 : decide (o.to ≤ o.frm) = false := by simpa using a5
            have HN := Lib.hid (hcut.trans (if_pos (by simp; omega)))
            have ww : IntKind.i64.wrap (o.to - o.frm) = o.to - o.frm := IntWalk.i64_in _ (by omega)
            clear hcut
            go_wp2_with fail
            go_quiet (fail)
            rename_i nq
            clear d1 d2 d2' d3 d4 d5
            go_wp2_with fail
            refine (HWI.out nq (o.to - o.frm)).mono ?_
            rintro e w3 ⟨g, rfl, hI9, hg9, hb9⟩
            have hb10 := (Bdrawn hb0 nq).trans (hb9.mono hb0.size)
            have hsz := Hset.out (o.to - o.frm)
            generalize s0.set sd (o.to - o.frm) = s9 at *
            have HI9 := Lib.hid hI9
            have Hsz := Lib.hid hsz
            clear hI9 hsz
            go_wp2_with fail
            go_ret2
            exact RefP.ok HN.out rfl HI9.out (Nat.le_refl _) (by have := Hsz.out; omega) hb10

end Go.Proofs.Ytjkhpbngpceenaa
