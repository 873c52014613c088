/- The reference of layer 10: Shape: contract, the other kinds, and all (printed by gen/refshape.py). -/
import Derived.Test.YtjkhpbngpceenaaRefV
namespace Go.Proofs.Ytjkhpbngpceenaa
open Go.RowKit
set_option maxRecDepth 20000 in
set_option maxHeartbeats 8000000 in
theorem ref10_shape_dense (o : OpD) (S P X : Option Addr) (c d f : Nat) (p x : List (List Int)) (w : World) (hk : o.kind = 8) (hpl : p.length = 2) (ho : o.s.length ≤ 1099511627776) (hsc : o.s.length ≤ c) (hsm : c ≤ 9223372036854775807) (hw : o.wide) (hS : Ints .i64 w S o.s) (hP : Shps w P p) (hX : Shps w X x) (hxl : x.length ≤ 1048576) (h1 : 1 ≤ x.length) (hp : ∀ s ∈ p, Sh.right s = true) (hx : ∀ s ∈ x, Sh.right s = true) :
    Calls Try.prog 63 #[.agg #[.int .i64 o.kind, .int .i64 o.k, .int .i64 o.width, .int .i64 o.step, .int .i64 o.side, .int .i64 o.frm, .int .i64 o.to, .slice S o.s.length c], .slice P p.length d, .slice X x.length f] w (RefP (Od.byKind o p x) w) := by
  have hq : Od.byKind o p x = Od.dense (p.getD 0 []) (p.getD 1 []) (x.getD 0 []) := by unfold Od.byKind; simp [hk]
  obtain ⟨bx, ox, S0, c0, rfl, -⟩ := hX 0 h1
  obtain ⟨bp, op, T0, d0, rfl, -⟩ := hP 0 (by omega)
  have hb0 : Below w.heap.size w (w.alloc (.cells #[.int .i64 o.kind, .int .i64 o.k, .int .i64 o.width, .int .i64 o.step, .int .i64 o.side, .int .i64 o.frm, .int .i64 o.to, .slice S o.s.length c] 72)) := (Below.refl _ _).alloc (Nat.le_refl _) _
  have hk0 := Blk.new w 72 #[.int .i64 o.kind, .int .i64 o.k, .int .i64 o.width, .int .i64 o.step, .int .i64 o.side, .int .i64 o.frm, .int .i64 o.to, .slice S o.s.length c]
  obtain ⟨z0, z1, z2, z3, z4, z5, z6, z7⟩ := op_cells hk0
  have hX1 := hX.below hb0 (Nat.le_refl _)
  have hP1 := hP.below hb0 (Nat.le_refl _)
  have hS1 := hS.below hb0 (Nat.le_refl _)
  have hr0 := hx x[0] (List.getElem_mem h1)
  have hx0 : x.getD 0 [] = x[0] := gets_at h1
  first | rw [hx0] at hq | skip
  have hrp := hp p[0] (List.getElem_mem (by omega))
  have hp0 : p.getD 0 [] = p[0] := gets_at (by omega)
  first | rw [hp0] at hq | skip
  have l7 : decide (o.kind ≤ 7) = false := by simp; omega
  have e8 : (o.kind == 8) = true := by simp; omega
  clear hk
  have Hk0 := Lib.hid hk0
  have HX := Lib.hid hX
  have HP := Lib.hid hP
  have HS := Lib.hid hS
  have Hp := Lib.hid hp
  have Hx := Lib.hid hx
  clear hk0 hX hP hS hp hx
  go_enter Try.func63, Try.ntmps63
  go_upto_region 1 with fail
  generalize (w.alloc (.cells #[.int .i64 o.kind, .int .i64 o.k, .int .i64 o.width, .int .i64 o.step, .int .i64 o.side, .int .i64 o.frm, .int .i64 o.to, .slice S o.s.length c] 72)) = w1 at *
  obtain ⟨S0', c0', y0, hI0, hc0, hm0⟩ := hX1.each h1
  rw [Nat.add_zero] at y0
  obtain ⟨T0', d0', v0, hJ0, hd0, hn0⟩ := hP1.each (show 0 < p.length by omega)
  rw [Nat.add_zero] at v0
  clear T0
  clear S0
  generalize hs0 : x[0] = s0 at *
  generalize hsp : p[0] = t0 at *
  obtain ⟨q3, q4⟩ := right_short hrp
  have hbs := (Sh.right_mul hr0).2.2.2.1
  obtain ⟨s3, s4⟩ := right_short hr0
  have HX1 := Lib.hid hX1
  have HP1 := Lib.hid hP1
  have HS1 := Lib.hid hS1
  have HI0 := Lib.hid hI0
  have Hr0 := Lib.hid hr0
  have Hq := Lib.hid hq
  have Hx0 := Lib.hid hx0
  have Hs0 := Lib.hid hs0
  have Hbs := Lib.hid hbs
  have Hw := Lib.hid hw
  have HJ0 := Lib.hid hJ0
  have Hrp := Lib.hid hrp
  have Hp0 := Lib.hid hp0
  have Hsp := Lib.hid hsp
  clear hX1 hP1 hS1 hI0 hr0 hq hx0 hs0 hbs hw hJ0 hrp hp0 hsp
  go_wp2_with fail
  refine (ref03_size S0' c0' s0 w1 Hr0.out HI0.out).mono ?_
  rintro e w2 ⟨rfl, rfl⟩
  obtain ⟨T1, d1, v1, hJ1, hd1, hn1⟩ := HP1.out.each (show 1 < p.length by omega)
  have hrp1 := Hp.out p[1] (List.getElem_mem (by omega))
  have hp1 : p.getD 1 [] = p[1] := gets_at (by omega)
  have hq2 := Hq.out
  rw [hp1] at hq2
  generalize hsp1 : p[1] = t1 at *
  obtain ⟨q5, q6⟩ := right_short hrp1
  obtain ⟨bt, ot, rfl, -, -⟩ := HJ0.out 0 q3
  unfold Od.dense at hq2
  by_cases hl2 : t0.length = 2
  rotate_left
  · have f1 : ((t0.length : Int) != 2) = true := by rw [bne_iff_ne]; omega
    have f2 : (t0.length != 2) = true := by rw [bne_iff_ne]; omega
    have HN := Lib.hid (hq2.trans (if_neg (by intro h; exact hl2 h.1)))
    have HJ1 := Lib.hid hJ1
    have Hrp1 := Lib.hid hrp1
    have Hp1 := Lib.hid hp1
    have Hsp1 := Lib.hid hsp1
    clear hJ1 hrp1 hp1 hsp1
    clear hq2 hl2
    go_wp2_with fail
    go_quiet (fail)
    go_wp2_with fail
    go_ret2
    exact RefP.err HN.out (Bdrawn hb0 _)
  · obtain ⟨a, b, rfl⟩ := list_two hl2
    have g1 := HJ0.out.at_ (show 1 < [a, b].length by simp)
    have g1 : w1.cell? ⟨bt, ot + 1, none⟩ = some (.int .i64 b) := g1
    have hJa : Ints .i64 w1 (some ⟨bt, ot, none⟩) [a] := Ints.of_row fun j hj => by
      have hj0 : j = 0 := by simp at hj; exact hj
      subst hj0
      exact HJ0.out.at_ (show 0 < [a, b].length by simp)
    have hd2 : (1 : Int) ≤ (d0' : Int) := by simp at hd0; omega
    have hcall := fun n : Nat => ref03_same T1 (some ⟨bt, ot, none⟩) d1 d0' t1 [a] (w1.drewN n) (by omega) (by simp) (hJ1.drewN n) (hJa.drewN n)
    have f1 : ((2 : Int) != 2) = false := rfl
    have v0' : w1.cell? ⟨bp, op, none⟩ = some (.slice (some ⟨bt, ot, none⟩) 2 d0') := v0
    have hpl2 : (1 : Int) < (p.length : Int) := by omega
    clear v0 hd0 q3 q4
    by_cases hs : t1 = [a]
    · rw [decide_eq_true hs] at hcall
      have hq3 : Od.byKind o p x = if Safe.prod s0 = b then ([a], 0) else ([], 20) := by
        rw [hq2]
        by_cases e : Safe.prod s0 = b
        · rw [if_pos e, if_pos ⟨rfl, by rw [hs]; rfl, by rw [hs]; rfl, Hr0.out, e⟩]; rfl
        · rw [if_neg e, if_neg]; rintro ⟨_, _, _, _, h⟩; exact e h
      have HJ1 := Lib.hid hJ1
      have Hrp1 := Lib.hid hrp1
      have Hp1 := Lib.hid hp1
      have Hsp1 := Lib.hid hsp1
      have Hcall := Lib.hid hcall
      have HJa := Lib.hid hJa
      have Hq3 := Lib.hid hq3
      clear hJ1 hrp1 hp1 hsp1 hcall hJa hq3
      clear hq2 hl2 hs
      by_cases e : Safe.prod s0 = b
      · have f3 : (b != Safe.prod s0) = false := by simp [e]
        have HN := Lib.hid (Hq3.out.trans (if_pos e))
        clear e
        go_wp2_with fail
        go_quiet ((go_at_call 14; exact quiet_drawn (Hcall.out _)))
        go_wp2_with fail
        go_ret2
        exact RefP.ok HN.out rfl (HJa.out.drewN _) (by simp; omega) hn0 (Bdrawn hb0 _)
      · have f3 : (b != Safe.prod s0) = true := by rw [bne_iff_ne]; exact fun h => e h.symm
        have HN := Lib.hid (Hq3.out.trans (if_neg e))
        clear e
        go_wp2_with fail
        go_quiet ((go_at_call 14; exact quiet_drawn (Hcall.out _)))
        go_wp2_with fail
        go_ret2
        exact RefP.err HN.out (Bdrawn hb0 _)
    · rw [decide_eq_false hs] at hcall
      have HN := Lib.hid (hq2.trans (if_neg (by
        rintro ⟨_, h2, h3, _⟩
        obtain ⟨z, rfl⟩ := list_one' h2
        exact hs (by simp at h3; rw [h3]))))
      have HJ1 := Lib.hid hJ1
      have Hrp1 := Lib.hid hrp1
      have Hp1 := Lib.hid hp1
      have Hsp1 := Lib.hid hsp1
      have Hcall := Lib.hid hcall
      have HJa := Lib.hid hJa
      clear hJ1 hrp1 hp1 hsp1 hcall hJa
      clear hq2 hl2 hs
      go_wp2_with fail
      go_quiet ((go_at_call 14; exact quiet_drawn (Hcall.out _)))
      go_wp2_with fail
      go_ret2
      exact RefP.err HN.out (Bdrawn hb0 _)

set_option maxRecDepth 20000 in
set_option maxHeartbeats 8000000 in
theorem ref10_shape_conv (o : OpD) (S P X : Option Addr) (c d f : Nat) (p x : List (List Int)) (w : World) (hk : o.kind = 10) (hpl : p.length = 1) (ho : o.s.length ≤ 1099511627776) (hsc : o.s.length ≤ c) (hsm : c ≤ 9223372036854775807) (hw : o.wide) (hS : Ints .i64 w S o.s) (hP : Shps w P p) (hX : Shps w X x) (hxl : x.length ≤ 1048576) (h1 : 1 ≤ x.length) (hp : ∀ s ∈ p, Sh.right s = true) (hx : ∀ s ∈ x, Sh.right s = true) :
    Calls Try.prog 63 #[.agg #[.int .i64 o.kind, .int .i64 o.k, .int .i64 o.width, .int .i64 o.step, .int .i64 o.side, .int .i64 o.frm, .int .i64 o.to, .slice S o.s.length c], .slice P p.length d, .slice X x.length f] w (RefP (Od.byKind o p x) w) := by
  have hq : Od.byKind o p x = Od.conv (p.getD 0 []) (x.getD 0 []) o.step := by unfold Od.byKind; simp [hk]
  obtain ⟨bx, ox, S0, c0, rfl, -⟩ := hX 0 h1
  obtain ⟨bp, op, T0, d0, rfl, -⟩ := hP 0 (by omega)
  have hb0 : Below w.heap.size w (w.alloc (.cells #[.int .i64 o.kind, .int .i64 o.k, .int .i64 o.width, .int .i64 o.step, .int .i64 o.side, .int .i64 o.frm, .int .i64 o.to, .slice S o.s.length c] 72)) := (Below.refl _ _).alloc (Nat.le_refl _) _
  have hk0 := Blk.new w 72 #[.int .i64 o.kind, .int .i64 o.k, .int .i64 o.width, .int .i64 o.step, .int .i64 o.side, .int .i64 o.frm, .int .i64 o.to, .slice S o.s.length c]
  obtain ⟨z0, z1, z2, z3, z4, z5, z6, z7⟩ := op_cells hk0
  have hX1 := hX.below hb0 (Nat.le_refl _)
  have hP1 := hP.below hb0 (Nat.le_refl _)
  have hS1 := hS.below hb0 (Nat.le_refl _)
  have hr0 := hx x[0] (List.getElem_mem h1)
  have hx0 : x.getD 0 [] = x[0] := gets_at h1
  first | rw [hx0] at hq | skip
  have hrp := hp p[0] (List.getElem_mem (by omega))
  have hp0 : p.getD 0 [] = p[0] := gets_at (by omega)
  first | rw [hp0] at hq | skip
  have l7 : decide (o.kind ≤ 7) = false := by simp; omega
  have e8 : (o.kind == 8) = false := by simp; omega
  have e9 : (o.kind == 9) = false := by simp; omega
  have e10 : (o.kind == 10) = true := by simp; omega
  clear hk
  have Hk0 := Lib.hid hk0
  have HX := Lib.hid hX
  have HP := Lib.hid hP
  have HS := Lib.hid hS
  have Hp := Lib.hid hp
  have Hx := Lib.hid hx
  clear hk0 hX hP hS hp hx
  go_enter Try.func63, Try.ntmps63
  go_upto_region 1 with fail
  generalize (w.alloc (.cells #[.int .i64 o.kind, .int .i64 o.k, .int .i64 o.width, .int .i64 o.step, .int .i64 o.side, .int .i64 o.frm, .int .i64 o.to, .slice S o.s.length c] 72)) = w1 at *
  obtain ⟨S0', c0', y0, hI0, hc0, hm0⟩ := hX1.each h1
  rw [Nat.add_zero] at y0
  obtain ⟨T0', d0', v0, hJ0, hd0, hn0⟩ := hP1.each (show 0 < p.length by omega)
  rw [Nat.add_zero] at v0
  clear T0
  clear S0
  generalize hs0 : x[0] = s0 at *
  generalize hsp : p[0] = t0 at *
  obtain ⟨q3, q4⟩ := right_short hrp
  have hbs := (Sh.right_mul hr0).2.2.2.1
  obtain ⟨s3, s4⟩ := right_short hr0
  have HX1 := Lib.hid hX1
  have HP1 := Lib.hid hP1
  have HS1 := Lib.hid hS1
  have HI0 := Lib.hid hI0
  have Hr0 := Lib.hid hr0
  have Hq := Lib.hid hq
  have Hx0 := Lib.hid hx0
  have Hs0 := Lib.hid hs0
  have Hbs := Lib.hid hbs
  have Hw := Lib.hid hw
  have HJ0 := Lib.hid hJ0
  have Hrp := Lib.hid hrp
  have Hp0 := Lib.hid hp0
  have Hsp := Lib.hid hsp
  clear hX1 hP1 hS1 hI0 hr0 hq hx0 hs0 hbs hw hJ0 hrp hp0 hsp
  go_wp2_with fail
  refine (ref03_size S0' c0' s0 w1 Hr0.out HI0.out).mono ?_
  rintro e w2 ⟨rfl, rfl⟩
  have hq2 := Hq.out
  unfold Od.conv at hq2
  rw [Hrp.out, Hr0.out, Bool.true_and, Bool.true_and] at hq2
  obtain ⟨i0, hi, hz0, hz1, hz2⟩ := info_parts int_info
  obtain ⟨bs, os, rfl, -, -⟩ := HI0.out 0 s3
  obtain ⟨bt, ot, rfl, -, -⟩ := HJ0.out 0 q3
  have g0 := HI0.out.at_ s3
  have g2 := HJ0.out.at_ q3
  rw [Nat.add_zero] at g0 g2
  have hg0 : s0.getD 0 0 = s0[0] := getD_at s3
  have hgt : t0.getD 0 0 = t0[0] := getD_at q3
  by_cases a1 : t0.length = s0.length + 1
  rotate_left
  · have f1 : ((t0.length : Int) != (s0.length : Int) + 1) = true := by rw [bne_iff_ne]; omega
    have HN := Lib.hid (hq2.trans (if_neg (by simp; omega)))
    clear hq2 a1 hg0 hgt g0 g2
    go_wp2_with fail
    go_quiet (fail)
    go_wp2_with fail
    go_ret2
    exact RefP.err HN.out (Bdrawn hb0 _)
  · have f1 : ((t0.length : Int) != (s0.length : Int) + 1) = false := by simp; omega
    by_cases a2 : s0.length < 2
    · have f2 : decide ((s0.length : Int) < 2) = true := by simp; omega
      have HN := Lib.hid (hq2.trans (if_neg (by simp; omega)))
      clear hq2 a1 hg0 hgt g0 g2
      go_wp2_with fail
      go_quiet (fail)
      go_wp2_with fail
      go_ret2
      exact RefP.err HN.out (Bdrawn hb0 _)
    · have f2 : decide ((s0.length : Int) < 2) = false := by simp; omega
      by_cases a3 : 3 < s0.length
      · have f3 : decide ((3 : Int) < (s0.length : Int)) = true := by simp; omega
        have HN := Lib.hid (hq2.trans (if_neg (by simp; omega)))
        clear hq2 a1 hg0 hgt g0 g2
        go_wp2_with fail
        go_quiet (fail)
        go_wp2_with fail
        go_ret2
        exact RefP.err HN.out (Bdrawn hb0 _)
      · have f3 : decide ((3 : Int) < (s0.length : Int)) = false := by simp; omega
        have ht1 : 1 < t0.length := by omega
        have g1 := HJ0.out.at_ ht1
        have j1 : (1 : Int) < (t0.length : Int) := by omega
        rw [hg0, getD_at ht1] at hq2
        by_cases a4 : t0[1] = s0[0]
        rotate_left
        · have f4 : (t0[1] != s0[0]) = true := by simp [a4]
          have HN := Lib.hid (hq2.trans (if_neg (by simp; intro _ _ _; exact a4)))
          generalize t0[1] = tb at *
          generalize s0[0] = sa at *
          clear hq2 a1 hg0 hgt a4 g2
          go_wp2_with fail
          go_quiet (fail)
          go_wp2_with fail
          go_ret2
          exact RefP.err HN.out (Bdrawn hb0 _)
        · have f4 : (t0[1] != s0[0]) = false := by simp [a4]
          rw [if_pos (by simp; omega)] at hq2
          have Ha1 := Lib.hid a1
          generalize t0[1] = tb at *
          generalize s0[0] = sa at *
          generalize t0[0] = ta at *
          clear a4 a1 hg0
          have Hq2 := Lib.hid hq2
          have Hgt := Lib.hid hgt
          clear hq2 hgt
          have z3' : w1.cell? ⟨w.heap.size, 3, none⟩ = some (.int .i64 o.step) := z3
          go_wp2_with fail
          go_quiet (fail)
          rename_i nq
          clear f1 f2 f3 f4 g0 g1 z0 z1 z2 z3 z4 z5 z6 z7
          go_wp2_with fail
          clear g2 y0 v0
          have hbn : Below w1.heap.size w1 (w1.drewN nq) := Bdrawn (Below.refl _ _) nq
          have hk9 := Blk.new (w1.drewN nq) 3 #[.int .i64 ta]
          have hb9 : Below w1.heap.size w1 ((w1.drewN nq).alloc (.cells #[.int .i64 ta] 3)) := hbn.alloc (Nat.le_refl _) _
          have hown0 : ((w1.drewN nq).alloc (.cells #[.int .i64 ta] 3)).ownsRow w1.heap.size 3 1 (.slice (some ⟨w1.heap.size, 0, none⟩) 1 1) 1 ((Od.outs t0 s0 o.step 0).map (Value.int .i64)) := own_of_row (by
            have : Od.outs t0 s0 o.step 0 = [ta] := by simp only [Od.outs, Hgt.out]; rfl
            rw [this]; exact hk9) (Nat.le_refl _) (by simp [Od.outs]) (by unfold maxLen; omega)
          have Hk9 := Lib.hid hk9
          have Hown0 := Lib.hid hown0
          clear hk9 hown0
          go_loopw [12, 13] (fun v i wx => ∃ k : Nat, k ≤ s0.length - 1 ∧ i = .int .i64 ((k : Int) + 1) ∧ wx.ownsRow w1.heap.size 3 1 v (k + 1) ((Od.outs t0 s0 o.step k).map (Value.int .i64)) ∧ (∀ j, j < k → (Od.wn t0 s0 o.step j).2 = 0) ∧ Below w1.heap.size w1 wx) (fun _ i _ => s0.length - (intOf i).toNat)
          case atStart => exact ⟨0, Nat.zero_le _, rfl, Hown0.out, fun j hj => by omega, hb9⟩
          case round =>
            obtain ⟨k, hk, rfl, hown, hall, hbx⟩ := hrel
            clear Hown0 Hk9 hb9 hbn
            obtain ⟨Ao, co, rfl⟩ := own_form hown
            by_cases hlt : k + 1 < s0.length
            · have ht2 : k + 2 < t0.length := by have := Ha1.out; omega
              have m1 := cell_below hbx (HI0.out.at_ hlt)
              have m2 := cell_below hbx (HJ0.out.at_ ht2)
              have m3 := cell_below hbx z3'
              have hwn : Od.wn t0 s0 o.step k = Od.window s0[k + 1] t0[k + 2] o.step := by unfold Od.wn; rw [getD_at hlt, getD_at ht2]
              have hcall := fun n : Nat => ref07_window s0[k + 1] t0[k + 2] o.step (wr.drewN n)
              rw [← hwn] at hcall
              have hok := @Od.window_ok s0[k + 1] t0[k + 2] o.step
              have herr := @Od.window_err s0[k + 1] t0[k + 2] o.step
              rw [← hwn] at hok herr
              have i1 : IntKind.i64.wrap ((k : Int) + 1 + 1) = ((k + 2 : Nat) : Int) := by rw [IntWalk.i64_in _ (by omega)]; omega
              have i2 : ((k : Int) + 1) < (s0.length : Int) := by omega
              have i3 : ((k + 2 : Nat) : Int) < (t0.length : Int) := by omega
              have i4 : (0 : Int) ≤ (k : Int) + 1 := by omega
              have i5 : ((k : Int) + 1).toNat = k + 1 := by omega
              have i6 : (0 : Int) ≤ ((k + 2 : Nat) : Int) := by omega
              have hosucc : Od.outs t0 s0 o.step (k + 1) = Od.outs t0 s0 o.step k ++ [(Od.wn t0 s0 o.step k).1] := by simp [Od.outs, List.range_succ]
              have hol : (Od.outs t0 s0 o.step k).length = k + 1 := by simp [Od.outs]
              have hnx : (Od.wn t0 s0 o.step k).2 = 0 → ∀ j, j < k + 1 → (Od.wn t0 s0 o.step j).2 = 0 := fun e j hj => by
                by_cases h : j = k
                · subst h; exact e
                · exact hall j (by omega)
              have hno : (Od.wn t0 s0 o.step k).2 ≠ 0 → Od.byKind o p x = ([], 11) := fun e => by
                rw [Hq2.out, if_neg]
                rw [List.all_eq_true]
                intro h
                have := h k (List.mem_range.2 (by omega))
                exact e (by simpa using this)
              generalize s0[k + 1] = sk at *
              generalize t0[k + 2] = tk at *
              generalize Od.wn t0 s0 o.step k = wv at *
              have Hwn := Lib.hid hwn
              have Hcall := Lib.hid hcall
              have Hok := Lib.hid hok
              have Herr := Lib.hid herr
              have Hosucc := Lib.hid hosucc
              have Hol := Lib.hid hol
              have Hnx := Lib.hid hnx
              have Hno := Lib.hid hno
              have Hall := Lib.hid hall
              have Hown := Lib.hid hown
              clear hwn hcall hok herr hosucc hol hnx hno hall hown
              go_wp2_with fail
              go_quiet ((go_at_call 79; exact quiet_same (Hcall.out _)))
              clear m1 m2 m3 i1 i3 i6
              by_cases hz : wv.2 = 0
              · have hb := Hok.out hz
                have e1 : (wv.1 == 0) = false := by simp; omega
                have HNX := Lib.hid (Hnx.out hz)
                have ho := ownsRow_new (ownsRow_heap (w' := wr.drewN nq) Hown.out (fun g _ => rfl)) (.cells #[.int .i64 wv.1] 3)
                have hbx2 := ((Bdrawn hbx nq).alloc hbx.size (.cells #[.int .i64 wv.1] 3))
                have hlo : ∀ b, (Value.slice Ao (k + 1) co).ownBlock = some b → w1.heap.size ≤ b := fun b hb => (Hown.out.lt b hb).1
                clear hz hb
                have Hlo := Lib.hid hlo
                clear hlo
                go_wp2_with (at_builtin; refine wpList_append_own_at _ rfl _ _ 22 rfl w1.heap.size 3 i0 (.int .i64 0) 1 8 Try.underlying22 hi hz0 hz1 hz2 rfl (by decide) _ _ _ rfl ho ⟨wr.heap.size, 0, none⟩ 1 1 [.int .i64 wv.1] rfl rfl ?c1 (by intro u hu; simp at hu; subst hu; rfl) (by unfold maxLen; omega) (by omega) ?c2 ?_)
                case c1 => exact one_new (wr.drewN nq) _ _
                case c2 => exact hbx2.size
                intro v' w3 hown' hgrow _ hat
                have hb3 : Below w1.heap.size w1 w3 := hbx2.grown hgrow hbx2.size (fun b hb => Hlo.out b hb)
                have HO3 := Lib.hid (show w3.ownsRow w1.heap.size 3 1 v' (k + 1 + 1) ((Od.outs t0 s0 o.step (k + 1)).map (Value.int .i64)) by rw [Hosucc.out]; simpa using hown')
                clear hown' hgrow hat ho hbx2 Hlo
                go_wp2_with fail
                go_roundw
                case rel => exact ⟨k + 1, by omega, by go_num, HO3.out, HNX.out, hb3⟩
                case measure => simp [intOf]; omega
              · have hb := Herr.out hz
                have e1 : (wv.1 == 0) = true := by rw [hb]; rfl
                have HN := Lib.hid (Hno.out hz)
                clear hz hb
                go_wp2_with fail
                go_ret2
                exact RefP.err HN.out (Bdrawn (hb0.trans (hbx.mono hb0.size)) _)
            · obtain rfl : k = s0.length - 1 := by omega
              have i2 : ¬ ((s0.length - 1 : Nat) : Int) + 1 < (s0.length : Int) := by omega
              have hol : (Od.outs t0 s0 o.step (s0.length - 1)).length = s0.length - 1 + 1 := by simp [Od.outs]
              have hq3 : Od.byKind o p x = if Sh.right (Od.outs t0 s0 o.step (s0.length - 1)) = true then (Od.outs t0 s0 o.step (s0.length - 1), 0) else ([], 20) := by
                rw [Hq2.out, if_pos]
                rw [List.all_eq_true]
                intro j hj
                simpa using hall j (List.mem_range.1 hj)
              generalize Od.outs t0 s0 o.step (s0.length - 1) = os9 at *
              generalize s0.length - 1 = m at *
              rw [← hol] at hown
              obtain ⟨hIo, ho1, ho2⟩ := own_ints (by rw [hol] at hown ⊢; exact hown)
              have hcall := ref03_right Ao co os9 wr (by omega) hIo
              rw [hol] at hcall
              have Hown := Lib.hid hown
              have Hall := Lib.hid hall
              have Hol := Lib.hid hol
              have Hq3 := Lib.hid hq3
              have HIo := Lib.hid hIo
              have Hcall := Lib.hid hcall
              clear hown hall hol hq3 hIo hcall
              go_wp2_with fail
              refine (Hcall.out).mono ?_
              rintro e w9 ⟨rfl, rfl⟩
              by_cases hr9 : Sh.right os9 = true
              · have HN := Lib.hid (Hq3.out.trans (if_pos hr9))
                rw [hr9]
                clear hr9
                go_wp2_with fail
                go_ret2
                exact RefP.ok HN.out Hol.out HIo.out ho1 ho2 (hb0.trans (hbx.mono hb0.size))
              · have HN := Lib.hid (Hq3.out.trans (if_neg hr9))
                have hr' : Sh.right os9 = false := by simpa using hr9
                rw [hr']
                clear hr9 hr'
                go_wp2_with fail
                go_ret2
                exact RefP.err HN.out (hb0.trans (hbx.mono hb0.size))

theorem ref10_shape (o : OpD) (S P X : Option Addr) (c d f : Nat) (p x : List (List Int)) (w : World) (hr : Od.right o = true) (hcnt : Od.counts o p.length x.length = 0) (ho : o.s.length ≤ 1099511627776) (hsc : o.s.length ≤ c) (hsm : c ≤ 9223372036854775807) (hw : o.wide) (hS : Ints .i64 w S o.s) (hP : Shps w P p) (hX : Shps w X x) (hp : ∀ s ∈ p, Sh.right s = true) (hx : ∀ s ∈ x, Sh.right s = true) :
    Calls Try.prog 63 #[.agg #[.int .i64 o.kind, .int .i64 o.k, .int .i64 o.width, .int .i64 o.step, .int .i64 o.side, .int .i64 o.frm, .int .i64 o.to, .slice S o.s.length c], .slice P p.length d, .slice X x.length f] w (RefP (Od.byKind o p x) w) := by
  have hk := Od.right_kind hr
  obtain ⟨-, c1, c2, c3⟩ := Od.counts_ok hcnt
  have c4 := Od.least_pos hr
  have c5 := Od.most_le hr
  have hpar : Od.params o = if o.kind = 8 then 2 else if o.kind = 9 ∨ o.kind = 10 then 1 else 0 := by unfold Od.params; rw [if_pos hr]
  have h1 : 1 ≤ x.length := by omega
  have hxl : x.length ≤ 1048576 := by omega
  by_cases k7 : o.kind ≤ 7
  · exact ref10_shape_pt o S P X c d f p x w k7 ho hsc hsm hw hS hP hX hxl h1 hp hx
  · have hh : o.kind = 8 ∨ o.kind = 9 ∨ o.kind = 10 ∨ (o.kind = 11 ∨ o.kind = 12) ∨ o.kind = 13 ∨ o.kind = 14 ∨ o.kind = 15 := by omega
    rcases hh with k | k | k | k | k | k | k
    · exact ref10_shape_dense o S P X c d f p x w k (by rw [hpar, if_pos k] at c3; omega) ho hsc hsm hw hS hP hX hxl h1 hp hx
    · exact ref10_shape_scale o S P X c d f p x w k (by rw [hpar, if_neg (by omega), if_pos (by omega)] at c3; omega) ho hsc hsm hw hS hP hX hxl h1 hp hx
    · exact ref10_shape_conv o S P X c d f p x w k (by rw [hpar, if_neg (by omega), if_pos (by omega)] at c3; omega) ho hsc hsm hw hS hP hX hxl h1 hp hx
    · exact ref10_shape_pool o S P X c d f p x w k ho hsc hsm hw hS hP hX hxl h1 hp hx
    · exact ref10_shape_join o S P X c d f p x w k ho hsc hsm hw hS hP hX hxl h1 hp hx
    · exact ref10_shape_cut o S P X c d f p x w k ho hsc hsm hw hS hP hX hxl h1 hp hx
    · exact ref10_shape_turn o S P X c d f p x w k ho hsc hsm hw hS hP hX hxl h1 hp hx
end Go.Proofs.Ytjkhpbngpceenaa
