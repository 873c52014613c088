/- Layer 7 (conv): the answer's shape: contract. -/
import Derived.Test.YtjkhpbngpceenaaShapeC
namespace Go.Proofs.Ytjkhpbngpceenaa
open Go.RowKit

theorem shp_info : (Try.prog.info? 3).map (fun i => (i.zero, i.size, i.bytes)) = some (some (.int .i64 0), 1, 8) := int_info
theorem Od.outs_succ (w x : List Int) (step : Int) (k : Nat) : Od.outs w x step (k + 1) = Od.outs w x step k ++ [(Od.wn w x step k).1] := by simp [Od.outs, List.range_succ]
theorem Od.outs_len (w x : List Int) (step : Int) (k : Nat) : (Od.outs w x step k).length = k + 1 := by simp [Od.outs]
theorem one_row (w : World) (t : TypeId) (n : Int) : (w.alloc (.cells #[.int .i64 n] t)).ownsRow w.heap.size t 1 (.slice (some ⟨w.heap.size, 0, none⟩) 1 1) 1 [.int .i64 n] :=
  ⟨by simp, .inr ⟨w.heap.size, 1, #[.int .i64 n], rfl, Nat.le_refl _, heap_alloc_new w _, Nat.le_refl _, by unfold maxLen; omega, by simp, by simp⟩⟩
theorem own_base {w : World} {B B' e size n : Nat} {v : Value} {xs : List Value} (h : w.ownsRow B e size v n xs) (hB : B' ≤ B) : w.ownsRow B' e size v n xs := by
  refine ⟨h.1, ?_⟩
  rcases h.2 with h1 | ⟨g, cap, cur, h1, h2, h3⟩
  · exact .inl h1
  · exact .inr ⟨g, cap, cur, h1, Nat.le_trans hB h2, h3⟩
theorem own_slice {w : World} {B e n : Nat} {v : Value} {zs : List Int} (h : w.ownsRow B e 1 v n (zs.map (Value.int .i64))) (hn : n = zs.length) (h0 : 0 < n) :
    ∃ g c, v = .slice (some ⟨g, 0, none⟩) n c ∧ B ≤ g ∧ g < w.heap.size ∧ Ints .i64 w (some ⟨g, 0, none⟩) zs ∧ (zs.length ≤ c ∧ c ≤ 9223372036854775807) := by
  subst hn
  rcases h.2 with ⟨rfl, h1⟩ | ⟨g, cap, cur, rfl, hb, hh, r1, r2, r3, r4⟩
  · omega
  · refine ⟨g, cap, rfl, hb, lt_of_block hh, Ints.of_row fun j hj => ?_, r1, by unfold maxLen at r2; omega⟩
    rw [Nat.zero_add, h.cellAt j (by simpa using hj)]
    simp [hj]
set_option maxHeartbeats 4000000 in
theorem conv_shape (A B : Option Addr) (c d : Nat) (ws xs : List Int) (step : Int) (w : World) (hl : ws.length ≤ 17592186043904) (hl' : xs.length ≤ 17592186043904) (hd : xs.length ≤ d) (hd' : d ≤ 9223372036854775807) (hI : Ints .i64 w A ws) (hJ : Ints .i64 w B xs) :
    Calls Try.prog 85 #[.slice A ws.length c, .slice B xs.length d, .int .i64 step] w (ShPost (Od.conv ws xs step) w) := by
  obtain ⟨i0, hi, hz0, hz1, hz2⟩ := info_parts int_info
  have hcall := shape_right A c ws w (by omega) hI
  have hcall2 := fun w1 (h1 : Below w.heap.size w w1) => shape_right B d xs w1 (by omega) (hJ.below h1 (Nat.le_refl _))
  cases hr : Sh.right ws
  · have HE := Lib.hid (show Od.conv ws xs step = ([], 20) by simp [Od.conv, hr])
    rw [hr] at hcall
    have Hr := Lib.hid hr
    have HI := Lib.hid hI
    have HJ := Lib.hid hJ
    have Hcall := Lib.hid hcall
    have Hcall2 := Lib.hid hcall2
    clear hr hI hJ hcall hcall2
    go_enter Try.func85, Try.ntmps85
    go_wp2_with fail
    refine (Hcall.out).mono ?_
    rintro e w1 ⟨rfl, h1⟩
    go_wp2_with fail
    go_ret2
    exact ShPost.fail HE.out h1
  rw [hr] at hcall
  cases hq : Sh.right xs
  · have HE := Lib.hid (show Od.conv ws xs step = ([], 20) by simp [Od.conv, hq])
    rw [hq] at hcall2
    have Hr := Lib.hid hr
    have Hq := Lib.hid hq
    have HI := Lib.hid hI
    have HJ := Lib.hid hJ
    have Hcall := Lib.hid hcall
    have Hcall2 := Lib.hid hcall2
    clear hr hq hI hJ hcall hcall2
    go_enter Try.func85, Try.ntmps85
    go_wp2_with fail
    refine (Hcall.out).mono ?_
    rintro e w1 ⟨rfl, h1⟩
    go_wp2_with fail
    refine (Hcall2.out _ h1).mono ?_
    rintro e w2 ⟨rfl, h2⟩
    go_wp2_with fail
    go_ret2
    exact ShPost.fail HE.out (h1.trans (h2.mono h1.size))
  rw [hq] at hcall2
  obtain ⟨_, a1, a2, a3, -⟩ := Sh.right_mul hr
  obtain ⟨_, b1, b2, b3, -⟩ := Sh.right_mul hq
  have bad : ¬ (2 ≤ xs.length ∧ xs.length ≤ 3 ∧ ws.length = xs.length + 1 ∧ ws.getD 1 0 = xs.getD 0 0) → Od.conv ws xs step = ([], 20) := fun h => by
    unfold Od.conv
    rw [if_neg (by simpa [hr, hq] using h)]
  have good : (2 ≤ xs.length ∧ xs.length ≤ 3 ∧ ws.length = xs.length + 1 ∧ ws.getD 1 0 = xs.getD 0 0) → Od.conv ws xs step = (if (List.range (xs.length - 1)).all (fun i => decide ((Od.wn ws xs step i).2 = 0)) then
      (if Sh.right (Od.outs ws xs step (xs.length - 1)) then (Od.outs ws xs step (xs.length - 1), 0) else ([], 20)) else ([], 11)) := fun h => by
    unfold Od.conv
    rw [if_pos (by simpa [hr, hq] using h)]
  have Hr := Lib.hid hr
  have Hq := Lib.hid hq
  have HI := Lib.hid hI
  have HJ := Lib.hid hJ
  have Hcall := Lib.hid hcall
  have Hcall2 := Lib.hid hcall2
  have Ha3 := Lib.hid a3
  have Hb3 := Lib.hid b3
  have Hgood := Lib.hid good
  clear hr hq hI hJ hcall hcall2 a3 b3 good
  by_cases c1 : xs.length < 2
  · have HE := Lib.hid (bad (by omega))
    clear bad
    go_enter Try.func85, Try.ntmps85
    go_wp2_with fail
    refine (Hcall.out).mono ?_
    rintro e w1 ⟨rfl, h1⟩
    go_wp2_with fail
    refine (Hcall2.out _ h1).mono ?_
    rintro e w2 ⟨rfl, h2⟩
    have d1 : decide ((xs.length : Int) < 2) = true := by simp; omega
    go_wp2_with fail
    go_quiet (fail)
    go_wp2_with fail
    go_ret2
    exact ShPost.fail HE.out (Bdrawn (h1.trans (h2.mono h1.size)) _)
  by_cases c2 : 3 < xs.length
  · have HE := Lib.hid (bad (by omega))
    clear bad
    go_enter Try.func85, Try.ntmps85
    go_wp2_with fail
    refine (Hcall.out).mono ?_
    rintro e w1 ⟨rfl, h1⟩
    go_wp2_with fail
    refine (Hcall2.out _ h1).mono ?_
    rintro e w2 ⟨rfl, h2⟩
    have d1 : decide ((xs.length : Int) < 2) = false := by simp; omega
    have d2 : decide (3 < (xs.length : Int)) = true := by simp; omega
    go_wp2_with fail
    go_quiet (fail)
    go_wp2_with fail
    go_ret2
    exact ShPost.fail HE.out (Bdrawn (h1.trans (h2.mono h1.size)) _)
  by_cases c3 : ws.length = xs.length + 1
  case neg =>
    have HE := Lib.hid (bad (by omega))
    clear bad
    go_enter Try.func85, Try.ntmps85
    go_wp2_with fail
    refine (Hcall.out).mono ?_
    rintro e w1 ⟨rfl, h1⟩
    go_wp2_with fail
    refine (Hcall2.out _ h1).mono ?_
    rintro e w2 ⟨rfl, h2⟩
    have d1 : decide ((xs.length : Int) < 2) = false := by simp; omega
    have d2 : decide (3 < (xs.length : Int)) = false := by simp; omega
    have d0 : IntKind.i64.wrap ((xs.length : Int) + 1) = (xs.length : Int) + 1 := IntWalk.i64_in _ (by omega)
    have d3 : ((ws.length : Int) != (xs.length : Int) + 1) = true := by simp; omega
    clear c3
    go_wp2_with fail
    go_quiet (fail)
    go_wp2_with fail
    go_ret2
    exact ShPost.fail HE.out (Bdrawn (h1.trans (h2.mono h1.size)) _)
  have d1 : decide ((xs.length : Int) < 2) = false := by simp; omega
  have d2 : decide (3 < (xs.length : Int)) = false := by simp; omega
  have d0 : IntKind.i64.wrap ((xs.length : Int) + 1) = (xs.length : Int) + 1 := IntWalk.i64_in _ (by omega)
  have d3 : ((ws.length : Int) != (xs.length : Int) + 1) = false := by simp; omega
  have e1 : (1 : Int) < ws.length := by omega
  have e0 : (0 : Int) < ws.length := by omega
  have f0 : (0 : Int) < xs.length := by omega
  obtain ⟨b, off, rfl, hb, -⟩ := HI.out 0 (by omega)
  obtain ⟨b', off', rfl, hb', -⟩ := HJ.out 0 (by omega)
  have HL := Lib.hid c3
  have n1 : 1 < ws.length := by omega
  have n0 : 0 < ws.length := by omega
  have m0 : 0 < xs.length := by omega
  have hcw : ∀ W, Below w.heap.size w W → ∀ k (hk : k < ws.length), W.cell? ⟨b, off + k, none⟩ = some (.int .i64 ws[k]) := fun W hW k hk => by
    exact (HI.out.below hW (Nat.le_refl _)).cell_at hk
  have hcx : ∀ W, Below w.heap.size w W → ∀ k (hk : k < xs.length), W.cell? ⟨b', off' + k, none⟩ = some (.int .i64 xs[k]) := fun W hW k hk => by
    exact (HJ.out.below hW (Nat.le_refl _)).cell_at hk
  have Hcw := Lib.hid hcw
  have Hcx := Lib.hid hcx
  clear hcw hcx
  clear c3
  by_cases c4 : ws[1] = xs[0]
  case neg =>
    have HE := Lib.hid (bad (by rw [getD_at n1, getD_at m0]; have := HL.out; omega))
    have d4 : (ws[1] != xs[0]) = true := by simp [c4]
    clear bad c4
    go_enter Try.func85, Try.ntmps85
    go_wp2_with fail
    refine (Hcall.out).mono ?_
    rintro e w1 ⟨rfl, h1⟩
    go_wp2_with fail
    refine (Hcall2.out _ h1).mono ?_
    rintro e w2 ⟨rfl, h2⟩
    have hb2 := h1.trans (h2.mono h1.size)
    have x1 := Hcw.out _ hb2 1 n1
    have y0 := Hcx.out _ hb2 0 m0
    rw [Nat.add_zero] at y0
    go_wp2_with fail
    go_quiet (fail)
    go_wp2_with fail
    go_ret2
    exact ShPost.fail HE.out (Bdrawn hb2 _)
  have d4 : (ws[1] != xs[0]) = false := by simp [c4]
  have hgood := Hgood.out ⟨by omega, by omega, HL.out, by rw [getD_at n1, getD_at m0]; exact c4⟩
  have HG := Lib.hid hgood
  clear bad c4 hgood Hgood
  go_enter Try.func85, Try.ntmps85
  go_wp2_with fail
  refine (Hcall.out).mono ?_
  rintro e w1 ⟨rfl, h1⟩
  go_wp2_with fail
  refine (Hcall2.out _ h1).mono ?_
  rintro e w2 ⟨rfl, h2⟩
  have hb2 := h1.trans (h2.mono h1.size)
  have x1 := Hcw.out _ hb2 1 n1
  have y0 := Hcx.out _ hb2 0 m0
  have x0 := Hcw.out _ hb2 0 n0
  rw [Nat.add_zero] at y0 x0
  go_wp2_with fail
  go_quiet (fail)
  have hb3 : Below w.heap.size w (w2.drewN nq) := Bdrawn hb2 _
  generalize w2.drewN nq = w3 at *
  have x0 := Hcw.out _ hb3 0 n0
  rw [Nat.add_zero] at x0
  go_wp2_with fail
  clear x1 y0 x0
  have hown : (w3.alloc (.cells #[.int .i64 ws[0]] 3)).ownsRow w.heap.size 3 1 (.slice (some ⟨w3.heap.size, 0, none⟩) 1 1) (0 + 1) ((Od.outs ws xs step 0).map (Value.int .i64)) := by
    have h := one_row w3 3 ws[0]
    rw [show (Od.outs ws xs step 0).map (Value.int .i64) = [.int .i64 ws[0]] by simp [Od.outs, n0]]
    exact own_base h hb3.size
  have HO := Lib.hid hown
  have hb4 : Below w.heap.size w (w3.alloc (.cells #[.int .i64 ws[0]] 3)) := hb3.alloc hb3.size _
  clear hown
  go_loopw [8, 53] (fun v i wr => ∃ k : Nat, k ≤ xs.length - 1 ∧ i = .int .i64 k ∧ wr.ownsRow w.heap.size 3 1 v (k + 1) ((Od.outs ws xs step k).map (Value.int .i64)) ∧ Below w.heap.size w wr ∧ ∀ j, j < k → (Od.wn ws xs step j).2 = 0) (fun _ i _ => xs.length - (intOf i).toNat)
  case atStart => exact ⟨0, Nat.zero_le _, rfl, HO.out, hb4, fun j h => by omega⟩
  case round =>
    obtain ⟨k, hk, rfl, hown, hbw, hall⟩ := hrel
    have HA := Lib.hid hall
    clear hall HO hb4 hb3 hb2
    by_cases hlt : k < xs.length - 1
    · have k0 : (0 : Int) ≤ k := by omega
      have p1 : k + 1 < xs.length := by omega
      have p2 : k + 2 < ws.length := by have := HL.out; omega
      have k1 : (k : Int) < ((xs.length - 1 : Nat) : Int) := by omega
      have k2 : ((k : Int) + 2) < (ws.length : Int) := by omega
      have w2 : IntKind.i64.wrap ((k : Int) + 2) = (k : Int) + 2 := IntWalk.i64_in _ (by omega)
      have t2 : ((k : Int) + 2).toNat = k + 2 := by omega
      have x1 := Hcx.out _ hbw (k + 1) p1
      have y1 := Hcw.out _ hbw (k + 2) p2
      rw [show off' + (k + 1) = off' + 1 + k by omega] at x1
      have hwn : Od.wn ws xs step k = Od.window xs[k + 1] ws[k + 2] step := by unfold Od.wn; rw [getD_at p1, getD_at p2]
      have HN := Lib.hid hwn
      have hcall := shape_window xs[k + 1] ws[k + 2] step
      rw [← hwn] at hcall
      have Hc := Lib.hid hcall
      clear hcall hwn
      have HW := Lib.hid hown
      clear hown
      by_cases hz : (Od.wn ws xs step k).2 = 0
      · have HZ := Lib.hid hz
        clear hz
        go_wp2_with fail
        refine (Hc.out _).mono ?_
        rintro e w5 ⟨rfl, rfl⟩
        rw [HZ.out]
        have hown := HW.out
        go_wp2_with (at_builtin; refine wpList_append_own _ rfl _ _ 23 rfl w.heap.size 3 i0 (.int .i64 0) 1 8 Try.underlying23 hi hz0 hz1 hz2 rfl (by decide) _ _ _ rfl (hown.alloc _) ⟨wr.heap.size, 0, none⟩ 1 1 [.int .i64 (Od.wn ws xs step k).1] rfl rfl (one_new _ _ _) (by intro u hu; simp at hu; subst hu; rfl) (by unfold maxLen; omega) (by omega) (by have := hbw.size; simp; omega) ?_)
        intro v' w6 hown' hgrow _
        have hb6 : Below w.heap.size w w6 := (hbw.alloc hbw.size _).grown hgrow (by have := hbw.size; simp; omega) (fun j hj => (HW.out.lt j hj).1)
        have HW' := Lib.hid hown'
        clear hown hown' hgrow
        go_wp2_with fail
        go_roundw
        case rel => exact ⟨k + 1, by omega, by go_num, by rw [Od.outs_succ, List.map_append]; exact HW'.out, hb6, fun j hj => by
          by_cases e : j = k
          · subst e; exact HZ.out
          · exact HA.out j (by omega)⟩
        case measure => simp [intOf]; omega
      · have HE := Lib.hid (show Od.conv ws xs step = ([], 11) by
          rw [HG.out, if_neg]
          rw [List.all_eq_true]
          intro h
          have := h k (List.mem_range.2 hlt)
          simp [hz] at this)
        have HZ := Lib.hid (show Od.wn ws xs step k = (0, 11) by rw [HN.out]; exact Od.window_err (by rw [← HN.out]; exact hz))
        clear hz
        go_wp2_with fail
        refine (Hc.out _).mono ?_
        rintro e w5 ⟨rfl, rfl⟩
        rw [HZ.out]
        go_wp2_with fail
        go_ret2
        exact ShPost.fail HE.out hbw
    · obtain rfl : k = xs.length - 1 := by omega
      have k1 : ¬ (((xs.length - 1 : Nat) : Int) < ((xs.length - 1 : Nat) : Int)) := by omega
      have hgo : Od.conv ws xs step = if Sh.right (Od.outs ws xs step (xs.length - 1)) then (Od.outs ws xs step (xs.length - 1), 0) else ([], 20) := by
        rw [HG.out, if_pos]
        rw [List.all_eq_true]
        intro j hj
        simp [HA.out j (List.mem_range.1 hj)]
      have hol := Od.outs_len ws xs step (xs.length - 1)
      rw [show xs.length - 1 + 1 = xs.length by omega] at hown hol
      generalize Od.outs ws xs step (xs.length - 1) = os at *
      obtain ⟨g, c2, rfl, hbg, hgc, hIg, hcc⟩ := own_slice hown hol.symm (by omega)
      have hcall3 := shape_right (some ⟨g, 0, none⟩) c2 os wr (by omega) hIg
      cases h5 : Sh.right os
      · have HE := Lib.hid (show Od.conv ws xs step = ([], 20) by rw [hgo, if_neg (by simp [h5])])
        rw [h5] at hcall3
        have Hcall3 := Lib.hid hcall3
        have HIg := Lib.hid hIg
        have Hgo := Lib.hid hgo
        have Hown := Lib.hid hown
        clear hcall3 hIg hgo hown
        rw [hol] at Hcall3
        clear hol h5
        go_wp2_with fail
        refine (Hcall3.out).mono ?_
        rintro e w4 ⟨rfl, h4⟩
        go_wp2_with fail
        go_ret2
        exact ShPost.fail HE.out (hbw.trans (h4.mono hbw.size))
      · have HE := Lib.hid (show Od.conv ws xs step = (os, 0) by rw [hgo, if_pos h5])
        rw [h5] at hcall3
        have Hcall3 := Lib.hid hcall3
        have HIg := Lib.hid hIg
        have Hgo := Lib.hid hgo
        have Hown := Lib.hid hown
        clear hcall3 hIg hgo hown
        rw [hol] at Hcall3
        have HOL := Lib.hid hol
        clear hol h5
        go_wp2_with fail
        refine (Hcall3.out).mono ?_
        rintro e w4 ⟨rfl, h4⟩
        go_wp2_with fail
        go_ret2
        exact ShPost.mk' HE.out HOL.out.symm (HIg.out.below h4 (Nat.le_refl _)) hcc.1 hcc.2 (fun a h => by injection h with h; subst h; exact hbg) (hbw.trans (h4.mono hbw.size))
end Go.Proofs.Ytjkhpbngpceenaa
