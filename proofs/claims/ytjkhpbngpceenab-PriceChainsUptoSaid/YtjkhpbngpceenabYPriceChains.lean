/- The statement Rows.PriceChainsUptoSaid is proved: for every input the law 'athanorlaw13.PriceChains' returns true, and each argument reads afterwards as it read before. Conditions: those of the row, no others. -/
import Derived.Below
import Derived.ChangeOld
import Derived.JoinedCond
import Derived.OpenShut
import Derived.ProofKit
import Derived.ShutString
import Derived.WalkKit
import Derived.Test.YtjkhpbngpceenabRows
import Derived.Test.YtjkhpbngpceenabZ07
set_option linter.unusedVariables false
/- Layer 13's statement PriceChains: the walk. -/
namespace Go.Proofs.Ytjkhpbngpceenab
open Go.RowKit
theorem netR_at {w w' : World} {A N : Option Addr} {n : NetD} (h : NetR w A N n) (hl : Later w w') : NetR w' A N n := h.below hl (Nat.le_refl _)
theorem Ints.row {w : World} {A : Option Addr} {zs : List Int} (h : Ints .i64 w A zs) (hz : 0 < zs.length) : ∃ b off, A = some ⟨b, off, none⟩ ∧ ∀ k (hk : k < zs.length), w.cell? ⟨b, off + k, none⟩ = some (.int .i64 zs[k]) := by
  obtain ⟨b, off, rfl, -, -⟩ := h 0 hz
  refine ⟨b, off, rfl, fun k hk => ?_⟩
  obtain ⟨b', o', e, -, hc⟩ := h k hk
  injection e with e; injection e with e1 e2; subst e1 e2
  rw [getD_at hk] at hc
  exact hc
theorem at_words {n : NetD} (h : Nt.check n = 0) {j : Nat} (hj : j ≤ n.nodes.length) : ∃ q : j < (Nt.words n).length, (Nt.words n)[j] = Nt.wAt n j := by
  have hl := Nt.words_len h
  refine ⟨by omega, ?_⟩
  unfold Nt.wAt
  rw [Int.toNat_natCast, List.getD_eq_getElem?_getD, List.getElem?_eq_getElem (by omega)]; rfl
theorem at_costs {n : NetD} {j : Nat} (hj : j ≤ n.nodes.length) : ∃ q : j < (Nt.costs n).length, (Nt.costs n)[j] = Nt.cAt n j := by
  have hl : (Nt.costs n).length = n.nodes.length + 1 := by simp [Nt.costs, Nt.costsTo_len]
  refine ⟨by omega, ?_⟩
  unfold Nt.cAt
  rw [Int.toNat_natCast, List.getD_eq_getElem?_getD, List.getElem?_eq_getElem (by omega)]; rfl
def WCut (n : NetD) (w : World) (a b : Value) (wx : World) : Prop :=
  ∃ A c A2 c2, a = .slice A (Nt.words n).length c ∧ b = .slice A2 (Nt.costs n).length c2 ∧ Ints .i64 wx A (Nt.words n) ∧ Ints .i64 wx A2 (Nt.costs n) ∧ Later w wx
set_option maxHeartbeats 16000000 in
set_option maxRecDepth 100000 in
theorem walkPriceChains (w : World) (A N : Option Addr) (c d : Nat) (n : NetD) (la : n.inn.length ≤ c) (lb : c ≤ 9223372036854775807) (lc : n.nodes.length ≤ d) (ld : d ≤ 9223372036854775807) (hR : NetR w A N n) (hf : n.fits) :
    Calls Try.prog 3 #[.agg #[.slice A n.inn.length c, .slice N n.nodes.length d]] w fun e w' => e = .returned (.bool true) ∧ Below w.heap.size w w' := by
  have hok := hf.ok
  have hk := Blk.new w 26 #[.slice A n.inn.length c, .slice N n.nodes.length d]
  have hl0 : Later w (w.alloc (.cells #[.slice A n.inn.length c, .slice N n.nodes.length d] 26)) := (Later.refl w).alloc _
  have Hok := Lib.hid hok
  have HR := Lib.hid hR
  have Hk := Lib.hid hk
  have Hl0 := Lib.hid hl0
  have Hf := Lib.hid hf
  clear hok hR hk hl0 hf
  go_enter Try.func3, Try.ntmps3
  go_wp2_with fail
  generalize w.alloc (.cells #[.slice A n.inn.length c, .slice N n.nodes.length d] 26) = w1 at *
  refine (smallP_13 A N c d n w1 Hok.out (HR.out.below Hl0.out (Nat.le_refl _))).mono ?_
  rintro e w2 ⟨b, rfl, hsm, hb2⟩
  have hl2 := Hl0.out.call hb2
  have hk2 := (show Later w1 w2 from hb2).blk Hk.out
  clear hb2 Hk Hl0
  cases b
  · have Hk2 := Lib.hid hk2
    have Hl2 := Lib.hid hl2
    clear hk2 hl2
    clear hsm
    go_wp2_with fail
    refine (awake13 _).mono ?_
    rintro e w3 ⟨rfl, hb3⟩
    go_wp2_with fail
    go_ret
    exact ⟨rfl, Hl2.out.call hb3⟩
  have hsm := hsm rfl
  have hsm2 : n.nodes.length ≤ 200 := by omega
  have x0 : w2.cell? ⟨w.heap.size, 0, none⟩ = some (.slice A n.inn.length c) := by rw [hk2.cell]; rfl
  have x1 : w2.cell? ⟨w.heap.size, 1, none⟩ = some (.slice N n.nodes.length d) := by rw [hk2.cell]; rfl
  have Hk2 := Lib.hid hk2
  have Hl2 := Lib.hid hl2
  clear hk2 hl2
  go_wp2_with fail
  refine (price_chain A N c d n _ Hok.out (HR.out.below Hl2.out (Nat.le_refl _)) lc hsm2).mono ?_
  rintro e w3 ⟨hb3, hcase⟩
  have hl3 := Hl2.out.call hb3
  have hk3 := (show Later w2 w3 from hb3).blk Hk2.out
  have z0 : w3.cell? ⟨w.heap.size, 0, none⟩ = some (.slice A n.inn.length c) := by rw [hk3.cell]; rfl
  have z1 : w3.cell? ⟨w.heap.size, 1, none⟩ = some (.slice N n.nodes.length d) := by rw [hk3.cell]; rfl
  clear x0 x1 hb3 Hk2 Hl2
  rcases hcase with ⟨hc, hch, B, bc, B2, bc2, rfl, hB, hB2⟩ | ⟨hc, hch, rfl⟩ | ⟨hc, rfl⟩
  · have hso : (Nt.sorted n.nodes).length = n.nodes.length := (Nt.check_ok hc).2.2.2.2.1
    have hrng : ∀ u ∈ Nt.sorted n.nodes, 1 ≤ u ∧ u ≤ n.nodes.length := Kn.order_rng _ _
    have hcw : Nt.chainW n = Nt.wAt n 0 :: (Nt.sorted n.nodes).map (Nt.wAt n) := rfl
    have hcc : Nt.chainC n = (Nt.sorted n.nodes).map (Nt.cAt n) := rfl
    have Hk3 := Lib.hid hk3
    have Hl3 := Lib.hid hl3
    have Hc := Lib.hid hc
    have Hch := Lib.hid hch
    have HB := Lib.hid hB
    have HB2 := Lib.hid hB2
    have Hso := Lib.hid hso
    have Hrng := Lib.hid hrng
    have Hcw := Lib.hid hcw
    have Hcc := Lib.hid hcc
    clear hk3 hl3 hc hch hB hB2 hso hrng hcw hcc
    go_wp2_with fail
    refine (ref_13 A N c d n _ Hok.out (HR.out.below Hl3.out (Nat.le_refl _))).mono ?_
    rintro e w4 ⟨N', d', rfl, hR4, hd4, hm4, hb4⟩
    have hl4 := Hl3.out.call hb4
    have h34 : Later w3 w4 := hb4
    clear z0 z1 hb4
    have Hl4 := Lib.hid hl4
    have HR4 := Lib.hid hR4
    have H34 := Lib.hid h34
    clear hl4 hR4 h34
    go_wp2_with fail
    refine (ref11_check A N' c d' n _ Hok.out HR4.out hd4 la lb).mono ?_
    rintro e w5 ⟨hb5, ⟨-, g, rfl, -, -⟩ | ⟨hc', -⟩⟩
    rotate_left
    · exact absurd Hc.out hc'
    have h35 := H34.out.call hb5
    have hl5 := Hl3.out.trans h35
    have y0 : w5.cell? ⟨w.heap.size, 0, none⟩ = some (.slice A n.inn.length c) := by rw [(h35.blk Hk3.out).cell]; rfl
    have y1 : w5.cell? ⟨w.heap.size, 1, none⟩ = some (.slice N n.nodes.length d) := by rw [(h35.blk Hk3.out).cell]; rfl
    clear hb5
    have H35 := Lib.hid h35
    have Hl5 := Lib.hid hl5
    clear h35 hl5
    go_wp2_with fail
    refine (net_chain A N c d n _ Hok.out (HR.out.below Hl5.out (Nat.le_refl _)) lc).mono ?_
    rintro e w6 ⟨rfl, hb6⟩
    rw [Hch.out]
    have h36 := H35.out.call hb6
    have hl6 := Hl3.out.trans h36
    have x0 : w6.cell? ⟨w.heap.size, 0, none⟩ = some (.slice A n.inn.length c) := by rw [(h36.blk Hk3.out).cell]; rfl
    have x1 : w6.cell? ⟨w.heap.size, 1, none⟩ = some (.slice N n.nodes.length d) := by rw [(h36.blk Hk3.out).cell]; rfl
    clear hb6 y0 y1
    have H36 := Lib.hid h36
    have Hl6 := Lib.hid hl6
    clear h36 hl6
    go_upto_region 9 with fail
    have hz0 := Lib.hid x0
    have hz1 := Lib.hid x1
    go_cut [9, 10] (WCut n w6)
    case first =>
      go_region_held3 (fun W => W.cell? ⟨w.heap.size, 0, none⟩ = some (.slice A n.inn.length c) ∧ W.cell? ⟨w.heap.size, 1, none⟩ = some (.slice N n.nodes.length d)) (first | (with_reducible exact ⟨x0, x1⟩) | exact ⟨Later.cell (show Later w6 _ by repeat (first | (with_reducible exact Later.refl _) | (with_reducible apply Later.drew) | (with_reducible apply Later.alloc) | (with_reducible refine Later.call ?_ (by assumption)))) x0, Later.cell (show Later w6 _ by repeat (first | (with_reducible exact Later.refl _) | (with_reducible apply Later.drew) | (with_reducible apply Later.alloc) | (with_reducible refine Later.call ?_ (by assumption)))) x1⟩)
        (first
        | (go_at_call 10; refine (ref_13 A N c d n _ Hok.out (netR_at (netR_at HR.out Hl6.out) (show Later w6 _ by repeat (first | (with_reducible exact Later.refl _) | (with_reducible apply Later.drew) | (with_reducible apply Later.alloc) | (with_reducible refine Later.call ?_ (by assumption)))))).mono ?_; rintro e wr ⟨Nr, dr, rfl, hRr, hdr, hmr, hbr⟩)
        | (go_at_call 12; refine (ref13_words A _ c _ n _ Hok.out (netR_at (by assumption) (by repeat (first | (with_reducible exact Later.refl _) | (with_reducible apply Later.drew) | (with_reducible apply Later.alloc) | (with_reducible refine Later.call ?_ (by assumption))))) (by assumption) la lb Hc.out).mono ?_; rintro e ww ⟨Aw, cw, rfl, hIw, hw1, hw2, hbw⟩)
        | (go_at_call 13; refine (ref13_cost A _ c _ n _ Hok.out (netR_at (by assumption) (by repeat (first | (with_reducible exact Later.refl _) | (with_reducible apply Later.drew) | (with_reducible apply Later.alloc) | (with_reducible refine Later.call ?_ (by assumption))))) (by assumption) la lb Hc.out).mono ?_; rintro e wk ⟨Ak, ck, rfl, hIk, hk1, hk2, hbk⟩))
      all_goals
        go_wp2_with fail
        go_meet
        refine ⟨_, _, _, _, rfl, rfl, ?_, ?_, ?_⟩
        · exact hIw.below (show Later ww _ by repeat (first | (with_reducible exact Later.refl _) | (with_reducible apply Later.drew) | (with_reducible apply Later.alloc) | (with_reducible refine Later.call ?_ (by assumption)))) (Nat.le_refl _)
        · exact hIk.below (show Later wk _ by repeat (first | (with_reducible exact Later.refl _) | (with_reducible apply Later.drew) | (with_reducible apply Later.alloc) | (with_reducible refine Later.call ?_ (by assumption)))) (Nat.le_refl _)
        · exact (show Later w6 _ by repeat (first | (with_reducible exact Later.refl _) | (with_reducible apply Later.drew) | (with_reducible apply Later.alloc) | (with_reducible refine Later.call ?_ (by assumption))))
    case rest =>
      obtain ⟨Aw, cw, Ak, ck, rfl, rfl, hIw, hIk, hlc⟩ := hcut
      have hlc' := Hl6.out.trans hlc
      have hB' := HB.out.below (H36.out.trans hlc) (Nat.le_refl _)
      have hB2' := HB2.out.below (H36.out.trans hlc) (Nat.le_refl _)
      have x0' := hlc.cell hz0.out
      have x1' := hlc.cell hz1.out
      clear x0 x1 hz0 hz1
      have HIw := Lib.hid hIw
      have HIk := Lib.hid hIk
      have Hlc := Lib.hid hlc
      have Hlc' := Lib.hid hlc'
      have HB' := Lib.hid hB'
      have HB2' := Lib.hid hB2'
      clear hIw hIk hlc hlc' hB' hB2'
      go_wp2_with fail
      refine (ref_13 A N c d n _ Hok.out (HR.out.below Hlc'.out (Nat.le_refl _))).mono ?_
      rintro e w7 ⟨N7, d7, rfl, hR7, hd7, hm7, hb7⟩
      have hl7 : Later wc w7 := hb7
      clear hb7 x0' x1'
      have Hl7 := Lib.hid hl7
      have HR7 := Lib.hid hR7
      clear hl7 hR7
      go_wp2_with fail
      refine (ref11_order A N7 c d7 n _ Hok.out HR7.out).mono ?_
      rintro e w8 ⟨P, pc, rfl, hP, hp1, hp2, hb8⟩
      have hl8 := Hl7.out.call hb8
      have hlw8 := Hlc'.out.trans hl8
      have hwl := Nt.words_len Hc.out
      have hkl : (Nt.costs n).length = n.nodes.length + 1 := by simp [Nt.costs, Nt.costsTo_len]
      have hBl : (Nt.chainW n).length = n.nodes.length + 1 := by rw [Hcw.out, List.length_cons, List.length_map, Hso.out]
      have hB2l : (Nt.chainC n).length = n.nodes.length := by rw [Hcc.out, List.length_map, Hso.out]
      obtain ⟨bB, oB, rfl, cB⟩ := (HB'.out.below hl8 (Nat.le_refl _)).row (by omega)
      obtain ⟨bW, oW, rfl, cW⟩ := (HIw.out.below hl8 (Nat.le_refl _)).row (by omega)
      obtain ⟨bK, oK, rfl, cK⟩ := (HIk.out.below hl8 (Nat.le_refl _)).row (by omega)
      have hB28 := HB2'.out.below hl8 (Nat.le_refl _)
      have hwat : ∀ (q : Nat), ∀ j, j ≤ n.nodes.length → (w8.drewN q).cell? ⟨bW, oW + j, none⟩ = some (.int .i64 (Nt.wAt n j)) := fun q j hj => by
        obtain ⟨h1, h2⟩ := at_words Hc.out hj
        have := cW j h1
        rw [h2] at this
        exact this
      have hkat : ∀ (q : Nat), ∀ j, j ≤ n.nodes.length → (w8.drewN q).cell? ⟨bK, oK + j, none⟩ = some (.int .i64 (Nt.cAt n j)) := fun q j hj => by
        obtain ⟨h1, h2⟩ := at_costs (n := n) hj
        have := cK j h1
        rw [h2] at this
        exact this
      have hB0 : w8.cell? ⟨bB, oB, none⟩ = some (.int .i64 (Nt.wAt n 0)) := by
        have := cB 0 (by omega)
        rw [Nat.add_zero] at this
        rw [this]
        simp [Hcw.out]
      have hW0 : w8.cell? ⟨bW, oW, none⟩ = some (.int .i64 (Nt.wAt n 0)) := by
        have := hwat 0 0 (Nat.zero_le _)
        rw [Nat.add_zero] at this
        exact this
      have hBk : ∀ (q k : Nat), ∀ hk : k < (Nt.sorted n.nodes).length, (w8.drewN q).cell? ⟨bB, oB + (k + 1), none⟩ = some (.int .i64 (Nt.wAt n (Nt.sorted n.nodes)[k])) := fun q k hk => by
        have := cB (k + 1) (by rw [hBl]; rw [Hso.out] at hk; omega)
        rw [show (w8.drewN q).cell? ⟨bB, oB + (k + 1), none⟩ = _ from this]
        simp [Hcw.out]
      have hB2k : ∀ (q k : Nat), ∀ hk : k < (Nt.sorted n.nodes).length, ∃ b o, B2 = some ⟨b, o, none⟩ ∧ (w8.drewN q).cell? ⟨b, o + k, none⟩ = some (.int .i64 (Nt.cAt n (Nt.sorted n.nodes)[k])) := fun q k hk => by
        obtain ⟨b, o, e, cc⟩ := hB28.row (by rw [hB2l]; rw [Hso.out] at hk; omega)
        refine ⟨b, o, e, ?_⟩
        have := cc k (by rw [hB2l]; rw [Hso.out] at hk; exact hk)
        rw [show (w8.drewN q).cell? ⟨b, o + k, none⟩ = _ from this]
        simp [Hcc.out]
      have hso' := Hso.out
      have hnn : n.nodes.length = (Nt.sorted n.nodes).length := hso'.symm
      rw [hwl, hkl]
      generalize Nt.sorted n.nodes = os at *
      have hos : os.length ≤ 200 := by omega
      generalize Nt.wAt n 0 = w00 at *
      clear cB cW cK hb8 hso' hBl hB2l hwl hkl
      rw [hnn]
      have Hl8 := Lib.hid hl8
      have Hlw8 := Lib.hid hlw8
      have HB28 := Lib.hid hB28
      have Hwat := Lib.hid hwat
      have Hkat := Lib.hid hkat
      have HBk := Lib.hid hBk
      have HB2k := Lib.hid hB2k
      have HP := Lib.hid hP
      have Hnn := Lib.hid hnn
      clear hl8 hlw8 hB28 hwat hkat hBk hB2k hP hnn
      clear hm7 hd7
      have o1 : (0 : Int) < (os.length : Int) + 1 := by omega
      go_wp2_with fail
      go_quiet (fail)
      go_wp2_with fail
      clear hB0 hW0 o1
      go_loopw [104] (fun i wx => ∃ k q : Nat, k ≤ os.length ∧ i = .int .i64 (k : Int) ∧ wx = w8.drewN q) (fun i _ => os.length - (intOf i).toNat)
      case atStart => exact ⟨0, _, Nat.zero_le _, rfl, rfl⟩
      case round =>
        obtain ⟨k, q, hk, rfl, hwx⟩ := hrel
        by_cases hlt : k < os.length
        · have hr := Hrng.out _ (List.getElem_mem hlt)
          obtain ⟨b, off, rfl, cP⟩ := HP.out.row (by omega)
          have cP := cP k hlt
          have c1 := HBk.out q k hlt
          obtain ⟨b2, o2, rfl, c2⟩ := HB2k.out q k hlt
          obtain ⟨j, hj⟩ : ∃ j : Nat, os[k] = (j : Int) := ⟨os[k].toNat, by omega⟩
          rw [hj] at c1 c2 cP hr
          have c3 := Hwat.out q j (by omega)
          have c4 := Hkat.out q j (by omega)
          have cP' : wr.cell? ⟨b, off + k, none⟩ = some (.int .i64 (j : Int)) := by rw [hwx]; exact cP
          rw [← hwx] at c1 c2 c3 c4
          have hnn := Hnn.out
          have j0 : (0 : Int) ≤ (j : Int) := by omega
          have j1 : (j : Int) < (os.length : Int) + 1 := by omega
          have k0 : (0 : Int) ≤ (k : Int) := by omega
          have k1 : (k : Int) < (os.length : Int) := by omega
          have k2 : (k : Int) + 1 < (os.length : Int) + 1 := by omega
          have k3 : IntKind.i64.wrap ((k : Int) + 1) = (k : Int) + 1 := IntWalk.i64_in _ (by omega)
          have k4 : ((k : Int) + 1).toNat = k + 1 := by omega
          have k5 : (0 : Int) ≤ (k : Int) + 1 := by omega
          generalize Nt.wAt n (j : Int) = wj at *
          generalize Nt.cAt n (j : Int) = cj at *
          clear hnn hr hj cP
          have Hwx := Lib.hid hwx
          clear hwx
          go_wp2_with fail
          go_quiet (fail)
          clear k2 k3 k4 k5
          go_wp2_with fail
          go_roundw
          case rel => exact ⟨k + 1, _, by omega, by go_num, by rw [Hwx.out]; first | rfl | exact World.drewN_drewN _ _ _⟩
          case measure => simp [intOf]; omega
        · obtain rfl : k = os.length := by omega
          subst hwx
          go_wp2_with fail
          refine (awake13 _).mono ?_
          rintro e w9 ⟨rfl, hb9⟩
          go_wp2_with fail
          go_ret
          exact ⟨rfl, (Hlw8.out.drewN q).call hb9⟩
  · have q0 : (Nt.check n != 0) = false := by simp [hc]
    have Hk3 := Lib.hid hk3
    have Hl3 := Lib.hid hl3
    have Hc := Lib.hid hc
    have Hch := Lib.hid hch
    clear hk3 hl3 hc hch
    go_wp2_with fail
    refine (ref_13 A N c d n _ Hok.out (HR.out.below Hl3.out (Nat.le_refl _))).mono ?_
    rintro e w4 ⟨N', d', rfl, hR4, hd4, hm4, hb4⟩
    have hl4 := Hl3.out.call hb4
    have h34 : Later w3 w4 := hb4
    clear z0 z1 hb4
    have Hl4 := Lib.hid hl4
    have HR4 := Lib.hid hR4
    have H34 := Lib.hid h34
    clear hl4 hR4 h34
    go_wp2_with fail
    refine (ref11_check A N' c d' n _ Hok.out HR4.out hd4 la lb).mono ?_
    rintro e w5 ⟨hb5, ⟨-, g, rfl, -, -⟩ | ⟨hc', -⟩⟩
    rotate_left
    · exact absurd Hc.out hc'
    have h35 := H34.out.call hb5
    have hl5 := Hl3.out.trans h35
    have y0 : w5.cell? ⟨w.heap.size, 0, none⟩ = some (.slice A n.inn.length c) := by rw [(h35.blk Hk3.out).cell]; rfl
    have y1 : w5.cell? ⟨w.heap.size, 1, none⟩ = some (.slice N n.nodes.length d) := by rw [(h35.blk Hk3.out).cell]; rfl
    clear hb5
    have H35 := Lib.hid h35
    have Hl5 := Lib.hid hl5
    clear h35 hl5
    go_wp2_with fail
    refine (net_chain A N c d n _ Hok.out (HR.out.below Hl5.out (Nat.le_refl _)) lc).mono ?_
    rintro e w6 ⟨rfl, hb6⟩
    rw [Hch.out]
    have hl6 := Hl5.out.call hb6
    clear hb6 y0 y1
    have Hl6 := Lib.hid hl6
    clear hl6
    go_wp2_with fail
    refine (awake13 _).mono ?_
    rintro e w9 ⟨rfl, hb9⟩
    go_wp2_with fail
    go_ret
    exact ⟨rfl, Hl6.out.call hb9⟩
  · have Hk3 := Lib.hid hk3
    have Hl3 := Lib.hid hl3
    have Hc := Lib.hid hc
    clear hk3 hl3 hc
    go_wp2_with fail
    refine (ref_13 A N c d n _ Hok.out (HR.out.below Hl3.out (Nat.le_refl _))).mono ?_
    rintro e w4 ⟨N', d', rfl, hR4, hd4, hm4, hb4⟩
    have hl4 := Hl3.out.call hb4
    clear z0 z1 hb4
    have Hl4 := Lib.hid hl4
    have HR4 := Lib.hid hR4
    clear hl4 hR4
    go_wp2_with fail
    refine (ref11_check A N' c d' n _ Hok.out HR4.out hd4 la lb).mono ?_
    rintro e w5 ⟨hb5, ⟨hc', -⟩ | ⟨-, rfl⟩⟩
    · exact absurd hc' Hc.out
    have hl5 := Hl4.out.call hb5
    have hc := Hc.out
    generalize Nt.check n = ck at *
    have q0 : (ck != 0) = true := by simpa using hc
    clear hb5 hc
    have Hl5 := Lib.hid hl5
    clear hl5
    go_wp2_with fail
    refine (awake13 _).mono ?_
    rintro e w9 ⟨rfl, hb9⟩
    go_wp2_with fail
    go_ret
    exact ⟨rfl, Hl5.out.call hb9⟩
end Go.Proofs.Ytjkhpbngpceenab
namespace Go.Proofs.Ytjkhpbngpceenab.priceChains
open Go.ChangeShapes Go.WideShapes Go.ChangeAt Go.RowKit
open Go.ChangeMaps (open_string shut_string)

theorem own : ownKnob Try.prog.godebug = none := by kernel_rfl
theorem laidOut : laidOutB Try.prog = true := by kernel_rfl

set_option maxRecDepth 100000 in
theorem lifted (os : Os) (started : os.Started) (H : Type) (enc : TypeId × Value → H) (Fi : Stop.Interp) :
    ReturnsInHanded {} Try.checked os 3 .any ((Rows.OpenSpec.upto Rows.priceChainsSpec).pre6 enc Try.prog Try.f3 Rows.priceChainsUptoRow.domain false) (((Rows.OpenSpec.upto Rows.priceChainsSpec).at Fi).post enc Try.prog Try.f3 false true false false) := by
  refine returnsInHanded_of_cond (C := Try.checked) (s := Rows.OpenSpec.upto Rows.priceChainsSpec) (k := Rows.uptoSmall) rfl own started (by kernel_rfl) Try.func3
    (OpenSpec.witness (enc := enc) (C := Try.checked) (s := Rows.OpenSpec.upto Rows.priceChainsSpec) (k := Rows.uptoSmall) rfl false ⟨#[], #[.agg #[.slice none 0 0, .slice none 0 0]], []⟩ 8 (by kernel_rfl) (by kernel_rfl) (by kernel_rfl)
      (x := ([.agg [.nil, .nil]], [], [])) (by kernel_rfl) rfl (by kernel_rfl)) ?_
  intro W base args ds gs before hval0 hW hcnd hbulk _
  have hval : ∀ (j : Nat) t v, Try.f3.params[j]? = some t → args[j]? = some v → Value.okWide Try.prog W .any base t v := hval0
  have hW' := hW
  obtain ⟨p, q, hA0, hV, rfl, hfz, hnd⟩ := hW
  have hA : DataW.TrodAll enc Try.prog W 0 (fun _ => true) true Try.f3.params.toList args.toList ds p := hA0
  rw [Try.params3] at hA hval
  obtain ⟨v0, vs0, d0, ds0, p0, q0, hargs, rfl, rfl, h0, r0⟩ := trodAll_cons hA
  obtain ⟨rfl, rfl, rfl⟩ := trodAll_nil r0
  obtain rfl : args = #[v0] := by cases args; simp_all
  obtain ⟨rfl, rfl⟩ := trodVars_none hV
  have hbk : Rows.uptoBulkAll ([d0] ++ []) ≤ 1048576 := of_decide_eq_true hbulk
  have hz0 : Rows.uptoBulk d0 ≤ 1048576 := Nat.le_trans (bulk_part (by simp)) hbk
  have k0 := h0
  have lt0 : ∀ x ∈ p0, x.block < W.heap.size := by obtain ⟨m, hm⟩ := k0; exact DataW.trod_lt m _ _ _ hm
  obtain ⟨A0, N0, c10, c20, n0, rfl, la0, lb0, lc0, ld0, hS0, hw0⟩ := net_open (hval 0 26 v0 rfl rfl) h0 hz0
  clear hA0 hval0
  refine (walkPriceChains W A0 N0 c10 c20 n0 la0 lb0 lc0 ld0 hS0 hw0).mono fun e W' ⟨he, bel⟩ => ?_
  subst he
  exact ⟨_, rfl, _, _, _, [], _, [], hW', trodAll_mk1 (shut_bool Try.underlying4 _), (trodAll_cons_mk (Below.trod laidOut (by kernel_rfl) (of_decide_eq_true (by kernel_rfl)) k0 bel lt0) trodAll_mk0), rfl, bel.frame _, fun h => by cases h⟩

theorem over : Rows.priceChainsUptoRow.holds Try.pinned (Rows.OpenSpec.upto Rows.priceChainsSpec) :=
  OpenClaim.holds_of_cond 3 Try.f3 rfl rfl rfl rfl rfl rfl rfl ⟨rfl, rfl, rfl, rfl, rfl⟩ rfl rfl rfl rfl rfl (by kernel_rfl) Try.func3 (by kernel_rfl)
    (of_decide_eq_true (by kernel_rfl)) (by unfold Func.isWrapper; first | (rw [if_pos (by decide +kernel)]; kernel_rfl) | (rw [if_neg (by decide +kernel)]; exact ⟨rfl, rfl⟩))
    (fun os started H enc _ Fi => lifted os started H enc Fi)
end Go.Proofs.Ytjkhpbngpceenab.priceChains
namespace Go.Proofs.Ytjkhpbngpceenab
theorem priceChains_holds : Rows.PriceChainsUptoSaid := priceChains.over
#print axioms priceChains_holds
end Go.Proofs.Ytjkhpbngpceenab
