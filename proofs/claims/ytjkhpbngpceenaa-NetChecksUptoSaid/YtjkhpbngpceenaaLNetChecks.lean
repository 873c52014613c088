/- Layer 11's statement NetChecks: the walk. -/
import Derived.Test.YtjkhpbngpceenaaAwakeN
import Derived.Test.YtjkhpbngpceenaaLawR
import Derived.Test.YtjkhpbngpceenaaRefC
namespace Go.Proofs.Ytjkhpbngpceenaa
open Go.RowKit
set_option maxHeartbeats 8000000 in
set_option maxRecDepth 100000 in
theorem walkNetChecks (w : World) (A N : Option Addr) (c d : Nat) (n : NetD) (la : n.inn.length ≤ c) (lb : c ≤ 9223372036854775807) (lc : n.nodes.length ≤ d) (ld : d ≤ 9223372036854775807) (hR : NetR w A N n) (hf : n.fits) :
    Calls Try.prog 6 #[.agg #[.slice A n.inn.length c, .slice N n.nodes.length d]] w fun e w' => e = .returned (.bool true) ∧ Below w.heap.size w w' := by
  have hok := hf.ok
  have hk := Blk.new w 26 #[.slice A n.inn.length c, .slice N n.nodes.length d]
  have hl0 : Later w (w.alloc (.cells #[.slice A n.inn.length c, .slice N n.nodes.length d] 26)) := (Later.refl w).alloc _
  have hnl := hok.2.1
  have Hok := Lib.hid hok
  have HR := Lib.hid hR
  have Hk := Lib.hid hk
  have Hl0 := Lib.hid hl0
  have Hf := Lib.hid hf
  clear hok hR hk hl0 hf
  go_enter Try.func6, Try.ntmps6
  go_wp2_with fail
  generalize w.alloc (.cells #[.slice A n.inn.length c, .slice N n.nodes.length d] 26) = w1 at *
  refine (small_11 A N c d n w1 Hok.out (HR.out.below Hl0.out (Nat.le_refl _))).mono ?_
  rintro e w2 ⟨b, rfl, hb2⟩
  have hl2 := Hl0.out.call hb2
  have hk2 := (show Later w1 w2 from hb2).blk Hk.out
  clear hb2 Hk Hl0
  cases b
  · have Hk2 := Lib.hid hk2
    have Hl2 := Lib.hid hl2
    clear hk2 hl2
    go_wp2_with fail
    refine (awake11 _).mono ?_
    rintro e w3 ⟨rfl, hb3⟩
    go_wp2_with fail
    go_ret
    exact ⟨rfl, Hl2.out.call hb3⟩
  · have x0 : w2.cell? ⟨w.heap.size, 0, none⟩ = some (.slice A n.inn.length c) := by rw [hk2.cell]; rfl
    have x1 : w2.cell? ⟨w.heap.size, 1, none⟩ = some (.slice N n.nodes.length d) := by rw [hk2.cell]; rfl
    have Hk2 := Lib.hid hk2
    have Hl2 := Lib.hid hl2
    clear hk2 hl2
    go_wp2_with fail
    refine (ref_11 A N c d n _ Hok.out (HR.out.below Hl2.out (Nat.le_refl _))).mono ?_
    rintro e w4 ⟨N', d', rfl, hR4, hd4, hm4, hb4⟩
    have hl4 := Hl2.out.call hb4
    have hk4 := (show Later w2 w4 from hb4).blk Hk2.out
    clear x0 x1 hb4
    have Hk4 := Lib.hid hk4
    have Hl4 := Lib.hid hl4
    have HR4 := Lib.hid hR4
    clear hk4 hl4 hR4
    go_wp2_with fail
    refine (ref11_check A N' c d' n _ Hok.out HR4.out hd4 la lb).mono ?_
    rintro e w5 ⟨hb5, ⟨hc, g, rfl, hg, hrow⟩ | ⟨hc, rfl⟩⟩
    all_goals
      have hl5 := Hl4.out.call hb5
      have hk5 := (show Later w4 w5 from hb5).blk Hk4.out
      have x0 : w5.cell? ⟨w.heap.size, 0, none⟩ = some (.slice A n.inn.length c) := by rw [hk5.cell]; rfl
      have x1 : w5.cell? ⟨w.heap.size, 1, none⟩ = some (.slice N n.nodes.length d) := by rw [hk5.cell]; rfl
      clear hb5 Hk4 Hl4
    · have Hk5 := Lib.hid hk5
      have Hl5 := Lib.hid hl5
      have Hrow := Lib.hid hrow
      have Hc := Lib.hid hc
      clear hk5 hl5 hrow hc
      go_wp2_with fail
      refine (net_shapes A N c d n _ Hok.out (HR.out.below Hl5.out (Nat.le_refl _)) lc).mono ?_
      rintro e w6 ⟨hb6, ⟨-, g2, rfl, -, hrow2⟩ | ⟨hc', -⟩⟩
      rotate_left
      · exact absurd Hc.out hc'
      have hl6 := Hl5.out.call hb6
      have hk6 := (show Later w5 w6 from hb6).blk Hk5.out
      have hrow6 := Hrow.out.below hb6 (Nat.le_refl _)
      have y0 : w6.cell? ⟨w.heap.size, 0, none⟩ = some (.slice A n.inn.length c) := by rw [hk6.cell]; rfl
      have y1 : w6.cell? ⟨w.heap.size, 1, none⟩ = some (.slice N n.nodes.length d) := by rw [hk6.cell]; rfl
      clear hb6 x0 x1
      have Hk6 := Lib.hid hk6
      have Hl6 := Lib.hid hl6
      have Hrow6 := Lib.hid hrow6
      have Hrow2 := Lib.hid hrow2
      clear hk6 hl6 hrow6 hrow2
      go_wp2_with fail
      refine (net_loss A N c d n _ Hok.out (HR.out.below Hl6.out (Nat.le_refl _)) lc).mono ?_
      rintro e w7 ⟨rfl, hb7⟩
      rw [show lossE n = Nt.loss n.nodes by unfold lossE; rw [if_pos Hc.out], Hc.out]
      have hl7 := Hl6.out.call hb7
      have hk7 := (show Later w6 w7 from hb7).blk Hk6.out
      have hrow7 := Hrow6.out.below hb7 (Nat.le_refl _)
      have hrow27 := Hrow2.out.below hb7 (Nat.le_refl _)
      have x0 : w7.cell? ⟨w.heap.size, 0, none⟩ = some (.slice A n.inn.length c) := by rw [hk7.cell]; rfl
      have x1 : w7.cell? ⟨w.heap.size, 1, none⟩ = some (.slice N n.nodes.length d) := by rw [hk7.cell]; rfl
      clear hb7 y0 y1
      have Hk7 := Lib.hid hk7
      have Hl7 := Lib.hid hl7
      have Hrow7 := Lib.hid hrow7
      have Hrow27 := Lib.hid hrow27
      clear hk7 hl7 hrow7 hrow27
      go_wp2_with fail
      refine (net_check A N c d n _ Hok.out (HR.out.below Hl7.out (Nat.le_refl _)) lc).mono ?_
      rintro e w8 ⟨rfl, hb8⟩
      rw [Hc.out]
      have hl8 := Hl7.out.call hb8
      have hrow8 := Hrow7.out.below hb8 (Nat.le_refl _)
      have hrow28 := Hrow27.out.below hb8 (Nat.le_refl _)
      have hsl := Nt.shapes_len Hc.out
      clear hb8 x0 x1
      generalize Nt.shapes n = sh at *
      generalize Nt.loss n.nodes = ls at *
      have Hl8 := Lib.hid hl8
      have Hrow8 := Lib.hid hrow8
      have Hrow28 := Lib.hid hrow28
      have Hsl := Lib.hid hsl
      clear hl8 hrow8 hrow28 hsl
      go_wp2_with fail
      go_loopw [70] (fun i wx => ∃ k q : Nat, k ≤ n.nodes.length + 1 ∧ i = .int .i64 (k : Int) ∧ wx = w8.drewN q) (fun i _ => n.nodes.length + 1 - (intOf i).toNat)
      case atStart => exact ⟨0, 0, Nat.zero_le _, rfl, rfl⟩
      case round =>
        obtain ⟨k, q, hk, rfl, hwx⟩ := hrel
        by_cases hlt : k < n.nodes.length + 1
        · have hsl := Hsl.out
          obtain ⟨S1, c1, y1, I1, a1, b1, -⟩ := Hrow28.out.at_ (j := k) (by omega)
          obtain ⟨S2, c2, y2, I2, a2, b2, -⟩ := Hrow8.out.at_ (j := k) (by omega)
          generalize sh[k]'(by omega) = s at *
          have y1' : wr.cell? ⟨g2, k, none⟩ = some (.slice S1 s.length c1) := by rw [hwx]; exact y1
          have y2' : wr.cell? ⟨g, k, none⟩ = some (.slice S2 s.length c2) := by rw [hwx]; exact y2
          have k0 : (0 : Int) ≤ (k : Int) := by omega
          have k1 : (k : Int) < ((n.nodes.length + 1 : Nat) : Int) := by omega
          have k2 : (k : Int) < (n.nodes.length : Int) + 1 := by omega
          have hcall := fun (m : Nat) => ref03_same S1 S2 c1 c2 s s (wr.drewN m) (by omega) (by omega) (by rw [hwx]; exact I1) (by rw [hwx]; exact I2)
          rw [decide_eq_true rfl] at hcall
          have HI1 := Lib.hid I1
          have HI2 := Lib.hid I2
          have Hcall := Lib.hid hcall
          have Hwx := Lib.hid hwx
          clear I1 I2 hcall hwx
          clear hsl y1 y2
          go_wp2_with fail
          go_quiet ((go_at_call 14; exact quiet_drawn (Hcall.out _)))
          go_wp2_with fail
          go_roundw
          case rel => exact ⟨k + 1, _, by omega, by go_num, by rw [Hwx.out]; first | rfl | exact World.drewN_drewN _ _ _⟩
          case measure => simp [intOf]; omega
        · obtain rfl : k = n.nodes.length + 1 := by omega
          subst hwx
          go_wp2_with fail
          refine (awake11 _).mono ?_
          rintro e w9 ⟨rfl, hb9⟩
          go_wp2_with fail
          go_ret
          exact ⟨rfl, (Hl8.out.drewN q).call hb9⟩
    · have Hk5 := Lib.hid hk5
      have Hl5 := Lib.hid hl5
      have Hc := Lib.hid hc
      clear hk5 hl5 hc
      go_wp2_with fail
      refine (net_shapes A N c d n _ Hok.out (HR.out.below Hl5.out (Nat.le_refl _)) lc).mono ?_
      rintro e w6 ⟨hb6, ⟨hc', -⟩ | ⟨-, rfl⟩⟩
      · exact absurd hc' Hc.out
      have hl6 := Hl5.out.call hb6
      have hk6 := (show Later w5 w6 from hb6).blk Hk5.out
      have y0 : w6.cell? ⟨w.heap.size, 0, none⟩ = some (.slice A n.inn.length c) := by rw [hk6.cell]; rfl
      have y1 : w6.cell? ⟨w.heap.size, 1, none⟩ = some (.slice N n.nodes.length d) := by rw [hk6.cell]; rfl
      clear hb6 x0 x1
      have Hk6 := Lib.hid hk6
      have Hl6 := Lib.hid hl6
      clear hk6 hl6
      go_wp2_with fail
      refine (net_loss A N c d n _ Hok.out (HR.out.below Hl6.out (Nat.le_refl _)) lc).mono ?_
      rintro e w7 ⟨rfl, hb7⟩
      rw [show lossE n = 0 by unfold lossE; rw [if_neg Hc.out]]
      have hl7 := Hl6.out.call hb7
      have hk7 := (show Later w6 w7 from hb7).blk Hk6.out
      have x0 : w7.cell? ⟨w.heap.size, 0, none⟩ = some (.slice A n.inn.length c) := by rw [hk7.cell]; rfl
      have x1 : w7.cell? ⟨w.heap.size, 1, none⟩ = some (.slice N n.nodes.length d) := by rw [hk7.cell]; rfl
      clear hb7 y0 y1
      have Hk7 := Lib.hid hk7
      have Hl7 := Lib.hid hl7
      clear hk7 hl7
      go_wp2_with fail
      refine (net_check A N c d n _ Hok.out (HR.out.below Hl7.out (Nat.le_refl _)) lc).mono ?_
      rintro e w8 ⟨rfl, hb8⟩
      have hl8 := Hl7.out.call hb8
      have hc := Hc.out
      generalize Nt.check n = ck at *
      have q0 : (ck != 0) = true := by simpa using hc
      clear hb8 x0 x1 hc
      have Hl8 := Lib.hid hl8
      clear hl8
      go_wp2_with fail
      refine (awake11 _).mono ?_
      rintro e w9 ⟨rfl, hb9⟩
      go_wp2_with fail
      go_ret
      exact ⟨rfl, Hl8.out.call hb9⟩
end Go.Proofs.Ytjkhpbngpceenaa
