/- Layer 11's statement NetOrders: the walk. -/
import Derived.Test.YtjkhpbngpceenaaAwakeN
import Derived.Test.YtjkhpbngpceenaaLawR
import Derived.Test.YtjkhpbngpceenaaRefC
namespace Go.Proofs.Ytjkhpbngpceenaa
open Go.RowKit
set_option maxHeartbeats 4000000 in
set_option maxRecDepth 100000 in
theorem walkNetOrders (w : World) (A N : Option Addr) (c d : Nat) (n : NetD) (la : n.inn.length ≤ c) (lb : c ≤ 9223372036854775807) (lc : n.nodes.length ≤ d) (ld : d ≤ 9223372036854775807) (hR : NetR w A N n) (hf : n.fits) :
    Calls Try.prog 3 #[.agg #[.slice A n.inn.length c, .slice N n.nodes.length d]] w fun e w' => e = .returned (.bool true) ∧ Below w.heap.size w w' := by
  have hok := hf.ok
  have hk := Blk.new w 26 #[.slice A n.inn.length c, .slice N n.nodes.length d]
  have hl0 : Later w (w.alloc (.cells #[.slice A n.inn.length c, .slice N n.nodes.length d] 26)) := (Later.refl w).alloc _
  have hnl := hok.2.1
  have Hok := Lib.hid hok
  have HR := Lib.hid hR
  have Hk := Lib.hid hk
  have Hl0 := Lib.hid hl0
  have Hf := Lib.hid hf
  clear hok hR hk hl0 hf
  go_enter Try.func3, Try.ntmps3
  go_wp2_with fail
  generalize w.alloc (.cells #[.slice A n.inn.length c, .slice N n.nodes.length d] 26) = w1 at *
  refine (small_11 A N c d n w1 Hok.out (HR.out.below Hl0.out (Nat.le_refl _))).mono ?_
  rintro e w2 ⟨b, rfl, hb2⟩
  have hl2 := Hl0.out.call hb2
  have hk2 := (show Later w1 w2 from hb2).blk Hk.out
  clear hb2 Hk Hl0
  cases b
  · have Hk2 := Lib.hid hk2
    have Hl2 := Lib.hid hl2
    clear hk2 hl2
    go_wp2_with fail
    refine (awake11 _).mono ?_
    rintro e w3 ⟨rfl, hb3⟩
    go_wp2_with fail
    go_ret
    exact ⟨rfl, Hl2.out.call hb3⟩
  · have x0 : w2.cell? ⟨w.heap.size, 0, none⟩ = some (.slice A n.inn.length c) := by rw [hk2.cell]; rfl
    have x1 : w2.cell? ⟨w.heap.size, 1, none⟩ = some (.slice N n.nodes.length d) := by rw [hk2.cell]; rfl
    have Hk2 := Lib.hid hk2
    have Hl2 := Lib.hid hl2
    clear hk2 hl2
    go_wp2_with fail
    refine (net_order A N c d n _ Hok.out (HR.out.below Hl2.out (Nat.le_refl _)) lc).mono ?_
    rintro e w3 ⟨hb3, ⟨hc, O, oc, rfl, hO, ho1, ho2⟩ | ⟨hc, rfl⟩⟩
    all_goals
      have hl3 := Hl2.out.call hb3
      have hk3 := (show Later w2 w3 from hb3).blk Hk2.out
      have z0 : w3.cell? ⟨w.heap.size, 0, none⟩ = some (.slice A n.inn.length c) := by rw [hk3.cell]; rfl
      have z1 : w3.cell? ⟨w.heap.size, 1, none⟩ = some (.slice N n.nodes.length d) := by rw [hk3.cell]; rfl
      clear x0 x1 hb3 Hk2 Hl2
    · have Hk3 := Lib.hid hk3
      have Hl3 := Lib.hid hl3
      have Hc := Lib.hid hc
      have HO := Lib.hid hO
      clear hk3 hl3 hc hO
      go_wp2_with fail
      refine (ref_11 A N c d n _ Hok.out (HR.out.below Hl3.out (Nat.le_refl _))).mono ?_
      rintro e w4 ⟨N', d', rfl, hR4, hd4, hm4, hb4⟩
      have hl4 := Hl3.out.call hb4
      have hk4 := (show Later w3 w4 from hb4).blk Hk3.out
      have hO4 := HO.out.below hb4 (Nat.le_refl _)
      clear z0 z1 hb4 HO Hk3 Hl3
      have Hk4 := Lib.hid hk4
      have Hl4 := Lib.hid hl4
      have HR4 := Lib.hid hR4
      have HO4 := Lib.hid hO4
      clear hk4 hl4 hR4 hO4
      go_wp2_with fail
      refine (ref11_check A N' c d' n _ Hok.out HR4.out hd4 la lb).mono ?_
      rintro e w5 ⟨hb5, ⟨-, g, rfl, -, -⟩ | ⟨hc', -⟩⟩
      rotate_left
      · exact absurd Hc.out hc'
      have hl5 := Hl4.out.call hb5
      have hk5 := (show Later w4 w5 from hb5).blk Hk4.out
      have hO5 := HO4.out.below hb5 (Nat.le_refl _)
      have x0 : w5.cell? ⟨w.heap.size, 0, none⟩ = some (.slice A n.inn.length c) := by rw [hk5.cell]; rfl
      have x1 : w5.cell? ⟨w.heap.size, 1, none⟩ = some (.slice N n.nodes.length d) := by rw [hk5.cell]; rfl
      clear hb5 Hk4 HO4 Hl4 HR4
      have Hk5 := Lib.hid hk5
      have Hl5 := Lib.hid hl5
      have HO5 := Lib.hid hO5
      clear hk5 hl5 hO5
      go_wp2_with fail
      refine (ref_11 A N c d n _ Hok.out (HR.out.below Hl5.out (Nat.le_refl _))).mono ?_
      rintro e w6 ⟨N6, d6, rfl, hR6, hd6, hm6, hb6⟩
      have hl6 := Hl5.out.call hb6
      have hO6 := HO5.out.below hb6 (Nat.le_refl _)
      clear x0 x1 hb6
      have Hl6 := Lib.hid hl6
      have HO6 := Lib.hid hO6
      have HR6 := Lib.hid hR6
      clear hl6 hO6 hR6
      go_wp2_with fail
      refine (ref11_order A N6 c d6 n _ Hok.out HR6.out).mono ?_
      rintro e w7 ⟨P, pc, rfl, hP, hp1, hp2, hb7⟩
      have hl7 := Hl6.out.call hb7
      have hO7 := HO6.out.below hb7 (Nat.le_refl _)
      have hsl : (Nt.sorted n.nodes).length = n.nodes.length := (Nt.check_ok Hc.out).2.2.2.2.1
      clear hb7
      have Hl7 := Lib.hid hl7
      have HO7 := Lib.hid hO7
      have HP := Lib.hid hP
      have Hsl := Lib.hid hsl
      clear hl7 hO7 hP hsl
      go_wp2_with fail
      have hcall := ref03_same O P oc pc (Nt.sorted n.nodes) (Nt.sorted n.nodes) w7 (by rw [Hsl.out]; omega) (by rw [Hsl.out]; omega) HO7.out HP.out
      rw [Hsl.out, decide_eq_true rfl] at hcall
      rw [Hsl.out]
      refine hcall.mono ?_
      rintro e w8 ⟨rfl, q, rfl⟩
      clear hcall
      go_wp2_with fail
      refine (awake11 _).mono ?_
      rintro e w9 ⟨rfl, hb9⟩
      go_wp2_with fail
      go_ret
      exact ⟨rfl, (Hl7.out.drewN q).call hb9⟩
    · have Hk3 := Lib.hid hk3
      have Hl3 := Lib.hid hl3
      have Hc := Lib.hid hc
      clear hk3 hl3 hc
      go_wp2_with fail
      refine (ref_11 A N c d n _ Hok.out (HR.out.below Hl3.out (Nat.le_refl _))).mono ?_
      rintro e w4 ⟨N', d', rfl, hR4, hd4, hm4, hb4⟩
      have hl4 := Hl3.out.call hb4
      clear z0 z1 hb4
      have Hl4 := Lib.hid hl4
      have HR4 := Lib.hid hR4
      clear hl4 hR4
      go_wp2_with fail
      refine (ref11_check A N' c d' n _ Hok.out HR4.out hd4 la lb).mono ?_
      rintro e w5 ⟨hb5, ⟨hc', -⟩ | ⟨-, rfl⟩⟩
      · exact absurd hc' Hc.out
      have hl5 := Hl4.out.call hb5
      have hc := Hc.out
      generalize Nt.check n = ck at *
      have q0 : (ck != 0) = true := by simpa using hc
      have q1 : (ck == 0) = false := by simpa using hc
      clear hb5 hc
      have Hl5 := Lib.hid hl5
      clear hl5
      go_wp2_with fail
      refine (awake11 _).mono ?_
      rintro e w9 ⟨rfl, hb9⟩
      go_wp2_with fail
      go_ret
      exact ⟨rfl, Hl5.out.call hb9⟩
end Go.Proofs.Ytjkhpbngpceenaa
