/- Layer 11 (net): Check, Order, Shapes, Loss, Chain: contracts. -/
import Derived.Test.YtjkhpbngpceenaaNetL
namespace Go.Proofs.Ytjkhpbngpceenaa
open Go.RowKit

set_option maxHeartbeats 4000000 in
theorem net_check (A N : Option Addr) (c d : Nat) (n : NetD) (w : World) (hok : n.ok) (hR : NetR w A N n) (hd : n.nodes.length ≤ d) :
    Calls Try.prog 20 #[.agg #[.slice A n.inn.length c, .slice N n.nodes.length d]] w fun e w' => e = .returned (.int .i64 (Nt.check n)) ∧ Below w.heap.size w w' := by
  have hb0 : Below w.heap.size w (w.alloc (.cells #[.slice A n.inn.length c, .slice N n.nodes.length d] 26)) := (Below.refl _ _).alloc (Nat.le_refl _) _
  have hR0 := hR.below hb0 (Nat.le_refl _)
  have HR := Lib.hid hR
  have Hok := Lib.hid hok
  have HR0 := Lib.hid hR0
  clear hR hok hR0
  go_enter Try.func20, Try.ntmps20
  go_wp2_with fail
  refine (net_look A N c d n _ Hok.out HR0.out hd).mono ?_
  rintro e w1 ⟨hb1, ⟨hc, O, oc, g, rfl, -, -, -, -, -⟩ | ⟨hc, rfl⟩⟩
  all_goals have hbw := hb0.trans (hb1.mono hb0.size)
  · have Hc := Lib.hid hc
    clear hc
    go_wp2_with fail
    go_ret
    exact ⟨by rw [Hc.out]; rfl, hbw.alloc hbw.size _⟩
  · have Hc := Lib.hid hc
    clear hc
    go_wp2_with fail
    go_ret
    exact ⟨rfl, hbw.alloc hbw.size _⟩
def OrderP (n : NetD) (w : World) (e : Ending) (w' : World) : Prop :=
  Below w.heap.size w w' ∧ ((Nt.check n = 0 ∧ ∃ O oc, e = .returned (.tuple #[.slice O n.nodes.length oc, .int .i64 0]) ∧ Ints .i64 w' O (Nt.sorted n.nodes) ∧ n.nodes.length ≤ oc ∧ oc ≤ 9223372036854775807) ∨
    (Nt.check n ≠ 0 ∧ e = .returned (.tuple #[.slice none 0 0, .int .i64 (Nt.check n)])))
def ShapesP (n : NetD) (w : World) (e : Ending) (w' : World) : Prop :=
  Below w.heap.size w w' ∧ ((Nt.check n = 0 ∧ ∃ g, e = .returned (.tuple #[.slice (some ⟨g, 0, none⟩) (n.nodes.length + 1) (n.nodes.length + 1), .int .i64 0]) ∧ w.heap.size ≤ g ∧ ShpRow w' g 23 (Nt.shapes n)) ∨
    (Nt.check n ≠ 0 ∧ e = .returned (.tuple #[.slice none 0 0, .int .i64 (Nt.check n)])))
def lossE (n : NetD) : Int := if Nt.check n = 0 then Nt.loss n.nodes else 0
set_option maxHeartbeats 4000000 in
theorem net_order (A N : Option Addr) (c d : Nat) (n : NetD) (w : World) (hok : n.ok) (hR : NetR w A N n) (hd : n.nodes.length ≤ d) :
    Calls Try.prog 11 #[.agg #[.slice A n.inn.length c, .slice N n.nodes.length d]] w (OrderP n w) := by
  have hb0 : Below w.heap.size w (w.alloc (.cells #[.slice A n.inn.length c, .slice N n.nodes.length d] 26)) := (Below.refl _ _).alloc (Nat.le_refl _) _
  have hR0 := hR.below hb0 (Nat.le_refl _)
  have HR := Lib.hid hR
  have Hok := Lib.hid hok
  have HR0 := Lib.hid hR0
  clear hR hok hR0
  go_enter Try.func11, Try.ntmps11
  go_wp2_with fail
  refine (net_look A N c d n _ Hok.out HR0.out hd).mono ?_
  rintro e w1 ⟨hb1, ⟨hc, O, oc, g, rfl, hO, ho1, ho2, hg, hrow⟩ | ⟨hc, rfl⟩⟩
  all_goals have hbw := hb0.trans (hb1.mono hb0.size)
  · rw [World.size_alloc] at hg
    have Hc := Lib.hid hc
    have HO := Lib.hid hO
    have Hrow := Lib.hid hrow
    clear hc hO hrow
    go_wp2_with fail
    go_ret2
    first | exact ⟨hbw.alloc hbw.size _, .inl ⟨Hc.out, O, oc, rfl, HO.out.alloc _, ho1, ho2⟩⟩ | exact ⟨hbw.alloc hbw.size _, .inl ⟨Hc.out, g, rfl, by omega, Hrow.out.alloc _⟩⟩ | exact ⟨by unfold lossE; rw [Hc.out]; rfl, hbw.alloc hbw.size _⟩
  · have Hc := Lib.hid hc
    clear hc
    go_wp2_with fail
    go_ret2
    first | exact ⟨hbw.alloc hbw.size _, .inr ⟨Hc.out, rfl⟩⟩ | exact ⟨by unfold lossE; rw [if_neg Hc.out]; rfl, hbw.alloc hbw.size _⟩
set_option maxHeartbeats 4000000 in
theorem net_shapes (A N : Option Addr) (c d : Nat) (n : NetD) (w : World) (hok : n.ok) (hR : NetR w A N n) (hd : n.nodes.length ≤ d) :
    Calls Try.prog 21 #[.agg #[.slice A n.inn.length c, .slice N n.nodes.length d]] w (ShapesP n w) := by
  have hb0 : Below w.heap.size w (w.alloc (.cells #[.slice A n.inn.length c, .slice N n.nodes.length d] 26)) := (Below.refl _ _).alloc (Nat.le_refl _) _
  have hR0 := hR.below hb0 (Nat.le_refl _)
  have HR := Lib.hid hR
  have Hok := Lib.hid hok
  have HR0 := Lib.hid hR0
  clear hR hok hR0
  go_enter Try.func21, Try.ntmps21
  go_wp2_with fail
  refine (net_look A N c d n _ Hok.out HR0.out hd).mono ?_
  rintro e w1 ⟨hb1, ⟨hc, O, oc, g, rfl, hO, ho1, ho2, hg, hrow⟩ | ⟨hc, rfl⟩⟩
  all_goals have hbw := hb0.trans (hb1.mono hb0.size)
  · rw [World.size_alloc] at hg
    have Hc := Lib.hid hc
    have HO := Lib.hid hO
    have Hrow := Lib.hid hrow
    clear hc hO hrow
    go_wp2_with fail
    go_ret2
    first | exact ⟨hbw.alloc hbw.size _, .inl ⟨Hc.out, O, oc, rfl, HO.out.alloc _, ho1, ho2⟩⟩ | exact ⟨hbw.alloc hbw.size _, .inl ⟨Hc.out, g, rfl, by omega, Hrow.out.alloc _⟩⟩ | exact ⟨by unfold lossE; rw [Hc.out]; rfl, hbw.alloc hbw.size _⟩
  · have Hc := Lib.hid hc
    clear hc
    go_wp2_with fail
    go_ret2
    first | exact ⟨hbw.alloc hbw.size _, .inr ⟨Hc.out, rfl⟩⟩ | exact ⟨by unfold lossE; rw [if_neg Hc.out]; rfl, hbw.alloc hbw.size _⟩
set_option maxHeartbeats 4000000 in
theorem net_loss (A N : Option Addr) (c d : Nat) (n : NetD) (w : World) (hok : n.ok) (hR : NetR w A N n) (hd : n.nodes.length ≤ d) :
    Calls Try.prog 22 #[.agg #[.slice A n.inn.length c, .slice N n.nodes.length d]] w fun e w' => e = .returned (.tuple #[.int .i64 (lossE n), .int .i64 (Nt.check n)]) ∧ Below w.heap.size w w' := by
  have hb0 : Below w.heap.size w (w.alloc (.cells #[.slice A n.inn.length c, .slice N n.nodes.length d] 26)) := (Below.refl _ _).alloc (Nat.le_refl _) _
  have hR0 := hR.below hb0 (Nat.le_refl _)
  have HR := Lib.hid hR
  have Hok := Lib.hid hok
  have HR0 := Lib.hid hR0
  clear hR hok hR0
  go_enter Try.func22, Try.ntmps22
  go_wp2_with fail
  refine (net_look A N c d n _ Hok.out HR0.out hd).mono ?_
  rintro e w1 ⟨hb1, ⟨hc, O, oc, g, rfl, hO, ho1, ho2, hg, hrow⟩ | ⟨hc, rfl⟩⟩
  all_goals have hbw := hb0.trans (hb1.mono hb0.size)
  · rw [World.size_alloc] at hg
    have Hc := Lib.hid hc
    have HO := Lib.hid hO
    have Hrow := Lib.hid hrow
    clear hc hO hrow
    go_wp2_with fail
    go_ret2
    first | exact ⟨hbw.alloc hbw.size _, .inl ⟨Hc.out, O, oc, rfl, HO.out.alloc _, ho1, ho2⟩⟩ | exact ⟨hbw.alloc hbw.size _, .inl ⟨Hc.out, g, rfl, by omega, Hrow.out.alloc _⟩⟩ | exact ⟨by unfold lossE; rw [Hc.out]; rfl, hbw.alloc hbw.size _⟩
  · have Hc := Lib.hid hc
    clear hc
    go_wp2_with fail
    go_ret2
    first | exact ⟨hbw.alloc hbw.size _, .inr ⟨Hc.out, rfl⟩⟩ | exact ⟨by unfold lossE; rw [if_neg Hc.out]; rfl, hbw.alloc hbw.size _⟩
theorem list_one {l : List Int} (h : l.length = 1) : ∃ x, l = [x] := by
  match l, h with
  | [x], _ => exact ⟨x, rfl⟩
theorem Nt.chainGo_step {ns : List NodeD} {os : List Int} {k : Nat} (hk : k < os.length) (h : Nt.chainGo ns 0 (os.take k) = true) :
    (Nt.insF ns os[k] = [(os.take k).getLastD 0] → Nt.chainGo ns 0 (os.take (k + 1)) = true ∧ (os.take (k + 1)).getLastD 0 = os[k]) ∧ (Nt.insF ns os[k] ≠ [(os.take k).getLastD 0] → Nt.chainGo ns 0 os = false) := by
  refine ⟨fun e => ?_, fun e => ?_⟩
  · rw [List.take_succ_eq_append_getElem hk]
    refine ⟨?_, ?_⟩
    · rw [Nt.chainGo_append, h, Nt.chainGo, decide_eq_true e]; rfl
    · simp only [List.getLastD_eq_getLast?, List.getLast?_concat, Option.getD_some]
  · have : os = os.take k ++ os[k] :: os.drop (k + 1) := by rw [← List.drop_eq_getElem_cons hk, List.take_append_drop]
    rw [this, Nt.chainGo_append, Nt.chainGo, decide_eq_false e, Bool.false_and, Bool.and_false]
set_option maxHeartbeats 4000000 in
theorem net_chain (A N : Option Addr) (c d : Nat) (n : NetD) (w : World) (hok : n.ok) (hR : NetR w A N n) (hd : n.nodes.length ≤ d) :
    Calls Try.prog 16 #[.agg #[.slice A n.inn.length c, .slice N n.nodes.length d]] w fun e w' => e = .returned (.bool (Nt.chain n)) ∧ Below w.heap.size w w' := by
  have hb0 : Below w.heap.size w (w.alloc (.cells #[.slice A n.inn.length c, .slice N n.nodes.length d] 26)) := (Below.refl _ _).alloc (Nat.le_refl _) _
  have hk0 := Blk.new w 26 #[.slice A n.inn.length c, .slice N n.nodes.length d]
  have hR0 := hR.below hb0 (Nat.le_refl _)
  have hnl := hok.2.1
  have HR := Lib.hid hR
  have Hok := Lib.hid hok
  have HR0 := Lib.hid hR0
  have Hk0 := Lib.hid hk0
  clear hR hok hR0 hk0
  go_enter Try.func16, Try.ntmps16
  go_wp2_with fail
  refine (net_look A N c d n _ Hok.out HR0.out hd).mono ?_
  rintro e w1 ⟨hb1, ⟨hc, O, oc, g, rfl, hO, ho1, ho2, hg, hrow⟩ | ⟨hc, rfl⟩⟩
  all_goals have hbw := hb0.trans (hb1.mono hb0.size)
  rotate_left
  · have q : (Nt.check n != 0) = true := by simp [hc]
    have HN := Lib.hid (show Nt.chain n = false by simp [Nt.chain, hc])
    clear hc
    go_wp2_with fail
    go_ret
    exact ⟨by rw [HN.out]; rfl, hbw.alloc hbw.size _⟩
  · have hso := (Nt.check_ok hc).2.2.2.2.1
    have hbox := Hk0.out.below hb1 (by simp)
    have hch : Nt.chain n = Nt.chainGo n.nodes 0 (Nt.sorted n.nodes) := by simp [Nt.chain, hc]
    have hrng : ∀ u ∈ Nt.sorted n.nodes, 1 ≤ u ∧ u ≤ n.nodes.length := Kn.order_rng _ _
    generalize Nt.sorted n.nodes = os at *
    have hbw2 := hbw.alloc hbw.size (.cells #[.slice O n.nodes.length oc, .slice (some ⟨g, 0, none⟩) (n.nodes.length + 1) (n.nodes.length + 1), .int .i64 (Nt.loss n.nodes)] 66)
    have hO2 := hO.alloc (.cells #[.slice O n.nodes.length oc, .slice (some ⟨g, 0, none⟩) (n.nodes.length + 1) (n.nodes.length + 1), .int .i64 (Nt.loss n.nodes)] 66)
    have hbox2 := hbox.alloc (.cells #[.slice O n.nodes.length oc, .slice (some ⟨g, 0, none⟩) (n.nodes.length + 1) (n.nodes.length + 1), .int .i64 (Nt.loss n.nodes)] 66)
    clear hO hbox Hk0 HR0 hrow hc
    have HO2 := Lib.hid hO2
    have Hbox2 := Lib.hid hbox2
    have Hch := Lib.hid hch
    have Hrng := Lib.hid hrng
    have Hso := Lib.hid hso
    clear hO2 hbox2 hch hrng hso
    go_wp2_with fail
    generalize w1.alloc (.cells #[.slice O n.nodes.length oc, .slice (some ⟨g, 0, none⟩) (n.nodes.length + 1) (n.nodes.length + 1), .int .i64 (Nt.loss n.nodes)] 66) = w2 at *
    go_loop [5, 19] (fun bf i => ∃ k : Nat, k ≤ os.length ∧ i = .int .i64 k ∧ bf = .int .i64 ((os.take k).getLastD 0) ∧ Nt.chainGo n.nodes 0 (os.take k) = true) (fun _ i => os.length - (intOf i).toNat)
    case atStart => exact ⟨0, Nat.zero_le _, rfl, rfl, rfl⟩
    case round =>
      obtain ⟨k, hk, rfl, rfl, hgo⟩ := hrel
      have hso := Hso.out
      have x1 : w2.cell? ⟨w.heap.size, 1, none⟩ = some (.slice N n.nodes.length d) := by rw [Hbox2.out.cell]; rfl
      by_cases hlt : k < os.length
      · obtain ⟨b, off, rfl, -, hc⟩ := HO2.out k hlt
        rw [getD_at hlt] at hc
        have hr := Hrng.out _ (List.getElem_mem hlt)
        obtain ⟨hyes, hno⟩ := Nt.chainGo_step hlt hgo
        obtain ⟨j, hj⟩ : ∃ j : Nat, os[k] = (j : Int) + 1 := ⟨(os[k] - 1).toNat, by omega⟩
        have hjl : j < n.nodes.length := by omega
        have hiF : Nt.insF n.nodes os[k] = n.nodes[j].ins := by unfold Nt.insF; rw [hj, Nt.node_at hjl]
        rw [hiF] at hyes hno
        rw [hj] at hyes hc
        obtain ⟨b1, off1, S, sc, I, ic, Q, qc, rfl, hNA, -, hI1, -⟩ := HR.out.2.at_ hjl
        obtain ⟨⟨-, -, -, -, -, -, -, -, y8, -⟩, -, hIJ, -⟩ := hNA.below hbw2
        generalize n.nodes[j] = v at *
        have j1 : IntKind.i64.wrap ((j : Int) + 1 - 1) = (j : Int) := by rw [IntWalk.i64_in _ (by omega)]; omega
        have j2 : (j : Int) < n.nodes.length := by omega
        have hkl : k < n.nodes.length := by omega
        by_cases h1 : v.ins.length = 1
        · obtain ⟨x, hx⟩ := list_one h1
          rw [hx] at hIJ hyes hno y8
          obtain ⟨b2, off2, rfl, -, hc2⟩ := hIJ 0 (by simp)
          replace hc2 : w2.cell? ⟨b2, off2, none⟩ = some (.int .i64 x) := hc2
          replace y8 : w2.cell? ⟨b1, off1 + j * 10 + 8, none⟩ = some (.slice (some ⟨b2, off2, none⟩) 1 ic) := y8
          generalize (os.take k).getLastD 0 = last at *
          by_cases hxl : x = last
          · have hy := hyes (by rw [hxl])
            have e1 : (x != last) = false := by simp [hxl]
            clear hyes hno hgo hso hx hxl h1 hIJ hNA hiF hj
            have Hy := Lib.hid hy
            clear hy
            go_wp2_with fail
            go_round
            case rel => exact ⟨k + 1, by omega, by go_num, by rw [Hy.out.2], Hy.out.1⟩
            case measure => simp [intOf]; omega
          · have hn := hno (by simp [hxl])
            have e1 : (x != last) = true := by simp [hxl]
            clear hyes hno hgo hso hx hxl h1 hIJ hNA hiF hj
            have Hn := Lib.hid hn
            clear hn
            go_wp2_with fail
            go_ret
            exact ⟨by rw [Hch.out, Hn.out]; rfl, hbw2⟩
        · have hn := hno (fun e => h1 (by rw [e]; rfl))
          have e1 : ((v.ins.length : Int) != 1) = true := by rw [bne_iff_ne]; omega
          have e2 : (v.ins.length != 1) = true := by rw [bne_iff_ne]; omega
          clear hyes hno hgo hso h1 hIJ hNA hiF hj
          have Hn := Lib.hid hn
          clear hn
          go_wp2_with fail
          go_ret
          exact ⟨by rw [Hch.out, Hn.out]; rfl, hbw2⟩
      · obtain rfl : k = os.length := by omega
        rw [List.take_length] at hgo
        have Hgo := Lib.hid hgo
        clear hgo
        have hnn : ¬ (os.length : Int) < (n.nodes.length : Int) := by omega
        have hnn2 : ¬ os.length < n.nodes.length := by omega
        clear hso
        go_wp2_with fail
        go_ret
        exact ⟨by rw [Hch.out, Hgo.out]; rfl, hbw2⟩
end Go.Proofs.Ytjkhpbngpceenaa
