/- Layer 11's statement NetChains: the walk. -/
import Derived.Test.YtjkhpbngpceenaaAwakeN
import Derived.Test.YtjkhpbngpceenaaLawR
import Derived.Test.YtjkhpbngpceenaaRefC
namespace Go.Proofs.Ytjkhpbngpceenaa
open Go.RowKit
theorem Nt.chainGo_succ {ns : List NodeD} {os : List Int} {k : Nat} (hk : k < os.length) : Nt.chainGo ns 0 (os.take (k + 1)) = (Nt.chainGo ns 0 (os.take k) && decide (Nt.insF ns os[k] = [(os.take k).getLastD 0])) ∧ (os.take (k + 1)).getLastD 0 = os[k] := by
  rw [List.take_succ_eq_append_getElem hk]
  refine ⟨by rw [Nt.chainGo_append, Nt.chainGo, Nt.chainGo, Bool.and_true], by simp only [List.getLastD_eq_getLast?, List.getLast?_concat, Option.getD_some]⟩
set_option maxHeartbeats 8000000 in
set_option maxRecDepth 100000 in
theorem walkNetChains (w : World) (A N : Option Addr) (c d : Nat) (n : NetD) (la : n.inn.length ≤ c) (lb : c ≤ 9223372036854775807) (lc : n.nodes.length ≤ d) (ld : d ≤ 9223372036854775807) (hR : NetR w A N n) (hf : n.fits) :
    Calls Try.prog 4 #[.agg #[.slice A n.inn.length c, .slice N n.nodes.length d]] w fun e w' => e = .returned (.bool true) ∧ Below w.heap.size w w' := by
  have hok := hf.ok
  have hk := Blk.new w 26 #[.slice A n.inn.length c, .slice N n.nodes.length d]
  have hl0 : Later w (w.alloc (.cells #[.slice A n.inn.length c, .slice N n.nodes.length d] 26)) := (Later.refl w).alloc _
  have hnl := hok.2.1
  have Hok := Lib.hid hok
  have HR := Lib.hid hR
  have Hk := Lib.hid hk
  have Hl0 := Lib.hid hl0
  have Hf := Lib.hid hf
  clear hok hR hk hl0 hf
  go_enter Try.func4, Try.ntmps4
  go_wp2_with fail
  generalize w.alloc (.cells #[.slice A n.inn.length c, .slice N n.nodes.length d] 26) = w1 at *
  refine (small_11 A N c d n w1 Hok.out (HR.out.below Hl0.out (Nat.le_refl _))).mono ?_
  rintro e w2 ⟨b, rfl, hb2⟩
  have hl2 := Hl0.out.call hb2
  have hk2 := (show Later w1 w2 from hb2).blk Hk.out
  clear hb2 Hk Hl0
  cases b
  · have Hk2 := Lib.hid hk2
    have Hl2 := Lib.hid hl2
    clear hk2 hl2
    go_wp2_with fail
    refine (awake11 _).mono ?_
    rintro e w3 ⟨rfl, hb3⟩
    go_wp2_with fail
    go_ret
    exact ⟨rfl, Hl2.out.call hb3⟩
  · have x0 : w2.cell? ⟨w.heap.size, 0, none⟩ = some (.slice A n.inn.length c) := by rw [hk2.cell]; rfl
    have x1 : w2.cell? ⟨w.heap.size, 1, none⟩ = some (.slice N n.nodes.length d) := by rw [hk2.cell]; rfl
    have Hk2 := Lib.hid hk2
    have Hl2 := Lib.hid hl2
    clear hk2 hl2
    go_wp2_with fail
    refine (ref_11 A N c d n _ Hok.out (HR.out.below Hl2.out (Nat.le_refl _))).mono ?_
    rintro e w4 ⟨N', d', rfl, hR4, hd4, hm4, hb4⟩
    have hl4 := Hl2.out.call hb4
    have hk4 := (show Later w2 w4 from hb4).blk Hk2.out
    clear x0 x1 hb4
    have Hk4 := Lib.hid hk4
    have Hl4 := Lib.hid hl4
    have HR4 := Lib.hid hR4
    clear hk4 hl4 hR4
    go_wp2_with fail
    refine (ref11_check A N' c d' n _ Hok.out HR4.out hd4 la lb).mono ?_
    rintro e w5 ⟨hb5, ⟨hc, g, rfl, -, -⟩ | ⟨hc, rfl⟩⟩
    all_goals
      have hl5 := Hl4.out.call hb5
      have hk5 := (show Later w4 w5 from hb5).blk Hk4.out
      have x0 : w5.cell? ⟨w.heap.size, 0, none⟩ = some (.slice A n.inn.length c) := by rw [hk5.cell]; rfl
      have x1 : w5.cell? ⟨w.heap.size, 1, none⟩ = some (.slice N n.nodes.length d) := by rw [hk5.cell]; rfl
      clear hb5 Hk4 Hl4
    · have hch : Nt.chain n = Nt.chainGo n.nodes 0 (Nt.sorted n.nodes) := by simp [Nt.chain, hc]
      have hsl : (Nt.sorted n.nodes).length = n.nodes.length := (Nt.check_ok hc).2.2.2.2.1
      have hrng : ∀ u ∈ Nt.sorted n.nodes, 1 ≤ u ∧ u ≤ n.nodes.length := Kn.order_rng _ _
      have Hk5 := Lib.hid hk5
      have Hl5 := Lib.hid hl5
      have Hc := Lib.hid hc
      have Hch := Lib.hid hch
      have Hsl := Lib.hid hsl
      have Hrng := Lib.hid hrng
      clear hk5 hl5 hc hch hsl hrng
      go_wp2_with fail
      refine (ref_11 A N c d n _ Hok.out (HR.out.below Hl5.out (Nat.le_refl _))).mono ?_
      rintro e w6 ⟨N6, d6, rfl, hR6, hd6, hm6, hb6⟩
      have hl6 := Hl5.out.call hb6
      have hk6 := (show Later w5 w6 from hb6).blk Hk5.out
      clear x0 x1 hb6
      have Hl6 := Lib.hid hl6
      have HR6 := Lib.hid hR6
      have Hk6 := Lib.hid hk6
      clear hl6 hR6 hk6
      go_wp2_with fail
      refine (ref11_order A N6 c d6 n _ Hok.out HR6.out).mono ?_
      rintro e w7 ⟨P, pc, rfl, hP, hp1, hp2, hb7⟩
      have hl7 := Hl6.out.call hb7
      have hk7 := (show Later w6 w7 from hb7).blk Hk6.out
      clear hb7
      generalize Nt.sorted n.nodes = os at *
      have hso := Hsl.out
      have Hl7 := Lib.hid hl7
      have Hk7 := Lib.hid hk7
      have HP := Lib.hid hP
      clear hl7 hk7 hP
      go_wp2_with fail
      go_loopw [6, 7, 28] (fun b l i wx => ∃ k : Nat, k ≤ os.length ∧ i = .int .i64 (k : Int) ∧ l = .int .i64 ((os.take k).getLastD 0) ∧ b = .bool (Nt.chainGo n.nodes 0 (os.take k)) ∧ Later w7 wx) (fun _ _ i _ => os.length - (intOf i).toNat)
      case atStart => exact ⟨0, Nat.zero_le _, rfl, rfl, rfl, Later.refl _⟩
      case round =>
        obtain ⟨k, hk, rfl, rfl, rfl, hlw⟩ := hrel
        by_cases hlt : k < os.length
        · obtain ⟨hs1, hs2⟩ := Nt.chainGo_succ (ns := n.nodes) hlt
          have hr := Hrng.out _ (List.getElem_mem hlt)
          obtain ⟨b, off, rfl, -, hc0⟩ := HP.out k hlt
          rw [getD_at hlt] at hc0
          have hc1 := hlw.cell hc0
          clear hc0
          generalize Nt.chainGo n.nodes 0 (os.take k) = cg at *
          generalize (os.take k).getLastD 0 = last at *
          cases cg
          · generalize os[k] = u at *
            rw [Bool.false_and] at hs1
            have Hs1 := Lib.hid hs1
            have Hs2 := Lib.hid hs2
            have Hlw := Lib.hid hlw
            clear hs1 hs2 hlw
            go_wp2_with fail
            go_roundw
            case rel => exact ⟨k + 1, by omega, by go_num, by rw [Hs2.out], by rw [Hs1.out], Hlw.out⟩
            case measure => simp [intOf]; omega
          · obtain ⟨j, hj⟩ : ∃ j : Nat, os[k] = (j : Int) + 1 := ⟨(os[k] - 1).toNat, by omega⟩
            have hjl : j < n.nodes.length := by omega
            have hiF : Nt.insF n.nodes os[k] = n.nodes[j].ins := by unfold Nt.insF; rw [hj, Nt.node_at hjl]
            rw [hiF, Bool.true_and] at hs1
            rw [hj] at hc1 hs2
            clear hiF
            obtain ⟨b1, off1, S, sc, I, ic, Q, qc, rfl, hNA, -, -, -⟩ := HR.out.2.at_ hjl
            have hil := (Hok.out.2.2 _ (List.getElem_mem hjl)).2.2.1
            obtain ⟨⟨-, -, -, -, -, -, -, -, y8, -⟩, -, hIJ, -⟩ := hNA.below (Hl7.out.trans hlw)
            generalize n.nodes[j] = v at *
            have x1 : wr.cell? ⟨w.heap.size, 1, none⟩ = some (.slice (some ⟨b1, off1, none⟩) n.nodes.length d) := by rw [(hlw.blk Hk7.out).cell]; rfl
            have j1 : IntKind.i64.wrap ((j : Int) + 1 - 1) = (j : Int) := by rw [IntWalk.i64_in _ (by omega)]; omega
            have j2 : (j : Int) < n.nodes.length := by omega
            clear hj hr
            have hIx : Ints .i64 (wr.alloc (.cells #[.int .i64 last] 3)) (some ⟨wr.heap.size, 0, none⟩) [last] := (Blk.new wr 3 #[.int .i64 last]).ints1
            have hcall := ref03_same I (some ⟨wr.heap.size, 0, none⟩) ic 1 v.ins [last] _ (by omega) (by simp) (hIJ.alloc (.cells #[.int .i64 last] 3)) hIx
            have Hs1 := Lib.hid hs1
            have Hs2 := Lib.hid hs2
            have Hlw := Lib.hid hlw
            have HIJ := Lib.hid hIJ
            have HNA := Lib.hid hNA
            have HIx := Lib.hid hIx
            have Hcall := Lib.hid hcall
            clear hs1 hs2 hlw hIJ hNA hIx hcall
            go_wp2_with fail
            refine Hcall.out.mono ?_
            rintro e w8 ⟨rfl, q, rfl⟩
            generalize decide (v.ins = [last]) = bb at *
            go_wp2_with fail
            go_roundw
            case rel => exact ⟨k + 1, by omega, by go_num, by rw [Hs2.out], by rw [Hs1.out], (Hlw.out.alloc _).drewN q⟩
            case measure => simp [intOf]; omega
        · obtain rfl : k = os.length := by omega
          rw [List.take_length]
          have x0 : wr.cell? ⟨w.heap.size, 0, none⟩ = some (.slice A n.inn.length c) := by rw [(hlw.blk Hk7.out).cell]; rfl
          have x1 : wr.cell? ⟨w.heap.size, 1, none⟩ = some (.slice N n.nodes.length d) := by rw [(hlw.blk Hk7.out).cell]; rfl
          have hl8 := Hl7.out.trans hlw
          have hch := Hch.out
          generalize Nt.chainGo n.nodes 0 os = cg at *
          have Hl8 := Lib.hid hl8
          have Hlw := Lib.hid hlw
          have Hch := Lib.hid hch
          clear hl8 hlw hch
          go_wp2_with fail
          refine (net_chain A N c d n _ Hok.out (HR.out.below Hl8.out (Nat.le_refl _)) lc).mono ?_
          rintro e w9 ⟨rfl, hb9⟩
          rw [Hch.out]
          have hl9 := Hl8.out.call hb9
          clear hb9
          have Hl9 := Lib.hid hl9
          clear hl9
          have ecg : (cg == cg) = true := by simp
          go_wp2_with fail
          refine (awake11 _).mono ?_
          rintro e w10 ⟨rfl, hb10⟩
          go_wp2_with fail
          go_ret
          exact ⟨rfl, Hl9.out.call hb10⟩
    · have hch : Nt.chain n = false := by simp [Nt.chain, hc]
      generalize Nt.check n = ck at *
      have q0 : (ck == 0) = false := by simpa using hc
      clear hc
      have Hk5 := Lib.hid hk5
      have Hl5 := Lib.hid hl5
      have Hch := Lib.hid hch
      clear hk5 hl5 hch
      go_wp2_with fail
      refine (net_chain A N c d n _ Hok.out (HR.out.below Hl5.out (Nat.le_refl _)) lc).mono ?_
      rintro e w9 ⟨rfl, hb9⟩
      rw [Hch.out]
      have hl9 := Hl5.out.call hb9
      clear hb9
      have Hl9 := Lib.hid hl9
      clear hl9
      go_wp2_with fail
      refine (awake11 _).mono ?_
      rintro e w10 ⟨rfl, hb10⟩
      go_wp2_with fail
      go_ret
      exact ⟨rfl, Hl9.out.call hb10⟩
end Go.Proofs.Ytjkhpbngpceenaa
