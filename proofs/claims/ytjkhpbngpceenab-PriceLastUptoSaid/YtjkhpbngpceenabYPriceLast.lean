/- The statement Rows.PriceLastUptoSaid is proved: for every input the law 'athanorlaw13.PriceLast' returns true, and each argument reads afterwards as it read before. Conditions: those of the row, no others. -/
import Derived.Below
import Derived.ChangeOld
import Derived.JoinedCond
import Derived.OpenShut
import Derived.ProofKit
import Derived.ShutString
import Derived.WalkKit
import Derived.Test.YtjkhpbngpceenabRows
import Derived.Test.YtjkhpbngpceenabZ08
set_option linter.unusedVariables false
/- Layer 13's statement PriceLast: the walk. -/
namespace Go.Proofs.Ytjkhpbngpceenab
open Go.RowKit
namespace Nt
theorem insF_unused {n : NetD} {u : Int} (h : isUsed n.nodes u = false) (id : Int) : (insF n.nodes id).contains u = false := by
  unfold insF node
  rw [List.getD_eq_getElem?_getD]
  by_cases hl : id.toNat - 1 < n.nodes.length
  · rw [List.getElem?_eq_getElem hl]
    unfold isUsed at h
    rw [List.any_eq_false] at h
    have := h _ (List.getElem_mem hl)
    simpa using this
  · rw [List.getElem?_eq_none (by omega)]; rfl
theorem lastF_unused {n : NetD} {u : Int} (h : isUsed n.nodes u = false) (k : Nat) : lastF n u k = 0 := by
  induction k with
  | zero => rfl
  | succ k ih => unfold lastF; rw [insF_unused h, ih]; rfl
theorem lastF_used {n : NetD} {u : Int} {i : Nat} (h : (insF n.nodes ((sorted n.nodes).getD i 0)).contains u = true) (k : Nat) (hk : i < k) : 1 ≤ lastF n u k := by
  induction k with
  | zero => omega
  | succ k ih =>
    unfold lastF
    split
    · omega
    · rename_i hc
      by_cases e : i = k
      · subst e; exact absurd h hc
      · exact ih (by omega)
theorem last_loss {n : NetD} (h : check n = 0) : lastF n (loss n.nodes) n.nodes.length = 0 ∧ 1 ≤ loss n.nodes ∧ loss n.nodes ≤ n.nodes.length := by
  obtain ⟨h1, h2, h3⟩ := loss_mem (check_ok h).2.2.2.2.2.2.1
  refine ⟨lastF_unused ?_ _, h2, h3⟩
  have : loss n.nodes ∈ unused n.nodes := by rw [h1]; simp
  have := (List.mem_filter.1 this).2
  simpa using this
theorem last_other {n : NetD} (h : check n = 0) {u : Int} (h0 : 0 ≤ u) (h1 : u ≤ n.nodes.length) (hu : u ≠ loss n.nodes) : 1 ≤ lastF n u n.nodes.length := by
  obtain ⟨e, _, _⟩ := loss_mem (check_ok h).2.2.2.2.2.2.1
  have hused : isUsed n.nodes u = true := by
    cases hq : isUsed n.nodes u
    · have : u ∈ unused n.nodes := List.mem_filter.2 ⟨mem_nums.2 ⟨h0, h1⟩, by rw [hq]; rfl⟩
      rw [e] at this
      simp at this
      exact absurd this hu
    · rfl
  unfold isUsed at hused
  obtain ⟨v, hv, hc⟩ := List.any_eq_true.1 hused
  obtain ⟨j, hj, rfl⟩ := List.getElem_of_mem hv
  have hso := (check_ok h).2.2.2.2.1
  have hm : ((j : Int) + 1) ∈ sorted n.nodes := (Kn.order_full hso _).2 ⟨by omega, by omega⟩
  obtain ⟨k, hk, ek⟩ := List.getElem_of_mem hm
  refine lastF_used (i := k) ?_ _ (by rw [hso] at hk; exact hk)
  rw [List.getD_eq_getElem?_getD, List.getElem?_eq_getElem hk, ek]
  show (insF n.nodes ((j : Int) + 1)).contains u = true
  unfold insF
  rw [node_at hj]
  exact hc
end Nt
set_option maxHeartbeats 16000000 in
set_option maxRecDepth 100000 in
theorem walkPriceLast (w : World) (A N : Option Addr) (c d : Nat) (n : NetD) (la : n.inn.length ≤ c) (lb : c ≤ 9223372036854775807) (lc : n.nodes.length ≤ d) (ld : d ≤ 9223372036854775807) (hR : NetR w A N n) (hf : n.fits) :
    Calls Try.prog 5 #[.agg #[.slice A n.inn.length c, .slice N n.nodes.length d]] w fun e w' => e = .returned (.bool true) ∧ Below w.heap.size w w' := by
  have hok := hf.ok
  have hk := Blk.new w 26 #[.slice A n.inn.length c, .slice N n.nodes.length d]
  have hl0 : Later w (w.alloc (.cells #[.slice A n.inn.length c, .slice N n.nodes.length d] 26)) := (Later.refl w).alloc _
  have Hok := Lib.hid hok
  have HR := Lib.hid hR
  have Hk := Lib.hid hk
  have Hl0 := Lib.hid hl0
  have Hf := Lib.hid hf
  clear hok hR hk hl0 hf
  go_enter Try.func5, Try.ntmps5
  go_wp2_with fail
  generalize w.alloc (.cells #[.slice A n.inn.length c, .slice N n.nodes.length d] 26) = w1 at *
  refine (smallP_13 A N c d n w1 Hok.out (HR.out.below Hl0.out (Nat.le_refl _))).mono ?_
  rintro e w2 ⟨b, rfl, hsm, hb2⟩
  have hl2 := Hl0.out.call hb2
  have hk2 := (show Later w1 w2 from hb2).blk Hk.out
  clear hb2 Hk Hl0
  cases b
  · have Hk2 := Lib.hid hk2
    have Hl2 := Lib.hid hl2
    clear hk2 hl2
    clear hsm
    go_wp2_with fail
    refine (awake13 _).mono ?_
    rintro e w3 ⟨rfl, hb3⟩
    go_wp2_with fail
    go_ret
    exact ⟨rfl, Hl2.out.call hb3⟩
  have hsm := hsm rfl
  have x0 : w2.cell? ⟨w.heap.size, 0, none⟩ = some (.slice A n.inn.length c) := by rw [hk2.cell]; rfl
  have x1 : w2.cell? ⟨w.heap.size, 1, none⟩ = some (.slice N n.nodes.length d) := by rw [hk2.cell]; rfl
  have Hk2 := Lib.hid hk2
  have Hl2 := Lib.hid hl2
  clear hk2 hl2
  go_wp2_with fail
  refine (price_last A N c d n _ Hok.out (HR.out.below Hl2.out (Nat.le_refl _)) lc).mono ?_
  rintro e w3 ⟨hb3, hcase⟩
  have hl3 := Hl2.out.call hb3
  have hk3 := (show Later w2 w3 from hb3).blk Hk2.out
  have z0 : w3.cell? ⟨w.heap.size, 0, none⟩ = some (.slice A n.inn.length c) := by rw [hk3.cell]; rfl
  have z1 : w3.cell? ⟨w.heap.size, 1, none⟩ = some (.slice N n.nodes.length d) := by rw [hk3.cell]; rfl
  clear x0 x1 hb3 Hk2 Hl2
  rcases hcase with ⟨hc, g, rfl, hg⟩ | ⟨hc, rfl⟩
  · have hso : (Nt.sorted n.nodes).length = n.nodes.length := (Nt.check_ok hc).2.2.2.2.1
    have hrng : ∀ u ∈ Nt.sorted n.nodes, 1 ≤ u ∧ u ≤ n.nodes.length := Kn.order_rng _ _
    obtain ⟨hll, hl1', hl2'⟩ := Nt.last_loss hc
    have hoth := fun u => @Nt.last_other n hc u
    have hbd := fun u k => Nt.lastF_bd n u k
    have hstep : ∀ (u : Int) (k : Nat), Nt.lastF n u (k + 1) = if (Nt.insF n.nodes ((Nt.sorted n.nodes).getD k 0)).contains u then (k : Int) + 1 else Nt.lastF n u k := fun _ _ => rfl
    have Hk3 := Lib.hid hk3
    have Hl3 := Lib.hid hl3
    have Hc := Lib.hid hc
    have Hg := Lib.hid hg
    have Hso := Lib.hid hso
    have Hrng := Lib.hid hrng
    have Hoth := Lib.hid hoth
    have Hbd := Lib.hid hbd
    have Hll := Lib.hid hll
    have Hstep := Lib.hid hstep
    clear hk3 hl3 hc hg hso hrng hoth hbd hll hstep
    go_wp2_with fail
    refine (ref_13 A N c d n _ Hok.out (HR.out.below Hl3.out (Nat.le_refl _))).mono ?_
    rintro e w4 ⟨N', d', rfl, hR4, hd4, hm4, hb4⟩
    have hl4 := Hl3.out.call hb4
    have h34 : Later w3 w4 := hb4
    clear z0 z1 hb4
    have Hl4 := Lib.hid hl4
    have HR4 := Lib.hid hR4
    have H34 := Lib.hid h34
    clear hl4 hR4 h34
    go_wp2_with fail
    refine (ref11_check A N' c d' n _ Hok.out HR4.out hd4 la lb).mono ?_
    rintro e w5 ⟨hb5, ⟨-, g9, rfl, -, -⟩ | ⟨hc', -⟩⟩
    rotate_left
    · exact absurd Hc.out hc'
    have h35 := H34.out.call hb5
    have hl5 := Hl3.out.trans h35
    have hk5 := h35.blk Hk3.out
    have y1 : w5.cell? ⟨w.heap.size, 1, none⟩ = some (.slice N n.nodes.length d) := by rw [hk5.cell]; rfl
    have hgat : ∀ (W : World), Later w5 W → ∀ u : Nat, u ≤ n.nodes.length → W.cell? ⟨g, u, none⟩ = some (.int .i64 (Nt.lastF n u n.nodes.length)) := fun W h u hu => by
      have e := Nt.lastMid_at n n.nodes.length hu
      rw [(h.blk (h35.blk Hg.out)).cell]; simp [intV, e]
    generalize Nt.loss n.nodes = L at *
    obtain ⟨l, hl⟩ : ∃ l : Nat, L = (l : Int) := ⟨L.toNat, by omega⟩
    subst hl
    have hgl := hgat w5 (Later.refl _) l (by omega)
    rw [Hll.out] at hgl
    have l0 : (0 : Int) ≤ (l : Int) := by omega
    have l1 : (l : Int) < ((n.nodes.length + 1 : Nat) : Int) := by omega
    have l2 : (l : Int) < (n.nodes.length : Int) + 1 := by omega
    clear hb5
    have H35 := Lib.hid h35
    have Hl5 := Lib.hid hl5
    have Hk5 := Lib.hid hk5
    have Hgat := Lib.hid hgat
    clear h35 hl5 hk5 hgat
    go_wp2_with fail
    clear hgl l0 l1 l2 y1
    go_loopw [63] (fun i wx => ∃ k : Nat, k ≤ n.nodes.length + 1 ∧ i = .int .i64 (k : Int) ∧ Later w5 wx) (fun i _ => n.nodes.length + 1 - (intOf i).toNat)
    case atStart => exact ⟨0, Nat.zero_le _, rfl, Later.refl _⟩
    case round =>
      obtain ⟨k, hk, rfl, hlw⟩ := hrel
      by_cases hlt : k < n.nodes.length + 1
      · have x0 : wr.cell? ⟨w.heap.size, 0, none⟩ = some (.slice A n.inn.length c) := by rw [(hlw.blk Hk5.out).cell]; rfl
        have x1 : wr.cell? ⟨w.heap.size, 1, none⟩ = some (.slice N n.nodes.length d) := by rw [(hlw.blk Hk5.out).cell]; rfl
        have hlwr := Hl5.out.trans hlw
        have k1 : (k : Int) < ((n.nodes.length + 1 : Nat) : Int) := by omega
        have Hlw := Lib.hid hlw
        have Hlwr := Lib.hid hlwr
        clear hlw hlwr
        go_wp2_with fail
        refine (ref_13 A N c d n _ Hok.out (HR.out.below Hlwr.out (Nat.le_refl _))).mono ?_
        rintro e w6 ⟨N6, d6, rfl, hR6, hd6, hm6, hb6⟩
        have hl6 := Hlw.out.call hb6
        clear x0 x1 hb6
        have Hl6 := Lib.hid hl6
        have HR6 := Lib.hid hR6
        clear hl6 hR6
        go_wp2_with fail
        refine (ref11_order A N6 c d6 n _ Hok.out HR6.out).mono ?_
        rintro e w7 ⟨P, pc, rfl, hP, hp1, hp2, hb7⟩
        have hl7 := Hl6.out.call hb7
        have hlw7 := Hl5.out.trans hl7
        have x1 : w7.cell? ⟨w.heap.size, 1, none⟩ = some (.slice N n.nodes.length d) := by rw [(hl7.blk Hk5.out).cell]; rfl
        have hgk := Hgat.out w7 hl7 k (by omega)
        have hbk := fun m => Hbd.out (k : Int) m
        have hotk := fun h => Hoth.out (k : Int) (by omega) (by omega) h
        have hstk := fun m => Hstep.out (k : Int) m
        have hLk := Hll.out
        have eL : (k : Int) = (l : Int) → Nt.lastF n (k : Int) n.nodes.length = 0 := fun e => by rw [e]; exact hLk
        have hso := Hso.out
        have hnn : n.nodes.length = (Nt.sorted n.nodes).length := hso.symm
        have hF : ∃ F : Nat → Int, F = Nt.lastF n (k : Int) := ⟨_, rfl⟩
        obtain ⟨F, hF⟩ := hF
        have hF0 : F 0 = 0 := by rw [hF]; rfl
        rw [← hF] at hgk hbk hotk hstk eL
        generalize Nt.sorted n.nodes = os at *
        rw [hnn] at hgk hotk eL
        clear hb7 hso hLk hF
        have Hl7 := Lib.hid hl7
        have Hlw7 := Lib.hid hlw7
        have HP := Lib.hid hP
        have Hbk := Lib.hid hbk
        have Hotk := Lib.hid hotk
        have Hstk := Lib.hid hstk
        have HeL := Lib.hid eL
        have Hnn := Lib.hid hnn
        clear hl7 hlw7 hP hbk hotk hstk eL hnn
        have HF0 := Lib.hid hF0
        clear hF0
        go_wp2_with fail
        go_loop [9, 70] (fun t i => ∃ m : Nat, m ≤ os.length ∧ i = .int .i64 (m : Int) ∧ t = .int .i64 (F m)) (fun _ i => os.length - (intOf i).toNat)
        case atStart => exact ⟨0, Nat.zero_le _, rfl, by rw [HF0.out]⟩
        case round =>
          obtain ⟨m, hm, rfl, rfl⟩ := hrel
          by_cases hlm : m < os.length
          · obtain ⟨b, off, rfl, -, hc0⟩ := HP.out m hlm
            rw [getD_at hlm] at hc0
            have hr := Hrng.out _ (List.getElem_mem hlm)
            obtain ⟨j, hj⟩ : ∃ j : Nat, os[m] = (j : Int) + 1 := ⟨(os[m] - 1).toNat, by omega⟩
            have hjl : j < n.nodes.length := by omega
            have eo : os.getD m 0 = os[m] := getD_at hlm
            have hst := Hstk.out m
            have hiF : Nt.insF n.nodes os[m] = n.nodes[j].ins := by unfold Nt.insF; rw [hj, Nt.node_at hjl]
            rw [eo, hiF] at hst
            have hil := (Hok.out.2.2 _ (List.getElem_mem hjl)).2.2.1
            obtain ⟨b1, off1, S, sc, I, ic, Q, qc, rfl, hNA, -, -, -⟩ := HR.out.2.at_ hjl
            obtain ⟨⟨-, -, -, -, -, -, -, -, y8, -⟩, -, hIJ, -⟩ := hNA.below Hlw7.out
            rw [hj] at hc0
            generalize n.nodes[j] = v at *
            have j1 : IntKind.i64.wrap ((j : Int) + 1 - 1) = (j : Int) := by rw [IntWalk.i64_in _ (by omega)]; omega
            have j2 : (j : Int) < n.nodes.length := by omega
            have m1 : (m : Int) < (os.length : Int) := by omega
            have hmo : m ≤ 200 := by have := Hnn.out; omega
            clear hr hj eo hiF
            have Hst := Lib.hid hst
            have HIJ := Lib.hid hIJ
            have HNA := Lib.hid hNA
            clear hst hIJ hNA
            go_wp2_with fail
            clear y8 hc0
            go_loop [9, 83] (fun t i => ∃ p : Nat, p ≤ v.ins.length ∧ i = .int .i64 (p : Int) ∧ t = .int .i64 (if (v.ins.take p).contains (k : Int) then (m : Int) + 1 else F m)) (fun _ i => v.ins.length - (intOf i).toNat)
            case atStart => exact ⟨0, Nat.zero_le _, rfl, by simp⟩
            case round =>
              obtain ⟨p, hp, rfl, rfl⟩ := hrel
              by_cases hlp : p < v.ins.length
              · obtain ⟨b2, off2, rfl, -, hc2⟩ := HIJ.out p hlp
                rw [getD_at hlp] at hc2
                have hcs : (v.ins.take (p + 1)).contains (k : Int) = ((v.ins.take p).contains (k : Int) || ((k : Int) == v.ins[p])) := by
                  rw [List.take_succ_eq_append_getElem hlp, List.contains_append]; congr 1; rw [Bool.eq_iff_iff]; simp
                have k6 : IntKind.i64.wrap ((m : Int) + 1) = (m : Int) + 1 := IntWalk.i64_in _ (by omega)
                generalize v.ins[p] = x at *
                generalize (v.ins.take p).contains (k : Int) = bb at *
                by_cases hx : x = (k : Int)
                · have e1 : (x == (k : Int)) = true := by simp [hx]
                  have HX := Lib.hid (show (v.ins.take (p + 1)).contains (k : Int) = true by rw [hcs, hx]; simp)
                  clear hcs hx
                  go_wp2_with fail
                  go_round
                  case rel => exact ⟨p + 1, by omega, by go_num, by rw [HX.out]; rfl⟩
                  case measure => simp [intOf]; omega
                · have e1 : (x == (k : Int)) = false := by simp [hx]
                  have hx2 : ((k : Int) == x) = false := by simp; exact fun e => hx e.symm
                  have HX := Lib.hid (show (v.ins.take (p + 1)).contains (k : Int) = bb by rw [hcs, hx2]; simp)
                  clear hcs hx hx2
                  go_wp2_with fail
                  go_round
                  case rel => exact ⟨p + 1, by omega, by go_num, by rw [HX.out]⟩
                  case measure => simp [intOf]; omega
              · obtain rfl : p = v.ins.length := by omega
                rw [List.take_length, ← Hst.out]
                go_wp2_with fail
                go_round
                case rel => exact ⟨m + 1, by omega, by go_num, rfl⟩
                case measure => simp [intOf]; omega
          · obtain rfl : m = os.length := by omega
            have hgk2 := hgk
            have k0 : (0 : Int) ≤ (k : Int) := by omega
            by_cases ek : (k : Int) = (l : Int)
            · have e0 := HeL.out ek
              rw [e0] at hgk2 ⊢
              have ek2 : ((k : Int) != (l : Int)) = false := by simp [ek]
              have ek3 : (k != l) = false := by simp; omega
              clear ek e0 hgk
              go_wp2_with fail
              go_roundw
              case rel => exact ⟨k + 1, by omega, by go_num, Hl7.out⟩
              case measure => simp [intOf]; omega
            · have e0 := Hotk.out ek
              generalize F os.length = fv at *
              have ek2 : ((k : Int) != (l : Int)) = true := by simpa using ek
              have e1 : (fv == 0) = false := by simp; omega
              have e2 : (fv != fv) = false := by simp
              clear ek hgk
              go_wp2_with fail
              go_roundw
              case rel => exact ⟨k + 1, by omega, by go_num, Hl7.out⟩
              case measure => simp [intOf]; omega
      · obtain rfl : k = n.nodes.length + 1 := by omega
        have Hlw := Lib.hid hlw
        clear hlw
        go_wp2_with fail
        refine (awake13 _).mono ?_
        rintro e w9 ⟨rfl, hb9⟩
        go_wp2_with fail
        go_ret
        exact ⟨rfl, (Hl5.out.trans Hlw.out).call hb9⟩
  · have Hk3 := Lib.hid hk3
    have Hl3 := Lib.hid hl3
    have Hc := Lib.hid hc
    clear hk3 hl3 hc
    go_wp2_with fail
    refine (ref_13 A N c d n _ Hok.out (HR.out.below Hl3.out (Nat.le_refl _))).mono ?_
    rintro e w4 ⟨N', d', rfl, hR4, hd4, hm4, hb4⟩
    have hl4 := Hl3.out.call hb4
    clear z0 z1 hb4
    have Hl4 := Lib.hid hl4
    have HR4 := Lib.hid hR4
    clear hl4 hR4
    go_wp2_with fail
    refine (ref11_check A N' c d' n _ Hok.out HR4.out hd4 la lb).mono ?_
    rintro e w5 ⟨hb5, ⟨hc', -⟩ | ⟨-, rfl⟩⟩
    · exact absurd hc' Hc.out
    have hl5 := Hl4.out.call hb5
    have hc := Hc.out
    generalize Nt.check n = ck at *
    have q0 : (ck != 0) = true := by simpa using hc
    clear hb5 hc
    have Hl5 := Lib.hid hl5
    clear hl5
    go_wp2_with fail
    refine (awake13 _).mono ?_
    rintro e w9 ⟨rfl, hb9⟩
    go_wp2_with fail
    go_ret
    exact ⟨rfl, Hl5.out.call hb9⟩
end Go.Proofs.Ytjkhpbngpceenab
namespace Go.Proofs.Ytjkhpbngpceenab.priceLast
open Go.ChangeShapes Go.WideShapes Go.ChangeAt Go.RowKit
open Go.ChangeMaps (open_string shut_string)

theorem own : ownKnob Try.prog.godebug = none := by kernel_rfl
theorem laidOut : laidOutB Try.prog = true := by kernel_rfl

set_option maxRecDepth 100000 in
theorem lifted (os : Os) (started : os.Started) (H : Type) (enc : TypeId × Value → H) (Fi : Stop.Interp) :
    ReturnsInHanded {} Try.checked os 5 .any ((Rows.OpenSpec.upto Rows.priceLastSpec).pre6 enc Try.prog Try.f5 Rows.priceLastUptoRow.domain false) (((Rows.OpenSpec.upto Rows.priceLastSpec).at Fi).post enc Try.prog Try.f5 false true false false) := by
  refine returnsInHanded_of_cond (C := Try.checked) (s := Rows.OpenSpec.upto Rows.priceLastSpec) (k := Rows.uptoSmall) rfl own started (by kernel_rfl) Try.func5
    (OpenSpec.witness (enc := enc) (C := Try.checked) (s := Rows.OpenSpec.upto Rows.priceLastSpec) (k := Rows.uptoSmall) rfl false ⟨#[], #[.agg #[.slice none 0 0, .slice none 0 0]], []⟩ 8 (by kernel_rfl) (by kernel_rfl) (by kernel_rfl)
      (x := ([.agg [.nil, .nil]], [], [])) (by kernel_rfl) rfl (by kernel_rfl)) ?_
  intro W base args ds gs before hval0 hW hcnd hbulk _
  have hval : ∀ (j : Nat) t v, Try.f5.params[j]? = some t → args[j]? = some v → Value.okWide Try.prog W .any base t v := hval0
  have hW' := hW
  obtain ⟨p, q, hA0, hV, rfl, hfz, hnd⟩ := hW
  have hA : DataW.TrodAll enc Try.prog W 0 (fun _ => true) true Try.f5.params.toList args.toList ds p := hA0
  rw [Try.params5] at hA hval
  obtain ⟨v0, vs0, d0, ds0, p0, q0, hargs, rfl, rfl, h0, r0⟩ := trodAll_cons hA
  obtain ⟨rfl, rfl, rfl⟩ := trodAll_nil r0
  obtain rfl : args = #[v0] := by cases args; simp_all
  obtain ⟨rfl, rfl⟩ := trodVars_none hV
  have hbk : Rows.uptoBulkAll ([d0] ++ []) ≤ 1048576 := of_decide_eq_true hbulk
  have hz0 : Rows.uptoBulk d0 ≤ 1048576 := Nat.le_trans (bulk_part (by simp)) hbk
  have k0 := h0
  have lt0 : ∀ x ∈ p0, x.block < W.heap.size := by obtain ⟨m, hm⟩ := k0; exact DataW.trod_lt m _ _ _ hm
  obtain ⟨A0, N0, c10, c20, n0, rfl, la0, lb0, lc0, ld0, hS0, hw0⟩ := net_open (hval 0 26 v0 rfl rfl) h0 hz0
  clear hA0 hval0
  refine (walkPriceLast W A0 N0 c10 c20 n0 la0 lb0 lc0 ld0 hS0 hw0).mono fun e W' ⟨he, bel⟩ => ?_
  subst he
  exact ⟨_, rfl, _, _, _, [], _, [], hW', trodAll_mk1 (shut_bool Try.underlying4 _), (trodAll_cons_mk (Below.trod laidOut (by kernel_rfl) (of_decide_eq_true (by kernel_rfl)) k0 bel lt0) trodAll_mk0), rfl, bel.frame _, fun h => by cases h⟩

theorem over : Rows.priceLastUptoRow.holds Try.pinned (Rows.OpenSpec.upto Rows.priceLastSpec) :=
  OpenClaim.holds_of_cond 5 Try.f5 rfl rfl rfl rfl rfl rfl rfl ⟨rfl, rfl, rfl, rfl, rfl⟩ rfl rfl rfl rfl rfl (by kernel_rfl) Try.func5 (by kernel_rfl)
    (of_decide_eq_true (by kernel_rfl)) (by unfold Func.isWrapper; first | (rw [if_pos (by decide +kernel)]; kernel_rfl) | (rw [if_neg (by decide +kernel)]; exact ⟨rfl, rfl⟩))
    (fun os started H enc _ Fi => lifted os started H enc Fi)
end Go.Proofs.Ytjkhpbngpceenab.priceLast
namespace Go.Proofs.Ytjkhpbngpceenab
theorem priceLast_holds : Rows.PriceLastUptoSaid := priceLast.over
#print axioms priceLast_holds
end Go.Proofs.Ytjkhpbngpceenab
