/- The statement Rows.NetCopiesUptoSaid is proved: for every input the law 'athanorlaw11.NetCopies' returns true, and each argument reads afterwards as it read before. Conditions: those of the row, no others. -/
import Derived.Below
import Derived.ChangeOld
import Derived.Deep.DeepCutAuto
import Derived.Deep.RegionHeld3
import Derived.JoinedCond
import Derived.OpenShut
import Derived.ProofKit
import Derived.ShutString
import Derived.WalkKit
import Derived.Test.YtjkhpbngpceenaaRows
import Derived.Test.YtjkhpbngpceenaaZ10
set_option linter.unusedVariables false
/- Layer 11's statement NetCopies: the walk. -/
namespace Go.Proofs.Ytjkhpbngpceenaa
open Go.RowKit
def EqCut (w5 : World) (v : Value) (wx : World) : Prop := v = .bool false ∧ Later w5 wx
theorem eqNet_self (n : NetD) : eqNet n n = true := decide_eq_true rfl
theorem eqNet_comm (n m : NetD) : eqNet m n = eqNet n m := by
  unfold eqNet
  rw [Bool.eq_iff_iff]
  simp
  exact ⟨Eq.symm, Eq.symm⟩
set_option maxHeartbeats 16000000 in
set_option maxRecDepth 100000 in
theorem walkNetCopies (w : World) (A N : Option Addr) (c d : Nat) (n : NetD) (la : n.inn.length ≤ c) (lb : c ≤ 9223372036854775807) (lc : n.nodes.length ≤ d) (ld : d ≤ 9223372036854775807) (hR : NetR w A N n) (hf : n.fits) (A' N' : Option Addr) (c' d' : Nat) (m : NetD) (la' : m.inn.length ≤ c') (lb' : c' ≤ 9223372036854775807) (lc' : m.nodes.length ≤ d') (ld' : d' ≤ 9223372036854775807) (hR' : NetR w A' N' m) (hf' : m.fits) :
    Calls Try.prog 5 #[.agg #[.slice A n.inn.length c, .slice N n.nodes.length d], .agg #[.slice A' m.inn.length c', .slice N' m.nodes.length d']] w fun e w' => e = .returned (.bool true) ∧ Below w.heap.size w w' := by
  have hok := hf.ok
  have hok' := hf'.ok
  have hk := (Blk.new w 26 #[.slice A n.inn.length c, .slice N n.nodes.length d]).alloc (.cells #[.slice A' m.inn.length c', .slice N' m.nodes.length d'] 26)
  have hk' := Blk.new (w.alloc (.cells #[.slice A n.inn.length c, .slice N n.nodes.length d] 26)) 26 #[.slice A' m.inn.length c', .slice N' m.nodes.length d']
  rw [World.size_alloc] at hk'
  have hl0 : Later w ((w.alloc (.cells #[.slice A n.inn.length c, .slice N n.nodes.length d] 26)).alloc (.cells #[.slice A' m.inn.length c', .slice N' m.nodes.length d'] 26)) := ((Later.refl w).alloc _).alloc _
  have hnl := hok.2.1
  have Hok := Lib.hid hok
  have Hok' := Lib.hid hok'
  have HR := Lib.hid hR
  have HR' := Lib.hid hR'
  have Hk := Lib.hid hk
  have Hk' := Lib.hid hk'
  have Hl0 := Lib.hid hl0
  have Hf := Lib.hid hf
  have Hf' := Lib.hid hf'
  clear hok hok' hR hR' hk hk' hl0 hf hf'
  go_enter Try.func5, Try.ntmps5
  go_wp2_with fail
  generalize (w.alloc (.cells #[.slice A n.inn.length c, .slice N n.nodes.length d] 26)).alloc (.cells #[.slice A' m.inn.length c', .slice N' m.nodes.length d'] 26) = w1 at *
  refine (small_11 A N c d n w1 Hok.out (netR_to HR.out Hl0.out)).mono ?_
  rintro e w2 ⟨b, rfl, hb2⟩
  have hl2 := Hl0.out.call hb2
  have hk2 := (show Later w1 w2 from hb2).blk Hk.out
  have hk2' := (show Later w1 w2 from hb2).blk Hk'.out
  clear hb2 Hk Hk' Hl0
  cases b
  · have Hk2 := Lib.hid hk2
    have Hk2' := Lib.hid hk2'
    have Hl2 := Lib.hid hl2
    clear hk2 hk2' hl2
    go_wp2_with fail
    refine (awake11 _).mono ?_
    rintro e w3 ⟨rfl, hb3⟩
    go_wp2_with fail
    go_ret
    exact ⟨rfl, Hl2.out.call hb3⟩
  have y0 : w2.cell? ⟨w.heap.size + 1, 0, none⟩ = some (.slice A' m.inn.length c') := by rw [hk2'.cell]; rfl
  have y1 : w2.cell? ⟨w.heap.size + 1, 1, none⟩ = some (.slice N' m.nodes.length d') := by rw [hk2'.cell]; rfl
  have Hk2 := Lib.hid hk2
  have Hk2' := Lib.hid hk2'
  have Hl2 := Lib.hid hl2
  clear hk2 hk2' hl2
  go_wp2_with fail
  refine (small_11 A' N' c' d' m w2 Hok'.out (netR_to HR'.out Hl2.out)).mono ?_
  rintro e w3 ⟨b, rfl, hb3⟩
  have hl3 := Hl2.out.call hb3
  have hk3 := (show Later w2 w3 from hb3).blk Hk2.out
  have hk3' := (show Later w2 w3 from hb3).blk Hk2'.out
  clear hb3 Hk2 Hk2' Hl2 y0 y1
  cases b
  · have Hk3 := Lib.hid hk3
    have Hk3' := Lib.hid hk3'
    have Hl3 := Lib.hid hl3
    clear hk3 hk3' hl3
    go_wp2_with fail
    refine (awake11 _).mono ?_
    rintro e w4 ⟨rfl, hb4⟩
    go_wp2_with fail
    go_ret
    exact ⟨rfl, Hl3.out.call hb4⟩
  have x0 : w3.cell? ⟨w.heap.size, 0, none⟩ = some (.slice A n.inn.length c) := by rw [hk3.cell]; rfl
  have x1 : w3.cell? ⟨w.heap.size, 1, none⟩ = some (.slice N n.nodes.length d) := by rw [hk3.cell]; rfl
  have Hk3 := Lib.hid hk3
  have Hk3' := Lib.hid hk3'
  have Hl3 := Lib.hid hl3
  clear hk3 hk3' hl3
  go_wp2_with fail
  refine (net_copy A N c d n w3 Hok.out (netR_to HR.out Hl3.out)).mono ?_
  rintro e w4 ⟨⟨a, g, zc, rfl, ha, hg, hba, hcr⟩, hb4⟩
  have hl4 := Hl3.out.call hb4
  have hs3 := Hl3.out.size
  have hga : w.heap.size ≤ g := Nat.le_trans hs3 hg
  have h4a : Later w4 (w4.alloc (.cells #[.slice (some ⟨a, 0, none⟩) n.inn.length n.inn.length, .slice (some ⟨g, 0, none⟩) n.nodes.length n.nodes.length] 26)) := (Later.refl w4).alloc _
  have hkc := Blk.new w4 26 #[.slice (some ⟨a, 0, none⟩) n.inn.length n.inn.length, .slice (some ⟨g, 0, none⟩) n.nodes.length n.nodes.length]
  have hk5 := h4a.blk ((show Later w3 w4 from hb4).blk Hk3.out)
  have hk5' := h4a.blk ((show Later w3 w4 from hb4).blk Hk3'.out)
  have hba5 := h4a.blk hba
  have hcr5 := hcr.later h4a
  have hl5 := hl4.trans h4a
  clear x0 x1 hb4 hba hcr hl4 Hk3 Hk3' hg ha
  have H4a := Lib.hid h4a
  have Hkc := Lib.hid hkc
  have Hk5 := Lib.hid hk5
  have Hk5' := Lib.hid hk5'
  have Hba5 := Lib.hid hba5
  have Hcr5 := Lib.hid hcr5
  have Hl5 := Lib.hid hl5
  clear h4a hkc hk5 hk5' hba5 hcr5 hl5
  go_upto_region 4 with fail
  generalize w4.alloc (.cells #[.slice (some ⟨a, 0, none⟩) n.inn.length n.inn.length, .slice (some ⟨g, 0, none⟩) n.nodes.length n.nodes.length] 26) = w5 at *
  generalize w4.heap.size = cb at *
  have hRc : NetR w5 (some ⟨a, 0, none⟩) (some ⟨g, 0, none⟩) n := ⟨Ints.of_row fun i hi => by
    rw [Nat.zero_add, Hba5.out.cell i, getD_at hi]
    simp [hi], Hcr5.out.nodes fun v hv => ⟨(Hok.out.2.2 v hv).2.1, (Hok.out.2.2 v hv).2.2.2.1, (Hok.out.2.2 v hv).2.2.2.2.1⟩⟩
  have hRn := netR_to HR.out Hl5.out
  have hRm := netR_to HR'.out Hl5.out
  clear H4a
  have x0 : w5.cell? ⟨w.heap.size, 0, none⟩ = some (.slice A n.inn.length c) := by rw [Hk5.out.cell]; rfl
  have x1 : w5.cell? ⟨w.heap.size, 1, none⟩ = some (.slice N n.nodes.length d) := by rw [Hk5.out.cell]; rfl
  have x2 : w5.cell? ⟨w.heap.size + 1, 0, none⟩ = some (.slice A' m.inn.length c') := by rw [Hk5'.out.cell]; rfl
  have x3 : w5.cell? ⟨w.heap.size + 1, 1, none⟩ = some (.slice N' m.nodes.length d') := by rw [Hk5'.out.cell]; rfl
  have x4 : w5.cell? ⟨cb, 0, none⟩ = some (.slice (some ⟨a, 0, none⟩) n.inn.length n.inn.length) := by rw [Hkc.out.cell]; rfl
  have x5 : w5.cell? ⟨cb, 1, none⟩ = some (.slice (some ⟨g, 0, none⟩) n.nodes.length n.nodes.length) := by rw [Hkc.out.cell]; rfl
  have hc1 := fun (V : World) (h : Later w5 V) => net_equal (some ⟨a, 0, none⟩) (some ⟨g, 0, none⟩) A N n.inn.length n.nodes.length c d n n V Hok.out Hok.out (netR_to hRc h) (netR_to hRn h)
  have hc2 := fun (V : World) (h : Later w5 V) => net_equal A N A N c d c d n n V Hok.out Hok.out (netR_to hRn h) (netR_to hRn h)
  have hc3 := fun (V : World) (h : Later w5 V) => net_equal A N A' N' c d c' d' n m V Hok.out Hok'.out (netR_to hRn h) (netR_to hRm h)
  have hc4 := fun (V : World) (h : Later w5 V) => net_equal A' N' A N c' d' c d m n V Hok'.out Hok.out (netR_to hRm h) (netR_to hRn h)
  have hc5 := fun (V : World) (h : Later w5 V) => law_same A N A' N' c d c' d' n m V Hok.out Hok'.out (netR_to hRn h) (netR_to hRm h)
  rw [eqNet_self] at hc1 hc2
  rw [eqNet_comm n m] at hc4
  generalize eqNet n m = bb at hc3 hc4 hc5
  clear hRc hRn hRm
  have Hc1 := Lib.hid hc1
  have Hc2 := Lib.hid hc2
  have Hc3 := Lib.hid hc3
  have Hc4 := Lib.hid hc4
  have Hc5 := Lib.hid hc5
  clear hc1 hc2 hc3 hc4 hc5
  go_cut [50] (EqCut w5)
  case first =>
    cases bb
    all_goals
      go_region_held3 (fun W => W.cell? ⟨w.heap.size, 0, none⟩ = some (.slice A n.inn.length c) ∧ W.cell? ⟨w.heap.size, 1, none⟩ = some (.slice N n.nodes.length d) ∧ W.cell? ⟨w.heap.size + 1, 0, none⟩ = some (.slice A' m.inn.length c') ∧ W.cell? ⟨w.heap.size + 1, 1, none⟩ = some (.slice N' m.nodes.length d') ∧ W.cell? ⟨cb, 0, none⟩ = some (.slice (some ⟨a, 0, none⟩) n.inn.length n.inn.length) ∧ W.cell? ⟨cb, 1, none⟩ = some (.slice (some ⟨g, 0, none⟩) n.nodes.length n.nodes.length)) (first | (with_reducible exact ⟨x0, x1, x2, x3, x4, x5⟩) | (have hL := (show Later w5 _ by repeat (first | (with_reducible exact Later.refl _) | (with_reducible apply Later.drew) | (with_reducible apply Later.drewN) | (with_reducible apply Later.alloc) | (with_reducible refine Later.call ?_ (by assumption)))); exact ⟨hL.cell x0, hL.cell x1, hL.cell x2, hL.cell x3, hL.cell x4, hL.cell x5⟩) | exact ⟨Later.cell (show Later w5 _ by repeat (first | (with_reducible exact Later.refl _) | (with_reducible apply Later.drew) | (with_reducible apply Later.drewN) | (with_reducible apply Later.alloc) | (with_reducible refine Later.call ?_ (by assumption)))) x0, Later.cell (show Later w5 _ by repeat (first | (with_reducible exact Later.refl _) | (with_reducible apply Later.drew) | (with_reducible apply Later.drewN) | (with_reducible apply Later.alloc) | (with_reducible refine Later.call ?_ (by assumption)))) x1, Later.cell (show Later w5 _ by repeat (first | (with_reducible exact Later.refl _) | (with_reducible apply Later.drew) | (with_reducible apply Later.drewN) | (with_reducible apply Later.alloc) | (with_reducible refine Later.call ?_ (by assumption)))) x2, Later.cell (show Later w5 _ by repeat (first | (with_reducible exact Later.refl _) | (with_reducible apply Later.drew) | (with_reducible apply Later.drewN) | (with_reducible apply Later.alloc) | (with_reducible refine Later.call ?_ (by assumption)))) x3, Later.cell (show Later w5 _ by repeat (first | (with_reducible exact Later.refl _) | (with_reducible apply Later.drew) | (with_reducible apply Later.drewN) | (with_reducible apply Later.alloc) | (with_reducible refine Later.call ?_ (by assumption)))) x4, Later.cell (show Later w5 _ by repeat (first | (with_reducible exact Later.refl _) | (with_reducible apply Later.drew) | (with_reducible apply Later.drewN) | (with_reducible apply Later.alloc) | (with_reducible refine Later.call ?_ (by assumption)))) x5⟩)
        (first
        | (go_at_call 18; (with_reducible refine (Hc1.out _ (show Later w5 _ by repeat (first | (with_reducible exact Later.refl _) | (with_reducible apply Later.drew) | (with_reducible apply Later.drewN) | (with_reducible apply Later.alloc) | (with_reducible refine Later.call ?_ (by assumption))))).mono ?_); rintro e wa ⟨rfl, hba⟩)
        | (go_at_call 18; (with_reducible refine (Hc2.out _ (show Later w5 _ by repeat (first | (with_reducible exact Later.refl _) | (with_reducible apply Later.drew) | (with_reducible apply Later.drewN) | (with_reducible apply Later.alloc) | (with_reducible refine Later.call ?_ (by assumption))))).mono ?_); rintro e wa ⟨rfl, hba⟩)
        | (go_at_call 18; (with_reducible refine (Hc3.out _ (show Later w5 _ by repeat (first | (with_reducible exact Later.refl _) | (with_reducible apply Later.drew) | (with_reducible apply Later.drewN) | (with_reducible apply Later.alloc) | (with_reducible refine Later.call ?_ (by assumption))))).mono ?_); rintro e wa ⟨rfl, hba⟩)
        | (go_at_call 18; (with_reducible refine (Hc4.out _ (show Later w5 _ by repeat (first | (with_reducible exact Later.refl _) | (with_reducible apply Later.drew) | (with_reducible apply Later.drewN) | (with_reducible apply Later.alloc) | (with_reducible refine Later.call ?_ (by assumption))))).mono ?_); rintro e wa ⟨rfl, hba⟩)
        | (go_at_call 19; (with_reducible refine (Hc5.out _ (show Later w5 _ by repeat (first | (with_reducible exact Later.refl _) | (with_reducible apply Later.drew) | (with_reducible apply Later.drewN) | (with_reducible apply Later.alloc) | (with_reducible refine Later.call ?_ (by assumption))))).mono ?_); rintro e wa ⟨rfl, hba⟩))
    all_goals
      go_wp2_with fail
      go_meet
      exact ⟨rfl, show Later w5 _ by repeat (first | (with_reducible exact Later.refl _) | (with_reducible apply Later.drew) | (with_reducible apply Later.drewN) | (with_reducible apply Later.alloc) | (with_reducible refine Later.call ?_ (by assumption)))⟩
  case rest =>
    obtain ⟨rfl, hlc⟩ := hcut
    have y0 := hlc.cell x0
    have y1 := hlc.cell x1
    have hl6 := Hl5.out.trans hlc
    have hkc6 := hlc.blk Hkc.out
    have hcr6 := Hcr5.out.later hlc
    have hkn6 := hlc.blk Hk5.out
    clear x0 x1 x2 x3 x4 x5 Hc1 Hc2 Hc3 Hc4 Hc5 Hk5 Hk5' Hba5 Hcr5 Hl5 hlc Hkc
    have Hl6 := Lib.hid hl6
    have Hkc6 := Lib.hid hkc6
    have Hcr6 := Lib.hid hcr6
    have Hkn6 := Lib.hid hkn6
    clear hl6 hkc6 hcr6 hkn6
    go_wp2_with fail
    refine (net_check A N c d n _ Hok.out (netR_to HR.out Hl6.out) lc).mono ?_
    rintro e w6 ⟨rfl, hb6⟩
    have hl7 := Hl6.out.call hb6
    have h67 : Later wc w6 := hb6
    have hkc7 := h67.blk Hkc6.out
    have hcr7 := Hcr6.out.later h67
    have hkn7 := h67.blk Hkn6.out
    have hchk := fun (V : World) (h : Later w V) => net_check A N c d n V Hok.out (netR_to HR.out h) lc
    generalize Nt.check n = ck at *
    have hm7 : Mix w w6 w6 := Mix.refl hl7
    have z5 : w6.cell? ⟨cb, 1, none⟩ = some (.slice (some ⟨g, 0, none⟩) n.nodes.length n.nodes.length) := by rw [hkc7.cell]; rfl
    clear hb6 h67 y0 y1 Hkc6 Hcr6 Hkn6 Hl6
    have Hl7 := Lib.hid hl7
    have Hkc7 := Lib.hid hkc7
    have Hcr7 := Lib.hid hcr7
    have Hkn7 := Lib.hid hkn7
    have Hchk := Lib.hid hchk
    have Hm7 := Lib.hid hm7
    clear hl7 hkc7 hcr7 hkn7 hchk hm7
    go_wp2_with fail
    clear z5
    go_loopw [56] (fun i wx => ∃ k : Nat, k ≤ n.nodes.length ∧ i = .int .i64 (k : Int) ∧ Mix w w6 wx) (fun i _ => n.nodes.length - (intOf i).toNat)
    case atStart => exact ⟨0, Nat.zero_le _, rfl, Hm7.out⟩
    case round =>
      obtain ⟨k, hk, rfl, hm⟩ := hrel
      clear Hm7
      by_cases hlt : k < n.nodes.length
      · obtain ⟨x, hxv, hxR, cs, hbg, e8, e9⟩ := Hcr7.out.at_ hlt
        have hvok : x.v.ok := by rw [hxv]; exact Hok.out.2.2 _ (List.getElem_mem hlt)
        obtain ⟨v, S, J, jc, Q⟩ := x
        replace e8 : cs[k * 10 + 8]? = some (.slice J v.ins.length jc) := e8
        replace e9 : cs[k * 10 + 9]? = some (.slice (some ⟨Q, 0, none⟩) v.p.length v.p.length) := e9
        replace hvok : v.ok := hvok
        obtain ⟨-, -, hxJ, hxQ⟩ := hxR
        replace hxJ : w6.ownsRow w3.heap.size 3 1 (.slice J v.ins.length jc) v.ins.length (v.ins.map (Value.int .i64)) := hxJ
        replace hxQ : FRow w3.heap.size w6 Q 23 v.p := hxQ
        obtain ⟨-, hs, hsl, ⟨vs, hvl, hbQ, hvs⟩, hrs⟩ := hxQ
        clear hxv
        have hil := hvok.2.2.1
        have hpl := hvok.2.2.2.1
        have hpe := hvok.2.2.2.2.1
        have y1 : wr.cell? ⟨cb, 1, none⟩ = some (.slice (some ⟨g, 0, none⟩) n.nodes.length n.nodes.length) := by rw [(hm.blk Hkc7.out (by decide)).cell]; rfl
        have y8 : wr.cell? ⟨g, k * 10 + 8, none⟩ = some (.slice J v.ins.length jc) := by rw [(hm.blk hbg (by decide)).cell]; exact e8
        have k0 : (k : Int) < (n.nodes.length : Int) := by omega
        have Hm := Lib.hid hm
        have Hbg := Lib.hid hbg
        have He8 := Lib.hid e8
        have He9 := Lib.hid e9
        have HxJ := Lib.hid hxJ
        have Hvs := Lib.hid hvs
        have HbQ := Lib.hid hbQ
        have Hrs := Lib.hid hrs
        have Hpe := Lib.hid hpe
        have Hvok := Lib.hid hvok
        have Hsl := Lib.hid hsl
        have Hvl := Lib.hid hvl
        clear hm hbg e8 e9 hxJ hvs hbQ hrs hpe hvok hsl hvl
        go_wp2_with fail
        clear y1 y8
        go_loopw [66] (fun i wx => ∃ kk : Nat, kk ≤ v.ins.length ∧ i = .int .i64 (kk : Int) ∧ Mix w w6 wx) (fun i _ => v.ins.length - (intOf i).toNat)
        case atStart => exact ⟨0, Nat.zero_le _, rfl, Hm.out⟩
        case round =>
          obtain ⟨kk, hkk, rfl, hm⟩ := hrel
          clear Hm
          have y1 : wr.cell? ⟨cb, 1, none⟩ = some (.slice (some ⟨g, 0, none⟩) n.nodes.length n.nodes.length) := by rw [(hm.blk Hkc7.out (by decide)).cell]; rfl
          by_cases hl2 : kk < v.ins.length
          · obtain ⟨bJ, cJ, rfl, hBJ, hbJ, hzJ⟩ := own_blk HxJ.out (by omega)
            obtain ⟨z, hz1, hz2⟩ := hm.cell hbJ (hzJ kk hl2)
            have y8 : wr.cell? ⟨g, k * 10 + 8, none⟩ = some (.slice (some ⟨bJ, 0, none⟩) v.ins.length jc) := by rw [(hm.blk Hbg.out (by decide)).cell]; exact He8.out
            have hm2 := hm.set hbJ (Nat.le_trans hs3 hBJ) kk (wrap64 (z + 1))
            have k1 : (kk : Int) < (v.ins.length : Int) := by omega
            clear hzJ
            have Hm := Lib.hid hm
            have HbJ := Lib.hid hbJ
            have Hm2 := Lib.hid hm2
            clear hm hbJ hm2
            go_wp2_with fail
            go_roundw
            case rel => exact ⟨kk + 1, by omega, by go_num, Hm2.out⟩
            case measure => simp [intOf]; omega
          · obtain rfl : kk = v.ins.length := by omega
            have y9 : wr.cell? ⟨g, k * 10 + 9, none⟩ = some (.slice (some ⟨Q, 0, none⟩) v.p.length v.p.length) := by rw [(hm.blk Hbg.out (by decide)).cell]; exact He9.out
            have Hm := Lib.hid hm
            clear hm
            go_wp2_with fail
            clear y1 y9
            go_loopw [88] (fun i wx => ∃ jj : Nat, jj ≤ v.p.length ∧ i = .int .i64 (jj : Int) ∧ Mix w w6 wx) (fun i _ => v.p.length - (intOf i).toNat)
            case atStart => exact ⟨0, Nat.zero_le _, rfl, Hm.out⟩
            case round =>
              obtain ⟨jj, hjj, rfl, hm⟩ := hrel
              clear Hm
              by_cases hl3 : jj < v.p.length
              · have hj2 : jj < hs.length := by rw [Hsl.out]; exact hl3
                have hv1 := Hvs.out jj hl3 hj2
                obtain ⟨hB3, -, hb3⟩ := Hrs.out jj hl3 hj2
                have hp3 := Hpe.out _ (List.getElem_mem hl3)
                generalize hs[jj] = h at *
                generalize v.p[jj] = p at *
                have y1 : wr.cell? ⟨Q, jj, none⟩ = some (.slice (some ⟨h, 0, none⟩) p.length p.length) := by rw [(hm.blk HbQ.out (by decide)).cell]; simpa using hv1
                have k1 : (jj : Int) < (v.p.length : Int) := by omega
                have Hm := Lib.hid hm
                have Hb3 := Lib.hid hb3
                have Hv1 := Lib.hid hv1
                clear hm hb3 hv1
                go_wp2_with fail
                clear y1
                go_loopw [94] (fun i wx => ∃ ii : Nat, ii ≤ p.length ∧ i = .int .i64 (ii : Int) ∧ Mix w w6 wx) (fun i _ => p.length - (intOf i).toNat)
                case atStart => exact ⟨0, Nat.zero_le _, rfl, Hm.out⟩
                case round =>
                  obtain ⟨ii, hii, rfl, hm⟩ := hrel
                  clear Hm
                  by_cases hl4 : ii < p.length
                  · obtain ⟨z, hz1, hz2⟩ := hm.cell Hb3.out (i := ii) (z := p[ii]) (by simp [hl4])
                    have hm2 := hm.set Hb3.out (Nat.le_trans hs3 hB3) ii (wrap64 (z + 1))
                    have k2 : (ii : Int) < (p.length : Int) := by omega
                    have Hm := Lib.hid hm
                    have Hm2 := Lib.hid hm2
                    clear hm hm2
                    go_wp2_with fail
                    go_roundw
                    case rel => exact ⟨ii + 1, by omega, by go_num, Hm2.out⟩
                    case measure => simp [intOf]; omega
                  · obtain rfl : ii = p.length := by omega
                    have Hm := Lib.hid hm
                    clear hm
                    go_wp2_with fail
                    go_roundw
                    case rel => exact ⟨jj + 1, by omega, by go_num, Hm.out⟩
                    case measure => simp [intOf]; omega
              · obtain rfl : jj = v.p.length := by omega
                have Hm := Lib.hid hm
                clear hm
                go_wp2_with fail
                go_roundw
                case rel => exact ⟨k + 1, by omega, by go_num, Hm.out⟩
                case measure => simp [intOf]; omega
      · obtain rfl : k = n.nodes.length := by omega
        have y0 : wr.cell? ⟨w.heap.size, 0, none⟩ = some (.slice A n.inn.length c) := by rw [(hm.blk Hkn7.out (by decide)).cell]; rfl
        have y1 : wr.cell? ⟨w.heap.size, 1, none⟩ = some (.slice N n.nodes.length d) := by rw [(hm.blk Hkn7.out (by decide)).cell]; rfl
        have hlr := hm.2.2
        have q0 : (ck == ck) = true := by simp
        have Hm := Lib.hid hm
        have Hlr := Lib.hid hlr
        clear hm hlr
        go_wp2_with fail
        refine (Hchk.out _ Hlr.out).mono ?_
        rintro e w8 ⟨rfl, hb8⟩
        have hl8 := Hlr.out.call hb8
        clear hb8 y0 y1
        have Hl8 := Lib.hid hl8
        clear hl8
        go_wp2_with fail
        refine (awake11 _).mono ?_
        rintro e w9 ⟨rfl, hb9⟩
        go_wp2_with fail
        go_ret
        exact ⟨rfl, Hl8.out.call hb9⟩
end Go.Proofs.Ytjkhpbngpceenaa
namespace Go.Proofs.Ytjkhpbngpceenaa.netCopies
open Go.ChangeShapes Go.WideShapes Go.ChangeAt Go.RowKit
open Go.ChangeMaps (open_string shut_string)

theorem own : ownKnob Try.prog.godebug = none := by kernel_rfl
theorem laidOut : laidOutB Try.prog = true := by kernel_rfl

set_option maxRecDepth 100000 in
theorem lifted (os : Os) (started : os.Started) (H : Type) (enc : TypeId × Value → H) (Fi : Stop.Interp) :
    ReturnsInHanded {} Try.checked os 5 .any ((Rows.OpenSpec.upto Rows.netCopiesSpec).pre6 enc Try.prog Try.f5 Rows.netCopiesUptoRow.domain false) (((Rows.OpenSpec.upto Rows.netCopiesSpec).at Fi).post enc Try.prog Try.f5 false true false false) := by
  refine returnsInHanded_of_cond (C := Try.checked) (s := Rows.OpenSpec.upto Rows.netCopiesSpec) (k := Rows.uptoSmall) rfl own started (by kernel_rfl) Try.func5
    (OpenSpec.witness (enc := enc) (C := Try.checked) (s := Rows.OpenSpec.upto Rows.netCopiesSpec) (k := Rows.uptoSmall) rfl false ⟨#[], #[.agg #[.slice none 0 0, .slice none 0 0], .agg #[.slice none 0 0, .slice none 0 0]], []⟩ 8 (by kernel_rfl) (by kernel_rfl) (by kernel_rfl)
      (x := ([.agg [.nil, .nil], .agg [.nil, .nil]], [], [])) (by kernel_rfl) rfl (by kernel_rfl)) ?_
  intro W base args ds gs before hval0 hW hcnd hbulk _
  have hval : ∀ (j : Nat) t v, Try.f5.params[j]? = some t → args[j]? = some v → Value.okWide Try.prog W .any base t v := hval0
  have hW' := hW
  obtain ⟨p, q, hA0, hV, rfl, hfz, hnd⟩ := hW
  have hA : DataW.TrodAll enc Try.prog W 0 (fun _ => true) true Try.f5.params.toList args.toList ds p := hA0
  rw [Try.params5] at hA hval
  obtain ⟨v0, vs0, d0, ds0, p0, q0, hargs, rfl, rfl, h0, r0⟩ := trodAll_cons hA
  obtain ⟨v1, vs1, d1, ds1, p1, q1, rfl, rfl, rfl, h1, r1⟩ := trodAll_cons r0
  obtain ⟨rfl, rfl, rfl⟩ := trodAll_nil r1
  obtain rfl : args = #[v0, v1] := by cases args; simp_all
  obtain ⟨rfl, rfl⟩ := trodVars_none hV
  have hbk : Rows.uptoBulkAll ([d0, d1] ++ []) ≤ 1048576 := of_decide_eq_true hbulk
  have hz0 : Rows.uptoBulk d0 ≤ 1048576 := Nat.le_trans (bulk_part (by simp)) hbk
  have hz1 : Rows.uptoBulk d1 ≤ 1048576 := Nat.le_trans (bulk_part (by simp)) hbk
  have k0 := h0
  have lt0 : ∀ x ∈ p0, x.block < W.heap.size := by obtain ⟨m, hm⟩ := k0; exact DataW.trod_lt m _ _ _ hm
  have k1 := h1
  have lt1 : ∀ x ∈ p1, x.block < W.heap.size := by obtain ⟨m, hm⟩ := k1; exact DataW.trod_lt m _ _ _ hm
  obtain ⟨A0, N0, c10, c20, n0, rfl, la0, lb0, lc0, ld0, hS0, hw0⟩ := net_open (hval 0 26 v0 rfl rfl) h0 hz0
  obtain ⟨A1, N1, c11, c21, n1, rfl, la1, lb1, lc1, ld1, hS1, hw1⟩ := net_open (hval 1 26 v1 rfl rfl) h1 hz1
  clear hA0 hval0
  refine (walkNetCopies W A0 N0 c10 c20 n0 la0 lb0 lc0 ld0 hS0 hw0 A1 N1 c11 c21 n1 la1 lb1 lc1 ld1 hS1 hw1).mono fun e W' ⟨he, bel⟩ => ?_
  subst he
  exact ⟨_, rfl, _, _, _, [], _, [], hW', trodAll_mk1 (shut_bool Try.underlying4 _), (trodAll_cons_mk (Below.trod laidOut (by kernel_rfl) (of_decide_eq_true (by kernel_rfl)) k0 bel lt0) (trodAll_cons_mk (Below.trod laidOut (by kernel_rfl) (of_decide_eq_true (by kernel_rfl)) k1 bel lt1) trodAll_mk0)), rfl, bel.frame _, fun h => by cases h⟩

theorem over : Rows.netCopiesUptoRow.holds Try.pinned (Rows.OpenSpec.upto Rows.netCopiesSpec) :=
  OpenClaim.holds_of_cond 5 Try.f5 rfl rfl rfl rfl rfl rfl rfl ⟨rfl, rfl, rfl, rfl, rfl⟩ rfl rfl rfl rfl rfl (by kernel_rfl) Try.func5 (by kernel_rfl)
    (of_decide_eq_true (by kernel_rfl)) (by unfold Func.isWrapper; first | (rw [if_pos (by decide +kernel)]; kernel_rfl) | (rw [if_neg (by decide +kernel)]; exact ⟨rfl, rfl⟩))
    (fun os started H enc _ Fi => lifted os started H enc Fi)
end Go.Proofs.Ytjkhpbngpceenaa.netCopies
namespace Go.Proofs.Ytjkhpbngpceenaa
theorem netCopies_holds : Rows.NetCopiesUptoSaid := netCopies.over
#print axioms netCopies_holds
end Go.Proofs.Ytjkhpbngpceenaa
