/- The statement Rows.RootsWholeUptoCardSaid is proved: for every input the law 'athanorlaw21.RootsWhole' returns true, and each argument reads afterwards as it read before. Conditions: those of the row, no others. -/
import Derived.Below
import Derived.ChangeOld
import Derived.Deep.DeepCutAuto
import Derived.Deep.DeepHandedRow
import Derived.Deep.RegionHeld3
import Derived.JoinedCond
import Derived.LaidMore
import Derived.Lib.LaidTab
import Derived.OpenShut
import Derived.ProofKit
import Derived.SevenTiedAt
import Derived.ShutString
import Derived.Stop.Joined
import Derived.WalkKit
import Derived.Test.YtnffjfjhbjeaiaaGreatDoorCards
import Derived.Test.YtnffjfjhbjeaiaaGreatDoorRows
import Derived.Test.YtnffjfjhbjeaiaaGreatDoorTie
import Derived.Test.YtnffjfjhbjeaiaaGreatDoorW12
set_option linter.unusedVariables false
/- Layer 21's statement RootsWhole: the walk. -/
namespace Go.Proofs.YtnffjfjhbjeaiaaGreatDoor
open Go.RowKit
theorem sta_stood : Tryz.prog.stoodInHeld 47 = false := by kernel_rfl
theorem sta_guard : Tryz.prog.eqGuardType Tryz.prog.depth 47 = false := by kernel_rfl
theorem run_neq_stats (a b c d : Int) (w : World) : (binOp .neq 47 (.agg #[.int .i64 a, .int .i64 b, .int .i64 c, .int .i64 d]) (.agg #[.int .i64 a, .int .i64 b, .int .i64 c, .int .i64 d])).run Tryz.prog w = .ok (.bool false) w := by
  have g1 := sta_stood
  have g2 := sta_guard
  simp [go_sem, g1]
theorem wones_mem {m : Nat} {z : Int} : z ∈ wones m ↔ 1 ≤ z ∧ z ≤ m := by
  unfold wones
  rw [List.mem_map]
  constructor
  · rintro ⟨i, hi, rfl⟩
    rw [List.mem_range] at hi
    omega
  · intro h
    exact ⟨z.toNat - 1, by rw [List.mem_range]; omega, by omega⟩
theorem box_put {w : World} {g : Nat} {t : TypeId} (h : Blk w g t #[.int .i64 0, .int .i64 0, .int .i64 0, .int .i64 0]) (a b c d : Value) : Blk ((((w.setCell ⟨g, 0, none⟩ a).setCell ⟨g, 1, none⟩ b).setCell ⟨g, 2, none⟩ c).setCell ⟨g, 3, none⟩ d) g t #[a, b, c, d] := by
  have := (((h.set_ 0 a).set_ 1 b).set_ 2 c).set_ 3 d
  simpa using this
set_option maxHeartbeats 32000000 in
set_option maxRecDepth 100000 in
theorem walkRootsWhole (w : World) (A N : Option Addr) (c d : Nat) (n : NetD) (la : n.inn.length ≤ c) (lb : c ≤ 9223372036854775807) (lc : n.nodes.length ≤ d) (ld : d ≤ 9223372036854775807) (hR : NetR w A N n) (hf : n.fits)
    (K : Option Addr) (ck : Nat) (keep : List Int) (hK : Ints .i64 w K keep) (lk : keep.length ≤ ck) (lm : ck ≤ 9223372036854775807) (ln : keep.length ≤ 1048576) (hkw : ∀ z ∈ keep, -9223372036854775808 ≤ z ∧ z ≤ 9223372036854775807) :
    Calls Tryz.prog 4 #[.agg #[.slice A n.inn.length c, .slice N n.nodes.length d], .slice K keep.length ck] w fun e w' => e = .returned (.bool true) ∧ Below w.heap.size w w' := by
  have hok := hf.ok
  have hk := Blk.new w 26 #[.slice A n.inn.length c, .slice N n.nodes.length d]
  have hl0 : Later w (w.alloc (.cells #[.slice A n.inn.length c, .slice N n.nodes.length d] 26)) := (Later.refl w).alloc _
  clear hkw lk lm
  have Hok := Lib.hid hok
  have HR := Lib.hid hR
  have Hk := Lib.hid hk
  have Hl0 := Lib.hid hl0
  have Hf := Lib.hid hf
  have HK := Lib.hid hK
  clear hok hR hk hl0 hf hK
  go_enter Tryz.func4, Tryz.ntmps4
  go_wp2_with fail
  generalize w.alloc (.cells #[.slice A n.inn.length c, .slice N n.nodes.length d] 26) = w1 at *
  refine (small_21 A N K c d ck keep.length n w1 Hok.out (HR.out.below Hl0.out (Nat.le_refl _)) ln).mono ?_
  rintro e w2 ⟨b, rfl, hsm, hb2⟩
  have hl2 := Hl0.out.call hb2
  have hk2 := (show Later w1 w2 from hb2).blk Hk.out
  clear hb2 Hk Hl0
  have aw : ∀ W, Later w W → Calls Tryz.prog 7 #[] W fun e w' => e = .returned (.bool true) ∧ Later w w' := fun W h => (awake21 W).mono fun e w' hq => ⟨hq.1, h.call hq.2⟩
  cases b
  · have Hk2 := Lib.hid hk2
    have Hl2 := Lib.hid hl2
    have Haw := Lib.hid aw
    clear hk2 hl2 aw
    clear hsm
    go_wp2_with fail
    refine (Haw.out _ Hl2.out).mono ?_
    rintro e w3 ⟨rfl, hb3⟩
    go_wp2_with fail
    go_ret
    exact ⟨rfl, hb3⟩
  obtain ⟨h12, h300⟩ := hsm rfl
  clear h300 hsm
  have x0 := hk2.cell 0
  have x1 := hk2.cell 1
  simp at x0 x1
  have Hk2 := Lib.hid hk2
  have Hl2 := Lib.hid hl2
  have Haw := Lib.hid aw
  clear hk2 hl2 aw
  go_wp2_with fail
  refine (nodes_21 A N K c d ck n keep w2 (HK.out.below Hl2.out (Nat.le_refl _)) (by omega)).mono ?_
  rintro e w3 ⟨rfl, hb3⟩
  have hl3 := Hl2.out.call hb3
  have hk3 := (show Later w2 w3 from hb3).blk Hk2.out
  generalize hnb : nodesB n.nodes.length keep = nb at *
  clear hb3 Hk2 Hl2 x0 x1
  have x0 := hk3.cell 0
  have x1 := hk3.cell 1
  simp at x0 x1
  have Hk3 := Lib.hid hk3
  have Hl3 := Lib.hid hl3
  clear hk3 hl3
  cases nb
  · go_wp2_with fail
    refine (Haw.out _ Hl3.out).mono ?_
    rintro e wz ⟨rfl, hbz⟩
    go_wp2_with fail
    go_ret
    exact ⟨rfl, hbz⟩
  have Hnb := Lib.hid hnb
  clear hnb
  go_wp2_with fail
  refine (ref_21 A N c d n w3 Hok.out (HR.out.below Hl3.out (Nat.le_refl _))).mono ?_
  rintro e w5 ⟨N1, d1, rfl, hR1, hd1, hd2, hb5⟩
  have hl35 : Later w3 w5 := hb5
  have hl5 := Hl3.out.trans hl35
  have hk5 := hl35.blk Hk3.out
  have HR1 := Lib.hid hR1
  have Hl5 := Lib.hid hl5
  have Hk5 := Lib.hid hk5
  clear hR1 hl5 hk5
  clear hb5 hl35
  go_wp2_with fail
  refine (ref11_check A N1 c d1 n w5 Hok.out HR1.out hd1 la lb).mono ?_
  rintro e w6 ⟨hb6, ⟨hch, gx, rfl, -, -⟩ | ⟨hch, rfl⟩⟩
  rotate_left
  · have hl6 := Hl5.out.call hb6
    have hne : (Nt.check n != 0) = true := by simp [hch]
    have Hl6 := Lib.hid hl6
    clear hl6
    clear hb6 hch
    generalize Nt.check n = er at *
    go_wp2_with fail
    refine (Haw.out _ Hl6.out).mono ?_
    rintro e wz ⟨rfl, hbz⟩
    go_wp2_with fail
    go_ret
    exact ⟨rfl, hbz⟩
  have hl56 : Later w5 w6 := hb6
  have hl6 := Hl5.out.trans hl56
  have hk6 := hl56.blk Hk5.out
  obtain ⟨p1, p2, p3, p4, hr1, q1, q2, q3, q4, -⟩ := Rw.run_lowered hch h12 keep
  obtain ⟨a1, a2, a3, a4, hra, -, -, -, -, hall⟩ := Rw.run_lowered hch h12 (wones n.nodes.length)
  obtain ⟨rfl, rfl⟩ := hall fun z z0 z1 => by
    rw [List.contains_iff_mem, wones_mem]; exact ⟨z0, z1⟩
  clear hall
  have HLo := Lib.hid (fun (W : World) (h : Later w W) => roots_lower A N K c d ck n keep W Hok.out (HR.out.below h (Nat.le_refl _)) lc h12 (HK.out.below h (Nat.le_refl _)) (by omega))
  have HCo := Lib.hid (fun (W : World) (cap : Int) (h : Later w W) (hcap : -9223372036854775808 ≤ cap ∧ cap ≤ 9223372036854775807) => roots_cost A N K c d ck n keep cap W Hok.out (HR.out.below h (Nat.le_refl _)) lc h12 (HK.out.below h (Nat.le_refl _)) (by omega) hch Hnb.out hcap)
  have HAll := Lib.hid (fun (W : World) => rw_all A N c d n W (by omega))
  have HCa := Lib.hid (fun (W : World) (K' : Option Addr) (ck' m' : Nat) (hm' : m' = (wones n.nodes.length).length) (h : Later w W) (hI : Ints .i64 W K' (wones n.nodes.length)) => (show Calls Tryz.prog 14 #[.agg #[.slice A n.inn.length c, .slice N n.nodes.length d], .slice K' m' ck', .int .i64 1073741824] W fun e w' => e = .returned (statsV (Ck.run n (Rt.lowered n (wones n.nodes.length)).code 1073741824)) ∧ Later W w' from by rw [hm']; exact roots_cost A N K' c d ck' n (wones n.nodes.length) 1073741824 W Hok.out (HR.out.below h (Nat.le_refl _)) lc h12 hI (by rw [wones_len]; omega) hch (nodesB_in.2 fun z hz => wones_mem.1 hz) (by omega)).mono fun e w' hq => (show e = .returned (.tuple #[.agg #[.int .i64 a1, .int .i64 (Safe.sum (Nt.costs n)), .int .i64 0, .int .i64 a4], .int .i64 0]) ∧ Later W w' from ⟨by rw [hq.1, hra]; rfl, hq.2⟩))
  have hcd : (Rt.lowered n keep).code.length ≤ 1000 := by rw [Rt.lowered_eq]; exact Rt.bwdN_short hch h12 keep _ (Nat.le_refl _)
  have HRun := Lib.hid (fun (W : World) (C : Option Addr) (cc : Nat) (h : Later w W) (hP : Pairs W C (Rt.lowered n keep).code) => check_run A N C c d cc n (Rt.lowered n keep).code 1073741824 W Hok.out (HR.out.below h (Nat.le_refl _)) lc (by omega) (by omega) (by omega) hP)
  have hwb : ∀ x ∈ Nt.costs n, 0 ≤ x ∧ x ≤ 4294967296 := fun x hx => by
    rcases List.mem_cons.1 hx with rfl | hx
    · omega
    · exact Nt.costs_bd hch n.nodes.length (Nat.le_refl _) _ hx
  have hcl : (Nt.costs n).length = n.nodes.length + 1 := by rw [Nt.costs, List.length_cons, Nt.costsTo_len]
  have HSm := Lib.hid (fun (A' : Option Addr) (c' m' : Nat) (hm' : m' = (Nt.costs n).length) (W : World) (h : Ints .i64 W A' (Nt.costs n)) => (show Calls Tryz.prog 16 #[.slice A' m' c'] W fun e w' => e = .returned (.int .i64 (Safe.sum (Nt.costs n))) ∧ W = w' from by rw [hm']; exact ref13_sum A' c' (Nt.costs n) W (by omega) hwb h))
  have hwl := wones_len n.nodes.length
  generalize hcde : (Rt.lowered n keep).code = cd at *
  generalize hto : Safe.sum (Nt.costs n) = tot at *
  clear x0 x1
  have x0 := hk6.cell 0
  have x1 := hk6.cell 1
  simp at x0 x1
  have Hk6 := Lib.hid hk6
  have Hl6 := Lib.hid hl6
  have Hch := Lib.hid hch
  have Hr1 := Lib.hid hr1
  have Hq4 := Lib.hid q4
  have Hwb := Lib.hid hwb
  have Hcde := Lib.hid hcde
  have Hcl := Lib.hid hcl
  have Hwl := Lib.hid hwl
  clear hk6 hl6 hch hr1 q4 hwb hcde hcl hwl
  clear hra hb6 hl56 HR1 Hl5 Hk5 Hk3 Hl3 hto
  go_wp2_with fail
  refine (HLo.out w6 Hl6.out).mono ?_
  rintro e w7 ⟨h67, ⟨h0, -⟩ | ⟨-, h0, -⟩ | ⟨-, -, C, cc, rfl, hP⟩⟩
  · exact absurd Hch.out h0
  · rw [Hnb.out] at h0; cases h0
  rw [Hcde.out] at hP ⊢
  have hk7 := h67.blk Hk6.out
  have hl7 := Hl6.out.trans h67
  clear x0 x1
  have x0 := hk7.cell 0
  have x1 := hk7.cell 1
  simp at x0 x1
  have Hk7 := Lib.hid hk7
  have Hl7 := Lib.hid hl7
  have HP := Lib.hid hP
  clear hk7 hl7 hP
  clear h67 Hk6 Hl6 HLo
  go_wp2_with fail
  refine (HRun.out w7 C cc Hl7.out HP.out).mono ?_
  rintro e w8 ⟨rfl, h8⟩
  rw [Hr1.out, show statsV ((p1, p2, p3, p4), 0) = .tuple #[.agg #[.int .i64 p1, .int .i64 p2, .int .i64 p3, .int .i64 p4], .int .i64 0] from rfl]
  have h9 : Later w7 (w8.alloc (.cells #[.int .i64 p1, .int .i64 p2, .int .i64 p3, .int .i64 p4] 47)) := h8.alloc _
  have hs9 := Blk.new w8 47 #[.int .i64 p1, .int .i64 p2, .int .i64 p3, .int .i64 p4]
  have hl9 := Hl7.out.trans h9
  have hk9 := h9.blk Hk7.out
  clear x0 x1 h8 Hl7 Hk7 HP HRun
  have Hs9 := Lib.hid hs9
  have Hl9 := Lib.hid hl9
  have Hk9 := Lib.hid hk9
  clear hs9 hl9 hk9
  go_upto_region 8 with fail
  generalize w8.alloc (.cells #[.int .i64 p1, .int .i64 p2, .int .i64 p3, .int .i64 p4] 47) = w9 at *
  generalize w8.heap.size = g9 at *
  clear h9
  have x0 := Hk9.out.cell 0
  have x1 := Hk9.out.cell 1
  simp at x0 x1
  go_wp2_with fail
  refine (HCo.out w9 1073741824 Hl9.out (by omega)).mono ?_
  rintro e w10 ⟨rfl, h10⟩
  rw [Hr1.out, show statsV ((p1, p2, p3, p4), 0) = .tuple #[.agg #[.int .i64 p1, .int .i64 p2, .int .i64 p3, .int .i64 p4], .int .i64 0] from rfl]
  have h11 : Later w9 (w10.alloc (.cells #[.int .i64 p1, .int .i64 p2, .int .i64 p3, .int .i64 p4] 47)) := h10.alloc _
  have ht11 := Blk.new w10 47 #[.int .i64 p1, .int .i64 p2, .int .i64 p3, .int .i64 p4]
  have hl11 := Hl9.out.trans h11
  have hk11 := h11.blk Hk9.out
  have hs11 := h11.blk Hs9.out
  clear x0 x1 h10 Hl9 Hk9 Hs9 Hr1
  have Hs11 := Lib.hid hs11
  have Hl11 := Lib.hid hl11
  have Hk11 := Lib.hid hk11
  have Ht11 := Lib.hid ht11
  clear hs11 hl11 hk11 ht11
  go_upto_region 9 with fail
  generalize w10.alloc (.cells #[.int .i64 p1, .int .i64 p2, .int .i64 p3, .int .i64 p4] 47) = w11 at *
  generalize w10.heap.size = g11 at *
  clear h11
  have x0 := Hk11.out.cell 0
  have x1 := Hk11.out.cell 1
  simp at x0 x1
  go_cut [14, 15] (fun p h wx => ∃ g : Nat, p = .pointer (some ⟨g, 0, none⟩) ∧ h = .int .i64 0 ∧ Blk wx g 47 #[.int .i64 a1, .int .i64 tot, .int .i64 0, .int .i64 a4] ∧ Later w11 wx)
  case first =>
    have HKp := Lib.hid (fun (W : World) (h : Later w11 W) => (⟨h.cell x0, h.cell x1⟩ : W.cell? ⟨w.heap.size, 0, none⟩ = some (.slice A n.inn.length c) ∧ W.cell? ⟨w.heap.size, 1, none⟩ = some (.slice N n.nodes.length d)))
    go_region_held3 (fun W => W.cell? ⟨w.heap.size, 0, none⟩ = some (.slice A n.inn.length c) ∧ W.cell? ⟨w.heap.size, 1, none⟩ = some (.slice N n.nodes.length d)) (first | exact HKp.out _ (show Later w11 _ by repeat (first | (with_reducible exact Later.refl _) | (with_reducible apply Later.drew) | (with_reducible apply Later.alloc) | (with_reducible refine Later.set ?_ (by first | exact Nat.le_refl _ | exact hsz12) _) | (with_reducible refine Later.trans ?_ (by assumption)))) | fail)
      (first
      | (go_at_call 15; refine (HAll.out _).mono ?_; rintro e w12 ⟨K2, ck2, rfl, hI, hl12⟩; have hl12' := (show Later w11 w12 by repeat (first | (with_reducible exact Later.refl _) | (with_reducible apply Later.drew) | (with_reducible apply Later.alloc) | (with_reducible refine Later.trans ?_ (by assumption)))); have hsz12 : w11.heap.size ≤ w12.heap.size := Below.size hl12')
      | (go_at_call 14; refine (HCa.out _ K2 ck2 _ (by first | rfl | exact (wones_len _).symm) (show Later w _ by repeat (first | (with_reducible exact (Hl11.out.trans hl12')) | (with_reducible apply Later.drew) | (with_reducible apply Later.alloc))) (hI.below (show Later w12 _ by repeat (first | (with_reducible exact Later.refl _) | (with_reducible apply Later.drew) | (with_reducible apply Later.alloc))) (Nat.le_refl _))).mono ?_; rintro e w13 ⟨rfl, hl13⟩;
          (first
          | (have hl13x : Later w12 w13 := (by with_reducible exact hl13))
          | (have hl13x : Later w12 w13 := ((Later.refl w12).alloc (.cells #[.int .i64 0, .int .i64 0, .int .i64 0, .int .i64 0] 47)).trans (by with_reducible exact hl13); have hk13 := Later.blk (show Later (w12.alloc (.cells #[.int .i64 0, .int .i64 0, .int .i64 0, .int .i64 0] 47)) w13 by with_reducible exact hl13) (Blk.new w12 47 #[.int .i64 0, .int .i64 0, .int .i64 0, .int .i64 0]); obtain ⟨⟨z0, z1, z2, z3⟩, f0, f1, f2, f3⟩ := four_cells hk13)
          | fail);
          (first
          | (have hk13 := Later.blk hl13x (Later.blk (show Later ((w11.alloc (.cells #[.int .i64 0, .int .i64 0, .int .i64 0, .int .i64 0] 47)).drew) w12 by with_reducible exact hl12) (Blk.new w11 47 #[.int .i64 0, .int .i64 0, .int .i64 0, .int .i64 0]).drew); obtain ⟨⟨z0, z1, z2, z3⟩, f0, f1, f2, f3⟩ := four_cells hk13)
          | skip))
      | fail)
    all_goals
      go_wp2_with fail
      go_meet
      first
      | exact ⟨_, rfl, rfl, box_put hk13 _ _ _ _, box4 (hl12'.trans hl13x) (by have := Below.size hl12'; omega) _ _ _ _⟩
      | exact ⟨_, rfl, rfl, Blk.new w13 _ _, ((hl12'.trans hl13x).alloc _)⟩
  case rest =>
    obtain ⟨g, rfl, rfl, hac, hlc⟩ := hcut
    have hlz := Hl11.out.trans hlc
    have hkz := hlc.blk Hk11.out
    have hsz := hlc.blk Hs11.out
    have htz := hlc.blk Ht11.out
    clear x0 x1 hlc Hl11 Hk11 Hs11 Ht11 HAll HCa
    have x0 := hkz.cell 0
    have x1 := hkz.cell 1
    simp at x0 x1
    have Hlz := Lib.hid hlz
    have Hkz := Lib.hid hkz
    have Hsz := Lib.hid hsz
    have Htz := Lib.hid htz
    have Hac := Lib.hid hac
    clear hlz hkz hsz htz hac
    go_wp2_with fail
    refine (ref_21 A N c d n wc Hok.out (HR.out.below Hlz.out (Nat.le_refl _))).mono ?_
    rintro e w14 ⟨N2, d2, rfl, hR2, hd3, hd4, hb14⟩
    have hl14 := Hlz.out.call hb14
    have hlb : Later wc w14 := hb14
    have HR2 := Lib.hid hR2
    have Hl14 := Lib.hid hl14
    have Hlb := Lib.hid hlb
    clear hR2 hl14 hlb
    clear hb14
    go_wp2_with fail
    refine (ref13_cost A N2 c d2 n w14 Hok.out HR2.out hd3 la lb Hch.out).mono ?_
    rintro e w15 ⟨Cs, cs, rfl, hCI, hC1, hC2, hb15⟩
    have hl15 := Hlb.out.trans (show Later w14 w15 from hb15)
    clear hC1 hC2
    have HCI := Lib.hid hCI
    have Hl15 := Lib.hid hl15
    clear hCI hl15
    clear hb15
    go_wp2_with fail
    refine (HSm.out Cs cs _ (by first | rfl | exact Hcl.out.symm) w15 HCI.out).mono ?_
    rintro e w16 ⟨rfl, rfl⟩
    have hkq := Hl15.out.blk Hkz.out
    have hsq := Hl15.out.blk Hsz.out
    have htq := Hl15.out.blk Htz.out
    have haq := Hl15.out.blk Hac.out
    have hlq := Hlz.out.trans Hl15.out
    clear x0 x1
    have x0 := hkq.cell 0
    have x1 := hkq.cell 1
    simp at x0 x1
    have y0 := hsq.cell 0
    have u0 := htq.cell 0
    have z0 := haq.cell 0
    have y1 := hsq.cell 1
    have u1 := htq.cell 1
    have z1 := haq.cell 1
    have y2 := hsq.cell 2
    have u2 := htq.cell 2
    have z2 := haq.cell 2
    have y3 := hsq.cell 3
    have u3 := htq.cell 3
    have z3 := haq.cell 3
    simp at y0 y1 y2 y3 u0 u1 u2 u3 z0 z1 z2 z3
    have Hlq := Lib.hid hlq
    clear hlq
    clear hkq hsq htq haq Hl15 Hkz Hsz Htz Hac Hlz Hl14 Hlb HR2 HCI
    have heqs := run_neq_stats p1 p2 p3 p4
    have d1 : decide (p2 < tot) = false := by simpa using q3
    have hw2 : IntKind.i64.wrap (p1 - 1) = p1 - 1 := IntWalk.i64_in _ (by omega)
    go_wp2_with fail
    refine (HCo.out _ (p1 - 1) Hlq.out (by omega)).mono ?_
    rintro e w17 ⟨rfl, h17⟩
    obtain ⟨⟨⟨r1, r2, r3, r4⟩, er⟩, hr⟩ : ∃ r, Ck.run n cd (p1 - 1) = r := ⟨_, rfl⟩
    have hs4 := Hq4.out
    rw [hr] at hs4 ⊢
    change er = 25 at hs4
    subst hs4
    rw [show statsV ((r1, r2, r3, r4), 25) = .tuple #[.agg #[.int .i64 r1, .int .i64 r2, .int .i64 r3, .int .i64 r4], .int .i64 25] from rfl]
    have hl18 : Later w (w17.alloc (.cells #[.int .i64 r1, .int .i64 r2, .int .i64 r3, .int .i64 r4] 47)) := (Hlq.out.trans h17).alloc _
    clear hr h17 x0 x1 Hq4
    have Hl18 := Lib.hid hl18
    clear hl18
    go_upto_region 14 with fail
    generalize w17.alloc (.cells #[.int .i64 r1, .int .i64 r2, .int .i64 r3, .int .i64 r4] 47) = w18 at *
    go_wp2_with fail
    refine (Haw.out _ Hl18.out).mono ?_
    rintro e w19 ⟨rfl, hb19⟩
    go_wp2_with fail
    go_ret
    exact ⟨rfl, hb19⟩
end Go.Proofs.YtnffjfjhbjeaiaaGreatDoor
namespace Go.Proofs.YtnffjfjhbjeaiaaGreatDoor.rootsWhole
open Go.ChangeShapes Go.WideShapes Go.ChangeAt Go.RowKit
open Go.ChangeMaps (open_string shut_string)

theorem own : ownKnob Tryz.prog.godebug = none := by kernel_rfl
theorem laidOut : laidOutB Tryz.prog = true := by kernel_rfl

/-- The witness's world: the door's own, the listed variables laid. -/
noncomputable def doorW (os : Os) : World := World.doorLaid Tryz.prog 24 os
theorem laid_met (os : Os) (args : Array Value) : laidMet Tryz.prog Rows.rootsWholeRow.laid ((doorW os).forCall (fun _ _ => 0) ⟨#[], args, []⟩).memory :=
  laidMet_of_run' 8 (by kernel_rfl) (by kernel_rfl)
theorem reads (os : Os) {H : Type} (enc : TypeId × Value → H) : ∃ places, DataW.whole enc Tryz.prog ((doorW os).forCall (fun _ _ => 0) ⟨#[], #[.agg #[.slice none 0 0, .slice none 0 0], .slice none 0 0], []⟩).memory Tryz.f4.params.toList Rows.rootsWholeSpec.vars false #[.agg #[.slice none 0 0, .slice none 0 0], .slice none 0 0].toList 8 = some ([.agg [.nil, .nil], .nil], [], places) :=
  ⟨[], by kernel_rfl⟩

set_option maxRecDepth 100000 in
theorem lifted (os : Os) (started : os.Started) (H : Type) (enc : TypeId × Value → H) (Fi : Stop.Interp) :
    ReturnsInHanded {} Tryz.checked os 4 .any ((Rows.OpenSpec.upto Rows.rootsWholeSpec).preRow enc Tryz.prog Tryz.f4 Rows.rootsWholeUptoRow.domain false Rows.rootsWholeUptoRow.laid) (((Rows.OpenSpec.upto Rows.rootsWholeSpec).at Fi).post enc Tryz.prog Tryz.f4 false true false false) := by
  obtain ⟨places, hx⟩ := reads os enc
  refine returnsInHanded_of_row (C := Tryz.checked) (s := Rows.OpenSpec.upto Rows.rootsWholeSpec) own started (by kernel_rfl) Tryz.func4
    (witness_row_at (enc := enc) (C := Tryz.checked) false (doorW os) #[.agg #[.slice none 0 0, .slice none 0 0], .slice none 0 0] rfl (by kernel_rfl) (by kernel_rfl) (by kernel_rfl)
      (OpenSpec.preRow_of_cond 8 hx (by kernel_rfl) (fun k hk => by cases hk; kernel_rfl) (by kernel_rfl) (laid_met os _))) ?_
  intro W base args ds gs before hval0 hW hcnd hcond _ hL _ _
  have hbulk := hcond _ rfl
  have hval : ∀ (j : Nat) t v, Tryz.f4.params[j]? = some t → args[j]? = some v → Value.okWide Tryz.prog W .any base t v := hval0
  have hW' := hW
  obtain ⟨p, q, hA0, hV, rfl, hfz, hnd⟩ := hW
  have hA : DataW.TrodAll enc Tryz.prog W 0 (fun _ => true) true Tryz.f4.params.toList args.toList ds p := hA0
  rw [Tryz.params4] at hA hval
  obtain ⟨v0, vs0, d0, ds0, p0, q0, hargs, rfl, rfl, h0, r0⟩ := trodAll_cons hA
  obtain ⟨v1, vs1, d1, ds1, p1, q1, rfl, rfl, rfl, h1, r1⟩ := trodAll_cons r0
  obtain ⟨rfl, rfl, rfl⟩ := trodAll_nil r1
  obtain rfl : args = #[v0, v1] := by cases args; simp_all
  obtain ⟨rfl, rfl⟩ := trodVars_none hV
  have hbk : Rows.uptoBulkAll ([d0, d1] ++ []) ≤ 1048576 := of_decide_eq_true hbulk
  have hz0 : Rows.uptoBulk d0 ≤ 1048576 := Nat.le_trans (bulk_part (by simp)) hbk
  have hz1 : Rows.uptoBulk d1 ≤ 1048576 := Nat.le_trans (bulk_part (by simp)) hbk
  have k0 := h0
  have lt0 : ∀ x ∈ p0, x.block < W.heap.size := by obtain ⟨m, hm⟩ := k0; exact DataW.trod_lt m _ _ _ hm
  have k1 := h1
  have lt1 : ∀ x ∈ p1, x.block < W.heap.size := by obtain ⟨m, hm⟩ := k1; exact DataW.trod_lt m _ _ _ hm
  obtain ⟨A0, N0, c10, c20, n0, rfl, la0, lb0, lc0, ld0, hS0, hw0⟩ := net_open (hval 0 26 v0 rfl rfl) h0 hz0
  obtain ⟨a1, len1, cap1, rfl⟩ := okWide_slice Tryz.underlying22 (hval 1 22 v1 rfl rfl)
  obtain ⟨fuel1, hf1⟩ := h1
  obtain ⟨ax1, cx1, zs1, hv1, hI1, hl1, hc1, hn1, hw1⟩ := nums_open Tryz.underlying22 hf1 hz1
  injection hv1 with ea1 el1 ec1
  subst ea1 el1 ec1
  clear hA0 hval0
  refine (walkRootsWhole W A0 N0 c10 c20 n0 la0 lb0 lc0 ld0 hS0 hw0 a1 cap1 zs1 hI1 hl1 hc1 hn1 hw1).mono fun e W' ⟨he, bel⟩ => ?_
  subst he
  exact ⟨_, rfl, _, _, _, [], _, [], hW', trodAll_mk1 (shut_bool Tryz.underlying4 _), (trodAll_cons_mk (Below.trod laidOut (by kernel_rfl) (of_decide_eq_true (by kernel_rfl)) k0 bel lt0) (trodAll_cons_mk (Below.trod laidOut (by kernel_rfl) (of_decide_eq_true (by kernel_rfl)) k1 bel lt1) trodAll_mk0)), rfl, bel.frame _, fun h => by cases h⟩

theorem over : Rows.rootsWholeUptoRow.holds Tryz.pinned (Rows.OpenSpec.upto Rows.rootsWholeSpec) :=
  OpenClaim.holds_of_cond 4 Tryz.f4 rfl rfl rfl rfl rfl rfl rfl ⟨rfl, rfl, rfl, rfl, rfl⟩ rfl rfl rfl rfl rfl (by kernel_rfl) Tryz.func4 (by kernel_rfl)
    (of_decide_eq_true (by kernel_rfl)) (by unfold Func.isWrapper; first | (rw [if_pos (by decide +kernel)]; kernel_rfl) | (rw [if_neg (by decide +kernel)]; exact ⟨rfl, rfl⟩))
    (fun os started H enc _ Fi => by rw [OpenClaim.pre_eq_preRow]; exact lifted os started H enc Fi)
end Go.Proofs.YtnffjfjhbjeaiaaGreatDoor.rootsWhole
namespace Go.Proofs.YtnffjfjhbjeaiaaGreatDoor
open Go
theorem rootsWhole_holds : Rows.RootsWholeUptoCardSaid :=
  Claim7.holds_tied_plain_at .later [] [.data, .data, .data] true Rows.rootsWholeUptoCard.stood.harness false
    rootsWhole.over (fun _ h => by cases h) (by kernel_rfl) (fun _ h => by cases h) rootsWholeUpto_row_tie rfl ⟨rfl, rfl⟩ (by kernel_rfl) rfl
    (fun f fn hf hfn => by
      obtain rfl : f = 4 := Option.some.inj ((show Tryz.prog.funcNamed Rows.rootsWholeUptoRow.func = some 4 by kernel_rfl).symm.trans hf) |>.symm
      obtain rfl : fn = Tryz.f4 := (Option.some.inj (Tryz.func4.symm.trans hfn)).symm
      exact ⟨by kernel_rfl, fun j t ht => by
        rw [Tryz.params4] at ht
        have h3 : Tryz.prog.wantsStandIn t = false := by
          rcases j with _ | _ | j
          · simp at ht; subst ht; exact (show Tryz.prog.wantsStandIn 26 = false by kernel_rfl)
          · simp at ht; subst ht; exact (show Tryz.prog.wantsStandIn 22 = false by kernel_rfl)
          · simp at ht
        exact h3⟩)
    (by kernel_rfl)
#print axioms rootsWhole_holds
end Go.Proofs.YtnffjfjhbjeaiaaGreatDoor
