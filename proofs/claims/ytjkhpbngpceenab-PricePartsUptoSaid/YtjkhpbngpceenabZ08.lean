/- Lemmas for the statements of this seat: contracts of functions and the plain laws. -/
import Derived.Test.YtjkhpbngpceenabZ07
set_option linter.unusedVariables false
/- Layer 13 (price): Last: contract. -/
namespace Go.Proofs.Ytjkhpbngpceenab
open Go.RowKit
namespace Nt
/-- Which place of the order uses u last, of the first k. -/
def lastF (n : NetD) (u : Int) : Nat → Int
  | 0 => 0
  | k + 1 => if (insF n.nodes ((sorted n.nodes).getD k 0)).contains u then (k : Int) + 1 else lastF n u k
theorem lastF_bd (n : NetD) (u : Int) (k : Nat) : 0 ≤ lastF n u k ∧ lastF n u k ≤ k := by
  induction k with
  | zero => simp [lastF]
  | succ k ih => unfold lastF; split <;> omega
def lastMid (n : NetD) (k : Nat) (l : List Int) : List Int := (nums n.nodes.length).map fun u => if l.contains u then (k : Int) + 1 else lastF n u k
theorem lastMid_len (n : NetD) (k : Nat) (l : List Int) : (lastMid n k l).length = n.nodes.length + 1 := by simp [lastMid, nums]
theorem lastMid_zero (n : NetD) : lastMid n 0 [] = List.replicate (n.nodes.length + 1) 0 := by
  unfold lastMid
  rw [List.eq_replicate_iff]
  refine ⟨by simp [nums], fun b hb => ?_⟩
  obtain ⟨x, _, rfl⟩ := List.mem_map.1 hb
  simp [lastF]
theorem lastMid_next (n : NetD) {k : Nat} : lastMid n k (insF n.nodes ((sorted n.nodes).getD k 0)) = lastMid n (k + 1) [] := by
  unfold lastMid
  apply List.map_congr_left
  intro u _
  simp [lastF]
theorem lastMid_in (n : NetD) (k : Nat) (l : List Int) {id : Int} (h0 : 0 ≤ id) (h1 : id ≤ n.nodes.length) : lastMid n k (l ++ [id]) = (lastMid n k l).set id.toNat ((k : Int) + 1) := by
  apply List.ext_getElem?
  intro j
  rw [List.getElem?_set]
  unfold lastMid nums
  simp only [List.map_map, List.getElem?_map, List.length_map, List.length_range]
  by_cases hj : j < n.nodes.length + 1
  · rw [List.getElem?_range hj]
    by_cases e : id.toNat = j
    · subst e
      have : ((id.toNat : Nat) : Int) = id := by omega
      simp [hj, this]
    · have e2 : (j : Int) ≠ id := by omega
      simp [e, e2]
  · rw [List.getElem?_eq_none (by simp; omega)]
    simp
    intro q; omega
theorem lastMid_at (n : NetD) (k : Nat) {u : Nat} (hu : u ≤ n.nodes.length) : (lastMid n k [])[u]? = some (lastF n u k) := by
  unfold lastMid nums
  simp [show u < n.nodes.length + 1 by omega]
end Nt
def LastP (n : NetD) (w : World) (e : Ending) (w' : World) : Prop :=
  Below w.heap.size w w' ∧ ((Nt.check n = 0 ∧ ∃ g, e = .returned (.tuple #[.slice (some ⟨g, 0, none⟩) (n.nodes.length + 1) (n.nodes.length + 1), .int .i64 0]) ∧ Blk w' g 3 (intV (Nt.lastMid n n.nodes.length [])).toArray) ∨
    (Nt.check n ≠ 0 ∧ e = .returned (.tuple #[.slice none 0 0, .int .i64 (Nt.check n)])))
set_option maxRecDepth 20000 in
set_option maxHeartbeats 8000000 in
theorem price_last (A N : Option Addr) (c d : Nat) (n : NetD) (w : World) (hok : n.ok) (hR : NetR w A N n) (hd : n.nodes.length ≤ d) :
    Calls Try.prog 17 #[.agg #[.slice A n.inn.length c, .slice N n.nodes.length d]] w (LastP n w) := by
  obtain ⟨i0, hi, hz0, hz1, hz2⟩ := info_parts int_info
  have hnl := hok.2.1
  have hk0 := Blk.new w 26 #[.slice A n.inn.length c, .slice N n.nodes.length d]
  have hl0 : Later w (w.alloc (.cells #[.slice A n.inn.length c, .slice N n.nodes.length d] 26)) := (Later.refl w).alloc _
  have HR := Lib.hid hR
  have Hl0 := Lib.hid hl0
  have Hok := Lib.hid hok
  have Hk0 := Lib.hid hk0
  clear hR hl0 hok hk0
  go_enter Try.func17, Try.ntmps17
  go_wp2_with fail
  generalize w.alloc (.cells #[.slice A n.inn.length c, .slice N n.nodes.length d] 26) = w1 at *
  refine (net_order A N c d n w1 Hok.out (HR.out.below Hl0.out (Nat.le_refl _)) hd).mono ?_
  rintro e w2 ⟨hb2, ⟨hc, O, oc, rfl, hO, -, -⟩ | ⟨hc, rfl⟩⟩
  all_goals
    have hl2 := Hl0.out.call hb2
    have hk2 := (show Later w1 w2 from hb2).blk Hk0.out
    clear hb2
  rotate_left
  · have q0 : (Nt.check n != 0) = true := by simp [hc]
    have Hc := Lib.hid hc
    have Hl2 := Lib.hid hl2
    have Hk2 := Lib.hid hk2
    clear hc hl2 hk2
    go_wp2_with fail
    go_ret2
    exact ⟨Hl2.out, .inr ⟨Hc.out, rfl⟩⟩
  have hso : (Nt.sorted n.nodes).length = n.nodes.length := (Nt.check_ok hc).2.2.2.2.1
  have hrng : ∀ u ∈ Nt.sorted n.nodes, 1 ≤ u ∧ u ≤ n.nodes.length := Kn.order_rng _ _
  have hbad := Nt.bads_all (Nt.check_ok hc).2.2.2.1
  have hnx := fun k => @Nt.lastMid_next n k
  have x1 : w2.cell? ⟨w.heap.size, 1, none⟩ = some (.slice N n.nodes.length d) := by rw [hk2.cell]; rfl
  have e1 : IntKind.i64.wrap ((n.nodes.length : Int) + 1) = ((n.nodes.length + 1 : Nat) : Int) := by rw [IntWalk.i64_in _ (by omega)]; omega
  generalize Nt.sorted n.nodes = os at *
  have hsz2 := hl2.size
  have Hc := Lib.hid hc
  have Hl2 := Lib.hid hl2
  have Hk2 := Lib.hid hk2
  have Hso := Lib.hid hso
  have Hrng := Lib.hid hrng
  have Hbad := Lib.hid hbad
  have Hnx := Lib.hid hnx
  have HO := Lib.hid hO
  clear hc hl2 hk2 hso hrng hbad hnx hO
  go_wp2_with (at_make; refine wpList_make_full _ rfl _ _ 22 rfl w2.heap.size 3 i0 (.int .i64 0) 1 Try.underlying22 hi hz0 hz1 _ _ _ _ (n.nodes.length + 1) rfl rfl (by first | rfl | simp | (go_simp; rfl)) (by first | rfl | simp | (go_simp; rfl)) ?b2 ?b3 ?b4 ?_)
  case b2 => rw [hz2]; omega
  case b3 => unfold maxLen; omega
  case b4 => exact Nat.le_refl _
  intro w3 hown hgrow
  have hblk := own_cur hown
  rw [made_one] at hblk
  have hm0 : Blk w3 w2.heap.size 3 (intV (Nt.lastMid n 0 [])).toArray := by
    rw [Nt.lastMid_zero, intV, List.map_replicate]
    exact hblk
  have hl3 : Later w2 w3 := (Below.refl _ w2).grown hgrow (Nat.le_refl _) (by simp)
  have x1' := hl3.cell x1
  have Hm0 := Lib.hid hm0
  have Hl3 := Lib.hid hl3
  clear hm0 hl3
  clear hblk hown hgrow x1
  go_wp2_with fail
  go_loopw [26] (fun i wx => ∃ k : Nat, k ≤ n.nodes.length ∧ i = .int .i64 (k : Int) ∧ Blk wx w2.heap.size 3 (intV (Nt.lastMid n k [])).toArray ∧ Later w2 wx) (fun i _ => n.nodes.length - (intOf i).toNat)
  case atStart => exact ⟨0, Nat.zero_le _, rfl, Hm0.out, Hl3.out⟩
  case round =>
    obtain ⟨k, hk, rfl, hm, hlw⟩ := hrel
    clear Hm0 Hl3 x1'
    by_cases hlt : k < n.nodes.length
    · have hlo : k < os.length := by rw [Hso.out]; exact hlt
      obtain ⟨b, off, rfl, -, hc0⟩ := HO.out k hlo
      rw [getD_at hlo] at hc0
      have hc1 := hlw.cell hc0
      have hr := Hrng.out _ (List.getElem_mem hlo)
      obtain ⟨j, hj⟩ : ∃ j : Nat, os[k] = (j : Int) + 1 := ⟨(os[k] - 1).toNat, by omega⟩
      have hjl : j < n.nodes.length := by omega
      have eo : os.getD k 0 = os[k] := getD_at hlo
      have hnk := Hnx.out k
      have hiF : Nt.insF n.nodes os[k] = n.nodes[j].ins := by unfold Nt.insF; rw [hj, Nt.node_at hjl]
      rw [eo, hiF] at hnk
      have hin := (Hbad.out _ (List.getElem_mem hjl)).2
      have hil := (Hok.out.2.2 _ (List.getElem_mem hjl)).2.2.1
      obtain ⟨b1, off1, S, sc, I, ic, Q, qc, rfl, hNA, -, -, -⟩ := HR.out.2.at_ hjl
      obtain ⟨⟨-, -, -, -, -, -, -, -, y8, -⟩, -, -, -⟩ := hNA.below (Hl2.out.trans hlw)
      have hIJ := fun (W : World) (h : Later w2 W) => (hNA.below (Hl2.out.trans h)).2.2.1
      have x1 : wr.cell? ⟨w.heap.size, 1, none⟩ = some (.slice (some ⟨b1, off1, none⟩) n.nodes.length d) := by rw [(hlw.blk Hk2.out).cell]; rfl
      rw [hj] at hc1
      generalize n.nodes[j] = v at *
      have j1 : IntKind.i64.wrap ((j : Int) + 1 - 1) = (j : Int) := by rw [IntWalk.i64_in _ (by omega)]; omega
      have j2 : (j : Int) < n.nodes.length := by omega
      have k1 : (k : Int) < (n.nodes.length : Int) := by omega
      clear hc0 hr hj eo hiF
      have Hm := Lib.hid hm
      have Hlw := Lib.hid hlw
      have Hnk := Lib.hid hnk
      have Hin := Lib.hid hin
      have HIJ := Lib.hid hIJ
      have HNA := Lib.hid hNA
      clear hm hlw hnk hin hIJ hNA
      go_wp2_with fail
      clear y8 x1 hc1
      go_loopw [39] (fun i wx => ∃ m : Nat, m ≤ v.ins.length ∧ i = .int .i64 (m : Int) ∧ Blk wx w2.heap.size 3 (intV (Nt.lastMid n k (v.ins.take m))).toArray ∧ Later w2 wx) (fun i _ => v.ins.length - (intOf i).toNat)
      case atStart => exact ⟨0, Nat.zero_le _, rfl, by rw [List.take_zero]; exact Hm.out, Hlw.out⟩
      case round =>
        obtain ⟨m, hm, rfl, hbx, hlx⟩ := hrel
        clear Hm Hlw
        by_cases hlm : m < v.ins.length
        · obtain ⟨b2, off2, rfl, -, hc2⟩ := HIJ.out _ hlx m hlm
          rw [getD_at hlm] at hc2
          have hr2 := Hin.out _ (List.getElem_mem hlm)
          have HM := Lib.hid (show Nt.lastMid n k (v.ins.take (m + 1)) = (Nt.lastMid n k (v.ins.take m)).set v.ins[m].toNat ((k : Int) + 1) by rw [List.take_succ_eq_append_getElem hlm, Nt.lastMid_in _ _ _ hr2.1 hr2.2])
          obtain ⟨u, hu⟩ : ∃ u : Nat, v.ins[m] = u := ⟨v.ins[m].toNat, by omega⟩
          rw [hu] at hc2 hr2 HM
          have hll := Nt.lastMid_len n k (v.ins.take m)
          have hul : u < n.nodes.length + 1 := by omega
          obtain ⟨y, hy⟩ := hbx.has (j := u) (by rw [intV_len, hll]; exact hul)
          have fy := hbx.frozen u
          have hbs := hbx.set_ u (.int .i64 ((k : Int) + 1))
          have HBS := Lib.hid (show Blk (wr.setCell ⟨w2.heap.size, u, none⟩ (.int .i64 ((k : Int) + 1))) w2.heap.size 3 (intV (Nt.lastMid n k (v.ins.take (m + 1)))).toArray by
            rw [HM.out, Int.toNat_natCast]
            simpa [intV, List.map_set] using hbs)
          have HLX := Lib.hid (hlx.set (p := ⟨w2.heap.size, u, none⟩) (Nat.le_refl _) (.int .i64 ((k : Int) + 1)))
          have u0 : (0 : Int) ≤ u := by omega
          have u1 : (u : Int) < ((n.nodes.length + 1 : Nat) : Int) := by omega
          have m1 : (m : Int) < v.ins.length := by omega
          have k6 : IntKind.i64.wrap ((k : Int) + 1) = (k : Int) + 1 := IntWalk.i64_in _ (by omega)
          clear hbs hbx hlx hu hll hul
          go_wp2_with fail
          clear k6
          go_roundw
          case rel => exact ⟨m + 1, by omega, by go_num, HBS.out, HLX.out⟩
          case measure => simp [intOf]; omega
        · obtain rfl : m = v.ins.length := by omega
          rw [List.take_length] at hbx
          have Hbx := Lib.hid hbx
          have Hlx := Lib.hid hlx
          clear hbx hlx
          go_wp2_with fail
          go_roundw
          case rel => exact ⟨k + 1, by omega, by go_num, by rw [← Hnk.out]; exact Hbx.out, Hlx.out⟩
          case measure => simp [intOf]; omega
    · obtain rfl : k = n.nodes.length := by omega
      have hso := Hso.out
      have hge : ¬ (n.nodes.length : Int) < (n.nodes.length : Int) := by omega
      have hl := Hl2.out.trans hlw
      clear hso
      have Hm := Lib.hid hm
      have Hlw := Lib.hid hlw
      have Hl := Lib.hid hl
      clear hm hlw hl
      go_wp2_with fail
      go_ret2
      exact ⟨Hl.out, .inl ⟨Hc.out, w2.heap.size, rfl, Hm.out⟩⟩
end Go.Proofs.Ytjkhpbngpceenab
