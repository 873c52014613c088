/- Layer 11 (net): which number nobody uses: contract. -/
import Derived.Test.YtjkhpbngpceenaaOp6
namespace Go.Proofs.Ytjkhpbngpceenaa
open Go.RowKit

/-- The net's rows are of a length that can be gone through. -/
def NodeD.ok (v : NodeD) : Prop := v.op.wide ∧ v.op.s.length ≤ 1048576 ∧ v.ins.length ≤ 1048576 ∧ v.p.length ≤ 1048576 ∧ (∀ s ∈ v.p, s.length ≤ 1048576) ∧ ∀ z ∈ v.ins, -9223372036854775808 ≤ z ∧ z ≤ 9223372036854775807
def NetD.ok (n : NetD) : Prop := n.inn.length ≤ 1048576 ∧ n.nodes.length ≤ 1048576 ∧ ∀ v ∈ n.nodes, v.ok

/-- One node's cells, from the place o of block b on. -/
def NodeAt (w : World) (b o : Nat) (v : NodeD) (S : Option Addr) (c : Nat) (I : Option Addr) (d : Nat) (Q : Option Addr) (q : Nat) : Prop :=
    (w.cell? ⟨b, o, none⟩ = some (.int .i64 v.op.kind) ∧ w.cell? ⟨b, o + 1, none⟩ = some (.int .i64 v.op.k) ∧ w.cell? ⟨b, o + 2, none⟩ = some (.int .i64 v.op.width) ∧
    w.cell? ⟨b, o + 3, none⟩ = some (.int .i64 v.op.step) ∧ w.cell? ⟨b, o + 4, none⟩ = some (.int .i64 v.op.side) ∧ w.cell? ⟨b, o + 5, none⟩ = some (.int .i64 v.op.frm) ∧
    w.cell? ⟨b, o + 6, none⟩ = some (.int .i64 v.op.to) ∧ w.cell? ⟨b, o + 7, none⟩ = some (.slice S v.op.s.length c) ∧
    w.cell? ⟨b, o + 8, none⟩ = some (.slice I v.ins.length d) ∧ w.cell? ⟨b, o + 9, none⟩ = some (.slice Q v.p.length q)) ∧
    Ints .i64 w S v.op.s ∧ Ints .i64 w I v.ins ∧ Shps w Q v.p
theorem NodeAt.below {w w' : World} {b o : Nat} {v : NodeD} {S : Option Addr} {c : Nat} {I : Option Addr} {d : Nat} {Q : Option Addr} {q : Nat} (h : NodeAt w b o v S c I d Q q) (hb : Below w.heap.size w w') : NodeAt w' b o v S c I d Q q := by
  obtain ⟨⟨y0, y1, y2, y3, y4, y5, y6, y7, y8, y9⟩, h1, h2, h3⟩ := h
  exact ⟨⟨cell_below hb y0, cell_below hb y1, cell_below hb y2, cell_below hb y3, cell_below hb y4, cell_below hb y5, cell_below hb y6, cell_below hb y7, cell_below hb y8, cell_below hb y9⟩, h1.below hb (Nat.le_refl _), h2.below hb (Nat.le_refl _), h3.below hb (Nat.le_refl _)⟩
theorem Nodes.at_ {w : World} {A : Option Addr} {ns : List NodeD} (h : Nodes w A ns) {j : Nat} (hj : j < ns.length) :
    ∃ b off S c I d Q q, A = some ⟨b, off, none⟩ ∧ NodeAt w b (off + j * 10) ns[j] S c I d Q q ∧ (ns[j].op.s.length ≤ c ∧ c ≤ 9223372036854775807) ∧ (ns[j].ins.length ≤ d ∧ d ≤ 9223372036854775807) ∧ (ns[j].p.length ≤ q ∧ q ≤ 9223372036854775807) := by
  obtain ⟨b, off, S, c, I, d, Q, q, e, _, y0, y1, y2, y3, y4, y5, y6, y7, y8, y9, ⟨h1, h1'⟩, ⟨h2, h2'⟩, h3, h3'⟩ := h j hj
  exact ⟨b, off, S, c, I, d, Q, q, e, ⟨⟨y0, y1, y2, y3, y4, y5, y6, y7, y8, y9⟩, h1, h2, h3⟩, h1', h2', h3'⟩

namespace Nt
/-- What is used by the first k nodes, and by the ins l of the next one. -/
def usedMid (ns : List NodeD) (n k : Nat) (l : List Int) : List Bool := (nums n).map fun id => isUsed (ns.take k) id || l.contains id
theorem usedMid_len (ns : List NodeD) (n k : Nat) (l : List Int) : (usedMid ns n k l).length = n + 1 := by simp [usedMid, nums]
theorem usedMid_zero (ns : List NodeD) (n : Nat) : usedMid ns n 0 [] = List.replicate (n + 1) false := by
  unfold usedMid
  rw [List.eq_replicate_iff]
  refine ⟨by simp [nums], fun b hb => ?_⟩
  obtain ⟨x, _, rfl⟩ := List.mem_map.1 hb
  simp [isUsed]
theorem usedMid_next (ns : List NodeD) (n : Nat) {k : Nat} (hk : k < ns.length) : usedMid ns n k ns[k].ins = usedMid ns n (k + 1) [] := by
  unfold usedMid
  apply List.map_congr_left
  intro id _
  rw [List.take_succ_eq_append_getElem hk]
  simp only [isUsed, List.any_append, List.any_cons, List.any_nil, List.contains_nil, Bool.or_false]
theorem usedMid_in (ns : List NodeD) (n k : Nat) (l : List Int) {id : Int} (h0 : 0 ≤ id) (h1 : id ≤ n) : usedMid ns n k (l ++ [id]) = (usedMid ns n k l).set id.toNat true := by
  apply List.ext_getElem?
  intro j
  rw [List.getElem?_set]
  unfold usedMid nums
  simp only [List.map_map, List.getElem?_map, List.length_map, List.length_range]
  by_cases hj : j < n + 1
  · rw [List.getElem?_range hj]
    by_cases e : id.toNat = j
    · subst e
      have : ((id.toNat : Nat) : Int) = id := by omega
      simp [hj, this]
    · have e2 : (j : Int) ≠ id := by omega
      simp [e, e2]
  · rw [List.getElem?_eq_none (by simp; omega)]
    simp
    intro q; omega
theorem usedMid_all (ns : List NodeD) : usedMid ns ns.length ns.length [] = (nums ns.length).map (isUsed ns) := by
  unfold usedMid
  apply List.map_congr_left
  intro id _
  simp
/-- The unused ones of the first numbers. -/
def unusedTo (ns : List NodeD) (k : Nat) : List Int := ((List.range k).map fun i : Nat => (i : Int)).filter fun id => !isUsed ns id
theorem unusedTo_succ (ns : List NodeD) (k : Nat) : unusedTo ns (k + 1) = if isUsed ns k then unusedTo ns k else unusedTo ns k ++ [(k : Int)] := by
  unfold unusedTo
  rw [List.range_succ, List.map_append, List.filter_append]
  cases h : isUsed ns k <;> simp [h]
theorem unusedTo_all (ns : List NodeD) : unusedTo ns (ns.length + 1) = unused ns := rfl
theorem unusedTo_len (ns : List NodeD) (k : Nat) : (unusedTo ns k).length ≤ k := by
  unfold unusedTo
  exact Nat.le_trans (List.length_filter_le _ _) (by simp)
end Nt
theorem bool_info : (Try.prog.info? 4).map (fun i => (i.zero, i.size, i.bytes)) = some (some (.bool false), 1, 1) := by kernel_rfl
theorem made_one (v : Value) (n : Nat) : (madeCells #[v] n).toList = List.replicate n v := by
  rw [List.eq_replicate_iff]
  refine ⟨by simp [madeCells], fun b hb => ?_⟩
  simp [madeCells] at hb
  obtain ⟨x, _, rfl⟩ := hb
  simp [Nat.mod_one]

set_option maxRecDepth 20000 in
set_option maxHeartbeats 8000000 in
theorem net_unused (A N : Option Addr) (c d : Nat) (n : NetD) (w : World) (hok : n.ok) (hR : NetR w A N n) (hd : n.nodes.length ≤ d) (hins : ∀ v ∈ n.nodes, ∀ i ∈ v.ins, 0 ≤ i ∧ i ≤ n.nodes.length) :
    Calls Try.prog 59 #[.agg #[.slice A n.inn.length c, .slice N n.nodes.length d]] w fun e w' => e = .returned (.tuple #[.int .i64 (Nt.loss n.nodes), .bool (Nt.lossOk n.nodes)]) ∧ Below w.heap.size w w' := by
  obtain ⟨i0, hi, hz0, hz1, hz2⟩ := info_parts bool_info
  have hnl := hok.2.1
  have hokn := hok.2.2
  have HR := Lib.hid hR
  have Hins := Lib.hid hins
  have Hokn := Lib.hid hokn
  clear hR hins hokn
  clear hok
  have e1 : IntKind.i64.wrap ((n.nodes.length : Int) + 1) = ((n.nodes.length + 1 : Nat) : Int) := by rw [IntWalk.i64_in _ (by omega)]; omega
  go_enter Try.func59, Try.ntmps59
  go_wp2_with (at_make; refine wpList_make_full _ rfl _ _ 113 rfl w.heap.size 4 i0 (.bool false) 1 Try.underlying113 hi hz0 hz1 _ _ _ _ (n.nodes.length + 1) rfl rfl (by first | rfl | simp | (go_simp; rfl)) (by first | rfl | simp | (go_simp; rfl)) ?b2 ?b3 ?b4 ?_)
  case b2 => rw [hz2]; omega
  case b3 => unfold maxLen; omega
  case b4 => simp
  intro w1 hown hgrow
  have hblk := own_cur hown
  rw [made_one] at hblk
  have hk1 : Blk w1 (w.heap.size + 1) 4 ((Nt.usedMid n.nodes n.nodes.length 0 []).map Value.bool).toArray := by
    rw [Nt.usedMid_zero, List.map_replicate]
    simpa [Blk] using hblk
  have hb1 : Below w.heap.size w w1 := ((Below.refl _ w).alloc (Nat.le_refl _) _).grown hgrow (by simp) (by simp)
  have hx1 : w1.cell? ⟨w.heap.size, 1, none⟩ = some (.slice N n.nodes.length d) := hgrow.cell (by simp) (by simp)
  have HK := Lib.hid hk1
  clear hblk hk1 hown hgrow
  go_wp2_with fail
  go_loopw [21] (fun i wr => ∃ k : Nat, k ≤ n.nodes.length ∧ i = .int .i64 k ∧ Blk wr (w.heap.size + 1) 4 ((Nt.usedMid n.nodes n.nodes.length k []).map Value.bool).toArray ∧ Below w.heap.size w wr) (fun i _ => n.nodes.length - (intOf i).toNat)
  case atStart => exact ⟨0, Nat.zero_le _, rfl, HK.out, hb1⟩
  case round =>
    obtain ⟨k, hk, rfl, hblk, hbw⟩ := hrel
    have Hblk := Lib.hid hblk
    clear hblk
    clear HK hb1 hx1
    by_cases hlt : k < n.nodes.length
    · obtain ⟨b, off, S, sc, I, ic, Q, qc, rfl, hNA, -, hI, -⟩ := HR.out.2.at_ hlt
      have hnok := Hokn.out _ (List.getElem_mem hlt)
      have hin := Hins.out _ (List.getElem_mem hlt)
      have HN := Lib.hid (Nt.usedMid_next n.nodes n.nodes.length hlt)
      have hil := hnok.2.2.1
      generalize n.nodes[k] = v at *
      obtain ⟨⟨y0, y1, y2, y3, y4, y5, y6, y7, y8, y9⟩, -⟩ := hNA.below hbw
      have HNA := Lib.hid hNA
      have Hnok := Lib.hid hnok
      have Hin := Lib.hid hin
      clear hNA hnok hin
      have hb2 := hbw.alloc hbw.size (.cells #[.int .i64 v.op.kind, .int .i64 v.op.k, .int .i64 v.op.width, .int .i64 v.op.step, .int .i64 v.op.side, .int .i64 v.op.frm, .int .i64 v.op.to, .slice S v.op.s.length sc, .slice I v.ins.length ic, .slice Q v.p.length qc] 46)
      have HB2 := Lib.hid (Hblk.out.alloc (.cells #[.int .i64 v.op.kind, .int .i64 v.op.k, .int .i64 v.op.width, .int .i64 v.op.step, .int .i64 v.op.side, .int .i64 v.op.frm, .int .i64 v.op.to, .slice S v.op.s.length sc, .slice I v.ins.length ic, .slice Q v.p.length qc] 46))
      go_wp2_with fail
      clear y0 y1 y2 y3 y4 y5 y6 y7 y8 y9
      go_loopw [28] (fun i wx => ∃ m : Nat, m ≤ v.ins.length ∧ i = .int .i64 m ∧ Blk wx (w.heap.size + 1) 4 ((Nt.usedMid n.nodes n.nodes.length k (v.ins.take m)).map Value.bool).toArray ∧ Below w.heap.size w wx) (fun i _ => v.ins.length - (intOf i).toNat)
      case atStart => exact ⟨0, Nat.zero_le _, rfl, by rw [List.take_zero]; exact HB2.out, hb2⟩
      case round =>
        obtain ⟨m, hm, rfl, hblx, hbx⟩ := hrel
        clear HB2 hb2 Hblk hbw
        by_cases hlm : m < v.ins.length
        · have hI2 := (HNA.out.below hbx).2.2.1
          obtain ⟨b1, off1, rfl, -, hc⟩ := hI2 m hlm
          rw [getD_at hlm] at hc
          have hr := Hin.out _ (List.getElem_mem hlm)
          obtain ⟨u, hu⟩ : ∃ u : Nat, v.ins[m] = u := ⟨v.ins[m].toNat, by omega⟩
          have HM := Lib.hid (show Nt.usedMid n.nodes n.nodes.length k (v.ins.take (m + 1)) = (Nt.usedMid n.nodes n.nodes.length k (v.ins.take m)).set u true by rw [List.take_succ_eq_append_getElem hlm, Nt.usedMid_in _ _ _ _ hr.1 hr.2, hu]; rfl)
          rw [hu] at hc hr
          have hul : u < n.nodes.length + 1 := by omega
          have hcg := hblx.cell u
          have hfg := hblx.frozen u
          have hcg2 : wr.cell? ⟨w.heap.size + 1, u, none⟩ = some (.bool ((Nt.usedMid n.nodes n.nodes.length k (v.ins.take m)).getD u false)) := by
            rw [hcg]
            have := Nt.usedMid_len n.nodes n.nodes.length k (v.ins.take m)
            rw [List.getD_eq_getElem?_getD, List.getElem?_eq_getElem (by omega)]
            simp [this, hul]
          have hbs := hblx.set_ u (.bool true)
          have HBS := Lib.hid (show Blk (wr.setCell ⟨w.heap.size + 1, u, none⟩ (.bool true)) (w.heap.size + 1) 4 (((Nt.usedMid n.nodes n.nodes.length k (v.ins.take m)).set u true).map Value.bool).toArray by simpa [List.map_set] using hbs)
          have hbx2 := hbx.setCell (p := ⟨w.heap.size + 1, u, none⟩) (by simp) (.bool true)
          clear hcg hbs hI2 hblx hu
          have u0 : (0 : Int) ≤ u := by omega
          have u1 : (u : Int) < ((n.nodes.length + 1 : Nat) : Int) := by omega
          go_wp2_with fail
          go_roundw
          case rel => exact ⟨m + 1, by omega, by go_num, by rw [HM.out]; exact HBS.out, hbx2⟩
          case measure => simp [intOf]; omega
        · obtain rfl : m = v.ins.length := by omega
          rw [List.take_length] at hblx
          have Hblx := Lib.hid hblx
          clear hblx
          go_wp2_with fail
          go_roundw
          case rel => exact ⟨k + 1, by omega, by go_num, by rw [← HN.out]; exact Hblx.out, hbx⟩
          case measure => simp [intOf]; omega
    · obtain rfl : k = n.nodes.length := by omega
      have hU := Nt.usedMid_all n.nodes
      have hBU := Hblk.out
      rw [hU] at hBU
      have HBU := Lib.hid hBU
      have HU := Lib.hid hU
      clear hBU hU
      clear Hblk
      go_wp2_with fail
      go_loopw [9, 10, 39] (fun l c i wx => wx = wr ∧ ∃ k : Nat, k ≤ n.nodes.length + 1 ∧ i = .int .i64 k ∧ l = .int .i64 ((Nt.unusedTo n.nodes k).getLastD 0) ∧ c = .int .i64 ((Nt.unusedTo n.nodes k).length : Nat)) (fun _ _ i _ => n.nodes.length + 1 - (intOf i).toNat)
      case atStart => exact ⟨rfl, 0, Nat.zero_le _, rfl, rfl, rfl⟩
      case round =>
        obtain ⟨rfl, k, hk, rfl, rfl, rfl⟩ := hrel
        have hul := Nt.unusedTo_len n.nodes k
        by_cases hlt : k < n.nodes.length + 1
        · have hcf : ∀ b, Nt.isUsed n.nodes k = b → wr.cell? ⟨w.heap.size + 1, k, none⟩ = some (.bool b) := fun b hb => by
            rw [← hb, HBU.out.cell]
            simp [Nt.nums, hlt]
          have hs := Nt.unusedTo_succ n.nodes k
          have k1 : (k : Int) < ((n.nodes.length + 1 : Nat) : Int) := by omega
          have HS := Lib.hid hs
          clear hs
          obtain ⟨L0, hL0⟩ : ∃ L0, (Nt.unusedTo n.nodes k).getLastD 0 = L0 := ⟨_, rfl⟩
          obtain ⟨c0, hc0⟩ : ∃ c0, (Nt.unusedTo n.nodes k).length = c0 := ⟨_, rfl⟩
          rw [hc0] at hul
          rw [hL0, hc0]
          have HL0 := Lib.hid hL0
          have Hc0 := Lib.hid hc0
          clear hL0 hc0
          cases hu : Nt.isUsed n.nodes k
          · have hc := hcf _ hu
            have HU := Lib.hid hu
            clear hu hcf
            go_wp2_with fail
            go_roundw
            case rel => exact ⟨trivial, k + 1, by omega, by go_num, by rw [HS.out, HU.out]; simp, by rw [HS.out, HU.out, if_neg (by simp), List.length_append, Hc0.out]; go_num⟩
            case measure => simp [intOf]; omega
          · have hc := hcf _ hu
            have HU := Lib.hid hu
            clear hu hcf
            go_wp2_with fail
            go_roundw
            case rel => exact ⟨trivial, k + 1, by omega, by go_num, by rw [HS.out, HU.out, if_pos rfl, HL0.out], by rw [HS.out, HU.out, if_pos rfl, Hc0.out]⟩
            case measure => simp [intOf]; omega
        · obtain rfl : k = n.nodes.length + 1 := by omega
          rw [Nt.unusedTo_all] at *
          have hl : (Nt.unused n.nodes).getLastD 0 = Nt.loss n.nodes := rfl
          rw [hl]
          have hlo : Nt.lossOk n.nodes = decide ((Nt.unused n.nodes).length = 1 ∧ Nt.loss n.nodes ≠ 0) := rfl
          obtain ⟨L, hL⟩ : ∃ L, Nt.loss n.nodes = L := ⟨_, rfl⟩
          obtain ⟨c', hc'⟩ : ∃ c', (Nt.unused n.nodes).length = c' := ⟨_, rfl⟩
          rw [hL, hc'] at hlo
          rw [hc'] at hul
          rw [hL, hc']
          have HLs := Lib.hid hL
          clear hL hl hc'
          by_cases h1 : c' = 1
          · subst h1
            have k1 : ¬ (((n.nodes.length + 1 : Nat) : Int) < ((n.nodes.length + 1 : Nat) : Int)) := by omega
            have HL := Lib.hid hlo
            clear hlo
            go_wp2_with fail
            go_ret2
            exact ⟨by rw [HL.out, HLs.out]; by_cases h : L = 0 <;> simp [h], hbw⟩
          · have c1 : ((c' : Int) == 1) = false := by simp; omega
            have HL := Lib.hid (show Nt.lossOk n.nodes = false by rw [hlo]; simp [h1])
            clear hlo h1
            go_wp2_with fail
            go_ret2
            exact ⟨by rw [HL.out, HLs.out]; rfl, hbw⟩
end Go.Proofs.Ytjkhpbngpceenaa
