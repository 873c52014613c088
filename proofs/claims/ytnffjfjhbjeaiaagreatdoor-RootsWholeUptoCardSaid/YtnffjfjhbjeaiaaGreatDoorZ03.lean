/- Lemmas for the statements of this seat: contracts of functions and the plain laws. -/
import Derived.Test.YtnffjfjhbjeaiaaGreatDoorZ02
set_option linter.unusedVariables false
/- Layer 11 (net): which number nobody uses: contract. -/
namespace Go.Proofs.YtnffjfjhbjeaiaaGreatDoor
open Go.RowKit

/-- The net's rows are of a length that can be gone through. -/
def NodeD.ok (v : NodeD) : Prop := v.op.wide ∧ v.op.s.length ≤ 1048576 ∧ v.ins.length ≤ 1048576 ∧ v.p.length ≤ 1048576 ∧ (∀ s ∈ v.p, s.length ≤ 1048576) ∧ ∀ z ∈ v.ins, -9223372036854775808 ≤ z ∧ z ≤ 9223372036854775807
def NetD.ok (n : NetD) : Prop := n.inn.length ≤ 1048576 ∧ n.nodes.length ≤ 1048576 ∧ ∀ v ∈ n.nodes, v.ok

/-- One node's cells, from the place o of block b on. -/
def NodeAt (w : World) (b o : Nat) (v : NodeD) (S : Option Addr) (c : Nat) (I : Option Addr) (d : Nat) (Q : Option Addr) (q : Nat) : Prop :=
    (w.cell? ⟨b, o, none⟩ = some (.int .i64 v.op.kind) ∧ w.cell? ⟨b, o + 1, none⟩ = some (.int .i64 v.op.k) ∧ w.cell? ⟨b, o + 2, none⟩ = some (.int .i64 v.op.width) ∧
    w.cell? ⟨b, o + 3, none⟩ = some (.int .i64 v.op.step) ∧ w.cell? ⟨b, o + 4, none⟩ = some (.int .i64 v.op.side) ∧ w.cell? ⟨b, o + 5, none⟩ = some (.int .i64 v.op.frm) ∧
    w.cell? ⟨b, o + 6, none⟩ = some (.int .i64 v.op.to) ∧ w.cell? ⟨b, o + 7, none⟩ = some (.slice S v.op.s.length c) ∧
    w.cell? ⟨b, o + 8, none⟩ = some (.slice I v.ins.length d) ∧ w.cell? ⟨b, o + 9, none⟩ = some (.slice Q v.p.length q)) ∧
    Ints .i64 w S v.op.s ∧ Ints .i64 w I v.ins ∧ Shps w Q v.p
theorem NodeAt.below {w w' : World} {b o : Nat} {v : NodeD} {S : Option Addr} {c : Nat} {I : Option Addr} {d : Nat} {Q : Option Addr} {q : Nat} (h : NodeAt w b o v S c I d Q q) (hb : Below w.heap.size w w') : NodeAt w' b o v S c I d Q q := by
  obtain ⟨⟨y0, y1, y2, y3, y4, y5, y6, y7, y8, y9⟩, h1, h2, h3⟩ := h
  exact ⟨⟨cell_below hb y0, cell_below hb y1, cell_below hb y2, cell_below hb y3, cell_below hb y4, cell_below hb y5, cell_below hb y6, cell_below hb y7, cell_below hb y8, cell_below hb y9⟩, h1.below hb (Nat.le_refl _), h2.below hb (Nat.le_refl _), h3.below hb (Nat.le_refl _)⟩
theorem Nodes.at_ {w : World} {A : Option Addr} {ns : List NodeD} (h : Nodes w A ns) {j : Nat} (hj : j < ns.length) :
    ∃ b off S c I d Q q, A = some ⟨b, off, none⟩ ∧ NodeAt w b (off + j * 10) ns[j] S c I d Q q ∧ (ns[j].op.s.length ≤ c ∧ c ≤ 9223372036854775807) ∧ (ns[j].ins.length ≤ d ∧ d ≤ 9223372036854775807) ∧ (ns[j].p.length ≤ q ∧ q ≤ 9223372036854775807) := by
  obtain ⟨b, off, S, c, I, d, Q, q, e, _, y0, y1, y2, y3, y4, y5, y6, y7, y8, y9, ⟨h1, h1'⟩, ⟨h2, h2'⟩, h3, h3'⟩ := h j hj
  exact ⟨b, off, S, c, I, d, Q, q, e, ⟨⟨y0, y1, y2, y3, y4, y5, y6, y7, y8, y9⟩, h1, h2, h3⟩, h1', h2', h3'⟩

namespace Nt
/-- What is used by the first k nodes, and by the ins l of the next one. -/
def usedMid (ns : List NodeD) (n k : Nat) (l : List Int) : List Bool := (nums n).map fun id => isUsed (ns.take k) id || l.contains id
theorem usedMid_len (ns : List NodeD) (n k : Nat) (l : List Int) : (usedMid ns n k l).length = n + 1 := by simp [usedMid, nums]
theorem usedMid_zero (ns : List NodeD) (n : Nat) : usedMid ns n 0 [] = List.replicate (n + 1) false := by
  unfold usedMid
  rw [List.eq_replicate_iff]
  refine ⟨by simp [nums], fun b hb => ?_⟩
  obtain ⟨x, _, rfl⟩ := List.mem_map.1 hb
  simp [isUsed]
theorem usedMid_next (ns : List NodeD) (n : Nat) {k : Nat} (hk : k < ns.length) : usedMid ns n k ns[k].ins = usedMid ns n (k + 1) [] := by
  unfold usedMid
  apply List.map_congr_left
  intro id _
  rw [List.take_succ_eq_append_getElem hk]
  simp only [isUsed, List.any_append, List.any_cons, List.any_nil, List.contains_nil, Bool.or_false]
theorem usedMid_in (ns : List NodeD) (n k : Nat) (l : List Int) {id : Int} (h0 : 0 ≤ id) (h1 : id ≤ n) : usedMid ns n k (l ++ [id]) = (usedMid ns n k l).set id.toNat true := by
  apply List.ext_getElem?
  intro j
  rw [List.getElem?_set]
  unfold usedMid nums
  simp only [List.map_map, List.getElem?_map, List.length_map, List.length_range]
  by_cases hj : j < n + 1
  · rw [List.getElem?_range hj]
    by_cases e : id.toNat = j
    · subst e
      have : ((id.toNat : Nat) : Int) = id := by omega
      simp [hj, this]
    · have e2 : (j : Int) ≠ id := by omega
      simp [e, e2]
  · rw [List.getElem?_eq_none (by simp; omega)]
    simp
    intro q; omega
theorem usedMid_all (ns : List NodeD) : usedMid ns ns.length ns.length [] = (nums ns.length).map (isUsed ns) := by
  unfold usedMid
  apply List.map_congr_left
  intro id _
  simp
/-- The unused ones of the first numbers. -/
def unusedTo (ns : List NodeD) (k : Nat) : List Int := ((List.range k).map fun i : Nat => (i : Int)).filter fun id => !isUsed ns id
theorem unusedTo_succ (ns : List NodeD) (k : Nat) : unusedTo ns (k + 1) = if isUsed ns k then unusedTo ns k else unusedTo ns k ++ [(k : Int)] := by
  unfold unusedTo
  rw [List.range_succ, List.map_append, List.filter_append]
  cases h : isUsed ns k <;> simp [h]
theorem unusedTo_all (ns : List NodeD) : unusedTo ns (ns.length + 1) = unused ns := rfl
theorem unusedTo_len (ns : List NodeD) (k : Nat) : (unusedTo ns k).length ≤ k := by
  unfold unusedTo
  exact Nat.le_trans (List.length_filter_le _ _) (by simp)
end Nt
theorem bool_info : (Tryz.prog.info? 4).map (fun i => (i.zero, i.size, i.bytes)) = some (some (.bool false), 1, 1) := by kernel_rfl
theorem made_one (v : Value) (n : Nat) : (madeCells #[v] n).toList = List.replicate n v := by
  rw [List.eq_replicate_iff]
  refine ⟨by simp [madeCells], fun b hb => ?_⟩
  simp [madeCells] at hb
  obtain ⟨x, _, rfl⟩ := hb
  simp [Nat.mod_one]

set_option maxRecDepth 20000 in
set_option maxHeartbeats 8000000 in
theorem net_unused (A N : Option Addr) (c d : Nat) (n : NetD) (w : World) (hok : n.ok) (hR : NetR w A N n) (hd : n.nodes.length ≤ d) (hins : ∀ v ∈ n.nodes, ∀ i ∈ v.ins, 0 ≤ i ∧ i ≤ n.nodes.length) :
    Calls Tryz.prog 98 #[.agg #[.slice A n.inn.length c, .slice N n.nodes.length d]] w fun e w' => e = .returned (.tuple #[.int .i64 (Nt.loss n.nodes), .bool (Nt.lossOk n.nodes)]) ∧ Below w.heap.size w w' := by
  obtain ⟨i0, hi, hz0, hz1, hz2⟩ := info_parts bool_info
  have hnl := hok.2.1
  have hokn := hok.2.2
  have HR := Lib.hid hR
  have Hins := Lib.hid hins
  have Hokn := Lib.hid hokn
  clear hR hins hokn
  clear hok
  have e1 : IntKind.i64.wrap ((n.nodes.length : Int) + 1) = ((n.nodes.length + 1 : Nat) : Int) := by rw [IntWalk.i64_in _ (by omega)]; omega
  go_enter Tryz.func98, Tryz.ntmps98
  go_wp2_with (at_make; refine wpList_make_full _ rfl _ _ 72 rfl w.heap.size 4 i0 (.bool false) 1 Tryz.underlying72 hi hz0 hz1 _ _ _ _ (n.nodes.length + 1) rfl rfl (by first | rfl | simp | (go_simp; rfl)) (by first | rfl | simp | (go_simp; rfl)) ?b2 ?b3 ?b4 ?_)
  case b2 => rw [hz2]; omega
  case b3 => unfold maxLen; omega
  case b4 => simp
  intro w1 hown hgrow
  have hblk := own_cur hown
  rw [made_one] at hblk
  have hk1 : Blk w1 (w.heap.size + 1) 4 ((Nt.usedMid n.nodes n.nodes.length 0 []).map Value.bool).toArray := by
    rw [Nt.usedMid_zero, List.map_replicate]
    simpa [Blk] using hblk
  have hb1 : Below w.heap.size w w1 := ((Below.refl _ w).alloc (Nat.le_refl _) _).grown hgrow (by simp) (by simp)
  have hx1 : w1.cell? ⟨w.heap.size, 1, none⟩ = some (.slice N n.nodes.length d) := hgrow.cell (by simp) (by simp)
  have HK := Lib.hid hk1
  clear hblk hk1 hown hgrow
  go_wp2_with fail
  go_loopw [21] (fun i wr => ∃ k : Nat, k ≤ n.nodes.length ∧ i = .int .i64 k ∧ Blk wr (w.heap.size + 1) 4 ((Nt.usedMid n.nodes n.nodes.length k []).map Value.bool).toArray ∧ Below w.heap.size w wr) (fun i _ => n.nodes.length - (intOf i).toNat)
  case atStart => exact ⟨0, Nat.zero_le _, rfl, HK.out, hb1⟩
  case round =>
    obtain ⟨k, hk, rfl, hblk, hbw⟩ := hrel
    have Hblk := Lib.hid hblk
    clear hblk
    clear HK hb1 hx1
    by_cases hlt : k < n.nodes.length
    · obtain ⟨b, off, S, sc, I, ic, Q, qc, rfl, hNA, -, hI, -⟩ := HR.out.2.at_ hlt
      have hnok := Hokn.out _ (List.getElem_mem hlt)
      have hin := Hins.out _ (List.getElem_mem hlt)
      have HN := Lib.hid (Nt.usedMid_next n.nodes n.nodes.length hlt)
      have hil := hnok.2.2.1
      generalize n.nodes[k] = v at *
      obtain ⟨⟨y0, y1, y2, y3, y4, y5, y6, y7, y8, y9⟩, -⟩ := hNA.below hbw
      have HNA := Lib.hid hNA
      have Hnok := Lib.hid hnok
      have Hin := Lib.hid hin
      clear hNA hnok hin
      have hb2 := hbw.alloc hbw.size (.cells #[.int .i64 v.op.kind, .int .i64 v.op.k, .int .i64 v.op.width, .int .i64 v.op.step, .int .i64 v.op.side, .int .i64 v.op.frm, .int .i64 v.op.to, .slice S v.op.s.length sc, .slice I v.ins.length ic, .slice Q v.p.length qc] 67)
      have HB2 := Lib.hid (Hblk.out.alloc (.cells #[.int .i64 v.op.kind, .int .i64 v.op.k, .int .i64 v.op.width, .int .i64 v.op.step, .int .i64 v.op.side, .int .i64 v.op.frm, .int .i64 v.op.to, .slice S v.op.s.length sc, .slice I v.ins.length ic, .slice Q v.p.length qc] 67))
      go_wp2_with fail
      clear y0 y1 y2 y3 y4 y5 y6 y7 y8 y9
      go_loopw [28] (fun i wx => ∃ m : Nat, m ≤ v.ins.length ∧ i = .int .i64 m ∧ Blk wx (w.heap.size + 1) 4 ((Nt.usedMid n.nodes n.nodes.length k (v.ins.take m)).map Value.bool).toArray ∧ Below w.heap.size w wx) (fun i _ => v.ins.length - (intOf i).toNat)
      case atStart => exact ⟨0, Nat.zero_le _, rfl, by rw [List.take_zero]; exact HB2.out, hb2⟩
      case round =>
        obtain ⟨m, hm, rfl, hblx, hbx⟩ := hrel
        clear HB2 hb2 Hblk hbw
        by_cases hlm : m < v.ins.length
        · have hI2 := (HNA.out.below hbx).2.2.1
          obtain ⟨b1, off1, rfl, -, hc⟩ := hI2 m hlm
          rw [getD_at hlm] at hc
          have hr := Hin.out _ (List.getElem_mem hlm)
          obtain ⟨u, hu⟩ : ∃ u : Nat, v.ins[m] = u := ⟨v.ins[m].toNat, by omega⟩
          have HM := Lib.hid (show Nt.usedMid n.nodes n.nodes.length k (v.ins.take (m + 1)) = (Nt.usedMid n.nodes n.nodes.length k (v.ins.take m)).set u true by rw [List.take_succ_eq_append_getElem hlm, Nt.usedMid_in _ _ _ _ hr.1 hr.2, hu]; rfl)
          rw [hu] at hc hr
          have hul : u < n.nodes.length + 1 := by omega
          have hcg := hblx.cell u
          have hfg := hblx.frozen u
          have hcg2 : wr.cell? ⟨w.heap.size + 1, u, none⟩ = some (.bool ((Nt.usedMid n.nodes n.nodes.length k (v.ins.take m)).getD u false)) := by
            rw [hcg]
            have := Nt.usedMid_len n.nodes n.nodes.length k (v.ins.take m)
            rw [List.getD_eq_getElem?_getD, List.getElem?_eq_getElem (by omega)]
            simp [this, hul]
          have hbs := hblx.set_ u (.bool true)
          have HBS := Lib.hid (show Blk (wr.setCell ⟨w.heap.size + 1, u, none⟩ (.bool true)) (w.heap.size + 1) 4 (((Nt.usedMid n.nodes n.nodes.length k (v.ins.take m)).set u true).map Value.bool).toArray by simpa [List.map_set] using hbs)
          have hbx2 := hbx.setCell (p := ⟨w.heap.size + 1, u, none⟩) (by simp) (.bool true)
          clear hcg hbs hI2 hblx hu
          have u0 : (0 : Int) ≤ u := by omega
          have u1 : (u : Int) < ((n.nodes.length + 1 : Nat) : Int) := by omega
          go_wp2_with fail
          go_roundw
          case rel => exact ⟨m + 1, by omega, by go_num, by rw [HM.out]; exact HBS.out, hbx2⟩
          case measure => simp [intOf]; omega
        · obtain rfl : m = v.ins.length := by omega
          rw [List.take_length] at hblx
          have Hblx := Lib.hid hblx
          clear hblx
          go_wp2_with fail
          go_roundw
          case rel => exact ⟨k + 1, by omega, by go_num, by rw [← HN.out]; exact Hblx.out, hbx⟩
          case measure => simp [intOf]; omega
    · obtain rfl : k = n.nodes.length := by omega
      have hU := Nt.usedMid_all n.nodes
      have hBU := Hblk.out
      rw [hU] at hBU
      have HBU := Lib.hid hBU
      have HU := Lib.hid hU
      clear hBU hU
      clear Hblk
      go_wp2_with fail
      go_loopw [9, 10, 39] (fun l c i wx => wx = wr ∧ ∃ k : Nat, k ≤ n.nodes.length + 1 ∧ i = .int .i64 k ∧ l = .int .i64 ((Nt.unusedTo n.nodes k).getLastD 0) ∧ c = .int .i64 ((Nt.unusedTo n.nodes k).length : Nat)) (fun _ _ i _ => n.nodes.length + 1 - (intOf i).toNat)
      case atStart => exact ⟨rfl, 0, Nat.zero_le _, rfl, rfl, rfl⟩
      case round =>
        obtain ⟨rfl, k, hk, rfl, rfl, rfl⟩ := hrel
        have hul := Nt.unusedTo_len n.nodes k
        by_cases hlt : k < n.nodes.length + 1
        · have hcf : ∀ b, Nt.isUsed n.nodes k = b → wr.cell? ⟨w.heap.size + 1, k, none⟩ = some (.bool b) := fun b hb => by
            rw [← hb, HBU.out.cell]
            simp [Nt.nums, hlt]
          have hs := Nt.unusedTo_succ n.nodes k
          have k1 : (k : Int) < ((n.nodes.length + 1 : Nat) : Int) := by omega
          have HS := Lib.hid hs
          clear hs
          obtain ⟨L0, hL0⟩ : ∃ L0, (Nt.unusedTo n.nodes k).getLastD 0 = L0 := ⟨_, rfl⟩
          obtain ⟨c0, hc0⟩ : ∃ c0, (Nt.unusedTo n.nodes k).length = c0 := ⟨_, rfl⟩
          rw [hc0] at hul
          rw [hL0, hc0]
          have HL0 := Lib.hid hL0
          have Hc0 := Lib.hid hc0
          clear hL0 hc0
          cases hu : Nt.isUsed n.nodes k
          · have hc := hcf _ hu
            have HU := Lib.hid hu
            clear hu hcf
            go_wp2_with fail
            go_roundw
            case rel => exact ⟨trivial, k + 1, by omega, by go_num, by rw [HS.out, HU.out]; simp, by rw [HS.out, HU.out, if_neg (by simp), List.length_append, Hc0.out]; go_num⟩
            case measure => simp [intOf]; omega
          · have hc := hcf _ hu
            have HU := Lib.hid hu
            clear hu hcf
            go_wp2_with fail
            go_roundw
            case rel => exact ⟨trivial, k + 1, by omega, by go_num, by rw [HS.out, HU.out, if_pos rfl, HL0.out], by rw [HS.out, HU.out, if_pos rfl, Hc0.out]⟩
            case measure => simp [intOf]; omega
        · obtain rfl : k = n.nodes.length + 1 := by omega
          rw [Nt.unusedTo_all] at *
          have hl : (Nt.unused n.nodes).getLastD 0 = Nt.loss n.nodes := rfl
          rw [hl]
          have hlo : Nt.lossOk n.nodes = decide ((Nt.unused n.nodes).length = 1 ∧ Nt.loss n.nodes ≠ 0) := rfl
          obtain ⟨L, hL⟩ : ∃ L, Nt.loss n.nodes = L := ⟨_, rfl⟩
          obtain ⟨c', hc'⟩ : ∃ c', (Nt.unused n.nodes).length = c' := ⟨_, rfl⟩
          rw [hL, hc'] at hlo
          rw [hc'] at hul
          rw [hL, hc']
          have HLs := Lib.hid hL
          clear hL hl hc'
          by_cases h1 : c' = 1
          · subst h1
            have k1 : ¬ (((n.nodes.length + 1 : Nat) : Int) < ((n.nodes.length + 1 : Nat) : Int)) := by omega
            have HL := Lib.hid hlo
            clear hlo
            go_wp2_with fail
            go_ret2
            exact ⟨by rw [HL.out, HLs.out]; by_cases h : L = 0 <;> simp [h], hbw⟩
          · have c1 : ((c' : Int) == 1) = false := by simp; omega
            have HL := Lib.hid (show Nt.lossOk n.nodes = false by rw [hlo]; simp [h1])
            clear hlo h1
            go_wp2_with fail
            go_ret2
            exact ⟨by rw [HL.out, HLs.out]; rfl, hbw⟩
end Go.Proofs.YtnffjfjhbjeaiaaGreatDoor
/- Rows of the call's own: what they read as. No program is named here. -/
namespace Go.Proofs.YtnffjfjhbjeaiaaGreatDoor
open Go.RowKit
theorem own_form {w : World} {B e s n : Nat} {v : Value} {xs : List Value} (h : w.ownsRow B e s v n xs) : ∃ A c, v = .slice A n c := by
  rcases h.2 with ⟨rfl, h0⟩ | ⟨g, cap, cur, rfl, _⟩
  · exact ⟨none, 0, by rw [h0]⟩
  · exact ⟨_, cap, rfl⟩
theorem own_ints {w : World} {B e n c : Nat} {A : Option Addr} {zs : List Int} (h : w.ownsRow B e 1 (.slice A zs.length c) n (zs.map (Value.int .i64))) : Ints .i64 w A zs ∧ zs.length ≤ c ∧ c ≤ 9223372036854775807 := by
  obtain ⟨A1, c1, e1, rfl, hI⟩ := Ints.of_own h
  injection e1 with e1 _ e2
  subst e1 e2
  refine ⟨hI, ?_⟩
  rcases h.2 with ⟨h1, h0⟩ | ⟨g, cap, cur, h1, _, _, h3, h4, _⟩
  · injection h1 with _ _ h1; omega
  · injection h1 with _ _ h1; unfold maxLen at h4; omega
theorem ownsRow_new {w : World} {B e s n : Nat} {v : Value} {xs : List Value} (h : w.ownsRow B e s v n xs) (o : Obj) : (w.alloc o).ownsRow B e s v n xs := ownsRow_heap h fun g hg => Below.heap_alloc w o g (h.lt g hg).2
theorem ownsRow_grown {w w' : World} {B e s n : Nat} {v : Value} {xs : List Value} {row : Option Nat} (h : w.ownsRow B e s v n xs) (hg : w.grownBy w' row) (hr : ∀ b, v.ownBlock = some b → row ≠ some b) : w'.ownsRow B e s v n xs := ownsRow_heap h fun g k => hg.block g (h.lt g k).2 fun e => hr g k e.symm
theorem ownsRow_fr {w w' : World} {B e s n : Nat} {v : Value} {xs : List Value} {S : Nat → Prop} (h : w.ownsRow B e s v n xs) (hg : Fr S w w') (hr : ∀ b, v.ownBlock = some b → ¬ S b) : w'.ownsRow B e s v n xs := ownsRow_heap h fun g k => hg.2 g (h.lt g k).2 (hr g k)
theorem right_short {s : List Int} (h : Sh.right s = true) : 0 < s.length ∧ s.length ≤ 4 := by
  obtain ⟨_, a, b, _⟩ := Sh.right_mul h
  exact ⟨by omega, a⟩
end Go.Proofs.YtnffjfjhbjeaiaaGreatDoor
/- Layer 11 (net): the shapes by numbers: contract. -/
namespace Go.Proofs.YtnffjfjhbjeaiaaGreatDoor
open Go.RowKit

theorem shpT_info : (Tryz.prog.info? 23).map (fun i => (i.zero, i.size, i.bytes)) = some (some (.slice none 0 0), 1, 24) := by kernel_rfl
def LayPost (r : List (List Int) × Int) (n : Nat) (w : World) (e : Ending) (w' : World) : Prop :=
  Below w.heap.size w w' ∧ ((r.2 = 0 ∧ ∃ g, e = .returned (.tuple #[.slice (some ⟨g, 0, none⟩) (n + 1) (n + 1), .int .i64 0]) ∧ w.heap.size ≤ g ∧ ShpRow w' g 23 r.1 ∧ r.1.length = n + 1) ∨ (r.2 ≠ 0 ∧ e = .returned (.tuple #[.slice none 0 0, .int .i64 r.2])))
namespace Nt
def insMid (sh : List (List Int)) (l : List Int) (m : Nat) : List (List Int) := pick sh (l.take m) ++ List.replicate (l.length - m) []
theorem insMid_len (sh : List (List Int)) (l : List Int) {m : Nat} (h : m ≤ l.length) : (insMid sh l m).length = l.length := by simp [insMid, pick]; omega
theorem insMid_zero (sh : List (List Int)) (l : List Int) : insMid sh l 0 = List.replicate l.length [] := by simp [insMid, pick]
theorem insMid_all (sh : List (List Int)) (l : List Int) : insMid sh l l.length = pick sh l := by simp [insMid]
theorem insMid_succ (sh : List (List Int)) (l : List Int) {m : Nat} (h : m < l.length) : insMid sh l (m + 1) = (insMid sh l m).set m (sh.getD l[m].toNat []) := by
  unfold insMid
  rw [show l.length - m = (l.length - (m + 1)) + 1 by omega, List.replicate_succ, List.take_succ_eq_append_getElem h]
  unfold pick
  rw [List.map_append, List.set_append_right _ _ (by simp; omega)]
  rw [show m - ((l.take m).map fun i => sh.getD i.toNat []).length = 0 by simp; omega, List.set_cons_zero, List.append_assoc]
  rfl
end Nt
theorem lay_short {n : NetD} (hin : Sh.right n.inn = true) {k : Nat} (hk : k ≤ (Nt.sorted n.nodes).length) {sh : List (List Int)} (h : Nt.lay n.nodes (Nt.start n) ((Nt.sorted n.nodes).take k) = (sh, 0)) : Nt.Good ((Nt.sorted n.nodes).take k) sh ∧ sh.length = n.nodes.length + 1 := by
  have h2 := Nt.lay_good hin k hk (by rw [h])
  have h3 := Nt.lay_len (ns := n.nodes) (a := (Nt.sorted n.nodes).take k) (sh := Nt.start n) (by rw [h])
  rw [h] at h2 h3
  exact ⟨h2, by simpa [Nt.start] using h3⟩
set_option maxRecDepth 20000 in
set_option maxHeartbeats 8000000 in
theorem net_lay (A N O : Option Addr) (c d oc : Nat) (n : NetD) (w : World) (hok : n.ok) (hR : NetR w A N n) (hd : n.nodes.length ≤ d) (hO : Ints .i64 w O (Nt.sorted n.nodes)) (hin : Sh.right n.inn = true) (hins : ∀ v ∈ n.nodes, ∀ i ∈ v.ins, 0 ≤ i ∧ i ≤ n.nodes.length) :
    Calls Tryz.prog 97 #[.agg #[.slice A n.inn.length c, .slice N n.nodes.length d], .slice O (Nt.sorted n.nodes).length oc] w (LayPost (Nt.lay n.nodes (Nt.start n) (Nt.sorted n.nodes)) n.nodes.length w) := by
  obtain ⟨i0, hi, hz0, hz1, hz2⟩ := info_parts shpT_info
  have hnl := hok.2.1
  have hil := hok.1
  have hokn := hok.2.2
  have hol : (Nt.sorted n.nodes).length ≤ n.nodes.length := Kn.order_len_le _ _
  have hrng : ∀ u ∈ Nt.sorted n.nodes, 1 ≤ u ∧ u ≤ n.nodes.length := Kn.order_rng _ _
  have hbeh : ∀ a b u, Nt.sorted n.nodes = a ++ u :: b → ∀ i ∈ Nt.insF n.nodes u, i = 0 ∨ i ∈ a := fun a b u h => Kn.order_behind _ _ h
  obtain ⟨os, hos⟩ : ∃ os, Nt.sorted n.nodes = os := ⟨_, rfl⟩
  have hshort : ∀ k, k ≤ os.length → ∀ sh, Nt.lay n.nodes (Nt.start n) (os.take k) = (sh, 0) → Nt.Good (os.take k) sh ∧ sh.length = n.nodes.length + 1 := fun k hk sh h => by
    have := lay_short (n := n) hin (k := k) (by rw [hos]; exact hk) (sh := sh) (by rw [hos]; exact h)
    rw [hos] at this
    exact this
  rw [hos] at hO hol hrng hbeh ⊢
  have hk0 := Blk.new w 26 #[.slice A n.inn.length c, .slice N n.nodes.length d]
  have hb0 : Below w.heap.size w (w.alloc (.cells #[.slice A n.inn.length c, .slice N n.nodes.length d] 26)) := (Below.refl _ _).alloc (Nat.le_refl _) _
  have HR := Lib.hid hR
  have Hins := Lib.hid hins
  have Hokn := Lib.hid hokn
  have HO := Lib.hid hO
  have Hin := Lib.hid hin
  have Hrng := Lib.hid hrng
  have Hbeh := Lib.hid hbeh
  have Hshort := Lib.hid hshort
  have Hos := Lib.hid hos
  clear hR hins hokn hO hin hrng hbeh hshort hos
  clear hok
  have e1 : IntKind.i64.wrap ((n.nodes.length : Int) + 1) = ((n.nodes.length + 1 : Nat) : Int) := by rw [IntWalk.i64_in _ (by omega)]; omega
  go_enter Tryz.func97, Tryz.ntmps97
  go_wp2_with (at_make; refine wpList_make_full _ rfl _ _ 65 rfl w.heap.size 23 i0 (.slice none 0 0) 1 Tryz.underlying65 hi hz0 hz1 _ _ _ _ (n.nodes.length + 1) rfl rfl (by first | rfl | simp | (go_simp; rfl)) (by first | rfl | simp | (go_simp; rfl)) ?b2 ?b3 ?b4 ?_)
  case b2 => rw [hz2]; omega
  case b3 => unfold maxLen; omega
  case b4 => simp
  intro w1 hown hgrow
  have hblk := own_cur hown
  rw [made_one] at hblk
  have hrow : ShpRow w1 (w.heap.size + 1) 23 (List.replicate (n.nodes.length + 1) []) := ShpRow.new (by simpa [Blk] using hblk)
  have hb1 : Below w.heap.size w w1 := hb0.grown hgrow (by simp) (by simp)
  have hbox : Blk w1 w.heap.size 26 #[.slice A n.inn.length c, .slice N n.nodes.length d] := hk0.grown hgrow (by simp)
  have x0 : w1.cell? ⟨w.heap.size, 0, none⟩ = some (.slice A n.inn.length c) := by rw [hbox.cell]; rfl
  have Hbox := Lib.hid hbox
  have Hrow := Lib.hid hrow
  clear hbox hrow
  clear hblk hown hgrow hk0
  go_wp2_with fail
  refine (shape_copy A c n.inn _ (by omega) (HR.out.1.below hb1 (Nat.le_refl _))).mono ?_
  rintro e w2 ⟨g, rfl, hg, hB, h2⟩
  have hgl : w.heap.size + 1 < w1.heap.size := Hrow.out.lt
  have hb2 := hb1.trans (h2.mono hb1.size)
  have hrow2 := Hrow.out.below h2 (Nat.le_refl _)
  have hbox2 := Hbox.out.below h2 Hbox.out.lt
  obtain ⟨S0, c0, y0, -⟩ := hrow2.at_ (j := 0) (by simp)
  have f0 : w2.frozen? ⟨w.heap.size + 1, 0, none⟩ = false := by obtain ⟨vs, _, hk, _⟩ := hrow2; exact hk.frozen 0
  have hIn : Ints .i64 w2 (some ⟨g, 0, none⟩) n.inn := Ints.of_row fun j hj => by rw [Nat.zero_add, show w2.cell? ⟨g, j, none⟩ = _ from (show Blk w2 g 3 _ from hB).cell j]; simp [hj]
  have hrow3 := hrow2.set_ (i := 0) hIn (Nat.le_refl _) (by omega) (fun a h => by injection h with h; subst h; simp; omega)
  have hbox3 := hbox2.far (p := ⟨w.heap.size + 1, 0, none⟩) (by simp) (.slice (some ⟨g, 0, none⟩) n.inn.length n.inn.length)
  have hb3 := hb2.setCell (p := ⟨w.heap.size + 1, 0, none⟩) (by simp) (.slice (some ⟨g, 0, none⟩) n.inn.length n.inn.length)
  rw [show (List.replicate (n.nodes.length + 1) ([] : List Int)).set 0 n.inn = Nt.start n from rfl] at hrow3
  have Hrow2 := Lib.hid hrow2
  have Hrow3 := Lib.hid hrow3
  have Hbox2 := Lib.hid hbox2
  have Hbox3 := Lib.hid hbox3
  have HB := Lib.hid hB
  have HIn := Lib.hid hIn
  clear hrow2 hrow3 hbox2 hbox3 hB hIn
  clear x0 Hrow Hbox
  go_wp2_with fail
  clear y0 f0
  go_loopw [27] (fun i wr => ∃ k : Nat, k ≤ os.length ∧ i = .int .i64 k ∧ Blk wr w.heap.size 26 #[.slice A n.inn.length c, .slice N n.nodes.length d] ∧ Below w.heap.size w wr ∧ ∃ sh, Nt.lay n.nodes (Nt.start n) (os.take k) = (sh, 0) ∧ ShpRow wr (w.heap.size + 1) 23 sh) (fun i _ => os.length - (intOf i).toNat)
  case atStart => exact ⟨0, Nat.zero_le _, rfl, Hbox3.out, hb3, Nt.start n, rfl, Hrow3.out⟩
  case round =>
    obtain ⟨k, hk, rfl, hbox, hbw, sh, hlay, hrow⟩ := hrel
    clear Hrow2 Hrow3 Hbox2 Hbox3 HB HIn hb3 hb2 hb1 h2 hg hgl
    obtain ⟨hgood, hshl⟩ := Hshort.out k hk sh hlay
    have hgl : w.heap.size + 1 < wr.heap.size := hrow.lt
    by_cases hlt : k < os.length
    · obtain ⟨b, off, rfl, -, hc⟩ := HO.out.below hbw (Nat.le_refl _) k hlt
      rw [getD_at hlt] at hc
      have hr := Hrng.out _ (List.getElem_mem hlt)
      have hsplit : os = os.take k ++ os[k] :: os.drop (k + 1) := by rw [← List.drop_eq_getElem_cons hlt, List.take_append_drop]
      have hbe := Hbeh.out _ _ _ hsplit
      obtain ⟨j, hj⟩ : ∃ j : Nat, os[k] = (j : Int) + 1 := ⟨(os[k] - 1).toNat, by omega⟩
      have hjl : j < n.nodes.length := by omega
      have hlay' := fun h : (Nt.layStep n.nodes sh os[k]).2 = 0 => Nt.lay_snoc (id := os[k]) hlay h
      have hfail := fun h : (Nt.layStep n.nodes sh os[k]).2 ≠ 0 => Nt.lay_fail (b := os.drop (k + 1)) (id := os[k]) hlay h
      rw [← List.take_succ_eq_append_getElem hlt] at hlay'
      rw [← hsplit] at hfail
      have hst : Nt.layStep n.nodes sh os[k] = Od.shape n.nodes[j].op n.nodes[j].p (Nt.pick sh n.nodes[j].ins) := by unfold Nt.layStep; rw [hj, Nt.node_at hjl]
      have hiF : Nt.insF n.nodes os[k] = n.nodes[j].ins := by unfold Nt.insF; rw [hj, Nt.node_at hjl]
      rw [hst] at hlay' hfail
      rw [hiF] at hbe
      have hpr := hgood.pick hbe
      rw [hj] at hc hlay'
      rw [show ((j : Int) + 1).toNat = j + 1 by omega] at hlay'
      have hnok := Hokn.out _ (List.getElem_mem hjl)
      have hinr := Hins.out _ (List.getElem_mem hjl)
      obtain ⟨b1, off1, S, sc, I, ic, Q, qc, rfl, hNA, hs1, hI1, hq1⟩ := HR.out.2.at_ hjl
      have hgr : ∀ i ∈ n.nodes[j].ins, Sh.right (sh.getD i.toNat []) = true := fun i hi => hgood i (hbe i hi)
      generalize n.nodes[j] = v at *
      obtain ⟨⟨y0, y1, y2, y3, y4, y5, y6, y7, y8, y9⟩, -⟩ := hNA.below hbw
      have x1 : wr.cell? ⟨w.heap.size, 1, none⟩ = some (.slice (some ⟨b1, off1, none⟩) n.nodes.length d) := by rw [hbox.cell]; rfl
      have j1 : IntKind.i64.wrap ((j : Int) + 1 - 1) = (j : Int) := by rw [IntWalk.i64_in _ (by omega)]; omega
      have j2 : (j : Int) < n.nodes.length := by omega
      have hvi := hnok.2.2.1
      have hkn := Blk.new wr 67 #[.int .i64 v.op.kind, .int .i64 v.op.k, .int .i64 v.op.width, .int .i64 v.op.step, .int .i64 v.op.side, .int .i64 v.op.frm, .int .i64 v.op.to, .slice S v.op.s.length sc, .slice I v.ins.length ic, .slice Q v.p.length qc]
      have hbn : Below wr.heap.size wr (wr.alloc (.cells #[.int .i64 v.op.kind, .int .i64 v.op.k, .int .i64 v.op.width, .int .i64 v.op.step, .int .i64 v.op.side, .int .i64 v.op.frm, .int .i64 v.op.to, .slice S v.op.s.length sc, .slice I v.ins.length ic, .slice Q v.p.length qc] 67)) := (Below.refl _ _).alloc (Nat.le_refl _) _
      have Hbox := Lib.hid hbox
      have Hrow := Lib.hid hrow
      have Hsplit := Lib.hid hsplit
      have Hbe := Lib.hid hbe
      have Hlay' := Lib.hid hlay'
      have Hfail := Lib.hid hfail
      have Hst := Lib.hid hst
      have HiF := Lib.hid hiF
      have Hpr := Lib.hid hpr
      have Hnok := Lib.hid hnok
      have Hinr := Lib.hid hinr
      have HNA := Lib.hid hNA
      have Hgr := Lib.hid hgr
      have Hlay := Lib.hid hlay
      have Hgood := Lib.hid hgood
      have Hkn := Lib.hid hkn
      have Hj := Lib.hid hj
      clear hbox hrow hsplit hbe hlay' hfail hst hiF hpr hnok hinr hNA hgr hlay hgood hkn hj
      go_wp2_with (at_make; refine wpList_make_full _ rfl _ _ 65 rfl wr.heap.size 23 i0 (.slice none 0 0) 1 Tryz.underlying65 hi hz0 hz1 _ _ _ _ v.ins.length rfl rfl (by first | rfl | simp | (go_simp; rfl)) (by first | rfl | simp | (go_simp; rfl)) ?b2 ?b3 ?b4 ?_)
      case b2 => rw [hz2]; omega
      case b3 => unfold maxLen; omega
      case b4 => simp
      intro w3 hown hgrow
      have hblk := own_cur hown
      rw [made_one] at hblk
      have hrow3 : ShpRow w3 (wr.heap.size + 1) 23 (Nt.insMid sh v.ins 0) := by rw [Nt.insMid_zero]; exact ShpRow.new (by simpa [Blk] using hblk)
      have hb3 : Below wr.heap.size wr w3 := hbn.grown hgrow (by simp) (by simp)
      have hkn3 : Blk w3 wr.heap.size 67 #[.int .i64 v.op.kind, .int .i64 v.op.k, .int .i64 v.op.width, .int .i64 v.op.step, .int .i64 v.op.side, .int .i64 v.op.frm, .int .i64 v.op.to, .slice S v.op.s.length sc, .slice I v.ins.length ic, .slice Q v.p.length qc] := Hkn.out.grown hgrow (by simp)
      have z8 : w3.cell? ⟨wr.heap.size, 8, none⟩ = some (.slice I v.ins.length ic) := by rw [hkn3.cell]; rfl
      have Hrow3 := Lib.hid hrow3
      have Hkn3 := Lib.hid hkn3
      clear hrow3 hkn3
      clear hblk hown hgrow y0 y1 y2 y3 y4 y5 y6 y7 y8 y9 x1 hbn Hkn
      go_wp2_with fail
      clear z8
      obtain ⟨wo, rfl⟩ : ∃ wo, wo = wr := ⟨wr, rfl⟩
      go_loopw [44] (fun i wx => ∃ m : Nat, m ≤ v.ins.length ∧ i = .int .i64 m ∧ Blk wx wo.heap.size 67 #[.int .i64 v.op.kind, .int .i64 v.op.k, .int .i64 v.op.width, .int .i64 v.op.step, .int .i64 v.op.side, .int .i64 v.op.frm, .int .i64 v.op.to, .slice S v.op.s.length sc, .slice I v.ins.length ic, .slice Q v.p.length qc] ∧ Below wo.heap.size wo wx ∧ ShpRow wx (wo.heap.size + 1) 23 (Nt.insMid sh v.ins m)) (fun i _ => v.ins.length - (intOf i).toNat)
      case atStart => exact ⟨0, Nat.zero_le _, rfl, Hkn3.out, hb3, Hrow3.out⟩
      case round =>
        obtain ⟨m, hm, rfl, hknx, hbx, hrx⟩ := hrel
        clear Hkn3 Hrow3 hb3
        have hbwx := hbw.trans (hbx.mono hbw.size)
        have hNx := HNA.out.below hbwx
        have hml := Nt.insMid_len sh v.ins hm
        by_cases hlm : m < v.ins.length
        · obtain ⟨b2, off2, rfl, -, hc2⟩ := hNx.2.2.1 m hlm
          rw [getD_at hlm] at hc2
          have hr2 := Hinr.out _ (List.getElem_mem hlm)
          have hg2 := Hgr.out _ (List.getElem_mem hlm)
          have HM := Lib.hid (Nt.insMid_succ sh v.ins hlm)
          obtain ⟨u, hu⟩ : ∃ u : Nat, v.ins[m] = u := ⟨v.ins[m].toNat, by omega⟩
          rw [hu] at hc2 hr2 hg2
          have hul : u < sh.length := by omega
          rw [show ((u : Int)).toNat = u by omega, gets_at hul] at hg2
          obtain ⟨Su, cu, yu, hIu, lu1, lu2, -⟩ := Hrow.out.at_ hul
          obtain ⟨b3, off3, rfl, hb3, -⟩ := hIu 0 (right_short hg2).1
          have yu' := cell_below hbx yu
          have hIu' := hIu.below hbx (Nat.le_refl _)
          have hset := hrx.set_ (i := m) hIu' lu1 lu2 (fun a h => by injection h with h; subst h; simp; omega)
          obtain ⟨Sm, cm, ym, -⟩ := hrx.at_ (j := m) (by omega)
          have fm : wr.frozen? ⟨wo.heap.size + 1, m, none⟩ = false := by obtain ⟨vs, _, hk, _⟩ := hrx; exact hk.frozen m
          have HS := Lib.hid (show ShpRow (wr.setCell ⟨wo.heap.size + 1, m, none⟩ (.slice (some ⟨b3, off3, none⟩) sh[u].length cu)) (wo.heap.size + 1) 23 (Nt.insMid sh v.ins (m + 1)) by
            rw [HM.out, hu, show ((u : Int)).toNat = u by omega, gets_at hul]; exact hset)
          have HKN := Lib.hid (hknx.far (p := ⟨wo.heap.size + 1, m, none⟩) (by simp) (.slice (some ⟨b3, off3, none⟩) sh[u].length cu))
          have hbx2 := hbx.setCell (p := ⟨wo.heap.size + 1, m, none⟩) (by simp) (.slice (some ⟨b3, off3, none⟩) sh[u].length cu)
          have u0 : (0 : Int) ≤ u := by omega
          have u1 : (u : Int) < ((n.nodes.length + 1 : Nat) : Int) := by omega
          have m1 : (m : Int) < v.ins.length := by omega
          clear hset hIu hIu' hknx hrx hNx hg2 hu yu
          go_wp2_with fail
          go_roundw
          case rel => exact ⟨m + 1, by omega, by go_num, HKN.out, hbx2, HS.out⟩
          case measure => simp [intOf]; omega
        · obtain rfl : m = v.ins.length := by omega
          have hpl : (Nt.pick sh v.ins).length = v.ins.length := by simp [Nt.pick]
          rw [Nt.insMid_all] at hrx
          obtain ⟨y0, y1, y2, y3, y4, y5, y6, y7, y9⟩ : wr.cell? ⟨wo.heap.size, 0, none⟩ = some (.int .i64 v.op.kind) ∧ wr.cell? ⟨wo.heap.size, 1, none⟩ = some (.int .i64 v.op.k) ∧ wr.cell? ⟨wo.heap.size, 2, none⟩ = some (.int .i64 v.op.width) ∧ wr.cell? ⟨wo.heap.size, 3, none⟩ = some (.int .i64 v.op.step) ∧ wr.cell? ⟨wo.heap.size, 4, none⟩ = some (.int .i64 v.op.side) ∧ wr.cell? ⟨wo.heap.size, 5, none⟩ = some (.int .i64 v.op.frm) ∧ wr.cell? ⟨wo.heap.size, 6, none⟩ = some (.int .i64 v.op.to) ∧ wr.cell? ⟨wo.heap.size, 7, none⟩ = some (.slice S v.op.s.length sc) ∧ wr.cell? ⟨wo.heap.size, 9, none⟩ = some (.slice Q v.p.length qc) := by
            refine ⟨?_, ?_, ?_, ?_, ?_, ?_, ?_, ?_, ?_⟩
            all_goals (rw [hknx.cell]; rfl)
          have hno := Hnok.out
          have hcall := op_shape v.op S Q (some ⟨wo.heap.size + 1, 0, none⟩) sc qc v.ins.length v.p (Nt.pick sh v.ins) wr (by have := hno.2.1; omega) hNx.2.1 ⟨hNx.2.2.2, hq1.1, hq1.2, fun s hs => by have := hno.2.2.2.2.1 s hs; omega⟩ ⟨hrx.shps, by omega, by omega, fun s hs => by have := (right_short (List.all_eq_true.1 Hpr.out s hs)).2; omega⟩
          rw [hpl] at hcall
          have hrgt := fun h : (Od.shape v.op v.p (Nt.pick sh v.ins)).2 = 0 => right_short (Od.shape_right h)
          have hl2 := Hlay'.out
          have hf2 := Hfail.out
          generalize Od.shape v.op v.p (Nt.pick sh v.ins) = r at *
          have Hcall := Lib.hid hcall
          have Hrgt := Lib.hid hrgt
          have Hl2 := Lib.hid hl2
          have Hf2 := Lib.hid hf2
          clear hcall hrgt hl2 hf2
          clear hNx hrx hknx hpl hno Hlay' Hfail Hst
          go_wp2_with fail
          clear y0 y1 y2 y3 y4 y5 y6 y7 y9
          refine (Hcall.out).mono ?_
          rintro e w4 ⟨S5, d5, rfl, hI5, r1, r2, hf5, hb5⟩
          have hb4 := hbx.trans (hb5.mono hbx.size)
          have hbw4 := hbw.trans (hb4.mono hbw.size)
          by_cases hr2 : r.2 = 0
          · have q1 : (r.2 != 0) = false := by simp [hr2]
            have hrow4 := Hrow.out.below hb4 (Nat.le_refl _)
            have hbox4 := Hbox.out.below hb4 Hbox.out.lt
            have hj1 : j + 1 < sh.length := by omega
            obtain ⟨Sm, cm, ym, -⟩ := hrow4.at_ hj1
            have fm : w4.frozen? ⟨w.heap.size + 1, j + 1, none⟩ = false := by obtain ⟨vs, _, hk, _⟩ := hrow4; exact hk.frozen (j + 1)
            have hset := hrow4.set_ (i := j + 1) hI5 r1 r2 (fun a h => by have := hf5 a h; have := hbx.size; omega)
            have HS := Lib.hid hset
            have HBX := Lib.hid (hbox4.far (p := ⟨w.heap.size + 1, j + 1, none⟩) (by simp) (.slice S5 r.1.length d5))
            have hbw5 := hbw4.setCell (p := ⟨w.heap.size + 1, j + 1, none⟩) (by simp) (.slice S5 r.1.length d5)
            have HL := Lib.hid (Hl2.out hr2)
            have j3 : ((j : Int) + 1) < ((n.nodes.length + 1 : Nat) : Int) := by omega
            have j4 : ((j : Int) + 1).toNat = j + 1 := by omega
            clear hset hrow4 hbox4 hr2
            have HI5 := Lib.hid hI5
            have Hf5 := Lib.hid hf5
            clear hI5 hf5
            go_wp2_with fail
            go_roundw
            case rel => exact ⟨k + 1, by omega, by go_num, HBX.out, hbw5, _, HL.out, HS.out⟩
            case measure => simp [intOf]; omega
          · have q1 : (r.2 != 0) = true := by simp [hr2]
            have HF := Lib.hid (Hf2.out hr2)
            have HR2 := Lib.hid hr2
            have HI5 := Lib.hid hI5
            have Hf5 := Lib.hid hf5
            clear hI5 hf5
            clear hr2
            go_wp2_with fail
            go_ret2
            exact ⟨hbw4, .inr (by rw [HF.out]; exact ⟨HR2.out, rfl⟩)⟩
    · obtain rfl : k = os.length := by omega
      rw [List.take_length] at hlay
      have Hlay := Lib.hid hlay
      have Hrow := Lib.hid hrow
      have Hbox := Lib.hid hbox
      have Hgood := Lib.hid hgood
      clear hlay hrow hbox hgood
      go_wp2_with fail
      go_ret2
      exact ⟨hbw, .inl (by rw [Hlay.out]; exact ⟨rfl, _, rfl, by omega, Hrow.out, hshl⟩)⟩
end Go.Proofs.YtnffjfjhbjeaiaaGreatDoor
/- The plain law of layer 13: a valid net's shapes do not change by its own nodes; words and costs. -/
namespace Go.Proofs.YtnffjfjhbjeaiaaGreatDoor
namespace Nt
/-- What isn't laid stays as it is. -/
theorem lay_keep {ns : List NodeD} : ∀ {a : List Int} {sh : List (List Int)}, (lay ns sh a).2 = 0 → ∀ j : Nat, (∀ u ∈ a, u.toNat ≠ j) → (lay ns sh a).1.getD j [] = sh.getD j []
  | [], sh, _, j, _ => rfl
  | id :: r, sh, h, j, hj => by
    unfold lay at h ⊢
    split at h
    · rename_i h1
      rw [if_pos h1, lay_keep h j (fun u hu => hj u (by simp [hu]))]
      have := hj id (by simp)
      simp only [List.getD_eq_getElem?_getD, List.getElem?_set_ne this]
    · rename_i h1; exact absurd h h1
theorem pick_congr {sh sh' : List (List Int)} {l : List Int} (h : ∀ i ∈ l, sh.getD i.toNat [] = sh'.getD i.toNat []) : pick sh l = pick sh' l := List.map_congr_left h
/-- A valid net's shapes are those that its nodes make of them. -/
theorem shapes_fix {n : NetD} (h : check n = 0) {id : Int} (h1 : 1 ≤ id) (h2 : id ≤ n.nodes.length) : layStep n.nodes (shapes n) id = ((shapes n).getD id.toNat [], 0) := by
  obtain ⟨_, _, hin, hb, hl, hlay, _⟩ := check_ok h
  have hu : id ∈ sorted n.nodes := (Kn.order_full hl id).2 ⟨h1, h2⟩
  obtain ⟨A, B, e⟩ := List.append_of_mem hu
  have hnd : (sorted n.nodes).Nodup := (Kn.go_ok _ _ _).nodup
  have hrg : ∀ u ∈ sorted n.nodes, 1 ≤ u ∧ u ≤ n.nodes.length := Kn.order_rng _ _
  have hbe := Kn.order_behind _ _ e
  have hs : shapes n = (lay n.nodes (start n) (sorted n.nodes)).1 := rfl
  rw [e] at hlay hnd hrg
  have hA : (lay n.nodes (start n) A).2 = 0 := by
    rw [lay_append] at hlay
    split at hlay
    · assumption
    · rename_i q; exact absurd hlay q
  rw [lay_append, if_pos hA, lay] at hlay
  have hS : (layStep n.nodes (lay n.nodes (start n) A).1 id).2 = 0 := by
    split at hlay
    · assumption
    · rename_i q; exact absurd hlay q
  rw [if_pos hS] at hlay
  have hs2 : shapes n = (lay n.nodes ((lay n.nodes (start n) A).1.set id.toNat (layStep n.nodes (lay n.nodes (start n) A).1 id).1) B).1 := by
    rw [hs, e, lay_append, if_pos hA, lay, if_pos hS]
  have hlenA : (lay n.nodes (start n) A).1.length = n.nodes.length + 1 := by rw [lay_len hA]; simp [start]
  have hnA : ∀ j, j ∈ A → j ≠ id ∧ j ∉ B := fun j hj => by
    rw [List.nodup_append] at hnd
    have := hnd.2.2 j hj
    exact ⟨fun e => by subst e; exact this j (by simp) rfl, fun hb => this j (by simp [hb]) rfl⟩
  have hnB : id ∉ B := by
    rw [List.nodup_append] at hnd
    exact (List.nodup_cons.1 hnd.2.1).1
  have hat : (shapes n).getD id.toNat [] = (layStep n.nodes (lay n.nodes (start n) A).1 id).1 := by
    rw [hs2, lay_keep hlay _ (fun u hu => by
      have := hrg u (by simp [hu])
      intro q
      have q : u = id := by omega
      exact hnB (q ▸ hu))]
    rw [List.getD_eq_getElem?_getD, List.getElem?_set_self (by omega)]; rfl
  have hins : ∀ i ∈ insF n.nodes id, (shapes n).getD i.toNat [] = (lay n.nodes (start n) A).1.getD i.toNat [] := fun i hi => by
    have hiA := hbe i hi
    have hi0 : 0 ≤ i ∧ i.toNat ≠ id.toNat := by
      rcases hiA with rfl | hiA
      · omega
      · have := hrg i (by simp [hiA]); have := (hnA i hiA).1; omega
    rw [hs2, lay_keep hlay _ (fun u hu => by
      have := hrg u (by simp [hu])
      intro q
      have q : u = i := by omega
      subst q
      rcases hiA with q | q
      · omega
      · exact (hnA u q).2 hu)]
    rw [List.getD_eq_getElem?_getD, List.getElem?_set_ne (by omega), ← List.getD_eq_getElem?_getD]
  have hstep : layStep n.nodes (shapes n) id = layStep n.nodes (lay n.nodes (start n) A).1 id := by
    have hp := pick_congr hins
    unfold insF at hp
    unfold layStep
    rw [hp]
  rw [hstep, hat]
  exact Prod.ext rfl hS
theorem shapes_zero {n : NetD} (h : check n = 0) : (shapes n).getD 0 [] = n.inn := by
  obtain ⟨_, _, hin, hb, hl, hlay, _⟩ := check_ok h
  have hrg : ∀ u ∈ sorted n.nodes, 1 ≤ u ∧ u ≤ n.nodes.length := Kn.order_rng _ _
  show (lay n.nodes (start n) (sorted n.nodes)).1.getD 0 [] = _
  rw [lay_keep hlay 0 (fun u hu => by have := hrg u hu; omega)]
  rfl
/-- The k-th node's output. -/
theorem shapes_node {n : NetD} (h : check n = 0) {k : Nat} (hk : k < n.nodes.length) : Od.shape n.nodes[k].op n.nodes[k].p (pick (shapes n) n.nodes[k].ins) = ((shapes n).getD (k + 1) [], 0) := by
  have := shapes_fix h (id := (k : Int) + 1) (by omega) (by omega)
  unfold layStep at this
  rw [node_at hk, show ((k : Int) + 1).toNat = k + 1 by omega] at this
  exact this
theorem shapes_all {n : NetD} (h : check n = 0) : ∀ s ∈ shapes n, Sh.right s = true := fun s hs => by
  obtain ⟨j, hj, rfl⟩ := List.getElem_of_mem hs
  have hl := shapes_len h
  have := shapes_good h (j : Int) (by omega) (by omega)
  rw [show ((j : Int)).toNat = j by omega, List.getD_eq_getElem?_getD, List.getElem?_eq_getElem hj] at this
  exact this
theorem params_right {n : NetD} (h : check n = 0) : ∀ s ∈ params n, Sh.right s = true := fun s hs => by
  obtain ⟨v, hv, hs⟩ := List.mem_flatMap.1 hs
  obtain ⟨k, hk, rfl⟩ := List.getElem_of_mem hv
  have := shapes_node h hk
  exact (Od.shape_good (by rw [this])).2.2.2.1 s hs
def words (n : NetD) : List Int := (shapes n).map Safe.prod
/-- The costs of the first k nodes. -/
def costsTo (n : NetD) (k : Nat) : List Int := (List.range k).map fun j => Od.costV (n.nodes.getD j none_).op (n.nodes.getD j none_).p ((shapes n).getD (j + 1) [])
def costs (n : NetD) : List Int := 0 :: costsTo n n.nodes.length
def total (n : NetD) : Int := Safe.sum (costs n)
theorem costsTo_succ {n : NetD} {k : Nat} (hk : k < n.nodes.length) : costsTo n (k + 1) = costsTo n k ++ [Od.costV n.nodes[k].op n.nodes[k].p ((shapes n).getD (k + 1) [])] := by
  unfold costsTo
  rw [List.range_succ, List.map_append]
  have : n.nodes.getD k none_ = n.nodes[k] := by rw [List.getD_eq_getElem?_getD, List.getElem?_eq_getElem hk]; rfl
  simp [hk]
theorem costsTo_len (n : NetD) (k : Nat) : (costsTo n k).length = k := by simp [costsTo]
theorem cost_at {n : NetD} (h : check n = 0) {k : Nat} (hk : k < n.nodes.length) : Od.cost n.nodes[k].op n.nodes[k].p (pick (shapes n) n.nodes[k].ins) = (Od.costV n.nodes[k].op n.nodes[k].p ((shapes n).getD (k + 1) []), 0) := by
  unfold Od.cost
  rw [shapes_node h hk]
  simp
theorem costs_bd {n : NetD} (h : check n = 0) (k : Nat) (hk : k ≤ n.nodes.length) : ∀ x ∈ costsTo n k, 0 ≤ x ∧ x ≤ 4294967296 := fun x hx => by
  unfold costsTo at hx
  obtain ⟨j, hj, rfl⟩ := List.mem_map.1 hx
  rw [List.mem_range] at hj
  have hjl : j < n.nodes.length := by omega
  have e : n.nodes.getD j none_ = n.nodes[j] := by rw [List.getD_eq_getElem?_getD, List.getElem?_eq_getElem hjl]; rfl
  rw [e]
  have hs := shapes_node h hjl
  have := Od.costV_bd (o := n.nodes[j].op) (p := n.nodes[j].p) (x := pick (shapes n) n.nodes[j].ins) (by rw [hs])
  rw [hs] at this
  exact this
theorem sum_bd {B : Int} : ∀ {l : List Int}, (∀ x ∈ l, 0 ≤ x ∧ x ≤ B) → 0 ≤ Safe.sum l ∧ Safe.sum l ≤ l.length * B
  | [], _ => by simp [Safe.sum]
  | a :: r, h => by
    have h1 := h a (by simp)
    have h2 := sum_bd (l := r) (B := B) fun x hx => h x (by simp [hx])
    simp only [Safe.sum, List.length_cons]
    rw [show ((r.length + 1 : Nat) : Int) * B = r.length * B + B by rw [Int.natCast_add, Int.add_mul]; simp]
    omega
theorem total_bd {n : NetD} (h : check n = 0) (hn : n.nodes.length ≤ 200) : 0 ≤ total n ∧ total n ≤ 858993459200 ∧ Safe.add (costs n) = (total n, 0) := by
  have hb := costs_bd h n.nodes.length (Nat.le_refl _)
  have hs := sum_bd hb
  rw [costsTo_len] at hs
  have e : total n = Safe.sum (costsTo n n.nodes.length) := by unfold total costs; rw [Safe.sum]; omega
  have hk : (n.nodes.length : Int) * 4294967296 ≤ 200 * 4294967296 := Int.mul_le_mul_of_nonneg_right (by omega) (by omega)
  refine ⟨by omega, by omega, ?_⟩
  unfold Safe.add
  have hall : (costs n).all Safe.ok = true := by
    rw [List.all_eq_true]
    intro x hx
    rw [Safe.ok_iff]
    rcases List.mem_cons.1 hx with rfl | hx
    · omega
    · have := hb x hx; omega
  rw [if_pos hall, if_pos (by rw [Safe.top_eq]; show total n ≤ _; omega)]
  rfl
theorem words_bd {n : NetD} (h : check n = 0) : ∀ x ∈ words n, 1 ≤ x ∧ x ≤ 65536 := fun x hx => by
  obtain ⟨s, hs, rfl⟩ := List.mem_map.1 hx
  exact Od.prod_right_ (shapes_all h s hs)
theorem words_len {n : NetD} (h : check n = 0) : (words n).length = n.nodes.length + 1 := by rw [words, List.length_map, shapes_len h]
end Nt
end Go.Proofs.YtnffjfjhbjeaiaaGreatDoor
/- The plain law of layer 17: instructions and codes. No program is named here. -/
namespace Go.Proofs.YtnffjfjhbjeaiaaGreatDoor
namespace Cd

/-- An instruction: its kind and its number. -/
abbrev Ins := Int × Int

def right (p : Ins) : Bool :=
  if p.1 == 4 || p.1 == 5 then p.2 == 0
  else (p.1 == 1 || p.1 == 2 || p.1 == 3 || p.1 == 6) && (decide (1 ≤ p.2) && decide (p.2 ≤ 512))

def check (ps : List Ins) : Int := if 65536 < ps.length then 12 else if ps.all right then 0 else 10

theorem check_many {ps : List Ins} (h : 65536 < ps.length) : check ps = 12 := by simp [check, h]
theorem check_form {ps : List Ins} (h : ¬ 65536 < ps.length) (ha : ps.all right = false) : check ps = 10 := by simp [check, h, ha]
theorem check_ok {ps : List Ins} (h : ¬ 65536 < ps.length) (ha : ps.all right = true) : check ps = 0 := by simp [check, h, ha]

theorem right_45 {p : Ins} (h : p.1 = 4 ∨ p.1 = 5) : right p = (p.2 == 0) := by
  have : (p.1 == 4 || p.1 == 5) = true := by rcases h with h | h <;> simp [h]
  simp [right, this]
theorem right_1236 {p : Ins} (h : p.1 = 1 ∨ p.1 = 2 ∨ p.1 = 3 ∨ p.1 = 6) : right p = (decide (1 ≤ p.2) && decide (p.2 ≤ 512)) := by
  rcases h with h | h | h | h <;> simp [right, h]
theorem right_other {p : Ins} (h1 : p.1 ≠ 1) (h2 : p.1 ≠ 2) (h3 : p.1 ≠ 3) (h4 : p.1 ≠ 4) (h5 : p.1 ≠ 5) (h6 : p.1 ≠ 6) : right p = false := by simp [right, *]
theorem right_bd {p : Ins} (h : right p = true) : 1 ≤ p.1 ∧ p.1 ≤ 6 ∧ 0 ≤ p.2 ∧ p.2 ≤ 512 := by
  unfold right at h
  split at h
  · rename_i h1
    simp at h1 h
    omega
  · simp at h
    omega
theorem kinds (a : Int) : (a = 4 ∨ a = 5) ∨ (a = 1 ∨ a = 2 ∨ a = 3 ∨ a = 6) ∨ (a ≠ 1 ∧ a ≠ 2 ∧ a ≠ 3 ∧ a ≠ 4 ∧ a ≠ 5 ∧ a ≠ 6) := by omega

theorem all_of {p : Ins → Bool} {ps : List Ins} (h : ps.all p = true) (k : Nat) (hk : k < ps.length) : p ps[k] = true := by
  rw [List.all_eq_true] at h
  exact h _ (List.getElem_mem hk)
theorem all_get {p : Ins → Bool} {ps : List Ins} (h : ∀ j (hj : j < ps.length), p ps[j] = true) : ps.all p = true := by
  rw [List.all_eq_true]
  intro x hx
  obtain ⟨i, hi, rfl⟩ := List.getElem_of_mem hx
  exact h i hi
theorem not_all {p : Ins → Bool} {ps : List Ins} {k : Nat} (hk : k < ps.length) (h : p ps[k] = false) : ps.all p = false := by
  rw [Bool.eq_false_iff]
  intro h2
  rw [all_of h2 k hk] at h
  cases h

/-- How many of a kind. -/
def count (kind : Int) : List Ins → Int
  | [] => 0
  | p :: r => (if p.1 == kind then 1 else 0) + count kind r
theorem count_append (kind : Int) (a b : List Ins) : count kind (a ++ b) = count kind a + count kind b := by
  induction a with
  | nil => simp [count]
  | cons x r ih => simp [count, ih]; omega
theorem count_take_succ (kind : Int) (ps : List Ins) (k : Nat) (h : k < ps.length) : count kind (ps.take (k + 1)) = count kind (ps.take k) + (if ps[k].1 == kind then 1 else 0) := by
  rw [List.take_succ_eq_append_getElem h, count_append]; simp [count]
theorem count_bd (kind : Int) (ps : List Ins) : 0 ≤ count kind ps ∧ count kind ps ≤ ps.length := by
  induction ps with
  | nil => simp [count]
  | cons x r ih => simp only [count, List.length_cons]; split <;> omega

/-- The bytes of instructions. -/
def flat (ps : List Ins) : List Int := ps.flatMap fun p => [p.1, p.2 / 256, p.2 % 256]
theorem flat_length (ps : List Ins) : (flat ps).length = 3 * ps.length := by
  induction ps with
  | nil => rfl
  | cons x r ih => simp [flat] at ih ⊢; omega
theorem flat_append (a b : List Ins) : flat (a ++ b) = flat a ++ flat b := by simp [flat]
theorem flat_take_succ (ps : List Ins) (k : Nat) (h : k < ps.length) : flat (ps.take (k + 1)) = flat (ps.take k) ++ [ps[k].1, ps[k].2 / 256, ps[k].2 % 256] := by
  rw [List.take_succ_eq_append_getElem h, flat_append]; simp [flat]
def bytes (ps : List Ins) : List Int := if check ps = 0 then flat ps else []
theorem bytes_ok {ps : List Ins} (h : check ps = 0) : bytes ps = flat ps := by simp [bytes, h]
theorem bytes_bad {ps : List Ins} (h : check ps ≠ 0) : bytes ps = [] := by simp [bytes, h]
theorem check_zero {ps : List Ins} (h : check ps = 0) : ps.length ≤ 65536 ∧ ps.all right = true := by
  unfold check at h
  split at h
  · simp at h
  · split at h
    · exact ⟨by omega, by assumption⟩
    · simp at h
theorem check_cases (ps : List Ins) : check ps = 0 ∨ check ps = 10 ∨ check ps = 12 := by unfold check; split <;> (try split) <;> simp

/-- What is reckoned, and its cost. -/
def reck (p : Ins) : Bool := p.1 == 1 || p.1 == 2
def costOk (cost : List Int) (p : Ins) : Bool := decide (p.2 < cost.length) && Safe.ok (cost.getD p.2.toNat 0)
def costList (cost : List Int) (ps : List Ins) : List Int := (ps.filter reck).map fun p => cost.getD p.2.toNat 0
def fine (cost : List Int) (p : Ins) : Bool := !reck p || costOk cost p
def costs (ps : List Ins) (cost : List Int) : Int × Int :=
  if check ps = 0 then (if ps.all (fine cost) then (if Safe.sum (costList cost ps) ≤ Safe.top then (Safe.sum (costList cost ps), 0) else (0, 12)) else (0, 10)) else (0, check ps)
theorem costs_bad {ps : List Ins} (h : check ps ≠ 0) (cost : List Int) : costs ps cost = (0, check ps) := by simp [costs, h]
theorem costs_form {ps : List Ins} {cost : List Int} (h : check ps = 0) (h1 : ps.all (fine cost) = false) : costs ps cost = (0, 10) := by simp [costs, h, h1]
theorem costs_many {ps : List Ins} {cost : List Int} (h : check ps = 0) (h1 : ps.all (fine cost) = true) (h2 : ¬ Safe.sum (costList cost ps) ≤ Safe.top) : costs ps cost = (0, 12) := by simp [costs, h, h1, h2]
theorem costs_sum {ps : List Ins} {cost : List Int} (h : check ps = 0) (h1 : ps.all (fine cost) = true) (h2 : Safe.sum (costList cost ps) ≤ Safe.top) : costs ps cost = (Safe.sum (costList cost ps), 0) := by simp [costs, h, h1, h2]
theorem costList_take_skip (cost : List Int) (ps : List Ins) (k : Nat) (h : k < ps.length) (hr : reck ps[k] = false) : costList cost (ps.take (k + 1)) = costList cost (ps.take k) := by
  rw [List.take_succ_eq_append_getElem h, costList, List.filter_append, List.map_append]; simp [costList, hr]
theorem costList_take_add (cost : List Int) (ps : List Ins) (k : Nat) (h : k < ps.length) (hr : reck ps[k] = true) : costList cost (ps.take (k + 1)) = costList cost (ps.take k) ++ [cost.getD ps[k].2.toNat 0] := by
  rw [List.take_succ_eq_append_getElem h, costList, List.filter_append, List.map_append]; simp [costList, hr]
theorem costList_le (cost : List Int) (ps : List Ins) : (costList cost ps).length ≤ ps.length := by
  simp [costList]; exact List.length_filter_le _ _
theorem costList_ok {cost : List Int} {ps : List Ins} (h : ps.all (fine cost) = true) : (costList cost ps).all Safe.ok = true := by
  rw [List.all_eq_true] at h ⊢
  intro x hx
  simp only [costList, List.mem_map, List.mem_filter] at hx
  obtain ⟨p, ⟨hp, hr⟩, rfl⟩ := hx
  have := h p hp
  simp [fine, hr, costOk] at this
  simpa using this.2

/-- The instructions of bytes. -/
def insAt (zs : List Int) (k : Nat) : Ins := (zs.getD (3 * k) 0, zs.getD (3 * k + 1) 0 * 256 + zs.getD (3 * k + 2) 0)
def groupTo (zs : List Int) (k : Nat) : List Ins := (List.range k).map (insAt zs)
theorem groupTo_length (zs : List Int) (k : Nat) : (groupTo zs k).length = k := by simp [groupTo]
theorem groupTo_succ (zs : List Int) (k : Nat) : groupTo zs (k + 1) = groupTo zs k ++ [insAt zs k] := by simp [groupTo, List.range_succ]
def group (zs : List Int) : List Ins := groupTo zs (zs.length / 3)
def parse (zs : List Int) : List Ins × Int :=
  if zs.length % 3 = 0 then (if 65536 < zs.length / 3 then ([], 12) else if check (group zs) = 0 then (group zs, 0) else ([], check (group zs))) else ([], 16)
theorem parse_short {zs : List Int} (h : ¬ zs.length % 3 = 0) : parse zs = ([], 16) := by simp [parse, h]
theorem parse_many {zs : List Int} (h : zs.length % 3 = 0) (h1 : 65536 < zs.length / 3) : parse zs = ([], 12) := by simp [parse, h, h1]
theorem parse_bad {zs : List Int} (h : zs.length % 3 = 0) (h1 : ¬ 65536 < zs.length / 3) (h2 : ¬ check (group zs) = 0) : parse zs = ([], check (group zs)) := by simp [parse, h, h1, h2]
theorem parse_ok {zs : List Int} (h : zs.length % 3 = 0) (h1 : ¬ 65536 < zs.length / 3) (h2 : check (group zs) = 0) : parse zs = (group zs, 0) := by simp [parse, h, h1, h2]

theorem flat_at (ps : List Ins) : ∀ (k : Nat) (h : k < ps.length), (flat ps).getD (3 * k) 0 = ps[k].1 ∧ (flat ps).getD (3 * k + 1) 0 = ps[k].2 / 256 ∧ (flat ps).getD (3 * k + 2) 0 = ps[k].2 % 256 := by
  induction ps with
  | nil => intro k h; simp at h
  | cons x r ih =>
    intro k h
    rcases k with _ | k
    · simp [flat]
    · have := ih k (by simpa using h)
      have e1 : 3 * (k + 1) = 3 * k + 1 + 1 + 1 := by omega
      rw [e1]
      simpa [flat] using this
theorem insAt_flat (ps : List Ins) (k : Nat) (h : k < ps.length) : insAt (flat ps) k = ps[k] := by
  have ⟨a, b, c⟩ := flat_at ps k h
  unfold insAt
  rw [a, b, c]
  exact Prod.ext rfl (by simp only; omega)
theorem group_flat (ps : List Ins) : group (flat ps) = ps := by
  unfold group groupTo
  rw [flat_length, Nat.mul_div_cancel_left _ (by decide)]
  apply List.ext_getElem
  · simp
  · intro i h1 h2
    simp only [List.getElem_map, List.getElem_range]
    exact insAt_flat ps i h2
theorem parse_flat {ps : List Ins} (h : check ps = 0) : parse (flat ps) = (ps, 0) := by
  have hl := (check_zero h).1
  have hf := flat_length ps
  rw [parse_ok (by omega) (by omega) (by rw [group_flat]; exact h), group_flat]
theorem flat_byte {ps : List Ins} (h : ps.all right = true) : ∀ n ∈ flat ps, 0 ≤ n ∧ n ≤ 255 := by
  intro n hn
  rw [List.all_eq_true] at h
  simp only [flat, List.mem_flatMap] at hn
  obtain ⟨p, hp, hn⟩ := hn
  have ⟨a, b, c, d⟩ := right_bd (h p hp)
  simp only [List.mem_cons, List.mem_nil_iff, or_false] at hn
  rcases hn with rfl | rfl | rfl <;> omega

theorem flat_groupTo (zs : List Int) (hb : ∀ n ∈ zs, 0 ≤ n ∧ n ≤ 255) : ∀ k, 3 * k ≤ zs.length → flat (groupTo zs k) = zs.take (3 * k) := by
  intro k
  induction k with
  | zero => intro _; simp [groupTo, flat]
  | succ k ih =>
    intro h
    have h0 : 3 * k < zs.length := by omega
    have h1 : 3 * k + 1 < zs.length := by omega
    have h2 : 3 * k + 2 < zs.length := by omega
    have b1 := hb _ (List.getElem_mem h1)
    have b2 := hb _ (List.getElem_mem h2)
    rw [groupTo_succ, flat_append, ih (by omega)]
    have e : 3 * (k + 1) = 3 * k + 1 + 1 + 1 := by omega
    rw [e, List.take_succ_eq_append_getElem h2, List.take_succ_eq_append_getElem h1, List.take_succ_eq_append_getElem h0]
    have d1 : (zs[3 * k + 1] * 256 + zs[3 * k + 2]) / 256 = zs[3 * k + 1] := by omega
    have d2 : (zs[3 * k + 1] * 256 + zs[3 * k + 2]) % 256 = zs[3 * k + 2] := by omega
    have g0 : zs.getD (3 * k) 0 = zs[3 * k] := by simp [h0]
    have g1 : zs.getD (3 * k + 1) 0 = zs[3 * k + 1] := by simp [h1]
    have g2 : zs.getD (3 * k + 2) 0 = zs[3 * k + 2] := by simp [h2]
    have hf : flat [insAt zs k] = [zs[3 * k], zs[3 * k + 1], zs[3 * k + 2]] := by
      show [(insAt zs k).1, (insAt zs k).2 / 256, (insAt zs k).2 % 256] ++ [] = _
      simp only [insAt, g0, g1, g2, d1, d2, List.append_nil]
    rw [hf]
    simp only [List.append_assoc, List.cons_append, List.nil_append]
theorem flat_group {zs : List Int} (h3 : zs.length % 3 = 0) (hb : ∀ n ∈ zs, 0 ≤ n ∧ n ≤ 255) : flat (group zs) = zs := by
  unfold group
  rw [flat_groupTo zs hb _ (by omega), show 3 * (zs.length / 3) = zs.length by omega, List.take_length]
theorem group_length (zs : List Int) : (group zs).length = zs.length / 3 := groupTo_length _ _
theorem group_get (zs : List Int) (k : Nat) (h : k < (group zs).length) : (group zs)[k] = insAt zs k := by
  simp [group, groupTo]
end Cd
end Go.Proofs.YtnffjfjhbjeaiaaGreatDoor
/- The plain law of layer 18: what a plan has, instruction by instruction. -/
namespace Go.Proofs.YtnffjfjhbjeaiaaGreatDoor
/-- What a plan stands on. -/
structure CkN where
  words : List Int
  cost : List Int
  ins : List (List Int)
  order : List Int
  loss : Int
  cap : Int
/-- What it has. -/
structure CkS where
  pres : List Bool
  sav : List Bool
  grad : List Bool
  em : Bool
  sd : Bool
  done : Nat
  now : Int
  peak : Int
namespace Ck
def at_ (l : List Bool) (id : Int) : Bool := l.getD id.toNat false
def wd (c : CkN) (id : Int) : Int := c.words.getD id.toNat 0
def insF (c : CkN) (id : Int) : List Int := c.ins.getD id.toNat []
def ready (c : CkN) (s : CkS) (id : Int) : Bool := (insF c id).all fun i => at_ s.pres i
def back (c : CkN) (s : CkS) (id : Int) : Bool := decide (s.done < c.order.length ∧ c.order.getD (c.order.length - 1 - s.done) 0 = id)
def legal (c : CkN) (s : CkS) (k id : Int) : Bool :=
  if k = 1 then !at_ s.sav id && ready c s id
  else if k = 2 then at_ s.sav id && (!at_ s.pres id && ready c s id)
  else if k = 3 then at_ s.pres id
  else if k = 4 then at_ s.pres c.loss && !s.em
  else if k = 5 then !s.sd
  else if k = 6 then at_ s.grad id && (ready c s id && back c s id)
  else false
def freshGo (g : List Bool) : List Int → List Int → List Int
  | acc, [] => acc
  | acc, i :: r => if i ≠ 0 ∧ at_ g i = false ∧ acc.contains i = false then freshGo g (acc ++ [i]) r else freshGo g acc r
def fresh (c : CkN) (s : CkS) (id : Int) : List Int := freshGo s.grad [] (insF c id)
def sumW (c : CkN) (l : List Int) : Int := (l.map (wd c)).sum
def more (c : CkN) (s : CkS) (k id : Int) : Int :=
  if k = 1 ∨ k = 2 then wd c id else if k = 5 then wd c c.loss else if k = 6 then sumW c (fresh c s id) else 0
def setB (l : List Bool) (id : Int) (b : Bool) : List Bool := l.set id.toNat b
def sets (l : List Bool) (ids : List Int) : List Bool := ids.foldl (fun l i => setB l i true) l
/-- A legal instruction that has room, n words then. -/
def act (c : CkN) (s : CkS) (k id n : Int) : CkS :=
  if k = 1 ∨ k = 2 then { s with pres := setB s.pres id true, sav := setB s.sav id true, now := n, peak := max s.peak n }
  else if k = 3 then { s with pres := setB s.pres id false, now := n - wd c id, peak := max s.peak n }
  else if k = 4 then { s with em := true, now := n, peak := max s.peak n }
  else if k = 5 then { s with sd := true, grad := setB s.grad c.loss true, now := n, peak := max s.peak n }
  else if k = 6 then { s with grad := setB (sets s.grad (fresh c s id)) id false, now := n - wd c id, peak := max s.peak n, done := s.done + 1 }
  else { s with now := n, peak := max s.peak n }
def do_ (c : CkN) (s : CkS) (k id : Int) : CkS × Int :=
  if Cd.right (k, id) = false ∨ (c.words.length : Int) ≤ id then (s, 10)
  else if legal c s k id = false then (s, 24)
  else if c.cap < s.now + more c s k id then (s, 25)
  else (act c s k id (s.now + more c s k id), 0)
def go (c : CkN) : CkS → List (Int × Int) → CkS × Int
  | s, [] => (s, 0)
  | s, i :: r => if (do_ c s i.1 i.2).2 = 0 then go c (do_ c s i.1 i.2).1 r else do_ c s i.1 i.2
def whole (c : CkN) (s : CkS) : Bool := s.em && decide (s.done = c.order.length)
def start (m : Nat) : CkS := ⟨(List.replicate m false).set 0 true, List.replicate m false, List.replicate m false, false, false, 0, 0, 0⟩
def base (n : NetD) (cap : Int) : CkN := ⟨Nt.words n, Nt.costs n, [] :: n.nodes.map (·.ins), Nt.sorted n.nodes, Nt.loss n.nodes, cap⟩
/-- Stats: peak, cost, again, high; and an error. -/
def run (n : NetD) (ps : List (Int × Int)) (cap : Int) : (Int × Int × Int × Int) × Int :=
  if Nt.check n ≠ 0 then ((0, 0, 0, 0), Nt.check n)
  else if Cd.check ps ≠ 0 then ((0, 0, 0, 0), Cd.check ps)
  else if (go (base n cap) (start (n.nodes.length + 1)) ps).2 ≠ 0 then ((0, 0, 0, 0), (go (base n cap) (start (n.nodes.length + 1)) ps).2)
  else if whole (base n cap) (go (base n cap) (start (n.nodes.length + 1)) ps).1 = false then ((0, 0, 0, 0), 28)
  else if (Cd.costs ps (Nt.costs n)).2 ≠ 0 then ((0, 0, 0, 0), (Cd.costs ps (Nt.costs n)).2)
  else (((go (base n cap) (start (n.nodes.length + 1)) ps).1.peak, (Cd.costs ps (Nt.costs n)).1, Cd.count 2 ps, max (go (base n cap) (start (n.nodes.length + 1)) ps).1.peak (Safe.max ((Nt.words n).drop 1))), 0)
theorem go_snoc (c : CkN) (s : CkS) (a : List (Int × Int)) (i : Int × Int) (h : (go c s a).2 = 0) : go c s (a ++ [i]) = do_ c (go c s a).1 i.1 i.2 := by
  induction a generalizing s with
  | nil =>
    simp only [List.nil_append, go]
    split
    · rename_i h0; rw [← h0]
    · rfl
  | cons x r ih =>
    simp only [List.cons_append, go] at h ⊢
    split
    · rename_i h0; rw [if_pos h0] at h; exact ih _ h
    · rename_i h0; rw [if_neg h0] at h; exact absurd h h0
theorem go_fail (c : CkN) (s : CkS) (a b : List (Int × Int)) (h : (go c s a).2 ≠ 0) : go c s (a ++ b) = go c s a := by
  induction a generalizing s with
  | nil => exact absurd rfl h
  | cons x r ih =>
    simp only [List.cons_append, go] at h ⊢
    split
    · rename_i h0; rw [if_pos h0] at h; exact ih _ h
    · rfl
def cp (c : CkN) (cap : Int) : CkN := { c with cap := cap }
theorem act_cp (c : CkN) (cap : Int) (s : CkS) (k id n : Int) : act (cp c cap) s k id n = act c s k id n := rfl
theorem do_cp (c : CkN) (cap : Int) (s : CkS) (k id : Int) : do_ (cp c cap) s k id = if Cd.right (k, id) = false ∨ (c.words.length : Int) ≤ id then (s, 10)
  else if legal c s k id = false then (s, 24)
  else if cap < s.now + more c s k id then (s, 25)
  else (act c s k id (s.now + more c s k id), 0) := rfl
theorem peak_act (c : CkN) (s : CkS) (k id n : Int) : (act c s k id n).peak = max s.peak n := by unfold act; (repeat' split) <;> rfl
/-- What goes goes within every cap that its peak keeps, and only there. -/
theorem go_peak (c : CkN) (cap : Int) : ∀ (ps : List (Int × Int)) (s : CkS), (go c s ps).2 = 0 → s.peak ≤ (go c s ps).1.peak ∧ ((go c s ps).1.peak ≤ cap → go (cp c cap) s ps = go c s ps) ∧ (s.peak ≤ cap → cap < (go c s ps).1.peak → (go (cp c cap) s ps).2 = 25) ∧ (s.peak ≤ c.cap → (go c s ps).1.peak ≤ c.cap)
  | [], s, _ => ⟨Int.le_refl _, fun _ => rfl, fun h1 h2 => absurd h2 (by simp [go]; omega), fun h => h⟩
  | i :: r, s, h => by
    have hd : (do_ c s i.1 i.2).2 = 0 := by
      simp only [go] at h
      split at h
      · assumption
      · rename_i h0; exact absurd h h0
    have e : go c s (i :: r) = go c (do_ c s i.1 i.2).1 r := by simp only [go]; rw [if_pos hd]
    rw [e] at h ⊢
    have hq := hd
    unfold do_ at hq
    split at hq
    · simp at hq
    · rename_i h1
      split at hq
      · simp at hq
      · rename_i h2
        split at hq
        · simp at hq
        · rename_i h3
          have ea : do_ c s i.1 i.2 = (act c s i.1 i.2 (s.now + more c s i.1 i.2), 0) := by unfold do_; rw [if_neg h1, if_neg h2, if_neg h3]
          rw [ea] at h ⊢
          obtain ⟨i1, i2, i3, i4⟩ := go_peak c cap r _ h
          rw [peak_act] at i1 i3 i4
          refine ⟨by simp only at i1 ⊢; omega, fun hc => ?_, fun hs hc => ?_, fun hs => i4 (by omega)⟩
          · have hdc : do_ (cp c cap) s i.1 i.2 = (act c s i.1 i.2 (s.now + more c s i.1 i.2), 0) := by
              rw [do_cp, if_neg h1, if_neg h2, if_neg (by simp only at i1 hc; omega)]
            simp only [go]
            rw [hdc, if_pos rfl]
            exact i2 hc
          · by_cases hm : cap < s.now + more c s i.1 i.2
            · have hdc : do_ (cp c cap) s i.1 i.2 = (s, 25) := by
                rw [do_cp, if_neg h1, if_neg h2, if_pos hm]
              simp only [go]
              rw [hdc, if_neg (by simp)]
            · have hdc : do_ (cp c cap) s i.1 i.2 = (act c s i.1 i.2 (s.now + more c s i.1 i.2), 0) := by
                rw [do_cp, if_neg h1, if_neg h2, if_neg hm]
              simp only [go]
              rw [hdc, if_pos rfl]
              exact i3 (by omega) hc
end Ck
end Go.Proofs.YtnffjfjhbjeaiaaGreatDoor
/- The document's answer for layer 18, in plain Lean: what is there as lists; it tells the same as the rows of bools. -/
namespace Go.Proofs.YtnffjfjhbjeaiaaGreatDoor
structure RfS where
  there : List Int
  saved : List Int
  grads : List Int
  em : Int
  sd : Int
  done : Int
  peak : Int
namespace Rf
def with_ (l : List Int) (z : Int) : List Int := if l.contains z then l else l ++ [z]
def without (l : List Int) (z : Int) : List Int := l.filter fun y => decide (y ≠ z)
def tw (c : CkN) (z : Int) : Int := if z = 0 then 0 else Ck.wd c z
def sumF (f : Int → Int) (l : List Int) : Int := (l.map f).sum
def sum (c : CkN) (x : RfS) : Int := sumF (tw c) x.there + sumF (Ck.wd c) x.grads
def ready (c : CkN) (x : RfS) (id : Int) : Bool := (Ck.insF c id).all fun i => x.there.contains i
def gr (l ins : List Int) : List Int := ins.foldl (fun g i => if i ≠ 0 then with_ g i else g) l
def back (c : CkN) (x : RfS) (id : Int) : Bool := decide (0 ≤ (c.order.length : Int) - 1 - x.done) && decide (c.order.getD ((c.order.length : Int) - 1 - x.done).toNat 0 = id)
def legal (c : CkN) (x : RfS) (k id : Int) : Bool :=
  if k = 1 ∨ k = 2 then (x.saved.contains id == decide (k = 2)) && (!x.there.contains id && ready c x id)
  else if k = 3 then x.there.contains id
  else if k = 4 then x.there.contains c.loss && !decide (x.em = 1)
  else if k = 5 then !decide (x.sd = 1)
  else if k = 6 then x.grads.contains id && (ready c x id && back c x id)
  else true
def step (c : CkN) (x : RfS) (k id : Int) : RfS :=
  if k = 1 ∨ k = 2 then { x with there := with_ x.there id, saved := with_ x.saved id }
  else if k = 3 then { x with there := without x.there id }
  else if k = 4 then { x with em := 1 }
  else if k = 5 then { x with sd := 1, grads := with_ x.grads c.loss }
  else if k = 6 then { x with grads := gr x.grads (Ck.insF c id), done := x.done + 1 }
  else x
def fin (c : CkN) (y : RfS) (k id : Int) : RfS :=
  { y with peak := if y.peak < sum c y then sum c y else y.peak, grads := if k = 6 then without y.grads id else y.grads }
def do_ (c : CkN) (x : RfS) (k id : Int) : RfS × Int :=
  if (c.words.length : Int) ≤ id then (x, 10)
  else if legal c x k id = false then (x, 24)
  else if c.cap < sum c (step c x k id) then (x, 25)
  else (fin c (step c x k id) k id, 0)
def start : RfS := ⟨[0], [], [], 0, 0, 0, 0⟩
def go (c : CkN) : RfS → List (Int × Int) → RfS × Int
  | x, [] => (x, 0)
  | x, i :: r => if (do_ c x i.1 i.2).2 = 0 then go c (do_ c x i.1 i.2).1 r else do_ c x i.1 i.2
end Rf
/-- A row of bools and a list tell the same. -/
structure LRel (L : Nat) (b : List Bool) (l : List Int) : Prop where
  len : b.length = L
  rng : ∀ z ∈ l, 0 ≤ z ∧ z < L
  nod : l.Nodup
  iff : ∀ z : Int, 0 ≤ z → z < L → (Ck.at_ b z = true ↔ z ∈ l)
namespace LRel
variable {L : Nat} {b : List Bool} {l : List Int}
theorem at_ (h : LRel L b l) {z : Int} (h0 : 0 ≤ z) (h1 : z < L) : Ck.at_ b z = l.contains z := by
  have := h.iff z h0 h1
  rw [Bool.eq_iff_iff, this]
  simp
theorem set_at (h : b.length = L) {z y : Int} (h0 : 0 ≤ z) (h1 : z < L) (g0 : 0 ≤ y) (v : Bool) : Ck.at_ (Ck.setB b z v) y = if y = z then v else Ck.at_ b y := by
  unfold Ck.at_ Ck.setB
  rw [List.getD_eq_getElem?_getD, List.getD_eq_getElem?_getD, List.getElem?_set]
  by_cases e : y = z
  · subst e
    have : y.toNat < b.length := by omega
    simp [this]
  · have : ¬ z.toNat = y.toNat := by omega
    rw [if_neg this, if_neg e]
theorem put (h : LRel L b l) {z : Int} (h0 : 0 ≤ z) (h1 : z < L) (hn : z ∉ l) : LRel L (Ck.setB b z true) (l ++ [z]) := by
  refine ⟨by rw [Ck.setB, List.length_set]; exact h.len, fun y hy => ?_, ?_, fun y g0 g1 => ?_⟩
  · rcases List.mem_append.1 hy with hy | hy
    · exact h.rng y hy
    · simp at hy; subst hy; exact ⟨h0, h1⟩
  · rw [List.nodup_append]
    refine ⟨h.nod, by simp, fun a ha b hb e => ?_⟩
    simp at hb; subst hb; subst e; exact hn ha
  · rw [set_at h.len h0 h1 g0]
    by_cases e : y = z
    · subst e; simp
    · rw [if_neg e, h.iff y g0 g1]; simp [e]
theorem with_ (h : LRel L b l) {z : Int} (h0 : 0 ≤ z) (h1 : z < L) : LRel L (Ck.setB b z true) (Rf.with_ l z) := by
  unfold Rf.with_
  split
  · rename_i hc
    have hm : z ∈ l := by simpa using hc
    refine ⟨by rw [Ck.setB, List.length_set]; exact h.len, h.rng, h.nod, fun y g0 g1 => ?_⟩
    rw [set_at h.len h0 h1 g0]
    by_cases e : y = z
    · subst e; simpa using hm
    · rw [if_neg e]; exact h.iff y g0 g1
  · rename_i hc
    exact h.put h0 h1 (by simpa using hc)
theorem without (h : LRel L b l) {z : Int} (h0 : 0 ≤ z) (h1 : z < L) : LRel L (Ck.setB b z false) (Rf.without l z) := by
  refine ⟨by rw [Ck.setB, List.length_set]; exact h.len, fun y hy => h.rng y (List.mem_filter.1 hy).1, h.nod.filter _, fun y g0 g1 => ?_⟩
  rw [set_at h.len h0 h1 g0]
  by_cases e : y = z
  · subst e; simp [Rf.without]
  · rw [if_neg e, h.iff y g0 g1]; simp [Rf.without, e]
theorem sets : ∀ (f : List Int) {b : List Bool} {l : List Int}, LRel L b l → f.Nodup → (∀ z ∈ f, (0 ≤ z ∧ z < L) ∧ z ∉ l) → LRel L (Ck.sets b f) (l ++ f)
  | [], b, l, h, _, _ => by simpa [Ck.sets] using h
  | z :: r, b, l, h, hn, hf => by
    have hz := hf z (by simp)
    rw [List.nodup_cons] at hn
    have hp := h.put hz.1.1 hz.1.2 hz.2
    have := sets r hp hn.2 (fun y hy => by
      have h1 := hf y (by simp [hy])
      refine ⟨h1.1, fun hm => ?_⟩
      rcases List.mem_append.1 hm with hm | hm
      · exact h1.2 hm
      · simp at hm; subst hm; exact hn.1 hy)
    rw [List.append_assoc] at this
    exact this
end LRel
namespace Rf
theorem sumF_snoc (f : Int → Int) (l : List Int) (z : Int) : sumF f (l ++ [z]) = sumF f l + f z := by simp [sumF]
theorem sumF_app (f : Int → Int) (a b : List Int) : sumF f (a ++ b) = sumF f a + sumF f b := by simp [sumF]
theorem sumF_with (f : Int → Int) {l : List Int} {z : Int} (h : z ∉ l) : sumF f (with_ l z) = sumF f l + f z := by
  unfold with_; rw [if_neg (by simpa using h)]; exact sumF_snoc f l z
theorem without_not {l : List Int} {z : Int} (h : z ∉ l) : without l z = l := by
  unfold without
  rw [List.filter_eq_self]
  intro y hy
  simp only [decide_eq_true_eq]
  intro e; subst e; exact h hy
theorem sumF_without (f : Int → Int) : ∀ {l : List Int} {z : Int}, l.Nodup → z ∈ l → sumF f (without l z) = sumF f l - f z
  | y :: r, z, hn, hm => by
    rw [List.nodup_cons] at hn
    by_cases e : y = z
    · subst e
      have : without (y :: r) y = without r y := by simp [without]
      rw [this, without_not hn.1]
      simp [sumF]; omega
    · have hm' : z ∈ r := by
        rcases List.mem_cons.1 hm with e' | h
        · exact absurd e'.symm e
        · exact h
      have e2 : without (y :: r) z = y :: without r z := by simp [without, e]
      have ih := sumF_without f hn.2 hm'
      rw [e2]
      simp only [sumF, List.map_cons, List.sum_cons] at ih ⊢
      omega
theorem length_without : ∀ {l : List Int} {z : Int}, l.Nodup → z ∈ l → (without l z).length + 1 = l.length
  | y :: r, z, hn, hm => by
    rw [List.nodup_cons] at hn
    by_cases e : y = z
    · subst e
      have : without (y :: r) y = without r y := by simp [without]
      rw [this, without_not hn.1]
      simp
    · have hm' : z ∈ r := by
        rcases List.mem_cons.1 hm with e' | h
        · exact absurd e'.symm e
        · exact h
      have e2 : without (y :: r) z = y :: without r z := by simp [without, e]
      have ih := length_without hn.2 hm'
      rw [e2]
      simp only [List.length_cons]
      omega
theorem sumF_nn {f : Int → Int} (h : ∀ z, 0 ≤ f z) : ∀ l : List Int, 0 ≤ sumF f l
  | [] => by simp [sumF]
  | x :: r => by
    have h1 := h x
    have h2 := sumF_nn h r
    simp only [sumF, List.map_cons, List.sum_cons] at h2 ⊢
    omega
theorem sumF_one {f : Int → Int} (h : ∀ z, 0 ≤ f z) {l : List Int} {z : Int} (hz : z ∈ l) : f z ≤ sumF f l := by
  induction l with
  | nil => cases hz
  | cons x r ih =>
    have h1 := h x
    have h2 := sumF_nn h r
    simp only [sumF, List.map_cons, List.sum_cons] at h2 ih ⊢
    rcases List.mem_cons.1 hz with e | hz
    · subst e; omega
    · have := ih hz; omega
/-- A list of different numbers below a bound is short. -/
theorem nodup_len : ∀ (n : Nat) (l : List Int), l.Nodup → (∀ z ∈ l, 0 ≤ z ∧ z < n) → l.length ≤ n
  | 0, l, _, h => by
    match l, h with
    | [], _ => simp
    | x :: r, h => have := h x (by simp); omega
  | n + 1, l, hn, h => by
    by_cases hm : (n : Int) ∈ l
    · have h1 := length_without hn hm
      have := nodup_len n (without l n) (hn.filter _) (fun z hz => by
        have h2 := List.mem_filter.1 hz
        have h3 := h z h2.1
        have h4 := h2.2
        simp only [decide_eq_true_eq] at h4
        omega)
      omega
    · have := nodup_len n l hn (fun z hz => by
        have h3 := h z hz
        have : z ≠ n := fun e => hm (e ▸ hz)
        omega)
      omega
theorem gr_fresh {g : List Bool} {l : List Int} {L : Nat} (h : LRel L g l) : ∀ (ins acc : List Int), (∀ i ∈ ins, 0 ≤ i ∧ i < L) → gr (l ++ acc) ins = l ++ Ck.freshGo g acc ins
  | [], acc, _ => by simp [gr, Ck.freshGo]
  | i :: r, acc, hi => by
    have h1 := hi i (by simp)
    have hr : ∀ i ∈ r, 0 ≤ i ∧ i < L := fun z hz => hi z (by simp [hz])
    have ha := h.at_ h1.1 h1.2
    show gr (if i ≠ 0 then with_ (l ++ acc) i else l ++ acc) r = _
    unfold Ck.freshGo
    by_cases h0 : i = 0
    · rw [if_neg (by simpa using h0), if_neg (by simp [h0])]
      exact gr_fresh h r acc hr
    · rw [if_pos h0]
      unfold with_
      by_cases hl : l.contains i = true
      · have : (l ++ acc).contains i = true := by simp at hl ⊢; exact .inl hl
        rw [if_pos this, if_neg (by rw [ha, hl]; simp)]
        exact gr_fresh h r acc hr
      · by_cases hc : acc.contains i = true
        · have : (l ++ acc).contains i = true := by simp at hc ⊢; exact .inr hc
          rw [if_pos this, if_neg (by rw [hc]; simp)]
          exact gr_fresh h r acc hr
        · have : ¬ (l ++ acc).contains i = true := by simp at hl hc ⊢; exact ⟨hl, hc⟩
          rw [if_neg this, if_pos ⟨h0, by rw [ha]; simpa using hl, by simpa using hc⟩, List.append_assoc]
          exact gr_fresh h r (acc ++ [i]) hr
theorem fresh_facts {g : List Bool} {l : List Int} {L : Nat} (h : LRel L g l) : ∀ (ins acc : List Int), (∀ i ∈ ins, 0 ≤ i ∧ i < L) → acc.Nodup → (∀ z ∈ acc, (0 ≤ z ∧ z < L) ∧ z ∉ l ∧ z ≠ 0) → (Ck.freshGo g acc ins).Nodup ∧ ∀ z ∈ Ck.freshGo g acc ins, (0 ≤ z ∧ z < L) ∧ z ∉ l ∧ z ≠ 0
  | [], acc, _, h1, h2 => ⟨h1, h2⟩
  | i :: r, acc, hi, h1, h2 => by
    have hb := hi i (by simp)
    have hr : ∀ i ∈ r, 0 ≤ i ∧ i < L := fun z hz => hi z (by simp [hz])
    unfold Ck.freshGo
    split
    · rename_i hc
      obtain ⟨c1, c2, c3⟩ := hc
      refine fresh_facts h r _ hr ?_ ?_
      · rw [List.nodup_append]
        refine ⟨h1, by simp, fun a ha b hb e => ?_⟩
        simp at hb; subst hb; subst e; simp at c3; exact c3 ha
      · intro z hz
        rcases List.mem_append.1 hz with hz | hz
        · exact h2 z hz
        · simp at hz; subst hz
          refine ⟨hb, ?_, c1⟩
          rw [h.at_ hb.1 hb.2] at c2
          simpa using c2
    · exact fresh_facts h r acc hr h1 h2
end Rf
end Go.Proofs.YtnffjfjhbjeaiaaGreatDoor
/- The plain law of layer 21: a net is lowered with rows of bools as the document does it with lists. -/
namespace Go.Proofs.YtnffjfjhbjeaiaaGreatDoor
/-- A lowering: what is present, and the code so far. -/
structure RtS where
  pres : List Bool
  code : List (Int × Int)
/-- The document's: what is there, and the code so far. -/
structure RtD where
  there : List Int
  code : List (Int × Int)
namespace Rt
def add (k id : Int) (s : RtS) : RtS := ⟨s.pres, s.code ++ [(k, id)]⟩
def comp (k id : Int) (s : RtS) : RtS := ⟨Ck.setB s.pres id true, s.code ++ [(k, id)]⟩
def drop (id : Int) (s : RtS) : RtS := ⟨Ck.setB s.pres id false, s.code ++ [(3, id)]⟩
/-- The numbers 1 to_ m are swept. -/
def sweep (f : Int → Bool) : Nat → RtS → RtS
  | 0, s => s
  | m + 1, s => if Ck.at_ (sweep f m s).pres ((m : Int) + 1) && f ((m : Int) + 1) then drop ((m : Int) + 1) (sweep f m s) else sweep f m s
def fetch (I : Int → List Int) : Nat → Int → RtS → RtS
  | 0, _, s => s
  | m + 1, id, s => if Ck.at_ s.pres id then s else comp 2 id ((I id).foldl (fun s i => fetch I m i s) s)
def addD (k id : Int) (x : RtD) : RtD := ⟨x.there, x.code ++ [(k, id)]⟩
def compD (k id : Int) (x : RtD) : RtD := ⟨x.there ++ [id], x.code ++ [(k, id)]⟩
def dropD (id : Int) (x : RtD) : RtD := ⟨Rf.without x.there id, x.code ++ [(3, id)]⟩
def sweepD (g : Int → Bool) : Nat → RtD → RtD
  | 0, x => x
  | m + 1, x => if (sweepD g m x).there.contains ((m : Int) + 1) && g ((m : Int) + 1) then dropD ((m : Int) + 1) (sweepD g m x) else sweepD g m x
def fetchD (I : Int → List Int) : Nat → Int → RtD → RtD
  | 0, _, x => x
  | m + 1, id, x => if id = 0 ∨ x.there.contains id = true then x else compD 2 id ((I id).foldl (fun x i => fetchD I m i x) x)
/-- Both tell the same. -/
structure Rel (L : Nat) (s : RtS) (x : RtD) : Prop where
  len : s.pres.length = L
  zero : Ck.at_ s.pres 0 = true
  iff : ∀ z : Int, 1 ≤ z → z < L → Ck.at_ s.pres z = x.there.contains z
  nod : x.there.Nodup
  rng : ∀ z ∈ x.there, 1 ≤ z ∧ z < L
  code : s.code = x.code
section
variable {L : Nat} {s : RtS} {x : RtD}
theorem Rel.add (h : Rel L s x) (k id : Int) : Rel L (add k id s) (addD k id x) := ⟨h.len, h.zero, h.iff, h.nod, h.rng, by show s.code ++ _ = x.code ++ _; rw [h.code]⟩
theorem Rel.comp (h : Rel L s x) (k : Int) {id : Int} (h1 : 1 ≤ id) (h2 : id < L) (hn : id ∉ x.there) : Rel L (comp k id s) (compD k id x) := by
  refine ⟨by show (Ck.setB s.pres id true).length = L; rw [Ck.setB, List.length_set]; exact h.len, ?_, fun z z1 z2 => ?_, ?_, fun z hz => ?_, by show s.code ++ _ = x.code ++ _; rw [h.code]⟩
  · show Ck.at_ (Ck.setB s.pres id true) 0 = true
    rw [LRel.set_at h.len (by omega) h2 (Int.le_refl 0), if_neg (by omega)]
    exact h.zero
  · show Ck.at_ (Ck.setB s.pres id true) z = (x.there ++ [id]).contains z
    rw [LRel.set_at h.len (by omega) h2 (by omega)]
    by_cases e : z = id
    · subst e; simp
    · rw [if_neg e, h.iff z z1 z2]; simp [e]
  · show (x.there ++ [id]).Nodup
    rw [List.nodup_append]
    refine ⟨h.nod, by simp, fun a ha b hb e => ?_⟩
    simp at hb; subst hb; subst e; exact hn ha
  · rcases List.mem_append.1 hz with hz | hz
    · exact h.rng z hz
    · simp at hz; subst hz; exact ⟨h1, h2⟩
theorem Rel.drop (h : Rel L s x) {id : Int} (h1 : 1 ≤ id) (h2 : id < L) : Rel L (drop id s) (dropD id x) := by
  refine ⟨by show (Ck.setB s.pres id false).length = L; rw [Ck.setB, List.length_set]; exact h.len, ?_, fun z z1 z2 => ?_, h.nod.filter _, fun z hz => h.rng z (List.mem_filter.1 hz).1, by show s.code ++ _ = x.code ++ _; rw [h.code]⟩
  · show Ck.at_ (Ck.setB s.pres id false) 0 = true
    rw [LRel.set_at h.len (by omega) h2 (Int.le_refl 0), if_neg (by omega)]
    exact h.zero
  · show Ck.at_ (Ck.setB s.pres id false) z = (Rf.without x.there id).contains z
    rw [LRel.set_at h.len (by omega) h2 (by omega)]
    by_cases e : z = id
    · subst e; simp [Rf.without]
    · rw [if_neg e, h.iff z z1 z2, Bool.eq_iff_iff]; simp [Rf.without, e]
/-- A sweep: both conditions are one where a number is there. -/
theorem Rel.sweep {f g : Int → Bool} : ∀ {m : Nat}, m < L → Rel L s x → (∀ z : Int, 1 ≤ z → z ≤ m → z ∈ x.there → f z = g z) → Rel L (Rt.sweep f m s) (sweepD g m x) ∧ ∀ z ∈ (sweepD g m x).there, z ∈ x.there
  | 0, _, h, _ => ⟨h, fun _ hz => hz⟩
  | m + 1, hm, h, hfg => by
    obtain ⟨h1, h2⟩ := Rel.sweep (m := m) (by omega) h (fun z z1 z2 z3 => hfg z z1 (by omega) z3)
    have e1 : Ck.at_ (Rt.sweep f m s).pres ((m : Int) + 1) = (sweepD g m x).there.contains ((m : Int) + 1) := h1.iff _ (by omega) (by omega)
    unfold Rt.sweep sweepD
    rw [e1]
    by_cases hc : (sweepD g m x).there.contains ((m : Int) + 1) = true
    · have hin : (m : Int) + 1 ∈ x.there := h2 _ (by simpa using hc)
      rw [hfg _ (by omega) (by omega) hin]
      split
      · exact ⟨h1.drop (by omega) (by omega), fun z hz => h2 z (List.mem_filter.1 hz).1⟩
      · exact ⟨h1, h2⟩
    · have hcf : (sweepD g m x).there.contains ((m : Int) + 1) = false := by simpa using hc
      rw [hcf]
      exact ⟨h1, h2⟩
end
/-- What a net's nodes keep: ins come before. -/
structure Ok (I : Int → List Int) (r : Int → Nat) (L : Nat) : Prop where
  rng : ∀ id : Int, 1 ≤ id → id < L → ∀ i ∈ I id, 0 ≤ i ∧ i < L
  lt : ∀ id : Int, 1 ≤ id → id < L → ∀ i ∈ I id, i ≠ 0 → r i < r id
section
variable {L : Nat} {I : Int → List Int} {r : Int → Nat}
/-- What is fetched comes no later. -/
theorem fetchD_new (hO : Ok I r L) : ∀ (m : Nat) (id : Int) (x : RtD), 0 ≤ id → id < L → ∀ z ∈ (fetchD I m id x).there, z ∈ x.there ∨ r z ≤ r id
  | 0, _, x, _, _, z, hz => .inl hz
  | m + 1, id, x, h0, h1, z, hz => by
    unfold fetchD at hz
    split at hz
    · exact .inl hz
    · rename_i hc
      have hid : id ≠ 0 := fun e => hc (.inl e)
      have fold : ∀ (l : List Int) (y : RtD), (∀ i ∈ l, (0 ≤ i ∧ i < L) ∧ (i ≠ 0 → r i < r id)) → ∀ z ∈ (l.foldl (fun x i => fetchD I m i x) y).there, z ∈ y.there ∨ r z ≤ r id := by
        intro l
        induction l with
        | nil => intro y _ z hz; exact .inl hz
        | cons i t ih =>
          intro y hi z hz
          have hi1 := hi i (by simp)
          rcases ih (fetchD I m i y) (fun j hj => hi j (by simp [hj])) z hz with h | h
          · rcases fetchD_new hO m i y hi1.1.1 hi1.1.2 z h with h | h
            · exact .inl h
            · by_cases e : i = 0
              · subst e
                cases m with
                | zero => exact .inl (by simpa [fetchD] using h)
                | succ m => exact .inl (by simpa [fetchD] using ‹z ∈ (fetchD I (m + 1) 0 y).there›)
              · have := hi1.2 e; exact .inr (by omega)
          · exact .inr h
      rcases List.mem_append.1 hz with hz | hz
      · exact fold (I id) x (fun i hi => ⟨hO.rng id (by omega) h1 i hi, hO.lt id (by omega) h1 i hi⟩) z hz
      · simp at hz; subst hz; exact .inr (Nat.le_refl _)
theorem foldD_new (hO : Ok I r L) (m : Nat) {id : Int} : ∀ (l : List Int) (y : RtD), (∀ i ∈ l, (0 ≤ i ∧ i < L) ∧ (i ≠ 0 → r i < r id)) → ∀ z ∈ (l.foldl (fun x i => fetchD I m i x) y).there, z ∈ y.there ∨ r z < r id
  | [], _, _, z, hz => .inl hz
  | i :: t, y, hi, z, hz => by
    have hi1 := hi i (by simp)
    rcases foldD_new hO m t (fetchD I m i y) (fun j hj => hi j (by simp [hj])) z hz with h | h
    · rcases fetchD_new hO m i y hi1.1.1 hi1.1.2 z h with h2 | h2
      · exact .inl h2
      · by_cases e : i = 0
        · subst e
          cases m with
          | zero => exact .inl (by simpa [fetchD] using h)
          | succ m => exact .inl (by simpa [fetchD] using h)
        · have := hi1.2 e; exact .inr (by omega)
    · exact .inr h
theorem Rel.fetch (hO : Ok I r L) : ∀ (m : Nat) (id : Int) {s : RtS} {x : RtD}, Rel L s x → 0 ≤ id → id < L → Rel L (Rt.fetch I m id s) (fetchD I m id x)
  | 0, _, _, _, h, _, _ => h
  | m + 1, id, s, x, h, h0, h1 => by
    unfold Rt.fetch fetchD
    by_cases e : id = 0
    · subst e; rw [if_pos h.zero, if_pos (.inl rfl)]; exact h
    have ea := h.iff id (by omega) h1
    by_cases hc : x.there.contains id = true
    · rw [if_pos (by rw [ea]; exact hc), if_pos (.inr hc)]; exact h
    rw [if_neg (by rw [ea]; exact hc), if_neg (fun q => q.elim e hc)]
    have hI : ∀ i ∈ I id, (0 ≤ i ∧ i < L) ∧ (i ≠ 0 → r i < r id) := fun i hi => ⟨hO.rng id (by omega) h1 i hi, hO.lt id (by omega) h1 i hi⟩
    have fold : ∀ (l : List Int) {s : RtS} {x : RtD}, Rel L s x → (∀ i ∈ l, 0 ≤ i ∧ i < L) → Rel L (l.foldl (fun s i => Rt.fetch I m i s) s) (l.foldl (fun x i => fetchD I m i x) x) := by
      intro l
      induction l with
      | nil => intro s x h _; exact h
      | cons i t ih =>
        intro s x h hi
        have hi1 := hi i (by simp)
        exact ih (Rel.fetch hO m i h hi1.1 hi1.2) (fun j hj => hi j (by simp [hj]))
    refine (fold (I id) h (fun i hi => (hI i hi).1)).comp 2 (by omega) h1 (fun q => ?_)
    rcases foldD_new hO m (I id) x hI id q with q | q
    · exact hc (by simpa using q)
    · omega
theorem Rel.fetches (hO : Ok I r L) (m : Nat) : ∀ (l : List Int) {s : RtS} {x : RtD}, Rel L s x → (∀ i ∈ l, 0 ≤ i ∧ i < L) → Rel L (l.foldl (fun s i => Rt.fetch I m i s) s) (l.foldl (fun x i => fetchD I m i x) x)
  | [], _, _, h, _ => h
  | i :: t, _, _, h, hi => Rel.fetches hO m t (Rel.fetch hO m i h (hi i (by simp)).1 (hi i (by simp)).2) (fun j hj => hi j (by simp [hj]))
/-- What is fetched is what it is, or an input of something. -/
theorem fetchD_used : ∀ (m : Nat) (id : Int) (x : RtD), ∀ z ∈ (fetchD I m id x).there, z ∈ x.there ∨ z = id ∨ ∃ u, z ∈ I u
  | 0, _, _, z, hz => .inl hz
  | m + 1, id, x, z, hz => by
    unfold fetchD at hz
    split at hz
    · exact .inl hz
    · have fold : ∀ (l : List Int) (y : RtD), (∀ i ∈ l, i ∈ I id) → ∀ z ∈ (l.foldl (fun x i => fetchD I m i x) y).there, z ∈ y.there ∨ ∃ u, z ∈ I u := by
        intro l
        induction l with
        | nil => intro y _ z hz; exact .inl hz
        | cons i t ih =>
          intro y hi z hz
          rcases ih (fetchD I m i y) (fun j hj => hi j (by simp [hj])) z hz with h | h
          · rcases fetchD_used m i y z h with h | h | h
            · exact .inl h
            · subst h; exact .inr ⟨id, hi z (by simp)⟩
            · exact .inr h
          · exact .inr h
      rcases List.mem_append.1 hz with hz | hz
      · rcases fold (I id) x (fun _ h => h) z hz with h | h
        · exact .inl h
        · exact .inr (.inr h)
      · simp at hz; exact .inr (.inl hz)
theorem foldD_used (m : Nat) : ∀ (l : List Int) (y : RtD), (∀ i ∈ l, ∃ u, i ∈ I u) → ∀ z ∈ (l.foldl (fun x i => fetchD I m i x) y).there, z ∈ y.there ∨ ∃ u, z ∈ I u
  | [], _, _, z, hz => .inl hz
  | i :: t, y, hi, z, hz => by
    rcases foldD_used m t (fetchD I m i y) (fun j hj => hi j (by simp [hj])) z hz with h | h
    · rcases fetchD_used m i y z h with h | h | h
      · exact .inl h
      · subst h; exact .inr (hi z (by simp))
      · exact .inr h
    · exact .inr h
/-- All nodes forward, the first k of the order. -/
def fwd (order : List Int) (N : Nat) (f : Nat → Int → Bool) : Nat → RtS → RtS
  | 0, s => s
  | k + 1, s => sweep (f k) N (comp 1 (order.getD k 0) (fwd order N f k s))
def fwdD (order : List Int) (N : Nat) (g : Nat → Int → Bool) : Nat → RtD → RtD
  | 0, x => x
  | k + 1, x => sweepD (g k) N (compD 1 (order.getD k 0) (fwdD order N g k x))
theorem Rel.fwd {order : List Int} {N : Nat} {f g : Nat → Int → Bool} {s : RtS} {x : RtD} (hN : N < L) (ho : ∀ u ∈ order, 1 ≤ u ∧ u < L) (hn : order.Nodup) (hs : Rel L s x) (hx : x.there = []) (hL : L ≤ N + 1)
    (hfg : ∀ k, k < order.length → ∀ z : Int, 1 ≤ z → z ≤ N → z ∈ order.take (k + 1) → f k z = g k z) :
    ∀ k, k ≤ order.length → Rel L (Rt.fwd order N f k s) (fwdD order N g k x) ∧ ∀ z ∈ (fwdD order N g k x).there, z ∈ order.take k
  | 0, _ => ⟨hs, fun z hz => by rw [show fwdD order N g 0 x = x from rfl, hx] at hz; cases hz⟩
  | k + 1, hk => by
    obtain ⟨h1, h2⟩ := Rel.fwd hN ho hn hs hx hL hfg k (by omega)
    have hkl : k < order.length := by omega
    have e : order.getD k 0 = order[k] := by rw [List.getD_eq_getElem?_getD, List.getElem?_eq_getElem hkl]; rfl
    have hu := ho _ (List.getElem_mem hkl)
    have ht := List.take_succ_eq_append_getElem hkl
    unfold Rt.fwd fwdD
    rw [e]
    have hc := h1.comp 1 hu.1 hu.2 (fun q => by
      have q2 := h2 _ q
      have hn2 := hn.sublist (List.take_sublist (k + 1) order)
      rw [ht, List.nodup_append] at hn2
      exact hn2.2.2 _ q2 _ (by simp) rfl)
    have hin : ∀ z ∈ (compD 1 order[k] (fwdD order N g k x)).there, z ∈ order.take (k + 1) := fun z hz => by
      rw [ht]
      rcases List.mem_append.1 hz with hz | hz
      · exact List.mem_append.2 (.inl (h2 z hz))
      · exact List.mem_append.2 (.inr hz)
    obtain ⟨h3, h4⟩ := hc.sweep (f := f k) (g := g k) (m := N) hN (fun z z1 z2 z3 => hfg k hkl z z1 z2 (hin z z3))
    exact ⟨h3, fun z hz => hin z (h4 z hz)⟩
/-- All nodes back, the last k of the order. -/
def bwd (I : Int → List Int) (order : List Int) (M N : Nat) (b : Nat → Int → Bool) : Nat → RtS → RtS
  | 0, s => s
  | k + 1, s => sweep (b (order.length - k)) N (add 6 (order.getD (order.length - 1 - k) 0) ((I (order.getD (order.length - 1 - k) 0)).foldl (fun s i => fetch I M i s) (bwd I order M N b k s)))
def bwdD (I : Int → List Int) (order : List Int) (M N : Nat) (g : Nat → Int → Bool) : Nat → RtD → RtD
  | 0, x => x
  | k + 1, x => sweepD (g (order.length - k)) N (addD 6 (order.getD (order.length - 1 - k) 0) ((I (order.getD (order.length - 1 - k) 0)).foldl (fun x i => fetchD I M i x) (bwdD I order M N g k x)))
theorem Rel.bwd (hO : Ok I r L) {order : List Int} {M N : Nat} {b g : Nat → Int → Bool} {s : RtS} {x : RtD} (hN : N < L) (ho : ∀ u ∈ order, 1 ≤ u ∧ u < L) (hs : Rel L s x)
    (hbg : ∀ p, 1 ≤ p → p ≤ order.length → ∀ z : Int, 1 ≤ z → z ≤ N → (z ∈ x.there ∨ ∃ u, z ∈ I u) → b p z = g p z) :
    ∀ k, k ≤ order.length → Rel L (Rt.bwd I order M N b k s) (bwdD I order M N g k x) ∧ ∀ z ∈ (bwdD I order M N g k x).there, z ∈ x.there ∨ ∃ u, z ∈ I u
  | 0, _ => ⟨hs, fun z hz => .inl hz⟩
  | k + 1, hk => by
    obtain ⟨h1, h2⟩ := Rel.bwd hO hN ho hs hbg k (by omega)
    have hkl : order.length - 1 - k < order.length := by omega
    have e : order.getD (order.length - 1 - k) 0 = order[order.length - 1 - k] := by rw [List.getD_eq_getElem?_getD, List.getElem?_eq_getElem hkl]; rfl
    have hu := ho _ (List.getElem_mem hkl)
    unfold Rt.bwd bwdD
    rw [e]
    generalize order[order.length - 1 - k] = u at *
    have hf := (Rel.fetches hO M (I u) h1 (fun i hi => hO.rng u hu.1 hu.2 i hi)).add 6 u
    have hin : ∀ z ∈ (addD 6 u ((I u).foldl (fun x i => fetchD I M i x) (bwdD I order M N g k x))).there, z ∈ x.there ∨ ∃ u, z ∈ I u := fun z hz => by
      rcases foldD_used M (I u) (bwdD I order M N g k x) (fun i hi => ⟨u, hi⟩) z hz with h | h
      · exact h2 z h
      · exact .inr h
    obtain ⟨h3, h4⟩ := hf.sweep (f := b (order.length - k)) (g := g (order.length - k)) (m := N) hN (fun z z1 z2 z3 => hbg _ (by omega) (by omega) z z1 z2 (hin z z3))
    exact ⟨h3, fun z hz => hin z (h4 z hz)⟩
/-- The whole: forward, emit, the loss freed, seed, back. -/
def lower (I : Int → List Int) (order : List Int) (M N : Nat) (loss : Int) (f b : Nat → Int → Bool) (s : RtS) : RtS :=
  bwd I order M N b order.length (add 5 0 (drop loss (add 4 0 (fwd order N f order.length s))))
def lowerD (I : Int → List Int) (order : List Int) (M N : Nat) (loss : Int) (f b : Nat → Int → Bool) (x : RtD) : RtD :=
  bwdD I order M N b order.length (addD 5 0 (dropD loss (addD 4 0 (fwdD order N f order.length x))))
theorem Rel.lower (hO : Ok I r L) {order : List Int} {M N : Nat} {loss : Int} {f g b d : Nat → Int → Bool} {s : RtS} {x : RtD} (hN : N < L) (hL : L ≤ N + 1) (ho : ∀ u ∈ order, 1 ≤ u ∧ u < L) (hn : order.Nodup) (hs : Rel L s x) (hx : x.there = [])
    (hl : 1 ≤ loss ∧ loss < L) (hfg : ∀ k, k < order.length → ∀ z : Int, 1 ≤ z → z ≤ N → z ∈ order.take (k + 1) → f k z = g k z)
    (hlu : ∀ u, loss ∉ I u) (hbd : ∀ p, 1 ≤ p → p ≤ order.length → ∀ z : Int, 1 ≤ z → z ≤ N → z ≠ loss → b p z = d p z) :
    Rel L (Rt.lower I order M N loss f b s) (lowerD I order M N loss g d x) := by
  obtain ⟨h1, _⟩ := Rel.fwd hN ho hn hs hx hL hfg order.length (Nat.le_refl _)
  have h2 := (((h1.add 4 0).drop hl.1 hl.2).add 5 0)
  refine (Rel.bwd hO hN ho h2 (fun p p1 p2 z z1 z2 hz => hbd p p1 p2 z z1 z2 (fun e => ?_)) order.length (Nat.le_refl _)).1
  subst e
  rcases hz with hz | ⟨u, hu⟩
  · have := (List.mem_filter.1 hz).2; simp at this
  · exact hlu u hu
end
end Rt
end Go.Proofs.YtnffjfjhbjeaiaaGreatDoor
/- The plain law of layer 21: a right net meets what the lowering wants. -/
namespace Go.Proofs.YtnffjfjhbjeaiaaGreatDoor
namespace Rt
/-- Has a number a user among some? -/
def pend (I : Int → List Int) (id : Int) (l : List Int) : Bool := l.any fun u => (I u).contains id
/-- The last place of a list (from 1 on) that uses a number, of the first k. -/
def lastP (I : Int → List Int) (order : List Int) (id : Int) : Nat → Int
  | 0 => 0
  | k + 1 => if (I (order.getD k 0)).contains id then (k : Int) + 1 else lastP I order id k
/-- The first such place, of those behind the first len - k. -/
def firstP (I : Int → List Int) (order : List Int) (id : Int) : Nat → Int
  | 0 => 0
  | k + 1 => if (I (order.getD (order.length - 1 - k) 0)).contains id then ((order.length - k : Nat) : Int) else firstP I order id k
theorem get_at {order : List Int} {j : Nat} (h : j < order.length) : order.getD j 0 = order[j] := by rw [List.getD_eq_getElem?_getD, List.getElem?_eq_getElem h]; rfl
theorem lastP_le (I : Int → List Int) (order : List Int) (id : Int) (m : Nat) : ∀ k, lastP I order id k ≤ m ↔ ∀ j, m ≤ j → j < k → (I (order.getD j 0)).contains id = false
  | 0 => by
    constructor
    · intro _ j _ h; omega
    · intro _; show (0 : Int) ≤ m; omega
  | k + 1 => by
    have ih := lastP_le I order id m k
    unfold lastP
    by_cases hc : (I (order.getD k 0)).contains id = true
    · rw [if_pos hc]
      constructor
      · intro h j h1 h2; omega
      · intro h
        rcases Nat.lt_or_ge k m with q | q
        · omega
        · have := h k q (by omega); rw [hc] at this; cases this
    · rw [if_neg hc, ih]
      constructor
      · intro h j h1 h2
        rcases Nat.lt_or_ge j k with q | q
        · exact h j h1 q
        · have : j = k := by omega
          subst this; simpa using hc
      · intro h j h1 h2; exact h j h1 (by omega)
theorem pend_drop {I : Int → List Int} {order : List Int} {id : Int} {m : Nat} : pend I id (order.drop m) = false ↔ ∀ j, m ≤ j → j < order.length → (I (order.getD j 0)).contains id = false := by
  unfold pend
  rw [List.any_eq_false]
  constructor
  · intro h j h1 h2
    have : order[j] ∈ order.drop m := by
      rw [List.mem_iff_getElem]
      exact ⟨j - m, by rw [List.length_drop]; omega, by rw [List.getElem_drop]; congr 1; omega⟩
    have := h _ this
    rw [get_at h2]; simpa using this
  · intro h u hu
    obtain ⟨j, hj, rfl⟩ := List.getElem_of_mem hu
    rw [List.length_drop] at hj
    have := h (m + j) (by omega) (by omega)
    rw [get_at (by omega)] at this
    rw [List.getElem_drop, this]; simp
theorem pend_take {I : Int → List Int} {order : List Int} {id : Int} {m : Nat} (hm : m ≤ order.length) : pend I id (order.take m) = false ↔ ∀ j, j < m → (I (order.getD j 0)).contains id = false := by
  unfold pend
  rw [List.any_eq_false]
  constructor
  · intro h j h1
    have : order[j] ∈ order.take m := by
      rw [List.mem_iff_getElem]
      exact ⟨j, by rw [List.length_take]; omega, by rw [List.getElem_take]⟩
    have := h _ this
    rw [get_at (by omega)]; simpa using this
  · intro h u hu
    obtain ⟨j, hj, rfl⟩ := List.getElem_of_mem hu
    rw [List.length_take] at hj
    have := h j (by omega)
    rw [get_at (by omega)] at this
    rw [List.getElem_take, this]; simp
/-- Forward's test. -/
theorem last_pend (I : Int → List Int) (order : List Int) (id : Int) (m : Nat) : decide (lastP I order id order.length ≤ m) = !pend I id (order.drop m) := by
  rw [Bool.eq_iff_iff]
  simp only [decide_eq_true_eq, Bool.not_eq_true']
  rw [lastP_le, pend_drop]
/-- The first place: it is there if there is any user, and none comes before. -/
theorem firstP_ge (I : Int → List Int) (order : List Int) (id : Int) (p : Nat) : ∀ k, k ≤ order.length → (∃ j, order.length - k ≤ j ∧ j < order.length ∧ (I (order.getD j 0)).contains id = true) →
    ((p : Int) ≤ firstP I order id k ↔ ∀ j, order.length - k ≤ j → j + 1 < p → j < order.length → (I (order.getD j 0)).contains id = false)
  | 0, _, ⟨j, h1, h2, _⟩ => by omega
  | k + 1, hk, hex => by
    unfold firstP
    by_cases hc : (I (order.getD (order.length - 1 - k) 0)).contains id = true
    · rw [if_pos hc]
      constructor
      · intro h j h1 h2 h3; omega
      · intro h
        rcases Nat.lt_or_ge (order.length - k) p with q | q
        · have := h (order.length - 1 - k) (by omega) (by omega) (by omega); rw [hc] at this; cases this
        · omega
    · rw [if_neg hc]
      have hex2 : ∃ j, order.length - k ≤ j ∧ j < order.length ∧ (I (order.getD j 0)).contains id = true := by
        obtain ⟨j, h1, h2, h3⟩ := hex
        refine ⟨j, ?_, h2, h3⟩
        rcases Nat.lt_or_ge j (order.length - k) with q | q
        · have : j = order.length - 1 - k := by omega
          subst this; exact absurd h3 hc
        · exact q
      rw [firstP_ge I order id p k (by omega) hex2]
      constructor
      · intro h j h1 h2 h3
        rcases Nat.lt_or_ge j (order.length - k) with q | q
        · have : j = order.length - 1 - k := by omega
          subst this; simpa using hc
        · exact h j q h2 h3
      · intro h j h1 h2 h3; exact h j (by omega) h2 h3
/-- Backward's test, of a number that has a user. -/
theorem first_pend (I : Int → List Int) (order : List Int) (id : Int) {p : Nat} (h1 : 1 ≤ p) (h2 : p ≤ order.length) (hu : ∃ j, j < order.length ∧ (I (order.getD j 0)).contains id = true) : decide ((p : Int) ≤ firstP I order id order.length) = !pend I id (order.take (p - 1)) := by
  rw [Bool.eq_iff_iff]
  simp only [decide_eq_true_eq, Bool.not_eq_true']
  rw [firstP_ge I order id p order.length (Nat.le_refl _) (by obtain ⟨j, a, b⟩ := hu; exact ⟨j, by omega, a, b⟩), pend_take (by omega)]
  constructor
  · intro h j hj; exact h j (by omega) (by omega) (by omega)
  · intro h j _ hj _; exact h j (by omega)
end Rt
end Go.Proofs.YtnffjfjhbjeaiaaGreatDoor
/- The plain law of layer 21: a right net's nodes, and the whole. -/
namespace Go.Proofs.YtnffjfjhbjeaiaaGreatDoor
namespace Rt
def rank (n : NetD) (id : Int) : Nat := (Nt.sorted n.nodes).idxOf id
theorem insF_mem {n : NetD} {u z : Int} (h : z ∈ Nt.insF n.nodes u) : ∃ v ∈ n.nodes, z ∈ v.ins := by
  unfold Nt.insF Nt.node at h
  rw [List.getD_eq_getElem?_getD] at h
  rcases Nat.lt_or_ge (u.toNat - 1) n.nodes.length with q | q
  · rw [List.getElem?_eq_getElem q] at h
    exact ⟨_, List.getElem_mem q, h⟩
  · rw [List.getElem?_eq_none q] at h
    cases h
theorem net_ok {n : NetD} (h : Nt.check n = 0) : Ok (Nt.insF n.nodes) (rank n) (n.nodes.length + 1) := by
  obtain ⟨_, _, _, hb, hl, _⟩ := Nt.check_ok h
  refine ⟨fun id h1 h2 i hi => ?_, fun id h1 h2 i hi h0 => ?_⟩
  · obtain ⟨v, hv, hz⟩ := insF_mem hi
    have := (Nt.bads_all hb v hv).2 i hz
    omega
  · have hu : id ∈ Nt.sorted n.nodes := (Kn.order_full hl id).2 ⟨h1, by omega⟩
    obtain ⟨A, B, e⟩ := List.append_of_mem hu
    have hnd : (Nt.sorted n.nodes).Nodup := (Kn.go_ok _ _ _).nodup
    have hA := (Kn.order_behind _ _ e i hi).resolve_left h0
    unfold rank
    rw [e] at hnd ⊢
    have hnA : id ∉ A := fun q => by
      rw [List.nodup_append] at hnd
      exact hnd.2.2 id q id (by simp) rfl
    rw [List.idxOf_append, if_pos hA, List.idxOf_append, if_neg hnA, List.idxOf_cons_self]
    have := List.idxOf_lt_length_of_mem hA
    omega
theorem order_in {n : NetD} : ∀ u ∈ Nt.sorted n.nodes, 1 ≤ u ∧ u < ((n.nodes.length + 1 : Nat) : Int) := fun u hu => by
  have := Kn.order_rng (Nt.insF n.nodes) n.nodes.length u hu
  omega
theorem loss_none {n : NetD} (h : Nt.check n = 0) (u : Int) : Nt.loss n.nodes ∉ Nt.insF n.nodes u := fun q => by
  obtain ⟨_, _, _, _, _, _, hlo, _⟩ := Nt.check_ok h
  obtain ⟨e, h1, h2⟩ := Nt.loss_mem hlo
  obtain ⟨v, hv, hz⟩ := insF_mem q
  have hm : Nt.loss n.nodes ∈ Nt.unused n.nodes := by rw [e]; simp
  have hf := (List.mem_filter.1 hm).2
  have ht : Nt.isUsed n.nodes (Nt.loss n.nodes) = true := by
    unfold Nt.isUsed
    rw [List.any_eq_true]
    exact ⟨v, hv, by simpa using hz⟩
  rw [ht] at hf
  cases hf
theorem has_user {n : NetD} (h : Nt.check n = 0) {z : Int} (h1 : 1 ≤ z) (h2 : z ≤ n.nodes.length) (h3 : z ≠ Nt.loss n.nodes) : ∃ j, j < (Nt.sorted n.nodes).length ∧ (Nt.insF n.nodes ((Nt.sorted n.nodes).getD j 0)).contains z = true := by
  obtain ⟨_, _, _, _, hl, _, hlo, _⟩ := Nt.check_ok h
  obtain ⟨e, _, _⟩ := Nt.loss_mem hlo
  have hused : Nt.isUsed n.nodes z = true := by
    rcases Bool.eq_false_or_eq_true (Nt.isUsed n.nodes z) with q | q
    · exact q
    · have : z ∈ Nt.unused n.nodes := by
        unfold Nt.unused
        refine List.mem_filter.2 ⟨?_, by rw [q]; rfl⟩
        unfold Nt.nums
        rw [List.mem_map]
        exact ⟨z.toNat, by rw [List.mem_range]; omega, by omega⟩
      rw [e] at this
      simp at this
      exact absurd this h3
  unfold Nt.isUsed at hused
  rw [List.any_eq_true] at hused
  obtain ⟨v, hv, hz⟩ := hused
  obtain ⟨k, hk, rfl⟩ := List.getElem_of_mem hv
  have hu : ((k : Int) + 1) ∈ Nt.sorted n.nodes := (Kn.order_full hl _).2 ⟨by omega, by omega⟩
  obtain ⟨j, hj, hje⟩ := List.getElem_of_mem hu
  refine ⟨j, hj, ?_⟩
  rw [get_at hj, hje]
  unfold Nt.insF
  rw [Nt.node_at hk]
  exact hz
/-- The program's tests, and the document's. -/
def fT (n : NetD) (keep : List Int) (k : Nat) (id : Int) : Bool := !keep.contains id && (decide (id ≠ Nt.loss n.nodes) && decide (lastP (Nt.insF n.nodes) (Nt.sorted n.nodes) id (Nt.sorted n.nodes).length ≤ ((k + 1 : Nat) : Int)))
def gT (n : NetD) (keep : List Int) (k : Nat) (id : Int) : Bool := !keep.contains id && (decide (id ≠ Nt.loss n.nodes) && !pend (Nt.insF n.nodes) id ((Nt.sorted n.nodes).drop (k + 1)))
def bT (n : NetD) (keep : List Int) (p : Nat) (id : Int) : Bool := !keep.contains id || decide ((p : Int) ≤ firstP (Nt.insF n.nodes) (Nt.sorted n.nodes) id (Nt.sorted n.nodes).length)
def dT (n : NetD) (keep : List Int) (p : Nat) (id : Int) : Bool := !keep.contains id || !pend (Nt.insF n.nodes) id ((Nt.sorted n.nodes).take (p - 1))
def start (L : Nat) : RtS := ⟨(List.replicate L false).set 0 true, []⟩
def lowered (n : NetD) (keep : List Int) : RtS := lower (Nt.insF n.nodes) (Nt.sorted n.nodes) (n.nodes.length + 1) n.nodes.length (Nt.loss n.nodes) (fT n keep) (bT n keep) (start (n.nodes.length + 1))
def loweredD (n : NetD) (keep : List Int) : RtD := lowerD (Nt.insF n.nodes) (Nt.sorted n.nodes) (n.nodes.length + 1) n.nodes.length (Nt.loss n.nodes) (gT n keep) (dT n keep) ⟨[], []⟩
/-- Both codes are one. -/
theorem lowered_same {n : NetD} (h : Nt.check n = 0) (keep : List Int) : (lowered n keep).code = (loweredD n keep).code := by
  obtain ⟨_, _, _, _, hl, _, hlo, _⟩ := Nt.check_ok h
  obtain ⟨_, l1, l2⟩ := Nt.loss_mem hlo
  have hs : Rel (n.nodes.length + 1) (start (n.nodes.length + 1)) ⟨[], []⟩ := by
    refine ⟨by simp [start], ?_, fun z z1 z2 => ?_, List.nodup_nil, (fun z hz => by cases hz), rfl⟩
    · show ((List.replicate (n.nodes.length + 1) false).set 0 true).getD 0 false = true
      simp
    · show ((List.replicate (n.nodes.length + 1) false).set 0 true).getD z.toNat false = _
      rw [List.getD_eq_getElem?_getD, List.getElem?_set_ne (by omega)]
      have : z.toNat < n.nodes.length + 1 := by omega
      simp [this]
  refine (Rel.lower (net_ok h) (by omega) (by omega) order_in (Kn.go_ok _ _ _).nodup hs rfl ⟨l1, by omega⟩ (fun k hk z z1 z2 _ => ?_) (loss_none h) (fun p p1 p2 z z1 z2 z3 => ?_)).code
  · unfold fT gT
    rw [last_pend]
  · unfold bT dT
    rw [first_pend _ _ _ p1 p2 (has_user h z1 z2 z3)]
end Rt
end Go.Proofs.YtnffjfjhbjeaiaaGreatDoor
/- The plain law of layer 21: how long a lowered code is. -/
namespace Go.Proofs.YtnffjfjhbjeaiaaGreatDoor
namespace Rt
section
variable {L : Nat} {I : Int → List Int} {r : Int → Nat}
/-- What is fetched: as many instructions as numbers that come to_ be there. -/
theorem fetchD_cnt : ∀ (m : Nat) (id : Int) (x : RtD), (fetchD I m id x).code.length + x.there.length = x.code.length + (fetchD I m id x).there.length
  | 0, _, _ => rfl
  | m + 1, id, x => by
    unfold fetchD
    split
    · rfl
    · have fold : ∀ (l : List Int) (y : RtD), (l.foldl (fun x i => fetchD I m i x) y).code.length + y.there.length = y.code.length + (l.foldl (fun x i => fetchD I m i x) y).there.length := by
        intro l
        induction l with
        | nil => intro y; rfl
        | cons i t ih =>
          intro y
          have h1 := fetchD_cnt m i y
          have h2 := ih (fetchD I m i y)
          simp only [List.foldl_cons]
          omega
      have := fold (I id) x
      unfold compD
      simp only [List.length_append, List.length_singleton]
      omega
theorem foldD_cnt (m : Nat) : ∀ (l : List Int) (y : RtD), (l.foldl (fun x i => fetchD I m i x) y).code.length + y.there.length = y.code.length + (l.foldl (fun x i => fetchD I m i x) y).there.length
  | [], _ => rfl
  | i :: t, y => by
    have h1 := fetchD_cnt (I := I) m i y
    have h2 := foldD_cnt m t (fetchD I m i y)
    simp only [List.foldl_cons]
    omega
theorem sweepD_cnt {g : Int → Bool} : ∀ (m : Nat) (x : RtD), x.there.Nodup → (sweepD g m x).there.Nodup ∧ (sweepD g m x).code.length + (sweepD g m x).there.length = x.code.length + x.there.length
  | 0, _, h => ⟨h, rfl⟩
  | m + 1, x, h => by
    obtain ⟨h1, h2⟩ := sweepD_cnt (g := g) m x h
    unfold sweepD
    split
    · rename_i hc
      rw [Bool.and_eq_true] at hc
      have hin : (m : Int) + 1 ∈ (sweepD g m x).there := by simpa using hc.1
      have := Rf.length_without h1 hin
      refine ⟨h1.filter _, ?_⟩
      unfold dropD
      simp only [List.length_append, List.length_singleton]
      omega
    · exact ⟨h1, h2⟩
theorem Rel.there_le {s : RtS} {x : RtD} (h : Rel L s x) : x.there.length ≤ L := Rf.nodup_len L _ h.nod fun z hz => by have := h.rng z hz; omega
/-- A code only grows. -/
theorem sweep_mono {f : Int → Bool} : ∀ (m : Nat) (s : RtS), s.code.length ≤ (sweep f m s).code.length
  | 0, _ => Nat.le_refl _
  | m + 1, s => by
    have := sweep_mono (f := f) m s
    unfold sweep
    split
    · unfold drop; simp only [List.length_append, List.length_singleton]; omega
    · exact this
theorem fetch_mono : ∀ (m : Nat) (id : Int) (s : RtS), s.code.length ≤ (fetch I m id s).code.length
  | 0, _, _ => Nat.le_refl _
  | m + 1, id, s => by
    unfold fetch
    split
    · exact Nat.le_refl _
    · have fold : ∀ (l : List Int) (y : RtS), y.code.length ≤ (l.foldl (fun s i => fetch I m i s) y).code.length := by
        intro l
        induction l with
        | nil => intro y; exact Nat.le_refl _
        | cons i t ih => intro y; exact Nat.le_trans (fetch_mono m i y) (ih _)
      have := fold (I id) s
      unfold comp
      simp only [List.length_append, List.length_singleton]
      omega
theorem fetches_mono (m : Nat) : ∀ (l : List Int) (y : RtS), y.code.length ≤ (l.foldl (fun s i => fetch I m i s) y).code.length
  | [], _ => Nat.le_refl _
  | i :: t, y => Nat.le_trans (fetch_mono m i y) (fetches_mono m t _)
theorem bwd_mono {order : List Int} {M N : Nat} {b : Nat → Int → Bool} (s : RtS) : ∀ k, (bwd I order M N b k s).code.length ≤ (bwd I order M N b (k + 1) s).code.length := fun k => by
  show _ ≤ (sweep (b (order.length - k)) N (add 6 (order.getD (order.length - 1 - k) 0) ((I (order.getD (order.length - 1 - k) 0)).foldl (fun s i => fetch I M i s) (bwd I order M N b k s)))).code.length
  refine Nat.le_trans (fetches_mono (I := I) M (I (order.getD (order.length - 1 - k) 0)) _) (Nat.le_trans ?_ (sweep_mono N _))
  unfold add
  simp
theorem bwd_le {order : List Int} {M N : Nat} {b : Nat → Int → Bool} (s : RtS) : ∀ {k m : Nat}, k ≤ m → (bwd I order M N b k s).code.length ≤ (bwd I order M N b m s).code.length := fun {k m} h => by
  obtain ⟨d, rfl⟩ := Nat.exists_eq_add_of_le h
  induction d with
  | zero => exact Nat.le_refl _
  | succ d ih => exact Nat.le_trans (ih (by omega)) (bwd_mono s (k + d))
theorem bwd_len (hO : Ok I r L) {order : List Int} {M N : Nat} {b g : Nat → Int → Bool} {s : RtS} {x : RtD} (hN : N < L) (ho : ∀ u ∈ order, 1 ≤ u ∧ u < L) (hs : Rel L s x)
    (hbg : ∀ p, 1 ≤ p → p ≤ order.length → ∀ z : Int, 1 ≤ z → z ≤ N → (z ∈ x.there ∨ ∃ u, z ∈ I u) → b p z = g p z) :
    ∀ k, k ≤ order.length → (bwd I order M N b k s).code.length ≤ s.code.length + k * (2 * L + 1)
  | 0, _ => by simp [bwd]
  | k + 1, hk => by
    have ih := bwd_len (M := M) hO hN ho hs hbg k (by omega)
    obtain ⟨h1, _⟩ := Rel.bwd (M := M) hO hN ho hs hbg k (by omega)
    obtain ⟨h9, _⟩ := Rel.bwd (M := M) hO hN ho hs hbg (k + 1) hk
    have hkl : order.length - 1 - k < order.length := by omega
    have e : order.getD (order.length - 1 - k) 0 = order[order.length - 1 - k] := by rw [List.getD_eq_getElem?_getD, List.getElem?_eq_getElem hkl]; rfl
    have hu := ho _ (List.getElem_mem hkl)
    rw [h9.code]
    rw [h1.code] at ih
    unfold bwdD
    rw [e]
    generalize order[order.length - 1 - k] = u at *
    have hf := (Rel.fetches hO M (I u) h1 (fun i hi => hO.rng u hu.1 hu.2 i hi)).add 6 u
    have c1 := foldD_cnt (I := I) M (I u) (bwdD I order M N g k x)
    have c2 := (sweepD_cnt (g := g (order.length - k)) N _ hf.nod).2
    have c3 := hf.there_le
    have c4 : (addD 6 u ((I u).foldl (fun x i => fetchD I M i x) (bwdD I order M N g k x))).code.length = ((I u).foldl (fun x i => fetchD I M i x) (bwdD I order M N g k x)).code.length + 1 := by unfold addD; simp
    have c5 : (addD 6 u ((I u).foldl (fun x i => fetchD I M i x) (bwdD I order M N g k x))).there = ((I u).foldl (fun x i => fetchD I M i x) (bwdD I order M N g k x)).there := rfl
    rw [c5] at c3 c2
    have hm : (k + 1) * (2 * L + 1) = k * (2 * L + 1) + (2 * L + 1) := by rw [Nat.add_mul]; omega
    omega
theorem fwd_len {order : List Int} {N : Nat} {f g : Nat → Int → Bool} {s : RtS} {x : RtD} (hN : N < L) (ho : ∀ u ∈ order, 1 ≤ u ∧ u < L) (hn : order.Nodup) (hs : Rel L s x) (hx : x.there = []) (hL : L ≤ N + 1)
    (hfg : ∀ k, k < order.length → ∀ z : Int, 1 ≤ z → z ≤ N → z ∈ order.take (k + 1) → f k z = g k z) :
    ∀ k, k ≤ order.length → (fwd order N f k s).code.length ≤ s.code.length + k * (L + 2)
  | 0, _ => by simp [fwd]
  | k + 1, hk => by
    have ih := fwd_len hN ho hn hs hx hL hfg k (by omega)
    obtain ⟨h1, h2⟩ := Rel.fwd hN ho hn hs hx hL hfg k (by omega)
    obtain ⟨h9, _⟩ := Rel.fwd hN ho hn hs hx hL hfg (k + 1) hk
    have hkl : k < order.length := by omega
    have e : order.getD k 0 = order[k] := by rw [List.getD_eq_getElem?_getD, List.getElem?_eq_getElem hkl]; rfl
    have hu := ho _ (List.getElem_mem hkl)
    have ht := List.take_succ_eq_append_getElem hkl
    rw [h9.code]
    rw [h1.code] at ih
    unfold fwdD
    rw [e]
    have hc := h1.comp 1 hu.1 hu.2 (fun q => by
      have q2 := h2 _ q
      have hn2 := hn.sublist (List.take_sublist (k + 1) order)
      rw [ht, List.nodup_append] at hn2
      exact hn2.2.2 _ q2 _ (by simp) rfl)
    have c2 := (sweepD_cnt (g := g k) N _ hc.nod).2
    have c3 := hc.there_le
    have c4 : (compD 1 order[k] (fwdD order N g k x)).code.length = (fwdD order N g k x).code.length + 1 := by unfold compD; simp
    have hm : (k + 1) * (L + 2) = k * (L + 2) + (L + 2) := by rw [Nat.add_mul]; omega
    omega
end
end Rt
end Go.Proofs.YtnffjfjhbjeaiaaGreatDoor
/- The plain law of layer 21: a small net's code is short all the way. -/
namespace Go.Proofs.YtnffjfjhbjeaiaaGreatDoor
namespace Rt
theorem start_rel (n : NetD) : Rel (n.nodes.length + 1) (start (n.nodes.length + 1)) ⟨[], []⟩ := by
  refine ⟨by simp [start], ?_, fun z z1 z2 => ?_, List.nodup_nil, (fun z hz => by cases hz), rfl⟩
  · show ((List.replicate (n.nodes.length + 1) false).set 0 true).getD 0 false = true
    simp
  · show ((List.replicate (n.nodes.length + 1) false).set 0 true).getD z.toNat false = _
    rw [List.getD_eq_getElem?_getD, List.getElem?_set_ne (by omega)]
    have : z.toNat < n.nodes.length + 1 := by omega
    simp [this]
def fwdN (n : NetD) (keep : List Int) (k : Nat) : RtS := fwd (Nt.sorted n.nodes) n.nodes.length (fT n keep) k (start (n.nodes.length + 1))
def midN (n : NetD) (keep : List Int) : RtS := add 5 0 (drop (Nt.loss n.nodes) (add 4 0 (fwdN n keep (Nt.sorted n.nodes).length)))
def bwdN (n : NetD) (keep : List Int) (k : Nat) : RtS := bwd (Nt.insF n.nodes) (Nt.sorted n.nodes) (n.nodes.length + 1) n.nodes.length (bT n keep) k (midN n keep)
theorem lowered_eq (n : NetD) (keep : List Int) : lowered n keep = bwdN n keep (Nt.sorted n.nodes).length := rfl
theorem fwdN_len {n : NetD} (h : Nt.check n = 0) (keep : List Int) (k : Nat) (hk : k ≤ (Nt.sorted n.nodes).length) : (fwdN n keep k).code.length ≤ k * (n.nodes.length + 3) := by
  have := fwd_len (L := n.nodes.length + 1) (N := n.nodes.length) (f := fT n keep) (g := gT n keep) (by omega) order_in (Kn.go_ok (Nt.insF n.nodes) n.nodes.length n.nodes.length).nodup (start_rel n) rfl (by omega) (fun k hk z z1 z2 _ => by unfold fT gT; rw [last_pend]) k hk
  have e : (start (n.nodes.length + 1)).code.length = 0 := rfl
  have e2 : n.nodes.length + 1 + 2 = n.nodes.length + 3 := by omega
  rw [e, e2, Nat.zero_add] at this
  exact this
theorem midN_len {n : NetD} (h : Nt.check n = 0) (keep : List Int) : (midN n keep).code.length ≤ n.nodes.length * (n.nodes.length + 3) + 3 := by
  obtain ⟨_, _, _, _, hl, _⟩ := Nt.check_ok h
  have := fwdN_len h keep _ (Nat.le_refl _)
  rw [hl] at this
  have e : (midN n keep).code.length = (fwdN n keep (Nt.sorted n.nodes).length).code.length + 3 := by unfold midN add drop; simp
  rw [e, hl]
  omega
theorem bwdN_len {n : NetD} (h : Nt.check n = 0) (keep : List Int) (k : Nat) (hk : k ≤ (Nt.sorted n.nodes).length) : (bwdN n keep k).code.length ≤ n.nodes.length * (n.nodes.length + 3) + 3 + k * (2 * n.nodes.length + 3) := by
  obtain ⟨_, _, _, _, hl, _, hlo, _⟩ := Nt.check_ok h
  obtain ⟨_, l1, l2⟩ := Nt.loss_mem hlo
  obtain ⟨h1, _⟩ := Rel.fwd (L := n.nodes.length + 1) (N := n.nodes.length) (f := fT n keep) (g := gT n keep) (by omega) order_in (Kn.go_ok (Nt.insF n.nodes) n.nodes.length n.nodes.length).nodup (start_rel n) rfl (by omega) (fun k hk z z1 z2 _ => by unfold fT gT; rw [last_pend]) _ (Nat.le_refl _)
  have h2 := (((h1.add 4 0).drop (id := Nt.loss n.nodes) l1 (by omega)).add 5 0)
  have := bwd_len (net_ok h) (M := n.nodes.length + 1) (N := n.nodes.length) (b := bT n keep) (g := dT n keep) (by omega) order_in h2 (fun p p1 p2 z z1 z2 hz => by
    unfold bT dT
    rw [first_pend _ _ _ p1 p2 (has_user h z1 z2 (fun e => by
      subst e
      rcases hz with hz | ⟨u, hu⟩
      · have := (List.mem_filter.1 hz).2; simp at this
      · exact loss_none h u hu))]) k hk
  have hm := midN_len h keep
  have e : 2 * (n.nodes.length + 1) + 1 = 2 * n.nodes.length + 3 := by omega
  rw [e] at this
  exact Nat.le_trans this (Nat.add_le_add_right hm _)
/-- For a net of at most 12 nodes no code on the way has more than 1000 instructions. -/
theorem bwdN_short {n : NetD} (h : Nt.check n = 0) (h12 : n.nodes.length ≤ 12) (keep : List Int) (k : Nat) (hk : k ≤ (Nt.sorted n.nodes).length) : (bwdN n keep k).code.length ≤ 1000 := by
  have h1 := bwdN_len h keep k hk
  obtain ⟨_, _, _, _, hl, _⟩ := Nt.check_ok h
  rw [hl] at hk
  have h2 : n.nodes.length * (n.nodes.length + 3) ≤ 12 * 15 := Nat.mul_le_mul h12 (by omega)
  have h3 : k * (2 * n.nodes.length + 3) ≤ 12 * 27 := Nat.mul_le_mul (by omega) (by omega)
  omega
end Rt
end Go.Proofs.YtnffjfjhbjeaiaaGreatDoor
/- The plain law of layer 21: the row of first users, as the program fills it. -/
namespace Go.Proofs.YtnffjfjhbjeaiaaGreatDoor
namespace Rt
/-- Behind k nodes from the end of the order, and l of the next one's ins. -/
def firstMid (n : NetD) (k : Nat) (l : List Int) : List Int := (Nt.nums n.nodes.length).map fun u => if l.contains u then (((Nt.sorted n.nodes).length - k : Nat) : Int) else firstP (Nt.insF n.nodes) (Nt.sorted n.nodes) u k
theorem firstMid_len (n : NetD) (k : Nat) (l : List Int) : (firstMid n k l).length = n.nodes.length + 1 := by simp [firstMid, Nt.nums]
theorem firstMid_zero (n : NetD) : firstMid n 0 [] = List.replicate (n.nodes.length + 1) 0 := by
  unfold firstMid
  rw [List.eq_replicate_iff]
  refine ⟨by simp [Nt.nums], fun b hb => ?_⟩
  obtain ⟨x, _, rfl⟩ := List.mem_map.1 hb
  simp [firstP]
theorem firstMid_next (n : NetD) {k : Nat} : firstMid n k (Nt.insF n.nodes ((Nt.sorted n.nodes).getD ((Nt.sorted n.nodes).length - 1 - k) 0)) = firstMid n (k + 1) [] := by
  unfold firstMid
  apply List.map_congr_left
  intro u _
  simp [firstP]
theorem firstMid_in (n : NetD) (k : Nat) (l : List Int) {id : Int} (h0 : 0 ≤ id) (h1 : id ≤ n.nodes.length) : firstMid n k (l ++ [id]) = (firstMid n k l).set id.toNat (((Nt.sorted n.nodes).length - k : Nat) : Int) := by
  apply List.ext_getElem?
  intro j
  rw [List.getElem?_set]
  unfold firstMid Nt.nums
  simp only [List.map_map, List.getElem?_map, List.length_map, List.length_range]
  by_cases hj : j < n.nodes.length + 1
  · rw [List.getElem?_range hj]
    by_cases e : id.toNat = j
    · subst e
      have : ((id.toNat : Nat) : Int) = id := by omega
      simp [hj, this]
    · have e2 : (j : Int) ≠ id := by omega
      simp [e, e2]
  · rw [List.getElem?_eq_none (by simp; omega)]
    simp
    intro q; omega
theorem firstMid_at (n : NetD) (k : Nat) {u : Nat} (hu : u ≤ n.nodes.length) : (firstMid n k [])[u]? = some (firstP (Nt.insF n.nodes) (Nt.sorted n.nodes) u k) := by
  unfold firstMid Nt.nums
  simp [show u < n.nodes.length + 1 by omega]
/-- A number that is fetched: for every fuel that is enough the same. -/
theorem fetch_step {I : Int → List Int} (m : Nat) (id : Int) (s : RtS) : fetch I (m + 1) id s = if Ck.at_ s.pres id then s else comp 2 id ((I id).foldl (fun s i => fetch I m i s) s) := rfl
/-- The fold over the first k ins. -/
theorem fold_take {I : Int → List Int} {m : Nat} {l : List Int} {k : Nat} (hk : k < l.length) (s : RtS) : (l.take (k + 1)).foldl (fun s i => fetch I m i s) s = fetch I m l[k] ((l.take k).foldl (fun s i => fetch I m i s) s) := by
  rw [List.take_succ_eq_append_getElem hk, List.foldl_append]
  rfl
/-- The sweep of one more number. -/
theorem sweep_step (f : Int → Bool) (m : Nat) (s : RtS) : sweep f (m + 1) s = if Ck.at_ (sweep f m s).pres ((m : Int) + 1) && f ((m : Int) + 1) then drop ((m : Int) + 1) (sweep f m s) else sweep f m s := rfl
/-- Lengths of the row of bools. -/
theorem fetch_pres {I : Int → List Int} : ∀ (m : Nat) (id : Int) (s : RtS), (fetch I m id s).pres.length = s.pres.length
  | 0, _, _ => rfl
  | m + 1, id, s => by
    unfold fetch
    split
    · rfl
    · have fold : ∀ (l : List Int) (y : RtS), (l.foldl (fun s i => fetch I m i s) y).pres.length = y.pres.length := by
        intro l
        induction l with
        | nil => intro y; rfl
        | cons i t ih => intro y; exact (ih _).trans (fetch_pres m i y)
      show (Ck.setB _ id true).length = _
      unfold Ck.setB
      rw [List.length_set, fold]
theorem sweep_pres (f : Int → Bool) : ∀ (m : Nat) (s : RtS), (sweep f m s).pres.length = s.pres.length
  | 0, _ => rfl
  | m + 1, s => by
    have := sweep_pres f m s
    unfold sweep
    split
    · show (Ck.setB _ _ false).length = _
      unfold Ck.setB
      rw [List.length_set]; exact this
    · exact this
end Rt
end Go.Proofs.YtnffjfjhbjeaiaaGreatDoor
/- A world later than another: all that was there reads as it did. No program is named here. -/
namespace Go.Proofs.YtnffjfjhbjeaiaaGreatDoor
open Go.RowKit
/-- All that was there is there. -/
def Later (w w' : World) : Prop := Below w.heap.size w w'
section
variable {w w1 w2 : World}
theorem Later.refl (w : World) : Later w w := Below.refl _ _
theorem Later.alloc (h : Later w w1) (o : Obj) : Later w (w1.alloc o) := Below.alloc h h.size o
theorem Later.drew (h : Later w w1) : Later w w1.drew := Below.drew h
theorem Later.drewN (h : Later w w1) (n : Nat) : Later w (w1.drewN n) := Bdrawn h n
theorem Later.call (h : Later w w1) (k : Below w1.heap.size w1 w2) : Later w w2 := Below.trans h (k.mono h.size)
theorem Later.trans (h : Later w w1) (k : Later w1 w2) : Later w w2 := h.call k
theorem Later.set (h : Later w w1) {p : Addr} (hp : w.heap.size ≤ p.block) (u : Value) : Later w (w1.setCell p u) := Below.setCell h hp u
theorem Later.cell {p : Addr} {v : Value} (h : Later w w1) (hc : w.cell? p = some v) : w1.cell? p = some v := (Below.cell h (World.block_lt_of_cell? _ _ hc)).trans hc
theorem Later.blk {g : Nat} {t : TypeId} {cs : Array Value} (h : Later w w1) (hb : Blk w g t cs) : Blk w1 g t cs := hb.below h hb.lt
theorem Later.below {B : Nat} {w0 : World} (h : Later w w1) (hb : Below B w0 w) (hB : B ≤ w.heap.size) : Below B w0 w1 := hb.trans (Below.mono h hB)
end
end Go.Proofs.YtnffjfjhbjeaiaaGreatDoor
