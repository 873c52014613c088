/- Lemmas for the statements of this seat: contracts of functions and the plain laws. -/
import Derived.BigQuiet
import Derived.Deep.DeepCutAuto
import Derived.Deep.RegionHeld3
import Derived.Ground.Names2Prog
import Derived.Ground.SlgnProg
import Derived.Shelf.Slices.Cells
import Derived.Shelf.Slices.Clone
import Derived.Shelf.Slices.Delete
import Derived.Shelf.Slices.Empties
import Derived.Shelf.Slices.Reverse
import Derived.Shelf.Slices.SearchI
import Derived.Shelf.Slices.Turned
import Derived.Shelf.SlicesE.Clone
import Derived.Shelf.Small.Wraps
import Derived.Test.YtmmgdgfpemkdnaaGreatProg
import Derived.Test.YtmmgdgfpemkdnaaGreatZ02
set_option linter.unusedVariables false
/- Layer 11 (net): which number nobody uses: contract. -/
namespace Go.Proofs.YtmmgdgfpemkdnaaGreat
open Go.RowKit

/-- The net's rows are of a length that can be gone through. -/
def NodeD.ok (v : NodeD) : Prop := v.op.wide ∧ v.op.s.length ≤ 1048576 ∧ v.ins.length ≤ 1048576 ∧ v.p.length ≤ 1048576 ∧ (∀ s ∈ v.p, s.length ≤ 1048576) ∧ ∀ z ∈ v.ins, -9223372036854775808 ≤ z ∧ z ≤ 9223372036854775807
def NetD.ok (n : NetD) : Prop := n.inn.length ≤ 1048576 ∧ n.nodes.length ≤ 1048576 ∧ ∀ v ∈ n.nodes, v.ok

/-- One node's cells, from the place o of block b on. -/
def NodeAt (w : World) (b o : Nat) (v : NodeD) (S : Option Addr) (c : Nat) (I : Option Addr) (d : Nat) (Q : Option Addr) (q : Nat) : Prop :=
    (w.cell? ⟨b, o, none⟩ = some (.int .i64 v.op.kind) ∧ w.cell? ⟨b, o + 1, none⟩ = some (.int .i64 v.op.k) ∧ w.cell? ⟨b, o + 2, none⟩ = some (.int .i64 v.op.width) ∧
    w.cell? ⟨b, o + 3, none⟩ = some (.int .i64 v.op.step) ∧ w.cell? ⟨b, o + 4, none⟩ = some (.int .i64 v.op.side) ∧ w.cell? ⟨b, o + 5, none⟩ = some (.int .i64 v.op.frm) ∧
    w.cell? ⟨b, o + 6, none⟩ = some (.int .i64 v.op.to) ∧ w.cell? ⟨b, o + 7, none⟩ = some (.slice S v.op.s.length c) ∧
    w.cell? ⟨b, o + 8, none⟩ = some (.slice I v.ins.length d) ∧ w.cell? ⟨b, o + 9, none⟩ = some (.slice Q v.p.length q)) ∧
    Ints .i64 w S v.op.s ∧ Ints .i64 w I v.ins ∧ Shps w Q v.p
theorem NodeAt.below {w w' : World} {b o : Nat} {v : NodeD} {S : Option Addr} {c : Nat} {I : Option Addr} {d : Nat} {Q : Option Addr} {q : Nat} (h : NodeAt w b o v S c I d Q q) (hb : Below w.heap.size w w') : NodeAt w' b o v S c I d Q q := by
  obtain ⟨⟨y0, y1, y2, y3, y4, y5, y6, y7, y8, y9⟩, h1, h2, h3⟩ := h
  exact ⟨⟨cell_below hb y0, cell_below hb y1, cell_below hb y2, cell_below hb y3, cell_below hb y4, cell_below hb y5, cell_below hb y6, cell_below hb y7, cell_below hb y8, cell_below hb y9⟩, h1.below hb (Nat.le_refl _), h2.below hb (Nat.le_refl _), h3.below hb (Nat.le_refl _)⟩
theorem Nodes.at_ {w : World} {A : Option Addr} {ns : List NodeD} (h : Nodes w A ns) {j : Nat} (hj : j < ns.length) :
    ∃ b off S c I d Q q, A = some ⟨b, off, none⟩ ∧ NodeAt w b (off + j * 10) ns[j] S c I d Q q ∧ (ns[j].op.s.length ≤ c ∧ c ≤ 9223372036854775807) ∧ (ns[j].ins.length ≤ d ∧ d ≤ 9223372036854775807) ∧ (ns[j].p.length ≤ q ∧ q ≤ 9223372036854775807) := by
  obtain ⟨b, off, S, c, I, d, Q, q, e, _, y0, y1, y2, y3, y4, y5, y6, y7, y8, y9, ⟨h1, h1'⟩, ⟨h2, h2'⟩, h3, h3'⟩ := h j hj
  exact ⟨b, off, S, c, I, d, Q, q, e, ⟨⟨y0, y1, y2, y3, y4, y5, y6, y7, y8, y9⟩, h1, h2, h3⟩, h1', h2', h3'⟩

namespace Nt
/-- What is used by the first k nodes, and by the ins l of the next one. -/
def usedMid (ns : List NodeD) (n k : Nat) (l : List Int) : List Bool := (nums n).map fun id => isUsed (ns.take k) id || l.contains id
theorem usedMid_len (ns : List NodeD) (n k : Nat) (l : List Int) : (usedMid ns n k l).length = n + 1 := by simp [usedMid, nums]
theorem usedMid_zero (ns : List NodeD) (n : Nat) : usedMid ns n 0 [] = List.replicate (n + 1) false := by
  unfold usedMid
  rw [List.eq_replicate_iff]
  refine ⟨by simp [nums], fun b hb => ?_⟩
  obtain ⟨x, _, rfl⟩ := List.mem_map.1 hb
  simp [isUsed]
theorem usedMid_next (ns : List NodeD) (n : Nat) {k : Nat} (hk : k < ns.length) : usedMid ns n k ns[k].ins = usedMid ns n (k + 1) [] := by
  unfold usedMid
  apply List.map_congr_left
  intro id _
  rw [List.take_succ_eq_append_getElem hk]
  simp only [isUsed, List.any_append, List.any_cons, List.any_nil, List.contains_nil, Bool.or_false]
theorem usedMid_in (ns : List NodeD) (n k : Nat) (l : List Int) {id : Int} (h0 : 0 ≤ id) (h1 : id ≤ n) : usedMid ns n k (l ++ [id]) = (usedMid ns n k l).set id.toNat true := by
  apply List.ext_getElem?
  intro j
  rw [List.getElem?_set]
  unfold usedMid nums
  simp only [List.map_map, List.getElem?_map, List.length_map, List.length_range]
  by_cases hj : j < n + 1
  · rw [List.getElem?_range hj]
    by_cases e : id.toNat = j
    · subst e
      have : ((id.toNat : Nat) : Int) = id := by omega
      simp [hj, this]
    · have e2 : (j : Int) ≠ id := by omega
      simp [e, e2]
  · rw [List.getElem?_eq_none (by simp; omega)]
    simp
    intro q; omega
theorem usedMid_all (ns : List NodeD) : usedMid ns ns.length ns.length [] = (nums ns.length).map (isUsed ns) := by
  unfold usedMid
  apply List.map_congr_left
  intro id _
  simp
/-- The unused ones of the first numbers. -/
def unusedTo (ns : List NodeD) (k : Nat) : List Int := ((List.range k).map fun i : Nat => (i : Int)).filter fun id => !isUsed ns id
theorem unusedTo_succ (ns : List NodeD) (k : Nat) : unusedTo ns (k + 1) = if isUsed ns k then unusedTo ns k else unusedTo ns k ++ [(k : Int)] := by
  unfold unusedTo
  rw [List.range_succ, List.map_append, List.filter_append]
  cases h : isUsed ns k <;> simp [h]
theorem unusedTo_all (ns : List NodeD) : unusedTo ns (ns.length + 1) = unused ns := rfl
theorem unusedTo_len (ns : List NodeD) (k : Nat) : (unusedTo ns k).length ≤ k := by
  unfold unusedTo
  exact Nat.le_trans (List.length_filter_le _ _) (by simp)
end Nt
theorem bool_info : (Tryz.prog.info? 4).map (fun i => (i.zero, i.size, i.bytes)) = some (some (.bool false), 1, 1) := by kernel_rfl
theorem made_one (v : Value) (n : Nat) : (madeCells #[v] n).toList = List.replicate n v := by
  rw [List.eq_replicate_iff]
  refine ⟨by simp [madeCells], fun b hb => ?_⟩
  simp [madeCells] at hb
  obtain ⟨x, _, rfl⟩ := hb
  simp [Nat.mod_one]

set_option maxRecDepth 20000 in
set_option maxHeartbeats 8000000 in
theorem net_unused (A N : Option Addr) (c d : Nat) (n : NetD) (w : World) (hok : n.ok) (hR : NetR w A N n) (hd : n.nodes.length ≤ d) (hins : ∀ v ∈ n.nodes, ∀ i ∈ v.ins, 0 ≤ i ∧ i ≤ n.nodes.length) :
    Calls Tryz.prog 73 #[.agg #[.slice A n.inn.length c, .slice N n.nodes.length d]] w fun e w' => e = .returned (.tuple #[.int .i64 (Nt.loss n.nodes), .bool (Nt.lossOk n.nodes)]) ∧ Below w.heap.size w w' := by
  obtain ⟨i0, hi, hz0, hz1, hz2⟩ := info_parts bool_info
  have hnl := hok.2.1
  have hokn := hok.2.2
  have HR := Lib.hid hR
  have Hins := Lib.hid hins
  have Hokn := Lib.hid hokn
  clear hR hins hokn
  clear hok
  have e1 : IntKind.i64.wrap ((n.nodes.length : Int) + 1) = ((n.nodes.length + 1 : Nat) : Int) := by rw [IntWalk.i64_in _ (by omega)]; omega
  go_enter Tryz.func73, Tryz.ntmps73
  go_wp2_with (at_make; refine wpList_make_full _ rfl _ _ 71 rfl w.heap.size 4 i0 (.bool false) 1 Tryz.underlying71 hi hz0 hz1 _ _ _ _ (n.nodes.length + 1) rfl rfl (by first | rfl | simp | (go_simp; rfl)) (by first | rfl | simp | (go_simp; rfl)) ?b2 ?b3 ?b4 ?_)
  case b2 => rw [hz2]; omega
  case b3 => unfold maxLen; omega
  case b4 => simp
  intro w1 hown hgrow
  have hblk := own_cur hown
  rw [made_one] at hblk
  have hk1 : Blk w1 (w.heap.size + 1) 4 ((Nt.usedMid n.nodes n.nodes.length 0 []).map Value.bool).toArray := by
    rw [Nt.usedMid_zero, List.map_replicate]
    simpa [Blk] using hblk
  have hb1 : Below w.heap.size w w1 := ((Below.refl _ w).alloc (Nat.le_refl _) _).grown hgrow (by simp) (by simp)
  have hx1 : w1.cell? ⟨w.heap.size, 1, none⟩ = some (.slice N n.nodes.length d) := hgrow.cell (by simp) (by simp)
  have HK := Lib.hid hk1
  clear hblk hk1 hown hgrow
  go_wp2_with fail
  go_loopw [21] (fun i wr => ∃ k : Nat, k ≤ n.nodes.length ∧ i = .int .i64 k ∧ Blk wr (w.heap.size + 1) 4 ((Nt.usedMid n.nodes n.nodes.length k []).map Value.bool).toArray ∧ Below w.heap.size w wr) (fun i _ => n.nodes.length - (intOf i).toNat)
  case atStart => exact ⟨0, Nat.zero_le _, rfl, HK.out, hb1⟩
  case round =>
    obtain ⟨k, hk, rfl, hblk, hbw⟩ := hrel
    have Hblk := Lib.hid hblk
    clear hblk
    clear HK hb1 hx1
    by_cases hlt : k < n.nodes.length
    · obtain ⟨b, off, S, sc, I, ic, Q, qc, rfl, hNA, -, hI, -⟩ := HR.out.2.at_ hlt
      have hnok := Hokn.out _ (List.getElem_mem hlt)
      have hin := Hins.out _ (List.getElem_mem hlt)
      have HN := Lib.hid (Nt.usedMid_next n.nodes n.nodes.length hlt)
      have hil := hnok.2.2.1
      generalize n.nodes[k] = v at *
      obtain ⟨⟨y0, y1, y2, y3, y4, y5, y6, y7, y8, y9⟩, -⟩ := hNA.below hbw
      have HNA := Lib.hid hNA
      have Hnok := Lib.hid hnok
      have Hin := Lib.hid hin
      clear hNA hnok hin
      have hb2 := hbw.alloc hbw.size (.cells #[.int .i64 v.op.kind, .int .i64 v.op.k, .int .i64 v.op.width, .int .i64 v.op.step, .int .i64 v.op.side, .int .i64 v.op.frm, .int .i64 v.op.to, .slice S v.op.s.length sc, .slice I v.ins.length ic, .slice Q v.p.length qc] 67)
      have HB2 := Lib.hid (Hblk.out.alloc (.cells #[.int .i64 v.op.kind, .int .i64 v.op.k, .int .i64 v.op.width, .int .i64 v.op.step, .int .i64 v.op.side, .int .i64 v.op.frm, .int .i64 v.op.to, .slice S v.op.s.length sc, .slice I v.ins.length ic, .slice Q v.p.length qc] 67))
      go_wp2_with fail
      clear y0 y1 y2 y3 y4 y5 y6 y7 y8 y9
      go_loopw [28] (fun i wx => ∃ m : Nat, m ≤ v.ins.length ∧ i = .int .i64 m ∧ Blk wx (w.heap.size + 1) 4 ((Nt.usedMid n.nodes n.nodes.length k (v.ins.take m)).map Value.bool).toArray ∧ Below w.heap.size w wx) (fun i _ => v.ins.length - (intOf i).toNat)
      case atStart => exact ⟨0, Nat.zero_le _, rfl, by rw [List.take_zero]; exact HB2.out, hb2⟩
      case round =>
        obtain ⟨m, hm, rfl, hblx, hbx⟩ := hrel
        clear HB2 hb2 Hblk hbw
        by_cases hlm : m < v.ins.length
        · have hI2 := (HNA.out.below hbx).2.2.1
          obtain ⟨b1, off1, rfl, -, hc⟩ := hI2 m hlm
          rw [getD_at hlm] at hc
          have hr := Hin.out _ (List.getElem_mem hlm)
          obtain ⟨u, hu⟩ : ∃ u : Nat, v.ins[m] = u := ⟨v.ins[m].toNat, by omega⟩
          have HM := Lib.hid (show Nt.usedMid n.nodes n.nodes.length k (v.ins.take (m + 1)) = (Nt.usedMid n.nodes n.nodes.length k (v.ins.take m)).set u true by rw [List.take_succ_eq_append_getElem hlm, Nt.usedMid_in _ _ _ _ hr.1 hr.2, hu]; rfl)
          rw [hu] at hc hr
          have hul : u < n.nodes.length + 1 := by omega
          have hcg := hblx.cell u
          have hfg := hblx.frozen u
          have hcg2 : wr.cell? ⟨w.heap.size + 1, u, none⟩ = some (.bool ((Nt.usedMid n.nodes n.nodes.length k (v.ins.take m)).getD u false)) := by
            rw [hcg]
            have := Nt.usedMid_len n.nodes n.nodes.length k (v.ins.take m)
            rw [List.getD_eq_getElem?_getD, List.getElem?_eq_getElem (by omega)]
            simp [this, hul]
          have hbs := hblx.set_ u (.bool true)
          have HBS := Lib.hid (show Blk (wr.setCell ⟨w.heap.size + 1, u, none⟩ (.bool true)) (w.heap.size + 1) 4 (((Nt.usedMid n.nodes n.nodes.length k (v.ins.take m)).set u true).map Value.bool).toArray by simpa [List.map_set] using hbs)
          have hbx2 := hbx.setCell (p := ⟨w.heap.size + 1, u, none⟩) (by simp) (.bool true)
          clear hcg hbs hI2 hblx hu
          have u0 : (0 : Int) ≤ u := by omega
          have u1 : (u : Int) < ((n.nodes.length + 1 : Nat) : Int) := by omega
          go_wp2_with fail
          go_roundw
          case rel => exact ⟨m + 1, by omega, by go_num, by rw [HM.out]; exact HBS.out, hbx2⟩
          case measure => simp [intOf]; omega
        · obtain rfl : m = v.ins.length := by omega
          rw [List.take_length] at hblx
          have Hblx := Lib.hid hblx
          clear hblx
          go_wp2_with fail
          go_roundw
          case rel => exact ⟨k + 1, by omega, by go_num, by rw [← HN.out]; exact Hblx.out, hbx⟩
          case measure => simp [intOf]; omega
    · obtain rfl : k = n.nodes.length := by omega
      have hU := Nt.usedMid_all n.nodes
      have hBU := Hblk.out
      rw [hU] at hBU
      have HBU := Lib.hid hBU
      have HU := Lib.hid hU
      clear hBU hU
      clear Hblk
      go_wp2_with fail
      go_loopw [9, 10, 39] (fun l c i wx => wx = wr ∧ ∃ k : Nat, k ≤ n.nodes.length + 1 ∧ i = .int .i64 k ∧ l = .int .i64 ((Nt.unusedTo n.nodes k).getLastD 0) ∧ c = .int .i64 ((Nt.unusedTo n.nodes k).length : Nat)) (fun _ _ i _ => n.nodes.length + 1 - (intOf i).toNat)
      case atStart => exact ⟨rfl, 0, Nat.zero_le _, rfl, rfl, rfl⟩
      case round =>
        obtain ⟨rfl, k, hk, rfl, rfl, rfl⟩ := hrel
        have hul := Nt.unusedTo_len n.nodes k
        by_cases hlt : k < n.nodes.length + 1
        · have hcf : ∀ b, Nt.isUsed n.nodes k = b → wr.cell? ⟨w.heap.size + 1, k, none⟩ = some (.bool b) := fun b hb => by
            rw [← hb, HBU.out.cell]
            simp [Nt.nums, hlt]
          have hs := Nt.unusedTo_succ n.nodes k
          have k1 : (k : Int) < ((n.nodes.length + 1 : Nat) : Int) := by omega
          have HS := Lib.hid hs
          clear hs
          obtain ⟨L0, hL0⟩ : ∃ L0, (Nt.unusedTo n.nodes k).getLastD 0 = L0 := ⟨_, rfl⟩
          obtain ⟨c0, hc0⟩ : ∃ c0, (Nt.unusedTo n.nodes k).length = c0 := ⟨_, rfl⟩
          rw [hc0] at hul
          rw [hL0, hc0]
          have HL0 := Lib.hid hL0
          have Hc0 := Lib.hid hc0
          clear hL0 hc0
          cases hu : Nt.isUsed n.nodes k
          · have hc := hcf _ hu
            have HU := Lib.hid hu
            clear hu hcf
            go_wp2_with fail
            go_roundw
            case rel => exact ⟨trivial, k + 1, by omega, by go_num, by rw [HS.out, HU.out]; simp, by rw [HS.out, HU.out, if_neg (by simp), List.length_append, Hc0.out]; go_num⟩
            case measure => simp [intOf]; omega
          · have hc := hcf _ hu
            have HU := Lib.hid hu
            clear hu hcf
            go_wp2_with fail
            go_roundw
            case rel => exact ⟨trivial, k + 1, by omega, by go_num, by rw [HS.out, HU.out, if_pos rfl, HL0.out], by rw [HS.out, HU.out, if_pos rfl, Hc0.out]⟩
            case measure => simp [intOf]; omega
        · obtain rfl : k = n.nodes.length + 1 := by omega
          rw [Nt.unusedTo_all] at *
          have hl : (Nt.unused n.nodes).getLastD 0 = Nt.loss n.nodes := rfl
          rw [hl]
          have hlo : Nt.lossOk n.nodes = decide ((Nt.unused n.nodes).length = 1 ∧ Nt.loss n.nodes ≠ 0) := rfl
          obtain ⟨L, hL⟩ : ∃ L, Nt.loss n.nodes = L := ⟨_, rfl⟩
          obtain ⟨c', hc'⟩ : ∃ c', (Nt.unused n.nodes).length = c' := ⟨_, rfl⟩
          rw [hL, hc'] at hlo
          rw [hc'] at hul
          rw [hL, hc']
          have HLs := Lib.hid hL
          clear hL hl hc'
          by_cases h1 : c' = 1
          · subst h1
            have k1 : ¬ (((n.nodes.length + 1 : Nat) : Int) < ((n.nodes.length + 1 : Nat) : Int)) := by omega
            have HL := Lib.hid hlo
            clear hlo
            go_wp2_with fail
            go_ret2
            exact ⟨by rw [HL.out, HLs.out]; by_cases h : L = 0 <;> simp [h], hbw⟩
          · have c1 : ((c' : Int) == 1) = false := by simp; omega
            have HL := Lib.hid (show Nt.lossOk n.nodes = false by rw [hlo]; simp [h1])
            clear hlo h1
            go_wp2_with fail
            go_ret2
            exact ⟨by rw [HL.out, HLs.out]; rfl, hbw⟩
end Go.Proofs.YtmmgdgfpemkdnaaGreat
/- Rows of the call's own: what they read as. No program is named here. -/
namespace Go.Proofs.YtmmgdgfpemkdnaaGreat
open Go.RowKit
theorem own_form {w : World} {B e s n : Nat} {v : Value} {xs : List Value} (h : w.ownsRow B e s v n xs) : ∃ A c, v = .slice A n c := by
  rcases h.2 with ⟨rfl, h0⟩ | ⟨g, cap, cur, rfl, _⟩
  · exact ⟨none, 0, by rw [h0]⟩
  · exact ⟨_, cap, rfl⟩
theorem own_ints {w : World} {B e n c : Nat} {A : Option Addr} {zs : List Int} (h : w.ownsRow B e 1 (.slice A zs.length c) n (zs.map (Value.int .i64))) : Ints .i64 w A zs ∧ zs.length ≤ c ∧ c ≤ 9223372036854775807 := by
  obtain ⟨A1, c1, e1, rfl, hI⟩ := Ints.of_own h
  injection e1 with e1 _ e2
  subst e1 e2
  refine ⟨hI, ?_⟩
  rcases h.2 with ⟨h1, h0⟩ | ⟨g, cap, cur, h1, _, _, h3, h4, _⟩
  · injection h1 with _ _ h1; omega
  · injection h1 with _ _ h1; unfold maxLen at h4; omega
theorem ownsRow_new {w : World} {B e s n : Nat} {v : Value} {xs : List Value} (h : w.ownsRow B e s v n xs) (o : Obj) : (w.alloc o).ownsRow B e s v n xs := ownsRow_heap h fun g hg => Below.heap_alloc w o g (h.lt g hg).2
theorem ownsRow_grown {w w' : World} {B e s n : Nat} {v : Value} {xs : List Value} {row : Option Nat} (h : w.ownsRow B e s v n xs) (hg : w.grownBy w' row) (hr : ∀ b, v.ownBlock = some b → row ≠ some b) : w'.ownsRow B e s v n xs := ownsRow_heap h fun g k => hg.block g (h.lt g k).2 fun e => hr g k e.symm
theorem ownsRow_fr {w w' : World} {B e s n : Nat} {v : Value} {xs : List Value} {S : Nat → Prop} (h : w.ownsRow B e s v n xs) (hg : Fr S w w') (hr : ∀ b, v.ownBlock = some b → ¬ S b) : w'.ownsRow B e s v n xs := ownsRow_heap h fun g k => hg.2 g (h.lt g k).2 (hr g k)
theorem right_short {s : List Int} (h : Sh.right s = true) : 0 < s.length ∧ s.length ≤ 4 := by
  obtain ⟨_, a, b, _⟩ := Sh.right_mul h
  exact ⟨by omega, a⟩
end Go.Proofs.YtmmgdgfpemkdnaaGreat
/- Layer 11 (net): the shapes by numbers: contract. -/
namespace Go.Proofs.YtmmgdgfpemkdnaaGreat
open Go.RowKit

theorem shpT_info : (Tryz.prog.info? 23).map (fun i => (i.zero, i.size, i.bytes)) = some (some (.slice none 0 0), 1, 24) := by kernel_rfl
def LayPost (r : List (List Int) × Int) (n : Nat) (w : World) (e : Ending) (w' : World) : Prop :=
  Below w.heap.size w w' ∧ ((r.2 = 0 ∧ ∃ g, e = .returned (.tuple #[.slice (some ⟨g, 0, none⟩) (n + 1) (n + 1), .int .i64 0]) ∧ w.heap.size ≤ g ∧ ShpRow w' g 23 r.1 ∧ r.1.length = n + 1) ∨ (r.2 ≠ 0 ∧ e = .returned (.tuple #[.slice none 0 0, .int .i64 r.2])))
namespace Nt
def insMid (sh : List (List Int)) (l : List Int) (m : Nat) : List (List Int) := pick sh (l.take m) ++ List.replicate (l.length - m) []
theorem insMid_len (sh : List (List Int)) (l : List Int) {m : Nat} (h : m ≤ l.length) : (insMid sh l m).length = l.length := by simp [insMid, pick]; omega
theorem insMid_zero (sh : List (List Int)) (l : List Int) : insMid sh l 0 = List.replicate l.length [] := by simp [insMid, pick]
theorem insMid_all (sh : List (List Int)) (l : List Int) : insMid sh l l.length = pick sh l := by simp [insMid]
theorem insMid_succ (sh : List (List Int)) (l : List Int) {m : Nat} (h : m < l.length) : insMid sh l (m + 1) = (insMid sh l m).set m (sh.getD l[m].toNat []) := by
  unfold insMid
  rw [show l.length - m = (l.length - (m + 1)) + 1 by omega, List.replicate_succ, List.take_succ_eq_append_getElem h]
  unfold pick
  rw [List.map_append, List.set_append_right _ _ (by simp; omega)]
  rw [show m - ((l.take m).map fun i => sh.getD i.toNat []).length = 0 by simp; omega, List.set_cons_zero, List.append_assoc]
  rfl
end Nt
theorem lay_short {n : NetD} (hin : Sh.right n.inn = true) {k : Nat} (hk : k ≤ (Nt.sorted n.nodes).length) {sh : List (List Int)} (h : Nt.lay n.nodes (Nt.start n) ((Nt.sorted n.nodes).take k) = (sh, 0)) : Nt.Good ((Nt.sorted n.nodes).take k) sh ∧ sh.length = n.nodes.length + 1 := by
  have h2 := Nt.lay_good hin k hk (by rw [h])
  have h3 := Nt.lay_len (ns := n.nodes) (a := (Nt.sorted n.nodes).take k) (sh := Nt.start n) (by rw [h])
  rw [h] at h2 h3
  exact ⟨h2, by simpa [Nt.start] using h3⟩
set_option maxRecDepth 20000 in
set_option maxHeartbeats 8000000 in
theorem net_lay (A N O : Option Addr) (c d oc : Nat) (n : NetD) (w : World) (hok : n.ok) (hR : NetR w A N n) (hd : n.nodes.length ≤ d) (hO : Ints .i64 w O (Nt.sorted n.nodes)) (hin : Sh.right n.inn = true) (hins : ∀ v ∈ n.nodes, ∀ i ∈ v.ins, 0 ≤ i ∧ i ≤ n.nodes.length) :
    Calls Tryz.prog 72 #[.agg #[.slice A n.inn.length c, .slice N n.nodes.length d], .slice O (Nt.sorted n.nodes).length oc] w (LayPost (Nt.lay n.nodes (Nt.start n) (Nt.sorted n.nodes)) n.nodes.length w) := by
  obtain ⟨i0, hi, hz0, hz1, hz2⟩ := info_parts shpT_info
  have hnl := hok.2.1
  have hil := hok.1
  have hokn := hok.2.2
  have hol : (Nt.sorted n.nodes).length ≤ n.nodes.length := Kn.order_len_le _ _
  have hrng : ∀ u ∈ Nt.sorted n.nodes, 1 ≤ u ∧ u ≤ n.nodes.length := Kn.order_rng _ _
  have hbeh : ∀ a b u, Nt.sorted n.nodes = a ++ u :: b → ∀ i ∈ Nt.insF n.nodes u, i = 0 ∨ i ∈ a := fun a b u h => Kn.order_behind _ _ h
  obtain ⟨os, hos⟩ : ∃ os, Nt.sorted n.nodes = os := ⟨_, rfl⟩
  have hshort : ∀ k, k ≤ os.length → ∀ sh, Nt.lay n.nodes (Nt.start n) (os.take k) = (sh, 0) → Nt.Good (os.take k) sh ∧ sh.length = n.nodes.length + 1 := fun k hk sh h => by
    have := lay_short (n := n) hin (k := k) (by rw [hos]; exact hk) (sh := sh) (by rw [hos]; exact h)
    rw [hos] at this
    exact this
  rw [hos] at hO hol hrng hbeh ⊢
  have hk0 := Blk.new w 26 #[.slice A n.inn.length c, .slice N n.nodes.length d]
  have hb0 : Below w.heap.size w (w.alloc (.cells #[.slice A n.inn.length c, .slice N n.nodes.length d] 26)) := (Below.refl _ _).alloc (Nat.le_refl _) _
  have HR := Lib.hid hR
  have Hins := Lib.hid hins
  have Hokn := Lib.hid hokn
  have HO := Lib.hid hO
  have Hin := Lib.hid hin
  have Hrng := Lib.hid hrng
  have Hbeh := Lib.hid hbeh
  have Hshort := Lib.hid hshort
  have Hos := Lib.hid hos
  clear hR hins hokn hO hin hrng hbeh hshort hos
  clear hok
  have e1 : IntKind.i64.wrap ((n.nodes.length : Int) + 1) = ((n.nodes.length + 1 : Nat) : Int) := by rw [IntWalk.i64_in _ (by omega)]; omega
  go_enter Tryz.func72, Tryz.ntmps72
  go_wp2_with (at_make; refine wpList_make_full _ rfl _ _ 65 rfl w.heap.size 23 i0 (.slice none 0 0) 1 Tryz.underlying65 hi hz0 hz1 _ _ _ _ (n.nodes.length + 1) rfl rfl (by first | rfl | simp | (go_simp; rfl)) (by first | rfl | simp | (go_simp; rfl)) ?b2 ?b3 ?b4 ?_)
  case b2 => rw [hz2]; omega
  case b3 => unfold maxLen; omega
  case b4 => simp
  intro w1 hown hgrow
  have hblk := own_cur hown
  rw [made_one] at hblk
  have hrow : ShpRow w1 (w.heap.size + 1) 23 (List.replicate (n.nodes.length + 1) []) := ShpRow.new (by simpa [Blk] using hblk)
  have hb1 : Below w.heap.size w w1 := hb0.grown hgrow (by simp) (by simp)
  have hbox : Blk w1 w.heap.size 26 #[.slice A n.inn.length c, .slice N n.nodes.length d] := hk0.grown hgrow (by simp)
  have x0 : w1.cell? ⟨w.heap.size, 0, none⟩ = some (.slice A n.inn.length c) := by rw [hbox.cell]; rfl
  have Hbox := Lib.hid hbox
  have Hrow := Lib.hid hrow
  clear hbox hrow
  clear hblk hown hgrow hk0
  go_wp2_with fail
  refine (shape_copy A c n.inn _ (by omega) (HR.out.1.below hb1 (Nat.le_refl _))).mono ?_
  rintro e w2 ⟨g, rfl, hg, hB, h2⟩
  have hgl : w.heap.size + 1 < w1.heap.size := Hrow.out.lt
  have hb2 := hb1.trans (h2.mono hb1.size)
  have hrow2 := Hrow.out.below h2 (Nat.le_refl _)
  have hbox2 := Hbox.out.below h2 Hbox.out.lt
  obtain ⟨S0, c0, y0, -⟩ := hrow2.at_ (j := 0) (by simp)
  have f0 : w2.frozen? ⟨w.heap.size + 1, 0, none⟩ = false := by obtain ⟨vs, _, hk, _⟩ := hrow2; exact hk.frozen 0
  have hIn : Ints .i64 w2 (some ⟨g, 0, none⟩) n.inn := Ints.of_row fun j hj => by rw [Nat.zero_add, show w2.cell? ⟨g, j, none⟩ = _ from (show Blk w2 g 3 _ from hB).cell j]; simp [hj]
  have hrow3 := hrow2.set_ (i := 0) hIn (Nat.le_refl _) (by omega) (fun a h => by injection h with h; subst h; simp; omega)
  have hbox3 := hbox2.far (p := ⟨w.heap.size + 1, 0, none⟩) (by simp) (.slice (some ⟨g, 0, none⟩) n.inn.length n.inn.length)
  have hb3 := hb2.setCell (p := ⟨w.heap.size + 1, 0, none⟩) (by simp) (.slice (some ⟨g, 0, none⟩) n.inn.length n.inn.length)
  rw [show (List.replicate (n.nodes.length + 1) ([] : List Int)).set 0 n.inn = Nt.start n from rfl] at hrow3
  have Hrow2 := Lib.hid hrow2
  have Hrow3 := Lib.hid hrow3
  have Hbox2 := Lib.hid hbox2
  have Hbox3 := Lib.hid hbox3
  have HB := Lib.hid hB
  have HIn := Lib.hid hIn
  clear hrow2 hrow3 hbox2 hbox3 hB hIn
  clear x0 Hrow Hbox
  go_wp2_with fail
  clear y0 f0
  go_loopw [27] (fun i wr => ∃ k : Nat, k ≤ os.length ∧ i = .int .i64 k ∧ Blk wr w.heap.size 26 #[.slice A n.inn.length c, .slice N n.nodes.length d] ∧ Below w.heap.size w wr ∧ ∃ sh, Nt.lay n.nodes (Nt.start n) (os.take k) = (sh, 0) ∧ ShpRow wr (w.heap.size + 1) 23 sh) (fun i _ => os.length - (intOf i).toNat)
  case atStart => exact ⟨0, Nat.zero_le _, rfl, Hbox3.out, hb3, Nt.start n, rfl, Hrow3.out⟩
  case round =>
    obtain ⟨k, hk, rfl, hbox, hbw, sh, hlay, hrow⟩ := hrel
    clear Hrow2 Hrow3 Hbox2 Hbox3 HB HIn hb3 hb2 hb1 h2 hg hgl
    obtain ⟨hgood, hshl⟩ := Hshort.out k hk sh hlay
    have hgl : w.heap.size + 1 < wr.heap.size := hrow.lt
    by_cases hlt : k < os.length
    · obtain ⟨b, off, rfl, -, hc⟩ := HO.out.below hbw (Nat.le_refl _) k hlt
      rw [getD_at hlt] at hc
      have hr := Hrng.out _ (List.getElem_mem hlt)
      have hsplit : os = os.take k ++ os[k] :: os.drop (k + 1) := by rw [← List.drop_eq_getElem_cons hlt, List.take_append_drop]
      have hbe := Hbeh.out _ _ _ hsplit
      obtain ⟨j, hj⟩ : ∃ j : Nat, os[k] = (j : Int) + 1 := ⟨(os[k] - 1).toNat, by omega⟩
      have hjl : j < n.nodes.length := by omega
      have hlay' := fun h : (Nt.layStep n.nodes sh os[k]).2 = 0 => Nt.lay_snoc (id := os[k]) hlay h
      have hfail := fun h : (Nt.layStep n.nodes sh os[k]).2 ≠ 0 => Nt.lay_fail (b := os.drop (k + 1)) (id := os[k]) hlay h
      rw [← List.take_succ_eq_append_getElem hlt] at hlay'
      rw [← hsplit] at hfail
      have hst : Nt.layStep n.nodes sh os[k] = Od.shape n.nodes[j].op n.nodes[j].p (Nt.pick sh n.nodes[j].ins) := by unfold Nt.layStep; rw [hj, Nt.node_at hjl]
      have hiF : Nt.insF n.nodes os[k] = n.nodes[j].ins := by unfold Nt.insF; rw [hj, Nt.node_at hjl]
      rw [hst] at hlay' hfail
      rw [hiF] at hbe
      have hpr := hgood.pick hbe
      rw [hj] at hc hlay'
      rw [show ((j : Int) + 1).toNat = j + 1 by omega] at hlay'
      have hnok := Hokn.out _ (List.getElem_mem hjl)
      have hinr := Hins.out _ (List.getElem_mem hjl)
      obtain ⟨b1, off1, S, sc, I, ic, Q, qc, rfl, hNA, hs1, hI1, hq1⟩ := HR.out.2.at_ hjl
      have hgr : ∀ i ∈ n.nodes[j].ins, Sh.right (sh.getD i.toNat []) = true := fun i hi => hgood i (hbe i hi)
      generalize n.nodes[j] = v at *
      obtain ⟨⟨y0, y1, y2, y3, y4, y5, y6, y7, y8, y9⟩, -⟩ := hNA.below hbw
      have x1 : wr.cell? ⟨w.heap.size, 1, none⟩ = some (.slice (some ⟨b1, off1, none⟩) n.nodes.length d) := by rw [hbox.cell]; rfl
      have j1 : IntKind.i64.wrap ((j : Int) + 1 - 1) = (j : Int) := by rw [IntWalk.i64_in _ (by omega)]; omega
      have j2 : (j : Int) < n.nodes.length := by omega
      have hvi := hnok.2.2.1
      have hkn := Blk.new wr 67 #[.int .i64 v.op.kind, .int .i64 v.op.k, .int .i64 v.op.width, .int .i64 v.op.step, .int .i64 v.op.side, .int .i64 v.op.frm, .int .i64 v.op.to, .slice S v.op.s.length sc, .slice I v.ins.length ic, .slice Q v.p.length qc]
      have hbn : Below wr.heap.size wr (wr.alloc (.cells #[.int .i64 v.op.kind, .int .i64 v.op.k, .int .i64 v.op.width, .int .i64 v.op.step, .int .i64 v.op.side, .int .i64 v.op.frm, .int .i64 v.op.to, .slice S v.op.s.length sc, .slice I v.ins.length ic, .slice Q v.p.length qc] 67)) := (Below.refl _ _).alloc (Nat.le_refl _) _
      have Hbox := Lib.hid hbox
      have Hrow := Lib.hid hrow
      have Hsplit := Lib.hid hsplit
      have Hbe := Lib.hid hbe
      have Hlay' := Lib.hid hlay'
      have Hfail := Lib.hid hfail
      have Hst := Lib.hid hst
      have HiF := Lib.hid hiF
      have Hpr := Lib.hid hpr
      have Hnok := Lib.hid hnok
      have Hinr := Lib.hid hinr
      have HNA := Lib.hid hNA
      have Hgr := Lib.hid hgr
      have Hlay := Lib.hid hlay
      have Hgood := Lib.hid hgood
      have Hkn := Lib.hid hkn
      have Hj := Lib.hid hj
      clear hbox hrow hsplit hbe hlay' hfail hst hiF hpr hnok hinr hNA hgr hlay hgood hkn hj
      go_wp2_with (at_make; refine wpList_make_full _ rfl _ _ 65 rfl wr.heap.size 23 i0 (.slice none 0 0) 1 Tryz.underlying65 hi hz0 hz1 _ _ _ _ v.ins.length rfl rfl (by first | rfl | simp | (go_simp; rfl)) (by first | rfl | simp | (go_simp; rfl)) ?b2 ?b3 ?b4 ?_)
      case b2 => rw [hz2]; omega
      case b3 => unfold maxLen; omega
      case b4 => simp
      intro w3 hown hgrow
      have hblk := own_cur hown
      rw [made_one] at hblk
      have hrow3 : ShpRow w3 (wr.heap.size + 1) 23 (Nt.insMid sh v.ins 0) := by rw [Nt.insMid_zero]; exact ShpRow.new (by simpa [Blk] using hblk)
      have hb3 : Below wr.heap.size wr w3 := hbn.grown hgrow (by simp) (by simp)
      have hkn3 : Blk w3 wr.heap.size 67 #[.int .i64 v.op.kind, .int .i64 v.op.k, .int .i64 v.op.width, .int .i64 v.op.step, .int .i64 v.op.side, .int .i64 v.op.frm, .int .i64 v.op.to, .slice S v.op.s.length sc, .slice I v.ins.length ic, .slice Q v.p.length qc] := Hkn.out.grown hgrow (by simp)
      have z8 : w3.cell? ⟨wr.heap.size, 8, none⟩ = some (.slice I v.ins.length ic) := by rw [hkn3.cell]; rfl
      have Hrow3 := Lib.hid hrow3
      have Hkn3 := Lib.hid hkn3
      clear hrow3 hkn3
      clear hblk hown hgrow y0 y1 y2 y3 y4 y5 y6 y7 y8 y9 x1 hbn Hkn
      go_wp2_with fail
      clear z8
      obtain ⟨wo, rfl⟩ : ∃ wo, wo = wr := ⟨wr, rfl⟩
      go_loopw [44] (fun i wx => ∃ m : Nat, m ≤ v.ins.length ∧ i = .int .i64 m ∧ Blk wx wo.heap.size 67 #[.int .i64 v.op.kind, .int .i64 v.op.k, .int .i64 v.op.width, .int .i64 v.op.step, .int .i64 v.op.side, .int .i64 v.op.frm, .int .i64 v.op.to, .slice S v.op.s.length sc, .slice I v.ins.length ic, .slice Q v.p.length qc] ∧ Below wo.heap.size wo wx ∧ ShpRow wx (wo.heap.size + 1) 23 (Nt.insMid sh v.ins m)) (fun i _ => v.ins.length - (intOf i).toNat)
      case atStart => exact ⟨0, Nat.zero_le _, rfl, Hkn3.out, hb3, Hrow3.out⟩
      case round =>
        obtain ⟨m, hm, rfl, hknx, hbx, hrx⟩ := hrel
        clear Hkn3 Hrow3 hb3
        have hbwx := hbw.trans (hbx.mono hbw.size)
        have hNx := HNA.out.below hbwx
        have hml := Nt.insMid_len sh v.ins hm
        by_cases hlm : m < v.ins.length
        · obtain ⟨b2, off2, rfl, -, hc2⟩ := hNx.2.2.1 m hlm
          rw [getD_at hlm] at hc2
          have hr2 := Hinr.out _ (List.getElem_mem hlm)
          have hg2 := Hgr.out _ (List.getElem_mem hlm)
          have HM := Lib.hid (Nt.insMid_succ sh v.ins hlm)
          obtain ⟨u, hu⟩ : ∃ u : Nat, v.ins[m] = u := ⟨v.ins[m].toNat, by omega⟩
          rw [hu] at hc2 hr2 hg2
          have hul : u < sh.length := by omega
          rw [show ((u : Int)).toNat = u by omega, gets_at hul] at hg2
          obtain ⟨Su, cu, yu, hIu, lu1, lu2, -⟩ := Hrow.out.at_ hul
          obtain ⟨b3, off3, rfl, hb3, -⟩ := hIu 0 (right_short hg2).1
          have yu' := cell_below hbx yu
          have hIu' := hIu.below hbx (Nat.le_refl _)
          have hset := hrx.set_ (i := m) hIu' lu1 lu2 (fun a h => by injection h with h; subst h; simp; omega)
          obtain ⟨Sm, cm, ym, -⟩ := hrx.at_ (j := m) (by omega)
          have fm : wr.frozen? ⟨wo.heap.size + 1, m, none⟩ = false := by obtain ⟨vs, _, hk, _⟩ := hrx; exact hk.frozen m
          have HS := Lib.hid (show ShpRow (wr.setCell ⟨wo.heap.size + 1, m, none⟩ (.slice (some ⟨b3, off3, none⟩) sh[u].length cu)) (wo.heap.size + 1) 23 (Nt.insMid sh v.ins (m + 1)) by
            rw [HM.out, hu, show ((u : Int)).toNat = u by omega, gets_at hul]; exact hset)
          have HKN := Lib.hid (hknx.far (p := ⟨wo.heap.size + 1, m, none⟩) (by simp) (.slice (some ⟨b3, off3, none⟩) sh[u].length cu))
          have hbx2 := hbx.setCell (p := ⟨wo.heap.size + 1, m, none⟩) (by simp) (.slice (some ⟨b3, off3, none⟩) sh[u].length cu)
          have u0 : (0 : Int) ≤ u := by omega
          have u1 : (u : Int) < ((n.nodes.length + 1 : Nat) : Int) := by omega
          have m1 : (m : Int) < v.ins.length := by omega
          clear hset hIu hIu' hknx hrx hNx hg2 hu yu
          go_wp2_with fail
          go_roundw
          case rel => exact ⟨m + 1, by omega, by go_num, HKN.out, hbx2, HS.out⟩
          case measure => simp [intOf]; omega
        · obtain rfl : m = v.ins.length := by omega
          have hpl : (Nt.pick sh v.ins).length = v.ins.length := by simp [Nt.pick]
          rw [Nt.insMid_all] at hrx
          obtain ⟨y0, y1, y2, y3, y4, y5, y6, y7, y9⟩ : wr.cell? ⟨wo.heap.size, 0, none⟩ = some (.int .i64 v.op.kind) ∧ wr.cell? ⟨wo.heap.size, 1, none⟩ = some (.int .i64 v.op.k) ∧ wr.cell? ⟨wo.heap.size, 2, none⟩ = some (.int .i64 v.op.width) ∧ wr.cell? ⟨wo.heap.size, 3, none⟩ = some (.int .i64 v.op.step) ∧ wr.cell? ⟨wo.heap.size, 4, none⟩ = some (.int .i64 v.op.side) ∧ wr.cell? ⟨wo.heap.size, 5, none⟩ = some (.int .i64 v.op.frm) ∧ wr.cell? ⟨wo.heap.size, 6, none⟩ = some (.int .i64 v.op.to) ∧ wr.cell? ⟨wo.heap.size, 7, none⟩ = some (.slice S v.op.s.length sc) ∧ wr.cell? ⟨wo.heap.size, 9, none⟩ = some (.slice Q v.p.length qc) := by
            refine ⟨?_, ?_, ?_, ?_, ?_, ?_, ?_, ?_, ?_⟩
            all_goals (rw [hknx.cell]; rfl)
          have hno := Hnok.out
          have hcall := op_shape v.op S Q (some ⟨wo.heap.size + 1, 0, none⟩) sc qc v.ins.length v.p (Nt.pick sh v.ins) wr (by have := hno.2.1; omega) hNx.2.1 ⟨hNx.2.2.2, hq1.1, hq1.2, fun s hs => by have := hno.2.2.2.2.1 s hs; omega⟩ ⟨hrx.shps, by omega, by omega, fun s hs => by have := (right_short (List.all_eq_true.1 Hpr.out s hs)).2; omega⟩
          rw [hpl] at hcall
          have hrgt := fun h : (Od.shape v.op v.p (Nt.pick sh v.ins)).2 = 0 => right_short (Od.shape_right h)
          have hl2 := Hlay'.out
          have hf2 := Hfail.out
          generalize Od.shape v.op v.p (Nt.pick sh v.ins) = r at *
          have Hcall := Lib.hid hcall
          have Hrgt := Lib.hid hrgt
          have Hl2 := Lib.hid hl2
          have Hf2 := Lib.hid hf2
          clear hcall hrgt hl2 hf2
          clear hNx hrx hknx hpl hno Hlay' Hfail Hst
          go_wp2_with fail
          clear y0 y1 y2 y3 y4 y5 y6 y7 y9
          refine (Hcall.out).mono ?_
          rintro e w4 ⟨S5, d5, rfl, hI5, r1, r2, hf5, hb5⟩
          have hb4 := hbx.trans (hb5.mono hbx.size)
          have hbw4 := hbw.trans (hb4.mono hbw.size)
          by_cases hr2 : r.2 = 0
          · have q1 : (r.2 != 0) = false := by simp [hr2]
            have hrow4 := Hrow.out.below hb4 (Nat.le_refl _)
            have hbox4 := Hbox.out.below hb4 Hbox.out.lt
            have hj1 : j + 1 < sh.length := by omega
            obtain ⟨Sm, cm, ym, -⟩ := hrow4.at_ hj1
            have fm : w4.frozen? ⟨w.heap.size + 1, j + 1, none⟩ = false := by obtain ⟨vs, _, hk, _⟩ := hrow4; exact hk.frozen (j + 1)
            have hset := hrow4.set_ (i := j + 1) hI5 r1 r2 (fun a h => by have := hf5 a h; have := hbx.size; omega)
            have HS := Lib.hid hset
            have HBX := Lib.hid (hbox4.far (p := ⟨w.heap.size + 1, j + 1, none⟩) (by simp) (.slice S5 r.1.length d5))
            have hbw5 := hbw4.setCell (p := ⟨w.heap.size + 1, j + 1, none⟩) (by simp) (.slice S5 r.1.length d5)
            have HL := Lib.hid (Hl2.out hr2)
            have j3 : ((j : Int) + 1) < ((n.nodes.length + 1 : Nat) : Int) := by omega
            have j4 : ((j : Int) + 1).toNat = j + 1 := by omega
            clear hset hrow4 hbox4 hr2
            have HI5 := Lib.hid hI5
            have Hf5 := Lib.hid hf5
            clear hI5 hf5
            go_wp2_with fail
            go_roundw
            case rel => exact ⟨k + 1, by omega, by go_num, HBX.out, hbw5, _, HL.out, HS.out⟩
            case measure => simp [intOf]; omega
          · have q1 : (r.2 != 0) = true := by simp [hr2]
            have HF := Lib.hid (Hf2.out hr2)
            have HR2 := Lib.hid hr2
            have HI5 := Lib.hid hI5
            have Hf5 := Lib.hid hf5
            clear hI5 hf5
            clear hr2
            go_wp2_with fail
            go_ret2
            exact ⟨hbw4, .inr (by rw [HF.out]; exact ⟨HR2.out, rfl⟩)⟩
    · obtain rfl : k = os.length := by omega
      rw [List.take_length] at hlay
      have Hlay := Lib.hid hlay
      have Hrow := Lib.hid hrow
      have Hbox := Lib.hid hbox
      have Hgood := Lib.hid hgood
      clear hlay hrow hbox hgood
      go_wp2_with fail
      go_ret2
      exact ⟨hbw, .inl (by rw [Hlay.out]; exact ⟨rfl, _, rfl, by omega, Hrow.out, hshl⟩)⟩
end Go.Proofs.YtmmgdgfpemkdnaaGreat
/- The plain law of layer 13: a valid net's shapes do not change by its own nodes; words and costs. -/
namespace Go.Proofs.YtmmgdgfpemkdnaaGreat
namespace Nt
/-- What isn't laid stays as it is. -/
theorem lay_keep {ns : List NodeD} : ∀ {a : List Int} {sh : List (List Int)}, (lay ns sh a).2 = 0 → ∀ j : Nat, (∀ u ∈ a, u.toNat ≠ j) → (lay ns sh a).1.getD j [] = sh.getD j []
  | [], sh, _, j, _ => rfl
  | id :: r, sh, h, j, hj => by
    unfold lay at h ⊢
    split at h
    · rename_i h1
      rw [if_pos h1, lay_keep h j (fun u hu => hj u (by simp [hu]))]
      have := hj id (by simp)
      simp only [List.getD_eq_getElem?_getD, List.getElem?_set_ne this]
    · rename_i h1; exact absurd h h1
theorem pick_congr {sh sh' : List (List Int)} {l : List Int} (h : ∀ i ∈ l, sh.getD i.toNat [] = sh'.getD i.toNat []) : pick sh l = pick sh' l := List.map_congr_left h
/-- A valid net's shapes are those that its nodes make of them. -/
theorem shapes_fix {n : NetD} (h : check n = 0) {id : Int} (h1 : 1 ≤ id) (h2 : id ≤ n.nodes.length) : layStep n.nodes (shapes n) id = ((shapes n).getD id.toNat [], 0) := by
  obtain ⟨_, _, hin, hb, hl, hlay, _⟩ := check_ok h
  have hu : id ∈ sorted n.nodes := (Kn.order_full hl id).2 ⟨h1, h2⟩
  obtain ⟨A, B, e⟩ := List.append_of_mem hu
  have hnd : (sorted n.nodes).Nodup := (Kn.go_ok _ _ _).nodup
  have hrg : ∀ u ∈ sorted n.nodes, 1 ≤ u ∧ u ≤ n.nodes.length := Kn.order_rng _ _
  have hbe := Kn.order_behind _ _ e
  have hs : shapes n = (lay n.nodes (start n) (sorted n.nodes)).1 := rfl
  rw [e] at hlay hnd hrg
  have hA : (lay n.nodes (start n) A).2 = 0 := by
    rw [lay_append] at hlay
    split at hlay
    · assumption
    · rename_i q; exact absurd hlay q
  rw [lay_append, if_pos hA, lay] at hlay
  have hS : (layStep n.nodes (lay n.nodes (start n) A).1 id).2 = 0 := by
    split at hlay
    · assumption
    · rename_i q; exact absurd hlay q
  rw [if_pos hS] at hlay
  have hs2 : shapes n = (lay n.nodes ((lay n.nodes (start n) A).1.set id.toNat (layStep n.nodes (lay n.nodes (start n) A).1 id).1) B).1 := by
    rw [hs, e, lay_append, if_pos hA, lay, if_pos hS]
  have hlenA : (lay n.nodes (start n) A).1.length = n.nodes.length + 1 := by rw [lay_len hA]; simp [start]
  have hnA : ∀ j, j ∈ A → j ≠ id ∧ j ∉ B := fun j hj => by
    rw [List.nodup_append] at hnd
    have := hnd.2.2 j hj
    exact ⟨fun e => by subst e; exact this j (by simp) rfl, fun hb => this j (by simp [hb]) rfl⟩
  have hnB : id ∉ B := by
    rw [List.nodup_append] at hnd
    exact (List.nodup_cons.1 hnd.2.1).1
  have hat : (shapes n).getD id.toNat [] = (layStep n.nodes (lay n.nodes (start n) A).1 id).1 := by
    rw [hs2, lay_keep hlay _ (fun u hu => by
      have := hrg u (by simp [hu])
      intro q
      have q : u = id := by omega
      exact hnB (q ▸ hu))]
    rw [List.getD_eq_getElem?_getD, List.getElem?_set_self (by omega)]; rfl
  have hins : ∀ i ∈ insF n.nodes id, (shapes n).getD i.toNat [] = (lay n.nodes (start n) A).1.getD i.toNat [] := fun i hi => by
    have hiA := hbe i hi
    have hi0 : 0 ≤ i ∧ i.toNat ≠ id.toNat := by
      rcases hiA with rfl | hiA
      · omega
      · have := hrg i (by simp [hiA]); have := (hnA i hiA).1; omega
    rw [hs2, lay_keep hlay _ (fun u hu => by
      have := hrg u (by simp [hu])
      intro q
      have q : u = i := by omega
      subst q
      rcases hiA with q | q
      · omega
      · exact (hnA u q).2 hu)]
    rw [List.getD_eq_getElem?_getD, List.getElem?_set_ne (by omega), ← List.getD_eq_getElem?_getD]
  have hstep : layStep n.nodes (shapes n) id = layStep n.nodes (lay n.nodes (start n) A).1 id := by
    have hp := pick_congr hins
    unfold insF at hp
    unfold layStep
    rw [hp]
  rw [hstep, hat]
  exact Prod.ext rfl hS
theorem shapes_zero {n : NetD} (h : check n = 0) : (shapes n).getD 0 [] = n.inn := by
  obtain ⟨_, _, hin, hb, hl, hlay, _⟩ := check_ok h
  have hrg : ∀ u ∈ sorted n.nodes, 1 ≤ u ∧ u ≤ n.nodes.length := Kn.order_rng _ _
  show (lay n.nodes (start n) (sorted n.nodes)).1.getD 0 [] = _
  rw [lay_keep hlay 0 (fun u hu => by have := hrg u hu; omega)]
  rfl
/-- The k-th node's output. -/
theorem shapes_node {n : NetD} (h : check n = 0) {k : Nat} (hk : k < n.nodes.length) : Od.shape n.nodes[k].op n.nodes[k].p (pick (shapes n) n.nodes[k].ins) = ((shapes n).getD (k + 1) [], 0) := by
  have := shapes_fix h (id := (k : Int) + 1) (by omega) (by omega)
  unfold layStep at this
  rw [node_at hk, show ((k : Int) + 1).toNat = k + 1 by omega] at this
  exact this
theorem shapes_all {n : NetD} (h : check n = 0) : ∀ s ∈ shapes n, Sh.right s = true := fun s hs => by
  obtain ⟨j, hj, rfl⟩ := List.getElem_of_mem hs
  have hl := shapes_len h
  have := shapes_good h (j : Int) (by omega) (by omega)
  rw [show ((j : Int)).toNat = j by omega, List.getD_eq_getElem?_getD, List.getElem?_eq_getElem hj] at this
  exact this
theorem params_right {n : NetD} (h : check n = 0) : ∀ s ∈ params n, Sh.right s = true := fun s hs => by
  obtain ⟨v, hv, hs⟩ := List.mem_flatMap.1 hs
  obtain ⟨k, hk, rfl⟩ := List.getElem_of_mem hv
  have := shapes_node h hk
  exact (Od.shape_good (by rw [this])).2.2.2.1 s hs
def words (n : NetD) : List Int := (shapes n).map Safe.prod
/-- The costs of the first k nodes. -/
def costsTo (n : NetD) (k : Nat) : List Int := (List.range k).map fun j => Od.costV (n.nodes.getD j none_).op (n.nodes.getD j none_).p ((shapes n).getD (j + 1) [])
def costs (n : NetD) : List Int := 0 :: costsTo n n.nodes.length
def total (n : NetD) : Int := Safe.sum (costs n)
theorem costsTo_succ {n : NetD} {k : Nat} (hk : k < n.nodes.length) : costsTo n (k + 1) = costsTo n k ++ [Od.costV n.nodes[k].op n.nodes[k].p ((shapes n).getD (k + 1) [])] := by
  unfold costsTo
  rw [List.range_succ, List.map_append]
  have : n.nodes.getD k none_ = n.nodes[k] := by rw [List.getD_eq_getElem?_getD, List.getElem?_eq_getElem hk]; rfl
  simp [hk]
theorem costsTo_len (n : NetD) (k : Nat) : (costsTo n k).length = k := by simp [costsTo]
theorem cost_at {n : NetD} (h : check n = 0) {k : Nat} (hk : k < n.nodes.length) : Od.cost n.nodes[k].op n.nodes[k].p (pick (shapes n) n.nodes[k].ins) = (Od.costV n.nodes[k].op n.nodes[k].p ((shapes n).getD (k + 1) []), 0) := by
  unfold Od.cost
  rw [shapes_node h hk]
  simp
theorem costs_bd {n : NetD} (h : check n = 0) (k : Nat) (hk : k ≤ n.nodes.length) : ∀ x ∈ costsTo n k, 0 ≤ x ∧ x ≤ 4294967296 := fun x hx => by
  unfold costsTo at hx
  obtain ⟨j, hj, rfl⟩ := List.mem_map.1 hx
  rw [List.mem_range] at hj
  have hjl : j < n.nodes.length := by omega
  have e : n.nodes.getD j none_ = n.nodes[j] := by rw [List.getD_eq_getElem?_getD, List.getElem?_eq_getElem hjl]; rfl
  rw [e]
  have hs := shapes_node h hjl
  have := Od.costV_bd (o := n.nodes[j].op) (p := n.nodes[j].p) (x := pick (shapes n) n.nodes[j].ins) (by rw [hs])
  rw [hs] at this
  exact this
theorem sum_bd {B : Int} : ∀ {l : List Int}, (∀ x ∈ l, 0 ≤ x ∧ x ≤ B) → 0 ≤ Safe.sum l ∧ Safe.sum l ≤ l.length * B
  | [], _ => by simp [Safe.sum]
  | a :: r, h => by
    have h1 := h a (by simp)
    have h2 := sum_bd (l := r) (B := B) fun x hx => h x (by simp [hx])
    simp only [Safe.sum, List.length_cons]
    rw [show ((r.length + 1 : Nat) : Int) * B = r.length * B + B by rw [Int.natCast_add, Int.add_mul]; simp]
    omega
theorem total_bd {n : NetD} (h : check n = 0) (hn : n.nodes.length ≤ 200) : 0 ≤ total n ∧ total n ≤ 858993459200 ∧ Safe.add (costs n) = (total n, 0) := by
  have hb := costs_bd h n.nodes.length (Nat.le_refl _)
  have hs := sum_bd hb
  rw [costsTo_len] at hs
  have e : total n = Safe.sum (costsTo n n.nodes.length) := by unfold total costs; rw [Safe.sum]; omega
  have hk : (n.nodes.length : Int) * 4294967296 ≤ 200 * 4294967296 := Int.mul_le_mul_of_nonneg_right (by omega) (by omega)
  refine ⟨by omega, by omega, ?_⟩
  unfold Safe.add
  have hall : (costs n).all Safe.ok = true := by
    rw [List.all_eq_true]
    intro x hx
    rw [Safe.ok_iff]
    rcases List.mem_cons.1 hx with rfl | hx
    · omega
    · have := hb x hx; omega
  rw [if_pos hall, if_pos (by rw [Safe.top_eq]; show total n ≤ _; omega)]
  rfl
theorem words_bd {n : NetD} (h : check n = 0) : ∀ x ∈ words n, 1 ≤ x ∧ x ≤ 65536 := fun x hx => by
  obtain ⟨s, hs, rfl⟩ := List.mem_map.1 hx
  exact Od.prod_right_ (shapes_all h s hs)
theorem words_len {n : NetD} (h : check n = 0) : (words n).length = n.nodes.length + 1 := by rw [words, List.length_map, shapes_len h]
end Nt
end Go.Proofs.YtmmgdgfpemkdnaaGreat
/- The plain law of layer 17: instructions and codes. No program is named here. -/
namespace Go.Proofs.YtmmgdgfpemkdnaaGreat
namespace Cd

/-- An instruction: its kind and its number. -/
abbrev Ins := Int × Int

def right (p : Ins) : Bool :=
  if p.1 == 4 || p.1 == 5 then p.2 == 0
  else (p.1 == 1 || p.1 == 2 || p.1 == 3 || p.1 == 6) && (decide (1 ≤ p.2) && decide (p.2 ≤ 512))

def check (ps : List Ins) : Int := if 65536 < ps.length then 12 else if ps.all right then 0 else 10

theorem check_many {ps : List Ins} (h : 65536 < ps.length) : check ps = 12 := by simp [check, h]
theorem check_form {ps : List Ins} (h : ¬ 65536 < ps.length) (ha : ps.all right = false) : check ps = 10 := by simp [check, h, ha]
theorem check_ok {ps : List Ins} (h : ¬ 65536 < ps.length) (ha : ps.all right = true) : check ps = 0 := by simp [check, h, ha]

theorem right_45 {p : Ins} (h : p.1 = 4 ∨ p.1 = 5) : right p = (p.2 == 0) := by
  have : (p.1 == 4 || p.1 == 5) = true := by rcases h with h | h <;> simp [h]
  simp [right, this]
theorem right_1236 {p : Ins} (h : p.1 = 1 ∨ p.1 = 2 ∨ p.1 = 3 ∨ p.1 = 6) : right p = (decide (1 ≤ p.2) && decide (p.2 ≤ 512)) := by
  rcases h with h | h | h | h <;> simp [right, h]
theorem right_other {p : Ins} (h1 : p.1 ≠ 1) (h2 : p.1 ≠ 2) (h3 : p.1 ≠ 3) (h4 : p.1 ≠ 4) (h5 : p.1 ≠ 5) (h6 : p.1 ≠ 6) : right p = false := by simp [right, *]
theorem right_bd {p : Ins} (h : right p = true) : 1 ≤ p.1 ∧ p.1 ≤ 6 ∧ 0 ≤ p.2 ∧ p.2 ≤ 512 := by
  unfold right at h
  split at h
  · rename_i h1
    simp at h1 h
    omega
  · simp at h
    omega
theorem kinds (a : Int) : (a = 4 ∨ a = 5) ∨ (a = 1 ∨ a = 2 ∨ a = 3 ∨ a = 6) ∨ (a ≠ 1 ∧ a ≠ 2 ∧ a ≠ 3 ∧ a ≠ 4 ∧ a ≠ 5 ∧ a ≠ 6) := by omega

theorem all_of {p : Ins → Bool} {ps : List Ins} (h : ps.all p = true) (k : Nat) (hk : k < ps.length) : p ps[k] = true := by
  rw [List.all_eq_true] at h
  exact h _ (List.getElem_mem hk)
theorem all_get {p : Ins → Bool} {ps : List Ins} (h : ∀ j (hj : j < ps.length), p ps[j] = true) : ps.all p = true := by
  rw [List.all_eq_true]
  intro x hx
  obtain ⟨i, hi, rfl⟩ := List.getElem_of_mem hx
  exact h i hi
theorem not_all {p : Ins → Bool} {ps : List Ins} {k : Nat} (hk : k < ps.length) (h : p ps[k] = false) : ps.all p = false := by
  rw [Bool.eq_false_iff]
  intro h2
  rw [all_of h2 k hk] at h
  cases h

/-- How many of a kind. -/
def count (kind : Int) : List Ins → Int
  | [] => 0
  | p :: r => (if p.1 == kind then 1 else 0) + count kind r
theorem count_append (kind : Int) (a b : List Ins) : count kind (a ++ b) = count kind a + count kind b := by
  induction a with
  | nil => simp [count]
  | cons x r ih => simp [count, ih]; omega
theorem count_take_succ (kind : Int) (ps : List Ins) (k : Nat) (h : k < ps.length) : count kind (ps.take (k + 1)) = count kind (ps.take k) + (if ps[k].1 == kind then 1 else 0) := by
  rw [List.take_succ_eq_append_getElem h, count_append]; simp [count]
theorem count_bd (kind : Int) (ps : List Ins) : 0 ≤ count kind ps ∧ count kind ps ≤ ps.length := by
  induction ps with
  | nil => simp [count]
  | cons x r ih => simp only [count, List.length_cons]; split <;> omega

/-- The bytes of instructions. -/
def flat (ps : List Ins) : List Int := ps.flatMap fun p => [p.1, p.2 / 256, p.2 % 256]
theorem flat_length (ps : List Ins) : (flat ps).length = 3 * ps.length := by
  induction ps with
  | nil => rfl
  | cons x r ih => simp [flat] at ih ⊢; omega
theorem flat_append (a b : List Ins) : flat (a ++ b) = flat a ++ flat b := by simp [flat]
theorem flat_take_succ (ps : List Ins) (k : Nat) (h : k < ps.length) : flat (ps.take (k + 1)) = flat (ps.take k) ++ [ps[k].1, ps[k].2 / 256, ps[k].2 % 256] := by
  rw [List.take_succ_eq_append_getElem h, flat_append]; simp [flat]
def bytes (ps : List Ins) : List Int := if check ps = 0 then flat ps else []
theorem bytes_ok {ps : List Ins} (h : check ps = 0) : bytes ps = flat ps := by simp [bytes, h]
theorem bytes_bad {ps : List Ins} (h : check ps ≠ 0) : bytes ps = [] := by simp [bytes, h]
theorem check_zero {ps : List Ins} (h : check ps = 0) : ps.length ≤ 65536 ∧ ps.all right = true := by
  unfold check at h
  split at h
  · simp at h
  · split at h
    · exact ⟨by omega, by assumption⟩
    · simp at h
theorem check_cases (ps : List Ins) : check ps = 0 ∨ check ps = 10 ∨ check ps = 12 := by unfold check; split <;> (try split) <;> simp

/-- What is reckoned, and its cost. -/
def reck (p : Ins) : Bool := p.1 == 1 || p.1 == 2
def costOk (cost : List Int) (p : Ins) : Bool := decide (p.2 < cost.length) && Safe.ok (cost.getD p.2.toNat 0)
def costList (cost : List Int) (ps : List Ins) : List Int := (ps.filter reck).map fun p => cost.getD p.2.toNat 0
def fine (cost : List Int) (p : Ins) : Bool := !reck p || costOk cost p
def costs (ps : List Ins) (cost : List Int) : Int × Int :=
  if check ps = 0 then (if ps.all (fine cost) then (if Safe.sum (costList cost ps) ≤ Safe.top then (Safe.sum (costList cost ps), 0) else (0, 12)) else (0, 10)) else (0, check ps)
theorem costs_bad {ps : List Ins} (h : check ps ≠ 0) (cost : List Int) : costs ps cost = (0, check ps) := by simp [costs, h]
theorem costs_form {ps : List Ins} {cost : List Int} (h : check ps = 0) (h1 : ps.all (fine cost) = false) : costs ps cost = (0, 10) := by simp [costs, h, h1]
theorem costs_many {ps : List Ins} {cost : List Int} (h : check ps = 0) (h1 : ps.all (fine cost) = true) (h2 : ¬ Safe.sum (costList cost ps) ≤ Safe.top) : costs ps cost = (0, 12) := by simp [costs, h, h1, h2]
theorem costs_sum {ps : List Ins} {cost : List Int} (h : check ps = 0) (h1 : ps.all (fine cost) = true) (h2 : Safe.sum (costList cost ps) ≤ Safe.top) : costs ps cost = (Safe.sum (costList cost ps), 0) := by simp [costs, h, h1, h2]
theorem costList_take_skip (cost : List Int) (ps : List Ins) (k : Nat) (h : k < ps.length) (hr : reck ps[k] = false) : costList cost (ps.take (k + 1)) = costList cost (ps.take k) := by
  rw [List.take_succ_eq_append_getElem h, costList, List.filter_append, List.map_append]; simp [costList, hr]
theorem costList_take_add (cost : List Int) (ps : List Ins) (k : Nat) (h : k < ps.length) (hr : reck ps[k] = true) : costList cost (ps.take (k + 1)) = costList cost (ps.take k) ++ [cost.getD ps[k].2.toNat 0] := by
  rw [List.take_succ_eq_append_getElem h, costList, List.filter_append, List.map_append]; simp [costList, hr]
theorem costList_le (cost : List Int) (ps : List Ins) : (costList cost ps).length ≤ ps.length := by
  simp [costList]; exact List.length_filter_le _ _
theorem costList_ok {cost : List Int} {ps : List Ins} (h : ps.all (fine cost) = true) : (costList cost ps).all Safe.ok = true := by
  rw [List.all_eq_true] at h ⊢
  intro x hx
  simp only [costList, List.mem_map, List.mem_filter] at hx
  obtain ⟨p, ⟨hp, hr⟩, rfl⟩ := hx
  have := h p hp
  simp [fine, hr, costOk] at this
  simpa using this.2

/-- The instructions of bytes. -/
def insAt (zs : List Int) (k : Nat) : Ins := (zs.getD (3 * k) 0, zs.getD (3 * k + 1) 0 * 256 + zs.getD (3 * k + 2) 0)
def groupTo (zs : List Int) (k : Nat) : List Ins := (List.range k).map (insAt zs)
theorem groupTo_length (zs : List Int) (k : Nat) : (groupTo zs k).length = k := by simp [groupTo]
theorem groupTo_succ (zs : List Int) (k : Nat) : groupTo zs (k + 1) = groupTo zs k ++ [insAt zs k] := by simp [groupTo, List.range_succ]
def group (zs : List Int) : List Ins := groupTo zs (zs.length / 3)
def parse (zs : List Int) : List Ins × Int :=
  if zs.length % 3 = 0 then (if 65536 < zs.length / 3 then ([], 12) else if check (group zs) = 0 then (group zs, 0) else ([], check (group zs))) else ([], 16)
theorem parse_short {zs : List Int} (h : ¬ zs.length % 3 = 0) : parse zs = ([], 16) := by simp [parse, h]
theorem parse_many {zs : List Int} (h : zs.length % 3 = 0) (h1 : 65536 < zs.length / 3) : parse zs = ([], 12) := by simp [parse, h, h1]
theorem parse_bad {zs : List Int} (h : zs.length % 3 = 0) (h1 : ¬ 65536 < zs.length / 3) (h2 : ¬ check (group zs) = 0) : parse zs = ([], check (group zs)) := by simp [parse, h, h1, h2]
theorem parse_ok {zs : List Int} (h : zs.length % 3 = 0) (h1 : ¬ 65536 < zs.length / 3) (h2 : check (group zs) = 0) : parse zs = (group zs, 0) := by simp [parse, h, h1, h2]

theorem flat_at (ps : List Ins) : ∀ (k : Nat) (h : k < ps.length), (flat ps).getD (3 * k) 0 = ps[k].1 ∧ (flat ps).getD (3 * k + 1) 0 = ps[k].2 / 256 ∧ (flat ps).getD (3 * k + 2) 0 = ps[k].2 % 256 := by
  induction ps with
  | nil => intro k h; simp at h
  | cons x r ih =>
    intro k h
    rcases k with _ | k
    · simp [flat]
    · have := ih k (by simpa using h)
      have e1 : 3 * (k + 1) = 3 * k + 1 + 1 + 1 := by omega
      rw [e1]
      simpa [flat] using this
theorem insAt_flat (ps : List Ins) (k : Nat) (h : k < ps.length) : insAt (flat ps) k = ps[k] := by
  have ⟨a, b, c⟩ := flat_at ps k h
  unfold insAt
  rw [a, b, c]
  exact Prod.ext rfl (by simp only; omega)
theorem group_flat (ps : List Ins) : group (flat ps) = ps := by
  unfold group groupTo
  rw [flat_length, Nat.mul_div_cancel_left _ (by decide)]
  apply List.ext_getElem
  · simp
  · intro i h1 h2
    simp only [List.getElem_map, List.getElem_range]
    exact insAt_flat ps i h2
theorem parse_flat {ps : List Ins} (h : check ps = 0) : parse (flat ps) = (ps, 0) := by
  have hl := (check_zero h).1
  have hf := flat_length ps
  rw [parse_ok (by omega) (by omega) (by rw [group_flat]; exact h), group_flat]
theorem flat_byte {ps : List Ins} (h : ps.all right = true) : ∀ n ∈ flat ps, 0 ≤ n ∧ n ≤ 255 := by
  intro n hn
  rw [List.all_eq_true] at h
  simp only [flat, List.mem_flatMap] at hn
  obtain ⟨p, hp, hn⟩ := hn
  have ⟨a, b, c, d⟩ := right_bd (h p hp)
  simp only [List.mem_cons, List.mem_nil_iff, or_false] at hn
  rcases hn with rfl | rfl | rfl <;> omega

theorem flat_groupTo (zs : List Int) (hb : ∀ n ∈ zs, 0 ≤ n ∧ n ≤ 255) : ∀ k, 3 * k ≤ zs.length → flat (groupTo zs k) = zs.take (3 * k) := by
  intro k
  induction k with
  | zero => intro _; simp [groupTo, flat]
  | succ k ih =>
    intro h
    have h0 : 3 * k < zs.length := by omega
    have h1 : 3 * k + 1 < zs.length := by omega
    have h2 : 3 * k + 2 < zs.length := by omega
    have b1 := hb _ (List.getElem_mem h1)
    have b2 := hb _ (List.getElem_mem h2)
    rw [groupTo_succ, flat_append, ih (by omega)]
    have e : 3 * (k + 1) = 3 * k + 1 + 1 + 1 := by omega
    rw [e, List.take_succ_eq_append_getElem h2, List.take_succ_eq_append_getElem h1, List.take_succ_eq_append_getElem h0]
    have d1 : (zs[3 * k + 1] * 256 + zs[3 * k + 2]) / 256 = zs[3 * k + 1] := by omega
    have d2 : (zs[3 * k + 1] * 256 + zs[3 * k + 2]) % 256 = zs[3 * k + 2] := by omega
    have g0 : zs.getD (3 * k) 0 = zs[3 * k] := by simp [h0]
    have g1 : zs.getD (3 * k + 1) 0 = zs[3 * k + 1] := by simp [h1]
    have g2 : zs.getD (3 * k + 2) 0 = zs[3 * k + 2] := by simp [h2]
    have hf : flat [insAt zs k] = [zs[3 * k], zs[3 * k + 1], zs[3 * k + 2]] := by
      show [(insAt zs k).1, (insAt zs k).2 / 256, (insAt zs k).2 % 256] ++ [] = _
      simp only [insAt, g0, g1, g2, d1, d2, List.append_nil]
    rw [hf]
    simp only [List.append_assoc, List.cons_append, List.nil_append]
theorem flat_group {zs : List Int} (h3 : zs.length % 3 = 0) (hb : ∀ n ∈ zs, 0 ≤ n ∧ n ≤ 255) : flat (group zs) = zs := by
  unfold group
  rw [flat_groupTo zs hb _ (by omega), show 3 * (zs.length / 3) = zs.length by omega, List.take_length]
theorem group_length (zs : List Int) : (group zs).length = zs.length / 3 := groupTo_length _ _
theorem group_get (zs : List Int) (k : Nat) (h : k < (group zs).length) : (group zs)[k] = insAt zs k := by
  simp [group, groupTo]
end Cd
end Go.Proofs.YtmmgdgfpemkdnaaGreat
/- The plain law of layer 18: what a plan has, instruction by instruction. -/
namespace Go.Proofs.YtmmgdgfpemkdnaaGreat
/-- What a plan stands on. -/
structure CkN where
  words : List Int
  cost : List Int
  ins : List (List Int)
  order : List Int
  loss : Int
  cap : Int
/-- What it has. -/
structure CkS where
  pres : List Bool
  sav : List Bool
  grad : List Bool
  em : Bool
  sd : Bool
  done : Nat
  now : Int
  peak : Int
namespace Ck
def at_ (l : List Bool) (id : Int) : Bool := l.getD id.toNat false
def wd (c : CkN) (id : Int) : Int := c.words.getD id.toNat 0
def insF (c : CkN) (id : Int) : List Int := c.ins.getD id.toNat []
def ready (c : CkN) (s : CkS) (id : Int) : Bool := (insF c id).all fun i => at_ s.pres i
def back (c : CkN) (s : CkS) (id : Int) : Bool := decide (s.done < c.order.length ∧ c.order.getD (c.order.length - 1 - s.done) 0 = id)
def legal (c : CkN) (s : CkS) (k id : Int) : Bool :=
  if k = 1 then !at_ s.sav id && ready c s id
  else if k = 2 then at_ s.sav id && (!at_ s.pres id && ready c s id)
  else if k = 3 then at_ s.pres id
  else if k = 4 then at_ s.pres c.loss && !s.em
  else if k = 5 then !s.sd
  else if k = 6 then at_ s.grad id && (ready c s id && back c s id)
  else false
def freshGo (g : List Bool) : List Int → List Int → List Int
  | acc, [] => acc
  | acc, i :: r => if i ≠ 0 ∧ at_ g i = false ∧ acc.contains i = false then freshGo g (acc ++ [i]) r else freshGo g acc r
def fresh (c : CkN) (s : CkS) (id : Int) : List Int := freshGo s.grad [] (insF c id)
def sumW (c : CkN) (l : List Int) : Int := (l.map (wd c)).sum
def more (c : CkN) (s : CkS) (k id : Int) : Int :=
  if k = 1 ∨ k = 2 then wd c id else if k = 5 then wd c c.loss else if k = 6 then sumW c (fresh c s id) else 0
def setB (l : List Bool) (id : Int) (b : Bool) : List Bool := l.set id.toNat b
def sets (l : List Bool) (ids : List Int) : List Bool := ids.foldl (fun l i => setB l i true) l
/-- A legal instruction that has room, n words then. -/
def act (c : CkN) (s : CkS) (k id n : Int) : CkS :=
  if k = 1 ∨ k = 2 then { s with pres := setB s.pres id true, sav := setB s.sav id true, now := n, peak := max s.peak n }
  else if k = 3 then { s with pres := setB s.pres id false, now := n - wd c id, peak := max s.peak n }
  else if k = 4 then { s with em := true, now := n, peak := max s.peak n }
  else if k = 5 then { s with sd := true, grad := setB s.grad c.loss true, now := n, peak := max s.peak n }
  else if k = 6 then { s with grad := setB (sets s.grad (fresh c s id)) id false, now := n - wd c id, peak := max s.peak n, done := s.done + 1 }
  else { s with now := n, peak := max s.peak n }
def do_ (c : CkN) (s : CkS) (k id : Int) : CkS × Int :=
  if Cd.right (k, id) = false ∨ (c.words.length : Int) ≤ id then (s, 10)
  else if legal c s k id = false then (s, 24)
  else if c.cap < s.now + more c s k id then (s, 25)
  else (act c s k id (s.now + more c s k id), 0)
def go (c : CkN) : CkS → List (Int × Int) → CkS × Int
  | s, [] => (s, 0)
  | s, i :: r => if (do_ c s i.1 i.2).2 = 0 then go c (do_ c s i.1 i.2).1 r else do_ c s i.1 i.2
def whole (c : CkN) (s : CkS) : Bool := s.em && decide (s.done = c.order.length)
def start (m : Nat) : CkS := ⟨(List.replicate m false).set 0 true, List.replicate m false, List.replicate m false, false, false, 0, 0, 0⟩
def base (n : NetD) (cap : Int) : CkN := ⟨Nt.words n, Nt.costs n, [] :: n.nodes.map (·.ins), Nt.sorted n.nodes, Nt.loss n.nodes, cap⟩
/-- Stats: peak, cost, again, high; and an error. -/
def run (n : NetD) (ps : List (Int × Int)) (cap : Int) : (Int × Int × Int × Int) × Int :=
  if Nt.check n ≠ 0 then ((0, 0, 0, 0), Nt.check n)
  else if Cd.check ps ≠ 0 then ((0, 0, 0, 0), Cd.check ps)
  else if (go (base n cap) (start (n.nodes.length + 1)) ps).2 ≠ 0 then ((0, 0, 0, 0), (go (base n cap) (start (n.nodes.length + 1)) ps).2)
  else if whole (base n cap) (go (base n cap) (start (n.nodes.length + 1)) ps).1 = false then ((0, 0, 0, 0), 28)
  else if (Cd.costs ps (Nt.costs n)).2 ≠ 0 then ((0, 0, 0, 0), (Cd.costs ps (Nt.costs n)).2)
  else (((go (base n cap) (start (n.nodes.length + 1)) ps).1.peak, (Cd.costs ps (Nt.costs n)).1, Cd.count 2 ps, max (go (base n cap) (start (n.nodes.length + 1)) ps).1.peak (Safe.max ((Nt.words n).drop 1))), 0)
theorem go_snoc (c : CkN) (s : CkS) (a : List (Int × Int)) (i : Int × Int) (h : (go c s a).2 = 0) : go c s (a ++ [i]) = do_ c (go c s a).1 i.1 i.2 := by
  induction a generalizing s with
  | nil =>
    simp only [List.nil_append, go]
    split
    · rename_i h0; rw [← h0]
    · rfl
  | cons x r ih =>
    simp only [List.cons_append, go] at h ⊢
    split
    · rename_i h0; rw [if_pos h0] at h; exact ih _ h
    · rename_i h0; rw [if_neg h0] at h; exact absurd h h0
theorem go_fail (c : CkN) (s : CkS) (a b : List (Int × Int)) (h : (go c s a).2 ≠ 0) : go c s (a ++ b) = go c s a := by
  induction a generalizing s with
  | nil => exact absurd rfl h
  | cons x r ih =>
    simp only [List.cons_append, go] at h ⊢
    split
    · rename_i h0; rw [if_pos h0] at h; exact ih _ h
    · rfl
def cp (c : CkN) (cap : Int) : CkN := { c with cap := cap }
theorem act_cp (c : CkN) (cap : Int) (s : CkS) (k id n : Int) : act (cp c cap) s k id n = act c s k id n := rfl
theorem do_cp (c : CkN) (cap : Int) (s : CkS) (k id : Int) : do_ (cp c cap) s k id = if Cd.right (k, id) = false ∨ (c.words.length : Int) ≤ id then (s, 10)
  else if legal c s k id = false then (s, 24)
  else if cap < s.now + more c s k id then (s, 25)
  else (act c s k id (s.now + more c s k id), 0) := rfl
theorem peak_act (c : CkN) (s : CkS) (k id n : Int) : (act c s k id n).peak = max s.peak n := by unfold act; (repeat' split) <;> rfl
/-- What goes goes within every cap that its peak keeps, and only there. -/
theorem go_peak (c : CkN) (cap : Int) : ∀ (ps : List (Int × Int)) (s : CkS), (go c s ps).2 = 0 → s.peak ≤ (go c s ps).1.peak ∧ ((go c s ps).1.peak ≤ cap → go (cp c cap) s ps = go c s ps) ∧ (s.peak ≤ cap → cap < (go c s ps).1.peak → (go (cp c cap) s ps).2 = 25) ∧ (s.peak ≤ c.cap → (go c s ps).1.peak ≤ c.cap)
  | [], s, _ => ⟨Int.le_refl _, fun _ => rfl, fun h1 h2 => absurd h2 (by simp [go]; omega), fun h => h⟩
  | i :: r, s, h => by
    have hd : (do_ c s i.1 i.2).2 = 0 := by
      simp only [go] at h
      split at h
      · assumption
      · rename_i h0; exact absurd h h0
    have e : go c s (i :: r) = go c (do_ c s i.1 i.2).1 r := by simp only [go]; rw [if_pos hd]
    rw [e] at h ⊢
    have hq := hd
    unfold do_ at hq
    split at hq
    · simp at hq
    · rename_i h1
      split at hq
      · simp at hq
      · rename_i h2
        split at hq
        · simp at hq
        · rename_i h3
          have ea : do_ c s i.1 i.2 = (act c s i.1 i.2 (s.now + more c s i.1 i.2), 0) := by unfold do_; rw [if_neg h1, if_neg h2, if_neg h3]
          rw [ea] at h ⊢
          obtain ⟨i1, i2, i3, i4⟩ := go_peak c cap r _ h
          rw [peak_act] at i1 i3 i4
          refine ⟨by simp only at i1 ⊢; omega, fun hc => ?_, fun hs hc => ?_, fun hs => i4 (by omega)⟩
          · have hdc : do_ (cp c cap) s i.1 i.2 = (act c s i.1 i.2 (s.now + more c s i.1 i.2), 0) := by
              rw [do_cp, if_neg h1, if_neg h2, if_neg (by simp only at i1 hc; omega)]
            simp only [go]
            rw [hdc, if_pos rfl]
            exact i2 hc
          · by_cases hm : cap < s.now + more c s i.1 i.2
            · have hdc : do_ (cp c cap) s i.1 i.2 = (s, 25) := by
                rw [do_cp, if_neg h1, if_neg h2, if_pos hm]
              simp only [go]
              rw [hdc, if_neg (by simp)]
            · have hdc : do_ (cp c cap) s i.1 i.2 = (act c s i.1 i.2 (s.now + more c s i.1 i.2), 0) := by
                rw [do_cp, if_neg h1, if_neg h2, if_neg hm]
              simp only [go]
              rw [hdc, if_pos rfl]
              exact i3 (by omega) hc
end Ck
end Go.Proofs.YtmmgdgfpemkdnaaGreat
/- A world later than another: all that was there reads as it did. No program is named here. -/
namespace Go.Proofs.YtmmgdgfpemkdnaaGreat
open Go.RowKit
/-- All that was there is there. -/
def Later (w w' : World) : Prop := Below w.heap.size w w'
section
variable {w w1 w2 : World}
theorem Later.refl (w : World) : Later w w := Below.refl _ _
theorem Later.alloc (h : Later w w1) (o : Obj) : Later w (w1.alloc o) := Below.alloc h h.size o
theorem Later.drew (h : Later w w1) : Later w w1.drew := Below.drew h
theorem Later.drewN (h : Later w w1) (n : Nat) : Later w (w1.drewN n) := Bdrawn h n
theorem Later.call (h : Later w w1) (k : Below w1.heap.size w1 w2) : Later w w2 := Below.trans h (k.mono h.size)
theorem Later.trans (h : Later w w1) (k : Later w1 w2) : Later w w2 := h.call k
theorem Later.set (h : Later w w1) {p : Addr} (hp : w.heap.size ≤ p.block) (u : Value) : Later w (w1.setCell p u) := Below.setCell h hp u
theorem Later.cell {p : Addr} {v : Value} (h : Later w w1) (hc : w.cell? p = some v) : w1.cell? p = some v := (Below.cell h (World.block_lt_of_cell? _ _ hc)).trans hc
theorem Later.blk {g : Nat} {t : TypeId} {cs : Array Value} (h : Later w w1) (hb : Blk w g t cs) : Blk w1 g t cs := hb.below h hb.lt
theorem Later.below {B : Nat} {w0 : World} (h : Later w w1) (hb : Below B w0 w) (hB : B ≤ w.heap.size) : Below B w0 w1 := hb.trans (Below.mono h hB)
end
end Go.Proofs.YtmmgdgfpemkdnaaGreat
/- Layer 18 (check): a state in memory; ready: contract. -/
namespace Go.Proofs.YtmmgdgfpemkdnaaGreat
open Go.RowKit
/-- Where a state lies. -/
structure CkA where
  Wd : Option Addr
  Co : Option Addr
  In : Option Addr
  Or : Option Addr
  cW : Nat
  cC : Nat
  cI : Nat
  cO : Nat
  p : Nat
  g1 : Nat
  g2 : Nat
  g3 : Nat
/-- The numbers fit. -/
structure CkN.Ok (c : CkN) : Prop where
  m1 : 1 ≤ c.words.length
  m2 : c.words.length ≤ 513
  cost : c.cost.length = c.words.length
  ins : c.ins.length = c.words.length
  row : ∀ r ∈ c.ins, r.length ≤ 1048576 ∧ ∀ i ∈ r, 0 ≤ i ∧ i < c.words.length
  ord : c.order.length ≤ 512
  loss : 0 ≤ c.loss ∧ c.loss < c.words.length
  word : ∀ z ∈ c.words, 0 ≤ z ∧ z ≤ 65536
  cap : -9223372036854775808 ≤ c.cap ∧ c.cap ≤ 9223372036854775807
/-- What stays as it is. -/
structure CkA.Still (a : CkA) (c : CkN) (W0 : World) : Prop where
  ok : c.Ok
  words : Ints .i64 W0 a.Wd c.words
  cost : Ints .i64 W0 a.Co c.cost
  ins : Shps W0 a.In c.ins
  ord : Ints .i64 W0 a.Or c.order
  hp : W0.heap.size ≤ a.p
  h1 : a.p < a.g1
  h2 : a.g1 < a.g2
  h3 : a.g2 < a.g3
  hcw : c.words.length ≤ a.cW
def CkA.cells (a : CkA) (c : CkN) (s : CkS) : Array Value :=
  #[.slice a.Wd c.words.length a.cW, .slice a.Co c.cost.length a.cC, .slice a.In c.ins.length a.cI, .slice a.Or c.order.length a.cO, .int .i64 c.loss, .int .i64 c.cap, .slice (some ⟨a.g1, 0, none⟩) c.words.length c.words.length, .slice (some ⟨a.g2, 0, none⟩) c.words.length c.words.length, .slice (some ⟨a.g3, 0, none⟩) c.words.length c.words.length, .bool s.em, .bool s.sd, .int .i64 s.done, .int .i64 s.now, .int .i64 s.peak]
/-- A state in memory. -/
structure CkM (a : CkA) (c : CkN) (W0 : World) (s : CkS) (W : World) : Prop where
  later : Later W0 W
  box : Blk W a.p 73 (a.cells c s)
  pres : Blk W a.g1 4 (s.pres.map Value.bool).toArray
  sav : Blk W a.g2 4 (s.sav.map Value.bool).toArray
  grad : Blk W a.g3 4 (s.grad.map Value.bool).toArray
  l1 : s.pres.length = c.words.length
  l2 : s.sav.length = c.words.length
  l3 : s.grad.length = c.words.length
theorem CkM.to_later {a : CkA} {c : CkN} {W0 W W' : World} {s : CkS} (h : CkM a c W0 s W) (hl : Later W W') : CkM a c W0 s W' :=
  ⟨h.later.trans hl, hl.blk h.box, hl.blk h.pres, hl.blk h.sav, hl.blk h.grad, h.l1, h.l2, h.l3⟩
theorem bool_at {W : World} {g : Nat} {t : TypeId} {l : List Bool} (h : Blk W g t (l.map Value.bool).toArray) {i : Nat} (hi : i < l.length) : W.cell? ⟨g, i, none⟩ = some (.bool (l.getD i false)) := by
  rw [h.cell, List.getD_eq_getElem?_getD, List.getElem?_eq_getElem hi]; simp [hi]
theorem CkM.cells14 {a : CkA} {c : CkN} {W0 W : World} {s : CkS} (h : CkM a c W0 s W) :
    W.cell? ⟨a.p, 0, none⟩ = some (.slice a.Wd c.words.length a.cW) ∧ W.cell? ⟨a.p, 1, none⟩ = some (.slice a.Co c.cost.length a.cC) ∧ W.cell? ⟨a.p, 2, none⟩ = some (.slice a.In c.ins.length a.cI) ∧ W.cell? ⟨a.p, 3, none⟩ = some (.slice a.Or c.order.length a.cO) ∧ W.cell? ⟨a.p, 4, none⟩ = some (.int .i64 c.loss) ∧ W.cell? ⟨a.p, 5, none⟩ = some (.int .i64 c.cap) ∧
    W.cell? ⟨a.p, 6, none⟩ = some (.slice (some ⟨a.g1, 0, none⟩) c.words.length c.words.length) ∧ W.cell? ⟨a.p, 7, none⟩ = some (.slice (some ⟨a.g2, 0, none⟩) c.words.length c.words.length) ∧ W.cell? ⟨a.p, 8, none⟩ = some (.slice (some ⟨a.g3, 0, none⟩) c.words.length c.words.length) ∧
    W.cell? ⟨a.p, 9, none⟩ = some (.bool s.em) ∧ W.cell? ⟨a.p, 10, none⟩ = some (.bool s.sd) ∧ W.cell? ⟨a.p, 11, none⟩ = some (.int .i64 s.done) ∧ W.cell? ⟨a.p, 12, none⟩ = some (.int .i64 s.now) ∧ W.cell? ⟨a.p, 13, none⟩ = some (.int .i64 s.peak) :=
  ⟨h.box.cell 0, h.box.cell 1, h.box.cell 2, h.box.cell 3, h.box.cell 4, h.box.cell 5, h.box.cell 6, h.box.cell 7, h.box.cell 8, h.box.cell 9, h.box.cell 10, h.box.cell 11, h.box.cell 12, h.box.cell 13⟩
theorem CkA.Still.row {a : CkA} {c : CkN} {W0 : World} (h : a.Still c W0) {k : Nat} (hk : k < c.ins.length) : ∃ b off S e, a.In = some ⟨b, off, none⟩ ∧ b < W0.heap.size ∧ W0.cell? ⟨b, off + k, none⟩ = some (.slice S c.ins[k].length e) ∧ Ints .i64 W0 S c.ins[k] ∧ c.ins[k].length ≤ 1048576 ∧ ∀ i ∈ c.ins[k], 0 ≤ i ∧ i < c.words.length := by
  obtain ⟨b, off, S, e, h1, h2, h3, h4, -⟩ := h.ins k hk
  exact ⟨b, off, S, e, h1, h2, h3, h4, h.ok.row _ (List.getElem_mem hk)⟩
theorem Ck.insF_at {c : CkN} {k : Nat} (hk : k < c.ins.length) : Ck.insF c k = c.ins[k] := by
  unfold Ck.insF; rw [Int.toNat_natCast, List.getD_eq_getElem?_getD, List.getElem?_eq_getElem hk]; rfl
set_option maxHeartbeats 4000000 in
set_option maxRecDepth 100000 in
theorem check_ready (a : CkA) (c : CkN) (W0 : World) (s : CkS) (W : World) (hS : a.Still c W0) (hM : CkM a c W0 s W) (id : Nat) (hid : id < c.words.length) :
    Calls Tryz.prog 57 #[.pointer (some ⟨a.p, 0, none⟩), .int .i64 id] W fun e w' => e = .returned (.bool (Ck.ready c s id)) ∧ W = w' := by
  have hidi : id < c.ins.length := by rw [hS.ok.ins]; exact hid
  have HR := Lib.hid (show Ck.ready c s id = c.ins[id].all (fun i => Ck.at_ s.pres i) by unfold Ck.ready; rw [Ck.insF_at hidi])
  obtain ⟨b, off, S, e, hIn, hb, hc, hI, hl, hin⟩ := hS.row hidi
  have hc' := hM.later.cell hc
  have hI' := hI.below hM.later (Nat.le_refl _)
  obtain ⟨-, -, x2, -, -, -, x6, -⟩ := hM.cells14
  have hB := fun i (h : i < c.words.length) => bool_at hM.pres (by rw [hM.l1]; exact h)
  have h513 := hS.ok.m2
  have HI1 := hS.ok.ins
  rw [hIn, HI1] at x2
  generalize c.ins[id] = r at *
  have q1 : (0 : Int) ≤ (id : Int) := by omega
  have q2 : (id : Int) < c.words.length := by omega
  have HI' := Lib.hid hI'
  have Hin := Lib.hid hin
  have HB := Lib.hid hB
  clear hI' hin hB
  clear hS hM hc hI hIn hidi HI1
  go_enter Tryz.func57, Tryz.ntmps57
  go_wp2_with fail
  clear hc' x2
  go_loop [6, 15] (fun _ i => ∃ k : Nat, k ≤ r.length ∧ i = .int .i64 (k : Int) ∧ (r.take k).all (fun i => Ck.at_ s.pres i) = true) (fun _ i => r.length - (intOf i).toNat)
  case atStart => exact ⟨0, Nat.zero_le _, rfl, by simp⟩
  case round =>
    obtain ⟨k, hk, rfl, hall⟩ := hrel
    by_cases hlt : k < r.length
    · obtain ⟨b2, off2, rfl, -, hc2⟩ := HI'.out k hlt
      rw [List.getD_eq_getElem?_getD, List.getElem?_eq_getElem hlt, Option.getD_some] at hc2
      have hz := Hin.out _ (List.getElem_mem hlt)
      have HT := Lib.hid (List.take_succ_eq_append_getElem hlt)
      have HM := Lib.hid (List.getElem_mem hlt)
      have Hall := Lib.hid hall
      clear hall
      generalize r[k] = z at *
      obtain ⟨zn, rfl⟩ := Int.eq_ofNat_of_zero_le hz.1
      have hzn : zn < c.words.length := by omega
      have hcz := HB.out zn hzn
      have HAt := Lib.hid (show Ck.at_ s.pres zn = s.pres.getD zn false by unfold Ck.at_; rw [Int.toNat_natCast])
      have q3 : (0 : Int) ≤ (zn : Int) := by omega
      have q4 : (zn : Int) < c.words.length := by omega
      cases hv : s.pres.getD zn false
      · rw [hv] at hcz
        have HF := Lib.hid (show r.all (fun i => Ck.at_ s.pres i) = false by
          cases h : r.all (fun i => Ck.at_ s.pres i) with
          | false => rfl
          | true => have := List.all_eq_true.1 h _ HM.out; rw [HAt.out, hv] at this; exact absurd this (by simp))
        clear hv
        go_wp2_with fail
        go_ret
        exact ⟨by rw [HR.out, HF.out]; rfl, rfl⟩
      · rw [hv] at hcz
        have HA := Lib.hid (show (r.take (k + 1)).all (fun i => Ck.at_ s.pres i) = true by rw [HT.out, List.all_append, Hall.out]; simp [HAt.out]; exact hv)
        clear hv
        go_wp2_with fail
        go_round
        case rel => exact ⟨k + 1, by omega, by go_num, HA.out⟩
        case measure => simp [intOf]; omega
    · obtain rfl : k = r.length := by omega
      rw [List.take_length] at hall
      have Hall := Lib.hid hall
      clear hall
      go_wp2_with fail
      go_ret
      exact ⟨by rw [HR.out, Hall.out]; rfl, rfl⟩
end Go.Proofs.YtmmgdgfpemkdnaaGreat
/-
  DERIVED: THE SHELF's CONTRACTS AT THIS DUMP, IN PLAIN WORDS (tools/lay-plain.mjs out of 'TryzShelf.lean', which tools/lay-shelf.mjs wrote): THE SAME DECLARATIONS UNDER THE SAME NAMES: 'import', 'namespace', 'open', 'def', 'theorem' AND NOTHING ELSE: no command of the shelf's: FOR A HAND-IN. Each laying: the table of numbers ('.._ren') and one theorem, a field a fact of the dump's own or the kernel's comparison; each contract: ONE APPLICATION.
-/
namespace Go.Proofs
open Go.Shelf
def Tryz.lays215_ren : Go.Shelf.Ren := ⟨fun | 215 => 103 | n => n, fun | 3 => 3 | 4 => 4 | n => n, fun | n => n⟩
theorem Tryz.lays215 : Go.Proofs.Lays.n215 Tryz.prog Tryz.lays215_ren := {
  mixed := by kernel_rfl
  f215 := Tryz.func103.trans (congrArg some (by kernel_rfl))
  t3 := Tryz.underlying3
  a3 := Tryz.isAgg3
  z3 := Tryz.sizeOf3
  v3 := Tryz.zeroValue3
  t4 := Tryz.underlying4
  a4 := Tryz.isAgg4
  z4 := Tryz.sizeOf4
  v4 := Tryz.zeroValue4 }
open Go.RowKit in
/-- cmp.isNaN at int: 'x != x': false. (LAID: no walk: one application.) -/
theorem Tryz.cmp_isNaN_int (x : Int) (w : World) :
    Calls Tryz.prog 103 #[.int .i64 x] w fun e w' => e = .returned (.bool false) ∧ w' = w := Any.cmp_isNaN_int Tryz.lays215 x w
def Tryz.lays108_ren : Go.Shelf.Ren := ⟨fun | 108 => 74 | n => n, fun | 28 => 22 | 3 => 3 | 0 => 0 | 4 => 4 | n => n, fun | n => n⟩
theorem Tryz.lays108 : Go.Proofs.Lays.n108 Tryz.prog Tryz.lays108_ren := {
  mixed := by kernel_rfl
  f108 := Tryz.func74.trans (congrArg some (by kernel_rfl))
  t0 := Tryz.underlying0
  a0 := Tryz.isAgg0
  z0 := Tryz.sizeOf0
  v0 := Tryz.zeroValue0
  t3 := Tryz.underlying3
  a3 := Tryz.isAgg3
  z3 := Tryz.sizeOf3
  v3 := Tryz.zeroValue3
  t4 := Tryz.underlying4
  a4 := Tryz.isAgg4
  z4 := Tryz.sizeOf4
  v4 := Tryz.zeroValue4
  t28 := Tryz.underlying22
  a28 := Tryz.isAgg22
  z28 := Tryz.sizeOf22
  v28 := Tryz.zeroValue22 }
open Go.Lib in
/-- slices.Index at []int: "Index returns the index of the first occurrence of v in s, or -1 if not present.": IT RETURNS 'Lib.idxOf (the elements) v'; the world is as it was. 'zs': what the cells behind the slice's address hold (its spare capacity too, if you have it); 'zs.take n': its elements. (LAID: no walk: one application.) -/
theorem Tryz.slices_Index_int (b off n c : Nat) (zs : List Int) (x : Int) (w : World) (hz : n ≤ zs.length) (hbig : n ≤ 9223372036854775807) (hc : ∀ j, j < zs.length → w.cell? ⟨b, off + j, none⟩ = some (.int .i64 (zs.getD j 0))) :
    Calls Tryz.prog 74 #[.slice (some ⟨b, off, none⟩) n c, .int .i64 x] w fun e w' => e = .returned (.int .i64 (Lib.idxOf (zs.take n) x)) ∧ w' = w := Any.slices_Index_int Tryz.lays108 b off n c zs x w hz hbig hc
open Go.Lib in
/-- The same at a slice of length 0, a nil one too: no cell is known, none is asked for. (LAID: no walk: one application.) -/
theorem Tryz.slices_Index_int_empty (a : Option Addr) (c : Nat) (x : Int) (w : World) :
    Calls Tryz.prog 74 #[.slice a 0 c, .int .i64 x] w fun e w' => e = .returned (.int .i64 (Lib.idxOf [] x)) ∧ w' = w := Any.slices_Index_int_empty Tryz.lays108 a c x w
def Tryz.lays107_ren : Go.Shelf.Ren := ⟨fun | 107 => 58 | 108 => 74 | n => n, fun | 28 => 22 | 3 => 3 | 4 => 4 | 0 => 0 | n => n, fun | n => n⟩
theorem Tryz.lays107 : Go.Proofs.Lays.n107 Tryz.prog Tryz.lays107_ren := {
  mixed := by kernel_rfl
  f107 := Tryz.func58.trans (congrArg some (by kernel_rfl))
  f108 := Tryz.func74.trans (congrArg some (by kernel_rfl))
  t0 := Tryz.underlying0
  a0 := Tryz.isAgg0
  z0 := Tryz.sizeOf0
  v0 := Tryz.zeroValue0
  t3 := Tryz.underlying3
  a3 := Tryz.isAgg3
  z3 := Tryz.sizeOf3
  v3 := Tryz.zeroValue3
  t4 := Tryz.underlying4
  a4 := Tryz.isAgg4
  z4 := Tryz.sizeOf4
  v4 := Tryz.zeroValue4
  t28 := Tryz.underlying22
  a28 := Tryz.isAgg22
  z28 := Tryz.sizeOf22
  v28 := Tryz.zeroValue22 }
open Go.Lib in
/-- slices.Contains at []int: "Contains reports whether v is present in s.": IT RETURNS 'elements.contains v'; the world is as it was. ITS CALLEE slices.Index IS MET BY ITS OWN CONTRACT OFF THE SHELF (lay that first): no loop is walked here. (LAID: no walk: one application.) -/
theorem Tryz.slices_Contains_int (b off n c : Nat) (zs : List Int) (x : Int) (w : World) (hz : n ≤ zs.length) (hbig : n ≤ 9223372036854775807) (hc : ∀ j, j < zs.length → w.cell? ⟨b, off + j, none⟩ = some (.int .i64 (zs.getD j 0))) :
    Calls Tryz.prog 58 #[.slice (some ⟨b, off, none⟩) n c, .int .i64 x] w fun e w' => e = .returned (.bool ((zs.take n).contains x)) ∧ w' = w := Any.slices_Contains_int Tryz.lays107 b off n c zs x w hz hbig hc
open Go.Lib in
/-- The same at a slice of length 0, a nil one too. (LAID: no walk: one application.) -/
theorem Tryz.slices_Contains_int_empty (a : Option Addr) (c : Nat) (x : Int) (w : World) :
    Calls Tryz.prog 58 #[.slice a 0 c, .int .i64 x] w fun e w' => e = .returned (.bool false) ∧ w' = w := Any.slices_Contains_int_empty Tryz.lays107 a c x w
def Tryz.lays112_ren : Go.Shelf.Ren := ⟨fun | 112 => 105 | n => n, fun | 28 => 22 | 3 => 3 | 4 => 4 | 0 => 0 | n => n, fun | n => n⟩
theorem Tryz.lays112 : Go.Proofs.Lays.n112 Tryz.prog Tryz.lays112_ren := {
  mixed := by kernel_rfl
  f112 := Tryz.func105.trans (congrArg some (by kernel_rfl))
  t0 := Tryz.underlying0
  a0 := Tryz.isAgg0
  z0 := Tryz.sizeOf0
  v0 := Tryz.zeroValue0
  t3 := Tryz.underlying3
  a3 := Tryz.isAgg3
  z3 := Tryz.sizeOf3
  v3 := Tryz.zeroValue3
  t4 := Tryz.underlying4
  a4 := Tryz.isAgg4
  z4 := Tryz.sizeOf4
  v4 := Tryz.zeroValue4
  t28 := Tryz.underlying22
  a28 := Tryz.isAgg22
  z28 := Tryz.sizeOf22
  v28 := Tryz.zeroValue22 }
open Go.RowKit Go.Lib Go.Sort in
/-- slices.Reverse at []int, over an array: Go's loop from the two ends inward is walked; it makes 'Sort.reverseLoop 0 (len - 1)', which is 'Array.reverse' (Derived/Lib/SlicesMore.lean). (LAID: no walk: one application.) -/
theorem Tryz.slices_Reverse_int_arr (blk off cap : Nat) (d : Array Int) (w : World) (hH : Holds encI w blk off d) (hsz : d.size ≤ 9223372036854775807) :
    Calls Tryz.prog 105 #[.slice (some ⟨blk, off, none⟩) d.size cap] w fun e w' => e = .returned (.tuple #[]) ∧ ∃ n, w' = putRow encI (Sort.ahead w n) blk off d.reverse := Any.slices_Reverse_int_arr Tryz.lays112 blk off cap d w hH hsz
open Go.RowKit Go.Lib Go.Sort in
/-- slices.Reverse at []int: "Reverse reverses the elements of the slice in place.": THE SLICE's CELLS HOLD 'zs.reverse' BEHIND THE CALL; all else is as it was, but for the count of draws (the exchange 's[i], s[j] = s[j], s[i]' draws its order, once a round). IN THE WORDS OF slices.Sort's CONTRACT: 'Holds': the cells hold zs and none is frozen; 'putRow': the world with those cells holding another array. A slice of length 0 that is not nil is among them ('zs = []'); nil: '.._nil'. (LAID: no walk: one application.) -/
theorem Tryz.slices_Reverse_int (blk off cap : Nat) (zs : List Int) (w : World) (hH : Holds (Value.int .i64) w blk off zs.toArray) (hsz : zs.length ≤ 9223372036854775807) :
    Calls Tryz.prog 105 #[.slice (some ⟨blk, off, none⟩) zs.length cap] w fun e w' => e = .returned (.tuple #[]) ∧ ∃ n, w' = putRow (Value.int .i64) (Sort.ahead w n) blk off zs.reverse.toArray := Any.slices_Reverse_int Tryz.lays112 blk off cap zs w hH hsz
open Go.RowKit Go.Lib Go.Sort in
/-- The same at a slice of length 0, a nil one too: nothing is read, nothing written, nothing drawn. (LAID: no walk: one application.) -/
theorem Tryz.slices_Reverse_int_empty (a : Option Addr) (cap : Nat) (w : World) :
    Calls Tryz.prog 105 #[.slice a 0 cap] w fun e w' => e = .returned (.tuple #[]) ∧ w' = w := Any.slices_Reverse_int_empty Tryz.lays112 a cap w
def Tryz.laysNm215_ren : Go.Shelf.Ren := ⟨fun | 15 => 42 | n => n, fun | 22 => 22 | 3 => 3 | 4 => 4 | n => n, fun | n => n⟩
theorem Tryz.laysNm215 : Go.Proofs.Lays2.n15 Tryz.prog Tryz.laysNm215_ren := {
  mixed := by kernel_rfl
  f15 := Tryz.func42.trans (congrArg some (by kernel_rfl))
  t3 := Tryz.underlying3
  a3 := Tryz.isAgg3
  z3 := Tryz.sizeOf3
  v3 := Tryz.zeroValue3
  t4 := Tryz.underlying4
  a4 := Tryz.isAgg4
  z4 := Tryz.sizeOf4
  v4 := Tryz.zeroValue4
  t22 := Tryz.underlying22
  a22 := Tryz.isAgg22
  z22 := Tryz.sizeOf22
  v22 := Tryz.zeroValue22
  i3 := by kernel_rfl }
open Go.RowKit Go.Lib in
/-- slices.Clone at []int: "Clone returns a copy of the slice. The elements are copied using assignment, so this is a shallow clone. The result may have additional unused capacity. The result preserves the nilness of s.": OF A SLICE THAT IS NOT nil IT RETURNS A SLICE THAT IS NOT nil, OF THE SAME ELEMENTS, IN MEMORY OF THE CALL's OWN: in the how-to's words (6f): 'w'.ownsRow B e 1 v' n cells': v' begins at the head of a row among the blocks from B on (B: the heap's size at the call), not frozen, whose first cells are the elements · 'Below B w w'': below B all is as it was. The capacity is whatever the run-time gives. 'zs': what the cells behind the slice's address hold; 'zs.take n': its elements. (LAID: no walk: one application.) -/
theorem Tryz.slices_Clone_int (b off n c : Nat) (zs : List Int) (w : World) (hz : n ≤ zs.length) (hbig : n * 8 ≤ 140737488355328) (hc : ∀ j, j < zs.length → w.cell? ⟨b, off + j, none⟩ = some (.int .i64 (zs.getD j 0))) :
    Calls Tryz.prog 42 #[.slice (some ⟨b, off, none⟩) n c] w fun e w' => ∃ v', e = .returned v' ∧ w'.ownsRow w.heap.size 3 1 v' n ((zs.take n).map (Value.int .i64)) ∧ v' ≠ .slice none 0 0 ∧ Below w.heap.size w w' := Any.slices_Clone_int Tryz.laysNm215 b off n c zs w hz hbig hc
open Go.RowKit Go.Lib in
/-- The same at nil: nil comes back; the world is as it was. (LAID: no walk: one application.) -/
theorem Tryz.slices_Clone_int_nil (n c : Nat) (w : World) :
    Calls Tryz.prog 42 #[.slice none n c] w fun e w' => e = .returned (.slice none 0 0) ∧ w' = w := Any.slices_Clone_int_nil Tryz.laysNm215 n c w
open Go.RowKit Go.Lib in
/-- The same at a slice of length 0 that is not nil, WHATEVER ITS ADDRESS (no cell is asked for): a slice that is not nil and owns nothing comes back. (LAID: no walk: one application.) -/
theorem Tryz.slices_Clone_int_zero (a : Addr) (c : Nat) (w : World) :
    Calls Tryz.prog 42 #[.slice (some a) 0 c] w fun e w' => ∃ v', e = .returned v' ∧ w'.ownsRow w.heap.size 3 1 v' 0 [] ∧ v' ≠ .slice none 0 0 ∧ Below w.heap.size w w' := Any.slices_Clone_int_zero Tryz.laysNm215 a c w
def Tryz.laysNm237_ren : Go.Shelf.Ren := ⟨fun | 37 => 103 | n => n, fun | 3 => 3 | 4 => 4 | n => n, fun | n => n⟩
theorem Tryz.laysNm237 : Go.Proofs.Lays2.n37 Tryz.prog Tryz.laysNm237_ren := {
  mixed := by kernel_rfl
  f37 := Tryz.func103.trans (congrArg some (by kernel_rfl))
  t3 := Tryz.underlying3
  a3 := Tryz.isAgg3
  z3 := Tryz.sizeOf3
  v3 := Tryz.zeroValue3
  t4 := Tryz.underlying4
  a4 := Tryz.isAgg4
  z4 := Tryz.sizeOf4
  v4 := Tryz.zeroValue4 }
open Go.RowKit Go.Lib in
/-- cmp.isNaN[int]: 'x != x': false. (LAID: no walk: one application.) -/
theorem Tryz.cmp_isNaN_int2 (x : Int) (w : World) :
    Calls Tryz.prog 103 #[.int .i64 x] w fun e w' => e = .returned (.bool false) ∧ w' = w := Any.cmp_isNaN_int2 Tryz.laysNm237 x w
def Tryz.laysNm232_ren : Go.Shelf.Ren := ⟨fun | 32 => 98 | n => n, fun | 3 => 3 | 4 => 4 | n => n, fun | n => n⟩
theorem Tryz.laysNm232 : Go.Proofs.Lays2.n32 Tryz.prog Tryz.laysNm232_ren := {
  mixed := by kernel_rfl
  f32 := Tryz.func98.trans (congrArg some (by kernel_rfl))
  t3 := Tryz.underlying3
  a3 := Tryz.isAgg3
  z3 := Tryz.sizeOf3
  v3 := Tryz.zeroValue3
  t4 := Tryz.underlying4
  a4 := Tryz.isAgg4
  z4 := Tryz.sizeOf4
  v4 := Tryz.zeroValue4 }
open Go.RowKit Go.Lib in
/-- slices.isNaN[int]: 'x != x': false. (LAID: no walk: one application.) -/
theorem Tryz.slices_isNaN_int2 (x : Int) (w : World) :
    Calls Tryz.prog 98 #[.int .i64 x] w fun e w' => e = .returned (.bool false) ∧ w' = w := Any.slices_isNaN_int2 Tryz.laysNm232 x w
def Tryz.laysNm231_ren : Go.Shelf.Ren := ⟨fun | 31 => 97 | 37 => 103 | n => n, fun | 3 => 3 | 4 => 4 | n => n, fun | n => n⟩
theorem Tryz.laysNm231 : Go.Proofs.Lays2.n31 Tryz.prog Tryz.laysNm231_ren := {
  mixed := by kernel_rfl
  f31 := Tryz.func97.trans (congrArg some (by kernel_rfl))
  f37 := Tryz.func103.trans (congrArg some (by kernel_rfl))
  t3 := Tryz.underlying3
  a3 := Tryz.isAgg3
  z3 := Tryz.sizeOf3
  v3 := Tryz.zeroValue3
  t4 := Tryz.underlying4
  a4 := Tryz.isAgg4
  z4 := Tryz.sizeOf4
  v4 := Tryz.zeroValue4 }
open Go.RowKit Go.Lib in
/-- cmp.Less[int]: "Less reports whether x is less than y.": 'x < y'; the world is as it was. (LAID: no walk: one application.) -/
theorem Tryz.cmp_Less_int2 (x y : Int) (w : World) :
    Calls Tryz.prog 97 #[.int .i64 x, .int .i64 y] w fun e w' => e = .returned (.bool (decide (x < y))) ∧ w' = w := Any.cmp_Less_int2 Tryz.laysNm231 x y w
def Tryz.laysNm225_ren : Go.Shelf.Ren := ⟨fun | 25 => 88 | 31 => 97 | 32 => 98 | 37 => 103 | n => n, fun | 22 => 22 | 3 => 3 | 4 => 4 | 40 => 143 | 0 => 0 | n => n, fun | n => n⟩
theorem Tryz.laysNm225 : Go.Proofs.Lays2.n25 Tryz.prog Tryz.laysNm225_ren := {
  mixed := by kernel_rfl
  f25 := Tryz.func88.trans (congrArg some (by kernel_rfl))
  f31 := Tryz.func97.trans (congrArg some (by kernel_rfl))
  f32 := Tryz.func98.trans (congrArg some (by kernel_rfl))
  f37 := Tryz.func103.trans (congrArg some (by kernel_rfl))
  t0 := Tryz.underlying0
  a0 := Tryz.isAgg0
  z0 := Tryz.sizeOf0
  v0 := Tryz.zeroValue0
  t3 := Tryz.underlying3
  a3 := Tryz.isAgg3
  z3 := Tryz.sizeOf3
  v3 := Tryz.zeroValue3
  t4 := Tryz.underlying4
  a4 := Tryz.isAgg4
  z4 := Tryz.sizeOf4
  v4 := Tryz.zeroValue4
  t22 := Tryz.underlying22
  a22 := Tryz.isAgg22
  z22 := Tryz.sizeOf22
  v22 := Tryz.zeroValue22
  t40 := Tryz.underlying143
  a40 := Tryz.isAgg143
  z40 := Tryz.sizeOf143
  v40 := Tryz.zeroValue143 }
open Go.RowKit Go.Lib in
/-- slices.BinarySearch at []int: "BinarySearch searches for target in a sorted slice and returns the earliest position where target is found, or the position where target would appear in the sort order; it also returns a bool saying whether the target is really found in the slice. The slice must be sorted in increasing order.": OF A SORTED SLICE IT RETURNS how many elements are less than the target, and whether the target is among the elements; the world is as it was but for the count of draws. 'zs': what the cells behind the slice's address hold; 'zs.take n': its elements. (Of a slice that is not sorted: no contract here.) (LAID: no walk: one application.) -/
theorem Tryz.slices_BinarySearch_int (b off n c : Nat) (zs : List Int) (x : Int) (w : World) (hz : n ≤ zs.length) (hbig : n < 4611686018427387904) (hc : ∀ j, j < zs.length → w.cell? ⟨b, off + j, none⟩ = some (.int .i64 (zs.getD j 0))) (hs : (zs.take n).Pairwise (· ≤ ·)) :
    Calls Tryz.prog 88 #[.slice (some ⟨b, off, none⟩) n c, .int .i64 x] w fun e w' => e = .returned (.tuple #[.int .i64 ((zs.take n).countP (· < x) : Nat), .bool ((zs.take n).contains x)]) ∧ ∃ q, w' = w.drewN q := Any.slices_BinarySearch_int Tryz.laysNm225 b off n c zs x w hz hbig hc hs
def Tryz.laysNm223_ren : Go.Shelf.Ren := ⟨fun | 23 => 87 | n => n, fun | 22 => 22 | 3 => 3 | 4 => 4 | 0 => 0 | n => n, fun | n => n⟩
theorem Tryz.laysNm223 : Go.Proofs.Lays2.n23 Tryz.prog Tryz.laysNm223_ren := {
  mixed := by kernel_rfl
  f23 := Tryz.func87.trans (congrArg some (by kernel_rfl))
  t0 := Tryz.underlying0
  a0 := Tryz.isAgg0
  z0 := Tryz.sizeOf0
  v0 := Tryz.zeroValue0
  t3 := Tryz.underlying3
  a3 := Tryz.isAgg3
  z3 := Tryz.sizeOf3
  v3 := Tryz.zeroValue3
  t4 := Tryz.underlying4
  a4 := Tryz.isAgg4
  z4 := Tryz.sizeOf4
  v4 := Tryz.zeroValue4
  t22 := Tryz.underlying22
  a22 := Tryz.isAgg22
  z22 := Tryz.sizeOf22
  v22 := Tryz.zeroValue22
  i3 := by kernel_rfl }
open Go.RowKit Go.Lib Go.Sort in
/-- slices.Delete at []int, over an array. (LAID: no walk: one application.) -/
theorem Tryz.slices_Delete_int_arr (blk off cap i j : Nat) (d : Array Int) (w : World) (hH : Holds encI w blk off d) (hcap : d.size ≤ cap) (hm : cap ≤ 9223372036854775807) (hij : i ≤ j) (hj : j ≤ d.size) :
    Calls Tryz.prog 87 #[.slice (some ⟨blk, off, none⟩) d.size cap, .int .i64 i, .int .i64 j] w fun e w' => e = .returned (.slice (some ⟨blk, off, none⟩) (d.size - (j - i)) cap) ∧ ∃ q, w' = putRow encI (Sort.ahead w q) blk off (d.toList.take i ++ d.toList.drop j ++ List.replicate (j - i) 0).toArray := Any.slices_Delete_int_arr Tryz.laysNm223 blk off cap i j d w hH hcap hm hij hj
open Go.RowKit Go.Lib Go.Sort in
/-- slices.Delete at []int: "Delete modifies s in place by removing the elements s[i:j], and returns the modified slice. Delete panics if j > len(s) or s[i:j] is not a valid slice of s. Delete is O(len(s)-i), so if many items must be deleted, it is better to_ make a single call deleting them all together than to_ delete one at a time. Delete zeroes the elements s[len(s)-(j-i):len(s)]. If the result is empty, it has the same nilness as s.": FOR i ≤ j ≤ len(s) IT RETURNS THE SLICE CUT TO len(s) - (j - i) ELEMENTS; ITS CELLS HOLD what stood ahead of i, what stood from j on, then j - i zero values; all else is as it was, but for the count of draws. IN THE WORDS OF slices.Sort's CONTRACT ('Holds', 'putRow'). It asks 'zs.length ≤ cap ≤ 2^63 - 1' (every slice's). (Outside i ≤ j ≤ len(s) it panics: no contract here.) (LAID: no walk: one application.) -/
theorem Tryz.slices_Delete_int (blk off cap i j : Nat) (zs : List Int) (w : World) (hH : Holds (Value.int .i64) w blk off zs.toArray) (hcap : zs.length ≤ cap) (hm : cap ≤ 9223372036854775807) (hij : i ≤ j) (hj : j ≤ zs.length) :
    Calls Tryz.prog 87 #[.slice (some ⟨blk, off, none⟩) zs.length cap, .int .i64 i, .int .i64 j] w fun e w' => e = .returned (.slice (some ⟨blk, off, none⟩) (zs.length - (j - i)) cap) ∧ ∃ q, w' = putRow (Value.int .i64) (Sort.ahead w q) blk off (zs.take i ++ zs.drop j ++ List.replicate (j - i) 0).toArray := Any.slices_Delete_int Tryz.laysNm223 blk off cap i j zs w hH hcap hm hij hj
open Go.RowKit Go.Lib Go.Sort in
/-- slices.Reverse at []int, of an argument: the n cells hold the elements in reverse. (LAID: no walk: one application.) -/
theorem Tryz.slices_Reverse_int_cells (b off n c : Nat) (zs : List Int) (w : World) (hz : n ≤ zs.length) (hbig : n ≤ 9223372036854775807) (hc : ∀ j, j < zs.length → w.cell? ⟨b, off + j, none⟩ = some (.int .i64 (zs.getD j 0))) (hf : ∀ j, j < n → w.frozen? ⟨b, off + j, none⟩ = false) :
    Calls Tryz.prog 105 #[.slice (some ⟨b, off, none⟩) n c] w fun e w' => e = .returned (.tuple #[]) ∧ ∃ q, w' = (w.drewN q).setCells b off ((zs.take n).reverse.map (Value.int .i64)) := Any.slices_Reverse_int_cells Tryz.lays112 b off n c zs w hz hbig hc hf
open Go.RowKit Go.Lib Go.Sort in
/-- slices.Delete at []int, of an argument, for i ≤ j ≤ n: the slice cut to_ n - (j - i) elements; the n cells hold what stood ahead of i, what stood from j on, then zeros. (LAID: no walk: one application.) -/
theorem Tryz.slices_Delete_int_cells (b off n c i j : Nat) (zs : List Int) (w : World) (hz : n ≤ zs.length) (hcap : n ≤ c) (hm : c ≤ 9223372036854775807) (hij : i ≤ j) (hj : j ≤ n) (hc : ∀ j, j < zs.length → w.cell? ⟨b, off + j, none⟩ = some (.int .i64 (zs.getD j 0))) (hf : ∀ j, j < n → w.frozen? ⟨b, off + j, none⟩ = false) :
    Calls Tryz.prog 87 #[.slice (some ⟨b, off, none⟩) n c, .int .i64 i, .int .i64 j] w fun e w' => e = .returned (.slice (some ⟨b, off, none⟩) (n - (j - i)) c) ∧ ∃ q, w' = (w.drewN q).setCells b off (((zs.take n).take i ++ (zs.take n).drop j ++ List.replicate (j - i) 0).map (Value.int .i64)) := Any.slices_Delete_int_cells Tryz.laysNm223 b off n c i j zs w hz hcap hm hij hj hc hf
open Go.RowKit Go.Lib in
/-- slices.BinarySearch at []int of no element: position 0, not found; the world is as it was. (LAID: no walk: one application.) -/
theorem Tryz.slices_BinarySearch_int_empty (a : Option Addr) (c : Nat) (x : Int) (w : World) :
    Calls Tryz.prog 88 #[.slice a 0 c, .int .i64 x] w fun e w' => e = .returned (.tuple #[.int .i64 0, .bool false]) ∧ w' = w := Any.slices_BinarySearch_int_empty Tryz.laysNm225 a c x w
open Go.RowKit Go.Lib in
/-- slices.Delete at []int of no element ('Delete(s, 0, 0)'): s comes back; the world is as it was. (LAID: no walk: one application.) -/
theorem Tryz.slices_Delete_int_empty (a : Option Addr) (c : Nat) (w : World) :
    Calls Tryz.prog 87 #[.slice a 0 c, .int .i64 0, .int .i64 0] w fun e w' => e = .returned (.slice a 0 c) ∧ w' = w := Any.slices_Delete_int_empty Tryz.laysNm223 a c w
def Tryz.laysSlE041_f42_ren : Go.Shelf.Ren := ⟨fun | 41 => 42 | n => n, fun | 22 => 22 | 23 => 3 | 4 => 4 | n => n, fun | n => n⟩
theorem Tryz.laysSlE041_f42 : Go.Proofs.SlLaysE0.n41 Tryz.prog Tryz.laysSlE041_f42_ren := {
  mixed := by kernel_rfl
  f41 := ⟨Tryz.f42.name, by decide, Tryz.func42.trans (congrArg some (by kernel_rfl))⟩
  t4 := Tryz.underlying4
  a4 := Tryz.isAgg4
  z4 := Tryz.sizeOf4
  v4 := Tryz.zeroValue4
  t22 := Tryz.underlying22
  a22 := Tryz.isAgg22
  z22 := Tryz.sizeOf22
  v22 := Tryz.zeroValue22 }
open Go.RowKit Go.Lib in
/-- slices.Clone: "Clone returns a copy of the slice. The elements are copied using assignment, so this is a shallow clone. The result may have additional unused capacity. The result preserves the nilness of s.": OF A SLICE THAT IS NOT nil IT RETURNS A SLICE THAT IS NOT nil, OF THE SAME CELLS, IN MEMORY OF THE CALL's OWN ('ownsRow': the how-to's 6f); below the heap's size at the call all is as it was. (LAID AT THE INSTANCE 'slices.Clone[[]int,int]': no walk: one application.) -/
theorem Tryz.slices_Clone (i0 : TypeInfo) (z : Value) (size bytes : Nat) (hi : Tryz.prog.info? 3 = some i0) (hz0 : i0.zero = some z) (hz1 : i0.size = size) (hz2 : i0.bytes = bytes) (hzs : z.cells.size = size) (hsz : 0 < size) (z23 : ∀ w, (Go.sizeOf 3).run Tryz.prog w = .ok size w) (b off n c : Nat) (news : List Value) (w : World) (hl : news.length = n * size) (hn : n ≤ maxLen) (hbig : n * bytes ≤ 140737488355328) (hc : ∀ j u, news[j]? = some u → w.cell? ⟨b, off + j, none⟩ = some u) (h1 : ∀ u ∈ news, u.oneCell' = true) :
    Calls Tryz.prog 42 #[.slice (some ⟨b, off, none⟩) n c] w fun e w' => ∃ v', e = .returned v' ∧ w'.ownsRow w.heap.size 3 size v' n news ∧ v' ≠ .slice none 0 0 ∧ Below w.heap.size w w' := AnyE.slices_Clone Tryz.laysSlE041_f42 i0 z size bytes hi hz0 hz1 hz2 hzs hsz z23 b off n c news w hl hn hbig hc h1
open Go.RowKit Go.Lib in
/-- The same at nil: nil comes back; the world is as it was; nothing is asked of the element's type. (LAID AT THE INSTANCE 'slices.Clone[[]int,int]': no walk: one application.) -/
theorem Tryz.slices_Clone_nil (n c : Nat) (w : World) :
    Calls Tryz.prog 42 #[.slice none n c] w fun e w' => e = .returned (.slice none 0 0) ∧ w' = w := AnyE.slices_Clone_nil Tryz.laysSlE041_f42 n c w
end Go.Proofs
/- Layer 18 (check): fresh, more: contracts. -/
namespace Go.Proofs.YtmmgdgfpemkdnaaGreat
open Go.RowKit
theorem Ck.freshGo_skip {g : List Bool} {acc r : List Int} {i : Int} (h : ¬ (i ≠ 0 ∧ Ck.at_ g i = false ∧ acc.contains i = false)) : Ck.freshGo g acc (i :: r) = Ck.freshGo g acc r := by
  rw [Ck.freshGo, if_neg h]
theorem Ck.freshGo_add {g : List Bool} {acc r : List Int} {i : Int} (h : i ≠ 0 ∧ Ck.at_ g i = false ∧ acc.contains i = false) : Ck.freshGo g acc (i :: r) = Ck.freshGo g (acc ++ [i]) r := by
  rw [Ck.freshGo, if_pos h]
theorem Ck.freshGo_len (g : List Bool) : ∀ (r acc : List Int), (Ck.freshGo g acc r).length ≤ acc.length + r.length
  | [], acc => by simp [Ck.freshGo]
  | i :: r, acc => by
    rw [Ck.freshGo]
    split
    · have := Ck.freshGo_len g r (acc ++ [i]); simp at this ⊢; omega
    · have := Ck.freshGo_len g r acc; simp at this ⊢; omega
theorem Ck.freshGo_mem (g : List Bool) : ∀ (r acc : List Int) (z : Int), z ∈ Ck.freshGo g acc r → z ∈ acc ∨ z ∈ r
  | [], acc, z, h => .inl h
  | i :: r, acc, z, h => by
    rw [Ck.freshGo] at h
    split at h
    · rcases Ck.freshGo_mem g r _ z h with h | h
      · rcases List.mem_append.1 h with h | h
        · exact .inl h
        · simp at h; exact .inr (by simp [h])
      · exact .inr (by simp [h])
    · rcases Ck.freshGo_mem g r _ z h with h | h
      · exact .inl h
      · exact .inr (by simp [h])
theorem Ck.sum_bd (c : CkN) (h : ∀ z ∈ c.words, 0 ≤ z ∧ z ≤ 65536) : ∀ l : List Int, 0 ≤ Ck.sumW c l ∧ Ck.sumW c l ≤ l.length * 65536
  | [] => by simp [Ck.sumW]
  | z :: l => by
    obtain ⟨h1, h2⟩ := Ck.sum_bd c h l
    have hz : 0 ≤ Ck.wd c z ∧ Ck.wd c z ≤ 65536 := by
      unfold Ck.wd
      by_cases hl : z.toNat < c.words.length
      · rw [List.getD_eq_getElem?_getD, List.getElem?_eq_getElem hl]; exact h _ (List.getElem_mem hl)
      · rw [List.getD_eq_getElem?_getD, List.getElem?_eq_none (by omega)]; simp
    unfold Ck.sumW at *
    simp only [List.map_cons, List.sum_cons, List.length_cons]
    omega
theorem Ck.sumW_take (c : CkN) (l : List Int) (k : Nat) (h : k < l.length) : Ck.sumW c (l.take (k + 1)) = Ck.sumW c (l.take k) + Ck.wd c l[k] := by
  unfold Ck.sumW
  rw [List.take_succ_eq_append_getElem h, List.map_append, List.sum_append]; simp
def FreshP (c : CkN) (s : CkS) (id : Nat) (W : World) (e : Ending) (w' : World) : Prop :=
  ∃ v, e = .returned v ∧ w'.ownsRow W.heap.size 3 1 v (Ck.fresh c s id).length ((Ck.fresh c s id).map (Value.int .i64)) ∧ Later W w'
set_option maxHeartbeats 4000000 in
set_option maxRecDepth 100000 in
theorem check_fresh (a : CkA) (c : CkN) (W0 : World) (s : CkS) (W : World) (hS : a.Still c W0) (hM : CkM a c W0 s W) (id : Nat) (hid : id < c.words.length) :
    Calls Tryz.prog 46 #[.pointer (some ⟨a.p, 0, none⟩), .int .i64 id] W (FreshP c s id W) := by
  obtain ⟨i0, hi, hz0, hz1, hz2⟩ := info_parts int_info
  have hidi : id < c.ins.length := by rw [hS.ok.ins]; exact hid
  have HR := Lib.hid (show Ck.fresh c s id = Ck.freshGo s.grad [] c.ins[id] by unfold Ck.fresh; rw [Ck.insF_at hidi])
  obtain ⟨b, off, S, e, hIn, hb, hc, hI, hl, hin⟩ := hS.row hidi
  have hc' := hM.later.cell hc
  obtain ⟨-, -, x2, -, -, -, -, -, x8, -⟩ := hM.cells14
  have hB := fun i (h : i < c.words.length) => bool_at hM.grad (by rw [hM.l3]; exact h)
  have h513 := hS.ok.m2
  have HI1 := hS.ok.ins
  rw [hIn, HI1] at x2
  generalize c.ins[id] = r at *
  have q1 : (0 : Int) ≤ (id : Int) := by omega
  have q2 : (id : Int) < c.words.length := by omega
  have hl0 := hM.later
  have hx8 := x8
  have HI := Lib.hid hI
  have Hin := Lib.hid hin
  have HB := Lib.hid hB
  have Hl0 := Lib.hid hl0
  have Hx8 := Lib.hid hx8
  clear hI hin hB hl0 hx8
  clear hS hM hc hIn hidi HI1 x8
  go_enter Tryz.func46, Tryz.ntmps46
  go_wp2_with fail
  clear hc' x2 q1 q2
  go_loopw [5, 7, 16] (fun v _ i wr => ∃ (k : Nat) (zs : List Int), k ≤ r.length ∧ i = .int .i64 (k : Int) ∧ Ck.freshGo s.grad [] r = Ck.freshGo s.grad zs (r.drop k) ∧ zs.length ≤ k ∧ wr.ownsRow W.heap.size 3 1 v zs.length (zs.map (Value.int .i64)) ∧ Later W wr) (fun _ _ i _ => r.length - (intOf i).toNat)
  case atStart => exact ⟨0, [], Nat.zero_le _, rfl, by simp, Nat.le_refl _, World.ownsRow_nil _ _ _ _, Later.refl _⟩
  case round =>
    obtain ⟨k, zs, hk, rfl, hgo, hzk, hown, hlw⟩ := hrel
    have hlw0 := Hl0.out.trans hlw
    have hsz := Below.size hlw
    by_cases hlt : k < r.length
    · obtain ⟨b2, off2, rfl, -, hc2⟩ := HI.out.below hlw0 (Nat.le_refl _) k hlt
      rw [List.getD_eq_getElem?_getD, List.getElem?_eq_getElem hlt, Option.getD_some] at hc2
      have hz := Hin.out _ (List.getElem_mem hlt)
      rw [List.drop_eq_getElem_cons hlt] at hgo
      generalize r[k] = z at *
      obtain ⟨zn, rfl⟩ := Int.eq_ofNat_of_zero_le hz.1
      have hzn : zn < c.words.length := by omega
      have hcz := hlw.cell (HB.out zn hzn)
      have x8 := hlw.cell Hx8.out
      have HAt := Lib.hid (show Ck.at_ s.grad zn = s.grad.getD zn false by unfold Ck.at_; rw [Int.toNat_natCast])
      have q3 : (0 : Int) ≤ (zn : Int) := by omega
      have q4 : (zn : Int) < c.words.length := by omega
      have HSkip := fun h => Lib.hid (hgo.trans (Ck.freshGo_skip h))
      have HAdd := fun h => Lib.hid (hgo.trans (Ck.freshGo_add h))
      have Hown := Lib.hid hown
      have Hlw := Lib.hid hlw
      have Hlw0 := Lib.hid hlw0
      clear hown hlw hlw0
      clear hgo
      by_cases h0 : zn = 0
      · subst h0
        have HS := HSkip (by simp)
        clear HSkip HAdd hcz x8 HAt
        go_wp2_with fail
        go_roundw
        case rel => exact ⟨k + 1, zs, by omega, by go_num, HS.out, by omega, Hown.out, Hlw.out⟩
        case measure => simp [intOf]; omega
      · have hne : ((zn : Int) != 0) = true := by rw [bne_iff_ne]; omega
        cases hv : s.grad.getD zn false
        rotate_left
        · have HS := HSkip (by rw [HAt.out, hv]; simp)
          rw [hv] at hcz
          clear HSkip HAdd HAt hv h0
          go_wp2_with fail
          go_roundw
          case rel => exact ⟨k + 1, zs, by omega, by go_num, HS.out, by omega, Hown.out, Hlw.out⟩
          case measure => simp [intOf]; omega
        · rw [hv] at hcz
          obtain ⟨A, cp, rfl⟩ := own_form Hown.out
          have hcon : Calls Tryz.prog 58 #[.slice A zs.length cp, .int .i64 zn] wr fun e w' => e = .returned (.bool (zs.contains (zn : Int))) ∧ w' = wr := by
            by_cases hz0 : zs.length = 0
            · rw [hz0, List.eq_nil_of_length_eq_zero hz0]
              exact Tryz.slices_Contains_int_empty A cp zn wr
            · obtain ⟨hI2, -⟩ := own_ints Hown.out
              obtain ⟨b3, o3, rfl, -, -⟩ := hI2 0 (by omega)
              have := Tryz.slices_Contains_int b3 o3 zs.length cp zs zn wr (Nat.le_refl _) (by omega) (fun j hj => by
                obtain ⟨b4, o4, e4, -, h4⟩ := hI2 j hj
                cases e4; exact h4)
              rwa [List.take_length] at this
          have Hcon := Lib.hid hcon
          clear hcon
          cases hct : zs.contains (zn : Int)
          rotate_left
          · have HS := HSkip (by rw [hct]; simp)
            clear HSkip HAdd HAt hv h0
            go_wp2_with fail
            refine Hcon.out.mono ?_
            rintro e w5 ⟨rfl, rfl⟩
            rw [hct]
            clear hct Hcon hcz x8
            go_wp2_with fail
            go_roundw
            case rel => exact ⟨k + 1, zs, by omega, by go_num, HS.out, by omega, Hown.out, Hlw.out⟩
            case measure => simp [intOf]; omega
          · have HS := HAdd ⟨by omega, by rw [HAt.out, hv], hct⟩
            clear HSkip HAdd HAt hv h0
            go_wp2_with fail
            refine Hcon.out.mono ?_
            rintro e w5 ⟨rfl, rfl⟩
            rw [hct]
            clear hct Hcon hcz x8
            go_wp2_with (at_builtin; refine wpList_append_own _ rfl _ _ 22 rfl W.heap.size 3 i0 (.int .i64 0) 1 8 Tryz.underlying22 hi hz0 hz1 hz2 rfl (by decide) _ _ _ rfl (Hown.out.alloc _) ⟨w5.heap.size, 0, none⟩ 1 1 [.int .i64 zn] rfl rfl (one_new _ _ _) (by intro u hu; simp at hu; subst hu; rfl) (by unfold maxLen; omega) (by omega) (by simp; omega) ?_)
            intro v' w6 hown6 hgrow hnil
            have HO6 := Lib.hid (show w6.ownsRow W.heap.size 3 1 v' (zs ++ [(zn : Int)]).length ((zs ++ [(zn : Int)]).map (Value.int .i64)) by simpa using hown6)
            have HL6 := Lib.hid (show Later W w6 from Below.grown (Hlw.out.alloc (.cells #[.int .i64 zn] 3)) hgrow (by simp; omega) (fun b hb => (Hown.out.lt b hb).1))
            clear hown6 hgrow hnil
            go_wp2_with fail
            go_roundw
            case rel => exact ⟨k + 1, zs ++ [(zn : Int)], by omega, by go_num, HS.out, by simp; omega, HO6.out, HL6.out⟩
            case measure => simp [intOf]; omega
    · obtain rfl : k = r.length := by omega
      rw [List.drop_length] at hgo
      have HF := Lib.hid (show Ck.fresh c s id = zs by rw [HR.out, hgo]; rfl)
      have Hown := Lib.hid hown
      have Hlw := Lib.hid hlw
      clear hown hlw
      clear hgo hlw0
      go_wp2_with fail
      go_ret
      exact ⟨_, rfl, by rw [HF.out]; exact Hown.out, Hlw.out⟩
end Go.Proofs.YtmmgdgfpemkdnaaGreat
/- Layer 18 (check): more, legal: contracts. -/
namespace Go.Proofs.YtmmgdgfpemkdnaaGreat
open Go.RowKit
theorem Ck.right_id {k : Int} {id : Nat} (h : Cd.right (k, (id : Int)) = true) : k = 1 ∨ k = 2 ∨ k = 3 ∨ k = 4 ∨ k = 5 ∨ k = 6 := by
  have := (Cd.right_bd h); simp at this; omega
theorem Ck.wd_at {c : CkN} {k : Nat} (hk : k < c.words.length) : Ck.wd c k = c.words[k] := by
  unfold Ck.wd; rw [Int.toNat_natCast, List.getD_eq_getElem?_getD, List.getElem?_eq_getElem hk]; rfl
theorem CkA.Still.word {a : CkA} {c : CkN} {W0 : World} (h : a.Still c W0) {k : Nat} (hk : k < c.words.length) : ∃ b off, a.Wd = some ⟨b, off, none⟩ ∧ W0.cell? ⟨b, off + k, none⟩ = some (.int .i64 (Ck.wd c k)) ∧ 0 ≤ Ck.wd c k ∧ Ck.wd c k ≤ 65536 := by
  obtain ⟨b, off, e, -, hc⟩ := h.words k hk
  rw [List.getD_eq_getElem?_getD, List.getElem?_eq_getElem hk, Option.getD_some] at hc
  rw [Ck.wd_at hk]
  exact ⟨b, off, e, hc, h.ok.word _ (List.getElem_mem hk)⟩
theorem Ck.insF_in {a : CkA} {c : CkN} {W0 : World} (h : a.Still c W0) {id : Nat} (hid : id < c.words.length) : (Ck.insF c id).length ≤ 1048576 ∧ ∀ i ∈ Ck.insF c id, 0 ≤ i ∧ i < c.words.length := by
  have hidi : id < c.ins.length := by rw [h.ok.ins]; exact hid
  rw [Ck.insF_at hidi]
  exact h.ok.row _ (List.getElem_mem hidi)
theorem Ck.fresh_in {a : CkA} {c : CkN} {W0 : World} (h : a.Still c W0) (s : CkS) {id : Nat} (hid : id < c.words.length) : (Ck.fresh c s id).length ≤ 1048576 ∧ ∀ i ∈ Ck.fresh c s id, 0 ≤ i ∧ i < c.words.length := by
  obtain ⟨h1, h2⟩ := Ck.insF_in h hid
  refine ⟨?_, fun i hi => ?_⟩
  · have := Ck.freshGo_len s.grad (Ck.insF c id) []
    unfold Ck.fresh; simp at this; omega
  · rcases Ck.freshGo_mem s.grad _ _ i hi with h | h
    · simp at h
    · exact h2 i h
set_option maxHeartbeats 8000000 in
set_option maxRecDepth 100000 in
theorem check_more (a : CkA) (c : CkN) (W0 : World) (s : CkS) (W : World) (hS : a.Still c W0) (hM : CkM a c W0 s W) (k : Int) (id : Nat) (hr : Cd.right (k, (id : Int)) = true) (hid : id < c.words.length) :
    Calls Tryz.prog 45 #[.pointer (some ⟨a.p, 0, none⟩), .agg #[.int .i64 k, .int .i64 id]] W fun e w' => e = .returned (.int .i64 (Ck.more c s k id)) ∧ Later W w' := by
  have hla : Later W (W.alloc (.cells #[.int .i64 k, .int .i64 id] 46)) := (Later.refl W).alloc _
  have hM1 := hM.to_later hla
  obtain ⟨bw, ow, hWd, hcw, hw0, hw1⟩ := hS.word hid
  obtain ⟨l, hle⟩ := Int.eq_ofNat_of_zero_le hS.ok.loss.1
  have hll : l < c.words.length := by have := hS.ok.loss.2; omega
  obtain ⟨bw', ow', hWd', hcl, hv0, hv1⟩ := hS.word hll
  rw [hWd] at hWd'
  cases hWd'
  have hlw := hM1.later
  have x1 := hlw.cell hcw
  have x2 := hlw.cell hcl
  obtain ⟨y0, -, -, -, y4, -⟩ := hM1.cells14
  rw [hWd] at y0
  rw [hle] at y4
  have hkb := Blk.new W 46 #[.int .i64 k, .int .i64 id]
  have z0 : (W.alloc (.cells #[.int .i64 k, .int .i64 id] 46)).cell? ⟨W.heap.size, 0, none⟩ = some (.int .i64 k) := hkb.cell 0
  have z1 : (W.alloc (.cells #[.int .i64 k, .int .i64 id] 46)).cell? ⟨W.heap.size, 1, none⟩ = some (.int .i64 id) := hkb.cell 1
  have q1 : (0 : Int) ≤ (id : Int) := by omega
  have q2 : (id : Int) < c.words.length := by omega
  have q3 : (0 : Int) ≤ (l : Int) := by omega
  have q4 : (l : Int) < c.words.length := by omega
  have HF := Lib.hid (check_fresh a c W0 s _ hS hM1 id hid)
  have hfin := Ck.fresh_in hS s hid
  have hsum := Ck.sum_bd c hS.ok.word
  have hword := fun i (h : i < c.words.length) => hS.word h
  have h513 := hS.ok.m2
  have hkind := Ck.right_id hr
  have E1 := Lib.hid (show Ck.more c s 1 id = Ck.wd c id from rfl)
  have E2 := Lib.hid (show Ck.more c s 2 id = Ck.wd c id from rfl)
  have E3 := Lib.hid (show Ck.more c s 3 id = 0 from rfl)
  have E4 := Lib.hid (show Ck.more c s 4 id = 0 from rfl)
  have E5 := Lib.hid (show Ck.more c s 5 id = Ck.wd c l by rw [← hle]; rfl)
  have E6 := Lib.hid (show Ck.more c s 6 id = Ck.sumW c (Ck.fresh c s id) from rfl)
  have Hfin := Lib.hid hfin
  have Hsum := Lib.hid hsum
  have Hword := Lib.hid hword
  have Hla := Lib.hid hla
  have Hlw := Lib.hid hlw
  have HWd := Lib.hid hWd
  have HM1 := Lib.hid hM1
  have Hle := Lib.hid hle
  clear hfin hsum hword hla hlw hWd hM1 hle
  clear hr hS hM hkb hcw hcl
  rcases hkind with rfl | rfl | rfl | rfl | rfl | rfl
  case inr.inr.inr.inr.inr =>
    clear z0 x1 x2 y4
    go_enter Tryz.func45, Tryz.ntmps45
    go_wp2_with fail
    generalize W.alloc (.cells #[.int .i64 6, .int .i64 id] 46) = W1 at *
    refine HF.out.mono ?_
    rintro e W2 ⟨v, rfl, hown, hl2⟩
    obtain ⟨A, cp, rfl⟩ := own_form hown
    obtain ⟨hI, -⟩ := own_ints hown
    have hM2 := HM1.out.to_later hl2
    have hlw2 := hM2.later
    obtain ⟨t0, -⟩ := hM2.cells14
    rw [HWd.out] at t0
    have hla2 := Hla.out.trans hl2
    have HI := Lib.hid hI
    have Hla2 := Lib.hid hla2
    have Hlw2 := Lib.hid hlw2
    clear hI hla2 hlw2
    clear hown hl2 hM2 HF Hla Hlw HM1 y0 z1
    generalize hfr : Ck.fresh c s id = fr at *
    go_wp2_with fail
    go_loop [5, 7, 40] (fun t _ i => ∃ k : Nat, k ≤ fr.length ∧ i = .int .i64 (k : Int) ∧ t = .int .i64 (Ck.sumW c (fr.take k))) (fun _ _ i => fr.length - (intOf i).toNat)
    case atStart => exact ⟨0, Nat.zero_le _, rfl, by simp [Ck.sumW]⟩
    case round =>
      obtain ⟨k, hk, rfl, rfl⟩ := hrel
      by_cases hlt : k < fr.length
      · obtain ⟨b3, o3, rfl, -, hc3⟩ := HI.out k hlt
        rw [List.getD_eq_getElem?_getD, List.getElem?_eq_getElem hlt, Option.getD_some] at hc3
        have hz := Hfin.out.2 _ (List.getElem_mem hlt)
        have HT := Lib.hid (Ck.sumW_take c fr k hlt)
        have hb1 := Hsum.out (fr.take k)
        rw [List.length_take] at hb1
        have hlf := Hfin.out.1
        generalize fr[k] = z at *
        obtain ⟨zn, rfl⟩ := Int.eq_ofNat_of_zero_le hz.1
        have hzn : zn < c.words.length := by omega
        obtain ⟨b4, o4, e4, hc4, w0, w1⟩ := Hword.out zn hzn
        rw [HWd.out] at e4
        cases e4
        have hc5 := Hlw2.out.cell hc4
        have p1 : (0 : Int) ≤ (zn : Int) := by omega
        have p2 : (zn : Int) < c.words.length := by omega
        have hmn : (min k fr.length) * 65536 ≤ 1048576 * 65536 := Nat.mul_le_mul_right _ (by omega)
        have hb2 : 0 ≤ Ck.sumW c (fr.take k) ∧ Ck.sumW c (fr.take k) ≤ 68719476736 := by omega
        clear hb1 hmn hc4
        generalize Ck.sumW c (fr.take k) = sm at *
        generalize Ck.wd c zn = wv at *
        go_wp2_with fail
        go_round
        case rel => exact ⟨k + 1, by omega, by go_num, by rw [HT.out]⟩
        case measure => simp [intOf]; omega
      · obtain rfl : k = fr.length := by omega
        rw [List.take_length]
        go_wp2_with fail
        go_ret
        exact ⟨by rw [E6.out]; rfl, Hla2.out⟩
  all_goals
    clear HF Hfin Hsum Hword Hlw
  case inl =>
    go_enter Tryz.func45, Tryz.ntmps45
    go_wp2_with fail
    generalize W.alloc (.cells #[.int .i64 1, .int .i64 id] 46) = W1 at *
    go_quiet (fail)
    go_wp2_with fail
    go_ret
    exact ⟨by rw [E1.out]; rfl, by first | exact Hla.out | exact Hla.out.drew | exact Hla.out.drewN _⟩
  case inr.inl =>
    go_enter Tryz.func45, Tryz.ntmps45
    go_wp2_with fail
    generalize W.alloc (.cells #[.int .i64 2, .int .i64 id] 46) = W1 at *
    go_quiet (fail)
    go_wp2_with fail
    go_ret
    exact ⟨by rw [E2.out]; rfl, by first | exact Hla.out | exact Hla.out.drew | exact Hla.out.drewN _⟩
  case inr.inr.inl =>
    go_enter Tryz.func45, Tryz.ntmps45
    go_wp2_with fail
    go_ret
    exact ⟨by rw [E3.out]; rfl, Hla.out⟩
  case inr.inr.inr.inl =>
    go_enter Tryz.func45, Tryz.ntmps45
    go_wp2_with fail
    go_ret
    exact ⟨by rw [E4.out]; rfl, Hla.out⟩
  case inr.inr.inr.inr.inl =>
    go_enter Tryz.func45, Tryz.ntmps45
    go_wp2_with fail
    generalize W.alloc (.cells #[.int .i64 5, .int .i64 id] 46) = W1 at *
    go_quiet (fail)
    go_wp2_with fail
    go_ret
    exact ⟨by rw [E5.out]; rfl, by first | exact Hla.out | exact Hla.out.drew | exact Hla.out.drewN _⟩
end Go.Proofs.YtmmgdgfpemkdnaaGreat
/- Layer 18 (check): legal: contract. -/
namespace Go.Proofs.YtmmgdgfpemkdnaaGreat
open Go.RowKit
theorem Ck.at_nat (l : List Bool) (k : Nat) : Ck.at_ l k = l.getD k false := by unfold Ck.at_; rw [Int.toNat_natCast]
set_option maxHeartbeats 8000000 in
set_option maxRecDepth 100000 in
theorem check_legal (a : CkA) (c : CkN) (W0 : World) (s : CkS) (W : World) (hS : a.Still c W0) (hM : CkM a c W0 s W) (k : Int) (id : Nat) (hr : Cd.right (k, (id : Int)) = true) (hid : id < c.words.length) (hdn : s.done ≤ 1048576) :
    Calls Tryz.prog 44 #[.pointer (some ⟨a.p, 0, none⟩), .agg #[.int .i64 k, .int .i64 id]] W fun e w' => e = .returned (.bool (Ck.legal c s k id)) ∧ Later W w' := by
  have hla : Later W (W.alloc (.cells #[.int .i64 k, .int .i64 id] 46)) := (Later.refl W).alloc _
  have hM1 := hM.to_later hla
  obtain ⟨l, hle⟩ := Int.eq_ofNat_of_zero_le hS.ok.loss.1
  have hll : l < c.words.length := by have := hS.ok.loss.2; omega
  have hlw := hM1.later
  obtain ⟨-, -, -, y3, y4, -, y6, y7, y8, y9, y10, y11, -⟩ := hM1.cells14
  rw [hle] at y4
  have b1 := bool_at hM1.pres (i := id) (by rw [hM1.l1]; exact hid)
  have b2 := bool_at hM1.sav (i := id) (by rw [hM1.l2]; exact hid)
  have b3 := bool_at hM1.grad (i := id) (by rw [hM1.l3]; exact hid)
  have b4 := bool_at hM1.pres (i := l) (by rw [hM1.l1]; exact hll)
  have q1 : (0 : Int) ≤ (id : Int) := by omega
  have q2 : (id : Int) < c.words.length := by omega
  have q3 : (0 : Int) ≤ (l : Int) := by omega
  have q4 : (l : Int) < c.words.length := by omega
  have HF := Lib.hid (fun W' (h : CkM a c W0 s W') => check_ready a c W0 s W' hS h id hid)
  have h513 := hS.ok.m2
  have hord := hS.ok.ord
  have hOr := hS.ord
  have hkind := Ck.right_id hr
  have E1 := Lib.hid (show Ck.legal c s 1 id = (!s.sav.getD id false && Ck.ready c s id) by rw [← Ck.at_nat]; rfl)
  have E2 := Lib.hid (show Ck.legal c s 2 id = (s.sav.getD id false && (!s.pres.getD id false && Ck.ready c s id)) by rw [← Ck.at_nat, ← Ck.at_nat]; rfl)
  have E3 := Lib.hid (show Ck.legal c s 3 id = s.pres.getD id false by rw [← Ck.at_nat]; rfl)
  have E4 := Lib.hid (show Ck.legal c s 4 id = (s.pres.getD l false && !s.em) by rw [← Ck.at_nat, ← hle]; rfl)
  have E5 := Lib.hid (show Ck.legal c s 5 id = !s.sd from rfl)
  have E6 := Lib.hid (show Ck.legal c s 6 id = (s.grad.getD id false && (Ck.ready c s id && Ck.back c s id)) by rw [← Ck.at_nat]; rfl)
  have Hla := Lib.hid hla
  have Hlw := Lib.hid hlw
  have HM1 := Lib.hid hM1
  have Hle := Lib.hid hle
  have HOr := Lib.hid hOr
  clear hla hlw hM1 hle hOr
  clear hr hS hM
  generalize s.pres.getD id false = v1 at *
  generalize s.sav.getD id false = v2 at *
  generalize s.grad.getD id false = v3 at *
  generalize s.pres.getD l false = v4 at *
  generalize Ck.ready c s id = rd at *
  rcases hkind with rfl | rfl | rfl | rfl | rfl | rfl
  case inl =>
    clear b1 b3 b4 y3 y4 y6 y8 y9 y10 y11
    cases v2
    · go_enter Tryz.func44, Tryz.ntmps44
      go_wp2_with fail
      refine (HF.out _ HM1.out).mono ?_
      rintro e W2 ⟨rfl, rfl⟩
      clear b2 y7
      go_wp2_with fail
      go_ret
      exact ⟨by rw [E1.out]; rfl, Hla.out⟩
    · go_enter Tryz.func44, Tryz.ntmps44
      go_wp2_with fail
      go_ret
      exact ⟨by rw [E1.out]; rfl, Hla.out⟩
  case inr.inl =>
    clear b3 b4 y3 y4 y8 y9 y10 y11
    cases v2
    · go_enter Tryz.func44, Tryz.ntmps44
      go_wp2_with fail
      go_ret
      exact ⟨by rw [E2.out]; rfl, Hla.out⟩
    · cases v1
      · go_enter Tryz.func44, Tryz.ntmps44
        go_wp2_with fail
        refine (HF.out _ HM1.out).mono ?_
        rintro e W2 ⟨rfl, rfl⟩
        clear b1 b2 y6 y7
        go_wp2_with fail
        go_ret
        exact ⟨by rw [E2.out]; rfl, Hla.out⟩
      · go_enter Tryz.func44, Tryz.ntmps44
        go_wp2_with fail
        go_ret
        exact ⟨by rw [E2.out]; rfl, Hla.out⟩
  case inr.inr.inl =>
    clear b2 b3 b4 y3 y4 y7 y8 y9 y10 y11
    go_enter Tryz.func44, Tryz.ntmps44
    go_wp2_with fail
    go_ret
    exact ⟨by rw [E3.out]; rfl, Hla.out⟩
  case inr.inr.inr.inl =>
    clear b1 b2 b3 y3 y7 y8 y10 y11
    generalize s.em = em at *
    cases v4
    all_goals
      go_enter Tryz.func44, Tryz.ntmps44
      go_wp2_with fail
      generalize W.alloc (.cells #[.int .i64 4, .int .i64 id] 46) = W1 at *
      go_quiet (fail)
      go_wp2_with fail
      go_ret
      exact ⟨by rw [E4.out]; rfl, by first | exact Hla.out | exact Hla.out.drew | exact Hla.out.drewN _⟩
  case inr.inr.inr.inr.inl =>
    clear b1 b2 b3 b4 y3 y4 y6 y7 y8 y9 y11
    go_enter Tryz.func44, Tryz.ntmps44
    go_wp2_with fail
    go_ret
    exact ⟨by rw [E5.out]; rfl, Hla.out⟩
  case inr.inr.inr.inr.inr =>
    have hback : Ck.back c s id = decide (s.done < c.order.length ∧ c.order.getD (c.order.length - 1 - s.done) 0 = (id : Int)) := rfl
    clear b1 b2 b4 y4 y6 y7 y9 y10
    cases v3
    · go_enter Tryz.func44, Tryz.ntmps44
      go_wp2_with fail
      generalize W.alloc (.cells #[.int .i64 6, .int .i64 id] 46) = W1 at *
      have HR2 := Lib.hid (fun n => HF.out _ (HM1.out.to_later (Later.drewN (Later.refl W1) n)))
      go_quiet ((go_at_call 57; exact quiet_same (HR2.out _)))
      go_wp2_with fail
      go_ret
      exact ⟨by rw [E6.out]; rfl, by first | exact Hla.out | exact Hla.out.drew | exact Hla.out.drewN _⟩
    · cases rd
      · go_enter Tryz.func44, Tryz.ntmps44
        go_wp2_with fail
        generalize W.alloc (.cells #[.int .i64 6, .int .i64 id] 46) = W1 at *
        have HR2 := Lib.hid (fun n => HF.out _ (HM1.out.to_later (Later.drewN (Later.refl W1) n)))
        go_quiet ((go_at_call 57; exact quiet_same (HR2.out _)))
        go_wp2_with fail
        go_ret
        exact ⟨by rw [E6.out]; rfl, by first | exact Hla.out | exact Hla.out.drew | exact Hla.out.drewN _⟩
      · by_cases hd : s.done < c.order.length
        rotate_left
        · have hbk : Ck.back c s id = false := by rw [hback]; simp; intro h; exact absurd h hd
          have d1 : decide ((s.done : Int) < c.order.length) = false := by simp; omega
          clear hback
          go_enter Tryz.func44, Tryz.ntmps44
          go_wp2_with fail
          generalize W.alloc (.cells #[.int .i64 6, .int .i64 id] 46) = W1 at *
          have HR2 := Lib.hid (fun n => HF.out _ (HM1.out.to_later (Later.drewN (Later.refl W1) n)))
          go_quiet ((go_at_call 57; exact quiet_same (HR2.out _)))
          go_wp2_with fail
          go_ret
          exact ⟨by rw [E6.out, hbk]; rfl, by first | exact Hla.out | exact Hla.out.drew | exact Hla.out.drewN _⟩
        · obtain ⟨j, hj⟩ : ∃ j : Nat, c.order.length - 1 - s.done = j := ⟨_, rfl⟩
          have hjl : j < c.order.length := by omega
          obtain ⟨bo, oo, hOa, -, ho⟩ := HOr.out j hjl
          have o1 := Hlw.out.cell ho
          rw [hOa] at y3
          have hbk : Ck.back c s id = (c.order.getD j 0 == (id : Int)) := by
            rw [hback, hj, Bool.eq_iff_iff]; simp [hd]
          have d1 : decide ((s.done : Int) < c.order.length) = true := by simp; omega
          have w1 : (c.order.length : Int) - 1 - s.done = j := by omega
          have w2 : IntKind.i64.wrap ((c.order.length : Int) - 1) = (c.order.length : Int) - 1 := IntWalk.i64_in _ (by omega)
          have w3 : IntKind.i64.wrap ((c.order.length : Int) - 1 - s.done) = j := by rw [w1]; exact IntWalk.i64_in _ (by omega)
          have w4 : (0 : Int) ≤ (j : Int) := by omega
          have w5 : (j : Int) < c.order.length := by omega
          generalize c.order.getD j 0 = oz at *
          clear hback hj ho
          go_enter Tryz.func44, Tryz.ntmps44
          go_wp2_with fail
          generalize W.alloc (.cells #[.int .i64 6, .int .i64 id] 46) = W1 at *
          have HR2 := Lib.hid (fun n => HF.out _ (HM1.out.to_later (Later.drewN (Later.refl W1) n)))
          go_quiet ((go_at_call 57; exact quiet_same (HR2.out _)))
          go_wp2_with fail
          go_ret
          exact ⟨by rw [E6.out, hbk]; rfl, by first | exact Hla.out | exact Hla.out.drew | exact Hla.out.drewN _⟩
end Go.Proofs.YtmmgdgfpemkdnaaGreat
