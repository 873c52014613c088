/- Lemmas for the statements of this seat: contracts of functions and the plain laws. -/
import Derived.ChangeSame
import Derived.Deep.DeepCutAuto
import Derived.Deep.Fields
import Derived.Deep.RegionHeld3
import Derived.Deep.Slices
import Derived.OpenShut
import Derived.ProofKit
import Derived.Test.YtjkhpbngpceenaaZ05
set_option linter.unusedVariables false
/- Layer 11 (net): Users, copies, the equalities: contracts. -/
namespace Go.Proofs.Ytjkhpbngpceenaa
open Go.RowKit
def AnyBool (w : World) (e : Ending) (w' : World) : Prop := ∃ b, e = .returned (.bool b) ∧ Below w.heap.size w w'
set_option maxRecDepth 20000 in
set_option maxHeartbeats 8000000 in
theorem small_11 (A N : Option Addr) (c d : Nat) (n : NetD) (w : World) (hok : n.ok) (hR : NetR w A N n) :
    Calls Try.prog 9 #[.agg #[.slice A n.inn.length c, .slice N n.nodes.length d]] w (AnyBool w) := by
  have hnl := hok.2.1
  have hb0 : Below w.heap.size w (w.alloc (.cells #[.slice A n.inn.length c, .slice N n.nodes.length d] 26)) := (Below.refl _ _).alloc (Nat.le_refl _) _
  have Hok := Lib.hid hok
  have HR := Lib.hid hR
  clear hok hR
  go_enter Try.func9, Try.ntmps9
  go_wp2_with fail
  generalize w.alloc (.cells #[.slice A n.inn.length c, .slice N n.nodes.length d] 26) = w1 at *
  go_loopw [3, 14] (fun t i wx => ∃ (k : Nat) (z : Int), k ≤ n.nodes.length ∧ i = .int .i64 (k : Int) ∧ t = .int .i64 z ∧ Below w.heap.size w wx) (fun _ i _ => n.nodes.length - (intOf i).toNat)
  case atStart => exact ⟨0, _, Nat.zero_le _, rfl, rfl, hb0⟩
  case round =>
    obtain ⟨k, z, hk, rfl, rfl, hbw⟩ := hrel
    clear hb0
    by_cases hlt : k < n.nodes.length
    · obtain ⟨b, off, S, sc, J, ic, Q, qc, rfl, hNA, -, -, -⟩ := HR.out.2.at_ hlt
      have hnok := Hok.out.2.2 _ (List.getElem_mem hlt)
      have hpl := hnok.2.2.2.1
      have hQi := hNA.2.2.2
      generalize n.nodes[k] = v at *
      obtain ⟨⟨y0, y1, y2, y3, y4, y5, y6, y7, y8, y9⟩, -⟩ := hNA.below hbw
      have hbn := hbw.alloc hbw.size (.cells #[.int .i64 v.op.kind, .int .i64 v.op.k, .int .i64 v.op.width, .int .i64 v.op.step, .int .i64 v.op.side, .int .i64 v.op.frm, .int .i64 v.op.to, .slice S v.op.s.length sc, .slice J v.ins.length ic, .slice Q v.p.length qc] 46)
      have HNA := Lib.hid hNA
      have Hnok := Lib.hid hnok
      have HQi := Lib.hid hQi
      clear hNA hnok hQi
      go_wp2_with fail
      clear y0 y1 y2 y3 y4 y5 y6 y7 y8 y9
      generalize wr.alloc (.cells #[.int .i64 v.op.kind, .int .i64 v.op.k, .int .i64 v.op.width, .int .i64 v.op.step, .int .i64 v.op.side, .int .i64 v.op.frm, .int .i64 v.op.to, .slice S v.op.s.length sc, .slice J v.ins.length ic, .slice Q v.p.length qc] 46) = w2 at *
      go_loop [3, 32] (fun t i => ∃ (m : Nat) (z : Int), m ≤ v.p.length ∧ i = .int .i64 (m : Int) ∧ t = .int .i64 z) (fun _ i => v.p.length - (intOf i).toNat)
      case atStart => exact ⟨0, _, Nat.zero_le _, rfl, rfl⟩
      case round =>
        obtain ⟨m, z2, hm, rfl, rfl⟩ := hrel
        by_cases hlm : m < v.p.length
        · obtain ⟨b5, o5, Ss, cs, rfl, -, hcs, -⟩ := HQi.out m hlm
          have hcs2 := cell_below hbn hcs
          clear hcs
          go_wp2_with fail
          go_round
          case rel => exact ⟨m + 1, _, by omega, by go_num, rfl⟩
          case measure => simp [intOf]; omega
        · obtain rfl : m = v.p.length := by omega
          by_cases h3 : 300 < z2
          · have d3 : decide (300 < z2) = true := by simpa using h3
            clear h3
            go_wp2_with fail
            go_ret
            exact ⟨_, rfl, hbn⟩
          · have d3 : decide (300 < z2) = false := by simpa using h3
            clear h3
            go_wp2_with fail
            go_roundw
            case rel => exact ⟨k + 1, _, by omega, by go_num, rfl, hbn⟩
            case measure => simp [intOf]; omega
    · obtain rfl : k = n.nodes.length := by omega
      go_wp2_with fail
      go_ret
      exact ⟨_, rfl, hbw⟩
set_option maxRecDepth 20000 in
set_option maxHeartbeats 8000000 in
theorem small_13 (A N : Option Addr) (c d : Nat) (n : NetD) (w : World) (hok : n.ok) (hR : NetR w A N n) :
    Calls Try.prog 27 #[.agg #[.slice A n.inn.length c, .slice N n.nodes.length d]] w (AnyBool w) := by
  have hnl := hok.2.1
  have hb0 : Below w.heap.size w (w.alloc (.cells #[.slice A n.inn.length c, .slice N n.nodes.length d] 26)) := (Below.refl _ _).alloc (Nat.le_refl _) _
  have Hok := Lib.hid hok
  have HR := Lib.hid hR
  clear hok hR
  go_enter Try.func27, Try.ntmps27
  go_wp2_with fail
  generalize w.alloc (.cells #[.slice A n.inn.length c, .slice N n.nodes.length d] 26) = w1 at *
  go_loopw [3, 14] (fun t i wx => ∃ (k : Nat) (z : Int), k ≤ n.nodes.length ∧ i = .int .i64 (k : Int) ∧ t = .int .i64 z ∧ Below w.heap.size w wx) (fun _ i _ => n.nodes.length - (intOf i).toNat)
  case atStart => exact ⟨0, _, Nat.zero_le _, rfl, rfl, hb0⟩
  case round =>
    obtain ⟨k, z, hk, rfl, rfl, hbw⟩ := hrel
    clear hb0
    by_cases hlt : k < n.nodes.length
    · obtain ⟨b, off, S, sc, J, ic, Q, qc, rfl, hNA, -, -, -⟩ := HR.out.2.at_ hlt
      have hnok := Hok.out.2.2 _ (List.getElem_mem hlt)
      have hpl := hnok.2.2.2.1
      have hQi := hNA.2.2.2
      generalize n.nodes[k] = v at *
      obtain ⟨⟨y0, y1, y2, y3, y4, y5, y6, y7, y8, y9⟩, -⟩ := hNA.below hbw
      have hbn := hbw.alloc hbw.size (.cells #[.int .i64 v.op.kind, .int .i64 v.op.k, .int .i64 v.op.width, .int .i64 v.op.step, .int .i64 v.op.side, .int .i64 v.op.frm, .int .i64 v.op.to, .slice S v.op.s.length sc, .slice J v.ins.length ic, .slice Q v.p.length qc] 46)
      have HNA := Lib.hid hNA
      have Hnok := Lib.hid hnok
      have HQi := Lib.hid hQi
      clear hNA hnok hQi
      go_wp2_with fail
      clear y0 y1 y2 y3 y4 y5 y6 y7 y8 y9
      generalize wr.alloc (.cells #[.int .i64 v.op.kind, .int .i64 v.op.k, .int .i64 v.op.width, .int .i64 v.op.step, .int .i64 v.op.side, .int .i64 v.op.frm, .int .i64 v.op.to, .slice S v.op.s.length sc, .slice J v.ins.length ic, .slice Q v.p.length qc] 46) = w2 at *
      go_loop [3, 32] (fun t i => ∃ (m : Nat) (z : Int), m ≤ v.p.length ∧ i = .int .i64 (m : Int) ∧ t = .int .i64 z) (fun _ i => v.p.length - (intOf i).toNat)
      case atStart => exact ⟨0, _, Nat.zero_le _, rfl, rfl⟩
      case round =>
        obtain ⟨m, z2, hm, rfl, rfl⟩ := hrel
        by_cases hlm : m < v.p.length
        · obtain ⟨b5, o5, Ss, cs, rfl, -, hcs, -⟩ := HQi.out m hlm
          have hcs2 := cell_below hbn hcs
          clear hcs
          go_wp2_with fail
          go_round
          case rel => exact ⟨m + 1, _, by omega, by go_num, rfl⟩
          case measure => simp [intOf]; omega
        · obtain rfl : m = v.p.length := by omega
          by_cases h3 : 300 < z2
          · have d3 : decide (300 < z2) = true := by simpa using h3
            clear h3
            go_wp2_with fail
            go_ret
            exact ⟨_, rfl, hbn⟩
          · have d3 : decide (300 < z2) = false := by simpa using h3
            clear h3
            go_wp2_with fail
            go_roundw
            case rel => exact ⟨k + 1, _, by omega, by go_num, rfl, hbn⟩
            case measure => simp [intOf]; omega
    · obtain rfl : k = n.nodes.length := by omega
      go_wp2_with fail
      go_ret
      exact ⟨_, rfl, hbw⟩
theorem contains_ints (A : Option Addr) (c : Nat) (zs : List Int) (x : Int) (w : World) (hl : zs.length ≤ 9223372036854775807) (hI : Ints .i64 w A zs) :
    Calls Try.prog 49 #[.slice A zs.length c, .int .i64 x] w fun e w' => e = .returned (.bool (hasB zs x)) ∧ w = w' := by
  by_cases h : zs = []
  · subst h
    refine (Try.slices_Contains_int_empty A c x w).mono ?_
    rintro e w' ⟨rfl, rfl⟩
    exact ⟨rfl, rfl⟩
  · obtain ⟨b, off, rfl, -, -⟩ := hI 0 (List.length_pos_iff.2 h)
    refine (Try.slices_Contains_int b off zs.length c zs x w (Nat.le_refl _) hl (fun j hj => ?_)).mono ?_
    · obtain ⟨b', o', e, -, hc⟩ := hI j hj
      injection e with e; injection e with e1 e2; subst e1 e2
      exact hc
    · rintro e w' ⟨rfl, rfl⟩
      rw [List.take_length]
      exact ⟨rfl, rfl⟩
theorem users_snoc (n : NetD) (id : Int) {k : Nat} (hk : k < n.nodes.length) : (Kn.ids (k + 1)).filter (fun u => hasB (Nt.insF n.nodes u) id) = if hasB n.nodes[k].ins id then (Kn.ids k).filter (fun u => hasB (Nt.insF n.nodes u) id) ++ [(k : Int) + 1] else (Kn.ids k).filter (fun u => hasB (Nt.insF n.nodes u) id) := by
  have e : Nt.insF n.nodes ((k : Int) + 1) = n.nodes[k].ins := by unfold Nt.insF; rw [Nt.node_at hk]
  rw [Kn.ids_succ, List.filter_append]
  by_cases h : hasB n.nodes[k].ins id = true
  · simp [e, h]
  · simp [e, h]
set_option maxRecDepth 20000 in
set_option maxHeartbeats 8000000 in
theorem net_users (A N : Option Addr) (c d : Nat) (n : NetD) (id : Int) (w : World) (hok : n.ok) (hR : NetR w A N n) :
    Calls Try.prog 23 #[.agg #[.slice A n.inn.length c, .slice N n.nodes.length d], .int .i64 id] w (SortPost (Nt.users n id) w) := by
  obtain ⟨i0, hi, hz0, hz1, hz2⟩ := info_parts int_info
  have hnl := hok.2.1
  have hb0 : Below w.heap.size w (w.alloc (.cells #[.slice A n.inn.length c, .slice N n.nodes.length d] 26)) := (Below.refl _ _).alloc (Nat.le_refl _) _
  have hus : Nt.users n id = (Kn.ids n.nodes.length).filter (fun u => hasB (Nt.insF n.nodes u) id) := rfl
  have hsn := fun k hk => @users_snoc n id k hk
  have Hok := Lib.hid hok
  have HR := Lib.hid hR
  have Hus := Lib.hid hus
  have Hsn := Lib.hid hsn
  clear hok hR hus hsn
  go_enter Try.func23, Try.ntmps23
  go_wp2_with fail
  generalize w.alloc (.cells #[.slice A n.inn.length c, .slice N n.nodes.length d] 26) = w1 at *
  go_loopw [5, 11] (fun o i wx => ∃ k : Nat, k ≤ n.nodes.length ∧ i = .int .i64 (k : Int) ∧ wx.ownsRow w.heap.size 3 1 o ((Kn.ids k).filter (fun u => hasB (Nt.insF n.nodes u) id)).length (((Kn.ids k).filter (fun u => hasB (Nt.insF n.nodes u) id)).map (Value.int .i64)) ∧ Below w.heap.size w wx) (fun _ i _ => n.nodes.length - (intOf i).toNat)
  case atStart => exact ⟨0, Nat.zero_le _, rfl, by simpa [Kn.ids] using World.ownsRow_nil w1 w.heap.size 3 1, hb0⟩
  case round =>
    obtain ⟨k, hk, rfl, hown, hbw⟩ := hrel
    clear hb0
    obtain ⟨Ao, co, rfl⟩ := own_form hown
    by_cases hlt : k < n.nodes.length
    · obtain ⟨b, off, S, sc, J, ic, Q, qc, rfl, hNA, -, -, -⟩ := HR.out.2.at_ hlt
      have hnok := Hok.out.2.2 _ (List.getElem_mem hlt)
      have hil := hnok.2.2.1
      have hJi := hNA.2.2.1
      have hs := Hsn.out k hlt
      have hfl : ((Kn.ids k).filter (fun u => hasB (Nt.insF n.nodes u) id)).length ≤ k := Nat.le_trans (List.length_filter_le _ _) (by rw [Kn.ids_length]; exact Nat.le_refl _)
      generalize n.nodes[k] = v at *
      generalize (Kn.ids k).filter (fun u => hasB (Nt.insF n.nodes u) id) = us at *
      obtain ⟨⟨y0, y1, y2, y3, y4, y5, y6, y7, y8, y9⟩, -⟩ := hNA.below hbw
      have hbn := hbw.alloc hbw.size (.cells #[.int .i64 v.op.kind, .int .i64 v.op.k, .int .i64 v.op.width, .int .i64 v.op.step, .int .i64 v.op.side, .int .i64 v.op.frm, .int .i64 v.op.to, .slice S v.op.s.length sc, .slice J v.ins.length ic, .slice Q v.p.length qc] 46)
      have hown2 := ownsRow_new hown (.cells #[.int .i64 v.op.kind, .int .i64 v.op.k, .int .i64 v.op.width, .int .i64 v.op.step, .int .i64 v.op.side, .int .i64 v.op.frm, .int .i64 v.op.to, .slice S v.op.s.length sc, .slice J v.ins.length ic, .slice Q v.p.length qc] 46)
      have HNA := Lib.hid hNA
      have Hnok := Lib.hid hnok
      have HJi := Lib.hid hJi
      have Hs := Lib.hid hs
      have Hown := Lib.hid hown
      have Hown2 := Lib.hid hown2
      clear hNA hnok hJi hs hown hown2
      go_wp2_with fail
      clear y0 y1 y2 y3 y4 y5 y6 y7 y8 y9
      generalize wr.alloc (.cells #[.int .i64 v.op.kind, .int .i64 v.op.k, .int .i64 v.op.width, .int .i64 v.op.step, .int .i64 v.op.side, .int .i64 v.op.frm, .int .i64 v.op.to, .slice S v.op.s.length sc, .slice J v.ins.length ic, .slice Q v.p.length qc] 46) = w2 at *
      refine (contains_ints J ic v.ins id _ (by omega) (HJi.out.below hbn (Nat.le_refl _))).mono ?_
      rintro e w3 ⟨rfl, rfl⟩
      by_cases hh : hasB v.ins id = true
      · have HS := Lib.hid (Hs.out.trans (if_pos hh))
        rw [hh]
        clear hh
        have ho := ownsRow_new Hown2.out (.cells #[.int .i64 ((k : Int) + 1)] 3)
        have hbx2 := (hbn.alloc hbn.size (.cells #[.int .i64 ((k : Int) + 1)] 3))
        have HLO := Lib.hid (fun b (hb : (Value.slice Ao us.length co).ownBlock = some b) => (Hown2.out.lt b hb).1)
        go_wp2_with (at_builtin; refine wpList_append_own_at _ rfl _ _ 22 rfl w.heap.size 3 i0 (.int .i64 0) 1 8 Try.underlying22 hi hz0 hz1 hz2 rfl (by decide) _ _ _ rfl ho ⟨w2.heap.size, 0, none⟩ 1 1 [.int .i64 ((k : Int) + 1)] rfl rfl ?c1 (by intro u hu; simp at hu; subst hu; rfl) (by unfold maxLen; omega) (by omega) ?c2 ?_)
        first | (case c1 => exact one_new w2 _ _) | skip
        case c2 => first | exact hbx2.size | (have := hbn.size; omega)
        intro v' w4 hown' hgrow _ hat
        have hb4 : Below w.heap.size w w4 := hbx2.grown hgrow hbx2.size (fun b hb => HLO.out b hb)
        have HO4 := Lib.hid hown'
        clear hown' hgrow hat ho hbx2 HLO
        go_wp2_with fail
        go_roundw
        case rel => exact ⟨k + 1, by omega, by go_num, by rw [HS.out]; simpa using HO4.out, hb4⟩
        case measure => simp [intOf]; omega
      · have HS := Lib.hid (Hs.out.trans (if_neg hh))
        have hh' : hasB v.ins id = false := by simpa using hh
        rw [hh']
        clear hh hh'
        go_wp2_with fail
        go_roundw
        case rel => exact ⟨k + 1, by omega, by go_num, by rw [HS.out]; exact Hown2.out, hbn⟩
        case measure => simp [intOf]; omega
    · obtain rfl : k = n.nodes.length := by omega
      have hus := Hus.out
      rw [← hus] at hown ⊢
      obtain ⟨q1, q2, q3⟩ := own_ints hown
      have Hown := Lib.hid hown
      have Hq1 := Lib.hid q1
      have Hus := Lib.hid hus
      clear hown q1 hus
      go_wp2_with fail
      go_ret
      exact ⟨Ao, co, rfl, Hq1.out, q2, q3, hbw⟩
end Go.Proofs.Ytjkhpbngpceenaa
/- Layer 11 (net): copies: contract. -/
namespace Go.Proofs.Ytjkhpbngpceenaa
open Go.RowKit
/-- Block g, from B on, is a row of shapes, each in a block of its own from B on; block by block. -/
def FRow (B : Nat) (w : World) (g : Nat) (t : TypeId) (ss : List (List Int)) : Prop :=
  B ≤ g ∧ ∃ hs : List Nat, hs.length = ss.length ∧ (∃ vs : List Value, vs.length = ss.length ∧ Blk w g t vs.toArray ∧ ∀ j (hj : j < ss.length) (hj2 : j < hs.length), vs[j]? = some (.slice (some ⟨hs[j], 0, none⟩) ss[j].length ss[j].length)) ∧
    ∀ j (hj : j < ss.length) (hj2 : j < hs.length), B ≤ hs[j] ∧ hs[j] ≠ g ∧ Blk w hs[j] 3 (ss[j].map (Value.int .i64)).toArray
theorem FRow.shps {B : Nat} {w : World} {g : Nat} {t : TypeId} {ss : List (List Int)} (h : FRow B w g t ss) (hm : ∀ s ∈ ss, s.length ≤ 9223372036854775807) : Shps w (some ⟨g, 0, none⟩) ss := fun j hj => by
  obtain ⟨_, hs, hl, ⟨vs, hvl, hk, hv⟩, hb⟩ := h
  have h1 := hv j hj (by omega)
  obtain ⟨_, _, hB⟩ := hb j hj (by omega)
  refine ⟨g, 0, _, _, rfl, hk.lt, by rw [Nat.zero_add, hk.cell j]; simpa using h1, Ints.of_row fun i hi => ?_, Nat.le_refl _, hm _ (List.getElem_mem hj)⟩
  rw [Nat.zero_add, hB.cell i, getD_at hi]
  simp [hi]
theorem FRow.fr {B : Nat} {w w' : World} {g : Nat} {t : TypeId} {ss : List (List Int)} {S : Nat → Prop} (h : FRow B w g t ss) (hf : Fr S w w') (hS : ∀ b, B ≤ b → b < w.heap.size → ¬ S b) : FRow B w' g t ss := by
  obtain ⟨hg, hs, hl, ⟨vs, hvl, hk, hv⟩, hb⟩ := h
  refine ⟨hg, hs, hl, ⟨vs, hvl, hf.blk hk (hS _ hg hk.lt), hv⟩, fun j hj hj2 => ?_⟩
  obtain ⟨h1, h2, h3⟩ := hb j hj hj2
  exact ⟨h1, h2, hf.blk h3 (hS _ h1 h3.lt)⟩
theorem FRow.base {B B' : Nat} {w : World} {g : Nat} {t : TypeId} {ss : List (List Int)} (h : FRow B w g t ss) (hB : B' ≤ B) : FRow B' w g t ss := by
  obtain ⟨hg, hs, hl, hv, hb⟩ := h
  exact ⟨Nat.le_trans hB hg, hs, hl, hv, fun j hj hj2 => ⟨Nat.le_trans hB (hb j hj hj2).1, (hb j hj hj2).2⟩⟩
def CopiesP (ss : List (List Int)) (w : World) (e : Ending) (w' : World) : Prop :=
  ∃ g, e = .returned (.slice (some ⟨g, 0, none⟩) ss.length ss.length) ∧ FRow w.heap.size w' g 23 ss ∧ Below w.heap.size w w'
/-- The first k shapes are copied. -/
def FMid (B : Nat) (w : World) (g : Nat) (t : TypeId) (ss : List (List Int)) (k : Nat) : Prop :=
  ∃ hs : List Nat, hs.length = k ∧ (∃ vs : List Value, vs.length = ss.length ∧ Blk w g t vs.toArray ∧ ∀ j (hj : j < ss.length) (hj2 : j < hs.length), vs[j]? = some (.slice (some ⟨hs[j], 0, none⟩) ss[j].length ss[j].length)) ∧
    ∀ j (hj : j < ss.length) (hj2 : j < hs.length), B ≤ hs[j] ∧ hs[j] ≠ g ∧ Blk w hs[j] 3 (ss[j].map (Value.int .i64)).toArray
theorem FMid.fr {B : Nat} {w w' : World} {g : Nat} {t : TypeId} {ss : List (List Int)} {k : Nat} (h : FMid B w g t ss k) (hb : Below w.heap.size w w') : FMid B w' g t ss k := by
  obtain ⟨hs, hl, ⟨vs, hvl, hk, hv⟩, hb'⟩ := h
  refine ⟨hs, hl, ⟨vs, hvl, hk.below hb hk.lt, hv⟩, fun j hj hj2 => ?_⟩
  obtain ⟨h1, h2, h3⟩ := hb' j hj hj2
  exact ⟨h1, h2, h3.below hb h3.lt⟩
theorem FMid.push {B : Nat} {w : World} {g h : Nat} {t : TypeId} {ss : List (List Int)} {k : Nat} (hm : FMid B w g t ss k) (hk : k < ss.length) (hh : B ≤ h) (hne : h ≠ g) (hb : Blk w h 3 (ss[k].map (Value.int .i64)).toArray) : FMid B (w.setCell ⟨g, k, none⟩ (.slice (some ⟨h, 0, none⟩) ss[k].length ss[k].length)) g t ss (k + 1) := by
  obtain ⟨hs, hl, ⟨vs, hvl, hkb, hv⟩, hb'⟩ := hm
  refine ⟨hs ++ [h], by simp [hl], ⟨vs.set k (.slice (some ⟨h, 0, none⟩) ss[k].length ss[k].length), by simp [hvl], by simpa using hkb.set_ k (.slice (some ⟨h, 0, none⟩) ss[k].length ss[k].length), fun j hj hj2 => ?_⟩, fun j hj hj2 => ?_⟩
  · by_cases e : j = k
    · subst e
      have : (hs ++ [h])[j]'hj2 = h := by simp [← hl]
      rw [this, List.getElem?_set_self (by omega)]
    · have hjk : j < hs.length := by simp at hj2; omega
      rw [List.getElem?_set_ne (by omega), hv j hj hjk]
      simp [hjk]
  · by_cases e : j = k
    · subst e
      have : (hs ++ [h])[j]'hj2 = h := by simp [← hl]
      rw [this]
      exact ⟨hh, hne, hb.far (p := ⟨g, j, none⟩) hne _⟩
    · have hjk : j < hs.length := by simp at hj2; omega
      have e2 : (hs ++ [h])[j]'hj2 = hs[j] := by simp [hjk]
      rw [e2]
      obtain ⟨h1, h2, h3⟩ := hb' j hj hjk
      exact ⟨h1, h2, h3.far (p := ⟨g, k, none⟩) h2 _⟩
set_option maxRecDepth 20000 in
set_option maxHeartbeats 8000000 in
theorem net_copies (A : Option Addr) (c : Nat) (ss : List (List Int)) (w : World) (hl : ss.length ≤ 1048576) (hs : ∀ s ∈ ss, s.length ≤ 1048576) (hS : Shps w A ss) :
    Calls Try.prog 44 #[.slice A ss.length c] w (CopiesP ss w) := by
  obtain ⟨i0, hi, hz0, hz1, hz2⟩ := info_parts shpT_info
  have Hs := Lib.hid hs
  have HS := Lib.hid hS
  clear hs hS
  go_enter Try.func44, Try.ntmps44
  go_wp2_with (at_make; refine wpList_make_full _ rfl _ _ 44 rfl w.heap.size 23 i0 (.slice none 0 0) 1 Try.underlying44 hi hz0 hz1 _ _ _ _ ss.length rfl rfl (by first | rfl | simp | (go_simp; rfl)) (by first | rfl | simp | (go_simp; rfl)) ?b2 ?b3 ?b4 ?_)
  case b2 => rw [hz2]; omega
  case b3 => unfold maxLen; omega
  case b4 => exact Nat.le_refl _
  intro w1 hown hgrow
  have hblk := own_cur hown
  rw [made_one] at hblk
  have hb1 : Below w.heap.size w w1 := (Below.refl _ w).grown hgrow (Nat.le_refl _) (by simp)
  have hm0 : FMid w.heap.size w1 w.heap.size 23 ss 0 := ⟨[], rfl, ⟨List.replicate ss.length (.slice none 0 0), by simp, by rw [List.toArray_replicate]; exact hblk, fun j hj hj2 => absurd hj2 (by simp)⟩, fun j hj hj2 => absurd hj2 (by simp)⟩
  have Hm0 := Lib.hid hm0
  clear hm0
  clear hblk hown hgrow
  go_wp2_with fail
  go_loopw [11] (fun i wx => ∃ k : Nat, k ≤ ss.length ∧ i = .int .i64 (k : Int) ∧ FMid w.heap.size wx w.heap.size 23 ss k ∧ Below w.heap.size w wx) (fun i _ => ss.length - (intOf i).toNat)
  case atStart => exact ⟨0, Nat.zero_le _, rfl, Hm0.out, hb1⟩
  case round =>
    obtain ⟨k, hk, rfl, hm, hbw⟩ := hrel
    clear Hm0 hb1
    by_cases hlt : k < ss.length
    · obtain ⟨b, off, S, sc, rfl, -, hc, hI, -⟩ := HS.out k hlt
      have l1 := Hs.out _ (List.getElem_mem hlt)
      have hc2 := cell_below hbw hc
      have hpush := fun (W : World) h q1 q2 q3 q4 => @FMid.push w.heap.size W w.heap.size h 23 ss k q1 hlt q2 q3 q4
      generalize ss[k] = s at *
      have hI2 := hI.below hbw (Nat.le_refl _)
      have Hm := Lib.hid hm
      have HI := Lib.hid hI
      have HI2 := Lib.hid hI2
      have Hpush := Lib.hid hpush
      clear hm hI hI2 hpush
      clear hc
      go_wp2_with fail
      refine (shape_copy S sc s _ (by omega) HI2.out).mono ?_
      rintro e w2 ⟨h, rfl, hh, hB, hb2⟩
      have hbw2 := hbw.trans (hb2.mono hbw.size)
      have hm2 := Hm.out.fr hb2
      have hgl : w.heap.size < wr.heap.size := by obtain ⟨_, _, ⟨vs, _, hk, _⟩, _⟩ := Hm.out; exact hk.lt
      have hm3 := Hpush.out w2 h hm2 (by omega) (by omega) hB
      obtain ⟨y, hy⟩ : ∃ y, w2.cell? ⟨w.heap.size, k, none⟩ = some y := by obtain ⟨_, _, ⟨vs, hvl, hk, _⟩, _⟩ := hm2; exact ⟨vs[k], by rw [hk.cell k]; simp⟩
      have fy : w2.frozen? ⟨w.heap.size, k, none⟩ = false := by obtain ⟨_, _, ⟨vs, hvl, hk, _⟩, _⟩ := hm2; exact hk.frozen k
      have hbw3 := hbw2.setCell (p := ⟨w.heap.size, k, none⟩) (by simp) (.slice (some ⟨h, 0, none⟩) s.length s.length)
      have Hm2 := Lib.hid hm2
      have Hm3 := Lib.hid hm3
      have HB := Lib.hid hB
      clear hm2 hm3 hB
      clear hc2
      go_wp2_with fail
      go_roundw
      case rel => exact ⟨k + 1, by omega, by go_num, Hm3.out, hbw3⟩
      case measure => simp [intOf]; omega
    · obtain rfl : k = ss.length := by omega
      have Hm := Lib.hid hm
      clear hm
      go_wp2_with fail
      go_ret
      refine ⟨w.heap.size, rfl, ⟨Nat.le_refl _, ?_⟩, hbw⟩
      obtain ⟨hs, h1, h2⟩ := Hm.out
      exact ⟨hs, h1, h2⟩
end Go.Proofs.Ytjkhpbngpceenaa
/- A world later than another: all that was there reads as it did. No program is named here. -/
namespace Go.Proofs.Ytjkhpbngpceenaa
open Go.RowKit
/-- All that was there is there. -/
def Later (w w' : World) : Prop := Below w.heap.size w w'
section
variable {w w1 w2 : World}
theorem Later.refl (w : World) : Later w w := Below.refl _ _
theorem Later.alloc (h : Later w w1) (o : Obj) : Later w (w1.alloc o) := Below.alloc h h.size o
theorem Later.drew (h : Later w w1) : Later w w1.drew := Below.drew h
theorem Later.drewN (h : Later w w1) (n : Nat) : Later w (w1.drewN n) := Bdrawn h n
theorem Later.call (h : Later w w1) (k : Below w1.heap.size w1 w2) : Later w w2 := Below.trans h (k.mono h.size)
theorem Later.trans (h : Later w w1) (k : Later w1 w2) : Later w w2 := h.call k
theorem Later.set (h : Later w w1) {p : Addr} (hp : w.heap.size ≤ p.block) (u : Value) : Later w (w1.setCell p u) := Below.setCell h hp u
theorem Later.cell {p : Addr} {v : Value} (h : Later w w1) (hc : w.cell? p = some v) : w1.cell? p = some v := (Below.cell h (World.block_lt_of_cell? _ _ hc)).trans hc
theorem Later.blk {g : Nat} {t : TypeId} {cs : Array Value} (h : Later w w1) (hb : Blk w g t cs) : Blk w1 g t cs := hb.below h hb.lt
theorem Later.below {B : Nat} {w0 : World} (h : Later w w1) (hb : Below B w0 w) (hB : B ≤ w.heap.size) : Below B w0 w1 := hb.trans (Below.mono h hB)
end
end Go.Proofs.Ytjkhpbngpceenaa
/- Copies of nodes in memory of the call's own: what is kept where. -/
namespace Go.Proofs.Ytjkhpbngpceenaa
open Go.RowKit
/-- Blocks of another type than T are as they were. -/
def Keep (T : TypeId) (w w' : World) : Prop := w.heap.size ≤ w'.heap.size ∧ ∀ (b : Nat) (cs : Array Value) (t : TypeId), w.heap[b]? = some (Obj.cells cs t (0, 0)) → t ≠ T → w'.heap[b]? = w.heap[b]?
section
variable {T t : TypeId} {w w' w2 : World} {g B : Nat} {cs : Array Value}
theorem Keep.of_later (h : Later w w') : Keep T w w' := ⟨Below.size h, fun b cs t hb _ => Below.block h b (lt_of_block hb)⟩
theorem Keep.set_ (hb : Blk w g T cs) (i : Nat) (u : Value) : Keep T w (w.setCell ⟨g, i, none⟩ u) := ⟨by simp, fun b cs' t h ht => Below.heap_setCell w _ u b (fun e => by
  have e : b = g := e
  subst e
  unfold Blk at hb
  rw [hb] at h
  injection h with h
  injection h with _ h _
  exact ht h.symm)⟩
theorem Keep.refl (T : TypeId) (w : World) : Keep T w w := ⟨Nat.le_refl _, fun _ _ _ _ _ => rfl⟩
theorem Keep.trans (h : Keep T w w') (k : Keep T w' w2) : Keep T w w2 := ⟨Nat.le_trans h.1 k.1, fun b cs t hb ht => (k.2 b cs t ((h.2 b cs t hb ht).trans hb) ht).trans (h.2 b cs t hb ht)⟩
theorem Blk.keep (hb : Blk w g t cs) (ht : t ≠ T) (h : Keep T w w') : Blk w' g t cs := (h.2 g cs t hb ht).trans hb
theorem ownsRow_keep {e : TypeId} {s n : Nat} {v : Value} {xs : List Value} (h : w.ownsRow B e s v n xs) (ht : e ≠ T) (hk : Keep T w w') : w'.ownsRow B e s v n xs := by
  refine ⟨h.1, ?_⟩
  rcases h.2 with h | ⟨g, cap, cur, rfl, h1, h2, h3⟩
  · exact .inl h
  · exact .inr ⟨g, cap, cur, rfl, h1, (hk.2 g cur e h2 ht).trans h2, h3⟩
theorem FRow.keep {ss : List (List Int)} (h : FRow B w g t ss) (ht : t ≠ T) (hi : 3 ≠ T) (hk : Keep T w w') : FRow B w' g t ss := by
  obtain ⟨hg, hs, hl, ⟨vs, hvl, hb, hv⟩, hr⟩ := h
  exact ⟨hg, hs, hl, ⟨vs, hvl, hb.keep ht hk, hv⟩, fun j hj hj2 => ⟨(hr j hj hj2).1, (hr j hj hj2).2.1, (hr j hj hj2).2.2.keep hi hk⟩⟩
end
/-- A copied node, and where its parts lie. -/
structure CpQ where
  v : NodeD
  S : Nat
  J : Option Addr
  jc : Nat
  Q : Nat
def CpQ.cells (x : CpQ) : List Value := [.int .i64 x.v.op.kind, .int .i64 x.v.op.k, .int .i64 x.v.op.width, .int .i64 x.v.op.step, .int .i64 x.v.op.side, .int .i64 x.v.op.frm, .int .i64 x.v.op.to, .slice (some ⟨x.S, 0, none⟩) x.v.op.s.length x.v.op.s.length, .slice x.J x.v.ins.length x.jc, .slice (some ⟨x.Q, 0, none⟩) x.v.p.length x.v.p.length]
def CpQ.R (B : Nat) (w : World) (x : CpQ) : Prop := B ≤ x.S ∧ Blk w x.S 3 (x.v.op.s.map (Value.int .i64)).toArray ∧ w.ownsRow B 3 1 (.slice x.J x.v.ins.length x.jc) x.v.ins.length (x.v.ins.map (Value.int .i64)) ∧ FRow B w x.Q 23 x.v.p
theorem CpQ.len (x : CpQ) : x.cells.length = 10 := rfl
theorem CpQ.flat (L : List CpQ) : (L.flatMap CpQ.cells).length = L.length * 10 := by
  induction L with
  | nil => rfl
  | cons x r ih => rw [List.flatMap_cons, List.length_append, ih, CpQ.len, List.length_cons]; omega
theorem CpQ.R.keep {B : Nat} {w w' : World} {x : CpQ} {T : TypeId} (h : CpQ.R B w x) (h1 : 3 ≠ T) (h2 : 23 ≠ T) (hk : Keep T w w') : CpQ.R B w' x :=
  ⟨h.1, h.2.1.keep h1 hk, ownsRow_keep h.2.2.1 h1 hk, h.2.2.2.keep h2 h1 hk⟩
theorem CpQ.R.later {B : Nat} {w w' : World} {x : CpQ} (h : CpQ.R B w x) (hk : Later w w') : CpQ.R B w' x := h.keep (T := 46) (by decide) (by decide) (Keep.of_later hk)
/-- The first k nodes are copied into block g, of zc's cells behind them. -/
def CpRow (B : Nat) (wx : World) (g : Nat) (zc : Array Value) (ns : List NodeD) (k : Nat) : Prop :=
  ∃ L : List CpQ, L.map (·.v) = ns.take k ∧ L.length = k ∧ Blk wx g 46 (L.flatMap CpQ.cells ++ zc.toList.drop (k * 10)).toArray ∧ ∀ x ∈ L, CpQ.R B wx x
theorem CpRow.later {B : Nat} {w w' : World} {g : Nat} {zc : Array Value} {ns : List NodeD} {k : Nat} (h : CpRow B w g zc ns k) (hk : Later w w') : CpRow B w' g zc ns k := by
  obtain ⟨L, h1, h2, h3, h4⟩ := h
  exact ⟨L, h1, h2, hk.blk h3, fun x hx => (h4 x hx).later hk⟩
theorem CpRow.keep {B : Nat} {w w' : World} {g : Nat} {zc : Array Value} {ns : List NodeD} {k : Nat} {T : TypeId} (h : CpRow B w g zc ns k) (h1 : 3 ≠ T) (h2 : 23 ≠ T) (h3 : 46 ≠ T) (hk : Keep T w w') : CpRow B w' g zc ns k := by
  obtain ⟨L, l1, l2, l3, l4⟩ := h
  exact ⟨L, l1, l2, l3.keep h3 hk, fun x hx => (l4 x hx).keep h1 h2 hk⟩
theorem ownsRow_low {w : World} {B B' e s n : Nat} {v : Value} {xs : List Value} (h : w.ownsRow B e s v n xs) (hB : B' ≤ B) : w.ownsRow B' e s v n xs := by
  refine ⟨h.1, ?_⟩
  rcases h.2 with h | ⟨g, cap, cur, h1, h2, h3⟩
  · exact .inl h
  · exact .inr ⟨g, cap, cur, h1, Nat.le_trans hB h2, h3⟩
theorem CpQ.R.base {B B' : Nat} {w : World} {x : CpQ} (h : CpQ.R B w x) (hB : B' ≤ B) : CpQ.R B' w x := ⟨Nat.le_trans hB h.1, h.2.1, ownsRow_low h.2.2.1 hB, h.2.2.2.base hB⟩
theorem CpRow.zero {B : Nat} {w : World} {g : Nat} {zc : Array Value} {ns : List NodeD} (h : Blk w g 46 zc) : CpRow B w g zc ns 0 := ⟨[], by simp, rfl, by simpa using h, by simp⟩
/-- Ten cells from place o on. -/
def set10 (w : World) (g o : Nat) (l : List Value) : World := ((((((((((w.setCell ⟨g, o, none⟩ (l.getD 0 undef)).setCell ⟨g, o + 1, none⟩ (l.getD 1 undef)).setCell ⟨g, o + 2, none⟩ (l.getD 2 undef)).setCell ⟨g, o + 3, none⟩ (l.getD 3 undef)).setCell ⟨g, o + 4, none⟩ (l.getD 4 undef)).setCell ⟨g, o + 5, none⟩ (l.getD 5 undef)).setCell ⟨g, o + 6, none⟩ (l.getD 6 undef)).setCell ⟨g, o + 7, none⟩ (l.getD 7 undef)).setCell ⟨g, o + 8, none⟩ (l.getD 8 undef)).setCell ⟨g, o + 9, none⟩ (l.getD 9 undef))
theorem Blk.set10 {w : World} {g : Nat} {t : TypeId} {P R : List Value} {z0 z1 z2 z3 z4 z5 z6 z7 z8 z9 a0 a1 a2 a3 a4 a5 a6 a7 a8 a9 : Value} {o : Nat} (hP : P.length = o) (h : Blk w g t (P ++ z0 :: z1 :: z2 :: z3 :: z4 :: z5 :: z6 :: z7 :: z8 :: z9 :: R).toArray) :
    Blk (Go.Proofs.Ytjkhpbngpceenaa.set10 w g o [a0, a1, a2, a3, a4, a5, a6, a7, a8, a9]) g t (P ++ a0 :: a1 :: a2 :: a3 :: a4 :: a5 :: a6 :: a7 :: a8 :: a9 :: R).toArray := by
  subst hP
  have := (((((((((h.set_ P.length a0).set_ (P.length + 1) a1).set_ (P.length + 2) a2).set_ (P.length + 3) a3).set_ (P.length + 4) a4).set_ (P.length + 5) a5).set_ (P.length + 6) a6).set_ (P.length + 7) a7).set_ (P.length + 8) a8).set_ (P.length + 9) a9
  simpa [Go.Proofs.Ytjkhpbngpceenaa.set10, List.set_append_right] using this
theorem Keep.set10 {w : World} {g : Nat} {t : TypeId} {cs : Array Value} (h : Blk w g t cs) (o : Nat) (l : List Value) : Keep t w (Go.Proofs.Ytjkhpbngpceenaa.set10 w g o l) := by
  unfold Go.Proofs.Ytjkhpbngpceenaa.set10
  have s : ∀ {W : World} (hk : Keep t w W) (hc : ∃ cs, Blk W g t cs) (i : Nat) (u : Value), Keep t w (W.setCell ⟨g, i, none⟩ u) ∧ ∃ cs, Blk (W.setCell ⟨g, i, none⟩ u) g t cs := fun hk ⟨cs, hc⟩ i u => ⟨hk.trans (Keep.set_ hc i u), _, hc.set_ i u⟩
  have s0 := s (Keep.refl t w) ⟨_, h⟩ o (l.getD 0 undef)
  have s1 := s s0.1 s0.2 (o + 1) (l.getD 1 undef)
  have s2 := s s1.1 s1.2 (o + 2) (l.getD 2 undef)
  have s3 := s s2.1 s2.2 (o + 3) (l.getD 3 undef)
  have s4 := s s3.1 s3.2 (o + 4) (l.getD 4 undef)
  have s5 := s s4.1 s4.2 (o + 5) (l.getD 5 undef)
  have s6 := s s5.1 s5.2 (o + 6) (l.getD 6 undef)
  have s7 := s s6.1 s6.2 (o + 7) (l.getD 7 undef)
  have s8 := s s7.1 s7.2 (o + 8) (l.getD 8 undef)
  exact (s s8.1 s8.2 (o + 9) (l.getD 9 undef)).1
theorem drop_ten {zs : List Value} {o : Nat} (h : o + 10 ≤ zs.length) : ∃ z0 z1 z2 z3 z4 z5 z6 z7 z8 z9, zs.drop o = z0 :: z1 :: z2 :: z3 :: z4 :: z5 :: z6 :: z7 :: z8 :: z9 :: zs.drop (o + 10) := by
  refine ⟨zs[o], zs[o + 1], zs[o + 2], zs[o + 3], zs[o + 4], zs[o + 5], zs[o + 6], zs[o + 7], zs[o + 8], zs[o + 9], ?_⟩
  iterate 10 rw [List.drop_eq_getElem_cons (by omega)]
/-- The next node's cells are there, and what a copy put there leaves. -/
theorem CpRow.next {B : Nat} {w : World} {g : Nat} {zc : Array Value} {ns : List NodeD} {k : Nat} (h : CpRow B w g zc ns k) (hk : k < ns.length) (hz : zc.size = ns.length * 10) :
    (∃ z0 z1 z2 z3 z4 z5 z6 z7 z8 z9, w.cell? ⟨g, k * 10, none⟩ = some z0 ∧ w.cell? ⟨g, k * 10 + 1, none⟩ = some z1 ∧ w.cell? ⟨g, k * 10 + 2, none⟩ = some z2 ∧ w.cell? ⟨g, k * 10 + 3, none⟩ = some z3 ∧ w.cell? ⟨g, k * 10 + 4, none⟩ = some z4 ∧ w.cell? ⟨g, k * 10 + 5, none⟩ = some z5 ∧ w.cell? ⟨g, k * 10 + 6, none⟩ = some z6 ∧ w.cell? ⟨g, k * 10 + 7, none⟩ = some z7 ∧ w.cell? ⟨g, k * 10 + 8, none⟩ = some z8 ∧ w.cell? ⟨g, k * 10 + 9, none⟩ = some z9) ∧
    (∀ i, w.frozen? ⟨g, i, none⟩ = false) ∧
    ∀ x : CpQ, x.v = ns[k] → CpQ.R B w x → CpRow B (Go.Proofs.Ytjkhpbngpceenaa.set10 w g (k * 10) x.cells) g zc ns (k + 1) ∧ Keep 46 w (Go.Proofs.Ytjkhpbngpceenaa.set10 w g (k * 10) x.cells) := by
  obtain ⟨L, h1, h2, h3, h4⟩ := h
  obtain ⟨z0, z1, z2, z3, z4, z5, z6, z7, z8, z9, e⟩ := drop_ten (zs := zc.toList) (o := k * 10) (by simp; omega)
  rw [e] at h3
  have hl : (L.flatMap CpQ.cells).length = k * 10 := by rw [CpQ.flat, h2]
  refine ⟨⟨z0, z1, z2, z3, z4, z5, z6, z7, z8, z9, ?_, ?_, ?_, ?_, ?_, ?_, ?_, ?_, ?_, ?_⟩, fun i => h3.frozen i, fun x hx hR => ⟨⟨L ++ [x], ?_, by simp [h2], ?_, fun y hy => ?_⟩, Keep.set10 h3 _ _⟩⟩
  all_goals first | (rw [h3.cell]; simp [← hl]; done) | skip
  · rw [List.map_append, h1, List.take_succ_eq_append_getElem hk, ← hx]; rfl
  · have := Blk.set10 (a0 := .int .i64 x.v.op.kind) (a1 := .int .i64 x.v.op.k) (a2 := .int .i64 x.v.op.width) (a3 := .int .i64 x.v.op.step) (a4 := .int .i64 x.v.op.side) (a5 := .int .i64 x.v.op.frm) (a6 := .int .i64 x.v.op.to) (a7 := .slice (some ⟨x.S, 0, none⟩) x.v.op.s.length x.v.op.s.length) (a8 := .slice x.J x.v.ins.length x.jc) (a9 := .slice (some ⟨x.Q, 0, none⟩) x.v.p.length x.v.p.length) hl h3
    rw [List.flatMap_append, List.append_assoc, show (k + 1) * 10 = k * 10 + 10 by omega]
    exact this
  · have hkp : Keep 46 w (Go.Proofs.Ytjkhpbngpceenaa.set10 w g (k * 10) x.cells) := Keep.set10 h3 _ _
    rcases List.mem_append.1 hy with hy | hy
    · exact (h4 y hy).keep (by decide) (by decide) hkp
    · simp at hy; subst hy; exact hR.keep (by decide) (by decide) hkp
theorem Later.set10 {w w1 : World} {g o : Nat} {l : List Value} (h : Later w w1) (hg : w.heap.size ≤ g) : Later w (Go.Proofs.Ytjkhpbngpceenaa.set10 w1 g o l) := by
  unfold Go.Proofs.Ytjkhpbngpceenaa.set10
  exact (((((((((h.set (p := ⟨g, o, none⟩) hg _).set (p := ⟨g, o + 1, none⟩) hg _).set (p := ⟨g, o + 2, none⟩) hg _).set (p := ⟨g, o + 3, none⟩) hg _).set (p := ⟨g, o + 4, none⟩) hg _).set (p := ⟨g, o + 5, none⟩) hg _).set (p := ⟨g, o + 6, none⟩) hg _).set (p := ⟨g, o + 7, none⟩) hg _).set (p := ⟨g, o + 8, none⟩) hg _).set (p := ⟨g, o + 9, none⟩) hg _
theorem copy_step {B : Nat} {w w1 : World} {g G a r k : Nat} {zc : Array Value} {ns : List NodeD} {cG ca cr : Array Value} {v : NodeD} {h q : Nat} {J : Option Addr} {jc : Nat}
    (hput : ∀ x : CpQ, x.v = v → CpQ.R B w x → CpRow B (Go.Proofs.Ytjkhpbngpceenaa.set10 w g (k * 10) x.cells) g zc ns (k + 1) ∧ Keep 46 w (Go.Proofs.Ytjkhpbngpceenaa.set10 w g (k * 10) x.cells))
    (hR : CpQ.R B w ⟨v, h, J, jc, q⟩) (hG : Blk w G 26 cG) (ha : Blk w a 3 ca) (hr : Blk w r 26 cr) (hl : Later w1 w) (hg : w1.heap.size ≤ g) :
    CpRow B (Go.Proofs.Ytjkhpbngpceenaa.set10 w g (k * 10) (CpQ.cells ⟨v, h, J, jc, q⟩)) g zc ns (k + 1) ∧ Blk (Go.Proofs.Ytjkhpbngpceenaa.set10 w g (k * 10) (CpQ.cells ⟨v, h, J, jc, q⟩)) G 26 cG ∧ Blk (Go.Proofs.Ytjkhpbngpceenaa.set10 w g (k * 10) (CpQ.cells ⟨v, h, J, jc, q⟩)) a 3 ca ∧
      Blk (Go.Proofs.Ytjkhpbngpceenaa.set10 w g (k * 10) (CpQ.cells ⟨v, h, J, jc, q⟩)) r 26 cr ∧ Later w1 (Go.Proofs.Ytjkhpbngpceenaa.set10 w g (k * 10) (CpQ.cells ⟨v, h, J, jc, q⟩)) := by
  obtain ⟨h1, h2⟩ := hput _ rfl hR
  exact ⟨h1, hG.keep (by decide) h2, ha.keep (by decide) h2, hr.keep (by decide) h2, hl.set10 hg⟩
/-- A copied row reads as its nodes. -/
theorem CpRow.nodes {B : Nat} {w : World} {g : Nat} {zc : Array Value} {ns : List NodeD} (h : CpRow B w g zc ns ns.length) (hs : ∀ v ∈ ns, v.op.s.length ≤ 1048576 ∧ v.p.length ≤ 1048576 ∧ ∀ s ∈ v.p, s.length ≤ 1048576) : Nodes w (some ⟨g, 0, none⟩) ns := fun j hj => by
  obtain ⟨L, h1, h2, h3, h4⟩ := h
  rw [List.take_length] at h1
  subst h1
  rw [List.length_map] at hj
  have hx := h4 L[j] (List.getElem_mem hj)
  have hsz := hs L[j].v (List.mem_map.2 ⟨_, List.getElem_mem hj, rfl⟩)
  obtain ⟨q1, q2, q3, q4⟩ := hx
  obtain ⟨r1, r2, r3⟩ := own_ints q3
  have hsplit : L = L.take j ++ L[j] :: L.drop (j + 1) := by rw [← List.drop_eq_getElem_cons hj, List.take_append_drop]
  have hfl : ((L.take j).flatMap CpQ.cells).length = j * 10 := by rw [CpQ.flat]; simp; omega
  have hcell : ∀ i, i < 10 → w.cell? ⟨g, j * 10 + i, none⟩ = L[j].cells[i]? := fun i hi => by
    rw [h3.cell]
    conv => lhs; rw [hsplit, List.flatMap_append, List.flatMap_cons, List.append_assoc, List.append_assoc]
    rw [List.getElem?_toArray, List.getElem?_append_right (by omega), hfl, show j * 10 + i - j * 10 = i by omega, List.getElem?_append_left (by rw [CpQ.len]; exact hi)]
  rw [List.getElem_map]
  refine ⟨g, 0, some ⟨L[j].S, 0, none⟩, L[j].v.op.s.length, L[j].J, L[j].jc, some ⟨L[j].Q, 0, none⟩, L[j].v.p.length, rfl, h3.lt, ?_, ?_, ?_, ?_, ?_, ?_, ?_, ?_, ?_, ?_, ⟨?_, Nat.le_refl _, by omega⟩, ⟨r1, r2, r3⟩, ⟨q4.shps (fun s h => by have := hsz.2.2 s h; omega), Nat.le_refl _, by omega⟩⟩
  all_goals first | (rw [Nat.zero_add]; exact hcell 0 (by omega)) | (rw [Nat.zero_add]; exact hcell _ (by omega)) | skip
  exact Ints.of_row fun i hi => by
    rw [Nat.zero_add, q2.cell i, getD_at hi]
    simp [hi]
/-- A copied net. -/
def NetCp (B : Nat) (n : NetD) (e : Ending) (w' : World) : Prop :=
  ∃ a g zc, e = .returned (.agg #[.slice (some ⟨a, 0, none⟩) n.inn.length n.inn.length, .slice (some ⟨g, 0, none⟩) n.nodes.length n.nodes.length]) ∧ B ≤ a ∧ B ≤ g ∧ Blk w' a 3 (n.inn.map (Value.int .i64)).toArray ∧ CpRow B w' g zc n.nodes n.nodes.length
end Go.Proofs.Ytjkhpbngpceenaa
/- Layer 11 (net): Copy: contract. -/
namespace Go.Proofs.Ytjkhpbngpceenaa
open Go.RowKit
theorem Blk.new' {w : World} {g : Nat} (t : TypeId) (cs : Array Value) (h : g = w.heap.size) : Blk (w.alloc (.cells cs t)) g t cs := by subst h; exact Blk.new w t cs
theorem Blk.set2 {w : World} {g : Nat} {t : TypeId} {a b : Value} (h : Blk w g t #[a, b]) (x y : Value) : Blk ((w.setCell ⟨g, 0, none⟩ x).setCell ⟨g, 1, none⟩ y) g t #[x, y] := (h.set_ 0 x).set_ 1 y
theorem Blk.far' {w : World} {g : Nat} {t : TypeId} {cs : Array Value} (h : Blk w g t cs) {b i : Nat} (hp : g ≠ b) (u : Value) : Blk (w.setCell ⟨b, i, none⟩ u) g t cs := h.far (p := ⟨b, i, none⟩) hp u
theorem two_lt (w : World) (o p : Obj) : w.heap.size + 1 < ((w.alloc o).alloc p).drew.heap.size := by simp
theorem bcell {B : Nat} {W w1 : World} (hb : Below B W w1) : (∀ b o, b < B → w1.cell? ⟨b, o, none⟩ = W.cell? ⟨b, o, none⟩) ∧ (∀ b o, b < B → w1.frozen? ⟨b, o, none⟩ = W.frozen? ⟨b, o, none⟩) :=
  ⟨fun b o h => hb.cell (p := ⟨b, o, none⟩) h, fun b o h => hb.frozen (p := ⟨b, o, none⟩) h⟩
def CloneP (zs : List Int) (w : World) (e : Ending) (w' : World) : Prop :=
  ∃ J jc, e = .returned (.slice J zs.length jc) ∧ w'.ownsRow w.heap.size 3 1 (.slice J zs.length jc) zs.length (zs.map (Value.int .i64)) ∧ Below w.heap.size w w'
theorem clone_ints (A : Option Addr) (c : Nat) (zs : List Int) (w : World) (hl : zs.length ≤ 1048576) (hI : Ints .i64 w A zs) :
    Calls Try.prog 43 #[.slice A zs.length c] w (CloneP zs w) := by
  by_cases h : zs = []
  · subst h
    rcases A with _ | a
    · refine (Try.slices_Clone_int_nil 0 c w).mono ?_
      rintro e w' ⟨rfl, rfl⟩
      exact ⟨none, 0, rfl, World.ownsRow_nil _ _ _ _, Below.refl _ _⟩
    · refine (Try.slices_Clone_int_zero a c w).mono ?_
      rintro e w' ⟨v, rfl, ho, -, hb⟩
      obtain ⟨J, jc, rfl⟩ := own_form ho
      exact ⟨J, jc, rfl, ho, hb⟩
  · obtain ⟨b, off, rfl, -, -⟩ := hI 0 (List.length_pos_iff.2 h)
    refine (Try.slices_Clone_int b off zs.length c zs w (Nat.le_refl _) (by omega) (fun j hj => ?_)).mono ?_
    · obtain ⟨b', o', e, -, hc⟩ := hI j hj
      injection e with e; injection e with e1 e2; subst e1 e2
      exact hc
    · rintro e w' ⟨v, rfl, ho, -, hb⟩
      rw [List.take_length] at ho
      obtain ⟨J, jc, rfl⟩ := own_form ho
      exact ⟨J, jc, rfl, ho, hb⟩
/-- The new net, before its nodes are copied. -/
def CpCut (n : NetD) (w1 : World) (zc : Array Value) (v v9 v13 : Value) (wx : World) : Prop :=
  ∃ G a g, v = .pointer (some ⟨G, 0, none⟩) ∧ v9 = .slice (some ⟨a, 0, none⟩) n.inn.length n.inn.length ∧ v13 = .slice (some ⟨g, 0, none⟩) n.nodes.length n.nodes.length ∧ w1.heap.size < G ∧ w1.heap.size < a ∧ w1.heap.size < g ∧ G ≠ g ∧ Blk wx G 26 #[.slice (some ⟨a, 0, none⟩) n.inn.length n.inn.length, .slice (some ⟨g, 0, none⟩) n.nodes.length n.nodes.length] ∧
    Blk wx a 3 (n.inn.map (Value.int .i64)).toArray ∧ Blk wx g 46 zc ∧ Blk wx w1.heap.size 26 #[.slice none 0 0, .slice none 0 0] ∧ Later w1 wx
theorem node_info : (Try.prog.info? 46).map (fun i => (i.zero, i.size, i.bytes)) = some (some (.agg #[.int .i64 0, .int .i64 0, .int .i64 0, .int .i64 0, .int .i64 0, .int .i64 0, .int .i64 0, .slice none 0 0, .slice none 0 0, .slice none 0 0]), 10, 128) := by kernel_rfl
set_option maxRecDepth 20000 in
set_option maxHeartbeats 8000000 in
theorem net_copy (A N : Option Addr) (c d : Nat) (n : NetD) (w : World) (hok : n.ok) (hR : NetR w A N n) :
    Calls Try.prog 17 #[.agg #[.slice A n.inn.length c, .slice N n.nodes.length d]] w fun e w' => NetCp w.heap.size n e w' ∧ Below w.heap.size w w' := by
  obtain ⟨i0, hi, hz0, hz1, hz2⟩ := info_parts node_info
  have hb0 : Below w.heap.size w (w.alloc (.cells #[.slice A n.inn.length c, .slice N n.nodes.length d] 26)) := (Below.refl _ _).alloc (Nat.le_refl _) _
  have hk0 := Blk.new w 26 #[.slice A n.inn.length c, .slice N n.nodes.length d]
  have x0 : (w.alloc (.cells #[.slice A n.inn.length c, .slice N n.nodes.length d] 26)).cell? ⟨w.heap.size, 0, none⟩ = some (.slice A n.inn.length c) := by rw [hk0.cell]; rfl
  have x1 : (w.alloc (.cells #[.slice A n.inn.length c, .slice N n.nodes.length d] 26)).cell? ⟨w.heap.size, 1, none⟩ = some (.slice N n.nodes.length d) := by rw [hk0.cell]; rfl
  have hl1 := hok.1
  have hl2 := hok.2.1
  have hmk : ∀ W : World, (Instr.makeSlice 24 (.int .i64 (n.nodes.length : Int)) (.int .i64 (n.nodes.length : Int))).run Try.prog W = .ok (.slice (some ⟨W.heap.size, 0, none⟩) n.nodes.length n.nodes.length) (W.alloc (.cells (madeCells (Value.agg #[.int .i64 0, .int .i64 0, .int .i64 0, .int .i64 0, .int .i64 0, .int .i64 0, .int .i64 0, .slice none 0 0, .slice none 0 0, .slice none 0 0]).cells (n.nodes.length * 10)) 46)) := fun W => by
    have := run_make (P := Try.prog) W 24 46 i0 _ Try.underlying24 hi hz0 .i64 .i64 n.nodes.length n.nodes.length (by omega) (by omega) (by rw [hz2]; omega) (by omega)
    rw [hz1, Int.toNat_natCast] at this
    exact this
  have hs1 := hk0.lt
  have her : (w.alloc (.cells #[.slice A n.inn.length c, .slice N n.nodes.length d] 26)).heap.size = w.heap.size + 1 := by simp
  have hzc : (madeCells (Value.agg #[.int .i64 0, .int .i64 0, .int .i64 0, .int .i64 0, .int .i64 0, .int .i64 0, .int .i64 0, .slice none 0 0, .slice none 0 0, .slice none 0 0]).cells (n.nodes.length * 10)).size = n.nodes.length * 10 := size_madeCells _ _
  generalize madeCells (Value.agg #[.int .i64 0, .int .i64 0, .int .i64 0, .int .i64 0, .int .i64 0, .int .i64 0, .int .i64 0, .slice none 0 0, .slice none 0 0, .slice none 0 0]).cells (n.nodes.length * 10) = zc at *
  have hR1 := hR.below hb0 (Nat.le_refl _)
  have Hok := Lib.hid hok
  have HR := Lib.hid hR
  have Hk0 := Lib.hid hk0
  have HR1 := Lib.hid hR1
  have Hzc := Lib.hid hzc
  have Her := Lib.hid her
  clear hok hR hk0 hR1 hzc her
  go_enter Try.func17, Try.ntmps17
  go_wp2_with fail
  generalize w.alloc (.cells #[.slice A n.inn.length c, .slice N n.nodes.length d] 26) = w1 at *
  go_upto_region 1 with fail
  go_cut [3, 9, 13] (CpCut n w1 zc)
  case first =>
    go_region_held3 (fun W => W.cell? ⟨w.heap.size, 0, none⟩ = some (.slice A n.inn.length c) ∧ W.cell? ⟨w.heap.size, 1, none⟩ = some (.slice N n.nodes.length d)) (first | exact ⟨x0, x1⟩ | exact ⟨Later.cell (show Later w1 _ by repeat (first | exact Later.refl _ | apply Later.drew | apply Later.alloc | refine Later.call ?_ (by assumption) | refine Later.set ?_ (by first | omega | (simp; done) | (simp; omega)) _)) x0, Later.cell (show Later w1 _ by repeat (first | exact Later.refl _ | apply Later.drew | apply Later.alloc | refine Later.call ?_ (by assumption) | refine Later.set ?_ (by first | omega | (simp; done) | (simp; omega)) _)) x1⟩)
      (first
      | (go_at_call 42; refine (shape_copy A c n.inn _ (by omega) (HR1.out.1.below (show Later w1 _ by repeat (first | exact Later.refl _ | apply Later.drew | apply Later.alloc | refine Later.call ?_ (by assumption) | refine Later.set ?_ (by first | omega | (simp; done) | (simp; omega)) _)) (Nat.le_refl _))).mono ?_; rintro e w2 ⟨h, rfl, hh, hB, hb2⟩; obtain ⟨hcc, hcf⟩ := bcell hb2; have hzz := hb2.size; simp at hzz; try (have q0 := hcc (w1.heap.size + 1) 0 (two_lt w1 _ _); have q1 := hcc (w1.heap.size + 1) 1 (two_lt w1 _ _); have q2 := hcf (w1.heap.size + 1) 0 (two_lt w1 _ _); have q3 := hcf (w1.heap.size + 1) 1 (two_lt w1 _ _); simp at q0 q1 q2 q3; have hz3 := Nat.lt_of_lt_of_le (two_lt w1 _ _) hb2.size)))
    all_goals
      go_wp2_with fail
      go_meet
      simp at hh
      have hB' : Blk w2 _ 3 (n.inn.map (Value.int .i64)).toArray := hB
      refine ⟨_, _, _, rfl, rfl, rfl, ?_, ?_, ?_, ?_, ?_, ?_, ?_, ?_, (show Later w1 _ by repeat (first | exact Later.refl _ | apply Later.drew | apply Later.alloc | refine Later.call ?_ (by assumption) | refine Later.set ?_ (by first | omega | (simp; done) | (simp; omega)) _))⟩
      · omega
      · omega
      · omega
      · omega
      · exact (by repeat (first | (with_reducible exact hB') | ((with_reducible refine Blk.new' _ _ ?_); first | rfl | (simp; done) | (simp; omega)) | (with_reducible refine Blk.set2 (a := .slice none 0 0) (b := .slice none 0 0) ?_ _ _) | ((with_reducible refine Blk.far' ?_ ?_ _); rotate_left; omega) | (with_reducible refine Blk.alloc ?_ _) | (with_reducible refine Blk.drew ?_) | ((with_reducible refine Blk.below ?_ hb2 ?_); rotate_left; (focus first | (simp; done) | (simp; omega)))))
      · exact (by repeat (first | (with_reducible exact hB') | ((with_reducible refine Blk.new' _ _ ?_); first | rfl | (simp; done) | (simp; omega)) | (with_reducible refine Blk.set2 (a := .slice none 0 0) (b := .slice none 0 0) ?_ _ _) | ((with_reducible refine Blk.far' ?_ ?_ _); rotate_left; omega) | (with_reducible refine Blk.alloc ?_ _) | (with_reducible refine Blk.drew ?_) | ((with_reducible refine Blk.below ?_ hb2 ?_); rotate_left; (focus first | (simp; done) | (simp; omega)))))
      · exact (by repeat (first | (with_reducible exact hB') | ((with_reducible refine Blk.new' _ _ ?_); first | rfl | (simp; done) | (simp; omega)) | (with_reducible refine Blk.set2 (a := .slice none 0 0) (b := .slice none 0 0) ?_ _ _) | ((with_reducible refine Blk.far' ?_ ?_ _); rotate_left; omega) | (with_reducible refine Blk.alloc ?_ _) | (with_reducible refine Blk.drew ?_) | ((with_reducible refine Blk.below ?_ hb2 ?_); rotate_left; (focus first | (simp; done) | (simp; omega)))))
      · exact (by repeat (first | (with_reducible exact hB') | ((with_reducible refine Blk.new' _ _ ?_); first | rfl | (simp; done) | (simp; omega)) | (with_reducible refine Blk.set2 (a := .slice none 0 0) (b := .slice none 0 0) ?_ _ _) | ((with_reducible refine Blk.far' ?_ ?_ _); rotate_left; omega) | (with_reducible refine Blk.alloc ?_ _) | (with_reducible refine Blk.drew ?_) | ((with_reducible refine Blk.below ?_ hb2 ?_); rotate_left; (focus first | (simp; done) | (simp; omega)))))
  case rest =>
    obtain ⟨G, a, g, rfl, rfl, rfl, hG1, ha1, hg1, hGg, hbG, hba, hbg, hbR, hlt⟩ := hcut
    have hx1 : wc.cell? ⟨w.heap.size, 1, none⟩ = some (.slice N n.nodes.length d) := hlt.cell x1
    have hcz : CpRow w1.heap.size wc g zc n.nodes 0 := CpRow.zero hbg
    have HbG := Lib.hid hbG
    have Hba := Lib.hid hba
    have Hbg := Lib.hid hbg
    have HbR := Lib.hid hbR
    have Hlt := Lib.hid hlt
    have Hcz := Lib.hid hcz
    clear hbG hba hbg hbR hlt hcz
    clear x0 x1 hmk
    go_wp2_with fail
    go_loopw [18] (fun i wx => ∃ k : Nat, k ≤ n.nodes.length ∧ i = .int .i64 (k : Int) ∧ CpRow w1.heap.size wx g zc n.nodes k ∧ Blk wx G 26 #[.slice (some ⟨a, 0, none⟩) n.inn.length n.inn.length, .slice (some ⟨g, 0, none⟩) n.nodes.length n.nodes.length] ∧ Blk wx a 3 (n.inn.map (Value.int .i64)).toArray ∧ Blk wx w1.heap.size 26 #[.slice none 0 0, .slice none 0 0] ∧ Later w1 wx) (fun i _ => n.nodes.length - (intOf i).toNat)
    case atStart => exact ⟨0, Nat.zero_le _, rfl, Hcz.out, HbG.out, Hba.out, HbR.out, Hlt.out⟩
    case round =>
      obtain ⟨k, hk, rfl, hcp, hbG, hba, hbR, hlw⟩ := hrel
      clear hx1 Hbg Hlt Hcz HbG Hba HbR
      by_cases hlt : k < n.nodes.length
      · obtain ⟨b, off, S, sc, J, ic, Q, qc, rfl, hNA, -, -, -⟩ := HR1.out.2.at_ hlt
        have hnok := Hok.out.2.2 _ (List.getElem_mem hlt)
        have hnext := fun (B : Nat) (W : World) (h : CpRow B W g zc n.nodes k) => h.next hlt Hzc.out
        have hNAw := hNA.below hlw
        generalize n.nodes[k] = v at *
        obtain ⟨⟨y0, y1, y2, y3, y4, y5, y6, y7, y8, y9⟩, -⟩ := hNAw
        have hkn := (Blk.new wr 46 #[.int .i64 v.op.kind, .int .i64 v.op.k, .int .i64 v.op.width, .int .i64 v.op.step, .int .i64 v.op.side, .int .i64 v.op.frm, .int .i64 v.op.to, .slice S v.op.s.length sc, .slice J v.ins.length ic, .slice Q v.p.length qc]).alloc (.cells #[.int .i64 v.op.kind, .int .i64 v.op.k, .int .i64 v.op.width, .int .i64 v.op.step, .int .i64 v.op.side, .int .i64 v.op.frm, .int .i64 v.op.to, .slice S v.op.s.length sc] 43)
        have hko := Blk.new (wr.alloc (.cells #[.int .i64 v.op.kind, .int .i64 v.op.k, .int .i64 v.op.width, .int .i64 v.op.step, .int .i64 v.op.side, .int .i64 v.op.frm, .int .i64 v.op.to, .slice S v.op.s.length sc, .slice J v.ins.length ic, .slice Q v.p.length qc] 46)) 43 #[.int .i64 v.op.kind, .int .i64 v.op.k, .int .i64 v.op.width, .int .i64 v.op.step, .int .i64 v.op.side, .int .i64 v.op.frm, .int .i64 v.op.to, .slice S v.op.s.length sc]
        have hl2 : Later wr ((wr.alloc (.cells #[.int .i64 v.op.kind, .int .i64 v.op.k, .int .i64 v.op.width, .int .i64 v.op.step, .int .i64 v.op.side, .int .i64 v.op.frm, .int .i64 v.op.to, .slice S v.op.s.length sc, .slice J v.ins.length ic, .slice Q v.p.length qc] 46)).alloc (.cells #[.int .i64 v.op.kind, .int .i64 v.op.k, .int .i64 v.op.width, .int .i64 v.op.step, .int .i64 v.op.side, .int .i64 v.op.frm, .int .i64 v.op.to, .slice S v.op.s.length sc] 43)) := ((Later.refl wr).alloc _).alloc _
        rw [World.size_alloc] at hko
        have hsz2 : ((wr.alloc (.cells #[.int .i64 v.op.kind, .int .i64 v.op.k, .int .i64 v.op.width, .int .i64 v.op.step, .int .i64 v.op.side, .int .i64 v.op.frm, .int .i64 v.op.to, .slice S v.op.s.length sc, .slice J v.ins.length ic, .slice Q v.p.length qc] 46)).alloc (.cells #[.int .i64 v.op.kind, .int .i64 v.op.k, .int .i64 v.op.width, .int .i64 v.op.step, .int .i64 v.op.side, .int .i64 v.op.frm, .int .i64 v.op.to, .slice S v.op.s.length sc] 43)).heap.size = wr.heap.size + 2 := by simp
        have Hcp0 := Lib.hid hcp
        have hsw := hlw.size
        have HNA := Lib.hid hNA
        have Hnok := Lib.hid hnok
        have Hcp := Lib.hid hcp
        have HbG := Lib.hid hbG
        have Hba := Lib.hid hba
        have HbR := Lib.hid hbR
        have Hlw := Lib.hid hlw
        have Hnext := Lib.hid hnext
        have Hkn := Lib.hid hkn
        have Hko := Lib.hid hko
        have Hl2 := Lib.hid hl2
        clear hNA hnok hcp hbG hba hbR hlw hnext hkn hko hl2
        go_wp2_with fail
        generalize (wr.alloc (.cells #[.int .i64 v.op.kind, .int .i64 v.op.k, .int .i64 v.op.width, .int .i64 v.op.step, .int .i64 v.op.side, .int .i64 v.op.frm, .int .i64 v.op.to, .slice S v.op.s.length sc, .slice J v.ins.length ic, .slice Q v.p.length qc] 46)).alloc (.cells #[.int .i64 v.op.kind, .int .i64 v.op.k, .int .i64 v.op.width, .int .i64 v.op.step, .int .i64 v.op.side, .int .i64 v.op.frm, .int .i64 v.op.to, .slice S v.op.s.length sc] 43) = W2 at *
        clear y0 y1 y2 y3 y4 y5 y6 y7 y8 y9
        have hlen := Hnok.out
        have hl1 := hlen.2.1
        have hl2 := hlen.2.2.1
        have hl3 := hlen.2.2.2.1
        refine (shape_copy S sc v.op.s _ (by omega) ((HNA.out.below (Hlw.out.trans Hl2.out)).2.1)).mono ?_
        rintro e w3 ⟨h, rfl, hh, hB, hb3⟩
        have hB : Blk w3 h 3 (v.op.s.map (Value.int .i64)).toArray := hB
        have hl3' : Later wr w3 := Hl2.out.call hb3
        have hkn3 := (show Later W2 w3 from hb3).blk Hkn.out
        have hko3 := (show Later W2 w3 from hb3).blk Hko.out
        have o7 := hko3.cell 7
        have fo7 := hko3.frozen 7
        simp at o7
        have hs3 := hb3.size
        have hko4 := hko3.set_ 7 (.slice (some ⟨h, 0, none⟩) v.op.s.length v.op.s.length)
        have hkn4 := hkn3.far (p := ⟨wr.heap.size + 1, 7, none⟩) (by simp) (.slice (some ⟨h, 0, none⟩) v.op.s.length v.op.s.length)
        have hB4 := hB.far (p := ⟨wr.heap.size + 1, 7, none⟩) (by simp; omega) (.slice (some ⟨h, 0, none⟩) v.op.s.length v.op.s.length)
        have hl4 : Later wr (w3.setCell ⟨wr.heap.size + 1, 7, none⟩ (.slice (some ⟨h, 0, none⟩) v.op.s.length v.op.s.length)) := hl3'.set (by simp) _
        have hcp4 := Hcp.out.later hl4
        have hbG4 := hl4.blk HbG.out
        have hba4 := hl4.blk Hba.out
        have hbR4 := hl4.blk HbR.out
        have hlw4 := Hlw.out.trans hl4
        have hNA4 := HNA.out.below hlw4
        have HB := Lib.hid hB
        have Hl3' := Lib.hid hl3'
        have Hkn3 := Lib.hid hkn3
        have Hko3 := Lib.hid hko3
        have Hko4 := Lib.hid hko4
        have Hkn4 := Lib.hid hkn4
        have HB4 := Lib.hid hB4
        have Hl4 := Lib.hid hl4
        have Hcp4 := Lib.hid hcp4
        have HbG4 := Lib.hid hbG4
        have Hba4 := Lib.hid hba4
        have HbR4 := Lib.hid hbR4
        have Hlw4 := Lib.hid hlw4
        have Hlen := Lib.hid hlen
        have HNA4 := Lib.hid hNA4
        clear hB hl3' hkn3 hko3 hko4 hkn4 hB4 hl4 hcp4 hbG4 hba4 hbR4 hlw4 hlen hNA4
        clear Hcp HbG Hba HbR Hlw Hkn Hko Hl2
        go_wp2_with fail
        go_upto_region 7 with fail
        generalize w3.setCell ⟨wr.heap.size + 1, 7, none⟩ (.slice (some ⟨h, 0, none⟩) v.op.s.length v.op.s.length) = W4 at *
        have u0 : W4.cell? ⟨G, 1, none⟩ = some (.slice (some ⟨g, 0, none⟩) n.nodes.length n.nodes.length) := by rw [HbG4.out.cell]; rfl
        have u1 : W4.cell? ⟨wr.heap.size + 1, 0, none⟩ = some (.int .i64 v.op.kind) := by rw [Hko4.out.cell]; rfl
        have u2 : W4.cell? ⟨wr.heap.size + 1, 1, none⟩ = some (.int .i64 v.op.k) := by rw [Hko4.out.cell]; rfl
        have u3 : W4.cell? ⟨wr.heap.size + 1, 2, none⟩ = some (.int .i64 v.op.width) := by rw [Hko4.out.cell]; rfl
        have u4 : W4.cell? ⟨wr.heap.size + 1, 3, none⟩ = some (.int .i64 v.op.step) := by rw [Hko4.out.cell]; rfl
        have u5 : W4.cell? ⟨wr.heap.size + 1, 4, none⟩ = some (.int .i64 v.op.side) := by rw [Hko4.out.cell]; rfl
        have u6 : W4.cell? ⟨wr.heap.size + 1, 5, none⟩ = some (.int .i64 v.op.frm) := by rw [Hko4.out.cell]; rfl
        have u7 : W4.cell? ⟨wr.heap.size + 1, 6, none⟩ = some (.int .i64 v.op.to) := by rw [Hko4.out.cell]; rfl
        have u8 : W4.cell? ⟨wr.heap.size + 1, 7, none⟩ = some (.slice (some ⟨h, 0, none⟩) v.op.s.length v.op.s.length) := by rw [Hko4.out.cell]; rfl
        have u9 : W4.cell? ⟨wr.heap.size, 8, none⟩ = some (.slice J v.ins.length ic) := by rw [Hkn4.out.cell]; rfl
        have u10 : W4.cell? ⟨wr.heap.size, 9, none⟩ = some (.slice Q v.p.length qc) := by rw [Hkn4.out.cell]; rfl
        have hglt : g < wr.heap.size := by obtain ⟨_, _, _, h, _⟩ := Hcp0.out; exact h.lt
        have hq1 : g ≠ G := fun e => hGg e.symm
        have hq2 : g ≠ wr.heap.size := by omega
        have hq3 : g ≠ wr.heap.size + 1 := by omega
        have k0 : (0 : Int) ≤ (k : Int) := by omega
        have k1 : (k : Int) < (n.nodes.length : Int) := by omega
        go_region_held3 (fun W => W.cell? ⟨G, 1, none⟩ = some (.slice (some ⟨g, 0, none⟩) n.nodes.length n.nodes.length) ∧ W.cell? ⟨wr.heap.size + 1, 0, none⟩ = some (.int .i64 v.op.kind) ∧ W.cell? ⟨wr.heap.size + 1, 1, none⟩ = some (.int .i64 v.op.k) ∧ W.cell? ⟨wr.heap.size + 1, 2, none⟩ = some (.int .i64 v.op.width) ∧ W.cell? ⟨wr.heap.size + 1, 3, none⟩ = some (.int .i64 v.op.step) ∧ W.cell? ⟨wr.heap.size + 1, 4, none⟩ = some (.int .i64 v.op.side) ∧ W.cell? ⟨wr.heap.size + 1, 5, none⟩ = some (.int .i64 v.op.frm) ∧ W.cell? ⟨wr.heap.size + 1, 6, none⟩ = some (.int .i64 v.op.to) ∧ W.cell? ⟨wr.heap.size + 1, 7, none⟩ = some (.slice (some ⟨h, 0, none⟩) v.op.s.length v.op.s.length) ∧ W.cell? ⟨wr.heap.size, 8, none⟩ = some (.slice J v.ins.length ic) ∧ W.cell? ⟨wr.heap.size, 9, none⟩ = some (.slice Q v.p.length qc)) (first | (refine ⟨?_, ?_, ?_, ?_, ?_, ?_, ?_, ?_, ?_, ?_, ?_⟩; (· simp only [World.cell?_setCell_far, hq1, ne_eq, not_false_eq_true]; first | exact Later.cell HL6.out u0 | exact Later.cell HL5.out u0); (· simp only [World.cell?_setCell_far, hq3, ne_eq, not_false_eq_true]; first | exact Later.cell HL6.out u1 | exact Later.cell HL5.out u1); (· simp only [World.cell?_setCell_far, hq3, ne_eq, not_false_eq_true]; first | exact Later.cell HL6.out u2 | exact Later.cell HL5.out u2); (· simp only [World.cell?_setCell_far, hq3, ne_eq, not_false_eq_true]; first | exact Later.cell HL6.out u3 | exact Later.cell HL5.out u3); (· simp only [World.cell?_setCell_far, hq3, ne_eq, not_false_eq_true]; first | exact Later.cell HL6.out u4 | exact Later.cell HL5.out u4); (· simp only [World.cell?_setCell_far, hq3, ne_eq, not_false_eq_true]; first | exact Later.cell HL6.out u5 | exact Later.cell HL5.out u5); (· simp only [World.cell?_setCell_far, hq3, ne_eq, not_false_eq_true]; first | exact Later.cell HL6.out u6 | exact Later.cell HL5.out u6); (· simp only [World.cell?_setCell_far, hq3, ne_eq, not_false_eq_true]; first | exact Later.cell HL6.out u7 | exact Later.cell HL5.out u7); (· simp only [World.cell?_setCell_far, hq3, ne_eq, not_false_eq_true]; first | exact Later.cell HL6.out u8 | exact Later.cell HL5.out u8); (· simp only [World.cell?_setCell_far, hq2, ne_eq, not_false_eq_true]; first | exact Later.cell HL6.out u9 | exact Later.cell HL5.out u9); (· simp only [World.cell?_setCell_far, hq2, ne_eq, not_false_eq_true]; first | exact Later.cell HL6.out u10 | exact Later.cell HL5.out u10)) | (with_reducible exact ⟨u0, u1, u2, u3, u4, u5, u6, u7, u8, u9, u10⟩) | exact ⟨Later.cell (show Later W4 _ by repeat (first | (with_reducible exact Later.refl _) | (with_reducible apply Later.drew) | (with_reducible apply Later.alloc) | (with_reducible refine Later.call ?_ (by assumption)))) u0, Later.cell (show Later W4 _ by repeat (first | (with_reducible exact Later.refl _) | (with_reducible apply Later.drew) | (with_reducible apply Later.alloc) | (with_reducible refine Later.call ?_ (by assumption)))) u1, Later.cell (show Later W4 _ by repeat (first | (with_reducible exact Later.refl _) | (with_reducible apply Later.drew) | (with_reducible apply Later.alloc) | (with_reducible refine Later.call ?_ (by assumption)))) u2, Later.cell (show Later W4 _ by repeat (first | (with_reducible exact Later.refl _) | (with_reducible apply Later.drew) | (with_reducible apply Later.alloc) | (with_reducible refine Later.call ?_ (by assumption)))) u3, Later.cell (show Later W4 _ by repeat (first | (with_reducible exact Later.refl _) | (with_reducible apply Later.drew) | (with_reducible apply Later.alloc) | (with_reducible refine Later.call ?_ (by assumption)))) u4, Later.cell (show Later W4 _ by repeat (first | (with_reducible exact Later.refl _) | (with_reducible apply Later.drew) | (with_reducible apply Later.alloc) | (with_reducible refine Later.call ?_ (by assumption)))) u5, Later.cell (show Later W4 _ by repeat (first | (with_reducible exact Later.refl _) | (with_reducible apply Later.drew) | (with_reducible apply Later.alloc) | (with_reducible refine Later.call ?_ (by assumption)))) u6, Later.cell (show Later W4 _ by repeat (first | (with_reducible exact Later.refl _) | (with_reducible apply Later.drew) | (with_reducible apply Later.alloc) | (with_reducible refine Later.call ?_ (by assumption)))) u7, Later.cell (show Later W4 _ by repeat (first | (with_reducible exact Later.refl _) | (with_reducible apply Later.drew) | (with_reducible apply Later.alloc) | (with_reducible refine Later.call ?_ (by assumption)))) u8, Later.cell (show Later W4 _ by repeat (first | (with_reducible exact Later.refl _) | (with_reducible apply Later.drew) | (with_reducible apply Later.alloc) | (with_reducible refine Later.call ?_ (by assumption)))) u9, Later.cell (show Later W4 _ by repeat (first | (with_reducible exact Later.refl _) | (with_reducible apply Later.drew) | (with_reducible apply Later.alloc) | (with_reducible refine Later.call ?_ (by assumption)))) u10⟩)
          (first
          | (go_at_call 43; refine (clone_ints J ic v.ins _ hl2 (HNA4.out.2.2.1.below (show Later W4 _ by repeat (first | (with_reducible exact Later.refl _) | (with_reducible apply Later.drew) | (with_reducible apply Later.alloc) | (with_reducible refine Later.call ?_ (by assumption)))) (Nat.le_refl _))).mono ?_; rintro e w5 ⟨J', jc', rfl, hJ5, hb5⟩; have HL5 := Lib.hid (show Later W4 w5 by repeat (first | (with_reducible exact Later.refl _) | (with_reducible apply Later.drew) | (with_reducible apply Later.alloc) | (with_reducible refine Later.call ?_ (by assumption)))); obtain ⟨⟨z0, z1, z2, z3, z4, z5, z6, z7, z8, z9, d0, d1, d2, d3, d4, d5, d6, d7, d8, d9⟩, hfz, hput⟩ := Hnext.out _ w5 (Hcp4.out.later (show Later W4 w5 by repeat (first | (with_reducible exact Later.refl _) | (with_reducible apply Later.drew) | (with_reducible apply Later.alloc) | (with_reducible refine Later.call ?_ (by assumption))))); have Hput := Lib.hid hput; clear hput; have fz0 := hfz (k * 10); have fz1 := hfz (k * 10 + 1); have fz2 := hfz (k * 10 + 2); have fz3 := hfz (k * 10 + 3); have fz4 := hfz (k * 10 + 4); have fz5 := hfz (k * 10 + 5); have fz6 := hfz (k * 10 + 6); have fz7 := hfz (k * 10 + 7); have fz8 := hfz (k * 10 + 8); have fz9 := hfz (k * 10 + 9))
          | (go_at_call 44; refine (net_copies Q qc v.p _ hl3 Hlen.out.2.2.2.2.1 (HNA4.out.2.2.2.below (show Later W4 _ by repeat (first | (with_reducible exact Later.refl _) | (with_reducible apply Later.drew) | (with_reducible apply Later.alloc) | (with_reducible refine Later.call ?_ (by assumption)))) (Nat.le_refl _))).mono ?_; rintro e w6 ⟨q', rfl, hF6, hb6⟩; have HL6 := Lib.hid (show Later W4 w6 by repeat (first | (with_reducible exact Later.refl _) | (with_reducible apply Later.drew) | (with_reducible apply Later.alloc) | (with_reducible refine Later.call ?_ (by assumption)))); obtain ⟨⟨z0, z1, z2, z3, z4, z5, z6, z7, z8, z9, d0, d1, d2, d3, d4, d5, d6, d7, d8, d9⟩, hfz, hput⟩ := Hnext.out _ w6 (Hcp4.out.later (show Later W4 w6 by repeat (first | (with_reducible exact Later.refl _) | (with_reducible apply Later.drew) | (with_reducible apply Later.alloc) | (with_reducible refine Later.call ?_ (by assumption))))); have Hput := Lib.hid hput; clear hput; have fz0 := hfz (k * 10); have fz1 := hfz (k * 10 + 1); have fz2 := hfz (k * 10 + 2); have fz3 := hfz (k * 10 + 3); have fz4 := hfz (k * 10 + 4); have fz5 := hfz (k * 10 + 5); have fz6 := hfz (k * 10 + 6); have fz7 := hfz (k * 10 + 7); have fz8 := hfz (k * 10 + 8); have fz9 := hfz (k * 10 + 9)))
        all_goals
          have HF6 := Lib.hid hF6
          have HJ5 := Lib.hid hJ5
          clear hF6 hJ5
          clear u0 u1 u2 u3 u4 u5 u6 u7 u8 u9 u10 d0 d1 d2 d3 d4 d5 d6 d7 d8 d9 hfz fz0 fz1 fz2 fz3 fz4 fz5 fz6 fz7 fz8 fz9
          go_wp2_with fail
          go_roundw
          case rel =>
            have s1 := Hlw4.out.size
            have s5 := HL5.out.size
            have s6 := HL6.out.size
            first
            | (obtain ⟨q1, q2, q3, q4, q5⟩ := copy_step Hput.out (h := h) (J := J') (jc := jc') (q := q') ⟨(show w1.heap.size ≤ h by omega), (HL6.out.blk HB4.out), ownsRow_low (ownsRow_keep (T := 46) HJ5.out (by decide) (Keep.of_later (show Later w5 w6 by repeat (first | (with_reducible exact Later.refl _) | (with_reducible apply Later.drew) | (with_reducible apply Later.alloc) | (with_reducible refine Later.call ?_ (by assumption)))))) (by first | omega | (simp; omega)), (HF6.out.keep (T := 46) (by decide) (by decide) (Keep.of_later (show Later w6 w6 by repeat (first | (with_reducible exact Later.refl _) | (with_reducible apply Later.drew) | (with_reducible apply Later.alloc) | (with_reducible refine Later.call ?_ (by assumption)))))).base (by first | omega | (simp; omega))⟩ (HL6.out.blk HbG4.out) (HL6.out.blk Hba4.out) (HL6.out.blk HbR4.out) (Hlw4.out.trans HL6.out) (by omega); exact ⟨k + 1, by omega, by go_num, q1, q2, q3, q4, q5⟩)
            | (obtain ⟨q1, q2, q3, q4, q5⟩ := copy_step Hput.out (h := h) (J := J') (jc := jc') (q := q') ⟨(show w1.heap.size ≤ h by omega), (HL5.out.blk HB4.out), ownsRow_low (ownsRow_keep (T := 46) HJ5.out (by decide) (Keep.of_later (show Later w5 w5 by repeat (first | (with_reducible exact Later.refl _) | (with_reducible apply Later.drew) | (with_reducible apply Later.alloc) | (with_reducible refine Later.call ?_ (by assumption)))))) (by first | omega | (simp; omega)), (HF6.out.keep (T := 46) (by decide) (by decide) (Keep.of_later (show Later w6 w5 by repeat (first | (with_reducible exact Later.refl _) | (with_reducible apply Later.drew) | (with_reducible apply Later.alloc) | (with_reducible refine Later.call ?_ (by assumption)))))).base (by first | omega | (simp; omega))⟩ (HL5.out.blk HbG4.out) (HL5.out.blk Hba4.out) (HL5.out.blk HbR4.out) (Hlw4.out.trans HL5.out) (by omega); exact ⟨k + 1, by omega, by go_num, q1, q2, q3, q4, q5⟩)
          case measure => simp [intOf]; omega
      · obtain rfl : k = n.nodes.length := by omega
        have g0 := hbG.cell 0
        have g1 := hbG.cell 1
        have f0 := hbR.frozen 0
        have f1 := hbR.frozen 1
        have r0 := hbR.cell 0
        have r1 := hbR.cell 1
        simp at g0 g1 r0 r1
        have er : w1.heap.size = w.heap.size + 1 := Her.out
        rw [er] at f0 f1 r0 r1
        have hkp : Keep 26 wr ((wr.setCell ⟨w.heap.size + 1, 0, none⟩ (.slice (some ⟨a, 0, none⟩) n.inn.length n.inn.length)).setCell ⟨w.heap.size + 1, 1, none⟩ (.slice (some ⟨g, 0, none⟩) n.nodes.length n.nodes.length)) := by
          rw [er] at hbR
          exact (Keep.set_ hbR 0 _).trans (Keep.set_ (hbR.set_ 0 _) 1 _)
        have hba2 := hba.keep (by decide) hkp
        have hcp2 : CpRow w1.heap.size ((wr.setCell ⟨w.heap.size + 1, 0, none⟩ (.slice (some ⟨a, 0, none⟩) n.inn.length n.inn.length)).setCell ⟨w.heap.size + 1, 1, none⟩ (.slice (some ⟨g, 0, none⟩) n.nodes.length n.nodes.length)) g zc n.nodes n.nodes.length := hcp.keep (by decide) (by decide) (by decide) hkp
        have hb5 := (hb0.trans (Below.mono hlw hb0.size)).setCell (p := ⟨w.heap.size + 1, 0, none⟩) (Nat.le_succ _) (.slice (some ⟨a, 0, none⟩) n.inn.length n.inn.length) |>.setCell (p := ⟨w.heap.size + 1, 1, none⟩) (Nat.le_succ _) (.slice (some ⟨g, 0, none⟩) n.nodes.length n.nodes.length)
        have hbR2 : Blk ((wr.setCell ⟨w.heap.size + 1, 0, none⟩ (.slice (some ⟨a, 0, none⟩) n.inn.length n.inn.length)).setCell ⟨w.heap.size + 1, 1, none⟩ (.slice (some ⟨g, 0, none⟩) n.nodes.length n.nodes.length)) (w.heap.size + 1) 26 #[.slice (some ⟨a, 0, none⟩) n.inn.length n.inn.length, .slice (some ⟨g, 0, none⟩) n.nodes.length n.nodes.length] := by rw [er] at hbR; exact hbR.set2 _ _
        have c0 := hbR2.cell 0
        have c1 := hbR2.cell 1
        simp at c0 c1
        clear er
        have Hcp := Lib.hid hcp
        have HbG := Lib.hid hbG
        have Hba := Lib.hid hba
        have HbR := Lib.hid hbR
        have Hlw := Lib.hid hlw
        have Hkp := Lib.hid hkp
        have Hba2 := Lib.hid hba2
        have Hcp2 := Lib.hid hcp2
        have Hb5 := Lib.hid hb5
        have HbR2 := Lib.hid hbR2
        clear hcp hbG hba hbR hlw hkp hba2 hcp2 hb5 hbR2
        go_wp2_with fail
        refine bodyPost_ret (v := .agg #[.slice (some ⟨a, 0, none⟩) n.inn.length n.inn.length, .slice (some ⟨g, 0, none⟩) n.nodes.length n.nodes.length]) (by simp [results, Try.results17, go_sem, c0, c1]) rfl ?_
        refine ⟨⟨a, g, zc, rfl, by omega, by omega, Hba2.out, ?_⟩, Hb5.out⟩
        obtain ⟨L, l1, l2, l3, l4⟩ := Hcp2.out
        exact ⟨L, l1, l2, l3, fun x hx => (l4 x hx).base (by omega)⟩
end Go.Proofs.Ytjkhpbngpceenaa
/- Layer 11 (net): the equalities: contracts. -/
namespace Go.Proofs.Ytjkhpbngpceenaa
open Go.RowKit
def eqSs (a b : List (List Int)) : Bool := decide (a = b)
def eqNode (a b : NodeD) : Bool := decide (a = b)
def eqNodes (a b : List NodeD) : Bool := decide (a = b)
def eqNet (a b : NetD) : Bool := decide (a = b)
theorem beq_dec (a b : List Int) : (a == b) = decide (a = b) := by
  rw [Bool.eq_iff_iff]; simp
theorem enters_shEq : ∀ args w, (callFunc 45 args).run Try.prog w = .ok (.enter 45 args) w := enters Try.func45 (by kernel_rfl) rfl
set_option maxRecDepth 20000 in
set_option maxHeartbeats 8000000 in
theorem eqf_shapes (A A' : Option Addr) (c c' : Nat) (ss ts : List (List Int)) (w : World) (hl : ss.length ≤ 1048576) (hl' : ts.length ≤ 1048576) (hs : ∀ s ∈ ss, s.length ≤ 1048576) (ht : ∀ s ∈ ts, s.length ≤ 1048576) (hS : Shps w A ss) (hT : Shps w A' ts) :
    Calls Try.prog 66 #[.slice A ss.length c, .slice A' ts.length c', .func (.func 45) #[] #[]] w fun e w' => e = .returned (.bool (eqSs ss ts)) ∧ ∃ q, w' = w.drewN q := by
  have eg := enters_shEq
  by_cases hlen : ss.length = ts.length
  · have hlen2 : ts.length = ss.length := hlen.symm
    rw [hlen2]
    have HS := Lib.hid hS
    have HT := Lib.hid hT
    have Hs := Lib.hid hs
    have Ht := Lib.hid ht
    have Hlen := Lib.hid hlen
    have Hlen2 := Lib.hid hlen2
    clear hS hT hs ht hlen hlen2
    go_enter Try.func66, Try.ntmps66
    go_wp2_with fail
    go_loopw [17] (fun i wr => ∃ k q : Nat, k ≤ ss.length ∧ i = .int .i64 k ∧ ss.take k = ts.take k ∧ wr = w.drewN q) (fun i _ => ss.length - (intOf i).toNat)
    case atStart => exact ⟨0, 0, Nat.zero_le _, rfl, rfl, rfl⟩
    case round =>
      obtain ⟨k, q, hk, rfl, htk, rfl⟩ := hrel
      by_cases hlt : k < ss.length
      · have hlt2 : k < ts.length := by have := Hlen.out; omega
        obtain ⟨b, off, S, sc, rfl, -, hc, hI, -⟩ := HS.out k hlt
        obtain ⟨b', off', T, tc, rfl, -, hc', hI', -⟩ := HT.out k hlt2
        have l1 := Hs.out _ (List.getElem_mem hlt)
        have l2 := Ht.out _ (List.getElem_mem hlt2)
        have hnx : ss[k] = ts[k] → ss.take (k + 1) = ts.take (k + 1) := fun e => by rw [List.take_succ_eq_append_getElem hlt, List.take_succ_eq_append_getElem hlt2, htk, e]
        have hno : ss[k] ≠ ts[k] → eqSs ss ts = false := fun e => by unfold eqSs; simp; intro h; subst h; exact e rfl
        generalize ss[k] = x at *
        generalize ts[k] = y at *
        have hcall := shape_equal S T sc tc x y (w.drewN q) (by omega) (by omega) (hI.drewN q) (hI'.drewN q)
        rw [beq_dec] at hcall
        have HI := Lib.hid hI
        have HI' := Lib.hid hI'
        have Hnx := Lib.hid hnx
        have Hno := Lib.hid hno
        have Htk := Lib.hid htk
        have Hcall := Lib.hid hcall
        clear hI hI' hnx hno htk hcall
        go_wp2_with fail
        refine (Hcall.out).mono ?_
        rintro e w1 ⟨rfl, q2, rfl⟩
        by_cases hxy : x = y
        · have HX := Lib.hid (Hnx.out hxy)
          rw [decide_eq_true hxy]
          clear hxy
          go_wp2_with fail
          go_roundw
          case rel => exact ⟨k + 1, _, by omega, by go_num, HX.out, by first | rfl | exact World.drewN_drewN _ _ _⟩
          case measure => simp [intOf]; omega
        · have HX := Lib.hid (Hno.out hxy)
          rw [decide_eq_false hxy]
          clear hxy
          go_wp2_with fail
          go_ret
          exact ⟨by rw [HX.out]; rfl, _, by first | rfl | exact World.drewN_drewN _ _ _⟩
      · obtain rfl : k = ss.length := by omega
        have HX := Lib.hid (show eqSs ss ts = true by
          rw [List.take_length] at htk
          unfold eqSs
          rw [htk, Hlen.out, List.take_length]; simp)
        clear htk
        go_wp2_with fail
        go_ret
        exact ⟨by rw [HX.out]; rfl, _, rfl⟩
  · have HX := Lib.hid (show eqSs ss ts = false by unfold eqSs; simp; intro h; exact hlen (by rw [h]))
    have e1 : ((ss.length : Int) != (ts.length : Int)) = true := by rw [bne_iff_ne]; omega
    have e2 : (ss.length != ts.length) = true := by rw [bne_iff_ne]; omega
    have HS := Lib.hid hS
    have HT := Lib.hid hT
    have Hs := Lib.hid hs
    have Ht := Lib.hid ht
    have Hlen := Lib.hid hlen
    clear hS hT hs ht hlen
    go_enter Try.func66, Try.ntmps66
    go_wp2_with fail
    go_ret
    exact ⟨by rw [HX.out]; rfl, 0, rfl⟩
theorem equal_ints (A A' : Option Addr) (c c' : Nat) (xs ys : List Int) (w : World) (hl : xs.length ≤ 1048576) (hl' : ys.length ≤ 1048576) (hI : Ints .i64 w A xs) (hI' : Ints .i64 w A' ys) :
    Calls Try.prog 65 #[.slice A xs.length c, .slice A' ys.length c'] w fun e w' => e = .returned (.bool (decide (xs = ys))) ∧ ∃ q, w' = w.drewN q := by
  by_cases h : xs = []
  · subst h
    refine (Try.slices_Equal_int_empty A A' c ys.length c' w (by omega)).mono ?_
    rintro e w' ⟨rfl, rfl⟩
    refine ⟨ret_bool ?_, 0, rfl⟩
    rw [Bool.eq_iff_iff]
    simp
  · obtain ⟨b, off, rfl, -, -⟩ := hI 0 (List.length_pos_iff.2 h)
    by_cases h2 : ys = []
    · subst h2
      refine (Try.slices_Equal_int_lens _ A' xs.length c 0 c' w (by intro q; exact h (List.eq_nil_of_length_eq_zero q))).mono ?_
      rintro e w' ⟨rfl, rfl⟩
      exact ⟨ret_bool (by simp [h]), 0, rfl⟩
    · obtain ⟨b', off', rfl, -, -⟩ := hI' 0 (List.length_pos_iff.2 h2)
      refine (Try.slices_Equal_int b off xs.length c b' off' ys.length c' xs ys w (Nat.le_refl _) (Nat.le_refl _) (by omega) (by omega) (fun j hj => ?_) (fun j hj => ?_)).mono ?_
      · obtain ⟨b1, o1, e, -, hc⟩ := hI j hj
        injection e with e; injection e with e1 e2; subst e1 e2
        exact hc
      · obtain ⟨b1, o1, e, -, hc⟩ := hI' j hj
        injection e with e; injection e with e1 e2; subst e1 e2
        exact hc
      · rintro e w' ⟨rfl, q, rfl⟩
        rw [List.take_length, List.take_length]
        exact ⟨ret_bool (beq_dec xs ys), q, rfl⟩
theorem node_split (v u : NodeD) : eqNode v u = (decide (v.op = u.op) && decide (v.ins = u.ins) && eqSs v.p u.p) := by
  obtain ⟨a, b, c⟩ := v
  obtain ⟨d, e, f⟩ := u
  unfold eqNode eqSs
  rw [Bool.eq_iff_iff]
  simp [and_assoc]
set_option maxRecDepth 20000 in
set_option maxHeartbeats 8000000 in
theorem node_equal (v u : NodeD) (S J Q S' J' Q' : Option Addr) (sc ic qc sc' ic' qc' : Nat) (w : World) (hv : v.ok) (hu : u.ok) (h1 : Ints .i64 w S v.op.s) (h2 : Ints .i64 w J v.ins) (h3 : Shps w Q v.p) (h1' : Ints .i64 w S' u.op.s) (h2' : Ints .i64 w J' u.ins) (h3' : Shps w Q' u.p) :
    Calls Try.prog 47 #[.agg #[.int .i64 v.op.kind, .int .i64 v.op.k, .int .i64 v.op.width, .int .i64 v.op.step, .int .i64 v.op.side, .int .i64 v.op.frm, .int .i64 v.op.to, .slice S v.op.s.length sc, .slice J v.ins.length ic, .slice Q v.p.length qc], .agg #[.int .i64 u.op.kind, .int .i64 u.op.k, .int .i64 u.op.width, .int .i64 u.op.step, .int .i64 u.op.side, .int .i64 u.op.frm, .int .i64 u.op.to, .slice S' u.op.s.length sc', .slice J' u.ins.length ic', .slice Q' u.p.length qc']] w fun e w' => e = .returned (.bool (eqNode v u)) ∧ Below w.heap.size w w' := by
  have hsp := node_split v u
  have hb0 := below2 w (.cells #[.int .i64 v.op.kind, .int .i64 v.op.k, .int .i64 v.op.width, .int .i64 v.op.step, .int .i64 v.op.side, .int .i64 v.op.frm, .int .i64 v.op.to, .slice S v.op.s.length sc, .slice J v.ins.length ic, .slice Q v.p.length qc] 46) (.cells #[.int .i64 u.op.kind, .int .i64 u.op.k, .int .i64 u.op.width, .int .i64 u.op.step, .int .i64 u.op.side, .int .i64 u.op.frm, .int .i64 u.op.to, .slice S' u.op.s.length sc', .slice J' u.ins.length ic', .slice Q' u.p.length qc'] 46)
  have hk1 := (Blk.new w 46 #[.int .i64 v.op.kind, .int .i64 v.op.k, .int .i64 v.op.width, .int .i64 v.op.step, .int .i64 v.op.side, .int .i64 v.op.frm, .int .i64 v.op.to, .slice S v.op.s.length sc, .slice J v.ins.length ic, .slice Q v.p.length qc]).alloc (.cells #[.int .i64 u.op.kind, .int .i64 u.op.k, .int .i64 u.op.width, .int .i64 u.op.step, .int .i64 u.op.side, .int .i64 u.op.frm, .int .i64 u.op.to, .slice S' u.op.s.length sc', .slice J' u.ins.length ic', .slice Q' u.p.length qc'] 46)
  have hk2 := Blk.new (w.alloc (.cells #[.int .i64 v.op.kind, .int .i64 v.op.k, .int .i64 v.op.width, .int .i64 v.op.step, .int .i64 v.op.side, .int .i64 v.op.frm, .int .i64 v.op.to, .slice S v.op.s.length sc, .slice J v.ins.length ic, .slice Q v.p.length qc] 46)) 46 #[.int .i64 u.op.kind, .int .i64 u.op.k, .int .i64 u.op.width, .int .i64 u.op.step, .int .i64 u.op.side, .int .i64 u.op.frm, .int .i64 u.op.to, .slice S' u.op.s.length sc', .slice J' u.ins.length ic', .slice Q' u.p.length qc']
  rw [World.size_alloc] at hk2
  have ho1 := hv.2.1
  have ho2 := hu.2.1
  have hi1 := hv.2.2.1
  have hi2 := hu.2.2.1
  have hp1 := hv.2.2.2.1
  have hp2 := hu.2.2.2.1
  have q1 := h1.below hb0 (Nat.le_refl _)
  have q1' := h1'.below hb0 (Nat.le_refl _)
  have Hsp := Lib.hid hsp
  have Hv := Lib.hid hv
  have Hu := Lib.hid hu
  have H1 := Lib.hid h1
  have H2 := Lib.hid h2
  have H3 := Lib.hid h3
  have H1' := Lib.hid h1'
  have H2' := Lib.hid h2'
  have H3' := Lib.hid h3'
  have Hk1 := Lib.hid hk1
  have Hk2 := Lib.hid hk2
  have Hq1 := Lib.hid q1
  have Hq1' := Lib.hid q1'
  clear hsp hv hu h1 h2 h3 h1' h2' h3' hk1 hk2 q1 q1'
  go_enter Try.func47, Try.ntmps47
  go_wp2_with fail
  generalize (w.alloc (.cells #[.int .i64 v.op.kind, .int .i64 v.op.k, .int .i64 v.op.width, .int .i64 v.op.step, .int .i64 v.op.side, .int .i64 v.op.frm, .int .i64 v.op.to, .slice S v.op.s.length sc, .slice J v.ins.length ic, .slice Q v.p.length qc] 46)).alloc (.cells #[.int .i64 u.op.kind, .int .i64 u.op.k, .int .i64 u.op.width, .int .i64 u.op.step, .int .i64 u.op.side, .int .i64 u.op.frm, .int .i64 u.op.to, .slice S' u.op.s.length sc', .slice J' u.ins.length ic', .slice Q' u.p.length qc'] 46) = w1 at *
  refine (op_equal v.op u.op S S' sc sc' _ (by omega) (by omega) Hq1.out Hq1'.out).mono ?_
  rintro e w2 ⟨rfl, hb2⟩
  have hbw2 := hb0.trans (hb2.mono hb0.size)
  have hl1 := Hk1.out.lt
  have hl2 := Hk2.out.lt
  obtain ⟨-, -, -, -, -, -, -, -, y8, y9⟩ := node_cells10 (Hk1.out.below hb2 hl1)
  obtain ⟨-, -, -, -, -, -, -, -, z8, z9⟩ := node_cells10 (Hk2.out.below hb2 hl2)
  by_cases a1 : v.op = u.op
  rotate_left
  · have HN := Lib.hid (show eqNode v u = false by rw [Hsp.out, decide_eq_false a1]; simp)
    rw [decide_eq_false a1]
    clear a1
    go_wp2_with fail
    go_ret
    exact ⟨by rw [HN.out]; rfl, hbw2⟩
  · have ha := Hsp.out
    rw [decide_eq_true a1, Bool.true_and] at ha
    rw [decide_eq_true a1]
    clear a1
    have Ha := Lib.hid ha
    clear ha
    go_wp2_with fail
    refine (equal_ints J J' ic ic' v.ins u.ins _ hi1 hi2 (H2.out.below hbw2 (Nat.le_refl _)) (H2'.out.below hbw2 (Nat.le_refl _))).mono ?_
    rintro e w3 ⟨rfl, q3, rfl⟩
    by_cases a2 : v.ins = u.ins
    rotate_left
    · have HN := Lib.hid (show eqNode v u = false by rw [Ha.out, decide_eq_false a2]; simp)
      rw [decide_eq_false a2]
      clear a2
      go_wp2_with fail
      go_ret
      exact ⟨by rw [HN.out]; rfl, Bdrawn hbw2 _⟩
    · have ha2 := Ha.out
      rw [decide_eq_true a2, Bool.true_and] at ha2
      rw [decide_eq_true a2]
      clear a2
      have Ha2 := Lib.hid ha2
      clear ha2
      go_wp2_with fail
      refine (eqf_shapes Q Q' qc qc' v.p u.p _ hp1 hp2 Hv.out.2.2.2.2.1 Hu.out.2.2.2.2.1 ((H3.out.below hbw2 (Nat.le_refl _)).drewN q3) ((H3'.out.below hbw2 (Nat.le_refl _)).drewN q3)).mono ?_
      rintro e w4 ⟨rfl, q4, rfl⟩
      go_wp2_with fail
      go_ret
      exact ⟨by rw [Ha2.out]; rfl, by first | exact Bdrawn2 hbw2 _ _ | exact Bdrawn hbw2 _⟩
theorem enters_nodeEq : ∀ args w, (callFunc 47 args).run Try.prog w = .ok (.enter 47 args) w := enters Try.func47 (by kernel_rfl) rfl
set_option maxRecDepth 20000 in
set_option maxHeartbeats 8000000 in
theorem eqf_nodes (A A' : Option Addr) (c c' : Nat) (ss ts : List NodeD) (w : World) (hl : ss.length ≤ 1048576) (hl' : ts.length ≤ 1048576) (hs : ∀ s ∈ ss, s.ok) (ht : ∀ s ∈ ts, s.ok) (hS : Nodes w A ss) (hT : Nodes w A' ts) :
    Calls Try.prog 46 #[.slice A ss.length c, .slice A' ts.length c', .func (.func 47) #[] #[]] w fun e w' => e = .returned (.bool (eqNodes ss ts)) ∧ Below w.heap.size w w' := by
  have eg := enters_nodeEq
  by_cases hlen : ss.length = ts.length
  · have hlen2 : ts.length = ss.length := hlen.symm
    rw [hlen2]
    have HS := Lib.hid hS
    have HT := Lib.hid hT
    have Hs := Lib.hid hs
    have Ht := Lib.hid ht
    have Hlen := Lib.hid hlen
    have Hlen2 := Lib.hid hlen2
    clear hS hT hs ht hlen hlen2
    go_enter Try.func46, Try.ntmps46
    go_wp2_with fail
    go_loopw [17] (fun i wr => ∃ k : Nat, k ≤ ss.length ∧ i = .int .i64 k ∧ ss.take k = ts.take k ∧ Below w.heap.size w wr) (fun i _ => ss.length - (intOf i).toNat)
    case atStart => exact ⟨0, Nat.zero_le _, rfl, rfl, Below.refl _ _⟩
    case round =>
      obtain ⟨k, hk, rfl, htk, hbw⟩ := hrel
      by_cases hlt : k < ss.length
      · have hlt2 : k < ts.length := by have := Hlen.out; omega
        obtain ⟨b, off, S, sc, J, ic, Q, qc, rfl, hNA, -, -, -⟩ := HS.out.at_ hlt
        obtain ⟨b', off', S', sc', J', ic', Q', qc', rfl, hNB, -, -, -⟩ := HT.out.at_ hlt2
        have l1 := Hs.out _ (List.getElem_mem hlt)
        have l2 := Ht.out _ (List.getElem_mem hlt2)
        have hnx : ss[k] = ts[k] → ss.take (k + 1) = ts.take (k + 1) := fun e => by rw [List.take_succ_eq_append_getElem hlt, List.take_succ_eq_append_getElem hlt2, htk, e]
        have hno : ss[k] ≠ ts[k] → eqNodes ss ts = false := fun e => by unfold eqNodes; simp; intro h; subst h; exact e rfl
        generalize ss[k] = v at *
        generalize ts[k] = u at *
        obtain ⟨⟨y0, y1, y2, y3, y4, y5, y6, y7, y8, y9⟩, -⟩ := hNA.below hbw
        obtain ⟨⟨z0, z1, z2, z3, z4, z5, z6, z7, z8, z9⟩, -⟩ := hNB.below (hbw.alloc hbw.size (.cells #[.int .i64 v.op.kind, .int .i64 v.op.k, .int .i64 v.op.width, .int .i64 v.op.step, .int .i64 v.op.side, .int .i64 v.op.frm, .int .i64 v.op.to, .slice S v.op.s.length sc, .slice J v.ins.length ic, .slice Q v.p.length qc] 46))
        have hb2 : Below wr.heap.size wr _ := below2 wr (.cells #[.int .i64 v.op.kind, .int .i64 v.op.k, .int .i64 v.op.width, .int .i64 v.op.step, .int .i64 v.op.side, .int .i64 v.op.frm, .int .i64 v.op.to, .slice S v.op.s.length sc, .slice J v.ins.length ic, .slice Q v.p.length qc] 46) (.cells #[.int .i64 u.op.kind, .int .i64 u.op.k, .int .i64 u.op.width, .int .i64 u.op.step, .int .i64 u.op.side, .int .i64 u.op.frm, .int .i64 u.op.to, .slice S' u.op.s.length sc', .slice J' u.ins.length ic', .slice Q' u.p.length qc'] 46)
        have hbw2 := hbw.trans (hb2.mono hbw.size)
        have hN1 := hNA.below hbw2
        have hN2 := hNB.below hbw2
        have k0 : (k : Int) < (ss.length : Int) := by omega
        have HNA := Lib.hid hNA
        have HNB := Lib.hid hNB
        have Hnx := Lib.hid hnx
        have Hno := Lib.hid hno
        have Htk := Lib.hid htk
        have Hl1 := Lib.hid l1
        have Hl2 := Lib.hid l2
        have HN1 := Lib.hid hN1
        have HN2 := Lib.hid hN2
        clear hNA hNB hnx hno htk l1 l2 hN1 hN2
        go_wp2_with fail
        clear y0 y1 y2 y3 y4 y5 y6 y7 y8 y9 z0 z1 z2 z3 z4 z5 z6 z7 z8 z9
        generalize (wr.alloc (.cells #[.int .i64 v.op.kind, .int .i64 v.op.k, .int .i64 v.op.width, .int .i64 v.op.step, .int .i64 v.op.side, .int .i64 v.op.frm, .int .i64 v.op.to, .slice S v.op.s.length sc, .slice J v.ins.length ic, .slice Q v.p.length qc] 46)).alloc (.cells #[.int .i64 u.op.kind, .int .i64 u.op.k, .int .i64 u.op.width, .int .i64 u.op.step, .int .i64 u.op.side, .int .i64 u.op.frm, .int .i64 u.op.to, .slice S' u.op.s.length sc', .slice J' u.ins.length ic', .slice Q' u.p.length qc'] 46) = w2 at *
        refine (node_equal v u S J Q S' J' Q' sc ic qc sc' ic' qc' _ Hl1.out Hl2.out HN1.out.2.1 HN1.out.2.2.1 HN1.out.2.2.2 HN2.out.2.1 HN2.out.2.2.1 HN2.out.2.2.2).mono ?_
        rintro e w3 ⟨rfl, hb3⟩
        have hbw3 := hbw2.trans (hb3.mono hbw2.size)
        by_cases hxy : v = u
        · have HX := Lib.hid (Hnx.out hxy)
          rw [show eqNode v u = true from decide_eq_true hxy]
          clear hxy
          go_wp2_with fail
          go_roundw
          case rel => exact ⟨k + 1, by omega, by go_num, HX.out, hbw3⟩
          case measure => simp [intOf]; omega
        · have HX := Lib.hid (Hno.out hxy)
          rw [show eqNode v u = false from decide_eq_false hxy]
          clear hxy
          go_wp2_with fail
          go_ret
          exact ⟨by rw [HX.out]; rfl, hbw3⟩
      · obtain rfl : k = ss.length := by omega
        have HX := Lib.hid (show eqNodes ss ts = true by
          rw [List.take_length] at htk
          unfold eqNodes
          rw [htk, Hlen.out, List.take_length]; simp)
        clear htk
        go_wp2_with fail
        go_ret
        exact ⟨by rw [HX.out]; rfl, hbw⟩
  · have HX := Lib.hid (show eqNodes ss ts = false by unfold eqNodes; simp; intro h; exact hlen (by rw [h]))
    have e1 : ((ss.length : Int) != (ts.length : Int)) = true := by rw [bne_iff_ne]; omega
    have e2 : (ss.length != ts.length) = true := by rw [bne_iff_ne]; omega
    have HS := Lib.hid hS
    have HT := Lib.hid hT
    have Hs := Lib.hid hs
    have Ht := Lib.hid ht
    have Hlen := Lib.hid hlen
    clear hS hT hs ht hlen
    go_enter Try.func46, Try.ntmps46
    go_wp2_with fail
    go_ret
    exact ⟨by rw [HX.out]; rfl, Below.refl _ _⟩
theorem net_split (n m : NetD) : eqNet n m = (decide (n.inn = m.inn) && eqNodes n.nodes m.nodes) := by
  obtain ⟨a, b⟩ := n
  obtain ⟨c, d⟩ := m
  unfold eqNet eqNodes
  rw [Bool.eq_iff_iff]
  simp
set_option maxRecDepth 20000 in
set_option maxHeartbeats 8000000 in
theorem net_equal (A N A' N' : Option Addr) (c d c' d' : Nat) (n m : NetD) (w : World) (hok : n.ok) (hok' : m.ok) (hR : NetR w A N n) (hR' : NetR w A' N' m) :
    Calls Try.prog 18 #[.agg #[.slice A n.inn.length c, .slice N n.nodes.length d], .agg #[.slice A' m.inn.length c', .slice N' m.nodes.length d']] w fun e w' => e = .returned (.bool (eqNet n m)) ∧ Below w.heap.size w w' := by
  have hb0 := below2 w (.cells #[.slice A n.inn.length c, .slice N n.nodes.length d] 26) (.cells #[.slice A' m.inn.length c', .slice N' m.nodes.length d'] 26)
  have hk1 := (Blk.new w 26 #[.slice A n.inn.length c, .slice N n.nodes.length d]).alloc (.cells #[.slice A' m.inn.length c', .slice N' m.nodes.length d'] 26)
  have hk2 := Blk.new (w.alloc (.cells #[.slice A n.inn.length c, .slice N n.nodes.length d] 26)) 26 #[.slice A' m.inn.length c', .slice N' m.nodes.length d']
  rw [World.size_alloc] at hk2
  have hsp := net_split n m
  have l1 := hok.1
  have l2 := hok'.1
  have l3 := hok.2.1
  have l4 := hok'.2.1
  have x1 : ((w.alloc (.cells #[.slice A n.inn.length c, .slice N n.nodes.length d] 26)).alloc (.cells #[.slice A' m.inn.length c', .slice N' m.nodes.length d'] 26)).cell? ⟨w.heap.size, 1, none⟩ = some (.slice N n.nodes.length d) := by rw [hk1.cell]; rfl
  have x2 : ((w.alloc (.cells #[.slice A n.inn.length c, .slice N n.nodes.length d] 26)).alloc (.cells #[.slice A' m.inn.length c', .slice N' m.nodes.length d'] 26)).cell? ⟨w.heap.size + 1, 1, none⟩ = some (.slice N' m.nodes.length d') := by rw [hk2.cell]; rfl
  have hR1 := hR.below hb0 (Nat.le_refl _)
  have hR2 := hR'.below hb0 (Nat.le_refl _)
  have Hok := Lib.hid hok
  have Hok' := Lib.hid hok'
  have HR := Lib.hid hR
  have HR' := Lib.hid hR'
  have Hsp := Lib.hid hsp
  have HR1 := Lib.hid hR1
  have HR2 := Lib.hid hR2
  have Hk1 := Lib.hid hk1
  have Hk2 := Lib.hid hk2
  clear hok hok' hR hR' hsp hR1 hR2 hk1 hk2
  go_enter Try.func18, Try.ntmps18
  go_wp2_with fail
  generalize (w.alloc (.cells #[.slice A n.inn.length c, .slice N n.nodes.length d] 26)).alloc (.cells #[.slice A' m.inn.length c', .slice N' m.nodes.length d'] 26) = w1 at *
  have hcall := shape_equal A A' c c' n.inn m.inn w1 (by omega) (by omega) HR1.out.1 HR2.out.1
  rw [beq_dec] at hcall
  have Hcall := Lib.hid hcall
  clear hcall
  refine (Hcall.out).mono ?_
  rintro e w2 ⟨rfl, q, rfl⟩
  by_cases a1 : n.inn = m.inn
  rotate_left
  · have HN := Lib.hid (show eqNet n m = false by rw [Hsp.out, decide_eq_false a1]; rfl)
    rw [decide_eq_false a1]
    clear a1
    go_wp2_with fail
    go_ret
    exact ⟨by rw [HN.out]; rfl, Bdrawn hb0 _⟩
  · have ha := Hsp.out
    rw [decide_eq_true a1, Bool.true_and] at ha
    rw [decide_eq_true a1]
    clear a1
    have Ha := Lib.hid ha
    clear ha
    go_wp2_with fail
    refine (eqf_nodes N N' d d' n.nodes m.nodes _ l3 l4 Hok.out.2.2 Hok'.out.2.2 (by exact HR1.out.2) (by exact HR2.out.2)).mono ?_
    rintro e w4 ⟨rfl, hb4⟩
    go_wp2_with fail
    go_ret
    exact ⟨by rw [Ha.out]; rfl, (Bdrawn hb0 q).trans (hb4.mono hb0.size)⟩
end Go.Proofs.Ytjkhpbngpceenaa
/- Layer 11's statements: the fixed answer. -/
namespace Go.Proofs.Ytjkhpbngpceenaa
open Go.RowKit
def an0 : NetD := ⟨[2], [⟨⟨12, 0, 2, 1, 0, 0, 0, []⟩, [2], []⟩, ⟨⟨1, 0, 0, 0, 0, 0, 0, []⟩, [0], []⟩]⟩
def an1 : NetD := ⟨[2], [⟨⟨12, 0, 2, 1, 0, 0, 0, []⟩, [2], []⟩, ⟨⟨1, 0, 0, 0, 0, 0, 0, []⟩, [1], []⟩]⟩
theorem an0_check : Nt.check an0 = 0 := by decide +kernel
theorem an0_sorted : Nt.sorted an0.nodes = [2, 1] := by decide +kernel
theorem an0_loss : lossE an0 = 1 := by decide +kernel
theorem an0_chain : Nt.chain an0 = true := by decide +kernel
theorem an1_check : Nt.check an1 = 22 := by decide +kernel
theorem an0_ne : eqNet an0 an1 = false := by decide +kernel
theorem an0_users : Nt.users an0 0 = [2] := by decide +kernel
theorem an0_ok : an0.ok := by
  refine ⟨by decide, by decide, fun v hv => ?_⟩
  simp [an0] at hv
  rcases hv with rfl | rfl <;> exact ⟨by intro z hz; simp at hz; omega, by decide, by decide, by decide, by simp, by intro z hz; simp at hz; omega⟩
theorem an1_ok : an1.ok := by
  refine ⟨by decide, by decide, fun v hv => ?_⟩
  simp [an1] at hv
  rcases hv with rfl | rfl <;> exact ⟨by intro z hz; simp at hz; omega, by decide, by decide, by decide, by simp, by intro z hz; simp at hz; omega⟩
theorem Blk.ints1 {w : World} {g : Nat} {t : TypeId} {x : Int} (h : Blk w g t #[.int .i64 x]) : Ints .i64 w (some ⟨g, 0, none⟩) [x] := Ints.of_row fun j hj => by
  obtain rfl : j = 0 := by simpa using hj
  rw [h.cell]; rfl
/-- The fixed net, in memory. -/
theorem an0_net {W : World} {p q r g : Nat} (hp : Blk W p 3 #[.int .i64 2]) (hq : Blk W q 3 #[.int .i64 2]) (hr : Blk W r 3 #[.int .i64 0])
    (hg : Blk W g 46 #[.int .i64 12, .int .i64 0, .int .i64 2, .int .i64 1, .int .i64 0, .int .i64 0, .int .i64 0, .slice none 0 0, .slice (some ⟨q, 0, none⟩) 1 1, .slice none 0 0, .int .i64 1, .int .i64 0, .int .i64 0, .int .i64 0, .int .i64 0, .int .i64 0, .int .i64 0, .slice none 0 0, .slice (some ⟨r, 0, none⟩) 1 1, .slice none 0 0]) :
    NetR W (some ⟨p, 0, none⟩) (some ⟨g, 0, none⟩) an0 := by
  refine ⟨hp.ints1, fun j hj => ?_⟩
  have hj2 : j = 0 ∨ j = 1 := by simp [an0] at hj; omega
  rcases hj2 with rfl | rfl
  · exact ⟨g, 0, none, 0, some ⟨q, 0, none⟩, 1, none, 0, rfl, hg.lt, hg.cell 0, hg.cell 1, hg.cell 2, hg.cell 3, hg.cell 4, hg.cell 5, hg.cell 6, hg.cell 7, hg.cell 8, hg.cell 9, ⟨Ints.nil, by simp [an0], by omega⟩, ⟨hq.ints1, by simp [an0], by omega⟩, Shps.nil, by simp [an0], by omega⟩
  · exact ⟨g, 0, none, 0, some ⟨r, 0, none⟩, 1, none, 0, rfl, hg.lt, hg.cell 10, hg.cell 11, hg.cell 12, hg.cell 13, hg.cell 14, hg.cell 15, hg.cell 16, hg.cell 17, hg.cell 18, hg.cell 19, ⟨Ints.nil, by simp [an0], by omega⟩, ⟨hr.ints1, by simp [an0], by omega⟩, Shps.nil, by simp [an0], by omega⟩
/-- The copy's second node is given other ins. -/
theorem cp_turn {B : Nat} {W : World} {g h : Nat} {zc : Array Value} (hc : CpRow B W g zc an0.nodes an0.nodes.length) (hh : Blk W h 3 #[.int .i64 1]) (hB : B ≤ h) :
    (∃ z, W.cell? ⟨g, 18, none⟩ = some z) ∧ W.frozen? ⟨g, 18, none⟩ = false ∧ Keep 46 W (W.setCell ⟨g, 18, none⟩ (.slice (some ⟨h, 0, none⟩) 1 1)) ∧ CpRow B (W.setCell ⟨g, 18, none⟩ (.slice (some ⟨h, 0, none⟩) 1 1)) g zc an1.nodes an1.nodes.length := by
  obtain ⟨L, l1, l2, l3, l4⟩ := hc
  match L, l2 with
  | [x, y], _ =>
    have e1 : x.v = ⟨⟨12, 0, 2, 1, 0, 0, 0, []⟩, [2], []⟩ := by simpa [an0] using congrArg List.head? l1
    have e2 : y.v = ⟨⟨1, 0, 0, 0, 0, 0, 0, []⟩, [0], []⟩ := by
      have := congrArg (fun l => l[1]?) l1
      simpa [an0] using this
    have hk : Keep 46 W (W.setCell ⟨g, 18, none⟩ (.slice (some ⟨h, 0, none⟩) 1 1)) := Keep.set_ l3 18 _
    obtain ⟨x1, x2, x3, x4⟩ := (l4 x (by simp)).keep (by decide) (by decide) hk
    obtain ⟨y1, y2, y3, y4⟩ := (l4 y (by simp)).keep (by decide) (by decide) hk
    refine ⟨⟨_, by rw [l3.cell]; rfl⟩, l3.frozen 18, hk, [x, ⟨⟨y.v.op, [1], y.v.p⟩, y.S, some ⟨h, 0, none⟩, 1, y.Q⟩], by simp [e1, e2, an1], rfl, l3.set_ 18 _, fun z hz => ?_⟩
    simp at hz
    rcases hz with rfl | rfl
    · exact ⟨x1, x2, x3, x4⟩
    · refine ⟨y1, y2, ⟨rfl, .inr ⟨h, 1, _, rfl, hB, hh.keep (T := 46) (by decide) hk, by simp, by decide, rfl, rfl⟩⟩, y4⟩
theorem cp_cell {B : Nat} {W : World} {g : Nat} {zc : Array Value} (hc : CpRow B W g zc an0.nodes an0.nodes.length) : (∃ z, W.cell? ⟨g, 18, none⟩ = some z) ∧ W.frozen? ⟨g, 18, none⟩ = false := by
  obtain ⟨L, l1, l2, l3, l4⟩ := hc
  match L, l2 with
  | [x, y], _ => exact ⟨⟨_, by rw [l3.cell]; rfl⟩, l3.frozen 18⟩
theorem an1_net {B : Nat} {W : World} {a g : Nat} {zc : Array Value} (ha : Blk W a 3 (an0.inn.map (Value.int .i64)).toArray) (hc : CpRow B W g zc an1.nodes an1.nodes.length) : NetR W (some ⟨a, 0, none⟩) (some ⟨g, 0, none⟩) an1 :=
  ⟨ha.ints1, hc.nodes fun v hv => (an1_ok.2.2 v hv).2.1 |> fun h => ⟨h, (an1_ok.2.2 v hv).2.2.2.1, (an1_ok.2.2 v hv).2.2.2.2.1⟩⟩
theorem an_start (w : World) : NetR (((((w.alloc (.cells #[.int .i64 2] 3)).alloc (.cells #[.int .i64 2] 3)).alloc (.cells #[.int .i64 0] 3)).alloc (.cells #[.int .i64 12, .int .i64 0, .int .i64 2, .int .i64 1, .int .i64 0, .int .i64 0, .int .i64 0, .slice none 0 0, .slice (some ⟨w.heap.size + 1, 0, none⟩) 1 1, .slice none 0 0, .int .i64 1, .int .i64 0, .int .i64 0, .int .i64 0, .int .i64 0, .int .i64 0, .int .i64 0, .slice none 0 0, .slice (some ⟨w.heap.size + 1 + 1, 0, none⟩) 1 1, .slice none 0 0] 46)).alloc (.cells #[.slice (some ⟨w.heap.size, 0, none⟩) 1 1, .slice (some ⟨w.heap.size + 1 + 1 + 1, 0, none⟩) 2 2] 26)) (some ⟨w.heap.size, 0, none⟩) (some ⟨w.heap.size + 1 + 1 + 1, 0, none⟩) an0 ∧ Blk (((((w.alloc (.cells #[.int .i64 2] 3)).alloc (.cells #[.int .i64 2] 3)).alloc (.cells #[.int .i64 0] 3)).alloc (.cells #[.int .i64 12, .int .i64 0, .int .i64 2, .int .i64 1, .int .i64 0, .int .i64 0, .int .i64 0, .slice none 0 0, .slice (some ⟨w.heap.size + 1, 0, none⟩) 1 1, .slice none 0 0, .int .i64 1, .int .i64 0, .int .i64 0, .int .i64 0, .int .i64 0, .int .i64 0, .int .i64 0, .slice none 0 0, .slice (some ⟨w.heap.size + 1 + 1, 0, none⟩) 1 1, .slice none 0 0] 46)).alloc (.cells #[.slice (some ⟨w.heap.size, 0, none⟩) 1 1, .slice (some ⟨w.heap.size + 1 + 1 + 1, 0, none⟩) 2 2] 26)) (w.heap.size + 1 + 1 + 1 + 1) 26 #[.slice (some ⟨w.heap.size, 0, none⟩) 1 1, .slice (some ⟨w.heap.size + 1 + 1 + 1, 0, none⟩) 2 2] ∧ Later w (((((w.alloc (.cells #[.int .i64 2] 3)).alloc (.cells #[.int .i64 2] 3)).alloc (.cells #[.int .i64 0] 3)).alloc (.cells #[.int .i64 12, .int .i64 0, .int .i64 2, .int .i64 1, .int .i64 0, .int .i64 0, .int .i64 0, .slice none 0 0, .slice (some ⟨w.heap.size + 1, 0, none⟩) 1 1, .slice none 0 0, .int .i64 1, .int .i64 0, .int .i64 0, .int .i64 0, .int .i64 0, .int .i64 0, .int .i64 0, .slice none 0 0, .slice (some ⟨w.heap.size + 1 + 1, 0, none⟩) 1 1, .slice none 0 0] 46)).alloc (.cells #[.slice (some ⟨w.heap.size, 0, none⟩) 1 1, .slice (some ⟨w.heap.size + 1 + 1 + 1, 0, none⟩) 2 2] 26)) := by
  have k0 := ((((Blk.new w 3 #[.int .i64 2]).alloc (.cells #[.int .i64 2] 3)).alloc (.cells #[.int .i64 0] 3)).alloc (.cells #[.int .i64 12, .int .i64 0, .int .i64 2, .int .i64 1, .int .i64 0, .int .i64 0, .int .i64 0, .slice none 0 0, .slice (some ⟨w.heap.size + 1, 0, none⟩) 1 1, .slice none 0 0, .int .i64 1, .int .i64 0, .int .i64 0, .int .i64 0, .int .i64 0, .int .i64 0, .int .i64 0, .slice none 0 0, .slice (some ⟨w.heap.size + 1 + 1, 0, none⟩) 1 1, .slice none 0 0] 46)).alloc (.cells #[.slice (some ⟨w.heap.size, 0, none⟩) 1 1, .slice (some ⟨w.heap.size + 1 + 1 + 1, 0, none⟩) 2 2] 26)
  have k1 := (((Blk.new (w.alloc (.cells #[.int .i64 2] 3)) 3 #[.int .i64 2]).alloc (.cells #[.int .i64 0] 3)).alloc (.cells #[.int .i64 12, .int .i64 0, .int .i64 2, .int .i64 1, .int .i64 0, .int .i64 0, .int .i64 0, .slice none 0 0, .slice (some ⟨w.heap.size + 1, 0, none⟩) 1 1, .slice none 0 0, .int .i64 1, .int .i64 0, .int .i64 0, .int .i64 0, .int .i64 0, .int .i64 0, .int .i64 0, .slice none 0 0, .slice (some ⟨w.heap.size + 1 + 1, 0, none⟩) 1 1, .slice none 0 0] 46)).alloc (.cells #[.slice (some ⟨w.heap.size, 0, none⟩) 1 1, .slice (some ⟨w.heap.size + 1 + 1 + 1, 0, none⟩) 2 2] 26)
  have k2 := ((Blk.new ((w.alloc (.cells #[.int .i64 2] 3)).alloc (.cells #[.int .i64 2] 3)) 3 #[.int .i64 0]).alloc (.cells #[.int .i64 12, .int .i64 0, .int .i64 2, .int .i64 1, .int .i64 0, .int .i64 0, .int .i64 0, .slice none 0 0, .slice (some ⟨w.heap.size + 1, 0, none⟩) 1 1, .slice none 0 0, .int .i64 1, .int .i64 0, .int .i64 0, .int .i64 0, .int .i64 0, .int .i64 0, .int .i64 0, .slice none 0 0, .slice (some ⟨w.heap.size + 1 + 1, 0, none⟩) 1 1, .slice none 0 0] 46)).alloc (.cells #[.slice (some ⟨w.heap.size, 0, none⟩) 1 1, .slice (some ⟨w.heap.size + 1 + 1 + 1, 0, none⟩) 2 2] 26)
  have k3 := (Blk.new (((w.alloc (.cells #[.int .i64 2] 3)).alloc (.cells #[.int .i64 2] 3)).alloc (.cells #[.int .i64 0] 3)) 46 #[.int .i64 12, .int .i64 0, .int .i64 2, .int .i64 1, .int .i64 0, .int .i64 0, .int .i64 0, .slice none 0 0, .slice (some ⟨w.heap.size + 1, 0, none⟩) 1 1, .slice none 0 0, .int .i64 1, .int .i64 0, .int .i64 0, .int .i64 0, .int .i64 0, .int .i64 0, .int .i64 0, .slice none 0 0, .slice (some ⟨w.heap.size + 1 + 1, 0, none⟩) 1 1, .slice none 0 0]).alloc (.cells #[.slice (some ⟨w.heap.size, 0, none⟩) 1 1, .slice (some ⟨w.heap.size + 1 + 1 + 1, 0, none⟩) 2 2] 26)
  have k4 := Blk.new ((((w.alloc (.cells #[.int .i64 2] 3)).alloc (.cells #[.int .i64 2] 3)).alloc (.cells #[.int .i64 0] 3)).alloc (.cells #[.int .i64 12, .int .i64 0, .int .i64 2, .int .i64 1, .int .i64 0, .int .i64 0, .int .i64 0, .slice none 0 0, .slice (some ⟨w.heap.size + 1, 0, none⟩) 1 1, .slice none 0 0, .int .i64 1, .int .i64 0, .int .i64 0, .int .i64 0, .int .i64 0, .int .i64 0, .int .i64 0, .slice none 0 0, .slice (some ⟨w.heap.size + 1 + 1, 0, none⟩) 1 1, .slice none 0 0] 46)) 26 #[.slice (some ⟨w.heap.size, 0, none⟩) 1 1, .slice (some ⟨w.heap.size + 1 + 1 + 1, 0, none⟩) 2 2]
  simp only [World.size_alloc] at k1 k2 k3 k4
  exact ⟨an0_net k0 k1 k2 k3, k4, (((((Later.refl w).alloc _).alloc _).alloc _).alloc _).alloc _⟩
set_option maxHeartbeats 4000000 in
set_option maxRecDepth 100000 in
theorem awake11 (w : World) : Calls Try.prog 10 #[] w fun e w' => e = .returned (.bool true) ∧ Below w.heap.size w w' := by
  obtain ⟨hR1, hk1, hl1⟩ := an_start w
  have HR1 := Lib.hid hR1
  have Hk1 := Lib.hid hk1
  have Hl1 := Lib.hid hl1
  clear hR1 hk1 hl1
  go_enter Try.func10, Try.ntmps10
  go_wp2_with fail
  generalize (((((w.alloc (.cells #[.int .i64 2] 3)).alloc (.cells #[.int .i64 2] 3)).alloc (.cells #[.int .i64 0] 3)).alloc (.cells #[.int .i64 12, .int .i64 0, .int .i64 2, .int .i64 1, .int .i64 0, .int .i64 0, .int .i64 0, .slice none 0 0, .slice (some ⟨w.heap.size + 1, 0, none⟩) 1 1, .slice none 0 0, .int .i64 1, .int .i64 0, .int .i64 0, .int .i64 0, .int .i64 0, .int .i64 0, .int .i64 0, .slice none 0 0, .slice (some ⟨w.heap.size + 1 + 1, 0, none⟩) 1 1, .slice none 0 0] 46)).alloc (.cells #[.slice (some ⟨w.heap.size, 0, none⟩) 1 1, .slice (some ⟨w.heap.size + 1 + 1 + 1, 0, none⟩) 2 2] 26)) = W1 at *
  obtain ⟨p, hp⟩ : ∃ p, p = w.heap.size := ⟨_, rfl⟩
  have hR1 := HR1.out
  have hk1 := Hk1.out
  have hl1 := Hl1.out
  generalize w.heap.size + 1 + 1 + 1 + 1 = b at *
  generalize w.heap.size + 1 + 1 + 1 = q at *
  rw [← hp] at *
  clear HR1 Hk1 Hl1
  have l1 := hk1.lt
  refine (net_order _ _ 1 2 an0 W1 an0_ok hR1 (by decide)).mono ?_
  rintro e W2 ⟨hb2, hq⟩
  rcases hq with ⟨_, O, oc, rfl, hO, -, -⟩ | ⟨hne, -⟩
  rotate_left
  · exact absurd an0_check hne
  rw [an0_sorted] at hO
  rw [show an0.nodes.length = 2 from rfl]
  have h12 : Later W1 W2 := hb2
  have c0 := (h12.blk hk1).cell 0
  have c1 := (h12.blk hk1).cell 1
  simp at c0 c1
  have HR1 := Lib.hid hR1
  have Hk1 := Lib.hid hk1
  have Hl1 := Lib.hid hl1
  have HO := Lib.hid hO
  have H12 := Lib.hid h12
  clear hR1 hk1 hl1 hO h12
  clear hb2
  go_wp2_with fail
  refine (net_loss _ _ 1 2 an0 W2 an0_ok (HR1.out.below H12.out (Nat.le_refl _)) (by decide)).mono ?_
  rintro e W3 ⟨rfl, hb3⟩
  rw [an0_loss, an0_check]
  have h13 : Later W1 W3 := H12.out.call hb3
  have c2 := (h13.blk Hk1.out).cell 0
  have c3 := (h13.blk Hk1.out).cell 1
  simp at c2 c3
  have hO3 := HO.out.below hb3 (Nat.le_refl _)
  have H13 := Lib.hid h13
  have HO3 := Lib.hid hO3
  clear h13 hO3
  clear hb3 c0 c1 HO
  go_wp2_with fail
  refine (net_copy _ _ 1 2 an0 W3 an0_ok (HR1.out.below H13.out (Nat.le_refl _))).mono ?_
  rintro e W4 ⟨⟨a, g, zc, rfl, ha, hg, hba, hcp⟩, hb4⟩
  rw [show an0.nodes.length = 2 from rfl, show an0.inn.length = 1 from rfl]
  have h14 : Later W1 W4 := H13.out.call hb4
  have hO4 := HO3.out.below hb4 (Nat.le_refl _)
  have s13 := H13.out.size
  have s4 := hb4.size
  have hg4 : g < W4.heap.size := by obtain ⟨_, _, _, h, _⟩ := hcp; exact h.lt
  have h6 : Later W4 ((W4.alloc (.cells #[.slice (some ⟨a, 0, none⟩) 1 1, .slice (some ⟨g, 0, none⟩) 2 2] 26)).alloc (.cells #[.int .i64 1] 3)) := ((Later.refl W4).alloc _).alloc _
  have hi6 := Blk.new (W4.alloc (.cells #[.slice (some ⟨a, 0, none⟩) 1 1, .slice (some ⟨g, 0, none⟩) 2 2] 26)) 3 #[.int .i64 1]
  rw [World.size_alloc] at hi6
  have hm6 := (Blk.new W4 26 #[.slice (some ⟨a, 0, none⟩) 1 1, .slice (some ⟨g, 0, none⟩) 2 2]).alloc (.cells #[.int .i64 1] 3)
  obtain ⟨⟨z, hz⟩, hfz⟩ := cp_cell hcp
  obtain ⟨-, -, hkp, hcp7⟩ := cp_turn (hcp.later h6) hi6 (by omega)
  have hba7 := (h6.blk hba).keep (by decide) hkp
  have hm7 := hm6.keep (by decide) hkp
  have h37 : Later W3 (((W4.alloc (.cells #[.slice (some ⟨a, 0, none⟩) 1 1, .slice (some ⟨g, 0, none⟩) 2 2] 26)).alloc (.cells #[.int .i64 1] 3)).setCell ⟨g, 18, none⟩ (.slice (some ⟨W4.heap.size + 1, 0, none⟩) 1 1)) := ((show Later W3 W4 from hb4).trans h6).set (p := ⟨g, 18, none⟩) hg _
  have hR7 := an1_net hba7 hcp7
  have hN7 := HR1.out.below (H13.out.trans h37) (Nat.le_refl _)
  have hO7 := HO3.out.below h37 (Nat.le_refl _)
  have hk7 := (H13.out.trans h37).blk Hk1.out
  have hl7 := (Hl1.out.trans H13.out).trans h37
  have cm0 := hm7.cell 0
  have cm1 := hm7.cell 1
  have cn0 := hk7.cell 0
  have cn1 := hk7.cell 1
  simp at cm0 cm1 cn0 cn1
  obtain ⟨bo, off, rfl, -, ho⟩ := hO7 0 (by simp)
  replace ho : (((W4.alloc (.cells #[.slice (some ⟨a, 0, none⟩) 1 1, .slice (some ⟨g, 0, none⟩) 2 2] 26)).alloc (.cells #[.int .i64 1] 3)).setCell ⟨g, 18, none⟩ (.slice (some ⟨W4.heap.size + 1, 0, none⟩) 1 1)).cell? ⟨bo, off, none⟩ = some (.int .i64 2) := ho
  have HR7 := Lib.hid hR7
  have HN7 := Lib.hid hN7
  have Hm7 := Lib.hid hm7
  have Hk7 := Lib.hid hk7
  have Hl7 := Lib.hid hl7
  have HO4 := Lib.hid hO4
  have HO7 := Lib.hid hO7
  have Hba7 := Lib.hid hba7
  have Hcp7 := Lib.hid hcp7
  have Hkp := Lib.hid hkp
  have H6 := Lib.hid h6
  have H14 := Lib.hid h14
  have H37 := Lib.hid h37
  have Hi6 := Lib.hid hi6
  have Hm6 := Lib.hid hm6
  have Hba := Lib.hid hba
  have Hcp := Lib.hid hcp
  have Hcm0 := Lib.hid cm0
  have Hcm1 := Lib.hid cm1
  have Hcn0 := Lib.hid cn0
  have Hcn1 := Lib.hid cn1
  have Ho := Lib.hid ho
  clear hR7 hN7 hm7 hk7 hl7 hO4 hO7 hba7 hcp7 hkp h6 h14 h37 hi6 hm6 hba hcp cm0 cm1 cn0 cn1 ho
  clear c2 c3
  go_upto_region 8 with fail
  have e7 : (((W4.setCell ⟨g, 18, none⟩ (.slice (some ⟨W4.heap.size + 1, 0, none⟩) 1 1)).alloc (.cells #[.slice (some ⟨a, 0, none⟩) 1 1, .slice (some ⟨g, 0, none⟩) 2 2] 26)).alloc (.cells #[.int .i64 1] 3)) = (((W4.alloc (.cells #[.slice (some ⟨a, 0, none⟩) 1 1, .slice (some ⟨g, 0, none⟩) 2 2] 26)).alloc (.cells #[.int .i64 1] 3)).setCell ⟨g, 18, none⟩ (.slice (some ⟨W4.heap.size + 1, 0, none⟩) 1 1)) := by rw [World.setCell_alloc_past _ _ _ _ (by simp; omega), World.setCell_alloc_past _ _ _ _ hg4]
  rw [e7]
  clear e7
  generalize (((W4.alloc (.cells #[.slice (some ⟨a, 0, none⟩) 1 1, .slice (some ⟨g, 0, none⟩) 2 2] 26)).alloc (.cells #[.int .i64 1] 3)).setCell ⟨g, 18, none⟩ (.slice (some ⟨W4.heap.size + 1, 0, none⟩) 1 1)) = W7 at *
  generalize W4.heap.size = bm at *
  have cm0 := Hcm0.out
  have cm1 := Hcm1.out
  have cn0 := Hcn0.out
  have cn1 := Hcn1.out
  have ho := Ho.out
  clear Hcm0 Hcm1 Hcn0 Hcn1 Ho
  go_wp2_with fail
  refine (net_chain _ _ 1 2 an0 W7 an0_ok HN7.out (by decide)).mono ?_
  rintro e W8 ⟨rfl, hb8⟩
  rw [an0_chain]
  have h78 : Later W7 W8 := hb8
  have d0 := h78.cell cm0
  have d1 := h78.cell cm1
  have e0 := h78.cell cn0
  have e1 := h78.cell cn1
  have H78 := Lib.hid h78
  clear h78
  clear cm0 cm1 cn0 cn1 ho hb8
  go_wp2_with fail
  refine (net_check _ _ 1 2 an1 W8 an1_ok (HR7.out.below H78.out (Nat.le_refl _)) (by decide)).mono ?_
  rintro e W9 ⟨rfl, hb9⟩
  rw [an1_check]
  have h89 : Later W8 W9 := hb9
  have cm0 := h89.cell d0
  have cm1 := h89.cell d1
  have cn0 := h89.cell e0
  have cn1 := h89.cell e1
  have h79 := H78.out.trans h89
  have H79 := Lib.hid h79
  clear h79
  clear d0 d1 e0 e1 hb9 h89
  go_wp2_with fail
  refine (net_equal _ _ _ _ 1 2 1 2 an0 an1 W9 an0_ok an1_ok (HN7.out.below H79.out (Nat.le_refl _)) (HR7.out.below H79.out (Nat.le_refl _))).mono ?_
  rintro e W10 ⟨rfl, hb10⟩
  rw [an0_ne]
  have h90 : Later W9 W10 := hb10
  have d0 := h90.cell cm0
  have d1 := h90.cell cm1
  have e0 := h90.cell cn0
  have e1 := h90.cell cn1
  have h70 := H79.out.trans h90
  have H70 := Lib.hid h70
  clear h70
  clear cm0 cm1 cn0 cn1 hb10 h90
  go_wp2_with fail
  refine (net_users _ _ 1 2 an0 0 W10 an0_ok (HN7.out.below H70.out (Nat.le_refl _))).mono ?_
  rintro e W11 ⟨A, uc, rfl, -, -, -, hb11⟩
  rw [an0_users]
  have hl := (Hl7.out.trans H70.out).call hb11
  have Hl := Lib.hid hl
  clear hl
  go_wp2_with fail
  go_ret
  exact ⟨rfl, Hl.out⟩
end Go.Proofs.Ytjkhpbngpceenaa
/- Arguments that came in, opened: slices of structs. After the guide's own lemma on slices of structs. No program is named here. -/
namespace Go.Proofs.Ytjkhpbngpceenaa
open Go.ChangeShapes Go.WideShapes Go.Deep Go.RowKit
section
variable {H : Type} {enc : TypeId × Value → H} {P : Program} {w : World} {base : Nat} {spare : Nat → Bool} {held : Bool}
theorem open_slice_fields {t e : TypeId} {fs : Array Field} {fuel : Nat} {cs : List Value} {x : DataW H × List MemPlace} (ht : P.underlying t = some (.slice e)) (he : P.underlying e = some (.struct fs))
    (hone : oneCellFields P fs = true) (hC : P.cellsOf e = fs.size) (h : DataW.trod enc P w base spare held fuel t cs = some x) :
    (cs = [.slice none 0 0] ∧ x = (.nil, [])) ∨
    ∃ (a : Addr) (len cap m : Nat) (D : Nat → DataW H) (Pl : Nat → List MemPlace), cs = [.slice (some a) len cap] ∧ base ≤ a.block ∧ len ≤ cap ∧ cap ≤ maxLen ∧ m = (if spare a.block then cap else len) ∧
      x = (.slice ((List.range len).map D) ((List.range (m - len)).map fun j => D (len + j)), MemPlace.row a (m * fs.size) ++ (List.range m).flatMap Pl) ∧
      ∀ i, i < m → ∃ (ys : List (DataW H × List MemPlace)) (n : Nat), D i = .agg (ys.map (·.1)) ∧ Pl i = ys.flatMap (·.2) ∧ ys.length = fs.size ∧
        ∀ (j : Nat) (f : Field), fs[j]? = some f → ∃ (v : Value) (y : DataW H × List MemPlace), w.cell? (a.add (i * fs.size + j)) = some v ∧ ys[j]? = some y ∧ DataW.trod enc P w base spare held n f.type [v] = some y := by
  rcases open_slice ht h with h0 | ⟨a, len, cap, m, n, D, Pl, hcs, hb, hl, hm, hmm, hx, hi⟩
  · exact .inl h0
  · refine .inr ⟨a, len, cap, m, D, Pl, hcs, hb, hl, hm, hmm, by rw [hC] at hx; exact hx, fun i him => ?_⟩
    obtain ⟨cs', hc, ht'⟩ := hi i him
    rw [hC] at hc
    obtain ⟨ys, n', hn', hy, hlen, hyl, hf⟩ := DataW.trod_struct he ht'
    obtain ⟨_, hcl, hat⟩ := World.cells?_some hc
    simp only [Prod.mk.injEq] at hy
    refine ⟨ys, n', hy.1, hy.2, hyl, fun j f hj => ?_⟩
    obtain ⟨ho, hk⟩ := hone_of hone j f hj
    have hjl : j < fs.size := (Array.getElem?_eq_some_iff.1 hj).1
    have hcell := hat j hjl
    have hv : cs'[j]? = some (cs'[j]'(by omega)) := List.getElem?_eq_getElem (by omega)
    have h1 := hf j f hj
    rw [ho, hk] at h1
    have hone' : (cs'.drop j).take 1 = [cs'[j]'(by omega)] := by
      rw [List.drop_eq_getElem_cons (by omega)]
      rfl
    rw [hone'] at h1
    have hys : ys[j]? = some (ys[j]'(by omega)) := List.getElem?_eq_getElem (by omega)
    refine ⟨_, _, ?_, hys, h1.trans hys⟩
    rw [← Go.Deep.add_add, hcell, hv]
end

/-- The address of a row whose first cell is there is a plain one. -/
theorem plain_row {w : World} {a : Addr} {v : Value} (h : w.cell? (a.add 0) = some v) : ∃ b off, a = ⟨b, off, none⟩ := by
  obtain ⟨b, off, spot⟩ := a
  have hs : spot = none := by simpa [Addr.add] using World.cell?_spot h
  subst hs
  exact ⟨b, off, rfl⟩
theorem add_plain' (b off j : Nat) : (⟨b, off, none⟩ : Addr).add j = ⟨b, off + j, none⟩ := by
  unfold Addr.add; split <;> simp_all
section
variable {H : Type} {enc : TypeId × Value → H} {P : Program} {w : World} {base : Nat} {spare : Nat → Bool} {held : Bool}
/-- A slice of integers. -/
theorem ints_open {t e : TypeId} {k : IntKind} {fuel : Nat} {v : Value} {x : DataW H × List MemPlace} (ht : P.underlying t = some (.slice e)) (he : P.underlying e = some (.int k)) (hc : P.cellsOf e = 1) (h : DataW.trod enc P w base spare held fuel t [v] = some x) :
    ∃ A cap zs, v = .slice A zs.length cap ∧ zs.length ≤ 9223372036854775807 ∧ zs.length ≤ cap ∧ Ints k w A zs ∧ ∀ n ∈ zs, (Lit.int k n).wf = true := by
  rcases open_ints ht he hc h with ⟨hcs, _⟩ | ⟨a, len, cap, zs, hcs, _, hl, hm, hz, _, hcell, hwz⟩
  · simp at hcs; subst hcs
    exact ⟨none, 0, [], rfl, by simp, by simp, Ints.nil, by simp⟩
  · simp at hcs; subst hcs
    have hlz : len ≤ zs.length := by rw [hz]; split <;> omega
    have hll : (zs.take len).length = len := by rw [List.length_take]; omega
    refine ⟨some a, cap, zs.take len, by rw [hll], by rw [hll]; unfold maxLen at hm; omega, by omega, fun j hj => ?_, fun n hn => hwz n (List.mem_of_mem_take hn)⟩
    have hj' : j < len := by omega
    obtain ⟨b, off, rfl⟩ := plain_row (w := w) (a := a) (v := .int k (zs.getD 0 0)) (hcell 0 (by omega))
    have hc2 := hcell j (by omega)
    rw [add_plain'] at hc2
    refine ⟨b, off, rfl, World.block_lt_of_cell? _ _ hc2, ?_⟩
    rw [hc2]
    have e : (zs.take len).getD j 0 = zs.getD j 0 := by simp [List.getD_eq_getElem?_getD, hj']
    rw [e]
end
end Go.Proofs.Ytjkhpbngpceenaa
