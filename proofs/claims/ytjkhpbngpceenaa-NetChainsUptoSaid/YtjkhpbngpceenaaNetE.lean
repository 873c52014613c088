/- Layer 11 (net): Users, copies, the equalities: contracts. -/
import Derived.Test.YtjkhpbngpceenaaRefO
import Derived.Test.YtjkhpbngpceenaaOp2
namespace Go.Proofs.Ytjkhpbngpceenaa
open Go.RowKit
def AnyBool (w : World) (e : Ending) (w' : World) : Prop := ∃ b, e = .returned (.bool b) ∧ Below w.heap.size w w'
set_option maxRecDepth 20000 in
set_option maxHeartbeats 8000000 in
theorem small_11 (A N : Option Addr) (c d : Nat) (n : NetD) (w : World) (hok : n.ok) (hR : NetR w A N n) :
    Calls Try.prog 9 #[.agg #[.slice A n.inn.length c, .slice N n.nodes.length d]] w (AnyBool w) := by
  have hnl := hok.2.1
  have hb0 : Below w.heap.size w (w.alloc (.cells #[.slice A n.inn.length c, .slice N n.nodes.length d] 26)) := (Below.refl _ _).alloc (Nat.le_refl _) _
  have Hok := Lib.hid hok
  have HR := Lib.hid hR
  clear hok hR
  go_enter Try.func9, Try.ntmps9
  go_wp2_with fail
  generalize w.alloc (.cells #[.slice A n.inn.length c, .slice N n.nodes.length d] 26) = w1 at *
  go_loopw [3, 14] (fun t i wx => ∃ (k : Nat) (z : Int), k ≤ n.nodes.length ∧ i = .int .i64 (k : Int) ∧ t = .int .i64 z ∧ Below w.heap.size w wx) (fun _ i _ => n.nodes.length - (intOf i).toNat)
  case atStart => exact ⟨0, _, Nat.zero_le _, rfl, rfl, hb0⟩
  case round =>
    obtain ⟨k, z, hk, rfl, rfl, hbw⟩ := hrel
    clear hb0
    by_cases hlt : k < n.nodes.length
    · obtain ⟨b, off, S, sc, J, ic, Q, qc, rfl, hNA, -, -, -⟩ := HR.out.2.at_ hlt
      have hnok := Hok.out.2.2 _ (List.getElem_mem hlt)
      have hpl := hnok.2.2.2.1
      have hQi := hNA.2.2.2
      generalize n.nodes[k] = v at *
      obtain ⟨⟨y0, y1, y2, y3, y4, y5, y6, y7, y8, y9⟩, -⟩ := hNA.below hbw
      have hbn := hbw.alloc hbw.size (.cells #[.int .i64 v.op.kind, .int .i64 v.op.k, .int .i64 v.op.width, .int .i64 v.op.step, .int .i64 v.op.side, .int .i64 v.op.frm, .int .i64 v.op.to, .slice S v.op.s.length sc, .slice J v.ins.length ic, .slice Q v.p.length qc] 46)
      have HNA := Lib.hid hNA
      have Hnok := Lib.hid hnok
      have HQi := Lib.hid hQi
      clear hNA hnok hQi
      go_wp2_with fail
      clear y0 y1 y2 y3 y4 y5 y6 y7 y8 y9
      generalize wr.alloc (.cells #[.int .i64 v.op.kind, .int .i64 v.op.k, .int .i64 v.op.width, .int .i64 v.op.step, .int .i64 v.op.side, .int .i64 v.op.frm, .int .i64 v.op.to, .slice S v.op.s.length sc, .slice J v.ins.length ic, .slice Q v.p.length qc] 46) = w2 at *
      go_loop [3, 32] (fun t i => ∃ (m : Nat) (z : Int), m ≤ v.p.length ∧ i = .int .i64 (m : Int) ∧ t = .int .i64 z) (fun _ i => v.p.length - (intOf i).toNat)
      case atStart => exact ⟨0, _, Nat.zero_le _, rfl, rfl⟩
      case round =>
        obtain ⟨m, z2, hm, rfl, rfl⟩ := hrel
        by_cases hlm : m < v.p.length
        · obtain ⟨b5, o5, Ss, cs, rfl, -, hcs, -⟩ := HQi.out m hlm
          have hcs2 := cell_below hbn hcs
          clear hcs
          go_wp2_with fail
          go_round
          case rel => exact ⟨m + 1, _, by omega, by go_num, rfl⟩
          case measure => simp [intOf]; omega
        · obtain rfl : m = v.p.length := by omega
          by_cases h3 : 300 < z2
          · have d3 : decide (300 < z2) = true := by simpa using h3
            clear h3
            go_wp2_with fail
            go_ret
            exact ⟨_, rfl, hbn⟩
          · have d3 : decide (300 < z2) = false := by simpa using h3
            clear h3
            go_wp2_with fail
            go_roundw
            case rel => exact ⟨k + 1, _, by omega, by go_num, rfl, hbn⟩
            case measure => simp [intOf]; omega
    · obtain rfl : k = n.nodes.length := by omega
      go_wp2_with fail
      go_ret
      exact ⟨_, rfl, hbw⟩
set_option maxRecDepth 20000 in
set_option maxHeartbeats 8000000 in
theorem small_13 (A N : Option Addr) (c d : Nat) (n : NetD) (w : World) (hok : n.ok) (hR : NetR w A N n) :
    Calls Try.prog 27 #[.agg #[.slice A n.inn.length c, .slice N n.nodes.length d]] w (AnyBool w) := by
  have hnl := hok.2.1
  have hb0 : Below w.heap.size w (w.alloc (.cells #[.slice A n.inn.length c, .slice N n.nodes.length d] 26)) := (Below.refl _ _).alloc (Nat.le_refl _) _
  have Hok := Lib.hid hok
  have HR := Lib.hid hR
  clear hok hR
  go_enter Try.func27, Try.ntmps27
  go_wp2_with fail
  generalize w.alloc (.cells #[.slice A n.inn.length c, .slice N n.nodes.length d] 26) = w1 at *
  go_loopw [3, 14] (fun t i wx => ∃ (k : Nat) (z : Int), k ≤ n.nodes.length ∧ i = .int .i64 (k : Int) ∧ t = .int .i64 z ∧ Below w.heap.size w wx) (fun _ i _ => n.nodes.length - (intOf i).toNat)
  case atStart => exact ⟨0, _, Nat.zero_le _, rfl, rfl, hb0⟩
  case round =>
    obtain ⟨k, z, hk, rfl, rfl, hbw⟩ := hrel
    clear hb0
    by_cases hlt : k < n.nodes.length
    · obtain ⟨b, off, S, sc, J, ic, Q, qc, rfl, hNA, -, -, -⟩ := HR.out.2.at_ hlt
      have hnok := Hok.out.2.2 _ (List.getElem_mem hlt)
      have hpl := hnok.2.2.2.1
      have hQi := hNA.2.2.2
      generalize n.nodes[k] = v at *
      obtain ⟨⟨y0, y1, y2, y3, y4, y5, y6, y7, y8, y9⟩, -⟩ := hNA.below hbw
      have hbn := hbw.alloc hbw.size (.cells #[.int .i64 v.op.kind, .int .i64 v.op.k, .int .i64 v.op.width, .int .i64 v.op.step, .int .i64 v.op.side, .int .i64 v.op.frm, .int .i64 v.op.to, .slice S v.op.s.length sc, .slice J v.ins.length ic, .slice Q v.p.length qc] 46)
      have HNA := Lib.hid hNA
      have Hnok := Lib.hid hnok
      have HQi := Lib.hid hQi
      clear hNA hnok hQi
      go_wp2_with fail
      clear y0 y1 y2 y3 y4 y5 y6 y7 y8 y9
      generalize wr.alloc (.cells #[.int .i64 v.op.kind, .int .i64 v.op.k, .int .i64 v.op.width, .int .i64 v.op.step, .int .i64 v.op.side, .int .i64 v.op.frm, .int .i64 v.op.to, .slice S v.op.s.length sc, .slice J v.ins.length ic, .slice Q v.p.length qc] 46) = w2 at *
      go_loop [3, 32] (fun t i => ∃ (m : Nat) (z : Int), m ≤ v.p.length ∧ i = .int .i64 (m : Int) ∧ t = .int .i64 z) (fun _ i => v.p.length - (intOf i).toNat)
      case atStart => exact ⟨0, _, Nat.zero_le _, rfl, rfl⟩
      case round =>
        obtain ⟨m, z2, hm, rfl, rfl⟩ := hrel
        by_cases hlm : m < v.p.length
        · obtain ⟨b5, o5, Ss, cs, rfl, -, hcs, -⟩ := HQi.out m hlm
          have hcs2 := cell_below hbn hcs
          clear hcs
          go_wp2_with fail
          go_round
          case rel => exact ⟨m + 1, _, by omega, by go_num, rfl⟩
          case measure => simp [intOf]; omega
        · obtain rfl : m = v.p.length := by omega
          by_cases h3 : 300 < z2
          · have d3 : decide (300 < z2) = true := by simpa using h3
            clear h3
            go_wp2_with fail
            go_ret
            exact ⟨_, rfl, hbn⟩
          · have d3 : decide (300 < z2) = false := by simpa using h3
            clear h3
            go_wp2_with fail
            go_roundw
            case rel => exact ⟨k + 1, _, by omega, by go_num, rfl, hbn⟩
            case measure => simp [intOf]; omega
    · obtain rfl : k = n.nodes.length := by omega
      go_wp2_with fail
      go_ret
      exact ⟨_, rfl, hbw⟩
theorem contains_ints (A : Option Addr) (c : Nat) (zs : List Int) (x : Int) (w : World) (hl : zs.length ≤ 9223372036854775807) (hI : Ints .i64 w A zs) :
    Calls Try.prog 49 #[.slice A zs.length c, .int .i64 x] w fun e w' => e = .returned (.bool (hasB zs x)) ∧ w = w' := by
  by_cases h : zs = []
  · subst h
    refine (Try.slices_Contains_int_empty A c x w).mono ?_
    rintro e w' ⟨rfl, rfl⟩
    exact ⟨rfl, rfl⟩
  · obtain ⟨b, off, rfl, -, -⟩ := hI 0 (List.length_pos_iff.2 h)
    refine (Try.slices_Contains_int b off zs.length c zs x w (Nat.le_refl _) hl (fun j hj => ?_)).mono ?_
    · obtain ⟨b', o', e, -, hc⟩ := hI j hj
      injection e with e; injection e with e1 e2; subst e1 e2
      exact hc
    · rintro e w' ⟨rfl, rfl⟩
      rw [List.take_length]
      exact ⟨rfl, rfl⟩
theorem users_snoc (n : NetD) (id : Int) {k : Nat} (hk : k < n.nodes.length) : (Kn.ids (k + 1)).filter (fun u => hasB (Nt.insF n.nodes u) id) = if hasB n.nodes[k].ins id then (Kn.ids k).filter (fun u => hasB (Nt.insF n.nodes u) id) ++ [(k : Int) + 1] else (Kn.ids k).filter (fun u => hasB (Nt.insF n.nodes u) id) := by
  have e : Nt.insF n.nodes ((k : Int) + 1) = n.nodes[k].ins := by unfold Nt.insF; rw [Nt.node_at hk]
  rw [Kn.ids_succ, List.filter_append]
  by_cases h : hasB n.nodes[k].ins id = true
  · simp [e, h]
  · simp [e, h]
set_option maxRecDepth 20000 in
set_option maxHeartbeats 8000000 in
theorem net_users (A N : Option Addr) (c d : Nat) (n : NetD) (id : Int) (w : World) (hok : n.ok) (hR : NetR w A N n) :
    Calls Try.prog 23 #[.agg #[.slice A n.inn.length c, .slice N n.nodes.length d], .int .i64 id] w (SortPost (Nt.users n id) w) := by
  obtain ⟨i0, hi, hz0, hz1, hz2⟩ := info_parts int_info
  have hnl := hok.2.1
  have hb0 : Below w.heap.size w (w.alloc (.cells #[.slice A n.inn.length c, .slice N n.nodes.length d] 26)) := (Below.refl _ _).alloc (Nat.le_refl _) _
  have hus : Nt.users n id = (Kn.ids n.nodes.length).filter (fun u => hasB (Nt.insF n.nodes u) id) := rfl
  have hsn := fun k hk => @users_snoc n id k hk
  have Hok := Lib.hid hok
  have HR := Lib.hid hR
  have Hus := Lib.hid hus
  have Hsn := Lib.hid hsn
  clear hok hR hus hsn
  go_enter Try.func23, Try.ntmps23
  go_wp2_with fail
  generalize w.alloc (.cells #[.slice A n.inn.length c, .slice N n.nodes.length d] 26) = w1 at *
  go_loopw [5, 11] (fun o i wx => ∃ k : Nat, k ≤ n.nodes.length ∧ i = .int .i64 (k : Int) ∧ wx.ownsRow w.heap.size 3 1 o ((Kn.ids k).filter (fun u => hasB (Nt.insF n.nodes u) id)).length (((Kn.ids k).filter (fun u => hasB (Nt.insF n.nodes u) id)).map (Value.int .i64)) ∧ Below w.heap.size w wx) (fun _ i _ => n.nodes.length - (intOf i).toNat)
  case atStart => exact ⟨0, Nat.zero_le _, rfl, by simpa [Kn.ids] using World.ownsRow_nil w1 w.heap.size 3 1, hb0⟩
  case round =>
    obtain ⟨k, hk, rfl, hown, hbw⟩ := hrel
    clear hb0
    obtain ⟨Ao, co, rfl⟩ := own_form hown
    by_cases hlt : k < n.nodes.length
    · obtain ⟨b, off, S, sc, J, ic, Q, qc, rfl, hNA, -, -, -⟩ := HR.out.2.at_ hlt
      have hnok := Hok.out.2.2 _ (List.getElem_mem hlt)
      have hil := hnok.2.2.1
      have hJi := hNA.2.2.1
      have hs := Hsn.out k hlt
      have hfl : ((Kn.ids k).filter (fun u => hasB (Nt.insF n.nodes u) id)).length ≤ k := Nat.le_trans (List.length_filter_le _ _) (by rw [Kn.ids_length]; exact Nat.le_refl _)
      generalize n.nodes[k] = v at *
      generalize (Kn.ids k).filter (fun u => hasB (Nt.insF n.nodes u) id) = us at *
      obtain ⟨⟨y0, y1, y2, y3, y4, y5, y6, y7, y8, y9⟩, -⟩ := hNA.below hbw
      have hbn := hbw.alloc hbw.size (.cells #[.int .i64 v.op.kind, .int .i64 v.op.k, .int .i64 v.op.width, .int .i64 v.op.step, .int .i64 v.op.side, .int .i64 v.op.frm, .int .i64 v.op.to, .slice S v.op.s.length sc, .slice J v.ins.length ic, .slice Q v.p.length qc] 46)
      have hown2 := ownsRow_new hown (.cells #[.int .i64 v.op.kind, .int .i64 v.op.k, .int .i64 v.op.width, .int .i64 v.op.step, .int .i64 v.op.side, .int .i64 v.op.frm, .int .i64 v.op.to, .slice S v.op.s.length sc, .slice J v.ins.length ic, .slice Q v.p.length qc] 46)
      have HNA := Lib.hid hNA
      have Hnok := Lib.hid hnok
      have HJi := Lib.hid hJi
      have Hs := Lib.hid hs
      have Hown := Lib.hid hown
      have Hown2 := Lib.hid hown2
      clear hNA hnok hJi hs hown hown2
      go_wp2_with fail
      clear y0 y1 y2 y3 y4 y5 y6 y7 y8 y9
      generalize wr.alloc (.cells #[.int .i64 v.op.kind, .int .i64 v.op.k, .int .i64 v.op.width, .int .i64 v.op.step, .int .i64 v.op.side, .int .i64 v.op.frm, .int .i64 v.op.to, .slice S v.op.s.length sc, .slice J v.ins.length ic, .slice Q v.p.length qc] 46) = w2 at *
      refine (contains_ints J ic v.ins id _ (by omega) (HJi.out.below hbn (Nat.le_refl _))).mono ?_
      rintro e w3 ⟨rfl, rfl⟩
      by_cases hh : hasB v.ins id = true
      · have HS := Lib.hid (Hs.out.trans (if_pos hh))
        rw [hh]
        clear hh
        have ho := ownsRow_new Hown2.out (.cells #[.int .i64 ((k : Int) + 1)] 3)
        have hbx2 := (hbn.alloc hbn.size (.cells #[.int .i64 ((k : Int) + 1)] 3))
        have HLO := Lib.hid (fun b (hb : (Value.slice Ao us.length co).ownBlock = some b) => (Hown2.out.lt b hb).1)
        go_wp2_with (at_builtin; refine wpList_append_own_at _ rfl _ _ 22 rfl w.heap.size 3 i0 (.int .i64 0) 1 8 Try.underlying22 hi hz0 hz1 hz2 rfl (by decide) _ _ _ rfl ho ⟨w2.heap.size, 0, none⟩ 1 1 [.int .i64 ((k : Int) + 1)] rfl rfl ?c1 (by intro u hu; simp at hu; subst hu; rfl) (by unfold maxLen; omega) (by omega) ?c2 ?_)
        first | (case c1 => exact one_new w2 _ _) | skip
        case c2 => first | exact hbx2.size | (have := hbn.size; omega)
        intro v' w4 hown' hgrow _ hat
        have hb4 : Below w.heap.size w w4 := hbx2.grown hgrow hbx2.size (fun b hb => HLO.out b hb)
        have HO4 := Lib.hid hown'
        clear hown' hgrow hat ho hbx2 HLO
        go_wp2_with fail
        go_roundw
        case rel => exact ⟨k + 1, by omega, by go_num, by rw [HS.out]; simpa using HO4.out, hb4⟩
        case measure => simp [intOf]; omega
      · have HS := Lib.hid (Hs.out.trans (if_neg hh))
        have hh' : hasB v.ins id = false := by simpa using hh
        rw [hh']
        clear hh hh'
        go_wp2_with fail
        go_roundw
        case rel => exact ⟨k + 1, by omega, by go_num, by rw [HS.out]; exact Hown2.out, hbn⟩
        case measure => simp [intOf]; omega
    · obtain rfl : k = n.nodes.length := by omega
      have hus := Hus.out
      rw [← hus] at hown ⊢
      obtain ⟨q1, q2, q3⟩ := own_ints hown
      have Hown := Lib.hid hown
      have Hq1 := Lib.hid q1
      have Hus := Lib.hid hus
      clear hown q1 hus
      go_wp2_with fail
      go_ret
      exact ⟨Ao, co, rfl, Hq1.out, q2, q3, hbw⟩
end Go.Proofs.Ytjkhpbngpceenaa
