/- The reference of layer 11: has, Order, Users: contracts. -/
import Derived.Test.YtjkhpbngpceenaaNetC
import Derived.Deep.DeepCutAuto
namespace Go.Proofs.Ytjkhpbngpceenaa
open Go.RowKit
def hasB (zs : List Int) (x : Int) : Bool := zs.contains x
set_option maxHeartbeats 4000000 in
theorem ref11_has (A : Option Addr) (c : Nat) (zs : List Int) (x : Int) (w : World) (hl : zs.length ≤ 9223372036854775807) (hI : Ints .i64 w A zs) :
    Calls Try.prog 41 #[.slice A zs.length c, .int .i64 x] w fun e w' => e = .returned (.bool (hasB zs x)) ∧ w = w' := by
  have HI := Lib.hid hI
  clear hI
  go_enter Try.func41, Try.ntmps41
  go_wp2_with fail
  go_loop [5] (fun i => ∃ k : Nat, k ≤ zs.length ∧ i = .int .i64 k ∧ (zs.take k).contains x = false) (fun i => zs.length - (intOf i).toNat)
  case atStart => exact ⟨0, Nat.zero_le _, rfl, rfl⟩
  case round =>
    obtain ⟨k, hk, rfl, hno⟩ := hrel
    by_cases hlt : k < zs.length
    · obtain ⟨b, off, rfl, -, hc⟩ := HI.out k hlt
      rw [getD_at hlt] at hc
      by_cases he : zs[k] = x
      · have e1 : (zs[k] == x) = true := by simp [he]
        have HX := Lib.hid (show hasB zs x = true by unfold hasB; rw [List.contains_iff_mem]; rw [← he]; exact List.getElem_mem hlt)
        clear he hno
        go_wp2_with fail
        go_ret
        exact ⟨by rw [HX.out]; rfl, rfl⟩
      · have e1 : (zs[k] == x) = false := by simp [he]
        have HX := Lib.hid (show (zs.take (k + 1)).contains x = false by
          rw [List.take_succ_eq_append_getElem hlt]
          simp at hno
          simp only [List.contains_eq_mem, List.mem_append, decide_eq_false_iff_not, List.mem_singleton]
          intro h
          rcases h with h | h
          · exact hno h
          · exact he h.symm)
        clear he hno
        go_wp2_with fail
        go_round
        case rel => exact ⟨k + 1, by omega, by go_num, HX.out⟩
        case measure => simp [intOf]; omega
    · obtain rfl : k = zs.length := by omega
      rw [List.take_length] at hno
      have HX := Lib.hid (show hasB zs x = false from hno)
      clear hno
      go_wp2_with fail
      go_ret
      exact ⟨by rw [HX.out]; rfl, rfl⟩
def Nt.count (ns : List NodeD) (id : Int) : Nat := (ns.filter fun v => v.ins.contains id).length
set_option maxHeartbeats 4000000 in
theorem ref11_users (A N : Option Addr) (c d : Nat) (n : NetD) (id : Int) (w : World) (hok : n.ok) (hR : NetR w A N n) :
    Calls Try.prog 26 #[.agg #[.slice A n.inn.length c, .slice N n.nodes.length d], .int .i64 id] w fun e w' => e = .returned (.int .i64 (Nt.count n.nodes id : Nat)) ∧ Below w.heap.size w w' := by
  have hb0 : Below w.heap.size w (w.alloc (.cells #[.slice A n.inn.length c, .slice N n.nodes.length d] 37)) := (Below.refl _ _).alloc (Nat.le_refl _) _
  have hk0 := Blk.new w 37 #[.slice A n.inn.length c, .slice N n.nodes.length d]
  have hR0 := hR.below hb0 (Nat.le_refl _)
  have hnl := hok.2.1
  have Hok := Lib.hid hok
  have HR := Lib.hid hR
  have Hk0 := Lib.hid hk0
  clear hok hR hk0
  go_enter Try.func26, Try.ntmps26
  go_upto_region 1 with fail
  have x1 : (w.alloc (.cells #[.slice A n.inn.length c, .slice N n.nodes.length d] 37)).cell? ⟨w.heap.size, 1, none⟩ = some (.slice N n.nodes.length d) := by rw [Hk0.out.cell]; rfl
  generalize w.alloc (.cells #[.slice A n.inn.length c, .slice N n.nodes.length d] 37) = w1 at *
  have HR0 := Lib.hid hR0
  clear hR0
  go_wp2_with fail
  go_loop [5, 6] (fun t i => ∃ k : Nat, k ≤ n.nodes.length ∧ i = .int .i64 (k : Int) ∧ t = .int .i64 ((Nt.count (n.nodes.take k) id : Nat) : Int)) (fun _ i => n.nodes.length - (intOf i).toNat)
  case atStart => exact ⟨0, Nat.zero_le _, rfl, rfl⟩
  case round =>
    obtain ⟨k, hk, rfl, rfl⟩ := hrel
    by_cases hlt : k < n.nodes.length
    · obtain ⟨b, off, S, sc, J, ic, Q, qc, rfl, hNA, -, hI, -⟩ := HR0.out.2.at_ hlt
      have hnok := Hok.out.2.2 _ (List.getElem_mem hlt)
      have hil := hnok.2.2.1
      have hcs : Nt.count (n.nodes.take (k + 1)) id = Nt.count (n.nodes.take k) id + if n.nodes[k].ins.contains id then 1 else 0 := by
        unfold Nt.count
        rw [List.take_succ_eq_append_getElem hlt, List.filter_append]
        by_cases h : n.nodes[k].ins.contains id = true
        · simp only [List.filter_cons, h, if_true, List.filter_nil, List.length_append, List.length_singleton]
        · simp only [List.filter_cons, h, if_false, List.filter_nil, List.length_append]; simp
      have hcl : Nt.count (n.nodes.take k) id ≤ k := by
        unfold Nt.count
        refine Nat.le_trans (List.length_filter_le _ _) ?_
        simp; omega
      generalize n.nodes[k] = v at *
      generalize Nt.count (n.nodes.take k) id = q at *
      obtain ⟨⟨-, -, -, -, -, -, -, -, y8, -⟩, -, hIJ, -⟩ := hNA
      have HIJ := Lib.hid hIJ
      have Hcs := Lib.hid hcs
      have Hnok := Lib.hid hnok
      clear hIJ hcs hnok
      go_wp2_with fail
      refine (ref11_has J ic v.ins id _ (by omega) HIJ.out).mono ?_
      rintro e w2 ⟨rfl, rfl⟩
      by_cases h : hasB v.ins id = true
      · have HX := Lib.hid (Hcs.out.trans (by rw [if_pos (show v.ins.contains id = true from h)]))
        rw [h]
        clear h
        go_wp2_with fail
        go_round
        case rel => exact ⟨k + 1, by omega, by go_num, by rw [HX.out]; go_num⟩
        case measure => simp [intOf]; omega
      · have h' : hasB v.ins id = false := by simpa using h
        have HX := Lib.hid (Hcs.out.trans (by rw [if_neg (show ¬ v.ins.contains id = true from h)]))
        rw [h']
        clear h h'
        go_wp2_with fail
        go_round
        case rel => exact ⟨k + 1, by omega, by go_num, by rw [HX.out]; rfl⟩
        case measure => simp [intOf]; omega
    · obtain rfl : k = n.nodes.length := by omega
      rw [List.take_length]
      go_wp2_with fail
      go_ret
      exact ⟨rfl, hb0⟩
/-- Of the ins before m, all are out. -/
def freeTo (out ins : List Int) (b : Bool) (m : Nat) : Bool := b && (ins.take m).all fun i => i == 0 || out.contains i
theorem freeTo_succ {out ins : List Int} {b : Bool} {m : Nat} (hm : m < ins.length) : freeTo out ins b (m + 1) = (freeTo out ins b m && (ins[m] == 0 || out.contains ins[m])) := by
  unfold freeTo
  rw [List.take_succ_eq_append_getElem hm, List.all_append, Bool.and_assoc]
  simp
set_option maxRecDepth 20000 in
set_option maxHeartbeats 8000000 in
theorem ref11_order (A N : Option Addr) (c d : Nat) (n : NetD) (w : World) (hok : n.ok) (hR : NetR w A N n) :
    Calls Try.prog 15 #[.agg #[.slice A n.inn.length c, .slice N n.nodes.length d]] w (SortPost (Nt.sorted n.nodes) w) := by
  obtain ⟨i0, hi, hz0, hz1, hz2⟩ := info_parts int_info
  have hb0 : Below w.heap.size w (w.alloc (.cells #[.slice A n.inn.length c, .slice N n.nodes.length d] 37)) := (Below.refl _ _).alloc (Nat.le_refl _) _
  have hk0 := Blk.new w 37 #[.slice A n.inn.length c, .slice N n.nodes.length d]
  have hR0 := hR.below hb0 (Nat.le_refl _)
  have hnl := hok.2.1
  have hsort : Nt.sorted n.nodes = Kn.order (Nt.insF n.nodes) n.nodes.length := rfl
  have hIat : ∀ k (h : k < n.nodes.length), Nt.insF n.nodes ((k : Int) + 1) = n.nodes[k].ins := fun k h => by unfold Nt.insF; rw [Nt.node_at h]
  generalize Nt.insF n.nodes = I at *
  generalize Nt.sorted n.nodes = os at *
  have Hok := Lib.hid hok
  have HR := Lib.hid hR
  have Hk0 := Lib.hid hk0
  have Hsort := Lib.hid hsort
  have HIat := Lib.hid hIat
  clear hok hR hk0 hsort hIat
  go_enter Try.func15, Try.ntmps15
  go_upto_region 1 with fail
  have x1 : (w.alloc (.cells #[.slice A n.inn.length c, .slice N n.nodes.length d] 37)).cell? ⟨w.heap.size, 1, none⟩ = some (.slice N n.nodes.length d) := by rw [Hk0.out.cell]; rfl
  have hwl : w.heap.size < (w.alloc (.cells #[.slice A n.inn.length c, .slice N n.nodes.length d] 37)).heap.size := Hk0.out.lt
  generalize w.alloc (.cells #[.slice A n.inn.length c, .slice N n.nodes.length d] 37) = w1 at *
  have HR0 := Lib.hid hR0
  clear hR0
  go_wp2_with fail
  go_loopw [3, 4] (fun o i wx => ∃ k : Nat, k ≤ n.nodes.length ∧ i = .int .i64 (k : Int) ∧ wx.ownsRow w1.heap.size 3 1 o (Kn.go I n.nodes.length k).length ((Kn.go I n.nodes.length k).map (Value.int .i64)) ∧ Below w1.heap.size w1 wx) (fun _ i _ => n.nodes.length - (intOf i).toNat)
  case atStart => exact ⟨0, Nat.zero_le _, rfl, by simpa [Kn.go] using World.ownsRow_nil w1 w1.heap.size 3 1, Below.refl _ _⟩
  case round =>
    obtain ⟨k, hk, rfl, hown, hbx⟩ := hrel
    obtain ⟨Ao, co, rfl⟩ := own_form hown
    have x2 := cell_below hbx x1
    by_cases hlt : k < n.nodes.length
    · have hgo := fun id r h => @Kn.go_more I n.nodes.length k id r h
      have hgl := Kn.go_len_le I n.nodes.length k
      have hstuck : Kn.ready I n.nodes.length (Kn.go I n.nodes.length k) = [] → Kn.go I n.nodes.length (k + 1) = Kn.go I n.nodes.length k := fun h => Kn.go_stuck h 1
      have hIo := (own_ints hown).1
      generalize Kn.go I n.nodes.length k = out at *
      have Hgo := Lib.hid hgo
      have Hstuck := Lib.hid hstuck
      have Hown := Lib.hid hown
      have HIo := Lib.hid hIo
      clear hgo hstuck hown hIo
      go_wp2_with fail
      clear x2
      go_loop [3, 5] (fun o i => ∃ j : Nat, j ≤ n.nodes.length ∧ i = .int .i64 ((j : Int) + 1) ∧ o = .slice Ao out.length co ∧ ∀ u : Int, 1 ≤ u → u ≤ j → Kn.free I out u = false) (fun _ i => n.nodes.length + 1 - (intOf i).toNat)
      case atStart => exact ⟨0, Nat.zero_le _, rfl, rfl, fun u h1 h2 => by omega⟩
      case round =>
        obtain ⟨j, hj, rfl, rfl, hnf⟩ := hrel
        have x2 := cell_below hbx x1
        by_cases hjl : j < n.nodes.length
        · obtain ⟨b, off, S, sc, J, ic, Q, qc, rfl, hNA, -, hI, -⟩ := HR0.out.2.at_ hjl
          have hnok := Hok.out.2.2 _ (List.getElem_mem hjl)
          have hil := hnok.2.2.1
          have hIk := HIat.out j hjl
          generalize n.nodes[j] = v at *
          obtain ⟨⟨-, -, -, -, -, -, -, -, y8, -⟩, -, hIJ, -⟩ := hNA.below hbx
          have j1 : IntKind.i64.wrap ((j : Int) + 1 - 1) = (j : Int) := by rw [IntWalk.i64_in _ (by omega)]; omega
          have j2 : (j : Int) < n.nodes.length := by omega
          have j3 : (j : Int) + 1 ≤ (n.nodes.length : Int) := by omega
          have hfree : Kn.free I out ((j : Int) + 1) = freeTo out v.ins (!hasB out ((j : Int) + 1)) v.ins.length := by
            unfold Kn.free freeTo
            rw [hIk, List.take_length]
            rfl
          have HNA := Lib.hid hNA
          have HIJ := Lib.hid hIJ
          have HIk := Lib.hid hIk
          have Hnok := Lib.hid hnok
          have Hfree := Lib.hid hfree
          have Hnf := Lib.hid hnf
          clear hNA hIJ hIk hnok hfree hnf
          go_wp2_with fail
          refine (ref11_has Ao co out ((j : Int) + 1) _ (by omega) HIo.out).mono ?_
          rintro e w3 ⟨rfl, rfl⟩
          go_wp2_with fail
          have hfree := Hfree.out
          generalize (!hasB out ((j : Int) + 1)) = bh at *
          have Hfree := Lib.hid hfree
          clear hfree
          clear y8 x2
          go_loop [6, 8] (fun f i => ∃ m : Nat, m ≤ v.ins.length ∧ i = .int .i64 (m : Int) ∧ f = .bool (freeTo out v.ins bh m)) (fun _ i => v.ins.length - (intOf i).toNat)
          case atStart => exact ⟨0, Nat.zero_le _, rfl, by simp [freeTo]⟩
          case round =>
            obtain ⟨m, hm, rfl, rfl⟩ := hrel
            by_cases hlm : m < v.ins.length
            · obtain ⟨b1, off1, rfl, -, hc⟩ := HIJ.out m hlm
              rw [getD_at hlm] at hc
              have hfs := @freeTo_succ out v.ins bh m hlm
              generalize freeTo out v.ins bh m = fm at *
              generalize v.ins[m] = u at *
              by_cases hu : u = 0
              · have e1 : (u != 0) = false := by simp [hu]
                have HF := Lib.hid (show freeTo out v.ins bh (m + 1) = fm by rw [hfs, hu]; simp)
                clear hu hfs
                go_wp2_with fail
                go_round
                case rel => exact ⟨m + 1, by omega, by go_num, by rw [HF.out]⟩
                case measure => simp [intOf]; omega
              · have e1 : (u != 0) = true := by simp [hu]
                have e0 : (u == 0) = false := by simp [hu]
                rw [e0, Bool.false_or] at hfs
                clear hu e0
                have Hfs := Lib.hid hfs
                clear hfs
                go_wp2_with fail
                refine (ref11_has Ao co out u _ (by omega) HIo.out).mono ?_
                rintro e w3 ⟨rfl, rfl⟩
                by_cases hh : hasB out u = true
                · have HF := Lib.hid (show freeTo out v.ins bh (m + 1) = fm by rw [Hfs.out, show out.contains u = true from hh, Bool.and_true])
                  rw [hh]
                  clear hh
                  go_wp2_with fail
                  go_round
                  case rel => exact ⟨m + 1, by omega, by go_num, by rw [HF.out]⟩
                  case measure => simp [intOf]; omega
                · have hh' : hasB out u = false := by simpa using hh
                  have HF := Lib.hid (show freeTo out v.ins bh (m + 1) = false by rw [Hfs.out, show out.contains u = false from hh', Bool.and_false])
                  rw [hh']
                  clear hh hh'
                  go_wp2_with fail
                  go_round
                  case rel => exact ⟨m + 1, by omega, by go_num, by rw [HF.out]⟩
                  case measure => simp [intOf]; omega
            · obtain rfl : m = v.ins.length := by omega
              rw [← Hfree.out]
              by_cases hf : Kn.free I out ((j : Int) + 1) = true
              · obtain ⟨r, hr⟩ := Kn.ready_first (I := I) (n := n.nodes.length) (out := out) (id := (j : Int) + 1) (by omega) (by omega) hf (fun u h1 h2 => Hnf.out u h1 (by omega))
                have HG := Lib.hid (Hgo.out _ _ hr)
                have ho := ownsRow_new Hown.out (.cells #[.int .i64 ((j : Int) + 1)] 3)
                have hbx2 := (hbx.alloc hbx.size (.cells #[.int .i64 ((j : Int) + 1)] 3))
                have HLO := Lib.hid (fun b (hb : (Value.slice Ao out.length co).ownBlock = some b) => (Hown.out.lt b hb).1)
                rw [hf]
                clear hf hr
                go_wp2_with (at_builtin; refine wpList_append_own_at _ rfl _ _ 22 rfl w1.heap.size 3 i0 (.int .i64 0) 1 8 Try.underlying22 hi hz0 hz1 hz2 rfl (by decide) _ _ _ rfl ho ⟨wr.heap.size, 0, none⟩ 1 1 [.int .i64 ((j : Int) + 1)] rfl rfl ?c1 (by intro u hu; simp at hu; subst hu; rfl) (by unfold maxLen; omega) (by omega) ?c2 ?_)
                first | (case c1 => exact one_new wr _ _) | skip
                case c2 => first | exact hbx2.size | (have := hbx.size; omega)
                intro v' w3 hown' hgrow _ hat
                have hb3 : Below w1.heap.size w1 w3 := hbx2.grown hgrow hbx2.size (fun b hb => HLO.out b hb)
                have HO3 := Lib.hid (show w3.ownsRow w1.heap.size 3 1 v' (Kn.go I n.nodes.length (k + 1)).length ((Kn.go I n.nodes.length (k + 1)).map (Value.int .i64)) by rw [HG.out]; simpa using hown')
                clear hown' hgrow hat ho hbx2 HLO
                go_wp2_with fail
                go_roundw
                case rel => exact ⟨k + 1, by omega, by go_num, HO3.out, hb3⟩
                case measure => simp [intOf]; omega
              · have hf' : Kn.free I out ((j : Int) + 1) = false := by simpa using hf
                have HNF := Lib.hid (show ∀ u : Int, 1 ≤ u → u ≤ ((j + 1 : Nat) : Int) → Kn.free I out u = false from fun u h1 h2 => by
                  by_cases e : u = (j : Int) + 1
                  · rw [e]; exact hf'
                  · exact Hnf.out u h1 (by omega))
                rw [hf']
                clear hf hf'
                go_wp2_with fail
                go_round
                case rel => exact ⟨j + 1, by omega, by go_num, rfl, HNF.out⟩
                case measure => simp [intOf]; omega
        · obtain rfl : j = n.nodes.length := by omega
          have HG := Lib.hid (Hstuck.out (Kn.ready_none (fun u h1 h2 => hnf u h1 h2)))
          have j3 : ¬ (n.nodes.length : Int) + 1 ≤ (n.nodes.length : Int) := by omega
          clear hnf
          go_wp2_with fail
          go_roundw
          case rel => exact ⟨k + 1, by omega, by go_num, by rw [HG.out]; exact Hown.out, hbx⟩
          case measure => simp [intOf]; omega
    · obtain rfl : k = n.nodes.length := by omega
      have hos : os = Kn.go I n.nodes.length n.nodes.length := Hsort.out
      rw [← hos] at hown ⊢
      obtain ⟨q1, q2, q3⟩ := own_ints hown
      have Hown := Lib.hid hown
      have Hq1 := Lib.hid q1
      have Hos := Lib.hid hos
      clear hown q1 hos
      go_wp2_with fail
      go_ret
      exact ⟨Ao, co, rfl, Hq1.out, q2, q3, hb0.trans (hbx.mono hb0.size)⟩
end Go.Proofs.Ytjkhpbngpceenaa
