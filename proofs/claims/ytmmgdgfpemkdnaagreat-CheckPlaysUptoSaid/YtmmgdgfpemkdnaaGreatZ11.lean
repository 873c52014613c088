/- Lemmas for the statements of this seat: contracts of functions and the plain laws. -/
import Derived.Deep.RegionHeld3
import Derived.Test.YtmmgdgfpemkdnaaGreatZ10
set_option linter.unusedVariables false
/- The references of layers 11 and 13: Order and Words once more, with where their rows lie. -/
namespace Go.Proofs.YtmmgdgfpemkdnaaGreat
open Go.RowKit
set_option maxRecDepth 20000 in
set_option maxHeartbeats 8000000 in
theorem ref13_wordsO (A N : Option Addr) (c d : Nat) (n : NetD) (w : World) (hok : n.ok) (hR : NetR w A N n) (hd : n.nodes.length ≤ d) (hc : n.inn.length ≤ c) (hcm : c ≤ 9223372036854775807) (hck : Nt.check n = 0) :
    Calls Tryz.prog 34 #[.agg #[.slice A n.inn.length c, .slice N n.nodes.length d]] w (SortPostO (Nt.words n) w) := by
  obtain ⟨i0, hi, hz0, hz1, hz2⟩ := info_parts int_info
  have hnl := (Nt.check_ok hck).2.1
  have hl0 : Later w (w.alloc (.cells #[.slice A n.inn.length c, .slice N n.nodes.length d] 43)) := (Later.refl w).alloc _
  have HR := Lib.hid hR
  have Hl0 := Lib.hid hl0
  have Hok := Lib.hid hok
  have Hck := Lib.hid hck
  clear hR hl0 hok hck
  go_enter Tryz.func34, Tryz.ntmps34
  go_wp2_with fail
  generalize w.alloc (.cells #[.slice A n.inn.length c, .slice N n.nodes.length d] 43) = w1 at *
  refine (ref11_check A N c d n w1 Hok.out (HR.out.below Hl0.out (Nat.le_refl _)) hd hc hcm).mono ?_
  rintro e w2 ⟨hb2, ⟨-, g, rfl, -, hrow⟩ | ⟨hc', -⟩⟩
  rotate_left
  · exact absurd Hck.out hc'
  have hl2 := Hl0.out.call hb2
  have hsl := Nt.shapes_len Hck.out
  have hsr := Nt.shapes_all Hck.out
  have hwd : (Nt.shapes n).map Safe.prod = Nt.words n := rfl
  clear hb2
  generalize Nt.shapes n = sh at *
  have hsl2 : sh.length ≤ 513 := by omega
  rw [← hsl]
  have Hl2 := Lib.hid hl2
  have Hrow := Lib.hid hrow
  have Hsl := Lib.hid hsl
  have Hsr := Lib.hid hsr
  have Hwd := Lib.hid hwd
  clear hl2 hrow hsl hsr hwd
  go_wp2_with fail
  go_loopw [6, 7] (fun o i wx => ∃ k : Nat, k ≤ sh.length ∧ i = .int .i64 (k : Int) ∧ wx.ownsRow w2.heap.size 3 1 o k (intV ((sh.take k).map Safe.prod)) ∧ Later w2 wx) (fun _ i _ => sh.length - (intOf i).toNat)
  case atStart => exact ⟨0, Nat.zero_le _, rfl, by simpa [intV] using World.ownsRow_nil w2 w2.heap.size 3 1, Later.refl _⟩
  case round =>
    obtain ⟨k, hk, rfl, hown, hlw⟩ := hrel
    obtain ⟨Ao, co, rfl⟩ := own_form hown
    by_cases hlt : k < sh.length
    · have hrs := Hsr.out _ (List.getElem_mem hlt)
      obtain ⟨S, sc, y, hI, h1, h2, -⟩ := (Hrow.out.below hlw (Nat.le_refl _)).at_ hlt
      have hsn : intV ((sh.take (k + 1)).map Safe.prod) = intV ((sh.take k).map Safe.prod) ++ [.int .i64 (Safe.prod sh[k])] := by rw [List.take_succ_eq_append_getElem hlt, List.map_append, List.map_singleton, intV_snoc]
      generalize sh[k] = s at *
      generalize intV ((sh.take k).map Safe.prod) = vs at *
      have k0 : (k : Int) < (sh.length : Int) := by omega
      have Hown := Lib.hid hown
      have Hlw := Lib.hid hlw
      have Hrs := Lib.hid hrs
      have HI := Lib.hid hI
      have Hsn := Lib.hid hsn
      clear hown hlw hrs hI hsn
      go_wp2_with fail
      refine (ref03_size S sc s _ Hrs.out HI.out).mono ?_
      rintro e w3 ⟨rfl, rfl⟩
      have ho := ownsRow_new Hown.out (.cells #[.int .i64 (Safe.prod s)] 3)
      have hbx2 := Hlw.out.alloc (.cells #[.int .i64 (Safe.prod s)] 3)
      have hsz := hbx2.size
      rw [World.size_alloc] at hsz
      have HLO := Lib.hid (fun b (hb : (Value.slice Ao k co).ownBlock = some b) => (Hown.out.lt b hb).1)
      go_wp2_with (at_builtin; refine wpList_append_own_at _ rfl _ _ 22 rfl w2.heap.size 3 i0 (.int .i64 0) 1 8 Tryz.underlying22 hi hz0 hz1 hz2 rfl (by decide) _ _ _ rfl ho ⟨wr.heap.size, 0, none⟩ 1 1 [.int .i64 (Safe.prod s)] rfl rfl ?c1 (by intro u hu; simp at hu; subst hu; rfl) (by unfold maxLen; omega) (by omega) ?c2 ?_)
      first | (case c1 => exact one_new wr _ _) | skip
      case c2 => simp; omega
      intro v' w4 hown' hgrow _ hat
      have hl4 : Later w2 w4 := Below.grown hbx2 hgrow (by simp; omega) (fun b hb => HLO.out b hb)
      rw [← Hsn.out] at hown'
      have Hown' := Lib.hid hown'
      have Hl4 := Lib.hid hl4
      clear hown' hl4
      clear hgrow hat ho hbx2 HLO
      go_wp2_with fail
      go_roundw
      case rel => exact ⟨k + 1, by omega, by go_num, Hown'.out, Hl4.out⟩
      case measure => simp [intOf]; omega
    · obtain rfl : k = sh.length := by omega
      rw [List.take_length] at hown
      have hq := Hwd.out
      have hwl : (Nt.words n).length = sh.length := by rw [← hq]; simp
      rw [hq] at hown
      rw [← hwl] at hown
      have hown2 : wr.ownsRow w2.heap.size 3 1 (.slice Ao (Nt.words n).length co) (Nt.words n).length ((Nt.words n).map (Value.int .i64)) := hown
      obtain ⟨q1, q2, q3⟩ := own_ints hown2
      have hl := Hl2.out.trans hlw
      rw [← hwl]
      have q4 : ∀ a, Ao = some a → w.heap.size ≤ a.block := fun a q => by have h1 := (hown2.lt a.block (by rw [q]; rfl)).1; have h2 := Hl2.out.size; omega
      have Hown := Lib.hid hown
      have Hown2 := Lib.hid hown2
      have Hq := Lib.hid hq
      have Hq1 := Lib.hid q1
      have Hq2 := Lib.hid q2
      have Hq3 := Lib.hid q3
      have Hq4 := Lib.hid q4
      have Hlw := Lib.hid hlw
      have Hl := Lib.hid hl
      have Hwl := Lib.hid hwl
      clear hown hown2 hq q1 q2 q3 q4 hlw hl hwl
      go_wp2_with fail
      go_ret
      exact ⟨Ao, co, rfl, Hq1.out, Hq2.out, Hq3.out, Hq4.out, Hl.out⟩
set_option maxRecDepth 20000 in
set_option maxHeartbeats 8000000 in
theorem ref11_orderO (A N : Option Addr) (c d : Nat) (n : NetD) (w : World) (hok : n.ok) (hR : NetR w A N n) :
    Calls Tryz.prog 30 #[.agg #[.slice A n.inn.length c, .slice N n.nodes.length d]] w (SortPostO (Nt.sorted n.nodes) w) := by
  obtain ⟨i0, hi, hz0, hz1, hz2⟩ := info_parts int_info
  have hb0 : Below w.heap.size w (w.alloc (.cells #[.slice A n.inn.length c, .slice N n.nodes.length d] 43)) := (Below.refl _ _).alloc (Nat.le_refl _) _
  have hk0 := Blk.new w 43 #[.slice A n.inn.length c, .slice N n.nodes.length d]
  have hR0 := hR.below hb0 (Nat.le_refl _)
  have hnl := hok.2.1
  have hsort : Nt.sorted n.nodes = Kn.order (Nt.insF n.nodes) n.nodes.length := rfl
  have hIat : ∀ k (h : k < n.nodes.length), Nt.insF n.nodes ((k : Int) + 1) = n.nodes[k].ins := fun k h => by unfold Nt.insF; rw [Nt.node_at h]
  generalize Nt.insF n.nodes = I at *
  generalize Nt.sorted n.nodes = os at *
  have Hok := Lib.hid hok
  have HR := Lib.hid hR
  have Hk0 := Lib.hid hk0
  have Hsort := Lib.hid hsort
  have HIat := Lib.hid hIat
  clear hok hR hk0 hsort hIat
  go_enter Tryz.func30, Tryz.ntmps30
  go_upto_region 1 with fail
  have x1 : (w.alloc (.cells #[.slice A n.inn.length c, .slice N n.nodes.length d] 43)).cell? ⟨w.heap.size, 1, none⟩ = some (.slice N n.nodes.length d) := by rw [Hk0.out.cell]; rfl
  have hwl : w.heap.size < (w.alloc (.cells #[.slice A n.inn.length c, .slice N n.nodes.length d] 43)).heap.size := Hk0.out.lt
  generalize w.alloc (.cells #[.slice A n.inn.length c, .slice N n.nodes.length d] 43) = w1 at *
  have HR0 := Lib.hid hR0
  clear hR0
  go_wp2_with fail
  go_loopw [3, 4] (fun o i wx => ∃ k : Nat, k ≤ n.nodes.length ∧ i = .int .i64 (k : Int) ∧ wx.ownsRow w1.heap.size 3 1 o (Kn.go I n.nodes.length k).length ((Kn.go I n.nodes.length k).map (Value.int .i64)) ∧ Below w1.heap.size w1 wx) (fun _ i _ => n.nodes.length - (intOf i).toNat)
  case atStart => exact ⟨0, Nat.zero_le _, rfl, by simpa [Kn.go] using World.ownsRow_nil w1 w1.heap.size 3 1, Below.refl _ _⟩
  case round =>
    obtain ⟨k, hk, rfl, hown, hbx⟩ := hrel
    obtain ⟨Ao, co, rfl⟩ := own_form hown
    have x2 := cell_below hbx x1
    by_cases hlt : k < n.nodes.length
    · have hgo := fun id r h => @Kn.go_more I n.nodes.length k id r h
      have hgl := Kn.go_len_le I n.nodes.length k
      have hstuck : Kn.ready I n.nodes.length (Kn.go I n.nodes.length k) = [] → Kn.go I n.nodes.length (k + 1) = Kn.go I n.nodes.length k := fun h => Kn.go_stuck h 1
      have hIo := (own_ints hown).1
      generalize Kn.go I n.nodes.length k = out at *
      have Hgo := Lib.hid hgo
      have Hstuck := Lib.hid hstuck
      have Hown := Lib.hid hown
      have HIo := Lib.hid hIo
      clear hgo hstuck hown hIo
      go_wp2_with fail
      clear x2
      go_loop [3, 5] (fun o i => ∃ j : Nat, j ≤ n.nodes.length ∧ i = .int .i64 ((j : Int) + 1) ∧ o = .slice Ao out.length co ∧ ∀ u : Int, 1 ≤ u → u ≤ j → Kn.free I out u = false) (fun _ i => n.nodes.length + 1 - (intOf i).toNat)
      case atStart => exact ⟨0, Nat.zero_le _, rfl, rfl, fun u h1 h2 => by omega⟩
      case round =>
        obtain ⟨j, hj, rfl, rfl, hnf⟩ := hrel
        have x2 := cell_below hbx x1
        by_cases hjl : j < n.nodes.length
        · obtain ⟨b, off, S, sc, J, ic, Q, qc, rfl, hNA, -, hI, -⟩ := HR0.out.2.at_ hjl
          have hnok := Hok.out.2.2 _ (List.getElem_mem hjl)
          have hil := hnok.2.2.1
          have hIk := HIat.out j hjl
          generalize n.nodes[j] = v at *
          obtain ⟨⟨-, -, -, -, -, -, -, -, y8, -⟩, -, hIJ, -⟩ := hNA.below hbx
          have j1 : IntKind.i64.wrap ((j : Int) + 1 - 1) = (j : Int) := by rw [IntWalk.i64_in _ (by omega)]; omega
          have j2 : (j : Int) < n.nodes.length := by omega
          have j3 : (j : Int) + 1 ≤ (n.nodes.length : Int) := by omega
          have hfree : Kn.free I out ((j : Int) + 1) = freeTo out v.ins (!hasB out ((j : Int) + 1)) v.ins.length := by
            unfold Kn.free freeTo
            rw [hIk, List.take_length]
            rfl
          have HNA := Lib.hid hNA
          have HIJ := Lib.hid hIJ
          have HIk := Lib.hid hIk
          have Hnok := Lib.hid hnok
          have Hfree := Lib.hid hfree
          have Hnf := Lib.hid hnf
          clear hNA hIJ hIk hnok hfree hnf
          go_wp2_with fail
          refine (ref11_has Ao co out ((j : Int) + 1) _ (by omega) HIo.out).mono ?_
          rintro e w3 ⟨rfl, rfl⟩
          go_wp2_with fail
          have hfree := Hfree.out
          generalize (!hasB out ((j : Int) + 1)) = bh at *
          have Hfree := Lib.hid hfree
          clear hfree
          clear y8 x2
          go_loop [6, 8] (fun f i => ∃ m : Nat, m ≤ v.ins.length ∧ i = .int .i64 (m : Int) ∧ f = .bool (freeTo out v.ins bh m)) (fun _ i => v.ins.length - (intOf i).toNat)
          case atStart => exact ⟨0, Nat.zero_le _, rfl, by simp [freeTo]⟩
          case round =>
            obtain ⟨m, hm, rfl, rfl⟩ := hrel
            by_cases hlm : m < v.ins.length
            · obtain ⟨b1, off1, rfl, -, hc⟩ := HIJ.out m hlm
              rw [getD_at hlm] at hc
              have hfs := @freeTo_succ out v.ins bh m hlm
              generalize freeTo out v.ins bh m = fm at *
              generalize v.ins[m] = u at *
              by_cases hu : u = 0
              · have e1 : (u != 0) = false := by simp [hu]
                have HF := Lib.hid (show freeTo out v.ins bh (m + 1) = fm by rw [hfs, hu]; simp)
                clear hu hfs
                go_wp2_with fail
                go_round
                case rel => exact ⟨m + 1, by omega, by go_num, by rw [HF.out]⟩
                case measure => simp [intOf]; omega
              · have e1 : (u != 0) = true := by simp [hu]
                have e0 : (u == 0) = false := by simp [hu]
                rw [e0, Bool.false_or] at hfs
                clear hu e0
                have Hfs := Lib.hid hfs
                clear hfs
                go_wp2_with fail
                refine (ref11_has Ao co out u _ (by omega) HIo.out).mono ?_
                rintro e w3 ⟨rfl, rfl⟩
                by_cases hh : hasB out u = true
                · have HF := Lib.hid (show freeTo out v.ins bh (m + 1) = fm by rw [Hfs.out, show out.contains u = true from hh, Bool.and_true])
                  rw [hh]
                  clear hh
                  go_wp2_with fail
                  go_round
                  case rel => exact ⟨m + 1, by omega, by go_num, by rw [HF.out]⟩
                  case measure => simp [intOf]; omega
                · have hh' : hasB out u = false := by simpa using hh
                  have HF := Lib.hid (show freeTo out v.ins bh (m + 1) = false by rw [Hfs.out, show out.contains u = false from hh', Bool.and_false])
                  rw [hh']
                  clear hh hh'
                  go_wp2_with fail
                  go_round
                  case rel => exact ⟨m + 1, by omega, by go_num, by rw [HF.out]⟩
                  case measure => simp [intOf]; omega
            · obtain rfl : m = v.ins.length := by omega
              rw [← Hfree.out]
              by_cases hf : Kn.free I out ((j : Int) + 1) = true
              · obtain ⟨r, hr⟩ := Kn.ready_first (I := I) (n := n.nodes.length) (out := out) (id := (j : Int) + 1) (by omega) (by omega) hf (fun u h1 h2 => Hnf.out u h1 (by omega))
                have HG := Lib.hid (Hgo.out _ _ hr)
                have ho := ownsRow_new Hown.out (.cells #[.int .i64 ((j : Int) + 1)] 3)
                have hbx2 := (hbx.alloc hbx.size (.cells #[.int .i64 ((j : Int) + 1)] 3))
                have HLO := Lib.hid (fun b (hb : (Value.slice Ao out.length co).ownBlock = some b) => (Hown.out.lt b hb).1)
                rw [hf]
                clear hf hr
                go_wp2_with (at_builtin; refine wpList_append_own_at _ rfl _ _ 22 rfl w1.heap.size 3 i0 (.int .i64 0) 1 8 Tryz.underlying22 hi hz0 hz1 hz2 rfl (by decide) _ _ _ rfl ho ⟨wr.heap.size, 0, none⟩ 1 1 [.int .i64 ((j : Int) + 1)] rfl rfl ?c1 (by intro u hu; simp at hu; subst hu; rfl) (by unfold maxLen; omega) (by omega) ?c2 ?_)
                first | (case c1 => exact one_new wr _ _) | skip
                case c2 => first | exact hbx2.size | (have := hbx.size; omega)
                intro v' w3 hown' hgrow _ hat
                have hb3 : Below w1.heap.size w1 w3 := hbx2.grown hgrow hbx2.size (fun b hb => HLO.out b hb)
                have HO3 := Lib.hid (show w3.ownsRow w1.heap.size 3 1 v' (Kn.go I n.nodes.length (k + 1)).length ((Kn.go I n.nodes.length (k + 1)).map (Value.int .i64)) by rw [HG.out]; simpa using hown')
                clear hown' hgrow hat ho hbx2 HLO
                go_wp2_with fail
                go_roundw
                case rel => exact ⟨k + 1, by omega, by go_num, HO3.out, hb3⟩
                case measure => simp [intOf]; omega
              · have hf' : Kn.free I out ((j : Int) + 1) = false := by simpa using hf
                have HNF := Lib.hid (show ∀ u : Int, 1 ≤ u → u ≤ ((j + 1 : Nat) : Int) → Kn.free I out u = false from fun u h1 h2 => by
                  by_cases e : u = (j : Int) + 1
                  · rw [e]; exact hf'
                  · exact Hnf.out u h1 (by omega))
                rw [hf']
                clear hf hf'
                go_wp2_with fail
                go_round
                case rel => exact ⟨j + 1, by omega, by go_num, rfl, HNF.out⟩
                case measure => simp [intOf]; omega
        · obtain rfl : j = n.nodes.length := by omega
          have HG := Lib.hid (Hstuck.out (Kn.ready_none (fun u h1 h2 => hnf u h1 h2)))
          have j3 : ¬ (n.nodes.length : Int) + 1 ≤ (n.nodes.length : Int) := by omega
          clear hnf
          go_wp2_with fail
          go_roundw
          case rel => exact ⟨k + 1, by omega, by go_num, by rw [HG.out]; exact Hown.out, hbx⟩
          case measure => simp [intOf]; omega
    · obtain rfl : k = n.nodes.length := by omega
      have hos : os = Kn.go I n.nodes.length n.nodes.length := Hsort.out
      rw [← hos] at hown ⊢
      obtain ⟨q1, q2, q3⟩ := own_ints hown
      have q4 : ∀ a, Ao = some a → w.heap.size ≤ a.block := fun a q => by have h1 := (hown.lt a.block (by rw [q]; rfl)).1; have h2 := hb0.size; omega
      have Hown := Lib.hid hown
      have Hq1 := Lib.hid q1
      have Hos := Lib.hid hos
      clear hown q1 hos
      go_wp2_with fail
      go_ret
      exact ⟨Ao, co, rfl, Hq1.out, q2, q3, q4, hb0.trans (hbx.mono hb0.size)⟩
end Go.Proofs.YtmmgdgfpemkdnaaGreat
/- The reference of layer 18: New: contract. Printed by gen/refnewO.py. -/
namespace Go.Proofs.YtmmgdgfpemkdnaaGreat
open Go.RowKit
def NewP18O (A N : Option Addr) (c d : Nat) (n : NetD) (cap : Int) (w : World) (e : Ending) (w' : World) : Prop :=
  ∃ (Wd Or : Option Addr) (cw co : Nat) (V : RfV), e = .returned (.agg (RfF.cells ⟨A, N, Wd, Or, c, d, cw, co⟩ V n (Ck.base n cap) Rf.start)) ∧ RfF.Fix ⟨A, N, Wd, Or, c, d, cw, co⟩ n (Ck.base n cap) w' ∧ V.At Rf.start w' ∧ Later w w' ∧ (∀ g, g < w.heap.size → V.Off Rf.start g) ∧ (Nt.words n).length ≤ cw ∧ cw ≤ 9223372036854775807 ∧ (∀ a, Wd = some a → w.heap.size ≤ a.block) ∧ ∀ a, Or = some a → w.heap.size ≤ a.block
theorem new_endO {A N Wd Or T : Option Addr} {c d cw co h : Nat} {n : NetD} {cap : Int} {w X : World} (hW : Nt.check n = 0) (hl : Later w X) (hsz : w.heap.size ≤ h + 1) (k : Blk X (h + 1) 49 zeros13) (rW : Ints .i64 X Wd (Nt.words n)) (rO : Ints .i64 X Or (Nt.sorted n.nodes)) (rT : Ints .i64 X T [0]) (hT : ∀ a, T = some a → h + 1 < a.block) (hR : NetR w A N n) (hw1 : (Nt.words n).length ≤ cw) (hw2 : cw ≤ 9223372036854775807) (hw3 : ∀ a, Wd = some a → w.heap.size ≤ a.block) (hw4 : ∀ a, Or = some a → w.heap.size ≤ a.block) :
    NewP18O A N c d n cap w (.returned (.agg #[.slice A n.inn.length c, .slice N n.nodes.length d, .slice Wd (Nt.words n).length cw, .slice Or (Nt.sorted n.nodes).length co, .int .i64 (Nt.loss n.nodes), .int .i64 cap, .slice T 1 1, .slice none 0 0, .slice none 0 0, .int .i64 0, .int .i64 0, .int .i64 0, .int .i64 0])) (((((((((((((X.setCell ⟨h + 1, 0, none⟩ (.slice A n.inn.length c)).setCell ⟨h + 1, 1, none⟩ (.slice N n.nodes.length d)).setCell ⟨h + 1, 2, none⟩ (.slice Wd (Nt.words n).length cw)).setCell ⟨h + 1, 3, none⟩ (.slice Or (Nt.sorted n.nodes).length co)).setCell ⟨h + 1, 4, none⟩ (.int .i64 (Nt.loss n.nodes))).setCell ⟨h + 1, 5, none⟩ (.int .i64 cap)).setCell ⟨h + 1, 6, none⟩ (.slice T 1 1)).setCell ⟨h + 1, 7, none⟩ (.slice none 0 0)).setCell ⟨h + 1, 8, none⟩ (.slice none 0 0)).setCell ⟨h + 1, 9, none⟩ (.int .i64 0)).setCell ⟨h + 1, 10, none⟩ (.int .i64 0)).setCell ⟨h + 1, 11, none⟩ (.int .i64 0)).setCell ⟨h + 1, 12, none⟩ (.int .i64 0)) := by
  have hL := later13 (g := h + 1) hl hsz (.slice A n.inn.length c) (.slice N n.nodes.length d) (.slice Wd (Nt.words n).length cw) (.slice Or (Nt.sorted n.nodes).length co) (.int .i64 (Nt.loss n.nodes)) (.int .i64 cap) (.slice T 1 1) (.slice none 0 0) (.slice none 0 0) (.int .i64 0) (.int .i64 0) (.int .i64 0) (.int .i64 0)
  refine ⟨Wd, Or, cw, co, ⟨T, none, none, 1, 0, 0⟩, rfl, ⟨hR.below hL (Nat.le_refl _), ?_, ?_⟩, ⟨?_, fun j hj => absurd hj (by simp [Rf.start]), fun j hj => absurd hj (by simp [Rf.start])⟩, hL, fun g hg => ⟨fun _ a e => by have := hT a e; omega, fun _ a e => by (cases e), fun _ a e => by (cases e)⟩, hw1, hw2, hw3, hw4⟩
  · exact RfRow.set13 (not_zero13 k rW (fun z hz => (Nt.words_bd hW z hz).1)) _ _ _ _ _ _ _ _ _ _ _ _ _
  · exact RfRow.set13 (not_zero13 k rO (fun z hz => (Kn.order_rng _ _ z hz).1)) _ _ _ _ _ _ _ _ _ _ _ _ _
  · exact RfRow.set13 (g := h + 1) (w := X) ⟨rT, fun _ a e q => by have := hT a e; omega⟩ _ _ _ _ _ _ _ _ _ _ _ _ _
set_option maxHeartbeats 32000000 in
set_option maxRecDepth 100000 in
theorem ref18_newO (A N : Option Addr) (c d : Nat) (n : NetD) (cap : Int) (w : World) (hok : n.ok) (hR : NetR w A N n) (hd : n.nodes.length ≤ d) (hc : n.inn.length ≤ c) (hcm : c ≤ 9223372036854775807) (hck : Nt.check n = 0) :
    Calls Tryz.prog 11 #[.agg #[.slice A n.inn.length c, .slice N n.nodes.length d], .int .i64 cap] w (NewP18O A N c d n cap w) := by
  have hl0 : Later w ((w.alloc (.cells #[.slice A n.inn.length c, .slice N n.nodes.length d] 43)).alloc (.cells zeros13 49)) := ((Later.refl w).alloc _).alloc _
  have hkB := Blk.new w 43 #[.slice A n.inn.length c, .slice N n.nodes.length d]
  have hkZ := Blk.new (w.alloc (.cells #[.slice A n.inn.length c, .slice N n.nodes.length d] 43)) 49 zeros13
  have hlB : Later (w.alloc (.cells #[.slice A n.inn.length c, .slice N n.nodes.length d] 43)) ((w.alloc (.cells #[.slice A n.inn.length c, .slice N n.nodes.length d] 43)).alloc (.cells zeros13 49)) := (Later.refl _).alloc _
  have hsz : (w.alloc (.cells #[.slice A n.inn.length c, .slice N n.nodes.length d] 43)).heap.size = w.heap.size + 1 := World.size_alloc _ _
  rw [World.size_alloc] at hkZ
  unfold zeros13 at *
  have Hok := Lib.hid hok
  have HR := Lib.hid hR
  have Hck := Lib.hid hck
  have Hl0 := Lib.hid hl0
  have HkB := Lib.hid hkB
  have HkZ := Lib.hid hkZ
  have HlB := Lib.hid hlB
  have Hsz := Lib.hid hsz
  clear hok hR hck hl0 hkB hkZ hlB hsz
  go_enter Tryz.func11, Tryz.ntmps11
  go_wp2_with fail
  generalize hwB : w.alloc (.cells #[.slice A n.inn.length c, .slice N n.nodes.length d] 43) = wB at *
  generalize hwZ : wB.alloc (.cells #[.slice none 0 0, .slice none 0 0, .slice none 0 0, .slice none 0 0, .int .i64 0, .int .i64 0, .slice none 0 0, .slice none 0 0, .slice none 0 0, .int .i64 0, .int .i64 0, .int .i64 0, .int .i64 0] 49) = wZ at *
  clear hwB hwZ
  generalize hh : w.heap.size = h at *
  have HSZ := Lib.hid (show wB.heap.size ≤ h + 1 by have := Hsz.out; omega)
  have HSW := Lib.hid (show w.heap.size ≤ h + 1 by omega)
  clear hh Hsz
  refine (ref11_check A N c d n wZ Hok.out (HR.out.below Hl0.out (Nat.le_refl _)) hd hc hcm).mono ?_
  rintro e w2 ⟨hb2, ⟨-, g, rfl, -, -⟩ | ⟨hc', -⟩⟩
  rotate_left
  · exact absurd Hck.out hc'
  have HLZ := Lib.hid (show Later wZ w2 from hb2)
  have HLB := Lib.hid (HlB.out.trans HLZ.out)
  have HL0 := Lib.hid (Hl0.out.trans HLZ.out)
  have x0 := HLB.out.cell (HkB.out.cell 0)
  have x1 := HLB.out.cell (HkB.out.cell 1)
  simp at x0 x1
  have X0 := Lib.hid (HkB.out.cell 0)
  have X1 := Lib.hid (HkB.out.cell 1)
  simp at X0 X1
  clear hb2
  generalize hlo : Nt.loss n.nodes = lo at *
  go_upto_region 2 with fail
  go_region_held3 (fun X => X.cell? ⟨h, 0, none⟩ = some (.slice A n.inn.length c) ∧ X.cell? ⟨h, 1, none⟩ = some (.slice N n.nodes.length d)) (first | (with_reducible exact ⟨x0, x1⟩) | exact ⟨Later.cell (show Later wB _ by repeat (first | (with_reducible exact HLB.out) | (with_reducible apply Later.drew) | (with_reducible apply Later.alloc) | (with_reducible refine Later.call ?_ (by assumption)) | (with_reducible refine Later.set ?_ HSZ.out _))) X0.out, Later.cell (show Later wB _ by repeat (first | (with_reducible exact HLB.out) | (with_reducible apply Later.drew) | (with_reducible apply Later.alloc) | (with_reducible refine Later.call ?_ (by assumption)) | (with_reducible refine Later.set ?_ HSZ.out _))) X1.out⟩)
    (first
    | (go_at_call 34; refine (ref13_wordsO A N c d n _ Hok.out (HR.out.below (show Later w _ by repeat (first | (with_reducible exact HL0.out) | (with_reducible apply Later.drew) | (with_reducible apply Later.alloc) | (with_reducible refine Later.call ?_ (by assumption)) | (with_reducible refine Later.set ?_ HSZ.out _))) (Nat.le_refl _)) hd hc hcm Hck.out).mono ?_; rintro e w4 ⟨Wd, cw, rfl, hIW, hIW1, hIW2, hIW3, hb4⟩; have hlz := (show Later wZ w4 by repeat (first | (with_reducible exact HLZ.out) | (with_reducible apply Later.drew) | (with_reducible apply Later.alloc) | (with_reducible refine Later.call ?_ (by assumption)) | (with_reducible refine Later.set ?_ HSZ.out _))); obtain ⟨z0, z1, z2, z3, z4, z5, z6, z7, z8, z9, z10, z11, z12⟩ := cells_zero13 (hlz.blk HkZ.out); obtain ⟨f0, f1, f2, f3, f4, f5, f6, f7, f8, f9, f10, f11, f12⟩ := frozen13 (hlz.blk HkZ.out); obtain ⟨p0, p1, p2, p3, p4, p5, p6, p7, p8, p9, p10, p11, p12⟩ := cells_zero13 ((hlz.blk HkZ.out).alloc (.cells #[.int .i64 0] 3)); obtain ⟨q0, q1, q2, q3, q4, q5, q6, q7, q8, q9, q10, q11, q12⟩ := frozen13 ((hlz.blk HkZ.out).alloc (.cells #[.int .i64 0] 3)); clear hlz)
    | (go_at_call 30; refine (ref11_orderO A N c d n _ Hok.out (HR.out.below (show Later w _ by repeat (first | (with_reducible exact HL0.out) | (with_reducible apply Later.drew) | (with_reducible apply Later.alloc) | (with_reducible refine Later.call ?_ (by assumption)) | (with_reducible refine Later.set ?_ HSZ.out _))) (Nat.le_refl _)) ).mono ?_; rintro e w5 ⟨Or, co, rfl, hIO, hIO1, hIO2, hIO3, hb5⟩; have hlz := (show Later wZ w5 by repeat (first | (with_reducible exact HLZ.out) | (with_reducible apply Later.drew) | (with_reducible apply Later.alloc) | (with_reducible refine Later.call ?_ (by assumption)) | (with_reducible refine Later.set ?_ HSZ.out _))); obtain ⟨z0, z1, z2, z3, z4, z5, z6, z7, z8, z9, z10, z11, z12⟩ := cells_zero13 (hlz.blk HkZ.out); obtain ⟨f0, f1, f2, f3, f4, f5, f6, f7, f8, f9, f10, f11, f12⟩ := frozen13 (hlz.blk HkZ.out); obtain ⟨p0, p1, p2, p3, p4, p5, p6, p7, p8, p9, p10, p11, p12⟩ := cells_zero13 ((hlz.blk HkZ.out).alloc (.cells #[.int .i64 0] 3)); obtain ⟨q0, q1, q2, q3, q4, q5, q6, q7, q8, q9, q10, q11, q12⟩ := frozen13 ((hlz.blk HkZ.out).alloc (.cells #[.int .i64 0] 3)); clear hlz))
  · have hz4 : Later wZ w4 := (by repeat (first | (with_reducible exact HLZ.out) | (with_reducible apply Later.drew) | (with_reducible apply Later.alloc) | (with_reducible refine Later.call ?_ (by assumption))))
    have hl45 : Later w4 w5 := (by repeat (first | (with_reducible exact Later.refl _) | (with_reducible apply Later.drew) | (with_reducible apply Later.alloc) | (with_reducible refine Later.call ?_ (by assumption))))
    go_wp2_with fail
    subst hlo
    refine bodyPost_ret (by simp [results, Tryz.results11, go_sem, p0, p1, p2, p3, p4, p5, p6, p7, p8, p9, p10, p11, p12]; rfl) rfl ?_
    have hW := Hck.out
    have k4 := hz4.blk HkZ.out
    have k5 := hl45.blk k4
    have hsz := HSZ.out
    exact new_endO (hR := HR.out) (hw1 := hIW1) (hw2 := hIW2) (hw3 := fun a e => by have h1 := hIW3 a e; have h2 := HL0.out.size; (try simp at h1); omega) (hw4 := fun a e => by have h1 := hIO3 a e; have h2 := (Hl0.out.trans hz4).size; (try simp at h1); omega) hW (((Hl0.out.trans hz4).trans hl45).alloc _) HSW.out (k5.alloc _) (hIW.below (hl45.alloc _) (Nat.le_refl _)) (hIO.below ((Later.refl w5).alloc _) (Nat.le_refl _)) (one_ints (Blk.new w5 3 _)) (fun a e => by injection e with e; subst e; exact k5.lt)
  · have hz4 : Later wZ w4 := (by repeat (first | (with_reducible exact HLZ.out) | (with_reducible apply Later.drew) | (with_reducible apply Later.alloc) | (with_reducible refine Later.call ?_ (by assumption))))
    have hl45 : Later w4 w5 := (by repeat (first | (with_reducible exact Later.refl _) | (with_reducible apply Later.drew) | (with_reducible apply Later.alloc) | (with_reducible refine Later.call ?_ (by assumption))))
    go_wp2_with fail
    subst hlo
    refine bodyPost_ret (by simp [results, Tryz.results11, go_sem, z0, z1, z2, z3, z4, z5, z6, z7, z8, z9, z10, z11, z12]; rfl) rfl ?_
    have hW := Hck.out
    have k4 := hz4.blk HkZ.out
    have k5 := hl45.blk k4
    have hsz := HSZ.out
    exact new_endO (hR := HR.out) (hw1 := hIW1) (hw2 := hIW2) (hw3 := fun a e => by have h1 := hIW3 a e; have h2 := HL0.out.size; (try simp at h1); omega) (hw4 := fun a e => by have h1 := hIO3 a e; have h2 := (Hl0.out.trans hz4).size; (try simp at h1); omega) hW ((Hl0.out.trans hz4).trans hl45) HSW.out k5 (hIW.below hl45 (Nat.le_refl _)) hIO (one_ints (Later.blk (show Later (w4.alloc (.cells #[.int .i64 0] 3)) w5 from hb5) (Blk.new w4 3 _))) (fun a e => by injection e with e; subst e; exact k4.lt)
  · have hz4 : Later wZ w4 := (by repeat (first | (with_reducible exact HLZ.out) | (with_reducible apply Later.drew) | (with_reducible apply Later.alloc) | (with_reducible refine Later.call ?_ (by assumption))))
    have hl45 : Later w4 w5 := (by repeat (first | (with_reducible exact Later.refl _) | (with_reducible apply Later.drew) | (with_reducible apply Later.alloc) | (with_reducible refine Later.call ?_ (by assumption))))
    go_wp2_with fail
    subst hlo
    refine bodyPost_ret (by simp [results, Tryz.results11, go_sem, z0, z1, z2, z3, z4, z5, z6, z7, z8, z9, z10, z11, z12]; rfl) rfl ?_
    have hW := Hck.out
    have k4 := hz4.blk HkZ.out
    have k5 := hl45.blk k4
    have hsz := HSZ.out
    exact new_endO (hR := HR.out) (hw1 := hIW1) (hw2 := hIW2) (hw3 := fun a e => by have h1 := hIW3 a e; have h2 := HL0.out.size; (try simp at h1); omega) (hw4 := fun a e => by have h1 := hIO3 a e; have h2 := (Hl0.out.trans hz4).size; (try simp at h1); omega) hW ((Hl0.out.trans hz4).trans hl45) HSW.out k5 (hIW.below hl45 (Nat.le_refl _)) hIO (one_ints (Later.blk (Later.trans (show Later (w2.alloc (.cells #[.int .i64 0] 3)).drew w4 from hb4) hl45) (Blk.new w2 3 _).drew)) (fun a e => by injection e with e; subst e; exact (HLZ.out.blk HkZ.out).lt)
end Go.Proofs.YtmmgdgfpemkdnaaGreat
/- Layer 18 (check): Words, Peak, Done, There, Has: contracts. -/
namespace Go.Proofs.YtmmgdgfpemkdnaaGreat
open Go.RowKit
set_option maxHeartbeats 4000000 in
set_option maxRecDepth 100000 in
theorem check_now (a : CkA) (c : CkN) (W0 : World) (s : CkS) (W : World) (hM : CkM a c W0 s W) :
    Calls Tryz.prog 16 #[.pointer (some ⟨a.p, 0, none⟩)] W fun e w' => e = .returned (.int .i64 s.now) ∧ W = w' := by
  have y : W.cell? ⟨a.p, 12, none⟩ = some (.int .i64 s.now) := by obtain ⟨-, -, -, -, -, -, -, -, -, -, -, y11, y12, y13⟩ := hM.cells14; assumption
  clear hM
  go_enter Tryz.func16, Tryz.ntmps16
  go_wp2_with fail
  go_ret
  exact ⟨rfl, rfl⟩
set_option maxHeartbeats 4000000 in
set_option maxRecDepth 100000 in
theorem check_peak (a : CkA) (c : CkN) (W0 : World) (s : CkS) (W : World) (hM : CkM a c W0 s W) :
    Calls Tryz.prog 18 #[.pointer (some ⟨a.p, 0, none⟩)] W fun e w' => e = .returned (.int .i64 s.peak) ∧ W = w' := by
  have y : W.cell? ⟨a.p, 13, none⟩ = some (.int .i64 s.peak) := by obtain ⟨-, -, -, -, -, -, -, -, -, -, -, y11, y12, y13⟩ := hM.cells14; assumption
  clear hM
  go_enter Tryz.func18, Tryz.ntmps18
  go_wp2_with fail
  go_ret
  exact ⟨rfl, rfl⟩
set_option maxHeartbeats 4000000 in
set_option maxRecDepth 100000 in
theorem check_done (a : CkA) (c : CkN) (W0 : World) (s : CkS) (W : World) (hM : CkM a c W0 s W) :
    Calls Tryz.prog 19 #[.pointer (some ⟨a.p, 0, none⟩)] W fun e w' => e = .returned (.int .i64 s.done) ∧ W = w' := by
  have y : W.cell? ⟨a.p, 11, none⟩ = some (.int .i64 s.done) := by obtain ⟨-, -, -, -, -, -, -, -, -, -, -, y11, y12, y13⟩ := hM.cells14; assumption
  clear hM
  go_enter Tryz.func19, Tryz.ntmps19
  go_wp2_with fail
  go_ret
  exact ⟨rfl, rfl⟩
set_option maxHeartbeats 4000000 in
set_option maxRecDepth 100000 in
theorem check_there (a : CkA) (c : CkN) (W0 : World) (s : CkS) (W : World) (hM : CkM a c W0 s W) (hL : c.words.length ≤ 513) (z : Int) :
    Calls Tryz.prog 21 #[.pointer (some ⟨a.p, 0, none⟩), .int .i64 z] W fun e w' => e = .returned (.bool (decide (0 ≤ z) && (decide (z < c.words.length) && Ck.at_ s.pres z))) ∧ W = w' := by
  have y : W.cell? ⟨a.p, 6, none⟩ = some (.slice (some ⟨a.g1, 0, none⟩) c.words.length c.words.length) := by obtain ⟨-, -, -, -, -, -, y6, y7, y8, -⟩ := hM.cells14; assumption
  by_cases h0 : 0 ≤ z
  rotate_left
  · have d0 : decide (0 ≤ z) = false := by simpa using h0
    have HE := Lib.hid (show (decide (0 ≤ z) && (decide (z < c.words.length) && Ck.at_ s.pres z)) = false by rw [d0]; rfl)
    clear h0 hM
    go_enter Tryz.func21, Tryz.ntmps21
    go_wp2_with fail
    go_ret
    exact ⟨by first | (rw [HE.out]; rfl) | rfl | (rw [HE.out]; apply ret_bool; simp), rfl⟩
  obtain ⟨zn, rfl⟩ := Int.eq_ofNat_of_zero_le h0
  by_cases h1 : zn < c.words.length
  · have kb := bool_at hM.pres (i := zn) (by rw [hM.l1]; exact h1)
    have k1 : (zn : Int) < c.words.length := by omega
    have HE := Lib.hid (show (decide (0 ≤ (zn : Int)) && (decide ((zn : Int) < c.words.length) && Ck.at_ s.pres (zn : Int))) = s.pres.getD zn false by rw [decide_eq_true h0, decide_eq_true k1]; rfl)
    generalize s.pres.getD zn false = bb at *
    clear hM
    go_enter Tryz.func21, Tryz.ntmps21
    go_wp2_with fail
    go_ret
    exact ⟨by first | (rw [HE.out]; rfl) | rfl | (rw [HE.out]; apply ret_bool; simp), rfl⟩
  · have k1 : ¬ (zn : Int) < c.words.length := by omega
    have d1 : decide ((zn : Int) < c.words.length) = false := by simpa using k1
    have HE := Lib.hid (show (decide (0 ≤ (zn : Int)) && (decide ((zn : Int) < c.words.length) && Ck.at_ s.pres (zn : Int))) = false by rw [d1]; simp)
    clear hM
    go_enter Tryz.func21, Tryz.ntmps21
    go_wp2_with fail
    go_ret
    exact ⟨by first | (rw [HE.out]; rfl) | rfl | (rw [HE.out]; apply ret_bool; simp), rfl⟩
set_option maxHeartbeats 4000000 in
set_option maxRecDepth 100000 in
theorem check_has (a : CkA) (c : CkN) (W0 : World) (s : CkS) (W : World) (hM : CkM a c W0 s W) (hL : c.words.length ≤ 513) (z : Int) :
    Calls Tryz.prog 23 #[.pointer (some ⟨a.p, 0, none⟩), .int .i64 z] W fun e w' => e = .returned (.bool (decide (0 ≤ z) && (decide (z < c.words.length) && Ck.at_ s.grad z))) ∧ W = w' := by
  have y : W.cell? ⟨a.p, 8, none⟩ = some (.slice (some ⟨a.g3, 0, none⟩) c.words.length c.words.length) := by obtain ⟨-, -, -, -, -, -, y6, y7, y8, -⟩ := hM.cells14; assumption
  by_cases h0 : 0 ≤ z
  rotate_left
  · have d0 : decide (0 ≤ z) = false := by simpa using h0
    have HE := Lib.hid (show (decide (0 ≤ z) && (decide (z < c.words.length) && Ck.at_ s.grad z)) = false by rw [d0]; rfl)
    clear h0 hM
    go_enter Tryz.func23, Tryz.ntmps23
    go_wp2_with fail
    go_ret
    exact ⟨by first | (rw [HE.out]; rfl) | rfl | (rw [HE.out]; apply ret_bool; simp), rfl⟩
  obtain ⟨zn, rfl⟩ := Int.eq_ofNat_of_zero_le h0
  by_cases h1 : zn < c.words.length
  · have kb := bool_at hM.grad (i := zn) (by rw [hM.l3]; exact h1)
    have k1 : (zn : Int) < c.words.length := by omega
    have HE := Lib.hid (show (decide (0 ≤ (zn : Int)) && (decide ((zn : Int) < c.words.length) && Ck.at_ s.grad (zn : Int))) = s.grad.getD zn false by rw [decide_eq_true h0, decide_eq_true k1]; rfl)
    generalize s.grad.getD zn false = bb at *
    clear hM
    go_enter Tryz.func23, Tryz.ntmps23
    go_wp2_with fail
    go_ret
    exact ⟨by first | (rw [HE.out]; rfl) | rfl | (rw [HE.out]; apply ret_bool; simp), rfl⟩
  · have k1 : ¬ (zn : Int) < c.words.length := by omega
    have d1 : decide ((zn : Int) < c.words.length) = false := by simpa using k1
    have HE := Lib.hid (show (decide (0 ≤ (zn : Int)) && (decide ((zn : Int) < c.words.length) && Ck.at_ s.grad (zn : Int))) = false by rw [d1]; simp)
    clear hM
    go_enter Tryz.func23, Tryz.ntmps23
    go_wp2_with fail
    go_ret
    exact ⟨by first | (rw [HE.out]; rfl) | rfl | (rw [HE.out]; apply ret_bool; simp), rfl⟩
end Go.Proofs.YtmmgdgfpemkdnaaGreat
/- A document's state of layer 18 in a box, beside a state of the program's. -/
namespace Go.Proofs.YtmmgdgfpemkdnaaGreat
open Go.RowKit
theorem frs13 {S : Nat → Prop} {g : Nat} {wb w : World} (h : Fr S wb w) (hg : S g) (a0 a1 a2 a3 a4 a5 a6 a7 a8 a9 a10 a11 a12 : Value) : Fr S wb (((((((((((((w.setCell ⟨g, 0, none⟩ a0).setCell ⟨g, 1, none⟩ a1).setCell ⟨g, 2, none⟩ a2).setCell ⟨g, 3, none⟩ a3).setCell ⟨g, 4, none⟩ a4).setCell ⟨g, 5, none⟩ a5).setCell ⟨g, 6, none⟩ a6).setCell ⟨g, 7, none⟩ a7).setCell ⟨g, 8, none⟩ a8).setCell ⟨g, 9, none⟩ a9).setCell ⟨g, 10, none⟩ a10).setCell ⟨g, 11, none⟩ a11).setCell ⟨g, 12, none⟩ a12) :=
  ((((((((((((h.setCell (p := ⟨g, 0, none⟩) (fun _ => hg) a0).setCell (p := ⟨g, 1, none⟩) (fun _ => hg) a1).setCell (p := ⟨g, 2, none⟩) (fun _ => hg) a2).setCell (p := ⟨g, 3, none⟩) (fun _ => hg) a3).setCell (p := ⟨g, 4, none⟩) (fun _ => hg) a4).setCell (p := ⟨g, 5, none⟩) (fun _ => hg) a5).setCell (p := ⟨g, 6, none⟩) (fun _ => hg) a6).setCell (p := ⟨g, 7, none⟩) (fun _ => hg) a7).setCell (p := ⟨g, 8, none⟩) (fun _ => hg) a8).setCell (p := ⟨g, 9, none⟩) (fun _ => hg) a9).setCell (p := ⟨g, 10, none⟩) (fun _ => hg) a10).setCell (p := ⟨g, 11, none⟩) (fun _ => hg) a11).setCell (p := ⟨g, 12, none⟩) (fun _ => hg) a12
def SB (g lo hi b : Nat) : Prop := b = g ∨ (lo ≤ b ∧ b ≤ hi)
theorem RfV.At.fr {V : RfV} {x : RfS} {w w' : World} {S : Nat → Prop} (h : V.At x w) (ho : ∀ b, S b → V.Off x b) (hf : Fr S w w') : V.At x w' := by
  refine ⟨?_, ?_, ?_⟩
  · by_cases e : x.there = []
    · rw [e]; exact fun j hj => absurd hj (by simp)
    · exact hf.ints h.there (fun a q r => (ho _ r).1 e a q rfl)
  · by_cases e : x.saved = []
    · rw [e]; exact fun j hj => absurd hj (by simp)
    · exact hf.ints h.saved (fun a q r => (ho _ r).2.1 e a q rfl)
  · by_cases e : x.grads = []
    · rw [e]; exact fun j hj => absurd hj (by simp)
    · exact hf.ints h.grads (fun a q r => (ho _ r).2.2 e a q rfl)
structure XP (n : NetD) (c : CkN) (g lo hi : Nat) (F : RfF) (V : RfV) (x : RfS) (w0 w : World) : Prop where
  later : Later w0 w
  hlo : w0.heap.size ≤ lo
  hh : hi < g
  hg : w0.heap.size ≤ g
  box : Blk w g 49 (F.cells V n c x)
  fix : F.Fix n c w
  stay : ∃ wb, Fr (SB g lo hi) wb w ∧ ∀ W, Fr (SB g lo hi) wb W → F.Fix n c W
  at_ : V.At x w
  off : ∀ b, SB g lo hi b → V.Off x b
section
variable {n : NetD} {c : CkN} {g lo hi : Nat} {F : RfF} {V V' : RfV} {x x' : RfS} {w0 w w' : World}
theorem XP.to_later (k : XP n c g lo hi F V x w0 w) (hl : Later w w') : XP n c g lo hi F V x w0 w' := by
  obtain ⟨wb, h1, h2⟩ := k.stay
  exact ⟨k.later.trans hl, k.hlo, k.hh, k.hg, hl.blk k.box, k.fix.later hl, ⟨wb, h1.then_below hl h1.size, h2⟩, k.at_.later hl, k.off⟩
/-- The program's state changes. -/
theorem XP.mv (k : XP n c g lo hi F V x w0 w) (hf : Fr (fun b => lo ≤ b ∧ b ≤ hi) w w') : XP n c g lo hi F V x w0 w' := by
  obtain ⟨wb, h1, h2⟩ := k.stay
  have h3 : Fr (SB g lo hi) wb w' := h1.trans' hf (fun b _ h => .inr h)
  have hh := k.hh
  exact ⟨Below.trans k.later (hf.below (fun b hb => Nat.le_trans k.hlo hb.1) k.later.size), k.hlo, k.hh, k.hg, hf.blk k.box (fun q => by omega), h2 _ h3, ⟨wb, h3, h2⟩, k.at_.fr (fun b hb => k.off b (.inr hb)) hf, k.off⟩
theorem XP.put (k : XP n c g lo hi F V x w0 w) (hA : V'.At x' w) (ho : ∀ b, SB g lo hi b → V'.Off x' b) :
    XP n c g lo hi F V' x' w0 (((((((((((((w.setCell ⟨g, 0, none⟩ (.slice F.A n.inn.length F.c)).setCell ⟨g, 1, none⟩ (.slice F.N n.nodes.length F.d)).setCell ⟨g, 2, none⟩ (.slice F.Wd c.words.length F.cw)).setCell ⟨g, 3, none⟩ (.slice F.Or c.order.length F.co)).setCell ⟨g, 4, none⟩ (.int .i64 c.loss)).setCell ⟨g, 5, none⟩ (.int .i64 c.cap)).setCell ⟨g, 6, none⟩ (.slice V'.Th x'.there.length V'.ct)).setCell ⟨g, 7, none⟩ (.slice V'.Sa x'.saved.length V'.cs)).setCell ⟨g, 8, none⟩ (.slice V'.Gr x'.grads.length V'.cg)).setCell ⟨g, 9, none⟩ (.int .i64 x'.em)).setCell ⟨g, 10, none⟩ (.int .i64 x'.sd)).setCell ⟨g, 11, none⟩ (.int .i64 x'.done)).setCell ⟨g, 12, none⟩ (.int .i64 x'.peak)) := by
  obtain ⟨wb, h1, h2⟩ := k.stay
  have hf := frs13 (g := g) h1 (.inl rfl) (.slice F.A n.inn.length F.c) (.slice F.N n.nodes.length F.d) (.slice F.Wd c.words.length F.cw) (.slice F.Or c.order.length F.co) (.int .i64 c.loss) (.int .i64 c.cap) (.slice V'.Th x'.there.length V'.ct) (.slice V'.Sa x'.saved.length V'.cs) (.slice V'.Gr x'.grads.length V'.cg) (.int .i64 x'.em) (.int .i64 x'.sd) (.int .i64 x'.done) (.int .i64 x'.peak)
  have hf2 := frs13 (g := g) (Fr.refl (fun b => b = g) w) rfl (.slice F.A n.inn.length F.c) (.slice F.N n.nodes.length F.d) (.slice F.Wd c.words.length F.cw) (.slice F.Or c.order.length F.co) (.int .i64 c.loss) (.int .i64 c.cap) (.slice V'.Th x'.there.length V'.ct) (.slice V'.Sa x'.saved.length V'.cs) (.slice V'.Gr x'.grads.length V'.cg) (.int .i64 x'.em) (.int .i64 x'.sd) (.int .i64 x'.done) (.int .i64 x'.peak)
  refine ⟨later13 k.later k.hg _ _ _ _ _ _ _ _ _ _ _ _ _, k.hlo, k.hh, k.hg, ?_, h2 _ hf, ⟨wb, hf, h2⟩, ?_, ho⟩
  · exact Blk.set13 k.box rfl _ _ _ _ _ _ _ _ _ _ _ _ _
  · exact hA.fr (fun b hb => ho b (.inl hb)) hf2
end
theorem XP.start {t : TypeId} {n : NetD} {cap : Int} {g lo hi B C c : Nat} {A N N' Wd Or : Option Addr} {cw co d' : Nat} {V : RfV} {W wb wf : World} (hW : Later W wb) (hlo : W.heap.size ≤ lo) (hh : hi < g) (hg : W.heap.size ≤ g) (hrow : RefRow t B C W wb (.slice N' n.nodes.length d') n.nodes) (hB : hi < B) (hBg : g < B ∨ C ≤ g) (hR : NetR W A N n)
    (rW : Ints .i64 wb Wd (Nt.words n)) (oW : Nt.words n ≠ [] → ∀ a, Wd = some a → ¬ SB g lo hi a.block) (rO : Ints .i64 wb Or (Nt.sorted n.nodes)) (oO : Nt.sorted n.nodes ≠ [] → ∀ a, Or = some a → ¬ SB g lo hi a.block) (hA : V.At Rf.start wb) (ho : ∀ b, SB g lo hi b → V.Off Rf.start b) (hf : Fr (fun b => b = g) wb wf) (hbox : Blk wf g 49 (RfF.cells ⟨A, N', Wd, Or, c, d', cw, co⟩ V n (Ck.base n cap) Rf.start)) :
    XP n (Ck.base n cap) g lo hi ⟨A, N', Wd, Or, c, d', cw, co⟩ V Rf.start W wf := by
  have hL : ∀ W', Fr (SB g lo hi) wb W' → Later W W' := fun W' h => Below.trans hW (h.below (B := W.heap.size) (fun b q => by rcases q with q | q <;> omega) hW.size)
  have hst : ∀ W', Fr (SB g lo hi) wb W' → RfF.Fix ⟨A, N', Wd, Or, c, d', cw, co⟩ n (Ck.base n cap) W' := fun W' h => by
    refine ⟨(hrow.fr h (fun b h1 h2 h3 => by rcases h3 with q | q <;> omega)).net (hL W' h) hR, ?_, ?_⟩
    · by_cases e : Nt.words n = []
      · show Ints .i64 W' Wd (Nt.words n); rw [e]; exact fun j hj => absurd hj (by simp)
      · exact h.ints rW (oW e)
    · by_cases e : Nt.sorted n.nodes = []
      · show Ints .i64 W' Or (Nt.sorted n.nodes); rw [e]; exact fun j hj => absurd hj (by simp)
      · exact h.ints rO (oO e)
  have hf' : Fr (SB g lo hi) wb wf := hf.mono (fun b _ q => .inl q)
  exact ⟨hL wf hf', hlo, hh, hg, hbox, hst wf hf', ⟨wb, hf', hst⟩, hA.fr (fun b q => ho b (.inl q)) hf, ho⟩
/-- A block that isn't the state's changes. -/
theorem CkM.frg {a : CkA} {c : CkN} {W0 W W' : World} {s : CkS} {g : Nat} (h : CkM a c W0 s W) (hS : a.Still c W0) (hf : Fr (fun b => b = g) W W') (hg : a.g3 < g) : CkM a c W0 s W' := by
  have h0 := hS.hp
  have h1 := hS.h1
  have h2 := hS.h2
  have h3 := hS.h3
  exact ⟨Below.trans h.later (hf.below (fun b q => by subst q; omega) h.later.size), hf.blk h.box (by omega), hf.blk h.pres (by omega), hf.blk h.sav (by omega), hf.blk h.grad (by omega), h.l1, h.l2, h.l3⟩
theorem Rf.zero_do {c : CkN} {x : RfS} {k id : Int} (h0 : (0 : Int) ∈ x.there) (hr : Cd.right (k, id) = true) : (0 : Int) ∈ (Rf.do_ c x k id).1.there := by
  unfold Rf.do_
  split
  · exact h0
  · split
    · exact h0
    · split
      · exact h0
      · show (0 : Int) ∈ (Rf.step c x k id).there
        rcases (Rf.right_k hr).2 with rfl | rfl | rfl | rfl | rfl | rfl
        · exact Rf.mem_with.2 (.inl h0)
        · exact Rf.mem_with.2 (.inl h0)
        · have := Rf.right_pos hr (by decide) (by decide)
          exact Rf.mem_without.2 ⟨h0, by omega⟩
        · exact h0
        · exact h0
        · exact h0
end Go.Proofs.YtmmgdgfpemkdnaaGreat
