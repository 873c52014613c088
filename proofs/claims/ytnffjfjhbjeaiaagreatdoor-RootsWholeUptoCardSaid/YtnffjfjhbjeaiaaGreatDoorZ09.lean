/- Lemmas for the statements of this seat: contracts of functions and the plain laws. -/
import Derived.Deep.DeepCutAuto
import Derived.Deep.OwnRows
import Derived.Deep.RegionHeld3
import Derived.Test.YtnffjfjhbjeaiaaGreatDoorZ08
set_option linter.unusedVariables false
/- Layer 21 (roots): begin: contract. -/
namespace Go.Proofs.YtnffjfjhbjeaiaaGreatDoor
open Go.RowKit
/-- The three rows, wherever they were made, and the box that tells where. -/
structure RtNew (p g1 g2 g3 L : Nat) (cs : Value → Value → Value → Array Value) (W4 w : World) : Prop where
  later : Later W4 w
  hp : W4.heap.size ≤ p
  h1 : p < g1
  h2 : p < g2
  h3 : p < g3
  n12 : g1 ≠ g2
  n13 : g1 ≠ g3
  n23 : g2 ≠ g3
  box : Blk w p 74 (cs (.slice (some ⟨g1, 0, none⟩) L L) (.slice (some ⟨g2, 0, none⟩) L L) (.slice (some ⟨g3, 0, none⟩) L L))
  first : Blk w g1 3 (madeCells #[.int .i64 0] L)
  kept : Blk w g2 4 (madeCells #[.bool false] L)
  pres : Blk w g3 4 (madeCells #[.bool false] L)
/-- While the row of first users is filled. -/
structure RtFst (n : NetD) (p g1 g2 g3 : Nat) (bx : Array Value) (W4 : World) (f : List Int) (w : World) : Prop where
  later : Later W4 w
  box : Blk w p 74 bx
  first : Blk w g1 3 (intV f).toArray
  kept : Blk w g2 4 ((List.replicate (n.nodes.length + 1) false).map Value.bool).toArray
  pres : Blk w g3 4 ((List.replicate (n.nodes.length + 1) false).map Value.bool).toArray
theorem made_arr (v : Value) (n : Nat) : madeCells #[v] n = (List.replicate n v).toArray := by
  have h := made_one v n
  rw [← h]
theorem RtFst.to_later {n : NetD} {p g1 g2 g3 : Nat} {bx : Array Value} {W4 w w' : World} {f : List Int} (h : RtFst n p g1 g2 g3 bx W4 f w) (hl : Later w w') : RtFst n p g1 g2 g3 bx W4 f w' := ⟨h.later.trans hl, hl.blk h.box, hl.blk h.first, hl.blk h.kept, hl.blk h.pres⟩
theorem RtFst.put {n : NetD} {p g1 g2 g3 : Nat} {bx : Array Value} {W4 w : World} {f : List Int} (h : RtFst n p g1 g2 g3 bx W4 f w) (hg : W4.heap.size ≤ g1) (h1 : p ≠ g1) (h2 : g2 ≠ g1) (h3 : g3 ≠ g1) (u : Nat) (z : Int) : RtFst n p g1 g2 g3 bx W4 (f.set u z) (w.setCell ⟨g1, u, none⟩ (.int .i64 z)) := by
  refine ⟨h.later.set (p := ⟨g1, u, none⟩) hg _, h.box.far (p := ⟨g1, u, none⟩) h1 _, ?_, h.kept.far (p := ⟨g1, u, none⟩) h2 _, h.pres.far (p := ⟨g1, u, none⟩) h3 _⟩
  have hb := h.first.set_ u (.int .i64 z)
  simpa [intV, List.map_set] using hb
def BeginP (n : NetD) (A N : Option Addr) (c d : Nat) (W : World) (e : Ending) (w' : World) : Prop :=
  (Nt.check n ≠ 0 ∧ e = .returned (.tuple #[.pointer none, .int .i64 (Nt.check n)]) ∨ Nt.check n = 0 ∧ ∃ a W0, RtA.Still a n W0 ∧ Later W W0 ∧ e = .returned (.tuple #[.pointer (some ⟨a.p, 0, none⟩), .int .i64 0]) ∧ RtM a n (List.replicate (n.nodes.length + 1) false) W0 (Rt.start (n.nodes.length + 1)) w') ∧ Later W w'
set_option maxHeartbeats 16000000 in
set_option maxRecDepth 100000 in
theorem roots_begin (A N : Option Addr) (c d : Nat) (n : NetD) (W : World) (hok : n.ok) (hR : NetR W A N n) (hd : n.nodes.length ≤ d) (h12 : n.nodes.length ≤ 12) :
    Calls Tryz.prog 26 #[.agg #[.slice A n.inn.length c, .slice N n.nodes.length d]] W (BeginP n A N c d W) := by
  have hk0 := Blk.new W 26 #[.slice A n.inn.length c, .slice N n.nodes.length d]
  have hl0 : Later W (W.alloc (.cells #[.slice A n.inn.length c, .slice N n.nodes.length d] 26)) := (Later.refl W).alloc _
  have HR := Lib.hid hR
  have Hok := Lib.hid hok
  have Hk0 := Lib.hid hk0
  have Hl0 := Lib.hid hl0
  clear hR hok hk0 hl0
  go_enter Tryz.func26, Tryz.ntmps26
  go_wp2_with fail
  generalize W.alloc (.cells #[.slice A n.inn.length c, .slice N n.nodes.length d] 26) = W1 at *
  refine (net_order A N c d n W1 Hok.out (HR.out.below Hl0.out (Nat.le_refl _)) hd).mono ?_
  rintro e W2 ⟨hb2, ⟨hch, O, oc, rfl, hO, -, -⟩ | ⟨hch, rfl⟩⟩
  all_goals
    have hl12 : Later W1 W2 := hb2
    have hl2 := Hl0.out.trans hl12
    have hk2 := hl12.blk Hk0.out
    clear hb2
  rotate_left
  · have hne : (Nt.check n != 0) = true := by simp [hch]
    have Hch := Lib.hid hch
    have Hl2 := Lib.hid hl2
    clear hch hl2
    clear hl12 hk2
    go_wp2_with fail
    go_ret2
    exact ⟨.inl ⟨Hch.out, rfl⟩, Hl2.out⟩
  have x0 := hk2.cell 0
  have x1 := hk2.cell 1
  simp at x0 x1
  have Hch := Lib.hid hch
  have Hl2 := Lib.hid hl2
  have Hk2 := Lib.hid hk2
  have HO := Lib.hid hO
  clear hch hl2 hk2 hO
  clear hl12
  go_wp2_with fail
  refine (price_last A N c d n W2 Hok.out (HR.out.below Hl2.out (Nat.le_refl _)) hd).mono ?_
  rintro e W3 ⟨hb3, ⟨-, gl, rfl, hgl⟩ | ⟨hch, -⟩⟩
  rotate_left
  · exact absurd Hch.out hch
  have hl23 : Later W2 W3 := hb3
  have hl3 := Hl2.out.trans hl23
  have hk3 := hl23.blk Hk2.out
  have hO3 := HO.out.below hl23 (Nat.le_refl _)
  clear x0 x1
  have x0 := hk3.cell 0
  have x1 := hk3.cell 1
  simp at x0 x1
  have Hl3 := Lib.hid hl3
  have Hk3 := Lib.hid hk3
  have HO3 := Lib.hid hO3
  have Hgl := Lib.hid hgl
  clear hl3 hk3 hO3 hgl
  clear hb3 hl23 HO Hk2 Hl2
  go_wp2_with fail
  refine (net_loss A N c d n W3 Hok.out (HR.out.below Hl3.out (Nat.le_refl _)) hd).mono ?_
  rintro e W4 ⟨rfl, hb4⟩
  rw [Hch.out, show lossE n = Nt.loss n.nodes by unfold lossE; rw [if_pos Hch.out]]
  have hl34 : Later W3 W4 := hb4
  have hl4 := Hl3.out.trans hl34
  have hk4 := hl34.blk Hk3.out
  have hO4 := HO3.out.below hl34 (Nat.le_refl _)
  have hgl4 := hl34.blk Hgl.out
  clear x0 x1
  have x0 := hk4.cell 0
  have x1 := hk4.cell 1
  simp at x0 x1
  have Hl4 := Lib.hid hl4
  have Hk4 := Lib.hid hk4
  have HO4 := Lib.hid hO4
  have Hgl4 := Lib.hid hgl4
  clear hl4 hk4 hO4 hgl4
  clear hb4 hl34 HO3 Hk3 Hl3 Hgl
  have hmI : ∀ w : World, (Instr.makeSlice 22 (.int .i64 ((n.nodes.length : Int) + 1)) (.int .i64 ((n.nodes.length : Int) + 1))).run Tryz.prog w = .ok (.slice (some ⟨w.heap.size, 0, none⟩) (n.nodes.length + 1) (n.nodes.length + 1)) (w.alloc (.cells (madeCells #[.int .i64 0] (n.nodes.length + 1)) 3)) := fun w => by
    have h := run_make_row' (P := Tryz.prog) 22 3 (.int .i64 0) 8 Tryz.underlying22 int_info rfl .i64 .i64 (n.nodes.length + 1) (by omega) (by omega) w
    rw [Int.natCast_succ] at h
    exact h
  have hmB : ∀ w : World, (Instr.makeSlice 72 (.int .i64 ((n.nodes.length : Int) + 1)) (.int .i64 ((n.nodes.length : Int) + 1))).run Tryz.prog w = .ok (.slice (some ⟨w.heap.size, 0, none⟩) (n.nodes.length + 1) (n.nodes.length + 1)) (w.alloc (.cells (madeCells #[.bool false] (n.nodes.length + 1)) 4)) := fun w => by
    have h := run_make_row' (P := Tryz.prog) 72 4 (.bool false) 1 Tryz.underlying72 bool_info rfl .i64 .i64 (n.nodes.length + 1) (by omega) (by omega) w
    rw [Int.natCast_succ] at h
    exact h
  have HmI := Lib.hid hmI
  have HmB := Lib.hid hmB
  clear hmI hmB
  generalize hLo : Nt.loss n.nodes = lo at *
  have HLo := Lib.hid hLo
  clear hLo
  go_upto_region 12 with fail
  have hbx := Blk.new W4 74 #[.slice A n.inn.length c, .slice N n.nodes.length d, .slice O n.nodes.length oc, .slice (some ⟨gl, 0, none⟩) (n.nodes.length + 1) (n.nodes.length + 1), .slice none 0 0, .int .i64 lo, .slice none 0 0, .slice none 0 0, .slice none 0 0]
  have hl45 : Later W4 (W4.alloc (.cells #[.slice A n.inn.length c, .slice N n.nodes.length d, .slice O n.nodes.length oc, .slice (some ⟨gl, 0, none⟩) (n.nodes.length + 1) (n.nodes.length + 1), .slice none 0 0, .int .i64 lo, .slice none 0 0, .slice none 0 0, .slice none 0 0] 74)) := (Later.refl W4).alloc _
  have hs5 : W4.heap.size < (W4.alloc (.cells #[.slice A n.inn.length c, .slice N n.nodes.length d, .slice O n.nodes.length oc, .slice (some ⟨gl, 0, none⟩) (n.nodes.length + 1) (n.nodes.length + 1), .slice none 0 0, .int .i64 lo, .slice none 0 0, .slice none 0 0, .slice none 0 0] 74)).heap.size := hbx.lt
  generalize W4.alloc (.cells #[.slice A n.inn.length c, .slice N n.nodes.length d, .slice O n.nodes.length oc, .slice (some ⟨gl, 0, none⟩) (n.nodes.length + 1) (n.nodes.length + 1), .slice none 0 0, .int .i64 lo, .slice none 0 0, .slice none 0 0, .slice none 0 0] 74) = W5 at *
  generalize hp : W4.heap.size = p at *
  have b4 : W5.cell? ⟨p, 4, none⟩ = some (.slice none 0 0) := hbx.cell 4
  have b6 : W5.cell? ⟨p, 6, none⟩ = some (.slice none 0 0) := hbx.cell 6
  have b7 : W5.cell? ⟨p, 7, none⟩ = some (.slice none 0 0) := hbx.cell 7
  have f4 := hbx.frozen 4
  have f6 := hbx.frozen 6
  have f7 := hbx.frozen 7
  have Hbx := Lib.hid hbx
  have Hl45 := Lib.hid hl45
  have Hp := Lib.hid hp
  clear hbx hl45 hp
  go_cut [61] (fun _ wx => ∃ g1 g2 g3, RtNew p g1 g2 g3 (n.nodes.length + 1) (fun v1 v2 v3 => #[.slice A n.inn.length c, .slice N n.nodes.length d, .slice O n.nodes.length oc, .slice (some ⟨gl, 0, none⟩) (n.nodes.length + 1) (n.nodes.length + 1), v1, .int .i64 lo, v2, v3, .slice none 0 0]) W4 wx)
  case first =>
    have hmI := HmI.out
    have hmB := HmB.out
    have hbx := Hbx.out
    have hl45 := Hl45.out
    have hp4 : W4.heap.size ≤ p := Nat.le_of_eq Hp.out
    clear HmI HmB x0 x1 b4 b6 b7 f4 f6 f7 Hbx Hl45 hs5
    --REGION
    refine wp_region_noPanic ?_
    refine wp_region_held_drew (S := fun _ => True) (by kernel_rfl) trivial (fun _ => ?_)
    refine wpAnyH_take (i := 0) (oi := _) (v := ?v1) rfl (by kernel_rfl) (by kernel_rfl) (by kernel_rfl) (fun _ _ _ h => h) (Or.inl ⟨by rfl, ?y1⟩) trivial ?r1
    case y1 => (simp only [List.getElem_toArray, List.getElem_cons_zero]; intro w hSw; go_simp; first | done | with_reducible rfl)
    try simp only [List.getElem_toArray, List.getElem_cons_zero, Act.put, List.setIfInBounds_toArray, List.set_cons_zero, List.set_cons_succ]
    refine wpAnyH_take (i := 1) (oi := _) (v := ?v2) rfl (by kernel_rfl) (by kernel_rfl) (by kernel_rfl) (fun _ _ _ h => h) (Or.inl ⟨by rfl, ?y2⟩) trivial ?r2
    case y2 => (simp only [List.getElem_toArray, List.getElem_cons_succ, List.getElem_cons_zero]; intro w hSw; go_simp; first | done | with_reducible rfl)
    try simp only [List.getElem_toArray, List.getElem_cons_succ, List.getElem_cons_zero, Act.put, List.setIfInBounds_toArray, List.set_cons_zero, List.set_cons_succ]
    refine wpAnyH_take (i := 2) (oi := _) (v := ?v3) rfl (by kernel_rfl) (by kernel_rfl) (by kernel_rfl) (fun _ _ _ h => h) (Or.inl ⟨by rfl, ?y3⟩) trivial ?r3
    case y3 => (simp only [List.getElem_toArray, List.getElem_cons_succ, List.getElem_cons_zero]; intro w hSw; go_simp; first | done | with_reducible rfl)
    try simp only [List.getElem_toArray, List.getElem_cons_succ, List.getElem_cons_zero, Act.put, List.setIfInBounds_toArray, List.set_cons_zero, List.set_cons_succ]
    refine wpAnyH_take (i := 3) (oi := _) (v := ?v4) rfl (by kernel_rfl) (by kernel_rfl) (by kernel_rfl) (fun _ _ _ h => h) (Or.inl ⟨by rfl, ?y4⟩) trivial ?r4
    case y4 => (simp only [List.getElem_toArray, List.getElem_cons_succ, List.getElem_cons_zero]; intro w hSw; go_simp; first | done | with_reducible rfl)
    try simp only [List.getElem_toArray, List.getElem_cons_succ, List.getElem_cons_zero, Act.put, List.setIfInBounds_toArray, List.set_cons_zero, List.set_cons_succ]
    refine wpAnyH_take (i := 5) (oi := _) (v := ?v5) rfl (by kernel_rfl) (by kernel_rfl) (by kernel_rfl) (fun _ _ _ h => h) (Or.inl ⟨by rfl, ?y5⟩) trivial ?r5
    case y5 => (simp only [List.getElem_toArray, List.getElem_cons_succ, List.getElem_cons_zero]; intro w hSw; go_simp; first | done | with_reducible rfl)
    try simp only [List.getElem_toArray, List.getElem_cons_succ, List.getElem_cons_zero, Act.put, List.setIfInBounds_toArray, List.set_cons_zero, List.set_cons_succ]
    refine wpAnyH_take (i := 7) (oi := _) (v := ?v6) rfl (by kernel_rfl) (by kernel_rfl) (by kernel_rfl) (fun _ _ _ h => h) (Or.inl ⟨by rfl, ?y6⟩) trivial ?r6
    case y6 => (simp only [List.getElem_toArray, List.getElem_cons_succ, List.getElem_cons_zero]; intro w hSw; go_simp; first | done | with_reducible rfl)
    try simp only [List.getElem_toArray, List.getElem_cons_succ, List.getElem_cons_zero, Act.put, List.setIfInBounds_toArray, List.set_cons_zero, List.set_cons_succ]
    have hl := hl45.drew
    have hbx := hbx.drew
    clear hl45
    generalize W5.drew = w0 at *
    refine wpAnyH_ready (rs := [4, 6, 8]) (by kernel_rfl) (by simp) ?_
    refine AllReadyH.cons (o := _) rfl (fun K hK => ?_) ?_
    · simp only [List.getElem_toArray, List.getElem_cons_succ, List.getElem_cons_zero]
      go_simp
      refine hK.out _ _ trivial (fun _ => ?_)
      clear hK K
      try simp only [List.getElem_toArray, List.getElem_cons_succ, List.getElem_cons_zero, Act.put, List.setIfInBounds_toArray, List.set_cons_zero, List.set_cons_succ]
      have hb1 := Blk.new w0 3 (madeCells #[.int .i64 0] (n.nodes.length + 1))
      have hl := hl.alloc (.cells (madeCells #[.int .i64 0] (n.nodes.length + 1)) 3)
      have hlt := hbx.lt
      have hbx := hbx.alloc (.cells (madeCells #[.int .i64 0] (n.nodes.length + 1)) 3)
      generalize w0.alloc (.cells (madeCells #[.int .i64 0] (n.nodes.length + 1)) 3) = w1 at *
      generalize w0.heap.size = g1 at *
      have h1 : p < g1 := hlt
      clear hlt
      refine wpAnyH_take (i := 9) (oi := _) (v := ?v7) rfl (by kernel_rfl) (by kernel_rfl) (by kernel_rfl) (fun _ _ _ h => h) (Or.inl ⟨by rfl, ?y7⟩) trivial ?r7
      case y7 => (simp only [List.getElem_toArray, List.getElem_cons_succ, List.getElem_cons_zero]; intro w hSw; go_simp; first | done | with_reducible rfl)
      try simp only [List.getElem_toArray, List.getElem_cons_succ, List.getElem_cons_zero, Act.put, List.setIfInBounds_toArray, List.set_cons_zero, List.set_cons_succ]
      refine wpAnyH_take (i := 10) (oi := _) (v := ?v8) rfl (by kernel_rfl) (by kernel_rfl) (by kernel_rfl) (fun _ _ _ h => h) (Or.inl ⟨by rfl, ?y8⟩) trivial ?r8
      case y8 => (simp only [List.getElem_toArray, List.getElem_cons_succ, List.getElem_cons_zero]; intro w hSw; go_simp; first | done | with_reducible rfl)
      try simp only [List.getElem_toArray, List.getElem_cons_succ, List.getElem_cons_zero, Act.put, List.setIfInBounds_toArray, List.set_cons_zero, List.set_cons_succ]
      refine wpAnyH_ready (rs := [6, 8, 11]) (by kernel_rfl) (by simp) ?_
      refine AllReadyH.cons (o := _) rfl (fun K hK => ?_) ?_
      · simp only [List.getElem_toArray, List.getElem_cons_succ, List.getElem_cons_zero]
        go_simp
        refine hK.out _ _ trivial (fun _ => ?_)
        clear hK K
        try simp only [List.getElem_toArray, List.getElem_cons_succ, List.getElem_cons_zero, Act.put, List.setIfInBounds_toArray, List.set_cons_zero, List.set_cons_succ]
        have hb2 := Blk.new w1 4 (madeCells #[.bool false] (n.nodes.length + 1))
        have hl := hl.alloc (.cells (madeCells #[.bool false] (n.nodes.length + 1)) 4)
        have hlt := hbx.lt
        have hbx := hbx.alloc (.cells (madeCells #[.bool false] (n.nodes.length + 1)) 4)
        have hlt1 := hb1.lt
        have hb1 := hb1.alloc (.cells (madeCells #[.bool false] (n.nodes.length + 1)) 4)
        generalize w1.alloc (.cells (madeCells #[.bool false] (n.nodes.length + 1)) 4) = w2 at *
        generalize w1.heap.size = g2 at *
        have h2 : p < g2 := hlt
        have d12 : g1 < g2 := hlt1
        clear hlt hlt1
        refine wpAnyH_ready (rs := [8, 11]) (by kernel_rfl) (by simp) ?_
        refine AllReadyH.cons (o := _) rfl (fun K hK => ?_) ?_
        · simp only [List.getElem_toArray, List.getElem_cons_succ, List.getElem_cons_zero]
          go_simp
          refine hK.out _ _ trivial (fun _ => ?_)
          clear hK K
          try simp only [List.getElem_toArray, List.getElem_cons_succ, List.getElem_cons_zero, Act.put, List.setIfInBounds_toArray, List.set_cons_zero, List.set_cons_succ]
          have hb3 := Blk.new w2 4 (madeCells #[.bool false] (n.nodes.length + 1))
          have hl := hl.alloc (.cells (madeCells #[.bool false] (n.nodes.length + 1)) 4)
          have hlt := hbx.lt
          have hbx := hbx.alloc (.cells (madeCells #[.bool false] (n.nodes.length + 1)) 4)
          have hlt1 := hb1.lt
          have hb1 := hb1.alloc (.cells (madeCells #[.bool false] (n.nodes.length + 1)) 4)
          have hlt2 := hb2.lt
          have hb2 := hb2.alloc (.cells (madeCells #[.bool false] (n.nodes.length + 1)) 4)
          generalize w2.alloc (.cells (madeCells #[.bool false] (n.nodes.length + 1)) 4) = w3 at *
          generalize w2.heap.size = g3 at *
          have h3 : p < g3 := hlt
          have d13 : g1 < g3 := hlt1
          have d23 : g2 < g3 := hlt2
          clear hlt hlt1 hlt2
          refine wpAnyH_ready (rs := [11]) (by kernel_rfl) (by simp) ?_
          refine AllReadyH.cons (o := _) rfl (fun K hK => ?_) ?_
          · simp only [List.getElem_toArray, List.getElem_cons_succ, List.getElem_cons_zero]
            have yc : w3.cell? ⟨p, 4, none⟩ = some (.slice none 0 0) := hbx.cell 4
            have fc := hbx.frozen 4
            go_simp
            clear yc fc
            refine hK.out _ _ trivial (fun _ => ?_)
            clear hK K
            try simp only [List.getElem_toArray, List.getElem_cons_succ, List.getElem_cons_zero, Act.put, List.setIfInBounds_toArray, List.set_cons_zero, List.set_cons_succ]
            have hl := hl.set (p := ⟨p, 4, none⟩) hp4 (.slice (some ⟨g1, 0, none⟩) (n.nodes.length + 1) (n.nodes.length + 1))
            have hbx := hbx.set_ 4 (.slice (some ⟨g1, 0, none⟩) (n.nodes.length + 1) (n.nodes.length + 1))
            have hb1 := hb1.far (p := ⟨p, 4, none⟩) (by show g1 ≠ p; omega) (.slice (some ⟨g1, 0, none⟩) (n.nodes.length + 1) (n.nodes.length + 1))
            have hb2 := hb2.far (p := ⟨p, 4, none⟩) (by show g2 ≠ p; omega) (.slice (some ⟨g1, 0, none⟩) (n.nodes.length + 1) (n.nodes.length + 1))
            have hb3 := hb3.far (p := ⟨p, 4, none⟩) (by show g3 ≠ p; omega) (.slice (some ⟨g1, 0, none⟩) (n.nodes.length + 1) (n.nodes.length + 1))
            generalize w3.setCell ⟨p, 4, none⟩ (.slice (some ⟨g1, 0, none⟩) (n.nodes.length + 1) (n.nodes.length + 1)) = w4 at *
            refine wpAnyH_take (i := 12) (oi := _) (v := ?v9) rfl (by kernel_rfl) (by kernel_rfl) (by kernel_rfl) (fun _ _ _ h => h) (Or.inl ⟨by rfl, ?y9⟩) trivial ?r9
            case y9 => (simp only [List.getElem_toArray, List.getElem_cons_succ, List.getElem_cons_zero]; intro w hSw; go_simp; first | done | with_reducible rfl)
            try simp only [List.getElem_toArray, List.getElem_cons_succ, List.getElem_cons_zero, Act.put, List.setIfInBounds_toArray, List.set_cons_zero, List.set_cons_succ]
            refine wpAnyH_take (i := 13) (oi := _) (v := ?v10) rfl (by kernel_rfl) (by kernel_rfl) (by kernel_rfl) (fun _ _ _ h => h) (Or.inl ⟨by rfl, ?y10⟩) trivial ?r10
            case y10 => (simp only [List.getElem_toArray, List.getElem_cons_succ, List.getElem_cons_zero]; intro w hSw; go_simp; first | done | with_reducible rfl)
            try simp only [List.getElem_toArray, List.getElem_cons_succ, List.getElem_cons_zero, Act.put, List.setIfInBounds_toArray, List.set_cons_zero, List.set_cons_succ]
            refine wpAnyH_ready (rs := [14]) (by kernel_rfl) (by simp) ?_
            refine AllReadyH.cons (o := _) rfl (fun K hK => ?_) ?_
            · simp only [List.getElem_toArray, List.getElem_cons_succ, List.getElem_cons_zero]
              have yc : w4.cell? ⟨p, 6, none⟩ = some (.slice none 0 0) := hbx.cell 6
              have fc := hbx.frozen 6
              go_simp
              clear yc fc
              refine hK.out _ _ trivial (fun _ => ?_)
              clear hK K
              try simp only [List.getElem_toArray, List.getElem_cons_succ, List.getElem_cons_zero, Act.put, List.setIfInBounds_toArray, List.set_cons_zero, List.set_cons_succ]
              have hl := hl.set (p := ⟨p, 6, none⟩) hp4 (.slice (some ⟨g2, 0, none⟩) (n.nodes.length + 1) (n.nodes.length + 1))
              have hbx := hbx.set_ 6 (.slice (some ⟨g2, 0, none⟩) (n.nodes.length + 1) (n.nodes.length + 1))
              have hb1 := hb1.far (p := ⟨p, 6, none⟩) (by show g1 ≠ p; omega) (.slice (some ⟨g2, 0, none⟩) (n.nodes.length + 1) (n.nodes.length + 1))
              have hb2 := hb2.far (p := ⟨p, 6, none⟩) (by show g2 ≠ p; omega) (.slice (some ⟨g2, 0, none⟩) (n.nodes.length + 1) (n.nodes.length + 1))
              have hb3 := hb3.far (p := ⟨p, 6, none⟩) (by show g3 ≠ p; omega) (.slice (some ⟨g2, 0, none⟩) (n.nodes.length + 1) (n.nodes.length + 1))
              generalize w4.setCell ⟨p, 6, none⟩ (.slice (some ⟨g2, 0, none⟩) (n.nodes.length + 1) (n.nodes.length + 1)) = w5 at *
              refine wpAnyH_take (i := 15) (oi := _) (v := ?v11) rfl (by kernel_rfl) (by kernel_rfl) (by kernel_rfl) (fun _ _ _ h => h) (Or.inl ⟨by rfl, ?y11⟩) trivial ?r11
              case y11 => (simp only [List.getElem_toArray, List.getElem_cons_succ, List.getElem_cons_zero]; intro w hSw; go_simp; first | done | with_reducible rfl)
              try simp only [List.getElem_toArray, List.getElem_cons_succ, List.getElem_cons_zero, Act.put, List.setIfInBounds_toArray, List.set_cons_zero, List.set_cons_succ]
              refine wpAnyH_take (i := 16) (oi := _) (v := ?v12) rfl (by kernel_rfl) (by kernel_rfl) (by kernel_rfl) (fun _ _ _ h => h) (Or.inl ⟨by rfl, ?y12⟩) trivial ?r12
              case y12 => (simp only [List.getElem_toArray, List.getElem_cons_succ, List.getElem_cons_zero]; intro w hSw; go_simp; first | done | with_reducible rfl)
              try simp only [List.getElem_toArray, List.getElem_cons_succ, List.getElem_cons_zero, Act.put, List.setIfInBounds_toArray, List.set_cons_zero, List.set_cons_succ]
              refine wpAnyH_ready (rs := [17]) (by kernel_rfl) (by simp) ?_
              refine AllReadyH.cons (o := _) rfl (fun K hK => ?_) ?_
              · simp only [List.getElem_toArray, List.getElem_cons_succ, List.getElem_cons_zero]
                have yc : w5.cell? ⟨p, 7, none⟩ = some (.slice none 0 0) := hbx.cell 7
                have fc := hbx.frozen 7
                go_simp
                clear yc fc
                refine hK.out _ _ trivial (fun _ => ?_)
                clear hK K
                try simp only [List.getElem_toArray, List.getElem_cons_succ, List.getElem_cons_zero, Act.put, List.setIfInBounds_toArray, List.set_cons_zero, List.set_cons_succ]
                have hl := hl.set (p := ⟨p, 7, none⟩) hp4 (.slice (some ⟨g3, 0, none⟩) (n.nodes.length + 1) (n.nodes.length + 1))
                have hbx := hbx.set_ 7 (.slice (some ⟨g3, 0, none⟩) (n.nodes.length + 1) (n.nodes.length + 1))
                have hb1 := hb1.far (p := ⟨p, 7, none⟩) (by show g1 ≠ p; omega) (.slice (some ⟨g3, 0, none⟩) (n.nodes.length + 1) (n.nodes.length + 1))
                have hb2 := hb2.far (p := ⟨p, 7, none⟩) (by show g2 ≠ p; omega) (.slice (some ⟨g3, 0, none⟩) (n.nodes.length + 1) (n.nodes.length + 1))
                have hb3 := hb3.far (p := ⟨p, 7, none⟩) (by show g3 ≠ p; omega) (.slice (some ⟨g3, 0, none⟩) (n.nodes.length + 1) (n.nodes.length + 1))
                generalize w5.setCell ⟨p, 7, none⟩ (.slice (some ⟨g3, 0, none⟩) (n.nodes.length + 1) (n.nodes.length + 1)) = w6 at *
                refine wpAnyH_done (by kernel_rfl) ?_ _
                refine NoPanic.normal ?_
                go_wp2_with fail
                go_meet
                exact ⟨g1, g2, g3, ⟨hl, hp4, h1, h2, h3, by omega, by omega, by omega, hbx, hb1, hb2, hb3⟩⟩
              exact AllReadyH.nil
            exact AllReadyH.nil
          exact AllReadyH.nil
        refine AllReadyH.cons (o := _) rfl (fun K hK => ?_) ?_
        · simp only [List.getElem_toArray, List.getElem_cons_succ, List.getElem_cons_zero]
          have yc : w2.cell? ⟨p, 4, none⟩ = some (.slice none 0 0) := hbx.cell 4
          have fc := hbx.frozen 4
          go_simp
          clear yc fc
          refine hK.out _ _ trivial (fun _ => ?_)
          clear hK K
          try simp only [List.getElem_toArray, List.getElem_cons_succ, List.getElem_cons_zero, Act.put, List.setIfInBounds_toArray, List.set_cons_zero, List.set_cons_succ]
          have hl := hl.set (p := ⟨p, 4, none⟩) hp4 (.slice (some ⟨g1, 0, none⟩) (n.nodes.length + 1) (n.nodes.length + 1))
          have hbx := hbx.set_ 4 (.slice (some ⟨g1, 0, none⟩) (n.nodes.length + 1) (n.nodes.length + 1))
          have hb1 := hb1.far (p := ⟨p, 4, none⟩) (by show g1 ≠ p; omega) (.slice (some ⟨g1, 0, none⟩) (n.nodes.length + 1) (n.nodes.length + 1))
          have hb2 := hb2.far (p := ⟨p, 4, none⟩) (by show g2 ≠ p; omega) (.slice (some ⟨g1, 0, none⟩) (n.nodes.length + 1) (n.nodes.length + 1))
          generalize w2.setCell ⟨p, 4, none⟩ (.slice (some ⟨g1, 0, none⟩) (n.nodes.length + 1) (n.nodes.length + 1)) = w3 at *
          refine wpAnyH_take (i := 12) (oi := _) (v := ?v13) rfl (by kernel_rfl) (by kernel_rfl) (by kernel_rfl) (fun _ _ _ h => h) (Or.inl ⟨by rfl, ?y13⟩) trivial ?r13
          case y13 => (simp only [List.getElem_toArray, List.getElem_cons_succ, List.getElem_cons_zero]; intro w hSw; go_simp; first | done | with_reducible rfl)
          try simp only [List.getElem_toArray, List.getElem_cons_succ, List.getElem_cons_zero, Act.put, List.setIfInBounds_toArray, List.set_cons_zero, List.set_cons_succ]
          refine wpAnyH_take (i := 13) (oi := _) (v := ?v14) rfl (by kernel_rfl) (by kernel_rfl) (by kernel_rfl) (fun _ _ _ h => h) (Or.inl ⟨by rfl, ?y14⟩) trivial ?r14
          case y14 => (simp only [List.getElem_toArray, List.getElem_cons_succ, List.getElem_cons_zero]; intro w hSw; go_simp; first | done | with_reducible rfl)
          try simp only [List.getElem_toArray, List.getElem_cons_succ, List.getElem_cons_zero, Act.put, List.setIfInBounds_toArray, List.set_cons_zero, List.set_cons_succ]
          refine wpAnyH_ready (rs := [8, 14]) (by kernel_rfl) (by simp) ?_
          refine AllReadyH.cons (o := _) rfl (fun K hK => ?_) ?_
          · simp only [List.getElem_toArray, List.getElem_cons_succ, List.getElem_cons_zero]
            go_simp
            refine hK.out _ _ trivial (fun _ => ?_)
            clear hK K
            try simp only [List.getElem_toArray, List.getElem_cons_succ, List.getElem_cons_zero, Act.put, List.setIfInBounds_toArray, List.set_cons_zero, List.set_cons_succ]
            have hb3 := Blk.new w3 4 (madeCells #[.bool false] (n.nodes.length + 1))
            have hl := hl.alloc (.cells (madeCells #[.bool false] (n.nodes.length + 1)) 4)
            have hlt := hbx.lt
            have hbx := hbx.alloc (.cells (madeCells #[.bool false] (n.nodes.length + 1)) 4)
            have hlt1 := hb1.lt
            have hb1 := hb1.alloc (.cells (madeCells #[.bool false] (n.nodes.length + 1)) 4)
            have hlt2 := hb2.lt
            have hb2 := hb2.alloc (.cells (madeCells #[.bool false] (n.nodes.length + 1)) 4)
            generalize w3.alloc (.cells (madeCells #[.bool false] (n.nodes.length + 1)) 4) = w4 at *
            generalize w3.heap.size = g3 at *
            have h3 : p < g3 := hlt
            have d13 : g1 < g3 := hlt1
            have d23 : g2 < g3 := hlt2
            clear hlt hlt1 hlt2
            refine wpAnyH_ready (rs := [14]) (by kernel_rfl) (by simp) ?_
            refine AllReadyH.cons (o := _) rfl (fun K hK => ?_) ?_
            · simp only [List.getElem_toArray, List.getElem_cons_succ, List.getElem_cons_zero]
              have yc : w4.cell? ⟨p, 6, none⟩ = some (.slice none 0 0) := hbx.cell 6
              have fc := hbx.frozen 6
              go_simp
              clear yc fc
              refine hK.out _ _ trivial (fun _ => ?_)
              clear hK K
              try simp only [List.getElem_toArray, List.getElem_cons_succ, List.getElem_cons_zero, Act.put, List.setIfInBounds_toArray, List.set_cons_zero, List.set_cons_succ]
              have hl := hl.set (p := ⟨p, 6, none⟩) hp4 (.slice (some ⟨g2, 0, none⟩) (n.nodes.length + 1) (n.nodes.length + 1))
              have hbx := hbx.set_ 6 (.slice (some ⟨g2, 0, none⟩) (n.nodes.length + 1) (n.nodes.length + 1))
              have hb1 := hb1.far (p := ⟨p, 6, none⟩) (by show g1 ≠ p; omega) (.slice (some ⟨g2, 0, none⟩) (n.nodes.length + 1) (n.nodes.length + 1))
              have hb2 := hb2.far (p := ⟨p, 6, none⟩) (by show g2 ≠ p; omega) (.slice (some ⟨g2, 0, none⟩) (n.nodes.length + 1) (n.nodes.length + 1))
              have hb3 := hb3.far (p := ⟨p, 6, none⟩) (by show g3 ≠ p; omega) (.slice (some ⟨g2, 0, none⟩) (n.nodes.length + 1) (n.nodes.length + 1))
              generalize w4.setCell ⟨p, 6, none⟩ (.slice (some ⟨g2, 0, none⟩) (n.nodes.length + 1) (n.nodes.length + 1)) = w5 at *
              refine wpAnyH_take (i := 15) (oi := _) (v := ?v15) rfl (by kernel_rfl) (by kernel_rfl) (by kernel_rfl) (fun _ _ _ h => h) (Or.inl ⟨by rfl, ?y15⟩) trivial ?r15
              case y15 => (simp only [List.getElem_toArray, List.getElem_cons_succ, List.getElem_cons_zero]; intro w hSw; go_simp; first | done | with_reducible rfl)
              try simp only [List.getElem_toArray, List.getElem_cons_succ, List.getElem_cons_zero, Act.put, List.setIfInBounds_toArray, List.set_cons_zero, List.set_cons_succ]
              refine wpAnyH_take (i := 16) (oi := _) (v := ?v16) rfl (by kernel_rfl) (by kernel_rfl) (by kernel_rfl) (fun _ _ _ h => h) (Or.inl ⟨by rfl, ?y16⟩) trivial ?r16
              case y16 => (simp only [List.getElem_toArray, List.getElem_cons_succ, List.getElem_cons_zero]; intro w hSw; go_simp; first | done | with_reducible rfl)
              try simp only [List.getElem_toArray, List.getElem_cons_succ, List.getElem_cons_zero, Act.put, List.setIfInBounds_toArray, List.set_cons_zero, List.set_cons_succ]
              refine wpAnyH_ready (rs := [17]) (by kernel_rfl) (by simp) ?_
              refine AllReadyH.cons (o := _) rfl (fun K hK => ?_) ?_
              · simp only [List.getElem_toArray, List.getElem_cons_succ, List.getElem_cons_zero]
                have yc : w5.cell? ⟨p, 7, none⟩ = some (.slice none 0 0) := hbx.cell 7
                have fc := hbx.frozen 7
                go_simp
                clear yc fc
                refine hK.out _ _ trivial (fun _ => ?_)
                clear hK K
                try simp only [List.getElem_toArray, List.getElem_cons_succ, List.getElem_cons_zero, Act.put, List.setIfInBounds_toArray, List.set_cons_zero, List.set_cons_succ]
                have hl := hl.set (p := ⟨p, 7, none⟩) hp4 (.slice (some ⟨g3, 0, none⟩) (n.nodes.length + 1) (n.nodes.length + 1))
                have hbx := hbx.set_ 7 (.slice (some ⟨g3, 0, none⟩) (n.nodes.length + 1) (n.nodes.length + 1))
                have hb1 := hb1.far (p := ⟨p, 7, none⟩) (by show g1 ≠ p; omega) (.slice (some ⟨g3, 0, none⟩) (n.nodes.length + 1) (n.nodes.length + 1))
                have hb2 := hb2.far (p := ⟨p, 7, none⟩) (by show g2 ≠ p; omega) (.slice (some ⟨g3, 0, none⟩) (n.nodes.length + 1) (n.nodes.length + 1))
                have hb3 := hb3.far (p := ⟨p, 7, none⟩) (by show g3 ≠ p; omega) (.slice (some ⟨g3, 0, none⟩) (n.nodes.length + 1) (n.nodes.length + 1))
                generalize w5.setCell ⟨p, 7, none⟩ (.slice (some ⟨g3, 0, none⟩) (n.nodes.length + 1) (n.nodes.length + 1)) = w6 at *
                refine wpAnyH_done (by kernel_rfl) ?_ _
                refine NoPanic.normal ?_
                go_wp2_with fail
                go_meet
                exact ⟨g1, g2, g3, ⟨hl, hp4, h1, h2, h3, by omega, by omega, by omega, hbx, hb1, hb2, hb3⟩⟩
              exact AllReadyH.nil
            exact AllReadyH.nil
          refine AllReadyH.cons (o := _) rfl (fun K hK => ?_) ?_
          · simp only [List.getElem_toArray, List.getElem_cons_succ, List.getElem_cons_zero]
            have yc : w3.cell? ⟨p, 6, none⟩ = some (.slice none 0 0) := hbx.cell 6
            have fc := hbx.frozen 6
            go_simp
            clear yc fc
            refine hK.out _ _ trivial (fun _ => ?_)
            clear hK K
            try simp only [List.getElem_toArray, List.getElem_cons_succ, List.getElem_cons_zero, Act.put, List.setIfInBounds_toArray, List.set_cons_zero, List.set_cons_succ]
            have hl := hl.set (p := ⟨p, 6, none⟩) hp4 (.slice (some ⟨g2, 0, none⟩) (n.nodes.length + 1) (n.nodes.length + 1))
            have hbx := hbx.set_ 6 (.slice (some ⟨g2, 0, none⟩) (n.nodes.length + 1) (n.nodes.length + 1))
            have hb1 := hb1.far (p := ⟨p, 6, none⟩) (by show g1 ≠ p; omega) (.slice (some ⟨g2, 0, none⟩) (n.nodes.length + 1) (n.nodes.length + 1))
            have hb2 := hb2.far (p := ⟨p, 6, none⟩) (by show g2 ≠ p; omega) (.slice (some ⟨g2, 0, none⟩) (n.nodes.length + 1) (n.nodes.length + 1))
            generalize w3.setCell ⟨p, 6, none⟩ (.slice (some ⟨g2, 0, none⟩) (n.nodes.length + 1) (n.nodes.length + 1)) = w4 at *
            refine wpAnyH_ready (rs := [8]) (by kernel_rfl) (by simp) ?_
            refine AllReadyH.cons (o := _) rfl (fun K hK => ?_) ?_
            · simp only [List.getElem_toArray, List.getElem_cons_succ, List.getElem_cons_zero]
              go_simp
              refine hK.out _ _ trivial (fun _ => ?_)
              clear hK K
              try simp only [List.getElem_toArray, List.getElem_cons_succ, List.getElem_cons_zero, Act.put, List.setIfInBounds_toArray, List.set_cons_zero, List.set_cons_succ]
              have hb3 := Blk.new w4 4 (madeCells #[.bool false] (n.nodes.length + 1))
              have hl := hl.alloc (.cells (madeCells #[.bool false] (n.nodes.length + 1)) 4)
              have hlt := hbx.lt
              have hbx := hbx.alloc (.cells (madeCells #[.bool false] (n.nodes.length + 1)) 4)
              have hlt1 := hb1.lt
              have hb1 := hb1.alloc (.cells (madeCells #[.bool false] (n.nodes.length + 1)) 4)
              have hlt2 := hb2.lt
              have hb2 := hb2.alloc (.cells (madeCells #[.bool false] (n.nodes.length + 1)) 4)
              generalize w4.alloc (.cells (madeCells #[.bool false] (n.nodes.length + 1)) 4) = w5 at *
              generalize w4.heap.size = g3 at *
              have h3 : p < g3 := hlt
              have d13 : g1 < g3 := hlt1
              have d23 : g2 < g3 := hlt2
              clear hlt hlt1 hlt2
              refine wpAnyH_take (i := 15) (oi := _) (v := ?v17) rfl (by kernel_rfl) (by kernel_rfl) (by kernel_rfl) (fun _ _ _ h => h) (Or.inl ⟨by rfl, ?y17⟩) trivial ?r17
              case y17 => (simp only [List.getElem_toArray, List.getElem_cons_succ, List.getElem_cons_zero]; intro w hSw; go_simp; first | done | with_reducible rfl)
              try simp only [List.getElem_toArray, List.getElem_cons_succ, List.getElem_cons_zero, Act.put, List.setIfInBounds_toArray, List.set_cons_zero, List.set_cons_succ]
              refine wpAnyH_take (i := 16) (oi := _) (v := ?v18) rfl (by kernel_rfl) (by kernel_rfl) (by kernel_rfl) (fun _ _ _ h => h) (Or.inl ⟨by rfl, ?y18⟩) trivial ?r18
              case y18 => (simp only [List.getElem_toArray, List.getElem_cons_succ, List.getElem_cons_zero]; intro w hSw; go_simp; first | done | with_reducible rfl)
              try simp only [List.getElem_toArray, List.getElem_cons_succ, List.getElem_cons_zero, Act.put, List.setIfInBounds_toArray, List.set_cons_zero, List.set_cons_succ]
              refine wpAnyH_ready (rs := [17]) (by kernel_rfl) (by simp) ?_
              refine AllReadyH.cons (o := _) rfl (fun K hK => ?_) ?_
              · simp only [List.getElem_toArray, List.getElem_cons_succ, List.getElem_cons_zero]
                have yc : w5.cell? ⟨p, 7, none⟩ = some (.slice none 0 0) := hbx.cell 7
                have fc := hbx.frozen 7
                go_simp
                clear yc fc
                refine hK.out _ _ trivial (fun _ => ?_)
                clear hK K
                try simp only [List.getElem_toArray, List.getElem_cons_succ, List.getElem_cons_zero, Act.put, List.setIfInBounds_toArray, List.set_cons_zero, List.set_cons_succ]
                have hl := hl.set (p := ⟨p, 7, none⟩) hp4 (.slice (some ⟨g3, 0, none⟩) (n.nodes.length + 1) (n.nodes.length + 1))
                have hbx := hbx.set_ 7 (.slice (some ⟨g3, 0, none⟩) (n.nodes.length + 1) (n.nodes.length + 1))
                have hb1 := hb1.far (p := ⟨p, 7, none⟩) (by show g1 ≠ p; omega) (.slice (some ⟨g3, 0, none⟩) (n.nodes.length + 1) (n.nodes.length + 1))
                have hb2 := hb2.far (p := ⟨p, 7, none⟩) (by show g2 ≠ p; omega) (.slice (some ⟨g3, 0, none⟩) (n.nodes.length + 1) (n.nodes.length + 1))
                have hb3 := hb3.far (p := ⟨p, 7, none⟩) (by show g3 ≠ p; omega) (.slice (some ⟨g3, 0, none⟩) (n.nodes.length + 1) (n.nodes.length + 1))
                generalize w5.setCell ⟨p, 7, none⟩ (.slice (some ⟨g3, 0, none⟩) (n.nodes.length + 1) (n.nodes.length + 1)) = w6 at *
                refine wpAnyH_done (by kernel_rfl) ?_ _
                refine NoPanic.normal ?_
                go_wp2_with fail
                go_meet
                exact ⟨g1, g2, g3, ⟨hl, hp4, h1, h2, h3, by omega, by omega, by omega, hbx, hb1, hb2, hb3⟩⟩
              exact AllReadyH.nil
            exact AllReadyH.nil
          exact AllReadyH.nil
        exact AllReadyH.nil
      refine AllReadyH.cons (o := _) rfl (fun K hK => ?_) ?_
      · simp only [List.getElem_toArray, List.getElem_cons_succ, List.getElem_cons_zero]
        go_simp
        refine hK.out _ _ trivial (fun _ => ?_)
        clear hK K
        try simp only [List.getElem_toArray, List.getElem_cons_succ, List.getElem_cons_zero, Act.put, List.setIfInBounds_toArray, List.set_cons_zero, List.set_cons_succ]
        have hb3 := Blk.new w1 4 (madeCells #[.bool false] (n.nodes.length + 1))
        have hl := hl.alloc (.cells (madeCells #[.bool false] (n.nodes.length + 1)) 4)
        have hlt := hbx.lt
        have hbx := hbx.alloc (.cells (madeCells #[.bool false] (n.nodes.length + 1)) 4)
        have hlt1 := hb1.lt
        have hb1 := hb1.alloc (.cells (madeCells #[.bool false] (n.nodes.length + 1)) 4)
        generalize w1.alloc (.cells (madeCells #[.bool false] (n.nodes.length + 1)) 4) = w2 at *
        generalize w1.heap.size = g3 at *
        have h3 : p < g3 := hlt
        have d13 : g1 < g3 := hlt1
        clear hlt hlt1
        refine wpAnyH_ready (rs := [6, 11]) (by kernel_rfl) (by simp) ?_
        refine AllReadyH.cons (o := _) rfl (fun K hK => ?_) ?_
        · simp only [List.getElem_toArray, List.getElem_cons_succ, List.getElem_cons_zero]
          go_simp
          refine hK.out _ _ trivial (fun _ => ?_)
          clear hK K
          try simp only [List.getElem_toArray, List.getElem_cons_succ, List.getElem_cons_zero, Act.put, List.setIfInBounds_toArray, List.set_cons_zero, List.set_cons_succ]
          have hb2 := Blk.new w2 4 (madeCells #[.bool false] (n.nodes.length + 1))
          have hl := hl.alloc (.cells (madeCells #[.bool false] (n.nodes.length + 1)) 4)
          have hlt := hbx.lt
          have hbx := hbx.alloc (.cells (madeCells #[.bool false] (n.nodes.length + 1)) 4)
          have hlt1 := hb1.lt
          have hb1 := hb1.alloc (.cells (madeCells #[.bool false] (n.nodes.length + 1)) 4)
          have hlt3 := hb3.lt
          have hb3 := hb3.alloc (.cells (madeCells #[.bool false] (n.nodes.length + 1)) 4)
          generalize w2.alloc (.cells (madeCells #[.bool false] (n.nodes.length + 1)) 4) = w3 at *
          generalize w2.heap.size = g2 at *
          have h2 : p < g2 := hlt
          have d12 : g1 < g2 := hlt1
          have d32 : g3 < g2 := hlt3
          clear hlt hlt1 hlt3
          refine wpAnyH_ready (rs := [11]) (by kernel_rfl) (by simp) ?_
          refine AllReadyH.cons (o := _) rfl (fun K hK => ?_) ?_
          · simp only [List.getElem_toArray, List.getElem_cons_succ, List.getElem_cons_zero]
            have yc : w3.cell? ⟨p, 4, none⟩ = some (.slice none 0 0) := hbx.cell 4
            have fc := hbx.frozen 4
            go_simp
            clear yc fc
            refine hK.out _ _ trivial (fun _ => ?_)
            clear hK K
            try simp only [List.getElem_toArray, List.getElem_cons_succ, List.getElem_cons_zero, Act.put, List.setIfInBounds_toArray, List.set_cons_zero, List.set_cons_succ]
            have hl := hl.set (p := ⟨p, 4, none⟩) hp4 (.slice (some ⟨g1, 0, none⟩) (n.nodes.length + 1) (n.nodes.length + 1))
            have hbx := hbx.set_ 4 (.slice (some ⟨g1, 0, none⟩) (n.nodes.length + 1) (n.nodes.length + 1))
            have hb1 := hb1.far (p := ⟨p, 4, none⟩) (by show g1 ≠ p; omega) (.slice (some ⟨g1, 0, none⟩) (n.nodes.length + 1) (n.nodes.length + 1))
            have hb3 := hb3.far (p := ⟨p, 4, none⟩) (by show g3 ≠ p; omega) (.slice (some ⟨g1, 0, none⟩) (n.nodes.length + 1) (n.nodes.length + 1))
            have hb2 := hb2.far (p := ⟨p, 4, none⟩) (by show g2 ≠ p; omega) (.slice (some ⟨g1, 0, none⟩) (n.nodes.length + 1) (n.nodes.length + 1))
            generalize w3.setCell ⟨p, 4, none⟩ (.slice (some ⟨g1, 0, none⟩) (n.nodes.length + 1) (n.nodes.length + 1)) = w4 at *
            refine wpAnyH_take (i := 12) (oi := _) (v := ?v19) rfl (by kernel_rfl) (by kernel_rfl) (by kernel_rfl) (fun _ _ _ h => h) (Or.inl ⟨by rfl, ?y19⟩) trivial ?r19
            case y19 => (simp only [List.getElem_toArray, List.getElem_cons_succ, List.getElem_cons_zero]; intro w hSw; go_simp; first | done | with_reducible rfl)
            try simp only [List.getElem_toArray, List.getElem_cons_succ, List.getElem_cons_zero, Act.put, List.setIfInBounds_toArray, List.set_cons_zero, List.set_cons_succ]
            refine wpAnyH_take (i := 13) (oi := _) (v := ?v20) rfl (by kernel_rfl) (by kernel_rfl) (by kernel_rfl) (fun _ _ _ h => h) (Or.inl ⟨by rfl, ?y20⟩) trivial ?r20
            case y20 => (simp only [List.getElem_toArray, List.getElem_cons_succ, List.getElem_cons_zero]; intro w hSw; go_simp; first | done | with_reducible rfl)
            try simp only [List.getElem_toArray, List.getElem_cons_succ, List.getElem_cons_zero, Act.put, List.setIfInBounds_toArray, List.set_cons_zero, List.set_cons_succ]
            refine wpAnyH_ready (rs := [14]) (by kernel_rfl) (by simp) ?_
            refine AllReadyH.cons (o := _) rfl (fun K hK => ?_) ?_
            · simp only [List.getElem_toArray, List.getElem_cons_succ, List.getElem_cons_zero]
              have yc : w4.cell? ⟨p, 6, none⟩ = some (.slice none 0 0) := hbx.cell 6
              have fc := hbx.frozen 6
              go_simp
              clear yc fc
              refine hK.out _ _ trivial (fun _ => ?_)
              clear hK K
              try simp only [List.getElem_toArray, List.getElem_cons_succ, List.getElem_cons_zero, Act.put, List.setIfInBounds_toArray, List.set_cons_zero, List.set_cons_succ]
              have hl := hl.set (p := ⟨p, 6, none⟩) hp4 (.slice (some ⟨g2, 0, none⟩) (n.nodes.length + 1) (n.nodes.length + 1))
              have hbx := hbx.set_ 6 (.slice (some ⟨g2, 0, none⟩) (n.nodes.length + 1) (n.nodes.length + 1))
              have hb1 := hb1.far (p := ⟨p, 6, none⟩) (by show g1 ≠ p; omega) (.slice (some ⟨g2, 0, none⟩) (n.nodes.length + 1) (n.nodes.length + 1))
              have hb3 := hb3.far (p := ⟨p, 6, none⟩) (by show g3 ≠ p; omega) (.slice (some ⟨g2, 0, none⟩) (n.nodes.length + 1) (n.nodes.length + 1))
              have hb2 := hb2.far (p := ⟨p, 6, none⟩) (by show g2 ≠ p; omega) (.slice (some ⟨g2, 0, none⟩) (n.nodes.length + 1) (n.nodes.length + 1))
              generalize w4.setCell ⟨p, 6, none⟩ (.slice (some ⟨g2, 0, none⟩) (n.nodes.length + 1) (n.nodes.length + 1)) = w5 at *
              refine wpAnyH_take (i := 15) (oi := _) (v := ?v21) rfl (by kernel_rfl) (by kernel_rfl) (by kernel_rfl) (fun _ _ _ h => h) (Or.inl ⟨by rfl, ?y21⟩) trivial ?r21
              case y21 => (simp only [List.getElem_toArray, List.getElem_cons_succ, List.getElem_cons_zero]; intro w hSw; go_simp; first | done | with_reducible rfl)
              try simp only [List.getElem_toArray, List.getElem_cons_succ, List.getElem_cons_zero, Act.put, List.setIfInBounds_toArray, List.set_cons_zero, List.set_cons_succ]
              refine wpAnyH_take (i := 16) (oi := _) (v := ?v22) rfl (by kernel_rfl) (by kernel_rfl) (by kernel_rfl) (fun _ _ _ h => h) (Or.inl ⟨by rfl, ?y22⟩) trivial ?r22
              case y22 => (simp only [List.getElem_toArray, List.getElem_cons_succ, List.getElem_cons_zero]; intro w hSw; go_simp; first | done | with_reducible rfl)
              try simp only [List.getElem_toArray, List.getElem_cons_succ, List.getElem_cons_zero, Act.put, List.setIfInBounds_toArray, List.set_cons_zero, List.set_cons_succ]
              refine wpAnyH_ready (rs := [17]) (by kernel_rfl) (by simp) ?_
              refine AllReadyH.cons (o := _) rfl (fun K hK => ?_) ?_
              · simp only [List.getElem_toArray, List.getElem_cons_succ, List.getElem_cons_zero]
                have yc : w5.cell? ⟨p, 7, none⟩ = some (.slice none 0 0) := hbx.cell 7
                have fc := hbx.frozen 7
                go_simp
                clear yc fc
                refine hK.out _ _ trivial (fun _ => ?_)
                clear hK K
                try simp only [List.getElem_toArray, List.getElem_cons_succ, List.getElem_cons_zero, Act.put, List.setIfInBounds_toArray, List.set_cons_zero, List.set_cons_succ]
                have hl := hl.set (p := ⟨p, 7, none⟩) hp4 (.slice (some ⟨g3, 0, none⟩) (n.nodes.length + 1) (n.nodes.length + 1))
                have hbx := hbx.set_ 7 (.slice (some ⟨g3, 0, none⟩) (n.nodes.length + 1) (n.nodes.length + 1))
                have hb1 := hb1.far (p := ⟨p, 7, none⟩) (by show g1 ≠ p; omega) (.slice (some ⟨g3, 0, none⟩) (n.nodes.length + 1) (n.nodes.length + 1))
                have hb3 := hb3.far (p := ⟨p, 7, none⟩) (by show g3 ≠ p; omega) (.slice (some ⟨g3, 0, none⟩) (n.nodes.length + 1) (n.nodes.length + 1))
                have hb2 := hb2.far (p := ⟨p, 7, none⟩) (by show g2 ≠ p; omega) (.slice (some ⟨g3, 0, none⟩) (n.nodes.length + 1) (n.nodes.length + 1))
                generalize w5.setCell ⟨p, 7, none⟩ (.slice (some ⟨g3, 0, none⟩) (n.nodes.length + 1) (n.nodes.length + 1)) = w6 at *
                refine wpAnyH_done (by kernel_rfl) ?_ _
                refine NoPanic.normal ?_
                go_wp2_with fail
                go_meet
                exact ⟨g1, g2, g3, ⟨hl, hp4, h1, h2, h3, by omega, by omega, by omega, hbx, hb1, hb2, hb3⟩⟩
              exact AllReadyH.nil
            exact AllReadyH.nil
          exact AllReadyH.nil
        refine AllReadyH.cons (o := _) rfl (fun K hK => ?_) ?_
        · simp only [List.getElem_toArray, List.getElem_cons_succ, List.getElem_cons_zero]
          have yc : w2.cell? ⟨p, 4, none⟩ = some (.slice none 0 0) := hbx.cell 4
          have fc := hbx.frozen 4
          go_simp
          clear yc fc
          refine hK.out _ _ trivial (fun _ => ?_)
          clear hK K
          try simp only [List.getElem_toArray, List.getElem_cons_succ, List.getElem_cons_zero, Act.put, List.setIfInBounds_toArray, List.set_cons_zero, List.set_cons_succ]
          have hl := hl.set (p := ⟨p, 4, none⟩) hp4 (.slice (some ⟨g1, 0, none⟩) (n.nodes.length + 1) (n.nodes.length + 1))
          have hbx := hbx.set_ 4 (.slice (some ⟨g1, 0, none⟩) (n.nodes.length + 1) (n.nodes.length + 1))
          have hb1 := hb1.far (p := ⟨p, 4, none⟩) (by show g1 ≠ p; omega) (.slice (some ⟨g1, 0, none⟩) (n.nodes.length + 1) (n.nodes.length + 1))
          have hb3 := hb3.far (p := ⟨p, 4, none⟩) (by show g3 ≠ p; omega) (.slice (some ⟨g1, 0, none⟩) (n.nodes.length + 1) (n.nodes.length + 1))
          generalize w2.setCell ⟨p, 4, none⟩ (.slice (some ⟨g1, 0, none⟩) (n.nodes.length + 1) (n.nodes.length + 1)) = w3 at *
          refine wpAnyH_ready (rs := [6]) (by kernel_rfl) (by simp) ?_
          refine AllReadyH.cons (o := _) rfl (fun K hK => ?_) ?_
          · simp only [List.getElem_toArray, List.getElem_cons_succ, List.getElem_cons_zero]
            go_simp
            refine hK.out _ _ trivial (fun _ => ?_)
            clear hK K
            try simp only [List.getElem_toArray, List.getElem_cons_succ, List.getElem_cons_zero, Act.put, List.setIfInBounds_toArray, List.set_cons_zero, List.set_cons_succ]
            have hb2 := Blk.new w3 4 (madeCells #[.bool false] (n.nodes.length + 1))
            have hl := hl.alloc (.cells (madeCells #[.bool false] (n.nodes.length + 1)) 4)
            have hlt := hbx.lt
            have hbx := hbx.alloc (.cells (madeCells #[.bool false] (n.nodes.length + 1)) 4)
            have hlt1 := hb1.lt
            have hb1 := hb1.alloc (.cells (madeCells #[.bool false] (n.nodes.length + 1)) 4)
            have hlt3 := hb3.lt
            have hb3 := hb3.alloc (.cells (madeCells #[.bool false] (n.nodes.length + 1)) 4)
            generalize w3.alloc (.cells (madeCells #[.bool false] (n.nodes.length + 1)) 4) = w4 at *
            generalize w3.heap.size = g2 at *
            have h2 : p < g2 := hlt
            have d12 : g1 < g2 := hlt1
            have d32 : g3 < g2 := hlt3
            clear hlt hlt1 hlt3
            refine wpAnyH_take (i := 12) (oi := _) (v := ?v23) rfl (by kernel_rfl) (by kernel_rfl) (by kernel_rfl) (fun _ _ _ h => h) (Or.inl ⟨by rfl, ?y23⟩) trivial ?r23
            case y23 => (simp only [List.getElem_toArray, List.getElem_cons_succ, List.getElem_cons_zero]; intro w hSw; go_simp; first | done | with_reducible rfl)
            try simp only [List.getElem_toArray, List.getElem_cons_succ, List.getElem_cons_zero, Act.put, List.setIfInBounds_toArray, List.set_cons_zero, List.set_cons_succ]
            refine wpAnyH_take (i := 13) (oi := _) (v := ?v24) rfl (by kernel_rfl) (by kernel_rfl) (by kernel_rfl) (fun _ _ _ h => h) (Or.inl ⟨by rfl, ?y24⟩) trivial ?r24
            case y24 => (simp only [List.getElem_toArray, List.getElem_cons_succ, List.getElem_cons_zero]; intro w hSw; go_simp; first | done | with_reducible rfl)
            try simp only [List.getElem_toArray, List.getElem_cons_succ, List.getElem_cons_zero, Act.put, List.setIfInBounds_toArray, List.set_cons_zero, List.set_cons_succ]
            refine wpAnyH_ready (rs := [14]) (by kernel_rfl) (by simp) ?_
            refine AllReadyH.cons (o := _) rfl (fun K hK => ?_) ?_
            · simp only [List.getElem_toArray, List.getElem_cons_succ, List.getElem_cons_zero]
              have yc : w4.cell? ⟨p, 6, none⟩ = some (.slice none 0 0) := hbx.cell 6
              have fc := hbx.frozen 6
              go_simp
              clear yc fc
              refine hK.out _ _ trivial (fun _ => ?_)
              clear hK K
              try simp only [List.getElem_toArray, List.getElem_cons_succ, List.getElem_cons_zero, Act.put, List.setIfInBounds_toArray, List.set_cons_zero, List.set_cons_succ]
              have hl := hl.set (p := ⟨p, 6, none⟩) hp4 (.slice (some ⟨g2, 0, none⟩) (n.nodes.length + 1) (n.nodes.length + 1))
              have hbx := hbx.set_ 6 (.slice (some ⟨g2, 0, none⟩) (n.nodes.length + 1) (n.nodes.length + 1))
              have hb1 := hb1.far (p := ⟨p, 6, none⟩) (by show g1 ≠ p; omega) (.slice (some ⟨g2, 0, none⟩) (n.nodes.length + 1) (n.nodes.length + 1))
              have hb3 := hb3.far (p := ⟨p, 6, none⟩) (by show g3 ≠ p; omega) (.slice (some ⟨g2, 0, none⟩) (n.nodes.length + 1) (n.nodes.length + 1))
              have hb2 := hb2.far (p := ⟨p, 6, none⟩) (by show g2 ≠ p; omega) (.slice (some ⟨g2, 0, none⟩) (n.nodes.length + 1) (n.nodes.length + 1))
              generalize w4.setCell ⟨p, 6, none⟩ (.slice (some ⟨g2, 0, none⟩) (n.nodes.length + 1) (n.nodes.length + 1)) = w5 at *
              refine wpAnyH_take (i := 15) (oi := _) (v := ?v25) rfl (by kernel_rfl) (by kernel_rfl) (by kernel_rfl) (fun _ _ _ h => h) (Or.inl ⟨by rfl, ?y25⟩) trivial ?r25
              case y25 => (simp only [List.getElem_toArray, List.getElem_cons_succ, List.getElem_cons_zero]; intro w hSw; go_simp; first | done | with_reducible rfl)
              try simp only [List.getElem_toArray, List.getElem_cons_succ, List.getElem_cons_zero, Act.put, List.setIfInBounds_toArray, List.set_cons_zero, List.set_cons_succ]
              refine wpAnyH_take (i := 16) (oi := _) (v := ?v26) rfl (by kernel_rfl) (by kernel_rfl) (by kernel_rfl) (fun _ _ _ h => h) (Or.inl ⟨by rfl, ?y26⟩) trivial ?r26
              case y26 => (simp only [List.getElem_toArray, List.getElem_cons_succ, List.getElem_cons_zero]; intro w hSw; go_simp; first | done | with_reducible rfl)
              try simp only [List.getElem_toArray, List.getElem_cons_succ, List.getElem_cons_zero, Act.put, List.setIfInBounds_toArray, List.set_cons_zero, List.set_cons_succ]
              refine wpAnyH_ready (rs := [17]) (by kernel_rfl) (by simp) ?_
              refine AllReadyH.cons (o := _) rfl (fun K hK => ?_) ?_
              · simp only [List.getElem_toArray, List.getElem_cons_succ, List.getElem_cons_zero]
                have yc : w5.cell? ⟨p, 7, none⟩ = some (.slice none 0 0) := hbx.cell 7
                have fc := hbx.frozen 7
                go_simp
                clear yc fc
                refine hK.out _ _ trivial (fun _ => ?_)
                clear hK K
                try simp only [List.getElem_toArray, List.getElem_cons_succ, List.getElem_cons_zero, Act.put, List.setIfInBounds_toArray, List.set_cons_zero, List.set_cons_succ]
                have hl := hl.set (p := ⟨p, 7, none⟩) hp4 (.slice (some ⟨g3, 0, none⟩) (n.nodes.length + 1) (n.nodes.length + 1))
                have hbx := hbx.set_ 7 (.slice (some ⟨g3, 0, none⟩) (n.nodes.length + 1) (n.nodes.length + 1))
                have hb1 := hb1.far (p := ⟨p, 7, none⟩) (by show g1 ≠ p; omega) (.slice (some ⟨g3, 0, none⟩) (n.nodes.length + 1) (n.nodes.length + 1))
                have hb3 := hb3.far (p := ⟨p, 7, none⟩) (by show g3 ≠ p; omega) (.slice (some ⟨g3, 0, none⟩) (n.nodes.length + 1) (n.nodes.length + 1))
                have hb2 := hb2.far (p := ⟨p, 7, none⟩) (by show g2 ≠ p; omega) (.slice (some ⟨g3, 0, none⟩) (n.nodes.length + 1) (n.nodes.length + 1))
                generalize w5.setCell ⟨p, 7, none⟩ (.slice (some ⟨g3, 0, none⟩) (n.nodes.length + 1) (n.nodes.length + 1)) = w6 at *
                refine wpAnyH_done (by kernel_rfl) ?_ _
                refine NoPanic.normal ?_
                go_wp2_with fail
                go_meet
                exact ⟨g1, g2, g3, ⟨hl, hp4, h1, h2, h3, by omega, by omega, by omega, hbx, hb1, hb2, hb3⟩⟩
              exact AllReadyH.nil
            exact AllReadyH.nil
          exact AllReadyH.nil
        exact AllReadyH.nil
      refine AllReadyH.cons (o := _) rfl (fun K hK => ?_) ?_
      · simp only [List.getElem_toArray, List.getElem_cons_succ, List.getElem_cons_zero]
        have yc : w1.cell? ⟨p, 4, none⟩ = some (.slice none 0 0) := hbx.cell 4
        have fc := hbx.frozen 4
        go_simp
        clear yc fc
        refine hK.out _ _ trivial (fun _ => ?_)
        clear hK K
        try simp only [List.getElem_toArray, List.getElem_cons_succ, List.getElem_cons_zero, Act.put, List.setIfInBounds_toArray, List.set_cons_zero, List.set_cons_succ]
        have hl := hl.set (p := ⟨p, 4, none⟩) hp4 (.slice (some ⟨g1, 0, none⟩) (n.nodes.length + 1) (n.nodes.length + 1))
        have hbx := hbx.set_ 4 (.slice (some ⟨g1, 0, none⟩) (n.nodes.length + 1) (n.nodes.length + 1))
        have hb1 := hb1.far (p := ⟨p, 4, none⟩) (by show g1 ≠ p; omega) (.slice (some ⟨g1, 0, none⟩) (n.nodes.length + 1) (n.nodes.length + 1))
        generalize w1.setCell ⟨p, 4, none⟩ (.slice (some ⟨g1, 0, none⟩) (n.nodes.length + 1) (n.nodes.length + 1)) = w2 at *
        refine wpAnyH_ready (rs := [6, 8]) (by kernel_rfl) (by simp) ?_
        refine AllReadyH.cons (o := _) rfl (fun K hK => ?_) ?_
        · simp only [List.getElem_toArray, List.getElem_cons_succ, List.getElem_cons_zero]
          go_simp
          refine hK.out _ _ trivial (fun _ => ?_)
          clear hK K
          try simp only [List.getElem_toArray, List.getElem_cons_succ, List.getElem_cons_zero, Act.put, List.setIfInBounds_toArray, List.set_cons_zero, List.set_cons_succ]
          have hb2 := Blk.new w2 4 (madeCells #[.bool false] (n.nodes.length + 1))
          have hl := hl.alloc (.cells (madeCells #[.bool false] (n.nodes.length + 1)) 4)
          have hlt := hbx.lt
          have hbx := hbx.alloc (.cells (madeCells #[.bool false] (n.nodes.length + 1)) 4)
          have hlt1 := hb1.lt
          have hb1 := hb1.alloc (.cells (madeCells #[.bool false] (n.nodes.length + 1)) 4)
          generalize w2.alloc (.cells (madeCells #[.bool false] (n.nodes.length + 1)) 4) = w3 at *
          generalize w2.heap.size = g2 at *
          have h2 : p < g2 := hlt
          have d12 : g1 < g2 := hlt1
          clear hlt hlt1
          refine wpAnyH_take (i := 12) (oi := _) (v := ?v27) rfl (by kernel_rfl) (by kernel_rfl) (by kernel_rfl) (fun _ _ _ h => h) (Or.inl ⟨by rfl, ?y27⟩) trivial ?r27
          case y27 => (simp only [List.getElem_toArray, List.getElem_cons_succ, List.getElem_cons_zero]; intro w hSw; go_simp; first | done | with_reducible rfl)
          try simp only [List.getElem_toArray, List.getElem_cons_succ, List.getElem_cons_zero, Act.put, List.setIfInBounds_toArray, List.set_cons_zero, List.set_cons_succ]
          refine wpAnyH_take (i := 13) (oi := _) (v := ?v28) rfl (by kernel_rfl) (by kernel_rfl) (by kernel_rfl) (fun _ _ _ h => h) (Or.inl ⟨by rfl, ?y28⟩) trivial ?r28
          case y28 => (simp only [List.getElem_toArray, List.getElem_cons_succ, List.getElem_cons_zero]; intro w hSw; go_simp; first | done | with_reducible rfl)
          try simp only [List.getElem_toArray, List.getElem_cons_succ, List.getElem_cons_zero, Act.put, List.setIfInBounds_toArray, List.set_cons_zero, List.set_cons_succ]
          refine wpAnyH_ready (rs := [8, 14]) (by kernel_rfl) (by simp) ?_
          refine AllReadyH.cons (o := _) rfl (fun K hK => ?_) ?_
          · simp only [List.getElem_toArray, List.getElem_cons_succ, List.getElem_cons_zero]
            go_simp
            refine hK.out _ _ trivial (fun _ => ?_)
            clear hK K
            try simp only [List.getElem_toArray, List.getElem_cons_succ, List.getElem_cons_zero, Act.put, List.setIfInBounds_toArray, List.set_cons_zero, List.set_cons_succ]
            have hb3 := Blk.new w3 4 (madeCells #[.bool false] (n.nodes.length + 1))
            have hl := hl.alloc (.cells (madeCells #[.bool false] (n.nodes.length + 1)) 4)
            have hlt := hbx.lt
            have hbx := hbx.alloc (.cells (madeCells #[.bool false] (n.nodes.length + 1)) 4)
            have hlt1 := hb1.lt
            have hb1 := hb1.alloc (.cells (madeCells #[.bool false] (n.nodes.length + 1)) 4)
            have hlt2 := hb2.lt
            have hb2 := hb2.alloc (.cells (madeCells #[.bool false] (n.nodes.length + 1)) 4)
            generalize w3.alloc (.cells (madeCells #[.bool false] (n.nodes.length + 1)) 4) = w4 at *
            generalize w3.heap.size = g3 at *
            have h3 : p < g3 := hlt
            have d13 : g1 < g3 := hlt1
            have d23 : g2 < g3 := hlt2
            clear hlt hlt1 hlt2
            refine wpAnyH_ready (rs := [14]) (by kernel_rfl) (by simp) ?_
            refine AllReadyH.cons (o := _) rfl (fun K hK => ?_) ?_
            · simp only [List.getElem_toArray, List.getElem_cons_succ, List.getElem_cons_zero]
              have yc : w4.cell? ⟨p, 6, none⟩ = some (.slice none 0 0) := hbx.cell 6
              have fc := hbx.frozen 6
              go_simp
              clear yc fc
              refine hK.out _ _ trivial (fun _ => ?_)
              clear hK K
              try simp only [List.getElem_toArray, List.getElem_cons_succ, List.getElem_cons_zero, Act.put, List.setIfInBounds_toArray, List.set_cons_zero, List.set_cons_succ]
              have hl := hl.set (p := ⟨p, 6, none⟩) hp4 (.slice (some ⟨g2, 0, none⟩) (n.nodes.length + 1) (n.nodes.length + 1))
              have hbx := hbx.set_ 6 (.slice (some ⟨g2, 0, none⟩) (n.nodes.length + 1) (n.nodes.length + 1))
              have hb1 := hb1.far (p := ⟨p, 6, none⟩) (by show g1 ≠ p; omega) (.slice (some ⟨g2, 0, none⟩) (n.nodes.length + 1) (n.nodes.length + 1))
              have hb2 := hb2.far (p := ⟨p, 6, none⟩) (by show g2 ≠ p; omega) (.slice (some ⟨g2, 0, none⟩) (n.nodes.length + 1) (n.nodes.length + 1))
              have hb3 := hb3.far (p := ⟨p, 6, none⟩) (by show g3 ≠ p; omega) (.slice (some ⟨g2, 0, none⟩) (n.nodes.length + 1) (n.nodes.length + 1))
              generalize w4.setCell ⟨p, 6, none⟩ (.slice (some ⟨g2, 0, none⟩) (n.nodes.length + 1) (n.nodes.length + 1)) = w5 at *
              refine wpAnyH_take (i := 15) (oi := _) (v := ?v29) rfl (by kernel_rfl) (by kernel_rfl) (by kernel_rfl) (fun _ _ _ h => h) (Or.inl ⟨by rfl, ?y29⟩) trivial ?r29
              case y29 => (simp only [List.getElem_toArray, List.getElem_cons_succ, List.getElem_cons_zero]; intro w hSw; go_simp; first | done | with_reducible rfl)
              try simp only [List.getElem_toArray, List.getElem_cons_succ, List.getElem_cons_zero, Act.put, List.setIfInBounds_toArray, List.set_cons_zero, List.set_cons_succ]
              refine wpAnyH_take (i := 16) (oi := _) (v := ?v30) rfl (by kernel_rfl) (by kernel_rfl) (by kernel_rfl) (fun _ _ _ h => h) (Or.inl ⟨by rfl, ?y30⟩) trivial ?r30
              case y30 => (simp only [List.getElem_toArray, List.getElem_cons_succ, List.getElem_cons_zero]; intro w hSw; go_simp; first | done | with_reducible rfl)
              try simp only [List.getElem_toArray, List.getElem_cons_succ, List.getElem_cons_zero, Act.put, List.setIfInBounds_toArray, List.set_cons_zero, List.set_cons_succ]
              refine wpAnyH_ready (rs := [17]) (by kernel_rfl) (by simp) ?_
              refine AllReadyH.cons (o := _) rfl (fun K hK => ?_) ?_
              · simp only [List.getElem_toArray, List.getElem_cons_succ, List.getElem_cons_zero]
                have yc : w5.cell? ⟨p, 7, none⟩ = some (.slice none 0 0) := hbx.cell 7
                have fc := hbx.frozen 7
                go_simp
                clear yc fc
                refine hK.out _ _ trivial (fun _ => ?_)
                clear hK K
                try simp only [List.getElem_toArray, List.getElem_cons_succ, List.getElem_cons_zero, Act.put, List.setIfInBounds_toArray, List.set_cons_zero, List.set_cons_succ]
                have hl := hl.set (p := ⟨p, 7, none⟩) hp4 (.slice (some ⟨g3, 0, none⟩) (n.nodes.length + 1) (n.nodes.length + 1))
                have hbx := hbx.set_ 7 (.slice (some ⟨g3, 0, none⟩) (n.nodes.length + 1) (n.nodes.length + 1))
                have hb1 := hb1.far (p := ⟨p, 7, none⟩) (by show g1 ≠ p; omega) (.slice (some ⟨g3, 0, none⟩) (n.nodes.length + 1) (n.nodes.length + 1))
                have hb2 := hb2.far (p := ⟨p, 7, none⟩) (by show g2 ≠ p; omega) (.slice (some ⟨g3, 0, none⟩) (n.nodes.length + 1) (n.nodes.length + 1))
                have hb3 := hb3.far (p := ⟨p, 7, none⟩) (by show g3 ≠ p; omega) (.slice (some ⟨g3, 0, none⟩) (n.nodes.length + 1) (n.nodes.length + 1))
                generalize w5.setCell ⟨p, 7, none⟩ (.slice (some ⟨g3, 0, none⟩) (n.nodes.length + 1) (n.nodes.length + 1)) = w6 at *
                refine wpAnyH_done (by kernel_rfl) ?_ _
                refine NoPanic.normal ?_
                go_wp2_with fail
                go_meet
                exact ⟨g1, g2, g3, ⟨hl, hp4, h1, h2, h3, by omega, by omega, by omega, hbx, hb1, hb2, hb3⟩⟩
              exact AllReadyH.nil
            exact AllReadyH.nil
          refine AllReadyH.cons (o := _) rfl (fun K hK => ?_) ?_
          · simp only [List.getElem_toArray, List.getElem_cons_succ, List.getElem_cons_zero]
            have yc : w3.cell? ⟨p, 6, none⟩ = some (.slice none 0 0) := hbx.cell 6
            have fc := hbx.frozen 6
            go_simp
            clear yc fc
            refine hK.out _ _ trivial (fun _ => ?_)
            clear hK K
            try simp only [List.getElem_toArray, List.getElem_cons_succ, List.getElem_cons_zero, Act.put, List.setIfInBounds_toArray, List.set_cons_zero, List.set_cons_succ]
            have hl := hl.set (p := ⟨p, 6, none⟩) hp4 (.slice (some ⟨g2, 0, none⟩) (n.nodes.length + 1) (n.nodes.length + 1))
            have hbx := hbx.set_ 6 (.slice (some ⟨g2, 0, none⟩) (n.nodes.length + 1) (n.nodes.length + 1))
            have hb1 := hb1.far (p := ⟨p, 6, none⟩) (by show g1 ≠ p; omega) (.slice (some ⟨g2, 0, none⟩) (n.nodes.length + 1) (n.nodes.length + 1))
            have hb2 := hb2.far (p := ⟨p, 6, none⟩) (by show g2 ≠ p; omega) (.slice (some ⟨g2, 0, none⟩) (n.nodes.length + 1) (n.nodes.length + 1))
            generalize w3.setCell ⟨p, 6, none⟩ (.slice (some ⟨g2, 0, none⟩) (n.nodes.length + 1) (n.nodes.length + 1)) = w4 at *
            refine wpAnyH_ready (rs := [8]) (by kernel_rfl) (by simp) ?_
            refine AllReadyH.cons (o := _) rfl (fun K hK => ?_) ?_
            · simp only [List.getElem_toArray, List.getElem_cons_succ, List.getElem_cons_zero]
              go_simp
              refine hK.out _ _ trivial (fun _ => ?_)
              clear hK K
              try simp only [List.getElem_toArray, List.getElem_cons_succ, List.getElem_cons_zero, Act.put, List.setIfInBounds_toArray, List.set_cons_zero, List.set_cons_succ]
              have hb3 := Blk.new w4 4 (madeCells #[.bool false] (n.nodes.length + 1))
              have hl := hl.alloc (.cells (madeCells #[.bool false] (n.nodes.length + 1)) 4)
              have hlt := hbx.lt
              have hbx := hbx.alloc (.cells (madeCells #[.bool false] (n.nodes.length + 1)) 4)
              have hlt1 := hb1.lt
              have hb1 := hb1.alloc (.cells (madeCells #[.bool false] (n.nodes.length + 1)) 4)
              have hlt2 := hb2.lt
              have hb2 := hb2.alloc (.cells (madeCells #[.bool false] (n.nodes.length + 1)) 4)
              generalize w4.alloc (.cells (madeCells #[.bool false] (n.nodes.length + 1)) 4) = w5 at *
              generalize w4.heap.size = g3 at *
              have h3 : p < g3 := hlt
              have d13 : g1 < g3 := hlt1
              have d23 : g2 < g3 := hlt2
              clear hlt hlt1 hlt2
              refine wpAnyH_take (i := 15) (oi := _) (v := ?v31) rfl (by kernel_rfl) (by kernel_rfl) (by kernel_rfl) (fun _ _ _ h => h) (Or.inl ⟨by rfl, ?y31⟩) trivial ?r31
              case y31 => (simp only [List.getElem_toArray, List.getElem_cons_succ, List.getElem_cons_zero]; intro w hSw; go_simp; first | done | with_reducible rfl)
              try simp only [List.getElem_toArray, List.getElem_cons_succ, List.getElem_cons_zero, Act.put, List.setIfInBounds_toArray, List.set_cons_zero, List.set_cons_succ]
              refine wpAnyH_take (i := 16) (oi := _) (v := ?v32) rfl (by kernel_rfl) (by kernel_rfl) (by kernel_rfl) (fun _ _ _ h => h) (Or.inl ⟨by rfl, ?y32⟩) trivial ?r32
              case y32 => (simp only [List.getElem_toArray, List.getElem_cons_succ, List.getElem_cons_zero]; intro w hSw; go_simp; first | done | with_reducible rfl)
              try simp only [List.getElem_toArray, List.getElem_cons_succ, List.getElem_cons_zero, Act.put, List.setIfInBounds_toArray, List.set_cons_zero, List.set_cons_succ]
              refine wpAnyH_ready (rs := [17]) (by kernel_rfl) (by simp) ?_
              refine AllReadyH.cons (o := _) rfl (fun K hK => ?_) ?_
              · simp only [List.getElem_toArray, List.getElem_cons_succ, List.getElem_cons_zero]
                have yc : w5.cell? ⟨p, 7, none⟩ = some (.slice none 0 0) := hbx.cell 7
                have fc := hbx.frozen 7
                go_simp
                clear yc fc
                refine hK.out _ _ trivial (fun _ => ?_)
                clear hK K
                try simp only [List.getElem_toArray, List.getElem_cons_succ, List.getElem_cons_zero, Act.put, List.setIfInBounds_toArray, List.set_cons_zero, List.set_cons_succ]
                have hl := hl.set (p := ⟨p, 7, none⟩) hp4 (.slice (some ⟨g3, 0, none⟩) (n.nodes.length + 1) (n.nodes.length + 1))
                have hbx := hbx.set_ 7 (.slice (some ⟨g3, 0, none⟩) (n.nodes.length + 1) (n.nodes.length + 1))
                have hb1 := hb1.far (p := ⟨p, 7, none⟩) (by show g1 ≠ p; omega) (.slice (some ⟨g3, 0, none⟩) (n.nodes.length + 1) (n.nodes.length + 1))
                have hb2 := hb2.far (p := ⟨p, 7, none⟩) (by show g2 ≠ p; omega) (.slice (some ⟨g3, 0, none⟩) (n.nodes.length + 1) (n.nodes.length + 1))
                have hb3 := hb3.far (p := ⟨p, 7, none⟩) (by show g3 ≠ p; omega) (.slice (some ⟨g3, 0, none⟩) (n.nodes.length + 1) (n.nodes.length + 1))
                generalize w5.setCell ⟨p, 7, none⟩ (.slice (some ⟨g3, 0, none⟩) (n.nodes.length + 1) (n.nodes.length + 1)) = w6 at *
                refine wpAnyH_done (by kernel_rfl) ?_ _
                refine NoPanic.normal ?_
                go_wp2_with fail
                go_meet
                exact ⟨g1, g2, g3, ⟨hl, hp4, h1, h2, h3, by omega, by omega, by omega, hbx, hb1, hb2, hb3⟩⟩
              exact AllReadyH.nil
            exact AllReadyH.nil
          exact AllReadyH.nil
        refine AllReadyH.cons (o := _) rfl (fun K hK => ?_) ?_
        · simp only [List.getElem_toArray, List.getElem_cons_succ, List.getElem_cons_zero]
          go_simp
          refine hK.out _ _ trivial (fun _ => ?_)
          clear hK K
          try simp only [List.getElem_toArray, List.getElem_cons_succ, List.getElem_cons_zero, Act.put, List.setIfInBounds_toArray, List.set_cons_zero, List.set_cons_succ]
          have hb3 := Blk.new w2 4 (madeCells #[.bool false] (n.nodes.length + 1))
          have hl := hl.alloc (.cells (madeCells #[.bool false] (n.nodes.length + 1)) 4)
          have hlt := hbx.lt
          have hbx := hbx.alloc (.cells (madeCells #[.bool false] (n.nodes.length + 1)) 4)
          have hlt1 := hb1.lt
          have hb1 := hb1.alloc (.cells (madeCells #[.bool false] (n.nodes.length + 1)) 4)
          generalize w2.alloc (.cells (madeCells #[.bool false] (n.nodes.length + 1)) 4) = w3 at *
          generalize w2.heap.size = g3 at *
          have h3 : p < g3 := hlt
          have d13 : g1 < g3 := hlt1
          clear hlt hlt1
          refine wpAnyH_ready (rs := [6]) (by kernel_rfl) (by simp) ?_
          refine AllReadyH.cons (o := _) rfl (fun K hK => ?_) ?_
          · simp only [List.getElem_toArray, List.getElem_cons_succ, List.getElem_cons_zero]
            go_simp
            refine hK.out _ _ trivial (fun _ => ?_)
            clear hK K
            try simp only [List.getElem_toArray, List.getElem_cons_succ, List.getElem_cons_zero, Act.put, List.setIfInBounds_toArray, List.set_cons_zero, List.set_cons_succ]
            have hb2 := Blk.new w3 4 (madeCells #[.bool false] (n.nodes.length + 1))
            have hl := hl.alloc (.cells (madeCells #[.bool false] (n.nodes.length + 1)) 4)
            have hlt := hbx.lt
            have hbx := hbx.alloc (.cells (madeCells #[.bool false] (n.nodes.length + 1)) 4)
            have hlt1 := hb1.lt
            have hb1 := hb1.alloc (.cells (madeCells #[.bool false] (n.nodes.length + 1)) 4)
            have hlt3 := hb3.lt
            have hb3 := hb3.alloc (.cells (madeCells #[.bool false] (n.nodes.length + 1)) 4)
            generalize w3.alloc (.cells (madeCells #[.bool false] (n.nodes.length + 1)) 4) = w4 at *
            generalize w3.heap.size = g2 at *
            have h2 : p < g2 := hlt
            have d12 : g1 < g2 := hlt1
            have d32 : g3 < g2 := hlt3
            clear hlt hlt1 hlt3
            refine wpAnyH_take (i := 12) (oi := _) (v := ?v33) rfl (by kernel_rfl) (by kernel_rfl) (by kernel_rfl) (fun _ _ _ h => h) (Or.inl ⟨by rfl, ?y33⟩) trivial ?r33
            case y33 => (simp only [List.getElem_toArray, List.getElem_cons_succ, List.getElem_cons_zero]; intro w hSw; go_simp; first | done | with_reducible rfl)
            try simp only [List.getElem_toArray, List.getElem_cons_succ, List.getElem_cons_zero, Act.put, List.setIfInBounds_toArray, List.set_cons_zero, List.set_cons_succ]
            refine wpAnyH_take (i := 13) (oi := _) (v := ?v34) rfl (by kernel_rfl) (by kernel_rfl) (by kernel_rfl) (fun _ _ _ h => h) (Or.inl ⟨by rfl, ?y34⟩) trivial ?r34
            case y34 => (simp only [List.getElem_toArray, List.getElem_cons_succ, List.getElem_cons_zero]; intro w hSw; go_simp; first | done | with_reducible rfl)
            try simp only [List.getElem_toArray, List.getElem_cons_succ, List.getElem_cons_zero, Act.put, List.setIfInBounds_toArray, List.set_cons_zero, List.set_cons_succ]
            refine wpAnyH_ready (rs := [14]) (by kernel_rfl) (by simp) ?_
            refine AllReadyH.cons (o := _) rfl (fun K hK => ?_) ?_
            · simp only [List.getElem_toArray, List.getElem_cons_succ, List.getElem_cons_zero]
              have yc : w4.cell? ⟨p, 6, none⟩ = some (.slice none 0 0) := hbx.cell 6
              have fc := hbx.frozen 6
              go_simp
              clear yc fc
              refine hK.out _ _ trivial (fun _ => ?_)
              clear hK K
              try simp only [List.getElem_toArray, List.getElem_cons_succ, List.getElem_cons_zero, Act.put, List.setIfInBounds_toArray, List.set_cons_zero, List.set_cons_succ]
              have hl := hl.set (p := ⟨p, 6, none⟩) hp4 (.slice (some ⟨g2, 0, none⟩) (n.nodes.length + 1) (n.nodes.length + 1))
              have hbx := hbx.set_ 6 (.slice (some ⟨g2, 0, none⟩) (n.nodes.length + 1) (n.nodes.length + 1))
              have hb1 := hb1.far (p := ⟨p, 6, none⟩) (by show g1 ≠ p; omega) (.slice (some ⟨g2, 0, none⟩) (n.nodes.length + 1) (n.nodes.length + 1))
              have hb3 := hb3.far (p := ⟨p, 6, none⟩) (by show g3 ≠ p; omega) (.slice (some ⟨g2, 0, none⟩) (n.nodes.length + 1) (n.nodes.length + 1))
              have hb2 := hb2.far (p := ⟨p, 6, none⟩) (by show g2 ≠ p; omega) (.slice (some ⟨g2, 0, none⟩) (n.nodes.length + 1) (n.nodes.length + 1))
              generalize w4.setCell ⟨p, 6, none⟩ (.slice (some ⟨g2, 0, none⟩) (n.nodes.length + 1) (n.nodes.length + 1)) = w5 at *
              refine wpAnyH_take (i := 15) (oi := _) (v := ?v35) rfl (by kernel_rfl) (by kernel_rfl) (by kernel_rfl) (fun _ _ _ h => h) (Or.inl ⟨by rfl, ?y35⟩) trivial ?r35
              case y35 => (simp only [List.getElem_toArray, List.getElem_cons_succ, List.getElem_cons_zero]; intro w hSw; go_simp; first | done | with_reducible rfl)
              try simp only [List.getElem_toArray, List.getElem_cons_succ, List.getElem_cons_zero, Act.put, List.setIfInBounds_toArray, List.set_cons_zero, List.set_cons_succ]
              refine wpAnyH_take (i := 16) (oi := _) (v := ?v36) rfl (by kernel_rfl) (by kernel_rfl) (by kernel_rfl) (fun _ _ _ h => h) (Or.inl ⟨by rfl, ?y36⟩) trivial ?r36
              case y36 => (simp only [List.getElem_toArray, List.getElem_cons_succ, List.getElem_cons_zero]; intro w hSw; go_simp; first | done | with_reducible rfl)
              try simp only [List.getElem_toArray, List.getElem_cons_succ, List.getElem_cons_zero, Act.put, List.setIfInBounds_toArray, List.set_cons_zero, List.set_cons_succ]
              refine wpAnyH_ready (rs := [17]) (by kernel_rfl) (by simp) ?_
              refine AllReadyH.cons (o := _) rfl (fun K hK => ?_) ?_
              · simp only [List.getElem_toArray, List.getElem_cons_succ, List.getElem_cons_zero]
                have yc : w5.cell? ⟨p, 7, none⟩ = some (.slice none 0 0) := hbx.cell 7
                have fc := hbx.frozen 7
                go_simp
                clear yc fc
                refine hK.out _ _ trivial (fun _ => ?_)
                clear hK K
                try simp only [List.getElem_toArray, List.getElem_cons_succ, List.getElem_cons_zero, Act.put, List.setIfInBounds_toArray, List.set_cons_zero, List.set_cons_succ]
                have hl := hl.set (p := ⟨p, 7, none⟩) hp4 (.slice (some ⟨g3, 0, none⟩) (n.nodes.length + 1) (n.nodes.length + 1))
                have hbx := hbx.set_ 7 (.slice (some ⟨g3, 0, none⟩) (n.nodes.length + 1) (n.nodes.length + 1))
                have hb1 := hb1.far (p := ⟨p, 7, none⟩) (by show g1 ≠ p; omega) (.slice (some ⟨g3, 0, none⟩) (n.nodes.length + 1) (n.nodes.length + 1))
                have hb3 := hb3.far (p := ⟨p, 7, none⟩) (by show g3 ≠ p; omega) (.slice (some ⟨g3, 0, none⟩) (n.nodes.length + 1) (n.nodes.length + 1))
                have hb2 := hb2.far (p := ⟨p, 7, none⟩) (by show g2 ≠ p; omega) (.slice (some ⟨g3, 0, none⟩) (n.nodes.length + 1) (n.nodes.length + 1))
                generalize w5.setCell ⟨p, 7, none⟩ (.slice (some ⟨g3, 0, none⟩) (n.nodes.length + 1) (n.nodes.length + 1)) = w6 at *
                refine wpAnyH_done (by kernel_rfl) ?_ _
                refine NoPanic.normal ?_
                go_wp2_with fail
                go_meet
                exact ⟨g1, g2, g3, ⟨hl, hp4, h1, h2, h3, by omega, by omega, by omega, hbx, hb1, hb2, hb3⟩⟩
              exact AllReadyH.nil
            exact AllReadyH.nil
          exact AllReadyH.nil
        exact AllReadyH.nil
      exact AllReadyH.nil
    refine AllReadyH.cons (o := _) rfl (fun K hK => ?_) ?_
    · simp only [List.getElem_toArray, List.getElem_cons_succ, List.getElem_cons_zero]
      go_simp
      refine hK.out _ _ trivial (fun _ => ?_)
      clear hK K
      try simp only [List.getElem_toArray, List.getElem_cons_succ, List.getElem_cons_zero, Act.put, List.setIfInBounds_toArray, List.set_cons_zero, List.set_cons_succ]
      have hb2 := Blk.new w0 4 (madeCells #[.bool false] (n.nodes.length + 1))
      have hl := hl.alloc (.cells (madeCells #[.bool false] (n.nodes.length + 1)) 4)
      have hlt := hbx.lt
      have hbx := hbx.alloc (.cells (madeCells #[.bool false] (n.nodes.length + 1)) 4)
      generalize w0.alloc (.cells (madeCells #[.bool false] (n.nodes.length + 1)) 4) = w1 at *
      generalize w0.heap.size = g2 at *
      have h2 : p < g2 := hlt
      clear hlt
      refine wpAnyH_ready (rs := [4, 8]) (by kernel_rfl) (by simp) ?_
      refine AllReadyH.cons (o := _) rfl (fun K hK => ?_) ?_
      · simp only [List.getElem_toArray, List.getElem_cons_succ, List.getElem_cons_zero]
        go_simp
        refine hK.out _ _ trivial (fun _ => ?_)
        clear hK K
        try simp only [List.getElem_toArray, List.getElem_cons_succ, List.getElem_cons_zero, Act.put, List.setIfInBounds_toArray, List.set_cons_zero, List.set_cons_succ]
        have hb1 := Blk.new w1 3 (madeCells #[.int .i64 0] (n.nodes.length + 1))
        have hl := hl.alloc (.cells (madeCells #[.int .i64 0] (n.nodes.length + 1)) 3)
        have hlt := hbx.lt
        have hbx := hbx.alloc (.cells (madeCells #[.int .i64 0] (n.nodes.length + 1)) 3)
        have hlt2 := hb2.lt
        have hb2 := hb2.alloc (.cells (madeCells #[.int .i64 0] (n.nodes.length + 1)) 3)
        generalize w1.alloc (.cells (madeCells #[.int .i64 0] (n.nodes.length + 1)) 3) = w2 at *
        generalize w1.heap.size = g1 at *
        have h1 : p < g1 := hlt
        have d21 : g2 < g1 := hlt2
        clear hlt hlt2
        refine wpAnyH_take (i := 9) (oi := _) (v := ?v37) rfl (by kernel_rfl) (by kernel_rfl) (by kernel_rfl) (fun _ _ _ h => h) (Or.inl ⟨by rfl, ?y37⟩) trivial ?r37
        case y37 => (simp only [List.getElem_toArray, List.getElem_cons_succ, List.getElem_cons_zero]; intro w hSw; go_simp; first | done | with_reducible rfl)
        try simp only [List.getElem_toArray, List.getElem_cons_succ, List.getElem_cons_zero, Act.put, List.setIfInBounds_toArray, List.set_cons_zero, List.set_cons_succ]
        refine wpAnyH_take (i := 10) (oi := _) (v := ?v38) rfl (by kernel_rfl) (by kernel_rfl) (by kernel_rfl) (fun _ _ _ h => h) (Or.inl ⟨by rfl, ?y38⟩) trivial ?r38
        case y38 => (simp only [List.getElem_toArray, List.getElem_cons_succ, List.getElem_cons_zero]; intro w hSw; go_simp; first | done | with_reducible rfl)
        try simp only [List.getElem_toArray, List.getElem_cons_succ, List.getElem_cons_zero, Act.put, List.setIfInBounds_toArray, List.set_cons_zero, List.set_cons_succ]
        refine wpAnyH_ready (rs := [8, 11]) (by kernel_rfl) (by simp) ?_
        refine AllReadyH.cons (o := _) rfl (fun K hK => ?_) ?_
        · simp only [List.getElem_toArray, List.getElem_cons_succ, List.getElem_cons_zero]
          go_simp
          refine hK.out _ _ trivial (fun _ => ?_)
          clear hK K
          try simp only [List.getElem_toArray, List.getElem_cons_succ, List.getElem_cons_zero, Act.put, List.setIfInBounds_toArray, List.set_cons_zero, List.set_cons_succ]
          have hb3 := Blk.new w2 4 (madeCells #[.bool false] (n.nodes.length + 1))
          have hl := hl.alloc (.cells (madeCells #[.bool false] (n.nodes.length + 1)) 4)
          have hlt := hbx.lt
          have hbx := hbx.alloc (.cells (madeCells #[.bool false] (n.nodes.length + 1)) 4)
          have hlt2 := hb2.lt
          have hb2 := hb2.alloc (.cells (madeCells #[.bool false] (n.nodes.length + 1)) 4)
          have hlt1 := hb1.lt
          have hb1 := hb1.alloc (.cells (madeCells #[.bool false] (n.nodes.length + 1)) 4)
          generalize w2.alloc (.cells (madeCells #[.bool false] (n.nodes.length + 1)) 4) = w3 at *
          generalize w2.heap.size = g3 at *
          have h3 : p < g3 := hlt
          have d23 : g2 < g3 := hlt2
          have d13 : g1 < g3 := hlt1
          clear hlt hlt2 hlt1
          refine wpAnyH_ready (rs := [11]) (by kernel_rfl) (by simp) ?_
          refine AllReadyH.cons (o := _) rfl (fun K hK => ?_) ?_
          · simp only [List.getElem_toArray, List.getElem_cons_succ, List.getElem_cons_zero]
            have yc : w3.cell? ⟨p, 4, none⟩ = some (.slice none 0 0) := hbx.cell 4
            have fc := hbx.frozen 4
            go_simp
            clear yc fc
            refine hK.out _ _ trivial (fun _ => ?_)
            clear hK K
            try simp only [List.getElem_toArray, List.getElem_cons_succ, List.getElem_cons_zero, Act.put, List.setIfInBounds_toArray, List.set_cons_zero, List.set_cons_succ]
            have hl := hl.set (p := ⟨p, 4, none⟩) hp4 (.slice (some ⟨g1, 0, none⟩) (n.nodes.length + 1) (n.nodes.length + 1))
            have hbx := hbx.set_ 4 (.slice (some ⟨g1, 0, none⟩) (n.nodes.length + 1) (n.nodes.length + 1))
            have hb2 := hb2.far (p := ⟨p, 4, none⟩) (by show g2 ≠ p; omega) (.slice (some ⟨g1, 0, none⟩) (n.nodes.length + 1) (n.nodes.length + 1))
            have hb1 := hb1.far (p := ⟨p, 4, none⟩) (by show g1 ≠ p; omega) (.slice (some ⟨g1, 0, none⟩) (n.nodes.length + 1) (n.nodes.length + 1))
            have hb3 := hb3.far (p := ⟨p, 4, none⟩) (by show g3 ≠ p; omega) (.slice (some ⟨g1, 0, none⟩) (n.nodes.length + 1) (n.nodes.length + 1))
            generalize w3.setCell ⟨p, 4, none⟩ (.slice (some ⟨g1, 0, none⟩) (n.nodes.length + 1) (n.nodes.length + 1)) = w4 at *
            refine wpAnyH_take (i := 12) (oi := _) (v := ?v39) rfl (by kernel_rfl) (by kernel_rfl) (by kernel_rfl) (fun _ _ _ h => h) (Or.inl ⟨by rfl, ?y39⟩) trivial ?r39
            case y39 => (simp only [List.getElem_toArray, List.getElem_cons_succ, List.getElem_cons_zero]; intro w hSw; go_simp; first | done | with_reducible rfl)
            try simp only [List.getElem_toArray, List.getElem_cons_succ, List.getElem_cons_zero, Act.put, List.setIfInBounds_toArray, List.set_cons_zero, List.set_cons_succ]
            refine wpAnyH_take (i := 13) (oi := _) (v := ?v40) rfl (by kernel_rfl) (by kernel_rfl) (by kernel_rfl) (fun _ _ _ h => h) (Or.inl ⟨by rfl, ?y40⟩) trivial ?r40
            case y40 => (simp only [List.getElem_toArray, List.getElem_cons_succ, List.getElem_cons_zero]; intro w hSw; go_simp; first | done | with_reducible rfl)
            try simp only [List.getElem_toArray, List.getElem_cons_succ, List.getElem_cons_zero, Act.put, List.setIfInBounds_toArray, List.set_cons_zero, List.set_cons_succ]
            refine wpAnyH_ready (rs := [14]) (by kernel_rfl) (by simp) ?_
            refine AllReadyH.cons (o := _) rfl (fun K hK => ?_) ?_
            · simp only [List.getElem_toArray, List.getElem_cons_succ, List.getElem_cons_zero]
              have yc : w4.cell? ⟨p, 6, none⟩ = some (.slice none 0 0) := hbx.cell 6
              have fc := hbx.frozen 6
              go_simp
              clear yc fc
              refine hK.out _ _ trivial (fun _ => ?_)
              clear hK K
              try simp only [List.getElem_toArray, List.getElem_cons_succ, List.getElem_cons_zero, Act.put, List.setIfInBounds_toArray, List.set_cons_zero, List.set_cons_succ]
              have hl := hl.set (p := ⟨p, 6, none⟩) hp4 (.slice (some ⟨g2, 0, none⟩) (n.nodes.length + 1) (n.nodes.length + 1))
              have hbx := hbx.set_ 6 (.slice (some ⟨g2, 0, none⟩) (n.nodes.length + 1) (n.nodes.length + 1))
              have hb2 := hb2.far (p := ⟨p, 6, none⟩) (by show g2 ≠ p; omega) (.slice (some ⟨g2, 0, none⟩) (n.nodes.length + 1) (n.nodes.length + 1))
              have hb1 := hb1.far (p := ⟨p, 6, none⟩) (by show g1 ≠ p; omega) (.slice (some ⟨g2, 0, none⟩) (n.nodes.length + 1) (n.nodes.length + 1))
              have hb3 := hb3.far (p := ⟨p, 6, none⟩) (by show g3 ≠ p; omega) (.slice (some ⟨g2, 0, none⟩) (n.nodes.length + 1) (n.nodes.length + 1))
              generalize w4.setCell ⟨p, 6, none⟩ (.slice (some ⟨g2, 0, none⟩) (n.nodes.length + 1) (n.nodes.length + 1)) = w5 at *
              refine wpAnyH_take (i := 15) (oi := _) (v := ?v41) rfl (by kernel_rfl) (by kernel_rfl) (by kernel_rfl) (fun _ _ _ h => h) (Or.inl ⟨by rfl, ?y41⟩) trivial ?r41
              case y41 => (simp only [List.getElem_toArray, List.getElem_cons_succ, List.getElem_cons_zero]; intro w hSw; go_simp; first | done | with_reducible rfl)
              try simp only [List.getElem_toArray, List.getElem_cons_succ, List.getElem_cons_zero, Act.put, List.setIfInBounds_toArray, List.set_cons_zero, List.set_cons_succ]
              refine wpAnyH_take (i := 16) (oi := _) (v := ?v42) rfl (by kernel_rfl) (by kernel_rfl) (by kernel_rfl) (fun _ _ _ h => h) (Or.inl ⟨by rfl, ?y42⟩) trivial ?r42
              case y42 => (simp only [List.getElem_toArray, List.getElem_cons_succ, List.getElem_cons_zero]; intro w hSw; go_simp; first | done | with_reducible rfl)
              try simp only [List.getElem_toArray, List.getElem_cons_succ, List.getElem_cons_zero, Act.put, List.setIfInBounds_toArray, List.set_cons_zero, List.set_cons_succ]
              refine wpAnyH_ready (rs := [17]) (by kernel_rfl) (by simp) ?_
              refine AllReadyH.cons (o := _) rfl (fun K hK => ?_) ?_
              · simp only [List.getElem_toArray, List.getElem_cons_succ, List.getElem_cons_zero]
                have yc : w5.cell? ⟨p, 7, none⟩ = some (.slice none 0 0) := hbx.cell 7
                have fc := hbx.frozen 7
                go_simp
                clear yc fc
                refine hK.out _ _ trivial (fun _ => ?_)
                clear hK K
                try simp only [List.getElem_toArray, List.getElem_cons_succ, List.getElem_cons_zero, Act.put, List.setIfInBounds_toArray, List.set_cons_zero, List.set_cons_succ]
                have hl := hl.set (p := ⟨p, 7, none⟩) hp4 (.slice (some ⟨g3, 0, none⟩) (n.nodes.length + 1) (n.nodes.length + 1))
                have hbx := hbx.set_ 7 (.slice (some ⟨g3, 0, none⟩) (n.nodes.length + 1) (n.nodes.length + 1))
                have hb2 := hb2.far (p := ⟨p, 7, none⟩) (by show g2 ≠ p; omega) (.slice (some ⟨g3, 0, none⟩) (n.nodes.length + 1) (n.nodes.length + 1))
                have hb1 := hb1.far (p := ⟨p, 7, none⟩) (by show g1 ≠ p; omega) (.slice (some ⟨g3, 0, none⟩) (n.nodes.length + 1) (n.nodes.length + 1))
                have hb3 := hb3.far (p := ⟨p, 7, none⟩) (by show g3 ≠ p; omega) (.slice (some ⟨g3, 0, none⟩) (n.nodes.length + 1) (n.nodes.length + 1))
                generalize w5.setCell ⟨p, 7, none⟩ (.slice (some ⟨g3, 0, none⟩) (n.nodes.length + 1) (n.nodes.length + 1)) = w6 at *
                refine wpAnyH_done (by kernel_rfl) ?_ _
                refine NoPanic.normal ?_
                go_wp2_with fail
                go_meet
                exact ⟨g1, g2, g3, ⟨hl, hp4, h1, h2, h3, by omega, by omega, by omega, hbx, hb1, hb2, hb3⟩⟩
              exact AllReadyH.nil
            exact AllReadyH.nil
          exact AllReadyH.nil
        refine AllReadyH.cons (o := _) rfl (fun K hK => ?_) ?_
        · simp only [List.getElem_toArray, List.getElem_cons_succ, List.getElem_cons_zero]
          have yc : w2.cell? ⟨p, 4, none⟩ = some (.slice none 0 0) := hbx.cell 4
          have fc := hbx.frozen 4
          go_simp
          clear yc fc
          refine hK.out _ _ trivial (fun _ => ?_)
          clear hK K
          try simp only [List.getElem_toArray, List.getElem_cons_succ, List.getElem_cons_zero, Act.put, List.setIfInBounds_toArray, List.set_cons_zero, List.set_cons_succ]
          have hl := hl.set (p := ⟨p, 4, none⟩) hp4 (.slice (some ⟨g1, 0, none⟩) (n.nodes.length + 1) (n.nodes.length + 1))
          have hbx := hbx.set_ 4 (.slice (some ⟨g1, 0, none⟩) (n.nodes.length + 1) (n.nodes.length + 1))
          have hb2 := hb2.far (p := ⟨p, 4, none⟩) (by show g2 ≠ p; omega) (.slice (some ⟨g1, 0, none⟩) (n.nodes.length + 1) (n.nodes.length + 1))
          have hb1 := hb1.far (p := ⟨p, 4, none⟩) (by show g1 ≠ p; omega) (.slice (some ⟨g1, 0, none⟩) (n.nodes.length + 1) (n.nodes.length + 1))
          generalize w2.setCell ⟨p, 4, none⟩ (.slice (some ⟨g1, 0, none⟩) (n.nodes.length + 1) (n.nodes.length + 1)) = w3 at *
          refine wpAnyH_take (i := 12) (oi := _) (v := ?v43) rfl (by kernel_rfl) (by kernel_rfl) (by kernel_rfl) (fun _ _ _ h => h) (Or.inl ⟨by rfl, ?y43⟩) trivial ?r43
          case y43 => (simp only [List.getElem_toArray, List.getElem_cons_succ, List.getElem_cons_zero]; intro w hSw; go_simp; first | done | with_reducible rfl)
          try simp only [List.getElem_toArray, List.getElem_cons_succ, List.getElem_cons_zero, Act.put, List.setIfInBounds_toArray, List.set_cons_zero, List.set_cons_succ]
          refine wpAnyH_take (i := 13) (oi := _) (v := ?v44) rfl (by kernel_rfl) (by kernel_rfl) (by kernel_rfl) (fun _ _ _ h => h) (Or.inl ⟨by rfl, ?y44⟩) trivial ?r44
          case y44 => (simp only [List.getElem_toArray, List.getElem_cons_succ, List.getElem_cons_zero]; intro w hSw; go_simp; first | done | with_reducible rfl)
          try simp only [List.getElem_toArray, List.getElem_cons_succ, List.getElem_cons_zero, Act.put, List.setIfInBounds_toArray, List.set_cons_zero, List.set_cons_succ]
          refine wpAnyH_ready (rs := [8, 14]) (by kernel_rfl) (by simp) ?_
          refine AllReadyH.cons (o := _) rfl (fun K hK => ?_) ?_
          · simp only [List.getElem_toArray, List.getElem_cons_succ, List.getElem_cons_zero]
            go_simp
            refine hK.out _ _ trivial (fun _ => ?_)
            clear hK K
            try simp only [List.getElem_toArray, List.getElem_cons_succ, List.getElem_cons_zero, Act.put, List.setIfInBounds_toArray, List.set_cons_zero, List.set_cons_succ]
            have hb3 := Blk.new w3 4 (madeCells #[.bool false] (n.nodes.length + 1))
            have hl := hl.alloc (.cells (madeCells #[.bool false] (n.nodes.length + 1)) 4)
            have hlt := hbx.lt
            have hbx := hbx.alloc (.cells (madeCells #[.bool false] (n.nodes.length + 1)) 4)
            have hlt2 := hb2.lt
            have hb2 := hb2.alloc (.cells (madeCells #[.bool false] (n.nodes.length + 1)) 4)
            have hlt1 := hb1.lt
            have hb1 := hb1.alloc (.cells (madeCells #[.bool false] (n.nodes.length + 1)) 4)
            generalize w3.alloc (.cells (madeCells #[.bool false] (n.nodes.length + 1)) 4) = w4 at *
            generalize w3.heap.size = g3 at *
            have h3 : p < g3 := hlt
            have d23 : g2 < g3 := hlt2
            have d13 : g1 < g3 := hlt1
            clear hlt hlt2 hlt1
            refine wpAnyH_ready (rs := [14]) (by kernel_rfl) (by simp) ?_
            refine AllReadyH.cons (o := _) rfl (fun K hK => ?_) ?_
            · simp only [List.getElem_toArray, List.getElem_cons_succ, List.getElem_cons_zero]
              have yc : w4.cell? ⟨p, 6, none⟩ = some (.slice none 0 0) := hbx.cell 6
              have fc := hbx.frozen 6
              go_simp
              clear yc fc
              refine hK.out _ _ trivial (fun _ => ?_)
              clear hK K
              try simp only [List.getElem_toArray, List.getElem_cons_succ, List.getElem_cons_zero, Act.put, List.setIfInBounds_toArray, List.set_cons_zero, List.set_cons_succ]
              have hl := hl.set (p := ⟨p, 6, none⟩) hp4 (.slice (some ⟨g2, 0, none⟩) (n.nodes.length + 1) (n.nodes.length + 1))
              have hbx := hbx.set_ 6 (.slice (some ⟨g2, 0, none⟩) (n.nodes.length + 1) (n.nodes.length + 1))
              have hb2 := hb2.far (p := ⟨p, 6, none⟩) (by show g2 ≠ p; omega) (.slice (some ⟨g2, 0, none⟩) (n.nodes.length + 1) (n.nodes.length + 1))
              have hb1 := hb1.far (p := ⟨p, 6, none⟩) (by show g1 ≠ p; omega) (.slice (some ⟨g2, 0, none⟩) (n.nodes.length + 1) (n.nodes.length + 1))
              have hb3 := hb3.far (p := ⟨p, 6, none⟩) (by show g3 ≠ p; omega) (.slice (some ⟨g2, 0, none⟩) (n.nodes.length + 1) (n.nodes.length + 1))
              generalize w4.setCell ⟨p, 6, none⟩ (.slice (some ⟨g2, 0, none⟩) (n.nodes.length + 1) (n.nodes.length + 1)) = w5 at *
              refine wpAnyH_take (i := 15) (oi := _) (v := ?v45) rfl (by kernel_rfl) (by kernel_rfl) (by kernel_rfl) (fun _ _ _ h => h) (Or.inl ⟨by rfl, ?y45⟩) trivial ?r45
              case y45 => (simp only [List.getElem_toArray, List.getElem_cons_succ, List.getElem_cons_zero]; intro w hSw; go_simp; first | done | with_reducible rfl)
              try simp only [List.getElem_toArray, List.getElem_cons_succ, List.getElem_cons_zero, Act.put, List.setIfInBounds_toArray, List.set_cons_zero, List.set_cons_succ]
              refine wpAnyH_take (i := 16) (oi := _) (v := ?v46) rfl (by kernel_rfl) (by kernel_rfl) (by kernel_rfl) (fun _ _ _ h => h) (Or.inl ⟨by rfl, ?y46⟩) trivial ?r46
              case y46 => (simp only [List.getElem_toArray, List.getElem_cons_succ, List.getElem_cons_zero]; intro w hSw; go_simp; first | done | with_reducible rfl)
              try simp only [List.getElem_toArray, List.getElem_cons_succ, List.getElem_cons_zero, Act.put, List.setIfInBounds_toArray, List.set_cons_zero, List.set_cons_succ]
              refine wpAnyH_ready (rs := [17]) (by kernel_rfl) (by simp) ?_
              refine AllReadyH.cons (o := _) rfl (fun K hK => ?_) ?_
              · simp only [List.getElem_toArray, List.getElem_cons_succ, List.getElem_cons_zero]
                have yc : w5.cell? ⟨p, 7, none⟩ = some (.slice none 0 0) := hbx.cell 7
                have fc := hbx.frozen 7
                go_simp
                clear yc fc
                refine hK.out _ _ trivial (fun _ => ?_)
                clear hK K
                try simp only [List.getElem_toArray, List.getElem_cons_succ, List.getElem_cons_zero, Act.put, List.setIfInBounds_toArray, List.set_cons_zero, List.set_cons_succ]
                have hl := hl.set (p := ⟨p, 7, none⟩) hp4 (.slice (some ⟨g3, 0, none⟩) (n.nodes.length + 1) (n.nodes.length + 1))
                have hbx := hbx.set_ 7 (.slice (some ⟨g3, 0, none⟩) (n.nodes.length + 1) (n.nodes.length + 1))
                have hb2 := hb2.far (p := ⟨p, 7, none⟩) (by show g2 ≠ p; omega) (.slice (some ⟨g3, 0, none⟩) (n.nodes.length + 1) (n.nodes.length + 1))
                have hb1 := hb1.far (p := ⟨p, 7, none⟩) (by show g1 ≠ p; omega) (.slice (some ⟨g3, 0, none⟩) (n.nodes.length + 1) (n.nodes.length + 1))
                have hb3 := hb3.far (p := ⟨p, 7, none⟩) (by show g3 ≠ p; omega) (.slice (some ⟨g3, 0, none⟩) (n.nodes.length + 1) (n.nodes.length + 1))
                generalize w5.setCell ⟨p, 7, none⟩ (.slice (some ⟨g3, 0, none⟩) (n.nodes.length + 1) (n.nodes.length + 1)) = w6 at *
                refine wpAnyH_done (by kernel_rfl) ?_ _
                refine NoPanic.normal ?_
                go_wp2_with fail
                go_meet
                exact ⟨g1, g2, g3, ⟨hl, hp4, h1, h2, h3, by omega, by omega, by omega, hbx, hb1, hb2, hb3⟩⟩
              exact AllReadyH.nil
            exact AllReadyH.nil
          refine AllReadyH.cons (o := _) rfl (fun K hK => ?_) ?_
          · simp only [List.getElem_toArray, List.getElem_cons_succ, List.getElem_cons_zero]
            have yc : w3.cell? ⟨p, 6, none⟩ = some (.slice none 0 0) := hbx.cell 6
            have fc := hbx.frozen 6
            go_simp
            clear yc fc
            refine hK.out _ _ trivial (fun _ => ?_)
            clear hK K
            try simp only [List.getElem_toArray, List.getElem_cons_succ, List.getElem_cons_zero, Act.put, List.setIfInBounds_toArray, List.set_cons_zero, List.set_cons_succ]
            have hl := hl.set (p := ⟨p, 6, none⟩) hp4 (.slice (some ⟨g2, 0, none⟩) (n.nodes.length + 1) (n.nodes.length + 1))
            have hbx := hbx.set_ 6 (.slice (some ⟨g2, 0, none⟩) (n.nodes.length + 1) (n.nodes.length + 1))
            have hb2 := hb2.far (p := ⟨p, 6, none⟩) (by show g2 ≠ p; omega) (.slice (some ⟨g2, 0, none⟩) (n.nodes.length + 1) (n.nodes.length + 1))
            have hb1 := hb1.far (p := ⟨p, 6, none⟩) (by show g1 ≠ p; omega) (.slice (some ⟨g2, 0, none⟩) (n.nodes.length + 1) (n.nodes.length + 1))
            generalize w3.setCell ⟨p, 6, none⟩ (.slice (some ⟨g2, 0, none⟩) (n.nodes.length + 1) (n.nodes.length + 1)) = w4 at *
            refine wpAnyH_ready (rs := [8]) (by kernel_rfl) (by simp) ?_
            refine AllReadyH.cons (o := _) rfl (fun K hK => ?_) ?_
            · simp only [List.getElem_toArray, List.getElem_cons_succ, List.getElem_cons_zero]
              go_simp
              refine hK.out _ _ trivial (fun _ => ?_)
              clear hK K
              try simp only [List.getElem_toArray, List.getElem_cons_succ, List.getElem_cons_zero, Act.put, List.setIfInBounds_toArray, List.set_cons_zero, List.set_cons_succ]
              have hb3 := Blk.new w4 4 (madeCells #[.bool false] (n.nodes.length + 1))
              have hl := hl.alloc (.cells (madeCells #[.bool false] (n.nodes.length + 1)) 4)
              have hlt := hbx.lt
              have hbx := hbx.alloc (.cells (madeCells #[.bool false] (n.nodes.length + 1)) 4)
              have hlt2 := hb2.lt
              have hb2 := hb2.alloc (.cells (madeCells #[.bool false] (n.nodes.length + 1)) 4)
              have hlt1 := hb1.lt
              have hb1 := hb1.alloc (.cells (madeCells #[.bool false] (n.nodes.length + 1)) 4)
              generalize w4.alloc (.cells (madeCells #[.bool false] (n.nodes.length + 1)) 4) = w5 at *
              generalize w4.heap.size = g3 at *
              have h3 : p < g3 := hlt
              have d23 : g2 < g3 := hlt2
              have d13 : g1 < g3 := hlt1
              clear hlt hlt2 hlt1
              refine wpAnyH_take (i := 15) (oi := _) (v := ?v47) rfl (by kernel_rfl) (by kernel_rfl) (by kernel_rfl) (fun _ _ _ h => h) (Or.inl ⟨by rfl, ?y47⟩) trivial ?r47
              case y47 => (simp only [List.getElem_toArray, List.getElem_cons_succ, List.getElem_cons_zero]; intro w hSw; go_simp; first | done | with_reducible rfl)
              try simp only [List.getElem_toArray, List.getElem_cons_succ, List.getElem_cons_zero, Act.put, List.setIfInBounds_toArray, List.set_cons_zero, List.set_cons_succ]
              refine wpAnyH_take (i := 16) (oi := _) (v := ?v48) rfl (by kernel_rfl) (by kernel_rfl) (by kernel_rfl) (fun _ _ _ h => h) (Or.inl ⟨by rfl, ?y48⟩) trivial ?r48
              case y48 => (simp only [List.getElem_toArray, List.getElem_cons_succ, List.getElem_cons_zero]; intro w hSw; go_simp; first | done | with_reducible rfl)
              try simp only [List.getElem_toArray, List.getElem_cons_succ, List.getElem_cons_zero, Act.put, List.setIfInBounds_toArray, List.set_cons_zero, List.set_cons_succ]
              refine wpAnyH_ready (rs := [17]) (by kernel_rfl) (by simp) ?_
              refine AllReadyH.cons (o := _) rfl (fun K hK => ?_) ?_
              · simp only [List.getElem_toArray, List.getElem_cons_succ, List.getElem_cons_zero]
                have yc : w5.cell? ⟨p, 7, none⟩ = some (.slice none 0 0) := hbx.cell 7
                have fc := hbx.frozen 7
                go_simp
                clear yc fc
                refine hK.out _ _ trivial (fun _ => ?_)
                clear hK K
                try simp only [List.getElem_toArray, List.getElem_cons_succ, List.getElem_cons_zero, Act.put, List.setIfInBounds_toArray, List.set_cons_zero, List.set_cons_succ]
                have hl := hl.set (p := ⟨p, 7, none⟩) hp4 (.slice (some ⟨g3, 0, none⟩) (n.nodes.length + 1) (n.nodes.length + 1))
                have hbx := hbx.set_ 7 (.slice (some ⟨g3, 0, none⟩) (n.nodes.length + 1) (n.nodes.length + 1))
                have hb2 := hb2.far (p := ⟨p, 7, none⟩) (by show g2 ≠ p; omega) (.slice (some ⟨g3, 0, none⟩) (n.nodes.length + 1) (n.nodes.length + 1))
                have hb1 := hb1.far (p := ⟨p, 7, none⟩) (by show g1 ≠ p; omega) (.slice (some ⟨g3, 0, none⟩) (n.nodes.length + 1) (n.nodes.length + 1))
                have hb3 := hb3.far (p := ⟨p, 7, none⟩) (by show g3 ≠ p; omega) (.slice (some ⟨g3, 0, none⟩) (n.nodes.length + 1) (n.nodes.length + 1))
                generalize w5.setCell ⟨p, 7, none⟩ (.slice (some ⟨g3, 0, none⟩) (n.nodes.length + 1) (n.nodes.length + 1)) = w6 at *
                refine wpAnyH_done (by kernel_rfl) ?_ _
                refine NoPanic.normal ?_
                go_wp2_with fail
                go_meet
                exact ⟨g1, g2, g3, ⟨hl, hp4, h1, h2, h3, by omega, by omega, by omega, hbx, hb1, hb2, hb3⟩⟩
              exact AllReadyH.nil
            exact AllReadyH.nil
          exact AllReadyH.nil
        exact AllReadyH.nil
      refine AllReadyH.cons (o := _) rfl (fun K hK => ?_) ?_
      · simp only [List.getElem_toArray, List.getElem_cons_succ, List.getElem_cons_zero]
        go_simp
        refine hK.out _ _ trivial (fun _ => ?_)
        clear hK K
        try simp only [List.getElem_toArray, List.getElem_cons_succ, List.getElem_cons_zero, Act.put, List.setIfInBounds_toArray, List.set_cons_zero, List.set_cons_succ]
        have hb3 := Blk.new w1 4 (madeCells #[.bool false] (n.nodes.length + 1))
        have hl := hl.alloc (.cells (madeCells #[.bool false] (n.nodes.length + 1)) 4)
        have hlt := hbx.lt
        have hbx := hbx.alloc (.cells (madeCells #[.bool false] (n.nodes.length + 1)) 4)
        have hlt2 := hb2.lt
        have hb2 := hb2.alloc (.cells (madeCells #[.bool false] (n.nodes.length + 1)) 4)
        generalize w1.alloc (.cells (madeCells #[.bool false] (n.nodes.length + 1)) 4) = w2 at *
        generalize w1.heap.size = g3 at *
        have h3 : p < g3 := hlt
        have d23 : g2 < g3 := hlt2
        clear hlt hlt2
        refine wpAnyH_ready (rs := [4]) (by kernel_rfl) (by simp) ?_
        refine AllReadyH.cons (o := _) rfl (fun K hK => ?_) ?_
        · simp only [List.getElem_toArray, List.getElem_cons_succ, List.getElem_cons_zero]
          go_simp
          refine hK.out _ _ trivial (fun _ => ?_)
          clear hK K
          try simp only [List.getElem_toArray, List.getElem_cons_succ, List.getElem_cons_zero, Act.put, List.setIfInBounds_toArray, List.set_cons_zero, List.set_cons_succ]
          have hb1 := Blk.new w2 3 (madeCells #[.int .i64 0] (n.nodes.length + 1))
          have hl := hl.alloc (.cells (madeCells #[.int .i64 0] (n.nodes.length + 1)) 3)
          have hlt := hbx.lt
          have hbx := hbx.alloc (.cells (madeCells #[.int .i64 0] (n.nodes.length + 1)) 3)
          have hlt2 := hb2.lt
          have hb2 := hb2.alloc (.cells (madeCells #[.int .i64 0] (n.nodes.length + 1)) 3)
          have hlt3 := hb3.lt
          have hb3 := hb3.alloc (.cells (madeCells #[.int .i64 0] (n.nodes.length + 1)) 3)
          generalize w2.alloc (.cells (madeCells #[.int .i64 0] (n.nodes.length + 1)) 3) = w3 at *
          generalize w2.heap.size = g1 at *
          have h1 : p < g1 := hlt
          have d21 : g2 < g1 := hlt2
          have d31 : g3 < g1 := hlt3
          clear hlt hlt2 hlt3
          refine wpAnyH_take (i := 9) (oi := _) (v := ?v49) rfl (by kernel_rfl) (by kernel_rfl) (by kernel_rfl) (fun _ _ _ h => h) (Or.inl ⟨by rfl, ?y49⟩) trivial ?r49
          case y49 => (simp only [List.getElem_toArray, List.getElem_cons_succ, List.getElem_cons_zero]; intro w hSw; go_simp; first | done | with_reducible rfl)
          try simp only [List.getElem_toArray, List.getElem_cons_succ, List.getElem_cons_zero, Act.put, List.setIfInBounds_toArray, List.set_cons_zero, List.set_cons_succ]
          refine wpAnyH_take (i := 10) (oi := _) (v := ?v50) rfl (by kernel_rfl) (by kernel_rfl) (by kernel_rfl) (fun _ _ _ h => h) (Or.inl ⟨by rfl, ?y50⟩) trivial ?r50
          case y50 => (simp only [List.getElem_toArray, List.getElem_cons_succ, List.getElem_cons_zero]; intro w hSw; go_simp; first | done | with_reducible rfl)
          try simp only [List.getElem_toArray, List.getElem_cons_succ, List.getElem_cons_zero, Act.put, List.setIfInBounds_toArray, List.set_cons_zero, List.set_cons_succ]
          refine wpAnyH_ready (rs := [11]) (by kernel_rfl) (by simp) ?_
          refine AllReadyH.cons (o := _) rfl (fun K hK => ?_) ?_
          · simp only [List.getElem_toArray, List.getElem_cons_succ, List.getElem_cons_zero]
            have yc : w3.cell? ⟨p, 4, none⟩ = some (.slice none 0 0) := hbx.cell 4
            have fc := hbx.frozen 4
            go_simp
            clear yc fc
            refine hK.out _ _ trivial (fun _ => ?_)
            clear hK K
            try simp only [List.getElem_toArray, List.getElem_cons_succ, List.getElem_cons_zero, Act.put, List.setIfInBounds_toArray, List.set_cons_zero, List.set_cons_succ]
            have hl := hl.set (p := ⟨p, 4, none⟩) hp4 (.slice (some ⟨g1, 0, none⟩) (n.nodes.length + 1) (n.nodes.length + 1))
            have hbx := hbx.set_ 4 (.slice (some ⟨g1, 0, none⟩) (n.nodes.length + 1) (n.nodes.length + 1))
            have hb2 := hb2.far (p := ⟨p, 4, none⟩) (by show g2 ≠ p; omega) (.slice (some ⟨g1, 0, none⟩) (n.nodes.length + 1) (n.nodes.length + 1))
            have hb3 := hb3.far (p := ⟨p, 4, none⟩) (by show g3 ≠ p; omega) (.slice (some ⟨g1, 0, none⟩) (n.nodes.length + 1) (n.nodes.length + 1))
            have hb1 := hb1.far (p := ⟨p, 4, none⟩) (by show g1 ≠ p; omega) (.slice (some ⟨g1, 0, none⟩) (n.nodes.length + 1) (n.nodes.length + 1))
            generalize w3.setCell ⟨p, 4, none⟩ (.slice (some ⟨g1, 0, none⟩) (n.nodes.length + 1) (n.nodes.length + 1)) = w4 at *
            refine wpAnyH_take (i := 12) (oi := _) (v := ?v51) rfl (by kernel_rfl) (by kernel_rfl) (by kernel_rfl) (fun _ _ _ h => h) (Or.inl ⟨by rfl, ?y51⟩) trivial ?r51
            case y51 => (simp only [List.getElem_toArray, List.getElem_cons_succ, List.getElem_cons_zero]; intro w hSw; go_simp; first | done | with_reducible rfl)
            try simp only [List.getElem_toArray, List.getElem_cons_succ, List.getElem_cons_zero, Act.put, List.setIfInBounds_toArray, List.set_cons_zero, List.set_cons_succ]
            refine wpAnyH_take (i := 13) (oi := _) (v := ?v52) rfl (by kernel_rfl) (by kernel_rfl) (by kernel_rfl) (fun _ _ _ h => h) (Or.inl ⟨by rfl, ?y52⟩) trivial ?r52
            case y52 => (simp only [List.getElem_toArray, List.getElem_cons_succ, List.getElem_cons_zero]; intro w hSw; go_simp; first | done | with_reducible rfl)
            try simp only [List.getElem_toArray, List.getElem_cons_succ, List.getElem_cons_zero, Act.put, List.setIfInBounds_toArray, List.set_cons_zero, List.set_cons_succ]
            refine wpAnyH_ready (rs := [14]) (by kernel_rfl) (by simp) ?_
            refine AllReadyH.cons (o := _) rfl (fun K hK => ?_) ?_
            · simp only [List.getElem_toArray, List.getElem_cons_succ, List.getElem_cons_zero]
              have yc : w4.cell? ⟨p, 6, none⟩ = some (.slice none 0 0) := hbx.cell 6
              have fc := hbx.frozen 6
              go_simp
              clear yc fc
              refine hK.out _ _ trivial (fun _ => ?_)
              clear hK K
              try simp only [List.getElem_toArray, List.getElem_cons_succ, List.getElem_cons_zero, Act.put, List.setIfInBounds_toArray, List.set_cons_zero, List.set_cons_succ]
              have hl := hl.set (p := ⟨p, 6, none⟩) hp4 (.slice (some ⟨g2, 0, none⟩) (n.nodes.length + 1) (n.nodes.length + 1))
              have hbx := hbx.set_ 6 (.slice (some ⟨g2, 0, none⟩) (n.nodes.length + 1) (n.nodes.length + 1))
              have hb2 := hb2.far (p := ⟨p, 6, none⟩) (by show g2 ≠ p; omega) (.slice (some ⟨g2, 0, none⟩) (n.nodes.length + 1) (n.nodes.length + 1))
              have hb3 := hb3.far (p := ⟨p, 6, none⟩) (by show g3 ≠ p; omega) (.slice (some ⟨g2, 0, none⟩) (n.nodes.length + 1) (n.nodes.length + 1))
              have hb1 := hb1.far (p := ⟨p, 6, none⟩) (by show g1 ≠ p; omega) (.slice (some ⟨g2, 0, none⟩) (n.nodes.length + 1) (n.nodes.length + 1))
              generalize w4.setCell ⟨p, 6, none⟩ (.slice (some ⟨g2, 0, none⟩) (n.nodes.length + 1) (n.nodes.length + 1)) = w5 at *
              refine wpAnyH_take (i := 15) (oi := _) (v := ?v53) rfl (by kernel_rfl) (by kernel_rfl) (by kernel_rfl) (fun _ _ _ h => h) (Or.inl ⟨by rfl, ?y53⟩) trivial ?r53
              case y53 => (simp only [List.getElem_toArray, List.getElem_cons_succ, List.getElem_cons_zero]; intro w hSw; go_simp; first | done | with_reducible rfl)
              try simp only [List.getElem_toArray, List.getElem_cons_succ, List.getElem_cons_zero, Act.put, List.setIfInBounds_toArray, List.set_cons_zero, List.set_cons_succ]
              refine wpAnyH_take (i := 16) (oi := _) (v := ?v54) rfl (by kernel_rfl) (by kernel_rfl) (by kernel_rfl) (fun _ _ _ h => h) (Or.inl ⟨by rfl, ?y54⟩) trivial ?r54
              case y54 => (simp only [List.getElem_toArray, List.getElem_cons_succ, List.getElem_cons_zero]; intro w hSw; go_simp; first | done | with_reducible rfl)
              try simp only [List.getElem_toArray, List.getElem_cons_succ, List.getElem_cons_zero, Act.put, List.setIfInBounds_toArray, List.set_cons_zero, List.set_cons_succ]
              refine wpAnyH_ready (rs := [17]) (by kernel_rfl) (by simp) ?_
              refine AllReadyH.cons (o := _) rfl (fun K hK => ?_) ?_
              · simp only [List.getElem_toArray, List.getElem_cons_succ, List.getElem_cons_zero]
                have yc : w5.cell? ⟨p, 7, none⟩ = some (.slice none 0 0) := hbx.cell 7
                have fc := hbx.frozen 7
                go_simp
                clear yc fc
                refine hK.out _ _ trivial (fun _ => ?_)
                clear hK K
                try simp only [List.getElem_toArray, List.getElem_cons_succ, List.getElem_cons_zero, Act.put, List.setIfInBounds_toArray, List.set_cons_zero, List.set_cons_succ]
                have hl := hl.set (p := ⟨p, 7, none⟩) hp4 (.slice (some ⟨g3, 0, none⟩) (n.nodes.length + 1) (n.nodes.length + 1))
                have hbx := hbx.set_ 7 (.slice (some ⟨g3, 0, none⟩) (n.nodes.length + 1) (n.nodes.length + 1))
                have hb2 := hb2.far (p := ⟨p, 7, none⟩) (by show g2 ≠ p; omega) (.slice (some ⟨g3, 0, none⟩) (n.nodes.length + 1) (n.nodes.length + 1))
                have hb3 := hb3.far (p := ⟨p, 7, none⟩) (by show g3 ≠ p; omega) (.slice (some ⟨g3, 0, none⟩) (n.nodes.length + 1) (n.nodes.length + 1))
                have hb1 := hb1.far (p := ⟨p, 7, none⟩) (by show g1 ≠ p; omega) (.slice (some ⟨g3, 0, none⟩) (n.nodes.length + 1) (n.nodes.length + 1))
                generalize w5.setCell ⟨p, 7, none⟩ (.slice (some ⟨g3, 0, none⟩) (n.nodes.length + 1) (n.nodes.length + 1)) = w6 at *
                refine wpAnyH_done (by kernel_rfl) ?_ _
                refine NoPanic.normal ?_
                go_wp2_with fail
                go_meet
                exact ⟨g1, g2, g3, ⟨hl, hp4, h1, h2, h3, by omega, by omega, by omega, hbx, hb1, hb2, hb3⟩⟩
              exact AllReadyH.nil
            exact AllReadyH.nil
          exact AllReadyH.nil
        exact AllReadyH.nil
      exact AllReadyH.nil
    refine AllReadyH.cons (o := _) rfl (fun K hK => ?_) ?_
    · simp only [List.getElem_toArray, List.getElem_cons_succ, List.getElem_cons_zero]
      go_simp
      refine hK.out _ _ trivial (fun _ => ?_)
      clear hK K
      try simp only [List.getElem_toArray, List.getElem_cons_succ, List.getElem_cons_zero, Act.put, List.setIfInBounds_toArray, List.set_cons_zero, List.set_cons_succ]
      have hb3 := Blk.new w0 4 (madeCells #[.bool false] (n.nodes.length + 1))
      have hl := hl.alloc (.cells (madeCells #[.bool false] (n.nodes.length + 1)) 4)
      have hlt := hbx.lt
      have hbx := hbx.alloc (.cells (madeCells #[.bool false] (n.nodes.length + 1)) 4)
      generalize w0.alloc (.cells (madeCells #[.bool false] (n.nodes.length + 1)) 4) = w1 at *
      generalize w0.heap.size = g3 at *
      have h3 : p < g3 := hlt
      clear hlt
      refine wpAnyH_ready (rs := [4, 6]) (by kernel_rfl) (by simp) ?_
      refine AllReadyH.cons (o := _) rfl (fun K hK => ?_) ?_
      · simp only [List.getElem_toArray, List.getElem_cons_succ, List.getElem_cons_zero]
        go_simp
        refine hK.out _ _ trivial (fun _ => ?_)
        clear hK K
        try simp only [List.getElem_toArray, List.getElem_cons_succ, List.getElem_cons_zero, Act.put, List.setIfInBounds_toArray, List.set_cons_zero, List.set_cons_succ]
        have hb1 := Blk.new w1 3 (madeCells #[.int .i64 0] (n.nodes.length + 1))
        have hl := hl.alloc (.cells (madeCells #[.int .i64 0] (n.nodes.length + 1)) 3)
        have hlt := hbx.lt
        have hbx := hbx.alloc (.cells (madeCells #[.int .i64 0] (n.nodes.length + 1)) 3)
        have hlt3 := hb3.lt
        have hb3 := hb3.alloc (.cells (madeCells #[.int .i64 0] (n.nodes.length + 1)) 3)
        generalize w1.alloc (.cells (madeCells #[.int .i64 0] (n.nodes.length + 1)) 3) = w2 at *
        generalize w1.heap.size = g1 at *
        have h1 : p < g1 := hlt
        have d31 : g3 < g1 := hlt3
        clear hlt hlt3
        refine wpAnyH_take (i := 9) (oi := _) (v := ?v55) rfl (by kernel_rfl) (by kernel_rfl) (by kernel_rfl) (fun _ _ _ h => h) (Or.inl ⟨by rfl, ?y55⟩) trivial ?r55
        case y55 => (simp only [List.getElem_toArray, List.getElem_cons_succ, List.getElem_cons_zero]; intro w hSw; go_simp; first | done | with_reducible rfl)
        try simp only [List.getElem_toArray, List.getElem_cons_succ, List.getElem_cons_zero, Act.put, List.setIfInBounds_toArray, List.set_cons_zero, List.set_cons_succ]
        refine wpAnyH_take (i := 10) (oi := _) (v := ?v56) rfl (by kernel_rfl) (by kernel_rfl) (by kernel_rfl) (fun _ _ _ h => h) (Or.inl ⟨by rfl, ?y56⟩) trivial ?r56
        case y56 => (simp only [List.getElem_toArray, List.getElem_cons_succ, List.getElem_cons_zero]; intro w hSw; go_simp; first | done | with_reducible rfl)
        try simp only [List.getElem_toArray, List.getElem_cons_succ, List.getElem_cons_zero, Act.put, List.setIfInBounds_toArray, List.set_cons_zero, List.set_cons_succ]
        refine wpAnyH_ready (rs := [6, 11]) (by kernel_rfl) (by simp) ?_
        refine AllReadyH.cons (o := _) rfl (fun K hK => ?_) ?_
        · simp only [List.getElem_toArray, List.getElem_cons_succ, List.getElem_cons_zero]
          go_simp
          refine hK.out _ _ trivial (fun _ => ?_)
          clear hK K
          try simp only [List.getElem_toArray, List.getElem_cons_succ, List.getElem_cons_zero, Act.put, List.setIfInBounds_toArray, List.set_cons_zero, List.set_cons_succ]
          have hb2 := Blk.new w2 4 (madeCells #[.bool false] (n.nodes.length + 1))
          have hl := hl.alloc (.cells (madeCells #[.bool false] (n.nodes.length + 1)) 4)
          have hlt := hbx.lt
          have hbx := hbx.alloc (.cells (madeCells #[.bool false] (n.nodes.length + 1)) 4)
          have hlt3 := hb3.lt
          have hb3 := hb3.alloc (.cells (madeCells #[.bool false] (n.nodes.length + 1)) 4)
          have hlt1 := hb1.lt
          have hb1 := hb1.alloc (.cells (madeCells #[.bool false] (n.nodes.length + 1)) 4)
          generalize w2.alloc (.cells (madeCells #[.bool false] (n.nodes.length + 1)) 4) = w3 at *
          generalize w2.heap.size = g2 at *
          have h2 : p < g2 := hlt
          have d32 : g3 < g2 := hlt3
          have d12 : g1 < g2 := hlt1
          clear hlt hlt3 hlt1
          refine wpAnyH_ready (rs := [11]) (by kernel_rfl) (by simp) ?_
          refine AllReadyH.cons (o := _) rfl (fun K hK => ?_) ?_
          · simp only [List.getElem_toArray, List.getElem_cons_succ, List.getElem_cons_zero]
            have yc : w3.cell? ⟨p, 4, none⟩ = some (.slice none 0 0) := hbx.cell 4
            have fc := hbx.frozen 4
            go_simp
            clear yc fc
            refine hK.out _ _ trivial (fun _ => ?_)
            clear hK K
            try simp only [List.getElem_toArray, List.getElem_cons_succ, List.getElem_cons_zero, Act.put, List.setIfInBounds_toArray, List.set_cons_zero, List.set_cons_succ]
            have hl := hl.set (p := ⟨p, 4, none⟩) hp4 (.slice (some ⟨g1, 0, none⟩) (n.nodes.length + 1) (n.nodes.length + 1))
            have hbx := hbx.set_ 4 (.slice (some ⟨g1, 0, none⟩) (n.nodes.length + 1) (n.nodes.length + 1))
            have hb3 := hb3.far (p := ⟨p, 4, none⟩) (by show g3 ≠ p; omega) (.slice (some ⟨g1, 0, none⟩) (n.nodes.length + 1) (n.nodes.length + 1))
            have hb1 := hb1.far (p := ⟨p, 4, none⟩) (by show g1 ≠ p; omega) (.slice (some ⟨g1, 0, none⟩) (n.nodes.length + 1) (n.nodes.length + 1))
            have hb2 := hb2.far (p := ⟨p, 4, none⟩) (by show g2 ≠ p; omega) (.slice (some ⟨g1, 0, none⟩) (n.nodes.length + 1) (n.nodes.length + 1))
            generalize w3.setCell ⟨p, 4, none⟩ (.slice (some ⟨g1, 0, none⟩) (n.nodes.length + 1) (n.nodes.length + 1)) = w4 at *
            refine wpAnyH_take (i := 12) (oi := _) (v := ?v57) rfl (by kernel_rfl) (by kernel_rfl) (by kernel_rfl) (fun _ _ _ h => h) (Or.inl ⟨by rfl, ?y57⟩) trivial ?r57
            case y57 => (simp only [List.getElem_toArray, List.getElem_cons_succ, List.getElem_cons_zero]; intro w hSw; go_simp; first | done | with_reducible rfl)
            try simp only [List.getElem_toArray, List.getElem_cons_succ, List.getElem_cons_zero, Act.put, List.setIfInBounds_toArray, List.set_cons_zero, List.set_cons_succ]
            refine wpAnyH_take (i := 13) (oi := _) (v := ?v58) rfl (by kernel_rfl) (by kernel_rfl) (by kernel_rfl) (fun _ _ _ h => h) (Or.inl ⟨by rfl, ?y58⟩) trivial ?r58
            case y58 => (simp only [List.getElem_toArray, List.getElem_cons_succ, List.getElem_cons_zero]; intro w hSw; go_simp; first | done | with_reducible rfl)
            try simp only [List.getElem_toArray, List.getElem_cons_succ, List.getElem_cons_zero, Act.put, List.setIfInBounds_toArray, List.set_cons_zero, List.set_cons_succ]
            refine wpAnyH_ready (rs := [14]) (by kernel_rfl) (by simp) ?_
            refine AllReadyH.cons (o := _) rfl (fun K hK => ?_) ?_
            · simp only [List.getElem_toArray, List.getElem_cons_succ, List.getElem_cons_zero]
              have yc : w4.cell? ⟨p, 6, none⟩ = some (.slice none 0 0) := hbx.cell 6
              have fc := hbx.frozen 6
              go_simp
              clear yc fc
              refine hK.out _ _ trivial (fun _ => ?_)
              clear hK K
              try simp only [List.getElem_toArray, List.getElem_cons_succ, List.getElem_cons_zero, Act.put, List.setIfInBounds_toArray, List.set_cons_zero, List.set_cons_succ]
              have hl := hl.set (p := ⟨p, 6, none⟩) hp4 (.slice (some ⟨g2, 0, none⟩) (n.nodes.length + 1) (n.nodes.length + 1))
              have hbx := hbx.set_ 6 (.slice (some ⟨g2, 0, none⟩) (n.nodes.length + 1) (n.nodes.length + 1))
              have hb3 := hb3.far (p := ⟨p, 6, none⟩) (by show g3 ≠ p; omega) (.slice (some ⟨g2, 0, none⟩) (n.nodes.length + 1) (n.nodes.length + 1))
              have hb1 := hb1.far (p := ⟨p, 6, none⟩) (by show g1 ≠ p; omega) (.slice (some ⟨g2, 0, none⟩) (n.nodes.length + 1) (n.nodes.length + 1))
              have hb2 := hb2.far (p := ⟨p, 6, none⟩) (by show g2 ≠ p; omega) (.slice (some ⟨g2, 0, none⟩) (n.nodes.length + 1) (n.nodes.length + 1))
              generalize w4.setCell ⟨p, 6, none⟩ (.slice (some ⟨g2, 0, none⟩) (n.nodes.length + 1) (n.nodes.length + 1)) = w5 at *
              refine wpAnyH_take (i := 15) (oi := _) (v := ?v59) rfl (by kernel_rfl) (by kernel_rfl) (by kernel_rfl) (fun _ _ _ h => h) (Or.inl ⟨by rfl, ?y59⟩) trivial ?r59
              case y59 => (simp only [List.getElem_toArray, List.getElem_cons_succ, List.getElem_cons_zero]; intro w hSw; go_simp; first | done | with_reducible rfl)
              try simp only [List.getElem_toArray, List.getElem_cons_succ, List.getElem_cons_zero, Act.put, List.setIfInBounds_toArray, List.set_cons_zero, List.set_cons_succ]
              refine wpAnyH_take (i := 16) (oi := _) (v := ?v60) rfl (by kernel_rfl) (by kernel_rfl) (by kernel_rfl) (fun _ _ _ h => h) (Or.inl ⟨by rfl, ?y60⟩) trivial ?r60
              case y60 => (simp only [List.getElem_toArray, List.getElem_cons_succ, List.getElem_cons_zero]; intro w hSw; go_simp; first | done | with_reducible rfl)
              try simp only [List.getElem_toArray, List.getElem_cons_succ, List.getElem_cons_zero, Act.put, List.setIfInBounds_toArray, List.set_cons_zero, List.set_cons_succ]
              refine wpAnyH_ready (rs := [17]) (by kernel_rfl) (by simp) ?_
              refine AllReadyH.cons (o := _) rfl (fun K hK => ?_) ?_
              · simp only [List.getElem_toArray, List.getElem_cons_succ, List.getElem_cons_zero]
                have yc : w5.cell? ⟨p, 7, none⟩ = some (.slice none 0 0) := hbx.cell 7
                have fc := hbx.frozen 7
                go_simp
                clear yc fc
                refine hK.out _ _ trivial (fun _ => ?_)
                clear hK K
                try simp only [List.getElem_toArray, List.getElem_cons_succ, List.getElem_cons_zero, Act.put, List.setIfInBounds_toArray, List.set_cons_zero, List.set_cons_succ]
                have hl := hl.set (p := ⟨p, 7, none⟩) hp4 (.slice (some ⟨g3, 0, none⟩) (n.nodes.length + 1) (n.nodes.length + 1))
                have hbx := hbx.set_ 7 (.slice (some ⟨g3, 0, none⟩) (n.nodes.length + 1) (n.nodes.length + 1))
                have hb3 := hb3.far (p := ⟨p, 7, none⟩) (by show g3 ≠ p; omega) (.slice (some ⟨g3, 0, none⟩) (n.nodes.length + 1) (n.nodes.length + 1))
                have hb1 := hb1.far (p := ⟨p, 7, none⟩) (by show g1 ≠ p; omega) (.slice (some ⟨g3, 0, none⟩) (n.nodes.length + 1) (n.nodes.length + 1))
                have hb2 := hb2.far (p := ⟨p, 7, none⟩) (by show g2 ≠ p; omega) (.slice (some ⟨g3, 0, none⟩) (n.nodes.length + 1) (n.nodes.length + 1))
                generalize w5.setCell ⟨p, 7, none⟩ (.slice (some ⟨g3, 0, none⟩) (n.nodes.length + 1) (n.nodes.length + 1)) = w6 at *
                refine wpAnyH_done (by kernel_rfl) ?_ _
                refine NoPanic.normal ?_
                go_wp2_with fail
                go_meet
                exact ⟨g1, g2, g3, ⟨hl, hp4, h1, h2, h3, by omega, by omega, by omega, hbx, hb1, hb2, hb3⟩⟩
              exact AllReadyH.nil
            exact AllReadyH.nil
          exact AllReadyH.nil
        refine AllReadyH.cons (o := _) rfl (fun K hK => ?_) ?_
        · simp only [List.getElem_toArray, List.getElem_cons_succ, List.getElem_cons_zero]
          have yc : w2.cell? ⟨p, 4, none⟩ = some (.slice none 0 0) := hbx.cell 4
          have fc := hbx.frozen 4
          go_simp
          clear yc fc
          refine hK.out _ _ trivial (fun _ => ?_)
          clear hK K
          try simp only [List.getElem_toArray, List.getElem_cons_succ, List.getElem_cons_zero, Act.put, List.setIfInBounds_toArray, List.set_cons_zero, List.set_cons_succ]
          have hl := hl.set (p := ⟨p, 4, none⟩) hp4 (.slice (some ⟨g1, 0, none⟩) (n.nodes.length + 1) (n.nodes.length + 1))
          have hbx := hbx.set_ 4 (.slice (some ⟨g1, 0, none⟩) (n.nodes.length + 1) (n.nodes.length + 1))
          have hb3 := hb3.far (p := ⟨p, 4, none⟩) (by show g3 ≠ p; omega) (.slice (some ⟨g1, 0, none⟩) (n.nodes.length + 1) (n.nodes.length + 1))
          have hb1 := hb1.far (p := ⟨p, 4, none⟩) (by show g1 ≠ p; omega) (.slice (some ⟨g1, 0, none⟩) (n.nodes.length + 1) (n.nodes.length + 1))
          generalize w2.setCell ⟨p, 4, none⟩ (.slice (some ⟨g1, 0, none⟩) (n.nodes.length + 1) (n.nodes.length + 1)) = w3 at *
          refine wpAnyH_ready (rs := [6]) (by kernel_rfl) (by simp) ?_
          refine AllReadyH.cons (o := _) rfl (fun K hK => ?_) ?_
          · simp only [List.getElem_toArray, List.getElem_cons_succ, List.getElem_cons_zero]
            go_simp
            refine hK.out _ _ trivial (fun _ => ?_)
            clear hK K
            try simp only [List.getElem_toArray, List.getElem_cons_succ, List.getElem_cons_zero, Act.put, List.setIfInBounds_toArray, List.set_cons_zero, List.set_cons_succ]
            have hb2 := Blk.new w3 4 (madeCells #[.bool false] (n.nodes.length + 1))
            have hl := hl.alloc (.cells (madeCells #[.bool false] (n.nodes.length + 1)) 4)
            have hlt := hbx.lt
            have hbx := hbx.alloc (.cells (madeCells #[.bool false] (n.nodes.length + 1)) 4)
            have hlt3 := hb3.lt
            have hb3 := hb3.alloc (.cells (madeCells #[.bool false] (n.nodes.length + 1)) 4)
            have hlt1 := hb1.lt
            have hb1 := hb1.alloc (.cells (madeCells #[.bool false] (n.nodes.length + 1)) 4)
            generalize w3.alloc (.cells (madeCells #[.bool false] (n.nodes.length + 1)) 4) = w4 at *
            generalize w3.heap.size = g2 at *
            have h2 : p < g2 := hlt
            have d32 : g3 < g2 := hlt3
            have d12 : g1 < g2 := hlt1
            clear hlt hlt3 hlt1
            refine wpAnyH_take (i := 12) (oi := _) (v := ?v61) rfl (by kernel_rfl) (by kernel_rfl) (by kernel_rfl) (fun _ _ _ h => h) (Or.inl ⟨by rfl, ?y61⟩) trivial ?r61
            case y61 => (simp only [List.getElem_toArray, List.getElem_cons_succ, List.getElem_cons_zero]; intro w hSw; go_simp; first | done | with_reducible rfl)
            try simp only [List.getElem_toArray, List.getElem_cons_succ, List.getElem_cons_zero, Act.put, List.setIfInBounds_toArray, List.set_cons_zero, List.set_cons_succ]
            refine wpAnyH_take (i := 13) (oi := _) (v := ?v62) rfl (by kernel_rfl) (by kernel_rfl) (by kernel_rfl) (fun _ _ _ h => h) (Or.inl ⟨by rfl, ?y62⟩) trivial ?r62
            case y62 => (simp only [List.getElem_toArray, List.getElem_cons_succ, List.getElem_cons_zero]; intro w hSw; go_simp; first | done | with_reducible rfl)
            try simp only [List.getElem_toArray, List.getElem_cons_succ, List.getElem_cons_zero, Act.put, List.setIfInBounds_toArray, List.set_cons_zero, List.set_cons_succ]
            refine wpAnyH_ready (rs := [14]) (by kernel_rfl) (by simp) ?_
            refine AllReadyH.cons (o := _) rfl (fun K hK => ?_) ?_
            · simp only [List.getElem_toArray, List.getElem_cons_succ, List.getElem_cons_zero]
              have yc : w4.cell? ⟨p, 6, none⟩ = some (.slice none 0 0) := hbx.cell 6
              have fc := hbx.frozen 6
              go_simp
              clear yc fc
              refine hK.out _ _ trivial (fun _ => ?_)
              clear hK K
              try simp only [List.getElem_toArray, List.getElem_cons_succ, List.getElem_cons_zero, Act.put, List.setIfInBounds_toArray, List.set_cons_zero, List.set_cons_succ]
              have hl := hl.set (p := ⟨p, 6, none⟩) hp4 (.slice (some ⟨g2, 0, none⟩) (n.nodes.length + 1) (n.nodes.length + 1))
              have hbx := hbx.set_ 6 (.slice (some ⟨g2, 0, none⟩) (n.nodes.length + 1) (n.nodes.length + 1))
              have hb3 := hb3.far (p := ⟨p, 6, none⟩) (by show g3 ≠ p; omega) (.slice (some ⟨g2, 0, none⟩) (n.nodes.length + 1) (n.nodes.length + 1))
              have hb1 := hb1.far (p := ⟨p, 6, none⟩) (by show g1 ≠ p; omega) (.slice (some ⟨g2, 0, none⟩) (n.nodes.length + 1) (n.nodes.length + 1))
              have hb2 := hb2.far (p := ⟨p, 6, none⟩) (by show g2 ≠ p; omega) (.slice (some ⟨g2, 0, none⟩) (n.nodes.length + 1) (n.nodes.length + 1))
              generalize w4.setCell ⟨p, 6, none⟩ (.slice (some ⟨g2, 0, none⟩) (n.nodes.length + 1) (n.nodes.length + 1)) = w5 at *
              refine wpAnyH_take (i := 15) (oi := _) (v := ?v63) rfl (by kernel_rfl) (by kernel_rfl) (by kernel_rfl) (fun _ _ _ h => h) (Or.inl ⟨by rfl, ?y63⟩) trivial ?r63
              case y63 => (simp only [List.getElem_toArray, List.getElem_cons_succ, List.getElem_cons_zero]; intro w hSw; go_simp; first | done | with_reducible rfl)
              try simp only [List.getElem_toArray, List.getElem_cons_succ, List.getElem_cons_zero, Act.put, List.setIfInBounds_toArray, List.set_cons_zero, List.set_cons_succ]
              refine wpAnyH_take (i := 16) (oi := _) (v := ?v64) rfl (by kernel_rfl) (by kernel_rfl) (by kernel_rfl) (fun _ _ _ h => h) (Or.inl ⟨by rfl, ?y64⟩) trivial ?r64
              case y64 => (simp only [List.getElem_toArray, List.getElem_cons_succ, List.getElem_cons_zero]; intro w hSw; go_simp; first | done | with_reducible rfl)
              try simp only [List.getElem_toArray, List.getElem_cons_succ, List.getElem_cons_zero, Act.put, List.setIfInBounds_toArray, List.set_cons_zero, List.set_cons_succ]
              refine wpAnyH_ready (rs := [17]) (by kernel_rfl) (by simp) ?_
              refine AllReadyH.cons (o := _) rfl (fun K hK => ?_) ?_
              · simp only [List.getElem_toArray, List.getElem_cons_succ, List.getElem_cons_zero]
                have yc : w5.cell? ⟨p, 7, none⟩ = some (.slice none 0 0) := hbx.cell 7
                have fc := hbx.frozen 7
                go_simp
                clear yc fc
                refine hK.out _ _ trivial (fun _ => ?_)
                clear hK K
                try simp only [List.getElem_toArray, List.getElem_cons_succ, List.getElem_cons_zero, Act.put, List.setIfInBounds_toArray, List.set_cons_zero, List.set_cons_succ]
                have hl := hl.set (p := ⟨p, 7, none⟩) hp4 (.slice (some ⟨g3, 0, none⟩) (n.nodes.length + 1) (n.nodes.length + 1))
                have hbx := hbx.set_ 7 (.slice (some ⟨g3, 0, none⟩) (n.nodes.length + 1) (n.nodes.length + 1))
                have hb3 := hb3.far (p := ⟨p, 7, none⟩) (by show g3 ≠ p; omega) (.slice (some ⟨g3, 0, none⟩) (n.nodes.length + 1) (n.nodes.length + 1))
                have hb1 := hb1.far (p := ⟨p, 7, none⟩) (by show g1 ≠ p; omega) (.slice (some ⟨g3, 0, none⟩) (n.nodes.length + 1) (n.nodes.length + 1))
                have hb2 := hb2.far (p := ⟨p, 7, none⟩) (by show g2 ≠ p; omega) (.slice (some ⟨g3, 0, none⟩) (n.nodes.length + 1) (n.nodes.length + 1))
                generalize w5.setCell ⟨p, 7, none⟩ (.slice (some ⟨g3, 0, none⟩) (n.nodes.length + 1) (n.nodes.length + 1)) = w6 at *
                refine wpAnyH_done (by kernel_rfl) ?_ _
                refine NoPanic.normal ?_
                go_wp2_with fail
                go_meet
                exact ⟨g1, g2, g3, ⟨hl, hp4, h1, h2, h3, by omega, by omega, by omega, hbx, hb1, hb2, hb3⟩⟩
              exact AllReadyH.nil
            exact AllReadyH.nil
          exact AllReadyH.nil
        exact AllReadyH.nil
      refine AllReadyH.cons (o := _) rfl (fun K hK => ?_) ?_
      · simp only [List.getElem_toArray, List.getElem_cons_succ, List.getElem_cons_zero]
        go_simp
        refine hK.out _ _ trivial (fun _ => ?_)
        clear hK K
        try simp only [List.getElem_toArray, List.getElem_cons_succ, List.getElem_cons_zero, Act.put, List.setIfInBounds_toArray, List.set_cons_zero, List.set_cons_succ]
        have hb2 := Blk.new w1 4 (madeCells #[.bool false] (n.nodes.length + 1))
        have hl := hl.alloc (.cells (madeCells #[.bool false] (n.nodes.length + 1)) 4)
        have hlt := hbx.lt
        have hbx := hbx.alloc (.cells (madeCells #[.bool false] (n.nodes.length + 1)) 4)
        have hlt3 := hb3.lt
        have hb3 := hb3.alloc (.cells (madeCells #[.bool false] (n.nodes.length + 1)) 4)
        generalize w1.alloc (.cells (madeCells #[.bool false] (n.nodes.length + 1)) 4) = w2 at *
        generalize w1.heap.size = g2 at *
        have h2 : p < g2 := hlt
        have d32 : g3 < g2 := hlt3
        clear hlt hlt3
        refine wpAnyH_ready (rs := [4]) (by kernel_rfl) (by simp) ?_
        refine AllReadyH.cons (o := _) rfl (fun K hK => ?_) ?_
        · simp only [List.getElem_toArray, List.getElem_cons_succ, List.getElem_cons_zero]
          go_simp
          refine hK.out _ _ trivial (fun _ => ?_)
          clear hK K
          try simp only [List.getElem_toArray, List.getElem_cons_succ, List.getElem_cons_zero, Act.put, List.setIfInBounds_toArray, List.set_cons_zero, List.set_cons_succ]
          have hb1 := Blk.new w2 3 (madeCells #[.int .i64 0] (n.nodes.length + 1))
          have hl := hl.alloc (.cells (madeCells #[.int .i64 0] (n.nodes.length + 1)) 3)
          have hlt := hbx.lt
          have hbx := hbx.alloc (.cells (madeCells #[.int .i64 0] (n.nodes.length + 1)) 3)
          have hlt3 := hb3.lt
          have hb3 := hb3.alloc (.cells (madeCells #[.int .i64 0] (n.nodes.length + 1)) 3)
          have hlt2 := hb2.lt
          have hb2 := hb2.alloc (.cells (madeCells #[.int .i64 0] (n.nodes.length + 1)) 3)
          generalize w2.alloc (.cells (madeCells #[.int .i64 0] (n.nodes.length + 1)) 3) = w3 at *
          generalize w2.heap.size = g1 at *
          have h1 : p < g1 := hlt
          have d31 : g3 < g1 := hlt3
          have d21 : g2 < g1 := hlt2
          clear hlt hlt3 hlt2
          refine wpAnyH_take (i := 9) (oi := _) (v := ?v65) rfl (by kernel_rfl) (by kernel_rfl) (by kernel_rfl) (fun _ _ _ h => h) (Or.inl ⟨by rfl, ?y65⟩) trivial ?r65
          case y65 => (simp only [List.getElem_toArray, List.getElem_cons_succ, List.getElem_cons_zero]; intro w hSw; go_simp; first | done | with_reducible rfl)
          try simp only [List.getElem_toArray, List.getElem_cons_succ, List.getElem_cons_zero, Act.put, List.setIfInBounds_toArray, List.set_cons_zero, List.set_cons_succ]
          refine wpAnyH_take (i := 10) (oi := _) (v := ?v66) rfl (by kernel_rfl) (by kernel_rfl) (by kernel_rfl) (fun _ _ _ h => h) (Or.inl ⟨by rfl, ?y66⟩) trivial ?r66
          case y66 => (simp only [List.getElem_toArray, List.getElem_cons_succ, List.getElem_cons_zero]; intro w hSw; go_simp; first | done | with_reducible rfl)
          try simp only [List.getElem_toArray, List.getElem_cons_succ, List.getElem_cons_zero, Act.put, List.setIfInBounds_toArray, List.set_cons_zero, List.set_cons_succ]
          refine wpAnyH_ready (rs := [11]) (by kernel_rfl) (by simp) ?_
          refine AllReadyH.cons (o := _) rfl (fun K hK => ?_) ?_
          · simp only [List.getElem_toArray, List.getElem_cons_succ, List.getElem_cons_zero]
            have yc : w3.cell? ⟨p, 4, none⟩ = some (.slice none 0 0) := hbx.cell 4
            have fc := hbx.frozen 4
            go_simp
            clear yc fc
            refine hK.out _ _ trivial (fun _ => ?_)
            clear hK K
            try simp only [List.getElem_toArray, List.getElem_cons_succ, List.getElem_cons_zero, Act.put, List.setIfInBounds_toArray, List.set_cons_zero, List.set_cons_succ]
            have hl := hl.set (p := ⟨p, 4, none⟩) hp4 (.slice (some ⟨g1, 0, none⟩) (n.nodes.length + 1) (n.nodes.length + 1))
            have hbx := hbx.set_ 4 (.slice (some ⟨g1, 0, none⟩) (n.nodes.length + 1) (n.nodes.length + 1))
            have hb3 := hb3.far (p := ⟨p, 4, none⟩) (by show g3 ≠ p; omega) (.slice (some ⟨g1, 0, none⟩) (n.nodes.length + 1) (n.nodes.length + 1))
            have hb2 := hb2.far (p := ⟨p, 4, none⟩) (by show g2 ≠ p; omega) (.slice (some ⟨g1, 0, none⟩) (n.nodes.length + 1) (n.nodes.length + 1))
            have hb1 := hb1.far (p := ⟨p, 4, none⟩) (by show g1 ≠ p; omega) (.slice (some ⟨g1, 0, none⟩) (n.nodes.length + 1) (n.nodes.length + 1))
            generalize w3.setCell ⟨p, 4, none⟩ (.slice (some ⟨g1, 0, none⟩) (n.nodes.length + 1) (n.nodes.length + 1)) = w4 at *
            refine wpAnyH_take (i := 12) (oi := _) (v := ?v67) rfl (by kernel_rfl) (by kernel_rfl) (by kernel_rfl) (fun _ _ _ h => h) (Or.inl ⟨by rfl, ?y67⟩) trivial ?r67
            case y67 => (simp only [List.getElem_toArray, List.getElem_cons_succ, List.getElem_cons_zero]; intro w hSw; go_simp; first | done | with_reducible rfl)
            try simp only [List.getElem_toArray, List.getElem_cons_succ, List.getElem_cons_zero, Act.put, List.setIfInBounds_toArray, List.set_cons_zero, List.set_cons_succ]
            refine wpAnyH_take (i := 13) (oi := _) (v := ?v68) rfl (by kernel_rfl) (by kernel_rfl) (by kernel_rfl) (fun _ _ _ h => h) (Or.inl ⟨by rfl, ?y68⟩) trivial ?r68
            case y68 => (simp only [List.getElem_toArray, List.getElem_cons_succ, List.getElem_cons_zero]; intro w hSw; go_simp; first | done | with_reducible rfl)
            try simp only [List.getElem_toArray, List.getElem_cons_succ, List.getElem_cons_zero, Act.put, List.setIfInBounds_toArray, List.set_cons_zero, List.set_cons_succ]
            refine wpAnyH_ready (rs := [14]) (by kernel_rfl) (by simp) ?_
            refine AllReadyH.cons (o := _) rfl (fun K hK => ?_) ?_
            · simp only [List.getElem_toArray, List.getElem_cons_succ, List.getElem_cons_zero]
              have yc : w4.cell? ⟨p, 6, none⟩ = some (.slice none 0 0) := hbx.cell 6
              have fc := hbx.frozen 6
              go_simp
              clear yc fc
              refine hK.out _ _ trivial (fun _ => ?_)
              clear hK K
              try simp only [List.getElem_toArray, List.getElem_cons_succ, List.getElem_cons_zero, Act.put, List.setIfInBounds_toArray, List.set_cons_zero, List.set_cons_succ]
              have hl := hl.set (p := ⟨p, 6, none⟩) hp4 (.slice (some ⟨g2, 0, none⟩) (n.nodes.length + 1) (n.nodes.length + 1))
              have hbx := hbx.set_ 6 (.slice (some ⟨g2, 0, none⟩) (n.nodes.length + 1) (n.nodes.length + 1))
              have hb3 := hb3.far (p := ⟨p, 6, none⟩) (by show g3 ≠ p; omega) (.slice (some ⟨g2, 0, none⟩) (n.nodes.length + 1) (n.nodes.length + 1))
              have hb2 := hb2.far (p := ⟨p, 6, none⟩) (by show g2 ≠ p; omega) (.slice (some ⟨g2, 0, none⟩) (n.nodes.length + 1) (n.nodes.length + 1))
              have hb1 := hb1.far (p := ⟨p, 6, none⟩) (by show g1 ≠ p; omega) (.slice (some ⟨g2, 0, none⟩) (n.nodes.length + 1) (n.nodes.length + 1))
              generalize w4.setCell ⟨p, 6, none⟩ (.slice (some ⟨g2, 0, none⟩) (n.nodes.length + 1) (n.nodes.length + 1)) = w5 at *
              refine wpAnyH_take (i := 15) (oi := _) (v := ?v69) rfl (by kernel_rfl) (by kernel_rfl) (by kernel_rfl) (fun _ _ _ h => h) (Or.inl ⟨by rfl, ?y69⟩) trivial ?r69
              case y69 => (simp only [List.getElem_toArray, List.getElem_cons_succ, List.getElem_cons_zero]; intro w hSw; go_simp; first | done | with_reducible rfl)
              try simp only [List.getElem_toArray, List.getElem_cons_succ, List.getElem_cons_zero, Act.put, List.setIfInBounds_toArray, List.set_cons_zero, List.set_cons_succ]
              refine wpAnyH_take (i := 16) (oi := _) (v := ?v70) rfl (by kernel_rfl) (by kernel_rfl) (by kernel_rfl) (fun _ _ _ h => h) (Or.inl ⟨by rfl, ?y70⟩) trivial ?r70
              case y70 => (simp only [List.getElem_toArray, List.getElem_cons_succ, List.getElem_cons_zero]; intro w hSw; go_simp; first | done | with_reducible rfl)
              try simp only [List.getElem_toArray, List.getElem_cons_succ, List.getElem_cons_zero, Act.put, List.setIfInBounds_toArray, List.set_cons_zero, List.set_cons_succ]
              refine wpAnyH_ready (rs := [17]) (by kernel_rfl) (by simp) ?_
              refine AllReadyH.cons (o := _) rfl (fun K hK => ?_) ?_
              · simp only [List.getElem_toArray, List.getElem_cons_succ, List.getElem_cons_zero]
                have yc : w5.cell? ⟨p, 7, none⟩ = some (.slice none 0 0) := hbx.cell 7
                have fc := hbx.frozen 7
                go_simp
                clear yc fc
                refine hK.out _ _ trivial (fun _ => ?_)
                clear hK K
                try simp only [List.getElem_toArray, List.getElem_cons_succ, List.getElem_cons_zero, Act.put, List.setIfInBounds_toArray, List.set_cons_zero, List.set_cons_succ]
                have hl := hl.set (p := ⟨p, 7, none⟩) hp4 (.slice (some ⟨g3, 0, none⟩) (n.nodes.length + 1) (n.nodes.length + 1))
                have hbx := hbx.set_ 7 (.slice (some ⟨g3, 0, none⟩) (n.nodes.length + 1) (n.nodes.length + 1))
                have hb3 := hb3.far (p := ⟨p, 7, none⟩) (by show g3 ≠ p; omega) (.slice (some ⟨g3, 0, none⟩) (n.nodes.length + 1) (n.nodes.length + 1))
                have hb2 := hb2.far (p := ⟨p, 7, none⟩) (by show g2 ≠ p; omega) (.slice (some ⟨g3, 0, none⟩) (n.nodes.length + 1) (n.nodes.length + 1))
                have hb1 := hb1.far (p := ⟨p, 7, none⟩) (by show g1 ≠ p; omega) (.slice (some ⟨g3, 0, none⟩) (n.nodes.length + 1) (n.nodes.length + 1))
                generalize w5.setCell ⟨p, 7, none⟩ (.slice (some ⟨g3, 0, none⟩) (n.nodes.length + 1) (n.nodes.length + 1)) = w6 at *
                refine wpAnyH_done (by kernel_rfl) ?_ _
                refine NoPanic.normal ?_
                go_wp2_with fail
                go_meet
                exact ⟨g1, g2, g3, ⟨hl, hp4, h1, h2, h3, by omega, by omega, by omega, hbx, hb1, hb2, hb3⟩⟩
              exact AllReadyH.nil
            exact AllReadyH.nil
          exact AllReadyH.nil
        exact AllReadyH.nil
      exact AllReadyH.nil
    exact AllReadyH.nil
    --END
  case rest =>
    clear HmI HmB x0 x1 b4 b6 b7 f4 f6 f7 Hbx Hl45 hs5
    obtain ⟨g1, g2, g3, hN⟩ := hcut
    obtain ⟨hNl, hN0, hN1, hN2, hN3, hN4, hN5, hN6, hNb, hNf, hNk, hNp⟩ := hN
    rw [made_arr] at hNf hNk hNp
    have hso := Rt.order_len Hch.out
    have hf0 : RtFst n p g1 g2 g3 #[.slice A n.inn.length c, .slice N n.nodes.length d, .slice O n.nodes.length oc, .slice (some ⟨gl, 0, none⟩) (n.nodes.length + 1) (n.nodes.length + 1), .slice (some ⟨g1, 0, none⟩) (n.nodes.length + 1) (n.nodes.length + 1), .int .i64 lo, .slice (some ⟨g2, 0, none⟩) (n.nodes.length + 1) (n.nodes.length + 1), .slice (some ⟨g3, 0, none⟩) (n.nodes.length + 1) (n.nodes.length + 1), .slice none 0 0] W4 (Rt.firstMid n 0 []) wc :=
      ⟨hNl, hNb, by rw [Rt.firstMid_zero, intV, List.map_replicate]; exact hNf, by rw [List.map_replicate]; exact hNk, by rw [List.map_replicate]; exact hNp⟩
    have hrng : ∀ u ∈ Nt.sorted n.nodes, 1 ≤ u ∧ u ≤ n.nodes.length := Kn.order_rng _ _
    have hnx := fun k => @Rt.firstMid_next n k
    have hin := fun k l id h0 h1 => @Rt.firstMid_in n k l id h0 h1
    have hfl := fun k l => Rt.firstMid_len n k l
    rw [hso] at hnx hin
    clear hNl hNb hNf hNk hNp
    generalize hbxv : #[Value.slice A n.inn.length c, .slice N n.nodes.length d, .slice O n.nodes.length oc, .slice (some ⟨gl, 0, none⟩) (n.nodes.length + 1) (n.nodes.length + 1), .slice (some ⟨g1, 0, none⟩) (n.nodes.length + 1) (n.nodes.length + 1), .int .i64 lo, .slice (some ⟨g2, 0, none⟩) (n.nodes.length + 1) (n.nodes.length + 1), .slice (some ⟨g3, 0, none⟩) (n.nodes.length + 1) (n.nodes.length + 1), .slice none 0 0] = bx at *
    have HBX4 := Lib.hid (show bx[4]? = some (.slice (some ⟨g1, 0, none⟩) (n.nodes.length + 1) (n.nodes.length + 1)) by rw [← hbxv]; rfl)
    have Hf0 := Lib.hid hf0
    have Hrng := Lib.hid hrng
    have Hnx := Lib.hid hnx
    have Hin := Lib.hid hin
    have Hfl := Lib.hid hfl
    have Hso := Lib.hid hso
    have Hbxv := Lib.hid hbxv
    clear hf0 hrng hnx hin hfl hso hbxv
    go_wp2_with fail
    go_loopw [10] (fun t wx => ∃ (k q : Nat), k ≤ n.nodes.length ∧ q = n.nodes.length - k ∧ t = .int .i64 (q : Int) ∧ RtFst n p g1 g2 g3 bx W4 (Rt.firstMid n k []) wx) (fun t _ => (intOf t).toNat)
    case atStart => exact ⟨0, _, Nat.zero_le _, rfl, by simp, Hf0.out⟩
    case round =>
      obtain ⟨k, q, hk, hq, rfl, hF⟩ := hrel
      clear Hf0
      by_cases hlt : k < n.nodes.length
      · obtain ⟨i, rfl⟩ : ∃ i, q = i + 1 := ⟨q - 1, by omega⟩
        have hil : i < n.nodes.length := by omega
        have hi : n.nodes.length - 1 - k = i := by omega
        have hnk := Hnx.out k
        rw [hi] at hnk
        obtain ⟨bo, oo, hOe, -, hc⟩ := HO4.out.below hF.later (Nat.le_refl _) i (by rw [Hso.out]; exact hil)
        have hur := Hrng.out ((Nt.sorted n.nodes).getD i 0) (by rw [getD_at (show i < (Nt.sorted n.nodes).length by rw [Hso.out]; exact hil)]; exact List.getElem_mem _)
        obtain ⟨j, hj⟩ : ∃ j : Nat, (Nt.sorted n.nodes).getD i 0 = (j : Int) + 1 := ⟨((Nt.sorted n.nodes).getD i 0 - 1).toNat, by omega⟩
        have hjl : j < n.nodes.length := by omega
        have hiF : Nt.insF n.nodes ((j : Int) + 1) = n.nodes[j].ins := by unfold Nt.insF; rw [Nt.node_at hjl]
        rw [hj] at hnk hc
        rw [hiF] at hnk
        obtain ⟨b1, o1, J, jc, hNe, y8, hJ⟩ := (HR.out.below Hl4.out (Nat.le_refl _)).ins_at hjl
        have hill := (Hok.out.2.2 _ (List.getElem_mem hjl)).2.2.1
        have hirng := Rt.ins_rng Hch.out hjl
        have x8 := hF.later.cell y8
        have x1 := (hF.later.blk Hk4.out).cell 1
        simp at x1
        rw [hNe] at x1
        generalize n.nodes[j].ins = il at *
        have j1 : IntKind.i64.wrap ((j : Int) + 1 - 1) = (j : Int) := by rw [IntWalk.i64_in _ (by omega)]; omega
        have j3 : (0 : Int) ≤ (j : Int) := by omega
        have j4 : (j : Int) < n.nodes.length := by omega
        have i1 : IntKind.i64.wrap ((i : Int) + 1 - 1) = (i : Int) := by rw [IntWalk.i64_in _ (by omega)]; omega
        have i3 : (0 : Int) ≤ (i : Int) := by omega
        have i4 : (i : Int) < n.nodes.length := by omega
        subst hOe
        have HFd := Lib.hid (fun m => hF.to_later (Later.drewN (Later.refl wr) m))
        have HQ := Lib.hid hq
        have Hnk := Lib.hid hnk
        have Hirng := Lib.hid hirng
        have HJ := Lib.hid hJ
        clear hnk hirng hJ
        clear hF hi hj hiF hNe y8 hur hq
        go_wp2_with fail
        go_quiet (fail)
        have HFe := Lib.hid (HFd.out nq)
        generalize wr.drewN nq = wd at *
        clear HFd hc x8 x1 j1 i1
        go_wp2_with fail
        obtain ⟨wo, rfl⟩ : ∃ wo, wo = wr := ⟨wr, rfl⟩
        go_loopw [80] (fun t wx => ∃ m : Nat, m ≤ il.length ∧ t = .int .i64 (m : Int) ∧ RtFst n p g1 g2 g3 bx W4 (Rt.firstMid n k (il.take m)) wx) (fun t _ => il.length - (intOf t).toNat)
        case atStart => exact ⟨0, Nat.zero_le _, rfl, HFe.out⟩
        case round =>
          clear HFe
          obtain ⟨m, hm, rfl, hF⟩ := hrel
          by_cases hlm : m < il.length
          · obtain ⟨b2, o2, hJe, -, hc2⟩ := HJ.out.below hF.later (Nat.le_refl _) m hlm
            rw [getD_at hlm] at hc2
            have hr2 := Hirng.out _ (List.getElem_mem hlm)
            obtain ⟨u, hu⟩ := Int.eq_ofNat_of_zero_le hr2.1
            have HM := Lib.hid (show Rt.firstMid n k (il.take (m + 1)) = (Rt.firstMid n k (il.take m)).set u ((i + 1 : Nat) : Int) by
              rw [List.take_succ_eq_append_getElem hlm, Hin.out _ _ _ hr2.1 hr2.2, hu, Int.toNat_natCast, HQ.out])
            rw [hu] at hc2 hr2
            have hll := Hfl.out k (il.take m)
            have hul : u < n.nodes.length + 1 := by omega
            obtain ⟨y, hy⟩ := hF.first.has (j := u) (by rw [intV_len, hll]; exact hul)
            have fy := hF.first.frozen u
            have x4 : wr.cell? ⟨p, 4, none⟩ = some (.slice (some ⟨g1, 0, none⟩) (n.nodes.length + 1) (n.nodes.length + 1)) := by rw [hF.box.cell, HBX4.out]
            have hF2 := hF.put (by omega) (by omega) (by omega) (by omega) u ((i + 1 : Nat) : Int)
            rw [← HM.out] at hF2
            have m1 : (m : Int) < il.length := by omega
            have u0 : (0 : Int) ≤ (u : Int) := by omega
            have u1 : (u : Int) < (n.nodes.length : Int) + 1 := by omega
            have u2 : (u : Int) < ((n.nodes.length + 1 : Nat) : Int) := by omega
            subst hJe
            have HF2 := Lib.hid hF2
            clear hF2
            clear hF hr2 hu hll HM
            go_wp2_with fail
            go_roundw
            case rel => exact ⟨m + 1, by omega, by go_num, HF2.out⟩
            case measure => simp [intOf]; omega
          · obtain rfl : m = il.length := by omega
            rw [List.take_length, Hnk.out] at hF
            have q1 : IntKind.i64.wrap ((i : Int) + 1 - 1) = (i : Int) := by rw [IntWalk.i64_in _ (by omega)]; omega
            have HF := Lib.hid hF
            clear hF
            go_wp2_with fail
            clear q1
            go_roundw
            case rel => exact ⟨k + 1, i, by omega, by have := HQ.out; omega, rfl, HF.out⟩
            case measure => first | (simp [intOf]; done) | (simp [intOf]; omega)
      · obtain rfl : k = n.nodes.length := by omega
        obtain rfl : q = 0 := by omega
        clear hq
        have x7 : wr.cell? ⟨p, 7, none⟩ = some (.slice (some ⟨g3, 0, none⟩) (n.nodes.length + 1) (n.nodes.length + 1)) := by rw [hF.box.cell, ← Hbxv.out]; rfl
        obtain ⟨y, hy⟩ := hF.pres.has (j := 0) (by simp)
        have fy := hF.pres.frozen 0
        have q0 : (0 : Int) < (n.nodes.length : Int) + 1 := by omega
        have hp3 := hF.pres.set_ 0 (.bool true)
        rw [bools_set] at hp3
        have hbx3 := hF.box.far (p := ⟨g3, 0, none⟩) (show p ≠ g3 by omega) (.bool true)
        have hf3 := hF.first.far (p := ⟨g3, 0, none⟩) (show g1 ≠ g3 by omega) (.bool true)
        have hk3 := hF.kept.far (p := ⟨g3, 0, none⟩) (show g2 ≠ g3 by omega) (.bool true)
        have hl3 := hF.later.set (p := ⟨g3, 0, none⟩) (show W4.heap.size ≤ g3 by omega) (.bool true)
        have hszw : (wr.setCell ⟨g3, 0, none⟩ (.bool true)).heap.size = wr.heap.size := by simp
        have hg1s := hF.first.lt
        have hg2s := hF.kept.lt
        have hg3s := hF.pres.lt
        have Hp3 := Lib.hid hp3
        have Hbx3 := Lib.hid hbx3
        have Hf3 := Lib.hid hf3
        have Hk3 := Lib.hid hk3
        have Hl3 := Lib.hid hl3
        have Hszw := Lib.hid hszw
        clear hp3 hbx3 hf3 hk3 hl3 hszw
        clear hF
        go_wp2_with fail
        go_ret2
        refine ⟨.inr ⟨Hch.out, ⟨A, N, O, c, d, oc, gl, p, g1, g2, g3, wr.heap.size⟩, W4, ⟨Hok.out, Hch.out, h12, HR.out.below Hl4.out (Nat.le_refl _), hd, HO4.out, Hgl4.out, hN0, hN1, hN2, hN3, hN4, hN5, hN6, hg1s, hg2s, hg3s⟩, Hl4.out, rfl, ?_⟩, Hl4.out.trans Hl3.out⟩
        refine ⟨Hl3.out, ⟨.slice none 0 0, ?_, World.ownsRow_nil _ _ _ _⟩, ?_, Hk3.out, Hp3.out, by simp, by simp [Rt.start], by rw [Hszw.out]; exact Nat.le_refl _⟩
        · have := Hbx3.out
          rw [← Hbxv.out, ← HLo.out] at this
          exact this
        · rw [Hso.out]; exact Hf3.out
end Go.Proofs.YtnffjfjhbjeaiaaGreatDoor
