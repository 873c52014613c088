/- Layer 11's statements: the fixed answer. -/
import Derived.Test.YtjkhpbngpceenaaNetH
import Derived.Test.YtjkhpbngpceenaaNetC
import Derived.Test.YtjkhpbngpceenaaNetF
namespace Go.Proofs.Ytjkhpbngpceenaa
open Go.RowKit
def an0 : NetD := ⟨[2], [⟨⟨12, 0, 2, 1, 0, 0, 0, []⟩, [2], []⟩, ⟨⟨1, 0, 0, 0, 0, 0, 0, []⟩, [0], []⟩]⟩
def an1 : NetD := ⟨[2], [⟨⟨12, 0, 2, 1, 0, 0, 0, []⟩, [2], []⟩, ⟨⟨1, 0, 0, 0, 0, 0, 0, []⟩, [1], []⟩]⟩
theorem an0_check : Nt.check an0 = 0 := by decide +kernel
theorem an0_sorted : Nt.sorted an0.nodes = [2, 1] := by decide +kernel
theorem an0_loss : lossE an0 = 1 := by decide +kernel
theorem an0_chain : Nt.chain an0 = true := by decide +kernel
theorem an1_check : Nt.check an1 = 22 := by decide +kernel
theorem an0_ne : eqNet an0 an1 = false := by decide +kernel
theorem an0_users : Nt.users an0 0 = [2] := by decide +kernel
theorem an0_ok : an0.ok := by
  refine ⟨by decide, by decide, fun v hv => ?_⟩
  simp [an0] at hv
  rcases hv with rfl | rfl <;> exact ⟨by intro z hz; simp at hz; omega, by decide, by decide, by decide, by simp, by intro z hz; simp at hz; omega⟩
theorem an1_ok : an1.ok := by
  refine ⟨by decide, by decide, fun v hv => ?_⟩
  simp [an1] at hv
  rcases hv with rfl | rfl <;> exact ⟨by intro z hz; simp at hz; omega, by decide, by decide, by decide, by simp, by intro z hz; simp at hz; omega⟩
theorem Blk.ints1 {w : World} {g : Nat} {t : TypeId} {x : Int} (h : Blk w g t #[.int .i64 x]) : Ints .i64 w (some ⟨g, 0, none⟩) [x] := Ints.of_row fun j hj => by
  obtain rfl : j = 0 := by simpa using hj
  rw [h.cell]; rfl
/-- The fixed net, in memory. -/
theorem an0_net {W : World} {p q r g : Nat} (hp : Blk W p 3 #[.int .i64 2]) (hq : Blk W q 3 #[.int .i64 2]) (hr : Blk W r 3 #[.int .i64 0])
    (hg : Blk W g 46 #[.int .i64 12, .int .i64 0, .int .i64 2, .int .i64 1, .int .i64 0, .int .i64 0, .int .i64 0, .slice none 0 0, .slice (some ⟨q, 0, none⟩) 1 1, .slice none 0 0, .int .i64 1, .int .i64 0, .int .i64 0, .int .i64 0, .int .i64 0, .int .i64 0, .int .i64 0, .slice none 0 0, .slice (some ⟨r, 0, none⟩) 1 1, .slice none 0 0]) :
    NetR W (some ⟨p, 0, none⟩) (some ⟨g, 0, none⟩) an0 := by
  refine ⟨hp.ints1, fun j hj => ?_⟩
  have hj2 : j = 0 ∨ j = 1 := by simp [an0] at hj; omega
  rcases hj2 with rfl | rfl
  · exact ⟨g, 0, none, 0, some ⟨q, 0, none⟩, 1, none, 0, rfl, hg.lt, hg.cell 0, hg.cell 1, hg.cell 2, hg.cell 3, hg.cell 4, hg.cell 5, hg.cell 6, hg.cell 7, hg.cell 8, hg.cell 9, ⟨Ints.nil, by simp [an0], by omega⟩, ⟨hq.ints1, by simp [an0], by omega⟩, Shps.nil, by simp [an0], by omega⟩
  · exact ⟨g, 0, none, 0, some ⟨r, 0, none⟩, 1, none, 0, rfl, hg.lt, hg.cell 10, hg.cell 11, hg.cell 12, hg.cell 13, hg.cell 14, hg.cell 15, hg.cell 16, hg.cell 17, hg.cell 18, hg.cell 19, ⟨Ints.nil, by simp [an0], by omega⟩, ⟨hr.ints1, by simp [an0], by omega⟩, Shps.nil, by simp [an0], by omega⟩
/-- The copy's second node is given other ins. -/
theorem cp_turn {B : Nat} {W : World} {g h : Nat} {zc : Array Value} (hc : CpRow B W g zc an0.nodes an0.nodes.length) (hh : Blk W h 3 #[.int .i64 1]) (hB : B ≤ h) :
    (∃ z, W.cell? ⟨g, 18, none⟩ = some z) ∧ W.frozen? ⟨g, 18, none⟩ = false ∧ Keep 46 W (W.setCell ⟨g, 18, none⟩ (.slice (some ⟨h, 0, none⟩) 1 1)) ∧ CpRow B (W.setCell ⟨g, 18, none⟩ (.slice (some ⟨h, 0, none⟩) 1 1)) g zc an1.nodes an1.nodes.length := by
  obtain ⟨L, l1, l2, l3, l4⟩ := hc
  match L, l2 with
  | [x, y], _ =>
    have e1 : x.v = ⟨⟨12, 0, 2, 1, 0, 0, 0, []⟩, [2], []⟩ := by simpa [an0] using congrArg List.head? l1
    have e2 : y.v = ⟨⟨1, 0, 0, 0, 0, 0, 0, []⟩, [0], []⟩ := by
      have := congrArg (fun l => l[1]?) l1
      simpa [an0] using this
    have hk : Keep 46 W (W.setCell ⟨g, 18, none⟩ (.slice (some ⟨h, 0, none⟩) 1 1)) := Keep.set_ l3 18 _
    obtain ⟨x1, x2, x3, x4⟩ := (l4 x (by simp)).keep (by decide) (by decide) hk
    obtain ⟨y1, y2, y3, y4⟩ := (l4 y (by simp)).keep (by decide) (by decide) hk
    refine ⟨⟨_, by rw [l3.cell]; rfl⟩, l3.frozen 18, hk, [x, ⟨⟨y.v.op, [1], y.v.p⟩, y.S, some ⟨h, 0, none⟩, 1, y.Q⟩], by simp [e1, e2, an1], rfl, l3.set_ 18 _, fun z hz => ?_⟩
    simp at hz
    rcases hz with rfl | rfl
    · exact ⟨x1, x2, x3, x4⟩
    · refine ⟨y1, y2, ⟨rfl, .inr ⟨h, 1, _, rfl, hB, hh.keep (T := 46) (by decide) hk, by simp, by decide, rfl, rfl⟩⟩, y4⟩
theorem cp_cell {B : Nat} {W : World} {g : Nat} {zc : Array Value} (hc : CpRow B W g zc an0.nodes an0.nodes.length) : (∃ z, W.cell? ⟨g, 18, none⟩ = some z) ∧ W.frozen? ⟨g, 18, none⟩ = false := by
  obtain ⟨L, l1, l2, l3, l4⟩ := hc
  match L, l2 with
  | [x, y], _ => exact ⟨⟨_, by rw [l3.cell]; rfl⟩, l3.frozen 18⟩
theorem an1_net {B : Nat} {W : World} {a g : Nat} {zc : Array Value} (ha : Blk W a 3 (an0.inn.map (Value.int .i64)).toArray) (hc : CpRow B W g zc an1.nodes an1.nodes.length) : NetR W (some ⟨a, 0, none⟩) (some ⟨g, 0, none⟩) an1 :=
  ⟨ha.ints1, hc.nodes fun v hv => (an1_ok.2.2 v hv).2.1 |> fun h => ⟨h, (an1_ok.2.2 v hv).2.2.2.1, (an1_ok.2.2 v hv).2.2.2.2.1⟩⟩
theorem an_start (w : World) : NetR (((((w.alloc (.cells #[.int .i64 2] 3)).alloc (.cells #[.int .i64 2] 3)).alloc (.cells #[.int .i64 0] 3)).alloc (.cells #[.int .i64 12, .int .i64 0, .int .i64 2, .int .i64 1, .int .i64 0, .int .i64 0, .int .i64 0, .slice none 0 0, .slice (some ⟨w.heap.size + 1, 0, none⟩) 1 1, .slice none 0 0, .int .i64 1, .int .i64 0, .int .i64 0, .int .i64 0, .int .i64 0, .int .i64 0, .int .i64 0, .slice none 0 0, .slice (some ⟨w.heap.size + 1 + 1, 0, none⟩) 1 1, .slice none 0 0] 46)).alloc (.cells #[.slice (some ⟨w.heap.size, 0, none⟩) 1 1, .slice (some ⟨w.heap.size + 1 + 1 + 1, 0, none⟩) 2 2] 26)) (some ⟨w.heap.size, 0, none⟩) (some ⟨w.heap.size + 1 + 1 + 1, 0, none⟩) an0 ∧ Blk (((((w.alloc (.cells #[.int .i64 2] 3)).alloc (.cells #[.int .i64 2] 3)).alloc (.cells #[.int .i64 0] 3)).alloc (.cells #[.int .i64 12, .int .i64 0, .int .i64 2, .int .i64 1, .int .i64 0, .int .i64 0, .int .i64 0, .slice none 0 0, .slice (some ⟨w.heap.size + 1, 0, none⟩) 1 1, .slice none 0 0, .int .i64 1, .int .i64 0, .int .i64 0, .int .i64 0, .int .i64 0, .int .i64 0, .int .i64 0, .slice none 0 0, .slice (some ⟨w.heap.size + 1 + 1, 0, none⟩) 1 1, .slice none 0 0] 46)).alloc (.cells #[.slice (some ⟨w.heap.size, 0, none⟩) 1 1, .slice (some ⟨w.heap.size + 1 + 1 + 1, 0, none⟩) 2 2] 26)) (w.heap.size + 1 + 1 + 1 + 1) 26 #[.slice (some ⟨w.heap.size, 0, none⟩) 1 1, .slice (some ⟨w.heap.size + 1 + 1 + 1, 0, none⟩) 2 2] ∧ Later w (((((w.alloc (.cells #[.int .i64 2] 3)).alloc (.cells #[.int .i64 2] 3)).alloc (.cells #[.int .i64 0] 3)).alloc (.cells #[.int .i64 12, .int .i64 0, .int .i64 2, .int .i64 1, .int .i64 0, .int .i64 0, .int .i64 0, .slice none 0 0, .slice (some ⟨w.heap.size + 1, 0, none⟩) 1 1, .slice none 0 0, .int .i64 1, .int .i64 0, .int .i64 0, .int .i64 0, .int .i64 0, .int .i64 0, .int .i64 0, .slice none 0 0, .slice (some ⟨w.heap.size + 1 + 1, 0, none⟩) 1 1, .slice none 0 0] 46)).alloc (.cells #[.slice (some ⟨w.heap.size, 0, none⟩) 1 1, .slice (some ⟨w.heap.size + 1 + 1 + 1, 0, none⟩) 2 2] 26)) := by
  have k0 := ((((Blk.new w 3 #[.int .i64 2]).alloc (.cells #[.int .i64 2] 3)).alloc (.cells #[.int .i64 0] 3)).alloc (.cells #[.int .i64 12, .int .i64 0, .int .i64 2, .int .i64 1, .int .i64 0, .int .i64 0, .int .i64 0, .slice none 0 0, .slice (some ⟨w.heap.size + 1, 0, none⟩) 1 1, .slice none 0 0, .int .i64 1, .int .i64 0, .int .i64 0, .int .i64 0, .int .i64 0, .int .i64 0, .int .i64 0, .slice none 0 0, .slice (some ⟨w.heap.size + 1 + 1, 0, none⟩) 1 1, .slice none 0 0] 46)).alloc (.cells #[.slice (some ⟨w.heap.size, 0, none⟩) 1 1, .slice (some ⟨w.heap.size + 1 + 1 + 1, 0, none⟩) 2 2] 26)
  have k1 := (((Blk.new (w.alloc (.cells #[.int .i64 2] 3)) 3 #[.int .i64 2]).alloc (.cells #[.int .i64 0] 3)).alloc (.cells #[.int .i64 12, .int .i64 0, .int .i64 2, .int .i64 1, .int .i64 0, .int .i64 0, .int .i64 0, .slice none 0 0, .slice (some ⟨w.heap.size + 1, 0, none⟩) 1 1, .slice none 0 0, .int .i64 1, .int .i64 0, .int .i64 0, .int .i64 0, .int .i64 0, .int .i64 0, .int .i64 0, .slice none 0 0, .slice (some ⟨w.heap.size + 1 + 1, 0, none⟩) 1 1, .slice none 0 0] 46)).alloc (.cells #[.slice (some ⟨w.heap.size, 0, none⟩) 1 1, .slice (some ⟨w.heap.size + 1 + 1 + 1, 0, none⟩) 2 2] 26)
  have k2 := ((Blk.new ((w.alloc (.cells #[.int .i64 2] 3)).alloc (.cells #[.int .i64 2] 3)) 3 #[.int .i64 0]).alloc (.cells #[.int .i64 12, .int .i64 0, .int .i64 2, .int .i64 1, .int .i64 0, .int .i64 0, .int .i64 0, .slice none 0 0, .slice (some ⟨w.heap.size + 1, 0, none⟩) 1 1, .slice none 0 0, .int .i64 1, .int .i64 0, .int .i64 0, .int .i64 0, .int .i64 0, .int .i64 0, .int .i64 0, .slice none 0 0, .slice (some ⟨w.heap.size + 1 + 1, 0, none⟩) 1 1, .slice none 0 0] 46)).alloc (.cells #[.slice (some ⟨w.heap.size, 0, none⟩) 1 1, .slice (some ⟨w.heap.size + 1 + 1 + 1, 0, none⟩) 2 2] 26)
  have k3 := (Blk.new (((w.alloc (.cells #[.int .i64 2] 3)).alloc (.cells #[.int .i64 2] 3)).alloc (.cells #[.int .i64 0] 3)) 46 #[.int .i64 12, .int .i64 0, .int .i64 2, .int .i64 1, .int .i64 0, .int .i64 0, .int .i64 0, .slice none 0 0, .slice (some ⟨w.heap.size + 1, 0, none⟩) 1 1, .slice none 0 0, .int .i64 1, .int .i64 0, .int .i64 0, .int .i64 0, .int .i64 0, .int .i64 0, .int .i64 0, .slice none 0 0, .slice (some ⟨w.heap.size + 1 + 1, 0, none⟩) 1 1, .slice none 0 0]).alloc (.cells #[.slice (some ⟨w.heap.size, 0, none⟩) 1 1, .slice (some ⟨w.heap.size + 1 + 1 + 1, 0, none⟩) 2 2] 26)
  have k4 := Blk.new ((((w.alloc (.cells #[.int .i64 2] 3)).alloc (.cells #[.int .i64 2] 3)).alloc (.cells #[.int .i64 0] 3)).alloc (.cells #[.int .i64 12, .int .i64 0, .int .i64 2, .int .i64 1, .int .i64 0, .int .i64 0, .int .i64 0, .slice none 0 0, .slice (some ⟨w.heap.size + 1, 0, none⟩) 1 1, .slice none 0 0, .int .i64 1, .int .i64 0, .int .i64 0, .int .i64 0, .int .i64 0, .int .i64 0, .int .i64 0, .slice none 0 0, .slice (some ⟨w.heap.size + 1 + 1, 0, none⟩) 1 1, .slice none 0 0] 46)) 26 #[.slice (some ⟨w.heap.size, 0, none⟩) 1 1, .slice (some ⟨w.heap.size + 1 + 1 + 1, 0, none⟩) 2 2]
  simp only [World.size_alloc] at k1 k2 k3 k4
  exact ⟨an0_net k0 k1 k2 k3, k4, (((((Later.refl w).alloc _).alloc _).alloc _).alloc _).alloc _⟩
set_option maxHeartbeats 4000000 in
set_option maxRecDepth 100000 in
theorem awake11 (w : World) : Calls Try.prog 10 #[] w fun e w' => e = .returned (.bool true) ∧ Below w.heap.size w w' := by
  obtain ⟨hR1, hk1, hl1⟩ := an_start w
  have HR1 := Lib.hid hR1
  have Hk1 := Lib.hid hk1
  have Hl1 := Lib.hid hl1
  clear hR1 hk1 hl1
  go_enter Try.func10, Try.ntmps10
  go_wp2_with fail
  generalize (((((w.alloc (.cells #[.int .i64 2] 3)).alloc (.cells #[.int .i64 2] 3)).alloc (.cells #[.int .i64 0] 3)).alloc (.cells #[.int .i64 12, .int .i64 0, .int .i64 2, .int .i64 1, .int .i64 0, .int .i64 0, .int .i64 0, .slice none 0 0, .slice (some ⟨w.heap.size + 1, 0, none⟩) 1 1, .slice none 0 0, .int .i64 1, .int .i64 0, .int .i64 0, .int .i64 0, .int .i64 0, .int .i64 0, .int .i64 0, .slice none 0 0, .slice (some ⟨w.heap.size + 1 + 1, 0, none⟩) 1 1, .slice none 0 0] 46)).alloc (.cells #[.slice (some ⟨w.heap.size, 0, none⟩) 1 1, .slice (some ⟨w.heap.size + 1 + 1 + 1, 0, none⟩) 2 2] 26)) = W1 at *
  obtain ⟨p, hp⟩ : ∃ p, p = w.heap.size := ⟨_, rfl⟩
  have hR1 := HR1.out
  have hk1 := Hk1.out
  have hl1 := Hl1.out
  generalize w.heap.size + 1 + 1 + 1 + 1 = b at *
  generalize w.heap.size + 1 + 1 + 1 = q at *
  rw [← hp] at *
  clear HR1 Hk1 Hl1
  have l1 := hk1.lt
  refine (net_order _ _ 1 2 an0 W1 an0_ok hR1 (by decide)).mono ?_
  rintro e W2 ⟨hb2, hq⟩
  rcases hq with ⟨_, O, oc, rfl, hO, -, -⟩ | ⟨hne, -⟩
  rotate_left
  · exact absurd an0_check hne
  rw [an0_sorted] at hO
  rw [show an0.nodes.length = 2 from rfl]
  have h12 : Later W1 W2 := hb2
  have c0 := (h12.blk hk1).cell 0
  have c1 := (h12.blk hk1).cell 1
  simp at c0 c1
  have HR1 := Lib.hid hR1
  have Hk1 := Lib.hid hk1
  have Hl1 := Lib.hid hl1
  have HO := Lib.hid hO
  have H12 := Lib.hid h12
  clear hR1 hk1 hl1 hO h12
  clear hb2
  go_wp2_with fail
  refine (net_loss _ _ 1 2 an0 W2 an0_ok (HR1.out.below H12.out (Nat.le_refl _)) (by decide)).mono ?_
  rintro e W3 ⟨rfl, hb3⟩
  rw [an0_loss, an0_check]
  have h13 : Later W1 W3 := H12.out.call hb3
  have c2 := (h13.blk Hk1.out).cell 0
  have c3 := (h13.blk Hk1.out).cell 1
  simp at c2 c3
  have hO3 := HO.out.below hb3 (Nat.le_refl _)
  have H13 := Lib.hid h13
  have HO3 := Lib.hid hO3
  clear h13 hO3
  clear hb3 c0 c1 HO
  go_wp2_with fail
  refine (net_copy _ _ 1 2 an0 W3 an0_ok (HR1.out.below H13.out (Nat.le_refl _))).mono ?_
  rintro e W4 ⟨⟨a, g, zc, rfl, ha, hg, hba, hcp⟩, hb4⟩
  rw [show an0.nodes.length = 2 from rfl, show an0.inn.length = 1 from rfl]
  have h14 : Later W1 W4 := H13.out.call hb4
  have hO4 := HO3.out.below hb4 (Nat.le_refl _)
  have s13 := H13.out.size
  have s4 := hb4.size
  have hg4 : g < W4.heap.size := by obtain ⟨_, _, _, h, _⟩ := hcp; exact h.lt
  have h6 : Later W4 ((W4.alloc (.cells #[.slice (some ⟨a, 0, none⟩) 1 1, .slice (some ⟨g, 0, none⟩) 2 2] 26)).alloc (.cells #[.int .i64 1] 3)) := ((Later.refl W4).alloc _).alloc _
  have hi6 := Blk.new (W4.alloc (.cells #[.slice (some ⟨a, 0, none⟩) 1 1, .slice (some ⟨g, 0, none⟩) 2 2] 26)) 3 #[.int .i64 1]
  rw [World.size_alloc] at hi6
  have hm6 := (Blk.new W4 26 #[.slice (some ⟨a, 0, none⟩) 1 1, .slice (some ⟨g, 0, none⟩) 2 2]).alloc (.cells #[.int .i64 1] 3)
  obtain ⟨⟨z, hz⟩, hfz⟩ := cp_cell hcp
  obtain ⟨-, -, hkp, hcp7⟩ := cp_turn (hcp.later h6) hi6 (by omega)
  have hba7 := (h6.blk hba).keep (by decide) hkp
  have hm7 := hm6.keep (by decide) hkp
  have h37 : Later W3 (((W4.alloc (.cells #[.slice (some ⟨a, 0, none⟩) 1 1, .slice (some ⟨g, 0, none⟩) 2 2] 26)).alloc (.cells #[.int .i64 1] 3)).setCell ⟨g, 18, none⟩ (.slice (some ⟨W4.heap.size + 1, 0, none⟩) 1 1)) := ((show Later W3 W4 from hb4).trans h6).set (p := ⟨g, 18, none⟩) hg _
  have hR7 := an1_net hba7 hcp7
  have hN7 := HR1.out.below (H13.out.trans h37) (Nat.le_refl _)
  have hO7 := HO3.out.below h37 (Nat.le_refl _)
  have hk7 := (H13.out.trans h37).blk Hk1.out
  have hl7 := (Hl1.out.trans H13.out).trans h37
  have cm0 := hm7.cell 0
  have cm1 := hm7.cell 1
  have cn0 := hk7.cell 0
  have cn1 := hk7.cell 1
  simp at cm0 cm1 cn0 cn1
  obtain ⟨bo, off, rfl, -, ho⟩ := hO7 0 (by simp)
  replace ho : (((W4.alloc (.cells #[.slice (some ⟨a, 0, none⟩) 1 1, .slice (some ⟨g, 0, none⟩) 2 2] 26)).alloc (.cells #[.int .i64 1] 3)).setCell ⟨g, 18, none⟩ (.slice (some ⟨W4.heap.size + 1, 0, none⟩) 1 1)).cell? ⟨bo, off, none⟩ = some (.int .i64 2) := ho
  have HR7 := Lib.hid hR7
  have HN7 := Lib.hid hN7
  have Hm7 := Lib.hid hm7
  have Hk7 := Lib.hid hk7
  have Hl7 := Lib.hid hl7
  have HO4 := Lib.hid hO4
  have HO7 := Lib.hid hO7
  have Hba7 := Lib.hid hba7
  have Hcp7 := Lib.hid hcp7
  have Hkp := Lib.hid hkp
  have H6 := Lib.hid h6
  have H14 := Lib.hid h14
  have H37 := Lib.hid h37
  have Hi6 := Lib.hid hi6
  have Hm6 := Lib.hid hm6
  have Hba := Lib.hid hba
  have Hcp := Lib.hid hcp
  have Hcm0 := Lib.hid cm0
  have Hcm1 := Lib.hid cm1
  have Hcn0 := Lib.hid cn0
  have Hcn1 := Lib.hid cn1
  have Ho := Lib.hid ho
  clear hR7 hN7 hm7 hk7 hl7 hO4 hO7 hba7 hcp7 hkp h6 h14 h37 hi6 hm6 hba hcp cm0 cm1 cn0 cn1 ho
  clear c2 c3
  go_upto_region 8 with fail
  have e7 : (((W4.setCell ⟨g, 18, none⟩ (.slice (some ⟨W4.heap.size + 1, 0, none⟩) 1 1)).alloc (.cells #[.slice (some ⟨a, 0, none⟩) 1 1, .slice (some ⟨g, 0, none⟩) 2 2] 26)).alloc (.cells #[.int .i64 1] 3)) = (((W4.alloc (.cells #[.slice (some ⟨a, 0, none⟩) 1 1, .slice (some ⟨g, 0, none⟩) 2 2] 26)).alloc (.cells #[.int .i64 1] 3)).setCell ⟨g, 18, none⟩ (.slice (some ⟨W4.heap.size + 1, 0, none⟩) 1 1)) := by rw [World.setCell_alloc_past _ _ _ _ (by simp; omega), World.setCell_alloc_past _ _ _ _ hg4]
  rw [e7]
  clear e7
  generalize (((W4.alloc (.cells #[.slice (some ⟨a, 0, none⟩) 1 1, .slice (some ⟨g, 0, none⟩) 2 2] 26)).alloc (.cells #[.int .i64 1] 3)).setCell ⟨g, 18, none⟩ (.slice (some ⟨W4.heap.size + 1, 0, none⟩) 1 1)) = W7 at *
  generalize W4.heap.size = bm at *
  have cm0 := Hcm0.out
  have cm1 := Hcm1.out
  have cn0 := Hcn0.out
  have cn1 := Hcn1.out
  have ho := Ho.out
  clear Hcm0 Hcm1 Hcn0 Hcn1 Ho
  go_wp2_with fail
  refine (net_chain _ _ 1 2 an0 W7 an0_ok HN7.out (by decide)).mono ?_
  rintro e W8 ⟨rfl, hb8⟩
  rw [an0_chain]
  have h78 : Later W7 W8 := hb8
  have d0 := h78.cell cm0
  have d1 := h78.cell cm1
  have e0 := h78.cell cn0
  have e1 := h78.cell cn1
  have H78 := Lib.hid h78
  clear h78
  clear cm0 cm1 cn0 cn1 ho hb8
  go_wp2_with fail
  refine (net_check _ _ 1 2 an1 W8 an1_ok (HR7.out.below H78.out (Nat.le_refl _)) (by decide)).mono ?_
  rintro e W9 ⟨rfl, hb9⟩
  rw [an1_check]
  have h89 : Later W8 W9 := hb9
  have cm0 := h89.cell d0
  have cm1 := h89.cell d1
  have cn0 := h89.cell e0
  have cn1 := h89.cell e1
  have h79 := H78.out.trans h89
  have H79 := Lib.hid h79
  clear h79
  clear d0 d1 e0 e1 hb9 h89
  go_wp2_with fail
  refine (net_equal _ _ _ _ 1 2 1 2 an0 an1 W9 an0_ok an1_ok (HN7.out.below H79.out (Nat.le_refl _)) (HR7.out.below H79.out (Nat.le_refl _))).mono ?_
  rintro e W10 ⟨rfl, hb10⟩
  rw [an0_ne]
  have h90 : Later W9 W10 := hb10
  have d0 := h90.cell cm0
  have d1 := h90.cell cm1
  have e0 := h90.cell cn0
  have e1 := h90.cell cn1
  have h70 := H79.out.trans h90
  have H70 := Lib.hid h70
  clear h70
  clear cm0 cm1 cn0 cn1 hb10 h90
  go_wp2_with fail
  refine (net_users _ _ 1 2 an0 0 W10 an0_ok (HN7.out.below H70.out (Nat.le_refl _))).mono ?_
  rintro e W11 ⟨A, uc, rfl, -, -, -, hb11⟩
  rw [an0_users]
  have hl := (Hl7.out.trans H70.out).call hb11
  have Hl := Lib.hid hl
  clear hl
  go_wp2_with fail
  go_ret
  exact ⟨rfl, Hl.out⟩
end Go.Proofs.Ytjkhpbngpceenaa
