/- Layer 11 (net): the equalities: contracts. -/
import Derived.Test.YtjkhpbngpceenaaNetE
namespace Go.Proofs.Ytjkhpbngpceenaa
open Go.RowKit
def eqSs (a b : List (List Int)) : Bool := decide (a = b)
def eqNode (a b : NodeD) : Bool := decide (a = b)
def eqNodes (a b : List NodeD) : Bool := decide (a = b)
def eqNet (a b : NetD) : Bool := decide (a = b)
theorem beq_dec (a b : List Int) : (a == b) = decide (a = b) := by
  rw [Bool.eq_iff_iff]; simp
theorem enters_shEq : ∀ args w, (callFunc 45 args).run Try.prog w = .ok (.enter 45 args) w := enters Try.func45 (by kernel_rfl) rfl
set_option maxRecDepth 20000 in
set_option maxHeartbeats 8000000 in
theorem eqf_shapes (A A' : Option Addr) (c c' : Nat) (ss ts : List (List Int)) (w : World) (hl : ss.length ≤ 1048576) (hl' : ts.length ≤ 1048576) (hs : ∀ s ∈ ss, s.length ≤ 1048576) (ht : ∀ s ∈ ts, s.length ≤ 1048576) (hS : Shps w A ss) (hT : Shps w A' ts) :
    Calls Try.prog 66 #[.slice A ss.length c, .slice A' ts.length c', .func (.func 45) #[] #[]] w fun e w' => e = .returned (.bool (eqSs ss ts)) ∧ ∃ q, w' = w.drewN q := by
  have eg := enters_shEq
  by_cases hlen : ss.length = ts.length
  · have hlen2 : ts.length = ss.length := hlen.symm
    rw [hlen2]
    have HS := Lib.hid hS
    have HT := Lib.hid hT
    have Hs := Lib.hid hs
    have Ht := Lib.hid ht
    have Hlen := Lib.hid hlen
    have Hlen2 := Lib.hid hlen2
    clear hS hT hs ht hlen hlen2
    go_enter Try.func66, Try.ntmps66
    go_wp2_with fail
    go_loopw [17] (fun i wr => ∃ k q : Nat, k ≤ ss.length ∧ i = .int .i64 k ∧ ss.take k = ts.take k ∧ wr = w.drewN q) (fun i _ => ss.length - (intOf i).toNat)
    case atStart => exact ⟨0, 0, Nat.zero_le _, rfl, rfl, rfl⟩
    case round =>
      obtain ⟨k, q, hk, rfl, htk, rfl⟩ := hrel
      by_cases hlt : k < ss.length
      · have hlt2 : k < ts.length := by have := Hlen.out; omega
        obtain ⟨b, off, S, sc, rfl, -, hc, hI, -⟩ := HS.out k hlt
        obtain ⟨b', off', T, tc, rfl, -, hc', hI', -⟩ := HT.out k hlt2
        have l1 := Hs.out _ (List.getElem_mem hlt)
        have l2 := Ht.out _ (List.getElem_mem hlt2)
        have hnx : ss[k] = ts[k] → ss.take (k + 1) = ts.take (k + 1) := fun e => by rw [List.take_succ_eq_append_getElem hlt, List.take_succ_eq_append_getElem hlt2, htk, e]
        have hno : ss[k] ≠ ts[k] → eqSs ss ts = false := fun e => by unfold eqSs; simp; intro h; subst h; exact e rfl
        generalize ss[k] = x at *
        generalize ts[k] = y at *
        have hcall := shape_equal S T sc tc x y (w.drewN q) (by omega) (by omega) (hI.drewN q) (hI'.drewN q)
        rw [beq_dec] at hcall
        have HI := Lib.hid hI
        have HI' := Lib.hid hI'
        have Hnx := Lib.hid hnx
        have Hno := Lib.hid hno
        have Htk := Lib.hid htk
        have Hcall := Lib.hid hcall
        clear hI hI' hnx hno htk hcall
        go_wp2_with fail
        refine (Hcall.out).mono ?_
        rintro e w1 ⟨rfl, q2, rfl⟩
        by_cases hxy : x = y
        · have HX := Lib.hid (Hnx.out hxy)
          rw [decide_eq_true hxy]
          clear hxy
          go_wp2_with fail
          go_roundw
          case rel => exact ⟨k + 1, _, by omega, by go_num, HX.out, by first | rfl | exact World.drewN_drewN _ _ _⟩
          case measure => simp [intOf]; omega
        · have HX := Lib.hid (Hno.out hxy)
          rw [decide_eq_false hxy]
          clear hxy
          go_wp2_with fail
          go_ret
          exact ⟨by rw [HX.out]; rfl, _, by first | rfl | exact World.drewN_drewN _ _ _⟩
      · obtain rfl : k = ss.length := by omega
        have HX := Lib.hid (show eqSs ss ts = true by
          rw [List.take_length] at htk
          unfold eqSs
          rw [htk, Hlen.out, List.take_length]; simp)
        clear htk
        go_wp2_with fail
        go_ret
        exact ⟨by rw [HX.out]; rfl, _, rfl⟩
  · have HX := Lib.hid (show eqSs ss ts = false by unfold eqSs; simp; intro h; exact hlen (by rw [h]))
    have e1 : ((ss.length : Int) != (ts.length : Int)) = true := by rw [bne_iff_ne]; omega
    have e2 : (ss.length != ts.length) = true := by rw [bne_iff_ne]; omega
    have HS := Lib.hid hS
    have HT := Lib.hid hT
    have Hs := Lib.hid hs
    have Ht := Lib.hid ht
    have Hlen := Lib.hid hlen
    clear hS hT hs ht hlen
    go_enter Try.func66, Try.ntmps66
    go_wp2_with fail
    go_ret
    exact ⟨by rw [HX.out]; rfl, 0, rfl⟩
theorem equal_ints (A A' : Option Addr) (c c' : Nat) (xs ys : List Int) (w : World) (hl : xs.length ≤ 1048576) (hl' : ys.length ≤ 1048576) (hI : Ints .i64 w A xs) (hI' : Ints .i64 w A' ys) :
    Calls Try.prog 65 #[.slice A xs.length c, .slice A' ys.length c'] w fun e w' => e = .returned (.bool (decide (xs = ys))) ∧ ∃ q, w' = w.drewN q := by
  by_cases h : xs = []
  · subst h
    refine (Try.slices_Equal_int_empty A A' c ys.length c' w (by omega)).mono ?_
    rintro e w' ⟨rfl, rfl⟩
    refine ⟨ret_bool ?_, 0, rfl⟩
    rw [Bool.eq_iff_iff]
    simp
  · obtain ⟨b, off, rfl, -, -⟩ := hI 0 (List.length_pos_iff.2 h)
    by_cases h2 : ys = []
    · subst h2
      refine (Try.slices_Equal_int_lens _ A' xs.length c 0 c' w (by intro q; exact h (List.eq_nil_of_length_eq_zero q))).mono ?_
      rintro e w' ⟨rfl, rfl⟩
      exact ⟨ret_bool (by simp [h]), 0, rfl⟩
    · obtain ⟨b', off', rfl, -, -⟩ := hI' 0 (List.length_pos_iff.2 h2)
      refine (Try.slices_Equal_int b off xs.length c b' off' ys.length c' xs ys w (Nat.le_refl _) (Nat.le_refl _) (by omega) (by omega) (fun j hj => ?_) (fun j hj => ?_)).mono ?_
      · obtain ⟨b1, o1, e, -, hc⟩ := hI j hj
        injection e with e; injection e with e1 e2; subst e1 e2
        exact hc
      · obtain ⟨b1, o1, e, -, hc⟩ := hI' j hj
        injection e with e; injection e with e1 e2; subst e1 e2
        exact hc
      · rintro e w' ⟨rfl, q, rfl⟩
        rw [List.take_length, List.take_length]
        exact ⟨ret_bool (beq_dec xs ys), q, rfl⟩
theorem node_split (v u : NodeD) : eqNode v u = (decide (v.op = u.op) && decide (v.ins = u.ins) && eqSs v.p u.p) := by
  obtain ⟨a, b, c⟩ := v
  obtain ⟨d, e, f⟩ := u
  unfold eqNode eqSs
  rw [Bool.eq_iff_iff]
  simp [and_assoc]
set_option maxRecDepth 20000 in
set_option maxHeartbeats 8000000 in
theorem node_equal (v u : NodeD) (S J Q S' J' Q' : Option Addr) (sc ic qc sc' ic' qc' : Nat) (w : World) (hv : v.ok) (hu : u.ok) (h1 : Ints .i64 w S v.op.s) (h2 : Ints .i64 w J v.ins) (h3 : Shps w Q v.p) (h1' : Ints .i64 w S' u.op.s) (h2' : Ints .i64 w J' u.ins) (h3' : Shps w Q' u.p) :
    Calls Try.prog 47 #[.agg #[.int .i64 v.op.kind, .int .i64 v.op.k, .int .i64 v.op.width, .int .i64 v.op.step, .int .i64 v.op.side, .int .i64 v.op.frm, .int .i64 v.op.to, .slice S v.op.s.length sc, .slice J v.ins.length ic, .slice Q v.p.length qc], .agg #[.int .i64 u.op.kind, .int .i64 u.op.k, .int .i64 u.op.width, .int .i64 u.op.step, .int .i64 u.op.side, .int .i64 u.op.frm, .int .i64 u.op.to, .slice S' u.op.s.length sc', .slice J' u.ins.length ic', .slice Q' u.p.length qc']] w fun e w' => e = .returned (.bool (eqNode v u)) ∧ Below w.heap.size w w' := by
  have hsp := node_split v u
  have hb0 := below2 w (.cells #[.int .i64 v.op.kind, .int .i64 v.op.k, .int .i64 v.op.width, .int .i64 v.op.step, .int .i64 v.op.side, .int .i64 v.op.frm, .int .i64 v.op.to, .slice S v.op.s.length sc, .slice J v.ins.length ic, .slice Q v.p.length qc] 46) (.cells #[.int .i64 u.op.kind, .int .i64 u.op.k, .int .i64 u.op.width, .int .i64 u.op.step, .int .i64 u.op.side, .int .i64 u.op.frm, .int .i64 u.op.to, .slice S' u.op.s.length sc', .slice J' u.ins.length ic', .slice Q' u.p.length qc'] 46)
  have hk1 := (Blk.new w 46 #[.int .i64 v.op.kind, .int .i64 v.op.k, .int .i64 v.op.width, .int .i64 v.op.step, .int .i64 v.op.side, .int .i64 v.op.frm, .int .i64 v.op.to, .slice S v.op.s.length sc, .slice J v.ins.length ic, .slice Q v.p.length qc]).alloc (.cells #[.int .i64 u.op.kind, .int .i64 u.op.k, .int .i64 u.op.width, .int .i64 u.op.step, .int .i64 u.op.side, .int .i64 u.op.frm, .int .i64 u.op.to, .slice S' u.op.s.length sc', .slice J' u.ins.length ic', .slice Q' u.p.length qc'] 46)
  have hk2 := Blk.new (w.alloc (.cells #[.int .i64 v.op.kind, .int .i64 v.op.k, .int .i64 v.op.width, .int .i64 v.op.step, .int .i64 v.op.side, .int .i64 v.op.frm, .int .i64 v.op.to, .slice S v.op.s.length sc, .slice J v.ins.length ic, .slice Q v.p.length qc] 46)) 46 #[.int .i64 u.op.kind, .int .i64 u.op.k, .int .i64 u.op.width, .int .i64 u.op.step, .int .i64 u.op.side, .int .i64 u.op.frm, .int .i64 u.op.to, .slice S' u.op.s.length sc', .slice J' u.ins.length ic', .slice Q' u.p.length qc']
  rw [World.size_alloc] at hk2
  have ho1 := hv.2.1
  have ho2 := hu.2.1
  have hi1 := hv.2.2.1
  have hi2 := hu.2.2.1
  have hp1 := hv.2.2.2.1
  have hp2 := hu.2.2.2.1
  have q1 := h1.below hb0 (Nat.le_refl _)
  have q1' := h1'.below hb0 (Nat.le_refl _)
  have Hsp := Lib.hid hsp
  have Hv := Lib.hid hv
  have Hu := Lib.hid hu
  have H1 := Lib.hid h1
  have H2 := Lib.hid h2
  have H3 := Lib.hid h3
  have H1' := Lib.hid h1'
  have H2' := Lib.hid h2'
  have H3' := Lib.hid h3'
  have Hk1 := Lib.hid hk1
  have Hk2 := Lib.hid hk2
  have Hq1 := Lib.hid q1
  have Hq1' := Lib.hid q1'
  clear hsp hv hu h1 h2 h3 h1' h2' h3' hk1 hk2 q1 q1'
  go_enter Try.func47, Try.ntmps47
  go_wp2_with fail
  generalize (w.alloc (.cells #[.int .i64 v.op.kind, .int .i64 v.op.k, .int .i64 v.op.width, .int .i64 v.op.step, .int .i64 v.op.side, .int .i64 v.op.frm, .int .i64 v.op.to, .slice S v.op.s.length sc, .slice J v.ins.length ic, .slice Q v.p.length qc] 46)).alloc (.cells #[.int .i64 u.op.kind, .int .i64 u.op.k, .int .i64 u.op.width, .int .i64 u.op.step, .int .i64 u.op.side, .int .i64 u.op.frm, .int .i64 u.op.to, .slice S' u.op.s.length sc', .slice J' u.ins.length ic', .slice Q' u.p.length qc'] 46) = w1 at *
  refine (op_equal v.op u.op S S' sc sc' _ (by omega) (by omega) Hq1.out Hq1'.out).mono ?_
  rintro e w2 ⟨rfl, hb2⟩
  have hbw2 := hb0.trans (hb2.mono hb0.size)
  have hl1 := Hk1.out.lt
  have hl2 := Hk2.out.lt
  obtain ⟨-, -, -, -, -, -, -, -, y8, y9⟩ := node_cells10 (Hk1.out.below hb2 hl1)
  obtain ⟨-, -, -, -, -, -, -, -, z8, z9⟩ := node_cells10 (Hk2.out.below hb2 hl2)
  by_cases a1 : v.op = u.op
  rotate_left
  · have HN := Lib.hid (show eqNode v u = false by rw [Hsp.out, decide_eq_false a1]; simp)
    rw [decide_eq_false a1]
    clear a1
    go_wp2_with fail
    go_ret
    exact ⟨by rw [HN.out]; rfl, hbw2⟩
  · have ha := Hsp.out
    rw [decide_eq_true a1, Bool.true_and] at ha
    rw [decide_eq_true a1]
    clear a1
    have Ha := Lib.hid ha
    clear ha
    go_wp2_with fail
    refine (equal_ints J J' ic ic' v.ins u.ins _ hi1 hi2 (H2.out.below hbw2 (Nat.le_refl _)) (H2'.out.below hbw2 (Nat.le_refl _))).mono ?_
    rintro e w3 ⟨rfl, q3, rfl⟩
    by_cases a2 : v.ins = u.ins
    rotate_left
    · have HN := Lib.hid (show eqNode v u = false by rw [Ha.out, decide_eq_false a2]; simp)
      rw [decide_eq_false a2]
      clear a2
      go_wp2_with fail
      go_ret
      exact ⟨by rw [HN.out]; rfl, Bdrawn hbw2 _⟩
    · have ha2 := Ha.out
      rw [decide_eq_true a2, Bool.true_and] at ha2
      rw [decide_eq_true a2]
      clear a2
      have Ha2 := Lib.hid ha2
      clear ha2
      go_wp2_with fail
      refine (eqf_shapes Q Q' qc qc' v.p u.p _ hp1 hp2 Hv.out.2.2.2.2.1 Hu.out.2.2.2.2.1 ((H3.out.below hbw2 (Nat.le_refl _)).drewN q3) ((H3'.out.below hbw2 (Nat.le_refl _)).drewN q3)).mono ?_
      rintro e w4 ⟨rfl, q4, rfl⟩
      go_wp2_with fail
      go_ret
      exact ⟨by rw [Ha2.out]; rfl, by first | exact Bdrawn2 hbw2 _ _ | exact Bdrawn hbw2 _⟩
theorem enters_nodeEq : ∀ args w, (callFunc 47 args).run Try.prog w = .ok (.enter 47 args) w := enters Try.func47 (by kernel_rfl) rfl
set_option maxRecDepth 20000 in
set_option maxHeartbeats 8000000 in
theorem eqf_nodes (A A' : Option Addr) (c c' : Nat) (ss ts : List NodeD) (w : World) (hl : ss.length ≤ 1048576) (hl' : ts.length ≤ 1048576) (hs : ∀ s ∈ ss, s.ok) (ht : ∀ s ∈ ts, s.ok) (hS : Nodes w A ss) (hT : Nodes w A' ts) :
    Calls Try.prog 46 #[.slice A ss.length c, .slice A' ts.length c', .func (.func 47) #[] #[]] w fun e w' => e = .returned (.bool (eqNodes ss ts)) ∧ Below w.heap.size w w' := by
  have eg := enters_nodeEq
  by_cases hlen : ss.length = ts.length
  · have hlen2 : ts.length = ss.length := hlen.symm
    rw [hlen2]
    have HS := Lib.hid hS
    have HT := Lib.hid hT
    have Hs := Lib.hid hs
    have Ht := Lib.hid ht
    have Hlen := Lib.hid hlen
    have Hlen2 := Lib.hid hlen2
    clear hS hT hs ht hlen hlen2
    go_enter Try.func46, Try.ntmps46
    go_wp2_with fail
    go_loopw [17] (fun i wr => ∃ k : Nat, k ≤ ss.length ∧ i = .int .i64 k ∧ ss.take k = ts.take k ∧ Below w.heap.size w wr) (fun i _ => ss.length - (intOf i).toNat)
    case atStart => exact ⟨0, Nat.zero_le _, rfl, rfl, Below.refl _ _⟩
    case round =>
      obtain ⟨k, hk, rfl, htk, hbw⟩ := hrel
      by_cases hlt : k < ss.length
      · have hlt2 : k < ts.length := by have := Hlen.out; omega
        obtain ⟨b, off, S, sc, J, ic, Q, qc, rfl, hNA, -, -, -⟩ := HS.out.at_ hlt
        obtain ⟨b', off', S', sc', J', ic', Q', qc', rfl, hNB, -, -, -⟩ := HT.out.at_ hlt2
        have l1 := Hs.out _ (List.getElem_mem hlt)
        have l2 := Ht.out _ (List.getElem_mem hlt2)
        have hnx : ss[k] = ts[k] → ss.take (k + 1) = ts.take (k + 1) := fun e => by rw [List.take_succ_eq_append_getElem hlt, List.take_succ_eq_append_getElem hlt2, htk, e]
        have hno : ss[k] ≠ ts[k] → eqNodes ss ts = false := fun e => by unfold eqNodes; simp; intro h; subst h; exact e rfl
        generalize ss[k] = v at *
        generalize ts[k] = u at *
        obtain ⟨⟨y0, y1, y2, y3, y4, y5, y6, y7, y8, y9⟩, -⟩ := hNA.below hbw
        obtain ⟨⟨z0, z1, z2, z3, z4, z5, z6, z7, z8, z9⟩, -⟩ := hNB.below (hbw.alloc hbw.size (.cells #[.int .i64 v.op.kind, .int .i64 v.op.k, .int .i64 v.op.width, .int .i64 v.op.step, .int .i64 v.op.side, .int .i64 v.op.frm, .int .i64 v.op.to, .slice S v.op.s.length sc, .slice J v.ins.length ic, .slice Q v.p.length qc] 46))
        have hb2 : Below wr.heap.size wr _ := below2 wr (.cells #[.int .i64 v.op.kind, .int .i64 v.op.k, .int .i64 v.op.width, .int .i64 v.op.step, .int .i64 v.op.side, .int .i64 v.op.frm, .int .i64 v.op.to, .slice S v.op.s.length sc, .slice J v.ins.length ic, .slice Q v.p.length qc] 46) (.cells #[.int .i64 u.op.kind, .int .i64 u.op.k, .int .i64 u.op.width, .int .i64 u.op.step, .int .i64 u.op.side, .int .i64 u.op.frm, .int .i64 u.op.to, .slice S' u.op.s.length sc', .slice J' u.ins.length ic', .slice Q' u.p.length qc'] 46)
        have hbw2 := hbw.trans (hb2.mono hbw.size)
        have hN1 := hNA.below hbw2
        have hN2 := hNB.below hbw2
        have k0 : (k : Int) < (ss.length : Int) := by omega
        have HNA := Lib.hid hNA
        have HNB := Lib.hid hNB
        have Hnx := Lib.hid hnx
        have Hno := Lib.hid hno
        have Htk := Lib.hid htk
        have Hl1 := Lib.hid l1
        have Hl2 := Lib.hid l2
        have HN1 := Lib.hid hN1
        have HN2 := Lib.hid hN2
        clear hNA hNB hnx hno htk l1 l2 hN1 hN2
        go_wp2_with fail
        clear y0 y1 y2 y3 y4 y5 y6 y7 y8 y9 z0 z1 z2 z3 z4 z5 z6 z7 z8 z9
        generalize (wr.alloc (.cells #[.int .i64 v.op.kind, .int .i64 v.op.k, .int .i64 v.op.width, .int .i64 v.op.step, .int .i64 v.op.side, .int .i64 v.op.frm, .int .i64 v.op.to, .slice S v.op.s.length sc, .slice J v.ins.length ic, .slice Q v.p.length qc] 46)).alloc (.cells #[.int .i64 u.op.kind, .int .i64 u.op.k, .int .i64 u.op.width, .int .i64 u.op.step, .int .i64 u.op.side, .int .i64 u.op.frm, .int .i64 u.op.to, .slice S' u.op.s.length sc', .slice J' u.ins.length ic', .slice Q' u.p.length qc'] 46) = w2 at *
        refine (node_equal v u S J Q S' J' Q' sc ic qc sc' ic' qc' _ Hl1.out Hl2.out HN1.out.2.1 HN1.out.2.2.1 HN1.out.2.2.2 HN2.out.2.1 HN2.out.2.2.1 HN2.out.2.2.2).mono ?_
        rintro e w3 ⟨rfl, hb3⟩
        have hbw3 := hbw2.trans (hb3.mono hbw2.size)
        by_cases hxy : v = u
        · have HX := Lib.hid (Hnx.out hxy)
          rw [show eqNode v u = true from decide_eq_true hxy]
          clear hxy
          go_wp2_with fail
          go_roundw
          case rel => exact ⟨k + 1, by omega, by go_num, HX.out, hbw3⟩
          case measure => simp [intOf]; omega
        · have HX := Lib.hid (Hno.out hxy)
          rw [show eqNode v u = false from decide_eq_false hxy]
          clear hxy
          go_wp2_with fail
          go_ret
          exact ⟨by rw [HX.out]; rfl, hbw3⟩
      · obtain rfl : k = ss.length := by omega
        have HX := Lib.hid (show eqNodes ss ts = true by
          rw [List.take_length] at htk
          unfold eqNodes
          rw [htk, Hlen.out, List.take_length]; simp)
        clear htk
        go_wp2_with fail
        go_ret
        exact ⟨by rw [HX.out]; rfl, hbw⟩
  · have HX := Lib.hid (show eqNodes ss ts = false by unfold eqNodes; simp; intro h; exact hlen (by rw [h]))
    have e1 : ((ss.length : Int) != (ts.length : Int)) = true := by rw [bne_iff_ne]; omega
    have e2 : (ss.length != ts.length) = true := by rw [bne_iff_ne]; omega
    have HS := Lib.hid hS
    have HT := Lib.hid hT
    have Hs := Lib.hid hs
    have Ht := Lib.hid ht
    have Hlen := Lib.hid hlen
    clear hS hT hs ht hlen
    go_enter Try.func46, Try.ntmps46
    go_wp2_with fail
    go_ret
    exact ⟨by rw [HX.out]; rfl, Below.refl _ _⟩
theorem net_split (n m : NetD) : eqNet n m = (decide (n.inn = m.inn) && eqNodes n.nodes m.nodes) := by
  obtain ⟨a, b⟩ := n
  obtain ⟨c, d⟩ := m
  unfold eqNet eqNodes
  rw [Bool.eq_iff_iff]
  simp
set_option maxRecDepth 20000 in
set_option maxHeartbeats 8000000 in
theorem net_equal (A N A' N' : Option Addr) (c d c' d' : Nat) (n m : NetD) (w : World) (hok : n.ok) (hok' : m.ok) (hR : NetR w A N n) (hR' : NetR w A' N' m) :
    Calls Try.prog 18 #[.agg #[.slice A n.inn.length c, .slice N n.nodes.length d], .agg #[.slice A' m.inn.length c', .slice N' m.nodes.length d']] w fun e w' => e = .returned (.bool (eqNet n m)) ∧ Below w.heap.size w w' := by
  have hb0 := below2 w (.cells #[.slice A n.inn.length c, .slice N n.nodes.length d] 26) (.cells #[.slice A' m.inn.length c', .slice N' m.nodes.length d'] 26)
  have hk1 := (Blk.new w 26 #[.slice A n.inn.length c, .slice N n.nodes.length d]).alloc (.cells #[.slice A' m.inn.length c', .slice N' m.nodes.length d'] 26)
  have hk2 := Blk.new (w.alloc (.cells #[.slice A n.inn.length c, .slice N n.nodes.length d] 26)) 26 #[.slice A' m.inn.length c', .slice N' m.nodes.length d']
  rw [World.size_alloc] at hk2
  have hsp := net_split n m
  have l1 := hok.1
  have l2 := hok'.1
  have l3 := hok.2.1
  have l4 := hok'.2.1
  have x1 : ((w.alloc (.cells #[.slice A n.inn.length c, .slice N n.nodes.length d] 26)).alloc (.cells #[.slice A' m.inn.length c', .slice N' m.nodes.length d'] 26)).cell? ⟨w.heap.size, 1, none⟩ = some (.slice N n.nodes.length d) := by rw [hk1.cell]; rfl
  have x2 : ((w.alloc (.cells #[.slice A n.inn.length c, .slice N n.nodes.length d] 26)).alloc (.cells #[.slice A' m.inn.length c', .slice N' m.nodes.length d'] 26)).cell? ⟨w.heap.size + 1, 1, none⟩ = some (.slice N' m.nodes.length d') := by rw [hk2.cell]; rfl
  have hR1 := hR.below hb0 (Nat.le_refl _)
  have hR2 := hR'.below hb0 (Nat.le_refl _)
  have Hok := Lib.hid hok
  have Hok' := Lib.hid hok'
  have HR := Lib.hid hR
  have HR' := Lib.hid hR'
  have Hsp := Lib.hid hsp
  have HR1 := Lib.hid hR1
  have HR2 := Lib.hid hR2
  have Hk1 := Lib.hid hk1
  have Hk2 := Lib.hid hk2
  clear hok hok' hR hR' hsp hR1 hR2 hk1 hk2
  go_enter Try.func18, Try.ntmps18
  go_wp2_with fail
  generalize (w.alloc (.cells #[.slice A n.inn.length c, .slice N n.nodes.length d] 26)).alloc (.cells #[.slice A' m.inn.length c', .slice N' m.nodes.length d'] 26) = w1 at *
  have hcall := shape_equal A A' c c' n.inn m.inn w1 (by omega) (by omega) HR1.out.1 HR2.out.1
  rw [beq_dec] at hcall
  have Hcall := Lib.hid hcall
  clear hcall
  refine (Hcall.out).mono ?_
  rintro e w2 ⟨rfl, q, rfl⟩
  by_cases a1 : n.inn = m.inn
  rotate_left
  · have HN := Lib.hid (show eqNet n m = false by rw [Hsp.out, decide_eq_false a1]; rfl)
    rw [decide_eq_false a1]
    clear a1
    go_wp2_with fail
    go_ret
    exact ⟨by rw [HN.out]; rfl, Bdrawn hb0 _⟩
  · have ha := Hsp.out
    rw [decide_eq_true a1, Bool.true_and] at ha
    rw [decide_eq_true a1]
    clear a1
    have Ha := Lib.hid ha
    clear ha
    go_wp2_with fail
    refine (eqf_nodes N N' d d' n.nodes m.nodes _ l3 l4 Hok.out.2.2 Hok'.out.2.2 (by exact HR1.out.2) (by exact HR2.out.2)).mono ?_
    rintro e w4 ⟨rfl, hb4⟩
    go_wp2_with fail
    go_ret
    exact ⟨by rw [Ha.out]; rfl, (Bdrawn hb0 q).trans (hb4.mono hb0.size)⟩
end Go.Proofs.Ytjkhpbngpceenaa
