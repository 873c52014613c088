/- Lemmas for the statements of this seat: contracts of functions and the plain laws. -/
import Derived.Test.YtjkhpbngpceenaaZ09
set_option linter.unusedVariables false
/- Layer 11's statements: are two nets one (same): contract. -/
namespace Go.Proofs.Ytjkhpbngpceenaa
open Go.RowKit
theorem nodes_split (v u : NodeD) : eqNode v u = (decide (v.op = u.op) && (decide (v.ins = u.ins) && eqSs v.p u.p)) := by
  obtain ⟨a, b, c⟩ := v
  obtain ⟨d, e, f⟩ := u
  unfold eqNode eqSs
  rw [Bool.eq_iff_iff]
  simp
set_option maxRecDepth 20000 in
set_option maxHeartbeats 16000000 in
theorem law_same (A N A' N' : Option Addr) (c d c' d' : Nat) (n m : NetD) (w : World) (hok : n.ok) (hok' : m.ok) (hR : NetR w A N n) (hR' : NetR w A' N' m) :
    Calls Try.prog 19 #[.agg #[.slice A n.inn.length c, .slice N n.nodes.length d], .agg #[.slice A' m.inn.length c', .slice N' m.nodes.length d']] w fun e w' => e = .returned (.bool (eqNet n m)) ∧ Below w.heap.size w w' := by
  have hl0 : Later w ((w.alloc (.cells #[.slice A n.inn.length c, .slice N n.nodes.length d] 26)).alloc (.cells #[.slice A' m.inn.length c', .slice N' m.nodes.length d'] 26)) := ((Later.refl w).alloc _).alloc _
  have hk1 := (Blk.new w 26 #[.slice A n.inn.length c, .slice N n.nodes.length d]).alloc (.cells #[.slice A' m.inn.length c', .slice N' m.nodes.length d'] 26)
  have hk2 := Blk.new (w.alloc (.cells #[.slice A n.inn.length c, .slice N n.nodes.length d] 26)) 26 #[.slice A' m.inn.length c', .slice N' m.nodes.length d']
  rw [World.size_alloc] at hk2
  have hsp := net_split n m
  have l1 := hok.1
  have l2 := hok'.1
  have l3 := hok.2.1
  have l4 := hok'.2.1
  have hs0 := hl0.size
  have Hok := Lib.hid hok
  have Hok' := Lib.hid hok'
  have HR := Lib.hid hR
  have HR' := Lib.hid hR'
  have Hsp := Lib.hid hsp
  have Hk1 := Lib.hid hk1
  have Hk2 := Lib.hid hk2
  have Hl0 := Lib.hid hl0
  clear hok hok' hR hR' hsp hk1 hk2 hl0
  go_enter Try.func19, Try.ntmps19
  go_wp2_with fail
  generalize (w.alloc (.cells #[.slice A n.inn.length c, .slice N n.nodes.length d] 26)).alloc (.cells #[.slice A' m.inn.length c', .slice N' m.nodes.length d'] 26) = w1 at *
  have x1 : w1.cell? ⟨w.heap.size, 1, none⟩ = some (.slice N n.nodes.length d) := by rw [Hk1.out.cell]; rfl
  have x2 : w1.cell? ⟨w.heap.size + 1, 1, none⟩ = some (.slice N' m.nodes.length d') := by rw [Hk2.out.cell]; rfl
  refine (ref03_same A A' c c' n.inn m.inn w1 (by omega) (by omega) (HR.out.1.below Hl0.out (Nat.le_refl _)) (HR'.out.1.below Hl0.out (Nat.le_refl _))).mono ?_
  rintro e w2 ⟨rfl, q2, rfl⟩
  by_cases a1 : n.inn = m.inn
  rotate_left
  · have HN := Lib.hid (show eqNet n m = false by rw [Hsp.out, decide_eq_false a1]; rfl)
    rw [decide_eq_false a1]
    clear a1
    go_wp2_with fail
    go_ret
    exact ⟨by (rw [HN.out] <;> rfl), Hl0.out.drewN _⟩
  have ha := Hsp.out
  rw [decide_eq_true a1, Bool.true_and] at ha
  rw [decide_eq_true a1]
  clear a1
  have Ha := Lib.hid ha
  clear ha
  by_cases hlen : n.nodes.length = m.nodes.length
  rotate_left
  · have HN := Lib.hid (show eqNet n m = false by rw [Ha.out]; unfold eqNodes; simp; intro h; exact hlen (by rw [h]))
    have e1 : ((n.nodes.length : Int) != (m.nodes.length : Int)) = true := by rw [bne_iff_ne]; omega
    have e2 : (n.nodes.length != m.nodes.length) = true := by rw [bne_iff_ne]; omega
    clear hlen
    go_wp2_with fail
    go_ret
    exact ⟨by (rw [HN.out] <;> rfl), Hl0.out.drewN _⟩
  have hlen2 : m.nodes.length = n.nodes.length := hlen.symm
  rw [hlen2] at x2
  have Hlen := Lib.hid hlen
  have Hlen2 := Lib.hid hlen2
  clear hlen hlen2
  go_wp2_with fail
  go_loopw [27] (fun i wx => ∃ k : Nat, k ≤ n.nodes.length ∧ i = .int .i64 (k : Int) ∧ n.nodes.take k = m.nodes.take k ∧ Later w1 wx) (fun i _ => n.nodes.length - (intOf i).toNat)
  case atStart => exact ⟨0, Nat.zero_le _, rfl, rfl, (Later.refl w1).drewN _⟩
  case round =>
    obtain ⟨k, hk, rfl, htk, hlw⟩ := hrel
    by_cases hlt : k < n.nodes.length
    · have hlt2 : k < m.nodes.length := by have := Hlen2.out; omega
      obtain ⟨b, off, S, sc, J, ic, Q, qc, rfl, hNA, -, -, -⟩ := HR.out.2.at_ hlt
      obtain ⟨b', off', S', sc', J', ic', Q', qc', rfl, hNB, -, -, -⟩ := HR'.out.2.at_ hlt2
      have l1' := Hok.out.2.2 _ (List.getElem_mem hlt)
      have l2' := Hok'.out.2.2 _ (List.getElem_mem hlt2)
      have hnx : n.nodes[k] = m.nodes[k] → n.nodes.take (k + 1) = m.nodes.take (k + 1) := fun e => by rw [List.take_succ_eq_append_getElem hlt, List.take_succ_eq_append_getElem hlt2, htk, e]
      have hno : n.nodes[k] ≠ m.nodes[k] → eqNet n m = false := fun e => by
        rw [Ha.out]; unfold eqNodes; simp; intro h
        exact e (Option.some.inj (by rw [← List.getElem?_eq_getElem hlt, ← List.getElem?_eq_getElem hlt2, h]))
      generalize n.nodes[k] = v at *
      generalize m.nodes[k] = u at *
      have hs1 := nodes_split v u
      have hlw0 := Hl0.out.trans hlw
      obtain ⟨⟨y0, y1, y2, y3, y4, y5, y6, y7, y8, y9⟩, -⟩ := hNA.below hlw0
      obtain ⟨⟨z0, z1, z2, z3, z4, z5, z6, z7, z8, z9⟩, -⟩ := hNB.below (hlw0.alloc (.cells #[.int .i64 v.op.kind, .int .i64 v.op.k, .int .i64 v.op.width, .int .i64 v.op.step, .int .i64 v.op.side, .int .i64 v.op.frm, .int .i64 v.op.to, .slice S v.op.s.length sc, .slice J v.ins.length ic, .slice Q v.p.length qc] 46))
      have x2r := (hlw.alloc (.cells #[.int .i64 v.op.kind, .int .i64 v.op.k, .int .i64 v.op.width, .int .i64 v.op.step, .int .i64 v.op.side, .int .i64 v.op.frm, .int .i64 v.op.to, .slice S v.op.s.length sc, .slice J v.ins.length ic, .slice Q v.p.length qc] 46)).cell x2
      have hl2 : Later wr ((wr.alloc (.cells #[.int .i64 v.op.kind, .int .i64 v.op.k, .int .i64 v.op.width, .int .i64 v.op.step, .int .i64 v.op.side, .int .i64 v.op.frm, .int .i64 v.op.to, .slice S v.op.s.length sc, .slice J v.ins.length ic, .slice Q v.p.length qc] 46)).alloc (.cells #[.int .i64 u.op.kind, .int .i64 u.op.k, .int .i64 u.op.width, .int .i64 u.op.step, .int .i64 u.op.side, .int .i64 u.op.frm, .int .i64 u.op.to, .slice S' u.op.s.length sc', .slice J' u.ins.length ic', .slice Q' u.p.length qc'] 46)) := ((Later.refl wr).alloc _).alloc _
      have hkv := (Blk.new wr 46 #[.int .i64 v.op.kind, .int .i64 v.op.k, .int .i64 v.op.width, .int .i64 v.op.step, .int .i64 v.op.side, .int .i64 v.op.frm, .int .i64 v.op.to, .slice S v.op.s.length sc, .slice J v.ins.length ic, .slice Q v.p.length qc]).alloc (.cells #[.int .i64 u.op.kind, .int .i64 u.op.k, .int .i64 u.op.width, .int .i64 u.op.step, .int .i64 u.op.side, .int .i64 u.op.frm, .int .i64 u.op.to, .slice S' u.op.s.length sc', .slice J' u.ins.length ic', .slice Q' u.p.length qc'] 46)
      have hku := Blk.new (wr.alloc (.cells #[.int .i64 v.op.kind, .int .i64 v.op.k, .int .i64 v.op.width, .int .i64 v.op.step, .int .i64 v.op.side, .int .i64 v.op.frm, .int .i64 v.op.to, .slice S v.op.s.length sc, .slice J v.ins.length ic, .slice Q v.p.length qc] 46)) 46 #[.int .i64 u.op.kind, .int .i64 u.op.k, .int .i64 u.op.width, .int .i64 u.op.step, .int .i64 u.op.side, .int .i64 u.op.frm, .int .i64 u.op.to, .slice S' u.op.s.length sc', .slice J' u.ins.length ic', .slice Q' u.p.length qc']
      rw [World.size_alloc] at hku
      have k0 : (k : Int) < (n.nodes.length : Int) := by omega
      have HNA := Lib.hid hNA
      have HNB := Lib.hid hNB
      have Hnx := Lib.hid hnx
      have Hno := Lib.hid hno
      have Htk := Lib.hid htk
      have Hl1' := Lib.hid l1'
      have Hl2' := Lib.hid l2'
      have Hs1 := Lib.hid hs1
      have Hlw := Lib.hid hlw
      have Hlw0 := Lib.hid hlw0
      have Hl2 := Lib.hid hl2
      have Hkv := Lib.hid hkv
      have Hku := Lib.hid hku
      clear hNA hNB hnx hno htk l1' l2' hs1 hlw hlw0 hl2 hkv hku
      go_wp2_with fail
      clear y0 y1 y2 y3 y4 y5 y6 y7 y8 y9 z0 z1 z2 z3 z4 z5 z6 z7 z8 z9 x2r
      generalize (wr.alloc (.cells #[.int .i64 v.op.kind, .int .i64 v.op.k, .int .i64 v.op.width, .int .i64 v.op.step, .int .i64 v.op.side, .int .i64 v.op.frm, .int .i64 v.op.to, .slice S v.op.s.length sc, .slice J v.ins.length ic, .slice Q v.p.length qc] 46)).alloc (.cells #[.int .i64 u.op.kind, .int .i64 u.op.k, .int .i64 u.op.width, .int .i64 u.op.step, .int .i64 u.op.side, .int .i64 u.op.frm, .int .i64 u.op.to, .slice S' u.op.s.length sc', .slice J' u.ins.length ic', .slice Q' u.p.length qc'] 46) = w2 at *
      have o1 := Hl1'.out
      have o2 := Hl2'.out
      have b1 := o1.2.1
      have b2 := o2.2.1
      have b3 := o1.2.2.1
      have b4 := o2.2.2.1
      have b5 := o1.2.2.2.1
      have b6 := o2.2.2.2.1
      have hN1 := HNA.out.below (Hlw0.out.trans Hl2.out)
      have hN2 := HNB.out.below (Hlw0.out.trans Hl2.out)
      have Ho1 := Lib.hid o1
      have Ho2 := Lib.hid o2
      have HN1 := Lib.hid hN1
      have HN2 := Lib.hid hN2
      clear o1 o2 hN1 hN2
      refine (op_equal v.op u.op S S' sc sc' _ (by omega) (by omega) HN1.out.2.1 HN2.out.2.1).mono ?_
      rintro e w3 ⟨rfl, hb3⟩
      have h23 : Later w2 w3 := hb3
      have hkv3 := h23.blk Hkv.out
      have hku3 := h23.blk Hku.out
      obtain ⟨-, -, -, -, -, -, -, -, y8, y9⟩ := node_cells10 hkv3
      obtain ⟨-, -, -, -, -, -, -, -, z8, z9⟩ := node_cells10 hku3
      clear hb3
      have H23 := Lib.hid h23
      have Hkv3 := Lib.hid hkv3
      have Hku3 := Lib.hid hku3
      clear h23 hkv3 hku3
      by_cases a1 : v.op = u.op
      rotate_left
      · have HN := Lib.hid (Hno.out fun e => a1 (by rw [e]))
        rw [decide_eq_false a1]
        clear a1
        go_wp2_with fail
        go_ret
        exact ⟨by (rw [HN.out] <;> rfl), Hlw0.out.trans (Hl2.out.trans H23.out)⟩
      have hs2 := Hs1.out
      rw [decide_eq_true a1, Bool.true_and] at hs2
      rw [decide_eq_true a1]
      clear a1
      have Hs2 := Lib.hid hs2
      clear hs2
      go_wp2_with fail
      refine (ref03_same J J' ic ic' v.ins u.ins _ (by omega) (by omega) (HN1.out.2.2.1.below H23.out (Nat.le_refl _)) (HN2.out.2.2.1.below H23.out (Nat.le_refl _))).mono ?_
      rintro e w4 ⟨rfl, q4, rfl⟩
      by_cases a2 : v.ins = u.ins
      rotate_left
      · have HN := Lib.hid (Hno.out fun e => a2 (by rw [e]))
        rw [decide_eq_false a2]
        clear a2
        go_wp2_with fail
        go_ret
        exact ⟨by (rw [HN.out] <;> rfl), (Hlw0.out.trans (Hl2.out.trans H23.out)).drewN _⟩
      have hs3 := Hs2.out
      rw [decide_eq_true a2, Bool.true_and] at hs3
      rw [decide_eq_true a2]
      clear a2
      have Hs3 := Lib.hid hs3
      clear hs3
      by_cases a3 : v.p.length = u.p.length
      rotate_left
      · have HN := Lib.hid (Hno.out fun e => a3 (by rw [e]))
        have e1 : ((v.p.length : Int) != (u.p.length : Int)) = true := by rw [bne_iff_ne]; omega
        have e2 : (v.p.length != u.p.length) = true := by rw [bne_iff_ne]; omega
        clear a3
        go_wp2_with fail
        go_ret
        exact ⟨by (rw [HN.out] <;> rfl), (Hlw0.out.trans (Hl2.out.trans H23.out)).drewN _⟩
      have a4 : u.p.length = v.p.length := a3.symm
      rw [a4] at z9
      have Ha3 := Lib.hid a3
      have Ha4 := Lib.hid a4
      clear a3 a4
      go_wp2_with fail
      have hS1 := (HN1.out.2.2.2.below H23.out (Nat.le_refl _)).drewN q4
      have hS2 := (HN2.out.2.2.2.below H23.out (Nat.le_refl _)).drewN q4
      have hlz := (Hlw0.out.trans (Hl2.out.trans H23.out)).drewN q4
      have hlz1 := (Hlw.out.trans (Hl2.out.trans H23.out)).drewN q4
      have z9' : (w3.drewN q4).cell? ⟨wr.heap.size + 1, 9, none⟩ = some (.slice Q' v.p.length qc') := z9
      have y9' : (w3.drewN q4).cell? ⟨wr.heap.size, 9, none⟩ = some (.slice Q v.p.length qc) := y9
      clear y8 z8 y9 z9
      have HS1 := Lib.hid hS1
      have HS2 := Lib.hid hS2
      have Hlz := Lib.hid hlz
      have Hlz1 := Lib.hid hlz1
      clear hS1 hS2 hlz hlz1
      generalize w3.drewN q4 = w5 at *
      obtain ⟨wo, rfl⟩ : ∃ wo, wo = wr := ⟨wr, rfl⟩
      go_loopw [63] (fun i wx => ∃ kk q : Nat, kk ≤ v.p.length ∧ i = .int .i64 (kk : Int) ∧ v.p.take kk = u.p.take kk ∧ wx = w5.drewN q) (fun i _ => v.p.length - (intOf i).toNat)
      case atStart => exact ⟨0, 0, Nat.zero_le _, by rfl, rfl, rfl⟩
      case round =>
        obtain ⟨kk, q, hkk, rfl, htk2, hwx⟩ := hrel
        by_cases hlm : kk < v.p.length
        · have hlm2 : kk < u.p.length := by have := Ha4.out; omega
          obtain ⟨bp, op_, T, tc, rfl, -, hc, hI, -⟩ := HS1.out kk hlm
          obtain ⟨bp', op', T', tc', rfl, -, hc', hI', -⟩ := HS2.out kk hlm2
          have c1 := Ho1.out.2.2.2.2.1 _ (List.getElem_mem hlm)
          have c2 := Ho2.out.2.2.2.2.1 _ (List.getElem_mem hlm2)
          have hnx2 : v.p[kk] = u.p[kk] → v.p.take (kk + 1) = u.p.take (kk + 1) := fun e => by rw [List.take_succ_eq_append_getElem hlm, List.take_succ_eq_append_getElem hlm2, htk2, e]
          have hno2 : v.p[kk] ≠ u.p[kk] → eqNet n m = false := fun e => Hno.out fun h => e (Option.some.inj (by rw [← List.getElem?_eq_getElem hlm, ← List.getElem?_eq_getElem hlm2, h]))
          generalize v.p[kk] = x at *
          generalize u.p[kk] = y at *
          have g1 : wr.cell? ⟨bp, op_ + kk, none⟩ = some (.slice T x.length tc) := by rw [hwx]; exact hc
          have g2 : wr.cell? ⟨bp', op' + kk, none⟩ = some (.slice T' y.length tc') := by rw [hwx]; exact hc'
          have g3 : wr.cell? ⟨wo.heap.size, 9, none⟩ = some (.slice (some ⟨bp, op_, none⟩) v.p.length qc) := by rw [hwx]; exact y9'
          have g4 : wr.cell? ⟨wo.heap.size + 1, 9, none⟩ = some (.slice (some ⟨bp', op', none⟩) v.p.length qc') := by rw [hwx]; exact z9'
          have i0 : (0 : Int) ≤ (kk : Int) := by omega
          have i1 : (kk : Int) < (v.p.length : Int) := by omega
          have hcall := fun (m : Nat) => ref03_same T T' tc tc' x y (wr.drewN m) (by omega) (by omega) (by rw [hwx]; exact hI) (by rw [hwx]; exact hI')
          by_cases hxy : x = y
          · have hn := hnx2 hxy
            rw [decide_eq_true hxy] at hcall
            clear hxy hnx2 hno2 hc hc' hI hI' htk2
            have Hn := Lib.hid hn
            have Hcall := Lib.hid hcall
            have Hwx := Lib.hid hwx
            clear hn hcall hwx
            go_wp2_with fail
            go_quiet ((go_at_call 14; exact quiet_drawn (Hcall.out _)))
            go_wp2_with fail
            go_roundw
            case rel => exact ⟨kk + 1, _, by omega, by go_num, Hn.out, by rw [Hwx.out]; first | rfl | exact World.drewN_drewN _ _ _⟩
            case measure => simp [intOf]; omega
          · have hn := hno2 hxy
            rw [decide_eq_false hxy] at hcall
            clear hxy hnx2 hno2 hc hc' hI hI' htk2
            have Hn := Lib.hid hn
            have Hcall := Lib.hid hcall
            have Hwx := Lib.hid hwx
            clear hn hcall hwx
            go_wp2_with fail
            go_quiet ((go_at_call 14; exact quiet_drawn (Hcall.out _)))
            go_wp2_with fail
            go_ret
            exact ⟨by (rw [Hn.out] <;> rfl), by rw [Hwx.out]; exact (Hlz.out.drewN _).drewN _⟩
        · obtain rfl : kk = v.p.length := by omega
          have hp : v.p = u.p := by
            rw [List.take_length] at htk2
            rw [htk2, ← Ha4.out, List.take_length]
          have hvu : v = u := by
            have h1 := Hs3.out
            have h2 : eqSs v.p u.p = true := decide_eq_true hp
            rw [h2] at h1
            exact of_decide_eq_true h1
          have hn := Hnx.out hvu
          subst hwx
          clear hvu hp htk2
          have Hn := Lib.hid hn
          clear hn
          go_wp2_with fail
          go_roundw
          case rel => exact ⟨k + 1, by omega, by go_num, Hn.out, Hlz1.out.drewN q⟩
          case measure => simp [intOf]; omega
    · obtain rfl : k = n.nodes.length := by omega
      have HX := Lib.hid (show eqNet n m = true by
        rw [Ha.out]
        rw [List.take_length] at htk
        unfold eqNodes
        rw [htk, Hlen.out, List.take_length]; simp)
      clear htk
      go_wp2_with fail
      go_ret
      exact ⟨by (rw [HX.out] <;> rfl), Hl0.out.trans hlw⟩
end Go.Proofs.Ytjkhpbngpceenaa
/- Rows of ints in memory of the call's own that are written to: what stays. -/
namespace Go.Proofs.Ytjkhpbngpceenaa
open Go.RowKit
/-- Blocks of ints are blocks of ints still; where there was an int there is one. -/
def IntKeep (w w' : World) : Prop := ∀ (b : Nat) (cs : Array Value), Blk w b 3 cs → ∃ cs', Blk w' b 3 cs' ∧ ∀ (i : Nat) (z : Int), cs[i]? = some (Value.int .i64 z) → ∃ z' : Int, cs'[i]? = some (Value.int .i64 z')
/-- From w1 on only ints have been written, in blocks that w had not. -/
def Mix (w w1 wx : World) : Prop := Keep 3 w1 wx ∧ IntKeep w1 wx ∧ Later w wx
section
variable {w w1 wx wy : World}
theorem IntKeep.refl (w : World) : IntKeep w w := fun _ cs h => ⟨cs, h, fun _ z e => ⟨z, e⟩⟩
theorem Mix.refl (h : Later w w1) : Mix w w1 w1 := ⟨Keep.refl _ _, IntKeep.refl _, h⟩
theorem Mix.later (h : Mix w w1 wx) (k : Later wx wy) : Mix w w1 wy := ⟨h.1.trans (Keep.of_later k), fun b cs hb => by
  obtain ⟨cs', h1, h2⟩ := h.2.1 b cs hb
  exact ⟨cs', k.blk h1, h2⟩, h.2.2.trans k⟩
theorem Mix.drew (h : Mix w w1 wx) : Mix w w1 wx.drew := h.later ((Later.refl _).drew)
theorem Mix.drewN (h : Mix w w1 wx) (q : Nat) : Mix w w1 (wx.drewN q) := h.later ((Later.refl _).drewN q)
theorem Mix.alloc (h : Mix w w1 wx) (o : Obj) : Mix w w1 (wx.alloc o) := h.later ((Later.refl _).alloc o)
theorem Mix.set {b : Nat} {cs : Array Value} (h : Mix w w1 wx) (hb : Blk w1 b 3 cs) (hB : w.heap.size ≤ b) (i : Nat) (z : Int) : Mix w w1 (wx.setCell ⟨b, i, none⟩ (.int .i64 z)) := by
  obtain ⟨c0, hb0, -⟩ := h.2.1 b cs hb
  refine ⟨h.1.trans (Keep.set_ hb0 i _), fun b' cs' hb' => ?_, h.2.2.set (p := ⟨b, i, none⟩) hB _⟩
  obtain ⟨c1, hb1, hz⟩ := h.2.1 b' cs' hb'
  by_cases e : b' = b
  · subst e
    refine ⟨_, hb1.set_ i (.int .i64 z), fun j y hy => ?_⟩
    obtain ⟨y', hy'⟩ := hz j y hy
    by_cases e2 : i = j
    · subst e2
      have hlt : i < c1.size := by
        rcases Nat.lt_or_ge i c1.size with h | h
        · exact h
        · rw [Array.getElem?_eq_none h] at hy'; cases hy'
      exact ⟨z, by simp [hlt]⟩
    · exact ⟨y', by simp [e2, hy']⟩
  · exact ⟨c1, hb1.far (p := ⟨b, i, none⟩) e _, hz⟩
theorem Mix.cell {b : Nat} {cs : Array Value} {i : Nat} {z : Int} (h : Mix w w1 wx) (hb : Blk w1 b 3 cs) (hz : cs[i]? = some (.int .i64 z)) : ∃ z' : Int, wx.cell? ⟨b, i, none⟩ = some (.int .i64 z') ∧ wx.frozen? ⟨b, i, none⟩ = false := by
  obtain ⟨c0, hb0, h0⟩ := h.2.1 b cs hb
  obtain ⟨z', hz'⟩ := h0 i z hz
  exact ⟨z', by rw [hb0.cell]; exact hz', hb0.frozen i⟩
theorem Mix.blk {g : Nat} {t : TypeId} {cs : Array Value} (h : Mix w w1 wx) (hb : Blk w1 g t cs) (ht : t ≠ 3) : Blk wx g t cs := hb.keep ht h.1
end
/-- The i-th copied node: its cells, and where its rows lie. -/
theorem CpRow.at_ {B : Nat} {w : World} {g : Nat} {zc : Array Value} {ns : List NodeD} (h : CpRow B w g zc ns ns.length) {i : Nat} (hi : i < ns.length) :
    ∃ x : CpQ, x.v = ns[i] ∧ CpQ.R B w x ∧ ∃ cs, Blk w g 46 cs ∧ cs[i * 10 + 8]? = some (.slice x.J x.v.ins.length x.jc) ∧ cs[i * 10 + 9]? = some (.slice (some ⟨x.Q, 0, none⟩) x.v.p.length x.v.p.length) := by
  obtain ⟨L, h1, h2, h3, h4⟩ := h
  rw [List.take_length] at h1
  subst h1
  rw [List.length_map] at hi
  have hx := h4 L[i] (List.getElem_mem hi)
  have hsplit : L = L.take i ++ L[i] :: L.drop (i + 1) := by rw [← List.drop_eq_getElem_cons hi, List.take_append_drop]
  have hfl : ((L.take i).flatMap CpQ.cells).length = i * 10 := by rw [CpQ.flat]; simp; omega
  have hcell : ∀ j, j < 10 → (L.flatMap CpQ.cells ++ zc.toList.drop ((L.map (·.v)).length * 10)).toArray[i * 10 + j]? = L[i].cells[j]? := fun j hj => by
    conv => lhs; rw [hsplit, List.flatMap_append, List.flatMap_cons, List.append_assoc, List.append_assoc]
    rw [List.getElem?_toArray, List.getElem?_append_right (by omega), hfl, show i * 10 + j - i * 10 = j by omega, List.getElem?_append_left (by rw [CpQ.len]; exact hj)]
  exact ⟨L[i], by rw [List.getElem_map], hx, _, h3, hcell 8 (by omega), hcell 9 (by omega)⟩
/-- A row that its owner keeps: its block, if it has any cells. -/
theorem own_blk {w : World} {B : Nat} {J : Option Addr} {jc : Nat} {zs : List Int} (h : w.ownsRow B 3 1 (.slice J zs.length jc) zs.length (zs.map (Value.int .i64))) (hz : 0 < zs.length) :
    ∃ b cs, J = some ⟨b, 0, none⟩ ∧ B ≤ b ∧ Blk w b 3 cs ∧ ∀ k (hk : k < zs.length), cs[k]? = some (.int .i64 zs[k]) := by
  rcases h.2 with ⟨-, h0⟩ | ⟨g, cap, cur, h1, h2, h3, -⟩
  · omega
  · injection h1 with h1 _ h1'
    refine ⟨g, cur, h1, h2, h3, fun k hk => ?_⟩
    subst h1 h1'
    have := h.cellAt k (by simpa using hk)
    rw [Blk.cell h3] at this
    rw [this]
    simp [hk]
theorem netR_to {w w' : World} {A N : Option Addr} {n : NetD} (h : NetR w A N n) (hl : Later w w') : NetR w' A N n := h.below hl (Nat.le_refl _)
end Go.Proofs.Ytjkhpbngpceenaa
