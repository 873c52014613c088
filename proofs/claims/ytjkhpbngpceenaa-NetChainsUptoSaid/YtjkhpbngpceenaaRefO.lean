/- The reference of layer 11: shape: contract. -/
import Derived.Test.YtjkhpbngpceenaaRefN
import Derived.Test.YtjkhpbngpceenaaRefW
namespace Go.Proofs.Ytjkhpbngpceenaa
open Go.RowKit
/-- Slice values that read as shapes. -/
def RowOf (w : World) (vs : List Value) (ss : List (List Int)) : Prop :=
  vs.length = ss.length ∧ ∀ j (hj : j < ss.length), ∃ S c, vs[j]? = some (.slice S ss[j].length c) ∧ Ints .i64 w S ss[j] ∧ ss[j].length ≤ c ∧ c ≤ 9223372036854775807
theorem RowOf.nil (w : World) : RowOf w [] [] := ⟨rfl, fun j hj => absurd hj (by simp)⟩
theorem RowOf.push {w : World} {vs : List Value} {ss : List (List Int)} {S : Option Addr} {s : List Int} {c : Nat} (h : RowOf w vs ss) (hI : Ints .i64 w S s) (h1 : s.length ≤ c) (h2 : c ≤ 9223372036854775807) : RowOf w (vs ++ [.slice S s.length c]) (ss ++ [s]) := by
  refine ⟨by simp [h.1], fun j hj => ?_⟩
  simp at hj
  by_cases e : j < ss.length
  · obtain ⟨S', c', e1, e2⟩ := h.2 j e
    refine ⟨S', c', ?_, ?_⟩
    · rw [List.getElem?_append_left (by rw [h.1]; exact e), e1]; simp [e]
    · simpa [e] using e2
  · obtain rfl : j = ss.length := by omega
    refine ⟨S, c, ?_, ?_⟩
    · rw [List.getElem?_append_right (by have := h.1; omega)]; simp [h.1]
    · simp; exact ⟨hI, h1, h2⟩
theorem RowOf.below {w w' : World} {vs : List Value} {ss : List (List Int)} {B : Nat} (h : RowOf w vs ss) (hb : Below B w w') (hB : w.heap.size ≤ B) : RowOf w' vs ss :=
  ⟨h.1, fun j hj => by obtain ⟨S, c, e1, e2, e3⟩ := h.2 j hj; exact ⟨S, c, e1, e2.below hb hB, e3⟩⟩
/-- A row of the call's own, of slices that were there, is a slice of shapes. -/
theorem RowOf.shps {w w' : World} {vs : List Value} {ss : List (List Int)} {B n : Nat} {t : TypeId} {v : Value} (h : RowOf w vs ss) (hown : w'.ownsRow B t 1 v n vs) (hb : Below w.heap.size w w') :
    ∃ A c, v = .slice A ss.length c ∧ n = ss.length ∧ Shps w' A ss ∧ ss.length ≤ c ∧ c ≤ 9223372036854775807 := by
  have hn : n = ss.length := by have := hown.1; have := h.1; omega
  subst hn
  rcases hown.2 with ⟨rfl, h0⟩ | ⟨g, cap, cur, rfl, hB, hh, r1, r2, r3, r4⟩
  · have : ss = [] := List.eq_nil_of_length_eq_zero h0
    subst this
    exact ⟨none, 0, rfl, rfl, Shps.nil, by simp, by omega⟩
  · refine ⟨_, cap, rfl, rfl, fun j hj => ?_, r1, by unfold maxLen at r2; omega⟩
    obtain ⟨S, c, e1, e2, e3⟩ := h.2 j hj
    refine ⟨g, 0, S, c, rfl, lt_of_block hh, ?_, e2.below hb (Nat.le_refl _), e3⟩
    rw [Nat.zero_add, hown.cellAt j (by omega)]
    exact e1
theorem shpsT_info : (Try.prog.info? 22).map (fun i => (i.zero, i.size, i.bytes)) = some (some (.slice none 0 0), 1, 24) := by kernel_rfl
theorem pick_take (sh : List (List Int)) (l : List Int) {k : Nat} (hk : k < l.length) : Nt.pick sh (l.take (k + 1)) = Nt.pick sh (l.take k) ++ [sh.getD l[k].toNat []] := by
  unfold Nt.pick
  rw [List.take_succ_eq_append_getElem hk, List.map_append]
  rfl
theorem node_cells10 {W : World} {g : Nat} {t : TypeId} {v : NodeD} {S J Q : Option Addr} {c ic qc : Nat} (h : Blk W g t #[.int .i64 v.op.kind, .int .i64 v.op.k, .int .i64 v.op.width, .int .i64 v.op.step, .int .i64 v.op.side, .int .i64 v.op.frm, .int .i64 v.op.to, .slice S v.op.s.length c, .slice J v.ins.length ic, .slice Q v.p.length qc]) :
    W.cell? ⟨g, 0, none⟩ = some (.int .i64 v.op.kind) ∧ W.cell? ⟨g, 1, none⟩ = some (.int .i64 v.op.k) ∧ W.cell? ⟨g, 2, none⟩ = some (.int .i64 v.op.width) ∧ W.cell? ⟨g, 3, none⟩ = some (.int .i64 v.op.step) ∧ W.cell? ⟨g, 4, none⟩ = some (.int .i64 v.op.side) ∧ W.cell? ⟨g, 5, none⟩ = some (.int .i64 v.op.frm) ∧ W.cell? ⟨g, 6, none⟩ = some (.int .i64 v.op.to) ∧ W.cell? ⟨g, 7, none⟩ = some (.slice S v.op.s.length c) ∧ W.cell? ⟨g, 8, none⟩ = some (.slice J v.ins.length ic) ∧ W.cell? ⟨g, 9, none⟩ = some (.slice Q v.p.length qc) :=
  ⟨h.cell 0, h.cell 1, h.cell 2, h.cell 3, h.cell 4, h.cell 5, h.cell 6, h.cell 7, h.cell 8, h.cell 9⟩
set_option maxRecDepth 20000 in
set_option maxHeartbeats 8000000 in
theorem ref11_shape (v : NodeD) (S J Q : Option Addr) (c ic qc g gc : Nat) (sh : List (List Int)) (w : World) (hok : v.ok) (hr : Od.right v.op = true) (hsc : v.op.s.length ≤ c) (hsm : c ≤ 9223372036854775807) (hS : Ints .i64 w S v.op.s) (hJ : Ints .i64 w J v.ins) (hQ : Shps w Q v.p) (hX : Shps w (some ⟨g, 0, none⟩) sh)
    (hin : ∀ i ∈ v.ins, 0 ≤ i ∧ i.toNat < sh.length ∧ Sh.right (sh.getD i.toNat []) = true) :
    Calls Try.prog 40 #[.agg #[.int .i64 v.op.kind, .int .i64 v.op.k, .int .i64 v.op.width, .int .i64 v.op.step, .int .i64 v.op.side, .int .i64 v.op.frm, .int .i64 v.op.to, .slice S v.op.s.length c, .slice J v.ins.length ic, .slice Q v.p.length qc], .slice (some ⟨g, 0, none⟩) sh.length gc] w (RefP (Od.shape v.op v.p (Nt.pick sh v.ins)) w) := by
  obtain ⟨i1, hj, hy0, hy1, hy2⟩ := info_parts shpsT_info
  have hb0 : Below w.heap.size w (w.alloc (.cells #[.int .i64 v.op.kind, .int .i64 v.op.k, .int .i64 v.op.width, .int .i64 v.op.step, .int .i64 v.op.side, .int .i64 v.op.frm, .int .i64 v.op.to, .slice S v.op.s.length c, .slice J v.ins.length ic, .slice Q v.p.length qc] 74)) := (Below.refl _ _).alloc (Nat.le_refl _) _
  have hk0 := Blk.new w 74 #[.int .i64 v.op.kind, .int .i64 v.op.k, .int .i64 v.op.width, .int .i64 v.op.step, .int .i64 v.op.side, .int .i64 v.op.frm, .int .i64 v.op.to, .slice S v.op.s.length c, .slice J v.ins.length ic, .slice Q v.p.length qc]
  obtain ⟨y0, y1, y2, y3, y4, y5, y6, y7, y8, y9⟩ := node_cells10 hk0
  have hS1 := hS.below hb0 (Nat.le_refl _)
  have hJ1 := hJ.below hb0 (Nat.le_refl _)
  have hQ1 := hQ.below hb0 (Nat.le_refl _)
  have hX1 := hX.below hb0 (Nat.le_refl _)
  have hkd := Od.right_kind hr
  have hil := hok.2.2.1
  have hpl := hok.2.2.2.1
  have hpk : (Nt.pick sh v.ins).length = v.ins.length := by simp [Nt.pick]
  have hri := refIns_right hr
  have hrp := refPar_right hr
  have hcnt : Od.counts v.op v.p.length (Nt.pick sh v.ins).length = if ((v.ins.length : Int) < Od.least v.op ∨ Od.most v.op < (v.ins.length : Int) ∨ (v.p.length : Int) ≠ Od.params v.op) then 20 else 0 := by unfold Od.counts; rw [if_pos hr, hpk]
  have hbad : Od.counts v.op v.p.length (Nt.pick sh v.ins).length = 20 → Od.shape v.op v.p (Nt.pick sh v.ins) = ([], 20) := fun h => by unfold Od.shape; rw [if_pos (by rw [h]; omega), h]
  have Hok := Lib.hid hok
  have Hr := Lib.hid hr
  have HS := Lib.hid hS
  have HJ := Lib.hid hJ
  have HQ := Lib.hid hQ
  have HX := Lib.hid hX
  have Hin := Lib.hid hin
  have HS1 := Lib.hid hS1
  have HJ1 := Lib.hid hJ1
  have HQ1 := Lib.hid hQ1
  have HX1 := Lib.hid hX1
  have Hk0 := Lib.hid hk0
  have Hpk := Lib.hid hpk
  have Hri := Lib.hid hri
  have Hrp := Lib.hid hrp
  have Hcnt := Lib.hid hcnt
  have Hbad := Lib.hid hbad
  clear hok hr hS hJ hQ hX hin hS1 hJ1 hQ1 hX1 hk0 hpk hri hrp hcnt hbad
  go_enter Try.func40, Try.ntmps40
  go_upto_region 1 with fail
  generalize w.alloc (.cells #[.int .i64 v.op.kind, .int .i64 v.op.k, .int .i64 v.op.width, .int .i64 v.op.step, .int .i64 v.op.side, .int .i64 v.op.frm, .int .i64 v.op.to, .slice S v.op.s.length c, .slice J v.ins.length ic, .slice Q v.p.length qc] 74) = w1 at *
  go_wp2_with fail
  refine (ref10_ins v.op.kind _ hkd).mono ?_
  rintro e w2 ⟨rfl, rfl⟩
  rw [Hri.out]
  have hcall := fun n : Nat => ref10_params v.op.kind (w1.drewN n)
  rw [Hrp.out] at hcall
  have hcnt := Hcnt.out
  have hmost := Od.most_le Hr.out
  have hleast := Od.least_pos Hr.out
  generalize hL : Od.least v.op = L at *
  generalize hM : Od.most v.op = M at *
  generalize hPa : Od.params v.op = PA at *
  have Hcall := Lib.hid hcall
  have HL := Lib.hid hL
  have HM := Lib.hid hM
  have HPa := Lib.hid hPa
  clear hcall hL hM hPa
  have Hcn := Lib.hid hcnt
  clear hcnt Hcnt Hri Hrp
  by_cases a1 : (v.p.length : Int) = PA
  rotate_left
  · have d1 : ((v.p.length : Int) != PA) = true := by rw [bne_iff_ne]; exact a1
    have HN := Lib.hid (Hbad.out (by rw [Hcn.out, if_pos (by omega)]))
    clear a1
    go_wp2_with fail
    go_quiet ((go_at_call 62; exact quiet_same (Hcall.out _)))
    go_wp2_with fail
    go_ret2
    exact RefP.err HN.out (Bdrawn hb0 _)
  · have d1 : ((v.p.length : Int) != PA) = false := by simp [a1]
    by_cases a2 : (v.ins.length : Int) < L
    · have d2 : decide ((v.ins.length : Int) < L) = true := by simpa using a2
      have HN := Lib.hid (Hbad.out (by rw [Hcn.out, if_pos (by omega)]))
      have Ha1 := Lib.hid a1
      clear a1
      go_wp2_with fail
      go_quiet ((go_at_call 62; exact quiet_same (Hcall.out _)))
      go_wp2_with fail
      go_ret2
      exact RefP.err HN.out (Bdrawn hb0 _)
    · have d2 : decide ((v.ins.length : Int) < L) = false := by simpa using a2
      by_cases a3 : M < (v.ins.length : Int)
      · have d3 : decide (M < (v.ins.length : Int)) = true := by simpa using a3
        have HN := Lib.hid (Hbad.out (by rw [Hcn.out, if_pos (by omega)]))
        have Ha1 := Lib.hid a1
        clear a1
        go_wp2_with fail
        go_quiet ((go_at_call 62; exact quiet_same (Hcall.out _)))
        go_wp2_with fail
        go_ret2
        exact RefP.err HN.out (Bdrawn hb0 _)
      · have d3 : decide (M < (v.ins.length : Int)) = false := by simpa using a3
        have hc0 : Od.counts v.op v.p.length (Nt.pick sh v.ins).length = 0 := by rw [Hcn.out, if_neg (by omega)]
        have hi8 : v.ins.length ≤ 8 := by omega
        have Ha1 := Lib.hid a1
        clear a1 a2 a3
        have Hc0 := Lib.hid hc0
        clear hc0
        go_wp2_with fail
        go_quiet ((go_at_call 62; exact quiet_same (Hcall.out _)))
        rename_i nq
        clear d1 d2 d3
        have hbn := Bdrawn hb0 nq
        have hS2 := HS1.out.drewN nq
        have hJ2 := HJ1.out.drewN nq
        have hQ2 := HQ1.out.drewN nq
        have hX2 := HX1.out.drewN nq
        have HS2 := Lib.hid hS2
        have HJ2 := Lib.hid hJ2
        have HQ2 := Lib.hid hQ2
        have HX2 := Lib.hid hX2
        clear hS2 hJ2 hQ2 hX2
        clear HS1 HJ1 HQ1 HX1 Hcall
        go_wp2_with fail
        go_loop [8] (fun i => ∃ k : Nat, k ≤ v.p.length ∧ i = .int .i64 (k : Int) ∧ (v.p.take k).all Sh.right = true) (fun i => v.p.length - (intOf i).toNat)
        case atStart => exact ⟨0, Nat.zero_le _, rfl, rfl⟩
        case round =>
          obtain ⟨k, hk, rfl, hall⟩ := hrel
          by_cases hlt : k < v.p.length
          · obtain ⟨b, off, Sk, ck, rfl, -, hc, hIk, hk1, hk2⟩ := HQ2.out k hlt
            have hpl2 := Hok.out.2.2.2.2.1 _ (List.getElem_mem hlt)
            have hall2 : Sh.right v.p[k] = true → (v.p.take (k + 1)).all Sh.right = true := fun h => by rw [List.take_succ_eq_append_getElem hlt, List.all_append, hall]; simp [h]
            have hnot : Sh.right v.p[k] = false → Od.shape v.op v.p (Nt.pick sh v.ins) = ([], 20) := fun h => by
              unfold Od.shape
              rw [if_neg (by rw [Hc0.out]; simp), if_neg]
              intro h2
              rw [Bool.and_eq_true] at h2
              have := List.all_eq_true.1 h2.1 _ (List.getElem_mem hlt)
              rw [h] at this
              cases this
            generalize v.p[k] = s at *
            have HIk := Lib.hid hIk
            have Hall := Lib.hid hall
            have Hall2 := Lib.hid hall2
            have Hnot := Lib.hid hnot
            clear hIk hall hall2 hnot
            go_wp2_with fail
            refine (ref03_right Sk ck s _ (by omega) HIk.out).mono ?_
            rintro e w3 ⟨rfl, rfl⟩
            by_cases hrs : Sh.right s = true
            · have HA := Lib.hid (Hall2.out hrs)
              rw [hrs]
              clear hrs
              go_wp2_with fail
              go_round
              case rel => exact ⟨k + 1, by omega, by go_num, HA.out⟩
              case measure => simp [intOf]; omega
            · have hrs' : Sh.right s = false := by simpa using hrs
              have HN := Lib.hid (Hnot.out hrs')
              rw [hrs']
              clear hrs hrs'
              go_wp2_with fail
              go_ret2
              exact RefP.err HN.out hbn
          · obtain rfl : k = v.p.length := by omega
            rw [List.take_length] at hall
            have hpr : ∀ s ∈ v.p, Sh.right s = true := List.all_eq_true.1 hall
            have hxr : ∀ s ∈ Nt.pick sh v.ins, Sh.right s = true := fun s hs => by
              obtain ⟨i, hi, rfl⟩ := List.mem_map.1 hs
              exact (Hin.out i hi).2.2
            have hsh : Od.shape v.op v.p (Nt.pick sh v.ins) = Od.byKind v.op v.p (Nt.pick sh v.ins) := Od.shape_go Hc0.out hall (List.all_eq_true.2 hxr)
            have Hall := Lib.hid hall
            have Hpr := Lib.hid hpr
            have Hxr := Lib.hid hxr
            have Hsh := Lib.hid hsh
            clear hall hpr hxr hsh
            go_wp2_with fail
            clear y0 y1 y2 y3 y4 y5 y6 y7
            obtain ⟨w2, hw2⟩ : ∃ w2, w1.drewN nq = w2 := ⟨_, rfl⟩
            have hkn : Blk w2 w.heap.size 74 #[.int .i64 v.op.kind, .int .i64 v.op.k, .int .i64 v.op.width, .int .i64 v.op.step, .int .i64 v.op.side, .int .i64 v.op.frm, .int .i64 v.op.to, .slice S v.op.s.length c, .slice J v.ins.length ic, .slice Q v.p.length qc] := by rw [← hw2]; exact Hk0.out.drewN nq
            rw [hw2] at hbn HS2 HJ2 HQ2 HX2 ⊢
            clear hw2 y8 y9 Hk0
            have Hkn := Lib.hid hkn
            clear hkn
            go_loopw [9, 10] (fun o i wx => ∃ (k : Nat) (vs : List Value), k ≤ v.ins.length ∧ i = .int .i64 (k : Int) ∧ wx.ownsRow w2.heap.size 22 1 o k vs ∧ RowOf w2 vs (Nt.pick sh (v.ins.take k)) ∧ Below w2.heap.size w2 wx) (fun _ i _ => v.ins.length - (intOf i).toNat)
            case atStart => exact ⟨0, [], Nat.zero_le _, rfl, World.ownsRow_nil _ _ _ _, RowOf.nil _, Below.refl _ _⟩
            case round =>
              obtain ⟨k, vs, hk, rfl, hown, hrow, hbx⟩ := hrel
              have hknx := Hkn.out.below hbx Hkn.out.lt
              have y8 : wr.cell? ⟨w.heap.size, 8, none⟩ = some (.slice J v.ins.length ic) := by rw [hknx.cell]; rfl
              by_cases hlt : k < v.ins.length
              · obtain ⟨Ao, co, rfl⟩ := own_form hown
                obtain ⟨b1, off1, rfl, -, hc⟩ := HJ2.out.below hbx (Nat.le_refl _) k hlt
                rw [getD_at hlt] at hc
                obtain ⟨r1, r2, r3⟩ := Hin.out _ (List.getElem_mem hlt)
                have hpt := pick_take sh v.ins hlt
                obtain ⟨u, hu⟩ : ∃ u : Nat, v.ins[k] = (u : Int) := ⟨v.ins[k].toNat, by omega⟩
                rw [hu] at hc hpt r2
                rw [Int.toNat_natCast] at hpt r2
                rw [gets_at r2] at hpt
                obtain ⟨Su, cu, yu, hIu, u1, u2⟩ := HX2.out.each r2
                rw [Nat.zero_add] at yu
                have yu' := cell_below hbx yu
                have hpush := hrow.push hIu u1 u2
                rw [← hpt] at hpush
                generalize sh[u] = s at *
                have j0 : (0 : Int) ≤ (u : Int) := by omega
                have j1 : (u : Int) < (sh.length : Int) := by omega
                have ho := ownsRow_new hown (.cells #[.slice Su s.length cu] 22)
                have hbx2 := hbx.alloc hbx.size (.cells #[.slice Su s.length cu] 22)
                have hlo : ∀ b, (Value.slice Ao k co).ownBlock = some b → w2.heap.size ≤ b := fun b hb => (hown.lt b hb).1
                have Hknx := Lib.hid hknx
                have Hrow := Lib.hid hrow
                have Hpush := Lib.hid hpush
                have Hlo := Lib.hid hlo
                have HIu := Lib.hid hIu
                have Hpt := Lib.hid hpt
                clear hknx hrow hpush hlo hIu hpt
                clear hown r1 r3 hu yu
                go_wp2_with (at_builtin; refine wpList_append_own_at _ rfl _ _ 32 rfl w2.heap.size 22 i1 (.slice none 0 0) 1 24 Try.underlying32 hj hy0 hy1 hy2 rfl (by decide) _ _ _ rfl ho ⟨wr.heap.size, 0, none⟩ 1 1 [.slice Su s.length cu] rfl rfl ?c1 (by intro u hu; simp at hu; subst hu; rfl) (by unfold maxLen; omega) (by omega) ?c2 ?_)
                first | (case c1 => exact one_new wr _ _) | skip
                case c2 => first | exact hbx2.size | (have := hbx.size; omega)
                intro v' w3 hown' hgrow _ hat
                have hb3 : Below w2.heap.size w2 w3 := hbx2.grown hgrow hbx2.size (fun b hb => Hlo.out b hb)
                have HO3 := Lib.hid hown'
                clear hown' hgrow hat ho hbx2
                go_wp2_with fail
                go_roundw
                case rel => exact ⟨k + 1, _, by omega, by go_num, HO3.out, Hpush.out, hb3⟩
                case measure => simp [intOf]; omega
              · obtain rfl : k = v.ins.length := by omega
                rw [List.take_length] at hrow
                obtain ⟨Ao, co, rfl, hno, hSo, ho1, ho2⟩ := hrow.shps hown hbx
                obtain ⟨y0, y1, y2, y3, y4, y5, y6, y7, -, y9⟩ := node_cells10 hknx
                have hw := Hok.out.1
                have hol := Hok.out.2.1
                have hcall := ref10_shape v.op S Q Ao c qc co v.p (Nt.pick sh v.ins) wr Hr.out Hc0.out (by omega) hsc hsm hw (HS2.out.below hbx (Nat.le_refl _)) (HQ2.out.below hbx (Nat.le_refl _)) hSo Hpr.out Hxr.out
                have hbz := hbn.trans (hbx.mono hbn.size)
                rw [← Hsh.out] at hcall
                generalize Od.shape v.op v.p (Nt.pick sh v.ins) = r at *
                have Hcall := Lib.hid hcall
                have Hrow := Lib.hid hrow
                have Hown := Lib.hid hown
                have HSo := Lib.hid hSo
                have Hknx := Lib.hid hknx
                have Hw := Lib.hid hw
                have Hno := Lib.hid hno
                clear hcall hrow hown hSo hknx hw hno
                go_wp2_with fail
                clear y0 y1 y2 y3 y4 y5 y6 y7 y8 y9
                refine (Hcall.out).mono ?_
                rintro e w9 ⟨S9, c9, rfl, hI9, h91, h92, hb9⟩
                have HI9 := Lib.hid hI9
                clear hI9
                have hb10 := hbz.trans (hb9.mono hbz.size)
                go_wp2_with fail
                go_ret2
                exact ⟨S9, c9, rfl, HI9.out, h91, h92, hb10⟩
end Go.Proofs.Ytjkhpbngpceenaa
