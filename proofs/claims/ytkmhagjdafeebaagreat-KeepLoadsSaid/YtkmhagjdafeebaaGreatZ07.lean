/- Lemmas for the statements of this seat: contracts of functions and the plain laws. -/
import Derived.Shelf.Spec.SlicesInsert
import Derived.Shelf.Spec.SlicesInsertGrow
import Derived.StillTailTactics
import Derived.Test.YtkmhagjdafeebaaGreatProg
import Derived.Test.YtkmhagjdafeebaaGreatZ06
set_option linter.unusedVariables false
/- Layer 10 (op): the answer's shape: contract. -/
namespace Go.Proofs.YtkmhagjdafeebaaGreat
open Go.RowKit

theorem Od.shape_bad_p {o : OpD} {p x : List (List Int)} (h : Od.counts o p.length x.length = 0) (hp : ¬ (p.all Sh.right = true ∧ x.all Sh.right = true)) : Od.shape o p x = ([], 20) := by
  unfold Od.shape
  rw [if_neg (by simp [h]), if_neg (by simpa using hp)]
theorem Od.shape_go {o : OpD} {p x : List (List Int)} (h : Od.counts o p.length x.length = 0) (hp : p.all Sh.right = true) (hx : x.all Sh.right = true) : Od.shape o p x = Od.byKind o p x := by
  unfold Od.shape
  rw [if_neg (by simp [h]), if_pos (by simp only [Bool.and_eq_true]; exact ⟨hp, hx⟩)]
theorem Od.counts_ok {o : OpD} {p x : Int} (h : Od.counts o p x = 0) : Od.right o = true ∧ Od.least o ≤ x ∧ x ≤ Od.most o ∧ p = Od.params o := by
  unfold Od.counts at h
  split at h
  · rename_i hr
    split at h
    · simp at h
    · rename_i hc; exact ⟨hr, by omega, by omega, by omega⟩
  · simp at h
theorem all_bad {ss : List (List Int)} {k : Nat} (hk : k < ss.length) (h : Sh.right ss[k] = false) : ¬ ss.all Sh.right = true := by
  rw [List.all_eq_true]
  intro q
  have := q _ (List.getElem_mem hk)
  rw [h] at this
  cases this
/-- Behind the counts: all shapes are looked at. -/
def ShpIn (w : World) (A : Option Addr) (c : Nat) (ss : List (List Int)) : Prop := Shps w A ss ∧ ss.length ≤ c ∧ c ≤ 9223372036854775807 ∧ ∀ s ∈ ss, s.length ≤ 17592186043904
theorem ShpIn.below {w w' : World} {A : Option Addr} {c B : Nat} {ss : List (List Int)} (h : ShpIn w A c ss) (hb : Below B w w') (hB : w.heap.size ≤ B) : ShpIn w' A c ss := ⟨h.1.below hb hB, h.2⟩
theorem ShpIn.at_ {w : World} {A : Option Addr} {c : Nat} {ss : List (List Int)} (h : ShpIn w A c ss) {k : Nat} (hk : k < ss.length) :
    ∃ b off S d, A = some ⟨b, off, none⟩ ∧ w.cell? ⟨b, off + k, none⟩ = some (.slice S ss[k].length d) ∧ Ints .i64 w S ss[k] ∧ ss[k].length ≤ d ∧ d ≤ 9223372036854775807 ∧ ss[k].length ≤ 17592186043904 := by
  obtain ⟨b, off, S, d, e, _, hc, h1, h2, h3⟩ := h.1 k hk
  exact ⟨b, off, S, d, e, hc, h1, h2, h3, h.2.2.2 _ (List.getElem_mem hk)⟩
theorem ShpIn.two {w : World} {A : Option Addr} {c : Nat} {ss : List (List Int)} (h : ShpIn w A c ss) (h1 : 1 < ss.length) :
    ∃ b off S d S' d', A = some ⟨b, off, none⟩ ∧ w.cell? ⟨b, off, none⟩ = some (.slice S ss[0].length d) ∧ w.cell? ⟨b, off + 1, none⟩ = some (.slice S' ss[1].length d') ∧ Ints .i64 w S ss[0] ∧ Ints .i64 w S' ss[1] ∧ ss[0].length ≤ 17592186043904 ∧ ss[1].length ≤ 17592186043904 := by
  obtain ⟨b, off, S, d, rfl, y, hI, _, _, l⟩ := h.at_ (by omega : 0 < ss.length)
  obtain ⟨b', off', S', d', e, y', hI', _, _, l'⟩ := h.at_ h1
  injection e with e
  injection e with e1 e2
  subst e1 e2
  exact ⟨b, off, S, d, S', d', rfl, y, y', hI, hI', l, l'⟩
theorem cell_below {w w' : World} {p : Addr} {v : Value} (hb : Below w.heap.size w w') (hc : w.cell? p = some v) : w'.cell? p = some v := (hb.cell (p := p) (World.block_lt_of_cell? _ _ hc)).trans hc
theorem pair_shps {w : World} {t : TypeId} {S S' : Option Addr} {d d' : Nat} {s s' : List Int} (h : Ints .i64 w S s) (h' : Ints .i64 w S' s') (l1 : s.length ≤ d) (l2 : d ≤ 9223372036854775807) (l1' : s'.length ≤ d') (l2' : d' ≤ 9223372036854775807) :
    Shps (w.alloc (.cells #[.slice S s.length d, .slice S' s'.length d'] t)) (some ⟨w.heap.size, 0, none⟩) [s, s'] := fun j hj => by
  have hk := Blk.new w t #[.slice S s.length d, .slice S' s'.length d']
  match j, hj with
  | 0, _ => exact ⟨_, _, S, d, rfl, hk.lt, by rw [hk.cell]; rfl, h.alloc _, l1, l2⟩
  | 1, _ => exact ⟨_, _, S', d', rfl, hk.lt, by rw [hk.cell]; rfl, h'.alloc _, l1', l2'⟩
theorem ShPost.pass {r r' : List Int × Int} {w wx w' : World} {S : Option Addr} {d : Nat} (he : r' = r) (hbx : Below w.heap.size w wx) (hI : Ints .i64 w' S r.1) (h1 : r.1.length ≤ d) (h2 : d ≤ 9223372036854775807) (hf : ∀ a, S = some a → wx.heap.size ≤ a.block) (hb : Below wx.heap.size wx w') :
    ShPost r' w (.returned (.tuple #[.slice S r.1.length d, .int .i64 r.2])) w' := by
  subst he
  exact ⟨S, d, rfl, hI, h1, h2, (fun a h => Nat.le_trans hbx.size (hf a h)), hbx.trans (hb.mono hbx.size)⟩
set_option maxHeartbeats 8000000 in
theorem op_shape (o : OpD) (S P X : Option Addr) (c d f : Nat) (p x : List (List Int)) (w : World) (ho : o.s.length ≤ 17592186043904) (hI : Ints .i64 w S o.s) (hP : ShpIn w P d p) (hX : ShpIn w X f x) :
    Calls Tryz.prog 86 #[.agg #[.int .i64 o.kind, .int .i64 o.k, .int .i64 o.width, .int .i64 o.step, .int .i64 o.side, .int .i64 o.frm, .int .i64 o.to, .slice S o.s.length c], .slice P p.length d, .slice X x.length f] w (ShPost (Od.shape o p x) w) := by
  have hk0 := Blk.new w 39 #[.int .i64 o.kind, .int .i64 o.k, .int .i64 o.width, .int .i64 o.step, .int .i64 o.side, .int .i64 o.frm, .int .i64 o.to, .slice S o.s.length c]
  have hb0 : Below w.heap.size w (w.alloc (.cells #[.int .i64 o.kind, .int .i64 o.k, .int .i64 o.width, .int .i64 o.step, .int .i64 o.side, .int .i64 o.frm, .int .i64 o.to, .slice S o.s.length c] 39)) := (Below.refl _ _).alloc (Nat.le_refl _) _
  have hlt0 := hk0.lt
  have hr := op_counts o S c p.length x.length (w.alloc (.cells #[.int .i64 o.kind, .int .i64 o.k, .int .i64 o.width, .int .i64 o.step, .int .i64 o.side, .int .i64 o.frm, .int .i64 o.to, .slice S o.s.length c] 39)) ho (hI.alloc _)
  have hpl : p.length ≤ 9223372036854775807 := by have := hP.2.1; have := hP.2.2.1; omega
  have hxl : x.length ≤ 9223372036854775807 := by have := hX.2.1; have := hX.2.2.1; omega
  by_cases hq : Od.counts o p.length x.length = 0
  case neg =>
    have d1 : (Od.counts o p.length x.length != 0) = true := by simp [hq]
    have HE := Lib.hid (show Od.shape o p x = ([], Od.counts o p.length x.length) by unfold Od.shape; rw [if_pos hq])
    generalize Od.counts o p.length x.length = n at *
    have Hr := Lib.hid hr
    have Hk0 := Lib.hid hk0
    have HI := Lib.hid hI
    have HP := Lib.hid hP
    have HX := Lib.hid hX
    clear hr hk0 hI hP hX
    clear hq
    go_enter Tryz.func86, Tryz.ntmps86
    go_wp2_with fail
    refine (Hr.out).mono ?_
    rintro e w1 ⟨rfl, h1⟩
    go_wp2_with fail
    go_ret2
    exact ShPost.fail HE.out (hb0.trans (h1.mono hb0.size))
  have HQ := Lib.hid hq
  rw [hq] at hr
  have Hr := Lib.hid hr
  have Hk0 := Lib.hid hk0
  have HI := Lib.hid hI
  have HP := Lib.hid hP
  have HX := Lib.hid hX
  clear hr hk0 hI hP hX
  clear hq
  go_enter Tryz.func86, Tryz.ntmps86
  go_wp2_with fail
  refine (Hr.out).mono ?_
  rintro e w1 ⟨rfl, h1⟩
  have hb1 := hb0.trans (h1.mono hb0.size)
  have HK := Lib.hid (Hk0.out.below h1 hlt0)
  clear Hk0 Hr
  go_wp2_with fail
  go_loopw [24] (fun i wr => ∃ k : Nat, k ≤ p.length ∧ i = .int .i64 k ∧ Blk wr w.heap.size 39 #[.int .i64 o.kind, .int .i64 o.k, .int .i64 o.width, .int .i64 o.step, .int .i64 o.side, .int .i64 o.frm, .int .i64 o.to, .slice S o.s.length c] ∧ Below w.heap.size w wr ∧ ∀ j (h : j < p.length), j < k → Sh.right p[j] = true) (fun i _ => p.length - (intOf i).toNat)
  case atStart => exact ⟨0, Nat.zero_le _, rfl, HK.out, hb1, fun j _ h => by omega⟩
  case round =>
    obtain ⟨k, hk, rfl, hblk, hbw, hall⟩ := hrel
    have Hblk := Lib.hid hblk
    have Hall := Lib.hid hall
    clear hblk hall
    clear HK hb1
    by_cases hlt : k < p.length
    · obtain ⟨b, off, S1, d1, rfl, y1, hI1, l1, l2, l3⟩ := (HP.out.below hbw (Nat.le_refl _)).at_ hlt
      have hcall := shape_right S1 d1 p[k] wr (by omega) hI1
      cases hrr : Sh.right p[k]
      · have HE := Lib.hid (Od.shape_bad_p (x := x) HQ.out fun q => all_bad hlt hrr q.1)
        rw [hrr] at hcall
        have Hcall := Lib.hid hcall
        have HI1 := Lib.hid hI1
        clear hcall hI1
        clear hrr
        go_wp2_with fail
        refine (Hcall.out).mono ?_
        rintro e w2 ⟨rfl, h2⟩
        go_wp2_with fail
        go_ret2
        exact ShPost.fail HE.out (hbw.trans (h2.mono hbw.size))
      · rw [hrr] at hcall
        have Hcall := Lib.hid hcall
        have HI1 := Lib.hid hI1
        have Hrr := Lib.hid hrr
        clear hcall hI1 hrr
        go_wp2_with fail
        refine (Hcall.out).mono ?_
        rintro e w2 ⟨rfl, h2⟩
        go_wp2_with fail
        go_roundw
        case rel => exact ⟨k + 1, by omega, by go_num, Hblk.out.below h2 Hblk.out.lt, hbw.trans (h2.mono hbw.size), fun j hj h => by
          by_cases e : j = k
          · subst e; exact Hrr.out
          · exact Hall.out j hj (by omega)⟩
        case measure => simp [intOf]; omega
    · obtain rfl : k = p.length := by omega
      have HPA := Lib.hid (show p.all Sh.right = true by
        rw [List.all_eq_true]
        intro s hs
        obtain ⟨j, hj, rfl⟩ := List.getElem_of_mem hs
        exact Hall.out j hj hj)
      clear Hall
      go_wp2_with fail
      go_loopw [34] (fun i wx => ∃ k : Nat, k ≤ x.length ∧ i = .int .i64 k ∧ Blk wx w.heap.size 39 #[.int .i64 o.kind, .int .i64 o.k, .int .i64 o.width, .int .i64 o.step, .int .i64 o.side, .int .i64 o.frm, .int .i64 o.to, .slice S o.s.length c] ∧ Below w.heap.size w wx ∧ ∀ j (h : j < x.length), j < k → Sh.right x[j] = true) (fun i _ => x.length - (intOf i).toNat)
      case atStart => exact ⟨0, Nat.zero_le _, rfl, Hblk.out, hbw, fun j _ h => by omega⟩
      case round =>
        obtain ⟨k, hk, rfl, hblx, hbx, hall⟩ := hrel
        have Hblx := Lib.hid hblx
        have Hall := Lib.hid hall
        clear hblx hall
        clear Hblk hbw
        by_cases hlt : k < x.length
        · obtain ⟨b, off, S1, d1, rfl, y1, hI1, l1, l2, l3⟩ := (HX.out.below hbx (Nat.le_refl _)).at_ hlt
          have hcall := shape_right S1 d1 x[k] wr (by omega) hI1
          cases hrr : Sh.right x[k]
          · have HE := Lib.hid (Od.shape_bad_p (p := p) HQ.out fun q => all_bad hlt hrr q.2)
            rw [hrr] at hcall
            have Hcall := Lib.hid hcall
            have HI1 := Lib.hid hI1
            clear hcall hI1
            clear hrr
            go_wp2_with fail
            refine (Hcall.out).mono ?_
            rintro e w2 ⟨rfl, h2⟩
            go_wp2_with fail
            go_ret2
            exact ShPost.fail HE.out (hbx.trans (h2.mono hbx.size))
          · rw [hrr] at hcall
            have Hcall := Lib.hid hcall
            have HI1 := Lib.hid hI1
            have Hrr := Lib.hid hrr
            clear hcall hI1 hrr
            go_wp2_with fail
            refine (Hcall.out).mono ?_
            rintro e w2 ⟨rfl, h2⟩
            go_wp2_with fail
            go_roundw
            case rel => exact ⟨k + 1, by omega, by go_num, Hblx.out.below h2 Hblx.out.lt, hbx.trans (h2.mono hbx.size), fun j hj h => by
              by_cases e : j = k
              · subst e; exact Hrr.out
              · exact Hall.out j hj (by omega)⟩
            case measure => simp [intOf]; omega
        · obtain rfl : k = x.length := by omega
          have hgo := Od.shape_go HQ.out HPA.out (show x.all Sh.right = true by
            rw [List.all_eq_true]
            intro s hs
            obtain ⟨j, hj, rfl⟩ := List.getElem_of_mem hs
            exact Hall.out j hj hj)
          clear Hall HPA
          obtain ⟨q1, q2, q3, q4⟩ := Od.counts_ok HQ.out
          have hkind := Od.right_kind q1
          have hleast := Od.least_pos q1
          have hpar : Od.params o = if o.kind = 8 then 2 else if o.kind = 9 ∨ o.kind = 10 then 1 else 0 := by unfold Od.params; rw [if_pos q1]
          have hx0 : 0 < x.length := by omega
          obtain ⟨b, off, S1, d1, rfl, y1, hI1, l1, l2, l3⟩ := (HX.out.below hbx (Nat.le_refl _)).at_ hx0
          obtain ⟨x0, x1, x2, x3, x4, x5, x6, x7⟩ := op_cells Hblx.out
          rw [Nat.add_zero] at y1
          have f0 : (0 : Int) < x.length := by omega
          by_cases k8 : o.kind = 8
          · have hidk := Lib.hid k8
            have hp2 : p.length = 2 := by simp only [hpar] at q4; split at q4 <;> omega
            have hp0 : 0 < p.length := by omega
            have g0 : (0 : Int) < p.length := by omega
            have hp1 : 1 < p.length := by omega
            have g1 : (1 : Int) < p.length := by omega
            obtain ⟨b', off', S2, d2, S3, d3, rfl, y2, y3, hI2, hI3, m3, n3⟩ := (HP.out.below hbx (Nat.le_refl _)).two hp1
            have HE := Lib.hid (show Od.shape o p x = Od.dense p[0] p[1] x[0] by rw [hgo]; unfold Od.byKind; rw [if_pos k8, gets_at hp0, gets_at hp1, gets_at hx0])
            have hself : Below wr.heap.size wr wr.drew := (Below.refl _ _).drew
            have hkeep : ∀ W, Below wr.heap.size wr W → W.cell? ⟨b', off', none⟩ = some (.slice S2 p[0].length d2) ∧ W.cell? ⟨b', off' + 1, none⟩ = some (.slice S3 p[1].length d3) ∧ W.cell? ⟨b, off, none⟩ = some (.slice S1 x[0].length d1) := fun W hW => ⟨cell_below hW y2, cell_below hW y3, cell_below hW y1⟩
            have Hkeep := Lib.hid hkeep
            clear hkeep
            have HI1 := Lib.hid hI1
            have HI2 := Lib.hid hI2
            have HI3 := Lib.hid hI3
            clear hI1 hI2 hI3
            clear hgo hkind hleast q1 q2 q3 q4 hpar hp2
            skip
            all_goals
              rw [k8] at x0
              clear k8 hidk
              go_wp2_with fail
              go_region_held3 (fun W => W.cell? ⟨b', off', none⟩ = some (.slice S2 p[0].length d2) ∧ W.cell? ⟨b', off' + 1, none⟩ = some (.slice S3 p[1].length d3) ∧ W.cell? ⟨b, off, none⟩ = some (.slice S1 x[0].length d1)) (first | exact Hkeep.out _ hb5 | exact Hkeep.out _ hself)
                ((go_at_call 94; refine (op_dense S2 S3 S1 d2 d3 d1 p[0] p[1] x[0] _ l3 (HI2.out.below hself (Nat.le_refl _)) (HI3.out.below hself (Nat.le_refl _)) (HI1.out.below hself (Nat.le_refl _))).mono ?_; rintro e w3 ⟨S5, d5, rfl, hI5, r1, r2, hf5, hb5⟩; have hb5 := hself.trans hb5; have HI5 := Lib.hid hI5; clear hI5))
              all_goals
                go_wp2_with fail
                go_ret2
                exact ShPost.pass HE.out hbx HI5.out r1 r2 hf5 hb5
          by_cases k10 : o.kind = 10
          · have hidk := Lib.hid k10
            have hpx : p.length = 1 := by simp only [hpar] at q4; split at q4 <;> omega
            have hp0 : 0 < p.length := by omega
            have g0 : (0 : Int) < p.length := by omega
            obtain ⟨b', off', S2, d2, rfl, y2, hI2, m1, m2, m3⟩ := (HP.out.below hbx (Nat.le_refl _)).at_ hp0
            rw [Nat.add_zero] at y2
            have HE := Lib.hid (show Od.shape o p x = Od.conv p[0] x[0] o.step by rw [hgo]; unfold Od.byKind; rw [if_neg (by omega), if_neg (by omega), if_pos k10, gets_at hp0, gets_at hx0])
            have hself : Below wr.heap.size wr wr.drew := (Below.refl _ _).drew
            have hkeep : ∀ W, Below wr.heap.size wr W → W.cell? ⟨b', off', none⟩ = some (.slice S2 p[0].length d2) ∧ W.cell? ⟨b, off, none⟩ = some (.slice S1 x[0].length d1) ∧ W.cell? ⟨w.heap.size, 3, none⟩ = some (.int .i64 o.step) := fun W hW => ⟨cell_below hW y2, cell_below hW y1, cell_below hW x3⟩
            have Hkeep := Lib.hid hkeep
            clear hkeep
            have HI1 := Lib.hid hI1
            have HI2 := Lib.hid hI2
            clear hI1 hI2
            clear hgo hkind hleast q1 q2 q3 q4 hpar hpx
            skip
            all_goals
              rw [k10] at x0
              clear k10 hidk
              go_wp2_with fail
              go_region_held3 (fun W => W.cell? ⟨b', off', none⟩ = some (.slice S2 p[0].length d2) ∧ W.cell? ⟨b, off, none⟩ = some (.slice S1 x[0].length d1) ∧ W.cell? ⟨w.heap.size, 3, none⟩ = some (.int .i64 o.step)) (first | exact Hkeep.out _ hb5 | exact Hkeep.out _ hself)
                ((go_at_call 96; refine (conv_shape S2 S1 d2 d1 p[0] x[0] o.step _ m3 l3 l1 l2 (HI2.out.below hself (Nat.le_refl _)) (HI1.out.below hself (Nat.le_refl _))).mono ?_; rintro e w3 ⟨S5, d5, rfl, hI5, r1, r2, hf5, hb5⟩; have hb5 := hself.trans hb5; have HI5 := Lib.hid hI5; clear hI5))
              all_goals
                go_wp2_with fail
                go_ret2
                exact ShPost.pass HE.out hbx HI5.out r1 r2 hf5 hb5
          by_cases k11 : o.kind = 11 ∨ o.kind = 12
          · have hidk := Lib.hid k11
            have HE := Lib.hid (show Od.shape o p x = Od.pool x[0] o.width o.step by rw [hgo]; unfold Od.byKind; rw [if_neg (by omega), if_neg (by omega), if_neg (by omega), if_pos (by omega), gets_at hx0])
            have hself : Below wr.heap.size wr wr.drew := (Below.refl _ _).drew
            have hkeep : ∀ W, Below wr.heap.size wr W → W.cell? ⟨b, off, none⟩ = some (.slice S1 x[0].length d1) ∧ W.cell? ⟨w.heap.size, 2, none⟩ = some (.int .i64 o.width) ∧ W.cell? ⟨w.heap.size, 3, none⟩ = some (.int .i64 o.step) := fun W hW => ⟨cell_below hW y1, cell_below hW x2, cell_below hW x3⟩
            have Hkeep := Lib.hid hkeep
            clear hkeep
            have HI1 := Lib.hid hI1
            clear hI1
            clear hgo hkind hleast q1 q2 q3 q4 hpar
            rcases k11 with k11 | k11
            all_goals
              rw [k11] at x0
              clear k11 hidk
              go_wp2_with fail
              go_region_held3 (fun W => W.cell? ⟨b, off, none⟩ = some (.slice S1 x[0].length d1) ∧ W.cell? ⟨w.heap.size, 2, none⟩ = some (.int .i64 o.width) ∧ W.cell? ⟨w.heap.size, 3, none⟩ = some (.int .i64 o.step)) (first | exact Hkeep.out _ hb5 | exact Hkeep.out _ hself)
                ((go_at_call 97; refine (pool_shape S1 d1 x[0] o.width o.step _ l3 (HI1.out.below hself (Nat.le_refl _))).mono ?_; rintro e w3 ⟨S5, d5, rfl, hI5, r1, r2, hf5, hb5⟩; have hb5 := hself.trans hb5; have HI5 := Lib.hid hI5; clear hI5))
              all_goals
                go_wp2_with fail
                go_ret2
                exact ShPost.pass HE.out hbx HI5.out r1 r2 hf5 hb5
          by_cases k13 : o.kind = 13
          · have hidk := Lib.hid k13
            have HE := Lib.hid (show Od.shape o p x = Od.joined o.side x by rw [hgo]; unfold Od.byKind; rw [if_neg (by omega), if_neg (by omega), if_neg (by omega), if_neg (by omega), if_pos (by omega)])
            have hself : Below wr.heap.size wr wr.drew := (Below.refl _ _).drew
            have HI1 := Lib.hid hI1
            clear hI1
            clear hgo hkind hleast q1 q2 q3 q4 hpar
            skip
            all_goals
              rw [k13] at x0
              clear k13 hidk
              go_wp2_with fail
              refine (op_joined _ f o.side x _ hx0 (HX.out.2.1) (HX.out.2.2.1) (HX.out.below hbx (Nat.le_refl _)).1 HX.out.2.2.2).mono ?_
              rintro e w3 ⟨S5, d5, rfl, hI5, r1, r2, hf5, hb5⟩
              have HI5 := Lib.hid hI5
              clear hI5
              go_wp2_with fail
              go_ret2
              exact ShPost.pass HE.out hbx HI5.out r1 r2 hf5 hb5
          by_cases k14 : o.kind = 14
          · have hidk := Lib.hid k14
            have HE := Lib.hid (show Od.shape o p x = Od.cut x[0] o.side o.frm o.to by rw [hgo]; unfold Od.byKind; rw [if_neg (by omega), if_neg (by omega), if_neg (by omega), if_neg (by omega), if_neg (by omega), if_pos (by omega), gets_at hx0])
            have hself : Below wr.heap.size wr wr.drew := (Below.refl _ _).drew
            have hkeep : ∀ W, Below wr.heap.size wr W → W.cell? ⟨b, off, none⟩ = some (.slice S1 x[0].length d1) ∧ W.cell? ⟨w.heap.size, 4, none⟩ = some (.int .i64 o.side) ∧ W.cell? ⟨w.heap.size, 5, none⟩ = some (.int .i64 o.frm) ∧ W.cell? ⟨w.heap.size, 6, none⟩ = some (.int .i64 o.to) := fun W hW => ⟨cell_below hW y1, cell_below hW x4, cell_below hW x5, cell_below hW x6⟩
            have Hkeep := Lib.hid hkeep
            clear hkeep
            have HI1 := Lib.hid hI1
            clear hI1
            clear hgo hkind hleast q1 q2 q3 q4 hpar
            skip
            all_goals
              rw [k14] at x0
              clear k14 hidk
              go_wp2_with fail
              go_region_held3 (fun W => W.cell? ⟨b, off, none⟩ = some (.slice S1 x[0].length d1) ∧ W.cell? ⟨w.heap.size, 4, none⟩ = some (.int .i64 o.side) ∧ W.cell? ⟨w.heap.size, 5, none⟩ = some (.int .i64 o.frm) ∧ W.cell? ⟨w.heap.size, 6, none⟩ = some (.int .i64 o.to)) (first | exact Hkeep.out _ hb5 | exact Hkeep.out _ hself)
                ((go_at_call 99; refine (shape_cut S1 d1 x[0] o.side o.frm o.to _ l3 (HI1.out.below hself (Nat.le_refl _))).mono ?_; rintro e w3 ⟨S5, d5, rfl, hI5, r1, r2, hf5, hb5⟩; have hb5 := hself.trans hb5; have HI5 := Lib.hid hI5; clear hI5))
              all_goals
                go_wp2_with fail
                go_ret2
                exact ShPost.pass HE.out hbx HI5.out r1 r2 hf5 hb5
          by_cases k15 : o.kind = 15
          · have hidk := Lib.hid k15
            have HE := Lib.hid (show Od.shape o p x = Od.turned x[0] o.s by rw [hgo]; unfold Od.byKind; rw [if_neg (by omega), if_neg (by omega), if_neg (by omega), if_neg (by omega), if_neg (by omega), if_neg (by omega), if_pos (by omega), gets_at hx0])
            have hself : Below wr.heap.size wr wr.drew := (Below.refl _ _).drew
            have hkeep : ∀ W, Below wr.heap.size wr W → W.cell? ⟨b, off, none⟩ = some (.slice S1 x[0].length d1) ∧ W.cell? ⟨w.heap.size, 7, none⟩ = some (.slice S o.s.length c) := fun W hW => ⟨cell_below hW y1, cell_below hW x7⟩
            have Hkeep := Lib.hid hkeep
            clear hkeep
            have HI1 := Lib.hid hI1
            clear hI1
            clear hgo hkind hleast q1 q2 q3 q4 hpar
            skip
            all_goals
              rw [k15] at x0
              clear k15 hidk
              go_wp2_with fail
              go_region_held3 (fun W => W.cell? ⟨b, off, none⟩ = some (.slice S1 x[0].length d1) ∧ W.cell? ⟨w.heap.size, 7, none⟩ = some (.slice S o.s.length c)) (first | exact Hkeep.out _ hb5 | exact Hkeep.out _ hself)
                ((go_at_call 100; refine (op_turned S1 S d1 c x[0] o.s _ l3 ho (HI1.out.below hself (Nat.le_refl _)) (HI.out.below (hbx.trans (hself.mono hbx.size)) (Nat.le_refl _))).mono ?_; rintro e w3 ⟨S5, d5, rfl, hI5, r1, r2, hf5, hb5⟩; have hb5 := hself.trans hb5; have HI5 := Lib.hid hI5; clear hI5))
              all_goals
                go_wp2_with fail
                go_ret2
                exact ShPost.pass HE.out hbx HI5.out r1 r2 hf5 hb5
          by_cases k9 : o.kind = 9
          · have hpx : p.length = 1 := by simp only [hpar] at q4; split at q4 <;> omega
            have hp0 : 0 < p.length := by omega
            have g0 : (0 : Int) < p.length := by omega
            obtain ⟨b', off', S2, d2, rfl, y2, hI2, m1, m2, m3⟩ := (HP.out.below hbx (Nat.le_refl _)).at_ hp0
            rw [Nat.add_zero] at y2
            have HE := Lib.hid (show Od.shape o p x = Od.same [p[0], x[0]] by rw [hgo]; unfold Od.byKind; rw [if_neg (by omega), if_pos k9, gets_at hp0, gets_at hx0])
            have hself : Below wr.heap.size wr wr.drew := (Below.refl _ _).drew
            have hkeep : ∀ W, Below wr.heap.size wr W → W.cell? ⟨b', off', none⟩ = some (.slice S2 p[0].length d2) ∧ W.cell? ⟨b, off, none⟩ = some (.slice S1 x[0].length d1) := fun W hW => ⟨cell_below hW y2, cell_below hW y1⟩
            rw [k9] at x0
            have Hkeep := Lib.hid hkeep
            have HI1 := Lib.hid hI1
            have HI2 := Lib.hid hI2
            have Hk9 := Lib.hid k9
            clear hkeep hI1 hI2 k9
            clear hgo hkind hleast q1 q2 q3 q4 hpar hpx
            have hal : Below wr.heap.size wr (wr.drew.alloc (.cells #[.slice S2 p[0].length d2, .slice S1 x[0].length d1] 23)) := hself.alloc (Nat.le_refl _) _
            have hpair := pair_shps (t := 23) (HI2.out.below hself (Nat.le_refl _)) (HI1.out.below hself (Nat.le_refl _)) m1 m2 l1 l2
            have hsame := op_same (some ⟨wr.drew.heap.size, 0, none⟩) 2 [p[0], x[0]] _ (by simp) (by simp) (by omega) hpair (by simp [m3, l3])
            have Hpair := Lib.hid hpair
            have Hsame := Lib.hid hsame
            clear hpair hsame
            go_wp2_with fail
            go_region_held3 (fun W => W.cell? ⟨b', off', none⟩ = some (.slice S2 p[0].length d2) ∧ W.cell? ⟨b, off, none⟩ = some (.slice S1 x[0].length d1)) (first | exact Hkeep.out _ hb5 | exact Hkeep.out _ hal | exact Hkeep.out _ hself)
              ((go_at_call 95; refine (Hsame.out).mono ?_; rintro e w3 ⟨S5, d5, rfl, hI5, r1, r2, hf5, hb5⟩; have hb6 := hb5; have hb5 := hal.trans (hb5.mono hal.size); have HI5 := Lib.hid hI5; clear hI5))
            all_goals
              go_wp2_with fail
              go_ret2
              exact ShPost.pass HE.out (hbx.trans (hal.mono hbx.size)) HI5.out r1 r2 hf5 hb6
          have HE := Lib.hid (show Od.shape o p x = Od.same x by rw [hgo]; unfold Od.byKind; rw [if_neg (by omega), if_neg (by omega), if_neg (by omega), if_neg (by omega), if_neg (by omega), if_neg (by omega), if_neg (by omega)])
          have n8 : (o.kind == 8) = false := by simp; omega
          have n9 : (o.kind == 9) = false := by simp; omega
          have n10 : (o.kind == 10) = false := by simp; omega
          have n11 : (o.kind == 11) = false := by simp; omega
          have n12 : (o.kind == 12) = false := by simp; omega
          have n13 : (o.kind == 13) = false := by simp; omega
          have n14 : (o.kind == 14) = false := by simp; omega
          have n15 : (o.kind == 15) = false := by simp; omega
          clear hgo hkind hleast q1 q2 q3 q4 hpar hI1 k8 k9 k10 k11 k13 k14 k15
          go_wp2_with fail
          refine (op_same _ f x _ hx0 (HX.out.2.1) (HX.out.2.2.1) (HX.out.below hbx (Nat.le_refl _)).1 HX.out.2.2.2).mono ?_
          rintro e w3 ⟨S5, d5, rfl, hI5, r1, r2, hf5, hb5⟩
          have HI5 := Lib.hid hI5
          clear hI5
          go_wp2_with fail
          go_ret2
          exact ShPost.pass HE.out hbx HI5.out r1 r2 hf5 hb5
end Go.Proofs.YtkmhagjdafeebaaGreat
/- Layer 11 (net): which number nobody uses: contract. -/
namespace Go.Proofs.YtkmhagjdafeebaaGreat
open Go.RowKit

/-- The net's rows are of a length that can be gone through. -/
def NodeD.ok (v : NodeD) : Prop := v.op.wide ∧ v.op.s.length ≤ 1048576 ∧ v.ins.length ≤ 1048576 ∧ v.p.length ≤ 1048576 ∧ (∀ s ∈ v.p, s.length ≤ 1048576) ∧ ∀ z ∈ v.ins, -9223372036854775808 ≤ z ∧ z ≤ 9223372036854775807
def NetD.ok (n : NetD) : Prop := n.inn.length ≤ 1048576 ∧ n.nodes.length ≤ 1048576 ∧ ∀ v ∈ n.nodes, v.ok

/-- One node's cells, from the place o of block b on. -/
def NodeAt (w : World) (b o : Nat) (v : NodeD) (S : Option Addr) (c : Nat) (I : Option Addr) (d : Nat) (Q : Option Addr) (q : Nat) : Prop :=
    (w.cell? ⟨b, o, none⟩ = some (.int .i64 v.op.kind) ∧ w.cell? ⟨b, o + 1, none⟩ = some (.int .i64 v.op.k) ∧ w.cell? ⟨b, o + 2, none⟩ = some (.int .i64 v.op.width) ∧
    w.cell? ⟨b, o + 3, none⟩ = some (.int .i64 v.op.step) ∧ w.cell? ⟨b, o + 4, none⟩ = some (.int .i64 v.op.side) ∧ w.cell? ⟨b, o + 5, none⟩ = some (.int .i64 v.op.frm) ∧
    w.cell? ⟨b, o + 6, none⟩ = some (.int .i64 v.op.to) ∧ w.cell? ⟨b, o + 7, none⟩ = some (.slice S v.op.s.length c) ∧
    w.cell? ⟨b, o + 8, none⟩ = some (.slice I v.ins.length d) ∧ w.cell? ⟨b, o + 9, none⟩ = some (.slice Q v.p.length q)) ∧
    Ints .i64 w S v.op.s ∧ Ints .i64 w I v.ins ∧ Shps w Q v.p
theorem NodeAt.below {w w' : World} {b o : Nat} {v : NodeD} {S : Option Addr} {c : Nat} {I : Option Addr} {d : Nat} {Q : Option Addr} {q : Nat} (h : NodeAt w b o v S c I d Q q) (hb : Below w.heap.size w w') : NodeAt w' b o v S c I d Q q := by
  obtain ⟨⟨y0, y1, y2, y3, y4, y5, y6, y7, y8, y9⟩, h1, h2, h3⟩ := h
  exact ⟨⟨cell_below hb y0, cell_below hb y1, cell_below hb y2, cell_below hb y3, cell_below hb y4, cell_below hb y5, cell_below hb y6, cell_below hb y7, cell_below hb y8, cell_below hb y9⟩, h1.below hb (Nat.le_refl _), h2.below hb (Nat.le_refl _), h3.below hb (Nat.le_refl _)⟩
theorem Nodes.at_ {w : World} {A : Option Addr} {ns : List NodeD} (h : Nodes w A ns) {j : Nat} (hj : j < ns.length) :
    ∃ b off S c I d Q q, A = some ⟨b, off, none⟩ ∧ NodeAt w b (off + j * 10) ns[j] S c I d Q q ∧ (ns[j].op.s.length ≤ c ∧ c ≤ 9223372036854775807) ∧ (ns[j].ins.length ≤ d ∧ d ≤ 9223372036854775807) ∧ (ns[j].p.length ≤ q ∧ q ≤ 9223372036854775807) := by
  obtain ⟨b, off, S, c, I, d, Q, q, e, _, y0, y1, y2, y3, y4, y5, y6, y7, y8, y9, ⟨h1, h1'⟩, ⟨h2, h2'⟩, h3, h3'⟩ := h j hj
  exact ⟨b, off, S, c, I, d, Q, q, e, ⟨⟨y0, y1, y2, y3, y4, y5, y6, y7, y8, y9⟩, h1, h2, h3⟩, h1', h2', h3'⟩

namespace Nt
/-- What is used by the first k nodes, and by the ins l of the next one. -/
def usedMid (ns : List NodeD) (n k : Nat) (l : List Int) : List Bool := (nums n).map fun id => isUsed (ns.take k) id || l.contains id
theorem usedMid_len (ns : List NodeD) (n k : Nat) (l : List Int) : (usedMid ns n k l).length = n + 1 := by simp [usedMid, nums]
theorem usedMid_zero (ns : List NodeD) (n : Nat) : usedMid ns n 0 [] = List.replicate (n + 1) false := by
  unfold usedMid
  rw [List.eq_replicate_iff]
  refine ⟨by simp [nums], fun b hb => ?_⟩
  obtain ⟨x, _, rfl⟩ := List.mem_map.1 hb
  simp [isUsed]
theorem usedMid_next (ns : List NodeD) (n : Nat) {k : Nat} (hk : k < ns.length) : usedMid ns n k ns[k].ins = usedMid ns n (k + 1) [] := by
  unfold usedMid
  apply List.map_congr_left
  intro id _
  rw [List.take_succ_eq_append_getElem hk]
  simp only [isUsed, List.any_append, List.any_cons, List.any_nil, List.contains_nil, Bool.or_false]
theorem usedMid_in (ns : List NodeD) (n k : Nat) (l : List Int) {id : Int} (h0 : 0 ≤ id) (h1 : id ≤ n) : usedMid ns n k (l ++ [id]) = (usedMid ns n k l).set id.toNat true := by
  apply List.ext_getElem?
  intro j
  rw [List.getElem?_set]
  unfold usedMid nums
  simp only [List.map_map, List.getElem?_map, List.length_map, List.length_range]
  by_cases hj : j < n + 1
  · rw [List.getElem?_range hj]
    by_cases e : id.toNat = j
    · subst e
      have : ((id.toNat : Nat) : Int) = id := by omega
      simp [hj, this]
    · have e2 : (j : Int) ≠ id := by omega
      simp [e, e2]
  · rw [List.getElem?_eq_none (by simp; omega)]
    simp
    intro q; omega
theorem usedMid_all (ns : List NodeD) : usedMid ns ns.length ns.length [] = (nums ns.length).map (isUsed ns) := by
  unfold usedMid
  apply List.map_congr_left
  intro id _
  simp
/-- The unused ones of the first numbers. -/
def unusedTo (ns : List NodeD) (k : Nat) : List Int := ((List.range k).map fun i : Nat => (i : Int)).filter fun id => !isUsed ns id
theorem unusedTo_succ (ns : List NodeD) (k : Nat) : unusedTo ns (k + 1) = if isUsed ns k then unusedTo ns k else unusedTo ns k ++ [(k : Int)] := by
  unfold unusedTo
  rw [List.range_succ, List.map_append, List.filter_append]
  cases h : isUsed ns k <;> simp [h]
theorem unusedTo_all (ns : List NodeD) : unusedTo ns (ns.length + 1) = unused ns := rfl
theorem unusedTo_len (ns : List NodeD) (k : Nat) : (unusedTo ns k).length ≤ k := by
  unfold unusedTo
  exact Nat.le_trans (List.length_filter_le _ _) (by simp)
end Nt
theorem bool_info : (Tryz.prog.info? 4).map (fun i => (i.zero, i.size, i.bytes)) = some (some (.bool false), 1, 1) := by kernel_rfl
theorem made_one (v : Value) (n : Nat) : (madeCells #[v] n).toList = List.replicate n v := by
  rw [List.eq_replicate_iff]
  refine ⟨by simp [madeCells], fun b hb => ?_⟩
  simp [madeCells] at hb
  obtain ⟨x, _, rfl⟩ := hb
  simp [Nat.mod_one]

set_option maxRecDepth 20000 in
set_option maxHeartbeats 8000000 in
theorem net_unused (A N : Option Addr) (c d : Nat) (n : NetD) (w : World) (hok : n.ok) (hR : NetR w A N n) (hd : n.nodes.length ≤ d) (hins : ∀ v ∈ n.nodes, ∀ i ∈ v.ins, 0 ≤ i ∧ i ≤ n.nodes.length) :
    Calls Tryz.prog 79 #[.agg #[.slice A n.inn.length c, .slice N n.nodes.length d]] w fun e w' => e = .returned (.tuple #[.int .i64 (Nt.loss n.nodes), .bool (Nt.lossOk n.nodes)]) ∧ Below w.heap.size w w' := by
  obtain ⟨i0, hi, hz0, hz1, hz2⟩ := info_parts bool_info
  have hnl := hok.2.1
  have hokn := hok.2.2
  have HR := Lib.hid hR
  have Hins := Lib.hid hins
  have Hokn := Lib.hid hokn
  clear hR hins hokn
  clear hok
  have e1 : IntKind.i64.wrap ((n.nodes.length : Int) + 1) = ((n.nodes.length + 1 : Nat) : Int) := by rw [IntWalk.i64_in _ (by omega)]; omega
  go_enter Tryz.func79, Tryz.ntmps79
  go_wp2_with (at_make; refine wpList_make_full _ rfl _ _ 168 rfl w.heap.size 4 i0 (.bool false) 1 Tryz.underlying168 hi hz0 hz1 _ _ _ _ (n.nodes.length + 1) rfl rfl (by first | rfl | simp | (go_simp; rfl)) (by first | rfl | simp | (go_simp; rfl)) ?b2 ?b3 ?b4 ?_)
  case b2 => rw [hz2]; omega
  case b3 => unfold maxLen; omega
  case b4 => simp
  intro w1 hown hgrow
  have hblk := own_cur hown
  rw [made_one] at hblk
  have hk1 : Blk w1 (w.heap.size + 1) 4 ((Nt.usedMid n.nodes n.nodes.length 0 []).map Value.bool).toArray := by
    rw [Nt.usedMid_zero, List.map_replicate]
    simpa [Blk] using hblk
  have hb1 : Below w.heap.size w w1 := ((Below.refl _ w).alloc (Nat.le_refl _) _).grown hgrow (by simp) (by simp)
  have hx1 : w1.cell? ⟨w.heap.size, 1, none⟩ = some (.slice N n.nodes.length d) := hgrow.cell (by simp) (by simp)
  have HK := Lib.hid hk1
  clear hblk hk1 hown hgrow
  go_wp2_with fail
  go_loopw [21] (fun i wr => ∃ k : Nat, k ≤ n.nodes.length ∧ i = .int .i64 k ∧ Blk wr (w.heap.size + 1) 4 ((Nt.usedMid n.nodes n.nodes.length k []).map Value.bool).toArray ∧ Below w.heap.size w wr) (fun i _ => n.nodes.length - (intOf i).toNat)
  case atStart => exact ⟨0, Nat.zero_le _, rfl, HK.out, hb1⟩
  case round =>
    obtain ⟨k, hk, rfl, hblk, hbw⟩ := hrel
    have Hblk := Lib.hid hblk
    clear hblk
    clear HK hb1 hx1
    by_cases hlt : k < n.nodes.length
    · obtain ⟨b, off, S, sc, I, ic, Q, qc, rfl, hNA, -, hI, -⟩ := HR.out.2.at_ hlt
      have hnok := Hokn.out _ (List.getElem_mem hlt)
      have hin := Hins.out _ (List.getElem_mem hlt)
      have HN := Lib.hid (Nt.usedMid_next n.nodes n.nodes.length hlt)
      have hil := hnok.2.2.1
      generalize n.nodes[k] = v at *
      obtain ⟨⟨y0, y1, y2, y3, y4, y5, y6, y7, y8, y9⟩, -⟩ := hNA.below hbw
      have HNA := Lib.hid hNA
      have Hnok := Lib.hid hnok
      have Hin := Lib.hid hin
      clear hNA hnok hin
      have hb2 := hbw.alloc hbw.size (.cells #[.int .i64 v.op.kind, .int .i64 v.op.k, .int .i64 v.op.width, .int .i64 v.op.step, .int .i64 v.op.side, .int .i64 v.op.frm, .int .i64 v.op.to, .slice S v.op.s.length sc, .slice I v.ins.length ic, .slice Q v.p.length qc] 42)
      have HB2 := Lib.hid (Hblk.out.alloc (.cells #[.int .i64 v.op.kind, .int .i64 v.op.k, .int .i64 v.op.width, .int .i64 v.op.step, .int .i64 v.op.side, .int .i64 v.op.frm, .int .i64 v.op.to, .slice S v.op.s.length sc, .slice I v.ins.length ic, .slice Q v.p.length qc] 42))
      go_wp2_with fail
      clear y0 y1 y2 y3 y4 y5 y6 y7 y8 y9
      go_loopw [28] (fun i wx => ∃ m : Nat, m ≤ v.ins.length ∧ i = .int .i64 m ∧ Blk wx (w.heap.size + 1) 4 ((Nt.usedMid n.nodes n.nodes.length k (v.ins.take m)).map Value.bool).toArray ∧ Below w.heap.size w wx) (fun i _ => v.ins.length - (intOf i).toNat)
      case atStart => exact ⟨0, Nat.zero_le _, rfl, by rw [List.take_zero]; exact HB2.out, hb2⟩
      case round =>
        obtain ⟨m, hm, rfl, hblx, hbx⟩ := hrel
        clear HB2 hb2 Hblk hbw
        by_cases hlm : m < v.ins.length
        · have hI2 := (HNA.out.below hbx).2.2.1
          obtain ⟨b1, off1, rfl, -, hc⟩ := hI2 m hlm
          rw [getD_at hlm] at hc
          have hr := Hin.out _ (List.getElem_mem hlm)
          obtain ⟨u, hu⟩ : ∃ u : Nat, v.ins[m] = u := ⟨v.ins[m].toNat, by omega⟩
          have HM := Lib.hid (show Nt.usedMid n.nodes n.nodes.length k (v.ins.take (m + 1)) = (Nt.usedMid n.nodes n.nodes.length k (v.ins.take m)).set u true by rw [List.take_succ_eq_append_getElem hlm, Nt.usedMid_in _ _ _ _ hr.1 hr.2, hu]; rfl)
          rw [hu] at hc hr
          have hul : u < n.nodes.length + 1 := by omega
          have hcg := hblx.cell u
          have hfg := hblx.frozen u
          have hcg2 : wr.cell? ⟨w.heap.size + 1, u, none⟩ = some (.bool ((Nt.usedMid n.nodes n.nodes.length k (v.ins.take m)).getD u false)) := by
            rw [hcg]
            have := Nt.usedMid_len n.nodes n.nodes.length k (v.ins.take m)
            rw [List.getD_eq_getElem?_getD, List.getElem?_eq_getElem (by omega)]
            simp [this, hul]
          have hbs := hblx.set_ u (.bool true)
          have HBS := Lib.hid (show Blk (wr.setCell ⟨w.heap.size + 1, u, none⟩ (.bool true)) (w.heap.size + 1) 4 (((Nt.usedMid n.nodes n.nodes.length k (v.ins.take m)).set u true).map Value.bool).toArray by simpa [List.map_set] using hbs)
          have hbx2 := hbx.setCell (p := ⟨w.heap.size + 1, u, none⟩) (by simp) (.bool true)
          clear hcg hbs hI2 hblx hu
          have u0 : (0 : Int) ≤ u := by omega
          have u1 : (u : Int) < ((n.nodes.length + 1 : Nat) : Int) := by omega
          go_wp2_with fail
          go_roundw
          case rel => exact ⟨m + 1, by omega, by go_num, by rw [HM.out]; exact HBS.out, hbx2⟩
          case measure => simp [intOf]; omega
        · obtain rfl : m = v.ins.length := by omega
          rw [List.take_length] at hblx
          have Hblx := Lib.hid hblx
          clear hblx
          go_wp2_with fail
          go_roundw
          case rel => exact ⟨k + 1, by omega, by go_num, by rw [← HN.out]; exact Hblx.out, hbx⟩
          case measure => simp [intOf]; omega
    · obtain rfl : k = n.nodes.length := by omega
      have hU := Nt.usedMid_all n.nodes
      have hBU := Hblk.out
      rw [hU] at hBU
      have HBU := Lib.hid hBU
      have HU := Lib.hid hU
      clear hBU hU
      clear Hblk
      go_wp2_with fail
      go_loopw [9, 10, 39] (fun l c i wx => wx = wr ∧ ∃ k : Nat, k ≤ n.nodes.length + 1 ∧ i = .int .i64 k ∧ l = .int .i64 ((Nt.unusedTo n.nodes k).getLastD 0) ∧ c = .int .i64 ((Nt.unusedTo n.nodes k).length : Nat)) (fun _ _ i _ => n.nodes.length + 1 - (intOf i).toNat)
      case atStart => exact ⟨rfl, 0, Nat.zero_le _, rfl, rfl, rfl⟩
      case round =>
        obtain ⟨rfl, k, hk, rfl, rfl, rfl⟩ := hrel
        have hul := Nt.unusedTo_len n.nodes k
        by_cases hlt : k < n.nodes.length + 1
        · have hcf : ∀ b, Nt.isUsed n.nodes k = b → wr.cell? ⟨w.heap.size + 1, k, none⟩ = some (.bool b) := fun b hb => by
            rw [← hb, HBU.out.cell]
            simp [Nt.nums, hlt]
          have hs := Nt.unusedTo_succ n.nodes k
          have k1 : (k : Int) < ((n.nodes.length + 1 : Nat) : Int) := by omega
          have HS := Lib.hid hs
          clear hs
          obtain ⟨L0, hL0⟩ : ∃ L0, (Nt.unusedTo n.nodes k).getLastD 0 = L0 := ⟨_, rfl⟩
          obtain ⟨c0, hc0⟩ : ∃ c0, (Nt.unusedTo n.nodes k).length = c0 := ⟨_, rfl⟩
          rw [hc0] at hul
          rw [hL0, hc0]
          have HL0 := Lib.hid hL0
          have Hc0 := Lib.hid hc0
          clear hL0 hc0
          cases hu : Nt.isUsed n.nodes k
          · have hc := hcf _ hu
            have HU := Lib.hid hu
            clear hu hcf
            go_wp2_with fail
            go_roundw
            case rel => exact ⟨trivial, k + 1, by omega, by go_num, by rw [HS.out, HU.out]; simp, by rw [HS.out, HU.out, if_neg (by simp), List.length_append, Hc0.out]; go_num⟩
            case measure => simp [intOf]; omega
          · have hc := hcf _ hu
            have HU := Lib.hid hu
            clear hu hcf
            go_wp2_with fail
            go_roundw
            case rel => exact ⟨trivial, k + 1, by omega, by go_num, by rw [HS.out, HU.out, if_pos rfl, HL0.out], by rw [HS.out, HU.out, if_pos rfl, Hc0.out]⟩
            case measure => simp [intOf]; omega
        · obtain rfl : k = n.nodes.length + 1 := by omega
          rw [Nt.unusedTo_all] at *
          have hl : (Nt.unused n.nodes).getLastD 0 = Nt.loss n.nodes := rfl
          rw [hl]
          have hlo : Nt.lossOk n.nodes = decide ((Nt.unused n.nodes).length = 1 ∧ Nt.loss n.nodes ≠ 0) := rfl
          obtain ⟨L, hL⟩ : ∃ L, Nt.loss n.nodes = L := ⟨_, rfl⟩
          obtain ⟨c', hc'⟩ : ∃ c', (Nt.unused n.nodes).length = c' := ⟨_, rfl⟩
          rw [hL, hc'] at hlo
          rw [hc'] at hul
          rw [hL, hc']
          have HLs := Lib.hid hL
          clear hL hl hc'
          by_cases h1 : c' = 1
          · subst h1
            have k1 : ¬ (((n.nodes.length + 1 : Nat) : Int) < ((n.nodes.length + 1 : Nat) : Int)) := by omega
            have HL := Lib.hid hlo
            clear hlo
            go_wp2_with fail
            go_ret2
            exact ⟨by rw [HL.out, HLs.out]; by_cases h : L = 0 <;> simp [h], hbw⟩
          · have c1 : ((c' : Int) == 1) = false := by simp; omega
            have HL := Lib.hid (show Nt.lossOk n.nodes = false by rw [hlo]; simp [h1])
            clear hlo h1
            go_wp2_with fail
            go_ret2
            exact ⟨by rw [HL.out, HLs.out]; rfl, hbw⟩
end Go.Proofs.YtkmhagjdafeebaaGreat
/- Layer 11 (net): the shapes by numbers: contract. -/
namespace Go.Proofs.YtkmhagjdafeebaaGreat
open Go.RowKit

theorem shpT_info : (Tryz.prog.info? 23).map (fun i => (i.zero, i.size, i.bytes)) = some (some (.slice none 0 0), 1, 24) := by kernel_rfl
def LayPost (r : List (List Int) × Int) (n : Nat) (w : World) (e : Ending) (w' : World) : Prop :=
  Below w.heap.size w w' ∧ ((r.2 = 0 ∧ ∃ g, e = .returned (.tuple #[.slice (some ⟨g, 0, none⟩) (n + 1) (n + 1), .int .i64 0]) ∧ w.heap.size ≤ g ∧ ShpRow w' g 23 r.1 ∧ r.1.length = n + 1) ∨ (r.2 ≠ 0 ∧ e = .returned (.tuple #[.slice none 0 0, .int .i64 r.2])))
namespace Nt
def insMid (sh : List (List Int)) (l : List Int) (m : Nat) : List (List Int) := pick sh (l.take m) ++ List.replicate (l.length - m) []
theorem insMid_len (sh : List (List Int)) (l : List Int) {m : Nat} (h : m ≤ l.length) : (insMid sh l m).length = l.length := by simp [insMid, pick]; omega
theorem insMid_zero (sh : List (List Int)) (l : List Int) : insMid sh l 0 = List.replicate l.length [] := by simp [insMid, pick]
theorem insMid_all (sh : List (List Int)) (l : List Int) : insMid sh l l.length = pick sh l := by simp [insMid]
theorem insMid_succ (sh : List (List Int)) (l : List Int) {m : Nat} (h : m < l.length) : insMid sh l (m + 1) = (insMid sh l m).set m (sh.getD l[m].toNat []) := by
  unfold insMid
  rw [show l.length - m = (l.length - (m + 1)) + 1 by omega, List.replicate_succ, List.take_succ_eq_append_getElem h]
  unfold pick
  rw [List.map_append, List.set_append_right _ _ (by simp; omega)]
  rw [show m - ((l.take m).map fun i => sh.getD i.toNat []).length = 0 by simp; omega, List.set_cons_zero, List.append_assoc]
  rfl
end Nt
theorem lay_short {n : NetD} (hin : Sh.right n.inn = true) {k : Nat} (hk : k ≤ (Nt.sorted n.nodes).length) {sh : List (List Int)} (h : Nt.lay n.nodes (Nt.start n) ((Nt.sorted n.nodes).take k) = (sh, 0)) : Nt.Good ((Nt.sorted n.nodes).take k) sh ∧ sh.length = n.nodes.length + 1 := by
  have h2 := Nt.lay_good hin k hk (by rw [h])
  have h3 := Nt.lay_len (ns := n.nodes) (a := (Nt.sorted n.nodes).take k) (sh := Nt.start n) (by rw [h])
  rw [h] at h2 h3
  exact ⟨h2, by simpa [Nt.start] using h3⟩
set_option maxRecDepth 20000 in
set_option maxHeartbeats 8000000 in
theorem net_lay (A N O : Option Addr) (c d oc : Nat) (n : NetD) (w : World) (hok : n.ok) (hR : NetR w A N n) (hd : n.nodes.length ≤ d) (hO : Ints .i64 w O (Nt.sorted n.nodes)) (hin : Sh.right n.inn = true) (hins : ∀ v ∈ n.nodes, ∀ i ∈ v.ins, 0 ≤ i ∧ i ≤ n.nodes.length) :
    Calls Tryz.prog 78 #[.agg #[.slice A n.inn.length c, .slice N n.nodes.length d], .slice O (Nt.sorted n.nodes).length oc] w (LayPost (Nt.lay n.nodes (Nt.start n) (Nt.sorted n.nodes)) n.nodes.length w) := by
  obtain ⟨i0, hi, hz0, hz1, hz2⟩ := info_parts shpT_info
  have hnl := hok.2.1
  have hil := hok.1
  have hokn := hok.2.2
  have hol : (Nt.sorted n.nodes).length ≤ n.nodes.length := Kn.order_len_le _ _
  have hrng : ∀ u ∈ Nt.sorted n.nodes, 1 ≤ u ∧ u ≤ n.nodes.length := Kn.order_rng _ _
  have hbeh : ∀ a b u, Nt.sorted n.nodes = a ++ u :: b → ∀ i ∈ Nt.insF n.nodes u, i = 0 ∨ i ∈ a := fun a b u h => Kn.order_behind _ _ h
  obtain ⟨os, hos⟩ : ∃ os, Nt.sorted n.nodes = os := ⟨_, rfl⟩
  have hshort : ∀ k, k ≤ os.length → ∀ sh, Nt.lay n.nodes (Nt.start n) (os.take k) = (sh, 0) → Nt.Good (os.take k) sh ∧ sh.length = n.nodes.length + 1 := fun k hk sh h => by
    have := lay_short (n := n) hin (k := k) (by rw [hos]; exact hk) (sh := sh) (by rw [hos]; exact h)
    rw [hos] at this
    exact this
  rw [hos] at hO hol hrng hbeh ⊢
  have hk0 := Blk.new w 45 #[.slice A n.inn.length c, .slice N n.nodes.length d]
  have hb0 : Below w.heap.size w (w.alloc (.cells #[.slice A n.inn.length c, .slice N n.nodes.length d] 45)) := (Below.refl _ _).alloc (Nat.le_refl _) _
  have HR := Lib.hid hR
  have Hins := Lib.hid hins
  have Hokn := Lib.hid hokn
  have HO := Lib.hid hO
  have Hin := Lib.hid hin
  have Hrng := Lib.hid hrng
  have Hbeh := Lib.hid hbeh
  have Hshort := Lib.hid hshort
  have Hos := Lib.hid hos
  clear hR hins hokn hO hin hrng hbeh hshort hos
  clear hok
  have e1 : IntKind.i64.wrap ((n.nodes.length : Int) + 1) = ((n.nodes.length + 1 : Nat) : Int) := by rw [IntWalk.i64_in _ (by omega)]; omega
  go_enter Tryz.func78, Tryz.ntmps78
  go_wp2_with (at_make; refine wpList_make_full _ rfl _ _ 40 rfl w.heap.size 23 i0 (.slice none 0 0) 1 Tryz.underlying40 hi hz0 hz1 _ _ _ _ (n.nodes.length + 1) rfl rfl (by first | rfl | simp | (go_simp; rfl)) (by first | rfl | simp | (go_simp; rfl)) ?b2 ?b3 ?b4 ?_)
  case b2 => rw [hz2]; omega
  case b3 => unfold maxLen; omega
  case b4 => simp
  intro w1 hown hgrow
  have hblk := own_cur hown
  rw [made_one] at hblk
  have hrow : ShpRow w1 (w.heap.size + 1) 23 (List.replicate (n.nodes.length + 1) []) := ShpRow.new (by simpa [Blk] using hblk)
  have hb1 : Below w.heap.size w w1 := hb0.grown hgrow (by simp) (by simp)
  have hbox : Blk w1 w.heap.size 45 #[.slice A n.inn.length c, .slice N n.nodes.length d] := hk0.grown hgrow (by simp)
  have x0 : w1.cell? ⟨w.heap.size, 0, none⟩ = some (.slice A n.inn.length c) := by rw [hbox.cell]; rfl
  have Hbox := Lib.hid hbox
  have Hrow := Lib.hid hrow
  clear hbox hrow
  clear hblk hown hgrow hk0
  go_wp2_with fail
  refine (shape_copy A c n.inn _ (by omega) (HR.out.1.below hb1 (Nat.le_refl _))).mono ?_
  rintro e w2 ⟨g, rfl, hg, hB, h2⟩
  have hgl : w.heap.size + 1 < w1.heap.size := Hrow.out.lt
  have hb2 := hb1.trans (h2.mono hb1.size)
  have hrow2 := Hrow.out.below h2 (Nat.le_refl _)
  have hbox2 := Hbox.out.below h2 Hbox.out.lt
  obtain ⟨S0, c0, y0, -⟩ := hrow2.at_ (j := 0) (by simp)
  have f0 : w2.frozen? ⟨w.heap.size + 1, 0, none⟩ = false := by obtain ⟨vs, _, hk, _⟩ := hrow2; exact hk.frozen 0
  have hIn : Ints .i64 w2 (some ⟨g, 0, none⟩) n.inn := Ints.of_row fun j hj => by rw [Nat.zero_add, show w2.cell? ⟨g, j, none⟩ = _ from (show Blk w2 g 3 _ from hB).cell j]; simp [hj]
  have hrow3 := hrow2.set_ (i := 0) hIn (Nat.le_refl _) (by omega) (fun a h => by injection h with h; subst h; simp; omega)
  have hbox3 := hbox2.far (p := ⟨w.heap.size + 1, 0, none⟩) (by simp) (.slice (some ⟨g, 0, none⟩) n.inn.length n.inn.length)
  have hb3 := hb2.setCell (p := ⟨w.heap.size + 1, 0, none⟩) (by simp) (.slice (some ⟨g, 0, none⟩) n.inn.length n.inn.length)
  rw [show (List.replicate (n.nodes.length + 1) ([] : List Int)).set 0 n.inn = Nt.start n from rfl] at hrow3
  have Hrow2 := Lib.hid hrow2
  have Hrow3 := Lib.hid hrow3
  have Hbox2 := Lib.hid hbox2
  have Hbox3 := Lib.hid hbox3
  have HB := Lib.hid hB
  have HIn := Lib.hid hIn
  clear hrow2 hrow3 hbox2 hbox3 hB hIn
  clear x0 Hrow Hbox
  go_wp2_with fail
  clear y0 f0
  go_loopw [27] (fun i wr => ∃ k : Nat, k ≤ os.length ∧ i = .int .i64 k ∧ Blk wr w.heap.size 45 #[.slice A n.inn.length c, .slice N n.nodes.length d] ∧ Below w.heap.size w wr ∧ ∃ sh, Nt.lay n.nodes (Nt.start n) (os.take k) = (sh, 0) ∧ ShpRow wr (w.heap.size + 1) 23 sh) (fun i _ => os.length - (intOf i).toNat)
  case atStart => exact ⟨0, Nat.zero_le _, rfl, Hbox3.out, hb3, Nt.start n, rfl, Hrow3.out⟩
  case round =>
    obtain ⟨k, hk, rfl, hbox, hbw, sh, hlay, hrow⟩ := hrel
    clear Hrow2 Hrow3 Hbox2 Hbox3 HB HIn hb3 hb2 hb1 h2 hg hgl
    obtain ⟨hgood, hshl⟩ := Hshort.out k hk sh hlay
    have hgl : w.heap.size + 1 < wr.heap.size := hrow.lt
    by_cases hlt : k < os.length
    · obtain ⟨b, off, rfl, -, hc⟩ := HO.out.below hbw (Nat.le_refl _) k hlt
      rw [getD_at hlt] at hc
      have hr := Hrng.out _ (List.getElem_mem hlt)
      have hsplit : os = os.take k ++ os[k] :: os.drop (k + 1) := by rw [← List.drop_eq_getElem_cons hlt, List.take_append_drop]
      have hbe := Hbeh.out _ _ _ hsplit
      obtain ⟨j, hj⟩ : ∃ j : Nat, os[k] = (j : Int) + 1 := ⟨(os[k] - 1).toNat, by omega⟩
      have hjl : j < n.nodes.length := by omega
      have hlay' := fun h : (Nt.layStep n.nodes sh os[k]).2 = 0 => Nt.lay_snoc (id := os[k]) hlay h
      have hfail := fun h : (Nt.layStep n.nodes sh os[k]).2 ≠ 0 => Nt.lay_fail (b := os.drop (k + 1)) (id := os[k]) hlay h
      rw [← List.take_succ_eq_append_getElem hlt] at hlay'
      rw [← hsplit] at hfail
      have hst : Nt.layStep n.nodes sh os[k] = Od.shape n.nodes[j].op n.nodes[j].p (Nt.pick sh n.nodes[j].ins) := by unfold Nt.layStep; rw [hj, Nt.node_at hjl]
      have hiF : Nt.insF n.nodes os[k] = n.nodes[j].ins := by unfold Nt.insF; rw [hj, Nt.node_at hjl]
      rw [hst] at hlay' hfail
      rw [hiF] at hbe
      have hpr := hgood.pick hbe
      rw [hj] at hc hlay'
      rw [show ((j : Int) + 1).toNat = j + 1 by omega] at hlay'
      have hnok := Hokn.out _ (List.getElem_mem hjl)
      have hinr := Hins.out _ (List.getElem_mem hjl)
      obtain ⟨b1, off1, S, sc, I, ic, Q, qc, rfl, hNA, hs1, hI1, hq1⟩ := HR.out.2.at_ hjl
      have hgr : ∀ i ∈ n.nodes[j].ins, Sh.right (sh.getD i.toNat []) = true := fun i hi => hgood i (hbe i hi)
      generalize n.nodes[j] = v at *
      obtain ⟨⟨y0, y1, y2, y3, y4, y5, y6, y7, y8, y9⟩, -⟩ := hNA.below hbw
      have x1 : wr.cell? ⟨w.heap.size, 1, none⟩ = some (.slice (some ⟨b1, off1, none⟩) n.nodes.length d) := by rw [hbox.cell]; rfl
      have j1 : IntKind.i64.wrap ((j : Int) + 1 - 1) = (j : Int) := by rw [IntWalk.i64_in _ (by omega)]; omega
      have j2 : (j : Int) < n.nodes.length := by omega
      have hvi := hnok.2.2.1
      have hkn := Blk.new wr 42 #[.int .i64 v.op.kind, .int .i64 v.op.k, .int .i64 v.op.width, .int .i64 v.op.step, .int .i64 v.op.side, .int .i64 v.op.frm, .int .i64 v.op.to, .slice S v.op.s.length sc, .slice I v.ins.length ic, .slice Q v.p.length qc]
      have hbn : Below wr.heap.size wr (wr.alloc (.cells #[.int .i64 v.op.kind, .int .i64 v.op.k, .int .i64 v.op.width, .int .i64 v.op.step, .int .i64 v.op.side, .int .i64 v.op.frm, .int .i64 v.op.to, .slice S v.op.s.length sc, .slice I v.ins.length ic, .slice Q v.p.length qc] 42)) := (Below.refl _ _).alloc (Nat.le_refl _) _
      have Hbox := Lib.hid hbox
      have Hrow := Lib.hid hrow
      have Hsplit := Lib.hid hsplit
      have Hbe := Lib.hid hbe
      have Hlay' := Lib.hid hlay'
      have Hfail := Lib.hid hfail
      have Hst := Lib.hid hst
      have HiF := Lib.hid hiF
      have Hpr := Lib.hid hpr
      have Hnok := Lib.hid hnok
      have Hinr := Lib.hid hinr
      have HNA := Lib.hid hNA
      have Hgr := Lib.hid hgr
      have Hlay := Lib.hid hlay
      have Hgood := Lib.hid hgood
      have Hkn := Lib.hid hkn
      have Hj := Lib.hid hj
      clear hbox hrow hsplit hbe hlay' hfail hst hiF hpr hnok hinr hNA hgr hlay hgood hkn hj
      go_wp2_with (at_make; refine wpList_make_full _ rfl _ _ 40 rfl wr.heap.size 23 i0 (.slice none 0 0) 1 Tryz.underlying40 hi hz0 hz1 _ _ _ _ v.ins.length rfl rfl (by first | rfl | simp | (go_simp; rfl)) (by first | rfl | simp | (go_simp; rfl)) ?b2 ?b3 ?b4 ?_)
      case b2 => rw [hz2]; omega
      case b3 => unfold maxLen; omega
      case b4 => simp
      intro w3 hown hgrow
      have hblk := own_cur hown
      rw [made_one] at hblk
      have hrow3 : ShpRow w3 (wr.heap.size + 1) 23 (Nt.insMid sh v.ins 0) := by rw [Nt.insMid_zero]; exact ShpRow.new (by simpa [Blk] using hblk)
      have hb3 : Below wr.heap.size wr w3 := hbn.grown hgrow (by simp) (by simp)
      have hkn3 : Blk w3 wr.heap.size 42 #[.int .i64 v.op.kind, .int .i64 v.op.k, .int .i64 v.op.width, .int .i64 v.op.step, .int .i64 v.op.side, .int .i64 v.op.frm, .int .i64 v.op.to, .slice S v.op.s.length sc, .slice I v.ins.length ic, .slice Q v.p.length qc] := Hkn.out.grown hgrow (by simp)
      have z8 : w3.cell? ⟨wr.heap.size, 8, none⟩ = some (.slice I v.ins.length ic) := by rw [hkn3.cell]; rfl
      have Hrow3 := Lib.hid hrow3
      have Hkn3 := Lib.hid hkn3
      clear hrow3 hkn3
      clear hblk hown hgrow y0 y1 y2 y3 y4 y5 y6 y7 y8 y9 x1 hbn Hkn
      go_wp2_with fail
      clear z8
      obtain ⟨wo, rfl⟩ : ∃ wo, wo = wr := ⟨wr, rfl⟩
      go_loopw [44] (fun i wx => ∃ m : Nat, m ≤ v.ins.length ∧ i = .int .i64 m ∧ Blk wx wo.heap.size 42 #[.int .i64 v.op.kind, .int .i64 v.op.k, .int .i64 v.op.width, .int .i64 v.op.step, .int .i64 v.op.side, .int .i64 v.op.frm, .int .i64 v.op.to, .slice S v.op.s.length sc, .slice I v.ins.length ic, .slice Q v.p.length qc] ∧ Below wo.heap.size wo wx ∧ ShpRow wx (wo.heap.size + 1) 23 (Nt.insMid sh v.ins m)) (fun i _ => v.ins.length - (intOf i).toNat)
      case atStart => exact ⟨0, Nat.zero_le _, rfl, Hkn3.out, hb3, Hrow3.out⟩
      case round =>
        obtain ⟨m, hm, rfl, hknx, hbx, hrx⟩ := hrel
        clear Hkn3 Hrow3 hb3
        have hbwx := hbw.trans (hbx.mono hbw.size)
        have hNx := HNA.out.below hbwx
        have hml := Nt.insMid_len sh v.ins hm
        by_cases hlm : m < v.ins.length
        · obtain ⟨b2, off2, rfl, -, hc2⟩ := hNx.2.2.1 m hlm
          rw [getD_at hlm] at hc2
          have hr2 := Hinr.out _ (List.getElem_mem hlm)
          have hg2 := Hgr.out _ (List.getElem_mem hlm)
          have HM := Lib.hid (Nt.insMid_succ sh v.ins hlm)
          obtain ⟨u, hu⟩ : ∃ u : Nat, v.ins[m] = u := ⟨v.ins[m].toNat, by omega⟩
          rw [hu] at hc2 hr2 hg2
          have hul : u < sh.length := by omega
          rw [show ((u : Int)).toNat = u by omega, gets_at hul] at hg2
          obtain ⟨Su, cu, yu, hIu, lu1, lu2, -⟩ := Hrow.out.at_ hul
          obtain ⟨b3, off3, rfl, hb3, -⟩ := hIu 0 (right_short hg2).1
          have yu' := cell_below hbx yu
          have hIu' := hIu.below hbx (Nat.le_refl _)
          have hset := hrx.set_ (i := m) hIu' lu1 lu2 (fun a h => by injection h with h; subst h; simp; omega)
          obtain ⟨Sm, cm, ym, -⟩ := hrx.at_ (j := m) (by omega)
          have fm : wr.frozen? ⟨wo.heap.size + 1, m, none⟩ = false := by obtain ⟨vs, _, hk, _⟩ := hrx; exact hk.frozen m
          have HS := Lib.hid (show ShpRow (wr.setCell ⟨wo.heap.size + 1, m, none⟩ (.slice (some ⟨b3, off3, none⟩) sh[u].length cu)) (wo.heap.size + 1) 23 (Nt.insMid sh v.ins (m + 1)) by
            rw [HM.out, hu, show ((u : Int)).toNat = u by omega, gets_at hul]; exact hset)
          have HKN := Lib.hid (hknx.far (p := ⟨wo.heap.size + 1, m, none⟩) (by simp) (.slice (some ⟨b3, off3, none⟩) sh[u].length cu))
          have hbx2 := hbx.setCell (p := ⟨wo.heap.size + 1, m, none⟩) (by simp) (.slice (some ⟨b3, off3, none⟩) sh[u].length cu)
          have u0 : (0 : Int) ≤ u := by omega
          have u1 : (u : Int) < ((n.nodes.length + 1 : Nat) : Int) := by omega
          have m1 : (m : Int) < v.ins.length := by omega
          clear hset hIu hIu' hknx hrx hNx hg2 hu yu
          go_wp2_with fail
          go_roundw
          case rel => exact ⟨m + 1, by omega, by go_num, HKN.out, hbx2, HS.out⟩
          case measure => simp [intOf]; omega
        · obtain rfl : m = v.ins.length := by omega
          have hpl : (Nt.pick sh v.ins).length = v.ins.length := by simp [Nt.pick]
          rw [Nt.insMid_all] at hrx
          obtain ⟨y0, y1, y2, y3, y4, y5, y6, y7, y9⟩ : wr.cell? ⟨wo.heap.size, 0, none⟩ = some (.int .i64 v.op.kind) ∧ wr.cell? ⟨wo.heap.size, 1, none⟩ = some (.int .i64 v.op.k) ∧ wr.cell? ⟨wo.heap.size, 2, none⟩ = some (.int .i64 v.op.width) ∧ wr.cell? ⟨wo.heap.size, 3, none⟩ = some (.int .i64 v.op.step) ∧ wr.cell? ⟨wo.heap.size, 4, none⟩ = some (.int .i64 v.op.side) ∧ wr.cell? ⟨wo.heap.size, 5, none⟩ = some (.int .i64 v.op.frm) ∧ wr.cell? ⟨wo.heap.size, 6, none⟩ = some (.int .i64 v.op.to) ∧ wr.cell? ⟨wo.heap.size, 7, none⟩ = some (.slice S v.op.s.length sc) ∧ wr.cell? ⟨wo.heap.size, 9, none⟩ = some (.slice Q v.p.length qc) := by
            refine ⟨?_, ?_, ?_, ?_, ?_, ?_, ?_, ?_, ?_⟩
            all_goals (rw [hknx.cell]; rfl)
          have hno := Hnok.out
          have hcall := op_shape v.op S Q (some ⟨wo.heap.size + 1, 0, none⟩) sc qc v.ins.length v.p (Nt.pick sh v.ins) wr (by have := hno.2.1; omega) hNx.2.1 ⟨hNx.2.2.2, hq1.1, hq1.2, fun s hs => by have := hno.2.2.2.2.1 s hs; omega⟩ ⟨hrx.shps, by omega, by omega, fun s hs => by have := (right_short (List.all_eq_true.1 Hpr.out s hs)).2; omega⟩
          rw [hpl] at hcall
          have hrgt := fun h : (Od.shape v.op v.p (Nt.pick sh v.ins)).2 = 0 => right_short (Od.shape_right h)
          have hl2 := Hlay'.out
          have hf2 := Hfail.out
          generalize Od.shape v.op v.p (Nt.pick sh v.ins) = r at *
          have Hcall := Lib.hid hcall
          have Hrgt := Lib.hid hrgt
          have Hl2 := Lib.hid hl2
          have Hf2 := Lib.hid hf2
          clear hcall hrgt hl2 hf2
          clear hNx hrx hknx hpl hno Hlay' Hfail Hst
          go_wp2_with fail
          clear y0 y1 y2 y3 y4 y5 y6 y7 y9
          refine (Hcall.out).mono ?_
          rintro e w4 ⟨S5, d5, rfl, hI5, r1, r2, hf5, hb5⟩
          have hb4 := hbx.trans (hb5.mono hbx.size)
          have hbw4 := hbw.trans (hb4.mono hbw.size)
          by_cases hr2 : r.2 = 0
          · have q1 : (r.2 != 0) = false := by simp [hr2]
            have hrow4 := Hrow.out.below hb4 (Nat.le_refl _)
            have hbox4 := Hbox.out.below hb4 Hbox.out.lt
            have hj1 : j + 1 < sh.length := by omega
            obtain ⟨Sm, cm, ym, -⟩ := hrow4.at_ hj1
            have fm : w4.frozen? ⟨w.heap.size + 1, j + 1, none⟩ = false := by obtain ⟨vs, _, hk, _⟩ := hrow4; exact hk.frozen (j + 1)
            have hset := hrow4.set_ (i := j + 1) hI5 r1 r2 (fun a h => by have := hf5 a h; have := hbx.size; omega)
            have HS := Lib.hid hset
            have HBX := Lib.hid (hbox4.far (p := ⟨w.heap.size + 1, j + 1, none⟩) (by simp) (.slice S5 r.1.length d5))
            have hbw5 := hbw4.setCell (p := ⟨w.heap.size + 1, j + 1, none⟩) (by simp) (.slice S5 r.1.length d5)
            have HL := Lib.hid (Hl2.out hr2)
            have j3 : ((j : Int) + 1) < ((n.nodes.length + 1 : Nat) : Int) := by omega
            have j4 : ((j : Int) + 1).toNat = j + 1 := by omega
            clear hset hrow4 hbox4 hr2
            have HI5 := Lib.hid hI5
            have Hf5 := Lib.hid hf5
            clear hI5 hf5
            go_wp2_with fail
            go_roundw
            case rel => exact ⟨k + 1, by omega, by go_num, HBX.out, hbw5, _, HL.out, HS.out⟩
            case measure => simp [intOf]; omega
          · have q1 : (r.2 != 0) = true := by simp [hr2]
            have HF := Lib.hid (Hf2.out hr2)
            have HR2 := Lib.hid hr2
            have HI5 := Lib.hid hI5
            have Hf5 := Lib.hid hf5
            clear hI5 hf5
            clear hr2
            go_wp2_with fail
            go_ret2
            exact ⟨hbw4, .inr (by rw [HF.out]; exact ⟨HR2.out, rfl⟩)⟩
    · obtain rfl : k = os.length := by omega
      rw [List.take_length] at hlay
      have Hlay := Lib.hid hlay
      have Hrow := Lib.hid hrow
      have Hbox := Lib.hid hbox
      have Hgood := Lib.hid hgood
      clear hlay hrow hbox hgood
      go_wp2_with fail
      go_ret2
      exact ⟨hbw, .inl (by rw [Hlay.out]; exact ⟨rfl, _, rfl, by omega, Hrow.out, hshl⟩)⟩
end Go.Proofs.YtkmhagjdafeebaaGreat
/- A row of rows of numbers, each with memory of its own: who uses what. No program is named here. -/
namespace Go.Proofs.YtkmhagjdafeebaaGreat
open Go.RowKit

/-- The block g is a row of rows of the call's own, apart from one another and from the blocks X. -/
def URow (X : Nat → Prop) (B : Nat) (w : World) (g : Nat) (t e : TypeId) (us : List (List Int)) : Prop :=
  X g ∧ ∃ vs : List Value, vs.length = us.length ∧ Blk w g t vs.toArray ∧
    (∀ j (hj : j < us.length) v, vs[j]? = some v → w.ownsRow B e 1 v us[j].length (us[j].map (Value.int .i64))) ∧
    (∀ (j : Nat) (v : Value) (b : Nat), vs[j]? = some v → v.ownBlock = some b → ¬ X b) ∧
    (∀ (i j : Nat) (u v : Value) (b : Nat), i ≠ j → vs[i]? = some u → vs[j]? = some v → u.ownBlock = some b → v.ownBlock ≠ some b)
section
variable {X : Nat → Prop} {B : Nat} {w w' : World} {g : Nat} {t e : TypeId} {us : List (List Int)}
theorem URow.lt (h : URow X B w g t e us) : g < w.heap.size := by obtain ⟨_, vs, _, hb, _⟩ := h; exact hb.lt
theorem URow.agree (h : URow X B w g t e us) (ha : ∀ b, b < w.heap.size → (b = g ∨ ¬ X b) → w'.heap[b]? = w.heap[b]?) : URow X B w' g t e us := by
  obtain ⟨hg, vs, hl, hk, ho, hx, hd⟩ := h
  refine ⟨hg, vs, hl, (ha g hk.lt (.inl rfl)).trans hk, fun j hj v hv => ?_, hx, hd⟩
  exact ownsRow_heap (ho j hj v hv) fun b hb => ha b ((ho j hj v hv).lt b hb).2 (.inr (hx j v b hv hb))
theorem URow.new {n : Nat} (hX : X g) (h : Blk w g t (List.replicate n (Value.slice none 0 0)).toArray) : URow X B w g t e (List.replicate n []) := by
  refine ⟨hX, List.replicate n (.slice none 0 0), by simp, h, fun j hj v hv => ?_, fun j v b hv hb => ?_, fun i j u v b _ hu _ hb => ?_⟩
  · rw [List.getElem?_replicate] at hv
    split at hv
    · injection hv with hv
      subst hv
      simpa using World.ownsRow_nil w B e 1
    · cases hv
  · rw [List.getElem?_replicate] at hv
    split at hv
    · injection hv with hv; subst hv; simp [Value.ownBlock] at hb
    · cases hv
  · rw [List.getElem?_replicate] at hu
    split at hu
    · injection hu with hu; subst hu; simp [Value.ownBlock] at hb
    · cases hu
/-- A place, and what an append there leaves. -/
theorem URow.at_ (h : URow X B w g t e us) (hlt : ∀ b, X b → b < w.heap.size) {j : Nat} (hj : j < us.length) :
    ∃ v, w.cell? ⟨g, j, none⟩ = some v ∧ w.ownsRow B e 1 v us[j].length (us[j].map (Value.int .i64)) ∧ (∀ b, v.ownBlock = some b → ¬ X b) ∧
      ∀ v' w1 x, w1.ownsRow B e 1 v' (us[j].length + 1) (us[j].map (Value.int .i64) ++ [.int .i64 x]) → w.grownBy w1 v.ownBlock → (v'.ownBlock = v.ownBlock ∨ v'.ownBlock = some w.heap.size) →
        URow X B (w1.setCell ⟨g, j, none⟩ v') g t e (us.set j (us[j] ++ [x])) := by
  obtain ⟨hg, vs, hl, hk, ho, hx, hd⟩ := h
  obtain ⟨v, hv⟩ : ∃ v, vs[j]? = some v := ⟨vs[j], List.getElem?_eq_getElem (by omega)⟩
  refine ⟨v, by rw [hk.cell j]; simpa using hv, ho j hj v hv, fun b hb => hx j v b hv hb, fun v' w1 x hown hgr hat => ?_⟩
  have hgv : some g ≠ v.ownBlock := fun h => hx j v g hv h.symm hg
  have hk1 : Blk w1 g t vs.toArray := (hgr.block g hk.lt hgv).trans hk
  have hb' : ∀ b, v'.ownBlock = some b → ¬ X b := fun b hb => by
    rcases hat with h | h
    · exact hx j v b hv (h ▸ hb)
    · rw [h] at hb; injection hb with hb; subst hb; intro hX; have := hlt _ hX; omega
  have hset : ∀ b, b ≠ g → (w1.setCell ⟨g, j, none⟩ v').heap[b]? = w1.heap[b]? := fun b hb => Below.heap_setCell w1 _ _ b hb
  refine ⟨hg, vs.set j v', by simp [hl], ?_, fun i hi u hu => ?_, fun i u b hu hb => ?_, fun i k u z b hik hu hz hb => ?_⟩
  · have := hk1.set_ j v'
    simpa using this
  · rw [List.length_set] at hi
    by_cases e : j = i
    · subst e
      rw [List.getElem?_set_self (by omega)] at hu
      injection hu with hu
      subst hu
      have := ownsRow_heap (w' := w1.setCell ⟨g, j, none⟩ v') hown fun b hb => hset b fun q => hb' b hb (q ▸ hg)
      simpa using this
    · rw [List.getElem?_set_ne e] at hu
      simp only [List.getElem_set_ne e]
      refine ownsRow_heap (ho i hi u hu) fun b hb => ?_
      rw [hset b fun q => hx i u b hu hb (q ▸ hg)]
      exact hgr.block b ((ho i hi u hu).lt b hb).2 fun q => hd i j u v b (fun q => e q.symm) hu hv hb q.symm
  · by_cases e : j = i
    · subst e
      rw [List.getElem?_set_self (by omega)] at hu
      injection hu with hu
      subst hu
      exact hb' b hb
    · rw [List.getElem?_set_ne e] at hu
      exact hx i u b hu hb
  · have hne : ∀ i' u' b', i' ≠ j → vs[i']? = some u' → u'.ownBlock = some b' → v'.ownBlock ≠ some b' := fun i' u' b' hi' hu' hb' q => by
      rcases hat with h | h
      · exact hd i' j u' v b' hi' hu' hv hb' (h ▸ q)
      · rw [h] at q
        injection q with q
        subst q
        have hi2 : i' < us.length := by
          rw [← hl]
          exact (List.getElem?_eq_some_iff.1 hu').1
        have := ((ho i' hi2 u' hu').lt _ hb').2
        omega
    by_cases e : j = i
    · subst e
      rw [List.getElem?_set_self (by omega)] at hu
      injection hu with hu
      subst hu
      rw [List.getElem?_set_ne hik] at hz
      intro q
      exact hne k z b (fun q => hik q.symm) hz q hb
    · rw [List.getElem?_set_ne e] at hu
      by_cases e2 : j = k
      · subst e2
        rw [List.getElem?_set_self (by omega)] at hz
        injection hz with hz
        subst hz
        exact hne i u b (fun q => e q.symm) hu hb
      · rw [List.getElem?_set_ne e2] at hz
        exact hd i k u z b hik hu hz hb
end
end Go.Proofs.YtkmhagjdafeebaaGreat
/- The plain part of Kahn's order, as rows of numbers. No program is named here. -/
namespace Go.Proofs.YtkmhagjdafeebaaGreat
namespace Kn
def wl (I : Int → List Int) (n k : Nat) (l : List Int) : List Int := (List.range (n + 1)).map fun u : Nat => ((wMid I k l (u : Int) : Nat) : Int)
def ul (I : Int → List Int) (n k : Nat) (l : List Int) : List (List Int) := (List.range (n + 1)).map fun u : Nat => uMid I k l (u : Int)
theorem wl_len (I : Int → List Int) (n k : Nat) (l : List Int) : (wl I n k l).length = n + 1 := by simp [wl]
theorem ul_len (I : Int → List Int) (n k : Nat) (l : List Int) : (ul I n k l).length = n + 1 := by simp [ul]
theorem wl_at (I : Int → List Int) (n k : Nat) (l : List Int) {u : Nat} (h : u < n + 1) : (wl I n k l)[u]? = some ((wMid I k l (u : Int) : Nat) : Int) := by simp [wl, h]
theorem ul_at (I : Int → List Int) (n k : Nat) (l : List Int) {u : Nat} (h : u < (ul I n k l).length) : (ul I n k l)[u] = uMid I k l (u : Int) := by simp [ul]
theorem wl_zero (I : Int → List Int) (n : Nat) : wl I n 0 [] = List.replicate (n + 1) 0 := by
  unfold wl
  rw [wMid_zero, List.eq_replicate_iff]
  exact ⟨by simp, fun b hb => by obtain ⟨x, _, rfl⟩ := List.mem_map.1 hb; rfl⟩
theorem ul_zero (I : Int → List Int) (n : Nat) : ul I n 0 [] = List.replicate (n + 1) [] := by
  unfold ul
  rw [uMid_zero, List.eq_replicate_iff]
  exact ⟨by simp, fun b hb => by obtain ⟨x, _, rfl⟩ := List.mem_map.1 hb; rfl⟩
theorem wl_next (I : Int → List Int) (n k : Nat) : wl I n k (I ((k : Int) + 1)) = wl I n (k + 1) [] := by unfold wl; rw [wMid_next]
theorem ul_next (I : Int → List Int) (n k : Nat) : ul I n k (I ((k : Int) + 1)) = ul I n (k + 1) [] := by unfold ul; rw [uMid_next]
theorem wl_skip (I : Int → List Int) (n k : Nat) (l : List Int) : wl I n k (l ++ [0]) = wl I n k l := by unfold wl; rw [wMid_zero_in]
theorem ul_skip (I : Int → List Int) (n k : Nat) (l : List Int) : ul I n k (l ++ [0]) = ul I n k l := by unfold ul; rw [uMid_zero_in]
theorem wl_in (I : Int → List Int) (n k : Nat) (l : List Int) {id : Int} (h : id ≠ 0) : wl I n k (l ++ [id]) = (wl I n k l).set (k + 1) (((wMid I k l ((k : Int) + 1) : Nat) : Int) + 1) := by
  apply List.ext_getElem?
  intro j
  rw [List.getElem?_set]
  by_cases hj : j < n + 1
  · rw [wl_at _ _ _ _ hj, wl_at _ _ _ _ hj, wMid_in h, wl_len]
    by_cases e : k + 1 = j
    · subst e
      simp [hj]
    · have : ((j : Nat) : Int) ≠ (k : Int) + 1 := by omega
      simp [e, this]
  · rw [List.getElem?_eq_none (by rw [wl_len]; omega), List.getElem?_eq_none (by rw [wl_len]; omega), wl_len]
    simp
    omega
theorem ul_in (I : Int → List Int) (n k : Nat) (l : List Int) {id : Int} (h : id ≠ 0) (h0 : 0 ≤ id) : ul I n k (l ++ [id]) = (ul I n k l).set id.toNat (uMid I k l id ++ [(k : Int) + 1]) := by
  apply List.ext_getElem?
  intro j
  rw [List.getElem?_set]
  unfold ul
  simp only [List.getElem?_map, List.length_map, List.length_range]
  by_cases hj : j < n + 1
  · rw [List.getElem?_range hj]
    simp only [Option.map_some]
    rw [uMid_in h]
    by_cases e : id.toNat = j
    · subst e
      have : ((id.toNat : Nat) : Int) = id := by omega
      simp [hj, this]
    · have : ((j : Nat) : Int) ≠ id := by omega
      simp [e, this]
  · rw [List.getElem?_eq_none (by simp; omega)]
    simp
    omega
theorem wMid_le {I : Int → List Int} {B : Nat} (hI : ∀ u, (I u).length ≤ B) (k : Nat) {l : List Int} (hl : l.length ≤ B) (u : Int) : wMid I k l u ≤ B := by
  unfold wMid
  split
  · rw [wt_nil]; exact Nat.le_trans (List.length_filter_le _ _) (hI u)
  · split
    · exact Nat.le_trans (List.length_filter_le _ _) hl
    · omega
theorem sum_le {B : Nat} : ∀ (l : List Nat), (∀ x ∈ l, x ≤ B) → l.sum ≤ l.length * B
  | [], _ => by simp
  | x :: r, h => by
    have h1 := h x (by simp)
    have h2 := sum_le r fun y hy => h y (by simp [hy])
    simp only [List.sum_cons, List.length_cons, Nat.succ_mul]
    omega
theorem uMid_le {I : Int → List Int} {B : Nat} (hI : ∀ u, (I u).length ≤ B) (k : Nat) {l : List Int} (hl : l.length ≤ B) (id : Int) : (uMid I k l id).length ≤ (k + 1) * B := by
  have h1 := uMid_len I k l id
  have h2 := sum_le ((ids k).map fun u => (I u).length) (B := B) fun x hx => by obtain ⟨u, _, rfl⟩ := List.mem_map.1 hx; exact hI u
  rw [List.length_map, ids_length] at h2
  rw [Nat.succ_mul]
  omega
/-- The ready ones of the first k, at the start. -/
def rk (I : Int → List Int) (k : Nat) : List Int := (ids k).filter fun u => wt I [] u == 0
theorem rk_succ (I : Int → List Int) (k : Nat) : rk I (k + 1) = if wt I [] ((k : Int) + 1) = 0 then rk I k ++ [(k : Int) + 1] else rk I k := by
  unfold rk
  rw [ids_succ, List.filter_append]
  by_cases h : wt I [] ((k : Int) + 1) = 0 <;> simp [h]
theorem rk_len (I : Int → List Int) (k : Nat) : (rk I k).length ≤ k := Nat.le_trans (List.length_filter_le _ _) (by rw [ids_length]; exact Nat.le_refl _)
theorem rk_all (I : Int → List Int) (n : Nat) : rk I n = ready I n [] := by
  unfold rk ready
  apply List.filter_congr
  intro u _
  rw [free_iff]
  simp
/-- How many ins are waited for, behind some users of the number that went out last. -/
def wm (I : Int → List Int) (n : Nat) (out a : List Int) : List Int := (List.range (n + 1)).map fun u : Nat => if u = 0 then 0 else ((mid I out a (u : Int) : Nat) : Int)
theorem wm_len (I : Int → List Int) (n : Nat) (out a : List Int) : (wm I n out a).length = n + 1 := by simp [wm]
theorem wm_at (I : Int → List Int) (n : Nat) (out a : List Int) {u : Nat} (h : u < n + 1) (h0 : u ≠ 0) : (wm I n out a)[u]? = some ((mid I out a (u : Int) : Nat) : Int) := by simp [wm, h, h0]
theorem wm_start (I : Int → List Int) (n : Nat) : wl I n n [] = wm I n [] [] := by
  unfold wl wm
  apply List.map_congr_left
  intro u hu
  have hu := List.mem_range.1 hu
  by_cases h : u = 0
  · subst h
    simp [wMid]
  · rw [wMid_end (by omega) (by omega)]
    simp [h, mid]
theorem wm_next {I : Int → List Int} {n : Nat} {out : List Int} {id : Int} (hid : id ∈ ready I n out) : wm I n out (users I n id) = wm I n (out ++ [id]) [] := by
  unfold wm
  apply List.map_congr_left
  intro u hu
  have hu := List.mem_range.1 hu
  by_cases h : u = 0
  · simp [h]
  · rw [mid_end hid (mem_ids.2 ⟨by omega, by omega⟩)]
    simp [h, mid]
theorem wm_in {I : Int → List Int} {n : Nat} {out a : List Int} {u : Int} (h0 : 1 ≤ u) : wm I n out (a ++ [u]) = (wm I n out a).set u.toNat ((mid I out (a ++ [u]) u : Nat) : Int) := by
  apply List.ext_getElem?
  intro j
  rw [List.getElem?_set, wm_len]
  by_cases hj : j < n + 1
  · by_cases e : u.toNat = j
    · subst e
      have : ((u.toNat : Nat) : Int) = u := by omega
      rw [wm_at _ _ _ _ hj (by omega), this]
      simp [hj]
    · simp only [e, if_false]
      unfold wm
      simp only [List.getElem?_map, List.getElem?_range hj, Option.map_some]
      rw [mid_other (by omega)]
  · rw [List.getElem?_eq_none (by rw [wm_len]; omega), List.getElem?_eq_none (by rw [wm_len]; omega)]
    simp
    omega
theorem count_lt {l : List Int} (h : l.Pairwise (· < ·)) (u : Int) : (∀ j (hj : j < l.length), j < l.countP (· < u) → l[j] < u) ∧ (∀ j (hj : j < l.length), l.countP (· < u) ≤ j → u ≤ l[j]) := by
  induction l with
  | nil => exact ⟨fun j hj => by simp at hj, fun j hj => by simp at hj⟩
  | cons x r ih =>
    obtain ⟨hx, hr⟩ := List.pairwise_cons.1 h
    obtain ⟨i1, i2⟩ := ih hr
    by_cases hxu : x < u
    · have hc : (x :: r).countP (· < u) = r.countP (· < u) + 1 := by rw [List.countP_cons]; simp [hxu]
      rw [hc]
      refine ⟨fun j hj hlt => ?_, fun j hj hle => ?_⟩
      · match j with
        | 0 => simpa using hxu
        | j + 1 => simpa using i1 j (by simpa using hj) (by omega)
      · match j with
        | 0 => omega
        | j + 1 => simpa using i2 j (by simpa using hj) (by omega)
    · have hz : r.countP (· < u) = 0 := by
        rw [List.countP_eq_zero]
        intro y hy
        have := hx y hy
        simp; omega
      have hc : (x :: r).countP (· < u) = 0 := by rw [List.countP_cons, hz]; simp; omega
      rw [hc]
      refine ⟨fun j hj hlt => by omega, fun j hj _ => ?_⟩
      match j with
      | 0 => simp; omega
      | j + 1 =>
        have := i2 j (by simpa using hj) (by omega)
        simpa using this
theorem midReady_sorted (I : Int → List Int) (n : Nat) (out : List Int) (id : Int) (us : List Int) : (midReady I n out id us).Pairwise (· < ·) := (ids_pairwise n).filter _
theorem midReady_len (I : Int → List Int) (n : Nat) (out : List Int) (id : Int) (us : List Int) : (midReady I n out id us).length ≤ n := Nat.le_trans (List.length_filter_le _ _) (by rw [ids_length]; exact Nat.le_refl _)
theorem ready_len (I : Int → List Int) (n : Nat) (out : List Int) : (ready I n out).length ≤ n := Nat.le_trans (List.length_filter_le _ _) (by rw [ids_length]; exact Nat.le_refl _)
theorem mid_put' {I : Int → List Int} {n : Nat} {out a b : List Int} {id u : Int} (hok : Ok I n out) (hid : id ∈ ready I n out) (hu : users I n id = a ++ u :: b) (h : mid I out (a ++ [u]) u = 0) :
    midReady I n out id (a ++ [u]) = (midReady I n out id a).take ((midReady I n out id a).countP (· < u)) ++ u :: (midReady I n out id a).drop ((midReady I n out id a).countP (· < u)) := by
  obtain ⟨h1, h2⟩ := count_lt (midReady_sorted I n out id a) u
  exact mid_put hok hid hu h h1 h2 List.countP_le_length
end Kn
end Go.Proofs.YtkmhagjdafeebaaGreat
/- slices.Insert at []int: the library's contracts, at this program. -/
namespace Go.Proofs.YtkmhagjdafeebaaGreat
open Go.Shelf
def insRen : Go.Shelf.Ren := ⟨fun | 21 => 85 | 27 => 91 | 28 => 92 | 35 => 102 | 39 => 107 | n => n, fun | 22 => 22 | 3 => 3 | 4 => 4 | 0 => 0 | n => n, fun | n => n⟩
theorem laysIns : Go.Proofs.Lays2.n21 Tryz.prog insRen := {
  mixed := by kernel_rfl
  f21 := Tryz.func85.trans (congrArg some (by kernel_rfl))
  f27 := Tryz.func91.trans (congrArg some (by kernel_rfl))
  f28 := Tryz.func92.trans (congrArg some (by kernel_rfl))
  f35 := Tryz.func102.trans (congrArg some (by kernel_rfl))
  f39 := Tryz.func107.trans (congrArg some (by kernel_rfl))
  t0 := Tryz.underlying0
  a0 := Tryz.isAgg0
  z0 := Tryz.sizeOf0
  v0 := Tryz.zeroValue0
  t3 := Tryz.underlying3
  a3 := Tryz.isAgg3
  z3 := Tryz.sizeOf3
  v3 := Tryz.zeroValue3
  t4 := Tryz.underlying4
  a4 := Tryz.isAgg4
  z4 := Tryz.sizeOf4
  v4 := Tryz.zeroValue4
  t22 := Tryz.underlying22
  a22 := Tryz.isAgg22
  z22 := Tryz.sizeOf22
  v22 := Tryz.zeroValue22
  i3 := by kernel_rfl }
end Go.Proofs.YtkmhagjdafeebaaGreat
/- slices.Insert, Delete and BinarySearch on rows of the call's own. -/
namespace Go.Proofs.YtkmhagjdafeebaaGreat
open Go.RowKit

theorem splice_cons {L : List Value} {o : Nat} {v : Value} {r : List Value} (h : o + (v :: r).length ≤ L.length) : splice (L.set o v) (o + 1) r = splice L o (v :: r) := by
  simp only [List.length_cons] at h
  unfold splice
  have e1 : (L.set o v).take (o + 1) = L.take o ++ [v] := by
    rw [List.take_succ_eq_append_getElem (by simp; omega), List.take_set_of_le (Nat.le_refl _)]
    simp
  rw [e1, List.drop_set_of_lt (by omega)]
  simp [Nat.add_assoc, Nat.add_comm 1]
theorem setCells_blk {g : Nat} {t : TypeId} : ∀ (vs : List Value) (o : Nat) (w : World) (L : List Value), Blk w g t L.toArray → o + vs.length ≤ L.length → Blk (w.setCells g o vs) g t (splice L o vs).toArray
  | [], o, w, L, h, _ => by rw [splice_zero]; exact h
  | v :: r, o, w, L, h, hl => by
    rw [← splice_cons hl]
    refine setCells_blk r (o + 1) _ _ ?_ (by simp at hl ⊢; omega)
    have := h.set_ o v
    simpa using this
theorem setCells_fr {S : Nat → Prop} {g : Nat} (hg : S g) : ∀ (vs : List Value) (o : Nat) (w0 w : World), Fr S w0 w → Fr S w0 (w.setCells g o vs)
  | [], _, _, _, h => h
  | v :: r, o, w0, w, h => setCells_fr hg r (o + 1) w0 _ (h.setCell (fun _ => hg) v)
theorem fr_new {S : Nat → Prop} {w w1 : World} (h : Fr S w w1) : ∀ (vs : List Value) (o : Nat), Fr S w (w1.setCells w.heap.size o vs)
  | [], _ => h
  | v :: r, o => fr_new (h.setCell (p := ⟨w.heap.size, o, none⟩) (fun q => absurd q (Nat.lt_irrefl _)) v) r (o + 1)
theorem Blk.shape {w : World} {g : Nat} {t : TypeId} {cs : Array Value} (h : Blk w g t cs) : w.shape? g = some (t, cs.size) := by
  unfold Blk at h
  simp [World.shape?, h]
theorem Blk.own {w : World} {B g n : Nat} {t : TypeId} {L : List Value} {xs : List Value} (h : Blk w g t L.toArray) (hB : B ≤ g) (hn : xs.length = n) (hl : n ≤ L.length) (hm : L.length ≤ maxLen) (ht : L.take n = xs) {c : Nat} (hc : c = L.length) :
    w.ownsRow B t 1 (.slice (some ⟨g, 0, none⟩) n c) n xs := by
  subst hc
  exact ⟨by omega, .inr ⟨g, _, _, rfl, hB, h, hl, hm, by simp, by simpa using ht⟩⟩
/-- What a change of an own row leaves. -/
def OwnPost (B : Nat) (t : TypeId) (v : Value) (zs : List Int) (w : World) (e : Ending) (w' : World) : Prop :=
  ∃ v', e = .returned v' ∧ w'.ownsRow B t 1 v' zs.length (zs.map (Value.int .i64)) ∧ Fr (fun b => v.ownBlock = some b) w w' ∧ (v'.ownBlock = v.ownBlock ∨ v'.ownBlock = some w.heap.size)

theorem spl_mid (A X Y B : List Value) (h : X.length = Y.length) : splice (A ++ (X ++ B)) A.length Y = A ++ (Y ++ B) := by
  unfold splice
  rw [List.take_append_of_le_length (Nat.le_refl _), List.take_length, ← h, ← List.length_append, ← List.append_assoc A X B, List.drop_left]
theorem ins_a {Z D : List Value} {x : Value} {i : Nat} (hi : i < Z.length) (hD : 1 ≤ D.length) : splice (splice (Z ++ D) (i + 1) (Z.drop i)) i [x] = Z.take i ++ x :: Z.drop i ++ D.drop 1 := by
  obtain ⟨d, D', rfl⟩ : ∃ d D', D = d :: D' := by cases D with | nil => simp at hD | cons d D' => exact ⟨d, D', rfl⟩
  obtain ⟨A, b, B, rfl, rfl⟩ : ∃ A b B, Z = A ++ b :: B ∧ i = A.length := ⟨Z.take i, Z[i], Z.drop (i + 1), by rw [← List.drop_eq_getElem_cons hi, List.take_append_drop], by simp; omega⟩
  rw [List.drop_left, List.take_left]
  have e1 : A ++ b :: B ++ d :: D' = (A ++ [b]) ++ ((B ++ [d]) ++ D') := by simp
  have e2 : A.length + 1 = (A ++ [b]).length := by simp
  rw [e1, e2, spl_mid _ _ (b :: B) _ (by simp)]
  have e3 : A ++ [b] ++ (b :: B ++ D') = A ++ ([b] ++ (b :: B ++ D')) := by simp
  rw [e3, spl_mid _ [b] [x] _ rfl]
  simp
theorem ins_b {Z Z1 Z2 : List Value} {x : Value} {i : Nat} (hi : i < Z.length) (h1 : Z1.length = Z.length + 1 - i) : splice (splice (Z.take i ++ Z1 ++ Z2) i [x]) (i + 1) (Z.drop i) = Z.take i ++ x :: Z.drop i ++ Z2 := by
  obtain ⟨d, D, rfl⟩ : ∃ d D, Z1 = d :: D := by cases Z1 with | nil => simp at h1; omega | cons d D => exact ⟨d, D, rfl⟩
  obtain ⟨A, B, rfl, rfl⟩ : ∃ A B, Z = A ++ B ∧ i = A.length := ⟨Z.take i, Z.drop i, (List.take_append_drop _ _).symm, by simp; omega⟩
  rw [List.drop_left, List.take_left]
  have e1 : A ++ d :: D ++ Z2 = A ++ ([d] ++ (D ++ Z2)) := by simp
  rw [e1, spl_mid _ [d] [x] _ rfl]
  have e2 : A ++ ([x] ++ (D ++ Z2)) = (A ++ [x]) ++ (D ++ Z2) := by simp
  have e3 : A.length + 1 = (A ++ [x]).length := by simp
  rw [e2, e3, spl_mid _ _ B _ (by simp at h1; omega)]
  simp
theorem ins_list {zs : List Int} {x : Int} {i : Nat} (h : i ≤ zs.length) : (zs.take i ++ x :: zs.drop i).length = zs.length + 1 := by simp; omega

theorem Blk.cells_map {w : World} {g : Nat} {t : TypeId} {L xs : List Value} {n : Nat} (h : Blk w g t L.toArray) (ht : L.take n = xs) : ∀ j v, xs[j]? = some v → w.cell? ⟨g, 0 + j, none⟩ = some v := fun j v hj => by
  rw [Nat.zero_add, h.cell j]
  subst ht
  rw [List.getElem?_take] at hj
  split at hj
  · simpa using hj
  · cases hj
theorem one_cell' {zs : List Int} : ∀ v ∈ zs.map (Value.int .i64), v.oneCell' = true := fun v hv => by
  obtain ⟨x, _, rfl⟩ := List.mem_map.1 hv
  rfl

theorem insert_own (B : Nat) (v : Value) (zs : List Int) (x : Int) (i vb : Nat) (w : World) (hi : i ≤ zs.length) (hn : zs.length ≤ 1099511627776) (hB : B ≤ w.heap.size) (hown : w.ownsRow B 3 1 v zs.length (zs.map (Value.int .i64))) (hv : Blk w vb 3 #[.int .i64 x]) (hvb : v.ownBlock ≠ some vb) :
    Calls Tryz.prog 85 #[v, .int .i64 i, .slice (some ⟨vb, 0, none⟩) 1 1] w (OwnPost B 3 v (zs.take i ++ x :: zs.drop i) w) := by
  have hvc : ∀ j u, [Value.int .i64 x][j]? = some u → w.cell? ⟨vb, 0 + j, none⟩ = some u := fun j u hj => by
    match j, hj with
    | 0, hj => simp at hj; subst hj; rw [hv.cell]; rfl
  have h1v : ∀ u ∈ [Value.int .i64 x], u.oneCell' = true := fun u hu => by simp at hu; subst hu; rfl
  have hmax : maxLen = 9223372036854775807 := rfl
  rcases hown.2 with ⟨rfl, h0⟩ | ⟨g, cap, cur, rfl, hBg, hh, hnc, hcm, hsz, htk⟩
  · have hz : zs = [] := List.eq_nil_of_length_eq_zero h0
    subst hz
    obtain rfl : i = 0 := by simpa using hi
    refine (Any2.slices_Insert_int_end_grow laysIns none 0 0 vb 0 1 1 [] [.int .i64 x] w (by omega) (by omega) (by omega) (by omega) rfl rfl (fun _ => rfl) (fun a h => by cases h) hvc h1v).mono ?_
    rintro e w' ⟨rfl, rfl⟩
    have hg := grownCap_ge w (0 + 1) 0 3
    have hgm := grownCap_le_maxLen w (0 + 1) 0 3 (by unfold maxLen; omega)
    refine ⟨_, rfl, ?_, ((Fr.refl _ w).drew).alloc _, .inr rfl⟩
    have hk := Blk.new w.drew 3 (([] ++ [Value.int .i64 x]).toArray ++ Builtin.zeroCells (Value.int .i64 0).cells (grownCap w (0 + 1) 0 3 - (0 + 1)))
    have hk2 : Blk (w.drew.alloc (.cells (([] ++ [Value.int .i64 x]).toArray ++ Builtin.zeroCells (Value.int .i64 0).cells (grownCap w (0 + 1) 0 3 - (0 + 1))) 3)) w.heap.size 3 (([Value.int .i64 x] ++ (Builtin.zeroCells (Value.int .i64 0).cells (grownCap w (0 + 1) 0 3 - (0 + 1))).toList).toArray) := by
      have e : (([Value.int .i64 x] ++ (Builtin.zeroCells (Value.int .i64 0).cells (grownCap w (0 + 1) 0 3 - (0 + 1))).toList).toArray) = ([] ++ [Value.int .i64 x]).toArray ++ Builtin.zeroCells (Value.int .i64 0).cells (grownCap w (0 + 1) 0 3 - (0 + 1)) := by
        apply Array.ext'
        simp
      rw [e]
      exact hk
    have hzl : (Builtin.zeroCells (Value.int .i64 0).cells (grownCap w (0 + 1) 0 3 - (0 + 1))).toList.length = grownCap w (0 + 1) 0 3 - (0 + 1) := by
      rw [Array.length_toList, size_zeroCells]; simp [Value.cells]
    exact hk2.own hB rfl (by simp) (by simp only [List.length_append, hzl, List.length_singleton]; omega) (by simp) (by simp only [List.length_append, hzl, List.length_singleton]; show grownCap w (0 + 1) 0 3 = _; omega)
  · have hk : Blk w g 3 cur.toList.toArray := by simpa [Blk] using hh
    have hcl : cur.toList.length = cap := by simpa using hsz
    have htk' : cur.toList.take zs.length = zs.map (Value.int .i64) := by simpa using htk
    have hcs := hk.cells_map htk'
    have hgv : g ≠ vb := fun h => hvb (by rw [h]; rfl)
    have hml : (zs.map (Value.int .i64)).length = zs.length := by simp
    by_cases hroom : zs.length + 1 ≤ cap
    · by_cases hlt : i < zs.length
      · refine (Any2.slices_Insert_int_shift laysIns g 0 zs.length cap i vb 0 1 1 (zs.map (Value.int .i64)) [.int .i64 x] w hlt (by omega) hroom (by omega) (fun h => hgv h.symm) hml rfl hcs ?_ ?_ hvc one_cell' h1v 3 3 1 cap ?_ ?_ (by omega) ?_ ?_).mono ?_
        · intro j hj; rw [Nat.zero_add, hk.cell]; simp; omega
        · intro j hj; exact hk.frozen _
        · exact hv.shape
        · rw [hk.shape]; simp [hsz]
        · exact hv.frozen _
        · exact hv.frozen _
        · rintro e w' ⟨rfl, rfl⟩
          have hd : (List.drop i (zs.map (Value.int .i64))).length = zs.length - i := by simp
          have k1 := setCells_blk ((zs.map (Value.int .i64)).drop i) (0 + (i + 1)) w.drew _ hk.drew (by rw [hd, hcl]; omega)
          have k2 := setCells_blk [Value.int .i64 x] (0 + i) _ _ k1 (by simp [splice]; omega)
          refine ⟨_, rfl, ?_, setCells_fr (by rfl) _ _ _ _ (setCells_fr (by rfl) _ _ _ _ (Fr.refl _ w).drew), .inl rfl⟩
          have hlen : (splice (splice cur.toList (0 + (i + 1)) ((zs.map (Value.int .i64)).drop i)) (0 + i) [Value.int .i64 x]).length = cap := by
            simp only [splice, List.length_append, List.length_take, List.length_drop, List.length_singleton, hd, hcl]; omega
          rw [ins_list hi]
          refine k2.own hBg (by simp; omega) (by rw [hlen]; omega) (by rw [hlen]; exact hcm) ?_ hlen.symm
          rw [Nat.zero_add, Nat.zero_add]
          have e0 : cur.toList = zs.map (Value.int .i64) ++ cur.toList.drop zs.length := by rw [← htk']; exact (List.take_append_drop _ _).symm
          rw [e0]
          generalize cur.toList.drop zs.length = D at *
          generalize hZ : zs.map (Value.int .i64) = Z at *
          have hZi : i < Z.length := by omega
          have hDl : 1 ≤ D.length := by rw [e0, List.length_append] at hcl; omega
          rw [ins_a hZi hDl]
          have : (Z.take i ++ Value.int .i64 x :: Z.drop i).length = zs.length + 1 := by simp; omega
          rw [List.take_append_of_le_length (by omega), List.take_of_length_le (by omega)]
          rw [← hZ]
          simp [List.map_take, List.map_drop]
      · obtain rfl : i = zs.length := by omega
        refine (Any2.slices_Insert_int_end_room laysIns g 0 zs.length cap vb 0 1 1 [.int .i64 x] w (by omega) hroom (by omega) rfl ?_ ?_ hvc h1v).mono ?_
        · intro j hj; rw [Nat.zero_add, hk.cell]; simp; omega
        · intro j hj; exact hk.frozen _
        · rintro e w' ⟨rfl, rfl⟩
          have k1 := setCells_blk [Value.int .i64 x] (0 + zs.length) w _ hk (by simp; omega)
          refine ⟨_, rfl, ?_, setCells_fr (by rfl) _ _ _ _ (Fr.refl _ w), .inl rfl⟩
          have hlen : (splice cur.toList (0 + zs.length) [Value.int .i64 x]).length = cap := by
            simp only [splice, List.length_append, List.length_take, List.length_drop, List.length_singleton, hcl]; omega
          rw [ins_list (Nat.le_refl _)]
          refine k1.own hBg (by simp) (by rw [hlen]; omega) (by rw [hlen]; exact hcm) ?_ hlen.symm
          rw [Nat.zero_add]
          unfold splice
          rw [htk', ← List.append_assoc]
          rw [List.take_append_of_le_length (by simp), List.take_of_length_le (by simp)]
          simp
    · have hce : cap = zs.length := by omega
      subst hce
      have hg := grownCap_ge w (zs.length + 1) zs.length 3
      have hgm := grownCap_le_maxLen w (zs.length + 1) zs.length 3 (by unfold maxLen; omega)
      by_cases hlt : i < zs.length
      · refine (Any2.slices_Insert_int_grow laysIns g 0 zs.length zs.length i vb 0 1 1 (zs.map (Value.int .i64)) [.int .i64 x] w hlt (by omega) (by omega) (by omega) (by omega) hml rfl hcs hvc one_cell' h1v).mono ?_
        rintro e w' ⟨rfl, rfl⟩
        have hz1 : (Builtin.zeroCells (Value.int .i64 0).cells (zs.length + 1 - i)).toList.length = zs.length + 1 - i := by rw [Array.length_toList, size_zeroCells]; simp [Value.cells]
        have hz2 : (Builtin.zeroCells (Value.int .i64 0).cells (grownCap w (zs.length + 1) zs.length 3 - (zs.length + 1))).toList.length = grownCap w (zs.length + 1) zs.length 3 - (zs.length + 1) := by rw [Array.length_toList, size_zeroCells]; simp [Value.cells]
        generalize hZ1 : Builtin.zeroCells (Value.int .i64 0).cells (zs.length + 1 - i) = Z1 at *
        have hT : insRen.t 3 = 3 := rfl
        rw [hT] at *
        generalize hZ2 : Builtin.zeroCells (Value.int .i64 0).cells (grownCap w (zs.length + 1) zs.length 3 - (zs.length + 1)) = Z2 at *
        generalize hG : grownCap w (zs.length + 1) zs.length 3 = G at *
        have hk0 : Blk (w.alloc (.cells (((zs.map (Value.int .i64)).take i).toArray ++ Z1 ++ Z2) 3)).drew w.heap.size 3 (((zs.map (Value.int .i64)).take i ++ Z1.toList ++ Z2.toList).toArray) := by
          have := Blk.new w 3 (((zs.map (Value.int .i64)).take i).toArray ++ Z1 ++ Z2)
          have e : (((zs.map (Value.int .i64)).take i ++ Z1.toList ++ Z2.toList).toArray) = ((zs.map (Value.int .i64)).take i).toArray ++ Z1 ++ Z2 := by
            apply Array.ext'
            simp
          rw [e]
          exact this.drew
        have hti : ((zs.map (Value.int .i64)).take i).length = i := by simp; omega
        have hd : ((zs.map (Value.int .i64)).drop i).length = zs.length - i := by simp
        have k1 := setCells_blk [Value.int .i64 x] i _ _ hk0 (by simp only [List.length_append, hti, hz1, hz2, List.length_singleton]; omega)
        have k2 := setCells_blk ((zs.map (Value.int .i64)).drop i) (i + 1) _ _ k1.drew (by simp only [splice, List.length_append, List.length_take, List.length_drop, List.length_singleton, hz1, hz2, List.length_map]; omega)
        refine ⟨_, rfl, ?_, ?_, .inr rfl⟩
        · have hlen : (splice (splice ((zs.map (Value.int .i64)).take i ++ Z1.toList ++ Z2.toList) i [Value.int .i64 x]) (i + 1) ((zs.map (Value.int .i64)).drop i)).length = G := by
            simp only [splice, List.length_append, List.length_take, List.length_drop, List.length_singleton, hz1, hz2, List.length_map]; omega
          rw [ins_list hi]
          refine k2.own hB (by simp; omega) (by rw [hlen]; omega) (by rw [hlen]; exact hgm) ?_ hlen.symm
          generalize hZ : zs.map (Value.int .i64) = Z at *
          rw [ins_b (by omega) (by omega)]
          have : (Z.take i ++ Value.int .i64 x :: Z.drop i).length = zs.length + 1 := by simp; omega
          rw [List.take_append_of_le_length (by omega), List.take_of_length_le (by omega)]
          rw [← hZ]
          simp [List.map_take, List.map_drop]
        · have f1 : Fr (fun b => (Value.slice (some ⟨g, 0, none⟩) zs.length zs.length).ownBlock = some b) w (w.alloc (.cells (((zs.map (Value.int .i64)).take i).toArray ++ Z1 ++ Z2) 3)) := (Fr.refl _ w).alloc _
          exact fr_new (fr_new f1.drew _ _).drew _ _
      · obtain rfl : i = zs.length := by omega
        refine (Any2.slices_Insert_int_end_grow laysIns (some ⟨g, 0, none⟩) zs.length zs.length vb 0 1 1 (zs.map (Value.int .i64)) [.int .i64 x] w (by omega) (Nat.le_refl _) (by omega) (by omega) hml rfl (fun h => by cases h) (fun a h => by injection h with h; subst h; intro j u hj; have := hcs j u hj; rw [Addr.add_lit]; simpa using this) hvc h1v).mono ?_
        rintro e w' ⟨rfl, rfl⟩
        have hT : insRen.t 3 = 3 := rfl
        rw [hT] at *
        have hz2 : (Builtin.zeroCells (Value.int .i64 0).cells (grownCap w (zs.length + 1) zs.length 3 - (zs.length + 1))).toList.length = grownCap w (zs.length + 1) zs.length 3 - (zs.length + 1) := by rw [Array.length_toList, size_zeroCells]; simp [Value.cells]
        generalize hZ2 : Builtin.zeroCells (Value.int .i64 0).cells (grownCap w (zs.length + 1) zs.length 3 - (zs.length + 1)) = Z2 at *
        generalize hG : grownCap w (zs.length + 1) zs.length 3 = G at *
        refine ⟨_, rfl, ?_, ((Fr.refl _ w).drew).alloc _, .inr rfl⟩
        have hk0 : Blk (w.drew.alloc (.cells ((zs.map (Value.int .i64) ++ [Value.int .i64 x]).toArray ++ Z2) 3)) w.heap.size 3 ((zs.map (Value.int .i64) ++ [Value.int .i64 x] ++ Z2.toList).toArray) := by
          have := Blk.new w.drew 3 ((zs.map (Value.int .i64) ++ [Value.int .i64 x]).toArray ++ Z2)
          have e : ((zs.map (Value.int .i64) ++ [Value.int .i64 x] ++ Z2.toList).toArray) = (zs.map (Value.int .i64) ++ [Value.int .i64 x]).toArray ++ Z2 := by
            apply Array.ext'
            simp
          rw [e]
          exact this
        have hlen : (zs.map (Value.int .i64) ++ [Value.int .i64 x] ++ Z2.toList).length = G := by simp only [List.length_append, List.length_map, List.length_singleton, hz2]; omega
        rw [ins_list (Nat.le_refl _)]
        refine hk0.own hB (by simp) (by rw [hlen]; omega) (by rw [hlen]; exact hgm) ?_ hlen.symm
        rw [List.take_append_of_le_length (by simp), List.take_of_length_le (by simp)]
        simp
theorem delete_own (B : Nat) (v : Value) (x : Int) (zs : List Int) (w : World) (hn : (x :: zs).length ≤ 1099511627776) (hown : w.ownsRow B 3 1 v (x :: zs).length ((x :: zs).map (Value.int .i64))) :
    Calls Tryz.prog 83 #[v, .int .i64 0, .int .i64 1] w (OwnPost B 3 v zs w) := by
  have hmax : maxLen = 9223372036854775807 := rfl
  rcases hown.2 with ⟨rfl, h0⟩ | ⟨g, cap, cur, rfl, hBg, hh, hnc, hcm, hsz, htk⟩
  · simp at h0
  · have hk : Blk w g 3 cur.toList.toArray := by simpa [Blk] using hh
    have hcl : cur.toList.length = cap := by simpa using hsz
    have htk' : cur.toList.take (x :: zs).length = (x :: zs).map (Value.int .i64) := by simpa using htk
    have hcs := hk.cells_map htk'
    refine (Tryz.slices_Delete_int_cells g 0 (x :: zs).length cap 0 1 (x :: zs) w (Nat.le_refl _) hnc (by omega) (by omega) (by simp) ?_ ?_).mono ?_
    · intro j hj
      refine hcs j _ ?_
      rw [List.getElem?_map, List.getElem?_eq_getElem hj, List.getD_eq_getElem?_getD, List.getElem?_eq_getElem hj]
      rfl
    · intro j hj; exact hk.frozen _
    · rintro e w' ⟨rfl, q, rfl⟩
      have hlist : ((((x :: zs).take (x :: zs).length).take 0 ++ ((x :: zs).take (x :: zs).length).drop 1 ++ List.replicate (1 - 0) 0).map (Value.int .i64)) = zs.map (Value.int .i64) ++ [Value.int .i64 0] := by simp
      rw [hlist]
      have k1 := setCells_blk (zs.map (Value.int .i64) ++ [Value.int .i64 0]) 0 (w.drewN q) _ (hk.drewN q) (by rw [hcl]; simp at hnc ⊢; omega)
      refine ⟨_, rfl, ?_, setCells_fr (by rfl) _ _ _ _ ((Fr.refl _ w).drewN q), .inl rfl⟩
      have hlen : (splice cur.toList 0 (zs.map (Value.int .i64) ++ [Value.int .i64 0])).length = cap := by
        simp only [splice, List.length_append, List.length_take, List.length_drop, List.length_singleton, List.length_map, hcl]; simp at hnc; omega
      refine k1.own hBg (by simp) (by rw [hlen]; simp at hnc ⊢; omega) (by rw [hlen]; exact hcm) ?_ hlen.symm
      unfold splice
      simp
theorem search_own (B : Nat) (v : Value) (x : Int) (zs : List Int) (w : World) (hn : zs.length ≤ 1099511627776) (hs : zs.Pairwise (· ≤ ·)) (hown : w.ownsRow B 3 1 v zs.length (zs.map (Value.int .i64))) :
    Calls Tryz.prog 84 #[v, .int .i64 x] w fun e w' => (∃ b, e = .returned (.tuple #[.int .i64 (zs.countP (· < x) : Nat), .bool b])) ∧ ∃ q, w' = w.drewN q := by
  rcases hown.2 with ⟨rfl, h0⟩ | ⟨g, cap, cur, rfl, hBg, hh, hnc, hcm, hsz, htk⟩
  · have : zs = [] := List.eq_nil_of_length_eq_zero h0
    subst this
    refine (Tryz.slices_BinarySearch_int_empty none 0 x w).mono ?_
    rintro e w' ⟨rfl, rfl⟩
    exact ⟨⟨_, rfl⟩, 0, rfl⟩
  · have hk : Blk w g 3 cur.toList.toArray := by simpa [Blk] using hh
    have htk' : cur.toList.take zs.length = zs.map (Value.int .i64) := by simpa using htk
    have hcs := hk.cells_map htk'
    refine (Tryz.slices_BinarySearch_int g 0 zs.length cap zs x w (Nat.le_refl _) (by omega) ?_ (by rw [List.take_length]; exact hs)).mono ?_
    · intro j hj
      refine hcs j _ ?_
      rw [List.getElem?_map, List.getElem?_eq_getElem hj, List.getD_eq_getElem?_getD, List.getElem?_eq_getElem hj]
      rfl
    · rintro e w' ⟨rfl, q, rfl⟩
      rw [List.take_length]
      exact ⟨⟨_, rfl⟩, q, rfl⟩
end Go.Proofs.YtkmhagjdafeebaaGreat
