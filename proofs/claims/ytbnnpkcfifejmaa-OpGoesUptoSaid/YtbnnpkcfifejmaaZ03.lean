/- Lemmas for the statements of this seat: contracts of functions and the plain laws. -/
import Derived.BigQuiet
import Derived.ChangeKeysEq
import Derived.Deep.DeepCutAuto
import Derived.Deep.QuietTactic
import Derived.Laws.Bits64b
import Derived.Lib.Hide
import Derived.Maps.AppendAt
import Derived.Shelf.Bits.Mul64
import Derived.Shelf.Small.Bits
import Derived.Shelf.Strconv.Itoa0
import Derived.StillTailTactics
import Derived.WalkKit
import Derived.Test.YtbnnpkcfifejmaaChecked
import Derived.Test.YtbnnpkcfifejmaaProg
import Derived.Test.YtbnnpkcfifejmaaZ02
set_option linter.unusedVariables false
/- Layer 10 (op): the answer's shape: contract. -/
namespace Go.Proofs.Ytbnnpkcfifejmaa
open Go.RowKit

theorem Od.shape_bad_p {o : OpD} {p x : List (List Int)} (h : Od.counts o p.length x.length = 0) (hp : ¬ (p.all Sh.right = true ∧ x.all Sh.right = true)) : Od.shape o p x = ([], 20) := by
  unfold Od.shape
  rw [if_neg (by simp [h]), if_neg (by simpa using hp)]
theorem Od.shape_go {o : OpD} {p x : List (List Int)} (h : Od.counts o p.length x.length = 0) (hp : p.all Sh.right = true) (hx : x.all Sh.right = true) : Od.shape o p x = Od.byKind o p x := by
  unfold Od.shape
  rw [if_neg (by simp [h]), if_pos (by simp only [Bool.and_eq_true]; exact ⟨hp, hx⟩)]
theorem Od.counts_ok {o : OpD} {p x : Int} (h : Od.counts o p x = 0) : Od.right o = true ∧ Od.least o ≤ x ∧ x ≤ Od.most o ∧ p = Od.params o := by
  unfold Od.counts at h
  split at h
  · rename_i hr
    split at h
    · simp at h
    · rename_i hc; exact ⟨hr, by omega, by omega, by omega⟩
  · simp at h
theorem all_bad {ss : List (List Int)} {k : Nat} (hk : k < ss.length) (h : Sh.right ss[k] = false) : ¬ ss.all Sh.right = true := by
  rw [List.all_eq_true]
  intro q
  have := q _ (List.getElem_mem hk)
  rw [h] at this
  cases this
/-- Behind the counts: all shapes are looked at. -/
def ShpIn (w : World) (A : Option Addr) (c : Nat) (ss : List (List Int)) : Prop := Shps w A ss ∧ ss.length ≤ c ∧ c ≤ 9223372036854775807 ∧ ∀ s ∈ ss, s.length ≤ 17592186043904
theorem ShpIn.below {w w' : World} {A : Option Addr} {c B : Nat} {ss : List (List Int)} (h : ShpIn w A c ss) (hb : Below B w w') (hB : w.heap.size ≤ B) : ShpIn w' A c ss := ⟨h.1.below hb hB, h.2⟩
theorem ShpIn.at_ {w : World} {A : Option Addr} {c : Nat} {ss : List (List Int)} (h : ShpIn w A c ss) {k : Nat} (hk : k < ss.length) :
    ∃ b off S d, A = some ⟨b, off, none⟩ ∧ w.cell? ⟨b, off + k, none⟩ = some (.slice S ss[k].length d) ∧ Ints .i64 w S ss[k] ∧ ss[k].length ≤ d ∧ d ≤ 9223372036854775807 ∧ ss[k].length ≤ 17592186043904 := by
  obtain ⟨b, off, S, d, e, _, hc, h1, h2, h3⟩ := h.1 k hk
  exact ⟨b, off, S, d, e, hc, h1, h2, h3, h.2.2.2 _ (List.getElem_mem hk)⟩
theorem ShpIn.two {w : World} {A : Option Addr} {c : Nat} {ss : List (List Int)} (h : ShpIn w A c ss) (h1 : 1 < ss.length) :
    ∃ b off S d S' d', A = some ⟨b, off, none⟩ ∧ w.cell? ⟨b, off, none⟩ = some (.slice S ss[0].length d) ∧ w.cell? ⟨b, off + 1, none⟩ = some (.slice S' ss[1].length d') ∧ Ints .i64 w S ss[0] ∧ Ints .i64 w S' ss[1] ∧ ss[0].length ≤ 17592186043904 ∧ ss[1].length ≤ 17592186043904 := by
  obtain ⟨b, off, S, d, rfl, y, hI, _, _, l⟩ := h.at_ (by omega : 0 < ss.length)
  obtain ⟨b', off', S', d', e, y', hI', _, _, l'⟩ := h.at_ h1
  injection e with e
  injection e with e1 e2
  subst e1 e2
  exact ⟨b, off, S, d, S', d', rfl, y, y', hI, hI', l, l'⟩
theorem cell_below {w w' : World} {p : Addr} {v : Value} (hb : Below w.heap.size w w') (hc : w.cell? p = some v) : w'.cell? p = some v := (hb.cell (p := p) (World.block_lt_of_cell? _ _ hc)).trans hc
theorem pair_shps {w : World} {t : TypeId} {S S' : Option Addr} {d d' : Nat} {s s' : List Int} (h : Ints .i64 w S s) (h' : Ints .i64 w S' s') (l1 : s.length ≤ d) (l2 : d ≤ 9223372036854775807) (l1' : s'.length ≤ d') (l2' : d' ≤ 9223372036854775807) :
    Shps (w.alloc (.cells #[.slice S s.length d, .slice S' s'.length d'] t)) (some ⟨w.heap.size, 0, none⟩) [s, s'] := fun j hj => by
  have hk := Blk.new w t #[.slice S s.length d, .slice S' s'.length d']
  match j, hj with
  | 0, _ => exact ⟨_, _, S, d, rfl, hk.lt, by rw [hk.cell]; rfl, h.alloc _, l1, l2⟩
  | 1, _ => exact ⟨_, _, S', d', rfl, hk.lt, by rw [hk.cell]; rfl, h'.alloc _, l1', l2'⟩
theorem ShPost.pass {r r' : List Int × Int} {w wx w' : World} {S : Option Addr} {d : Nat} (he : r' = r) (hbx : Below w.heap.size w wx) (hI : Ints .i64 w' S r.1) (h1 : r.1.length ≤ d) (h2 : d ≤ 9223372036854775807) (hf : ∀ a, S = some a → wx.heap.size ≤ a.block) (hb : Below wx.heap.size wx w') :
    ShPost r' w (.returned (.tuple #[.slice S r.1.length d, .int .i64 r.2])) w' := by
  subst he
  exact ⟨S, d, rfl, hI, h1, h2, (fun a h => Nat.le_trans hbx.size (hf a h)), hbx.trans (hb.mono hbx.size)⟩
set_option maxHeartbeats 8000000 in
theorem op_shape (o : OpD) (S P X : Option Addr) (c d f : Nat) (p x : List (List Int)) (w : World) (ho : o.s.length ≤ 17592186043904) (hI : Ints .i64 w S o.s) (hP : ShpIn w P d p) (hX : ShpIn w X f x) :
    Calls Try.prog 10 #[.agg #[.int .i64 o.kind, .int .i64 o.k, .int .i64 o.width, .int .i64 o.step, .int .i64 o.side, .int .i64 o.frm, .int .i64 o.to, .slice S o.s.length c], .slice P p.length d, .slice X x.length f] w (ShPost (Od.shape o p x) w) := by
  have hk0 := Blk.new w 26 #[.int .i64 o.kind, .int .i64 o.k, .int .i64 o.width, .int .i64 o.step, .int .i64 o.side, .int .i64 o.frm, .int .i64 o.to, .slice S o.s.length c]
  have hb0 : Below w.heap.size w (w.alloc (.cells #[.int .i64 o.kind, .int .i64 o.k, .int .i64 o.width, .int .i64 o.step, .int .i64 o.side, .int .i64 o.frm, .int .i64 o.to, .slice S o.s.length c] 26)) := (Below.refl _ _).alloc (Nat.le_refl _) _
  have hlt0 := hk0.lt
  have hr := op_counts o S c p.length x.length (w.alloc (.cells #[.int .i64 o.kind, .int .i64 o.k, .int .i64 o.width, .int .i64 o.step, .int .i64 o.side, .int .i64 o.frm, .int .i64 o.to, .slice S o.s.length c] 26)) ho (hI.alloc _)
  have hpl : p.length ≤ 9223372036854775807 := by have := hP.2.1; have := hP.2.2.1; omega
  have hxl : x.length ≤ 9223372036854775807 := by have := hX.2.1; have := hX.2.2.1; omega
  by_cases hq : Od.counts o p.length x.length = 0
  case neg =>
    have d1 : (Od.counts o p.length x.length != 0) = true := by simp [hq]
    have HE := Lib.hid (show Od.shape o p x = ([], Od.counts o p.length x.length) by unfold Od.shape; rw [if_pos hq])
    generalize Od.counts o p.length x.length = n at *
    have Hr := Lib.hid hr
    have Hk0 := Lib.hid hk0
    have HI := Lib.hid hI
    have HP := Lib.hid hP
    have HX := Lib.hid hX
    clear hr hk0 hI hP hX
    clear hq
    go_enter Try.func10, Try.ntmps10
    go_wp2_with fail
    refine (Hr.out).mono ?_
    rintro e w1 ⟨rfl, h1⟩
    go_wp2_with fail
    go_ret2
    exact ShPost.fail HE.out (hb0.trans (h1.mono hb0.size))
  have HQ := Lib.hid hq
  rw [hq] at hr
  have Hr := Lib.hid hr
  have Hk0 := Lib.hid hk0
  have HI := Lib.hid hI
  have HP := Lib.hid hP
  have HX := Lib.hid hX
  clear hr hk0 hI hP hX
  clear hq
  go_enter Try.func10, Try.ntmps10
  go_wp2_with fail
  refine (Hr.out).mono ?_
  rintro e w1 ⟨rfl, h1⟩
  have hb1 := hb0.trans (h1.mono hb0.size)
  have HK := Lib.hid (Hk0.out.below h1 hlt0)
  clear Hk0 Hr
  go_wp2_with fail
  go_loopw [24] (fun i wr => ∃ k : Nat, k ≤ p.length ∧ i = .int .i64 k ∧ Blk wr w.heap.size 26 #[.int .i64 o.kind, .int .i64 o.k, .int .i64 o.width, .int .i64 o.step, .int .i64 o.side, .int .i64 o.frm, .int .i64 o.to, .slice S o.s.length c] ∧ Below w.heap.size w wr ∧ ∀ j (h : j < p.length), j < k → Sh.right p[j] = true) (fun i _ => p.length - (intOf i).toNat)
  case atStart => exact ⟨0, Nat.zero_le _, rfl, HK.out, hb1, fun j _ h => by omega⟩
  case round =>
    obtain ⟨k, hk, rfl, hblk, hbw, hall⟩ := hrel
    have Hblk := Lib.hid hblk
    have Hall := Lib.hid hall
    clear hblk hall
    clear HK hb1
    by_cases hlt : k < p.length
    · obtain ⟨b, off, S1, d1, rfl, y1, hI1, l1, l2, l3⟩ := (HP.out.below hbw (Nat.le_refl _)).at_ hlt
      have hcall := shape_right S1 d1 p[k] wr (by omega) hI1
      cases hrr : Sh.right p[k]
      · have HE := Lib.hid (Od.shape_bad_p (x := x) HQ.out fun q => all_bad hlt hrr q.1)
        rw [hrr] at hcall
        have Hcall := Lib.hid hcall
        have HI1 := Lib.hid hI1
        clear hcall hI1
        clear hrr
        go_wp2_with fail
        refine (Hcall.out).mono ?_
        rintro e w2 ⟨rfl, h2⟩
        go_wp2_with fail
        go_ret2
        exact ShPost.fail HE.out (hbw.trans (h2.mono hbw.size))
      · rw [hrr] at hcall
        have Hcall := Lib.hid hcall
        have HI1 := Lib.hid hI1
        have Hrr := Lib.hid hrr
        clear hcall hI1 hrr
        go_wp2_with fail
        refine (Hcall.out).mono ?_
        rintro e w2 ⟨rfl, h2⟩
        go_wp2_with fail
        go_roundw
        case rel => exact ⟨k + 1, by omega, by go_num, Hblk.out.below h2 Hblk.out.lt, hbw.trans (h2.mono hbw.size), fun j hj h => by
          by_cases e : j = k
          · subst e; exact Hrr.out
          · exact Hall.out j hj (by omega)⟩
        case measure => simp [intOf]; omega
    · obtain rfl : k = p.length := by omega
      have HPA := Lib.hid (show p.all Sh.right = true by
        rw [List.all_eq_true]
        intro s hs
        obtain ⟨j, hj, rfl⟩ := List.getElem_of_mem hs
        exact Hall.out j hj hj)
      clear Hall
      go_wp2_with fail
      go_loopw [34] (fun i wx => ∃ k : Nat, k ≤ x.length ∧ i = .int .i64 k ∧ Blk wx w.heap.size 26 #[.int .i64 o.kind, .int .i64 o.k, .int .i64 o.width, .int .i64 o.step, .int .i64 o.side, .int .i64 o.frm, .int .i64 o.to, .slice S o.s.length c] ∧ Below w.heap.size w wx ∧ ∀ j (h : j < x.length), j < k → Sh.right x[j] = true) (fun i _ => x.length - (intOf i).toNat)
      case atStart => exact ⟨0, Nat.zero_le _, rfl, Hblk.out, hbw, fun j _ h => by omega⟩
      case round =>
        obtain ⟨k, hk, rfl, hblx, hbx, hall⟩ := hrel
        have Hblx := Lib.hid hblx
        have Hall := Lib.hid hall
        clear hblx hall
        clear Hblk hbw
        by_cases hlt : k < x.length
        · obtain ⟨b, off, S1, d1, rfl, y1, hI1, l1, l2, l3⟩ := (HX.out.below hbx (Nat.le_refl _)).at_ hlt
          have hcall := shape_right S1 d1 x[k] wr (by omega) hI1
          cases hrr : Sh.right x[k]
          · have HE := Lib.hid (Od.shape_bad_p (p := p) HQ.out fun q => all_bad hlt hrr q.2)
            rw [hrr] at hcall
            have Hcall := Lib.hid hcall
            have HI1 := Lib.hid hI1
            clear hcall hI1
            clear hrr
            go_wp2_with fail
            refine (Hcall.out).mono ?_
            rintro e w2 ⟨rfl, h2⟩
            go_wp2_with fail
            go_ret2
            exact ShPost.fail HE.out (hbx.trans (h2.mono hbx.size))
          · rw [hrr] at hcall
            have Hcall := Lib.hid hcall
            have HI1 := Lib.hid hI1
            have Hrr := Lib.hid hrr
            clear hcall hI1 hrr
            go_wp2_with fail
            refine (Hcall.out).mono ?_
            rintro e w2 ⟨rfl, h2⟩
            go_wp2_with fail
            go_roundw
            case rel => exact ⟨k + 1, by omega, by go_num, Hblx.out.below h2 Hblx.out.lt, hbx.trans (h2.mono hbx.size), fun j hj h => by
              by_cases e : j = k
              · subst e; exact Hrr.out
              · exact Hall.out j hj (by omega)⟩
            case measure => simp [intOf]; omega
        · obtain rfl : k = x.length := by omega
          have hgo := Od.shape_go HQ.out HPA.out (show x.all Sh.right = true by
            rw [List.all_eq_true]
            intro s hs
            obtain ⟨j, hj, rfl⟩ := List.getElem_of_mem hs
            exact Hall.out j hj hj)
          clear Hall HPA
          obtain ⟨q1, q2, q3, q4⟩ := Od.counts_ok HQ.out
          have hkind := Od.right_kind q1
          have hleast := Od.least_pos q1
          have hpar : Od.params o = if o.kind = 8 then 2 else if o.kind = 9 ∨ o.kind = 10 then 1 else 0 := by unfold Od.params; rw [if_pos q1]
          have hx0 : 0 < x.length := by omega
          obtain ⟨b, off, S1, d1, rfl, y1, hI1, l1, l2, l3⟩ := (HX.out.below hbx (Nat.le_refl _)).at_ hx0
          obtain ⟨x0, x1, x2, x3, x4, x5, x6, x7⟩ := op_cells Hblx.out
          rw [Nat.add_zero] at y1
          have f0 : (0 : Int) < x.length := by omega
          by_cases k8 : o.kind = 8
          · have hidk := Lib.hid k8
            have hp2 : p.length = 2 := by simp only [hpar] at q4; split at q4 <;> omega
            have hp0 : 0 < p.length := by omega
            have g0 : (0 : Int) < p.length := by omega
            have hp1 : 1 < p.length := by omega
            have g1 : (1 : Int) < p.length := by omega
            obtain ⟨b', off', S2, d2, S3, d3, rfl, y2, y3, hI2, hI3, m3, n3⟩ := (HP.out.below hbx (Nat.le_refl _)).two hp1
            have HE := Lib.hid (show Od.shape o p x = Od.dense p[0] p[1] x[0] by rw [hgo]; unfold Od.byKind; rw [if_pos k8, gets_at hp0, gets_at hp1, gets_at hx0])
            have hself : Below wr.heap.size wr wr.drew := (Below.refl _ _).drew
            have hkeep : ∀ W, Below wr.heap.size wr W → W.cell? ⟨b', off', none⟩ = some (.slice S2 p[0].length d2) ∧ W.cell? ⟨b', off' + 1, none⟩ = some (.slice S3 p[1].length d3) ∧ W.cell? ⟨b, off, none⟩ = some (.slice S1 x[0].length d1) := fun W hW => ⟨cell_below hW y2, cell_below hW y3, cell_below hW y1⟩
            have Hkeep := Lib.hid hkeep
            clear hkeep
            have HI1 := Lib.hid hI1
            have HI2 := Lib.hid hI2
            have HI3 := Lib.hid hI3
            clear hI1 hI2 hI3
            clear hgo hkind hleast q1 q2 q3 q4 hpar hp2
            skip
            all_goals
              rw [k8] at x0
              clear k8 hidk
              go_wp2_with fail
              go_region_held3 (fun W => W.cell? ⟨b', off', none⟩ = some (.slice S2 p[0].length d2) ∧ W.cell? ⟨b', off' + 1, none⟩ = some (.slice S3 p[1].length d3) ∧ W.cell? ⟨b, off, none⟩ = some (.slice S1 x[0].length d1)) (first | exact Hkeep.out _ hb5 | exact Hkeep.out _ hself)
                ((go_at_call 31; refine (op_dense S2 S3 S1 d2 d3 d1 p[0] p[1] x[0] _ l3 (HI2.out.below hself (Nat.le_refl _)) (HI3.out.below hself (Nat.le_refl _)) (HI1.out.below hself (Nat.le_refl _))).mono ?_; rintro e w3 ⟨S5, d5, rfl, hI5, r1, r2, hf5, hb5⟩; have hb5 := hself.trans hb5; have HI5 := Lib.hid hI5; clear hI5))
              all_goals
                go_wp2_with fail
                go_ret2
                exact ShPost.pass HE.out hbx HI5.out r1 r2 hf5 hb5
          by_cases k10 : o.kind = 10
          · have hidk := Lib.hid k10
            have hpx : p.length = 1 := by simp only [hpar] at q4; split at q4 <;> omega
            have hp0 : 0 < p.length := by omega
            have g0 : (0 : Int) < p.length := by omega
            obtain ⟨b', off', S2, d2, rfl, y2, hI2, m1, m2, m3⟩ := (HP.out.below hbx (Nat.le_refl _)).at_ hp0
            rw [Nat.add_zero] at y2
            have HE := Lib.hid (show Od.shape o p x = Od.conv p[0] x[0] o.step by rw [hgo]; unfold Od.byKind; rw [if_neg (by omega), if_neg (by omega), if_pos k10, gets_at hp0, gets_at hx0])
            have hself : Below wr.heap.size wr wr.drew := (Below.refl _ _).drew
            have hkeep : ∀ W, Below wr.heap.size wr W → W.cell? ⟨b', off', none⟩ = some (.slice S2 p[0].length d2) ∧ W.cell? ⟨b, off, none⟩ = some (.slice S1 x[0].length d1) ∧ W.cell? ⟨w.heap.size, 3, none⟩ = some (.int .i64 o.step) := fun W hW => ⟨cell_below hW y2, cell_below hW y1, cell_below hW x3⟩
            have Hkeep := Lib.hid hkeep
            clear hkeep
            have HI1 := Lib.hid hI1
            have HI2 := Lib.hid hI2
            clear hI1 hI2
            clear hgo hkind hleast q1 q2 q3 q4 hpar hpx
            skip
            all_goals
              rw [k10] at x0
              clear k10 hidk
              go_wp2_with fail
              go_region_held3 (fun W => W.cell? ⟨b', off', none⟩ = some (.slice S2 p[0].length d2) ∧ W.cell? ⟨b, off, none⟩ = some (.slice S1 x[0].length d1) ∧ W.cell? ⟨w.heap.size, 3, none⟩ = some (.int .i64 o.step)) (first | exact Hkeep.out _ hb5 | exact Hkeep.out _ hself)
                ((go_at_call 33; refine (conv_shape S2 S1 d2 d1 p[0] x[0] o.step _ m3 l3 l1 l2 (HI2.out.below hself (Nat.le_refl _)) (HI1.out.below hself (Nat.le_refl _))).mono ?_; rintro e w3 ⟨S5, d5, rfl, hI5, r1, r2, hf5, hb5⟩; have hb5 := hself.trans hb5; have HI5 := Lib.hid hI5; clear hI5))
              all_goals
                go_wp2_with fail
                go_ret2
                exact ShPost.pass HE.out hbx HI5.out r1 r2 hf5 hb5
          by_cases k11 : o.kind = 11 ∨ o.kind = 12
          · have hidk := Lib.hid k11
            have HE := Lib.hid (show Od.shape o p x = Od.pool x[0] o.width o.step by rw [hgo]; unfold Od.byKind; rw [if_neg (by omega), if_neg (by omega), if_neg (by omega), if_pos (by omega), gets_at hx0])
            have hself : Below wr.heap.size wr wr.drew := (Below.refl _ _).drew
            have hkeep : ∀ W, Below wr.heap.size wr W → W.cell? ⟨b, off, none⟩ = some (.slice S1 x[0].length d1) ∧ W.cell? ⟨w.heap.size, 2, none⟩ = some (.int .i64 o.width) ∧ W.cell? ⟨w.heap.size, 3, none⟩ = some (.int .i64 o.step) := fun W hW => ⟨cell_below hW y1, cell_below hW x2, cell_below hW x3⟩
            have Hkeep := Lib.hid hkeep
            clear hkeep
            have HI1 := Lib.hid hI1
            clear hI1
            clear hgo hkind hleast q1 q2 q3 q4 hpar
            rcases k11 with k11 | k11
            all_goals
              rw [k11] at x0
              clear k11 hidk
              go_wp2_with fail
              go_region_held3 (fun W => W.cell? ⟨b, off, none⟩ = some (.slice S1 x[0].length d1) ∧ W.cell? ⟨w.heap.size, 2, none⟩ = some (.int .i64 o.width) ∧ W.cell? ⟨w.heap.size, 3, none⟩ = some (.int .i64 o.step)) (first | exact Hkeep.out _ hb5 | exact Hkeep.out _ hself)
                ((go_at_call 34; refine (pool_shape S1 d1 x[0] o.width o.step _ l3 (HI1.out.below hself (Nat.le_refl _))).mono ?_; rintro e w3 ⟨S5, d5, rfl, hI5, r1, r2, hf5, hb5⟩; have hb5 := hself.trans hb5; have HI5 := Lib.hid hI5; clear hI5))
              all_goals
                go_wp2_with fail
                go_ret2
                exact ShPost.pass HE.out hbx HI5.out r1 r2 hf5 hb5
          by_cases k13 : o.kind = 13
          · have hidk := Lib.hid k13
            have HE := Lib.hid (show Od.shape o p x = Od.joined o.side x by rw [hgo]; unfold Od.byKind; rw [if_neg (by omega), if_neg (by omega), if_neg (by omega), if_neg (by omega), if_pos (by omega)])
            have hself : Below wr.heap.size wr wr.drew := (Below.refl _ _).drew
            have HI1 := Lib.hid hI1
            clear hI1
            clear hgo hkind hleast q1 q2 q3 q4 hpar
            skip
            all_goals
              rw [k13] at x0
              clear k13 hidk
              go_wp2_with fail
              refine (op_joined _ f o.side x _ hx0 (HX.out.2.1) (HX.out.2.2.1) (HX.out.below hbx (Nat.le_refl _)).1 HX.out.2.2.2).mono ?_
              rintro e w3 ⟨S5, d5, rfl, hI5, r1, r2, hf5, hb5⟩
              have HI5 := Lib.hid hI5
              clear hI5
              go_wp2_with fail
              go_ret2
              exact ShPost.pass HE.out hbx HI5.out r1 r2 hf5 hb5
          by_cases k14 : o.kind = 14
          · have hidk := Lib.hid k14
            have HE := Lib.hid (show Od.shape o p x = Od.cut x[0] o.side o.frm o.to by rw [hgo]; unfold Od.byKind; rw [if_neg (by omega), if_neg (by omega), if_neg (by omega), if_neg (by omega), if_neg (by omega), if_pos (by omega), gets_at hx0])
            have hself : Below wr.heap.size wr wr.drew := (Below.refl _ _).drew
            have hkeep : ∀ W, Below wr.heap.size wr W → W.cell? ⟨b, off, none⟩ = some (.slice S1 x[0].length d1) ∧ W.cell? ⟨w.heap.size, 4, none⟩ = some (.int .i64 o.side) ∧ W.cell? ⟨w.heap.size, 5, none⟩ = some (.int .i64 o.frm) ∧ W.cell? ⟨w.heap.size, 6, none⟩ = some (.int .i64 o.to) := fun W hW => ⟨cell_below hW y1, cell_below hW x4, cell_below hW x5, cell_below hW x6⟩
            have Hkeep := Lib.hid hkeep
            clear hkeep
            have HI1 := Lib.hid hI1
            clear hI1
            clear hgo hkind hleast q1 q2 q3 q4 hpar
            skip
            all_goals
              rw [k14] at x0
              clear k14 hidk
              go_wp2_with fail
              go_region_held3 (fun W => W.cell? ⟨b, off, none⟩ = some (.slice S1 x[0].length d1) ∧ W.cell? ⟨w.heap.size, 4, none⟩ = some (.int .i64 o.side) ∧ W.cell? ⟨w.heap.size, 5, none⟩ = some (.int .i64 o.frm) ∧ W.cell? ⟨w.heap.size, 6, none⟩ = some (.int .i64 o.to)) (first | exact Hkeep.out _ hb5 | exact Hkeep.out _ hself)
                ((go_at_call 36; refine (shape_cut S1 d1 x[0] o.side o.frm o.to _ l3 (HI1.out.below hself (Nat.le_refl _))).mono ?_; rintro e w3 ⟨S5, d5, rfl, hI5, r1, r2, hf5, hb5⟩; have hb5 := hself.trans hb5; have HI5 := Lib.hid hI5; clear hI5))
              all_goals
                go_wp2_with fail
                go_ret2
                exact ShPost.pass HE.out hbx HI5.out r1 r2 hf5 hb5
          by_cases k15 : o.kind = 15
          · have hidk := Lib.hid k15
            have HE := Lib.hid (show Od.shape o p x = Od.turned x[0] o.s by rw [hgo]; unfold Od.byKind; rw [if_neg (by omega), if_neg (by omega), if_neg (by omega), if_neg (by omega), if_neg (by omega), if_neg (by omega), if_pos (by omega), gets_at hx0])
            have hself : Below wr.heap.size wr wr.drew := (Below.refl _ _).drew
            have hkeep : ∀ W, Below wr.heap.size wr W → W.cell? ⟨b, off, none⟩ = some (.slice S1 x[0].length d1) ∧ W.cell? ⟨w.heap.size, 7, none⟩ = some (.slice S o.s.length c) := fun W hW => ⟨cell_below hW y1, cell_below hW x7⟩
            have Hkeep := Lib.hid hkeep
            clear hkeep
            have HI1 := Lib.hid hI1
            clear hI1
            clear hgo hkind hleast q1 q2 q3 q4 hpar
            skip
            all_goals
              rw [k15] at x0
              clear k15 hidk
              go_wp2_with fail
              go_region_held3 (fun W => W.cell? ⟨b, off, none⟩ = some (.slice S1 x[0].length d1) ∧ W.cell? ⟨w.heap.size, 7, none⟩ = some (.slice S o.s.length c)) (first | exact Hkeep.out _ hb5 | exact Hkeep.out _ hself)
                ((go_at_call 37; refine (op_turned S1 S d1 c x[0] o.s _ l3 ho (HI1.out.below hself (Nat.le_refl _)) (HI.out.below (hbx.trans (hself.mono hbx.size)) (Nat.le_refl _))).mono ?_; rintro e w3 ⟨S5, d5, rfl, hI5, r1, r2, hf5, hb5⟩; have hb5 := hself.trans hb5; have HI5 := Lib.hid hI5; clear hI5))
              all_goals
                go_wp2_with fail
                go_ret2
                exact ShPost.pass HE.out hbx HI5.out r1 r2 hf5 hb5
          by_cases k9 : o.kind = 9
          · have hpx : p.length = 1 := by simp only [hpar] at q4; split at q4 <;> omega
            have hp0 : 0 < p.length := by omega
            have g0 : (0 : Int) < p.length := by omega
            obtain ⟨b', off', S2, d2, rfl, y2, hI2, m1, m2, m3⟩ := (HP.out.below hbx (Nat.le_refl _)).at_ hp0
            rw [Nat.add_zero] at y2
            have HE := Lib.hid (show Od.shape o p x = Od.same [p[0], x[0]] by rw [hgo]; unfold Od.byKind; rw [if_neg (by omega), if_pos k9, gets_at hp0, gets_at hx0])
            have hself : Below wr.heap.size wr wr.drew := (Below.refl _ _).drew
            have hkeep : ∀ W, Below wr.heap.size wr W → W.cell? ⟨b', off', none⟩ = some (.slice S2 p[0].length d2) ∧ W.cell? ⟨b, off, none⟩ = some (.slice S1 x[0].length d1) := fun W hW => ⟨cell_below hW y2, cell_below hW y1⟩
            rw [k9] at x0
            have Hkeep := Lib.hid hkeep
            have HI1 := Lib.hid hI1
            have HI2 := Lib.hid hI2
            have Hk9 := Lib.hid k9
            clear hkeep hI1 hI2 k9
            clear hgo hkind hleast q1 q2 q3 q4 hpar hpx
            have hal : Below wr.heap.size wr (wr.drew.alloc (.cells #[.slice S2 p[0].length d2, .slice S1 x[0].length d1] 24)) := hself.alloc (Nat.le_refl _) _
            have hpair := pair_shps (t := 24) (HI2.out.below hself (Nat.le_refl _)) (HI1.out.below hself (Nat.le_refl _)) m1 m2 l1 l2
            have hsame := op_same (some ⟨wr.drew.heap.size, 0, none⟩) 2 [p[0], x[0]] _ (by simp) (by simp) (by omega) hpair (by simp [m3, l3])
            have Hpair := Lib.hid hpair
            have Hsame := Lib.hid hsame
            clear hpair hsame
            go_wp2_with fail
            go_region_held3 (fun W => W.cell? ⟨b', off', none⟩ = some (.slice S2 p[0].length d2) ∧ W.cell? ⟨b, off, none⟩ = some (.slice S1 x[0].length d1)) (first | exact Hkeep.out _ hb5 | exact Hkeep.out _ hal | exact Hkeep.out _ hself)
              ((go_at_call 32; refine (Hsame.out).mono ?_; rintro e w3 ⟨S5, d5, rfl, hI5, r1, r2, hf5, hb5⟩; have hb6 := hb5; have hb5 := hal.trans (hb5.mono hal.size); have HI5 := Lib.hid hI5; clear hI5))
            all_goals
              go_wp2_with fail
              go_ret2
              exact ShPost.pass HE.out (hbx.trans (hal.mono hbx.size)) HI5.out r1 r2 hf5 hb6
          have HE := Lib.hid (show Od.shape o p x = Od.same x by rw [hgo]; unfold Od.byKind; rw [if_neg (by omega), if_neg (by omega), if_neg (by omega), if_neg (by omega), if_neg (by omega), if_neg (by omega), if_neg (by omega)])
          have n8 : (o.kind == 8) = false := by simp; omega
          have n9 : (o.kind == 9) = false := by simp; omega
          have n10 : (o.kind == 10) = false := by simp; omega
          have n11 : (o.kind == 11) = false := by simp; omega
          have n12 : (o.kind == 12) = false := by simp; omega
          have n13 : (o.kind == 13) = false := by simp; omega
          have n14 : (o.kind == 14) = false := by simp; omega
          have n15 : (o.kind == 15) = false := by simp; omega
          clear hgo hkind hleast q1 q2 q3 q4 hpar hI1 k8 k9 k10 k11 k13 k14 k15
          go_wp2_with fail
          refine (op_same _ f x _ hx0 (HX.out.2.1) (HX.out.2.2.1) (HX.out.below hbx (Nat.le_refl _)).1 HX.out.2.2.2).mono ?_
          rintro e w3 ⟨S5, d5, rfl, hI5, r1, r2, hf5, hb5⟩
          have HI5 := Lib.hid hI5
          clear hI5
          go_wp2_with fail
          go_ret2
          exact ShPost.pass HE.out hbx HI5.out r1 r2 hf5 hb5
end Go.Proofs.Ytbnnpkcfifejmaa
/- The plain law of layers 10 and 13: costs. -/
namespace Go.Proofs.Ytbnnpkcfifejmaa
namespace Od
/-- What a right op costs, of parameters p, with the output s. -/
def costV (o : OpD) (p : List (List Int)) (s : List Int) : Int :=
  if o.kind = 8 then Safe.prod (p.getD 0 [])
  else if o.kind = 10 then Safe.prod s * (Safe.prod (p.getD 0 [])).tdiv ((p.getD 0 []).getD 0 0)
  else if o.kind = 11 ∨ o.kind = 12 then Safe.prod s * o.width
  else Safe.prod s
def cost (o : OpD) (p x : List (List Int)) : Int × Int := if (shape o p x).2 = 0 then (costV o p (shape o p x).1, 0) else (0, (shape o p x).2)
theorem shape_good {o : OpD} {p x : List (List Int)} (h : (shape o p x).2 = 0) : right o = true ∧ (p.length : Int) = params o ∧ least o ≤ (x.length : Int) ∧ (∀ s ∈ p, Sh.right s = true) ∧ (∀ s ∈ x, Sh.right s = true) ∧ (byKind o p x).2 = 0 ∧ shape o p x = byKind o p x := by
  obtain ⟨h1, h2, h3, h4, h5, h6, h7⟩ := shape_ok h
  exact ⟨h1, h4, h2, List.all_eq_true.1 h5, List.all_eq_true.1 h6, by rw [← h7]; exact h, h7⟩
theorem mul2 {a b : Int} (ha : 0 ≤ a) (ha2 : a ≤ 65536) (hb : 0 ≤ b) (hb2 : b ≤ 65536) : Safe.mul [a, b] = (a * b, 0) ∧ 0 ≤ a * b ∧ a * b ≤ 4294967296 := by
  have h0 : 0 ≤ a * b := Int.mul_nonneg ha hb
  have h1 : a * b ≤ 65536 * 65536 := Int.le_trans (Int.mul_le_mul_of_nonneg_right ha2 hb) (Int.mul_le_mul_of_nonneg_left hb2 (by omega))
  refine ⟨?_, h0, by omega⟩
  have hp : Safe.prod [a, b] = a * b := by simp [Safe.prod]
  unfold Safe.mul
  rw [if_pos (by simp [Safe.ok]; omega), hp]
  split
  · rw [if_pos (by unfold Safe.top; omega)]
  · rename_i hz
    simp at hz
    by_cases e : a = 0
    · subst e; simp
    · by_cases e2 : b = 0
      · subst e2; simp
      · exact absurd (hz e) e2
theorem window_width {side width step : Int} (h : (window side width step).2 = 0) : 1 ≤ width ∧ width ≤ 1024 := by
  unfold window at h
  split at h
  · rename_i hc; exact (Sh.side_iff _).1 hc.2.1
  · simp at h
/-- The parts of a cost, and their bounds. -/
theorem cost_parts {o : OpD} {p x : List (List Int)} (h : (shape o p x).2 = 0) :
    (o.kind = 8 → 0 < p.length) ∧ (o.kind = 10 → 0 < p.length ∧ 0 < (p.getD 0 []).length ∧ 1 ≤ (p.getD 0 []).getD 0 0 ∧ (p.getD 0 []).getD 0 0 ≤ 1024) ∧ (o.kind = 11 ∨ o.kind = 12 → 1 ≤ o.width ∧ o.width ≤ 1024) := by
  obtain ⟨hr, hp, hx, hpr, hxr, hb, _⟩ := shape_good h
  refine ⟨fun e => ?_, fun e => ?_, fun e => ?_⟩
  · unfold params at hp; rw [if_pos hr, if_pos e] at hp; omega
  · have hl : 0 < p.length := by unfold params at hp; rw [if_pos hr, if_neg (by omega), if_pos (by omega)] at hp; omega
    have e0 : p.getD 0 [] = p[0] := by simp [List.getD_eq_getElem?_getD, hl]
    have h0 := hpr p[0] (List.getElem_mem hl)
    obtain ⟨_, _, h3, h4, _, _⟩ := Sh.right_mul h0
    rw [e0]
    have e1 : p[0].getD 0 0 = p[0][0]'(by omega) := by rw [List.getD_eq_getElem?_getD, List.getElem?_eq_getElem (by omega)]; rfl
    rw [e1]
    have := h4 _ (List.getElem_mem (show 0 < p[0].length by omega))
    exact ⟨hl, by omega, this.1, this.2⟩
  · have : (pool (x.getD 0 []) o.width o.step).2 = 0 := by
      have hb2 := hb
      unfold byKind at hb2
      rw [if_neg (by omega), if_neg (by omega), if_neg (by omega), if_pos e] at hb2
      exact hb2
    unfold pool at this
    split at this
    · split at this
      · rename_i h; exact window_width h
      · simp at this
    · simp at this
theorem prod_right_ {s : List Int} (h : Sh.right s = true) : 1 ≤ Safe.prod s ∧ Safe.prod s ≤ 65536 := by
  obtain ⟨_, _, _, _, h5, h6⟩ := Sh.right_mul h
  exact ⟨h5, h6⟩
theorem costV_bd {o : OpD} {p x : List (List Int)} (h : (shape o p x).2 = 0) : 0 ≤ costV o p (shape o p x).1 ∧ costV o p (shape o p x).1 ≤ 4294967296 := by
  obtain ⟨hr, hp, hx, hpr, hxr, hb, _⟩ := shape_good h
  obtain ⟨h8, h10, h11⟩ := cost_parts h
  have hs := prod_right_ (shape_right h)
  have hp0 : 0 < p.length → 1 ≤ Safe.prod (p.getD 0 []) ∧ Safe.prod (p.getD 0 []) ≤ 65536 := fun hl => by
    have e0 : p.getD 0 [] = p[0] := by simp [List.getD_eq_getElem?_getD, hl]
    rw [e0]; exact prod_right_ (hpr _ (List.getElem_mem hl))
  unfold costV
  split
  · rename_i e; have := hp0 (h8 e); omega
  · split
    · rename_i e
      obtain ⟨a1, a2, a3, a4⟩ := h10 e
      have := hp0 a1
      have q1 : 0 ≤ (Safe.prod (p.getD 0 [])).tdiv ((p.getD 0 []).getD 0 0) := Int.tdiv_nonneg (by omega) (by omega)
      have q2 : (Safe.prod (p.getD 0 [])).tdiv ((p.getD 0 []).getD 0 0) ≤ Safe.prod (p.getD 0 []) := Int.tdiv_le_self _ (by omega)
      exact (mul2 (by omega) hs.2 q1 (by omega)).2
    · split
      · rename_i e
        have := h11 e
        exact (mul2 (by omega) hs.2 (by omega) (by omega)).2
      · omega
end Od
end Go.Proofs.Ytbnnpkcfifejmaa
/- The references of layers 3, 5, 7, 10: contracts of the small ones. -/
namespace Go.Proofs.Ytbnnpkcfifejmaa
open Go.RowKit

theorem prod_snoc (l : List Int) (x : Int) : Safe.prod (l ++ [x]) = Safe.prod l * x := by
  induction l with
  | nil => simp [Safe.prod]
  | cons a r ih => simp only [List.cons_append, Safe.prod, ih]; rw [Int.mul_assoc]
theorem prod_pos1 {l : List Int} (h : ∀ x ∈ l, 1 ≤ x) : 1 ≤ Safe.prod l := by
  induction l with
  | nil => simp [Safe.prod]
  | cons a r ih =>
    have h1 := h a (by simp)
    have h2 := ih fun x hx => h x (by simp [hx])
    simp only [Safe.prod]
    have := Int.mul_pos (show 0 < a by omega) (show 0 < Safe.prod r by omega)
    omega
set_option maxHeartbeats 4000000 in
theorem ref05_ins (k : Int) (w : World) : Calls Try.prog 64 #[.int .i64 k] w fun e w' => e = .returned (.int .i64 (Od.ptIns k)) ∧ w = w' := by
  by_cases h1 : 1 ≤ k ∧ k ≤ 5
  · have HX := Lib.hid (show Od.ptIns k = 1 by unfold Od.ptIns; rw [if_pos h1])
    obtain ⟨a, b⟩ := h1
    go_enter Try.func64, Try.ntmps64
    go_wp2_with fail
    go_ret
    exact ⟨by rw [HX.out]; rfl, rfl⟩
  · by_cases h2 : k = 6 ∨ k = 7
    · have HX := Lib.hid (show Od.ptIns k = 2 by unfold Od.ptIns; rw [if_neg h1, if_pos h2])
      clear h1
      rcases h2 with rfl | rfl
      all_goals
        go_enter Try.func64, Try.ntmps64
        go_wp2_with fail
        go_ret
        exact ⟨by rw [HX.out]; rfl, rfl⟩
    · have HX := Lib.hid (show Od.ptIns k = 0 by unfold Od.ptIns; rw [if_neg h1, if_neg h2])
      have e6 : (k == 6) = false := by simp; omega
      have e7 : (k == 7) = false := by simp; omega
      by_cases h3 : 1 ≤ k
      · have d2 : decide (k ≤ 5) = false := by simp; omega
        clear h1 h2
        go_enter Try.func64, Try.ntmps64
        go_wp2_with fail
        go_ret
        exact ⟨by rw [HX.out]; rfl, rfl⟩
      · have d2 : decide (1 ≤ k) = false := by simp; omega
        clear h1 h2
        go_enter Try.func64, Try.ntmps64
        go_wp2_with fail
        go_ret
        exact ⟨by rw [HX.out]; rfl, rfl⟩
def refIns (k : Int) : Int × Int := if 1 ≤ k ∧ k ≤ 7 then (Od.ptIns k, Od.ptIns k) else if k = 13 then (1, 8) else if 8 ≤ k ∧ k ≤ 15 then (1, 1) else (0, 0)
theorem refIns_right {o : OpD} (h : Od.right o = true) : refIns o.kind = (Od.least o, Od.most o) := by
  have hk := Od.right_kind h
  unfold refIns Od.least Od.most
  rw [if_pos h, if_pos h]
  by_cases h7 : o.kind ≤ 7
  · rw [if_pos ⟨hk.1, h7⟩, if_pos h7, if_pos h7]
  · rw [if_neg (by omega), if_neg h7, if_neg h7]
    by_cases h13 : o.kind = 13
    · rw [if_pos h13, if_pos h13]
    · rw [if_neg h13, if_neg h13, if_pos (by omega)]
def refPar (k : Int) : Int := if k = 8 then 2 else if k = 9 ∨ k = 10 then 1 else 0
theorem refPar_right {o : OpD} (h : Od.right o = true) : refPar o.kind = Od.params o := by unfold refPar Od.params; rw [if_pos h]
set_option maxHeartbeats 4000000 in
theorem ref10_ins (k : Int) (w : World) (hk : 1 ≤ k ∧ k ≤ 15) : Calls Try.prog 27 #[.int .i64 k] w fun e w' => e = .returned (.tuple #[.int .i64 (refIns k).1, .int .i64 (refIns k).2]) ∧ w = w' := by
  by_cases h1 : k ≤ 7
  · have HX := Lib.hid (show refIns k = (Od.ptIns k, Od.ptIns k) by unfold refIns; rw [if_pos ⟨hk.1, h1⟩])
    obtain ⟨a, b⟩ := hk
    go_enter Try.func27, Try.ntmps27
    go_wp2_with fail
    refine (ref05_ins k _).mono ?_
    rintro e w1 ⟨rfl, rfl⟩
    go_wp2_with fail
    go_ret2
    exact ⟨by rw [HX.out]; rfl, rfl⟩
  · have d7 : decide (k ≤ 7) = false := by simp; omega
    by_cases h13 : k = 13
    · have HX := Lib.hid (show refIns k = (1, 8) by unfold refIns; rw [if_neg (by omega), if_pos h13])
      subst h13
      clear hk
      go_enter Try.func27, Try.ntmps27
      go_wp2_with fail
      go_ret2
      exact ⟨by rw [HX.out]; rfl, rfl⟩
    · have HX := Lib.hid (show refIns k = (1, 1) by unfold refIns; rw [if_neg (by omega), if_neg h13, if_pos (by omega)])
      have e13 : (k == 13) = false := by simp; omega
      have g8 : 8 ≤ k := by omega
      obtain ⟨a, b⟩ := hk
      clear h13
      go_enter Try.func27, Try.ntmps27
      go_wp2_with fail
      go_ret2
      exact ⟨by rw [HX.out]; rfl, rfl⟩
set_option maxHeartbeats 4000000 in
theorem ref10_params (k : Int) (w : World) : Calls Try.prog 28 #[.int .i64 k] w fun e w' => e = .returned (.int .i64 (refPar k)) ∧ w = w' := by
  by_cases h8 : k = 8
  · subst h8
    go_enter Try.func28, Try.ntmps28
    go_wp2_with fail
    go_ret
    exact ⟨rfl, rfl⟩
  · by_cases h9 : k = 9
    · subst h9
      clear h8
      go_enter Try.func28, Try.ntmps28
      go_wp2_with fail
      go_ret
      exact ⟨rfl, rfl⟩
    · by_cases h10 : k = 10
      · subst h10
        clear h8 h9
        go_enter Try.func28, Try.ntmps28
        go_wp2_with fail
        go_ret
        exact ⟨rfl, rfl⟩
      · have HX := Lib.hid (show refPar k = 0 by unfold refPar; rw [if_neg h8, if_neg (by omega)])
        have e8 : (k == 8) = false := by simp; omega
        have e9 : (k == 9) = false := by simp; omega
        have e10 : (k == 10) = false := by simp; omega
        clear h8 h9 h10
        go_enter Try.func28, Try.ntmps28
        go_wp2_with fail
        go_ret
        exact ⟨by rw [HX.out]; rfl, rfl⟩
end Go.Proofs.Ytbnnpkcfifejmaa
/- Layer 11 (net): which number nobody uses: contract. -/
namespace Go.Proofs.Ytbnnpkcfifejmaa
open Go.RowKit

/-- The net's rows are of a length that can be gone through. -/
def NodeD.ok (v : NodeD) : Prop := v.op.wide ∧ v.op.s.length ≤ 1048576 ∧ v.ins.length ≤ 1048576 ∧ v.p.length ≤ 1048576 ∧ (∀ s ∈ v.p, s.length ≤ 1048576) ∧ ∀ z ∈ v.ins, -9223372036854775808 ≤ z ∧ z ≤ 9223372036854775807
def NetD.ok (n : NetD) : Prop := n.inn.length ≤ 1048576 ∧ n.nodes.length ≤ 1048576 ∧ ∀ v ∈ n.nodes, v.ok

/-- One node's cells, from the place o of block b on. -/
def NodeAt (w : World) (b o : Nat) (v : NodeD) (S : Option Addr) (c : Nat) (I : Option Addr) (d : Nat) (Q : Option Addr) (q : Nat) : Prop :=
    (w.cell? ⟨b, o, none⟩ = some (.int .i64 v.op.kind) ∧ w.cell? ⟨b, o + 1, none⟩ = some (.int .i64 v.op.k) ∧ w.cell? ⟨b, o + 2, none⟩ = some (.int .i64 v.op.width) ∧
    w.cell? ⟨b, o + 3, none⟩ = some (.int .i64 v.op.step) ∧ w.cell? ⟨b, o + 4, none⟩ = some (.int .i64 v.op.side) ∧ w.cell? ⟨b, o + 5, none⟩ = some (.int .i64 v.op.frm) ∧
    w.cell? ⟨b, o + 6, none⟩ = some (.int .i64 v.op.to) ∧ w.cell? ⟨b, o + 7, none⟩ = some (.slice S v.op.s.length c) ∧
    w.cell? ⟨b, o + 8, none⟩ = some (.slice I v.ins.length d) ∧ w.cell? ⟨b, o + 9, none⟩ = some (.slice Q v.p.length q)) ∧
    Ints .i64 w S v.op.s ∧ Ints .i64 w I v.ins ∧ Shps w Q v.p
theorem NodeAt.below {w w' : World} {b o : Nat} {v : NodeD} {S : Option Addr} {c : Nat} {I : Option Addr} {d : Nat} {Q : Option Addr} {q : Nat} (h : NodeAt w b o v S c I d Q q) (hb : Below w.heap.size w w') : NodeAt w' b o v S c I d Q q := by
  obtain ⟨⟨y0, y1, y2, y3, y4, y5, y6, y7, y8, y9⟩, h1, h2, h3⟩ := h
  exact ⟨⟨cell_below hb y0, cell_below hb y1, cell_below hb y2, cell_below hb y3, cell_below hb y4, cell_below hb y5, cell_below hb y6, cell_below hb y7, cell_below hb y8, cell_below hb y9⟩, h1.below hb (Nat.le_refl _), h2.below hb (Nat.le_refl _), h3.below hb (Nat.le_refl _)⟩
theorem Nodes.at_ {w : World} {A : Option Addr} {ns : List NodeD} (h : Nodes w A ns) {j : Nat} (hj : j < ns.length) :
    ∃ b off S c I d Q q, A = some ⟨b, off, none⟩ ∧ NodeAt w b (off + j * 10) ns[j] S c I d Q q ∧ (ns[j].op.s.length ≤ c ∧ c ≤ 9223372036854775807) ∧ (ns[j].ins.length ≤ d ∧ d ≤ 9223372036854775807) ∧ (ns[j].p.length ≤ q ∧ q ≤ 9223372036854775807) := by
  obtain ⟨b, off, S, c, I, d, Q, q, e, _, y0, y1, y2, y3, y4, y5, y6, y7, y8, y9, ⟨h1, h1'⟩, ⟨h2, h2'⟩, h3, h3'⟩ := h j hj
  exact ⟨b, off, S, c, I, d, Q, q, e, ⟨⟨y0, y1, y2, y3, y4, y5, y6, y7, y8, y9⟩, h1, h2, h3⟩, h1', h2', h3'⟩

namespace Nt
/-- What is used by the first k nodes, and by the ins l of the next one. -/
def usedMid (ns : List NodeD) (n k : Nat) (l : List Int) : List Bool := (nums n).map fun id => isUsed (ns.take k) id || l.contains id
theorem usedMid_len (ns : List NodeD) (n k : Nat) (l : List Int) : (usedMid ns n k l).length = n + 1 := by simp [usedMid, nums]
theorem usedMid_zero (ns : List NodeD) (n : Nat) : usedMid ns n 0 [] = List.replicate (n + 1) false := by
  unfold usedMid
  rw [List.eq_replicate_iff]
  refine ⟨by simp [nums], fun b hb => ?_⟩
  obtain ⟨x, _, rfl⟩ := List.mem_map.1 hb
  simp [isUsed]
theorem usedMid_next (ns : List NodeD) (n : Nat) {k : Nat} (hk : k < ns.length) : usedMid ns n k ns[k].ins = usedMid ns n (k + 1) [] := by
  unfold usedMid
  apply List.map_congr_left
  intro id _
  rw [List.take_succ_eq_append_getElem hk]
  simp only [isUsed, List.any_append, List.any_cons, List.any_nil, List.contains_nil, Bool.or_false]
theorem usedMid_in (ns : List NodeD) (n k : Nat) (l : List Int) {id : Int} (h0 : 0 ≤ id) (h1 : id ≤ n) : usedMid ns n k (l ++ [id]) = (usedMid ns n k l).set id.toNat true := by
  apply List.ext_getElem?
  intro j
  rw [List.getElem?_set]
  unfold usedMid nums
  simp only [List.map_map, List.getElem?_map, List.length_map, List.length_range]
  by_cases hj : j < n + 1
  · rw [List.getElem?_range hj]
    by_cases e : id.toNat = j
    · subst e
      have : ((id.toNat : Nat) : Int) = id := by omega
      simp [hj, this]
    · have e2 : (j : Int) ≠ id := by omega
      simp [e, e2]
  · rw [List.getElem?_eq_none (by simp; omega)]
    simp
    intro q; omega
theorem usedMid_all (ns : List NodeD) : usedMid ns ns.length ns.length [] = (nums ns.length).map (isUsed ns) := by
  unfold usedMid
  apply List.map_congr_left
  intro id _
  simp
/-- The unused ones of the first numbers. -/
def unusedTo (ns : List NodeD) (k : Nat) : List Int := ((List.range k).map fun i : Nat => (i : Int)).filter fun id => !isUsed ns id
theorem unusedTo_succ (ns : List NodeD) (k : Nat) : unusedTo ns (k + 1) = if isUsed ns k then unusedTo ns k else unusedTo ns k ++ [(k : Int)] := by
  unfold unusedTo
  rw [List.range_succ, List.map_append, List.filter_append]
  cases h : isUsed ns k <;> simp [h]
theorem unusedTo_all (ns : List NodeD) : unusedTo ns (ns.length + 1) = unused ns := rfl
theorem unusedTo_len (ns : List NodeD) (k : Nat) : (unusedTo ns k).length ≤ k := by
  unfold unusedTo
  exact Nat.le_trans (List.length_filter_le _ _) (by simp)
end Nt
theorem bool_info : (Try.prog.info? 4).map (fun i => (i.zero, i.size, i.bytes)) = some (some (.bool false), 1, 1) := by kernel_rfl
theorem made_one (v : Value) (n : Nat) : (madeCells #[v] n).toList = List.replicate n v := by
  rw [List.eq_replicate_iff]
  refine ⟨by simp [madeCells], fun b hb => ?_⟩
  simp [madeCells] at hb
  obtain ⟨x, _, rfl⟩ := hb
  simp [Nat.mod_one]

end Go.Proofs.Ytbnnpkcfifejmaa
/- Layer 10 (op): Cost; its reference; layer 13's sizes: contracts. -/
namespace Go.Proofs.Ytbnnpkcfifejmaa
open Go.RowKit
theorem Sh.size_right {s : List Int} (h : Sh.right s = true) : Sh.size s = (Safe.prod s, 0) := by simp [Sh.size, h]
theorem Sh.prod_bd {s : List Int} (h : Sh.right s = true) : 1 ≤ Safe.prod s ∧ Safe.prod s ≤ 65536 := Od.prod_right_ h
theorem ints_two {w : World} {t : TypeId} (a b : Int) : Ints .i64 (w.alloc (.cells #[.int .i64 a, .int .i64 b] t)) (some ⟨w.heap.size, 0, none⟩) [a, b] := Ints.of_row fun j hj => by
  have hk := Blk.new w t #[.int .i64 a, .int .i64 b]
  have hj2 : j = 0 ∨ j = 1 := by simp at hj; omega
  rcases hj2 with rfl | rfl <;> (rw [hk.cell]; rfl)
set_option maxRecDepth 20000 in
set_option maxHeartbeats 8000000 in
theorem op_cost (o : OpD) (S P X : Option Addr) (c d f : Nat) (p x : List (List Int)) (w : World) (ho : o.s.length ≤ 17592186043904) (hI : Ints .i64 w S o.s) (hP : ShpIn w P d p) (hX : ShpIn w X f x) :
    Calls Try.prog 13 #[.agg #[.int .i64 o.kind, .int .i64 o.k, .int .i64 o.width, .int .i64 o.step, .int .i64 o.side, .int .i64 o.frm, .int .i64 o.to, .slice S o.s.length c], .slice P p.length d, .slice X x.length f] w fun e w' => e = .returned (.tuple #[.int .i64 (Od.cost o p x).1, .int .i64 (Od.cost o p x).2]) ∧ Below w.heap.size w w' := by
  have hk0 := Blk.new w 26 #[.int .i64 o.kind, .int .i64 o.k, .int .i64 o.width, .int .i64 o.step, .int .i64 o.side, .int .i64 o.frm, .int .i64 o.to, .slice S o.s.length c]
  have hl0 : Later w (w.alloc (.cells #[.int .i64 o.kind, .int .i64 o.k, .int .i64 o.width, .int .i64 o.step, .int .i64 o.side, .int .i64 o.frm, .int .i64 o.to, .slice S o.s.length c] 26)) := (Later.refl w).alloc _
  have HI := Lib.hid hI
  have HP := Lib.hid hP
  have HX := Lib.hid hX
  have Hk0 := Lib.hid hk0
  have Hl0 := Lib.hid hl0
  clear hI hP hX hk0 hl0
  go_enter Try.func13, Try.ntmps13
  go_wp2_with fail
  generalize w.alloc (.cells #[.int .i64 o.kind, .int .i64 o.k, .int .i64 o.width, .int .i64 o.step, .int .i64 o.side, .int .i64 o.frm, .int .i64 o.to, .slice S o.s.length c] 26) = w1 at *
  refine (op_shape o S P X c d f p x w1 ho (HI.out.below Hl0.out (Nat.le_refl _)) (HP.out.below Hl0.out (Nat.le_refl _)) (HX.out.below Hl0.out (Nat.le_refl _))).mono ?_
  rintro e w2 ⟨S2, d2, rfl, hI2, h21, h22, -, hb2⟩
  have hl2 := Hl0.out.call hb2
  have hk2 := (show Later w1 w2 from hb2).blk Hk0.out
  have hgood := fun h => @Od.cost_parts o p x h
  have hshr := fun h => @Od.shape_right o p x h
  have hpr := fun h => (@Od.shape_good o p x h).2.2.2.1
  have hcv : Od.cost o p x = if (Od.shape o p x).2 = 0 then (Od.costV o p (Od.shape o p x).1, 0) else (0, (Od.shape o p x).2) := rfl
  clear hb2
  generalize Od.shape o p x = r at *
  by_cases hr : r.2 = 0
  · have hr2 := hshr hr
    obtain ⟨g8, g10, g11⟩ := hgood hr
    have hpr2 := hpr hr
    rw [if_pos hr] at hcv
    have hs := Sh.prod_bd hr2
    have hsz := Sh.size_right hr2
    have hlen := (Sh.right_mul hr2).2.1
    clear hgood hshr hpr
    have HI2 := Lib.hid hI2
    have Hl2 := Lib.hid hl2
    have Hk2 := Lib.hid hk2
    have Hr2 := Lib.hid hr2
    have Hg8 := Lib.hid g8
    have Hg10 := Lib.hid g10
    have Hg11 := Lib.hid g11
    have Hpr2 := Lib.hid hpr2
    have Hcv := Lib.hid hcv
    have Hsz := Lib.hid hsz
    clear hI2 hl2 hk2 hr2 g8 g10 g11 hpr2 hcv hsz
    have q0 : (r.2 != 0) = false := by simp [hr]
    clear hr
    go_wp2_with fail
    refine (shape_size S2 d2 r.1 _ (by omega) HI2.out).mono ?_
    rintro e w3 ⟨rfl, hb3⟩
    rw [Hsz.out]
    have hl3 := Hl2.out.call hb3
    have hk3 := (show Later w2 w3 from hb3).blk Hk2.out
    obtain ⟨y0, -, y2, -, -, -, -, -⟩ := op_cells hk3
    have hP3 := HP.out.below hl3 (Nat.le_refl _)
    clear hb3
    by_cases k8 : o.kind = 8
    · have hv : Od.costV o p r.1 = Safe.prod (p.getD 0 []) := by unfold Od.costV; rw [if_pos k8]
      have hl := Hg8.out k8
      obtain ⟨b, off, S5, d5, rfl, y5, hI5, -, -, l5⟩ := hP3.at_ hl
      have e0 : p.getD 0 [] = p[0] := by simp [List.getD_eq_getElem?_getD, hl]
      have hsz5 := Sh.size_right (Hpr2.out p[0] (List.getElem_mem hl))
      rw [e0] at hv
      rw [hv] at Hcv
      rw [Nat.add_zero] at y5
      rw [k8] at y0
      generalize p[0] = t at *
      have Hl3 := Lib.hid hl3
      have Hk3 := Lib.hid hk3
      have HP3 := Lib.hid hP3
      have HI5 := Lib.hid hI5
      have Hsz5 := Lib.hid hsz5
      have Hv := Lib.hid hv
      clear hl3 hk3 hP3 hI5 hsz5 hv
      go_wp2_with fail
      refine (shape_size S5 d5 t _ (by omega) HI5.out).mono ?_
      rintro e w4 ⟨rfl, hb4⟩
      rw [Hsz5.out]
      have hl4 := Hl3.out.call hb4
      have Hl4 := Lib.hid hl4
      clear hl4
      go_wp2_with fail
      go_ret2
      exact ⟨by (rw [Hcv.out] <;> rfl), Hl4.out⟩
    · by_cases k10 : o.kind = 10
      · obtain ⟨hl, hl2, hm1, hm2⟩ := Hg10.out k10
        obtain ⟨b, off, S5, d5, rfl, y5, hI5, -, -, l5⟩ := hP3.at_ hl
        have e0 : p.getD 0 [] = p[0] := by simp [List.getD_eq_getElem?_getD, hl]
        have hr5 := Hpr2.out p[0] (List.getElem_mem hl)
        have hsz5 := Sh.size_right hr5
        have hbd5 := Sh.prod_bd hr5
        have hv : Od.costV o p r.1 = Safe.prod r.1 * (Safe.prod (p.getD 0 [])).tdiv ((p.getD 0 []).getD 0 0) := by unfold Od.costV; rw [if_neg k8, if_pos k10]
        rw [e0] at hv hl2 hm1 hm2
        rw [hv] at Hcv
        rw [Nat.add_zero] at y5
        rw [k10] at y0
        generalize p[0] = t at *
        have hq1 : 0 ≤ (Safe.prod t).tdiv (t.getD 0 0) := Int.tdiv_nonneg (by omega) (by omega)
        have hq2 : (Safe.prod t).tdiv (t.getD 0 0) ≤ Safe.prod t := Int.tdiv_le_self _ (by omega)
        have hq3 : (Safe.prod t).tdiv (t.getD 0 0) = Safe.prod t / t.getD 0 0 := Int.tdiv_eq_ediv_of_nonneg (by omega)
        have hmul := Od.mul2 (a := Safe.prod r.1) (b := (Safe.prod t).tdiv (t.getD 0 0)) (by omega) (by omega) hq1 (by omega)
        rw [hq3] at hq1 hq2 hmul hv
        have Hl3 := Lib.hid hl3
        have Hk3 := Lib.hid hk3
        have HP3 := Lib.hid hP3
        have HI5 := Lib.hid hI5
        have Hsz5 := Lib.hid hsz5
        have Hv := Lib.hid hv
        have Hmul := Lib.hid hmul
        have Hq3 := Lib.hid hq3
        clear hl3 hk3 hP3 hI5 hsz5 hv hmul hq3
        go_wp2_with fail
        refine (shape_size S5 d5 t _ (by omega) HI5.out).mono ?_
        rintro e w4 ⟨rfl, hb4⟩
        rw [Hsz5.out]
        have hl4 := Hl3.out.call hb4
        have y54 := (show Later w3 w4 from hb4).cell y5
        obtain ⟨b6, o6, rfl, -, y6⟩ := (HI5.out.below hb4 (Nat.le_refl _)) 0 hl2
        rw [Nat.add_zero] at y6
        clear y5 y0 y2 hb4
        generalize t.getD 0 0 = t0 at *
        generalize Safe.prod t = pt at *
        generalize Safe.prod r.1 = pr at *
        have Hl4 := Lib.hid hl4
        clear hl4
        have hl20 : (0 : Int) < (t.length : Int) := by omega
        go_wp2_with fail
        refine (safe_mul (some ⟨w4.heap.size, 0, none⟩) 2 [pr, pt / t0] _ (by simp) (ints_two _ _)).mono ?_
        rintro e w5 ⟨rfl, hb5⟩
        rw [Hmul.out.1]
        have hl5 := (Hl4.out.alloc (.cells #[.int .i64 pr, .int .i64 (pt / t0)] 3)).call hb5
        have Hl5 := Lib.hid hl5
        clear hl5
        go_wp2_with fail
        go_ret2
        exact ⟨by (rw [Hcv.out, Hq3.out] <;> rfl), Hl5.out⟩
      · have n8 : (o.kind == 8) = false := by simpa using k8
        have n10 : (o.kind == 10) = false := by simpa using k10
        by_cases k11 : o.kind = 11 ∨ o.kind = 12
        · obtain ⟨hm1, hm2⟩ := Hg11.out k11
          have hv : Od.costV o p r.1 = Safe.prod r.1 * o.width := by unfold Od.costV; rw [if_neg k8, if_neg k10, if_pos k11]
          rw [hv] at Hcv
          have hmul := Od.mul2 (a := Safe.prod r.1) (b := o.width) (by omega) (by omega) (by omega) (by omega)
          generalize Safe.prod r.1 = pr at *
          have Hl3 := Lib.hid hl3
          have Hk3 := Lib.hid hk3
          have HP3 := Lib.hid hP3
          have Hv := Lib.hid hv
          have Hmul := Lib.hid hmul
          clear hl3 hk3 hP3 hv hmul
          clear k8 k10
          rcases k11 with k11 | k11
          all_goals
            rw [k11] at y0 n8 n10
            go_wp2_with fail
            refine (safe_mul (some ⟨w3.heap.size, 0, none⟩) 2 [pr, o.width] _ (by simp) (ints_two _ _)).mono ?_
            rintro e w5 ⟨rfl, hb5⟩
            rw [Hmul.out.1]
            have hl5 := (Hl3.out.alloc (.cells #[.int .i64 pr, .int .i64 o.width] 3)).call hb5
            have Hl5 := Lib.hid hl5
            clear hl5
            go_wp2_with fail
            go_ret2
            exact ⟨by (rw [Hcv.out] <;> rfl), Hl5.out⟩
        · have hv : Od.costV o p r.1 = Safe.prod r.1 := by unfold Od.costV; rw [if_neg k8, if_neg k10, if_neg k11]
          rw [hv] at Hcv
          have n11 : (o.kind == 11) = false := by simp; omega
          have n12 : (o.kind == 12) = false := by simp; omega
          have Hl3 := Lib.hid hl3
          have Hk3 := Lib.hid hk3
          have HP3 := Lib.hid hP3
          have Hv := Lib.hid hv
          clear hl3 hk3 hP3 hv
          clear k8 k10 k11
          go_wp2_with fail
          go_ret2
          exact ⟨by (rw [Hcv.out] <;> rfl), Hl3.out⟩
  · have q0 : (r.2 != 0) = true := by simp [hr]
    rw [if_neg hr] at hcv
    have HI2 := Lib.hid hI2
    have Hl2 := Lib.hid hl2
    have Hk2 := Lib.hid hk2
    have Hcv := Lib.hid hcv
    clear hI2 hl2 hk2 hcv
    clear hgood hshr hpr hr
    go_wp2_with fail
    go_ret2
    exact ⟨by (rw [Hcv.out] <;> rfl), Hl2.out⟩
end Go.Proofs.Ytbnnpkcfifejmaa
/- Layer 10 (op): Go, as far as the statements' fixed answers reach it: contracts. -/
namespace Go.Proofs.Ytbnnpkcfifejmaa
open Go.RowKit
theorem counts_one {o : OpD} (hr : Od.right o = true) (hk : o.kind = 1) : Od.counts o 0 1 = 0 := by
  simp [Od.counts, hr, Od.least, Od.most, Od.params, hk, Od.ptIns]
set_option maxHeartbeats 8000000 in
set_option maxRecDepth 20000 in
theorem op_go_relu (o : OpD) (S0 : Option Addr) (c0 : Nat) (b c d : Nat) (S C : Option Addr) (f : Nat) (t : Ten) (w : World) (ho : o.s.length ≤ 17592186043904) (hI : Ints .i64 w S0 o.s) (hro : Od.right o = true) (hk : o.kind = 1) (hr : Tn.right t = true) (hb : Blk w b 30 #[.slice S t.s.length c, .slice C t.c.length d]) (hT : TenR w S C t) :
    Calls Try.prog 6 #[.agg #[.int .i64 o.kind, .int .i64 o.k, .int .i64 o.width, .int .i64 o.step, .int .i64 o.side, .int .i64 o.frm, .int .i64 o.to, .slice S0 o.s.length c0], .slice none 0 0, .slice (some ⟨b, 0, none⟩) 1 f] w (ReluP t w) := by
  obtain ⟨l1, l2, l3⟩ := Tn.right_len hr
  have h01 : Later w ((w.alloc (.cells #[.int .i64 o.kind, .int .i64 o.k, .int .i64 o.width, .int .i64 o.step, .int .i64 o.side, .int .i64 o.frm, .int .i64 o.to, .slice S0 o.s.length c0] 26)).alloc (.cells #[.slice none 0 0, .slice none 0 0] 30)) := ((Later.refl w).alloc _).alloc _
  have hkb := (Blk.new w 26 #[.int .i64 o.kind, .int .i64 o.k, .int .i64 o.width, .int .i64 o.step, .int .i64 o.side, .int .i64 o.frm, .int .i64 o.to, .slice S0 o.s.length c0]).alloc (.cells #[.slice none 0 0, .slice none 0 0] 30)
  have hz := Blk.new (w.alloc (.cells #[.int .i64 o.kind, .int .i64 o.k, .int .i64 o.width, .int .i64 o.step, .int .i64 o.side, .int .i64 o.frm, .int .i64 o.to, .slice S0 o.s.length c0] 26)) 30 #[.slice none 0 0, .slice none 0 0]
  rw [World.size_alloc] at hz
  have hcn := counts_one hro hk
  have Hr := Lib.hid hr
  have Hb := Lib.hid hb
  have HT := Lib.hid hT
  have H01 := Lib.hid h01
  have Hz := Lib.hid hz
  have Hkb := Lib.hid hkb
  have HI := Lib.hid hI
  have Hro := Lib.hid hro
  have Hk := Lib.hid hk
  have Hcn := Lib.hid hcn
  clear hr hb hT h01 hz hkb hI hro hk hcn
  go_enter Try.func6, Try.ntmps6
  go_wp2_with fail
  generalize (w.alloc (.cells #[.int .i64 o.kind, .int .i64 o.k, .int .i64 o.width, .int .i64 o.step, .int .i64 o.side, .int .i64 o.frm, .int .i64 o.to, .slice S0 o.s.length c0] 26)).alloc (.cells #[.slice none 0 0, .slice none 0 0] 30) = w1 at *
  refine (op_counts o S0 c0 0 1 w1 ho (HI.out.below H01.out (Nat.le_refl _))).mono ?_
  rintro e w2 ⟨rfl, hb2⟩
  rw [Hcn.out]
  have h12 : Later w1 w2 := hb2
  obtain ⟨x0, x1, x2, x3, x4, x5, x6, x7⟩ := op_cells (h12.blk Hkb.out)
  rw [Hk.out] at x0
  have h02 := H01.out.trans h12
  have hz2 := h12.blk Hz.out
  clear hb2
  have H12 := Lib.hid h12
  have H02 := Lib.hid h02
  have Hz2 := Lib.hid hz2
  clear h12 h02 hz2
  go_wp2_with fail
  refine (point_relu o.k b c d S C f t w2 Hr.out (H02.out.blk Hb.out) ⟨HT.out.1.below H02.out (Nat.le_refl _), HT.out.2.below H02.out (Nat.le_refl _)⟩).mono ?_
  rintro e w3 ⟨v, rfl, ⟨g, h, rfl, hg, hh, hG, hH⟩, hb3⟩
  have h23 : Later w2 w3 := hb3
  have hz3 := h23.blk Hz2.out
  have c0' := hz3.cell 0
  have c1' := hz3.cell 1
  have f0 := hz3.frozen 0
  have f1 := hz3.frozen 1
  simp at c0' c1'
  have hz4 := (hz3.set_ 0 (.slice (some ⟨g, 0, none⟩) t.s.length t.s.length)).set_ 1 (.slice (some ⟨h, 0, none⟩) t.c.length t.c.length)
  have d0 := hz4.cell 0
  have d1 := hz4.cell 1
  simp at d0 d1
  have hs2 := H02.out.size
  have hzl := Hz2.out.lt
  have h03 := H02.out.trans h23
  clear x0 x1 x2 x3 x4 x5 x6 x7 hb3
  have H23 := Lib.hid h23
  have Hz3 := Lib.hid hz3
  have Hz4 := Lib.hid hz4
  have H03 := Lib.hid h03
  have HG := Lib.hid hG
  have HH := Lib.hid hH
  clear h23 hz3 hz4 h03 hG hH
  go_wp2_with fail
  refine bodyPost_ret (v := .tuple #[.agg #[.slice (some ⟨g, 0, none⟩) t.s.length t.s.length, .slice (some ⟨h, 0, none⟩) t.c.length t.c.length], .int .i64 0]) (by simp [results, Try.results6, go_sem, d0, d1]) rfl ?_
  have hgz : g ≠ w.heap.size + 1 := by omega
  have hhz : h ≠ w.heap.size + 1 := by omega
  refine ⟨_, rfl, ⟨g, h, by simp, by omega, by omega, ?_, ?_⟩, ?_⟩
  · exact (HG.out.far (p := ⟨w.heap.size + 1, 0, none⟩) hgz _).far (p := ⟨w.heap.size + 1, 1, none⟩) hgz _
  · exact (HH.out.far (p := ⟨w.heap.size + 1, 0, none⟩) hhz _).far (p := ⟨w.heap.size + 1, 1, none⟩) hhz _
  · exact (H03.out.set (p := ⟨w.heap.size + 1, 0, none⟩) (Nat.le_succ _) _).set (p := ⟨w.heap.size + 1, 1, none⟩) (Nat.le_succ _) _
set_option maxHeartbeats 8000000 in
set_option maxRecDepth 20000 in
theorem op_go_bad (o : OpD) (S0 : Option Addr) (c0 : Nat) (P X : Option Addr) (lp cp lx cx : Nat) (w : World) (ho : o.s.length ≤ 17592186043904) (hI : Ints .i64 w S0 o.s) (hro : Od.right o = false) :
    Calls Try.prog 6 #[.agg #[.int .i64 o.kind, .int .i64 o.k, .int .i64 o.width, .int .i64 o.step, .int .i64 o.side, .int .i64 o.frm, .int .i64 o.to, .slice S0 o.s.length c0], .slice P lp cp, .slice X lx cx] w fun e w' => e = .returned (.tuple #[.agg #[.slice none 0 0, .slice none 0 0], .int .i64 21]) ∧ Below w.heap.size w w' := by
  have h01 : Later w ((w.alloc (.cells #[.int .i64 o.kind, .int .i64 o.k, .int .i64 o.width, .int .i64 o.step, .int .i64 o.side, .int .i64 o.frm, .int .i64 o.to, .slice S0 o.s.length c0] 26)).alloc (.cells #[.slice none 0 0, .slice none 0 0] 30)) := ((Later.refl w).alloc _).alloc _
  have hz := Blk.new (w.alloc (.cells #[.int .i64 o.kind, .int .i64 o.k, .int .i64 o.width, .int .i64 o.step, .int .i64 o.side, .int .i64 o.frm, .int .i64 o.to, .slice S0 o.s.length c0] 26)) 30 #[.slice none 0 0, .slice none 0 0]
  rw [World.size_alloc] at hz
  have hcn : Od.counts o lp lx = 21 := by simp [Od.counts, hro]
  have H01 := Lib.hid h01
  have Hz := Lib.hid hz
  have HI := Lib.hid hI
  have Hro := Lib.hid hro
  clear h01 hz hI hro
  go_enter Try.func6, Try.ntmps6
  go_wp2_with fail
  generalize (w.alloc (.cells #[.int .i64 o.kind, .int .i64 o.k, .int .i64 o.width, .int .i64 o.step, .int .i64 o.side, .int .i64 o.frm, .int .i64 o.to, .slice S0 o.s.length c0] 26)).alloc (.cells #[.slice none 0 0, .slice none 0 0] 30) = w1 at *
  refine (op_counts o S0 c0 lp lx w1 ho (HI.out.below H01.out (Nat.le_refl _))).mono ?_
  rintro e w2 ⟨rfl, hb2⟩
  rw [hcn]
  have h02 := H01.out.call hb2
  have hz2 := (show Later w1 w2 from hb2).blk Hz.out
  have c0' := hz2.cell 0
  have c1' := hz2.cell 1
  have f0 := hz2.frozen 0
  have f1 := hz2.frozen 1
  simp at c0' c1'
  have hz4 := (hz2.set_ 0 (.slice none 0 0)).set_ 1 (.slice none 0 0)
  have d0 := hz4.cell 0
  have d1 := hz4.cell 1
  simp at d0 d1
  clear hb2 hcn
  have H02 := Lib.hid h02
  have Hz2 := Lib.hid hz2
  have Hz4 := Lib.hid hz4
  clear h02 hz2 hz4
  go_wp2_with fail
  refine bodyPost_ret (v := .tuple #[.agg #[.slice none 0 0, .slice none 0 0], .int .i64 21]) (by simp [results, Try.results6, go_sem, d0, d1]) rfl ?_
  exact ⟨rfl, (H02.out.set (p := ⟨w.heap.size + 1, 0, none⟩) (Nat.le_succ _) _).set (p := ⟨w.heap.size + 1, 1, none⟩) (Nat.le_succ _) _⟩
end Go.Proofs.Ytbnnpkcfifejmaa
/- Layer 10's statements: the fixed answer. -/
namespace Go.Proofs.Ytbnnpkcfifejmaa
open Go.RowKit
def ao8 : OpD := ⟨8, 0, 0, 0, 0, 0, 0, []⟩
def ao1 : OpD := ⟨1, 0, 0, 0, 0, 0, 0, []⟩
def ao1s : OpD := ⟨1, 0, 0, 0, 1, 0, 0, []⟩
def aot : Ten := ⟨[2], [-1, 2]⟩
theorem ao_shape : Od.shape ao8 [[2, 3], [2]] [[3]] = ([2], 0) := by decide +kernel
theorem ao_cost : Od.cost ao8 [[2, 3], [2]] [[3]] = (6, 0) := by decide +kernel
theorem ao_params : Od.params ao8 = 2 := by decide +kernel
theorem ao_right : Od.right ao1 = true := by decide +kernel
theorem ao_wrong : Od.right ao1s = false := by decide +kernel
theorem ao_ten : Tn.right aot = true := by decide +kernel
theorem Blk.intsO {w : World} {g : Nat} {t : TypeId} (l : List Int) (h : Blk w g t (l.map (Value.int .i64)).toArray) : Ints .i64 w (some ⟨g, 0, none⟩) l := Ints.of_row fun j hj => by
  rw [Nat.zero_add, h.cell]
  simp [hj]
theorem shp_start (w : World) : ShpIn (((((w.alloc (.cells #[.int .i64 2, .int .i64 3] 3)).alloc (.cells #[.int .i64 2] 3)).alloc (.cells #[.slice (some ⟨w.heap.size, 0, none⟩) 2 2, .slice (some ⟨w.heap.size + 1, 0, none⟩) 1 1] 24)).alloc (.cells #[.int .i64 3] 3)).alloc (.cells #[.slice (some ⟨w.heap.size + 1 + 1 + 1, 0, none⟩) 1 1] 24)) (some ⟨w.heap.size + 1 + 1, 0, none⟩) 2 [[2, 3], [2]] ∧ ShpIn (((((w.alloc (.cells #[.int .i64 2, .int .i64 3] 3)).alloc (.cells #[.int .i64 2] 3)).alloc (.cells #[.slice (some ⟨w.heap.size, 0, none⟩) 2 2, .slice (some ⟨w.heap.size + 1, 0, none⟩) 1 1] 24)).alloc (.cells #[.int .i64 3] 3)).alloc (.cells #[.slice (some ⟨w.heap.size + 1 + 1 + 1, 0, none⟩) 1 1] 24)) (some ⟨w.heap.size + 1 + 1 + 1 + 1, 0, none⟩) 1 [[3]] ∧ Later w (((((w.alloc (.cells #[.int .i64 2, .int .i64 3] 3)).alloc (.cells #[.int .i64 2] 3)).alloc (.cells #[.slice (some ⟨w.heap.size, 0, none⟩) 2 2, .slice (some ⟨w.heap.size + 1, 0, none⟩) 1 1] 24)).alloc (.cells #[.int .i64 3] 3)).alloc (.cells #[.slice (some ⟨w.heap.size + 1 + 1 + 1, 0, none⟩) 1 1] 24)) := by
  have k0 := ((((Blk.new w 3 #[.int .i64 2, .int .i64 3]).alloc (.cells #[.int .i64 2] 3)).alloc (.cells #[.slice (some ⟨w.heap.size, 0, none⟩) 2 2, .slice (some ⟨w.heap.size + 1, 0, none⟩) 1 1] 24)).alloc (.cells #[.int .i64 3] 3)).alloc (.cells #[.slice (some ⟨w.heap.size + 1 + 1 + 1, 0, none⟩) 1 1] 24)
  have k1 := (((Blk.new (w.alloc (.cells #[.int .i64 2, .int .i64 3] 3)) 3 #[.int .i64 2]).alloc (.cells #[.slice (some ⟨w.heap.size, 0, none⟩) 2 2, .slice (some ⟨w.heap.size + 1, 0, none⟩) 1 1] 24)).alloc (.cells #[.int .i64 3] 3)).alloc (.cells #[.slice (some ⟨w.heap.size + 1 + 1 + 1, 0, none⟩) 1 1] 24)
  have k2 := ((Blk.new ((w.alloc (.cells #[.int .i64 2, .int .i64 3] 3)).alloc (.cells #[.int .i64 2] 3)) 24 #[.slice (some ⟨w.heap.size, 0, none⟩) 2 2, .slice (some ⟨w.heap.size + 1, 0, none⟩) 1 1]).alloc (.cells #[.int .i64 3] 3)).alloc (.cells #[.slice (some ⟨w.heap.size + 1 + 1 + 1, 0, none⟩) 1 1] 24)
  have k3 := (Blk.new (((w.alloc (.cells #[.int .i64 2, .int .i64 3] 3)).alloc (.cells #[.int .i64 2] 3)).alloc (.cells #[.slice (some ⟨w.heap.size, 0, none⟩) 2 2, .slice (some ⟨w.heap.size + 1, 0, none⟩) 1 1] 24)) 3 #[.int .i64 3]).alloc (.cells #[.slice (some ⟨w.heap.size + 1 + 1 + 1, 0, none⟩) 1 1] 24)
  have k4 := Blk.new ((((w.alloc (.cells #[.int .i64 2, .int .i64 3] 3)).alloc (.cells #[.int .i64 2] 3)).alloc (.cells #[.slice (some ⟨w.heap.size, 0, none⟩) 2 2, .slice (some ⟨w.heap.size + 1, 0, none⟩) 1 1] 24)).alloc (.cells #[.int .i64 3] 3)) 24 #[.slice (some ⟨w.heap.size + 1 + 1 + 1, 0, none⟩) 1 1]
  simp only [World.size_alloc] at k1 k2 k3 k4
  refine ⟨⟨fun j hj => ?_, by simp, by omega, by intro s hs; simp at hs; rcases hs with rfl | rfl <;> simp⟩, ⟨fun j hj => ?_, by simp, by omega, by intro s hs; simp at hs; subst hs; simp⟩, (((((Later.refl w).alloc _).alloc _).alloc _).alloc _).alloc _⟩
  · have hj2 : j = 0 ∨ j = 1 := by simp at hj; omega
    rcases hj2 with rfl | rfl
    · exact ⟨_, 0, _, 2, rfl, k2.lt, k2.cell 0, k0.intsO [2, 3], by simp, by omega⟩
    · exact ⟨_, 0, _, 1, rfl, k2.lt, k2.cell 1, k1.intsO [2], by simp, by omega⟩
  · have hj2 : j = 0 := by simp at hj; omega
    subst hj2
    exact ⟨_, 0, _, 1, rfl, k4.lt, k4.cell 0, k3.intsO [3], by simp, by omega⟩
set_option maxHeartbeats 16000000 in
set_option maxRecDepth 100000 in
theorem awake10 (w : World) : Calls Try.prog 5 #[] w fun e w' => e = .returned (.bool true) ∧ Below w.heap.size w w' := by
  have hk0 := Blk.new w 26 #[.int .i64 8, .int .i64 0, .int .i64 0, .int .i64 0, .int .i64 0, .int .i64 0, .int .i64 0, .slice none 0 0]
  have h0 : Later w (w.alloc (.cells #[.int .i64 8, .int .i64 0, .int .i64 0, .int .i64 0, .int .i64 0, .int .i64 0, .int .i64 0, .slice none 0 0] 26)) := (Later.refl w).alloc _
  have Hk0 := Lib.hid hk0
  have H0 := Lib.hid h0
  clear hk0 h0
  go_enter Try.func5, Try.ntmps5
  go_upto_region 2 with fail
  generalize w.alloc (.cells #[.int .i64 8, .int .i64 0, .int .i64 0, .int .i64 0, .int .i64 0, .int .i64 0, .int .i64 0, .slice none 0 0] 26) = w0 at *
  obtain ⟨x0, x1, x2, x3, x4, x5, x6, x7⟩ := op_cells (o := ao8) (S := none) (c := 0) Hk0.out
  obtain ⟨hP, hX, h1⟩ := shp_start w0
  have HP := Lib.hid hP
  have HX := Lib.hid hX
  have H1 := Lib.hid h1
  clear hP hX h1
  go_wp2_with fail
  generalize (((((w0.alloc (.cells #[.int .i64 2, .int .i64 3] 3)).alloc (.cells #[.int .i64 2] 3)).alloc (.cells #[.slice (some ⟨w0.heap.size, 0, none⟩) 2 2, .slice (some ⟨w0.heap.size + 1, 0, none⟩) 1 1] 24)).alloc (.cells #[.int .i64 3] 3)).alloc (.cells #[.slice (some ⟨w0.heap.size + 1 + 1 + 1, 0, none⟩) 1 1] 24)) = w1 at *
  refine (op_shape ao8 none (some ⟨w0.heap.size + 1 + 1, 0, none⟩) (some ⟨w0.heap.size + 1 + 1 + 1 + 1, 0, none⟩) 0 2 1 [[2, 3], [2]] [[3]] w1 (by decide) Ints.nil HP.out HX.out).mono ?_
  rintro e w2 ⟨Sr, cr, rfl, hSI, hs1, hs2, -, hb2⟩
  rw [ao_shape] at hSI hs1
  rw [ao_shape]
  have h2 := H1.out.call hb2
  have hk2 := h2.blk Hk0.out
  have h02 := H0.out.trans h2
  clear hb2 x0 x1 x2 x3 x4 x5 x6 x7 HP HX H1
  obtain ⟨x0, x1, x2, x3, x4, x5, x6, x7⟩ := op_cells (o := ao8) (S := none) (c := 0) hk2
  obtain ⟨hP, hX, h1⟩ := shp_start w2
  have hSI2 := hSI.below h1 (Nat.le_refl _)
  have HP := Lib.hid hP
  have HX := Lib.hid hX
  have H1 := Lib.hid h1
  have HSI := Lib.hid hSI
  have H2 := Lib.hid h2
  have Hk2 := Lib.hid hk2
  have H02 := Lib.hid h02
  have HSI2 := Lib.hid hSI2
  clear hP hX h1 hSI h2 hk2 h02 hSI2
  go_wp2_with fail
  generalize (((((w2.alloc (.cells #[.int .i64 2, .int .i64 3] 3)).alloc (.cells #[.int .i64 2] 3)).alloc (.cells #[.slice (some ⟨w2.heap.size, 0, none⟩) 2 2, .slice (some ⟨w2.heap.size + 1, 0, none⟩) 1 1] 24)).alloc (.cells #[.int .i64 3] 3)).alloc (.cells #[.slice (some ⟨w2.heap.size + 1 + 1 + 1, 0, none⟩) 1 1] 24)) = w3 at *
  refine (op_cost ao8 none (some ⟨w2.heap.size + 1 + 1, 0, none⟩) (some ⟨w2.heap.size + 1 + 1 + 1 + 1, 0, none⟩) 0 2 1 [[2, 3], [2]] [[3]] w3 (by decide) Ints.nil HP.out HX.out).mono ?_
  rintro e w4 ⟨rfl, hb4⟩
  rw [ao_cost]
  have h24 := H1.out.call hb4
  have h04 := H02.out.trans h24
  have hk4 := h24.blk Hk2.out
  have hSI4 := HSI.out.below h24 (Nat.le_refl _)
  have h45 : Later w4 ((w4.alloc (.cells #[.int .i64 2] 3)).alloc (.cells #[.int .i64 (-1), .int .i64 2] 22)) := ((Later.refl w4).alloc _).alloc _
  have t0 := (Blk.new w4 3 #[.int .i64 2]).alloc (.cells #[.int .i64 (-1), .int .i64 2] 22)
  have t1 := Blk.new (w4.alloc (.cells #[.int .i64 2] 3)) 22 #[.int .i64 (-1), .int .i64 2]
  rw [World.size_alloc] at t1
  clear hb4 x0 x1 x2 x3 x4 x5 x6 x7 HP HX H1 HSI HSI2 Hk2 H2 H02
  have H24 := Lib.hid h24
  have H04 := Lib.hid h04
  have Hk4 := Lib.hid hk4
  have HSI4 := Lib.hid hSI4
  have H45 := Lib.hid h45
  have Ht0 := Lib.hid t0
  have Ht1 := Lib.hid t1
  clear h24 h04 hk4 hSI4 h45 t0 t1
  go_wp2_with fail
  generalize (w4.alloc (.cells #[.int .i64 2] 3)).alloc (.cells #[.int .i64 (-1), .int .i64 2] 22) = w5 at *
  refine (tensor_of (some ⟨w4.heap.size, 0, none⟩) (some ⟨w4.heap.size + 1, 0, none⟩) 1 2 aot w5 (by decide) (by decide) ⟨Ht0.out.intsO [2], Ht1.out.intsO [-1, 2]⟩).mono ?_
  rintro e w6 ⟨⟨hbad, -⟩ | ⟨-, v, rfl, ⟨g, h, rfl, hg, hh, hG, hH⟩⟩, hb6⟩
  · rw [ao_ten] at hbad; cases hbad
  rw [show aot.s.length = 1 from rfl, show aot.c.length = 2 from rfl]
  have h46 := H45.out.call hb6
  have h06 := H04.out.trans h46
  have hk6 := h46.blk Hk4.out
  have hSI6 := HSI4.out.below h46 (Nat.le_refl _)
  have h67 : Later w6 (w6.alloc (.cells #[.slice (some ⟨g, 0, none⟩) 1 1, .slice (some ⟨h, 0, none⟩) 2 2] 30)) := (Later.refl w6).alloc _
  have hb7 := Blk.new w6 30 #[.slice (some ⟨g, 0, none⟩) 1 1, .slice (some ⟨h, 0, none⟩) 2 2]
  have hG7 := h67.blk hG
  have hH7 := h67.blk hH
  have hk7 := h67.blk hk6
  have h07 := h06.trans h67
  have hSI7 := hSI6.below h67 (Nat.le_refl _)
  clear hb6 hG hH hk6 h06 hSI6 h46 Ht0 Ht1 H45 H24 H04 Hk4 HSI4
  have H67 := Lib.hid h67
  have Hb7 := Lib.hid hb7
  have HG7 := Lib.hid hG7
  have HH7 := Lib.hid hH7
  have Hk7 := Lib.hid hk7
  have H07 := Lib.hid h07
  have HSI7 := Lib.hid hSI7
  clear h67 hb7 hG7 hH7 hk7 h07 hSI7
  go_upto_region 5 with fail
  generalize w6.alloc (.cells #[.slice (some ⟨g, 0, none⟩) 1 1, .slice (some ⟨h, 0, none⟩) 2 2] 30) = w7 at *
  generalize w6.heap.size = tb at *
  have b0 : w7.cell? ⟨tb, 0, none⟩ = some (.slice (some ⟨g, 0, none⟩) 1 1) := by rw [Hb7.out.cell]; rfl
  have b1 : w7.cell? ⟨tb, 1, none⟩ = some (.slice (some ⟨h, 0, none⟩) 2 2) := by rw [Hb7.out.cell]; rfl
  have h78 : Later w7 (w7.alloc (.cells #[.slice (some ⟨g, 0, none⟩) 1 1, .slice (some ⟨h, 0, none⟩) 2 2] 30)) := (Later.refl w7).alloc _
  have hn8 := Blk.new w7 30 #[.slice (some ⟨g, 0, none⟩) 1 1, .slice (some ⟨h, 0, none⟩) 2 2]
  clear H67
  have H78 := Lib.hid h78
  have Hn8 := Lib.hid hn8
  clear h78 hn8
  go_wp2_with fail
  generalize w7.alloc (.cells #[.slice (some ⟨g, 0, none⟩) 1 1, .slice (some ⟨h, 0, none⟩) 2 2] 30) = w8 at *
  refine (op_go_relu ao1 none 0 w7.heap.size 1 2 (some ⟨g, 0, none⟩) (some ⟨h, 0, none⟩) 1 aot w8 (by decide) Ints.nil ao_right rfl ao_ten Hn8.out ⟨(H78.out.blk HG7.out).intsO [2], (H78.out.blk HH7.out).intsO [-1, 2]⟩).mono ?_
  rintro e w9 ⟨v2, rfl, ⟨g2, h2, rfl, hg2, hh2, hG2, hH2⟩, hb9⟩
  simp only [show aot.s.length = 1 from rfl, show aot.c.length = 2 from rfl, List.length_map]
  have h79 := H78.out.call hb9
  have h9a : Later w9 (w9.alloc (.cells #[.slice (some ⟨g2, 0, none⟩) 1 1, .slice (some ⟨h2, 0, none⟩) 2 2] 30)) := (Later.refl w9).alloc _
  have hba := Blk.new w9 30 #[.slice (some ⟨g2, 0, none⟩) 1 1, .slice (some ⟨h2, 0, none⟩) 2 2]
  have hHa := h9a.blk hH2
  have h7a := h79.trans h9a
  have hka := h7a.blk Hk7.out
  have htba := h7a.blk Hb7.out
  have hSIa := HSI7.out.below h7a (Nat.le_refl _)
  have h0a := H07.out.trans h7a
  have hGa := h7a.blk HG7.out
  have hHha := h7a.blk HH7.out
  clear hb9 b0 b1 hG2 hH2 h79 H78 Hn8 Hb7 Hk7 HSI7 H07 HG7 HH7
  have H9a := Lib.hid h9a
  have Hba := Lib.hid hba
  have HHa := Lib.hid hHa
  have H7a := Lib.hid h7a
  have Hka := Lib.hid hka
  have Htba := Lib.hid htba
  have HSIa := Lib.hid hSIa
  have H0a := Lib.hid h0a
  have HGa := Lib.hid hGa
  have HHha := Lib.hid hHha
  clear h9a hba hHa h7a hka htba hSIa h0a hGa hHha
  go_upto_region 6 with fail
  generalize w9.alloc (.cells #[.slice (some ⟨g2, 0, none⟩) 1 1, .slice (some ⟨h2, 0, none⟩) 2 2] 30) = wa at *
  generalize w9.heap.size = yb at *
  have b0 : wa.cell? ⟨tb, 0, none⟩ = some (.slice (some ⟨g, 0, none⟩) 1 1) := by rw [Htba.out.cell]; rfl
  have b1 : wa.cell? ⟨tb, 1, none⟩ = some (.slice (some ⟨h, 0, none⟩) 2 2) := by rw [Htba.out.cell]; rfl
  have hab : Later wa (wa.alloc (.cells #[.slice (some ⟨g, 0, none⟩) 1 1, .slice (some ⟨h, 0, none⟩) 2 2] 30)) := (Later.refl wa).alloc _
  clear H9a H7a
  have Hab := Lib.hid hab
  clear hab
  go_wp2_with fail
  generalize wa.alloc (.cells #[.slice (some ⟨g, 0, none⟩) 1 1, .slice (some ⟨h, 0, none⟩) 2 2] 30) = wb at *
  refine (op_go_bad ao1s none 0 none (some ⟨wa.heap.size, 0, none⟩) 0 0 1 1 wb (by decide) Ints.nil ao_wrong).mono ?_
  rintro e wc ⟨rfl, hbc⟩
  have hac := Hab.out.call hbc
  have hcd : Later wc (wc.alloc (.cells #[.slice none 0 0, .slice none 0 0] 30)) := (Later.refl wc).alloc _
  have had := hac.trans hcd
  have h0d := H0a.out.trans had
  have hkd := had.blk Hka.out
  have hyd := had.blk Hba.out
  have hHd := had.blk HHa.out
  have hSId := HSIa.out.below had (Nat.le_refl _)
  clear hbc b0 b1 hac
  have Hcd := Lib.hid hcd
  have Had := Lib.hid had
  have H0d := Lib.hid h0d
  have Hkd := Lib.hid hkd
  have Hyd := Lib.hid hyd
  have HHd := Lib.hid hHd
  have HSId := Lib.hid hSId
  clear hcd had h0d hkd hyd hHd hSId
  go_upto_region 7 with fail
  generalize wc.alloc (.cells #[.slice none 0 0, .slice none 0 0] 30) = wd at *
  clear Hcd Had Hab
  have hde : Later wd (wd.alloc (.cells #[.int .i64 2] 3)) := (Later.refl wd).alloc _
  have hne := Blk.new wd 3 #[.int .i64 2]
  have hSIe := HSId.out.below hde (Nat.le_refl _)
  have h0e := H0d.out.trans hde
  have Hde := Lib.hid hde
  have Hne := Lib.hid hne
  have HSIe := Lib.hid hSIe
  have H0e := Lib.hid h0e
  clear hde hne hSIe h0e
  go_wp2_with fail
  generalize wd.alloc (.cells #[.int .i64 2] 3) = we at *
  refine (shape_equal Sr (some ⟨wd.heap.size, 0, none⟩) cr 1 [2] [2] we (by decide) (by decide) HSIe.out (Hne.out.intsO [2])).mono ?_
  rintro e wf ⟨rfl, q, rfl⟩
  have hdf := Hde.out.drewN q
  have hyf := hdf.blk Hyd.out
  have hHf := hdf.blk HHd.out
  have hkf := hdf.blk Hkd.out
  have h0f := H0e.out.drewN q
  have y1 : (we.drewN q).cell? ⟨yb, 1, none⟩ = some (.slice (some ⟨h2, 0, none⟩) 2 2) := by rw [hyf.cell]; rfl
  have y2 : (we.drewN q).cell? ⟨h2, 1, none⟩ = some (.int .i64 2) := by rw [hHf.cell]; rfl
  obtain ⟨x0, x1, x2, x3, x4, x5, x6, x7⟩ := op_cells (o := ao8) (S := none) (c := 0) hkf
  rw [show (([2] : List Int) == [2]) = true from rfl]
  have Hdf := Lib.hid hdf
  have Hyf := Lib.hid hyf
  have HHf := Lib.hid hHf
  have Hkf := Lib.hid hkf
  have H0f := Lib.hid h0f
  clear hdf hyf hHf hkf h0f
  generalize we.drewN q = wf at *
  go_wp2_with fail
  refine (op_params ao8 none 0 wf (by decide) Ints.nil).mono ?_
  rintro e wg ⟨rfl, hbg⟩
  rw [ao_params]
  go_wp2_with fail
  go_ret
  exact ⟨rfl, H0f.out.call hbg⟩
end Go.Proofs.Ytbnnpkcfifejmaa
/- The reference of layer 10: Right: contract. -/
namespace Go.Proofs.Ytbnnpkcfifejmaa
open Go.RowKit
set_option maxHeartbeats 8000000 in
set_option maxRecDepth 20000 in
theorem ref10_right (o : OpD) (S : Option Addr) (c : Nat) (w : World) (hl : o.s.length ≤ 9223372036854775807) :
    Calls Try.prog 25 #[.agg #[.int .i64 o.kind, .int .i64 o.k, .int .i64 o.width, .int .i64 o.step, .int .i64 o.side, .int .i64 o.frm, .int .i64 o.to, .slice S o.s.length c]] w fun e w' => e = .returned (.bool (Od.refRight o)) ∧ Below w.heap.size w w' := by
  have hb0 : Below w.heap.size w (w.alloc (.cells #[.int .i64 o.kind, .int .i64 o.k, .int .i64 o.width, .int .i64 o.step, .int .i64 o.side, .int .i64 o.frm, .int .i64 o.to, .slice S o.s.length c] 61)) := (Below.refl _ _).alloc (Nat.le_refl _) _
  have hk0 := Blk.new w 61 #[.int .i64 o.kind, .int .i64 o.k, .int .i64 o.width, .int .i64 o.step, .int .i64 o.side, .int .i64 o.frm, .int .i64 o.to, .slice S o.s.length c]
  obtain ⟨y0, y1, y2, y3, y4, y5, y6, y7⟩ := op_cells hk0
  have HB := Lib.hid hb0
  clear hk0 hb0
  go_enter Try.func25, Try.ntmps25
  go_upto_region 1 with fail
  generalize (w.alloc (.cells #[.int .i64 o.kind, .int .i64 o.k, .int .i64 o.width, .int .i64 o.step, .int .i64 o.side, .int .i64 o.frm, .int .i64 o.to, .slice S o.s.length c] 61)) = w1 at *
  go_cut [10] (fun v wx => v = .bool (decide (o.kind < 1 ∨ 15 < o.kind)) ∧ w1 = wx)
  case first =>
    by_cases c1 : o.kind < 1
    · have e1 : decide (o.kind < 1) = true := by simp; omega
      have HX := Lib.hid (show decide (o.kind < 1 ∨ 15 < o.kind) = true by simp; omega)
      clear c1
      go_wp2_with fail
      go_meet
      exact ⟨by rw [HX.out], rfl⟩
    · have e1 : decide (o.kind < 1) = false := by simp; omega
      by_cases c2 : 15 < o.kind
      · have e2 : decide (15 < o.kind) = true := by simp; omega
        have HX := Lib.hid (show decide (o.kind < 1 ∨ 15 < o.kind) = true by simp; omega)
        clear c1 c2
        go_wp2_with fail
        go_meet
        exact ⟨by rw [HX.out], rfl⟩
      · have e2 : decide (15 < o.kind) = false := by simp; omega
        have HX := Lib.hid (show decide (o.kind < 1 ∨ 15 < o.kind) = false by simp; omega)
        clear c1 c2
        go_wp2_with fail
        go_meet
        exact ⟨by rw [HX.out], rfl⟩
  case rest =>
    obtain ⟨rfl, rfl⟩ := hcut
    by_cases f0 : o.kind < 1 ∨ 15 < o.kind
    · have q0 : decide (o.kind < 1 ∨ 15 < o.kind) = true := decide_eq_true f0
      have HX := Lib.hid (show Od.refRight o = false by unfold Od.refRight; rw [if_pos f0])
      clear f0
      rw [q0]
      clear q0
      go_wp2_with fail
      go_ret
      exact ⟨by rw [HX.out]; rfl, HB.out⟩
    · have q0 : decide (o.kind < 1 ∨ 15 < o.kind) = false := decide_eq_false f0
      rw [q0]
      clear q0
      go_upto_region 3 with fail
      go_cut [23] (fun v wx => v = .bool (decide (o.k ≠ 0 ∧ o.kind ≠ 2 ∧ o.kind ≠ 5)) ∧ w1 = wx)
      case first =>
        by_cases c1 : o.k = 0
        · have e1 : (o.k != 0) = false := by simp; omega
          have HX := Lib.hid (show decide (o.k ≠ 0 ∧ o.kind ≠ 2 ∧ o.kind ≠ 5) = false by simp; omega)
          clear c1
          go_wp2_with fail
          go_meet
          exact ⟨by rw [HX.out], rfl⟩
        · have e1 : (o.k != 0) = true := by simp; omega
          by_cases c2 : o.kind = 2
          · have e2 : (o.kind != 2) = false := by simp; omega
            have HX := Lib.hid (show decide (o.k ≠ 0 ∧ o.kind ≠ 2 ∧ o.kind ≠ 5) = false by simp; omega)
            clear c1 c2
            go_wp2_with fail
            go_meet
            exact ⟨by rw [HX.out], rfl⟩
          · have e2 : (o.kind != 2) = true := by simp; omega
            by_cases c3 : o.kind = 5
            · have e3 : (o.kind != 5) = false := by simp; omega
              have HX := Lib.hid (show decide (o.k ≠ 0 ∧ o.kind ≠ 2 ∧ o.kind ≠ 5) = false by simp; omega)
              clear c1 c2 c3
              go_wp2_with fail
              go_meet
              exact ⟨by rw [HX.out], rfl⟩
            · have e3 : (o.kind != 5) = true := by simp; omega
              have HX := Lib.hid (show decide (o.k ≠ 0 ∧ o.kind ≠ 2 ∧ o.kind ≠ 5) = true by simp; omega)
              clear c1 c2 c3
              go_wp2_with fail
              go_meet
              exact ⟨by rw [HX.out], rfl⟩
      case rest =>
        obtain ⟨rfl, rfl⟩ := hcut
        by_cases f1 : o.k ≠ 0 ∧ o.kind ≠ 2 ∧ o.kind ≠ 5
        · have q1 : decide (o.k ≠ 0 ∧ o.kind ≠ 2 ∧ o.kind ≠ 5) = true := decide_eq_true f1
          have HX := Lib.hid (show Od.refRight o = false by unfold Od.refRight; rw [if_neg f0, if_pos f1])
          clear f0 f1
          rw [q1]
          clear q1
          go_wp2_with fail
          go_ret
          exact ⟨by rw [HX.out]; rfl, HB.out⟩
        · have q1 : decide (o.k ≠ 0 ∧ o.kind ≠ 2 ∧ o.kind ≠ 5) = false := decide_eq_false f1
          rw [q1]
          clear q1
          go_upto_region 5 with fail
          go_cut [36] (fun v wx => v = .bool (decide (o.width ≠ 0 ∧ o.kind ≠ 11 ∧ o.kind ≠ 12)) ∧ w1 = wx)
          case first =>
            by_cases c1 : o.width = 0
            · have e1 : (o.width != 0) = false := by simp; omega
              have HX := Lib.hid (show decide (o.width ≠ 0 ∧ o.kind ≠ 11 ∧ o.kind ≠ 12) = false by simp; omega)
              clear c1
              go_wp2_with fail
              go_meet
              exact ⟨by rw [HX.out], rfl⟩
            · have e1 : (o.width != 0) = true := by simp; omega
              by_cases c2 : o.kind = 11
              · have e2 : (o.kind != 11) = false := by simp; omega
                have HX := Lib.hid (show decide (o.width ≠ 0 ∧ o.kind ≠ 11 ∧ o.kind ≠ 12) = false by simp; omega)
                clear c1 c2
                go_wp2_with fail
                go_meet
                exact ⟨by rw [HX.out], rfl⟩
              · have e2 : (o.kind != 11) = true := by simp; omega
                by_cases c3 : o.kind = 12
                · have e3 : (o.kind != 12) = false := by simp; omega
                  have HX := Lib.hid (show decide (o.width ≠ 0 ∧ o.kind ≠ 11 ∧ o.kind ≠ 12) = false by simp; omega)
                  clear c1 c2 c3
                  go_wp2_with fail
                  go_meet
                  exact ⟨by rw [HX.out], rfl⟩
                · have e3 : (o.kind != 12) = true := by simp; omega
                  have HX := Lib.hid (show decide (o.width ≠ 0 ∧ o.kind ≠ 11 ∧ o.kind ≠ 12) = true by simp; omega)
                  clear c1 c2 c3
                  go_wp2_with fail
                  go_meet
                  exact ⟨by rw [HX.out], rfl⟩
          case rest =>
            obtain ⟨rfl, rfl⟩ := hcut
            by_cases f2 : o.width ≠ 0 ∧ o.kind ≠ 11 ∧ o.kind ≠ 12
            · have q2 : decide (o.width ≠ 0 ∧ o.kind ≠ 11 ∧ o.kind ≠ 12) = true := decide_eq_true f2
              have HX := Lib.hid (show Od.refRight o = false by unfold Od.refRight; rw [if_neg f0, if_neg f1, if_pos f2])
              clear f0 f1 f2
              rw [q2]
              clear q2
              go_wp2_with fail
              go_ret
              exact ⟨by rw [HX.out]; rfl, HB.out⟩
            · have q2 : decide (o.width ≠ 0 ∧ o.kind ≠ 11 ∧ o.kind ≠ 12) = false := decide_eq_false f2
              rw [q2]
              clear q2
              go_upto_region 7 with fail
              go_cut [49] (fun v wx => v = .bool (decide (o.step ≠ 0 ∧ (o.kind < 10 ∨ 12 < o.kind))) ∧ w1 = wx)
              case first =>
                by_cases c1 : o.step = 0
                · have e1 : (o.step != 0) = false := by simp; omega
                  have HX := Lib.hid (show decide (o.step ≠ 0 ∧ (o.kind < 10 ∨ 12 < o.kind)) = false by simp; omega)
                  clear c1
                  go_wp2_with fail
                  go_meet
                  exact ⟨by rw [HX.out], rfl⟩
                · have e1 : (o.step != 0) = true := by simp; omega
                  by_cases c2 : o.kind < 10
                  · have e2 : decide (o.kind < 10) = true := by simp; omega
                    have HX := Lib.hid (show decide (o.step ≠ 0 ∧ (o.kind < 10 ∨ 12 < o.kind)) = true by simp; omega)
                    clear c1 c2
                    go_wp2_with fail
                    go_meet
                    exact ⟨by rw [HX.out], rfl⟩
                  · have e2 : decide (o.kind < 10) = false := by simp; omega
                    by_cases c3 : 12 < o.kind
                    · have e3 : decide (12 < o.kind) = true := by simp; omega
                      have HX := Lib.hid (show decide (o.step ≠ 0 ∧ (o.kind < 10 ∨ 12 < o.kind)) = true by simp; omega)
                      clear c1 c2 c3
                      go_wp2_with fail
                      go_meet
                      exact ⟨by rw [HX.out], rfl⟩
                    · have e3 : decide (12 < o.kind) = false := by simp; omega
                      have HX := Lib.hid (show decide (o.step ≠ 0 ∧ (o.kind < 10 ∨ 12 < o.kind)) = false by simp; omega)
                      clear c1 c2 c3
                      go_wp2_with fail
                      go_meet
                      exact ⟨by rw [HX.out], rfl⟩
              case rest =>
                obtain ⟨rfl, rfl⟩ := hcut
                by_cases f3 : o.step ≠ 0 ∧ (o.kind < 10 ∨ 12 < o.kind)
                · have q3 : decide (o.step ≠ 0 ∧ (o.kind < 10 ∨ 12 < o.kind)) = true := decide_eq_true f3
                  have HX := Lib.hid (show Od.refRight o = false by unfold Od.refRight; rw [if_neg f0, if_neg f1, if_neg f2, if_pos f3])
                  clear f0 f1 f2 f3
                  rw [q3]
                  clear q3
                  go_wp2_with fail
                  go_ret
                  exact ⟨by rw [HX.out]; rfl, HB.out⟩
                · have q3 : decide (o.step ≠ 0 ∧ (o.kind < 10 ∨ 12 < o.kind)) = false := decide_eq_false f3
                  rw [q3]
                  clear q3
                  go_upto_region 9 with fail
                  go_cut [62] (fun v wx => v = .bool (decide (o.side ≠ 0 ∧ o.kind ≠ 13 ∧ o.kind ≠ 14)) ∧ w1 = wx)
                  case first =>
                    by_cases c1 : o.side = 0
                    · have e1 : (o.side != 0) = false := by simp; omega
                      have HX := Lib.hid (show decide (o.side ≠ 0 ∧ o.kind ≠ 13 ∧ o.kind ≠ 14) = false by simp; omega)
                      clear c1
                      go_wp2_with fail
                      go_meet
                      exact ⟨by rw [HX.out], rfl⟩
                    · have e1 : (o.side != 0) = true := by simp; omega
                      by_cases c2 : o.kind = 13
                      · have e2 : (o.kind != 13) = false := by simp; omega
                        have HX := Lib.hid (show decide (o.side ≠ 0 ∧ o.kind ≠ 13 ∧ o.kind ≠ 14) = false by simp; omega)
                        clear c1 c2
                        go_wp2_with fail
                        go_meet
                        exact ⟨by rw [HX.out], rfl⟩
                      · have e2 : (o.kind != 13) = true := by simp; omega
                        by_cases c3 : o.kind = 14
                        · have e3 : (o.kind != 14) = false := by simp; omega
                          have HX := Lib.hid (show decide (o.side ≠ 0 ∧ o.kind ≠ 13 ∧ o.kind ≠ 14) = false by simp; omega)
                          clear c1 c2 c3
                          go_wp2_with fail
                          go_meet
                          exact ⟨by rw [HX.out], rfl⟩
                        · have e3 : (o.kind != 14) = true := by simp; omega
                          have HX := Lib.hid (show decide (o.side ≠ 0 ∧ o.kind ≠ 13 ∧ o.kind ≠ 14) = true by simp; omega)
                          clear c1 c2 c3
                          go_wp2_with fail
                          go_meet
                          exact ⟨by rw [HX.out], rfl⟩
                  case rest =>
                    obtain ⟨rfl, rfl⟩ := hcut
                    by_cases f4 : o.side ≠ 0 ∧ o.kind ≠ 13 ∧ o.kind ≠ 14
                    · have q4 : decide (o.side ≠ 0 ∧ o.kind ≠ 13 ∧ o.kind ≠ 14) = true := decide_eq_true f4
                      have HX := Lib.hid (show Od.refRight o = false by unfold Od.refRight; rw [if_neg f0, if_neg f1, if_neg f2, if_neg f3, if_pos f4])
                      clear f0 f1 f2 f3 f4
                      rw [q4]
                      clear q4
                      go_wp2_with fail
                      go_ret
                      exact ⟨by rw [HX.out]; rfl, HB.out⟩
                    · have q4 : decide (o.side ≠ 0 ∧ o.kind ≠ 13 ∧ o.kind ≠ 14) = false := decide_eq_false f4
                      rw [q4]
                      clear q4
                      go_upto_region 11 with fail
                      go_cut [75] (fun v wx => v = .bool (decide ((o.frm ≠ 0 ∨ o.to ≠ 0) ∧ o.kind ≠ 14)) ∧ w1 = wx)
                      case first =>
                        by_cases c1 : o.frm = 0
                        · have e1 : (o.frm != 0) = false := by simp; omega
                          by_cases c2 : o.to = 0
                          · have e2 : (o.to != 0) = false := by simp; omega
                            have HX := Lib.hid (show decide ((o.frm ≠ 0 ∨ o.to ≠ 0) ∧ o.kind ≠ 14) = false by simp; omega)
                            clear c1 c2
                            go_wp2_with fail
                            go_meet
                            exact ⟨by rw [HX.out], rfl⟩
                          · have e2 : (o.to != 0) = true := by simp; omega
                            by_cases c3 : o.kind = 14
                            · have e3 : (o.kind != 14) = false := by simp; omega
                              have HX := Lib.hid (show decide ((o.frm ≠ 0 ∨ o.to ≠ 0) ∧ o.kind ≠ 14) = false by simp; omega)
                              clear c1 c2 c3
                              go_wp2_with fail
                              go_meet
                              exact ⟨by rw [HX.out], rfl⟩
                            · have e3 : (o.kind != 14) = true := by simp; omega
                              have HX := Lib.hid (show decide ((o.frm ≠ 0 ∨ o.to ≠ 0) ∧ o.kind ≠ 14) = true by simp; omega)
                              clear c1 c2 c3
                              go_wp2_with fail
                              go_meet
                              exact ⟨by rw [HX.out], rfl⟩
                        · have e1 : (o.frm != 0) = true := by simp; omega
                          by_cases c2 : o.kind = 14
                          · have e2 : (o.kind != 14) = false := by simp; omega
                            have HX := Lib.hid (show decide ((o.frm ≠ 0 ∨ o.to ≠ 0) ∧ o.kind ≠ 14) = false by simp; omega)
                            clear c1 c2
                            go_wp2_with fail
                            go_meet
                            exact ⟨by rw [HX.out], rfl⟩
                          · have e2 : (o.kind != 14) = true := by simp; omega
                            have HX := Lib.hid (show decide ((o.frm ≠ 0 ∨ o.to ≠ 0) ∧ o.kind ≠ 14) = true by simp; omega)
                            clear c1 c2
                            go_wp2_with fail
                            go_meet
                            exact ⟨by rw [HX.out], rfl⟩
                      case rest =>
                        obtain ⟨rfl, rfl⟩ := hcut
                        by_cases f5 : (o.frm ≠ 0 ∨ o.to ≠ 0) ∧ o.kind ≠ 14
                        · have q5 : decide ((o.frm ≠ 0 ∨ o.to ≠ 0) ∧ o.kind ≠ 14) = true := decide_eq_true f5
                          have HX := Lib.hid (show Od.refRight o = false by unfold Od.refRight; rw [if_neg f0, if_neg f1, if_neg f2, if_neg f3, if_neg f4, if_pos f5])
                          clear f0 f1 f2 f3 f4 f5
                          rw [q5]
                          clear q5
                          go_wp2_with fail
                          go_ret
                          exact ⟨by rw [HX.out]; rfl, HB.out⟩
                        · have q5 : decide ((o.frm ≠ 0 ∨ o.to ≠ 0) ∧ o.kind ≠ 14) = false := decide_eq_false f5
                          rw [q5]
                          clear q5
                          have HF := Lib.hid (show Od.refRight o = decide (o.s = [] ∨ o.kind = 15) by unfold Od.refRight; rw [if_neg f0, if_neg f1, if_neg f2, if_neg f3, if_neg f4, if_neg f5])
                          clear f0 f1 f2 f3 f4 f5
                          by_cases h1 : o.s = []
                          · have HX := Lib.hid (show decide (o.s = [] ∨ o.kind = 15) = true by simp [h1])
                            have e1 : ((o.s.length : Int) == 0) = true := by simp [h1]
                            have e2 : o.s.length = 0 := by simp [h1]
                            rw [e2] at *
                            clear h1
                            go_wp2_with fail
                            go_ret
                            exact ⟨by rw [HF.out, HX.out]; rfl, HB.out⟩
                          · have e1 : ((o.s.length : Int) == 0) = false := by simp [h1]
                            have e2 : (o.s.length == 0) = false := by simp [h1]
                            by_cases h2 : o.kind = 15
                            · have HX := Lib.hid (show decide (o.s = [] ∨ o.kind = 15) = true by simp [h2])
                              have e3 : (o.kind == 15) = true := by simp [h2]
                              clear h1 h2
                              go_wp2_with fail
                              go_ret
                              exact ⟨by rw [HF.out, HX.out]; rfl, HB.out⟩
                            · have HX := Lib.hid (show decide (o.s = [] ∨ o.kind = 15) = false by simp [h1, h2])
                              have e3 : (o.kind == 15) = false := by simp [h2]
                              clear h1 h2
                              go_wp2_with fail
                              go_ret
                              exact ⟨by rw [HF.out, HX.out]; rfl, HB.out⟩
end Go.Proofs.Ytbnnpkcfifejmaa
/- The reference of layer 10: Ins for any kind; the laws' own copy of an op: contracts. -/
namespace Go.Proofs.Ytbnnpkcfifejmaa
open Go.RowKit
set_option maxHeartbeats 4000000 in
theorem ref10_ins_any (k : Int) (w : World) : Calls Try.prog 27 #[.int .i64 k] w fun e w' => e = .returned (.tuple #[.int .i64 (refIns k).1, .int .i64 (refIns k).2]) ∧ w = w' := by
  by_cases hk : 1 ≤ k ∧ k ≤ 15
  · exact ref10_ins k w hk
  · have HX := Lib.hid (show refIns k = (0, 0) by unfold refIns; rw [if_neg (by omega), if_neg (by omega), if_neg (by omega)])
    by_cases h1 : k < 1
    · have d1 : decide (1 ≤ k) = false := by simp; omega
      have d8 : decide (8 ≤ k) = false := by simp; omega
      have e13 : (k == 13) = false := by simp; omega
      clear hk
      go_enter Try.func27, Try.ntmps27
      go_wp2_with fail
      go_ret2
      exact ⟨by rw [HX.out]; rfl, rfl⟩
    · have g1 : 15 < k := by omega
      have d7 : decide (k ≤ 7) = false := by simp; omega
      have d15 : decide (k ≤ 15) = false := by simp; omega
      have e13 : (k == 13) = false := by simp; omega
      clear hk h1
      go_enter Try.func27, Try.ntmps27
      go_wp2_with fail
      go_ret2
      exact ⟨by rw [HX.out]; rfl, rfl⟩
set_option maxHeartbeats 4000000 in
theorem law10_ref (o : OpD) (S : Option Addr) (c : Nat) (w : World) :
    Calls Try.prog 26 #[.agg #[.int .i64 o.kind, .int .i64 o.k, .int .i64 o.width, .int .i64 o.step, .int .i64 o.side, .int .i64 o.frm, .int .i64 o.to, .slice S o.s.length c]] w fun e w' => e = .returned (.agg #[.int .i64 o.kind, .int .i64 o.k, .int .i64 o.width, .int .i64 o.step, .int .i64 o.side, .int .i64 o.frm, .int .i64 o.to, .slice S o.s.length c]) ∧ Below w.heap.size w w' := by
  have hb0 := below2 w (.cells #[.int .i64 o.kind, .int .i64 o.k, .int .i64 o.width, .int .i64 o.step, .int .i64 o.side, .int .i64 o.frm, .int .i64 o.to, .slice S o.s.length c] 26) (.cells #[.int .i64 o.kind, .int .i64 o.k, .int .i64 o.width, .int .i64 o.step, .int .i64 o.side, .int .i64 o.frm, .int .i64 o.to, .slice S o.s.length c] 61)
  have hk0 := Blk.new w 26 #[.int .i64 o.kind, .int .i64 o.k, .int .i64 o.width, .int .i64 o.step, .int .i64 o.side, .int .i64 o.frm, .int .i64 o.to, .slice S o.s.length c]
  have hk1 := Blk.new (w.alloc (.cells #[.int .i64 o.kind, .int .i64 o.k, .int .i64 o.width, .int .i64 o.step, .int .i64 o.side, .int .i64 o.frm, .int .i64 o.to, .slice S o.s.length c] 26)) 61 #[.int .i64 o.kind, .int .i64 o.k, .int .i64 o.width, .int .i64 o.step, .int .i64 o.side, .int .i64 o.frm, .int .i64 o.to, .slice S o.s.length c]
  rw [World.size_alloc] at hk1
  obtain ⟨d0, d1, d2, d3, d4, d5, d6, d7⟩ := op_cells hk1
  have Hb0 := Lib.hid hb0
  clear hb0
  clear hk0 hk1
  go_enter Try.func26, Try.ntmps26
  go_wp2_with fail
  refine bodyPost_ret (v := .agg #[.int .i64 o.kind, .int .i64 o.k, .int .i64 o.width, .int .i64 o.step, .int .i64 o.side, .int .i64 o.frm, .int .i64 o.to, .slice S o.s.length c]) (by simp [results, Try.results26, go_sem, d0, d1, d2, d3, d4, d5, d6, d7]) rfl ?_
  exact ⟨rfl, Hb0.out⟩
end Go.Proofs.Ytbnnpkcfifejmaa
/- Rows of the call's own: what they read as. No program is named here. -/
namespace Go.Proofs.Ytbnnpkcfifejmaa
open Go.RowKit
theorem own_form {w : World} {B e s n : Nat} {v : Value} {xs : List Value} (h : w.ownsRow B e s v n xs) : ∃ A c, v = .slice A n c := by
  rcases h.2 with ⟨rfl, h0⟩ | ⟨g, cap, cur, rfl, _⟩
  · exact ⟨none, 0, by rw [h0]⟩
  · exact ⟨_, cap, rfl⟩
theorem own_ints {w : World} {B e n c : Nat} {A : Option Addr} {zs : List Int} (h : w.ownsRow B e 1 (.slice A zs.length c) n (zs.map (Value.int .i64))) : Ints .i64 w A zs ∧ zs.length ≤ c ∧ c ≤ 9223372036854775807 := by
  obtain ⟨A1, c1, e1, rfl, hI⟩ := Ints.of_own h
  injection e1 with e1 _ e2
  subst e1 e2
  refine ⟨hI, ?_⟩
  rcases h.2 with ⟨h1, h0⟩ | ⟨g, cap, cur, h1, _, _, h3, h4, _⟩
  · injection h1 with _ _ h1; omega
  · injection h1 with _ _ h1; unfold maxLen at h4; omega
theorem ownsRow_new {w : World} {B e s n : Nat} {v : Value} {xs : List Value} (h : w.ownsRow B e s v n xs) (o : Obj) : (w.alloc o).ownsRow B e s v n xs := ownsRow_heap h fun g hg => Below.heap_alloc w o g (h.lt g hg).2
theorem ownsRow_grown {w w' : World} {B e s n : Nat} {v : Value} {xs : List Value} {row : Option Nat} (h : w.ownsRow B e s v n xs) (hg : w.grownBy w' row) (hr : ∀ b, v.ownBlock = some b → row ≠ some b) : w'.ownsRow B e s v n xs := ownsRow_heap h fun g k => hg.block g (h.lt g k).2 fun e => hr g k e.symm
theorem ownsRow_fr {w w' : World} {B e s n : Nat} {v : Value} {xs : List Value} {S : Nat → Prop} (h : w.ownsRow B e s v n xs) (hg : Fr S w w') (hr : ∀ b, v.ownBlock = some b → ¬ S b) : w'.ownsRow B e s v n xs := ownsRow_heap h fun g k => hg.2 g (h.lt g k).2 (hr g k)
theorem right_short {s : List Int} (h : Sh.right s = true) : 0 < s.length ∧ s.length ≤ 4 := by
  obtain ⟨_, a, b, _⟩ := Sh.right_mul h
  exact ⟨by omega, a⟩
end Go.Proofs.Ytbnnpkcfifejmaa
/- Layer 10's statements: what they share: rows of shapes. -/
namespace Go.Proofs.Ytbnnpkcfifejmaa
open Go.RowKit
/-- Slice values that read as shapes. -/
def RowOf (w : World) (vs : List Value) (ss : List (List Int)) : Prop :=
  vs.length = ss.length ∧ ∀ j (hj : j < ss.length), ∃ S c, vs[j]? = some (.slice S ss[j].length c) ∧ Ints .i64 w S ss[j] ∧ ss[j].length ≤ c ∧ c ≤ 9223372036854775807
theorem RowOf.nil (w : World) : RowOf w [] [] := ⟨rfl, fun j hj => absurd hj (by simp)⟩
theorem RowOf.push {w : World} {vs : List Value} {ss : List (List Int)} {S : Option Addr} {s : List Int} {c : Nat} (h : RowOf w vs ss) (hI : Ints .i64 w S s) (h1 : s.length ≤ c) (h2 : c ≤ 9223372036854775807) : RowOf w (vs ++ [.slice S s.length c]) (ss ++ [s]) := by
  refine ⟨by simp [h.1], fun j hj => ?_⟩
  simp at hj
  by_cases e : j < ss.length
  · obtain ⟨S', c', e1, e2⟩ := h.2 j e
    refine ⟨S', c', ?_, ?_⟩
    · rw [List.getElem?_append_left (by rw [h.1]; exact e), e1]; simp [e]
    · simpa [e] using e2
  · obtain rfl : j = ss.length := by omega
    refine ⟨S, c, ?_, ?_⟩
    · rw [List.getElem?_append_right (by have := h.1; omega)]; simp [h.1]
    · simp; exact ⟨hI, h1, h2⟩
theorem RowOf.below {w w' : World} {vs : List Value} {ss : List (List Int)} {B : Nat} (h : RowOf w vs ss) (hb : Below B w w') (hB : w.heap.size ≤ B) : RowOf w' vs ss :=
  ⟨h.1, fun j hj => by obtain ⟨S, c, e1, e2, e3⟩ := h.2 j hj; exact ⟨S, c, e1, e2.below hb hB, e3⟩⟩
/-- A row of the call's own, of slices that were there, is a slice of shapes. -/
theorem RowOf.shps {w w' : World} {vs : List Value} {ss : List (List Int)} {B n : Nat} {t : TypeId} {v : Value} (h : RowOf w vs ss) (hown : w'.ownsRow B t 1 v n vs) (hb : Below w.heap.size w w') :
    ∃ A c, v = .slice A ss.length c ∧ n = ss.length ∧ Shps w' A ss ∧ ss.length ≤ c ∧ c ≤ 9223372036854775807 := by
  have hn : n = ss.length := by have := hown.1; have := h.1; omega
  subst hn
  rcases hown.2 with ⟨rfl, h0⟩ | ⟨g, cap, cur, rfl, hB, hh, r1, r2, r3, r4⟩
  · have : ss = [] := List.eq_nil_of_length_eq_zero h0
    subst this
    exact ⟨none, 0, rfl, rfl, Shps.nil, by simp, by omega⟩
  · refine ⟨_, cap, rfl, rfl, fun j hj => ?_, r1, by unfold maxLen at r2; omega⟩
    obtain ⟨S, c, e1, e2, e3⟩ := h.2 j hj
    refine ⟨g, 0, S, c, rfl, lt_of_block hh, ?_, e2.below hb (Nat.le_refl _), e3⟩
    rw [Nat.zero_add, hown.cellAt j (by omega)]
    exact e1
theorem shpsT_info : (Try.prog.info? 23).map (fun i => (i.zero, i.size, i.bytes)) = some (some (.slice none 0 0), 1, 24) := by kernel_rfl
end Go.Proofs.Ytbnnpkcfifejmaa
/- Bytes put together by shift and or. No program is named here. -/
namespace Go.Proofs.Ytbnnpkcfifejmaa
open Go.RowKit
theorem or_i64_nat (a b : Nat) (ha : a < 2 ^ 62) (hb : b < 2 ^ 62) : bits .or .i64 (a : Int) (b : Int) = ((a ||| b : Nat) : Int) := by
  have hx : a ||| b < 2 ^ 62 := Nat.or_lt_two_pow ha hb
  have h1 : (BitVec.ofInt 64 (a : Int)).toNat = a := by
    rw [BitVec.ofInt_natCast, BitVec.toNat_ofNat]; exact Nat.mod_eq_of_lt (by omega)
  have h2 : (BitVec.ofInt 64 (b : Int)).toNat = b := by
    rw [BitVec.ofInt_natCast, BitVec.toNat_ofNat]; exact Nat.mod_eq_of_lt (by omega)
  show IntKind.i64.wrap ((BitVec.ofInt 64 (a : Int) ||| BitVec.ofInt 64 (b : Int)).toNat : Int) = _
  rw [BitVec.toNat_or, h1, h2, IntWalk.i64_in _ (by omega)]
theorem or_mul (a b i m : Nat) (hm : m = 2 ^ i) (h : a < m) : (b * m) ||| a = b * m + a := by
  subst hm
  rw [← Nat.shiftLeft_eq, Nat.shiftLeft_add_eq_or_of_lt h]
theorem or_byte (x y : Int) (x0 : 0 ≤ x) (x1 : x ≤ 255) (y0 : 0 ≤ y) (y1 : y ≤ 255) : bits .or .i64 (x * 256) y = x * 256 + y := by
  obtain ⟨n, rfl⟩ := Int.eq_ofNat_of_zero_le x0
  obtain ⟨m, rfl⟩ := Int.eq_ofNat_of_zero_le y0
  have e : ((n : Int) * 256) = ((n * 256 : Nat) : Int) := by omega
  rw [e, or_i64_nat _ _ (by omega) (by omega), or_mul m n 8 256 (by decide) (by omega)]
  omega
theorem or_u64_mul (a b : Nat) (ha : a * 256 + b < 18446744073709551616) (hb : b < 256) : bits .or .u64 ((a * 256 : Nat) : Int) (b : Int) = ((a * 256 + b : Nat) : Int) := by
  have h1 := bits_or_u64_nat (a * 256) b (Nat.lt_of_le_of_lt (Nat.le_add_right _ _) ha) (Nat.lt_of_le_of_lt (Nat.le_add_left _ _) ha)
  rw [h1, or_mul b a 8 256 (by decide) hb]
theorem or_u64_int (n c : Int) (n0 : 0 ≤ n) (n1 : n < 72057594037927936) (c0 : 0 ≤ c) (c1 : c ≤ 255) : bits .or .u64 (n * 256) c = n * 256 + c := by
  obtain ⟨a, rfl⟩ := Int.eq_ofNat_of_zero_le n0
  obtain ⟨b, rfl⟩ := Int.eq_ofNat_of_zero_le c0
  have e : ((a : Int) * 256) = ((a * 256 : Nat) : Int) := by omega
  rw [e, or_u64_mul a b (by omega) (by omega)]
  omega
end Go.Proofs.Ytbnnpkcfifejmaa
/- Layer 1 (fix): the numbers as plain arithmetic, and bits. No program is named here. -/
namespace Go.Proofs.Ytbnnpkcfifejmaa
open Go.RowKit
namespace Fx
/-- What a number may be. -/
def In (x : Int) : Prop := -9223372036854775808 ≤ x ∧ x ≤ 9223372036854775807
def clamp (z : Int) : Int := if 9223372036854775807 < z then 9223372036854775807 else if z < -9223372036854775808 then -9223372036854775808 else z
theorem clamp_in (z : Int) : In (clamp z) := by unfold clamp In; split <;> (try split) <;> omega
theorem clamp_id {z : Int} (h : In z) : clamp z = z := by unfold In at h; unfold clamp; split <;> (try split) <;> omega
theorem clamp_hi {z : Int} (h : 9223372036854775807 ≤ z) : clamp z = 9223372036854775807 := by unfold clamp; split <;> (try split) <;> omega
theorem clamp_lo {z : Int} (h : z ≤ -9223372036854775808) : clamp z = -9223372036854775808 := by unfold clamp; split <;> (try split) <;> omega
theorem in_zero : In 0 := by unfold In; omega
def add (x y : Int) : Int := clamp (x + y)
/-- p / d, rounded to_ the nearest, to_ the even one of two. -/
def rnd (p d : Nat) : Nat := if d < 2 * (p % d) ∨ (2 * (p % d) = d ∧ p / d % 2 = 1) then p / d + 1 else p / d
def neg2 (x y : Int) : Bool := decide (x < 0) != decide (y < 0)
def sgn (b : Bool) (n : Nat) : Int := if b then -(n : Int) else n
def mul (x y : Int) : Int := clamp (sgn (neg2 x y) (rnd (x.natAbs * y.natAbs) 4294967296))
def edge (b : Bool) : Int := if b then -9223372036854775808 else 9223372036854775807
def div (x y : Int) : Int := if y = 0 then (if x = 0 then 0 else edge (decide (x < 0))) else clamp (sgn (neg2 x y) (rnd (x.natAbs * 4294967296) y.natAbs))
theorem edge_in (b : Bool) : In (edge b) := by cases b <;> (unfold edge In; simp)
theorem add_in (x y : Int) : In (add x y) := clamp_in _
theorem mul_in (x y : Int) : In (mul x y) := clamp_in _
theorem div_in (x y : Int) : In (div x y) := by
  unfold div
  split
  · split
    · exact in_zero
    · exact edge_in _
  · exact clamp_in _
theorem clamp_sgn_big {b : Bool} {n : Nat} (h : 9223372036854775808 ≤ n) : clamp (sgn b n) = edge b := by
  cases b
  · exact clamp_hi (by simp [sgn]; omega)
  · exact clamp_lo (by simp [sgn]; omega)
theorem clamp_sgn_small {b : Bool} {n : Nat} (h : n < 9223372036854775808) : clamp (sgn b n) = sgn b n := by
  cases b <;> exact clamp_id (by unfold In; simp [sgn]; omega)
def sum (l : List Int) : Int := l.foldl add 0
def dot (a b : List Int) : Int := (a.zip b).foldl (fun s p => add s (mul p.1 p.2)) 0
theorem foldl_in {α : Type} (f : Int → α → Int) (hf : ∀ s x, In (f s x)) (l : List α) (s : Int) (hs : In s) : In (l.foldl f s) := by
  induction l generalizing s with
  | nil => exact hs
  | cons x r ih => exact ih _ (hf s x)
theorem sum_in (l : List Int) : In (sum l) := foldl_in _ (fun s x => add_in s x) _ _ in_zero
theorem dot_in (a b : List Int) : In (dot a b) := foldl_in _ (fun s x => add_in _ _) _ _ in_zero
/-- Within bounds low and high. -/
def held (x low high : Int) : Int := if high < x then high else if x < low then low else x
theorem held_in {x low high : Int} (hx : In x) (hl : In low) (hh : In high) : In (held x low high) := by unfold held; split <;> (try split) <;> assumption
def neg (x : Int) : Int := if x = -9223372036854775808 then 9223372036854775807 else -x
end Fx

/-- A word's sign. -/
theorem wrap_neg (v : BitVec 64) : IntKind.i64.wrap (v.toNat : Int) < 0 ↔ v.msb = true := by
  have := v.isLt
  rw [IntKind.wrap_i64, BitVec.msb_eq_decide]
  simp
  omega
theorem ofInt_msb {a : Int} (h : Fx.In a) : (BitVec.ofInt 64 a).msb = decide (a < 0) := by
  unfold Fx.In at h
  rw [BitVec.msb_eq_decide, BitVec.toNat_ofInt]
  simp only [decide_eq_decide]
  omega
theorem wrap_in (n : Int) : Fx.In (IntKind.i64.wrap n) := by unfold Fx.In; rw [IntKind.wrap_i64]; omega
theorem ofInt_wrap (v : BitVec 64) : BitVec.ofInt 64 (IntKind.i64.wrap (v.toNat : Int)) = v := by
  have := v.isLt
  apply BitVec.eq_of_toNat_eq
  rw [BitVec.toNat_ofInt, IntKind.wrap_i64]
  omega
theorem xor_neg {a b : Int} (ha : Fx.In a) (hb : Fx.In b) : bits .xor .i64 a b < 0 ↔ (decide (a < 0) != decide (b < 0)) = true := by
  show IntKind.i64.wrap ((BitVec.ofInt 64 a ^^^ BitVec.ofInt 64 b).toNat : Int) < 0 ↔ _
  rw [wrap_neg, BitVec.msb_xor, ofInt_msb ha, ofInt_msb hb]
theorem bits_in (o : BinOp) (a b : Int) : Fx.In (bits o .i64 a b) := wrap_in _
theorem and_neg {a b : Int} (ha : Fx.In a) (hb : Fx.In b) : bits .and .i64 a b < 0 ↔ a < 0 ∧ b < 0 := by
  show IntKind.i64.wrap ((BitVec.ofInt 64 a &&& BitVec.ofInt 64 b).toNat : Int) < 0 ↔ _
  rw [wrap_neg, BitVec.msb_and, ofInt_msb ha, ofInt_msb hb]
  simp
/-- The overflow's test of a sum. -/
theorem add_over {x y s : Int} (hx : Fx.In x) (hy : Fx.In y) (hs : s = IntKind.i64.wrap (x + y)) : bits .and .i64 (bits .xor .i64 x s) (bits .xor .i64 y s) < 0 ↔ ¬ Fx.In (x + y) := by
  have hsi : Fx.In s := by rw [hs]; exact wrap_in _
  rw [and_neg (bits_in _ _ _) (bits_in _ _ _), xor_neg hx hsi, xor_neg hy hsi]
  simp only [bne_iff_ne, ne_eq, decide_eq_decide]
  unfold Fx.In at *
  rw [IntKind.wrap_i64] at hs
  omega
theorem add_no {x y : Int} (h : Fx.In (x + y)) : IntKind.i64.wrap (x + y) = Fx.add x y := by
  unfold Fx.add
  rw [Fx.clamp_id h]
  unfold Fx.In at h
  rw [IntKind.wrap_i64]; omega
theorem add_yes {x y : Int} (hx : Fx.In x) (hy : Fx.In y) (h : ¬ Fx.In (x + y)) : Fx.add x y = Fx.edge (decide (x < 0)) := by
  unfold Fx.add
  unfold Fx.In at *
  by_cases hn : x < 0
  · rw [Fx.clamp_lo (by omega)]; simp [Fx.edge, hn]
  · rw [Fx.clamp_hi (by omega)]; simp [Fx.edge, hn]
end Go.Proofs.Ytbnnpkcfifejmaa
/- Layer 1 (fix): contracts of sums, signs and bounds. -/
namespace Go.Proofs.Ytbnnpkcfifejmaa
open Go.RowKit
theorem fix_edge (b : Bool) (w : World) : Calls Try.prog 77 #[.bool b] w fun e w' => e = .returned (.int .i64 (Fx.edge b)) ∧ w = w' := by
  cases b
  all_goals
    go_enter Try.func77, Try.ntmps77
    go_wp2_with fail
    go_ret
    exact ⟨rfl, rfl⟩
theorem wrap64_same (n : Int) : wrap64 n = IntKind.i64.wrap n := by unfold wrap64; rw [IntKind.wrap_i64]
theorem fix_add (x y : Int) (w : World) (hx : Fx.In x) (hy : Fx.In y) : Calls Try.prog 48 #[.int .i64 x, .int .i64 y] w fun e w' => e = .returned (.int .i64 (Fx.add x y)) ∧ w = w' := by
  have H := Lib.hid (add_over hx hy rfl)
  by_cases h : Fx.In (x + y)
  · have HA := Lib.hid (add_no h)
    have b1 : -9223372036854775808 ≤ x + y := h.1
    have b2 : x + y ≤ 9223372036854775807 := h.2
    have HB := Lib.hid (show IntKind.i64.wrap (x + y) = x + y from IntWalk.i64_in _ ⟨b1, b2⟩)
    have hB : 0 ≤ bits .and .i64 (bits .xor .i64 x (x + y)) (bits .xor .i64 y (x + y)) := by
      have := H.out
      rw [HB.out] at this
      exact Int.not_lt.1 fun k => (this.1 k) h
    clear H hx hy h
    go_enter Try.func48, Try.ntmps48
    go_wp2_with fail
    go_ret
    exact ⟨ret_int (by rw [← HA.out, HB.out]), rfl⟩
  · have HA := Lib.hid (add_yes hx hy h)
    have hB : bits .and .i64 (bits .xor .i64 x (wrap64 (x + y))) (bits .xor .i64 y (wrap64 (x + y))) < 0 := by
      rw [wrap64_same]
      exact H.out.2 h
    clear H hx hy
    have Hh := Lib.hid h
    clear h
    go_enter Try.func48, Try.ntmps48
    go_wp2_with fail
    refine (fix_edge _ _).mono ?_
    rintro e w1 ⟨rfl, rfl⟩
    go_wp2_with fail
    go_ret
    exact ⟨ret_int HA.out.symm, rfl⟩
theorem fix_size (x : Int) (w : World) (hx : Fx.In x) : Calls Try.prog 83 #[.int .i64 x] w fun e w' => e = .returned (.int .u64 (x.natAbs : Int)) ∧ w = w' := by
  obtain ⟨h1, h2⟩ := hx
  by_cases h : x < 0
  · have e : IntKind.u64.wrap (-IntKind.u64.wrap x) = (x.natAbs : Int) := by rw [IntKind.wrap_u64, IntKind.wrap_u64]; omega
    have E := Lib.hid e
    clear e
    go_enter Try.func83, Try.ntmps83
    go_wp2_with fail
    go_ret
    exact ⟨ret_int E.out, rfl⟩
  · have E := Lib.hid (show x = (x.natAbs : Int) by omega)
    go_enter Try.func83, Try.ntmps83
    go_wp2_with fail
    go_ret
    exact ⟨ret_int E.out, rfl⟩
theorem fix_signed_int (q : Int) (b : Bool) (w : World) (h0 : 0 ≤ q) (hq : q < 18446744073709551616) : Calls Try.prog 84 #[.int .u64 q, .bool b] w fun e w' => e = .returned (.int .i64 (Fx.clamp (Fx.sgn b q.toNat))) ∧ w = w' := by
  by_cases h : 9223372036854775808 ≤ q
  · have HE := Lib.hid (Fx.clamp_sgn_big (b := b) (n := q.toNat) (by omega))
    cases b
    all_goals
      go_enter Try.func84, Try.ntmps84
      go_wp2_with fail
      refine (fix_edge _ _).mono ?_
      rintro e w1 ⟨rfl, rfl⟩
      go_wp2_with fail
      go_ret
      exact ⟨ret_int HE.out.symm, rfl⟩
  · have HE := fun b => Fx.clamp_sgn_small (b := b) (n := q.toNat) (by omega)
    have E1 := Lib.hid (HE true)
    have E2 := Lib.hid (HE false)
    clear HE
    have hq2 : q ≤ 9223372036854775807 := by omega
    clear hq h
    cases b
    · have E := Lib.hid (show q = Fx.sgn false q.toNat by simp [Fx.sgn]; omega)
      go_enter Try.func84, Try.ntmps84
      go_wp2_with fail
      go_ret
      exact ⟨ret_int (by rw [E2.out]; exact E.out), rfl⟩
    · have E := Lib.hid (show -q = Fx.sgn true q.toNat by simp [Fx.sgn]; omega)
      go_enter Try.func84, Try.ntmps84
      go_wp2_with fail
      go_ret
      exact ⟨ret_int (by rw [E1.out]; exact E.out), rfl⟩
theorem fix_signed (q : Nat) (b : Bool) (w : World) (hq : (q : Int) < 18446744073709551616) : Calls Try.prog 84 #[.int .u64 q, .bool b] w fun e w' => e = .returned (.int .i64 (Fx.clamp (Fx.sgn b q))) ∧ w = w' := fix_signed_int q b w (by omega) hq
end Go.Proofs.Ytbnnpkcfifejmaa
/-
  DERIVED: THE SHELF's CONTRACTS AT THIS DUMP, IN PLAIN WORDS (tools/lay-plain.mjs out of 'TryShelf.lean', which tools/lay-shelf.mjs wrote): THE SAME DECLARATIONS UNDER THE SAME NAMES: 'import', 'namespace', 'open', 'def', 'theorem' AND NOTHING ELSE: no command of the shelf's: FOR A HAND-IN. Each laying: the table of numbers ('.._ren') and one theorem, a field a fact of the dump's own or the kernel's comparison; each contract: ONE APPLICATION.
-/
namespace Go.Proofs
open Go.Shelf
def Try.lays134_ren : Go.Shelf.Ren := ⟨fun | 134 => 92 | 129 => 93 | n => n, fun | 53 => 112 | 3 => 3 | 4 => 4 | 46 => 116 | 5 => 5 | 9 => 9 | n => n, fun | n => n⟩
theorem Try.lays134 : Go.Proofs.Lays.n134 Try.prog Try.lays134_ren := {
  mixed := by kernel_rfl
  f129 := Try.func93.trans (congrArg some (by kernel_rfl))
  f134 := Try.func92.trans (congrArg some (by kernel_rfl))
  t3 := Try.underlying3
  a3 := Try.isAgg3
  z3 := Try.sizeOf3
  v3 := Try.zeroValue3
  t4 := Try.underlying4
  a4 := Try.isAgg4
  z4 := Try.sizeOf4
  v4 := Try.zeroValue4
  t5 := Try.underlying5
  a5 := Try.isAgg5
  z5 := Try.sizeOf5
  v5 := Try.zeroValue5
  t9 := Try.underlying9
  a9 := Try.isAgg9
  z9 := Try.sizeOf9
  v9 := Try.zeroValue9
  t46 := Try.underlying116
  a46 := Try.isAgg116
  z46 := Try.sizeOf116
  v46 := Try.zeroValue116
  t53 := Try.underlying112
  a53 := Try.isAgg112
  z53 := Try.sizeOf112
  v53 := Try.zeroValue112 }
/-- bits.LeadingZeros64: "LeadingZeros64 returns the number of leading zero bits in x; the result is 64 for x == 0.": IT RETURNS '64 - Lib.bitLen x'; the world is as it was. ITS CALLEE bits.Len64 IS MET BY ITS OWN CONTRACT OFF THE SHELF (lay that first): entered in place it sends the kernel out of memory. (LAID: no walk: one application.) -/
theorem Try.bits_LeadingZeros64 (x : Int) (w : World) (h0 : 0 ≤ x) (h1 : x ≤ 18446744073709551615) :
    Calls Try.prog 92 #[.int .u64 x] w fun e w' => e = .returned (.int .i64 (64 - (Lib.bitLen x.toNat : Int))) ∧ w' = w := Any.bits_LeadingZeros64 Try.lays134 x w h0 h1
def Try.lays129_ren : Go.Shelf.Ren := ⟨fun | 129 => 93 | n => n, fun | 53 => 112 | 3 => 3 | 4 => 4 | 46 => 116 | 5 => 5 | 9 => 9 | n => n, fun | n => n⟩
theorem Try.lays129 : Go.Proofs.Lays.n129 Try.prog Try.lays129_ren := {
  mixed := by kernel_rfl
  f129 := Try.func93.trans (congrArg some (by kernel_rfl))
  t3 := Try.underlying3
  a3 := Try.isAgg3
  z3 := Try.sizeOf3
  v3 := Try.zeroValue3
  t4 := Try.underlying4
  a4 := Try.isAgg4
  z4 := Try.sizeOf4
  v4 := Try.zeroValue4
  t5 := Try.underlying5
  a5 := Try.isAgg5
  z5 := Try.sizeOf5
  v5 := Try.zeroValue5
  t9 := Try.underlying9
  a9 := Try.isAgg9
  z9 := Try.sizeOf9
  v9 := Try.zeroValue9
  t46 := Try.underlying116
  a46 := Try.isAgg116
  z46 := Try.sizeOf116
  v46 := Try.zeroValue116
  t53 := Try.underlying112
  a53 := Try.isAgg112
  z53 := Try.sizeOf112
  v53 := Try.zeroValue112 }
/-- bits.Len64: "Len64 returns the minimum number of bits required to_ represent x; the result is 0 for x == 0.": IT RETURNS 'Lib.bitLen x'; the world is as it was. ('h0', 'h1': x is a uint64.) (LAID: no walk: one application.) -/
theorem Try.bits_Len64 (x : Int) (w : World) (h0 : 0 ≤ x) (h1 : x ≤ 18446744073709551615) :
    Calls Try.prog 93 #[.int .u64 x] w fun e w' => e = .returned (.int .i64 (Lib.bitLen x.toNat)) ∧ w' = w := Any.bits_Len64 Try.lays129 x w h0 h1
def Try.lays264_ren : Go.Shelf.Ren := ⟨fun | 264 => 82 | n => n, fun | 53 => 112 | 46 => 116 | n => n, fun | n => n⟩
theorem Try.lays264 : Go.Proofs.Lays.n264 Try.prog Try.lays264_ren := {
  mixed := by kernel_rfl
  f264 := Try.func82.trans (congrArg some (by kernel_rfl))
  t46 := Try.underlying116
  a46 := Try.isAgg116
  z46 := Try.sizeOf116
  v46 := Try.zeroValue116
  t53 := Try.underlying112
  a53 := Try.isAgg112
  z53 := Try.sizeOf112
  v53 := Try.zeroValue112 }
open Go.RowKit Go.Lib in
theorem Try.bits_Mul64 (x y : Nat) (hx : x < 18446744073709551616) (hy : y < 18446744073709551616) (w : World) :
    Calls Try.prog 82 #[.int .u64 x, .int .u64 y] w fun e w' => e = .returned (.tuple #[.int .u64 ((x * y / 18446744073709551616 : Nat) : Int), .int .u64 ((x * y % 18446744073709551616 : Nat) : Int)]) ∧ w' = w := Any.bits_Mul64 Try.lays264 x y hx hy w
end Go.Proofs
/- Layer 1 (fix): the product: contract. -/
namespace Go.Proofs.Ytbnnpkcfifejmaa
open Go.RowKit
theorem natAbs_le {x : Int} (h : Fx.In x) : x.natAbs ≤ 9223372036854775808 := by unfold Fx.In at h; omega
theorem natAbs_lt {x : Int} (h : Fx.In x) : x.natAbs < 18446744073709551616 := Nat.lt_of_le_of_lt (natAbs_le h) (by decide)
theorem prod_le126 {x y : Int} (hx : Fx.In x) (hy : Fx.In y) : x.natAbs * y.natAbs ≤ 85070591730234615865843651857942052864 := Nat.mul_le_mul (natAbs_le hx) (natAbs_le hy)
theorem u64_join (p : Nat) (hp : p < 39614081257132168796771975168) : bits .or .u64 (((p / 18446744073709551616 : Nat) : Int) * 4294967296) (((p % 18446744073709551616 : Nat) : Int) / 4294967296) = ((p / 4294967296 : Nat) : Int) := by
  have e1 : (((p / 18446744073709551616 : Nat) : Int) * 4294967296) = ((p / 18446744073709551616 * 4294967296 : Nat) : Int) := by omega
  have e2 : (((p % 18446744073709551616 : Nat) : Int) / 4294967296) = ((p % 18446744073709551616 / 4294967296 : Nat) : Int) := by omega
  rw [e1, e2, bits_or_u64_nat _ _ (by omega) (by omega), or_mul _ _ 32 4294967296 (by decide) (by omega)]
  omega
theorem u64_mask (p : Nat) : bits .and .u64 ((p % 18446744073709551616 : Nat) : Int) 4294967295 = ((p % 4294967296 : Nat) : Int) := by
  have h := bits_and_u64_nat (p % 18446744073709551616) 4294967295 (by omega) (by omega)
  have e : p % 18446744073709551616 &&& 4294967295 = p % 18446744073709551616 % 4294967296 := Nat.and_two_pow_sub_one_eq_mod _ 32
  rw [e] at h
  refine h.trans ?_
  omega
theorem u64_odd (q : Nat) (hq : q < 18446744073709551616) : bits .and .u64 (q : Int) 1 = ((q % 2 : Nat) : Int) := by
  have h := bits_and_u64_nat q 1 hq (by omega)
  rw [Nat.and_one_is_mod] at h
  exact h
set_option maxRecDepth 20000 in
theorem fix_mul (x y : Int) (w : World) (hx : Fx.In x) (hy : Fx.In y) : Calls Try.prog 52 #[.int .i64 x, .int .i64 y] w fun e w' => e = .returned (.int .i64 (Fx.mul x y)) ∧ w = w' := by
  have HX := Lib.hid hx
  have HY := Lib.hid hy
  clear hx hy
  go_enter Try.func52, Try.ntmps52
  go_wp2_with fail
  generalize hN : (!(decide (x < 0) == decide (y < 0))) = nb
  have HN := Lib.hid (show Fx.neg2 x y = nb from hN)
  clear hN
  refine (fix_size x _ HX.out).mono ?_
  rintro e w1 ⟨rfl, rfl⟩
  go_wp2_with fail
  refine (fix_size y _ HY.out).mono ?_
  rintro e w1 ⟨rfl, rfl⟩
  go_wp2_with fail
  refine (Try.bits_Mul64 x.natAbs y.natAbs (natAbs_lt HX.out) (natAbs_lt HY.out) _).mono ?_
  rintro e w1 ⟨rfl, hw1⟩
  subst hw1
  obtain ⟨p, hp⟩ : ∃ p, p = x.natAbs * y.natAbs := ⟨_, rfl⟩
  have HP := Lib.hid hp
  rw [← hp]
  have hple : p ≤ 85070591730234615865843651857942052864 := by rw [hp]; exact prod_le126 HX.out HY.out
  clear hp
  obtain ⟨hi, hhi⟩ : ∃ hi : Int, hi = ((p / 18446744073709551616 : Nat) : Int) := ⟨_, rfl⟩
  obtain ⟨lo, hlo⟩ : ∃ lo : Int, lo = ((p % 18446744073709551616 : Nat) : Int) := ⟨_, rfl⟩
  rw [← hhi, ← hlo]
  have b1 : 0 ≤ hi := by omega
  have b2 : 0 ≤ lo := by omega
  have b3 : hi < 4611686018427387905 := by omega
  have b4 : lo ≤ 18446744073709551615 := by omega
  have HH := Lib.hid hhi
  have HL := Lib.hid hlo
  have Hple := Lib.hid hple
  clear hhi hlo hple
  by_cases h : 2147483648 ≤ hi
  · have HE : RowKit.Hid (Fx.edge nb = Fx.mul x y) := by
      have h1 := HH.out
      unfold Fx.mul
      rw [← HP.out, HN.out]
      refine (Fx.clamp_sgn_big ?_).symm
      unfold Fx.rnd
      split <;> omega
    go_wp2_with fail
    refine (fix_edge nb _).mono ?_
    rintro e w1 ⟨rfl, rfl⟩
    go_wp2_with fail
    go_ret
    exact ⟨ret_int HE.out, rfl⟩
  · have hlt : p < 39614081257132168796771975168 := by have := HH.out; have := Hple.out; omega
    have j1 := u64_join p hlt
    have j2 := u64_mask p
    have j3 := u64_odd (p / 4294967296) (by omega)
    rw [← HH.out, ← HL.out] at j1
    rw [← HL.out] at j2
    obtain ⟨q, hq⟩ : ∃ q : Int, q = ((p / 4294967296 : Nat) : Int) := ⟨_, rfl⟩
    obtain ⟨r, hr⟩ : ∃ r : Int, r = ((p % 4294967296 : Nat) : Int) := ⟨_, rfl⟩
    obtain ⟨t, ht⟩ : ∃ t : Int, t = ((p / 4294967296 % 2 : Nat) : Int) := ⟨_, rfl⟩
    have q0 : 0 ≤ q := by omega
    have q1 : q ≤ 9223372036854775807 := by omega
    have r0 : 0 ≤ r := by omega
    have r1 : r ≤ 4294967295 := by omega
    rw [← hq] at j1 j3
    rw [← hr] at j2
    rw [← ht] at j3
    have HQ := Lib.hid hq
    have HR := Lib.hid hr
    have HT := Lib.hid ht
    have Hl := Lib.hid hlt
    clear hq hr ht hlt
    have key : ∀ z : Int, 0 ≤ z → z.toNat = Fx.rnd p 4294967296 → Fx.clamp (Fx.sgn nb z.toNat) = Fx.mul x y := fun z _ hz => by
      unfold Fx.mul
      rw [← HP.out, HN.out, hz]
    have Hk := Lib.hid key
    clear key
    by_cases h1 : 2147483648 < r
    · have d1 : decide (2147483648 < r) = true := by simpa using h1
      have d2 : (r == 2147483648) = false := by simp; omega
      have hz : (q + 1).toNat = Fx.rnd p 4294967296 := by
        have := HQ.out; have := HR.out
        unfold Fx.rnd
        rw [if_pos (by omega)]
        omega
      have Hz := Lib.hid hz
      clear hz h1
      go_wp2_with fail
      refine (fix_signed_int (q + 1) nb _ (by omega) (by omega)).mono ?_
      rintro e w1 ⟨rfl, rfl⟩
      go_wp2_with fail
      go_ret
      exact ⟨ret_int (Hk.out _ (by omega) Hz.out), rfl⟩
    · have d1 : decide (2147483648 < r) = false := by simpa using h1
      by_cases h2 : r = 2147483648
      · have d2 : (r == 2147483648) = true := by simpa using h2
        by_cases h3 : t = 1
        · have d3 : (t == 1) = true := by simpa using h3
          have hz : (q + 1).toNat = Fx.rnd p 4294967296 := by
            have := HQ.out; have := HR.out; have := HT.out
            unfold Fx.rnd
            rw [if_pos (by omega)]
            omega
          have Hz := Lib.hid hz
          clear hz h1 h2 h3
          go_wp2_with fail
          refine (fix_signed_int (q + 1) nb _ (by omega) (by omega)).mono ?_
          rintro e w1 ⟨rfl, rfl⟩
          go_wp2_with fail
          go_ret
          exact ⟨ret_int (Hk.out _ (by omega) Hz.out), rfl⟩
        · have d3 : (t == 1) = false := by simpa using h3
          have hz : q.toNat = Fx.rnd p 4294967296 := by
            have := HQ.out; have := HR.out; have := HT.out
            unfold Fx.rnd
            rw [if_neg (by omega)]
            omega
          have Hz := Lib.hid hz
          clear hz h1 h2 h3
          go_wp2_with fail
          refine (fix_signed_int q nb _ (by omega) (by omega)).mono ?_
          rintro e w1 ⟨rfl, rfl⟩
          go_wp2_with fail
          go_ret
          exact ⟨ret_int (Hk.out _ (by omega) Hz.out), rfl⟩
      · have d2 : (r == 2147483648) = false := by simpa using h2
        have hz : q.toNat = Fx.rnd p 4294967296 := by
          have := HQ.out; have := HR.out; have := HT.out
          unfold Fx.rnd
          rw [if_neg (by omega)]
          omega
        have Hz := Lib.hid hz
        clear hz h1 h2
        go_wp2_with fail
        refine (fix_signed_int q nb _ (by omega) (by omega)).mono ?_
        rintro e w1 ⟨rfl, rfl⟩
        go_wp2_with fail
        go_ret
        exact ⟨ret_int (Hk.out _ (by omega) Hz.out), rfl⟩
end Go.Proofs.Ytbnnpkcfifejmaa
/- A long division by digits of 32 bits (math/bits.Div64), as plain arithmetic. No program is named here. -/
namespace Go.Proofs.Ytbnnpkcfifejmaa
namespace Kd
/-- May a digit's guess go down? -/
def more (q r b v : Nat) : Bool := decide (4294967296 ≤ q) || decide (4294967296 * r + v < q * b)
section
variable {u v y a b q r : Nat}
theorem digit_lt (hv : v < 4294967296) (hu : u < y) : (u * 4294967296 + v) / y < 4294967296 := by
  rw [Nat.div_lt_iff_lt_mul (by omega)]
  have : (u + 1) * 4294967296 ≤ y * 4294967296 := Nat.mul_le_mul_right _ hu
  rw [Nat.mul_comm 4294967296 y]
  omega
theorem prod_eq (hy : y = a * 4294967296 + b) : q * y = q * a * 4294967296 + q * b := by rw [hy, Nat.mul_add, Nat.mul_assoc]
theorem step (hy : y = a * 4294967296 + b) (hv : v < 4294967296) (hu : u < y) (hq : u = q * a + r) (h : more q r b v = true) : (u * 4294967296 + v) / y < q := by
  simp only [more, Bool.or_eq_true, decide_eq_true_eq] at h
  by_cases h1 : 4294967296 ≤ q
  · exact Nat.lt_of_lt_of_le (digit_lt hv hu) h1
  · rw [Nat.div_lt_iff_lt_mul (by omega), prod_eq hy]
    omega
theorem stop (hy : y = a * 4294967296 + b) (hq : u = q * a + r) (hy0 : 0 < y) (h : more q r b v = false) : q ≤ (u * 4294967296 + v) / y := by
  simp only [more, Bool.or_eq_false_iff, decide_eq_false_iff_not] at h
  rw [Nat.le_div_iff_mul_le hy0, prod_eq hy]
  omega
theorem stop_brk (hy : y = a * 4294967296 + b) (hq : u = q * a + r) (hy0 : 0 < y) (hb : b < 4294967296) (hq1 : q ≤ 4294967296) (hr : 4294967296 ≤ r) : q ≤ (u * 4294967296 + v) / y := by
  rw [Nat.le_div_iff_mul_le hy0, prod_eq hy]
  have h1 : q * b ≤ 4294967296 * b := Nat.mul_le_mul_right _ hq1
  omega
theorem first (ha : 2147483648 ≤ a) (hy : y = a * 4294967296 + b) (hb : b < 4294967296) (hu : u < y) : u / a ≤ 4294967297 := by
  have : u / a < 4294967298 := by
    rw [Nat.div_lt_iff_lt_mul (by omega)]
    omega
  omega
/-- One round keeps this. -/
structure Inv (u v y a b q r : Nat) : Prop where
  eq : u = q * a + r
  ge : (u * 4294967296 + v) / y ≤ q
  le : q ≤ 4294967297
theorem Inv.start (ha : 2147483648 ≤ a) (hy : y = a * 4294967296 + b) (hb : b < 4294967296) (hv : v < 4294967296) (hu : u < y) : Inv u v y a b (u / a) (u - u / a * a) := by
  have h0 := Nat.div_mul_le_self u a
  refine ⟨by omega, ?_, first ha hy hb hu⟩
  rw [← Nat.lt_add_one_iff, Nat.div_lt_iff_lt_mul (by omega)]
  have h2 : u < (u / a + 1) * a := by rw [← Nat.div_lt_iff_lt_mul (by omega)]; omega
  have h3 : (u / a + 1) * y = (u / a + 1) * a * 4294967296 + (u / a + 1) * b := prod_eq hy
  rw [h3]
  generalize (u / a + 1) * a = t at *
  generalize (u / a + 1) * b = t2 at *
  omega
theorem Inv.next (h : Inv u v y a b q r) (hy : y = a * 4294967296 + b) (hv : v < 4294967296) (hu : u < y) (hm : more q r b v = true) : 1 ≤ q ∧ q - 1 ≤ 4294967296 ∧ Inv u v y a b (q - 1) (r + a) := by
  have h1 := step hy hv hu h.eq hm
  have h2 := h.le
  have h5 : (u * 4294967296 + v) / y ≤ q - 1 := by
    generalize (u * 4294967296 + v) / y = d at h1
    omega
  have h6 : 1 ≤ q := Nat.lt_of_le_of_lt (Nat.zero_le _) h1
  clear h1
  have h3 : q * a = (q - 1) * a + a := by
    obtain ⟨n, rfl⟩ : ∃ n, q = n + 1 := ⟨q - 1, by omega⟩
    rw [Nat.add_sub_cancel, Nat.succ_mul]
  have h4 := h.eq
  exact ⟨h6, by omega, ⟨by omega, h5, by omega⟩⟩
theorem Inv.done (h : Inv u v y a b q r) (hy : y = a * 4294967296 + b) (hy0 : 0 < y) (hm : more q r b v = false) : q = (u * 4294967296 + v) / y :=
  Nat.le_antisymm (stop hy h.eq hy0 hm) h.ge
theorem Inv.brk (h : Inv u v y a b q r) (hy : y = a * 4294967296 + b) (hy0 : 0 < y) (hb : b < 4294967296) (hq : q ≤ 4294967296) (hr : 4294967296 ≤ r) : q = (u * 4294967296 + v) / y :=
  Nat.le_antisymm (stop_brk hy h.eq hy0 hb hq hr) h.ge
end
theorem two0 {u v1 v0 y q1 r1 : Nat} (hy : 0 < y) (h1 : y * q1 + r1 = u * 4294967296 + v1) :
    (u * 18446744073709551616 + v1 * 4294967296 + v0) / y = q1 * 4294967296 + (r1 * 4294967296 + v0) / y ∧ (u * 18446744073709551616 + v1 * 4294967296 + v0) % y = (r1 * 4294967296 + v0) % y := by
  have e : u * 18446744073709551616 + v1 * 4294967296 + v0 = y * (q1 * 4294967296) + (r1 * 4294967296 + v0) := by
    rw [← Nat.mul_assoc]
    omega
  rw [e, Nat.mul_add_div hy, Nat.mul_add_mod]
  exact And.intro rfl rfl
/-- Two digits are the quotient. -/
theorem two {u v1 v0 y : Nat} (hy : 0 < y) :
    (u * 18446744073709551616 + v1 * 4294967296 + v0) / y = (u * 4294967296 + v1) / y * 4294967296 + ((u * 4294967296 + v1) % y * 4294967296 + v0) / y ∧
    (u * 18446744073709551616 + v1 * 4294967296 + v0) % y = ((u * 4294967296 + v1) % y * 4294967296 + v0) % y :=
  two0 hy (Nat.div_add_mod (u * 4294967296 + v1) y)
/-- Both shifted. -/
theorem shifted (n y s : Nat) : n * 2 ^ s / (y * 2 ^ s) = n / y ∧ n * 2 ^ s % (y * 2 ^ s) / 2 ^ s = n % y := by
  have hp : 0 < 2 ^ s := Nat.two_pow_pos s
  refine ⟨Nat.mul_div_mul_right _ _ hp, ?_⟩
  rw [Nat.mul_mod_mul_right, Nat.mul_div_cancel _ hp]
/-- What the shift leaves of two words. -/
theorem words {hi lo s : Nat} (hs : s < 64) (hlo : lo < 18446744073709551616) :
    (hi * 18446744073709551616 + lo) * 2 ^ s = (hi * 2 ^ s + lo / 2 ^ (64 - s)) * 18446744073709551616 + lo * 2 ^ s % 18446744073709551616 := by
  have e : (18446744073709551616 : Nat) = 2 ^ (64 - s) * 2 ^ s := by rw [← Nat.pow_add, show 64 - s + s = 64 by omega]
  have hp : 0 < 2 ^ s := Nat.two_pow_pos s
  have h1 : lo * 2 ^ s / 18446744073709551616 = lo / 2 ^ (64 - s) := by rw [e, Nat.mul_div_mul_right _ _ hp]
  have h2 := Nat.div_add_mod (lo * 2 ^ s) 18446744073709551616
  rw [h1] at h2
  rw [Nat.add_mul, Nat.mul_right_comm]
  generalize hi * 2 ^ s = x at *
  generalize lo / 2 ^ (64 - s) = z at *
  omega
theorem low_lt {lo s : Nat} (hs : s < 64) (hlo : lo < 18446744073709551616) : lo / 2 ^ (64 - s) < 2 ^ s := by
  rw [Nat.div_lt_iff_lt_mul (Nat.two_pow_pos _), ← Nat.pow_add, show s + (64 - s) = 64 by omega]
  exact hlo
theorem high_lt {hi lo y s : Nat} (hs : s < 64) (hlo : lo < 18446744073709551616) (h : hi < y) : hi * 2 ^ s + lo / 2 ^ (64 - s) < y * 2 ^ s := by
  have h1 := low_lt hs hlo
  have h2 : (hi + 1) * 2 ^ s ≤ y * 2 ^ s := Nat.mul_le_mul_right _ h
  rw [Nat.succ_mul] at h2
  omega
end Kd
end Go.Proofs.Ytbnnpkcfifejmaa
