/- Layer 10 (op): the answer's shape: contract. -/
import Derived.Test.YtjkhpbngpceenaaOp4
import Derived.Test.YtjkhpbngpceenaaOp5
import Derived.StillTailTactics
namespace Go.Proofs.Ytjkhpbngpceenaa
open Go.RowKit

theorem Od.shape_bad_p {o : OpD} {p x : List (List Int)} (h : Od.counts o p.length x.length = 0) (hp : ¬ (p.all Sh.right = true ∧ x.all Sh.right = true)) : Od.shape o p x = ([], 20) := by
  unfold Od.shape
  rw [if_neg (by simp [h]), if_neg (by simpa using hp)]
theorem Od.shape_go {o : OpD} {p x : List (List Int)} (h : Od.counts o p.length x.length = 0) (hp : p.all Sh.right = true) (hx : x.all Sh.right = true) : Od.shape o p x = Od.byKind o p x := by
  unfold Od.shape
  rw [if_neg (by simp [h]), if_pos (by simp only [Bool.and_eq_true]; exact ⟨hp, hx⟩)]
theorem Od.counts_ok {o : OpD} {p x : Int} (h : Od.counts o p x = 0) : Od.right o = true ∧ Od.least o ≤ x ∧ x ≤ Od.most o ∧ p = Od.params o := by
  unfold Od.counts at h
  split at h
  · rename_i hr
    split at h
    · simp at h
    · rename_i hc; exact ⟨hr, by omega, by omega, by omega⟩
  · simp at h
theorem all_bad {ss : List (List Int)} {k : Nat} (hk : k < ss.length) (h : Sh.right ss[k] = false) : ¬ ss.all Sh.right = true := by
  rw [List.all_eq_true]
  intro q
  have := q _ (List.getElem_mem hk)
  rw [h] at this
  cases this
/-- Behind the counts: all shapes are looked at. -/
def ShpIn (w : World) (A : Option Addr) (c : Nat) (ss : List (List Int)) : Prop := Shps w A ss ∧ ss.length ≤ c ∧ c ≤ 9223372036854775807 ∧ ∀ s ∈ ss, s.length ≤ 17592186043904
theorem ShpIn.below {w w' : World} {A : Option Addr} {c B : Nat} {ss : List (List Int)} (h : ShpIn w A c ss) (hb : Below B w w') (hB : w.heap.size ≤ B) : ShpIn w' A c ss := ⟨h.1.below hb hB, h.2⟩
theorem ShpIn.at_ {w : World} {A : Option Addr} {c : Nat} {ss : List (List Int)} (h : ShpIn w A c ss) {k : Nat} (hk : k < ss.length) :
    ∃ b off S d, A = some ⟨b, off, none⟩ ∧ w.cell? ⟨b, off + k, none⟩ = some (.slice S ss[k].length d) ∧ Ints .i64 w S ss[k] ∧ ss[k].length ≤ d ∧ d ≤ 9223372036854775807 ∧ ss[k].length ≤ 17592186043904 := by
  obtain ⟨b, off, S, d, e, _, hc, h1, h2, h3⟩ := h.1 k hk
  exact ⟨b, off, S, d, e, hc, h1, h2, h3, h.2.2.2 _ (List.getElem_mem hk)⟩
theorem ShpIn.two {w : World} {A : Option Addr} {c : Nat} {ss : List (List Int)} (h : ShpIn w A c ss) (h1 : 1 < ss.length) :
    ∃ b off S d S' d', A = some ⟨b, off, none⟩ ∧ w.cell? ⟨b, off, none⟩ = some (.slice S ss[0].length d) ∧ w.cell? ⟨b, off + 1, none⟩ = some (.slice S' ss[1].length d') ∧ Ints .i64 w S ss[0] ∧ Ints .i64 w S' ss[1] ∧ ss[0].length ≤ 17592186043904 ∧ ss[1].length ≤ 17592186043904 := by
  obtain ⟨b, off, S, d, rfl, y, hI, _, _, l⟩ := h.at_ (by omega : 0 < ss.length)
  obtain ⟨b', off', S', d', e, y', hI', _, _, l'⟩ := h.at_ h1
  injection e with e
  injection e with e1 e2
  subst e1 e2
  exact ⟨b, off, S, d, S', d', rfl, y, y', hI, hI', l, l'⟩
theorem cell_below {w w' : World} {p : Addr} {v : Value} (hb : Below w.heap.size w w') (hc : w.cell? p = some v) : w'.cell? p = some v := (hb.cell (p := p) (World.block_lt_of_cell? _ _ hc)).trans hc
theorem pair_shps {w : World} {t : TypeId} {S S' : Option Addr} {d d' : Nat} {s s' : List Int} (h : Ints .i64 w S s) (h' : Ints .i64 w S' s') (l1 : s.length ≤ d) (l2 : d ≤ 9223372036854775807) (l1' : s'.length ≤ d') (l2' : d' ≤ 9223372036854775807) :
    Shps (w.alloc (.cells #[.slice S s.length d, .slice S' s'.length d'] t)) (some ⟨w.heap.size, 0, none⟩) [s, s'] := fun j hj => by
  have hk := Blk.new w t #[.slice S s.length d, .slice S' s'.length d']
  match j, hj with
  | 0, _ => exact ⟨_, _, S, d, rfl, hk.lt, by rw [hk.cell]; rfl, h.alloc _, l1, l2⟩
  | 1, _ => exact ⟨_, _, S', d', rfl, hk.lt, by rw [hk.cell]; rfl, h'.alloc _, l1', l2'⟩
theorem ShPost.pass {r r' : List Int × Int} {w wx w' : World} {S : Option Addr} {d : Nat} (he : r' = r) (hbx : Below w.heap.size w wx) (hI : Ints .i64 w' S r.1) (h1 : r.1.length ≤ d) (h2 : d ≤ 9223372036854775807) (hf : ∀ a, S = some a → wx.heap.size ≤ a.block) (hb : Below wx.heap.size wx w') :
    ShPost r' w (.returned (.tuple #[.slice S r.1.length d, .int .i64 r.2])) w' := by
  subst he
  exact ⟨S, d, rfl, hI, h1, h2, (fun a h => Nat.le_trans hbx.size (hf a h)), hbx.trans (hb.mono hbx.size)⟩
set_option maxHeartbeats 8000000 in
theorem op_shape (o : OpD) (S P X : Option Addr) (c d f : Nat) (p x : List (List Int)) (w : World) (ho : o.s.length ≤ 17592186043904) (hI : Ints .i64 w S o.s) (hP : ShpIn w P d p) (hX : ShpIn w X f x) :
    Calls Try.prog 69 #[.agg #[.int .i64 o.kind, .int .i64 o.k, .int .i64 o.width, .int .i64 o.step, .int .i64 o.side, .int .i64 o.frm, .int .i64 o.to, .slice S o.s.length c], .slice P p.length d, .slice X x.length f] w (ShPost (Od.shape o p x) w) := by
  have hk0 := Blk.new w 43 #[.int .i64 o.kind, .int .i64 o.k, .int .i64 o.width, .int .i64 o.step, .int .i64 o.side, .int .i64 o.frm, .int .i64 o.to, .slice S o.s.length c]
  have hb0 : Below w.heap.size w (w.alloc (.cells #[.int .i64 o.kind, .int .i64 o.k, .int .i64 o.width, .int .i64 o.step, .int .i64 o.side, .int .i64 o.frm, .int .i64 o.to, .slice S o.s.length c] 43)) := (Below.refl _ _).alloc (Nat.le_refl _) _
  have hlt0 := hk0.lt
  have hr := op_counts o S c p.length x.length (w.alloc (.cells #[.int .i64 o.kind, .int .i64 o.k, .int .i64 o.width, .int .i64 o.step, .int .i64 o.side, .int .i64 o.frm, .int .i64 o.to, .slice S o.s.length c] 43)) ho (hI.alloc _)
  have hpl : p.length ≤ 9223372036854775807 := by have := hP.2.1; have := hP.2.2.1; omega
  have hxl : x.length ≤ 9223372036854775807 := by have := hX.2.1; have := hX.2.2.1; omega
  by_cases hq : Od.counts o p.length x.length = 0
  case neg =>
    have d1 : (Od.counts o p.length x.length != 0) = true := by simp [hq]
    have HE := Lib.hid (show Od.shape o p x = ([], Od.counts o p.length x.length) by unfold Od.shape; rw [if_pos hq])
    generalize Od.counts o p.length x.length = n at *
    have Hr := Lib.hid hr
    have Hk0 := Lib.hid hk0
    have HI := Lib.hid hI
    have HP := Lib.hid hP
    have HX := Lib.hid hX
    clear hr hk0 hI hP hX
    clear hq
    go_enter Try.func69, Try.ntmps69
    go_wp2_with fail
    refine (Hr.out).mono ?_
    rintro e w1 ⟨rfl, h1⟩
    go_wp2_with fail
    go_ret2
    exact ShPost.fail HE.out (hb0.trans (h1.mono hb0.size))
  have HQ := Lib.hid hq
  rw [hq] at hr
  have Hr := Lib.hid hr
  have Hk0 := Lib.hid hk0
  have HI := Lib.hid hI
  have HP := Lib.hid hP
  have HX := Lib.hid hX
  clear hr hk0 hI hP hX
  clear hq
  go_enter Try.func69, Try.ntmps69
  go_wp2_with fail
  refine (Hr.out).mono ?_
  rintro e w1 ⟨rfl, h1⟩
  have hb1 := hb0.trans (h1.mono hb0.size)
  have HK := Lib.hid (Hk0.out.below h1 hlt0)
  clear Hk0 Hr
  go_wp2_with fail
  go_loopw [24] (fun i wr => ∃ k : Nat, k ≤ p.length ∧ i = .int .i64 k ∧ Blk wr w.heap.size 43 #[.int .i64 o.kind, .int .i64 o.k, .int .i64 o.width, .int .i64 o.step, .int .i64 o.side, .int .i64 o.frm, .int .i64 o.to, .slice S o.s.length c] ∧ Below w.heap.size w wr ∧ ∀ j (h : j < p.length), j < k → Sh.right p[j] = true) (fun i _ => p.length - (intOf i).toNat)
  case atStart => exact ⟨0, Nat.zero_le _, rfl, HK.out, hb1, fun j _ h => by omega⟩
  case round =>
    obtain ⟨k, hk, rfl, hblk, hbw, hall⟩ := hrel
    have Hblk := Lib.hid hblk
    have Hall := Lib.hid hall
    clear hblk hall
    clear HK hb1
    by_cases hlt : k < p.length
    · obtain ⟨b, off, S1, d1, rfl, y1, hI1, l1, l2, l3⟩ := (HP.out.below hbw (Nat.le_refl _)).at_ hlt
      have hcall := shape_right S1 d1 p[k] wr (by omega) hI1
      cases hrr : Sh.right p[k]
      · have HE := Lib.hid (Od.shape_bad_p (x := x) HQ.out fun q => all_bad hlt hrr q.1)
        rw [hrr] at hcall
        have Hcall := Lib.hid hcall
        have HI1 := Lib.hid hI1
        clear hcall hI1
        clear hrr
        go_wp2_with fail
        refine (Hcall.out).mono ?_
        rintro e w2 ⟨rfl, h2⟩
        go_wp2_with fail
        go_ret2
        exact ShPost.fail HE.out (hbw.trans (h2.mono hbw.size))
      · rw [hrr] at hcall
        have Hcall := Lib.hid hcall
        have HI1 := Lib.hid hI1
        have Hrr := Lib.hid hrr
        clear hcall hI1 hrr
        go_wp2_with fail
        refine (Hcall.out).mono ?_
        rintro e w2 ⟨rfl, h2⟩
        go_wp2_with fail
        go_roundw
        case rel => exact ⟨k + 1, by omega, by go_num, Hblk.out.below h2 Hblk.out.lt, hbw.trans (h2.mono hbw.size), fun j hj h => by
          by_cases e : j = k
          · subst e; exact Hrr.out
          · exact Hall.out j hj (by omega)⟩
        case measure => simp [intOf]; omega
    · obtain rfl : k = p.length := by omega
      have HPA := Lib.hid (show p.all Sh.right = true by
        rw [List.all_eq_true]
        intro s hs
        obtain ⟨j, hj, rfl⟩ := List.getElem_of_mem hs
        exact Hall.out j hj hj)
      clear Hall
      go_wp2_with fail
      go_loopw [34] (fun i wx => ∃ k : Nat, k ≤ x.length ∧ i = .int .i64 k ∧ Blk wx w.heap.size 43 #[.int .i64 o.kind, .int .i64 o.k, .int .i64 o.width, .int .i64 o.step, .int .i64 o.side, .int .i64 o.frm, .int .i64 o.to, .slice S o.s.length c] ∧ Below w.heap.size w wx ∧ ∀ j (h : j < x.length), j < k → Sh.right x[j] = true) (fun i _ => x.length - (intOf i).toNat)
      case atStart => exact ⟨0, Nat.zero_le _, rfl, Hblk.out, hbw, fun j _ h => by omega⟩
      case round =>
        obtain ⟨k, hk, rfl, hblx, hbx, hall⟩ := hrel
        have Hblx := Lib.hid hblx
        have Hall := Lib.hid hall
        clear hblx hall
        clear Hblk hbw
        by_cases hlt : k < x.length
        · obtain ⟨b, off, S1, d1, rfl, y1, hI1, l1, l2, l3⟩ := (HX.out.below hbx (Nat.le_refl _)).at_ hlt
          have hcall := shape_right S1 d1 x[k] wr (by omega) hI1
          cases hrr : Sh.right x[k]
          · have HE := Lib.hid (Od.shape_bad_p (p := p) HQ.out fun q => all_bad hlt hrr q.2)
            rw [hrr] at hcall
            have Hcall := Lib.hid hcall
            have HI1 := Lib.hid hI1
            clear hcall hI1
            clear hrr
            go_wp2_with fail
            refine (Hcall.out).mono ?_
            rintro e w2 ⟨rfl, h2⟩
            go_wp2_with fail
            go_ret2
            exact ShPost.fail HE.out (hbx.trans (h2.mono hbx.size))
          · rw [hrr] at hcall
            have Hcall := Lib.hid hcall
            have HI1 := Lib.hid hI1
            have Hrr := Lib.hid hrr
            clear hcall hI1 hrr
            go_wp2_with fail
            refine (Hcall.out).mono ?_
            rintro e w2 ⟨rfl, h2⟩
            go_wp2_with fail
            go_roundw
            case rel => exact ⟨k + 1, by omega, by go_num, Hblx.out.below h2 Hblx.out.lt, hbx.trans (h2.mono hbx.size), fun j hj h => by
              by_cases e : j = k
              · subst e; exact Hrr.out
              · exact Hall.out j hj (by omega)⟩
            case measure => simp [intOf]; omega
        · obtain rfl : k = x.length := by omega
          have hgo := Od.shape_go HQ.out HPA.out (show x.all Sh.right = true by
            rw [List.all_eq_true]
            intro s hs
            obtain ⟨j, hj, rfl⟩ := List.getElem_of_mem hs
            exact Hall.out j hj hj)
          clear Hall HPA
          obtain ⟨q1, q2, q3, q4⟩ := Od.counts_ok HQ.out
          have hkind := Od.right_kind q1
          have hleast := Od.least_pos q1
          have hpar : Od.params o = if o.kind = 8 then 2 else if o.kind = 9 ∨ o.kind = 10 then 1 else 0 := by unfold Od.params; rw [if_pos q1]
          have hx0 : 0 < x.length := by omega
          obtain ⟨b, off, S1, d1, rfl, y1, hI1, l1, l2, l3⟩ := (HX.out.below hbx (Nat.le_refl _)).at_ hx0
          obtain ⟨x0, x1, x2, x3, x4, x5, x6, x7⟩ := op_cells Hblx.out
          rw [Nat.add_zero] at y1
          have f0 : (0 : Int) < x.length := by omega
          by_cases k8 : o.kind = 8
          · have hidk := Lib.hid k8
            have hp2 : p.length = 2 := by simp only [hpar] at q4; split at q4 <;> omega
            have hp0 : 0 < p.length := by omega
            have g0 : (0 : Int) < p.length := by omega
            have hp1 : 1 < p.length := by omega
            have g1 : (1 : Int) < p.length := by omega
            obtain ⟨b', off', S2, d2, S3, d3, rfl, y2, y3, hI2, hI3, m3, n3⟩ := (HP.out.below hbx (Nat.le_refl _)).two hp1
            have HE := Lib.hid (show Od.shape o p x = Od.dense p[0] p[1] x[0] by rw [hgo]; unfold Od.byKind; rw [if_pos k8, gets_at hp0, gets_at hp1, gets_at hx0])
            have hself : Below wr.heap.size wr wr.drew := (Below.refl _ _).drew
            have hkeep : ∀ W, Below wr.heap.size wr W → W.cell? ⟨b', off', none⟩ = some (.slice S2 p[0].length d2) ∧ W.cell? ⟨b', off' + 1, none⟩ = some (.slice S3 p[1].length d3) ∧ W.cell? ⟨b, off, none⟩ = some (.slice S1 x[0].length d1) := fun W hW => ⟨cell_below hW y2, cell_below hW y3, cell_below hW y1⟩
            have Hkeep := Lib.hid hkeep
            clear hkeep
            have HI1 := Lib.hid hI1
            have HI2 := Lib.hid hI2
            have HI3 := Lib.hid hI3
            clear hI1 hI2 hI3
            clear hgo hkind hleast q1 q2 q3 q4 hpar hp2
            skip
            all_goals
              rw [k8] at x0
              clear k8 hidk
              go_wp2_with fail
              go_region_held3 (fun W => W.cell? ⟨b', off', none⟩ = some (.slice S2 p[0].length d2) ∧ W.cell? ⟨b', off' + 1, none⟩ = some (.slice S3 p[1].length d3) ∧ W.cell? ⟨b, off, none⟩ = some (.slice S1 x[0].length d1)) (first | exact Hkeep.out _ hb5 | exact Hkeep.out _ hself)
                ((go_at_call 83; refine (op_dense S2 S3 S1 d2 d3 d1 p[0] p[1] x[0] _ l3 (HI2.out.below hself (Nat.le_refl _)) (HI3.out.below hself (Nat.le_refl _)) (HI1.out.below hself (Nat.le_refl _))).mono ?_; rintro e w3 ⟨S5, d5, rfl, hI5, r1, r2, hf5, hb5⟩; have hb5 := hself.trans hb5; have HI5 := Lib.hid hI5; clear hI5))
              all_goals
                go_wp2_with fail
                go_ret2
                exact ShPost.pass HE.out hbx HI5.out r1 r2 hf5 hb5
          by_cases k10 : o.kind = 10
          · have hidk := Lib.hid k10
            have hpx : p.length = 1 := by simp only [hpar] at q4; split at q4 <;> omega
            have hp0 : 0 < p.length := by omega
            have g0 : (0 : Int) < p.length := by omega
            obtain ⟨b', off', S2, d2, rfl, y2, hI2, m1, m2, m3⟩ := (HP.out.below hbx (Nat.le_refl _)).at_ hp0
            rw [Nat.add_zero] at y2
            have HE := Lib.hid (show Od.shape o p x = Od.conv p[0] x[0] o.step by rw [hgo]; unfold Od.byKind; rw [if_neg (by omega), if_neg (by omega), if_pos k10, gets_at hp0, gets_at hx0])
            have hself : Below wr.heap.size wr wr.drew := (Below.refl _ _).drew
            have hkeep : ∀ W, Below wr.heap.size wr W → W.cell? ⟨b', off', none⟩ = some (.slice S2 p[0].length d2) ∧ W.cell? ⟨b, off, none⟩ = some (.slice S1 x[0].length d1) ∧ W.cell? ⟨w.heap.size, 3, none⟩ = some (.int .i64 o.step) := fun W hW => ⟨cell_below hW y2, cell_below hW y1, cell_below hW x3⟩
            have Hkeep := Lib.hid hkeep
            clear hkeep
            have HI1 := Lib.hid hI1
            have HI2 := Lib.hid hI2
            clear hI1 hI2
            clear hgo hkind hleast q1 q2 q3 q4 hpar hpx
            skip
            all_goals
              rw [k10] at x0
              clear k10 hidk
              go_wp2_with fail
              go_region_held3 (fun W => W.cell? ⟨b', off', none⟩ = some (.slice S2 p[0].length d2) ∧ W.cell? ⟨b, off, none⟩ = some (.slice S1 x[0].length d1) ∧ W.cell? ⟨w.heap.size, 3, none⟩ = some (.int .i64 o.step)) (first | exact Hkeep.out _ hb5 | exact Hkeep.out _ hself)
                ((go_at_call 85; refine (conv_shape S2 S1 d2 d1 p[0] x[0] o.step _ m3 l3 l1 l2 (HI2.out.below hself (Nat.le_refl _)) (HI1.out.below hself (Nat.le_refl _))).mono ?_; rintro e w3 ⟨S5, d5, rfl, hI5, r1, r2, hf5, hb5⟩; have hb5 := hself.trans hb5; have HI5 := Lib.hid hI5; clear hI5))
              all_goals
                go_wp2_with fail
                go_ret2
                exact ShPost.pass HE.out hbx HI5.out r1 r2 hf5 hb5
          by_cases k11 : o.kind = 11 ∨ o.kind = 12
          · have hidk := Lib.hid k11
            have HE := Lib.hid (show Od.shape o p x = Od.pool x[0] o.width o.step by rw [hgo]; unfold Od.byKind; rw [if_neg (by omega), if_neg (by omega), if_neg (by omega), if_pos (by omega), gets_at hx0])
            have hself : Below wr.heap.size wr wr.drew := (Below.refl _ _).drew
            have hkeep : ∀ W, Below wr.heap.size wr W → W.cell? ⟨b, off, none⟩ = some (.slice S1 x[0].length d1) ∧ W.cell? ⟨w.heap.size, 2, none⟩ = some (.int .i64 o.width) ∧ W.cell? ⟨w.heap.size, 3, none⟩ = some (.int .i64 o.step) := fun W hW => ⟨cell_below hW y1, cell_below hW x2, cell_below hW x3⟩
            have Hkeep := Lib.hid hkeep
            clear hkeep
            have HI1 := Lib.hid hI1
            clear hI1
            clear hgo hkind hleast q1 q2 q3 q4 hpar
            rcases k11 with k11 | k11
            all_goals
              rw [k11] at x0
              clear k11 hidk
              go_wp2_with fail
              go_region_held3 (fun W => W.cell? ⟨b, off, none⟩ = some (.slice S1 x[0].length d1) ∧ W.cell? ⟨w.heap.size, 2, none⟩ = some (.int .i64 o.width) ∧ W.cell? ⟨w.heap.size, 3, none⟩ = some (.int .i64 o.step)) (first | exact Hkeep.out _ hb5 | exact Hkeep.out _ hself)
                ((go_at_call 86; refine (pool_shape S1 d1 x[0] o.width o.step _ l3 (HI1.out.below hself (Nat.le_refl _))).mono ?_; rintro e w3 ⟨S5, d5, rfl, hI5, r1, r2, hf5, hb5⟩; have hb5 := hself.trans hb5; have HI5 := Lib.hid hI5; clear hI5))
              all_goals
                go_wp2_with fail
                go_ret2
                exact ShPost.pass HE.out hbx HI5.out r1 r2 hf5 hb5
          by_cases k13 : o.kind = 13
          · have hidk := Lib.hid k13
            have HE := Lib.hid (show Od.shape o p x = Od.joined o.side x by rw [hgo]; unfold Od.byKind; rw [if_neg (by omega), if_neg (by omega), if_neg (by omega), if_neg (by omega), if_pos (by omega)])
            have hself : Below wr.heap.size wr wr.drew := (Below.refl _ _).drew
            have HI1 := Lib.hid hI1
            clear hI1
            clear hgo hkind hleast q1 q2 q3 q4 hpar
            skip
            all_goals
              rw [k13] at x0
              clear k13 hidk
              go_wp2_with fail
              refine (op_joined _ f o.side x _ hx0 (HX.out.2.1) (HX.out.2.2.1) (HX.out.below hbx (Nat.le_refl _)).1 HX.out.2.2.2).mono ?_
              rintro e w3 ⟨S5, d5, rfl, hI5, r1, r2, hf5, hb5⟩
              have HI5 := Lib.hid hI5
              clear hI5
              go_wp2_with fail
              go_ret2
              exact ShPost.pass HE.out hbx HI5.out r1 r2 hf5 hb5
          by_cases k14 : o.kind = 14
          · have hidk := Lib.hid k14
            have HE := Lib.hid (show Od.shape o p x = Od.cut x[0] o.side o.frm o.to by rw [hgo]; unfold Od.byKind; rw [if_neg (by omega), if_neg (by omega), if_neg (by omega), if_neg (by omega), if_neg (by omega), if_pos (by omega), gets_at hx0])
            have hself : Below wr.heap.size wr wr.drew := (Below.refl _ _).drew
            have hkeep : ∀ W, Below wr.heap.size wr W → W.cell? ⟨b, off, none⟩ = some (.slice S1 x[0].length d1) ∧ W.cell? ⟨w.heap.size, 4, none⟩ = some (.int .i64 o.side) ∧ W.cell? ⟨w.heap.size, 5, none⟩ = some (.int .i64 o.frm) ∧ W.cell? ⟨w.heap.size, 6, none⟩ = some (.int .i64 o.to) := fun W hW => ⟨cell_below hW y1, cell_below hW x4, cell_below hW x5, cell_below hW x6⟩
            have Hkeep := Lib.hid hkeep
            clear hkeep
            have HI1 := Lib.hid hI1
            clear hI1
            clear hgo hkind hleast q1 q2 q3 q4 hpar
            skip
            all_goals
              rw [k14] at x0
              clear k14 hidk
              go_wp2_with fail
              go_region_held3 (fun W => W.cell? ⟨b, off, none⟩ = some (.slice S1 x[0].length d1) ∧ W.cell? ⟨w.heap.size, 4, none⟩ = some (.int .i64 o.side) ∧ W.cell? ⟨w.heap.size, 5, none⟩ = some (.int .i64 o.frm) ∧ W.cell? ⟨w.heap.size, 6, none⟩ = some (.int .i64 o.to)) (first | exact Hkeep.out _ hb5 | exact Hkeep.out _ hself)
                ((go_at_call 88; refine (shape_cut S1 d1 x[0] o.side o.frm o.to _ l3 (HI1.out.below hself (Nat.le_refl _))).mono ?_; rintro e w3 ⟨S5, d5, rfl, hI5, r1, r2, hf5, hb5⟩; have hb5 := hself.trans hb5; have HI5 := Lib.hid hI5; clear hI5))
              all_goals
                go_wp2_with fail
                go_ret2
                exact ShPost.pass HE.out hbx HI5.out r1 r2 hf5 hb5
          by_cases k15 : o.kind = 15
          · have hidk := Lib.hid k15
            have HE := Lib.hid (show Od.shape o p x = Od.turned x[0] o.s by rw [hgo]; unfold Od.byKind; rw [if_neg (by omega), if_neg (by omega), if_neg (by omega), if_neg (by omega), if_neg (by omega), if_neg (by omega), if_pos (by omega), gets_at hx0])
            have hself : Below wr.heap.size wr wr.drew := (Below.refl _ _).drew
            have hkeep : ∀ W, Below wr.heap.size wr W → W.cell? ⟨b, off, none⟩ = some (.slice S1 x[0].length d1) ∧ W.cell? ⟨w.heap.size, 7, none⟩ = some (.slice S o.s.length c) := fun W hW => ⟨cell_below hW y1, cell_below hW x7⟩
            have Hkeep := Lib.hid hkeep
            clear hkeep
            have HI1 := Lib.hid hI1
            clear hI1
            clear hgo hkind hleast q1 q2 q3 q4 hpar
            skip
            all_goals
              rw [k15] at x0
              clear k15 hidk
              go_wp2_with fail
              go_region_held3 (fun W => W.cell? ⟨b, off, none⟩ = some (.slice S1 x[0].length d1) ∧ W.cell? ⟨w.heap.size, 7, none⟩ = some (.slice S o.s.length c)) (first | exact Hkeep.out _ hb5 | exact Hkeep.out _ hself)
                ((go_at_call 89; refine (op_turned S1 S d1 c x[0] o.s _ l3 ho (HI1.out.below hself (Nat.le_refl _)) (HI.out.below (hbx.trans (hself.mono hbx.size)) (Nat.le_refl _))).mono ?_; rintro e w3 ⟨S5, d5, rfl, hI5, r1, r2, hf5, hb5⟩; have hb5 := hself.trans hb5; have HI5 := Lib.hid hI5; clear hI5))
              all_goals
                go_wp2_with fail
                go_ret2
                exact ShPost.pass HE.out hbx HI5.out r1 r2 hf5 hb5
          by_cases k9 : o.kind = 9
          · have hpx : p.length = 1 := by simp only [hpar] at q4; split at q4 <;> omega
            have hp0 : 0 < p.length := by omega
            have g0 : (0 : Int) < p.length := by omega
            obtain ⟨b', off', S2, d2, rfl, y2, hI2, m1, m2, m3⟩ := (HP.out.below hbx (Nat.le_refl _)).at_ hp0
            rw [Nat.add_zero] at y2
            have HE := Lib.hid (show Od.shape o p x = Od.same [p[0], x[0]] by rw [hgo]; unfold Od.byKind; rw [if_neg (by omega), if_pos k9, gets_at hp0, gets_at hx0])
            have hself : Below wr.heap.size wr wr.drew := (Below.refl _ _).drew
            have hkeep : ∀ W, Below wr.heap.size wr W → W.cell? ⟨b', off', none⟩ = some (.slice S2 p[0].length d2) ∧ W.cell? ⟨b, off, none⟩ = some (.slice S1 x[0].length d1) := fun W hW => ⟨cell_below hW y2, cell_below hW y1⟩
            rw [k9] at x0
            have Hkeep := Lib.hid hkeep
            have HI1 := Lib.hid hI1
            have HI2 := Lib.hid hI2
            have Hk9 := Lib.hid k9
            clear hkeep hI1 hI2 k9
            clear hgo hkind hleast q1 q2 q3 q4 hpar hpx
            have hal : Below wr.heap.size wr (wr.drew.alloc (.cells #[.slice S2 p[0].length d2, .slice S1 x[0].length d1] 23)) := hself.alloc (Nat.le_refl _) _
            have hpair := pair_shps (t := 23) (HI2.out.below hself (Nat.le_refl _)) (HI1.out.below hself (Nat.le_refl _)) m1 m2 l1 l2
            have hsame := op_same (some ⟨wr.drew.heap.size, 0, none⟩) 2 [p[0], x[0]] _ (by simp) (by simp) (by omega) hpair (by simp [m3, l3])
            have Hpair := Lib.hid hpair
            have Hsame := Lib.hid hsame
            clear hpair hsame
            go_wp2_with fail
            go_region_held3 (fun W => W.cell? ⟨b', off', none⟩ = some (.slice S2 p[0].length d2) ∧ W.cell? ⟨b, off, none⟩ = some (.slice S1 x[0].length d1)) (first | exact Hkeep.out _ hb5 | exact Hkeep.out _ hal | exact Hkeep.out _ hself)
              ((go_at_call 84; refine (Hsame.out).mono ?_; rintro e w3 ⟨S5, d5, rfl, hI5, r1, r2, hf5, hb5⟩; have hb6 := hb5; have hb5 := hal.trans (hb5.mono hal.size); have HI5 := Lib.hid hI5; clear hI5))
            all_goals
              go_wp2_with fail
              go_ret2
              exact ShPost.pass HE.out (hbx.trans (hal.mono hbx.size)) HI5.out r1 r2 hf5 hb6
          have HE := Lib.hid (show Od.shape o p x = Od.same x by rw [hgo]; unfold Od.byKind; rw [if_neg (by omega), if_neg (by omega), if_neg (by omega), if_neg (by omega), if_neg (by omega), if_neg (by omega), if_neg (by omega)])
          have n8 : (o.kind == 8) = false := by simp; omega
          have n9 : (o.kind == 9) = false := by simp; omega
          have n10 : (o.kind == 10) = false := by simp; omega
          have n11 : (o.kind == 11) = false := by simp; omega
          have n12 : (o.kind == 12) = false := by simp; omega
          have n13 : (o.kind == 13) = false := by simp; omega
          have n14 : (o.kind == 14) = false := by simp; omega
          have n15 : (o.kind == 15) = false := by simp; omega
          clear hgo hkind hleast q1 q2 q3 q4 hpar hI1 k8 k9 k10 k11 k13 k14 k15
          go_wp2_with fail
          refine (op_same _ f x _ hx0 (HX.out.2.1) (HX.out.2.2.1) (HX.out.below hbx (Nat.le_refl _)).1 HX.out.2.2.2).mono ?_
          rintro e w3 ⟨S5, d5, rfl, hI5, r1, r2, hf5, hb5⟩
          have HI5 := Lib.hid hI5
          clear hI5
          go_wp2_with fail
          go_ret2
          exact ShPost.pass HE.out hbx HI5.out r1 r2 hf5 hb5
end Go.Proofs.Ytjkhpbngpceenaa
