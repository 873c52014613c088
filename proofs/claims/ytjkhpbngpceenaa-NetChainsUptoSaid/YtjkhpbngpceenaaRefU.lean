/- The reference of layer 10: with, joined: contracts. -/
import Derived.Test.YtjkhpbngpceenaaRefT
import Derived.Test.YtjkhpbngpceenaaNetB
import Derived.Deep.RegionHeld3
import Derived.Deep.DeepCutAuto
namespace Go.Proofs.Ytjkhpbngpceenaa
open Go.RowKit
/-- A shape and an error's number are answered. -/
def RefP (r : List Int × Int) (w : World) (e : Ending) (w' : World) : Prop :=
  ∃ S c, e = .returned (.tuple #[.slice S r.1.length c, .int .i64 r.2]) ∧ Ints .i64 w' S r.1 ∧ r.1.length ≤ c ∧ c ≤ 9223372036854775807 ∧ Below w.heap.size w w'
def WithP (zs : List Int) (w : World) (e : Ending) (w' : World) : Prop :=
  ∃ g, e = .returned (.slice (some ⟨g, 0, none⟩) zs.length zs.length) ∧ Ints .i64 w' (some ⟨g, 0, none⟩) zs ∧ w.heap.size ≤ g ∧ Below w.heap.size w w'
set_option maxHeartbeats 4000000 in
theorem ref10_with (A : Option Addr) (c : Nat) (zs : List Int) (i : Nat) (v : Int) (w : World) (hl : zs.length ≤ 17592186043904) (hI : Ints .i64 w A zs) (hi' : i < zs.length) :
    Calls Try.prog 80 #[.slice A zs.length c, .int .i64 (i : Int), .int .i64 v] w (WithP (zs.set i v) w) := by
  obtain ⟨i0, hi, hz0, hz1, hz2⟩ := info_parts int_info
  have HI := Lib.hid hI
  clear hI
  go_enter Try.func80, Try.ntmps80
  go_wp2_with (at_make; refine wpList_make_full _ rfl _ _ 22 rfl w.heap.size 3 i0 (.int .i64 0) 1 Try.underlying22 hi hz0 hz1 _ _ _ _ zs.length rfl rfl (by first | rfl | simp) (by first | rfl | simp) ?b2 ?b3 (Nat.le_refl _) ?_)
  case b2 => rw [hz2]; omega
  case b3 => unfold maxLen; omega
  intro w1 hown hgrow
  have hblk := own_cur hown
  have hb1 : Below w.heap.size w w1 := (Below.refl _ w).grown hgrow (Nat.le_refl _) (by simp)
  have hlen := hown.1
  have HI1 := Lib.hid (HI.out.below hb1 (Nat.le_refl _))
  generalize (madeCells #[Value.int .i64 0] zs.length).toList = cur at *
  clear hown hgrow HI
  go_wp2_with (with_reducible refine wpList_copy_splice rfl (.tmp 11) (.tmp 12) 22 22 rfl 3 Try.underlying22 ?d1 (some ⟨w.heap.size, 0, none⟩) A zs.length zs.length zs.length c rfl rfl w.heap.size 0 cur 3 hblk (zs.map (Value.int .i64)) ?d2 ?d3 ?d4 ?d5 w.heap.size w hb1 (Nat.le_refl _) ?_)
  case d1 => kernel_rfl
  case d2 => simp
  case d3 => intro hp; exact HI1.out.src' (by simpa using hp)
  case d4 => simp at hlen ⊢; omega
  case d5 => intro v hv; obtain ⟨x, _, rfl⟩ := List.mem_map.1 hv; rfl
  intro w2 hw2 hb2
  have hs := splice_all (cur := cur) (cs := zs.map (Value.int .i64)) (by simp at hlen ⊢; omega)
  have hk : Blk w2 w.heap.size 3 (zs.map (Value.int .i64)).toArray := by unfold Blk; rw [← hs]; exact hw2.out
  have y : w2.cell? ⟨w.heap.size, i, none⟩ = some (.int .i64 zs[i]) := by rw [hk.cell]; simp [hi']
  have f := hk.frozen i
  have hk2 := hk.set_ i (.int .i64 v)
  have l0 : (0 : Int) ≤ (i : Int) := by omega
  have l1 : (i : Int) < (zs.length : Int) := by omega
  have Hk := Lib.hid hk
  have Hk2 := Lib.hid hk2
  clear hk hk2
  clear hw2 hb1 hlen hs hblk
  go_wp2_with fail
  go_ret
  refine ⟨w.heap.size, by rw [List.length_set]; rfl, Ints.of_row fun j hj => ?_, Nat.le_refl _, hb2.setCell (Nat.le_refl _) _⟩
  rw [Nat.zero_add, Hk2.out.cell j]
  rw [getD_at hj]
  simp at hj
  simp [List.getElem_set, Array.getElem?_setIfInBounds, hj]
  split <;> simp_all
theorem joinAll_append (side : Int) : ∀ (a b : List (List Int)) (s : List Int), Od.joinAll side s (a ++ b) = if (Od.joinAll side s a).2 = 0 then Od.joinAll side (Od.joinAll side s a).1 b else ([], (Od.joinAll side s a).2)
  | [], b, s => by simp [Od.joinAll]
  | t :: a, b, s => by
    rw [List.cons_append, Od.joinAll, Od.joinAll]
    split
    · exact joinAll_append side a b _
    · rename_i h; simp [h]
theorem joinAll_step {side : Int} {l : List (List Int)} {s s1 : List Int} {k : Nat} (hk : k < l.length) (h : Od.joinAll side s (l.take k) = (s1, 0)) :
    ((Od.join s1 l[k] side).2 = 0 → Od.joinAll side s (l.take (k + 1)) = ((Od.join s1 l[k] side).1, 0)) ∧ ((Od.join s1 l[k] side).2 ≠ 0 → Od.joinAll side s l = ([], (Od.join s1 l[k] side).2)) := by
  refine ⟨fun e => ?_, fun e => ?_⟩
  · rw [List.take_succ_eq_append_getElem hk, joinAll_append, h]
    simp [Od.joinAll, e]
  · have : l = l.take k ++ l[k] :: l.drop (k + 1) := by rw [← List.drop_eq_getElem_cons hk, List.take_append_drop]
    have e2 := congrArg (Od.joinAll side s) this
    rw [e2, joinAll_append, h]
    simp [Od.joinAll, e]
def joinTo (s t : List Int) (side : Int) (m : Nat) : Prop := ∀ j, j < m → (j : Int) = side ∨ s.getD j 0 = t.getD j 0
theorem joinTo_all {s t : List Int} {side : Int} (h : joinTo s t side s.length) : Od.joinOk s t side = true := by
  unfold Od.joinOk
  rw [List.all_eq_true]
  intro i hi
  have := h i (List.mem_range.1 hi)
  simpa using this
theorem joinTo_not {s t : List Int} {side : Int} {m : Nat} (hm : m < s.length) (h1 : (m : Int) ≠ side) (h2 : s.getD m 0 ≠ t.getD m 0) : Od.joinOk s t side = false := by
  unfold Od.joinOk
  rw [List.all_eq_false]
  exact ⟨m, List.mem_range.2 hm, by simp [h1] ; simpa using h2⟩
set_option maxRecDepth 20000 in
set_option maxHeartbeats 8000000 in
theorem ref10_joined (side : Int) (X : Option Addr) (c : Nat) (xs : List (List Int)) (w : World) (hX : Shps w X xs) (hl : xs.length ≤ 1048576) (h1 : 1 ≤ xs.length) (hr : ∀ s ∈ xs, Sh.right s = true) :
    Calls Try.prog 81 #[.int .i64 side, .slice X xs.length c] w (RefP (Od.joined side xs) w) := by
  obtain ⟨b0, off0, S0, c0, rfl, -, y0, hI0, hc0, hm0⟩ := hX 0 (by omega)
  have hr0 := hr xs[0] (List.getElem_mem (by omega))
  have hx0 : xs.getD 0 [] = xs[0] := gets_at (by omega)
  have hdrop : xs.drop 1 = xs.drop 1 := rfl
  have hjd : Od.joined side xs = if xs.length = 1 ∧ Od.inR side xs[0] = false then ([], 11) else Od.joinAll side xs[0] (xs.drop 1) := by unfold Od.joined; rw [hx0]
  have hsl := (right_short hr0).2
  rw [Nat.add_zero] at y0
  by_cases hone : xs.length = 1 ∧ Od.inR side xs[0] = false
  · have HQ := Lib.hid (show Od.joined side xs = ([], 11) by rw [hjd, if_pos hone])
    have hb := hone.2
    have e1 : ((xs.length : Int) == 1) = true := by simp; omega
    have e1' : (xs.length == 1) = true := by simp; omega
    simp [Od.inR] at hb
    clear hjd hdrop hx0
    generalize xs[0] = s at *
    have HX := Lib.hid hX
    have Hr := Lib.hid hr
    have HI0 := Lib.hid hI0
    have Hr0 := Lib.hid hr0
    have Hone := Lib.hid hone
    clear hX hr hI0 hr0 hone
    by_cases hneg : side < 0
    · have e2 : decide (side < 0) = true := by simpa using hneg
      clear hb
      go_enter Try.func81, Try.ntmps81
      go_wp2_with fail
      go_ret2
      exact ⟨none, 0, by rw [HQ.out]; rfl, by rw [HQ.out]; exact Ints.nil, by rw [HQ.out]; exact Nat.le_refl _, by omega, Below.refl _ _⟩
    · have e2 : decide (side < 0) = false := by simpa using hneg
      have e3 : decide ((s.length : Int) ≤ side) = true := by simpa using hb (by omega)
      clear hb
      go_enter Try.func81, Try.ntmps81
      go_wp2_with fail
      go_ret2
      exact ⟨none, 0, by rw [HQ.out]; rfl, by rw [HQ.out]; exact Ints.nil, by rw [HQ.out]; exact Nat.le_refl _, by omega, Below.refl _ _⟩
  · rw [if_neg hone] at hjd
    have hrd : ∀ t ∈ xs.drop 1, Sh.right t = true := fun t ht => hr t (List.mem_of_mem_drop ht)
    have hdl : (xs.drop 1).length = xs.length - 1 := by simp
    have hat : ∀ k (h : k < (xs.drop 1).length), ∃ S c, w.cell? ⟨b0, off0 + (k + 1), none⟩ = some (.slice S (xs.drop 1)[k].length c) ∧ Ints .i64 w S (xs.drop 1)[k] := fun k h => by
      obtain ⟨b, off, S, c, e, -, hc, hI, -⟩ := hX (k + 1) (by omega)
      injection e with e
      injection e with e1 e2
      subst e1 e2
      rw [List.getElem_drop]
      simp only [Nat.add_comm 1 k]
      exact ⟨S, c, hc, hI⟩
    have hone2 : xs.length = 1 → Od.inR side xs[0] = true := fun h => by by_cases q : Od.inR side xs[0] = true; exact q; exact absurd ⟨h, by simpa using q⟩ hone
    generalize xs[0] = s0 at *
    obtain ⟨l, hl'⟩ : ∃ l, xs.drop 1 = l := ⟨_, rfl⟩
    rw [hl'] at hrd hdl hat hjd
    clear hdrop hx0 hone hl'
    have HX := Lib.hid hX
    have Hr := Lib.hid hr
    have HI0 := Lib.hid hI0
    have Hjd := Lib.hid hjd
    have Hrd := Lib.hid hrd
    have Hat := Lib.hid hat
    clear hX hr hI0 hjd hrd hat
    go_enter Try.func81, Try.ntmps81
    go_upto_region 2 with fail
    go_cut [24] (fun v wx => v = .bool false ∧ w = wx)
    case first =>
      by_cases hx1 : xs.length = 1
      · have hin := hone2 hx1
        simp [Od.inR] at hin
        obtain ⟨p1, p2⟩ := hin
        have e1 : ((xs.length : Int) == 1) = true := by simp; omega
        have e1' : (xs.length == 1) = true := by simp; omega
        have e2 : decide (side < 0) = false := by simp; omega
        have e3 : decide ((s0.length : Int) ≤ side) = false := by simp; omega
        clear hone2 hx1
        go_wp2_with fail
        go_meet
        exact ⟨rfl, rfl⟩
      · have e1 : ((xs.length : Int) == 1) = false := by simp; omega
        have e1' : (xs.length == 1) = false := by simp; omega
        clear hone2 hx1
        go_wp2_with fail
        go_meet
        exact ⟨rfl, rfl⟩
    case rest =>
      obtain ⟨rfl, rfl⟩ := hcut
      clear hone2
      go_wp2_with fail
      go_loopw [6, 7] (fun o i wr => ∃ (k : Nat) (S : Option Addr) (d : Nat) (s : List Int), k ≤ l.length ∧ i = .int .i64 ((k : Int) + 1) ∧ o = .slice S s.length d ∧ Ints .i64 wr S s ∧ s.length ≤ d ∧ d ≤ 9223372036854775807 ∧ Sh.right s = true ∧ Od.joinAll side s0 (l.take k) = (s, 0) ∧ Below w.heap.size w wr) (fun _ i _ => l.length + 1 - (intOf i).toNat)
      case atStart => exact ⟨0, S0, c0, s0, Nat.zero_le _, rfl, rfl, HI0.out, hc0, hm0, hr0, rfl, Below.refl _ _⟩
      case round =>
        obtain ⟨k, S, d, s, hk, rfl, rfl, hI, hs1, hs2, hrs, hja, hbw⟩ := hrel
        by_cases hlt : k < l.length
        · obtain ⟨St, ct, yt, hIt⟩ := Hat.out k hlt
          have hrt := Hrd.out _ (List.getElem_mem hlt)
          obtain ⟨hst, hfl⟩ := joinAll_step hlt hja
          generalize l[k] = t at *
          have y1 := cell_below hbw yt
          have hIt1 := hIt.below hbw (Nat.le_refl _)
          obtain ⟨s3, s4⟩ := right_short hrs
          obtain ⟨t3, t4⟩ := right_short hrt
          have k1 : ((k : Int) + 1) < (xs.length : Int) := by omega
          have k2 : ((k : Int) + 1).toNat = k + 1 := by omega
          have k0 : (0 : Int) ≤ (k : Int) + 1 := by omega
          have k3 : IntKind.i64.wrap ((k : Int) + 1 + 1) = (k : Int) + 1 + 1 := IntWalk.i64_in _ (by omega)
          by_cases hle : t.length = s.length
          rotate_left
          · have e1 : ((t.length : Int) != (s.length : Int)) = true := by rw [bne_iff_ne]; omega
            have e2 : (t.length != s.length) = true := by rw [bne_iff_ne]; omega
            have hj : Od.join s t side = ([], 20) := by unfold Od.join; rw [if_neg]; simp; intro _ _ h; exact absurd h.symm hle
            have HQ := Lib.hid (Hjd.out.trans (hfl (by rw [hj]; simp)))
            have HJ := Lib.hid hj
            clear hst hfl hle hj hja
            have HI := Lib.hid hI
            have HIt := Lib.hid hIt
            have HIt1 := Lib.hid hIt1
            have Hrs := Lib.hid hrs
            have Hrt := Lib.hid hrt
            clear hI hIt hIt1 hrs hrt
            go_wp2_with fail
            go_ret2
            exact ⟨none, 0, by rw [HQ.out, HJ.out]; rfl, by rw [HQ.out]; exact Ints.nil, by rw [HQ.out]; exact Nat.le_refl _, by omega, hbw⟩
          · by_cases hin : Od.inR side s = true
            rotate_left
            · have hj : Od.join s t side = ([], 11) := by unfold Od.join; rw [if_pos (by simp [hrs, hrt, hle]), if_neg hin]
              have HQ := Lib.hid (Hjd.out.trans (hfl (by rw [hj]; simp)))
              have HJ := Lib.hid hj
              simp [Od.inR] at hin
              rw [hle] at y1
              clear hst hfl hle hj hja
              have HI := Lib.hid hI
              have HIt := Lib.hid hIt
              have HIt1 := Lib.hid hIt1
              have Hrs := Lib.hid hrs
              have Hrt := Lib.hid hrt
              clear hI hIt hIt1 hrs hrt
              by_cases hneg : side < 0
              · have e2 : decide (side < 0) = true := by simpa using hneg
                clear hin
                go_wp2_with fail
                go_ret2
                exact ⟨none, 0, by rw [HQ.out, HJ.out]; rfl, by rw [HQ.out]; exact Ints.nil, by rw [HQ.out]; exact Nat.le_refl _, by omega, hbw⟩
              · have e2 : decide (side < 0) = false := by simpa using hneg
                have e3 : decide ((s.length : Int) ≤ side) = true := by simpa using hin (by omega)
                clear hin
                go_wp2_with fail
                go_ret2
                exact ⟨none, 0, by rw [HQ.out, HJ.out]; rfl, by rw [HQ.out]; exact Ints.nil, by rw [HQ.out]; exact Nat.le_refl _, by omega, hbw⟩
            · have hjo : Od.join s t side = if Od.joinOk s t side && Sh.right (Od.joinL s t side) then (Od.joinL s t side, 0) else ([], 20) := by unfold Od.join; rw [if_pos (by simp [hrs, hrt, hle]), if_pos hin]
              simp [Od.inR] at hin
              obtain ⟨sd, rfl⟩ : ∃ sd : Nat, side = (sd : Int) := ⟨side.toNat, by omega⟩
              have hsd : sd < s.length := by omega
              have e2 : decide ((sd : Int) < 0) = false := by simp
              have e3 : decide ((s.length : Int) ≤ (sd : Int)) = false := by simp; omega
              have e3' : decide (s.length ≤ sd) = false := by simp; omega
              rw [hle] at y1
              clear hin
              obtain ⟨bS, offS, rfl, -, -⟩ := hI 0 s3
              obtain ⟨bT, offT, rfl, -, -⟩ := hIt1 0 t3
              have hbs := (Sh.right_mul hrs).2.2.2.1 s[sd] (List.getElem_mem hsd)
              have hlt2 : sd < t.length := by omega
              have hbt := (Sh.right_mul hrt).2.2.2.1 (t[sd]'hlt2) (List.getElem_mem hlt2)
              have hjl : Od.joinL s t (sd : Int) = s.set sd (s[sd] + t[sd]'hlt2) := by unfold Od.joinL Od.at_; rw [Int.toNat_natCast, getD_at hsd, getD_at hlt2]
              have hcS : ∀ m (h : m < s.length), wr.cell? ⟨bS, offS + m, none⟩ = some (.int .i64 s[m]) := fun m h => by
                obtain ⟨b, o, e, -, hc⟩ := hI m h
                injection e with e; injection e with e1 e2; subst e1 e2
                rw [hc, getD_at h]
              have hcT : ∀ m (h : m < t.length), wr.cell? ⟨bT, offT + m, none⟩ = some (.int .i64 t[m]) := fun m h => by
                obtain ⟨b, o, e, -, hc⟩ := hIt1 m h
                injection e with e; injection e with e1 e2; subst e1 e2
                rw [hc, getD_at h]
              have hnot := fun m (hm : m < s.length) => @joinTo_not s t (sd : Int) m hm
              have HI := Lib.hid hI
              have HIt := Lib.hid hIt
              have HIt1 := Lib.hid hIt1
              have Hrs := Lib.hid hrs
              have Hrt := Lib.hid hrt
              have Hst := Lib.hid hst
              have Hfl := Lib.hid hfl
              have Hjo := Lib.hid hjo
              have Hja := Lib.hid hja
              have Hle := Lib.hid hle
              have Hjl := Lib.hid hjl
              have HcS := Lib.hid hcS
              have HcT := Lib.hid hcT
              have Hnot := Lib.hid hnot
              clear hI hIt hIt1 hrs hrt hst hfl hjo hja hle hjl hcS hcT hnot
              go_wp2_with fail
              obtain ⟨wo, rfl⟩ : ∃ wo, wo = wr := ⟨wr, rfl⟩
              go_loopw [8] (fun i wx => ∃ m q : Nat, m ≤ s.length ∧ i = .int .i64 (m : Int) ∧ joinTo s t (sd : Int) m ∧ wx = wo.drewN q) (fun i _ => s.length - (intOf i).toNat)
              case atStart => exact ⟨0, 0, Nat.zero_le _, rfl, fun j hj => by omega, rfl⟩
              case round =>
                obtain ⟨m, q, hm, rfl, hto, rfl⟩ := hrel
                by_cases hlm : m < s.length
                · have hlm2 : m < t.length := by have := Hle.out; omega
                  have z1 := HcS.out m hlm
                  have z2 := HcT.out m hlm2
                  have m0 : (0 : Int) ≤ (m : Int) := by omega
                  have m1 : (m : Int) < (s.length : Int) := by omega
                  by_cases hms : m = sd
                  · have e4 : ((m : Int) != (sd : Int)) = false := by simp [hms]
                    have e4' : (m != sd) = false := by simp [hms]
                    have HT := Lib.hid (show joinTo s t (sd : Int) (m + 1) from fun j hj => by
                      by_cases e : j = m
                      · left; omega
                      · exact hto j (by omega))
                    clear hto hms
                    go_wp2_with fail
                    go_quiet (fail)
                    go_wp2_with fail
                    go_roundw
                    case rel => exact ⟨m + 1, _, by omega, by go_num, HT.out, by first | rfl | exact World.drewN_drewN _ _ _⟩
                    case measure => simp [intOf]; omega
                  · have e4 : ((m : Int) != (sd : Int)) = true := by rw [bne_iff_ne]; omega
                    have e4' : (m != sd) = true := by rw [bne_iff_ne]; exact hms
                    by_cases heq : s[m] = t[m]
                    · have e5 : (s[m] != t[m]) = false := by simp [heq]
                      have HT := Lib.hid (show joinTo s t (sd : Int) (m + 1) from fun j hj => by
                        by_cases e : j = m
                        · right; subst e; rw [getD_at hlm, getD_at hlm2, heq]
                        · exact hto j (by omega))
                      clear hto hms heq
                      generalize s[m] = x at *
                      generalize t[m] = y at *
                      go_wp2_with fail
                      go_quiet (fail)
                      go_wp2_with fail
                      go_roundw
                      case rel => exact ⟨m + 1, _, by omega, by go_num, HT.out, by first | rfl | exact World.drewN_drewN _ _ _⟩
                      case measure => simp [intOf]; omega
                    · have e5 : (s[m] != t[m]) = true := by simp [heq]
                      have hno := Hnot.out m hlm (by omega) (by rw [getD_at hlm, getD_at hlm2]; exact heq)
                      have hj : Od.join s t (sd : Int) = ([], 20) := by rw [Hjo.out, hno]; simp
                      have HQ := Lib.hid (Hjd.out.trans (Hfl.out (by rw [hj]; simp)))
                      have HJ := Lib.hid hj
                      clear hto hms heq hno hj
                      generalize s[m] = x at *
                      generalize t[m] = y at *
                      go_wp2_with fail
                      go_quiet (fail)
                      go_wp2_with fail
                      go_ret2
                      exact ⟨none, 0, by rw [HQ.out, HJ.out]; rfl, by rw [HQ.out]; exact Ints.nil, by rw [HQ.out]; exact Nat.le_refl _, by omega, by first | exact Bdrawn hbw _ | (rw [World.drewN_drewN]; exact Bdrawn hbw _)⟩
                · obtain rfl : m = s.length := by omega
                  have hall := joinTo_all hto
                  have z1 := HcS.out sd hsd
                  have z2 := HcT.out sd hlt2
                  have hIo := HI.out.drewN q
                  have m0 : (0 : Int) ≤ (sd : Int) := by omega
                  have m1 : (sd : Int) < (s.length : Int) := by omega
                  have hjl := Hjl.out
                  have hjo := Hjo.out
                  rw [hall, Bool.true_and, hjl] at hjo
                  have hst := Hst.out
                  have hfl := Hfl.out
                  generalize s[sd] = x at *
                  generalize t[sd] = y at *
                  have ww : IntKind.i64.wrap (x + y) = x + y := IntWalk.i64_in _ (by omega)
                  clear hto hall
                  have HIo := Lib.hid hIo
                  have Hjl := Lib.hid hjl
                  have Hjo := Lib.hid hjo
                  have Hst := Lib.hid hst
                  have Hfl := Lib.hid hfl
                  clear hIo hjl hjo hst hfl
                  go_upto_region 16 with fail
                  go_region_held3 (fun w' => w'.cell? ⟨bS, offS + sd, none⟩ = some (.int .i64 x) ∧ w'.cell? ⟨b0, off0 + (k + 1), none⟩ = some (.slice (some ⟨bT, offT, none⟩) s.length ct) ∧ w'.cell? ⟨bT, offT + sd, none⟩ = some (.int .i64 y)) (first | go_keep | (exact ⟨cell_below hb9 z1, cell_below hb9 y1, cell_below hb9 z2⟩))
                    ((go_at_call 80; refine (ref10_with _ _ s sd (x + y) _ (by omega) (by exact HIo.out) hsd).mono ?_; rintro e w9 ⟨g, rfl, hI9, hg9, hb9⟩))
                  have hb10 := hbw.trans ((show Below wo.heap.size wo w9 from ⟨hb9.os, hb9.tape, hb9.output, hb9.size, hb9.block⟩).mono hbw.size)
                  have hls : (s.set sd (x + y)).length = s.length := List.length_set
                  obtain ⟨s', hs'⟩ : ∃ s', s.set sd (x + y) = s' := ⟨_, rfl⟩
                  have hjo := Hjo.out
                  rw [hs'] at hI9 hls hjo
                  have hcall := ref03_right (some ⟨g, 0, none⟩) s.length s' w9 (by omega) hI9
                  rw [hls] at hcall
                  have Hcall := Lib.hid hcall
                  have HI9 := Lib.hid hI9
                  have Hls := Lib.hid hls
                  have Hjo := Lib.hid hjo
                  have Hs' := Lib.hid hs'
                  clear hcall hI9 hls hjo hs'
                  go_wp2_with fail
                  refine (Hcall.out).mono ?_
                  rintro e w10 ⟨rfl, rfl⟩
                  by_cases hr' : Sh.right s' = true
                  · have hj := Hjo.out
                    rw [if_pos hr'] at hj
                    have HS := Lib.hid (Hst.out (by rw [hj]))
                    have HJ := Lib.hid hj
                    have HR := Lib.hid hr'
                    rw [hr']
                    clear hj hr' z1 z2 y1
                    go_wp2_with fail
                    go_roundw
                    case rel => exact ⟨k + 1, some ⟨g, 0, none⟩, s.length, s', by omega, by go_num, by rw [Hls.out], HI9.out, by have := Hls.out; omega, by omega, HR.out, by rw [HS.out, HJ.out], hb10⟩
                    case measure => simp [intOf]; omega
                  · have hj := Hjo.out
                    rw [if_neg hr'] at hj
                    have HQ := Lib.hid (Hjd.out.trans (Hfl.out (by rw [hj]; simp)))
                    have HJ := Lib.hid hj
                    have hr2 : Sh.right s' = false := by simpa using hr'
                    rw [hr2]
                    clear hj hr' hr2 z1 z2 y1
                    go_wp2_with fail
                    go_ret2
                    exact ⟨none, 0, by rw [HQ.out, HJ.out]; rfl, by rw [HQ.out]; exact Ints.nil, by rw [HQ.out]; exact Nat.le_refl _, by omega, hb10⟩
        · obtain rfl : k = l.length := by omega
          rw [List.take_length] at hja
          have HQ := Lib.hid (Hjd.out.trans hja)
          have k1 : ¬ ((l.length : Int) + 1) < (xs.length : Int) := by omega
          have HI := Lib.hid hI
          have Hja := Lib.hid hja
          have Hrs := Lib.hid hrs
          clear hI hja hrs
          go_wp2_with fail
          go_ret2
          exact ⟨S, d, by rw [HQ.out]; rfl, by rw [HQ.out]; exact HI.out, by rw [HQ.out]; exact hs1, hs2, hbw⟩
end Go.Proofs.Ytjkhpbngpceenaa
