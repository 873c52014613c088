/- The walk of the law CodeBytes. -/
import Derived.Test.YtklngiikgnmdeaaDoorAwakeQ
namespace Go.Proofs.YtklngiikgnmdeaaDoor
open Go.RowKit

def WantOk (ps : List (Int × Int)) (k : Nat) (s : ByteArray) : Prop := s.size = 3 * k ∧ ((∀ j (hj : j < ps.length), j < k → Cd.right ps[j] = true) → s = strOfNums (Cd.flat (ps.take k)))

theorem wantOk_bad {ps : List (Int × Int)} {k : Nat} {s t : ByteArray} (h : WantOk ps k s) (hk : k < ps.length) (hr : Cd.right ps[k] = false) (ht : t.size = 3) : WantOk ps (k + 1) (s ++ t) := by
  refine ⟨by rw [ByteArray.size_append, h.1, ht]; omega, fun ha => ?_⟩
  have := ha k hk (by omega)
  rw [hr] at this
  cases this
theorem wantOk_good {ps : List (Int × Int)} {k : Nat} {s : ByteArray} {kd id : Int} (h : WantOk ps k s) (hk : k < ps.length) (hp : ps[k] = (kd, id)) : WantOk ps (k + 1) (s ++ strOfNums [kd, id / 256, id % 256]) := by
  refine ⟨by rw [ByteArray.size_append, h.1]; show 3 * k + 3 = _; omega, fun ha => ?_⟩
  rw [h.2 (fun j hj hjk => ha j hj (by omega)), Cd.flat_take_succ ps k hk, strOfNums_append, hp]

set_option maxHeartbeats 1600000 in
theorem codeBytes_small (w : World) (A : Option Addr) (c : Nat) (ps : List (Int × Int)) (hl : ¬ 500 < ps.length) (hI : Pairs w A ps) :
    Calls Tryd.prog 3 #[.slice A ps.length c] w fun e w' => e = .returned (.bool true) ∧ Below w.heap.size w w' := by
  have HI := Lib.hid hI
  clear hI
  go_enter Tryd.func3, Tryd.ntmps3
  go_wp2_with fail
  refine (code_bytes A c ps _ (by omega) HI.out).mono ?_
  rintro e w1 ⟨A1, c1, rfl, hI1, h1⟩
  have HI1 := Lib.hid hI1
  have HZ := h1.size
  clear hI1
  go_wp2_with fail
  go_loopw [5, 7, 21] (fun s _ i wr => ∃ (k : Nat) (t : ByteArray), k ≤ ps.length ∧ i = .int .i64 k ∧ s = .string t ∧ WantOk ps k t ∧ Below w1.heap.size w1 wr) (fun _ _ i _ => ps.length - (intOf i).toNat)
  case atStart => exact ⟨0, _, Nat.zero_le _, rfl, rfl, ⟨rfl, fun _ => rfl⟩, Below.refl _ _⟩
  case round =>
    obtain ⟨k, t, hk, rfl, rfl, hwant, hbel⟩ := hrel
    have HW := Lib.hid hwant
    clear hwant
    by_cases hlt : k < ps.length
    · obtain ⟨b, off, rfl, hb, hc, hd⟩ := (HI.out.below h1 (Nat.le_refl _)).below hbel (Nat.le_refl _) k hlt
      have hts := HW.out.1
      generalize hp : ps[k] = p at hc hd
      obtain ⟨kd, id⟩ := p
      dsimp only at hc hd
      have HP := Lib.hid hp
      have hts2 : t.size ≤ 1500 := by omega
      clear hp hts
      go_wp2_with fail
      go_region_held3 (fun w' => w'.cell? ⟨wr.heap.size, 0, none⟩ = some (.int .i64 kd) ∧ w'.cell? ⟨wr.heap.size, 1, none⟩ = some (.int .i64 id)) (first | go_keep | (go_split_ands; refine ⟨?_, ?_⟩ <;> (rw [hbr.cell (by simp)]; assumption)))
        (first | (go_at_call 10; refine (code_right kd id _).mono ?_; rintro e wx ⟨rfl, hbr⟩) | (go_at_call 11; refine (ref17_right kd id _).mono ?_; rintro e wy ⟨rfl, rfl⟩))
      have hcv := run_string3
      have hs3 := size_string3
      have hb1 : Below w1.heap.size w1 wx := ((hbel.alloc hbel.size _).drew).trans (hbr.mono (by have := hbel.size; simp; omega))
      have hbz := hb1.size
      clear hbel hbr
      cases hr : Cd.right (kd, id)
      · have HR := Lib.hid (show Cd.right ps[k] = false by rw [HP.out]; exact hr)
        go_wp2_with fail
        go_roundw
        case rel => exact ⟨k + 1, _, by omega, by go_num, rfl, wantOk_bad HW.out hlt HR.out rfl, hb1.alloc hbz _⟩
        case measure => simp [intOf]; omega
      · have ⟨hr1, hr2, hr3, hr4⟩ := Cd.right_bd hr
        dsimp only at hr1 hr2 hr3 hr4
        go_wp2_with fail
        go_roundw
        case rel => exact ⟨k + 1, _, by omega, by go_num, rfl, wantOk_good HW.out hlt HP.out, hb1.alloc hbz _⟩
        case measure => simp [intOf]; omega
    · obtain rfl : k = ps.length := by omega
      have hb1 := h1.trans (hbel.mono HZ)
      go_wp2_with fail
      refine (law17_right A c ps _ (by omega) (HI.out.below hb1 (Nat.le_refl _))).mono ?_
      rintro e w2 ⟨rfl, h2⟩
      have hb2 := hb1.trans (h2.mono hb1.size)
      cases hall : ps.all Cd.right
      · have hck := Lib.hid (Cd.check_form (ps := ps) (by omega) hall)
        have hby := Lib.hid (Cd.bytes_bad (ps := ps) (by rw [hck.out]; decide))
        clear hall
        rw [hby.out, hck.out]
        go_wp2_with fail
        refine (code_check A c ps _ (by omega) (HI.out.below hb2 (Nat.le_refl _))).mono ?_
        rintro e w3 ⟨rfl, h3⟩
        rw [hck.out]
        have hb3 := hb2.trans (h3.mono hb2.size)
        go_wp2_with fail
        refine (awake17 _).mono ?_
        rintro e w4 ⟨rfl, h4⟩
        go_wp2_with fail
        go_ret
        exact ⟨rfl, hb3.trans (h4.mono hb3.size)⟩
      · have hck := Lib.hid (Cd.check_ok (ps := ps) (by omega) hall)
        have hby := Lib.hid (Cd.bytes_ok hck.out)
        have hpf := Lib.hid (Cd.parse_flat hck.out)
        have hfb := Lib.hid (Cd.flat_byte hall)
        have hfl := Cd.flat_length ps
        have hfl2 : (Cd.flat ps).length ≤ 1500 := by omega
        have HT := Lib.hid (HW.out.2 (fun j hj _ => Cd.all_of hall j hj))
        rw [List.take_length] at HT
        clear hall hfl
        rw [hby.out, hck.out]
        replace HI1 := Lib.hid (HI1.out.below (hbel.trans (h2.mono hbel.size)) (Nat.le_refl _))
        rw [hby.out] at HI1
        generalize hfe : Cd.flat ps = fs at HI1 hpf hfb hfl2 HT
        clear hfe hby
        go_wp2_with fail
        refine (code_parse A1 c1 fs _ (by omega) HI1.out (fun n hn => wf_u8 (hfb.out n hn))).mono ?_
        rintro e w3 ⟨A3, c3, rfl, hI3, h3⟩
        rw [hpf.out] at hI3 ⊢
        have hb3 := hb2.trans (h3.mono hb2.size)
        have HP3 := Lib.hid hI3
        replace HI1 := Lib.hid (HI1.out.below h3 (Nat.le_refl _))
        clear hI3
        go_wp2_with fail
        refine (code_check A c ps _ (by omega) (HI.out.below hb3 (Nat.le_refl _))).mono ?_
        rintro e w4 ⟨rfl, h4⟩
        rw [hck.out]
        have hb4 := hb3.trans (h4.mono hb3.size)
        have hcv := run_string_of c1 25 5 9 Tryd.underlying25 Tryd.underlying5 Tryd.underlying9 (HI1.out.below h4 (Nat.le_refl _))
        rw [HT.out]
        go_wp2_with fail
        clear hcv
        refine (code_equal A3 c3 ps A c ps _ (by omega) (HP3.out.below h4 (Nat.le_refl _)) (HI.out.below hb4 (Nat.le_refl _))).mono ?_
        rintro e w5 ⟨rfl, h5⟩
        rw [show decide (ps = ps) = true by simp]
        have hb5 := hb4.trans (h5.mono hb4.size)
        go_wp2_with fail
        refine (awake17 _).mono ?_
        rintro e w6 ⟨rfl, h6⟩
        go_wp2_with fail
        go_ret
        exact ⟨rfl, hb5.trans (h6.mono hb5.size)⟩

set_option maxHeartbeats 400000 in
theorem walkCodeBytes (w : World) (A : Option Addr) (c : Nat) (ps : List (Int × Int)) (hl : ps.length ≤ 9223372036854775807) (hI : Pairs w A ps) (_hw : ∀ p ∈ ps, (Lit.int .i64 p.1).wf = true ∧ (Lit.int .i64 p.2).wf = true) :
    Calls Tryd.prog 3 #[.slice A ps.length c] w fun e w' => e = .returned (.bool true) ∧ Below w.heap.size w w' := by
  by_cases h500 : 500 < ps.length
  · clear hI _hw
    go_enter Tryd.func3, Tryd.ntmps3
    go_wp2_with fail
    refine (awake17 _).mono ?_
    rintro e w1 ⟨rfl, h1⟩
    go_wp2_with fail
    go_ret
    exact ⟨rfl, h1⟩
  · exact codeBytes_small w A c ps h500 hI
end Go.Proofs.YtklngiikgnmdeaaDoor
