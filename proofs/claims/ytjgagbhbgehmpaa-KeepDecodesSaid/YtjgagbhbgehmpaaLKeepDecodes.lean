/- The walk of the law KeepDecodes. -/
import Derived.Test.YtjgagbhbgehmpaaLKeepC
namespace Go.Proofs.Ytjgagbhbgehmpaa
open Go.RowKit

theorem byte_of {bs : List Int} (h : ∀ n ∈ bs, (Lit.int .u8 n).wf = true) : ∀ x ∈ bs, 0 ≤ x ∧ x ≤ 255 := fun x hx => wf_bd8 (h x hx)

set_option maxHeartbeats 4000000 in
set_option maxRecDepth 100000 in
theorem keepDecodes_big (w : World) (b off c n : Nat) (bs : List Int) (hn : bs.length = n + 4) (h4 : 4 ≤ n) (h2 : n ≤ 1996) (hcap : n + 4 ≤ c) (hI : Ints .u8 w (some ⟨b, off, none⟩) bs) (hb : ∀ x ∈ bs, 0 ≤ x ∧ x ≤ 255) :
    Calls Try.prog 4 #[.slice (some ⟨b, off, none⟩) (n + 4) c] w fun e w' => e = .returned (.bool true) ∧ Below w.heap.size w w' := by
  have hdec := keep_decode (some ⟨b, off, none⟩) c bs w hI (by omega) (by omega) hb
  have hom := Kq.open_mark hb (by omega)
  have hbody : Fp.body bs = bs.take n := by simp [Fp.body, hn]
  have hmark : Fp.mark bs = bs.drop n := by simp [Fp.mark, hn]
  have hln : (bs.take n).length = n := by rw [List.length_take]; omega
  have hl4 : (bs.drop n).length = 4 := by rw [List.length_drop]; omega
  have hbt : ∀ x ∈ bs.take n, 0 ≤ x ∧ x ≤ 255 := fun x hx => hb x (List.mem_of_mem_take hx)
  have hbd : ∀ x ∈ bs.drop n, 0 ≤ x ∧ x ≤ 255 := fun x hx => hb x (List.mem_of_mem_drop hx)
  rw [hn] at hdec
  rw [hbody, hmark] at hom
  have hbk : b < w.heap.size := by obtain ⟨b', off', e, hb', _⟩ := hI 0 (by omega); injection e with e; injection e with e1 e2; subst e1; exact hb'
  have Hdec := Lib.hid hdec
  have Hom := Lib.hid hom
  have HI := Lib.hid hI
  have Hb := Lib.hid hb
  have Hbt := Lib.hid hbt
  have Hbd := Lib.hid hbd
  have Hn := Lib.hid hn
  have Hln := Lib.hid hln
  have Hl4 := Lib.hid hl4
  clear hdec hom hI hb hbt hbd hn hln hl4
  clear hbody hmark
  have hck : c ≠ n := by omega
  have v1 : (n + 4 : Int) - 4 = n := by omega
  have v2 : IntKind.i64.wrap ((n : Int) + 4 - 4) = n := by rw [v1]; exact IntWalk.i64_in _ (by omega)
  have v3 : IntKind.i64.wrap (n : Int) = n := IntWalk.i64_in _ (by omega)
  have v4 : ((n : Int)).toNat = n := by omega
  have hnc2 : n ≤ c := by omega
  have hnc : (n : Int) ≤ c := by omega
  have hn0 : (0 : Int) ≤ n := by omega
  have hn4 : (n : Int) ≤ n + 4 := by omega
  go_enter Try.func4, Try.ntmps4
  go_wp2_with fail
  refine Hdec.out.mono ?_
  rintro e w1 ⟨hcase, h1⟩
  have hsum : ∀ W, Calls Try.prog 16 #[.string (strOfNums (bs.take n))] W fun e w' => e = .returned (.int .u64 (Fp.sum (bs.take n))) ∧ W = w' := fun W => by
    have := ref_sum (strOfNums (bs.take n)) W (by rw [strOfNums_size, Hln.out]; omega)
    rwa [numsOf_str Hbt.out] at this
  have hbig : ∀ W, Calls Try.prog 15 #[.int .u64 (Fp.sum (bs.take n)), .int .i64 4] W fun e w' => e = .returned (.string (strOfNums (Fp.big (Fp.sum (bs.take n)) 4))) ∧ Below W.heap.size W w' := fun W => ref_big _ 4 W (by have := Fp.sum_range (bs.take n); omega) (by have := Fp.sum_range (bs.take n); omega) (by omega)
  have hcv : ∀ W, Below w.heap.size w W → (convert 30 9 (.slice (some ⟨b, off, none⟩) n c)).run Try.prog W = .ok (.string (strOfNums (bs.take n))) W ∧ (convert 30 9 (.slice (some ⟨b, off + n, none⟩) 4 (c - n))).run Try.prog W = .ok (.string (strOfNums (bs.drop n))) W := fun W hW => by
    have a := run_string_of c 30 5 9 Try.underlying30 Try.underlying5 Try.underlying9 ((HI.out.below hW (Nat.le_refl _)).taken n)
    have d := run_string_of (c - n) 30 5 9 Try.underlying30 Try.underlying5 Try.underlying9 ((HI.out.below hW (Nat.le_refl _)).dropped n)
    rw [Hln.out] at a
    rw [Hl4.out] at d
    exact ⟨a, d⟩
  have hall : ∀ W, Below w.heap.size w W → (convert 30 9 (.slice (some ⟨b, off, none⟩) (n + 4) c)).run Try.prog W = .ok (.string (strOfNums bs)) W := fun W hW => by
    have a := run_string_of c 30 5 9 Try.underlying30 Try.underlying5 Try.underlying9 (HI.out.below hW (Nat.le_refl _))
    rwa [Hn.out] at a
  have hinj := fun h => str_inj (Fp.big_byte (Fp.sum (bs.take n)) 4) Hbd.out h
  have hz := Hl4.out
  have hne : Fp.big (Fp.sum (bs.take n)) 4 ≠ bs.drop n → ((strOfNums (Fp.big (Fp.sum (bs.take n)) 4)).toList != (strOfNums (bs.drop n)).toList) = true := fun h => by
    rw [bne_iff_ne]
    intro e
    apply h
    apply hinj
    rw [ByteArray.toList_eq, ByteArray.toList_eq] at e
    exact ByteArray.ext (Array.toList_inj.1 e)
  have hde := fun h => Kq.decode_errs (bs := bs) h
  have hdi := fun h => Kq.decode_inv Hb.out h
  have HOE := Lib.hid (show Fp.openE bs ≠ 0 → (Kr.decode bs).1 = Fp.openE bs by intro h; simp [Kr.decode, h])
  clear Hdec hz
  have hn0' : Fp.openE bs = 0 → ((strOfNums (Fp.big (Fp.sum (bs.take n)) 4)).toList == (strOfNums (bs.drop n)).toList) = true := fun h => by rw [Hom.out.1.1 h]; simp
  have hn1' : Fp.openE bs ≠ 0 → ((strOfNums (Fp.big (Fp.sum (bs.take n)) 4)).toList == (strOfNums (bs.drop n)).toList) = false := fun h => by have := hne (fun e => h (Hom.out.1.2 e)); simpa using this
  have hz3 : Fp.openE bs ≠ 0 → Fp.openE bs = 30 := fun h => Hom.out.2.resolve_left h
  have q2 : decide (2000 < (n : Int) + 4) = false := by simp; omega
  have q8 : decide ((n : Int) + 4 < 8) = false := by simp; omega
  have Hsum := Lib.hid hsum
  have Hbig := Lib.hid hbig
  have Hcv := Lib.hid hcv
  have Hall := Lib.hid hall
  have Hde := Lib.hid hde
  have Hdi := Lib.hid hdi
  have Hn0' := Lib.hid hn0'
  have Hn1' := Lib.hid hn1'
  have Hz3 := Lib.hid hz3
  clear hsum hbig hcv hall hde hdi hn0' hn1' hz3
  clear hinj hne Hom
  generalize strOfNums (bs.take n) = T1 at *
  generalize strOfNums (bs.drop n) = T2 at *
  generalize Fp.sum (bs.take n) = sm at *
  generalize strOfNums (Fp.big sm 4) = BG at *
  by_cases hok : Fp.openE bs = 0
  · have hcmp := Hn0'.out hok
    rcases hcase with ⟨he, rfl⟩ | ⟨he, P, V, M, k1, k2, k3, rfl, hS⟩
    · have herr := (Hde.out hok).resolve_left he
      have hb2 := h1.alloc h1.size (.cells #[.slice none 0 0, .slice none 0 0, .slice none 0 0] 27)
      have hbd := hb2.drew
      have hk2 := Blk.new w1 27 #[.slice none 0 0, .slice none 0 0, .slice none 0 0]
      obtain ⟨a0, a1⟩ := Hcv.out _ hbd
      clear h1
      generalize (Kr.decode bs).1 = er at *
      clear Hde Hdi HOE
      have hene : (er != 0) = true := by simp [he]
      have He := Lib.hid he
      have Hk2 := Lib.hid hk2
      have Herr := Lib.hid herr
      clear he hk2 herr
      go_wp2_with fail
      generalize w1.alloc (.cells #[.slice none 0 0, .slice none 0 0, .slice none 0 0] 27) = w2 at *
      have hbd2 : Below w2.heap.size w2 w2.drew := (Below.refl _ _).drew
      go_region_held3 (fun W => (convert 30 9 (.slice (some ⟨b, off, none⟩) n c)).run Try.prog W = .ok (.string T1) W ∧ (convert 30 9 (.slice (some ⟨b, off + n, none⟩) 4 (c - n))).run Try.prog W = .ok (.string T2) W) (first | exact Hcv.out _ hbb | exact Hcv.out _ hbd)
        (first
          | (go_at_call 16; refine (Hsum.out _).mono ?_; rintro e wz ⟨rfl, rfl⟩)
          | (go_at_call 15; refine (Hbig.out _).mono ?_; rintro e wb ⟨rfl, hb⟩; have hbb2 := hbd2.trans (hb.mono hbd2.size); have hbb := hbd.trans (hb.mono hbd.size)))
      have hk3 := Hk2.out.below hbb2 Hk2.out.lt
      have f0 := hk3.cell 0
      have f2 := hk3.cell 2
      simp at f0 f2
      have herr := Herr.out
      clear hk3 hene He Herr
      clear a0 a1
      rcases herr with rfl | rfl | rfl | rfl
      all_goals
        go_wp2_with fail
        refine (awake27 _).mono ?_
        rintro e w5 ⟨rfl, h5⟩
        have hb5 := hbb.trans (h5.mono hbb.size)
        go_wp2_with fail
        go_ret
        exact ⟨rfl, hb5⟩
    · obtain ⟨hoS, henc⟩ := Hdi.out he
      generalize (Kr.decode bs).2 = sv at *
      have hS2 := hS.below ((Below.refl _ w1).alloc (Nat.le_refl _) (.cells #[.slice P sv.p.length k1, .slice V sv.v.length k2, .slice M sv.m.length k3] 27)) (Nat.le_refl _)
      have hk2 := Blk.new w1 27 #[.slice P sv.p.length k1, .slice V sv.v.length k2, .slice M sv.m.length k3]
      have hb2 := h1.alloc h1.size (.cells #[.slice P sv.p.length k1, .slice V sv.v.length k2, .slice M sv.m.length k3] 27)
      have hbd := hb2.drew
      obtain ⟨a0, a1⟩ := Hcv.out _ hbd
      have HER := Lib.hid (Kq.okS_err hoS)
      have hal : Tn.alike sv.p sv.v = true := by
        have := HER.out
        unfold Kp.err at this
        cases h : Tn.alike sv.p sv.v
        · simp [h] at this
        · rfl
      obtain ⟨l1, l2, _, _, l5, _⟩ := hoS
      have l3 : sv.v.length ≤ 512 := by have := congrArg List.length l5; simp at this; omega
      have hw1 : w1.heap.size < (w1.alloc (.cells #[.slice P sv.p.length k1, .slice V sv.v.length k2, .slice M sv.m.length k3] 27)).heap.size := by simp
      clear Hde Hdi HOE h1 hS he l5
      have HS2 := Lib.hid hS2
      have Hk2 := Lib.hid hk2
      have Henc := Lib.hid henc
      have Hal := Lib.hid hal
      clear hS2 hk2 henc hal
      go_wp2_with fail
      generalize w1.alloc (.cells #[.slice P sv.p.length k1, .slice V sv.v.length k2, .slice M sv.m.length k3] 27) = w2 at *
      have hbd2 : Below w2.heap.size w2 w2.drew := (Below.refl _ _).drew
      go_region_held3 (fun W => (convert 30 9 (.slice (some ⟨b, off, none⟩) n c)).run Try.prog W = .ok (.string T1) W ∧ (convert 30 9 (.slice (some ⟨b, off + n, none⟩) 4 (c - n))).run Try.prog W = .ok (.string T2) W) (first | exact Hcv.out _ hbb | exact Hcv.out _ hbd)
        (first
          | (go_at_call 16; refine (Hsum.out _).mono ?_; rintro e wz ⟨rfl, rfl⟩)
          | (go_at_call 15; refine (Hbig.out _).mono ?_; rintro e wb ⟨rfl, hb⟩; have hbb2 := hbd2.trans (hb.mono hbd2.size); have hbb := hbd.trans (hb.mono hbd.size)))
      have hS3 := HS2.out.below hbb2 (Nat.le_refl _)
      have hk3 := Hk2.out.below hbb2 Hk2.out.lt
      have f0 := hk3.cell 0
      have f1 := hk3.cell 1
      have f2 := hk3.cell 2
      simp at f0 f1 f2
      have HS3 := Lib.hid hS3
      have Hk3 := Lib.hid hk3
      clear hS3 hk3
      clear a0 a1 hbd2 hbd hb HS2 Hk2
      go_wp2_with fail
      refine (keep_encode P V M k1 k2 k3 sv _ (by omega) (by omega) (by omega) HS3.out).mono ?_
      rintro e w4 ⟨hcase, h4⟩
      rcases hcase with ⟨he, _⟩ | ⟨_, A4, c4, rfl, hI4, _⟩
      case inl => exact absurd HER.out he
      rw [Henc.out] at hI4 ⊢
      rw [Hn.out]
      have hb4 := hbb.trans (h4.mono hbb.size)
      have hS4 := HS3.out.below h4 (Nat.le_refl _)
      have hk4 := Hk3.out.below h4 Hk3.out.lt
      have hx1 := Hall.out w4 hb4
      have hx2 := run_string_of c4 30 5 9 Try.underlying30 Try.underlying5 Try.underlying9 hI4
      rw [Hn.out] at hx2
      clear f0 f1 f2
      have f0 := hk4.cell 0
      have f1 := hk4.cell 1
      simp at f0 f1
      have HS4 := Lib.hid hS4
      clear hS4
      clear hk4 hI4 h4 hbb hbb2 Hk3 HS3
      go_wp2_with fail
      refine (state_right P V k1 k2 sv.p sv.v _ (by omega) (by omega) HS4.out.1 HS4.out.2.1).mono ?_
      rintro e w5 ⟨rfl, h5⟩
      rw [Hal.out]
      have hb5 := hb4.trans (h5.mono hb4.size)
      clear hx1 hx2 f0 f1
      go_wp2_with fail
      refine (awake27 _).mono ?_
      rintro e w6 ⟨rfl, h6⟩
      have hb6 := hb5.trans (h6.mono hb5.size)
      go_wp2_with fail
      go_ret
      exact ⟨rfl, hb6⟩
  · have hcmp := Hn1'.out hok
    have he30 := (HOE.out hok).trans (Hz3.out hok)
    rcases hcase with ⟨he, rfl⟩ | ⟨he, _⟩
    case inr => rw [he30] at he; exact absurd he (by decide)
    rw [he30]
    have hb2 := h1.alloc h1.size (.cells #[.slice none 0 0, .slice none 0 0, .slice none 0 0] 27)
    have hbd := hb2.drew
    obtain ⟨a0, a1⟩ := Hcv.out _ hbd
    have hk2 := Blk.new w1 27 #[.slice none 0 0, .slice none 0 0, .slice none 0 0]
    clear h1 he he30
    have Hk2 := Lib.hid hk2
    clear hk2
    go_wp2_with fail
    generalize w1.alloc (.cells #[.slice none 0 0, .slice none 0 0, .slice none 0 0] 27) = w2 at *
    have hbd2 : Below w2.heap.size w2 w2.drew := (Below.refl _ _).drew
    go_region_held3 (fun W => (convert 30 9 (.slice (some ⟨b, off, none⟩) n c)).run Try.prog W = .ok (.string T1) W ∧ (convert 30 9 (.slice (some ⟨b, off + n, none⟩) 4 (c - n))).run Try.prog W = .ok (.string T2) W) (first | exact Hcv.out _ hbb | exact Hcv.out _ hbd)
      (first
        | (go_at_call 16; refine (Hsum.out _).mono ?_; rintro e wz ⟨rfl, rfl⟩)
        | (go_at_call 15; refine (Hbig.out _).mono ?_; rintro e wb ⟨rfl, hb⟩; have hbb2 := hbd2.trans (hb.mono hbd2.size); have hbb := hbd.trans (hb.mono hbd.size)))
    have hk3 := Hk2.out.below hbb2 Hk2.out.lt
    have f0 := hk3.cell 0
    simp at f0
    clear a0 a1 hk3
    go_wp2_with fail
    refine (awake27 _).mono ?_
    rintro e w5 ⟨rfl, h5⟩
    have hb5 := hbb.trans (h5.mono hbb.size)
    go_wp2_with fail
    go_ret
    exact ⟨rfl, hb5⟩

set_option maxHeartbeats 4000000 in
set_option maxRecDepth 100000 in
theorem keepDecodes_short (w : World) (A : Option Addr) (c : Nat) (bs : List Int) (h8 : bs.length < 8) (hcap : bs.length ≤ c) (hI : Ints .u8 w A bs) (hb : ∀ x ∈ bs, 0 ≤ x ∧ x ≤ 255) :
    Calls Try.prog 4 #[.slice A bs.length c] w fun e w' => e = .returned (.bool true) ∧ Below w.heap.size w w' := by
  have HI := Lib.hid hI
  have Hb := Lib.hid hb
  clear hI hb
  go_enter Try.func4, Try.ntmps4
  go_wp2_with fail
  refine (keep_decode A c bs _ HI.out hcap (by omega) Hb.out).mono ?_
  rintro e w1 ⟨hcase, h1⟩
  have he : (Kr.decode bs).1 = 16 := by simp [Kr.decode, Fp.openE, h8]
  rcases hcase with ⟨_, rfl⟩ | ⟨h0, _⟩
  case inr => rw [he] at h0; exact absurd h0 (by decide)
  rw [he]
  have hb2 := h1.alloc h1.size (.cells #[.slice none 0 0, .slice none 0 0, .slice none 0 0] 27)
  clear he h1
  go_wp2_with fail
  refine (awake27 _).mono ?_
  rintro e w2 ⟨rfl, h2⟩
  have hb3 := hb2.trans (h2.mono hb2.size)
  go_wp2_with fail
  go_ret
  exact ⟨rfl, hb3⟩

set_option maxHeartbeats 400000 in
theorem walkKeepDecodes (w : World) (A : Option Addr) (c : Nat) (bs : List Int) (hl : bs.length ≤ 9223372036854775807) (hcap : bs.length ≤ c) (hI : Ints .u8 w A bs) (hw : ∀ n ∈ bs, (Lit.int .u8 n).wf = true) :
    Calls Try.prog 4 #[.slice A bs.length c] w fun e w' => e = .returned (.bool true) ∧ Below w.heap.size w w' := by
  by_cases h2 : 2000 < bs.length
  · clear hI hw
    go_enter Try.func4, Try.ntmps4
    go_wp2_with fail
    refine (awake27 _).mono ?_
    rintro e w1 ⟨rfl, h1⟩
    go_wp2_with fail
    go_ret
    exact ⟨rfl, h1⟩
  · by_cases h8 : bs.length < 8
    · exact keepDecodes_short w A c bs h8 hcap hI (byte_of hw)
    · obtain ⟨n, hn⟩ : ∃ n, bs.length = n + 4 := ⟨bs.length - 4, by omega⟩
      obtain ⟨b, off, rfl, _, _⟩ := hI 0 (by omega)
      rw [hn]
      exact keepDecodes_big w b off c n bs hn (by omega) (by omega) (by omega) hI (byte_of hw)
end Go.Proofs.Ytjgagbhbgehmpaa
