/- Lemmas for the statements of this seat: contracts of functions and the plain laws. -/
import Derived.Deep.AppendLies
import Derived.Deep.RegionHeld3
import Derived.Deep.RegionLaw
import Derived.Test.YtnofeebcmmmlhaaZ07
set_option linter.unusedVariables false
/- The walk of the law FileDecodes. -/
namespace Go.Proofs.Ytnofeebcmmmlhaa
open Go.RowKit

theorem byte_of {bs : List Int} (h : ∀ n ∈ bs, (Lit.int .u8 n).wf = true) : ∀ x ∈ bs, 0 ≤ x ∧ x ≤ 255 := fun x hx => wf_bd8 (h x hx)
namespace Fn
open Fp
theorem open_mark {bs : List Int} (hb : ∀ x ∈ bs, 0 ≤ x ∧ x ≤ 255) (h8 : ¬ bs.length < 8) : (openE bs = 0 ↔ big (sum (Fp.body bs)) 4 = Fp.mark bs) ∧ (openE bs = 0 ∨ openE bs = 30) := by
  have hl : (Fp.mark bs).length = 4 := by unfold Fp.mark; rw [List.length_drop]; omega
  have hbm : ∀ x ∈ Fp.mark bs, 0 ≤ x ∧ x ≤ 255 := fun x hx => hb x (List.mem_of_mem_drop hx)
  have h1 := big_num (Fp.mark bs) hbm
  rw [hl] at h1
  unfold openE
  rw [if_neg h8]
  constructor
  · by_cases hs : num (Fp.mark bs) = sum (Fp.body bs)
    · rw [if_pos hs, ← hs, h1]; simp
    · rw [if_neg hs]
      constructor
      · intro h; simp at h
      · intro h
        refine absurd ?_ hs
        rw [← h, num_big]
        have := sum_range (Fp.body bs)
        simp; omega
  · by_cases hs : num (Fp.mark bs) = sum (Fp.body bs)
    · rw [if_pos hs]; simp
    · rw [if_neg hs]; simp
end Fn

set_option maxHeartbeats 4000000 in
set_option maxRecDepth 100000 in
theorem fileDecodes_big (w : World) (b off c n : Nat) (bs : List Int) (hn : bs.length = n + 4) (h4 : 4 ≤ n) (h2 : n ≤ 596) (hcap : n + 4 ≤ c) (hI : Ints .u8 w (some ⟨b, off, none⟩) bs) (hb : ∀ x ∈ bs, 0 ≤ x ∧ x ≤ 255) :
    Calls Try.prog 3 #[.slice (some ⟨b, off, none⟩) (n + 4) c] w fun e w' => e = .returned (.bool true) ∧ Below w.heap.size w w' := by
  have hdec := file_decode (some ⟨b, off, none⟩) c bs w hI (by omega) (by omega) hb
  have hom := Fn.open_mark hb (by omega)
  have hbody : Fp.body bs = bs.take n := by simp [Fp.body, hn]
  have hmark : Fp.mark bs = bs.drop n := by simp [Fp.mark, hn]
  have hln : (bs.take n).length = n := by rw [List.length_take]; omega
  have hl4 : (bs.drop n).length = 4 := by rw [List.length_drop]; omega
  have hbt : ∀ x ∈ bs.take n, 0 ≤ x ∧ x ≤ 255 := fun x hx => hb x (List.mem_of_mem_take hx)
  have hbd : ∀ x ∈ bs.drop n, 0 ≤ x ∧ x ≤ 255 := fun x hx => hb x (List.mem_of_mem_drop hx)
  rw [hn] at hdec
  rw [show Fn.decode bs (Fp.openE bs) (Fp.body bs) = Fn.dec bs from rfl] at hdec
  rw [hbody, hmark] at hom
  have HOE := Lib.hid (show Fp.openE bs ≠ 0 → (Fn.dec bs).1 = Fp.openE bs by intro h; unfold Fn.dec; rw [dec_wrong h])
  have Hdec := Lib.hid hdec
  have Hom := Lib.hid hom
  have HI := Lib.hid hI
  have Hb := Lib.hid hb
  have Hbt := Lib.hid hbt
  have Hbd := Lib.hid hbd
  have Hn := Lib.hid hn
  have Hln := Lib.hid hln
  have Hl4 := Lib.hid hl4
  clear hdec hom hI hb hbt hbd hn hln hl4
  clear hbody hmark
  have hck : c ≠ n := by omega
  have v1 : (n + 4 : Int) - 4 = n := by omega
  have v2 : IntKind.i64.wrap ((n : Int) + 4 - 4) = n := by rw [v1]; exact IntWalk.i64_in _ (by omega)
  have v3 : IntKind.i64.wrap (n : Int) = n := IntWalk.i64_in _ (by omega)
  have v4 : ((n : Int)).toNat = n := by omega
  have hnc2 : n ≤ c := by omega
  have hnc : (n : Int) ≤ c := by omega
  have hn0 : (0 : Int) ≤ n := by omega
  have hn4 : (n : Int) ≤ n + 4 := by omega
  have hsum : ∀ W, Calls Try.prog 10 #[.string (strOfNums (bs.take n))] W fun e w' => e = .returned (.int .u64 (Fp.sum (bs.take n))) ∧ W = w' := fun W => by
    have := ref_sum (strOfNums (bs.take n)) W (by rw [strOfNums_size, Hln.out]; omega)
    rwa [numsOf_str Hbt.out] at this
  have hbig : ∀ W, Calls Try.prog 9 #[.int .u64 (Fp.sum (bs.take n)), .int .i64 4] W fun e w' => e = .returned (.string (strOfNums (Fp.big (Fp.sum (bs.take n)) 4))) ∧ Below W.heap.size W w' := fun W => ref_big _ 4 W (by have := Fp.sum_range (bs.take n); omega) (by have := Fp.sum_range (bs.take n); omega) (by omega)
  have hcv : ∀ W, Below w.heap.size w W → (convert 22 9 (.slice (some ⟨b, off, none⟩) n c)).run Try.prog W = .ok (.string (strOfNums (bs.take n))) W ∧ (convert 22 9 (.slice (some ⟨b, off + n, none⟩) 4 (c - n))).run Try.prog W = .ok (.string (strOfNums (bs.drop n))) W := fun W hW => by
    have a := run_string_of c 22 5 9 Try.underlying22 Try.underlying5 Try.underlying9 ((HI.out.below hW (Nat.le_refl _)).taken n)
    have d := run_string_of (c - n) 22 5 9 Try.underlying22 Try.underlying5 Try.underlying9 ((HI.out.below hW (Nat.le_refl _)).dropped n)
    rw [Hln.out] at a
    rw [Hl4.out] at d
    exact ⟨a, d⟩
  have hall : ∀ W, Below w.heap.size w W → (convert 22 9 (.slice (some ⟨b, off, none⟩) (n + 4) c)).run Try.prog W = .ok (.string (strOfNums bs)) W := fun W hW => by
    have a := run_string_of c 22 5 9 Try.underlying22 Try.underlying5 Try.underlying9 (HI.out.below hW (Nat.le_refl _))
    rwa [Hn.out] at a
  have hinj := fun h => str_inj (Fp.big_byte (Fp.sum (bs.take n)) 4) Hbd.out h
  have hz := Hl4.out
  have hne : Fp.big (Fp.sum (bs.take n)) 4 ≠ bs.drop n → ((strOfNums (Fp.big (Fp.sum (bs.take n)) 4)).toList != (strOfNums (bs.drop n)).toList) = true := fun h => by
    rw [bne_iff_ne]
    intro e
    apply h
    apply hinj
    rw [ByteArray.toList_eq, ByteArray.toList_eq] at e
    exact ByteArray.ext (Array.toList_inj.1 e)
  have hdi := fun h => Fn.dec_inv Hb.out h
  clear hz
  have hn0' : Fp.openE bs = 0 → ((strOfNums (Fp.big (Fp.sum (bs.take n)) 4)).toList == (strOfNums (bs.drop n)).toList) = true := fun h => by rw [Hom.out.1.1 h]; simp
  have hn1' : Fp.openE bs ≠ 0 → ((strOfNums (Fp.big (Fp.sum (bs.take n)) 4)).toList == (strOfNums (bs.drop n)).toList) = false := fun h => by have := hne (fun e => h (Hom.out.1.2 e)); simpa using this
  have hz3 : Fp.openE bs ≠ 0 → Fp.openE bs = 30 := fun h => Hom.out.2.resolve_left h
  have q2 : decide (600 < (n : Int) + 4) = false := by simp; omega
  have q8 : decide ((n : Int) + 4 < 8) = false := by simp; omega
  have Hsum := Lib.hid hsum
  have Hbig := Lib.hid hbig
  have Hcv := Lib.hid hcv
  have Hall := Lib.hid hall
  have Hdi := Lib.hid hdi
  have Hn0' := Lib.hid hn0'
  have Hn1' := Lib.hid hn1'
  have Hz3 := Lib.hid hz3
  clear hsum hbig hcv hall hdi hn0' hn1' hz3
  clear hinj hne Hom
  generalize strOfNums (bs.take n) = T1 at *
  generalize strOfNums (bs.drop n) = T2 at *
  generalize Fp.sum (bs.take n) = sm at *
  generalize strOfNums (Fp.big sm 4) = BG at *
  go_enter Try.func3, Try.ntmps3
  go_wp2_with fail
  refine Hdec.out.mono ?_
  rintro e w1 ⟨hcase, h1⟩
  clear Hdec
  by_cases hok : Fp.openE bs = 0
  · have hcmp := Hn0'.out hok
    rcases hcase with ⟨he, rfl, hnn⟩ | ⟨he, A1, N1, k1, k2, rfl, hS, l1, l2, hno⟩
    · have hb2 := h1.alloc h1.size (.cells #[.slice none 0 0, .slice none 0 0] 28)
      have hbd := hb2.drew
      have hk2 := Blk.new w1 28 #[.slice none 0 0, .slice none 0 0]
      obtain ⟨a0, a1⟩ := Hcv.out _ hbd
      clear h1 hnn
      generalize (Fn.dec bs).1 = er at *
      clear Hdi HOE
      have hene : (er != 0) = true := by simp [he]
      have He := Lib.hid he
      have Hk2 := Lib.hid hk2
      clear he hk2
      go_upto_region 6 with fail
      generalize w1.alloc (.cells #[.slice none 0 0, .slice none 0 0] 28) = w2 at *
      have hbd2 : Below w2.heap.size w2 w2.drew := (Below.refl _ _).drew
      go_region_held3 (fun W => (convert 22 9 (.slice (some ⟨b, off, none⟩) n c)).run Try.prog W = .ok (.string T1) W ∧ (convert 22 9 (.slice (some ⟨b, off + n, none⟩) 4 (c - n))).run Try.prog W = .ok (.string T2) W) (first | exact Hcv.out _ hbb | exact Hcv.out _ hbd)
        (first
          | (go_at_call 10; refine (Hsum.out _).mono ?_; rintro e wz ⟨rfl, rfl⟩)
          | (go_at_call 9; refine (Hbig.out _).mono ?_; rintro e wb ⟨rfl, hb⟩; have hbb2 := hbd2.trans (hb.mono hbd2.size); have hbb := hbd.trans (hb.mono hbd.size)))
      have hk3 := Hk2.out.below hbb2 Hk2.out.lt
      have f0 := hk3.cell 0
      have f2 := hk3.cell 1
      simp at f0 f2
      clear hk3 He Hk2 a0 a1
      go_wp2_with fail
      refine (awake12 _).mono ?_
      rintro e w5 ⟨rfl, h5⟩
      have hb5 := hbb.trans (h5.mono hbb.size)
      go_wp2_with fail
      go_ret
      exact ⟨rfl, hb5⟩
    · obtain ⟨hch, henc⟩ := Hdi.out he
      generalize (Fn.dec bs).2 = nv at *
      have h12 : Later w1 (w1.alloc (.cells #[.slice A1 nv.inn.length k1, .slice N1 nv.nodes.length k2] 28)) := (Later.refl _).alloc _
      have hS2 : NetR _ A1 N1 nv := hS.below h12 (Nat.le_refl _)
      have hk2 := Blk.new w1 28 #[.slice A1 nv.inn.length k1, .slice N1 nv.nodes.length k2]
      have hb2 := h1.alloc h1.size (.cells #[.slice A1 nv.inn.length k1, .slice N1 nv.nodes.length k2] 28)
      have hbd := hb2.drew
      obtain ⟨a0, a1⟩ := Hcv.out _ hbd
      clear Hdi HOE h1 hS he h12
      have HS2 := Lib.hid hS2
      have Hk2 := Lib.hid hk2
      have Henc := Lib.hid henc
      have Hch := Lib.hid hch
      have Hno := Lib.hid hno
      clear hS2 hk2 henc hch hno
      go_upto_region 6 with fail
      generalize w1.alloc (.cells #[.slice A1 nv.inn.length k1, .slice N1 nv.nodes.length k2] 28) = w2 at *
      have hbd2 : Below w2.heap.size w2 w2.drew := (Below.refl _ _).drew
      go_region_held3 (fun W => (convert 22 9 (.slice (some ⟨b, off, none⟩) n c)).run Try.prog W = .ok (.string T1) W ∧ (convert 22 9 (.slice (some ⟨b, off + n, none⟩) 4 (c - n))).run Try.prog W = .ok (.string T2) W) (first | exact Hcv.out _ hbb | exact Hcv.out _ hbd)
        (first
          | (go_at_call 10; refine (Hsum.out _).mono ?_; rintro e wz ⟨rfl, rfl⟩)
          | (go_at_call 9; refine (Hbig.out _).mono ?_; rintro e wb ⟨rfl, hb⟩; have hbb2 := hbd2.trans (hb.mono hbd2.size); have hbb := hbd.trans (hb.mono hbd.size)))
      have hS3 : NetR wb A1 N1 nv := HS2.out.below hbb2 (Nat.le_refl _)
      have hk3 := Hk2.out.below hbb2 Hk2.out.lt
      have f0 := hk3.cell 0
      have f1 := hk3.cell 1
      simp at f0 f1
      have HS3 := Lib.hid hS3
      have Hk3 := Lib.hid hk3
      clear hS3 hk3
      clear a0 a1 hbd2 hbd hb HS2 Hk2
      go_wp2_with fail
      refine (file_encode A1 N1 k1 k2 nv _ Hno.out HS3.out l2).mono ?_
      rintro e w4 ⟨hcase, h4⟩
      rcases hcase with ⟨he, _⟩ | ⟨_, A4, c4, rfl, hI4, _⟩
      case inl => exact absurd Hch.out he
      rw [Henc.out] at hI4 ⊢
      rw [Hn.out]
      have hb4 := hbb.trans (h4.mono hbb.size)
      have hS4 : NetR w4 A1 N1 nv := HS3.out.below h4 (Nat.le_refl _)
      have hk4 := Hk3.out.below h4 Hk3.out.lt
      have hcv4 : ∀ W, Below w4.heap.size w4 W → (convert 22 9 (.slice A4 (n + 4) c4)).run Try.prog W = .ok (.string (strOfNums bs)) W := fun W hW => by
        have a := run_string_of c4 22 5 9 Try.underlying22 Try.underlying5 Try.underlying9 (hI4.below hW (Nat.le_refl _))
        rwa [Hn.out] at a
      clear f0 f1
      have f0 := hk4.cell 0
      have f1 := hk4.cell 1
      simp at f0 f1
      have HS4 := Lib.hid hS4
      have Hcv4 := Lib.hid hcv4
      clear hS4 hcv4
      clear hk4 hI4 h4 hbb hbb2 Hk3 HS3
      go_wp2_with fail
      refine (net_check A1 N1 k1 k2 nv _ Hno.out HS4.out l2).mono ?_
      rintro e w5 ⟨rfl, h5⟩
      rw [Hch.out]
      have hb5 := hb4.trans (h5.mono hb4.size)
      have hx1 := Hall.out _ hb5
      have hx2 := Hcv4.out _ h5
      clear f0 f1
      go_wp2_with fail
      refine (awake12 _).mono ?_
      rintro e w6 ⟨rfl, h6⟩
      have hb6 := hb5.trans (h6.mono hb5.size)
      go_wp2_with fail
      go_ret
      exact ⟨rfl, hb6⟩
  · have hcmp := Hn1'.out hok
    have he30 := (HOE.out hok).trans (Hz3.out hok)
    rcases hcase with ⟨he, rfl, hnn⟩ | ⟨he, _⟩
    case inr => rw [he30] at he; exact absurd he (by decide)
    rw [he30]
    have hb2 := h1.alloc h1.size (.cells #[.slice none 0 0, .slice none 0 0] 28)
    have hbd := hb2.drew
    have hk2 := Blk.new w1 28 #[.slice none 0 0, .slice none 0 0]
    obtain ⟨a0, a1⟩ := Hcv.out _ hbd
    clear h1 he hok he30 Hdi HOE hnn
    have Hk2 := Lib.hid hk2
    clear hk2
    go_upto_region 6 with fail
    generalize w1.alloc (.cells #[.slice none 0 0, .slice none 0 0] 28) = w2 at *
    have hbd2 : Below w2.heap.size w2 w2.drew := (Below.refl _ _).drew
    go_region_held3 (fun W => (convert 22 9 (.slice (some ⟨b, off, none⟩) n c)).run Try.prog W = .ok (.string T1) W ∧ (convert 22 9 (.slice (some ⟨b, off + n, none⟩) 4 (c - n))).run Try.prog W = .ok (.string T2) W) (first | exact Hcv.out _ hbb | exact Hcv.out _ hbd)
      (first
        | (go_at_call 10; refine (Hsum.out _).mono ?_; rintro e wz ⟨rfl, rfl⟩)
        | (go_at_call 9; refine (Hbig.out _).mono ?_; rintro e wb ⟨rfl, hb⟩; have hbb2 := hbd2.trans (hb.mono hbd2.size); have hbb := hbd.trans (hb.mono hbd.size)))
    have hk3 := Hk2.out.below hbb2 Hk2.out.lt
    have f0 := hk3.cell 0
    have f2 := hk3.cell 1
    simp at f0 f2
    clear hk3 Hk2 a0 a1
    go_wp2_with fail
    refine (awake12 _).mono ?_
    rintro e w5 ⟨rfl, h5⟩
    have hb5 := hbb.trans (h5.mono hbb.size)
    go_wp2_with fail
    go_ret
    exact ⟨rfl, hb5⟩

set_option maxHeartbeats 4000000 in
set_option maxRecDepth 100000 in
theorem fileDecodes_short (w : World) (A : Option Addr) (c : Nat) (bs : List Int) (h8 : bs.length < 8) (hcap : bs.length ≤ c) (hI : Ints .u8 w A bs) (hb : ∀ x ∈ bs, 0 ≤ x ∧ x ≤ 255) :
    Calls Try.prog 3 #[.slice A bs.length c] w fun e w' => e = .returned (.bool true) ∧ Below w.heap.size w w' := by
  have HI := Lib.hid hI
  have Hb := Lib.hid hb
  clear hI hb
  go_enter Try.func3, Try.ntmps3
  go_wp2_with fail
  have he0 : Fp.openE bs = 16 := by simp [Fp.openE, h8]
  have hd := file_decode A c bs _ HI.out hcap (by omega) Hb.out
  rw [dec_wrong (by rw [he0]; decide), he0] at hd
  refine hd.mono ?_
  rintro e w1 ⟨hcase, h1⟩
  rcases hcase with ⟨_, rfl, _⟩ | ⟨h0, _⟩
  case inr => exact absurd h0 (by decide)
  have hb2 := h1.alloc h1.size (.cells #[.slice none 0 0, .slice none 0 0] 28)
  clear he0 h1 hd
  go_wp2_with fail
  refine (awake12 _).mono ?_
  rintro e w2 ⟨rfl, h2⟩
  have hb3 := hb2.trans (h2.mono hb2.size)
  go_wp2_with fail
  go_ret
  exact ⟨rfl, hb3⟩

set_option maxHeartbeats 400000 in
theorem walkFileDecodes (w : World) (A : Option Addr) (c : Nat) (bs : List Int) (hl : bs.length ≤ 9223372036854775807) (hcap : bs.length ≤ c) (hI : Ints .u8 w A bs) (hw : ∀ n ∈ bs, (Lit.int .u8 n).wf = true) :
    Calls Try.prog 3 #[.slice A bs.length c] w fun e w' => e = .returned (.bool true) ∧ Below w.heap.size w w' := by
  by_cases h2 : 600 < bs.length
  · clear hI hw
    go_enter Try.func3, Try.ntmps3
    go_wp2_with fail
    refine (awake12 _).mono ?_
    rintro e w1 ⟨rfl, h1⟩
    go_wp2_with fail
    go_ret
    exact ⟨rfl, h1⟩
  · by_cases h8 : bs.length < 8
    · exact fileDecodes_short w A c bs h8 hcap hI (byte_of hw)
    · obtain ⟨n, hn⟩ : ∃ n, bs.length = n + 4 := ⟨bs.length - 4, by omega⟩
      obtain ⟨b, off, rfl, _, _⟩ := hI 0 (by omega)
      rw [hn]
      exact fileDecodes_big w b off c n bs hn (by omega) (by omega) (by omega) hI (byte_of hw)
end Go.Proofs.Ytnofeebcmmmlhaa
/- A byte appended to_ a row of the call's own, the row read on: at a step of a region that draws its order. -/
namespace Go.Proofs.Ytnofeebcmmmlhaa
open Go.RowKit
theorem BRow.owns {w : World} {g c B : Nat} {zs : List Int} (h : BRow w g c zs) (hb : B ≤ g) (hc : c ≤ maxLen) : w.ownsRow B 5 1 (.slice (some ⟨g, 0, none⟩) zs.length c) zs.length (bytesV zs) := by
  obtain ⟨cur, h1, h2, h3, h4⟩ := h
  exact ⟨by simp [bytesV], .inr ⟨g, c, cur, rfl, hb, h1, h3, hc, by simpa using h2, by simpa using h4⟩⟩
theorem BRow.one {P : Program} {w : World} {g c B : Nat} {zs : List Int} (h : BRow w g c zs) (hB : B ≤ g) (hBw : B ≤ w.heap.size) (hc : c ≤ maxLen) (hl : zs.length ≤ 1000000000) (t ty : TypeId) (i : TypeInfo) (ht : P.underlying t = some (.slice 5)) (hi : P.info? 5 = some i) (hz : i.zero = some (.int .u8 0)) (hsize : i.size = 1) (hby : i.bytes = 1)
    (q : Nat) (x : Int) (hq : Blk w q 5 #[.int .u8 x]) :
    ∃ A c' w', (Builtin.append_ #[t, t] ty #[.slice (some ⟨g, 0, none⟩) zs.length c, .slice (some ⟨q, 0, none⟩) 1 1]).run P w = .ok (.slice A (zs.length + 1) c') w' ∧ Ints .u8 w' A (zs ++ [x]) ∧ Ints .u8 w' (some ⟨g, 0, none⟩) zs ∧ zs.length + 1 ≤ c' ∧ Below B w w' := by
  have hnews : ∀ j u, [Value.int .u8 x][j]? = some u → w.cell? ((⟨q, 0, none⟩ : Addr).add j) = some u := World.news_of_block (cs := #[.int .u8 x]) (t := 5) (fr := (0, 0)) hq
  by_cases hr : zs.length + 1 ≤ c
  · obtain ⟨cur, h1, h2, h3, h4⟩ := h
    have hk := h1.set_ zs.length (.int .u8 x)
    have hrun := run_append_room_cells (P := P) w t ty 5 i ht hi g 0 zs.length c ⟨q, 0, none⟩ 1 1 [.int .u8 x] (by simp [hsize]) hnews (by intro u hu; simp at hu; subst hu; rfl) hr
      (fun j hj => by
        obtain rfl : j = 0 := by simpa using hj
        rw [hsize, h1.cell]; simp; omega)
      (fun j _ => h1.frozen _)
    rw [hsize] at hrun
    refine ⟨some ⟨g, 0, none⟩, c, w.setCell ⟨g, zs.length, none⟩ (.int .u8 x), ?_, ?_, ?_, hr, (Below.refl B w).setCell (p := ⟨g, zs.length, none⟩) hB _⟩
    · rw [hrun]; simp [World.setCells]
    · refine Ints.of_row fun j hj => ?_
      rw [Nat.zero_add, hk.cell]
      rw [List.length_append] at hj
      by_cases e : j < zs.length
      · have := congrArg (fun l => l[j]?) h4
        simp [bytesV, e] at this
        rw [Array.getElem?_setIfInBounds_ne (by omega), this]
        simp [List.getElem?_append_left, e]
      · obtain rfl : j = zs.length := by simp at hj; omega
        rw [Array.getElem?_setIfInBounds_self_of_lt (by omega)]
        simp
    · refine Ints.of_row fun j hj => ?_
      rw [Nat.zero_add, hk.cell]
      have := congrArg (fun l => l[j]?) h4
      simp [bytesV, hj] at this
      rw [Array.getElem?_setIfInBounds_ne (by omega), this]
      simp [hj]
  · obtain ⟨v', w', hrun, hown, hgrow⟩ := run_append_arg_grows (P := P) w t ty 5 i (.int .u8 0) 1 1 ht hi hz hsize hby rfl (by decide) ⟨g, 0, none⟩ zs.length c (bytesV zs) (by simp [bytesV])
      (fun j u hj => by
        unfold bytesV at hj
        obtain ⟨y, hy, rfl⟩ := List.getElem?_map .. ▸ hj |> Option.map_eq_some_iff.1
        obtain ⟨hjl, rfl⟩ := List.getElem?_eq_some_iff.1 hy
        rw [Addr.add_lit, Nat.zero_add]
        exact h.at_ hjl)
      ⟨q, 0, none⟩ 1 1 [.int .u8 x] (by simp) hnews (by omega) (by unfold maxLen; omega) (by omega)
    have hown2 : w'.ownsRow w.heap.size 5 1 v' (zs.length + 1) (bytesV (zs ++ [x])) := by simpa [bytesV] using hown
    obtain ⟨A', c', hv, hn, hI⟩ := Ints.of_own hown2
    have hv' : v' = .slice A' (zs.length + 1) c' := by rw [hv]; simp
    subst hv'
    refine ⟨A', c', w', hrun, hI, ?_, own_cap hown2, ⟨hgrow.os, hgrow.tape, hgrow.output, hgrow.size, fun k hk => hgrow.block k (by omega) (by simp)⟩⟩
    obtain ⟨cur, h1, h2, h3, h4⟩ := h
    exact BRow.ints (n := c) ⟨cur, h1.grown hgrow (by simp), h2, h3, h4⟩
theorem step_append_one {P : Program} {w : World} {ops : Array Oper} {o : Oper} {a : Act} {K : Act → World → Prop} {Q : Exit → Act → World → Prop} {E : Prop} (s y : Operand) (t : TypeId)
    (ho : o.op = .call { callee := .builtin .append, args := #[s, y], argTypes := #[t, t] }) (hgd : Region.wanted o (yielded ops a.tmps) = true)
    (g c B : Nat) (zs : List Int) (h : BRow w g c zs) (hB : B ≤ g) (hBw : B ≤ w.heap.size) (hc : c ≤ maxLen) (hl : zs.length ≤ 1000000000) (i : TypeInfo) (ht : P.underlying t = some (.slice 5)) (hi : P.info? 5 = some i) (hz : i.zero = some (.int .u8 0)) (hsize : i.size = 1) (hby : i.bytes = 1)
    (n : Nat) (hn : zs.length = n) (hs : a.eval s = .slice (some ⟨g, 0, none⟩) n c) (q : Nat) (x : Int) (hx : a.eval y = .slice (some ⟨q, 0, none⟩) 1 1) (hq : Blk w q 5 #[.int .u8 x])
    (hK : ∀ A c' w', Ints .u8 w' A (zs ++ [x]) → Ints .u8 w' (some ⟨g, 0, none⟩) zs → n + 1 ≤ c' → Below B w w' → K (a.put o.dst (.slice A (n + 1) c')) w') :
    if Region.wanted o (yielded ops a.tmps) = true then Oper.wp P o a w K Q else E := by
  subst hn
  rw [if_pos hgd]
  obtain ⟨A, c', w', hrun, h1, h2, h3, h4⟩ := h.one (P := P) hB hBw hc hl t o.type i ht hi hz hsize hby q x hq
  unfold Oper.wp execOp
  simp only [ho, resolve, invoke, builtin, Sem.run_bind, Sem.run_pure, Result.andThen_ok, List.map_toArray, List.map_cons, List.map_nil, hs, hx, hrun]
  exact hK A c' w' h1 h2 h3 h4
end Go.Proofs.Ytnofeebcmmmlhaa
