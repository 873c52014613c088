/- Layer 27 (keep): put, Encode, Size: contracts. -/
import Derived.Test.YtjgagbhbgehmpaaFileW
import Derived.Test.YtjgagbhbgehmpaaKeepP
namespace Go.Proofs.Ytjgagbhbgehmpaa
open Go.RowKit

theorem hold_writer {P : Program} {f : FuncId} (p : Nat) : ∀ (w : World), (Instr.makeFunc (.func f) #[.pointer (some ⟨p, 0, none⟩)] #[]).run P w = .ok (.func (.func f) #[.pointer (some ⟨p, 0, none⟩)] #[]) w := fun _ => rfl

set_option maxHeartbeats 1000000 in
theorem keep_put_fix (B p : Nat) (bs : List Int) (A : Option Addr) (c : Nat) (zs : List Int) (w : World) (h : Wr B p bs w) (hI : IntsK B p .i64 w A zs) (hl : zs.length ≤ 1000000) (hlen : bs.length ≤ 900000000) (hBw : B ≤ w.heap.size) :
    Calls Try.prog 22 #[.func (.func 20) #[.pointer (some ⟨p, 0, none⟩)] #[], .slice A zs.length c] w (WrPost B p (bs ++ Fp.words zs) w) := by
  have HW := Lib.hid h
  have HI := Lib.hid hI
  clear h hI
  go_enter Try.func22, Try.ntmps22
  go_wp2_with fail
  go_loopw [5, 8] (fun _ i wr => ∃ k : Nat, k ≤ zs.length ∧ i = .int .i64 k ∧ Wr B p (bs ++ Fp.wordsTo zs k) wr ∧ Below B w wr ∧ KeptW p w wr) (fun _ i _ => zs.length - (intOf i).toNat)
  case atStart => exact ⟨0, Nat.zero_le _, rfl, by rw [Fp.wordsTo_zero, List.append_nil]; exact HW.out, Below.refl _ _, Lib.OthersKept.refl _ _ _⟩
  case round =>
    clear HW
    obtain ⟨k, hk, rfl, hWr, hbel, hkept⟩ := hrel
    by_cases hlt : k < zs.length
    · obtain ⟨b, off, rfl, hb, hc⟩ := HI.out wr hbel hkept k hlt
      have HS := Lib.hid (Fp.wordsTo_succ zs k hlt)
      have hkl := Fp.wordsTo_length zs k hk
      have hsz := hbel.size
      have hu : IntKind.u64.wrap zs[k] = zs[k] % 18446744073709551616 := IntKind.wrap_u64 _
      have HW := Lib.hid hWr
      clear hWr
      go_wp2_with fail
      refine (writer_put B p (bs ++ Fp.wordsTo zs k) (zs[k] % 18446744073709551616) 8 _ HW.out (by omega) (by omega) (by omega) (by omega) (by simp; omega) (by omega)).mono ?_
      rintro e w2 ⟨rfl, hW2, hb2, hk2⟩
      rw [Fp.big_wrap _ _ (by omega), List.append_assoc, ← HS.out] at hW2
      have hb3 := hbel.trans hb2
      have hk3 := hkept.trans hk2
      clear hb2 hk2 hbel hkept HW
      go_wp2_with fail
      go_roundw
      case rel => exact ⟨k + 1, by omega, by go_num, hW2, hb3, hk3⟩
      case measure => simp [intOf]; omega
    · obtain rfl : k = zs.length := by omega
      rw [Fp.wordsTo_all] at hWr
      go_wp2_with fail
      go_end0
      exact ⟨rfl, hWr, hbel, hkept⟩
set_option maxHeartbeats 1000000 in
theorem keep_put_int (B p : Nat) (bs : List Int) (A : Option Addr) (c : Nat) (zs : List Int) (w : World) (h : Wr B p bs w) (hI : IntsK B p .i64 w A zs) (hl : zs.length ≤ 1000000) (hlen : bs.length ≤ 900000000) (hBw : B ≤ w.heap.size) :
    Calls Try.prog 23 #[.func (.func 20) #[.pointer (some ⟨p, 0, none⟩)] #[], .slice A zs.length c] w (WrPost B p (bs ++ Fp.words zs) w) := by
  have HW := Lib.hid h
  have HI := Lib.hid hI
  clear h hI
  go_enter Try.func23, Try.ntmps23
  go_wp2_with fail
  go_loopw [5, 8] (fun _ i wr => ∃ k : Nat, k ≤ zs.length ∧ i = .int .i64 k ∧ Wr B p (bs ++ Fp.wordsTo zs k) wr ∧ Below B w wr ∧ KeptW p w wr) (fun _ i _ => zs.length - (intOf i).toNat)
  case atStart => exact ⟨0, Nat.zero_le _, rfl, by rw [Fp.wordsTo_zero, List.append_nil]; exact HW.out, Below.refl _ _, Lib.OthersKept.refl _ _ _⟩
  case round =>
    clear HW
    obtain ⟨k, hk, rfl, hWr, hbel, hkept⟩ := hrel
    by_cases hlt : k < zs.length
    · obtain ⟨b, off, rfl, hb, hc⟩ := HI.out wr hbel hkept k hlt
      have HS := Lib.hid (Fp.wordsTo_succ zs k hlt)
      have hkl := Fp.wordsTo_length zs k hk
      have hsz := hbel.size
      have hu : IntKind.u64.wrap zs[k] = zs[k] % 18446744073709551616 := IntKind.wrap_u64 _
      have HW := Lib.hid hWr
      clear hWr
      go_wp2_with fail
      refine (writer_put B p (bs ++ Fp.wordsTo zs k) (zs[k] % 18446744073709551616) 8 _ HW.out (by omega) (by omega) (by omega) (by omega) (by simp; omega) (by omega)).mono ?_
      rintro e w2 ⟨rfl, hW2, hb2, hk2⟩
      rw [Fp.big_wrap _ _ (by omega), List.append_assoc, ← HS.out] at hW2
      have hb3 := hbel.trans hb2
      have hk3 := hkept.trans hk2
      clear hb2 hk2 hbel hkept HW
      go_wp2_with fail
      go_roundw
      case rel => exact ⟨k + 1, by omega, by go_num, hW2, hb3, hk3⟩
      case measure => simp [intOf]; omega
    · obtain rfl : k = zs.length := by omega
      rw [Fp.wordsTo_all] at hWr
      go_wp2_with fail
      go_end0
      exact ⟨rfl, hWr, hbel, hkept⟩

theorem IntsS.kept {B p : Nat} {k : IntKind} {w : World} {A : Option Addr} {zs : List Int} (h : IntsS B k w A zs) : IntsK B p k w A zs := fun _ hb _ => h _ hb
theorem IntsK.of_blk {B p g : Nat} {t : TypeId} {k : IntKind} {w : World} {zs : List Int} (h : Blk w g t (zs.map (Value.int k)).toArray) (hne : g ≠ p) (ht : t ≠ 5) : IntsK B p k w (some ⟨g, 0, none⟩) zs := fun _ _ hk => (h.keptW hk hne ht).ints

/-- The bytes of what is saved, or an error. -/
def EncP (s : Sav) (w : World) (e : Ending) (w' : World) : Prop :=
  (Kp.err s ≠ 0 ∧ e = .returned (.tuple #[.slice none 0 0, .int .i64 (Kp.err s)]) ∨ Kp.err s = 0 ∧ ∃ A c, e = .returned (.tuple #[.slice A (Kp.enc s).length c, .int .i64 0]) ∧ Ints .u8 w' A (Kp.enc s) ∧ (Kp.enc s).length ≤ c) ∧ Below w.heap.size w w'

set_option maxHeartbeats 4000000 in
set_option maxRecDepth 100000 in
theorem keep_encode (P V M : Option Addr) (c1 c2 c3 : Nat) (s : Sav) (w : World) (hp : s.p.length ≤ 9223372036854775807) (hv : s.v.length ≤ 9223372036854775807) (hm : s.m.length ≤ 9223372036854775807) (hS : SavR w P V M s) :
    Calls Try.prog 9 #[.agg #[.slice P s.p.length c1, .slice V s.v.length c2, .slice M s.m.length c3]] w (EncP s w) := by
  have hk0 := Blk.new w 27 #[.slice P s.p.length c1, .slice V s.v.length c2, .slice M s.m.length c3]
  have hb0 : Below w.heap.size w (w.alloc (.cells #[.slice P s.p.length c1, .slice V s.v.length c2, .slice M s.m.length c3] 27)) := (Below.refl _ _).alloc (Nat.le_refl _) _
  have HS := Lib.hid hS
  have Hk0 := Lib.hid hk0
  clear hS hk0
  have hmk := hold_writer (P := Try.prog) (f := 20)
  go_enter Try.func9, Try.ntmps9
  go_wp2_with fail
  refine (state_right P V c1 c2 s.p s.v _ hp hv (HS.out.1.below hb0 (Nat.le_refl _)) (HS.out.2.1.below hb0 (Nat.le_refl _))).mono ?_
  rintro e w1 ⟨rfl, h1⟩
  have hk1 := Hk0.out.below h1 Hk0.out.lt
  have hb1 := hb0.trans (h1.mono hb0.size)
  clear h1 hb0 Hk0
  cases ha : Tn.alike s.p s.v
  · have HE := Lib.hid (Kp.err_shape ha)
    clear ha
    go_wp2_with fail
    go_ret2
    exact ⟨.inl ⟨by rw [HE.out]; decide, by rw [HE.out]; rfl⟩, hb1⟩
  have g0 := hk1.cell 0
  have g1 := hk1.cell 1
  have g2 := hk1.cell 2
  simp at g0 g1 g2
  by_cases hp5 : 512 < s.p.length
  · have HE := Lib.hid (Kp.err_many ha (.inl hp5))
    clear ha
    go_wp2_with fail
    go_ret2
    exact ⟨.inl ⟨by rw [HE.out]; decide, by rw [HE.out]; rfl⟩, hb1⟩
  by_cases hm5 : 1024 < s.m.length
  · have HE := Lib.hid (Kp.err_many ha (.inr hm5))
    clear ha
    go_wp2_with fail
    go_ret2
    exact ⟨.inl ⟨by rw [HE.out]; decide, by rw [HE.out]; rfl⟩, hb1⟩
  have HE := Lib.hid (Kp.err_ok ha (by omega) (by omega))
  obtain ⟨hal, har, hav, has⟩ := Kp.alike_all ha
  have hvl : s.v.length ≤ 512 := by omega
  have HL := Lib.hid hal
  have HR := Lib.hid har
  have HV := Lib.hid hav
  have hsz1 : w.heap.size + 1 ≤ w1.heap.size := hk1.lt
  clear ha hal har hav has
  have hWn := Wr.new w.heap.size w1 (by omega)
  have hkn := hk1.alloc (.cells #[.slice none 0 0] 56)
  have hbn := hb1.alloc (by omega) (.cells #[.slice none 0 0] 56)
  have hszn : w1.heap.size + 1 ≤ (w1.alloc (.cells #[.slice none 0 0] 56)).heap.size := by simp
  have q1 : decide (512 < (s.p.length : Int)) = false := by simp; omega
  have q2 : decide (1024 < (s.m.length : Int)) = false := by simp; omega
  have HWn := Lib.hid hWn
  have Hkn := Lib.hid hkn
  clear hWn hkn
  clear hk1 hb1
  go_wp2_with fail
  generalize w1.heap.size = p at *
  generalize w1.alloc (.cells #[.slice none 0 0] 56) = w2 at *
  clear g0 g1 g2
  have hbp : w.heap.size ≠ p := by omega
  refine (writer_put w.heap.size p [] 1096042579 4 _ HWn.out (by omega) (by omega) (by omega) (by omega) (by simp) (by omega)).mono ?_
  rintro e w3 ⟨rfl, hW3, hb3, hk3⟩
  have hkn3 := Hkn.out.keptW hk3 hbp (by decide)
  have hbn3 := hbn.trans hb3
  have hsz3 := hb3.size
  rw [List.nil_append] at hW3
  clear HWn Hkn hk3 hb3 hbn
  have g0 := hkn3.cell 0
  simp at g0
  have hu1 : IntKind.u64.wrap (s.p.length : Int) = s.p.length := IntWalk.u64_in _ (by omega)
  have HW3 := Lib.hid hW3
  have Hkn3 := Lib.hid hkn3
  clear hW3 hkn3
  go_wp2_with fail
  refine (writer_put w.heap.size p (Fp.big 1096042579 4) s.p.length 2 _ HW3.out (by omega) (by omega) (by omega) (by omega) (by simp [Fp.big_length]) (by omega)).mono ?_
  rintro e w4 ⟨rfl, hW4, hb4, hk4⟩
  have hkn4 := Hkn3.out.keptW hk4 hbp (by decide)
  have hbn4 := hbn3.trans hb4
  have hsz4 := hb4.size
  have HW4 := Lib.hid (show Wr w.heap.size p (Kp.head s ++ Kp.tens (s.p.take 0)) w4 by simpa [Kp.head, Kp.tens] using hW4)
  clear HW3 Hkn3 hk4 hb4 hbn3 g0 hW4
  have g0 := hkn4.cell 0
  simp at g0
  have Hkn4 := Lib.hid hkn4
  clear hkn4
  go_wp2_with fail
  go_loopw [6, 37] (fun _ i wr => ∃ k : Nat, k ≤ s.p.length ∧ i = .int .i64 k ∧ Wr w.heap.size p (Kp.head s ++ Kp.tens (s.p.take k)) wr ∧ Below w.heap.size w wr ∧ Blk wr w.heap.size 27 #[.slice P s.p.length c1, .slice V s.v.length c2, .slice M s.m.length c3]) (fun _ i _ => s.p.length - (intOf i).toNat)
  case atStart => exact ⟨0, Nat.zero_le _, rfl, HW4.out, hbn4, Hkn4.out⟩
  case round =>
    clear HW4 hbn4 Hkn4 g0
    obtain ⟨k, hk, rfl, hWr, hbel, hkb⟩ := hrel
    have hsz := hbel.size
    by_cases hlt : k < s.p.length
    · obtain ⟨b, off, S, cS, C, dC, rfl, hb, e0, e1, hTR, _, _⟩ := HS.out.1 k hlt
      have e0' := (hbel.cell (p := ⟨b, off + k * 2, none⟩) hb).trans e0
      have e1' := (hbel.cell (p := ⟨b, off + k * 2 + 1, none⟩) hb).trans e1
      have hrl := Tn.right_len (List.all_eq_true.1 HR.out s.p[k] (List.getElem_mem hlt))
      have hnext := Kp.tens_take s.p k hlt
      have hln := Kp.tens_len (Kp.all_take HR.out k)
      rw [List.length_take, Nat.min_eq_left hk] at hln
      have hI1 := hTR.1.stable (B := w.heap.size) (Nat.le_refl _)
      have hI2 := hTR.2.stable (B := w.heap.size) (Nat.le_refl _)
      have Hnext := Lib.hid hnext
      have HI1 := Lib.hid hI1
      have HI2 := Lib.hid hI2
      clear hnext hI1 hI2
      generalize s.p[k] = t at *
      have hW5 := hWr.alloc (.cells #[.slice S t.s.length cS, .slice C t.c.length dC] 48)
      have hk5 := hkb.alloc (.cells #[.slice S t.s.length cS, .slice C t.c.length dC] 48)
      have ht5 := Blk.new wr 48 #[.slice S t.s.length cS, .slice C t.c.length dC]
      have hb5 := hbel.alloc hsz (.cells #[.slice S t.s.length cS, .slice C t.c.length dC] 48)
      have hpl := hWr.lt
      have HW5 := Lib.hid hW5
      have Hk5 := Lib.hid hk5
      have Ht5 := Lib.hid ht5
      clear hW5 hk5 ht5
      clear hTR e0 e1 hWr hkb
      obtain ⟨hr1, hr2, hr3⟩ := hrl
      have hkl := Kp.head_len s
      have Hkl := Lib.hid hkl
      clear hkl
      have hlen1 : (Kp.head s ++ Kp.tens (s.p.take k)).length ≤ 300000000 := by rw [List.length_append, Hkl.out]; omega
      have Hlen1 := Lib.hid hlen1
      clear hlen1
      go_wp2_with fail
      refine (writer_shape w.heap.size p _ S cS t.s _ HW5.out (HI1.out.below hb5) (by omega) (by have := Hlen1.out; omega) (by simp; omega)).mono ?_
      rintro e w6 ⟨rfl, hW6, hb6, hk6⟩
      have ht6 := Ht5.out.keptW hk6 (by omega) (by decide)
      have hkn6 := Hk5.out.keptW hk6 hbp (by decide)
      have hbn6 := hb5.trans hb6
      have hsz6 := hbn6.size
      have f1 := ht6.cell 1
      simp at f1
      have HW6 := Lib.hid hW6
      have Hkn6 := Lib.hid hkn6
      clear hW6 hkn6
      clear HW5 Hk5 Ht5 hk6 hb6 hb5 ht6 e0' e1'
      go_wp2_with fail
      refine (keep_put_fix w.heap.size p _ C dC t.c _ HW6.out (HI2.out.below hbn6).kept (by omega) (by have := Hlen1.out; rw [List.length_append, Fp.shape_length]; omega) (by omega)).mono ?_
      rintro e w7 ⟨rfl, hW7, hb7, hk7⟩
      have hkn7 := Hkn6.out.keptW hk7 hbp (by decide)
      have hbn7 := hbn6.trans hb7
      have HW7 := Lib.hid (show Wr w.heap.size p (Kp.head s ++ Kp.tens (s.p.take (k + 1))) w7 by rw [Hnext.out]; simpa [List.append_assoc] using hW7)
      clear hW7 hk7 hb7 HW6 Hkn6 f1 hbn6
      go_wp2_with fail
      go_roundw
      case rel => exact ⟨k + 1, by omega, by go_num, HW7.out, hbn7, hkn7⟩
      case measure => simp [intOf]; omega
    · obtain rfl : k = s.p.length := by omega
      rw [List.take_length] at hWr
      have g1 := hkb.cell 1
      simp at g1
      have HW8 := Lib.hid (show Wr w.heap.size p (Kp.head s ++ Kp.tens s.p ++ Kp.cells (s.v.take 0)) wr by simpa [Kp.cells] using hWr)
      have Hkb := Lib.hid hkb
      clear hkb
      clear hWr
      go_wp2_with fail
      go_loopw [8, 53] (fun _ i wr => ∃ k : Nat, k ≤ s.v.length ∧ i = .int .i64 k ∧ Wr w.heap.size p (Kp.head s ++ Kp.tens s.p ++ Kp.cells (s.v.take k)) wr ∧ Below w.heap.size w wr ∧ Blk wr w.heap.size 27 #[.slice P s.p.length c1, .slice V s.v.length c2, .slice M s.m.length c3]) (fun _ i _ => s.v.length - (intOf i).toNat)
      case atStart => exact ⟨0, Nat.zero_le _, rfl, HW8.out, hbel, Hkb.out⟩
      case round =>
        clear HW8 hbel Hkb g1 hsz
        have hlp := Kp.tens_len HR.out
        obtain ⟨wo, rfl⟩ : ∃ wo : World, wo = wr := ⟨_, rfl⟩
        obtain ⟨k, hk, rfl, hWr, hbel, hkb⟩ := hrel
        have hsz := hbel.size
        by_cases hlt : k < s.v.length
        · obtain ⟨b, off, S, cS, C, dC, rfl, hb, e0, e1, hTR, _, _⟩ := HS.out.2.1 k hlt
          have e0' := (hbel.cell (p := ⟨b, off + k * 2, none⟩) hb).trans e0
          have e1' := (hbel.cell (p := ⟨b, off + k * 2 + 1, none⟩) hb).trans e1
          have hrl := Tn.right_len (List.all_eq_true.1 HV.out s.v[k] (List.getElem_mem hlt))
          have hnext := Kp.cells_take s.v k hlt
          have hln := Kp.cells_len (Kp.all_take HV.out k)
          rw [List.length_take, Nat.min_eq_left hk] at hln
          have hI2 := hTR.2.stable (B := w.heap.size) (Nat.le_refl _)
          have Hnext := Lib.hid hnext
          have HI2 := Lib.hid hI2
          clear hnext hI2
          generalize s.v[k] = t at *
          have hW5 := hWr.alloc (.cells #[.slice S t.s.length cS, .slice C t.c.length dC] 48)
          have hk5 := hkb.alloc (.cells #[.slice S t.s.length cS, .slice C t.c.length dC] 48)
          have hb5 := hbel.alloc hsz (.cells #[.slice S t.s.length cS, .slice C t.c.length dC] 48)
          have hpl := hWr.lt
          have hsz5 := hb5.size
          have HW5 := Lib.hid hW5
          have Hk5 := Lib.hid hk5
          clear hW5 hk5
          clear hTR e0 e1 hWr hkb
          obtain ⟨hr1, hr2, hr3⟩ := hrl
          have hlen1 : (Kp.head s ++ Kp.tens s.p ++ Kp.cells (s.v.take k)).length ≤ 600000000 := by rw [List.length_append, List.length_append, Kp.head_len]; omega
          have Hlen1 := Lib.hid hlen1
          clear hlen1
          go_wp2_with fail
          refine (keep_put_fix w.heap.size p _ C dC t.c _ HW5.out (HI2.out.below hb5).kept (by omega) (by have := Hlen1.out; omega) hsz5).mono ?_
          rintro e w7 ⟨rfl, hW7, hb7, hk7⟩
          have hkn7 := Hk5.out.keptW hk7 hbp (by decide)
          have hbn7 := hb5.trans hb7
          have HW7 := Lib.hid (show Wr w.heap.size p (Kp.head s ++ Kp.tens s.p ++ Kp.cells (s.v.take (k + 1))) w7 by rw [Hnext.out, ← List.append_assoc]; exact hW7)
          clear hW7 hk7 hb7 HW5 Hk5 hb5
          go_wp2_with fail
          go_roundw
          case rel => exact ⟨k + 1, by omega, by go_num, HW7.out, hbn7, hkn7⟩
          case measure => simp [intOf]; omega
        · obtain rfl : k = s.v.length := by omega
          rw [List.take_length] at hWr
          have g2 := hkb.cell 2
          simp at g2
          have hlv := Kp.cells_len HV.out
          have hlen1 : (Kp.head s ++ Kp.tens s.p ++ Kp.cells s.v).length ≤ 600000000 := by rw [List.length_append, List.length_append, Kp.head_len]; omega
          have hu2 : IntKind.u64.wrap (s.m.length : Int) = s.m.length := IntWalk.u64_in _ (by omega)
          have Hkb := Lib.hid hkb
          have HWr := Lib.hid hWr
          have Hlen1 := Lib.hid hlen1
          clear hkb hWr hlen1
          go_wp2_with fail
          refine (writer_put w.heap.size p _ s.m.length 2 _ HWr.out (by omega) (by omega) (by omega) (by omega) (by have := Hlen1.out; omega) hsz).mono ?_
          rintro e w4 ⟨rfl, hW4, hb4, hk4⟩
          have hkn4 := Hkb.out.keptW hk4 hbp (by decide)
          have hbn4 := hbel.trans hb4
          have HW4 := Lib.hid (show Wr w.heap.size p (Kp.head s ++ Kp.tens s.p ++ Kp.cells s.v ++ Fp.big s.m.length 2 ++ Kp.mets (s.m.take 0)) w4 by simpa [Kp.mets] using hW4)
          clear HWr Hkb hk4 hb4 hbel g2 hW4
          have g2 := hkn4.cell 2
          simp at g2
          have Hkn4 := Lib.hid hkn4
          clear hkn4
          go_wp2_with fail
          go_loopw [10, 70] (fun _ i wr => ∃ k : Nat, k ≤ s.m.length ∧ i = .int .i64 k ∧ Wr w.heap.size p (Kp.head s ++ Kp.tens s.p ++ Kp.cells s.v ++ Fp.big s.m.length 2 ++ Kp.mets (s.m.take k)) wr ∧ Below w.heap.size w wr) (fun _ i _ => s.m.length - (intOf i).toNat)
          case atStart => exact ⟨0, Nat.zero_le _, rfl, HW4.out, hbn4⟩
          case round =>
            clear HW4 hbn4 Hkn4 g2 hsz
            obtain ⟨wo, rfl⟩ : ∃ wo : World, wo = wr := ⟨_, rfl⟩
            obtain ⟨k, hk, rfl, hWr, hbel⟩ := hrel
            have hsz := hbel.size
            by_cases hlt : k < s.m.length
            · obtain ⟨b, off, rfl, hb, e0, e1, e2, e3, e4, e5⟩ := HS.out.2.2.below hbel (Nat.le_refl _) k hlt
              have hnext := Kp.mets_take s.m k hlt
              have hln := Kp.mets_len (s.m.take k)
              rw [List.length_take, Nat.min_eq_left hk] at hln
              have Hnext := Lib.hid hnext
              clear hnext
              generalize s.m[k] = x at *
              have hlen2 : (Kp.head s ++ Kp.tens s.p ++ Kp.cells s.v ++ Fp.big s.m.length 2 ++ Kp.mets (s.m.take k)).length ≤ 700000000 := by have h1 := Hlen1.out; simp only [List.length_append, Fp.big_length] at h1 ⊢; omega
              have hpl := hWr.lt
              have hW5 := (hWr.alloc (.cells #[.int .i64 x.a, .int .i64 x.b, .int .i64 x.c, .int .i64 x.d, .int .i64 x.e, .int .i64 x.f] 54)).alloc (.cells #[.int .i64 x.a, .int .i64 x.b, .int .i64 x.c, .int .i64 x.d] 3)
              have hb5 := (hbel.alloc hsz (.cells #[.int .i64 x.a, .int .i64 x.b, .int .i64 x.c, .int .i64 x.d, .int .i64 x.e, .int .i64 x.f] 54)).alloc (by simp; omega) (.cells #[.int .i64 x.a, .int .i64 x.b, .int .i64 x.c, .int .i64 x.d] 3)
              have hq5 := (Blk.new wo 54 #[.int .i64 x.a, .int .i64 x.b, .int .i64 x.c, .int .i64 x.d, .int .i64 x.e, .int .i64 x.f]).alloc (.cells #[.int .i64 x.a, .int .i64 x.b, .int .i64 x.c, .int .i64 x.d] 3)
              have hr5 := Blk.new (wo.alloc (.cells #[.int .i64 x.a, .int .i64 x.b, .int .i64 x.c, .int .i64 x.d, .int .i64 x.e, .int .i64 x.f] 54)) 3 #[.int .i64 x.a, .int .i64 x.b, .int .i64 x.c, .int .i64 x.d]
              rw [World.size_alloc] at hr5
              have hsz5 := hb5.size
              have Hln := Lib.hid hln
              have HW5 := Lib.hid hW5
              have Hq5 := Lib.hid hq5
              have Hr5 := Lib.hid hr5
              have Hlen2 := Lib.hid hlen2
              clear hln hW5 hq5 hr5 hlen2
              clear hWr
              go_wp2_with fail
              refine (keep_put_int w.heap.size p _ (some ⟨wo.heap.size + 1, 0, none⟩) 4 [x.a, x.b, x.c, x.d] _ HW5.out (IntsK.of_blk Hr5.out (by omega) (by decide)) (by simp) (by have := Hlen2.out; omega) hsz5).mono ?_
              rintro e w6 ⟨rfl, hW6, hb6, hk6⟩
              have hq6 := Hq5.out.keptW hk6 (by omega) (by decide)
              have hbn6 := hb5.trans hb6
              have hsz6 := hbn6.size
              have d4 := hq6.cell 4
              have d5 := hq6.cell 5
              simp at d4 d5
              have hW7 := hW6.alloc (.cells #[.int .i64 x.e, .int .i64 x.f] 52)
              have hb7 := hbn6.alloc hsz6 (.cells #[.int .i64 x.e, .int .i64 x.f] 52)
              have hr7 := Blk.new w6 52 #[.int .i64 x.e, .int .i64 x.f]
              have hpl6 := hW6.lt
              have hsz7 := hb7.size
              have HW7 := Lib.hid hW7
              have Hr7 := Lib.hid hr7
              clear hW7 hr7
              clear hW6 hk6 hb6 HW5 Hq5 Hr5 hb5 hq6
              go_wp2_with fail
              refine (keep_put_fix w.heap.size p _ (some ⟨w6.heap.size, 0, none⟩) 2 [x.e, x.f] _ HW7.out (IntsK.of_blk Hr7.out (by omega) (by decide)) (by simp) (by have h1 := Hlen2.out; rw [List.length_append, Fp.words_length]; simp only [List.length_cons, List.length_nil]; omega) hsz7).mono ?_
              rintro e w8 ⟨rfl, hW8, hb8, hk8⟩
              have hbn8 := hb7.trans hb8
              have HW9 := Lib.hid (show Wr w.heap.size p (Kp.head s ++ Kp.tens s.p ++ Kp.cells s.v ++ Fp.big s.m.length 2 ++ Kp.mets (s.m.take (k + 1))) w8 by rw [Hnext.out, ← List.append_assoc, ← List.append_assoc]; exact hW8)
              clear hW8 hk8 hb8 HW7 Hr7 hb7 d4 d5 e0 e1 e2 e3 e4 e5
              go_wp2_with fail
              go_roundw
              case rel => exact ⟨k + 1, by omega, by go_num, HW9.out, hbn8⟩
              case measure => simp [intOf]; omega
            · obtain rfl : k = s.m.length := by omega
              rw [List.take_length] at hWr
              have hlm := Kp.mets_len s.m
              have hlen2 : (Kp.body s).length ≤ 800000000 := by have h1 := Hlen1.out; unfold Kp.body; simp only [List.length_append, Fp.big_length] at h1 ⊢; omega
              have hWb : Wr w.heap.size p (Kp.body s) wo := hWr
              have HWb := Lib.hid hWb
              have Hlm := Lib.hid hlm
              clear hWb hlm
              clear hWr
              go_wp2_with fail
              refine (writer_seal w.heap.size p (Kp.body s) _ HWb.out (by omega) (Kp.body_byte s)).mono ?_
              rintro e w9 ⟨A9, c9, rfl, hI9, hc9, hb9⟩
              have hbn9 := hbel.trans (hb9.mono hsz)
              have HL9 := Lib.hid (show (Kp.enc s).length = (Kp.body s).length + 4 by unfold Kp.enc; rw [List.length_append, Fp.big_length])
              have HI9 := Lib.hid hI9
              clear hI9
              clear hb9
              go_wp2_with fail
              go_ret2
              exact ⟨.inr ⟨HE.out, A9, c9, by rw [HL9.out]; rfl, HI9.out, by rw [HL9.out]; exact hc9⟩, hbn9⟩

def Kp.size (s : Sav) : Nat := if Kp.err s = 0 then (Kp.enc s).length else 0
set_option maxHeartbeats 1000000 in
theorem keep_size (P V M : Option Addr) (c1 c2 c3 : Nat) (s : Sav) (w : World) (hp : s.p.length ≤ 9223372036854775807) (hv : s.v.length ≤ 9223372036854775807) (hm : s.m.length ≤ 9223372036854775807) (hS : SavR w P V M s) :
    Calls Try.prog 11 #[.agg #[.slice P s.p.length c1, .slice V s.v.length c2, .slice M s.m.length c3]] w fun e w' => e = .returned (.int .i64 (Kp.size s)) ∧ Below w.heap.size w w' := by
  have hb0 : Below w.heap.size w (w.alloc (.cells #[.slice P s.p.length c1, .slice V s.v.length c2, .slice M s.m.length c3] 27)) := (Below.refl _ _).alloc (Nat.le_refl _) _
  have HS := Lib.hid hS
  clear hS
  go_enter Try.func11, Try.ntmps11
  go_wp2_with fail
  refine (keep_encode P V M c1 c2 c3 s _ hp hv hm (HS.out.below hb0 (Nat.le_refl _))).mono ?_
  rintro e w1 ⟨⟨he, rfl⟩ | ⟨he, A, c, rfl, hI, hc⟩, h1⟩
  · have hb1 := hb0.trans (h1.mono hb0.size)
    have hne : (Kp.err s != 0) = true := by simp [he]
    have HZ := Lib.hid (show Kp.size s = 0 by simp [Kp.size, he])
    clear he h1 hb0
    go_wp2_with fail
    go_ret
    exact ⟨by rw [HZ.out]; rfl, hb1⟩
  · have hb1 := hb0.trans (h1.mono hb0.size)
    have HZ := Lib.hid (show Kp.size s = (Kp.enc s).length by simp [Kp.size, he])
    clear he h1 hb0 hI hc
    go_wp2_with fail
    go_ret
    exact ⟨by rw [HZ.out]; rfl, hb1⟩
end Go.Proofs.Ytjgagbhbgehmpaa
