/- The statement Rows.FileRowsSaid is proved: for every input the law 'athanorlaw12.FileRows' returns true, and each argument reads afterwards as it read before. Conditions: those of the row, no others. -/
import Derived.Below
import Derived.ChangeOld
import Derived.Deep.DeepCutAuto
import Derived.Deep.RegionHeld3
import Derived.OpenShut
import Derived.ProofKit
import Derived.ShutString
import Derived.WalkKit
import Derived.Test.YtnofeebcmmmlhaaRows
import Derived.Test.YtnofeebcmmmlhaaZ09
set_option linter.unusedVariables false
/- The walk of the law FileRows. -/
namespace Go.Proofs.Ytnofeebcmmmlhaa
open Go.RowKit
/-- Midway through the writing. -/
def RowsW (B p : Nat) (w : World) (os : List FOp) (k : Nat) (t : ByteArray) (wr : World) : Prop :=
  Wr B p (Fo.sp ++ Fo.all (os.take k)) wr ∧ Below B w wr ∧ t = strOfNums (Fo.sp ++ Fo.all (os.take k)) ∧ ∀ o ∈ os.take k, Fo.bad o = false
theorem RowsW.len {B p : Nat} {w : World} {os : List FOp} {k : Nat} {t : ByteArray} {wr : World} (h : RowsW B p w os k t wr) (hk : k ≤ 60) : (Fo.sp ++ Fo.all (os.take k)).length ≤ 3000 := by
  have := Fo.all_len h.2.2.2
  rw [List.length_take] at this
  rw [List.length_append, show Fo.sp.length = 4 from rfl]
  have : (min k os.length) * 41 ≤ 60 * 41 := Nat.mul_le_mul_right _ (by omega)
  omega
theorem RowsW.next {B p : Nat} {w : World} {os : List FOp} {k : Nat} {t t' : ByteArray} {wr w' : World} (h : RowsW B p w os k t wr) (hk : k < os.length) (hb : Fo.bad os[k] = false) (h1 : Wr B p (Fo.sp ++ Fo.all (os.take k) ++ Fo.bytes os[k]) w') (h2 : Below B wr w') (ht : t' = t ++ strOfNums (Fo.bytes os[k])) : RowsW B p w os (k + 1) t' w' := by
  obtain ⟨q1, q2, q3, q4⟩ := h
  refine ⟨?_, q2.trans h2, ?_, ?_⟩
  · rw [Fo.all_take _ _ hk, ← List.append_assoc]; exact h1
  · rw [Fo.all_take _ _ hk, ← List.append_assoc, strOfNums_append, ← q3, ht]
  · intro o ho
    rw [List.take_succ_eq_append_getElem hk] at ho
    rcases List.mem_append.1 ho with h | h
    · exact q4 o h
    · simp at h; subst h; exact hb
theorem RowsW.same {B p : Nat} {w : World} {os : List FOp} {k : Nat} {t : ByteArray} {wr w' : World} (h : RowsW B p w os k t wr) (hk : k < os.length) (hb : Fo.bad os[k] = false) (he : Fo.bytes os[k] = []) (h1 : Wr B p (Fo.sp ++ Fo.all (os.take k)) w') (h2 : Below B wr w') : RowsW B p w os (k + 1) t w' :=
  h.next hk hb (by rw [he, List.append_nil]; exact h1) h2 (by rw [he]; apply ByteArray.ext; simp [strOfNums])
theorem Wr.later {B p : Nat} {bs : List Int} {w w' : World} (h : Wr B p bs w) (hb : Below w.heap.size w w') : Wr B p bs w' := by
  obtain ⟨q1, v, q2, q3⟩ := h
  exact ⟨q1, v, (hb.block p (lt_of_block q2)).trans q2, own_heap q3 fun g hg => hb.block g (q3.lt g hg).2⟩
theorem RdO.later {r : Nat} {st : Option (List Int)} {w w' : World} (h : RdO r st w) (hb : Below w.heap.size w w') : RdO r st w' :=
  h.fr2 (S := fun b => w.heap.size ≤ b) (Fr.of_below hb (fun b hb _ => hb)) (fun b hb => Nat.lt_of_lt_of_le h.lt hb)
/-- Midway through the reading: the reader, the box of the call. -/
def RowsR (r bx : Nat) (cs : Array Value) (w : World) (st : Option (List Int)) (W : World) : Prop := RdO r st W ∧ Blk W bx 47 cs ∧ Below w.heap.size w W
theorem RowsR.later {r bx : Nat} {cs : Array Value} {w W W' : World} {st : Option (List Int)} (h : RowsR r bx cs w st W) (hb : Below W.heap.size W W') : RowsR r bx cs w st W' :=
  ⟨h.1.later hb, h.2.1.below hb h.2.1.lt, h.2.2.trans (hb.mono h.2.2.size)⟩
theorem RowsR.get {r bx : Nat} {cs : Array Value} {w W W' : World} {st st' : Option (List Int)} (h : RowsR r bx cs w st W) (hr : RdO r st' W') (hg : W.grownBy W' (some r)) (h1 : r < bx) (h2 : w.heap.size ≤ r) : RowsR r bx cs w st' W' :=
  ⟨hr, h.2.1.grown hg (by intro e; injection e with e; omega), h.2.2.grown hg h.2.2.size (by intro k e; injection e with e; omega)⟩
theorem fo_cells {W : World} {bx : Nat} {a b c d : Value} (h : Blk W bx 47 #[a, b, c, d]) : W.cell? ⟨bx, 0, none⟩ = some a ∧ W.cell? ⟨bx, 1, none⟩ = some b ∧ W.cell? ⟨bx, 2, none⟩ = some c ∧ W.cell? ⟨bx, 3, none⟩ = some d :=
  ⟨h.cell 0, h.cell 1, h.cell 2, h.cell 3⟩
set_option maxHeartbeats 8000000 in
set_option maxRecDepth 100000 in
theorem fileRows_few (w : World) (A : Option Addr) (C : Nat) (os : List FOp) (hl : os.length ≤ 60) (hO : FOps w A os) (hw : ∀ o ∈ os, o.ok) :
    Calls Try.prog 5 #[.slice A os.length C] w fun e w' => e = .returned (.bool true) ∧ Below w.heap.size w w' := by
  have q1 : decide ((60 : Int) < os.length) = false := by simp; omega
  have hW0 := Wr.new w.heap.size w (Nat.le_refl _)
  have hb0 : Below w.heap.size w (w.alloc (.cells #[.slice none 0 0] 44)) := (Below.refl _ _).alloc (Nat.le_refl _) _
  have HO := Lib.hid hO
  have Hw := Lib.hid hw
  have HW0 := Lib.hid hW0
  clear hO hw hW0
  go_enter Try.func5, Try.ntmps5
  go_wp2_with fail
  refine (writer_put w.heap.size w.heap.size [] 538976288 4 _ HW0.out (by omega) (by omega) (by omega) (by omega) (by simp) (by simp)).mono ?_
  rintro e w1 ⟨rfl, hW1, hb1, -⟩
  have HR1 := Lib.hid (show RowsW w.heap.size w.heap.size w os 0 ⟨#[32, 32, 32, 32]⟩ w1 from ⟨by simpa [Fo.all, Fo.sp] using hW1, hb0.trans hb1, by simp [Fo.all]; decide +kernel, by simp⟩)
  have hs1 := hb1.size
  rw [World.size_alloc] at hs1
  clear HW0 hb0 hW1 hb1 q1
  go_wp2_with fail
  go_loopw [4, 6, 22] (fun s _ i wr => ∃ (k : Nat) (t : ByteArray), k ≤ os.length ∧ i = .int .i64 (k : Int) ∧ s = .string t ∧ t.size ≤ 3000 ∧ w.heap.size + 1 ≤ wr.heap.size ∧ RowsW w.heap.size w.heap.size w os k t wr) (fun _ _ i _ => os.length - (intOf i).toNat)
  case atStart => exact ⟨0, _, Nat.zero_le _, rfl, rfl, by decide, hs1, HR1.out⟩
  case round =>
    clear HR1 hs1
    obtain ⟨k, t, hk, rfl, rfl, hts, hsz, hR⟩ := hrel
    have hlen := hR.len (by omega)
    by_cases hlt : k < os.length
    · obtain ⟨b, off, S, c, rfl, hbl, c0, c1, c2, c3, hI⟩ := HO.out k hlt
      have hok := Hw.out _ (List.getElem_mem hlt)
      have HN := Lib.hid (fun t' w' hb h1 h2 ht => hR.next (t' := t') (w' := w') hlt hb h1 h2 ht)
      have HSm := Lib.hid (fun w' hb he h1 h2 => hR.same (w' := w') hlt hb he h1 h2)
      have HZ := Lib.hid (fun t' w' (h : RowsW w.heap.size w.heap.size w os (k + 1) t' w') => show t'.size ≤ 3000 by rw [h.2.2.1, strOfNums_size]; exact h.len (by omega))
      have hbw := hR.2.1
      have d0 := (hbw.cell (p := ⟨b, off + k * 4, none⟩) hbl).trans c0
      have d1 := (hbw.cell (p := ⟨b, off + k * 4 + 1, none⟩) hbl).trans c1
      have d2 := (hbw.cell (p := ⟨b, off + k * 4 + 2, none⟩) hbl).trans c2
      have d3 := (hbw.cell (p := ⟨b, off + k * 4 + 3, none⟩) hbl).trans c3
      clear c0 c1 c2 c3
      generalize os[k] = o at *
      obtain ⟨kd, sz, nn, ll⟩ := o
      obtain ⟨hok1, hok2, hok3, hok4⟩ := hok
      simp only at d0 d1 d2 d3 hI hok1 hok2 hok3 hok4
      have hWb := hR.1.alloc (.cells #[.int .i64 kd, .int .i64 sz, .int .u64 nn, .slice S ll.length c] 47)
      have hkb := Blk.new wr 47 #[.int .i64 kd, .int .i64 sz, .int .u64 nn, .slice S ll.length c]
      have hbb : Below w.heap.size wr (wr.alloc (.cells #[.int .i64 kd, .int .i64 sz, .int .u64 nn, .slice S ll.length c] 47)) := (Below.refl _ _).alloc (by omega) _
      have hIs := (hI.stable (B := w.heap.size) (Nat.le_refl _)).below (hbw.trans hbb)
      have hIb := hI.below (hbw.trans hbb) (Nat.le_refl _)
      have hpw : wr.heap.size ≠ w.heap.size := by omega
      have hszb : w.heap.size + 1 ≤ (wr.alloc (.cells #[.int .i64 kd, .int .i64 sz, .int .u64 nn, .slice S ll.length c] 47)).heap.size := by simp; omega
      have HWb := Lib.hid hWb
      have Hkb := Lib.hid hkb
      have HIb := Lib.hid hIb
      have HIs := Lib.hid hIs
      have Hlen := Lib.hid hlen
      have HI := Lib.hid hI
      clear hWb hkb hIb hIs hlen hI
      clear hR
      by_cases h1 : kd = 1
      · subst h1
        have hbad : Fo.bad ⟨1, sz, nn, ll⟩ = false := by simp [Fo.bad]
        have HP := Lib.hid (Fo.bytes_put (o := ⟨1, sz, nn, ll⟩) rfl)
        have HQ := Lib.hid (Fo.bytes_no (o := ⟨1, sz, nn, ll⟩) rfl)
        by_cases hs : 1 ≤ sz ∧ sz ≤ 8
        · obtain ⟨s, rfl⟩ := Int.eq_ofNat_of_zero_le (show 0 ≤ sz by omega)
          have hHP := HP.out hs
          simp only [Int.toNat_natCast] at hHP
          have s1 : decide ((1 : Int) ≤ s) = true := by simp; omega
          have s2 : decide ((s : Int) ≤ 8) = true := by simp; omega
          have s3 : 1 ≤ s := by omega
          have s4 : s ≤ 8 := by omega
          have HHP := Lib.hid hHP
          clear hHP
          clear HP HQ HSm hs
          go_wp2_with fail
          generalize wr.alloc (.cells #[.int .i64 1, .int .i64 s, .int .u64 nn, .slice S ll.length c] 47) = w4 at *
          refine (writer_put w.heap.size w.heap.size _ nn s _ HWb.out s3 s4 hok3.1 hok3.2 (by have := Hlen.out; omega) (by omega)).mono ?_
          rintro e w5 ⟨rfl, hW5, hb5, hk5⟩
          have hkb5 := Hkb.out.keptW hk5 hpw (by decide)
          have hbb5 := hbb.trans hb5
          have hsz5 := hb5.size
          obtain ⟨x0, x1, x2, x3⟩ := fo_cells hkb5
          have HW5 := Lib.hid hW5
          have Hkb5 := Lib.hid hkb5
          clear hW5 hkb5
          clear hb5 hk5 Hkb HWb d0 d1 d2 d3 hbb
          go_wp2_with fail
          refine (ref_big nn s _ hok3.1 hok3.2 s4).mono ?_
          rintro e w6 ⟨rfl, h6⟩
          have hX : (strOfNums (Fp.big nn s)).size ≤ 8 := str_size_le (by rw [Fp.big_length]; exact s4)
          have HN2 := Lib.hid (HN.out (t ++ strOfNums (Fp.big nn s)) w6 hbad (by rw [HHP.out]; exact HW5.out.later h6) (hbb5.trans (h6.mono (by omega))) (by rw [HHP.out]))
          have hZ2 := HZ.out _ _ HN2.out
          have hsz6 := h6.size
          have HZ2 := Lib.hid hZ2
          clear hZ2
          clear h6 HN HZ hbb5 x0 x1 x2 x3 HW5 Hkb5 HHP
          generalize strOfNums (Fp.big nn s) = X at *
          go_wp2_with fail
          go_roundw
          case rel => exact ⟨k + 1, _, by omega, by go_num, rfl, HZ2.out, by omega, HN2.out⟩
          case measure => simp [intOf]; omega
        · have hHQ := HQ.out hs
          have hsi : sz < 1 ∨ 8 < sz := by omega
          have HN2 := Lib.hid (HSm.out (wr.alloc (.cells #[.int .i64 1, .int .i64 sz, .int .u64 nn, .slice S ll.length c] 47)) hbad hHQ HWb.out hbb)
          have hZ2 := HZ.out _ _ HN2.out
          by_cases hs1 : 1 ≤ sz
          case' pos =>
            have s1 : decide ((1 : Int) ≤ sz) = true := by simp; omega
            have s2 : decide ((sz : Int) ≤ 8) = false := by simp; omega
          case' neg =>
            have s1 : decide ((1 : Int) ≤ sz) = false := by simp; omega
          all_goals
            clear hs1 hs HP HQ HSm HN HZ hHQ
            go_wp2_with fail
            obtain ⟨x0, x1, x2, x3⟩ := fo_cells Hkb.out
            generalize wr.alloc (.cells #[.int .i64 1, .int .i64 sz, .int .u64 nn, .slice S ll.length c] 47) = w4 at *
            refine (writer_put_no w.heap.size nn sz _ hsi).mono ?_
            rintro e w5 ⟨rfl, rfl⟩
            clear d0 d1 d2 d3
            go_wp2_with fail
            go_roundw
            case rel => exact ⟨k + 1, _, by omega, by go_num, rfl, hZ2, by omega, HN2.out⟩
            case measure => simp [intOf]; omega
      · have r1 : (kd == 1) = false := by simp [h1]
        by_cases h2 : kd = 2
        · subst h2
          clear r1 h1
          have HP := Lib.hid (Fo.bytes_shape (o := ⟨2, sz, nn, ll⟩) rfl)
          obtain ⟨x0, x1, x2, x3⟩ := fo_cells Hkb.out
          have hgd : Fo.bad ⟨2, sz, nn, ll⟩ = !Fo.good ll := by simp [Fo.bad]
          cases hgood : Fo.good ll with
          | false =>
            clear HP HN HSm HZ
            go_wp2_with fail
            clear d0 d1 d2 d3
            generalize wr.alloc (.cells #[.int .i64 2, .int .i64 sz, .int .u64 nn, .slice S ll.length c] 47) = w4 at *
            refine (law12_sides S c ll _ hok4 HIb.out).mono ?_
            rintro e w5 ⟨rfl, rfl⟩
            rw [hgood]
            have hbx := hbw.trans hbb
            clear x0 x1 x2 x3 hgd hgood
            go_wp2_with fail
            refine (awake12 _).mono ?_
            rintro e w6 ⟨rfl, h6⟩
            have hb6 := hbx.trans (h6.mono hbx.size)
            go_wp2_with fail
            go_ret
            exact ⟨rfl, hb6⟩
          | true =>
            rw [hgood] at hgd
            obtain ⟨g1, g2⟩ := Fo.good_iff hgood
            go_wp2_with fail
            clear d0 d1 d2 d3
            generalize wr.alloc (.cells #[.int .i64 2, .int .i64 sz, .int .u64 nn, .slice S ll.length c] 47) = w4 at *
            refine (law12_sides S c ll _ hok4 HIb.out).mono ?_
            rintro e w5 ⟨rfl, rfl⟩
            rw [hgood]
            clear hgood
            go_wp2_with fail
            refine (writer_shape w.heap.size w.heap.size _ S c ll _ HWb.out HIs.out (by omega) (by have := Hlen.out; omega) (by omega)).mono ?_
            rintro e w5 ⟨rfl, hW5, hb5, hk5⟩
            have hkb5 := Hkb.out.keptW hk5 hpw (by decide)
            have hbb5 := hbb.trans hb5
            have hsz5 := hb5.size
            clear x0 x1 x2 x3
            obtain ⟨x0, x1, x2, x3⟩ := fo_cells hkb5
            have hI5 := HI.out.below (hbw.trans hbb5) (Nat.le_refl _)
            have HW5 := Lib.hid hW5
            have Hkb5 := Lib.hid hkb5
            have HI5 := Lib.hid hI5
            clear hW5 hkb5 hI5
            clear hb5 hk5 Hkb HWb hbb
            go_wp2_with fail
            refine (ref_shape S c ll _ (by omega) HI5.out).mono ?_
            rintro e w6 ⟨rfl, h6⟩
            have hX : (strOfNums (Fp.shape ll)).size ≤ 50 := str_size_le (by rw [Fp.shape_length]; omega)
            have HN2 := Lib.hid (HN.out (t ++ strOfNums (Fp.shape ll)) w6 (by simpa using hgd) (by rw [HP.out]; exact HW5.out.later h6) (hbb5.trans (h6.mono (by omega))) (by rw [HP.out]))
            have hZ2 := HZ.out _ _ HN2.out
            have hsz6 := h6.size
            have HZ2 := Lib.hid hZ2
            clear hZ2
            clear h6 HN HZ hbb5 x0 x1 x2 x3 HW5 Hkb5 HP HSm hgd g2
            generalize strOfNums (Fp.shape ll) = X at *
            go_wp2_with fail
            go_roundw
            case rel => exact ⟨k + 1, _, by omega, by go_num, rfl, HZ2.out, by omega, HN2.out⟩
            case measure => simp [intOf]; omega
        · have r2 : (kd == 2) = false := by simp [h2]
          have HN2 := Lib.hid (HSm.out (wr.alloc (.cells #[.int .i64 kd, .int .i64 sz, .int .u64 nn, .slice S ll.length c] 47)) (by simp [Fo.bad, h2]) (Fo.bytes_none h1 h2) HWb.out hbb)
          have hZ2 := HZ.out _ _ HN2.out
          clear h1 h2 HN HSm HZ
          go_wp2_with fail
          go_roundw
          case rel => exact ⟨k + 1, _, by omega, by go_num, rfl, hZ2, hszb, HN2.out⟩
          case measure => simp [intOf]; omega
    · obtain rfl : k = os.length := by omega
      rw [List.take_length] at hlen
      obtain ⟨hWr, hbw, ht, hgood⟩ := hR
      rw [List.take_length] at hWr ht hgood
      have hDb : ∀ y ∈ Fo.sp ++ Fo.all os, 0 ≤ y ∧ y ≤ 255 := fun y hy => by
        rcases List.mem_append.1 hy with h | h
        · exact Fo.sp_byte y h
        · exact Fo.all_byte os y h
      have hget : ∀ r W, RdO r (some (Fo.sp ++ Fo.all os)) W → Calls Try.prog 20 #[.pointer (some ⟨r, 0, none⟩), .int .i64 4] W fun e w' => e = .returned (.int .u64 538976288) ∧ RdO r (some (Fo.all os)) w' ∧ W.grownBy w' (some r) := fun r W h => by
        have := reader_getO r 4 _ W h (by omega) (by omega)
        unfold GetO at this
        rw [Fo.sp, Fq.get_big] at this
        exact this
      have hso := Fn.open_seal (b := Fo.sp ++ Fo.all os) (by rw [List.length_append, show Fo.sp.length = 4 from rfl]; omega)
      have hbig := fun W => text_big (Fo.sp ++ Fo.all os) W
      have hsum := fun W => text_sum hDb (by omega) W
      have hcat := strOfNums_append (Fo.sp ++ Fo.all os) (Fp.big (Fp.sum (Fo.sp ++ Fo.all os)) 4)
      have hsl := seal_len (Fo.sp ++ Fo.all os)
      have hsb := seal_byte hDb
      have hYz : (strOfNums (Fp.big (Fp.sum (Fo.sp ++ Fo.all os)) 4)).size ≤ 4 := str_size_le (by rw [Fp.big_length]; omega)
      rw [← ht] at hsum hcat
      obtain ⟨hso1, hso2⟩ := hso
      generalize hD : Fo.sp ++ Fo.all os = D at *
      generalize hsm : Fp.sum D = sm at *
      generalize hSD : D ++ Fp.big sm 4 = SD at *
      generalize strOfNums (Fp.big sm 4) = Y at *
      have HWr := Lib.hid hWr
      have HDb := Lib.hid hDb
      have Hget := Lib.hid hget
      have Hgood := Lib.hid hgood
      have Hbig := Lib.hid hbig
      have Hsum := Lib.hid hsum
      have Hso1 := Lib.hid hso1
      have Hso2 := Lib.hid hso2
      have Hsb := Lib.hid hsb
      have Hcat := Lib.hid hcat
      have Hsm := Lib.hid hsm
      have HSD := Lib.hid hSD
      clear hWr hDb hget hgood hbig hsum hso1 hso2 hsb hcat hsm hSD
      clear ht hD
      go_wp2_with fail
      refine (writer_seal w.heap.size w.heap.size D _ HWr.out (by omega) HDb.out).mono ?_
      rintro e w2 ⟨A2, c2, rfl, hI2, hc2, h2⟩
      rw [Hsm.out, HSD.out] at hI2
      have hb2 := hbw.trans (h2.mono (by omega))
      have hnr := new_reader A2 c2 SD w2 hI2 (by omega) (by omega) Hsb.out
      rw [hsl] at hnr
      have hs2 := h2.size
      have HI2 := Lib.hid hI2
      have Hnr := Lib.hid hnr
      clear hI2 hnr
      have HSL := Lib.hid hsl
      clear h2 Hsm HSD HWr hsl hbw
      go_wp2_with fail
      refine Hnr.out.mono ?_
      rintro e w3 ⟨hcase, h3⟩
      rcases hcase with ⟨he, _⟩ | ⟨_, r, rfl, hr2, hRd⟩
      · exact absurd Hso1.out he
      rw [Hso2.out] at hRd
      have hRo : RdO r (some D) w3 := ⟨hRd, HDb.out, by omega⟩
      have hb3 := hb2.trans (h3.mono (by omega))
      have hs3 := h3.size
      have hI3 := HI2.out.below h3 (Nat.le_refl _)
      have hcv : ∀ W, Ints .u8 W A2 SD → (convert 22 9 (.slice A2 (D.length + 4) c2)).run Try.prog W = .ok (.string (strOfNums SD)) W := fun W h => by
        have a := run_string_of c2 22 5 9 Try.underlying22 Try.underlying5 Try.underlying9 h
        rwa [HSL.out] at a
      have hA2 : ∀ a, A2 = some a → a.block ≠ r := fun a e h => by
        obtain ⟨b', off', e', hb', _⟩ := HI2.out 0 (by rw [HSL.out]; omega)
        rw [e] at e'
        injection e' with e'
        subst e'
        simp at h
        omega
      have hS1 : ∀ W, Later w3 W → (convert 22 9 (.slice A2 (D.length + 4) c2)).run Try.prog W = .ok (.string (strOfNums SD)) W := fun W h => hcv W (hI3.below h (Nat.le_refl _))
      have hS2 : ∀ W W', Later w3 W → W.grownBy W' (some r) → (convert 22 9 (.slice A2 (D.length + 4) c2)).run Try.prog W' = .ok (.string (strOfNums SD)) W' := fun W W' h hg => hcv W' ((Fr.of_grown (S := fun b => b = r) hg (fun k e _ => by injection e with e; exact e.symm)).ints (hI3.below h (Nat.le_refl _)) hA2)
      have heq : ((strOfNums SD).toList == (t ++ Y).toList) = true := by rw [Hcat.out]; simp
      have hcs : ¬ 9223372036854775807 < t.size + Y.size := by omega
      have hld : Later w3 w3.drew := (Later.refl _).drew
      have a0 := hS1 _ hld
      clear Hcat Hnr h3 hRd Hso1 Hso2 HI2 hI3 hcv hA2 Hsb HDb HSL
      have HS1 := Lib.hid hS1
      have HS2 := Lib.hid hS2
      have HRo := Lib.hid hRo
      clear hS1 hS2 hRo
      generalize strOfNums SD = TD at *
      go_wp2_with fail
      go_region_held3 (fun W => (convert 22 9 (.slice A2 (D.length + 4) c2)).run Try.prog W = .ok (.string TD) W) (first | exact HS1.out _ hld | exact HS1.out _ hlb | exact HS2.out _ _ hlb hgg | fail)
        (first
          | (go_at_call 10; refine (Hsum.out _).mono ?_; rintro e wz ⟨rfl, rfl⟩)
          | (go_at_call 9; refine (Hbig.out _).mono ?_; rintro e wb ⟨rfl, hb⟩; have hlb := hld.call hb)
          | (go_at_call 20; refine (Hget.out r _ (HRo.out.later hlb)).mono ?_; rintro e wg ⟨rfl, hRg, hgg⟩)
          | fail)
      have hbg := (hb3.trans (Below.mono hlb (by omega))).grown hgg (by have := Below.size hlb; omega) (by intro k e; injection e with e; omega)
      have HRg := Lib.hid hRg
      clear hRg
      clear a0 heq hcs HS1 HS2 hgg hld Hget Hbig Hsum HRo
      have hrg := HRg.out.lt
      have hrw : w.heap.size ≤ r := by have := hb3.size; omega
      go_wp2_with fail
      go_loopw [11, 98] (fun _ i wr => ∃ k : Nat, k ≤ os.length ∧ i = .int .i64 (k : Int) ∧ RdO r (some (Fo.all (os.drop k))) wr ∧ Below w.heap.size w wr) (fun _ i _ => os.length - (intOf i).toNat)
      case atStart => exact ⟨0, Nat.zero_le _, rfl, by simpa using HRg.out, hbg⟩
      case round =>
        clear HRg hbg hb3 hs3 hb2 hs2 hlb hsz hk hlt hrg
        obtain ⟨wo, rfl⟩ : ∃ wo : World, wo = wr := ⟨wr, rfl⟩
        obtain ⟨k, hk, rfl, hR, hbw⟩ := hrel
        have hrl := hR.lt
        by_cases hlt : k < os.length
        · obtain ⟨b, off, S, c, rfl, hbl, c0, c1, c2', c3, hI⟩ := HO.out k hlt
          have hok := Hw.out _ (List.getElem_mem hlt)
          have hbad := Hgood.out _ (List.getElem_mem hlt)
          rw [Fo.all_drop os k hlt] at hR
          have d0 := (hbw.cell (p := ⟨b, off + k * 4, none⟩) hbl).trans c0
          have d1 := (hbw.cell (p := ⟨b, off + k * 4 + 1, none⟩) hbl).trans c1
          have d2 := (hbw.cell (p := ⟨b, off + k * 4 + 2, none⟩) hbl).trans c2'
          have d3 := (hbw.cell (p := ⟨b, off + k * 4 + 3, none⟩) hbl).trans c3
          clear c0 c1 c2' c3
          generalize os[k] = o at *
          obtain ⟨R, hRR⟩ : ∃ R, Fo.all (os.drop (k + 1)) = R := ⟨_, rfl⟩
          rw [hRR] at hR
          have HRR := Lib.hid hRR
          clear hRR
          obtain ⟨kd, sz, nn, ll⟩ := o
          obtain ⟨hok1, hok2, hok3, hok4⟩ := hok
          simp only at d0 d1 d2 d3 hI hok1 hok2 hok3 hok4
          have hX0 : RowsR r wo.heap.size #[.int .i64 kd, .int .i64 sz, .int .u64 nn, .slice S ll.length c] w (some (Fo.bytes ⟨kd, sz, nn, ll⟩ ++ R)) (wo.alloc (.cells #[.int .i64 kd, .int .i64 sz, .int .u64 nn, .slice S ll.length c] 47)) := ⟨hR.alloc _, Blk.new wo _ _, hbw.alloc hbw.size _⟩
          have hcell : ∀ st W, RowsR r wo.heap.size #[.int .i64 kd, .int .i64 sz, .int .u64 nn, .slice S ll.length c] w st W → W.cell? ⟨wo.heap.size, 0, none⟩ = some (.int .i64 kd) ∧ W.cell? ⟨wo.heap.size, 1, none⟩ = some (.int .i64 sz) ∧ W.cell? ⟨wo.heap.size, 2, none⟩ = some (.int .u64 nn) ∧ W.cell? ⟨wo.heap.size, 3, none⟩ = some (.slice S ll.length c) := fun st W h => fo_cells h.2.1
          have hIb : ∀ st W, RowsR r wo.heap.size #[.int .i64 kd, .int .i64 sz, .int .u64 nn, .slice S ll.length c] w st W → Ints .i64 W S ll := fun st W h => hI.below h.2.2 (Nat.le_refl _)
          have HX0 := Lib.hid hX0
          have Hcell := Lib.hid hcell
          have HIb := Lib.hid hIb
          clear hX0 hcell hIb
          clear hR
          by_cases h1 : kd = 1
          · subst h1
            by_cases hs : 1 ≤ sz ∧ sz ≤ 8
            · obtain ⟨s, rfl⟩ := Int.eq_ofNat_of_zero_le (show 0 ≤ sz by omega)
              have hHP := Fo.bytes_put (o := ⟨1, s, nn, ll⟩) rfl hs
              simp only [Int.toNat_natCast] at hHP
              have s1 : decide ((1 : Int) ≤ s) = true := by simp; omega
              have s2 : decide ((s : Int) ≤ 8) = true := by simp; omega
              have s3 : 1 ≤ s := by omega
              have s4 : s ≤ 8 := by omega
              have hY0 := HX0.out
              rw [hHP] at hY0
              have ⟨m0, m1⟩ := Fo.mod_bd nn s s4
              have hget : ∀ W, RdO r (some (Fp.big nn s ++ R)) W → Calls Try.prog 20 #[.pointer (some ⟨r, 0, none⟩), .int .i64 s] W fun e w' => e = .returned (.int .u64 (nn % 256 ^ s)) ∧ RdO r (some R) w' ∧ W.grownBy w' (some r) := fun W h => by
                have := reader_getO r s _ W h s3 s4
                unfold GetO at this
                rw [Fq.get_big] at this
                exact this
              have hcut := fun W => law12_cut nn s W hok3.1 hok3.2 s3 s4
              generalize nn % 256 ^ s = v at *
              have hbig : ∀ W, Calls Try.prog 9 #[.int .u64 v, .int .i64 8] W fun e w' => e = .returned (.string (strOfNums (Fp.big v 8))) ∧ Below W.heap.size W w' := fun W => ref_big v 8 W m0 m1 (by omega)
              have HY0 := Lib.hid hY0
              have Hget := Lib.hid hget
              have Hcut := Lib.hid hcut
              have Hbig := Lib.hid hbig
              clear hY0 hget hcut hbig
              generalize strOfNums (Fp.big v 8) = Z at *
              clear HX0 hHP hs hbad m0 m1 hbw
              go_wp2_with fail
              generalize wo.alloc (.cells #[.int .i64 1, .int .i64 s, .int .u64 nn, .slice S ll.length c] 47) = w4 at *
              have h0 := HY0.out.later (Later.drew (Later.refl w4))
              obtain ⟨x0, x1, x2, x3⟩ := Hcell.out _ _ h0
              go_region_held3 (fun W => W.cell? ⟨wo.heap.size, 0, none⟩ = some (.int .i64 1) ∧ W.cell? ⟨wo.heap.size, 1, none⟩ = some (.int .i64 s) ∧ W.cell? ⟨wo.heap.size, 2, none⟩ = some (.int .u64 nn) ∧ W.cell? ⟨wo.heap.size, 3, none⟩ = some (.slice S ll.length c)) (first | exact Hcell.out _ _ h0 | exact Hcell.out _ _ hg | exact Hcell.out _ _ ha | exact Hcell.out _ _ hz | fail)
                (first
                  | (go_at_call 20; refine (Hget.out _ h0.1).mono ?_; rintro e wg ⟨rfl, hRg, hgg⟩; have hg := h0.get hRg hgg hrl hrw)
                  | (go_at_call 21; refine (Hcut.out _).mono ?_; rintro e wz ⟨rfl, rfl⟩)
                  | (go_at_call 9; refine (Hbig.out _).mono ?_; rintro e wx ⟨rfl, hb⟩; first | have hz := ha.later hb | have ha := hg.later hb | fail)
                  | fail)
              clear x0 x1 x2 x3 d0 d1 d2 d3
              obtain ⟨x0, x1, x2, x3⟩ := Hcell.out _ _ hz
              have hzd := hz.later (Later.drew (Later.refl _))
              obtain ⟨z0, z1, z2, z3⟩ := Hcell.out _ _ hzd
              have Hz := Lib.hid hz
              have Hzd := Lib.hid hzd
              clear hz hzd
              clear h0 hg ha hRg hgg Hget Hcut Hbig HY0 Hcell
              go_wp2_with fail
              go_quiet (fail)
              go_wp2_with fail
              go_roundw
              case rel => exact ⟨k + 1, by omega, by go_num, by rw [HRR.out]; exact (Hz.out.later (show Later _ _ by repeat (first | (with_reducible exact Later.refl _) | (with_reducible apply Later.drew) | (with_reducible apply Later.drewN)))).1, (Hz.out.later (show Later _ _ by repeat (first | (with_reducible exact Later.refl _) | (with_reducible apply Later.drew) | (with_reducible apply Later.drewN)))).2.2⟩
              case measure => simp [intOf]; omega
            · have hHQ := Fo.bytes_no (o := ⟨1, sz, nn, ll⟩) rfl hs
              have hY0 := HX0.out
              rw [hHQ, List.nil_append] at hY0
              clear HX0
              have HY0 := Lib.hid hY0
              clear hY0
              by_cases hs1 : 1 ≤ sz
              case' pos =>
                have s1 : decide ((1 : Int) ≤ sz) = true := by simp; omega
                have s2 : decide ((sz : Int) ≤ 8) = false := by simp; omega
              case' neg =>
                have s1 : decide ((1 : Int) ≤ sz) = false := by simp; omega
              all_goals
                clear hs1 hs hHQ hbad hbw
                go_wp2_with fail
                generalize wo.alloc (.cells #[.int .i64 1, .int .i64 sz, .int .u64 nn, .slice S ll.length c] 47) = w4 at *
                obtain ⟨x0, x1, x2, x3⟩ := Hcell.out _ _ HY0.out
                clear d0 d1 d2 d3
                go_quiet (fail)
                go_upto_region 29 with fail
                obtain ⟨z0, z1, z2, z3⟩ := Hcell.out _ _ (HY0.out.later (show Later _ _ by repeat (first | (with_reducible exact Later.refl _) | (with_reducible apply Later.drew) | (with_reducible apply Later.drewN))))
                clear x0 x1 x2 x3
                go_quiet (fail)
                go_wp2_with fail
                go_roundw
                case rel => exact ⟨k + 1, by omega, by go_num, by rw [HRR.out]; exact (HY0.out.later (show Later _ _ by repeat (first | (with_reducible exact Later.refl _) | (with_reducible apply Later.drew) | (with_reducible apply Later.drewN)))).1, (HY0.out.later (show Later _ _ by repeat (first | (with_reducible exact Later.refl _) | (with_reducible apply Later.drew) | (with_reducible apply Later.drewN)))).2.2⟩
                case measure => simp [intOf]; omega
          · have r1 : (kd == 1) = false := by simp [h1]
            by_cases h2 : kd = 2
            · subst h2
              clear r1 h1
              have hgd : Fo.good ll = true := by simpa [Fo.bad] using hbad
              obtain ⟨g1, g2⟩ := Fo.good_iff hgd
              have hY0 := HX0.out
              rw [Fo.bytes_shape (o := ⟨2, sz, nn, ll⟩) rfl] at hY0
              have hshape : ∀ W, RdO r (some (Fp.shape ll ++ R)) W → Calls Try.prog 23 #[.pointer (some ⟨r, 0, none⟩)] W fun e w' => ∃ A' c', e = .returned (.slice A' ll.length c') ∧ Ints .i64 w' A' ll ∧ RdO r (some R) w' ∧ W.grownBy w' (some r) := fun W h => by
                refine (reader_shape r _ W h).mono ?_
                rintro e w' ⟨v, rfl, hown, hr, hg⟩
                rw [Fq.shapeR_shape ll R (by omega) g2] at hown hr
                obtain ⟨A', c', hv, -, hI'⟩ := Ints.of_own hown
                exact ⟨A', c', by rw [hv], hI', hr, hg⟩
              have hsame : ∀ W A' c', Ints .i64 W A' ll → Ints .i64 W S ll → Calls Try.prog 22 #[.slice A' ll.length c', .slice S ll.length c] W fun e w' => e = .returned (.bool true) ∧ ∃ q, w' = W.drewN q := fun W A' c' h1 h2 => by
                have := ref03_same A' S c' c ll ll W hok4 hok4 h1 h2
                rwa [show decide (ll = ll) = true by simp] at this
              have HY0 := Lib.hid hY0
              have Hshape := Lib.hid hshape
              have Hsame := Lib.hid hsame
              clear hY0 hshape hsame
              clear HX0 hgd g1 g2 hbad hbw hI
              go_wp2_with fail
              generalize wo.alloc (.cells #[.int .i64 2, .int .i64 sz, .int .u64 nn, .slice S ll.length c] 47) = w4 at *
              obtain ⟨x0, x1, x2, x3⟩ := Hcell.out _ _ HY0.out
              clear d0 d1 d2 d3
              go_quiet (fail)
              go_upto_region 29 with fail
              clear x0 x1 x2 x3
              have HR5 := Lib.hid (HY0.out.later (Later.drewN (Later.refl w4) nq))
              generalize w4.drewN nq = w5 at *
              have h0 := HR5.out.later (Later.drew (Later.refl w5))
              obtain ⟨x0, x1, x2, x3⟩ := Hcell.out _ _ h0
              clear HY0
              go_region_held3 (fun W => W.cell? ⟨wo.heap.size, 0, none⟩ = some (.int .i64 2) ∧ W.cell? ⟨wo.heap.size, 1, none⟩ = some (.int .i64 sz) ∧ W.cell? ⟨wo.heap.size, 2, none⟩ = some (.int .u64 nn) ∧ W.cell? ⟨wo.heap.size, 3, none⟩ = some (.slice S ll.length c)) (first | exact Hcell.out _ _ h0 | exact Hcell.out _ _ hg | exact Hcell.out _ _ hs | fail)
                (first
                  | (go_at_call 23; refine (Hshape.out _ h0.1).mono ?_; rintro e wg ⟨A', c', rfl, hIg, hRg, hgg⟩; have hg := h0.get hRg hgg hrl hrw)
                  | (go_at_call 22; refine (Hsame.out _ _ _ hIg (HIb.out _ _ hg)).mono ?_; rintro e ws ⟨rfl, q, rfl⟩; have hs := hg.later (Later.drewN (Later.refl wg) q))
                  | fail)
              have Hs := Lib.hid hs
              clear hs
              clear x0 x1 x2 x3 h0 hg hIg hRg hgg Hshape Hsame Hcell HIb
              go_wp2_with fail
              go_roundw
              case rel => exact ⟨k + 1, by omega, by go_num, by rw [HRR.out]; exact (Hs.out.later (show Later _ _ by repeat (first | (with_reducible exact Later.refl _) | (with_reducible apply Later.drew) | (with_reducible apply Later.drewN)))).1, (Hs.out.later (show Later _ _ by repeat (first | (with_reducible exact Later.refl _) | (with_reducible apply Later.drew) | (with_reducible apply Later.drewN)))).2.2⟩
              case measure => simp [intOf]; omega
            · have r2 : (kd == 2) = false := by simp [h2]
              have hHQ := Fo.bytes_none (o := ⟨kd, sz, nn, ll⟩) h1 h2
              have hY0 := HX0.out
              rw [hHQ, List.nil_append] at hY0
              clear HX0
              have HY0 := Lib.hid hY0
              clear hY0
              clear h1 h2 hHQ hbad hbw
              go_wp2_with fail
              generalize wo.alloc (.cells #[.int .i64 kd, .int .i64 sz, .int .u64 nn, .slice S ll.length c] 47) = w4 at *
              obtain ⟨x0, x1, x2, x3⟩ := Hcell.out _ _ HY0.out
              clear d0 d1 d2 d3
              go_quiet (fail)
              go_upto_region 29 with fail
              obtain ⟨z0, z1, z2, z3⟩ := Hcell.out _ _ (HY0.out.later (show Later _ _ by repeat (first | (with_reducible exact Later.refl _) | (with_reducible apply Later.drew) | (with_reducible apply Later.drewN))))
              clear x0 x1 x2 x3
              go_quiet (fail)
              go_wp2_with fail
              go_roundw
              case rel => exact ⟨k + 1, by omega, by go_num, by rw [HRR.out]; exact (HY0.out.later (show Later _ _ by repeat (first | (with_reducible exact Later.refl _) | (with_reducible apply Later.drew) | (with_reducible apply Later.drewN)))).1, (HY0.out.later (show Later _ _ by repeat (first | (with_reducible exact Later.refl _) | (with_reducible apply Later.drew) | (with_reducible apply Later.drewN)))).2.2⟩
              case measure => simp [intOf]; omega
        · obtain rfl : k = os.length := by omega
          rw [List.drop_length] at hR
          have hY : RdO r (some []) wo := hR
          have HY := Lib.hid hY
          clear hY
          clear hR
          go_wp2_with fail
          refine (reader_endO r (some []) _ HY.out).mono ?_
          rintro e wz ⟨rfl, rfl⟩
          rw [show Fp.endO (some []) = 0 from rfl]
          go_wp2_with fail
          refine (reader_getO r 1 (some []) _ HY.out (by omega) (by omega)).mono ?_
          rintro e wa ⟨rfl, hRa, hga⟩
          rw [show Fp.get 1 (some []) = (0, none) from rfl] at hRa ⊢
          have hba := hbw.grown hga hbw.size (by intro k e; injection e with e; omega)
          have HRa := Lib.hid hRa
          clear hRa
          clear hga hbw HY
          go_wp2_with fail
          refine (reader_endO r none _ HRa.out).mono ?_
          rintro e wz ⟨rfl, rfl⟩
          rw [show Fp.endO none = 16 from rfl]
          go_wp2_with fail
          refine (reader_shape r none _ HRa.out).mono ?_
          rintro e wb' ⟨v, rfl, hown, hRb, hgb⟩
          rw [show Fp.shapeR none = ([], none) from rfl] at hown hRb
          obtain ⟨A', c', hv, -, -⟩ := Ints.of_own hown
          subst hv
          have hbb := hba.grown hgb hba.size (by intro k e; injection e with e; omega)
          clear hown hRb hgb HRa hba
          go_wp2_with fail
          refine (awake12 _).mono ?_
          rintro e wf ⟨rfl, hf⟩
          have hbf := hbb.trans (hf.mono hbb.size)
          go_wp2_with fail
          go_ret
          exact ⟨rfl, hbf⟩
set_option maxHeartbeats 4000000 in
set_option maxRecDepth 100000 in
theorem walkFileRows (w : World) (A : Option Addr) (C : Nat) (os : List FOp) (hl : os.length ≤ 9223372036854775807) (hO : FOps w A os) (hw : ∀ o ∈ os, o.ok) :
    Calls Try.prog 5 #[.slice A os.length C] w fun e w' => e = .returned (.bool true) ∧ Below w.heap.size w w' := by
  by_cases h2 : 60 < os.length
  · clear hO hw
    go_enter Try.func5, Try.ntmps5
    go_wp2_with fail
    refine (awake12 _).mono ?_
    rintro e w1 ⟨rfl, h1⟩
    go_wp2_with fail
    go_ret
    exact ⟨rfl, h1⟩
  · exact fileRows_few w A C os (by omega) hO hw
end Go.Proofs.Ytnofeebcmmmlhaa
namespace Go.Proofs.Ytnofeebcmmmlhaa.fileRows
open Go.ChangeShapes Go.WideShapes Go.ChangeAt Go.RowKit
open Go.ChangeMaps (open_string shut_string)

theorem own : ownKnob Try.prog.godebug = none := by kernel_rfl
theorem laidOut : laidOutB Try.prog = true := by kernel_rfl

set_option maxRecDepth 100000 in
theorem lifted (os : Os) (started : os.Started) (H : Type) (enc : TypeId × Value → H) :
    ReturnsInHanded {} Try.checked os 5 .any (Rows.fileRowsSpec.pre6 enc Try.prog Try.f5 Rows.fileRowsRow.domain false) (Rows.fileRowsSpec.post enc Try.prog Try.f5 false true false false) := by
  refine returnsInHanded_of_change (C := Try.checked) own started (by kernel_rfl) Try.func5
    (ChangeSpec.witness6 (enc := enc) (C := Try.checked) false ⟨#[], #[.slice none 0 0], []⟩ 8 (by kernel_rfl) (by kernel_rfl) (by kernel_rfl) (by kernel_rfl)) ?_
  intro W base args ds gs before hval0 hW hcnd _
  have hval : ∀ (j : Nat) t v, Try.f5.params[j]? = some t → args[j]? = some v → Value.okWide Try.prog W .any base t v := hval0
  have hW' := hW
  obtain ⟨p, q, hA0, hV, rfl, hfz, hnd⟩ := hW
  have hA : DataW.TrodAll enc Try.prog W 0 (fun _ => true) true Try.f5.params.toList args.toList ds p := hA0
  rw [Try.params5] at hA hval
  obtain ⟨v0, vs0, d0, ds0, p0, q0, hargs, rfl, rfl, h0, r0⟩ := trodAll_cons hA
  obtain ⟨rfl, rfl, rfl⟩ := trodAll_nil r0
  obtain rfl : args = #[v0] := by cases args; simp_all
  obtain ⟨rfl, rfl⟩ := trodVars_none hV
  have k0 := h0
  have lt0 : ∀ x ∈ p0, x.block < W.heap.size := by obtain ⟨m, hm⟩ := k0; exact DataW.trod_lt m _ _ _ hm
  obtain ⟨a0, len0, cap0, rfl⟩ := okWide_slice Try.underlying41 (hval 0 41 v0 rfl rfl)
  obtain ⟨A0, C0, os0, e0, hl0, hO0, hw0⟩ := fops_open h0 rfl
  obtain ⟨rfl, rfl, rfl⟩ := Value.slice.inj e0
  clear hA0 hval0
  refine (walkFileRows W a0 cap0 os0 hl0 hO0 hw0).mono fun e W' ⟨he, bel⟩ => ?_
  subst he
  exact ⟨_, rfl, _, _, _, [], _, [], hW', trodAll_mk1 (shut_bool Try.underlying4 _), (trodAll_cons_mk (Below.trod laidOut (by kernel_rfl) (of_decide_eq_true (by kernel_rfl)) k0 bel lt0) trodAll_mk0), rfl, bel.frame _, fun h => by cases h⟩

theorem over : Rows.fileRowsRow.holds Try.pinned (OpenSpec.ofChange Rows.fileRowsSpec) :=
  OpenClaim.holds_of_wide 5 Try.f5 rfl rfl rfl rfl rfl rfl rfl ⟨rfl, rfl, rfl, rfl, rfl⟩ rfl rfl rfl rfl rfl (by kernel_rfl) Try.func5 (by kernel_rfl)
    (of_decide_eq_true (by kernel_rfl)) (by unfold Func.isWrapper; first | (rw [if_pos (by decide +kernel)]; kernel_rfl) | (rw [if_neg (by decide +kernel)]; exact ⟨rfl, rfl⟩))
    (fun os started H enc _ => lifted os started H enc)
end Go.Proofs.Ytnofeebcmmmlhaa.fileRows
namespace Go.Proofs.Ytnofeebcmmmlhaa
theorem fileRows_holds : Rows.FileRowsSaid := fileRows.over
#print axioms fileRows_holds
end Go.Proofs.Ytnofeebcmmmlhaa
