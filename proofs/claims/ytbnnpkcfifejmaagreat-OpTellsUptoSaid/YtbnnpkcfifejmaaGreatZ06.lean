/- Lemmas for the statements of this seat: contracts of functions and the plain laws. -/
import Derived.Deep.RegionHeld3
import Derived.LoopIn
import Derived.LoopNIn
import Derived.OrdersIn
import Derived.OwnWalkIn
import Derived.RangeFuncBound
import Derived.RangeFuncCalls
import Derived.RangeFuncLeaves
import Derived.RangeFuncNested
import Derived.TacticsInMore
import Derived.Test.YtbnnpkcfifejmaaGreatZ05
set_option linter.unusedVariables false
namespace Go.Proofs.YtbnnpkcfifejmaaGreat
open Go.RowKit
namespace Ly
theorem joined_nil (sd : Int) : joined sd [] = ([], 20) := rfl
theorem joined_cons (sd : Int) {x : List Ten} (h : 0 < x.length) : joined sd x = if Tn.right (got x 0) then (if (x.drop 1).length = 0 ∧ (sd < 0 ∨ ((got x 0).s.length : Int) ≤ sd) then ([], 11) else joinedS sd (got x 0).s (x.drop 1)) else ([], 20) := by
 match x, h with
 | t :: r, _ => rfl
theorem joinedS_succ (sd : Int) (s : List Int) {x : List Ten} {j : Nat} (h : j < x.length) : joinedS sd s (x.drop j) = if Tn.right (got x j) then (if (Od.join s (got x j).s sd).2 = 0 then joinedS sd (Od.join s (got x j).s sd).1 (x.drop (j + 1)) else ([], (Od.join s (got x j).s sd).2)) else ([], 20) := by
 rw [List.drop_eq_getElem_cons h, got_at h]
 rfl
theorem joinedS_end (sd : Int) (s : List Int) {x : List Ten} {j : Nat} (h : x.length ≤ j) : joinedS sd s (x.drop j) = (s, 0) := by rw [List.drop_eq_nil_of_le h]; rfl
end Ly
set_option maxHeartbeats 8000000 in
theorem move_joined (sd : Int) (A : Option Addr) (f : Nat) (x : List Ten) (w : World) (hl : x.length ≤ 1048576) (hf : x.length ≤ f) (hf2 : f ≤ 9223372036854775807) (hT : Tns w A x) :
  Calls Tryz.prog 63 #[.int .i64 sd, .slice A x.length f] w (ShPost (Ly.joined sd x) w) := by
 by_cases h0 : x.length = 0
 ·obtain rfl : x = [] := List.eq_nil_of_length_eq_zero h0
  clear hT h0
  go_enter Tryz.func63, Tryz.ntmps63
  go_wp2_with fail
  go_ret2
  exact ShPost.fail (Ly.joined_nil sd) (Below.refl _ _)
 have hpos : 0 < x.length := by omega
 obtain ⟨b, off, S0, sc0, C0, cd0, rfl, hb0, z0, z1, ht0⟩ := hT.first hpos
 have HJ := Lib.hid (Ly.joined_cons sd hpos)
 have d1 : ((x.length : Int) == 0) = false := by have h3 : (x.length : Int) ≠ 0 := by omega
                                                 simpa using h3
 have k1 : (0 : Int) < (x.length : Int) := by omega
 have k2 : 0 < x.length := hpos
 have l1 := ht0.l1
 have l2 := ht0.l2
 clear h0
 have HT := Lib.hid hT
 have Ht0 := Lib.hid ht0
 clear hT ht0
 generalize ht : Ly.got x 0 = t at *
 have Ht := Lib.hid ht
 clear ht
 go_enter Tryz.func63, Tryz.ntmps63
 go_wp2_with fail
 refine (tensor_right S0 C0 sc0 cd0 t w (by omega) (by omega) Ht0.out.r.1).mono ?_
 rintro e w1 ⟨rfl, hb1⟩
 have h01 : Later w w1 := hb1
 have z0 := h01.cell z0
 clear hb1 z1
 cases hr : Tn.right t
 ·have HE := Lib.hid (show Ly.joined sd x = ([], 20) by rw [HJ.out, hr]; rfl)
  clear hr
  have H01 := Lib.hid h01
  clear h01
  go_wp2_with fail
  go_ret2
  exact ShPost.fail HE.out H01.out
 have hsl := Ly.right_ok hr
 obtain ⟨hs4, -⟩ := hsl
 have Hr := Lib.hid hr
 clear hr
 have H01 := Lib.hid h01
 clear h01
 go_wp2_with fail
 refine (shape_copy S0 sc0 t.s w1 (by omega) (Ht0.out.later H01.out).r.1).mono ?_
 rintro e w2 ⟨g, rfl, hg, hgb, hb2⟩
 have h12 : Later w1 w2 := hb2
 have h02 := H01.out.trans h12
 have hgI : Ints .i64 w2 (some ⟨g, 0, none⟩) t.s := Blk.ints hgb
 have hwg : w.heap.size ≤ g := Nat.le_trans H01.out.size hg
 clear hb2 z0 hgb h12
 by_cases h1 : x.length = 1
 ·by_cases h2 : sd < 0 ∨ (t.s.length : Int) ≤ sd
  ·have HE := Lib.hid (show Ly.joined sd x = ([], 11) by rw [HJ.out, if_pos Hr.out, if_pos ⟨by rw [List.length_drop]; omega, h2⟩])
   have e1 : ((x.length : Int) == 1) = true := by have h3 : (x.length : Int) = 1 := by omega
                                                  simpa using h3
   clear h1 HJ
   by_cases h3 : sd < 0
   all_goals
    have h2' := h2
    clear h2
    have h4 : ¬ sd < 0 → (t.s.length : Int) ≤ sd := fun k => by omega
    have H4 := Lib.hid h4
    clear h4 h2'
    try (have h5 := H4.out h3)
    have H02 := Lib.hid h02
    have HgI := Lib.hid hgI
    clear h02 hgI
    go_wp2_with fail
    go_ret2
    exact ShPost.fail HE.out H02.out
  ·have HE := Lib.hid (show Ly.joined sd x = (t.s, 0) by rw [HJ.out, if_pos Hr.out, if_neg (fun k => h2 k.2)]; exact Ly.joinedS_end sd t.s (by omega))
   have h3 : ¬ sd < 0 := by omega
   have h4 : ¬ (t.s.length : Int) ≤ sd := by omega
   have e1 : ((x.length : Int) == 1) = true := by have h3 : (x.length : Int) = 1 := by omega
                                                  simpa using h3
   have hx1 : (x.length : Int) - 1 = 0 := by omega
   have hx2 : x.length - 1 = 0 := by omega
   have q1 : (1 : Int) ≤ (x.length : Int) := by omega
   have q2 : (x.length : Int) ≤ (f : Int) := by omega
   have q3 : (1 : Int) ≤ (f : Int) := by omega
   clear h1 h2 HJ
   have H02 := Lib.hid h02
   have HgI := Lib.hid hgI
   clear h02 hgI
   by_cases hf1 : f = 1
   all_goals
    try (subst hf1)
    go_wp2_with fail
    go_loopw [6, 42] (fun v i wr => v = .slice (some ⟨g, 0, none⟩) t.s.length t.s.length ∧ i = .int .i64 0 ∧ w2 = wr) (fun _ _ _ => 0)
    case atStart => exact ⟨rfl, rfl, rfl⟩
    case round =>
     obtain ⟨rfl, rfl, rfl⟩ := hrel
     go_wp2_with fail
     go_ret2
     exact ShPost.mk' HE.out rfl HgI.out (Nat.le_refl _) (by omega) (fun a e => by injection e with e; subst e; exact hwg) H02.out
 ·have e1 : ((x.length : Int) == 1) = false := by have h3 : (x.length : Int) ≠ 1 := by omega
                                                  simpa using h3
  have HE := Lib.hid (show Ly.joined sd x = Ly.joinedS sd t.s (x.drop 1) by rw [HJ.out, if_pos Hr.out, if_neg (fun k => by have := k.1; rw [List.length_drop] at this; omega)])
  have q1 : (1 : Int) ≤ (x.length : Int) := by omega
  have q2 : (x.length : Int) ≤ (f : Int) := by omega
  have q4 : (1 : Int) < (f : Int) := by omega
  have q5 : 1 < f := by omega
  have hr2 : Sh.right t.s = true := by have := Hr.out; simp only [Tn.right, Bool.and_eq_true] at this; exact this.1
  have Hr2 := Lib.hid hr2
  clear h1 HJ hr2
  have H02 := Lib.hid h02
  have HgI := Lib.hid hgI
  clear h02 hgI
  go_wp2_with fail
  go_loopw [6, 42] (fun v i wr => ∃ (j : Nat) (B : Option Addr) (bc : Nat) (s : List Int), j + 1 ≤ x.length ∧ i = .int .i64 (j : Int) ∧ v = .slice B s.length bc ∧ Ints .i64 wr B s ∧ s.length ≤ bc ∧ bc ≤ 9223372036854775807 ∧ (∀ a, B = some a → w.heap.size ≤ a.block) ∧ Sh.right s = true ∧ Ly.joined sd x = Ly.joinedS sd s (x.drop (j + 1)) ∧ Later w wr) (fun _ i _ => x.length - 1 - (intOf i).toNat)
  case atStart => exact ⟨0, _, _, t.s, by omega, rfl, rfl, HgI.out, Nat.le_refl _, by omega, (fun a e => by injection e with e; subst e; exact hwg), Hr2.out, HE.out, H02.out⟩
  case round =>
   obtain ⟨j, B, bc, s, hj, rfl, rfl, hI, hbc, hbc2, hB, hrs, hjs, hlw⟩ := hrel
   have hs4' := (Sh.right_mul hrs).2.1
   by_cases hlt : j + 1 < x.length
   ·obtain ⟨b', off', S, sc, C, cd, e', -, y0, y1, htn⟩ := (HT.out.later hlw).at_ hlt
    injection e' with e'; injection e' with e1 e2; subst e1 e2
    have hstep := Ly.joinedS_succ sd s hlt
    rw [show off + (j + 1) * 2 = off + 2 + j * 2 by omega] at y0 y1
    have m1 := htn.l1
    have m2 := htn.l2
    have hk1 : (j : Int) < (x.length : Int) - 1 := by omega
    have h3a : Later wr (wr.alloc (.cells #[.slice S (Ly.got x (j + 1)).s.length sc, .slice C (Ly.got x (j + 1)).c.length cd] 30)) := (Later.refl wr).alloc _
    have hkx := Blk.new wr 30 #[.slice S (Ly.got x (j + 1)).s.length sc, .slice C (Ly.got x (j + 1)).c.length cd]
    have hstep := hjs.trans hstep
    clear hjs
    generalize Ly.got x (j + 1) = u at *
    have HI := Lib.hid hI
    have HB := Lib.hid hB
    have Hrs := Lib.hid hrs
    have Hlw := Lib.hid hlw
    have Hstep := Lib.hid hstep
    have Htn := Lib.hid htn
    have H3a := Lib.hid h3a
    have Hkx := Lib.hid hkx
    clear hI hB hrs hlw hstep htn h3a hkx
    go_wp2_with fail
    clear y0 y1
    generalize wr.alloc (.cells #[.slice S u.s.length sc, .slice C u.c.length cd] 30) = w3 at *
    generalize wr.heap.size = pb at *
    refine (tensor_right S C sc cd u w3 (by omega) (by omega) (Htn.out.later H3a.out).r.1).mono ?_
    rintro e w4 ⟨rfl, hb4⟩
    have h34 : Later w3 w4 := hb4
    have hkx4 := h34.blk Hkx.out
    have h04 := (Hlw.out.trans H3a.out).trans h34
    have hr4 := H3a.out.trans h34
    have c0 := hkx4.cell 0
    simp at c0
    clear hb4 h34 Hkx
    cases hru : Tn.right u
    ·have HN := Lib.hid (show Ly.joined sd x = ([], 20) by rw [Hstep.out, hru]; rfl)
     clear hru
     have H04 := Lib.hid h04
     have Hr4 := Lib.hid hr4
     have Hkx4 := Lib.hid hkx4
     clear h04 hr4 hkx4
     go_wp2_with fail
     go_ret2
     exact ShPost.fail HN.out H04.out
    ·have Hru := Lib.hid hru
     clear hru
     have H04 := Lib.hid h04
     have Hr4 := Lib.hid hr4
     have Hkx4 := Lib.hid hkx4
     clear h04 hr4 hkx4
     go_wp2_with fail
     refine (shape_join B S bc sc s u.s sd w4 (by omega) (by omega) (HI.out.below Hr4.out (Nat.le_refl _)) (Htn.out.later Hr4.out).r.1).mono ?_
     rintro e w5 ⟨B', bc', rfl, hI', hc1', hc2', hf', hb5⟩
     have h45 : Later w4 w5 := hb5
     have h05 := H04.out.trans h45
     have hsz4 := H04.out.size
     clear hb5
     by_cases hjo : (Od.join s u.s sd).2 = 0
     ·have HN := Lib.hid (show Ly.joined sd x = Ly.joinedS sd (Od.join s u.s sd).1 (x.drop (j + 1 + 1)) by rw [Hstep.out, if_pos Hru.out, if_pos hjo])
      have hrj := Od.join_right hjo
      have HRJ := Lib.hid hrj
      rw [hjo]
      clear hjo hrj
      generalize (Od.join s u.s sd).1 = s' at *
      have HI' := Lib.hid hI'
      have HF' := Lib.hid hf'
      have H45 := Lib.hid h45
      have H05 := Lib.hid h05
      clear h45 h05
      clear hI' hf'
      go_wp2_with fail
      go_roundw
      case rel => exact ⟨j + 1, B', bc', s', by omega, by go_num, rfl, HI'.out, hc1', hc2', (fun a e => Nat.le_trans hsz4 (HF'.out a e)), HRJ.out, HN.out, H05.out⟩
      case measure => simp [intOf]; omega
     ·have HN := Lib.hid (show Ly.joined sd x = ([], (Od.join s u.s sd).2) by rw [Hstep.out, if_pos Hru.out, if_neg hjo])
      have e1 : ((Od.join s u.s sd).2 == 0) = false := by simpa using hjo
      have e2 : ((Od.join s u.s sd).2 != 0) = true := by simpa using hjo
      clear hjo hf' hI'
      generalize (Od.join s u.s sd).2 = er at *
      generalize (Od.join s u.s sd).1.length = sl at *
      have H45 := Lib.hid h45
      have H05 := Lib.hid h05
      clear h45 h05
      go_wp2_with fail
      go_ret2
      exact ShPost.fail HN.out H05.out
   ·have HN := Lib.hid (hjs.trans (Ly.joinedS_end sd s (show x.length ≤ j + 1 by omega)))
    have hk1 : ¬ (j : Int) < (x.length : Int) - 1 := by omega
    clear hjs
    have HI := Lib.hid hI
    have HB := Lib.hid hB
    have Hrs := Lib.hid hrs
    have Hlw := Lib.hid hlw
    clear hI hB hrs hlw
    go_wp2_with fail
    go_ret2
    exact ShPost.mk' HN.out rfl HI.out hbc hbc2 HB.out Hlw.out
end Go.Proofs.YtbnnpkcfifejmaaGreat
namespace Go.Proofs.YtbnnpkcfifejmaaGreat
open Go.RowKit
namespace Ly
theorem join_facts {s t : List Int} {sd : Int} (h : (Od.join s t sd).2 = 0) :
  ∃ k : Nat, sd = (k : Int) ∧ k < s.length ∧ t.length = s.length ∧ (∀ i, i ≠ k → t.getD i 0 = s.getD i 0) ∧ (Od.join s t sd).1 = s.set k (s.getD k 0 + t.getD k 0) ∧ Sh.right s = true ∧ Sh.right t = true ∧ Sh.right (Od.join s t sd).1 = true := by
 have hj := Od.join_right h
 unfold Od.join at h hj ⊢
 split at h
 ·rename_i h1
  rw [if_pos h1] at hj ⊢
  simp only [Bool.and_eq_true, decide_eq_true_eq] at h1
  split at h
  ·rename_i h2
   rw [if_pos h2] at hj ⊢
   simp only [Od.inR, decide_eq_true_eq] at h2
   split at h
   ·rename_i h3
    rw [if_pos h3] at hj ⊢
    simp only [Bool.and_eq_true] at h3
    obtain ⟨k, rfl⟩ := Int.eq_ofNat_of_zero_le h2.1
    refine ⟨k, rfl, by omega, h1.2.symm, fun i hi => ?_, ?_, h1.1.1, h1.1.2, hj⟩
    ·by_cases hil : i < s.length
     ·have := List.all_eq_true.1 h3.1 i (List.mem_range.2 hil)
      simp only [Bool.or_eq_true, decide_eq_true_eq] at this
      rcases this with h4 | h4
      ·omega
      ·exact h4.symm
     ·rw [List.getD_eq_getElem?_getD, List.getD_eq_getElem?_getD, List.getElem?_eq_none (by omega), List.getElem?_eq_none (by omega)]
    ·unfold Od.joinL Od.at_
     rw [Int.toNat_natCast]
   ·simp at h
  ·simp at h
 ·simp at h
structure Near (k : Nat) (s t : List Int) : Prop where
 len : t.length = s.length
 same : ∀ i, i ≠ k → t.getD i 0 = s.getD i 0
theorem Near.take {k : Nat} {s t : List Int} (h : Near k s t) : t.take k = s.take k := by
 apply List.ext_getElem?
 intro i
 rw [List.getElem?_take, List.getElem?_take]
 split
 ·rename_i hi
  have h1 := h.same i (by omega)
  simp only [List.getD_eq_getElem?_getD] at h1
  by_cases hl : i < s.length
  ·rw [List.getElem?_eq_getElem hl, List.getElem?_eq_getElem (by have := h.len; omega)] at h1 ⊢
   simpa using h1
  ·rw [List.getElem?_eq_none (by have := h.len; omega), List.getElem?_eq_none (by omega)]
 ·rfl
theorem Near.drop {k : Nat} {s t : List Int} (h : Near k s t) : t.drop (k + 1) = s.drop (k + 1) := by
 apply List.ext_getElem?
 intro i
 rw [List.getElem?_drop, List.getElem?_drop]
 have h1 := h.same (k + 1 + i) (by omega)
 simp only [List.getD_eq_getElem?_getD] at h1
 by_cases hl : k + 1 + i < s.length
 ·rw [List.getElem?_eq_getElem hl, List.getElem?_eq_getElem (by have := h.len; omega)] at h1 ⊢
  simpa using h1
 ·rw [List.getElem?_eq_none (by have := h.len; omega), List.getElem?_eq_none (by omega)]
theorem Near.set {k : Nat} {s t : List Int} {v : Int} (h : Near k (s.set k v) t) : Near k s t := by
 refine ⟨by rw [h.len, List.length_set], fun i hi => ?_⟩
 rw [h.same i hi, List.getD_eq_getElem?_getD, List.getD_eq_getElem?_getD, List.getElem?_set_ne (Ne.symm hi)]
def sumAt (k : Nat) (l : List Ten) : Int := l.foldr (fun t z => t.s.getD k 0 + z) 0
theorem joinedS_facts {sd : Int} : ∀ {r : List Ten} {s : List Int}, Sh.right s = true → (joinedS sd s r).2 = 0 → r ≠ [] → ∃ k : Nat, sd = (k : Int) ∧ k < s.length ∧ (∀ t ∈ r, Tn.right t = true ∧ Near k s t.s) ∧ (joinedS sd s r).1 = s.set k (s.getD k 0 + sumAt k r) ∧ Sh.right (joinedS sd s r).1 = true
 | [], s, _, _, h => absurd rfl h
 | t :: r, s, hs, h, _ => by
  unfold joinedS at h ⊢
  by_cases ht : Tn.right t = true
  case neg => rw [if_neg ht] at h; simp at h
  rw [if_pos ht] at h ⊢
  by_cases hj : (Od.join s t.s sd).2 = 0
  case neg => rw [if_neg hj] at h; exact absurd h hj
  rw [if_pos hj] at h ⊢
  obtain ⟨k, rfl, hk, hl, hsame, hr, h1, h2, h3⟩ := join_facts hj
  have hn : Near k s t.s := ⟨hl, hsame⟩
  by_cases he : r = []
  ·subst he
   refine ⟨k, rfl, hk, ?_, ?_, ?_⟩
   ·intro u hu
    rw [List.mem_singleton] at hu
    subst hu
    exact ⟨ht, hn⟩
   ·show (Od.join s t.s k).1 = _
    rw [hr]; simp [sumAt]
   ·exact h3
  ·obtain ⟨k', hk', hkl, hall, hres, hright⟩ := joinedS_facts h3 h he
   have : k' = k := by omega
   subst this
   rw [hr] at hall hres hkl
   refine ⟨k', rfl, hk, ?_, ?_, hright⟩
   ·intro u hu
    rcases List.mem_cons.1 hu with rfl | hu
    ·exact ⟨ht, hn⟩
    ·exact ⟨(hall u hu).1, (hall u hu).2.set⟩
   ·rw [hr, hres, List.set_set]
    congr 1
    have : (s.set k' (s.getD k' 0 + t.s.getD k' 0)).getD k' 0 = s.getD k' 0 + t.s.getD k' 0 := by
     rw [List.getD_eq_getElem?_getD, List.getElem?_set_self hk]; rfl
    rw [this]
    simp only [sumAt, List.foldr_cons]
    omega
theorem joined_facts {sd : Int} {x : List Ten} (h : (joined sd x).2 = 0) :
  ∃ k : Nat, sd = (k : Int) ∧ 0 < x.length ∧ k < (joined sd x).1.length ∧ (∀ t ∈ x, Tn.right t = true ∧ Near k (joined sd x).1 t.s) ∧ Sh.right (joined sd x).1 = true ∧ (joined sd x).1.getD k 0 = sumAt k x := by
 match x, h with
 | [], h => simp [joined] at h
 | t :: r, h =>
  unfold joined at h ⊢
  simp only at h ⊢
  by_cases ht : Tn.right t = true
  case neg => rw [if_neg ht] at h; simp at h
  rw [if_pos ht] at h ⊢
  have hts : Sh.right t.s = true := by simp only [Tn.right, Bool.and_eq_true] at ht; exact ht.1
  by_cases hc : r.length = 0 ∧ (sd < 0 ∨ (t.s.length : Int) ≤ sd)
  case pos => rw [if_pos hc] at h; simp at h
  rw [if_neg hc] at h ⊢
  by_cases he : r = []
  ·subst he
   have h3 : ¬ (sd < 0 ∨ (t.s.length : Int) ≤ sd) := fun k => hc ⟨rfl, k⟩
   obtain ⟨k, rfl⟩ := Int.eq_ofNat_of_zero_le (show 0 ≤ sd by omega)
   refine ⟨k, rfl, by simp, by show k < t.s.length; omega, ?_, hts, by simp [sumAt, joinedS]⟩
   intro u hu
   rw [List.mem_singleton] at hu
   subst hu
   exact ⟨ht, rfl, fun _ _ => rfl⟩
  ·obtain ⟨k, rfl, hk, hall, hres, hright⟩ := joinedS_facts hts h he
   have hset : ∀ {u : List Int}, Near k t.s u → Near k ((joinedS (k : Int) t.s r).1) u := fun {u} hn => by
    rw [hres]
    refine ⟨by rw [hn.len, List.length_set], fun i hi => ?_⟩
    rw [hn.same i hi, List.getD_eq_getElem?_getD, List.getD_eq_getElem?_getD, List.getElem?_set_ne (Ne.symm hi)]
   refine ⟨k, rfl, by simp, by rw [hres, List.length_set]; exact hk, ?_, hright, ?_⟩
   ·intro u hu
    rcases List.mem_cons.1 hu with rfl | hu
    ·exact ⟨ht, hset ⟨rfl, fun _ _ => rfl⟩⟩
    ·exact ⟨(hall u hu).1, hset (hall u hu).2⟩
   ·rw [hres, List.getD_eq_getElem?_getD, List.getElem?_set_self hk]
    simp [sumAt]
theorem joined_rows {sd : Int} {x : List Ten} (h : (joined sd x).2 = 0) :
  ∃ k rows inner : Nat, sd = (k : Int) ∧ 0 < x.length ∧ k < (joined sd x).1.length ∧ Sh.right (joined sd x).1 = true ∧ span ((joined sd x).1.take k) = rows ∧ Safe.prod ((joined sd x).1.take k) = (rows : Int) ∧ 1 ≤ rows ∧ 1 ≤ inner ∧ rows ≤ 65536 ∧
   (∀ t ∈ x, Tn.right t = true ∧ ∃ m : Nat, t.s.getD k 0 = (m : Int) ∧ t.c.length = rows * (m * inner)) ∧ Safe.prod (joined sd x).1 = (rows : Int) * (sumAt k x * (inner : Int)) := by
 obtain ⟨k, hk0, hpos, hk, hall, hr, hsum⟩ := joined_facts h
 generalize (joined sd x).1 = s at *
 obtain ⟨_, l4, l1, hb, hp1, hp2⟩ := Sh.right_mul hr
 have hsplit : ∀ u : List Int, k < u.length → Safe.prod u = Safe.prod (u.take k) * (u.getD k 0 * Safe.prod (u.drop (k + 1))) := fun u hu => by
  have e : u = u.take k ++ (u[k] :: u.drop (k + 1)) := by rw [← List.drop_eq_getElem_cons hu, List.take_append_drop]
  have e2 : u.getD k 0 = u[k] := get_at hu
  have e3 : Safe.prod u = Safe.prod (u.take k ++ (u[k] :: u.drop (k + 1))) := congrArg Safe.prod e
  rw [e3, prod_append, e2]; rfl
 have hpre : 1 ≤ Safe.prod (s.take k) := Safe.prod_pos _ (fun z hz => (hb z (List.mem_of_mem_take hz)).1)
 have hin : 1 ≤ Safe.prod (s.drop (k + 1)) := Safe.prod_pos _ (fun z hz => (hb z (List.mem_of_mem_drop hz)).1)
 have hle := Safe.prod_take_le s k (fun z hz => (hb z hz).1)
 obtain ⟨rows, hre⟩ := Int.eq_ofNat_of_zero_le (show 0 ≤ Safe.prod (s.take k) by omega)
 obtain ⟨inner, hie⟩ := Int.eq_ofNat_of_zero_le (show 0 ≤ Safe.prod (s.drop (k + 1)) by omega)
 refine ⟨k, rows, inner, hk0, hpos, hk, hr, by unfold span; rw [hre]; exact Int.toNat_natCast _, hre, by omega, by omega, by omega, fun t ht => ?_, by rw [hsplit s hk, hre, hie, hsum]⟩
 obtain ⟨htr, hn⟩ := hall t ht
 refine ⟨htr, ?_⟩
 have htr2 := htr
 simp only [Tn.right, Bool.and_eq_true, decide_eq_true_eq] at htr2
 obtain ⟨_, _, _, hbt, _, _⟩ := Sh.right_mul htr2.1
 have hkt : k < t.s.length := by rw [hn.len]; exact hk
 have hm := hbt _ (List.getElem_mem hkt)
 obtain ⟨m, hme⟩ := Int.eq_ofNat_of_zero_le (show 0 ≤ t.s[k] by omega)
 refine ⟨m, by rw [get_at hkt]; exact hme, ?_⟩
 have h5 := htr2.2
 rw [hsplit t.s hkt, hn.take, hn.drop, hre, hie, get_at hkt, hme, ← Int.natCast_mul, ← Int.natCast_mul] at h5
 exact Int.ofNat.inj h5
end Ly
end Go.Proofs.YtbnnpkcfifejmaaGreat
namespace Go.Proofs.YtbnnpkcfifejmaaGreat
open Go.RowKit
namespace Ly
theorem join_err {sd : Int} {x : List Ten} (h : (joined sd x).2 ≠ 0) : join sd x = (none_, (joined sd x).2) := by unfold join; rw [if_neg h]
theorem join_ok {sd : Int} {x : List Ten} (h : (joined sd x).2 = 0) : join sd x = (⟨(joined sd x).1, joinC (span ((joined sd x).1.take sd.toNat)) x (span ((joined sd x).1.take sd.toNat))⟩, 0) := by unfold join; rw [if_pos h]
def wsum (rows : Nat) : List Ten → Nat
 | [] => 0
 | t :: r => t.c.length / rows + wsum rows r
theorem wsum_take_succ {rows : Nat} : ∀ {x : List Ten} {j : Nat}, j < x.length → wsum rows (x.take (j + 1)) = wsum rows (x.take j) + (got x j).c.length / rows
 | [], j, h => by simp at h
 | t :: r, 0, _ => by simp [wsum, got]
 | t :: r, j + 1, h => by
  have := wsum_take_succ (rows := rows) (x := r) (j := j) (by simpa using h)
  simp only [List.take_succ_cons, wsum]
  rw [this]
  have e : got (t :: r) (j + 1) = got r j := by simp [got]
  rw [e]; omega
theorem wsum_take_le {rows : Nat} : ∀ {x : List Ten} {j : Nat}, wsum rows (x.take j) ≤ wsum rows x
 | [], j => by simp [wsum]
 | t :: r, 0 => by simp [wsum]
 | t :: r, j + 1 => by
  have := wsum_take_le (rows := rows) (x := r) (j := j)
  simp only [List.take_succ_cons, wsum]
  omega
theorem row_fit {rows i n : Nat} (h : i < rows) : i * (n / rows) + n / rows ≤ n := by
 have h1 : (i + 1) * (n / rows) ≤ rows * (n / rows) := Nat.mul_le_mul_right _ h
 rw [Nat.succ_mul] at h1
 have h2 := Nat.mul_div_le n rows
 omega
theorem joinRow_len {rows i : Nat} {t : Ten} (h : i < rows) : (joinRow rows i t).length = t.c.length / rows := by
 have := row_fit (n := t.c.length) h
 unfold joinRow
 rw [List.length_take, List.length_drop]
 omega
theorem flat_len {rows i : Nat} (h : i < rows) : ∀ x : List Ten, (x.flatMap (joinRow rows i)).length = wsum rows x
 | [] => by simp [wsum]
 | t :: r => by rw [List.flatMap_cons, List.length_append, joinRow_len h, flat_len h r]; rfl
theorem joinC_succ (rows : Nat) (x : List Ten) (i : Nat) : joinC rows x (i + 1) = joinC rows x i ++ x.flatMap (joinRow rows i) := by
 unfold joinC
 rw [List.range_succ, List.flatMap_append]
 simp
theorem joinC_len {rows : Nat} {x : List Ten} : ∀ {i : Nat}, i ≤ rows → (joinC rows x i).length = i * wsum rows x
 | 0, _ => by simp [joinC]
 | i + 1, h => by rw [joinC_succ, List.length_append, joinC_len (by omega), flat_len (by omega), Nat.succ_mul]
theorem joinC_in {rows i : Nat} {x : List Ten} (h : ∀ t ∈ x, In t) : ∀ z ∈ joinC rows x i, Fx.In z := fun z hz => by
 unfold joinC at hz
 obtain ⟨_, _, hz⟩ := List.mem_flatMap.1 hz
 obtain ⟨t, ht, hz⟩ := List.mem_flatMap.1 hz
 exact h t ht z (List.mem_of_mem_drop (List.mem_of_mem_take hz))
theorem flat_take_succ (rows i : Nat) {x : List Ten} {j : Nat} (h : j < x.length) : (x.take (j + 1)).flatMap (joinRow rows i) = (x.take j).flatMap (joinRow rows i) ++ joinRow rows i (got x j) := by
 rw [List.take_succ_eq_append_getElem h, List.flatMap_append, got_at h]
 simp
theorem wsum_eq {rows inner k : Nat} (hr : 1 ≤ rows) : ∀ {x : List Ten}, (∀ t ∈ x, Tn.right t = true ∧ ∃ m : Nat, t.s.getD k 0 = (m : Int) ∧ t.c.length = rows * (m * inner)) → ((wsum rows x : Nat) : Int) = sumAt k x * (inner : Int)
 | [], _ => by simp [wsum, sumAt]
 | t :: r, h => by
  obtain ⟨_, m, hm, hl⟩ := h t (by simp)
  have ih := wsum_eq hr (x := r) (fun u hu => h u (by simp [hu]))
  have e : t.c.length / rows = m * inner := by rw [hl]; exact Nat.mul_div_cancel_left _ hr
  simp only [wsum, sumAt, List.foldr_cons]
  rw [e, hm, Int.natCast_add, ih, Int.natCast_mul, Int.add_mul]
  rfl
theorem join_facts2 {sd : Int} {x : List Ten} (h : (joined sd x).2 = 0) :
  ∃ k rows : Nat, sd = (k : Int) ∧ 0 < x.length ∧ k < (joined sd x).1.length ∧ (joined sd x).1.length ≤ 4 ∧ Sh.right (joined sd x).1 = true ∧ span ((joined sd x).1.take k) = rows ∧ Safe.prod ((joined sd x).1.take k) = (rows : Int) ∧ 1 ≤ rows ∧ rows ≤ 65536 ∧
   (∀ t ∈ x, t.c.length ≤ 65536 ∧ 1 ≤ t.c.length / rows) ∧ Safe.prod (joined sd x).1 = ((rows * wsum rows x : Nat) : Int) ∧ rows * wsum rows x ≤ 65536 ∧ 1 ≤ wsum rows x ∧ (∀ z ∈ (joined sd x).1, 1 ≤ z ∧ z ≤ 1024) := by
 obtain ⟨k, rows, inner, h1, h2, h3, h4, h5, h6, h7, h8, h9, h10, h11⟩ := joined_rows h
 obtain ⟨_, l4, l1, hb, hp1, hp2⟩ := Sh.right_mul h4
 have hw := wsum_eq h7 h10
 have hprod : Safe.prod (joined sd x).1 = ((rows * wsum rows x : Nat) : Int) := by rw [h11, Int.natCast_mul, hw]
 have hrow : ∀ t ∈ x, t.c.length ≤ 65536 ∧ 1 ≤ t.c.length / rows := fun t ht => by
  obtain ⟨hr, m, hm, hl⟩ := h10 t ht
  have hrl := (right_ok hr).2
  refine ⟨hrl, ?_⟩
  have : t.c.length / rows = m * inner := by rw [hl]; exact Nat.mul_div_cancel_left _ h7
  rw [this]
  simp only [Tn.right, Bool.and_eq_true, decide_eq_true_eq] at hr
  have hp := (Sh.right_mul hr.1).2.2.2.2.1
  rcases Nat.eq_zero_or_pos (m * inner) with h0 | h0
  ·rw [h0, Nat.mul_zero] at hl; omega
  ·exact h0
 refine ⟨k, rows, h1, h2, h3, l4, h4, h5, h6, h7, h9, hrow, hprod, by omega, ?_, hb⟩
 rcases Nat.eq_zero_or_pos (wsum rows x) with h0 | h0
 ·rw [h0, Nat.mul_zero] at hprod; omega
 ·exact h0
end Ly
set_option maxRecDepth 4000 in
set_option maxHeartbeats 8000000 in
theorem move_join (sd : Int) (A : Option Addr) (f : Nat) (x : List Ten) (w : World) (hl : x.length ≤ 1048576) (hf : x.length ≤ f) (hf2 : f ≤ 9223372036854775807) (hT : Tns w A x) :
  Calls Tryz.prog 98 #[.int .i64 sd, .slice A x.length f] w (GoP (Ly.join sd x) w) := by
 obtain ⟨i0, hi, hz0, hz1, hz2⟩ := info_parts fix_info
 have h01 : Later w (w.alloc (.cells #[.slice none 0 0, .slice none 0 0] 30)) := (Later.refl w).alloc _
 have hz := Blk.new w 30 #[.slice none 0 0, .slice none 0 0]
 have H01 := Lib.hid h01
 have Hz := Lib.hid hz
 have HT := Lib.hid hT
 clear h01 hz hT
 go_enter Tryz.func98, Tryz.ntmps98
 go_wp2_with fail
 generalize w.alloc (.cells #[.slice none 0 0, .slice none 0 0] 30) = w1 at *
 refine (move_joined sd A f x w1 hl hf hf2 (HT.out.later H01.out)).mono ?_
 rintro e w2 ⟨B, bc, rfl, hI, hc1, hc2, hfr, hb2⟩
 have h12 : Later w1 w2 := hb2
 have h02 := H01.out.trans h12
 have hz2' := h12.blk Hz.out
 have hfr0 : ∀ a, B = some a → w.heap.size ≤ a.block := fun a e => Nat.le_trans H01.out.size (hfr a e)
 clear hb2 Hz H01 h12 hfr
 by_cases hg : (Ly.joined sd x).2 = 0
 case neg =>
  have HE := Lib.hid (Ly.join_err hg)
  have Hg := Lib.hid hg
  have d1 : ((Ly.joined sd x).2 == 0) = false := by simpa using hg
  have d2 : ((Ly.joined sd x).2 != 0) = true := by simpa using hg
  clear hg hI hfr0
  generalize (Ly.joined sd x).2 = ge at *
  generalize (Ly.joined sd x).1.length = sl at *
  have c0 := hz2'.cell 0
  have c1 := hz2'.cell 1
  have f0 := hz2'.frozen 0
  have f1 := hz2'.frozen 1
  simp at c0 c1
  have H02 := Lib.hid h02
  have Hz2' := Lib.hid hz2'
  clear h02 hz2'
  go_wp2_with fail
  refine bodyPost_ret (v := .tuple #[.agg #[.slice none 0 0, .slice none 0 0], .int .i64 ge]) (by simp [results, Tryz.results98, go_sem, c0, c1]) rfl ?_
  exact GoP.fail HE.out Hg.out ((H02.out.set (p := ⟨w.heap.size, 0, none⟩) (Nat.le_refl _) _).set (p := ⟨w.heap.size, 1, none⟩) (Nat.le_refl _) _)
 have HE := Lib.hid (Ly.join_ok hg)
 obtain ⟨k, rows, rfl, hpos, hk, hs4, hsr, hspan, hprow, hr1, hr2, hrow, hprod, htot, hw1, hsb⟩ := Ly.join_facts2 hg
 rw [hg]
 rw [Int.toNat_natCast, hspan] at HE
 generalize (Ly.joined (k : Int) x).1 = s at *
 have hsz : Sh.size s = (((rows * Ly.wsum rows x : Nat) : Int), 0) := by unfold Sh.size; rw [if_pos hsr, hprod]
 have hle := fun j => Safe.prod_take_le s j (fun z hz => (hsb z hz).1)
 have hpo := fun j => Safe.prod_pos (s.take j) (fun z hz => (hsb z (List.mem_of_mem_take hz)).1)
 have hsu := fun j hj => Safe.prod_take_succ s j hj
 have htot2 : Safe.prod s ≤ 65536 := by rw [hprod]; omega
 obtain ⟨M, hM⟩ : ∃ M, M = rows * Ly.wsum rows x := ⟨_, rfl⟩
 rw [← hM] at hsz htot
 have HM := Lib.hid hM
 have Hsz := Lib.hid hsz
 have Hprow := Lib.hid hprow
 have Hrow := Lib.hid hrow
 have htk : k < s.length := hk
 clear hg hspan hprow hprod hrow hM hsz hsb hsr
 have H02 := Lib.hid h02
 have Hz2' := Lib.hid hz2'
 have HI := Lib.hid hI
 have Hfr0 := Lib.hid hfr0
 have Hle := Lib.hid hle
 have Hpo := Lib.hid hpo
 have Hsu := Lib.hid hsu
 clear h02 hz2' hI hfr0 hle hpo hsu
 go_wp2_with fail
 refine (shape_size B bc s w2 (by omega) HI.out).mono ?_
 rintro e w3 ⟨rfl, hb3⟩
 rw [Hsz.out]
 have h23 : Later w2 w3 := hb3
 have h03 := H02.out.trans h23
 have hz3 := h23.blk Hz2'.out
 have hI3 := HI.out.below h23 (Nat.le_refl _)
 clear hb3 HI Hz2' H02
 have q1 : (0 : Int) ≤ (k : Int) := by omega
 have q2 : (k : Int) ≤ (bc : Int) := by omega
 have H23 := Lib.hid h23
 have H03 := Lib.hid h03
 have Hz3 := Lib.hid hz3
 have HI3 := Lib.hid hI3
 clear h23 h03 hz3 hI3
 go_wp2_with fail
 go_loop [9, 40] (fun v i => ∃ j : Nat, j ≤ k ∧ i = .int .i64 j ∧ v = .int .i64 (Safe.prod (s.take j))) (fun _ i => k - (intOf i).toNat)
 case atStart => exact ⟨0, Nat.zero_le _, rfl, rfl⟩
 case round =>
  obtain ⟨j, hj, rfl, rfl⟩ := hrel
  by_cases hlt : j < k
  ·obtain ⟨bb, ob, rfl, -, hc⟩ := HI3.out j (by omega)
   rw [get_at (show j < s.length by omega)] at hc
   have p1 := Hpo.out j
   have p2 := Hle.out j
   have p3 := Hpo.out (j + 1)
   have p4 := Hle.out (j + 1)
   have p5 := Hsu.out j (by omega)
   obtain ⟨P', hP⟩ : ∃ P', P' = Safe.prod (s.take (j + 1)) := ⟨_, rfl⟩
   rw [← hP] at p3 p4 p5
   have HP := Lib.hid hP
   clear hP
   generalize Safe.prod (s.take j) = P at *
   have e1 : P * s[j] = P' := p5.symm
   generalize s[j] = z at *
   clear p5
   go_wp2_with fail
   go_round
   case rel => exact ⟨j + 1, by omega, by go_num, by rw [← HP.out]⟩
   case measure => simp [intOf]; omega
  ·obtain rfl : j = k := by omega
   rw [Hprow.out]
   clear q1 q2 Hle Hpo Hsu
   go_wp2_with (at_make; refine wpList_make_own _ rfl _ _ 28 rfl w3.heap.size 22 i0 (.int .i64 0) 1 Tryz.underlying28 hi hz0 hz1 _ _ _ M rfl rfl rfl ?b2 ?b3 ?b4 ?_)
   case b2 => first | omega | (rw [hz2]; omega)
   case b3 => unfold maxLen; omega
   first | (case b4 => exact Nat.le_refl _) | skip
   intro w4 hown hgrow
   have h34 : Later w3 w4 := (Later.refl w3).grown hgrow (Nat.le_refl _) (by simp)
   have hown0 : w4.ownsRow w3.heap.size 22 1 (.slice (some ⟨w3.heap.size, 0, none⟩) 0 M) (Ly.joinC rows x 0).length ((Ly.joinC rows x 0).map (Value.int .i64)) := by simpa [Ly.joinC] using hown
   have hn0 : (Ly.joinC rows x 0).length = 0 := rfl
   clear hown hgrow
   have H34 := Lib.hid h34
   have Hown0 := Lib.hid hown0
   have Hn0 := Lib.hid hn0
   clear h34 hown0 hn0
   have hwz : w.heap.size < w3.heap.size := Hz3.out.lt
   go_wp2_with fail
   go_loopw [12, 51] (fun v iv wr => ∃ (i : Nat) (ll : Nat), i ≤ rows ∧ iv = .int .i64 (i : Int) ∧ ll = (Ly.joinC rows x i).length ∧ wr.ownsRow w3.heap.size 22 1 v ll ((Ly.joinC rows x i).map (Value.int .i64)) ∧ Later w3 wr) (fun _ iv _ => rows - (intOf iv).toNat)
   case atStart => exact ⟨0, 0, Nat.zero_le _, rfl, rfl, Hown0.out, H34.out⟩
   case round =>
    obtain ⟨i, ll, hi', rfl, hll, hown, hlw⟩ := hrel
    obtain ⟨Ao, co, rfl⟩ := own_form hown
    by_cases hlt : i < rows
    ·have hcl := Ly.joinC_len (x := x) (Nat.le_of_lt hlt)
     have hlow := hlw.size
     have Hcl := Lib.hid hcl
     clear hcl
     have Hll := Lib.hid hll
     have Hown := Lib.hid hown
     have Hlw := Lib.hid hlw
     clear hll hown hlw
     go_wp2_with fail
     go_loopw [12, 56] (fun v jv wr' => ∃ (jj : Nat) (nn : Nat), jj ≤ x.length ∧ jv = .int .i64 (jj : Int) ∧ nn = (Ly.joinC rows x i ++ (x.take jj).flatMap (Ly.joinRow rows i)).length ∧ wr'.ownsRow w3.heap.size 22 1 v nn ((Ly.joinC rows x i ++ (x.take jj).flatMap (Ly.joinRow rows i)).map (Value.int .i64)) ∧ Later w3 wr') (fun _ jv _ => x.length - (intOf jv).toNat)
     case atStart => exact ⟨0, ll, Nat.zero_le _, rfl, by rw [List.take_zero, List.flatMap_nil, List.append_nil]; exact Hll.out, by rw [List.take_zero, List.flatMap_nil, List.append_nil]; exact Hown.out, Hlw.out⟩
     case round =>
      obtain ⟨jj, nn, hjj, rfl, hnn, hown, hlw⟩ := hrel
      obtain ⟨Ao, co, rfl⟩ := own_form hown
      clear Hown Hlw
      by_cases hlj : jj < x.length
      ·obtain ⟨bx, ox, S, sc, C, cd, rfl, hbx, y0, y1, ht⟩ := (HT.out.later (H03.out.trans hlw)).at_ hlj
       obtain ⟨hq1, hq2⟩ := Hrow.out (Ly.got x jj) (by rw [got_at hlj]; exact List.getElem_mem _)
       have hfit := Ly.row_fit (n := (Ly.got x jj).c.length) hlt
       have hts := Ly.flat_take_succ rows i hlj
       have hjl := Ly.joinRow_len (t := Ly.got x jj) hlt
       have hws := Ly.wsum_take_succ (rows := rows) hlj
       have hwl := Ly.wsum_take_le (rows := rows) (x := x) (j := jj + 1)
       have hlen2 : nn + (Ly.got x jj).c.length / rows ≤ M := by
        rw [hnn, List.length_append, Ly.flat_len hlt, Hcl.out]
        have h8 : (i + 1) * Ly.wsum rows x ≤ rows * Ly.wsum rows x := Nat.mul_le_mul_right _ hlt
        rw [Nat.succ_mul] at h8
        rw [HM.out]
        omega
       have hfl2 : (Ly.joinC rows x i ++ (x.take (jj + 1)).flatMap (Ly.joinRow rows i)) = (Ly.joinC rows x i ++ (x.take jj).flatMap (Ly.joinRow rows i)) ++ Ly.joinRow rows i (Ly.got x jj) := by rw [hts, List.append_assoc]
       have hnum := ht.num
       have htd := ht.c1
       have htd2 := ht.c2
       have htr := ht.r.2
       have ht2 := ht
       obtain ⟨bc', oc', rfl, hbc', -⟩ := ht2.cell (k := 0) (by omega)
       have hjr : Ly.joinRow rows i (Ly.got x jj) = ((Ly.got x jj).c.drop (i * ((Ly.got x jj).c.length / rows))).take ((Ly.got x jj).c.length / rows) := rfl
       generalize Ly.got x jj = u at *
       have e0 : (u.c.length : Int) / (rows : Int) = ((u.c.length / rows : Nat) : Int) := by simp
       have e1 : (i : Int) * ((u.c.length / rows : Nat) : Int) = ((i * (u.c.length / rows) : Nat) : Int) := by simp
       have e2 : ((i : Int) + 1) * ((u.c.length / rows : Nat) : Int) = ((i * (u.c.length / rows) : Nat) : Int) + ((u.c.length / rows : Nat) : Int) := by rw [Int.add_mul, e1]; simp
       generalize u.c.length / rows = q at *
       generalize i * q = p at *
       have hWI : Ints .i64 wr (some ⟨bc', oc' + p, none⟩) (Ly.joinRow rows i u) := Ints.of_row fun j2 hj2 => by
        rw [hjl] at hj2
        obtain ⟨b', o', e', -, hc⟩ := htr (p + j2) (by omega)
        injection e' with e'; injection e' with e1 e2; subst e1 e2
        rw [Nat.add_assoc, hc, hjr]
        simp only [List.getD_eq_getElem?_getD]
        rw [List.getElem?_take, if_pos hj2, List.getElem?_drop]
       have hnw : (Ly.joinRow rows i u).length = q := hjl
       generalize Ly.joinRow rows i u = nw at *
       have hq3 : (q : Int) ≤ 65536 := by omega
       have hp3 : (p : Int) + (q : Int) ≤ (cd : Int) := by omega
       have hp4 : (p : Int) + (q : Int) ≤ 65536 := by omega
       have hi3 : (i : Int) ≤ 65536 := by omega
       have hr3 : (1 : Int) ≤ (rows : Int) := by omega
       have hq0 : 0 < q := by omega
       have h3a : Later wr (wr.alloc (.cells #[.slice S u.s.length sc, .slice (some ⟨bc', oc', none⟩) u.c.length cd] 30)) := (Later.refl wr).alloc _
       have hkx := Blk.new wr 30 #[.slice S u.s.length sc, .slice (some ⟨bc', oc', none⟩) u.c.length cd]
       have hjk1 : (jj : Int) < (x.length : Int) := by omega
       have hwr : w3.heap.size ≤ wr.heap.size := hlw.size
       have hownA := ownsRow_new hown (.cells #[.slice S u.s.length sc, .slice (some ⟨bc', oc', none⟩) u.c.length cd] 30)
       have Hfl2 := Lib.hid hfl2
       have Hnn := Lib.hid hnn
       have Hnw := Lib.hid hnw
       clear hfl2 hnn hnw hjr hjl hts hws hwl htr hnum ht hown ht2
       have Hlw := Lib.hid hlw
       have HWI := Lib.hid hWI
       have H3a := Lib.hid h3a
       have Hkx := Lib.hid hkx
       have HownA := Lib.hid hownA
       clear hlw hWI h3a hkx hownA
       go_upto_region 20 with fail
       clear y0 y1
       generalize wr.alloc (.cells #[.slice S u.s.length sc, .slice (some ⟨bc', oc', none⟩) u.c.length cd] 30) = w5 at *
       generalize hpb : wr.heap.size = pb at *
       have c1 : w5.cell? ⟨pb, 1, none⟩ = some (.slice (some ⟨bc', oc', none⟩) u.c.length cd) := by rw [Hkx.out.cell]; rfl
       have hl5 := Hlw.out.trans H3a.out
       have hwr5 : w3.heap.size ≤ w5.heap.size := hl5.size
       have hlo := fun b (hb : (Value.slice Ao nn co).ownBlock = some b) => (HownA.out.lt b hb).1
       have HLO := Lib.hid hlo
       have Hpb := Lib.hid hpb
       clear hlo hpb
       have Hl5 := Lib.hid hl5
       clear hl5
       go_wp2_with (at_builtin; refine wpList_append_own_at _ rfl _ _ 28 rfl w3.heap.size 22 i0 (.int .i64 0) 1 8 Tryz.underlying28 hi hz0 hz1 hz2 rfl (by decide) _ _ _ rfl HownA.out ⟨bc', oc' + p, none⟩ _ _ (nw.map (Value.int .i64)) rfl ?c0 ?c1 ?c2 ?c3 ?c4 ?c5 ?_)
       case c0 => rw [List.length_map, Hnw.out]; omega
       case c1 =>
        intro j2 u2 hj2
        rw [List.getElem?_map] at hj2
        cases hq : nw[j2]? with
        | none => rw [hq] at hj2; simp at hj2
        | some z =>
         rw [hq] at hj2
         simp at hj2
         subst hj2
         obtain ⟨hjl, hz⟩ := List.getElem?_eq_some_iff.1 hq
         obtain ⟨b', o', e', -, hc⟩ := (HWI.out.below H3a.out (Nat.le_refl _)) j2 hjl
         injection e' with e'; injection e' with e1 e2; subst e1 e2
         rw [get_at hjl, hz] at hc
         by_cases hj0 : j2 = 0
         ·subst hj0; simpa [Addr.add] using hc
         ·simpa [Addr.add, hj0] using hc
       case c2 => intro u2 hu; obtain ⟨z, _, rfl⟩ := List.mem_map.1 hu; rfl
       case c3 => unfold maxLen; omega
       case c4 => omega
       case c5 => exact hwr5
       intro v' w6 hown' hgrow _ hat
       have hl6 : Later w3 w6 := Hl5.out.grown hgrow hwr5 (fun b hb => HLO.out b hb)
       have hown2 : w6.ownsRow w3.heap.size 22 1 v' (nn + q) (((Ly.joinC rows x i ++ (x.take jj).flatMap (Ly.joinRow rows i)) ++ nw).map (Value.int .i64)) := by
        have hm' : p + q - p = q := by omega
        simp only [List.map_append, List.append_assoc] at hown' ⊢
        first | exact hown' | (rw [hm'] at hown'; exact hown')
       rw [← Hfl2.out] at hown2
       have hlen6 : nn + q = (Ly.joinC rows x i ++ (x.take (jj + 1)).flatMap (Ly.joinRow rows i)).length := by rw [Hfl2.out, List.length_append, ← Hnn.out, Hnw.out]
       have HO6 := Lib.hid hown2
       have HL6 := Lib.hid hl6
       have HLen6 := Lib.hid hlen6
       clear hown' hown2 hgrow hat hl6 hlen6
       go_wp2_with fail
       go_roundw
       case rel => exact ⟨jj + 1, nn + q, by omega, by go_num, HLen6.out, HO6.out, HL6.out⟩
       case measure => simp [intOf]; omega
      ·obtain rfl : jj = x.length := by omega
       have hsucc := Ly.joinC_succ rows x i
       rw [List.take_length, ← hsucc] at hown hnn
       have HO := Lib.hid hown
       have HL := Lib.hid hlw
       have HN := Lib.hid hnn
       clear hown hlw hnn hsucc
       go_wp2_with fail
       go_roundw
       case rel => exact ⟨i + 1, nn, hlt, by go_num, HN.out, HO.out, HL.out⟩
       case measure => simp [intOf]; omega
    ·obtain rfl : i = rows := by omega
     have hrl := Ly.joinC_len (x := x) (Nat.le_refl i)
     have hri := Ly.joinC_in (rows := i) (i := i) (x := x) HT.out.in_
     subst hll
     have hpos2 : 0 < (Ly.joinC i x i).length := by rw [hrl]; exact Nat.mul_pos hr1 hw1
     have hlM : (Ly.joinC i x i).length ≤ 65536 := by rw [hrl, ← HM.out]; exact htot
     obtain ⟨C2, d2, hv, hto⟩ := TenO.of_row (own_base hown (show w.heap.size ≤ w3.heap.size by omega)) (HI3.out.below hlw (Nat.le_refl _)) hc1 hc2 Hfr0.out (by omega) (by omega) hpos2 hri
     injection hv with e1 e2 e3
     subst e1 e3
     have hzx := hlw.blk Hz3.out
     have h05 := H03.out.trans hlw
     generalize Ly.joinC i x i = L at *
     generalize hLl : L.length = ll at *
     have c0 := hzx.cell 0
     have c1 := hzx.cell 1
     have f0 := hzx.frozen 0
     have f1 := hzx.frozen 1
     simp at c0 c1
     have hz4 := (hzx.set_ 0 (.slice B s.length bc)).set_ 1 (.slice Ao ll co)
     have d0 := hz4.cell 0
     have d1 := hz4.cell 1
     simp at d0 d1
     have HLl := Lib.hid hLl
     clear hrl hri hpos2 hLl
     have Hown := Lib.hid hown
     have Hlw := Lib.hid hlw
     have Hto := Lib.hid hto
     have Hzx := Lib.hid hzx
     have H05 := Lib.hid h05
     have Hz4 := Lib.hid hz4
     clear hown hlw hto hzx h05 hz4
     go_wp2_with fail
     refine bodyPost_ret (v := .tuple #[.agg #[.slice B s.length bc, .slice Ao ll co], .int .i64 0]) (by simp [results, Tryz.results98, go_sem, d0, d1]) rfl ?_
     exact GoP.ok HE.out (TenO.box Hto.out Hzx.out) ((H05.out.set (p := ⟨w.heap.size, 0, none⟩) (Nat.le_refl _) _).set (p := ⟨w.heap.size, 1, none⟩) (Nat.le_refl _) _)
end Go.Proofs.YtbnnpkcfifejmaaGreat
namespace Go.Proofs.YtbnnpkcfifejmaaGreat
open Go.RowKit
theorem copy_one {W : World} {ad : Addr} {v : Value} (h : W.cell? ad = some v) : ∀ (j : Nat) (u : Value), [v][j]? = some u → W.cell? (ad.add j) = some u := by
 intro j u hj
 match j, hj with
 | 0, hj => simp at hj; subst hj; simpa [Addr.add] using h
set_option maxRecDepth 4000 in
set_option maxHeartbeats 8000000 in
theorem frame_one (W X O : Addr) (wc xc oc : Nat) (a b k i o st : Int) (w : World) (h0 : W.spot = none) (h1 : X.spot = none) (h2 : O.spot = none) (hw : Ints .i64 w (some W) [a, b, k]) (hx : Ints .i64 w (some X) [b, i]) (ho : Ints .i64 w (some O) [a, o]) (hwc : 3 ≤ wc) (hxc : 2 ≤ xc) (hoc : 2 ≤ oc) (hk : 1 ≤ k ∧ k ≤ 1024) (hi : 1 ≤ i ∧ i ≤ 1024) :
  Calls Tryz.prog 114 #[.slice (some W) 3 wc, .slice (some X) 2 xc, .slice (some O) 2 oc, .int .i64 st] w fun e w' => e = .returned (.agg #[.int .i64 a, .int .i64 b, .int .i64 1, .int .i64 k, .int .i64 1, .int .i64 i, .int .i64 1, .int .i64 o, .int .i64 st, .int .i64 k, .int .i64 k, .int .i64 i]) ∧ Below w.heap.size w w' := by
 obtain ⟨Wb, Wo, _⟩ := W
 obtain ⟨Xb, Xo, _⟩ := X
 obtain ⟨Ob, Oo, _⟩ := O
 simp only at h0 h1 h2
 subst h0 h1 h2
 have y0 : w.cell? ⟨Wb, Wo, none⟩ = some (.int .i64 a) := by obtain ⟨b', o', e, -, hc⟩ := hw 0 (by simp); injection e with e; injection e with e1 e2; subst e1 e2; exact hc
 have y1 : w.cell? ⟨Wb, Wo + 1, none⟩ = some (.int .i64 b) := by obtain ⟨b', o', e, -, hc⟩ := hw 1 (by simp); injection e with e; injection e with e1 e2; subst e1 e2; exact hc
 go_enter Tryz.func114, Tryz.ntmps114
 go_upto_region 1 with fail
 generalize hw1 : w.alloc (.cells #[.int .i64 0, .int .i64 0, .int .i64 0, .int .i64 0, .int .i64 0, .int .i64 0, .int .i64 0, .int .i64 0, .int .i64 0, .int .i64 0, .int .i64 0, .int .i64 0] 177) = w1
 have h01 : Later w w1 := by rw [← hw1]; exact (Later.refl w).alloc _
 have hz : Blk w1 w.heap.size 177 #[.int .i64 0, .int .i64 0, .int .i64 0, .int .i64 0, .int .i64 0, .int .i64 0, .int .i64 0, .int .i64 0, .int .i64 0, .int .i64 0, .int .i64 0, .int .i64 0] := by rw [← hw1]; exact Blk.new w _ _
 have y0 := h01.cell y0
 have y1 := h01.cell y1
 clear hw1
 have H01 := Lib.hid h01
 have Hz := Lib.hid hz
 clear h01 hz
 have hWb : Wb < w1.heap.size := World.block_lt_of_cell? _ _ y0
 have KF := Lib.hid (show ∀ Xw, Later w1 Xw → Xw.cell? ⟨Wb, Wo, none⟩ = some (.int .i64 a) ∧ Xw.cell? ⟨Wb, Wo + 1, none⟩ = some (.int .i64 b) from fun Xw h => ⟨h.cell y0, h.cell y1⟩)
 refine wp_region_noPanic ?_
 refine wp_region_held_drew (S := fun Xw => Xw.cell? ⟨Wb, Wo, none⟩ = some (.int .i64 a) ∧ Xw.cell? ⟨Wb, Wo + 1, none⟩ = some (.int .i64 b)) (by kernel_rfl) (KF.out _ Later.au) (fun hHeld => ?_)
 refine tk 0 ?_
 refine tk 1 ?_
 refine tk 2 ?_
 refine tk 3 ?_
 refine tk 4 ?_
 refine tk 5 ?_
 refine tk 6 ?_
 refine tk 7 ?_
 refine rd 8 fun K hK => ?_
 simp only [ga, gs, gz]
 go_simp
 refine hK.out _ _ (KF.out _ Later.au) (fun hHeld => ?_)
 clear hK K
 try simp only [ga, gs, gz, Act.put, sa, sz, ss]
 refine rd 9 fun K hK => ?_
 simp only [ga, gs, gz]
 go_simp
 refine hK.out _ _ ?_ (fun hHeld => ?_)
 ·(try dsimp only); (refine ⟨?_, ?_⟩ <;> (repeat (refine cell_setfar ?_ (by first | omega | (simp; done) | (simp; omega)))) <;> (refine Later.cell (Later.au : Later w1 _) ?_) <;> assumption)
 clear hK K
 try simp only [ga, gs, gz, Act.put, sa, sz, ss]
 clear KF
 refine wpAnyH_done (by kernel_rfl) ?_ _
 refine NoPanic.normal ?_
 go_upto_region 4 with fail
 have hk2 : Blk (w1.alloc (.cells #[.int .i64 a, .int .i64 b, .int .i64 1, .int .i64 1, .int .i64 1, .int .i64 1, .int .i64 1, .int .i64 1, .int .i64 st, .int .i64 0, .int .i64 0, .int .i64 0] 177)).drew w1.heap.size 177 [.int .i64 a, .int .i64 b, .int .i64 1, .int .i64 1, .int .i64 1, .int .i64 1, .int .i64 1, .int .i64 1, .int .i64 st, .int .i64 0, .int .i64 0, .int .i64 0].toArray := (Blk.new w1 _ _).drew
 have h12 : Later w1 (w1.alloc (.cells #[.int .i64 a, .int .i64 b, .int .i64 1, .int .i64 1, .int .i64 1, .int .i64 1, .int .i64 1, .int .i64 1, .int .i64 st, .int .i64 0, .int .i64 0, .int .i64 0] 177)).drew := ((Later.refl w1).alloc _).drew
 generalize (w1.alloc (.cells #[.int .i64 a, .int .i64 b, .int .i64 1, .int .i64 1, .int .i64 1, .int .i64 1, .int .i64 1, .int .i64 1, .int .i64 st, .int .i64 0, .int .i64 0, .int .i64 0] 177)).drew = w2 at *
 obtain ⟨fr, hfr⟩ : ∃ fr, fr = w1.heap.size := ⟨_, rfl⟩
 rw [← hfr] at hk2 ⊢
 have Hfr := Lib.hid hfr
 clear hfr y0 y1
 have hu : Tryz.prog.underlying 23 = some (.slice 3) := Tryz.underlying23
 have hsz : (Tryz.prog.info? 3).map (·.size) = some 1 := by kernel_rfl
 have hwc2 : ¬ wc = 2 := by omega
 have hxc1 : ¬ xc = 1 := by omega
 have hoc1 : ¬ oc = 1 := by omega
 have q1 : (2 : Int) ≤ (wc : Int) := by omega
 have q3 : (1 : Int) ≤ (xc : Int) := by omega
 have q4 : (1 : Int) ≤ (oc : Int) := by omega
 have hWf : Wb < fr := by rw [Hfr.out]; exact hWb
 have x1 : w.cell? ⟨Xb, Xo + 1, none⟩ = some (.int .i64 i) := by obtain ⟨b', o', e, -, hc⟩ := hx 1 (by simp); injection e with e; injection e with e1 e2; subst e1 e2; exact hc
 have x2 : w.cell? ⟨Ob, Oo + 1, none⟩ = some (.int .i64 o) := by obtain ⟨b', o', e, -, hc⟩ := ho 1 (by simp); injection e with e; injection e with e1 e2; subst e1 e2; exact hc
 have y2 : w2.cell? ⟨Wb, Wo + 2, none⟩ = some (.int .i64 k) := h12.cell (H01.out.cell (by obtain ⟨b', o', e, -, hc⟩ := hw 2 (by simp); injection e with e; injection e with e1 e2; subst e1 e2; exact hc))
 have y3 := h12.cell (H01.out.cell x1)
 have y4 := h12.cell (H01.out.cell x2)
 have hXf : Xb < fr := by rw [Hfr.out]; exact World.block_lt_of_cell? _ _ (H01.out.cell x1)
 have hOf : Ob < fr := by rw [Hfr.out]; exact World.block_lt_of_cell? _ _ (H01.out.cell x2)
 have Y3 := Lib.hid y3
 have Y4 := Lib.hid y4
 clear hw hx ho x1 x2 y3 y4
 have Hk2 := Lib.hid hk2
 have H12 := Lib.hid h12
 clear hk2 h12
 go_upto_region 4 with fail
 have KF := Lib.hid (show ∀ Xw, Later w2 Xw → Xw.cell? ⟨Wb, Wo + 2, none⟩ = some (.int .i64 k) from fun Xw h => h.cell y2)
 refine wp_region_noPanic ?_
 refine wp_region_held_drew (S := fun Xw => Xw.cell? ⟨Wb, Wo + 2, none⟩ = some (.int .i64 k)) (by kernel_rfl) (KF.out _ Later.au) (fun hHeld => ?_)
 refine tk 0 ?_
 refine tk 1 ?_
 refine tk 2 ?_
 refine tk 3 ?_
 refine tk 4 ?_
 refine rd 5 fun K hK => ?_
 refine step_copy_splice (by rfl) (.tmp 31) (.tmp 33) _ _ (by rfl) 3 hu hsz (some ⟨fr, 3, none⟩) (some ⟨Wb, Wo + 2, none⟩) 1 1 1 (wc - 2) (by rfl) (by rfl) fr 3 [.int .i64 a, .int .i64 b, .int .i64 1, .int .i64 1, .int .i64 1, .int .i64 1, .int .i64 1, .int .i64 1, .int .i64 st, .int .i64 0, .int .i64 0, .int .i64 0] 177 Hk2.out.drew [.int .i64 k] rfl (fun _ => ⟨rfl, _, rfl, copy_one (by assumption)⟩) (by simp) (by intro u hu; simp at hu; subst hu; rfl) fr _ (Below.refl _ _) (Nat.le_refl _) ?_
 intro w4 hg hb
 have y2 := (hb.cell (p := ⟨Wb, Wo + 2, none⟩) (by simp; omega)).trans y2
 refine hK.out _ _ (by first | exact y2 | exact KF.out _ Later.au) (fun hHeld => ?_)
 clear hK K
 try simp only [ga, gs, gz, Act.put, sa, sz, ss]
 clear KF
 refine wpAnyH_done (by kernel_rfl) ?_ _
 refine NoPanic.normal ?_
 have hk4 : Blk w4 fr 177 [.int .i64 a, .int .i64 b, .int .i64 1, .int .i64 k, .int .i64 1, .int .i64 1, .int .i64 1, .int .i64 1, .int .i64 st, .int .i64 0, .int .i64 0, .int .i64 0].toArray := hg.out
 have hbq : Below fr w2 w4 := (Below.refl fr w2).drew.trans hb
 have HBw4 := Lib.hid hbq
 clear hg hb hbq y2
 have Hk4 := Lib.hid hk4
 clear hk4
 have y3 := (HBw4.out.cell (p := ⟨Xb, Xo + 1, none⟩) hXf).trans Y3.out
 go_upto_region 5 with fail
 have KF := Lib.hid (show ∀ Xw, Later w4 Xw → Xw.cell? ⟨Xb, Xo + 1, none⟩ = some (.int .i64 i) from fun Xw h => h.cell y3)
 refine wp_region_noPanic ?_
 refine wp_region_held_drew (S := fun Xw => Xw.cell? ⟨Xb, Xo + 1, none⟩ = some (.int .i64 i)) (by kernel_rfl) (KF.out _ Later.au) (fun hHeld => ?_)
 refine tk 0 ?_
 refine tk 1 ?_
 refine tk 2 ?_
 refine tk 3 ?_
 refine tk 4 ?_
 refine rd 5 fun K hK => ?_
 refine step_copy_splice (by rfl) (.tmp 37) (.tmp 39) _ _ (by rfl) 3 hu hsz (some ⟨fr, 5, none⟩) (some ⟨Xb, Xo + 1, none⟩) 1 1 1 (xc - 1) (by rfl) (by rfl) fr 5 [.int .i64 a, .int .i64 b, .int .i64 1, .int .i64 k, .int .i64 1, .int .i64 1, .int .i64 1, .int .i64 1, .int .i64 st, .int .i64 0, .int .i64 0, .int .i64 0] 177 Hk4.out.drew [.int .i64 i] rfl (fun _ => ⟨rfl, _, rfl, copy_one (by assumption)⟩) (by simp) (by intro u hu; simp at hu; subst hu; rfl) fr _ (Below.refl _ _) (Nat.le_refl _) ?_
 intro w5 hg hb
 have y3 := (hb.cell (p := ⟨Xb, Xo + 1, none⟩) (by simp; omega)).trans y3
 refine hK.out _ _ (by first | exact y3 | exact KF.out _ Later.au) (fun hHeld => ?_)
 clear hK K
 try simp only [ga, gs, gz, Act.put, sa, sz, ss]
 clear KF
 refine wpAnyH_done (by kernel_rfl) ?_ _
 refine NoPanic.normal ?_
 have hk5 : Blk w5 fr 177 [.int .i64 a, .int .i64 b, .int .i64 1, .int .i64 k, .int .i64 1, .int .i64 i, .int .i64 1, .int .i64 1, .int .i64 st, .int .i64 0, .int .i64 0, .int .i64 0].toArray := hg.out
 have hbq : Below fr w4 w5 := (Below.refl fr w4).drew.trans hb
 have HBw5 := Lib.hid hbq
 clear hg hb hbq y3
 have Hk5 := Lib.hid hk5
 clear hk5
 have y4 := (HBw5.out.cell (p := ⟨Ob, Oo + 1, none⟩) hOf).trans ((HBw4.out.cell (p := ⟨Ob, Oo + 1, none⟩) hOf).trans Y4.out)
 go_upto_region 6 with fail
 have KF := Lib.hid (show ∀ Xw, Later w5 Xw → Xw.cell? ⟨Ob, Oo + 1, none⟩ = some (.int .i64 o) from fun Xw h => h.cell y4)
 refine wp_region_noPanic ?_
 refine wp_region_held_drew (S := fun Xw => Xw.cell? ⟨Ob, Oo + 1, none⟩ = some (.int .i64 o)) (by kernel_rfl) (KF.out _ Later.au) (fun hHeld => ?_)
 refine tk 0 ?_
 refine tk 1 ?_
 refine tk 2 ?_
 refine tk 3 ?_
 refine tk 4 ?_
 refine rd 5 fun K hK => ?_
 refine step_copy_splice (by rfl) (.tmp 43) (.tmp 45) _ _ (by rfl) 3 hu hsz (some ⟨fr, 7, none⟩) (some ⟨Ob, Oo + 1, none⟩) 1 1 1 (oc - 1) (by rfl) (by rfl) fr 7 [.int .i64 a, .int .i64 b, .int .i64 1, .int .i64 k, .int .i64 1, .int .i64 i, .int .i64 1, .int .i64 1, .int .i64 st, .int .i64 0, .int .i64 0, .int .i64 0] 177 Hk5.out.drew [.int .i64 o] rfl (fun _ => ⟨rfl, _, rfl, copy_one (by assumption)⟩) (by simp) (by intro u hu; simp at hu; subst hu; rfl) fr _ (Below.refl _ _) (Nat.le_refl _) ?_
 intro w6 hg hb
 have y4 := (hb.cell (p := ⟨Ob, Oo + 1, none⟩) (by simp; omega)).trans y4
 refine hK.out _ _ (by first | exact y4 | exact KF.out _ Later.au) (fun hHeld => ?_)
 clear hK K
 try simp only [ga, gs, gz, Act.put, sa, sz, ss]
 clear KF
 refine wpAnyH_done (by kernel_rfl) ?_ _
 refine NoPanic.normal ?_
 have hk6 : Blk w6 fr 177 [.int .i64 a, .int .i64 b, .int .i64 1, .int .i64 k, .int .i64 1, .int .i64 i, .int .i64 1, .int .i64 o, .int .i64 st, .int .i64 0, .int .i64 0, .int .i64 0].toArray := hg.out
 have hbq : Below fr w5 w6 := (Below.refl fr w5).drew.trans hb
 have HBw6 := Lib.hid hbq
 clear hg hb hbq y4
 have Hk6 := Lib.hid hk6
 clear hk6
 have hb6 : Below fr w2 w6 := (HBw4.out.trans HBw5.out).trans HBw6.out
 have h02 : Below w.heap.size w w2 := H01.out.trans H12.out
 have hle : w.heap.size ≤ fr := by rw [Hfr.out]; exact H01.out.size
 have h06 : Below w.heap.size w w6 := h02.trans (hb6.mono hle)
 have H06 := Lib.hid h06
 have hzz : Blk w6 w.heap.size 177 #[.int .i64 0, .int .i64 0, .int .i64 0, .int .i64 0, .int .i64 0, .int .i64 0, .int .i64 0, .int .i64 0, .int .i64 0, .int .i64 0, .int .i64 0, .int .i64 0] := (H12.out.blk Hz.out).below hb6 (by rw [Hfr.out]; exact Hz.out.lt)
 have hlt : w.heap.size < fr := by rw [Hfr.out]; exact Hz.out.lt
 clear h06 hb6 h02 hle y0 y1
 repeat (clear hHeld)
 have e1 : (1 : Int) * k = k := by omega
 have e2 : (1 : Int) * i = i := by omega
 have c0 : w6.cell? ⟨fr, 0, none⟩ = some (.int .i64 a) := by rw [Hk6.out.cell]; rfl
 have c1 : w6.cell? ⟨fr, 1, none⟩ = some (.int .i64 b) := by rw [Hk6.out.cell]; rfl
 have c2 : w6.cell? ⟨fr, 2, none⟩ = some (.int .i64 1) := by rw [Hk6.out.cell]; rfl
 have c3 : w6.cell? ⟨fr, 3, none⟩ = some (.int .i64 k) := by rw [Hk6.out.cell]; rfl
 have c4 : w6.cell? ⟨fr, 4, none⟩ = some (.int .i64 1) := by rw [Hk6.out.cell]; rfl
 have c5 : w6.cell? ⟨fr, 5, none⟩ = some (.int .i64 i) := by rw [Hk6.out.cell]; rfl
 have c6 : w6.cell? ⟨fr, 6, none⟩ = some (.int .i64 1) := by rw [Hk6.out.cell]; rfl
 have c7 : w6.cell? ⟨fr, 7, none⟩ = some (.int .i64 o) := by rw [Hk6.out.cell]; rfl
 have c8 : w6.cell? ⟨fr, 8, none⟩ = some (.int .i64 st) := by rw [Hk6.out.cell]; rfl
 have c9 : w6.cell? ⟨fr, 9, none⟩ = some (.int .i64 0) := by rw [Hk6.out.cell]; rfl
 have c10 : w6.cell? ⟨fr, 10, none⟩ = some (.int .i64 0) := by rw [Hk6.out.cell]; rfl
 have c11 : w6.cell? ⟨fr, 11, none⟩ = some (.int .i64 0) := by rw [Hk6.out.cell]; rfl
 have f9 := Hk6.out.frozen 9
 have f10 := Hk6.out.frozen 10
 have f11 := Hk6.out.frozen 11
 have z0 := hzz.cell 0
 have g0 := hzz.frozen 0
 have z1 := hzz.cell 1
 have g1 := hzz.frozen 1
 have z2 := hzz.cell 2
 have g2 := hzz.frozen 2
 have z3 := hzz.cell 3
 have g3 := hzz.frozen 3
 have z4 := hzz.cell 4
 have g4 := hzz.frozen 4
 have z5 := hzz.cell 5
 have g5 := hzz.frozen 5
 have z6 := hzz.cell 6
 have g6 := hzz.frozen 6
 have z7 := hzz.cell 7
 have g7 := hzz.frozen 7
 have z8 := hzz.cell 8
 have g8 := hzz.frozen 8
 have z9 := hzz.cell 9
 have g9 := hzz.frozen 9
 have z10 := hzz.cell 10
 have g10 := hzz.frozen 10
 have z11 := hzz.cell 11
 have g11 := hzz.frozen 11
 simp at z0 z1 z2 z3 z4 z5 z6 z7 z8 z9 z10 z11
 have Hzz := Lib.hid hzz
 clear hzz
 go_wp2_with fail
 have hne : w.heap.size ≠ fr := by omega
 have hf0 := ((Hzz.out.far (p := ⟨fr, 9, none⟩) hne (.int .i64 k)).far (p := ⟨fr, 10, none⟩) hne (.int .i64 k)).far (p := ⟨fr, 11, none⟩) hne (.int .i64 i)
 have hf1 := hf0.set_ 0 (.int .i64 a)
 have hf2 := hf1.set_ 1 (.int .i64 b)
 have hf3 := hf2.set_ 2 (.int .i64 1)
 have hf4 := hf3.set_ 3 (.int .i64 k)
 have hf5 := hf4.set_ 4 (.int .i64 1)
 have hf6 := hf5.set_ 5 (.int .i64 i)
 have hf7 := hf6.set_ 6 (.int .i64 1)
 have hf8 := hf7.set_ 7 (.int .i64 o)
 have hf9 := hf8.set_ 8 (.int .i64 st)
 have hf10 := hf9.set_ 9 (.int .i64 k)
 have hf11 := hf10.set_ 10 (.int .i64 k)
 have hf12 := hf11.set_ 11 (.int .i64 i)
 have d0 := hf12.cell 0
 have d1 := hf12.cell 1
 have d2 := hf12.cell 2
 have d3 := hf12.cell 3
 have d4 := hf12.cell 4
 have d5 := hf12.cell 5
 have d6 := hf12.cell 6
 have d7 := hf12.cell 7
 have d8 := hf12.cell 8
 have d9 := hf12.cell 9
 have d10 := hf12.cell 10
 have d11 := hf12.cell 11
 simp at d0 d1 d2 d3 d4 d5 d6 d7 d8 d9 d10 d11
 clear hf0 hf1 hf2 hf3 hf4 hf5 hf6 hf7 hf8 hf9 hf10 hf11 hf12 c0 z0 g0 c1 z1 g1 c2 z2 g2 c3 z3 g3 c4 z4 g4 c5 z5 g5 c6 z6 g6 c7 z7 g7 c8 z8 g8 c9 z9 g9 c10 z10 g10 c11 z11 g11 f9 f10 f11 e1 e2
 refine bodyPost_ret (v := .agg #[.int .i64 a, .int .i64 b, .int .i64 1, .int .i64 k, .int .i64 1, .int .i64 i, .int .i64 1, .int .i64 o, .int .i64 st, .int .i64 k, .int .i64 k, .int .i64 i]) (by simp [results, Tryz.results114, go_sem, d0, d1, d2, d3, d4, d5, d6, d7, d8, d9, d10, d11]) rfl ⟨rfl, ?_⟩
 repeat (refine Below.setCell ?_ (by first | exact Nat.le_refl _ | (simp; omega) | omega) _)
 exact H06.out
theorem copy_two {W : World} {b o : Nat} {v u : Value} (h : W.cell? ⟨b, o, none⟩ = some v) (h2 : W.cell? ⟨b, o + 1, none⟩ = some u) : ∀ (j : Nat) (x : Value), [v, u][j]? = some x → W.cell? ((⟨b, o, none⟩ : Addr).add j) = some x := by
 intro j x hj
 match j, hj with
 | 0, hj => simp at hj; subst hj; simpa [Addr.add] using h
 | 1, hj => simp at hj; subst hj; simpa [Addr.add] using h2
set_option maxRecDepth 4000 in
set_option maxHeartbeats 8000000 in
theorem frame_two (W X O : Addr) (wc xc oc : Nat) (a b k kk i ii o oo st : Int) (w : World) (h0 : W.spot = none) (h1 : X.spot = none) (h2 : O.spot = none) (hw : Ints .i64 w (some W) [a, b, k, kk]) (hx : Ints .i64 w (some X) [b, i, ii]) (ho : Ints .i64 w (some O) [a, o, oo]) (hwc : 4 ≤ wc) (hxc : 3 ≤ xc) (hoc : 3 ≤ oc) (hk : 0 ≤ k * kk ∧ k * kk ≤ 1048576) (hi : 0 ≤ i * ii ∧ i * ii ≤ 1048576) :
  Calls Tryz.prog 114 #[.slice (some W) 4 wc, .slice (some X) 3 xc, .slice (some O) 3 oc, .int .i64 st] w fun e w' => e = .returned (.agg #[.int .i64 a, .int .i64 b, .int .i64 k, .int .i64 kk, .int .i64 i, .int .i64 ii, .int .i64 o, .int .i64 oo, .int .i64 st, .int .i64 kk, .int .i64 (k * kk), .int .i64 (i * ii)]) ∧ Below w.heap.size w w' := by
 obtain ⟨Wb, Wo, _⟩ := W
 obtain ⟨Xb, Xo, _⟩ := X
 obtain ⟨Ob, Oo, _⟩ := O
 simp only at h0 h1 h2
 subst h0 h1 h2
 have y0 : w.cell? ⟨Wb, Wo, none⟩ = some (.int .i64 a) := by obtain ⟨b', o', e, -, hc⟩ := hw 0 (by simp); injection e with e; injection e with e1 e2; subst e1 e2; exact hc
 have y1 : w.cell? ⟨Wb, Wo + 1, none⟩ = some (.int .i64 b) := by obtain ⟨b', o', e, -, hc⟩ := hw 1 (by simp); injection e with e; injection e with e1 e2; subst e1 e2; exact hc
 go_enter Tryz.func114, Tryz.ntmps114
 go_upto_region 1 with fail
 generalize hw1 : w.alloc (.cells #[.int .i64 0, .int .i64 0, .int .i64 0, .int .i64 0, .int .i64 0, .int .i64 0, .int .i64 0, .int .i64 0, .int .i64 0, .int .i64 0, .int .i64 0, .int .i64 0] 177) = w1
 have h01 : Later w w1 := by rw [← hw1]; exact (Later.refl w).alloc _
 have hz : Blk w1 w.heap.size 177 #[.int .i64 0, .int .i64 0, .int .i64 0, .int .i64 0, .int .i64 0, .int .i64 0, .int .i64 0, .int .i64 0, .int .i64 0, .int .i64 0, .int .i64 0, .int .i64 0] := by rw [← hw1]; exact Blk.new w _ _
 have y0 := h01.cell y0
 have y1 := h01.cell y1
 clear hw1
 have H01 := Lib.hid h01
 have Hz := Lib.hid hz
 clear h01 hz
 have hWb : Wb < w1.heap.size := World.block_lt_of_cell? _ _ y0
 have KF := Lib.hid (show ∀ Xw, Later w1 Xw → Xw.cell? ⟨Wb, Wo, none⟩ = some (.int .i64 a) ∧ Xw.cell? ⟨Wb, Wo + 1, none⟩ = some (.int .i64 b) from fun Xw h => ⟨h.cell y0, h.cell y1⟩)
 refine wp_region_noPanic ?_
 refine wp_region_held_drew (S := fun Xw => Xw.cell? ⟨Wb, Wo, none⟩ = some (.int .i64 a) ∧ Xw.cell? ⟨Wb, Wo + 1, none⟩ = some (.int .i64 b)) (by kernel_rfl) (KF.out _ Later.au) (fun hHeld => ?_)
 refine tk 0 ?_
 refine tk 1 ?_
 refine tk 2 ?_
 refine tk 3 ?_
 refine tk 4 ?_
 refine tk 5 ?_
 refine tk 6 ?_
 refine tk 7 ?_
 refine rd 8 fun K hK => ?_
 simp only [ga, gs, gz]
 go_simp
 refine hK.out _ _ (KF.out _ Later.au) (fun hHeld => ?_)
 clear hK K
 try simp only [ga, gs, gz, Act.put, sa, sz, ss]
 refine rd 9 fun K hK => ?_
 simp only [ga, gs, gz]
 go_simp
 refine hK.out _ _ ?_ (fun hHeld => ?_)
 ·(try dsimp only); (refine ⟨?_, ?_⟩ <;> (repeat (refine cell_setfar ?_ (by first | omega | (simp; done) | (simp; omega)))) <;> (refine Later.cell (Later.au : Later w1 _) ?_) <;> assumption)
 clear hK K
 try simp only [ga, gs, gz, Act.put, sa, sz, ss]
 clear KF
 refine wpAnyH_done (by kernel_rfl) ?_ _
 refine NoPanic.normal ?_
 go_upto_region 4 with fail
 have hk2 : Blk (w1.alloc (.cells #[.int .i64 a, .int .i64 b, .int .i64 1, .int .i64 1, .int .i64 1, .int .i64 1, .int .i64 1, .int .i64 1, .int .i64 st, .int .i64 0, .int .i64 0, .int .i64 0] 177)).drew w1.heap.size 177 [.int .i64 a, .int .i64 b, .int .i64 1, .int .i64 1, .int .i64 1, .int .i64 1, .int .i64 1, .int .i64 1, .int .i64 st, .int .i64 0, .int .i64 0, .int .i64 0].toArray := (Blk.new w1 _ _).drew
 have h12 : Later w1 (w1.alloc (.cells #[.int .i64 a, .int .i64 b, .int .i64 1, .int .i64 1, .int .i64 1, .int .i64 1, .int .i64 1, .int .i64 1, .int .i64 st, .int .i64 0, .int .i64 0, .int .i64 0] 177)).drew := ((Later.refl w1).alloc _).drew
 generalize (w1.alloc (.cells #[.int .i64 a, .int .i64 b, .int .i64 1, .int .i64 1, .int .i64 1, .int .i64 1, .int .i64 1, .int .i64 1, .int .i64 st, .int .i64 0, .int .i64 0, .int .i64 0] 177)).drew = w2 at *
 obtain ⟨fr, hfr⟩ : ∃ fr, fr = w1.heap.size := ⟨_, rfl⟩
 rw [← hfr] at hk2 ⊢
 have Hfr := Lib.hid hfr
 clear hfr y0 y1
 have hu : Tryz.prog.underlying 23 = some (.slice 3) := Tryz.underlying23
 have hsz : (Tryz.prog.info? 3).map (·.size) = some 1 := by kernel_rfl
 have hwc2 : ¬ wc = 2 := by omega
 have hxc1 : ¬ xc = 1 := by omega
 have hoc1 : ¬ oc = 1 := by omega
 have q1 : (2 : Int) ≤ (wc : Int) := by omega
 have q3 : (1 : Int) ≤ (xc : Int) := by omega
 have q4 : (1 : Int) ≤ (oc : Int) := by omega
 have hWf : Wb < fr := by rw [Hfr.out]; exact hWb
 have u0 : w.cell? ⟨Wb, Wo + 2, none⟩ = some (.int .i64 k) := by obtain ⟨b', o', e, -, hc⟩ := hw 2 (by simp); injection e with e; injection e with e1 e2; subst e1 e2; exact hc
 have u1 : w.cell? ⟨Wb, Wo + 3, none⟩ = some (.int .i64 kk) := by obtain ⟨b', o', e, -, hc⟩ := hw 3 (by simp); injection e with e; injection e with e1 e2; subst e1 e2; exact hc
 have x0 : w.cell? ⟨Xb, Xo + 1, none⟩ = some (.int .i64 i) := by obtain ⟨b', o', e, -, hc⟩ := hx 1 (by simp); injection e with e; injection e with e1 e2; subst e1 e2; exact hc
 have x1 : w.cell? ⟨Xb, Xo + 2, none⟩ = some (.int .i64 ii) := by obtain ⟨b', o', e, -, hc⟩ := hx 2 (by simp); injection e with e; injection e with e1 e2; subst e1 e2; exact hc
 have v0 : w.cell? ⟨Ob, Oo + 1, none⟩ = some (.int .i64 o) := by obtain ⟨b', o', e, -, hc⟩ := ho 1 (by simp); injection e with e; injection e with e1 e2; subst e1 e2; exact hc
 have v1 : w.cell? ⟨Ob, Oo + 2, none⟩ = some (.int .i64 oo) := by obtain ⟨b', o', e, -, hc⟩ := ho 2 (by simp); injection e with e; injection e with e1 e2; subst e1 e2; exact hc
 have y2 := h12.cell (H01.out.cell u0)
 have y2b := h12.cell (H01.out.cell u1)
 have y3 := h12.cell (H01.out.cell x0)
 have y3b := h12.cell (H01.out.cell x1)
 have y4 := h12.cell (H01.out.cell v0)
 have y4b := h12.cell (H01.out.cell v1)
 have hXf : Xb < fr := by rw [Hfr.out]; exact World.block_lt_of_cell? _ _ (H01.out.cell x0)
 have hOf : Ob < fr := by rw [Hfr.out]; exact World.block_lt_of_cell? _ _ (H01.out.cell v0)
 have Y3 := Lib.hid y3
 have Y4 := Lib.hid y4
 have Y3b := Lib.hid y3b
 have Y4b := Lib.hid y4b
 clear hw hx ho u0 u1 x0 x1 v0 v1 y3 y3b y4 y4b
 repeat (clear hHeld)
 have Hk2 := Lib.hid hk2
 have H12 := Lib.hid h12
 clear hk2 h12
 go_upto_region 4 with fail
 have KF := Lib.hid (show ∀ Xw, Later w2 Xw → Xw.cell? ⟨Wb, Wo + 2, none⟩ = some (.int .i64 k) ∧ Xw.cell? ⟨Wb, Wo + 3, none⟩ = some (.int .i64 kk) from fun Xw h => ⟨h.cell y2, h.cell y2b⟩)
 refine wp_region_noPanic ?_
 refine wp_region_held_drew (S := fun Xw => Xw.cell? ⟨Wb, Wo + 2, none⟩ = some (.int .i64 k) ∧ Xw.cell? ⟨Wb, Wo + 3, none⟩ = some (.int .i64 kk)) (by kernel_rfl) (KF.out _ Later.au) (fun hHeld => ?_)
 refine tk 0 ?_
 refine tk 1 ?_
 refine tk 2 ?_
 refine tk 3 ?_
 refine tk 4 ?_
 refine rd 5 fun K hK => ?_
 refine step_copy_splice (by rfl) (.tmp 31) (.tmp 33) _ _ (by rfl) 3 hu hsz (some ⟨fr, 2, none⟩) (some ⟨Wb, Wo + 2, none⟩) 2 2 2 (wc - 2) (by rfl) (by rfl) fr 2 [.int .i64 a, .int .i64 b, .int .i64 1, .int .i64 1, .int .i64 1, .int .i64 1, .int .i64 1, .int .i64 1, .int .i64 st, .int .i64 0, .int .i64 0, .int .i64 0] 177 Hk2.out.drew ([.int .i64 k, .int .i64 kk] : List Value) rfl (fun _ => ⟨rfl, _, rfl, copy_two y2 y2b⟩) (by simp) (by intro u hu; simp at hu; rcases hu with rfl | rfl <;> rfl) fr _ (Below.refl _ _) (Nat.le_refl _) ?_
 intro w4 hg hb
 have y2 := (hb.cell (p := ⟨Wb, Wo + 2, none⟩) (by simp; omega)).trans y2
 have y2b := (hb.cell (p := ⟨Wb, Wo + 3, none⟩) (by simp; omega)).trans y2b
 refine hK.out _ _ (by first | exact ⟨y2, y2b⟩ | exact KF.out _ Later.au) (fun hHeld => ?_)
 clear hK K
 try simp only [ga, gs, gz, Act.put, sa, sz, ss]
 clear KF
 refine wpAnyH_done (by kernel_rfl) ?_ _
 refine NoPanic.normal ?_
 have hk4 : Blk w4 fr 177 [.int .i64 a, .int .i64 b, .int .i64 k, .int .i64 kk, .int .i64 1, .int .i64 1, .int .i64 1, .int .i64 1, .int .i64 st, .int .i64 0, .int .i64 0, .int .i64 0].toArray := hg.out
 have hbq : Below fr w2 w4 := (Below.refl fr w2).drew.trans hb
 have HBw4 := Lib.hid hbq
 clear hg hb hbq y2 y2b
 repeat (clear hHeld)
 have Hk4 := Lib.hid hk4
 clear hk4
 have y3 := (HBw4.out.cell (p := ⟨Xb, Xo + 1, none⟩) hXf).trans Y3.out
 have y3b := (HBw4.out.cell (p := ⟨Xb, Xo + 2, none⟩) hXf).trans Y3b.out
 go_upto_region 5 with fail
 have KF := Lib.hid (show ∀ Xw, Later w4 Xw → Xw.cell? ⟨Xb, Xo + 1, none⟩ = some (.int .i64 i) ∧ Xw.cell? ⟨Xb, Xo + 2, none⟩ = some (.int .i64 ii) from fun Xw h => ⟨h.cell y3, h.cell y3b⟩)
 refine wp_region_noPanic ?_
 refine wp_region_held_drew (S := fun Xw => Xw.cell? ⟨Xb, Xo + 1, none⟩ = some (.int .i64 i) ∧ Xw.cell? ⟨Xb, Xo + 2, none⟩ = some (.int .i64 ii)) (by kernel_rfl) (KF.out _ Later.au) (fun hHeld => ?_)
 refine tk 0 ?_
 refine tk 1 ?_
 refine tk 2 ?_
 refine tk 3 ?_
 refine tk 4 ?_
 refine rd 5 fun K hK => ?_
 refine step_copy_splice (by rfl) (.tmp 37) (.tmp 39) _ _ (by rfl) 3 hu hsz (some ⟨fr, 4, none⟩) (some ⟨Xb, Xo + 1, none⟩) 2 2 2 (xc - 1) (by rfl) (by rfl) fr 4 [.int .i64 a, .int .i64 b, .int .i64 k, .int .i64 kk, .int .i64 1, .int .i64 1, .int .i64 1, .int .i64 1, .int .i64 st, .int .i64 0, .int .i64 0, .int .i64 0] 177 Hk4.out.drew ([.int .i64 i, .int .i64 ii] : List Value) rfl (fun _ => ⟨rfl, _, rfl, copy_two y3 y3b⟩) (by simp) (by intro u hu; simp at hu; rcases hu with rfl | rfl <;> rfl) fr _ (Below.refl _ _) (Nat.le_refl _) ?_
 intro w5 hg hb
 have y3 := (hb.cell (p := ⟨Xb, Xo + 1, none⟩) (by simp; omega)).trans y3
 have y3b := (hb.cell (p := ⟨Xb, Xo + 2, none⟩) (by simp; omega)).trans y3b
 refine hK.out _ _ (by first | exact ⟨y3, y3b⟩ | exact KF.out _ Later.au) (fun hHeld => ?_)
 clear hK K
 try simp only [ga, gs, gz, Act.put, sa, sz, ss]
 clear KF
 refine wpAnyH_done (by kernel_rfl) ?_ _
 refine NoPanic.normal ?_
 have hk5 : Blk w5 fr 177 [.int .i64 a, .int .i64 b, .int .i64 k, .int .i64 kk, .int .i64 i, .int .i64 ii, .int .i64 1, .int .i64 1, .int .i64 st, .int .i64 0, .int .i64 0, .int .i64 0].toArray := hg.out
 have hbq : Below fr w4 w5 := (Below.refl fr w4).drew.trans hb
 have HBw5 := Lib.hid hbq
 clear hg hb hbq y3 y3b
 repeat (clear hHeld)
 have Hk5 := Lib.hid hk5
 clear hk5
 have y4 := (HBw5.out.cell (p := ⟨Ob, Oo + 1, none⟩) hOf).trans ((HBw4.out.cell (p := ⟨Ob, Oo + 1, none⟩) hOf).trans Y4.out)
 have y4b := (HBw5.out.cell (p := ⟨Ob, Oo + 2, none⟩) hOf).trans ((HBw4.out.cell (p := ⟨Ob, Oo + 2, none⟩) hOf).trans Y4b.out)
 go_upto_region 6 with fail
 have KF := Lib.hid (show ∀ Xw, Later w5 Xw → Xw.cell? ⟨Ob, Oo + 1, none⟩ = some (.int .i64 o) ∧ Xw.cell? ⟨Ob, Oo + 2, none⟩ = some (.int .i64 oo) from fun Xw h => ⟨h.cell y4, h.cell y4b⟩)
 refine wp_region_noPanic ?_
 refine wp_region_held_drew (S := fun Xw => Xw.cell? ⟨Ob, Oo + 1, none⟩ = some (.int .i64 o) ∧ Xw.cell? ⟨Ob, Oo + 2, none⟩ = some (.int .i64 oo)) (by kernel_rfl) (KF.out _ Later.au) (fun hHeld => ?_)
 refine tk 0 ?_
 refine tk 1 ?_
 refine tk 2 ?_
 refine tk 3 ?_
 refine tk 4 ?_
 refine rd 5 fun K hK => ?_
 refine step_copy_splice (by rfl) (.tmp 43) (.tmp 45) _ _ (by rfl) 3 hu hsz (some ⟨fr, 6, none⟩) (some ⟨Ob, Oo + 1, none⟩) 2 2 2 (oc - 1) (by rfl) (by rfl) fr 6 [.int .i64 a, .int .i64 b, .int .i64 k, .int .i64 kk, .int .i64 i, .int .i64 ii, .int .i64 1, .int .i64 1, .int .i64 st, .int .i64 0, .int .i64 0, .int .i64 0] 177 Hk5.out.drew ([.int .i64 o, .int .i64 oo] : List Value) rfl (fun _ => ⟨rfl, _, rfl, copy_two y4 y4b⟩) (by simp) (by intro u hu; simp at hu; rcases hu with rfl | rfl <;> rfl) fr _ (Below.refl _ _) (Nat.le_refl _) ?_
 intro w6 hg hb
 have y4 := (hb.cell (p := ⟨Ob, Oo + 1, none⟩) (by simp; omega)).trans y4
 have y4b := (hb.cell (p := ⟨Ob, Oo + 2, none⟩) (by simp; omega)).trans y4b
 refine hK.out _ _ (by first | exact ⟨y4, y4b⟩ | exact KF.out _ Later.au) (fun hHeld => ?_)
 clear hK K
 try simp only [ga, gs, gz, Act.put, sa, sz, ss]
 clear KF
 refine wpAnyH_done (by kernel_rfl) ?_ _
 refine NoPanic.normal ?_
 have hk6 : Blk w6 fr 177 [.int .i64 a, .int .i64 b, .int .i64 k, .int .i64 kk, .int .i64 i, .int .i64 ii, .int .i64 o, .int .i64 oo, .int .i64 st, .int .i64 0, .int .i64 0, .int .i64 0].toArray := hg.out
 have hbq : Below fr w5 w6 := (Below.refl fr w5).drew.trans hb
 have HBw6 := Lib.hid hbq
 clear hg hb hbq y4 y4b
 repeat (clear hHeld)
 have Hk6 := Lib.hid hk6
 clear hk6
 have hb6 : Below fr w2 w6 := (HBw4.out.trans HBw5.out).trans HBw6.out
 have h02 : Below w.heap.size w w2 := H01.out.trans H12.out
 have hle : w.heap.size ≤ fr := by rw [Hfr.out]; exact H01.out.size
 have h06 : Below w.heap.size w w6 := h02.trans (hb6.mono hle)
 have H06 := Lib.hid h06
 have hzz : Blk w6 w.heap.size 177 #[.int .i64 0, .int .i64 0, .int .i64 0, .int .i64 0, .int .i64 0, .int .i64 0, .int .i64 0, .int .i64 0, .int .i64 0, .int .i64 0, .int .i64 0, .int .i64 0] := (H12.out.blk Hz.out).below hb6 (by rw [Hfr.out]; exact Hz.out.lt)
 have hlt : w.heap.size < fr := by rw [Hfr.out]; exact Hz.out.lt
 have hne : w.heap.size ≠ fr := by omega
 have hf0 := ((hzz.far (p := ⟨fr, 9, none⟩) hne (.int .i64 kk)).far (p := ⟨fr, 10, none⟩) hne (.int .i64 (k * kk))).far (p := ⟨fr, 11, none⟩) hne (.int .i64 (i * ii))
 have hf1 := hf0.set_ 0 (.int .i64 (a))
 have hf2 := hf1.set_ 1 (.int .i64 (b))
 have hf3 := hf2.set_ 2 (.int .i64 (k))
 have hf4 := hf3.set_ 3 (.int .i64 (kk))
 have hf5 := hf4.set_ 4 (.int .i64 (i))
 have hf6 := hf5.set_ 5 (.int .i64 (ii))
 have hf7 := hf6.set_ 6 (.int .i64 (o))
 have hf8 := hf7.set_ 7 (.int .i64 (oo))
 have hf9 := hf8.set_ 8 (.int .i64 (st))
 have hf10 := hf9.set_ 9 (.int .i64 (kk))
 have hf11 := hf10.set_ 10 (.int .i64 (k * kk))
 have hf12 := hf11.set_ 11 (.int .i64 (i * ii))
 have d0 := hf12.cell 0
 have d1 := hf12.cell 1
 have d2 := hf12.cell 2
 have d3 := hf12.cell 3
 have d4 := hf12.cell 4
 have d5 := hf12.cell 5
 have d6 := hf12.cell 6
 have d7 := hf12.cell 7
 have d8 := hf12.cell 8
 have d9 := hf12.cell 9
 have d10 := hf12.cell 10
 have d11 := hf12.cell 11
 simp at d0 d1 d2 d3 d4 d5 d6 d7 d8 d9 d10 d11
 clear hf0 hf1 hf2 hf3 hf4 hf5 hf6 hf7 hf8 hf9 hf10 hf11 hf12
 have D0 := Lib.hid d0
 have D1 := Lib.hid d1
 have D2 := Lib.hid d2
 have D3 := Lib.hid d3
 have D4 := Lib.hid d4
 have D5 := Lib.hid d5
 have D6 := Lib.hid d6
 have D7 := Lib.hid d7
 have D8 := Lib.hid d8
 have D9 := Lib.hid d9
 have D10 := Lib.hid d10
 have D11 := Lib.hid d11
 clear d0 d1 d2 d3 d4 d5 d6 d7 d8 d9 d10 d11 h06 hb6 h02 hle
 have c0 : w6.cell? ⟨fr, 0, none⟩ = some (.int .i64 a) := by rw [Hk6.out.cell]; rfl
 have c1 : w6.cell? ⟨fr, 1, none⟩ = some (.int .i64 b) := by rw [Hk6.out.cell]; rfl
 have c2 : w6.cell? ⟨fr, 2, none⟩ = some (.int .i64 k) := by rw [Hk6.out.cell]; rfl
 have c3 : w6.cell? ⟨fr, 3, none⟩ = some (.int .i64 kk) := by rw [Hk6.out.cell]; rfl
 have c4 : w6.cell? ⟨fr, 4, none⟩ = some (.int .i64 i) := by rw [Hk6.out.cell]; rfl
 have c5 : w6.cell? ⟨fr, 5, none⟩ = some (.int .i64 ii) := by rw [Hk6.out.cell]; rfl
 have c6 : w6.cell? ⟨fr, 6, none⟩ = some (.int .i64 o) := by rw [Hk6.out.cell]; rfl
 have c7 : w6.cell? ⟨fr, 7, none⟩ = some (.int .i64 oo) := by rw [Hk6.out.cell]; rfl
 have c8 : w6.cell? ⟨fr, 8, none⟩ = some (.int .i64 st) := by rw [Hk6.out.cell]; rfl
 have c9 : w6.cell? ⟨fr, 9, none⟩ = some (.int .i64 0) := by rw [Hk6.out.cell]; rfl
 have c10 : w6.cell? ⟨fr, 10, none⟩ = some (.int .i64 0) := by rw [Hk6.out.cell]; rfl
 have c11 : w6.cell? ⟨fr, 11, none⟩ = some (.int .i64 0) := by rw [Hk6.out.cell]; rfl
 have f9 := Hk6.out.frozen 9
 have f10 := Hk6.out.frozen 10
 have f11 := Hk6.out.frozen 11
 obtain ⟨m1, m2⟩ := hk
 obtain ⟨m3, m4⟩ := hi
 have z0 := hzz.cell 0
 have g0 := hzz.frozen 0
 have z1 := hzz.cell 1
 have g1 := hzz.frozen 1
 have z2 := hzz.cell 2
 have g2 := hzz.frozen 2
 have z3 := hzz.cell 3
 have g3 := hzz.frozen 3
 have z4 := hzz.cell 4
 have g4 := hzz.frozen 4
 have z5 := hzz.cell 5
 have g5 := hzz.frozen 5
 have z6 := hzz.cell 6
 have g6 := hzz.frozen 6
 have z7 := hzz.cell 7
 have g7 := hzz.frozen 7
 have z8 := hzz.cell 8
 have g8 := hzz.frozen 8
 have z9 := hzz.cell 9
 have g9 := hzz.frozen 9
 have z10 := hzz.cell 10
 have g10 := hzz.frozen 10
 have z11 := hzz.cell 11
 have g11 := hzz.frozen 11
 simp at z0 z1 z2 z3 z4 z5 z6 z7 z8 z9 z10 z11
 have Hzz := Lib.hid hzz
 clear hzz
 go_wp2_with fail
 clear c0 z0 g0 c1 z1 g1 c2 z2 g2 c3 z3 g3 c4 z4 g4 c5 z5 g5 c6 z6 g6 c7 z7 g7 c8 z8 g8 c9 z9 g9 c10 z10 g10 c11 z11 g11 f9 f10 f11
 have d0 := D0.out
 have d1 := D1.out
 have d2 := D2.out
 have d3 := D3.out
 have d4 := D4.out
 have d5 := D5.out
 have d6 := D6.out
 have d7 := D7.out
 have d8 := D8.out
 have d9 := D9.out
 have d10 := D10.out
 have d11 := D11.out
 refine bodyPost_ret (v := .agg #[.int .i64 (a), .int .i64 (b), .int .i64 (k), .int .i64 (kk), .int .i64 (i), .int .i64 (ii), .int .i64 (o), .int .i64 (oo), .int .i64 (st), .int .i64 (kk), .int .i64 (k * kk), .int .i64 (i * ii)]) (by simp [results, Tryz.results114, go_sem, d0, d1, d2, d3, d4, d5, d6, d7, d8, d9, d10, d11]) rfl ⟨rfl, ?_⟩
 repeat (refine Below.setCell ?_ (by first | exact Nat.le_refl _ | (simp; omega) | omega) _)
 exact H06.out
end Go.Proofs.YtbnnpkcfifejmaaGreat
namespace Go.Proofs.YtbnnpkcfifejmaaGreat
open Go.RowKit
def Above (b : Nat) (A B : World) : Prop := A.heap.size ≤ B.heap.size ∧ ∀ k, b ≤ k → k < A.heap.size → B.heap[k]? = A.heap[k]?
theorem Above.refl (b : Nat) (A : World) : Above b A A := ⟨Nat.le_refl _, fun _ _ _ => rfl⟩
theorem Above.trans {b : Nat} {A B C : World} (h : Above b A B) (k : Above b B C) : Above b A C :=
 ⟨Nat.le_trans h.1 k.1, fun i hi hl => (k.2 i hi (Nat.lt_of_lt_of_le hl h.1)).trans (h.2 i hi hl)⟩
theorem Above.mono {b b' : Nat} {A B : World} (h : Above b A B) (hb : b ≤ b') : Above b' A B := ⟨h.1, fun k hk hl => h.2 k (by omega) hl⟩
theorem Above.alloc (b : Nat) (A : World) (o : Obj) : Above b A (A.alloc o) := ⟨by simp, fun k _ hk => Below.heap_alloc A o k hk⟩
theorem Above.of_below {b : Nat} {A B : World} (h : Below A.heap.size A B) : Above b A B := ⟨h.size, fun k _ hk => h.block k hk⟩
theorem Above.cell {b : Nat} {A B : World} {p : Addr} {v : Value} (h : Above b A B) (hb : b ≤ p.block) (hc : A.cell? p = some v) : B.cell? p = some v :=
 (World.cell?_of_block (h.2 p.block hb (World.block_lt_of_cell? _ _ hc))).trans hc
theorem Above.frozen {b : Nat} {A B : World} {p : Addr} (h : Above b A B) (hb : b ≤ p.block) (hl : p.block < A.heap.size) : B.frozen? p = A.frozen? p :=
 World.frozen?_of_block (h.2 p.block hb hl)
theorem Above.setCell {b : Nat} {A : World} {p : Addr} (hp : p.block < b) (v : Value) : Above b A (A.setCell p v) :=
 ⟨by simp, fun k hk _ => Below.heap_setCell A p v k (by omega)⟩
theorem below_put {b l : Nat} (W : World) (o : Obj) (h : b ≤ l) : Below b W (W.putObj l o) :=
 ⟨rfl, rfl, rfl, by simp, fun k hk => World.putObj_heap_other (by omega)⟩
variable {F : Fence} {n : Nat} {P : Program}
theorem wpIn_range_first {α : Type} {g : Operand} {ps : Array Tmp} {assign body : Code} {Q : Exit → Act → World → Prop} {a : Act} {w : World}
  (m : Nat) (hro : F.round = none) (h1 : 1 ≤ n) {gf : Nat} {lf : Array Value} (hg : a.eval g = .func (.func gf) lf #[]) (hFg : F.fn gf)
  (eg : ∀ args w, (callFunc gf args).run P w = .ok (.enter gf args) w) (enc : α → Value) (hps : ps.size = 1) (xs : List α)
  (I : List α → World → Prop) (hI : ∀ pre A B, Below w.heap.size A B → I pre A → I pre B) (h0 : I [] w)
  (hseq : ∀ (l : Nat) (J : List α → World → Prop) (W : World), W.heap.size = w.heap.size + 2 → Below w.heap.size w W →
   (∀ pre A B, Below W.heap.size A B → J pre A → J pre B) →
   (∀ pre x rest A, xs = pre ++ x :: rest → J pre A → YieldAt F m P l #[enc x] A fun e B => e = .returned (.bool true) ∧ J (pre ++ [x]) B ∧ Above W.heap.size A B) →
   J [] W → CallsIn F (n - 1) P gf (lf ++ #[.func (.yield l) #[] #[]]) W fun e B => (∃ v, e = .returned v) ∧ J xs B)
  (hbody : ∀ pre x rest A, xs = pre ++ x :: rest → I pre A → w.heap.size + 2 ≤ A.heap.size →
   assign.wpIn (F.inRound (w.heap.size + 1)) m P (Exit.then (fun a₁ A₁ => Above w.heap.size A A₁ ∧
    ∀ A₂, A₂.heap.size = A₁.heap.size → (∀ k, k ≠ w.heap.size + 1 → A₂.heap[k]? = A₁.heap[k]?) → Below w.heap.size A₁ A₂ →
     body.wpIn (F.inRound (w.heap.size + 1)) m P (fun e _ B => e = .normal ∧ Above w.heap.size A₂ B ∧ I (pre ++ [x]) B) a₁ A₂) (fun _ _ _ => False))
    { tmps := (ps.zip #[enc x]).foldl (fun t (p, v) => t.setIfInBounds p v) a.tmps, defers := [] } A)
  (hdone : ∀ (D : Nat) (W : World), I xs W → w.heap.size ≤ D → W.heap[D]? = some (.deferred (some [])) → Q .normal { a with defers := { target := .collected D, args := #[] } :: a.defers } W) :
  (Code.rangeFunc g ps assign body).wpIn F n P Q a w := by
 refine wpIn_rangeFunc ?_
 intro fn hfn
 rw [hro]
 obtain ⟨rec, hrec⟩ : ∃ rec : LoopState → Option Code → Loop, rec = fun st pe => { state := st, pending := pe, fn, tmps := a.tmps, params := ps, assign, body, defers := w.heap.size } := ⟨_, rfl⟩
 obtain ⟨W1, hW1⟩ : ∃ W1, (w.alloc (.deferred (some []))).alloc (.loop (rec .ready none)) = W1 := ⟨_, rfl⟩
 have hL1 : W1.heap[w.heap.size + 1]? = some (.loop (rec .ready none)) := by
  rw [← hW1]; have := World.alloc_heap_new (w.alloc (.deferred (some []))) (.loop (rec .ready none)); rwa [World.size_alloc] at this
 have hK1 : W1.heap[w.heap.size]? = some (.deferred (some [])) := by
  rw [← hW1]; exact (Below.heap_alloc _ _ _ (by simp)).trans (World.alloc_heap_new w _)
 have hs1 : W1.heap.size = w.heap.size + 2 := by rw [← hW1]; simp
 have hb1 : Below w.heap.size w W1 := by
  rw [← hW1]; exact ((Below.refl _ w).alloc (Nat.le_refl _) _).alloc (by simp) _
 refine ⟨w.heap.size + 1, [{ target := .collected w.heap.size, args := #[] }], W1, { target := .fn (.func gf) #[], args := lf ++ #[.func (.yield (w.heap.size + 1)) #[] #[]] }, W1, gf,
  lf ++ #[.func (.yield (w.heap.size + 1)) #[] #[]], W1, ?_, ?_, ?_, ?_, fun _ => h1, ?_⟩
 ·rw [← hW1, hrec]; exact run_enterLoop_outer _ _ _ _ _
 ·simp only [resolve, hg]
  simp [go_sem]
 ·intro f' hf'; simp [Target.leads] at hf'; subst hf'; exact hFg
 ·simp [invoke, go_sem, eg]
 ·refine (hseq (w.heap.size + 1)
   (fun pre W => I pre W ∧ W.heap[w.heap.size + 1]? = some (.loop (rec .ready none)) ∧ W.heap[w.heap.size]? = some (.deferred (some [])))
   W1 hs1 hb1 ?_ ?_ ⟨hI _ _ _ hb1 h0, hL1, hK1⟩).mono ?_
  ·rintro pre A B hb ⟨hi, hl, hk⟩
   rw [hs1] at hb
   exact ⟨hI _ _ _ (hb.mono (by omega)) hi, (hb.block _ (by omega)).trans hl, (hb.block _ (by omega)).trans hk⟩
  ·rintro pre x rest A hx ⟨hi, hl, hk⟩
   have hlt : w.heap.size + 1 < A.heap.size := (Array.getElem?_eq_some_iff.1 hl).1
   have hy := run_yield (P := P) (args := #[enc x]) hl (by rw [hrec]; simp [hps])
   rw [hrec] at hy
   refine ⟨fn, _, assign, body, hy, roundIn_of_wpIn hfn (wpIn_mono (hbody pre x rest A hx hi (by omega)) ?_)⟩
   rintro e a1 A1 hq
   cases e with
   | normal =>
    obtain ⟨hab, hbd⟩ := hq
    have hl1 : A1.heap[w.heap.size + 1]? = some (.loop (rec .ready none)) := (hab.2 _ (by omega) hlt).trans hl
    have hk1 : A1.heap[w.heap.size]? = some (.deferred (some [])) := (hab.2 _ (by omega) (by omega)).trans hk
    have hlt1 : w.heap.size + 1 < A1.heap.size := (Array.getElem?_eq_some_iff.1 hl1).1
    refine ⟨_, run_beginRound hl1 (by rw [hrec]), ?_⟩
    refine wpIn_mono (hbd _ (by simp) (fun k hk' => World.putObj_heap_other hk') (below_put _ _ (by omega))) ?_
    have hl2 : (A1.putObj (w.heap.size + 1) (.loop { rec .ready none with state := .busy })).heap[w.heap.size + 1]? = some (.loop { rec .ready none with state := .busy }) := World.putObj_heap_same hlt1
    have hk2 : (A1.putObj (w.heap.size + 1) (.loop { rec .ready none with state := .busy })).heap[w.heap.size]? = some (.deferred (some [])) := (World.putObj_heap_other (by omega)).trans hk1
    rintro e a3 B ⟨rfl, hab3, hi3⟩
    have hl3 := (hab3.2 _ (by omega) (by simpa using hlt1)).trans hl2
    have hk3 := (hab3.2 _ (by omega) (by simp; omega)).trans hk2
    have hend := run_endRound (P := P) none hl3
    rw [hrec] at hend
    rw [hrec] at hl3
    have hltB : w.heap.size + 1 < B.heap.size := (Array.getElem?_eq_some_iff.1 hl3).1
    refine ⟨_, _, hend, rfl, ⟨hI _ _ _ (below_put _ _ (by omega)) hi3, ?_, (World.putObj_heap_other (by omega)).trans hk3⟩, ?_⟩
    ·rw [hrec]; exact World.putObj_heap_same hltB
    ·rw [hs1]
     refine ⟨by have := hab.1; have := hab3.1; simp at this ⊢; omega, fun k hk' hl' => ?_⟩
     refine (World.putObj_heap_other (by omega)).trans ?_
     refine (hab3.2 k (by omega) (by have := hab.1; simp; omega)).trans ?_
     exact (World.putObj_heap_other (by omega)).trans (hab.2 k (by omega) hl')
   | _ => exact hq.elim
  ·rintro e W2 ⟨⟨v, rfl⟩, hi, hl, hk⟩
   refine ⟨none, _, by have := run_endLoop (P := P) hl (by rw [hrec]; simp); rw [hrec] at this; exact this, ?_⟩
   exact hdone _ _ (hI _ _ _ (below_put _ _ (by omega)) hi) (Nat.le_refl _) ((World.putObj_heap_other (by omega)).trans hk)
end Go.Proofs.YtbnnpkcfifejmaaGreat
namespace Go.Proofs.YtbnnpkcfifejmaaGreat
open Go.RowKit
attribute [local go_sem] Oper.semAt_some
namespace Ly
def Frame.V (f : Frame) : Value := .agg #[.int .i64 f.outs, .int .i64 f.ins, .int .i64 f.k0, .int .i64 f.k1, .int .i64 f.i0, .int .i64 f.i1, .int .i64 f.o0, .int .i64 f.o1, .int .i64 f.step, .int .i64 f.k1, .int .i64 (f.k0 * f.k1 : Nat), .int .i64 (f.i0 * f.i1 : Nat)]
def Frame.oneT (f : Frame) (p i j q t u : Nat) : Touch := ⟨(p * f.o0 + i) * f.o1 + j, (p * f.ins + q) * (f.k0 * f.k1) + t * f.k1 + u, q * (f.i0 * f.i1) + (i * f.step * f.i1 + j * f.step) + t * f.i1 + u⟩
theorem Frame.rowT_eq (f : Frame) (p i j q t : Nat) : f.rowT p i j q t = (List.range f.k1).map (f.oneT p i j q t) := rfl
theorem range_split {n q : Nat} (h : q < n) : ∃ r, List.range n = List.range q ++ q :: r := by
 obtain ⟨d, rfl⟩ : ∃ d, n = q + (1 + d) := ⟨n - q - 1, by omega⟩
 refine ⟨(List.range d).map (fun x => q + (1 + x)), ?_⟩
 rw [List.range_add, List.range_add]
 simp [Function.comp_def]
theorem Frame.cellT_split (f : Frame) (p i j q t u : Nat) (hq : q < f.ins) (ht : t < f.k0) (hu : u < f.k1) :
  ∃ rest, f.cellT p i j = ((List.range q).flatMap (fun q => (List.range f.k0).flatMap fun t => f.rowT p i j q t) ++ ((List.range t).flatMap (fun t => f.rowT p i j q t) ++ (List.range u).map (f.oneT p i j q t))) ++ f.oneT p i j q t u :: rest := by
 obtain ⟨r1, h1⟩ := range_split hq
 obtain ⟨r2, h2⟩ := range_split ht
 obtain ⟨r3, h3⟩ := range_split hu
 unfold Frame.cellT
 rw [h1, List.flatMap_append, List.flatMap_cons]
 refine ⟨r3.map (f.oneT p i j q t) ++ r2.flatMap (fun t => f.rowT p i j q t) ++ r1.flatMap (fun q => (List.range f.k0).flatMap fun t => f.rowT p i j q t), ?_⟩
 conv => lhs; rhs; lhs; rw [h2, List.flatMap_append, List.flatMap_cons, Frame.rowT_eq, h3]
 simp
def Touch.V (t : Touch) : Value := .agg #[.int .i64 t.o, .int .i64 t.w, .int .i64 t.x]
end Ly
theorem wrap_own (n : Int) (h : -9223372036854775808 ≤ n ∧ n ≤ 9223372036854775807) : wrap64 n = n := by unfold wrap64; omega
theorem wr_o (p o i o1 j : Nat) (h : (p * o + i) * o1 + j ≤ 1048576) : ((((p * o + i) * o1 + j : Nat)) : Int) = wrap64 (wrap64 (((p : Int) * o + i) * o1) + j) := by
 have e : ((p : Int) * o + i) * o1 = (((p * o + i) * o1 : Nat) : Int) := by simp
 rw [e]
 generalize (p * o + i) * o1 = z at *
 rw [wrap_own z (by omega), wrap_own _ (by omega)]; simp
theorem wr_w (p s q k kk t u : Nat) (h : (p * s + q) * (k * kk) ≤ 1048576) (h2 : t * kk ≤ 1048576) (h3 : u ≤ 1048576) :
  ((((p * s + q) * (k * kk) + t * kk + u : Nat)) : Int) = wrap64 (wrap64 (wrap64 (((p : Int) * s + q) * ((k : Int) * kk)) + (t : Int) * kk) + u) := by
 have e : ((p : Int) * s + q) * ((k : Int) * kk) = (((p * s + q) * (k * kk) : Nat) : Int) := by simp
 have e2 : (t : Int) * kk = ((t * kk : Nat) : Int) := by simp
 rw [e, e2]
 generalize (p * s + q) * (k * kk) = z at *
 generalize t * kk = y at *
 rw [wrap_own z (by omega), wrap_own (z + y) (by omega), wrap_own _ (by omega)]; simp
theorem wr_x (q a b i s j t u : Nat) (h : q * (a * b) ≤ 1048576) (h2 : i * s * b ≤ 1048576) (h3 : j * s ≤ 1048576) (h4 : t * b ≤ 1048576) (h5 : u ≤ 1048576) :
  ((q * (a * b) + (i * s * b + j * s) + t * b + u : Nat) : Int) = wrap64 (wrap64 (wrap64 (wrap64 ((q : Int) * ((a : Int) * b)) + wrap64 (wrap64 ((i : Int) * s * b) + (j : Int) * s)) + (t : Int) * b) + u) := by
 have e : (q : Int) * ((a : Int) * b) = ((q * (a * b) : Nat) : Int) := by simp
 have e2 : (i : Int) * s * b = ((i * s * b : Nat) : Int) := by simp
 have e3 : (j : Int) * s = ((j * s : Nat) : Int) := by simp
 have e4 : (t : Int) * b = ((t * b : Nat) : Int) := by simp
 rw [e, e2, e3, e4]
 generalize q * (a * b) = z at *
 generalize i * s * b = y at *
 generalize j * s = x at *
 generalize t * b = v at *
 rw [wrap_own (z : Int) (by omega), wrap_own (y : Int) (by omega), wrap_own ((y : Int) + x) (by omega), wrap_own ((z : Int) + (y + x)) (by omega), wrap_own ((z : Int) + (y + x) + v) (by omega), wrap_own _ (by omega)]; simp
theorem Above.blk {b g : Nat} {t : TypeId} {cs : Array Value} {A B : World} (h : Above b A B) (hb : b ≤ g) (hk : Blk A g t cs) : Blk B g t cs :=
 (h.2 g hb hk.lt).trans hk
set_option maxHeartbeats 1000000 in
theorem frame_cell (F : Fence) (n m l : Nat) (hF : F.fn 147) (hro : F.round = none) (hn : 1 ≤ n) (f : Ly.Frame) (B : Nat) (xs : List Ly.Touch) (J : List Ly.Touch → World → Prop)
  (hJ : ∀ pre A A', Below B A A' → J pre A → J pre A')
  (hY : ∀ pre x rest A, xs = pre ++ x :: rest → J pre A → YieldAt F (n - 1) Tryz.prog l #[x.V] A fun e A' => e = .returned (.bool true) ∧ J (pre ++ [x]) A' ∧ Above B A A')
  (p i j : Nat) (pre post : List Ly.Touch) (W : World) (hB : B ≤ W.heap.size) (hx : xs = pre ++ (f.cellT p i j ++ post)) (h0 : J pre W)
  (h1 : p * f.o0 + i ≤ 1048576) (h2 : (p * f.o0 + i) * f.o1 + j ≤ 1048576) (h3 : i * f.step ≤ 1048576) (h4 : i * f.step * f.i1 ≤ 1048576) (h5 : j * f.step ≤ 1048576)
  (hq1 : ∀ q, q < f.ins → p * f.ins + q ≤ 1048576 ∧ (p * f.ins + q) * (f.k0 * f.k1) ≤ 1048576 ∧ q * (f.i0 * f.i1) ≤ 1048576) (hq2 : ∀ t, t < f.k0 → t * f.i1 ≤ 1048576 ∧ t * f.k1 ≤ 1048576) (hq3 : f.k1 ≤ 1048576) (hq4 : f.ins ≤ 1048576) (hq5 : f.k0 ≤ 1048576) :
  CallsIn F n Tryz.prog 147 #[f.V, .int .i64 p, .int .i64 i, .int .i64 j, .func (.yield l) #[] #[]] W fun e W' => e = .returned (.bool true) ∧ J (pre ++ f.cellT p i j) W' ∧ Above B W W' := by
 refine callsIn_of_wp Tryz.func147 rfl hF ?_ hro
 simp only [Tryz.ntmps147, List.size_toArray, List.length_cons, List.length_nil, Nat.reduceAdd, Nat.reduceSub, Array.replicate_succ, Array.replicate_zero, List.push_toArray, List.append_toArray, List.nil_append, List.cons_append]
 unfold Ly.Frame.V
 gi_wp2
 have hk0 := Blk.new W 177 #[.int .i64 f.outs, .int .i64 f.ins, .int .i64 f.k0, .int .i64 f.k1, .int .i64 f.i0, .int .i64 f.i1, .int .i64 f.o0, .int .i64 f.o1, .int .i64 f.step, .int .i64 f.k1, .int .i64 (f.k0 * f.k1 : Nat), .int .i64 (f.i0 * f.i1 : Nat)]
 have hj0 := hJ _ _ _ (((Below.refl B W).alloc hB (.cells #[.int .i64 f.outs, .int .i64 f.ins, .int .i64 f.k0, .int .i64 f.k1, .int .i64 f.i0, .int .i64 f.i1, .int .i64 f.o0, .int .i64 f.o1, .int .i64 f.step, .int .i64 f.k1, .int .i64 (f.k0 * f.k1 : Nat), .int .i64 (f.i0 * f.i1 : Nat)] 177))) h0
 gi_loopw [46] (fun v wr => ∃ q : Nat, q ≤ f.ins ∧ v = .int .i64 q ∧ Blk wr W.heap.size 177 #[.int .i64 f.outs, .int .i64 f.ins, .int .i64 f.k0, .int .i64 f.k1, .int .i64 f.i0, .int .i64 f.i1, .int .i64 f.o0, .int .i64 f.o1, .int .i64 f.step, .int .i64 f.k1, .int .i64 (f.k0 * f.k1 : Nat), .int .i64 (f.i0 * f.i1 : Nat)] ∧ J (pre ++ (List.range q).flatMap fun q => (List.range f.k0).flatMap fun t => f.rowT p i j q t) wr ∧ Above B W wr) (fun v _ => f.ins - (intOf v).toNat)
 case atStart => exact ⟨0, Nat.zero_le _, rfl, hk0, by simpa using hj0, Above.alloc _ _ _⟩
 case round =>
  obtain ⟨q, hq, rfl, hk, hJq, hA⟩ := hrel
  have c1 := hk.cell 1
  have c2 := hk.cell 2
  have c3 := hk.cell 3
  have c5 := hk.cell 5
  have c8 := hk.cell 8
  have c9 := hk.cell 9
  have c10 := hk.cell 10
  have c11 := hk.cell 11
  simp at c1 c2 c3 c5 c8 c9 c10 c11
  rcases Nat.lt_or_ge q f.ins with hlt | hge
  ·obtain ⟨b1, b2, b3⟩ := hq1 q hlt
   gi_wp2
   gi_loopw [61] (fun v wr => ∃ t : Nat, t ≤ f.k0 ∧ v = .int .i64 t ∧ Blk wr W.heap.size 177 #[.int .i64 f.outs, .int .i64 f.ins, .int .i64 f.k0, .int .i64 f.k1, .int .i64 f.i0, .int .i64 f.i1, .int .i64 f.o0, .int .i64 f.o1, .int .i64 f.step, .int .i64 f.k1, .int .i64 (f.k0 * f.k1 : Nat), .int .i64 (f.i0 * f.i1 : Nat)] ∧ J (pre ++ ((List.range q).flatMap (fun q => (List.range f.k0).flatMap fun t => f.rowT p i j q t) ++ (List.range t).flatMap (fun t => f.rowT p i j q t))) wr ∧ Above B W wr) (fun v _ => f.k0 - (intOf v).toNat)
   case atStart => exact ⟨0, Nat.zero_le _, rfl, hk, by simpa using hJq, hA⟩
   case round =>
    obtain ⟨t, ht, rfl, hk, hJt, hA⟩ := hrel
    clear c1 c2 c3 c5 c8 c9 c10 c11 hJq
    have c1 := hk.cell 1
    have c2 := hk.cell 2
    have c3 := hk.cell 3
    have c5 := hk.cell 5
    have c8 := hk.cell 8
    have c9 := hk.cell 9
    have c10 := hk.cell 10
    have c11 := hk.cell 11
    simp at c1 c2 c3 c5 c8 c9 c10 c11
    rcases Nat.lt_or_ge t f.k0 with htl | htg
    ·obtain ⟨d1, d2⟩ := hq2 t htl
     gi_wp2
     gi_loopw [78] (fun v wr => ∃ u : Nat, u ≤ f.k1 ∧ v = .int .i64 u ∧ Blk wr W.heap.size 177 #[.int .i64 f.outs, .int .i64 f.ins, .int .i64 f.k0, .int .i64 f.k1, .int .i64 f.i0, .int .i64 f.i1, .int .i64 f.o0, .int .i64 f.o1, .int .i64 f.step, .int .i64 f.k1, .int .i64 (f.k0 * f.k1 : Nat), .int .i64 (f.i0 * f.i1 : Nat)] ∧ J (pre ++ ((List.range q).flatMap (fun q => (List.range f.k0).flatMap fun t => f.rowT p i j q t) ++ ((List.range t).flatMap (fun t => f.rowT p i j q t) ++ (List.range u).map (f.oneT p i j q t)))) wr ∧ Above B W wr) (fun v _ => f.k1 - (intOf v).toNat)
     case atStart => exact ⟨0, Nat.zero_le _, rfl, hk, by simpa using hJt, hA⟩
     case round =>
      obtain ⟨u, hu, rfl, hk, hJu, hA⟩ := hrel
      clear c1 c2 c3 c5 c8 c9 c10 c11 hJt
      have c1 := hk.cell 1
      have c2 := hk.cell 2
      have c3 := hk.cell 3
      have c5 := hk.cell 5
      have c8 := hk.cell 8
      have c9 := hk.cell 9
      have c10 := hk.cell 10
      have c11 := hk.cell 11
      simp at c1 c2 c3 c5 c8 c9 c10 c11
      rcases Nat.lt_or_ge u f.k1 with hul | hug
      ·obtain ⟨rest, hrest⟩ := f.cellT_split p i j q t u hlt htl hul
       obtain ⟨fn, tmps, assign, body, hy, hR⟩ := hY _ (f.oneT p i j q t u) (rest ++ post) wr (by rw [hx, hrest]; simp) hJu
       simp only [Ly.Touch.V, Ly.Frame.oneT] at hy
       have x1 : ((((p * f.o0 + i) * f.o1 + j : Nat)) : Int) = wrap64 (wrap64 (((p : Int) * f.o0 + i) * f.o1) + j) := wr_o _ _ _ _ _ h2
       have x2 : ((((p * f.ins + q) * (f.k0 * f.k1) + t * f.k1 + u : Nat)) : Int) = wrap64 (wrap64 (wrap64 (((p : Int) * f.ins + q) * ((f.k0 : Int) * f.k1)) + (t : Int) * f.k1) + u) := wr_w _ _ _ _ _ _ _ b2 d2 (by omega)
       have x3 : ((q * (f.i0 * f.i1) + (i * f.step * f.i1 + j * f.step) + t * f.i1 + u : Nat) : Int) = wrap64 (wrap64 (wrap64 (wrap64 ((q : Int) * ((f.i0 : Int) * f.i1)) + wrap64 (wrap64 ((i : Int) * f.step * f.i1) + (j : Int) * f.step)) + (t : Int) * f.i1) + u) := wr_x _ _ _ _ _ _ _ _ b3 h4 h5 d1 (by omega)
       rw [x1, x2, x3] at hy
       gi_wp2
       refine hR.mono ?_
       rintro e W3 ⟨rfl, hJ3, hA3⟩
       have hk3 := hA3.blk hB hk
       clear hy hR c1 c2 c3 c5 c8 c9 c10 c11
       gi_wp2
       refine ⟨?_, ?_⟩
       ·refine ⟨_, _, _, _, _, _, _, _, _, _, _, _, _, _, _, _, _, _, _, _, _, _, ⟨u + 1, hul, ?_, hk3, ?_, hA.trans hA3⟩, rfl⟩
        ·simp
        ·rw [List.range_succ, List.map_append]; simpa using hJ3
       ·simp [intOf]; omega
      ·obtain rfl : u = f.k1 := by omega
       gi_wp2
       go_roundw
       case rel => exact ⟨t + 1, htl, by simp, hk, by rw [List.range_succ, List.flatMap_append]; simpa [Ly.Frame.rowT_eq] using hJu, hA⟩
       case measure => simp [intOf]; omega
    ·obtain rfl : t = f.k0 := by omega
     gi_wp2
     go_roundw
     case rel => exact ⟨q + 1, hlt, by simp, hk, by rw [List.range_succ, List.flatMap_append]; simpa using hJt, hA⟩
     case measure => simp [intOf]; omega
  ·obtain rfl : q = f.ins := by omega
   gi_wp2
   go_ret
   exact ⟨rfl, hJq, hA⟩
end Go.Proofs.YtbnnpkcfifejmaaGreat
namespace Go.Proofs.YtbnnpkcfifejmaaGreat
open Go.RowKit
attribute [local go_sem] Oper.semAt_some
namespace Ly
def Frame.lineT (f : Frame) (p i : Nat) : List Touch := (List.range f.o1).flatMap fun j => f.cellT p i j
def Frame.planeT (f : Frame) (p : Nat) : List Touch := (List.range f.o0).flatMap fun i => f.lineT p i
theorem Frame.all_eq (f : Frame) : f.all = (List.range f.outs).flatMap fun p => f.planeT p := rfl
theorem Frame.all_split (f : Frame) (p i j : Nat) (hp : p < f.outs) (hi : i < f.o0) (hj : j < f.o1) :
  ∃ rest, f.all = ((List.range p).flatMap (fun p => f.planeT p) ++ ((List.range i).flatMap (fun i => f.lineT p i) ++ (List.range j).flatMap (fun j => f.cellT p i j))) ++ (f.cellT p i j ++ rest) := by
 obtain ⟨r1, h1⟩ := range_split hp
 obtain ⟨r2, h2⟩ := range_split hi
 obtain ⟨r3, h3⟩ := range_split hj
 rw [Frame.all_eq, h1, List.flatMap_append, List.flatMap_cons]
 refine ⟨r3.flatMap (fun j => f.cellT p i j) ++ r2.flatMap (fun i => f.lineT p i) ++ r1.flatMap (fun p => f.planeT p), ?_⟩
 conv => lhs; rhs; lhs; rw [Frame.planeT, h2, List.flatMap_append, List.flatMap_cons, Frame.lineT, h3, List.flatMap_append, List.flatMap_cons]
 simp
structure Frame.Small (f : Frame) : Prop where
 outs : f.outs ≤ 1048576
 o0 : f.o0 ≤ 1048576
 o1 : f.o1 ≤ 1048576
 ins : f.ins ≤ 1048576
 k0 : f.k0 ≤ 1048576
 k1 : f.k1 ≤ 1048576
 out : f.outs * f.o0 * f.o1 ≤ 1048576
 wgt : f.outs * f.ins * (f.k0 * f.k1) ≤ 1048576
 pos : 0 < f.k0 * f.k1
 wide : 0 < f.o1
 inp : f.ins * (f.i0 * f.i1) ≤ 1048576
 high : (f.o0 - 1) * f.step * f.i1 ≤ 1048576
 side : (f.o1 - 1) * f.step ≤ 1048576
 high2 : (f.o0 - 1) * f.step ≤ 1048576
 kin : f.k0 * f.i1 ≤ 1048576
theorem Frame.Small.ko {f : Frame} (h : f.Small) {p i j : Nat} (hp : p < f.outs) (hi : i < f.o0) (hj : j < f.o1) :
  p * f.o0 + i ≤ 1048576 ∧ (p * f.o0 + i) * f.o1 + j ≤ 1048576 := by
 have h1 : (p + 1) * f.o0 ≤ f.outs * f.o0 := Nat.mul_le_mul_right _ hp
 rw [Nat.succ_mul] at h1
 have h2 : (p * f.o0 + i + 1) * f.o1 ≤ f.outs * f.o0 * f.o1 := Nat.mul_le_mul_right _ (by omega)
 rw [Nat.succ_mul] at h2
 have h3 : (p * f.o0 + i) * 1 ≤ (p * f.o0 + i) * f.o1 := Nat.mul_le_mul_left _ h.wide
 have := h.out
 omega
theorem Frame.Small.kq {f : Frame} (h : f.Small) {p : Nat} (hp : p < f.outs) (q : Nat) (hq : q < f.ins) :
  p * f.ins + q ≤ 1048576 ∧ (p * f.ins + q) * (f.k0 * f.k1) ≤ 1048576 ∧ q * (f.i0 * f.i1) ≤ 1048576 := by
 have h1 : (p + 1) * f.ins ≤ f.outs * f.ins := Nat.mul_le_mul_right _ hp
 rw [Nat.succ_mul] at h1
 have h2 : (p * f.ins + q) * (f.k0 * f.k1) ≤ f.outs * f.ins * (f.k0 * f.k1) := Nat.mul_le_mul_right _ (by omega)
 have h3 : (p * f.ins + q) * 1 ≤ (p * f.ins + q) * (f.k0 * f.k1) := Nat.mul_le_mul_left _ h.pos
 have h4 : q * (f.i0 * f.i1) ≤ f.ins * (f.i0 * f.i1) := Nat.mul_le_mul_right _ (by omega)
 have := h.wgt
 have := h.inp
 omega
theorem Frame.Small.kt {f : Frame} (h : f.Small) (hq : 0 < f.outs * f.ins) (t : Nat) (ht : t < f.k0) : t * f.i1 ≤ 1048576 ∧ t * f.k1 ≤ 1048576 := by
 have h1 : t * f.i1 ≤ f.k0 * f.i1 := Nat.mul_le_mul_right _ (by omega)
 have h2 : t * f.k1 ≤ f.k0 * f.k1 := Nat.mul_le_mul_right _ (by omega)
 have h3 : 1 * (f.k0 * f.k1) ≤ f.outs * f.ins * (f.k0 * f.k1) := Nat.mul_le_mul_right _ hq
 have := h.wgt
 have := h.kin
 omega
theorem Frame.Small.ki {f : Frame} (h : f.Small) {i : Nat} (hi : i < f.o0) : i * f.step ≤ 1048576 ∧ i * f.step * f.i1 ≤ 1048576 := by
 have h1 : i * f.step ≤ (f.o0 - 1) * f.step := Nat.mul_le_mul_right _ (by omega)
 have h2 : i * f.step * f.i1 ≤ (f.o0 - 1) * f.step * f.i1 := Nat.mul_le_mul_right _ h1
 have := h.high
 have := h.high2
 omega
theorem Frame.Small.kj {f : Frame} (h : f.Small) {j : Nat} (hj : j < f.o1) : j * f.step ≤ 1048576 := by
 have h1 : j * f.step ≤ (f.o1 - 1) * f.step := Nat.mul_le_mul_right _ (by omega)
 have := h.side
 omega
end Ly
set_option maxHeartbeats 1000000 in
theorem frame_each (F : Fence) (n l : Nat) (hF : F.fn 115) (hF2 : F.fn 147) (hro : F.round = none) (hn : 2 ≤ n) (f : Ly.Frame) (hs : f.Small) (hpos : 0 < f.outs * f.ins) (B : Nat) (J : List Ly.Touch → World → Prop)
  (hJ : ∀ pre A A', Below B A A' → J pre A → J pre A')
  (hY : ∀ pre x rest A, f.all = pre ++ x :: rest → J pre A → YieldAt F (n - 1 - 1) Tryz.prog l #[x.V] A fun e A' => e = .returned (.bool true) ∧ J (pre ++ [x]) A' ∧ Above B A A')
  (W : World) (hB : B ≤ W.heap.size) (h0 : J [] W) :
  CallsIn F n Tryz.prog 115 #[f.V, .func (.yield l) #[] #[]] W fun e W' => (∃ v, e = .returned v) ∧ J f.all W' := by
 refine callsIn_of_wp Tryz.func115 rfl hF ?_ hro
 simp only [Tryz.ntmps115, List.size_toArray, List.length_cons, List.length_nil, Nat.reduceAdd, Nat.reduceSub, Array.replicate_succ, Array.replicate_zero, List.push_toArray, List.append_toArray, List.nil_append, List.cons_append]
 have hk0 := Blk.new W 177 #[.int .i64 f.outs, .int .i64 f.ins, .int .i64 f.k0, .int .i64 f.k1, .int .i64 f.i0, .int .i64 f.i1, .int .i64 f.o0, .int .i64 f.o1, .int .i64 f.step, .int .i64 f.k1, .int .i64 (f.k0 * f.k1 : Nat), .int .i64 (f.i0 * f.i1 : Nat)]
 have hj0 := hJ _ _ _ ((Below.refl B W).alloc hB (.cells #[.int .i64 f.outs, .int .i64 f.ins, .int .i64 f.k0, .int .i64 f.k1, .int .i64 f.i0, .int .i64 f.i1, .int .i64 f.o0, .int .i64 f.o1, .int .i64 f.step, .int .i64 f.k1, .int .i64 (f.k0 * f.k1 : Nat), .int .i64 (f.i0 * f.i1 : Nat)] 177)) h0
 have s1 := hs.outs
 have s2 := hs.o0
 have s3 := hs.o1
 have hn1 : 1 ≤ n := by omega
 have hn2 : 1 ≤ n - 1 := by omega
 unfold Ly.Frame.V
 gi_wp2
 gi_loopw [9] (fun v wr => ∃ p : Nat, p ≤ f.outs ∧ v = .int .i64 p ∧ Blk wr W.heap.size 177 #[.int .i64 f.outs, .int .i64 f.ins, .int .i64 f.k0, .int .i64 f.k1, .int .i64 f.i0, .int .i64 f.i1, .int .i64 f.o0, .int .i64 f.o1, .int .i64 f.step, .int .i64 f.k1, .int .i64 (f.k0 * f.k1 : Nat), .int .i64 (f.i0 * f.i1 : Nat)] ∧ J ((List.range p).flatMap (fun p => f.planeT p)) wr) (fun v _ => f.outs - (intOf v).toNat)
 case atStart => exact ⟨0, Nat.zero_le _, rfl, hk0, hj0⟩
 case round =>
  obtain ⟨p, hp, rfl, hk, hJp⟩ := hrel
  have c6 := hk.cell 6
  have c7 := hk.cell 7
  simp at c6 c7
  rcases Nat.lt_or_ge p f.outs with hpl | hpg
  ·gi_wp2
   gi_loopw [15] (fun v wr => ∃ i : Nat, i ≤ f.o0 ∧ v = .int .i64 i ∧ Blk wr W.heap.size 177 #[.int .i64 f.outs, .int .i64 f.ins, .int .i64 f.k0, .int .i64 f.k1, .int .i64 f.i0, .int .i64 f.i1, .int .i64 f.o0, .int .i64 f.o1, .int .i64 f.step, .int .i64 f.k1, .int .i64 (f.k0 * f.k1 : Nat), .int .i64 (f.i0 * f.i1 : Nat)] ∧ J ((List.range p).flatMap (fun p => f.planeT p) ++ (List.range i).flatMap (fun i => f.lineT p i)) wr) (fun v _ => f.o0 - (intOf v).toNat)
   case atStart => exact ⟨0, Nat.zero_le _, rfl, hk, by simpa using hJp⟩
   case round =>
    obtain ⟨i, hi, rfl, hk, hJi⟩ := hrel
    clear c6 c7 hJp
    have c6 := hk.cell 6
    have c7 := hk.cell 7
    simp at c6 c7
    rcases Nat.lt_or_ge i f.o0 with hil | hig
    ·obtain ⟨g1, g2⟩ := hs.ki hil
     gi_wp2
     gi_loopw [21] (fun v wr => ∃ j : Nat, j ≤ f.o1 ∧ v = .int .i64 j ∧ Blk wr W.heap.size 177 #[.int .i64 f.outs, .int .i64 f.ins, .int .i64 f.k0, .int .i64 f.k1, .int .i64 f.i0, .int .i64 f.i1, .int .i64 f.o0, .int .i64 f.o1, .int .i64 f.step, .int .i64 f.k1, .int .i64 (f.k0 * f.k1 : Nat), .int .i64 (f.i0 * f.i1 : Nat)] ∧ J ((List.range p).flatMap (fun p => f.planeT p) ++ ((List.range i).flatMap (fun i => f.lineT p i) ++ (List.range j).flatMap (fun j => f.cellT p i j))) wr) (fun v _ => f.o1 - (intOf v).toNat)
     case atStart => exact ⟨0, Nat.zero_le _, rfl, hk, by simpa using hJi⟩
     case round =>
      obtain ⟨j, hj, rfl, hk, hJj⟩ := hrel
      clear c6 c7 hJi
      have c0 := hk.cell 0
      have c1 := hk.cell 1
      have c2 := hk.cell 2
      have c3 := hk.cell 3
      have c4 := hk.cell 4
      have c5 := hk.cell 5
      have c6 := hk.cell 6
      have c7 := hk.cell 7
      have c8 := hk.cell 8
      have c9 := hk.cell 9
      have c10 := hk.cell 10
      have c11 := hk.cell 11
      simp at c0 c1 c2 c3 c4 c5 c6 c7 c8 c9 c10 c11
      rcases Nat.lt_or_ge j f.o1 with hjl | hjg
      ·obtain ⟨rest, hrest⟩ := f.all_split p i j hpl hil hjl
       obtain ⟨g3, g4⟩ := hs.ko hpl hil hjl
       have hlt := hk.lt
       have hcall := frame_cell F (n - 1) 0 l hF2 hro hn2 f B f.all J hJ hY p i j _ rest wr (by omega) hrest hJj g3 g4 g1 g2 (hs.kj hjl) (hs.kq hpl) (hs.kt hpos) hs.k1 hs.ins hs.k0
       unfold Ly.Frame.V at hcall
       gi_wp2_with (gi_at_call 147; refine hcall.mono ?_; clear hcall; rintro e W3 ⟨rfl, hJ3, hA3⟩)
       have hk3 := hA3.blk hB hk
       clear c0 c1 c2 c3 c4 c5 c6 c7 c8 c9 c10 c11
       refine ⟨?_, ?_⟩
       ·repeat apply Exists.intro
        refine ⟨⟨j + 1, hjl, ?_, hk3, ?_⟩, rfl⟩
        ·simp
        ·rw [List.range_succ, List.flatMap_append]; simpa using hJ3
       ·simp [intOf]; omega
      ·obtain rfl : j = f.o1 := by omega
       gi_wp2
       go_roundw
       case rel => exact ⟨i + 1, hil, by simp, hk, by rw [List.range_succ, List.flatMap_append]; simpa [Ly.Frame.lineT] using hJj⟩
       case measure => simp [intOf]; omega
    ·obtain rfl : i = f.o0 := by omega
     gi_wp2
     go_roundw
     case rel => exact ⟨p + 1, hpl, by simp, hk, by rw [List.range_succ, List.flatMap_append]; simpa [Ly.Frame.planeT] using hJi⟩
     case measure => simp [intOf]; omega
  ·obtain rfl : p = f.outs := by omega
   gi_wp2
   go_end0
   exact ⟨⟨_, rfl⟩, hJp⟩
end Go.Proofs.YtbnnpkcfifejmaaGreat
namespace Go.Proofs.YtbnnpkcfifejmaaGreat
open Go.RowKit
namespace Ly
structure Frame.Fit (f : Frame) : Prop where
 outs : 1 ≤ f.outs
 ins : 1 ≤ f.ins
 k0 : 1 ≤ f.k0
 k1 : 1 ≤ f.k1
 o0 : 1 ≤ f.o0
 o1 : 1 ≤ f.o1
 step : 1 ≤ f.step
 fit0 : (f.o0 - 1) * f.step + f.k0 ≤ f.i0
 fit1 : (f.o1 - 1) * f.step + f.k1 ≤ f.i1
 out : f.outs * f.o0 * f.o1 ≤ 65536
 wgt : f.outs * f.ins * (f.k0 * f.k1) ≤ 65536
 inp : f.ins * (f.i0 * f.i1) ≤ 65536
theorem le_mul_r {a b : Nat} (h : 1 ≤ b) : a ≤ a * b := by have := Nat.mul_le_mul_left a h; omega
theorem le_mul_l {a b : Nat} (h : 1 ≤ a) : b ≤ a * b := by have := Nat.mul_le_mul_right b h; omega
theorem Frame.Fit.small {f : Frame} (h : f.Fit) : f.Small := by
 obtain ⟨a1, a2, a3, a4, a5, a6, a7, b0, b1, c1, c2, c3⟩ := h
 have d1 : f.outs ≤ f.outs * f.o0 := le_mul_r a5
 have d2 : f.outs * f.o0 ≤ f.outs * f.o0 * f.o1 := le_mul_r a6
 have d3 : f.o0 ≤ f.outs * f.o0 := le_mul_l a1
 have d4 : 1 ≤ f.outs * f.o0 := by omega
 have d5 : f.o1 ≤ f.outs * f.o0 * f.o1 := le_mul_l d4
 have e1 : f.ins ≤ f.outs * f.ins := le_mul_l a1
 have e2 : 0 < f.k0 * f.k1 := Nat.mul_pos a3 a4
 have e3 : f.outs * f.ins ≤ f.outs * f.ins * (f.k0 * f.k1) := le_mul_r e2
 have e4 : f.k0 ≤ f.k0 * f.k1 := le_mul_r a4
 have e5 : f.k1 ≤ f.k0 * f.k1 := le_mul_l a3
 have e6 : f.k0 * f.k1 ≤ f.outs * f.ins * (f.k0 * f.k1) := le_mul_l (by omega)
 have g1 : f.i0 * f.i1 ≤ f.ins * (f.i0 * f.i1) := le_mul_l a2
 have g2 : (f.o0 - 1) * f.step * f.i1 ≤ f.i0 * f.i1 := Nat.mul_le_mul_right _ (by omega)
 have g3 : f.k0 * f.i1 ≤ f.i0 * f.i1 := Nat.mul_le_mul_right _ (by omega)
 have g4 : f.i1 ≤ f.i0 * f.i1 := le_mul_l (by omega)
 have g5 : f.i0 ≤ f.i0 * f.i1 := le_mul_r (by omega)
 exact ⟨by omega, by omega, by omega, by omega, by omega, by omega, by omega, by omega, e2, a6, by omega, by omega, by omega, by omega, by omega⟩
theorem Frame.Fit.pos {f : Frame} (h : f.Fit) : 0 < f.outs * f.ins := Nat.mul_pos h.outs h.ins
theorem Frame.Fit.places {f : Frame} (h : f.Fit) : ∀ t ∈ f.all, t.o < f.outs * f.o0 * f.o1 ∧ t.w < f.outs * f.ins * (f.k0 * f.k1) ∧ t.x < f.ins * (f.i0 * f.i1) := by
 intro z hz
 simp only [Frame.all, Frame.cellT, Frame.rowT, List.mem_flatMap, List.mem_map, List.mem_range] at hz
 obtain ⟨p, hp, i, hi, j, hj, q, hq, t, ht, u, hu, rfl⟩ := hz
 refine ⟨?_, ?_, ?_⟩
 ·show (p * f.o0 + i) * f.o1 + j < _
  have h1 : (p + 1) * f.o0 ≤ f.outs * f.o0 := Nat.mul_le_mul_right _ hp
  rw [Nat.succ_mul] at h1
  have h2 : (p * f.o0 + i + 1) * f.o1 ≤ f.outs * f.o0 * f.o1 := Nat.mul_le_mul_right _ (by omega)
  rw [Nat.succ_mul] at h2
  omega
 ·show (p * f.ins + q) * (f.k0 * f.k1) + t * f.k1 + u < _
  have h1 : (p + 1) * f.ins ≤ f.outs * f.ins := Nat.mul_le_mul_right _ hp
  rw [Nat.succ_mul] at h1
  have h2 : (p * f.ins + q + 1) * (f.k0 * f.k1) ≤ f.outs * f.ins * (f.k0 * f.k1) := Nat.mul_le_mul_right _ (by omega)
  rw [Nat.succ_mul] at h2
  have h3 : (t + 1) * f.k1 ≤ f.k0 * f.k1 := Nat.mul_le_mul_right _ ht
  rw [Nat.succ_mul] at h3
  omega
 ·show q * (f.i0 * f.i1) + (i * f.step * f.i1 + j * f.step) + t * f.i1 + u < _
  have h1 : (q + 1) * (f.i0 * f.i1) ≤ f.ins * (f.i0 * f.i1) := Nat.mul_le_mul_right _ hq
  rw [Nat.succ_mul] at h1
  have h2 : i * f.step ≤ (f.o0 - 1) * f.step := Nat.mul_le_mul_right _ (by omega)
  have h3 : j * f.step ≤ (f.o1 - 1) * f.step := Nat.mul_le_mul_right _ (by omega)
  have b0 := h.fit0
  have b1 := h.fit1
  have h4 : (i * f.step + t + 1) * f.i1 ≤ f.i0 * f.i1 := Nat.mul_le_mul_right _ (by omega)
  rw [Nat.succ_mul, Nat.add_mul] at h4
  omega
end Ly
end Go.Proofs.YtbnnpkcfifejmaaGreat
namespace Go.Proofs.YtbnnpkcfifejmaaGreat
open Go.RowKit
namespace Ly
theorem window_fit {s w st : Int} (h : (Od.window s w st).2 = 0) : ∃ n : Nat, (Od.window s w st).1 = (n : Int) ∧ 1 ≤ n ∧ (n - 1) * st.toNat + w.toNat ≤ s.toNat ∧ 1 ≤ st := by
 have hw := Od.window_ok h
 unfold Od.window at h hw ⊢
 split at h
 ·rename_i hc
  rw [if_pos hc] at hw ⊢
  simp only [Sh.side_iff] at hc
  simp only at hw ⊢
  have h1 : 0 ≤ (s - w).tdiv st := Int.tdiv_nonneg (by omega) (by omega)
  obtain ⟨d, hd⟩ := Int.eq_ofNat_of_zero_le h1
  refine ⟨1 + d, by rw [hd]; simp, by omega, ?_, by omega⟩
  have h4 := Int.ediv_mul_le (s - w) (show st ≠ 0 by omega)
  rw [Int.tdiv_eq_ediv_of_nonneg (by omega)] at hd
  rw [hd] at h4
  obtain ⟨st', rfl⟩ := Int.eq_ofNat_of_zero_le (show 0 ≤ st by omega)
  have h5 : ((d * st' : Nat) : Int) = (d : Int) * (st' : Int) := by simp
  have h6 : (1 + d - 1) * (st' : Int).toNat = d * st' := by rw [Nat.add_sub_cancel_left, Int.toNat_natCast]
  rw [h6]
  omega
 ·simp at h
theorem conv_fit {ws xs : List Int} {step : Int} (h : (Od.conv ws xs step).2 = 0) :
  1 ≤ step ∧ (frame ws xs (Od.conv ws xs step).1 step).Fit ∧
  ((∃ a b k i o : Nat, ws = [(a : Int), b, k] ∧ xs = [(b : Int), i] ∧ (Od.conv ws xs step).1 = [(a : Int), o]) ∨
   (∃ a b k kk i ii o oo : Nat, ws = [(a : Int), b, k, kk] ∧ xs = [(b : Int), i, ii] ∧ (Od.conv ws xs step).1 = [(a : Int), o, oo])) := by
 have hset : Od.conv ws xs step = Od.conv ws xs step := rfl
 unfold Od.conv at h
 split at h
 ·rename_i hc
  simp only [Bool.and_eq_true, decide_eq_true_eq] at hc
  split at h
  ·rename_i hall
   split at h
   ·rename_i hr
    have hout : (Od.conv ws xs step).1 = Od.outs ws xs step (xs.length - 1) := by
     unfold Od.conv
     rw [if_pos (by simpa using hc), if_pos hall, if_pos hr]
    rw [hout]
    obtain ⟨⟨hw, hx⟩, l2, l3, lw, heq⟩ := hc
    obtain ⟨_, _, _, aw, _, pw⟩ := Sh.right_mul hw
    obtain ⟨_, _, _, ax, _, px⟩ := Sh.right_mul hx
    obtain ⟨_, _, _, ao, _, po⟩ := Sh.right_mul hr
    simp only [List.all_eq_true, List.mem_range, decide_eq_true_eq] at hall
    clear h hset
    match xs, l2, l3 with
    | [b, i], _, _ =>
     match ws, lw with
     | [a, b', k], _ =>
      simp at heq
      subst heq
      obtain ⟨n, hn, n1, n2, n3⟩ := window_fit (hall 0 (by simp))
      have hE : Od.outs [a, b', k] [b', i] step ([b', i].length - 1) = [a, (n : Int)] := by
       simp [Od.outs, Od.wn, List.range_succ] at hn ⊢; exact hn
      rw [hE] at ao po ⊢
      simp [Safe.prod] at ao po pw px aw ax n2
      clear hn hE hall hout hr hw hx lw
      obtain ⟨a, rfl⟩ := Int.eq_ofNat_of_zero_le (show 0 ≤ a by omega)
      obtain ⟨b, rfl⟩ := Int.eq_ofNat_of_zero_le (show 0 ≤ b' by omega)
      obtain ⟨k, rfl⟩ := Int.eq_ofNat_of_zero_le (show 0 ≤ k by omega)
      obtain ⟨i, rfl⟩ := Int.eq_ofNat_of_zero_le (show 0 ≤ i by omega)
      refine ⟨n3, ?_, .inl ⟨a, b, k, i, n, rfl, rfl, rfl⟩⟩
      have hf : frame [(a : Int), b, k] [(b : Int), i] [(a : Int), n] step = ⟨a, b, 1, k, 1, i, 1, n, step.toNat⟩ := by simp [frame, last2, side, at_]
      rw [hf]
      rw [← Int.natCast_mul] at po px
      rw [← Int.natCast_mul, ← Int.natCast_mul, ← Nat.mul_assoc] at pw
      refine ⟨by simp; omega, by simp; omega, by simp, by simp; omega, by simp, by simp; omega, by simp; omega, by simp, by simp at n2 ⊢; omega, by simp; omega, by simp; omega, by simp; omega⟩
    | [b, i, ii], _, _ =>
     match ws, lw with
     | [a, b', k, kk], _ =>
      simp at heq
      subst heq
      obtain ⟨n, hn, n1, n2, n3⟩ := window_fit (hall 0 (by simp))
      obtain ⟨m, hm, m1, m2, m3⟩ := window_fit (hall 1 (by simp))
      have hE : Od.outs [a, b', k, kk] [b', i, ii] step ([b', i, ii].length - 1) = [a, (n : Int), (m : Int)] := by
       simp [Od.outs, Od.wn, List.range_succ] at hn hm ⊢; exact ⟨hn, hm⟩
      rw [hE] at ao po ⊢
      simp [Safe.prod] at ao po pw px aw ax n2 m2
      clear hn hm hE hall hout hr hw hx lw
      obtain ⟨a, rfl⟩ := Int.eq_ofNat_of_zero_le (show 0 ≤ a by omega)
      obtain ⟨b, rfl⟩ := Int.eq_ofNat_of_zero_le (show 0 ≤ b' by omega)
      obtain ⟨k, rfl⟩ := Int.eq_ofNat_of_zero_le (show 0 ≤ k by omega)
      obtain ⟨kk, rfl⟩ := Int.eq_ofNat_of_zero_le (show 0 ≤ kk by omega)
      obtain ⟨i, rfl⟩ := Int.eq_ofNat_of_zero_le (show 0 ≤ i by omega)
      obtain ⟨ii, rfl⟩ := Int.eq_ofNat_of_zero_le (show 0 ≤ ii by omega)
      refine ⟨n3, ?_, .inr ⟨a, b, k, kk, i, ii, n, m, rfl, rfl, rfl⟩⟩
      have hf : frame [(a : Int), b, k, kk] [(b : Int), i, ii] [(a : Int), n, m] step = ⟨a, b, k, kk, i, ii, n, m, step.toNat⟩ := by simp [frame, last2, side, at_]
      rw [hf]
      rw [← Int.natCast_mul, ← Int.natCast_mul] at px
      rw [← Int.natCast_mul, ← Int.natCast_mul, ← Nat.mul_assoc] at po
      rw [← Int.natCast_mul, ← Int.natCast_mul, ← Int.natCast_mul, ← Nat.mul_assoc] at pw
      refine ⟨by simp; omega, by simp; omega, by simp; omega, by simp; omega, by simp; omega, by simp; omega, by simp; omega, by simp at n2 ⊢; omega, by simp at m2 ⊢; omega, by simp; omega, by simp; omega, by simp; omega⟩
   ·simp at h
  ·simp at h
 ·simp at h
end Ly
end Go.Proofs.YtbnnpkcfifejmaaGreat
namespace Go.Proofs.YtbnnpkcfifejmaaGreat
open Go.RowKit
theorem Ints.spot {w : World} {a : Addr} {l : List Int} (h : Ints .i64 w (some a) l) (hl : 0 < l.length) : a.spot = none := by
 obtain ⟨b', o', e, -, -⟩ := h 0 hl
 injection e with e; rw [e]
theorem Ints.some_ {w : World} {A : Option Addr} {l : List Int} (h : Ints .i64 w A l) (hl : 0 < l.length) : ∃ a, A = some a := by
 obtain ⟨b', o', e, -, -⟩ := h 0 hl
 exact ⟨_, e⟩
theorem conv_sides {ws xs : List Int} {step : Int} (h : (Od.conv ws xs step).2 = 0) : (∀ z ∈ ws, 1 ≤ z ∧ z ≤ 1024) ∧ ∀ z ∈ xs, 1 ≤ z ∧ z ≤ 1024 := by
 unfold Od.conv at h
 split at h
 ·rename_i hc
  simp only [Bool.and_eq_true, decide_eq_true_eq] at hc
  exact ⟨(Sh.right_mul hc.1.1).2.2.2.1, (Sh.right_mul hc.1.2).2.2.2.1⟩
 ·simp at h
set_option maxHeartbeats 1000000 in
theorem conv_touch (A B : Option Addr) (c d : Nat) (ws xs : List Int) (step : Int) (w : World) (hc : ws.length ≤ c) (hd : xs.length ≤ d) (hd' : d ≤ 9223372036854775807) (hI : Ints .i64 w A ws) (hJ : Ints .i64 w B xs) (h : (Od.conv ws xs step).2 = 0) :
  Calls Tryz.prog 57 #[.slice A ws.length c, .slice B xs.length d, .int .i64 step] w fun e w' =>
   e = .returned (.func (.func 115) #[(Ly.frame ws xs (Od.conv ws xs step).1 step).V] #[]) ∧ Below w.heap.size w w' := by
 obtain ⟨hst, hfit, hcase⟩ := Ly.conv_fit h
 have hsd := conv_sides h
 have hl : ws.length ≤ 4 ∧ xs.length ≤ 4 := by
  rcases hcase with ⟨_, _, _, _, _, rfl, rfl, _⟩ | ⟨_, _, _, _, _, _, _, _, rfl, rfl, _⟩ <;> simp
 have hcall := conv_shape A B c d ws xs step w (by omega) (by omega) hd hd' hI hJ
 obtain ⟨st, rfl⟩ := Int.eq_ofNat_of_zero_le (show 0 ≤ step by omega)
 rcases hcase with ⟨a, b, k, i, o, rfl, rfl, ho⟩ | ⟨a, b, k, kk, i, ii, o, oo, rfl, rfl, ho⟩
 ·obtain ⟨W, rfl⟩ := hI.some_ (by simp)
  obtain ⟨X, rfl⟩ := hJ.some_ (by simp)
  have hf : Ly.frame [(a : Int), b, k] [(b : Int), i] (Od.conv [(a : Int), b, k] [(b : Int), i] st).1 st = ⟨a, b, 1, k, 1, i, 1, o, st⟩ := by rw [ho]; simp [Ly.frame, Ly.last2, Ly.side, Ly.at_]
  rw [hf] at hfit ⊢
  obtain ⟨r, hr⟩ : ∃ r, Od.conv [(a : Int), b, k] [(b : Int), i] st = r := ⟨_, rfl⟩
  rw [hr] at hcall h ho
  obtain ⟨r1, r2⟩ := r
  simp only at h ho
  subst h ho
  have hki : 1 ≤ (k : Int) ∧ (k : Int) ≤ 1024 := hsd.1 _ (by simp)
  have hii : 1 ≤ (i : Int) ∧ (i : Int) ≤ 1024 := hsd.2 _ (by simp)
  have HF := Lib.hid hf
  clear hf hr
  have HI := Lib.hid hI
  have HJ := Lib.hid hJ
  have Hcall := Lib.hid hcall
  have Hfit := Lib.hid hfit
  clear hI hJ hcall hfit
  go_enter Tryz.func57, Tryz.ntmps57
  go_wp2_with fail
  refine (Hcall.out).mono ?_
  rintro e w1 ⟨S, sc, rfl, hS, hS1, hS2, hS3, hb⟩
  obtain ⟨O, rfl⟩ := hS.some_ (by simp)
  have hcall2 := frame_one W X O c d sc a b k i o st w1 (HI.out.spot (by simp)) (HJ.out.spot (by simp)) (hS.spot (by simp)) (HI.out.below hb (Nat.le_refl _)) (HJ.out.below hb (Nat.le_refl _)) hS hc hd hS1 (by omega) (by omega)
  go_wp2_with fail
  refine (hcall2).mono ?_
  rintro e w2 ⟨rfl, hb2⟩
  go_wp2_with fail
  go_ret
  exact ⟨by simp [Ly.Frame.V], hb.trans (hb2.mono hb.size)⟩
 ·obtain ⟨W, rfl⟩ := hI.some_ (by simp)
  obtain ⟨X, rfl⟩ := hJ.some_ (by simp)
  have hf : Ly.frame [(a : Int), b, k, kk] [(b : Int), i, ii] (Od.conv [(a : Int), b, k, kk] [(b : Int), i, ii] st).1 st = ⟨a, b, k, kk, i, ii, o, oo, st⟩ := by rw [ho]; simp [Ly.frame, Ly.last2, Ly.side, Ly.at_]
  rw [hf] at hfit ⊢
  obtain ⟨r, hr⟩ : ∃ r, Od.conv [(a : Int), b, k, kk] [(b : Int), i, ii] st = r := ⟨_, rfl⟩
  rw [hr] at hcall h ho
  obtain ⟨r1, r2⟩ := r
  simp only at h ho
  subst h ho
  have hkk : 0 ≤ (k : Int) * kk ∧ (k : Int) * kk ≤ 1048576 := by
   have h1 := hfit.wgt
   have h2 : k * kk ≤ a * b * (k * kk) := Ly.le_mul_l hfit.pos
   simp at h1
   rw [← Int.natCast_mul]; omega
  have hii : 0 ≤ (i : Int) * ii ∧ (i : Int) * ii ≤ 1048576 := by
   have h1 := hfit.inp
   have h2 : i * ii ≤ b * (i * ii) := Ly.le_mul_l hfit.ins
   simp at h1
   rw [← Int.natCast_mul]; omega
  clear hf hr
  have HI := Lib.hid hI
  have HJ := Lib.hid hJ
  have Hcall := Lib.hid hcall
  have Hfit := Lib.hid hfit
  clear hI hJ hcall hfit
  go_enter Tryz.func57, Tryz.ntmps57
  go_wp2_with fail
  refine (Hcall.out).mono ?_
  rintro e w1 ⟨S, sc, rfl, hS, hS1, hS2, hS3, hb⟩
  obtain ⟨O, rfl⟩ := hS.some_ (by simp)
  have hcall2 := frame_two W X O c d sc a b k kk i ii o oo st w1 (HI.out.spot (by simp)) (HJ.out.spot (by simp)) (hS.spot (by simp)) (HI.out.below hb (Nat.le_refl _)) (HJ.out.below hb (Nat.le_refl _)) hS hc hd hS1 hkk hii
  go_wp2_with fail
  refine (hcall2).mono ?_
  rintro e w2 ⟨rfl, hb2⟩
  go_wp2_with fail
  go_ret
  exact ⟨by simp [Ly.Frame.V], hb.trans (hb2.mono hb.size)⟩
end Go.Proofs.YtbnnpkcfifejmaaGreat
namespace Go.Proofs.YtbnnpkcfifejmaaGreat
open Go.RowKit
def OnlyNormal (Q : Exit → Act → World → Prop) : Exit → Act → World → Prop
 | .normal, a, w => Q .normal a w
 | _, _, _ => False
theorem OnlyNormal.mk {Q : Exit → Act → World → Prop} {a : Act} {w : World} (h : Q .normal a w) : OnlyNormal Q .normal a w := h
theorem OnlyNormal.imp {Q : Exit → Act → World → Prop} : ∀ (e : Exit) (a : Act) (w : World), OnlyNormal Q e a w → Q e a w := fun e a w h => by
 cases e <;> first | exact h | exact (h : False).elim
theorem OnlyNormal.noOut {Q : Exit → Act → World → Prop} : ¬ LetsOut (NoPanic (OnlyNormal Q)) := fun ⟨_, _, h⟩ => h
def noDefers (ops : Array Oper) : Bool := ops.toList.all fun o => match o.op with | .defer _ => false | _ => true
theorem noDefers_at {ops : Array Oper} (h : noDefers ops = true) {i : Nat} {o : Oper} (ho : ops[i]? = some o) : ∀ c, o.op ≠ .defer c := by
 intro c hc
 unfold noDefers at h
 rw [List.all_eq_true] at h
 have := h o (by rw [← Array.getElem?_toList] at ho; exact List.mem_of_getElem? ho)
 rw [hc] at this
 simp at this
section
variable {P : Program} {ops : Array Oper} {n l : Nat}
theorem opIn_of_op {o : Oper} (hd : ∀ c, o.op ≠ .defer c) {Q : Exit → Act → World → Prop} {K : Act → World → Prop} {a : Act} {w : World} (h : o.wp P a w K Q) : o.wpIn (Fence.wide.inRound l) n P a w K Q := by
 refine ⟨fun _ _ => trivial, ?_⟩
 unfold Oper.wp at h
 rw [Oper.semAt_eq _ _ _ hd]
 generalize (execOp a.eval o).run P w = r at *
 cases r with
 | ok x w' =>
  cases x <;> simp only [Oper.upon, Oper.uponIn] at h ⊢ <;> first
   | exact h
   | exact ⟨(fun hh => by cases hh), callsIn_wide.2 (Calls.mono h fun e w'' he => by cases e <;> exact he)⟩
   | exact ⟨(fun hh => by cases hh), fun c cs _ => let ⟨v, w', r, s⟩ := h c cs; ⟨v, w', r, stepsIn_wide.2 s⟩⟩
 | halt x w' => cases x <;> simp only [Oper.upon, Oper.uponIn] at h ⊢ <;> exact h
theorem opsIn_of_ops (hd : noDefers ops = true) {Q : Exit → Act → World → Prop} (hQ : ¬ LetsOut Q) : ∀ (is : List Nat) (a : Act) (w : World), wpOps P ops Q is a w → wpOpsIn (Fence.wide.inRound l) n P ops Q is a w
 | [], _, _, h => h
 | i :: rest, a, w, h => by
  simp only [wpOps, wpOpsIn] at h ⊢
  cases ho : ops[i]? with
  | none => simp only [ho] at h; exact opsIn_of_ops hd hQ rest a w h
  | some o =>
   simp only [ho] at h ⊢
   split
   ·rename_i hw
    rw [if_pos hw] at h
    rcases h with h | h
    ·exact opIn_of_op (noDefers_at hd ho) (Oper.wp_mono (fun a w => opsIn_of_ops hd hQ rest a w) h)
    ·exact absurd h.2 hQ
   ·rename_i hw
    rw [if_neg hw] at h
    exact ⟨fun _ _ => trivial, opsIn_of_ops hd hQ rest _ w h⟩
theorem wpIn_round_held_drew {S : World → Prop} {Q : Exit → Act → World → Prop} {id : Nat} {a : Act} {w : World} (hm : P.follows .mixedOrders = true) (hd : noDefers ops = true) (hS : S w.drew)
  (h : S w.drew → wpAnyH P .any ops (NoPanic (OnlyNormal Q)) S ops.size (Array.replicate ops.size false) a w.drew) : (Code.region id ops true).wpIn (Fence.wide.inRound l) n P Q a w := by
 refine wpIn_mono (wpIn_region_draw fun t => ?_) (fun e a w hq => OnlyNormal.imp e a w (NoPanic.imp e a w hq))
 simp only [Region.schedule, hm, Bool.true_or, if_true]
 exact opsIn_of_ops hd OnlyNormal.noOut _ _ _ (wpAny_sound ops.size t _ a _ (wpAny_of_held _ _ _ _ (h hS)))
theorem wpIn_round_list {Q : Exit → Act → World → Prop} {id : Nat} {a : Act} {w : World} (hd : noDefers ops = true)
  (h : wpOps P ops (NoPanic (OnlyNormal Q)) (List.range ops.size) a w) : (Code.region id ops false).wpIn (Fence.wide.inRound l) n P Q a w :=
 wpIn_mono (wpIn_region (opsIn_of_ops hd OnlyNormal.noOut _ _ _ h)) (fun e a w hq => OnlyNormal.imp e a w (NoPanic.imp e a w hq))
end
end Go.Proofs.YtbnnpkcfifejmaaGreat
