/- Layer 24 (optim): what a state is, which states are alike or equal: contracts. -/
import Derived.Test.YtjgagbhbgehmpaaTensorB
import Derived.Deep.RegionHeld3
namespace Go.Proofs.Ytjgagbhbgehmpaa
open Go.RowKit

/-- A slice of tensors reads as the list ts. -/
def Tens (w : World) (A : Option Addr) (ts : List Ten) : Prop :=
  ∀ j (hj : j < ts.length), ∃ b off S c C d, A = some ⟨b, off, none⟩ ∧ b < w.heap.size ∧ w.cell? ⟨b, off + j * 2, none⟩ = some (.slice S ts[j].s.length c) ∧ w.cell? ⟨b, off + j * 2 + 1, none⟩ = some (.slice C ts[j].c.length d) ∧ TenR w S C ts[j] ∧ ts[j].s.length ≤ 9223372036854775807 ∧ ts[j].c.length ≤ 9223372036854775807
theorem TenR.below {B : Nat} {w w' : World} {S C : Option Addr} {t : Ten} (h : TenR w S C t) (hb : Below B w w') (hB : w.heap.size ≤ B) : TenR w' S C t := ⟨h.1.below hb hB, h.2.below hb hB⟩
theorem TenR.drew {w : World} {S C : Option Addr} {t : Ten} (h : TenR w S C t) : TenR w.drew S C t := h
theorem Tens.below {B : Nat} {w w' : World} {A : Option Addr} {ts : List Ten} (h : Tens w A ts) (hb : Below B w w') (hB : w.heap.size ≤ B) : Tens w' A ts := fun j hj => by
  obtain ⟨b, off, S, c, C, d, e, hl, c0, c1, hT, h2⟩ := h j hj
  exact ⟨b, off, S, c, C, d, e, Nat.lt_of_lt_of_le hl hb.size, (hb.cell (p := ⟨b, off + j * 2, none⟩) (Nat.lt_of_lt_of_le hl hB)).trans c0, (hb.cell (p := ⟨b, off + j * 2 + 1, none⟩) (Nat.lt_of_lt_of_le hl hB)).trans c1, hT.below hb hB, h2⟩

theorem take_all_succ {α : Type} {p : α → Bool} {l : List α} {k : Nat} (hk : k < l.length) (h : (l.take k).all p = true) (hp : p l[k] = true) : (l.take (k + 1)).all p = true := by
  rw [List.take_succ_eq_append_getElem hk, List.all_append, h]; simp [hp]
theorem all_false_at {α : Type} {p : α → Bool} {l : List α} {k : Nat} (hk : k < l.length) (hp : p l[k] = false) : l.all p = false := by
  rw [List.all_eq_false]; exact ⟨l[k], List.getElem_mem hk, by simp [hp]⟩

set_option maxHeartbeats 1000000 in
theorem optim_valid (A : Option Addr) (c : Nat) (ts : List Ten) (w : World) (hl : ts.length ≤ 9223372036854775807) (hT : Tens w A ts) :
    Calls Try.prog 39 #[.slice A ts.length c] w fun e w' => e = .returned (.bool (ts.all Tn.right)) ∧ Below w.heap.size w w' := by
  have HT := Lib.hid hT
  clear hT
  go_enter Try.func39, Try.ntmps39
  go_wp2_with fail
  go_loopw [7] (fun i wr => ∃ k : Nat, k ≤ ts.length ∧ i = .int .i64 k ∧ (ts.take k).all Tn.right = true ∧ Below w.heap.size w wr) (fun i _ => ts.length - (intOf i).toNat)
  case atStart => exact ⟨0, Nat.zero_le _, rfl, rfl, Below.refl _ _⟩
  case round =>
    obtain ⟨k, hk, rfl, hall, hbel⟩ := hrel
    by_cases hlt : k < ts.length
    · obtain ⟨b, off, S, cS, C, dC, rfl, hb, c0, c1, hTR, hs1, hs2⟩ := HT.out.below hbel (Nat.le_refl _) k hlt
      have hI := hTR.1.alloc (.cells #[.slice S ts[k].s.length cS, .slice C ts[k].c.length dC] 48)
      have hb1 := hbel.alloc hbel.size (.cells #[.slice S ts[k].s.length cS, .slice C ts[k].c.length dC] 48)
      have hall2 := take_all_succ (p := Tn.right) hlt hall
      have hbad := all_false_at (p := Tn.right) hlt
      have HI := Lib.hid hI
      have HTR := Lib.hid hTR
      have Hall := Lib.hid hall
      have Hall2 := Lib.hid hall2
      have Hbad := Lib.hid hbad
      clear hI hTR hall hall2 hbad
      generalize ts[k] = t at *
      go_wp2_with fail
      refine (tensor_right S C cS dC t _ hs1 hs2 HI.out).mono ?_
      rintro e w1 ⟨rfl, h1⟩
      have hb2 := hb1.trans (h1.mono hb1.size)
      clear h1 hb1 hbel c0 c1
      cases hr : Tn.right t
      · have HF := Lib.hid (Hbad.out hr)
        clear hr
        go_wp2_with fail
        go_ret
        exact ⟨by rw [HF.out]; rfl, hb2⟩
      · have HF := Lib.hid (Hall2.out hr)
        clear hr
        go_wp2_with fail
        go_roundw
        case rel => exact ⟨k + 1, by omega, by go_num, HF.out, hb2⟩
        case measure => simp [intOf]; omega
    · obtain rfl : k = ts.length := by omega
      rw [List.take_length] at hall
      have Hall := Lib.hid hall
      clear hall
      go_wp2_with fail
      go_ret
      exact ⟨by rw [Hall.out]; rfl, hbel⟩

namespace Tn
/-- Of one length, all right, of the same shapes. -/
def alike (a b : List Ten) : Bool := decide (a.length = b.length) && a.all right && b.all right && (a.map (·.s) == b.map (·.s))
theorem alike_len {a b : List Ten} (h : a.length ≠ b.length) : alike a b = false := by simp [alike, h]
theorem alike_a {a b : List Ten} (h : a.all right = false) : alike a b = false := by simp [alike, h]
theorem alike_b {a b : List Ten} (h : b.all right = false) : alike a b = false := by simp [alike, h]
theorem alike_ok {a b : List Ten} (h : a.length = b.length) (ha : a.all right = true) (hb : b.all right = true) : alike a b = (a.map (·.s) == b.map (·.s)) := by simp [alike, h, ha, hb]
theorem right_len {t : Ten} (h : right t = true) : t.s.length ≤ 4 ∧ 1 ≤ t.s.length ∧ t.c.length ≤ 65536 := by
  simp [right] at h
  obtain ⟨_, h1, h2, _, _, h3⟩ := Sh.right_mul h.1
  omega
end Tn

set_option maxHeartbeats 2000000 in
theorem optim_alike (A A' : Option Addr) (c c' : Nat) (ts us : List Ten) (w : World) (hl : ts.length ≤ 9223372036854775807) (hl' : us.length ≤ 9223372036854775807) (hT : Tens w A ts) (hU : Tens w A' us) :
    Calls Try.prog 25 #[.slice A ts.length c, .slice A' us.length c'] w fun e w' => e = .returned (.bool (Tn.alike ts us)) ∧ Below w.heap.size w w' := by
  have HT := Lib.hid hT
  have HU := Lib.hid hU
  clear hT hU
  by_cases hn : ts.length = us.length
  · have hq : ((ts.length : Int) != us.length) = false := by simp [hn]
    have HN := Lib.hid hn
    clear hn
    go_enter Try.func25, Try.ntmps25
    go_wp2_with fail
    refine (optim_valid A c ts _ hl HT.out).mono ?_
    rintro e w1 ⟨rfl, h1⟩
    cases ha : ts.all Tn.right
    · have HF := Lib.hid (Tn.alike_a (b := us) ha)
      clear ha
      go_wp2_with fail
      go_ret
      exact ⟨by rw [HF.out]; rfl, h1⟩
    · have Ha := Lib.hid ha
      clear ha
      go_wp2_with fail
      refine (optim_valid A' c' us _ hl' (HU.out.below h1 (Nat.le_refl _))).mono ?_
      rintro e w2 ⟨rfl, h2⟩
      have hb2 := h1.trans (h2.mono h1.size)
      clear h1 h2
      cases hb : us.all Tn.right
      · have HF := Lib.hid (Tn.alike_b (a := ts) hb)
        clear hb
        go_wp2_with fail
        go_ret
        exact ⟨by rw [HF.out]; rfl, hb2⟩
      · have HF := Lib.hid (Tn.alike_ok HN.out Ha.out hb)
        have Hb := Lib.hid hb
        clear hb
        go_wp2_with fail
        go_loopw [23] (fun i wr => ∃ k : Nat, k ≤ ts.length ∧ i = .int .i64 k ∧ (ts.take k).map (·.s) = (us.take k).map (·.s) ∧ Below w.heap.size w wr) (fun i _ => ts.length - (intOf i).toNat)
        case atStart => exact ⟨0, Nat.zero_le _, rfl, rfl, hb2⟩
        case round =>
          clear hb2
          obtain ⟨k, hk, rfl, hall, hbel⟩ := hrel
          by_cases hlt : k < ts.length
          · have hlt' : k < us.length := by have := HN.out; omega
            have hr1 := Tn.right_len (List.all_eq_true.1 Ha.out ts[k] (List.getElem_mem hlt))
            have hr2 := Tn.right_len (List.all_eq_true.1 Hb.out us[k] (List.getElem_mem hlt'))
            have hnext : ts[k].s = us[k].s → (ts.take (k + 1)).map (·.s) = (us.take (k + 1)).map (·.s) := fun h => by rw [List.take_succ_eq_append_getElem hlt, List.take_succ_eq_append_getElem hlt', List.map_append, List.map_append, hall]; simp [h]
            have hbad : ts[k].s ≠ us[k].s → (ts.map (·.s) == us.map (·.s)) = false := fun h => by simp; intro e; apply h; have := congrArg (fun l => l[k]?) e; simpa [hlt, hlt'] using this
            obtain ⟨b, off, S, cS, C, dC, rfl, hb, c0, c1, hTR, hs1, hs2⟩ := HT.out.below hbel (Nat.le_refl _) k hlt
            obtain ⟨b', off', S', cS', C', dC', rfl, hb', c0', c1', hTR', hs1', hs2'⟩ := HU.out.below hbel (Nat.le_refl _) k hlt'
            have k0 : (0 : Int) ≤ k := by omega
            have k1 : (k : Int) < ts.length := by omega
            have k2 : (k : Int) < us.length := by omega
            have hI := hTR.1
            have hI' := hTR'.1
            have Hall := Lib.hid hall
            have Hnext := Lib.hid hnext
            have Hbad := Lib.hid hbad
            have HI := Lib.hid hI
            have HI' := Lib.hid hI'
            clear hall hnext hbad hI hI'
            clear hTR hTR' c1 c1'
            generalize ts[k] = t at *
            generalize us[k] = u at *
            obtain ⟨hr1, _⟩ := hr1
            obtain ⟨hr2, _⟩ := hr2
            go_wp2_with fail
            go_quiet ((go_at_call 40; exact quiet_drawn (shape_equal S S' cS cS' t.s u.s _ (by omega) (by omega) (HI.out.drewN _) (HI'.out.drewN _))))
            have hbn := Bdrawn hbel nq
            cases hs : (t.s == u.s)
            · have HG := Lib.hid (Hbad.out (by simpa using hs))
              clear hs
              go_wp2_with fail
              go_ret
              exact ⟨by rw [HF.out, HG.out]; rfl, hbn⟩
            · have HG := Lib.hid (Hnext.out (by simpa using hs))
              clear hs
              go_wp2_with fail
              go_roundw
              case rel => exact ⟨k + 1, by omega, by go_num, HG.out, hbn⟩
              case measure => simp [intOf]; omega
          · obtain rfl : k = ts.length := by omega
            have HE := Lib.hid (show (ts.map (·.s) == us.map (·.s)) = true by rw [List.take_length, HN.out, List.take_length] at hall; simp [hall])
            clear hall
            go_wp2_with fail
            go_ret
            exact ⟨by rw [HF.out, HE.out]; rfl, hbel⟩
  · have hq : ((ts.length : Int) != us.length) = true := by simp; omega
    have HF := Lib.hid (Tn.alike_len hn)
    clear hn
    go_enter Try.func25, Try.ntmps25
    go_wp2_with fail
    go_ret
    exact ⟨by rw [HF.out]; rfl, Below.refl _ _⟩

theorem state_right (A A' : Option Addr) (c c' : Nat) (ts us : List Ten) (w : World) (hl : ts.length ≤ 9223372036854775807) (hl' : us.length ≤ 9223372036854775807) (hT : Tens w A ts) (hU : Tens w A' us) :
    Calls Try.prog 10 #[.agg #[.slice A ts.length c, .slice A' us.length c']] w fun e w' => e = .returned (.bool (Tn.alike ts us)) ∧ Below w.heap.size w w' := by
  have hb0 : Below w.heap.size w (w.alloc (.cells #[.slice A ts.length c, .slice A' us.length c'] 24)) := (Below.refl _ _).alloc (Nat.le_refl _) _
  have HT := Lib.hid hT
  have HU := Lib.hid hU
  clear hT hU
  go_enter Try.func10, Try.ntmps10
  go_wp2_with fail
  refine (optim_alike A A' c c' ts us _ hl hl' (HT.out.below hb0 (Nat.le_refl _)) (HU.out.below hb0 (Nat.le_refl _))).mono ?_
  rintro e w1 ⟨rfl, h1⟩
  have hb1 := hb0.trans (h1.mono hb0.size)
  go_wp2_with fail
  go_ret
  exact ⟨rfl, hb1⟩

namespace Tn
def eqs (a b : List Ten) : Bool := decide (a.length = b.length) && (a.zip b).all fun p => eq p.1 p.2
theorem eqs_iff (a b : List Ten) : eqs a b = true ↔ a = b := by
  induction a generalizing b with
  | nil => cases b <;> simp [eqs]
  | cons x a ih =>
    cases b with
    | nil => simp [eqs]
    | cons y b =>
      have := ih b
      simp [eqs] at this ⊢
      rw [eq_iff]
      constructor
      · rintro ⟨h1, h2, h3⟩; exact ⟨h2, this.1 ⟨h1, h3⟩⟩
      · rintro ⟨h1, h2⟩; have := this.2 h2; exact ⟨this.1, h1, this.2⟩
theorem eqs_false {a b : List Ten} {k : Nat} (h : k < a.length) (h' : k < b.length) (he : eq a[k] b[k] = false) : eqs a b = false := by
  cases hh : eqs a b
  · rfl
  · have := (eqs_iff a b).1 hh
    subst this
    rw [(eq_iff _ _).2 rfl] at he
    cases he
theorem eqs_len {a b : List Ten} (h : a.length ≠ b.length) : eqs a b = false := by simp [eqs, h]
/-- All lengths are small. -/
def small (a : List Ten) : Prop := ∀ t ∈ a, t.s.length ≤ 1000000 ∧ t.c.length ≤ 1000000
end Tn

set_option maxHeartbeats 2000000 in
theorem optim_same (A A' : Option Addr) (c c' : Nat) (ts us : List Ten) (w : World) (hl : ts.length ≤ 9223372036854775807) (hl' : us.length ≤ 9223372036854775807) (hs : Tn.small ts) (hs' : Tn.small us) (hT : Tens w A ts) (hU : Tens w A' us) :
    Calls Try.prog 49 #[.slice A ts.length c, .slice A' us.length c'] w fun e w' => e = .returned (.bool (Tn.eqs ts us)) ∧ Below w.heap.size w w' := by
  have HT := Lib.hid hT
  have HU := Lib.hid hU
  have Hs := Lib.hid hs
  have Hs' := Lib.hid hs'
  clear hT hU hs hs'
  by_cases hn : ts.length = us.length
  · have hq : ((ts.length : Int) != us.length) = false := by simp [hn]
    have HN := Lib.hid hn
    clear hn
    go_enter Try.func49, Try.ntmps49
    go_wp2_with fail
    go_loopw [13] (fun i wr => ∃ k : Nat, k ≤ ts.length ∧ i = .int .i64 k ∧ ts.take k = us.take k ∧ Below w.heap.size w wr) (fun i _ => ts.length - (intOf i).toNat)
    case atStart => exact ⟨0, Nat.zero_le _, rfl, rfl, Below.refl _ _⟩
    case round =>
      obtain ⟨k, hk, rfl, hall, hbel⟩ := hrel
      by_cases hlt : k < ts.length
      · have hlt' : k < us.length := by have := HN.out; omega
        have hnext : Tn.eq ts[k] us[k] = true → ts.take (k + 1) = us.take (k + 1) := fun h => by rw [List.take_succ_eq_append_getElem hlt, List.take_succ_eq_append_getElem hlt', hall, (Tn.eq_iff _ _).1 h]
        have hbad := Tn.eqs_false hlt hlt'
        obtain ⟨hr1, hr2⟩ := Hs.out ts[k] (List.getElem_mem hlt)
        obtain ⟨hr3, hr4⟩ := Hs'.out us[k] (List.getElem_mem hlt')
        obtain ⟨b, off, S, cS, C, dC, rfl, hb, c0, c1, hTR, hs1, hs2⟩ := HT.out.below hbel (Nat.le_refl _) k hlt
        obtain ⟨b', off', S', cS', C', dC', rfl, hb', c0', c1', hTR', hs1', hs2'⟩ := HU.out.below hbel (Nat.le_refl _) k hlt'
        have k0 : (0 : Int) ≤ k := by omega
        have k1 : (k : Int) < ts.length := by omega
        have k2 : (k : Int) < us.length := by omega
        have Hall := Lib.hid hall
        have Hnext := Lib.hid hnext
        have Hbad := Lib.hid hbad
        have HTR := Lib.hid hTR
        have HTR' := Lib.hid hTR'
        clear hall hnext hbad hTR hTR'
        generalize ts[k] = t at *
        generalize us[k] = u at *
        go_wp2_with fail
        go_region_held3 (fun w' => w'.cell? ⟨b, off + k * 2, none⟩ = some (.slice S t.s.length cS) ∧ w'.cell? ⟨b, off + k * 2 + 1, none⟩ = some (.slice C t.c.length dC) ∧ w'.cell? ⟨b', off' + k * 2, none⟩ = some (.slice S' u.s.length cS') ∧ w'.cell? ⟨b', off' + k * 2 + 1, none⟩ = some (.slice C' u.c.length dC')) (go_keep)
          (first | (go_at_call 54; refine (tensor_equal S C S' C' cS dC cS' dC' t u _ (by omega) (by omega) (by omega) (by omega) HTR.out.drew HTR'.out.drew).mono ?_; rintro e w1 ⟨rfl, h1⟩; have z0 := (h1.cell (p := ⟨b, off + k * 2, none⟩) hb).trans c0; have z1 := (h1.cell (p := ⟨b, off + k * 2 + 1, none⟩) hb).trans c1; have z2 := (h1.cell (p := ⟨b', off' + k * 2, none⟩) hb').trans c0'; have z3 := (h1.cell (p := ⟨b', off' + k * 2 + 1, none⟩) hb').trans c1'))
        have hbn : Below w.heap.size w w1 := hbel.drew.trans (h1.mono hbel.size)
        clear c0 c1 c0' c1' z0 z1 z2 z3 h1
        cases hs : Tn.eq t u
        · have HG := Lib.hid (Hbad.out hs)
          clear hs
          go_wp2_with fail
          go_ret
          exact ⟨by rw [HG.out]; rfl, hbn⟩
        · have HG := Lib.hid (Hnext.out hs)
          clear hs
          go_wp2_with fail
          go_roundw
          case rel => exact ⟨k + 1, by omega, by go_num, HG.out, hbn⟩
          case measure => simp [intOf]; omega
      · obtain rfl : k = ts.length := by omega
        have HE := Lib.hid (show Tn.eqs ts us = true by rw [List.take_length, HN.out, List.take_length] at hall; exact (Tn.eqs_iff _ _).2 hall)
        clear hall
        go_wp2_with fail
        go_ret
        exact ⟨by rw [HE.out]; rfl, hbel⟩
  · have hq : ((ts.length : Int) != us.length) = true := by simp; omega
    have HF := Lib.hid (Tn.eqs_len hn)
    clear hn
    go_enter Try.func49, Try.ntmps49
    go_wp2_with fail
    go_ret
    exact ⟨by rw [HF.out]; rfl, Below.refl _ _⟩

set_option maxHeartbeats 1000000 in
theorem state_equal (A1 A2 B1 B2 : Option Addr) (c1 c2 d1 d2 : Nat) (p v p' v' : List Ten) (w : World) (h1 : p.length ≤ 9223372036854775807) (h2 : v.length ≤ 9223372036854775807) (h3 : p'.length ≤ 9223372036854775807) (h4 : v'.length ≤ 9223372036854775807)
    (s1 : Tn.small p) (s2 : Tn.small v) (s3 : Tn.small p') (s4 : Tn.small v') (t1 : Tens w A1 p) (t2 : Tens w A2 v) (t3 : Tens w B1 p') (t4 : Tens w B2 v') :
    Calls Try.prog 33 #[.agg #[.slice A1 p.length c1, .slice A2 v.length c2], .agg #[.slice B1 p'.length d1, .slice B2 v'.length d2]] w fun e w' => e = .returned (.bool (Tn.eqs p p' && Tn.eqs v v')) ∧ Below w.heap.size w w' := by
  have hb0 : Below w.heap.size w ((w.alloc (.cells #[.slice A1 p.length c1, .slice A2 v.length c2] 24)).alloc (.cells #[.slice B1 p'.length d1, .slice B2 v'.length d2] 24)) := ((Below.refl _ _).alloc (Nat.le_refl _) _).alloc (by simp) _
  have hk0 := (Blk.new w 24 #[.slice A1 p.length c1, .slice A2 v.length c2]).alloc (.cells #[.slice B1 p'.length d1, .slice B2 v'.length d2] 24)
  have hk1 := Blk.new (w.alloc (.cells #[.slice A1 p.length c1, .slice A2 v.length c2] 24)) 24 #[.slice B1 p'.length d1, .slice B2 v'.length d2]
  rw [World.size_alloc] at hk1
  have Ht1 := Lib.hid t1
  have Ht2 := Lib.hid t2
  have Ht3 := Lib.hid t3
  have Ht4 := Lib.hid t4
  have Hs1 := Lib.hid s1
  have Hs2 := Lib.hid s2
  have Hs3 := Lib.hid s3
  have Hs4 := Lib.hid s4
  have Hk0 := Lib.hid hk0
  have Hk1 := Lib.hid hk1
  clear t1 t2 t3 t4 s1 s2 s3 s4 hk0 hk1
  go_enter Try.func33, Try.ntmps33
  go_wp2_with fail
  refine (optim_same A1 B1 c1 d1 p p' _ h1 h3 Hs1.out Hs3.out (Ht1.out.below hb0 (Nat.le_refl _)) (Ht3.out.below hb0 (Nat.le_refl _))).mono ?_
  rintro e w1 ⟨rfl, g1⟩
  have e1 := (Hk0.out.below g1 Hk0.out.lt).cell 1
  have e2 := (Hk1.out.below g1 Hk1.out.lt).cell 1
  simp at e1 e2
  have hb1 := hb0.trans (g1.mono hb0.size)
  clear g1 hb0
  cases hs : Tn.eqs p p'
  · go_wp2_with fail
    go_ret
    exact ⟨by rw [hs]; rfl, hb1⟩
  · go_wp2_with fail
    refine (optim_same A2 B2 c2 d2 v v' _ h2 h4 Hs2.out Hs4.out (Ht2.out.below hb1 (Nat.le_refl _)) (Ht4.out.below hb1 (Nat.le_refl _))).mono ?_
    rintro e w2 ⟨rfl, g2⟩
    have hb2 := hb1.trans (g2.mono hb1.size)
    go_wp2_with fail
    go_ret
    exact ⟨by simp [hs], hb2⟩
end Go.Proofs.Ytjgagbhbgehmpaa
