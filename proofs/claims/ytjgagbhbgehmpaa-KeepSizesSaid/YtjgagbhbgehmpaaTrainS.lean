/- Layer 26 (train): what is saved: metrics, Saved.Equal: contracts. -/
import Derived.Test.YtjgagbhbgehmpaaOptim
namespace Go.Proofs.Ytjgagbhbgehmpaa
open Go.RowKit

/-- What is told of a step. -/
structure Met where
  a : Int
  b : Int
  c : Int
  d : Int
  e : Int
  f : Int
def Met.l (m : Met) : List Int := [m.a, m.b, m.c, m.d, m.e, m.f]
def Met.v (m : Met) : Value := .agg #[.int .i64 m.a, .int .i64 m.b, .int .i64 m.c, .int .i64 m.d, .int .i64 m.e, .int .i64 m.f]
def Met.eq (m n : Met) : Bool := m.l == n.l
theorem Met.eq_iff (m n : Met) : m.eq n = true ↔ m = n := by cases m; cases n; simp [Met.eq, Met.l]

theorem Met.l_inj {m n : Met} (h : m.l = n.l) : m = n := (Met.eq_iff m n).1 (by simp [Met.eq, h])
def Met.eqs (ms ns : List Met) : Bool := ms.map Met.l == ns.map Met.l
theorem Met.eqs_iff (ms ns : List Met) : Met.eqs ms ns = true ↔ ms = ns := by
  unfold Met.eqs
  rw [beq_iff_eq]
  exact ⟨fun h => List.map_inj_right (fun _ _ => Met.l_inj) |>.1 h, fun h => by rw [h]⟩
theorem Met.eqs_false {ms ns : List Met} (h : ms ≠ ns) : Met.eqs ms ns = false := by
  cases e : Met.eqs ms ns
  · rfl
  · exact absurd ((Met.eqs_iff _ _).1 e) h

/-- A slice of metrics reads as the list ms. -/
def Mets (w : World) (A : Option Addr) (ms : List Met) : Prop :=
  ∀ j (hj : j < ms.length), ∃ b off, A = some ⟨b, off, none⟩ ∧ b < w.heap.size ∧ w.cell? ⟨b, off + j * 6, none⟩ = some (.int .i64 ms[j].a) ∧ w.cell? ⟨b, off + j * 6 + 1, none⟩ = some (.int .i64 ms[j].b) ∧ w.cell? ⟨b, off + j * 6 + 2, none⟩ = some (.int .i64 ms[j].c) ∧ w.cell? ⟨b, off + j * 6 + 3, none⟩ = some (.int .i64 ms[j].d) ∧ w.cell? ⟨b, off + j * 6 + 4, none⟩ = some (.int .i64 ms[j].e) ∧ w.cell? ⟨b, off + j * 6 + 5, none⟩ = some (.int .i64 ms[j].f)
theorem Mets.below {B : Nat} {w w' : World} {A : Option Addr} {ms : List Met} (h : Mets w A ms) (hb : Below B w w') (hB : w.heap.size ≤ B) : Mets w' A ms := fun j hj => by
  obtain ⟨b, off, e, hl, c0, c1, c2, c3, c4, c5⟩ := h j hj
  have hlt := Nat.lt_of_lt_of_le hl hB
  have hc : ∀ o, w'.cell? ⟨b, o, none⟩ = w.cell? ⟨b, o, none⟩ := fun o => hb.cell (p := ⟨b, o, none⟩) hlt
  exact ⟨b, off, e, Nat.lt_of_lt_of_le hl hb.size, (hc _).trans c0, (hc _).trans c1, (hc _).trans c2, (hc _).trans c3, (hc _).trans c4, (hc _).trans c5⟩

theorem met_stood : Try.prog.stoodInHeld 54 = false := by kernel_rfl
theorem met_guard : Try.prog.eqGuardType Try.prog.depth 54 = false := by kernel_rfl
theorem run_neq_met (m n : Met) (w : World) : (binOp .neq 54 (.agg #[.int .i64 m.a, .int .i64 m.b, .int .i64 m.c, .int .i64 m.d, .int .i64 m.e, .int .i64 m.f]) (.agg #[.int .i64 n.a, .int .i64 n.b, .int .i64 n.c, .int .i64 n.d, .int .i64 n.e, .int .i64 n.f])).run Try.prog w = .ok (.bool (!(m.eq n))) w := by
  have g1 := met_stood
  have g2 := met_guard
  cases h1 : (m.a == n.a)
  · simp [go_sem, g1, h1, Met.eq, Met.l]
  cases h2 : (m.b == n.b)
  · simp [go_sem, g1, h1, h2, Met.eq, Met.l]
  cases h3 : (m.c == n.c)
  · simp [go_sem, g1, h1, h2, h3, Met.eq, Met.l]
  cases h4 : (m.d == n.d)
  · simp [go_sem, g1, h1, h2, h3, h4, Met.eq, Met.l]
  cases h5 : (m.e == n.e)
  · simp [go_sem, g1, h1, h2, h3, h4, h5, Met.eq, Met.l]
  cases h6 : (m.f == n.f)
  all_goals simp [go_sem, g1, h1, h2, h3, h4, h5, h6, Met.eq, Met.l]

set_option maxHeartbeats 2000000 in
theorem mets_equal (A A' : Option Addr) (c c' : Nat) (ms ns : List Met) (w : World) (hl : ms.length ≤ 1000000000) (hl' : ns.length ≤ 1000000000) (hM : Mets w A ms) (hM' : Mets w A' ns) :
    Calls Try.prog 34 #[.slice A ms.length c, .slice A' ns.length c'] w fun e w' => e = .returned (.bool (Met.eqs ms ns)) ∧ ∃ n, w' = w.drewN n := by
  have HM := Lib.hid hM
  have HM' := Lib.hid hM'
  clear hM hM'
  have heq := fun m n => run_neq_met m n
  by_cases hn : ms.length = ns.length
  · have hq : ((ms.length : Int) != ns.length) = false := by simp [hn]
    have HN := Lib.hid hn
    clear hn
    go_enter Try.func34, Try.ntmps34
    go_wp2_with fail
    go_loopw [13] (fun i wr => ∃ k n : Nat, wr = w.drewN n ∧ k ≤ ms.length ∧ i = .int .i64 k ∧ ms.take k = ns.take k) (fun i _ => ms.length - (intOf i).toNat)
    case atStart => exact ⟨0, 0, rfl, Nat.zero_le _, rfl, rfl⟩
    case round =>
      obtain ⟨k, n, rfl, hk, rfl, htk⟩ := hrel
      have HT := Lib.hid htk
      clear htk
      by_cases hlt : k < ms.length
      · have hlt' : k < ns.length := by have := HN.out; omega
        obtain ⟨b, off, rfl, hb, c0, c1, c2, c3, c4, c5⟩ := HM.out k hlt
        obtain ⟨b', off', rfl, hb', c0', c1', c2', c3', c4', c5'⟩ := HM'.out k hlt'
        have k0 : (0 : Int) ≤ k := by omega
        have k1 : (k : Int) < ms.length := by omega
        have k2 : (k : Int) < ns.length := by omega
        have hnext : ms[k].eq ns[k] = true → ms.take (k + 1) = ns.take (k + 1) := fun h => by rw [List.take_succ_eq_append_getElem hlt, List.take_succ_eq_append_getElem hlt', HT.out, (Met.eq_iff _ _).1 h]
        have hbad : ms[k].eq ns[k] = false → Met.eqs ms ns = false := fun h => Met.eqs_false (by rintro rfl; rw [(Met.eq_iff _ _).2 rfl] at h; cases h)
        have Hnext := Lib.hid hnext
        have Hbad := Lib.hid hbad
        clear hnext hbad
        generalize ms[k] = x at *
        generalize ns[k] = y at *
        cases hxy : x.eq y
        · have HF := Lib.hid (Hbad.out hxy)
          go_wp2_with fail
          go_quiet (fail)
          go_wp2_with fail
          go_ret
          exact ⟨by rw [HF.out]; rfl, n + nq, World.drewN_drewN _ _ _⟩
        · have HT2 := Lib.hid (Hnext.out hxy)
          go_wp2_with fail
          go_quiet (fail)
          go_wp2_with fail
          go_roundw
          case rel => exact ⟨k + 1, n + nq, by first | rfl | exact World.drewN_drewN _ _ _, by omega, by go_num, HT2.out⟩
          case measure => simp [intOf]; omega
      · obtain rfl : k = ms.length := by omega
        have hf := Lib.hid (show Met.eqs ms ns = true by have := HT.out; rw [List.take_length, HN.out, List.take_length] at this; exact (Met.eqs_iff _ _).2 this)
        go_wp2_with fail
        go_ret
        exact ⟨by rw [hf.out]; rfl, n, rfl⟩
  · have hq : ((ms.length : Int) != ns.length) = true := by simp; omega
    have hf := Lib.hid (Met.eqs_false (ms := ms) (ns := ns) (by rintro rfl; exact hn rfl))
    clear hn
    go_enter Try.func34, Try.ntmps34
    go_wp2_with fail
    go_ret
    exact ⟨by rw [hf.out]; rfl, 0, rfl⟩

/-- What is saved. -/
structure Sav where
  p : List Ten
  v : List Ten
  m : List Met
namespace Sav
def ok (s : Sav) : Prop := s.p.length ≤ 1000000 ∧ s.v.length ≤ 1000000 ∧ s.m.length ≤ 1000000 ∧ Tn.small s.p ∧ Tn.small s.v
def eq (s t : Sav) : Bool := Tn.eqs s.p t.p && Tn.eqs s.v t.v && Met.eqs s.m t.m
theorem eq_iff (s t : Sav) : eq s t = true ↔ s = t := by
  cases s; cases t
  simp [eq, Tn.eqs_iff, Met.eqs_iff, and_assoc]
end Sav
def SavR (w : World) (P V M : Option Addr) (s : Sav) : Prop := Tens w P s.p ∧ Tens w V s.v ∧ Mets w M s.m
theorem SavR.below {B : Nat} {w w' : World} {P V M : Option Addr} {s : Sav} (h : SavR w P V M s) (hb : Below B w w') (hB : w.heap.size ≤ B) : SavR w' P V M s := ⟨h.1.below hb hB, h.2.1.below hb hB, h.2.2.below hb hB⟩

set_option maxHeartbeats 1000000 in
theorem saved_equal (P V M P' V' M' : Option Addr) (c1 c2 c3 d1 d2 d3 : Nat) (s t : Sav) (w : World) (hs : s.ok) (ht : t.ok) (hS : SavR w P V M s) (hT : SavR w P' V' M' t) :
    Calls Try.prog 14 #[.agg #[.slice P s.p.length c1, .slice V s.v.length c2, .slice M s.m.length c3], .agg #[.slice P' t.p.length d1, .slice V' t.v.length d2, .slice M' t.m.length d3]] w fun e w' => e = .returned (.bool (s.eq t)) ∧ Below w.heap.size w w' := by
  have hb0 : Below w.heap.size w ((w.alloc (.cells #[.slice P s.p.length c1, .slice V s.v.length c2, .slice M s.m.length c3] 27)).alloc (.cells #[.slice P' t.p.length d1, .slice V' t.v.length d2, .slice M' t.m.length d3] 27)) := ((Below.refl _ _).alloc (Nat.le_refl _) _).alloc (by simp) _
  have hk0 := (Blk.new w 27 #[.slice P s.p.length c1, .slice V s.v.length c2, .slice M s.m.length c3]).alloc (.cells #[.slice P' t.p.length d1, .slice V' t.v.length d2, .slice M' t.m.length d3] 27)
  have hk1 := Blk.new (w.alloc (.cells #[.slice P s.p.length c1, .slice V s.v.length c2, .slice M s.m.length c3] 27)) 27 #[.slice P' t.p.length d1, .slice V' t.v.length d2, .slice M' t.m.length d3]
  rw [World.size_alloc] at hk1
  obtain ⟨s1, s2, s3, s4, s5⟩ := hs
  obtain ⟨t1, t2, t3, t4, t5⟩ := ht
  have HE := Lib.hid (show s.eq t = (Tn.eqs s.p t.p && Tn.eqs s.v t.v && Met.eqs s.m t.m) from rfl)
  have HS := Lib.hid hS
  have HT := Lib.hid hT
  have Hk0 := Lib.hid hk0
  have Hk1 := Lib.hid hk1
  have Hs4 := Lib.hid s4
  have Hs5 := Lib.hid s5
  have Ht4 := Lib.hid t4
  have Ht5 := Lib.hid t5
  clear hS hT hk0 hk1 s4 s5 t4 t5
  go_enter Try.func14, Try.ntmps14
  go_wp2_with fail
  refine (state_equal P V P' V' c1 c2 d1 d2 s.p s.v t.p t.v _ (by omega) (by omega) (by omega) (by omega) Hs4.out Hs5.out Ht4.out Ht5.out (HS.out.1.below hb0 (Nat.le_refl _)) (HS.out.2.1.below hb0 (Nat.le_refl _)) (HT.out.1.below hb0 (Nat.le_refl _)) (HT.out.2.1.below hb0 (Nat.le_refl _))).mono ?_
  rintro e w1 ⟨rfl, g1⟩
  have e1 := (Hk0.out.below g1 Hk0.out.lt).cell 2
  have e2 := (Hk1.out.below g1 Hk1.out.lt).cell 2
  simp at e1 e2
  have hb1 := hb0.trans (g1.mono hb0.size)
  clear g1 hb0
  cases hs : Tn.eqs s.p t.p && Tn.eqs s.v t.v
  · have HF := Lib.hid (show s.eq t = false by rw [HE.out, hs]; rfl)
    clear hs
    go_wp2_with fail
    go_ret
    exact ⟨by rw [HF.out]; rfl, hb1⟩
  · have HF := Lib.hid (show s.eq t = Met.eqs s.m t.m by rw [HE.out, hs, Bool.true_and])
    clear hs
    go_wp2_with fail
    refine (mets_equal M M' c3 d3 s.m t.m _ (by omega) (by omega) (HS.out.2.2.below hb1 (Nat.le_refl _)) (HT.out.2.2.below hb1 (Nat.le_refl _))).mono ?_
    rintro e w2 ⟨rfl, n, rfl⟩
    go_wp2_with fail
    go_ret
    exact ⟨by rw [HF.out]; rfl, Bdrawn hb1 n⟩
end Go.Proofs.Ytjgagbhbgehmpaa
