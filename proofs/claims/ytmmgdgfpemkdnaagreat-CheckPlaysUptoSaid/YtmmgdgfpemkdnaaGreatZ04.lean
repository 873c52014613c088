/- Lemmas for the statements of this seat: contracts of functions and the plain laws. -/
import Derived.BigQuiet
import Derived.Deep.DeepCutAuto
import Derived.Deep.QuietTactic
import Derived.KernelRfl
import Derived.Shelf.Spec.SlicesInsert
import Derived.Shelf.Spec.SlicesInsertGrow
import Derived.Test.YtmmgdgfpemkdnaaGreatChecked
import Derived.Test.YtmmgdgfpemkdnaaGreatProg
import Derived.Test.YtmmgdgfpemkdnaaGreatZ03
set_option linter.unusedVariables false
/- Layer 18 (check): a state in memory, written to_. -/
namespace Go.Proofs.YtmmgdgfpemkdnaaGreat
open Go.RowKit
section
variable {a : CkA} {c : CkN} {W0 W : World} {s : CkS}
theorem CkM.set_now (h : CkM a c W0 s W) (hS : a.Still c W0) (n : Int) : CkM a c W0 { s with now := n } (W.setCell ⟨a.p, 12, none⟩ (.int .i64 n)) := by
  have := hS.hp; have := hS.h1; have := hS.h2; have := hS.h3
  exact ⟨h.later.set (p := ⟨a.p, 12, none⟩) hS.hp _, h.box.set_ 12 _, h.pres.far (p := ⟨a.p, 12, none⟩) (by simp; omega) _, h.sav.far (p := ⟨a.p, 12, none⟩) (by simp; omega) _, h.grad.far (p := ⟨a.p, 12, none⟩) (by simp; omega) _, h.l1, h.l2, h.l3⟩
theorem CkM.set_peak (h : CkM a c W0 s W) (hS : a.Still c W0) (n : Int) : CkM a c W0 { s with peak := n } (W.setCell ⟨a.p, 13, none⟩ (.int .i64 n)) := by
  have := hS.hp; have := hS.h1; have := hS.h2; have := hS.h3
  exact ⟨h.later.set (p := ⟨a.p, 13, none⟩) hS.hp _, h.box.set_ 13 _, h.pres.far (p := ⟨a.p, 13, none⟩) (by simp; omega) _, h.sav.far (p := ⟨a.p, 13, none⟩) (by simp; omega) _, h.grad.far (p := ⟨a.p, 13, none⟩) (by simp; omega) _, h.l1, h.l2, h.l3⟩
theorem CkM.set_em (h : CkM a c W0 s W) (hS : a.Still c W0) (b : Bool) : CkM a c W0 { s with em := b } (W.setCell ⟨a.p, 9, none⟩ (.bool b)) := by
  have := hS.hp; have := hS.h1; have := hS.h2; have := hS.h3
  exact ⟨h.later.set (p := ⟨a.p, 9, none⟩) hS.hp _, h.box.set_ 9 _, h.pres.far (p := ⟨a.p, 9, none⟩) (by simp; omega) _, h.sav.far (p := ⟨a.p, 9, none⟩) (by simp; omega) _, h.grad.far (p := ⟨a.p, 9, none⟩) (by simp; omega) _, h.l1, h.l2, h.l3⟩
theorem CkM.set_sd (h : CkM a c W0 s W) (hS : a.Still c W0) (b : Bool) : CkM a c W0 { s with sd := b } (W.setCell ⟨a.p, 10, none⟩ (.bool b)) := by
  have := hS.hp; have := hS.h1; have := hS.h2; have := hS.h3
  exact ⟨h.later.set (p := ⟨a.p, 10, none⟩) hS.hp _, h.box.set_ 10 _, h.pres.far (p := ⟨a.p, 10, none⟩) (by simp; omega) _, h.sav.far (p := ⟨a.p, 10, none⟩) (by simp; omega) _, h.grad.far (p := ⟨a.p, 10, none⟩) (by simp; omega) _, h.l1, h.l2, h.l3⟩
theorem CkM.set_done (h : CkM a c W0 s W) (hS : a.Still c W0) (n : Nat) : CkM a c W0 { s with done := n } (W.setCell ⟨a.p, 11, none⟩ (.int .i64 n)) := by
  have := hS.hp; have := hS.h1; have := hS.h2; have := hS.h3
  exact ⟨h.later.set (p := ⟨a.p, 11, none⟩) hS.hp _, h.box.set_ 11 _, h.pres.far (p := ⟨a.p, 11, none⟩) (by simp; omega) _, h.sav.far (p := ⟨a.p, 11, none⟩) (by simp; omega) _, h.grad.far (p := ⟨a.p, 11, none⟩) (by simp; omega) _, h.l1, h.l2, h.l3⟩
theorem bools_set (l : List Bool) (i : Nat) (b : Bool) : ((l.map Value.bool).toArray.setIfInBounds i (.bool b)) = ((l.set i b).map Value.bool).toArray := by
  rw [List.map_set, List.setIfInBounds_toArray]
theorem CkM.set_pres (h : CkM a c W0 s W) (hS : a.Still c W0) (i : Nat) (b : Bool) : CkM a c W0 { s with pres := s.pres.set i b } (W.setCell ⟨a.g1, i, none⟩ (.bool b)) := by
  have := hS.hp; have := hS.h1; have := hS.h2; have := hS.h3
  have hk := h.pres.set_ i (.bool b)
  rw [bools_set] at hk
  exact ⟨h.later.set (p := ⟨a.g1, i, none⟩) (by simp; omega) _, h.box.far (p := ⟨a.g1, i, none⟩) (by simp; omega) _, hk, h.sav.far (p := ⟨a.g1, i, none⟩) (by simp; omega) _, h.grad.far (p := ⟨a.g1, i, none⟩) (by simp; omega) _, by simpa using h.l1, h.l2, h.l3⟩
theorem CkM.set_sav (h : CkM a c W0 s W) (hS : a.Still c W0) (i : Nat) (b : Bool) : CkM a c W0 { s with sav := s.sav.set i b } (W.setCell ⟨a.g2, i, none⟩ (.bool b)) := by
  have := hS.hp; have := hS.h1; have := hS.h2; have := hS.h3
  have hk := h.sav.set_ i (.bool b)
  rw [bools_set] at hk
  exact ⟨h.later.set (p := ⟨a.g2, i, none⟩) (by simp; omega) _, h.box.far (p := ⟨a.g2, i, none⟩) (by simp; omega) _, h.pres.far (p := ⟨a.g2, i, none⟩) (by simp; omega) _, hk, h.grad.far (p := ⟨a.g2, i, none⟩) (by simp; omega) _, h.l1, by simpa using h.l2, h.l3⟩
theorem CkM.set_grad (h : CkM a c W0 s W) (hS : a.Still c W0) (i : Nat) (b : Bool) : CkM a c W0 { s with grad := s.grad.set i b } (W.setCell ⟨a.g3, i, none⟩ (.bool b)) := by
  have := hS.hp; have := hS.h1; have := hS.h2; have := hS.h3
  have hk := h.grad.set_ i (.bool b)
  rw [bools_set] at hk
  exact ⟨h.later.set (p := ⟨a.g3, i, none⟩) (by simp; omega) _, h.box.far (p := ⟨a.g3, i, none⟩) (by simp; omega) _, h.pres.far (p := ⟨a.g3, i, none⟩) (by simp; omega) _, h.sav.far (p := ⟨a.g3, i, none⟩) (by simp; omega) _, hk, h.l1, h.l2, by simpa using h.l3⟩
end
/-- A state, and all else as it was. -/
structure CkF (a : CkA) (c : CkN) (W0 : World) (s : CkS) (W W' : World) : Prop where
  mem : CkM a c W0 s W'
  fr : Fr (fun b => a.p ≤ b ∧ b ≤ a.g3) W W'
section
variable {a : CkA} {c : CkN} {W0 W W' W2 : World} {s : CkS}
theorem CkF.later (h : CkF a c W0 s W W') (hl : Later W' W2) : CkF a c W0 s W W2 := ⟨h.mem.to_later hl, h.fr.then_below hl h.fr.size⟩
theorem CkF.now (h : CkF a c W0 s W W') (hS : a.Still c W0) (n : Int) : CkF a c W0 { s with now := n } W (W'.setCell ⟨a.p, 12, none⟩ (.int .i64 n)) := ⟨h.mem.set_now hS n, h.fr.setCell (p := ⟨a.p, 12, none⟩) (fun _ => ⟨Nat.le_refl _, by have := hS.h1; have := hS.h2; have := hS.h3; simp; omega⟩) _⟩
theorem CkF.peak (h : CkF a c W0 s W W') (hS : a.Still c W0) (n : Int) : CkF a c W0 { s with peak := n } W (W'.setCell ⟨a.p, 13, none⟩ (.int .i64 n)) := ⟨h.mem.set_peak hS n, h.fr.setCell (p := ⟨a.p, 13, none⟩) (fun _ => ⟨Nat.le_refl _, by have := hS.h1; have := hS.h2; have := hS.h3; simp; omega⟩) _⟩
theorem CkF.em (h : CkF a c W0 s W W') (hS : a.Still c W0) (b : Bool) : CkF a c W0 { s with em := b } W (W'.setCell ⟨a.p, 9, none⟩ (.bool b)) := ⟨h.mem.set_em hS b, h.fr.setCell (p := ⟨a.p, 9, none⟩) (fun _ => ⟨Nat.le_refl _, by have := hS.h1; have := hS.h2; have := hS.h3; simp; omega⟩) _⟩
theorem CkF.sd (h : CkF a c W0 s W W') (hS : a.Still c W0) (b : Bool) : CkF a c W0 { s with sd := b } W (W'.setCell ⟨a.p, 10, none⟩ (.bool b)) := ⟨h.mem.set_sd hS b, h.fr.setCell (p := ⟨a.p, 10, none⟩) (fun _ => ⟨Nat.le_refl _, by have := hS.h1; have := hS.h2; have := hS.h3; simp; omega⟩) _⟩
theorem CkF.done (h : CkF a c W0 s W W') (hS : a.Still c W0) (n : Nat) : CkF a c W0 { s with done := n } W (W'.setCell ⟨a.p, 11, none⟩ (.int .i64 n)) := ⟨h.mem.set_done hS n, h.fr.setCell (p := ⟨a.p, 11, none⟩) (fun _ => ⟨Nat.le_refl _, by have := hS.h1; have := hS.h2; have := hS.h3; simp; omega⟩) _⟩
theorem CkF.pres (h : CkF a c W0 s W W') (hS : a.Still c W0) (i : Nat) (b : Bool) : CkF a c W0 { s with pres := s.pres.set i b } W (W'.setCell ⟨a.g1, i, none⟩ (.bool b)) := ⟨h.mem.set_pres hS i b, h.fr.setCell (p := ⟨a.g1, i, none⟩) (fun _ => ⟨by have := hS.h1; simp; omega, by have := hS.h2; have := hS.h3; simp; omega⟩) _⟩
theorem CkF.sav (h : CkF a c W0 s W W') (hS : a.Still c W0) (i : Nat) (b : Bool) : CkF a c W0 { s with sav := s.sav.set i b } W (W'.setCell ⟨a.g2, i, none⟩ (.bool b)) := ⟨h.mem.set_sav hS i b, h.fr.setCell (p := ⟨a.g2, i, none⟩) (fun _ => ⟨by have := hS.h1; have := hS.h2; simp; omega, by have := hS.h3; simp; omega⟩) _⟩
theorem CkF.grad (h : CkF a c W0 s W W') (hS : a.Still c W0) (i : Nat) (b : Bool) : CkF a c W0 { s with grad := s.grad.set i b } W (W'.setCell ⟨a.g3, i, none⟩ (.bool b)) := ⟨h.mem.set_grad hS i b, h.fr.setCell (p := ⟨a.g3, i, none⟩) (fun _ => ⟨by have := hS.h1; have := hS.h2; have := hS.h3; simp; omega, by simp⟩) _⟩
theorem CkF.froz (h : CkF a c W0 s W W') (i : Nat) : W'.frozen? ⟨a.p, i, none⟩ = false ∧ W'.frozen? ⟨a.g1, i, none⟩ = false ∧ W'.frozen? ⟨a.g2, i, none⟩ = false ∧ W'.frozen? ⟨a.g3, i, none⟩ = false :=
  ⟨h.mem.box.frozen i, h.mem.pres.frozen i, h.mem.sav.frozen i, h.mem.grad.frozen i⟩
end
end Go.Proofs.YtmmgdgfpemkdnaaGreat
/- Layer 17 (code): contracts. -/
namespace Go.Proofs.YtmmgdgfpemkdnaaGreat
open Go.RowKit

/-- The slice at A reads as the pairs ps. -/
def Pairs (w : World) (A : Option Addr) (ps : List (Int × Int)) : Prop :=
  ∀ k (h : k < ps.length), ∃ b off, A = some ⟨b, off, none⟩ ∧ b < w.heap.size ∧ w.cell? ⟨b, off + k * 2, none⟩ = some (.int .i64 ps[k].1) ∧ w.cell? ⟨b, off + k * 2 + 1, none⟩ = some (.int .i64 ps[k].2)

section
variable {w w' : World} {A : Option Addr} {ps : List (Int × Int)}
theorem Pairs.nil : Pairs w A [] := fun j hj => by simp at hj
theorem Pairs.below {B : Nat} (h : Pairs w A ps) (hb : Below B w w') (hB : w.heap.size ≤ B) : Pairs w' A ps := fun j hj => by
  obtain ⟨b, off, e, hl, hc, hd⟩ := h j hj
  exact ⟨b, off, e, Nat.lt_of_lt_of_le hl hb.size, (hb.cell (p := ⟨b, off + j * 2, none⟩) (Nat.lt_of_lt_of_le hl hB)).trans hc, (hb.cell (p := ⟨b, off + j * 2 + 1, none⟩) (Nat.lt_of_lt_of_le hl hB)).trans hd⟩
end

theorem code_right (a b : Int) (w : World) :
    Calls Tryz.prog 43 #[.agg #[.int .i64 a, .int .i64 b]] w fun e w' => e = .returned (.bool (Cd.right (a, b))) ∧ Below w.heap.size w w' := by
  rcases Cd.kinds a with h | h | h
  · have hfin := Lib.hid (Cd.right_45 (p := (a, b)) h)
    rcases h with rfl | rfl
    all_goals
      go_enter Tryz.func43, Tryz.ntmps43
      go_wp2_with fail
      go_ret
      exact ⟨ret_bool (by rw [hfin.out]), (Below.refl _ _).alloc (Nat.le_refl _) _⟩
  · have hfin := Lib.hid (Cd.right_1236 (p := (a, b)) h)
    by_cases h1 : 1 ≤ b
    · rcases h with rfl | rfl | rfl | rfl
      all_goals
        go_enter Tryz.func43, Tryz.ntmps43
        go_wp2_with fail
        go_ret
        exact ⟨ret_bool (by rw [hfin.out]; simp [h1]), (Below.refl _ _).alloc (Nat.le_refl _) _⟩
    · rcases h with rfl | rfl | rfl | rfl
      all_goals
        go_enter Tryz.func43, Tryz.ntmps43
        go_wp2_with fail
        go_ret
        exact ⟨ret_bool (by rw [hfin.out]; simp; omega), (Below.refl _ _).alloc (Nat.le_refl _) _⟩
  · obtain ⟨h1, h2, h3, h4, h5, h6⟩ := h
    have hfin := Lib.hid (Cd.right_other (p := (a, b)) h1 h2 h3 h4 h5 h6)
    have g1 : (a == 1) = false := by simp [h1]
    have g2 : (a == 2) = false := by simp [h2]
    have g3 : (a == 3) = false := by simp [h3]
    have g4 : (a == 4) = false := by simp [h4]
    have g5 : (a == 5) = false := by simp [h5]
    have g6 : (a == 6) = false := by simp [h6]
    clear h1 h2 h3 h4 h5 h6
    go_enter Tryz.func43, Tryz.ntmps43
    go_wp2_with fail
    go_ret
    exact ⟨ret_bool (by rw [hfin.out]), (Below.refl _ _).alloc (Nat.le_refl _) _⟩

set_option maxHeartbeats 400000 in
theorem code_check (A : Option Addr) (c : Nat) (ps : List (Int × Int)) (w : World) (hl : ps.length ≤ 9223372036854775807) (hI : Pairs w A ps) :
    Calls Tryz.prog 24 #[.slice A ps.length c] w fun e w' => e = .returned (.int .i64 (Cd.check ps)) ∧ Below w.heap.size w w' := by
  have HI := Lib.hid hI
  clear hI
  by_cases hm : 65536 < ps.length
  · have hfin := Lib.hid (Cd.check_many hm)
    go_enter Tryz.func24, Tryz.ntmps24
    go_wp2_with fail
    go_ret
    exact ⟨ret_int (by rw [hfin.out]), Below.refl _ _⟩
  · go_enter Tryz.func24, Tryz.ntmps24
    go_wp2_with fail
    go_loopw [4, 10] (fun _ i wr => ∃ k : Nat, k ≤ ps.length ∧ i = .int .i64 k ∧ Below w.heap.size w wr ∧ ∀ j (hj : j < ps.length), j < k → Cd.right ps[j] = true) (fun _ i _ => ps.length - (intOf i).toNat)
    case atStart => exact ⟨0, Nat.zero_le _, rfl, Below.refl _ _, by intro j _ hj; omega⟩
    case round =>
      obtain ⟨k, hk, rfl, hbel, hok⟩ := hrel
      have HO := Lib.hid hok
      clear hok
      by_cases hlt : k < ps.length
      · obtain ⟨b, off, rfl, hb, hc, hd⟩ := HI.out.below hbel (Nat.le_refl _) k hlt
        go_wp2_with fail
        refine (code_right _ _ _).mono ?_
        rintro e w1 ⟨rfl, h1⟩
        have hb1 : Below w.heap.size w w1 := (hbel.alloc hbel.size _).trans (h1.mono (by have := hbel.size; simp; omega))
        clear h1 hbel
        cases hr : Cd.right (ps[k].1, ps[k].2)
        · have hfin := Lib.hid (Cd.check_form hm (Cd.not_all hlt hr))
          clear hr
          go_wp2_with fail
          go_ret
          exact ⟨ret_int (by rw [hfin.out]), hb1⟩
        · have HR := Lib.hid hr
          clear hr
          go_wp2_with fail
          go_roundw
          case rel => exact ⟨k + 1, by omega, by go_num, hb1, fun j hj hj2 => by rcases Nat.lt_succ_iff_lt_or_eq.1 hj2 with h | h; exact HO.out j hj h; subst h; exact HR.out⟩
          case measure => simp [intOf]; omega
      · obtain rfl : k = ps.length := by omega
        have hfin := Lib.hid (Cd.check_ok hm (Cd.all_get (fun j hj => HO.out j hj hj)))
        go_wp2_with fail
        go_ret
        exact ⟨ret_int (by rw [hfin.out]), hbel⟩

theorem ref17_right (a b : Int) (w : World) :
    Calls Tryz.prog 10 #[.int .i64 a, .int .i64 b] w fun e w' => e = .returned (.bool (Cd.right (a, b))) ∧ w = w' := by
  rcases Cd.kinds a with h | h | h
  · have hfin := Lib.hid (Cd.right_45 (p := (a, b)) h)
    rcases h with rfl | rfl
    all_goals
      go_enter Tryz.func10, Tryz.ntmps10
      go_wp2_with fail
      go_ret
      exact ⟨ret_bool (by rw [hfin.out]), rfl⟩
  · have hfin := Lib.hid (Cd.right_1236 (p := (a, b)) h)
    by_cases h1 : 1 ≤ b
    · rcases h with rfl | rfl | rfl | rfl
      all_goals
        go_enter Tryz.func10, Tryz.ntmps10
        go_wp2_with fail
        go_ret
        exact ⟨ret_bool (by rw [hfin.out]; simp [h1]), rfl⟩
    · rcases h with rfl | rfl | rfl | rfl
      all_goals
        go_enter Tryz.func10, Tryz.ntmps10
        go_wp2_with fail
        go_ret
        exact ⟨ret_bool (by rw [hfin.out]; simp; omega), rfl⟩
  · obtain ⟨h1, h2, h3, h4, h5, h6⟩ := h
    have hfin := Lib.hid (Cd.right_other (p := (a, b)) h1 h2 h3 h4 h5 h6)
    have g1 : (a == 1) = false := by simp [h1]
    have g2 : (a == 2) = false := by simp [h2]
    have g3 : (a == 3) = false := by simp [h3]
    have g4 : (a == 4) = false := by simp [h4]
    have g5 : (a == 5) = false := by simp [h5]
    have g6 : (a == 6) = false := by simp [h6]
    clear h1 h2 h3 h4 h5 h6
    go_enter Tryz.func10, Tryz.ntmps10
    go_wp2_with fail
    go_ret
    exact ⟨ret_bool (by rw [hfin.out]), rfl⟩

end Go.Proofs.YtmmgdgfpemkdnaaGreat
/- Layer 18 (check): Do: contract. -/
namespace Go.Proofs.YtmmgdgfpemkdnaaGreat
open Go.RowKit
/-- What holds behind Do. -/
def DoP (a : CkA) (c : CkN) (W0 : World) (s : CkS) (k id : Int) (W : World) (e : Ending) (w' : World) : Prop :=
  e = .returned (.int .i64 (Ck.do_ c s k id).2) ∧ CkF a c W0 (Ck.do_ c s k id).1 W w'
theorem CkM.g3_lt {a : CkA} {c : CkN} {W0 W : World} {s : CkS} (h : CkM a c W0 s W) : a.g3 < W.heap.size := h.grad.lt
theorem CkF.base {a : CkA} {c : CkN} {W0 W W1 W' : World} {s : CkS} (h : CkF a c W0 s W1 W') (hl : Later W W1) : CkF a c W0 s W W' :=
  ⟨h.mem, (Fr.refl _ W).then_below hl (Nat.le_refl _) |>.trans' h.fr fun _ _ h => h⟩
theorem ck_box {q : Nat} {W W' : World} {a : CkA} {c : CkN} {W0 : World} {s : CkS} {k id : Value} (hq : Blk W q 46 #[k, id]) (h : CkF a c W0 s W W') (hg : a.g3 < q) : W'.cell? ⟨q, 0, none⟩ = some k ∧ W'.cell? ⟨q, 1, none⟩ = some id := by
  have := h.fr.blk hq (by omega)
  exact ⟨this.cell 0, this.cell 1⟩
theorem Ck.sets_take (g : List Bool) (l : List Int) (k : Nat) (h : k < l.length) : Ck.sets g (l.take (k + 1)) = Ck.setB (Ck.sets g (l.take k)) l[k] true := by
  unfold Ck.sets
  rw [List.take_succ_eq_append_getElem h, List.foldl_append]; rfl
theorem CkF.trans {a : CkA} {c : CkN} {W0 W W1 W2 : World} {s s' : CkS} (h : CkF a c W0 s W W1) (k : CkF a c W0 s' W1 W2) : CkF a c W0 s' W W2 := ⟨k.mem, h.fr.trans k.fr⟩
theorem Ck.more_bd {a : CkA} {c : CkN} {W0 : World} (hS : a.Still c W0) (s : CkS) (k : Int) {n : Nat} (hn : n < c.words.length) : 0 ≤ Ck.more c s k n ∧ Ck.more c s k n ≤ 68719476736 := by
  have hw : ∀ z : Int, 0 ≤ Ck.wd c z ∧ Ck.wd c z ≤ 65536 := fun z => by
    have := Ck.sum_bd c hS.ok.word [z]
    simp [Ck.sumW] at this; exact this
  unfold Ck.more
  split
  · have := hw n; omega
  · split
    · have := hw c.loss; omega
    · split
      · have h1 := Ck.sum_bd c hS.ok.word (Ck.fresh c s n)
        have h2 := (Ck.fresh_in hS s hn).1
        omega
      · omega
set_option maxHeartbeats 16000000 in
set_option maxRecDepth 100000 in
theorem check_do (a : CkA) (c : CkN) (W0 : World) (s : CkS) (W : World) (hS : a.Still c W0) (hM : CkM a c W0 s W) (k id : Int) (hdn : s.done ≤ 1048576) (hnow : -1152921504606846976 ≤ s.now ∧ s.now ≤ 1152921504606846976) (hpk : -1152921504606846976 ≤ s.peak ∧ s.peak ≤ 1152921504606846976) :
    Calls Tryz.prog 15 #[.pointer (some ⟨a.p, 0, none⟩), .agg #[.int .i64 k, .int .i64 id]] W (DoP a c W0 s k id W) := by
  have hla : Later W (W.alloc (.cells #[.int .i64 k, .int .i64 id] 46)) := (Later.refl W).alloc _
  have hM1 := hM.to_later hla
  have hq := Blk.new W 46 #[.int .i64 k, .int .i64 id]
  have hg3 := hM.g3_lt
  have h513 := hS.ok.m2
  obtain ⟨y0, -⟩ := hM1.cells14
  have z0 : (W.alloc (.cells #[.int .i64 k, .int .i64 id] 46)).cell? ⟨W.heap.size, 0, none⟩ = some (.int .i64 k) := hq.cell 0
  have z1 : (W.alloc (.cells #[.int .i64 k, .int .i64 id] 46)).cell? ⟨W.heap.size, 1, none⟩ = some (.int .i64 id) := hq.cell 1
  have hrg := fun V => code_right k id V
  have HS := Lib.hid hS
  have HM1 := Lib.hid hM1
  have Hq := Lib.hid hq
  have Hla := Lib.hid hla
  clear hS hM1 hq hla
  clear hM
  cases hr : Cd.right (k, id) with
  | false =>
    rw [hr] at hrg
    have HD := Lib.hid (show Ck.do_ c s k id = (s, 10) by unfold Ck.do_; rw [if_pos (.inl hr)])
    have Hrg := Lib.hid hrg
    clear hrg
    clear hr
    go_enter Tryz.func15, Tryz.ntmps15
    go_wp2_with fail
    generalize W.alloc (.cells #[.int .i64 k, .int .i64 id] 46) = W1 at *
    have hld : Later W1 W1.drew := (Later.refl _).drew
    have k0 := hld.cell y0
    have k1 := hld.cell z0
    have k2 := hld.cell z1
    first
      | (go_region_with (first
          | (go_at_call 43; refine (Hrg.out _).mono ?_; rintro e wr ⟨rfl, hbr⟩; have hlr : Later W1.drew wr := hbr)
          | fail))
      | fail
    all_goals
      have hl1 := Hla.out.trans (hld.trans hlr)
      have hMr := HM1.out.to_later (hld.trans hlr)
      have Hl1 := Lib.hid hl1
      have HMr := Lib.hid hMr
      clear hl1 hMr
      clear k0 k1 k2 y0 z0 z1 hlr hld
      go_wp2_with fail
      go_ret
      exact ⟨by rw [HD.out]; rfl, by rw [HD.out]; exact ⟨HMr.out, (Fr.refl _ W).then_below Hl1.out (Nat.le_refl _)⟩⟩
  | true =>
    obtain ⟨-, -, hi0, -⟩ := Cd.right_bd hr
    obtain ⟨n, rfl⟩ := Int.eq_ofNat_of_zero_le (show 0 ≤ id from hi0)
    rw [hr] at hrg
    by_cases hid : n < c.words.length
    rotate_left
    · skip
      have HD := Lib.hid (show Ck.do_ c s k n = (s, 10) by unfold Ck.do_; rw [if_pos (.inr (by omega))])
      have d1 : decide ((c.words.length : Int) ≤ n) = true := by simp; omega
      have Hrg := Lib.hid hrg
      clear hrg
      clear hr
      go_enter Tryz.func15, Tryz.ntmps15
      go_wp2_with fail
      generalize W.alloc (.cells #[.int .i64 k, .int .i64 n] 46) = W1 at *
      have hld : Later W1 W1.drew := (Later.refl _).drew
      have k0 := hld.cell y0
      have k1 := hld.cell z0
      have k2 := hld.cell z1
      first
        | (go_region_held3 (fun V => V.cell? ⟨a.p, 0, none⟩ = some (.slice a.Wd c.words.length a.cW) ∧ V.cell? ⟨W.heap.size, 0, none⟩ = some (.int .i64 k) ∧ V.cell? ⟨W.heap.size, 1, none⟩ = some (.int .i64 n)) (first | exact ⟨hlr.cell k0, hlr.cell k1, hlr.cell k2⟩ | exact ⟨k0, k1, k2⟩ | fail)
            (first
              | (go_at_call 43; refine (Hrg.out _).mono ?_; rintro e wr ⟨rfl, hbr⟩; have hlr : Later W1.drew wr := hbr)
              | fail))
        | fail
      have hl1 := Hla.out.trans (hld.trans hlr)
      have hMr := HM1.out.to_later (hld.trans hlr)
      have Hl1 := Lib.hid hl1
      have HMr := Lib.hid hMr
      clear hl1 hMr
      clear k0 k1 k2 y0 z0 z1 hlr hld
      go_wp2_with fail
      go_ret
      exact ⟨by rw [HD.out]; rfl, by rw [HD.out]; exact ⟨HMr.out, (Fr.refl _ W).then_below Hl1.out (Nat.le_refl _)⟩⟩
    have d1 : decide ((c.words.length : Int) ≤ n) = false := by simp; omega
    have Hrg := Lib.hid hrg
    clear hrg
    go_enter Tryz.func15, Tryz.ntmps15
    go_wp2_with fail
    generalize W.alloc (.cells #[.int .i64 k, .int .i64 n] 46) = W1 at *
    have hld : Later W1 W1.drew := (Later.refl _).drew
    have k0 := hld.cell y0
    have k1 := hld.cell z0
    have k2 := hld.cell z1
    first
      | (go_region_held3 (fun V => V.cell? ⟨a.p, 0, none⟩ = some (.slice a.Wd c.words.length a.cW) ∧ V.cell? ⟨W.heap.size, 0, none⟩ = some (.int .i64 k) ∧ V.cell? ⟨W.heap.size, 1, none⟩ = some (.int .i64 n)) (first | exact ⟨hlr.cell k0, hlr.cell k1, hlr.cell k2⟩ | exact ⟨k0, k1, k2⟩ | fail)
          (first
            | (go_at_call 43; refine (Hrg.out _).mono ?_; rintro e wr ⟨rfl, hbr⟩; have hlr : Later W1.drew wr := hbr)
            | fail))
      | fail
    have hl1 := hld.trans hlr
    have hF2 : CkF a c W0 s W1 wr := ⟨HM1.out.to_later hl1, (Fr.refl _ W1).then_below hl1 (Nat.le_refl _)⟩
    clear k0 k1 k2 y0 z0 z1 hlr hld Hrg d1 hl1
    obtain ⟨z0, z1⟩ := ck_box Hq.out hF2 hg3
    have HLG := Lib.hid (check_legal a c W0 s wr HS.out hF2.mem k n hr hid hdn)
    have HF2 := Lib.hid hF2
    clear hF2
    go_wp2_with fail
    refine HLG.out.mono ?_
    rintro e w3 ⟨rfl, hl3⟩
    have hF3 := HF2.out.later hl3
    clear z0 z1 HLG HF2 hl3
    cases hlg : Ck.legal c s k n
    · have HD := Lib.hid (show Ck.do_ c s k n = (s, 24) by unfold Ck.do_; rw [if_neg (by rw [hr]; simp; omega), if_pos hlg])
      have HF3 := Lib.hid hF3
      clear hF3
      clear hlg hr
      go_wp2_with fail
      go_ret
      exact ⟨by rw [HD.out]; rfl, by rw [HD.out]; exact HF3.out.base Hla.out⟩
    obtain ⟨z0, z1⟩ := ck_box Hq.out hF3 hg3
    obtain ⟨-, -, -, -, -, -, -, -, -, -, -, -, y12, -⟩ := hF3.mem.cells14
    have hmo := Ck.more_bd HS.out s k hid
    have HMO := Lib.hid (fun V (h : Later w3 V) => check_more a c W0 s V HS.out (hF3.mem.to_later h) k n hr hid)
    have HD := Lib.hid (show Ck.do_ c s k n = if c.cap < s.now + Ck.more c s k n then (s, 25) else (Ck.act c s k n (s.now + Ck.more c s k n), 0) by
      unfold Ck.do_; rw [if_neg (by rw [hr]; simp; omega), if_neg (by rw [hlg]; simp)])
    have HKD := Lib.hid (Ck.right_id hr)
    have HF3 := Lib.hid hF3
    clear hF3
    clear hlg hr
    generalize hmv : Ck.more c s k n = mo at *
    have hwr : IntKind.i64.wrap (s.now + mo) = s.now + mo := IntWalk.i64_in _ (by omega)
    go_upto_region 5 with fail
    have hld : Later w3 w3.drew := (Later.refl _).drew
    have k0 := hld.cell y12
    have k1 := hld.cell z0
    have k2 := hld.cell z1
    first
      | (go_region_held3 (fun V => V.cell? ⟨a.p, 12, none⟩ = some (.int .i64 s.now) ∧ V.cell? ⟨W.heap.size, 0, none⟩ = some (.int .i64 k) ∧ V.cell? ⟨W.heap.size, 1, none⟩ = some (.int .i64 n)) (first | exact ⟨hlm.cell k0, hlm.cell k1, hlm.cell k2⟩ | exact ⟨k0, k1, k2⟩ | fail)
          (first
            | (go_at_call 45; refine (HMO.out _ hld).mono ?_; rintro e w4 ⟨rfl, hlm⟩)
            | fail))
      | fail
    have hF4 := HF3.out.later (hld.trans hlm)
    clear k0 k1 k2 z0 z1 y12 hlm hld HMO HF3
    obtain ⟨-, -, -, -, -, y5, -, -, -, -, -, -, y12, y13⟩ := hF4.mem.cells14
    by_cases hcap : c.cap < s.now + mo
    · have HD2 := Lib.hid (show Ck.do_ c s k n = (s, 25) by rw [HD.out, if_pos hcap])
      have d2 : decide (c.cap < s.now + mo) = true := by simp [hcap]
      have HF4 := Lib.hid hF4
      clear hF4
      clear HD hcap y12 y13
      go_wp2_with fail
      go_ret
      exact ⟨by rw [HD2.out]; rfl, by rw [HD2.out]; exact HF4.out.base Hla.out⟩
    have HD2 := Lib.hid (show Ck.do_ c s k n = (Ck.act c s k n (s.now + mo), 0) by rw [HD.out, if_neg hcap])
    have d2 : decide (c.cap < s.now + mo) = false := by simp; omega
    have hF5a := hF4.now HS.out (s.now + mo)
    have hF5 := hF5a.peak HS.out (max s.peak (s.now + mo))
    have f12 := (hF4.froz 12).1
    have f13 := (hF5a.froz 13).1
    obtain ⟨-, -, -, -, -, -, -, -, -, -, -, -, -, y13a⟩ := hF5a.mem.cells14
    have q1 : (0 : Int) ≤ (n : Int) := by omega
    have q2 : (n : Int) < c.words.length := by omega
    obtain ⟨z0, z1⟩ := ck_box Hq.out hF4 hg3
    have y13a' : (w4.setCell ⟨a.p, 12, none⟩ (.int .i64 (s.now + mo))).cell? ⟨a.p, 13, none⟩ = some (.int .i64 s.peak) := y13a
    obtain ⟨z0a, -⟩ := ck_box Hq.out hF5 hg3
    have HF5 := Lib.hid hF5
    clear hF5
    clear HD hcap hF4 hF5a y13a z0 z1 hwr
    have hkd := HKD.out
    clear HKD
    obtain ⟨l, hle⟩ := Int.eq_ofNat_of_zero_le HS.out.ok.loss.1
    have hll : l < c.words.length := by have := HS.out.ok.loss.2; omega
    have q3 : (0 : Int) ≤ (l : Int) := by omega
    have q4 : (l : Int) < c.words.length := by omega
    obtain ⟨bw, ow, hWd, hcw, hw0, hw1⟩ := HS.out.word hid
    have hws : IntKind.i64.wrap (s.now + mo - Ck.wd c n) = s.now + mo - Ck.wd c n := IntWalk.i64_in _ (by omega)
    rcases hkd with rfl | rfl | rfl | rfl | rfl | rfl
    case inl =>
      go_upto_region 13 with fail
      clear y5 y12 y13 y13a' f12 f13 z0a
      generalize (w4.setCell ⟨a.p, 12, none⟩ (.int .i64 (s.now + mo))).setCell ⟨a.p, 13, none⟩ (.int .i64 (max s.peak (s.now + mo))) = w5 at *
      have hd := HF5.out.later (Later.drew (Later.refl w5))
      obtain ⟨-, -, -, -, -, -, k6, -⟩ := hd.mem.cells14
      have kz := (ck_box Hq.out hd hg3).2
      have kf := (hd.froz n).2.1
      have kb := bool_at hd.mem.pres (i := n) (by rw [hd.mem.l1]; exact hid)
      have hF6 := (HF5.out.pres HS.out n true).later (Later.drew (Later.refl _))
      have HF6 := Lib.hid hF6
      clear hF6
      clear hd HF5
      go_region
      clear k6 kf kb kz
      go_upto_region 14 with fail
      generalize (w5.setCell ⟨a.g1, n, none⟩ (.bool true)).drew = w6 at *
      have hd := HF6.out.later (Later.drew (Later.refl w6))
      obtain ⟨-, -, -, -, -, -, -, k6, -⟩ := hd.mem.cells14
      have kz := (ck_box Hq.out hd hg3).2
      have kf := (hd.froz n).2.2.1
      have kb := bool_at hd.mem.sav (i := n) (by rw [hd.mem.l2]; exact hid)
      have hF7 := (HF6.out.sav HS.out n true).later (Later.drew (Later.refl _))
      have HF7 := Lib.hid hF7
      clear hF7
      clear hd HF6
      go_region
      clear k6 kf kb kz
      go_wp2_with fail
      go_ret
      exact ⟨by rw [HD2.out]; rfl, by rw [HD2.out]; exact HF7.out.base Hla.out⟩
    case inr.inl =>
      go_upto_region 13 with fail
      clear y5 y12 y13 y13a' f12 f13 z0a
      generalize (w4.setCell ⟨a.p, 12, none⟩ (.int .i64 (s.now + mo))).setCell ⟨a.p, 13, none⟩ (.int .i64 (max s.peak (s.now + mo))) = w5 at *
      have hd := HF5.out.later (Later.drew (Later.refl w5))
      obtain ⟨-, -, -, -, -, -, k6, -⟩ := hd.mem.cells14
      have kz := (ck_box Hq.out hd hg3).2
      have kf := (hd.froz n).2.1
      have kb := bool_at hd.mem.pres (i := n) (by rw [hd.mem.l1]; exact hid)
      have hF6 := (HF5.out.pres HS.out n true).later (Later.drew (Later.refl _))
      have HF6 := Lib.hid hF6
      clear hF6
      clear hd HF5
      go_region
      clear k6 kf kb kz
      go_upto_region 14 with fail
      generalize (w5.setCell ⟨a.g1, n, none⟩ (.bool true)).drew = w6 at *
      have hd := HF6.out.later (Later.drew (Later.refl w6))
      obtain ⟨-, -, -, -, -, -, -, k6, -⟩ := hd.mem.cells14
      have kz := (ck_box Hq.out hd hg3).2
      have kf := (hd.froz n).2.2.1
      have kb := bool_at hd.mem.sav (i := n) (by rw [hd.mem.l2]; exact hid)
      have hF7 := (HF6.out.sav HS.out n true).later (Later.drew (Later.refl _))
      have HF7 := Lib.hid hF7
      clear hF7
      clear hd HF6
      go_region
      clear k6 kf kb kz
      go_wp2_with fail
      go_ret
      exact ⟨by rw [HD2.out]; rfl, by rw [HD2.out]; exact HF7.out.base Hla.out⟩
    case inr.inr.inl =>
      go_upto_region 16 with fail
      clear y5 y12 y13 y13a' f12 f13 z0a
      generalize (w4.setCell ⟨a.p, 12, none⟩ (.int .i64 (s.now + mo))).setCell ⟨a.p, 13, none⟩ (.int .i64 (max s.peak (s.now + mo))) = w5 at *
      have hd := HF5.out.later (Later.drew (Later.refl w5))
      obtain ⟨-, -, -, -, -, -, k6, -⟩ := hd.mem.cells14
      have kz := (ck_box Hq.out hd hg3).2
      have kf := (hd.froz n).2.1
      have kb := bool_at hd.mem.pres (i := n) (by rw [hd.mem.l1]; exact hid)
      have hF6 := (HF5.out.pres HS.out n false).later (Later.drew (Later.refl _))
      have HF6 := Lib.hid hF6
      clear hF6
      clear hd HF5
      go_region
      clear k6 kf kb kz
      go_upto_region 17 with fail
      generalize (w5.setCell ⟨a.g1, n, none⟩ (.bool false)).drew = w6 at *
      have hd := HF6.out.later (Later.drew (Later.refl w6))
      obtain ⟨k0, -, -, -, -, -, -, -, -, -, -, -, k12, -⟩ := hd.mem.cells14
      rw [hWd] at k0
      have kz := (ck_box Hq.out hd hg3).2
      have kf := (hd.froz 12).1
      have kw := hd.mem.later.cell hcw
      have hF7 := (HF6.out.now HS.out (s.now + mo - Ck.wd c n)).later (Later.drew (Later.refl _))
      have HF7 := Lib.hid hF7
      clear hF7
      clear hd HF6
      go_region
      clear k0 k12 kz kf kw
      go_wp2_with fail
      go_ret
      exact ⟨by rw [HD2.out]; rfl, by rw [HD2.out]; exact HF7.out.base Hla.out⟩
    case inr.inr.inr.inl =>
      go_upto_region 19 with fail
      clear y5 y12 y13 y13a' f12 f13 z0a
      generalize (w4.setCell ⟨a.p, 12, none⟩ (.int .i64 (s.now + mo))).setCell ⟨a.p, 13, none⟩ (.int .i64 (max s.peak (s.now + mo))) = w5 at *
      obtain ⟨-, -, -, -, -, -, -, -, -, k9, -⟩ := HF5.out.mem.cells14
      have kf := (HF5.out.froz 9).1
      have hF6 := HF5.out.em HS.out true
      have HF6 := Lib.hid hF6
      clear hF6
      clear HF5
      go_wp2_with fail
      go_ret
      exact ⟨by rw [HD2.out]; rfl, by rw [HD2.out]; exact HF6.out.base Hla.out⟩
    case inr.inr.inr.inr.inl =>
      go_upto_region 21 with fail
      clear y5 y12 y13 y13a' f12 f13 z0a
      generalize (w4.setCell ⟨a.p, 12, none⟩ (.int .i64 (s.now + mo))).setCell ⟨a.p, 13, none⟩ (.int .i64 (max s.peak (s.now + mo))) = w5 at *
      obtain ⟨-, -, -, -, -, -, -, -, -, -, k10, -⟩ := HF5.out.mem.cells14
      have kf := (HF5.out.froz 10).1
      have hF6 := HF5.out.sd HS.out true
      have HF6 := Lib.hid hF6
      clear hF6
      clear HF5
      go_upto_region 22 with fail
      generalize w5.setCell ⟨a.p, 10, none⟩ (.bool true) = w6 at *
      clear k10 kf
      have hd := HF6.out.later (Later.drew (Later.refl w6))
      obtain ⟨-, -, -, -, -, -, -, -, k6, -⟩ := hd.mem.cells14
      obtain ⟨-, -, -, -, kl, -⟩ := hd.mem.cells14
      rw [hle] at kl
      have kf := (hd.froz l).2.2.2
      have kb := bool_at hd.mem.grad (i := l) (by rw [hd.mem.l3]; exact hll)
      have hF7 := (HF6.out.grad HS.out l true).later (Later.drew (Later.refl _))
      have HF7 := Lib.hid hF7
      clear hF7
      clear hd HF6
      go_region
      clear k6 kf kb kl
      go_wp2_with fail
      go_ret
      exact ⟨by rw [HD2.out]; rfl, by rw [HD2.out]; have h7 := HF7.out.base Hla.out; unfold Ck.act Ck.setB; rw [hle]; exact h7⟩
    case inr.inr.inr.inr.inr =>
      go_upto_region 24 with fail
      clear y5 y12 y13 y13a' f12 f13 z0a
      generalize (w4.setCell ⟨a.p, 12, none⟩ (.int .i64 (s.now + mo))).setCell ⟨a.p, 13, none⟩ (.int .i64 (max s.peak (s.now + mo))) = w5 at *
      have kz := (ck_box Hq.out HF5.out hg3).2
      go_wp2_with fail
      refine (check_fresh a c W0 _ w5 HS.out HF5.out.mem n hid).mono ?_
      rintro e w6 ⟨v, rfl, hown, hl6⟩
      obtain ⟨A, cp, rfl⟩ := own_form hown
      obtain ⟨hI, -⟩ := own_ints hown
      have hF6 := HF5.out.later hl6
      have hg5 := HF5.out.mem.g3_lt
      have hAb : ∀ ad, A = some ad → ¬ (a.p ≤ ad.block ∧ ad.block ≤ a.g3) := fun ad e => by
        have := (hown.lt ad.block (by rw [e]; rfl)).1
        omega
      have hfin := Ck.fresh_in HS.out s hid
      have HSt := Lib.hid (fun k h => Ck.sets_take s.grad (Ck.fresh c s n) k h)
      have HAct := Lib.hid (show Ck.act c s 6 n (s.now + mo) = { s with grad := (Ck.sets s.grad (Ck.fresh c s n)).set n false, now := s.now + mo - Ck.wd c n, peak := max s.peak (s.now + mo), done := s.done + 1 } from rfl)
      change Ints .i64 w6 A (Ck.fresh c s n) at hI
      have hln : (Ck.fresh c { s with now := s.now + mo, peak := max s.peak (s.now + mo) } n).length = (Ck.fresh c s n).length := rfl
      rw [hln]
      clear hown hl6 HF5 hln hmo hmv kz
      generalize Ck.fresh c s n = fr at *
      have HI := Lib.hid hI
      have HF6 := Lib.hid hF6
      have HAb := Lib.hid hAb
      have Hfin := Lib.hid hfin
      clear hI hF6 hAb hfin
      go_wp2_with fail
      go_loopw [7, 121] (fun _ i wr => ∃ k : Nat, k ≤ fr.length ∧ i = .int .i64 (k : Int) ∧ CkF a c W0 { s with now := s.now + mo, peak := max s.peak (s.now + mo), grad := Ck.sets s.grad (fr.take k) } w6 wr) (fun _ i _ => fr.length - (intOf i).toNat)
      case atStart => exact ⟨0, Nat.zero_le _, rfl, ⟨HF6.out.mem, Fr.refl _ _⟩⟩
      case round =>
        obtain ⟨j, hj, rfl, hF⟩ := hrel
        by_cases hlt : j < fr.length
        · obtain ⟨b3, o3, e3, -, hc3⟩ := (hF.fr.ints HI.out HAb.out) j hlt
          rw [List.getD_eq_getElem?_getD, List.getElem?_eq_getElem hlt, Option.getD_some] at hc3
          have hz := Hfin.out.2 _ (List.getElem_mem hlt)
          have hlf := Hfin.out.1
          have HT := Lib.hid (HSt.out j hlt)
          subst e3
          generalize fr[j] = z at *
          obtain ⟨zn, rfl⟩ := Int.eq_ofNat_of_zero_le hz.1
          have hzn : zn < c.words.length := by omega
          obtain ⟨-, -, -, -, -, -, -, -, k8, -⟩ := hF.mem.cells14
          have kf := (hF.froz zn).2.2.2
          have kb := bool_at hF.mem.grad (i := zn) (by rw [hF.mem.l3]; exact hzn)
          have p1 : (0 : Int) ≤ (zn : Int) := by omega
          have p2 : (zn : Int) < c.words.length := by omega
          have HF7 := Lib.hid (hF.grad HS.out zn true)
          clear hF
          go_wp2_with fail
          go_roundw
          case rel => exact ⟨j + 1, by omega, by go_num, by rw [HT.out]; exact HF7.out⟩
          case measure => simp [intOf]; omega
        · obtain rfl : j = fr.length := by omega
          rw [List.take_length] at hF
          have HFL := Lib.hid (HF6.out.trans hF)
          clear hF
          go_upto_region 29 with fail
          have hd := HFL.out.later (Later.drew (Later.refl wr))
          obtain ⟨-, -, -, -, -, -, -, -, k6, -⟩ := hd.mem.cells14
          have kz := (ck_box Hq.out hd hg3).2
          have kf := (hd.froz n).2.2.2
          have kb := bool_at hd.mem.grad (i := n) (by rw [hd.mem.l3]; exact hid)
          have hF8 := (HFL.out.grad HS.out n false).later (Later.drew (Later.refl _))
          have HF8 := Lib.hid hF8
          clear hF8
          clear hd HFL
          go_region
          clear k6 kf kb kz
          go_upto_region 30 with fail
          generalize (wr.setCell ⟨a.g3, n, none⟩ (.bool false)).drew = w8 at *
          have hd := HF8.out.later (Later.drew (Later.refl w8))
          obtain ⟨k0, -, -, -, -, -, -, -, -, -, -, -, k12, -⟩ := hd.mem.cells14
          rw [hWd] at k0
          have kz := (ck_box Hq.out hd hg3).2
          have kf := (hd.froz 12).1
          have kw := hd.mem.later.cell hcw
          have hF9 := (HF8.out.now HS.out (s.now + mo - Ck.wd c n)).later (Later.drew (Later.refl _))
          have HF9 := Lib.hid hF9
          clear hF9
          clear hd HF8
          go_region
          clear k0 k12 kz kf kw
          go_upto_region 31 with fail
          generalize (w8.setCell ⟨a.p, 12, none⟩ (.int .i64 (s.now + mo - Ck.wd c n))).drew = w9 at *
          obtain ⟨-, -, -, -, -, -, -, -, -, -, -, k11, -⟩ := HF9.out.mem.cells14
          have kf := (HF9.out.froz 11).1
          have v1 : IntKind.i64.wrap ((s.done : Int) + 1) = (s.done : Int) + 1 := IntWalk.i64_in _ (by omega)
          have hF10 := HF9.out.done HS.out (s.done + 1)
          have HF10 := Lib.hid hF10
          clear hF10
          clear HF9
          go_wp2_with fail
          go_ret
          exact ⟨by rw [HD2.out]; rfl, by rw [HD2.out, HAct.out]; exact HF10.out.base Hla.out⟩
end Go.Proofs.YtmmgdgfpemkdnaaGreat
/- The references of layers 3, 5, 7, 10: contracts of the small ones. -/
namespace Go.Proofs.YtmmgdgfpemkdnaaGreat
open Go.RowKit

set_option maxHeartbeats 4000000 in
theorem ref03_same (A A' : Option Addr) (c c' : Nat) (xs ys : List Int) (w : World) (hl : xs.length ≤ 9223372036854775807) (hl' : ys.length ≤ 9223372036854775807) (hI : Ints .i64 w A xs) (hI' : Ints .i64 w A' ys) :
    Calls Tryz.prog 62 #[.slice A xs.length c, .slice A' ys.length c'] w fun e w' => e = .returned (.bool (decide (xs = ys))) ∧ ∃ q, w' = w.drewN q := by
  by_cases hlen : xs.length = ys.length
  · have hlen2 : ys.length = xs.length := hlen.symm
    rw [hlen2]
    have HI := Lib.hid hI
    have HI' := Lib.hid hI'
    have Hlen := Lib.hid hlen
    have Hlen2 := Lib.hid hlen2
    clear hI hI' hlen hlen2
    go_enter Tryz.func62, Tryz.ntmps62
    go_wp2_with fail
    go_loopw [5] (fun i wr => ∃ k q : Nat, k ≤ xs.length ∧ i = .int .i64 k ∧ xs.take k = ys.take k ∧ wr = w.drewN q) (fun i _ => xs.length - (intOf i).toNat)
    case atStart => exact ⟨0, 0, Nat.zero_le _, rfl, rfl, rfl⟩
    case round =>
      obtain ⟨k, q, hk, rfl, htk, rfl⟩ := hrel
      by_cases hlt : k < xs.length
      · have hlt2 : k < ys.length := by have := Hlen.out; omega
        obtain ⟨b, off, rfl, -, hc⟩ := HI.out k hlt
        obtain ⟨b', off', rfl, -, hc'⟩ := HI'.out k hlt2
        rw [getD_at hlt] at hc
        rw [getD_at hlt2] at hc'
        have hd : w.drewN q = w.drewN q := rfl
        have k0 : (0 : Int) ≤ (k : Int) := by omega
        have k1 : (k : Int) < (xs.length : Int) := by omega
        have hnx : xs[k] = ys[k] → xs.take (k + 1) = ys.take (k + 1) := fun e => by rw [List.take_succ_eq_append_getElem hlt, List.take_succ_eq_append_getElem hlt2, htk, e]
        have hno : xs[k] ≠ ys[k] → decide (xs = ys) = false := fun e => by simp; intro h; subst h; exact e rfl
        generalize xs[k] = x at *
        generalize ys[k] = y at *
        by_cases hxy : x = y
        · have e1 : (x != y) = false := by simp [hxy]
          have HX := Lib.hid (hnx hxy)
          clear hnx hno htk hxy hd
          go_wp2_with fail
          go_quiet (fail)
          go_wp2_with fail
          go_roundw
          case rel => exact ⟨k + 1, _, by omega, by go_num, HX.out, by first | rfl | exact World.drewN_drewN _ _ _⟩
          case measure => simp [intOf]; omega
        · have e1 : (x != y) = true := by simp [hxy]
          have HX := Lib.hid (hno hxy)
          clear hnx hno htk hxy hd
          go_wp2_with fail
          go_quiet (fail)
          go_wp2_with fail
          go_ret
          exact ⟨by rw [HX.out]; rfl, _, by first | rfl | exact World.drewN_drewN _ _ _⟩
      · obtain rfl : k = xs.length := by omega
        have HX := Lib.hid (show decide (xs = ys) = true by
          rw [List.take_length] at htk
          rw [htk, Hlen.out, List.take_length]; simp)
        clear htk
        go_wp2_with fail
        go_ret
        exact ⟨by rw [HX.out]; rfl, _, rfl⟩
  · have HX := Lib.hid (show decide (xs = ys) = false by simp; intro h; exact hlen (by rw [h]))
    have e1 : ((xs.length : Int) != (ys.length : Int)) = true := by rw [bne_iff_ne]; omega
    have e2 : (xs.length != ys.length) = true := by rw [bne_iff_ne]; omega
    have HI := Lib.hid hI
    have HI' := Lib.hid hI'
    have Hlen := Lib.hid hlen
    clear hI hI' hlen
    go_enter Tryz.func62, Tryz.ntmps62
    go_wp2_with fail
    go_ret
    exact ⟨by rw [HX.out]; rfl, 0, rfl⟩
theorem prod_snoc (l : List Int) (x : Int) : Safe.prod (l ++ [x]) = Safe.prod l * x := by
  induction l with
  | nil => simp [Safe.prod]
  | cons a r ih => simp only [List.cons_append, Safe.prod, ih]; rw [Int.mul_assoc]
theorem prod_pos1 {l : List Int} (h : ∀ x ∈ l, 1 ≤ x) : 1 ≤ Safe.prod l := by
  induction l with
  | nil => simp [Safe.prod]
  | cons a r ih =>
    have h1 := h a (by simp)
    have h2 := ih fun x hx => h x (by simp [hx])
    simp only [Safe.prod]
    have := Int.mul_pos (show 0 < a by omega) (show 0 < Safe.prod r by omega)
    omega
set_option maxHeartbeats 4000000 in
theorem ref03_size (A : Option Addr) (c : Nat) (zs : List Int) (w : World) (hr : Sh.right zs = true) (hI : Ints .i64 w A zs) :
    Calls Tryz.prog 33 #[.slice A zs.length c] w fun e w' => e = .returned (.int .i64 (Safe.prod zs)) ∧ w = w' := by
  obtain ⟨-, h1, h2, h3, h4, h5⟩ := Sh.right_mul hr
  have hp : ∀ k, 1 ≤ Safe.prod (zs.take k) ∧ Safe.prod (zs.take k) ≤ 1099511627776 := fun k => by
    refine ⟨?_, Sh.prod_le (fun x hx => h3 x (List.mem_of_mem_take hx)) (by simp; omega)⟩
    exact prod_pos1 fun x hx => (h3 x (List.mem_of_mem_take hx)).1
  have HI := Lib.hid hI
  have Hr := Lib.hid hr
  have Hp := Lib.hid hp
  have H3 := Lib.hid h3
  clear hI hr hp h3
  go_enter Tryz.func33, Tryz.ntmps33
  go_wp2_with fail
  go_loop [3, 4] (fun t i => ∃ k : Nat, k ≤ zs.length ∧ i = .int .i64 k ∧ t = .int .i64 (Safe.prod (zs.take k))) (fun _ i => zs.length - (intOf i).toNat)
  case atStart => exact ⟨0, Nat.zero_le _, rfl, rfl⟩
  case round =>
    obtain ⟨k, hk, rfl, rfl⟩ := hrel
    by_cases hlt : k < zs.length
    · obtain ⟨b, off, rfl, -, hc⟩ := HI.out k hlt
      rw [getD_at hlt] at hc
      have hq := Hp.out (k + 1)
      have hs : Safe.prod (zs.take (k + 1)) = Safe.prod (zs.take k) * zs[k] := by rw [List.take_succ_eq_append_getElem hlt, prod_snoc]
      rw [hs] at hq
      generalize Safe.prod (zs.take k) = p at *
      generalize zs[k] = z at *
      obtain ⟨q1, q2⟩ := hq
      have hw : IntKind.i64.wrap (p * z) = p * z := IntWalk.i64_in _ (by omega)
      have Hs := Lib.hid hs
      clear hs
      go_wp2_with fail
      go_round
      case rel => exact ⟨k + 1, by omega, by go_num, by rw [Hs.out]⟩
      case measure => simp [intOf]; omega
    · obtain rfl : k = zs.length := by omega
      rw [List.take_length]
      go_wp2_with fail
      go_ret
      exact ⟨rfl, rfl⟩
set_option maxHeartbeats 4000000 in
theorem ref03_right (A : Option Addr) (c : Nat) (zs : List Int) (w : World) (hl : zs.length ≤ 9223372036854775807) (hI : Ints .i64 w A zs) :
    Calls Tryz.prog 28 #[.slice A zs.length c] w fun e w' => e = .returned (.bool (Sh.right zs)) ∧ w = w' := by
  by_cases hlen : 1 ≤ zs.length ∧ zs.length ≤ 4
  · obtain ⟨l1, l2⟩ := hlen
    have d1 : decide ((zs.length : Int) < 1) = false := by simp; omega
    have d2 : decide ((4 : Int) < (zs.length : Int)) = false := by simp; omega
    have HI := Lib.hid hI
    clear hI
    go_enter Tryz.func28, Tryz.ntmps28
    go_wp2_with fail
    go_loop [3, 4] (fun t i => ∃ k : Nat, k ≤ zs.length ∧ i = .int .i64 k ∧ (zs.take k).all Sh.side = true ∧ t = .int .i64 (Safe.prod (zs.take k))) (fun _ i => zs.length - (intOf i).toNat)
    case atStart => exact ⟨0, Nat.zero_le _, rfl, rfl, rfl⟩
    case round =>
      obtain ⟨k, hk, rfl, hall, rfl⟩ := hrel
      by_cases hlt : k < zs.length
      · obtain ⟨b, off, rfl, -, hc⟩ := HI.out k hlt
        rw [getD_at hlt] at hc
        have hs : Safe.prod (zs.take (k + 1)) = Safe.prod (zs.take k) * zs[k] := by rw [List.take_succ_eq_append_getElem hlt, prod_snoc]
        by_cases hz : 1 ≤ zs[k] ∧ zs[k] ≤ 1024
        · have hall2 : (zs.take (k + 1)).all Sh.side = true := by
            rw [List.take_succ_eq_append_getElem hlt, List.all_append, hall]
            simp [Sh.side, hz]
          have hb2 : ∀ x ∈ zs.take (k + 1), 1 ≤ x ∧ x ≤ 1024 := Sh.all_iff hall2
          have hq : Safe.prod (zs.take (k + 1)) ≤ 1099511627776 := Sh.prod_le hb2 (by simp; omega)
          have hq1 : 1 ≤ Safe.prod (zs.take (k + 1)) := by
            exact prod_pos1 fun x hx => (hb2 x hx).1
          rw [hs] at hq hq1
          generalize Safe.prod (zs.take k) = p at *
          generalize zs[k] = z at *
          have hw : IntKind.i64.wrap (p * z) = p * z := IntWalk.i64_in _ (by omega)
          have e1 : decide (z < 1) = false := by simp; omega
          have e2 : decide (1024 < z) = false := by simp; omega
          clear hz hall hb2
          have Hs := Lib.hid hs
          have Hall2 := Lib.hid hall2
          clear hs hall2
          go_wp2_with fail
          go_round
          case rel => exact ⟨k + 1, by omega, by go_num, Hall2.out, by rw [Hs.out]⟩
          case measure => simp [intOf]; omega
        · have hno : Sh.right zs = false := Sh.right_side (by
            rw [List.all_eq_false]
            exact ⟨zs[k], List.getElem_mem hlt, by rw [Sh.side_iff]; exact hz⟩)
          generalize zs[k] = z at *
          have Hno := Lib.hid hno
          have Hall := Lib.hid hall
          have Hs := Lib.hid hs
          clear hno hall hs
          by_cases hz1 : z < 1
          · have e1 : decide (z < 1) = true := by simpa using hz1
            clear hz
            go_wp2_with fail
            go_ret
            exact ⟨by rw [Hno.out]; rfl, rfl⟩
          · have e1 : decide (z < 1) = false := by simpa using hz1
            have e2 : decide (1024 < z) = true := by simp; omega
            clear hz
            go_wp2_with fail
            go_ret
            exact ⟨by rw [Hno.out]; rfl, rfl⟩
      · obtain rfl : k = zs.length := by omega
        rw [List.take_length] at hall ⊢
        have HR := Lib.hid (Sh.right_prod ⟨l1, l2⟩ hall)
        clear hall
        go_wp2_with fail
        go_ret
        exact ⟨by rw [HR.out]; rfl, rfl⟩
  · have HR := Lib.hid (Sh.right_len hlen)
    have HI := Lib.hid hI
    clear hI
    by_cases h1 : zs.length < 1
    · have d1 : decide ((zs.length : Int) < 1) = true := by simp; omega
      clear hlen
      go_enter Tryz.func28, Tryz.ntmps28
      go_wp2_with fail
      go_ret
      exact ⟨by rw [HR.out]; rfl, rfl⟩
    · have d1 : decide ((zs.length : Int) < 1) = false := by simp; omega
      have d2 : decide ((4 : Int) < (zs.length : Int)) = true := by simp; omega
      clear hlen
      go_enter Tryz.func28, Tryz.ntmps28
      go_wp2_with fail
      go_ret
      exact ⟨by rw [HR.out]; rfl, rfl⟩
set_option maxHeartbeats 4000000 in
theorem ref05_ins (k : Int) (w : World) : Calls Tryz.prog 61 #[.int .i64 k] w fun e w' => e = .returned (.int .i64 (Od.ptIns k)) ∧ w = w' := by
  by_cases h1 : 1 ≤ k ∧ k ≤ 5
  · have HX := Lib.hid (show Od.ptIns k = 1 by unfold Od.ptIns; rw [if_pos h1])
    obtain ⟨a, b⟩ := h1
    go_enter Tryz.func61, Tryz.ntmps61
    go_wp2_with fail
    go_ret
    exact ⟨by rw [HX.out]; rfl, rfl⟩
  · by_cases h2 : k = 6 ∨ k = 7
    · have HX := Lib.hid (show Od.ptIns k = 2 by unfold Od.ptIns; rw [if_neg h1, if_pos h2])
      clear h1
      rcases h2 with rfl | rfl
      all_goals
        go_enter Tryz.func61, Tryz.ntmps61
        go_wp2_with fail
        go_ret
        exact ⟨by rw [HX.out]; rfl, rfl⟩
    · have HX := Lib.hid (show Od.ptIns k = 0 by unfold Od.ptIns; rw [if_neg h1, if_neg h2])
      have e6 : (k == 6) = false := by simp; omega
      have e7 : (k == 7) = false := by simp; omega
      by_cases h3 : 1 ≤ k
      · have d2 : decide (k ≤ 5) = false := by simp; omega
        clear h1 h2
        go_enter Tryz.func61, Tryz.ntmps61
        go_wp2_with fail
        go_ret
        exact ⟨by rw [HX.out]; rfl, rfl⟩
      · have d2 : decide (1 ≤ k) = false := by simp; omega
        clear h1 h2
        go_enter Tryz.func61, Tryz.ntmps61
        go_wp2_with fail
        go_ret
        exact ⟨by rw [HX.out]; rfl, rfl⟩
def refIns (k : Int) : Int × Int := if 1 ≤ k ∧ k ≤ 7 then (Od.ptIns k, Od.ptIns k) else if k = 13 then (1, 8) else if 8 ≤ k ∧ k ≤ 15 then (1, 1) else (0, 0)
theorem refIns_right {o : OpD} (h : Od.right o = true) : refIns o.kind = (Od.least o, Od.most o) := by
  have hk := Od.right_kind h
  unfold refIns Od.least Od.most
  rw [if_pos h, if_pos h]
  by_cases h7 : o.kind ≤ 7
  · rw [if_pos ⟨hk.1, h7⟩, if_pos h7, if_pos h7]
  · rw [if_neg (by omega), if_neg h7, if_neg h7]
    by_cases h13 : o.kind = 13
    · rw [if_pos h13, if_pos h13]
    · rw [if_neg h13, if_neg h13, if_pos (by omega)]
def refPar (k : Int) : Int := if k = 8 then 2 else if k = 9 ∨ k = 10 then 1 else 0
theorem refPar_right {o : OpD} (h : Od.right o = true) : refPar o.kind = Od.params o := by unfold refPar Od.params; rw [if_pos h]
set_option maxHeartbeats 4000000 in
theorem ref10_ins (k : Int) (w : World) (hk : 1 ≤ k ∧ k ≤ 15) : Calls Tryz.prog 50 #[.int .i64 k] w fun e w' => e = .returned (.tuple #[.int .i64 (refIns k).1, .int .i64 (refIns k).2]) ∧ w = w' := by
  by_cases h1 : k ≤ 7
  · have HX := Lib.hid (show refIns k = (Od.ptIns k, Od.ptIns k) by unfold refIns; rw [if_pos ⟨hk.1, h1⟩])
    obtain ⟨a, b⟩ := hk
    go_enter Tryz.func50, Tryz.ntmps50
    go_wp2_with fail
    refine (ref05_ins k _).mono ?_
    rintro e w1 ⟨rfl, rfl⟩
    go_wp2_with fail
    go_ret2
    exact ⟨by rw [HX.out]; rfl, rfl⟩
  · have d7 : decide (k ≤ 7) = false := by simp; omega
    by_cases h13 : k = 13
    · have HX := Lib.hid (show refIns k = (1, 8) by unfold refIns; rw [if_neg (by omega), if_pos h13])
      subst h13
      clear hk
      go_enter Tryz.func50, Tryz.ntmps50
      go_wp2_with fail
      go_ret2
      exact ⟨by rw [HX.out]; rfl, rfl⟩
    · have HX := Lib.hid (show refIns k = (1, 1) by unfold refIns; rw [if_neg (by omega), if_neg h13, if_pos (by omega)])
      have e13 : (k == 13) = false := by simp; omega
      have g8 : 8 ≤ k := by omega
      obtain ⟨a, b⟩ := hk
      clear h13
      go_enter Tryz.func50, Tryz.ntmps50
      go_wp2_with fail
      go_ret2
      exact ⟨by rw [HX.out]; rfl, rfl⟩
set_option maxHeartbeats 4000000 in
theorem ref10_params (k : Int) (w : World) : Calls Tryz.prog 51 #[.int .i64 k] w fun e w' => e = .returned (.int .i64 (refPar k)) ∧ w = w' := by
  by_cases h8 : k = 8
  · subst h8
    go_enter Tryz.func51, Tryz.ntmps51
    go_wp2_with fail
    go_ret
    exact ⟨rfl, rfl⟩
  · by_cases h9 : k = 9
    · subst h9
      clear h8
      go_enter Tryz.func51, Tryz.ntmps51
      go_wp2_with fail
      go_ret
      exact ⟨rfl, rfl⟩
    · by_cases h10 : k = 10
      · subst h10
        clear h8 h9
        go_enter Tryz.func51, Tryz.ntmps51
        go_wp2_with fail
        go_ret
        exact ⟨rfl, rfl⟩
      · have HX := Lib.hid (show refPar k = 0 by unfold refPar; rw [if_neg h8, if_neg (by omega)])
        have e8 : (k == 8) = false := by simp; omega
        have e9 : (k == 9) = false := by simp; omega
        have e10 : (k == 10) = false := by simp; omega
        clear h8 h9 h10
        go_enter Tryz.func51, Tryz.ntmps51
        go_wp2_with fail
        go_ret
        exact ⟨by rw [HX.out]; rfl, rfl⟩
theorem window_steps {side width step : Int} (h1 : 1 ≤ step) (h2 : width ≤ side) (h3 : 1 ≤ width) (h4 : side ≤ 1024) {k : Int} (hk : 0 ≤ k) (hw : (k - 1) * step + width ≤ side) (hs : ¬ k * step + width ≤ side) : k = 1 + (side - width).tdiv step := by
  rw [Int.tdiv_eq_ediv_of_nonneg (by omega)]
  have e1 : (k - 1) * step ≤ side - width := by omega
  have e2 : side - width < k * step := by omega
  have h5 := Int.le_ediv_of_mul_le (show 0 < step by omega) e1
  have h6 := Int.ediv_lt_of_lt_mul (show 0 < step by omega) e2
  omega
set_option maxHeartbeats 4000000 in
theorem ref07_window (side width step : Int) (w : World) : Calls Tryz.prog 63 #[.int .i64 side, .int .i64 width, .int .i64 step] w fun e w' => e = .returned (.int .i64 (Od.window side width step).1) ∧ w = w' := by
  by_cases h1 : 1 ≤ side ∧ side ≤ 1024 ∧ 1 ≤ width ∧ width ≤ 1024 ∧ 1 ≤ step ∧ step ≤ 1024 ∧ width ≤ side
  · have HX := Lib.hid (show (Od.window side width step).1 = 1 + (side - width).tdiv step by
      unfold Od.window; rw [if_pos (by simp only [Sh.side_iff]; omega)])
    obtain ⟨a1, a2, a3, a4, a5, a6, a7⟩ := h1
    have c1 : decide (side < 1) = false := by simp; omega
    have c2 : decide (width < 1) = false := by simp; omega
    have c3 : decide (step < 1) = false := by simp; omega
    have c4 : decide (1024 < side) = false := by simp; omega
    have c5 : decide (1024 < width) = false := by simp; omega
    have c6 : decide (1024 < step) = false := by simp; omega
    have c7 : decide (side < width) = false := by simp; omega
    go_enter Tryz.func63, Tryz.ntmps63
    go_wp2_with fail
    go_loop [7, 8] (fun t i => ∃ k : Int, 0 ≤ k ∧ i = .int .i64 (k * step) ∧ t = .int .i64 k ∧ (k - 1) * step + width ≤ side) (fun _ i => (side + 1 - intOf i).toNat)
    case atStart => exact ⟨0, by omega, by rw [Int.zero_mul], rfl, by rw [Int.zero_sub, Int.neg_mul, Int.one_mul]; omega⟩
    case round =>
      obtain ⟨k, hk, rfl, rfl, hle⟩ := hrel
      have b1 : (k - 1) * step = k * step - step := by rw [Int.sub_mul, Int.one_mul]
      have b0 : 0 ≤ k * step := Int.mul_nonneg hk (by omega)
      have b3 : k ≤ k * step + 1 := by
        have := Int.mul_le_mul_of_nonneg_left (show 1 ≤ step from a5) hk
        omega
      have b2 : (k + 1) * step = k * step + step := by rw [Int.add_mul, Int.one_mul]
      have hst := @window_steps side width step a5 a7 a3 a2 k hk hle
      rw [b1] at hle
      have hle2 : k * step + width ≤ side → (k + 1 - 1) * step + width ≤ side := fun h => by rw [Int.add_sub_cancel]; exact h
      generalize k * step = m at *
      by_cases hc : m + width ≤ side
      · have HL := Lib.hid (hle2 hc)
        have Hb1 := Lib.hid b1
        have Hb2 := Lib.hid b2
        have Hst := Lib.hid hst
        have Hle2 := Lib.hid hle2
        clear b1 b2 hst hle2
        go_wp2_with fail
        go_round
        case rel => exact ⟨k + 1, by omega, by rw [Hb2.out], rfl, HL.out⟩
        case measure => simp [intOf]; omega
      · have HK := Lib.hid (hst hc)
        have Hb1 := Lib.hid b1
        have Hb2 := Lib.hid b2
        have Hst := Lib.hid hst
        have Hle2 := Lib.hid hle2
        clear b1 b2 hst hle2
        go_wp2_with fail
        go_ret
        exact ⟨by rw [HX.out, ← HK.out]; rfl, rfl⟩
  · have HX := Lib.hid (show (Od.window side width step).1 = 0 by
      unfold Od.window; rw [if_neg (by simp only [Sh.side_iff]; omega)])
    by_cases c1 : side < 1
    · have d1 : decide (side < 1) = true := by simpa using c1
      clear h1
      go_enter Tryz.func63, Tryz.ntmps63
      go_wp2_with fail
      go_ret
      exact ⟨by rw [HX.out]; rfl, rfl⟩
    · have d1 : decide (side < 1) = false := by simpa using c1
      by_cases c2 : width < 1
      · have d2 : decide (width < 1) = true := by simpa using c2
        clear h1
        go_enter Tryz.func63, Tryz.ntmps63
        go_wp2_with fail
        go_ret
        exact ⟨by rw [HX.out]; rfl, rfl⟩
      · have d2 : decide (width < 1) = false := by simpa using c2
        by_cases c3 : step < 1
        · have d3 : decide (step < 1) = true := by simpa using c3
          clear h1
          go_enter Tryz.func63, Tryz.ntmps63
          go_wp2_with fail
          go_ret
          exact ⟨by rw [HX.out]; rfl, rfl⟩
        · have d3 : decide (step < 1) = false := by simpa using c3
          by_cases c4 : 1024 < side
          · have d4 : decide (1024 < side) = true := by simpa using c4
            clear h1
            go_enter Tryz.func63, Tryz.ntmps63
            go_wp2_with fail
            go_ret
            exact ⟨by rw [HX.out]; rfl, rfl⟩
          · have d4 : decide (1024 < side) = false := by simpa using c4
            by_cases c5 : 1024 < width
            · have d5 : decide (1024 < width) = true := by simpa using c5
              clear h1
              go_enter Tryz.func63, Tryz.ntmps63
              go_wp2_with fail
              go_ret
              exact ⟨by rw [HX.out]; rfl, rfl⟩
            · have d5 : decide (1024 < width) = false := by simpa using c5
              by_cases c6 : 1024 < step
              · have d6 : decide (1024 < step) = true := by simpa using c6
                clear h1
                go_enter Tryz.func63, Tryz.ntmps63
                go_wp2_with fail
                go_ret
                exact ⟨by rw [HX.out]; rfl, rfl⟩
              · have d6 : decide (1024 < step) = false := by simpa using c6
                have d7 : decide (side < width) = true := by simp; omega
                clear h1
                go_enter Tryz.func63, Tryz.ntmps63
                go_wp2_with fail
                go_ret
                exact ⟨by rw [HX.out]; rfl, rfl⟩
end Go.Proofs.YtmmgdgfpemkdnaaGreat
/- Layer 10 (op): Cost; its reference; layer 13's sizes: contracts. -/
namespace Go.Proofs.YtmmgdgfpemkdnaaGreat
open Go.RowKit
theorem Sh.size_right {s : List Int} (h : Sh.right s = true) : Sh.size s = (Safe.prod s, 0) := by simp [Sh.size, h]
theorem Sh.prod_bd {s : List Int} (h : Sh.right s = true) : 1 ≤ Safe.prod s ∧ Safe.prod s ≤ 65536 := Od.prod_right_ h
theorem ints_two {w : World} {t : TypeId} (a b : Int) : Ints .i64 (w.alloc (.cells #[.int .i64 a, .int .i64 b] t)) (some ⟨w.heap.size, 0, none⟩) [a, b] := Ints.of_row fun j hj => by
  have hk := Blk.new w t #[.int .i64 a, .int .i64 b]
  have hj2 : j = 0 ∨ j = 1 := by simp at hj; omega
  rcases hj2 with rfl | rfl <;> (rw [hk.cell]; rfl)
set_option maxRecDepth 20000 in
set_option maxHeartbeats 8000000 in
theorem op_cost (o : OpD) (S P X : Option Addr) (c d f : Nat) (p x : List (List Int)) (w : World) (ho : o.s.length ≤ 17592186043904) (hI : Ints .i64 w S o.s) (hP : ShpIn w P d p) (hX : ShpIn w X f x) :
    Calls Tryz.prog 55 #[.agg #[.int .i64 o.kind, .int .i64 o.k, .int .i64 o.width, .int .i64 o.step, .int .i64 o.side, .int .i64 o.frm, .int .i64 o.to, .slice S o.s.length c], .slice P p.length d, .slice X x.length f] w fun e w' => e = .returned (.tuple #[.int .i64 (Od.cost o p x).1, .int .i64 (Od.cost o p x).2]) ∧ Below w.heap.size w w' := by
  have hk0 := Blk.new w 64 #[.int .i64 o.kind, .int .i64 o.k, .int .i64 o.width, .int .i64 o.step, .int .i64 o.side, .int .i64 o.frm, .int .i64 o.to, .slice S o.s.length c]
  have hl0 : Later w (w.alloc (.cells #[.int .i64 o.kind, .int .i64 o.k, .int .i64 o.width, .int .i64 o.step, .int .i64 o.side, .int .i64 o.frm, .int .i64 o.to, .slice S o.s.length c] 64)) := (Later.refl w).alloc _
  have HI := Lib.hid hI
  have HP := Lib.hid hP
  have HX := Lib.hid hX
  have Hk0 := Lib.hid hk0
  have Hl0 := Lib.hid hl0
  clear hI hP hX hk0 hl0
  go_enter Tryz.func55, Tryz.ntmps55
  go_wp2_with fail
  generalize w.alloc (.cells #[.int .i64 o.kind, .int .i64 o.k, .int .i64 o.width, .int .i64 o.step, .int .i64 o.side, .int .i64 o.frm, .int .i64 o.to, .slice S o.s.length c] 64) = w1 at *
  refine (op_shape o S P X c d f p x w1 ho (HI.out.below Hl0.out (Nat.le_refl _)) (HP.out.below Hl0.out (Nat.le_refl _)) (HX.out.below Hl0.out (Nat.le_refl _))).mono ?_
  rintro e w2 ⟨S2, d2, rfl, hI2, h21, h22, -, hb2⟩
  have hl2 := Hl0.out.call hb2
  have hk2 := (show Later w1 w2 from hb2).blk Hk0.out
  have hgood := fun h => @Od.cost_parts o p x h
  have hshr := fun h => @Od.shape_right o p x h
  have hpr := fun h => (@Od.shape_good o p x h).2.2.2.1
  have hcv : Od.cost o p x = if (Od.shape o p x).2 = 0 then (Od.costV o p (Od.shape o p x).1, 0) else (0, (Od.shape o p x).2) := rfl
  clear hb2
  generalize Od.shape o p x = r at *
  by_cases hr : r.2 = 0
  · have hr2 := hshr hr
    obtain ⟨g8, g10, g11⟩ := hgood hr
    have hpr2 := hpr hr
    rw [if_pos hr] at hcv
    have hs := Sh.prod_bd hr2
    have hsz := Sh.size_right hr2
    have hlen := (Sh.right_mul hr2).2.1
    clear hgood hshr hpr
    have HI2 := Lib.hid hI2
    have Hl2 := Lib.hid hl2
    have Hk2 := Lib.hid hk2
    have Hr2 := Lib.hid hr2
    have Hg8 := Lib.hid g8
    have Hg10 := Lib.hid g10
    have Hg11 := Lib.hid g11
    have Hpr2 := Lib.hid hpr2
    have Hcv := Lib.hid hcv
    have Hsz := Lib.hid hsz
    clear hI2 hl2 hk2 hr2 g8 g10 g11 hpr2 hcv hsz
    have q0 : (r.2 != 0) = false := by simp [hr]
    clear hr
    go_wp2_with fail
    refine (shape_size S2 d2 r.1 _ (by omega) HI2.out).mono ?_
    rintro e w3 ⟨rfl, hb3⟩
    rw [Hsz.out]
    have hl3 := Hl2.out.call hb3
    have hk3 := (show Later w2 w3 from hb3).blk Hk2.out
    obtain ⟨y0, -, y2, -, -, -, -, -⟩ := op_cells hk3
    have hP3 := HP.out.below hl3 (Nat.le_refl _)
    clear hb3
    by_cases k8 : o.kind = 8
    · have hv : Od.costV o p r.1 = Safe.prod (p.getD 0 []) := by unfold Od.costV; rw [if_pos k8]
      have hl := Hg8.out k8
      obtain ⟨b, off, S5, d5, rfl, y5, hI5, -, -, l5⟩ := hP3.at_ hl
      have e0 : p.getD 0 [] = p[0] := by simp [List.getD_eq_getElem?_getD, hl]
      have hsz5 := Sh.size_right (Hpr2.out p[0] (List.getElem_mem hl))
      rw [e0] at hv
      rw [hv] at Hcv
      rw [Nat.add_zero] at y5
      rw [k8] at y0
      generalize p[0] = t at *
      have Hl3 := Lib.hid hl3
      have Hk3 := Lib.hid hk3
      have HP3 := Lib.hid hP3
      have HI5 := Lib.hid hI5
      have Hsz5 := Lib.hid hsz5
      have Hv := Lib.hid hv
      clear hl3 hk3 hP3 hI5 hsz5 hv
      go_wp2_with fail
      refine (shape_size S5 d5 t _ (by omega) HI5.out).mono ?_
      rintro e w4 ⟨rfl, hb4⟩
      rw [Hsz5.out]
      have hl4 := Hl3.out.call hb4
      have Hl4 := Lib.hid hl4
      clear hl4
      go_wp2_with fail
      go_ret2
      exact ⟨by (rw [Hcv.out] <;> rfl), Hl4.out⟩
    · by_cases k10 : o.kind = 10
      · obtain ⟨hl, hl2, hm1, hm2⟩ := Hg10.out k10
        obtain ⟨b, off, S5, d5, rfl, y5, hI5, -, -, l5⟩ := hP3.at_ hl
        have e0 : p.getD 0 [] = p[0] := by simp [List.getD_eq_getElem?_getD, hl]
        have hr5 := Hpr2.out p[0] (List.getElem_mem hl)
        have hsz5 := Sh.size_right hr5
        have hbd5 := Sh.prod_bd hr5
        have hv : Od.costV o p r.1 = Safe.prod r.1 * (Safe.prod (p.getD 0 [])).tdiv ((p.getD 0 []).getD 0 0) := by unfold Od.costV; rw [if_neg k8, if_pos k10]
        rw [e0] at hv hl2 hm1 hm2
        rw [hv] at Hcv
        rw [Nat.add_zero] at y5
        rw [k10] at y0
        generalize p[0] = t at *
        have hq1 : 0 ≤ (Safe.prod t).tdiv (t.getD 0 0) := Int.tdiv_nonneg (by omega) (by omega)
        have hq2 : (Safe.prod t).tdiv (t.getD 0 0) ≤ Safe.prod t := Int.tdiv_le_self _ (by omega)
        have hq3 : (Safe.prod t).tdiv (t.getD 0 0) = Safe.prod t / t.getD 0 0 := Int.tdiv_eq_ediv_of_nonneg (by omega)
        have hmul := Od.mul2 (a := Safe.prod r.1) (b := (Safe.prod t).tdiv (t.getD 0 0)) (by omega) (by omega) hq1 (by omega)
        rw [hq3] at hq1 hq2 hmul hv
        have Hl3 := Lib.hid hl3
        have Hk3 := Lib.hid hk3
        have HP3 := Lib.hid hP3
        have HI5 := Lib.hid hI5
        have Hsz5 := Lib.hid hsz5
        have Hv := Lib.hid hv
        have Hmul := Lib.hid hmul
        have Hq3 := Lib.hid hq3
        clear hl3 hk3 hP3 hI5 hsz5 hv hmul hq3
        go_wp2_with fail
        refine (shape_size S5 d5 t _ (by omega) HI5.out).mono ?_
        rintro e w4 ⟨rfl, hb4⟩
        rw [Hsz5.out]
        have hl4 := Hl3.out.call hb4
        have y54 := (show Later w3 w4 from hb4).cell y5
        obtain ⟨b6, o6, rfl, -, y6⟩ := (HI5.out.below hb4 (Nat.le_refl _)) 0 hl2
        rw [Nat.add_zero] at y6
        clear y5 y0 y2 hb4
        generalize t.getD 0 0 = t0 at *
        generalize Safe.prod t = pt at *
        generalize Safe.prod r.1 = pr at *
        have Hl4 := Lib.hid hl4
        clear hl4
        have hl20 : (0 : Int) < (t.length : Int) := by omega
        go_wp2_with fail
        refine (safe_mul (some ⟨w4.heap.size, 0, none⟩) 2 [pr, pt / t0] _ (by simp) (ints_two _ _)).mono ?_
        rintro e w5 ⟨rfl, hb5⟩
        rw [Hmul.out.1]
        have hl5 := (Hl4.out.alloc (.cells #[.int .i64 pr, .int .i64 (pt / t0)] 3)).call hb5
        have Hl5 := Lib.hid hl5
        clear hl5
        go_wp2_with fail
        go_ret2
        exact ⟨by (rw [Hcv.out, Hq3.out] <;> rfl), Hl5.out⟩
      · have n8 : (o.kind == 8) = false := by simpa using k8
        have n10 : (o.kind == 10) = false := by simpa using k10
        by_cases k11 : o.kind = 11 ∨ o.kind = 12
        · obtain ⟨hm1, hm2⟩ := Hg11.out k11
          have hv : Od.costV o p r.1 = Safe.prod r.1 * o.width := by unfold Od.costV; rw [if_neg k8, if_neg k10, if_pos k11]
          rw [hv] at Hcv
          have hmul := Od.mul2 (a := Safe.prod r.1) (b := o.width) (by omega) (by omega) (by omega) (by omega)
          generalize Safe.prod r.1 = pr at *
          have Hl3 := Lib.hid hl3
          have Hk3 := Lib.hid hk3
          have HP3 := Lib.hid hP3
          have Hv := Lib.hid hv
          have Hmul := Lib.hid hmul
          clear hl3 hk3 hP3 hv hmul
          clear k8 k10
          rcases k11 with k11 | k11
          all_goals
            rw [k11] at y0 n8 n10
            go_wp2_with fail
            refine (safe_mul (some ⟨w3.heap.size, 0, none⟩) 2 [pr, o.width] _ (by simp) (ints_two _ _)).mono ?_
            rintro e w5 ⟨rfl, hb5⟩
            rw [Hmul.out.1]
            have hl5 := (Hl3.out.alloc (.cells #[.int .i64 pr, .int .i64 o.width] 3)).call hb5
            have Hl5 := Lib.hid hl5
            clear hl5
            go_wp2_with fail
            go_ret2
            exact ⟨by (rw [Hcv.out] <;> rfl), Hl5.out⟩
        · have hv : Od.costV o p r.1 = Safe.prod r.1 := by unfold Od.costV; rw [if_neg k8, if_neg k10, if_neg k11]
          rw [hv] at Hcv
          have n11 : (o.kind == 11) = false := by simp; omega
          have n12 : (o.kind == 12) = false := by simp; omega
          have Hl3 := Lib.hid hl3
          have Hk3 := Lib.hid hk3
          have HP3 := Lib.hid hP3
          have Hv := Lib.hid hv
          clear hl3 hk3 hP3 hv
          clear k8 k10 k11
          go_wp2_with fail
          go_ret2
          exact ⟨by (rw [Hcv.out] <;> rfl), Hl3.out⟩
  · have q0 : (r.2 != 0) = true := by simp [hr]
    rw [if_neg hr] at hcv
    have HI2 := Lib.hid hI2
    have Hl2 := Lib.hid hl2
    have Hk2 := Lib.hid hk2
    have Hcv := Lib.hid hcv
    clear hI2 hl2 hk2 hcv
    clear hgood hshr hpr hr
    go_wp2_with fail
    go_ret2
    exact ⟨by (rw [Hcv.out] <;> rfl), Hl2.out⟩
set_option maxRecDepth 20000 in
set_option maxHeartbeats 8000000 in
theorem ref10_cost (o : OpD) (S P T : Option Addr) (c d tc : Nat) (p x : List (List Int)) (w : World) (hgood : (Od.shape o p x).2 = 0) (hP : Shps w P p) (hT : Ints .i64 w T (Od.shape o p x).1) :
    Calls Tryz.prog 35 #[.agg #[.int .i64 o.kind, .int .i64 o.k, .int .i64 o.width, .int .i64 o.step, .int .i64 o.side, .int .i64 o.frm, .int .i64 o.to, .slice S o.s.length c], .slice P p.length d, .slice T (Od.shape o p x).1.length tc] w fun e w' => e = .returned (.int .i64 (Od.costV o p (Od.shape o p x).1)) ∧ Below w.heap.size w w' := by
  have hk0 := Blk.new w 79 #[.int .i64 o.kind, .int .i64 o.k, .int .i64 o.width, .int .i64 o.step, .int .i64 o.side, .int .i64 o.frm, .int .i64 o.to, .slice S o.s.length c]
  have hl0 : Later w (w.alloc (.cells #[.int .i64 o.kind, .int .i64 o.k, .int .i64 o.width, .int .i64 o.step, .int .i64 o.side, .int .i64 o.frm, .int .i64 o.to, .slice S o.s.length c] 79)) := (Later.refl w).alloc _
  obtain ⟨g8, g10, g11⟩ := Od.cost_parts hgood
  have hr2 := Od.shape_right hgood
  have hpr2 := (Od.shape_good hgood).2.2.2.1
  have hcb := Od.costV_bd hgood
  obtain ⟨y0, -, y2, -, -, -, -, -⟩ := op_cells hk0
  have hP1 := hP.below hl0 (Nat.le_refl _)
  have hT1 := hT.below hl0 (Nat.le_refl _)
  generalize (Od.shape o p x).1 = s at *
  have hs := Sh.prod_bd hr2
  have HP := Lib.hid hP
  have HT := Lib.hid hT
  have Hk0 := Lib.hid hk0
  have Hg8 := Lib.hid g8
  have Hg10 := Lib.hid g10
  have Hg11 := Lib.hid g11
  have Hr2 := Lib.hid hr2
  have Hpr2 := Lib.hid hpr2
  have HP1 := Lib.hid hP1
  have HT1 := Lib.hid hT1
  have Hl0 := Lib.hid hl0
  clear hP hT hk0 g8 g10 g11 hr2 hpr2 hP1 hT1 hl0
  clear hgood
  go_enter Tryz.func35, Tryz.ntmps35
  go_upto_region 1 with fail
  generalize w.alloc (.cells #[.int .i64 o.kind, .int .i64 o.k, .int .i64 o.width, .int .i64 o.step, .int .i64 o.side, .int .i64 o.frm, .int .i64 o.to, .slice S o.s.length c] 79) = w1 at *
  go_wp2_with fail
  refine (ref03_size T tc s w1 Hr2.out HT1.out).mono ?_
  rintro e w2 ⟨rfl, rfl⟩
  by_cases k8 : o.kind = 8
  · have hv : Od.costV o p s = Safe.prod (p.getD 0 []) := by unfold Od.costV; rw [if_pos k8]
    have hl := Hg8.out k8
    obtain ⟨b, off, S5, d5, rfl, -, y5, hI5, -, -⟩ := HP1.out 0 hl
    have e0 : p.getD 0 [] = p[0] := by simp [List.getD_eq_getElem?_getD, hl]
    have hr5 := Hpr2.out p[0] (List.getElem_mem hl)
    rw [e0] at hv
    rw [Nat.add_zero] at y5
    rw [k8] at y0
    generalize p[0] = t at *
    have HI5 := Lib.hid hI5
    have Hv := Lib.hid hv
    have Hr5 := Lib.hid hr5
    have Hcb := Lib.hid hcb
    clear hI5 hv hr5 hcb
    clear k8
    go_wp2_with fail
    refine (ref03_size S5 d5 t _ Hr5.out HI5.out).mono ?_
    rintro e w4 ⟨rfl, rfl⟩
    go_wp2_with fail
    go_ret
    exact ⟨by (rw [Hv.out] <;> rfl), Hl0.out⟩
  · by_cases k10 : o.kind = 10
    · obtain ⟨hl, hl2, hm1, hm2⟩ := Hg10.out k10
      obtain ⟨b, off, S5, d5, rfl, -, y5, hI5, -, -⟩ := HP1.out 0 hl
      have e0 : p.getD 0 [] = p[0] := by simp [List.getD_eq_getElem?_getD, hl]
      have hr5 := Hpr2.out p[0] (List.getElem_mem hl)
      have hbd5 := Sh.prod_bd hr5
      have hv : Od.costV o p s = Safe.prod s * (Safe.prod (p.getD 0 [])).tdiv ((p.getD 0 []).getD 0 0) := by unfold Od.costV; rw [if_neg k8, if_pos k10]
      rw [e0] at hv hl2 hm1 hm2
      rw [Nat.add_zero] at y5
      rw [k10] at y0
      generalize p[0] = t at *
      have hq1 : 0 ≤ (Safe.prod t).tdiv (t.getD 0 0) := Int.tdiv_nonneg (by omega) (by omega)
      have hq2 : (Safe.prod t).tdiv (t.getD 0 0) ≤ Safe.prod t := Int.tdiv_le_self _ (by omega)
      have hq3 : (Safe.prod t).tdiv (t.getD 0 0) = Safe.prod t / t.getD 0 0 := Int.tdiv_eq_ediv_of_nonneg (by omega)
      rw [hv] at hcb
      obtain ⟨b6, o6, rfl, -, y6⟩ := hI5 0 hl2
      rw [Nat.add_zero] at y6
      have hl20 : (0 : Int) < (t.length : Int) := by omega
      have hl0' : (0 : Int) < (p.length : Int) := by omega
      have hwr : IntKind.i64.wrap (Safe.prod s * (Safe.prod t / t.getD 0 0)) = Safe.prod s * (Safe.prod t / t.getD 0 0) := by rw [← hq3]; exact IntWalk.i64_in _ (by omega)
      have hcall := fun m => ref03_size (some ⟨b6, o6, none⟩) d5 t (w1.drewN m) hr5 hI5
      rw [hq3] at hq1 hq2 hcb hv
      generalize t.getD 0 0 = t0 at *
      generalize Safe.prod t = pt at *
      generalize Safe.prod s = ps at *
      have HI5 := Lib.hid hI5
      have Hv := Lib.hid hv
      have Hr5 := Lib.hid hr5
      have Hcall := Lib.hid hcall
      have Hq3 := Lib.hid hq3
      have Hwr := Lib.hid hwr
      clear hI5 hv hr5 hcall hq3 hwr
      clear k8 k10 hq1 hq2 hcb
      have hwr := Hwr.out
      go_wp2_with fail
      go_quiet ((go_at_call 33; refine (Hcall.out _).mono ?_; rintro e w9 ⟨rfl, rfl⟩; exact ⟨rfl, _, rfl⟩))
      go_wp2_with fail
      go_ret
      exact ⟨by (rw [Hv.out] <;> rfl), Hl0.out.drewN _⟩
    · have n8 : (o.kind == 8) = false := by simpa using k8
      have n10 : (o.kind == 10) = false := by simpa using k10
      by_cases k11 : o.kind = 11 ∨ o.kind = 12
      · obtain ⟨hm1, hm2⟩ := Hg11.out k11
        have hv : Od.costV o p s = Safe.prod s * o.width := by unfold Od.costV; rw [if_neg k8, if_neg k10, if_pos k11]
        rw [hv] at hcb
        have hwr : IntKind.i64.wrap (Safe.prod s * o.width) = Safe.prod s * o.width := IntWalk.i64_in _ (by omega)
        have Hv := Lib.hid hv
        clear hv
        clear k8 k10
        rcases k11 with k11 | k11
        all_goals
          rw [k11] at y0 n8 n10
          go_wp2_with fail
          go_ret
          exact ⟨by (rw [Hv.out] <;> rfl), Hl0.out⟩
      · have hv : Od.costV o p s = Safe.prod s := by unfold Od.costV; rw [if_neg k8, if_neg k10, if_neg k11]
        have n11 : (o.kind == 11) = false := by simp; omega
        have n12 : (o.kind == 12) = false := by simp; omega
        have Hv := Lib.hid hv
        clear hv
        clear k8 k10 k11
        go_wp2_with fail
        go_ret
        exact ⟨by (rw [Hv.out] <;> rfl), Hl0.out⟩
end Go.Proofs.YtmmgdgfpemkdnaaGreat
/- A row of rows of numbers, each with memory of its own: who uses what. No program is named here. -/
namespace Go.Proofs.YtmmgdgfpemkdnaaGreat
open Go.RowKit

/-- The block g is a row of rows of the call's own, apart from one another and from the blocks X. -/
def URow (X : Nat → Prop) (B : Nat) (w : World) (g : Nat) (t e : TypeId) (us : List (List Int)) : Prop :=
  X g ∧ ∃ vs : List Value, vs.length = us.length ∧ Blk w g t vs.toArray ∧
    (∀ j (hj : j < us.length) v, vs[j]? = some v → w.ownsRow B e 1 v us[j].length (us[j].map (Value.int .i64))) ∧
    (∀ (j : Nat) (v : Value) (b : Nat), vs[j]? = some v → v.ownBlock = some b → ¬ X b) ∧
    (∀ (i j : Nat) (u v : Value) (b : Nat), i ≠ j → vs[i]? = some u → vs[j]? = some v → u.ownBlock = some b → v.ownBlock ≠ some b)
section
variable {X : Nat → Prop} {B : Nat} {w w' : World} {g : Nat} {t e : TypeId} {us : List (List Int)}
theorem URow.lt (h : URow X B w g t e us) : g < w.heap.size := by obtain ⟨_, vs, _, hb, _⟩ := h; exact hb.lt
theorem URow.agree (h : URow X B w g t e us) (ha : ∀ b, b < w.heap.size → (b = g ∨ ¬ X b) → w'.heap[b]? = w.heap[b]?) : URow X B w' g t e us := by
  obtain ⟨hg, vs, hl, hk, ho, hx, hd⟩ := h
  refine ⟨hg, vs, hl, (ha g hk.lt (.inl rfl)).trans hk, fun j hj v hv => ?_, hx, hd⟩
  exact ownsRow_heap (ho j hj v hv) fun b hb => ha b ((ho j hj v hv).lt b hb).2 (.inr (hx j v b hv hb))
theorem URow.new {n : Nat} (hX : X g) (h : Blk w g t (List.replicate n (Value.slice none 0 0)).toArray) : URow X B w g t e (List.replicate n []) := by
  refine ⟨hX, List.replicate n (.slice none 0 0), by simp, h, fun j hj v hv => ?_, fun j v b hv hb => ?_, fun i j u v b _ hu _ hb => ?_⟩
  · rw [List.getElem?_replicate] at hv
    split at hv
    · injection hv with hv
      subst hv
      simpa using World.ownsRow_nil w B e 1
    · cases hv
  · rw [List.getElem?_replicate] at hv
    split at hv
    · injection hv with hv; subst hv; simp [Value.ownBlock] at hb
    · cases hv
  · rw [List.getElem?_replicate] at hu
    split at hu
    · injection hu with hu; subst hu; simp [Value.ownBlock] at hb
    · cases hu
/-- A place, and what an append there leaves. -/
theorem URow.at_ (h : URow X B w g t e us) (hlt : ∀ b, X b → b < w.heap.size) {j : Nat} (hj : j < us.length) :
    ∃ v, w.cell? ⟨g, j, none⟩ = some v ∧ w.ownsRow B e 1 v us[j].length (us[j].map (Value.int .i64)) ∧ (∀ b, v.ownBlock = some b → ¬ X b) ∧
      ∀ v' w1 x, w1.ownsRow B e 1 v' (us[j].length + 1) (us[j].map (Value.int .i64) ++ [.int .i64 x]) → w.grownBy w1 v.ownBlock → (v'.ownBlock = v.ownBlock ∨ v'.ownBlock = some w.heap.size) →
        URow X B (w1.setCell ⟨g, j, none⟩ v') g t e (us.set j (us[j] ++ [x])) := by
  obtain ⟨hg, vs, hl, hk, ho, hx, hd⟩ := h
  obtain ⟨v, hv⟩ : ∃ v, vs[j]? = some v := ⟨vs[j], List.getElem?_eq_getElem (by omega)⟩
  refine ⟨v, by rw [hk.cell j]; simpa using hv, ho j hj v hv, fun b hb => hx j v b hv hb, fun v' w1 x hown hgr hat => ?_⟩
  have hgv : some g ≠ v.ownBlock := fun h => hx j v g hv h.symm hg
  have hk1 : Blk w1 g t vs.toArray := (hgr.block g hk.lt hgv).trans hk
  have hb' : ∀ b, v'.ownBlock = some b → ¬ X b := fun b hb => by
    rcases hat with h | h
    · exact hx j v b hv (h ▸ hb)
    · rw [h] at hb; injection hb with hb; subst hb; intro hX; have := hlt _ hX; omega
  have hset : ∀ b, b ≠ g → (w1.setCell ⟨g, j, none⟩ v').heap[b]? = w1.heap[b]? := fun b hb => Below.heap_setCell w1 _ _ b hb
  refine ⟨hg, vs.set j v', by simp [hl], ?_, fun i hi u hu => ?_, fun i u b hu hb => ?_, fun i k u z b hik hu hz hb => ?_⟩
  · have := hk1.set_ j v'
    simpa using this
  · rw [List.length_set] at hi
    by_cases e : j = i
    · subst e
      rw [List.getElem?_set_self (by omega)] at hu
      injection hu with hu
      subst hu
      have := ownsRow_heap (w' := w1.setCell ⟨g, j, none⟩ v') hown fun b hb => hset b fun q => hb' b hb (q ▸ hg)
      simpa using this
    · rw [List.getElem?_set_ne e] at hu
      simp only [List.getElem_set_ne e]
      refine ownsRow_heap (ho i hi u hu) fun b hb => ?_
      rw [hset b fun q => hx i u b hu hb (q ▸ hg)]
      exact hgr.block b ((ho i hi u hu).lt b hb).2 fun q => hd i j u v b (fun q => e q.symm) hu hv hb q.symm
  · by_cases e : j = i
    · subst e
      rw [List.getElem?_set_self (by omega)] at hu
      injection hu with hu
      subst hu
      exact hb' b hb
    · rw [List.getElem?_set_ne e] at hu
      exact hx i u b hu hb
  · have hne : ∀ i' u' b', i' ≠ j → vs[i']? = some u' → u'.ownBlock = some b' → v'.ownBlock ≠ some b' := fun i' u' b' hi' hu' hb' q => by
      rcases hat with h | h
      · exact hd i' j u' v b' hi' hu' hv hb' (h ▸ q)
      · rw [h] at q
        injection q with q
        subst q
        have hi2 : i' < us.length := by
          rw [← hl]
          exact (List.getElem?_eq_some_iff.1 hu').1
        have := ((ho i' hi2 u' hu').lt _ hb').2
        omega
    by_cases e : j = i
    · subst e
      rw [List.getElem?_set_self (by omega)] at hu
      injection hu with hu
      subst hu
      rw [List.getElem?_set_ne hik] at hz
      intro q
      exact hne k z b (fun q => hik q.symm) hz q hb
    · rw [List.getElem?_set_ne e] at hu
      by_cases e2 : j = k
      · subst e2
        rw [List.getElem?_set_self (by omega)] at hz
        injection hz with hz
        subst hz
        exact hne i u b (fun q => e q.symm) hu hb
      · rw [List.getElem?_set_ne e2] at hz
        exact hd i k u z b hik hu hz hb
end
end Go.Proofs.YtmmgdgfpemkdnaaGreat
/- The plain part of Kahn's order, as rows of numbers. No program is named here. -/
namespace Go.Proofs.YtmmgdgfpemkdnaaGreat
namespace Kn
def wl (I : Int → List Int) (n k : Nat) (l : List Int) : List Int := (List.range (n + 1)).map fun u : Nat => ((wMid I k l (u : Int) : Nat) : Int)
def ul (I : Int → List Int) (n k : Nat) (l : List Int) : List (List Int) := (List.range (n + 1)).map fun u : Nat => uMid I k l (u : Int)
theorem wl_len (I : Int → List Int) (n k : Nat) (l : List Int) : (wl I n k l).length = n + 1 := by simp [wl]
theorem ul_len (I : Int → List Int) (n k : Nat) (l : List Int) : (ul I n k l).length = n + 1 := by simp [ul]
theorem wl_at (I : Int → List Int) (n k : Nat) (l : List Int) {u : Nat} (h : u < n + 1) : (wl I n k l)[u]? = some ((wMid I k l (u : Int) : Nat) : Int) := by simp [wl, h]
theorem ul_at (I : Int → List Int) (n k : Nat) (l : List Int) {u : Nat} (h : u < (ul I n k l).length) : (ul I n k l)[u] = uMid I k l (u : Int) := by simp [ul]
theorem wl_zero (I : Int → List Int) (n : Nat) : wl I n 0 [] = List.replicate (n + 1) 0 := by
  unfold wl
  rw [wMid_zero, List.eq_replicate_iff]
  exact ⟨by simp, fun b hb => by obtain ⟨x, _, rfl⟩ := List.mem_map.1 hb; rfl⟩
theorem ul_zero (I : Int → List Int) (n : Nat) : ul I n 0 [] = List.replicate (n + 1) [] := by
  unfold ul
  rw [uMid_zero, List.eq_replicate_iff]
  exact ⟨by simp, fun b hb => by obtain ⟨x, _, rfl⟩ := List.mem_map.1 hb; rfl⟩
theorem wl_next (I : Int → List Int) (n k : Nat) : wl I n k (I ((k : Int) + 1)) = wl I n (k + 1) [] := by unfold wl; rw [wMid_next]
theorem ul_next (I : Int → List Int) (n k : Nat) : ul I n k (I ((k : Int) + 1)) = ul I n (k + 1) [] := by unfold ul; rw [uMid_next]
theorem wl_skip (I : Int → List Int) (n k : Nat) (l : List Int) : wl I n k (l ++ [0]) = wl I n k l := by unfold wl; rw [wMid_zero_in]
theorem ul_skip (I : Int → List Int) (n k : Nat) (l : List Int) : ul I n k (l ++ [0]) = ul I n k l := by unfold ul; rw [uMid_zero_in]
theorem wl_in (I : Int → List Int) (n k : Nat) (l : List Int) {id : Int} (h : id ≠ 0) : wl I n k (l ++ [id]) = (wl I n k l).set (k + 1) (((wMid I k l ((k : Int) + 1) : Nat) : Int) + 1) := by
  apply List.ext_getElem?
  intro j
  rw [List.getElem?_set]
  by_cases hj : j < n + 1
  · rw [wl_at _ _ _ _ hj, wl_at _ _ _ _ hj, wMid_in h, wl_len]
    by_cases e : k + 1 = j
    · subst e
      simp [hj]
    · have : ((j : Nat) : Int) ≠ (k : Int) + 1 := by omega
      simp [e, this]
  · rw [List.getElem?_eq_none (by rw [wl_len]; omega), List.getElem?_eq_none (by rw [wl_len]; omega), wl_len]
    simp
    omega
theorem ul_in (I : Int → List Int) (n k : Nat) (l : List Int) {id : Int} (h : id ≠ 0) (h0 : 0 ≤ id) : ul I n k (l ++ [id]) = (ul I n k l).set id.toNat (uMid I k l id ++ [(k : Int) + 1]) := by
  apply List.ext_getElem?
  intro j
  rw [List.getElem?_set]
  unfold ul
  simp only [List.getElem?_map, List.length_map, List.length_range]
  by_cases hj : j < n + 1
  · rw [List.getElem?_range hj]
    simp only [Option.map_some]
    rw [uMid_in h]
    by_cases e : id.toNat = j
    · subst e
      have : ((id.toNat : Nat) : Int) = id := by omega
      simp [hj, this]
    · have : ((j : Nat) : Int) ≠ id := by omega
      simp [e, this]
  · rw [List.getElem?_eq_none (by simp; omega)]
    simp
    omega
theorem wMid_le {I : Int → List Int} {B : Nat} (hI : ∀ u, (I u).length ≤ B) (k : Nat) {l : List Int} (hl : l.length ≤ B) (u : Int) : wMid I k l u ≤ B := by
  unfold wMid
  split
  · rw [wt_nil]; exact Nat.le_trans (List.length_filter_le _ _) (hI u)
  · split
    · exact Nat.le_trans (List.length_filter_le _ _) hl
    · omega
theorem sum_le {B : Nat} : ∀ (l : List Nat), (∀ x ∈ l, x ≤ B) → l.sum ≤ l.length * B
  | [], _ => by simp
  | x :: r, h => by
    have h1 := h x (by simp)
    have h2 := sum_le r fun y hy => h y (by simp [hy])
    simp only [List.sum_cons, List.length_cons, Nat.succ_mul]
    omega
theorem uMid_le {I : Int → List Int} {B : Nat} (hI : ∀ u, (I u).length ≤ B) (k : Nat) {l : List Int} (hl : l.length ≤ B) (id : Int) : (uMid I k l id).length ≤ (k + 1) * B := by
  have h1 := uMid_len I k l id
  have h2 := sum_le ((ids k).map fun u => (I u).length) (B := B) fun x hx => by obtain ⟨u, _, rfl⟩ := List.mem_map.1 hx; exact hI u
  rw [List.length_map, ids_length] at h2
  rw [Nat.succ_mul]
  omega
/-- The ready ones of the first k, at the start. -/
def rk (I : Int → List Int) (k : Nat) : List Int := (ids k).filter fun u => wt I [] u == 0
theorem rk_succ (I : Int → List Int) (k : Nat) : rk I (k + 1) = if wt I [] ((k : Int) + 1) = 0 then rk I k ++ [(k : Int) + 1] else rk I k := by
  unfold rk
  rw [ids_succ, List.filter_append]
  by_cases h : wt I [] ((k : Int) + 1) = 0 <;> simp [h]
theorem rk_len (I : Int → List Int) (k : Nat) : (rk I k).length ≤ k := Nat.le_trans (List.length_filter_le _ _) (by rw [ids_length]; exact Nat.le_refl _)
theorem rk_all (I : Int → List Int) (n : Nat) : rk I n = ready I n [] := by
  unfold rk ready
  apply List.filter_congr
  intro u _
  rw [free_iff]
  simp
/-- How many ins are waited for, behind some users of the number that went out last. -/
def wm (I : Int → List Int) (n : Nat) (out a : List Int) : List Int := (List.range (n + 1)).map fun u : Nat => if u = 0 then 0 else ((mid I out a (u : Int) : Nat) : Int)
theorem wm_len (I : Int → List Int) (n : Nat) (out a : List Int) : (wm I n out a).length = n + 1 := by simp [wm]
theorem wm_at (I : Int → List Int) (n : Nat) (out a : List Int) {u : Nat} (h : u < n + 1) (h0 : u ≠ 0) : (wm I n out a)[u]? = some ((mid I out a (u : Int) : Nat) : Int) := by simp [wm, h, h0]
theorem wm_start (I : Int → List Int) (n : Nat) : wl I n n [] = wm I n [] [] := by
  unfold wl wm
  apply List.map_congr_left
  intro u hu
  have hu := List.mem_range.1 hu
  by_cases h : u = 0
  · subst h
    simp [wMid]
  · rw [wMid_end (by omega) (by omega)]
    simp [h, mid]
theorem wm_next {I : Int → List Int} {n : Nat} {out : List Int} {id : Int} (hid : id ∈ ready I n out) : wm I n out (users I n id) = wm I n (out ++ [id]) [] := by
  unfold wm
  apply List.map_congr_left
  intro u hu
  have hu := List.mem_range.1 hu
  by_cases h : u = 0
  · simp [h]
  · rw [mid_end hid (mem_ids.2 ⟨by omega, by omega⟩)]
    simp [h, mid]
theorem wm_in {I : Int → List Int} {n : Nat} {out a : List Int} {u : Int} (h0 : 1 ≤ u) : wm I n out (a ++ [u]) = (wm I n out a).set u.toNat ((mid I out (a ++ [u]) u : Nat) : Int) := by
  apply List.ext_getElem?
  intro j
  rw [List.getElem?_set, wm_len]
  by_cases hj : j < n + 1
  · by_cases e : u.toNat = j
    · subst e
      have : ((u.toNat : Nat) : Int) = u := by omega
      rw [wm_at _ _ _ _ hj (by omega), this]
      simp [hj]
    · simp only [e, if_false]
      unfold wm
      simp only [List.getElem?_map, List.getElem?_range hj, Option.map_some]
      rw [mid_other (by omega)]
  · rw [List.getElem?_eq_none (by rw [wm_len]; omega), List.getElem?_eq_none (by rw [wm_len]; omega)]
    simp
    omega
theorem count_lt {l : List Int} (h : l.Pairwise (· < ·)) (u : Int) : (∀ j (hj : j < l.length), j < l.countP (· < u) → l[j] < u) ∧ (∀ j (hj : j < l.length), l.countP (· < u) ≤ j → u ≤ l[j]) := by
  induction l with
  | nil => exact ⟨fun j hj => by simp at hj, fun j hj => by simp at hj⟩
  | cons x r ih =>
    obtain ⟨hx, hr⟩ := List.pairwise_cons.1 h
    obtain ⟨i1, i2⟩ := ih hr
    by_cases hxu : x < u
    · have hc : (x :: r).countP (· < u) = r.countP (· < u) + 1 := by rw [List.countP_cons]; simp [hxu]
      rw [hc]
      refine ⟨fun j hj hlt => ?_, fun j hj hle => ?_⟩
      · match j with
        | 0 => simpa using hxu
        | j + 1 => simpa using i1 j (by simpa using hj) (by omega)
      · match j with
        | 0 => omega
        | j + 1 => simpa using i2 j (by simpa using hj) (by omega)
    · have hz : r.countP (· < u) = 0 := by
        rw [List.countP_eq_zero]
        intro y hy
        have := hx y hy
        simp; omega
      have hc : (x :: r).countP (· < u) = 0 := by rw [List.countP_cons, hz]; simp; omega
      rw [hc]
      refine ⟨fun j hj hlt => by omega, fun j hj _ => ?_⟩
      match j with
      | 0 => simp; omega
      | j + 1 =>
        have := i2 j (by simpa using hj) (by omega)
        simpa using this
theorem midReady_sorted (I : Int → List Int) (n : Nat) (out : List Int) (id : Int) (us : List Int) : (midReady I n out id us).Pairwise (· < ·) := (ids_pairwise n).filter _
theorem midReady_len (I : Int → List Int) (n : Nat) (out : List Int) (id : Int) (us : List Int) : (midReady I n out id us).length ≤ n := Nat.le_trans (List.length_filter_le _ _) (by rw [ids_length]; exact Nat.le_refl _)
theorem ready_len (I : Int → List Int) (n : Nat) (out : List Int) : (ready I n out).length ≤ n := Nat.le_trans (List.length_filter_le _ _) (by rw [ids_length]; exact Nat.le_refl _)
theorem mid_put' {I : Int → List Int} {n : Nat} {out a b : List Int} {id u : Int} (hok : Ok I n out) (hid : id ∈ ready I n out) (hu : users I n id = a ++ u :: b) (h : mid I out (a ++ [u]) u = 0) :
    midReady I n out id (a ++ [u]) = (midReady I n out id a).take ((midReady I n out id a).countP (· < u)) ++ u :: (midReady I n out id a).drop ((midReady I n out id a).countP (· < u)) := by
  obtain ⟨h1, h2⟩ := count_lt (midReady_sorted I n out id a) u
  exact mid_put hok hid hu h h1 h2 List.countP_le_length
end Kn
end Go.Proofs.YtmmgdgfpemkdnaaGreat
/- slices.Insert at []int: the library's contracts, at this program. -/
namespace Go.Proofs.YtmmgdgfpemkdnaaGreat
open Go.Shelf
def insRen : Go.Shelf.Ren := ⟨fun | 21 => 89 | 27 => 99 | 28 => 100 | 35 => 104 | 39 => 105 | n => n, fun | 22 => 22 | 3 => 3 | 4 => 4 | 0 => 0 | n => n, fun | n => n⟩
theorem laysIns : Go.Proofs.Lays2.n21 Tryz.prog insRen := {
  mixed := by kernel_rfl
  f21 := Tryz.func89.trans (congrArg some (by kernel_rfl))
  f27 := Tryz.func99.trans (congrArg some (by kernel_rfl))
  f28 := Tryz.func100.trans (congrArg some (by kernel_rfl))
  f35 := Tryz.func104.trans (congrArg some (by kernel_rfl))
  f39 := Tryz.func105.trans (congrArg some (by kernel_rfl))
  t0 := Tryz.underlying0
  a0 := Tryz.isAgg0
  z0 := Tryz.sizeOf0
  v0 := Tryz.zeroValue0
  t3 := Tryz.underlying3
  a3 := Tryz.isAgg3
  z3 := Tryz.sizeOf3
  v3 := Tryz.zeroValue3
  t4 := Tryz.underlying4
  a4 := Tryz.isAgg4
  z4 := Tryz.sizeOf4
  v4 := Tryz.zeroValue4
  t22 := Tryz.underlying22
  a22 := Tryz.isAgg22
  z22 := Tryz.sizeOf22
  v22 := Tryz.zeroValue22
  i3 := by kernel_rfl }
end Go.Proofs.YtmmgdgfpemkdnaaGreat
/- slices.Insert, Delete and BinarySearch on rows of the call's own. -/
namespace Go.Proofs.YtmmgdgfpemkdnaaGreat
open Go.RowKit

theorem splice_cons {L : List Value} {o : Nat} {v : Value} {r : List Value} (h : o + (v :: r).length ≤ L.length) : splice (L.set o v) (o + 1) r = splice L o (v :: r) := by
  simp only [List.length_cons] at h
  unfold splice
  have e1 : (L.set o v).take (o + 1) = L.take o ++ [v] := by
    rw [List.take_succ_eq_append_getElem (by simp; omega), List.take_set_of_le (Nat.le_refl _)]
    simp
  rw [e1, List.drop_set_of_lt (by omega)]
  simp [Nat.add_assoc, Nat.add_comm 1]
theorem setCells_blk {g : Nat} {t : TypeId} : ∀ (vs : List Value) (o : Nat) (w : World) (L : List Value), Blk w g t L.toArray → o + vs.length ≤ L.length → Blk (w.setCells g o vs) g t (splice L o vs).toArray
  | [], o, w, L, h, _ => by rw [splice_zero]; exact h
  | v :: r, o, w, L, h, hl => by
    rw [← splice_cons hl]
    refine setCells_blk r (o + 1) _ _ ?_ (by simp at hl ⊢; omega)
    have := h.set_ o v
    simpa using this
theorem setCells_fr {S : Nat → Prop} {g : Nat} (hg : S g) : ∀ (vs : List Value) (o : Nat) (w0 w : World), Fr S w0 w → Fr S w0 (w.setCells g o vs)
  | [], _, _, _, h => h
  | v :: r, o, w0, w, h => setCells_fr hg r (o + 1) w0 _ (h.setCell (fun _ => hg) v)
theorem fr_new {S : Nat → Prop} {w w1 : World} (h : Fr S w w1) : ∀ (vs : List Value) (o : Nat), Fr S w (w1.setCells w.heap.size o vs)
  | [], _ => h
  | v :: r, o => fr_new (h.setCell (p := ⟨w.heap.size, o, none⟩) (fun q => absurd q (Nat.lt_irrefl _)) v) r (o + 1)
theorem Blk.shape {w : World} {g : Nat} {t : TypeId} {cs : Array Value} (h : Blk w g t cs) : w.shape? g = some (t, cs.size) := by
  unfold Blk at h
  simp [World.shape?, h]
theorem Blk.own {w : World} {B g n : Nat} {t : TypeId} {L : List Value} {xs : List Value} (h : Blk w g t L.toArray) (hB : B ≤ g) (hn : xs.length = n) (hl : n ≤ L.length) (hm : L.length ≤ maxLen) (ht : L.take n = xs) {c : Nat} (hc : c = L.length) :
    w.ownsRow B t 1 (.slice (some ⟨g, 0, none⟩) n c) n xs := by
  subst hc
  exact ⟨by omega, .inr ⟨g, _, _, rfl, hB, h, hl, hm, by simp, by simpa using ht⟩⟩
/-- What a change of an own row leaves. -/
def OwnPost (B : Nat) (t : TypeId) (v : Value) (zs : List Int) (w : World) (e : Ending) (w' : World) : Prop :=
  ∃ v', e = .returned v' ∧ w'.ownsRow B t 1 v' zs.length (zs.map (Value.int .i64)) ∧ Fr (fun b => v.ownBlock = some b) w w' ∧ (v'.ownBlock = v.ownBlock ∨ v'.ownBlock = some w.heap.size)

theorem spl_mid (A X Y B : List Value) (h : X.length = Y.length) : splice (A ++ (X ++ B)) A.length Y = A ++ (Y ++ B) := by
  unfold splice
  rw [List.take_append_of_le_length (Nat.le_refl _), List.take_length, ← h, ← List.length_append, ← List.append_assoc A X B, List.drop_left]
theorem ins_a {Z D : List Value} {x : Value} {i : Nat} (hi : i < Z.length) (hD : 1 ≤ D.length) : splice (splice (Z ++ D) (i + 1) (Z.drop i)) i [x] = Z.take i ++ x :: Z.drop i ++ D.drop 1 := by
  obtain ⟨d, D', rfl⟩ : ∃ d D', D = d :: D' := by cases D with | nil => simp at hD | cons d D' => exact ⟨d, D', rfl⟩
  obtain ⟨A, b, B, rfl, rfl⟩ : ∃ A b B, Z = A ++ b :: B ∧ i = A.length := ⟨Z.take i, Z[i], Z.drop (i + 1), by rw [← List.drop_eq_getElem_cons hi, List.take_append_drop], by simp; omega⟩
  rw [List.drop_left, List.take_left]
  have e1 : A ++ b :: B ++ d :: D' = (A ++ [b]) ++ ((B ++ [d]) ++ D') := by simp
  have e2 : A.length + 1 = (A ++ [b]).length := by simp
  rw [e1, e2, spl_mid _ _ (b :: B) _ (by simp)]
  have e3 : A ++ [b] ++ (b :: B ++ D') = A ++ ([b] ++ (b :: B ++ D')) := by simp
  rw [e3, spl_mid _ [b] [x] _ rfl]
  simp
theorem ins_b {Z Z1 Z2 : List Value} {x : Value} {i : Nat} (hi : i < Z.length) (h1 : Z1.length = Z.length + 1 - i) : splice (splice (Z.take i ++ Z1 ++ Z2) i [x]) (i + 1) (Z.drop i) = Z.take i ++ x :: Z.drop i ++ Z2 := by
  obtain ⟨d, D, rfl⟩ : ∃ d D, Z1 = d :: D := by cases Z1 with | nil => simp at h1; omega | cons d D => exact ⟨d, D, rfl⟩
  obtain ⟨A, B, rfl, rfl⟩ : ∃ A B, Z = A ++ B ∧ i = A.length := ⟨Z.take i, Z.drop i, (List.take_append_drop _ _).symm, by simp; omega⟩
  rw [List.drop_left, List.take_left]
  have e1 : A ++ d :: D ++ Z2 = A ++ ([d] ++ (D ++ Z2)) := by simp
  rw [e1, spl_mid _ [d] [x] _ rfl]
  have e2 : A ++ ([x] ++ (D ++ Z2)) = (A ++ [x]) ++ (D ++ Z2) := by simp
  have e3 : A.length + 1 = (A ++ [x]).length := by simp
  rw [e2, e3, spl_mid _ _ B _ (by simp at h1; omega)]
  simp
theorem ins_list {zs : List Int} {x : Int} {i : Nat} (h : i ≤ zs.length) : (zs.take i ++ x :: zs.drop i).length = zs.length + 1 := by simp; omega

theorem Blk.cells_map {w : World} {g : Nat} {t : TypeId} {L xs : List Value} {n : Nat} (h : Blk w g t L.toArray) (ht : L.take n = xs) : ∀ j v, xs[j]? = some v → w.cell? ⟨g, 0 + j, none⟩ = some v := fun j v hj => by
  rw [Nat.zero_add, h.cell j]
  subst ht
  rw [List.getElem?_take] at hj
  split at hj
  · simpa using hj
  · cases hj
theorem one_cell' {zs : List Int} : ∀ v ∈ zs.map (Value.int .i64), v.oneCell' = true := fun v hv => by
  obtain ⟨x, _, rfl⟩ := List.mem_map.1 hv
  rfl

theorem insert_own (B : Nat) (v : Value) (zs : List Int) (x : Int) (i vb : Nat) (w : World) (hi : i ≤ zs.length) (hn : zs.length ≤ 1099511627776) (hB : B ≤ w.heap.size) (hown : w.ownsRow B 3 1 v zs.length (zs.map (Value.int .i64))) (hv : Blk w vb 3 #[.int .i64 x]) (hvb : v.ownBlock ≠ some vb) :
    Calls Tryz.prog 89 #[v, .int .i64 i, .slice (some ⟨vb, 0, none⟩) 1 1] w (OwnPost B 3 v (zs.take i ++ x :: zs.drop i) w) := by
  have hvc : ∀ j u, [Value.int .i64 x][j]? = some u → w.cell? ⟨vb, 0 + j, none⟩ = some u := fun j u hj => by
    match j, hj with
    | 0, hj => simp at hj; subst hj; rw [hv.cell]; rfl
  have h1v : ∀ u ∈ [Value.int .i64 x], u.oneCell' = true := fun u hu => by simp at hu; subst hu; rfl
  have hmax : maxLen = 9223372036854775807 := rfl
  rcases hown.2 with ⟨rfl, h0⟩ | ⟨g, cap, cur, rfl, hBg, hh, hnc, hcm, hsz, htk⟩
  · have hz : zs = [] := List.eq_nil_of_length_eq_zero h0
    subst hz
    obtain rfl : i = 0 := by simpa using hi
    refine (Any2.slices_Insert_int_end_grow laysIns none 0 0 vb 0 1 1 [] [.int .i64 x] w (by omega) (by omega) (by omega) (by omega) rfl rfl (fun _ => rfl) (fun a h => by cases h) hvc h1v).mono ?_
    rintro e w' ⟨rfl, rfl⟩
    have hg := grownCap_ge w (0 + 1) 0 3
    have hgm := grownCap_le_maxLen w (0 + 1) 0 3 (by unfold maxLen; omega)
    refine ⟨_, rfl, ?_, ((Fr.refl _ w).drew).alloc _, .inr rfl⟩
    have hk := Blk.new w.drew 3 (([] ++ [Value.int .i64 x]).toArray ++ Builtin.zeroCells (Value.int .i64 0).cells (grownCap w (0 + 1) 0 3 - (0 + 1)))
    have hk2 : Blk (w.drew.alloc (.cells (([] ++ [Value.int .i64 x]).toArray ++ Builtin.zeroCells (Value.int .i64 0).cells (grownCap w (0 + 1) 0 3 - (0 + 1))) 3)) w.heap.size 3 (([Value.int .i64 x] ++ (Builtin.zeroCells (Value.int .i64 0).cells (grownCap w (0 + 1) 0 3 - (0 + 1))).toList).toArray) := by
      have e : (([Value.int .i64 x] ++ (Builtin.zeroCells (Value.int .i64 0).cells (grownCap w (0 + 1) 0 3 - (0 + 1))).toList).toArray) = ([] ++ [Value.int .i64 x]).toArray ++ Builtin.zeroCells (Value.int .i64 0).cells (grownCap w (0 + 1) 0 3 - (0 + 1)) := by
        apply Array.ext'
        simp
      rw [e]
      exact hk
    have hzl : (Builtin.zeroCells (Value.int .i64 0).cells (grownCap w (0 + 1) 0 3 - (0 + 1))).toList.length = grownCap w (0 + 1) 0 3 - (0 + 1) := by
      rw [Array.length_toList, size_zeroCells]; simp [Value.cells]
    exact hk2.own hB rfl (by simp) (by simp only [List.length_append, hzl, List.length_singleton]; omega) (by simp) (by simp only [List.length_append, hzl, List.length_singleton]; show grownCap w (0 + 1) 0 3 = _; omega)
  · have hk : Blk w g 3 cur.toList.toArray := by simpa [Blk] using hh
    have hcl : cur.toList.length = cap := by simpa using hsz
    have htk' : cur.toList.take zs.length = zs.map (Value.int .i64) := by simpa using htk
    have hcs := hk.cells_map htk'
    have hgv : g ≠ vb := fun h => hvb (by rw [h]; rfl)
    have hml : (zs.map (Value.int .i64)).length = zs.length := by simp
    by_cases hroom : zs.length + 1 ≤ cap
    · by_cases hlt : i < zs.length
      · refine (Any2.slices_Insert_int_shift laysIns g 0 zs.length cap i vb 0 1 1 (zs.map (Value.int .i64)) [.int .i64 x] w hlt (by omega) hroom (by omega) (fun h => hgv h.symm) hml rfl hcs ?_ ?_ hvc one_cell' h1v 3 3 1 cap ?_ ?_ (by omega) ?_ ?_).mono ?_
        · intro j hj; rw [Nat.zero_add, hk.cell]; simp; omega
        · intro j hj; exact hk.frozen _
        · exact hv.shape
        · rw [hk.shape]; simp [hsz]
        · exact hv.frozen _
        · exact hv.frozen _
        · rintro e w' ⟨rfl, rfl⟩
          have hd : (List.drop i (zs.map (Value.int .i64))).length = zs.length - i := by simp
          have k1 := setCells_blk ((zs.map (Value.int .i64)).drop i) (0 + (i + 1)) w.drew _ hk.drew (by rw [hd, hcl]; omega)
          have k2 := setCells_blk [Value.int .i64 x] (0 + i) _ _ k1 (by simp [splice]; omega)
          refine ⟨_, rfl, ?_, setCells_fr (by rfl) _ _ _ _ (setCells_fr (by rfl) _ _ _ _ (Fr.refl _ w).drew), .inl rfl⟩
          have hlen : (splice (splice cur.toList (0 + (i + 1)) ((zs.map (Value.int .i64)).drop i)) (0 + i) [Value.int .i64 x]).length = cap := by
            simp only [splice, List.length_append, List.length_take, List.length_drop, List.length_singleton, hd, hcl]; omega
          rw [ins_list hi]
          refine k2.own hBg (by simp; omega) (by rw [hlen]; omega) (by rw [hlen]; exact hcm) ?_ hlen.symm
          rw [Nat.zero_add, Nat.zero_add]
          have e0 : cur.toList = zs.map (Value.int .i64) ++ cur.toList.drop zs.length := by rw [← htk']; exact (List.take_append_drop _ _).symm
          rw [e0]
          generalize cur.toList.drop zs.length = D at *
          generalize hZ : zs.map (Value.int .i64) = Z at *
          have hZi : i < Z.length := by omega
          have hDl : 1 ≤ D.length := by rw [e0, List.length_append] at hcl; omega
          rw [ins_a hZi hDl]
          have : (Z.take i ++ Value.int .i64 x :: Z.drop i).length = zs.length + 1 := by simp; omega
          rw [List.take_append_of_le_length (by omega), List.take_of_length_le (by omega)]
          rw [← hZ]
          simp [List.map_take, List.map_drop]
      · obtain rfl : i = zs.length := by omega
        refine (Any2.slices_Insert_int_end_room laysIns g 0 zs.length cap vb 0 1 1 [.int .i64 x] w (by omega) hroom (by omega) rfl ?_ ?_ hvc h1v).mono ?_
        · intro j hj; rw [Nat.zero_add, hk.cell]; simp; omega
        · intro j hj; exact hk.frozen _
        · rintro e w' ⟨rfl, rfl⟩
          have k1 := setCells_blk [Value.int .i64 x] (0 + zs.length) w _ hk (by simp; omega)
          refine ⟨_, rfl, ?_, setCells_fr (by rfl) _ _ _ _ (Fr.refl _ w), .inl rfl⟩
          have hlen : (splice cur.toList (0 + zs.length) [Value.int .i64 x]).length = cap := by
            simp only [splice, List.length_append, List.length_take, List.length_drop, List.length_singleton, hcl]; omega
          rw [ins_list (Nat.le_refl _)]
          refine k1.own hBg (by simp) (by rw [hlen]; omega) (by rw [hlen]; exact hcm) ?_ hlen.symm
          rw [Nat.zero_add]
          unfold splice
          rw [htk', ← List.append_assoc]
          rw [List.take_append_of_le_length (by simp), List.take_of_length_le (by simp)]
          simp
    · have hce : cap = zs.length := by omega
      subst hce
      have hg := grownCap_ge w (zs.length + 1) zs.length 3
      have hgm := grownCap_le_maxLen w (zs.length + 1) zs.length 3 (by unfold maxLen; omega)
      by_cases hlt : i < zs.length
      · refine (Any2.slices_Insert_int_grow laysIns g 0 zs.length zs.length i vb 0 1 1 (zs.map (Value.int .i64)) [.int .i64 x] w hlt (by omega) (by omega) (by omega) (by omega) hml rfl hcs hvc one_cell' h1v).mono ?_
        rintro e w' ⟨rfl, rfl⟩
        have hz1 : (Builtin.zeroCells (Value.int .i64 0).cells (zs.length + 1 - i)).toList.length = zs.length + 1 - i := by rw [Array.length_toList, size_zeroCells]; simp [Value.cells]
        have hz2 : (Builtin.zeroCells (Value.int .i64 0).cells (grownCap w (zs.length + 1) zs.length 3 - (zs.length + 1))).toList.length = grownCap w (zs.length + 1) zs.length 3 - (zs.length + 1) := by rw [Array.length_toList, size_zeroCells]; simp [Value.cells]
        generalize hZ1 : Builtin.zeroCells (Value.int .i64 0).cells (zs.length + 1 - i) = Z1 at *
        have hT : insRen.t 3 = 3 := rfl
        rw [hT] at *
        generalize hZ2 : Builtin.zeroCells (Value.int .i64 0).cells (grownCap w (zs.length + 1) zs.length 3 - (zs.length + 1)) = Z2 at *
        generalize hG : grownCap w (zs.length + 1) zs.length 3 = G at *
        have hk0 : Blk (w.alloc (.cells (((zs.map (Value.int .i64)).take i).toArray ++ Z1 ++ Z2) 3)).drew w.heap.size 3 (((zs.map (Value.int .i64)).take i ++ Z1.toList ++ Z2.toList).toArray) := by
          have := Blk.new w 3 (((zs.map (Value.int .i64)).take i).toArray ++ Z1 ++ Z2)
          have e : (((zs.map (Value.int .i64)).take i ++ Z1.toList ++ Z2.toList).toArray) = ((zs.map (Value.int .i64)).take i).toArray ++ Z1 ++ Z2 := by
            apply Array.ext'
            simp
          rw [e]
          exact this.drew
        have hti : ((zs.map (Value.int .i64)).take i).length = i := by simp; omega
        have hd : ((zs.map (Value.int .i64)).drop i).length = zs.length - i := by simp
        have k1 := setCells_blk [Value.int .i64 x] i _ _ hk0 (by simp only [List.length_append, hti, hz1, hz2, List.length_singleton]; omega)
        have k2 := setCells_blk ((zs.map (Value.int .i64)).drop i) (i + 1) _ _ k1.drew (by simp only [splice, List.length_append, List.length_take, List.length_drop, List.length_singleton, hz1, hz2, List.length_map]; omega)
        refine ⟨_, rfl, ?_, ?_, .inr rfl⟩
        · have hlen : (splice (splice ((zs.map (Value.int .i64)).take i ++ Z1.toList ++ Z2.toList) i [Value.int .i64 x]) (i + 1) ((zs.map (Value.int .i64)).drop i)).length = G := by
            simp only [splice, List.length_append, List.length_take, List.length_drop, List.length_singleton, hz1, hz2, List.length_map]; omega
          rw [ins_list hi]
          refine k2.own hB (by simp; omega) (by rw [hlen]; omega) (by rw [hlen]; exact hgm) ?_ hlen.symm
          generalize hZ : zs.map (Value.int .i64) = Z at *
          rw [ins_b (by omega) (by omega)]
          have : (Z.take i ++ Value.int .i64 x :: Z.drop i).length = zs.length + 1 := by simp; omega
          rw [List.take_append_of_le_length (by omega), List.take_of_length_le (by omega)]
          rw [← hZ]
          simp [List.map_take, List.map_drop]
        · have f1 : Fr (fun b => (Value.slice (some ⟨g, 0, none⟩) zs.length zs.length).ownBlock = some b) w (w.alloc (.cells (((zs.map (Value.int .i64)).take i).toArray ++ Z1 ++ Z2) 3)) := (Fr.refl _ w).alloc _
          exact fr_new (fr_new f1.drew _ _).drew _ _
      · obtain rfl : i = zs.length := by omega
        refine (Any2.slices_Insert_int_end_grow laysIns (some ⟨g, 0, none⟩) zs.length zs.length vb 0 1 1 (zs.map (Value.int .i64)) [.int .i64 x] w (by omega) (Nat.le_refl _) (by omega) (by omega) hml rfl (fun h => by cases h) (fun a h => by injection h with h; subst h; intro j u hj; have := hcs j u hj; rw [Addr.add_lit]; simpa using this) hvc h1v).mono ?_
        rintro e w' ⟨rfl, rfl⟩
        have hT : insRen.t 3 = 3 := rfl
        rw [hT] at *
        have hz2 : (Builtin.zeroCells (Value.int .i64 0).cells (grownCap w (zs.length + 1) zs.length 3 - (zs.length + 1))).toList.length = grownCap w (zs.length + 1) zs.length 3 - (zs.length + 1) := by rw [Array.length_toList, size_zeroCells]; simp [Value.cells]
        generalize hZ2 : Builtin.zeroCells (Value.int .i64 0).cells (grownCap w (zs.length + 1) zs.length 3 - (zs.length + 1)) = Z2 at *
        generalize hG : grownCap w (zs.length + 1) zs.length 3 = G at *
        refine ⟨_, rfl, ?_, ((Fr.refl _ w).drew).alloc _, .inr rfl⟩
        have hk0 : Blk (w.drew.alloc (.cells ((zs.map (Value.int .i64) ++ [Value.int .i64 x]).toArray ++ Z2) 3)) w.heap.size 3 ((zs.map (Value.int .i64) ++ [Value.int .i64 x] ++ Z2.toList).toArray) := by
          have := Blk.new w.drew 3 ((zs.map (Value.int .i64) ++ [Value.int .i64 x]).toArray ++ Z2)
          have e : ((zs.map (Value.int .i64) ++ [Value.int .i64 x] ++ Z2.toList).toArray) = (zs.map (Value.int .i64) ++ [Value.int .i64 x]).toArray ++ Z2 := by
            apply Array.ext'
            simp
          rw [e]
          exact this
        have hlen : (zs.map (Value.int .i64) ++ [Value.int .i64 x] ++ Z2.toList).length = G := by simp only [List.length_append, List.length_map, List.length_singleton, hz2]; omega
        rw [ins_list (Nat.le_refl _)]
        refine hk0.own hB (by simp) (by rw [hlen]; omega) (by rw [hlen]; exact hgm) ?_ hlen.symm
        rw [List.take_append_of_le_length (by simp), List.take_of_length_le (by simp)]
        simp
theorem delete_own (B : Nat) (v : Value) (x : Int) (zs : List Int) (w : World) (hn : (x :: zs).length ≤ 1099511627776) (hown : w.ownsRow B 3 1 v (x :: zs).length ((x :: zs).map (Value.int .i64))) :
    Calls Tryz.prog 87 #[v, .int .i64 0, .int .i64 1] w (OwnPost B 3 v zs w) := by
  have hmax : maxLen = 9223372036854775807 := rfl
  rcases hown.2 with ⟨rfl, h0⟩ | ⟨g, cap, cur, rfl, hBg, hh, hnc, hcm, hsz, htk⟩
  · simp at h0
  · have hk : Blk w g 3 cur.toList.toArray := by simpa [Blk] using hh
    have hcl : cur.toList.length = cap := by simpa using hsz
    have htk' : cur.toList.take (x :: zs).length = (x :: zs).map (Value.int .i64) := by simpa using htk
    have hcs := hk.cells_map htk'
    refine (Tryz.slices_Delete_int_cells g 0 (x :: zs).length cap 0 1 (x :: zs) w (Nat.le_refl _) hnc (by omega) (by omega) (by simp) ?_ ?_).mono ?_
    · intro j hj
      refine hcs j _ ?_
      rw [List.getElem?_map, List.getElem?_eq_getElem hj, List.getD_eq_getElem?_getD, List.getElem?_eq_getElem hj]
      rfl
    · intro j hj; exact hk.frozen _
    · rintro e w' ⟨rfl, q, rfl⟩
      have hlist : ((((x :: zs).take (x :: zs).length).take 0 ++ ((x :: zs).take (x :: zs).length).drop 1 ++ List.replicate (1 - 0) 0).map (Value.int .i64)) = zs.map (Value.int .i64) ++ [Value.int .i64 0] := by simp
      rw [hlist]
      have k1 := setCells_blk (zs.map (Value.int .i64) ++ [Value.int .i64 0]) 0 (w.drewN q) _ (hk.drewN q) (by rw [hcl]; simp at hnc ⊢; omega)
      refine ⟨_, rfl, ?_, setCells_fr (by rfl) _ _ _ _ ((Fr.refl _ w).drewN q), .inl rfl⟩
      have hlen : (splice cur.toList 0 (zs.map (Value.int .i64) ++ [Value.int .i64 0])).length = cap := by
        simp only [splice, List.length_append, List.length_take, List.length_drop, List.length_singleton, List.length_map, hcl]; simp at hnc; omega
      refine k1.own hBg (by simp) (by rw [hlen]; simp at hnc ⊢; omega) (by rw [hlen]; exact hcm) ?_ hlen.symm
      unfold splice
      simp
theorem search_own (B : Nat) (v : Value) (x : Int) (zs : List Int) (w : World) (hn : zs.length ≤ 1099511627776) (hs : zs.Pairwise (· ≤ ·)) (hown : w.ownsRow B 3 1 v zs.length (zs.map (Value.int .i64))) :
    Calls Tryz.prog 88 #[v, .int .i64 x] w fun e w' => (∃ b, e = .returned (.tuple #[.int .i64 (zs.countP (· < x) : Nat), .bool b])) ∧ ∃ q, w' = w.drewN q := by
  rcases hown.2 with ⟨rfl, h0⟩ | ⟨g, cap, cur, rfl, hBg, hh, hnc, hcm, hsz, htk⟩
  · have : zs = [] := List.eq_nil_of_length_eq_zero h0
    subst this
    refine (Tryz.slices_BinarySearch_int_empty none 0 x w).mono ?_
    rintro e w' ⟨rfl, rfl⟩
    exact ⟨⟨_, rfl⟩, 0, rfl⟩
  · have hk : Blk w g 3 cur.toList.toArray := by simpa [Blk] using hh
    have htk' : cur.toList.take zs.length = zs.map (Value.int .i64) := by simpa using htk
    have hcs := hk.cells_map htk'
    refine (Tryz.slices_BinarySearch_int g 0 zs.length cap zs x w (Nat.le_refl _) (by omega) ?_ (by rw [List.take_length]; exact hs)).mono ?_
    · intro j hj
      refine hcs j _ ?_
      rw [List.getElem?_map, List.getElem?_eq_getElem hj, List.getD_eq_getElem?_getD, List.getElem?_eq_getElem hj]
      rfl
    · rintro e w' ⟨rfl, q, rfl⟩
      rw [List.take_length]
      exact ⟨⟨_, rfl⟩, q, rfl⟩
end Go.Proofs.YtmmgdgfpemkdnaaGreat
