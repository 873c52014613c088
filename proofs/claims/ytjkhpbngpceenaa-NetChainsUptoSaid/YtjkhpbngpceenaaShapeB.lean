/- Layer 3 (shape): windows, parts and joins; layers 7 and 8: the answer's shape: contracts. -/
import Derived.Test.YtjkhpbngpceenaaNetM
import Derived.Deep.RegionHeld3
namespace Go.Proofs.Ytjkhpbngpceenaa
open Go.RowKit

/-- A shape of new memory (or none), and an error's number. -/
def ShPost (r : List Int × Int) (w : World) (e : Ending) (w' : World) : Prop :=
  ∃ S c, e = .returned (.tuple #[.slice S r.1.length c, .int .i64 r.2]) ∧ Ints .i64 w' S r.1 ∧ r.1.length ≤ c ∧ c ≤ 9223372036854775807 ∧ (∀ a, S = some a → w.heap.size ≤ a.block) ∧ Below w.heap.size w w'
theorem ShPost.fail {r : List Int × Int} {w w' : World} {n : Int} (hr : r = ([], n)) (hb : Below w.heap.size w w') : ShPost r w (.returned (.tuple #[.slice none 0 0, .int .i64 n])) w' := by
  subst hr
  exact ⟨_, _, rfl, Ints.nil, by simp, by omega, (fun a h => by cases h), hb⟩
theorem ShPost.fresh {r : List Int × Int} {w w' : World} {g c n : Nat} {l : List Int} {t : TypeId} (hr : r = (l, 0)) (hn : n = l.length) (hg : w.heap.size ≤ g) (hk : Blk w' g t (l.map (Value.int .i64)).toArray) (hc : l.length ≤ c) (hm : c ≤ 9223372036854775807) (hb : Below w.heap.size w w') :
    ShPost r w (.returned (.tuple #[.slice (some ⟨g, 0, none⟩) n c, .int .i64 0])) w' := by
  subst hr hn
  refine ⟨_, _, rfl, Ints.of_row fun j hj => ?_, hc, hm, (fun a h => by injection h with h; subst h; exact hg), hb⟩
  rw [hk.cell]
  simp [hj]
theorem ShPost.mk' {r : List Int × Int} {w w' : World} {S : Option Addr} {c n : Nat} {l : List Int} (hr : r = (l, 0)) (hn : n = l.length) (hI : Ints .i64 w' S l) (hc : l.length ≤ c) (hm : c ≤ 9223372036854775807) (hS : ∀ a, S = some a → w.heap.size ≤ a.block) (hb : Below w.heap.size w w') :
    ShPost r w (.returned (.tuple #[.slice S n c, .int .i64 0])) w' := by
  subst hr hn
  exact ⟨_, _, rfl, hI, hc, hm, hS, hb⟩
theorem Blk.ints_set {w : World} {g i : Nat} {t : TypeId} {l : List Int} {n : Int} (h : Blk w g t (l.map (Value.int .i64)).toArray) : Blk (w.setCell ⟨g, i, none⟩ (.int .i64 n)) g t ((l.set i n).map (Value.int .i64)).toArray := by
  have := h.set_ i (.int .i64 n)
  simpa using this

theorem types_of {P : Program} {t : TypeId} {i : TypeInfo} (hi : P.info? t = some i) (h : t < P.types.size) : P.types[t] = i := by
  unfold Tables.info? at hi
  rw [Array.getElem?_eq_getElem h, if_pos h] at hi
  exact Option.some.inj hi
theorem int_cells (h : 3 < Try.prog.types.size) : (Try.prog.types[3]'h).size = 1 := by
  obtain ⟨i0, hi, h0, h1, h2⟩ := info_parts int_info
  rw [types_of hi h]
  exact h1
theorem run_index3_0 (w : World) (a b c : Int) : (Instr.index 131 (.agg #[.int .i64 a, .int .i64 b, .int .i64 c]) (.int .i64 0)).run Try.prog w = .ok (.int .i64 a) w := by
  simp [Instr.index, run_underlying Try.underlying131, asIntOf, go_sem, int_cells]
theorem run_index3_1 (w : World) (a b c : Int) : (Instr.index 131 (.agg #[.int .i64 a, .int .i64 b, .int .i64 c]) (.int .i64 1)).run Try.prog w = .ok (.int .i64 b) w := by
  simp [Instr.index, run_underlying Try.underlying131, asIntOf, go_sem, int_cells]
theorem run_index3_2 (w : World) (a b c : Int) : (Instr.index 131 (.agg #[.int .i64 a, .int .i64 b, .int .i64 c]) (.int .i64 2)).run Try.prog w = .ok (.int .i64 c) w := by
  simp [Instr.index, run_underlying Try.underlying131, asIntOf, go_sem, int_cells]
set_option maxHeartbeats 2000000 in
set_option maxRecDepth 100000 in
theorem shape_window (side width step : Int) (w : World) :
    Calls Try.prog 98 #[.int .i64 side, .int .i64 width, .int .i64 step] w fun e w' => e = .returned (.tuple #[.int .i64 (Od.window side width step).1, .int .i64 (Od.window side width step).2]) ∧ w = w' := by
  have bad : ¬ (Sh.side side = true ∧ Sh.side width = true ∧ Sh.side step = true ∧ width ≤ side) → Hid (Od.window side width step = (0, 11)) := fun h => Lib.hid (by unfold Od.window; rw [if_neg h])
  have r0 := fun W => run_index3_0 W side width step
  have r1 := fun W => run_index3_1 W side width step
  have r2 := fun W => run_index3_2 W side width step
  go_enter Try.func98, Try.ntmps98
  go_wp2_with fail
  go_loopw [14] (fun i wr => wr = w ∧ ∃ k : Nat, k ≤ 3 ∧ i = .int .i64 k ∧ (0 < k → Sh.side side = true) ∧ (1 < k → Sh.side width = true) ∧ (2 < k → Sh.side step = true)) (fun i _ => 3 - (intOf i).toNat)
  case atStart => exact ⟨rfl, 0, by omega, rfl, by omega, by omega, by omega⟩
  case round =>
    obtain ⟨rfl, k, hk, rfl, h1, h2, h3⟩ := hrel
    have hkk : k = 0 ∨ k = 1 ∨ k = 2 ∨ k = 3 := by omega
    rcases hkk with rfl | rfl | rfl | rfl
    · by_cases a1 : side < 1
      · have HB := bad (by rw [Sh.side_iff]; omega)
        clear bad h1 h2 h3
        go_wp2_with fail
        go_ret2
        exact ⟨by rw [HB.out]; rfl, rfl⟩
      · by_cases a2 : 1024 < side
        · have HB := bad (by rw [Sh.side_iff]; omega)
          clear bad h1 h2 h3
          go_wp2_with fail
          go_ret2
          exact ⟨by rw [HB.out]; rfl, rfl⟩
        · clear bad h1 h2 h3
          go_wp2_with fail
          go_roundw
          case rel => exact ⟨trivial, 1, by omega, by go_num, fun _ => (Sh.side_iff _).2 (by omega), by omega, by omega⟩
          case measure => simp [intOf]
    · by_cases a1 : width < 1
      · have HB := bad (by rw [Sh.side_iff, Sh.side_iff]; omega)
        clear bad h1 h2 h3
        go_wp2_with fail
        go_ret2
        exact ⟨by rw [HB.out]; rfl, rfl⟩
      · by_cases a2 : 1024 < width
        · have HB := bad (by rw [Sh.side_iff, Sh.side_iff]; omega)
          clear bad h1 h2 h3
          go_wp2_with fail
          go_ret2
          exact ⟨by rw [HB.out]; rfl, rfl⟩
        · have H1 := Lib.hid (h1 (by omega))
          clear bad h1 h2 h3
          go_wp2_with fail
          go_roundw
          case rel => exact ⟨trivial, 2, by omega, by go_num, fun _ => H1.out, fun _ => (Sh.side_iff _).2 (by omega), by omega⟩
          case measure => simp [intOf]
    · by_cases a1 : step < 1
      · have HB := bad (by rw [Sh.side_iff, Sh.side_iff, Sh.side_iff]; omega)
        clear bad h1 h2 h3
        go_wp2_with fail
        go_ret2
        exact ⟨by rw [HB.out]; rfl, rfl⟩
      · by_cases a2 : 1024 < step
        · have HB := bad (by rw [Sh.side_iff, Sh.side_iff, Sh.side_iff]; omega)
          clear bad h1 h2 h3
          go_wp2_with fail
          go_ret2
          exact ⟨by rw [HB.out]; rfl, rfl⟩
        · have H1 := Lib.hid (h1 (by omega))
          have H2 := Lib.hid (h2 (by omega))
          clear bad h1 h2 h3
          go_wp2_with fail
          go_roundw
          case rel => exact ⟨trivial, 3, by omega, by go_num, fun _ => H1.out, fun _ => H2.out, fun _ => (Sh.side_iff _).2 (by omega)⟩
          case measure => simp [intOf]
    · have h1 := h1 (by omega)
      have h2 := h2 (by omega)
      have h3 := h3 (by omega)
      by_cases hw : side < width
      · have HB := bad (by omega)
        clear bad h1 h2 h3
        go_wp2_with fail
        go_ret2
        exact ⟨by rw [HB.out]; rfl, rfl⟩
      · have HG := Lib.hid (show Od.window side width step = (1 + (side - width).tdiv step, 0) by unfold Od.window; rw [if_pos ⟨h1, h2, h3, by omega⟩])
        rw [Sh.side_iff] at h1 h2 h3
        have q1 : 0 ≤ (side - width).tdiv step := Int.tdiv_nonneg (by omega) (by omega)
        have q2 : (side - width).tdiv step ≤ side - width := Int.tdiv_le_self _ (by omega)
        clear bad
        go_wp2_with fail
        go_ret2
        exact ⟨by rw [HG.out]; rfl, rfl⟩
end Go.Proofs.Ytjkhpbngpceenaa
