/- Layer 17 (code): more contracts. -/
import Derived.Test.YtklngiikgnmdeaaDoorCode
import Derived.Test.YtklngiikgnmdeaaDoorInfo
namespace Go.Proofs.YtklngiikgnmdeaaDoor
open Go.RowKit

set_option maxHeartbeats 400000 in
theorem law17_right (A : Option Addr) (c : Nat) (ps : List (Int × Int)) (w : World) (hl : ps.length ≤ 9223372036854775807) (hI : Pairs w A ps) :
    Calls Tryd.prog 12 #[.slice A ps.length c] w fun e w' => e = .returned (.bool (ps.all Cd.right)) ∧ Below w.heap.size w w' := by
  have HI := Lib.hid hI
  clear hI
  go_enter Tryd.func12, Tryd.ntmps12
  go_wp2_with fail
  go_loopw [4, 7] (fun _ i wr => ∃ k : Nat, k ≤ ps.length ∧ i = .int .i64 k ∧ Below w.heap.size w wr ∧ ∀ j (hj : j < ps.length), j < k → Cd.right ps[j] = true) (fun _ i _ => ps.length - (intOf i).toNat)
  case atStart => exact ⟨0, Nat.zero_le _, rfl, Below.refl _ _, by intro j _ hj; omega⟩
  case round =>
    obtain ⟨k, hk, rfl, hbel, hok⟩ := hrel
    have HO := Lib.hid hok
    clear hok
    by_cases hlt : k < ps.length
    · obtain ⟨b, off, rfl, hb, hc, hd⟩ := HI.out.below hbel (Nat.le_refl _) k hlt
      go_wp2_with fail
      refine (ref17_right _ _ _).mono ?_
      rintro e w1 ⟨rfl, rfl⟩
      have hb1 := hbel.alloc hbel.size (Obj.cells #[Value.int IntKind.i64 ps[k].1, Value.int IntKind.i64 ps[k].2] 30)
      clear hbel
      cases hr : Cd.right (ps[k].1, ps[k].2)
      · have hfin := Lib.hid (Cd.not_all hlt hr)
        clear hr
        go_wp2_with fail
        go_ret
        exact ⟨ret_bool (by rw [hfin.out]), hb1⟩
      · have HR := Lib.hid hr
        clear hr
        go_wp2_with fail
        go_roundw
        case rel => exact ⟨k + 1, by omega, by go_num, hb1, fun j hj hj2 => by rcases Nat.lt_succ_iff_lt_or_eq.1 hj2 with h | h; exact HO.out j hj h; subst h; exact HR.out⟩
        case measure => simp [intOf]; omega
    · obtain rfl : k = ps.length := by omega
      have hfin := Lib.hid (Cd.all_get (fun j hj => HO.out j hj hj))
      go_wp2_with fail
      go_ret
      exact ⟨ret_bool (by rw [hfin.out]), hbel⟩

set_option maxHeartbeats 400000 in
theorem code_count (A : Option Addr) (c : Nat) (ps : List (Int × Int)) (kind : Int) (w : World) (hl : ps.length ≤ 9223372036854775807) (hI : Pairs w A ps) :
    Calls Tryd.prog 21 #[.slice A ps.length c, .int .i64 kind] w fun e w' => e = .returned (.int .i64 (Cd.count kind ps)) ∧ Below w.heap.size w w' := by
  have HI := Lib.hid hI
  clear hI
  go_enter Tryd.func21, Tryd.ntmps21
  go_wp2_with fail
  go_loopw [5, 7, 10] (fun n _ i wr => ∃ k : Nat, k ≤ ps.length ∧ i = .int .i64 k ∧ Below w.heap.size w wr ∧ n = .int .i64 (Cd.count kind (ps.take k))) (fun _ _ i _ => ps.length - (intOf i).toNat)
  case atStart => exact ⟨0, Nat.zero_le _, rfl, Below.refl _ _, rfl⟩
  case round =>
    obtain ⟨k, hk, rfl, hbel, rfl⟩ := hrel
    by_cases hlt : k < ps.length
    · obtain ⟨b, off, rfl, hb, hc, hd⟩ := HI.out.below hbel (Nat.le_refl _) k hlt
      have ⟨hn0, hn1⟩ := Cd.count_bd kind (ps.take k)
      rw [List.length_take] at hn1
      have HS := Lib.hid (Cd.count_take_succ kind ps k hlt)
      have hb1 := hbel.alloc hbel.size (Obj.cells #[Value.int IntKind.i64 ps[k].1, Value.int IntKind.i64 ps[k].2] 30)
      clear hbel
      cases he : (ps[k].1 == kind)
      · go_wp2_with fail
        go_roundw
        case rel => exact ⟨k + 1, by omega, by go_num, hb1, by rw [HS.out, he]; simp⟩
        case measure => simp [intOf]; omega
      · go_wp2_with fail
        go_roundw
        case rel => exact ⟨k + 1, by omega, by go_num, hb1, by rw [HS.out, he]; simp⟩
        case measure => simp [intOf]; omega
    · obtain rfl : k = ps.length := by omega
      go_wp2_with fail
      go_ret
      exact ⟨ret_int (by rw [List.take_length]), hbel⟩



def flatTo (ps : List (Int × Int)) (k : Nat) : List Value := (Cd.flat (ps.take k)).map (Value.int .u8)
theorem flatTo_zero (ps : List (Int × Int)) : flatTo ps 0 = [] := by simp [flatTo, Cd.flat]
theorem flatTo_succ (ps : List (Int × Int)) (k : Nat) (h : k < ps.length) : flatTo ps (k + 1) = flatTo ps k ++ [.int .u8 ps[k].1, .int .u8 (ps[k].2 / 256), .int .u8 (ps[k].2 % 256)] := by
  unfold flatTo
  rw [Cd.flat_take_succ ps k h]; simp
theorem three_new (w : World) (t : TypeId) (x y z : Value) : ∀ (j : Nat) (u : Value), [x, y, z][j]? = some u → (w.alloc (.cells #[x, y, z] t)).cell? (Addr.add ⟨w.heap.size, 0, none⟩ j) = some u := by
  intro j u hj
  match j, hj with
  | 0, hj => simp at hj; subst hj; simp [Addr.add]
  | 1, hj => simp at hj; subst hj; simp [Addr.add]
  | 2, hj => simp at hj; subst hj; simp [Addr.add]

def BytesPost (ps : List (Int × Int)) (w : World) (e : Ending) (w' : World) : Prop :=
  ∃ A c, e = .returned (.tuple #[.slice A (Cd.bytes ps).length c, .int .i64 (Cd.check ps)]) ∧ Ints .u8 w' A (Cd.bytes ps) ∧ Below w.heap.size w w'

set_option maxHeartbeats 800000 in
theorem code_bytes (A : Option Addr) (c : Nat) (ps : List (Int × Int)) (w : World) (hl : ps.length ≤ 9223372036854775807) (hI : Pairs w A ps) :
    Calls Tryd.prog 9 #[.slice A ps.length c] w (BytesPost ps w) := by
  have HI := Lib.hid hI
  clear hI
  by_cases hck : Cd.check ps = 0
  · have hfin := Lib.hid (Cd.bytes_ok hck)
    have ⟨hlen, hall⟩ := Cd.check_zero hck
    have HA := Lib.hid hall
    have HC := Lib.hid hck
    clear hck hall
    obtain ⟨i0, hi, hz0, hz1, hz2⟩ := info_parts byte_info
    go_enter Tryd.func9, Tryd.ntmps9
    go_wp2_with fail
    refine (code_check A c ps _ hl HI.out).mono ?_
    rintro e w1 ⟨rfl, h1⟩
    rw [HC.out]
    have hb1 := h1.size
    go_wp2_with (at_make; refine wpList_make_own _ rfl _ _ 25 rfl w.heap.size 5 i0 (.int .u8 0) 1 Tryd.underlying25 hi hz0 hz1 _ _ _ (3 * ps.length) rfl rfl (by omega) ?b2 ?b3 (by omega) ?_)
    case b2 => rw [hz2]; omega
    case b3 => unfold maxLen; omega
    intro w2 hown hgrow
    have hb2 : Below w.heap.size w w2 := h1.grown hgrow hb1 (by simp)
    clear h1 hgrow
    go_wp2_with fail
    go_loopw [5, 7, 19] (fun v _ i wr => ∃ k : Nat, k ≤ ps.length ∧ i = .int .i64 k ∧ wr.ownsRow w.heap.size 5 1 v (3 * k) (flatTo ps k) ∧ Below w.heap.size w wr) (fun _ _ i _ => ps.length - (intOf i).toNat)
    case atStart => exact ⟨0, Nat.zero_le _, rfl, by rw [flatTo_zero]; exact hown, hb2⟩
    case round =>
      clear hown hb2
      obtain ⟨k, hk, rfl, hown, hbel⟩ := hrel
      by_cases hlt : k < ps.length
      · obtain ⟨b, off, rfl, hb, hc, hd⟩ := HI.out.below hbel (Nat.le_refl _) k hlt
        have ⟨hr1, hr2, hr3, hr4⟩ := Cd.right_bd (Cd.all_of HA.out k hlt)
        have HR := Lib.hid (flatTo_succ ps k hlt)
        go_wp2_with (at_builtin; refine wpList_append_own _ rfl _ _ 25 rfl w.heap.size 5 i0 (.int .u8 0) 1 1 Tryd.underlying25 hi hz0 hz1 hz2 rfl (by decide) _ _ _ rfl ((hown.alloc _).alloc _) ⟨wr.heap.size + 1, 0, none⟩ 3 3 [.int .u8 ps[k].1, .int .u8 (ps[k].2 / 256), .int .u8 (ps[k].2 % 256)] rfl rfl ?c1 ?c2 ?c3 ?c4 ?c5 ?_)
        case c1 => have := three_new (wr.alloc (Obj.cells #[Value.int IntKind.i64 ps[k].1, Value.int IntKind.i64 ps[k].2] 30)) 5 (.int .u8 ps[k].1) (.int .u8 (ps[k].2 / 256)) (.int .u8 (ps[k].2 % 256)); rw [World.size_alloc] at this; exact this
        case c2 => intro u hu; simp at hu; rcases hu with rfl | rfl | rfl <;> rfl
        case c3 => unfold maxLen; omega
        case c4 => omega
        case c5 => have := hbel.size; simp; omega
        · intro v' w3 hown' hgrow _
          have hb3 : Below w.heap.size w w3 := ((hbel.alloc hbel.size _).alloc (by have := hbel.size; simp; omega) _).grown hgrow (by have := hbel.size; simp; omega) (fun g hg => (hown.lt g hg).1)
          have ho3 : w3.ownsRow w.heap.size 5 1 v' (3 * (k + 1)) (flatTo ps (k + 1)) := by
            rw [HR.out]; exact hown'
          clear hown' hgrow hown hbel
          go_wp2_with fail
          go_roundw
          case rel => exact ⟨k + 1, by omega, by go_num, ho3, hb3⟩
          case measure => simp [intOf]; omega
      · obtain rfl : k = ps.length := by omega
        unfold flatTo at hown
        rw [List.take_length] at hown
        obtain ⟨A', c', hv, hn, hI'⟩ := Ints.of_own hown
        subst hv
        clear hown hn
        have HI' := Lib.hid hI'
        clear hI'
        generalize Cd.flat ps = fs at HI' hfin
        go_wp2_with fail
        go_ret2
        exact ⟨A', c', by rw [hfin.out, HC.out]; rfl, by rw [hfin.out]; exact HI'.out, hbel⟩
  · have hfin := Lib.hid (Cd.bytes_bad hck)
    have hne : (Cd.check ps != 0) = true := by simp [hck]
    clear hck
    go_enter Tryd.func9, Tryd.ntmps9
    go_wp2_with fail
    refine (code_check A c ps _ hl HI.out).mono ?_
    rintro e w1 ⟨rfl, h1⟩
    go_wp2_with fail
    go_ret2
    exact ⟨none, 0, by rw [hfin.out]; rfl, by rw [hfin.out]; exact Ints.nil, h1⟩
end Go.Proofs.YtklngiikgnmdeaaDoor
